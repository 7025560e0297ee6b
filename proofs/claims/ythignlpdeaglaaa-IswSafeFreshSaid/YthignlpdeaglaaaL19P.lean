/-
  That the program's functions are these. Printed by gen.py.
-/
import Derived.Test.YthignlpdeaglaaaL19F
import Derived.Test.YthignlpdeaglaaaIrP
import Derived.Test.YthignlpdeaglaaaIxP
import Derived.Test.YthignlpdeaglaaaLoP
set_option linter.unusedSimpArgs false
set_option linter.unusedVariables false
namespace Go.Abs
namespace law19_safe
noncomputable def code : Code := match Go.Proofs.Try.f28.body with | some c => c | none => .skip
def K : Nat → List Nat
  | 0 => [1, 3, 5]
  | 1 => [1, 3, 5, 7, 8]
  | 2 => [1, 3, 5, 7, 8, 9]
  | 3 => [1, 3, 5, 7, 8, 9, 22]
  | 5 => [1, 3, 5, 7, 8, 9, 10]
  | 6 => [1, 3, 5, 7, 8, 9, 10, 11]
  | 7 => [1, 3, 5, 7, 8, 9, 10, 11, 12]
  | 8 => [1, 3, 5, 7, 8, 9, 10, 11, 12, 40]
  | 10 => [1, 3, 5, 7, 8, 9, 10, 11, 12]
  | 9 => [1, 3, 5, 7, 8, 9, 10, 11, 12]
  | 11 => [1, 3, 5, 7, 8, 9, 10, 11, 13]
  | 12 => [1, 3, 5, 7, 8, 9, 10, 11, 13, 14]
  | 13 => [1, 3, 5, 7, 8, 9, 10, 11, 13, 14, 56]
  | 15 => [1, 3, 5, 7, 8, 9, 10, 11, 13, 14]
  | 14 => [1, 3, 5, 7, 8, 9, 10, 11, 13, 14]
  | 16 => [1, 3, 5, 7, 8, 9, 10, 73]
  | 17 => [1, 3, 5, 7, 8, 9, 10]
  | 18 => [1, 3, 5, 7, 8, 9]
  | 4 => [1, 3, 5, 7, 8, 9]
  | 19 => [1, 8, 15]
  | 20 => [1, 8, 15, 16]
  | 21 => [1, 8, 15, 16, 86]
  | 23 => [1, 8, 15, 16, 17]
  | 24 => [1, 8, 15, 16, 17, 18]
  | 25 => [1, 8, 15, 16, 17, 18, 93]
  | 27 => [1, 8, 15, 16, 17, 18, 101]
  | 28 => [1, 8, 15, 16, 17, 18]
  | 26 => [1, 8, 15, 16, 17, 18]
  | 29 => [1, 8, 15, 16, 106]
  | 30 => [6]
  | 22 => [1, 8, 15, 16]
  | 31 => [6]
  | _ => []
noncomputable def CC : Tab := C ref19_Matter.spec
theorem CS : CC.Sound Go.Proofs.Try.prog := (Tab.Sound.none.add ref19_Matter.sound)
theorem body_eq (s0 : SpecP) (fr : AFr) (H : AHeap) : acode Go.Proofs.Try.prog (C s0) (draws Go.Proofs.Try.prog (C s0)) K code fr H = body s0 fr H := by kernel_rfl
theorem callable : Callable Go.Proofs.Try.prog 28 := fun args w => Go.Proofs.Try.call28 args w
theorem hf : Go.Proofs.Try.prog.funcs[28]? = some Go.Proofs.Try.f28 := Go.Proofs.Try.func28
theorem hb : Go.Proofs.Try.f28.body = some code := by kernel_rfl
theorem hok : codeOk Go.Proofs.Try.f28.ntmps code = true := by kernel_rfl
theorem run_eq (a0 a1 a2 : AV) : pureOf Go.Proofs.Try.prog CC (draws Go.Proofs.Try.prog CC) K Go.Proofs.Try.f28 code [a0, a1, a2] = law19_safe a0 a1 a2 := by
  unfold pureOf arun
  rw [if_pos (show [a0, a1, a2].length ≤ Go.Proofs.Try.f28.ntmps from (by decide +kernel : 3 ≤ Go.Proofs.Try.f28.ntmps))]
  unfold afin
  rw [show acode Go.Proofs.Try.prog CC (draws Go.Proofs.Try.prog CC) K code (args0 [a0, a1, a2]) AHeap.empty = body ref19_Matter.spec (args0 [a0, a1, a2]) AHeap.empty from body_eq ref19_Matter.spec _ _]
  kernel_rfl
theorem sound : Sound Go.Proofs.Try.prog 28 (.pure false spec) := by
  refine (sound_pure CS Mixed (draws _ _) K hf hb hok callable).less fun args r h => ?_
  unfold spec at h
  split at h
  · rw [run_eq]; exact h
  · cases h
end law19_safe
namespace law19_lives
noncomputable def code : Code := match Go.Proofs.Try.f29.body with | some c => c | none => .skip
def K : Nat → List Nat
  | 0 => []
  | 1 => [1, 2]
  | 2 => [0]
  | _ => []
noncomputable def CC : Tab := C isw_And.spec isw_Randoms.spec
theorem CS : CC.Sound Go.Proofs.Try.prog := ((Tab.Sound.none.add isw_And.sound).add isw_Randoms.sound)
theorem body_eq (s0 s1 : SpecP) (fr : AFr) (H : AHeap) : acode Go.Proofs.Try.prog (C s0 s1) (draws Go.Proofs.Try.prog (C s0 s1)) K code fr H = body s0 s1 fr H := by kernel_rfl
theorem callable : Callable Go.Proofs.Try.prog 29 := fun args w => Go.Proofs.Try.call29 args w
theorem hf : Go.Proofs.Try.prog.funcs[29]? = some Go.Proofs.Try.f29 := Go.Proofs.Try.func29
theorem hb : Go.Proofs.Try.f29.body = some code := by kernel_rfl
theorem hok : codeOk Go.Proofs.Try.f29.ntmps code = true := by kernel_rfl
theorem run_eq : pureOf Go.Proofs.Try.prog CC (draws Go.Proofs.Try.prog CC) K Go.Proofs.Try.f29 code [] = law19_lives := by
  unfold pureOf arun
  rw [if_pos (show [].length ≤ Go.Proofs.Try.f29.ntmps from (by decide +kernel : 0 ≤ Go.Proofs.Try.f29.ntmps))]
  unfold afin
  rw [show acode Go.Proofs.Try.prog CC (draws Go.Proofs.Try.prog CC) K code (args0 []) AHeap.empty = body isw_And.spec isw_Randoms.spec (args0 []) AHeap.empty from body_eq isw_And.spec isw_Randoms.spec _ _]
  kernel_rfl
theorem sound : Sound Go.Proofs.Try.prog 29 (.pure false spec) := by
  refine (sound_pure CS Mixed (draws _ _) K hf hb hok callable).less fun args r h => ?_
  unfold spec at h
  split at h
  · rw [run_eq]; exact h
  · cases h
end law19_lives
namespace law19_IswSafeAnd
noncomputable def code : Code := match Go.Proofs.Try.f8.body with | some c => c | none => .skip
def K : Nat → List Nat
  | 0 => [0, 3]
  | 1 => [0, 3, 5]
  | 2 => [3, 5, 8]
  | 3 => [3, 5]
  | 4 => [3, 5, 6, 7]
  | 5 => [4]
  | _ => []
noncomputable def CC : Tab := C isw_And.spec ref19_Can.spec ref19_Randoms.spec law19_safe.spec law19_lives.spec
theorem CS : CC.Sound Go.Proofs.Try.prog := (((((Tab.Sound.none.add isw_And.sound).add ref19_Can.sound).add ref19_Randoms.sound).add law19_safe.sound).add law19_lives.sound)
theorem body_eq (s0 s1 s2 s3 s4 : SpecP) (fr : AFr) (H : AHeap) : acode Go.Proofs.Try.prog (C s0 s1 s2 s3 s4) (draws Go.Proofs.Try.prog (C s0 s1 s2 s3 s4)) K code fr H = body s0 s1 s2 s3 s4 fr H := by kernel_rfl
theorem callable : Callable Go.Proofs.Try.prog 8 := fun args w => Go.Proofs.Try.call8 args w
theorem hf : Go.Proofs.Try.prog.funcs[8]? = some Go.Proofs.Try.f8 := Go.Proofs.Try.func8
theorem hb : Go.Proofs.Try.f8.body = some code := by kernel_rfl
theorem hok : codeOk Go.Proofs.Try.f8.ntmps code = true := by kernel_rfl
theorem run_eq (a0 a1 : AV) : pureOf Go.Proofs.Try.prog CC (draws Go.Proofs.Try.prog CC) K Go.Proofs.Try.f8 code [a0, a1] = law19_IswSafeAnd a0 a1 := by
  unfold pureOf arun
  rw [if_pos (show [a0, a1].length ≤ Go.Proofs.Try.f8.ntmps from (by decide +kernel : 2 ≤ Go.Proofs.Try.f8.ntmps))]
  unfold afin
  rw [show acode Go.Proofs.Try.prog CC (draws Go.Proofs.Try.prog CC) K code (args0 [a0, a1]) AHeap.empty = body isw_And.spec ref19_Can.spec ref19_Randoms.spec law19_safe.spec law19_lives.spec (args0 [a0, a1]) AHeap.empty from body_eq isw_And.spec ref19_Can.spec ref19_Randoms.spec law19_safe.spec law19_lives.spec _ _]
  kernel_rfl
theorem sound : Sound Go.Proofs.Try.prog 8 (.pure false spec) := by
  refine (sound_pure CS Mixed (draws _ _) K hf hb hok callable).less fun args r h => ?_
  unfold spec at h
  split at h
  · rw [run_eq]; exact h
  · cases h
end law19_IswSafeAnd
namespace law19_IswSafeFresh
noncomputable def code : Code := match Go.Proofs.Try.f9.body with | some c => c | none => .skip
def K : Nat → List Nat
  | 0 => [0, 3]
  | 1 => [3, 5]
  | 2 => [3, 5, 6, 7]
  | 3 => [4]
  | _ => []
noncomputable def CC : Tab := C isw_Refresh.spec ref19_Can.spec ref19_Randoms.spec law19_safe.spec law19_lives.spec
theorem CS : CC.Sound Go.Proofs.Try.prog := (((((Tab.Sound.none.add isw_Refresh.sound).add ref19_Can.sound).add ref19_Randoms.sound).add law19_safe.sound).add law19_lives.sound)
theorem body_eq (s0 s1 s2 s3 s4 : SpecP) (fr : AFr) (H : AHeap) : acode Go.Proofs.Try.prog (C s0 s1 s2 s3 s4) (draws Go.Proofs.Try.prog (C s0 s1 s2 s3 s4)) K code fr H = body s0 s1 s2 s3 s4 fr H := by kernel_rfl
theorem callable : Callable Go.Proofs.Try.prog 9 := fun args w => Go.Proofs.Try.call9 args w
theorem hf : Go.Proofs.Try.prog.funcs[9]? = some Go.Proofs.Try.f9 := Go.Proofs.Try.func9
theorem hb : Go.Proofs.Try.f9.body = some code := by kernel_rfl
theorem hok : codeOk Go.Proofs.Try.f9.ntmps code = true := by kernel_rfl
theorem run_eq (a0 a1 : AV) : pureOf Go.Proofs.Try.prog CC (draws Go.Proofs.Try.prog CC) K Go.Proofs.Try.f9 code [a0, a1] = law19_IswSafeFresh a0 a1 := by
  unfold pureOf arun
  rw [if_pos (show [a0, a1].length ≤ Go.Proofs.Try.f9.ntmps from (by decide +kernel : 2 ≤ Go.Proofs.Try.f9.ntmps))]
  unfold afin
  rw [show acode Go.Proofs.Try.prog CC (draws Go.Proofs.Try.prog CC) K code (args0 [a0, a1]) AHeap.empty = body isw_Refresh.spec ref19_Can.spec ref19_Randoms.spec law19_safe.spec law19_lives.spec (args0 [a0, a1]) AHeap.empty from body_eq isw_Refresh.spec ref19_Can.spec ref19_Randoms.spec law19_safe.spec law19_lives.spec _ _]
  kernel_rfl
theorem sound : Sound Go.Proofs.Try.prog 9 (.pure false spec) := by
  refine (sound_pure CS Mixed (draws _ _) K hf hb hok callable).less fun args r h => ?_
  unfold spec at h
  split at h
  · rw [run_eq]; exact h
  · cases h
end law19_IswSafeFresh
end Go.Abs

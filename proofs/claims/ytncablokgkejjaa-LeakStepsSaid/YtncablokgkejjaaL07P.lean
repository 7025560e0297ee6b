/-
  That the program's functions are these. Printed by gen.py.
-/
import Derived.Test.YtncablokgkejjaaL07F
import Derived.Test.YtncablokgkejjaaLoP
import Derived.Test.YtncablokgkejjaaLeP
import Derived.Test.YtncablokgkejjaaLrP
import Derived.Test.YtncablokgkejjaaCoP
set_option linter.unusedSimpArgs false
set_option linter.unusedVariables false
namespace Go.Abs
namespace law07_lives
noncomputable def code : Code := match Go.Proofs.Try.f29.body with | some c => c | none => .skip
def K : Nat → List Nat
  | 0 => []
  | 1 => [2, 4]
  | 2 => [0]
  | _ => []
noncomputable def CC : Tab := C mem_New.spec leak_Step.spec
theorem CS : CC.Sound Go.Proofs.Try.prog := ((Tab.Sound.none.add mem_New.sound).add leak_Step.sound)
theorem body_eq (s0 s1 : SpecM) (fr : AFr) (H : AHeap) : acode Go.Proofs.Try.prog (C s0 s1) (draws Go.Proofs.Try.prog (C s0 s1)) K code fr H = body s0 s1 fr H := by kernel_rfl
theorem callable : Callable Go.Proofs.Try.prog 29 := fun args w => Go.Proofs.Try.call29 args w
theorem hf : Go.Proofs.Try.prog.funcs[29]? = some Go.Proofs.Try.f29 := Go.Proofs.Try.func29
theorem hb : Go.Proofs.Try.f29.body = some code := by kernel_rfl
theorem hok : codeOk Go.Proofs.Try.f29.ntmps code = true := by kernel_rfl
theorem run_eq : pureOf Go.Proofs.Try.prog CC (draws Go.Proofs.Try.prog CC) K Go.Proofs.Try.f29 code [] = law07_lives := by
  unfold pureOf arun
  rw [if_pos (show [].length ≤ Go.Proofs.Try.f29.ntmps from (by decide +kernel : 0 ≤ Go.Proofs.Try.f29.ntmps))]
  unfold afin
  rw [show acode Go.Proofs.Try.prog CC (draws Go.Proofs.Try.prog CC) K code (args0 []) AHeap.empty = body mem_New.spec leak_Step.spec (args0 []) AHeap.empty from body_eq mem_New.spec leak_Step.spec _ _]
  kernel_rfl
theorem sound : Sound Go.Proofs.Try.prog 29 (.pure false spec) := by
  refine (sound_pure CS Mixed (draws _ _) K hf hb hok callable).less fun args r h => ?_
  unfold spec at h
  split at h
  · rw [run_eq]; exact h
  · cases h
end law07_lives
namespace law07_both
noncomputable def code : Code := match Go.Proofs.Try.f33.body with | some c => c | none => .skip
def K : Nat → List Nat
  | 0 => [0, 3]
  | 1 => [3, 6, 7]
  | 2 => [3, 6, 7, 18]
  | 3 => [4, 5]
  | 4 => [3, 6, 7, 8]
  | 5 => [3, 6, 7, 8, 21]
  | 7 => [3, 6, 7, 8]
  | 8 => [3, 6, 7, 8]
  | 6 => [3, 6, 7, 8]
  | 9 => [4, 5]
  | _ => []
noncomputable def CC : Tab := C mem_New.spec ref05_New.spec mem_Mem_Set.spec
theorem CS : CC.Sound Go.Proofs.Try.prog := (((Tab.Sound.none.add mem_New.sound).add ref05_New.sound).add mem_Mem_Set.sound)
theorem body_eq (s0 s1 s2 : SpecM) (fr : AFr) (H : AHeap) : acode Go.Proofs.Try.prog (C s0 s1 s2) (draws Go.Proofs.Try.prog (C s0 s1 s2)) K code fr H = body s0 s1 s2 fr H := by kernel_rfl
theorem callable : Callable Go.Proofs.Try.prog 33 := fun args w => Go.Proofs.Try.call33 args w
theorem hf : Go.Proofs.Try.prog.funcs[33]? = some Go.Proofs.Try.f33 := Go.Proofs.Try.func33
theorem hb : Go.Proofs.Try.f33.body = some code := by kernel_rfl
theorem hok : codeOk Go.Proofs.Try.f33.ntmps code = true := by kernel_rfl
theorem run_eq (a0 a1 : AV) (H : AHeap) : refOf Go.Proofs.Try.prog CC (draws Go.Proofs.Try.prog CC) K Go.Proofs.Try.f33 code [a0, a1] H = law07_both a0 a1 H := by
  unfold refOf arun
  rw [if_pos (show [a0, a1].length ≤ Go.Proofs.Try.f33.ntmps from (by decide +kernel : 2 ≤ Go.Proofs.Try.f33.ntmps))]
  unfold afin
  rw [show acode Go.Proofs.Try.prog CC (draws Go.Proofs.Try.prog CC) K code (args0 [a0, a1]) H = body mem_New.spec ref05_New.spec mem_Mem_Set.spec (args0 [a0, a1]) H from body_eq mem_New.spec ref05_New.spec mem_Mem_Set.spec _ _]
  kernel_rfl
theorem sound : Sound Go.Proofs.Try.prog 33 (.ref [true, true] spec) := by
  refine (sound_ref CS Mixed (draws _ _) K hf hb hok callable [true, true]).lessR fun args H r h => ?_
  unfold spec at h
  split at h
  · rw [run_eq]; exact h
  · cases h
end law07_both
namespace law07_LeakSteps
noncomputable def code : Code := match Go.Proofs.Try.f8.body with | some c => c | none => .skip
def K : Nat → List Nat
  | 0 => [3, 4, 5]
  | 1 => [4, 5, 7, 8]
  | 2 => [4, 5, 7, 25]
  | 3 => [6]
  | 4 => [4, 5, 7]
  | 5 => [4, 9, 10]
  | 6 => [4, 9, 10, 36]
  | 7 => [6]
  | 8 => [4, 9, 10]
  | 9 => [4, 9, 10]
  | 10 => [4, 10, 11, 12, 13, 14]
  | 11 => [11, 12, 13, 14, 15, 16, 17, 18]
  | 12 => [6]
  | _ => []
noncomputable def CC : Tab := C ref02_Put.spec law07_lives.spec law07_both.spec mem_Mem_Load.spec ref05_Mem_Load.spec leak_Step.spec ref07_Step.spec
theorem CS : CC.Sound Go.Proofs.Try.prog := (((((((Tab.Sound.none.add ref02_Put.sound).add law07_lives.sound).add law07_both.sound).add mem_Mem_Load.sound).add ref05_Mem_Load.sound).add leak_Step.sound).add ref07_Step.sound)
theorem body_eq (s0 s1 : SpecP) (s2 s3 s4 s5 s6 : SpecM) (fr : AFr) (H : AHeap) : acode Go.Proofs.Try.prog (C s0 s1 s2 s3 s4 s5 s6) (draws Go.Proofs.Try.prog (C s0 s1 s2 s3 s4 s5 s6)) K code fr H = body s0 s1 s2 s3 s4 s5 s6 fr H := by kernel_rfl
theorem callable : Callable Go.Proofs.Try.prog 8 := fun args w => Go.Proofs.Try.call8 args w
theorem hf : Go.Proofs.Try.prog.funcs[8]? = some Go.Proofs.Try.f8 := Go.Proofs.Try.func8
theorem hb : Go.Proofs.Try.f8.body = some code := by kernel_rfl
theorem hok : codeOk Go.Proofs.Try.f8.ntmps code = true := by kernel_rfl
theorem run_eq (a0 a1 a2 : AV) : pureOf Go.Proofs.Try.prog CC (draws Go.Proofs.Try.prog CC) K Go.Proofs.Try.f8 code [a0, a1, a2] = law07_LeakSteps a0 a1 a2 := by
  unfold pureOf arun
  rw [if_pos (show [a0, a1, a2].length ≤ Go.Proofs.Try.f8.ntmps from (by decide +kernel : 3 ≤ Go.Proofs.Try.f8.ntmps))]
  unfold afin
  rw [show acode Go.Proofs.Try.prog CC (draws Go.Proofs.Try.prog CC) K code (args0 [a0, a1, a2]) AHeap.empty = body ref02_Put.spec law07_lives.spec law07_both.spec mem_Mem_Load.spec ref05_Mem_Load.spec leak_Step.spec ref07_Step.spec (args0 [a0, a1, a2]) AHeap.empty from body_eq ref02_Put.spec law07_lives.spec law07_both.spec mem_Mem_Load.spec ref05_Mem_Load.spec leak_Step.spec ref07_Step.spec _ _]
  kernel_rfl
theorem sound : Sound Go.Proofs.Try.prog 8 (.pure false spec) := by
  refine (sound_pure CS Mixed (draws _ _) K hf hb hok callable).less fun args r h => ?_
  unfold spec at h
  split at h
  · rw [run_eq]; exact h
  · cases h
end law07_LeakSteps
end Go.Abs

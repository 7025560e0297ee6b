/-
  That the program's functions are these. Printed by gen.py.
-/
import Derived.Test.YthignlpdeaglaaaL19F
import Derived.Test.YthignlpdeaglaaaIrP
import Derived.Test.YthignlpdeaglaaaIxP
import Derived.Test.YthignlpdeaglaaaLoP
set_option linter.unusedSimpArgs false
set_option linter.unusedVariables false
namespace Go.Abs
namespace law19_safe
noncomputable def code : Code := match Go.Proofs.Try.f28.body with | some c => c | none => .skip
end law19_safe
namespace law19_lives
noncomputable def code : Code := match Go.Proofs.Try.f29.body with | some c => c | none => .skip
def K : Nat → List Nat
  | 0 => []
  | 1 => [1, 2]
  | 2 => [0]
  | _ => []
noncomputable def CC : Tab := C isw_And.spec isw_Randoms.spec
theorem CS : CC.Sound Go.Proofs.Try.prog := ((Tab.Sound.none.add isw_And.sound).add isw_Randoms.sound)
theorem body_eq (s0 s1 : SpecP) (fr : AFr) (H : AHeap) : acode Go.Proofs.Try.prog (C s0 s1) (draws Go.Proofs.Try.prog (C s0 s1)) K code fr H = body s0 s1 fr H := by kernel_rfl
theorem callable : Callable Go.Proofs.Try.prog 29 := fun args w => Go.Proofs.Try.call29 args w
theorem hf : Go.Proofs.Try.prog.funcs[29]? = some Go.Proofs.Try.f29 := Go.Proofs.Try.func29
theorem hb : Go.Proofs.Try.f29.body = some code := by kernel_rfl
theorem hok : codeOk Go.Proofs.Try.f29.ntmps code = true := by kernel_rfl
theorem run_eq : pureOf Go.Proofs.Try.prog CC (draws Go.Proofs.Try.prog CC) K Go.Proofs.Try.f29 code [] = law19_lives := by
  unfold pureOf arun
  rw [if_pos (show [].length ≤ Go.Proofs.Try.f29.ntmps from (by decide +kernel : 0 ≤ Go.Proofs.Try.f29.ntmps))]
  unfold afin
  rw [show acode Go.Proofs.Try.prog CC (draws Go.Proofs.Try.prog CC) K code (args0 []) AHeap.empty = body isw_And.spec isw_Randoms.spec (args0 []) AHeap.empty from body_eq isw_And.spec isw_Randoms.spec _ _]
  kernel_rfl
theorem sound : Sound Go.Proofs.Try.prog 29 (.pure false spec) := by
  refine (sound_pure CS Mixed (draws _ _) K hf hb hok callable).less fun args r h => ?_
  unfold spec at h
  split at h
  · rw [run_eq]; exact h
  · cases h
end law19_lives
namespace law19_IswSafeFresh
def K : Nat → List Nat
  | 0 => [0, 3]
  | 1 => [3, 5]
  | 2 => [3, 5, 6, 7]
  | 3 => [4]
  | _ => []
end law19_IswSafeFresh
namespace law19_IswCodes
noncomputable def code : Code := match Go.Proofs.Try.f10.body with | some c => c | none => .skip
def K : Nat → List Nat
  | 0 => [0]
  | 1 => [0, 3, 4]
  | 2 => [0, 3, 4, 5, 6]
  | 3 => [0, 3, 4, 5, 6, 7, 8]
  | 4 => [0, 3, 4, 5, 6, 7, 8, 9, 10]
  | 5 => [0, 3, 4, 7, 50]
  | 6 => [2]
  | 7 => [0, 3, 7, 52]
  | 8 => [2]
  | 9 => [2]
  | _ => []
noncomputable def CC : Tab := C isw_And.spec ref19_Gadget.spec isw_Refresh.spec ref19_Same.spec law19_lives.spec isw_Can.spec isw_Randoms.spec
theorem CS : CC.Sound Go.Proofs.Try.prog := (((((((Tab.Sound.none.add isw_And.sound).add ref19_Gadget.sound).add isw_Refresh.sound).add ref19_Same.sound).add law19_lives.sound).add isw_Can.sound).add isw_Randoms.sound)
theorem body_eq (s0 s1 s2 s3 s4 s5 s6 : SpecP) (fr : AFr) (H : AHeap) : acode Go.Proofs.Try.prog (C s0 s1 s2 s3 s4 s5 s6) (draws Go.Proofs.Try.prog (C s0 s1 s2 s3 s4 s5 s6)) K code fr H = body s0 s1 s2 s3 s4 s5 s6 fr H := by kernel_rfl
theorem callable : Callable Go.Proofs.Try.prog 10 := fun args w => Go.Proofs.Try.call10 args w
theorem hf : Go.Proofs.Try.prog.funcs[10]? = some Go.Proofs.Try.f10 := Go.Proofs.Try.func10
theorem hb : Go.Proofs.Try.f10.body = some code := by kernel_rfl
theorem hok : codeOk Go.Proofs.Try.f10.ntmps code = true := by kernel_rfl
theorem run_eq (a0 : AV) : pureOf Go.Proofs.Try.prog CC (draws Go.Proofs.Try.prog CC) K Go.Proofs.Try.f10 code [a0] = law19_IswCodes a0 := by
  unfold pureOf arun
  rw [if_pos (show [a0].length ≤ Go.Proofs.Try.f10.ntmps from (by decide +kernel : 1 ≤ Go.Proofs.Try.f10.ntmps))]
  unfold afin
  rw [show acode Go.Proofs.Try.prog CC (draws Go.Proofs.Try.prog CC) K code (args0 [a0]) AHeap.empty = body isw_And.spec ref19_Gadget.spec isw_Refresh.spec ref19_Same.spec law19_lives.spec isw_Can.spec isw_Randoms.spec (args0 [a0]) AHeap.empty from body_eq isw_And.spec ref19_Gadget.spec isw_Refresh.spec ref19_Same.spec law19_lives.spec isw_Can.spec isw_Randoms.spec _ _]
  kernel_rfl
theorem sound : Sound Go.Proofs.Try.prog 10 (.pure false spec) := by
  refine (sound_pure CS Mixed (draws _ _) K hf hb hok callable).less fun args r h => ?_
  unfold spec at h
  split at h
  · rw [run_eq]; exact h
  · cases h
end law19_IswCodes
namespace law19_Small
noncomputable def code : Code := match Go.Proofs.Try.f35.body with | some c => c | none => .skip
def K : Nat → List Nat
  | 0 => [1]
  | 1 => [2]
  | _ => []
noncomputable def CC : Tab := C
theorem CS : CC.Sound Go.Proofs.Try.prog := Tab.Sound.none
theorem body_eq (fr : AFr) (H : AHeap) : acode Go.Proofs.Try.prog C (draws Go.Proofs.Try.prog C) K code fr H = body fr H := by kernel_rfl
theorem callable : Callable Go.Proofs.Try.prog 35 := fun args w => Go.Proofs.Try.call35 args w
theorem hf : Go.Proofs.Try.prog.funcs[35]? = some Go.Proofs.Try.f35 := Go.Proofs.Try.func35
theorem hb : Go.Proofs.Try.f35.body = some code := by kernel_rfl
theorem hok : codeOk Go.Proofs.Try.f35.ntmps code = true := by kernel_rfl
theorem run_eq (a0 : AV) : pureOf Go.Proofs.Try.prog CC (draws Go.Proofs.Try.prog CC) K Go.Proofs.Try.f35 code [a0] = law19_Small a0 := by
  unfold pureOf arun
  rw [if_pos (show [a0].length ≤ Go.Proofs.Try.f35.ntmps from (by decide +kernel : 1 ≤ Go.Proofs.Try.f35.ntmps))]
  unfold afin
  rw [show acode Go.Proofs.Try.prog CC (draws Go.Proofs.Try.prog CC) K code (args0 [a0]) AHeap.empty = body (args0 [a0]) AHeap.empty from body_eq _ _]
  kernel_rfl
theorem sound : Sound Go.Proofs.Try.prog 35 (.pure false spec) := by
  refine (sound_pure CS Mixed (draws _ _) K hf hb hok callable).less fun args r h => ?_
  unfold spec at h
  split at h
  · rw [run_eq]; exact h
  · cases h
end law19_Small
namespace law19_short
noncomputable def code : Code := match Go.Proofs.Try.f36.body with | some c => c | none => .skip
def K : Nat → List Nat
  | 0 => [0]
  | 1 => [0, 5]
  | 2 => [0]
  | 3 => [2]
  | _ => []
noncomputable def CC : Tab := C
theorem CS : CC.Sound Go.Proofs.Try.prog := Tab.Sound.none
theorem body_eq (fr : AFr) (H : AHeap) : acode Go.Proofs.Try.prog C (draws Go.Proofs.Try.prog C) K code fr H = body fr H := by kernel_rfl
theorem callable : Callable Go.Proofs.Try.prog 36 := fun args w => Go.Proofs.Try.call36 args w
theorem hf : Go.Proofs.Try.prog.funcs[36]? = some Go.Proofs.Try.f36 := Go.Proofs.Try.func36
theorem hb : Go.Proofs.Try.f36.body = some code := by kernel_rfl
theorem hok : codeOk Go.Proofs.Try.f36.ntmps code = true := by kernel_rfl
theorem run_eq (a0 : AV) : pureOf Go.Proofs.Try.prog CC (draws Go.Proofs.Try.prog CC) K Go.Proofs.Try.f36 code [a0] = law19_short a0 := by
  unfold pureOf arun
  rw [if_pos (show [a0].length ≤ Go.Proofs.Try.f36.ntmps from (by decide +kernel : 1 ≤ Go.Proofs.Try.f36.ntmps))]
  unfold afin
  rw [show acode Go.Proofs.Try.prog CC (draws Go.Proofs.Try.prog CC) K code (args0 [a0]) AHeap.empty = body (args0 [a0]) AHeap.empty from body_eq _ _]
  kernel_rfl
theorem sound : Sound Go.Proofs.Try.prog 36 (.pure false spec) := by
  refine (sound_pure CS Mixed (draws _ _) K hf hb hok callable).less fun args r h => ?_
  unfold spec at h
  split at h
  · rw [run_eq]; exact h
  · cases h
end law19_short
namespace law19_IswBegins
noncomputable def code : Code := match Go.Proofs.Try.f11.body with | some c => c | none => .skip
def K : Nat → List Nat
  | 0 => [2, 3, 4]
  | 1 => [2, 3, 7, 8]
  | 2 => [2, 3, 7, 8, 31]
  | 3 => [6]
  | 4 => [2, 3, 7, 8]
  | 5 => [3, 7, 8, 9]
  | 6 => [3, 7, 8, 9, 10, 11]
  | 7 => [3, 9, 10, 11, 12, 13]
  | 8 => [3, 9, 10, 12, 13, 67]
  | 9 => [6]
  | 10 => [6]
  | _ => []
noncomputable def CC : Tab := C law19_Small.spec ref19_Can.spec law19_lives.spec law19_short.spec ref19_Own.spec isw_Exec.spec ref05_Same.spec
theorem CS : CC.Sound Go.Proofs.Try.prog := (((((((Tab.Sound.none.add law19_Small.sound).add ref19_Can.sound).add law19_lives.sound).add law19_short.sound).add ref19_Own.sound).add isw_Exec.sound).add ref05_Same.sound)
theorem body_eq (s0 s1 s2 s3 s4 s5 s6 : SpecP) (fr : AFr) (H : AHeap) : acode Go.Proofs.Try.prog (C s0 s1 s2 s3 s4 s5 s6) (draws Go.Proofs.Try.prog (C s0 s1 s2 s3 s4 s5 s6)) K code fr H = body s0 s1 s2 s3 s4 s5 s6 fr H := by kernel_rfl
theorem callable : Callable Go.Proofs.Try.prog 11 := fun args w => Go.Proofs.Try.call11 args w
theorem hf : Go.Proofs.Try.prog.funcs[11]? = some Go.Proofs.Try.f11 := Go.Proofs.Try.func11
theorem hb : Go.Proofs.Try.f11.body = some code := by kernel_rfl
theorem hok : codeOk Go.Proofs.Try.f11.ntmps code = true := by kernel_rfl
theorem run_eq (a0 a1 a2 : AV) : pureOf Go.Proofs.Try.prog CC (draws Go.Proofs.Try.prog CC) K Go.Proofs.Try.f11 code [a0, a1, a2] = law19_IswBegins a0 a1 a2 := by
  unfold pureOf arun
  rw [if_pos (show [a0, a1, a2].length ≤ Go.Proofs.Try.f11.ntmps from (by decide +kernel : 3 ≤ Go.Proofs.Try.f11.ntmps))]
  unfold afin
  rw [show acode Go.Proofs.Try.prog CC (draws Go.Proofs.Try.prog CC) K code (args0 [a0, a1, a2]) AHeap.empty = body law19_Small.spec ref19_Can.spec law19_lives.spec law19_short.spec ref19_Own.spec isw_Exec.spec ref05_Same.spec (args0 [a0, a1, a2]) AHeap.empty from body_eq law19_Small.spec ref19_Can.spec law19_lives.spec law19_short.spec ref19_Own.spec isw_Exec.spec ref05_Same.spec _ _]
  kernel_rfl
theorem sound : Sound Go.Proofs.Try.prog 11 (.pure false spec) := by
  refine (sound_pure CS Mixed (draws _ _) K hf hb hok callable).less fun args r h => ?_
  unfold spec at h
  split at h
  · rw [run_eq]; exact h
  · cases h
end law19_IswBegins
namespace law19_IswExecs
noncomputable def code : Code := match Go.Proofs.Try.f12.body with | some c => c | none => .skip
def K : Nat → List Nat
  | 0 => [1, 2, 3]
  | 1 => [1, 2, 3, 13]
  | 2 => [6]
  | 3 => [1, 2, 3]
  | 4 => [1, 2, 3, 7, 8]
  | 5 => [3, 7, 8, 9, 10]
  | 6 => [6]
  | _ => []
noncomputable def CC : Tab := C law19_Small.spec law19_lives.spec law19_short.spec ref19_Own.spec isw_Exec.spec ref19_Exec.spec ref05_Same.spec isw_Can.spec ref19_Can.spec isw_Randoms.spec ref19_Randoms.spec isw_Outs.spec ref19_Outs.spec
theorem CS : CC.Sound Go.Proofs.Try.prog := (((((((((((((Tab.Sound.none.add law19_Small.sound).add law19_lives.sound).add law19_short.sound).add ref19_Own.sound).add isw_Exec.sound).add ref19_Exec.sound).add ref05_Same.sound).add isw_Can.sound).add ref19_Can.sound).add isw_Randoms.sound).add ref19_Randoms.sound).add isw_Outs.sound).add ref19_Outs.sound)
theorem body_eq (s0 s1 s2 s3 s4 s5 s6 s7 s8 s9 s10 s11 s12 : SpecP) (fr : AFr) (H : AHeap) : acode Go.Proofs.Try.prog (C s0 s1 s2 s3 s4 s5 s6 s7 s8 s9 s10 s11 s12) (draws Go.Proofs.Try.prog (C s0 s1 s2 s3 s4 s5 s6 s7 s8 s9 s10 s11 s12)) K code fr H = body s0 s1 s2 s3 s4 s5 s6 s7 s8 s9 s10 s11 s12 fr H := by kernel_rfl
theorem callable : Callable Go.Proofs.Try.prog 12 := fun args w => Go.Proofs.Try.call12 args w
theorem hf : Go.Proofs.Try.prog.funcs[12]? = some Go.Proofs.Try.f12 := Go.Proofs.Try.func12
theorem hb : Go.Proofs.Try.f12.body = some code := by kernel_rfl
theorem hok : codeOk Go.Proofs.Try.f12.ntmps code = true := by kernel_rfl
theorem run_eq (a0 a1 a2 : AV) : pureOf Go.Proofs.Try.prog CC (draws Go.Proofs.Try.prog CC) K Go.Proofs.Try.f12 code [a0, a1, a2] = law19_IswExecs a0 a1 a2 := by
  unfold pureOf arun
  rw [if_pos (show [a0, a1, a2].length ≤ Go.Proofs.Try.f12.ntmps from (by decide +kernel : 3 ≤ Go.Proofs.Try.f12.ntmps))]
  unfold afin
  rw [show acode Go.Proofs.Try.prog CC (draws Go.Proofs.Try.prog CC) K code (args0 [a0, a1, a2]) AHeap.empty = body law19_Small.spec law19_lives.spec law19_short.spec ref19_Own.spec isw_Exec.spec ref19_Exec.spec ref05_Same.spec isw_Can.spec ref19_Can.spec isw_Randoms.spec ref19_Randoms.spec isw_Outs.spec ref19_Outs.spec (args0 [a0, a1, a2]) AHeap.empty from body_eq law19_Small.spec law19_lives.spec law19_short.spec ref19_Own.spec isw_Exec.spec ref19_Exec.spec ref05_Same.spec isw_Can.spec ref19_Can.spec isw_Randoms.spec ref19_Randoms.spec isw_Outs.spec ref19_Outs.spec _ _]
  kernel_rfl
theorem sound : Sound Go.Proofs.Try.prog 12 (.pure false spec) := by
  refine (sound_pure CS Mixed (draws _ _) K hf hb hok callable).less fun args r h => ?_
  unfold spec at h
  split at h
  · rw [run_eq]; exact h
  · cases h
end law19_IswExecs
namespace law19_words
noncomputable def code : Code := match Go.Proofs.Try.f42.body with | some c => c | none => .skip
def K : Nat → List Nat
  | 0 => [0, 1, 2]
  | 1 => [0, 1, 2, 7]
  | 2 => [0, 1, 2, 7, 8]
  | 3 => [0, 1, 2, 7, 8, 12]
  | 5 => [0, 1, 2, 7, 8]
  | 4 => [0, 1, 2, 7, 8]
  | 6 => [6]
  | _ => []
noncomputable def CC : Tab := C ref18_At.spec
theorem CS : CC.Sound Go.Proofs.Try.prog := (Tab.Sound.none.add ref18_At.sound)
theorem body_eq (s0 : SpecP) (fr : AFr) (H : AHeap) : acode Go.Proofs.Try.prog (C s0) (draws Go.Proofs.Try.prog (C s0)) K code fr H = body s0 fr H := by kernel_rfl
theorem callable : Callable Go.Proofs.Try.prog 42 := fun args w => Go.Proofs.Try.call42 args w
theorem hf : Go.Proofs.Try.prog.funcs[42]? = some Go.Proofs.Try.f42 := Go.Proofs.Try.func42
theorem hb : Go.Proofs.Try.f42.body = some code := by kernel_rfl
theorem hok : codeOk Go.Proofs.Try.f42.ntmps code = true := by kernel_rfl
theorem run_eq (a0 a1 a2 : AV) : pureOf Go.Proofs.Try.prog CC (draws Go.Proofs.Try.prog CC) K Go.Proofs.Try.f42 code [a0, a1, a2] = law19_words a0 a1 a2 := by
  unfold pureOf arun
  rw [if_pos (show [a0, a1, a2].length ≤ Go.Proofs.Try.f42.ntmps from (by decide +kernel : 3 ≤ Go.Proofs.Try.f42.ntmps))]
  unfold afin
  rw [show acode Go.Proofs.Try.prog CC (draws Go.Proofs.Try.prog CC) K code (args0 [a0, a1, a2]) AHeap.empty = body ref18_At.spec (args0 [a0, a1, a2]) AHeap.empty from body_eq ref18_At.spec _ _]
  kernel_rfl
theorem sound : Sound Go.Proofs.Try.prog 42 (.pure false spec) := by
  refine (sound_pure CS Mixed (draws _ _) K hf hb hok callable).less fun args r h => ?_
  unfold spec at h
  split at h
  · rw [run_eq]; exact h
  · cases h
end law19_words
namespace law19_IswRight
noncomputable def code : Code := match Go.Proofs.Try.f13.body with | some c => c | none => .skip
def K : Nat → List Nat
  | 0 => [0, 1, 2]
  | 1 => [1, 2, 7]
  | 2 => [2, 7, 8, 9]
  | 3 => [2, 7, 8, 9]
  | 4 => [2, 7, 8, 9, 10, 11]
  | 5 => [2, 7, 8, 9, 10, 11, 12, 13]
  | 6 => [2, 7, 8, 9, 10, 12, 53]
  | 7 => [6]
  | 8 => [2, 7, 8, 9, 10, 12, 14, 15]
  | 9 => [7, 8, 9, 10, 12, 14, 15, 16, 17]
  | 10 => [6]
  | _ => []
noncomputable def CC : Tab := C law19_words.spec isw_And.spec isw_Refresh.spec isw_Exec.spec isw_Outs.spec ref18_Join.spec law19_lives.spec
theorem CS : CC.Sound Go.Proofs.Try.prog := (((((((Tab.Sound.none.add law19_words.sound).add isw_And.sound).add isw_Refresh.sound).add isw_Exec.sound).add isw_Outs.sound).add ref18_Join.sound).add law19_lives.sound)
theorem body_eq (s0 s1 s2 s3 s4 s5 s6 : SpecP) (fr : AFr) (H : AHeap) : acode Go.Proofs.Try.prog (C s0 s1 s2 s3 s4 s5 s6) (draws Go.Proofs.Try.prog (C s0 s1 s2 s3 s4 s5 s6)) K code fr H = body s0 s1 s2 s3 s4 s5 s6 fr H := by kernel_rfl
theorem callable : Callable Go.Proofs.Try.prog 13 := fun args w => Go.Proofs.Try.call13 args w
theorem hf : Go.Proofs.Try.prog.funcs[13]? = some Go.Proofs.Try.f13 := Go.Proofs.Try.func13
theorem hb : Go.Proofs.Try.f13.body = some code := by kernel_rfl
theorem hok : codeOk Go.Proofs.Try.f13.ntmps code = true := by kernel_rfl
theorem run_eq (a0 a1 a2 : AV) : pureOf Go.Proofs.Try.prog CC (draws Go.Proofs.Try.prog CC) K Go.Proofs.Try.f13 code [a0, a1, a2] = law19_IswRight a0 a1 a2 := by
  unfold pureOf arun
  rw [if_pos (show [a0, a1, a2].length ≤ Go.Proofs.Try.f13.ntmps from (by decide +kernel : 3 ≤ Go.Proofs.Try.f13.ntmps))]
  unfold afin
  rw [show acode Go.Proofs.Try.prog CC (draws Go.Proofs.Try.prog CC) K code (args0 [a0, a1, a2]) AHeap.empty = body law19_words.spec isw_And.spec isw_Refresh.spec isw_Exec.spec isw_Outs.spec ref18_Join.spec law19_lives.spec (args0 [a0, a1, a2]) AHeap.empty from body_eq law19_words.spec isw_And.spec isw_Refresh.spec isw_Exec.spec isw_Outs.spec ref18_Join.spec law19_lives.spec _ _]
  kernel_rfl
theorem sound : Sound Go.Proofs.Try.prog 13 (.pure false spec) := by
  refine (sound_pure CS Mixed (draws _ _) K hf hb hok callable).less fun args r h => ?_
  unfold spec at h
  split at h
  · rw [run_eq]; exact h
  · cases h
end law19_IswRight
end Go.Abs

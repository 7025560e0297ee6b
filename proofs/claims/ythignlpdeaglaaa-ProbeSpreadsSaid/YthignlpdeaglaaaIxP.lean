/-
  That the program's functions are these. Printed by gen.py.
-/
import Derived.Test.YthignlpdeaglaaaIxF
import Derived.Test.YthignlpdeaglaaaLoP
import Derived.Test.YthignlpdeaglaaaItP
set_option linter.unusedSimpArgs false
set_option linter.unusedVariables false
namespace Go.Abs
namespace isw_order
noncomputable def code : Code := match Go.Proofs.Try.f50.body with | some c => c | none => .skip
def K : Nat → List Nat
  | 0 => [0]
  | 1 => [2]
  | _ => []
end isw_order
namespace isw_takes
noncomputable def code : Code := match Go.Proofs.Try.f58.body with | some c => c | none => .skip
def K : Nat → List Nat
  | 0 => [0]
  | 1 => [3]
  | 2 => [3, 4]
  | 3 => [3, 4]
  | 4 => [2]
  | 5 => [3, 7]
  | 6 => [3, 7]
  | 7 => [3, 7]
  | 8 => [3, 7]
  | 9 => [7]
  | 10 => [2]
  | 11 => [2]
  | _ => []
noncomputable def CC : Tab := C
theorem CS : CC.Sound Go.Proofs.Try.prog := Tab.Sound.none
theorem body_eq (fr : AFr) (H : AHeap) : acode Go.Proofs.Try.prog C (draws Go.Proofs.Try.prog C) K code fr H = body fr H := by kernel_rfl
theorem callable : Callable Go.Proofs.Try.prog 58 := fun args w => Go.Proofs.Try.call58 args w
theorem hf : Go.Proofs.Try.prog.funcs[58]? = some Go.Proofs.Try.f58 := Go.Proofs.Try.func58
theorem hb : Go.Proofs.Try.f58.body = some code := by kernel_rfl
theorem hok : codeOk Go.Proofs.Try.f58.ntmps code = true := by kernel_rfl
theorem run_eq (a0 : AV) : pureOf Go.Proofs.Try.prog CC (draws Go.Proofs.Try.prog CC) K Go.Proofs.Try.f58 code [a0] = isw_takes a0 := by
  unfold pureOf arun
  rw [if_pos (show [a0].length ≤ Go.Proofs.Try.f58.ntmps from (by decide +kernel : 1 ≤ Go.Proofs.Try.f58.ntmps))]
  unfold afin
  rw [show acode Go.Proofs.Try.prog CC (draws Go.Proofs.Try.prog CC) K code (args0 [a0]) AHeap.empty = body (args0 [a0]) AHeap.empty from body_eq _ _]
  kernel_rfl
theorem sound : Sound Go.Proofs.Try.prog 58 (.pure false spec) := by
  refine (sound_pure CS Mixed (draws _ _) K hf hb hok callable).less fun args r h => ?_
  unfold spec at h
  split at h
  · rw [run_eq]; exact h
  · cases h
end isw_takes
namespace isw_number
noncomputable def code : Code := match Go.Proofs.Try.f69.body with | some c => c | none => .skip
def K : Nat → List Nat
  | 0 => [1]
  | 1 => [1, 4]
  | 2 => [1, 4, 5]
  | 3 => [2]
  | 4 => [1, 4, 7]
  | 5 => [1, 4, 7]
  | 6 => [1, 7]
  | 7 => [2]
  | 8 => [2]
  | _ => []
noncomputable def CC : Tab := C
theorem CS : CC.Sound Go.Proofs.Try.prog := Tab.Sound.none
theorem body_eq (fr : AFr) (H : AHeap) : acode Go.Proofs.Try.prog C (draws Go.Proofs.Try.prog C) K code fr H = body fr H := by kernel_rfl
theorem callable : Callable Go.Proofs.Try.prog 69 := fun args w => Go.Proofs.Try.call69 args w
theorem hf : Go.Proofs.Try.prog.funcs[69]? = some Go.Proofs.Try.f69 := Go.Proofs.Try.func69
theorem hb : Go.Proofs.Try.f69.body = some code := by kernel_rfl
theorem hok : codeOk Go.Proofs.Try.f69.ntmps code = true := by kernel_rfl
theorem run_eq (a0 : AV) : pureOf Go.Proofs.Try.prog CC (draws Go.Proofs.Try.prog CC) K Go.Proofs.Try.f69 code [a0] = isw_number a0 := by
  unfold pureOf arun
  rw [if_pos (show [a0].length ≤ Go.Proofs.Try.f69.ntmps from (by decide +kernel : 1 ≤ Go.Proofs.Try.f69.ntmps))]
  unfold afin
  rw [show acode Go.Proofs.Try.prog CC (draws Go.Proofs.Try.prog CC) K code (args0 [a0]) AHeap.empty = body (args0 [a0]) AHeap.empty from body_eq _ _]
  kernel_rfl
theorem sound : Sound Go.Proofs.Try.prog 69 (.pure false spec) := by
  refine (sound_pure CS Mixed (draws _ _) K hf hb hok callable).less fun args r h => ?_
  unfold spec at h
  split at h
  · rw [run_eq]; exact h
  · cases h
end isw_number
namespace isw_wire
noncomputable def code : Code := match Go.Proofs.Try.f70.body with | some c => c | none => .skip
def K : Nat → List Nat
  | 0 => [0, 1, 2]
  | 1 => [0, 1, 8]
  | 2 => [6]
  | 3 => [6]
  | _ => []
noncomputable def CC : Tab := C
theorem CS : CC.Sound Go.Proofs.Try.prog := Tab.Sound.none
theorem body_eq (fr : AFr) (H : AHeap) : acode Go.Proofs.Try.prog C (draws Go.Proofs.Try.prog C) K code fr H = body fr H := by kernel_rfl
theorem callable : Callable Go.Proofs.Try.prog 70 := fun args w => Go.Proofs.Try.call70 args w
theorem hf : Go.Proofs.Try.prog.funcs[70]? = some Go.Proofs.Try.f70 := Go.Proofs.Try.func70
theorem hb : Go.Proofs.Try.f70.body = some code := by kernel_rfl
theorem hok : codeOk Go.Proofs.Try.f70.ntmps code = true := by kernel_rfl
theorem run_eq (a0 a1 a2 : AV) : pureOf Go.Proofs.Try.prog CC (draws Go.Proofs.Try.prog CC) K Go.Proofs.Try.f70 code [a0, a1, a2] = isw_wire a0 a1 a2 := by
  unfold pureOf arun
  rw [if_pos (show [a0, a1, a2].length ≤ Go.Proofs.Try.f70.ntmps from (by decide +kernel : 3 ≤ Go.Proofs.Try.f70.ntmps))]
  unfold afin
  rw [show acode Go.Proofs.Try.prog CC (draws Go.Proofs.Try.prog CC) K code (args0 [a0, a1, a2]) AHeap.empty = body (args0 [a0, a1, a2]) AHeap.empty from body_eq _ _]
  kernel_rfl
theorem sound : Sound Go.Proofs.Try.prog 70 (.pure false spec) := by
  refine (sound_pure CS Mixed (draws _ _) K hf hb hok callable).less fun args r h => ?_
  unfold spec at h
  split at h
  · rw [run_eq]; exact h
  · cases h
end isw_wire
namespace isw_can
noncomputable def code : Code := match Go.Proofs.Try.f56.body with | some c => c | none => .skip
def K : Nat → List Nat
  | 0 => [1]
  | 1 => [1, 21]
  | 2 => [2]
  | 3 => [1, 23, 24, 25]
  | 4 => [1, 23, 24, 25, 26]
  | 5 => [1, 3, 4, 23, 24, 25]
  | 6 => [1, 3, 4, 5, 23, 24, 25]
  | 7 => [1, 23, 24, 25, 69]
  | 8 => [2]
  | 9 => [1, 23, 24, 25]
  | 10 => [1, 72, 73, 74]
  | 11 => [1, 72, 73, 74, 75]
  | 12 => [1, 7, 72, 73, 74]
  | 13 => [1, 72, 73, 74, 86]
  | 14 => [2]
  | 15 => [1, 72, 73, 74]
  | 16 => [2]
  | _ => []
noncomputable def CC : Tab := C isw_takes.spec isw_number.spec isw_wire.spec
theorem CS : CC.Sound Go.Proofs.Try.prog := (((Tab.Sound.none.add isw_takes.sound).add isw_number.sound).add isw_wire.sound)
theorem body_eq (s0 s1 s2 : SpecP) (fr : AFr) (H : AHeap) : acode Go.Proofs.Try.prog (C s0 s1 s2) (draws Go.Proofs.Try.prog (C s0 s1 s2)) K code fr H = body s0 s1 s2 fr H := by kernel_rfl
theorem callable : Callable Go.Proofs.Try.prog 56 := fun args w => Go.Proofs.Try.call56 args w
theorem hf : Go.Proofs.Try.prog.funcs[56]? = some Go.Proofs.Try.f56 := Go.Proofs.Try.func56
theorem hb : Go.Proofs.Try.f56.body = some code := by kernel_rfl
theorem hok : codeOk Go.Proofs.Try.f56.ntmps code = true := by kernel_rfl
theorem run_eq (a0 : AV) : pureOf Go.Proofs.Try.prog CC (draws Go.Proofs.Try.prog CC) K Go.Proofs.Try.f56 code [a0] = isw_can a0 := by
  unfold pureOf arun
  rw [if_pos (show [a0].length ≤ Go.Proofs.Try.f56.ntmps from (by decide +kernel : 1 ≤ Go.Proofs.Try.f56.ntmps))]
  unfold afin
  rw [show acode Go.Proofs.Try.prog CC (draws Go.Proofs.Try.prog CC) K code (args0 [a0]) AHeap.empty = body isw_takes.spec isw_number.spec isw_wire.spec (args0 [a0]) AHeap.empty from body_eq isw_takes.spec isw_number.spec isw_wire.spec _ _]
  kernel_rfl
theorem sound : Sound Go.Proofs.Try.prog 56 (.pure false spec) := by
  refine (sound_pure CS Mixed (draws _ _) K hf hb hok callable).less fun args r h => ?_
  unfold spec at h
  split at h
  · rw [run_eq]; exact h
  · cases h
end isw_can
namespace isw_Can
noncomputable def code : Code := match Go.Proofs.Try.f33.body with | some c => c | none => .skip
def K : Nat → List Nat
  | 0 => [1]
  | 1 => [2]
  | _ => []
noncomputable def CC : Tab := C isw_can.spec
theorem CS : CC.Sound Go.Proofs.Try.prog := (Tab.Sound.none.add isw_can.sound)
theorem body_eq (s0 : SpecP) (fr : AFr) (H : AHeap) : acode Go.Proofs.Try.prog (C s0) (draws Go.Proofs.Try.prog (C s0)) K code fr H = body s0 fr H := by kernel_rfl
theorem callable : Callable Go.Proofs.Try.prog 33 := fun args w => Go.Proofs.Try.call33 args w
theorem hf : Go.Proofs.Try.prog.funcs[33]? = some Go.Proofs.Try.f33 := Go.Proofs.Try.func33
theorem hb : Go.Proofs.Try.f33.body = some code := by kernel_rfl
theorem hok : codeOk Go.Proofs.Try.f33.ntmps code = true := by kernel_rfl
theorem run_eq (a0 : AV) : pureOf Go.Proofs.Try.prog CC (draws Go.Proofs.Try.prog CC) K Go.Proofs.Try.f33 code [a0] = isw_Can a0 := by
  unfold pureOf arun
  rw [if_pos (show [a0].length ≤ Go.Proofs.Try.f33.ntmps from (by decide +kernel : 1 ≤ Go.Proofs.Try.f33.ntmps))]
  unfold afin
  rw [show acode Go.Proofs.Try.prog CC (draws Go.Proofs.Try.prog CC) K code (args0 [a0]) AHeap.empty = body isw_can.spec (args0 [a0]) AHeap.empty from body_eq isw_can.spec _ _]
  kernel_rfl
theorem sound : Sound Go.Proofs.Try.prog 33 (.pure false spec) := by
  refine (sound_pure CS Mixed (draws _ _) K hf hb hok callable).less fun args r h => ?_
  unfold spec at h
  split at h
  · rw [run_eq]; exact h
  · cases h
end isw_Can
namespace isw_randoms
noncomputable def code : Code := match Go.Proofs.Try.f57.body with | some c => c | none => .skip
def K : Nat → List Nat
  | 0 => [1]
  | 1 => [1, 3]
  | 2 => [3, 7, 8, 9]
  | 3 => [3, 7, 8, 9, 10]
  | 4 => [3, 5, 7, 8, 9]
  | 5 => [3, 7, 8, 9, 15]
  | 6 => [3, 7, 8, 9]
  | 7 => [3, 7, 8, 9]
  | 8 => [2]
  | _ => []
noncomputable def CC : Tab := C
theorem CS : CC.Sound Go.Proofs.Try.prog := Tab.Sound.none
theorem body_eq (fr : AFr) (H : AHeap) : acode Go.Proofs.Try.prog C (draws Go.Proofs.Try.prog C) K code fr H = body fr H := by kernel_rfl
theorem callable : Callable Go.Proofs.Try.prog 57 := fun args w => Go.Proofs.Try.call57 args w
theorem hf : Go.Proofs.Try.prog.funcs[57]? = some Go.Proofs.Try.f57 := Go.Proofs.Try.func57
theorem hb : Go.Proofs.Try.f57.body = some code := by kernel_rfl
theorem hok : codeOk Go.Proofs.Try.f57.ntmps code = true := by kernel_rfl
theorem run_eq (a0 : AV) : pureOf Go.Proofs.Try.prog CC (draws Go.Proofs.Try.prog CC) K Go.Proofs.Try.f57 code [a0] = isw_randoms a0 := by
  unfold pureOf arun
  rw [if_pos (show [a0].length ≤ Go.Proofs.Try.f57.ntmps from (by decide +kernel : 1 ≤ Go.Proofs.Try.f57.ntmps))]
  unfold afin
  rw [show acode Go.Proofs.Try.prog CC (draws Go.Proofs.Try.prog CC) K code (args0 [a0]) AHeap.empty = body (args0 [a0]) AHeap.empty from body_eq _ _]
  kernel_rfl
theorem sound : Sound Go.Proofs.Try.prog 57 (.pure false spec) := by
  refine (sound_pure CS Mixed (draws _ _) K hf hb hok callable).less fun args r h => ?_
  unfold spec at h
  split at h
  · rw [run_eq]; exact h
  · cases h
end isw_randoms
namespace isw_Randoms
noncomputable def code : Code := match Go.Proofs.Try.f34.body with | some c => c | none => .skip
def K : Nat → List Nat
  | 0 => [1]
  | 1 => [2]
  | _ => []
noncomputable def CC : Tab := C isw_randoms.spec
theorem CS : CC.Sound Go.Proofs.Try.prog := (Tab.Sound.none.add isw_randoms.sound)
theorem body_eq (s0 : SpecP) (fr : AFr) (H : AHeap) : acode Go.Proofs.Try.prog (C s0) (draws Go.Proofs.Try.prog (C s0)) K code fr H = body s0 fr H := by kernel_rfl
theorem callable : Callable Go.Proofs.Try.prog 34 := fun args w => Go.Proofs.Try.call34 args w
theorem hf : Go.Proofs.Try.prog.funcs[34]? = some Go.Proofs.Try.f34 := Go.Proofs.Try.func34
theorem hb : Go.Proofs.Try.f34.body = some code := by kernel_rfl
theorem hok : codeOk Go.Proofs.Try.f34.ntmps code = true := by kernel_rfl
theorem run_eq (a0 : AV) : pureOf Go.Proofs.Try.prog CC (draws Go.Proofs.Try.prog CC) K Go.Proofs.Try.f34 code [a0] = isw_Randoms a0 := by
  unfold pureOf arun
  rw [if_pos (show [a0].length ≤ Go.Proofs.Try.f34.ntmps from (by decide +kernel : 1 ≤ Go.Proofs.Try.f34.ntmps))]
  unfold afin
  rw [show acode Go.Proofs.Try.prog CC (draws Go.Proofs.Try.prog CC) K code (args0 [a0]) AHeap.empty = body isw_randoms.spec (args0 [a0]) AHeap.empty from body_eq isw_randoms.spec _ _]
  kernel_rfl
theorem sound : Sound Go.Proofs.Try.prog 34 (.pure false spec) := by
  refine (sound_pure CS Mixed (draws _ _) K hf hb hok callable).less fun args r h => ?_
  unfold spec at h
  split at h
  · rw [run_eq]; exact h
  · cases h
end isw_Randoms
namespace isw_step
noncomputable def code : Code := match Go.Proofs.Try.f59.body with | some c => c | none => .skip
def K : Nat → List Nat
  | 0 => [1, 2, 3]
  | 1 => [1, 2, 3, 8]
  | 2 => [1, 2, 3, 8, 9]
  | 3 => [6]
  | 4 => [1, 2, 3, 8, 14]
  | 5 => [6]
  | 6 => [1, 3, 8, 19]
  | 7 => [6]
  | 8 => [1, 3, 8, 23]
  | 9 => [6]
  | 10 => [1, 3, 8, 29]
  | 11 => [6]
  | 12 => [1, 3, 8, 35]
  | 13 => [6]
  | 14 => [1, 3, 41]
  | 15 => [6]
  | 16 => [6]
  | _ => []
noncomputable def CC : Tab := C word_Rot.spec
theorem CS : CC.Sound Go.Proofs.Try.prog := (Tab.Sound.none.add word_Rot.sound)
theorem body_eq (s0 : SpecP) (fr : AFr) (H : AHeap) : acode Go.Proofs.Try.prog (C s0) (draws Go.Proofs.Try.prog (C s0)) K code fr H = body s0 fr H := by kernel_rfl
theorem callable : Callable Go.Proofs.Try.prog 59 := fun args w => Go.Proofs.Try.call59 args w
theorem hf : Go.Proofs.Try.prog.funcs[59]? = some Go.Proofs.Try.f59 := Go.Proofs.Try.func59
theorem hb : Go.Proofs.Try.f59.body = some code := by kernel_rfl
theorem hok : codeOk Go.Proofs.Try.f59.ntmps code = true := by kernel_rfl
theorem run_eq (a0 a1 a2 : AV) : pureOf Go.Proofs.Try.prog CC (draws Go.Proofs.Try.prog CC) K Go.Proofs.Try.f59 code [a0, a1, a2] = isw_step a0 a1 a2 := by
  unfold pureOf arun
  rw [if_pos (show [a0, a1, a2].length ≤ Go.Proofs.Try.f59.ntmps from (by decide +kernel : 3 ≤ Go.Proofs.Try.f59.ntmps))]
  unfold afin
  rw [show acode Go.Proofs.Try.prog CC (draws Go.Proofs.Try.prog CC) K code (args0 [a0, a1, a2]) AHeap.empty = body word_Rot.spec (args0 [a0, a1, a2]) AHeap.empty from body_eq word_Rot.spec _ _]
  kernel_rfl
theorem sound : Sound Go.Proofs.Try.prog 59 (.pure false spec) := by
  refine (sound_pure CS Mixed (draws _ _) K hf hb hok callable).less fun args r h => ?_
  unfold spec at h
  split at h
  · rw [run_eq]; exact h
  · cases h
end isw_step
namespace isw_Exec
noncomputable def code : Code := match Go.Proofs.Try.f37.body with | some c => c | none => .skip
def K : Nat → List Nat
  | 0 => [1, 2, 3]
  | 1 => [1, 2, 3, 23]
  | 2 => [6, 7]
  | 3 => [1, 2, 3, 8]
  | 4 => [2, 3, 8]
  | 5 => [2, 8, 37, 38, 39]
  | 6 => [2, 8, 37, 38, 39, 40]
  | 7 => [2, 8, 10, 37, 38, 39]
  | 8 => [2, 8, 10, 37, 38, 39, 45]
  | 9 => [2, 8, 37, 38, 39]
  | 10 => [2, 8, 10, 11, 37, 38, 39]
  | 11 => [2, 8, 10, 11, 37, 38, 39, 58, 59]
  | 12 => [2, 8, 10, 11, 37, 38, 39, 58, 59, 60]
  | 13 => [2, 8, 10, 11, 12, 13, 37, 38, 39, 58, 59]
  | 14 => [2, 8, 10, 11, 12, 13, 37, 38, 39, 58, 59, 67]
  | 15 => [2, 8, 10, 11, 37, 38, 39, 58, 59]
  | 16 => [2, 8, 10, 11, 37, 38, 39, 58, 59]
  | 17 => [2, 8, 37, 38, 39]
  | 18 => [2, 8, 37, 38, 39]
  | 19 => [6, 7]
  | _ => []
noncomputable def CC : Tab := C isw_can.spec isw_randoms.spec isw_takes.spec isw_step.spec
theorem CS : CC.Sound Go.Proofs.Try.prog := ((((Tab.Sound.none.add isw_can.sound).add isw_randoms.sound).add isw_takes.sound).add isw_step.sound)
theorem body_eq (s0 s1 s2 s3 : SpecP) (fr : AFr) (H : AHeap) : acode Go.Proofs.Try.prog (C s0 s1 s2 s3) (draws Go.Proofs.Try.prog (C s0 s1 s2 s3)) K code fr H = body s0 s1 s2 s3 fr H := by kernel_rfl
theorem callable : Callable Go.Proofs.Try.prog 37 := fun args w => Go.Proofs.Try.call37 args w
theorem hf : Go.Proofs.Try.prog.funcs[37]? = some Go.Proofs.Try.f37 := Go.Proofs.Try.func37
theorem hb : Go.Proofs.Try.f37.body = some code := by kernel_rfl
theorem hok : codeOk Go.Proofs.Try.f37.ntmps code = true := by kernel_rfl
theorem run_eq (a0 a1 a2 : AV) : pureOf Go.Proofs.Try.prog CC (draws Go.Proofs.Try.prog CC) K Go.Proofs.Try.f37 code [a0, a1, a2] = isw_Exec a0 a1 a2 := by
  unfold pureOf arun
  rw [if_pos (show [a0, a1, a2].length ≤ Go.Proofs.Try.f37.ntmps from (by decide +kernel : 3 ≤ Go.Proofs.Try.f37.ntmps))]
  unfold afin
  rw [show acode Go.Proofs.Try.prog CC (draws Go.Proofs.Try.prog CC) K code (args0 [a0, a1, a2]) AHeap.empty = body isw_can.spec isw_randoms.spec isw_takes.spec isw_step.spec (args0 [a0, a1, a2]) AHeap.empty from body_eq isw_can.spec isw_randoms.spec isw_takes.spec isw_step.spec _ _]
  kernel_rfl
theorem sound : Sound Go.Proofs.Try.prog 37 (.pure false spec) := by
  refine (sound_pure CS Mixed (draws _ _) K hf hb hok callable).less fun args r h => ?_
  unfold spec at h
  split at h
  · rw [run_eq]; exact h
  · cases h
end isw_Exec
end Go.Abs

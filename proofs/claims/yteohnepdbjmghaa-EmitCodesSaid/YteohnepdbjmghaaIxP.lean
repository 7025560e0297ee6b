/-
  That the program's functions are these. Printed by gen.py.
-/
import Derived.Test.YteohnepdbjmghaaIxF
import Derived.Test.YteohnepdbjmghaaP0
set_option linter.unusedSimpArgs false
set_option linter.unusedVariables false
namespace Go.Abs
namespace isw_takes
noncomputable def code : Code := match Go.Proofs.Try.f155.body with | some c => c | none => .skip
def K : Nat → List Nat
  | 0 => [0]
  | 1 => [3]
  | 2 => [3, 4]
  | 3 => [3, 4]
  | 4 => [2]
  | 5 => [3, 7]
  | 6 => [3, 7]
  | 7 => [3, 7]
  | 8 => [3, 7]
  | 9 => [7]
  | 10 => [2]
  | 11 => [2]
  | _ => []
noncomputable def CC : Tab := C
theorem CS : CC.Sound Go.Proofs.Try.prog := Tab.Sound.none
theorem body_eq (fr : AFr) (H : AHeap) : acode Go.Proofs.Try.prog C (draws Go.Proofs.Try.prog C) K code fr H = body fr H := by kernel_rfl
theorem callable : Callable Go.Proofs.Try.prog 155 := fun args w => Go.Proofs.Try.call155 args w
theorem hf : Go.Proofs.Try.prog.funcs[155]? = some Go.Proofs.Try.f155 := Go.Proofs.Try.func155
theorem hb : Go.Proofs.Try.f155.body = some code := by kernel_rfl
theorem hok : codeOk Go.Proofs.Try.f155.ntmps code = true := by kernel_rfl
theorem run_eq (a0 : AV) : pureOf Go.Proofs.Try.prog CC (draws Go.Proofs.Try.prog CC) K Go.Proofs.Try.f155 code [a0] = isw_takes a0 := by
  unfold pureOf arun
  rw [if_pos (show [a0].length ≤ Go.Proofs.Try.f155.ntmps from (by decide +kernel : 1 ≤ Go.Proofs.Try.f155.ntmps))]
  unfold afin
  rw [show acode Go.Proofs.Try.prog CC (draws Go.Proofs.Try.prog CC) K code (args0 [a0]) AHeap.empty = body (args0 [a0]) AHeap.empty from body_eq _ _]
  kernel_rfl
theorem sound : Sound Go.Proofs.Try.prog 155 (.pure false spec) := by
  refine (sound_pure CS Mixed (draws _ _) K hf hb hok callable).less fun args r h => ?_
  unfold spec at h
  split at h
  · rw [run_eq]; exact h
  · cases h
end isw_takes
namespace isw_number
noncomputable def code : Code := match Go.Proofs.Try.f156.body with | some c => c | none => .skip
def K : Nat → List Nat
  | 0 => [1]
  | 1 => [1, 4]
  | 2 => [1, 4, 5]
  | 3 => [2]
  | 4 => [1, 4, 7]
  | 5 => [1, 4, 7]
  | 6 => [1, 7]
  | 7 => [2]
  | 8 => [2]
  | _ => []
noncomputable def CC : Tab := C
theorem CS : CC.Sound Go.Proofs.Try.prog := Tab.Sound.none
theorem body_eq (fr : AFr) (H : AHeap) : acode Go.Proofs.Try.prog C (draws Go.Proofs.Try.prog C) K code fr H = body fr H := by kernel_rfl
theorem callable : Callable Go.Proofs.Try.prog 156 := fun args w => Go.Proofs.Try.call156 args w
theorem hf : Go.Proofs.Try.prog.funcs[156]? = some Go.Proofs.Try.f156 := Go.Proofs.Try.func156
theorem hb : Go.Proofs.Try.f156.body = some code := by kernel_rfl
theorem hok : codeOk Go.Proofs.Try.f156.ntmps code = true := by kernel_rfl
theorem run_eq (a0 : AV) : pureOf Go.Proofs.Try.prog CC (draws Go.Proofs.Try.prog CC) K Go.Proofs.Try.f156 code [a0] = isw_number a0 := by
  unfold pureOf arun
  rw [if_pos (show [a0].length ≤ Go.Proofs.Try.f156.ntmps from (by decide +kernel : 1 ≤ Go.Proofs.Try.f156.ntmps))]
  unfold afin
  rw [show acode Go.Proofs.Try.prog CC (draws Go.Proofs.Try.prog CC) K code (args0 [a0]) AHeap.empty = body (args0 [a0]) AHeap.empty from body_eq _ _]
  kernel_rfl
theorem sound : Sound Go.Proofs.Try.prog 156 (.pure false spec) := by
  refine (sound_pure CS Mixed (draws _ _) K hf hb hok callable).less fun args r h => ?_
  unfold spec at h
  split at h
  · rw [run_eq]; exact h
  · cases h
end isw_number
namespace isw_wire
noncomputable def code : Code := match Go.Proofs.Try.f157.body with | some c => c | none => .skip
def K : Nat → List Nat
  | 0 => [0, 1, 2]
  | 1 => [0, 1, 8]
  | 2 => [6]
  | 3 => [6]
  | _ => []
noncomputable def CC : Tab := C
theorem CS : CC.Sound Go.Proofs.Try.prog := Tab.Sound.none
theorem body_eq (fr : AFr) (H : AHeap) : acode Go.Proofs.Try.prog C (draws Go.Proofs.Try.prog C) K code fr H = body fr H := by kernel_rfl
theorem callable : Callable Go.Proofs.Try.prog 157 := fun args w => Go.Proofs.Try.call157 args w
theorem hf : Go.Proofs.Try.prog.funcs[157]? = some Go.Proofs.Try.f157 := Go.Proofs.Try.func157
theorem hb : Go.Proofs.Try.f157.body = some code := by kernel_rfl
theorem hok : codeOk Go.Proofs.Try.f157.ntmps code = true := by kernel_rfl
theorem run_eq (a0 a1 a2 : AV) : pureOf Go.Proofs.Try.prog CC (draws Go.Proofs.Try.prog CC) K Go.Proofs.Try.f157 code [a0, a1, a2] = isw_wire a0 a1 a2 := by
  unfold pureOf arun
  rw [if_pos (show [a0, a1, a2].length ≤ Go.Proofs.Try.f157.ntmps from (by decide +kernel : 3 ≤ Go.Proofs.Try.f157.ntmps))]
  unfold afin
  rw [show acode Go.Proofs.Try.prog CC (draws Go.Proofs.Try.prog CC) K code (args0 [a0, a1, a2]) AHeap.empty = body (args0 [a0, a1, a2]) AHeap.empty from body_eq _ _]
  kernel_rfl
theorem sound : Sound Go.Proofs.Try.prog 157 (.pure false spec) := by
  refine (sound_pure CS Mixed (draws _ _) K hf hb hok callable).less fun args r h => ?_
  unfold spec at h
  split at h
  · rw [run_eq]; exact h
  · cases h
end isw_wire
namespace isw_can
noncomputable def code : Code := match Go.Proofs.Try.f113.body with | some c => c | none => .skip
def K : Nat → List Nat
  | 0 => [1]
  | 1 => [1, 21]
  | 2 => [2]
  | 3 => [1, 23, 24, 25]
  | 4 => [1, 23, 24, 25, 26]
  | 5 => [1, 3, 4, 23, 24, 25]
  | 6 => [1, 3, 4, 5, 23, 24, 25]
  | 7 => [1, 23, 24, 25, 69]
  | 8 => [2]
  | 9 => [1, 23, 24, 25]
  | 10 => [1, 72, 73, 74]
  | 11 => [1, 72, 73, 74, 75]
  | 12 => [1, 7, 72, 73, 74]
  | 13 => [1, 72, 73, 74, 86]
  | 14 => [2]
  | 15 => [1, 72, 73, 74]
  | 16 => [2]
  | _ => []
noncomputable def CC : Tab := C isw_takes.spec isw_number.spec isw_wire.spec
theorem CS : CC.Sound Go.Proofs.Try.prog := (((Tab.Sound.none.add isw_takes.sound).add isw_number.sound).add isw_wire.sound)
theorem body_eq (s0 s1 s2 : SpecP) (fr : AFr) (H : AHeap) : acode Go.Proofs.Try.prog (C s0 s1 s2) (draws Go.Proofs.Try.prog (C s0 s1 s2)) K code fr H = body s0 s1 s2 fr H := by kernel_rfl
theorem callable : Callable Go.Proofs.Try.prog 113 := fun args w => Go.Proofs.Try.call113 args w
theorem hf : Go.Proofs.Try.prog.funcs[113]? = some Go.Proofs.Try.f113 := Go.Proofs.Try.func113
theorem hb : Go.Proofs.Try.f113.body = some code := by kernel_rfl
theorem hok : codeOk Go.Proofs.Try.f113.ntmps code = true := by kernel_rfl
theorem run_eq (a0 : AV) : pureOf Go.Proofs.Try.prog CC (draws Go.Proofs.Try.prog CC) K Go.Proofs.Try.f113 code [a0] = isw_can a0 := by
  unfold pureOf arun
  rw [if_pos (show [a0].length ≤ Go.Proofs.Try.f113.ntmps from (by decide +kernel : 1 ≤ Go.Proofs.Try.f113.ntmps))]
  unfold afin
  rw [show acode Go.Proofs.Try.prog CC (draws Go.Proofs.Try.prog CC) K code (args0 [a0]) AHeap.empty = body isw_takes.spec isw_number.spec isw_wire.spec (args0 [a0]) AHeap.empty from body_eq isw_takes.spec isw_number.spec isw_wire.spec _ _]
  kernel_rfl
theorem sound : Sound Go.Proofs.Try.prog 113 (.pure false spec) := by
  refine (sound_pure CS Mixed (draws _ _) K hf hb hok callable).less fun args r h => ?_
  unfold spec at h
  split at h
  · rw [run_eq]; exact h
  · cases h
end isw_can
namespace isw_Can
noncomputable def code : Code := match Go.Proofs.Try.f68.body with | some c => c | none => .skip
def K : Nat → List Nat
  | 0 => [1]
  | 1 => [2]
  | _ => []
noncomputable def CC : Tab := C isw_can.spec
theorem CS : CC.Sound Go.Proofs.Try.prog := (Tab.Sound.none.add isw_can.sound)
theorem body_eq (s0 : SpecP) (fr : AFr) (H : AHeap) : acode Go.Proofs.Try.prog (C s0) (draws Go.Proofs.Try.prog (C s0)) K code fr H = body s0 fr H := by kernel_rfl
theorem callable : Callable Go.Proofs.Try.prog 68 := fun args w => Go.Proofs.Try.call68 args w
theorem hf : Go.Proofs.Try.prog.funcs[68]? = some Go.Proofs.Try.f68 := Go.Proofs.Try.func68
theorem hb : Go.Proofs.Try.f68.body = some code := by kernel_rfl
theorem hok : codeOk Go.Proofs.Try.f68.ntmps code = true := by kernel_rfl
theorem run_eq (a0 : AV) : pureOf Go.Proofs.Try.prog CC (draws Go.Proofs.Try.prog CC) K Go.Proofs.Try.f68 code [a0] = isw_Can a0 := by
  unfold pureOf arun
  rw [if_pos (show [a0].length ≤ Go.Proofs.Try.f68.ntmps from (by decide +kernel : 1 ≤ Go.Proofs.Try.f68.ntmps))]
  unfold afin
  rw [show acode Go.Proofs.Try.prog CC (draws Go.Proofs.Try.prog CC) K code (args0 [a0]) AHeap.empty = body isw_can.spec (args0 [a0]) AHeap.empty from body_eq isw_can.spec _ _]
  kernel_rfl
theorem sound : Sound Go.Proofs.Try.prog 68 (.pure false spec) := by
  refine (sound_pure CS Mixed (draws _ _) K hf hb hok callable).less fun args r h => ?_
  unfold spec at h
  split at h
  · rw [run_eq]; exact h
  · cases h
end isw_Can
end Go.Abs

import Derived.Test.YtncablokgkejjaaLoF
import Derived.Test.YtncablokgkejjaaP0
section
set_option linter.unusedSimpArgs false
set_option linter.unusedVariables false
namespace Go.Abs
namespace thumb_shapes
noncomputable def code : Code := match Go.Proofs.Try.f74.body with | some c => c | none => .skip
def K : Nat → List Nat
  | 0 => [0, 2]
  | 1 => [0, 2, 3, 4, 5]
  | 2 => [0, 2, 3, 4, 5, 6, 7]
  | 3 => [0, 2, 3, 4, 5, 6, 7, 13]
  | 4 => [0, 2, 3, 4, 5, 6, 7, 13, 14]
  | 5 => [0, 2, 3, 4, 5, 6, 7, 13, 14]
  | 6 => [0, 2, 3, 4, 5, 6, 7, 13, 14]
  | 7 => [0, 2, 3, 4, 5, 6, 7, 13, 14]
  | 8 => [2]
  | 9 => [0, 2, 3, 4, 5, 6, 7, 13, 28]
  | 10 => [2]
  | 11 => [0, 2, 3, 4, 5, 6, 7, 13, 35]
  | 12 => [0, 2, 3, 4, 5, 6, 7, 13, 35]
  | 13 => [2]
  | 14 => [0, 2, 3, 4, 5, 6, 7, 13, 47]
  | 15 => [0, 2, 3, 4, 5, 6, 7, 13, 47]
  | 16 => [2]
  | 17 => [0, 2, 3, 4, 5, 6, 7, 13, 60]
  | 18 => [0, 2, 3, 4, 5, 6, 7, 13, 60]
  | 19 => [2]
  | 20 => [2, 3, 4, 5, 6, 7, 13, 73]
  | 21 => [2]
  | 22 => [2, 3, 4, 5, 6, 13, 80]
  | 23 => [2]
  | 24 => [2, 3, 4, 5, 6, 13, 87]
  | 25 => [2]
  | 26 => [2, 3, 4, 5, 6, 13, 94]
  | 27 => [2]
  | 28 => [2, 3, 4, 5, 6, 13, 101]
  | 29 => [2]
  | 30 => [2, 6, 13, 108]
  | 31 => [2]
  | 32 => [2, 6, 13, 114]
  | 33 => [2]
  | 34 => [2, 6, 13, 119]
  | 35 => [2]
  | 36 => [2, 6, 125]
  | 37 => [2]
  | 38 => [2]
  | _ => []
noncomputable def CC : Tab := C
theorem CS : CC.Sound Go.Proofs.Try.prog := Tab.Sound.none
theorem body_eq (fr : AFr) (H : AHeap) : acode Go.Proofs.Try.prog C (draws Go.Proofs.Try.prog C) K code fr H = body fr H := by kernel_rfl
theorem callable : Callable Go.Proofs.Try.prog 74 := fun args w => Go.Proofs.Try.call74 args w
theorem hf : Go.Proofs.Try.prog.funcs[74]? = some Go.Proofs.Try.f74 := Go.Proofs.Try.func74
theorem hb : Go.Proofs.Try.f74.body = some code := by kernel_rfl
theorem hok : codeOk Go.Proofs.Try.f74.ntmps code = true := by kernel_rfl
theorem run_eq (a0 : AV) : pureOf Go.Proofs.Try.prog CC (draws Go.Proofs.Try.prog CC) K Go.Proofs.Try.f74 code [a0] = thumb_shapes a0 := by
  unfold pureOf arun
  rw [if_pos (show [a0].length ≤ Go.Proofs.Try.f74.ntmps from (by decide +kernel : 1 ≤ Go.Proofs.Try.f74.ntmps))]
  unfold afin
  rw [show acode Go.Proofs.Try.prog CC (draws Go.Proofs.Try.prog CC) K code (args0 [a0]) AHeap.empty = body (args0 [a0]) AHeap.empty from body_eq _ _]
  kernel_rfl
theorem sound : Sound Go.Proofs.Try.prog 74 (.pure false spec) := by
  refine (sound_pure CS Mixed (draws _ _) K hf hb hok callable).less fun args r h => ?_
  unfold spec at h
  split at h
  · rw [run_eq]; exact h
  · cases h
end thumb_shapes
namespace thumb_field
noncomputable def code : Code := match Go.Proofs.Try.f75.body with | some c => c | none => .skip
def K : Nat → List Nat
  | 0 => [0, 1]
  | 1 => [0, 5]
  | 2 => [0, 5, 6]
  | 3 => [0, 5, 6]
  | 4 => [4]
  | 5 => [0, 5, 12]
  | 6 => [4]
  | 7 => [0, 17]
  | 8 => [4]
  | 9 => [4]
  | _ => []
noncomputable def CC : Tab := C
theorem CS : CC.Sound Go.Proofs.Try.prog := Tab.Sound.none
theorem body_eq (fr : AFr) (H : AHeap) : acode Go.Proofs.Try.prog C (draws Go.Proofs.Try.prog C) K code fr H = body fr H := by kernel_rfl
theorem callable : Callable Go.Proofs.Try.prog 75 := fun args w => Go.Proofs.Try.call75 args w
theorem hf : Go.Proofs.Try.prog.funcs[75]? = some Go.Proofs.Try.f75 := Go.Proofs.Try.func75
theorem hb : Go.Proofs.Try.f75.body = some code := by kernel_rfl
theorem hok : codeOk Go.Proofs.Try.f75.ntmps code = true := by kernel_rfl
theorem run_eq (a0 a1 : AV) (H : AHeap) : refOf Go.Proofs.Try.prog CC (draws Go.Proofs.Try.prog CC) K Go.Proofs.Try.f75 code [a0, a1] H = thumb_field a0 a1 H := by
  unfold refOf arun
  rw [if_pos (show [a0, a1].length ≤ Go.Proofs.Try.f75.ntmps from (by decide +kernel : 2 ≤ Go.Proofs.Try.f75.ntmps))]
  unfold afin
  rw [show acode Go.Proofs.Try.prog CC (draws Go.Proofs.Try.prog CC) K code (args0 [a0, a1]) H = body (args0 [a0, a1]) H from body_eq _ _]
  kernel_rfl
theorem sound : Sound Go.Proofs.Try.prog 75 (.ref [false, false] spec) := by
  refine (sound_ref CS Mixed (draws _ _) K hf hb hok callable [false, false]).lessR fun args H r h => ?_
  unfold spec at h
  split at h
  · rw [run_eq]; exact h
  · cases h
end thumb_field
namespace thumb_can
noncomputable def code : Code := match Go.Proofs.Try.f76.body with | some c => c | none => .skip
def K : Nat → List Nat
  | 0 => [1]
  | 1 => [1, 15]
  | 2 => [2]
  | 3 => [1, 3]
  | 4 => [1, 3, 30]
  | 5 => [2]
  | 6 => [1, 3, 4]
  | 7 => [1, 4, 33, 34]
  | 8 => [1, 4, 33, 34, 35]
  | 9 => [1, 4, 6, 33, 34]
  | 10 => [1, 4, 6, 7, 33, 34]
  | 11 => [1, 4, 6, 7, 33, 34, 42]
  | 12 => [1, 4, 6, 7, 33, 34, 46]
  | 13 => [1, 4, 6, 33, 34, 46]
  | 14 => [2]
  | 15 => [1, 4, 33, 34]
  | 16 => [1, 4, 33, 34]
  | 17 => [2]
  | _ => []
noncomputable def CC : Tab := C thumb_shapes.spec thumb_field.spec
theorem CS : CC.Sound Go.Proofs.Try.prog := ((Tab.Sound.none.add thumb_shapes.sound).add thumb_field.sound)
theorem body_eq (s0 : SpecP) (s1 : SpecM) (fr : AFr) (H : AHeap) : acode Go.Proofs.Try.prog (C s0 s1) (draws Go.Proofs.Try.prog (C s0 s1)) K code fr H = body s0 s1 fr H := by kernel_rfl
theorem callable : Callable Go.Proofs.Try.prog 76 := fun args w => Go.Proofs.Try.call76 args w
theorem hf : Go.Proofs.Try.prog.funcs[76]? = some Go.Proofs.Try.f76 := Go.Proofs.Try.func76
theorem hb : Go.Proofs.Try.f76.body = some code := by kernel_rfl
theorem hok : codeOk Go.Proofs.Try.f76.ntmps code = true := by kernel_rfl
theorem run_eq (a0 : AV) : pureOf Go.Proofs.Try.prog CC (draws Go.Proofs.Try.prog CC) K Go.Proofs.Try.f76 code [a0] = thumb_can a0 := by
  unfold pureOf arun
  rw [if_pos (show [a0].length ≤ Go.Proofs.Try.f76.ntmps from (by decide +kernel : 1 ≤ Go.Proofs.Try.f76.ntmps))]
  unfold afin
  rw [show acode Go.Proofs.Try.prog CC (draws Go.Proofs.Try.prog CC) K code (args0 [a0]) AHeap.empty = body thumb_shapes.spec thumb_field.spec (args0 [a0]) AHeap.empty from body_eq thumb_shapes.spec thumb_field.spec _ _]
  kernel_rfl
theorem sound : Sound Go.Proofs.Try.prog 76 (.pure false spec) := by
  refine (sound_pure CS Mixed (draws _ _) K hf hb hok callable).less fun args r h => ?_
  unfold spec at h
  split at h
  · rw [run_eq]; exact h
  · cases h
end thumb_can
namespace thumb_put
noncomputable def code : Code := match Go.Proofs.Try.f77.body with | some c => c | none => .skip
def K : Nat → List Nat
  | 0 => [1]
  | 1 => [1, 3]
  | 2 => [1, 3, 4]
  | 3 => [1, 4, 13, 14]
  | 4 => [1, 4, 13, 14, 15]
  | 5 => [1, 4, 6, 13, 14]
  | 6 => [1, 4, 6, 13, 14, 19]
  | 7 => [1, 4, 13, 14]
  | 8 => [1, 4, 13, 14]
  | 9 => [2]
  | _ => []
noncomputable def CC : Tab := C thumb_shapes.spec thumb_field.spec
theorem CS : CC.Sound Go.Proofs.Try.prog := ((Tab.Sound.none.add thumb_shapes.sound).add thumb_field.sound)
theorem body_eq (s0 : SpecP) (s1 : SpecM) (fr : AFr) (H : AHeap) : acode Go.Proofs.Try.prog (C s0 s1) (draws Go.Proofs.Try.prog (C s0 s1)) K code fr H = body s0 s1 fr H := by kernel_rfl
theorem callable : Callable Go.Proofs.Try.prog 77 := fun args w => Go.Proofs.Try.call77 args w
theorem hf : Go.Proofs.Try.prog.funcs[77]? = some Go.Proofs.Try.f77 := Go.Proofs.Try.func77
theorem hb : Go.Proofs.Try.f77.body = some code := by kernel_rfl
theorem hok : codeOk Go.Proofs.Try.f77.ntmps code = true := by kernel_rfl
theorem run_eq (a0 : AV) : pureOf Go.Proofs.Try.prog CC (draws Go.Proofs.Try.prog CC) K Go.Proofs.Try.f77 code [a0] = thumb_put a0 := by
  unfold pureOf arun
  rw [if_pos (show [a0].length ≤ Go.Proofs.Try.f77.ntmps from (by decide +kernel : 1 ≤ Go.Proofs.Try.f77.ntmps))]
  unfold afin
  rw [show acode Go.Proofs.Try.prog CC (draws Go.Proofs.Try.prog CC) K code (args0 [a0]) AHeap.empty = body thumb_shapes.spec thumb_field.spec (args0 [a0]) AHeap.empty from body_eq thumb_shapes.spec thumb_field.spec _ _]
  kernel_rfl
theorem sound : Sound Go.Proofs.Try.prog 77 (.pure false spec) := by
  refine (sound_pure CS Mixed (draws _ _) K hf hb hok callable).less fun args r h => ?_
  unfold spec at h
  split at h
  · rw [run_eq]; exact h
  · cases h
end thumb_put
namespace thumb_Take
noncomputable def code : Code := match Go.Proofs.Try.f51.body with | some c => c | none => .skip
def K : Nat → List Nat
  | 0 => [0, 2]
  | 1 => [0, 2, 10]
  | 2 => [0, 2, 10, 11]
  | 3 => [0, 2, 4, 10]
  | 4 => [0, 2, 5, 6, 10]
  | 5 => [0, 2, 5, 6, 10, 18, 19]
  | 6 => [0, 2, 5, 6, 10, 18, 19, 20]
  | 7 => [0, 2, 5, 6, 8, 10, 18, 19]
  | 8 => [0, 2, 5, 6, 8, 10, 18, 19, 24]
  | 9 => [0, 2, 5, 6, 8, 9, 10, 18, 19]
  | 10 => [0, 2, 5, 6, 8, 9, 10, 18, 19, 35]
  | 11 => [0, 2, 5, 6, 8, 9, 10, 18, 19]
  | 12 => [0, 2, 5, 6, 8, 9, 10, 18, 19, 55]
  | 13 => [0, 2, 5, 6, 8, 9, 10, 18, 19]
  | 14 => [0, 2, 5, 6, 10, 18, 19]
  | 15 => [0, 2, 5, 6, 10, 18, 19]
  | 16 => [0, 2, 6, 10, 83]
  | 17 => [2, 3]
  | 18 => [0, 2, 10]
  | 19 => [2, 3]
  | _ => []
noncomputable def CC : Tab := C thumb_shapes.spec thumb_field.spec thumb_can.spec thumb_put.spec
theorem CS : CC.Sound Go.Proofs.Try.prog := ((((Tab.Sound.none.add thumb_shapes.sound).add thumb_field.sound).add thumb_can.sound).add thumb_put.sound)
theorem body_eq (s0 : SpecP) (s1 : SpecM) (s2 s3 : SpecP) (fr : AFr) (H : AHeap) : acode Go.Proofs.Try.prog (C s0 s1 s2 s3) (draws Go.Proofs.Try.prog (C s0 s1 s2 s3)) K code fr H = body s0 s1 s2 s3 fr H := by kernel_rfl
theorem callable : Callable Go.Proofs.Try.prog 51 := fun args w => Go.Proofs.Try.call51 args w
theorem hf : Go.Proofs.Try.prog.funcs[51]? = some Go.Proofs.Try.f51 := Go.Proofs.Try.func51
theorem hb : Go.Proofs.Try.f51.body = some code := by kernel_rfl
theorem hok : codeOk Go.Proofs.Try.f51.ntmps code = true := by kernel_rfl
theorem run_eq (a0 : AV) : pureOf Go.Proofs.Try.prog CC (draws Go.Proofs.Try.prog CC) K Go.Proofs.Try.f51 code [a0] = thumb_Take a0 := by
  unfold pureOf arun
  rw [if_pos (show [a0].length ≤ Go.Proofs.Try.f51.ntmps from (by decide +kernel : 1 ≤ Go.Proofs.Try.f51.ntmps))]
  unfold afin
  rw [show acode Go.Proofs.Try.prog CC (draws Go.Proofs.Try.prog CC) K code (args0 [a0]) AHeap.empty = body thumb_shapes.spec thumb_field.spec thumb_can.spec thumb_put.spec (args0 [a0]) AHeap.empty from body_eq thumb_shapes.spec thumb_field.spec thumb_can.spec thumb_put.spec _ _]
  kernel_rfl
theorem sound : Sound Go.Proofs.Try.prog 51 (.pure false spec) := by
  refine (sound_pure CS Mixed (draws _ _) K hf hb hok callable).less fun args r h => ?_
  unfold spec at h
  split at h
  · rw [run_eq]; exact h
  · cases h
end thumb_Take
namespace thumb_Writes
noncomputable def code : Code := match Go.Proofs.Try.f55.body with | some c => c | none => .skip
def K : Nat → List Nat
  | 0 => [1]
  | 1 => [1, 6]
  | 2 => [2, 3]
  | 3 => [1, 8]
  | 4 => [1, 8, 9]
  | 5 => [1, 8, 9]
  | 6 => [1, 8, 9]
  | 7 => [1, 8, 9]
  | 8 => [1, 8, 9]
  | 9 => [1, 8, 9]
  | 10 => [1, 8, 9]
  | 11 => [2, 3]
  | 12 => [1, 17]
  | 13 => [1, 31]
  | 14 => [2, 3]
  | 15 => [2, 3]
  | _ => []
noncomputable def CC : Tab := C thumb_can.spec
theorem CS : CC.Sound Go.Proofs.Try.prog := (Tab.Sound.none.add thumb_can.sound)
theorem body_eq (s0 : SpecP) (fr : AFr) (H : AHeap) : acode Go.Proofs.Try.prog (C s0) (draws Go.Proofs.Try.prog (C s0)) K code fr H = body s0 fr H := by kernel_rfl
theorem callable : Callable Go.Proofs.Try.prog 55 := fun args w => Go.Proofs.Try.call55 args w
theorem hf : Go.Proofs.Try.prog.funcs[55]? = some Go.Proofs.Try.f55 := Go.Proofs.Try.func55
theorem hb : Go.Proofs.Try.f55.body = some code := by kernel_rfl
theorem hok : codeOk Go.Proofs.Try.f55.ntmps code = true := by kernel_rfl
theorem run_eq (a0 : AV) : pureOf Go.Proofs.Try.prog CC (draws Go.Proofs.Try.prog CC) K Go.Proofs.Try.f55 code [a0] = thumb_Writes a0 := by
  unfold pureOf arun
  rw [if_pos (show [a0].length ≤ Go.Proofs.Try.f55.ntmps from (by decide +kernel : 1 ≤ Go.Proofs.Try.f55.ntmps))]
  unfold afin
  rw [show acode Go.Proofs.Try.prog CC (draws Go.Proofs.Try.prog CC) K code (args0 [a0]) AHeap.empty = body thumb_can.spec (args0 [a0]) AHeap.empty from body_eq thumb_can.spec _ _]
  kernel_rfl
theorem sound : Sound Go.Proofs.Try.prog 55 (.pure false spec) := by
  refine (sound_pure CS Mixed (draws _ _) K hf hb hok callable).less fun args r h => ?_
  unfold spec at h
  split at h
  · rw [run_eq]; exact h
  · cases h
end thumb_Writes
end Go.Abs
end
section
set_option linter.unusedSimpArgs false
set_option linter.unusedVariables false
namespace Go.Abs
namespace ref02_Shape
noncomputable def code : Code := match Go.Proofs.Try.f66.body with | some c => c | none => .skip
def K : Nat → List Nat
  | 0 => [0]
  | 1 => [2]
  | _ => []
noncomputable def CC : Tab := C
theorem CS : CC.Sound Go.Proofs.Try.prog := Tab.Sound.none
theorem body_eq (fr : AFr) (H : AHeap) : acode Go.Proofs.Try.prog C (draws Go.Proofs.Try.prog C) K code fr H = body fr H := by kernel_rfl
theorem callable : Callable Go.Proofs.Try.prog 66 := fun args w => Go.Proofs.Try.call66 args w
theorem hf : Go.Proofs.Try.prog.funcs[66]? = some Go.Proofs.Try.f66 := Go.Proofs.Try.func66
theorem hb : Go.Proofs.Try.f66.body = some code := by kernel_rfl
theorem hok : codeOk Go.Proofs.Try.f66.ntmps code = true := by kernel_rfl
theorem run_eq (a0 : AV) : pureOf Go.Proofs.Try.prog CC (draws Go.Proofs.Try.prog CC) K Go.Proofs.Try.f66 code [a0] = ref02_Shape a0 := by
  unfold pureOf arun
  rw [if_pos (show [a0].length ≤ Go.Proofs.Try.f66.ntmps from (by decide +kernel : 1 ≤ Go.Proofs.Try.f66.ntmps))]
  unfold afin
  rw [show acode Go.Proofs.Try.prog CC (draws Go.Proofs.Try.prog CC) K code (args0 [a0]) AHeap.empty = body (args0 [a0]) AHeap.empty from body_eq _ _]
  kernel_rfl
theorem sound : Sound Go.Proofs.Try.prog 66 (.pure false spec) := by
  refine (sound_pure CS Mixed (draws _ _) K hf hb hok callable).less fun args r h => ?_
  unfold spec at h
  split at h
  · rw [run_eq]; exact h
  · cases h
end ref02_Shape
namespace ref02_has
noncomputable def code : Code := match Go.Proofs.Try.f89.body with | some c => c | none => .skip
def K : Nat → List Nat
  | 0 => [0, 1]
  | 1 => [0, 1, 5]
  | 2 => [0, 1, 5, 9]
  | 4 => [0, 1, 5, 16]
  | 5 => [4]
  | 3 => [0, 1, 5]
  | 6 => [4]
  | _ => []
noncomputable def CC : Tab := C
theorem CS : CC.Sound Go.Proofs.Try.prog := Tab.Sound.none
theorem body_eq (fr : AFr) (H : AHeap) : acode Go.Proofs.Try.prog C (draws Go.Proofs.Try.prog C) K code fr H = body fr H := by kernel_rfl
theorem callable : Callable Go.Proofs.Try.prog 89 := fun args w => Go.Proofs.Try.call89 args w
theorem hf : Go.Proofs.Try.prog.funcs[89]? = some Go.Proofs.Try.f89 := Go.Proofs.Try.func89
theorem hb : Go.Proofs.Try.f89.body = some code := by kernel_rfl
theorem hok : codeOk Go.Proofs.Try.f89.ntmps code = true := by kernel_rfl
theorem run_eq (a0 a1 : AV) : pureOf Go.Proofs.Try.prog CC (draws Go.Proofs.Try.prog CC) K Go.Proofs.Try.f89 code [a0, a1] = ref02_has a0 a1 := by
  unfold pureOf arun
  rw [if_pos (show [a0, a1].length ≤ Go.Proofs.Try.f89.ntmps from (by decide +kernel : 2 ≤ Go.Proofs.Try.f89.ntmps))]
  unfold afin
  rw [show acode Go.Proofs.Try.prog CC (draws Go.Proofs.Try.prog CC) K code (args0 [a0, a1]) AHeap.empty = body (args0 [a0, a1]) AHeap.empty from body_eq _ _]
  kernel_rfl
theorem sound : Sound Go.Proofs.Try.prog 89 (.pure false spec) := by
  refine (sound_pure CS Mixed (draws _ _) K hf hb hok callable).less fun args r h => ?_
  unfold spec at h
  split at h
  · rw [run_eq]; exact h
  · cases h
end ref02_has
namespace ref02_Low
noncomputable def code : Code := match Go.Proofs.Try.f84.body with | some c => c | none => .skip
def K : Nat → List Nat
  | 0 => [0]
  | 1 => [2]
  | _ => []
noncomputable def CC : Tab := C
theorem CS : CC.Sound Go.Proofs.Try.prog := Tab.Sound.none
theorem body_eq (fr : AFr) (H : AHeap) : acode Go.Proofs.Try.prog C (draws Go.Proofs.Try.prog C) K code fr H = body fr H := by kernel_rfl
theorem callable : Callable Go.Proofs.Try.prog 84 := fun args w => Go.Proofs.Try.call84 args w
theorem hf : Go.Proofs.Try.prog.funcs[84]? = some Go.Proofs.Try.f84 := Go.Proofs.Try.func84
theorem hb : Go.Proofs.Try.f84.body = some code := by kernel_rfl
theorem hok : codeOk Go.Proofs.Try.f84.ntmps code = true := by kernel_rfl
theorem run_eq (a0 : AV) : pureOf Go.Proofs.Try.prog CC (draws Go.Proofs.Try.prog CC) K Go.Proofs.Try.f84 code [a0] = ref02_Low a0 := by
  unfold pureOf arun
  rw [if_pos (show [a0].length ≤ Go.Proofs.Try.f84.ntmps from (by decide +kernel : 1 ≤ Go.Proofs.Try.f84.ntmps))]
  unfold afin
  rw [show acode Go.Proofs.Try.prog CC (draws Go.Proofs.Try.prog CC) K code (args0 [a0]) AHeap.empty = body (args0 [a0]) AHeap.empty from body_eq _ _]
  kernel_rfl
theorem sound : Sound Go.Proofs.Try.prog 84 (.pure false spec) := by
  refine (sound_pure CS Mixed (draws _ _) K hf hb hok callable).less fun args r h => ?_
  unfold spec at h
  split at h
  · rw [run_eq]; exact h
  · cases h
end ref02_Low
namespace ref02_High
noncomputable def code : Code := match Go.Proofs.Try.f85.body with | some c => c | none => .skip
def K : Nat → List Nat
  | 0 => [0]
  | 1 => [2]
  | _ => []
noncomputable def CC : Tab := C
theorem CS : CC.Sound Go.Proofs.Try.prog := Tab.Sound.none
theorem body_eq (fr : AFr) (H : AHeap) : acode Go.Proofs.Try.prog C (draws Go.Proofs.Try.prog C) K code fr H = body fr H := by kernel_rfl
theorem callable : Callable Go.Proofs.Try.prog 85 := fun args w => Go.Proofs.Try.call85 args w
theorem hf : Go.Proofs.Try.prog.funcs[85]? = some Go.Proofs.Try.f85 := Go.Proofs.Try.func85
theorem hb : Go.Proofs.Try.f85.body = some code := by kernel_rfl
theorem hok : codeOk Go.Proofs.Try.f85.ntmps code = true := by kernel_rfl
theorem run_eq (a0 : AV) : pureOf Go.Proofs.Try.prog CC (draws Go.Proofs.Try.prog CC) K Go.Proofs.Try.f85 code [a0] = ref02_High a0 := by
  unfold pureOf arun
  rw [if_pos (show [a0].length ≤ Go.Proofs.Try.f85.ntmps from (by decide +kernel : 1 ≤ Go.Proofs.Try.f85.ntmps))]
  unfold afin
  rw [show acode Go.Proofs.Try.prog CC (draws Go.Proofs.Try.prog CC) K code (args0 [a0]) AHeap.empty = body (args0 [a0]) AHeap.empty from body_eq _ _]
  kernel_rfl
theorem sound : Sound Go.Proofs.Try.prog 85 (.pure false spec) := by
  refine (sound_pure CS Mixed (draws _ _) K hf hb hok callable).less fun args r h => ?_
  unfold spec at h
  split at h
  · rw [run_eq]; exact h
  · cases h
end ref02_High
namespace ref02_Can
noncomputable def code : Code := match Go.Proofs.Try.f65.body with | some c => c | none => .skip
def K : Nat → List Nat
  | 0 => [1]
  | 1 => [1, 11]
  | 2 => [2]
  | 3 => [1, 3]
  | 4 => [1, 3, 16]
  | 5 => [1, 3, 24]
  | 6 => [2]
  | 7 => [1, 3, 42]
  | 8 => [2]
  | 9 => [2]
  | _ => []
noncomputable def CC : Tab := C ref02_Shape.spec ref02_has.spec ref02_Low.spec ref02_High.spec
theorem CS : CC.Sound Go.Proofs.Try.prog := ((((Tab.Sound.none.add ref02_Shape.sound).add ref02_has.sound).add ref02_Low.sound).add ref02_High.sound)
theorem body_eq (s0 s1 s2 s3 : SpecP) (fr : AFr) (H : AHeap) : acode Go.Proofs.Try.prog (C s0 s1 s2 s3) (draws Go.Proofs.Try.prog (C s0 s1 s2 s3)) K code fr H = body s0 s1 s2 s3 fr H := by kernel_rfl
theorem callable : Callable Go.Proofs.Try.prog 65 := fun args w => Go.Proofs.Try.call65 args w
theorem hf : Go.Proofs.Try.prog.funcs[65]? = some Go.Proofs.Try.f65 := Go.Proofs.Try.func65
theorem hb : Go.Proofs.Try.f65.body = some code := by kernel_rfl
theorem hok : codeOk Go.Proofs.Try.f65.ntmps code = true := by kernel_rfl
theorem run_eq (a0 : AV) : pureOf Go.Proofs.Try.prog CC (draws Go.Proofs.Try.prog CC) K Go.Proofs.Try.f65 code [a0] = ref02_Can a0 := by
  unfold pureOf arun
  rw [if_pos (show [a0].length ≤ Go.Proofs.Try.f65.ntmps from (by decide +kernel : 1 ≤ Go.Proofs.Try.f65.ntmps))]
  unfold afin
  rw [show acode Go.Proofs.Try.prog CC (draws Go.Proofs.Try.prog CC) K code (args0 [a0]) AHeap.empty = body ref02_Shape.spec ref02_has.spec ref02_Low.spec ref02_High.spec (args0 [a0]) AHeap.empty from body_eq ref02_Shape.spec ref02_has.spec ref02_Low.spec ref02_High.spec _ _]
  kernel_rfl
theorem sound : Sound Go.Proofs.Try.prog 65 (.pure false spec) := by
  refine (sound_pure CS Mixed (draws _ _) K hf hb hok callable).less fun args r h => ?_
  unfold spec at h
  split at h
  · rw [run_eq]; exact h
  · cases h
end ref02_Can
namespace ref02_Writes
noncomputable def code : Code := match Go.Proofs.Try.f24.body with | some c => c | none => .skip
def K : Nat → List Nat
  | 0 => [1]
  | 1 => [1, 4]
  | 2 => [1, 44]
  | 3 => [2, 3]
  | 4 => [2, 3]
  | _ => []
noncomputable def CC : Tab := C ref02_Can.spec
theorem CS : CC.Sound Go.Proofs.Try.prog := (Tab.Sound.none.add ref02_Can.sound)
theorem body_eq (s0 : SpecP) (fr : AFr) (H : AHeap) : acode Go.Proofs.Try.prog (C s0) (draws Go.Proofs.Try.prog (C s0)) K code fr H = body s0 fr H := by kernel_rfl
theorem callable : Callable Go.Proofs.Try.prog 24 := fun args w => Go.Proofs.Try.call24 args w
theorem hf : Go.Proofs.Try.prog.funcs[24]? = some Go.Proofs.Try.f24 := Go.Proofs.Try.func24
theorem hb : Go.Proofs.Try.f24.body = some code := by kernel_rfl
theorem hok : codeOk Go.Proofs.Try.f24.ntmps code = true := by kernel_rfl
theorem run_eq (a0 : AV) : pureOf Go.Proofs.Try.prog CC (draws Go.Proofs.Try.prog CC) K Go.Proofs.Try.f24 code [a0] = ref02_Writes a0 := by
  unfold pureOf arun
  rw [if_pos (show [a0].length ≤ Go.Proofs.Try.f24.ntmps from (by decide +kernel : 1 ≤ Go.Proofs.Try.f24.ntmps))]
  unfold afin
  rw [show acode Go.Proofs.Try.prog CC (draws Go.Proofs.Try.prog CC) K code (args0 [a0]) AHeap.empty = body ref02_Can.spec (args0 [a0]) AHeap.empty from body_eq ref02_Can.spec _ _]
  kernel_rfl
theorem sound : Sound Go.Proofs.Try.prog 24 (.pure false spec) := by
  refine (sound_pure CS Mixed (draws _ _) K hf hb hok callable).less fun args r h => ?_
  unfold spec at h
  split at h
  · rw [run_eq]; exact h
  · cases h
end ref02_Writes
namespace ref02_Take
noncomputable def code : Code := match Go.Proofs.Try.f57.body with | some c => c | none => .skip
def K : Nat → List Nat
  | 0 => [0, 2]
  | 1 => [0, 2, 4]
  | 2 => [0, 2, 4, 13]
  | 4 => [0, 2, 4, 5, 6, 7, 8]
  | 5 => [0, 2, 4, 5, 6, 7, 8, 9]
  | 6 => [0, 2, 4, 5, 6, 7, 8, 9, 10]
  | 7 => [0, 2, 4, 5, 6, 7, 8, 9, 10, 23]
  | 9 => [0, 2, 4, 5, 6, 7, 8, 9, 10, 11]
  | 10 => [0, 2, 4, 5, 6, 7, 8, 9, 10, 11, 27]
  | 11 => [0, 2, 4, 5, 6, 7, 8, 9, 10, 11]
  | 12 => [0, 2, 4, 5, 6, 7, 8, 9, 10, 11]
  | 13 => [0, 2, 4, 5, 6, 7, 8, 9, 10, 11, 34]
  | 14 => [0, 2, 4, 5, 6, 7, 8, 9, 10, 11, 34, 35]
  | 15 => [0, 2, 4, 5, 6, 7, 8, 9, 10, 11, 34, 35]
  | 16 => [0, 2, 4, 5, 6, 7, 8, 9, 10]
  | 17 => [0, 2, 4, 5, 6, 7, 8, 9, 10, 11, 34, 48]
  | 18 => [0, 2, 4, 5, 6, 7, 8, 9, 10, 11, 34, 48]
  | 19 => [0, 2, 4, 5, 6, 7, 8, 9, 10]
  | 20 => [0, 2, 4, 5, 6, 7, 8, 9, 10, 11, 34, 57]
  | 21 => [0, 2, 4, 5, 6, 7, 8, 9, 10]
  | 22 => [0, 2, 4, 5, 6, 7, 8, 9, 10, 11, 34, 65]
  | 23 => [0, 2, 4, 5, 6, 7, 8, 9, 10]
  | 24 => [0, 2, 4, 5, 6, 7, 8, 9, 10, 11, 73]
  | 25 => [0, 2, 4, 5, 6, 7, 8, 9, 10]
  | 8 => [0, 2, 4, 5, 6, 7, 8, 9, 10]
  | 26 => [0, 2, 4, 6, 7, 8, 92]
  | 27 => [0, 2, 4, 6, 7]
  | 28 => [0, 2, 4, 6, 7, 105]
  | 29 => [0, 2, 4, 6, 7]
  | 30 => [0, 2, 4, 6, 111]
  | 31 => [2, 3]
  | 3 => [0, 2, 4]
  | 32 => [2, 3]
  | _ => []
noncomputable def CC : Tab := C ref02_Shape.spec ref02_Low.spec ref02_High.spec ref02_Can.spec
theorem CS : CC.Sound Go.Proofs.Try.prog := ((((Tab.Sound.none.add ref02_Shape.sound).add ref02_Low.sound).add ref02_High.sound).add ref02_Can.sound)
theorem body_eq (s0 s1 s2 s3 : SpecP) (fr : AFr) (H : AHeap) : acode Go.Proofs.Try.prog (C s0 s1 s2 s3) (draws Go.Proofs.Try.prog (C s0 s1 s2 s3)) K code fr H = body s0 s1 s2 s3 fr H := by kernel_rfl
theorem callable : Callable Go.Proofs.Try.prog 57 := fun args w => Go.Proofs.Try.call57 args w
theorem hf : Go.Proofs.Try.prog.funcs[57]? = some Go.Proofs.Try.f57 := Go.Proofs.Try.func57
theorem hb : Go.Proofs.Try.f57.body = some code := by kernel_rfl
theorem hok : codeOk Go.Proofs.Try.f57.ntmps code = true := by kernel_rfl
theorem run_eq (a0 : AV) : pureOf Go.Proofs.Try.prog CC (draws Go.Proofs.Try.prog CC) K Go.Proofs.Try.f57 code [a0] = ref02_Take a0 := by
  unfold pureOf arun
  rw [if_pos (show [a0].length ≤ Go.Proofs.Try.f57.ntmps from (by decide +kernel : 1 ≤ Go.Proofs.Try.f57.ntmps))]
  unfold afin
  rw [show acode Go.Proofs.Try.prog CC (draws Go.Proofs.Try.prog CC) K code (args0 [a0]) AHeap.empty = body ref02_Shape.spec ref02_Low.spec ref02_High.spec ref02_Can.spec (args0 [a0]) AHeap.empty from body_eq ref02_Shape.spec ref02_Low.spec ref02_High.spec ref02_Can.spec _ _]
  kernel_rfl
theorem sound : Sound Go.Proofs.Try.prog 57 (.pure false spec) := by
  refine (sound_pure CS Mixed (draws _ _) K hf hb hok callable).less fun args r h => ?_
  unfold spec at h
  split at h
  · rw [run_eq]; exact h
  · cases h
end ref02_Take
end Go.Abs
end
section
set_option linter.unusedSimpArgs false
set_option linter.unusedVariables false
namespace Go.Abs
namespace slices_Clone_uint16
noncomputable def code : Code := match Go.Proofs.Try.f48.body with | some c => c | none => .skip
def K : Nat → List Nat
  | 0 => [0]
  | 1 => [0, 4]
  | 2 => [2]
  | 3 => [2]
  | _ => []
noncomputable def CC : Tab := C
theorem CS : CC.Sound Go.Proofs.Try.prog := Tab.Sound.none
theorem body_eq (fr : AFr) (H : AHeap) : acode Go.Proofs.Try.prog C (draws Go.Proofs.Try.prog C) K code fr H = body fr H := by kernel_rfl
theorem callable : Callable Go.Proofs.Try.prog 48 := fun args w => Go.Proofs.Try.call48 args w
theorem hf : Go.Proofs.Try.prog.funcs[48]? = some Go.Proofs.Try.f48 := Go.Proofs.Try.func48
theorem hb : Go.Proofs.Try.f48.body = some code := by kernel_rfl
theorem hok : codeOk Go.Proofs.Try.f48.ntmps code = true := by kernel_rfl
theorem run_eq (a0 : AV) : copyOf Go.Proofs.Try.prog CC (draws Go.Proofs.Try.prog CC) K Go.Proofs.Try.f48 code [a0] = slices_Clone_uint16.run a0 := by
  unfold copyOf arun
  rw [if_pos (show [a0].length ≤ Go.Proofs.Try.f48.ntmps from (by decide +kernel : 1 ≤ Go.Proofs.Try.f48.ntmps))]
  unfold afin
  rw [show acode Go.Proofs.Try.prog CC (draws Go.Proofs.Try.prog CC) K code (args0 [a0]) AHeap.empty = body (args0 [a0]) AHeap.empty from body_eq _ _]
  kernel_rfl
theorem run_sound : Sound Go.Proofs.Try.prog 48 (.pure true run.spec) := by
  refine (sound_copy CS Mixed (draws _ _) K hf hb hok callable).less fun args r h => ?_
  unfold run.spec at h
  split at h
  · rw [run_eq]; exact h
  · cases h
theorem sound : Sound Go.Proofs.Try.prog 48 (.pure true spec) := run_sound.clone (by simp [run.spec, run, body, r0, r1, r2, r3, res, op, lift, areg, aseq, acond, AFr.al, args0, args0L, afinR, res2, abinR, eqRes, copyUpR, copyCell, closeUpR, frzArgs, frz, frzCell, mkRes, abuildSliceR, reps, afill, AV.isCell, AV.flat, AHeap.push, AHeap.set, AHeap.empty, aappendR, rowsOf, chunks]) (by simp [run.spec, run, body, r0, r1, r2, r3, res, op, lift, areg, aseq, acond, AFr.al, args0, args0L, afinR, res2, abinR, eqRes, copyUpR, copyCell, closeUpR, frzArgs, frz, frzCell, mkRes, abuildSliceR, reps, afill, AV.isCell, AV.flat, AHeap.push, AHeap.set, AHeap.empty, aappendR, rowsOf, chunks]) fun r rows h hb => by
  have h1 : ((r :: rows).all fun row => row.all AV.noSlC) = true := List.all_eq_true.2 fun x hx => by
    have := List.all_eq_true.1 h x hx
    simp only [Bool.and_eq_true] at this
    exact this.2
  simp [run.spec, run, body, r0, r1, r2, r3, res, op, lift, areg, aseq, acond, AFr.al, args0, args0L, afinR, res2, abinR, eqRes, copyUpR, copyCell, closeUpR, frzArgs, frz, frzCell, mkRes, abuildSliceR, reps, afill, AV.isCell, AV.flat, AHeap.push, AHeap.set, AHeap.empty, aappendR, rowsOf, chunks, -List.all_eq_true, -List.all_cons, hb, h1]
end slices_Clone_uint16
namespace slices_Clone_uint32
noncomputable def code : Code := match Go.Proofs.Try.f49.body with | some c => c | none => .skip
def K : Nat → List Nat
  | 0 => [0]
  | 1 => [0, 4]
  | 2 => [2]
  | 3 => [2]
  | _ => []
noncomputable def CC : Tab := C
theorem CS : CC.Sound Go.Proofs.Try.prog := Tab.Sound.none
theorem body_eq (fr : AFr) (H : AHeap) : acode Go.Proofs.Try.prog C (draws Go.Proofs.Try.prog C) K code fr H = body fr H := by kernel_rfl
theorem callable : Callable Go.Proofs.Try.prog 49 := fun args w => Go.Proofs.Try.call49 args w
theorem hf : Go.Proofs.Try.prog.funcs[49]? = some Go.Proofs.Try.f49 := Go.Proofs.Try.func49
theorem hb : Go.Proofs.Try.f49.body = some code := by kernel_rfl
theorem hok : codeOk Go.Proofs.Try.f49.ntmps code = true := by kernel_rfl
theorem run_eq (a0 : AV) : copyOf Go.Proofs.Try.prog CC (draws Go.Proofs.Try.prog CC) K Go.Proofs.Try.f49 code [a0] = slices_Clone_uint32.run a0 := by
  unfold copyOf arun
  rw [if_pos (show [a0].length ≤ Go.Proofs.Try.f49.ntmps from (by decide +kernel : 1 ≤ Go.Proofs.Try.f49.ntmps))]
  unfold afin
  rw [show acode Go.Proofs.Try.prog CC (draws Go.Proofs.Try.prog CC) K code (args0 [a0]) AHeap.empty = body (args0 [a0]) AHeap.empty from body_eq _ _]
  kernel_rfl
theorem run_sound : Sound Go.Proofs.Try.prog 49 (.pure true run.spec) := by
  refine (sound_copy CS Mixed (draws _ _) K hf hb hok callable).less fun args r h => ?_
  unfold run.spec at h
  split at h
  · rw [run_eq]; exact h
  · cases h
theorem sound : Sound Go.Proofs.Try.prog 49 (.pure true spec) := run_sound.clone (by simp [run.spec, run, body, r0, r1, r2, r3, res, op, lift, areg, aseq, acond, AFr.al, args0, args0L, afinR, res2, abinR, eqRes, copyUpR, copyCell, closeUpR, frzArgs, frz, frzCell, mkRes, abuildSliceR, reps, afill, AV.isCell, AV.flat, AHeap.push, AHeap.set, AHeap.empty, aappendR, rowsOf, chunks]) (by simp [run.spec, run, body, r0, r1, r2, r3, res, op, lift, areg, aseq, acond, AFr.al, args0, args0L, afinR, res2, abinR, eqRes, copyUpR, copyCell, closeUpR, frzArgs, frz, frzCell, mkRes, abuildSliceR, reps, afill, AV.isCell, AV.flat, AHeap.push, AHeap.set, AHeap.empty, aappendR, rowsOf, chunks]) fun r rows h hb => by
  have h1 : ((r :: rows).all fun row => row.all AV.noSlC) = true := List.all_eq_true.2 fun x hx => by
    have := List.all_eq_true.1 h x hx
    simp only [Bool.and_eq_true] at this
    exact this.2
  simp [run.spec, run, body, r0, r1, r2, r3, res, op, lift, areg, aseq, acond, AFr.al, args0, args0L, afinR, res2, abinR, eqRes, copyUpR, copyCell, closeUpR, frzArgs, frz, frzCell, mkRes, abuildSliceR, reps, afill, AV.isCell, AV.flat, AHeap.push, AHeap.set, AHeap.empty, aappendR, rowsOf, chunks, -List.all_eq_true, -List.all_cons, hb, h1]
end slices_Clone_uint32
namespace mem_New
noncomputable def code : Code := match Go.Proofs.Try.f15.body with | some c => c | none => .skip
def K : Nat → List Nat
  | 0 => [0, 1, 2]
  | 1 => [6]
  | _ => []
noncomputable def CC : Tab := C slices_Clone_uint16.spec slices_Clone_uint32.spec
theorem CS : CC.Sound Go.Proofs.Try.prog := ((Tab.Sound.none.add slices_Clone_uint16.sound).add slices_Clone_uint32.sound)
theorem body_eq (s0 s1 : SpecP) (fr : AFr) (H : AHeap) : acode Go.Proofs.Try.prog (C s0 s1) (draws Go.Proofs.Try.prog (C s0 s1)) K code fr H = body s0 s1 fr H := by kernel_rfl
theorem callable : Callable Go.Proofs.Try.prog 15 := fun args w => Go.Proofs.Try.call15 args w
theorem hf : Go.Proofs.Try.prog.funcs[15]? = some Go.Proofs.Try.f15 := Go.Proofs.Try.func15
theorem hb : Go.Proofs.Try.f15.body = some code := by kernel_rfl
theorem hok : codeOk Go.Proofs.Try.f15.ntmps code = true := by kernel_rfl
theorem run_eq (a0 a1 a2 : AV) (H : AHeap) : refOf Go.Proofs.Try.prog CC (draws Go.Proofs.Try.prog CC) K Go.Proofs.Try.f15 code [a0, a1, a2] H = mem_New a0 a1 a2 H := by
  unfold refOf arun
  rw [if_pos (show [a0, a1, a2].length ≤ Go.Proofs.Try.f15.ntmps from (by decide +kernel : 3 ≤ Go.Proofs.Try.f15.ntmps))]
  unfold afin
  rw [show acode Go.Proofs.Try.prog CC (draws Go.Proofs.Try.prog CC) K code (args0 [a0, a1, a2]) H = body slices_Clone_uint16.spec slices_Clone_uint32.spec (args0 [a0, a1, a2]) H from body_eq slices_Clone_uint16.spec slices_Clone_uint32.spec _ _]
  kernel_rfl
theorem sound : Sound Go.Proofs.Try.prog 15 (.ref [true, false, true] spec) := by
  refine (sound_ref CS Mixed (draws _ _) K hf hb hok callable [true, false, true]).lessR fun args H r h => ?_
  unfold spec at h
  split at h
  · rw [run_eq]; exact h
  · cases h
end mem_New
namespace mem_Mem_Words
noncomputable def code : Code := match Go.Proofs.Try.f20.body with | some c => c | none => .skip
def K : Nat → List Nat
  | 0 => [0]
  | 1 => [2]
  | _ => []
noncomputable def CC : Tab := C slices_Clone_uint32.spec
theorem CS : CC.Sound Go.Proofs.Try.prog := (Tab.Sound.none.add slices_Clone_uint32.sound)
theorem body_eq (s0 : SpecP) (fr : AFr) (H : AHeap) : acode Go.Proofs.Try.prog (C s0) (draws Go.Proofs.Try.prog (C s0)) K code fr H = body s0 fr H := by kernel_rfl
theorem callable : Callable Go.Proofs.Try.prog 20 := fun args w => Go.Proofs.Try.call20 args w
theorem hf : Go.Proofs.Try.prog.funcs[20]? = some Go.Proofs.Try.f20 := Go.Proofs.Try.func20
theorem hb : Go.Proofs.Try.f20.body = some code := by kernel_rfl
theorem hok : codeOk Go.Proofs.Try.f20.ntmps code = true := by kernel_rfl
theorem run_eq (a0 : AV) (H : AHeap) : refT Go.Proofs.Try.prog CC (draws Go.Proofs.Try.prog CC) K Go.Proofs.Try.f20 code [a0] H = mem_Mem_Words a0 H := by
  unfold refT arun
  rw [if_pos (show [a0].length ≤ Go.Proofs.Try.f20.ntmps from (by decide +kernel : 1 ≤ Go.Proofs.Try.f20.ntmps))]
  unfold afin
  rw [show acode Go.Proofs.Try.prog CC (draws Go.Proofs.Try.prog CC) K code (args0 [a0]) H = body slices_Clone_uint32.spec (args0 [a0]) H from body_eq slices_Clone_uint32.spec _ _]
  kernel_rfl
theorem sound : Sound Go.Proofs.Try.prog 20 (.ref [false] spec) := by
  refine (sound_refT CS Mixed (draws _ _) K hf hb hok callable [false]).lessR fun args H r h => ?_
  unfold spec at h
  split at h
  · rw [run_eq]; exact h
  · cases h
end mem_Mem_Words
namespace mem_Mem_there
noncomputable def code : Code := match Go.Proofs.Try.f67.body with | some c => c | none => .skip
def K : Nat → List Nat
  | 0 => [0, 1]
  | 1 => [4]
  | _ => []
noncomputable def CC : Tab := C
theorem CS : CC.Sound Go.Proofs.Try.prog := Tab.Sound.none
theorem body_eq (fr : AFr) (H : AHeap) : acode Go.Proofs.Try.prog C (draws Go.Proofs.Try.prog C) K code fr H = body fr H := by kernel_rfl
theorem callable : Callable Go.Proofs.Try.prog 67 := fun args w => Go.Proofs.Try.call67 args w
theorem hf : Go.Proofs.Try.prog.funcs[67]? = some Go.Proofs.Try.f67 := Go.Proofs.Try.func67
theorem hb : Go.Proofs.Try.f67.body = some code := by kernel_rfl
theorem hok : codeOk Go.Proofs.Try.f67.ntmps code = true := by kernel_rfl
theorem run_eq (a0 a1 : AV) (H : AHeap) : refT Go.Proofs.Try.prog CC (draws Go.Proofs.Try.prog CC) K Go.Proofs.Try.f67 code [a0, a1] H = mem_Mem_there a0 a1 H := by
  unfold refT arun
  rw [if_pos (show [a0, a1].length ≤ Go.Proofs.Try.f67.ntmps from (by decide +kernel : 2 ≤ Go.Proofs.Try.f67.ntmps))]
  unfold afin
  rw [show acode Go.Proofs.Try.prog CC (draws Go.Proofs.Try.prog CC) K code (args0 [a0, a1]) H = body (args0 [a0, a1]) H from body_eq _ _]
  kernel_rfl
theorem sound : Sound Go.Proofs.Try.prog 67 (.ref [false, false] spec) := by
  refine (sound_refT CS Mixed (draws _ _) K hf hb hok callable [false, false]).lessR fun args H r h => ?_
  unfold spec at h
  split at h
  · rw [run_eq]; exact h
  · cases h
end mem_Mem_there
namespace mem_Mem_Set
noncomputable def code : Code := match Go.Proofs.Try.f25.body with | some c => c | none => .skip
def K : Nat → List Nat
  | 0 => [0, 1, 2]
  | 1 => [0, 1, 2, 10]
  | 2 => [6]
  | 3 => []
  | 4 => [6]
  | _ => []
noncomputable def CC : Tab := C mem_Mem_there.spec
theorem CS : CC.Sound Go.Proofs.Try.prog := (Tab.Sound.none.add mem_Mem_there.sound)
theorem body_eq (s0 : SpecM) (fr : AFr) (H : AHeap) : acode Go.Proofs.Try.prog (C s0) (draws Go.Proofs.Try.prog (C s0)) K code fr H = body s0 fr H := by kernel_rfl
theorem callable : Callable Go.Proofs.Try.prog 25 := fun args w => Go.Proofs.Try.call25 args w
theorem hf : Go.Proofs.Try.prog.funcs[25]? = some Go.Proofs.Try.f25 := Go.Proofs.Try.func25
theorem hb : Go.Proofs.Try.f25.body = some code := by kernel_rfl
theorem hok : codeOk Go.Proofs.Try.f25.ntmps code = true := by kernel_rfl
theorem run_eq (a0 a1 a2 : AV) (H : AHeap) : refT Go.Proofs.Try.prog CC (draws Go.Proofs.Try.prog CC) K Go.Proofs.Try.f25 code [a0, a1, a2] H = mem_Mem_Set a0 a1 a2 H := by
  unfold refT arun
  rw [if_pos (show [a0, a1, a2].length ≤ Go.Proofs.Try.f25.ntmps from (by decide +kernel : 3 ≤ Go.Proofs.Try.f25.ntmps))]
  unfold afin
  rw [show acode Go.Proofs.Try.prog CC (draws Go.Proofs.Try.prog CC) K code (args0 [a0, a1, a2]) H = body mem_Mem_there.spec (args0 [a0, a1, a2]) H from body_eq mem_Mem_there.spec _ _]
  kernel_rfl
theorem sound : Sound Go.Proofs.Try.prog 25 (.ref [false, false, false] spec) := by
  refine (sound_refT CS Mixed (draws _ _) K hf hb hok callable [false, false, false]).lessR fun args H r h => ?_
  unfold spec at h
  split at h
  · rw [run_eq]; exact h
  · cases h
end mem_Mem_Set
namespace mem_Mem_Bus
noncomputable def code : Code := match Go.Proofs.Try.f26.body with | some c => c | none => .skip
def K : Nat → List Nat
  | 0 => [0]
  | 1 => [2]
  | _ => []
noncomputable def CC : Tab := C
theorem CS : CC.Sound Go.Proofs.Try.prog := Tab.Sound.none
theorem body_eq (fr : AFr) (H : AHeap) : acode Go.Proofs.Try.prog C (draws Go.Proofs.Try.prog C) K code fr H = body fr H := by kernel_rfl
theorem callable : Callable Go.Proofs.Try.prog 26 := fun args w => Go.Proofs.Try.call26 args w
theorem hf : Go.Proofs.Try.prog.funcs[26]? = some Go.Proofs.Try.f26 := Go.Proofs.Try.func26
theorem hb : Go.Proofs.Try.f26.body = some code := by kernel_rfl
theorem hok : codeOk Go.Proofs.Try.f26.ntmps code = true := by kernel_rfl
theorem run_eq (a0 : AV) (H : AHeap) : refT Go.Proofs.Try.prog CC (draws Go.Proofs.Try.prog CC) K Go.Proofs.Try.f26 code [a0] H = mem_Mem_Bus a0 H := by
  unfold refT arun
  rw [if_pos (show [a0].length ≤ Go.Proofs.Try.f26.ntmps from (by decide +kernel : 1 ≤ Go.Proofs.Try.f26.ntmps))]
  unfold afin
  rw [show acode Go.Proofs.Try.prog CC (draws Go.Proofs.Try.prog CC) K code (args0 [a0]) H = body (args0 [a0]) H from body_eq _ _]
  kernel_rfl
theorem sound : Sound Go.Proofs.Try.prog 26 (.ref [false] spec) := by
  refine (sound_refT CS Mixed (draws _ _) K hf hb hok callable [false]).lessR fun args H r h => ?_
  unfold spec at h
  split at h
  · rw [run_eq]; exact h
  · cases h
end mem_Mem_Bus
namespace mem_Mem_Drawn
noncomputable def code : Code := match Go.Proofs.Try.f27.body with | some c => c | none => .skip
def K : Nat → List Nat
  | 0 => [0]
  | 1 => [2]
  | _ => []
noncomputable def CC : Tab := C
theorem CS : CC.Sound Go.Proofs.Try.prog := Tab.Sound.none
theorem body_eq (fr : AFr) (H : AHeap) : acode Go.Proofs.Try.prog C (draws Go.Proofs.Try.prog C) K code fr H = body fr H := by kernel_rfl
theorem callable : Callable Go.Proofs.Try.prog 27 := fun args w => Go.Proofs.Try.call27 args w
theorem hf : Go.Proofs.Try.prog.funcs[27]? = some Go.Proofs.Try.f27 := Go.Proofs.Try.func27
theorem hb : Go.Proofs.Try.f27.body = some code := by kernel_rfl
theorem hok : codeOk Go.Proofs.Try.f27.ntmps code = true := by kernel_rfl
theorem run_eq (a0 : AV) (H : AHeap) : refT Go.Proofs.Try.prog CC (draws Go.Proofs.Try.prog CC) K Go.Proofs.Try.f27 code [a0] H = mem_Mem_Drawn a0 H := by
  unfold refT arun
  rw [if_pos (show [a0].length ≤ Go.Proofs.Try.f27.ntmps from (by decide +kernel : 1 ≤ Go.Proofs.Try.f27.ntmps))]
  unfold afin
  rw [show acode Go.Proofs.Try.prog CC (draws Go.Proofs.Try.prog CC) K code (args0 [a0]) H = body (args0 [a0]) H from body_eq _ _]
  kernel_rfl
theorem sound : Sound Go.Proofs.Try.prog 27 (.ref [false] spec) := by
  refine (sound_refT CS Mixed (draws _ _) K hf hb hok callable [false]).lessR fun args H r h => ?_
  unfold spec at h
  split at h
  · rw [run_eq]; exact h
  · cases h
end mem_Mem_Drawn
namespace mem_Mem_place
noncomputable def code : Code := match Go.Proofs.Try.f90.body with | some c => c | none => .skip
def K : Nat → List Nat
  | 0 => [0, 1]
  | 1 => [0, 1, 6]
  | 2 => [4, 5]
  | _ => []
noncomputable def CC : Tab := C
theorem CS : CC.Sound Go.Proofs.Try.prog := Tab.Sound.none
theorem body_eq (fr : AFr) (H : AHeap) : acode Go.Proofs.Try.prog C (draws Go.Proofs.Try.prog C) K code fr H = body fr H := by kernel_rfl
theorem callable : Callable Go.Proofs.Try.prog 90 := fun args w => Go.Proofs.Try.call90 args w
theorem hf : Go.Proofs.Try.prog.funcs[90]? = some Go.Proofs.Try.f90 := Go.Proofs.Try.func90
theorem hb : Go.Proofs.Try.f90.body = some code := by kernel_rfl
theorem hok : codeOk Go.Proofs.Try.f90.ntmps code = true := by kernel_rfl
theorem run_eq (a0 a1 : AV) (H : AHeap) : refT Go.Proofs.Try.prog CC (draws Go.Proofs.Try.prog CC) K Go.Proofs.Try.f90 code [a0, a1] H = mem_Mem_place a0 a1 H := by
  unfold refT arun
  rw [if_pos (show [a0, a1].length ≤ Go.Proofs.Try.f90.ntmps from (by decide +kernel : 2 ≤ Go.Proofs.Try.f90.ntmps))]
  unfold afin
  rw [show acode Go.Proofs.Try.prog CC (draws Go.Proofs.Try.prog CC) K code (args0 [a0, a1]) H = body (args0 [a0, a1]) H from body_eq _ _]
  kernel_rfl
theorem sound : Sound Go.Proofs.Try.prog 90 (.ref [false, false] spec) := by
  refine (sound_refT CS Mixed (draws _ _) K hf hb hok callable [false, false]).lessR fun args H r h => ?_
  unfold spec at h
  split at h
  · rw [run_eq]; exact h
  · cases h
end mem_Mem_place
namespace mem_Mem_load
noncomputable def code : Code := match Go.Proofs.Try.f71.body with | some c => c | none => .skip
def K : Nat → List Nat
  | 0 => [0, 1]
  | 1 => [0, 1, 11]
  | 2 => [4, 5]
  | 3 => [0, 1, 13]
  | 4 => [0, 23]
  | 5 => [4, 5]
  | 6 => [0]
  | 7 => [4, 5]
  | 8 => [0, 1, 6, 7]
  | 9 => [0, 1, 6, 48]
  | 10 => [4, 5]
  | 11 => [0, 8]
  | 12 => [0, 8, 66]
  | 13 => [4, 5]
  | 14 => [4, 5]
  | _ => []
noncomputable def CC : Tab := C mem_Mem_place.spec
theorem CS : CC.Sound Go.Proofs.Try.prog := (Tab.Sound.none.add mem_Mem_place.sound)
theorem body_eq (s0 : SpecM) (fr : AFr) (H : AHeap) : acode Go.Proofs.Try.prog (C s0) (draws Go.Proofs.Try.prog (C s0)) K code fr H = body s0 fr H := by kernel_rfl
theorem callable : Callable Go.Proofs.Try.prog 71 := fun args w => Go.Proofs.Try.call71 args w
theorem hf : Go.Proofs.Try.prog.funcs[71]? = some Go.Proofs.Try.f71 := Go.Proofs.Try.func71
theorem hb : Go.Proofs.Try.f71.body = some code := by kernel_rfl
theorem hok : codeOk Go.Proofs.Try.f71.ntmps code = true := by kernel_rfl
theorem run_eq (a0 a1 : AV) (H : AHeap) : refT Go.Proofs.Try.prog CC (draws Go.Proofs.Try.prog CC) K Go.Proofs.Try.f71 code [a0, a1] H = mem_Mem_load a0 a1 H := by
  unfold refT arun
  rw [if_pos (show [a0, a1].length ≤ Go.Proofs.Try.f71.ntmps from (by decide +kernel : 2 ≤ Go.Proofs.Try.f71.ntmps))]
  unfold afin
  rw [show acode Go.Proofs.Try.prog CC (draws Go.Proofs.Try.prog CC) K code (args0 [a0, a1]) H = body mem_Mem_place.spec (args0 [a0, a1]) H from body_eq mem_Mem_place.spec _ _]
  kernel_rfl
theorem sound : Sound Go.Proofs.Try.prog 71 (.ref [false, false] spec) := by
  refine (sound_refT CS Mixed (draws _ _) K hf hb hok callable [false, false]).lessR fun args H r h => ?_
  unfold spec at h
  split at h
  · rw [run_eq]; exact h
  · cases h
end mem_Mem_load
namespace mem_Mem_Load
noncomputable def code : Code := match Go.Proofs.Try.f34.body with | some c => c | none => .skip
def K : Nat → List Nat
  | 0 => [0, 1]
  | 1 => [0, 6, 7]
  | 2 => [0, 6, 7, 15]
  | 3 => [6, 7]
  | 4 => [4, 5]
  | _ => []
noncomputable def CC : Tab := C mem_Mem_load.spec
theorem CS : CC.Sound Go.Proofs.Try.prog := (Tab.Sound.none.add mem_Mem_load.sound)
theorem body_eq (s0 : SpecM) (fr : AFr) (H : AHeap) : acode Go.Proofs.Try.prog (C s0) (draws Go.Proofs.Try.prog (C s0)) K code fr H = body s0 fr H := by kernel_rfl
theorem callable : Callable Go.Proofs.Try.prog 34 := fun args w => Go.Proofs.Try.call34 args w
theorem hf : Go.Proofs.Try.prog.funcs[34]? = some Go.Proofs.Try.f34 := Go.Proofs.Try.func34
theorem hb : Go.Proofs.Try.f34.body = some code := by kernel_rfl
theorem hok : codeOk Go.Proofs.Try.f34.ntmps code = true := by kernel_rfl
theorem run_eq (a0 a1 : AV) (H : AHeap) : refT Go.Proofs.Try.prog CC (draws Go.Proofs.Try.prog CC) K Go.Proofs.Try.f34 code [a0, a1] H = mem_Mem_Load a0 a1 H := by
  unfold refT arun
  rw [if_pos (show [a0, a1].length ≤ Go.Proofs.Try.f34.ntmps from (by decide +kernel : 2 ≤ Go.Proofs.Try.f34.ntmps))]
  unfold afin
  rw [show acode Go.Proofs.Try.prog CC (draws Go.Proofs.Try.prog CC) K code (args0 [a0, a1]) H = body mem_Mem_load.spec (args0 [a0, a1]) H from body_eq mem_Mem_load.spec _ _]
  kernel_rfl
theorem sound : Sound Go.Proofs.Try.prog 34 (.ref [false, false] spec) := by
  refine (sound_refT CS Mixed (draws _ _) K hf hb hok callable [false, false]).lessR fun args H r h => ?_
  unfold spec at h
  split at h
  · rw [run_eq]; exact h
  · cases h
end mem_Mem_Load
namespace mem_Mem_Fetch
noncomputable def code : Code := match Go.Proofs.Try.f50.body with | some c => c | none => .skip
def K : Nat → List Nat
  | 0 => [0, 1]
  | 1 => [0, 1, 19]
  | 2 => [4, 5]
  | 3 => [4, 5]
  | _ => []
noncomputable def CC : Tab := C
theorem CS : CC.Sound Go.Proofs.Try.prog := Tab.Sound.none
theorem body_eq (fr : AFr) (H : AHeap) : acode Go.Proofs.Try.prog C (draws Go.Proofs.Try.prog C) K code fr H = body fr H := by kernel_rfl
theorem callable : Callable Go.Proofs.Try.prog 50 := fun args w => Go.Proofs.Try.call50 args w
theorem hf : Go.Proofs.Try.prog.funcs[50]? = some Go.Proofs.Try.f50 := Go.Proofs.Try.func50
theorem hb : Go.Proofs.Try.f50.body = some code := by kernel_rfl
theorem hok : codeOk Go.Proofs.Try.f50.ntmps code = true := by kernel_rfl
theorem run_eq (a0 a1 : AV) (H : AHeap) : refT Go.Proofs.Try.prog CC (draws Go.Proofs.Try.prog CC) K Go.Proofs.Try.f50 code [a0, a1] H = mem_Mem_Fetch a0 a1 H := by
  unfold refT arun
  rw [if_pos (show [a0, a1].length ≤ Go.Proofs.Try.f50.ntmps from (by decide +kernel : 2 ≤ Go.Proofs.Try.f50.ntmps))]
  unfold afin
  rw [show acode Go.Proofs.Try.prog CC (draws Go.Proofs.Try.prog CC) K code (args0 [a0, a1]) H = body (args0 [a0, a1]) H from body_eq _ _]
  kernel_rfl
theorem sound : Sound Go.Proofs.Try.prog 50 (.ref [false, false] spec) := by
  refine (sound_refT CS Mixed (draws _ _) K hf hb hok callable [false, false]).lessR fun args H r h => ?_
  unfold spec at h
  split at h
  · rw [run_eq]; exact h
  · cases h
end mem_Mem_Fetch
namespace mem_Mem_Store
noncomputable def code : Code := match Go.Proofs.Try.f78.body with | some c => c | none => .skip
def K : Nat → List Nat
  | 0 => [0, 1, 2]
  | 1 => [0, 1, 2, 7, 8]
  | 2 => [0, 2, 7, 21]
  | 3 => [6]
  | 4 => []
  | 5 => [6]
  | _ => []
noncomputable def CC : Tab := C mem_Mem_place.spec
theorem CS : CC.Sound Go.Proofs.Try.prog := (Tab.Sound.none.add mem_Mem_place.sound)
theorem body_eq (s0 : SpecM) (fr : AFr) (H : AHeap) : acode Go.Proofs.Try.prog (C s0) (draws Go.Proofs.Try.prog (C s0)) K code fr H = body s0 fr H := by kernel_rfl
theorem callable : Callable Go.Proofs.Try.prog 78 := fun args w => Go.Proofs.Try.call78 args w
theorem hf : Go.Proofs.Try.prog.funcs[78]? = some Go.Proofs.Try.f78 := Go.Proofs.Try.func78
theorem hb : Go.Proofs.Try.f78.body = some code := by kernel_rfl
theorem hok : codeOk Go.Proofs.Try.f78.ntmps code = true := by kernel_rfl
theorem run_eq (a0 a1 a2 : AV) (H : AHeap) : refT Go.Proofs.Try.prog CC (draws Go.Proofs.Try.prog CC) K Go.Proofs.Try.f78 code [a0, a1, a2] H = mem_Mem_Store a0 a1 a2 H := by
  unfold refT arun
  rw [if_pos (show [a0, a1, a2].length ≤ Go.Proofs.Try.f78.ntmps from (by decide +kernel : 3 ≤ Go.Proofs.Try.f78.ntmps))]
  unfold afin
  rw [show acode Go.Proofs.Try.prog CC (draws Go.Proofs.Try.prog CC) K code (args0 [a0, a1, a2]) H = body mem_Mem_place.spec (args0 [a0, a1, a2]) H from body_eq mem_Mem_place.spec _ _]
  kernel_rfl
theorem sound : Sound Go.Proofs.Try.prog 78 (.ref [false, false, false] spec) := by
  refine (sound_refT CS Mixed (draws _ _) K hf hb hok callable [false, false, false]).lessR fun args H r h => ?_
  unfold spec at h
  split at h
  · rw [run_eq]; exact h
  · cases h
end mem_Mem_Store
end Go.Abs
end
section
set_option linter.unusedSimpArgs false
set_option linter.unusedVariables false
namespace Go.Abs
namespace ref05_New
noncomputable def code : Code := match Go.Proofs.Try.f16.body with | some c => c | none => .skip
def K : Nat → List Nat
  | 0 => [0, 1, 2]
  | 1 => [0, 1, 7]
  | 2 => [0, 1, 7, 8]
  | 3 => [0, 1, 7, 8, 21]
  | 5 => [0, 1, 7, 8]
  | 4 => [0, 1, 7, 8]
  | 6 => [1, 7, 38]
  | 7 => [1, 7]
  | 8 => [1, 7, 40]
  | 9 => [7]
  | 10 => [6]
  | _ => []
noncomputable def CC : Tab := C
theorem CS : CC.Sound Go.Proofs.Try.prog := Tab.Sound.none
theorem body_eq (fr : AFr) (H : AHeap) : acode Go.Proofs.Try.prog C (draws Go.Proofs.Try.prog C) K code fr H = body fr H := by kernel_rfl
theorem callable : Callable Go.Proofs.Try.prog 16 := fun args w => Go.Proofs.Try.call16 args w
theorem hf : Go.Proofs.Try.prog.funcs[16]? = some Go.Proofs.Try.f16 := Go.Proofs.Try.func16
theorem hb : Go.Proofs.Try.f16.body = some code := by kernel_rfl
theorem hok : codeOk Go.Proofs.Try.f16.ntmps code = true := by kernel_rfl
theorem run_eq (a0 a1 a2 : AV) (H : AHeap) : refOf Go.Proofs.Try.prog CC (draws Go.Proofs.Try.prog CC) K Go.Proofs.Try.f16 code [a0, a1, a2] H = ref05_New a0 a1 a2 H := by
  unfold refOf arun
  rw [if_pos (show [a0, a1, a2].length ≤ Go.Proofs.Try.f16.ntmps from (by decide +kernel : 3 ≤ Go.Proofs.Try.f16.ntmps))]
  unfold afin
  rw [show acode Go.Proofs.Try.prog CC (draws Go.Proofs.Try.prog CC) K code (args0 [a0, a1, a2]) H = body (args0 [a0, a1, a2]) H from body_eq _ _]
  kernel_rfl
theorem sound : Sound Go.Proofs.Try.prog 16 (.ref [true, false, true] spec) := by
  refine (sound_ref CS Mixed (draws _ _) K hf hb hok callable [true, false, true]).lessR fun args H r h => ?_
  unfold spec at h
  split at h
  · rw [run_eq]; exact h
  · cases h
end ref05_New
namespace ref05_Same
noncomputable def code : Code := match Go.Proofs.Try.f19.body with | some c => c | none => .skip
def K : Nat → List Nat
  | 0 => [0, 1]
  | 1 => [0, 1, 10]
  | 2 => [4]
  | 3 => [0, 1, 5]
  | 4 => [0, 1, 5, 14]
  | 6 => [0, 1, 5, 25]
  | 7 => [4]
  | 5 => [0, 1, 5]
  | 8 => [4]
  | _ => []
noncomputable def CC : Tab := C
theorem CS : CC.Sound Go.Proofs.Try.prog := Tab.Sound.none
theorem body_eq (fr : AFr) (H : AHeap) : acode Go.Proofs.Try.prog C (draws Go.Proofs.Try.prog C) K code fr H = body fr H := by kernel_rfl
theorem callable : Callable Go.Proofs.Try.prog 19 := fun args w => Go.Proofs.Try.call19 args w
theorem hf : Go.Proofs.Try.prog.funcs[19]? = some Go.Proofs.Try.f19 := Go.Proofs.Try.func19
theorem hb : Go.Proofs.Try.f19.body = some code := by kernel_rfl
theorem hok : codeOk Go.Proofs.Try.f19.ntmps code = true := by kernel_rfl
theorem run_eq (a0 a1 : AV) : pureOf Go.Proofs.Try.prog CC (draws Go.Proofs.Try.prog CC) K Go.Proofs.Try.f19 code [a0, a1] = ref05_Same a0 a1 := by
  unfold pureOf arun
  rw [if_pos (show [a0, a1].length ≤ Go.Proofs.Try.f19.ntmps from (by decide +kernel : 2 ≤ Go.Proofs.Try.f19.ntmps))]
  unfold afin
  rw [show acode Go.Proofs.Try.prog CC (draws Go.Proofs.Try.prog CC) K code (args0 [a0, a1]) AHeap.empty = body (args0 [a0, a1]) AHeap.empty from body_eq _ _]
  kernel_rfl
theorem sound : Sound Go.Proofs.Try.prog 19 (.pure false spec) := by
  refine (sound_pure CS Mixed (draws _ _) K hf hb hok callable).less fun args r h => ?_
  unfold spec at h
  split at h
  · rw [run_eq]; exact h
  · cases h
end ref05_Same
namespace ref05_Mem_Load
noncomputable def code : Code := match Go.Proofs.Try.f35.body with | some c => c | none => .skip
def K : Nat → List Nat
  | 0 => [0, 1]
  | 1 => [0, 1, 10]
  | 2 => [4, 5]
  | 3 => [0, 1]
  | 4 => [0, 1, 12]
  | 5 => [0, 22]
  | 6 => [4, 5]
  | 7 => [0, 6]
  | 8 => [0, 1, 54]
  | 9 => [0, 6]
  | 10 => [0, 7]
  | 11 => [0, 7, 74]
  | 12 => [0, 6]
  | 13 => [4, 5]
  | 14 => [6]
  | 15 => [4, 5]
  | _ => []
noncomputable def CC : Tab := C
theorem CS : CC.Sound Go.Proofs.Try.prog := Tab.Sound.none
theorem body_eq (fr : AFr) (H : AHeap) : acode Go.Proofs.Try.prog C (draws Go.Proofs.Try.prog C) K code fr H = body fr H := by kernel_rfl
theorem callable : Callable Go.Proofs.Try.prog 35 := fun args w => Go.Proofs.Try.call35 args w
theorem hf : Go.Proofs.Try.prog.funcs[35]? = some Go.Proofs.Try.f35 := Go.Proofs.Try.func35
theorem hb : Go.Proofs.Try.f35.body = some code := by kernel_rfl
theorem hok : codeOk Go.Proofs.Try.f35.ntmps code = true := by kernel_rfl
theorem run_eq (a0 a1 : AV) (H : AHeap) : refT Go.Proofs.Try.prog CC (draws Go.Proofs.Try.prog CC) K Go.Proofs.Try.f35 code [a0, a1] H = ref05_Mem_Load a0 a1 H := by
  unfold refT arun
  rw [if_pos (show [a0, a1].length ≤ Go.Proofs.Try.f35.ntmps from (by decide +kernel : 2 ≤ Go.Proofs.Try.f35.ntmps))]
  unfold afin
  rw [show acode Go.Proofs.Try.prog CC (draws Go.Proofs.Try.prog CC) K code (args0 [a0, a1]) H = body (args0 [a0, a1]) H from body_eq _ _]
  kernel_rfl
theorem sound : Sound Go.Proofs.Try.prog 35 (.ref [false, false] spec) := by
  refine (sound_refT CS Mixed (draws _ _) K hf hb hok callable [false, false]).lessR fun args H r h => ?_
  unfold spec at h
  split at h
  · rw [run_eq]; exact h
  · cases h
end ref05_Mem_Load
namespace ref05_Mem_Fetch
noncomputable def code : Code := match Go.Proofs.Try.f56.body with | some c => c | none => .skip
def K : Nat → List Nat
  | 0 => [0, 1]
  | 1 => [0, 1, 19]
  | 2 => [4, 5]
  | 3 => [4, 5]
  | _ => []
noncomputable def CC : Tab := C
theorem CS : CC.Sound Go.Proofs.Try.prog := Tab.Sound.none
theorem body_eq (fr : AFr) (H : AHeap) : acode Go.Proofs.Try.prog C (draws Go.Proofs.Try.prog C) K code fr H = body fr H := by kernel_rfl
theorem callable : Callable Go.Proofs.Try.prog 56 := fun args w => Go.Proofs.Try.call56 args w
theorem hf : Go.Proofs.Try.prog.funcs[56]? = some Go.Proofs.Try.f56 := Go.Proofs.Try.func56
theorem hb : Go.Proofs.Try.f56.body = some code := by kernel_rfl
theorem hok : codeOk Go.Proofs.Try.f56.ntmps code = true := by kernel_rfl
theorem run_eq (a0 a1 : AV) (H : AHeap) : refT Go.Proofs.Try.prog CC (draws Go.Proofs.Try.prog CC) K Go.Proofs.Try.f56 code [a0, a1] H = ref05_Mem_Fetch a0 a1 H := by
  unfold refT arun
  rw [if_pos (show [a0, a1].length ≤ Go.Proofs.Try.f56.ntmps from (by decide +kernel : 2 ≤ Go.Proofs.Try.f56.ntmps))]
  unfold afin
  rw [show acode Go.Proofs.Try.prog CC (draws Go.Proofs.Try.prog CC) K code (args0 [a0, a1]) H = body (args0 [a0, a1]) H from body_eq _ _]
  kernel_rfl
theorem sound : Sound Go.Proofs.Try.prog 56 (.ref [false, false] spec) := by
  refine (sound_refT CS Mixed (draws _ _) K hf hb hok callable [false, false]).lessR fun args H r h => ?_
  unfold spec at h
  split at h
  · rw [run_eq]; exact h
  · cases h
end ref05_Mem_Fetch
namespace ref05_Mem_Store
noncomputable def code : Code := match Go.Proofs.Try.f63.body with | some c => c | none => .skip
def K : Nat → List Nat
  | 0 => [0, 1, 2]
  | 1 => [0, 1, 2, 25]
  | 2 => [6]
  | 3 => []
  | 4 => [6]
  | _ => []
noncomputable def CC : Tab := C
theorem CS : CC.Sound Go.Proofs.Try.prog := Tab.Sound.none
theorem body_eq (fr : AFr) (H : AHeap) : acode Go.Proofs.Try.prog C (draws Go.Proofs.Try.prog C) K code fr H = body fr H := by kernel_rfl
theorem callable : Callable Go.Proofs.Try.prog 63 := fun args w => Go.Proofs.Try.call63 args w
theorem hf : Go.Proofs.Try.prog.funcs[63]? = some Go.Proofs.Try.f63 := Go.Proofs.Try.func63
theorem hb : Go.Proofs.Try.f63.body = some code := by kernel_rfl
theorem hok : codeOk Go.Proofs.Try.f63.ntmps code = true := by kernel_rfl
theorem run_eq (a0 a1 a2 : AV) (H : AHeap) : refT Go.Proofs.Try.prog CC (draws Go.Proofs.Try.prog CC) K Go.Proofs.Try.f63 code [a0, a1, a2] H = ref05_Mem_Store a0 a1 a2 H := by
  unfold refT arun
  rw [if_pos (show [a0, a1, a2].length ≤ Go.Proofs.Try.f63.ntmps from (by decide +kernel : 3 ≤ Go.Proofs.Try.f63.ntmps))]
  unfold afin
  rw [show acode Go.Proofs.Try.prog CC (draws Go.Proofs.Try.prog CC) K code (args0 [a0, a1, a2]) H = body (args0 [a0, a1, a2]) H from body_eq _ _]
  kernel_rfl
theorem sound : Sound Go.Proofs.Try.prog 63 (.ref [false, false, false] spec) := by
  refine (sound_refT CS Mixed (draws _ _) K hf hb hok callable [false, false, false]).lessR fun args H r h => ?_
  unfold spec at h
  split at h
  · rw [run_eq]; exact h
  · cases h
end ref05_Mem_Store
end Go.Abs
end
section
set_option linter.unusedSimpArgs false
set_option linter.unusedVariables false
namespace Go.Abs
namespace math_bits_Add32
noncomputable def code : Code := match Go.Proofs.Try.f95.body with | some c => c | none => .skip
def K : Nat → List Nat
  | 0 => [0, 1, 2]
  | 1 => [8]
  | 2 => [6, 8]
  | 3 => [6, 7]
  | _ => []
noncomputable def CC : Tab := C
theorem CS : CC.Sound Go.Proofs.Try.prog := Tab.Sound.none
theorem body_eq (fr : AFr) (H : AHeap) : acode Go.Proofs.Try.prog C (draws Go.Proofs.Try.prog C) K code fr H = body fr H := by kernel_rfl
theorem callable : Callable Go.Proofs.Try.prog 95 := fun args w => Go.Proofs.Try.call95 args w
theorem hf : Go.Proofs.Try.prog.funcs[95]? = some Go.Proofs.Try.f95 := Go.Proofs.Try.func95
theorem hb : Go.Proofs.Try.f95.body = some code := by kernel_rfl
theorem hok : codeOk Go.Proofs.Try.f95.ntmps code = true := by kernel_rfl
theorem run_eq (a0 a1 a2 : AV) : pureOf Go.Proofs.Try.prog CC (draws Go.Proofs.Try.prog CC) K Go.Proofs.Try.f95 code [a0, a1, a2] = math_bits_Add32 a0 a1 a2 := by
  unfold pureOf arun
  rw [if_pos (show [a0, a1, a2].length ≤ Go.Proofs.Try.f95.ntmps from (by decide +kernel : 3 ≤ Go.Proofs.Try.f95.ntmps))]
  unfold afin
  rw [show acode Go.Proofs.Try.prog CC (draws Go.Proofs.Try.prog CC) K code (args0 [a0, a1, a2]) AHeap.empty = body (args0 [a0, a1, a2]) AHeap.empty from body_eq _ _]
  kernel_rfl
theorem sound : Sound Go.Proofs.Try.prog 95 (.pure false spec) := by
  refine (sound_pure CS Mixed (draws _ _) K hf hb hok callable).less fun args r h => ?_
  unfold spec at h
  split at h
  · rw [run_eq]; exact h
  · cases h
end math_bits_Add32
namespace word_Add
noncomputable def code : Code := match Go.Proofs.Try.f91.body with | some c => c | none => .skip
def K : Nat → List Nat
  | 0 => [0, 1, 2]
  | 1 => [0, 1, 2, 9]
  | 2 => [0, 1, 9, 12]
  | 3 => [0, 1, 9]
  | 4 => [0, 1, 10, 11]
  | 5 => [6, 7, 8]
  | _ => []
noncomputable def CC : Tab := C math_bits_Add32.spec
theorem CS : CC.Sound Go.Proofs.Try.prog := (Tab.Sound.none.add math_bits_Add32.sound)
theorem body_eq (s0 : SpecP) (fr : AFr) (H : AHeap) : acode Go.Proofs.Try.prog (C s0) (draws Go.Proofs.Try.prog (C s0)) K code fr H = body s0 fr H := by kernel_rfl
theorem callable : Callable Go.Proofs.Try.prog 91 := fun args w => Go.Proofs.Try.call91 args w
theorem hf : Go.Proofs.Try.prog.funcs[91]? = some Go.Proofs.Try.f91 := Go.Proofs.Try.func91
theorem hb : Go.Proofs.Try.f91.body = some code := by kernel_rfl
theorem hok : codeOk Go.Proofs.Try.f91.ntmps code = true := by kernel_rfl
theorem run_eq (a0 a1 a2 : AV) : pureOf Go.Proofs.Try.prog CC (draws Go.Proofs.Try.prog CC) K Go.Proofs.Try.f91 code [a0, a1, a2] = word_Add a0 a1 a2 := by
  unfold pureOf arun
  rw [if_pos (show [a0, a1, a2].length ≤ Go.Proofs.Try.f91.ntmps from (by decide +kernel : 3 ≤ Go.Proofs.Try.f91.ntmps))]
  unfold afin
  rw [show acode Go.Proofs.Try.prog CC (draws Go.Proofs.Try.prog CC) K code (args0 [a0, a1, a2]) AHeap.empty = body math_bits_Add32.spec (args0 [a0, a1, a2]) AHeap.empty from body_eq math_bits_Add32.spec _ _]
  kernel_rfl
theorem sound : Sound Go.Proofs.Try.prog 91 (.pure false spec) := by
  refine (sound_pure CS Mixed (draws _ _) K hf hb hok callable).less fun args r h => ?_
  unfold spec at h
  split at h
  · rw [run_eq]; exact h
  · cases h
end word_Add
namespace math_bits_RotateLeft32
noncomputable def code : Code := match Go.Proofs.Try.f96.body with | some c => c | none => .skip
def K : Nat → List Nat
  | 0 => [0, 1]
  | 1 => [0, 5]
  | 2 => [4]
  | _ => []
noncomputable def CC : Tab := C
theorem CS : CC.Sound Go.Proofs.Try.prog := Tab.Sound.none
theorem body_eq (fr : AFr) (H : AHeap) : acode Go.Proofs.Try.prog C (draws Go.Proofs.Try.prog C) K code fr H = body fr H := by kernel_rfl
theorem callable : Callable Go.Proofs.Try.prog 96 := fun args w => Go.Proofs.Try.call96 args w
theorem hf : Go.Proofs.Try.prog.funcs[96]? = some Go.Proofs.Try.f96 := Go.Proofs.Try.func96
theorem hb : Go.Proofs.Try.f96.body = some code := by kernel_rfl
theorem hok : codeOk Go.Proofs.Try.f96.ntmps code = true := by kernel_rfl
theorem run_eq (a0 a1 : AV) : pureOf Go.Proofs.Try.prog CC (draws Go.Proofs.Try.prog CC) K Go.Proofs.Try.f96 code [a0, a1] = math_bits_RotateLeft32 a0 a1 := by
  unfold pureOf arun
  rw [if_pos (show [a0, a1].length ≤ Go.Proofs.Try.f96.ntmps from (by decide +kernel : 2 ≤ Go.Proofs.Try.f96.ntmps))]
  unfold afin
  rw [show acode Go.Proofs.Try.prog CC (draws Go.Proofs.Try.prog CC) K code (args0 [a0, a1]) AHeap.empty = body (args0 [a0, a1]) AHeap.empty from body_eq _ _]
  kernel_rfl
theorem sound : Sound Go.Proofs.Try.prog 96 (.pure false spec) := by
  refine (sound_pure CS Mixed (draws _ _) K hf hb hok callable).less fun args r h => ?_
  unfold spec at h
  split at h
  · rw [run_eq]; exact h
  · cases h
end math_bits_RotateLeft32
namespace word_Shift
noncomputable def code : Code := match Go.Proofs.Try.f92.body with | some c => c | none => .skip
def K : Nat → List Nat
  | 0 => [0, 1, 2, 3]
  | 1 => [0, 1, 2, 3, 19]
  | 2 => [8, 9]
  | 3 => [1, 2, 22]
  | 4 => [1, 2, 22, 23]
  | 5 => [8, 9]
  | 6 => [1, 2, 22, 38]
  | 7 => [8, 9]
  | 8 => [1, 2, 22, 53]
  | 9 => [1, 2]
  | 10 => [8, 9]
  | 11 => [1, 2, 70]
  | 12 => [1]
  | 13 => [8, 9]
  | 14 => [8, 9]
  | _ => []
noncomputable def CC : Tab := C math_bits_RotateLeft32.spec
theorem CS : CC.Sound Go.Proofs.Try.prog := (Tab.Sound.none.add math_bits_RotateLeft32.sound)
theorem body_eq (s0 : SpecP) (fr : AFr) (H : AHeap) : acode Go.Proofs.Try.prog (C s0) (draws Go.Proofs.Try.prog (C s0)) K code fr H = body s0 fr H := by kernel_rfl
theorem callable : Callable Go.Proofs.Try.prog 92 := fun args w => Go.Proofs.Try.call92 args w
theorem hf : Go.Proofs.Try.prog.funcs[92]? = some Go.Proofs.Try.f92 := Go.Proofs.Try.func92
theorem hb : Go.Proofs.Try.f92.body = some code := by kernel_rfl
theorem hok : codeOk Go.Proofs.Try.f92.ntmps code = true := by kernel_rfl
theorem run_eq (a0 a1 a2 a3 : AV) : pureOf Go.Proofs.Try.prog CC (draws Go.Proofs.Try.prog CC) K Go.Proofs.Try.f92 code [a0, a1, a2, a3] = word_Shift a0 a1 a2 a3 := by
  unfold pureOf arun
  rw [if_pos (show [a0, a1, a2, a3].length ≤ Go.Proofs.Try.f92.ntmps from (by decide +kernel : 4 ≤ Go.Proofs.Try.f92.ntmps))]
  unfold afin
  rw [show acode Go.Proofs.Try.prog CC (draws Go.Proofs.Try.prog CC) K code (args0 [a0, a1, a2, a3]) AHeap.empty = body math_bits_RotateLeft32.spec (args0 [a0, a1, a2, a3]) AHeap.empty from body_eq math_bits_RotateLeft32.spec _ _]
  kernel_rfl
theorem sound : Sound Go.Proofs.Try.prog 92 (.pure false spec) := by
  refine (sound_pure CS Mixed (draws _ _) K hf hb hok callable).less fun args r h => ?_
  unfold spec at h
  split at h
  · rw [run_eq]; exact h
  · cases h
end word_Shift
end Go.Abs
end
section
set_option linter.unusedSimpArgs false
set_option linter.unusedVariables false
namespace Go.Abs
namespace ref01_Bits
noncomputable def code : Code := match Go.Proofs.Try.f93.body with | some c => c | none => .skip
def K : Nat → List Nat
  | 0 => [0]
  | 1 => [0, 3]
  | 2 => [0, 3, 4]
  | 3 => [0, 3, 4, 7]
  | 5 => [0, 3, 4]
  | 6 => [0, 3, 4]
  | 4 => [0, 3, 4]
  | 7 => [2]
  | _ => []
noncomputable def CC : Tab := C
theorem CS : CC.Sound Go.Proofs.Try.prog := Tab.Sound.none
theorem body_eq (fr : AFr) (H : AHeap) : acode Go.Proofs.Try.prog C (draws Go.Proofs.Try.prog C) K code fr H = body fr H := by kernel_rfl
theorem callable : Callable Go.Proofs.Try.prog 93 := fun args w => Go.Proofs.Try.call93 args w
theorem hf : Go.Proofs.Try.prog.funcs[93]? = some Go.Proofs.Try.f93 := Go.Proofs.Try.func93
theorem hb : Go.Proofs.Try.f93.body = some code := by kernel_rfl
theorem hok : codeOk Go.Proofs.Try.f93.ntmps code = true := by kernel_rfl
theorem run_eq (a0 : AV) : pureOf Go.Proofs.Try.prog CC (draws Go.Proofs.Try.prog CC) K Go.Proofs.Try.f93 code [a0] = ref01_Bits a0 := by
  unfold pureOf arun
  rw [if_pos (show [a0].length ≤ Go.Proofs.Try.f93.ntmps from (by decide +kernel : 1 ≤ Go.Proofs.Try.f93.ntmps))]
  unfold afin
  rw [show acode Go.Proofs.Try.prog CC (draws Go.Proofs.Try.prog CC) K code (args0 [a0]) AHeap.empty = body (args0 [a0]) AHeap.empty from body_eq _ _]
  kernel_rfl
theorem sound : Sound Go.Proofs.Try.prog 93 (.pure false spec) := by
  refine (sound_pure CS Mixed (draws _ _) K hf hb hok callable).less fun args r h => ?_
  unfold spec at h
  split at h
  · rw [run_eq]; exact h
  · cases h
end ref01_Bits
namespace ref01_Word
noncomputable def code : Code := match Go.Proofs.Try.f94.body with | some c => c | none => .skip
def K : Nat → List Nat
  | 0 => [0]
  | 1 => [0, 3]
  | 2 => [0, 3, 4]
  | 3 => [0, 3, 4, 9]
  | 5 => [0, 3, 4]
  | 6 => [0, 3, 4, 17]
  | 7 => [0, 3, 4]
  | 4 => [0, 3, 4]
  | 8 => [2]
  | _ => []
noncomputable def CC : Tab := C
theorem CS : CC.Sound Go.Proofs.Try.prog := Tab.Sound.none
theorem body_eq (fr : AFr) (H : AHeap) : acode Go.Proofs.Try.prog C (draws Go.Proofs.Try.prog C) K code fr H = body fr H := by kernel_rfl
theorem callable : Callable Go.Proofs.Try.prog 94 := fun args w => Go.Proofs.Try.call94 args w
theorem hf : Go.Proofs.Try.prog.funcs[94]? = some Go.Proofs.Try.f94 := Go.Proofs.Try.func94
theorem hb : Go.Proofs.Try.f94.body = some code := by kernel_rfl
theorem hok : codeOk Go.Proofs.Try.f94.ntmps code = true := by kernel_rfl
theorem run_eq (a0 : AV) : pureOf Go.Proofs.Try.prog CC (draws Go.Proofs.Try.prog CC) K Go.Proofs.Try.f94 code [a0] = ref01_Word a0 := by
  unfold pureOf arun
  rw [if_pos (show [a0].length ≤ Go.Proofs.Try.f94.ntmps from (by decide +kernel : 1 ≤ Go.Proofs.Try.f94.ntmps))]
  unfold afin
  rw [show acode Go.Proofs.Try.prog CC (draws Go.Proofs.Try.prog CC) K code (args0 [a0]) AHeap.empty = body (args0 [a0]) AHeap.empty from body_eq _ _]
  kernel_rfl
theorem sound : Sound Go.Proofs.Try.prog 94 (.pure false spec) := by
  refine (sound_pure CS Mixed (draws _ _) K hf hb hok callable).less fun args r h => ?_
  unfold spec at h
  split at h
  · rw [run_eq]; exact h
  · cases h
end ref01_Word
namespace ref01_Add
noncomputable def code : Code := match Go.Proofs.Try.f87.body with | some c => c | none => .skip
def K : Nat → List Nat
  | 0 => [0, 1, 2]
  | 1 => [2, 9, 10, 11]
  | 2 => [2, 9, 10, 11, 12]
  | 3 => [2, 9, 10, 11, 12, 20]
  | 5 => [2, 9, 10, 11, 12, 13]
  | 6 => [2, 9, 10, 11, 12, 13, 26]
  | 7 => [2, 9, 10, 11, 12, 13]
  | 8 => [2, 9, 10, 11, 12, 13, 32]
  | 9 => [2, 9, 10, 11, 12, 13]
  | 10 => [9, 10, 11, 12, 13, 35]
  | 11 => [9, 10, 11, 12, 13]
  | 12 => [2, 9, 10, 11, 12]
  | 4 => [2, 9, 10, 11, 12]
  | 13 => [6, 7, 8]
  | _ => []
noncomputable def CC : Tab := C ref01_Bits.spec ref01_Word.spec
theorem CS : CC.Sound Go.Proofs.Try.prog := ((Tab.Sound.none.add ref01_Bits.sound).add ref01_Word.sound)
theorem body_eq (s0 s1 : SpecP) (fr : AFr) (H : AHeap) : acode Go.Proofs.Try.prog (C s0 s1) (draws Go.Proofs.Try.prog (C s0 s1)) K code fr H = body s0 s1 fr H := by kernel_rfl
theorem callable : Callable Go.Proofs.Try.prog 87 := fun args w => Go.Proofs.Try.call87 args w
theorem hf : Go.Proofs.Try.prog.funcs[87]? = some Go.Proofs.Try.f87 := Go.Proofs.Try.func87
theorem hb : Go.Proofs.Try.f87.body = some code := by kernel_rfl
theorem hok : codeOk Go.Proofs.Try.f87.ntmps code = true := by kernel_rfl
theorem run_eq (a0 a1 a2 : AV) : pureOf Go.Proofs.Try.prog CC (draws Go.Proofs.Try.prog CC) K Go.Proofs.Try.f87 code [a0, a1, a2] = ref01_Add a0 a1 a2 := by
  unfold pureOf arun
  rw [if_pos (show [a0, a1, a2].length ≤ Go.Proofs.Try.f87.ntmps from (by decide +kernel : 3 ≤ Go.Proofs.Try.f87.ntmps))]
  unfold afin
  rw [show acode Go.Proofs.Try.prog CC (draws Go.Proofs.Try.prog CC) K code (args0 [a0, a1, a2]) AHeap.empty = body ref01_Bits.spec ref01_Word.spec (args0 [a0, a1, a2]) AHeap.empty from body_eq ref01_Bits.spec ref01_Word.spec _ _]
  kernel_rfl
theorem sound : Sound Go.Proofs.Try.prog 87 (.pure false spec) := by
  refine (sound_pure CS Mixed (draws _ _) K hf hb hok callable).less fun args r h => ?_
  unfold spec at h
  split at h
  · rw [run_eq]; exact h
  · cases h
end ref01_Add
namespace ref01_Shift
noncomputable def code : Code := match Go.Proofs.Try.f88.body with | some c => c | none => .skip
def K : Nat → List Nat
  | 0 => [0, 1, 2, 3]
  | 1 => [0, 1, 2, 3, 19]
  | 2 => [8, 9]
  | 3 => [0, 1, 2, 3, 25]
  | 4 => [0, 1, 2, 3]
  | 5 => [0, 2, 3, 10]
  | 6 => [0, 2, 3, 10, 11]
  | 7 => [0, 2, 3, 10, 11, 37]
  | 9 => [0, 2, 10, 11, 12]
  | 10 => [0, 2, 10, 11, 12, 13]
  | 11 => [0, 2, 10, 11, 12, 13, 42]
  | 13 => [0, 2, 10, 11, 12, 13, 50]
  | 14 => [0, 2, 10, 11, 12, 13]
  | 15 => [0, 2, 10, 11, 12, 13, 64]
  | 16 => [0, 2, 10, 11, 12, 13]
  | 12 => [0, 2, 10, 11, 12, 13]
  | 17 => [0, 2, 10, 11, 12, 74]
  | 18 => [0, 2, 3, 10, 11, 12]
  | 19 => [0, 2, 3, 10, 11, 12]
  | 20 => [0, 2, 3, 10, 11, 12, 82]
  | 21 => [0, 2, 3, 10, 11, 12]
  | 22 => [0, 2, 3, 10, 11, 12, 89]
  | 23 => [0, 2, 3, 11, 12]
  | 24 => [0, 2, 3, 10, 11]
  | 8 => [0, 2, 3, 10, 11]
  | 25 => [8, 9]
  | _ => []
noncomputable def CC : Tab := C ref01_Bits.spec ref01_Word.spec
theorem CS : CC.Sound Go.Proofs.Try.prog := ((Tab.Sound.none.add ref01_Bits.sound).add ref01_Word.sound)
theorem body_eq (s0 s1 : SpecP) (fr : AFr) (H : AHeap) : acode Go.Proofs.Try.prog (C s0 s1) (draws Go.Proofs.Try.prog (C s0 s1)) K code fr H = body s0 s1 fr H := by kernel_rfl
theorem callable : Callable Go.Proofs.Try.prog 88 := fun args w => Go.Proofs.Try.call88 args w
theorem hf : Go.Proofs.Try.prog.funcs[88]? = some Go.Proofs.Try.f88 := Go.Proofs.Try.func88
theorem hb : Go.Proofs.Try.f88.body = some code := by kernel_rfl
theorem hok : codeOk Go.Proofs.Try.f88.ntmps code = true := by kernel_rfl
theorem run_eq (a0 a1 a2 a3 : AV) : pureOf Go.Proofs.Try.prog CC (draws Go.Proofs.Try.prog CC) K Go.Proofs.Try.f88 code [a0, a1, a2, a3] = ref01_Shift a0 a1 a2 a3 := by
  unfold pureOf arun
  rw [if_pos (show [a0, a1, a2, a3].length ≤ Go.Proofs.Try.f88.ntmps from (by decide +kernel : 4 ≤ Go.Proofs.Try.f88.ntmps))]
  unfold afin
  rw [show acode Go.Proofs.Try.prog CC (draws Go.Proofs.Try.prog CC) K code (args0 [a0, a1, a2, a3]) AHeap.empty = body ref01_Bits.spec ref01_Word.spec (args0 [a0, a1, a2, a3]) AHeap.empty from body_eq ref01_Bits.spec ref01_Word.spec _ _]
  kernel_rfl
theorem sound : Sound Go.Proofs.Try.prog 88 (.pure false spec) := by
  refine (sound_pure CS Mixed (draws _ _) K hf hb hok callable).less fun args r h => ?_
  unfold spec at h
  split at h
  · rw [run_eq]; exact h
  · cases h
end ref01_Shift
end Go.Abs
end

import Derived.Test.YteohnepdbjmghaaLoF
import Derived.Test.YteohnepdbjmghaaP0
section
set_option linter.unusedSimpArgs false
set_option linter.unusedVariables false
namespace Go.Abs
namespace thumb_shapes
noncomputable def code : Code := match Go.Proofs.Try.f65.body with | some c => c | none => .skip
def K : Nat → List Nat
  | 0 => [0, 2]
  | 1 => [0, 2, 3, 4, 5]
  | 2 => [0, 2, 3, 4, 5, 6, 7]
  | 3 => [0, 2, 3, 4, 5, 6, 7, 13]
  | 4 => [0, 2, 3, 4, 5, 6, 7, 13, 14]
  | 5 => [0, 2, 3, 4, 5, 6, 7, 13, 14]
  | 6 => [0, 2, 3, 4, 5, 6, 7, 13, 14]
  | 7 => [0, 2, 3, 4, 5, 6, 7, 13, 14]
  | 8 => [2]
  | 9 => [0, 2, 3, 4, 5, 6, 7, 13, 28]
  | 10 => [2]
  | 11 => [0, 2, 3, 4, 5, 6, 7, 13, 35]
  | 12 => [0, 2, 3, 4, 5, 6, 7, 13, 35]
  | 13 => [2]
  | 14 => [0, 2, 3, 4, 5, 6, 7, 13, 47]
  | 15 => [0, 2, 3, 4, 5, 6, 7, 13, 47]
  | 16 => [2]
  | 17 => [0, 2, 3, 4, 5, 6, 7, 13, 60]
  | 18 => [0, 2, 3, 4, 5, 6, 7, 13, 60]
  | 19 => [2]
  | 20 => [2, 3, 4, 5, 6, 7, 13, 73]
  | 21 => [2]
  | 22 => [2, 3, 4, 5, 6, 13, 80]
  | 23 => [2]
  | 24 => [2, 3, 4, 5, 6, 13, 87]
  | 25 => [2]
  | 26 => [2, 3, 4, 5, 6, 13, 94]
  | 27 => [2]
  | 28 => [2, 3, 4, 5, 6, 13, 101]
  | 29 => [2]
  | 30 => [2, 6, 13, 108]
  | 31 => [2]
  | 32 => [2, 6, 13, 114]
  | 33 => [2]
  | 34 => [2, 6, 13, 119]
  | 35 => [2]
  | 36 => [2, 6, 125]
  | 37 => [2]
  | 38 => [2]
  | _ => []
noncomputable def CC : Tab := C
theorem CS : CC.Sound Go.Proofs.Try.prog := Tab.Sound.none
theorem body_eq (fr : AFr) (H : AHeap) : acode Go.Proofs.Try.prog C (draws Go.Proofs.Try.prog C) K code fr H = body fr H := by kernel_rfl
theorem callable : Callable Go.Proofs.Try.prog 65 := fun args w => Go.Proofs.Try.call65 args w
theorem hf : Go.Proofs.Try.prog.funcs[65]? = some Go.Proofs.Try.f65 := Go.Proofs.Try.func65
theorem hb : Go.Proofs.Try.f65.body = some code := by kernel_rfl
theorem hok : codeOk Go.Proofs.Try.f65.ntmps code = true := by kernel_rfl
theorem run_eq (a0 : AV) : pureOf Go.Proofs.Try.prog CC (draws Go.Proofs.Try.prog CC) K Go.Proofs.Try.f65 code [a0] = thumb_shapes a0 := by
  unfold pureOf arun
  rw [if_pos (show [a0].length ≤ Go.Proofs.Try.f65.ntmps from (by decide +kernel : 1 ≤ Go.Proofs.Try.f65.ntmps))]
  unfold afin
  rw [show acode Go.Proofs.Try.prog CC (draws Go.Proofs.Try.prog CC) K code (args0 [a0]) AHeap.empty = body (args0 [a0]) AHeap.empty from body_eq _ _]
  kernel_rfl
theorem sound : Sound Go.Proofs.Try.prog 65 (.pure false spec) := by
  refine (sound_pure CS Mixed (draws _ _) K hf hb hok callable).less fun args r h => ?_
  unfold spec at h
  split at h
  · rw [run_eq]; exact h
  · cases h
end thumb_shapes
namespace thumb_field
noncomputable def code : Code := match Go.Proofs.Try.f66.body with | some c => c | none => .skip
def K : Nat → List Nat
  | 0 => [0, 1]
  | 1 => [0, 5]
  | 2 => [0, 5, 6]
  | 3 => [0, 5, 6]
  | 4 => [4]
  | 5 => [0, 5, 12]
  | 6 => [4]
  | 7 => [0, 17]
  | 8 => [4]
  | 9 => [4]
  | _ => []
noncomputable def CC : Tab := C
theorem CS : CC.Sound Go.Proofs.Try.prog := Tab.Sound.none
theorem body_eq (fr : AFr) (H : AHeap) : acode Go.Proofs.Try.prog C (draws Go.Proofs.Try.prog C) K code fr H = body fr H := by kernel_rfl
theorem callable : Callable Go.Proofs.Try.prog 66 := fun args w => Go.Proofs.Try.call66 args w
theorem hf : Go.Proofs.Try.prog.funcs[66]? = some Go.Proofs.Try.f66 := Go.Proofs.Try.func66
theorem hb : Go.Proofs.Try.f66.body = some code := by kernel_rfl
theorem hok : codeOk Go.Proofs.Try.f66.ntmps code = true := by kernel_rfl
theorem run_eq (a0 a1 : AV) (H : AHeap) : refOf Go.Proofs.Try.prog CC (draws Go.Proofs.Try.prog CC) K Go.Proofs.Try.f66 code [a0, a1] H = thumb_field a0 a1 H := by
  unfold refOf arun
  rw [if_pos (show [a0, a1].length ≤ Go.Proofs.Try.f66.ntmps from (by decide +kernel : 2 ≤ Go.Proofs.Try.f66.ntmps))]
  unfold afin
  rw [show acode Go.Proofs.Try.prog CC (draws Go.Proofs.Try.prog CC) K code (args0 [a0, a1]) H = body (args0 [a0, a1]) H from body_eq _ _]
  kernel_rfl
theorem sound : Sound Go.Proofs.Try.prog 66 (.ref [false, false] spec) := by
  refine (sound_ref CS Mixed (draws _ _) K hf hb hok callable [false, false]).lessR fun args H r h => ?_
  unfold spec at h
  split at h
  · rw [run_eq]; exact h
  · cases h
end thumb_field
namespace thumb_can
noncomputable def code : Code := match Go.Proofs.Try.f59.body with | some c => c | none => .skip
def K : Nat → List Nat
  | 0 => [1]
  | 1 => [1, 15]
  | 2 => [2]
  | 3 => [1, 3]
  | 4 => [1, 3, 30]
  | 5 => [2]
  | 6 => [1, 3, 4]
  | 7 => [1, 4, 33, 34]
  | 8 => [1, 4, 33, 34, 35]
  | 9 => [1, 4, 6, 33, 34]
  | 10 => [1, 4, 6, 7, 33, 34]
  | 11 => [1, 4, 6, 7, 33, 34, 42]
  | 12 => [1, 4, 6, 7, 33, 34, 46]
  | 13 => [1, 4, 6, 33, 34, 46]
  | 14 => [2]
  | 15 => [1, 4, 33, 34]
  | 16 => [1, 4, 33, 34]
  | 17 => [2]
  | _ => []
noncomputable def CC : Tab := C thumb_shapes.spec thumb_field.spec
theorem CS : CC.Sound Go.Proofs.Try.prog := ((Tab.Sound.none.add thumb_shapes.sound).add thumb_field.sound)
theorem body_eq (s0 : SpecP) (s1 : SpecM) (fr : AFr) (H : AHeap) : acode Go.Proofs.Try.prog (C s0 s1) (draws Go.Proofs.Try.prog (C s0 s1)) K code fr H = body s0 s1 fr H := by kernel_rfl
theorem callable : Callable Go.Proofs.Try.prog 59 := fun args w => Go.Proofs.Try.call59 args w
theorem hf : Go.Proofs.Try.prog.funcs[59]? = some Go.Proofs.Try.f59 := Go.Proofs.Try.func59
theorem hb : Go.Proofs.Try.f59.body = some code := by kernel_rfl
theorem hok : codeOk Go.Proofs.Try.f59.ntmps code = true := by kernel_rfl
theorem run_eq (a0 : AV) : pureOf Go.Proofs.Try.prog CC (draws Go.Proofs.Try.prog CC) K Go.Proofs.Try.f59 code [a0] = thumb_can a0 := by
  unfold pureOf arun
  rw [if_pos (show [a0].length ≤ Go.Proofs.Try.f59.ntmps from (by decide +kernel : 1 ≤ Go.Proofs.Try.f59.ntmps))]
  unfold afin
  rw [show acode Go.Proofs.Try.prog CC (draws Go.Proofs.Try.prog CC) K code (args0 [a0]) AHeap.empty = body thumb_shapes.spec thumb_field.spec (args0 [a0]) AHeap.empty from body_eq thumb_shapes.spec thumb_field.spec _ _]
  kernel_rfl
theorem sound : Sound Go.Proofs.Try.prog 59 (.pure false spec) := by
  refine (sound_pure CS Mixed (draws _ _) K hf hb hok callable).less fun args r h => ?_
  unfold spec at h
  split at h
  · rw [run_eq]; exact h
  · cases h
end thumb_can
namespace thumb_Can
def K : Nat → List Nat
  | 0 => [1]
  | 1 => [2]
  | _ => []
end thumb_Can
namespace thumb_put
noncomputable def code : Code := match Go.Proofs.Try.f67.body with | some c => c | none => .skip
def K : Nat → List Nat
  | 0 => [1]
  | 1 => [1, 3]
  | 2 => [1, 3, 4]
  | 3 => [1, 4, 13, 14]
  | 4 => [1, 4, 13, 14, 15]
  | 5 => [1, 4, 6, 13, 14]
  | 6 => [1, 4, 6, 13, 14, 19]
  | 7 => [1, 4, 13, 14]
  | 8 => [1, 4, 13, 14]
  | 9 => [2]
  | _ => []
noncomputable def CC : Tab := C thumb_shapes.spec thumb_field.spec
theorem CS : CC.Sound Go.Proofs.Try.prog := ((Tab.Sound.none.add thumb_shapes.sound).add thumb_field.sound)
theorem body_eq (s0 : SpecP) (s1 : SpecM) (fr : AFr) (H : AHeap) : acode Go.Proofs.Try.prog (C s0 s1) (draws Go.Proofs.Try.prog (C s0 s1)) K code fr H = body s0 s1 fr H := by kernel_rfl
theorem callable : Callable Go.Proofs.Try.prog 67 := fun args w => Go.Proofs.Try.call67 args w
theorem hf : Go.Proofs.Try.prog.funcs[67]? = some Go.Proofs.Try.f67 := Go.Proofs.Try.func67
theorem hb : Go.Proofs.Try.f67.body = some code := by kernel_rfl
theorem hok : codeOk Go.Proofs.Try.f67.ntmps code = true := by kernel_rfl
theorem run_eq (a0 : AV) : pureOf Go.Proofs.Try.prog CC (draws Go.Proofs.Try.prog CC) K Go.Proofs.Try.f67 code [a0] = thumb_put a0 := by
  unfold pureOf arun
  rw [if_pos (show [a0].length ≤ Go.Proofs.Try.f67.ntmps from (by decide +kernel : 1 ≤ Go.Proofs.Try.f67.ntmps))]
  unfold afin
  rw [show acode Go.Proofs.Try.prog CC (draws Go.Proofs.Try.prog CC) K code (args0 [a0]) AHeap.empty = body thumb_shapes.spec thumb_field.spec (args0 [a0]) AHeap.empty from body_eq thumb_shapes.spec thumb_field.spec _ _]
  kernel_rfl
theorem sound : Sound Go.Proofs.Try.prog 67 (.pure false spec) := by
  refine (sound_pure CS Mixed (draws _ _) K hf hb hok callable).less fun args r h => ?_
  unfold spec at h
  split at h
  · rw [run_eq]; exact h
  · cases h
end thumb_put
namespace thumb_Put
noncomputable def code : Code := match Go.Proofs.Try.f63.body with | some c => c | none => .skip
def K : Nat → List Nat
  | 0 => [1]
  | 1 => [1, 6]
  | 2 => [2, 3]
  | 3 => [2, 3]
  | _ => []
noncomputable def CC : Tab := C thumb_can.spec thumb_put.spec
theorem CS : CC.Sound Go.Proofs.Try.prog := ((Tab.Sound.none.add thumb_can.sound).add thumb_put.sound)
theorem body_eq (s0 s1 : SpecP) (fr : AFr) (H : AHeap) : acode Go.Proofs.Try.prog (C s0 s1) (draws Go.Proofs.Try.prog (C s0 s1)) K code fr H = body s0 s1 fr H := by kernel_rfl
theorem callable : Callable Go.Proofs.Try.prog 63 := fun args w => Go.Proofs.Try.call63 args w
theorem hf : Go.Proofs.Try.prog.funcs[63]? = some Go.Proofs.Try.f63 := Go.Proofs.Try.func63
theorem hb : Go.Proofs.Try.f63.body = some code := by kernel_rfl
theorem hok : codeOk Go.Proofs.Try.f63.ntmps code = true := by kernel_rfl
theorem run_eq (a0 : AV) : pureOf Go.Proofs.Try.prog CC (draws Go.Proofs.Try.prog CC) K Go.Proofs.Try.f63 code [a0] = thumb_Put a0 := by
  unfold pureOf arun
  rw [if_pos (show [a0].length ≤ Go.Proofs.Try.f63.ntmps from (by decide +kernel : 1 ≤ Go.Proofs.Try.f63.ntmps))]
  unfold afin
  rw [show acode Go.Proofs.Try.prog CC (draws Go.Proofs.Try.prog CC) K code (args0 [a0]) AHeap.empty = body thumb_can.spec thumb_put.spec (args0 [a0]) AHeap.empty from body_eq thumb_can.spec thumb_put.spec _ _]
  kernel_rfl
theorem sound : Sound Go.Proofs.Try.prog 63 (.pure false spec) := by
  refine (sound_pure CS Mixed (draws _ _) K hf hb hok callable).less fun args r h => ?_
  unfold spec at h
  split at h
  · rw [run_eq]; exact h
  · cases h
end thumb_Put
end Go.Abs
end
section
set_option linter.unusedSimpArgs false
set_option linter.unusedVariables false
namespace Go.Abs
namespace ref02_Shape
noncomputable def code : Code := match Go.Proofs.Try.f107.body with | some c => c | none => .skip
def K : Nat → List Nat
  | 0 => [0]
  | 1 => [2]
  | _ => []
noncomputable def CC : Tab := C
theorem CS : CC.Sound Go.Proofs.Try.prog := Tab.Sound.none
theorem body_eq (fr : AFr) (H : AHeap) : acode Go.Proofs.Try.prog C (draws Go.Proofs.Try.prog C) K code fr H = body fr H := by kernel_rfl
theorem callable : Callable Go.Proofs.Try.prog 107 := fun args w => Go.Proofs.Try.call107 args w
theorem hf : Go.Proofs.Try.prog.funcs[107]? = some Go.Proofs.Try.f107 := Go.Proofs.Try.func107
theorem hb : Go.Proofs.Try.f107.body = some code := by kernel_rfl
theorem hok : codeOk Go.Proofs.Try.f107.ntmps code = true := by kernel_rfl
theorem run_eq (a0 : AV) : pureOf Go.Proofs.Try.prog CC (draws Go.Proofs.Try.prog CC) K Go.Proofs.Try.f107 code [a0] = ref02_Shape a0 := by
  unfold pureOf arun
  rw [if_pos (show [a0].length ≤ Go.Proofs.Try.f107.ntmps from (by decide +kernel : 1 ≤ Go.Proofs.Try.f107.ntmps))]
  unfold afin
  rw [show acode Go.Proofs.Try.prog CC (draws Go.Proofs.Try.prog CC) K code (args0 [a0]) AHeap.empty = body (args0 [a0]) AHeap.empty from body_eq _ _]
  kernel_rfl
theorem sound : Sound Go.Proofs.Try.prog 107 (.pure false spec) := by
  refine (sound_pure CS Mixed (draws _ _) K hf hb hok callable).less fun args r h => ?_
  unfold spec at h
  split at h
  · rw [run_eq]; exact h
  · cases h
end ref02_Shape
namespace ref02_has
noncomputable def code : Code := match Go.Proofs.Try.f108.body with | some c => c | none => .skip
def K : Nat → List Nat
  | 0 => [0, 1]
  | 1 => [0, 1, 5]
  | 2 => [0, 1, 5, 9]
  | 4 => [0, 1, 5, 16]
  | 5 => [4]
  | 3 => [0, 1, 5]
  | 6 => [4]
  | _ => []
noncomputable def CC : Tab := C
theorem CS : CC.Sound Go.Proofs.Try.prog := Tab.Sound.none
theorem body_eq (fr : AFr) (H : AHeap) : acode Go.Proofs.Try.prog C (draws Go.Proofs.Try.prog C) K code fr H = body fr H := by kernel_rfl
theorem callable : Callable Go.Proofs.Try.prog 108 := fun args w => Go.Proofs.Try.call108 args w
theorem hf : Go.Proofs.Try.prog.funcs[108]? = some Go.Proofs.Try.f108 := Go.Proofs.Try.func108
theorem hb : Go.Proofs.Try.f108.body = some code := by kernel_rfl
theorem hok : codeOk Go.Proofs.Try.f108.ntmps code = true := by kernel_rfl
theorem run_eq (a0 a1 : AV) : pureOf Go.Proofs.Try.prog CC (draws Go.Proofs.Try.prog CC) K Go.Proofs.Try.f108 code [a0, a1] = ref02_has a0 a1 := by
  unfold pureOf arun
  rw [if_pos (show [a0, a1].length ≤ Go.Proofs.Try.f108.ntmps from (by decide +kernel : 2 ≤ Go.Proofs.Try.f108.ntmps))]
  unfold afin
  rw [show acode Go.Proofs.Try.prog CC (draws Go.Proofs.Try.prog CC) K code (args0 [a0, a1]) AHeap.empty = body (args0 [a0, a1]) AHeap.empty from body_eq _ _]
  kernel_rfl
theorem sound : Sound Go.Proofs.Try.prog 108 (.pure false spec) := by
  refine (sound_pure CS Mixed (draws _ _) K hf hb hok callable).less fun args r h => ?_
  unfold spec at h
  split at h
  · rw [run_eq]; exact h
  · cases h
end ref02_has
namespace ref02_Low
noncomputable def code : Code := match Go.Proofs.Try.f109.body with | some c => c | none => .skip
def K : Nat → List Nat
  | 0 => [0]
  | 1 => [2]
  | _ => []
noncomputable def CC : Tab := C
theorem CS : CC.Sound Go.Proofs.Try.prog := Tab.Sound.none
theorem body_eq (fr : AFr) (H : AHeap) : acode Go.Proofs.Try.prog C (draws Go.Proofs.Try.prog C) K code fr H = body fr H := by kernel_rfl
theorem callable : Callable Go.Proofs.Try.prog 109 := fun args w => Go.Proofs.Try.call109 args w
theorem hf : Go.Proofs.Try.prog.funcs[109]? = some Go.Proofs.Try.f109 := Go.Proofs.Try.func109
theorem hb : Go.Proofs.Try.f109.body = some code := by kernel_rfl
theorem hok : codeOk Go.Proofs.Try.f109.ntmps code = true := by kernel_rfl
theorem run_eq (a0 : AV) : pureOf Go.Proofs.Try.prog CC (draws Go.Proofs.Try.prog CC) K Go.Proofs.Try.f109 code [a0] = ref02_Low a0 := by
  unfold pureOf arun
  rw [if_pos (show [a0].length ≤ Go.Proofs.Try.f109.ntmps from (by decide +kernel : 1 ≤ Go.Proofs.Try.f109.ntmps))]
  unfold afin
  rw [show acode Go.Proofs.Try.prog CC (draws Go.Proofs.Try.prog CC) K code (args0 [a0]) AHeap.empty = body (args0 [a0]) AHeap.empty from body_eq _ _]
  kernel_rfl
theorem sound : Sound Go.Proofs.Try.prog 109 (.pure false spec) := by
  refine (sound_pure CS Mixed (draws _ _) K hf hb hok callable).less fun args r h => ?_
  unfold spec at h
  split at h
  · rw [run_eq]; exact h
  · cases h
end ref02_Low
namespace ref02_High
noncomputable def code : Code := match Go.Proofs.Try.f110.body with | some c => c | none => .skip
def K : Nat → List Nat
  | 0 => [0]
  | 1 => [2]
  | _ => []
noncomputable def CC : Tab := C
theorem CS : CC.Sound Go.Proofs.Try.prog := Tab.Sound.none
theorem body_eq (fr : AFr) (H : AHeap) : acode Go.Proofs.Try.prog C (draws Go.Proofs.Try.prog C) K code fr H = body fr H := by kernel_rfl
theorem callable : Callable Go.Proofs.Try.prog 110 := fun args w => Go.Proofs.Try.call110 args w
theorem hf : Go.Proofs.Try.prog.funcs[110]? = some Go.Proofs.Try.f110 := Go.Proofs.Try.func110
theorem hb : Go.Proofs.Try.f110.body = some code := by kernel_rfl
theorem hok : codeOk Go.Proofs.Try.f110.ntmps code = true := by kernel_rfl
theorem run_eq (a0 : AV) : pureOf Go.Proofs.Try.prog CC (draws Go.Proofs.Try.prog CC) K Go.Proofs.Try.f110 code [a0] = ref02_High a0 := by
  unfold pureOf arun
  rw [if_pos (show [a0].length ≤ Go.Proofs.Try.f110.ntmps from (by decide +kernel : 1 ≤ Go.Proofs.Try.f110.ntmps))]
  unfold afin
  rw [show acode Go.Proofs.Try.prog CC (draws Go.Proofs.Try.prog CC) K code (args0 [a0]) AHeap.empty = body (args0 [a0]) AHeap.empty from body_eq _ _]
  kernel_rfl
theorem sound : Sound Go.Proofs.Try.prog 110 (.pure false spec) := by
  refine (sound_pure CS Mixed (draws _ _) K hf hb hok callable).less fun args r h => ?_
  unfold spec at h
  split at h
  · rw [run_eq]; exact h
  · cases h
end ref02_High
namespace ref02_Can
noncomputable def code : Code := match Go.Proofs.Try.f60.body with | some c => c | none => .skip
def K : Nat → List Nat
  | 0 => [1]
  | 1 => [1, 11]
  | 2 => [2]
  | 3 => [1, 3]
  | 4 => [1, 3, 16]
  | 5 => [1, 3, 24]
  | 6 => [2]
  | 7 => [1, 3, 42]
  | 8 => [2]
  | 9 => [2]
  | _ => []
noncomputable def CC : Tab := C ref02_Shape.spec ref02_has.spec ref02_Low.spec ref02_High.spec
theorem CS : CC.Sound Go.Proofs.Try.prog := ((((Tab.Sound.none.add ref02_Shape.sound).add ref02_has.sound).add ref02_Low.sound).add ref02_High.sound)
theorem body_eq (s0 s1 s2 s3 : SpecP) (fr : AFr) (H : AHeap) : acode Go.Proofs.Try.prog (C s0 s1 s2 s3) (draws Go.Proofs.Try.prog (C s0 s1 s2 s3)) K code fr H = body s0 s1 s2 s3 fr H := by kernel_rfl
theorem callable : Callable Go.Proofs.Try.prog 60 := fun args w => Go.Proofs.Try.call60 args w
theorem hf : Go.Proofs.Try.prog.funcs[60]? = some Go.Proofs.Try.f60 := Go.Proofs.Try.func60
theorem hb : Go.Proofs.Try.f60.body = some code := by kernel_rfl
theorem hok : codeOk Go.Proofs.Try.f60.ntmps code = true := by kernel_rfl
theorem run_eq (a0 : AV) : pureOf Go.Proofs.Try.prog CC (draws Go.Proofs.Try.prog CC) K Go.Proofs.Try.f60 code [a0] = ref02_Can a0 := by
  unfold pureOf arun
  rw [if_pos (show [a0].length ≤ Go.Proofs.Try.f60.ntmps from (by decide +kernel : 1 ≤ Go.Proofs.Try.f60.ntmps))]
  unfold afin
  rw [show acode Go.Proofs.Try.prog CC (draws Go.Proofs.Try.prog CC) K code (args0 [a0]) AHeap.empty = body ref02_Shape.spec ref02_has.spec ref02_Low.spec ref02_High.spec (args0 [a0]) AHeap.empty from body_eq ref02_Shape.spec ref02_has.spec ref02_Low.spec ref02_High.spec _ _]
  kernel_rfl
theorem sound : Sound Go.Proofs.Try.prog 60 (.pure false spec) := by
  refine (sound_pure CS Mixed (draws _ _) K hf hb hok callable).less fun args r h => ?_
  unfold spec at h
  split at h
  · rw [run_eq]; exact h
  · cases h
end ref02_Can
namespace ref02_Take
noncomputable def code : Code := match Go.Proofs.Try.f83.body with | some c => c | none => .skip
def K : Nat → List Nat
  | 0 => [0, 2]
  | 1 => [0, 2, 4]
  | 2 => [0, 2, 4, 13]
  | 4 => [0, 2, 4, 5, 6, 7, 8]
  | 5 => [0, 2, 4, 5, 6, 7, 8, 9]
  | 6 => [0, 2, 4, 5, 6, 7, 8, 9, 10]
  | 7 => [0, 2, 4, 5, 6, 7, 8, 9, 10, 23]
  | 9 => [0, 2, 4, 5, 6, 7, 8, 9, 10, 11]
  | 10 => [0, 2, 4, 5, 6, 7, 8, 9, 10, 11, 27]
  | 11 => [0, 2, 4, 5, 6, 7, 8, 9, 10, 11]
  | 12 => [0, 2, 4, 5, 6, 7, 8, 9, 10, 11]
  | 13 => [0, 2, 4, 5, 6, 7, 8, 9, 10, 11, 34]
  | 14 => [0, 2, 4, 5, 6, 7, 8, 9, 10, 11, 34, 35]
  | 15 => [0, 2, 4, 5, 6, 7, 8, 9, 10, 11, 34, 35]
  | 16 => [0, 2, 4, 5, 6, 7, 8, 9, 10]
  | 17 => [0, 2, 4, 5, 6, 7, 8, 9, 10, 11, 34, 48]
  | 18 => [0, 2, 4, 5, 6, 7, 8, 9, 10, 11, 34, 48]
  | 19 => [0, 2, 4, 5, 6, 7, 8, 9, 10]
  | 20 => [0, 2, 4, 5, 6, 7, 8, 9, 10, 11, 34, 57]
  | 21 => [0, 2, 4, 5, 6, 7, 8, 9, 10]
  | 22 => [0, 2, 4, 5, 6, 7, 8, 9, 10, 11, 34, 65]
  | 23 => [0, 2, 4, 5, 6, 7, 8, 9, 10]
  | 24 => [0, 2, 4, 5, 6, 7, 8, 9, 10, 11, 73]
  | 25 => [0, 2, 4, 5, 6, 7, 8, 9, 10]
  | 8 => [0, 2, 4, 5, 6, 7, 8, 9, 10]
  | 26 => [0, 2, 4, 6, 7, 8, 92]
  | 27 => [0, 2, 4, 6, 7]
  | 28 => [0, 2, 4, 6, 7, 105]
  | 29 => [0, 2, 4, 6, 7]
  | 30 => [0, 2, 4, 6, 111]
  | 31 => [2, 3]
  | 3 => [0, 2, 4]
  | 32 => [2, 3]
  | _ => []
noncomputable def CC : Tab := C ref02_Shape.spec ref02_Low.spec ref02_High.spec ref02_Can.spec
theorem CS : CC.Sound Go.Proofs.Try.prog := ((((Tab.Sound.none.add ref02_Shape.sound).add ref02_Low.sound).add ref02_High.sound).add ref02_Can.sound)
theorem body_eq (s0 s1 s2 s3 : SpecP) (fr : AFr) (H : AHeap) : acode Go.Proofs.Try.prog (C s0 s1 s2 s3) (draws Go.Proofs.Try.prog (C s0 s1 s2 s3)) K code fr H = body s0 s1 s2 s3 fr H := by kernel_rfl
theorem callable : Callable Go.Proofs.Try.prog 83 := fun args w => Go.Proofs.Try.call83 args w
theorem hf : Go.Proofs.Try.prog.funcs[83]? = some Go.Proofs.Try.f83 := Go.Proofs.Try.func83
theorem hb : Go.Proofs.Try.f83.body = some code := by kernel_rfl
theorem hok : codeOk Go.Proofs.Try.f83.ntmps code = true := by kernel_rfl
theorem run_eq (a0 : AV) : pureOf Go.Proofs.Try.prog CC (draws Go.Proofs.Try.prog CC) K Go.Proofs.Try.f83 code [a0] = ref02_Take a0 := by
  unfold pureOf arun
  rw [if_pos (show [a0].length ≤ Go.Proofs.Try.f83.ntmps from (by decide +kernel : 1 ≤ Go.Proofs.Try.f83.ntmps))]
  unfold afin
  rw [show acode Go.Proofs.Try.prog CC (draws Go.Proofs.Try.prog CC) K code (args0 [a0]) AHeap.empty = body ref02_Shape.spec ref02_Low.spec ref02_High.spec ref02_Can.spec (args0 [a0]) AHeap.empty from body_eq ref02_Shape.spec ref02_Low.spec ref02_High.spec ref02_Can.spec _ _]
  kernel_rfl
theorem sound : Sound Go.Proofs.Try.prog 83 (.pure false spec) := by
  refine (sound_pure CS Mixed (draws _ _) K hf hb hok callable).less fun args r h => ?_
  unfold spec at h
  split at h
  · rw [run_eq]; exact h
  · cases h
end ref02_Take
end Go.Abs
end
section
set_option linter.unusedSimpArgs false
set_option linter.unusedVariables false
end
section
set_option linter.unusedSimpArgs false
set_option linter.unusedVariables false
end
section
set_option linter.unusedSimpArgs false
set_option linter.unusedVariables false
end
section
set_option linter.unusedSimpArgs false
set_option linter.unusedVariables false
end

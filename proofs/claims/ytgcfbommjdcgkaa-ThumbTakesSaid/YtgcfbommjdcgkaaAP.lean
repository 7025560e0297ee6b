/-
  That the program's functions are these. Printed by gen.py.
-/
import Derived.Test.YtgcfbommjdcgkaaAF
import Derived.Test.YtgcfbommjdcgkaaP0
set_option linter.unusedSimpArgs false
set_option linter.unusedVariables false
namespace Go.Abs
/-! bauta/thumb.shapes -/
namespace thumb_shapes
noncomputable def code : Code := match Go.Proofs.Try.f46.body with | some c => c | none => .skip
def K : Nat → List Nat
  | 0 => [0, 2]
  | 1 => [0, 2, 3, 4, 5]
  | 2 => [0, 2, 3, 4, 5, 6, 7]
  | 3 => [0, 2, 3, 4, 5, 6, 7, 13]
  | 4 => [0, 2, 3, 4, 5, 6, 7, 13, 14]
  | 5 => [0, 2, 3, 4, 5, 6, 7, 13, 14]
  | 6 => [0, 2, 3, 4, 5, 6, 7, 13, 14]
  | 7 => [0, 2, 3, 4, 5, 6, 7, 13, 14]
  | 8 => [2]
  | 9 => [0, 2, 3, 4, 5, 6, 7, 13, 28]
  | 10 => [2]
  | 11 => [0, 2, 3, 4, 5, 6, 7, 13, 35]
  | 12 => [0, 2, 3, 4, 5, 6, 7, 13, 35]
  | 13 => [2]
  | 14 => [0, 2, 3, 4, 5, 6, 7, 13, 47]
  | 15 => [0, 2, 3, 4, 5, 6, 7, 13, 47]
  | 16 => [2]
  | 17 => [0, 2, 3, 4, 5, 6, 7, 13, 60]
  | 18 => [0, 2, 3, 4, 5, 6, 7, 13, 60]
  | 19 => [2]
  | 20 => [2, 3, 4, 5, 6, 7, 13, 73]
  | 21 => [2]
  | 22 => [2, 3, 4, 5, 6, 13, 80]
  | 23 => [2]
  | 24 => [2, 3, 4, 5, 6, 13, 87]
  | 25 => [2]
  | 26 => [2, 3, 4, 5, 6, 13, 94]
  | 27 => [2]
  | 28 => [2, 3, 4, 5, 6, 13, 101]
  | 29 => [2]
  | 30 => [2, 6, 13, 108]
  | 31 => [2]
  | 32 => [2, 6, 13, 114]
  | 33 => [2]
  | 34 => [2, 6, 13, 119]
  | 35 => [2]
  | 36 => [2, 6, 125]
  | 37 => [2]
  | 38 => [2]
  | _ => []
noncomputable def CC : Tab := C
theorem CS : CC.Sound Go.Proofs.Try.prog := Tab.Sound.none
theorem body_eq (fr : AFr) (H : AHeap) : acode Go.Proofs.Try.prog C (draws Go.Proofs.Try.prog C) K code fr H = body fr H := by kernel_rfl
theorem callable : Callable Go.Proofs.Try.prog 46 := fun args w => Go.Proofs.Try.call46 args w
theorem hf : Go.Proofs.Try.prog.funcs[46]? = some Go.Proofs.Try.f46 := Go.Proofs.Try.func46
theorem hb : Go.Proofs.Try.f46.body = some code := by kernel_rfl
theorem hok : codeOk Go.Proofs.Try.f46.ntmps code = true := by kernel_rfl
theorem run_eq (a0 : AV) : pureOf Go.Proofs.Try.prog CC (draws Go.Proofs.Try.prog CC) K Go.Proofs.Try.f46 code [a0] = thumb_shapes a0 := by
  unfold pureOf arun
  rw [if_pos (show [a0].length ≤ Go.Proofs.Try.f46.ntmps from (by decide +kernel : 1 ≤ Go.Proofs.Try.f46.ntmps))]
  unfold afin
  rw [show acode Go.Proofs.Try.prog CC (draws Go.Proofs.Try.prog CC) K code (args0 [a0]) AHeap.empty = body (args0 [a0]) AHeap.empty from body_eq _ _]
  kernel_rfl
theorem sound : Sound Go.Proofs.Try.prog 46 (.pure false spec) := by
  refine (sound_pure CS Mixed (draws _ _) K hf hb hok callable).less fun args r h => ?_
  unfold spec at h
  split at h
  · rw [run_eq]; exact h
  · cases h
end thumb_shapes

/-! bauta/thumb.field -/
namespace thumb_field
noncomputable def code : Code := match Go.Proofs.Try.f47.body with | some c => c | none => .skip
def K : Nat → List Nat
  | 0 => [0, 1]
  | 1 => [0, 5]
  | 2 => [0, 5, 6]
  | 3 => [0, 5, 6]
  | 4 => [4]
  | 5 => [0, 5, 12]
  | 6 => [4]
  | 7 => [0, 17]
  | 8 => [4]
  | 9 => [4]
  | _ => []
noncomputable def CC : Tab := C
theorem CS : CC.Sound Go.Proofs.Try.prog := Tab.Sound.none
theorem body_eq (fr : AFr) (H : AHeap) : acode Go.Proofs.Try.prog C (draws Go.Proofs.Try.prog C) K code fr H = body fr H := by kernel_rfl
theorem callable : Callable Go.Proofs.Try.prog 47 := fun args w => Go.Proofs.Try.call47 args w
theorem hf : Go.Proofs.Try.prog.funcs[47]? = some Go.Proofs.Try.f47 := Go.Proofs.Try.func47
theorem hb : Go.Proofs.Try.f47.body = some code := by kernel_rfl
theorem hok : codeOk Go.Proofs.Try.f47.ntmps code = true := by kernel_rfl
theorem run_eq (a0 a1 : AV) (H : AHeap) : refOf Go.Proofs.Try.prog CC (draws Go.Proofs.Try.prog CC) K Go.Proofs.Try.f47 code [a0, a1] H = thumb_field a0 a1 H := by
  unfold refOf arun
  rw [if_pos (show [a0, a1].length ≤ Go.Proofs.Try.f47.ntmps from (by decide +kernel : 2 ≤ Go.Proofs.Try.f47.ntmps))]
  unfold afin
  rw [show acode Go.Proofs.Try.prog CC (draws Go.Proofs.Try.prog CC) K code (args0 [a0, a1]) H = body (args0 [a0, a1]) H from body_eq _ _]
  kernel_rfl
theorem sound : Sound Go.Proofs.Try.prog 47 (.ref [false, false] spec) := by
  refine (sound_ref CS Mixed (draws _ _) K hf hb hok callable [false, false]).lessR fun args H r h => ?_
  unfold spec at h
  split at h
  · rw [run_eq]; exact h
  · cases h
end thumb_field

/-! bauta/thumb.can -/
namespace thumb_can
noncomputable def code : Code := match Go.Proofs.Try.f40.body with | some c => c | none => .skip
def K : Nat → List Nat
  | 0 => [1]
  | 1 => [1, 15]
  | 2 => [2]
  | 3 => [1, 3]
  | 4 => [1, 3, 30]
  | 5 => [2]
  | 6 => [1, 3, 4]
  | 7 => [1, 4, 33, 34]
  | 8 => [1, 4, 33, 34, 35]
  | 9 => [1, 4, 6, 33, 34]
  | 10 => [1, 4, 6, 7, 33, 34]
  | 11 => [1, 4, 6, 7, 33, 34, 42]
  | 12 => [1, 4, 6, 7, 33, 34, 46]
  | 13 => [1, 4, 6, 33, 34, 46]
  | 14 => [2]
  | 15 => [1, 4, 33, 34]
  | 16 => [1, 4, 33, 34]
  | 17 => [2]
  | _ => []
noncomputable def CC : Tab := C thumb_shapes.spec thumb_field.spec
theorem CS : CC.Sound Go.Proofs.Try.prog := ((Tab.Sound.none.add thumb_shapes.sound).add thumb_field.sound)
theorem body_eq (s0 : SpecP) (s1 : SpecM) (fr : AFr) (H : AHeap) : acode Go.Proofs.Try.prog (C s0 s1) (draws Go.Proofs.Try.prog (C s0 s1)) K code fr H = body s0 s1 fr H := by kernel_rfl
theorem callable : Callable Go.Proofs.Try.prog 40 := fun args w => Go.Proofs.Try.call40 args w
theorem hf : Go.Proofs.Try.prog.funcs[40]? = some Go.Proofs.Try.f40 := Go.Proofs.Try.func40
theorem hb : Go.Proofs.Try.f40.body = some code := by kernel_rfl
theorem hok : codeOk Go.Proofs.Try.f40.ntmps code = true := by kernel_rfl
theorem run_eq (a0 : AV) : pureOf Go.Proofs.Try.prog CC (draws Go.Proofs.Try.prog CC) K Go.Proofs.Try.f40 code [a0] = thumb_can a0 := by
  unfold pureOf arun
  rw [if_pos (show [a0].length ≤ Go.Proofs.Try.f40.ntmps from (by decide +kernel : 1 ≤ Go.Proofs.Try.f40.ntmps))]
  unfold afin
  rw [show acode Go.Proofs.Try.prog CC (draws Go.Proofs.Try.prog CC) K code (args0 [a0]) AHeap.empty = body thumb_shapes.spec thumb_field.spec (args0 [a0]) AHeap.empty from body_eq thumb_shapes.spec thumb_field.spec _ _]
  kernel_rfl
theorem sound : Sound Go.Proofs.Try.prog 40 (.pure false spec) := by
  refine (sound_pure CS Mixed (draws _ _) K hf hb hok callable).less fun args r h => ?_
  unfold spec at h
  split at h
  · rw [run_eq]; exact h
  · cases h
end thumb_can

/-! bauta/thumb.put -/
namespace thumb_put
noncomputable def code : Code := match Go.Proofs.Try.f41.body with | some c => c | none => .skip
def K : Nat → List Nat
  | 0 => [1]
  | 1 => [1, 3]
  | 2 => [1, 3, 4]
  | 3 => [1, 4, 13, 14]
  | 4 => [1, 4, 13, 14, 15]
  | 5 => [1, 4, 6, 13, 14]
  | 6 => [1, 4, 6, 13, 14, 19]
  | 7 => [1, 4, 13, 14]
  | 8 => [1, 4, 13, 14]
  | 9 => [2]
  | _ => []
noncomputable def CC : Tab := C thumb_shapes.spec thumb_field.spec
theorem CS : CC.Sound Go.Proofs.Try.prog := ((Tab.Sound.none.add thumb_shapes.sound).add thumb_field.sound)
theorem body_eq (s0 : SpecP) (s1 : SpecM) (fr : AFr) (H : AHeap) : acode Go.Proofs.Try.prog (C s0 s1) (draws Go.Proofs.Try.prog (C s0 s1)) K code fr H = body s0 s1 fr H := by kernel_rfl
theorem callable : Callable Go.Proofs.Try.prog 41 := fun args w => Go.Proofs.Try.call41 args w
theorem hf : Go.Proofs.Try.prog.funcs[41]? = some Go.Proofs.Try.f41 := Go.Proofs.Try.func41
theorem hb : Go.Proofs.Try.f41.body = some code := by kernel_rfl
theorem hok : codeOk Go.Proofs.Try.f41.ntmps code = true := by kernel_rfl
theorem run_eq (a0 : AV) : pureOf Go.Proofs.Try.prog CC (draws Go.Proofs.Try.prog CC) K Go.Proofs.Try.f41 code [a0] = thumb_put a0 := by
  unfold pureOf arun
  rw [if_pos (show [a0].length ≤ Go.Proofs.Try.f41.ntmps from (by decide +kernel : 1 ≤ Go.Proofs.Try.f41.ntmps))]
  unfold afin
  rw [show acode Go.Proofs.Try.prog CC (draws Go.Proofs.Try.prog CC) K code (args0 [a0]) AHeap.empty = body thumb_shapes.spec thumb_field.spec (args0 [a0]) AHeap.empty from body_eq thumb_shapes.spec thumb_field.spec _ _]
  kernel_rfl
theorem sound : Sound Go.Proofs.Try.prog 41 (.pure false spec) := by
  refine (sound_pure CS Mixed (draws _ _) K hf hb hok callable).less fun args r h => ?_
  unfold spec at h
  split at h
  · rw [run_eq]; exact h
  · cases h
end thumb_put

/-! bauta/thumb.Put -/
namespace thumb_Put
noncomputable def code : Code := match Go.Proofs.Try.f13.body with | some c => c | none => .skip
def K : Nat → List Nat
  | 0 => [1]
  | 1 => [1, 6]
  | 2 => [2, 3]
  | 3 => [2, 3]
  | _ => []
noncomputable def CC : Tab := C thumb_can.spec thumb_put.spec
theorem CS : CC.Sound Go.Proofs.Try.prog := ((Tab.Sound.none.add thumb_can.sound).add thumb_put.sound)
theorem body_eq (s0 : SpecP) (s1 : SpecP) (fr : AFr) (H : AHeap) : acode Go.Proofs.Try.prog (C s0 s1) (draws Go.Proofs.Try.prog (C s0 s1)) K code fr H = body s0 s1 fr H := by kernel_rfl
theorem callable : Callable Go.Proofs.Try.prog 13 := fun args w => Go.Proofs.Try.call13 args w
theorem hf : Go.Proofs.Try.prog.funcs[13]? = some Go.Proofs.Try.f13 := Go.Proofs.Try.func13
theorem hb : Go.Proofs.Try.f13.body = some code := by kernel_rfl
theorem hok : codeOk Go.Proofs.Try.f13.ntmps code = true := by kernel_rfl
theorem run_eq (a0 : AV) : pureOf Go.Proofs.Try.prog CC (draws Go.Proofs.Try.prog CC) K Go.Proofs.Try.f13 code [a0] = thumb_Put a0 := by
  unfold pureOf arun
  rw [if_pos (show [a0].length ≤ Go.Proofs.Try.f13.ntmps from (by decide +kernel : 1 ≤ Go.Proofs.Try.f13.ntmps))]
  unfold afin
  rw [show acode Go.Proofs.Try.prog CC (draws Go.Proofs.Try.prog CC) K code (args0 [a0]) AHeap.empty = body thumb_can.spec thumb_put.spec (args0 [a0]) AHeap.empty from body_eq thumb_can.spec thumb_put.spec _ _]
  kernel_rfl
theorem sound : Sound Go.Proofs.Try.prog 13 (.pure false spec) := by
  refine (sound_pure CS Mixed (draws _ _) K hf hb hok callable).less fun args r h => ?_
  unfold spec at h
  split at h
  · rw [run_eq]; exact h
  · cases h
end thumb_Put

/-! bauta/thumb.Can -/
namespace thumb_Can
noncomputable def code : Code := match Go.Proofs.Try.f16.body with | some c => c | none => .skip
def K : Nat → List Nat
  | 0 => [1]
  | 1 => [2]
  | _ => []
noncomputable def CC : Tab := C thumb_can.spec
theorem CS : CC.Sound Go.Proofs.Try.prog := (Tab.Sound.none.add thumb_can.sound)
theorem body_eq (s0 : SpecP) (fr : AFr) (H : AHeap) : acode Go.Proofs.Try.prog (C s0) (draws Go.Proofs.Try.prog (C s0)) K code fr H = body s0 fr H := by kernel_rfl
theorem callable : Callable Go.Proofs.Try.prog 16 := fun args w => Go.Proofs.Try.call16 args w
theorem hf : Go.Proofs.Try.prog.funcs[16]? = some Go.Proofs.Try.f16 := Go.Proofs.Try.func16
theorem hb : Go.Proofs.Try.f16.body = some code := by kernel_rfl
theorem hok : codeOk Go.Proofs.Try.f16.ntmps code = true := by kernel_rfl
theorem run_eq (a0 : AV) : pureOf Go.Proofs.Try.prog CC (draws Go.Proofs.Try.prog CC) K Go.Proofs.Try.f16 code [a0] = thumb_Can a0 := by
  unfold pureOf arun
  rw [if_pos (show [a0].length ≤ Go.Proofs.Try.f16.ntmps from (by decide +kernel : 1 ≤ Go.Proofs.Try.f16.ntmps))]
  unfold afin
  rw [show acode Go.Proofs.Try.prog CC (draws Go.Proofs.Try.prog CC) K code (args0 [a0]) AHeap.empty = body thumb_can.spec (args0 [a0]) AHeap.empty from body_eq thumb_can.spec _ _]
  kernel_rfl
theorem sound : Sound Go.Proofs.Try.prog 16 (.pure false spec) := by
  refine (sound_pure CS Mixed (draws _ _) K hf hb hok callable).less fun args r h => ?_
  unfold spec at h
  split at h
  · rw [run_eq]; exact h
  · cases h
end thumb_Can

/-! bauta/bautalaw02.lives -/
namespace law02_lives
noncomputable def code : Code := match Go.Proofs.Try.f14.body with | some c => c | none => .skip
def K : Nat → List Nat
  | 0 => []
  | 1 => [1, 2]
  | 2 => [0]
  | _ => []
noncomputable def CC : Tab := C thumb_Put.spec thumb_Can.spec
theorem CS : CC.Sound Go.Proofs.Try.prog := ((Tab.Sound.none.add thumb_Put.sound).add thumb_Can.sound)
theorem body_eq (s0 : SpecP) (s1 : SpecP) (fr : AFr) (H : AHeap) : acode Go.Proofs.Try.prog (C s0 s1) (draws Go.Proofs.Try.prog (C s0 s1)) K code fr H = body s0 s1 fr H := by kernel_rfl
theorem callable : Callable Go.Proofs.Try.prog 14 := fun args w => Go.Proofs.Try.call14 args w
theorem hf : Go.Proofs.Try.prog.funcs[14]? = some Go.Proofs.Try.f14 := Go.Proofs.Try.func14
theorem hb : Go.Proofs.Try.f14.body = some code := by kernel_rfl
theorem hok : codeOk Go.Proofs.Try.f14.ntmps code = true := by kernel_rfl
theorem run_eq : pureOf Go.Proofs.Try.prog CC (draws Go.Proofs.Try.prog CC) K Go.Proofs.Try.f14 code [] = law02_lives := by
  unfold pureOf arun
  rw [if_pos (show [].length ≤ Go.Proofs.Try.f14.ntmps from (by decide +kernel : 0 ≤ Go.Proofs.Try.f14.ntmps))]
  unfold afin
  rw [show acode Go.Proofs.Try.prog CC (draws Go.Proofs.Try.prog CC) K code (args0 []) AHeap.empty = body thumb_Put.spec thumb_Can.spec (args0 []) AHeap.empty from body_eq thumb_Put.spec thumb_Can.spec _ _]
  kernel_rfl
theorem sound : Sound Go.Proofs.Try.prog 14 (.pure false spec) := by
  refine (sound_pure CS Mixed (draws _ _) K hf hb hok callable).less fun args r h => ?_
  unfold spec at h
  split at h
  · rw [run_eq]; exact h
  · cases h
end law02_lives

/-! bauta/bautalaw02.ThumbOne -/
namespace law02_ThumbOne
noncomputable def code : Code := match Go.Proofs.Try.f3.body with | some c => c | none => .skip
def K : Nat → List Nat
  | 0 => [2, 3]
  | 1 => [2, 3, 5, 6]
  | 2 => [2, 3, 5, 6, 7, 8]
  | 3 => [4]
  | _ => []
noncomputable def CC : Tab := C thumb_Put.spec law02_lives.spec
theorem CS : CC.Sound Go.Proofs.Try.prog := ((Tab.Sound.none.add thumb_Put.sound).add law02_lives.sound)
theorem body_eq (s0 : SpecP) (s1 : SpecP) (fr : AFr) (H : AHeap) : acode Go.Proofs.Try.prog (C s0 s1) (draws Go.Proofs.Try.prog (C s0 s1)) K code fr H = body s0 s1 fr H := by kernel_rfl
theorem callable : Callable Go.Proofs.Try.prog 3 := fun args w => Go.Proofs.Try.call3 args w
theorem hf : Go.Proofs.Try.prog.funcs[3]? = some Go.Proofs.Try.f3 := Go.Proofs.Try.func3
theorem hb : Go.Proofs.Try.f3.body = some code := by kernel_rfl
theorem hok : codeOk Go.Proofs.Try.f3.ntmps code = true := by kernel_rfl
theorem run_eq (a0 a1 : AV) : pureOf Go.Proofs.Try.prog CC (draws Go.Proofs.Try.prog CC) K Go.Proofs.Try.f3 code [a0, a1] = law02_ThumbOne a0 a1 := by
  unfold pureOf arun
  rw [if_pos (show [a0, a1].length ≤ Go.Proofs.Try.f3.ntmps from (by decide +kernel : 2 ≤ Go.Proofs.Try.f3.ntmps))]
  unfold afin
  rw [show acode Go.Proofs.Try.prog CC (draws Go.Proofs.Try.prog CC) K code (args0 [a0, a1]) AHeap.empty = body thumb_Put.spec law02_lives.spec (args0 [a0, a1]) AHeap.empty from body_eq thumb_Put.spec law02_lives.spec _ _]
  kernel_rfl
theorem sound : Sound Go.Proofs.Try.prog 3 (.pure false spec) := by
  refine (sound_pure CS Mixed (draws _ _) K hf hb hok callable).less fun args r h => ?_
  unfold spec at h
  split at h
  · rw [run_eq]; exact h
  · cases h
end law02_ThumbOne

/-! bauta/bautaref02.Shape -/
namespace ref02_Shape
noncomputable def code : Code := match Go.Proofs.Try.f42.body with | some c => c | none => .skip
def K : Nat → List Nat
  | 0 => [0]
  | 1 => [2]
  | _ => []
noncomputable def CC : Tab := C
theorem CS : CC.Sound Go.Proofs.Try.prog := Tab.Sound.none
theorem body_eq (fr : AFr) (H : AHeap) : acode Go.Proofs.Try.prog C (draws Go.Proofs.Try.prog C) K code fr H = body fr H := by kernel_rfl
theorem callable : Callable Go.Proofs.Try.prog 42 := fun args w => Go.Proofs.Try.call42 args w
theorem hf : Go.Proofs.Try.prog.funcs[42]? = some Go.Proofs.Try.f42 := Go.Proofs.Try.func42
theorem hb : Go.Proofs.Try.f42.body = some code := by kernel_rfl
theorem hok : codeOk Go.Proofs.Try.f42.ntmps code = true := by kernel_rfl
theorem run_eq (a0 : AV) : pureOf Go.Proofs.Try.prog CC (draws Go.Proofs.Try.prog CC) K Go.Proofs.Try.f42 code [a0] = ref02_Shape a0 := by
  unfold pureOf arun
  rw [if_pos (show [a0].length ≤ Go.Proofs.Try.f42.ntmps from (by decide +kernel : 1 ≤ Go.Proofs.Try.f42.ntmps))]
  unfold afin
  rw [show acode Go.Proofs.Try.prog CC (draws Go.Proofs.Try.prog CC) K code (args0 [a0]) AHeap.empty = body (args0 [a0]) AHeap.empty from body_eq _ _]
  kernel_rfl
theorem sound : Sound Go.Proofs.Try.prog 42 (.pure false spec) := by
  refine (sound_pure CS Mixed (draws _ _) K hf hb hok callable).less fun args r h => ?_
  unfold spec at h
  split at h
  · rw [run_eq]; exact h
  · cases h
end ref02_Shape

/-! bauta/bautaref02.has -/
namespace ref02_has
noncomputable def code : Code := match Go.Proofs.Try.f43.body with | some c => c | none => .skip
def K : Nat → List Nat
  | 0 => [0, 1]
  | 1 => [0, 1, 5]
  | 2 => [0, 1, 5, 9]
  | 4 => [0, 1, 5, 16]
  | 5 => [4]
  | 3 => [0, 1, 5]
  | 6 => [4]
  | _ => []
noncomputable def CC : Tab := C
theorem CS : CC.Sound Go.Proofs.Try.prog := Tab.Sound.none
theorem body_eq (fr : AFr) (H : AHeap) : acode Go.Proofs.Try.prog C (draws Go.Proofs.Try.prog C) K code fr H = body fr H := by kernel_rfl
theorem callable : Callable Go.Proofs.Try.prog 43 := fun args w => Go.Proofs.Try.call43 args w
theorem hf : Go.Proofs.Try.prog.funcs[43]? = some Go.Proofs.Try.f43 := Go.Proofs.Try.func43
theorem hb : Go.Proofs.Try.f43.body = some code := by kernel_rfl
theorem hok : codeOk Go.Proofs.Try.f43.ntmps code = true := by kernel_rfl
theorem run_eq (a0 a1 : AV) : pureOf Go.Proofs.Try.prog CC (draws Go.Proofs.Try.prog CC) K Go.Proofs.Try.f43 code [a0, a1] = ref02_has a0 a1 := by
  unfold pureOf arun
  rw [if_pos (show [a0, a1].length ≤ Go.Proofs.Try.f43.ntmps from (by decide +kernel : 2 ≤ Go.Proofs.Try.f43.ntmps))]
  unfold afin
  rw [show acode Go.Proofs.Try.prog CC (draws Go.Proofs.Try.prog CC) K code (args0 [a0, a1]) AHeap.empty = body (args0 [a0, a1]) AHeap.empty from body_eq _ _]
  kernel_rfl
theorem sound : Sound Go.Proofs.Try.prog 43 (.pure false spec) := by
  refine (sound_pure CS Mixed (draws _ _) K hf hb hok callable).less fun args r h => ?_
  unfold spec at h
  split at h
  · rw [run_eq]; exact h
  · cases h
end ref02_has

/-! bauta/bautaref02.Low -/
namespace ref02_Low
noncomputable def code : Code := match Go.Proofs.Try.f44.body with | some c => c | none => .skip
def K : Nat → List Nat
  | 0 => [0]
  | 1 => [2]
  | _ => []
noncomputable def CC : Tab := C
theorem CS : CC.Sound Go.Proofs.Try.prog := Tab.Sound.none
theorem body_eq (fr : AFr) (H : AHeap) : acode Go.Proofs.Try.prog C (draws Go.Proofs.Try.prog C) K code fr H = body fr H := by kernel_rfl
theorem callable : Callable Go.Proofs.Try.prog 44 := fun args w => Go.Proofs.Try.call44 args w
theorem hf : Go.Proofs.Try.prog.funcs[44]? = some Go.Proofs.Try.f44 := Go.Proofs.Try.func44
theorem hb : Go.Proofs.Try.f44.body = some code := by kernel_rfl
theorem hok : codeOk Go.Proofs.Try.f44.ntmps code = true := by kernel_rfl
theorem run_eq (a0 : AV) : pureOf Go.Proofs.Try.prog CC (draws Go.Proofs.Try.prog CC) K Go.Proofs.Try.f44 code [a0] = ref02_Low a0 := by
  unfold pureOf arun
  rw [if_pos (show [a0].length ≤ Go.Proofs.Try.f44.ntmps from (by decide +kernel : 1 ≤ Go.Proofs.Try.f44.ntmps))]
  unfold afin
  rw [show acode Go.Proofs.Try.prog CC (draws Go.Proofs.Try.prog CC) K code (args0 [a0]) AHeap.empty = body (args0 [a0]) AHeap.empty from body_eq _ _]
  kernel_rfl
theorem sound : Sound Go.Proofs.Try.prog 44 (.pure false spec) := by
  refine (sound_pure CS Mixed (draws _ _) K hf hb hok callable).less fun args r h => ?_
  unfold spec at h
  split at h
  · rw [run_eq]; exact h
  · cases h
end ref02_Low

/-! bauta/bautaref02.High -/
namespace ref02_High
noncomputable def code : Code := match Go.Proofs.Try.f45.body with | some c => c | none => .skip
def K : Nat → List Nat
  | 0 => [0]
  | 1 => [2]
  | _ => []
noncomputable def CC : Tab := C
theorem CS : CC.Sound Go.Proofs.Try.prog := Tab.Sound.none
theorem body_eq (fr : AFr) (H : AHeap) : acode Go.Proofs.Try.prog C (draws Go.Proofs.Try.prog C) K code fr H = body fr H := by kernel_rfl
theorem callable : Callable Go.Proofs.Try.prog 45 := fun args w => Go.Proofs.Try.call45 args w
theorem hf : Go.Proofs.Try.prog.funcs[45]? = some Go.Proofs.Try.f45 := Go.Proofs.Try.func45
theorem hb : Go.Proofs.Try.f45.body = some code := by kernel_rfl
theorem hok : codeOk Go.Proofs.Try.f45.ntmps code = true := by kernel_rfl
theorem run_eq (a0 : AV) : pureOf Go.Proofs.Try.prog CC (draws Go.Proofs.Try.prog CC) K Go.Proofs.Try.f45 code [a0] = ref02_High a0 := by
  unfold pureOf arun
  rw [if_pos (show [a0].length ≤ Go.Proofs.Try.f45.ntmps from (by decide +kernel : 1 ≤ Go.Proofs.Try.f45.ntmps))]
  unfold afin
  rw [show acode Go.Proofs.Try.prog CC (draws Go.Proofs.Try.prog CC) K code (args0 [a0]) AHeap.empty = body (args0 [a0]) AHeap.empty from body_eq _ _]
  kernel_rfl
theorem sound : Sound Go.Proofs.Try.prog 45 (.pure false spec) := by
  refine (sound_pure CS Mixed (draws _ _) K hf hb hok callable).less fun args r h => ?_
  unfold spec at h
  split at h
  · rw [run_eq]; exact h
  · cases h
end ref02_High

/-! bauta/bautaref02.Can -/
namespace ref02_Can
noncomputable def code : Code := match Go.Proofs.Try.f17.body with | some c => c | none => .skip
def K : Nat → List Nat
  | 0 => [1]
  | 1 => [1, 11]
  | 2 => [2]
  | 3 => [1, 3]
  | 4 => [1, 3, 16]
  | 5 => [1, 3, 24]
  | 6 => [2]
  | 7 => [1, 3, 42]
  | 8 => [2]
  | 9 => [2]
  | _ => []
noncomputable def CC : Tab := C ref02_Shape.spec ref02_has.spec ref02_Low.spec ref02_High.spec
theorem CS : CC.Sound Go.Proofs.Try.prog := ((((Tab.Sound.none.add ref02_Shape.sound).add ref02_has.sound).add ref02_Low.sound).add ref02_High.sound)
theorem body_eq (s0 : SpecP) (s1 : SpecP) (s2 : SpecP) (s3 : SpecP) (fr : AFr) (H : AHeap) : acode Go.Proofs.Try.prog (C s0 s1 s2 s3) (draws Go.Proofs.Try.prog (C s0 s1 s2 s3)) K code fr H = body s0 s1 s2 s3 fr H := by kernel_rfl
theorem callable : Callable Go.Proofs.Try.prog 17 := fun args w => Go.Proofs.Try.call17 args w
theorem hf : Go.Proofs.Try.prog.funcs[17]? = some Go.Proofs.Try.f17 := Go.Proofs.Try.func17
theorem hb : Go.Proofs.Try.f17.body = some code := by kernel_rfl
theorem hok : codeOk Go.Proofs.Try.f17.ntmps code = true := by kernel_rfl
theorem run_eq (a0 : AV) : pureOf Go.Proofs.Try.prog CC (draws Go.Proofs.Try.prog CC) K Go.Proofs.Try.f17 code [a0] = ref02_Can a0 := by
  unfold pureOf arun
  rw [if_pos (show [a0].length ≤ Go.Proofs.Try.f17.ntmps from (by decide +kernel : 1 ≤ Go.Proofs.Try.f17.ntmps))]
  unfold afin
  rw [show acode Go.Proofs.Try.prog CC (draws Go.Proofs.Try.prog CC) K code (args0 [a0]) AHeap.empty = body ref02_Shape.spec ref02_has.spec ref02_Low.spec ref02_High.spec (args0 [a0]) AHeap.empty from body_eq ref02_Shape.spec ref02_has.spec ref02_Low.spec ref02_High.spec _ _]
  kernel_rfl
theorem sound : Sound Go.Proofs.Try.prog 17 (.pure false spec) := by
  refine (sound_pure CS Mixed (draws _ _) K hf hb hok callable).less fun args r h => ?_
  unfold spec at h
  split at h
  · rw [run_eq]; exact h
  · cases h
end ref02_Can

/-! bauta/bautaref02.Put -/
namespace ref02_Put
noncomputable def code : Code := match Go.Proofs.Try.f15.body with | some c => c | none => .skip
def K : Nat → List Nat
  | 0 => [1]
  | 1 => [1, 15]
  | 2 => [2, 3]
  | 3 => [1, 4, 5]
  | 4 => [4, 5, 6, 7, 8, 9]
  | 5 => [4, 5, 6, 7, 8, 9, 28]
  | 6 => [4, 5, 6, 7, 8, 9]
  | 7 => [4, 5, 6, 7, 8, 9, 10]
  | 8 => [4, 5, 6, 7, 8, 9, 10, 32]
  | 10 => [4, 5, 6, 7, 8, 9, 10, 11]
  | 11 => [4, 5, 6, 7, 8, 9, 10, 11, 37]
  | 12 => [4, 5, 6, 7, 8, 9, 10, 11, 37, 38]
  | 13 => [4, 5, 6, 7, 8, 9, 10, 11]
  | 14 => [4, 5, 6, 7, 8, 9, 10, 11, 37, 40]
  | 15 => [4, 5, 6, 7, 8, 9, 10, 11, 37, 40]
  | 16 => [4, 5, 6, 7, 8, 9, 10, 11]
  | 17 => [4, 5, 6, 7, 8, 9, 10, 11, 37, 47]
  | 18 => [4, 5, 6, 7, 8, 9, 10, 11]
  | 19 => [4, 5, 6, 7, 8, 9, 10, 11, 37, 53]
  | 20 => [4, 5, 6, 7, 8, 9, 10, 11]
  | 21 => [4, 5, 6, 7, 8, 9, 10, 11, 59]
  | 22 => [4, 5, 6, 7, 8, 9, 10, 11]
  | 23 => [4, 5, 6, 7, 8, 9, 10, 11, 12]
  | 24 => [4, 5, 6, 7, 8, 9, 10, 11, 12, 67]
  | 26 => [4, 5, 6, 7, 8, 9, 10, 11, 12]
  | 25 => [4, 5, 6, 7, 8, 9, 10, 11, 12]
  | 27 => [4, 5, 6, 7, 8, 9, 10]
  | 9 => [4, 5, 6, 7, 8, 9, 10]
  | 28 => [2, 3]
  | _ => []
noncomputable def CC : Tab := C ref02_Can.spec ref02_Shape.spec
theorem CS : CC.Sound Go.Proofs.Try.prog := ((Tab.Sound.none.add ref02_Can.sound).add ref02_Shape.sound)
theorem body_eq (s0 : SpecP) (s1 : SpecP) (fr : AFr) (H : AHeap) : acode Go.Proofs.Try.prog (C s0 s1) (draws Go.Proofs.Try.prog (C s0 s1)) K code fr H = body s0 s1 fr H := by kernel_rfl
theorem callable : Callable Go.Proofs.Try.prog 15 := fun args w => Go.Proofs.Try.call15 args w
theorem hf : Go.Proofs.Try.prog.funcs[15]? = some Go.Proofs.Try.f15 := Go.Proofs.Try.func15
theorem hb : Go.Proofs.Try.f15.body = some code := by kernel_rfl
theorem hok : codeOk Go.Proofs.Try.f15.ntmps code = true := by kernel_rfl
theorem run_eq (a0 : AV) : pureOf Go.Proofs.Try.prog CC (draws Go.Proofs.Try.prog CC) K Go.Proofs.Try.f15 code [a0] = ref02_Put a0 := by
  unfold pureOf arun
  rw [if_pos (show [a0].length ≤ Go.Proofs.Try.f15.ntmps from (by decide +kernel : 1 ≤ Go.Proofs.Try.f15.ntmps))]
  unfold afin
  rw [show acode Go.Proofs.Try.prog CC (draws Go.Proofs.Try.prog CC) K code (args0 [a0]) AHeap.empty = body ref02_Can.spec ref02_Shape.spec (args0 [a0]) AHeap.empty from body_eq ref02_Can.spec ref02_Shape.spec _ _]
  kernel_rfl
theorem sound : Sound Go.Proofs.Try.prog 15 (.pure false spec) := by
  refine (sound_pure CS Mixed (draws _ _) K hf hb hok callable).less fun args r h => ?_
  unfold spec at h
  split at h
  · rw [run_eq]; exact h
  · cases h
end ref02_Put

/-! bauta/thumb.Take -/
namespace thumb_Take
noncomputable def code : Code := match Go.Proofs.Try.f18.body with | some c => c | none => .skip
def K : Nat → List Nat
  | 0 => [0, 2]
  | 1 => [0, 2, 10]
  | 2 => [0, 2, 10, 11]
  | 3 => [0, 2, 4, 10]
  | 4 => [0, 2, 5, 6, 10]
  | 5 => [0, 2, 5, 6, 10, 18, 19]
  | 6 => [0, 2, 5, 6, 10, 18, 19, 20]
  | 7 => [0, 2, 5, 6, 8, 10, 18, 19]
  | 8 => [0, 2, 5, 6, 8, 10, 18, 19, 24]
  | 9 => [0, 2, 5, 6, 8, 9, 10, 18, 19]
  | 10 => [0, 2, 5, 6, 8, 9, 10, 18, 19, 35]
  | 11 => [0, 2, 5, 6, 8, 9, 10, 18, 19]
  | 12 => [0, 2, 5, 6, 8, 9, 10, 18, 19, 55]
  | 13 => [0, 2, 5, 6, 8, 9, 10, 18, 19]
  | 14 => [0, 2, 5, 6, 10, 18, 19]
  | 15 => [0, 2, 5, 6, 10, 18, 19]
  | 16 => [0, 2, 6, 10, 83]
  | 17 => [2, 3]
  | 18 => [0, 2, 10]
  | 19 => [2, 3]
  | _ => []
noncomputable def CC : Tab := C thumb_shapes.spec thumb_field.spec thumb_can.spec thumb_put.spec
theorem CS : CC.Sound Go.Proofs.Try.prog := ((((Tab.Sound.none.add thumb_shapes.sound).add thumb_field.sound).add thumb_can.sound).add thumb_put.sound)
theorem body_eq (s0 : SpecP) (s1 : SpecM) (s2 : SpecP) (s3 : SpecP) (fr : AFr) (H : AHeap) : acode Go.Proofs.Try.prog (C s0 s1 s2 s3) (draws Go.Proofs.Try.prog (C s0 s1 s2 s3)) K code fr H = body s0 s1 s2 s3 fr H := by kernel_rfl
theorem callable : Callable Go.Proofs.Try.prog 18 := fun args w => Go.Proofs.Try.call18 args w
theorem hf : Go.Proofs.Try.prog.funcs[18]? = some Go.Proofs.Try.f18 := Go.Proofs.Try.func18
theorem hb : Go.Proofs.Try.f18.body = some code := by kernel_rfl
theorem hok : codeOk Go.Proofs.Try.f18.ntmps code = true := by kernel_rfl
theorem run_eq (a0 : AV) : pureOf Go.Proofs.Try.prog CC (draws Go.Proofs.Try.prog CC) K Go.Proofs.Try.f18 code [a0] = thumb_Take a0 := by
  unfold pureOf arun
  rw [if_pos (show [a0].length ≤ Go.Proofs.Try.f18.ntmps from (by decide +kernel : 1 ≤ Go.Proofs.Try.f18.ntmps))]
  unfold afin
  rw [show acode Go.Proofs.Try.prog CC (draws Go.Proofs.Try.prog CC) K code (args0 [a0]) AHeap.empty = body thumb_shapes.spec thumb_field.spec thumb_can.spec thumb_put.spec (args0 [a0]) AHeap.empty from body_eq thumb_shapes.spec thumb_field.spec thumb_can.spec thumb_put.spec _ _]
  kernel_rfl
theorem sound : Sound Go.Proofs.Try.prog 18 (.pure false spec) := by
  refine (sound_pure CS Mixed (draws _ _) K hf hb hok callable).less fun args r h => ?_
  unfold spec at h
  split at h
  · rw [run_eq]; exact h
  · cases h
end thumb_Take

/-! bauta/bautalaw02.ThumbPuts -/
namespace law02_ThumbPuts
noncomputable def code : Code := match Go.Proofs.Try.f4.body with | some c => c | none => .skip
def K : Nat → List Nat
  | 0 => [1]
  | 1 => [1, 3, 4]
  | 2 => [1, 3, 4, 5, 6]
  | 3 => [1, 3, 4, 33]
  | 4 => [2]
  | 5 => [1, 3, 35]
  | 6 => [2]
  | 7 => [1, 7, 8]
  | 8 => [2]
  | _ => []
noncomputable def CC : Tab := C thumb_Put.spec ref02_Put.spec thumb_Can.spec ref02_Can.spec law02_lives.spec thumb_Take.spec
theorem CS : CC.Sound Go.Proofs.Try.prog := ((((((Tab.Sound.none.add thumb_Put.sound).add ref02_Put.sound).add thumb_Can.sound).add ref02_Can.sound).add law02_lives.sound).add thumb_Take.sound)
theorem body_eq (s0 : SpecP) (s1 : SpecP) (s2 : SpecP) (s3 : SpecP) (s4 : SpecP) (s5 : SpecP) (fr : AFr) (H : AHeap) : acode Go.Proofs.Try.prog (C s0 s1 s2 s3 s4 s5) (draws Go.Proofs.Try.prog (C s0 s1 s2 s3 s4 s5)) K code fr H = body s0 s1 s2 s3 s4 s5 fr H := by kernel_rfl
theorem callable : Callable Go.Proofs.Try.prog 4 := fun args w => Go.Proofs.Try.call4 args w
theorem hf : Go.Proofs.Try.prog.funcs[4]? = some Go.Proofs.Try.f4 := Go.Proofs.Try.func4
theorem hb : Go.Proofs.Try.f4.body = some code := by kernel_rfl
theorem hok : codeOk Go.Proofs.Try.f4.ntmps code = true := by kernel_rfl
theorem run_eq (a0 : AV) : pureOf Go.Proofs.Try.prog CC (draws Go.Proofs.Try.prog CC) K Go.Proofs.Try.f4 code [a0] = law02_ThumbPuts a0 := by
  unfold pureOf arun
  rw [if_pos (show [a0].length ≤ Go.Proofs.Try.f4.ntmps from (by decide +kernel : 1 ≤ Go.Proofs.Try.f4.ntmps))]
  unfold afin
  rw [show acode Go.Proofs.Try.prog CC (draws Go.Proofs.Try.prog CC) K code (args0 [a0]) AHeap.empty = body thumb_Put.spec ref02_Put.spec thumb_Can.spec ref02_Can.spec law02_lives.spec thumb_Take.spec (args0 [a0]) AHeap.empty from body_eq thumb_Put.spec ref02_Put.spec thumb_Can.spec ref02_Can.spec law02_lives.spec thumb_Take.spec _ _]
  kernel_rfl
theorem sound : Sound Go.Proofs.Try.prog 4 (.pure false spec) := by
  refine (sound_pure CS Mixed (draws _ _) K hf hb hok callable).less fun args r h => ?_
  unfold spec at h
  split at h
  · rw [run_eq]; exact h
  · cases h
end law02_ThumbPuts

/-! bauta/bautaref02.Take -/
namespace ref02_Take
noncomputable def code : Code := match Go.Proofs.Try.f19.body with | some c => c | none => .skip
def K : Nat → List Nat
  | 0 => [0, 2]
  | 1 => [0, 2, 4]
  | 2 => [0, 2, 4, 13]
  | 4 => [0, 2, 4, 5, 6, 7, 8]
  | 5 => [0, 2, 4, 5, 6, 7, 8, 9]
  | 6 => [0, 2, 4, 5, 6, 7, 8, 9, 10]
  | 7 => [0, 2, 4, 5, 6, 7, 8, 9, 10, 23]
  | 9 => [0, 2, 4, 5, 6, 7, 8, 9, 10, 11]
  | 10 => [0, 2, 4, 5, 6, 7, 8, 9, 10, 11, 27]
  | 11 => [0, 2, 4, 5, 6, 7, 8, 9, 10, 11]
  | 12 => [0, 2, 4, 5, 6, 7, 8, 9, 10, 11]
  | 13 => [0, 2, 4, 5, 6, 7, 8, 9, 10, 11, 34]
  | 14 => [0, 2, 4, 5, 6, 7, 8, 9, 10, 11, 34, 35]
  | 15 => [0, 2, 4, 5, 6, 7, 8, 9, 10, 11, 34, 35]
  | 16 => [0, 2, 4, 5, 6, 7, 8, 9, 10]
  | 17 => [0, 2, 4, 5, 6, 7, 8, 9, 10, 11, 34, 48]
  | 18 => [0, 2, 4, 5, 6, 7, 8, 9, 10, 11, 34, 48]
  | 19 => [0, 2, 4, 5, 6, 7, 8, 9, 10]
  | 20 => [0, 2, 4, 5, 6, 7, 8, 9, 10, 11, 34, 57]
  | 21 => [0, 2, 4, 5, 6, 7, 8, 9, 10]
  | 22 => [0, 2, 4, 5, 6, 7, 8, 9, 10, 11, 34, 65]
  | 23 => [0, 2, 4, 5, 6, 7, 8, 9, 10]
  | 24 => [0, 2, 4, 5, 6, 7, 8, 9, 10, 11, 73]
  | 25 => [0, 2, 4, 5, 6, 7, 8, 9, 10]
  | 8 => [0, 2, 4, 5, 6, 7, 8, 9, 10]
  | 26 => [0, 2, 4, 6, 7, 8, 92]
  | 27 => [0, 2, 4, 6, 7]
  | 28 => [0, 2, 4, 6, 7, 105]
  | 29 => [0, 2, 4, 6, 7]
  | 30 => [0, 2, 4, 6, 111]
  | 31 => [2, 3]
  | 3 => [0, 2, 4]
  | 32 => [2, 3]
  | _ => []
noncomputable def CC : Tab := C ref02_Shape.spec ref02_Low.spec ref02_High.spec ref02_Can.spec
theorem CS : CC.Sound Go.Proofs.Try.prog := ((((Tab.Sound.none.add ref02_Shape.sound).add ref02_Low.sound).add ref02_High.sound).add ref02_Can.sound)
theorem body_eq (s0 : SpecP) (s1 : SpecP) (s2 : SpecP) (s3 : SpecP) (fr : AFr) (H : AHeap) : acode Go.Proofs.Try.prog (C s0 s1 s2 s3) (draws Go.Proofs.Try.prog (C s0 s1 s2 s3)) K code fr H = body s0 s1 s2 s3 fr H := by kernel_rfl
theorem callable : Callable Go.Proofs.Try.prog 19 := fun args w => Go.Proofs.Try.call19 args w
theorem hf : Go.Proofs.Try.prog.funcs[19]? = some Go.Proofs.Try.f19 := Go.Proofs.Try.func19
theorem hb : Go.Proofs.Try.f19.body = some code := by kernel_rfl
theorem hok : codeOk Go.Proofs.Try.f19.ntmps code = true := by kernel_rfl
theorem run_eq (a0 : AV) : pureOf Go.Proofs.Try.prog CC (draws Go.Proofs.Try.prog CC) K Go.Proofs.Try.f19 code [a0] = ref02_Take a0 := by
  unfold pureOf arun
  rw [if_pos (show [a0].length ≤ Go.Proofs.Try.f19.ntmps from (by decide +kernel : 1 ≤ Go.Proofs.Try.f19.ntmps))]
  unfold afin
  rw [show acode Go.Proofs.Try.prog CC (draws Go.Proofs.Try.prog CC) K code (args0 [a0]) AHeap.empty = body ref02_Shape.spec ref02_Low.spec ref02_High.spec ref02_Can.spec (args0 [a0]) AHeap.empty from body_eq ref02_Shape.spec ref02_Low.spec ref02_High.spec ref02_Can.spec _ _]
  kernel_rfl
theorem sound : Sound Go.Proofs.Try.prog 19 (.pure false spec) := by
  refine (sound_pure CS Mixed (draws _ _) K hf hb hok callable).less fun args r h => ?_
  unfold spec at h
  split at h
  · rw [run_eq]; exact h
  · cases h
end ref02_Take

/-! bauta/bautalaw02.ThumbTakes -/
namespace law02_ThumbTakes
noncomputable def code : Code := match Go.Proofs.Try.f5.body with | some c => c | none => .skip
def K : Nat → List Nat
  | 0 => [0]
  | 1 => [0, 3, 4]
  | 2 => [0, 3, 4, 5, 6]
  | 3 => [0, 3, 4, 26]
  | 4 => [2]
  | 5 => [0, 3, 4, 28]
  | 6 => [2]
  | 7 => [0, 7, 8]
  | 8 => [2]
  | _ => []
noncomputable def CC : Tab := C thumb_Take.spec ref02_Take.spec law02_lives.spec thumb_Put.spec
theorem CS : CC.Sound Go.Proofs.Try.prog := ((((Tab.Sound.none.add thumb_Take.sound).add ref02_Take.sound).add law02_lives.sound).add thumb_Put.sound)
theorem body_eq (s0 : SpecP) (s1 : SpecP) (s2 : SpecP) (s3 : SpecP) (fr : AFr) (H : AHeap) : acode Go.Proofs.Try.prog (C s0 s1 s2 s3) (draws Go.Proofs.Try.prog (C s0 s1 s2 s3)) K code fr H = body s0 s1 s2 s3 fr H := by kernel_rfl
theorem callable : Callable Go.Proofs.Try.prog 5 := fun args w => Go.Proofs.Try.call5 args w
theorem hf : Go.Proofs.Try.prog.funcs[5]? = some Go.Proofs.Try.f5 := Go.Proofs.Try.func5
theorem hb : Go.Proofs.Try.f5.body = some code := by kernel_rfl
theorem hok : codeOk Go.Proofs.Try.f5.ntmps code = true := by kernel_rfl
theorem run_eq (a0 : AV) : pureOf Go.Proofs.Try.prog CC (draws Go.Proofs.Try.prog CC) K Go.Proofs.Try.f5 code [a0] = law02_ThumbTakes a0 := by
  unfold pureOf arun
  rw [if_pos (show [a0].length ≤ Go.Proofs.Try.f5.ntmps from (by decide +kernel : 1 ≤ Go.Proofs.Try.f5.ntmps))]
  unfold afin
  rw [show acode Go.Proofs.Try.prog CC (draws Go.Proofs.Try.prog CC) K code (args0 [a0]) AHeap.empty = body thumb_Take.spec ref02_Take.spec law02_lives.spec thumb_Put.spec (args0 [a0]) AHeap.empty from body_eq thumb_Take.spec ref02_Take.spec law02_lives.spec thumb_Put.spec _ _]
  kernel_rfl
theorem sound : Sound Go.Proofs.Try.prog 5 (.pure false spec) := by
  refine (sound_pure CS Mixed (draws _ _) K hf hb hok callable).less fun args r h => ?_
  unfold spec at h
  split at h
  · rw [run_eq]; exact h
  · cases h
end law02_ThumbTakes

/-! bauta/thumb.Writes -/
namespace thumb_Writes
noncomputable def code : Code := match Go.Proofs.Try.f37.body with | some c => c | none => .skip
def K : Nat → List Nat
  | 0 => [1]
  | 1 => [1, 6]
  | 2 => [2, 3]
  | 3 => [1, 8]
  | 4 => [1, 8, 9]
  | 5 => [1, 8, 9]
  | 6 => [1, 8, 9]
  | 7 => [1, 8, 9]
  | 8 => [1, 8, 9]
  | 9 => [1, 8, 9]
  | 10 => [1, 8, 9]
  | 11 => [2, 3]
  | 12 => [1, 17]
  | 13 => [1, 31]
  | 14 => [2, 3]
  | 15 => [2, 3]
  | _ => []
noncomputable def CC : Tab := C thumb_can.spec
theorem CS : CC.Sound Go.Proofs.Try.prog := (Tab.Sound.none.add thumb_can.sound)
theorem body_eq (s0 : SpecP) (fr : AFr) (H : AHeap) : acode Go.Proofs.Try.prog (C s0) (draws Go.Proofs.Try.prog (C s0)) K code fr H = body s0 fr H := by kernel_rfl
theorem callable : Callable Go.Proofs.Try.prog 37 := fun args w => Go.Proofs.Try.call37 args w
theorem hf : Go.Proofs.Try.prog.funcs[37]? = some Go.Proofs.Try.f37 := Go.Proofs.Try.func37
theorem hb : Go.Proofs.Try.f37.body = some code := by kernel_rfl
theorem hok : codeOk Go.Proofs.Try.f37.ntmps code = true := by kernel_rfl
theorem run_eq (a0 : AV) : pureOf Go.Proofs.Try.prog CC (draws Go.Proofs.Try.prog CC) K Go.Proofs.Try.f37 code [a0] = thumb_Writes a0 := by
  unfold pureOf arun
  rw [if_pos (show [a0].length ≤ Go.Proofs.Try.f37.ntmps from (by decide +kernel : 1 ≤ Go.Proofs.Try.f37.ntmps))]
  unfold afin
  rw [show acode Go.Proofs.Try.prog CC (draws Go.Proofs.Try.prog CC) K code (args0 [a0]) AHeap.empty = body thumb_can.spec (args0 [a0]) AHeap.empty from body_eq thumb_can.spec _ _]
  kernel_rfl
theorem sound : Sound Go.Proofs.Try.prog 37 (.pure false spec) := by
  refine (sound_pure CS Mixed (draws _ _) K hf hb hok callable).less fun args r h => ?_
  unfold spec at h
  split at h
  · rw [run_eq]; exact h
  · cases h
end thumb_Writes

/-! bauta/bautaref02.Writes -/
namespace ref02_Writes
noncomputable def code : Code := match Go.Proofs.Try.f29.body with | some c => c | none => .skip
def K : Nat → List Nat
  | 0 => [1]
  | 1 => [1, 4]
  | 2 => [1, 44]
  | 3 => [2, 3]
  | 4 => [2, 3]
  | _ => []
noncomputable def CC : Tab := C ref02_Can.spec
theorem CS : CC.Sound Go.Proofs.Try.prog := (Tab.Sound.none.add ref02_Can.sound)
theorem body_eq (s0 : SpecP) (fr : AFr) (H : AHeap) : acode Go.Proofs.Try.prog (C s0) (draws Go.Proofs.Try.prog (C s0)) K code fr H = body s0 fr H := by kernel_rfl
theorem callable : Callable Go.Proofs.Try.prog 29 := fun args w => Go.Proofs.Try.call29 args w
theorem hf : Go.Proofs.Try.prog.funcs[29]? = some Go.Proofs.Try.f29 := Go.Proofs.Try.func29
theorem hb : Go.Proofs.Try.f29.body = some code := by kernel_rfl
theorem hok : codeOk Go.Proofs.Try.f29.ntmps code = true := by kernel_rfl
theorem run_eq (a0 : AV) : pureOf Go.Proofs.Try.prog CC (draws Go.Proofs.Try.prog CC) K Go.Proofs.Try.f29 code [a0] = ref02_Writes a0 := by
  unfold pureOf arun
  rw [if_pos (show [a0].length ≤ Go.Proofs.Try.f29.ntmps from (by decide +kernel : 1 ≤ Go.Proofs.Try.f29.ntmps))]
  unfold afin
  rw [show acode Go.Proofs.Try.prog CC (draws Go.Proofs.Try.prog CC) K code (args0 [a0]) AHeap.empty = body ref02_Can.spec (args0 [a0]) AHeap.empty from body_eq ref02_Can.spec _ _]
  kernel_rfl
theorem sound : Sound Go.Proofs.Try.prog 29 (.pure false spec) := by
  refine (sound_pure CS Mixed (draws _ _) K hf hb hok callable).less fun args r h => ?_
  unfold spec at h
  split at h
  · rw [run_eq]; exact h
  · cases h
end ref02_Writes

/-! math/bits.Len32 -/
namespace math_bits_Len32
noncomputable def code : Code := match Go.Proofs.Try.f90.body with | some c => c | none => .skip
def K : Nat → List Nat
  | 0 => [0, 2]
  | 1 => [0, 2, 4]
  | 2 => [0]
  | 3 => [0, 2]
  | 4 => [0, 2, 8]
  | 5 => [0, 2]
  | 6 => [0, 2]
  | 7 => [2]
  | _ => []
noncomputable def CC : Tab := C
theorem CS : CC.Sound Go.Proofs.Try.prog := Tab.Sound.none
theorem body_eq (fr : AFr) (H : AHeap) : acode Go.Proofs.Try.prog C (draws Go.Proofs.Try.prog C) K code fr H = body fr H := by kernel_rfl
theorem callable : Callable Go.Proofs.Try.prog 90 := fun args w => Go.Proofs.Try.call90 args w
theorem hf : Go.Proofs.Try.prog.funcs[90]? = some Go.Proofs.Try.f90 := Go.Proofs.Try.func90
theorem hb : Go.Proofs.Try.f90.body = some code := by kernel_rfl
theorem hok : codeOk Go.Proofs.Try.f90.ntmps code = true := by kernel_rfl
theorem run_eq (a0 : AV) : pureOf Go.Proofs.Try.prog CC (draws Go.Proofs.Try.prog CC) K Go.Proofs.Try.f90 code [a0] = math_bits_Len32 a0 := by
  unfold pureOf arun
  rw [if_pos (show [a0].length ≤ Go.Proofs.Try.f90.ntmps from (by decide +kernel : 1 ≤ Go.Proofs.Try.f90.ntmps))]
  unfold afin
  rw [show acode Go.Proofs.Try.prog CC (draws Go.Proofs.Try.prog CC) K code (args0 [a0]) AHeap.empty = body (args0 [a0]) AHeap.empty from body_eq _ _]
  kernel_rfl
theorem sound : Sound Go.Proofs.Try.prog 90 (.pure false spec) := by
  refine (sound_pure CS Mixed (draws _ _) K hf hb hok callable).less fun args r h => ?_
  unfold spec at h
  split at h
  · rw [run_eq]; exact h
  · cases h
end math_bits_Len32

/-! math/bits.Len64 -/
namespace math_bits_Len64
noncomputable def code : Code := match Go.Proofs.Try.f91.body with | some c => c | none => .skip
def K : Nat → List Nat
  | 0 => [0, 2]
  | 1 => [0, 2, 4]
  | 2 => [0]
  | 3 => [0, 2]
  | 4 => [0, 2, 8]
  | 5 => [0, 2]
  | 6 => [0, 2]
  | 7 => [0, 2, 14]
  | 8 => [0, 2]
  | 9 => [0, 2]
  | 10 => [2]
  | _ => []
noncomputable def CC : Tab := C
theorem CS : CC.Sound Go.Proofs.Try.prog := Tab.Sound.none
theorem body_eq (fr : AFr) (H : AHeap) : acode Go.Proofs.Try.prog C (draws Go.Proofs.Try.prog C) K code fr H = body fr H := by kernel_rfl
theorem callable : Callable Go.Proofs.Try.prog 91 := fun args w => Go.Proofs.Try.call91 args w
theorem hf : Go.Proofs.Try.prog.funcs[91]? = some Go.Proofs.Try.f91 := Go.Proofs.Try.func91
theorem hb : Go.Proofs.Try.f91.body = some code := by kernel_rfl
theorem hok : codeOk Go.Proofs.Try.f91.ntmps code = true := by kernel_rfl
theorem run_eq (a0 : AV) : pureOf Go.Proofs.Try.prog CC (draws Go.Proofs.Try.prog CC) K Go.Proofs.Try.f91 code [a0] = math_bits_Len64 a0 := by
  unfold pureOf arun
  rw [if_pos (show [a0].length ≤ Go.Proofs.Try.f91.ntmps from (by decide +kernel : 1 ≤ Go.Proofs.Try.f91.ntmps))]
  unfold afin
  rw [show acode Go.Proofs.Try.prog CC (draws Go.Proofs.Try.prog CC) K code (args0 [a0]) AHeap.empty = body (args0 [a0]) AHeap.empty from body_eq _ _]
  kernel_rfl
theorem sound : Sound Go.Proofs.Try.prog 91 (.pure false spec) := by
  refine (sound_pure CS Mixed (draws _ _) K hf hb hok callable).less fun args r h => ?_
  unfold spec at h
  split at h
  · rw [run_eq]; exact h
  · cases h
end math_bits_Len64

/-! math/bits.Len -/
namespace math_bits_Len
noncomputable def code : Code := match Go.Proofs.Try.f76.body with | some c => c | none => .skip
def K : Nat → List Nat
  | 0 => [0]
  | 1 => [2]
  | 2 => [2]
  | _ => []
noncomputable def CC : Tab := C math_bits_Len32.spec math_bits_Len64.spec
theorem CS : CC.Sound Go.Proofs.Try.prog := ((Tab.Sound.none.add math_bits_Len32.sound).add math_bits_Len64.sound)
theorem body_eq (s0 : SpecP) (s1 : SpecP) (fr : AFr) (H : AHeap) : acode Go.Proofs.Try.prog (C s0 s1) (draws Go.Proofs.Try.prog (C s0 s1)) K code fr H = body s0 s1 fr H := by kernel_rfl
theorem callable : Callable Go.Proofs.Try.prog 76 := fun args w => Go.Proofs.Try.call76 args w
theorem hf : Go.Proofs.Try.prog.funcs[76]? = some Go.Proofs.Try.f76 := Go.Proofs.Try.func76
theorem hb : Go.Proofs.Try.f76.body = some code := by kernel_rfl
theorem hok : codeOk Go.Proofs.Try.f76.ntmps code = true := by kernel_rfl
theorem run_eq (a0 : AV) : pureOf Go.Proofs.Try.prog CC (draws Go.Proofs.Try.prog CC) K Go.Proofs.Try.f76 code [a0] = math_bits_Len a0 := by
  unfold pureOf arun
  rw [if_pos (show [a0].length ≤ Go.Proofs.Try.f76.ntmps from (by decide +kernel : 1 ≤ Go.Proofs.Try.f76.ntmps))]
  unfold afin
  rw [show acode Go.Proofs.Try.prog CC (draws Go.Proofs.Try.prog CC) K code (args0 [a0]) AHeap.empty = body math_bits_Len32.spec math_bits_Len64.spec (args0 [a0]) AHeap.empty from body_eq math_bits_Len32.spec math_bits_Len64.spec _ _]
  kernel_rfl
theorem sound : Sound Go.Proofs.Try.prog 76 (.pure false spec) := by
  refine (sound_pure CS Mixed (draws _ _) K hf hb hok callable).less fun args r h => ?_
  unfold spec at h
  split at h
  · rw [run_eq]; exact h
  · cases h
end math_bits_Len

/-! cmp.isNaN[int] -/
namespace cmp_isNaN_int
noncomputable def code : Code := match Go.Proofs.Try.f99.body with | some c => c | none => .skip
def K : Nat → List Nat
  | 0 => [0]
  | 1 => [2]
  | _ => []
noncomputable def CC : Tab := C
theorem CS : CC.Sound Go.Proofs.Try.prog := Tab.Sound.none
theorem body_eq (fr : AFr) (H : AHeap) : acode Go.Proofs.Try.prog C (draws Go.Proofs.Try.prog C) K code fr H = body fr H := by kernel_rfl
theorem callable : Callable Go.Proofs.Try.prog 99 := fun args w => Go.Proofs.Try.call99 args w
theorem hf : Go.Proofs.Try.prog.funcs[99]? = some Go.Proofs.Try.f99 := Go.Proofs.Try.func99
theorem hb : Go.Proofs.Try.f99.body = some code := by kernel_rfl
theorem hok : codeOk Go.Proofs.Try.f99.ntmps code = true := by kernel_rfl
theorem run_eq (a0 : AV) : pureOf Go.Proofs.Try.prog CC (draws Go.Proofs.Try.prog CC) K Go.Proofs.Try.f99 code [a0] = cmp_isNaN_int a0 := by
  unfold pureOf arun
  rw [if_pos (show [a0].length ≤ Go.Proofs.Try.f99.ntmps from (by decide +kernel : 1 ≤ Go.Proofs.Try.f99.ntmps))]
  unfold afin
  rw [show acode Go.Proofs.Try.prog CC (draws Go.Proofs.Try.prog CC) K code (args0 [a0]) AHeap.empty = body (args0 [a0]) AHeap.empty from body_eq _ _]
  kernel_rfl
theorem sound : Sound Go.Proofs.Try.prog 99 (.pure false spec) := by
  refine (sound_pure CS Mixed (draws _ _) K hf hb hok callable).less fun args r h => ?_
  unfold spec at h
  split at h
  · rw [run_eq]; exact h
  · cases h
end cmp_isNaN_int

/-! cmp.Less[int] -/
namespace cmp_Less_int
noncomputable def code : Code := match Go.Proofs.Try.f87.body with | some c => c | none => .skip
def K : Nat → List Nat
  | 0 => [0, 1]
  | 1 => [4]
  | _ => []
noncomputable def CC : Tab := C cmp_isNaN_int.spec
theorem CS : CC.Sound Go.Proofs.Try.prog := (Tab.Sound.none.add cmp_isNaN_int.sound)
theorem body_eq (s0 : SpecP) (fr : AFr) (H : AHeap) : acode Go.Proofs.Try.prog (C s0) (draws Go.Proofs.Try.prog (C s0)) K code fr H = body s0 fr H := by kernel_rfl
theorem callable : Callable Go.Proofs.Try.prog 87 := fun args w => Go.Proofs.Try.call87 args w
theorem hf : Go.Proofs.Try.prog.funcs[87]? = some Go.Proofs.Try.f87 := Go.Proofs.Try.func87
theorem hb : Go.Proofs.Try.f87.body = some code := by kernel_rfl
theorem hok : codeOk Go.Proofs.Try.f87.ntmps code = true := by kernel_rfl
theorem run_eq (a0 a1 : AV) : pureOf Go.Proofs.Try.prog CC (draws Go.Proofs.Try.prog CC) K Go.Proofs.Try.f87 code [a0, a1] = cmp_Less_int a0 a1 := by
  unfold pureOf arun
  rw [if_pos (show [a0, a1].length ≤ Go.Proofs.Try.f87.ntmps from (by decide +kernel : 2 ≤ Go.Proofs.Try.f87.ntmps))]
  unfold afin
  rw [show acode Go.Proofs.Try.prog CC (draws Go.Proofs.Try.prog CC) K code (args0 [a0, a1]) AHeap.empty = body cmp_isNaN_int.spec (args0 [a0, a1]) AHeap.empty from body_eq cmp_isNaN_int.spec _ _]
  kernel_rfl
theorem sound : Sound Go.Proofs.Try.prog 87 (.pure false spec) := by
  refine (sound_pure CS Mixed (draws _ _) K hf hb hok callable).less fun args r h => ?_
  unfold spec at h
  split at h
  · rw [run_eq]; exact h
  · cases h
end cmp_Less_int

/-! slices.insertionSortOrdered[int] -/
namespace slices_insertionSortOrdered_int
noncomputable def code : Code := match Go.Proofs.Try.f81.body with | some c => c | none => .skip
def K : Nat → List Nat
  | 0 => [0, 1, 2, 6]
  | 1 => [0, 1, 2, 6, 12]
  | 3 => [0, 1, 2, 6, 7]
  | 4 => [0, 1, 2, 6, 7, 30]
  | 6 => [0, 1, 2, 6, 7]
  | 5 => [0, 1, 2, 6, 7]
  | 2 => [0, 1, 2, 6]
  | _ => []
noncomputable def CC : Tab := C cmp_Less_int.spec
theorem CS : CC.Sound Go.Proofs.Try.prog := (Tab.Sound.none.add cmp_Less_int.sound)
theorem body_eq (s0 : SpecP) (fr : AFr) (H : AHeap) : acode Go.Proofs.Try.prog (C s0) (draws Go.Proofs.Try.prog (C s0)) K code fr H = body s0 fr H := by kernel_rfl
theorem callable : Callable Go.Proofs.Try.prog 81 := fun args w => Go.Proofs.Try.call81 args w
theorem hf : Go.Proofs.Try.prog.funcs[81]? = some Go.Proofs.Try.f81 := Go.Proofs.Try.func81
theorem hb : Go.Proofs.Try.f81.body = some code := by kernel_rfl
theorem hok : codeOk Go.Proofs.Try.f81.ntmps code = true := by kernel_rfl
theorem run_eq (a0 a1 a2 : AV) : pureOf Go.Proofs.Try.prog CC (draws Go.Proofs.Try.prog CC) K Go.Proofs.Try.f81 code [a0, a1, a2] = slices_insertionSortOrdered_int a0 a1 a2 := by
  unfold pureOf arun
  rw [if_pos (show [a0, a1, a2].length ≤ Go.Proofs.Try.f81.ntmps from (by decide +kernel : 3 ≤ Go.Proofs.Try.f81.ntmps))]
  unfold afin
  rw [show acode Go.Proofs.Try.prog CC (draws Go.Proofs.Try.prog CC) K code (args0 [a0, a1, a2]) AHeap.empty = body cmp_Less_int.spec (args0 [a0, a1, a2]) AHeap.empty from body_eq cmp_Less_int.spec _ _]
  kernel_rfl
theorem sound : Sound Go.Proofs.Try.prog 81 (.pure false spec) := by
  refine (sound_pure CS Mixed (draws _ _) K hf hb hok callable).less fun args r h => ?_
  unfold spec at h
  split at h
  · rw [run_eq]; exact h
  · cases h
end slices_insertionSortOrdered_int

/-! slices.siftDownOrdered[int] -/
namespace slices_siftDownOrdered_int
noncomputable def code : Code := match Go.Proofs.Try.f94.body with | some c => c | none => .skip
def K : Nat → List Nat
  | 0 => [0, 2, 3, 8]
  | 1 => [0, 2, 3, 8, 9]
  | 2 => [0, 2, 3, 8, 9, 16]
  | 3 => [0, 2, 3, 8, 9, 36]
  | 4 => [0, 2, 3, 8, 9]
  | 5 => [0, 2, 3, 8, 9, 52]
  | 6 => [0, 2, 3, 9]
  | 7 => [0, 2, 3, 8]
  | _ => []
noncomputable def CC : Tab := C cmp_Less_int.spec
theorem CS : CC.Sound Go.Proofs.Try.prog := (Tab.Sound.none.add cmp_Less_int.sound)
theorem body_eq (s0 : SpecP) (fr : AFr) (H : AHeap) : acode Go.Proofs.Try.prog (C s0) (draws Go.Proofs.Try.prog (C s0)) K code fr H = body s0 fr H := by kernel_rfl
theorem callable : Callable Go.Proofs.Try.prog 94 := fun args w => Go.Proofs.Try.call94 args w
theorem hf : Go.Proofs.Try.prog.funcs[94]? = some Go.Proofs.Try.f94 := Go.Proofs.Try.func94
theorem hb : Go.Proofs.Try.f94.body = some code := by kernel_rfl
theorem hok : codeOk Go.Proofs.Try.f94.ntmps code = true := by kernel_rfl
theorem run_eq (a0 a1 a2 a3 : AV) : pureOf Go.Proofs.Try.prog CC (draws Go.Proofs.Try.prog CC) K Go.Proofs.Try.f94 code [a0, a1, a2, a3] = slices_siftDownOrdered_int a0 a1 a2 a3 := by
  unfold pureOf arun
  rw [if_pos (show [a0, a1, a2, a3].length ≤ Go.Proofs.Try.f94.ntmps from (by decide +kernel : 4 ≤ Go.Proofs.Try.f94.ntmps))]
  unfold afin
  rw [show acode Go.Proofs.Try.prog CC (draws Go.Proofs.Try.prog CC) K code (args0 [a0, a1, a2, a3]) AHeap.empty = body cmp_Less_int.spec (args0 [a0, a1, a2, a3]) AHeap.empty from body_eq cmp_Less_int.spec _ _]
  kernel_rfl
theorem sound : Sound Go.Proofs.Try.prog 94 (.pure false spec) := by
  refine (sound_pure CS Mixed (draws _ _) K hf hb hok callable).less fun args r h => ?_
  unfold spec at h
  split at h
  · rw [run_eq]; exact h
  · cases h
end slices_siftDownOrdered_int

/-! slices.heapSortOrdered[int] -/
namespace slices_heapSortOrdered_int
noncomputable def code : Code := match Go.Proofs.Try.f82.body with | some c => c | none => .skip
def K : Nat → List Nat
  | 0 => [0, 1, 2, 6]
  | 1 => [0, 1, 2, 6, 7]
  | 2 => [0, 6, 7, 8]
  | 3 => [0, 6, 7, 8, 9]
  | 4 => [0, 6, 7, 8, 9, 19]
  | 6 => [0, 6, 7, 8, 9]
  | 5 => [0, 6, 7, 8, 9]
  | 7 => [0, 6, 7, 10]
  | 8 => [0, 6, 7, 10, 30]
  | 10 => [0, 6, 7, 10]
  | 11 => [0, 6, 7, 10]
  | 9 => [0, 6, 7, 10]
  | _ => []
noncomputable def CC : Tab := C slices_siftDownOrdered_int.spec
theorem CS : CC.Sound Go.Proofs.Try.prog := (Tab.Sound.none.add slices_siftDownOrdered_int.sound)
theorem body_eq (s0 : SpecP) (fr : AFr) (H : AHeap) : acode Go.Proofs.Try.prog (C s0) (draws Go.Proofs.Try.prog (C s0)) K code fr H = body s0 fr H := by kernel_rfl
theorem callable : Callable Go.Proofs.Try.prog 82 := fun args w => Go.Proofs.Try.call82 args w
theorem hf : Go.Proofs.Try.prog.funcs[82]? = some Go.Proofs.Try.f82 := Go.Proofs.Try.func82
theorem hb : Go.Proofs.Try.f82.body = some code := by kernel_rfl
theorem hok : codeOk Go.Proofs.Try.f82.ntmps code = true := by kernel_rfl
theorem run_eq (a0 a1 a2 : AV) : pureOf Go.Proofs.Try.prog CC (draws Go.Proofs.Try.prog CC) K Go.Proofs.Try.f82 code [a0, a1, a2] = slices_heapSortOrdered_int a0 a1 a2 := by
  unfold pureOf arun
  rw [if_pos (show [a0, a1, a2].length ≤ Go.Proofs.Try.f82.ntmps from (by decide +kernel : 3 ≤ Go.Proofs.Try.f82.ntmps))]
  unfold afin
  rw [show acode Go.Proofs.Try.prog CC (draws Go.Proofs.Try.prog CC) K code (args0 [a0, a1, a2]) AHeap.empty = body slices_siftDownOrdered_int.spec (args0 [a0, a1, a2]) AHeap.empty from body_eq slices_siftDownOrdered_int.spec _ _]
  kernel_rfl
theorem sound : Sound Go.Proofs.Try.prog 82 (.pure false spec) := by
  refine (sound_pure CS Mixed (draws _ _) K hf hb hok callable).less fun args r h => ?_
  unfold spec at h
  split at h
  · rw [run_eq]; exact h
  · cases h
end slices_heapSortOrdered_int

/-! slices.nextPowerOfTwo -/
namespace slices_nextPowerOfTwo
noncomputable def code : Code := match Go.Proofs.Try.f95.body with | some c => c | none => .skip
def K : Nat → List Nat
  | 0 => [0]
  | 1 => [2]
  | _ => []
noncomputable def CC : Tab := C math_bits_Len.spec
theorem CS : CC.Sound Go.Proofs.Try.prog := (Tab.Sound.none.add math_bits_Len.sound)
theorem body_eq (s0 : SpecP) (fr : AFr) (H : AHeap) : acode Go.Proofs.Try.prog (C s0) (draws Go.Proofs.Try.prog (C s0)) K code fr H = body s0 fr H := by kernel_rfl
theorem callable : Callable Go.Proofs.Try.prog 95 := fun args w => Go.Proofs.Try.call95 args w
theorem hf : Go.Proofs.Try.prog.funcs[95]? = some Go.Proofs.Try.f95 := Go.Proofs.Try.func95
theorem hb : Go.Proofs.Try.f95.body = some code := by kernel_rfl
theorem hok : codeOk Go.Proofs.Try.f95.ntmps code = true := by kernel_rfl
theorem run_eq (a0 : AV) : pureOf Go.Proofs.Try.prog CC (draws Go.Proofs.Try.prog CC) K Go.Proofs.Try.f95 code [a0] = slices_nextPowerOfTwo a0 := by
  unfold pureOf arun
  rw [if_pos (show [a0].length ≤ Go.Proofs.Try.f95.ntmps from (by decide +kernel : 1 ≤ Go.Proofs.Try.f95.ntmps))]
  unfold afin
  rw [show acode Go.Proofs.Try.prog CC (draws Go.Proofs.Try.prog CC) K code (args0 [a0]) AHeap.empty = body math_bits_Len.spec (args0 [a0]) AHeap.empty from body_eq math_bits_Len.spec _ _]
  kernel_rfl
theorem sound : Sound Go.Proofs.Try.prog 95 (.pure false spec) := by
  refine (sound_pure CS Mixed (draws _ _) K hf hb hok callable).less fun args r h => ?_
  unfold spec at h
  split at h
  · rw [run_eq]; exact h
  · cases h
end slices_nextPowerOfTwo

/-! (*slices.xorshift).Next -/
namespace slices_xorshift_Next
noncomputable def code : Code := match Go.Proofs.Try.f96.body with | some c => c | none => .skip
def K : Nat → List Nat
  | 0 => [0]
  | 1 => [0]
  | 2 => [0]
  | 3 => [0]
  | 4 => [2]
  | _ => []
noncomputable def CC : Tab := C
theorem CS : CC.Sound Go.Proofs.Try.prog := Tab.Sound.none
theorem body_eq (fr : AFr) (H : AHeap) : acode Go.Proofs.Try.prog C (draws Go.Proofs.Try.prog C) K code fr H = body fr H := by kernel_rfl
theorem callable : Callable Go.Proofs.Try.prog 96 := fun args w => Go.Proofs.Try.call96 args w
theorem hf : Go.Proofs.Try.prog.funcs[96]? = some Go.Proofs.Try.f96 := Go.Proofs.Try.func96
theorem hb : Go.Proofs.Try.f96.body = some code := by kernel_rfl
theorem hok : codeOk Go.Proofs.Try.f96.ntmps code = true := by kernel_rfl
theorem run_eq (a0 : AV) (H : AHeap) : refT Go.Proofs.Try.prog CC (draws Go.Proofs.Try.prog CC) K Go.Proofs.Try.f96 code [a0] H = slices_xorshift_Next a0 H := by
  unfold refT arun
  rw [if_pos (show [a0].length ≤ Go.Proofs.Try.f96.ntmps from (by decide +kernel : 1 ≤ Go.Proofs.Try.f96.ntmps))]
  unfold afin
  rw [show acode Go.Proofs.Try.prog CC (draws Go.Proofs.Try.prog CC) K code (args0 [a0]) H = body (args0 [a0]) H from body_eq _ _]
  kernel_rfl
theorem sound : Sound Go.Proofs.Try.prog 96 (.ref [false] spec) := by
  refine (sound_refT CS Mixed (draws _ _) K hf hb hok callable [false]).lessR fun args H r h => ?_
  unfold spec at h
  split at h
  · rw [run_eq]; exact h
  · cases h
end slices_xorshift_Next

/-! slices.breakPatternsOrdered[int] -/
namespace slices_breakPatternsOrdered_int
noncomputable def code : Code := match Go.Proofs.Try.f83.body with | some c => c | none => .skip
def K : Nat → List Nat
  | 0 => [0, 1, 6]
  | 1 => [0, 1, 6, 15]
  | 2 => [0, 1, 6, 7]
  | 3 => [0, 1, 6, 7, 8]
  | 4 => [0, 1, 6, 7, 8, 9]
  | 5 => [0, 1, 6, 7, 8, 9, 33]
  | 7 => [0, 1, 6, 7, 8, 9, 10]
  | 8 => [0, 1, 6, 7, 8, 9, 10, 43]
  | 9 => [0, 1, 6, 7, 8, 9, 10]
  | 10 => [0, 1, 6, 7, 8, 9]
  | 6 => [0, 1, 6, 7, 8, 9]
  | _ => []
noncomputable def CC : Tab := C slices_nextPowerOfTwo.spec slices_xorshift_Next.spec
theorem CS : CC.Sound Go.Proofs.Try.prog := ((Tab.Sound.none.add slices_nextPowerOfTwo.sound).add slices_xorshift_Next.sound)
theorem body_eq (s0 : SpecP) (s1 : SpecM) (fr : AFr) (H : AHeap) : acode Go.Proofs.Try.prog (C s0 s1) (draws Go.Proofs.Try.prog (C s0 s1)) K code fr H = body s0 s1 fr H := by kernel_rfl
theorem callable : Callable Go.Proofs.Try.prog 83 := fun args w => Go.Proofs.Try.call83 args w
theorem hf : Go.Proofs.Try.prog.funcs[83]? = some Go.Proofs.Try.f83 := Go.Proofs.Try.func83
theorem hb : Go.Proofs.Try.f83.body = some code := by kernel_rfl
theorem hok : codeOk Go.Proofs.Try.f83.ntmps code = true := by kernel_rfl
theorem run_eq (a0 a1 a2 : AV) : pureOf Go.Proofs.Try.prog CC (draws Go.Proofs.Try.prog CC) K Go.Proofs.Try.f83 code [a0, a1, a2] = slices_breakPatternsOrdered_int a0 a1 a2 := by
  unfold pureOf arun
  rw [if_pos (show [a0, a1, a2].length ≤ Go.Proofs.Try.f83.ntmps from (by decide +kernel : 3 ≤ Go.Proofs.Try.f83.ntmps))]
  unfold afin
  rw [show acode Go.Proofs.Try.prog CC (draws Go.Proofs.Try.prog CC) K code (args0 [a0, a1, a2]) AHeap.empty = body slices_nextPowerOfTwo.spec slices_xorshift_Next.spec (args0 [a0, a1, a2]) AHeap.empty from body_eq slices_nextPowerOfTwo.spec slices_xorshift_Next.spec _ _]
  kernel_rfl
theorem sound : Sound Go.Proofs.Try.prog 83 (.pure false spec) := by
  refine (sound_pure CS Mixed (draws _ _) K hf hb hok callable).less fun args r h => ?_
  unfold spec at h
  split at h
  · rw [run_eq]; exact h
  · cases h
end slices_breakPatternsOrdered_int

/-! slices.order2Ordered[int] -/
namespace slices_order2Ordered_int
noncomputable def code : Code := match Go.Proofs.Try.f100.body with | some c => c | none => .skip
def K : Nat → List Nat
  | 0 => [0, 1, 2, 3]
  | 1 => [1, 2, 3, 18]
  | 2 => [1, 2]
  | 3 => [8, 9]
  | 4 => [8, 9]
  | _ => []
noncomputable def CC : Tab := C cmp_Less_int.spec
theorem CS : CC.Sound Go.Proofs.Try.prog := (Tab.Sound.none.add cmp_Less_int.sound)
theorem body_eq (s0 : SpecP) (fr : AFr) (H : AHeap) : acode Go.Proofs.Try.prog (C s0) (draws Go.Proofs.Try.prog (C s0)) K code fr H = body s0 fr H := by kernel_rfl
theorem callable : Callable Go.Proofs.Try.prog 100 := fun args w => Go.Proofs.Try.call100 args w
theorem hf : Go.Proofs.Try.prog.funcs[100]? = some Go.Proofs.Try.f100 := Go.Proofs.Try.func100
theorem hb : Go.Proofs.Try.f100.body = some code := by kernel_rfl
theorem hok : codeOk Go.Proofs.Try.f100.ntmps code = true := by kernel_rfl
theorem run_eq (a0 a1 a2 a3 : AV) (H : AHeap) : refT Go.Proofs.Try.prog CC (draws Go.Proofs.Try.prog CC) K Go.Proofs.Try.f100 code [a0, a1, a2, a3] H = slices_order2Ordered_int a0 a1 a2 a3 H := by
  unfold refT arun
  rw [if_pos (show [a0, a1, a2, a3].length ≤ Go.Proofs.Try.f100.ntmps from (by decide +kernel : 4 ≤ Go.Proofs.Try.f100.ntmps))]
  unfold afin
  rw [show acode Go.Proofs.Try.prog CC (draws Go.Proofs.Try.prog CC) K code (args0 [a0, a1, a2, a3]) H = body cmp_Less_int.spec (args0 [a0, a1, a2, a3]) H from body_eq cmp_Less_int.spec _ _]
  kernel_rfl
theorem sound : Sound Go.Proofs.Try.prog 100 (.ref [true, false, false, false] spec) := by
  refine (sound_refT CS Mixed (draws _ _) K hf hb hok callable [true, false, false, false]).lessR fun args H r h => ?_
  unfold spec at h
  split at h
  · rw [run_eq]; exact h
  · cases h
end slices_order2Ordered_int

/-! slices.medianOrdered[int] -/
namespace slices_medianOrdered_int
noncomputable def code : Code := match Go.Proofs.Try.f98.body with | some c => c | none => .skip
def K : Nat → List Nat
  | 0 => [0, 1, 2, 3, 4]
  | 1 => [0, 1, 2, 3, 4]
  | 2 => [0, 1, 2, 4]
  | 3 => [2]
  | 4 => [10]
  | _ => []
noncomputable def CC : Tab := C slices_order2Ordered_int.spec
theorem CS : CC.Sound Go.Proofs.Try.prog := (Tab.Sound.none.add slices_order2Ordered_int.sound)
theorem body_eq (s0 : SpecM) (fr : AFr) (H : AHeap) : acode Go.Proofs.Try.prog (C s0) (draws Go.Proofs.Try.prog (C s0)) K code fr H = body s0 fr H := by kernel_rfl
theorem callable : Callable Go.Proofs.Try.prog 98 := fun args w => Go.Proofs.Try.call98 args w
theorem hf : Go.Proofs.Try.prog.funcs[98]? = some Go.Proofs.Try.f98 := Go.Proofs.Try.func98
theorem hb : Go.Proofs.Try.f98.body = some code := by kernel_rfl
theorem hok : codeOk Go.Proofs.Try.f98.ntmps code = true := by kernel_rfl
theorem run_eq (a0 a1 a2 a3 a4 : AV) (H : AHeap) : refT Go.Proofs.Try.prog CC (draws Go.Proofs.Try.prog CC) K Go.Proofs.Try.f98 code [a0, a1, a2, a3, a4] H = slices_medianOrdered_int a0 a1 a2 a3 a4 H := by
  unfold refT arun
  rw [if_pos (show [a0, a1, a2, a3, a4].length ≤ Go.Proofs.Try.f98.ntmps from (by decide +kernel : 5 ≤ Go.Proofs.Try.f98.ntmps))]
  unfold afin
  rw [show acode Go.Proofs.Try.prog CC (draws Go.Proofs.Try.prog CC) K code (args0 [a0, a1, a2, a3, a4]) H = body slices_order2Ordered_int.spec (args0 [a0, a1, a2, a3, a4]) H from body_eq slices_order2Ordered_int.spec _ _]
  kernel_rfl
theorem sound : Sound Go.Proofs.Try.prog 98 (.ref [true, false, false, false, false] spec) := by
  refine (sound_refT CS Mixed (draws _ _) K hf hb hok callable [true, false, false, false, false]).lessR fun args H r h => ?_
  unfold spec at h
  split at h
  · rw [run_eq]; exact h
  · cases h
end slices_medianOrdered_int

/-! slices.medianAdjacentOrdered[int] -/
namespace slices_medianAdjacentOrdered_int
noncomputable def code : Code := match Go.Proofs.Try.f97.body with | some c => c | none => .skip
def K : Nat → List Nat
  | 0 => [0, 1, 2]
  | 1 => [6]
  | _ => []
noncomputable def CC : Tab := C slices_medianOrdered_int.spec
theorem CS : CC.Sound Go.Proofs.Try.prog := (Tab.Sound.none.add slices_medianOrdered_int.sound)
theorem body_eq (s0 : SpecM) (fr : AFr) (H : AHeap) : acode Go.Proofs.Try.prog (C s0) (draws Go.Proofs.Try.prog (C s0)) K code fr H = body s0 fr H := by kernel_rfl
theorem callable : Callable Go.Proofs.Try.prog 97 := fun args w => Go.Proofs.Try.call97 args w
theorem hf : Go.Proofs.Try.prog.funcs[97]? = some Go.Proofs.Try.f97 := Go.Proofs.Try.func97
theorem hb : Go.Proofs.Try.f97.body = some code := by kernel_rfl
theorem hok : codeOk Go.Proofs.Try.f97.ntmps code = true := by kernel_rfl
theorem run_eq (a0 a1 a2 : AV) (H : AHeap) : refT Go.Proofs.Try.prog CC (draws Go.Proofs.Try.prog CC) K Go.Proofs.Try.f97 code [a0, a1, a2] H = slices_medianAdjacentOrdered_int a0 a1 a2 H := by
  unfold refT arun
  rw [if_pos (show [a0, a1, a2].length ≤ Go.Proofs.Try.f97.ntmps from (by decide +kernel : 3 ≤ Go.Proofs.Try.f97.ntmps))]
  unfold afin
  rw [show acode Go.Proofs.Try.prog CC (draws Go.Proofs.Try.prog CC) K code (args0 [a0, a1, a2]) H = body slices_medianOrdered_int.spec (args0 [a0, a1, a2]) H from body_eq slices_medianOrdered_int.spec _ _]
  kernel_rfl
theorem sound : Sound Go.Proofs.Try.prog 97 (.ref [true, false, false] spec) := by
  refine (sound_refT CS Mixed (draws _ _) K hf hb hok callable [true, false, false]).lessR fun args H r h => ?_
  unfold spec at h
  split at h
  · rw [run_eq]; exact h
  · cases h
end slices_medianAdjacentOrdered_int

/-! slices.choosePivotOrdered[int] -/
namespace slices_choosePivotOrdered_int
noncomputable def code : Code := match Go.Proofs.Try.f84.body with | some c => c | none => .skip
def K : Nat → List Nat
  | 0 => [0, 1, 2]
  | 1 => [0, 1, 8]
  | 2 => [0, 1, 8, 9]
  | 3 => [0, 1, 8, 9, 10]
  | 4 => [0, 1, 8, 9, 10, 11]
  | 5 => [0, 8, 9, 10, 11, 12]
  | 6 => [0, 8, 9, 10, 11, 12, 32]
  | 7 => [0, 9, 10, 11, 12, 34]
  | 8 => [0, 9, 10, 11, 12]
  | 9 => [0, 9, 10, 11, 12]
  | 10 => [0, 9, 10, 11, 12]
  | 11 => [9, 11]
  | 12 => [11, 49]
  | 14 => [11, 49, 51]
  | 15 => [6, 7]
  | 16 => [11, 54]
  | 17 => [6, 7]
  | 13 => [6, 7]
  | _ => []
noncomputable def CC : Tab := C slices_medianAdjacentOrdered_int.spec slices_medianOrdered_int.spec
theorem CS : CC.Sound Go.Proofs.Try.prog := ((Tab.Sound.none.add slices_medianAdjacentOrdered_int.sound).add slices_medianOrdered_int.sound)
theorem body_eq (s0 : SpecM) (s1 : SpecM) (fr : AFr) (H : AHeap) : acode Go.Proofs.Try.prog (C s0 s1) (draws Go.Proofs.Try.prog (C s0 s1)) K code fr H = body s0 s1 fr H := by kernel_rfl
theorem callable : Callable Go.Proofs.Try.prog 84 := fun args w => Go.Proofs.Try.call84 args w
theorem hf : Go.Proofs.Try.prog.funcs[84]? = some Go.Proofs.Try.f84 := Go.Proofs.Try.func84
theorem hb : Go.Proofs.Try.f84.body = some code := by kernel_rfl
theorem hok : codeOk Go.Proofs.Try.f84.ntmps code = true := by kernel_rfl
theorem run_eq (a0 a1 a2 : AV) : pureOf Go.Proofs.Try.prog CC (draws Go.Proofs.Try.prog CC) K Go.Proofs.Try.f84 code [a0, a1, a2] = slices_choosePivotOrdered_int a0 a1 a2 := by
  unfold pureOf arun
  rw [if_pos (show [a0, a1, a2].length ≤ Go.Proofs.Try.f84.ntmps from (by decide +kernel : 3 ≤ Go.Proofs.Try.f84.ntmps))]
  unfold afin
  rw [show acode Go.Proofs.Try.prog CC (draws Go.Proofs.Try.prog CC) K code (args0 [a0, a1, a2]) AHeap.empty = body slices_medianAdjacentOrdered_int.spec slices_medianOrdered_int.spec (args0 [a0, a1, a2]) AHeap.empty from body_eq slices_medianAdjacentOrdered_int.spec slices_medianOrdered_int.spec _ _]
  kernel_rfl
theorem sound : Sound Go.Proofs.Try.prog 84 (.pure false spec) := by
  refine (sound_pure CS Mixed (draws _ _) K hf hb hok callable).less fun args r h => ?_
  unfold spec at h
  split at h
  · rw [run_eq]; exact h
  · cases h
end slices_choosePivotOrdered_int

/-! slices.reverseRangeOrdered[int] -/
namespace slices_reverseRangeOrdered_int
noncomputable def code : Code := match Go.Proofs.Try.f85.body with | some c => c | none => .skip
def K : Nat → List Nat
  | 0 => [0, 2, 6]
  | 1 => [0, 6, 7]
  | 2 => [0, 6, 7, 13]
  | 3 => [0, 6, 7]
  | 4 => [0, 6, 7]
  | 5 => [0, 6, 7]
  | _ => []
noncomputable def CC : Tab := C
theorem CS : CC.Sound Go.Proofs.Try.prog := Tab.Sound.none
theorem body_eq (fr : AFr) (H : AHeap) : acode Go.Proofs.Try.prog C (draws Go.Proofs.Try.prog C) K code fr H = body fr H := by kernel_rfl
theorem callable : Callable Go.Proofs.Try.prog 85 := fun args w => Go.Proofs.Try.call85 args w
theorem hf : Go.Proofs.Try.prog.funcs[85]? = some Go.Proofs.Try.f85 := Go.Proofs.Try.func85
theorem hb : Go.Proofs.Try.f85.body = some code := by kernel_rfl
theorem hok : codeOk Go.Proofs.Try.f85.ntmps code = true := by kernel_rfl
theorem run_eq (a0 a1 a2 : AV) : pureOf Go.Proofs.Try.prog CC (draws Go.Proofs.Try.prog CC) K Go.Proofs.Try.f85 code [a0, a1, a2] = slices_reverseRangeOrdered_int a0 a1 a2 := by
  unfold pureOf arun
  rw [if_pos (show [a0, a1, a2].length ≤ Go.Proofs.Try.f85.ntmps from (by decide +kernel : 3 ≤ Go.Proofs.Try.f85.ntmps))]
  unfold afin
  rw [show acode Go.Proofs.Try.prog CC (draws Go.Proofs.Try.prog CC) K code (args0 [a0, a1, a2]) AHeap.empty = body (args0 [a0, a1, a2]) AHeap.empty from body_eq _ _]
  kernel_rfl
theorem sound : Sound Go.Proofs.Try.prog 85 (.pure false spec) := by
  refine (sound_pure CS Mixed (draws _ _) K hf hb hok callable).less fun args r h => ?_
  unfold spec at h
  split at h
  · rw [run_eq]; exact h
  · cases h
end slices_reverseRangeOrdered_int

/-! slices.partialInsertionSortOrdered[int] -/
namespace slices_partialInsertionSortOrdered_int
noncomputable def code : Code := match Go.Proofs.Try.f86.body with | some c => c | none => .skip
def K : Nat → List Nat
  | 0 => [0, 1, 2]
  | 1 => [0, 1, 2, 7]
  | 2 => [0, 1, 2, 7, 8]
  | 3 => [0, 1, 2, 7, 8, 14]
  | 5 => [0, 1, 2, 7, 8, 32]
  | 6 => [0, 1, 2, 7, 8]
  | 7 => [0, 1, 2, 7, 8, 37]
  | 8 => [6]
  | 9 => [0, 1, 2, 7, 8, 41]
  | 10 => [6]
  | 11 => [0, 1, 2, 7, 8]
  | 12 => [0, 1, 2, 7, 8, 61]
  | 13 => [0, 1, 2, 7, 8, 9]
  | 14 => [0, 1, 2, 7, 8, 9, 65]
  | 16 => [0, 1, 2, 7, 8, 9, 78]
  | 17 => [0, 1, 2, 7, 8, 9]
  | 15 => [0, 1, 2, 7, 8, 9]
  | 18 => [0, 1, 2, 7, 8, 98]
  | 19 => [0, 1, 2, 7, 8, 10]
  | 20 => [0, 1, 2, 7, 8, 10, 103]
  | 22 => [0, 1, 2, 7, 8, 10, 116]
  | 23 => [0, 1, 2, 7, 8, 10]
  | 21 => [0, 1, 2, 7, 8, 10]
  | 4 => [0, 1, 2, 7, 8]
  | 24 => [6]
  | _ => []
noncomputable def CC : Tab := C cmp_Less_int.spec
theorem CS : CC.Sound Go.Proofs.Try.prog := (Tab.Sound.none.add cmp_Less_int.sound)
theorem body_eq (s0 : SpecP) (fr : AFr) (H : AHeap) : acode Go.Proofs.Try.prog (C s0) (draws Go.Proofs.Try.prog (C s0)) K code fr H = body s0 fr H := by kernel_rfl
theorem callable : Callable Go.Proofs.Try.prog 86 := fun args w => Go.Proofs.Try.call86 args w
theorem hf : Go.Proofs.Try.prog.funcs[86]? = some Go.Proofs.Try.f86 := Go.Proofs.Try.func86
theorem hb : Go.Proofs.Try.f86.body = some code := by kernel_rfl
theorem hok : codeOk Go.Proofs.Try.f86.ntmps code = true := by kernel_rfl
theorem run_eq (a0 a1 a2 : AV) : pureOf Go.Proofs.Try.prog CC (draws Go.Proofs.Try.prog CC) K Go.Proofs.Try.f86 code [a0, a1, a2] = slices_partialInsertionSortOrdered_int a0 a1 a2 := by
  unfold pureOf arun
  rw [if_pos (show [a0, a1, a2].length ≤ Go.Proofs.Try.f86.ntmps from (by decide +kernel : 3 ≤ Go.Proofs.Try.f86.ntmps))]
  unfold afin
  rw [show acode Go.Proofs.Try.prog CC (draws Go.Proofs.Try.prog CC) K code (args0 [a0, a1, a2]) AHeap.empty = body cmp_Less_int.spec (args0 [a0, a1, a2]) AHeap.empty from body_eq cmp_Less_int.spec _ _]
  kernel_rfl
theorem sound : Sound Go.Proofs.Try.prog 86 (.pure false spec) := by
  refine (sound_pure CS Mixed (draws _ _) K hf hb hok callable).less fun args r h => ?_
  unfold spec at h
  split at h
  · rw [run_eq]; exact h
  · cases h
end slices_partialInsertionSortOrdered_int

/-! slices.partitionEqualOrdered[int] -/
namespace slices_partitionEqualOrdered_int
noncomputable def code : Code := match Go.Proofs.Try.f88.body with | some c => c | none => .skip
def K : Nat → List Nat
  | 0 => [0, 1, 2, 3]
  | 1 => [0, 1, 2]
  | 2 => [0, 1, 9, 10]
  | 3 => [0, 1, 9, 10, 43]
  | 4 => [0, 1, 9, 10]
  | 5 => [0, 1, 9, 10, 59]
  | 6 => [0, 1, 9, 10]
  | 7 => [0, 1, 9, 10, 64]
  | 8 => [0, 1, 9, 10]
  | 9 => [0, 1, 9, 10]
  | 10 => [0, 1, 9, 10]
  | 11 => [8]
  | _ => []
noncomputable def CC : Tab := C cmp_Less_int.spec
theorem CS : CC.Sound Go.Proofs.Try.prog := (Tab.Sound.none.add cmp_Less_int.sound)
theorem body_eq (s0 : SpecP) (fr : AFr) (H : AHeap) : acode Go.Proofs.Try.prog (C s0) (draws Go.Proofs.Try.prog (C s0)) K code fr H = body s0 fr H := by kernel_rfl
theorem callable : Callable Go.Proofs.Try.prog 88 := fun args w => Go.Proofs.Try.call88 args w
theorem hf : Go.Proofs.Try.prog.funcs[88]? = some Go.Proofs.Try.f88 := Go.Proofs.Try.func88
theorem hb : Go.Proofs.Try.f88.body = some code := by kernel_rfl
theorem hok : codeOk Go.Proofs.Try.f88.ntmps code = true := by kernel_rfl
theorem run_eq (a0 a1 a2 a3 : AV) : pureOf Go.Proofs.Try.prog CC (draws Go.Proofs.Try.prog CC) K Go.Proofs.Try.f88 code [a0, a1, a2, a3] = slices_partitionEqualOrdered_int a0 a1 a2 a3 := by
  unfold pureOf arun
  rw [if_pos (show [a0, a1, a2, a3].length ≤ Go.Proofs.Try.f88.ntmps from (by decide +kernel : 4 ≤ Go.Proofs.Try.f88.ntmps))]
  unfold afin
  rw [show acode Go.Proofs.Try.prog CC (draws Go.Proofs.Try.prog CC) K code (args0 [a0, a1, a2, a3]) AHeap.empty = body cmp_Less_int.spec (args0 [a0, a1, a2, a3]) AHeap.empty from body_eq cmp_Less_int.spec _ _]
  kernel_rfl
theorem sound : Sound Go.Proofs.Try.prog 88 (.pure false spec) := by
  refine (sound_pure CS Mixed (draws _ _) K hf hb hok callable).less fun args r h => ?_
  unfold spec at h
  split at h
  · rw [run_eq]; exact h
  · cases h
end slices_partitionEqualOrdered_int

/-! slices.partitionOrdered[int] -/
namespace slices_partitionOrdered_int
noncomputable def code : Code := match Go.Proofs.Try.f89.body with | some c => c | none => .skip
def K : Nat → List Nat
  | 0 => [0, 1, 2, 3]
  | 1 => [0, 1, 2]
  | 2 => [0, 1, 10, 11]
  | 3 => [0, 1, 10, 11, 43]
  | 4 => [0, 1, 10, 11]
  | 5 => [0, 1, 10, 11, 60]
  | 6 => [0, 1, 10, 11]
  | 7 => [0, 1, 10, 11, 65]
  | 8 => [11]
  | 9 => [8, 9]
  | 10 => [0, 1, 10, 11]
  | 11 => [0, 1, 10, 11]
  | 12 => [0, 1, 10, 11]
  | 13 => [0, 1, 10, 11, 112]
  | 14 => [0, 1, 10, 11]
  | 15 => [0, 1, 10, 11, 129]
  | 16 => [0, 1, 10, 11]
  | 17 => [0, 1, 10, 11, 134]
  | 18 => [0, 1, 10, 11]
  | 19 => [0, 1, 10, 11]
  | 20 => [0, 1, 10, 11]
  | 21 => [11]
  | 22 => [8, 9]
  | _ => []
noncomputable def CC : Tab := C cmp_Less_int.spec
theorem CS : CC.Sound Go.Proofs.Try.prog := (Tab.Sound.none.add cmp_Less_int.sound)
theorem body_eq (s0 : SpecP) (fr : AFr) (H : AHeap) : acode Go.Proofs.Try.prog (C s0) (draws Go.Proofs.Try.prog (C s0)) K code fr H = body s0 fr H := by kernel_rfl
theorem callable : Callable Go.Proofs.Try.prog 89 := fun args w => Go.Proofs.Try.call89 args w
theorem hf : Go.Proofs.Try.prog.funcs[89]? = some Go.Proofs.Try.f89 := Go.Proofs.Try.func89
theorem hb : Go.Proofs.Try.f89.body = some code := by kernel_rfl
theorem hok : codeOk Go.Proofs.Try.f89.ntmps code = true := by kernel_rfl
theorem run_eq (a0 a1 a2 a3 : AV) : pureOf Go.Proofs.Try.prog CC (draws Go.Proofs.Try.prog CC) K Go.Proofs.Try.f89 code [a0, a1, a2, a3] = slices_partitionOrdered_int a0 a1 a2 a3 := by
  unfold pureOf arun
  rw [if_pos (show [a0, a1, a2, a3].length ≤ Go.Proofs.Try.f89.ntmps from (by decide +kernel : 4 ≤ Go.Proofs.Try.f89.ntmps))]
  unfold afin
  rw [show acode Go.Proofs.Try.prog CC (draws Go.Proofs.Try.prog CC) K code (args0 [a0, a1, a2, a3]) AHeap.empty = body cmp_Less_int.spec (args0 [a0, a1, a2, a3]) AHeap.empty from body_eq cmp_Less_int.spec _ _]
  kernel_rfl
theorem sound : Sound Go.Proofs.Try.prog 89 (.pure false spec) := by
  refine (sound_pure CS Mixed (draws _ _) K hf hb hok callable).less fun args r h => ?_
  unfold spec at h
  split at h
  · rw [run_eq]; exact h
  · cases h
end slices_partitionOrdered_int

end Go.Abs

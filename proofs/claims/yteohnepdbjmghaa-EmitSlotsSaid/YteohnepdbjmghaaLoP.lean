import Derived.Test.YteohnepdbjmghaaLoF
import Derived.Test.YteohnepdbjmghaaP0
section
set_option linter.unusedSimpArgs false
set_option linter.unusedVariables false
namespace Go.Abs
namespace thumb_shapes
noncomputable def code : Code := match Go.Proofs.Try.f65.body with | some c => c | none => .skip
end thumb_shapes
namespace thumb_field
def K : Nat → List Nat
  | 0 => [0, 1]
  | 1 => [0, 5]
  | 2 => [0, 5, 6]
  | 3 => [0, 5, 6]
  | 4 => [4]
  | 5 => [0, 5, 12]
  | 6 => [4]
  | 7 => [0, 17]
  | 8 => [4]
  | 9 => [4]
  | _ => []
end thumb_field
namespace thumb_Can
def K : Nat → List Nat
  | 0 => [1]
  | 1 => [2]
  | _ => []
end thumb_Can
end Go.Abs
end
section
set_option linter.unusedSimpArgs false
set_option linter.unusedVariables false
namespace Go.Abs
namespace ref02_Shape
noncomputable def code : Code := match Go.Proofs.Try.f107.body with | some c => c | none => .skip
def K : Nat → List Nat
  | 0 => [0]
  | 1 => [2]
  | _ => []
noncomputable def CC : Tab := C
theorem CS : CC.Sound Go.Proofs.Try.prog := Tab.Sound.none
theorem body_eq (fr : AFr) (H : AHeap) : acode Go.Proofs.Try.prog C (draws Go.Proofs.Try.prog C) K code fr H = body fr H := by kernel_rfl
theorem callable : Callable Go.Proofs.Try.prog 107 := fun args w => Go.Proofs.Try.call107 args w
theorem hf : Go.Proofs.Try.prog.funcs[107]? = some Go.Proofs.Try.f107 := Go.Proofs.Try.func107
theorem hb : Go.Proofs.Try.f107.body = some code := by kernel_rfl
theorem hok : codeOk Go.Proofs.Try.f107.ntmps code = true := by kernel_rfl
theorem run_eq (a0 : AV) : pureOf Go.Proofs.Try.prog CC (draws Go.Proofs.Try.prog CC) K Go.Proofs.Try.f107 code [a0] = ref02_Shape a0 := by
  unfold pureOf arun
  rw [if_pos (show [a0].length ≤ Go.Proofs.Try.f107.ntmps from (by decide +kernel : 1 ≤ Go.Proofs.Try.f107.ntmps))]
  unfold afin
  rw [show acode Go.Proofs.Try.prog CC (draws Go.Proofs.Try.prog CC) K code (args0 [a0]) AHeap.empty = body (args0 [a0]) AHeap.empty from body_eq _ _]
  kernel_rfl
theorem sound : Sound Go.Proofs.Try.prog 107 (.pure false spec) := by
  refine (sound_pure CS Mixed (draws _ _) K hf hb hok callable).less fun args r h => ?_
  unfold spec at h
  split at h
  · rw [run_eq]; exact h
  · cases h
end ref02_Shape
namespace ref02_has
noncomputable def code : Code := match Go.Proofs.Try.f108.body with | some c => c | none => .skip
def K : Nat → List Nat
  | 0 => [0, 1]
  | 1 => [0, 1, 5]
  | 2 => [0, 1, 5, 9]
  | 4 => [0, 1, 5, 16]
  | 5 => [4]
  | 3 => [0, 1, 5]
  | 6 => [4]
  | _ => []
noncomputable def CC : Tab := C
theorem CS : CC.Sound Go.Proofs.Try.prog := Tab.Sound.none
theorem body_eq (fr : AFr) (H : AHeap) : acode Go.Proofs.Try.prog C (draws Go.Proofs.Try.prog C) K code fr H = body fr H := by kernel_rfl
theorem callable : Callable Go.Proofs.Try.prog 108 := fun args w => Go.Proofs.Try.call108 args w
theorem hf : Go.Proofs.Try.prog.funcs[108]? = some Go.Proofs.Try.f108 := Go.Proofs.Try.func108
theorem hb : Go.Proofs.Try.f108.body = some code := by kernel_rfl
theorem hok : codeOk Go.Proofs.Try.f108.ntmps code = true := by kernel_rfl
theorem run_eq (a0 a1 : AV) : pureOf Go.Proofs.Try.prog CC (draws Go.Proofs.Try.prog CC) K Go.Proofs.Try.f108 code [a0, a1] = ref02_has a0 a1 := by
  unfold pureOf arun
  rw [if_pos (show [a0, a1].length ≤ Go.Proofs.Try.f108.ntmps from (by decide +kernel : 2 ≤ Go.Proofs.Try.f108.ntmps))]
  unfold afin
  rw [show acode Go.Proofs.Try.prog CC (draws Go.Proofs.Try.prog CC) K code (args0 [a0, a1]) AHeap.empty = body (args0 [a0, a1]) AHeap.empty from body_eq _ _]
  kernel_rfl
theorem sound : Sound Go.Proofs.Try.prog 108 (.pure false spec) := by
  refine (sound_pure CS Mixed (draws _ _) K hf hb hok callable).less fun args r h => ?_
  unfold spec at h
  split at h
  · rw [run_eq]; exact h
  · cases h
end ref02_has
namespace ref02_Low
noncomputable def code : Code := match Go.Proofs.Try.f109.body with | some c => c | none => .skip
def K : Nat → List Nat
  | 0 => [0]
  | 1 => [2]
  | _ => []
noncomputable def CC : Tab := C
theorem CS : CC.Sound Go.Proofs.Try.prog := Tab.Sound.none
theorem body_eq (fr : AFr) (H : AHeap) : acode Go.Proofs.Try.prog C (draws Go.Proofs.Try.prog C) K code fr H = body fr H := by kernel_rfl
theorem callable : Callable Go.Proofs.Try.prog 109 := fun args w => Go.Proofs.Try.call109 args w
theorem hf : Go.Proofs.Try.prog.funcs[109]? = some Go.Proofs.Try.f109 := Go.Proofs.Try.func109
theorem hb : Go.Proofs.Try.f109.body = some code := by kernel_rfl
theorem hok : codeOk Go.Proofs.Try.f109.ntmps code = true := by kernel_rfl
theorem run_eq (a0 : AV) : pureOf Go.Proofs.Try.prog CC (draws Go.Proofs.Try.prog CC) K Go.Proofs.Try.f109 code [a0] = ref02_Low a0 := by
  unfold pureOf arun
  rw [if_pos (show [a0].length ≤ Go.Proofs.Try.f109.ntmps from (by decide +kernel : 1 ≤ Go.Proofs.Try.f109.ntmps))]
  unfold afin
  rw [show acode Go.Proofs.Try.prog CC (draws Go.Proofs.Try.prog CC) K code (args0 [a0]) AHeap.empty = body (args0 [a0]) AHeap.empty from body_eq _ _]
  kernel_rfl
theorem sound : Sound Go.Proofs.Try.prog 109 (.pure false spec) := by
  refine (sound_pure CS Mixed (draws _ _) K hf hb hok callable).less fun args r h => ?_
  unfold spec at h
  split at h
  · rw [run_eq]; exact h
  · cases h
end ref02_Low
namespace ref02_High
noncomputable def code : Code := match Go.Proofs.Try.f110.body with | some c => c | none => .skip
def K : Nat → List Nat
  | 0 => [0]
  | 1 => [2]
  | _ => []
noncomputable def CC : Tab := C
theorem CS : CC.Sound Go.Proofs.Try.prog := Tab.Sound.none
theorem body_eq (fr : AFr) (H : AHeap) : acode Go.Proofs.Try.prog C (draws Go.Proofs.Try.prog C) K code fr H = body fr H := by kernel_rfl
theorem callable : Callable Go.Proofs.Try.prog 110 := fun args w => Go.Proofs.Try.call110 args w
theorem hf : Go.Proofs.Try.prog.funcs[110]? = some Go.Proofs.Try.f110 := Go.Proofs.Try.func110
theorem hb : Go.Proofs.Try.f110.body = some code := by kernel_rfl
theorem hok : codeOk Go.Proofs.Try.f110.ntmps code = true := by kernel_rfl
theorem run_eq (a0 : AV) : pureOf Go.Proofs.Try.prog CC (draws Go.Proofs.Try.prog CC) K Go.Proofs.Try.f110 code [a0] = ref02_High a0 := by
  unfold pureOf arun
  rw [if_pos (show [a0].length ≤ Go.Proofs.Try.f110.ntmps from (by decide +kernel : 1 ≤ Go.Proofs.Try.f110.ntmps))]
  unfold afin
  rw [show acode Go.Proofs.Try.prog CC (draws Go.Proofs.Try.prog CC) K code (args0 [a0]) AHeap.empty = body (args0 [a0]) AHeap.empty from body_eq _ _]
  kernel_rfl
theorem sound : Sound Go.Proofs.Try.prog 110 (.pure false spec) := by
  refine (sound_pure CS Mixed (draws _ _) K hf hb hok callable).less fun args r h => ?_
  unfold spec at h
  split at h
  · rw [run_eq]; exact h
  · cases h
end ref02_High
namespace ref02_Can
noncomputable def code : Code := match Go.Proofs.Try.f60.body with | some c => c | none => .skip
def K : Nat → List Nat
  | 0 => [1]
  | 1 => [1, 11]
  | 2 => [2]
  | 3 => [1, 3]
  | 4 => [1, 3, 16]
  | 5 => [1, 3, 24]
  | 6 => [2]
  | 7 => [1, 3, 42]
  | 8 => [2]
  | 9 => [2]
  | _ => []
noncomputable def CC : Tab := C ref02_Shape.spec ref02_has.spec ref02_Low.spec ref02_High.spec
theorem CS : CC.Sound Go.Proofs.Try.prog := ((((Tab.Sound.none.add ref02_Shape.sound).add ref02_has.sound).add ref02_Low.sound).add ref02_High.sound)
theorem body_eq (s0 s1 s2 s3 : SpecP) (fr : AFr) (H : AHeap) : acode Go.Proofs.Try.prog (C s0 s1 s2 s3) (draws Go.Proofs.Try.prog (C s0 s1 s2 s3)) K code fr H = body s0 s1 s2 s3 fr H := by kernel_rfl
theorem callable : Callable Go.Proofs.Try.prog 60 := fun args w => Go.Proofs.Try.call60 args w
theorem hf : Go.Proofs.Try.prog.funcs[60]? = some Go.Proofs.Try.f60 := Go.Proofs.Try.func60
theorem hb : Go.Proofs.Try.f60.body = some code := by kernel_rfl
theorem hok : codeOk Go.Proofs.Try.f60.ntmps code = true := by kernel_rfl
theorem run_eq (a0 : AV) : pureOf Go.Proofs.Try.prog CC (draws Go.Proofs.Try.prog CC) K Go.Proofs.Try.f60 code [a0] = ref02_Can a0 := by
  unfold pureOf arun
  rw [if_pos (show [a0].length ≤ Go.Proofs.Try.f60.ntmps from (by decide +kernel : 1 ≤ Go.Proofs.Try.f60.ntmps))]
  unfold afin
  rw [show acode Go.Proofs.Try.prog CC (draws Go.Proofs.Try.prog CC) K code (args0 [a0]) AHeap.empty = body ref02_Shape.spec ref02_has.spec ref02_Low.spec ref02_High.spec (args0 [a0]) AHeap.empty from body_eq ref02_Shape.spec ref02_has.spec ref02_Low.spec ref02_High.spec _ _]
  kernel_rfl
theorem sound : Sound Go.Proofs.Try.prog 60 (.pure false spec) := by
  refine (sound_pure CS Mixed (draws _ _) K hf hb hok callable).less fun args r h => ?_
  unfold spec at h
  split at h
  · rw [run_eq]; exact h
  · cases h
end ref02_Can
end Go.Abs
end
section
set_option linter.unusedSimpArgs false
set_option linter.unusedVariables false
end
section
set_option linter.unusedSimpArgs false
set_option linter.unusedVariables false
end
section
set_option linter.unusedSimpArgs false
set_option linter.unusedVariables false
end
section
set_option linter.unusedSimpArgs false
set_option linter.unusedVariables false
end

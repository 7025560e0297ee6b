/-
  That the program's functions are these. Printed by gen.py.
-/
import Derived.Test.YteohnepdbjmghaaL25F
import Derived.Test.YteohnepdbjmghaaEmP
import Derived.Test.YteohnepdbjmghaaErP
import Derived.Test.YteohnepdbjmghaaIrP
import Derived.Test.YteohnepdbjmghaaTeP
import Derived.Test.YteohnepdbjmghaaIrF
import Derived.Test.YteohnepdbjmghaaLoF
import Derived.Test.YteohnepdbjmghaaLoP
set_option linter.unusedSimpArgs false
set_option linter.unusedVariables false
namespace Go.Abs
namespace law25_lives
noncomputable def code : Code := match Go.Proofs.Try.f24.body with | some c => c | none => .skip
def K : Nat → List Nat
  | 0 => []
  | 1 => [0]
  | _ => []
noncomputable def CC : Tab := C emit_Step.spec ref25_Same.spec
theorem CS : CC.Sound Go.Proofs.Try.prog := ((Tab.Sound.none.add emit_Step.sound).add ref25_Same.sound)
theorem body_eq (s0 s1 : SpecP) (fr : AFr) (H : AHeap) : acode Go.Proofs.Try.prog (C s0 s1) (draws Go.Proofs.Try.prog (C s0 s1)) K code fr H = body s0 s1 fr H := by kernel_rfl
theorem callable : Callable Go.Proofs.Try.prog 24 := fun args w => Go.Proofs.Try.call24 args w
theorem hf : Go.Proofs.Try.prog.funcs[24]? = some Go.Proofs.Try.f24 := Go.Proofs.Try.func24
theorem hb : Go.Proofs.Try.f24.body = some code := by kernel_rfl
theorem hok : codeOk Go.Proofs.Try.f24.ntmps code = true := by kernel_rfl
theorem run_eq : pureOf Go.Proofs.Try.prog CC (draws Go.Proofs.Try.prog CC) K Go.Proofs.Try.f24 code [] = law25_lives := by
  unfold pureOf arun
  rw [if_pos (show [].length ≤ Go.Proofs.Try.f24.ntmps from (by decide +kernel : 0 ≤ Go.Proofs.Try.f24.ntmps))]
  unfold afin
  rw [show acode Go.Proofs.Try.prog CC (draws Go.Proofs.Try.prog CC) K code (args0 []) AHeap.empty = body emit_Step.spec ref25_Same.spec (args0 []) AHeap.empty from body_eq emit_Step.spec ref25_Same.spec _ _]
  kernel_rfl
theorem sound : Sound Go.Proofs.Try.prog 24 (.pure false spec) := by
  refine (sound_pure CS Mixed (draws _ _) K hf hb hok callable).less fun args r h => ?_
  unfold spec at h
  split at h
  · rw [run_eq]; exact h
  · cases h
end law25_lives
namespace law25_EmitSteps
noncomputable def code : Code := match Go.Proofs.Try.f5.body with | some c => c | none => .skip
def K : Nat → List Nat
  | 0 => [1, 2, 3]
  | 1 => [1, 2, 3, 10]
  | 2 => [1, 2, 3]
  | 3 => [1, 2, 3, 7]
  | 4 => [1, 2, 3, 7, 23]
  | 5 => [6]
  | 6 => [6]
  | _ => []
noncomputable def CC : Tab := C emit_Step.spec ref25_Fits.spec law25_lives.spec ref25_Step.spec ref25_Same.spec
theorem CS : CC.Sound Go.Proofs.Try.prog := (((((Tab.Sound.none.add emit_Step.sound).add ref25_Fits.sound).add law25_lives.sound).add ref25_Step.sound).add ref25_Same.sound)
theorem body_eq (s0 s1 s2 s3 s4 : SpecP) (fr : AFr) (H : AHeap) : acode Go.Proofs.Try.prog (C s0 s1 s2 s3 s4) (draws Go.Proofs.Try.prog (C s0 s1 s2 s3 s4)) K code fr H = body s0 s1 s2 s3 s4 fr H := by kernel_rfl
theorem callable : Callable Go.Proofs.Try.prog 5 := fun args w => Go.Proofs.Try.call5 args w
theorem hf : Go.Proofs.Try.prog.funcs[5]? = some Go.Proofs.Try.f5 := Go.Proofs.Try.func5
theorem hb : Go.Proofs.Try.f5.body = some code := by kernel_rfl
theorem hok : codeOk Go.Proofs.Try.f5.ntmps code = true := by kernel_rfl
theorem run_eq (a0 a1 a2 : AV) : pureOf Go.Proofs.Try.prog CC (draws Go.Proofs.Try.prog CC) K Go.Proofs.Try.f5 code [a0, a1, a2] = law25_EmitSteps a0 a1 a2 := by
  unfold pureOf arun
  rw [if_pos (show [a0, a1, a2].length ≤ Go.Proofs.Try.f5.ntmps from (by decide +kernel : 3 ≤ Go.Proofs.Try.f5.ntmps))]
  unfold afin
  rw [show acode Go.Proofs.Try.prog CC (draws Go.Proofs.Try.prog CC) K code (args0 [a0, a1, a2]) AHeap.empty = body emit_Step.spec ref25_Fits.spec law25_lives.spec ref25_Step.spec ref25_Same.spec (args0 [a0, a1, a2]) AHeap.empty from body_eq emit_Step.spec ref25_Fits.spec law25_lives.spec ref25_Step.spec ref25_Same.spec _ _]
  kernel_rfl
theorem sound : Sound Go.Proofs.Try.prog 5 (.pure false spec) := by
  refine (sound_pure CS Mixed (draws _ _) K hf hb hok callable).less fun args r h => ?_
  unfold spec at h
  split at h
  · rw [run_eq]; exact h
  · cases h
end law25_EmitSteps
namespace law25_EmitSlots
noncomputable def code : Code := match Go.Proofs.Try.f6.body with | some c => c | none => .skip
def K : Nat → List Nat
  | 0 => [0]
  | 1 => [2]
  | _ => []
noncomputable def CC : Tab := C emit_Slot.spec ref25_Slot.spec ref25_Same.spec emit_Begin.spec ref25_Begin.spec law25_lives.spec
theorem CS : CC.Sound Go.Proofs.Try.prog := ((((((Tab.Sound.none.add emit_Slot.sound).add ref25_Slot.sound).add ref25_Same.sound).add emit_Begin.sound).add ref25_Begin.sound).add law25_lives.sound)
theorem body_eq (s0 s1 s2 s3 s4 s5 : SpecP) (fr : AFr) (H : AHeap) : acode Go.Proofs.Try.prog (C s0 s1 s2 s3 s4 s5) (draws Go.Proofs.Try.prog (C s0 s1 s2 s3 s4 s5)) K code fr H = body s0 s1 s2 s3 s4 s5 fr H := by kernel_rfl
theorem callable : Callable Go.Proofs.Try.prog 6 := fun args w => Go.Proofs.Try.call6 args w
theorem hf : Go.Proofs.Try.prog.funcs[6]? = some Go.Proofs.Try.f6 := Go.Proofs.Try.func6
theorem hb : Go.Proofs.Try.f6.body = some code := by kernel_rfl
theorem hok : codeOk Go.Proofs.Try.f6.ntmps code = true := by kernel_rfl
theorem run_eq (a0 : AV) : pureOf Go.Proofs.Try.prog CC (draws Go.Proofs.Try.prog CC) K Go.Proofs.Try.f6 code [a0] = law25_EmitSlots a0 := by
  unfold pureOf arun
  rw [if_pos (show [a0].length ≤ Go.Proofs.Try.f6.ntmps from (by decide +kernel : 1 ≤ Go.Proofs.Try.f6.ntmps))]
  unfold afin
  rw [show acode Go.Proofs.Try.prog CC (draws Go.Proofs.Try.prog CC) K code (args0 [a0]) AHeap.empty = body emit_Slot.spec ref25_Slot.spec ref25_Same.spec emit_Begin.spec ref25_Begin.spec law25_lives.spec (args0 [a0]) AHeap.empty from body_eq emit_Slot.spec ref25_Slot.spec ref25_Same.spec emit_Begin.spec ref25_Begin.spec law25_lives.spec _ _]
  kernel_rfl
theorem sound : Sound Go.Proofs.Try.prog 6 (.pure false spec) := by
  refine (sound_pure CS Mixed (draws _ _) K hf hb hok callable).less fun args r h => ?_
  unfold spec at h
  split at h
  · rw [run_eq]; exact h
  · cases h
end law25_EmitSlots
end Go.Abs

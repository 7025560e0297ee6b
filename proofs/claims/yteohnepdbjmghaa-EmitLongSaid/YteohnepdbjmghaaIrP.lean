/-
  That the program's functions are these. Printed by gen.py.
-/
import Derived.Test.YteohnepdbjmghaaIrF
import Derived.Test.YteohnepdbjmghaaLoP
set_option linter.unusedSimpArgs false
set_option linter.unusedVariables false
namespace Go.Abs
namespace ref19_Own
noncomputable def code : Code := match Go.Proofs.Try.f33.body with | some c => c | none => .skip
def K : Nat → List Nat
  | 0 => [1, 2]
  | 1 => [2]
  | _ => []
noncomputable def CC : Tab := C
theorem CS : CC.Sound Go.Proofs.Try.prog := Tab.Sound.none
theorem body_eq (fr : AFr) (H : AHeap) : acode Go.Proofs.Try.prog C (draws Go.Proofs.Try.prog C) K code fr H = body fr H := by kernel_rfl
theorem callable : Callable Go.Proofs.Try.prog 33 := fun args w => Go.Proofs.Try.call33 args w
theorem hf : Go.Proofs.Try.prog.funcs[33]? = some Go.Proofs.Try.f33 := Go.Proofs.Try.func33
theorem hb : Go.Proofs.Try.f33.body = some code := by kernel_rfl
theorem hok : codeOk Go.Proofs.Try.f33.ntmps code = true := by kernel_rfl
theorem run_eq (a0 : AV) : pureOf Go.Proofs.Try.prog CC (draws Go.Proofs.Try.prog CC) K Go.Proofs.Try.f33 code [a0] = ref19_Own a0 := by
  unfold pureOf arun
  rw [if_pos (show [a0].length ≤ Go.Proofs.Try.f33.ntmps from (by decide +kernel : 1 ≤ Go.Proofs.Try.f33.ntmps))]
  unfold afin
  rw [show acode Go.Proofs.Try.prog CC (draws Go.Proofs.Try.prog CC) K code (args0 [a0]) AHeap.empty = body (args0 [a0]) AHeap.empty from body_eq _ _]
  kernel_rfl
theorem sound : Sound Go.Proofs.Try.prog 33 (.pure false spec) := by
  refine (sound_pure CS Mixed (draws _ _) K hf hb hok callable).less fun args r h => ?_
  unfold spec at h
  split at h
  · rw [run_eq]; exact h
  · cases h
end ref19_Own
end Go.Abs

/-
  That the program's functions are these. Printed by gen.py.
-/
import Derived.Test.YteohnepdbjmghaaErF
import Derived.Test.YteohnepdbjmghaaIrP
import Derived.Test.YteohnepdbjmghaaTeP
set_option linter.unusedSimpArgs false
set_option linter.unusedVariables false
namespace Go.Abs
namespace ref25_Fits
noncomputable def code : Code := match Go.Proofs.Try.f23.body with | some c => c | none => .skip
end ref25_Fits
namespace ref25_Same
noncomputable def code : Code := match Go.Proofs.Try.f25.body with | some c => c | none => .skip
def K : Nat → List Nat
  | 0 => [0, 1]
  | 1 => [0, 1, 12]
  | 2 => [4]
  | 3 => [0, 1, 5]
  | 4 => [0, 1, 5, 16]
  | 6 => [0, 1, 5, 6, 7]
  | 7 => [0, 1, 5, 36]
  | 8 => [4]
  | 5 => [0, 1, 5]
  | 9 => [4]
  | _ => []
noncomputable def CC : Tab := C ref04_Show.spec
theorem CS : CC.Sound Go.Proofs.Try.prog := (Tab.Sound.none.add ref04_Show.sound)
theorem body_eq (s0 : SpecP) (fr : AFr) (H : AHeap) : acode Go.Proofs.Try.prog (C s0) (draws Go.Proofs.Try.prog (C s0)) K code fr H = body s0 fr H := by kernel_rfl
theorem callable : Callable Go.Proofs.Try.prog 25 := fun args w => Go.Proofs.Try.call25 args w
theorem hf : Go.Proofs.Try.prog.funcs[25]? = some Go.Proofs.Try.f25 := Go.Proofs.Try.func25
theorem hb : Go.Proofs.Try.f25.body = some code := by kernel_rfl
theorem hok : codeOk Go.Proofs.Try.f25.ntmps code = true := by kernel_rfl
theorem run_eq (a0 a1 : AV) : pureOf Go.Proofs.Try.prog CC (draws Go.Proofs.Try.prog CC) K Go.Proofs.Try.f25 code [a0, a1] = ref25_Same a0 a1 := by
  unfold pureOf arun
  rw [if_pos (show [a0, a1].length ≤ Go.Proofs.Try.f25.ntmps from (by decide +kernel : 2 ≤ Go.Proofs.Try.f25.ntmps))]
  unfold afin
  rw [show acode Go.Proofs.Try.prog CC (draws Go.Proofs.Try.prog CC) K code (args0 [a0, a1]) AHeap.empty = body ref04_Show.spec (args0 [a0, a1]) AHeap.empty from body_eq ref04_Show.spec _ _]
  kernel_rfl
theorem sound : Sound Go.Proofs.Try.prog 25 (.pure false spec) := by
  refine (sound_pure CS Mixed (draws _ _) K hf hb hok callable).less fun args r h => ?_
  unfold spec at h
  split at h
  · rw [run_eq]; exact h
  · cases h
end ref25_Same
end Go.Abs

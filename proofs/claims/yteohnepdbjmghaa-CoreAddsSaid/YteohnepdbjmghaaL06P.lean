/-
  That the program's functions are these. Printed by gen.py.
-/
import Derived.Test.YteohnepdbjmghaaL06F
import Derived.Test.YteohnepdbjmghaaLoP
import Derived.Test.YteohnepdbjmghaaCoP
set_option linter.unusedSimpArgs false
set_option linter.unusedVariables false
namespace Go.Abs
namespace law06_lives
def K : Nat → List Nat
  | 0 => []
  | 1 => [1]
  | 2 => [2, 3, 4]
  | 3 => [0]
  | _ => []
theorem body_eq (s0 s1 : SpecM) (fr : AFr) (H : AHeap) : acode tp (C s0 s1) (draws tp (C s0 s1)) K (co Go.Proofs.Try.f47) fr H = body s0 s1 fr H := by kernel_rfl
theorem sound : Sound tp 47 (.pure false spec) := sayP ((Tab.Sound.none.add mem_New.sound).add core_Step.sound) Go.Proofs.Try.func47 (by kernel_rfl) (by kernel_rfl) (fun a w => Go.Proofs.Try.call47 a w) (body_eq mem_New.spec core_Step.spec) 0 (by decide +kernel) (g := res) (fun fr H => by kernel_rfl) (ts := some [[none]]) (by kernel_rfl) fun args r h => by
  unfold spec at h; split at h <;> first | exact ⟨rfl, h⟩ | cases h
end law06_lives
end Go.Abs

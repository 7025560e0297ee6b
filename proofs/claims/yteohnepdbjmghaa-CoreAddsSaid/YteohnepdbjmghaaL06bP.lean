/-
  That the program's functions are these. Printed by gen.py.
-/
import Derived.Test.YteohnepdbjmghaaL06bF
import Derived.Test.YteohnepdbjmghaaLoP
import Derived.Test.YteohnepdbjmghaaCoP
import Derived.Test.YteohnepdbjmghaaL06P
set_option linter.unusedSimpArgs false
set_option linter.unusedVariables false
namespace Go.Abs
namespace law06_CoreAdds
def K : Nat → List Nat
  | 0 => [1, 2]
  | 1 => [1, 2]
  | 2 => [1, 2, 5, 6, 7]
  | 3 => [2, 5, 6, 7, 18]
  | 4 => [2, 5, 6, 7]
  | 5 => [2, 6, 7, 8, 9, 10]
  | 6 => [8, 9, 10, 11, 12, 13]
  | 7 => [4]
  | _ => []
theorem body_eq (s0 s1 : SpecM) (s2 s3 : SpecP) (fr : AFr) (H : AHeap) : acode tp (C s0 s1 s2 s3) (draws tp (C s0 s1 s2 s3)) K (co Go.Proofs.Try.f11) fr H = body s0 s1 s2 s3 fr H := by kernel_rfl
theorem sound : Sound tp 11 (.pure false spec) := sayP ((((Tab.Sound.none.add mem_New.sound).add core_Step.sound).add ref01_Add.sound).add law06_lives.sound) Go.Proofs.Try.func11 (by kernel_rfl) (by kernel_rfl) (fun a w => Go.Proofs.Try.call11 a w) (body_eq mem_New.spec core_Step.spec ref01_Add.spec law06_lives.spec) 2 (by decide +kernel) (g := res) (fun fr H => by kernel_rfl) (ts := some [[none]]) (by kernel_rfl) fun args r h => by
  unfold spec at h; split at h <;> first | exact ⟨rfl, h⟩ | cases h
end law06_CoreAdds
end Go.Abs

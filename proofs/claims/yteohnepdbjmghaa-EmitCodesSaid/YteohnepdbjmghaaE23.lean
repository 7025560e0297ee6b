/-
  The law EmitLong.
-/
import Derived.Test.YteohnepdbjmghaaEF
import Derived.Test.YteohnepdbjmghaaED
set_option linter.unusedSimpArgs false
set_option linter.unusedVariables false
namespace Go.Abs
open Th
def fewM (c : CodeM) : Bool := decide (c.ops.length ≤ 120) && decide (c.outs.length ≤ 100) && decide (c.inN ≤ 200)
theorem few_eq (c : CodeM) : law25_few.spec [.agg c.cells] = some (.bool (fewM c)) := by
  unfold CodeM.cells fewM
  by_cases h1 : c.ops.length ≤ 120
  · have h1' : (c.ops.length : Int) ≤ 120 := by omega
    by_cases h2 : c.outs.length ≤ 100
    · have h2' : (c.outs.length : Int) ≤ 100 := by omega
      by_cases h3 : c.inN ≤ 200 <;> simp -implicitDefEqProofs +contextual (disch := omega) [law25_few.spec, law25_few, h1, h1', h2, h2', h3]
    · have h2' : ¬ (c.outs.length : Int) ≤ 100 := by omega
      simp -implicitDefEqProofs +contextual (disch := omega) [law25_few.spec, law25_few, h1, h1', h2, h2']
  · have h1' : ¬ (c.ops.length : Int) ≤ 120 := by omega
    simp -implicitDefEqProofs +contextual (disch := omega) [law25_few.spec, law25_few, h1, h1']
end Go.Abs

import Derived.Test.YthignlpdeaglaaaJD
import Derived.Test.YthignlpdeaglaaaL19F
section
set_option linter.unusedSimpArgs false
set_option linter.unusedVariables false
namespace Go.Abs
theorem g1_parts : (gadC true 1).inN = 4 ∧ (gadC true 1).ops.length = 9 ∧ (gadC true 1).outs.length = 2 ∧ (gadC true 1).randoms = 1 := by decide +kernel
theorem lives19 : law19_lives.spec [] = some (.bool true) := by
  have hA : isw_And.spec [.int .i64 1] = _ := And_eq 1 (by omega)
  obtain ⟨h1, h2, h3, h4⟩ := g1_parts
  have hR := Randoms_eq' (gadC true 1) (by rw [h2]; omega)
  rw [h4] at hR
  unfold CodeM.cells at hA hR
  generalize gadC true 1 = c at *
  rw [h1] at hA hR
  simp -implicitDefEqProofs +contextual (disch := omega) [law19_lives.spec, law19_lives, hA, hR, h2, h3]
end Go.Abs
end
section
set_option linter.unusedSimpArgs false
set_option linter.unusedVariables false
end
section
set_option linter.unusedSimpArgs false
set_option linter.unusedVariables false
end

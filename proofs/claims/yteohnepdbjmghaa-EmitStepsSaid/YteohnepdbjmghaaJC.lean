import Derived.Test.YteohnepdbjmghaaJA
import Derived.Test.YteohnepdbjmghaaQI
import Derived.Test.YteohnepdbjmghaaIrF
import Derived.Test.YteohnepdbjmghaaSA
import Derived.Test.YteohnepdbjmghaaWA
section
set_option linter.unusedSimpArgs false
set_option linter.unusedVariables false
namespace Go.Abs
theorem rtakes_eq (k : Int) : ref19_Takes.spec [.int .i64 k] = some (.int .i64 (takesM k)) := by
  by_cases h1 : k = 1
  · subst h1; simp -implicitDefEqProofs +contextual (disch := omega) [ref19_Takes.spec, ref19_Takes, takesM]
  by_cases h2 : k = 2
  · subst h2; simp -implicitDefEqProofs +contextual (disch := omega) [ref19_Takes.spec, ref19_Takes, takesM]
  by_cases h3 : 3 ≤ k
  · by_cases h6 : k ≤ 6
    · simp -implicitDefEqProofs +contextual (disch := omega) [ref19_Takes.spec, ref19_Takes, takesM, h1, h2, h3, h6]
    · by_cases h8 : k = 8
      · subst h8; simp -implicitDefEqProofs +contextual (disch := omega) [ref19_Takes.spec, ref19_Takes, takesM]
      · simp -implicitDefEqProofs +contextual (disch := omega) [ref19_Takes.spec, ref19_Takes, takesM, h1, h2, h3, h6, h8]
  · by_cases h8 : k = 8
    · omega
    · simp -implicitDefEqProofs +contextual (disch := omega) [ref19_Takes.spec, ref19_Takes, takesM, h1, h2, h3, h8]
end Go.Abs
end
section
set_option linter.unusedSimpArgs false
set_option linter.unusedVariables false
end
section
set_option linter.unusedSimpArgs false
set_option linter.unusedVariables false
end

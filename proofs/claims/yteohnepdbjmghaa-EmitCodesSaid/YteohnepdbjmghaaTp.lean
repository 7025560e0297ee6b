/-
  Put and Can of the program, of any instruction.
-/
import Derived.Test.YteohnepdbjmghaaT9
set_option linter.unusedSimpArgs false
set_option linter.unusedVariables false
namespace Go.Abs
open Th
theorem Put_eq (i : InsM) : thumb_Put.spec [InsAV i] = some (.tup [W16 (putM i).1, .int .i64 (putM i).2]) := by
  have h := can_eq i
  unfold putM
  by_cases hc : i.can = true
  · have h2 := put_eq i hc
    simp only [InsAV] at h h2
    simp -implicitDefEqProofs +contextual (disch := omega) [thumb_Put.spec, thumb_Put, InsAV, h, h2, hc]
  · simp only [InsAV] at h
    simp -implicitDefEqProofs +contextual (disch := omega) [thumb_Put.spec, thumb_Put, InsAV, h, hc]
end Go.Abs

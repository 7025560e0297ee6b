/-
  An instruction's halfword comes back as the instruction.
-/
import Derived.Test.YteohnepdbjmghaaT2
set_option linter.unusedSimpArgs false
set_option linter.unusedVariables false
namespace Go.Abs
open Th
theorem putM_take {i : InsM} (h : i.can = true) : takeN (putM i).1.toNat = (i, 0) := by
  simp only [putM, h, if_true]
  rw [BitVec.toNat_ofNat, Nat.mod_eq_of_lt (by have := (forth i h).2.2; omega)]
  exact take_put i h
end Go.Abs

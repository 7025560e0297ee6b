/-
  Instructions and their halfwords: the document's Can and Put.
-/
import Derived.Test.YteohnepdbjmghaaT4
set_option linter.unusedSimpArgs false
set_option linter.unusedVariables false
namespace Go.Abs
open Th
theorem rCan_eq (i : InsM) : ref02_Can.spec [InsAV i] = some (.bool i.can) := by
  obtain ⟨op, d, n, m, imm⟩ := i
  by_cases h : 0 ≤ op ∧ op ≤ 20
  · obtain ⟨k, rfl⟩ : ∃ k : Nat, op = k := ⟨op.toNat, by omega⟩
    exact cases21 (P := fun k => ref02_Can.spec [InsAV ⟨k, d, n, m, imm⟩] = some (.bool (InsM.mk k d n m imm).can)) k (by omega) (Can0 d n m imm) (Can1 d n m imm) (Can2 d n m imm) (Can3 d n m imm) (Can4 d n m imm) (Can5 d n m imm) (Can6 d n m imm) (Can7 d n m imm) (Can8 d n m imm) (Can9 d n m imm) (Can10 d n m imm)
      (Can11 d n m imm) (Can12 d n m imm) (Can13 d n m imm) (Can14 d n m imm) (Can15 d n m imm) (Can16 d n m imm) (Can17 d n m imm) (Can18 d n m imm) (Can19 d n m imm) (Can20 d n m imm)
  · have hc : (InsM.mk op d n m imm).can = false := by
      rw [Bool.eq_false_iff, Ne, can_iff]; exact fun q => h q.1
    have h' : op < 0 ∨ 20 < op := by omega
    rw [hc]
    simp -implicitDefEqProofs +contextual (disch := omega) [ref02_Can.spec, ref02_Can, InsAV, h']
end Go.Abs

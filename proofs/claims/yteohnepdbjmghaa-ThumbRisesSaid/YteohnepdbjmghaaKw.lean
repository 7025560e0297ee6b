/-
  Which register an instruction sets: the document's answer.
-/
import Derived.Test.YteohnepdbjmghaaC4
import Derived.Test.YteohnepdbjmghaaT5
set_option linter.unusedSimpArgs false
set_option linter.unusedVariables false
namespace Go.Abs
open Th
theorem rWrites_eq (i : InsM) : ref02_Writes.spec [InsAV i] = some (.tup [.int .i64 (writesM i).1, .bool (writesM i).2]) := by
  have hc := rCan_eq i
  unfold writesM
  by_cases h : i.can = true
  · have h1 := ((can_iff i).1 h).1
    obtain ⟨op, d, n, m, imm⟩ := i
    rw [if_pos h]
    rw [h] at hc
    simp only [InsAV] at hc ⊢
    dsimp only at h1 ⊢
    obtain ⟨k, rfl⟩ : ∃ k : Nat, op = k := ⟨op.toNat, by omega⟩
    have hk : k = 0 ∨ k = 1 ∨ k = 2 ∨ k = 3 ∨ k = 4 ∨ k = 5 ∨ k = 6 ∨ k = 7 ∨ k = 8 ∨ k = 9 ∨ k = 10 ∨ k = 11 ∨ k = 12 ∨ k = 13 ∨ k = 14 ∨ k = 15 ∨ k = 16 ∨ k = 17 ∨ k = 18 ∨ k = 19 ∨ k = 20 := by omega
    rcases hk with rfl | rfl | rfl | rfl | rfl | rfl | rfl | rfl | rfl | rfl | rfl | rfl | rfl | rfl | rfl | rfl | rfl | rfl | rfl | rfl | rfl
    case inr.inr.inr.inr.inr.inr.inr.inr.inr.inr.inr.inl =>
      push_cast at hc ⊢
      by_cases a8 : imm = 8
      · subst a8; simp -implicitDefEqProofs +contextual (disch := omega) [ref02_Writes.spec, ref02_Writes, hc]
      · by_cases a10 : imm = 10
        · subst a10; simp -implicitDefEqProofs +contextual (disch := omega) [ref02_Writes.spec, ref02_Writes, hc]
        · by_cases a11 : imm = 11
          · subst a11; simp -implicitDefEqProofs +contextual (disch := omega) [ref02_Writes.spec, ref02_Writes, hc]
          · simp -implicitDefEqProofs +contextual (disch := omega) [ref02_Writes.spec, ref02_Writes, hc, a8, a10, a11]
    all_goals
      push_cast at hc ⊢
      simp -implicitDefEqProofs +contextual (disch := omega) [ref02_Writes.spec, ref02_Writes, hc]
  · rw [if_neg h]
    simp only [InsAV] at hc ⊢
    simp -implicitDefEqProofs +contextual (disch := omega) [ref02_Writes.spec, ref02_Writes, hc, h]
end Go.Abs

/-
  What instructions do: the program's step. Printed by genc4.py.
-/
import Derived.Test.YteohnepdbjmghaaCA
set_option linter.unusedSimpArgs false
set_option linter.unusedVariables false
namespace Go.Abs
open Th
def writesM (i : InsM) : Int × Bool :=
  if i.can = true then (if i.op = 1 ∨ i.op = 13 ∨ i.op = 15 ∨ 17 ≤ i.op ∨ (i.op = 11 ∧ (i.imm = 8 ∨ i.imm = 10 ∨ i.imm = 11)) then (0, false) else (i.d, true)) else (0, false)
theorem Writes_eq (i : InsM) : thumb_Writes.spec [InsAV i] = some (.tup [.int .i64 (writesM i).1, .bool (writesM i).2]) := by
  have hc := can_eq i
  unfold writesM
  by_cases h : i.can = true
  · have h1 := ((can_iff i).1 h).1
    obtain ⟨op, d, n, m, imm⟩ := i
    rw [if_pos h]
    rw [h] at hc
    simp only [InsAV] at hc ⊢
    dsimp only at h1 ⊢
    obtain ⟨k, rfl⟩ : ∃ k : Nat, op = k := ⟨op.toNat, by omega⟩
    have hk : k = 0 ∨ k = 1 ∨ k = 2 ∨ k = 3 ∨ k = 4 ∨ k = 5 ∨ k = 6 ∨ k = 7 ∨ k = 8 ∨ k = 9 ∨ k = 10 ∨ k = 11 ∨ k = 12 ∨ k = 13 ∨ k = 14 ∨ k = 15 ∨ k = 16 ∨ k = 17 ∨ k = 18 ∨ k = 19 ∨ k = 20 := by omega
    rcases hk with rfl | rfl | rfl | rfl | rfl | rfl | rfl | rfl | rfl | rfl | rfl | rfl | rfl | rfl | rfl | rfl | rfl | rfl | rfl | rfl | rfl
    case inr.inr.inr.inr.inr.inr.inr.inr.inr.inr.inr.inl =>
      push_cast at hc ⊢
      by_cases a8 : imm = 8
      · subst a8; simp -implicitDefEqProofs +contextual (disch := omega) [thumb_Writes.spec, thumb_Writes, hc]
      · by_cases a10 : imm = 10
        · subst a10; simp -implicitDefEqProofs +contextual (disch := omega) [thumb_Writes.spec, thumb_Writes, hc]
        · by_cases a11 : imm = 11
          · subst a11; simp -implicitDefEqProofs +contextual (disch := omega) [thumb_Writes.spec, thumb_Writes, hc]
          · simp -implicitDefEqProofs +contextual (disch := omega) [thumb_Writes.spec, thumb_Writes, hc, a8, a10, a11]
    all_goals
      push_cast at hc ⊢
      simp -implicitDefEqProofs +contextual (disch := omega) [thumb_Writes.spec, thumb_Writes, hc]
  · rw [if_neg h]
    simp only [InsAV] at hc ⊢
    simp -implicitDefEqProofs +contextual (disch := omega) [thumb_Writes.spec, thumb_Writes, hc, h]
structure Did where
  s : StM
  m : MemM
  stop : Bool
  e : Int
end Go.Abs

/-
  What an instruction leaks: the document's step. Printed by genk4.py.
-/
import Derived.Test.YtncablokgkejjaaK2
import Derived.Test.YtncablokgkejjaaCD
set_option linter.unusedSimpArgs false
set_option linter.unusedVariables false
namespace Go.Abs
open Th
theorem rWrites_eq (i : InsM) : ref02_Writes.spec [InsAV i] = some (.tup [.int .i64 (writesM i).1, .bool (writesM i).2]) := by
  have hc := rCan_eq i
  unfold writesM
  by_cases h : i.can = true
  · have h1 := ((can_iff i).1 h).1
    obtain ⟨op, d, n, m, imm⟩ := i
    rw [if_pos h]
    rw [h] at hc
    simp only [InsAV] at hc ⊢
    dsimp only at h1 ⊢
    obtain ⟨k, rfl⟩ : ∃ k : Nat, op = k := ⟨op.toNat, by omega⟩
    have hk : k = 0 ∨ k = 1 ∨ k = 2 ∨ k = 3 ∨ k = 4 ∨ k = 5 ∨ k = 6 ∨ k = 7 ∨ k = 8 ∨ k = 9 ∨ k = 10 ∨ k = 11 ∨ k = 12 ∨ k = 13 ∨ k = 14 ∨ k = 15 ∨ k = 16 ∨ k = 17 ∨ k = 18 ∨ k = 19 ∨ k = 20 := by omega
    rcases hk with rfl | rfl | rfl | rfl | rfl | rfl | rfl | rfl | rfl | rfl | rfl | rfl | rfl | rfl | rfl | rfl | rfl | rfl | rfl | rfl | rfl
    case inr.inr.inr.inr.inr.inr.inr.inr.inr.inr.inr.inl =>
      push_cast at hc ⊢
      by_cases a8 : imm = 8
      · subst a8; simp -implicitDefEqProofs +contextual (disch := omega) [ref02_Writes.spec, ref02_Writes, hc]
      · by_cases a10 : imm = 10
        · subst a10; simp -implicitDefEqProofs +contextual (disch := omega) [ref02_Writes.spec, ref02_Writes, hc]
        · by_cases a11 : imm = 11
          · subst a11; simp -implicitDefEqProofs +contextual (disch := omega) [ref02_Writes.spec, ref02_Writes, hc]
          · simp -implicitDefEqProofs +contextual (disch := omega) [ref02_Writes.spec, ref02_Writes, hc, a8, a10, a11]
    all_goals
      push_cast at hc ⊢
      simp -implicitDefEqProofs +contextual (disch := omega) [ref02_Writes.spec, ref02_Writes, hc]
  · rw [if_neg h]
    simp only [InsAV] at hc ⊢
    simp -implicitDefEqProofs +contextual (disch := omega) [ref02_Writes.spec, ref02_Writes, hc, h]
structure LCtx (B : AHeap) (b cb wb tb : Nat) (m : MemM) (s : StM) (r : Did) (h : BitVec 16) : Prop where
  bus : ∀ B' : AHeap, (B'.rmem b cb wb tb m).get b = some (rBlk cb wb tb m)
  step : ∀ B' : AHeap, B'.WF → B.next ≤ B'.next → (∀ c, c < B.next → B'.get c = B.get c) → ref06_Step.spec [.agg s.cells, .ptr b 5 0 0] (B'.rmem b cb wb tb m) = some (DidAV r, B'.rmem b cb wb tb r.m)
  fetch : ∀ B' : AHeap, B'.WF → B.next ≤ B'.next → (∀ c, c < B.next → B'.get c = B.get c) → ref05_Mem_Fetch.spec [.ptr b 5 0 0, W32 s.pc] (B'.rmem b cb wb tb r.m) = some (.tup [W16 h, .int .i64 0], B'.rmem b cb wb tb r.m)
end Go.Abs

/-
  The laws of gadgets: their helpers; which code each gadget is.
-/
import Derived.Test.YthignlpdeaglaaaJ16c
import Derived.Test.YthignlpdeaglaaaL19F
set_option linter.unusedSimpArgs false
set_option linter.unusedVariables false
namespace Go.Abs
theorem short19_eq (l : List (BitVec 32)) (hl : l.length ≤ 140737488351232) : law19_short.spec [.rsl 1 (w32s l)] = some (.rsl 1 (w32s (l.take 200))) := by
  by_cases h : (200 : Int) < l.length
  · have h2 : ¬ w32s (l.take 200) = [] := by intro e; have := congrArg List.length e; rw [w32s_length, List.length_take, List.length_nil] at this; omega
    simp -implicitDefEqProofs +contextual (disch := omega) [law19_short.spec, law19_short, h, w32s_take, h2, List.take_take]
  · have e : l.take 200 = l := List.take_of_length_le (by omega)
    rw [e]
    by_cases h2 : w32s l = []
    · simp -implicitDefEqProofs +contextual (disch := omega) [law19_short.spec, law19_short, h, h2]
    · simp -implicitDefEqProofs +contextual (disch := omega) [law19_short.spec, law19_short, h, h2]
theorem Small_eq (c : CodeM) (hb : c.outs.length ≤ 140737488351232) (hb2 : c.ops.length ≤ 140737488351232) : law19_Small.spec [.agg c.cells] = some (.bool (decide (c.ops.length ≤ 3000) && decide (c.outs.length ≤ 500))) := by
  unfold CodeM.cells
  simp -implicitDefEqProofs +contextual (disch := try first | omega | assumption | (simp; done)) [law19_Small.spec, law19_Small, pick_andG]
  rw [show decide ((c.ops.length : Int) ≤ 3000) = decide (c.ops.length ≤ 3000) from decide_eq_decide.2 (by omega), show decide ((c.outs.length : Int) ≤ 500) = decide (c.outs.length ≤ 500) from decide_eq_decide.2 (by omega)]
theorem g1_parts : (gadC true 1).inN = 4 ∧ (gadC true 1).ops.length = 9 ∧ (gadC true 1).outs.length = 2 ∧ (gadC true 1).randoms = 1 := by decide +kernel
theorem lives19 : law19_lives.spec [] = some (.bool true) := by
  have hA : isw_And.spec [.int .i64 1] = _ := And_eq 1 (by omega)
  obtain ⟨h1, h2, h3, h4⟩ := g1_parts
  have hR := Randoms_eq' (gadC true 1) (by rw [h2]; omega)
  rw [h4] at hR
  unfold CodeM.cells at hA hR
  generalize gadC true 1 = c at *
  rw [h1] at hA hR
  simp -implicitDefEqProofs +contextual (disch := omega) [law19_lives.spec, law19_lives, hA, hR, h2, h3]
theorem gad_small (and : Bool) (d : Nat) (h : d ≤ 6) : (gadC and d).ops.length ≤ 200 ∧ (gadC and d).outs.length = d + 1 := by
  refine ⟨?_, gad_outs and d h⟩
  have : d = 0 ∨ d = 1 ∨ d = 2 ∨ d = 3 ∨ d = 4 ∨ d = 5 ∨ d = 6 := by omega
  rcases this with rfl | rfl | rfl | rfl | rfl | rfl | rfl <;> cases and <;> decide +kernel
def noC : CodeM := ⟨0, [], []⟩
theorem noCode_eq : noCode = .agg noC.cells := rfl
theorem iswCodes_law (d : Int) (hI : I64 d) : law19_IswCodes.spec [.int .i64 d] = some (.bool true) := by
  by_cases h : 0 ≤ d ∧ d ≤ 6
  · obtain ⟨k, rfl⟩ : ∃ k : Nat, d = k := ⟨d.toNat, by omega⟩
    have hk : k ≤ 6 := by omega
    have a1 := And_eq k hk
    have a2 := rGadget_eq k hk true
    have b1 := Refresh_eq k hk
    have b2 := rGadget_eq k hk false
    obtain ⟨t1, t2⟩ := gad_small true k hk
    obtain ⟨t3, t4⟩ := gad_small false k hk
    have s1 := rSame_eq (gadC true k) (gadC true k) (by omega) (by omega)
    have s2 := rSame_eq (gadC false k) (gadC false k) (by omega) (by omega)
    have c1 := Can_eq' (gadC true k) (by omega) (by omega)
    have c2 := Can_eq' (gadC false k) (by omega) (by omega)
    have r1 := Randoms_eq' (gadC true k) (by omega)
    have r2 := Randoms_eq' (gadC false k) (by omega)
    rw [gad_can true k hk] at c1
    rw [gad_can false k hk] at c2
    rw [gad_randoms true k hk] at r1
    rw [gad_randoms false k hk] at r2
    simp only [decide_true] at s1 s2
    obtain ⟨q, hq, hq2, hq3⟩ : ∃ q : Nat, (k : Int) * ((k : Int) + 1) = q ∧ k * (k + 1) = q ∧ q ≤ 42 := ⟨k * (k + 1), by simp, rfl, Nat.le_trans (Nat.mul_le_mul hk (show k + 1 ≤ 7 by omega)) (by omega)⟩
    rw [hq2] at r1 r2
    unfold CodeM.cells at *
    generalize gadC true k = x at *
    generalize gadC false k = y at *
    simp -implicitDefEqProofs +contextual (disch := omega) [law19_IswCodes.spec, law19_IswCodes, a1, a2, b1, b2, s1, s2, c1, c2, r1, r2, lives19, hq]
  · have a1 := And_no d h
    have a2 := rGadget_no d h true
    have b1 := Refresh_no d h
    have b2 := rGadget_no d h false
    have s1 := rSame_eq noC noC (by simp [noC]) (by simp [noC])
    simp only [decide_true] at s1
    rw [noCode_eq] at *
    unfold CodeM.cells at *
    generalize noC = x at *
    simp -implicitDefEqProofs +contextual (disch := omega) [law19_IswCodes.spec, law19_IswCodes, a1, a2, b1, b2, s1, lives19]
end Go.Abs

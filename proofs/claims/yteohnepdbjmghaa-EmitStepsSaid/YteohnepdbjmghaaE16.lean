/-
  The law EmitSteps: which steps fit; the document's step is the program's.
-/
import Derived.Test.YteohnepdbjmghaaE15
import Derived.Test.YteohnepdbjmghaaJC
set_option linter.unusedSimpArgs false
set_option linter.unusedVariables false
namespace Go.Abs
open Th
noncomputable abbrev ftL := ref25_Fits.l0 ref19_Takes.spec
theorem slotOk_no (x : Int) : (slotOk x = false) ↔ (x < 0 ∨ 16000 < x) := by simp [slotOk]; omega
theorem fits_loop (l : List Int) (hl : l.length ≤ 1000000000) (v3 : AV) (X : AHeap) {r} (hr : aloop ftL (AFr.al [(2, .rsl 1 (ints l)), (3, v3), (7, .int .i64 0)]) X = r) :
    ∃ e fr' X', r = some (e, fr', X') ∧ (X' = X ∧ ((e = .exit 0 ∧ (l.any fun n => !slotOk n) = false ∧ ∃ y, fr' = AFr.al ([(2, .rsl 1 (ints l)), (3, v3)] ++ y)) ∨ (e = .ret ∧ (l.any fun n => !slotOk n) = true ∧ fr' 6 = .bool false))) := by
  refine run_of hr (aloop_each l.length (fun k fr H => H = X ∧ ((l.take k).any fun n => !slotOk n) = false ∧ ∃ y, fr = AFr.al ([(2, .rsl 1 (ints l)), (3, v3), (7, .int .i64 k)] ++ y)) _ (fun k hk fr H hR => ?_) (fun fr H hR => ?_) ⟨rfl, rfl, [], rfl⟩)
  · obtain ⟨rfl, h3, y, rfl⟩ := hR
    have hk' : (k : Int) < l.length := by omega
    have hk1 : ((k + 1 : Nat) : Int) = (k : Int) + 1 := by omega
    have hme : ati l k ∈ l := by rw [ati_eq l k hk]; exact List.getElem_mem hk
    have hss : ((l.take (k + 1)).any fun n => !slotOk n) = !slotOk (ati l k) := by rw [List.take_succ_eq_append_getElem hk, List.any_append, h3, ati_eq l k hk]; simp
    rw [hss]
    cases hv : slotOk (ati l k) with
    | false =>
      have hx := (slotOk_no _).1 hv
      by_cases h0 : ati l k < 0
      · refine ⟨_, _, _, by simp -implicitDefEqProofs +contextual (disch := omega) [ref25_Fits.l0, hk, hk', h0]; first | rfl | exact ⟨rfl, rfl⟩ | exact ⟨rfl, rfl, rfl⟩, .inr ⟨by simp, rfl, .inr ⟨rfl, List.any_eq_true.2 ⟨_, hme, by rw [hv]; rfl⟩, by simp⟩⟩⟩
      · have h1 : 16000 < ati l k := by omega
        refine ⟨_, _, _, by simp -implicitDefEqProofs +contextual (disch := omega) [ref25_Fits.l0, hk, hk', h0, h1]; first | rfl | exact ⟨rfl, rfl⟩ | exact ⟨rfl, rfl, rfl⟩, .inr ⟨by simp, rfl, .inr ⟨rfl, List.any_eq_true.2 ⟨_, hme, by rw [hv]; rfl⟩, by simp⟩⟩⟩
    | true =>
      have h0 : ¬ ati l k < 0 := fun e => by rw [(slotOk_no _).2 (.inl e)] at hv; cases hv
      have h1 : ¬ 16000 < ati l k := fun e => by rw [(slotOk_no _).2 (.inr e)] at hv; cases hv
      rw [hk1]
      refine ⟨_, _, _, by simp -implicitDefEqProofs +contextual (disch := omega) [ref25_Fits.l0, hk, hk', h0, h1]; first | rfl | exact ⟨rfl, rfl⟩ | exact ⟨rfl, rfl, rfl⟩, .inl ⟨rfl, rfl, rfl, _, rfl⟩⟩
  · obtain ⟨rfl, h3, y, rfl⟩ := hR
    rw [List.take_length] at h3
    refine ⟨_, _, _, by simp -implicitDefEqProofs +contextual (disch := omega) [ref25_Fits.l0]; first | rfl | exact ⟨rfl, rfl⟩ | exact ⟨rfl, rfl, rfl⟩, by simp, rfl, .inl ⟨rfl, h3, _, rfl⟩⟩
def numT (o : OpM) : Bool := decide (o.k = 7) || decide (o.n = 0#32) || decide (4 ≤ o.k ∧ o.k ≤ 6) && decide (o.n < 32#32)
def fitsR (o : OpM) (dst : Int) (src : List Int) : Bool := decide (0 ≤ o.k ∧ o.k ≤ 8) && decide ((src.length : Int) = takesM o.k) && slotOk dst && !(src.any fun n => !slotOk n) && numT o
theorem fitsR_eq (o : OpM) (dst : Int) (src : List Int) : fitsI o dst src = fitsR o dst src := by
  unfold fitsI fitsR
  by_cases hk : 0 ≤ o.k ∧ o.k ≤ 8
  · have ht : takesI o.k = takesM o.k := by
      unfold takesI takesM
      repeat' split
      all_goals omega
    have hc : (oneC o).can = numT o := by
      have h9 : o.k < 9 := by omega
      have hw : ∀ b, wireM 0 1 b = true := by intro b; cases b <;> rfl
      simp [oneC, CodeM.can, opsOk, OpM.ok, hk.1, h9, hw, numberM, numT]
      by_cases h7 : o.k = 7
      · simp [h7]
      · by_cases h4 : o.k = 4 ∨ o.k = 5 ∨ o.k = 6
        · have h46 : 4 ≤ o.k ∧ o.k ≤ 6 := by omega
          simp [h7, h4, h46, BitVec.lt_def]
          intro e; rw [e]; decide
        · have h46 : ¬ (4 ≤ o.k ∧ o.k ≤ 6) := by omega
          simp [h7, h4, h46]
    rw [hc, ht, decide_eq_true hk]
    generalize numT o = a
    generalize decide ((src.length : Int) = takesM o.k) = b
    generalize slotOk dst = c
    generalize (!(src.any fun n => !slotOk n)) = d
    cases a <;> cases b <;> cases c <;> cases d <;> rfl
  · have hc : (oneC o).can = false := by
      have : ¬ (0 ≤ o.k ∧ o.k < 9) := by omega
      simp [oneC, CodeM.can, opsOk, OpM.ok]
      intro h1 h2; omega
    rw [hc, decide_eq_false hk]; simp
theorem Fits_eq (o : OpM) (dst : Int) (src : List Int) (hl : src.length ≤ 1000000000) : ref25_Fits.spec [.agg o.cells, .int .i64 dst, .rsl 1 (ints src)] = some (.bool (fitsI o dst src)) := by
  rw [fitsR_eq]
  have ht := rtakes_eq o.k
  unfold fitsR OpM.cells
  by_cases h0 : o.k < 0
  · rw [decide_eq_false (by omega)]
    simp -implicitDefEqProofs +contextual (disch := omega) [ref25_Fits.spec, ref25_Fits, h0]
  by_cases h8 : 8 < o.k
  · rw [decide_eq_false (by omega)]
    simp -implicitDefEqProofs +contextual (disch := omega) [ref25_Fits.spec, ref25_Fits, h0, h8]
  rw [decide_eq_true (show 0 ≤ o.k ∧ o.k ≤ 8 by omega)]
  by_cases hlen : (src.length : Int) = takesM o.k
  · rw [decide_eq_true hlen]
    cases hs : slotOk dst with
    | false =>
      have hx := (slotOk_no _).1 hs
      by_cases hd0 : dst < 0
      · simp -implicitDefEqProofs +contextual (disch := omega) [ref25_Fits.spec, ref25_Fits, h0, h8, ht, hlen, hd0]
      · have hd1 : 16000 < dst := by omega
        simp -implicitDefEqProofs +contextual (disch := omega) [ref25_Fits.spec, ref25_Fits, h0, h8, ht, hlen, hd0, hd1]
    | true =>
      have hd0 : ¬ dst < 0 := fun e => by rw [(slotOk_no _).2 (.inl e)] at hs; cases hs
      have hd1 : ¬ 16000 < dst := fun e => by rw [(slotOk_no _).2 (.inr e)] at hs; cases hs
      generalize hr2 : ref25_Fits.spec _ = r2
      simp -implicitDefEqProofs +contextual (disch := omega) [ref25_Fits.spec, ref25_Fits, h0, h8, ht, hlen, hd0, hd1] at hr2
      generalize hr : aloop _ _ _ = r at hr2
      obtain ⟨e, fr', X', rfl, rfl, hq⟩ := fits_loop src hl _ _ hr
      rcases hq with ⟨rfl, hany, y, rfl⟩ | ⟨rfl, hany, h6⟩
      · rw [hany]
        unfold numT
        by_cases h7 : o.k = 7
        · simp -implicitDefEqProofs +contextual (disch := omega) [h7] at hr2
          subst hr2; simp [h7]
        · by_cases hn0 : o.n = 0#32
          · simp -implicitDefEqProofs +contextual (disch := omega) [h7, hn0] at hr2
            subst hr2; simp [hn0]
          · by_cases h4 : 4 ≤ o.k
            · by_cases h6 : o.k ≤ 6
              · by_cases h32 : o.n < 32#32
                · simp -implicitDefEqProofs +contextual (disch := omega) [h7, hn0, h4, h6, h32] at hr2
                  subst hr2; simp [h7, hn0, h4, h6, h32]
                · simp -implicitDefEqProofs +contextual (disch := omega) [h7, hn0, h4, h6, h32] at hr2
                  subst hr2; simp [h7, hn0, h4, h6, h32]
              · simp -implicitDefEqProofs +contextual (disch := omega) [h7, hn0, h4, h6] at hr2
                subst hr2; simp [h7, hn0, h4, h6]
            · simp -implicitDefEqProofs +contextual (disch := omega) [h7, hn0, h4] at hr2
              subst hr2; simp [h7, hn0, h4]
      · rw [hany]
        simp -implicitDefEqProofs +contextual (disch := omega) [h6] at hr2
        subst hr2; simp
  · rw [decide_eq_false hlen]
    simp -implicitDefEqProofs +contextual (disch := omega) [ref25_Fits.spec, ref25_Fits, h0, h8, ht, hlen]
end Go.Abs

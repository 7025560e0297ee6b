/-
  The gadgets: the program's functions; a round of pairs.
-/
import Derived.Test.YthignlpdeaglaaaJ8
set_option linter.unusedSimpArgs false
set_option linter.unusedVariables false
namespace Go.Abs
noncomputable abbrev reL0 := isw_Refresh.l0 isw_order.spec isw_pairs.spec isw_maker_add.spec isw_pairs_1.spec
noncomputable abbrev reE0 := isw_Refresh.e0 isw_order.spec isw_pairs.spec isw_maker_add.spec isw_pairs_1.spec
theorem ati_int (l : List Int) (i : Nat) (h : ∀ x ∈ l, 0 ≤ x) : ((ati l i).toNat : Int) = ati l i := by
  refine Int.toNat_of_nonneg ?_
  unfold ati
  rw [List.getD_eq_getElem?_getD]
  cases hg : l[i]? with
  | none => simp
  | some x => exact h x (List.mem_of_getElem? hg)
theorem re_round (fixed : List (Nat × Blk)) (h2 : (2, ⟨T.ty_p_isw_maker, 1, false, [[.ptr 1 3 0 0]]⟩) ∈ fixed) (d : Nat) (hd : d ≤ 6) (i j : Nat) (hij : i < j) (hj : j < d + 1) (X : AHeap) (vo vu : AV) (s : GadS)
    (h : MkI fixed 1 (d + 1) X vo vu s.ops s.outs) (hl : s.outs.length = d + 1) (hn : ∀ x ∈ s.outs, 0 ≤ x) (hol : s.ops.length ≤ 1000) (fr : AFr) (h4 : fr 4 = .ptr 2 1 0 0) :
    ∃ fr' X' vo', reE0 (fr.puts [38, 39] [.int .i64 i, .int .i64 j]) X = some (.normal, fr', X') ∧ MkI fixed 1 (d + 1) X' vo' vu (gadPair false d s (i, j)).ops (gadPair false d s (i, j)).outs := by
  obtain ⟨ops, outs⟩ := s
  dsimp only at *
  have hi : i < outs.length := by omega
  have hj' : j < outs.length := by omega
  have hi' : (i : Int) < outs.length := by omega
  have hj'' : (j : Int) < outs.length := by omega
  have g2 := (h.fx _ _ h2).2
  obtain ⟨f, gm⟩ := h.gm
  obtain ⟨ub, rfl, gu, ub1, ub2⟩ := h.out (by omega)
  have ub3 := ub2 _ _ h2
  obtain ⟨N, hN⟩ : ∃ N : Int, ((d + 1 : Nat) : Int) + ops.length = N := ⟨_, rfl⟩
  obtain ⟨N1, hN1⟩ : ∃ N1 : Int, N1 = N + 1 := ⟨_, rfl⟩
  obtain ⟨N2, hN2⟩ : ∃ N2 : Int, N2 = N + 2 := ⟨_, rfl⟩
  obtain ⟨X1, o1, e1, I1, n1⟩ := h.add (by omega) (by omega) N hN 0 [] (by simp)
  obtain ⟨f1, gm1⟩ := I1.gm
  have g21 := (I1.fx _ _ h2).2
  obtain ⟨_, w1, gu1, _, _⟩ := I1.out (by omega)
  cases w1
  have w1 := I1.wf
  have I1' := I1.tmp ⟨T.ty_int, 1, true, ints [ati outs i, N]⟩
  obtain ⟨X2, o2, e2, I2, n2⟩ := I1'.add (by omega) (by simp; omega) N1 (by simp; omega) 2 [ati outs i, N] (by simp)
  have I3 := I2.turn rfl i N1 hi
  obtain ⟨f2, gm2⟩ := I2.gm
  have g22 := (I2.fx _ _ h2).2
  obtain ⟨_, w2, gu2, _, _⟩ := I2.out (by omega)
  cases w2
  have hnj : ati (outs.set i N1) j = ati outs j := by rw [ati_set _ _ _ _ hi, if_neg (by omega)]
  have w2 := I2.wf
  have w3 := I3.wf
  have hub : ub < X2.next := w2 _ _ gu2
  have I3' := I3.tmp ⟨T.ty_int, 1, true, ints [ati outs j, N]⟩
  obtain ⟨X4, o4, e4, I4, n4⟩ := I3'.add (by omega) (by simp; omega) N2 (by simp; omega) 2 [ati outs j, N] (by simp)
  have I5 := I4.turn (ob := ub) (by simp) j N2 (by simpa using hj')
  obtain ⟨f4, gm4⟩ := I4.gm
  have g24 := (I4.fx _ _ h2).2
  obtain ⟨_, w4, gu4, _, _⟩ := I4.out (by simp; omega)
  simp only [List.length_set, AV.sl.injEq, and_true] at w4
  subst w4
  have w4 := I4.wf
  simp only [ints0, ints1, ints2, next_killAll, AHeap.next_push, AHeap.next_set] at e1 e2 e4 n1 n2 n4
  refine ⟨?_, ?_, ?_, ?_, ?_⟩
  rotate_left; rotate_left; rotate_left
  · simp -implicitDefEqProofs +contextual (disch := try first | omega | assumption | (simp only [AHeap.next_push, AHeap.next_set, next_killAll]; omega)) [isw_Refresh.e0, athen, AFr.puts, AFr.upd, h4, g2, gm, gu, e1, gm1, g21, gu1, e2, gm2, g22, gu2, hi, hi', hj', hj'', san_wf, w1, w2, w3, w4, ub1, ub3, e4, gm4, g24, gu4, hnj]
    constructor <;> rfl
  · have e1 : (N : Int) = ((d + 1 + ops.length : Nat) : Int) := by omega
    have e : gadPair false d ⟨ops, outs⟩ (i, j) = ⟨ops ++ [addO 0 []] ++ [addO 2 [ati outs i, N]] ++ [addO 2 [ati outs j, N]], (outs.set i N1).set j N2⟩ := by
      unfold gadPair
      rw [hN2, hN1, e1]
      simp [addO0, addO2, opM, outN, gadIn, ati_int outs _ hn]
      try omega
    rw [e]
    exact I5
end Go.Abs

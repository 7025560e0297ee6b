/-
  The gadgets: a round of And's pairs; printed by genj10.py.
-/
import Derived.Test.YthignlpdeaglaaaJ9
set_option linter.unusedSimpArgs false
set_option linter.unusedVariables false
namespace Go.Abs
noncomputable abbrev anL0 := isw_And.l0 isw_order.spec isw_maker_add.spec isw_pairs.spec isw_pairs_1.spec isw_And_1.spec
noncomputable abbrev anE0 := isw_And.e0 isw_order.spec isw_maker_add.spec isw_pairs.spec isw_pairs_1.spec isw_And_1.spec
theorem and1_eq (X : AHeap) (hX : X.WF) (d : Nat) (hd : d ≤ 6) (j : Nat) (hj : j ≤ 6) (N : Int) (hN : N = (d : Int) + 1 + j) (h : X.get 0 = some ⟨T.ty_int, 1, true, [[.int .i64 d]]⟩) : isw_And_1.spec [.int .i64 j, .ptr 0 1 0 0] X = some (.int .i64 N, X) := by
  subst hN
  have e : isw_And_1.spec [.int .i64 j, .ptr 0 1 0 0] X = forget X (some ([.int .i64 ((d : Int) + 1 + j)], X)) := by
    simp -implicitDefEqProofs +contextual (disch := omega) [isw_And_1.spec, isw_And_1, h]
  rw [e, forget_eq hX (Nat.le_refl _) (fun _ _ => rfl) rfl]
  rfl
def clo51 : Blk := ⟨T.ty_func_int_int, 1, false, [[.clo 51 [] [.ptr 0 1 0 0]]]⟩
theorem and_C (a : SpecP) (b c : SpecM) (d : SpecI) (e : SpecM) : isw_And.C a b c d e 51 = some (.ref [false] e) := by simp [isw_And.C, Tab.add]
set_option maxHeartbeats 4000000 in
theorem an_round (fixed : List (Nat × Blk)) (d : Nat) (h0 : (0, ⟨T.ty_int, 1, true, [[.int .i64 (d : Nat)]]⟩) ∈ fixed) (h3 : (3, ⟨T.ty_p_isw_maker, 1, false, [[.ptr 2 3 0 0]]⟩) ∈ fixed) (h4 : (4, clo51) ∈ fixed) (hd : d ≤ 6) (i j : Nat) (hij : i < j) (hj : j < d + 1) (X0 : AHeap) (vo vu : AV) (s : GadS)
    (I0 : MkI fixed 2 (2 * (d + 1)) X0 vo vu s.ops s.outs) (hl : s.outs.length = d + 1) (hn : ∀ x ∈ s.outs, 0 ≤ x) (hol : s.ops.length ≤ 1000) (fr : AFr) (f4 : fr 4 = .ptr 3 1 0 0) (f5 : fr 5 = .ptr 4 1 0 0) :
    ∃ fr' X' vo', anE0 (fr.puts [49, 50] [.int .i64 i, .int .i64 j]) X0 = some (.normal, fr', X') ∧ MkI fixed 2 (2 * (d + 1)) X' vo' vu (gadPair true d s (i, j)).ops (gadPair true d s (i, j)).outs := by
  obtain ⟨ops, outs⟩ := s
  dsimp only at *
  have hi : i < outs.length := by omega
  have hj' : j < outs.length := by omega
  have hi' : (i : Int) < outs.length := by omega
  have hj'' : (j : Int) < outs.length := by omega
  obtain ⟨ub, rfl, gu0, ub1, ub2⟩ := I0.out (by omega)
  have ub3 := ub2 _ _ h3
  have ub4 := ub2 _ _ h4
  have ub0 := ub2 _ _ h0
  obtain ⟨N, hN⟩ : ∃ N : Int, ((2 * (d + 1) : Nat) : Int) + ops.length = N := ⟨_, rfl⟩
  obtain ⟨N1, hN1⟩ : ∃ x : Int, x = N + 1 := ⟨_, rfl⟩
  obtain ⟨N2, hN2⟩ : ∃ x : Int, x = N + 2 := ⟨_, rfl⟩
  obtain ⟨N3, hN3⟩ : ∃ x : Int, x = N + 3 := ⟨_, rfl⟩
  obtain ⟨N4, hN4⟩ : ∃ x : Int, x = N + 4 := ⟨_, rfl⟩
  obtain ⟨N5, hN5⟩ : ∃ x : Int, x = N + 5 := ⟨_, rfl⟩
  obtain ⟨N6, hN6⟩ : ∃ x : Int, x = N + 6 := ⟨_, rfl⟩
  obtain ⟨Bj, hBj⟩ : ∃ x : Int, x = (d : Int) + 1 + j := ⟨_, rfl⟩
  obtain ⟨Bi, hBi⟩ : ∃ x : Int, x = (d : Int) + 1 + i := ⟨_, rfl⟩
  obtain ⟨fl0, gm0⟩ := I0.gm
  have g00 := (I0.fx _ _ h0).2
  have g30 := (I0.fx _ _ h3).2
  have g40 := (I0.fx _ _ h4).2
  have w0 := I0.wf
  have u0 : X0.get ub = some ⟨T.ty_int, 1, true, ints outs⟩ := by
    obtain ⟨_, q1, q2, _, _⟩ := I0.out (by first | omega | (simp; omega))
    simp only [List.length_set, AV.sl.injEq, and_true, true_and] at q1
    subst q1; exact q2
  simp only [clo51] at g40
  have hb0 := w0 _ _ u0
  obtain ⟨X1, o1, e1, I1, n1⟩ := I0.add (by omega) (by first | omega | (simp; omega)) N (by first | omega | (simp; omega)) 0 [] (by simp)
  simp only [ints0, ints1, ints2, next_killAll, AHeap.next_push, AHeap.next_set] at e1 n1
  obtain ⟨fl1, gm1⟩ := I1.gm
  have g01 := (I1.fx _ _ h0).2
  have g31 := (I1.fx _ _ h3).2
  have g41 := (I1.fx _ _ h4).2
  have w1 := I1.wf
  have u1 : X1.get ub = some ⟨T.ty_int, 1, true, ints outs⟩ := by
    obtain ⟨_, q1, q2, _, _⟩ := I1.out (by first | omega | (simp; omega))
    simp only [List.length_set, AV.sl.injEq, and_true, true_and] at q1
    subst q1; exact q2
  simp only [clo51] at g41
  have hb1 := w1 _ _ u1
  have c1 := and1_eq X1 w1 d hd j (by omega) Bj hBj g01
  have T2 := I1.tmp ⟨T.ty_int, 1, true, ints [(i : Int), Bj]⟩
  obtain ⟨X2, o2, e2, I2, n2⟩ := T2.add (by omega) (by first | omega | (simp; omega)) N1 (by first | omega | (simp; omega)) 1 [(i : Int), Bj] (by simp)
  simp only [ints0, ints1, ints2, next_killAll, AHeap.next_push, AHeap.next_set] at e2 n2
  obtain ⟨fl2, gm2⟩ := I2.gm
  have g02 := (I2.fx _ _ h0).2
  have g32 := (I2.fx _ _ h3).2
  have g42 := (I2.fx _ _ h4).2
  have w2 := I2.wf
  have u2 : X2.get ub = some ⟨T.ty_int, 1, true, ints outs⟩ := by
    obtain ⟨_, q1, q2, _, _⟩ := I2.out (by first | omega | (simp; omega))
    simp only [List.length_set, AV.sl.injEq, and_true, true_and] at q1
    subst q1; exact q2
  simp only [clo51] at g42
  have hb2 := w2 _ _ u2
  have T3 := I2.tmp ⟨T.ty_int, 1, true, ints [N, N1]⟩
  obtain ⟨X3, o3, e3, I3, n3⟩ := T3.add (by omega) (by first | omega | (simp; omega)) N2 (by first | omega | (simp; omega)) 2 [N, N1] (by simp)
  simp only [ints0, ints1, ints2, next_killAll, AHeap.next_push, AHeap.next_set] at e3 n3
  obtain ⟨fl3, gm3⟩ := I3.gm
  have g03 := (I3.fx _ _ h0).2
  have g33 := (I3.fx _ _ h3).2
  have g43 := (I3.fx _ _ h4).2
  have w3 := I3.wf
  have u3 : X3.get ub = some ⟨T.ty_int, 1, true, ints outs⟩ := by
    obtain ⟨_, q1, q2, _, _⟩ := I3.out (by first | omega | (simp; omega))
    simp only [List.length_set, AV.sl.injEq, and_true, true_and] at q1
    subst q1; exact q2
  simp only [clo51] at g43
  have hb3 := w3 _ _ u3
  have c3 := and1_eq X3 w3 d hd i (by omega) Bi hBi g03
  have T4 := I3.tmp ⟨T.ty_int, 1, true, ints [(j : Int), Bi]⟩
  obtain ⟨X4, o4, e4, I4, n4⟩ := T4.add (by omega) (by first | omega | (simp; omega)) N3 (by first | omega | (simp; omega)) 1 [(j : Int), Bi] (by simp)
  simp only [ints0, ints1, ints2, next_killAll, AHeap.next_push, AHeap.next_set] at e4 n4
  obtain ⟨fl4, gm4⟩ := I4.gm
  have g04 := (I4.fx _ _ h0).2
  have g34 := (I4.fx _ _ h3).2
  have g44 := (I4.fx _ _ h4).2
  have w4 := I4.wf
  have u4 : X4.get ub = some ⟨T.ty_int, 1, true, ints outs⟩ := by
    obtain ⟨_, q1, q2, _, _⟩ := I4.out (by first | omega | (simp; omega))
    simp only [List.length_set, AV.sl.injEq, and_true, true_and] at q1
    subst q1; exact q2
  simp only [clo51] at g44
  have hb4 := w4 _ _ u4
  have T5 := I4.tmp ⟨T.ty_int, 1, true, ints [N2, N3]⟩
  obtain ⟨X5, o5, e5, I5, n5⟩ := T5.add (by omega) (by first | omega | (simp; omega)) N4 (by first | omega | (simp; omega)) 2 [N2, N3] (by simp)
  simp only [ints0, ints1, ints2, next_killAll, AHeap.next_push, AHeap.next_set] at e5 n5
  obtain ⟨fl5, gm5⟩ := I5.gm
  have g05 := (I5.fx _ _ h0).2
  have g35 := (I5.fx _ _ h3).2
  have g45 := (I5.fx _ _ h4).2
  have w5 := I5.wf
  have u5 : X5.get ub = some ⟨T.ty_int, 1, true, ints outs⟩ := by
    obtain ⟨_, q1, q2, _, _⟩ := I5.out (by first | omega | (simp; omega))
    simp only [List.length_set, AV.sl.injEq, and_true, true_and] at q1
    subst q1; exact q2
  simp only [clo51] at g45
  have hb5 := w5 _ _ u5
  have T6 := I5.tmp ⟨T.ty_int, 1, true, ints [ati outs i, N]⟩
  obtain ⟨X6, o6, e6, I6, n6⟩ := T6.add (by omega) (by first | omega | (simp; omega)) N5 (by first | omega | (simp; omega)) 2 [ati outs i, N] (by simp)
  simp only [ints0, ints1, ints2, next_killAll, AHeap.next_push, AHeap.next_set] at e6 n6
  obtain ⟨fl6, gm6⟩ := I6.gm
  have g06 := (I6.fx _ _ h0).2
  have g36 := (I6.fx _ _ h3).2
  have g46 := (I6.fx _ _ h4).2
  have w6 := I6.wf
  have u6 : X6.get ub = some ⟨T.ty_int, 1, true, ints outs⟩ := by
    obtain ⟨_, q1, q2, _, _⟩ := I6.out (by first | omega | (simp; omega))
    simp only [List.length_set, AV.sl.injEq, and_true, true_and] at q1
    subst q1; exact q2
  simp only [clo51] at g46
  have hb6 := w6 _ _ u6
  have I6' := I6.turn (ob := ub) rfl i N5 hi
  have w6' := I6'.wf
  have hnj : ati (outs.set i N5) j = ati outs j := by rw [ati_set _ _ _ _ hi, if_neg (by omega)]
  have T7 := I6'.tmp ⟨T.ty_int, 1, true, ints [ati outs j, N4]⟩
  obtain ⟨X7, o7, e7, I7, n7⟩ := T7.add (by omega) (by first | omega | (simp; omega)) N6 (by first | omega | (simp; omega)) 2 [ati outs j, N4] (by simp)
  simp only [ints0, ints1, ints2, next_killAll, AHeap.next_push, AHeap.next_set] at e7 n7
  obtain ⟨fl7, gm7⟩ := I7.gm
  have g07 := (I7.fx _ _ h0).2
  have g37 := (I7.fx _ _ h3).2
  have g47 := (I7.fx _ _ h4).2
  have w7 := I7.wf
  have u7 : X7.get ub = some ⟨T.ty_int, 1, true, ints (outs.set i N5)⟩ := by
    obtain ⟨_, q1, q2, _, _⟩ := I7.out (by first | omega | (simp; omega))
    simp only [List.length_set, AV.sl.injEq, and_true, true_and] at q1
    subst q1; exact q2
  simp only [clo51] at g47
  have hb7 := w7 _ _ u7
  have I8 := I7.turn (ob := ub) (by simp) j N6 (by simpa using hj')
  refine ⟨?_, ?_, ?_, ?_, ?_⟩
  rotate_left; rotate_left; rotate_left
  · simp -implicitDefEqProofs +contextual (disch := try first | omega | assumption | (simp only [AHeap.next_push, AHeap.next_set, next_killAll]; omega)) [isw_And.e0, athen, AFr.puts, AFr.upd, f4, f5, acallClo, acallR, and_C, hi, hi', hj', hj'', san_wf, ub0, ub1, ub3, ub4, gm0, g00, g30, g40, u0, e1, gm1, g01, g31, g41, u1, c1, e2, gm2, g02, g32, g42, u2, e3, gm3, g03, g33, g43, u3, c3, e4, gm4, g04, g34, g44, u4, e5, gm5, g05, g35, g45, u5, e6, gm6, g06, g36, g46, u6, hnj, e7, gm7, g07, g37, g47, u7]
    constructor <;> rfl
  · have e1 : N = ((2 * (d + 1) + ops.length : Nat) : Int) := by omega
    have e : gadPair true d ⟨ops, outs⟩ (i, j) = ⟨(((((((ops ++ [addO 0 []]) ++ [addO 1 [(i : Int), Bj]]) ++ [addO 2 [N, N1]]) ++ [addO 1 [(j : Int), Bi]]) ++ [addO 2 [N2, N3]]) ++ [addO 2 [ati outs i, N]]) ++ [addO 2 [ati outs j, N4]]), (outs.set i N5).set j N6⟩ := by
      unfold gadPair
      rw [hBi, hBj, hN6, hN5, hN4, hN3, hN2, hN1, e1]
      simp [addO0, addO2, opM, outN, gadIn, ati_int outs _ hn]
      try omega
    rw [e]
    exact I8
end Go.Abs

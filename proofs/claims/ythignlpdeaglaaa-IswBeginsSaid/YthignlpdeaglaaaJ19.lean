/-
  The law of what goes out of gadgets.
-/
import Derived.Test.YthignlpdeaglaaaJ18
set_option linter.unusedSimpArgs false
set_option linter.unusedVariables false
namespace Go.Abs
theorem Join_eq (l : List (BitVec 32)) (hl : l.length ≤ 1000000000) : ref18_Join.spec [.rsl 1 (w32s l)] = some (W32 (xorL l)) := by
  simp -implicitDefEqProofs +contextual (disch := omega) [ref18_Join.spec, ref18_Join]
  generalize hr : aloop _ _ _ = r
  obtain ⟨e, fr', X', rfl, rfl, hq⟩ : ∃ e fr' X', r = some (e, fr', X') ∧ (e = .exit 0 ∧ fr' 3 = W32 (xorL l)) := by
    refine run_of hr (aloop_each l.length (fun k fr H => ∃ y, fr = AFr.al ([(0, .rsl 1 (w32s l)), (3, W32 (xorL (l.take k))), (4, .int .i64 k)] ++ y)) _ (fun k hk fr H hR => ?_) (fun fr H hR => ?_) ⟨[], rfl⟩)
    · obtain ⟨y, rfl⟩ := hR
      have hk' : (k : Int) < l.length := by omega
      have hk1 : ((k + 1 : Nat) : Int) = (k : Int) + 1 := by omega
      have e : xorL (l.take (k + 1)) = xorL (l.take k) ^^^ at0 l k := by
        rw [List.take_succ_eq_append_getElem hk, xorL_append, at0_eq l k hk]; simp [xorL_cons]
      rw [e, hk1]
      refine ⟨_, _, _, by simp -implicitDefEqProofs +contextual (disch := omega) [ref18_Join.l0, hk']; first | rfl | exact ⟨rfl, rfl⟩ | exact ⟨rfl, rfl, rfl⟩, .inl ⟨rfl, _, rfl⟩⟩
    · obtain ⟨y, rfl⟩ := hR
      refine ⟨_, _, _, by simp -implicitDefEqProofs +contextual (disch := omega) [ref18_Join.l0]; first | rfl | exact ⟨rfl, rfl⟩ | exact ⟨rfl, rfl, rfl⟩, by simp, rfl, by simp⟩
  simp -implicitDefEqProofs +contextual (disch := omega) [hq]
theorem At_eq (l : List (BitVec 32)) (i : Nat) (hi : i ≤ 1000000000) (hl : l.length ≤ 140737488351232) : ref18_At.spec [.rsl 1 (w32s l), .int .i64 i] = some (W32 (at0 l i)) := by
  by_cases h : i < l.length
  · have h' : (i : Int) < l.length := by omega
    simp -implicitDefEqProofs +contextual (disch := omega) [ref18_At.spec, ref18_At, h, h']
  · have h' : ¬ (i : Int) < l.length := by omega
    have e : at0 l i = 0#32 := by simp [at0, List.getD_eq_getElem?_getD, List.getElem?_eq_none (show l.length ≤ i by omega)]
    simp -implicitDefEqProofs +contextual (disch := omega) [ref18_At.spec, ref18_At, h, h', e]
def wordsM (l : List (BitVec 32)) (from_ many : Nat) : List (BitVec 32) := (List.range many).map fun i => at0 l (from_ + i)
theorem wordsM_succ (l : List (BitVec 32)) (f m : Nat) : wordsM l f (m + 1) = wordsM l f m ++ [at0 l (f + m)] := by
  unfold wordsM; rw [List.range_succ, List.map_append]; rfl
@[simp] theorem wordsM_length (l : List (BitVec 32)) (f m : Nat) : (wordsM l f m).length = m := by simp [wordsM]
theorem words_eq (l : List (BitVec 32)) (f m : Nat) (hf : f ≤ 1000) (hm : m ≤ 1000) (hl : l.length ≤ 140737488351232) : law19_words.spec [.rsl 1 (w32s l), .int .i64 f, .int .i64 m] = some (.rsl 1 (w32s (wordsM l f m))) := by
  simp -implicitDefEqProofs +contextual (disch := omega) [law19_words.spec, law19_words]
  generalize hr : aloop _ _ _ = r
  obtain ⟨e, fr', X', rfl, rfl, ob, hq, hq2⟩ : ∃ e fr' X', r = some (e, fr', X') ∧ (e = .exit 0 ∧ ∃ ob, fr' 7 = .sl ob 1 0 m ∧ X'.get ob = some ⟨T.ty_uint32, 1, true, w32s (wordsM l f m)⟩) := by
    refine run_of hr (aloop_each m (fun k fr H => ∃ y ob, fr = AFr.al ([(0, .rsl 1 (w32s l)), (1, .int .i64 f), (2, .int .i64 m), (7, .sl ob 1 0 k), (8, .int .i64 k)] ++ y) ∧ H.WF ∧ H.get ob = some ⟨T.ty_uint32, 1, true, w32s (wordsM l f k)⟩) _ (fun k hk fr H hR => ?_) (fun fr H hR => ?_) ⟨[], 0, by simp, ?_, by simp [wordsM, w32s]⟩)
    · obtain ⟨y, ob, rfl, hw, gb⟩ := hR
      have hk' : (k : Int) < m := by omega
      have hk1 : ((k + 1 : Nat) : Int) = (k : Int) + 1 := by omega
      have hbo := hw _ _ gb
      have hA := At_eq l (f + k) (by omega) hl
      have hfk : ((f + k : Nat) : Int) = (f : Int) + k := by omega
      rw [hfk] at hA
      rw [wordsM_succ, hk1]
      have hlen : (wordsM l f k).length = k := by simp
      generalize wordsM l f k = u at *
      subst hlen
      refine ⟨_, _, _, by simp -implicitDefEqProofs +contextual (disch := omega) [law19_words.l0, gb, hk', hA]; first | rfl | exact ⟨rfl, rfl⟩ | exact ⟨rfl, rfl, rfl⟩, .inl ⟨rfl, _, _, rfl, ?_, ?_⟩⟩
      · (repeat' (first | assumption | with_reducible apply AHeap.WF.push | with_reducible apply AHeap.WF.set | with_reducible apply killAll_wf | exact AHeap.WF.empty)) <;> (simp <;> omega)
      · simp (disch := omega) [w32s_snoc]
    · obtain ⟨y, ob, rfl, hw, gb⟩ := hR
      refine ⟨_, _, _, by simp -implicitDefEqProofs +contextual (disch := omega) [law19_words.l0]; first | rfl | exact ⟨rfl, rfl⟩ | exact ⟨rfl, rfl, rfl⟩, by simp, rfl, ob, by simp, gb⟩
    · (repeat' (first | assumption | with_reducible apply AHeap.WF.push | with_reducible apply AHeap.WF.set | with_reducible apply killAll_wf | exact AHeap.WF.empty)) <;> (simp <;> omega)
  have ht : (w32s (wordsM l f m)).take m = w32s (wordsM l f m) := List.take_of_length_le (by simp)
  simp -implicitDefEqProofs +contextual (disch := omega) [hq, hq2, ht]
theorem padM_self (l : List (BitVec 32)) : padM l l.length = l := by
  apply List.ext_getElem?
  intro i
  by_cases h : i < l.length
  · simp [padM, h, at0, List.getD_eq_getElem?_getD]
  · rw [List.getElem?_eq_none (by simp; omega), List.getElem?_eq_none (by omega)]
theorem gad_exec (and : Bool) (n : Nat) (hn : n ≤ 6) (inp tape : List (BitVec 32)) (hi : inp.length = gadIn and n) (ht : tape.length = n * (n + 1) / 2) : (gadC and n).exec inp tape = (runOps (gadS and n).ops inp tape, true) := by
  unfold CodeM.exec
  rw [if_pos ⟨gad_can and n hn, by rw [gad_randoms and n hn, ht]; exact Nat.le_refl _⟩]
  have e : (gadC and n).inN.toNat = inp.length := by rw [hi]; simp [gadC]
  rw [e, padM_self]; rfl
theorem xorL_words (l : List (BitVec 32)) (f m : Nat) : xorL (wordsM l f m) = xorL ((List.range m).map fun i => at0 (wordsM l f m) i) := by
  congr 1
  unfold wordsM
  apply List.map_congr_left
  intro i hi
  rw [at0_map _ _ _ (by simpa using hi)]
set_option maxHeartbeats 4000000 in
theorem iswRight_law (d : BitVec 8) (inp tape : List (BitVec 32)) (hi : inp.length ≤ 35184372087808) (ht : tape.length ≤ 35184372087808) : law19_IswRight.spec [W8 d, .rsl 1 (w32s inp), .rsl 1 (w32s tape)] = some (.bool true) := by
  obtain ⟨n, hn⟩ : ∃ n, n = d.toNat % 7 := ⟨_, rfl⟩
  have hn6 : n ≤ 6 := by omega
  have hdn : (d.toNat : Int) % 7 = n := by omega
  obtain ⟨q, hq, hq2, hq3⟩ : ∃ q : Nat, (n : Int) * ((n : Int) + 1) = q ∧ n * (n + 1) = q ∧ q ≤ 42 := ⟨n * (n + 1), by simp, rfl, Nat.le_trans (Nat.mul_le_mul hn6 (show n + 1 ≤ 7 by omega)) (by omega)⟩
  have h1 := words_eq inp 0 (n + 1) (by omega) (by omega) (by omega)
  have h2 := words_eq inp (n + 1) (n + 1) (by omega) (by omega) (by omega)
  have h3 := words_eq tape 0 (q / 2) (by omega) (by omega) (by omega)
  have hA := And_eq n hn6
  have hR := Refresh_eq n hn6
  have l1 : (wordsM inp 0 (n + 1)).length = n + 1 := by simp
  have l2 : (wordsM inp (n + 1) (n + 1)).length = n + 1 := by simp
  have l3 : (wordsM tape 0 (q / 2)).length = q / 2 := by simp
  have x1 := xorL_words inp 0 (n + 1)
  have x2 := xorL_words inp (n + 1) (n + 1)
  generalize wordsM inp 0 (n + 1) = a at *
  generalize wordsM inp (n + 1) (n + 1) = b at *
  generalize wordsM tape 0 (q / 2) = t at *
  obtain ⟨t1, t2⟩ := gad_small true n hn6
  obtain ⟨t3, t4⟩ := gad_small false n hn6
  have e1 := Exec_eq (gadC true n) (a ++ b) t (by omega) (by omega) (by simp; omega) (by omega)
  have e2 := Exec_eq (gadC false n) a t (by omega) (by omega) (by omega) (by omega)
  rw [gad_exec true n hn6 (a ++ b) t (by simp [gadIn]; omega) (by omega)] at e1
  rw [gad_exec false n hn6 a t (by simp [gadIn]; omega) (by omega)] at e2
  have g1 := gad_out true n (a ++ b) t _ (gadS_ok_and n (a ++ b) t (by simp; omega))
  have g2 := gad_out false n a t _ (gadS_ok_fresh n a t (by omega))
  have y1 : (List.range (n + 1)).map (fun i => at0 (a ++ b) i) = (List.range (n + 1)).map fun i => at0 a i := by
    apply List.map_congr_left; intro i hi; exact at0_lt _ _ _ (by rw [l1]; simpa using hi)
  have y2 : (List.range (n + 1)).map (fun i => at0 (a ++ b) (n + 1 + i)) = (List.range (n + 1)).map fun i => at0 b i := by
    apply List.map_congr_left; intro i hi; rw [← l1]; exact at0_ge _ _ _
  rw [y1, y2, ← x1, ← x2] at g1
  rw [← x1] at g2
  have r1 : (runOps (gadC true n).ops (a ++ b) t).length ≤ 10000 := by rw [runOps_length, List.length_append]; omega
  have r2 : (runOps (gadC false n).ops a t).length ≤ 10000 := by rw [runOps_length]; omega
  have o1 := Outs_eq (gadC true n) (runOps (gadC true n).ops (a ++ b) t) (by omega) (by omega) (by omega)
  have o2 := Outs_eq (gadC false n) (runOps (gadC false n).ops a t) (by omega) (by omega) (by omega)
  have z1 : ((gadC true n).outsM (runOps (gadC true n).ops (a ++ b) t)).length = n + 1 := by simp [CodeM.outsM, t2]
  have z2 : ((gadC false n).outsM (runOps (gadC false n).ops a t)).length = n + 1 := by simp [CodeM.outsM, t4]
  have hs1 : (gadS true n).ops = (gadC true n).ops := rfl
  have hs2 : (gadS false n).ops = (gadC false n).ops := rfl
  rw [hs1] at e1
  rw [hs2] at e2
  generalize runOps (gadC true n).ops (a ++ b) t = w1 at *
  generalize runOps (gadC false n).ops a t = w2 at *
  have j1 := Join_eq ((gadC true n).outsM w1) (by omega)
  have j2 := Join_eq ((gadC false n).outsM w2) (by omega)
  have j3 := Join_eq a (by omega)
  have j4 := Join_eq b (by omega)
  rw [g1] at j1
  rw [g2] at j2
  generalize (gadC true n).outsM w1 = u1 at *
  generalize (gadC false n).outsM w2 = u2 at *
  have hne : ¬ w32s a = [] := by intro e; have := congrArg List.length e; rw [w32s_length, l1] at this; simp at this
  have hne2 : ¬ w32s b = [] := by intro e; have := congrArg List.length e; rw [w32s_length, l2] at this; simp at this
  have ht1 : (w32s a ++ w32s b).take (n + 1 + (n + 1)) = w32s a ++ w32s b := List.take_of_length_le (by simp; omega)
  have hq4 : ((q / 2 : Nat) : Int) = (q : Int) / 2 := by omega
  rw [hq4] at h3
  have hnn : ((n + 1 : Nat) : Int) = (n : Int) + 1 := by omega
  rw [hnn] at h1 h2
  simp only [Int.natCast_zero] at h1 h3
  have hcat : w32s (a ++ b) = w32s a ++ w32s b := (w32s_append a b).symm
  rw [hcat] at e1
  unfold CodeM.cells at *
  generalize gadC true n = c1 at *
  generalize gadC false n = c2 at *
  simp -implicitDefEqProofs +contextual (disch := omega) [law19_IswRight.spec, law19_IswRight, hdn, hq, h1, h2, h3, hA, hR, l1, l2, hne, hne2, ht1, e1, e2, o1, o2, j1, j2, j3, j4, z1, z2, lives19]
  done
theorem law19_IswRight_law (args : List AV) (h : ArgsSh [(false, [.int .u8]), (false, [.sl 1 4 [.int .u32]]), (false, [.sl 1 4 [.int .u32]])] args) : law19_IswRight.spec args = some (.bool true) := by
  obtain ⟨a, _, rfl, h1, h⟩ := args_one h
  obtain ⟨b, _, rfl, h2, h⟩ := args_one h
  obtain ⟨c, _, rfl, h3, h⟩ := args_one h
  obtain rfl := args_nil h
  obtain ⟨z, rfl⟩ := sh_u8 h1.1
  obtain ⟨x, rfl, hx⟩ := sh_sl32' h2
  obtain ⟨y, rfl, hy⟩ := sh_sl32' h3
  exact iswRight_law z x y hx hy
end Go.Abs

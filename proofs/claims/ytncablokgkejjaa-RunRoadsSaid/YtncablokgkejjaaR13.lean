/-
  The laws of runs: cycles, the document's; the law.
-/
import Derived.Test.YtncablokgkejjaaR12
import Derived.Test.YtncablokgkejjaaT6
set_option linter.unusedSimpArgs false
set_option linter.unusedVariables false
namespace Go.Abs
open Th
def ValidL (l : LeakM) : Prop := ∃ i : InsM, i.can = true ∧ putN i = l.code.toNat ∧ takeN l.code.toNat = (i, 0)
theorem leap_op (i : InsM) (hc : i.can = true) : (i.op = 17 ∨ i.op = 18) ↔ (putN i / 2048 = 28 ∨ putN i / 4096 = 13) := by
  obtain ⟨k, D, N, M, he, h1, h2, h3, h4, h5, h6⟩ := can_parts i hc
  generalize i.imm = imm at he h6
  subst he
  have hk : k = 0 ∨ k = 1 ∨ k = 2 ∨ k = 3 ∨ k = 4 ∨ k = 5 ∨ k = 6 ∨ k = 7 ∨ k = 8 ∨ k = 9 ∨ k = 10 ∨ k = 11 ∨ k = 12 ∨ k = 13 ∨ k = 14 ∨ k = 15 ∨ k = 16 ∨ k = 17 ∨ k = 18 ∨ k = 19 ∨ k = 20 := by omega
  rcases hk with rfl | rfl | rfl | rfl | rfl | rfl | rfl | rfl | rfl | rfl | rfl | rfl | rfl | rfl | rfl | rfl | rfl | rfl | rfl | rfl | rfl
  all_goals
    simp only [putN, shp, putGo, InsM.get, Int.toNat_natCast]
    try omega
theorem goL_valid : ∀ (n : Nat) (s : StM) (m : MemM) (l : LeakM), l ∈ (goL n s m).1 → ValidL l
  | 0, s, m, l, h => by simp [goL] at h
  | n + 1, s, m, l, h => by
    have hl : (stepM s m).e = 0 → ValidL (leakM s m) := fun he => by
      have hd := step_done s m he
      obtain ⟨i, hc, ht, hf⟩ := hd
      rcases takeN_or (m.fetch s.pc).1.toNat with ⟨j, hj, hp, hq⟩ | hq
      · refine ⟨j, hj, ?_, ?_⟩
        · rw [hp]; unfold leakM; rw [if_pos he]; rfl
        · unfold leakM; rw [if_pos he]; exact hq
      · rw [ht] at hq
        simp at hq
    unfold goL at h
    by_cases he : (stepM s m).e = 0
    · rw [if_neg (by rw [he]; simp)] at h
      split at h
      · simp only [List.mem_singleton] at h
        rw [h]; exact hl he
      · simp only [List.mem_cons] at h
        rcases h with rfl | h
        · exact hl he
        · exact goL_valid n _ _ l h
    · rw [if_pos he] at h
      simp at h
theorem rcyc_step (a : List LeakM) (hv : ∀ l, l ∈ a → ValidL l) (hm : a.length ≤ 1048576) (k : Nat) (hk : k < a.length) (c : Nat) (hc : c ≤ 3 * k) (X : AHeap) :
    ∃ (c' : Nat) (X' : AHeap), ref08_Cycles.l0 ref02_Take.spec (AFr.al [(0, .rsl 10 (lrows a)), (3, .int .i64 c), (4, .int .i64 k)]) X =
      some (.normal, AFr.al [(0, .rsl 10 (lrows a)), (3, .int .i64 c'), (4, .int .i64 (k + 1 : Nat))], X') ∧ c' ≤ 3 * (k + 1) ∧ c + cycM (a.drop k) = c' + cycM (a.drop (k + 1)) := by
  have h1 : (k : Int) < (a.length : Int) := by omega
  have hx : a[k]? = some (a[k]'(by omega)) := List.getElem?_eq_getElem _
  have h2 := lrows_at a k _ hx
  have hv1 := hv (a[k]'(by omega)) (List.getElem_mem _)
  by_cases hlast : a.length = k + 1
  · have hc := cycM_last a k _ hx hlast
    have hz : cycM (a.drop (k + 1)) = 0 := by rw [List.drop_eq_nil_of_le (by omega)]; rfl
    generalize a[k]'(by omega) = l at *
    obtain ⟨i, hi1, hi2, hi3⟩ := hv1
    have hT := rTake_eq l.code
    rw [hi3] at hT
    simp only [InsAV] at hT
    have h3 : ¬ (k : Int) + 1 < (a.length : Int) := by omega
    cases hme : l.memory with
    | true =>
      rw [hme] at h2 hc
      refine ⟨c + 1 + 1, ?_, ?_, by omega, by rw [hc, hz]; simp⟩
      rotate_left
      · simp -implicitDefEqProofs +contextual (disch := omega) [ref08_Cycles.l0, h1, h2, h3, hT]
        rfl
    | false =>
      rw [hme] at h2 hc
      by_cases h17 : i.op = 17
      · refine ⟨c + 1, ?_, ?_, by omega, by rw [hc, hz]; simp⟩
        rotate_left
        · simp -implicitDefEqProofs +contextual (disch := omega) [ref08_Cycles.l0, h1, h2, h3, hT, h17]
          rfl
      · by_cases h18 : i.op = 18
        · refine ⟨c + 1, ?_, ?_, by omega, by rw [hc, hz]; simp⟩
          rotate_left
          · simp -implicitDefEqProofs +contextual (disch := omega) [ref08_Cycles.l0, h1, h2, h3, hT, h17, h18]
            rfl
        · refine ⟨c + 1, ?_, ?_, by omega, by rw [hc, hz]; simp⟩
          rotate_left
          · simp -implicitDefEqProofs +contextual (disch := omega) [ref08_Cycles.l0, h1, h2, h3, hT, h17, h18]
            rfl
  · have hy : a[k + 1]? = some (a[k + 1]'(by omega)) := List.getElem?_eq_getElem _
    have hc := cycM_next a k _ _ hx hy
    have h2' := lrows_at a (k + 1) _ hy
    generalize a[k]'(by omega) = l at *
    generalize a[k + 1]'(by omega) = l' at *
    obtain ⟨i, hi1, hi2, hi3⟩ := hv1
    have hT := rTake_eq l.code
    have hlp := leap_op i hi1
    rw [hi2] at hlp
    rw [hi3] at hT
    simp only [InsAV] at hT
    have h3 : (k : Int) + 1 < (a.length : Int) := by omega
    have ek : ((k : Int) + 1).toNat = k + 1 := by omega
    cases hme : l.memory with
    | true =>
      rw [hme] at h2 hc
      refine ⟨c + 1 + 1, ?_, ?_, by omega, by rw [hc]; simp; omega⟩
      rotate_left
      · simp -implicitDefEqProofs +contextual (disch := omega) [ref08_Cycles.l0, h1, h2, h3, hT]
        rfl
    | false =>
      rw [hme] at h2 hc
      by_cases h17 : i.op = 17
      · have hlm : leapM l = true := by simp only [leapM, Bool.or_eq_true, decide_eq_true_eq]; exact hlp.1 (.inl h17)
        by_cases hp : l'.pc = l.pc + 2#32
        · refine ⟨c + 1, ?_, ?_, by omega, by rw [hc]; simp [hlm, hp]; omega⟩
          rotate_left
          · simp -implicitDefEqProofs +contextual (disch := omega) [ref08_Cycles.l0, h1, h2, h2', h3, hT, h17, hp, ek]
            rfl
        · refine ⟨c + 1 + 2, ?_, ?_, by omega, by rw [hc]; simp [hlm, hp]; omega⟩
          rotate_left
          · simp -implicitDefEqProofs +contextual (disch := omega) [ref08_Cycles.l0, h1, h2, h2', h3, hT, h17, hp, ek]
            rfl
      · by_cases h18 : i.op = 18
        · have hlm : leapM l = true := by simp only [leapM, Bool.or_eq_true, decide_eq_true_eq]; exact hlp.1 (.inr h18)
          by_cases hp : l'.pc = l.pc + 2#32
          · refine ⟨c + 1, ?_, ?_, by omega, by rw [hc]; simp [hlm, hp]; omega⟩
            rotate_left
            · simp -implicitDefEqProofs +contextual (disch := omega) [ref08_Cycles.l0, h1, h2, h2', h3, hT, h17, h18, hp, ek]
              rfl
          · refine ⟨c + 1 + 2, ?_, ?_, by omega, by rw [hc]; simp [hlm, hp]; omega⟩
            rotate_left
            · simp -implicitDefEqProofs +contextual (disch := omega) [ref08_Cycles.l0, h1, h2, h2', h3, hT, h17, h18, hp, ek]
              rfl
        · have hlm : leapM l = false := by
            rw [Bool.eq_false_iff]; intro q
            simp only [leapM, Bool.or_eq_true, decide_eq_true_eq] at q
            have := hlp.2 q; omega
          refine ⟨c + 1, ?_, ?_, by omega, by rw [hc]; simp [hlm]; omega⟩
          rotate_left
          · simp -implicitDefEqProofs +contextual (disch := omega) [ref08_Cycles.l0, h1, h2, h2', h3, hT, h17, h18, ek]
            rfl
theorem rCycles_eq (a : List LeakM) (hv : ∀ l, l ∈ a → ValidL l) (hm : a.length ≤ 1048576) : ref08_Cycles.spec [.rsl 10 (lrows a)] = some (.int .i64 (cycM a : Nat)) := by
  have key : ∀ (d k c : Nat) (X : AHeap), k + d = a.length → c ≤ 3 * k → ∃ (fr' : AFr) (X' : AHeap), aloop (ref08_Cycles.l0 ref02_Take.spec) (AFr.al [(0, .rsl 10 (lrows a)), (3, .int .i64 c), (4, .int .i64 k)]) X = some (.exit 0, fr', X') ∧ fr' 3 = .int .i64 ((c + cycM (a.drop k) : Nat) : Int) := by
    intro d
    induction d with
    | zero =>
      intro k c X h _
      obtain rfl : k = a.length := by omega
      refine ⟨_, _, aloop_exit (by simp) (by simp -implicitDefEqProofs +contextual (disch := omega) [ref08_Cycles.l0]; exact ⟨rfl, rfl⟩), ?_⟩
      rw [List.drop_length]; rfl
    | succ d ih =>
      intro k c X h hc
      obtain ⟨c', X1, q1, q2, q3⟩ := rcyc_step a hv hm k (by omega) c hc X
      obtain ⟨fr', X', p1, p2⟩ := ih (k + 1) c' X1 (by omega) q2
      exact ⟨fr', X', (aloop_step q1).trans p1, by rw [p2, q3]⟩
  obtain ⟨fr', X', h1, h2⟩ := key a.length 0 0 AHeap.empty (by omega) (by omega)
  rw [show ((0 : Nat) : Int) = 0 from rfl] at h1
  simp only [List.drop_zero, Nat.zero_add] at h2
  simp -implicitDefEqProofs +contextual (disch := omega) [ref08_Cycles.spec, ref08_Cycles, h1, h2]
theorem sameM_self (a : LeakM) : sameM a a = true := by simp [sameM]
theorem roadM_self : ∀ a : List LeakM, roadM a a = true
  | [] => rfl
  | x :: a => by simp [roadM, sameM_self, roadM_self a]
set_option maxHeartbeats 4000000 in
theorem runRoads_law (c : List (BitVec 16)) (w t ws ts : List (BitVec 32)) : law08_RunRoads.spec [caseAV c w t, .rsl 1 (w32s ws), .rsl 1 (w32s ts)] = some (.bool true) := by
  have h1 := small_eq c w t
  have h2 := small_eq (c.take 100) ws ts
  rw [List.take_take, Nat.min_self] at h2
  generalize hC : c.take 100 = c' at h1 h2
  generalize hW : w.take 30 = w' at h1
  generalize hT : t.take 50 = t' at h1
  generalize hW2 : ws.take 30 = w2 at h2
  generalize hT2 : ts.take 50 = t2 at h2
  have b1 : c'.length ≤ 100 := by rw [← hC]; simp; omega
  have b2 : w'.length ≤ 30 := by rw [← hW]; simp; omega
  have b3 : t'.length ≤ 50 := by rw [← hT]; simp; omega
  have b4 : w2.length ≤ 30 := by rw [← hW2]; simp; omega
  have b5 : t2.length ≤ 50 := by rw [← hT2]; simp; omega
  have h3 := Exec_eq c' w' t' 200 (by omega) (by omega) (by omega)
  have h4 := Exec_eq c' w2 t2 200 (by omega) (by omega) (by omega)
  rw [show (min (max (200 : Int) 0) 1048576).toNat = 200 from by decide] at h3 h4
  have hv := goL_valid 200 s00 (startM c' w' t')
  have hl := goL_len 200 s00 (startM c' w' t')
  generalize goL 200 s00 (startM c' w2 t2) = R' at *
  generalize goL 200 s00 (startM c' w' t') = R at *
  have q1 := Road_eq R.1 R'.1 (by omega)
  have q2 := rRoad_eq R.1 R'.1 (by omega)
  have q3 := Cycles_eq R.1 (by omega)
  have q4 := rCycles_eq R.1 hv (by omega)
  have q5 := Road_eq R.1 R.1 (by omega)
  rw [roadM_self] at q5
  unfold outAV at h3 h4
  simp only [if_true] at h3 h4
  unfold caseAV at h1 h2 ⊢
  simp -implicitDefEqProofs +contextual (disch := omega) [law08_RunRoads.spec, law08_RunRoads, h1, h2, h3, h4, q1, q2, q3, q4, q5, lives08]
theorem law08_RunRoads_law (args : List AV) (h : ArgsSh [(true, [.sl 1 2 [.int .u16], .sl 1 4 [.int .u32], .sl 1 4 [.int .u32]]), (false, [.sl 1 4 [.int .u32]]), (false, [.sl 1 4 [.int .u32]])] args) : law08_RunRoads.spec args = some (.bool true) := by
  obtain ⟨a, _, rfl, h1, h⟩ := args_agg h
  obtain ⟨b, _, rfl, h2, h⟩ := args_one h
  obtain ⟨d, _, rfl, h3, h⟩ := args_one h
  obtain rfl := args_nil h
  obtain ⟨c, w, t, hc⟩ := sh_case h1
  obtain ⟨x, rfl, _⟩ := sh_sl32 h2.1
  obtain ⟨y, rfl, _⟩ := sh_sl32 h3.1
  rw [hc]
  exact runRoads_law c w t x y
end Go.Abs

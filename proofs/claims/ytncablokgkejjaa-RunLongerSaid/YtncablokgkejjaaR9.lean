/-
  The laws of runs: a greater limit; a longer tape.
-/
import Derived.Test.YtncablokgkejjaaR8
set_option linter.unusedSimpArgs false
set_option linter.unusedVariables false
namespace Go.Abs
open Th
theorem load_err (m : MemM) (a : BitVec 32) : (m.load a).1.2 = 0 ∨ (m.load a).1.2 = 50 ∨ (m.load a).1.2 = 51 := by
  unfold MemM.load
  repeat' split
  all_goals simp
theorem loads_err (m : MemM) (a : BitVec 32) : (m.loads a).1.2 = 0 ∨ (m.loads a).1.2 = 50 ∨ (m.loads a).1.2 = 51 := load_err m a
theorem store_err (m : MemM) (a w : BitVec 32) : (m.store a w).1 = 0 ∨ (m.store a w).1 = 50 := by
  unfold MemM.store; split <;> simp
theorem move_err (s : StM) (k D : Nat) (a : BitVec 32) (m : MemM) : (moveM s k D a m).2.2 ≠ 80 := by
  unfold moveM; split
  · rcases store_err m a (s.reg D) with h | h <;> (dsimp only; omega)
  · rcases loads_err m a with h | h | h <;> (dsimp only; omega)
theorem do_err (i : InsM) (s : StM) (m : MemM) : (doM i s m).e ≠ 80 := by
  unfold doM
  split
  all_goals first | (dsimp only; omega) | skip
  all_goals
    split
    · dsimp only; omega
    · exact move_err _ _ _ _ _
theorem step_err (s : StM) (m : MemM) : (stepM s m).e ≠ 80 := by
  unfold stepM
  split
  · split
    · exact do_err _ _ _
    · rcases takeN_or (m.fetch s.pc).1.toNat with ⟨i, _, _, h⟩ | h <;> (rw [h]; dsimp only; omega)
  · rcases fetch_or m s.pc with h | h <;> (rw [h]; dsimp only; omega)
theorem goL_more (k : Nat) : ∀ (n : Nat) (s : StM) (m : MemM), (goL n s m).2.2 ≠ 80 → goL (n + k) s m = goL n s m
  | 0, s, m, h => by simp [goL] at h
  | n + 1, s, m, h => by
    rw [show n + 1 + k = (n + k) + 1 from by omega]
    unfold goL at h ⊢
    split
    · rfl
    · rename_i h1
      split
      · rfl
      · rename_i h2
        rw [if_neg h1, if_neg h2] at h
        rw [goL_more k n _ _ h]
theorem goL_80 (k : Nat) : ∀ (n : Nat) (s : StM) (m : MemM), (goL n s m).2.2 = 80 → (goL n s m).1.length = n ∧ ∃ r, (goL (n + k) s m).1 = (goL n s m).1 ++ r
  | 0, s, m, h => ⟨rfl, _, rfl⟩
  | n + 1, s, m, h => by
    rw [show n + 1 + k = (n + k) + 1 from by omega]
    have h0 := step_err s m
    unfold goL at h ⊢
    by_cases h1 : (stepM s m).e = 0
    · simp only [h1, ne_eq, not_true_eq_false, if_false] at h ⊢
      by_cases h2 : (stepM s m).stop = true
      · rw [if_pos h2] at h; simp at h
      · simp only [h2, if_false, Bool.false_eq_true] at h ⊢
        obtain ⟨q1, r, q2⟩ := goL_80 k n _ _ h
        exact ⟨by simp [q1], r, by simp [q2]⟩
    · rw [if_pos h1] at h
      exact (h0 h).elim
theorem longer_loop (st dr st' dr' : Nat) (e e' : Int) (ws ws' : List (BitVec 32)) (la r : List LeakM) (hl : la.length ≤ 1048576) (H : AHeap) (h1 : H.get 1 = some ⟨T.ty_api_Outcome, 5, true, [[.int .i64 st, .int .i64 dr, .int .i64 e, .rsl 1 (w32s ws), .rsl 10 (lrows la)]]⟩)
    (h2 : H.get 2 = some ⟨T.ty_api_Outcome, 5, true, [[.int .i64 st', .int .i64 dr', .int .i64 e', .rsl 1 (w32s ws'), .rsl 10 (lrows (la ++ r))]]⟩) :
    aloop (law08_RunLonger.l0 law08_small.spec law08_few.spec run_Exec.spec ref08_Same.spec law08_lives.spec) (AFr.al [(7, .ptr 1 5 0 0), (8, .ptr 2 5 0 0), (9, .int .i64 0)]) H =
      some (.exit 0, AFr.al [(7, .ptr 1 5 0 0), (8, .ptr 2 5 0 0), (9, .int .i64 la.length), (75, .bool false)], H) := by
  have hgo := aloop_go (f := law08_RunLonger.l0 law08_small.spec law08_few.spec run_Exec.spec ref08_Same.spec law08_lives.spec) (fun k => AFr.al [(7, .ptr 1 5 0 0), (8, .ptr 2 5 0 0), (9, .int .i64 (k : Nat))]) (fun _ => H) la.length (fun k hk => by
    have q1 : (k : Int) < (la.length : Int) := by omega
    have q2 := lrows_at la k la[k] (by simp [hk])
    have q3 := lrows_at (la ++ r) k la[k] (by rw [List.getElem?_append_left hk]; simp [hk])
    have q4 : (k : Int) < ((la ++ r).length : Int) := by simp; omega
    simp -implicitDefEqProofs +contextual (disch := omega) [law08_RunLonger.l0, h1, h2, q1, q2, q3, q4]) 0 (by omega)
  refine hgo.trans (aloop_exit (by simp) ?_)
  simp -implicitDefEqProofs +contextual (disch := omega) [law08_RunLonger.l0, h1, h2]
set_option maxHeartbeats 4000000 in
theorem runLonger_law (c : List (BitVec 16)) (w t : List (BitVec 32)) (lim : Int) (more : BitVec 8) : law08_RunLonger.spec [caseAV c w t, .int .i64 lim, W8 more] = some (.bool true) := by
  have h1 := small_eq c w t
  have h2 := few_eq lim
  generalize hC : c.take 100 = c' at h1
  generalize hW : w.take 30 = w' at h1
  generalize hT : t.take 50 = t' at h1
  have b1 : c'.length ≤ 100 := by rw [← hC]; simp; omega
  have b2 : w'.length ≤ 30 := by rw [← hW]; simp; omega
  have b3 : t'.length ≤ 50 := by rw [← hT]; simp; omega
  have hmore : more.toNat < 256 := more.isLt
  obtain ⟨n, hn⟩ : ∃ n : Nat, n = (min lim 300).toNat := ⟨_, rfl⟩
  have h3 := Exec_eq c' w' t' n (by omega) (by omega) (by omega)
  have h4 := Exec_eq c' w' t' ((n : Int) + more.toNat) (by omega) (by omega) (by omega)
  rw [show (min (max (n : Int) 0) 1048576).toNat = n from by omega] at h3
  rw [show (min (max ((n : Int) + more.toNat) 0) 1048576).toNat = n + more.toNat from by omega] at h4
  have hl := goL_len n s00 (startM c' w' t')
  have hk := (goL_keeps n s00 (startM c' w' t')).words
  have hws : (startM c' w' t').words.length = w'.length := rfl
  rw [hws] at hk
  have hm1 := goL_more more.toNat n s00 (startM c' w' t')
  have hm2 := goL_80 more.toNat n s00 (startM c' w' t')
  generalize goL (n + more.toNat) s00 (startM c' w' t') = R' at *
  generalize goL n s00 (startM c' w' t') = R at *
  unfold caseAV at h1 ⊢
  have hneg : (min lim 300 < 0 ∧ (n : Int) = 0) ∨ (¬ min lim 300 < 0 ∧ min lim 300 = (n : Int)) := by omega
  by_cases h80 : R.2.2 = 80
  · obtain ⟨q1, r, q2⟩ := hm2 h80
    have hlo := fun H => longer_loop R.1.length R.2.1.drawn R'.1.length R'.2.1.drawn R.2.2 R'.2.2 R.2.1.words R'.2.1.words R.1 r (by omega) H
    have hle : ¬ (R'.1.length : Int) < (R.1.length : Int) := by rw [q2]; simp; omega
    unfold outAV at h3 h4
    rw [q2] at h4 hlo hle
    simp only [if_true, h80] at h3 h4 hlo
    rw [q1] at h3 hlo hle
    rcases hneg with ⟨hg, h0⟩ | ⟨hg, h0⟩
    · rw [h0] at h3 h4
      simp only [Int.zero_add] at h4
      simp -implicitDefEqProofs +contextual (disch := try first | omega | (simp; done)) [law08_RunLonger.spec, law08_RunLonger, h1, h2, h3, h4, hlo, lives08, hg, h0, hle, q1]
      rw [hlo]
      · simp -implicitDefEqProofs +contextual (disch := omega) [lives08]
      · simp <;> omega
      · simp <;> omega
    · rw [h0] at h2
      simp -implicitDefEqProofs +contextual (disch := try first | omega | (simp; done)) [law08_RunLonger.spec, law08_RunLonger, h1, h2, h3, h4, hlo, lives08, hg, h0, hle, q1]
      rw [hlo]
      · simp -implicitDefEqProofs +contextual (disch := omega) [lives08]
      · simp <;> omega
      · simp <;> omega
  · have h6 := same_refl R.1.length R.2.1.drawn R.2.2 R.2.1.words R.1 (by omega) (by omega)
    rw [hm1 h80] at h4
    unfold outAV at h3 h4
    simp only [if_true] at h3 h4
    rcases hneg with ⟨hg, h0⟩ | ⟨hg, h0⟩
    · rw [h0] at h3 h4
      simp only [Int.zero_add] at h4
      simp -implicitDefEqProofs +contextual (disch := omega) [law08_RunLonger.spec, law08_RunLonger, h1, h2, h3, h4, h6, lives08, hg, h80]
    · rw [h0] at h2
      simp -implicitDefEqProofs +contextual (disch := omega) [law08_RunLonger.spec, law08_RunLonger, h1, h2, h3, h4, h6, lives08, hg, h80]
theorem law08_RunLonger_law (args : List AV) (h : ArgsSh [(true, [.sl 1 2 [.int .u16], .sl 1 4 [.int .u32], .sl 1 4 [.int .u32]]), (false, [.int .i64]), (false, [.int .u8])] args) : law08_RunLonger.spec args = some (.bool true) := by
  obtain ⟨a, _, rfl, h1, h⟩ := args_agg h
  obtain ⟨b, _, rfl, h2, h⟩ := args_one h
  obtain ⟨d, _, rfl, h3, h⟩ := args_one h
  obtain rfl := args_nil h
  obtain ⟨c, w, t, hc⟩ := sh_case h1
  obtain ⟨n, rfl, _⟩ := sh_i64 h2.1
  obtain ⟨x, rfl⟩ := sh_u8 h3.1
  rw [hc]
  exact runLonger_law c w t n x
def MemM.ext (m : MemM) (more : List (BitVec 32)) : MemM := { m with tape := m.tape ++ more }
theorem load_ext (m : MemM) (hm : m.drawn ≤ m.tape.length) (more : List (BitVec 32)) (a : BitVec 32) (h : (m.load a).1.2 ≠ 51) : (m.ext more).load a = ((m.load a).1, (m.load a).2.ext more) := by
  unfold MemM.load at *
  by_cases h1 : a % 4#32 ≠ 0#32
  · simp only [h1, if_true, ne_eq, not_false_eq_true]
  · simp only [h1, if_false] at h ⊢
    by_cases h2 : a = 1073741824#32
    · simp only [h2, if_true] at h ⊢
      by_cases h3 : m.drawn = m.tape.length
      · simp [h3] at h
      · have h4 : ¬ (m.ext more).drawn = (m.ext more).tape.length := by simp [MemM.ext]; omega
        have h5 : at0 (m.ext more).tape (m.ext more).drawn = at0 m.tape m.drawn := by
          have hlt : m.drawn < m.tape.length := by omega
          have e1 : (m.tape ++ more)[m.drawn]? = m.tape[m.drawn]? := List.getElem?_append_left hlt
          have e2 := at0_get m.tape m.drawn hlt
          have e3 := at0_get (m.tape ++ more) m.drawn (by simp; omega)
          rw [e1, e2] at e3
          exact (Option.some.inj e3).symm
        rw [if_neg h3, if_neg h4, h5]
        rfl
    · simp only [h2, if_false] at h ⊢
      have e1 : (m.ext more).at a = m.at a := rfl
      have e2 : (m.ext more).code = m.code := rfl
      have e3 : (m.ext more).words = m.words := rfl
      rw [e1, e2, e3]
      split
      · rfl
      · split <;> rfl
theorem loads_ext (m : MemM) (hm : m.drawn ≤ m.tape.length) (more : List (BitVec 32)) (a : BitVec 32) (h : (m.loads a).1.2 ≠ 51) : (m.ext more).loads a = ((m.loads a).1, (m.loads a).2.ext more) := by
  unfold MemM.loads at *
  dsimp only at *
  rw [load_ext m hm more a h]
  dsimp only
  split <;> rfl
theorem store_ext (m : MemM) (more : List (BitVec 32)) (a w : BitVec 32) : (m.ext more).store a w = ((m.store a w).1, (m.store a w).2.ext more) := by
  unfold MemM.store
  have e1 : (m.ext more).at a = m.at a := rfl
  rw [e1]
  split <;> rfl
theorem move_ext (s : StM) (k D : Nat) (a : BitVec 32) (m : MemM) (hm : m.drawn ≤ m.tape.length) (more : List (BitVec 32)) (h : (moveM s k D a m).2.2 ≠ 51) : moveM s k D a (m.ext more) = ((moveM s k D a m).1, (moveM s k D a m).2.1.ext more, (moveM s k D a m).2.2) := by
  unfold moveM at *
  split
  · rw [store_ext]
  · rename_i hk
    rw [if_neg hk] at h
    rw [loads_ext m hm more a h]
def Did.ext (r : Did) (more : List (BitVec 32)) : Did := { r with m := r.m.ext more }
theorem do_ext (i : InsM) (s : StM) (m : MemM) (hm : m.drawn ≤ m.tape.length) (more : List (BitVec 32)) (h : (doM i s m).e ≠ 51) : doM i s (m.ext more) = (doM i s m).ext more := by
  unfold doM at *
  split
  all_goals first | rfl | skip
  all_goals
    rename_i hk
    rw [hk] at h
    try dsimp only at h
    have h' : (moveM s i.op.toNat i.d.toNat (addrM s i.op.toNat i.n.toNat i.m.toNat i.imm) m).2.2 ≠ 51 := by
      rw [hk]
      intro q
      rw [q] at h
      simp at h
    rw [move_ext s i.op.toNat i.d.toNat (addrM s i.op.toNat i.n.toNat i.m.toNat i.imm) m hm more h']
    try dsimp only
    split <;> rfl
end Go.Abs

/-
  The laws of runs: random words beyond those that are drawn.
-/
import Derived.Test.YtncablokgkejjaaR9
set_option linter.unusedSimpArgs false
set_option linter.unusedVariables false
namespace Go.Abs
open Th
theorem step_ext (s : StM) (m : MemM) (hm : m.drawn ≤ m.tape.length) (more : List (BitVec 32)) (h : (stepM s m).e ≠ 51) : stepM s (m.ext more) = (stepM s m).ext more := by
  have hf : ∀ a, (m.ext more).fetch a = m.fetch a := fun _ => rfl
  unfold stepM at *
  rw [hf]
  split
  · rename_i h1
    rw [if_pos h1] at h
    split
    · rename_i h2
      rw [if_pos h2] at h
      exact do_ext _ s m hm more h
    · rfl
  · rfl
theorem leak_ext (s : StM) (m : MemM) (hm : m.drawn ≤ m.tape.length) (more : List (BitVec 32)) (h : (stepM s m).e ≠ 51) : leakM s (m.ext more) = leakM s m := by
  unfold leakM
  rw [step_ext s m hm more h]
  rfl
theorem goL_tape (more : List (BitVec 32)) : ∀ (n : Nat) (s : StM) (m : MemM), m.Ok → ((goL n s m).2.2 ≠ 51 → goL n s (m.ext more) = ((goL n s m).1, (goL n s m).2.1.ext more, (goL n s m).2.2)) ∧ (goL n s m).1.length ≤ (goL n s (m.ext more)).1.length
  | 0, s, m, hm => ⟨fun _ => rfl, Nat.le_refl _⟩
  | n + 1, s, m, hm => by
    by_cases h51 : (stepM s m).e = 51
    · have e : goL (n + 1) s m = ([], (stepM s m).m, (stepM s m).e) := by
        rw [goL]; rw [if_pos (by rw [h51]; decide)]
      rw [e]
      exact ⟨fun h => (h h51).elim, Nat.zero_le _⟩
    · have h1 := step_ext s m hm.drawn more h51
      have h2 := leak_ext s m hm.drawn more h51
      have ih := goL_tape more n (stepM s m).s (stepM s m).m ((keeps_step s m).ok hm)
      have e1 : ((stepM s m).ext more).e = (stepM s m).e := rfl
      have e2 : ((stepM s m).ext more).s = (stepM s m).s := rfl
      have e3 : ((stepM s m).ext more).m = (stepM s m).m.ext more := rfl
      have e4 : ((stepM s m).ext more).stop = (stepM s m).stop := rfl
      rw [goL, goL, h1, h2, e1, e2, e3, e4]
      by_cases q1 : (stepM s m).e = 0
      · simp only [q1, ne_eq, not_true_eq_false, if_false]
        by_cases q2 : (stepM s m).stop = true
        · simp only [q2, if_true]
          exact ⟨by intros; first | rfl | trivial, Nat.le_refl _⟩
        · simp only [q2, if_false, Bool.false_eq_true]
          refine ⟨fun h => ?_, ?_⟩
          · rw [ih.1 h]
          · have := ih.2
            simp only [List.length_cons]; omega
      · simp only [q1, ne_eq, not_false_eq_true, if_true]
        exact ⟨by intros; first | rfl | trivial, Nat.le_refl _⟩
set_option maxHeartbeats 4000000 in
theorem runTape_law (c : List (BitVec 16)) (w t more0 : List (BitVec 32)) : law08_RunTape.spec [caseAV c w t, .rsl 1 (w32s more0)] = some (.bool true) := by
  have h1 := small_eq c w t
  generalize hC : c.take 100 = c' at h1
  generalize hW : w.take 30 = w' at h1
  generalize hT : t.take 50 = t' at h1
  have b1 : c'.length ≤ 100 := by rw [← hC]; simp; omega
  have b2 : w'.length ≤ 30 := by rw [← hW]; simp; omega
  have b3 : t'.length ≤ 50 := by rw [← hT]; simp; omega
  obtain ⟨more, hmo⟩ : ∃ more, more = more0.take 50 := ⟨_, rfl⟩
  have b4 : more.length ≤ 50 := by rw [hmo]; simp; omega
  have h3 := Exec_eq c' w' t' 200 (by omega) (by omega) (by omega)
  have h4 := Exec_eq c' w' (t' ++ more) 200 (by omega) (by omega) (by simp; omega)
  rw [show (min (max (200 : Int) 0) 1048576).toNat = 200 from by decide] at h3 h4
  have hok := start_ok c' w' t' (by omega) (by omega)
  have hl := goL_len 200 s00 (startM c' w' t')
  have hk := (goL_keeps 200 s00 (startM c' w' t')).words
  have hws : (startM c' w' t').words.length = w'.length := rfl
  rw [hws] at hk
  obtain ⟨g1, g2⟩ := goL_tape more 200 s00 (startM c' w' t') hok
  have hst : (startM c' w' t').ext more = startM c' w' (t' ++ more) := rfl
  rw [hst] at g1 g2
  generalize goL 200 s00 (startM c' w' (t' ++ more)) = R' at *
  generalize goL 200 s00 (startM c' w' t') = R at *
  have hta : List.take (t'.length + more.length) (t' ++ more) = t' ++ more := List.take_of_length_le (by simp)
  unfold caseAV at h1 ⊢
  by_cases hmore : 50 < (more0.length : Int)
  · by_cases h51 : R.2.2 = 51
    · have hle : (R.1.length : Int) ≤ (R'.1.length : Int) := by omega
      unfold outAV at h3 h4
      simp only [if_true, h51] at h3 h4
      simp -implicitDefEqProofs +contextual (disch := omega) [law08_RunTape.spec, law08_RunTape, h1, h3, h4, hmore, ← hmo, w32s_take, w32s_append, hta, lives08, hle]
    · have h6 := same_refl R.1.length R.2.1.drawn R.2.2 R.2.1.words R.1 (by omega) (by omega)
      rw [g1 h51] at h4
      unfold outAV at h3 h4
      simp only [if_true, MemM.ext] at h3 h4
      simp -implicitDefEqProofs +contextual (disch := omega) [law08_RunTape.spec, law08_RunTape, h1, h3, h4, h6, hmore, ← hmo, w32s_take, w32s_append, hta, lives08, h51]
  · rw [List.take_of_length_le (by omega)] at hmo
    subst hmo
    by_cases h51 : R.2.2 = 51
    · have hle : (R.1.length : Int) ≤ (R'.1.length : Int) := by omega
      unfold outAV at h3 h4
      simp only [if_true, h51] at h3 h4
      simp -implicitDefEqProofs +contextual (disch := omega) [law08_RunTape.spec, law08_RunTape, h1, h3, h4, hmore, w32s_take, w32s_append, hta, lives08, hle]
    · have h6 := same_refl R.1.length R.2.1.drawn R.2.2 R.2.1.words R.1 (by omega) (by omega)
      rw [g1 h51] at h4
      unfold outAV at h3 h4
      simp only [if_true, MemM.ext] at h3 h4
      simp -implicitDefEqProofs +contextual (disch := omega) [law08_RunTape.spec, law08_RunTape, h1, h3, h4, h6, hmore, w32s_take, w32s_append, hta, lives08, h51]
theorem law08_RunTape_law (args : List AV) (h : ArgsSh [(true, [.sl 1 2 [.int .u16], .sl 1 4 [.int .u32], .sl 1 4 [.int .u32]]), (false, [.sl 1 4 [.int .u32]])] args) : law08_RunTape.spec args = some (.bool true) := by
  obtain ⟨a, _, rfl, h1, h⟩ := args_agg h
  obtain ⟨b, _, rfl, h2, h⟩ := args_one h
  obtain rfl := args_nil h
  obtain ⟨c, w, t, hc⟩ := sh_case h1
  obtain ⟨x, rfl, _⟩ := sh_sl32 h2.1
  rw [hc]
  exact runTape_law c w t x
end Go.Abs

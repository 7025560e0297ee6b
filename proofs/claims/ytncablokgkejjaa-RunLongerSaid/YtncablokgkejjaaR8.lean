/-
  The laws of runs: what comes of any code; bounds.
-/
import Derived.Test.YtncablokgkejjaaR7
import Derived.Test.YtncablokgkejjaaR4
set_option linter.unusedSimpArgs false
set_option linter.unusedVariables false
namespace Go.Abs
open Th
theorem sh_case {cs : List AV} (h : ShsOk [.sl 1 2 [.int .u16], .sl 1 4 [.int .u32], .sl 1 4 [.int .u32]] cs) : ∃ c w t, AV.agg cs = caseAV c w t := by
  obtain ⟨a0, _, rfl, q0, h⟩ := shs_cons h
  obtain ⟨a1, _, rfl, q1, h⟩ := shs_cons h
  obtain ⟨a2, rfl, q2⟩ := shs_one h
  obtain ⟨x0, rfl, _⟩ := sh_sl16 q0
  obtain ⟨x1, rfl, _⟩ := sh_sl32 q1
  obtain ⟨x2, rfl, _⟩ := sh_sl32 q2
  exact ⟨x0, x1, x2, rfl⟩
set_option maxHeartbeats 4000000 in
theorem runBounds_law (c : List (BitVec 16)) (w t : List (BitVec 32)) (lim : Int) : law08_RunBounds.spec [caseAV c w t, .int .i64 lim] = some (.bool true) := by
  have h1 := small_eq c w t
  have h2 := few_eq lim
  generalize hC : c.take 100 = c' at h1
  generalize hW : w.take 30 = w' at h1
  generalize hT : t.take 50 = t' at h1
  have b1 : c'.length ≤ 100 := by rw [← hC]; simp; omega
  have b2 : w'.length ≤ 30 := by rw [← hW]; simp; omega
  have b3 : t'.length ≤ 50 := by rw [← hT]; simp; omega
  have h1' := small_eq c' w' t'
  rw [List.take_of_length_le b1, List.take_of_length_le b2, List.take_of_length_le b3] at h1'
  have h5 := Quick_eq c' w' t' (min lim 300) (by omega) (by omega) (by omega)
  have hl := goL_len (min (max (min lim 300) 0) 1048576).toNat s00 (startM c' w' t')
  have hK := goL_keeps (min (max (min lim 300) 0) 1048576).toNat s00 (startM c' w' t')
  have hk := hK.words
  have hd := (hK.ok (start_ok c' w' t' (by omega) (by omega))).drawn
  rw [hK.tape] at hd
  have hws : (startM c' w' t').words.length = w'.length := rfl
  have hts : (startM c' w' t').tape = t' := rfl
  rw [hws] at hk
  rw [hts] at hd
  have hz : lim < 0 → (goL (min (max (min lim 300) 0) 1048576).toNat s00 (startM c' w' t')).1.length = 0 := fun h => by omega
  generalize goL (min (max (min lim 300) 0) 1048576).toNat s00 (startM c' w' t') = R at *
  have h6 := same_eq w' w' (by omega)
  have h7 := same_eq t' t' (by omega)
  unfold outAV at h5
  unfold caseAV at h1 h1' ⊢
  simp only [lrows_nil, Bool.false_eq_true, if_false] at h5 h6 h7
  have e1 : (R.2.1.drawn : Int) ≤ (t'.length : Int) := by omega
  have e2 : 0 ≤ (R.2.1.drawn : Int) := by omega
  by_cases h : (R.1.length : Int) ≤ min lim 300
  · simp -implicitDefEqProofs +contextual (disch := omega) [law08_RunBounds.spec, law08_RunBounds, h1, h1', h2, h5, h6, h7, lives08, h, e1, hk]
  · have e3 : min lim 300 < 0 := by omega
    have e4 := hz (by omega)
    rw [e4] at h5 h
    simp -implicitDefEqProofs +contextual (disch := omega) [law08_RunBounds.spec, law08_RunBounds, h1, h1', h2, h5, h6, h7, lives08, h, e1, hk, e3]
theorem law08_RunBounds_law (args : List AV) (h : ArgsSh [(true, [.sl 1 2 [.int .u16], .sl 1 4 [.int .u32], .sl 1 4 [.int .u32]]), (false, [.int .i64])] args) : law08_RunBounds.spec args = some (.bool true) := by
  obtain ⟨a, _, rfl, h1, h⟩ := args_agg h
  obtain ⟨b, _, rfl, h2, h⟩ := args_one h
  obtain rfl := args_nil h
  obtain ⟨c, w, t, hc⟩ := sh_case h1
  obtain ⟨n, rfl, _⟩ := sh_i64 h2.1
  rw [hc]
  exact runBounds_law c w t n
end Go.Abs

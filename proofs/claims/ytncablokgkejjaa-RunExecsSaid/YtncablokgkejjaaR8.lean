/-
  The laws of runs: what comes of any code; bounds.
-/
import Derived.Test.YtncablokgkejjaaR7
import Derived.Test.YtncablokgkejjaaR5
set_option linter.unusedSimpArgs false
set_option linter.unusedVariables false
namespace Go.Abs
open Th
theorem sh_case {cs : List AV} (h : ShsOk [.sl 1 2 [.int .u16], .sl 1 4 [.int .u32], .sl 1 4 [.int .u32]] cs) : ∃ c w t, AV.agg cs = caseAV c w t := by
  obtain ⟨a0, _, rfl, q0, h⟩ := shs_cons h
  obtain ⟨a1, _, rfl, q1, h⟩ := shs_cons h
  obtain ⟨a2, rfl, q2⟩ := shs_one h
  obtain ⟨x0, rfl, _⟩ := sh_sl16 q0
  obtain ⟨x1, rfl, _⟩ := sh_sl32 q1
  obtain ⟨x2, rfl, _⟩ := sh_sl32 q2
  exact ⟨x0, x1, x2, rfl⟩
set_option maxHeartbeats 4000000 in
theorem runExecs_law (c : List (BitVec 16)) (w t : List (BitVec 32)) (lim : Int) : law08_RunExecs.spec [caseAV c w t, .int .i64 lim] = some (.bool true) := by
  have h1 := small_eq c w t
  have h2 := few_eq lim
  generalize hC : c.take 100 = c' at h1
  generalize hW : w.take 30 = w' at h1
  generalize hT : t.take 50 = t' at h1
  have b1 : c'.length ≤ 100 := by rw [← hC]; simp; omega
  have b2 : w'.length ≤ 30 := by rw [← hW]; simp; omega
  have b3 : t'.length ≤ 50 := by rw [← hT]; simp; omega
  have h3 := Exec_eq c' w' t' (min lim 300) (by omega) (by omega) (by omega)
  have h4 := exe_eq c' w' t' (min lim 300) (by omega) (by omega) (by omega)
  have h5 := Quick_eq c' w' t' (min lim 300) (by omega) (by omega) (by omega)
  have hl := goL_len (min (max (min lim 300) 0) 1048576).toNat s00 (startM c' w' t')
  have hk := (goL_keeps (min (max (min lim 300) 0) 1048576).toNat s00 (startM c' w' t')).words
  have hws : (startM c' w' t').words.length = w'.length := rfl
  rw [hws] at hk
  generalize goL (min (max (min lim 300) 0) 1048576).toNat s00 (startM c' w' t') = R at *
  have h6 := same_refl R.1.length R.2.1.drawn R.2.2 R.2.1.words R.1 (by omega) (by omega)
  have h7 := same_refl R.1.length R.2.1.drawn R.2.2 R.2.1.words [] (by omega) (by simp)
  unfold outAV at h3 h4 h5
  unfold caseAV at h1 ⊢
  simp only [if_true, lrows_nil, Bool.false_eq_true, if_false] at h3 h4 h5 h6 h7
  simp -implicitDefEqProofs +contextual (disch := omega) [law08_RunExecs.spec, law08_RunExecs, h1, h2, h3, h4, h5, h6, h7, lives08]
theorem law08_RunExecs_law (args : List AV) (h : ArgsSh [(true, [.sl 1 2 [.int .u16], .sl 1 4 [.int .u32], .sl 1 4 [.int .u32]]), (false, [.int .i64])] args) : law08_RunExecs.spec args = some (.bool true) := by
  obtain ⟨a, _, rfl, h1, h⟩ := args_agg h
  obtain ⟨b, _, rfl, h2, h⟩ := args_one h
  obtain rfl := args_nil h
  obtain ⟨c, w, t, hc⟩ := sh_case h1
  obtain ⟨n, rfl, _⟩ := sh_i64 h2.1
  rw [hc]
  exact runExecs_law c w t n
end Go.Abs

/-
  What code comes to: the program's run.
-/
import Derived.Test.YtncablokgkejjaaR1
set_option linter.unusedSimpArgs false
set_option linter.unusedVariables false
namespace Go.Abs
open Th
set_option maxHeartbeats 8000000 in
theorem goes_quick (B : AHeap) (s : StM) (m : MemM) (hm : m.Ok) (lim : Nat) (x : List (Nat × AV)) (hl : lim ≤ 1048576) (k : Nat) (hk : k < lim) (G : GI B k 80 []) (hs : B.get 4 = some (stBlk s)) :
    ((stepM s m).e ≠ 0 ∧ ∃ B', goesL (goesF lim false x) (B.mem 2 1 m) = some (.exit 2, AFr.al [(10, .ptr 0 5 0 0), (11, .ptr 2 5 0 0), (14, .ptr 3 5 0 0)], B'.mem 2 1 (stepM s m).m) ∧ GI B' k (stepM s m).e []) ∨
    ((stepM s m).e = 0 ∧ (stepM s m).stop = true ∧ ∃ B', goesL (goesF lim false x) (B.mem 2 1 m) = some (.exit 2, AFr.al [(10, .ptr 0 5 0 0), (11, .ptr 2 5 0 0), (14, .ptr 3 5 0 0)], B'.mem 2 1 (stepM s m).m) ∧ GI B' (k + 1) 0 []) ∨
    ((stepM s m).e = 0 ∧ (stepM s m).stop = false ∧ ∃ B', goesL (goesF lim false x) (B.mem 2 1 m) = some (.normal, goesF lim false [(75, .bool false)], B'.mem 2 1 (stepM s m).m) ∧ GI B' (k + 1) 80 [] ∧ B'.get 4 = some (stBlk (stepM s m).s)) := by
  obtain ⟨wf, nx, fst, c, fl, out, hc⟩ := G
  have hS := fun (B' : AHeap) (h1 : B'.WF) (h2 : 2 < B'.next) (h3 : 1 < B'.next) => Step_eq B' 2 1 m h1 h2 h3 (by omega) hm s
  unfold DidAV at hS
  generalize stepM s m = r at *
  obtain ⟨rs, rm, rstop, re⟩ := r
  simp only [stBlk, outB] at hs out fst ⊢
  dsimp only at *
  have hk' : (k : Int) < (lim : Int) := by omega
  simp only [lAV, if_true] at out ⊢
  by_cases he : re = 0
  · subst he
    cases rstop with
    | true =>
      refine .inr (.inl ⟨rfl, rfl, ?_⟩)
      refine ⟨?_, ?_, ?_⟩
      rotate_left
      · simp -implicitDefEqProofs +contextual (disch := try first | omega | assumption | (simp only [AHeap.next_set, AHeap.next_push]; omega) | ((repeat' (first | assumption | with_reducible apply AHeap.WF.push | with_reducible apply AHeap.WF.set)) <;> first | omega | (simp only [AHeap.next_set, AHeap.next_push]; omega)) | (intro c hc; simp (disch := omega); done)) [goesL, goesF, run_goes.l1, hs, out, hS, memPush, memSet, memGet, hk']
        rfl
      · refine ⟨?_, ?_, ?_, ?_⟩
        · (repeat' (first | assumption | with_reducible apply AHeap.WF.push | with_reducible apply AHeap.WF.set)) <;> (simp <;> omega)
        · simp; omega
        · simp (disch := omega) [outB, fst]
        · exact ⟨c, _, by simp (disch := omega) [outB, lAV]; rfl, fun h => (h rfl).elim⟩
    | false =>
      refine .inr (.inr ⟨rfl, rfl, ?_⟩)
      refine ⟨?_, ?_, ?_, ?_⟩
      rotate_left
      · simp -implicitDefEqProofs +contextual (disch := try first | omega | assumption | (simp only [AHeap.next_set, AHeap.next_push]; omega) | ((repeat' (first | assumption | with_reducible apply AHeap.WF.push | with_reducible apply AHeap.WF.set)) <;> first | omega | (simp only [AHeap.next_set, AHeap.next_push]; omega)) | (intro c hc; simp (disch := omega); done)) [goesL, goesF, run_goes.l1, hs, out, hS, memPush, memSet, memGet, hk']
        rfl
      · refine ⟨?_, ?_, ?_, ?_⟩
        · (repeat' (first | assumption | with_reducible apply AHeap.WF.push | with_reducible apply AHeap.WF.set)) <;> (simp <;> omega)
        · simp; omega
        · simp (disch := omega) [outB, fst]
        · exact ⟨c, _, by simp (disch := omega) [outB, lAV]; rfl, fun h => (h rfl).elim⟩
      · simp (disch := omega) [stBlk]
  · refine .inl ⟨he, ?_⟩
    refine ⟨?_, ?_, ?_⟩
    rotate_left
    · simp -implicitDefEqProofs +contextual (disch := try first | omega | assumption | (simp only [AHeap.next_set, AHeap.next_push]; omega) | ((repeat' (first | assumption | with_reducible apply AHeap.WF.push | with_reducible apply AHeap.WF.set)) <;> first | omega | (simp only [AHeap.next_set, AHeap.next_push]; omega)) | (intro c hc; simp (disch := omega); done)) [goesL, goesF, run_goes.l1, hs, out, hS, memPush, memSet, memGet, hk', he]
      rfl
    · refine ⟨?_, ?_, ?_, ?_⟩
      · (repeat' (first | assumption | with_reducible apply AHeap.WF.push | with_reducible apply AHeap.WF.set)) <;> (simp <;> omega)
      · simp; omega
      · simp (disch := omega) [outB, fst]
      · exact ⟨c, _, by simp (disch := omega) [outB, lAV]; rfl, fun h => (h rfl).elim⟩
structure GF (fr : AFr) : Prop where
  h10 : fr 10 = .ptr 0 5 0 0
  h11 : fr 11 = .ptr 2 5 0 0
  h14 : fr 14 = .ptr 3 5 0 0
theorem goes_end (B : AHeap) (m : MemM) (lim : Nat) (b : Bool) (x : List (Nat × AV)) (e : Int) (ls : List LeakM) (G : GI B lim e ls) :
    ∃ fr', aloop goesL (goesF lim b x) (B.mem 2 1 m) = some (.exit 2, fr', B.mem 2 1 m) ∧ GF fr' := by
  obtain ⟨wf, nx, fst, c, fl, out, hc⟩ := G
  simp only [outB] at out
  refine ⟨?_, aloop_exit (by simp) ?_, ?_⟩
  rotate_left
  · simp -implicitDefEqProofs +contextual (disch := omega) [goesL, goesF, run_goes.l1, out, memGet]
    rfl
  · exact ⟨rfl, rfl, rfl⟩
theorem goes_all (lim : Nat) (hl : lim ≤ 1048576) : ∀ (d : Nat) (B : AHeap) (s : StM) (m : MemM) (ls : List LeakM) (x : List (Nat × AV)), ls.length + d = lim → m.Ok → GI B ls.length 80 ls → B.get 4 = some (stBlk s) →
    ∃ fr' B', aloop goesL (goesF lim true x) (B.mem 2 1 m) = some (.exit 2, fr', B'.mem 2 1 (goL d s m).2.1) ∧ GF fr' ∧ GI B' (ls ++ (goL d s m).1).length (goL d s m).2.2 (ls ++ (goL d s m).1)
  | 0, B, s, m, ls, x, h, hm, G, hs => by
    obtain rfl : ls.length = lim := by omega
    obtain ⟨fr', h1, h2⟩ := goes_end B m ls.length true x 80 ls G
    exact ⟨fr', B, h1, h2, by simpa [goL] using G⟩
  | d + 1, B, s, m, ls, x, h, hm, G, hs => by
    unfold goL
    rcases goes_leak B s m hm lim x hl ls (by omega) G hs with ⟨he, B', h1, h2⟩ | ⟨he, hst, B', h1, h2⟩ | ⟨he, hst, B', h1, h2, h3⟩
    · rw [if_pos he]
      exact ⟨_, B', aloop_exit (by simp) h1, ⟨rfl, rfl, rfl⟩, by simpa using h2⟩
    · rw [if_neg (by rw [he]; simp), if_pos hst]
      exact ⟨_, B', aloop_exit (by simp) h1, ⟨rfl, rfl, rfl⟩, by simpa using h2⟩
    · rw [if_neg (by rw [he]; simp), if_neg (by rw [hst]; simp)]
      obtain ⟨fr', B2, q1, q2, q3⟩ := goes_all lim hl d B' (stepM s m).s (stepM s m).m (ls ++ [leakM s m]) [(75, .bool false)] (by simp; omega) ((keeps_step s m).ok hm) (by simpa using h2) h3
      exact ⟨fr', B2, by rw [aloop_step h1, q1], q2, by simpa using q3⟩
theorem goes_allq (lim : Nat) (hl : lim ≤ 1048576) : ∀ (d : Nat) (B : AHeap) (s : StM) (m : MemM) (k : Nat) (x : List (Nat × AV)), k + d = lim → m.Ok → GI B k 80 [] → B.get 4 = some (stBlk s) →
    ∃ fr' B', aloop goesL (goesF lim false x) (B.mem 2 1 m) = some (.exit 2, fr', B'.mem 2 1 (goL d s m).2.1) ∧ GF fr' ∧ GI B' (k + (goL d s m).1.length) (goL d s m).2.2 []
  | 0, B, s, m, k, x, h, hm, G, hs => by
    obtain rfl : k = lim := by omega
    obtain ⟨fr', h1, h2⟩ := goes_end B m k false x 80 [] G
    exact ⟨fr', B, h1, h2, by simpa [goL] using G⟩
  | d + 1, B, s, m, k, x, h, hm, G, hs => by
    unfold goL
    rcases goes_quick B s m hm lim x hl k (by omega) G hs with ⟨he, B', h1, h2⟩ | ⟨he, hst, B', h1, h2⟩ | ⟨he, hst, B', h1, h2, h3⟩
    · rw [if_pos he]
      exact ⟨_, B', aloop_exit (by simp) h1, ⟨rfl, rfl, rfl⟩, by simpa using h2⟩
    · rw [if_neg (by rw [he]; simp), if_pos hst]
      exact ⟨_, B', aloop_exit (by simp) h1, ⟨rfl, rfl, rfl⟩, by simpa using h2⟩
    · rw [if_neg (by rw [he]; simp), if_neg (by rw [hst]; simp)]
      obtain ⟨fr', B2, q1, q2, q3⟩ := goes_allq lim hl d B' (stepM s m).s (stepM s m).m (k + 1) [(75, .bool false)] (by omega) ((keeps_step s m).ok hm) h2 h3
      refine ⟨fr', B2, by rw [aloop_step h1, q1], q2, ?_⟩
      have e : k + (leakM s m :: (goL d (stepM s m).s (stepM s m).m).1).length = k + 1 + (goL d (stepM s m).s (stepM s m).m).1.length := by simp; omega
      dsimp only; rw [e]; exact q3
end Go.Abs

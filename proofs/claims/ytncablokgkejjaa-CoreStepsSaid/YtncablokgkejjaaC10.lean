/-
  The law of any code, step by step. Printed by genc10.py.
-/
import Derived.Test.YtncablokgkejjaaC9a
import Derived.Test.YtncablokgkejjaaCD
set_option linter.unusedSimpArgs false
set_option linter.unusedVariables false
namespace Go.Abs
open Th
def stBlk (s : StM) : Blk := ⟨T.ty_api_State, 13, true, [s.cells]⟩
noncomputable abbrev runsL := law06_CoreRuns.l0 mem_New.spec ref05_New.spec core_Step.spec ref06_Step.spec mem_Mem_Words.spec ref05_Same.spec law06_lives.spec
structure Apart (I : Ids) (s : Nat) : Prop where
  b : s ≠ I.b
  wb : s ≠ I.wb
  rb : s ≠ I.rb
  rw : s ≠ I.rw
  cb : s ≠ I.cb
  tb : s ≠ I.tb
set_option maxHeartbeats 2000000 in
theorem runs_step (B : AHeap) (I : Ids) (s : StM) (m : MemM) (k : Nat) (hk : k < 80) (ok : TwoOk B I m) (hm : m.Ok) (hwd : m.words.length = 4) (hs : B.get 0 = some (stBlk s)) (ha : Apart I 0) :
    (((stepM s m).stop = true ∨ (stepM s m).e ≠ 0) ∧ ∃ X', runsL (AFr.al [(4, .ptr 0 13 0 0), (7, .ptr I.b 5 0 0), (8, .ptr I.rb 5 0 0), (9, .int .i64 k)]) (B.two I m m) = some (.ret, AFr.al [(6, .bool true)], X')) ∨
    ∃ B', runsL (AFr.al [(4, .ptr 0 13 0 0), (7, .ptr I.b 5 0 0), (8, .ptr I.rb 5 0 0), (9, .int .i64 k)]) (B.two I m m) =
        some (.normal, AFr.al [(4, .ptr 0 13 0 0), (7, .ptr I.b 5 0 0), (8, .ptr I.rb 5 0 0), (9, .int .i64 (k + 1 : Nat))], B'.two I (stepM s m).m (stepM s m).m) ∧
      TwoOk B' I (stepM s m).m ∧ B'.get 0 = some (stBlk (stepM s m).s) := by
  have hK := keeps_step s m
  have hm' := hK.ok hm
  have ok' := ok.of hK.code hK.tape
  have hz := ok.wf _ _ hs
  have i1 := ok.hb; have i2 := ok.hwb; have i3 := ok.fix.hb; have i4 := ok.fix.hwb
  have a1 := ha.b; have a2 := ha.wb; have a3 := ha.rb; have a4 := ha.rw
  have hw0 := ok.wf
  have hS := fun B' (h1 : AHeap.WF B') h2 h3 => tStep (ok.more h1 h2 h3) hm s
  have hR := fun B' m1 (h1 : AHeap.WF B') h2 h3 => trStep (m := m1) (ok.more h1 h2 h3) hm s
  have hW := fun B' (h1 : AHeap.WF B') h2 h3 => tWords (ok'.more h1 h2 h3) hm'
  have hG := fun B' => two_get_rb (B := B') (I := I) (m := (stepM s m).m) (r := (stepM s m).m)
  have hGw := fun B' (h1 : AHeap.WF B') h2 h3 => two_get_rw (m := (stepM s m).m) (ok'.more (B' := B') h1 h2 h3) (by rw [hK.words]; omega)
  have hSan := fun B' m1 r1 v (h1 : AHeap.WF B') h2 h3 => san_wf (H := B'.two I m1 r1) (X := B'.two I (stepM s m).m (stepM s m).m) (v := v) (two_wf (ok'.more (B' := B') h1 h2 h3)) (by simp [two_next])
  have hsame := same_eq (stepM s m).m.words (stepM s m).m.words (by rw [hK.words]; omega)
  have hwd' : (stepM s m).m.words.length = 4 := by rw [hK.words]; exact hwd
  have ht : (w32s (stepM s m).m.words).take 4 = w32s (stepM s m).m.words := by rw [w32s_take, List.take_of_length_le (by omega)]
  have hc9 := cAV_pos I.rw 4 (by omega)
  have hq := sm_ceqs (stepM s m).s (stepM s m).s
  have hss := step_same s m
  have hq2 := sm_ceqs s s
  simp only [stBlk] at hs
  simp only [rBlk, hwd', hc9, wrdBlk] at hG hGw
  unfold DidAV at hS hR
  generalize hr : stepM s m = r at *
  obtain ⟨rs, rm, rstop, re⟩ := r
  dsimp only at *
  by_cases hend : rstop = true ∨ re ≠ 0
  · obtain rfl := hss hend
    refine .inl ⟨hend, ?_⟩
    cases rstop with
    | true =>
      refine ⟨?_, ?_⟩
      rotate_left
      · simp -implicitDefEqProofs +contextual (disch := try first | omega | assumption | (simp only [AHeap.next_set, AHeap.next_push]; omega) | ((repeat' (first | assumption | with_reducible apply AHeap.WF.push | with_reducible apply AHeap.WF.set)) <;> first | omega | (simp only [AHeap.next_set, AHeap.next_push]; omega)) | (intro c hc; simp (disch := omega); done)) [runsL, law06_CoreRuns.l0, hs, hS, hR, hW, hG, hGw, hsame, ht, hq, lives06, hSan, twoPush, twoSet, twoGet, two_next, -ceqs_cons]
        rfl
    | false =>
      have hre : ¬ re = 0 := by simpa using hend
      refine ⟨?_, ?_⟩
      rotate_left
      · simp -implicitDefEqProofs +contextual (disch := try first | omega | assumption | (simp only [AHeap.next_set, AHeap.next_push]; omega) | ((repeat' (first | assumption | with_reducible apply AHeap.WF.push | with_reducible apply AHeap.WF.set)) <;> first | omega | (simp only [AHeap.next_set, AHeap.next_push]; omega)) | (intro c hc; simp (disch := omega); done)) [runsL, law06_CoreRuns.l0, hs, hS, hR, hW, hG, hGw, hsame, ht, hq, lives06, hSan, twoPush, twoSet, twoGet, two_next, hre, -ceqs_cons]
        rfl
  · have h1 : rstop = false := by cases rstop <;> simp_all
    have h2 : re = 0 := by
      by_cases e : re = 0
      · exact e
      · exact absurd (.inr e) hend
    subst h1 h2
    refine .inr ⟨?_, ?_, ?_, ?_⟩
    rotate_left
    · simp -implicitDefEqProofs +contextual (disch := try first | omega | assumption | (simp only [AHeap.next_set, AHeap.next_push]; omega) | ((repeat' (first | assumption | with_reducible apply AHeap.WF.push | with_reducible apply AHeap.WF.set)) <;> first | omega | (simp only [AHeap.next_set, AHeap.next_push]; omega)) | (intro c hc; simp (disch := omega); done)) [runsL, law06_CoreRuns.l0, hs, hS, hR, hW, hG, hGw, hsame, ht, hq, lives06, hSan, twoPush, twoSet, twoGet, two_next, -ceqs_cons]
      rfl
    · refine ok'.but 0 ha.cb ha.tb ?_ ?_ ?_
      · (repeat' (first | assumption | with_reducible apply AHeap.WF.push | with_reducible apply AHeap.WF.set)) <;> simp <;> omega
      · simp; omega
      · intro c h1 h2
        simp (disch := omega)
    · simp (disch := omega) [stBlk]
end Go.Abs

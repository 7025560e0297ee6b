/-
  The law of what each instruction does, over any memory: the whole.
-/
import Derived.Test.YtncablokgkejjaaC13
set_option linter.unusedSimpArgs false
set_option linter.unusedVariables false
namespace Go.Abs
open Th
set_option maxHeartbeats 4000000 in
theorem coreSteps_law (i : InsM) (s : StM) (w0 w1 w2 w3 : BitVec 32) : law06_CoreSteps.spec [InsAV i, .agg s.cells, .agg [W32 w0, W32 w1, W32 w2, W32 w3]] = some (.bool true) := by
  have hP := rPut_eq i
  unfold InsAV at hP ⊢
  generalize putM i = p at hP
  obtain ⟨h, e⟩ := p
  dsimp only at hP
  by_cases he : e = 0
  · subst he
    have hN := fun (H : AHeap) h1 h2 h3 h4 => newn_eq H [48896#16, h, 4660#16, 22136#16, 48640#16, 39612#16] [77#32, 78#32] 4 3 4 (by simp) (by simp) h1 h2 h3 h4
    simp only [w16s, w32s, List.map_cons, List.map_nil, List.length_cons, List.length_nil, Nat.zero_add, Nat.reduceAdd] at hN
    simp -implicitDefEqProofs +contextual (disch := omega) [law06_CoreSteps.spec, law06_CoreSteps, hP, hN]
    rw [hN]
    case h1 => simp
    case h2 => simp
    case h3 => simp
    case h4 => simp
    simp -implicitDefEqProofs +contextual (disch := omega) [mem_get, bumpGet]
    generalize hr : ref05_New.spec _ _ = r
    have hm0 := new_ok [48896#16, h, 4660#16, 22136#16, 48640#16, 39612#16] [77#32, 78#32] 4 (by simp)
    have hwd0 : (MemM.new [48896#16, h, 4660#16, 22136#16, 48640#16, 39612#16] 4 [77#32, 78#32]).words.length = 4 := by simp only [MemM.new, List.length_replicate]; decide
    generalize hM : MemM.new [48896#16, h, 4660#16, 22136#16, 48640#16, 39612#16] 4 [77#32, 78#32] = m at *
    obtain ⟨B, I, rfl, hb, hwb, ok, i1, i2, i3, i4, i5, hB⟩ := two_of_mem [48896#16, h, 4660#16, 22136#16, 48640#16, 39612#16] [77#32, 78#32] 4 6 5 m hr
      (killAll_wf (AHeap.WF.push (mem_wf _ _ _ _ (bump_wf (AHeap.WF.push (AHeap.WF.set (AHeap.WF.push (AHeap.WF.push (AHeap.WF.push (AHeap.WF.push AHeap.WF.empty)))) (by simp))) 2) (by simp) (by simp))) _)
      (by omega) (by simp) (by simp) (by simp [mem_get]) (by simp [mem_get]) (by simp) (by simp)
    rw [hM] at ok ⊢
    simp only [next_killAll, AHeap.next_push, mem_next, bump_next, AHeap.next_set, empty_next] at i1 i2 i3 i4 i5 hB
    have g1 := hB 1 (by omega)
    have g2 := hB 2 (by omega)
    simp [mem_get, bumpGet] at g1 g2
    clear hr hN hB
    have ha1 : Apart I 1 := ⟨by omega, by omega, by omega, by omega, by omega, by omega⟩
    have ha2 : Apart I 2 := ⟨by omega, by omega, by omega, by omega, by omega, by omega⟩
    have hl := steps_loop B I m [w0, w1, w2, w3] rfl ok hwd0 g2 ha2
    unfold stepsL at hl
    obtain ⟨q1, q2, q3, q4⟩ := put4_keep m [w0, w1, w2, w3] 4
    have ok4 := ok.of q1 q2
    have hm4 := q4 hm0
    rw [hwd0] at q3
    generalize m.put4 [w0, w1, w2, w3] 4 = m4 at *
    rw [← hb]
    have hK := keeps_step (s.setPC 2#32) m4
    have ok' := ok4.of hK.code hK.tape
    have hm' := hK.ok hm4
    have hw0 := ok4.wf
    have j1 := ok4.hb; have j2 := ok4.hwb; have j3 := ok4.fix.hb; have j4 := ok4.fix.hwb
    have a1 := ha1.b; have a2 := ha1.wb; have a3 := ha1.rb; have a4 := ha1.rw
    have hS := fun B' (h1 : AHeap.WF B') h2 h3 => tStep (ok4.more h1 h2 h3) hm4 (s.setPC 2#32)
    have hR := fun B' m1 (h1 : AHeap.WF B') h2 h3 => trStep (m := m1) (ok4.more h1 h2 h3) hm4 (s.setPC 2#32)
    have hW := fun B' (h1 : AHeap.WF B') h2 h3 => tWords (ok'.more h1 h2 h3) hm'
    have hBu := fun B' (h1 : AHeap.WF B') h2 h3 => tBus (m := (stepM (s.setPC 2#32) m4).m) (ok'.more (B' := B') h1 h2 h3)
    have hDr := fun B' (h1 : AHeap.WF B') h2 h3 => tDrawn (m := (stepM (s.setPC 2#32) m4).m) (ok'.more (B' := B') h1 h2 h3)
    have hG := fun B' => two_get_rb (B := B') (I := I) (m := (stepM (s.setPC 2#32) m4).m) (r := (stepM (s.setPC 2#32) m4).m)
    have hGw := fun B' (h1 : AHeap.WF B') h2 h3 => two_get_rw (m := (stepM (s.setPC 2#32) m4).m) (ok'.more (B' := B') h1 h2 h3) (by rw [hK.words]; omega)
    have hSan := fun B' m1 r1 v (h1 : AHeap.WF B') h2 h3 => san_wf (H := B'.two I m1 r1) (X := B'.two I (stepM (s.setPC 2#32) m4).m (stepM (s.setPC 2#32) m4).m) (v := v) (two_wf (ok'.more (B' := B') h1 h2 h3)) (by simp [two_next])
    have hsame := same_eq (stepM (s.setPC 2#32) m4).m.words (stepM (s.setPC 2#32) m4).m.words (by rw [hK.words]; omega)
    have hwd' : (stepM (s.setPC 2#32) m4).m.words.length = 4 := by rw [hK.words]; exact q3
    have ht : (w32s (stepM (s.setPC 2#32) m4).m.words).take 4 = w32s (stepM (s.setPC 2#32) m4).m.words := by rw [w32s_take, List.take_of_length_le (by omega)]
    have hc9 := cAV_pos I.rw 4 (by omega)
    have hq := sm_ceqs (stepM (s.setPC 2#32) m4).s (stepM (s.setPC 2#32) m4).s
    simp only [rBlk, hwd', hc9, wrdBlk] at hG hGw
    unfold DidAV at hS hR
    generalize stepM (s.setPC 2#32) m4 = r at *
    obtain ⟨rs, rm, rstop, re⟩ := r
    dsimp only at *
    simp -implicitDefEqProofs +contextual (disch := try first | omega | assumption | (simp only [AHeap.next_set, AHeap.next_push]; omega) | ((repeat' (first | assumption | with_reducible apply AHeap.WF.push | with_reducible apply AHeap.WF.set)) <;> first | omega | (simp only [AHeap.next_set, AHeap.next_push]; omega)) | (intro c hc; simp (disch := omega); done)) [hl, g1, hS, hR, hW, hBu, hDr, hG, hGw, hsame, ht, hq, lives06, hSan, twoPush, twoSet, twoGet, two_next, -ceqs_cons]
  · simp -implicitDefEqProofs +contextual (disch := omega) [law06_CoreSteps.spec, law06_CoreSteps, hP, he, lives06]
theorem sh_ins {cs : List AV} (h : ShsOk [.int .i64, .int .i64, .int .i64, .int .i64, .int .i64] cs) : ∃ i : InsM, AV.agg cs = InsAV i := by
  obtain ⟨a0, _, rfl, q0, h⟩ := shs_cons h
  obtain ⟨a1, _, rfl, q1, h⟩ := shs_cons h
  obtain ⟨a2, _, rfl, q2, h⟩ := shs_cons h
  obtain ⟨a3, _, rfl, q3, h⟩ := shs_cons h
  obtain ⟨a4, rfl, q4⟩ := shs_one h
  obtain ⟨x0, rfl, _⟩ := sh_i64 q0
  obtain ⟨x1, rfl, _⟩ := sh_i64 q1
  obtain ⟨x2, rfl, _⟩ := sh_i64 q2
  obtain ⟨x3, rfl, _⟩ := sh_i64 q3
  obtain ⟨x4, rfl, _⟩ := sh_i64 q4
  exact ⟨⟨x0, x1, x2, x3, x4⟩, rfl⟩
theorem sh_four {cs : List AV} (h : ShsOk [.int .u32, .int .u32, .int .u32, .int .u32] cs) : ∃ w0 w1 w2 w3, cs = [W32 w0, W32 w1, W32 w2, W32 w3] := by
  obtain ⟨a0, _, rfl, q0, h⟩ := shs_cons h
  obtain ⟨a1, _, rfl, q1, h⟩ := shs_cons h
  obtain ⟨a2, _, rfl, q2, h⟩ := shs_cons h
  obtain ⟨a3, rfl, q3⟩ := shs_one h
  obtain ⟨x0, rfl⟩ := sh_u32 q0
  obtain ⟨x1, rfl⟩ := sh_u32 q1
  obtain ⟨x2, rfl⟩ := sh_u32 q2
  obtain ⟨x3, rfl⟩ := sh_u32 q3
  exact ⟨x0, x1, x2, x3, rfl⟩
theorem law06_CoreSteps_law (args : List AV) (h : ArgsSh [(true, [.int .i64, .int .i64, .int .i64, .int .i64, .int .i64]), (true, [.int .u32, .int .u32, .int .u32, .int .u32, .int .u32, .int .u32, .int .u32, .int .u32, .int .u32, .bool, .bool, .bool, .bool]), (true, [.int .u32, .int .u32, .int .u32, .int .u32])] args) : law06_CoreSteps.spec args = some (.bool true) := by
  obtain ⟨a, _, rfl, h1, h⟩ := args_agg h
  obtain ⟨b, _, rfl, h2, h⟩ := args_agg h
  obtain ⟨c, _, rfl, h3, h⟩ := args_agg h
  obtain rfl := args_nil h
  obtain ⟨i, hi⟩ := sh_ins h1
  obtain ⟨s, rfl⟩ := sh_state h2
  obtain ⟨w0, w1, w2, w3, rfl⟩ := sh_four h3
  rw [hi]
  exact coreSteps_law i s w0 w1 w2 w3
end Go.Abs

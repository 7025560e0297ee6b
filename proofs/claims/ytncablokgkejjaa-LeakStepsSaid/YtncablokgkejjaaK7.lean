/-
  The law of what each instruction leaks.
-/
import Derived.Test.YtncablokgkejjaaK6
import Derived.Test.YtncablokgkejjaaC14
set_option linter.unusedSimpArgs false
set_option linter.unusedVariables false
namespace Go.Abs
open Th
theorem both_of {H : AHeap} {r : Option (AV × AHeap)} (code : List (BitVec 16)) (w0 w1 w2 w3 : BitVec 32) (hr : law07_both.spec [.rsl 1 (w16s code), .agg [W32 w0, W32 w1, W32 w2, W32 w3]] H = r) (hw : H.WF) (hc : code.length ≤ 1000) :
    ∃ B I, r = some (.tup [.ptr I.b 5 0 0, .ptr I.rb 5 0 0], B.two I (m78 code [w0, w1, w2, w3]) (m78 code [w0, w1, w2, w3])) ∧ TwoOk B I (m78 code [w0, w1, w2, w3]) ∧
      H.next ≤ B.next ∧ H.next ≤ I.b ∧ H.next ≤ I.wb ∧ H.next ≤ I.rb ∧ H.next ≤ I.rw ∧ H.next ≤ I.cb ∧ H.next ≤ I.tb ∧ ∀ c, c < H.next → B.get c = H.get c := by
  obtain ⟨B, I, h1, h2⟩ := both_ex H hw code hc w0 w1 w2 w3
  exact ⟨B, I, by rw [← hr, h1], h2⟩
theorem m78_facts (code : List (BitVec 16)) (w : List (BitVec 32)) : (m78 code w).Ok ∧ (m78 code w).words.length = 4 ∧ (m78 code w).code = code.take 60000 := by
  obtain ⟨q1, q2, q3, q4⟩ := put4_keep (MemM.new code 4 [7#32, 8#32]) w 4
  refine ⟨q4 (new_ok code [7#32, 8#32] 4 (by simp)), ?_, q1⟩
  unfold m78; rw [q3]; simp only [MemM.new, List.length_replicate]; decide
set_option maxHeartbeats 4000000 in
theorem leakSteps_law (i : InsM) (s : StM) (w0 w1 w2 w3 : BitVec 32) : law07_LeakSteps.spec [InsAV i, .agg s.cells, .agg [W32 w0, W32 w1, W32 w2, W32 w3]] = some (.bool true) := by
  have hP := rPut_eq i
  unfold InsAV at hP ⊢
  generalize putM i = p at hP
  obtain ⟨h, e⟩ := p
  dsimp only at hP
  by_cases he : e = 0
  · subst he
    simp -implicitDefEqProofs +contextual (disch := omega) [law07_LeakSteps.spec, law07_LeakSteps, hP]
    generalize hr : law07_both.spec _ _ = r
    obtain ⟨B, I, rfl, ok, i1, i2, i3, i4, i5, i6, i7, hB⟩ := both_of [1#16, 2#16, h, 3#16, 4#16] w0 w1 w2 w3 hr
      (by (repeat' (first | assumption | with_reducible apply killAll_wf | with_reducible apply AHeap.WF.push | with_reducible apply AHeap.WF.set | exact AHeap.WF.empty)) <;> (simp <;> omega)) (by simp)
    obtain ⟨hm, hwd, -⟩ := m78_facts [1#16, 2#16, h, 3#16, 4#16] [w0, w1, w2, w3]
    generalize m78 [1#16, 2#16, h, 3#16, 4#16] [w0, w1, w2, w3] = m at *
    simp only [next_killAll, AHeap.next_push, AHeap.next_set, empty_next] at i1 i2 i3 i4 i5 i6 i7 hB
    have g1 := hB 1 (by omega)
    simp at g1
    clear hr hB
    have ha1 : Apart I 1 := ⟨by omega, by omega, by omega, by omega, by omega, by omega⟩
    have hL := tLoad ok hm 0#32
    have hL2 := fun m1 => trLoad (m := m1) ok hm 0#32
    obtain ⟨k1, k2, k3⟩ := loads_keep m 0#32
    have ok4 := ok.of k1 k2
    have hm4 := loads_ok hm 0#32
    have hwd4 : (m.loads 0#32).2.words.length = 4 := by rw [k3]; exact hwd
    generalize (m.loads 0#32).1 = v at *
    generalize (m.loads 0#32).2 = m4 at *
    have hK := keeps_step (s.setPC 4#32) m4
    have ok' := ok4.of hK.code hK.tape
    have hm' := hK.ok hm4
    have hw0 := ok4.wf
    have j1 := ok4.hb; have j2 := ok4.hwb; have j3 := ok4.fix.hb; have j4 := ok4.fix.hwb
    have a1 := ha1.b; have a2 := ha1.wb; have a3 := ha1.rb; have a4 := ha1.rw
    have hS := fun B' (h1 : AHeap.WF B') h2 h3 => tLStep (ok4.more h1 h2 h3) hm4 (s.setPC 4#32)
    have hR := fun B' m1 (h1 : AHeap.WF B') h2 h3 => trLStep (m := m1) (ok4.more h1 h2 h3) hm4 (s.setPC 4#32)
    have hq := sm_ceqs (stepM (s.setPC 4#32) m4).s (stepM (s.setPC 4#32) m4).s
    unfold LeakAV LeakM.cells at hS hR
    generalize stepM (s.setPC 4#32) m4 = r at *
    generalize leakM (s.setPC 4#32) m4 = lk at *
    obtain ⟨rs, rm, rstop, re⟩ := r
    dsimp only at *
    simp -implicitDefEqProofs +contextual (disch := try first | omega | assumption | (simp only [AHeap.next_set, AHeap.next_push]; omega) | ((repeat' (first | assumption | with_reducible apply AHeap.WF.push | with_reducible apply AHeap.WF.set)) <;> first | omega | (simp only [AHeap.next_set, AHeap.next_push]; omega)) | (intro c hc; simp (disch := omega); done)) [hL, hL2, g1, hS, hR, hq, lives07, twoPush, twoSet, twoGet, two_next]
  · simp -implicitDefEqProofs +contextual (disch := omega) [law07_LeakSteps.spec, law07_LeakSteps, hP, he, lives07]
theorem law07_LeakSteps_law (args : List AV) (h : ArgsSh [(true, [.int .i64, .int .i64, .int .i64, .int .i64, .int .i64]), (true, [.int .u32, .int .u32, .int .u32, .int .u32, .int .u32, .int .u32, .int .u32, .int .u32, .int .u32, .bool, .bool, .bool, .bool]), (true, [.int .u32, .int .u32, .int .u32, .int .u32])] args) : law07_LeakSteps.spec args = some (.bool true) := by
  obtain ⟨a, _, rfl, h1, h⟩ := args_agg h
  obtain ⟨b, _, rfl, h2, h⟩ := args_agg h
  obtain ⟨c, _, rfl, h3, h⟩ := args_agg h
  obtain rfl := args_nil h
  obtain ⟨i, hi⟩ := sh_ins h1
  obtain ⟨s, rfl⟩ := sh_state h2
  obtain ⟨w0, w1, w2, w3, rfl⟩ := sh_four h3
  rw [hi]
  exact leakSteps_law i s w0 w1 w2 w3
end Go.Abs

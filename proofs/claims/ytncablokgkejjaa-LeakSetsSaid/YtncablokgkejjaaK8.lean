/-
  The law of what is told of the register that an instruction sets; that the step is just core's.
-/
import Derived.Test.YtncablokgkejjaaK7
import Derived.Test.YtncablokgkejjaaP2
import Derived.Test.YtncablokgkejjaaT9
set_option linter.unusedSimpArgs false
set_option linter.unusedVariables false
namespace Go.Abs
open Th
section
variable {B : AHeap} {J : Id4} {m n : MemM}
theorem pLStep1 (h : PpOk B J) (hm : m.Ok) (s : StM) : leak_Step.spec [.agg s.cells, .ptr J.b 5 0 0] (B.pp J m n) = some (LeakAV s m, B.pp J (stepM s m).m n) := by
  rw [pp_comm h, pp_comm h]; exact LStep_eq _ _ _ _ (pp_wf2 h) (by simpa using h.hb) (by simpa using h.hwb) h.ne hm s
end
theorem leak_told (s : StM) (m : MemM) (i : InsM) (hi : takeN (m.fetch s.pc).1.toNat = (i, 0)) (he : (stepM s m).e = 0) (hw : (writesM i).2 = true) : (leakM s m).r = (stepM s m).s.reg (writesM i).1.toNat ∧ (leakM s m).old = s.reg (writesM i).1.toNat := by
  unfold leakM
  rw [if_pos he, hi]
  unfold leakI
  simp [hw]
theorem leak_none (s : StM) (m : MemM) (he : ¬ (stepM s m).e = 0) : leakM s m = LeakM.zero := by unfold leakM; rw [if_neg he]
set_option maxHeartbeats 8000000 in
theorem leakSets_law (i : InsM) (s : StM) (w0 w1 w2 w3 : BitVec 32) : law07_LeakSets.spec [InsAV i, .agg s.cells, .agg [W32 w0, W32 w1, W32 w2, W32 w3]] = some (.bool true) := by
  have hP := rPut_eq i
  have hWr := rWrites_eq i
  have hpm := putM_ok i
  have htk := fun h => putM_take (i := i) h
  have hwd := fun h => writes_d i h
  unfold InsAV at hP hWr ⊢
  generalize putM i = p at *
  obtain ⟨h, e⟩ := p
  dsimp only at *
  by_cases he : e = 0
  · subst he
    replace htk := htk (hpm.1 rfl)
    replace hwd := hwd (hpm.1 rfl)
    simp -implicitDefEqProofs +contextual (disch := omega) [law07_LeakSets.spec, law07_LeakSets, hP]
    generalize hr : law07_both.spec _ _ = r
    obtain ⟨B, I, rfl, ok, i1, i2, i3, i4, i5, i6, i7, hB⟩ := both_of [h, 5#16, 6#16] w0 w1 w2 w3 hr
      (by (repeat' (first | assumption | with_reducible apply killAll_wf | with_reducible apply AHeap.WF.push | with_reducible apply AHeap.WF.set | exact AHeap.WF.empty)) <;> (simp <;> omega)) (by simp)
    obtain ⟨hm, hwl, hcd⟩ := m78_facts [h, 5#16, 6#16] [w0, w1, w2, w3]
    have hmm : m78 [h, 5#16, 6#16] [w0, w1, w2, w3] = m78 [h, 5#16, 6#16] [w0, w1, w2, w3] := rfl
    generalize hM : m78 [h, 5#16, 6#16] [w0, w1, w2, w3] = m at *
    simp only [next_killAll, AHeap.next_push, AHeap.next_set, empty_next] at i1 i2 i3 i4 i5 i6 i7 hB
    have g0 := hB 0 (by omega)
    have g1 := hB 1 (by omega)
    have g2 := hB 2 (by omega)
    simp at g0 g1 g2
    clear hr
    have t0 := two_get_rb (B := B) (I := I) (m := m) (r := m)
    have tb : (B.two I m m).get I.b = some (memBlk I.wb m) := by rw [two_get, if_neg ok.b1, if_neg (fun q => ok.b3 q.1), if_pos rfl]
    have tw : (B.two I m m).get I.wb = some (wrdBlk m.words) := by rw [two_get, if_neg ok.w1, if_neg (fun q => ok.w3 q.1), if_neg ok.ne.symm, if_pos rfl]
    have j1 := ok.hb; have j2 := ok.hwb; have j3 := ok.fix.hb; have j4 := ok.fix.hwb
    have twf := two_wf (m := m) ok
    simp -implicitDefEqProofs +contextual (disch := omega) [twoGet, g2, two_next]
    generalize hr : law07_both.spec _ _ = r
    obtain ⟨B2, I2, rfl, ok2, l1, l2, l3, l4, l5, l6, l7, hB2⟩ := both_of [h, 5#16, 6#16] w0 w1 w2 w3 hr
      (by (repeat' (first | assumption | with_reducible apply killAll_wf | with_reducible apply AHeap.WF.push | with_reducible apply AHeap.WF.set | exact AHeap.WF.empty)) <;> (simp <;> omega)) (by simp)
    rw [hM] at ok2 ⊢
    simp only [next_killAll, AHeap.next_push, two_next] at l1 l2 l3 l4 l5 l6 l7 hB2
    have b0 := hB2 0 (by omega)
    have b1 := hB2 1 (by omega)
    have bb := hB2 I.b (by omega)
    have bw := hB2 I.wb (by omega)
    simp (disch := omega) [twoGet, g0, g1, two_next, tb, tw] at b0 b1 bb bw
    clear hr hB2 hB
    obtain ⟨J, e1, e2, e3, e4⟩ : ∃ J : Id4, J.b = I.b ∧ J.wb = I.wb ∧ J.c = I2.b ∧ J.wc = I2.wb := ⟨⟨I.b, I.wb, I2.b, I2.wb⟩, rfl, rfl, rfl, rfl⟩
    obtain ⟨C, hC⟩ : ∃ C, C = B2.rmem I2.rb I2.cb I2.rw I2.tb m := ⟨_, rfl⟩
    have hCg : ∀ c, c < B.next → C.get c = B2.get c := fun c q => by rw [hC, rmem_get, if_neg (by omega), if_neg (by omega)]
    have hCn : C.next = B2.next := by rw [hC]; simp
    have j5 := ok2.hb; have j6 := ok2.hwb
    have hCm : C = C.mem J.b J.wb m := mem_self (by rw [hCg _ (by omega), e1, e2, bb]) (by rw [hCg _ (by omega), e2, bw])
    have hCC : B2.two I2 m m = C.pp J m m := by rw [two_comm ok2, ← hC, AHeap.pp, ← hCm, e3, e4]
    have okp : PpOk C J := ⟨by rw [hC]; exact rmem_wf' ok2, by omega, by omega, by omega, by omega, by rw [e1, e2]; exact ok.ne, by rw [e3, e4]; exact ok2.ne, by omega, by omega, by omega, by omega⟩
    have c0 := (hCg 0 (by omega)).trans b0
    have c1 := (hCg 1 (by omega)).trans b1
    rw [hCC, ← e1, ← e3]
    have k1 : (1 : Nat) ≠ J.b := by omega
    have k2 : (1 : Nat) ≠ J.wb := by omega
    have k3 : (1 : Nat) ≠ J.c := by omega
    have k4 : (1 : Nat) ≠ J.wc := by omega
    have k5 : (0 : Nat) ≠ J.b := by omega
    have k6 : (0 : Nat) ≠ J.wb := by omega
    have k7 : (0 : Nat) ≠ J.c := by omega
    have k8 : (0 : Nat) ≠ J.wc := by omega
    clear bb bw b0 b1 hCg hCm hCC tb tw t0 g0 g1 g2 ok2 ok twf
    have n1 := okp.hb; have n2 := okp.hwb; have n3 := okp.hc; have n4 := okp.hwc
    have hw0 := okp.wf
    have hK := keeps_step (s.setPC 0#32) m
    have hm' := hK.ok hm
    have hS := fun B' (h1 : AHeap.WF B') h2 => pLStep1 (B := B') (n := m) (okp.more h1 h2) hm (s.setPC 0#32)
    have hR := fun B' m1 (h1 : AHeap.WF B') h2 => pStep2 (B := B') (m := m1) (okp.more h1 h2) hm (s.setPC 0#32)
    have hW1 := fun B' (h1 : AHeap.WF B') h2 => pWords1 (B := B') (n := (stepM (s.setPC 0#32) m).m) (okp.more h1 h2) hm'
    have hW2 := fun B' (h1 : AHeap.WF B') h2 => pWords2 (B := B') (m := (stepM (s.setPC 0#32) m).m) (okp.more h1 h2) hm'
    have hsame := same_eq (stepM (s.setPC 0#32) m).m.words (stepM (s.setPC 0#32) m).m.words (by rw [hK.words]; omega)
    have hq := sm_ceqs (stepM (s.setPC 0#32) m).s (stepM (s.setPC 0#32) m).s
    have hf : m.fetch (s.setPC 0#32).pc = (h, 0) := by
      have : m.code = [h, 5#16, 6#16] := by rw [hcd]; rfl
      unfold MemM.fetch
      rw [this, if_pos (by simp)]
      simp [at0]
    have hli := leak_told (s.setPC 0#32) m i (by rw [hf]; exact htk)
    have hln := leak_none (s.setPC 0#32) m
    have hs0 : ∀ D, (s.setPC 0#32).reg D = s.reg D := fun _ => rfl
    have hs1 : s.cells.set 8 (W32 0#32) = (s.setPC 0#32).cells := sm_set8 s _
    generalize s.setPC 0#32 = s0 at *
    generalize hLk : leakM s0 m = lk at *
    unfold LeakAV LeakM.cells at hS
    rw [hLk] at hS
    unfold DidAV at hR
    generalize stepM s0 m = r at *
    obtain ⟨rs, rm, rstop, re⟩ := r
    dsimp only at *
    by_cases hre : re = 0
    · subst hre
      replace hli := hli rfl
      generalize writesM i = wr at *
      obtain ⟨d, b⟩ := wr
      cases b with
      | true =>
        obtain ⟨D, hD, hd, -, -⟩ := hwd rfl
        dsimp only at hd
        subst hd
        obtain ⟨v1, v2⟩ := hli rfl
        simp only [Int.toNat_natCast] at v1 v2
        simp -implicitDefEqProofs +contextual (disch := try first | omega | assumption | (simp only [AHeap.next_set, AHeap.next_push]; omega) | ((repeat' (first | assumption | with_reducible apply AHeap.WF.push | with_reducible apply AHeap.WF.set)) <;> first | omega | (simp only [AHeap.next_set, AHeap.next_push]; omega)) | (intro c hc; simp (disch := omega); done)) [c0, c1, hS, hR, hW1, hW2, hsame, hq, hWr, lives07, ppPush, ppSet, ppGet, pp_next, v1, v2]
      | false =>
        simp -implicitDefEqProofs +contextual (disch := try first | omega | assumption | (simp only [AHeap.next_set, AHeap.next_push]; omega) | ((repeat' (first | assumption | with_reducible apply AHeap.WF.push | with_reducible apply AHeap.WF.set)) <;> first | omega | (simp only [AHeap.next_set, AHeap.next_push]; omega)) | (intro c hc; simp (disch := omega); done)) [c0, c1, hS, hR, hW1, hW2, hsame, hq, hWr, lives07, ppPush, ppSet, ppGet, pp_next]
    · have v := hln hre
      subst v
      simp only [LeakM.zero] at hS
      simp -implicitDefEqProofs +contextual (disch := try first | omega | assumption | (simp only [AHeap.next_set, AHeap.next_push]; omega) | ((repeat' (first | assumption | with_reducible apply AHeap.WF.push | with_reducible apply AHeap.WF.set)) <;> first | omega | (simp only [AHeap.next_set, AHeap.next_push]; omega)) | (intro c hc; simp (disch := omega); done)) [c0, c1, hS, hR, hW1, hW2, hsame, hq, hWr, lives07, ppPush, ppSet, ppGet, pp_next, hre]
  · simp -implicitDefEqProofs +contextual (disch := omega) [law07_LeakSets.spec, law07_LeakSets, hP, he, lives07]
theorem law07_LeakSets_law (args : List AV) (h : ArgsSh [(true, [.int .i64, .int .i64, .int .i64, .int .i64, .int .i64]), (true, [.int .u32, .int .u32, .int .u32, .int .u32, .int .u32, .int .u32, .int .u32, .int .u32, .int .u32, .bool, .bool, .bool, .bool]), (true, [.int .u32, .int .u32, .int .u32, .int .u32])] args) : law07_LeakSets.spec args = some (.bool true) := by
  obtain ⟨a, _, rfl, h1, h⟩ := args_agg h
  obtain ⟨b, _, rfl, h2, h⟩ := args_agg h
  obtain ⟨c, _, rfl, h3, h⟩ := args_agg h
  obtain rfl := args_nil h
  obtain ⟨i, hi⟩ := sh_ins h1
  obtain ⟨s, rfl⟩ := sh_state h2
  obtain ⟨w0, w1, w2, w3, rfl⟩ := sh_four h3
  rw [hi]
  exact leakSets_law i s w0 w1 w2 w3
end Go.Abs

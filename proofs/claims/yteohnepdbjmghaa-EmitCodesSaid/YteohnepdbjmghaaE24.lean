/-
  All lines, by the document.
-/
import Derived.Test.YteohnepdbjmghaaEF
import Derived.Test.YteohnepdbjmghaaEE
set_option linter.unusedSimpArgs false
set_option linter.unusedVariables false
namespace Go.Abs
open Th
def sBlk (l : List (List UInt8)) : Blk := ⟨T.ty_string, 1, true, strRows l⟩
theorem rBeginRef_eq (H : AHeap) : ref25_Begin_ref.spec [] H = some (.sl H.next 1 0 4, H.push (sBlk (linesI beginI))) := by
  rw [beginI_lines]
  simp -implicitDefEqProofs +contextual (disch := omega) [ref25_Begin_ref.spec, ref25_Begin_ref, strRows, sBlk]
theorem fits_of (o : OpM) (w : Int) (h : o.ok w = true) (m : List Nat) (hm : ∀ x ∈ m, x ≤ 16000) (dst : Nat) (hd : dst ≤ 16000) : fitsI o dst ((srcI m o).map fun x : Nat => (x : Int)) = true := by
  rw [fitsR_eq]
  unfold OpM.ok at h
  simp only [Bool.and_eq_true, decide_eq_true_eq] at h
  obtain ⟨⟨⟨⟨q1, q2⟩, q3⟩, _⟩, _⟩ := h
  unfold fitsR
  have hs := srcI_le m hm o
  have e1 : takesM o.k = takesI o.k := by unfold takesM takesI; repeat' split <;> omega
  have e2 : ((srcI m o).length : Int) = takesI o.k := by
    have h0 : 0 ≤ takesI o.k := by unfold takesI; repeat' split <;> omega
    have h2 := takesI_le o.k
    unfold srcI
    split <;> split <;> simp <;> omega
  simp only [Bool.and_eq_true, decide_eq_true_eq, Bool.not_eq_true']
  refine ⟨⟨⟨⟨⟨q1, by omega⟩, ?_⟩, ?_⟩, ?_⟩, ?_⟩
  · rw [List.length_map, e1]; exact e2
  · simp [slotOk]; omega
  · rw [List.any_eq_false]
    intro x hx
    obtain ⟨y, hy, rfl⟩ := List.mem_map.1 hx
    have := hs y hy
    simp [slotOk]; omega
  · unfold numberM at q3
    simp only [numT, Bool.or_eq_true, Bool.and_eq_true, decide_eq_true_eq]
    split at q3
    · left; left; assumption
    · split at q3
      · right
        simp only [decide_eq_true_eq] at q3
        refine ⟨by omega, ?_⟩
        rw [BitVec.lt_def]; exact q3
      · left; right; simpa using q3
noncomputable abbrev rlL0 := ref25_Lines.l0 ref19_Can.spec ref25_Begin_ref.spec ref19_Takes.spec ref25_Step.spec
noncomputable abbrev rlL1 := ref25_Lines.l1 ref19_Can.spec ref25_Begin_ref.spec ref19_Takes.spec ref25_Step.spec
theorem rl_check (l : List Int) (hl : l.length ≤ 1000000000) (v2 : AV) (X : AHeap) {r} (hr : aloop rlL0 (AFr.al [(1, .rsl 1 (ints l)), (2, v2), (6, .int .i64 0)]) X = r) :
    ∃ e fr' X', r = some (e, fr', X') ∧ ((e = .exit 0 ∧ X' = X ∧ (l.any fun n => !slotOk n) = false ∧ ∃ y, fr' = AFr.al ([(1, .rsl 1 (ints l)), (2, v2)] ++ y)) ∨ (e = .ret ∧ (l.any fun n => !slotOk n) = true ∧ fr' 5 = .int .i64 1 ∧ ∃ b, fr' 4 = .sl b 1 0 0 ∧ X'.get b = some ⟨T.ty_string, 1, true, []⟩)) := by
  refine run_of hr (aloop_each l.length (fun k fr H => H = X ∧ ((l.take k).any fun n => !slotOk n) = false ∧ ∃ y, fr = AFr.al ([(1, .rsl 1 (ints l)), (2, v2), (6, .int .i64 k)] ++ y)) _ (fun k hk fr H hR => ?_) (fun fr H hR => ?_) ⟨rfl, by simp, [], rfl⟩)
  · obtain ⟨rfl, h3, y, rfl⟩ := hR
    have hk' : (k : Int) < l.length := by omega
    have hk1 : ((k + 1 : Nat) : Int) = (k : Int) + 1 := by omega
    have hme : ati l k ∈ l := by rw [ati_eq l k hk]; exact List.getElem_mem hk
    have hss : ((l.take (k + 1)).any fun n => !slotOk n) = !slotOk (ati l k) := by rw [List.take_succ_eq_append_getElem hk, List.any_append, h3, ati_eq l k hk]; simp
    rw [hss]
    cases hv : slotOk (ati l k) with
    | false =>
      have hx := (slotOk_no _).1 hv
      have hany : (l.any fun n => !slotOk n) = true := List.any_eq_true.2 ⟨_, hme, by rw [hv]; rfl⟩
      by_cases h0 : ati l k < 0
      · refine ⟨_, _, _, by simp -implicitDefEqProofs +contextual (disch := omega) [ref25_Lines.l0, hk, hk', h0]; first | rfl | exact ⟨rfl, rfl⟩ | exact ⟨rfl, rfl, rfl⟩, .inr ⟨by simp, .inr ⟨rfl, hany, by simp, _, by simp; rfl, by simp⟩⟩⟩
      · have h1 : 16000 < ati l k := by omega
        refine ⟨_, _, _, by simp -implicitDefEqProofs +contextual (disch := omega) [ref25_Lines.l0, hk, hk', h0, h1]; first | rfl | exact ⟨rfl, rfl⟩ | exact ⟨rfl, rfl, rfl⟩, .inr ⟨by simp, .inr ⟨rfl, hany, by simp, _, by simp; rfl, by simp⟩⟩⟩
    | true =>
      have h0 : ¬ ati l k < 0 := fun e => by rw [(slotOk_no _).2 (.inl e)] at hv; cases hv
      have h1 : ¬ 16000 < ati l k := fun e => by rw [(slotOk_no _).2 (.inr e)] at hv; cases hv
      rw [hk1]
      refine ⟨_, _, _, by simp -implicitDefEqProofs +contextual (disch := omega) [ref25_Lines.l0, hk, hk', h0, h1]; first | rfl | exact ⟨rfl, rfl⟩ | exact ⟨rfl, rfl, rfl⟩, .inl ⟨rfl, rfl, rfl, _, rfl⟩⟩
  · obtain ⟨rfl, h3, y, rfl⟩ := hR
    rw [List.take_length] at h3
    refine ⟨_, _, _, by simp -implicitDefEqProofs +contextual (disch := omega) [ref25_Lines.l0]; first | rfl | exact ⟨rfl, rfl⟩ | exact ⟨rfl, rfl, rfl⟩, by simp, .inl ⟨rfl, rfl, h3, _, rfl⟩⟩
def rlFr (m : List Nat) (ob n k : Nat) (y : List (Nat × AV)) : AFr := AFr.al ([(1, .rsl 1 (ints (iz m))), (2, .ptr 0 3 0 0), (7, .sl ob 1 0 n), (8, .int .i64 k)] ++ y)
set_option maxHeartbeats 4000000 in
theorem rl_round (c : CodeM) (n : Nat) (hn : c.inN = n) (m : List Nat) (hm : ∀ x ∈ m, x ≤ 16000) (hml : m.length = n + c.ops.length) (hop : c.ops.length ≤ 1000) (hin : n ≤ 4000) (k : Nat) (hk : k < c.ops.length) (hok : c.ops[k].ok (n + k : Nat) = true)
    (ls : List (List UInt8)) (hls : ls.length ≤ 50000) (ob : Nat) (H : AHeap) (y : List (Nat × AV)) (hw : H.WF) (h0 : H.get 0 = some (codeBlk c)) (hob : ob ≠ 0) (gb : H.get ob = some (sBlk ls)) :
    ∃ ob' H' y', rlL1 (rlFr m ob ls.length k y) H = some (.normal, rlFr m ob' (ls ++ linesI (stepI c.ops[k] (m.getD (n + k) 0) (srcI m c.ops[k]))).length (k + 1) y', H') ∧ H'.WF ∧ H'.get 0 = some (codeBlk c) ∧ ob' ≠ 0 ∧ H'.get ob' = some (sBlk (ls ++ linesI (stepI c.ops[k] (m.getD (n + k) 0) (srcI m c.ops[k])))) := by
  have hk' : (k : Int) < c.ops.length := by omega
  have hk1 : ((k + 1 : Nat) : Int) = (k : Int) + 1 := by omega
  have hrow := opRows_get c.ops k hk
  have h0b := hw _ _ h0
  have hbb := hw _ _ gb
  have hT := rtakes_eq c.ops[k].k
  have htm : takesM c.ops[k].k = takesI c.ops[k].k := by
    unfold OpM.ok at hok
    simp only [Bool.and_eq_true, decide_eq_true_eq] at hok
    unfold takesM takesI; repeat' split <;> omega
  rw [htm] at hT
  have hS := rStep_eq' c.ops[k] (m.getD (n + k) 0) (srcI m c.ops[k]) (fits_of _ _ hok m hm _ (getD_le m hm _))
  have hnk : (n : Int) + k = ((n + k : Nat) : Int) := by omega
  have hgk := iz_get m (n + k) (by omega)
  rw [codeBlk_eq, hn] at h0
  simp only [codeBlk_eq, hn]
  have hOl : (opRows c.ops).length = c.ops.length := opRows_length _
  have hIl : (ints (iz m)).length = m.length := by simp
  unfold OpM.ok at hok
  simp only [Bool.and_eq_true, decide_eq_true_eq] at hok
  obtain ⟨⟨⟨⟨q1, q2⟩, q3⟩, q4⟩, q5⟩ := hok
  have hta : 0 < takesI c.ops[k].k → ∃ A : Nat, c.ops[k].a = A ∧ A < m.length := fun h => by
    have : 0 < takesM c.ops[k].k := by omega
    simp [wireM, this] at q4
    exact ⟨c.ops[k].a.toNat, by omega, by omega⟩
  have htb : 1 < takesI c.ops[k].k → ∃ B : Nat, c.ops[k].b = B ∧ B < m.length := fun h => by
    have : 1 < takesM c.ops[k].k := by omega
    simp [wireM, this] at q5
    exact ⟨c.ops[k].b.toNat, by omega, by omega⟩
  have hts := takesI_le c.ops[k].k
  have hSl := stepI_le c.ops[k] (m.getD (n + k) 0) (srcI m c.ops[k]) (srcI_len m _)
  unfold rlFr
  clear q1 q2 q3 q4 q5 htm
  have hLl : (linesI (stepI c.ops[k] (m.getD (n + k) 0) (srcI m c.ops[k]))).length ≤ 22 := by simpa using hSl
  clear hSl
  generalize hN : n + k = N at *
  generalize hL : linesI (stepI c.ops[k] (m.getD N 0) (srcI m c.ops[k])) = L at *
  generalize c.ops[k] = o at *
  obtain ⟨ok, oa, ob', on⟩ := o
  simp only [OpM.cells] at hrow hS
  dsimp only at hta htb hts hT
  simp only [sBlk] at gb ⊢
  have hsa := strRows_append ls L
  have hob2 : ¬ 0 = ob := fun e => hob e.symm
  have hsl := strRows_length L
  have hsl2 := strRows_length ls
  rw [← hsa, List.length_append]
  have hc : takesI ok = 0 ∨ takesI ok = 1 ∨ takesI ok = 2 := by
    have h0 : 0 ≤ takesI ok := by unfold takesI; repeat' split <;> omega
    omega
  rcases hc with hc | hc | hc
  · rw [hc] at hT hta htb
    have hsr : srcI m ⟨ok, oa, ob', on⟩ = [] := by simp [srcI, hc]
    rw [hsr] at hS
    simp only [List.map_nil, List.map_cons, ints] at hS
    generalize m.getD N 0 = z at *
    generalize ints (iz m) = I at *
    generalize opRows c.ops = R at *
    generalize strRows L = SL at *
    generalize strRows ls = SS at *
    refine ⟨?_, ?_, ?_, ?_, ?_, ?_, ?_, ?_⟩
    rotate_left 3
    · simp -implicitDefEqProofs +contextual (disch := try first | omega | assumption | (simp; done)) [ref25_Lines.l1, hk', hk1, hrow, hOl, h0, gb, hT, hnk, hgk, hIl, hS, hsl, hsl2, -getElem?_pos]
      constructor <;> rfl
    · (repeat' (first | assumption | with_reducible apply AHeap.WF.push | with_reducible apply AHeap.WF.set | with_reducible apply killAll_wf | exact AHeap.WF.empty)) <;> (simp <;> omega)
    · simp (disch := omega) [h0, hob2]
    · omega
    · simp (disch := omega)
  · rw [hc] at hT hta htb
    obtain ⟨A, rfl, hA⟩ := hta (by omega)
    have hga := iz_get m A hA
    have hsr : srcI m ⟨ok, A, ob', on⟩ = [m.getD A 0] := by simp [srcI, hc]
    rw [hsr] at hS
    simp only [List.map_nil, List.map_cons, ints] at hS
    generalize m.getD N 0 = z at *
    generalize m.getD A 0 = x at *
    generalize ints (iz m) = I at *
    generalize opRows c.ops = R at *
    generalize strRows L = SL at *
    generalize strRows ls = SS at *
    refine ⟨?_, ?_, ?_, ?_, ?_, ?_, ?_, ?_⟩
    rotate_left 3
    · simp -implicitDefEqProofs +contextual (disch := try first | omega | assumption | (simp; done)) [ref25_Lines.l1, hk', hk1, hrow, hOl, h0, gb, hT, hnk, hgk, hIl, hS, hsl, hsl2, hga, hA, -getElem?_pos]
      constructor <;> rfl
    · (repeat' (first | assumption | with_reducible apply AHeap.WF.push | with_reducible apply AHeap.WF.set | with_reducible apply killAll_wf | exact AHeap.WF.empty)) <;> (simp <;> omega)
    · simp (disch := omega) [h0, hob2]
    · omega
    · simp (disch := omega)
  · rw [hc] at hT hta htb
    obtain ⟨A, rfl, hA⟩ := hta (by omega)
    have hga := iz_get m A hA
    obtain ⟨B, rfl, hB⟩ := htb (by omega)
    have hgb := iz_get m B hB
    have hsr : srcI m ⟨ok, A, B, on⟩ = [m.getD A 0, m.getD B 0] := by simp [srcI, hc]
    rw [hsr] at hS
    simp only [List.map_nil, List.map_cons, ints] at hS
    generalize m.getD N 0 = z at *
    generalize m.getD A 0 = x at *
    generalize m.getD B 0 = x2 at *
    generalize ints (iz m) = I at *
    generalize opRows c.ops = R at *
    generalize strRows L = SL at *
    generalize strRows ls = SS at *
    refine ⟨?_, ?_, ?_, ?_, ?_, ?_, ?_, ?_⟩
    rotate_left 3
    · simp -implicitDefEqProofs +contextual (disch := try first | omega | assumption | (simp; done)) [ref25_Lines.l1, hk', hk1, hrow, hOl, h0, gb, hT, hnk, hgk, hIl, hS, hsl, hsl2, hga, hgb, hA, hB, -getElem?_pos]
      constructor <;> rfl
    · (repeat' (first | assumption | with_reducible apply AHeap.WF.push | with_reducible apply AHeap.WF.set | with_reducible apply killAll_wf | exact AHeap.WF.empty)) <;> (simp <;> omega)
    · simp (disch := omega) [h0, hob2]
    · omega
    · simp (disch := omega)
theorem rl_loop (c : CodeM) (n : Nat) (hn : c.inN = n) (m : List Nat) (hm : ∀ x ∈ m, x ≤ 16000) (hml : m.length = n + c.ops.length) (hop : c.ops.length ≤ 1000) (hin : n ≤ 4000) (hok : opsOk c.ops c.inN = true)
    (ob : Nat) (H : AHeap) (hw : H.WF) (h0 : H.get 0 = some (codeBlk c)) (hob : ob ≠ 0) (gb : H.get ob = some (sBlk (linesI beginI))) {r} (hr : aloop rlL1 (rlFr m ob 4 0 []) H = r) :
    ∃ e fr' X', r = some (e, fr', X') ∧ (e = .exit 2 ∧ ∃ ob, fr' 7 = .sl ob 1 0 (linesI (upI c m c.ops.length)).length ∧ X'.get ob = some (sBlk (linesI (upI c m c.ops.length))) ∧ X'.WF) := by
  refine run_of hr (aloop_each c.ops.length (fun k fr X => ∃ y ob, fr = rlFr m ob (linesI (upI c m k)).length k y ∧ X.WF ∧ X.get 0 = some (codeBlk c) ∧ ob ≠ 0 ∧ X.get ob = some (sBlk (linesI (upI c m k)))) _ (fun k hk fr X hR => ?_) (fun fr X hR => ?_) ⟨[], ob, rfl, hw, h0, hob, by simpa [upI] using gb⟩)
  · obtain ⟨y, ob, rfl, q1, q2, q3, q4⟩ := hR
    have hu := upI_le c m k
    have hok' := (opsOk_all _ _).1 hok k hk
    rw [hn, show (n : Int) + k = ((n + k : Nat) : Int) by omega] at hok'
    obtain ⟨ob2, H2, y2, s1, s2, s3, s4, s5⟩ := rl_round c n hn m hm hml hop hin k hk hok' (linesI (upI c m k)) (by simp; omega) ob X y q1 q2 q3 q4
    have e1 : c.ops.getD k opZ = c.ops[k] := by simp [List.getD_eq_getElem?_getD, hk]
    have e2 : linesI (upI c m (k + 1)) = linesI (upI c m k) ++ linesI (stepI c.ops[k] (m.getD (n + k) 0) (srcI m c.ops[k])) := by
      rw [upI_succ, linesI_append, blkI, e1, hn, Int.toNat_natCast]
    rw [← e2] at s1 s5
    exact ⟨_, _, _, s1, .inl ⟨rfl, y2, ob2, rfl, s2, s3, s4, s5⟩⟩
  · obtain ⟨y, ob, rfl, q1, q2, q3, q4⟩ := hR
    rw [codeBlk_eq] at q2
    refine ⟨_, _, _, by simp -implicitDefEqProofs +contextual (disch := omega) [ref25_Lines.l1, rlFr, q2]; first | rfl | exact ⟨rfl, rfl⟩ | exact ⟨rfl, rfl, rfl⟩, by simp, rfl, ob, by simp [rlFr], q4, q1⟩
def bkT : List UInt8 := [98, 107, 112, 116, 32, 35, 48]
def codeT (c : CodeM) (m : List Nat) : List (List UInt8) := linesI (upI c m c.ops.length) ++ [bkT]
set_option maxHeartbeats 4000000 in
theorem rLines_eq (c : CodeM) (hop : c.ops.length ≤ 1000) (hout : c.outs.length ≤ 1000000000) (slots : List Int) (hl : slots.length ≤ 1000000000) :
    ref25_Lines.spec [.agg c.cells, .rsl 1 (ints slots)] = some (if codeFits c slots = true then .tup [.rsl 1 (strRows (codeT c (slots.map Int.toNat))), .int .i64 0] else .tup [.rsl 1 [], .int .i64 1]) := by
  have hC := irCan_eq c hout (by omega)
  have hcb := codeBlk_eq c
  unfold codeFits
  unfold CodeM.cells at hC ⊢
  cases hcan : c.can with
  | false =>
    rw [hcan] at hC
    simp -implicitDefEqProofs +contextual (disch := omega) [ref25_Lines.spec, ref25_Lines, hC]
  | true =>
    rw [hcan] at hC
    have hcan' := hcan
    unfold CodeM.can at hcan'
    simp only [Bool.and_eq_true, decide_eq_true_eq] at hcan'
    obtain ⟨⟨⟨⟨q1, q2⟩, q3⟩, q4⟩, q5⟩ := hcan'
    obtain ⟨n, hn⟩ : ∃ n : Nat, c.inN = n := ⟨c.inN.toNat, by omega⟩
    rw [hn] at hC hcb ⊢
    have hn4 : n ≤ 4000 := by omega
    by_cases hlen : (slots.length : Int) = n + c.ops.length
    · rw [decide_eq_true hlen]
      simp -implicitDefEqProofs +contextual (disch := omega) [ref25_Lines.spec, ref25_Lines, hC, hlen]
      generalize hr : aloop _ _ _ = r
      obtain ⟨e, fr', X', rfl, ⟨rfl, rfl, hany, y, rfl⟩ | ⟨rfl, hany, h5, b, h4, g4⟩⟩ := rl_check slots hl _ _ hr
      · obtain ⟨m, rfl, hm⟩ := slots_nat slots hany
        have hmm : (m.map fun x : Nat => (x : Int)).map Int.toNat = m := by rw [List.map_map]; exact (List.map_congr_left fun x _ => by simp).trans (List.map_id m)
        rw [hmm, if_pos (fun a ha => by obtain ⟨x, hx, rfl⟩ := List.mem_map.1 ha; have := hm x hx; simp [slotOk]; omega)]
        rw [List.length_map] at hlen
        have hB := rBeginRef_eq
        simp -implicitDefEqProofs +contextual (disch := omega) [hB]
        generalize hr : aloop _ _ _ = r
        obtain ⟨e, fr', X', rfl, rfl, ob, s1, s2, s3⟩ := rl_loop c n hn m hm (by omega) hop (by omega) q4 1 _ (by (repeat' (first | assumption | with_reducible apply AHeap.WF.push | with_reducible apply AHeap.WF.set | with_reducible apply killAll_wf | exact AHeap.WF.empty)) <;> (simp <;> omega)) (by simp [hcb, sBlk]) (by omega) (by simp) hr
        have hu := upI_le c m c.ops.length
        have hul : (linesI (upI c m c.ops.length)).length = (upI c m c.ops.length).length := linesI_length _
        rw [← hul] at hu
        unfold codeT
        rw [← strRows_append]
        have hsl := strRows_length (linesI (upI c m c.ops.length))
        simp only [sBlk] at s2
        have hbo := s3 _ _ s2
        generalize linesI (upI c m c.ops.length) = L at *
        generalize strRows L = SL at *
        have hbk : strRows [bkT] = [[.str (bs [98, 107, 112, 116, 32, 35, 48])]] := rfl
        rw [hbk]
        have hall : List.take (L.length + 1) (SL ++ [[AV.str (bs [98, 107, 112, 116, 32, 35, 48])]]) = SL ++ [[AV.str (bs [98, 107, 112, 116, 32, 35, 48])]] := List.take_of_length_le (by simp [hsl])
        simp -implicitDefEqProofs +contextual (disch := omega) [s1, s2, hsl, hall]
      · have hb := h4
        simp -implicitDefEqProofs +contextual (disch := omega) [h4, h5, g4]
        simpa using hany
    · rw [decide_eq_false hlen]
      simp -implicitDefEqProofs +contextual (disch := omega) [ref25_Lines.spec, ref25_Lines, hC, hlen]
end Go.Abs

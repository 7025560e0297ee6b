/-
  Code over wires, by the document: random words, copies, one code and another, what goes out, bits.
-/
import Derived.Test.YthignlpdeaglaaaJ13
import Derived.Test.YthignlpdeaglaaaSm
set_option linter.unusedSimpArgs false
set_option linter.unusedVariables false
namespace Go.Abs
theorem codeBlk_eq (c : CodeM) : codeBlk c = ⟨T.ty_api_Code, 3, true, [[.int .i64 c.inN, .rsl 4 (opRows c.ops), .rsl 1 (ints c.outs)]]⟩ := rfl
theorem rRandoms_eq (c : CodeM) (hl : c.ops.length ≤ 1000000000) : ref19_Randoms.spec [.agg c.cells] = some (.int .i64 (c.randoms : Nat)) := by
  unfold CodeM.cells
  simp -implicitDefEqProofs +contextual (disch := omega) [ref19_Randoms.spec, ref19_Randoms]
  generalize hr : aloop _ _ _ = r
  obtain ⟨e, fr', X', rfl, rfl, hq⟩ : ∃ e fr' X', r = some (e, fr', X') ∧ (e = .exit 0 ∧ fr' 3 = .int .i64 (c.randoms : Nat)) := by
    refine run_of hr (aloop_each c.ops.length (fun k fr H => (∃ y, fr = AFr.al ([(1, .ptr 0 3 0 0), (3, .int .i64 (rndL (c.ops.take k) : Nat)), (4, .int .i64 k)] ++ y)) ∧ H.get 0 = some (codeBlk c)) _ (fun k hk fr H hR => ?_) (fun fr H hR => ?_) ⟨⟨[], rfl⟩, by simp [codeBlk_eq]⟩)
    · obtain ⟨⟨y, rfl⟩, h2⟩ := hR
      rw [codeBlk_eq] at h2
      have hk' : (k : Int) < c.ops.length := by omega
      have hk1 : ((k + 1 : Nat) : Int) = (k : Int) + 1 := by omega
      have hrow := opRows_get c.ops k hk
      have hb : rndL (c.ops.take k) ≤ k := Nat.le_trans (rndL_le _) (by rw [List.length_take]; omega)
      have hs : rndL (c.ops.take (k + 1)) = rndL (c.ops.take k) + if c.ops[k].k = 0 then 1 else 0 := by
        rw [List.take_succ_eq_append_getElem hk]
        unfold rndL
        rw [List.filter_append, List.length_append]
        by_cases q : c.ops[k].k = 0 <;> simp [q]
      rw [hs]
      generalize c.ops[k] = o at *
      generalize rndL (c.ops.take k) = n at *
      simp only [OpM.cells] at hrow
      have hn1 : ((n + 1 : Nat) : Int) = (n : Int) + 1 := by omega
      by_cases h0 : o.k = 0
      · rw [if_pos h0, hn1, hk1]
        refine ⟨_, _, _, by simp -implicitDefEqProofs +contextual (disch := omega) [ref19_Randoms.l0, h2, hrow, hk', h0]; first | rfl | exact ⟨rfl, rfl⟩ | exact ⟨rfl, rfl, rfl⟩, .inl ⟨rfl, ⟨_, rfl⟩, by rw [codeBlk_eq]; exact h2⟩⟩
      · rw [if_neg h0, hk1, Nat.add_zero]
        refine ⟨_, _, _, by simp -implicitDefEqProofs +contextual (disch := omega) [ref19_Randoms.l0, h2, hrow, hk', h0]; first | rfl | exact ⟨rfl, rfl⟩ | exact ⟨rfl, rfl, rfl⟩, .inl ⟨rfl, ⟨_, rfl⟩, by rw [codeBlk_eq]; exact h2⟩⟩
    · obtain ⟨⟨y, rfl⟩, h2⟩ := hR
      rw [codeBlk_eq] at h2
      refine ⟨_, _, _, by simp -implicitDefEqProofs +contextual (disch := omega) [ref19_Randoms.l0, h2]; first | rfl | exact ⟨rfl, rfl⟩ | exact ⟨rfl, rfl, rfl⟩, by simp, rfl, ?_⟩
      simp [rndL, CodeM.randoms]
  simp -implicitDefEqProofs +contextual (disch := omega) [hq]
theorem rOwn_eq (c : CodeM) (hl : c.ops.length ≤ 1000000000) (hb : c.outs.length ≤ 1000000000) : ref19_Own.spec [.agg c.cells] = some (.agg c.cells) := by
  unfold CodeM.cells
  simp -implicitDefEqProofs +contextual (disch := omega) [ref19_Own.spec, ref19_Own]
  have e1 : (opRows c.ops).take c.ops.length = opRows c.ops := by rw [← opRows_length c.ops, List.take_length]
  by_cases h1 : opRows c.ops = []
  · by_cases h2 : ints c.outs = []
    · simp -implicitDefEqProofs +contextual (disch := omega) [h1, h2, e1]
    · simp -implicitDefEqProofs +contextual (disch := omega) [h1, h2, e1]
  · by_cases h2 : ints c.outs = []
    · simp -implicitDefEqProofs +contextual (disch := omega) [h1, h2, e1]
    · simp -implicitDefEqProofs +contextual (disch := omega) [h1, h2, e1]
theorem rSame_eq (a b : CodeM) (hl : a.ops.length ≤ 1000000000) (hb : a.outs.length ≤ 1000000000) : ref19_Same.spec [.agg a.cells, .agg b.cells] = some (.bool (decide (a = b))) := by
  have hS := sameI_eq a.outs b.outs hb
  obtain ⟨an, ao, au⟩ := a
  obtain ⟨bn, bo, bu⟩ := b
  unfold CodeM.cells
  dsimp only at *
  have hd : decide (CodeM.mk an ao au = CodeM.mk bn bo bu) = (decide (an = bn) && decide (ao = bo) && decide (au = bu)) := by
    rw [Bool.eq_iff_iff]; simp [CodeM.mk.injEq, and_assoc]
  rw [hd]
  by_cases h1 : an = bn
  · by_cases h2 : ao.length = bo.length
    · by_cases h3 : au = bu
      · rw [decide_eq_true h3] at hS
        simp -implicitDefEqProofs +contextual (disch := omega) [ref19_Same.spec, ref19_Same, h1, h2, hS]
        generalize hr : aloop _ _ _ = r
        obtain ⟨e, fr', X', rfl, hq⟩ : ∃ e fr' X', r = some (e, fr', X') ∧ ((ao = bo ∧ e = .exit 0) ∨ (ao ≠ bo ∧ e = .ret ∧ fr' 4 = .bool false)) := by
          refine run_of hr (aloop_each ao.length (fun k fr H => (∃ y, fr = AFr.al ([(2, .ptr 0 3 0 0), (3, .ptr 1 3 0 0), (5, .int .i64 k)] ++ y)) ∧ (H.get 0 = some ⟨T.ty_api_Code, 3, true, [[.int .i64 bn, .rsl 4 (opRows ao), .rsl 1 (ints au)]]⟩ ∧ H.get 1 = some ⟨T.ty_api_Code, 3, true, [[.int .i64 bn, .rsl 4 (opRows bo), .rsl 1 (ints bu)]]⟩) ∧ ∀ i (p : i < ao.length) (q : i < bo.length), i < k → ao[i] = bo[i]) _ (fun k hk fr H hR => ?_) (fun fr H hR => ?_) ⟨⟨[], rfl⟩, ⟨by simp, by simp⟩, fun i _ _ h => absurd h (by omega)⟩)
          · obtain ⟨⟨y, rfl⟩, ⟨g0, g1⟩, h3⟩ := hR
            have hk' : (k : Int) < ao.length := by omega
            have hk1 : ((k + 1 : Nat) : Int) = (k : Int) + 1 := by omega
            have hkb : k < bo.length := by omega
            have hra := opRows_get ao k hk
            have hrb := opRows_get bo k hkb
            have hl2 : (k : Int) < bo.length := by omega
            generalize ha : ao[k] = oa at *
            generalize hb' : bo[k] = ob at *
            have hab : (oa = ob) ↔ oa.k = ob.k ∧ oa.a = ob.a ∧ oa.b = ob.b ∧ oa.n = ob.n := by
              obtain ⟨_, _, _, _⟩ := oa; obtain ⟨_, _, _, _⟩ := ob; simp
            simp only [OpM.cells] at hra hrb
            refine ex_run (s := ?_) ?_ ?_; rotate_left; simp -implicitDefEqProofs +contextual (disch := try first | omega | assumption | (simp; done)) [ref19_Same.l0, g0, g1, hra, hrb, hk', hl2, hk1]; rfl
            refine acondp_ex (fun h => ?_) (fun h => ?_)
            · refine ex_run (s := ?_) ?_ ?_; rotate_left; simp -implicitDefEqProofs +contextual (disch := try first | omega | assumption | (simp; done)) [ref19_Same.l0]; rfl
              refine ⟨_, _, _, rfl, .inr ⟨by simp, .inr ⟨fun q => ?_, rfl, by simp⟩⟩⟩
              subst q
              have := hab.1 (ha.symm.trans hb')
              simp [this] at h
            · refine ex_run (s := ?_) ?_ ?_; rotate_left; simp -implicitDefEqProofs +contextual (disch := try first | omega | assumption | (simp; done)) [ref19_Same.l0, hk1]; rfl
              refine ⟨_, _, _, rfl, .inl ⟨rfl, ⟨_, rfl⟩, ⟨g0, g1⟩, fun i p q hi => ?_⟩⟩
              by_cases e : i = k
              · subst e; rw [ha, hb', hab]
                simpa [not_or] using h
              · exact h3 i p q (by omega)
          · obtain ⟨⟨y, rfl⟩, ⟨g0, g1⟩, h3⟩ := hR
            refine ⟨_, _, _, by simp -implicitDefEqProofs +contextual (disch := omega) [ref19_Same.l0, g0]; first | rfl | exact ⟨rfl, rfl⟩ | exact ⟨rfl, rfl, rfl⟩, by simp, .inl ⟨List.ext_getElem h2 fun i q1 q2 => h3 i q1 q2 q1, rfl⟩⟩
        rcases hq with ⟨h, rfl⟩ | ⟨h, rfl, q⟩
        · simp -implicitDefEqProofs +contextual (disch := omega) [h]
        · simp -implicitDefEqProofs +contextual (disch := omega) [h, q]
      · rw [decide_eq_false h3] at hS
        simp -implicitDefEqProofs +contextual (disch := omega) [ref19_Same.spec, ref19_Same, h1, h2, hS, h3]
    · have : ao ≠ bo := fun e => h2 (by rw [e])
      simp -implicitDefEqProofs +contextual (disch := omega) [ref19_Same.spec, ref19_Same, h1, h2, this]
  · simp -implicitDefEqProofs +contextual (disch := omega) [ref19_Same.spec, ref19_Same, h1]
theorem rOuts_eq (c : CodeM) (w : List (BitVec 32)) (hb : c.outs.length ≤ 1000000000) (hb2 : c.ops.length ≤ 1000000000) (hw : w.length ≤ 1000000000) :
    ref19_Outs.spec [.agg c.cells, .rsl 1 (w32s w)] = some (.rsl 1 (w32s (c.outsM w))) := by
  unfold CodeM.cells
  simp -implicitDefEqProofs +contextual (disch := omega) [ref19_Outs.spec, ref19_Outs]
  generalize hr : aloop _ _ _ = r
  obtain ⟨e, fr', X', rfl, rfl, ob, hq, hq2⟩ : ∃ e fr' X', r = some (e, fr', X') ∧ (e = .exit 0 ∧ ∃ ob, fr' 5 = .sl ob 1 0 (c.outsM w).length ∧ X'.get ob = some ⟨T.ty_uint32, 1, true, w32s (c.outsM w)⟩) := by
    refine run_of hr (aloop_each c.outs.length (fun k fr H => ∃ y ob, fr = AFr.al ([(1, .rsl 1 (w32s w)), (2, .ptr 0 3 0 0), (5, .sl ob 1 0 k), (6, .int .i64 k)] ++ y) ∧ H.WF ∧ ob ≠ 0 ∧ H.get 0 = some (codeBlk c) ∧ H.get ob = some ⟨T.ty_uint32, 1, true, w32s ((c.outs.take k).map (outV w))⟩) _ (fun k hk fr H hR => ?_) (fun fr H hR => ?_) ⟨[], 1, rfl, ?_, by omega, by simp [codeBlk_eq], by simp [w32s]⟩)
    · obtain ⟨y, ob, rfl, hw, h0, g0, gb⟩ := hR
      rw [codeBlk_eq] at g0
      have hk' : (k : Int) < c.outs.length := by omega
      have hk1 : ((k + 1 : Nat) : Int) = (k : Int) + 1 := by omega
      have hrow := ints_at c.outs k hk
      have hs : (c.outs.take (k + 1)).map (outV w) = (c.outs.take k).map (outV w) ++ [outV w c.outs[k]] := by rw [List.take_succ_eq_append_getElem hk, List.map_append]; rfl
      have hlen : ((c.outs.take k).map (outV w)).length = k := by simp; omega
      rw [hs]
      have hbo := hw _ _ gb
      generalize (c.outs.take k).map (outV w) = l at *
      subst hlen
      generalize c.outs[l.length] = x at *
      have hv : ∀ (p : 0 ≤ x ∧ x < w.length), outV w x = at0 w x.toNat := fun p => by simp [outV, p.1]
      have hv2 : ∀ (p : ¬ (0 ≤ x ∧ x < w.length)), outV w x = 0#32 := fun p => by
        unfold outV; split
        · rename_i q; simp [at0, List.getD_eq_getElem?_getD]; rw [List.getElem?_eq_none (by omega)]; rfl
        · rfl
      refine ex_run (s := ?_) ?_ ?_; rotate_left; simp -implicitDefEqProofs +contextual (disch := try first | omega | assumption | (simp; done)) [ref19_Outs.l0, g0, gb, hrow, hk', hk1, pick_andG]; rfl
      refine acondp_ex (fun h => ?_) (fun h => ?_)
      · refine ex_run (s := ?_) ?_ ?_; rotate_left; simp -implicitDefEqProofs +contextual (disch := try first | omega | assumption | (simp; done)) [ref19_Outs.l0, g0, gb, hrow, hk', hk1, h]; rfl
        refine ⟨_, _, _, rfl, .inl ⟨rfl, _, _, rfl, ?_, ?_, ?_, ?_⟩⟩
        · (repeat' (first | assumption | with_reducible apply AHeap.WF.push | with_reducible apply AHeap.WF.set | with_reducible apply killAll_wf | exact AHeap.WF.empty)) <;> (simp <;> omega)
        · omega
        · simp (disch := omega) [g0, codeBlk_eq]
        · rw [hv (by omega)]; simp (disch := omega) [w32s_snoc]
      · refine ex_run (s := ?_) ?_ ?_; rotate_left; simp -implicitDefEqProofs +contextual (disch := try first | omega | assumption | (simp; done)) [ref19_Outs.l0, g0, gb, hrow, hk', hk1, h]; rfl
        refine ⟨_, _, _, rfl, .inl ⟨rfl, _, _, rfl, ?_, ?_, ?_, ?_⟩⟩
        · (repeat' (first | assumption | with_reducible apply AHeap.WF.push | with_reducible apply AHeap.WF.set | with_reducible apply killAll_wf | exact AHeap.WF.empty)) <;> (simp <;> omega)
        · omega
        · simp (disch := omega) [g0, codeBlk_eq]
        · rw [hv2 h]; simp (disch := omega) [w32s_snoc]
    · obtain ⟨y, ob, rfl, hw, h0, g0, gb⟩ := hR
      rw [codeBlk_eq] at g0
      refine ⟨_, _, _, by simp -implicitDefEqProofs +contextual (disch := omega) [ref19_Outs.l0, g0]; first | rfl | exact ⟨rfl, rfl⟩ | exact ⟨rfl, rfl, rfl⟩, by simp, rfl, ob, ?_, ?_⟩
      · simp [CodeM.outsM]
      · rw [List.take_length] at gb; exact gb
    · (repeat' (first | assumption | with_reducible apply AHeap.WF.push | with_reducible apply AHeap.WF.set | with_reducible apply killAll_wf | exact AHeap.WF.empty)) <;> (simp <;> omega)
  simp -implicitDefEqProofs +contextual (disch := omega) [hq, hq2]
end Go.Abs

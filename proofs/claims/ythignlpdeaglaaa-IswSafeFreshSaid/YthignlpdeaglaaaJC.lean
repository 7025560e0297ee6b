import Derived.Test.YthignlpdeaglaaaJA
import Derived.Test.YthignlpdeaglaaaQI
import Derived.Test.YthignlpdeaglaaaIrF
import Derived.Test.YthignlpdeaglaaaSA
import Derived.Test.YthignlpdeaglaaaWA
section
set_option linter.unusedSimpArgs false
set_option linter.unusedVariables false
namespace Go.Abs
theorem rtakes_eq (k : Int) : ref19_Takes.spec [.int .i64 k] = some (.int .i64 (takesM k)) := by
  by_cases h1 : k = 1
  · subst h1; simp -implicitDefEqProofs +contextual (disch := omega) [ref19_Takes.spec, ref19_Takes, takesM]
  by_cases h2 : k = 2
  · subst h2; simp -implicitDefEqProofs +contextual (disch := omega) [ref19_Takes.spec, ref19_Takes, takesM]
  by_cases h3 : 3 ≤ k
  · by_cases h6 : k ≤ 6
    · simp -implicitDefEqProofs +contextual (disch := omega) [ref19_Takes.spec, ref19_Takes, takesM, h1, h2, h3, h6]
    · by_cases h8 : k = 8
      · subst h8; simp -implicitDefEqProofs +contextual (disch := omega) [ref19_Takes.spec, ref19_Takes, takesM]
      · simp -implicitDefEqProofs +contextual (disch := omega) [ref19_Takes.spec, ref19_Takes, takesM, h1, h2, h3, h6, h8]
  · by_cases h8 : k = 8
    · omega
    · simp -implicitDefEqProofs +contextual (disch := omega) [ref19_Takes.spec, ref19_Takes, takesM, h1, h2, h3, h8]
def rcFr (k : Nat) (x : List (Nat × AV)) : AFr := AFr.al ([(1, .ptr 0 3 0 0), (3, .int .i64 k)] ++ x)
set_option maxHeartbeats 8000000 in
theorem rcan_round (c : CodeM) (hl : c.ops.length ≤ 60000) (hin : 0 ≤ c.inN ∧ c.inN ≤ 4000) (k : Nat) (hk : k < c.ops.length) (X : AHeap) (x : List (Nat × AV)) (hw : X.WF) (hg : X.get 0 = some (codeBlk c)) (o : OpM) (ho : c.ops[k] = o) :
    ∃ e fr1 X1, ref19_Can.l0 ref19_Takes.spec (rcFr k x) X = some (e, fr1, X1) ∧ X1.WF ∧ X1.get 0 = some (codeBlk c) ∧
      ((o.ok (c.inN + k) = true ∧ e = .normal ∧ ∃ y, fr1 = rcFr (k + 1) y) ∨ (o.ok (c.inN + k) = false ∧ e = .ret ∧ fr1 2 = .bool false)) := by
  have hk' : (k : Int) < c.ops.length := by omega
  have hk1 : ((k + 1 : Nat) : Int) = (k : Int) + 1 := by omega
  have hrow := opRows_get c.ops k hk
  rw [ho] at hrow
  have hne := hw _ _ hg
  have hcb : codeBlk c = ⟨T.ty_api_Code, 3, true, [[.int .i64 c.inN, .rsl 4 (opRows c.ops), .rsl 1 (ints c.outs)]]⟩ := rfl
  obtain ⟨ok, oa, ob, on⟩ := o
  have hT := rtakes_eq ok
  simp only [OpM.cells] at hrow
  have fin : ∀ (A B : Bool), True := fun _ _ => trivial
  obtain ⟨w, hwd⟩ : ∃ w, w = c.inN + (k : Int) := ⟨_, rfl⟩
  have hw2 : (c.inN + (k : Int)) = w := hwd.symm
  rw [hw2]
  have hz : on = 0#32 ↔ on.toNat = 0 := ⟨fun h => by rw [h]; rfl, fun h => BitVec.eq_of_toNat_eq h⟩
  have hwir : ∀ (t : Int) (z : Int) (m : Int), (wireM z w (decide (m < t)) = true ↔ (m < t → 0 ≤ z ∧ z < w) ∧ (¬ m < t → z = 0)) := by
    intro t z m
    unfold wireM
    by_cases q : m < t <;> simp [q]
  have hnum : numberM ⟨ok, oa, ob, on⟩ = true ↔ (ok = 7 ∨ ((4 ≤ ok ∧ ok ≤ 6) ∧ on.toNat ≤ 31) ∨ (ok ≠ 7 ∧ ¬ (4 ≤ ok ∧ ok ≤ 6) ∧ on.toNat = 0)) := by
    unfold numberM
    dsimp only
    by_cases q7 : ok = 7
    · subst q7; simp
    · rw [if_neg q7]
      by_cases q4 : ok = 4 ∨ ok = 5 ∨ ok = 6
      · rw [if_pos q4, decide_eq_true_eq]; omega
      · rw [if_neg q4, decide_eq_true_eq, hz]; omega
  have hoka : (OpM.ok ⟨ok, oa, ob, on⟩ w = true) ↔ (0 ≤ ok ∧ ok < 9) ∧ (ok = 7 ∨ ((4 ≤ ok ∧ ok ≤ 6) ∧ on.toNat ≤ 31) ∨ (ok ≠ 7 ∧ ¬ (4 ≤ ok ∧ ok ≤ 6) ∧ on.toNat = 0)) ∧ ((0 < takesM ok → 0 ≤ oa ∧ oa < w) ∧ (¬ 0 < takesM ok → oa = 0)) ∧ ((1 < takesM ok → 0 ≤ ob ∧ ob < w) ∧ (¬ 1 < takesM ok → ob = 0)) := by
    rw [← hwir, ← hwir, ← hnum]
    simp only [OpM.ok, Bool.and_eq_true, decide_eq_true_eq]
    exact ⟨fun h => ⟨h.1.1.1, h.1.1.2, h.1.2, h.2⟩, fun h => ⟨⟨⟨h.1, h.2.1⟩, h.2.2.1⟩, h.2.2.2⟩⟩
  generalize OpM.ok ⟨ok, oa, ob, on⟩ w = okb at *
  refine ex_run (s := ?_) ?_ ?_
  rotate_left
  · simp -implicitDefEqProofs +contextual (disch := try first | omega | assumption | (simp; done)) [ref19_Can.l0, rcFr, hg, hcb, hrow, hk', hk1, hT, hw2, pick_orG, pick_andG]
    rfl
  refine acondp_ex (fun h => ?_) (fun h => ?_)
  · refine ⟨_, _, _, rfl, ?_, ?_, .inr ⟨?_, rfl, by simp⟩⟩
    · (repeat' (first | assumption | with_reducible apply AHeap.WF.push | with_reducible apply AHeap.WF.set)) <;> (simp <;> omega)
    · simp (disch := omega) [hg, hcb]
    · rw [Bool.eq_false_iff, Ne, hoka]; generalize takesM ok = tk at *; clear hoka hwir hnum; omega
  refine ex_run (s := ?_) ?_ ?_
  rotate_left
  · simp -implicitDefEqProofs +contextual (disch := try first | omega | assumption | (simp; done)) [ref19_Can.l0, rcFr, hg, hcb, hrow, hk', hk1, hT, hw2, pick_orG, pick_andG]
    rfl
  refine acondp_ex (fun h2 => ?_) (fun h2 => ?_)
  · refine ⟨_, _, _, rfl, ?_, ?_, .inr ⟨?_, rfl, by simp⟩⟩
    · (repeat' (first | assumption | with_reducible apply AHeap.WF.push | with_reducible apply AHeap.WF.set)) <;> (simp <;> omega)
    · simp (disch := omega) [hg, hcb]
    · rw [Bool.eq_false_iff, Ne, hoka]; generalize takesM ok = tk at *; clear hoka hwir hnum; simp only [hz, BitVec.lt_def] at h2; simp at h2; omega
  refine ex_run (s := ?_) ?_ ?_
  rotate_left
  · simp -implicitDefEqProofs +contextual (disch := try first | omega | assumption | (simp; done)) [ref19_Can.l0, rcFr, hg, hcb, hrow, hk', hk1, hT, hw2, pick_orG, pick_andG]
    rfl
  refine ⟨_, _, _, rfl, ?_, ?_, .inl ⟨?_, rfl, _, rfl⟩⟩
  · (repeat' (first | assumption | with_reducible apply AHeap.WF.push | with_reducible apply AHeap.WF.set)) <;> (simp <;> omega)
  · simp (disch := omega) [hg, hcb]
  · rw [hoka]; generalize takesM ok = tk at *; clear hoka hwir hnum; simp only [hz, BitVec.lt_def] at h2; simp at h2; omega
theorem opsOk_all : ∀ (l : List OpM) (w : Int), opsOk l w = true ↔ ∀ k (h : k < l.length), l[k].ok (w + k) = true
  | [], w => by simp [opsOk]
  | o :: l, w => by
    rw [opsOk_cons, Bool.and_eq_true, opsOk_all l (w + 1)]
    constructor
    · rintro ⟨h1, h2⟩ k hk
      cases k with
      | zero => rw [show w + ((0 : Nat) : Int) = w from by omega]; exact h1
      | succ k =>
        have := h2 k (by simpa using hk)
        simp only [List.getElem_cons_succ]
        rw [show w + ((k + 1 : Nat) : Int) = w + 1 + (k : Int) from by omega]; exact this
    · intro h
      refine ⟨by have := h 0 (by simp); rwa [show w + ((0 : Nat) : Int) = w from by omega] at this, fun k hk => ?_⟩
      have := h (k + 1) (by simpa using hk)
      simp only [List.getElem_cons_succ] at this
      rw [show w + 1 + (k : Int) = w + ((k + 1 : Nat) : Int) from by omega]; exact this
theorem rcan_loop (c : CodeM) (hl : c.ops.length ≤ 60000) (hin : 0 ≤ c.inN ∧ c.inN ≤ 4000) (X : AHeap) (hw : X.WF) (hg : X.get 0 = some (codeBlk c)) {r} (hr : aloop (ref19_Can.l0 ref19_Takes.spec) (AFr.al [(1, .ptr 0 3 0 0), (3, .int .i64 0)]) X = r) :
    ∃ e fr' X', r = some (e, fr', X') ∧ ((opsOk c.ops c.inN = true ∧ e = .exit 0 ∧ fr' 1 = .ptr 0 3 0 0 ∧ X'.WF ∧ X'.get 0 = some (codeBlk c)) ∨ (opsOk c.ops c.inN = false ∧ e = .ret ∧ fr' 2 = .bool false)) := by
  refine run_of hr (aloop_each c.ops.length (fun k fr H => (∃ y, fr = rcFr k y) ∧ H.WF ∧ H.get 0 = some (codeBlk c) ∧ ∀ i (h : i < c.ops.length), i < k → c.ops[i].ok (c.inN + i) = true) _ (fun k hk fr H hR => ?_) (fun fr H hR => ?_) ⟨⟨[], rfl⟩, hw, hg, fun i _ h => absurd h (by omega)⟩)
  · obtain ⟨⟨y, rfl⟩, h1, h2, h3⟩ := hR
    obtain ⟨e, fr1, X1, s1, s2, s3, s4⟩ := rcan_round c hl hin k hk H y h1 h2 _ rfl
    refine ⟨e, fr1, X1, s1, ?_⟩
    rcases s4 with ⟨q1, rfl, q2⟩ | ⟨q1, rfl, q2⟩
    · refine .inl ⟨rfl, q2, s2, s3, fun i hi hik => ?_⟩
      by_cases e : i = k
      · subst e; exact q1
      · exact h3 i hi (by omega)
    · refine .inr ⟨by simp, .inr ⟨?_, rfl, q2⟩⟩
      rw [Bool.eq_false_iff, Ne, opsOk_all]
      intro h; rw [h k hk] at q1; cases q1
  · obtain ⟨⟨y, rfl⟩, h1, h2, h3⟩ := hR
    have hcb : codeBlk c = ⟨T.ty_api_Code, 3, true, [[.int .i64 c.inN, .rsl 4 (opRows c.ops), .rsl 1 (ints c.outs)]]⟩ := rfl
    refine ⟨_, _, _, by simp -implicitDefEqProofs +contextual (disch := omega) [ref19_Can.l0, rcFr, h2, hcb]; first | rfl | exact ⟨rfl, rfl⟩ | exact ⟨rfl, rfl, rfl⟩, by simp, .inl ⟨(opsOk_all _ _).2 fun i hi => h3 i hi hi, rfl, by simp, h1, h2⟩⟩
def rcFr1 (k : Nat) (x : List (Nat × AV)) : AFr := AFr.al ([(1, .ptr 0 3 0 0), (7, .int .i64 k)] ++ x)
theorem rouns_loop (c : CodeM) (hl : c.ops.length ≤ 60000) (hin : 0 ≤ c.inN ∧ c.inN ≤ 4000) (hb : c.outs.length ≤ 1000000000) (X : AHeap) (hg : X.get 0 = some (codeBlk c)) {r} (hr : aloop (ref19_Can.l1 ref19_Takes.spec) (AFr.al [(1, .ptr 0 3 0 0), (7, .int .i64 0)]) X = r) :
    ∃ e fr' X', r = some (e, fr', X') ∧ ((c.outs.all (fun x => decide (0 ≤ x) && decide (x < c.inN + c.ops.length)) = true ∧ e = .exit 2) ∨ (c.outs.all (fun x => decide (0 ≤ x) && decide (x < c.inN + c.ops.length)) = false ∧ e = .ret ∧ fr' 2 = .bool false)) := by
  have hcb : codeBlk c = ⟨T.ty_api_Code, 3, true, [[.int .i64 c.inN, .rsl 4 (opRows c.ops), .rsl 1 (ints c.outs)]]⟩ := rfl
  have hcl : (c.ops.length : Int) ≤ 60000 := by omega
  refine run_of hr (aloop_each c.outs.length (fun k fr H => (∃ y, fr = rcFr1 k y) ∧ H = X ∧ ∀ i (h : i < c.outs.length), i < k → 0 ≤ c.outs[i] ∧ c.outs[i] < c.inN + c.ops.length) _ (fun k hk fr H hR => ?_) (fun fr H hR => ?_) ⟨⟨[], rfl⟩, rfl, fun i _ h => absurd h (by omega)⟩)
  · obtain ⟨⟨y, rfl⟩, rfl, h3⟩ := hR
    have hk' : (k : Int) < c.outs.length := by omega
    have hk1 : ((k + 1 : Nat) : Int) = (k : Int) + 1 := by omega
    have hrow := ints_at c.outs k hk
    have hme : c.outs[k] ∈ c.outs := List.getElem_mem hk
    generalize hx : c.outs[k] = o at *
    refine ex_run (s := ?_) ?_ ?_
    rotate_left
    · simp -implicitDefEqProofs +contextual (disch := try first | omega | assumption | (simp; done)) [ref19_Can.l1, rcFr1, hg, hcb, hrow, hk', hk1, pick_orG, pick_andG]
      rfl
    refine acondp_ex (fun h => ?_) (fun h => ?_)
    · refine ⟨_, _, _, rfl, .inr ⟨by simp, .inr ⟨?_, rfl, by simp⟩⟩⟩
      rw [List.all_eq_false]
      refine ⟨o, hme, ?_⟩
      simp; omega
    refine ex_run (s := ?_) ?_ ?_
    rotate_left
    · simp -implicitDefEqProofs +contextual (disch := try first | omega | assumption | (simp; done)) [ref19_Can.l1, rcFr1, hg, hcb, hrow, hk', hk1, pick_orG, pick_andG]
      rfl
    refine ⟨_, _, _, rfl, .inl ⟨rfl, ⟨_, rfl⟩, rfl, fun i hi hik => ?_⟩⟩
    by_cases e : i = k
    · subst e; rw [hx]; omega
    · exact h3 i hi (by omega)
  · obtain ⟨⟨y, rfl⟩, rfl, h3⟩ := hR
    refine ⟨_, _, _, by simp -implicitDefEqProofs +contextual (disch := omega) [ref19_Can.l1, rcFr1, hg, hcb]; first | rfl | exact ⟨rfl, rfl⟩ | exact ⟨rfl, rfl, rfl⟩, by simp, .inl ⟨?_, rfl⟩⟩
    rw [List.all_eq_true]
    intro x hx
    obtain ⟨i, hi, rfl⟩ := List.getElem_of_mem hx
    have := h3 i hi hi
    simp; omega
set_option maxHeartbeats 4000000 in
theorem rCan_eq (c : CodeM) (hb : c.outs.length ≤ 1000000000) (hb2 : c.ops.length ≤ 1000000000) : ref19_Can.spec [.agg c.cells] = some (.bool c.can) := by
  have hcb : codeBlk c = ⟨T.ty_api_Code, 3, true, [[.int .i64 c.inN, .rsl 4 (opRows c.ops), .rsl 1 (ints c.outs)]]⟩ := rfl
  unfold CodeM.cells CodeM.can
  by_cases h1 : 0 ≤ c.inN
  · have h1' : ¬ c.inN < 0 := by omega
    by_cases h2 : c.inN ≤ 4000
    · have h2' : ¬ 4000 < c.inN := by omega
      by_cases h3 : c.ops.length ≤ 60000
      · have h3' : ¬ (60000 : Int) < c.ops.length := by omega
        simp -implicitDefEqProofs +contextual (disch := omega) [ref19_Can.spec, ref19_Can, h1', h2', h3']
        generalize hr : aloop _ _ _ = r
        obtain ⟨e, fr', X', rfl, hq⟩ := rcan_loop c h3 ⟨h1, h2⟩ _ (by (repeat' (first | assumption | with_reducible apply AHeap.WF.push | with_reducible apply AHeap.WF.set | exact AHeap.WF.empty)) <;> (simp <;> omega)) (by simp [hcb]) hr
        rcases hq with ⟨hv, rfl, p2, p4, p5⟩ | ⟨hv, rfl, p3⟩
        · simp -implicitDefEqProofs +contextual (disch := omega) [p2, p5, hcb]
          generalize hr2 : aloop _ _ _ = r2
          obtain ⟨e, fr2, X2, rfl, q2⟩ := rouns_loop c h3 ⟨h1, h2⟩ hb X' p5 hr2
          rcases q2 with ⟨hv2, rfl⟩ | ⟨hv2, rfl, q2⟩
          · simp -implicitDefEqProofs +contextual (disch := omega) [h1, h2, h3, hv, hv2]
          · simp -implicitDefEqProofs +contextual (disch := omega) [h1, h2, h3, q2, hv, hv2]
        · simp -implicitDefEqProofs +contextual (disch := omega) [h1, h2, h3, p3, hv]
      · have h3' : (60000 : Int) < c.ops.length := by omega
        simp -implicitDefEqProofs +contextual (disch := omega) [ref19_Can.spec, ref19_Can, h1', h2', h3', h3]
    · have h2' : 4000 < c.inN := by omega
      simp -implicitDefEqProofs +contextual (disch := omega) [ref19_Can.spec, ref19_Can, h1', h2', h2]
  · have h1' : c.inN < 0 := by omega
    simp -implicitDefEqProofs +contextual (disch := omega) [ref19_Can.spec, ref19_Can, h1', h1]
end Go.Abs
end
section
set_option linter.unusedSimpArgs false
set_option linter.unusedVariables false
namespace Go.Abs
theorem codeBlk_eq (c : CodeM) : codeBlk c = ⟨T.ty_api_Code, 3, true, [[.int .i64 c.inN, .rsl 4 (opRows c.ops), .rsl 1 (ints c.outs)]]⟩ := rfl
theorem rRandoms_eq (c : CodeM) (hl : c.ops.length ≤ 1000000000) : ref19_Randoms.spec [.agg c.cells] = some (.int .i64 (c.randoms : Nat)) := by
  unfold CodeM.cells
  simp -implicitDefEqProofs +contextual (disch := omega) [ref19_Randoms.spec, ref19_Randoms]
  generalize hr : aloop _ _ _ = r
  obtain ⟨e, fr', X', rfl, rfl, hq⟩ : ∃ e fr' X', r = some (e, fr', X') ∧ (e = .exit 0 ∧ fr' 3 = .int .i64 (c.randoms : Nat)) := by
    refine run_of hr (aloop_each c.ops.length (fun k fr H => (∃ y, fr = AFr.al ([(1, .ptr 0 3 0 0), (3, .int .i64 (rndL (c.ops.take k) : Nat)), (4, .int .i64 k)] ++ y)) ∧ H.get 0 = some (codeBlk c)) _ (fun k hk fr H hR => ?_) (fun fr H hR => ?_) ⟨⟨[], rfl⟩, by simp [codeBlk_eq]⟩)
    · obtain ⟨⟨y, rfl⟩, h2⟩ := hR
      rw [codeBlk_eq] at h2
      have hk' : (k : Int) < c.ops.length := by omega
      have hk1 : ((k + 1 : Nat) : Int) = (k : Int) + 1 := by omega
      have hrow := opRows_get c.ops k hk
      have hb : rndL (c.ops.take k) ≤ k := Nat.le_trans (rndL_le _) (by rw [List.length_take]; omega)
      have hs : rndL (c.ops.take (k + 1)) = rndL (c.ops.take k) + if c.ops[k].k = 0 then 1 else 0 := by
        rw [List.take_succ_eq_append_getElem hk]
        unfold rndL
        rw [List.filter_append, List.length_append]
        by_cases q : c.ops[k].k = 0 <;> simp [q]
      rw [hs]
      generalize c.ops[k] = o at *
      generalize rndL (c.ops.take k) = n at *
      simp only [OpM.cells] at hrow
      have hn1 : ((n + 1 : Nat) : Int) = (n : Int) + 1 := by omega
      by_cases h0 : o.k = 0
      · rw [if_pos h0, hn1, hk1]
        refine ⟨_, _, _, by simp -implicitDefEqProofs +contextual (disch := omega) [ref19_Randoms.l0, h2, hrow, hk', h0]; first | rfl | exact ⟨rfl, rfl⟩ | exact ⟨rfl, rfl, rfl⟩, .inl ⟨rfl, ⟨_, rfl⟩, by rw [codeBlk_eq]; exact h2⟩⟩
      · rw [if_neg h0, hk1, Nat.add_zero]
        refine ⟨_, _, _, by simp -implicitDefEqProofs +contextual (disch := omega) [ref19_Randoms.l0, h2, hrow, hk', h0]; first | rfl | exact ⟨rfl, rfl⟩ | exact ⟨rfl, rfl, rfl⟩, .inl ⟨rfl, ⟨_, rfl⟩, by rw [codeBlk_eq]; exact h2⟩⟩
    · obtain ⟨⟨y, rfl⟩, h2⟩ := hR
      rw [codeBlk_eq] at h2
      refine ⟨_, _, _, by simp -implicitDefEqProofs +contextual (disch := omega) [ref19_Randoms.l0, h2]; first | rfl | exact ⟨rfl, rfl⟩ | exact ⟨rfl, rfl, rfl⟩, by simp, rfl, ?_⟩
      simp [rndL, CodeM.randoms]
  simp -implicitDefEqProofs +contextual (disch := omega) [hq]
end Go.Abs
end
section
set_option linter.unusedSimpArgs false
set_option linter.unusedVariables false
namespace Go.Abs
theorem bitsM_succ (n m : Nat) : bitsM n (m + 1) = bitsM n m ++ [BitVec.ofNat 32 (n / 2 ^ m % 2)] := by
  unfold bitsM; rw [List.range_succ, List.map_append]; rfl
theorem Bits_eq' (n m : Nat) (hn : n ≤ 1000000000) (hm : m ≤ 1000) : ref19_Bits.spec [.int .i64 n, .int .i64 m] = some (.rsl 1 (w32s (bitsM n m))) := by
  simp -implicitDefEqProofs +contextual (disch := omega) [ref19_Bits.spec, ref19_Bits]
  generalize hr : aloop _ _ _ = r
  obtain ⟨e, fr', X', rfl, rfl, ob, hq, hq2⟩ : ∃ e fr' X', r = some (e, fr', X') ∧ (e = .exit 0 ∧ ∃ ob, fr' 5 = .sl ob 1 0 m ∧ X'.get ob = some ⟨T.ty_uint32, 1, true, w32s (bitsM n m)⟩) := by
    refine run_of hr (aloop_each m (fun k fr H => ∃ y ob, fr = AFr.al ([(0, .int .i64 (n / 2 ^ k : Nat)), (1, .int .i64 m), (5, .sl ob 1 0 k), (6, .int .i64 k)] ++ y) ∧ H.WF ∧ H.get ob = some ⟨T.ty_uint32, 1, true, w32s (bitsM n k)⟩) _ (fun k hk fr H hR => ?_) (fun fr H hR => ?_) ⟨[], 0, by simp, ?_, by simp [bitsM, w32s]⟩)
    · obtain ⟨y, ob, rfl, hw, gb⟩ := hR
      have hk' : (k : Int) < m := by omega
      have hk1 : ((k + 1 : Nat) : Int) = (k : Int) + 1 := by omega
      have hbo := hw _ _ gb
      have hle : n / 2 ^ k ≤ n := Nat.div_le_self _ _
      have hp : n / 2 ^ (k + 1) = n / 2 ^ k / 2 := by rw [Nat.pow_succ, Nat.div_div_eq_div_mul]
      rw [bitsM_succ, hp, hk1]
      have hlen : (bitsM n k).length = k := by simp
      generalize bitsM n k = l at *
      subst hlen
      generalize n / 2 ^ l.length = z at *
      have hz : ((z % 2 : Nat) : Int) = (z : Int) % 2 := by omega
      have hz2 : ((z / 2 : Nat) : Int) = (z : Int) / 2 := by omega
      have hc : BitVec.ofInt 32 ((z : Int) % 2) = BitVec.ofNat 32 (z % 2) := by rw [← hz]; exact BitVec.ofInt_natCast _ _
      refine ⟨_, _, _, by simp -implicitDefEqProofs +contextual (disch := omega) [ref19_Bits.l0, gb, hk', hc]; first | rfl | exact ⟨rfl, rfl⟩ | exact ⟨rfl, rfl, rfl⟩, .inl ⟨rfl, _, _, by rw [hz2]; rfl, ?_, ?_⟩⟩
      · (repeat' (first | assumption | with_reducible apply AHeap.WF.push | with_reducible apply AHeap.WF.set | with_reducible apply killAll_wf | exact AHeap.WF.empty)) <;> (simp <;> omega)
      · simp (disch := omega) [w32s_snoc]
    · obtain ⟨y, ob, rfl, hw, gb⟩ := hR
      refine ⟨_, _, _, by simp -implicitDefEqProofs +contextual (disch := omega) [ref19_Bits.l0]; first | rfl | exact ⟨rfl, rfl⟩ | exact ⟨rfl, rfl, rfl⟩, by simp, rfl, ob, by simp, gb⟩
    · (repeat' (first | assumption | with_reducible apply AHeap.WF.push | with_reducible apply AHeap.WF.set | with_reducible apply killAll_wf | exact AHeap.WF.empty)) <;> (simp <;> omega)
  have ht : (w32s (bitsM n m)).take m = w32s (bitsM n m) := List.take_of_length_le (by simp)
  simp -implicitDefEqProofs +contextual (disch := omega) [hq, hq2, ht]
def rxFr (inN : List (BitVec 32)) (t : List (BitVec 32)) (ob k : Nat) (x : List (Nat × AV)) : AFr :=
  AFr.al ([(1, .rsl 1 (w32s inN)), (2, .rsl 1 (w32s t)), (3, .ptr 0 3 0 0), (8, .sl ob 1 0 k), (9, .int .i64 0), (10, .int .i64 k)] ++ x)
noncomputable abbrev rxL0 := ref19_Exec.l0 ref19_Can.spec ref19_Randoms.spec ref19_Takes.spec ref01_Shift.spec ref01_Rot.spec
noncomputable abbrev rxL1 := ref19_Exec.l1 ref19_Can.spec ref19_Randoms.spec ref19_Takes.spec ref01_Shift.spec ref01_Rot.spec
theorem padM_succ (l : List (BitVec 32)) (n : Nat) : padM l (n + 1) = padM l n ++ [at0 l n] := by
  unfold padM; rw [List.range_succ, List.map_append]; rfl
@[simp] theorem padM_length (l : List (BitVec 32)) (n : Nat) : (padM l n).length = n := by simp [padM]
theorem rx_pad (c : CodeM) (n : Nat) (hn : c.inN = n) (hn4 : n ≤ 4000) (inp t : List (BitVec 32)) (X : AHeap) (hw : X.WF) (h0 : X.get 0 = some (codeBlk c)) (ob : Nat) (hob : ob ≠ 0) (hb : X.get ob = some (wBlk [])) {r} (hr : aloop rxL0 (rxFr inp t ob 0 []) X = r) :
    ∃ e fr' X', r = some (e, fr', X') ∧ (e = .exit 0 ∧ fr' 2 = .rsl 1 (w32s t) ∧ fr' 3 = .ptr 0 3 0 0 ∧ fr' 9 = .int .i64 0 ∧ X'.WF ∧ X'.get 0 = some (codeBlk c) ∧ ∃ ob, ob ≠ 0 ∧ fr' 8 = .sl ob 1 0 n ∧ X'.get ob = some (wBlk (padM inp n))) := by
  refine run_of hr (aloop_each n (fun k fr H => ∃ y ob, fr = rxFr inp t ob k y ∧ H.WF ∧ ob ≠ 0 ∧ H.get 0 = some (codeBlk c) ∧ H.get ob = some (wBlk (padM inp k))) _ (fun k hk fr H hR => ?_) (fun fr H hR => ?_) ⟨[], ob, rfl, hw, hob, h0, by simpa [padM] using hb⟩)
  · obtain ⟨y, ob, rfl, hw, hob, g0, gb⟩ := hR
    have hk' : (k : Int) < n := by omega
    have hk1 : ((k + 1 : Nat) : Int) = (k : Int) + 1 := by omega
    have hbo := hw _ _ gb
    rw [codeBlk_eq, hn] at g0
    simp only [wBlk] at gb
    have hlen : (padM inp k).length = k := by simp
    rw [padM_succ]
    generalize padM inp k = l at *
    subst hlen
    by_cases hi : l.length < inp.length
    · have hi' : (l.length : Int) < inp.length := by omega
      refine ⟨_, _, _, by simp -implicitDefEqProofs +contextual (disch := omega) [ref19_Exec.l0, rxFr, g0, gb, hk', hi, hi']; first | rfl | exact ⟨rfl, rfl⟩ | exact ⟨rfl, rfl, rfl⟩, .inl ⟨rfl, _, _, by simp only [rxFr, hk1]; rfl, ?_, ?_, ?_, ?_⟩⟩
      · (repeat' (first | assumption | with_reducible apply AHeap.WF.push | with_reducible apply AHeap.WF.set | with_reducible apply killAll_wf | exact AHeap.WF.empty)) <;> (simp <;> omega)
      · omega
      · rw [codeBlk_eq, hn]; simp (disch := omega) [g0]
      · simp (disch := omega) [wBlk, w32s_snoc]
    · have hi' : ¬ (l.length : Int) < inp.length := by omega
      have hz : at0 inp l.length = 0#32 := by simp [at0, List.getD_eq_getElem?_getD, List.getElem?_eq_none (show inp.length ≤ l.length by omega)]
      refine ⟨_, _, _, by simp -implicitDefEqProofs +contextual (disch := omega) [ref19_Exec.l0, rxFr, g0, gb, hk', hi, hi']; first | rfl | exact ⟨rfl, rfl⟩ | exact ⟨rfl, rfl, rfl⟩, .inl ⟨rfl, _, _, by simp only [rxFr, hk1]; rfl, ?_, ?_, ?_, ?_⟩⟩
      · (repeat' (first | assumption | with_reducible apply AHeap.WF.push | with_reducible apply AHeap.WF.set | with_reducible apply killAll_wf | exact AHeap.WF.empty)) <;> (simp <;> omega)
      · omega
      · rw [codeBlk_eq, hn]; simp (disch := omega) [g0]
      · simp (disch := omega) [wBlk, hz, w32s_snoc]
  · obtain ⟨y, ob, rfl, hw, hob, g0, gb⟩ := hR
    have g0' := g0
    rw [codeBlk_eq, hn] at g0
    refine ⟨_, _, _, by simp -implicitDefEqProofs +contextual (disch := omega) [ref19_Exec.l0, rxFr, g0]; first | rfl | exact ⟨rfl, rfl⟩ | exact ⟨rfl, rfl, rfl⟩, by simp, rfl, by simp, by simp, by simp, hw, g0', ob, hob, by simp, gb⟩
def ryFr (t : List (BitVec 32)) (w : List (BitVec 32)) (a ob k : Nat) (x : List (Nat × AV)) : AFr :=
  AFr.al ([(2, .rsl 1 (w32s t)), (3, .ptr 0 3 0 0), (8, .sl ob 1 0 w.length), (9, .int .i64 a), (11, .int .i64 k)] ++ x)
def opV (o : OpM) (w : List (BitVec 32)) (t0 : BitVec 32) : BitVec 32 := if o.k = 0 then t0 else stepW o (if 0 < takesM o.k then at0 w o.a.toNat else 0#32) (if 1 < takesM o.k then at0 w o.b.toNat else 0#32)
theorem shl_M (a n : BitVec 32) : (shiftM 0 a n false).w = a <<< n.toNat := by
  unfold shiftM; split
  · rename_i h; subst h; simp
  · rfl
theorem shr_M (a n : BitVec 32) : (shiftM 1 a n false).w = a >>> n.toNat := by
  unfold shiftM; split
  · rename_i h; subst h; simp
  · rfl
theorem not_sub (a : BitVec 32) : 4294967295#32 - a = ~~~ a := by
  have := BitVec.neg_eq_not_add a
  rw [show (4294967295#32 : BitVec 32) = -1#32 from rfl, BitVec.not_eq_neg_add]
  rw [BitVec.sub_eq_add_neg, BitVec.add_comm, BitVec.sub_eq_add_neg]
set_option maxHeartbeats 4000000 in
theorem rx_round (c : CodeM) (hl : c.ops.length ≤ 60000) (k : Nat) (hk : k < c.ops.length) (w t : List (BitVec 32)) (a ob : Nat) (X : AHeap) (x : List (Nat × AV)) (hw : X.WF) (h0 : X.get 0 = some (codeBlk c)) (hob : ob ≠ 0) (hb : X.get ob = some (wBlk w)) (hwl : w.length ≤ 70000) (o : OpM) (ho : c.ops[k] = o)
    (hok : o.ok w.length = true) (ht : o.k = 0 → a < t.length) (ha : a ≤ 60000) :
    ∃ X1 ob' y, rxL1 (ryFr t w a ob k x) X = some (.normal, ryFr t (w ++ [opV o w (at0 t a)]) (if o.k = 0 then a + 1 else a) ob' (k + 1) y, X1) ∧ X1.WF ∧ ob' ≠ 0 ∧ X1.get 0 = some (codeBlk c) ∧ X1.get ob' = some (wBlk (w ++ [opV o w (at0 t a)])) := by
  have hk' : (k : Int) < c.ops.length := by omega
  have hk1 : ((k + 1 : Nat) : Int) = (k : Int) + 1 := by omega
  have ha1 : ((a + 1 : Nat) : Int) = (a : Int) + 1 := by omega
  have hrow := opRows_get c.ops k hk
  rw [ho] at hrow
  have hbl := hw _ _ hb
  rw [codeBlk_eq] at h0 ⊢
  obtain ⟨ok, oa, obb, on⟩ := o
  simp only [OpM.cells] at hrow
  have hT := rtakes_eq ok
  have hS0 := fun z => rShift_eq 0 (by omega) z on false
  have hS1 := fun z => rShift_eq 1 (by omega) z on false
  have hR := fun z => rRot_eq z on
  simp only [shl_M, shr_M, Int.natCast_zero, Int.natCast_one] at hS0 hS1
  simp only [OpM.ok, Bool.and_eq_true, decide_eq_true_eq] at hok
  obtain ⟨⟨⟨⟨q1, q2⟩, q3⟩, q4⟩, q5⟩ := hok
  dsimp only at ht q1 q2 q4 q5
  simp only [wBlk] at hb
  unfold opV
  dsimp only
  have hk9 : ok = 0 ∨ ok = 1 ∨ ok = 2 ∨ ok = 3 ∨ ok = 4 ∨ ok = 5 ∨ ok = 6 ∨ ok = 7 ∨ ok = 8 := by omega
  clear q1 q2 q3
  rcases hk9 with rfl | rfl | rfl | rfl | rfl | rfl | rfl | rfl | rfl
  · have hta : a < t.length := ht rfl
    have hta' : (a : Int) < t.length := by omega
    rw [show takesM 0 = 0 from rfl] at *
    refine ⟨?_, ?_, ?_, ?_, ?_, ?_, ?_, ?_⟩
    rotate_left 3
    · simp -implicitDefEqProofs +contextual (disch := try first | omega | assumption | (simp; done)) [ref19_Exec.l1, ryFr, h0, hb, hrow, hk', hk1, hT, hta, hta', ha1]
      constructor <;> rfl
    · (repeat' (first | assumption | with_reducible apply AHeap.WF.push | with_reducible apply AHeap.WF.set | with_reducible apply killAll_wf | exact AHeap.WF.empty)) <;> (simp <;> omega)
    · omega
    · simp (disch := omega) [h0]
    · simp (disch := omega) [wBlk, w32s_snoc]
  · simp only [show takesM 1 = 2 from rfl] at hT q4 q5 ⊢
    obtain ⟨A, rfl⟩ : ∃ A : Nat, oa = A := ⟨oa.toNat, by simp [wireM] at q4; omega⟩
    obtain ⟨B, rfl⟩ : ∃ B : Nat, obb = B := ⟨obb.toNat, by simp [wireM] at q5; omega⟩
    have hA : A < w.length ∧ B < w.length := by simp [wireM] at q4 q5; omega
    refine ⟨?_, ?_, ?_, ?_, ?_, ?_, ?_, ?_⟩
    rotate_left 3
    · simp -implicitDefEqProofs +contextual (disch := try first | omega | assumption | (simp; done)) [ref19_Exec.l1, ryFr, h0, hb, hrow, hk', hk1, hT, ha1, hA, stepW]
      constructor <;> rfl
    · (repeat' (first | assumption | with_reducible apply AHeap.WF.push | with_reducible apply AHeap.WF.set | with_reducible apply killAll_wf | exact AHeap.WF.empty)) <;> (simp <;> omega)
    · omega
    · simp (disch := omega) [h0]
    · simp (disch := omega) [wBlk, w32s_snoc, stepW]
  · simp only [show takesM 2 = 2 from rfl] at hT q4 q5 ⊢
    obtain ⟨A, rfl⟩ : ∃ A : Nat, oa = A := ⟨oa.toNat, by simp [wireM] at q4; omega⟩
    obtain ⟨B, rfl⟩ : ∃ B : Nat, obb = B := ⟨obb.toNat, by simp [wireM] at q5; omega⟩
    have hA : A < w.length ∧ B < w.length := by simp [wireM] at q4 q5; omega
    refine ⟨?_, ?_, ?_, ?_, ?_, ?_, ?_, ?_⟩
    rotate_left 3
    · simp -implicitDefEqProofs +contextual (disch := try first | omega | assumption | (simp; done)) [ref19_Exec.l1, ryFr, h0, hb, hrow, hk', hk1, hT, ha1, hA, stepW]
      constructor <;> rfl
    · (repeat' (first | assumption | with_reducible apply AHeap.WF.push | with_reducible apply AHeap.WF.set | with_reducible apply killAll_wf | exact AHeap.WF.empty)) <;> (simp <;> omega)
    · omega
    · simp (disch := omega) [h0]
    · simp (disch := omega) [wBlk, w32s_snoc, stepW]
  · simp only [show takesM 3 = 1 from rfl] at hT q4 q5 ⊢
    obtain ⟨A, rfl⟩ : ∃ A : Nat, oa = A := ⟨oa.toNat, by simp [wireM] at q4; omega⟩
    have hA : A < w.length := by simp [wireM] at q4; omega
    refine ⟨?_, ?_, ?_, ?_, ?_, ?_, ?_, ?_⟩
    rotate_left 3
    · simp -implicitDefEqProofs +contextual (disch := try first | omega | assumption | (simp; done)) [ref19_Exec.l1, ryFr, h0, hb, hrow, hk', hk1, hT, ha1, hA, stepW, rotM, not_sub]
      constructor <;> rfl
    · (repeat' (first | assumption | with_reducible apply AHeap.WF.push | with_reducible apply AHeap.WF.set | with_reducible apply killAll_wf | exact AHeap.WF.empty)) <;> (simp <;> omega)
    · omega
    · simp (disch := omega) [h0]
    · simp (disch := omega) [wBlk, w32s_snoc, stepW, rotM]
  · simp only [show takesM 4 = 1 from rfl] at hT q4 q5 ⊢
    obtain ⟨A, rfl⟩ : ∃ A : Nat, oa = A := ⟨oa.toNat, by simp [wireM] at q4; omega⟩
    have hA : A < w.length := by simp [wireM] at q4; omega
    refine ⟨?_, ?_, ?_, ?_, ?_, ?_, ?_, ?_⟩
    rotate_left 3
    · simp -implicitDefEqProofs +contextual (disch := try first | omega | assumption | (simp; done)) [ref19_Exec.l1, ryFr, h0, hb, hrow, hk', hk1, hT, ha1, hA, stepW, rotM, hS0]
      constructor <;> rfl
    · (repeat' (first | assumption | with_reducible apply AHeap.WF.push | with_reducible apply AHeap.WF.set | with_reducible apply killAll_wf | exact AHeap.WF.empty)) <;> (simp <;> omega)
    · omega
    · simp (disch := omega) [h0]
    · simp (disch := omega) [wBlk, w32s_snoc, stepW, rotM]
  · simp only [show takesM 5 = 1 from rfl] at hT q4 q5 ⊢
    obtain ⟨A, rfl⟩ : ∃ A : Nat, oa = A := ⟨oa.toNat, by simp [wireM] at q4; omega⟩
    have hA : A < w.length := by simp [wireM] at q4; omega
    refine ⟨?_, ?_, ?_, ?_, ?_, ?_, ?_, ?_⟩
    rotate_left 3
    · simp -implicitDefEqProofs +contextual (disch := try first | omega | assumption | (simp; done)) [ref19_Exec.l1, ryFr, h0, hb, hrow, hk', hk1, hT, ha1, hA, stepW, rotM, hS1]
      constructor <;> rfl
    · (repeat' (first | assumption | with_reducible apply AHeap.WF.push | with_reducible apply AHeap.WF.set | with_reducible apply killAll_wf | exact AHeap.WF.empty)) <;> (simp <;> omega)
    · omega
    · simp (disch := omega) [h0]
    · simp (disch := omega) [wBlk, w32s_snoc, stepW, rotM]
  · simp only [show takesM 6 = 1 from rfl] at hT q4 q5 ⊢
    obtain ⟨A, rfl⟩ : ∃ A : Nat, oa = A := ⟨oa.toNat, by simp [wireM] at q4; omega⟩
    have hA : A < w.length := by simp [wireM] at q4; omega
    refine ⟨?_, ?_, ?_, ?_, ?_, ?_, ?_, ?_⟩
    rotate_left 3
    · simp -implicitDefEqProofs +contextual (disch := try first | omega | assumption | (simp; done)) [ref19_Exec.l1, ryFr, h0, hb, hrow, hk', hk1, hT, ha1, hA, stepW, rotM, hR]
      constructor <;> rfl
    · (repeat' (first | assumption | with_reducible apply AHeap.WF.push | with_reducible apply AHeap.WF.set | with_reducible apply killAll_wf | exact AHeap.WF.empty)) <;> (simp <;> omega)
    · omega
    · simp (disch := omega) [h0]
    · simp (disch := omega) [wBlk, w32s_snoc, stepW, rotM]
  · simp only [show takesM 7 = 0 from rfl] at hT q4 q5 ⊢
    refine ⟨?_, ?_, ?_, ?_, ?_, ?_, ?_, ?_⟩
    rotate_left 3
    · simp -implicitDefEqProofs +contextual (disch := try first | omega | assumption | (simp; done)) [ref19_Exec.l1, ryFr, h0, hb, hrow, hk', hk1, hT, ha1, stepW]
      constructor <;> rfl
    · (repeat' (first | assumption | with_reducible apply AHeap.WF.push | with_reducible apply AHeap.WF.set | with_reducible apply killAll_wf | exact AHeap.WF.empty)) <;> (simp <;> omega)
    · omega
    · simp (disch := omega) [h0]
    · simp (disch := omega) [wBlk, w32s_snoc, stepW]
  · simp only [show takesM 8 = 1 from rfl] at hT q4 q5 ⊢
    obtain ⟨A, rfl⟩ : ∃ A : Nat, oa = A := ⟨oa.toNat, by simp [wireM] at q4; omega⟩
    have hA : A < w.length := by simp [wireM] at q4; omega
    refine ⟨?_, ?_, ?_, ?_, ?_, ?_, ?_, ?_⟩
    rotate_left 3
    · simp -implicitDefEqProofs +contextual (disch := try first | omega | assumption | (simp; done)) [ref19_Exec.l1, ryFr, h0, hb, hrow, hk', hk1, hT, ha1, hA, stepW, rotM, hT]
      constructor <;> rfl
    · (repeat' (first | assumption | with_reducible apply AHeap.WF.push | with_reducible apply AHeap.WF.set | with_reducible apply killAll_wf | exact AHeap.WF.empty)) <;> (simp <;> omega)
    · omega
    · simp (disch := omega) [h0]
    · simp (disch := omega) [wBlk, w32s_snoc, stepW, rotM]
theorem runOps_snoc (l : List OpM) (o : OpM) (w t : List (BitVec 32)) : runOps (l ++ [o]) w t = runOps l w t ++ [opV o (runOps l w t) (at0 t (rndL l))] := by
  have h : ∀ n, at0 (t.drop n) 0 = at0 t n := fun n => by simp [at0, List.getD_eq_getElem?_getD]
  have h0 : ∀ x y, runOps [] x y = x := fun _ _ => rfl
  rw [runOps_append, runOps_cons, h, h0]
  rfl
theorem rndL_take (l : List OpM) (k : Nat) (hk : k < l.length) : rndL (l.take (k + 1)) = rndL (l.take k) + if l[k].k = 0 then 1 else 0 := by
  rw [List.take_succ_eq_append_getElem hk]
  unfold rndL
  rw [List.filter_append, List.length_append]
  by_cases q : l[k].k = 0 <;> simp [q]
theorem rndL_take_le (l : List OpM) (k : Nat) : rndL (l.take k) ≤ rndL l := by
  unfold rndL
  have h : (l.filter fun o => decide (o.k = 0)).length = ((l.take k ++ l.drop k).filter fun o => decide (o.k = 0)).length := by rw [List.take_append_drop]
  rw [h, List.filter_append, List.length_append]; omega
theorem rx_loop (c : CodeM) (hl : c.ops.length ≤ 60000) (w0 t : List (BitVec 32)) (hw0 : w0.length ≤ 4000) (hok : opsOk c.ops w0.length = true) (ht : rndL c.ops ≤ t.length) (X : AHeap) (hw : X.WF) (h0 : X.get 0 = some (codeBlk c)) (ob : Nat) (hob : ob ≠ 0) (hb : X.get ob = some (wBlk w0)) {r} (hr : aloop rxL1 (ryFr t w0 0 ob 0 []) X = r) :
    ∃ e fr' X', r = some (e, fr', X') ∧ (e = .exit 2 ∧ ∃ ob, fr' 8 = .sl ob 1 0 (runOps c.ops w0 t).length ∧ X'.get ob = some (wBlk (runOps c.ops w0 t))) := by
  refine run_of hr (aloop_each c.ops.length (fun k fr H => ∃ y ob, fr = ryFr t (runOps (c.ops.take k) w0 t) (rndL (c.ops.take k)) ob k y ∧ H.WF ∧ ob ≠ 0 ∧ H.get 0 = some (codeBlk c) ∧ H.get ob = some (wBlk (runOps (c.ops.take k) w0 t))) _ (fun k hk fr H hR => ?_) (fun fr H hR => ?_) ⟨[], ob, rfl, hw, hob, h0, by simpa [runOps] using hb⟩)
  · obtain ⟨y, ob, rfl, hw, hob, g0, gb⟩ := hR
    have hlen : (runOps (c.ops.take k) w0 t).length = w0.length + k := by rw [runOps_length, List.length_take]; omega
    have h1 := (opsOk_all _ _).1 hok k hk
    have h2 := rndL_take c.ops k hk
    have h3 := rndL_take_le c.ops (k + 1)
    have h4 := rndL_take_le c.ops k
    have h5 := rndL_le c.ops
    obtain ⟨X1, ob', y', s1, s2, s3, s4, s5⟩ := rx_round c hl k hk (runOps (c.ops.take k) w0 t) t (rndL (c.ops.take k)) ob H y hw g0 hob gb (by omega) _ rfl (by rw [hlen]; rw [show ((w0.length + k : Nat) : Int) = (w0.length : Int) + k from by omega]; exact h1) (fun q => by rw [if_pos q] at h2; omega) (by omega)
    have e1 : runOps (c.ops.take (k + 1)) w0 t = runOps (c.ops.take k) w0 t ++ [opV c.ops[k] (runOps (c.ops.take k) w0 t) (at0 t (rndL (c.ops.take k)))] := by rw [List.take_succ_eq_append_getElem hk, runOps_snoc]
    have e2 : rndL (c.ops.take (k + 1)) = if c.ops[k].k = 0 then rndL (c.ops.take k) + 1 else rndL (c.ops.take k) := by rw [h2]; split <;> rfl
    refine ⟨_, _, _, s1, .inl ⟨rfl, y', ob', by rw [e1, e2], s2, s3, s4, by rw [e1]; exact s5⟩⟩
  · obtain ⟨y, ob, rfl, hw, hob, g0, gb⟩ := hR
    rw [codeBlk_eq] at g0
    rw [List.take_length] at gb ⊢
    refine ⟨_, _, _, by simp -implicitDefEqProofs +contextual (disch := omega) [ref19_Exec.l1, ryFr, g0]; first | rfl | exact ⟨rfl, rfl⟩ | exact ⟨rfl, rfl, rfl⟩, by simp, rfl, ob, by simp, gb⟩
set_option maxHeartbeats 4000000 in
theorem rExec_eq (c : CodeM) (hb : c.outs.length ≤ 1000000000) (hb2 : c.ops.length ≤ 1000000000) (inp tape : List (BitVec 32)) (hit : inp.length ≤ 1000000000 ∧ tape.length ≤ 1000000000) :
    ref19_Exec.spec [.agg c.cells, .rsl 1 (w32s inp), .rsl 1 (w32s tape)] = some (.tup [.rsl 1 (w32s (c.exec inp tape).1), .bool (c.exec inp tape).2]) := by
  have hC := rCan_eq c hb hb2
  have hR := rRandoms_eq c hb2
  have hcb := codeBlk_eq c
  unfold CodeM.exec
  unfold CodeM.cells at hC hR ⊢
  by_cases h1 : c.can = true
  · rw [h1] at hC
    by_cases h2 : c.randoms ≤ tape.length
    · have h2' : ¬ (tape.length : Int) < c.randoms := by omega
      rw [if_pos ⟨h1, h2⟩]
      have hcan := h1
      unfold CodeM.can at hcan
      simp only [Bool.and_eq_true, decide_eq_true_eq] at hcan
      obtain ⟨⟨⟨⟨q1, q2⟩, q3⟩, q4⟩, q5⟩ := hcan
      obtain ⟨n, hn⟩ : ∃ n : Nat, c.inN = n := ⟨c.inN.toNat, by omega⟩
      rw [hn] at hC hR q4 ⊢
      simp -implicitDefEqProofs +contextual (disch := omega) [ref19_Exec.spec, ref19_Exec, hC, hR, h1, h2, h2']
      generalize hr : aloop _ _ _ = r
      obtain ⟨e, fr', X', rfl, rfl, p1, p2, p3, p4, p5, ob, p6, p7, p8⟩ := rx_pad c n hn (by omega) inp tape _ (by (repeat' (first | assumption | with_reducible apply AHeap.WF.push | with_reducible apply AHeap.WF.set | with_reducible apply killAll_wf | exact AHeap.WF.empty)) <;> (simp <;> omega)) (by simp [codeBlk_eq, hn]) 1 (by omega) (by simp [wBlk, w32s]) hr
      rw [codeBlk_eq, hn] at p5
      simp -implicitDefEqProofs +contextual (disch := omega) [p1, p2, p3, p7]
      have hpl : (padM inp n).length = n := by simp
      generalize hr : aloop _ _ _ = r
      obtain ⟨e, fr2, X2, rfl, rfl, ob2, s1, s2⟩ := rx_loop c q3 (padM inp n) tape (by omega) (by rw [hpl]; exact q4) h2 X' p4 (by rw [codeBlk_eq, hn]; exact p5) ob p6 p8 (r := r) (by
        show aloop rxL1 (AFr.al [(2, .rsl 1 (w32s tape)), (3, .ptr 0 3 0 0), (8, .sl ob 1 0 (padM inp n).length), (9, .int .i64 0), (11, .int .i64 0)]) X' = r
        rw [hpl]; exact hr)
      simp only [wBlk] at s2
      simp -implicitDefEqProofs +contextual (disch := omega) [s1, s2]
    · have h2' : (tape.length : Int) < c.randoms := by omega
      simp -implicitDefEqProofs +contextual (disch := omega) [ref19_Exec.spec, ref19_Exec, hC, hR, h1, h2, h2']
      rfl
  · rw [Bool.not_eq_true] at h1
    rw [h1] at hC
    simp -implicitDefEqProofs +contextual (disch := omega) [ref19_Exec.spec, ref19_Exec, hC, h1]
    rfl
end Go.Abs
end

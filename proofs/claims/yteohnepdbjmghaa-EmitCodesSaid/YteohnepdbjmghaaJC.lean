import Derived.Test.YteohnepdbjmghaaJA
import Derived.Test.YteohnepdbjmghaaQI
import Derived.Test.YteohnepdbjmghaaIrF
import Derived.Test.YteohnepdbjmghaaSA
import Derived.Test.YteohnepdbjmghaaWA
section
set_option linter.unusedSimpArgs false
set_option linter.unusedVariables false
namespace Go.Abs
theorem rtakes_eq (k : Int) : ref19_Takes.spec [.int .i64 k] = some (.int .i64 (takesM k)) := by
  by_cases h1 : k = 1
  · subst h1; simp -implicitDefEqProofs +contextual (disch := omega) [ref19_Takes.spec, ref19_Takes, takesM]
  by_cases h2 : k = 2
  · subst h2; simp -implicitDefEqProofs +contextual (disch := omega) [ref19_Takes.spec, ref19_Takes, takesM]
  by_cases h3 : 3 ≤ k
  · by_cases h6 : k ≤ 6
    · simp -implicitDefEqProofs +contextual (disch := omega) [ref19_Takes.spec, ref19_Takes, takesM, h1, h2, h3, h6]
    · by_cases h8 : k = 8
      · subst h8; simp -implicitDefEqProofs +contextual (disch := omega) [ref19_Takes.spec, ref19_Takes, takesM]
      · simp -implicitDefEqProofs +contextual (disch := omega) [ref19_Takes.spec, ref19_Takes, takesM, h1, h2, h3, h6, h8]
  · by_cases h8 : k = 8
    · omega
    · simp -implicitDefEqProofs +contextual (disch := omega) [ref19_Takes.spec, ref19_Takes, takesM, h1, h2, h3, h8]
def rcFr (k : Nat) (x : List (Nat × AV)) : AFr := AFr.al ([(1, .ptr 0 3 0 0), (3, .int .i64 k)] ++ x)
set_option maxHeartbeats 8000000 in
theorem rcan_round (c : CodeM) (hl : c.ops.length ≤ 60000) (hin : 0 ≤ c.inN ∧ c.inN ≤ 4000) (k : Nat) (hk : k < c.ops.length) (X : AHeap) (x : List (Nat × AV)) (hw : X.WF) (hg : X.get 0 = some (codeBlk c)) (o : OpM) (ho : c.ops[k] = o) :
    ∃ e fr1 X1, ref19_Can.l0 ref19_Takes.spec (rcFr k x) X = some (e, fr1, X1) ∧ X1.WF ∧ X1.get 0 = some (codeBlk c) ∧
      ((o.ok (c.inN + k) = true ∧ e = .normal ∧ ∃ y, fr1 = rcFr (k + 1) y) ∨ (o.ok (c.inN + k) = false ∧ e = .ret ∧ fr1 2 = .bool false)) := by
  have hk' : (k : Int) < c.ops.length := by omega
  have hk1 : ((k + 1 : Nat) : Int) = (k : Int) + 1 := by omega
  have hrow := opRows_get c.ops k hk
  rw [ho] at hrow
  have hne := hw _ _ hg
  have hcb : codeBlk c = ⟨T.ty_api_Code, 3, true, [[.int .i64 c.inN, .rsl 4 (opRows c.ops), .rsl 1 (ints c.outs)]]⟩ := rfl
  obtain ⟨ok, oa, ob, on⟩ := o
  have hT := rtakes_eq ok
  simp only [OpM.cells] at hrow
  have fin : ∀ (A B : Bool), True := fun _ _ => trivial
  obtain ⟨w, hwd⟩ : ∃ w, w = c.inN + (k : Int) := ⟨_, rfl⟩
  have hw2 : (c.inN + (k : Int)) = w := hwd.symm
  rw [hw2]
  have hz : on = 0#32 ↔ on.toNat = 0 := ⟨fun h => by rw [h]; rfl, fun h => BitVec.eq_of_toNat_eq h⟩
  have hwir : ∀ (t : Int) (z : Int) (m : Int), (wireM z w (decide (m < t)) = true ↔ (m < t → 0 ≤ z ∧ z < w) ∧ (¬ m < t → z = 0)) := by
    intro t z m
    unfold wireM
    by_cases q : m < t <;> simp [q]
  have hnum : numberM ⟨ok, oa, ob, on⟩ = true ↔ (ok = 7 ∨ ((4 ≤ ok ∧ ok ≤ 6) ∧ on.toNat ≤ 31) ∨ (ok ≠ 7 ∧ ¬ (4 ≤ ok ∧ ok ≤ 6) ∧ on.toNat = 0)) := by
    unfold numberM
    dsimp only
    by_cases q7 : ok = 7
    · subst q7; simp
    · rw [if_neg q7]
      by_cases q4 : ok = 4 ∨ ok = 5 ∨ ok = 6
      · rw [if_pos q4, decide_eq_true_eq]; omega
      · rw [if_neg q4, decide_eq_true_eq, hz]; omega
  have hoka : (OpM.ok ⟨ok, oa, ob, on⟩ w = true) ↔ (0 ≤ ok ∧ ok < 9) ∧ (ok = 7 ∨ ((4 ≤ ok ∧ ok ≤ 6) ∧ on.toNat ≤ 31) ∨ (ok ≠ 7 ∧ ¬ (4 ≤ ok ∧ ok ≤ 6) ∧ on.toNat = 0)) ∧ ((0 < takesM ok → 0 ≤ oa ∧ oa < w) ∧ (¬ 0 < takesM ok → oa = 0)) ∧ ((1 < takesM ok → 0 ≤ ob ∧ ob < w) ∧ (¬ 1 < takesM ok → ob = 0)) := by
    rw [← hwir, ← hwir, ← hnum]
    simp only [OpM.ok, Bool.and_eq_true, decide_eq_true_eq]
    exact ⟨fun h => ⟨h.1.1.1, h.1.1.2, h.1.2, h.2⟩, fun h => ⟨⟨⟨h.1, h.2.1⟩, h.2.2.1⟩, h.2.2.2⟩⟩
  generalize OpM.ok ⟨ok, oa, ob, on⟩ w = okb at *
  refine ex_run (s := ?_) ?_ ?_
  rotate_left
  · simp -implicitDefEqProofs +contextual (disch := try first | omega | assumption | (simp; done)) [ref19_Can.l0, rcFr, hg, hcb, hrow, hk', hk1, hT, hw2, pick_orG, pick_andG]
    rfl
  refine acondp_ex (fun h => ?_) (fun h => ?_)
  · refine ⟨_, _, _, rfl, ?_, ?_, .inr ⟨?_, rfl, by simp⟩⟩
    · (repeat' (first | assumption | with_reducible apply AHeap.WF.push | with_reducible apply AHeap.WF.set)) <;> (simp <;> omega)
    · simp (disch := omega) [hg, hcb]
    · rw [Bool.eq_false_iff, Ne, hoka]; generalize takesM ok = tk at *; clear hoka hwir hnum; omega
  refine ex_run (s := ?_) ?_ ?_
  rotate_left
  · simp -implicitDefEqProofs +contextual (disch := try first | omega | assumption | (simp; done)) [ref19_Can.l0, rcFr, hg, hcb, hrow, hk', hk1, hT, hw2, pick_orG, pick_andG]
    rfl
  refine acondp_ex (fun h2 => ?_) (fun h2 => ?_)
  · refine ⟨_, _, _, rfl, ?_, ?_, .inr ⟨?_, rfl, by simp⟩⟩
    · (repeat' (first | assumption | with_reducible apply AHeap.WF.push | with_reducible apply AHeap.WF.set)) <;> (simp <;> omega)
    · simp (disch := omega) [hg, hcb]
    · rw [Bool.eq_false_iff, Ne, hoka]; generalize takesM ok = tk at *; clear hoka hwir hnum; simp only [hz, BitVec.lt_def] at h2; simp at h2; omega
  refine ex_run (s := ?_) ?_ ?_
  rotate_left
  · simp -implicitDefEqProofs +contextual (disch := try first | omega | assumption | (simp; done)) [ref19_Can.l0, rcFr, hg, hcb, hrow, hk', hk1, hT, hw2, pick_orG, pick_andG]
    rfl
  refine ⟨_, _, _, rfl, ?_, ?_, .inl ⟨?_, rfl, _, rfl⟩⟩
  · (repeat' (first | assumption | with_reducible apply AHeap.WF.push | with_reducible apply AHeap.WF.set)) <;> (simp <;> omega)
  · simp (disch := omega) [hg, hcb]
  · rw [hoka]; generalize takesM ok = tk at *; clear hoka hwir hnum; simp only [hz, BitVec.lt_def] at h2; simp at h2; omega
theorem opsOk_all : ∀ (l : List OpM) (w : Int), opsOk l w = true ↔ ∀ k (h : k < l.length), l[k].ok (w + k) = true
  | [], w => by simp [opsOk]
  | o :: l, w => by
    rw [opsOk_cons, Bool.and_eq_true, opsOk_all l (w + 1)]
    constructor
    · rintro ⟨h1, h2⟩ k hk
      cases k with
      | zero => rw [show w + ((0 : Nat) : Int) = w from by omega]; exact h1
      | succ k =>
        have := h2 k (by simpa using hk)
        simp only [List.getElem_cons_succ]
        rw [show w + ((k + 1 : Nat) : Int) = w + 1 + (k : Int) from by omega]; exact this
    · intro h
      refine ⟨by have := h 0 (by simp); rwa [show w + ((0 : Nat) : Int) = w from by omega] at this, fun k hk => ?_⟩
      have := h (k + 1) (by simpa using hk)
      simp only [List.getElem_cons_succ] at this
      rw [show w + 1 + (k : Int) = w + ((k + 1 : Nat) : Int) from by omega]; exact this
theorem rcan_loop (c : CodeM) (hl : c.ops.length ≤ 60000) (hin : 0 ≤ c.inN ∧ c.inN ≤ 4000) (X : AHeap) (hw : X.WF) (hg : X.get 0 = some (codeBlk c)) {r} (hr : aloop (ref19_Can.l0 ref19_Takes.spec) (AFr.al [(1, .ptr 0 3 0 0), (3, .int .i64 0)]) X = r) :
    ∃ e fr' X', r = some (e, fr', X') ∧ ((opsOk c.ops c.inN = true ∧ e = .exit 0 ∧ fr' 1 = .ptr 0 3 0 0 ∧ X'.WF ∧ X'.get 0 = some (codeBlk c)) ∨ (opsOk c.ops c.inN = false ∧ e = .ret ∧ fr' 2 = .bool false)) := by
  refine run_of hr (aloop_each c.ops.length (fun k fr H => (∃ y, fr = rcFr k y) ∧ H.WF ∧ H.get 0 = some (codeBlk c) ∧ ∀ i (h : i < c.ops.length), i < k → c.ops[i].ok (c.inN + i) = true) _ (fun k hk fr H hR => ?_) (fun fr H hR => ?_) ⟨⟨[], rfl⟩, hw, hg, fun i _ h => absurd h (by omega)⟩)
  · obtain ⟨⟨y, rfl⟩, h1, h2, h3⟩ := hR
    obtain ⟨e, fr1, X1, s1, s2, s3, s4⟩ := rcan_round c hl hin k hk H y h1 h2 _ rfl
    refine ⟨e, fr1, X1, s1, ?_⟩
    rcases s4 with ⟨q1, rfl, q2⟩ | ⟨q1, rfl, q2⟩
    · refine .inl ⟨rfl, q2, s2, s3, fun i hi hik => ?_⟩
      by_cases e : i = k
      · subst e; exact q1
      · exact h3 i hi (by omega)
    · refine .inr ⟨by simp, .inr ⟨?_, rfl, q2⟩⟩
      rw [Bool.eq_false_iff, Ne, opsOk_all]
      intro h; rw [h k hk] at q1; cases q1
  · obtain ⟨⟨y, rfl⟩, h1, h2, h3⟩ := hR
    have hcb : codeBlk c = ⟨T.ty_api_Code, 3, true, [[.int .i64 c.inN, .rsl 4 (opRows c.ops), .rsl 1 (ints c.outs)]]⟩ := rfl
    refine ⟨_, _, _, by simp -implicitDefEqProofs +contextual (disch := omega) [ref19_Can.l0, rcFr, h2, hcb]; first | rfl | exact ⟨rfl, rfl⟩ | exact ⟨rfl, rfl, rfl⟩, by simp, .inl ⟨(opsOk_all _ _).2 fun i hi => h3 i hi hi, rfl, by simp, h1, h2⟩⟩
def rcFr1 (k : Nat) (x : List (Nat × AV)) : AFr := AFr.al ([(1, .ptr 0 3 0 0), (7, .int .i64 k)] ++ x)
theorem rouns_loop (c : CodeM) (hl : c.ops.length ≤ 60000) (hin : 0 ≤ c.inN ∧ c.inN ≤ 4000) (hb : c.outs.length ≤ 1000000000) (X : AHeap) (hg : X.get 0 = some (codeBlk c)) {r} (hr : aloop (ref19_Can.l1 ref19_Takes.spec) (AFr.al [(1, .ptr 0 3 0 0), (7, .int .i64 0)]) X = r) :
    ∃ e fr' X', r = some (e, fr', X') ∧ ((c.outs.all (fun x => decide (0 ≤ x) && decide (x < c.inN + c.ops.length)) = true ∧ e = .exit 2) ∨ (c.outs.all (fun x => decide (0 ≤ x) && decide (x < c.inN + c.ops.length)) = false ∧ e = .ret ∧ fr' 2 = .bool false)) := by
  have hcb : codeBlk c = ⟨T.ty_api_Code, 3, true, [[.int .i64 c.inN, .rsl 4 (opRows c.ops), .rsl 1 (ints c.outs)]]⟩ := rfl
  have hcl : (c.ops.length : Int) ≤ 60000 := by omega
  refine run_of hr (aloop_each c.outs.length (fun k fr H => (∃ y, fr = rcFr1 k y) ∧ H = X ∧ ∀ i (h : i < c.outs.length), i < k → 0 ≤ c.outs[i] ∧ c.outs[i] < c.inN + c.ops.length) _ (fun k hk fr H hR => ?_) (fun fr H hR => ?_) ⟨⟨[], rfl⟩, rfl, fun i _ h => absurd h (by omega)⟩)
  · obtain ⟨⟨y, rfl⟩, rfl, h3⟩ := hR
    have hk' : (k : Int) < c.outs.length := by omega
    have hk1 : ((k + 1 : Nat) : Int) = (k : Int) + 1 := by omega
    have hrow := ints_at c.outs k hk
    have hme : c.outs[k] ∈ c.outs := List.getElem_mem hk
    generalize hx : c.outs[k] = o at *
    refine ex_run (s := ?_) ?_ ?_
    rotate_left
    · simp -implicitDefEqProofs +contextual (disch := try first | omega | assumption | (simp; done)) [ref19_Can.l1, rcFr1, hg, hcb, hrow, hk', hk1, pick_orG, pick_andG]
      rfl
    refine acondp_ex (fun h => ?_) (fun h => ?_)
    · refine ⟨_, _, _, rfl, .inr ⟨by simp, .inr ⟨?_, rfl, by simp⟩⟩⟩
      rw [List.all_eq_false]
      refine ⟨o, hme, ?_⟩
      simp; omega
    refine ex_run (s := ?_) ?_ ?_
    rotate_left
    · simp -implicitDefEqProofs +contextual (disch := try first | omega | assumption | (simp; done)) [ref19_Can.l1, rcFr1, hg, hcb, hrow, hk', hk1, pick_orG, pick_andG]
      rfl
    refine ⟨_, _, _, rfl, .inl ⟨rfl, ⟨_, rfl⟩, rfl, fun i hi hik => ?_⟩⟩
    by_cases e : i = k
    · subst e; rw [hx]; omega
    · exact h3 i hi (by omega)
  · obtain ⟨⟨y, rfl⟩, rfl, h3⟩ := hR
    refine ⟨_, _, _, by simp -implicitDefEqProofs +contextual (disch := omega) [ref19_Can.l1, rcFr1, hg, hcb]; first | rfl | exact ⟨rfl, rfl⟩ | exact ⟨rfl, rfl, rfl⟩, by simp, .inl ⟨?_, rfl⟩⟩
    rw [List.all_eq_true]
    intro x hx
    obtain ⟨i, hi, rfl⟩ := List.getElem_of_mem hx
    have := h3 i hi hi
    simp; omega
set_option maxHeartbeats 4000000 in
theorem irCan_eq (c : CodeM) (hb : c.outs.length ≤ 1000000000) (hb2 : c.ops.length ≤ 1000000000) : ref19_Can.spec [.agg c.cells] = some (.bool c.can) := by
  have hcb : codeBlk c = ⟨T.ty_api_Code, 3, true, [[.int .i64 c.inN, .rsl 4 (opRows c.ops), .rsl 1 (ints c.outs)]]⟩ := rfl
  unfold CodeM.cells CodeM.can
  by_cases h1 : 0 ≤ c.inN
  · have h1' : ¬ c.inN < 0 := by omega
    by_cases h2 : c.inN ≤ 4000
    · have h2' : ¬ 4000 < c.inN := by omega
      by_cases h3 : c.ops.length ≤ 60000
      · have h3' : ¬ (60000 : Int) < c.ops.length := by omega
        simp -implicitDefEqProofs +contextual (disch := omega) [ref19_Can.spec, ref19_Can, h1', h2', h3']
        generalize hr : aloop _ _ _ = r
        obtain ⟨e, fr', X', rfl, hq⟩ := rcan_loop c h3 ⟨h1, h2⟩ _ (by (repeat' (first | assumption | with_reducible apply AHeap.WF.push | with_reducible apply AHeap.WF.set | exact AHeap.WF.empty)) <;> (simp <;> omega)) (by simp [hcb]) hr
        rcases hq with ⟨hv, rfl, p2, p4, p5⟩ | ⟨hv, rfl, p3⟩
        · simp -implicitDefEqProofs +contextual (disch := omega) [p2, p5, hcb]
          generalize hr2 : aloop _ _ _ = r2
          obtain ⟨e, fr2, X2, rfl, q2⟩ := rouns_loop c h3 ⟨h1, h2⟩ hb X' p5 hr2
          rcases q2 with ⟨hv2, rfl⟩ | ⟨hv2, rfl, q2⟩
          · simp -implicitDefEqProofs +contextual (disch := omega) [h1, h2, h3, hv, hv2]
          · simp -implicitDefEqProofs +contextual (disch := omega) [h1, h2, h3, q2, hv, hv2]
        · simp -implicitDefEqProofs +contextual (disch := omega) [h1, h2, h3, p3, hv]
      · have h3' : (60000 : Int) < c.ops.length := by omega
        simp -implicitDefEqProofs +contextual (disch := omega) [ref19_Can.spec, ref19_Can, h1', h2', h3', h3]
    · have h2' : 4000 < c.inN := by omega
      simp -implicitDefEqProofs +contextual (disch := omega) [ref19_Can.spec, ref19_Can, h1', h2', h2]
  · have h1' : c.inN < 0 := by omega
    simp -implicitDefEqProofs +contextual (disch := omega) [ref19_Can.spec, ref19_Can, h1', h1]
end Go.Abs
end
section
set_option linter.unusedSimpArgs false
set_option linter.unusedVariables false
namespace Go.Abs
theorem codeBlk_eq (c : CodeM) : codeBlk c = ⟨T.ty_api_Code, 3, true, [[.int .i64 c.inN, .rsl 4 (opRows c.ops), .rsl 1 (ints c.outs)]]⟩ := rfl
theorem rOwn_eq (c : CodeM) (hl : c.ops.length ≤ 1000000000) (hb : c.outs.length ≤ 1000000000) : ref19_Own.spec [.agg c.cells] = some (.agg c.cells) := by
  unfold CodeM.cells
  simp -implicitDefEqProofs +contextual (disch := omega) [ref19_Own.spec, ref19_Own]
  have e1 : (opRows c.ops).take c.ops.length = opRows c.ops := by rw [← opRows_length c.ops, List.take_length]
  by_cases h1 : opRows c.ops = []
  · by_cases h2 : ints c.outs = []
    · simp -implicitDefEqProofs +contextual (disch := omega) [h1, h2, e1]
    · simp -implicitDefEqProofs +contextual (disch := omega) [h1, h2, e1]
  · by_cases h2 : ints c.outs = []
    · simp -implicitDefEqProofs +contextual (disch := omega) [h1, h2, e1]
    · simp -implicitDefEqProofs +contextual (disch := omega) [h1, h2, e1]
theorem rows_ops (rows : List (List AV)) (h : ∀ row, row ∈ rows → ShsOk [.int .i64, .int .i64, .int .i64, .int .u32] row) : ∃ l : List OpM, rows = opRows l := by
  obtain ⟨l, h1, _⟩ := rows_of (enc := OpM.cells) (ok := fun _ => True) (fun row h => by
    obtain ⟨a0, _, rfl, q0, h⟩ := shs_cons h
    obtain ⟨a1, _, rfl, q1, h⟩ := shs_cons h
    obtain ⟨a2, _, rfl, q2, h⟩ := shs_cons h
    obtain ⟨a3, rfl, q3⟩ := shs_one h
    obtain ⟨x0, rfl, _⟩ := sh_i64 q0
    obtain ⟨x1, rfl, _⟩ := sh_i64 q1
    obtain ⟨x2, rfl, _⟩ := sh_i64 q2
    obtain ⟨x3, rfl⟩ := sh_u32 q3
    exact ⟨⟨x0, x1, x2, x3⟩, rfl, trivial⟩) rows h
  exact ⟨l, h1⟩
theorem sh_code {cs : List AV} {ss : List Sh} (h : ShsOk (.int .i64 :: .sl 4 32 [.int .i64, .int .i64, .int .i64, .int .u32] :: .sl 1 8 [.int .i64] :: ss) cs) :
    ∃ (c : CodeM) (r : List AV), cs = c.cells ++ r ∧ ShsOk ss r ∧ I64 c.inN ∧ c.ops.length ≤ 4398046511101 ∧ c.outs.length ≤ 17592186043904 := by
  obtain ⟨a0, _, rfl, q0, h⟩ := shs_cons h
  obtain ⟨a1, _, rfl, q1, h⟩ := shs_cons h
  obtain ⟨a2, r, rfl, q2, h9⟩ := shs_cons h
  obtain ⟨x0, rfl, hx⟩ := sh_i64 q0
  simp only [ShOk] at q1
  obtain ⟨rows, rfl, hb, hr⟩ := q1
  obtain ⟨l, rfl⟩ := rows_ops rows hr
  obtain ⟨m, rfl, hm, _⟩ := sh_slint q2
  refine ⟨⟨x0, l, m⟩, r, rfl, h9, hx, ?_, by dsimp only; omega⟩
  simp [reachBytes] at hb
  dsimp only; omega
end Go.Abs
end
section
set_option linter.unusedSimpArgs false
set_option linter.unusedVariables false
end

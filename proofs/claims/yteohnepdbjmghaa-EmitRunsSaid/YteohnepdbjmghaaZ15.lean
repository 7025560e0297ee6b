/-
  What code comes to: the program's run.
-/
import Derived.Test.YteohnepdbjmghaaZ11
import Derived.Test.YteohnepdbjmghaaZ5
import Derived.Test.YteohnepdbjmghaaZ9
import Derived.Test.YteohnepdbjmghaaZ13
import Derived.Test.YteohnepdbjmghaaZ12
import Derived.Test.YteohnepdbjmghaaZ14
import Derived.Test.YteohnepdbjmghaaZ4
set_option linter.unusedSimpArgs false
set_option linter.unusedVariables false
set_option maxHeartbeats 20000000
set_option maxRecDepth 100000
section
section
namespace Go.Abs
theorem z_jt (k : Int) : z_a0.spec [.int .i64 k] = some (.int .i64 (z_a3 k)) := by
 by_cases h1 : k = 1
 ·subst h1; simp -implicitDefEqProofs +contextual (disch := omega) [z_a0.spec, z_a0, z_a3]
 by_cases h2 : k = 2
 ·subst h2; simp -implicitDefEqProofs +contextual (disch := omega) [z_a0.spec, z_a0, z_a3]
 by_cases h3 : 3 ≤ k
 ·by_cases h6 : k ≤ 6
  ·simp -implicitDefEqProofs +contextual (disch := omega) [z_a0.spec, z_a0, z_a3, h1, h2, h3, h6]
  ·by_cases h8 : k = 8
   ·subst h8; simp -implicitDefEqProofs +contextual (disch := omega) [z_a0.spec, z_a0, z_a3]
   ·simp -implicitDefEqProofs +contextual (disch := omega) [z_a0.spec, z_a0, z_a3, h1, h2, h3, h6, h8]
 ·by_cases h8 : k = 8
  ·omega
  ·simp -implicitDefEqProofs +contextual (disch := omega) [z_a0.spec, z_a0, z_a3, h1, h2, h3, h8]
def rcFr (k : Nat) (x : List (Nat × AV)) : AFr := AFr.al ([(1, .ptr 0 3 0 0), (3, .int .i64 k)] ++ x)
theorem z_qr (c : CodeM) (hl : c.ops.length ≤ 60000) (hin : 0 ≤ c.inN ∧ c.inN ≤ 4000) (k : Nat) (hk : k < c.ops.length) (X : Hp) (x : List (Nat × AV)) (hw : X.WF) (hg : X.get 0 = some (z_bp c)) (o : OpM) (ho : c.ops[k] = o) :
  ∃ e fr1 X1, z_a8.l0 z_a0.spec (rcFr k x) X = some (e, fr1, X1) ∧ X1.WF ∧ X1.get 0 = some (z_bp c) ∧
   ((o.ok (c.inN + k) = true ∧ e = .normal ∧ ∃ y, fr1 = rcFr (k + 1) y) ∨ (o.ok (c.inN + k) = false ∧ e = .ret ∧ fr1 2 = .bool false)) := by
 have hk' : (k : Int) < c.ops.length := by omega
 have hk1 : ((k + 1 : Nat) : Int) = (k : Int) + 1 := by omega
 have hrow := z_fg c.ops k hk
 rw [ho] at hrow
 have hne := hw _ _ hg
 have hcb : z_bp c = ⟨T.ty_api_Code, 3, true, [[.int .i64 c.inN, .rsl 4 (z_dw c.ops), .rsl 1 (ints c.outs)]]⟩ := rfl
 obtain ⟨ok, oa, ob, on⟩ := o
 have hT := z_jt ok
 simp only [OpM.cells] at hrow
 have fin : ∀ (A B : Bool), True := fun _ _ => trivial
 obtain ⟨w, hwd⟩ : ∃ w, w = c.inN + (k : Int) := ⟨_, rfl⟩
 have hw2 : (c.inN + (k : Int)) = w := hwd.symm
 rw [hw2]
 have hz : on = 0#32 ↔ on.toNat = 0 := ⟨fun h => by rw [h]; rfl, fun h => BitVec.eq_of_toNat_eq h⟩
 have hwir : ∀ (t : Int) (z : Int) (m : Int), (wireM z w (decide (m < t)) = true ↔ (m < t → 0 ≤ z ∧ z < w) ∧ (¬ m < t → z = 0)) := by
  intro t z m
  unfold wireM
  by_cases q : m < t <;> simp [q]
 have hnum : z_gi ⟨ok, oa, ob, on⟩ = true ↔ (ok = 7 ∨ ((4 ≤ ok ∧ ok ≤ 6) ∧ on.toNat ≤ 31) ∨ (ok ≠ 7 ∧ ¬ (4 ≤ ok ∧ ok ≤ 6) ∧ on.toNat = 0)) := by
  unfold z_gi
  dsimp only
  by_cases q7 : ok = 7
  ·subst q7; simp
  ·rw [if_neg q7]
   by_cases q4 : ok = 4 ∨ ok = 5 ∨ ok = 6
   ·rw [if_pos q4, decide_eq_true_eq]; omega
   ·rw [if_neg q4, decide_eq_true_eq, hz]; omega
 have hoka : (OpM.ok ⟨ok, oa, ob, on⟩ w = true) ↔ (0 ≤ ok ∧ ok < 9) ∧ (ok = 7 ∨ ((4 ≤ ok ∧ ok ≤ 6) ∧ on.toNat ≤ 31) ∨ (ok ≠ 7 ∧ ¬ (4 ≤ ok ∧ ok ≤ 6) ∧ on.toNat = 0)) ∧ ((0 < z_a3 ok → 0 ≤ oa ∧ oa < w) ∧ (¬ 0 < z_a3 ok → oa = 0)) ∧ ((1 < z_a3 ok → 0 ≤ ob ∧ ob < w) ∧ (¬ 1 < z_a3 ok → ob = 0)) := by
  rw [← hwir, ← hwir, ← hnum]
  simp only [OpM.ok, Bool.and_eq_true, decide_eq_true_eq]
  exact ⟨fun h => ⟨h.1.1.1, h.1.1.2, h.1.2, h.2⟩, fun h => ⟨⟨⟨h.1, h.2.1⟩, h.2.2.1⟩, h.2.2.2⟩⟩
 generalize OpM.ok ⟨ok, oa, ob, on⟩ w = okb at *
 refine z_nl (s := ?_) ?_ ?_
 rotate_left
 ·simp -implicitDefEqProofs +contextual (disch := try first | omega | assumption | (simp; done)) [z_a8.l0, rcFr, hg, hcb, hrow, hk', hk1, hT, hw2, z_h3, z_g0]
  rfl
 refine z_kh (fun h => ?_) (fun h => ?_)
 ·refine ⟨_, _, _, rfl, ?_, ?_, .inr ⟨?_, rfl, by simp⟩⟩
  ·(repeat' (first | assumption | with_reducible apply Hp.WF.push | with_reducible apply Hp.WF.set)) <;> (simp <;> omega)
  ·simp (disch := omega) [hg, hcb]
  ·rw [Bool.eq_false_iff, Ne, hoka]; generalize z_a3 ok = tk at *; clear hoka hwir hnum; omega
 refine z_nl (s := ?_) ?_ ?_
 rotate_left
 ·simp -implicitDefEqProofs +contextual (disch := try first | omega | assumption | (simp; done)) [z_a8.l0, rcFr, hg, hcb, hrow, hk', hk1, hT, hw2, z_h3, z_g0]
  rfl
 refine z_kh (fun h2 => ?_) (fun h2 => ?_)
 ·refine ⟨_, _, _, rfl, ?_, ?_, .inr ⟨?_, rfl, by simp⟩⟩
  ·(repeat' (first | assumption | with_reducible apply Hp.WF.push | with_reducible apply Hp.WF.set)) <;> (simp <;> omega)
  ·simp (disch := omega) [hg, hcb]
  ·rw [Bool.eq_false_iff, Ne, hoka]; generalize z_a3 ok = tk at *; clear hoka hwir hnum; simp only [hz, BitVec.lt_def] at h2; simp at h2; omega
 refine z_nl (s := ?_) ?_ ?_
 rotate_left
 ·simp -implicitDefEqProofs +contextual (disch := try first | omega | assumption | (simp; done)) [z_a8.l0, rcFr, hg, hcb, hrow, hk', hk1, hT, hw2, z_h3, z_g0]
  rfl
 refine ⟨_, _, _, rfl, ?_, ?_, .inl ⟨?_, rfl, _, rfl⟩⟩
 ·(repeat' (first | assumption | with_reducible apply Hp.WF.push | with_reducible apply Hp.WF.set)) <;> (simp <;> omega)
 ·simp (disch := omega) [hg, hcb]
 ·rw [hoka]; generalize z_a3 ok = tk at *; clear hoka hwir hnum; simp only [hz, BitVec.lt_def] at h2; simp at h2; omega
theorem z_e2 : ∀ (l : List OpM) (w : Int), opsOk l w = true ↔ ∀ k (h : k < l.length), l[k].ok (w + k) = true
 | [], w => by simp [opsOk]
 | o :: l, w => by
  rw [z_k7, Bool.and_eq_true, z_e2 l (w + 1)]
  constructor
  ·rintro ⟨h1, h2⟩ k hk
   cases k with
   | zero => rw [show w + ((0 : Nat) : Int) = w from by omega]; exact h1
   | succ k =>
    have := h2 k (by simpa using hk)
    simp only [List.getElem_cons_succ]
    rw [show w + ((k + 1 : Nat) : Int) = w + 1 + (k : Int) from by omega]; exact this
  ·intro h
   refine ⟨by have := h 0 (by simp); rwa [show w + ((0 : Nat) : Int) = w from by omega] at this, fun k hk => ?_⟩
   have := h (k + 1) (by simpa using hk)
   simp only [List.getElem_cons_succ] at this
   rw [show w + 1 + (k : Int) = w + ((k + 1 : Nat) : Int) from by omega]; exact this
theorem z_sp (c : CodeM) (hl : c.ops.length ≤ 60000) (hin : 0 ≤ c.inN ∧ c.inN ≤ 4000) (X : Hp) (hw : X.WF) (hg : X.get 0 = some (z_bp c)) {r} (hr : aloop (z_a8.l0 z_a0.spec) (AFr.al [(1, .ptr 0 3 0 0), (3, .int .i64 0)]) X = r) :
  ∃ e fr' X', r = some (e, fr', X') ∧ ((opsOk c.ops c.inN = true ∧ e = .exit 0 ∧ fr' 1 = .ptr 0 3 0 0 ∧ X'.WF ∧ X'.get 0 = some (z_bp c)) ∨ (opsOk c.ops c.inN = false ∧ e = .ret ∧ fr' 2 = .bool false)) := by
 refine z_ee hr (z_cf c.ops.length (fun k fr H => (∃ y, fr = rcFr k y) ∧ H.WF ∧ H.get 0 = some (z_bp c) ∧ ∀ i (h : i < c.ops.length), i < k → c.ops[i].ok (c.inN + i) = true) _ (fun k hk fr H hR => ?_) (fun fr H hR => ?_) ⟨⟨[], rfl⟩, hw, hg, fun i _ h => absurd h (by omega)⟩)
 ·obtain ⟨⟨y, rfl⟩, h1, h2, h3⟩ := hR
  obtain ⟨e, fr1, X1, s1, s2, s3, s4⟩ := z_qr c hl hin k hk H y h1 h2 _ rfl
  refine ⟨e, fr1, X1, s1, ?_⟩
  rcases s4 with ⟨q1, rfl, q2⟩ | ⟨q1, rfl, q2⟩
  ·refine .inl ⟨rfl, q2, s2, s3, fun i hi hik => ?_⟩
   by_cases e : i = k
   ·subst e; exact q1
   ·exact h3 i hi (by omega)
  ·refine .inr ⟨by simp, .inr ⟨?_, rfl, q2⟩⟩
   rw [Bool.eq_false_iff, Ne, z_e2]
   intro h; rw [h k hk] at q1; cases q1
 ·obtain ⟨⟨y, rfl⟩, h1, h2, h3⟩ := hR
  have hcb : z_bp c = ⟨T.ty_api_Code, 3, true, [[.int .i64 c.inN, .rsl 4 (z_dw c.ops), .rsl 1 (ints c.outs)]]⟩ := rfl
  refine ⟨_, _, _, by simp -implicitDefEqProofs +contextual (disch := omega) [z_a8.l0, rcFr, h2, hcb]; first | rfl | exact ⟨rfl, rfl⟩ | exact ⟨rfl, rfl, rfl⟩, by simp, .inl ⟨(z_e2 _ _).2 fun i hi => h3 i hi hi, rfl, by simp, h1, h2⟩⟩
def rcFr1 (k : Nat) (x : List (Nat × AV)) : AFr := AFr.al ([(1, .ptr 0 3 0 0), (7, .int .i64 k)] ++ x)
theorem z_qp (c : CodeM) (hl : c.ops.length ≤ 60000) (hin : 0 ≤ c.inN ∧ c.inN ≤ 4000) (hb : c.outs.length ≤ 1000000000) (X : Hp) (hg : X.get 0 = some (z_bp c)) {r} (hr : aloop (z_a8.l1 z_a0.spec) (AFr.al [(1, .ptr 0 3 0 0), (7, .int .i64 0)]) X = r) :
  ∃ e fr' X', r = some (e, fr', X') ∧ ((c.outs.all (fun x => decide (0 ≤ x) && decide (x < c.inN + c.ops.length)) = true ∧ e = .exit 2) ∨ (c.outs.all (fun x => decide (0 ≤ x) && decide (x < c.inN + c.ops.length)) = false ∧ e = .ret ∧ fr' 2 = .bool false)) := by
 have hcb : z_bp c = ⟨T.ty_api_Code, 3, true, [[.int .i64 c.inN, .rsl 4 (z_dw c.ops), .rsl 1 (ints c.outs)]]⟩ := rfl
 have hcl : (c.ops.length : Int) ≤ 60000 := by omega
 refine z_ee hr (z_cf c.outs.length (fun k fr H => (∃ y, fr = rcFr1 k y) ∧ H = X ∧ ∀ i (h : i < c.outs.length), i < k → 0 ≤ c.outs[i] ∧ c.outs[i] < c.inN + c.ops.length) _ (fun k hk fr H hR => ?_) (fun fr H hR => ?_) ⟨⟨[], rfl⟩, rfl, fun i _ h => absurd h (by omega)⟩)
 ·obtain ⟨⟨y, rfl⟩, rfl, h3⟩ := hR
  have hk' : (k : Int) < c.outs.length := by omega
  have hk1 : ((k + 1 : Nat) : Int) = (k : Int) + 1 := by omega
  have hrow := z_tb c.outs k hk
  have hme : c.outs[k] ∈ c.outs := List.getElem_mem hk
  generalize hx : c.outs[k] = o at *
  refine z_nl (s := ?_) ?_ ?_
  rotate_left
  ·simp -implicitDefEqProofs +contextual (disch := try first | omega | assumption | (simp; done)) [z_a8.l1, rcFr1, hg, hcb, hrow, hk', hk1, z_h3, z_g0]
   rfl
  refine z_kh (fun h => ?_) (fun h => ?_)
  ·refine ⟨_, _, _, rfl, .inr ⟨by simp, .inr ⟨?_, rfl, by simp⟩⟩⟩
   rw [List.all_eq_false]
   refine ⟨o, hme, ?_⟩
   simp; omega
  refine z_nl (s := ?_) ?_ ?_
  rotate_left
  ·simp -implicitDefEqProofs +contextual (disch := try first | omega | assumption | (simp; done)) [z_a8.l1, rcFr1, hg, hcb, hrow, hk', hk1, z_h3, z_g0]
   rfl
  refine ⟨_, _, _, rfl, .inl ⟨rfl, ⟨_, rfl⟩, rfl, fun i hi hik => ?_⟩⟩
  by_cases e : i = k
  ·subst e; rw [hx]; omega
  ·exact h3 i hi (by omega)
 ·obtain ⟨⟨y, rfl⟩, rfl, h3⟩ := hR
  refine ⟨_, _, _, by simp -implicitDefEqProofs +contextual (disch := omega) [z_a8.l1, rcFr1, hg, hcb]; first | rfl | exact ⟨rfl, rfl⟩ | exact ⟨rfl, rfl, rfl⟩, by simp, .inl ⟨?_, rfl⟩⟩
  rw [List.all_eq_true]
  intro x hx
  obtain ⟨i, hi, rfl⟩ := List.getElem_of_mem hx
  have := h3 i hi hi
  simp; omega
theorem z_l0 (c : CodeM) (hb : c.outs.length ≤ 1000000000) (hb2 : c.ops.length ≤ 1000000000) : z_a8.spec [.agg c.cells] = some (.bool c.can) := by
 have hcb : z_bp c = ⟨T.ty_api_Code, 3, true, [[.int .i64 c.inN, .rsl 4 (z_dw c.ops), .rsl 1 (ints c.outs)]]⟩ := rfl
 unfold CodeM.cells CodeM.can
 by_cases h1 : 0 ≤ c.inN
 ·have h1' : ¬ c.inN < 0 := by omega
  by_cases h2 : c.inN ≤ 4000
  ·have h2' : ¬ 4000 < c.inN := by omega
   by_cases h3 : c.ops.length ≤ 60000
   ·have h3' : ¬ (60000 : Int) < c.ops.length := by omega
    simp -implicitDefEqProofs +contextual (disch := omega) [z_a8.spec, z_a8, h1', h2', h3']
    generalize hr : aloop _ _ _ = r
    obtain ⟨e, fr', X', rfl, hq⟩ := z_sp c h3 ⟨h1, h2⟩ _ (by (repeat' (first | assumption | with_reducible apply Hp.WF.push | with_reducible apply Hp.WF.set | exact Hp.WF.empty)) <;> (simp <;> omega)) (by simp [hcb]) hr
    rcases hq with ⟨hv, rfl, p2, p4, p5⟩ | ⟨hv, rfl, p3⟩
    ·simp -implicitDefEqProofs +contextual (disch := omega) [p2, p5, hcb]
     generalize hr2 : aloop _ _ _ = r2
     obtain ⟨e, fr2, X2, rfl, q2⟩ := z_qp c h3 ⟨h1, h2⟩ hb X' p5 hr2
     rcases q2 with ⟨hv2, rfl⟩ | ⟨hv2, rfl, q2⟩
     ·simp -implicitDefEqProofs +contextual (disch := omega) [h1, h2, h3, hv, hv2]
     ·simp -implicitDefEqProofs +contextual (disch := omega) [h1, h2, h3, q2, hv, hv2]
    ·simp -implicitDefEqProofs +contextual (disch := omega) [h1, h2, h3, p3, hv]
   ·have h3' : (60000 : Int) < c.ops.length := by omega
    simp -implicitDefEqProofs +contextual (disch := omega) [z_a8.spec, z_a8, h1', h2', h3', h3]
  ·have h2' : 4000 < c.inN := by omega
   simp -implicitDefEqProofs +contextual (disch := omega) [z_a8.spec, z_a8, h1', h2', h2]
 ·have h1' : c.inN < 0 := by omega
  simp -implicitDefEqProofs +contextual (disch := omega) [z_a8.spec, z_a8, h1', h1]
end Go.Abs
end
section
namespace Go.Abs
theorem z_at (c : CodeM) : z_bp c = ⟨T.ty_api_Code, 3, true, [[.int .i64 c.inN, .rsl 4 (z_dw c.ops), .rsl 1 (ints c.outs)]]⟩ := rfl
theorem z_jw (c : CodeM) (hl : c.ops.length ≤ 1000000000) : z_bf.spec [.agg c.cells] = some (.int .i64 (c.randoms : Nat)) := by
 unfold CodeM.cells
 simp -implicitDefEqProofs +contextual (disch := omega) [z_bf.spec, z_bf]
 generalize hr : aloop _ _ _ = r
 obtain ⟨e, fr', X', rfl, rfl, hq⟩ : ∃ e fr' X', r = some (e, fr', X') ∧ (e = .exit 0 ∧ fr' 3 = .int .i64 (c.randoms : Nat)) := by
  refine z_ee hr (z_cf c.ops.length (fun k fr H => (∃ y, fr = AFr.al ([(1, .ptr 0 3 0 0), (3, .int .i64 (rndL (c.ops.take k) : Nat)), (4, .int .i64 k)] ++ y)) ∧ H.get 0 = some (z_bp c)) _ (fun k hk fr H hR => ?_) (fun fr H hR => ?_) ⟨⟨[], rfl⟩, by simp [z_at]⟩)
  ·obtain ⟨⟨y, rfl⟩, h2⟩ := hR
   rw [z_at] at h2
   have hk' : (k : Int) < c.ops.length := by omega
   have hk1 : ((k + 1 : Nat) : Int) = (k : Int) + 1 := by omega
   have hrow := z_fg c.ops k hk
   have hb : rndL (c.ops.take k) ≤ k := Nat.le_trans (z_oq _) (by rw [List.length_take]; omega)
   have hs : rndL (c.ops.take (k + 1)) = rndL (c.ops.take k) + if c.ops[k].k = 0 then 1 else 0 := by
    rw [List.take_succ_eq_append_getElem hk]
    unfold rndL
    rw [List.filter_append, List.length_append]
    by_cases q : c.ops[k].k = 0 <;> simp [q]
   rw [hs]
   generalize c.ops[k] = o at *
   generalize rndL (c.ops.take k) = n at *
   simp only [OpM.cells] at hrow
   have hn1 : ((n + 1 : Nat) : Int) = (n : Int) + 1 := by omega
   by_cases h0 : o.k = 0
   ·rw [if_pos h0, hn1, hk1]
    refine ⟨_, _, _, by simp -implicitDefEqProofs +contextual (disch := omega) [z_bf.l0, h2, hrow, hk', h0]; first | rfl | exact ⟨rfl, rfl⟩ | exact ⟨rfl, rfl, rfl⟩, .inl ⟨rfl, ⟨_, rfl⟩, by rw [z_at]; exact h2⟩⟩
   ·rw [if_neg h0, hk1, Nat.add_zero]
    refine ⟨_, _, _, by simp -implicitDefEqProofs +contextual (disch := omega) [z_bf.l0, h2, hrow, hk', h0]; first | rfl | exact ⟨rfl, rfl⟩ | exact ⟨rfl, rfl, rfl⟩, .inl ⟨rfl, ⟨_, rfl⟩, by rw [z_at]; exact h2⟩⟩
  ·obtain ⟨⟨y, rfl⟩, h2⟩ := hR
   rw [z_at] at h2
   refine ⟨_, _, _, by simp -implicitDefEqProofs +contextual (disch := omega) [z_bf.l0, h2]; first | rfl | exact ⟨rfl, rfl⟩ | exact ⟨rfl, rfl, rfl⟩, by simp, rfl, ?_⟩
   simp [rndL, CodeM.randoms]
 simp -implicitDefEqProofs +contextual (disch := omega) [hq]
theorem z_yd (c : CodeM) (hl : c.ops.length ≤ 1000000000) (hb : c.outs.length ≤ 1000000000) : z_dn.spec [.agg c.cells] = some (.agg c.cells) := by
 unfold CodeM.cells
 simp -implicitDefEqProofs +contextual (disch := omega) [z_dn.spec, z_dn]
 have e1 : (z_dw c.ops).take c.ops.length = z_dw c.ops := by rw [← z_fb c.ops, List.take_length]
 by_cases h1 : z_dw c.ops = []
 ·by_cases h2 : ints c.outs = []
  ·simp -implicitDefEqProofs +contextual (disch := omega) [h1, h2, e1]
  ·simp -implicitDefEqProofs +contextual (disch := omega) [h1, h2, e1]
 ·by_cases h2 : ints c.outs = []
  ·simp -implicitDefEqProofs +contextual (disch := omega) [h1, h2, e1]
  ·simp -implicitDefEqProofs +contextual (disch := omega) [h1, h2, e1]
theorem z_vf (rows : List (List AV)) (h : ∀ row, row ∈ rows → ShsOk [.int .i64, .int .i64, .int .i64, .int .u32] row) : ∃ l : List OpM, rows = z_dw l := by
 obtain ⟨l, h1, _⟩ := z_op (enc := OpM.cells) (ok := fun _ => True) (fun row h => by
  obtain ⟨a0, _, rfl, q0, h⟩ := z_gf h
  obtain ⟨a1, _, rfl, q1, h⟩ := z_gf h
  obtain ⟨a2, _, rfl, q2, h⟩ := z_gf h
  obtain ⟨a3, rfl, q3⟩ := z_oi h
  obtain ⟨x0, rfl, _⟩ := z_mx q0
  obtain ⟨x1, rfl, _⟩ := z_mx q1
  obtain ⟨x2, rfl, _⟩ := z_mx q2
  obtain ⟨x3, rfl⟩ := z_wz q3
  exact ⟨⟨x0, x1, x2, x3⟩, rfl, trivial⟩) rows h
 exact ⟨l, h1⟩
theorem z_x3 {cs : List AV} {ss : List Sh} (h : ShsOk (.int .i64 :: .sl 4 32 [.int .i64, .int .i64, .int .i64, .int .u32] :: .sl 1 8 [.int .i64] :: ss) cs) :
  ∃ (c : CodeM) (r : List AV), cs = c.cells ++ r ∧ ShsOk ss r ∧ I64 c.inN ∧ c.ops.length ≤ 4398046511101 ∧ c.outs.length ≤ 17592186043904 := by
 obtain ⟨a0, _, rfl, q0, h⟩ := z_gf h
 obtain ⟨a1, _, rfl, q1, h⟩ := z_gf h
 obtain ⟨a2, r, rfl, q2, h9⟩ := z_gf h
 obtain ⟨x0, rfl, hx⟩ := z_mx q0
 simp only [ShOk] at q1
 obtain ⟨rows, rfl, hb, hr⟩ := q1
 obtain ⟨l, rfl⟩ := z_vf rows hr
 obtain ⟨m, rfl, hm, _⟩ := z_va q2
 refine ⟨⟨x0, l, m⟩, r, rfl, h9, hx, ?_, by dsimp only; omega⟩
 simp [reachBytes] at hb
 dsimp only; omega
end Go.Abs
end
section
namespace Go.Abs
def rxFr (inN : List (BitVec 32)) (t : List (BitVec 32)) (ob k : Nat) (x : List (Nat × AV)) : AFr :=
 AFr.al ([(1, .rsl 1 (w32s inN)), (2, .rsl 1 (w32s t)), (3, .ptr 0 3 0 0), (8, .sl ob 1 0 k), (9, .int .i64 0), (10, .int .i64 k)] ++ x)
noncomputable abbrev rxL0 := z_bd.l0 z_a8.spec z_bf.spec z_a0.spec z_ap.spec z_cy.spec
noncomputable abbrev rxL1 := z_bd.l1 z_a8.spec z_bf.spec z_a0.spec z_ap.spec z_cy.spec
theorem z_s0 (l : List (BitVec 32)) (n : Nat) : padM l (n + 1) = padM l n ++ [at0 l n] := by
 unfold padM; rw [List.range_succ, List.map_append]; rfl
@[simp] theorem z_yh (l : List (BitVec 32)) (n : Nat) : (padM l n).length = n := by simp [padM]
theorem rx_pad (c : CodeM) (n : Nat) (hn : c.inN = n) (hn4 : n ≤ 4000) (inp t : List (BitVec 32)) (X : Hp) (hw : X.WF) (h0 : X.get 0 = some (z_bp c)) (ob : Nat) (hob : ob ≠ 0) (hb : X.get ob = some (wBlk [])) {r} (hr : aloop rxL0 (rxFr inp t ob 0 []) X = r) :
  ∃ e fr' X', r = some (e, fr', X') ∧ (e = .exit 0 ∧ fr' 2 = .rsl 1 (w32s t) ∧ fr' 3 = .ptr 0 3 0 0 ∧ fr' 9 = .int .i64 0 ∧ X'.WF ∧ X'.get 0 = some (z_bp c) ∧ ∃ ob, ob ≠ 0 ∧ fr' 8 = .sl ob 1 0 n ∧ X'.get ob = some (wBlk (padM inp n))) := by
 refine z_ee hr (z_cf n (fun k fr H => ∃ y ob, fr = rxFr inp t ob k y ∧ H.WF ∧ ob ≠ 0 ∧ H.get 0 = some (z_bp c) ∧ H.get ob = some (wBlk (padM inp k))) _ (fun k hk fr H hR => ?_) (fun fr H hR => ?_) ⟨[], ob, rfl, hw, hob, h0, by simpa [padM] using hb⟩)
 ·obtain ⟨y, ob, rfl, hw, hob, g0, gb⟩ := hR
  have hk' : (k : Int) < n := by omega
  have hk1 : ((k + 1 : Nat) : Int) = (k : Int) + 1 := by omega
  have hbo := hw _ _ gb
  rw [z_at, hn] at g0
  simp only [wBlk] at gb
  have hlen : (padM inp k).length = k := by simp
  rw [z_s0]
  generalize padM inp k = l at *
  subst hlen
  by_cases hi : l.length < inp.length
  ·have hi' : (l.length : Int) < inp.length := by omega
   refine ⟨_, _, _, by simp -implicitDefEqProofs +contextual (disch := omega) [z_bd.l0, rxFr, g0, gb, hk', hi, hi']; first | rfl | exact ⟨rfl, rfl⟩ | exact ⟨rfl, rfl, rfl⟩, .inl ⟨rfl, _, _, by simp only [rxFr, hk1]; rfl, ?_, ?_, ?_, ?_⟩⟩
   ·(repeat' (first | assumption | with_reducible apply Hp.WF.push | with_reducible apply Hp.WF.set | with_reducible apply z_az | exact Hp.WF.empty)) <;> (simp <;> omega)
   ·omega
   ·rw [z_at, hn]; simp (disch := omega) [g0]
   ·simp (disch := omega) [wBlk, z_dz]
  ·have hi' : ¬ (l.length : Int) < inp.length := by omega
   have hz : at0 inp l.length = 0#32 := by simp [at0, List.getD_eq_getElem?_getD, List.getElem?_eq_none (show inp.length ≤ l.length by omega)]
   refine ⟨_, _, _, by simp -implicitDefEqProofs +contextual (disch := omega) [z_bd.l0, rxFr, g0, gb, hk', hi, hi']; first | rfl | exact ⟨rfl, rfl⟩ | exact ⟨rfl, rfl, rfl⟩, .inl ⟨rfl, _, _, by simp only [rxFr, hk1]; rfl, ?_, ?_, ?_, ?_⟩⟩
   ·(repeat' (first | assumption | with_reducible apply Hp.WF.push | with_reducible apply Hp.WF.set | with_reducible apply z_az | exact Hp.WF.empty)) <;> (simp <;> omega)
   ·omega
   ·rw [z_at, hn]; simp (disch := omega) [g0]
   ·simp (disch := omega) [wBlk, hz, z_dz]
 ·obtain ⟨y, ob, rfl, hw, hob, g0, gb⟩ := hR
  have g0' := g0
  rw [z_at, hn] at g0
  refine ⟨_, _, _, by simp -implicitDefEqProofs +contextual (disch := omega) [z_bd.l0, rxFr, g0]; first | rfl | exact ⟨rfl, rfl⟩ | exact ⟨rfl, rfl, rfl⟩, by simp, rfl, by simp, by simp, by simp, hw, g0', ob, hob, by simp, gb⟩
def ryFr (t : List (BitVec 32)) (w : List (BitVec 32)) (a ob k : Nat) (x : List (Nat × AV)) : AFr :=
 AFr.al ([(2, .rsl 1 (w32s t)), (3, .ptr 0 3 0 0), (8, .sl ob 1 0 w.length), (9, .int .i64 a), (11, .int .i64 k)] ++ x)
def opV (o : OpM) (w : List (BitVec 32)) (t0 : BitVec 32) : BitVec 32 := if o.k = 0 then t0 else stepW o (if 0 < z_a3 o.k then at0 w o.a.toNat else 0#32) (if 1 < z_a3 o.k then at0 w o.b.toNat else 0#32)
theorem shl_M (a n : BitVec 32) : (z_db 0 a n false).w = a <<< n.toNat := by
 unfold z_db; split
 ·rename_i h; subst h; simp
 ·rfl
theorem shr_M (a n : BitVec 32) : (z_db 1 a n false).w = a >>> n.toNat := by
 unfold z_db; split
 ·rename_i h; subst h; simp
 ·rfl
theorem z_yk (a : BitVec 32) : 4294967295#32 - a = ~~~ a := by
 have := BitVec.neg_eq_not_add a
 rw [show (4294967295#32 : BitVec 32) = -1#32 from rfl, BitVec.not_eq_neg_add]
 rw [BitVec.sub_eq_add_neg, BitVec.add_comm, BitVec.sub_eq_add_neg]
theorem z_vc (c : CodeM) (hl : c.ops.length ≤ 60000) (k : Nat) (hk : k < c.ops.length) (w t : List (BitVec 32)) (a ob : Nat) (X : Hp) (x : List (Nat × AV)) (hw : X.WF) (h0 : X.get 0 = some (z_bp c)) (hob : ob ≠ 0) (hb : X.get ob = some (wBlk w)) (hwl : w.length ≤ 70000) (o : OpM) (ho : c.ops[k] = o)
  (hok : o.ok w.length = true) (ht : o.k = 0 → a < t.length) (ha : a ≤ 60000) :
  ∃ X1 ob' y, rxL1 (ryFr t w a ob k x) X = some (.normal, ryFr t (w ++ [opV o w (at0 t a)]) (if o.k = 0 then a + 1 else a) ob' (k + 1) y, X1) ∧ X1.WF ∧ ob' ≠ 0 ∧ X1.get 0 = some (z_bp c) ∧ X1.get ob' = some (wBlk (w ++ [opV o w (at0 t a)])) := by
 have hk' : (k : Int) < c.ops.length := by omega
 have hk1 : ((k + 1 : Nat) : Int) = (k : Int) + 1 := by omega
 have ha1 : ((a + 1 : Nat) : Int) = (a : Int) + 1 := by omega
 have hrow := z_fg c.ops k hk
 rw [ho] at hrow
 have hbl := hw _ _ hb
 rw [z_at] at h0 ⊢
 obtain ⟨ok, oa, obb, on⟩ := o
 simp only [OpM.cells] at hrow
 have hT := z_jt ok
 have hS0 := fun z => z_jv 0 (by omega) z on false
 have hS1 := fun z => z_jv 1 (by omega) z on false
 have hR := fun z => z_yc z on
 simp only [shl_M, shr_M, Int.natCast_zero, Int.natCast_one] at hS0 hS1
 simp only [OpM.ok, Bool.and_eq_true, decide_eq_true_eq] at hok
 obtain ⟨⟨⟨⟨q1, q2⟩, q3⟩, q4⟩, q5⟩ := hok
 dsimp only at ht q1 q2 q4 q5
 simp only [wBlk] at hb
 unfold opV
 dsimp only
 have hk9 : ok = 0 ∨ ok = 1 ∨ ok = 2 ∨ ok = 3 ∨ ok = 4 ∨ ok = 5 ∨ ok = 6 ∨ ok = 7 ∨ ok = 8 := by omega
 clear q1 q2 q3
 rcases hk9 with rfl | rfl | rfl | rfl | rfl | rfl | rfl | rfl | rfl
 ·have hta : a < t.length := ht rfl
  have hta' : (a : Int) < t.length := by omega
  rw [show z_a3 0 = 0 from rfl] at *
  refine ⟨?_, ?_, ?_, ?_, ?_, ?_, ?_, ?_⟩
  rotate_left 3
  ·simp -implicitDefEqProofs +contextual (disch := try first | omega | assumption | (simp; done)) [z_bd.l1, ryFr, h0, hb, hrow, hk', hk1, hT, hta, hta', ha1]
   constructor <;> rfl
  ·(repeat' (first | assumption | with_reducible apply Hp.WF.push | with_reducible apply Hp.WF.set | with_reducible apply z_az | exact Hp.WF.empty)) <;> (simp <;> omega)
  ·omega
  ·simp (disch := omega) [h0]
  ·simp (disch := omega) [wBlk, z_dz]
 ·simp only [show z_a3 1 = 2 from rfl] at hT q4 q5 ⊢
  obtain ⟨A, rfl⟩ : ∃ A : Nat, oa = A := ⟨oa.toNat, by simp [wireM] at q4; omega⟩
  obtain ⟨B, rfl⟩ : ∃ B : Nat, obb = B := ⟨obb.toNat, by simp [wireM] at q5; omega⟩
  have hA : A < w.length ∧ B < w.length := by simp [wireM] at q4 q5; omega
  refine ⟨?_, ?_, ?_, ?_, ?_, ?_, ?_, ?_⟩
  rotate_left 3
  ·simp -implicitDefEqProofs +contextual (disch := try first | omega | assumption | (simp; done)) [z_bd.l1, ryFr, h0, hb, hrow, hk', hk1, hT, ha1, hA, stepW]
   constructor <;> rfl
  ·(repeat' (first | assumption | with_reducible apply Hp.WF.push | with_reducible apply Hp.WF.set | with_reducible apply z_az | exact Hp.WF.empty)) <;> (simp <;> omega)
  ·omega
  ·simp (disch := omega) [h0]
  ·simp (disch := omega) [wBlk, z_dz, stepW]
 ·simp only [show z_a3 2 = 2 from rfl] at hT q4 q5 ⊢
  obtain ⟨A, rfl⟩ : ∃ A : Nat, oa = A := ⟨oa.toNat, by simp [wireM] at q4; omega⟩
  obtain ⟨B, rfl⟩ : ∃ B : Nat, obb = B := ⟨obb.toNat, by simp [wireM] at q5; omega⟩
  have hA : A < w.length ∧ B < w.length := by simp [wireM] at q4 q5; omega
  refine ⟨?_, ?_, ?_, ?_, ?_, ?_, ?_, ?_⟩
  rotate_left 3
  ·simp -implicitDefEqProofs +contextual (disch := try first | omega | assumption | (simp; done)) [z_bd.l1, ryFr, h0, hb, hrow, hk', hk1, hT, ha1, hA, stepW]
   constructor <;> rfl
  ·(repeat' (first | assumption | with_reducible apply Hp.WF.push | with_reducible apply Hp.WF.set | with_reducible apply z_az | exact Hp.WF.empty)) <;> (simp <;> omega)
  ·omega
  ·simp (disch := omega) [h0]
  ·simp (disch := omega) [wBlk, z_dz, stepW]
 ·simp only [show z_a3 3 = 1 from rfl] at hT q4 q5 ⊢
  obtain ⟨A, rfl⟩ : ∃ A : Nat, oa = A := ⟨oa.toNat, by simp [wireM] at q4; omega⟩
  have hA : A < w.length := by simp [wireM] at q4; omega
  refine ⟨?_, ?_, ?_, ?_, ?_, ?_, ?_, ?_⟩
  rotate_left 3
  ·simp -implicitDefEqProofs +contextual (disch := try first | omega | assumption | (simp; done)) [z_bd.l1, ryFr, h0, hb, hrow, hk', hk1, hT, ha1, hA, stepW, rotM, z_yk]
   constructor <;> rfl
  ·(repeat' (first | assumption | with_reducible apply Hp.WF.push | with_reducible apply Hp.WF.set | with_reducible apply z_az | exact Hp.WF.empty)) <;> (simp <;> omega)
  ·omega
  ·simp (disch := omega) [h0]
  ·simp (disch := omega) [wBlk, z_dz, stepW, rotM]
 ·simp only [show z_a3 4 = 1 from rfl] at hT q4 q5 ⊢
  obtain ⟨A, rfl⟩ : ∃ A : Nat, oa = A := ⟨oa.toNat, by simp [wireM] at q4; omega⟩
  have hA : A < w.length := by simp [wireM] at q4; omega
  refine ⟨?_, ?_, ?_, ?_, ?_, ?_, ?_, ?_⟩
  rotate_left 3
  ·simp -implicitDefEqProofs +contextual (disch := try first | omega | assumption | (simp; done)) [z_bd.l1, ryFr, h0, hb, hrow, hk', hk1, hT, ha1, hA, stepW, rotM, hS0]
   constructor <;> rfl
  ·(repeat' (first | assumption | with_reducible apply Hp.WF.push | with_reducible apply Hp.WF.set | with_reducible apply z_az | exact Hp.WF.empty)) <;> (simp <;> omega)
  ·omega
  ·simp (disch := omega) [h0]
  ·simp (disch := omega) [wBlk, z_dz, stepW, rotM]
 ·simp only [show z_a3 5 = 1 from rfl] at hT q4 q5 ⊢
  obtain ⟨A, rfl⟩ : ∃ A : Nat, oa = A := ⟨oa.toNat, by simp [wireM] at q4; omega⟩
  have hA : A < w.length := by simp [wireM] at q4; omega
  refine ⟨?_, ?_, ?_, ?_, ?_, ?_, ?_, ?_⟩
  rotate_left 3
  ·simp -implicitDefEqProofs +contextual (disch := try first | omega | assumption | (simp; done)) [z_bd.l1, ryFr, h0, hb, hrow, hk', hk1, hT, ha1, hA, stepW, rotM, hS1]
   constructor <;> rfl
  ·(repeat' (first | assumption | with_reducible apply Hp.WF.push | with_reducible apply Hp.WF.set | with_reducible apply z_az | exact Hp.WF.empty)) <;> (simp <;> omega)
  ·omega
  ·simp (disch := omega) [h0]
  ·simp (disch := omega) [wBlk, z_dz, stepW, rotM]
 ·simp only [show z_a3 6 = 1 from rfl] at hT q4 q5 ⊢
  obtain ⟨A, rfl⟩ : ∃ A : Nat, oa = A := ⟨oa.toNat, by simp [wireM] at q4; omega⟩
  have hA : A < w.length := by simp [wireM] at q4; omega
  refine ⟨?_, ?_, ?_, ?_, ?_, ?_, ?_, ?_⟩
  rotate_left 3
  ·simp -implicitDefEqProofs +contextual (disch := try first | omega | assumption | (simp; done)) [z_bd.l1, ryFr, h0, hb, hrow, hk', hk1, hT, ha1, hA, stepW, rotM, hR]
   constructor <;> rfl
  ·(repeat' (first | assumption | with_reducible apply Hp.WF.push | with_reducible apply Hp.WF.set | with_reducible apply z_az | exact Hp.WF.empty)) <;> (simp <;> omega)
  ·omega
  ·simp (disch := omega) [h0]
  ·simp (disch := omega) [wBlk, z_dz, stepW, rotM]
 ·simp only [show z_a3 7 = 0 from rfl] at hT q4 q5 ⊢
  refine ⟨?_, ?_, ?_, ?_, ?_, ?_, ?_, ?_⟩
  rotate_left 3
  ·simp -implicitDefEqProofs +contextual (disch := try first | omega | assumption | (simp; done)) [z_bd.l1, ryFr, h0, hb, hrow, hk', hk1, hT, ha1, stepW]
   constructor <;> rfl
  ·(repeat' (first | assumption | with_reducible apply Hp.WF.push | with_reducible apply Hp.WF.set | with_reducible apply z_az | exact Hp.WF.empty)) <;> (simp <;> omega)
  ·omega
  ·simp (disch := omega) [h0]
  ·simp (disch := omega) [wBlk, z_dz, stepW]
 ·simp only [show z_a3 8 = 1 from rfl] at hT q4 q5 ⊢
  obtain ⟨A, rfl⟩ : ∃ A : Nat, oa = A := ⟨oa.toNat, by simp [wireM] at q4; omega⟩
  have hA : A < w.length := by simp [wireM] at q4; omega
  refine ⟨?_, ?_, ?_, ?_, ?_, ?_, ?_, ?_⟩
  rotate_left 3
  ·simp -implicitDefEqProofs +contextual (disch := try first | omega | assumption | (simp; done)) [z_bd.l1, ryFr, h0, hb, hrow, hk', hk1, hT, ha1, hA, stepW, rotM, hT]
   constructor <;> rfl
  ·(repeat' (first | assumption | with_reducible apply Hp.WF.push | with_reducible apply Hp.WF.set | with_reducible apply z_az | exact Hp.WF.empty)) <;> (simp <;> omega)
  ·omega
  ·simp (disch := omega) [h0]
  ·simp (disch := omega) [wBlk, z_dz, stepW, rotM]
theorem z_js (l : List OpM) (o : OpM) (w t : List (BitVec 32)) : z_cs (l ++ [o]) w t = z_cs l w t ++ [opV o (z_cs l w t) (at0 t (rndL l))] := by
 have h : ∀ n, at0 (t.drop n) 0 = at0 t n := fun n => by simp [at0, List.getD_eq_getElem?_getD]
 have h0 : ∀ x y, z_cs [] x y = x := fun _ _ => rfl
 rw [z_gg, z_on, h, h0]
 rfl
theorem z_m2 (l : List OpM) (k : Nat) (hk : k < l.length) : rndL (l.take (k + 1)) = rndL (l.take k) + if l[k].k = 0 then 1 else 0 := by
 rw [List.take_succ_eq_append_getElem hk]
 unfold rndL
 rw [List.filter_append, List.length_append]
 by_cases q : l[k].k = 0 <;> simp [q]
theorem z_gz (l : List OpM) (k : Nat) : rndL (l.take k) ≤ rndL l := by
 unfold rndL
 have h : (l.filter fun o => decide (o.k = 0)).length = ((l.take k ++ l.drop k).filter fun o => decide (o.k = 0)).length := by rw [List.take_append_drop]
 rw [h, List.filter_append, List.length_append]; omega
theorem z_x6 (c : CodeM) (hl : c.ops.length ≤ 60000) (w0 t : List (BitVec 32)) (hw0 : w0.length ≤ 4000) (hok : opsOk c.ops w0.length = true) (ht : rndL c.ops ≤ t.length) (X : Hp) (hw : X.WF) (h0 : X.get 0 = some (z_bp c)) (ob : Nat) (hob : ob ≠ 0) (hb : X.get ob = some (wBlk w0)) {r} (hr : aloop rxL1 (ryFr t w0 0 ob 0 []) X = r) :
  ∃ e fr' X', r = some (e, fr', X') ∧ (e = .exit 2 ∧ ∃ ob, fr' 8 = .sl ob 1 0 (z_cs c.ops w0 t).length ∧ X'.get ob = some (wBlk (z_cs c.ops w0 t))) := by
 refine z_ee hr (z_cf c.ops.length (fun k fr H => ∃ y ob, fr = ryFr t (z_cs (c.ops.take k) w0 t) (rndL (c.ops.take k)) ob k y ∧ H.WF ∧ ob ≠ 0 ∧ H.get 0 = some (z_bp c) ∧ H.get ob = some (wBlk (z_cs (c.ops.take k) w0 t))) _ (fun k hk fr H hR => ?_) (fun fr H hR => ?_) ⟨[], ob, rfl, hw, hob, h0, by simpa [z_cs] using hb⟩)
 ·obtain ⟨y, ob, rfl, hw, hob, g0, gb⟩ := hR
  have hlen : (z_cs (c.ops.take k) w0 t).length = w0.length + k := by rw [z_e9, List.length_take]; omega
  have h1 := (z_e2 _ _).1 hok k hk
  have h2 := z_m2 c.ops k hk
  have h3 := z_gz c.ops (k + 1)
  have h4 := z_gz c.ops k
  have h5 := z_oq c.ops
  obtain ⟨X1, ob', y', s1, s2, s3, s4, s5⟩ := z_vc c hl k hk (z_cs (c.ops.take k) w0 t) t (rndL (c.ops.take k)) ob H y hw g0 hob gb (by omega) _ rfl (by rw [hlen]; rw [show ((w0.length + k : Nat) : Int) = (w0.length : Int) + k from by omega]; exact h1) (fun q => by rw [if_pos q] at h2; omega) (by omega)
  have e1 : z_cs (c.ops.take (k + 1)) w0 t = z_cs (c.ops.take k) w0 t ++ [opV c.ops[k] (z_cs (c.ops.take k) w0 t) (at0 t (rndL (c.ops.take k)))] := by rw [List.take_succ_eq_append_getElem hk, z_js]
  have e2 : rndL (c.ops.take (k + 1)) = if c.ops[k].k = 0 then rndL (c.ops.take k) + 1 else rndL (c.ops.take k) := by rw [h2]; split <;> rfl
  refine ⟨_, _, _, s1, .inl ⟨rfl, y', ob', by rw [e1, e2], s2, s3, s4, by rw [e1]; exact s5⟩⟩
 ·obtain ⟨y, ob, rfl, hw, hob, g0, gb⟩ := hR
  rw [z_at] at g0
  rw [List.take_length] at gb ⊢
  refine ⟨_, _, _, by simp -implicitDefEqProofs +contextual (disch := omega) [z_bd.l1, ryFr, g0]; first | rfl | exact ⟨rfl, rfl⟩ | exact ⟨rfl, rfl, rfl⟩, by simp, rfl, ob, by simp, gb⟩
theorem z_vl (c : CodeM) (hb : c.outs.length ≤ 1000000000) (hb2 : c.ops.length ≤ 1000000000) (inp tape : List (BitVec 32)) (hit : inp.length ≤ 100000000000000 ∧ tape.length ≤ 1000000000) :
  z_bd.spec [.agg c.cells, .rsl 1 (w32s inp), .rsl 1 (w32s tape)] = some (.tup [.rsl 1 (w32s (c.exec inp tape).1), .bool (c.exec inp tape).2]) := by
 have hC := z_l0 c hb hb2
 have hR := z_jw c hb2
 have hcb := z_at c
 unfold CodeM.exec
 unfold CodeM.cells at hC hR ⊢
 by_cases h1 : c.can = true
 ·rw [h1] at hC
  by_cases h2 : c.randoms ≤ tape.length
  ·have h2' : ¬ (tape.length : Int) < c.randoms := by omega
   rw [if_pos ⟨h1, h2⟩]
   have hcan := h1
   unfold CodeM.can at hcan
   simp only [Bool.and_eq_true, decide_eq_true_eq] at hcan
   obtain ⟨⟨⟨⟨q1, q2⟩, q3⟩, q4⟩, q5⟩ := hcan
   obtain ⟨n, hn⟩ : ∃ n : Nat, c.inN = n := ⟨c.inN.toNat, by omega⟩
   rw [hn] at hC hR q4 ⊢
   simp -implicitDefEqProofs +contextual (disch := omega) [z_bd.spec, z_bd, hC, hR, h1, h2, h2']
   generalize hr : aloop _ _ _ = r
   obtain ⟨e, fr', X', rfl, rfl, p1, p2, p3, p4, p5, ob, p6, p7, p8⟩ := rx_pad c n hn (by omega) inp tape _ (by (repeat' (first | assumption | with_reducible apply Hp.WF.push | with_reducible apply Hp.WF.set | with_reducible apply z_az | exact Hp.WF.empty)) <;> (simp <;> omega)) (by simp [z_at, hn]) 1 (by omega) (by simp [wBlk, w32s]) hr
   rw [z_at, hn] at p5
   simp -implicitDefEqProofs +contextual (disch := omega) [p1, p2, p3, p7]
   have hpl : (padM inp n).length = n := by simp
   generalize hr : aloop _ _ _ = r
   obtain ⟨e, fr2, X2, rfl, rfl, ob2, s1, s2⟩ := z_x6 c q3 (padM inp n) tape (by omega) (by rw [hpl]; exact q4) h2 X' p4 (by rw [z_at, hn]; exact p5) ob p6 p8 (r := r) (by
    show aloop rxL1 (AFr.al [(2, .rsl 1 (w32s tape)), (3, .ptr 0 3 0 0), (8, .sl ob 1 0 (padM inp n).length), (9, .int .i64 0), (11, .int .i64 0)]) X' = r
    rw [hpl]; exact hr)
   simp only [wBlk] at s2
   simp -implicitDefEqProofs +contextual (disch := omega) [s1, s2]
  ·have h2' : (tape.length : Int) < c.randoms := by omega
   simp -implicitDefEqProofs +contextual (disch := omega) [z_bd.spec, z_bd, hC, hR, h1, h2, h2']
   rfl
 ·rw [Bool.not_eq_true] at h1
  rw [h1] at hC
  simp -implicitDefEqProofs +contextual (disch := omega) [z_bd.spec, z_bd, hC, h1]
  rfl
end Go.Abs
end
end
section
section
namespace Go.Abs
open Th
def hlfs (l : List InsM) : List (BitVec 16) := l.map fun i => (putM i).1
@[simp] theorem z_yw (l : List InsM) : (hlfs l).length = l.length := by simp [hlfs]
theorem z_hr (a b : List InsM) : hlfs (a ++ b) = hlfs a ++ hlfs b := by simp [hlfs]
def HV (ws : List (BitVec 16)) (v : AV) (H : Hp) : Prop := (ws = [] ∧ v = .nils) ∨ ∃ ob, v = .sl ob 1 0 ws.length ∧ H.get ob = some ⟨T.ty_uint16, 1, true, w16s ws⟩
def NotAt (p : Nat) (v : AV) : Prop := ∀ n, v ≠ .sl p 1 0 n
def Kp (v : AV) (H : Hp) (v' : AV) (H' : Hp) : Prop := H'.WF ∧ H.next ≤ H'.next ∧ ∀ p blk, H.get p = some blk → NotAt p v → H'.get p = some blk ∧ NotAt p v'
theorem Kp.trans {v H v1 H1 v2 H2} (a : Kp v H v1 H1) (b : Kp v1 H1 v2 H2) : Kp v H v2 H2 :=
 ⟨b.1, Nat.le_trans a.2.1 b.2.1, fun p blk hp hn => b.2.2 p blk (a.2.2 p blk hp hn).1 (a.2.2 p blk hp hn).2⟩
noncomputable abbrev hvL := z_bb.l0 z_dd.spec
def hvFr (v : AV) (l : List InsM) (k : Nat) (y : List (Nat × AV)) : AFr := AFr.al ([(0, v), (9, .rsl 5 (z_a4 l)), (10, .int .i64 l.length), (11, .int .i64 k)] ++ y)
theorem z_v1 (l : List InsM) (hl : l.length ≤ 1000) (k : Nat) (hk : k < l.length) (ws : List (BitVec 16)) (hws : ws.length ≤ 1000000) (v : AV) (H : Hp) (y : List (Nat × AV)) (hw : H.WF) (hv : HV ws v H) :
  ∃ v' H' y', hvL (hvFr v l k y) H = some (.normal, hvFr v' l (k + 1) y', H') ∧ HV (ws ++ [(putM l[k]).1]) v' H' ∧ Kp v H v' H' := by
 have hk' : (k : Int) < l.length := by omega
 have hk1 : ((k + 1 : Nat) : Int) = (k : Int) + 1 := by omega
 have h1 := z_j3 l k hk
 have hP := z_xk l[k]
 unfold hvFr
 have hR1 : (z_a4 l).length = l.length := z_fz l
 generalize z_a4 l = R1 at *
 generalize l[k] = i at *
 unfold InsAV at hP
 unfold z_ed at h1
 generalize (putM i).1 = h at *
 generalize (putM i).2 = e at *
 rcases hv with ⟨rfl, rfl⟩ | ⟨ob, rfl, gb⟩
 ·refine ⟨?_, ?_, ?_, ?_, ?_, ?_⟩
  rotate_left 3
  ·simp -implicitDefEqProofs +contextual (disch := try first | omega | assumption | (simp; done)) [z_bb.l0, hk', hk1, h1, hP, hR1, -getElem?_pos]
   constructor <;> rfl
  ·exact .inr ⟨_, rfl, by simp [w16s]⟩
  ·refine ⟨by (repeat' (first | assumption | with_reducible apply Hp.WF.push | with_reducible apply Hp.WF.set | with_reducible apply z_az | exact Hp.WF.empty)) <;> (simp <;> omega), by simp; omega, fun p blk hp hn => ?_⟩
   have := hw _ _ hp
   refine ⟨by simp (disch := omega) [hp], fun n e => ?_⟩
   injection e with e1
   omega
 ·have hob := hw _ _ gb
  refine ⟨?_, ?_, ?_, ?_, ?_, ?_⟩
  rotate_left 3
  ·simp -implicitDefEqProofs +contextual (disch := try first | omega | assumption | (simp; done)) [z_bb.l0, hk', hk1, h1, hP, hR1, gb, -getElem?_pos]
   constructor <;> rfl
  ·exact .inr ⟨_, by simp; rfl, by simp [z_mm]⟩
  ·refine ⟨by (repeat' (first | assumption | with_reducible apply Hp.WF.push | with_reducible apply Hp.WF.set | with_reducible apply z_az | exact Hp.WF.empty)) <;> (simp <;> omega), by simp; omega, fun p blk hp hn => ?_⟩
   have := hw _ _ hp
   have hpo : ¬ p = ob := fun e => hn ws.length (by rw [e])
   refine ⟨by simp (disch := omega) [hp, hpo], fun n e => ?_⟩
   injection e with e1
   omega
theorem z_yv (l : List InsM) (hl : l.length ≤ 1000) (ws : List (BitVec 16)) (hws : ws.length ≤ 900000) (v : AV) (H : Hp) (hw : H.WF) (hv : HV ws v H) {r} (hr : aloop hvL (hvFr v l 0 []) H = r) :
  ∃ e fr' X', r = some (e, fr', X') ∧ (e = .exit 0 ∧ HV (ws ++ hlfs l) (fr' 0) X' ∧ Kp v H (fr' 0) X') := by
 refine z_ee hr (z_cf l.length (fun k fr X => ∃ y v', fr = hvFr v' l k y ∧ HV (ws ++ hlfs (l.take k)) v' X ∧ Kp v H v' X) _ (fun k hk fr X hR => ?_) (fun fr X hR => ?_) ⟨[], v, rfl, by simpa [hlfs] using hv, hw, Nat.le_refl _, fun p blk hp hn => ⟨hp, hn⟩⟩)
 ·obtain ⟨y, v', rfl, q1, q2⟩ := hR
  obtain ⟨v2, H2, y2, s1, s2, s3⟩ := z_v1 l hl k hk (ws ++ hlfs (l.take k)) (by simp; omega) v' X y q2.1 q1
  refine ⟨_, _, _, s1, .inl ⟨rfl, y2, v2, rfl, ?_, q2.trans s3⟩⟩
  rw [List.take_succ_eq_append_getElem hk, z_hr, ← List.append_assoc]
  exact s2
 ·obtain ⟨y, v', rfl, q1, q2⟩ := hR
  rw [List.take_length] at q1
  refine ⟨_, _, _, by simp -implicitDefEqProofs +contextual (disch := omega) [z_bb.l0, hvFr]; first | rfl | exact ⟨rfl, rfl⟩ | exact ⟨rfl, rfl, rfl⟩, by simp, rfl, by simpa [hvFr] using q1, by simpa [hvFr] using q2⟩
theorem z_tc (l : List InsM) (hl : l.length ≤ 1000) (ws : List (BitVec 16)) (hws : ws.length ≤ 900000) (v : AV) (H : Hp) (hw : H.WF) (hv : HV ws v H) :
  ∃ v' H', z_bb.spec [v, .rsl 5 (z_a4 l)] H = some (v', H') ∧ HV (ws ++ hlfs l) v' H' ∧ Kp v H v' H' := by
 have hrl := z_fz l
 obtain ⟨e, fr', X', h1, rfl, h2, h3⟩ := z_yv l hl ws hws v H hw hv rfl
 refine ⟨fr' 0, X', ?_, h2, h3⟩
 simp -implicitDefEqProofs +contextual (disch := omega) [z_bb.spec, z_bb, hrl]
 generalize hr : aloop _ _ _ = r
 have : r = some (.exit 0, fr', X') := hr.symm.trans h1
 subst this
 simp -implicitDefEqProofs +contextual (disch := omega) []
theorem z_h4 {v : AV} {H : Hp} {l : List InsM} {r : Option (AV × Hp)} (hr : z_bb.spec [v, .rsl 5 (z_a4 l)] H = r) (hl : l.length ≤ 1000) (ws : List (BitVec 16)) (hws : ws.length ≤ 900000) (hw : H.WF) (hv : HV ws v H) :
  ∃ v' H', r = some (v', H') ∧ HV (ws ++ hlfs l) v' H' ∧ Kp v H v' H' := by
 subst hr; exact z_tc l hl ws hws v H hw hv
end Go.Abs
end
section
namespace Go.Abs
open Th
theorem z_pr (o : OpM) (dst : Nat) (src : List Nat) (hs : src.length ≤ 2) : (stepI o dst src).length ≤ 22 := by
 have h1 := z_nn o
 have h2 := z_px dst
 unfold stepI headI
 match src, hs with
 | [], _ => simp [regsI]; omega
 | [x], _ => have := z_hb 0 x; simp [regsI]; omega
 | [x, y], _ => have := z_hb 0 x; have := z_hb 1 y; simp [regsI]; omega
def srcI (m : List Nat) (o : OpM) : List Nat := (if 0 < z_de o.k then [m.getD o.a.toNat 0] else []) ++ (if 1 < z_de o.k then [m.getD o.b.toNat 0] else [])
theorem z_ji (m : List Nat) (o : OpM) : (srcI m o).length ≤ 2 := by unfold srcI; split <;> split <;> simp
theorem z_ik (m : List Nat) (hm : ∀ x ∈ m, x ≤ 16000) (k : Nat) : m.getD k 0 ≤ 16000 := by
 rw [List.getD_eq_getElem?_getD]
 by_cases h : k < m.length
 ·rw [List.getElem?_eq_getElem h]; exact hm _ (List.getElem_mem h)
 ·rw [List.getElem?_eq_none (by omega)]; simp
theorem z_og (m : List Nat) (hm : ∀ x ∈ m, x ≤ 16000) (o : OpM) : ∀ x ∈ srcI m o, x ≤ 16000 := by
 intro x hx
 unfold srcI at hx
 rw [List.mem_append] at hx
 rcases hx with hx | hx
 ·split at hx
  ·rw [List.mem_singleton.1 hx]; exact z_ik m hm _
  ·simp at hx
 ·split at hx
  ·rw [List.mem_singleton.1 hx]; exact z_ik m hm _
  ·simp at hx
def iz (m : List Nat) : List Int := m.map fun x : Nat => (x : Int)
@[simp] theorem iz_length (m : List Nat) : (iz m).length = m.length := by simp [iz]
theorem z_pz (m : List Nat) (k : Nat) (h : k < m.length) : (ints (iz m))[k]? = some [.int .i64 (m.getD k 0 : Nat)] := by
 simp [ints, iz, h, List.getD_eq_getElem?_getD]
noncomputable abbrev ecL0 := z_cc.l0 z_d7.spec z_ak.spec z_da.spec z_bb.spec z_bw.spec z_cj.spec
def ecFr (c : CodeM) (m : List Nat) (v : AV) (k : Nat) (y : List (Nat × AV)) : AFr :=
 AFr.al ([(1, .rsl 1 (ints (iz m))), (2, .ptr 0 3 0 0), (6, v), (33, .rsl 4 (z_dw c.ops)), (34, .int .i64 c.ops.length), (35, .int .i64 k)] ++ y)
theorem z_uo {ws v H} (h : HV ws v H) : alenR .sl v = some (.int .i64 ws.length) := by
 rcases h with ⟨rfl, rfl⟩ | ⟨ob, rfl, _⟩ <;> rfl
theorem z_pm {ws v H} (h : HV ws v H) {X : Hp} (hx : ∀ b blk, H.get b = some blk → X.get b = some blk) : HV ws v X := by
 rcases h with h | ⟨ob, rfl, g⟩
 ·exact .inl h
 ·exact .inr ⟨ob, rfl, hx _ _ g⟩
theorem z_v6 (c : CodeM) (n : Nat) (hn : c.inN = n) (m : List Nat) (hm : ∀ x ∈ m, x ≤ 16000) (hml : m.length = n + c.ops.length) (hop : c.ops.length ≤ 1000) (hin : n ≤ 4000) (k : Nat) (hk : k < c.ops.length) (hok : c.ops[k].ok (n + k : Nat) = true)
  (ws : List (BitVec 16)) (hws : ws.length ≤ 50000) (v : AV) (H : Hp) (y : List (Nat × AV)) (hw : H.WF) (h0 : H.get 0 = some (z_bp c)) (h0' : NotAt 0 v) (hv : HV ws v H) :
  ∃ v' H' y', ecL0 (ecFr c m v k y) H = some (.normal, ecFr c m v' (k + 1) y', H') ∧ HV (ws ++ hlfs (stepI c.ops[k] (m.getD (n + k) 0) (srcI m c.ops[k]))) v' H' ∧ H'.WF ∧ H'.get 0 = some (z_bp c) ∧ NotAt 0 v' := by
 have hk' : (k : Int) < c.ops.length := by omega
 have hk1 : ((k + 1 : Nat) : Int) = (k : Int) + 1 := by omega
 have hrow := z_fg c.ops k hk
 have h0b := hw _ _ h0
 have hT := z_nm c.ops[k].k
 have htk : (if c.ops[k].k = 1 ∨ c.ops[k].k = 2 then (2 : Int) else if c.ops[k].k = 0 ∨ c.ops[k].k = 7 then 0 else 1) = z_de c.ops[k].k := rfl
 rw [htk] at hT
 have hS := z_p7 c.ops[k] (m.getD (n + k) 0) (z_ik m hm _) (srcI m c.ops[k]) (z_ji m _) (z_og m hm _)
 have hnk : (n : Int) + k = ((n + k : Nat) : Int) := by omega
 have hgk := z_pz m (n + k) (by omega)
 rw [z_at, hn] at h0
 simp only [z_at, hn]
 have hOl : (z_dw c.ops).length = c.ops.length := z_fb _
 have hIl : (ints (iz m)).length = m.length := by simp
 unfold OpM.ok at hok
 simp only [Bool.and_eq_true, decide_eq_true_eq] at hok
 obtain ⟨⟨⟨⟨q1, q2⟩, q3⟩, q4⟩, q5⟩ := hok
 have hta : 0 < z_de c.ops[k].k → ∃ A : Nat, c.ops[k].a = A ∧ A < m.length := fun h => by
  have : 0 < z_a3 c.ops[k].k := by
   have : z_a3 c.ops[k].k = z_de c.ops[k].k := by unfold z_a3 z_de; repeat' split <;> omega
   omega
  simp [wireM, this] at q4
  exact ⟨c.ops[k].a.toNat, by omega, by omega⟩
 have htb : 1 < z_de c.ops[k].k → ∃ B : Nat, c.ops[k].b = B ∧ B < m.length := fun h => by
  have : 1 < z_a3 c.ops[k].k := by
   have : z_a3 c.ops[k].k = z_de c.ops[k].k := by unfold z_a3 z_de; repeat' split <;> omega
   omega
  simp [wireM, this] at q5
  exact ⟨c.ops[k].b.toNat, by omega, by omega⟩
 have hts := z_jo c.ops[k].k
 have hSl := z_pr c.ops[k] (m.getD (n + k) 0) (srcI m c.ops[k]) (z_ji m _)
 unfold ecFr
 clear q1 q2 q3 q4 q5 htk
 generalize hN : n + k = N at *
 generalize hL : stepI c.ops[k] (m.getD N 0) (srcI m c.ops[k]) = L at *
 generalize c.ops[k] = o at *
 obtain ⟨ok, oa, ob, on⟩ := o
 simp only [OpM.cells] at hrow hS
 dsimp only at hta htb hts hT
 have hc : z_de ok = 0 ∨ z_de ok = 1 ∨ z_de ok = 2 := by
  have h0 : 0 ≤ z_de ok := by unfold z_de; repeat' split <;> omega
  omega
 rcases hc with hc | hc | hc
 ·rw [hc] at hT hta htb
  have hsr : srcI m ⟨ok, oa, ob, on⟩ = [] := by simp [srcI, hc]
  rw [hsr] at hS
  simp only [List.map_nil, List.map_cons, ints] at hS
  generalize m.getD N 0 = z at *
  generalize ints (iz m) = I at *
  generalize z_dw c.ops = R at *
  generalize hr : ecL0 _ H = r
  simp -implicitDefEqProofs +contextual (disch := omega) [z_cc.l0, hk', hrow, hOl, h0, z_al, z_cc.l1, hT, hnk, hgk, hIl, hS, -getElem?_pos] at hr
  generalize hq : z_bb.spec _ _ = q at hr
  obtain ⟨v', H', rfl, p1, p2⟩ := z_h4 hq (by omega) ws (by omega) (by (repeat' (first | assumption | with_reducible apply Hp.WF.push | with_reducible apply Hp.WF.set | with_reducible apply z_az | exact Hp.WF.empty)) <;> (simp <;> omega)) (z_pm hv fun b blk hb => by have := hw _ _ hb; simp (disch := omega) [hb])
  have hlv := z_uo p1
  rw [z_d6 p2.1 p2.2.1] at hr
  have hlw : (ws ++ hlfs L).length = ws.length + L.length := by simp
  rw [hlw] at hlv
  simp -implicitDefEqProofs +contextual (disch := omega) [hlv] at hr
  subst hr
  obtain ⟨g1, g2⟩ := p2.2.2 0 _ (by simp (disch := omega) [h0]; rfl) h0'
  refine ⟨v', H', _, by rw [hk1]; rfl, p1, p2.1, g1, g2⟩
 ·rw [hc] at hT hta htb
  obtain ⟨A, rfl, hA⟩ := hta (by omega)
  have hga := z_pz m A hA
  have hsr : srcI m ⟨ok, A, ob, on⟩ = [m.getD A 0] := by simp [srcI, hc]
  rw [hsr] at hS
  simp only [List.map_nil, List.map_cons, ints] at hS
  generalize m.getD N 0 = z at *
  generalize m.getD A 0 = x at *
  generalize ints (iz m) = I at *
  generalize z_dw c.ops = R at *
  generalize hr : ecL0 _ H = r
  simp -implicitDefEqProofs +contextual (disch := omega) [z_cc.l0, hk', hrow, hOl, h0, z_al, z_cc.l1, hT, hnk, hgk, hIl, hS, hga, hA, -getElem?_pos] at hr
  generalize hq : z_bb.spec _ _ = q at hr
  obtain ⟨v', H', rfl, p1, p2⟩ := z_h4 hq (by omega) ws (by omega) (by (repeat' (first | assumption | with_reducible apply Hp.WF.push | with_reducible apply Hp.WF.set | with_reducible apply z_az | exact Hp.WF.empty)) <;> (simp <;> omega)) (z_pm hv fun b blk hb => by have := hw _ _ hb; simp (disch := omega) [hb])
  have hlv := z_uo p1
  rw [z_d6 p2.1 p2.2.1] at hr
  have hlw : (ws ++ hlfs L).length = ws.length + L.length := by simp
  rw [hlw] at hlv
  simp -implicitDefEqProofs +contextual (disch := omega) [hlv] at hr
  subst hr
  obtain ⟨g1, g2⟩ := p2.2.2 0 _ (by simp (disch := omega) [h0]; rfl) h0'
  refine ⟨v', H', _, by rw [hk1]; rfl, p1, p2.1, g1, g2⟩
 ·rw [hc] at hT hta htb
  obtain ⟨A, rfl, hA⟩ := hta (by omega)
  have hga := z_pz m A hA
  obtain ⟨B, rfl, hB⟩ := htb (by omega)
  have hgb := z_pz m B hB
  have hsr : srcI m ⟨ok, A, B, on⟩ = [m.getD A 0, m.getD B 0] := by simp [srcI, hc]
  rw [hsr] at hS
  simp only [List.map_nil, List.map_cons, ints] at hS
  generalize m.getD N 0 = z at *
  generalize m.getD A 0 = x at *
  generalize m.getD B 0 = x2 at *
  have hB' := hB
  generalize ints (iz m) = I at *
  generalize z_dw c.ops = R at *
  generalize hr : ecL0 _ H = r
  simp -implicitDefEqProofs +contextual (disch := omega) [z_cc.l0, hk', hrow, hOl, h0, z_al, z_cc.l1, hT, hnk, hgk, hIl, hS, hga, hgb, hA, hB, -getElem?_pos] at hr
  generalize hq : z_bb.spec _ _ = q at hr
  obtain ⟨v', H', rfl, p1, p2⟩ := z_h4 hq (by omega) ws (by omega) (by (repeat' (first | assumption | with_reducible apply Hp.WF.push | with_reducible apply Hp.WF.set | with_reducible apply z_az | exact Hp.WF.empty)) <;> (simp <;> omega)) (z_pm hv fun b blk hb => by have := hw _ _ hb; simp (disch := omega) [hb])
  have hlv := z_uo p1
  rw [z_d6 p2.1 p2.2.1] at hr
  have hlw : (ws ++ hlfs L).length = ws.length + L.length := by simp
  rw [hlw] at hlv
  simp -implicitDefEqProofs +contextual (disch := omega) [hlv] at hr
  subst hr
  obtain ⟨g1, g2⟩ := p2.2.2 0 _ (by simp (disch := omega) [h0]; rfl) h0'
  refine ⟨v', H', _, by rw [hk1]; rfl, p1, p2.1, g1, g2⟩
end Go.Abs
end
section
namespace Go.Abs
open Th
def opZ : OpM := ⟨0, 0, 0, 0#32⟩
def blkI (c : CodeM) (m : List Nat) (k : Nat) : List InsM := stepI (c.ops.getD k opZ) (m.getD (c.inN.toNat + k) 0) (srcI m (c.ops.getD k opZ))
def upI (c : CodeM) (m : List Nat) (k : Nat) : List InsM := z_i5 ++ ((List.range k).map (blkI c m)).flatten
theorem z_jh (c : CodeM) (m : List Nat) (k : Nat) : upI c m (k + 1) = upI c m k ++ blkI c m k := by
 unfold upI; rw [List.range_succ, List.map_append, List.flatten_append, List.append_assoc]; simp
theorem z_zm (c : CodeM) (m : List Nat) (k : Nat) : (blkI c m k).length ≤ 22 := z_pr _ _ _ (z_ji _ _)
theorem z_mn (c : CodeM) (m : List Nat) : ∀ k, (upI c m k).length ≤ 4 + 22 * k
 | 0 => by simp [upI, z_i5]
 | k + 1 => by rw [z_jh, List.length_append]; have := z_mn c m k; have := z_zm c m k; omega
def bkI : InsM := ⟨20, 0, 0, 0, 0⟩
def codeI (c : CodeM) (m : List Nat) : List InsM := upI c m c.ops.length ++ [bkI]
def z_ia (c : CodeM) (slots : List Int) : Bool := c.can && decide ((slots.length : Int) = c.inN + c.ops.length) && !(slots.any fun n => !z_cv n)
theorem z_zd (c : CodeM) (n : Nat) (hn : c.inN = n) (m : List Nat) (hm : ∀ x ∈ m, x ≤ 16000) (hml : m.length = n + c.ops.length) (hop : c.ops.length ≤ 1000) (hin : n ≤ 4000) (hok : opsOk c.ops c.inN = true)
  (v : AV) (H : Hp) (hw : H.WF) (h0 : H.get 0 = some (z_bp c)) (h0' : NotAt 0 v) (hv : HV (hlfs z_i5) v H) {r} (hr : aloop ecL0 (ecFr c m v 0 []) H = r) :
  ∃ e fr' X', r = some (e, fr', X') ∧ (e = .exit 0 ∧ HV (hlfs (upI c m c.ops.length)) (fr' 6) X' ∧ X'.WF) := by
 refine z_ee hr (z_cf c.ops.length (fun k fr X => ∃ y v', fr = ecFr c m v' k y ∧ HV (hlfs (upI c m k)) v' X ∧ X.WF ∧ X.get 0 = some (z_bp c) ∧ NotAt 0 v') _ (fun k hk fr X hR => ?_) (fun fr X hR => ?_) ⟨[], v, rfl, by simpa [upI] using hv, hw, h0, h0'⟩)
 ·obtain ⟨y, v', rfl, q1, q2, q3, q4⟩ := hR
  have hu := z_mn c m k
  have hok' := (z_e2 _ _).1 hok k hk
  rw [hn, show (n : Int) + k = ((n + k : Nat) : Int) by omega] at hok'
  obtain ⟨v2, H2, y2, s1, s2, s3, s4, s5⟩ := z_v6 c n hn m hm hml hop hin k hk hok' (hlfs (upI c m k)) (by simp; omega) v' X y q2 q3 q4 q1
  refine ⟨_, _, _, s1, .inl ⟨rfl, y2, v2, rfl, ?_, s3, s4, s5⟩⟩
  have e1 : c.ops.getD k opZ = c.ops[k] := by simp [List.getD_eq_getElem?_getD, hk]
  rw [z_jh, z_hr, blkI, e1, hn, Int.toNat_natCast]
  exact s2
 ·obtain ⟨y, v', rfl, q1, q2, q3, q4⟩ := hR
  refine ⟨_, _, _, by simp -implicitDefEqProofs +contextual (disch := omega) [z_cc.l0, ecFr]; first | rfl | exact ⟨rfl, rfl⟩ | exact ⟨rfl, rfl, rfl⟩, by simp, rfl, by simpa [ecFr] using q1, q2⟩
theorem z_lq : putM bkI = (48640#16, 0) := by decide +kernel
theorem z_td {ws : List (BitVec 16)} (hws : ws.length ≤ 900000) {v : AV} {H : Hp} (hw : H.WF) (hv : HV ws v H) :
  ∃ v' H', z_bb.spec [v, .sl H.next 5 0 1] (H.push { e := T.ty_api_Ins, sz := 5, flat := true, rows := [[.int .i64 20, .int .i64 0, .int .i64 0, .int .i64 0, .int .i64 0]] }) = some (v', H') ∧ HV (ws ++ [48640#16]) v' H' := by
 have hP := z_xk bkI
 rw [z_lq] at hP
 unfold InsAV bkI at hP
 dsimp only at hP
 rcases hv with ⟨rfl, rfl⟩ | ⟨ob, rfl, gb⟩
 ·refine ⟨_, _, by simp -implicitDefEqProofs +contextual (disch := omega) [z_bb.spec, z_bb, z_al, z_bb.l0, hP]; exact ⟨rfl, rfl⟩, .inr ⟨_, rfl, by simp [w16s]⟩⟩
 ·have hob := hw _ _ gb
  refine ⟨_, _, by simp -implicitDefEqProofs +contextual (disch := omega) [z_bb.spec, z_bb, z_al, z_bb.l0, hP, gb]; exact ⟨rfl, rfl⟩, .inr ⟨_, by simp; rfl, by simp [z_mm]⟩⟩
theorem z_wu (c : CodeM) (hop : c.ops.length ≤ 1000) (hout : c.outs.length ≤ 1000000000) (slots : List Int) (hl : slots.length ≤ 1000000000) :
  z_cc.spec [.agg c.cells, .rsl 1 (ints slots)] = some (if z_ia c slots = true then .tup [.rsl 1 (w16s (hlfs (codeI c (slots.map Int.toNat)))), .int .i64 0] else .tup [.rsl 1 [], .int .i64 1]) := by
 have hC := Can_eq' c hout (by omega)
 have hcb := z_at c
 unfold z_ia
 unfold CodeM.cells at hC ⊢
 cases hcan : c.can with
 | false =>
  rw [hcan] at hC
  simp -implicitDefEqProofs +contextual (disch := omega) [z_cc.spec, z_cc, hC]
 | true =>
  rw [hcan] at hC
  have hcan' := hcan
  unfold CodeM.can at hcan'
  simp only [Bool.and_eq_true, decide_eq_true_eq] at hcan'
  obtain ⟨⟨⟨⟨q1, q2⟩, q3⟩, q4⟩, q5⟩ := hcan'
  obtain ⟨n, hn⟩ : ∃ n : Nat, c.inN = n := ⟨c.inN.toNat, by omega⟩
  rw [hn] at hC hcb ⊢
  have hn4 : n ≤ 4000 := by omega
  by_cases hlen : (slots.length : Int) = n + c.ops.length
  ·rw [decide_eq_true hlen]
   simp -implicitDefEqProofs +contextual (disch := omega) [z_cc.spec, z_cc, hC, hlen]
   generalize hr : z_ak.spec _ _ = r
   obtain rfl := z_iy z_yy z_v9 hr (by (repeat' (first | assumption | with_reducible apply Hp.WF.push | with_reducible apply Hp.WF.set | with_reducible apply z_az | exact Hp.WF.empty)) <;> (simp <;> omega)) hl
   cases hany : slots.any fun n => !z_cv n with
   | true =>
    simp -implicitDefEqProofs +contextual (disch := omega) []
    simpa using hany
   | false =>
    obtain ⟨m, rfl, hm⟩ := z_mu slots hany
    have hmm : (m.map fun x : Nat => (x : Int)).map Int.toNat = m := by rw [List.map_map]; exact (List.map_congr_left fun x _ => by simp).trans (List.map_id m)
    rw [hmm, if_pos (fun a ha => by obtain ⟨x, hx, rfl⟩ := List.mem_map.1 ha; have := hm x hx; simp [z_cv]; omega)]
    rw [List.length_map] at hlen
    have hB := z_wi
    simp -implicitDefEqProofs +contextual (disch := omega) [hB]
    generalize hq : z_bb.spec _ _ = q
    obtain ⟨v1, X1, rfl, p1, p2⟩ := z_h4 hq (by simp [z_i5]) [] (by simp) (by (repeat' (first | assumption | with_reducible apply Hp.WF.push | with_reducible apply Hp.WF.set | with_reducible apply z_az | exact Hp.WF.empty)) <;> (simp <;> omega)) (.inl ⟨rfl, rfl⟩)
    obtain ⟨g1, g2⟩ := p2.2.2 0 _ (by simp; rfl) (fun _ h => by cases h)
    simp -implicitDefEqProofs +contextual (disch := omega) [g1]
    generalize hr : aloop _ _ _ = r
    obtain ⟨e, fr', X', rfl, rfl, s1, s2⟩ := z_zd c n hn m hm (by omega) hop (by omega) q4 v1 X1 p2.1 (by rw [hcb]; exact g1) g2 p1 hr
    have hu := z_mn c m c.ops.length
    simp -implicitDefEqProofs +contextual (disch := omega) []
    obtain ⟨v2, X2, t1, t2⟩ := z_td (by simp; omega) s2 s1
    have hco : hlfs (upI c m c.ops.length) ++ [48640#16] = hlfs (codeI c m) := by unfold codeI; rw [z_hr]; simp [hlfs, z_lq]
    rw [hco] at t2
    rw [t1]
    rcases t2 with ⟨t3, rfl⟩ | ⟨ob, rfl, t4⟩
    ·have : (hlfs (codeI c m)).length = 0 := by rw [t3]; rfl
     simp [codeI] at this
    ·generalize hlfs (codeI c m) = L at *
     simp -implicitDefEqProofs +contextual (disch := omega) [t4]
  ·rw [decide_eq_false hlen]
   simp -implicitDefEqProofs +contextual (disch := omega) [z_cc.spec, z_cc, hC, hlen]
end Go.Abs
end
end
section
section
namespace Go.Abs
open Th
def seqM : List InsM → StM → MemM → StM × MemM × Int
 | [], s, m => (s, m, 0)
 | i :: l, s, m => if (doM i s m).e = 0 then seqM l (doM i s m).s (doM i s m).m else ((doM i s m).s, (doM i s m).m, (doM i s m).e)
theorem z_jr : ∀ (a b : List InsM) (s : StM) (m : MemM) (s1 : StM) (m1 : MemM), seqM a s m = (s1, m1, 0) → seqM (a ++ b) s m = seqM b s1 m1
 | [], b, s, m, s1, m1, h => by cases h; rfl
 | i :: a, b, s, m, s1, m1, h => by
  rw [List.cons_append, seqM]
  rw [seqM] at h
  by_cases e : (doM i s m).e = 0
  ·rw [if_pos e] at h ⊢; exact z_jr a b _ _ _ _ h
  ·rw [if_neg e] at h; exact (e (congrArg (fun x => x.2.2) h)).elim
abbrev Regs := Nat → BitVec 32
def Rg (s : StM) (f : Regs) : Prop := ∀ k, k < 8 → s.reg k = f k
def upd (f : Regs) (d : Nat) (v : BitVec 32) : Regs := fun k => if k = d then v else f k
def Tri (T : List (BitVec 32)) (l : List InsM) (f : Regs) (W : List (BitVec 32)) (d : Nat) (g : Regs) (W' : List (BitVec 32)) (d' : Nat) : Prop :=
 ∀ (s : StM) (m : MemM), Rg s f → m.words = W → m.drawn = d → m.tape = T → ∃ s' m', seqM l s m = (s', m', 0) ∧ Rg s' g ∧ s'.pc = s.pc + BitVec.ofNat 32 (2 * l.length) ∧ m'.words = W' ∧ m'.drawn = d' ∧ m'.tape = m.tape ∧ m'.code = m.code
theorem Tri.nil (T f W d) : Tri T [] f W d f W d := fun s m h1 h2 h3 h4 => ⟨s, m, rfl, h1, by simp, h2, h3, rfl, rfl⟩
theorem Tri.append {T a b f W d g W1 d1 h W2 d2} (ha : Tri T a f W d g W1 d1) (hb : Tri T b g W1 d1 h W2 d2) : Tri T (a ++ b) f W d h W2 d2 := by
 intro s m h1 h2 h3 h4
 obtain ⟨s1, m1, p1, p2, p3, p4, p5, p6, p7⟩ := ha s m h1 h2 h3 h4
 obtain ⟨s2, m2, q1, q2, q3, q4, q5, q6, q7⟩ := hb s1 m1 p2 p4 p5 (p6.trans h4)
 refine ⟨s2, m2, by rw [z_jr a b s m s1 m1 p1]; exact q1, q2, ?_, q4, q5, q6.trans p6, q7.trans p7⟩
 rw [q3, p3, List.length_append, BitVec.add_assoc, Nat.mul_add, BitVec.ofNat_add]
theorem Tri.weak {T l f W d g W' d'} (h : Tri T l f W d g W' d') {g' : Regs} (hg : ∀ k, k < 8 → g k = g' k) : Tri T l f W d g' W' d' := by
 intro s m h1 h2 h3 h4
 obtain ⟨s1, m1, p1, p2, p3⟩ := h s m h1 h2 h3 h4
 exact ⟨s1, m1, p1, fun k hk => (p2 k hk).trans (hg k hk), p3⟩
theorem z_xt {T : List (BitVec 32)} {i : InsM} {f : Regs} {W : List (BitVec 32)} {d : Nat} (r : Nat) (v : BitVec 32) (hr : r < 8)
  (h : ∀ s m, Rg s f → (doM i s m).e = 0 ∧ (doM i s m).m = m ∧ (doM i s m).s.pc = s.pc + 2#32 ∧ ∀ k, k < 8 → (doM i s m).s.reg k = if k = r then v else s.reg k) : Tri T [i] f W d (upd f r v) W d := by
 intro s m h1 h2 h3 h4
 obtain ⟨e1, e2, e3, e4⟩ := h s m h1
 refine ⟨(doM i s m).s, m, by rw [seqM, if_pos e1, e2]; rfl, fun k hk => ?_, by rw [e3]; rfl, h2, h3, rfl, rfl⟩
 rw [e4 k hk]; unfold upd; split
 ·rfl
 ·exact h1 k hk
theorem z_ot (s : StM) (D k : Nat) (x : BitVec 32) (hk : k < 8) : (s.setR D x).reg k = if k = D then x else s.reg k := by
 unfold StM.reg StM.setR at0
 rw [List.getD_eq_getElem?_getD, List.getD_eq_getElem?_getD, List.getElem?_set]
 by_cases e : D = k
 ·subst e; simp [s.len, hk]
 ·rw [if_neg e, if_neg (fun q => e q.symm)]
@[simp] theorem flagsM_reg (s : StM) (w : BitVec 32) (k : Nat) : (z_fm s w).reg k = s.reg k := rfl
@[simp] theorem flagsM_pc (s : StM) (w : BitVec 32) : (z_fm s w).pc = s.pc := rfl
theorem z_sc (s : StM) (s0 : StM) (D k : Nat) (x : BitVec 32) (p : BitVec 32) (hk : k < 8) (h : ∀ k, s.reg k = s0.reg k) : ((s.setR D x).setPC p).reg k = if k = D then x else s0.reg k := by
 rw [z_hy, z_ot _ _ _ _ hk, h]
theorem z_jl (n : Nat) : immW (n : Int) = BitVec.ofNat 32 n := BitVec.ofInt_natCast _ _
theorem z_zg (i : InsM) (k D : Nat) (hk : i.op = k) (hk2 : k ≤ 11) (hD : i.d = D) (hw : z_ef i = (i.d, true)) (s : StM) (m : MemM) :
  doM i s m = ⟨((reckM s k D i.n.toNat i.m.toNat i.imm).1.setR D (reckM s k D i.n.toNat i.m.toNat i.imm).2).setPC (s.pc + 2#32), m, false, 0⟩ := by
 unfold doM
 rw [hk, hD, hw, Int.toNat_natCast, Int.toNat_natCast]
 dsimp only
 split <;> first | omega | simp
theorem z_gy {T : List (BitVec 32)} {i : InsM} {f : Regs} {W : List (BitVec 32)} {d : Nat} (k D : Nat) (v : BitVec 32) (hk : i.op = k) (hk2 : k ≤ 11) (hD : i.d = D) (hD8 : D < 8) (hw : z_ef i = (i.d, true))
  (h : ∀ s, Rg s f → (reckM s k D i.n.toNat i.m.toNat i.imm).2 = v ∧ (∀ j, (reckM s k D i.n.toNat i.m.toNat i.imm).1.reg j = s.reg j)) : Tri T [i] f W d (upd f D v) W d := by
 refine z_xt D v hD8 fun s m hs => ?_
 obtain ⟨h1, h2⟩ := h s hs
 rw [z_zg i k D hk hk2 hD hw s m]
 refine ⟨rfl, rfl, rfl, fun j hj => ?_⟩
 rw [h1]
 exact z_sc _ s _ _ _ _ hj h2
theorem z_eb (i : InsM) (h : usedI i) (ho : i.op ≠ 15) : z_ef i = (i.d, true) := by
 obtain ⟨h1, h2⟩ := h
 unfold z_ef
 rw [if_pos h2, if_neg]
 omega
theorem z_hw (T f W d) (D n : Nat) (hD : D < 8) (hn : n ≤ 255) : Tri T [mvI D n] f W d (upd f D (BitVec.ofNat 32 n)) W d :=
 z_gy 0 D _ rfl (by omega) rfl hD (z_eb _ (z_gb D n (by omega) (by omega)) (by simp [mvI])) fun s hs => ⟨by simp [reckM, mvI, z_jl], fun j => by simp [reckM]⟩
theorem z_wy (T f W d) (D n : Nat) (hD : D < 8) (hn : n ≤ 255) : Tri T [adI D n] f W d (upd f D (f D + BitVec.ofNat 32 n)) W d :=
 z_gy 2 D _ rfl (by omega) rfl hD (z_eb _ (z_od D n (by omega) (by omega)) (by simp [adI])) fun s hs => ⟨by simp only [reckM, adI, z_jl, addS, addM, cw]; rw [hs D hD]; simp, fun j => rfl⟩
theorem shl_w (a : BitVec 32) (n : Nat) (hn : n ≤ 31) (c : Bool) : (z_db 0 a (BitVec.ofNat 32 n) c).w = a <<< n := by
 unfold z_db
 have ht : (BitVec.ofNat 32 n).toNat = n := by rw [BitVec.toNat_ofNat]; omega
 by_cases h : BitVec.ofNat 32 n = 0#32
 ·rw [if_pos h]; have : n = 0 := by rw [← ht, h]; rfl
  subst this; simp
 ·rw [if_neg h, ht]; rfl
theorem shr_w (a : BitVec 32) (n : Nat) (hn : n ≤ 31) (c : Bool) : (z_db 1 a (BitVec.ofNat 32 n) c).w = a >>> n := by
 unfold z_db
 have ht : (BitVec.ofNat 32 n).toNat = n := by rw [BitVec.toNat_ofNat]; omega
 by_cases h : BitVec.ofNat 32 n = 0#32
 ·rw [if_pos h]; have : n = 0 := by rw [← ht, h]; rfl
  subst this; simp
 ·rw [if_neg h, ht]; rfl
theorem z_kq (T f W d) (D n : Nat) (hD : D < 8) (hn : n ≤ 31) : Tri T [lfI D n] f W d (upd f D (f D <<< n)) W d :=
 z_gy 4 D _ rfl (by omega) rfl hD (z_eb _ (z_hn D n (by omega) (by omega)) (by simp [lfI])) fun s hs => ⟨by simp only [reckM, lfI, z_jl, z_gw, Int.toNat_natCast]; rw [shl_w _ _ hn, hs D hD], fun j => rfl⟩
theorem tri_lr (T f W d) (D n : Nat) (hD : D < 8) (hn : n ≤ 31) (h1 : 1 ≤ n) : Tri T [⟨5, D, 0, D, n⟩] f W d (upd f D (f D >>> n)) W d :=
 z_gy 5 D _ rfl (by omega) rfl hD (z_eb _ (z_po D n (by omega) (by omega)) (by simp)) fun s hs => ⟨by simp only [reckM, z_jl, z_gw, Int.toNat_natCast]; rw [shr_w _ _ hn, hs D hD], fun j => rfl⟩
end Go.Abs
end
section
namespace Go.Abs
open Th
theorem z_xw (T f W d) : Tri T [alI 0 0 1] f W d (upd f 0 (f 0 &&& f 1)) W d :=
 z_gy 11 0 _ rfl (by omega) rfl (by omega) (z_eb _ (z_gx 0 0 1 (by decide) (by decide) (by decide)) (by simp [alI])) fun s hs => ⟨by simp only [reckM, alI, aluM]; rw [← hs 0 (by omega), ← hs 1 (by omega)]; rfl, fun j => rfl⟩
theorem z_xq (T f W d) : Tri T [alI 1 0 1] f W d (upd f 0 (f 0 ^^^ f 1)) W d :=
 z_gy 11 0 _ rfl (by omega) rfl (by omega) (z_eb _ (z_gx 1 0 1 (by decide) (by decide) (by decide)) (by simp [alI])) fun s hs => ⟨by simp only [reckM, alI, aluM]; rw [← hs 0 (by omega), ← hs 1 (by omega)]; rfl, fun j => rfl⟩
theorem z_xu (T f W d) : Tri T [alI 15 0 0] f W d (upd f 0 (~~~ f 0)) W d :=
 z_gy 11 0 _ rfl (by omega) rfl (by omega) (z_eb _ (z_gx 15 0 0 (by decide) (by decide) (by decide)) (by simp [alI])) fun s hs => ⟨by simp only [reckM, alI, aluM]; rw [← hs 0 (by omega)]; rfl, fun j => rfl⟩
theorem z_xr (T f W d) : Tri T [alI 7 0 2] f W d (upd f 0 (z_db 3 (f 0) (f 2 &&& 255#32) false).w) W d :=
 z_gy 11 0 _ rfl (by omega) rfl (by omega) (z_eb _ (z_gx 7 0 2 (by decide) (by decide) (by decide)) (by simp [alI])) fun s hs => ⟨by
  have e : (reckM s 11 0 (alI 7 0 2).n.toNat (alI 7 0 2).m.toNat (alI 7 0 2).imm).2 = (z_db 3 (s.reg 0) (s.reg 2 &&& 255#32) s.c).w := rfl
  rw [e, hs 0 (by omega), hs 2 (by omega)]
  unfold z_db; split <;> rfl, fun j => rfl⟩
theorem z_x8 (a n : BitVec 32) (hn : n.toNat < 32) : (z_db 3 a (BitVec.ofNat 32 ((32#32 - n) % 32#32).toNat &&& 255#32) false).w = rotM a n := by
 have key : ∀ k : Nat, k < 32 → (BitVec.ofNat 32 ((32#32 - BitVec.ofNat 32 k) % 32#32).toNat &&& 255#32) = BitVec.ofNat 32 ((32 - k) % 32) := by decide +kernel
 obtain ⟨k, hk, rfl⟩ : ∃ k : Nat, k < 32 ∧ n = BitVec.ofNat 32 k := ⟨n.toNat, hn, by simp⟩
 rw [key k hk]
 unfold rotM
 have hk2 : (BitVec.ofNat 32 k).toNat % 32 = k := by rw [BitVec.toNat_ofNat]; omega
 rw [hk2]
 by_cases h0 : k = 0
 ·subst h0
  rw [show BitVec.ofNat 32 ((32 - 0) % 32) = 0#32 from rfl]
  unfold z_db
  rw [if_pos rfl]
  have h32 : a >>> 32 = 0#32 := by apply BitVec.eq_of_toNat_eq; rw [BitVec.toNat_ushiftRight, Nat.shiftRight_eq_div_pow, Nat.div_eq_of_lt a.isLt]; rfl
  simp [BitVec.rotateLeft_def, h32]
 ·have h1 : (32 - k) % 32 = 32 - k := Nat.mod_eq_of_lt (by omega)
  rw [h1]
  unfold z_db
  have ht : (BitVec.ofNat 32 (32 - k)).toNat = 32 - k := by rw [BitVec.toNat_ofNat]; omega
  rw [if_neg (by intro e; have := congrArg BitVec.toNat e; rw [ht] at this; simp at this; omega), ht]
  unfold shN
  rw [BitVec.rotateRight_def, BitVec.rotateLeft_def]
  rw [show (32 - k) % 32 % 32 = 32 - k by omega, show k % 32 = k by omega, show 32 - (32 - k) = k by omega, BitVec.or_comm]
  rfl
theorem doM_14 (r : Nat) (s : StM) (m : MemM) (a : BitVec 32) (ha : s.reg 7 + s.reg 6 = a) (v : BitVec 32) (m2 : MemM) (hl : m.loads a = ((v, 0), m2)) : doM ⟨14, r, 7, 6, 0⟩ s m = ⟨(s.setR r v).setPC (s.pc + 2#32), m2, false, 0⟩ := by
 have e : doM ⟨14, r, 7, 6, 0⟩ s m = if (moveM s 14 r (s.reg 7 + s.reg 6) m).2.2 = 0 then ⟨(moveM s 14 r (s.reg 7 + s.reg 6) m).1.setPC (s.pc + 2#32), (moveM s 14 r (s.reg 7 + s.reg 6) m).2.1, false, 0⟩ else ⟨s, (moveM s 14 r (s.reg 7 + s.reg 6) m).2.1, false, (moveM s 14 r (s.reg 7 + s.reg 6) m).2.2⟩ := rfl
 have e2 : moveM s 14 r a m = (s.setR r v, m2, 0) := by
  unfold moveM
  rw [if_neg (by omega), hl]
  rfl
 rw [e, ha, e2]; rfl
theorem doM_12 (s : StM) (m : MemM) (a : BitVec 32) (ha : s.reg 5 = a) (v : BitVec 32) (m2 : MemM) (hl : m.loads a = ((v, 0), m2)) : doM ⟨12, 0, 5, 0, 0⟩ s m = ⟨(s.setR 0 v).setPC (s.pc + 2#32), m2, false, 0⟩ := by
 have e : doM ⟨12, 0, 5, 0, 0⟩ s m = if (moveM s 12 0 (s.reg 5 + 4#32 * 0#32) m).2.2 = 0 then ⟨(moveM s 12 0 (s.reg 5 + 4#32 * 0#32) m).1.setPC (s.pc + 2#32), (moveM s 12 0 (s.reg 5 + 4#32 * 0#32) m).2.1, false, 0⟩ else ⟨s, (moveM s 12 0 (s.reg 5 + 4#32 * 0#32) m).2.1, false, (moveM s 12 0 (s.reg 5 + 4#32 * 0#32) m).2.2⟩ := rfl
 have e3 : s.reg 5 + 4#32 * 0#32 = a := by rw [ha]; simp
 have e2 : moveM s 12 0 a m = (s.setR 0 v, m2, 0) := by
  unfold moveM
  rw [if_neg (by omega), hl]
  rfl
 rw [e, e3, e2]; rfl
theorem doM_15 (s : StM) (m : MemM) (a : BitVec 32) (ha : s.reg 7 + s.reg 6 = a) (m2 : MemM) (hl : m.store a (s.reg 0) = (0, m2)) : doM ⟨15, 0, 7, 6, 0⟩ s m = ⟨s.setPC (s.pc + 2#32), m2, false, 0⟩ := by
 have e : doM ⟨15, 0, 7, 6, 0⟩ s m = if (moveM s 15 0 (s.reg 7 + s.reg 6) m).2.2 = 0 then ⟨(moveM s 15 0 (s.reg 7 + s.reg 6) m).1.setPC (s.pc + 2#32), (moveM s 15 0 (s.reg 7 + s.reg 6) m).2.1, false, 0⟩ else ⟨s, (moveM s 15 0 (s.reg 7 + s.reg 6) m).2.1, false, (moveM s 15 0 (s.reg 7 + s.reg 6) m).2.2⟩ := rfl
 have e2 : moveM s 15 0 a m = (s, m2, 0) := by
  unfold moveM
  rw [if_pos (by omega), hl]
 rw [e, ha, e2]; rfl
def slotA (n : Nat) : BitVec 32 := 536870912#32 + BitVec.ofNat 32 (4 * n)
theorem z_r7 (n : Nat) (h : n ≤ 16000) : (slotA n).toNat = 536870912 + 4 * n := by
 unfold slotA; rw [BitVec.toNat_add, BitVec.toNat_ofNat]; simp; omega
theorem z_ps (m : MemM) (n : Nat) (h : n ≤ 16000) (hn : n < m.words.length) : m.at (slotA n) = true ∧ slotA n % 4#32 = 0#32 ∧ slotA n ≠ 1073741824#32 ∧ wslot (slotA n) = n := by
 have h1 := z_r7 n h
 have hw : wslot (slotA n) = n := by
  unfold wslot; rw [BitVec.toNat_sub, h1]; simp; omega
 refine ⟨?_, ?_, ?_, hw⟩
 ·unfold MemM.at
  rw [hw]
  simp only [Bool.and_eq_true, decide_eq_true_eq]
  refine ⟨?_, hn⟩
  rw [BitVec.le_def, h1]; simp
 ·apply BitVec.eq_of_toNat_eq
  rw [BitVec.toNat_umod, h1]; simp
 ·intro e
  have := congrArg BitVec.toNat e
  rw [h1] at this
  simp at this; omega
theorem tri_ld (T f W d) (r n : Nat) (hr : r < 8) (h : n ≤ 16000) (hn : n < W.length) (h7 : f 7 = 536870912#32) (h6 : f 6 = BitVec.ofNat 32 (4 * n)) : Tri T [⟨14, r, 7, 6, 0⟩] f W d (upd f r (at0 W n)) W d := by
 intro s m h1 h2 h3 h4
 subst h2 h3 h4
 obtain ⟨a1, a2, a3, a4⟩ := z_ps m n h hn
 have hl : m.loads (slotA n) = ((at0 m.words n, 0), { m with bus := at0 m.words n }) := by
  unfold MemM.loads MemM.load
  rw [if_neg (fun q => q a2), if_neg a3, if_pos a1, a4]
  rfl
 have ha : s.reg 7 + s.reg 6 = slotA n := by rw [h1 7 (by omega), h1 6 (by omega), h7, h6]; rfl
 have hd := doM_14 r s m _ ha _ _ hl
 refine ⟨(s.setR r (at0 m.words n)).setPC (s.pc + 2#32), { m with bus := at0 m.words n }, by rw [seqM, hd]; rfl, fun k hk => ?_, rfl, rfl, rfl, rfl, rfl⟩
 rw [z_hy, z_ot _ _ _ _ hk, h1 k hk]; rfl
theorem z_xv (T f W d) (h5 : f 5 = 1073741824#32) (hd : d < T.length) : Tri T [⟨12, 0, 5, 0, 0⟩] f W d (upd f 0 (at0 T d)) W (d + 1) := by
 intro s m h1 h2 h3 h4
 subst h2 h3 h4
 have hl : m.loads 1073741824#32 = ((at0 m.tape m.drawn, 0), { m with drawn := m.drawn + 1, bus := at0 m.tape m.drawn }) := by
  unfold MemM.loads MemM.load
  rw [if_neg (fun q => q rfl), if_pos rfl, if_neg (by omega)]
  rfl
 have hdo := doM_12 s m _ (by rw [h1 5 (by omega), h5]) _ _ hl
 refine ⟨(s.setR 0 (at0 m.tape m.drawn)).setPC (s.pc + 2#32), { m with drawn := m.drawn + 1, bus := at0 m.tape m.drawn }, by rw [seqM, hdo]; rfl, fun k hk => ?_, rfl, rfl, rfl, rfl, rfl⟩
 rw [z_hy, z_ot _ _ _ _ hk, h1 k hk]; rfl
theorem tri_st (T f W d) (n : Nat) (h : n ≤ 16000) (hn : n < W.length) (h7 : f 7 = 536870912#32) (h6 : f 6 = BitVec.ofNat 32 (4 * n)) : Tri T [⟨15, 0, 7, 6, 0⟩] f W d f (W.set n (f 0)) d := by
 intro s m h1 h2 h3 h4
 subst h2 h3 h4
 obtain ⟨a1, a2, a3, a4⟩ := z_ps m n h hn
 have ha : s.reg 7 + s.reg 6 = slotA n := by rw [h1 7 (by omega), h1 6 (by omega), h7, h6]; rfl
 have hl : m.store (slotA n) (s.reg 0) = (0, { m with words := m.words.set n (s.reg 0), bus := s.reg 0 }) := by
  unfold MemM.store
  rw [if_pos ⟨a1, a2⟩, a4]
 have hd := doM_15 s m _ ha _ hl
 refine ⟨s.setPC (s.pc + 2#32), { m with words := m.words.set n (s.reg 0), bus := s.reg 0 }, by rw [seqM, hd]; rfl, fun k hk => by rw [z_hy]; exact h1 k hk, rfl, ?_, rfl, rfl, rfl⟩
 dsimp only
 rw [h1 0 (by omega)]
end Go.Abs
end
section
namespace Go.Abs
open Th
theorem z_z0 (n : Nat) (h : n ≤ 16000) : BitVec.ofNat 32 (4 * n / 256) <<< 8 + BitVec.ofNat 32 (4 * n % 256) = BitVec.ofNat 32 (4 * n) := by
 apply BitVec.eq_of_toNat_eq
 rw [BitVec.toNat_add, BitVec.toNat_shiftLeft, BitVec.toNat_ofNat, BitVec.toNat_ofNat, BitVec.toNat_ofNat, Nat.shiftLeft_eq]
 omega
theorem z_wx (T f W d) (n : Nat) (h : n ≤ 16000) : Tri T (atI n) f W d (upd f 6 (BitVec.ofNat 32 (4 * n))) W d := by
 unfold atI
 split
 ·exact z_hw T f W d 6 (4 * n) (by omega) (by omega)
 ·refine (((z_hw T f W d 6 (4 * n / 256) (by omega) (by omega)).append (z_kq T _ W d 6 8 (by omega) (by omega))).append (z_wy T _ W d 6 (4 * n % 256) (by omega) (by omega))).weak fun k hk => ?_
  unfold upd
  by_cases e : k = 6
  ·subst e; simp only [if_true]; exact z_z0 n h
  ·simp only [if_neg e]
theorem z_of (T f W d) (r n : Nat) (hr : r < 8) (h : n ≤ 16000) (hn : n < W.length) (h7 : f 7 = 536870912#32) : Tri T (getI r n) f W d (upd (upd f 6 (BitVec.ofNat 32 (4 * n))) r (at0 W n)) W d :=
 (z_wx T f W d n h).append (tri_ld T _ W d r n hr h hn (by simpa [upd] using h7) (by simp [upd]))
theorem z_xs (T f W d) (n : Nat) (h : n ≤ 16000) (hn : n < W.length) (h7 : f 7 = 536870912#32) : Tri T (putI n) f W d (upd f 6 (BitVec.ofNat 32 (4 * n))) (W.set n (f 0)) d := by
 have h2 := tri_st T (upd f 6 (BitVec.ofNat 32 (4 * n))) W d n h hn (by simpa [upd] using h7) (by simp [upd])
 have e : upd f 6 (BitVec.ofNat 32 (4 * n)) 0 = f 0 := by simp [upd]
 rw [e] at h2
 exact (z_wx T f W d n h).append h2
def Fix (f g : Regs) (v : BitVec 32) : Prop := g 0 = v ∧ g 5 = f 5 ∧ g 7 = f 7
theorem z_np (v : BitVec 32) (j : Nat) : byteI v j = v.toNat / 2 ^ (24 - 8 * j) % 256 := by
 unfold byteI
 rw [BitVec.toNat_and, BitVec.toNat_ushiftRight, Nat.shiftRight_eq_div_pow]
 exact Nat.and_two_pow_sub_one_eq_mod _ 8
theorem z_ty (v : BitVec 32) (j : Nat) (hj : j < 4) : v >>> (32 - 8 * (j + 1)) = (v >>> (32 - 8 * j)) <<< 8 + BitVec.ofNat 32 (byteI v j) := by
 apply BitVec.eq_of_toNat_eq
 rw [BitVec.toNat_add, BitVec.toNat_shiftLeft, BitVec.toNat_ofNat, BitVec.toNat_ushiftRight, BitVec.toNat_ushiftRight, Nat.shiftLeft_eq, Nat.shiftRight_eq_div_pow, Nat.shiftRight_eq_div_pow, z_np]
 have hv := v.isLt
 have h4 : j = 0 ∨ j = 1 ∨ j = 2 ∨ j = 3 := by omega
 rcases h4 with rfl | rfl | rfl | rfl <;> simp only [Nat.reduceMul, Nat.reduceSub, Nat.reducePow, Nat.reduceAdd, Nat.pow_zero] <;> omega
theorem z_jn (T W d) (v : BitVec 32) (f : Regs) : ∀ j, j ≤ 4 → (z_du v j = [] → v >>> (32 - 8 * j) = 0#32) ∧ (z_du v j ≠ [] → ∃ g, Tri T (z_du v j) f W d g W d ∧ Fix f g (v >>> (32 - 8 * j)))
 | 0, _ => ⟨fun _ => by apply BitVec.eq_of_toNat_eq; rw [BitVec.toNat_ushiftRight, Nat.shiftRight_eq_div_pow, Nat.div_eq_of_lt v.isLt]; rfl, fun h => (h rfl).elim⟩
 | j + 1, hj => by
  obtain ⟨ih1, ih2⟩ := z_jn T W d v f j (by omega)
  have hs := z_ty v j (by omega)
  have hb : byteI v j ≤ 255 := by rw [z_np]; omega
  rw [z_du]
  by_cases h : z_du v j = []
  ·rw [if_neg (fun q => q h)]
   rw [ih1 h] at hs
   have hz : 0#32 <<< 8 + BitVec.ofNat 32 (byteI v j) = BitVec.ofNat 32 (byteI v j) := by simp
   rw [hz] at hs
   by_cases h2 : 0 < byteI v j ∨ j = 3
   ·rw [if_pos h2]
    refine ⟨fun q => (List.cons_ne_nil _ _ q).elim, fun _ => ⟨_, z_hw T f W d 0 (byteI v j) (by omega) hb, by rw [hs]; simp [upd], by simp [upd], by simp [upd]⟩⟩
   ·rw [if_neg h2]
    refine ⟨fun _ => ?_, fun q => (q rfl).elim⟩
    rw [hs, show byteI v j = 0 by omega]
  ·rw [if_pos h]
   obtain ⟨g, g1, g2, g3, g4⟩ := ih2 h
   refine ⟨fun q => (h (List.append_eq_nil_iff.1 q).1).elim, fun _ => ⟨_, g1.append ((z_kq T g W d 0 8 (by omega) (by omega)).append (z_wy T _ W d 0 (byteI v j) (by omega) hb)), ?_, by simp [upd, g3], by simp [upd, g4]⟩⟩
   rw [hs]; simp [upd, g2]
theorem z_rw (T W d) (v : BitVec 32) (f : Regs) : ∃ g, Tri T (z_j7 v) f W d g W d ∧ Fix f g v := by
 have hne : z_du v 4 ≠ [] := by
  intro e
  rw [z_du] at e
  split at e
  ·simp at e
  ·rw [if_pos (.inr rfl)] at e; cases e
 obtain ⟨g, g1, g2⟩ := (z_jn T W d v f 4 (by omega)).2 hne
 exact ⟨g, g1, by simpa using g2⟩
theorem z_ux (T W d) (o : OpM) (hn : numOk o) (hk : 0 ≤ o.k ∧ o.k < 9) (f : Regs) (h5 : f 5 = 1073741824#32) (hd : o.k = 0 → d < T.length) :
  ∃ g, Tri T (doesI o) f W d g W (if o.k = 0 then d + 1 else d) ∧ Fix f g (if o.k = 0 then at0 T d else stepW o (f 0) (f 1)) := by
 obtain ⟨k, a, b, n⟩ := o
 unfold numOk at hn
 dsimp only at hn hk hd
 have hk9 : k = 0 ∨ k = 1 ∨ k = 2 ∨ k = 3 ∨ k = 4 ∨ k = 5 ∨ k = 6 ∨ k = 7 ∨ k = 8 := by omega
 unfold doesI stepW
 dsimp only
 rcases hk9 with rfl | rfl | rfl | rfl | rfl | rfl | rfl | rfl | rfl
 ·exact ⟨_, z_xv T f W d h5 (hd rfl), by simp [upd], by simp [upd], by simp [upd]⟩
 ·exact ⟨_, z_xw T f W d, by simp [upd], by simp [upd], by simp [upd]⟩
 ·exact ⟨_, z_xq T f W d, by simp [upd], by simp [upd], by simp [upd]⟩
 ·exact ⟨_, z_xu T f W d, by simp [upd], by simp [upd], by simp [upd]⟩
 ·have := hn (.inl rfl)
  exact ⟨_, z_kq T f W d 0 n.toNat (by omega) (by omega), by simp [upd], by simp [upd], by simp [upd]⟩
 ·have hn5 := hn (.inr (.inl rfl))
  by_cases h0 : n = 0#32
  ·subst h0
   exact ⟨_, z_kq T f W d 0 0 (by omega) (by omega), by simp [upd], by simp [upd], by simp [upd]⟩
  ·have : n.toNat ≠ 0 := fun e => h0 (BitVec.eq_of_toNat_eq (by simpa using e))
   rw [if_neg (by omega), if_neg (by omega), if_neg (by omega), if_neg (by omega), if_pos rfl, if_neg h0]
   exact ⟨_, tri_lr T f W d 0 n.toNat (by omega) (by omega) (by omega), by simp [upd], by simp [upd], by simp [upd]⟩
 ·have hn6 := hn (.inr (.inr rfl))
  have hm : ((32#32 - n) % 32#32).toNat < 32 := by rw [BitVec.toNat_umod]; exact Nat.mod_lt _ (by decide)
  refine ⟨_, (z_hw T f W d 2 ((32#32 - n) % 32#32).toNat (by omega) (by omega)).append (z_xr T _ W d), ?_, by simp [upd], by simp [upd]⟩
  have := z_x8 (f 0) n hn6
  simp only [upd]
  simpa using this
 ·obtain ⟨g, g1, g2⟩ := z_rw T W d n f
  exact ⟨g, g1, g2⟩
 ·exact ⟨f, Tri.nil T f W d, rfl, rfl, rfl⟩
theorem z_uv (T W d) (hW : W.length ≤ 16000) : ∀ (src : List Nat) (f : Regs), src.length ≤ 2 → (∀ x ∈ src, x < W.length) → f 7 = 536870912#32 →
  ∃ g, Tri T (regsI src 0) f W d g W d ∧ (∀ k, k < src.length → g k = at0 W (src.getD k 0)) ∧ g 5 = f 5 ∧ g 7 = f 7
 | [], f, _, _, _ => ⟨f, Tri.nil T f W d, fun k h => by simp at h, rfl, rfl⟩
 | [x], f, _, hx, h7 => by
  have h1 := hx x (by simp)
  refine ⟨_, by simp only [regsI, List.append_nil]; exact z_of T f W d 0 x (by omega) (by omega) h1 h7, fun k h => ?_, by simp [upd], by simp [upd]⟩
  have : k = 0 := by simpa using h
  subst this; simp [upd]
 | [x, y], f, _, hx, h7 => by
  have h1 := hx x (by simp)
  have h2 := hx y (by simp)
  refine ⟨_, by simp only [regsI, List.append_nil]; exact (z_of T f W d 0 x (by omega) (by omega) h1 h7).append (z_of T _ W d 1 y (by omega) (by omega) h2 (by simpa [upd] using h7)), fun k h => ?_, by simp [upd], by simp [upd]⟩
  have : k = 0 ∨ k = 1 := by simp at h; omega
  rcases this with rfl | rfl <;> simp [upd]
theorem z_uw (T f W d) (src : List Nat) : ∃ g, Tri T (headI src) f W d g W d ∧ g 5 = f 5 ∧ g 7 = f 7 := by
 unfold headI
 split
 ·exact ⟨_, (z_hw T f W d 0 0 (by omega) (by omega)).append (z_hw T _ W d 1 0 (by omega) (by omega)), by simp [upd], by simp [upd]⟩
 ·exact ⟨_, z_hw T f W d 0 0 (by omega) (by omega), by simp [upd], by simp [upd]⟩
def stepV (o : OpM) (W : List (BitVec 32)) (src : List Nat) (t0 : BitVec 32) : BitVec 32 :=
 if o.k = 0 then t0 else stepW o (at0 W (src.getD 0 0)) (at0 W (src.getD 1 0))
theorem z_uu (T W d) (hW : W.length ≤ 16000) (o : OpM) (hn : numOk o) (hk : 0 ≤ o.k ∧ o.k < 9) (dst : Nat) (hdst : dst < W.length) (src : List Nat) (hs : (src.length : Int) = z_a3 o.k) (hx : ∀ x ∈ src, x < W.length) (f : Regs) (h5 : f 5 = 1073741824#32) (h7 : f 7 = 536870912#32) (hd : o.k = 0 → d < T.length) :
  ∃ g, Tri T (stepI o dst src) f W d g (W.set dst (stepV o W src (at0 T d))) (if o.k = 0 then d + 1 else d) ∧ g 5 = 1073741824#32 ∧ g 7 = 536870912#32 := by
 have htk : z_a3 o.k ≤ 2 := by unfold z_a3; repeat' split <;> omega
 obtain ⟨g1, a1, a2, a3⟩ := z_uw T f W d src
 obtain ⟨g2, b1, b2, b3, b4⟩ := z_uv T W d hW src g1 (by omega) hx (by rw [a3, h7])
 obtain ⟨g3, c1, c2, c3, c4⟩ := z_ux T W d o hn hk g2 (by rw [b3, a2, h5]) hd
 have hp := z_xs T g3 W (if o.k = 0 then d + 1 else d) dst (by omega) hdst (by rw [c4, b4, a3, h7])
 have hv : g3 0 = stepV o W src (at0 T d) := by
  rw [c2]
  unfold stepV
  by_cases h0 : o.k = 0
  ·rw [if_pos h0, if_pos h0]
  ·rw [if_neg h0, if_neg h0]
   have h9 : o.k = 1 ∨ o.k = 2 ∨ o.k = 3 ∨ o.k = 4 ∨ o.k = 5 ∨ o.k = 6 ∨ o.k = 7 ∨ o.k = 8 := by omega
   have e0 : 0 < z_a3 o.k → g2 0 = at0 W (src.getD 0 0) := fun h => b2 0 (by omega)
   have e1 : 1 < z_a3 o.k → g2 1 = at0 W (src.getD 1 0) := fun h => b2 1 (by omega)
   clear hn hk hs hd c1 c2 htk hp
   obtain ⟨k, a, b, n⟩ := o
   dsimp only at h9 e0 e1 ⊢
   unfold stepW
   dsimp only
   rcases h9 with rfl | rfl | rfl | rfl | rfl | rfl | rfl | rfl
   ·rw [e0 (by decide), e1 (by decide)] <;> rfl
   ·rw [e0 (by decide), e1 (by decide)] <;> rfl
   ·rw [e0 (by decide)] <;> rfl
   ·rw [e0 (by decide)] <;> rfl
   ·rw [e0 (by decide)] <;> rfl
   ·rw [e0 (by decide)] <;> rfl
   ·rfl
   ·rw [e0 (by decide)] <;> rfl
 rw [hv] at hp
 refine ⟨_, (((a1.append b1).append c1).append hp), by simp [upd, c3, b3, a2, h5], by simp [upd, c4, b4, a3, h7]⟩
theorem z_rx (T f W d) : ∃ g, Tri T z_i5 f W d g W d ∧ g 5 = 1073741824#32 ∧ g 7 = 536870912#32 := by
 refine ⟨_, (z_hw T f W d 7 32 (by omega) (by omega)).append ((z_kq T _ W d 7 24 (by omega) (by omega)).append ((z_hw T _ W d 5 64 (by omega) (by omega)).append (z_kq T _ W d 5 24 (by omega) (by omega)))), by simp [upd], by simp [upd]⟩
end Go.Abs
end
end
section
namespace Go.Abs
open Th
structure GF (fr : AFr) : Prop where
 h10 : fr 10 = .ptr 0 5 0 0
 h11 : fr 11 = .ptr 2 5 0 0
 h14 : fr 14 = .ptr 3 5 0 0
end Go.Abs
end
section
namespace Go.Abs
open Th
def MemM.put4 (m : MemM) (w : List (BitVec 32)) : Nat → MemM
 | 0 => m
 | k + 1 => { m.put4 w k with words := (m.put4 w k).words.set k (at0 w k) }
theorem z_sz (m : MemM) (w : List (BitVec 32)) (k : Nat) : (m.put4 w k).code = m.code ∧ (m.put4 w k).tape = m.tape ∧ (m.put4 w k).words.length = m.words.length ∧ (m.Ok → (m.put4 w k).Ok) := by
 induction k with
 | zero => exact ⟨rfl, rfl, rfl, id⟩
 | succ k ih =>
  obtain ⟨h1, h2, h3, h4⟩ := ih
  refine ⟨h1, h2, by simp [MemM.put4, h3], fun h => ?_⟩
  have q := h4 h
  exact ⟨q.code, by simp only [MemM.put4, List.length_set]; exact q.words, q.tape, q.drawn⟩
end Go.Abs
end

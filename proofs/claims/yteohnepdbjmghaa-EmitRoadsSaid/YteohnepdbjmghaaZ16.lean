/-
  All lines, by the document.
-/
import Derived.Test.YteohnepdbjmghaaZ6
import Derived.Test.YteohnepdbjmghaaZ15
import Derived.Test.YteohnepdbjmghaaZ13
import Derived.Test.YteohnepdbjmghaaZ12
set_option linter.unusedSimpArgs false
set_option linter.unusedVariables false
set_option maxHeartbeats 20000000
set_option maxRecDepth 100000
section
section
namespace Go.Abs
noncomputable abbrev qcL0 := z_b0.l0 z_bg.spec
noncomputable abbrev qcL1 := z_b0.l1 z_bg.spec
def clash (l : List Int) (i : Nat) : Prop := ∃ k, k < i ∧ ati l k = ati l i
theorem z_v2 (c : CodeM) (hb : c.outs.length ≤ 1000000000) (i : Nat) (hi : i < c.outs.length) (X : Hp) (h0 : X.get 0 = some (z_b9 c)) {r} (hr : aloop qcL1 (AFr.al [(1, .ptr 0 3 0 0), (3, .int .i64 i), (4, .int .i64 0)]) X = r) :
  ∃ e fr' X', r = some (e, fr', X') ∧ (X' = X ∧ ((e = .exit 2 ∧ ¬ clash c.outs i ∧ ∃ y, fr' = AFr.al ([(1, .ptr 0 3 0 0), (3, .int .i64 i)] ++ y)) ∨ (e = .ret ∧ clash c.outs i ∧ fr' 2 = .bool false))) := by
 rw [z_bi] at h0
 refine z_ev hr (z_ct i (fun k fr H => H = X ∧ (∀ k', k' < k → ati c.outs k' ≠ ati c.outs i) ∧ ∃ y, fr = AFr.al ([(1, .ptr 0 3 0 0), (3, .int .i64 i), (4, .int .i64 k)] ++ y)) _ (fun k hk fr H hR => ?_) (fun fr H hR => ?_) ⟨rfl, fun k' h => by omega, [], rfl⟩)
 ·obtain ⟨rfl, h3, y, rfl⟩ := hR
  have hk' : (k : Int) < i := by omega
  have hk1 : ((k + 1 : Nat) : Int) = (k : Int) + 1 := by omega
  have hkl : k < c.outs.length := by omega
  by_cases he : ati c.outs i = ati c.outs k
  ·refine ⟨_, _, _, by simp -implicitDefEqProofs +contextual (disch := omega) [z_b0.l1, h0, hk', hi, hkl, he]; first | rfl | exact ⟨rfl, rfl⟩ | exact ⟨rfl, rfl, rfl⟩, .inr ⟨by simp, rfl, .inr ⟨rfl, ⟨k, hk, he.symm⟩, by simp⟩⟩⟩
  ·refine ⟨_, _, _, by simp -implicitDefEqProofs +contextual (disch := omega) [z_b0.l1, h0, hk', hi, hkl, he]; first | rfl | exact ⟨rfl, rfl⟩ | exact ⟨rfl, rfl, rfl⟩, .inl ⟨rfl, rfl, fun k' h => ?_, _, by rw [hk1]; rfl⟩⟩
   by_cases e : k' = k
   ·subst e; exact fun q => he q.symm
   ·exact h3 k' (by omega)
 ·obtain ⟨rfl, h3, y, rfl⟩ := hR
  refine ⟨_, _, _, by simp -implicitDefEqProofs +contextual (disch := omega) [z_b0.l1, h0]; first | rfl | exact ⟨rfl, rfl⟩ | exact ⟨rfl, rfl, rfl⟩, by simp, rfl, .inl ⟨rfl, fun ⟨k, q1, q2⟩ => h3 k q1 q2, _, rfl⟩⟩
def outOk (c : CodeM) (i : Nat) : Prop := ¬ clash c.outs i ∧ c.inN ≤ ati c.outs i
theorem z_yx (c : CodeM) (hb : c.outs.length ≤ 1000000000) (X : Hp) (h0 : X.get 0 = some (z_b9 c)) {r} (hr : aloop qcL0 (AFr.al [(1, .ptr 0 3 0 0), (3, .int .i64 0)]) X = r) :
  ∃ e fr' X', r = some (e, fr', X') ∧ (X' = X ∧ ((e = .exit 0 ∧ (∀ i, i < c.outs.length → outOk c i) ∧ fr' 1 = .ptr 0 3 0 0) ∨ (e = .ret ∧ ¬ (∀ i, i < c.outs.length → outOk c i) ∧ fr' 2 = .bool false))) := by
 have h0b := h0
 rw [z_bi] at h0b
 refine z_ev hr (z_ct c.outs.length (fun k fr H => H = X ∧ (∀ i, i < k → outOk c i) ∧ ∃ y, fr = AFr.al ([(1, .ptr 0 3 0 0), (3, .int .i64 k)] ++ y)) _ (fun k hk fr H hR => ?_) (fun fr H hR => ?_) ⟨rfl, fun k' h => by omega, [], rfl⟩)
 ·obtain ⟨rfl, h3, y, rfl⟩ := hR
  have hk' : (k : Int) < c.outs.length := by omega
  have hk1 : ((k + 1 : Nat) : Int) = (k : Int) + 1 := by omega
  generalize hr2 : qcL0 _ H = r2
  simp -implicitDefEqProofs +contextual (disch := omega) [z_b0.l0, h0b, hk'] at hr2
  generalize hr3 : aloop _ _ _ = r3 at hr2
  obtain ⟨e, fr', X', rfl, rfl, ⟨rfl, hn, y', rfl⟩ | ⟨rfl, hc, h2⟩⟩ := z_v2 c hb k hk H h0 hr3
  ·by_cases hlt : ati c.outs k < c.inN
   ·simp -implicitDefEqProofs +contextual (disch := omega) [h0b, hk, hlt] at hr2
    subst hr2
    exact ⟨_, _, _, rfl, .inr ⟨by simp, rfl, .inr ⟨rfl, fun h => by have := (h k hk).2; omega, by simp⟩⟩⟩
   ·simp -implicitDefEqProofs +contextual (disch := omega) [h0b, hk, hlt] at hr2
    subst hr2
    refine ⟨_, _, _, rfl, .inl ⟨rfl, rfl, fun i h => ?_, _, by rw [hk1]; rfl⟩⟩
    by_cases e : i = k
    ·subst e; exact ⟨hn, by omega⟩
    ·exact h3 i (by omega)
  ·simp -implicitDefEqProofs +contextual (disch := omega) [] at hr2
   subst hr2
   exact ⟨_, _, _, rfl, .inr ⟨by simp, rfl, .inr ⟨rfl, fun h => (h k hk).1 hc, h2⟩⟩⟩
 ·obtain ⟨rfl, h3, y, rfl⟩ := hR
  refine ⟨_, _, _, by simp -implicitDefEqProofs +contextual (disch := omega) [z_b0.l0, h0b]; first | rfl | exact ⟨rfl, rfl⟩ | exact ⟨rfl, rfl, rfl⟩, by simp, rfl, .inl ⟨rfl, h3, by simp⟩⟩
open Classical in
noncomputable def layOk (c : CodeM) : Bool := if (∀ i, i < c.outs.length → outOk c i) then c.can else false
theorem z_tc (c : CodeM) (hb : c.outs.length ≤ 1000000000) (hb2 : c.ops.length ≤ 1000000000) : z_b0.spec [.agg c.cells] = some (.bool (layOk c)) := by
 have hC := z_qc c hb hb2
 have hcb := z_bi c
 unfold CodeM.cells at *
 simp -implicitDefEqProofs +contextual (disch := omega) [z_b0.spec, z_b0]
 generalize hr : aloop _ _ _ = r
 obtain ⟨e, fr', X', rfl, rfl, ⟨rfl, h1, h2⟩ | ⟨rfl, h1, h2⟩⟩ := z_yx c hb _ (by simp [hcb]) hr
 ·rw [show layOk c = c.can from if_pos h1]
  simp -implicitDefEqProofs +contextual (disch := omega) [h2, hC]
 ·rw [show layOk c = false from if_neg h1]
  simp -implicitDefEqProofs +contextual (disch := omega) [h2]
end Go.Abs
end
section
namespace Go.Abs
def opZ4 : OpM := ⟨0, 0, 0, 0#32⟩
def lastI (n : Nat) (k : Nat) : List Int := (List.range k).map fun i : Nat => if i < n then (-1 : Int) else (i : Int) - n
theorem z_rc (n k : Nat) : lastI n (k + 1) = lastI n k ++ [if k < n then (-1 : Int) else (k : Int) - n] := by
 unfold lastI; rw [List.range_succ, List.map_append]; rfl
@[simp] theorem z_i7 (n k : Nat) : (lastI n k).length = k := by simp [lastI]
def z_j4 (o : OpM) (i : Nat) (l : List Int) : List Int :=
 if z_a7 o.k ≤ 0 then l else if z_a7 o.k ≤ 1 then l.set o.a.toNat i else (l.set o.a.toNat i).set o.b.toNat i
@[simp] theorem z_l5 (o : OpM) (i : Nat) (l : List Int) : (z_j4 o i l).length = l.length := by by_cases h1 : z_a7 o.k ≤ 0 <;> by_cases h2 : z_a7 o.k ≤ 1 <;> simp [z_j4, h1, h2]
def z_e6 (c : CodeM) (l : List Int) : Nat → List Int
 | 0 => l
 | k + 1 => z_j4 (c.ops.getD k opZ4) k (z_e6 c l k)
@[simp] theorem z_e9 (c : CodeM) (l : List Int) : ∀ k, (z_e6 c l k).length = l.length
 | 0 => rfl
 | k + 1 => by rw [z_e6, z_l5, z_e9 c l k]
def z_ex (c : CodeM) (l : List Int) : Nat → List Int
 | 0 => l
 | k + 1 => (z_ex c l k).set (ati c.outs k).toNat c.ops.length
@[simp] theorem z_fw (c : CodeM) (l : List Int) : ∀ k, (z_ex c l k).length = l.length
 | 0 => rfl
 | k + 1 => by rw [z_ex, List.length_set, z_fw c l k]
def lastM (c : CodeM) (n : Nat) : List Int := z_ex c (z_e6 c (lastI n (n + c.ops.length)) c.ops.length) c.outs.length
@[simp] theorem z_i6 (c : CodeM) (n : Nat) : (lastM c n).length = n + c.ops.length := by simp [lastM]
def iBlk (l : List Int) : Blk := ⟨T.ty_int, 1, true, ints l⟩
noncomputable abbrev laL0 := z_bk.l0 z_bg.spec z_a4.spec
noncomputable abbrev laL1 := z_bk.l1 z_bg.spec z_a4.spec
noncomputable abbrev laL2 := z_bk.l2 z_bg.spec z_a4.spec
theorem z_y8 (c : CodeM) (n : Nat) (hn : c.inN = n) (hin : n ≤ 4000) (hop : c.ops.length ≤ 60000) (X : Hp) (hw : X.WF) (h0 : X.get 0 = some (z_b9 c)) (ob : Nat) (hob : ob ≠ 0) (gb : X.get ob = some (iBlk [])) {r}
  (hr : aloop laL0 (AFr.al [(1, .ptr 0 3 0 0), (3, .sl ob 1 0 0), (4, .int .i64 0)]) X = r) :
  ∃ e fr' X', r = some (e, fr', X') ∧ (e = .exit 0 ∧ X'.WF ∧ X'.get 0 = some (z_b9 c) ∧ ∃ ob, ob ≠ 0 ∧ X'.get ob = some (iBlk (lastI n (n + c.ops.length))) ∧ ∃ y, fr' = AFr.al ([(1, .ptr 0 3 0 0), (3, .sl ob 1 0 (n + c.ops.length))] ++ y)) := by
 refine z_ev hr (z_ct (n + c.ops.length) (fun k fr H => ∃ y ob, fr = AFr.al ([(1, .ptr 0 3 0 0), (3, .sl ob 1 0 k), (4, .int .i64 k)] ++ y) ∧ H.WF ∧ H.get 0 = some (z_b9 c) ∧ ob ≠ 0 ∧ H.get ob = some (iBlk (lastI n k))) _ (fun k hk fr H hR => ?_) (fun fr H hR => ?_) ⟨[], ob, rfl, hw, h0, hob, gb⟩)
 ·obtain ⟨y, ob, rfl, hw, g0, hob, gb⟩ := hR
  have hk' : (k : Int) < n + c.ops.length := by omega
  have hk1 : ((k + 1 : Nat) : Int) = (k : Int) + 1 := by omega
  have hbo := hw _ _ gb
  have hob2 : ¬ 0 = ob := fun e => hob e.symm
  rw [z_bi, hn] at g0
  simp only [z_bi, hn]
  simp only [iBlk] at gb ⊢
  have hlen : (lastI n k).length = k := z_i7 n k
  rw [z_rc, hk1]
  by_cases hkn : k < n
  ·have hkn' : (k : Int) < n := by omega
   rw [if_pos hkn]
   generalize lastI n k = l at *
   refine ⟨_, _, _, by simp -implicitDefEqProofs +contextual (disch := omega) [z_bk.l0, g0, gb, hk', hkn', hlen]; first | rfl | exact ⟨rfl, rfl⟩ | exact ⟨rfl, rfl, rfl⟩, .inl ⟨rfl, _, _, rfl, ?_, ?_, ?_, ?_⟩⟩
   ·(repeat' (first | assumption | with_reducible apply Hp.WF.push | with_reducible apply Hp.WF.set | with_reducible apply z_bl | exact Hp.WF.empty)) <;> (simp <;> omega)
   ·simp (disch := omega) [g0, hob2]
   ·omega
   ·simp (disch := omega) [z_nq]
  ·have hkn' : ¬ (k : Int) < n := by omega
   rw [if_neg hkn]
   generalize lastI n k = l at *
   refine ⟨_, _, _, by simp -implicitDefEqProofs +contextual (disch := omega) [z_bk.l0, g0, gb, hk', hkn', hlen]; first | rfl | exact ⟨rfl, rfl⟩ | exact ⟨rfl, rfl, rfl⟩, .inl ⟨rfl, _, _, rfl, ?_, ?_, ?_, ?_⟩⟩
   ·(repeat' (first | assumption | with_reducible apply Hp.WF.push | with_reducible apply Hp.WF.set | with_reducible apply z_bl | exact Hp.WF.empty)) <;> (simp <;> omega)
   ·simp (disch := omega) [g0, hob2]
   ·omega
   ·simp (disch := omega) [z_nq]
 ·obtain ⟨y, ob, rfl, hw, g0, hob, gb⟩ := hR
  have g0' := g0
  rw [z_bi, hn] at g0
  have hnl : ((n + c.ops.length : Nat) : Int) = (n : Int) + c.ops.length := by omega
  refine ⟨_, _, _, by simp -implicitDefEqProofs +contextual (disch := omega) [z_bk.l0, g0, hnl]; first | rfl | exact ⟨rfl, rfl⟩ | exact ⟨rfl, rfl, rfl⟩, by simp, rfl, hw, g0', ob, hob, gb, _, rfl⟩
theorem la_ops (c : CodeM) (n : Nat) (hn : c.inN = n) (hin : n ≤ 4000) (hop : c.ops.length ≤ 60000) (hok : opsOk c.ops c.inN = true) (l : List Int) (hl : l.length = n + c.ops.length) (X : Hp) (hw : X.WF) (h0 : X.get 0 = some (z_b9 c)) (ob : Nat) (hob : ob ≠ 0) (gb : X.get ob = some (iBlk l)) {r}
  (hr : aloop laL1 (AFr.al [(1, .ptr 0 3 0 0), (3, .sl ob 1 0 (n + c.ops.length)), (5, .int .i64 0)]) X = r) :
  ∃ e fr' X', r = some (e, fr', X') ∧ (e = .exit 2 ∧ X'.WF ∧ X'.get 0 = some (z_b9 c) ∧ X'.get ob = some (iBlk (z_e6 c l c.ops.length)) ∧ ∃ y, fr' = AFr.al ([(1, .ptr 0 3 0 0), (3, .sl ob 1 0 (n + c.ops.length))] ++ y)) := by
 refine z_ev hr (z_ct c.ops.length (fun k fr H => ∃ y, fr = AFr.al ([(1, .ptr 0 3 0 0), (3, .sl ob 1 0 (n + c.ops.length)), (5, .int .i64 k)] ++ y) ∧ H.WF ∧ H.get 0 = some (z_b9 c) ∧ H.get ob = some (iBlk (z_e6 c l k))) _ (fun k hk fr H hR => ?_) (fun fr H hR => ?_) ⟨[], rfl, hw, h0, gb⟩)
 ·obtain ⟨y, rfl, hw, g0, gb⟩ := hR
  have hk' : (k : Int) < c.ops.length := by omega
  have hk1 : ((k + 1 : Nat) : Int) = (k : Int) + 1 := by omega
  have hbo := hw _ _ gb
  have hob2 : ¬ 0 = ob := fun e => hob e.symm
  have h00 := hw _ _ g0
  rw [z_bi, hn] at g0
  simp only [z_bi, hn]
  simp only [iBlk] at gb ⊢
  have hrow := z_f3 c.ops k hk
  have hT := z_m7 c.ops[k].k
  have e1 : c.ops.getD k opZ4 = c.ops[k] := by simp [List.getD_eq_getElem?_getD, hk]
  have hlen : (z_e6 c l k).length = n + c.ops.length := by rw [z_e9, hl]
  have hok' := (z_fi _ _).1 hok k hk
  rw [z_e6, e1, hk1]
  unfold OpM.ok at hok'
  simp only [Bool.and_eq_true, decide_eq_true_eq] at hok'
  obtain ⟨⟨⟨⟨q1, q2⟩, q3⟩, q4⟩, q5⟩ := hok'
  rw [hn] at q4 q5
  have hta : 0 < z_a7 c.ops[k].k → ∃ A : Nat, c.ops[k].a = A ∧ A < n + c.ops.length := fun h => by
   simp [wireM, h] at q4
   exact ⟨c.ops[k].a.toNat, by omega, by omega⟩
  have htb : 1 < z_a7 c.ops[k].k → ∃ B : Nat, c.ops[k].b = B ∧ B < n + c.ops.length := fun h => by
   simp [wireM, h] at q5
   exact ⟨c.ops[k].b.toNat, by omega, by omega⟩
  have hOl : (z_d0 c.ops).length = c.ops.length := z_e8 _
  clear q1 q2 q3 q4 q5
  generalize z_e6 c l k = l1 at *
  generalize c.ops[k] = o at *
  obtain ⟨ok, oa, obb, on⟩ := o
  simp only [OpM.cells] at hrow
  unfold z_j4
  dsimp only at hta htb hT ⊢
  have hc : z_a7 ok = 0 ∨ z_a7 ok = 1 ∨ z_a7 ok = 2 := by
   have h1 : 0 ≤ z_a7 ok ∧ z_a7 ok ≤ 2 := by unfold z_a7; repeat' split <;> omega
   omega
  generalize z_d0 c.ops = R at *
  rcases hc with hc | hc | hc
  ·rw [hc] at hT hta htb ⊢
   refine ⟨_, _, _, by simp -implicitDefEqProofs +contextual (disch := omega) [z_bk.l1, g0, gb, hk', hrow, hOl, hT, hlen, -getElem?_pos]; first | rfl | exact ⟨rfl, rfl⟩ | exact ⟨rfl, rfl, rfl⟩, .inl ⟨rfl, _, rfl, ?_, ?_, ?_⟩⟩
   ·(repeat' (first | assumption | with_reducible apply Hp.WF.push | with_reducible apply Hp.WF.set | with_reducible apply z_bl | exact Hp.WF.empty)) <;> (simp <;> omega)
   ·simp (disch := omega) [g0, hob2]
   ·simp (disch := omega) [gb]
  ·rw [hc] at hT hta htb ⊢
   obtain ⟨A, rfl, hA⟩ := hta (by omega)
   refine ⟨_, _, _, by simp -implicitDefEqProofs +contextual (disch := omega) [z_bk.l1, g0, gb, hk', hrow, hOl, hT, hlen, hA, -getElem?_pos]; first | rfl | exact ⟨rfl, rfl⟩ | exact ⟨rfl, rfl, rfl⟩, .inl ⟨rfl, _, rfl, ?_, ?_, ?_⟩⟩
   ·(repeat' (first | assumption | with_reducible apply Hp.WF.push | with_reducible apply Hp.WF.set | with_reducible apply z_bl | exact Hp.WF.empty)) <;> (simp <;> omega)
   ·simp (disch := omega) [g0, hob2]
   ·simp (disch := omega) [gb]
  ·rw [hc] at hT hta htb ⊢
   obtain ⟨A, rfl, hA⟩ := hta (by omega)
   obtain ⟨B, rfl, hB⟩ := htb (by omega)
   refine ⟨_, _, _, by simp -implicitDefEqProofs +contextual (disch := omega) [z_bk.l1, g0, gb, hk', hrow, hOl, hT, hlen, hA, hB, -getElem?_pos]; first | rfl | exact ⟨rfl, rfl⟩ | exact ⟨rfl, rfl, rfl⟩, .inl ⟨rfl, _, rfl, ?_, ?_, ?_⟩⟩
   ·(repeat' (first | assumption | with_reducible apply Hp.WF.push | with_reducible apply Hp.WF.set | with_reducible apply z_bl | exact Hp.WF.empty)) <;> (simp <;> omega)
   ·simp (disch := omega) [g0, hob2]
   ·simp (disch := omega) [gb]
 ·obtain ⟨y, rfl, hw, g0, gb⟩ := hR
  have g0' := g0
  rw [z_bi, hn] at g0
  refine ⟨_, _, _, by simp -implicitDefEqProofs +contextual (disch := omega) [z_bk.l1, g0]; first | rfl | exact ⟨rfl, rfl⟩ | exact ⟨rfl, rfl, rfl⟩, by simp, rfl, hw, g0', gb, _, rfl⟩
theorem z_y7 (c : CodeM) (n : Nat) (hn : c.inN = n) (hin : n ≤ 4000) (hop : c.ops.length ≤ 60000) (hb : c.outs.length ≤ 1000000000) (ho : ∀ k, k < c.outs.length → 0 ≤ ati c.outs k ∧ ati c.outs k < (n + c.ops.length : Nat)) (l : List Int) (hl : l.length = n + c.ops.length) (X : Hp) (hw : X.WF) (h0 : X.get 0 = some (z_b9 c)) (ob : Nat) (hob : ob ≠ 0) (gb : X.get ob = some (iBlk l)) {r}
  (hr : aloop laL2 (AFr.al [(1, .ptr 0 3 0 0), (3, .sl ob 1 0 (n + c.ops.length)), (7, .int .i64 0)]) X = r) :
  ∃ e fr' X', r = some (e, fr', X') ∧ (e = .exit 4 ∧ X'.get ob = some (iBlk (z_ex c l c.outs.length)) ∧ fr' 3 = .sl ob 1 0 (n + c.ops.length)) := by
 refine z_ev hr (z_ct c.outs.length (fun k fr H => ∃ y, fr = AFr.al ([(1, .ptr 0 3 0 0), (3, .sl ob 1 0 (n + c.ops.length)), (7, .int .i64 k)] ++ y) ∧ H.WF ∧ H.get 0 = some (z_b9 c) ∧ H.get ob = some (iBlk (z_ex c l k))) _ (fun k hk fr H hR => ?_) (fun fr H hR => ?_) ⟨[], rfl, hw, h0, gb⟩)
 ·obtain ⟨y, rfl, hw, g0, gb⟩ := hR
  have hk' : (k : Int) < c.outs.length := by omega
  have hk1 : ((k + 1 : Nat) : Int) = (k : Int) + 1 := by omega
  have hbo := hw _ _ gb
  have hob2 : ¬ 0 = ob := fun e => hob e.symm
  have h00 := hw _ _ g0
  rw [z_bi, hn] at g0
  simp only [z_bi, hn]
  simp only [iBlk] at gb ⊢
  have hlen : (z_ex c l k).length = n + c.ops.length := by rw [z_fw, hl]
  obtain ⟨A, hA, hA2⟩ : ∃ A : Nat, ati c.outs k = A ∧ A < n + c.ops.length := ⟨(ati c.outs k).toNat, by have := ho k hk; omega, by have := ho k hk; omega⟩
  rw [z_ex, hA, hk1, Int.toNat_natCast]
  generalize z_ex c l k = l1 at *
  refine ⟨_, _, _, by simp -implicitDefEqProofs +contextual (disch := omega) [z_bk.l2, g0, gb, hk', hk, hlen, hA, hA2]; first | rfl | exact ⟨rfl, rfl⟩ | exact ⟨rfl, rfl, rfl⟩, .inl ⟨rfl, _, rfl, ?_, ?_, ?_⟩⟩
  ·(repeat' (first | assumption | with_reducible apply Hp.WF.push | with_reducible apply Hp.WF.set | with_reducible apply z_bl | exact Hp.WF.empty)) <;> (simp <;> omega)
  ·simp (disch := omega) [g0, hob2]
  ·simp (disch := omega) [gb]
 ·obtain ⟨y, rfl, hw, g0, gb⟩ := hR
  rw [z_bi, hn] at g0
  refine ⟨_, _, _, by simp -implicitDefEqProofs +contextual (disch := omega) [z_bk.l2, g0]; first | rfl | exact ⟨rfl, rfl⟩ | exact ⟨rfl, rfl, rfl⟩, by simp, rfl, gb, by simp⟩
theorem z_o9 (c : CodeM) (hcan : c.can = true) (k : Nat) (hk : k < c.outs.length) : 0 ≤ ati c.outs k ∧ ati c.outs k < c.inN + c.ops.length := by
 unfold CodeM.can at hcan
 simp only [Bool.and_eq_true, decide_eq_true_eq, List.all_eq_true] at hcan
 have := hcan.2 (ati c.outs k) (by rw [z_i9 _ _ hk]; exact List.getElem_mem hk)
 exact this
theorem z_0p (c : CodeM) (hb : c.outs.length ≤ 1000000000) (n : Nat) (hn : c.inN = n) (hcan : c.can = true) : z_bk.spec [.agg c.cells] = some (.rsl 1 (ints (lastM c n))) := by
 have hcan' := hcan
 unfold CodeM.can at hcan'
 simp only [Bool.and_eq_true, decide_eq_true_eq] at hcan'
 obtain ⟨⟨⟨⟨q1, q2⟩, q3⟩, q4⟩, q5⟩ := hcan'
 have hC := z_qc c hb (by omega)
 rw [hcan] at hC
 have hcb := z_bi c
 have ho := z_o9 c hcan
 rw [hn] at hcb ho
 unfold CodeM.cells at *
 rw [hn] at hC ⊢
 simp -implicitDefEqProofs +contextual (disch := omega) [z_bk.spec, z_bk, hC]
 generalize hr : aloop _ _ _ = r
 obtain ⟨e, fr', X', rfl, rfl, w1, g1, ob, hob, gb, y, rfl⟩ := z_y8 c n hn (by omega) q3 _ (by (repeat' (first | assumption | with_reducible apply Hp.WF.push | with_reducible apply Hp.WF.set | with_reducible apply z_bl | exact Hp.WF.empty)) <;> (simp <;> omega)) (by simp [hcb]) 1 (by omega) (by simp [iBlk, ints]) hr
 simp -implicitDefEqProofs +contextual (disch := omega) []
 generalize hr : aloop _ _ _ = r
 obtain ⟨e, fr', X2, rfl, rfl, w2, g2, gb2, y, rfl⟩ := la_ops c n hn (by omega) q3 q4 _ (z_i7 _ _) X' w1 g1 ob hob gb hr
 simp -implicitDefEqProofs +contextual (disch := omega) []
 generalize hr : aloop _ _ _ = r
 obtain ⟨e, fr', X3, rfl, rfl, gb3, h3⟩ := z_y7 c n hn (by omega) q3 hb (fun k hk => by have := ho k hk; omega) _ (by simp) X2 w2 g2 ob hob gb2 hr
 have hml := z_i6 c n
 rw [show z_ex c (z_e6 c (lastI n (n + c.ops.length)) c.ops.length) c.outs.length = lastM c n from rfl] at gb3
 simp only [iBlk] at gb3
 have hall : List.take (n + c.ops.length) (ints (lastM c n)) = ints (lastM c n) := List.take_of_length_le (by simp)
 generalize lastM c n = L at *
 simp -implicitDefEqProofs +contextual (disch := omega) [gb3, h3, hall, hml]
end Go.Abs
end
section
namespace Go.Abs
def fillI (m : Nat) : Nat → List Int
 | 0 => List.replicate m 0
 | k + 1 => (fillI m k).set k k
@[simp] theorem z_fr (m : Nat) : ∀ k, (fillI m k).length = m
 | 0 => by simp [fillI]
 | k + 1 => by rw [fillI, List.length_set, z_fr m k]
def fillO (c : CodeM) (n : Nat) (l : List Int) : Nat → List Int
 | 0 => l
 | k + 1 => (fillO c n l k).set (ati c.outs k).toNat ((n + k : Nat) : Int)
@[simp] theorem z_g0 (c : CodeM) (n : Nat) (l : List Int) : ∀ k, (fillO c n l k).length = l.length
 | 0 => rfl
 | k + 1 => by rw [fillO, List.length_set, z_g0 c n l k]
def freeK (t : List Int) (i : Nat) : Nat := t.findIdx fun x => decide (x < (i : Int))
def stS (c : CodeM) (n : Nat) (i : Nat) (s : List Int × List Int) : List Int × List Int :=
 if ati (lastM c n) (n + i) = c.ops.length then s
 else (s.1.set (n + i) ((n + c.outs.length + freeK s.2 i : Nat) : Int), if freeK s.2 i = s.2.length then s.2 ++ [ati (lastM c n) (n + i)] else s.2.set (freeK s.2 i) (ati (lastM c n) (n + i)))
def goS (c : CodeM) (n : Nat) : Nat → List Int × List Int
 | 0 => (fillO c n (fillI (n + c.ops.length) n) c.outs.length, [])
 | i + 1 => stS c n i (goS c n i)
theorem z_gz (c : CodeM) (n : Nat) : ∀ i, (goS c n i).1.length = n + c.ops.length ∧ (goS c n i).2.length ≤ i
 | 0 => by simp [goS]
 | i + 1 => by
  have ih := z_gz c n i
  rw [goS, stS]
  split
  ·exact ⟨ih.1, by omega⟩
  ·dsimp only
   refine ⟨by rw [List.length_set]; exact ih.1, ?_⟩
   split
   ·simp; omega
   ·simp; omega
structure SlI (c : CodeM) (X : Hp) (ob tb : Nat) (o t : List Int) : Prop where
 wf : X.WF
 g0 : X.get 0 = some (z_b9 c)
 o0 : ob ≠ 0
 t0 : tb ≠ 0
 ne : ob ≠ tb
 go : X.get ob = some (iBlk o)
 gt : X.get tb = some (iBlk t)
noncomputable abbrev slL0 := z_bh.l0 z_b0.spec z_bk.spec
noncomputable abbrev slL1 := z_bh.l1 z_b0.spec z_bk.spec
noncomputable abbrev slL2 := z_bh.l2 z_b0.spec z_bk.spec
noncomputable abbrev slL3 := z_bh.l3 z_b0.spec z_bk.spec
def slFr (c : CodeM) (n ob tb tl : Nat) (y : List (Nat × AV)) : AFr := AFr.al ([(1, .ptr 0 3 0 0), (5, .sl ob 1 0 (n + c.ops.length)), (6, .rsl 1 (ints (lastM c n))), (7, .int .i64 (n + c.outs.length : Nat)), (8, .sl tb 1 0 tl)] ++ y)
theorem sl_in (c : CodeM) (n : Nat) (hn : c.inN = n) (hin : n ≤ 4000) (hop : c.ops.length ≤ 60000) (ob tb : Nat) (X : Hp) (hI : SlI c X ob tb (fillI (n + c.ops.length) 0) []) {r} (hr : aloop slL0 (slFr c n ob tb 0 [(9, .int .i64 0)]) X = r) :
  ∃ e fr' X', r = some (e, fr', X') ∧ (e = .exit 0 ∧ SlI c X' ob tb (fillI (n + c.ops.length) n) [] ∧ ∃ y, fr' = slFr c n ob tb 0 y) := by
 refine z_ev hr (z_ct n (fun k fr H => ∃ y, fr = slFr c n ob tb 0 ([(9, .int .i64 k)] ++ y) ∧ SlI c H ob tb (fillI (n + c.ops.length) k) []) _ (fun k hk fr H hR => ?_) (fun fr H hR => ?_) ⟨[], rfl, hI⟩)
 ·obtain ⟨y, rfl, I⟩ := hR
  have hk' : (k : Int) < n := by omega
  have hk1 : ((k + 1 : Nat) : Int) = (k : Int) + 1 := by omega
  have g0 := I.g0; have gb := I.go; have gt := I.gt; have o0 := I.o0; have t0 := I.t0; have ne := I.ne; have hw := I.wf
  have hbo := hw _ _ gb
  have h00 := hw _ _ g0
  have hto := hw _ _ gt
  have n1 : ¬ 0 = ob := fun e => o0 e.symm
  have n2 : ¬ 0 = tb := fun e => t0 e.symm
  have n3 : ¬ tb = ob := fun e => ne e.symm
  rw [z_bi, hn] at g0
  simp only [iBlk] at gb gt
  have hlen := z_fr (n + c.ops.length) k
  unfold slFr
  rw [fillI, hk1]
  generalize fillI (n + c.ops.length) k = l at *
  generalize lastM c n = E at *
  refine ⟨_, _, _, by simp -implicitDefEqProofs +contextual (disch := omega) [z_bh.l0, g0, gb, hk', hlen]; first | rfl | exact ⟨rfl, rfl⟩ | exact ⟨rfl, rfl, rfl⟩, .inl ⟨rfl, _, rfl, ?_, ?_, o0, t0, ne, ?_, ?_⟩⟩
  ·(repeat' (first | assumption | with_reducible apply Hp.WF.push | with_reducible apply Hp.WF.set | with_reducible apply z_bl | exact Hp.WF.empty)) <;> (simp <;> omega)
  ·rw [z_bi, hn]; simp (disch := omega) [g0, n1]
  ·simp (disch := omega) [gb, iBlk]
  ·simp (disch := omega) [gt, n3, iBlk]
 ·obtain ⟨y, rfl, I⟩ := hR
  have g0 := I.g0
  rw [z_bi, hn] at g0
  refine ⟨_, _, _, by simp -implicitDefEqProofs +contextual (disch := omega) [z_bh.l0, slFr, g0]; first | rfl | exact ⟨rfl, rfl⟩ | exact ⟨rfl, rfl, rfl⟩, by simp, rfl, I, _, by unfold slFr; rfl⟩
theorem sl_out (c : CodeM) (n : Nat) (hn : c.inN = n) (hin : n ≤ 4000) (hop : c.ops.length ≤ 60000) (hb : c.outs.length ≤ 1000000000) (ho : ∀ k, k < c.outs.length → 0 ≤ ati c.outs k ∧ ati c.outs k < (n + c.ops.length : Nat)) (l : List Int) (hl : l.length = n + c.ops.length) (ob tb : Nat) (X : Hp) (hI : SlI c X ob tb l []) {r}
  (hr : aloop slL1 (slFr c n ob tb 0 [(10, .int .i64 0)]) X = r) :
  ∃ e fr' X', r = some (e, fr', X') ∧ (e = .exit 2 ∧ SlI c X' ob tb (fillO c n l c.outs.length) [] ∧ ∃ y, fr' = slFr c n ob tb 0 y) := by
 refine z_ev hr (z_ct c.outs.length (fun k fr H => ∃ y, fr = slFr c n ob tb 0 ([(10, .int .i64 k)] ++ y) ∧ SlI c H ob tb (fillO c n l k) []) _ (fun k hk fr H hR => ?_) (fun fr H hR => ?_) ⟨[], rfl, hI⟩)
 ·obtain ⟨y, rfl, I⟩ := hR
  have hk' : (k : Int) < c.outs.length := by omega
  have hk1 : ((k + 1 : Nat) : Int) = (k : Int) + 1 := by omega
  have hnk : ((n + k : Nat) : Int) = (n : Int) + k := by omega
  have g0 := I.g0; have gb := I.go; have gt := I.gt; have o0 := I.o0; have t0 := I.t0; have ne := I.ne; have hw := I.wf
  have hbo := hw _ _ gb
  have h00 := hw _ _ g0
  have hto := hw _ _ gt
  have n1 : ¬ 0 = ob := fun e => o0 e.symm
  have n2 : ¬ 0 = tb := fun e => t0 e.symm
  have n3 : ¬ tb = ob := fun e => ne e.symm
  rw [z_bi, hn] at g0
  simp only [iBlk] at gb gt
  have hlen : (fillO c n l k).length = n + c.ops.length := by rw [z_g0, hl]
  obtain ⟨A, hA, hA2⟩ : ∃ A : Nat, ati c.outs k = A ∧ A < n + c.ops.length := ⟨(ati c.outs k).toNat, by have := ho k hk; omega, by have := ho k hk; omega⟩
  unfold slFr
  rw [fillO, hA, hk1, Int.toNat_natCast, hnk]
  generalize fillO c n l k = l1 at *
  generalize lastM c n = E at *
  refine ⟨_, _, _, by simp -implicitDefEqProofs +contextual (disch := omega) [z_bh.l1, g0, gb, hk', hk, hlen, hA, hA2]; first | rfl | exact ⟨rfl, rfl⟩ | exact ⟨rfl, rfl, rfl⟩, .inl ⟨rfl, _, rfl, ?_, ?_, o0, t0, ne, ?_, ?_⟩⟩
  ·(repeat' (first | assumption | with_reducible apply Hp.WF.push | with_reducible apply Hp.WF.set | with_reducible apply z_bl | exact Hp.WF.empty)) <;> (simp <;> omega)
  ·rw [z_bi, hn]; simp (disch := omega) [g0, n1]
  ·simp (disch := omega) [gb, iBlk]
  ·simp (disch := omega) [gt, n3, iBlk]
 ·obtain ⟨y, rfl, I⟩ := hR
  have g0 := I.g0
  rw [z_bi, hn] at g0
  refine ⟨_, _, _, by simp -implicitDefEqProofs +contextual (disch := omega) [z_bh.l1, slFr, g0]; first | rfl | exact ⟨rfl, rfl⟩ | exact ⟨rfl, rfl, rfl⟩, by simp, rfl, I, _, by unfold slFr; rfl⟩
theorem z_yl (c : CodeM) (n : Nat) (t : List Int) (ht : t.length ≤ 1000000000) (i : Nat) (hi : i ≤ 60000) (ob tb : Nat) (v12 : AV) (X : Hp) (gt : X.get tb = some (iBlk t)) {r}
  (hr : aloop slL3 (slFr c n ob tb t.length [(11, .int .i64 i), (12, v12), (13, .int .i64 0)]) X = r) :
  ∃ e fr' X', r = some (e, fr', X') ∧ (e = .exit 6 ∧ X' = X ∧ ∃ y, fr' = slFr c n ob tb t.length ([(11, .int .i64 i), (12, v12), (13, .int .i64 (freeK t i : Nat))] ++ y)) := by
 simp only [iBlk] at gt
 have hK : freeK t i ≤ t.length := List.findIdx_le_length
 refine z_ev hr (z_ct (freeK t i) (fun k fr H => H = X ∧ ∃ y, fr = slFr c n ob tb t.length ([(11, .int .i64 i), (12, v12), (13, .int .i64 k)] ++ y)) _ (fun k hk fr H hR => ?_) (fun fr H hR => ?_) ⟨rfl, [], rfl⟩)
 ·obtain ⟨rfl, y, rfl⟩ := hR
  have hkl : k < t.length := by omega
  have hkl' : (k : Int) < t.length := by omega
  have hk1 : ((k + 1 : Nat) : Int) = (k : Int) + 1 := by omega
  have h1 := List.not_of_lt_findIdx hk
  simp only [decide_eq_false_iff_not] at h1
  rw [← z_i9 t k hkl] at h1
  have h2 : (i : Int) ≤ ati t k := by omega
  rw [hk1]
  unfold slFr
  refine ⟨_, _, _, by simp -implicitDefEqProofs +contextual (disch := omega) [z_bh.l3, gt, hkl, hkl', h2]; first | rfl | exact ⟨rfl, rfl⟩ | exact ⟨rfl, rfl, rfl⟩, .inl ⟨rfl, rfl, _, rfl⟩⟩
 ·obtain ⟨rfl, y, rfl⟩ := hR
  by_cases hlt : freeK t i < t.length
  ·have hlt' : ((freeK t i : Nat) : Int) < t.length := by omega
   have h1 : decide (t[freeK t i] < (i : Int)) = true := List.findIdx_getElem (w := hlt)
   rw [← z_i9 t _ hlt] at h1
   simp only [decide_eq_true_eq] at h1
   have h2 : ¬ (i : Int) ≤ ati t (freeK t i) := by omega
   unfold slFr
   generalize freeK t i = K at *
   refine ⟨_, _, _, by simp -implicitDefEqProofs +contextual (disch := omega) [z_bh.l3, gt, hlt, hlt', h2]; first | rfl | exact ⟨rfl, rfl⟩ | exact ⟨rfl, rfl, rfl⟩, by simp, rfl, rfl, _, rfl⟩
  ·have hlt' : ¬ ((freeK t i : Nat) : Int) < t.length := by omega
   unfold slFr
   generalize freeK t i = K at *
   refine ⟨_, _, _, by simp -implicitDefEqProofs +contextual (disch := omega) [z_bh.l3, gt, hlt, hlt']; first | rfl | exact ⟨rfl, rfl⟩ | exact ⟨rfl, rfl, rfl⟩, by simp, rfl, rfl, _, rfl⟩
end Go.Abs
end
section
namespace Go.Abs
theorem z_vo (c : CodeM) (n : Nat) (hn : c.inN = n) (hin : n ≤ 4000) (hop : c.ops.length ≤ 60000) (hb : c.outs.length ≤ 1000000) (i : Nat) (hi : i < c.ops.length) (o t : List Int) (ho : o.length = n + c.ops.length) (ht : t.length ≤ 60000) (ob tb : Nat) (X : Hp) (y : List (Nat × AV)) (I : SlI c X ob tb o t) :
  ∃ tb' X' y', slL2 (slFr c n ob tb t.length ([(11, .int .i64 i)] ++ y)) X = some (.normal, slFr c n ob tb' (stS c n i (o, t)).2.length ([(11, .int .i64 ((i + 1 : Nat) : Int))] ++ y'), X') ∧ SlI c X' ob tb' (stS c n i (o, t)).1 (stS c n i (o, t)).2 := by
 have hi' : (i : Int) < c.ops.length := by omega
 have hi1 : ((i + 1 : Nat) : Int) = (i : Int) + 1 := by omega
 have hnk : ((n + i : Nat) : Int) = (n : Int) + i := by omega
 have g0 := I.g0; have gb := I.go; have gt := I.gt; have o0 := I.o0; have t0 := I.t0; have ne := I.ne; have hw := I.wf
 have hbo := hw _ _ gb
 have h00 := hw _ _ g0
 have hto := hw _ _ gt
 have n1 : ¬ 0 = ob := fun e => o0 e.symm
 have n2 : ¬ 0 = tb := fun e => t0 e.symm
 have n3 : ¬ tb = ob := fun e => ne e.symm
 have gt' := gt
 rw [z_bi, hn] at g0
 simp only [iBlk] at gb gt
 have hEl := z_i6 c n
 have hil : n + i < n + c.ops.length := by omega
 have hil2 : n + i < (lastM c n).length := by omega
 have hOl : (z_d0 c.ops).length = c.ops.length := z_e8 _
 by_cases he : ati (lastM c n) (n + i) = c.ops.length
 ·rw [show stS c n i (o, t) = (o, t) from if_pos he]
  dsimp only
  unfold slFr
  generalize hN : n + i = N at *
  generalize lastM c n = E at *
  refine ⟨tb, ?_, ?_, ?_, ?_⟩
  rotate_left 2
  ·simp -implicitDefEqProofs +contextual (disch := try first | omega | assumption | (simp; done)) [z_bh.l2, g0, gb, gt, hi', hi1, ← hnk, hil2, hOl, he]
   constructor <;> rfl
  ·exact I
 ·rw [show stS c n i (o, t) = _ from if_neg he]
  dsimp only
  have hfree := fun {r} v12 hr => z_yl c n t (by omega) i (by omega) ob tb v12 X gt' (r := r) hr
  have hKl : freeK t i ≤ t.length := List.findIdx_le_length
  unfold slFr at hfree ⊢
  have hF6 : n + c.outs.length ≤ 2000000 := by omega
  generalize freeK t i = K at *
  generalize hN : n + i = N at *
  generalize hE : lastM c n = E at *
  generalize hF : n + c.outs.length = F at *
  have hFK : ((F + K : Nat) : Int) = (F : Int) + K := by omega
  rw [hFK]
  generalize hr2 : slL2 _ X = r2
  simp -implicitDefEqProofs +contextual (disch := omega) [z_bh.l2, g0, gb, gt, hi', hi1, ← hnk, hil2, hOl, he] at hr2
  generalize hr3 : aloop _ _ _ = r3 at hr2
  obtain ⟨e, fr', X', rfl, rfl, rfl, y', rfl⟩ := hfree _ hr3
  by_cases hK : K = t.length
  ·rw [if_pos hK]
   have hK' : (K : Int) = t.length := by omega
   have hset : ∀ v : Int, (ints t ++ [[AV.int .i64 0]]).set t.length [.int .i64 v] = ints (t ++ [v]) := fun v => by
    rw [List.set_append_right _ _ (by simp)]; simp [ints]
   subst hK
   have hget : (ints t ++ [[AV.int .i64 0]])[t.length]? = some [.int .i64 0] := by simp
   have hil3 : N < o.length := by omega
   simp -implicitDefEqProofs +contextual (disch := omega) [g0, gb, gt, n3, hil2, hil3, hset, hget, ho, -getElem?_pos] at hr2
   subst hr2
   refine ⟨_, _, _, by rw [hi1, List.length_append]; rfl, ?_, ?_, o0, ?_, ?_, ?_, ?_⟩
   ·(repeat' (first | assumption | with_reducible apply Hp.WF.push | with_reducible apply Hp.WF.set | with_reducible apply z_bl | exact Hp.WF.empty)) <;> (simp <;> omega)
   ·rw [z_bi, hn]; simp (disch := omega) [g0, n1, n2]
   ·omega
   ·omega
   ·simp (disch := omega) [gb, iBlk]
   ·simp (disch := omega) [iBlk]
  ·rw [if_neg hK]
   have hK' : ¬ (K : Int) = t.length := by omega
   have hKlt : K < t.length := by omega
   have hil3 : N < o.length := by omega
   simp -implicitDefEqProofs +contextual (disch := omega) [g0, gb, gt, n3, hil2, hil3, hK', hKlt, ho] at hr2
   subst hr2
   refine ⟨tb, _, _, by rw [hi1, List.length_set]; rfl, ?_, ?_, o0, t0, ne, ?_, ?_⟩
   ·(repeat' (first | assumption | with_reducible apply Hp.WF.push | with_reducible apply Hp.WF.set | with_reducible apply z_bl | exact Hp.WF.empty)) <;> (simp <;> omega)
   ·rw [z_bi, hn]; simp (disch := omega) [g0, n1, n2]
   ·simp (disch := omega) [gb, iBlk, ne]
   ·simp (disch := omega) [gt, iBlk, n3]
theorem z_yk (c : CodeM) (n : Nat) (hn : c.inN = n) (hin : n ≤ 4000) (hop : c.ops.length ≤ 60000) (hb : c.outs.length ≤ 1000000) (ob tb : Nat) (X : Hp) (hI : SlI c X ob tb (goS c n 0).1 []) {r} (hr : aloop slL2 (slFr c n ob tb 0 [(11, .int .i64 0)]) X = r) :
  ∃ e fr' X', r = some (e, fr', X') ∧ (e = .exit 4 ∧ ∃ tb, SlI c X' ob tb (goS c n c.ops.length).1 (goS c n c.ops.length).2 ∧ ∃ y, fr' = slFr c n ob tb (goS c n c.ops.length).2.length y) := by
 refine z_ev hr (z_ct c.ops.length (fun k fr H => ∃ y tb, fr = slFr c n ob tb (goS c n k).2.length ([(11, .int .i64 k)] ++ y) ∧ SlI c H ob tb (goS c n k).1 (goS c n k).2) _ (fun k hk fr H hR => ?_) (fun fr H hR => ?_) ⟨[], tb, rfl, hI⟩)
 ·obtain ⟨y, tb, rfl, I⟩ := hR
  have hl := z_gz c n k
  obtain ⟨tb', X', y', s1, s2⟩ := z_vo c n hn hin hop hb k hk _ _ hl.1 (by omega) ob tb H y I
  exact ⟨_, _, _, s1, .inl ⟨rfl, y', tb', rfl, s2⟩⟩
 ·obtain ⟨y, tb, rfl, I⟩ := hR
  have g0 := I.g0
  rw [z_bi, hn] at g0
  refine ⟨_, _, _, by simp -implicitDefEqProofs +contextual (disch := omega) [z_bh.l2, slFr, g0]; first | rfl | exact ⟨rfl, rfl⟩ | exact ⟨rfl, rfl, rfl⟩, by simp, rfl, tb, I, _, by unfold slFr; rfl⟩
def z_er (c : CodeM) : List Int := (goS c c.inN.toNat c.ops.length).1
def z_dq (c : CodeM) : Nat := c.inN.toNat + c.outs.length + (goS c c.inN.toNat c.ops.length).2.length
theorem z_f4 (c : CodeM) (h : layOk c = true) : c.can = true := by
 unfold layOk at h; split at h
 ·exact h
 ·cases h
theorem z_w5 (c : CodeM) (hb : c.outs.length ≤ 1000000) (hlay : layOk c = true) (hw : z_dq c ≤ 16000) :
  z_bh.spec [.agg c.cells] = some (.tup [.rsl 1 (ints (z_er c)), .int .i64 (z_dq c : Nat), .int .i64 0]) := by
 have hcan := z_f4 c hlay
 have hcan' := hcan
 unfold CodeM.can at hcan'
 simp only [Bool.and_eq_true, decide_eq_true_eq] at hcan'
 obtain ⟨⟨⟨⟨q1, q2⟩, q3⟩, q4⟩, q5⟩ := hcan'
 obtain ⟨n, hn⟩ : ∃ n : Nat, c.inN = n := ⟨c.inN.toNat, by omega⟩
 have hC := z_tc c (by omega) (by omega)
 rw [hlay] at hC
 have hL := z_0p c (by omega) n hn hcan
 have hcb := z_bi c
 have ho := z_o9 c hcan
 unfold z_er z_dq at *
 rw [hn] at hcb ho hw ⊢
 rw [Int.toNat_natCast] at *
 unfold CodeM.cells at *
 rw [hn] at hC hL ⊢
 have hF : ((n + c.outs.length : Nat) : Int) = (n : Int) + c.outs.length := by omega
 have hnN : ((n : Int) + c.ops.length).toNat = n + c.ops.length := by omega
 have hrep : List.replicate (n + c.ops.length) [AV.int .i64 0] = ints (fillI (n + c.ops.length) 0) := by rw [z_wg]; rfl
 simp -implicitDefEqProofs +contextual (disch := omega) [z_bh.spec, z_bh, hC, hL, hnN, hrep]
 generalize hr : aloop _ _ _ = r
 have h1 := fun hI => sl_in c n hn (by omega) q3 1 2 _ hI (r := r) (by rw [slFr, hF]; exact hr)
 obtain ⟨e, fr', X1, rfl, rfl, I1, y1, rfl⟩ := h1 ⟨by (repeat' (first | assumption | with_reducible apply Hp.WF.push | with_reducible apply Hp.WF.set | with_reducible apply z_bl | exact Hp.WF.empty)) <;> (simp <;> omega), by simp [hcb], by omega, by omega, by omega, by simp [iBlk], by simp [iBlk, ints]⟩
 clear h1
 clear hr
 unfold slFr
 rw [hF]
 simp -implicitDefEqProofs +contextual (disch := omega) []
 generalize hr : aloop _ _ _ = r
 obtain ⟨e, fr', X2, rfl, rfl, I2, y2, rfl⟩ := sl_out c n hn (by omega) q3 (by omega) (fun k hk => by have := ho k hk; omega) _ (z_fr _ _) 1 2 X1 I1 (r := r) (by rw [slFr, hF]; exact hr)
 clear hr
 unfold slFr
 rw [hF]
 simp -implicitDefEqProofs +contextual (disch := omega) []
 generalize hr : aloop _ _ _ = r
 obtain ⟨e, fr', X3, rfl, rfl, tb, I3, y3, rfl⟩ := z_yk c n hn (by omega) q3 hb 1 2 X2 I2 (r := r) (by rw [slFr, hF]; exact hr)
 clear hr
 unfold slFr
 rw [hF]
 have hgl := z_gz c n c.ops.length
 have g0 := I3.g0; have gb := I3.go; have gt := I3.gt
 rw [hcb] at g0
 simp only [iBlk] at gb gt
 have hw' : (n : Int) + c.outs.length + ((goS c n c.ops.length).2.length : Nat) ≤ 16000 := by omega
 have hws : ((n + c.outs.length + (goS c n c.ops.length).2.length : Nat) : Int) = (n : Int) + c.outs.length + ((goS c n c.ops.length).2.length : Nat) := by omega
 have hall : List.take (n + c.ops.length) (ints (goS c n c.ops.length).1) = ints (goS c n c.ops.length).1 := List.take_of_length_le (by simp [hgl.1])
 obtain ⟨hg1, hg2⟩ := hgl
 generalize (goS c n c.ops.length).1 = o at *
 generalize (goS c n c.ops.length).2 = t at *
 simp -implicitDefEqProofs +contextual (disch := omega) [g0, gb, gt, hall, hg1]
end Go.Abs
end
end
section
section
namespace Go.Abs
theorem z_em (l : List Int) (k : Nat) (v : Int) (j : Nat) : ati (l.set k v) j = if k = j ∧ j < l.length then v else ati l j := by
 unfold ati
 rw [List.getD_eq_getElem?_getD, List.getD_eq_getElem?_getD, List.getElem?_set]
 by_cases h : k = j
 ·subst h
  by_cases h2 : k < l.length
  ·simp [h2]
  ·simp [h2]
 ·simp [h]
theorem z_n3 (l : List Int) (v : Int) (j : Nat) : ati (l ++ [v]) j = if j = l.length then v else ati l j := by
 unfold ati
 rw [List.getD_eq_getElem?_getD, List.getD_eq_getElem?_getD]
 by_cases h : j < l.length
 ·rw [List.getElem?_append_left h, if_neg (by omega)]
 ·by_cases e : j = l.length
  ·subst e; simp
  ·rw [if_neg e, List.getElem?_eq_none (by simp; omega), List.getElem?_eq_none (by omega)]
theorem z_um (n m j : Nat) (h : j < m) : ati (lastI n m) j = if j < n then (-1 : Int) else (j : Int) - n := by
 unfold ati lastI
 rw [List.getD_eq_getElem?_getD, List.getElem?_map, List.getElem?_range h]
 rfl
def z_mw (o : OpM) (y : Nat) : Prop := (0 < z_a7 o.k ∧ o.a.toNat = y) ∨ (1 < z_a7 o.k ∧ o.b.toNat = y)
theorem z_le (o : OpM) (i : Nat) (l : List Int) (j : Nat) (hj : j < l.length) : ati (z_j4 o i l) j = i ∧ z_mw o j ∨ ati (z_j4 o i l) j = ati l j ∧ ¬ z_mw o j := by
 unfold z_j4 z_mw
 by_cases h1 : z_a7 o.k ≤ 0
 ·rw [if_pos h1]; exact .inr ⟨rfl, by omega⟩
 ·rw [if_neg h1]
  by_cases h2 : z_a7 o.k ≤ 1
  ·rw [if_pos h2, z_em]
   by_cases e : o.a.toNat = j
   ·rw [if_pos ⟨e, hj⟩]; exact .inl ⟨rfl, .inl ⟨by omega, e⟩⟩
   ·rw [if_neg (fun q => e q.1)]; exact .inr ⟨rfl, by omega⟩
  ·rw [if_neg h2, z_em, z_em, List.length_set]
   by_cases e : o.b.toNat = j
   ·rw [if_pos ⟨e, hj⟩]; exact .inl ⟨rfl, .inr ⟨by omega, e⟩⟩
   ·rw [if_neg (fun q => e q.1)]
    by_cases e : o.a.toNat = j
    ·rw [if_pos ⟨e, hj⟩]; exact .inl ⟨rfl, .inl ⟨by omega, e⟩⟩
    ·rw [if_neg (fun q => e q.1)]; exact .inr ⟨rfl, by omega⟩
theorem z_i5 (c : CodeM) (l : List Int) (i j : Nat) (hj : j < l.length) (h : z_mw (c.ops.getD i opZ4) j) : ∀ k, i < k → (i : Int) ≤ ati (z_e6 c l k) j
 | 0, h0 => by omega
 | k + 1, h1 => by
  rw [z_e6]
  rcases z_le (c.ops.getD k opZ4) k (z_e6 c l k) j (by rw [z_e9]; exact hj) with ⟨q, _⟩ | ⟨q, q2⟩
  ·rw [q]; omega
  ·rw [q]
   by_cases e : i = k
   ·subst e; exact (q2 h).elim
   ·exact z_i5 c l i j hj h k (by omega)
theorem z_np (c : CodeM) (l : List Int) (m : Int) (j : Nat) (hj : j < l.length) (h : ati l j < m) : ∀ k : Nat, (k : Int) ≤ m → ati (z_e6 c l k) j < m
 | 0, _ => h
 | k + 1, h1 => by
  rw [z_e6]
  rcases z_le (c.ops.getD k opZ4) k (z_e6 c l k) j (by rw [z_e9]; exact hj) with ⟨q, _⟩ | ⟨q, q2⟩
  ·rw [q]; omega
  ·rw [q]; exact z_np c l m j hj h k (by omega)
theorem z_gh (c : CodeM) (l : List Int) (j : Nat) (hj : j < l.length) : ∀ k, ((∃ i, i < k ∧ (ati c.outs i).toNat = j) → ati (z_ex c l k) j = c.ops.length) ∧ ((¬ ∃ i, i < k ∧ (ati c.outs i).toNat = j) → ati (z_ex c l k) j = ati l j)
 | 0 => ⟨fun ⟨i, h, _⟩ => by omega, fun _ => rfl⟩
 | k + 1 => by
  have ih := z_gh c l j hj k
  rw [z_ex, z_em, z_fw]
  by_cases e : (ati c.outs k).toNat = j
  ·rw [if_pos ⟨e, hj⟩]
   exact ⟨fun _ => rfl, fun h => (h ⟨k, by omega, e⟩).elim⟩
  ·rw [if_neg (fun q => e q.1)]
   refine ⟨fun ⟨i, h1, h2⟩ => ih.1 ⟨i, ?_, h2⟩, fun h => ih.2 fun ⟨i, h1, h2⟩ => h ⟨i, by omega, h2⟩⟩
   have : i ≠ k := fun q => e (q ▸ h2)
   omega
def isOut (c : CodeM) (y : Nat) : Prop := ∃ i, i < c.outs.length ∧ (ati c.outs i).toNat = y
theorem z_l4 (c : CodeM) (n j : Nat) (hj : j < n + c.ops.length) (h : isOut c j) : ati (lastM c n) j = c.ops.length :=
 (z_gh c _ j (by simpa using hj) _).1 h
theorem z_y4 (c : CodeM) (n i : Nat) (hi : i < c.ops.length) (h : ¬ isOut c (n + i)) : ati (lastM c n) (n + i) < c.ops.length := by
 unfold lastM
 rw [(z_gh c _ (n + i) (by simp; omega) _).2 h]
 refine z_np c _ _ _ (by simp; omega) ?_ _ (Int.le_refl _)
 rw [z_um _ _ _ (by omega), if_neg (by omega)]
 omega
theorem z_rb (c : CodeM) (n i j : Nat) (hi : i < c.ops.length) (hj : j < n + c.ops.length) (h : z_mw (c.ops.getD i opZ4) j) : (i : Int) ≤ ati (lastM c n) j := by
 by_cases ho : isOut c j
 ·rw [z_l4 c n j hj ho]; omega
 ·unfold lastM
  rw [(z_gh c _ j (by simp; omega) _).2 ho]
  exact z_i5 c _ i j (by simp; omega) h _ hi
theorem z_nw (m : Nat) : ∀ k j, j < m → ati (fillI m k) j = if j < k then (j : Int) else 0
 | 0, j, h => by rw [fillI, if_neg (by omega)]; simp [ati, List.getD_eq_getElem?_getD, h]
 | k + 1, j, h => by
  rw [fillI, z_em, z_fr, z_nw m k j h]
  by_cases e : k = j
  ·subst e; rw [if_pos ⟨rfl, h⟩, if_pos (by omega)]
  ·rw [if_neg (fun q => e q.1)]
   by_cases h2 : j < k
   ·rw [if_pos h2, if_pos (by omega)]
   ·rw [if_neg h2, if_neg (by omega)]
theorem z_qh (c : CodeM) (n : Nat) (l : List Int) (j : Nat) (h : ¬ isOut c j) : ∀ k, k ≤ c.outs.length → ati (fillO c n l k) j = ati l j
 | 0, _ => rfl
 | k + 1, hk => by
  rw [fillO, z_em, if_neg (fun q => h ⟨k, by omega, q.1⟩)]
  exact z_qh c n l j h k (by omega)
theorem z_ti (c : CodeM) (hlay : ∀ i, i < c.outs.length → outOk c i) (hn : 0 ≤ c.inN) (i j : Nat) (hi : i < c.outs.length) (hj : j < c.outs.length) (h : (ati c.outs i).toNat = (ati c.outs j).toNat) : i = j := by
 have h1 := (hlay i hi).2
 have h2 := (hlay j hj).2
 have h3 : ati c.outs i = ati c.outs j := by omega
 by_cases e : i = j
 ·exact e
 ·by_cases q : i < j
  ·exact ((hlay j hj).1 ⟨i, q, h3⟩).elim
  ·exact ((hlay i hi).1 ⟨j, by omega, h3.symm⟩).elim
theorem z_nv (c : CodeM) (n : Nat) (hlay : ∀ i, i < c.outs.length → outOk c i) (hn : 0 ≤ c.inN) (l : List Int) (i : Nat) (hi : i < c.outs.length) (hl : (ati c.outs i).toNat < l.length) : ∀ k, k ≤ c.outs.length → i < k → ati (fillO c n l k) (ati c.outs i).toNat = ((n + i : Nat) : Int)
 | 0, _, h => by omega
 | k + 1, hk, h => by
  rw [fillO, z_em, z_g0]
  by_cases e : i = k
  ·subst e; rw [if_pos ⟨rfl, hl⟩]
  ·rw [if_neg (fun q => e (z_ti c hlay hn k i (by omega) hi q.1).symm)]
   exact z_nv c n hlay hn l i hi hl k (by omega) (by omega)
end Go.Abs
end
section
namespace Go.Abs
theorem stS_1 (c : CodeM) (n i : Nat) (s : List Int × List Int) (hl : s.1.length = n + c.ops.length) (hi : i < c.ops.length) (y : Nat) : ati (stS c n i s).1 y = if y = n + i ∧ ati (lastM c n) (n + i) ≠ c.ops.length then ((n + c.outs.length + freeK s.2 i : Nat) : Int) else ati s.1 y := by
 unfold stS
 by_cases h : ati (lastM c n) (n + i) = c.ops.length
 ·rw [if_pos h, if_neg (fun q => q.2 h)]
 ·rw [if_neg h]
  dsimp only
  rw [z_em]
  by_cases e : y = n + i
  ·subst e; rw [if_pos ⟨rfl, by omega⟩, if_pos ⟨rfl, h⟩]
  ·rw [if_neg (fun q => e q.1.symm), if_neg (fun q => e q.1)]
theorem z_h4 (c : CodeM) (n : Nat) (y i : Nat) (h : y < n + i ∨ ati (lastM c n) y = c.ops.length) : ∀ k, i ≤ k → k ≤ c.ops.length → ati (goS c n k).1 y = ati (goS c n i).1 y
 | 0, h1, _ => by rw [show i = 0 by omega]
 | k + 1, h1, h2 => by
  by_cases e : i = k + 1
  ·rw [e]
  ·rw [goS, stS_1 c n k _ (z_gz c n k).1 (by omega), if_neg, z_h4 c n y i h k (by omega) (by omega)]
   rintro ⟨q1, q2⟩
   rcases h with h | h
   ·omega
   ·rw [q1] at h; exact q2 h
theorem z_zg (c : CodeM) (hlay : ∀ i, i < c.outs.length → outOk c i) (n : Nat) (hn : c.inN = n) (i : Nat) (hi : i < c.outs.length) (hl : ati c.outs i < n + c.ops.length) (k : Nat) (hk : k ≤ c.ops.length) : ati (goS c n k).1 (ati c.outs i).toNat = ((n + i : Nat) : Int) := by
 have h2 := (hlay i hi).2
 have hlt : (ati c.outs i).toNat < n + c.ops.length := by omega
 rw [z_h4 c n _ 0 (.inr (z_l4 c n _ hlt ⟨i, hi, rfl⟩)) k (Nat.zero_le _) hk]
 exact z_nv c n hlay (by omega) _ i hi (by simpa using hlt) _ (Nat.le_refl _) hi
theorem z_tu (c : CodeM) (hlay : ∀ i, i < c.outs.length → outOk c i) (n : Nat) (hn : c.inN = n) (y : Nat) (hy : y < n) (k : Nat) (hk : k ≤ c.ops.length) : ati (goS c n k).1 y = y := by
 rw [z_h4 c n y 0 (.inl (by omega)) k (Nat.zero_le _) hk, goS, z_qh c n _ y (fun ⟨i, h1, h2⟩ => by have := (hlay i h1).2; omega) _ (Nat.le_refl _), z_nw _ _ _ (by omega), if_pos hy]
theorem z_l8 (c : CodeM) (n : Nat) : ∀ k, k ≤ c.ops.length → ∀ y, n ≤ y → y < n + k → ati (lastM c n) y ≠ c.ops.length → ∃ j, j < (goS c n k).2.length ∧ ati (goS c n k).1 y = ((n + c.outs.length + j : Nat) : Int) ∧ (ati (lastM c n) y ≤ ati (goS c n k).2 j ∨ (ati (lastM c n) y < k))
 | 0, _, y, h1, h2, _ => by omega
 | k + 1, hk, y, h1, h2, h3 => by
  have hl := z_gz c n k
  have ih := z_l8 c n k (by omega)
  rw [goS]
  by_cases e : y = n + k
  ·subst e
   unfold stS
   rw [if_neg h3]
   dsimp only
   have hf : freeK (goS c n k).2 k ≤ (goS c n k).2.length := List.findIdx_le_length
   by_cases hK : freeK (goS c n k).2 k = (goS c n k).2.length
   ·rw [if_pos hK]
    refine ⟨freeK (goS c n k).2 k, by simp; omega, by rw [z_em, if_pos ⟨rfl, by omega⟩], .inl ?_⟩
    rw [z_n3, if_pos hK]; exact Int.le_refl _
   ·rw [if_neg hK]
    refine ⟨freeK (goS c n k).2 k, by simp; omega, by rw [z_em, if_pos ⟨rfl, by omega⟩], .inl ?_⟩
    rw [z_em, if_pos ⟨rfl, by omega⟩]; exact Int.le_refl _
  ·obtain ⟨j, j1, j2, j3⟩ := ih y h1 (by omega) h3
   have hs := stS_1 c n k (goS c n k) hl.1 (by omega) y
   rw [if_neg (fun q => e q.1)] at hs
   refine ⟨j, ?_, by rw [hs]; exact j2, ?_⟩
   ·unfold stS
    split
    ·exact j1
    ·dsimp only; split <;> simp <;> omega
   ·rcases j3 with j3 | j3
    ·unfold stS
     by_cases hq : ati (lastM c n) (n + k) = c.ops.length
     ·rw [if_pos hq]; exact .inl j3
     ·rw [if_neg hq]
      dsimp only
      by_cases hK : freeK (goS c n k).2 k = (goS c n k).2.length
      ·rw [if_pos hK, z_n3, if_neg (by omega)]; exact .inl j3
      ·rw [if_neg hK, z_em]
       by_cases hj : freeK (goS c n k).2 k = j
       ·have hf : freeK (goS c n k).2 k < (goS c n k).2.length := by omega
        have h1 : decide ((goS c n k).2[freeK (goS c n k).2 k] < (k : Int)) = true := List.findIdx_getElem (w := hf)
        simp only [decide_eq_true_eq] at h1
        rw [← z_i9 _ _ hf, hj] at h1
        right; omega
       ·rw [if_neg (fun q => hj q.1)]; exact .inl j3
    ·right; omega
structure SlotsOk (c : CodeM) (n : Nat) : Prop where
 len : (z_er c).length = n + c.ops.length
 inp : ∀ y, y < n → ati (z_er c) y = y
 out : ∀ j, j < c.outs.length → ati (z_er c) (ati c.outs j).toNat = ((n + j : Nat) : Int)
 low : ∀ y, y < n + c.ops.length → 0 ≤ ati (z_er c) y ∧ ati (z_er c) y < z_dq c
 ne : ∀ i, i < c.ops.length → ∀ y, y < n + i → (i : Int) ≤ ati (lastM c n) y ∨ y < n → ati (z_er c) y ≠ ati (z_er c) (n + i)
theorem z_ra (c : CodeM) (h : layOk c = true) : ∀ i, i < c.outs.length → outOk c i := by
 unfold layOk at h; split at h
 ·assumption
 ·cases h
theorem z_jm (c : CodeM) (hl : layOk c = true) (n : Nat) (hn : c.inN = n) : SlotsOk c n := by
 have hlay := z_ra c hl
 have hcan := z_f4 c hl
 have ho := z_o9 c hcan
 have hS : z_er c = (goS c n c.ops.length).1 := by unfold z_er; rw [hn, Int.toNat_natCast]
 have hW : z_dq c = n + c.outs.length + (goS c n c.ops.length).2.length := by unfold z_dq; rw [hn, Int.toNat_natCast]
 have hgl := z_gz c n c.ops.length
 have hout : ∀ j, j < c.outs.length → ∀ k, k ≤ c.ops.length → ati (goS c n k).1 (ati c.outs j).toNat = ((n + j : Nat) : Int) := fun j hj k hk => z_zg c hlay n hn j hj (by have := ho j hj; omega) k hk
 have hkind : ∀ i, i < c.ops.length → (∃ j, j < c.outs.length ∧ (ati c.outs j).toNat = n + i ∧ ati (lastM c n) (n + i) = c.ops.length ∧ ati (goS c n c.ops.length).1 (n + i) = ((n + j : Nat) : Int)) ∨
   (ati (lastM c n) (n + i) ≠ c.ops.length ∧ ati (goS c n c.ops.length).1 (n + i) = ((n + c.outs.length + freeK (goS c n i).2 i : Nat) : Int)) := by
  intro i hi
  by_cases h : isOut c (n + i)
  ·obtain ⟨j, hj, hj2⟩ := h
   refine .inl ⟨j, hj, hj2, z_l4 c n _ (by omega) ⟨j, hj, hj2⟩, ?_⟩
   rw [← hj2]; exact hout j hj _ (Nat.le_refl _)
  ·have hlt := z_y4 c n i hi h
   refine .inr ⟨by omega, ?_⟩
   rw [z_h4 c n (n + i) (i + 1) (.inl (by omega)) _ (by omega) (Nat.le_refl _), goS, stS_1 c n i _ (z_gz c n i).1 hi, if_pos ⟨rfl, by omega⟩]
 refine ⟨by rw [hS]; exact hgl.1, fun y hy => by rw [hS]; exact z_tu c hlay n hn y hy _ (Nat.le_refl _), fun j hj => by rw [hS]; exact hout j hj _ (Nat.le_refl _), fun y hy => ?_, fun i hi y hy hne => ?_⟩
 ·rw [hS, hW]
  by_cases hyn : y < n
  ·rw [z_tu c hlay n hn y hyn _ (Nat.le_refl _)]; omega
  ·obtain ⟨i, rfl⟩ : ∃ i, y = n + i := ⟨y - n, by omega⟩
   rcases hkind i (by omega) with ⟨j, h1, h2, h3, h4⟩ | ⟨h1, h2⟩
   ·rw [h4]; omega
   ·obtain ⟨j, j1, j2, _⟩ := z_l8 c n c.ops.length (Nat.le_refl _) (n + i) (by omega) hy h1
    rw [j2]; omega
 ·rw [hS]
  by_cases hyn : y < n
  ·rw [z_tu c hlay n hn y hyn _ (Nat.le_refl _)]
   rcases hkind i hi with ⟨j, h1, h2, h3, h4⟩ | ⟨h1, h2⟩
   ·rw [h4]; omega
   ·rw [h2]; omega
  ·have hne' : (i : Int) ≤ ati (lastM c n) y := by omega
   obtain ⟨i2, rfl⟩ : ∃ i2, y = n + i2 := ⟨y - n, by omega⟩
   rcases hkind i2 (by omega) with ⟨j, h1, h2, h3, h4⟩ | ⟨h1, h2⟩
   ·rcases hkind i hi with ⟨j', h1', h2', h3', h4'⟩ | ⟨h1', h2'⟩
    ·rw [h4, h4']
     intro e
     have : j = j' := by omega
     subst this
     omega
    ·rw [h4, h2']; omega
   ·have hm := z_l8 c n i (by omega) (n + i2) (by omega) (by omega) h1
    obtain ⟨j, j1, j2, j3⟩ := hm
    rw [z_h4 c n (n + i2) i (.inl (by omega)) _ (by omega) (Nat.le_refl _), j2]
    rcases hkind i hi with ⟨j', h1', h2', h3', h4'⟩ | ⟨h1', h2'⟩
    ·rw [h4']; omega
    ·rw [h2']
     intro e
     have hjk : j = freeK (goS c n i).2 i := by omega
     have hw : freeK (goS c n i).2 i < (goS c n i).2.length := by omega
     have hd : decide ((goS c n i).2[freeK (goS c n i).2 i]'hw < (i : Int)) = true := List.findIdx_getElem (w := hw)
     simp only [decide_eq_true_eq] at hd
     rw [← z_i9 _ _ (by omega), ← hjk] at hd
     omega
end Go.Abs
end
end
section
section
namespace Go.Abs
open Th
theorem byteI_eq (v : BitVec 32) (j : Nat) : byteI v j = v.toNat / 2 ^ (24 - 8 * j) % 256 := by
 unfold byteI
 rw [BitVec.toNat_and, BitVec.toNat_ushiftRight, Nat.shiftRight_eq_div_pow, show (255#32).toNat = 2 ^ 8 - 1 from rfl, Nat.and_two_pow_sub_one_eq_mod]
end Go.Abs
end
section
end
section
namespace Go.Abs
open Th
def numT (o : OpM) : Bool := decide (o.k = 7) || decide (o.n = 0#32) || decide (4 ≤ o.k ∧ o.k ≤ 6) && decide (o.n < 32#32)
def fitsR (o : OpM) (dst : Int) (src : List Int) : Bool := decide (0 ≤ o.k ∧ o.k ≤ 8) && decide ((src.length : Int) = z_a7 o.k) && z_cu dst && !(src.any fun n => !z_cu n) && numT o
theorem z_qg (o : OpM) (dst : Int) (src : List Int) : fitsI o dst src = fitsR o dst src := by
 unfold fitsI fitsR
 by_cases hk : 0 ≤ o.k ∧ o.k ≤ 8
 ·have ht : z_de o.k = z_a7 o.k := by
   unfold z_de z_a7
   repeat' split
   all_goals omega
  have hc : (oneC o).can = numT o := by
   have h9 : o.k < 9 := by omega
   have hw : ∀ b, wireM 0 1 b = true := by intro b; cases b <;> rfl
   simp [oneC, CodeM.can, opsOk, OpM.ok, hk.1, h9, hw, z_ge, numT]
   by_cases h7 : o.k = 7
   ·simp [h7]
   ·by_cases h4 : o.k = 4 ∨ o.k = 5 ∨ o.k = 6
    ·have h46 : 4 ≤ o.k ∧ o.k ≤ 6 := by omega
     simp [h7, h4, h46, BitVec.lt_def]
     intro e; rw [e]; decide
    ·have h46 : ¬ (4 ≤ o.k ∧ o.k ≤ 6) := by omega
     simp [h7, h4, h46]
  rw [hc, ht, decide_eq_true hk]
  generalize numT o = a
  generalize decide ((src.length : Int) = z_a7 o.k) = b
  generalize z_cu dst = c
  generalize (!(src.any fun n => !z_cu n)) = d
  cases a <;> cases b <;> cases c <;> cases d <;> rfl
 ·have hc : (oneC o).can = false := by
   have : ¬ (0 ≤ o.k ∧ o.k < 9) := by omega
   simp [oneC, CodeM.can, opsOk, OpM.ok]
   intro h1 h2; omega
  rw [hc, decide_eq_false hk]; simp
end Go.Abs
end
section
namespace Go.Abs
open Th
theorem z_lg (o : OpM) (dst : Int) (src : List Int) (h : fitsI o dst src = true) : (0 ≤ o.k ∧ o.k ≤ 8) ∧ (src.length : Int) = z_a7 o.k ∧ (0 ≤ dst ∧ dst ≤ 16000) ∧ (src.any fun n => !z_cu n) = false ∧ numOk o := by
 rw [z_qg] at h
 unfold fitsR at h
 simp only [Bool.and_eq_true, decide_eq_true_eq, Bool.not_eq_true'] at h
 obtain ⟨⟨⟨⟨h1, h2⟩, h3⟩, h4⟩, h5⟩ := h
 refine ⟨h1, h2, ?_, h4, fun hk => ?_⟩
 ·simp [z_cu] at h3; exact h3
 ·simp only [numT, Bool.or_eq_true, Bool.and_eq_true, decide_eq_true_eq] at h5
  rcases h5 with (h5 | h5) | ⟨_, h5⟩
  ·omega
  ·rw [h5]; decide
  ·rw [BitVec.lt_def] at h5; exact h5
end Go.Abs
end
end
section
namespace Go.Abs
open Th
theorem z_t0 (o : OpM) (w : Int) (h : o.ok w = true) (m : List Nat) (hm : ∀ x ∈ m, x ≤ 16000) (dst : Nat) (hd : dst ≤ 16000) : fitsI o dst ((srcI m o).map fun x : Nat => (x : Int)) = true := by
 rw [z_qg]
 unfold OpM.ok at h
 simp only [Bool.and_eq_true, decide_eq_true_eq] at h
 obtain ⟨⟨⟨⟨q1, q2⟩, q3⟩, _⟩, _⟩ := h
 unfold fitsR
 have hs := z_os m hm o
 have e1 : z_a7 o.k = z_de o.k := by unfold z_a7 z_de; repeat' split <;> omega
 have e2 : ((srcI m o).length : Int) = z_de o.k := by
  have h0 : 0 ≤ z_de o.k := by unfold z_de; repeat' split <;> omega
  have h2 := z_js o.k
  unfold srcI
  split <;> split <;> simp <;> omega
 simp only [Bool.and_eq_true, decide_eq_true_eq, Bool.not_eq_true']
 refine ⟨⟨⟨⟨⟨q1, by omega⟩, ?_⟩, ?_⟩, ?_⟩, ?_⟩
 ·rw [List.length_map, e1]; exact e2
 ·simp [z_cu]; omega
 ·rw [List.any_eq_false]
  intro x hx
  obtain ⟨y, hy, rfl⟩ := List.mem_map.1 hx
  have := hs y hy
  simp [z_cu]; omega
 ·unfold z_ge at q3
  simp only [numT, Bool.or_eq_true, Bool.and_eq_true, decide_eq_true_eq]
  split at q3
  ·left; left; assumption
  ·split at q3
   ·right
    simp only [decide_eq_true_eq] at q3
    refine ⟨by omega, ?_⟩
    rw [BitVec.lt_def]; exact q3
   ·left; right; simpa using q3
end Go.Abs
end
section
namespace Go.Abs
open Th
def fewM (c : CodeM) : Bool := decide (c.ops.length ≤ 120) && decide (c.outs.length ≤ 100) && decide (c.inN ≤ 200)
theorem few_eq (c : CodeM) : z_c6.spec [.agg c.cells] = some (.bool (fewM c)) := by
 unfold CodeM.cells fewM
 by_cases h1 : c.ops.length ≤ 120
 ·have h1' : (c.ops.length : Int) ≤ 120 := by omega
  by_cases h2 : c.outs.length ≤ 100
  ·have h2' : (c.outs.length : Int) ≤ 100 := by omega
   by_cases h3 : c.inN ≤ 200 <;> simp -implicitDefEqProofs +contextual (disch := omega) [z_c6.spec, z_c6, h1, h1', h2, h2', h3]
  ·have h2' : ¬ (c.outs.length : Int) ≤ 100 := by omega
   simp -implicitDefEqProofs +contextual (disch := omega) [z_c6.spec, z_c6, h1, h1', h2, h2']
 ·have h1' : ¬ (c.ops.length : Int) ≤ 120 := by omega
  simp -implicitDefEqProofs +contextual (disch := omega) [z_c6.spec, z_c6, h1, h1']
end Go.Abs
end
section
section
namespace Go.Abs
open Th
theorem z_xw (i : InsM) (h : usedI i) (s : StM) (m : MemM) (he : (doM i s m).e = 0) : (doM i s m).s.pc = s.pc + 2#32 ∧ (doM i s m).stop = false := by
 obtain ⟨op, D, N, M, imm⟩ := i
 obtain ⟨h1, h2⟩ := h
 dsimp only at h1
 unfold doM at he ⊢
 dsimp only at he ⊢
 rcases h1 with rfl | rfl | rfl | rfl | ⟨rfl, _⟩ | rfl | rfl | rfl
 ·exact ⟨rfl, rfl⟩
 ·exact ⟨rfl, rfl⟩
 ·exact ⟨rfl, rfl⟩
 ·exact ⟨rfl, rfl⟩
 ·exact ⟨rfl, rfl⟩
 ·simp only [show (12 : Int).toNat = 12 from rfl] at he ⊢
  split at he
  ·rename_i q; rw [if_pos q]; exact ⟨rfl, rfl⟩
  ·rename_i q; exact (q he).elim
 ·simp only [show (14 : Int).toNat = 14 from rfl] at he ⊢
  split at he
  ·rename_i q; rw [if_pos q]; exact ⟨rfl, rfl⟩
  ·rename_i q; exact (q he).elim
 ·simp only [show (15 : Int).toNat = 15 from rfl] at he ⊢
  split at he
  ·rename_i q; rw [if_pos q]; exact ⟨rfl, rfl⟩
  ·rename_i q; exact (q he).elim
theorem z_jl (s : StM) (m : MemM) (p : Nat) (hp : p < m.code.length) (hc : m.code.length ≤ 60000) (hs : s.pc = BitVec.ofNat 32 (2 * p)) (i : InsM) (hi : i.can = true) (ha : at0 m.code p = (putM i).1) : stepM s m = doM i s m := by
 have ht : s.pc.toNat = 2 * p := by rw [hs, BitVec.toNat_ofNat]; omega
 have hf : m.fetch s.pc = ((putM i).1, 0) := by
  unfold MemM.fetch
  rw [if_pos ⟨by apply BitVec.eq_of_toNat_eq; rw [BitVec.toNat_umod, ht]; simp, by rw [ht]; omega⟩, ht, show 2 * p / 2 = p by omega, ha]
 unfold stepM
 rw [hf]
 dsimp only
 rw [if_pos rfl, z_nj hi]
 exact if_pos rfl
def Lie (C : List (BitVec 16)) (p : Nat) (l : List InsM) : Prop := p + l.length ≤ C.length ∧ ∀ k (h : k < l.length), at0 C (p + k) = (putM l[k]).1
theorem z_xn (p : Nat) (s : StM) (m : MemM) (hp : p < m.code.length) (hc : m.code.length ≤ 60000) (hs : s.pc = BitVec.ofNat 32 (2 * p)) (ha : at0 m.code p = 48640#16) (n : Nat) : goL (n + 1) s m = ([leakM s m], m, 0) := by
 have hst := z_jl s m p hp hc hs bkI (by decide +kernel) (by rw [ha, z_jz])
 have hd : doM bkI s m = ⟨s, m, true, 0⟩ := rfl
 rw [goL, hst, hd]
 simp
theorem z_wc (l : List InsM) (b : List InsM) : Lie (hlfs (l ++ b)) 0 l := by
 refine ⟨by simp, fun k hk => ?_⟩
 have h2 : k < (hlfs (l ++ b)).length := by simp; omega
 rw [Nat.zero_add, z_x0 _ _ h2]
 simp [hlfs, List.getElem_append_left, hk]
end Go.Abs
end
section
namespace Go.Abs
open Th
def z_db (c : CodeM) : List Nat := (z_er c).map Int.toNat
theorem z_fc (c : CodeM) (y : Nat) : (z_db c).getD y 0 = (ati (z_er c) y).toNat := by
 unfold z_db ati
 rw [List.getD_eq_getElem?_getD, List.getD_eq_getElem?_getD, List.getElem?_map]
 cases (z_er c)[y]? <;> rfl
theorem z_0f (W : List (BitVec 32)) (k : Nat) (v : BitVec 32) (j : Nat) : at0 (W.set k v) j = if k = j ∧ j < W.length then v else at0 W j := by
 unfold at0
 rw [List.getD_eq_getElem?_getD, List.getD_eq_getElem?_getD, List.getElem?_set]
 by_cases h : k = j
 ·subst h
  by_cases h2 : k < W.length
  ·simp [h2]
  ·simp [h2]
 ·simp [h]
theorem z_0g (W : List (BitVec 32)) (v : BitVec 32) (j : Nat) : at0 (W ++ [v]) j = if j = W.length then v else at0 W j := by
 unfold at0
 rw [List.getD_eq_getElem?_getD, List.getD_eq_getElem?_getD]
 by_cases h : j < W.length
 ·rw [List.getElem?_append_left h, if_neg (by omega)]
 ·by_cases e : j = W.length
  ·subst e; simp
  ·rw [if_neg e, List.getElem?_eq_none (by simp; omega), List.getElem?_eq_none (by omega)]
theorem z_sf (o : OpM) (hk : 0 ≤ o.k ∧ o.k < 9) (W vals : List (BitVec 32)) (S : List Nat) (t0 : BitVec 32)
  (ha : 0 < z_a7 o.k → at0 W (S.getD o.a.toNat 0) = at0 vals o.a.toNat) (hb : 1 < z_a7 o.k → at0 W (S.getD o.b.toNat 0) = at0 vals o.b.toNat) : stepV o W (srcI S o) t0 = opV o vals t0 := by
 obtain ⟨k, a, b, n⟩ := o
 dsimp only at hk ha hb
 have h9 : k = 0 ∨ k = 1 ∨ k = 2 ∨ k = 3 ∨ k = 4 ∨ k = 5 ∨ k = 6 ∨ k = 7 ∨ k = 8 := by omega
 have g20 : ∀ a b : Nat, [a, b].getD 0 0 = a := fun _ _ => rfl
 have g21 : ∀ a b : Nat, [a, b].getD 1 0 = b := fun _ _ => rfl
 have g10 : ∀ a : Nat, [a].getD 0 0 = a := fun _ => rfl
 unfold stepV opV srcI stepW
 dsimp only
 rcases h9 with rfl | rfl | rfl | rfl | rfl | rfl | rfl | rfl | rfl
 ·rfl
 ·have h1 := ha (by decide); have h2 := hb (by decide)
  simp only [show z_de 1 = 2 from rfl, show z_a7 1 = 2 from rfl]
  simp [h1, h2, g20, g21, -List.getD_eq_getElem?_getD]
 ·have h1 := ha (by decide); have h2 := hb (by decide)
  simp only [show z_de 2 = 2 from rfl, show z_a7 2 = 2 from rfl]
  simp [h1, h2, g20, g21, -List.getD_eq_getElem?_getD]
 ·have h1 := ha (by decide)
  simp only [show z_de 3 = 1 from rfl, show z_a7 3 = 1 from rfl]
  simp [h1, g10, -List.getD_eq_getElem?_getD]
 ·have h1 := ha (by decide)
  simp only [show z_de 4 = 1 from rfl, show z_a7 4 = 1 from rfl]
  simp [h1, g10, -List.getD_eq_getElem?_getD]
 ·have h1 := ha (by decide)
  simp only [show z_de 5 = 1 from rfl, show z_a7 5 = 1 from rfl]
  simp [h1, g10, -List.getD_eq_getElem?_getD]
 ·have h1 := ha (by decide)
  simp only [show z_de 6 = 1 from rfl, show z_a7 6 = 1 from rfl]
  simp [h1, g10, -List.getD_eq_getElem?_getD]
 ·rfl
 ·have h1 := ha (by decide)
  simp only [show z_de 8 = 1 from rfl, show z_a7 8 = 1 from rfl]
  simp [h1, g10, -List.getD_eq_getElem?_getD]
theorem z_sc (c : CodeM) (hlay : layOk c = true) (n : Nat) (hn : c.inN = n) (W0 : List (BitVec 32)) (hW : W0.length = z_dq c) (hW16 : z_dq c ≤ 16000) (T : List (BitVec 32)) (hT : c.randoms ≤ T.length) (w0 : List (BitVec 32)) (hw0 : w0.length = n) (hin : ∀ y, y < n → at0 W0 y = at0 w0 y) :
  ∀ k, k ≤ c.ops.length → ∃ g W, Tri T (upI c (z_db c) k) (fun _ => 0#32) W0 0 g W (rndL (c.ops.take k)) ∧ g 5 = 1073741824#32 ∧ g 7 = 536870912#32 ∧ W.length = W0.length ∧
   ∀ y, y < n + k → ((k : Int) ≤ ati (lastM c n) y ∨ y < n) → at0 W ((z_db c).getD y 0) = at0 (z_dr (c.ops.take k) w0 T) y
 | 0, _ => by
  obtain ⟨g, g1, g2, g3⟩ := z_sb T (fun _ => 0#32) W0 0
  refine ⟨g, W0, by simpa [upI, rndL] using g1, g2, g3, rfl, fun y hy _ => ?_⟩
  have hs := z_jm c hlay n hn
  rw [z_fc, hs.inp y (by omega), Int.toNat_natCast, List.take_zero]
  exact hin y (by omega)
 | k + 1, hk => by
  obtain ⟨g, W, g1, g2, g3, g4, g5⟩ := z_sc c hlay n hn W0 hW hW16 T hT w0 hw0 hin k (by omega)
  have hs := z_jm c hlay n hn
  have hcan := z_f4 c hlay
  have hcan' := hcan
  unfold CodeM.can at hcan'
  simp only [Bool.and_eq_true, decide_eq_true_eq] at hcan'
  obtain ⟨⟨⟨⟨q1, q2⟩, q3⟩, q4⟩, q5⟩ := hcan'
  have hok := (z_fi _ _).1 q4 k (by omega)
  have hle : ∀ x ∈ z_db c, x ≤ 16000 := by
   intro x hx
   obtain ⟨i, hi, rfl⟩ := List.getElem_of_mem hx
   have := hs.low i (by rw [← hs.len]; simpa [z_db] using hi)
   have e := z_fc c i
   rw [List.getD_eq_getElem?_getD, List.getElem?_eq_getElem hi] at e
   simp only [Option.getD_some] at e
   omega
  have hlow : ∀ y, y < n + c.ops.length → (z_db c).getD y 0 < W.length := fun y hy => by
   have := hs.low y hy
   rw [z_fc]; omega
  have e1 : c.ops.getD k opZ = c.ops[k] := by simp [List.getD_eq_getElem?_getD, show k < c.ops.length by omega]
  have e2 : c.ops.getD k opZ4 = c.ops[k] := by simp [List.getD_eq_getElem?_getD, show k < c.ops.length by omega]
  have hfit := z_t0 c.ops[k] _ hok (z_db c) hle ((z_db c).getD (n + k) 0) (z_il _ hle _)
  obtain ⟨f1, f2, f3, f4, f5⟩ := z_lg _ _ _ hfit
  rw [List.length_map] at f2
  have hlast := z_rb c n k
  rw [e2] at hlast
  unfold OpM.ok at hok
  simp only [Bool.and_eq_true, decide_eq_true_eq] at hok
  obtain ⟨⟨⟨⟨r1, r2⟩, r3⟩, r4⟩, r5⟩ := hok
  rw [hn] at r4 r5
  have hta : 0 < z_a7 c.ops[k].k → c.ops[k].a.toNat < n + k := fun h => by
   simp [wireM, h] at r4; omega
  have htb : 1 < z_a7 c.ops[k].k → c.ops[k].b.toNat < n + k := fun h => by
   simp [wireM, h] at r5; omega
  have htm : z_a7 c.ops[k].k = z_de c.ops[k].k := by unfold z_a7 z_de; repeat' split <;> omega
  have hsx : ∀ x ∈ srcI (z_db c) c.ops[k], x < W.length := by
   intro x hx
   unfold srcI at hx
   rw [List.mem_append] at hx
   rcases hx with hx | hx
   ·split at hx
    ·rw [List.mem_singleton.1 hx]; exact hlow _ (by have := hta (by omega); omega)
    ·simp at hx
   ·split at hx
    ·rw [List.mem_singleton.1 hx]; exact hlow _ (by have := htb (by omega); omega)
    ·simp at hx
  have hr2 := z_sy c.ops k (by omega)
  have hr3 := z_nc c.ops (k + 1)
  have hrr : rndL c.ops = c.randoms := rfl
  obtain ⟨g', t1, t2, t3⟩ := z_vb T W (rndL (c.ops.take k)) (by omega) c.ops[k] f5 ⟨r1, r2⟩ ((z_db c).getD (n + k) 0) (hlow _ (by omega)) (srcI (z_db c) c.ops[k]) f2 hsx g g2 g3 (fun h0 => by rw [if_pos h0] at hr2; omega)
  have hv := z_sf c.ops[k] ⟨r1, r2⟩ W (z_dr (c.ops.take k) w0 T) (z_db c) (at0 T (rndL (c.ops.take k)))
   (fun h => g5 _ (hta h) (.inl (hlast _ (by omega) (by have := hta h; omega) (.inl ⟨h, rfl⟩))))
   (fun h => g5 _ (htb h) (.inl (hlast _ (by omega) (by have := htb h; omega) (.inr ⟨h, rfl⟩))))
  rw [hv] at t1
  have hvals : z_dr (c.ops.take (k + 1)) w0 T = z_dr (c.ops.take k) w0 T ++ [opV c.ops[k] (z_dr (c.ops.take k) w0 T) (at0 T (rndL (c.ops.take k)))] := by
   rw [List.take_succ_eq_append_getElem (show k < c.ops.length by omega), z_oy]
  have hvl : (z_dr (c.ops.take k) w0 T).length = n + k := by rw [z_hz, List.length_take, hw0]; omega
  refine ⟨g', W.set ((z_db c).getD (n + k) 0) (opV c.ops[k] (z_dr (c.ops.take k) w0 T) (at0 T (rndL (c.ops.take k)))), ?_, t2, t3, by rw [List.length_set]; exact g4, fun y hy hne => ?_⟩
  ·rw [z_hr, blkI, e1, hn, Int.toNat_natCast]
   have e3 : rndL (c.ops.take (k + 1)) = if c.ops[k].k = 0 then rndL (c.ops.take k) + 1 else rndL (c.ops.take k) := by rw [hr2]; split <;> rfl
   rw [e3]
   exact g1.append t1
  ·rw [hvals, z_0g, hvl, z_0f]
   by_cases e : y = n + k
   ·subst e
    rw [if_pos ⟨rfl, hlow _ (by omega)⟩, if_pos rfl]
   ·rw [if_neg e, if_neg]
    ·exact g5 y (by omega) (by omega)
    ·rintro ⟨p1, p2⟩
     have hne2 := hs.ne k (by omega) y (by omega) (by omega)
     rw [z_fc, z_fc] at p1
     have l1 := hs.low y (by omega)
     have l2 := hs.low (n + k) (by omega)
     omega
end Go.Abs
end
section
namespace Go.Abs
open Th
theorem z_qx (c : CodeM) (hlay : layOk c = true) (hw : z_dq c ≤ 16000) : z_h9 c (z_er c) = true := by
 have hcan := z_f4 c hlay
 have hcan' := hcan
 unfold CodeM.can at hcan'
 simp only [Bool.and_eq_true, decide_eq_true_eq] at hcan'
 have hs := z_jm c hlay c.inN.toNat (by omega)
 unfold z_h9
 rw [hcan]
 simp only [Bool.true_and, Bool.and_eq_true, decide_eq_true_eq, Bool.not_eq_true']
 refine ⟨by rw [hs.len]; omega, ?_⟩
 rw [List.any_eq_false]
 intro x hx
 obtain ⟨i, hi, rfl⟩ := List.getElem_of_mem hx
 have := hs.low i (by rw [← hs.len]; exact hi)
 rw [z_i9 _ _ hi] at this
 simp [z_cu]; omega
theorem z_mp (c : CodeM) (h1 : c.ops.length ≤ 120) (h2 : c.outs.length ≤ 100) (h3 : c.inN ≤ 200) : z_dq c ≤ 420 := by
 have := z_gz c c.inN.toNat c.ops.length
 unfold z_dq; omega
theorem z_y5 (c : CodeM) (hlay : layOk c = true) (h1 : c.ops.length ≤ 120) (h2 : c.outs.length ≤ 100) (h3 : c.inN ≤ 200) :
  z_dj.spec [.agg c.cells] = some (.tup [.rsl 1 (w16s (hlfs (codeI c (z_db c)))), .int .i64 (z_dq c : Nat), .bool true]) := by
 have hw := z_mp c h1 h2 h3
 have hS := z_w5 c (by omega) hlay (by omega)
 have hO := z_yv c (by omega) (by omega)
 have hfit := z_qx c hlay (by omega)
 have hlen : (z_er c).length ≤ 1000 := by
  unfold z_h9 at hfit
  simp only [Bool.and_eq_true, decide_eq_true_eq] at hfit
  omega
 have hE := z_w8 c (by omega) (by omega) (z_er c) (by omega)
 rw [if_pos hfit] at hE
 rw [show (z_er c).map Int.toNat = z_db c from rfl] at hE
 generalize w16s (hlfs (codeI c (z_db c))) = L at *
 generalize z_er c = S at *
 unfold CodeM.cells at *
 simp -implicitDefEqProofs +contextual (disch := omega) [z_dj.spec, z_dj, hS, hO, hE]
def tapeW (l : List (BitVec 32)) (i : Nat) : BitVec 32 := if 0 < l.length then (BitVec.ofNat 32 i * 2654435761#32) ^^^ at0 l (i % l.length) else BitVec.ofNat 32 i * 2654435761#32
def tapeM (l : List (BitVec 32)) (n : Nat) : List (BitVec 32) := (List.range n).map (tapeW l)
theorem z_qu (l : List (BitVec 32)) (n : Nat) : tapeM l (n + 1) = tapeM l n ++ [tapeW l n] := by
 unfold tapeM; rw [List.range_succ, List.map_append]; rfl
@[simp] theorem z_xe (l : List (BitVec 32)) (n : Nat) : (tapeM l n).length = n := by simp [tapeM]
theorem z_hu (l : List (BitVec 32)) (hl : l.length ≤ 1000000000000000) (n : Nat) (hn : n ≤ 100000) : z_cx.spec [.rsl 1 (w32s l), .int .i64 n] = some (.rsl 1 (w32s (tapeM l n))) := by
 simp -implicitDefEqProofs +contextual (disch := omega) [z_cx.spec, z_cx]
 generalize hr : aloop _ _ _ = r
 obtain ⟨e, fr', X', rfl, rfl, ob, hq, hq2⟩ : ∃ e fr' X', r = some (e, fr', X') ∧ (e = .exit 0 ∧ ∃ ob, fr' 5 = .sl ob 1 0 n ∧ X'.get ob = some ⟨T.ty_uint32, 1, true, w32s (tapeM l n)⟩) := by
  refine z_ev hr (z_ct n (fun k fr H => ∃ y ob, fr = AFr.al ([(0, .rsl 1 (w32s l)), (1, .int .i64 n), (5, .sl ob 1 0 k), (6, .int .i64 k)] ++ y) ∧ H.WF ∧ H.get ob = some ⟨T.ty_uint32, 1, true, w32s (tapeM l k)⟩) _ (fun k hk fr H hR => ?_) (fun fr H hR => ?_) ⟨[], 0, by simp, ?_, by simp [tapeM, w32s]⟩)
  ·obtain ⟨y, ob, rfl, hw, gb⟩ := hR
   have hk' : (k : Int) < n := by omega
   have hk1 : ((k + 1 : Nat) : Int) = (k : Int) + 1 := by omega
   have hbo := hw _ _ gb
   rw [z_qu, hk1]
   have hlen : (tapeM l k).length = k := by simp
   have hc : BitVec.ofInt 32 (k : Int) = BitVec.ofNat 32 k := BitVec.ofInt_natCast _ _
   generalize tapeM l k = t at *
   unfold tapeW
   by_cases h0 : 0 < l.length
   ·have h0' : (0 : Int) < l.length := by omega
    have hne : ¬ (l.length : Int) = 0 := by omega
    have hnil : ¬ l = [] := fun e => by subst e; simp at h0
    have hm : (k : Int).tmod l.length = ((k % l.length : Nat) : Int) := rfl
    have hm2 : k % l.length < l.length := Nat.mod_lt _ h0
    have hm3 : (k : Int) % l.length = ((k % l.length : Nat) : Int) := by omega
    rw [if_pos h0]
    generalize hK : k % l.length = K at *
    refine ⟨_, _, _, by simp -implicitDefEqProofs +contextual (disch := omega) [z_cx.l0, gb, hk', hc, h0', hne, hnil, hm, hm3, hm2, hlen]; first | rfl | exact ⟨rfl, rfl⟩ | exact ⟨rfl, rfl, rfl⟩, .inl ⟨rfl, _, _, rfl, ?_, ?_⟩⟩
    ·(repeat' (first | assumption | with_reducible apply Hp.WF.push | with_reducible apply Hp.WF.set | with_reducible apply z_bl | exact Hp.WF.empty)) <;> (simp <;> omega)
    ·simp (disch := omega) [z_mr]
   ·have h0' : ¬ (0 : Int) < l.length := by omega
    rw [if_neg h0]
    refine ⟨_, _, _, by simp -implicitDefEqProofs +contextual (disch := omega) [z_cx.l0, gb, hk', hc, h0', hlen]; first | rfl | exact ⟨rfl, rfl⟩ | exact ⟨rfl, rfl, rfl⟩, .inl ⟨rfl, _, _, rfl, ?_, ?_⟩⟩
    ·(repeat' (first | assumption | with_reducible apply Hp.WF.push | with_reducible apply Hp.WF.set | with_reducible apply z_bl | exact Hp.WF.empty)) <;> (simp <;> omega)
    ·simp (disch := omega) [z_mr]
  ·obtain ⟨y, ob, rfl, hw, gb⟩ := hR
   refine ⟨_, _, _, by simp -implicitDefEqProofs +contextual (disch := omega) [z_cx.l0]; first | rfl | exact ⟨rfl, rfl⟩ | exact ⟨rfl, rfl, rfl⟩, by simp, rfl, ob, by simp, gb⟩
  ·(repeat' (first | assumption | with_reducible apply Hp.WF.push | with_reducible apply Hp.WF.set | with_reducible apply z_bl | exact Hp.WF.empty)) <;> (simp <;> omega)
 have ht : (w32s (tapeM l n)).take n = w32s (tapeM l n) := List.take_of_length_le (by simp)
 simp -implicitDefEqProofs +contextual (disch := omega) [hq, hq2, ht]
end Go.Abs
end
end
section
namespace Go.Abs
open Th
theorem z_p2 (c : CodeM) (hok : opsOk c.ops c.inN = true) (hin : 0 ≤ c.inN) (m : List Nat) (hm : ∀ x ∈ m, x ≤ 16000) : ∀ k, k ≤ c.ops.length → UsedL (upI c m k)
 | 0, _ => by simpa [upI] using z_pr
 | k + 1, h => by
  rw [z_hr]
  have e1 : c.ops.getD k opZ = c.ops[k] := by simp [List.getD_eq_getElem?_getD, show k < c.ops.length by omega]
  have h3 := (z_fi _ _).1 hok k (by omega)
  have hf := z_t0 c.ops[k] _ h3 m hm (m.getD (c.inN.toNat + k) 0) (z_il m hm _)
  refine (z_p2 c hok hin m hm k (by omega)).append ?_
  rw [blkI, e1]
  exact z_k0 _ (z_lg _ _ _ hf).2.2.2.2 _ (z_il m hm _) _ (by have := z_hw m c.ops[k]; omega) (z_os m hm _)
end Go.Abs
end

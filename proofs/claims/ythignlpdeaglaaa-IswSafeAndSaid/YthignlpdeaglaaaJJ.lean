import Derived.Test.YthignlpdeaglaaaJB
import Derived.Test.YthignlpdeaglaaaJC
import Derived.Test.YthignlpdeaglaaaJF
import Derived.Test.YthignlpdeaglaaaL19F
import Derived.Test.YthignlpdeaglaaaIL
section
set_option linter.unusedSimpArgs false
set_option linter.unusedVariables false
namespace Go.Abs
noncomputable abbrev sfL0 := law19_safe.l0 ref19_Matter.spec
noncomputable abbrev sfL1 := law19_safe.l1 ref19_Matter.spec
noncomputable abbrev sfL2 := law19_safe.l2 ref19_Matter.spec
noncomputable abbrev sfL3 := law19_safe.l3 ref19_Matter.spec
noncomputable abbrev sfL4 := law19_safe.l4 ref19_Matter.spec
theorem any_take_succ (l : List Int) (x : Int) (k : Nat) (hk : k < l.length) : (l.take (k + 1)).any (fun y => decide (y = x)) = ((l.take k).any (fun y => decide (y = x)) || decide (l[k] = x)) := by
  rw [List.take_succ_eq_append_getElem hk, List.any_append]; simp
theorem sf_outs (c : CodeM) (hb : c.outs.length ≤ 1000000000) (x : Int) (v1 v5 v7 v8 v9 : AV) (X : AHeap) (g0 : X.get 0 = some ⟨T.ty_api_Code, 3, true, [[.int .i64 c.inN, .rsl 4 (opRows c.ops), .rsl 1 (ints c.outs)]]⟩) {r}
    (hr : aloop sfL1 (AFr.al [(1, v1), (3, .ptr 0 3 0 0), (5, v5), (7, v7), (8, v8), (9, v9), (10, .int .i64 x), (11, .bool false), (12, .int .i64 0)]) X = r) :
    ∃ e fr' X', r = some (e, fr', X') ∧ (e = .exit 2 ∧ X' = X ∧ ∃ y, fr' = AFr.al ([(1, v1), (3, .ptr 0 3 0 0), (5, v5), (7, v7), (8, v8), (9, v9), (10, .int .i64 x), (11, .bool (c.outs.any fun y => decide (y = x)))] ++ y)) := by
  refine run_of hr (aloop_each c.outs.length (fun k fr H => H = X ∧ ∃ y, fr = AFr.al ([(1, v1), (3, .ptr 0 3 0 0), (5, v5), (7, v7), (8, v8), (9, v9), (10, .int .i64 x), (11, .bool ((c.outs.take k).any fun y => decide (y = x))), (12, .int .i64 k)] ++ y)) _ (fun k hk fr H hR => ?_) (fun fr H hR => ?_) ⟨rfl, [], rfl⟩)
  · obtain ⟨rfl, y, rfl⟩ := hR
    have hk' : (k : Int) < c.outs.length := by omega
    have hk1 : ((k + 1 : Nat) : Int) = (k : Int) + 1 := by omega
    have hrow := ints_at c.outs k hk
    rw [any_take_succ _ _ _ hk, hk1]
    generalize (c.outs.take k).any (fun y => decide (y = x)) = b
    generalize c.outs[k] = z at *
    cases b
    · refine ⟨_, _, _, by simp -implicitDefEqProofs +contextual (disch := omega) [law19_safe.l1, g0, hk', hrow]; first | rfl | exact ⟨rfl, rfl⟩ | exact ⟨rfl, rfl, rfl⟩, .inl ⟨rfl, rfl, _, rfl⟩⟩
    · refine ⟨_, _, _, by simp -implicitDefEqProofs +contextual (disch := omega) [law19_safe.l1, g0, hk', hrow]; first | rfl | exact ⟨rfl, rfl⟩ | exact ⟨rfl, rfl, rfl⟩, .inl ⟨rfl, rfl, _, rfl⟩⟩
  · obtain ⟨rfl, y, rfl⟩ := hR
    refine ⟨_, _, _, by simp -implicitDefEqProofs +contextual (disch := omega) [law19_safe.l1, g0]; first | rfl | exact ⟨rfl, rfl⟩ | exact ⟨rfl, rfl, rfl⟩, by simp, rfl, rfl, _, rfl⟩
theorem sf_again (l : List Int) (hb : l.length ≤ 1000000000) (x : Int) (v1 v3 v5 v8 v9 v11 : AV) (X : AHeap) (pb : Nat) (gb : X.get pb = some ⟨T.ty_int, 1, true, ints l⟩) {r}
    (hr : aloop sfL2 (AFr.al [(1, v1), (3, v3), (5, v5), (7, .sl pb 1 0 l.length), (8, v8), (9, v9), (10, .int .i64 x), (11, v11), (13, .bool false), (14, .int .i64 0)]) X = r) :
    ∃ e fr' X', r = some (e, fr', X') ∧ (e = .exit 4 ∧ X' = X ∧ ∃ y, fr' = AFr.al ([(1, v1), (3, v3), (5, v5), (7, .sl pb 1 0 l.length), (8, v8), (9, v9), (10, .int .i64 x), (11, v11), (13, .bool (l.any fun y => decide (y = x)))] ++ y)) := by
  refine run_of hr (aloop_each l.length (fun k fr H => H = X ∧ ∃ y, fr = AFr.al ([(1, v1), (3, v3), (5, v5), (7, .sl pb 1 0 l.length), (8, v8), (9, v9), (10, .int .i64 x), (11, v11), (13, .bool ((l.take k).any fun y => decide (y = x))), (14, .int .i64 k)] ++ y)) _ (fun k hk fr H hR => ?_) (fun fr H hR => ?_) ⟨rfl, [], rfl⟩)
  · obtain ⟨rfl, y, rfl⟩ := hR
    have hk' : (k : Int) < l.length := by omega
    have hk1 : ((k + 1 : Nat) : Int) = (k : Int) + 1 := by omega
    have hrow := ints_at l k hk
    rw [any_take_succ _ _ _ hk, hk1]
    generalize (l.take k).any (fun y => decide (y = x)) = b
    generalize l[k] = z at *
    cases b
    · refine ⟨_, _, _, by simp -implicitDefEqProofs +contextual (disch := omega) [law19_safe.l2, gb, hk', hrow]; first | rfl | exact ⟨rfl, rfl⟩ | exact ⟨rfl, rfl, rfl⟩, .inl ⟨rfl, rfl, _, rfl⟩⟩
    · refine ⟨_, _, _, by simp -implicitDefEqProofs +contextual (disch := omega) [law19_safe.l2, gb, hk', hrow]; first | rfl | exact ⟨rfl, rfl⟩ | exact ⟨rfl, rfl, rfl⟩, .inl ⟨rfl, rfl, _, rfl⟩⟩
  · obtain ⟨rfl, y, rfl⟩ := hR
    refine ⟨_, _, _, by simp -implicitDefEqProofs +contextual (disch := omega) [law19_safe.l2, gb]; first | rfl | exact ⟨rfl, rfl⟩ | exact ⟨rfl, rfl, rfl⟩, by simp, rfl, rfl, _, rfl⟩
structure SfI (c : CodeM) (X : AHeap) (a0 a1 a2 : Int) (pb : Nat) (l : List Int) : Prop where
  wf : X.WF
  g0 : X.get 0 = some ⟨T.ty_api_Code, 3, true, [[.int .i64 c.inN, .rsl 4 (opRows c.ops), .rsl 1 (ints c.outs)]]⟩
  g1 : X.get 1 = some ⟨T.ty_3_uint16, 3, true, [[.int .u16 a0, .int .u16 a1, .int .u16 a2]]⟩
  pb0 : pb ≠ 0 ∧ pb ≠ 1
  gb : X.get pb = some ⟨T.ty_int, 1, true, ints l⟩
theorem sf_round (c : CodeM) (m : Nat) (hcm : c.inN = m) (hm : 0 < m ∧ m ≤ 10) (hl : c.ops.length < 60) (hb : c.outs.length ≤ 1000000000) (d : Nat) (hd : d ≤ 3) (a0 a1 a2 : Int) (h0 : 0 ≤ a0 ∧ a0 < 65536) (h1 : 0 ≤ a1 ∧ a1 < 65536) (h2 : 0 ≤ a2 ∧ a2 < 65536) (k : Nat) (hk : k < d) (X : AHeap) (pb : Nat) (l : List Int) (hlk : l.length = k) (I : SfI c X a0 a1 a2 pb l) (n : Nat) (hn : n ≤ k) (y : List (Nat × AV)) (x : Int) (hx : x = [a0, a1, a2].getD k 0 % (m + c.ops.length)) :
    ∃ fr' X' pb', sfL0 (AFr.al ([(1, .int .i64 d), (3, .ptr 0 3 0 0), (5, .ptr 1 3 0 0), (7, .sl pb 1 0 k), (8, .int .i64 n), (9, .int .i64 k)] ++ y)) X = some (.normal, fr', X') ∧
      (∃ y, fr' = AFr.al ([(1, .int .i64 d), (3, .ptr 0 3 0 0), (5, .ptr 1 3 0 0), (7, .sl pb' 1 0 (k + 1)), (8, .int .i64 (n + (if (c.outs.any fun y => decide (y = x)) || (l.any fun y => decide (y = x)) then 0 else 1) : Nat)), (9, .int .i64 (k + 1 : Nat))] ++ y)) ∧ SfI c X' a0 a1 a2 pb' (l ++ [x]) := by
  have g0 := I.g0
  have g1 := I.g1
  have gb := I.gb
  have b0 := I.wf _ _ g0
  have b1 := I.wf _ _ g1
  have b2 := I.wf _ _ gb
  have hw := I.wf
  have pb0 := I.pb0
  have G0 := I.g0
  rw [hcm] at g0
  have hk' : (k : Int) < d := by omega
  have hno : ¬ ((m : Int) + c.ops.length) = 0 := by omega
  have hkc : k = 0 ∨ k = 1 ∨ k = 2 := by omega
  obtain ⟨q, hq⟩ : ∃ q : Int, q = m + c.ops.length := ⟨_, rfl⟩
  have hO := fun v1 v5 v7 v8 v9 r => @sf_outs c hb x v1 v5 v7 v8 v9 X I.g0 r
  have hA := fun v1 v3 v5 v8 v9 v11 r => @sf_again l (by omega) x v1 v3 v5 v8 v9 v11 X pb gb r
  rw [hlk] at hA
  have hkn : ((k + 1 : Nat) : Int) = (k : Int) + 1 := by omega
  have hnn : ((n + 1 : Nat) : Int) = (n : Int) + 1 := by omega
  generalize hr : sfL0 _ X = r
  rcases hkc with rfl | rfl | rfl
  · simp only [List.getD_cons_zero, List.getD_cons_succ] at hx
    simp -implicitDefEqProofs +contextual (disch := omega) [law19_safe.l0, g0, g1, hk'] at hr
    rw [← hx] at hr
    generalize hr3 : aloop _ _ _ = r3 at hr
    obtain ⟨e, fr3, X3, rfl, rfl, rfl, y3, rfl⟩ := hO _ _ _ _ _ _ hr3
    simp -implicitDefEqProofs +contextual (disch := omega) at hr
    generalize hr4 : aloop _ _ _ = r4 at hr
    obtain ⟨e, fr4, X4, rfl, rfl, rfl, y4, rfl⟩ := hA _ _ _ _ _ _ _ hr4
    generalize c.outs.any (fun y => decide (y = x)) = b1 at *
    generalize l.any (fun y => decide (y = x)) = b2 at *
    obtain rfl : l = [] := List.eq_nil_of_length_eq_zero hlk
    cases b1 <;> cases b2 <;> simp -implicitDefEqProofs +contextual (disch := omega) [gb, hlk, ints] at hr
    all_goals subst hr
    all_goals exact ⟨_, _, _, rfl, ⟨_, rfl⟩, ⟨by (repeat' (first | assumption | with_reducible apply AHeap.WF.push | with_reducible apply AHeap.WF.set | with_reducible apply killAll_wf | exact AHeap.WF.empty)) <;> (simp <;> omega), by simp -implicitDefEqProofs +contextual (disch := omega) [G0], by simp -implicitDefEqProofs +contextual (disch := omega) [g1], ⟨by omega, by omega⟩, by simp -implicitDefEqProofs +contextual (disch := omega) [ints]⟩⟩
  · simp only [List.getD_cons_zero, List.getD_cons_succ] at hx
    simp -implicitDefEqProofs +contextual (disch := omega) [law19_safe.l0, g0, g1, hk'] at hr
    rw [← hx] at hr
    generalize hr3 : aloop _ _ _ = r3 at hr
    obtain ⟨e, fr3, X3, rfl, rfl, rfl, y3, rfl⟩ := hO _ _ _ _ _ _ hr3
    simp -implicitDefEqProofs +contextual (disch := omega) at hr
    generalize hr4 : aloop _ _ _ = r4 at hr
    obtain ⟨e, fr4, X4, rfl, rfl, rfl, y4, rfl⟩ := hA _ _ _ _ _ _ _ hr4
    generalize c.outs.any (fun y => decide (y = x)) = b1 at *
    generalize l.any (fun y => decide (y = x)) = b2 at *
    have hln : ¬ l = [] := by intro e; rw [e] at hlk; simp at hlk
    cases b1 <;> cases b2 <;> simp -implicitDefEqProofs +contextual (disch := omega) [gb, hlk, hln, ints] at hr
    all_goals subst hr
    all_goals exact ⟨_, _, _, rfl, ⟨_, rfl⟩, ⟨by (repeat' (first | assumption | with_reducible apply AHeap.WF.push | with_reducible apply AHeap.WF.set | with_reducible apply killAll_wf | exact AHeap.WF.empty)) <;> (simp <;> omega), by simp -implicitDefEqProofs +contextual (disch := omega) [G0], by simp -implicitDefEqProofs +contextual (disch := omega) [g1], ⟨by omega, by omega⟩, by simp -implicitDefEqProofs +contextual (disch := omega) [ints]⟩⟩
  · simp only [List.getD_cons_zero, List.getD_cons_succ] at hx
    simp -implicitDefEqProofs +contextual (disch := omega) [law19_safe.l0, g0, g1, hk'] at hr
    rw [← hx] at hr
    generalize hr3 : aloop _ _ _ = r3 at hr
    obtain ⟨e, fr3, X3, rfl, rfl, rfl, y3, rfl⟩ := hO _ _ _ _ _ _ hr3
    simp -implicitDefEqProofs +contextual (disch := omega) at hr
    generalize hr4 : aloop _ _ _ = r4 at hr
    obtain ⟨e, fr4, X4, rfl, rfl, rfl, y4, rfl⟩ := hA _ _ _ _ _ _ _ hr4
    generalize c.outs.any (fun y => decide (y = x)) = b1 at *
    generalize l.any (fun y => decide (y = x)) = b2 at *
    have hln : ¬ l = [] := by intro e; rw [e] at hlk; simp at hlk
    cases b1 <;> cases b2 <;> simp -implicitDefEqProofs +contextual (disch := omega) [gb, hlk, hln, ints] at hr
    all_goals subst hr
    all_goals exact ⟨_, _, _, rfl, ⟨_, rfl⟩, ⟨by (repeat' (first | assumption | with_reducible apply AHeap.WF.push | with_reducible apply AHeap.WF.set | with_reducible apply killAll_wf | exact AHeap.WF.empty)) <;> (simp <;> omega), by simp -implicitDefEqProofs +contextual (disch := omega) [G0], by simp -implicitDefEqProofs +contextual (disch := omega) [g1], ⟨by omega, by omega⟩, by simp -implicitDefEqProofs +contextual (disch := omega) [ints]⟩⟩
end Go.Abs
end
section
set_option linter.unusedSimpArgs false
set_option linter.unusedVariables false
namespace Go.Abs
theorem cnt_succ (l : List Bool) (a k : Nat) (h : a + k < l.length) : ((l.drop a).take (k + 1)).countP id = ((l.drop a).take k).countP id + if atb l (a + k) then 1 else 0 := by
  have hk : k < (l.drop a).length := by simp; omega
  rw [List.take_succ_eq_append_getElem hk, List.countP_append, List.getElem_drop]
  have := atb_get l (a + k) h
  have e : l[a + k] = atb l (a + k) := by rw [List.getElem?_eq_getElem h] at this; exact Option.some.inj this
  rw [e]
  cases atb l (a + k) <;> rfl
theorem sf_inner (l : List Bool) (d : Nat) (hd : d ≤ 3) (hl : l.length ≤ 100) (a : Nat) (ha : a + (d + 1) ≤ l.length) (n : Nat) (X : AHeap) {r}
    (hr : aloop sfL4 (AFr.al [(1, .int .i64 d), (8, .int .i64 n), (15, .rsl 1 (bls l)), (16, .int .i64 a), (17, .int .i64 0), (18, .int .i64 0)]) X = r) :
    ∃ e fr' X', r = some (e, fr', X') ∧ (e = .exit 8 ∧ X' = X ∧ ∃ y, fr' = AFr.al ([(1, .int .i64 d), (8, .int .i64 n), (15, .rsl 1 (bls l)), (16, .int .i64 a), (17, .int .i64 (((l.drop a).take (d + 1)).countP id : Nat))] ++ y)) := by
  refine run_of hr (aloop_each (d + 1) (fun k fr H => H = X ∧ ∃ y, fr = AFr.al ([(1, .int .i64 d), (8, .int .i64 n), (15, .rsl 1 (bls l)), (16, .int .i64 a), (17, .int .i64 (((l.drop a).take k).countP id : Nat)), (18, .int .i64 k)] ++ y)) _ (fun k hk fr H hR => ?_) (fun fr H hR => ?_) ⟨rfl, [], by simp⟩)
  · obtain ⟨rfl, y, rfl⟩ := hR
    have hk' : (k : Int) ≤ d := by omega
    have hk1 : ((k + 1 : Nat) : Int) = (k : Int) + 1 := by omega
    obtain ⟨q, hq⟩ : ∃ q : Nat, q = a + k := ⟨_, rfl⟩
    have hq2 : (a : Int) + k = q := by omega
    have hrow : (bls l)[q]? = some [.bool (atb l q)] := by rw [bls_get, if_pos (by omega)]
    have hql : (q : Int) < l.length := by omega
    have hc := List.countP_le_length (p := id) (l := (l.drop a).take k)
    have hc2 : ((l.drop a).take k).length ≤ 100 := by simp; omega
    have hs := cnt_succ l a k (by omega)
    rw [← hq] at hs
    rw [hs, hk1]
    generalize ((l.drop a).take k).countP id = c at *
    have hcc : ((c + 1 : Nat) : Int) = (c : Int) + 1 := by omega
    generalize atb l q = b at *
    cases b
    · refine ⟨_, _, _, by simp -implicitDefEqProofs +contextual (disch := omega) [law19_safe.l4, hk', hq2, hrow, hql]; first | rfl | exact ⟨rfl, rfl⟩ | exact ⟨rfl, rfl, rfl⟩, .inl ⟨rfl, rfl, _, by simp; rfl⟩⟩
    · refine ⟨_, _, _, by simp -implicitDefEqProofs +contextual (disch := omega) [law19_safe.l4, hk', hq2, hrow, hql]; first | rfl | exact ⟨rfl, rfl⟩ | exact ⟨rfl, rfl, rfl⟩, .inl ⟨rfl, rfl, _, by simp [hcc]; rfl⟩⟩
  · obtain ⟨rfl, y, rfl⟩ := hR
    refine ⟨_, _, _, by simp -implicitDefEqProofs +contextual (disch := omega) [law19_safe.l4]; first | rfl | exact ⟨rfl, rfl⟩ | exact ⟨rfl, rfl, rfl⟩, by simp, rfl, rfl, _, rfl⟩
theorem sf_groups (l : List Bool) (d : Nat) (hd : d ≤ 3) (hl : l.length ≤ 100) (g : Nat) (hg : g * (d + 1) = l.length) (n : Nat) (hn : n ≤ 100) (hf : Few l (d + 1) n) (X : AHeap) {r}
    (hr : aloop sfL3 (AFr.al [(1, .int .i64 d), (8, .int .i64 n), (15, .rsl 1 (bls l)), (16, .int .i64 0)]) X = r) :
    ∃ e fr' X', r = some (e, fr', X') ∧ (e = .exit 6 ∧ X' = X) := by
  refine run_of hr (aloop_each g (fun j fr H => H = X ∧ ∃ y, fr = AFr.al ([(1, .int .i64 d), (8, .int .i64 n), (15, .rsl 1 (bls l)), (16, .int .i64 (j * (d + 1) : Nat))] ++ y)) _ (fun j hj fr H hR => ?_) (fun fr H hR => ?_) ⟨rfl, [], by simp⟩)
  · obtain ⟨rfl, y, rfl⟩ := hR
    have h1 : (j + 1) * (d + 1) ≤ g * (d + 1) := Nat.mul_le_mul_right _ hj
    have h2 : (j + 1) * (d + 1) = j * (d + 1) + (d + 1) := by rw [Nat.succ_mul]
    have hfew := hf j (by rw [← hg]; exact h1)
    rw [h2]
    rw [h2, hg] at h1
    generalize j * (d + 1) = a at *
    have ha' : (a : Int) < l.length := by omega
    have hin := fun r => @sf_inner l d hd hl a h1 n H r
    generalize hc : ((l.drop a).take (d + 1)).countP id = c at *
    have hgt : ¬ ((c : Int) > n) := by omega
    have hgt' : ¬ ((n : Int) < c) := by omega
    have ha1 : ((a + (d + 1) : Nat) : Int) = (a : Int) + ((d : Int) + 1) := by omega
    generalize hr2 : sfL3 _ _ = r2
    simp -implicitDefEqProofs +contextual (disch := omega) [law19_safe.l3, ha'] at hr2
    generalize hr3 : aloop _ _ _ = r3 at hr2
    obtain ⟨e, fr3, X3, rfl, rfl, rfl, y3, rfl⟩ := hin _ hr3
    simp -implicitDefEqProofs +contextual (disch := omega) [hgt, hgt'] at hr2
    subst hr2
    exact ⟨_, _, _, rfl, .inl ⟨rfl, rfl, _, by rw [ha1]; rfl⟩⟩
  · obtain ⟨rfl, y, rfl⟩ := hR
    rw [hg]
    refine ⟨_, _, _, by simp -implicitDefEqProofs +contextual (disch := omega) [law19_safe.l3]; first | rfl | exact ⟨rfl, rfl⟩ | exact ⟨rfl, rfl, rfl⟩, by simp, rfl, rfl⟩
end Go.Abs
end
section
set_option linter.unusedSimpArgs false
set_option linter.unusedVariables false
namespace Go.Abs
def sfCnt (outs : List Int) : List Int → List Int → Nat
  | _, [] => 0
  | done, x :: xs => (if (outs.any fun y => decide (y = x)) || (done.any fun y => decide (y = x)) then 0 else 1) + sfCnt outs (done ++ [x]) xs
theorem sfCnt_snoc (outs : List Int) (x : Int) : ∀ (l done : List Int), sfCnt outs done (l ++ [x]) = sfCnt outs done l + if (outs.any fun y => decide (y = x)) || ((done ++ l).any fun y => decide (y = x)) then 0 else 1
  | [], done => by simp [sfCnt]
  | z :: l, done => by
    rw [List.cons_append, sfCnt, sfCnt, sfCnt_snoc outs x l (done ++ [z]), List.append_assoc, List.singleton_append, Nat.add_assoc]
theorem sfCnt_le (outs : List Int) : ∀ (l done : List Int), sfCnt outs done l ≤ l.length
  | [], _ => by simp [sfCnt]
  | x :: l, done => by
    have := sfCnt_le outs l (done ++ [x])
    rw [sfCnt, List.length_cons]
    split <;> omega
def prb (a0 a1 a2 : Int) (q : Int) (k : Nat) : List Int := ([a0, a1, a2].take k).map fun a => a % q
theorem prb_succ (a0 a1 a2 q : Int) (k : Nat) (hk : k < 3) : prb a0 a1 a2 q (k + 1) = prb a0 a1 a2 q k ++ [[a0, a1, a2].getD k 0 % q] := by
  have : k = 0 ∨ k = 1 ∨ k = 2 := by omega
  rcases this with rfl | rfl | rfl <;> simp [prb]
theorem prb_len (a0 a1 a2 q : Int) (k : Nat) (hk : k ≤ 3) : (prb a0 a1 a2 q k).length = k := by
  simp [prb]; omega
theorem sf_probes (c : CodeM) (m : Nat) (hcm : c.inN = m) (hm : 0 < m ∧ m ≤ 10) (hl : c.ops.length < 60) (hb : c.outs.length ≤ 1000000000) (d : Nat) (hd : d ≤ 3) (a0 a1 a2 : Int) (h0 : 0 ≤ a0 ∧ a0 < 65536) (h1 : 0 ≤ a1 ∧ a1 < 65536) (h2 : 0 ≤ a2 ∧ a2 < 65536) (X : AHeap) (pb : Nat) (I : SfI c X a0 a1 a2 pb []) {r}
    (hr : aloop sfL0 (AFr.al [(1, .int .i64 d), (3, .ptr 0 3 0 0), (5, .ptr 1 3 0 0), (7, .sl pb 1 0 0), (8, .int .i64 0), (9, .int .i64 0)]) X = r) :
    ∃ e fr' X', r = some (e, fr', X') ∧ (e = .exit 0 ∧ ∃ pb' y, fr' = AFr.al ([(1, .int .i64 d), (3, .ptr 0 3 0 0), (5, .ptr 1 3 0 0), (7, .sl pb' 1 0 d), (8, .int .i64 (sfCnt c.outs [] (prb a0 a1 a2 (m + c.ops.length) d) : Nat)), (9, .int .i64 d)] ++ y) ∧ SfI c X' a0 a1 a2 pb' (prb a0 a1 a2 (m + c.ops.length) d)) := by
  refine run_of hr (aloop_each d (fun k fr H => ∃ pb' y, fr = AFr.al ([(1, .int .i64 d), (3, .ptr 0 3 0 0), (5, .ptr 1 3 0 0), (7, .sl pb' 1 0 k), (8, .int .i64 (sfCnt c.outs [] (prb a0 a1 a2 (m + c.ops.length) k) : Nat)), (9, .int .i64 k)] ++ y) ∧ SfI c H a0 a1 a2 pb' (prb a0 a1 a2 (m + c.ops.length) k)) _ (fun k hk fr H hR => ?_) (fun fr H hR => ?_) ⟨pb, [], rfl, I⟩)
  · obtain ⟨pb', y, rfl, I'⟩ := hR
    have hle := sfCnt_le c.outs (prb a0 a1 a2 (m + c.ops.length) k) []
    rw [prb_len _ _ _ _ _ (by omega)] at hle
    obtain ⟨fr', X', pb2, q1, ⟨y2, q2⟩, q3⟩ := sf_round c m hcm hm hl hb d hd a0 a1 a2 h0 h1 h2 k hk H pb' _ (prb_len _ _ _ _ k (by omega)) I' _ hle y _ rfl
    rw [prb_succ _ _ _ _ _ (by omega), sfCnt_snoc, List.nil_append]
    exact ⟨_, _, _, q1, .inl ⟨rfl, pb2, y2, q2, q3⟩⟩
  · obtain ⟨pb', y, rfl, I'⟩ := hR
    refine ⟨_, _, _, by simp -implicitDefEqProofs +contextual (disch := omega) [law19_safe.l0]; first | rfl | exact ⟨rfl, rfl⟩ | exact ⟨rfl, rfl, rfl⟩, by simp, rfl, pb', _, rfl, I'⟩
theorem safe19_eq (c : CodeM) (m : Nat) (hcm : c.inN = m) (hm : 0 < m ∧ m ≤ 10) (hcan : c.can = true) (hl : c.ops.length < 60) (hb : c.outs.length ≤ 1000000000) (hR12 : c.randoms ≤ 12) (d g : Nat) (hd : d ≤ 3) (hg : g * (d + 1) = m) (a0 a1 a2 : Int) (h0 : 0 ≤ a0 ∧ a0 < 65536) (h1 : 0 ≤ a1 ∧ a1 < 65536) (h2 : 0 ≤ a2 ∧ a2 < 65536)
    (hf : Few (matterM (maS c m (prb a0 a1 a2 (m + c.ops.length) d)) m) (d + 1) (sfCnt c.outs [] (prb a0 a1 a2 (m + c.ops.length) d))) :
    law19_safe.spec [.agg c.cells, .int .i64 d, .agg [.int .u16 a0, .int .u16 a1, .int .u16 a2]] = some (.bool true) := by
  have hlen := prb_len a0 a1 a2 (m + c.ops.length) d hd
  have hle := sfCnt_le c.outs (prb a0 a1 a2 (m + c.ops.length) d) []
  have hM := rMatter_eq c m hcm hm.2 hcan hb hR12 (prb a0 a1 a2 (m + c.ops.length) d) (by omega) (fun x hx => by
    unfold prb at hx
    obtain ⟨a, ha, rfl⟩ := List.mem_map.1 hx
    rw [hcm]
    exact ⟨Int.emod_nonneg _ (by omega), Int.emod_lt_of_pos _ (by omega)⟩)
  have hml : (matterM (maS c m (prb a0 a1 a2 (m + c.ops.length) d)) m).length = m := by simp [matterM]
  have hG := fun X r => @sf_groups (matterM (maS c m (prb a0 a1 a2 (m + c.ops.length) d)) m) d hd (by omega) g (by rw [hml]; exact hg) (sfCnt c.outs [] (prb a0 a1 a2 (m + c.ops.length) d)) (by omega) hf X r
  have hP := fun X pb I r => @sf_probes c m hcm hm hl hb d hd a0 a1 a2 h0 h1 h2 X pb I r
  generalize prb a0 a1 a2 (m + c.ops.length) d = l at *
  generalize matterM (maS c m l) m = bl at *
  generalize sfCnt c.outs [] l = n at *
  unfold CodeM.cells at *
  simp -implicitDefEqProofs +contextual (disch := omega) [law19_safe.spec, law19_safe]
  generalize hr : aloop _ _ _ = r
  obtain ⟨e, fr1, X1, rfl, rfl, pb, y, rfl, I1⟩ := hP _ 2 ⟨by (repeat' (first | assumption | with_reducible apply AHeap.WF.push | with_reducible apply AHeap.WF.set | with_reducible apply killAll_wf | exact AHeap.WF.empty)) <;> (simp <;> omega), by simp, by simp, ⟨by omega, by omega⟩, by simp [ints]⟩ _ hr
  have g0 := I1.g0
  have gb := I1.gb
  have hi : (ints l).take d = ints l := List.take_of_length_le (by simp [hlen])
  simp -implicitDefEqProofs +contextual (disch := omega) [g0, gb, hi, hlen, hM]
  generalize hr : aloop _ _ _ = r
  obtain ⟨e, fr2, X2, rfl, rfl, rfl⟩ := hG _ _ hr
  simp -implicitDefEqProofs +contextual (disch := omega) []
theorem innerD_eq (outs : List Int) (ho : ∀ o ∈ outs, 0 ≤ o) : ∀ (xs done : List Nat) (done' : List Int), (∀ x : Nat, done.elem x = done'.any fun y => decide (y = (x : Int))) →
    innerD (outs.map Int.toNat) done xs = sfCnt outs done' (xs.map fun x : Nat => (x : Int))
  | [], _, _, _ => rfl
  | x :: xs, done, done', h => by
    have e : (outs.map Int.toNat).elem x = outs.any fun y => decide (y = (x : Int)) := by
      rw [Bool.eq_iff_iff, List.elem_iff, List.any_eq_true, List.mem_map]
      constructor
      · rintro ⟨y, hy, he⟩
        have := ho y hy
        exact ⟨y, hy, by simp; omega⟩
      · rintro ⟨y, hy, he⟩
        simp at he
        exact ⟨y, hy, by omega⟩
    rw [innerD, List.map_cons, sfCnt, e, h x, innerD_eq outs ho xs (x :: done) (done' ++ [(x : Int)]) fun z => by
      rw [List.any_append, ← h z, List.elem_cons]
      have e1 : ([(x : Int)].any fun y => decide (y = (z : Int))) = (z == x) := by
        simp only [List.any_cons, List.any_nil, Bool.or_false]
        rw [Bool.eq_iff_iff]; simp; omega
      rw [e1]
      cases h1 : z == x <;> cases h2 : done.elem z <;> simp]
end Go.Abs
end

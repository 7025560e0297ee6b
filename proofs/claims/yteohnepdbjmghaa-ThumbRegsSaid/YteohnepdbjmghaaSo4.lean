/-
  slices.Compact of whole numbers.
-/
import Derived.Test.YteohnepdbjmghaaSoA
import Derived.Test.YteohnepdbjmghaaSA
import Derived.Test.YteohnepdbjmghaaTh2F
set_option linter.unusedSimpArgs false
set_option linter.unusedVariables false
namespace Go.Abs
theorem ints_getI (l : List Int) (k : Nat) (h : k < l.length) : (ints l)[k]? = some [.int .i64 (ati l k)] := by simp [ints, ati_get l k h]
theorem ati_behind (c l : List Int) (q : Nat) (h : c.length ≤ q) : ati (c ++ l.drop c.length) q = ati l q := by
  simp only [ati, List.getD_eq_getElem?_getD, List.getElem?_append_right h, List.getElem?_drop]
  rw [show c.length + (q - c.length) = q from by omega]
theorem cp_set (c l : List Int) (x : Int) (hc : c.length < l.length) : (c ++ l.drop c.length).set c.length x = (c ++ [x]) ++ l.drop (c.length + 1) := by
  rw [List.set_append_right _ _ (Nat.le_refl _), Nat.sub_self, List.append_assoc]
  congr 1
  rw [List.drop_eq_getElem_cons hc]; rfl
theorem ints_setI (l : List Int) (k : Nat) (x : Int) : (ints l).set k [.int .i64 x] = ints (l.set k x) := by simp [ints, List.map_set]
theorem cp_inner (l : List Int) (hl : l.length ≤ 1000000000) (b : Nat) (ty : TypeId) (K : Nat) (hK : 1 ≤ K) (hKl : K < l.length) (hdup : (compactI (l.take (K + 1))).length ≤ K) (H : AHeap) (hw : H.WF)
    (hb : H.get b = some ⟨ty, 1, true, ints (compactI (l.take (K + 1)) ++ l.drop (compactI (l.take (K + 1))).length)⟩) {r}
    (hr : aloop slices_Compact_int.l1 (AFr.al [(0, .sl b 1 0 l.length), (3, .int .i64 (compactI (l.take (K + 1))).length), (4, .sl b 1 K (l.length - K)), (5, .int .i64 1)]) H = r) :
    ∃ e fr' H', r = some (e, fr', H') ∧ (e = .exit 2 ∧ ∃ y, fr' = AFr.al ([(0, .sl b 1 0 l.length), (3, .int .i64 (compactI l).length), (4, .sl b 1 K (l.length - K))] ++ y) ∧ (compactI l).length < l.length ∧ H'.WF ∧ H'.next = H.next ∧ (∀ c, c ≠ b → H'.get c = H.get c) ∧
      H'.get b = some ⟨ty, 1, true, ints (compactI l ++ l.drop (compactI l).length)⟩) := by
  refine run_of hr (aloop_each (l.length - K - 1) (fun j fr H' => ∃ y, fr = AFr.al ([(0, .sl b 1 0 l.length), (3, .int .i64 (compactI (l.take (K + j + 1))).length), (4, .sl b 1 K (l.length - K)), (5, .int .i64 (j + 1 : Nat))] ++ y) ∧ (compactI (l.take (K + j + 1))).length ≤ K + j ∧ H'.WF ∧ H'.next = H.next ∧ (∀ c, c ≠ b → H'.get c = H.get c) ∧
      H'.get b = some ⟨ty, 1, true, ints (compactI (l.take (K + j + 1)) ++ l.drop (compactI (l.take (K + j + 1))).length)⟩) _ (fun j hj fr H' hR => ?_) (fun fr H' hR => ?_) ⟨[], rfl, hdup, hw, rfl, fun _ _ => rfl, hb⟩)
  · obtain ⟨y, rfl, hlen, hw', hn', ho', hb'⟩ := hR
    have hstep := compactI_next l (K + j + 1) (by omega) (by omega)
    rw [show K + (j + 1) + 1 = K + j + 1 + 1 from by omega, hstep]
    generalize compactI (l.take (K + j + 1)) = c at *
    have hin : ∀ q, c.length ≤ q → q < l.length → (ints (c ++ l.drop c.length))[q]? = some [.int .i64 (ati l q)] := fun q hq hql => by
      rw [ints_getI _ _ (by simp; omega), ati_behind c l q hq]
    have h1 := hin (K + (j + 1)) (by omega) (by omega)
    have h2 := hin (K + j) (by omega) (by omega)
    have hk1 : ((j + 1 : Nat) : Int) < ((l.length - K : Nat) : Int) := by omega
    have hj1 : (((j + 1 : Nat) : Int) - 1).toNat = j := by omega
    have hj0 : ((j + 1 : Nat) : Int) - 1 = (j : Int) := by omega
    have hj2 : ((j + 1 + 1 : Nat) : Int) = ((j + 1 : Nat) : Int) + 1 := by omega
    have hcl : (c.length : Int) < l.length := by omega
    have hJ : ((j + 1 : Nat) : Int).toNat = j + 1 := by omega
    simp only [show K + j + 1 - 1 = K + j from by omega]
    have hg1 : ati l (K + j + 1) = ati l (K + (j + 1)) := rfl
    rw [hg1]
    generalize ati l (K + (j + 1)) = x at *
    generalize ati l (K + j) = z at *
    rw [hj2]
    generalize hJe : ((j + 1 : Nat) : Int) = J at *
    by_cases hxz : z = x
    · subst hxz
      rw [if_pos rfl]
      refine ⟨_, _, _, by simp -implicitDefEqProofs +contextual (disch := omega) [slices_Compact_int.l1, hb', hk1, hj1, hj0, hJ, h1, h2]; first | rfl | exact ⟨rfl, rfl⟩ | exact ⟨rfl, rfl, rfl⟩, .inl ⟨rfl, _, rfl, by omega, hw', hn', ho', hb'⟩⟩
    · have hxz' : ¬ x = z := fun e => hxz e.symm
      rw [if_neg hxz]
      have hc1 : ((c.length + 1 : Nat) : Int) = (c.length : Int) + 1 := by omega
      have hset := cp_set c l x (by omega)
      have hset2 : (ints (c ++ l.drop c.length)).set c.length [.int .i64 x] = ints ((c ++ [x]) ++ l.drop (c.length + 1)) := by rw [ints_setI, hset]
      have hrow : (ints (c ++ l.drop c.length))[c.length]? = some [.int .i64 (ati l c.length)] := hin c.length (by omega) (by omega)
      generalize ati l c.length = u at *
      have hcl2 : (c ++ [x]).length = c.length + 1 := by simp
      rw [hcl2, hc1]
      refine ⟨_, _, _, by simp -implicitDefEqProofs +contextual (disch := omega) [slices_Compact_int.l1, hb', hk1, hj1, hj0, hJ, h1, h2, hxz', hrow, hset2, hcl]; first | rfl | exact ⟨rfl, rfl⟩ | exact ⟨rfl, rfl, rfl⟩, .inl ⟨rfl, _, rfl, by omega, ?_, ?_, ?_, ?_⟩⟩
      · exact AHeap.WF.set hw' (hw' _ _ hb')
      · exact hn'
      · intro c' hc'
        rw [AHeap.get_set, if_neg hc']; exact ho' c' hc'
      · rw [AHeap.get_set, if_pos rfl, List.append_assoc]; rfl
  · obtain ⟨y, rfl, hlen, hw', hn', ho', hb'⟩ := hR
    have e : l.take (K + (l.length - K - 1) + 1) = l := List.take_of_length_le (by omega)
    rw [e] at hlen hb' ⊢
    have hk1 : ¬ (((l.length - K - 1 + 1 : Nat) : Int) < ((l.length - K : Nat) : Int)) := by omega
    refine ⟨_, _, _, by simp -implicitDefEqProofs +contextual (disch := omega) [slices_Compact_int.l1, hk1]; first | rfl | exact ⟨rfl, rfl⟩ | exact ⟨rfl, rfl, rfl⟩, by simp, rfl, _, rfl, by omega, hw', hn', ho', hb'⟩
theorem zeros_ints (n : Nat) : List.replicate n [AV.int .i64 0] = ints (List.replicate n 0) := by simp [ints]
structure CpOut (H H' : AHeap) (b : Nat) (ty : TypeId) (l : List Int) (v : AV) : Prop where
  v : v = .sl b 1 0 (compactI l).length
  wf : H'.WF
  nx : H'.next = H.next
  oth : ∀ c, c ≠ b → H'.get c = H.get c
  got : ∃ z, H'.get b = some ⟨ty, 1, true, ints (compactI l ++ z)⟩
theorem cp_loop (l : List Int) (hl : l.length ≤ 1000000000) (h2 : 1 ≤ l.length) (b : Nat) (ty : TypeId) (H : AHeap) (hw : H.WF) (hb : H.get b = some ⟨ty, 1, true, ints l⟩) {r}
    (hr : aloop slices_Compact_int.l0 (AFr.al [(0, .sl b 1 0 l.length), (3, .int .i64 1)]) H = r) :
    ∃ e fr' H', r = some (e, fr', H') ∧ ((e = .exit 0 ∧ fr' 0 = .sl b 1 0 l.length ∧ compactI l = l ∧ H' = H) ∨ (e = .ret ∧ CpOut H H' b ty l (fr' 2))) := by
  refine run_of hr (aloop_each (l.length - 1) (fun j fr H' => H' = H ∧ compactI (l.take (j + 1)) = l.take (j + 1) ∧ ∃ y, fr = AFr.al ([(0, .sl b 1 0 l.length), (3, .int .i64 (j + 1 : Nat))] ++ y)) _ (fun j hj fr H' hR => ?_) (fun fr H' hR => ?_) ⟨rfl, compactI_one l h2, [], rfl⟩)
  · obtain ⟨rfl, hc, y, rfl⟩ := hR
    have hstep := compactI_next l (j + 1) (by omega) (by omega)
    rw [hc] at hstep
    have hk1 : ((j + 1 : Nat) : Int) < l.length := by omega
    have hj1 : (((j + 1 : Nat) : Int) - 1).toNat = j := by omega
    have hj2 : ((j + 1 + 1 : Nat) : Int) = ((j + 1 : Nat) : Int) + 1 := by omega
    have hJ : ((j + 1 : Nat) : Int).toNat = j + 1 := by omega
    have hlt : (l.take (j + 1)).length = j + 1 := by simp; omega
    simp only [show j + 1 - 1 = j from by omega] at hstep
    have hpos : 1 ≤ (compactI l).length := by
      cases l with
      | nil => simp at h2
      | cons a t =>
        have : a ∈ compactI (a :: t) := (mem_compactI a (a :: t)).2 (by simp)
        exact List.length_pos_of_mem this
    by_cases hxz : ati l j = ati l (j + 1)
    · rw [if_pos hxz] at hstep
      have hin := fun r => @cp_inner l hl b ty (j + 1) (by omega) (by omega) (by rw [hstep, hlt]; exact Nat.le_refl _) H' hw (by rw [hstep, hlt, List.take_append_drop]; exact hb) r
      rw [hstep, hlt] at hin
      generalize hJe : ((j + 1 : Nat) : Int) = J at *
      have hjl : j + 1 < l.length := by omega
      have hjl2 : j < l.length := by omega
      generalize hr2 : slices_Compact_int.l0 _ H' = r2
      simp -implicitDefEqProofs +contextual (disch := omega) [slices_Compact_int.l0, hb, hk1, hj1, hJ, hjl, hjl2, hxz] at hr2
      generalize hr3 : aloop _ _ _ = r3 at hr2
      obtain ⟨e, fr3, X3, rfl, rfl, y3, rfl, hlt3, w3, n3, o3, g3⟩ := hin _ hr3
      have hm0 : ¬ (compactI l).length = 0 := by omega
      have e1 : (ints (compactI l ++ l.drop (compactI l).length)).take (compactI l).length = ints (compactI l) := by rw [ints_take, List.take_left]
      simp -implicitDefEqProofs +contextual (disch := omega) [g3, hm0, hlt3, e1] at hr2
      subst hr2
      refine ⟨_, _, _, rfl, .inr ⟨by simp, .inr ⟨rfl, rfl, ?_, ?_, ?_, ?_⟩⟩⟩
      · exact AHeap.WF.set w3 (w3 _ _ g3)
      · exact n3
      · intro c hc'
        rw [AHeap.get_set, if_neg hc']; exact o3 c hc'
      · rw [AHeap.get_set, if_pos rfl, zeros_ints, ints_drop, ints_append, ints_append]
        exact ⟨_, rfl⟩
    · have hxz' : ¬ ati l (j + 1) = ati l j := fun e => hxz e.symm
      rw [if_neg hxz] at hstep
      have hjl : j + 1 < l.length := by omega
      have hjl2 : j < l.length := by omega
      rw [hj2]
      generalize hJe : ((j + 1 : Nat) : Int) = J at *
      refine ⟨_, _, _, by simp -implicitDefEqProofs +contextual (disch := omega) [slices_Compact_int.l0, hb, hk1, hj1, hJ, hjl, hjl2, hxz']; first | rfl | exact ⟨rfl, rfl⟩ | exact ⟨rfl, rfl, rfl⟩, .inl ⟨rfl, rfl, ?_, _, rfl⟩⟩
      rw [hstep, List.take_succ_eq_append_getElem (by omega : j + 1 < l.length), ati_eq l (j + 1) (by omega)]
  · obtain ⟨rfl, hc, y, rfl⟩ := hR
    have e : l.take (l.length - 1 + 1) = l := List.take_of_length_le (by omega)
    rw [e] at hc
    have hk1 : ¬ (((l.length - 1 + 1 : Nat) : Int) < l.length) := by omega
    refine ⟨_, _, _, by simp -implicitDefEqProofs +contextual (disch := omega) [slices_Compact_int.l0, hk1]; first | rfl | exact ⟨rfl, rfl⟩ | exact ⟨rfl, rfl, rfl⟩, by simp, .inl ⟨rfl, rfl, hc, rfl⟩⟩
theorem Compact_eq (l : List Int) (hl : l.length ≤ 1000000000) (b : Nat) (ty : TypeId) (H : AHeap) (hw : H.WF) (hb : H.get b = some ⟨ty, 1, true, ints l⟩) :
    ∃ v H', slices_Compact_int.spec [.sl b 1 0 l.length] H = some (v, H') ∧ CpOut H H' b ty l v := by
  by_cases h : l.length < 2
  · have h' : (l.length : Int) < 2 := by omega
    have hc : compactI l = l := by
      match l, h with
      | [], _ => rfl
      | [a], _ => rfl
    refine ⟨.sl b 1 0 l.length, H, by simp -implicitDefEqProofs +contextual (disch := omega) [slices_Compact_int.spec, slices_Compact_int, h'], by rw [hc], hw, rfl, fun _ _ => rfl, [], by rw [hc, List.append_nil]; exact hb⟩
  · have h' : ¬ (l.length : Int) < 2 := by omega
    generalize hr2 : slices_Compact_int.spec _ H = r2
    simp -implicitDefEqProofs +contextual (disch := omega) [slices_Compact_int.spec, slices_Compact_int, h'] at hr2
    generalize hr3 : aloop _ _ _ = r3 at hr2
    obtain ⟨e, fr3, X3, rfl, hq⟩ := cp_loop l hl (by omega) b ty H hw hb hr3
    rcases hq with ⟨rfl, h1, hc, rfl⟩ | ⟨rfl, ho⟩
    · simp -implicitDefEqProofs +contextual (disch := omega) [h1] at hr2
      subst hr2
      exact ⟨_, _, rfl, by rw [hc], hw, rfl, fun _ _ => rfl, [], by rw [hc, List.append_nil]; exact hb⟩
    · simp -implicitDefEqProofs +contextual (disch := omega) at hr2
      subst hr2
      exact ⟨_, _, rfl, ho⟩
end Go.Abs

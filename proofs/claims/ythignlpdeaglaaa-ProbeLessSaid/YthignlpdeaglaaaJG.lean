import Derived.Test.YthignlpdeaglaaaJC
import Derived.Test.YthignlpdeaglaaaJA
import Derived.Test.YthignlpdeaglaaaPbF
import Derived.Test.YthignlpdeaglaaaQI
import Derived.Test.YthignlpdeaglaaaJF
section
set_option linter.unusedSimpArgs false
set_option linter.unusedVariables false
namespace Go.Abs
def askCells (c : CodeM) (s d : Int) : List AV := [.int .i64 c.inN, .rsl 4 (opRows c.ops), .rsl 1 (ints c.outs), .int .i64 s, .int .i64 d]
def outOf (c : CodeM) (x : Int) : Bool := decide (x < 0) || decide (c.inN + c.ops.length ≤ x)
theorem looks1_eq (c : CodeM) (hl : c.ops.length ≤ 60000) (hin : 0 ≤ c.inN ∧ c.inN ≤ 4000) (s d : Int) (X : AHeap) (hX : X.WF) (b : Nat) (h : X.get b = some ⟨T.ty_probe_asked, 5, true, [askCells c s d]⟩) (x : Int) :
    probe_asked_looks_1.spec [.int .i64 x, .ptr b 5 0 0] X = some (.bool (outOf c x), X) := by
  have e : probe_asked_looks_1.spec [.int .i64 x, .ptr b 5 0 0] X = forget X (some ([.bool (outOf c x)], X)) := by
    unfold askCells at h
    by_cases h1 : x < 0
    · simp -implicitDefEqProofs +contextual (disch := try first | omega | assumption | (simp; done)) [probe_asked_looks_1.spec, probe_asked_looks_1, h, h1, outOf]
    · simp -implicitDefEqProofs +contextual (disch := try first | omega | assumption | (simp; done)) [probe_asked_looks_1.spec, probe_asked_looks_1, h, h1, outOf]
  rw [e, forget_eq hX (Nat.le_refl _) (fun _ _ => rfl) rfl]
  rfl
theorem index_eq (c : CodeM) (hl : c.ops.length ≤ 60000) (hin : 0 ≤ c.inN ∧ c.inN ≤ 4000) (s d : Int) (X : AHeap) (hX : X.WF) (b : Nat) (h : X.get b = some ⟨T.ty_probe_asked, 5, true, [askCells c s d]⟩) (l : List Int) (hll : l.length ≤ 1000000000) :
    ∃ i : Int, slices_IndexFunc_int.spec [.rsl 1 (ints l), .clo 64 [] [.ptr b 5 0 0]] X = some (.int .i64 i, X) ∧ (0 ≤ i ↔ l.any (outOf c) = true) := by
  have hC : slices_IndexFunc_int.C probe_asked_looks_1.spec 64 = some (.ref [false] probe_asked_looks_1.spec) := by simp [slices_IndexFunc_int.C, Tab.add]
  have hrun : ∃ (i : Int), slices_IndexFunc_int.spec [.rsl 1 (ints l), .clo 64 [] [.ptr b 5 0 0]] X = forget X (some ([.int .i64 i], X)) ∧ (0 ≤ i ↔ l.any (outOf c) = true) := by
    generalize hA : l.any (outOf c) = A
    simp -implicitDefEqProofs +contextual (disch := omega) [slices_IndexFunc_int.spec, slices_IndexFunc_int]
    generalize hr : aloop _ _ _ = r
    obtain ⟨e, fr', X', rfl, rfl, hq⟩ : ∃ e fr' X', r = some (e, fr', X') ∧ (X' = X ∧ ((e = .exit 0 ∧ A = false) ∨ (e = .ret ∧ A = true ∧ ∃ k : Nat, fr' 4 = .int .i64 k))) := by
      refine run_of hr (aloop_each l.length (fun k fr H => H = X ∧ (∃ y, fr = AFr.al ([(0, .rsl 1 (ints l)), (1, .clo 64 [] [.ptr b 5 0 0]), (7, .int .i64 l.length), (8, .int .i64 k)] ++ y)) ∧ (l.take k).any (outOf c) = false) _ (fun k hk fr H hR => ?_) (fun fr H hR => ?_) ⟨rfl, ⟨[], rfl⟩, rfl⟩)
      · obtain ⟨rfl, ⟨y, rfl⟩, h3⟩ := hR
        have hk' : (k : Int) < l.length := by omega
        have hk1 : ((k + 1 : Nat) : Int) = (k : Int) + 1 := by omega
        have hrow := ints_at l k hk
        have hme : l[k] ∈ l := List.getElem_mem hk
        have h1 := looks1_eq c hl hin s d H hX b h l[k]
        have hs : (l.take (k + 1)).any (outOf c) = outOf c l[k] := by rw [List.take_succ_eq_append_getElem hk, List.any_append, h3]; simp
        rw [hs]
        generalize l[k] = x at *
        cases hv : outOf c x with
        | true =>
          rw [hv] at h1
          refine ⟨_, _, _, by simp -implicitDefEqProofs +contextual (disch := omega) [slices_IndexFunc_int.l0, acallClo, acallR, hC, hrow, hk', h1]; first | rfl | exact ⟨rfl, rfl⟩ | exact ⟨rfl, rfl, rfl⟩, .inr ⟨by simp, rfl, .inr ⟨rfl, hA.symm.trans (List.any_eq_true.2 ⟨x, hme, hv⟩), k, by simp⟩⟩⟩
        | false =>
          rw [hv] at h1
          rw [hk1]
          refine ⟨_, _, _, by simp -implicitDefEqProofs +contextual (disch := omega) [slices_IndexFunc_int.l0, acallClo, acallR, hC, hrow, hk', h1]; first | rfl | exact ⟨rfl, rfl⟩ | exact ⟨rfl, rfl, rfl⟩, .inl ⟨rfl, rfl, ⟨_, rfl⟩, rfl⟩⟩
      · obtain ⟨rfl, ⟨y, rfl⟩, h3⟩ := hR
        rw [List.take_length] at h3
        refine ⟨_, _, _, by simp -implicitDefEqProofs +contextual (disch := omega) [slices_IndexFunc_int.l0]; first | rfl | exact ⟨rfl, rfl⟩ | exact ⟨rfl, rfl, rfl⟩, by simp, rfl, .inl ⟨rfl, hA.symm.trans h3⟩⟩
    rcases hq with ⟨rfl, q⟩ | ⟨rfl, q, k, hk⟩
    · refine ⟨-1, by simp -implicitDefEqProofs +contextual (disch := omega) [], by rw [q]; simp⟩
    · refine ⟨k, by simp -implicitDefEqProofs +contextual (disch := omega) [hk], by rw [q]; simp⟩
  obtain ⟨i, h1, h2⟩ := hrun
  refine ⟨i, ?_, h2⟩
  rw [h1, forget_eq hX (Nat.le_refl _) (fun _ _ => rfl) rfl]
  rfl
theorem contains_eq (c : CodeM) (hl : c.ops.length ≤ 60000) (hin : 0 ≤ c.inN ∧ c.inN ≤ 4000) (s d : Int) (X : AHeap) (hX : X.WF) (b : Nat) (h : X.get b = some ⟨T.ty_probe_asked, 5, true, [askCells c s d]⟩) (l : List Int) (hll : l.length ≤ 1000000000) :
    slices_ContainsFunc_int.spec [.rsl 1 (ints l), .clo 64 [] [.ptr b 5 0 0]] X = some (.bool (l.any (outOf c)), X) := by
  obtain ⟨i, h1, h2⟩ := index_eq c hl hin s d X hX b h l hll
  have e : slices_ContainsFunc_int.spec [.rsl 1 (ints l), .clo 64 [] [.ptr b 5 0 0]] X = forget X (some ([.bool (l.any (outOf c))], X)) := by
    by_cases hi : 0 ≤ i
    · simp -implicitDefEqProofs +contextual (disch := omega) [slices_ContainsFunc_int.spec, slices_ContainsFunc_int, h1, hi, h2.1 hi]
    · have : l.any (outOf c) = false := by
        rw [Bool.eq_false_iff]; exact fun q => hi (h2.2 q)
      simp -implicitDefEqProofs +contextual (disch := omega) [slices_ContainsFunc_int.spec, slices_ContainsFunc_int, h1, hi, this]
  rw [e, forget_eq hX (Nat.le_refl _) (fun _ _ => rfl) rfl]
  rfl
def asksOk (c : CodeM) (s d : Int) : Prop := c.can = true ∧ 0 ≤ s ∧ s ≤ 4 ∧ 0 ≤ d ∧ d ≤ 6 ∧ s * (d + 1) ≤ c.inN
instance (c : CodeM) (s d : Int) : Decidable (asksOk c s d) := by unfold asksOk; infer_instance
def looksM (c : CodeM) (s d : Int) (probes : List Int) : Int :=
  if ¬ asksOk c s d then 1 else if probes.any (outOf c) = true then 1 else if 12 < s * d + c.randoms ∨ 5 < probes.length then 150 else 0
theorem mul_bound (s d : Int) (h1 : 0 ≤ s) (h2 : s ≤ 4) (h3 : 0 ≤ d) (h4 : d ≤ 6) : (0 ≤ s * (d + 1) ∧ s * (d + 1) ≤ 28) ∧ 0 ≤ s * d ∧ s * d ≤ 24 := by
  have : s = 0 ∨ s = 1 ∨ s = 2 ∨ s = 3 ∨ s = 4 := by omega
  rcases this with rfl | rfl | rfl | rfl | rfl <;> omega
set_option maxHeartbeats 2000000 in
theorem looks_eq (c : CodeM) (hb : c.outs.length ≤ 1000000000) (hb2 : c.ops.length ≤ 1000000000) (s d : Int) (probes : List Int) (hp : probes.length ≤ 1000000000) :
    probe_asked_looks.spec [.agg (askCells c s d), .rsl 1 (ints probes)] = some (.int .i64 (looksM c s d probes)) := by
  have hC := Can_eq' c hb hb2
  have hR := Randoms_eq' c hb2
  have hK := contains_eq c
  unfold looksM asksOk
  unfold CodeM.cells at hC hR
  unfold askCells
  by_cases hcan : c.can = true
  case neg =>
    rw [Bool.not_eq_true] at hcan
    rw [hcan] at hC
    simp -implicitDefEqProofs +contextual (disch := omega) [probe_asked_looks.spec, probe_asked_looks, hC, hcan]
  case pos =>
    rw [hcan] at hC
    have hcan' := hcan
    unfold CodeM.can at hcan'
    simp only [Bool.and_eq_true, decide_eq_true_eq] at hcan'
    obtain ⟨⟨⟨⟨q1, q2⟩, q3⟩, q4⟩, q5⟩ := hcan'
    by_cases s1 : 0 ≤ s
    · by_cases s2 : s ≤ 4
      · by_cases d1 : 0 ≤ d
        · by_cases d2 : d ≤ 6
          · obtain ⟨⟨m1, m2⟩, m3, m4⟩ := mul_bound s d s1 s2 d1 d2
            have hK := hK q3 ⟨q1, q2⟩ s d (AHeap.empty.push ⟨T.ty_probe_asked, 5, true, [askCells c s d]⟩) (AHeap.WF.push AHeap.WF.empty) 0 (by simp) probes hp
            unfold askCells at hK
            have hrl := rndL_le c.ops
            have hrn : c.randoms ≤ 60000 := Nat.le_trans hrl q3
            obtain ⟨m, hm⟩ : ∃ m, s * (d + 1) = m := ⟨_, rfl⟩
            obtain ⟨n, hn⟩ : ∃ n, s * d = n := ⟨_, rfl⟩
            rw [hm] at m1 m2
            rw [hn] at m3 m4
            have n1 : ¬ s < 0 := by omega
            have n2 : ¬ 4 < s := by omega
            have n3 : ¬ d < 0 := by omega
            have n4 : ¬ 6 < d := by omega
            by_cases e1 : m ≤ c.inN
            · have n5 : ¬ c.inN < m := by omega
              cases hany : probes.any (outOf c) with
              | true =>
                rw [hany] at hK
                simp -implicitDefEqProofs +contextual (disch := omega) [probe_asked_looks.spec, probe_asked_looks, hC, hcan, n1, n2, n3, n4, n5, hm, hK, s1, s2, d1, d2, e1]
              | false =>
                rw [hany] at hK
                by_cases r1 : 12 < n + c.randoms
                · simp -implicitDefEqProofs +contextual (disch := omega) [probe_asked_looks.spec, probe_asked_looks, hC, hcan, n1, n2, n3, n4, n5, hm, hn, hK, s1, s2, d1, d2, e1, hR, r1]
                · by_cases r2 : 5 < probes.length
                  · simp -implicitDefEqProofs +contextual (disch := omega) [probe_asked_looks.spec, probe_asked_looks, hC, hcan, n1, n2, n3, n4, n5, hm, hn, hK, s1, s2, d1, d2, e1, hR, r1, r2]
                  · have r2' : ¬ (5 : Int) < probes.length := by omega
                    simp -implicitDefEqProofs +contextual (disch := omega) [probe_asked_looks.spec, probe_asked_looks, hC, hcan, n1, n2, n3, n4, n5, hm, hn, hK, s1, s2, d1, d2, e1, hR, r1, r2, r2']
            · have n5 : c.inN < m := by omega
              simp -implicitDefEqProofs +contextual (disch := omega) [probe_asked_looks.spec, probe_asked_looks, hC, hcan, n1, n2, n3, n4, n5, hm, e1]
          · have n4 : 6 < d := by omega
            have n1 : ¬ s < 0 := by omega
            have n2 : ¬ 4 < s := by omega
            have n3 : ¬ d < 0 := by omega
            simp -implicitDefEqProofs +contextual (disch := omega) [probe_asked_looks.spec, probe_asked_looks, hC, hcan, n1, n2, n3, n4, d2]
        · have n3 : d < 0 := by omega
          have n1 : ¬ s < 0 := by omega
          have n2 : ¬ 4 < s := by omega
          simp -implicitDefEqProofs +contextual (disch := omega) [probe_asked_looks.spec, probe_asked_looks, hC, hcan, n1, n2, n3, d1]
      · have n2 : 4 < s := by omega
        have n1 : ¬ s < 0 := by omega
        simp -implicitDefEqProofs +contextual (disch := omega) [probe_asked_looks.spec, probe_asked_looks, hC, hcan, n1, n2, s2]
    · have n1 : s < 0 := by omega
      simp -implicitDefEqProofs +contextual (disch := omega) [probe_asked_looks.spec, probe_asked_looks, hC, hcan, n1, s1]
end Go.Abs
end
section
set_option linter.unusedSimpArgs false
set_option linter.unusedVariables false
namespace Go.Abs
theorem shl_one (q : QK) (a : Int) (h0 : 0 ≤ a) (h1 : a ≤ 1000000000) : abinR q .shl (.int .i64 a) (W64 1#64) = some (.int .i64 (a * 2)) := by
  unfold W64
  rw [bin_shl _ _ _ _ _ (by simp)]
  have e : (min (((1#64 : BitVec 64).toNat : Int).toNat) (IntKind.bits .i64)) = 1 := by decide
  rw [e, IntWalk.i64_in _ (by omega)]
  simp
theorem or_bit (q : QK) (a b : Nat) (h1 : a ≤ 1000000000) (hb : b < 2) : abinR q .or (.int .i64 ((a : Int) * 2)) (.int .i64 b) = some (.int .i64 ((a * 2 + b : Nat) : Int)) := by
  rw [bin_or]
  have e : (BitVec.ofInt (IntKind.bits .i64) ((a : Int) * 2) ||| BitVec.ofInt (IntKind.bits .i64) (b : Int)).toNat = a * 2 + b := by
    have ha : (a : Int) * 2 = ((a * 2 : Nat) : Int) := by omega
    rw [ha, BitVec.toNat_or, BitVec.ofInt_natCast, BitVec.ofInt_natCast, BitVec.toNat_ofNat, BitVec.toNat_ofNat, Nat.mod_eq_of_lt (by simp; omega), Nat.mod_eq_of_lt (by simp; omega)]
    have := Nat.two_pow_add_eq_or_of_lt (i := 1) (b := b) (by omega) a
    rw [Nat.mul_comm a 2, ← Nat.pow_one 2, ← this]
  rw [e, IntWalk.i64_in _ (by omega)]
theorem join_eq (l : List (BitVec 32)) (hl : l.length ≤ 1000000000) : share_join.spec [.rsl 1 (w32s l)] = some (W32 (xorL l)) := by
  simp -implicitDefEqProofs +contextual (disch := omega) [share_join.spec, share_join]
  generalize hr : aloop _ _ _ = r
  obtain ⟨e, fr', X', rfl, rfl, hq⟩ : ∃ e fr' X', r = some (e, fr', X') ∧ (e = .exit 0 ∧ fr' 3 = W32 (xorL l)) := by
    refine run_of hr (aloop_each l.length (fun k fr H => ∃ y, fr = AFr.al ([(3, W32 (xorL (l.take k))), (6, .rsl 1 (w32s l)), (7, .int .i64 l.length), (8, .int .i64 k)] ++ y)) _ (fun k hk fr H hR => ?_) (fun fr H hR => ?_) ⟨[], rfl⟩)
    · obtain ⟨y, rfl⟩ := hR
      have hk' : (k : Int) < l.length := by omega
      have hk1 : ((k + 1 : Nat) : Int) = (k : Int) + 1 := by omega
      have e : xorL (l.take (k + 1)) = xorL (l.take k) ^^^ at0 l k := by
        rw [List.take_succ_eq_append_getElem hk, xorL_append, at0_eq l k hk]; simp [xorL_cons]
      rw [e, hk1]
      refine ⟨_, _, _, by simp -implicitDefEqProofs +contextual (disch := omega) [share_join.l0, hk']; first | rfl | exact ⟨rfl, rfl⟩ | exact ⟨rfl, rfl, rfl⟩, .inl ⟨rfl, _, rfl⟩⟩
    · obtain ⟨y, rfl⟩ := hR
      refine ⟨_, _, _, by simp -implicitDefEqProofs +contextual (disch := omega) [share_join.l0]; first | rfl | exact ⟨rfl, rfl⟩ | exact ⟨rfl, rfl, rfl⟩, by simp, rfl, by simp⟩
  simp -implicitDefEqProofs +contextual (disch := omega) [hq]
theorem w32s_cons (x : BitVec 32) (l : List (BitVec 32)) : w32s (x :: l) = [W32 x] :: w32s l := rfl
theorem split_eq (w : BitVec 32) (ms : List (BitVec 32)) (hl : ms.length ≤ 1000000) : share_Split.spec [W32 w, .rsl 1 (w32s ms)] = some (.rsl 1 (w32s (shares w ms))) := by
  have hJ := join_eq ms (by omega)
  unfold shares
  generalize xorL ms = z at *
  by_cases h : w32s ms = []
  · have hz : ms = [] := by simpa [w32s] using h
    subst hz
    rw [h] at hJ
    simp -implicitDefEqProofs +contextual (disch := try first | omega | assumption | (simp; done)) [share_Split.spec, share_Split, hJ, h, w32s_cons]
  · have ht : ([W32 (w ^^^ z)] :: w32s ms).take (1 + ms.length) = [W32 (w ^^^ z)] :: w32s ms := List.take_of_length_le (by simp; omega)
    simp -implicitDefEqProofs +contextual (disch := try first | omega | assumption | (simp; done)) [share_Split.spec, share_Split, hJ, h, w32s_cons, ht]
def pbits (n : BitVec 32) (k : Nat) : List (BitVec 32) := (List.range k).map fun i => (n >>> i) &&& 1#32
theorem pbits_succ (n : BitVec 32) (m : Nat) : pbits n (m + 1) = pbits n m ++ [(n >>> m) &&& 1#32] := by
  unfold pbits; rw [List.range_succ, List.map_append]; rfl
@[simp] theorem pbits_length (n : BitVec 32) (m : Nat) : (pbits n m).length = m := by simp [pbits]
theorem and_one (x : BitVec 32) : x &&& 1#32 = BitVec.ofNat 32 (x.toNat % 2) := by
  apply BitVec.eq_of_toNat_eq
  rw [BitVec.toNat_and, BitVec.toNat_ofNat]
  simp [Nat.and_one_is_mod]
  omega
theorem pbits_eq (N k : Nat) (hN : N < 2 ^ 32) (hk : k ≤ 32) : pbits (BitVec.ofNat 32 N) k = bitsM N k := by
  unfold pbits bitsM
  apply List.map_congr_left
  intro i hi
  rw [and_one, BitVec.toNat_ushiftRight, BitVec.toNat_ofNat, Nat.mod_eq_of_lt hN, Nat.shiftRight_eq_div_pow]
theorem probe_bits_eq (n : BitVec 32) (m : Nat) (hm : m ≤ 1000) : probe_bits.spec [W32 n, .int .i64 m] = some (.rsl 1 (w32s (pbits n m))) := by
  simp -implicitDefEqProofs +contextual (disch := omega) [probe_bits.spec, probe_bits]
  generalize hr : aloop _ _ _ = r
  obtain ⟨e, fr', X', rfl, rfl, hq⟩ : ∃ e fr' X', r = some (e, fr', X') ∧ (e = .exit 0 ∧ Rl X' [] T.ty_uint32 1 (fr' 5) (w32s (pbits n m))) := by
    refine run_of hr (aloop_each m (fun k fr H => ∃ y v, fr = AFr.al ([(0, W32 n), (5, v), (7, .int .i64 m), (8, .int .i64 k)] ++ y) ∧ H.WF ∧ Rl H [] T.ty_uint32 1 v (w32s (pbits n k))) _ (fun k hk fr H hR => ?_) (fun fr H hR => ?_) ⟨[], .nils, by simp, by (repeat' (first | assumption | with_reducible apply AHeap.WF.push | with_reducible apply AHeap.WF.set | with_reducible apply killAll_wf | exact AHeap.WF.empty)) <;> (simp <;> omega), .inl ⟨by simp [pbits, w32s], rfl⟩⟩)
    · obtain ⟨y, v, rfl, hw, gb⟩ := hR
      have hk' : (k : Int) < m := by omega
      have hk1 : ((k + 1 : Nat) : Int) = (k : Int) + 1 := by omega
      have hlen : (pbits n k).length = k := by simp
      rw [pbits_succ, hk1]
      generalize pbits n k = l at *
      rcases gb with ⟨q1, rfl⟩ | ⟨ob, _, rfl, gb⟩
      · have hz : l = [] := by simpa [w32s] using q1
        subst hz
        refine ⟨_, _, _, by simp -implicitDefEqProofs +contextual (disch := omega) [probe_bits.l0, hk']; first | rfl | exact ⟨rfl, rfl⟩ | exact ⟨rfl, rfl, rfl⟩, .inl ⟨rfl, _, _, rfl, ?_, .inr ⟨_, by simp, by simp; rfl, ?_⟩⟩⟩
        · (repeat' (first | assumption | with_reducible apply AHeap.WF.push | with_reducible apply AHeap.WF.set | with_reducible apply killAll_wf | exact AHeap.WF.empty)) <;> (simp <;> omega)
        · simp (disch := omega) [w32s]
      · have hbo := hw _ _ gb
        refine ⟨_, _, _, by simp -implicitDefEqProofs +contextual (disch := omega) [probe_bits.l0, hk', gb]; first | rfl | exact ⟨rfl, rfl⟩ | exact ⟨rfl, rfl, rfl⟩, .inl ⟨rfl, _, _, rfl, ?_, .inr ⟨_, by simp, by simp; rfl, ?_⟩⟩⟩
        · (repeat' (first | assumption | with_reducible apply AHeap.WF.push | with_reducible apply AHeap.WF.set | with_reducible apply killAll_wf | exact AHeap.WF.empty)) <;> (simp <;> omega)
        · simp (disch := omega) [w32s_snoc]
    · obtain ⟨y, v, rfl, hw, gb⟩ := hR
      refine ⟨_, _, _, by simp -implicitDefEqProofs +contextual (disch := omega) [probe_bits.l0]; first | rfl | exact ⟨rfl, rfl⟩ | exact ⟨rfl, rfl, rfl⟩, by simp, rfl, by simpa using gb⟩
  rcases hq with ⟨q1, q2⟩ | ⟨ob, _, q2, gb⟩
  · simp -implicitDefEqProofs +contextual (disch := omega) [q1, q2]
  · have ht : (w32s (pbits n m)).take m = w32s (pbits n m) := List.take_of_length_le (by simp)
    simp -implicitDefEqProofs +contextual (disch := omega) [q2, gb, ht]
end Go.Abs
end
section
set_option linter.unusedSimpArgs false
set_option linter.unusedVariables false
namespace Go.Abs
def askBlk (c : CodeM) (s d : Int) : Blk := ⟨T.ty_probe_asked, 5, true, [[.int .i64 c.inN, .rsl 4 (opRows c.ops), .rsl 1 (ints c.outs), .int .i64 s, .int .i64 d]]⟩
structure SpI (c : CodeM) (ns d : Nat) (X : AHeap) (l : List Int) : Prop where
  wf : X.WF
  g0 : X.get 0 = some (askBlk c ns d)
  g1 : X.get 1 = some ⟨T.ty_int, 1, true, ints l⟩
noncomputable abbrev spL0 := probe_asked_spread.l0 isw_Randoms.spec probe_bits.spec share_Split.spec isw_Exec.spec
noncomputable abbrev spL1 := probe_asked_spread.l1 isw_Randoms.spec probe_bits.spec share_Split.spec isw_Exec.spec
noncomputable abbrev spL2 := probe_asked_spread.l2 isw_Randoms.spec probe_bits.spec share_Split.spec isw_Exec.spec
noncomputable abbrev spL3 := probe_asked_spread.l3 isw_Randoms.spec probe_bits.spec share_Split.spec isw_Exec.spec
def spFr (s p : BitVec 32) (probes : List Int) (S masks tapes : Nat) (x : List (Nat × AV)) : AFr :=
  AFr.al ([(1, W32 s), (2, W32 p), (3, .rsl 1 (ints probes)), (4, .ptr 0 5 0 0), (9, .sl 1 1 0 S), (10, .int .i64 masks), (11, .int .i64 tapes)] ++ x)
theorem SpI.newb {c : CodeM} {ns d : Nat} {X X' : AHeap} {l : List Int} (h : SpI c ns d X l) (hw : X'.WF) (hk : ∀ k, k < 2 → X'.get k = X.get k) : SpI c ns d X' l := ⟨hw, by rw [hk 0 (by omega)]; exact h.g0, by rw [hk 1 (by omega)]; exact h.g1⟩
def shUpto (ns d : Nat) (s : BitVec 32) (m : List (BitVec 32)) : List (BitVec 32) := (List.range ns).flatMap fun i => shares (bitW s i) ((m.drop (i * d)).take d)
theorem shUpto_succ (i d : Nat) (s : BitVec 32) (m : List (BitVec 32)) : shUpto (i + 1) d s m = shUpto i d s m ++ shares (bitW s i) ((m.drop (i * d)).take d) := by
  unfold shUpto; rw [List.range_succ, List.flatMap_append]; simp
theorem shUpto_len (d : Nat) (s : BitVec 32) (m : List (BitVec 32)) : ∀ i, i * d ≤ m.length → (shUpto i d s m).length = i * (d + 1)
  | 0, _ => by simp [shUpto]
  | i + 1, h => by
    have h1 : i * d + d ≤ m.length := by rw [← Nat.succ_mul]; exact h
    have ih := shUpto_len d s m i (by omega)
    rw [shUpto_succ, List.length_append, ih]
    have e : (shares (bitW s i) ((m.drop (i * d)).take d)).length = d + 1 := by simp [shares]; omega
    rw [e, Nat.succ_mul]
theorem sp_shares (c : CodeM) (ns d : Nat) (hns : ns ≤ 4) (hd : d ≤ 6) (s p n q : BitVec 32) (probes : List Int) (S masks tapes : Nat) (m : List (BitVec 32)) (hm : m.length = ns * d) (X : AHeap) (l : List Int) (h : SpI c ns d X l) {r}
    (hr : aloop spL1 (spFr s p probes S masks tapes [(12, W32 n), (13, .rsl 1 (w32s m)), (14, .nils), (37, W32 q), (38, W32 n), (45, .int .i64 ns), (46, .int .i64 0)]) X = r) :
    ∃ e fr' X', r = some (e, fr', X') ∧ (e = .exit 2 ∧ SpI c ns d X' l ∧ ∃ y v, fr' = spFr s p probes S masks tapes ([(12, W32 n), (13, .rsl 1 (w32s m)), (14, v), (37, W32 q), (38, W32 n)] ++ y) ∧ Rl X' [0, 1] T.ty_uint32 1 v (w32s (shUpto ns d s m))) := by
  refine run_of hr (aloop_each ns (fun k fr H => SpI c ns d H l ∧ ∃ y v, fr = spFr s p probes S masks tapes ([(12, W32 n), (13, .rsl 1 (w32s m)), (14, v), (37, W32 q), (38, W32 n), (45, .int .i64 ns), (46, .int .i64 k)] ++ y) ∧ Rl H [0, 1] T.ty_uint32 1 v (w32s (shUpto k d s m))) _ (fun k hk fr H hR => ?_) (fun fr H hR => ?_) ⟨h, [], .nils, rfl, .inl ⟨rfl, rfl⟩⟩)
  · obtain ⟨I, y, v, rfl, gb⟩ := hR
    have hk' : (k : Int) < ns := by omega
    have hk1 : ((k + 1 : Nat) : Int) = (k : Int) + 1 := by omega
    have g0 := I.g0
    have g1 := I.g1
    have hw := I.wf
    have b0 := hw _ _ g0
    have b1 := hw _ _ g1
    simp only [askBlk] at g0
    have hle : k * d + d ≤ ns * d := by rw [← Nat.succ_mul]; exact Nat.mul_le_mul_right _ hk
    have hsm := shUpto_len d s m k (by omega)
    have hkd : k * d ≤ 24 := Nat.le_trans (Nat.mul_le_mul (show k ≤ 4 by omega) hd) (by omega)
    have hkd1 : k * (d + 1) ≤ 28 := Nat.le_trans (Nat.mul_le_mul (show k ≤ 4 by omega) (show d + 1 ≤ 7 by omega)) (by omega)
    obtain ⟨a, ha⟩ : ∃ a, a = k * d := ⟨_, rfl⟩
    have hm1 : (k : Int) * (d : Int) = (a : Int) := by rw [ha]; simp
    have hm2 : ((k : Int) + 1) * (d : Int) = (a : Int) + d := by rw [Int.add_mul, hm1]; simp
    have hSp := split_eq (bitW s k) ((m.drop a).take d) (by rw [List.length_take, List.length_drop]; omega)
    have hbw : s >>> k &&& 1#32 = bitW s k := by unfold bitW; rw [Nat.mod_eq_of_lt (by omega)]
    have hsl : (shares (bitW s k) ((m.drop a).take d)).length = d + 1 := by simp [shares]; omega
    have hsne : ¬ w32s (shares (bitW s k) ((m.drop a).take d)) = [] := by intro e; have := congrArg List.length e; rw [w32s_length, hsl] at this; simp at this
    have hdt : ((a : Int) + (d : Int)).toNat = a + d := by omega
    have hdt2 : ((w32s m).take (a + d)).drop a = w32s ((m.drop a).take d) := by rw [List.drop_take, Nat.add_sub_cancel_left, w32s_drop, w32s_take]
    have hmd : (m.drop a).length = m.length - a := List.length_drop
    rw [shUpto_succ, ← ha]
    generalize shUpto k d s m = u at *
    generalize shares (bitW s k) ((m.drop a).take d) = sh at *
    rcases gb with ⟨q1, rfl⟩ | ⟨ob, qn, rfl, gb⟩
    · have hz : u = [] := by simpa [w32s] using q1
      subst hz
      refine ⟨_, _, _, by simp -implicitDefEqProofs +contextual (disch := omega) [probe_asked_spread.l1, spFr, hk', g0, hm1, hm2, hbw, hdt, hdt2, hSp, hsne]; first | rfl | exact ⟨rfl, rfl⟩ | exact ⟨rfl, rfl, rfl⟩, .inl ⟨rfl, I.newb ?_ ?_, _, _, by simp only [spFr, hk1]; rfl, .inr ⟨_, ?_, by simp; rfl, ?_⟩⟩⟩
      · (repeat' (first | assumption | with_reducible apply AHeap.WF.push | with_reducible apply AHeap.WF.set | with_reducible apply killAll_wf | exact AHeap.WF.empty)) <;> (simp <;> omega)
      · intro k hk; simp (disch := omega)
      · simp; omega
      · simp (disch := omega)
    · have hbo := hw _ _ gb
      simp only [List.mem_cons, List.not_mem_nil, or_false, not_or] at qn
      refine ⟨_, _, _, by simp -implicitDefEqProofs +contextual (disch := omega) [probe_asked_spread.l1, spFr, hk', g0, hm1, hm2, hbw, hdt, hdt2, hSp, hsne, gb]; first | rfl | exact ⟨rfl, rfl⟩ | exact ⟨rfl, rfl, rfl⟩, .inl ⟨rfl, I.newb ?_ ?_, _, _, by simp only [spFr, hk1]; rfl, .inr ⟨_, ?_, by simp; rfl, ?_⟩⟩⟩
      · (repeat' (first | assumption | with_reducible apply AHeap.WF.push | with_reducible apply AHeap.WF.set | with_reducible apply killAll_wf | exact AHeap.WF.empty)) <;> (simp <;> omega)
      · intro k hk; simp (disch := omega)
      · simp; omega
      · simp (disch := omega) [w32s_append]
  · obtain ⟨I, y, v, rfl, gb⟩ := hR
    refine ⟨_, _, _, by simp -implicitDefEqProofs +contextual (disch := omega) [probe_asked_spread.l1, spFr]; first | rfl | exact ⟨rfl, rfl⟩ | exact ⟨rfl, rfl, rfl⟩, by simp, rfl, I, _, _, rfl, gb⟩
def padP (p : BitVec 32) (u : List (BitVec 32)) (k : Nat) : List (BitVec 32) := u ++ (List.range' u.length k).map (bitW p)
theorem padP_succ (p : BitVec 32) (u : List (BitVec 32)) (k : Nat) : padP p u (k + 1) = padP p u k ++ [bitW p (u.length + k)] := by
  unfold padP; rw [List.range'_concat, List.map_append, List.append_assoc]; simp
theorem padP_len (p : BitVec 32) (u : List (BitVec 32)) (k : Nat) : (padP p u k).length = u.length + k := by simp [padP]
theorem sp_pad (c : CodeM) (inN : Nat) (hin : c.inN = inN) (hin4 : inN ≤ 4000) (ns d : Nat) (s p n q : BitVec 32) (probes : List Int) (S masks tapes : Nat) (u : List (BitVec 32)) (hu : u.length ≤ inN) (X : AHeap) (l : List Int) (h : SpI c ns d X l) (v : AV) (hv : Rl X [0, 1] T.ty_uint32 1 v (w32s u)) {r}
    (hr : aloop spL2 (spFr s p probes S masks tapes [(12, W32 n), (14, v), (16, .int .i64 u.length), (37, W32 q), (38, W32 n)]) X = r) :
    ∃ e fr' X', r = some (e, fr', X') ∧ (e = .exit 4 ∧ SpI c ns d X' l ∧ ∃ y v, fr' = spFr s p probes S masks tapes ([(12, W32 n), (14, v)] ++ [(16, .int .i64 inN), (37, W32 q), (38, W32 n)] ++ y) ∧ Rl X' [0, 1] T.ty_uint32 1 v (w32s (padP p u (inN - u.length)))) := by
  refine run_of hr (aloop_each (inN - u.length) (fun k fr H => SpI c ns d H l ∧ ∃ y v, fr = spFr s p probes S masks tapes ([(12, W32 n), (14, v), (16, .int .i64 (u.length + k : Nat)), (37, W32 q), (38, W32 n)] ++ y) ∧ Rl H [0, 1] T.ty_uint32 1 v (w32s (padP p u k))) _ (fun k hk fr H hR => ?_) (fun fr H hR => ?_) ⟨h, [], v, rfl, by simpa [padP] using hv⟩)
  · obtain ⟨I, y, v, rfl, gb⟩ := hR
    have g0 := I.g0
    have g1 := I.g1
    have hw := I.wf
    have b0 := hw _ _ g0
    have b1 := hw _ _ g1
    simp only [askBlk, hin] at g0
    have hlen := padP_len p u k
    rw [padP_succ]
    obtain ⟨z, hz⟩ : ∃ z, z = u.length + k := ⟨_, rfl⟩
    have hz1 : ((u.length + (k + 1) : Nat) : Int) = (z : Int) + 1 := by omega
    rw [hz1, ← hz]
    rw [← hz] at hlen
    have hz2 : (z : Int) < inN := by omega
    have hz3 : (z : Int) % 32 = ((z % 32 : Nat) : Int) := by omega
    have hbw : p >>> (z % 32) &&& 1#32 = bitW p z := rfl
    have hz4 : z ≤ 4000 := by omega
    generalize hzz : z % 32 = zz at *
    have hzz2 : zz ≤ 31 := by omega
    generalize bitW p z = bw at *
    generalize padP p u k = w at *
    rcases gb with ⟨q1, rfl⟩ | ⟨ob, qn, rfl, gb⟩
    · have hze : w = [] := by simpa [w32s] using q1
      subst hze
      refine ⟨_, _, _, by simp -implicitDefEqProofs +contextual (disch := omega) [probe_asked_spread.l2, spFr, g0, hz2, hz3, hbw]; first | rfl | exact ⟨rfl, rfl⟩ | exact ⟨rfl, rfl, rfl⟩, .inl ⟨rfl, I.newb ?_ ?_, _, _, by simp only [spFr]; rfl, .inr ⟨_, ?_, by simp; rfl, ?_⟩⟩⟩
      · (repeat' (first | assumption | with_reducible apply AHeap.WF.push | with_reducible apply AHeap.WF.set | with_reducible apply killAll_wf | exact AHeap.WF.empty)) <;> (simp <;> omega)
      · intro k hk; simp (disch := omega)
      · simp; omega
      · simp (disch := omega) [w32s]
    · have hbo := hw _ _ gb
      simp only [List.mem_cons, List.not_mem_nil, or_false, not_or] at qn
      refine ⟨_, _, _, by simp -implicitDefEqProofs +contextual (disch := omega) [probe_asked_spread.l2, spFr, g0, hz2, hz3, hbw, gb]; first | rfl | exact ⟨rfl, rfl⟩ | exact ⟨rfl, rfl, rfl⟩, .inl ⟨rfl, I.newb ?_ ?_, _, _, by simp only [spFr]; rfl, .inr ⟨_, ?_, by simp; rfl, ?_⟩⟩⟩
      · (repeat' (first | assumption | with_reducible apply AHeap.WF.push | with_reducible apply AHeap.WF.set | with_reducible apply killAll_wf | exact AHeap.WF.empty)) <;> (simp <;> omega)
      · intro k hk; simp (disch := omega)
      · simp; omega
      · simp (disch := omega) [w32s_snoc]
  · obtain ⟨I, y, v, rfl, gb⟩ := hR
    have g0 := I.g0
    simp only [askBlk, hin] at g0
    have e : u.length + (inN - u.length) = inN := by omega
    rw [e]
    refine ⟨_, _, _, by simp -implicitDefEqProofs +contextual (disch := omega) [probe_asked_spread.l2, spFr, g0]; first | rfl | exact ⟨rfl, rfl⟩ | exact ⟨rfl, rfl, rfl⟩, by simp, rfl, I, _, _, rfl, gb⟩
theorem sp_at (w : List (BitVec 32)) (hw : w.length ≤ 100000) (s p n q : BitVec 32) (probes : List Int) (hP : probes.length ≤ 5) (hp : ∀ x ∈ probes, 0 ≤ x ∧ x < w.length) (S masks tapes : Nat) (X : AHeap) {r}
    (hr : aloop spL3 (spFr s p probes S masks tapes [(17, .rsl 1 (w32s w)), (19, .int .i64 0), (37, W32 q), (38, W32 n), (97, .rsl 1 (ints probes)), (98, .int .i64 probes.length), (99, .int .i64 0)]) X = r) :
    ∃ e fr' X', r = some (e, fr', X') ∧ (e = .exit 6 ∧ X' = X ∧ ∃ y, fr' = spFr s p probes S masks tapes ([(17, .rsl 1 (w32s w)), (19, .int .i64 (atM w probes : Nat)), (37, W32 q), (38, W32 n)] ++ y)) := by
  refine run_of hr (aloop_each probes.length (fun k fr H => H = X ∧ ∃ y, fr = spFr s p probes S masks tapes ([(17, .rsl 1 (w32s w)), (19, .int .i64 (atM w (probes.take k) : Nat)), (37, W32 q), (38, W32 n), (97, .rsl 1 (ints probes)), (98, .int .i64 probes.length), (99, .int .i64 k)] ++ y)) _ (fun k hk fr H hR => ?_) (fun fr H hR => ?_) ⟨rfl, [], rfl⟩)
  · obtain ⟨rfl, y, rfl⟩ := hR
    have hk' : (k : Int) < probes.length := by omega
    have hk1 : ((k + 1 : Nat) : Int) = (k : Int) + 1 := by omega
    have hme := hp _ (List.getElem_mem hk)
    have hx := ints_at probes k hk
    have ha : atM w (probes.take (k + 1)) = atM w (probes.take k) * 2 + (at0 w probes[k].toNat).toNat % 2 := by rw [List.take_succ_eq_append_getElem hk, atM_snoc, Nat.mul_comm]
    have hb : atM w (probes.take k) ≤ 32 := Nat.le_trans (Nat.le_of_lt (atM_lt w _)) (pow_le_of (show (probes.take k).length ≤ 5 by rw [List.length_take]; omega) (by omega))
    rw [ha, hk1]
    generalize atM w (probes.take k) = z at *
    obtain ⟨x, hxx⟩ : ∃ x : Nat, probes[k] = x := ⟨probes[k].toNat, by omega⟩
    rw [hxx] at hx hme
    rw [hxx]
    have hxw : x < w.length := by omega
    have hbit := and_one (at0 w x)
    rw [Int.toNat_natCast]
    have hb2 : (at0 w x).toNat % 2 < 2 := Nat.mod_lt _ (by omega)
    generalize (at0 w x).toNat % 2 = b at *
    have hor := or_bit .x z b (by omega) hb2
    have hbm : ((b % 4294967296 : Nat) : Int) = (b : Int) := by omega
    have hbn : (BitVec.ofNat 32 b).toNat = b := by rw [BitVec.toNat_ofNat]; omega
    refine ⟨_, _, _, by simp -implicitDefEqProofs +contextual (disch := omega) [probe_asked_spread.l3, spFr, hk', hx, hxw, shl_one, hbit, hbn, hor]; first | rfl | exact ⟨rfl, rfl⟩ | exact ⟨rfl, rfl, rfl⟩, .inl ⟨rfl, rfl, _, by simp only [spFr]; rfl⟩⟩
  · obtain ⟨rfl, y, rfl⟩ := hR
    rw [List.take_length]
    refine ⟨_, _, _, by simp -implicitDefEqProofs +contextual (disch := omega) [probe_asked_spread.l3, spFr]; first | rfl | exact ⟨rfl, rfl⟩ | exact ⟨rfl, rfl, rfl⟩, by simp, rfl, rfl, _, rfl⟩
theorem comesIn_eq (inN ns d : Nat) (s p : BitVec 32) (m : List (BitVec 32)) (hm : m.length = ns * d) : comesIn inN ns d s p m = padP p (shUpto ns d s m) (inN - (shUpto ns d s m).length) := by
  have h := shUpto_len d s m ns (by omega)
  unfold comesIn padP
  rw [h]; rfl
set_option maxHeartbeats 4000000 in
theorem sp_count (q : AskM) (inN : Nat) (hin : q.c.inN = inN) (hcan : q.c.can = true) (hb : q.c.outs.length ≤ 1000000000) (hns : q.secrets ≤ 4) (hd : q.d ≤ 6) (hroom : q.secrets * (q.d + 1) ≤ inN) (hM : q.masks + q.tapes ≤ 12) (s p : BitVec 32) (probes : List Int) (hP : probes.length ≤ 5) (hp : ∀ x ∈ probes, 0 ≤ x ∧ x < q.c.inN + q.c.ops.length)
    (X : AHeap) (h : SpI q.c q.secrets q.d X (List.replicate (2 ^ probes.length) 0)) {r}
    (hr : aloop spL0 (spFr s p probes (2 ^ probes.length) q.masks q.tapes [(37, W32 (1#32 <<< (q.masks + q.tapes))), (38, W32 0#32)]) X = r) :
    ∃ e fr' X', r = some (e, fr', X') ∧ (e = .exit 0 ∧ fr' 9 = .sl 1 1 0 (2 ^ probes.length) ∧ SpI q.c q.secrets q.d X' (q.spread s p probes)) := by
  have hcan' := hcan
  unfold CodeM.can at hcan'
  simp only [Bool.and_eq_true, decide_eq_true_eq] at hcan'
  obtain ⟨⟨⟨⟨q1, q2⟩, q3⟩, q4⟩, q5⟩ := hcan'
  have hTb : 2 ^ (q.masks + q.tapes) ≤ 4096 := pow_le_of (show q.masks + q.tapes ≤ 12 by omega) (by omega)
  have hSb : 2 ^ probes.length ≤ 32 := pow_le_of (show probes.length ≤ 5 by omega) (by omega)
  have hTN : (1#32 <<< (q.masks + q.tapes)).toNat = 2 ^ (q.masks + q.tapes) := by
    rw [BitVec.toNat_shiftLeft, Nat.shiftLeft_eq, show (1#32 : BitVec 32).toNat = 1 from rfl, Nat.one_mul, Nat.mod_eq_of_lt (Nat.lt_of_le_of_lt hTb (by decide))]
  refine run_of hr (aloop_each (2 ^ (q.masks + q.tapes)) (fun k fr H => (∃ y, fr = spFr s p probes (2 ^ probes.length) q.masks q.tapes ([(37, W32 (1#32 <<< (q.masks + q.tapes))), (38, W32 (BitVec.ofNat 32 k))] ++ y)) ∧ SpI q.c q.secrets q.d H (tally k (2 ^ probes.length) (q.tells s p probes))) _ (fun k hk fr H hR => ?_) (fun fr H hR => ?_) ⟨⟨[], rfl⟩, by rw [tally_zero]; exact h⟩)
  · obtain ⟨⟨y, rfl⟩, I⟩ := hR
    have hk32 : (BitVec.ofNat 32 k).toNat = k := by rw [BitVec.toNat_ofNat]; omega
    have hlt : BitVec.ofNat 32 k < 1#32 <<< (q.masks + q.tapes) := by rw [BitVec.lt_def, hTN, hk32]; exact hk
    have hk1 : BitVec.ofNat 32 k + 1#32 = BitVec.ofNat 32 (k + 1) := by apply BitVec.eq_of_toNat_eq; simp
    have hB1 := probe_bits_eq (BitVec.ofNat 32 k) q.masks (by omega)
    rw [pbits_eq k q.masks (by omega) (by omega)] at hB1
    have hsh : BitVec.ofNat 32 k >>> q.masks = BitVec.ofNat 32 (k / 2 ^ q.masks) := by
      have := Nat.div_le_self k (2 ^ q.masks)
      apply BitVec.eq_of_toNat_eq; rw [BitVec.toNat_ushiftRight, hk32, Nat.shiftRight_eq_div_pow, BitVec.toNat_ofNat, Nat.mod_eq_of_lt (Nat.lt_of_le_of_lt this (by omega))]
    have hB2 := probe_bits_eq (BitVec.ofNat 32 (k / 2 ^ q.masks)) q.tapes (by omega)
    rw [pbits_eq (k / 2 ^ q.masks) q.tapes (by have := Nat.div_le_self k (2 ^ q.masks); omega) (by omega)] at hB2
    have hml : (bitsM k q.masks).length = q.secrets * q.d := by simp [AskM.masks]
    have hCI := comesIn_eq inN q.secrets q.d s p (bitsM k q.masks) hml
    have hul := shUpto_len q.d s (bitsM k q.masks) q.secrets (by omega)
    have hgl : (comesIn inN q.secrets q.d s p (bitsM k q.masks)).length = inN := by rw [hCI, padP_len]; omega
    have hEx := Exec_eq q.c (comesIn inN q.secrets q.d s p (bitsM k q.masks)) (bitsM (k / 2 ^ q.masks) q.tapes) hb (by omega) (by omega) (by simp; omega)
    have hex : q.c.exec (comesIn inN q.secrets q.d s p (bitsM k q.masks)) (bitsM (k / 2 ^ q.masks) q.tapes) = (runOps q.c.ops (padM (comesIn inN q.secrets q.d s p (bitsM k q.masks)) inN) (bitsM (k / 2 ^ q.masks) q.tapes), true) := by
      unfold CodeM.exec; rw [if_pos ⟨hcan, by simp [AskM.tapes]⟩, hin]; simp
    rw [hex] at hEx
    have hti : q.tells s p probes k = atM (runOps q.c.ops (padM (comesIn inN q.secrets q.d s p (bitsM k q.masks)) inN) (bitsM (k / 2 ^ q.masks) q.tapes)) probes := by
      unfold AskM.tells; rw [hin]; simp
    have hwl : (runOps q.c.ops (padM (comesIn inN q.secrets q.d s p (bitsM k q.masks)) inN) (bitsM (k / 2 ^ q.masks) q.tapes)).length = inN + q.c.ops.length := by rw [runOps_length, padM_length]
    have hts := tally_succ k (2 ^ probes.length) (q.tells s p probes) (q.tells_lt s p probes k)
    rw [hts]
    have hatb : ati (tally k (2 ^ probes.length) (q.tells s p probes)) (q.tells s p probes k) ≤ 4096 ∧ 0 ≤ ati (tally k (2 ^ probes.length) (q.tells s p probes)) (q.tells s p probes k) := by
      rw [tally_ati _ _ _ _ (q.tells_lt s p probes k)]
      have := List.countP_le_length (p := fun n => q.tells s p probes n == q.tells s p probes k) (l := List.range k)
      rw [List.length_range] at this
      omega
    have hal := q.tells_lt s p probes k
    have hlen : (tally k (2 ^ probes.length) (q.tells s p probes)).length = 2 ^ probes.length := by simp
    rw [hti] at hatb hal ⊢
    generalize tally k (2 ^ probes.length) (q.tells s p probes) = tl at *
    have hpw : ∀ x ∈ probes, 0 ≤ x ∧ x < ((runOps q.c.ops (padM (comesIn inN q.secrets q.d s p (bitsM k q.masks)) inN) (bitsM (k / 2 ^ q.masks) q.tapes)).length : Int) := fun x hx => by
      have := hp x hx; rw [hwl]; omega
    generalize runOps q.c.ops (padM (comesIn inN q.secrets q.d s p (bitsM k q.masks)) inN) (bitsM (k / 2 ^ q.masks) q.tapes) = w at *
    generalize bitsM (k / 2 ^ q.masks) q.tapes = bt at *
    generalize BitVec.ofNat 32 (k / 2 ^ q.masks) = nb at *
    generalize comesIn inN q.secrets q.d s p (bitsM k q.masks) = ci at *
    have hSh := fun r => @sp_shares q.c q.secrets q.d hns hd s p (BitVec.ofNat 32 k) (1#32 <<< (q.masks + q.tapes)) probes (2 ^ probes.length) q.masks q.tapes (bitsM k q.masks) hml H tl I r
    generalize bitsM k q.masks = bm at *
    have g0 := I.g0
    have ga := I.g1
    simp only [askBlk, hin] at g0
    unfold CodeM.cells at hEx
    rw [hin] at hEx
    rw [← hk1]
    generalize BitVec.ofNat 32 k = kb at *
    generalize 1#32 <<< (q.masks + q.tapes) = top at *
    generalize 2 ^ probes.length = SS at *
    generalize hr2 : spL0 _ H = r2
    simp -implicitDefEqProofs +contextual (disch := omega) [probe_asked_spread.l0, spFr, hlt, hB1, g0] at hr2
    generalize hr3 : aloop _ _ _ = r3 at hr2
    obtain ⟨e, fr3, X3, rfl, rfl, I3, y3, v3, rfl, R3⟩ := hSh r3 hr3
    have hv3 : alenR .sl v3 = some (.int .i64 (shUpto q.secrets q.d s bm).length) := by
      rcases R3 with ⟨w1, rfl⟩ | ⟨ob, _, rfl, _⟩
      · have : shUpto q.secrets q.d s bm = [] := by simpa [w32s] using w1
        rw [this]; rfl
      · simp
    simp -implicitDefEqProofs +contextual (disch := omega) [spFr, hv3] at hr2
    generalize hr4 : aloop _ _ _ = r4 at hr2
    obtain ⟨e, fr4, X4, rfl, rfl, I4, y4, v4, rfl, R4⟩ := sp_pad q.c inN hin (by omega) q.secrets q.d s p kb top probes SS q.masks q.tapes (shUpto q.secrets q.d s bm) (by omega) X3 tl I3 v3 R3 (r := r4) (by rw [← hr4]; simp [spFr])
    rw [← hCI] at R4
    have g04 := I4.g0
    simp only [askBlk, hin] at g04
    have ga4 := I4.g1
    have hfin : ∃ (X5 : AHeap) (y5 : List (Nat × AV)), r2 = some (.normal, spFr s p probes SS q.masks q.tapes ([(37, W32 top), (38, W32 (kb + 1#32))] ++ y5), X5.set 1 (some ⟨T.ty_int, 1, true, ints (tl.set (atM w probes) (ati tl (atM w probes) + 1))⟩)) ∧ X5.WF ∧ X5.get 0 = some (askBlk q.c q.secrets q.d) ∧ 1 < X5.next := by
      have b0 := I4.wf _ _ g04
      have b1 := I4.wf _ _ ga4
      have w4 := I4.wf
      rcases R4 with ⟨z1, rfl⟩ | ⟨ob, qn, rfl, gb⟩
      · have hz : ci = [] := by simpa [w32s] using z1
        subst hz
        have hE2 := hEx
        rw [z1] at hE2
        simp -implicitDefEqProofs +contextual (disch := omega) [spFr, g04, hsh, hB2, hE2] at hr2
        generalize hr5 : aloop _ _ _ = r5 at hr2
        obtain ⟨e, fr5, X5, rfl, rfl, rfl, y5, rfl⟩ := sp_at w (by omega) s p kb top probes hP hpw SS q.masks q.tapes _ (r := r5) hr5
        simp -implicitDefEqProofs +contextual (disch := omega) [spFr, ga4, hlen, hal, g04, hsh, hB2, hE2] at hr2
        refine ⟨_, _, hr2.symm, ?_, ?_, ?_⟩
        · first | exact w4 | exact killAll_wf w4 _
        · first | exact I4.g0 | (simp (disch := omega) [I4.g0])
        · first | exact b1 | (simp; omega)
      · have b2 := I4.wf _ _ gb
        simp only [List.mem_cons, List.not_mem_nil, or_false, not_or] at qn
        simp -implicitDefEqProofs +contextual (disch := omega) [spFr, g04, hsh, hB2, hEx, gb] at hr2
        generalize hr5 : aloop _ _ _ = r5 at hr2
        obtain ⟨e, fr5, X5, rfl, rfl, rfl, y5, rfl⟩ := sp_at w (by omega) s p kb top probes hP hpw SS q.masks q.tapes _ (r := r5) hr5
        simp -implicitDefEqProofs +contextual (disch := omega) [spFr, ga4, hlen, hal, g04, hsh, hB2, hEx, gb] at hr2
        refine ⟨_, _, hr2.symm, ?_, ?_, ?_⟩
        · first | exact w4 | exact killAll_wf w4 _
        · first | exact I4.g0 | (simp (disch := omega) [I4.g0])
        · first | exact b1 | (simp; omega)
    obtain ⟨X5, y5, rfl, w5, w6, w7⟩ := hfin
    refine ⟨_, _, _, rfl, .inl ⟨rfl, ⟨_, rfl⟩, ?_, ?_, ?_⟩⟩
    · exact w5.set w7
    · simpa using w6
    · simp
  · obtain ⟨⟨y, rfl⟩, I⟩ := hR
    have hlt : ¬ BitVec.ofNat 32 (2 ^ (q.masks + q.tapes)) < 1#32 <<< (q.masks + q.tapes) := by rw [BitVec.lt_def, hTN, BitVec.toNat_ofNat]; omega
    refine ⟨_, _, _, by simp -implicitDefEqProofs +contextual (disch := omega) [probe_asked_spread.l0, spFr, hlt]; first | rfl | exact ⟨rfl, rfl⟩ | exact ⟨rfl, rfl, rfl⟩, by simp, rfl, by simp, I⟩
end Go.Abs
end
section
set_option linter.unusedSimpArgs false
set_option linter.unusedVariables false
namespace Go.Abs
structure AskOk (q : AskM) (inN : Nat) : Prop where
  hin : q.c.inN = inN
  can : q.c.can = true
  hb : q.c.outs.length ≤ 1000000000
  ns : q.secrets ≤ 4
  d : q.d ≤ 6
  room : q.secrets * (q.d + 1) ≤ inN
  M : q.masks + q.tapes ≤ 12
theorem AskOk.ops {q : AskM} {n : Nat} (h : AskOk q n) : q.c.ops.length ≤ 60000 ∧ n ≤ 4000 := by
  have hcan := h.can
  have := h.hin
  unfold CodeM.can at hcan
  simp only [Bool.and_eq_true, decide_eq_true_eq] at hcan
  omega
def probesOk (c : CodeM) (probes : List Int) : Prop := ∀ x ∈ probes, 0 ≤ x ∧ x < c.inN + c.ops.length
set_option maxHeartbeats 2000000 in
theorem spread_eq (q : AskM) (inN : Nat) (h : AskOk q inN) (s p : BitVec 32) (probes : List Int) (hP : probes.length ≤ 5) (hp : probesOk q.c probes) :
    probe_asked_spread.spec [.agg (askCells q.c q.secrets q.d), W32 s, W32 p, .rsl 1 (ints probes)] = some (.rsl 1 (ints (q.spread s p probes))) := by
  obtain ⟨hop, hin4⟩ := h.ops
  have hns := h.ns
  have hd := h.d
  have hM := h.M
  have hR := Randoms_eq' q.c (by omega)
  have hSb : 2 ^ probes.length ≤ 32 := pow_le_of (show probes.length ≤ 5 by omega) (by omega)
  have hmd : (q.secrets : Int) * (q.d : Int) = (q.masks : Int) := by simp [AskM.masks]
  have hmb : q.masks ≤ 12 := by omega
  have htb : q.tapes ≤ 12 := by omega
  have hmin : min probes.length 64 = probes.length := by omega
  have hpow : (2 : Int) ^ probes.length = ((2 ^ probes.length : Nat) : Int) := by simp
  have hC := fun X h1 r hr => @sp_count q inN h.hin h.can h.hb hns hd h.room hM s p probes hP hp X h1 r hr
  have hrep : List.replicate (2 ^ probes.length) [AV.int .i64 0] = ints (List.replicate (2 ^ probes.length) 0) := ints_rep _ _
  have hsl : (q.spread s p probes).length = 2 ^ probes.length := q.spread_length s p probes
  have hR2 : q.c.randoms = q.tapes := rfl
  unfold CodeM.cells at hR
  rw [hR2] at hR
  unfold askCells
  have hin := h.hin
  rw [hin] at hR ⊢
  have hsh : abinR .x .shl (.int .i64 1) (.int .i64 probes.length) = some (.int .i64 (2 ^ probes.length : Nat)) := by
    rw [bin_shl _ _ _ _ _ (by omega), IntWalk.i64_in _ (by simp [hmin]; omega)]
    simp [hmin]
  generalize 2 ^ probes.length = S at *
  have hSI : (S : Int) ≤ 32 := by omega
  have hsum : ((q.masks : Int) + (q.tapes : Int)).toNat = q.masks + q.tapes := by omega
  simp -implicitDefEqProofs +contextual (disch := omega) [probe_asked_spread.spec, probe_asked_spread, hsh, hmd, hR, hsum, hrep, -bin_shl]
  generalize hr : aloop _ _ _ = r
  have hI : SpI q.c q.secrets q.d ((AHeap.empty.push (askBlk q.c q.secrets q.d)).push ⟨T.ty_int, 1, true, ints (List.replicate S 0)⟩) (List.replicate S 0) := ⟨by (repeat' (first | assumption | with_reducible apply AHeap.WF.push | with_reducible apply AHeap.WF.set | with_reducible apply killAll_wf | exact AHeap.WF.empty)) <;> (simp <;> omega), by simp, by simp⟩
  simp only [askBlk, hin] at hI
  obtain ⟨e, fr', X', rfl, rfl, p9, I'⟩ := hC _ hI r hr
  have g1 := I'.g1
  have ht : (ints (q.spread s p probes)).take S = ints (q.spread s p probes) := List.take_of_length_le (by simp [hsl])
  simp -implicitDefEqProofs +contextual (disch := omega) [p9, g1, hsl, ht]
theorem equalI_eq (a b : List Int) (ha : a.length ≤ 1000000000) : slices_Equal_int.spec [.rsl 1 (ints a), .rsl 1 (ints b)] = some (.bool (decide (a = b))) := by
  by_cases hl : a.length = b.length
  · simp -implicitDefEqProofs +contextual (disch := omega) [slices_Equal_int.spec, slices_Equal_int, hl]
    generalize hr : aloop _ _ _ = r
    obtain ⟨e, fr', X', rfl, hq⟩ : ∃ e fr' X', r = some (e, fr', X') ∧ ((a = b ∧ e = .exit 0) ∨ (a ≠ b ∧ e = .ret ∧ fr' 4 = .bool false)) := by
      refine run_of hr (aloop_each a.length (fun k fr H => (∃ y, fr = AFr.al ([(0, .rsl 1 (ints a)), (1, .rsl 1 (ints b)), (12, .int .i64 b.length), (13, .int .i64 k)] ++ y)) ∧ ∀ i, i < k → ati a i = ati b i) _ (fun k hk fr H hR => ?_) (fun fr H hR => ?_) ⟨⟨[], rfl⟩, fun i h => absurd h (by omega)⟩)
      · obtain ⟨⟨y, rfl⟩, h3⟩ := hR
        have hk' : (k : Int) < a.length := by omega
        have hk1 : ((k + 1 : Nat) : Int) = (k : Int) + 1 := by omega
        by_cases e : ati a k = ati b k
        · refine ⟨_, _, _, by simp -implicitDefEqProofs +contextual (disch := omega) [slices_Equal_int.l0, e, hk', hk1]; first | rfl | exact ⟨rfl, rfl⟩ | exact ⟨rfl, rfl, rfl⟩, .inl ⟨rfl, ⟨_, rfl⟩, fun i hi => ?_⟩⟩
          by_cases q : i = k
          · subst q; exact e
          · exact h3 i (by omega)
        · refine ⟨_, _, _, by simp -implicitDefEqProofs +contextual (disch := omega) [slices_Equal_int.l0, e, hk', hk1]; first | rfl | exact ⟨rfl, rfl⟩ | exact ⟨rfl, rfl, rfl⟩, .inr ⟨by simp, .inr ⟨fun q => e (by rw [q]), rfl, by simp⟩⟩⟩
      · obtain ⟨⟨y, rfl⟩, h3⟩ := hR
        refine ⟨_, _, _, by simp -implicitDefEqProofs +contextual (disch := omega) [slices_Equal_int.l0]; first | rfl | exact ⟨rfl, rfl⟩ | exact ⟨rfl, rfl, rfl⟩, by simp, .inl ⟨?_, rfl⟩⟩
        refine List.ext_getElem hl fun i h1 h2 => ?_
        have := h3 i h1
        rwa [ati_eq _ _ h1, ati_eq _ _ h2] at this
    rcases hq with ⟨h, rfl⟩ | ⟨h, rfl, q⟩
    · simp -implicitDefEqProofs +contextual (disch := omega) [h]
    · simp -implicitDefEqProofs +contextual (disch := omega) [h, q]
  · have e : a ≠ b := fun h => hl (by rw [h])
    simp -implicitDefEqProofs +contextual (disch := omega) [slices_Equal_int.spec, slices_Equal_int, hl, e]
def psFr (q : AskM) (p : BitVec 32) (probes : List Int) (k : Nat) (x : List (Nat × AV)) : AFr :=
  AFr.al ([(1, W32 p), (2, .rsl 1 (ints probes)), (3, .ptr 0 5 0 0), (7, .rsl 1 (ints (q.spread 0#32 p probes))), (8, W32 (BitVec.ofNat 32 (k + 1)))] ++ x)
theorem pow_secrets (q : AskM) (h : q.secrets ≤ 4) : (1#32 <<< q.secrets).toNat = 2 ^ q.secrets ∧ 2 ^ q.secrets ≤ 16 ∧ 0 < 2 ^ q.secrets := by
  have hb : 2 ^ q.secrets ≤ 16 := pow_le_of h (by omega)
  refine ⟨?_, hb, Nat.two_pow_pos _⟩
  rw [BitVec.toNat_shiftLeft, Nat.shiftLeft_eq, show (1#32 : BitVec 32).toNat = 1 from rfl, Nat.one_mul, Nat.mod_eq_of_lt (Nat.lt_of_le_of_lt hb (by decide))]
set_option maxHeartbeats 2000000 in
theorem safe_eq (q : AskM) (inN : Nat) (h : AskOk q inN) (p : BitVec 32) (probes : List Int) (hP : probes.length ≤ 5) (hp : probesOk q.c probes) :
    probe_asked_safe.spec [.agg (askCells q.c q.secrets q.d), W32 p, .rsl 1 (ints probes)] = some (.bool (q.safe p probes)) := by
  obtain ⟨hT, hTb, hT0⟩ := pow_secrets q h.ns
  have hns := h.ns
  have hS := fun s => spread_eq q inN h s p probes hP hp
  have hSb : 2 ^ probes.length ≤ 32 := pow_le_of (show probes.length ≤ 5 by omega) (by omega)
  have hE := fun s => equalI_eq (q.spread s p probes) (q.spread 0#32 p probes) (by rw [q.spread_length]; omega)
  unfold askCells at *
  have h0 := hS 0#32
  simp -implicitDefEqProofs +contextual (disch := omega) [probe_asked_safe.spec, probe_asked_safe, h0]
  generalize hr : aloop _ _ _ = r
  obtain ⟨e, fr', X', rfl, hq⟩ : ∃ e fr' X', r = some (e, fr', X') ∧ ((q.safe p probes = true ∧ e = .exit 0) ∨ (q.safe p probes = false ∧ e = .ret ∧ fr' 6 = .bool false)) := by
    refine run_of hr (aloop_each (2 ^ q.secrets - 1) (fun k fr H => (∃ y, fr = psFr q p probes k y) ∧ H.get 0 = some (askBlk q.c q.secrets q.d) ∧ ∀ i, i < k + 1 → q.spread (BitVec.ofNat 32 i) p probes = q.spread 0#32 p probes) _ (fun k hk fr H hR => ?_) (fun fr H hR => ?_) ⟨⟨[], rfl⟩, by simp [askBlk], fun i hi => by obtain rfl : i = 0 := (by omega); rfl⟩)
    · obtain ⟨⟨y, rfl⟩, g0, h3⟩ := hR
      simp only [askBlk] at g0
      have hlt : BitVec.ofNat 32 (k + 1) < 1#32 <<< q.secrets := by rw [BitVec.lt_def, hT, BitVec.toNat_ofNat]; omega
      have hk1 : BitVec.ofNat 32 (k + 1) + 1#32 = BitVec.ofNat 32 (k + 1 + 1) := by apply BitVec.eq_of_toNat_eq; simp
      have h1 := hS (BitVec.ofNat 32 (k + 1))
      have h2 := hE (BitVec.ofNat 32 (k + 1))
      by_cases e : q.spread (BitVec.ofNat 32 (k + 1)) p probes = q.spread 0#32 p probes
      · rw [decide_eq_true e] at h2
        refine ⟨_, _, _, by simp -implicitDefEqProofs +contextual (disch := omega) [probe_asked_safe.l0, psFr, g0, hlt, h1, h2]; first | rfl | exact ⟨rfl, rfl⟩ | exact ⟨rfl, rfl, rfl⟩, .inl ⟨rfl, ⟨_, by simp only [psFr, ← hk1]; rfl⟩, by rw [askBlk]; exact g0, fun i hi => ?_⟩⟩
        by_cases q : i = k + 1
        · subst q; exact e
        · exact h3 i (by omega)
      · rw [decide_eq_false e] at h2
        refine ⟨_, _, _, by simp -implicitDefEqProofs +contextual (disch := omega) [probe_asked_safe.l0, psFr, g0, hlt, h1, h2]; first | rfl | exact ⟨rfl, rfl⟩ | exact ⟨rfl, rfl, rfl⟩, .inr ⟨by simp, .inr ⟨?_, rfl, by simp⟩⟩⟩
        unfold AskM.safe
        rw [List.all_eq_false]
        exact ⟨k + 1, List.mem_range.2 (by omega), by simpa using e⟩
    · obtain ⟨⟨y, rfl⟩, g0, h3⟩ := hR
      simp only [askBlk] at g0
      have e1 : 2 ^ q.secrets - 1 + 1 = 2 ^ q.secrets := by omega
      have hlt : ¬ BitVec.ofNat 32 (2 ^ q.secrets - 1 + 1) < 1#32 <<< q.secrets := by rw [BitVec.lt_def, hT, BitVec.toNat_ofNat]; omega
      rw [e1] at h3
      generalize 2 ^ q.secrets - 1 = kk at *
      refine ⟨_, _, _, by simp -implicitDefEqProofs +contextual (disch := omega) [probe_asked_safe.l0, psFr, g0, hlt]; first | rfl | exact ⟨rfl, rfl⟩ | exact ⟨rfl, rfl, rfl⟩, by simp, .inl ⟨?_, rfl⟩⟩
      unfold AskM.safe
      rw [List.all_eq_true]
      intro s hs
      exact decide_eq_true (h3 s (by simpa using hs))
  rcases hq with ⟨hv, rfl⟩ | ⟨hv, rfl, h6⟩
  · simp -implicitDefEqProofs +contextual (disch := omega) [hv]
  · simp -implicitDefEqProofs +contextual (disch := omega) [hv, h6]
theorem ask_of {c : CodeM} {s d : Int} (hb : c.outs.length ≤ 1000000000) (h : asksOk c s d) (hM : ¬ 12 < s * d + c.randoms) : ∃ (q : AskM) (inN : Nat), q.c = c ∧ s = q.secrets ∧ d = q.d ∧ AskOk q inN := by
  obtain ⟨h1, h2, h3, h4, h5, h6⟩ := h
  have h1' := h1
  unfold CodeM.can at h1'
  simp only [Bool.and_eq_true, decide_eq_true_eq] at h1'
  refine ⟨⟨c, s.toNat, d.toNat⟩, c.inN.toNat, rfl, by dsimp only; omega, by dsimp only; omega, ⟨by dsimp only; omega, h1, hb, by dsimp only; omega, by dsimp only; omega, ?_, ?_⟩⟩
  · dsimp only
    have e : ((s.toNat * (d.toNat + 1) : Nat) : Int) = s * (d + 1) := by
      rw [Int.natCast_mul, Int.toNat_of_nonneg h2, Int.natCast_add, Int.toNat_of_nonneg h4]; rfl
    omega
  · have e : ((s.toNat * d.toNat : Nat) : Int) = s * d := by rw [Int.natCast_mul, Int.toNat_of_nonneg h2, Int.toNat_of_nonneg h4]
    have e2 : (AskM.mk c s.toNat d.toNat).masks = s.toNat * d.toNat := rfl
    have e3 : (AskM.mk c s.toNat d.toNat).tapes = c.randoms := rfl
    rw [e2, e3]; omega
theorem looks_zero {c : CodeM} {s d : Int} {probes : List Int} (h : looksM c s d probes = 0) : asksOk c s d ∧ probesOk c probes ∧ ¬ 12 < s * d + c.randoms ∧ probes.length ≤ 5 := by
  unfold looksM at h
  split at h
  · omega
  · split at h
    · omega
    · rename_i h1 h2
      split at h
      · omega
      · rename_i h3
        refine ⟨Classical.not_not.1 h1, fun x hx => ?_, fun q => h3 (.inl q), by omega⟩
        rw [Bool.not_eq_true, List.any_eq_false] at h2
        have := h2 x hx
        unfold outOf at this
        simp at this
        omega
theorem looks_cases (c : CodeM) (s d : Int) (probes : List Int) : looksM c s d probes = 0 ∨ looksM c s d probes = 1 ∨ looksM c s d probes = 150 := by
  unfold looksM
  split
  · exact .inr (.inl rfl)
  · split
    · exact .inr (.inl rfl)
    · split
      · exact .inr (.inr rfl)
      · exact .inl rfl
set_option maxHeartbeats 2000000 in
theorem Safe_eq (c : CodeM) (hb : c.outs.length ≤ 1000000000) (hb2 : c.ops.length ≤ 1000000000) (s d : Int) (p : BitVec 32) (probes : List Int) (hp : probes.length ≤ 1000000000) :
    probe_Safe.spec [.agg c.cells, .int .i64 s, .int .i64 d, W32 p, .rsl 1 (ints probes)] =
      some (.tup [.bool (decide (looksM c s d probes = 0) && (AskM.mk c s.toNat d.toNat).safe p probes), .int .i64 (looksM c s d probes)]) := by
  have hL := looks_eq c hb hb2 s d probes hp
  unfold CodeM.cells
  unfold askCells at hL
  rcases looks_cases c s d probes with h | h | h
  · obtain ⟨h1, h2, h3, h4⟩ := looks_zero h
    obtain ⟨q, inN, rfl, rfl, rfl, hA⟩ := ask_of hb h1 h3
    have hS := safe_eq q inN hA p probes h4 h2
    unfold askCells at hS
    have e : AskM.mk q.c (q.secrets : Int).toNat (q.d : Int).toNat = q := by simp
    rw [h] at hL ⊢
    rw [e]
    simp -implicitDefEqProofs +contextual (disch := omega) [probe_Safe.spec, probe_Safe, hL, hS]
  · rw [h] at hL ⊢
    simp -implicitDefEqProofs +contextual (disch := omega) [probe_Safe.spec, probe_Safe, hL]
  · rw [h] at hL ⊢
    simp -implicitDefEqProofs +contextual (disch := omega) [probe_Safe.spec, probe_Safe, hL]
set_option maxHeartbeats 2000000 in
theorem Spread_eq (c : CodeM) (hb : c.outs.length ≤ 1000000000) (hb2 : c.ops.length ≤ 1000000000) (s d : Int) (sw p : BitVec 32) (probes : List Int) (hp : probes.length ≤ 1000000000) :
    probe_Spread.spec [.agg c.cells, .int .i64 s, .int .i64 d, W32 sw, W32 p, .rsl 1 (ints probes)] =
      some (.tup [.rsl 1 (ints (if looksM c s d probes = 0 then (AskM.mk c s.toNat d.toNat).spread sw p probes else [])), .int .i64 (looksM c s d probes)]) := by
  have hL := looks_eq c hb hb2 s d probes hp
  unfold CodeM.cells
  unfold askCells at hL
  rcases looks_cases c s d probes with h | h | h
  · obtain ⟨h1, h2, h3, h4⟩ := looks_zero h
    obtain ⟨q, inN, rfl, rfl, rfl, hA⟩ := ask_of hb h1 h3
    have hS := spread_eq q inN hA sw p probes h4 h2
    unfold askCells at hS
    have e : AskM.mk q.c (q.secrets : Int).toNat (q.d : Int).toNat = q := by simp
    rw [h] at hL ⊢
    rw [if_pos rfl, e]
    simp -implicitDefEqProofs +contextual (disch := omega) [probe_Spread.spec, probe_Spread, hL, hS]
  · rw [h] at hL ⊢
    simp -implicitDefEqProofs +contextual (disch := omega) [probe_Spread.spec, probe_Spread, hL, ints0]
  · rw [h] at hL ⊢
    simp -implicitDefEqProofs +contextual (disch := omega) [probe_Spread.spec, probe_Spread, hL, ints0]
end Go.Abs
end

import Derived.Test.YthignlpdeaglaaaJG
import Derived.Test.YthignlpdeaglaaaPrF
section
set_option linter.unusedSimpArgs false
set_option linter.unusedVariables false
namespace Go.Abs
set_option maxHeartbeats 4000000 in
theorem rLooks_eq (c : CodeM) (hb : c.outs.length ≤ 1000000000) (hb2 : c.ops.length ≤ 1000000000) (s d : Int) (probes : List Int) (hp : probes.length ≤ 1000000000) :
    ref23_Looks.spec [.agg c.cells, .int .i64 s, .int .i64 d, .rsl 1 (ints probes)] = some (.int .i64 (looksM c s d probes)) := by
  have hC := rCan_eq c hb hb2
  have hR := rRandoms_eq c hb2
  unfold looksM asksOk
  unfold CodeM.cells at hC hR ⊢
  by_cases hcan : c.can = true
  case neg =>
    rw [Bool.not_eq_true] at hcan
    rw [hcan] at hC
    simp -implicitDefEqProofs +contextual (disch := omega) [ref23_Looks.spec, ref23_Looks, hC, hcan]
  case pos =>
    rw [hcan] at hC
    have hcan' := hcan
    unfold CodeM.can at hcan'
    simp only [Bool.and_eq_true, decide_eq_true_eq] at hcan'
    obtain ⟨⟨⟨⟨q1, q2⟩, q3⟩, q4⟩, q5⟩ := hcan'
    by_cases s1 : 0 ≤ s
    · by_cases s2 : s ≤ 4
      · by_cases d1 : 0 ≤ d
        · by_cases d2 : d ≤ 6
          · obtain ⟨⟨m1, m2⟩, m3, m4⟩ := mul_bound s d s1 s2 d1 d2
            have hrl := rndL_le c.ops
            have hrn : c.randoms ≤ 60000 := Nat.le_trans hrl q3
            obtain ⟨m, hm⟩ : ∃ m, s * (d + 1) = m := ⟨_, rfl⟩
            obtain ⟨n, hn⟩ : ∃ n, s * d = n := ⟨_, rfl⟩
            rw [hm] at m1 m2
            rw [hn] at m3 m4
            have n1 : ¬ s < 0 := by omega
            have n2 : ¬ 4 < s := by omega
            have n3 : ¬ d < 0 := by omega
            have n4 : ¬ 6 < d := by omega
            by_cases e1 : m ≤ c.inN
            · have n5 : ¬ c.inN < m := by omega
              generalize hA : probes.any (outOf c) = A
              simp -implicitDefEqProofs +contextual (disch := omega) [ref23_Looks.spec, ref23_Looks, hC, hcan, n1, n2, n3, n4, n5, hm, s1, s2, d1, d2, e1]
              generalize hr : aloop _ _ _ = r
              obtain ⟨e, fr', X', rfl, hq⟩ : ∃ e fr' X', r = some (e, fr', X') ∧ ((A = false ∧ e = .exit 0 ∧ X'.get 0 = some (codeBlk c) ∧ fr' 1 = .int .i64 s ∧ fr' 2 = .int .i64 d ∧ fr' 3 = .rsl 1 (ints probes) ∧ fr' 4 = .ptr 0 3 0 0) ∨ (A = true ∧ e = .ret ∧ fr' 8 = .int .i64 1)) := by
                refine run_of hr (aloop_each probes.length (fun k fr H => (∃ y, fr = AFr.al ([(1, .int .i64 s), (2, .int .i64 d), (3, .rsl 1 (ints probes)), (4, .ptr 0 3 0 0), (9, .int .i64 k)] ++ y)) ∧ H.get 0 = some (codeBlk c) ∧ (probes.take k).any (outOf c) = false) _ (fun k hk fr H hR => ?_) (fun fr H hR => ?_) ⟨⟨[], rfl⟩, by simp [codeBlk_eq], rfl⟩)
                · obtain ⟨⟨y, rfl⟩, g0, h3⟩ := hR
                  rw [codeBlk_eq] at g0
                  have hk' : (k : Int) < probes.length := by omega
                  have hk1 : ((k + 1 : Nat) : Int) = (k : Int) + 1 := by omega
                  have hrow := ints_at probes k hk
                  have hme : probes[k] ∈ probes := List.getElem_mem hk
                  have hs : (probes.take (k + 1)).any (outOf c) = outOf c probes[k] := by rw [List.take_succ_eq_append_getElem hk, List.any_append, h3]; simp
                  rw [hs]
                  generalize probes[k] = x at *
                  by_cases x1 : x < 0
                  · have hv : outOf c x = true := by simp [outOf, x1]
                    refine ⟨_, _, _, by simp -implicitDefEqProofs +contextual (disch := omega) [ref23_Looks.l0, g0, hrow, hk', x1]; first | rfl | exact ⟨rfl, rfl⟩ | exact ⟨rfl, rfl, rfl⟩, .inr ⟨by simp, .inr ⟨hA.symm.trans (List.any_eq_true.2 ⟨x, hme, hv⟩), rfl, by simp⟩⟩⟩
                  · by_cases x2 : c.inN + c.ops.length ≤ x
                    · have hv : outOf c x = true := by simp [outOf, x2]
                      refine ⟨_, _, _, by simp -implicitDefEqProofs +contextual (disch := omega) [ref23_Looks.l0, g0, hrow, hk', x1, x2]; first | rfl | exact ⟨rfl, rfl⟩ | exact ⟨rfl, rfl, rfl⟩, .inr ⟨by simp, .inr ⟨hA.symm.trans (List.any_eq_true.2 ⟨x, hme, hv⟩), rfl, by simp⟩⟩⟩
                    · have hv : outOf c x = false := by simp [outOf]; omega
                      rw [hk1]
                      refine ⟨_, _, _, by simp -implicitDefEqProofs +contextual (disch := omega) [ref23_Looks.l0, g0, hrow, hk', x1, x2]; first | rfl | exact ⟨rfl, rfl⟩ | exact ⟨rfl, rfl, rfl⟩, .inl ⟨rfl, ⟨_, rfl⟩, by rw [codeBlk_eq]; exact g0, hv⟩⟩
                · obtain ⟨⟨y, rfl⟩, g0, h3⟩ := hR
                  have g0' := g0
                  rw [codeBlk_eq] at g0
                  rw [List.take_length] at h3
                  refine ⟨_, _, _, by simp -implicitDefEqProofs +contextual (disch := omega) [ref23_Looks.l0, g0]; first | rfl | exact ⟨rfl, rfl⟩ | exact ⟨rfl, rfl, rfl⟩, by simp, .inl ⟨hA.symm.trans h3, rfl, g0', by simp, by simp, by simp, by simp⟩⟩
              rcases hq with ⟨rfl, rfl, g0, f1, f2, f3, f4⟩ | ⟨rfl, rfl, f8⟩
              · rw [codeBlk_eq] at g0
                by_cases r1 : 12 < n + c.randoms
                · simp -implicitDefEqProofs +contextual (disch := omega) [f1, f2, f3, f4, g0, hn, hR, r1]
                · by_cases r2 : 5 < probes.length
                  · simp -implicitDefEqProofs +contextual (disch := omega) [f1, f2, f3, f4, g0, hn, hR, r1, r2]
                  · have r2' : ¬ (5 : Int) < probes.length := by omega
                    simp -implicitDefEqProofs +contextual (disch := omega) [f1, f2, f3, f4, g0, hn, hR, r1, r2, r2']
              · simp -implicitDefEqProofs +contextual (disch := omega) [f8]
            · have n5 : c.inN < m := by omega
              simp -implicitDefEqProofs +contextual (disch := omega) [ref23_Looks.spec, ref23_Looks, hC, hcan, n1, n2, n3, n4, n5, hm, e1]
          · have n4 : 6 < d := by omega
            have n1 : ¬ s < 0 := by omega
            have n2 : ¬ 4 < s := by omega
            have n3 : ¬ d < 0 := by omega
            simp -implicitDefEqProofs +contextual (disch := omega) [ref23_Looks.spec, ref23_Looks, hC, hcan, n1, n2, n3, n4, d2]
        · have n3 : d < 0 := by omega
          have n1 : ¬ s < 0 := by omega
          have n2 : ¬ 4 < s := by omega
          simp -implicitDefEqProofs +contextual (disch := omega) [ref23_Looks.spec, ref23_Looks, hC, hcan, n1, n2, n3, d1]
      · have n2 : 4 < s := by omega
        have n1 : ¬ s < 0 := by omega
        simp -implicitDefEqProofs +contextual (disch := omega) [ref23_Looks.spec, ref23_Looks, hC, hcan, n1, n2, s2]
    · have n1 : s < 0 := by omega
      simp -implicitDefEqProofs +contextual (disch := omega) [ref23_Looks.spec, ref23_Looks, hC, hcan, n1, s1]
theorem umod2 (x : BitVec 32) : x % 2#32 = x &&& 1#32 := by
  rw [and_one]; apply BitVec.eq_of_toNat_eq; rw [BitVec.toNat_umod, BitVec.toNat_ofNat]; simp; omega
theorem bit_eq (n : BitVec 32) (i : Nat) (hi : i ≤ 100000) : ref23_bit.spec [W32 n, .int .i64 i] = some (W32 (bitW n i)) := by
  have h1 : (i : Int) % 32 = ((i % 32 : Nat) : Int) := by omega
  unfold bitW
  obtain ⟨z, hz⟩ : ∃ z, z = i % 32 := ⟨_, rfl⟩
  rw [← hz] at h1 ⊢
  have hz2 : z < 32 := by omega
  have hb : (BitVec.ofNat 64 z).toNat = z := by rw [BitVec.toNat_ofNat]; omega
  simp -implicitDefEqProofs +contextual (disch := omega) [ref23_bit.spec, ref23_bit, h1, umod2]
  rw [Nat.mod_eq_of_lt (by omega)]
noncomputable abbrev rsL0 := ref23_Spread.l0 ref23_Looks.spec ref19_Bits.spec ref23_bit.spec ref19_Spread.spec
noncomputable abbrev rsL1 := ref23_Spread.l1 ref23_Looks.spec ref19_Bits.spec ref23_bit.spec ref19_Spread.spec
noncomputable abbrev rsL2 := ref23_Spread.l2 ref23_Looks.spec ref19_Bits.spec ref23_bit.spec ref19_Spread.spec
noncomputable abbrev rsL3 := ref23_Spread.l3 ref23_Looks.spec ref19_Bits.spec ref23_bit.spec ref19_Spread.spec
noncomputable abbrev rsL4 := ref23_Spread.l4 ref23_Looks.spec ref19_Bits.spec ref23_bit.spec ref19_Spread.spec
noncomputable abbrev rsL5 := ref23_Spread.l5 ref23_Looks.spec ref19_Bits.spec ref23_bit.spec ref19_Spread.spec
def rf23 (ns d : Nat) (s p : BitVec 32) (probes : List Int) (x : List (Nat × AV)) : AFr :=
  AFr.al ([(1, .int .i64 ns), (2, .int .i64 d), (3, W32 s), (4, W32 p), (5, .rsl 1 (ints probes)), (6, .ptr 0 3 0 0)] ++ x)
structure R3I (c : CodeM) (X : AHeap) (ob : Nat) (out : List Int) : Prop where
  wf : X.WF
  g0 : X.get 0 = some (codeBlk c)
  ob0 : ob ≠ 0
  gb : X.get ob = some ⟨T.ty_int, 1, true, ints out⟩
theorem r3_pow (c : CodeM) (ns d : Nat) (hM : ns * d ≤ 12) (s p : BitVec 32) (probes : List Int) (X : AHeap) (ob : Nat) {r} (hr : aloop rsL0 (rf23 ns d s p probes [(15, .sl ob 1 0 0), (16, .int .i64 1), (17, .int .i64 0)]) X = r) :
    ∃ e fr' X', r = some (e, fr', X') ∧ (e = .exit 0 ∧ X' = X ∧ ∃ y, fr' = rf23 ns d s p probes ([(15, .sl ob 1 0 0), (16, .int .i64 (2 ^ (ns * d) : Nat))] ++ y)) := by
  have hmul : (ns : Int) * (d : Int) = ((ns * d : Nat) : Int) := by simp
  generalize ns * d = m at *
  refine run_of hr (aloop_each m (fun k fr H => H = X ∧ ∃ y, fr = rf23 ns d s p probes ([(15, .sl ob 1 0 0), (16, .int .i64 (2 ^ k : Nat)), (17, .int .i64 k)] ++ y)) _ (fun k hk fr H hR => ?_) (fun fr H hR => ?_) ⟨rfl, [], rfl⟩)
  · obtain ⟨rfl, y, rfl⟩ := hR
    have hk' : (k : Int) < m := by omega
    have hk1 : ((k + 1 : Nat) : Int) = (k : Int) + 1 := by omega
    have hp : 2 ^ k ≤ 4096 := pow_le_of (show k ≤ 12 by omega) (by omega)
    have hp1 : ((2 ^ (k + 1) : Nat) : Int) = ((2 ^ k : Nat) : Int) * 2 := by rw [Nat.pow_succ]; omega
    rw [hp1, hk1]
    generalize 2 ^ k = q at *
    refine ⟨_, _, _, by simp -implicitDefEqProofs +contextual (disch := omega) [ref23_Spread.l0, rf23, hmul, hk']; first | rfl | exact ⟨rfl, rfl⟩ | exact ⟨rfl, rfl, rfl⟩, .inl ⟨rfl, rfl, _, by simp only [rf23]; rfl⟩⟩
  · obtain ⟨rfl, y, rfl⟩ := hR
    refine ⟨_, _, _, by simp -implicitDefEqProofs +contextual (disch := omega) [ref23_Spread.l0, rf23, hmul]; first | rfl | exact ⟨rfl, rfl⟩ | exact ⟨rfl, rfl, rfl⟩, by simp, rfl, rfl, _, rfl⟩
theorem r3_xor (ns d : Nat) (hd : d ≤ 6) (s p w : BitVec 32) (probes : List Int) (x15 x16 x18 x20 : AV) (l : List (BitVec 32)) (i a : Nat) (ha : a = i * d) (ha2 : a + d ≤ l.length) (hl : l.length ≤ 100) (X : AHeap) {r}
    (hr : aloop rsL3 (rf23 ns d s p probes [(15, x15), (16, x16), (18, x18), (19, .rsl 1 (w32s l)), (20, x20), (21, .int .i64 i), (22, W32 w), (23, .int .i64 0)]) X = r) :
    ∃ e fr' X', r = some (e, fr', X') ∧ (e = .exit 6 ∧ X' = X ∧ ∃ y, fr' = rf23 ns d s p probes ([(15, x15), (16, x16), (18, x18), (19, .rsl 1 (w32s l)), (20, x20), (21, .int .i64 i), (22, W32 (w ^^^ xorL ((l.drop a).take d)))] ++ y)) := by
  have hmul : (i : Int) * (d : Int) = (a : Int) := by rw [ha]; simp
  refine run_of hr (aloop_each d (fun k fr H => H = X ∧ ∃ y, fr = rf23 ns d s p probes ([(15, x15), (16, x16), (18, x18), (19, .rsl 1 (w32s l)), (20, x20), (21, .int .i64 i), (22, W32 (w ^^^ xorL ((l.drop a).take k))), (23, .int .i64 k)] ++ y)) _ (fun k hk fr H hR => ?_) (fun fr H hR => ?_) ⟨rfl, [], by simp⟩)
  · obtain ⟨rfl, y, rfl⟩ := hR
    have hk' : (k : Int) < d := by omega
    have hk1 : ((k + 1 : Nat) : Int) = (k : Int) + 1 := by omega
    have hlt : a + k < l.length := by omega
    have hlt' : (a : Int) + k < l.length := by omega
    have hto : ((a : Int) + (k : Int)).toNat = a + k := by omega
    have e : xorL ((l.drop a).take (k + 1)) = xorL ((l.drop a).take k) ^^^ at0 l (a + k) := by
      rw [List.take_succ_eq_append_getElem (by rw [List.length_drop]; omega), xorL_append, List.getElem_drop, at0_eq l _ hlt]; simp [xorL_cons]
    rw [e, hk1, ← BitVec.xor_assoc]
    generalize xorL ((l.drop a).take k) = z at *
    refine ⟨_, _, _, by simp -implicitDefEqProofs +contextual (disch := omega) [ref23_Spread.l3, rf23, hmul, hk', hlt, hlt', hto]; first | rfl | exact ⟨rfl, rfl⟩ | exact ⟨rfl, rfl, rfl⟩, .inl ⟨rfl, rfl, _, by simp only [rf23]; rfl⟩⟩
  · obtain ⟨rfl, y, rfl⟩ := hR
    refine ⟨_, _, _, by simp -implicitDefEqProofs +contextual (disch := omega) [ref23_Spread.l3, rf23]; first | rfl | exact ⟨rfl, rfl⟩ | exact ⟨rfl, rfl, rfl⟩, by simp, rfl, rfl, _, rfl⟩
theorem shares_eq (w : BitVec 32) (ms : List (BitVec 32)) : shares w ms = [w ^^^ xorL ms] ++ ms := rfl
set_option maxHeartbeats 2000000 in
theorem r3_shares (c : CodeM) (ns d : Nat) (hns : ns ≤ 4) (hd : d ≤ 6) (s p : BitVec 32) (probes : List Int) (L : Nat) (x16 x18 : AV) (l : List (BitVec 32)) (hl : l.length = ns * d) (X : AHeap) (ob : Nat) (out : List Int) (h : R3I c X ob out) (ib : Nat) (hib : ib ≠ 0 ∧ ib ≠ ob) (hgi : X.get ib = some ⟨T.ty_uint32, 1, true, w32s []⟩) {r}
    (hr : aloop rsL2 (rf23 ns d s p probes [(15, .sl ob 1 0 L), (16, x16), (18, x18), (19, .rsl 1 (w32s l)), (20, .sl ib 1 0 0), (21, .int .i64 0)]) X = r) :
    ∃ e fr' X', r = some (e, fr', X') ∧ (e = .exit 4 ∧ R3I c X' ob out ∧ ∃ y ib, fr' = rf23 ns d s p probes ([(15, .sl ob 1 0 L), (16, x16), (18, x18), (19, .rsl 1 (w32s l)), (20, .sl ib 1 0 (shUpto ns d s l).length)] ++ y) ∧ (ib ≠ 0 ∧ ib ≠ ob) ∧ X'.get ib = some ⟨T.ty_uint32, 1, true, w32s (shUpto ns d s l)⟩) := by
  refine run_of hr (aloop_each ns (fun k fr H => R3I c H ob out ∧ ∃ y ib, fr = rf23 ns d s p probes ([(15, .sl ob 1 0 L), (16, x16), (18, x18), (19, .rsl 1 (w32s l)), (20, .sl ib 1 0 (shUpto k d s l).length), (21, .int .i64 k)] ++ y) ∧ (ib ≠ 0 ∧ ib ≠ ob) ∧ H.get ib = some ⟨T.ty_uint32, 1, true, w32s (shUpto k d s l)⟩) _ (fun k hk fr H hR => ?_) (fun fr H hR => ?_) ⟨h, [], ib, rfl, hib, hgi⟩)
  · obtain ⟨I, y, ib, rfl, hib, gi⟩ := hR
    have hk' : (k : Int) < ns := by omega
    have hk1 : ((k + 1 : Nat) : Int) = (k : Int) + 1 := by omega
    have hw := I.wf
    have g0 := I.g0
    have gb := I.gb
    have ob0 := I.ob0
    have b0 := hw _ _ g0
    have b1 := hw _ _ gb
    have b2 := hw _ _ gi
    have hle : k * d + d ≤ ns * d := by rw [← Nat.succ_mul]; exact Nat.mul_le_mul_right _ hk
    have hnd : ns * d ≤ 24 := Nat.le_trans (Nat.mul_le_mul hns hd) (by omega)
    have hsm := shUpto_len d s l k (by omega)
    have hkd1 : k * (d + 1) ≤ 28 := Nat.le_trans (Nat.mul_le_mul (show k ≤ 4 by omega) (show d + 1 ≤ 7 by omega)) (by omega)
    obtain ⟨a, ha⟩ : ∃ a, a = k * d := ⟨_, rfl⟩
    have hm1 : (k : Int) * (d : Int) = (a : Int) := by rw [ha]; simp
    have hbt := bit_eq s k (by omega)
    have hXo := fun X r hr => @r3_xor ns d hd s p (bitW s k) probes (.sl ob 1 0 L) x16 x18 (.sl ib 1 0 (shUpto k d s l).length) l k a ha (by omega) (by omega) X r hr
    have hdt : ((a : Int) + (d : Int)).toNat = a + d := by omega
    have hdt2 : ((w32s l).take (a + d)).drop a = w32s ((l.drop a).take d) := by rw [List.drop_take, Nat.add_sub_cancel_left, w32s_drop, w32s_take]
    have hml : ((l.drop a).take d).length = d := by rw [List.length_take, List.length_drop]; omega
    rw [shUpto_succ, ← ha, shares_eq]
    generalize (l.drop a).take d = ms at *
    generalize shUpto k d s l = u at *
    generalize hr2 : rsL2 _ H = r2
    simp -implicitDefEqProofs +contextual (disch := omega) [ref23_Spread.l2, rf23, hk', hbt] at hr2
    generalize hr3 : aloop _ _ _ = r3 at hr2
    obtain ⟨e, fr3, X3, rfl, rfl, rfl, y3, rfl⟩ := hXo _ r3 hr3
    generalize bitW s k ^^^ xorL ms = z at *
    simp -implicitDefEqProofs +contextual (disch := omega) [rf23, gi, hm1, hdt, hdt2] at hr2
    subst hr2
    have hlen2 : (u ++ ([z] ++ ms)).length = u.length + 1 + ms.length := by simp; omega
    have hcat : w32s (u ++ z :: ms) = w32s u ++ [W32 z] :: w32s ms := by rw [← w32s_append]; rfl
    refine ⟨_, _, _, rfl, .inl ⟨rfl, ⟨?_, ?_, ob0, ?_⟩, _, _, by simp only [rf23, hk1, hlen2]; rfl, ?_, ?_⟩⟩
    · (repeat' (first | assumption | with_reducible apply AHeap.WF.push | with_reducible apply AHeap.WF.set | with_reducible apply killAll_wf | exact AHeap.WF.empty)) <;> (simp <;> omega)
    · simp (disch := omega) [g0]
    · simp (disch := omega) [gb]
    · omega
    · simp (disch := omega) [hcat]
  · obtain ⟨I, y, ib, rfl, hib, gi⟩ := hR
    refine ⟨_, _, _, by simp -implicitDefEqProofs +contextual (disch := omega) [ref23_Spread.l2, rf23]; first | rfl | exact ⟨rfl, rfl⟩ | exact ⟨rfl, rfl, rfl⟩, by simp, rfl, I, _, _, rfl, hib, gi⟩
theorem r3_pad (c : CodeM) (inN : Nat) (hin : c.inN = inN) (hin4 : inN ≤ 4000) (ns d : Nat) (s p : BitVec 32) (probes : List Int) (x15 x16 x18 : AV) (u : List (BitVec 32)) (hu : u.length ≤ inN) (X : AHeap) (ob : Nat) (out : List Int) (h : R3I c X ob out) (ib : Nat) (hib : ib ≠ 0 ∧ ib ≠ ob) (hgi : X.get ib = some ⟨T.ty_uint32, 1, true, w32s u⟩) (y0 : List (Nat × AV)) {r}
    (hr : aloop rsL4 (rf23 ns d s p probes ([(15, x15), (16, x16), (18, x18), (20, .sl ib 1 0 u.length)] ++ y0)) X = r) :
    ∃ e fr' X', r = some (e, fr', X') ∧ (e = .exit 8 ∧ R3I c X' ob out ∧ ∃ y ib, fr' = rf23 ns d s p probes ([(15, x15), (16, x16), (18, x18), (20, .sl ib 1 0 inN)] ++ y) ∧ (ib ≠ 0 ∧ ib ≠ ob) ∧ X'.get ib = some ⟨T.ty_uint32, 1, true, w32s (padP p u (inN - u.length))⟩) := by
  refine run_of hr (aloop_each (inN - u.length) (fun k fr H => R3I c H ob out ∧ ∃ y ib, fr = rf23 ns d s p probes ([(15, x15), (16, x16), (18, x18), (20, .sl ib 1 0 (u.length + k))] ++ y) ∧ (ib ≠ 0 ∧ ib ≠ ob) ∧ H.get ib = some ⟨T.ty_uint32, 1, true, w32s (padP p u k)⟩) _ (fun k hk fr H hR => ?_) (fun fr H hR => ?_) ⟨h, y0, ib, rfl, hib, by simpa [padP] using hgi⟩)
  · obtain ⟨I, y, ib, rfl, hib, gi⟩ := hR
    have hw := I.wf
    have g0 := I.g0
    have gb := I.gb
    have ob0 := I.ob0
    have b0 := hw _ _ g0
    have b1 := hw _ _ gb
    have b2 := hw _ _ gi
    rw [codeBlk_eq, hin] at g0
    have hlen := padP_len p u k
    obtain ⟨z, hz⟩ : ∃ z, z = u.length + k := ⟨_, rfl⟩
    have hz1 : u.length + (k + 1) = z + 1 := by omega
    rw [padP_succ, hz1, ← hz]
    rw [← hz] at hlen
    have hz2 : (z : Int) < inN := by omega
    have hbt := bit_eq p z (by omega)
    generalize bitW p z = bw at *
    generalize padP p u k = w at *
    refine ⟨_, _, _, by simp -implicitDefEqProofs +contextual (disch := omega) [ref23_Spread.l4, rf23, g0, gi, hz2, hbt]; first | rfl | exact ⟨rfl, rfl⟩ | exact ⟨rfl, rfl, rfl⟩, .inl ⟨rfl, ⟨?_, ?_, ob0, ?_⟩, _, _, by simp only [rf23]; rfl, ?_, ?_⟩⟩
    · (repeat' (first | assumption | with_reducible apply AHeap.WF.push | with_reducible apply AHeap.WF.set | with_reducible apply killAll_wf | exact AHeap.WF.empty)) <;> (simp <;> omega)
    · rw [codeBlk_eq, hin]; simp (disch := omega) [g0]
    · simp (disch := omega) [gb]
    · omega
    · simp (disch := omega) [w32s_snoc]
  · obtain ⟨I, y, ib, rfl, hib, gi⟩ := hR
    have g0 := I.g0
    rw [codeBlk_eq, hin] at g0
    have e : u.length + (inN - u.length) = inN := by omega
    rw [e]
    refine ⟨_, _, _, by simp -implicitDefEqProofs +contextual (disch := omega) [ref23_Spread.l4, rf23, g0]; first | rfl | exact ⟨rfl, rfl⟩ | exact ⟨rfl, rfl, rfl⟩, by simp, rfl, I, _, _, rfl, hib, gi⟩
def accL (m : Nat) (old x : List Int) (i : Nat) : List Int := if m = 0 then x.take i else (addL old x).take i ++ old.drop i
theorem accL_succ (m : Nat) (old x : List Int) (i : Nat) (hi : i < x.length) (ho : m ≠ 0 → old.length = x.length) :
    accL m old x (i + 1) = if m = 0 then accL m old x i ++ [ati x i] else (accL m old x i).set i (ati old i + ati x i) := by
  unfold accL
  by_cases h : m = 0
  · rw [if_pos h, if_pos h, if_pos h, List.take_succ_eq_append_getElem hi, ati_eq x i hi]
  · have ho := ho h
    rw [if_neg h, if_neg h, if_neg h]
    have hal : (addL old x).length = x.length := by simp [addL, ho]
    rw [List.take_succ_eq_append_getElem (by omega), List.set_append_right _ _ (by rw [List.length_take]; omega), List.length_take, Nat.min_eq_left (by omega), Nat.sub_self]
    rw [List.drop_eq_getElem_cons (show i < old.length by omega), List.set_cons_zero, List.append_assoc]
    have e := addL_get old x i (by omega) hi
    rw [ati_eq _ _ (by omega)] at e
    rw [e]; rfl
theorem r3_add (c : CodeM) (ns d : Nat) (s p : BitVec 32) (probes : List Int) (m L : Nat) (hL : L ≤ 32) (x16 : AV) (old x : List Int) (hx : x.length = L) (ho : old.length = if m = 0 then 0 else L) (hob : ∀ i, 0 ≤ ati old i ∧ ati old i ≤ 100000000) (hxb : ∀ i, 0 ≤ ati x i ∧ ati x i ≤ 100000000) (X : AHeap) (ob : Nat) (h : R3I c X ob old) {r}
    (hr : aloop rsL5 (rf23 ns d s p probes [(15, .sl ob 1 0 old.length), (16, x16), (18, .int .i64 m), (25, .rsl 1 (ints x)), (26, .int .i64 0)]) X = r) :
    ∃ e fr' X', r = some (e, fr', X') ∧ (e = .exit 10 ∧ ∃ y ob, fr' = rf23 ns d s p probes ([(15, .sl ob 1 0 L), (16, x16), (18, .int .i64 m)] ++ y) ∧ R3I c X' ob (accL m old x L)) := by
  have hal : ∀ i, i ≤ L → (accL m old x i).length = if m = 0 then i else L := fun i hi => by
    unfold accL; split
    · rw [List.length_take]; omega
    · rename_i hm
      rw [if_neg hm] at ho
      rw [List.length_append, List.length_take, List.length_drop]
      have : (addL old x).length = L := by simp [addL, ho, hx]
      omega
  refine run_of hr (aloop_each L (fun k fr H => ∃ y ob, fr = rf23 ns d s p probes ([(15, .sl ob 1 0 (accL m old x k).length), (16, x16), (18, .int .i64 m), (25, .rsl 1 (ints x)), (26, .int .i64 k)] ++ y) ∧ R3I c H ob (accL m old x k)) _ (fun k hk fr H hR => ?_) (fun fr H hR => ?_) ⟨[], ob, ?_, ?_⟩)
  · obtain ⟨y, ob, rfl, I⟩ := hR
    have hw := I.wf
    have g0 := I.g0
    have gb := I.gb
    have ob0 := I.ob0
    have b0 := hw _ _ g0
    have b1 := hw _ _ gb
    have hk1 : ((k + 1 : Nat) : Int) = (k : Int) + 1 := by omega
    have hkL : (k : Int) < x.length := by omega
    have hkx : k < x.length := by omega
    have h1 := hob k
    have h2 := hxb k
    have hl1 := hal k (by omega)
    have hs := accL_succ m old x k hkx (fun hm => by rw [if_neg hm] at ho; omega)
    rw [hs]
    by_cases hm : m = 0
    · subst hm
      rw [if_pos rfl] at hl1 ⊢
      generalize accL 0 old x k = w at *
      subst hl1
      have e1 : (w ++ [(0 : Int)]).set w.length (ati x w.length) = w ++ [ati x w.length] := by simp
      have hat0 : ati (w ++ [(0 : Int)]) w.length = 0 := by simp [ati, List.getD_eq_getElem?_getD]
      refine ⟨_, _, _, by simp -implicitDefEqProofs +contextual (disch := omega) [ref23_Spread.l5, rf23, gb, hkL, hkx, ints_snoc, hat0]; first | rfl | exact ⟨rfl, rfl⟩ | exact ⟨rfl, rfl, rfl⟩, .inl ⟨rfl, _, _, by simp only [rf23, hk1, List.length_append, List.length_cons, List.length_nil, Int.natCast_zero, Nat.zero_add]; rfl, ?_, ?_, ?_, ?_⟩⟩
      · (repeat' (first | assumption | with_reducible apply AHeap.WF.push | with_reducible apply AHeap.WF.set | with_reducible apply killAll_wf | exact AHeap.WF.empty)) <;> (simp <;> omega)
      · simp (disch := omega) [g0]
      · omega
      · simp (disch := omega) [ints_snoc, hat0]
    · have hm' : ¬ (m : Int) = 0 := by omega
      rw [if_neg hm] at hl1 ⊢
      have hat : ati (accL m old x k) k = ati old k := by
        unfold accL
        rw [if_neg hm] at ho
        rw [if_neg hm]
        have : (addL old x).length = L := by simp [addL, ho, hx]
        unfold ati
        rw [List.getD_eq_getElem?_getD, List.getElem?_append_right (by rw [List.length_take]; omega), List.length_take, Nat.min_eq_left (by omega), Nat.sub_self, List.getElem?_drop, List.getD_eq_getElem?_getD, Nat.add_zero]
      generalize accL m old x k = w at *
      have hkw : k < w.length := by omega
      have hkw' : (k : Int) < w.length := by omega
      refine ⟨_, _, _, by simp -implicitDefEqProofs +contextual (disch := omega) [ref23_Spread.l5, rf23, gb, hkL, hkx, hm', hkw, hkw', hat]; first | rfl | exact ⟨rfl, rfl⟩ | exact ⟨rfl, rfl, rfl⟩, .inl ⟨rfl, _, _, by simp only [rf23, hk1, List.length_set]; rfl, ?_, ?_, ?_, ?_⟩⟩
      · (repeat' (first | assumption | with_reducible apply AHeap.WF.push | with_reducible apply AHeap.WF.set | with_reducible apply killAll_wf | exact AHeap.WF.empty)) <;> (simp <;> omega)
      · simp (disch := omega) [g0]
      · omega
      · simp (disch := omega)
  · obtain ⟨y, ob, rfl, I⟩ := hR
    have hl1 := hal L (Nat.le_refl _)
    have hl2 : (accL m old x L).length = L := by rw [hl1]; split <;> rfl
    rw [hl2]
    refine ⟨_, _, _, by simp -implicitDefEqProofs +contextual (disch := omega) [ref23_Spread.l5, rf23, hx]; first | rfl | exact ⟨rfl, rfl⟩ | exact ⟨rfl, rfl, rfl⟩, by simp, rfl, _, _, rfl, I⟩
  · have hl1 := hal 0 (by omega)
    rw [hl1, ho]; simp
  · have e : accL m old x 0 = old := by
      unfold accL
      split
      · rename_i hm
        rw [if_pos hm] at ho
        have := List.eq_nil_of_length_eq_zero ho
        rw [this]; rfl
      · simp
    rw [e]; exact h
end Go.Abs
end
section
set_option linter.unusedSimpArgs false
set_option linter.unusedVariables false
namespace Go.Abs
theorem al_cons (x : Nat × AV) {l l' : List (Nat × AV)} (h : AFr.al l = AFr.al l') : AFr.al (x :: l) = AFr.al (x :: l') := by
  funext j; simp only [AFr.al]; rw [h]
theorem al_swap (a b : Nat × AV) (h : a.1 ≠ b.1) (l : List (Nat × AV)) : AFr.al (a :: b :: l) = AFr.al (b :: a :: l) := by
  funext j; simp only [AFr.al]
  by_cases h1 : j = a.1
  · by_cases h2 : j = b.1
    · exact absurd (h1.symm.trans h2) h
    · simp [h1, h]
  · simp [h1]
theorem addL_zero (x : List Int) : addL (List.replicate x.length 0) x = x := by
  apply List.ext_getElem
  · simp [addL]
  · intro i h1 h2; simp [addL]
theorem sumT_succ (A size : Nat) (g : Nat → List Int) : sumT (A + 1) size g = addL (sumT A size g) (g A) := by unfold sumT; rw [List.range_succ, List.foldl_append]; rfl
theorem ati_far (l : List Int) (i : Nat) (h : l.length ≤ i) : ati l i = 0 := by simp [ati, List.getD_eq_getElem?_getD, List.getElem?_eq_none h]
theorem tally_bound (N size : Nat) (f : Nat → Nat) (i : Nat) : 0 ≤ ati (tally N size f) i ∧ ati (tally N size f) i ≤ N := by
  by_cases h : i < size
  · rw [tally_ati _ _ _ _ h]
    have := List.countP_le_length (p := fun n => f n == i) (l := List.range N)
    rw [List.length_range] at this
    omega
  · rw [ati_far _ _ (by simp; omega)]; omega
theorem sumT_bound (size B : Nat) (g : Nat → List Int) (hl : ∀ m, (g m).length = size) (h : ∀ m i, 0 ≤ ati (g m) i ∧ ati (g m) i ≤ B) (i : Nat) : ∀ A, 0 ≤ ati (sumT A size g) i ∧ ati (sumT A size g) i ≤ (A * B : Nat)
  | 0 => by
    have : ati (sumT 0 size g) i = 0 := by
      by_cases hi : i < size
      · simp [sumT, ati, List.getD_eq_getElem?_getD, hi]
      · rw [ati_far _ _ (by simp [sumT]; omega)]
    rw [this]; simp
  | A + 1 => by
    have ih := sumT_bound size B g hl h i A
    have h2 := h A i
    rw [sumT_succ]
    by_cases hi : i < size
    · rw [addL_get _ _ _ (by rw [sumT_length _ _ _ hl]; exact hi) (by rw [hl]; exact hi), Nat.succ_mul]; omega
    · rw [ati_far _ _ (by simp [addL, hl]; omega), Nat.succ_mul]; omega
def gT (q : AskM) (s p : BitVec 32) (probes : List Int) (inN m : Nat) : List Int := tally (2 ^ q.tapes) (2 ^ probes.length) fun t => atM (runOps q.c.ops (padM (comesIn inN q.secrets q.d s p (bitsM m q.masks)) inN) (bitsM t q.tapes)) probes
def outUp (q : AskM) (s p : BitVec 32) (probes : List Int) (inN m : Nat) : List Int := if m = 0 then [] else sumT m (2 ^ probes.length) (gT q s p probes inN)
theorem outUp_succ (q : AskM) (s p : BitVec 32) (probes : List Int) (inN m : Nat) : accL m (outUp q s p probes inN m) (gT q s p probes inN m) (2 ^ probes.length) = outUp q s p probes inN (m + 1) := by
  have hl : (gT q s p probes inN m).length = 2 ^ probes.length := by simp [gT]
  have hs : (sumT m (2 ^ probes.length) (gT q s p probes inN)).length = 2 ^ probes.length := sumT_length _ _ _ (fun m => by simp [gT])
  unfold outUp accL
  rw [if_neg (show ¬ m + 1 = 0 by omega), sumT_succ]
  by_cases h : m = 0
  · subst h
    rw [if_pos rfl, List.take_of_length_le (by omega)]
    have : sumT 0 (2 ^ probes.length) (gT q s p probes inN) = List.replicate (gT q s p probes inN 0).length 0 := by rw [hl]; rfl
    rw [this, addL_zero]
  · rw [if_neg h, if_neg h, List.take_of_length_le (by simp [addL, hl, hs]), List.drop_of_length_le (by omega), List.append_nil]
set_option maxHeartbeats 4000000 in
theorem r3_masks (q : AskM) (inN : Nat) (h : AskOk q inN) (s p : BitVec 32) (probes : List Int) (hP : probes.length ≤ 5) (hp : probesOk q.c probes) (X : AHeap) (ob : Nat) (hI : R3I q.c X ob []) {r}
    (hr : aloop rsL1 (rf23 q.secrets q.d s p probes [(15, .sl ob 1 0 0), (16, .int .i64 (2 ^ q.masks : Nat)), (18, .int .i64 0)]) X = r) :
    ∃ e fr' X', r = some (e, fr', X') ∧ (e = .exit 2 ∧ ∃ ob, fr' 15 = .sl ob 1 0 (2 ^ probes.length) ∧ R3I q.c X' ob (q.spread s p probes)) := by
  obtain ⟨hop, hin4⟩ := h.ops
  have hin := h.hin
  have hns := h.ns
  have hd := h.d
  have hM := h.M
  have hroom := h.room
  have hMb : 2 ^ q.masks ≤ 4096 := pow_le_of (show q.masks ≤ 12 by omega) (by omega)
  have hTb : 2 ^ q.tapes ≤ 4096 := pow_le_of (show q.tapes ≤ 12 by omega) (by omega)
  have hSb : 2 ^ probes.length ≤ 32 := pow_le_of (show probes.length ≤ 5 by omega) (by omega)
  have hul : ∀ k, k ≤ 2 ^ q.masks → (outUp q s p probes inN k).length = if k = 0 then 0 else 2 ^ probes.length := fun k hk => by
    unfold outUp; split
    · rfl
    · exact sumT_length _ _ _ (fun m => by simp [gT])
  refine run_of hr (aloop_each (2 ^ q.masks) (fun k fr H => ∃ y ob, fr = rf23 q.secrets q.d s p probes ([(15, .sl ob 1 0 (outUp q s p probes inN k).length), (16, .int .i64 (2 ^ q.masks : Nat)), (18, .int .i64 k)] ++ y) ∧ R3I q.c H ob (outUp q s p probes inN k)) _ (fun k hk fr H hR => ?_) (fun fr H hR => ?_) ⟨[], ob, rfl, hI⟩)
  · obtain ⟨y, ob, rfl, I⟩ := hR
    have hk' : (k : Int) < (2 ^ q.masks : Nat) := by omega
    have hk1 : ((k + 1 : Nat) : Int) = (k : Int) + 1 := by omega
    have hw := I.wf
    have g0 := I.g0
    have gb := I.gb
    have ob0 := I.ob0
    have b0 := hw _ _ g0
    have b1 := hw _ _ gb
    have hmul : (q.secrets : Int) * (q.d : Int) = (q.masks : Int) := by simp [AskM.masks]
    have hB := Bits_eq' k q.masks (by omega) (by omega)
    have hml : (bitsM k q.masks).length = q.secrets * q.d := by simp [AskM.masks]
    have hCI := comesIn_eq inN q.secrets q.d s p (bitsM k q.masks) hml
    have hul2 := shUpto_len q.d s (bitsM k q.masks) q.secrets (by omega)
    have hgl : (comesIn inN q.secrets q.d s p (bitsM k q.masks)).length = inN := by rw [hCI, padP_len]; omega
    have hS := rSpread_eq q.c h.can h.hb (show q.c.randoms ≤ 12 by have : q.tapes = q.c.randoms := rfl; omega) (comesIn inN q.secrets q.d s p (bitsM k q.masks)) (by omega) probes (by omega) hp
    have hgT : tally (2 ^ q.c.randoms) (2 ^ probes.length) (fun t => atM (runOps q.c.ops (padM (comesIn inN q.secrets q.d s p (bitsM k q.masks)) q.c.inN.toNat) (bitsM t q.c.randoms)) probes) = gT q s p probes inN k := by
      rw [hin]; rfl
    rw [hgT] at hS
    have hac := outUp_succ q s p probes inN k
    have hox := hul k (by omega)
    have hxl : (gT q s p probes inN k).length = 2 ^ probes.length := by simp [gT]
    have hxb : ∀ i, 0 ≤ ati (gT q s p probes inN k) i ∧ ati (gT q s p probes inN k) i ≤ 100000000 := fun i => by
      have := tally_bound (2 ^ q.tapes) (2 ^ probes.length) (fun t => atM (runOps q.c.ops (padM (comesIn inN q.secrets q.d s p (bitsM k q.masks)) inN) (bitsM t q.tapes)) probes) i
      unfold gT; omega
    have hobb : ∀ i, 0 ≤ ati (outUp q s p probes inN k) i ∧ ati (outUp q s p probes inN k) i ≤ 100000000 := fun i => by
      unfold outUp; split
      · simp [ati]
      · have := sumT_bound (2 ^ probes.length) (2 ^ q.tapes) (gT q s p probes inN) (fun m => by simp [gT]) (fun m i => tally_bound _ _ _ i) i k
        have h2 : k * 2 ^ q.tapes ≤ 4096 * 4096 := Nat.mul_le_mul (by omega) hTb
        omega
    rw [← hac]
    have hAd := fun X ob h r hr => @r3_add q.c q.secrets q.d s p probes k (2 ^ probes.length) hSb (.int .i64 (2 ^ q.masks : Nat)) (outUp q s p probes inN k) (gT q s p probes inN k) hxl hox hobb hxb X ob h r hr
    have hSh := fun X h r ib hib hgi hr => @r3_shares q.c q.secrets q.d hns hd s p probes (outUp q s p probes inN k).length (.int .i64 (2 ^ q.masks : Nat)) (.int .i64 k) (bitsM k q.masks) hml X ob (outUp q s p probes inN k) h ib hib hgi r hr
    have hPd := fun X h ib hib hgi y0 r hr => @r3_pad q.c inN hin hin4 q.secrets q.d s p probes (.sl ob 1 0 (outUp q s p probes inN k).length) (.int .i64 (2 ^ q.masks : Nat)) (.int .i64 k) (shUpto q.secrets q.d s (bitsM k q.masks)) (by omega) X ob (outUp q s p probes inN k) h ib hib hgi y0 r hr
    rw [← hCI] at hPd
    have hne : ¬ w32s (comesIn inN q.secrets q.d s p (bitsM k q.masks)) = [] ∨ inN = 0 := by
      by_cases z : inN = 0
      · exact .inr z
      · refine .inl fun e => z ?_
        have := congrArg List.length e; rw [w32s_length, hgl] at this; simpa using this
    have hacl : (accL k (outUp q s p probes inN k) (gT q s p probes inN k) (2 ^ probes.length)).length = 2 ^ probes.length := by
      rw [hac, hul (k + 1) (by omega), if_neg (by omega)]
    generalize accL k (outUp q s p probes inN k) (gT q s p probes inN k) (2 ^ probes.length) = ac at *
    generalize gT q s p probes inN k = gx at *
    generalize comesIn inN q.secrets q.d s p (bitsM k q.masks) = ci at *
    generalize shUpto q.secrets q.d s (bitsM k q.masks) = su at *
    generalize bitsM k q.masks = bm at *
    generalize outUp q s p probes inN k = ou at *
    generalize 2 ^ probes.length = SS at *
    generalize hMM : 2 ^ q.masks = MM at *
    have g0' := g0
    rw [codeBlk_eq, hin] at g0'
    unfold CodeM.cells at hS
    rw [hin] at hS
    have htk : (w32s ci).take inN = w32s ci := List.take_of_length_le (by rw [w32s_length]; omega)
    generalize hr2 : rsL1 _ H = r2
    simp -implicitDefEqProofs +contextual (disch := omega) [ref23_Spread.l1, rf23, hk', hmul, hB] at hr2
    generalize hr3 : aloop _ _ _ = r3 at hr2
    obtain ⟨e, fr3, X3, rfl, rfl, I3, y3, ib3, rfl, hib3, gi3⟩ := hSh _ ⟨hw.push, by simp (disch := omega) [g0], ob0, by simp (disch := omega) [gb]⟩ r3 H.next ⟨by omega, by omega⟩ (by simp [w32s]) hr3
    simp -implicitDefEqProofs +contextual (disch := omega) [rf23] at hr2
    generalize hr4 : aloop _ _ _ = r4 at hr2
    have hfr : rf23 q.secrets q.d s p probes ([(15, .sl ob 1 0 ou.length), (16, .int .i64 MM), (18, .int .i64 k), (20, .sl ib3 1 0 su.length)] ++ ((19, .rsl 1 (w32s bm)) :: y3)) = AFr.al ((1, .int .i64 q.secrets) :: (2, .int .i64 q.d) :: (3, W32 s) :: (4, W32 p) :: (5, .rsl 1 (ints probes)) :: (6, .ptr 0 3 0 0) :: (15, .sl ob 1 0 ou.length) :: (16, .int .i64 MM) :: (18, .int .i64 k) :: (19, .rsl 1 (w32s bm)) :: (20, .sl ib3 1 0 su.length) :: y3) := by
      simp only [rf23, List.cons_append, List.nil_append]
      repeat (first | exact al_swap _ _ (by simp) _ | refine al_cons _ ?_)
    obtain ⟨e, fr4, X4, rfl, rfl, I4, y4, ib4, rfl, hib4, gi4⟩ := hPd X3 I3 ib3 hib3 gi3 ((19, .rsl 1 (w32s bm)) :: y3) r4 (by rw [hfr]; exact hr4)
    have g04 := I4.g0
    rw [codeBlk_eq, hin] at g04
    have b40 := I4.wf _ _ g04
    have b41 := I4.wf _ _ I4.gb
    have b42 := I4.wf _ _ gi4
    have w4 := I4.wf
    have gb4 := I4.gb
    have hib40 := hib4.1
    have hib41 := hib4.2
    simp -implicitDefEqProofs +contextual (disch := omega) [rf23, g04, gi4, htk, hgl, hS] at hr2
    generalize hr5 : aloop _ _ _ = r5 at hr2
    obtain ⟨e, fr5, X6, rfl, rfl, y6, ob6, rfl, I6⟩ := hAd (X4.killAll [ib4]) ob ⟨killAll_wf w4 _, by simp (disch := omega) [I4.g0], ob0, by simp (disch := omega) [gb4]⟩ r5 hr5
    simp -implicitDefEqProofs +contextual (disch := omega) [rf23] at hr2
    subst hr2
    refine ⟨_, _, _, rfl, .inl ⟨rfl, [], ob6, ?_, I6⟩⟩
    simp [rf23, hk1, hacl]
  · obtain ⟨y, ob, rfl, I⟩ := hR
    have hpos := Nat.two_pow_pos q.masks
    have hsp : outUp q s p probes inN (2 ^ q.masks) = q.spread s p probes := by
      unfold outUp; rw [if_neg (by omega), q.spread_sum, hin]; rfl
    rw [hsp] at I
    refine ⟨_, _, _, by simp -implicitDefEqProofs +contextual (disch := omega) [ref23_Spread.l1, rf23]; first | rfl | exact ⟨rfl, rfl⟩ | exact ⟨rfl, rfl, rfl⟩, by simp, rfl, ob, ?_, I⟩
    rw [hsp, q.spread_length]; simp
set_option maxHeartbeats 2000000 in
theorem rSpread23_eq (c : CodeM) (hb : c.outs.length ≤ 1000000000) (hb2 : c.ops.length ≤ 1000000000) (s d : Int) (sw p : BitVec 32) (probes : List Int) (hp : probes.length ≤ 1000000000) :
    ref23_Spread.spec [.agg c.cells, .int .i64 s, .int .i64 d, W32 sw, W32 p, .rsl 1 (ints probes)] =
      some (.tup [.rsl 1 (ints (if looksM c s d probes = 0 then (AskM.mk c s.toNat d.toNat).spread sw p probes else [])), .int .i64 (looksM c s d probes)]) := by
  have hL := rLooks_eq c hb hb2 s d probes hp
  unfold CodeM.cells at hL ⊢
  rcases looks_cases c s d probes with h | h | h
  · obtain ⟨h1, h2, h3, h4⟩ := looks_zero h
    obtain ⟨q, inN, rfl, rfl, rfl, hA⟩ := ask_of hb h1 h3
    have e : AskM.mk q.c (q.secrets : Int).toNat (q.d : Int).toNat = q := by simp
    rw [h] at hL ⊢
    rw [if_pos rfl, e]
    simp -implicitDefEqProofs +contextual (disch := omega) [ref23_Spread.spec, ref23_Spread, hL]
    generalize hr : aloop _ _ _ = r
    obtain ⟨e, fr1, X1, rfl, rfl, rfl, y1, rfl⟩ := r3_pow q.c q.secrets q.d (by have := hA.M; have e : q.masks = q.secrets * q.d := rfl; omega) sw p probes _ 1 hr
    simp -implicitDefEqProofs +contextual (disch := omega) [rf23]
    generalize hr : aloop _ _ _ = r
    obtain ⟨e, fr2, X2, rfl, rfl, ob2, p15, I2⟩ := r3_masks q inN hA sw p probes h4 h2 _ 1 ⟨by (repeat' (first | assumption | with_reducible apply AHeap.WF.push | with_reducible apply AHeap.WF.set | with_reducible apply killAll_wf | exact AHeap.WF.empty)) <;> (simp <;> omega), by simp [codeBlk_eq], by omega, by simp [ints0]⟩ hr
    have g2 := I2.gb
    have hsl : (q.spread sw p probes).length = 2 ^ probes.length := q.spread_length sw p probes
    have ht : (ints (q.spread sw p probes)).take (2 ^ probes.length) = ints (q.spread sw p probes) := List.take_of_length_le (by simp [hsl])
    simp -implicitDefEqProofs +contextual (disch := omega) [p15, g2, hsl, ht]
  · rw [h] at hL ⊢
    simp -implicitDefEqProofs +contextual (disch := omega) [ref23_Spread.spec, ref23_Spread, hL, ints0]
  · rw [h] at hL ⊢
    simp -implicitDefEqProofs +contextual (disch := omega) [ref23_Spread.spec, ref23_Spread, hL, ints0]
end Go.Abs
end
section
set_option linter.unusedSimpArgs false
set_option linter.unusedVariables false
namespace Go.Abs
noncomputable abbrev rfL0 := ref23_Safe.l0 ref23_Spread.spec ref02_Same.spec
def rsFr (ns d : Int) (p : BitVec 32) (probes : List Int) (x : List Int) (y : List (Nat × AV)) : AFr :=
  AFr.al ([(1, .int .i64 ns), (2, .int .i64 d), (3, W32 p), (4, .rsl 1 (ints probes)), (5, .ptr 0 3 0 0), (12, .rsl 1 (ints x))] ++ y)
theorem rs_pow (n : Nat) (hn : n ≤ 4) (d : Int) (p : BitVec 32) (probes x : List Int) (X : AHeap) {r} (hr : aloop rfL0 (rsFr n d p probes x [(14, W32 1#32), (15, .int .i64 0)]) X = r) :
    ∃ e fr' X', r = some (e, fr', X') ∧ (e = .exit 0 ∧ X' = X ∧ ∃ y, fr' = rsFr n d p probes x ([(14, W32 (BitVec.ofNat 32 (2 ^ n)))] ++ y)) := by
  refine run_of hr (aloop_each n (fun k fr H => H = X ∧ ∃ y, fr = rsFr n d p probes x ([(14, W32 (BitVec.ofNat 32 (2 ^ k))), (15, .int .i64 k)] ++ y)) _ (fun k hk fr H hR => ?_) (fun fr H hR => ?_) ⟨rfl, [], rfl⟩)
  · obtain ⟨rfl, y, rfl⟩ := hR
    have hk' : (k : Int) < n := by omega
    have hk1 : ((k + 1 : Nat) : Int) = (k : Int) + 1 := by omega
    have hp1 : BitVec.ofNat 32 (2 ^ (k + 1)) = BitVec.ofNat 32 (2 ^ k) * 2#32 := by
      rw [Nat.pow_succ, BitVec.ofNat_mul]
    rw [hp1, hk1]
    generalize BitVec.ofNat 32 (2 ^ k) = q at *
    refine ⟨_, _, _, by simp -implicitDefEqProofs +contextual (disch := omega) [ref23_Safe.l0, rsFr, hk']; first | rfl | exact ⟨rfl, rfl⟩ | exact ⟨rfl, rfl, rfl⟩, .inl ⟨rfl, rfl, _, by simp only [rsFr]; rfl⟩⟩
  · obtain ⟨rfl, y, rfl⟩ := hR
    refine ⟨_, _, _, by simp -implicitDefEqProofs +contextual (disch := omega) [ref23_Safe.l0, rsFr]; first | rfl | exact ⟨rfl, rfl⟩ | exact ⟨rfl, rfl, rfl⟩, by simp, rfl, rfl, _, rfl⟩
set_option maxHeartbeats 4000000 in
theorem rSafe_eq (c : CodeM) (hb : c.outs.length ≤ 1000000000) (hb2 : c.ops.length ≤ 1000000000) (s d : Int) (p : BitVec 32) (probes : List Int) (hp : probes.length ≤ 1000000000) :
    ref23_Safe.spec [.agg c.cells, .int .i64 s, .int .i64 d, W32 p, .rsl 1 (ints probes)] =
      some (.tup [.bool (decide (looksM c s d probes = 0) && (AskM.mk c s.toNat d.toNat).safe p probes), .int .i64 (looksM c s d probes)]) := by
  have hS := fun sw => rSpread23_eq c hb hb2 s d sw p probes hp
  unfold CodeM.cells at hS ⊢
  rcases looks_cases c s d probes with h | h | h
  · obtain ⟨h1, h2, h3, h4⟩ := looks_zero h
    obtain ⟨q, inN, rfl, rfl, rfl, hA⟩ := ask_of hb h1 h3
    obtain ⟨hT, hTb, hT0⟩ := pow_secrets q hA.ns
    have hSb : 2 ^ probes.length ≤ 32 := pow_le_of (show probes.length ≤ 5 by omega) (by omega)
    have e : AskM.mk q.c (q.secrets : Int).toNat (q.d : Int).toNat = q := by simp
    simp only [h, if_true, e] at hS
    simp only [h, e]
    have hE := fun s => sameI_eq (q.spread 0#32 p probes) (q.spread s p probes) (by rw [q.spread_length]; omega)
    have h0 := hS 0#32
    simp -implicitDefEqProofs +contextual (disch := omega) [ref23_Safe.spec, ref23_Safe, h0]
    generalize hr : aloop _ _ _ = r
    obtain ⟨e, fr1, X1, rfl, rfl, rfl, y1, rfl⟩ := rs_pow q.secrets hA.ns q.d p probes (q.spread 0#32 p probes) _ hr
    simp -implicitDefEqProofs +contextual (disch := omega) [rsFr]
    generalize hr : aloop _ _ _ = r
    obtain ⟨e, fr', X', rfl, hq⟩ : ∃ e fr' X', r = some (e, fr', X') ∧ ((q.safe p probes = true ∧ e = .exit 2) ∨ (q.safe p probes = false ∧ e = .ret ∧ fr' 10 = .bool false ∧ fr' 11 = .int .i64 0)) := by
      refine run_of hr (aloop_each (2 ^ q.secrets - 1) (fun k fr H => (∃ y, fr = rsFr q.secrets q.d p probes (q.spread 0#32 p probes) ([(14, W32 (BitVec.ofNat 32 (2 ^ q.secrets))), (16, W32 (BitVec.ofNat 32 (k + 1)))] ++ y)) ∧ H.get 0 = some (codeBlk q.c) ∧ ∀ i, i < k + 1 → q.spread (BitVec.ofNat 32 i) p probes = q.spread 0#32 p probes) _ (fun k hk fr H hR => ?_) (fun fr H hR => ?_) ⟨⟨[], rfl⟩, by simp [codeBlk_eq], fun i hi => by obtain rfl : i = 0 := (by omega); rfl⟩)
      · obtain ⟨⟨y, rfl⟩, g0, h3⟩ := hR
        rw [codeBlk_eq] at g0
        have hlt : BitVec.ofNat 32 (k + 1) < BitVec.ofNat 32 (2 ^ q.secrets) := by rw [BitVec.lt_def, BitVec.toNat_ofNat, BitVec.toNat_ofNat]; omega
        have hk1 : BitVec.ofNat 32 (k + 1) + 1#32 = BitVec.ofNat 32 (k + 1 + 1) := by apply BitVec.eq_of_toNat_eq; simp
        have h1 := hS (BitVec.ofNat 32 (k + 1))
        have h2 := hE (BitVec.ofNat 32 (k + 1))
        by_cases e : q.spread (BitVec.ofNat 32 (k + 1)) p probes = q.spread 0#32 p probes
        · rw [decide_eq_true e.symm] at h2
          refine ⟨_, _, _, by simp -implicitDefEqProofs +contextual (disch := omega) [ref23_Safe.l1, rsFr, g0, hlt, h1, h2]; first | rfl | exact ⟨rfl, rfl⟩ | exact ⟨rfl, rfl, rfl⟩, .inl ⟨rfl, ⟨_, by simp only [rsFr, ← hk1]; rfl⟩, by rw [codeBlk_eq]; exact g0, fun i hi => ?_⟩⟩
          by_cases q : i = k + 1
          · subst q; exact e
          · exact h3 i (by omega)
        · rw [decide_eq_false (fun z => e z.symm)] at h2
          refine ⟨_, _, _, by simp -implicitDefEqProofs +contextual (disch := omega) [ref23_Safe.l1, rsFr, g0, hlt, h1, h2]; first | rfl | exact ⟨rfl, rfl⟩ | exact ⟨rfl, rfl, rfl⟩, .inr ⟨by simp, .inr ⟨?_, rfl, by simp, by simp⟩⟩⟩
          unfold AskM.safe
          rw [List.all_eq_false]
          exact ⟨k + 1, List.mem_range.2 (by omega), by simpa using e⟩
      · obtain ⟨⟨y, rfl⟩, g0, h3⟩ := hR
        have e1 : 2 ^ q.secrets - 1 + 1 = 2 ^ q.secrets := by omega
        have hlt : ¬ BitVec.ofNat 32 (2 ^ q.secrets - 1 + 1) < BitVec.ofNat 32 (2 ^ q.secrets) := by rw [BitVec.lt_def, BitVec.toNat_ofNat, BitVec.toNat_ofNat]; omega
        rw [e1] at h3
        generalize 2 ^ q.secrets - 1 = kk at *
        have hsf : q.safe p probes = true := by
          unfold AskM.safe
          rw [List.all_eq_true]
          intro s hs
          exact decide_eq_true (h3 s (by simpa using hs))
        refine ⟨_, _, _, by simp -implicitDefEqProofs +contextual (disch := omega) [ref23_Safe.l1, rsFr, hlt]; first | rfl | exact ⟨rfl, rfl⟩ | exact ⟨rfl, rfl, rfl⟩, by simp, .inl ⟨hsf, rfl⟩⟩
    rcases hq with ⟨hv, rfl⟩ | ⟨hv, rfl, h6, h7⟩
    · simp -implicitDefEqProofs +contextual (disch := omega) [hv]
    · simp -implicitDefEqProofs +contextual (disch := omega) [hv, h6, h7]
  · simp only [h] at hS ⊢
    have h0 := hS 0#32
    simp -implicitDefEqProofs +contextual (disch := omega) [ref23_Safe.spec, ref23_Safe, h0]
  · simp only [h] at hS ⊢
    have h0 := hS 0#32
    simp -implicitDefEqProofs +contextual (disch := omega) [ref23_Safe.spec, ref23_Safe, h0]
end Go.Abs
end
section
set_option linter.unusedSimpArgs false
set_option linter.unusedVariables false
namespace Go.Abs
def First1 (q : AskM) (all : Nat) (l : List Int) : Prop :=
  (l = [] ∧ ∀ i : Nat, i < all → q.safe 0#32 [(i : Int)] = true) ∨ (∃ i : Nat, i < all ∧ l = [(i : Int)] ∧ q.safe 0#32 [(i : Int)] = false ∧ ∀ j : Nat, j < i → q.safe 0#32 [(j : Int)] = true)
def First2 (q : AskM) (all : Nat) (l : List Int) : Prop :=
  (l = [] ∧ ∀ i k : Nat, i < k → k < all → q.safe 0#32 [(i : Int), (k : Int)] = true) ∨
  (∃ i k : Nat, i < k ∧ k < all ∧ l = [(i : Int), (k : Int)] ∧ q.safe 0#32 [(i : Int), (k : Int)] = false ∧ ∀ i' k' : Nat, i' < k' → k' < all → (i' < i ∨ (i' = i ∧ k' < k)) → q.safe 0#32 [(i' : Int), (k' : Int)] = true)
theorem First1.unique {q : AskM} {all : Nat} {l m : List Int} (h : First1 q all l) (g : First1 q all m) : l = m := by
  rcases h with ⟨rfl, h⟩ | ⟨i, hi, rfl, h1, h2⟩ <;> rcases g with ⟨rfl, g⟩ | ⟨j, hj, rfl, g1, g2⟩
  · rfl
  · rw [h j hj] at g1; cases g1
  · rw [g i hi] at h1; cases h1
  · have : i = j := by
      rcases Nat.lt_trichotomy i j with e | e | e
      · rw [g2 i e] at h1; cases h1
      · exact e
      · rw [h2 j e] at g1; cases g1
    rw [this]
theorem First2.unique {q : AskM} {all : Nat} {l m : List Int} (h : First2 q all l) (g : First2 q all m) : l = m := by
  rcases h with ⟨rfl, h⟩ | ⟨i, k, hi, hk, rfl, h1, h2⟩ <;> rcases g with ⟨rfl, g⟩ | ⟨j, m, hj, hm, rfl, g1, g2⟩
  · rfl
  · rw [h j m hj hm] at g1; cases g1
  · rw [g i k hi hk] at h1; cases h1
  · have : ¬ (i < j ∨ (i = j ∧ k < m)) := fun e => by rw [g2 i k hi hk e] at h1; cases h1
    have h3 : ¬ (j < i ∨ (j = i ∧ m < k)) := fun e => by rw [h2 j m hj hm e] at g1; cases g1
    have e1 : i = j := by omega
    have e2 : k = m := by omega
    rw [e1, e2]
noncomputable abbrev fiL0 := probe_First.l0 probe_asked_looks.spec probe_asked_safe.spec
noncomputable abbrev fiL1 := probe_First.l1 probe_asked_looks.spec probe_asked_safe.spec
theorem fi_one (q : AskM) (inN : Nat) (h : AskOk q inN) (all : Nat) (hall : (all : Int) = q.c.inN + q.c.ops.length) (h60 : all ≤ 60) (X : AHeap) (hw : X.WF) (hg : X.get 1 = some (askBlk q.c q.secrets q.d)) {r}
    (hr : aloop fiL0 (AFr.al [(3, .int .i64 1), (10, .ptr 1 5 0 0), (12, .int .i64 all), (40, .int .i64 all), (41, .int .i64 0)]) X = r) :
    ∃ e fr' X', r = some (e, fr', X') ∧ ((e = .exit 0 ∧ First1 q all []) ∨ (e = .ret ∧ ∃ (l : List Int) (b : Nat), fr' 8 = .sl b 1 0 l.length ∧ fr' 9 = .int .i64 0 ∧ X'.get b = some ⟨T.ty_int, 1, true, ints l⟩ ∧ First1 q all l)) := by
  refine run_of hr (aloop_each all (fun k fr H => (∃ y, fr = AFr.al ([(3, .int .i64 1), (10, .ptr 1 5 0 0), (12, .int .i64 all), (40, .int .i64 all), (41, .int .i64 k)] ++ y)) ∧ H.WF ∧ H.get 1 = some (askBlk q.c q.secrets q.d) ∧ ∀ j : Nat, j < k → q.safe 0#32 [(j : Int)] = true) _ (fun k hk fr H hR => ?_) (fun fr H hR => ?_) ⟨⟨[], rfl⟩, hw, hg, fun j hj => absurd hj (by omega)⟩)
  · obtain ⟨⟨y, rfl⟩, hw, g1, h3⟩ := hR
    have hk' : (k : Int) < all := by omega
    have hk1 : ((k + 1 : Nat) : Int) = (k : Int) + 1 := by omega
    have hS := safe_eq q inN h 0#32 [(k : Int)] (by simp) (fun x hx => by simp at hx; subst hx; omega)
    have b1 := hw _ _ g1
    simp only [askBlk] at g1
    unfold askCells at hS
    rw [ints1] at hS
    cases hv : q.safe 0#32 [(k : Int)] with
    | true =>
      rw [hv] at hS
      refine ⟨_, _, _, by simp -implicitDefEqProofs +contextual (disch := omega) [probe_First.l0, hk', g1, hS]; first | rfl | exact ⟨rfl, rfl⟩ | exact ⟨rfl, rfl, rfl⟩, .inl ⟨rfl, ⟨_, by rw [hk1]; rfl⟩, ?_, ?_, fun j hj => ?_⟩⟩
      · (repeat' (first | assumption | with_reducible apply AHeap.WF.push | with_reducible apply AHeap.WF.set | with_reducible apply killAll_wf | exact AHeap.WF.empty)) <;> (simp <;> omega)
      · simp (disch := omega) [g1, askBlk]
      · by_cases e : j = k
        · subst e; exact hv
        · exact h3 j (by omega)
    | false =>
      rw [hv] at hS
      refine ⟨_, _, _, by simp -implicitDefEqProofs +contextual (disch := omega) [probe_First.l0, hk', g1, hS]; first | rfl | exact ⟨rfl, rfl⟩ | exact ⟨rfl, rfl, rfl⟩, .inr ⟨by simp, .inr ⟨rfl, [(k : Int)], _, by simp; rfl, by simp, ?_, .inr ⟨k, hk, rfl, hv, h3⟩⟩⟩⟩
      simp (disch := omega) [ints1]
  · obtain ⟨⟨y, rfl⟩, hw, g1, h3⟩ := hR
    refine ⟨_, _, _, by simp -implicitDefEqProofs +contextual (disch := omega) [probe_First.l0]; first | rfl | exact ⟨rfl, rfl⟩ | exact ⟨rfl, rfl, rfl⟩, by simp, .inl ⟨rfl, .inl ⟨rfl, h3⟩⟩⟩
theorem fi_row (q : AskM) (inN : Nat) (h : AskOk q inN) (all : Nat) (hall : (all : Int) = q.c.inN + q.c.ops.length) (h60 : all ≤ 60) (i : Nat) (hi : i < all) (X : AHeap) (hw : X.WF) (hg : X.get 1 = some (askBlk q.c q.secrets q.d)) {r}
    (hr : aloop fiL1 (AFr.al [(3, .int .i64 2), (10, .ptr 1 5 0 0), (12, .int .i64 all), (13, .int .i64 i), (14, .int .i64 ((i : Int) + 1)), (40, .int .i64 all), (41, .int .i64 i)]) X = r) :
    ∃ e fr' X', r = some (e, fr', X') ∧ ((e = .exit 2 ∧ (∃ y, fr' = AFr.al ([(3, .int .i64 2), (10, .ptr 1 5 0 0), (12, .int .i64 all), (13, .int .i64 i)] ++ [(14, .int .i64 all), (40, .int .i64 all), (41, .int .i64 i)] ++ y)) ∧ X'.WF ∧ X'.get 1 = some (askBlk q.c q.secrets q.d) ∧ ∀ k : Nat, i < k → k < all → q.safe 0#32 [(i : Int), (k : Int)] = true) ∨
      (e = .ret ∧ ∃ (k b : Nat), i < k ∧ k < all ∧ fr' 8 = .sl b 1 0 2 ∧ fr' 9 = .int .i64 0 ∧ X'.get b = some ⟨T.ty_int, 1, true, ints [(i : Int), (k : Int)]⟩ ∧ q.safe 0#32 [(i : Int), (k : Int)] = false ∧ ∀ k' : Nat, i < k' → k' < k → q.safe 0#32 [(i : Int), (k' : Int)] = true)) := by
  refine run_of hr (aloop_each (all - (i + 1)) (fun k fr H => (∃ y, fr = AFr.al ([(3, .int .i64 2), (10, .ptr 1 5 0 0), (12, .int .i64 all), (13, .int .i64 i)] ++ [(14, .int .i64 (i + 1 + k : Nat)), (40, .int .i64 all), (41, .int .i64 i)] ++ y)) ∧ H.WF ∧ H.get 1 = some (askBlk q.c q.secrets q.d) ∧ ∀ k' : Nat, i < k' → k' < i + 1 + k → q.safe 0#32 [(i : Int), (k' : Int)] = true) _ (fun k hk fr H hR => ?_) (fun fr H hR => ?_) ⟨⟨[], by simp⟩, hw, hg, fun j hj hj2 => absurd hj (by omega)⟩)
  · obtain ⟨⟨y, rfl⟩, hw, g1, h3⟩ := hR
    obtain ⟨z, hz⟩ : ∃ z, z = i + 1 + k := ⟨_, rfl⟩
    have hz1 : i + 1 + (k + 1) = z + 1 := by omega
    rw [hz1, ← hz]
    rw [← hz] at h3
    have hk' : (z : Int) < all := by omega
    have hk1 : ((z + 1 : Nat) : Int) = (z : Int) + 1 := by omega
    have hS := safe_eq q inN h 0#32 [(i : Int), (z : Int)] (by simp) (fun x hx => by simp at hx; rcases hx with rfl | rfl <;> omega)
    have b1 := hw _ _ g1
    simp only [askBlk] at g1
    unfold askCells at hS
    rw [ints2] at hS
    cases hv : q.safe 0#32 [(i : Int), (z : Int)] with
    | true =>
      rw [hv] at hS
      refine ⟨_, _, _, by simp -implicitDefEqProofs +contextual (disch := omega) [probe_First.l1, hk', g1, hS]; first | rfl | exact ⟨rfl, rfl⟩ | exact ⟨rfl, rfl, rfl⟩, .inl ⟨rfl, ⟨_, by rw [hk1]; rfl⟩, ?_, ?_, fun j hj hj2 => ?_⟩⟩
      · (repeat' (first | assumption | with_reducible apply AHeap.WF.push | with_reducible apply AHeap.WF.set | with_reducible apply killAll_wf | exact AHeap.WF.empty)) <;> (simp <;> omega)
      · simp (disch := omega) [g1, askBlk]
      · by_cases e : j = z
        · subst e; exact hv
        · exact h3 j hj (by omega)
    | false =>
      rw [hv] at hS
      refine ⟨_, _, _, by simp -implicitDefEqProofs +contextual (disch := omega) [probe_First.l1, hk', g1, hS]; first | rfl | exact ⟨rfl, rfl⟩ | exact ⟨rfl, rfl, rfl⟩, .inr ⟨by simp, .inr ⟨rfl, z, _, by omega, by omega, by simp; rfl, by simp, ?_, hv, h3⟩⟩⟩
      simp (disch := omega) [ints2]
  · obtain ⟨⟨y, rfl⟩, hw, g1, h3⟩ := hR
    have e : i + 1 + (all - (i + 1)) = all := by omega
    rw [e] at h3 ⊢
    refine ⟨_, _, _, by simp -implicitDefEqProofs +contextual (disch := omega) [probe_First.l1]; first | rfl | exact ⟨rfl, rfl⟩ | exact ⟨rfl, rfl, rfl⟩, by simp, .inl ⟨rfl, ⟨_, rfl⟩, hw, g1, h3⟩⟩
theorem fi_two (q : AskM) (inN : Nat) (h : AskOk q inN) (all : Nat) (hall : (all : Int) = q.c.inN + q.c.ops.length) (h60 : all ≤ 60) (X : AHeap) (hw : X.WF) (hg : X.get 1 = some (askBlk q.c q.secrets q.d)) {r}
    (hr : aloop fiL0 (AFr.al [(3, .int .i64 2), (10, .ptr 1 5 0 0), (12, .int .i64 all), (40, .int .i64 all), (41, .int .i64 0)]) X = r) :
    ∃ e fr' X', r = some (e, fr', X') ∧ ((e = .exit 0 ∧ First2 q all []) ∨ (e = .ret ∧ ∃ (l : List Int) (b : Nat), fr' 8 = .sl b 1 0 l.length ∧ fr' 9 = .int .i64 0 ∧ X'.get b = some ⟨T.ty_int, 1, true, ints l⟩ ∧ First2 q all l)) := by
  refine run_of hr (aloop_each all (fun k fr H => (∃ y, fr = AFr.al ([(3, .int .i64 2), (10, .ptr 1 5 0 0), (12, .int .i64 all), (40, .int .i64 all), (41, .int .i64 k)] ++ y)) ∧ H.WF ∧ H.get 1 = some (askBlk q.c q.secrets q.d) ∧ ∀ i k' : Nat, i < k → i < k' → k' < all → q.safe 0#32 [(i : Int), (k' : Int)] = true) _ (fun k hk fr H hR => ?_) (fun fr H hR => ?_) ⟨⟨[], rfl⟩, hw, hg, fun i k' hj => absurd hj (by omega)⟩)
  · obtain ⟨⟨y, rfl⟩, hw, g1, h3⟩ := hR
    have hk' : (k : Int) < all := by omega
    have hk1 : ((k + 1 : Nat) : Int) = (k : Int) + 1 := by omega
    generalize hr2 : fiL0 _ H = r2
    simp -implicitDefEqProofs +contextual (disch := omega) [probe_First.l0, hk'] at hr2
    generalize hr3 : aloop _ _ _ = r3 at hr2
    obtain ⟨e, fr3, X3, rfl, hq⟩ := fi_row q inN h all hall h60 k hk H hw g1 hr3
    rcases hq with ⟨rfl, ⟨y3, rfl⟩, w3, g3, p3⟩ | ⟨rfl, k2, b, p1, p2, p8, p9, p10, p11, p12⟩
    · simp -implicitDefEqProofs +contextual (disch := omega) at hr2
      subst hr2
      refine ⟨_, _, _, rfl, .inl ⟨rfl, ⟨[], by simp [hk1]⟩, w3, g3, fun i k' hi hik hk2 => ?_⟩⟩
      by_cases e : i = k
      · subst e; exact p3 k' hik hk2
      · exact h3 i k' (by omega) hik hk2
    · simp -implicitDefEqProofs +contextual (disch := omega) at hr2
      subst hr2
      refine ⟨_, _, _, rfl, .inr ⟨by simp, .inr ⟨rfl, [(k : Int), (k2 : Int)], b, p8, p9, p10, .inr ⟨k, k2, p1, p2, rfl, p11, fun i' k' hik hk2 ho => ?_⟩⟩⟩⟩
      rcases ho with ho | ⟨rfl, ho⟩
      · exact h3 i' k' ho hik hk2
      · exact p12 k' hik ho
  · obtain ⟨⟨y, rfl⟩, hw, g1, h3⟩ := hR
    refine ⟨_, _, _, by simp -implicitDefEqProofs +contextual (disch := omega) [probe_First.l0]; first | rfl | exact ⟨rfl, rfl⟩ | exact ⟨rfl, rfl, rfl⟩, by simp, .inl ⟨rfl, .inl ⟨rfl, fun i k hik hk => h3 i k (by omega) hik hk⟩⟩⟩
def firstBad (c : CodeM) (n : Int) : Prop := n < 1 ∨ 2 < n ∨ 60 < c.inN + c.ops.length
set_option maxHeartbeats 4000000 in
theorem First_eq (c : CodeM) (hb : c.outs.length ≤ 1000000000) (hb2 : c.ops.length ≤ 1000000000) (s d n : Int) (hn : I64 n) :
    (looksM c s d [] ≠ 0 → probe_First.spec [.agg c.cells, .int .i64 s, .int .i64 d, .int .i64 n] = some (.tup [.rsl 1 [], .int .i64 (looksM c s d [])])) ∧
    (looksM c s d [] = 0 → firstBad c n → probe_First.spec [.agg c.cells, .int .i64 s, .int .i64 d, .int .i64 n] = some (.tup [.rsl 1 [], .int .i64 1])) ∧
    (looksM c s d [] = 0 → ¬ firstBad c n → ∃ l, probe_First.spec [.agg c.cells, .int .i64 s, .int .i64 d, .int .i64 n] = some (.tup [.rsl 1 (ints l), .int .i64 0]) ∧
      (n = 1 → First1 (AskM.mk c s.toNat d.toNat) (c.inN + c.ops.length).toNat l) ∧ (n = 2 → First2 (AskM.mk c s.toNat d.toNat) (c.inN + c.ops.length).toNat l)) := by
  have hL := looks_eq c hb hb2 s d [] (by simp)
  rw [ints0] at hL
  unfold CodeM.cells
  unfold askCells at hL
  refine ⟨fun h => ?_, fun h hbad => ?_, fun h hbad => ?_⟩
  · have h' : ¬ looksM c s d [] = 0 := h
    simp -implicitDefEqProofs +contextual (disch := omega) [probe_First.spec, probe_First, hL, h']
  · obtain ⟨h1, h2, h3, h4⟩ := looks_zero h
    have hcan := h1.1
    unfold CodeM.can at hcan
    simp only [Bool.and_eq_true, decide_eq_true_eq] at hcan
    rw [h] at hL
    rcases hbad with hb1 | hb1 | hb1
    · simp -implicitDefEqProofs +contextual (disch := omega) [probe_First.spec, probe_First, hL, hb1]
    · have : ¬ n < 1 := by omega
      simp -implicitDefEqProofs +contextual (disch := omega) [probe_First.spec, probe_First, hL, hb1, this]
    · by_cases e1 : n < 1
      · simp -implicitDefEqProofs +contextual (disch := omega) [probe_First.spec, probe_First, hL, e1]
      · by_cases e2 : 2 < n
        · simp -implicitDefEqProofs +contextual (disch := omega) [probe_First.spec, probe_First, hL, e1, e2]
        · simp -implicitDefEqProofs +contextual (disch := omega) [probe_First.spec, probe_First, hL, e1, e2, hb1]
  · obtain ⟨h1, h2, h3, h4⟩ := looks_zero h
    obtain ⟨q, inN, rfl, rfl, rfl, hA⟩ := ask_of hb h1 h3
    have e : AskM.mk q.c (q.secrets : Int).toNat (q.d : Int).toNat = q := by simp
    rw [h] at hL
    rw [e]
    unfold firstBad at hbad
    have hin := hA.hin
    obtain ⟨all, hall⟩ : ∃ all : Nat, (all : Int) = q.c.inN + q.c.ops.length := ⟨inN + q.c.ops.length, by omega⟩
    have hall2 : (q.c.inN + q.c.ops.length).toNat = all := by omega
    rw [hall2]
    have h60 : all ≤ 60 := by omega
    have hall' : q.c.inN + (q.c.ops.length : Int) = all := hall.symm
    have m3 : ¬ (60 : Int) < all := by omega
    have hn12 : n = 1 ∨ n = 2 := by omega
    have hp0 : (q.c.ops.length : Int) ≤ 60 := by omega
    rcases hn12 with rfl | rfl
    · simp -implicitDefEqProofs +contextual (disch := omega) [probe_First.spec, probe_First, hL, hall', m3]
      generalize hr : aloop _ _ _ = r
      obtain ⟨e, fr', X', rfl, hq⟩ := fi_one q inN hA all hall h60 _ (by (repeat' (first | assumption | with_reducible apply AHeap.WF.push | with_reducible apply AHeap.WF.set | with_reducible apply killAll_wf | exact AHeap.WF.empty)) <;> (simp <;> omega)) (by simp [askBlk]) hr
      rcases hq with ⟨rfl, hf⟩ | ⟨rfl, l, b, p8, p9, p10, hf⟩
      · refine ⟨[], by simp -implicitDefEqProofs +contextual (disch := omega) [ints0], hf⟩
      · exact ⟨l, by simp -implicitDefEqProofs +contextual (disch := omega) [p8, p9, p10], hf⟩
    · simp -implicitDefEqProofs +contextual (disch := omega) [probe_First.spec, probe_First, hL, hall', m3]
      generalize hr : aloop _ _ _ = r
      obtain ⟨e, fr', X', rfl, hq⟩ := fi_two q inN hA all hall h60 _ (by (repeat' (first | assumption | with_reducible apply AHeap.WF.push | with_reducible apply AHeap.WF.set | with_reducible apply killAll_wf | exact AHeap.WF.empty)) <;> (simp <;> omega)) (by simp [askBlk]) hr
      rcases hq with ⟨rfl, hf⟩ | ⟨rfl, l, b, p8, p9, p10, hf⟩
      · refine ⟨[], by simp -implicitDefEqProofs +contextual (disch := omega) [ints0], hf⟩
      · exact ⟨l, by simp -implicitDefEqProofs +contextual (disch := omega) [p8, p9, p10], hf⟩
end Go.Abs
end
section
set_option linter.unusedSimpArgs false
set_option linter.unusedVariables false
namespace Go.Abs
theorem looks_add {c : CodeM} {s d : Int} {l m : List Int} (h : looksM c s d l = 0) (hm : m.length ≤ 5) (hp : probesOk c m) : looksM c s d m = 0 := by
  obtain ⟨h1, h2, h3, h4⟩ := looks_zero h
  unfold looksM
  rw [if_neg (by simp [h1]), if_neg, if_neg (by omega)]
  rw [Bool.not_eq_true, List.any_eq_false]
  intro x hx
  have := hp x hx
  simp [outOf]; omega
noncomputable abbrev rgL0 := ref23_First.l0 ref23_Looks.spec ref23_Safe.spec
noncomputable abbrev rgL1 := ref23_First.l1 ref23_Looks.spec ref23_Safe.spec
structure FiI (q : AskM) (all : Nat) : Prop where
  hb : q.c.outs.length ≤ 1000000000
  hb2 : q.c.ops.length ≤ 1000000000
  h : looksM q.c q.secrets q.d [] = 0
  hall : (all : Int) = q.c.inN + q.c.ops.length
  h60 : all ≤ 60
theorem FiI.safe {q : AskM} {all : Nat} (h : FiI q all) (m : List Int) (hm : m.length ≤ 5) (hp : ∀ x ∈ m, 0 ≤ x ∧ x < (all : Int)) :
    ref23_Safe.spec [.agg q.c.cells, .int .i64 q.secrets, .int .i64 q.d, W32 0#32, .rsl 1 (ints m)] = some (.tup [.bool (q.safe 0#32 m), .int .i64 0]) := by
  have hp' : probesOk q.c m := fun x hx => by have := hp x hx; have := h.hall; omega
  have e : AskM.mk q.c (q.secrets : Int).toNat (q.d : Int).toNat = q := by simp
  rw [rSafe_eq q.c h.hb h.hb2 q.secrets q.d 0#32 m (by omega), looks_add h.h hm hp', e]
  simp
def rgFr (q : AskM) (n : Int) (all i : Nat) (x : List (Nat × AV)) : AFr := AFr.al ([(1, .int .i64 q.secrets), (2, .int .i64 q.d), (3, .int .i64 n), (4, .ptr 0 3 0 0), (11, .int .i64 all), (12, .int .i64 i)] ++ x)
theorem rg_row1 (q : AskM) (all : Nat) (h : FiI q all) (i : Nat) (hi : i < all) (X : AHeap) (b : Nat) (hg : X.get 0 = some (codeBlk q.c)) (hgb : X.get b = some ⟨T.ty_int, 1, true, ints [(i : Int)]⟩) {r}
    (hr : aloop rgL1 (rgFr q 1 all i [(13, .sl b 1 0 1), (14, .int .i64 ((i : Int) + 1))]) X = r) :
    ∃ e fr' X', r = some (e, fr', X') ∧ (X' = X ∧ ((e = .exit 2 ∧ q.safe 0#32 [(i : Int)] = true ∧ ∃ y, fr' = rgFr q 1 all i y) ∨ (e = .ret ∧ q.safe 0#32 [(i : Int)] = false ∧ fr' 8 = .sl b 1 0 1 ∧ fr' 9 = .int .i64 0))) := by
  have hall := h.hall
  have h60 := h.h60
  have hS := h.safe [(i : Int)] (by simp) (fun x hx => by simp at hx; omega)
  rw [ints1] at hS hgb
  unfold CodeM.cells at hS
  rw [codeBlk_eq] at hg
  refine run_of hr (aloop_each (if all = i + 1 then 1 else all - (i + 1)) (fun k fr H => H = X ∧ (∃ y, fr = rgFr q 1 all i ([(13, .sl b 1 0 1), (14, .int .i64 (i + 1 + k : Nat))] ++ y)) ∧ (0 < k → q.safe 0#32 [(i : Int)] = true)) _ (fun k hk fr H hR => ?_) (fun fr H hR => ?_) ⟨rfl, ⟨[], by simp⟩, fun hj => absurd hj (by omega)⟩)
  · obtain ⟨rfl, ⟨y, rfl⟩, h3⟩ := hR
    obtain ⟨z, hz⟩ : ∃ z, z = i + 1 + k := ⟨_, rfl⟩
    have hz1 : i + 1 + (k + 1) = z + 1 := by omega
    rw [hz1, ← hz]
    have hk1 : ((z + 1 : Nat) : Int) = (z : Int) + 1 := by omega
    have hcd : z < all ∨ (z : Int) = (i : Int) + 1 := by
      by_cases e : all = i + 1
      · rw [if_pos e] at hk; omega
      · rw [if_neg e] at hk; omega
    have hzb : z ≤ 200 := by split at hk <;> omega
    cases hv : q.safe 0#32 [(i : Int)] with
    | true =>
      rw [hv] at hS
      by_cases c1 : (z : Int) < all
      · refine ⟨_, _, _, by simp -implicitDefEqProofs +contextual (disch := omega) [ref23_First.l1, rgFr, c1, hg, hgb, hS]; first | rfl | exact ⟨rfl, rfl⟩ | exact ⟨rfl, rfl, rfl⟩, .inl ⟨rfl, rfl, ⟨_, by simp only [rgFr, hk1]; rfl⟩, fun _ => rfl⟩⟩
      · have c2 : (z : Int) = (i : Int) + 1 := by omega
        refine ⟨_, _, _, by simp -implicitDefEqProofs +contextual (disch := omega) [ref23_First.l1, rgFr, c1, c2, hg, hgb, hS]; first | rfl | exact ⟨rfl, rfl⟩ | exact ⟨rfl, rfl, rfl⟩, .inl ⟨rfl, rfl, ⟨_, by simp only [rgFr, hk1, c2]; rfl⟩, fun _ => rfl⟩⟩
    | false =>
      rw [hv] at hS
      by_cases c1 : (z : Int) < all
      · refine ⟨_, _, _, by simp -implicitDefEqProofs +contextual (disch := omega) [ref23_First.l1, rgFr, c1, hg, hgb, hS]; first | rfl | exact ⟨rfl, rfl⟩ | exact ⟨rfl, rfl, rfl⟩, .inr ⟨by simp, rfl, .inr ⟨rfl, rfl, by simp, by simp⟩⟩⟩
      · have c2 : (z : Int) = (i : Int) + 1 := by omega
        refine ⟨_, _, _, by simp -implicitDefEqProofs +contextual (disch := omega) [ref23_First.l1, rgFr, c1, c2, hg, hgb, hS]; first | rfl | exact ⟨rfl, rfl⟩ | exact ⟨rfl, rfl, rfl⟩, .inr ⟨by simp, rfl, .inr ⟨rfl, rfl, by simp, by simp⟩⟩⟩
  · obtain ⟨rfl, ⟨y, rfl⟩, h3⟩ := hR
    have hv := h3 (by split <;> omega)
    obtain ⟨z, hz⟩ : ∃ z, z = i + 1 + (if all = i + 1 then 1 else all - (i + 1)) := ⟨_, rfl⟩
    rw [← hz]
    have c1 : ¬ (z : Int) < all := by split at hz <;> omega
    have c2 : ¬ (z : Int) = (i : Int) + 1 := by split at hz <;> omega
    have hzb : z ≤ 200 := by split at hz <;> omega
    refine ⟨_, _, _, by simp -implicitDefEqProofs +contextual (disch := omega) [ref23_First.l1, rgFr, c1, c2]; first | rfl | exact ⟨rfl, rfl⟩ | exact ⟨rfl, rfl, rfl⟩, by simp, rfl, .inl ⟨rfl, hv, _, by simp only [rgFr]; rfl⟩⟩
theorem rg_row2 (q : AskM) (all : Nat) (h : FiI q all) (i : Nat) (hi : i < all) (X : AHeap) (hw : X.WF) (b : Nat) (hg : X.get 0 = some (codeBlk q.c)) {r}
    (hr : aloop rgL1 (rgFr q 2 all i [(13, .sl b 1 0 1), (14, .int .i64 ((i : Int) + 1))]) X = r) :
    ∃ e fr' X', r = some (e, fr', X') ∧ ((e = .exit 2 ∧ (∃ y, fr' = rgFr q 2 all i y) ∧ X'.WF ∧ X'.get 0 = some (codeBlk q.c) ∧ ∀ k : Nat, i < k → k < all → q.safe 0#32 [(i : Int), (k : Int)] = true) ∨
      (e = .ret ∧ ∃ (k b : Nat), i < k ∧ k < all ∧ fr' 8 = .sl b 1 0 2 ∧ fr' 9 = .int .i64 0 ∧ X'.get b = some ⟨T.ty_int, 1, true, ints [(i : Int), (k : Int)]⟩ ∧ q.safe 0#32 [(i : Int), (k : Int)] = false ∧ ∀ k' : Nat, i < k' → k' < k → q.safe 0#32 [(i : Int), (k' : Int)] = true)) := by
  have hall := h.hall
  have h60 := h.h60
  refine run_of hr (aloop_each (all - (i + 1)) (fun k fr H => (∃ y v, fr = rgFr q 2 all i ([(13, v), (14, .int .i64 (i + 1 + k : Nat))] ++ y)) ∧ H.WF ∧ H.get 0 = some (codeBlk q.c) ∧ ∀ k' : Nat, i < k' → k' < i + 1 + k → q.safe 0#32 [(i : Int), (k' : Int)] = true) _ (fun k hk fr H hR => ?_) (fun fr H hR => ?_) ⟨⟨[], _, by simp; rfl⟩, hw, hg, fun j hj hj2 => absurd hj (by omega)⟩)
  · obtain ⟨⟨y, v, rfl⟩, hw, g0, h3⟩ := hR
    obtain ⟨z, hz⟩ : ∃ z, z = i + 1 + k := ⟨_, rfl⟩
    have hz1 : i + 1 + (k + 1) = z + 1 := by omega
    rw [hz1, ← hz]
    rw [← hz] at h3
    have hk' : (z : Int) < all := by omega
    have hk1 : ((z + 1 : Nat) : Int) = (z : Int) + 1 := by omega
    have hS := h.safe [(i : Int), (z : Int)] (by simp) (fun x hx => by simp at hx; rcases hx with rfl | rfl <;> omega)
    have b1 := hw _ _ g0
    rw [ints2] at hS
    unfold CodeM.cells at hS
    have g0' := g0
    rw [codeBlk_eq] at g0'
    cases hv : q.safe 0#32 [(i : Int), (z : Int)] with
    | true =>
      rw [hv] at hS
      refine ⟨_, _, _, by simp -implicitDefEqProofs +contextual (disch := omega) [ref23_First.l1, rgFr, hk', g0', hS]; first | rfl | exact ⟨rfl, rfl⟩ | exact ⟨rfl, rfl, rfl⟩, .inl ⟨rfl, ⟨_, _, by simp only [rgFr, hk1]; rfl⟩, ?_, ?_, fun j hj hj2 => ?_⟩⟩
      · (repeat' (first | assumption | with_reducible apply AHeap.WF.push | with_reducible apply AHeap.WF.set | with_reducible apply killAll_wf | exact AHeap.WF.empty)) <;> (simp <;> omega)
      · simp (disch := omega) [g0]
      · by_cases e : j = z
        · subst e; exact hv
        · exact h3 j hj (by omega)
    | false =>
      rw [hv] at hS
      refine ⟨_, _, _, by simp -implicitDefEqProofs +contextual (disch := omega) [ref23_First.l1, rgFr, hk', g0', hS]; first | rfl | exact ⟨rfl, rfl⟩ | exact ⟨rfl, rfl, rfl⟩, .inr ⟨by simp, .inr ⟨rfl, z, _, by omega, by omega, by simp; rfl, by simp, ?_, hv, h3⟩⟩⟩
      simp (disch := omega) [ints2]
  · obtain ⟨⟨y, v, rfl⟩, hw, g0, h3⟩ := hR
    have e : i + 1 + (all - (i + 1)) = all := by omega
    rw [e] at h3 ⊢
    refine ⟨_, _, _, by simp -implicitDefEqProofs +contextual (disch := omega) [ref23_First.l1, rgFr]; first | rfl | exact ⟨rfl, rfl⟩ | exact ⟨rfl, rfl, rfl⟩, by simp, .inl ⟨rfl, ⟨_, by simp only [rgFr]; rfl⟩, hw, g0, h3⟩⟩
theorem rg_one (q : AskM) (all : Nat) (h : FiI q all) (X : AHeap) (hw : X.WF) (hg : X.get 0 = some (codeBlk q.c)) {r}
    (hr : aloop rgL0 (AFr.al [(1, .int .i64 q.secrets), (2, .int .i64 q.d), (3, .int .i64 1), (4, .ptr 0 3 0 0), (11, .int .i64 all), (12, .int .i64 0)]) X = r) :
    ∃ e fr' X', r = some (e, fr', X') ∧ ((e = .exit 0 ∧ First1 q all []) ∨ (e = .ret ∧ ∃ (l : List Int) (b : Nat), fr' 8 = .sl b 1 0 l.length ∧ fr' 9 = .int .i64 0 ∧ X'.get b = some ⟨T.ty_int, 1, true, ints l⟩ ∧ First1 q all l)) := by
  have h60 := h.h60
  refine run_of hr (aloop_each all (fun k fr H => (∃ y, fr = rgFr q 1 all k y) ∧ H.WF ∧ H.get 0 = some (codeBlk q.c) ∧ ∀ j : Nat, j < k → q.safe 0#32 [(j : Int)] = true) _ (fun k hk fr H hR => ?_) (fun fr H hR => ?_) ⟨⟨[], rfl⟩, hw, hg, fun j hj => absurd hj (by omega)⟩)
  · obtain ⟨⟨y, rfl⟩, hw, g0, h3⟩ := hR
    have hk' : (k : Int) < all := by omega
    have hk1 : ((k + 1 : Nat) : Int) = (k : Int) + 1 := by omega
    have b0 := hw _ _ g0
    generalize hr2 : rgL0 _ H = r2
    simp -implicitDefEqProofs +contextual (disch := omega) [ref23_First.l0, rgFr, hk'] at hr2
    generalize hr3 : aloop _ _ _ = r3 at hr2
    obtain ⟨e, fr3, X3, rfl, rfl, hq⟩ := rg_row1 q all h k hk _ H.next (by simp (disch := omega) [g0]) (by simp [ints1]) hr3
    rcases hq with ⟨rfl, hv, y3, rfl⟩ | ⟨rfl, hv, f8, f9⟩
    · simp -implicitDefEqProofs +contextual (disch := omega) [rgFr] at hr2
      subst hr2
      refine ⟨_, _, _, rfl, .inl ⟨rfl, ⟨[], by simp [rgFr, hk1]⟩, hw.push, by simp (disch := omega) [g0], fun j hj => ?_⟩⟩
      by_cases e : j = k
      · subst e; exact hv
      · exact h3 j (by omega)
    · simp -implicitDefEqProofs +contextual (disch := omega) [rgFr] at hr2
      subst hr2
      exact ⟨_, _, _, rfl, .inr ⟨by simp, .inr ⟨rfl, [(k : Int)], H.next, f8, f9, by simp [ints1], .inr ⟨k, hk, rfl, hv, h3⟩⟩⟩⟩
  · obtain ⟨⟨y, rfl⟩, hw, g1, h3⟩ := hR
    refine ⟨_, _, _, by simp -implicitDefEqProofs +contextual (disch := omega) [ref23_First.l0, rgFr]; first | rfl | exact ⟨rfl, rfl⟩ | exact ⟨rfl, rfl, rfl⟩, by simp, .inl ⟨rfl, .inl ⟨rfl, h3⟩⟩⟩
theorem rg_two (q : AskM) (all : Nat) (h : FiI q all) (X : AHeap) (hw : X.WF) (hg : X.get 0 = some (codeBlk q.c)) {r}
    (hr : aloop rgL0 (AFr.al [(1, .int .i64 q.secrets), (2, .int .i64 q.d), (3, .int .i64 2), (4, .ptr 0 3 0 0), (11, .int .i64 all), (12, .int .i64 0)]) X = r) :
    ∃ e fr' X', r = some (e, fr', X') ∧ ((e = .exit 0 ∧ First2 q all []) ∨ (e = .ret ∧ ∃ (l : List Int) (b : Nat), fr' 8 = .sl b 1 0 l.length ∧ fr' 9 = .int .i64 0 ∧ X'.get b = some ⟨T.ty_int, 1, true, ints l⟩ ∧ First2 q all l)) := by
  have h60 := h.h60
  refine run_of hr (aloop_each all (fun k fr H => (∃ y, fr = rgFr q 2 all k y) ∧ H.WF ∧ H.get 0 = some (codeBlk q.c) ∧ ∀ i k' : Nat, i < k → i < k' → k' < all → q.safe 0#32 [(i : Int), (k' : Int)] = true) _ (fun k hk fr H hR => ?_) (fun fr H hR => ?_) ⟨⟨[], rfl⟩, hw, hg, fun i k' hj => absurd hj (by omega)⟩)
  · obtain ⟨⟨y, rfl⟩, hw, g0, h3⟩ := hR
    have hk' : (k : Int) < all := by omega
    have hk1 : ((k + 1 : Nat) : Int) = (k : Int) + 1 := by omega
    have b0 := hw _ _ g0
    generalize hr2 : rgL0 _ H = r2
    simp -implicitDefEqProofs +contextual (disch := omega) [ref23_First.l0, rgFr, hk'] at hr2
    generalize hr3 : aloop _ _ _ = r3 at hr2
    obtain ⟨e, fr3, X3, rfl, hq⟩ := rg_row2 q all h k hk _ hw.push H.next (by simp (disch := omega) [g0]) hr3
    rcases hq with ⟨rfl, ⟨y3, rfl⟩, w3, g3, p3⟩ | ⟨rfl, k2, b, p1, p2, p8, p9, p10, p11, p12⟩
    · simp -implicitDefEqProofs +contextual (disch := omega) [rgFr] at hr2
      subst hr2
      refine ⟨_, _, _, rfl, .inl ⟨rfl, ⟨[], by simp [rgFr, hk1]⟩, w3, g3, fun i k' hi hik hk2 => ?_⟩⟩
      by_cases e : i = k
      · subst e; exact p3 k' hik hk2
      · exact h3 i k' (by omega) hik hk2
    · simp -implicitDefEqProofs +contextual (disch := omega) [rgFr] at hr2
      subst hr2
      refine ⟨_, _, _, rfl, .inr ⟨by simp, .inr ⟨rfl, [(k : Int), (k2 : Int)], b, p8, p9, p10, .inr ⟨k, k2, p1, p2, rfl, p11, fun i' k' hik hk2 ho => ?_⟩⟩⟩⟩
      rcases ho with ho | ⟨rfl, ho⟩
      · exact h3 i' k' ho hik hk2
      · exact p12 k' hik ho
  · obtain ⟨⟨y, rfl⟩, hw, g1, h3⟩ := hR
    refine ⟨_, _, _, by simp -implicitDefEqProofs +contextual (disch := omega) [ref23_First.l0, rgFr]; first | rfl | exact ⟨rfl, rfl⟩ | exact ⟨rfl, rfl, rfl⟩, by simp, .inl ⟨rfl, .inl ⟨rfl, fun i k hik hk => h3 i k (by omega) hik hk⟩⟩⟩
set_option maxHeartbeats 4000000 in
theorem rFirst_eq (c : CodeM) (hb : c.outs.length ≤ 1000000000) (hb2 : c.ops.length ≤ 1000000000) (s d n : Int) (hn : I64 n) :
    (looksM c s d [] ≠ 0 → ref23_First.spec [.agg c.cells, .int .i64 s, .int .i64 d, .int .i64 n] = some (.tup [.rsl 1 [], .int .i64 (looksM c s d [])])) ∧
    (looksM c s d [] = 0 → firstBad c n → ref23_First.spec [.agg c.cells, .int .i64 s, .int .i64 d, .int .i64 n] = some (.tup [.rsl 1 [], .int .i64 1])) ∧
    (looksM c s d [] = 0 → ¬ firstBad c n → ∃ l, ref23_First.spec [.agg c.cells, .int .i64 s, .int .i64 d, .int .i64 n] = some (.tup [.rsl 1 (ints l), .int .i64 0]) ∧
      (n = 1 → First1 (AskM.mk c s.toNat d.toNat) (c.inN + c.ops.length).toNat l) ∧ (n = 2 → First2 (AskM.mk c s.toNat d.toNat) (c.inN + c.ops.length).toNat l)) := by
  have hL := rLooks_eq c hb hb2 s d [] (by simp)
  rw [ints0] at hL
  unfold CodeM.cells at hL ⊢
  refine ⟨fun h => ?_, fun h hbad => ?_, fun h hbad => ?_⟩
  · have h' : ¬ looksM c s d [] = 0 := h
    simp -implicitDefEqProofs +contextual (disch := omega) [ref23_First.spec, ref23_First, hL, h']
  · obtain ⟨h1, h2, h3, h4⟩ := looks_zero h
    have hcan := h1.1
    unfold CodeM.can at hcan
    simp only [Bool.and_eq_true, decide_eq_true_eq] at hcan
    rw [h] at hL
    rcases hbad with hb1 | hb1 | hb1
    · simp -implicitDefEqProofs +contextual (disch := omega) [ref23_First.spec, ref23_First, hL, hb1]
    · have : ¬ n < 1 := by omega
      simp -implicitDefEqProofs +contextual (disch := omega) [ref23_First.spec, ref23_First, hL, hb1, this]
    · by_cases e1 : n < 1
      · simp -implicitDefEqProofs +contextual (disch := omega) [ref23_First.spec, ref23_First, hL, e1]
      · by_cases e2 : 2 < n
        · simp -implicitDefEqProofs +contextual (disch := omega) [ref23_First.spec, ref23_First, hL, e1, e2]
        · simp -implicitDefEqProofs +contextual (disch := omega) [ref23_First.spec, ref23_First, hL, e1, e2, hb1]
  · obtain ⟨h1, h2, h3, h4⟩ := looks_zero h
    obtain ⟨q, inN, rfl, rfl, rfl, hA⟩ := ask_of hb h1 h3
    have e : AskM.mk q.c (q.secrets : Int).toNat (q.d : Int).toNat = q := by simp
    have h0 := h
    rw [h] at hL
    rw [e]
    unfold firstBad at hbad
    have hin := hA.hin
    obtain ⟨all, hall⟩ : ∃ all : Nat, (all : Int) = q.c.inN + q.c.ops.length := ⟨inN + q.c.ops.length, by omega⟩
    have hall2 : (q.c.inN + q.c.ops.length).toNat = all := by omega
    rw [hall2]
    have h60 : all ≤ 60 := by omega
    have hall' : q.c.inN + (q.c.ops.length : Int) = all := hall.symm
    have m3 : ¬ (60 : Int) < all := by omega
    have hn12 : n = 1 ∨ n = 2 := by omega
    have hF : FiI q all := ⟨hb, hb2, h0, hall, h60⟩
    rcases hn12 with rfl | rfl
    · simp -implicitDefEqProofs +contextual (disch := omega) [ref23_First.spec, ref23_First, hL, hall', m3]
      generalize hr : aloop _ _ _ = r
      obtain ⟨e, fr', X', rfl, hq⟩ := rg_one q all hF _ (by (repeat' (first | assumption | with_reducible apply AHeap.WF.push | with_reducible apply AHeap.WF.set | with_reducible apply killAll_wf | exact AHeap.WF.empty)) <;> (simp <;> omega)) (by simp [codeBlk_eq]) hr
      rcases hq with ⟨rfl, hf⟩ | ⟨rfl, l, b, p8, p9, p10, hf⟩
      · refine ⟨[], by simp -implicitDefEqProofs +contextual (disch := omega) [ints0], hf⟩
      · exact ⟨l, by simp -implicitDefEqProofs +contextual (disch := omega) [p8, p9, p10], hf⟩
    · simp -implicitDefEqProofs +contextual (disch := omega) [ref23_First.spec, ref23_First, hL, hall', m3]
      generalize hr : aloop _ _ _ = r
      obtain ⟨e, fr', X', rfl, hq⟩ := rg_two q all hF _ (by (repeat' (first | assumption | with_reducible apply AHeap.WF.push | with_reducible apply AHeap.WF.set | with_reducible apply killAll_wf | exact AHeap.WF.empty)) <;> (simp <;> omega)) (by simp [codeBlk_eq]) hr
      rcases hq with ⟨rfl, hf⟩ | ⟨rfl, l, b, p8, p9, p10, hf⟩
      · refine ⟨[], by simp -implicitDefEqProofs +contextual (disch := omega) [ints0], hf⟩
      · exact ⟨l, by simp -implicitDefEqProofs +contextual (disch := omega) [p8, p9, p10], hf⟩
end Go.Abs
end

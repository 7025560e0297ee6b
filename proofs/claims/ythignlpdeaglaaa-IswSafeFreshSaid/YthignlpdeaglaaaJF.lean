import Derived.Test.YthignlpdeaglaaaJC
import Derived.Test.YthignlpdeaglaaaQI
import Derived.Test.YthignlpdeaglaaaWA
section
set_option linter.unusedSimpArgs false
set_option linter.unusedVariables false
namespace Go.Abs
def sdFr (inp : List (BitVec 32)) (probes : List Int) (ob L T : Nat) (x : List (Nat × AV)) : AFr :=
  AFr.al ([(1, .rsl 1 (w32s inp)), (2, .rsl 1 (ints probes)), (3, .ptr 0 3 0 0), (7, .sl ob 1 0 L), (8, .int .i64 T)] ++ x)
structure SdI (c : CodeM) (X : AHeap) (ob : Nat) (l : List Int) : Prop where
  wf : X.WF
  g0 : X.get 0 = some (codeBlk c)
  ob0 : ob ≠ 0
  gb : X.get ob = some ⟨T.ty_int, 1, true, ints l⟩
noncomputable abbrev sdL0 := ref19_Spread.l0 ref19_Randoms.spec ref19_Bits.spec ref19_Exec.spec
noncomputable abbrev sdL1 := ref19_Spread.l1 ref19_Randoms.spec ref19_Bits.spec ref19_Exec.spec
noncomputable abbrev sdL2 := ref19_Spread.l2 ref19_Randoms.spec ref19_Bits.spec ref19_Exec.spec
noncomputable abbrev sdL3 := ref19_Spread.l3 ref19_Randoms.spec ref19_Bits.spec ref19_Exec.spec
noncomputable abbrev sdL4 := ref19_Spread.l4 ref19_Randoms.spec ref19_Bits.spec ref19_Exec.spec
theorem pow_le_of {a b c : Nat} (h : a ≤ b) (h2 : 2 ^ b ≤ c) : 2 ^ a ≤ c := Nat.le_trans (Nat.pow_le_pow_right (by omega) h) h2
theorem sd_double (c : CodeM) (inp : List (BitVec 32)) (probes : List Int) (hP : probes.length ≤ 8) (X : AHeap) (ob : Nat) (h : SdI c X ob [1]) {r} (hr : aloop sdL0 (sdFr inp probes ob 1 1 [(9, .int .i64 0)]) X = r) :
    ∃ e fr' X', r = some (e, fr', X') ∧ (e = .exit 0 ∧ ∃ ob y, fr' = sdFr inp probes ob (2 ^ probes.length) 1 y ∧ SdI c X' ob (List.replicate (2 ^ probes.length) 1)) := by
  refine run_of hr (aloop_each probes.length (fun k fr H => ∃ y ob, fr = sdFr inp probes ob (2 ^ k) 1 ([(9, .int .i64 k)] ++ y) ∧ SdI c H ob (List.replicate (2 ^ k) 1)) _ (fun k hk fr H hR => ?_) (fun fr H hR => ?_) ⟨[], ob, rfl, h⟩)
  · obtain ⟨y, ob, rfl, I⟩ := hR
    have hk' : (k : Int) < probes.length := by omega
    have hk1 : ((k + 1 : Nat) : Int) = (k : Int) + 1 := by omega
    have g0 := I.g0
    have gb := I.gb
    have b0 := I.wf _ _ g0
    have b1 := I.wf _ _ gb
    have ob0 := I.ob0
    have hw := I.wf
    have hp : 2 ^ k ≤ 256 := pow_le_of (show k ≤ 8 by omega) (by omega)
    have hp1 : 2 ^ (k + 1) = 2 ^ k + 2 ^ k := by rw [Nat.pow_succ]; omega
    have hrep : List.replicate (2 ^ k + 2 ^ k) (1 : Int) = List.replicate (2 ^ k) 1 ++ List.replicate (2 ^ k) 1 := by simp
    rw [hp1, hrep, hk1]
    have hlen : (List.replicate (2 ^ k) (1 : Int)).length = 2 ^ k := by simp
    have hpos : 0 < 2 ^ k := Nat.two_pow_pos k
    generalize List.replicate (2 ^ k) (1 : Int) = l at *
    generalize 2 ^ k = L at *
    subst hlen
    rw [codeBlk_eq] at g0
    refine ⟨_, _, _, by simp -implicitDefEqProofs +contextual (disch := omega) [ref19_Spread.l0, sdFr, gb, hk']; first | rfl | exact ⟨rfl, rfl⟩ | exact ⟨rfl, rfl, rfl⟩, .inl ⟨rfl, _, _, rfl, ?_, ?_, ?_, ?_⟩⟩
    · (repeat' (first | assumption | with_reducible apply AHeap.WF.push | with_reducible apply AHeap.WF.set | with_reducible apply killAll_wf | exact AHeap.WF.empty)) <;> (simp <;> omega)
    · rw [codeBlk_eq]; simp (disch := omega) [g0]
    · omega
    · simp (disch := omega) [ints_append]
  · obtain ⟨y, ob, rfl, I⟩ := hR
    refine ⟨_, _, _, by simp -implicitDefEqProofs +contextual (disch := omega) [ref19_Spread.l0, sdFr]; first | rfl | exact ⟨rfl, rfl⟩ | exact ⟨rfl, rfl, rfl⟩, by simp, rfl, ob, _, rfl, I⟩
theorem sd_zero (c : CodeM) (inp : List (BitVec 32)) (probes : List Int) (L : Nat) (hL : L ≤ 256) (X : AHeap) (ob : Nat) (l : List Int) (hl : l.length = L) (h : SdI c X ob l) {r} (hr : aloop sdL1 (sdFr inp probes ob L 1 [(10, .int .i64 0)]) X = r) :
    ∃ e fr' X', r = some (e, fr', X') ∧ (e = .exit 2 ∧ ∃ y, fr' = sdFr inp probes ob L 1 y ∧ SdI c X' ob (List.replicate L 0)) := by
  refine run_of hr (aloop_each L (fun k fr H => ∃ y, fr = sdFr inp probes ob L 1 ([(10, .int .i64 k)] ++ y) ∧ SdI c H ob (List.replicate k 0 ++ l.drop k)) _ (fun k hk fr H hR => ?_) (fun fr H hR => ?_) ⟨[], rfl, by simpa using h⟩)
  · obtain ⟨y, rfl, I⟩ := hR
    have hk' : (k : Int) < L := by omega
    have hk1 : ((k + 1 : Nat) : Int) = (k : Int) + 1 := by omega
    have g0 := I.g0
    have gb := I.gb
    have b0 := I.wf _ _ g0
    have b1 := I.wf _ _ gb
    have ob0 := I.ob0
    have hw := I.wf
    have hs : (List.replicate k (0 : Int) ++ l.drop k).set k 0 = List.replicate (k + 1) 0 ++ l.drop (k + 1) := by
      have e : (l.drop k).set 0 0 = 0 :: l.drop (k + 1) := by rw [List.drop_eq_getElem_cons (show k < l.length by omega)]; rfl
      rw [List.set_append_right _ _ (by simp), List.length_replicate, Nat.sub_self, e, List.replicate_succ', List.append_assoc]; rfl
    have hlen : (List.replicate k (0 : Int) ++ l.drop k).length = L := by simp; omega
    rw [← hs, hk1]
    generalize List.replicate k (0 : Int) ++ l.drop k = m at *
    rw [codeBlk_eq] at g0
    refine ⟨_, _, _, by simp -implicitDefEqProofs +contextual (disch := omega) [ref19_Spread.l1, sdFr, gb, hk', hlen]; first | rfl | exact ⟨rfl, rfl⟩ | exact ⟨rfl, rfl, rfl⟩, .inl ⟨rfl, _, rfl, ?_, ?_, ?_, ?_⟩⟩
    · (repeat' (first | assumption | with_reducible apply AHeap.WF.push | with_reducible apply AHeap.WF.set | with_reducible apply killAll_wf | exact AHeap.WF.empty)) <;> (simp <;> omega)
    · rw [codeBlk_eq]; simp (disch := omega) [g0]
    · omega
    · simp (disch := omega)
  · obtain ⟨y, rfl, I⟩ := hR
    refine ⟨_, _, _, by simp -implicitDefEqProofs +contextual (disch := omega) [ref19_Spread.l1, sdFr]; first | rfl | exact ⟨rfl, rfl⟩ | exact ⟨rfl, rfl, rfl⟩, by simp, rfl, _, rfl, ?_⟩
    rw [List.drop_of_length_le (by omega), List.append_nil] at I
    exact I
theorem sd_tapes (c : CodeM) (hl : c.ops.length ≤ 1000000000) (hR12 : c.randoms ≤ 12) (inp : List (BitVec 32)) (probes : List Int) (L : Nat) (X : AHeap) (ob : Nat) (l : List Int) (h : SdI c X ob l) {r} (hr : aloop sdL2 (sdFr inp probes ob L 1 [(11, .int .i64 0)]) X = r) :
    ∃ e fr' X', r = some (e, fr', X') ∧ (e = .exit 4 ∧ ∃ y, fr' = sdFr inp probes ob L (2 ^ c.randoms) y ∧ SdI c X' ob l) := by
  have hRn := rRandoms_eq c hl
  refine run_of hr (aloop_each c.randoms (fun k fr H => ∃ y, fr = sdFr inp probes ob L (2 ^ k) ([(11, .int .i64 k)] ++ y) ∧ SdI c H ob l) _ (fun k hk fr H hR => ?_) (fun fr H hR => ?_) ⟨[], rfl, h⟩)
  · obtain ⟨y, rfl, I⟩ := hR
    have hk' : (k : Int) < c.randoms := by omega
    have hk1 : ((k + 1 : Nat) : Int) = (k : Int) + 1 := by omega
    have g0 := I.g0
    have hp : 2 ^ k ≤ 4096 := pow_le_of (show k ≤ 12 by omega) (by omega)
    have hp1 : ((2 ^ (k + 1) : Nat) : Int) = ((2 ^ k : Nat) : Int) * 2 := by rw [Nat.pow_succ]; omega
    unfold sdFr
    rw [hp1, hk1]
    generalize 2 ^ k = q at *
    rw [codeBlk_eq] at g0
    unfold CodeM.cells at hRn
    refine ⟨_, _, _, by simp -implicitDefEqProofs +contextual (disch := omega) [ref19_Spread.l2, g0, hk', hRn]; first | rfl | exact ⟨rfl, rfl⟩ | exact ⟨rfl, rfl, rfl⟩, .inl ⟨rfl, _, rfl, I⟩⟩
  · obtain ⟨y, rfl, I⟩ := hR
    have g0 := I.g0
    rw [codeBlk_eq] at g0
    unfold CodeM.cells at hRn
    refine ⟨_, _, _, by simp -implicitDefEqProofs +contextual (disch := omega) [ref19_Spread.l2, sdFr, g0, hRn]; first | rfl | exact ⟨rfl, rfl⟩ | exact ⟨rfl, rfl, rfl⟩, by simp, rfl, _, rfl, I⟩
theorem sd_at (c : CodeM) (w : List (BitVec 32)) (hw : w.length ≤ 100000) (inp : List (BitVec 32)) (probes : List Int) (hP : probes.length ≤ 8) (hp : ∀ x ∈ probes, 0 ≤ x ∧ x < w.length) (L T t : Nat) (X : AHeap) (ob : Nat) {r} (hr : aloop sdL4 (sdFr inp probes ob L T [(12, .int .i64 t), (13, .rsl 1 (w32s w)), (15, .int .i64 0), (16, .int .i64 0)]) X = r) :
    ∃ e fr' X', r = some (e, fr', X') ∧ (e = .exit 8 ∧ X' = X ∧ ∃ y, fr' = sdFr inp probes ob L T ([(12, .int .i64 t), (13, .rsl 1 (w32s w)), (15, .int .i64 (atM w probes : Nat))] ++ y)) := by
  refine run_of hr (aloop_each probes.length (fun k fr H => H = X ∧ ∃ y, fr = sdFr inp probes ob L T ([(12, .int .i64 t), (13, .rsl 1 (w32s w)), (15, .int .i64 (atM w (probes.take k) : Nat)), (16, .int .i64 k)] ++ y)) _ (fun k hk fr H hR => ?_) (fun fr H hR => ?_) ⟨rfl, [], rfl⟩)
  · obtain ⟨rfl, y, rfl⟩ := hR
    have hk' : (k : Int) < probes.length := by omega
    have hk1 : ((k + 1 : Nat) : Int) = (k : Int) + 1 := by omega
    have hme := hp _ (List.getElem_mem hk)
    have hx := ints_at probes k hk
    have ha : atM w (probes.take (k + 1)) = 2 * atM w (probes.take k) + (at0 w probes[k].toNat).toNat % 2 := by rw [List.take_succ_eq_append_getElem hk, atM_snoc]
    have hb : atM w (probes.take k) ≤ 256 := Nat.le_trans (Nat.le_of_lt (atM_lt w _)) (pow_le_of (show (probes.take k).length ≤ 8 by rw [List.length_take]; omega) (by omega))
    rw [ha, hk1]
    generalize atM w (probes.take k) = q at *
    obtain ⟨z, hz⟩ : ∃ z : Nat, probes[k] = z := ⟨probes[k].toNat, by omega⟩
    rw [hz] at hx hme
    rw [hz]
    have hzw : z < w.length := by omega
    have hcast : ((2 * q + (at0 w (z : Int).toNat).toNat % 2 : Nat) : Int) = (q : Int) * 2 + ((at0 w z).toNat : Int) % 2 := by simp; omega
    rw [hcast]
    refine ⟨_, _, _, by simp -implicitDefEqProofs +contextual (disch := omega) [ref19_Spread.l4, sdFr, hk', hx, hzw]; first | rfl | exact ⟨rfl, rfl⟩ | exact ⟨rfl, rfl, rfl⟩, .inl ⟨rfl, rfl, _, rfl⟩⟩
  · obtain ⟨rfl, y, rfl⟩ := hR
    rw [List.take_length]
    refine ⟨_, _, _, by simp -implicitDefEqProofs +contextual (disch := omega) [ref19_Spread.l4, sdFr]; first | rfl | exact ⟨rfl, rfl⟩ | exact ⟨rfl, rfl, rfl⟩, by simp, rfl, rfl, _, rfl⟩
set_option maxHeartbeats 2000000 in
theorem sd_count (c : CodeM) (hcan : c.can = true) (hb : c.outs.length ≤ 1000000000) (hR12 : c.randoms ≤ 12) (inp : List (BitVec 32)) (hin : inp.length ≤ 1000000000) (probes : List Int) (hP : probes.length ≤ 8) (hp : ∀ x ∈ probes, 0 ≤ x ∧ x < c.inN + c.ops.length) (X : AHeap) (ob : Nat) (h : SdI c X ob (List.replicate (2 ^ probes.length) 0)) {r}
    (hr : aloop sdL3 (sdFr inp probes ob (2 ^ probes.length) (2 ^ c.randoms) [(12, .int .i64 0)]) X = r) :
    ∃ e fr' X', r = some (e, fr', X') ∧ (e = .exit 6 ∧ ∃ y, fr' = sdFr inp probes ob (2 ^ probes.length) (2 ^ c.randoms) y ∧ SdI c X' ob (tally (2 ^ c.randoms) (2 ^ probes.length) fun t => atM (runOps c.ops (padM inp c.inN.toNat) (bitsM t c.randoms)) probes)) := by
  have hcan' := hcan
  unfold CodeM.can at hcan'
  simp only [Bool.and_eq_true, decide_eq_true_eq] at hcan'
  obtain ⟨⟨⟨⟨q1, q2⟩, q3⟩, q4⟩, q5⟩ := hcan'
  have hRn := rRandoms_eq c (by omega)
  have hTb : 2 ^ c.randoms ≤ 4096 := pow_le_of (show c.randoms ≤ 12 by omega) (by omega)
  have hSb : 2 ^ probes.length ≤ 256 := pow_le_of (show probes.length ≤ 8 by omega) (by omega)
  refine run_of hr (aloop_each (2 ^ c.randoms) (fun k fr H => ∃ y, fr = sdFr inp probes ob (2 ^ probes.length) (2 ^ c.randoms) ([(12, .int .i64 k)] ++ y) ∧ SdI c H ob (tally k (2 ^ probes.length) fun t => atM (runOps c.ops (padM inp c.inN.toNat) (bitsM t c.randoms)) probes)) _ (fun k hk fr H hR => ?_) (fun fr H hR => ?_) ⟨[], rfl, by rw [tally_zero]; exact h⟩)
  · obtain ⟨y, rfl, I⟩ := hR
    have hk' : (k : Int) < (2 ^ c.randoms : Nat) := by omega
    have hk1 : ((k + 1 : Nat) : Int) = (k : Int) + 1 := by omega
    have g0 := I.g0
    have gb := I.gb
    have b0 := I.wf _ _ g0
    have b1 := I.wf _ _ gb
    have ob0 := I.ob0
    have hw := I.wf
    have hBt := Bits_eq' k c.randoms (by omega) (by omega)
    have hEx := rExec_eq c hb (by omega) inp (bitsM k c.randoms) ⟨hin, by simp; omega⟩
    have hex : c.exec inp (bitsM k c.randoms) = (runOps c.ops (padM inp c.inN.toNat) (bitsM k c.randoms), true) := by
      unfold CodeM.exec; rw [if_pos ⟨hcan, by simp⟩]
    rw [hex] at hEx
    have hwl : (runOps c.ops (padM inp c.inN.toNat) (bitsM k c.randoms)).length = c.inN.toNat + c.ops.length := by rw [runOps_length, padM_length]
    have hts := tally_succ k (2 ^ probes.length) (fun t => atM (runOps c.ops (padM inp c.inN.toNat) (bitsM t c.randoms)) probes) (atM_lt _ _)
    rw [hts]
    have hlen : (tally k (2 ^ probes.length) fun t => atM (runOps c.ops (padM inp c.inN.toNat) (bitsM t c.randoms)) probes).length = 2 ^ probes.length := by simp
    have hatb : ati (tally k (2 ^ probes.length) fun t => atM (runOps c.ops (padM inp c.inN.toNat) (bitsM t c.randoms)) probes) (atM (runOps c.ops (padM inp c.inN.toNat) (bitsM k c.randoms)) probes) ≤ 4096 ∧ 0 ≤ ati (tally k (2 ^ probes.length) fun t => atM (runOps c.ops (padM inp c.inN.toNat) (bitsM t c.randoms)) probes) (atM (runOps c.ops (padM inp c.inN.toNat) (bitsM k c.randoms)) probes) := by
      rw [tally_ati _ _ _ _ (atM_lt _ _)]
      have := List.countP_le_length (p := fun n => atM (runOps c.ops (padM inp c.inN.toNat) (bitsM n c.randoms)) probes == atM (runOps c.ops (padM inp c.inN.toNat) (bitsM k c.randoms)) probes) (l := List.range k)
      rw [List.length_range] at this
      omega
    have hal := atM_lt (runOps c.ops (padM inp c.inN.toNat) (bitsM k c.randoms)) probes
    generalize (tally k (2 ^ probes.length) fun t => atM (runOps c.ops (padM inp c.inN.toNat) (bitsM t c.randoms)) probes) = m at *
    have hpw : ∀ x ∈ probes, 0 ≤ x ∧ x < ((runOps c.ops (padM inp c.inN.toNat) (bitsM k c.randoms)).length : Int) := fun x hx => by
      have := hp x hx; rw [hwl]; omega
    generalize runOps c.ops (padM inp c.inN.toNat) (bitsM k c.randoms) = w at *
    generalize bitsM k c.randoms = bt at *
    rw [codeBlk_eq] at g0
    unfold CodeM.cells at hRn hEx
    generalize hr2 : sdL3 _ H = r2
    generalize 2 ^ c.randoms = TT at *
    generalize 2 ^ probes.length = LL at *
    simp -implicitDefEqProofs +contextual (disch := omega) [ref19_Spread.l3, sdFr, hk', g0, hRn, hBt, hEx] at hr2
    generalize hr3 : aloop _ _ _ = r3 at hr2
    obtain ⟨e, fr3, X3, rfl, rfl, rfl, y3, rfl⟩ := sd_at c w (by omega) inp probes hP hpw LL TT k _ ob hr3
    generalize hA : atM w probes = A at *
    simp -implicitDefEqProofs +contextual (disch := omega) [sdFr, gb, hlen, hal] at hr2
    subst hr2
    refine ⟨_, _, _, rfl, .inl ⟨rfl, _, by unfold sdFr; rw [hk1]; rfl, ?_, ?_, ob0, ?_⟩⟩
    · (repeat' (first | assumption | with_reducible apply AHeap.WF.push | with_reducible apply AHeap.WF.set | with_reducible apply killAll_wf | exact AHeap.WF.empty)) <;> (simp <;> omega)
    · rw [codeBlk_eq]; simp (disch := omega) [g0]
    · simp (disch := omega)
  · obtain ⟨y, rfl, I⟩ := hR
    refine ⟨_, _, _, by simp -implicitDefEqProofs +contextual (disch := omega) [ref19_Spread.l3, sdFr]; first | rfl | exact ⟨rfl, rfl⟩ | exact ⟨rfl, rfl, rfl⟩, by simp, rfl, _, rfl, I⟩
set_option maxHeartbeats 2000000 in
theorem rSpread_eq (c : CodeM) (hcan : c.can = true) (hb : c.outs.length ≤ 1000000000) (hR12 : c.randoms ≤ 12) (inp : List (BitVec 32)) (hin : inp.length ≤ 1000000000) (probes : List Int) (hP : probes.length ≤ 8) (hp : ∀ x ∈ probes, 0 ≤ x ∧ x < c.inN + c.ops.length) :
    ref19_Spread.spec [.agg c.cells, .rsl 1 (w32s inp), .rsl 1 (ints probes)] = some (.rsl 1 (ints (tally (2 ^ c.randoms) (2 ^ probes.length) fun t => atM (runOps c.ops (padM inp c.inN.toNat) (bitsM t c.randoms)) probes))) := by
  have hl : c.ops.length ≤ 1000000000 := by
    unfold CodeM.can at hcan; simp only [Bool.and_eq_true, decide_eq_true_eq] at hcan; omega
  have hSb : 2 ^ probes.length ≤ 256 := pow_le_of (show probes.length ≤ 8 by omega) (by omega)
  unfold CodeM.cells
  simp -implicitDefEqProofs +contextual (disch := omega) [ref19_Spread.spec, ref19_Spread]
  generalize hr : aloop _ _ _ = r
  obtain ⟨e, fr1, X1, rfl, rfl, ob1, y1, rfl, I1⟩ := sd_double c inp probes hP _ 1 ⟨by (repeat' (first | assumption | with_reducible apply AHeap.WF.push | with_reducible apply AHeap.WF.set | with_reducible apply killAll_wf | exact AHeap.WF.empty)) <;> (simp <;> omega), by simp [codeBlk_eq], by omega, by simp [ints]⟩ hr
  simp -implicitDefEqProofs +contextual (disch := omega) [sdFr]
  generalize hr : aloop _ _ _ = r
  obtain ⟨e, fr2, X2, rfl, rfl, y2, rfl, I2⟩ := sd_zero c inp probes (2 ^ probes.length) hSb X1 ob1 _ (by simp) I1 (r := r) (by rw [← hr]; simp [sdFr])
  simp -implicitDefEqProofs +contextual (disch := omega) [sdFr]
  generalize hr : aloop _ _ _ = r
  obtain ⟨e, fr3, X3, rfl, rfl, y3, rfl, I3⟩ := sd_tapes c hl hR12 inp probes (2 ^ probes.length) X2 ob1 _ I2 (r := r) (by rw [← hr]; simp [sdFr])
  simp -implicitDefEqProofs +contextual (disch := omega) [sdFr]
  generalize hr : aloop _ _ _ = r
  obtain ⟨e, fr4, X4, rfl, rfl, y4, rfl, I4⟩ := sd_count c hcan hb hR12 inp hin probes hP hp X3 ob1 I3 (r := r) (by rw [← hr]; simp [sdFr])
  have gb := I4.gb
  have ht : ∀ (f : Nat → Nat), (ints (tally (2 ^ c.randoms) (2 ^ probes.length) f)).take (2 ^ probes.length) = ints (tally (2 ^ c.randoms) (2 ^ probes.length) f) := fun f => List.take_of_length_le (by simp)
  simp -implicitDefEqProofs +contextual (disch := omega) [sdFr, gb, ht]
end Go.Abs
end
section
set_option linter.unusedSimpArgs false
set_option linter.unusedVariables false
namespace Go.Abs
def matB (S : Nat → List Int) (i k : Nat) : Bool := decide (i / 2 ^ k % 2 = 0) && !decide (S i = S (i + 2 ^ k))
def matUpto (S : Nat → List Int) (m i k : Nat) : List Bool := tell m fun j => ((List.range i).any fun i' => matB S i' j) || (decide (j < k) && matB S i j)
def matterM (S : Nat → List Int) (m : Nat) : List Bool := tell m fun j => (List.range (2 ^ m)).any fun i => matB S i j
theorem matUpto_zero (S : Nat → List Int) (m : Nat) : matUpto S m 0 0 = List.replicate m false := by
  rw [tell_rep]; exact tell_congr _ _ _ fun j hj => by simp
theorem matUpto_next (S : Nat → List Int) (m i : Nat) : matUpto S m i m = matUpto S m (i + 1) 0 := by
  refine tell_congr _ _ _ fun j hj => ?_
  rw [List.range_succ, List.any_append]; simp [hj]
theorem matUpto_all (S : Nat → List Int) (m : Nat) : matUpto S m (2 ^ m) 0 = matterM S m := tell_congr _ _ _ fun j hj => by simp
theorem matUpto_step (S : Nat → List Int) (m i k : Nat) (hk : k < m) : matUpto S m i (k + 1) = if matB S i k = true then (matUpto S m i k).set k true else matUpto S m i k := by
  split
  · rename_i h
    unfold matUpto
    rw [tell_set]
    refine tell_congr _ _ _ fun j hj => ?_
    by_cases e : j = k
    · subst e; simp [h]
    · have : decide (j < k + 1) = decide (j < k) := by rw [decide_eq_decide]; omega
      simp [e, this]
  · rename_i h
    refine tell_congr _ _ _ fun j hj => ?_
    by_cases e : j = k
    · subst e; simp [h]
    · have : decide (j < k + 1) = decide (j < k) := by rw [decide_eq_decide]; omega
      rw [this]
theorem bit_room (m i k : Nat) (hi : i < 2 ^ m) (hk : k < m) (h : i / 2 ^ k % 2 = 0) : i + 2 ^ k < 2 ^ m := by
  have h1 : 2 ^ m = 2 ^ k * (2 * 2 ^ (m - k - 1)) := by rw [← Nat.pow_succ', ← Nat.pow_add]; congr 1; omega
  have h2 : i / 2 ^ k < 2 * 2 ^ (m - k - 1) := by rw [Nat.div_lt_iff_lt_mul (Nat.two_pow_pos k), Nat.mul_comm, ← h1]; exact hi
  have h3 : i / 2 ^ k + 1 < 2 * 2 ^ (m - k - 1) := by omega
  have h4 : i < 2 ^ k * (i / 2 ^ k + 1) := by
    have := Nat.div_add_mod i (2 ^ k)
    have h5 := Nat.mod_lt i (Nat.two_pow_pos k)
    rw [Nat.mul_add]; omega
  have h6 : 2 ^ k * (i / 2 ^ k + 1) + 2 ^ k ≤ 2 ^ m := by
    rw [h1, ← Nat.mul_succ]; exact Nat.mul_le_mul_left _ (by omega)
  omega
def spRows (S : Nat → List Int) (n : Nat) : List (List AV) := (List.range n).map fun i => [.rsl 1 (ints (S i))]
@[simp] theorem spRows_length (S : Nat → List Int) (n : Nat) : (spRows S n).length = n := by simp [spRows]
theorem spRows_get (S : Nat → List Int) (n i : Nat) (h : i < n) : (spRows S n)[i]? = some [.rsl 1 (ints (S i))] := by simp [spRows, h]
theorem spRows_succ (S : Nat → List Int) (n : Nat) : spRows S (n + 1) = spRows S n ++ [[.rsl 1 (ints (S n))]] := by
  unfold spRows; rw [List.range_succ, List.map_append]; rfl
noncomputable abbrev maL0 := ref19_Matter.l0 ref19_Bits.spec ref19_Spread.spec ref02_Same.spec
noncomputable abbrev maL1 := ref19_Matter.l1 ref19_Bits.spec ref19_Spread.spec ref02_Same.spec
noncomputable abbrev maL2 := ref19_Matter.l2 ref19_Bits.spec ref19_Spread.spec ref02_Same.spec
noncomputable abbrev maL3 := ref19_Matter.l3 ref19_Bits.spec ref19_Spread.spec ref02_Same.spec
structure MaI (c : CodeM) (X : AHeap) (m ob : Nat) (bs : List Bool) (rows : List (List AV)) : Prop where
  wf : X.WF
  g0 : X.get 0 = some ⟨T.ty_api_Code, 3, true, [[.int .i64 m, .rsl 4 (opRows c.ops), .rsl 1 (ints c.outs)]]⟩
  g1 : X.get 1 = some ⟨T.ty_bool, 1, true, bls bs⟩
  ob0 : ob ≠ 0 ∧ ob ≠ 1
  gb : X.get ob = some ⟨T.ty_sl_int, 1, true, rows⟩
theorem ma_pow (c : CodeM) (m : Nat) (hm : m ≤ 10) (probes : List Int) (X : AHeap) (ob : Nat) (bs : List Bool) (rows : List (List AV)) (h : MaI c X m ob bs rows) {r}
    (hr : aloop maL0 (AFr.al [(1, .rsl 1 (ints probes)), (2, .ptr 0 3 0 0), (5, .sl 1 1 0 m), (6, .sl ob 1 0 0), (7, .int .i64 1), (8, .int .i64 0)]) X = r) :
    ∃ e fr' X', r = some (e, fr', X') ∧ (e = .exit 0 ∧ X' = X ∧ ∃ y, fr' = AFr.al ([(1, .rsl 1 (ints probes)), (2, .ptr 0 3 0 0), (5, .sl 1 1 0 m), (6, .sl ob 1 0 0), (7, .int .i64 (2 ^ m : Nat))] ++ y)) := by
  refine run_of hr (aloop_each m (fun k fr H => H = X ∧ ∃ y, fr = AFr.al ([(1, .rsl 1 (ints probes)), (2, .ptr 0 3 0 0), (5, .sl 1 1 0 m), (6, .sl ob 1 0 0), (7, .int .i64 (2 ^ k : Nat)), (8, .int .i64 k)] ++ y)) _ (fun k hk fr H hR => ?_) (fun fr H hR => ?_) ⟨rfl, [], rfl⟩)
  · obtain ⟨rfl, y, rfl⟩ := hR
    have g0 := h.g0
    have hk' : (k : Int) < m := by omega
    have hk1 : ((k + 1 : Nat) : Int) = (k : Int) + 1 := by omega
    have hp : 2 ^ k ≤ 1024 := pow_le_of (show k ≤ 10 by omega) (by omega)
    have hp1 : ((2 ^ (k + 1) : Nat) : Int) = ((2 ^ k : Nat) : Int) * 2 := by rw [Nat.pow_succ]; omega
    rw [hp1, hk1]
    generalize 2 ^ k = q at *
    refine ⟨_, _, _, by simp -implicitDefEqProofs +contextual (disch := omega) [ref19_Matter.l0, g0, hk']; first | rfl | exact ⟨rfl, rfl⟩ | exact ⟨rfl, rfl, rfl⟩, .inl ⟨rfl, rfl, _, rfl⟩⟩
  · obtain ⟨rfl, y, rfl⟩ := hR
    have g0 := h.g0
    refine ⟨_, _, _, by simp -implicitDefEqProofs +contextual (disch := omega) [ref19_Matter.l0, g0]; first | rfl | exact ⟨rfl, rfl⟩ | exact ⟨rfl, rfl, rfl⟩, by simp, rfl, rfl, _, rfl⟩
def maS (c : CodeM) (m : Nat) (probes : List Int) (i : Nat) : List Int := tally (2 ^ c.randoms) (2 ^ probes.length) fun t => atM (runOps c.ops (padM (bitsM i m) m) (bitsM t c.randoms)) probes
set_option maxHeartbeats 1000000 in
theorem ma_all (c : CodeM) (m : Nat) (hcm : c.inN = m) (hm : m ≤ 10) (hcan : c.can = true) (hb : c.outs.length ≤ 1000000000) (hR12 : c.randoms ≤ 12) (probes : List Int) (hP : probes.length ≤ 8) (hp : ∀ x ∈ probes, 0 ≤ x ∧ x < c.inN + c.ops.length) (X : AHeap) (ob : Nat) (bs : List Bool) (h : MaI c X m ob bs []) {r}
    (hr : aloop maL1 (AFr.al [(1, .rsl 1 (ints probes)), (2, .ptr 0 3 0 0), (5, .sl 1 1 0 m), (6, .sl ob 1 0 0), (7, .int .i64 (2 ^ m : Nat)), (9, .int .i64 0)]) X = r) :
    ∃ e fr' X', r = some (e, fr', X') ∧ (e = .exit 2 ∧ ∃ y ob, fr' = AFr.al ([(1, .rsl 1 (ints probes)), (2, .ptr 0 3 0 0), (5, .sl 1 1 0 m), (6, .sl ob 1 0 (2 ^ m)), (7, .int .i64 (2 ^ m : Nat))] ++ y) ∧ MaI c X' m ob bs (spRows (maS c m probes) (2 ^ m))) := by
  have hmb : 2 ^ m ≤ 1024 := pow_le_of (show m ≤ 10 by omega) (by omega)
  refine run_of hr (aloop_each (2 ^ m) (fun k fr H => ∃ y ob, fr = AFr.al ([(1, .rsl 1 (ints probes)), (2, .ptr 0 3 0 0), (5, .sl 1 1 0 m), (6, .sl ob 1 0 k), (7, .int .i64 (2 ^ m : Nat)), (9, .int .i64 k)] ++ y) ∧ MaI c H m ob bs (spRows (maS c m probes) k)) _ (fun k hk fr H hR => ?_) (fun fr H hR => ?_) ⟨[], ob, rfl, h⟩)
  · obtain ⟨y, ob, rfl, I⟩ := hR
    have hk' : (k : Int) < (2 ^ m : Nat) := by omega
    have hk1 : ((k + 1 : Nat) : Int) = (k : Int) + 1 := by omega
    have g0 := I.g0
    have g1 := I.g1
    have gb := I.gb
    have b0 := I.wf _ _ g0
    have b1 := I.wf _ _ g1
    have b2 := I.wf _ _ gb
    have ob0 := I.ob0
    have hw := I.wf
    have hB := Bits_eq' k m (by omega) (by omega)
    have hS := rSpread_eq c hcan hb hR12 (bitsM k m) (by simp; omega) probes hP hp
    rw [hcm, Int.toNat_natCast] at hS
    have hmS : maS c m probes k = tally (2 ^ c.randoms) (2 ^ probes.length) fun t => atM (runOps c.ops (padM (bitsM k m) m) (bitsM t c.randoms)) probes := rfl
    rw [← hmS] at hS
    have hlen : (spRows (maS c m probes) k).length = k := by simp
    rw [spRows_succ, hk1]
    generalize maS c m probes k = s at *
    generalize bitsM k m = bt at *
    generalize spRows (maS c m probes) k = rows at *
    subst hlen
    unfold CodeM.cells at hS
    rw [hcm] at hS
    generalize 2 ^ m = TT at *
    refine ⟨_, _, _, by simp -implicitDefEqProofs +contextual (disch := omega) [ref19_Matter.l1, g0, gb, hk', hB, hS]; first | rfl | exact ⟨rfl, rfl⟩ | exact ⟨rfl, rfl, rfl⟩, .inl ⟨rfl, _, _, rfl, ?_, ?_, ?_, ?_, ?_⟩⟩
    · (repeat' (first | assumption | with_reducible apply AHeap.WF.push | with_reducible apply AHeap.WF.set | with_reducible apply killAll_wf | exact AHeap.WF.empty)) <;> (simp <;> omega)
    · simp (disch := omega) [g0]
    · simp (disch := omega) [g1]
    · omega
    · simp (disch := omega)
  · obtain ⟨y, ob, rfl, I⟩ := hR
    refine ⟨_, _, _, by simp -implicitDefEqProofs +contextual (disch := omega) [ref19_Matter.l1]; first | rfl | exact ⟨rfl, rfl⟩ | exact ⟨rfl, rfl, rfl⟩, by simp, rfl, _, _, rfl, I⟩
theorem ma_row (c : CodeM) (m : Nat) (hm : m ≤ 10) (S : Nat → List Int) (hS : ∀ i, (S i).length ≤ 1000000) (i : Nat) (hi : i < 2 ^ m) (X : AHeap) (ob : Nat) (h : MaI c X m ob (matUpto S m i 0) (spRows S (2 ^ m))) {r}
    (hr : aloop maL3 (AFr.al [(2, .ptr 0 3 0 0), (5, .sl 1 1 0 m), (6, .sl ob 1 0 (2 ^ m)), (7, .int .i64 (2 ^ m : Nat)), (11, .int .i64 i), (12, .int .i64 1), (13, .int .i64 0)]) X = r) :
    ∃ e fr' X', r = some (e, fr', X') ∧ (e = .exit 6 ∧ (∃ y, fr' = AFr.al ([(2, .ptr 0 3 0 0), (5, .sl 1 1 0 m), (6, .sl ob 1 0 (2 ^ m)), (7, .int .i64 (2 ^ m : Nat)), (11, .int .i64 i)] ++ y)) ∧ MaI c X' m ob (matUpto S m i m) (spRows S (2 ^ m))) := by
  have hmb : 2 ^ m ≤ 1024 := pow_le_of (show m ≤ 10 by omega) (by omega)
  refine run_of hr (aloop_each m (fun k fr H => (∃ y, fr = AFr.al ([(2, .ptr 0 3 0 0), (5, .sl 1 1 0 m), (6, .sl ob 1 0 (2 ^ m)), (7, .int .i64 (2 ^ m : Nat)), (11, .int .i64 i), (12, .int .i64 (2 ^ k : Nat)), (13, .int .i64 k)] ++ y)) ∧ MaI c H m ob (matUpto S m i k) (spRows S (2 ^ m))) _ (fun k hk fr H hR => ?_) (fun fr H hR => ?_) ⟨⟨[], rfl⟩, h⟩)
  · obtain ⟨⟨y, rfl⟩, I⟩ := hR
    have hk' : (k : Int) < m := by omega
    have hk1 : ((k + 1 : Nat) : Int) = (k : Int) + 1 := by omega
    have g0 := I.g0
    have g1 := I.g1
    have gb := I.gb
    have b0 := I.wf _ _ g0
    have b1 := I.wf _ _ g1
    have b2 := I.wf _ _ gb
    have ob0 := I.ob0
    have hw := I.wf
    have hstep := matUpto_step S m i k hk
    have hlen : (matUpto S m i k).length = m := by simp [matUpto]
    have hroom := bit_room m i k hi hk
    have hbd : matB S i k = (decide (i / 2 ^ k % 2 = 0) && !decide (S i = S (i + 2 ^ k))) := rfl
    have hpb : 2 ^ k ≤ 1024 := pow_le_of (show k ≤ 10 by omega) (by omega)
    have hpos := Nat.two_pow_pos k
    have hp1 : ((2 ^ (k + 1) : Nat) : Int) = ((2 ^ k : Nat) : Int) * 2 := by rw [Nat.pow_succ]; omega
    have hri := spRows_get S (2 ^ m) i hi
    have hrj := fun hh => spRows_get S (2 ^ m) (i + 2 ^ k) (hroom hh)
    have hsl : (spRows S (2 ^ m)).length = 2 ^ m := by simp
    have hri2 : ∀ hh : i < (spRows S (2 ^ m)).length, (spRows S (2 ^ m))[i] = [.rsl 1 (ints (S i))] := fun hh => by simp [spRows]
    have hrj2 : ∀ hh : i + 2 ^ k < (spRows S (2 ^ m)).length, (spRows S (2 ^ m))[i + 2 ^ k] = [.rsl 1 (ints (S (i + 2 ^ k)))] := fun hh => by simp [spRows]
    have hij : ((i + 2 ^ k : Nat) : Int) = (i : Int) + (2 ^ k : Nat) := by omega
    have hSm := sameI_eq (S i) (S (i + 2 ^ k)) (by have := hS i; omega)
    rw [hstep, hp1, hk1]
    generalize spRows S (2 ^ m) = rows at *
    generalize matUpto S m i k = bs at *
    generalize S (i + 2 ^ k) = s2 at *
    generalize S i = s1 at *
    generalize hq : 2 ^ k = q at *
    generalize 2 ^ m = TT at *
    rw [hbd]
    have hi' : (i : Int) < TT := by omega
    have hzI : (i : Int) / (q : Int) = ((i / q : Nat) : Int) := by simp
    have hzl : i / q ≤ i := Nat.div_le_self _ _
    generalize i / q = z at *
    by_cases hbit : z % 2 = 0
    · have hbit' : (z : Int) % 2 = 0 := by omega
      have hr2 := hrj hbit
      have hro := hroom hbit
      have hro' : (i : Int) + q < TT := by omega
      have hno : ¬ (q : Int) = 0 := by omega
      have hto : ((i : Int) + q).toNat = i + q := by omega
      by_cases hs : s1 = s2
      · rw [decide_eq_true hs] at hSm
        rw [if_neg (by simp [hs])]
        refine ⟨_, _, _, by simp -implicitDefEqProofs +contextual (disch := omega) [ref19_Matter.l3, g0, g1, gb, hk', hzI, hbit', hno, hri, hr2, hri2, hrj2, hro', hi', hto, hSm]; first | rfl | exact ⟨rfl, rfl⟩ | exact ⟨rfl, rfl, rfl⟩, .inl ⟨rfl, ⟨_, rfl⟩, I⟩⟩
      · rw [decide_eq_false hs] at hSm
        rw [if_pos (by simp [hs, hbit])]
        refine ⟨_, _, _, by simp -implicitDefEqProofs +contextual (disch := omega) [ref19_Matter.l3, g0, g1, gb, hk', hzI, hbit', hno, hri, hr2, hri2, hrj2, hro', hi', hto, hSm, hlen, hk]; first | rfl | exact ⟨rfl, rfl⟩ | exact ⟨rfl, rfl, rfl⟩, .inl ⟨rfl, ⟨_, rfl⟩, ?_, ?_, ?_, ob0, ?_⟩⟩
        · (repeat' (first | assumption | with_reducible apply AHeap.WF.push | with_reducible apply AHeap.WF.set | with_reducible apply killAll_wf | exact AHeap.WF.empty)) <;> (simp <;> omega)
        · simp (disch := omega) [g0]
        · simp (disch := omega)
        · simp (disch := omega) [gb]
    · have hbit' : ¬ (z : Int) % 2 = 0 := by omega
      have hno : ¬ (q : Int) = 0 := by omega
      rw [if_neg (by simp [hbit])]
      refine ⟨_, _, _, by simp -implicitDefEqProofs +contextual (disch := omega) [ref19_Matter.l3, g0, g1, gb, hk', hzI, hbit', hno]; first | rfl | exact ⟨rfl, rfl⟩ | exact ⟨rfl, rfl, rfl⟩, .inl ⟨rfl, ⟨_, rfl⟩, I⟩⟩
  · obtain ⟨⟨y, rfl⟩, I⟩ := hR
    have g0 := I.g0
    refine ⟨_, _, _, by simp -implicitDefEqProofs +contextual (disch := omega) [ref19_Matter.l3, g0]; first | rfl | exact ⟨rfl, rfl⟩ | exact ⟨rfl, rfl, rfl⟩, by simp, rfl, ⟨_, rfl⟩, I⟩
theorem ma_rows (c : CodeM) (m : Nat) (hm : m ≤ 10) (S : Nat → List Int) (hS : ∀ i, (S i).length ≤ 1000000) (X : AHeap) (ob : Nat) (h : MaI c X m ob (matUpto S m 0 0) (spRows S (2 ^ m))) {r}
    (hr : aloop maL2 (AFr.al [(2, .ptr 0 3 0 0), (5, .sl 1 1 0 m), (6, .sl ob 1 0 (2 ^ m)), (7, .int .i64 (2 ^ m : Nat)), (11, .int .i64 0)]) X = r) :
    ∃ e fr' X', r = some (e, fr', X') ∧ (e = .exit 4 ∧ fr' 5 = .sl 1 1 0 m ∧ MaI c X' m ob (matterM S m) (spRows S (2 ^ m))) := by
  have hmb : 2 ^ m ≤ 1024 := pow_le_of (show m ≤ 10 by omega) (by omega)
  refine run_of hr (aloop_each (2 ^ m) (fun k fr H => (∃ y, fr = AFr.al ([(2, .ptr 0 3 0 0), (5, .sl 1 1 0 m), (6, .sl ob 1 0 (2 ^ m)), (7, .int .i64 (2 ^ m : Nat)), (11, .int .i64 k)] ++ y)) ∧ MaI c H m ob (matUpto S m k 0) (spRows S (2 ^ m))) _ (fun k hk fr H hR => ?_) (fun fr H hR => ?_) ⟨⟨[], rfl⟩, h⟩)
  · obtain ⟨⟨y, rfl⟩, I⟩ := hR
    have hk' : (k : Int) < (2 ^ m : Nat) := by omega
    have hk1 : ((k + 1 : Nat) : Int) = (k : Int) + 1 := by omega
    have hrow := @ma_row c m hm S hS k hk H ob I
    generalize spRows S (2 ^ m) = rows at *
    generalize 2 ^ m = TT at *
    generalize hr2 : maL2 _ H = r2
    simp -implicitDefEqProofs +contextual (disch := omega) [ref19_Matter.l2, hk'] at hr2
    generalize hr3 : aloop _ _ _ = r3 at hr2
    obtain ⟨e, fr3, X3, rfl, rfl, ⟨y3, rfl⟩, I3⟩ := hrow hr3
    simp -implicitDefEqProofs +contextual (disch := omega) at hr2
    subst hr2
    refine ⟨_, _, _, rfl, .inl ⟨rfl, ⟨_, by rw [hk1]; rfl⟩, ?_⟩⟩
    rw [← matUpto_next]; exact I3
  · obtain ⟨⟨y, rfl⟩, I⟩ := hR
    rw [matUpto_all] at I
    refine ⟨_, _, _, by simp -implicitDefEqProofs +contextual (disch := omega) [ref19_Matter.l2]; first | rfl | exact ⟨rfl, rfl⟩ | exact ⟨rfl, rfl, rfl⟩, by simp, rfl, by simp, I⟩
set_option maxHeartbeats 1000000 in
theorem rMatter_eq (c : CodeM) (m : Nat) (hcm : c.inN = m) (hm : m ≤ 10) (hcan : c.can = true) (hb : c.outs.length ≤ 1000000000) (hR12 : c.randoms ≤ 12) (probes : List Int) (hP : probes.length ≤ 8) (hp : ∀ x ∈ probes, 0 ≤ x ∧ x < c.inN + c.ops.length) :
    ref19_Matter.spec [.agg c.cells, .rsl 1 (ints probes)] = some (.rsl 1 (bls (matterM (maS c m probes) m))) := by
  have hmb : 2 ^ m ≤ 1024 := pow_le_of (show m ≤ 10 by omega) (by omega)
  have hPb : 2 ^ probes.length ≤ 256 := pow_le_of (show probes.length ≤ 8 by omega) (by omega)
  have hSl : ∀ i, (maS c m probes i).length ≤ 1000000 := fun i => by simp [maS]; omega
  unfold CodeM.cells
  rw [hcm]
  simp -implicitDefEqProofs +contextual (disch := omega) [ref19_Matter.spec, ref19_Matter]
  generalize hr : aloop _ _ _ = r
  obtain ⟨e, fr1, X1, rfl, rfl, rfl, y1, rfl⟩ := ma_pow c m hm probes _ 2 (List.replicate m false) [] ⟨by (repeat' (first | assumption | with_reducible apply AHeap.WF.push | with_reducible apply AHeap.WF.set | with_reducible apply killAll_wf | exact AHeap.WF.empty)) <;> (simp <;> omega), by simp, by simp [bls_rep], ⟨by omega, by omega⟩, by simp⟩ hr
  simp -implicitDefEqProofs +contextual (disch := omega) []
  generalize hr : aloop _ _ _ = r
  obtain ⟨e, fr2, X2, rfl, rfl, y2, ob2, rfl, I2⟩ := ma_all c m hcm hm hcan hb hR12 probes hP hp _ 2 (List.replicate m false) ⟨by (repeat' (first | assumption | with_reducible apply AHeap.WF.push | with_reducible apply AHeap.WF.set | with_reducible apply killAll_wf | exact AHeap.WF.empty)) <;> (simp <;> omega), by simp, by simp [bls_rep], ⟨by omega, by omega⟩, by simp⟩ hr
  simp -implicitDefEqProofs +contextual (disch := omega) []
  generalize hr : aloop _ _ _ = r
  rw [← matUpto_zero (maS c m probes)] at I2
  obtain ⟨e, fr3, X3, rfl, rfl, p3, I3⟩ := ma_rows c m hm (maS c m probes) hSl X2 ob2 I2 hr
  have g1 := I3.g1
  have hml : (matterM (maS c m probes) m).length = m := by simp [matterM]
  have ht : (bls (matterM (maS c m probes) m)).take m = bls (matterM (maS c m probes) m) := List.take_of_length_le (by simp [hml])
  simp -implicitDefEqProofs +contextual (disch := omega) [p3, g1, hml, ht]
end Go.Abs
end

/-
  Words, moved bit by bit.
-/
import Derived.Test.YthignlpdeaglaaaW2
set_option linter.unusedSimpArgs false
set_option linter.unusedVariables false
namespace Go.Abs
theorem push_setW (H : AHeap) (x y : Blk) : (H.push x).set H.next (some y) = H.push y := by
  refine AHeap.eq_of rfl (funext fun c => ?_)
  rw [AHeap.get_set, AHeap.get_push, AHeap.get_push]; split <;> rfl
theorem mk_bools (H : AHeap) (kind : Nat) (v : BitVec 32) : amakeR (some ⟨T.ty_bool, 1, 1, [(.bool false)]⟩) (.int .i64 32) (.int .i64 32) H = some (.sl H.next 1 0 32, H.push (bBlk (movK kind v 0))) := by
  have h : movK kind v 0 = List.replicate 32 false := by rw [tell_rep]; exact tell_congr _ _ _ fun j hj => by simp
  rw [h]; rfl
theorem mov_0 (v : BitVec 32) : movK 0 v 32 = bitsL (stepK 0 v) :=
  tell_congr _ _ _ fun j hj => by
    rcases j with _ | n
    · simp [stepK]
    · have h2 : n < 32 := by omega
      simp [stepK, hj, BitVec.getLsbD_eq_getElem h2]
theorem mov_1 (v : BitVec 32) : movK 1 v 32 = bitsL (stepK 1 v) :=
  tell_congr _ _ _ fun j hj => by simp [stepK, hj, Nat.add_comm]
theorem mov_2 (v : BitVec 32) : (movK 2 v 32).set 31 v.msb = bitsL (stepK 2 v) := by
  unfold movK; rw [tell_set]
  refine tell_congr _ _ _ fun j hj => ?_
  simp only [stepK, BitVec.getLsbD_sshiftRight]
  by_cases e : j = 31
  · subst e; simp
  · have h1 : 1 + j < 32 := by omega
    have h2 : j + 1 = 1 + j := by omega
    have h3 : ¬ 32 ≤ j := by omega
    simp [e, hj, h1, h2, h3]
theorem mov_3 (v : BitVec 32) : (movK 3 v 32).set 31 (v.getLsbD 0) = bitsL (stepK 3 v) := by
  unfold movK; rw [tell_set]
  refine tell_congr _ _ _ fun j hj => ?_
  simp only [stepK, BitVec.getLsbD_rotateRight]
  by_cases e : j = 31
  · subst e; simp
  · have h1 : j < 31 := by omega
    have h2 : j + 1 = 1 + j := by omega
    simp [e, hj, h1, h2]
def outK (kind : Nat) (v : BitVec 32) : Bool := if kind = 0 then v.msb else v.getLsbD 0
theorem sh_step (kind : Nat) (hk3 : kind ≤ 3) (v by_ : BitVec 32) (c : Bool) (i : Nat) (hi : i < by_.toNat) (hi70 : i < 70) (H : AHeap) (hw : H.WF) (b : AV) (hb : BitsAt H b v) : ∃ H' b',
    rshL (AFr.al [(0, .int .i64 kind), (2, W32 by_), (3, .bool c), (10, b), (11, W32 (BitVec.ofNat 32 i))]) H =
      some (.normal, AFr.al [(0, .int .i64 kind), (2, W32 by_), (3, .bool (outK kind v)), (10, b'), (11, W32 (BitVec.ofNat 32 (i + 1)))], H') ∧ BitsAt H' b' (stepK kind v) ∧ H'.WF := by
  have lv : (bitsL v).length = 32 := by simp [bitsL]
  have lm : (movK kind v 32).length = 32 := by simp [movK]
  have h31 : atb (bitsL v) 31 = v.msb := by rw [bitsL, tell_at 32 _ 31 (by omega), BitVec.msb_eq_getLsbD_last]
  have h0 : atb (bitsL v) 0 = v.getLsbD 0 := tell_at 32 _ 0 (by omega)
  have hmk := mk_bools H kind v
  have hbn : ∀ o l, b = .sl o 1 0 l → o < H.next := fun o l e => by
    rcases hb with rfl | ⟨o', rfl, ho⟩
    · cases e
    · cases e; exact hw _ _ ho
  have hb' : BitsAt (H.push (bBlk (movK kind v 0))) b v := by
    rcases hb with rfl | ⟨o, rfl, ho⟩
    · exact .inl rfl
    · have := hw _ _ ho
      exact .inr ⟨o, rfl, by rw [AHeap.get_push, if_neg (by omega)]; exact ho⟩
  have hl := mov_loop kind hk3 v (H.push (bBlk (movK kind v 0))) b (W32 by_) (W32 (BitVec.ofNat 32 i)) H.next hb' (fun o l e => by have := hbn o l e; omega)
  rw [push_setW, push_setW] at hl
  have hlt : BitVec.ofNat 32 i < by_ := by rw [BitVec.lt_def, BitVec.toNat_ofNat]; omega
  have hlt70 : BitVec.ofNat 32 i < 70#32 := by rw [BitVec.lt_def, BitVec.toNat_ofNat]; simp; omega
  have hsucc : BitVec.ofNat 32 i + 1#32 = BitVec.ofNat 32 (i + 1) := by apply BitVec.eq_of_toNat_eq; simp
  have fin : ∀ l : List Bool, l = bitsL (stepK kind v) → BitsAt (H.push (bBlk l)) (.sl H.next 1 0 32) (stepK kind v) ∧ (H.push (bBlk l)).WF := fun l e => ⟨.inr ⟨H.next, rfl, by simp [e]⟩, AHeap.WF.push hw⟩
  have m0 := mov_0 v; have m1 := mov_1 v; have m2 := mov_2 v; have m3 := mov_3 v
  match kind, hk3 with
  | 0, _ =>
    refine ⟨H.push (bBlk (movK 0 v 32)), .sl H.next 1 0 32, ?_, fin _ m0⟩
    push_cast at hl
    simp only [bBlk] at hmk hl ⊢
    rcases hb with rfl | ⟨o, rfl, ho⟩
    · simp -implicitDefEqProofs +contextual (disch := omega) [rshL, ref01_Shift.l0, hmk, hl, hlt, hlt70, hsucc, h31, h0, lv, outK, -make_eq]
    · have hon := hw _ _ ho
      simp only [bBlk] at ho
      simp -implicitDefEqProofs +contextual (disch := omega) [rshL, ref01_Shift.l0, hmk, hl, hlt, hlt70, hsucc, h31, h0, lv, outK, ho, -make_eq]
  | 1, _ =>
    refine ⟨H.push (bBlk (movK 1 v 32)), .sl H.next 1 0 32, ?_, fin _ m1⟩
    push_cast at hl
    simp only [bBlk] at hmk hl ⊢
    rcases hb with rfl | ⟨o, rfl, ho⟩
    · simp -implicitDefEqProofs +contextual (disch := omega) [rshL, ref01_Shift.l0, hmk, hl, hlt, hlt70, hsucc, h31, h0, lv, outK, -make_eq]
    · have hon := hw _ _ ho
      simp only [bBlk] at ho
      simp -implicitDefEqProofs +contextual (disch := omega) [rshL, ref01_Shift.l0, hmk, hl, hlt, hlt70, hsucc, h31, h0, lv, outK, ho, -make_eq]
  | 2, _ =>
    refine ⟨H.push (bBlk ((movK 2 v 32).set 31 v.msb)), .sl H.next 1 0 32, ?_, fin _ m2⟩
    have ps := fun x y => push_setW H x y
    push_cast at hl
    simp only [bBlk] at hmk hl ps ⊢
    rcases hb with rfl | ⟨o, rfl, ho⟩
    · simp -implicitDefEqProofs +contextual (disch := omega) [rshL, ref01_Shift.l0, hmk, hl, hlt, hlt70, hsucc, h31, h0, lv, lm, outK, ps, -make_eq]
    · have hon := hw _ _ ho
      simp only [bBlk] at ho
      simp -implicitDefEqProofs +contextual (disch := omega) [rshL, ref01_Shift.l0, hmk, hl, hlt, hlt70, hsucc, h31, h0, lv, lm, outK, ho, ps, -make_eq]
  | 3, _ =>
    refine ⟨H.push (bBlk ((movK 3 v 32).set 31 (v.getLsbD 0))), .sl H.next 1 0 32, ?_, fin _ m3⟩
    have ps := fun x y => push_setW H x y
    push_cast at hl
    simp only [bBlk] at hmk hl ps ⊢
    rcases hb with rfl | ⟨o, rfl, ho⟩
    · simp -implicitDefEqProofs +contextual (disch := omega) [rshL, ref01_Shift.l0, hmk, hl, hlt, hlt70, hsucc, h31, h0, lv, lm, outK, ps, -make_eq]
    · have hon := hw _ _ ho
      simp only [bBlk] at ho
      simp -implicitDefEqProofs +contextual (disch := omega) [rshL, ref01_Shift.l0, hmk, hl, hlt, hlt70, hsucc, h31, h0, lv, lm, outK, ho, ps, -make_eq]
def sIter (kind : Nat) : Nat → BitVec 32 × Bool → BitVec 32 × Bool
  | 0, s => s
  | d + 1, s => sIter kind d (stepK kind s.1, outK kind s.1)
theorem sIter_succ (kind : Nat) : ∀ (d : Nat) (s : BitVec 32 × Bool), sIter kind (d + 1) s = (stepK kind (sIter kind d s).1, outK kind (sIter kind d s).1)
  | 0, s => rfl
  | d + 1, s => by
    show sIter kind (d + 1) (stepK kind s.1, outK kind s.1) = _
    rw [sIter_succ kind d]; rfl
theorem rotb (v : BitVec 32) (k i : Nat) (hi : i < 32) : (v.rotateRight k).getLsbD i = v.getLsbD ((k + i) % 32) := by
  rw [BitVec.getLsbD_rotateRight]
  by_cases h : i < 32 - k % 32
  · rw [decide_eq_true h, cond_true]; congr 1; omega
  · rw [decide_eq_false h, cond_false, decide_eq_true hi, Bool.true_and]; congr 1; omega
theorem shN_next (kind : Nat) (hk : kind ≤ 3) (v : BitVec 32) (n : Nat) (hn : 0 < n) : stepK kind (shN kind v n).w = (shN kind v (n + 1)).w ∧ outK kind (shN kind v n).w = (shN kind v (n + 1)).c := by
  match kind, hk with
  | 0, _ =>
    refine ⟨?_, ?_⟩
    · show v <<< n <<< 1 = v <<< (n + 1)
      rw [BitVec.shiftLeft_add]
    · show (v <<< n).msb = (decide (n + 1 ≤ 32) && v.getLsbD (32 - (n + 1)))
      rw [BitVec.msb_eq_getLsbD_last, BitVec.getLsbD_shiftLeft]
      by_cases h : n ≤ 31
      · have h1 : ¬ 31 < n := by omega
        have h2 : n + 1 ≤ 32 := by omega
        rw [show 32 - (n + 1) = 31 - n from by omega]
        simp [h1, h2]
      · have h1 : 31 < n := by omega
        have h2 : ¬ n + 1 ≤ 32 := by omega
        simp [h1, h2]
  | 1, _ =>
    refine ⟨?_, ?_⟩
    · show v >>> n >>> 1 = v >>> (n + 1)
      rw [BitVec.shiftRight_add]
    · show (v >>> n).getLsbD 0 = v.getLsbD (n + 1 - 1)
      rw [BitVec.getLsbD_ushiftRight]; simp
  | 2, _ =>
    refine ⟨?_, ?_⟩
    · show (v.sshiftRight (min n 32)).sshiftRight 1 = v.sshiftRight (min (n + 1) 32)
      apply BitVec.eq_of_getLsbD_eq
      intro i hi
      simp only [BitVec.getLsbD_sshiftRight, BitVec.msb_sshiftRight]
      by_cases h : n < 32
      · rw [show min n 32 = n from by omega, show min (n + 1) 32 = n + 1 from by omega]
        by_cases h1 : 1 + i < 32
        · have h2 : n + (1 + i) = n + 1 + i := by omega
          simp [h1, h2]
        · have h2 : ¬ n + 1 + i < 32 := by omega
          simp [h1, h2]
      · rw [show min n 32 = 32 from by omega, show min (n + 1) 32 = 32 from by omega]
        by_cases h1 : 1 + i < 32 <;> simp [h1]
    · show (v.sshiftRight (min n 32)).getLsbD 0 = v.getLsbD (min (n + 1) 32 - 1)
      rw [BitVec.getLsbD_sshiftRight]
      by_cases h : n < 32
      · rw [show min n 32 = n from by omega, show min (n + 1) 32 - 1 = n from by omega]
        simp [h]
      · rw [show min n 32 = 32 from by omega, show min (n + 1) 32 - 1 = 31 from by omega]
        simp [BitVec.msb_eq_getLsbD_last]
  | 3, _ =>
    have h1 : (v.rotateRight (n % 32)).rotateRight 1 = v.rotateRight ((n + 1) % 32) := by
      apply BitVec.eq_of_getLsbD_eq
      intro i hi
      rw [rotb _ _ _ hi, rotb _ _ _ (Nat.mod_lt _ (by omega)), rotb _ _ _ hi]
      congr 1; omega
    refine ⟨h1, ?_⟩
    show (v.rotateRight (n % 32)).getLsbD 0 = (v.rotateRight ((n + 1) % 32)).msb
    rw [← h1, BitVec.msb_eq_getLsbD_last, rotb _ 1 _ (by omega)]
theorem sIter_eq (kind : Nat) (hk : kind ≤ 3) (v : BitVec 32) (c : Bool) : ∀ n : Nat, sIter kind (n + 1) (v, c) = ((shN kind v (n + 1)).w, (shN kind v (n + 1)).c)
  | 0 => by
    rw [sIter_succ]
    show (stepK kind v, outK kind v) = _
    match kind, hk with
    | 0, _ => simp [stepK, outK, shN, BitVec.msb_eq_getLsbD_last]
    | 1, _ => simp [stepK, outK, shN]
    | 2, _ => simp [stepK, outK, shN]
    | 3, _ =>
      refine Prod.ext rfl ?_
      show v.getLsbD 0 = (v.rotateRight 1).msb
      rw [BitVec.msb_eq_getLsbD_last, BitVec.getLsbD_rotateRight]; simp
  | n + 1 => by
    rw [sIter_succ, sIter_eq kind hk v c n]
    obtain ⟨h1, h2⟩ := shN_next kind hk v (n + 1) (by omega)
    rw [h1, h2]
theorem sh_loop (kind : Nat) (hk3 : kind ≤ 3) (by_ : BitVec 32) : ∀ (d i : Nat) (v : BitVec 32) (c : Bool) (H : AHeap) (b : AV), i + d = min by_.toNat 70 → H.WF → BitsAt H b v → ∃ H' b',
    aloop rshL (AFr.al [(0, .int .i64 kind), (2, W32 by_), (3, .bool c), (10, b), (11, W32 (BitVec.ofNat 32 i))]) H =
      some (.exit 0, AFr.al [(0, .int .i64 kind), (2, W32 by_), (3, .bool (sIter kind d (v, c)).2), (10, b'), (11, W32 (BitVec.ofNat 32 (i + d))), (37, .bool false)], H') ∧ BitsAt H' b' (sIter kind d (v, c)).1
  | 0, i, v, c, H, b, hi, hw, hb => by
    refine ⟨H, b, aloop_exit (by simp) ?_, hb⟩
    by_cases h : by_.toNat ≤ 70
    · have h1 : ¬ BitVec.ofNat 32 i < by_ := by rw [BitVec.lt_def, BitVec.toNat_ofNat]; omega
      simp -implicitDefEqProofs +contextual (disch := omega) [rshL, ref01_Shift.l0, h1, sIter]
    · have h1 : ¬ BitVec.ofNat 32 i < 70#32 := by rw [BitVec.lt_def, BitVec.toNat_ofNat]; simp; omega
      have h2 : BitVec.ofNat 32 i < by_ := by rw [BitVec.lt_def, BitVec.toNat_ofNat]; omega
      simp -implicitDefEqProofs +contextual (disch := omega) [rshL, ref01_Shift.l0, h1, h2, sIter]
  | d + 1, i, v, c, H, b, hi, hw, hb => by
    obtain ⟨H1, b1, q1, q2, q3⟩ := sh_step kind hk3 v by_ c i (by omega) (by omega) H hw b hb
    obtain ⟨H2, b2, p1, p2⟩ := sh_loop kind hk3 by_ d (i + 1) (stepK kind v) (outK kind v) H1 b1 (by omega) q3 q2
    rw [show i + 1 + d = i + (d + 1) from by omega] at p1
    exact ⟨H2, b2, by rw [aloop_step q1]; exact p1, p2⟩
theorem shN_min (kind : Nat) (hk : kind ≤ 2) (v : BitVec 32) (n : Nat) (hn : 70 ≤ n) : shN kind v n = shN kind v 70 := by
  match kind, hk with
  | 0, _ =>
    have h1 : v <<< n = v <<< 70 := by rw [BitVec.shiftLeft_eq_zero (by omega), BitVec.shiftLeft_eq_zero (by omega)]
    have h2 : ¬ n ≤ 32 := by omega
    simp [shN, h1, h2]
  | 1, _ =>
    have h1 : v >>> n = v >>> 70 := by rw [BitVec.ushiftRight_eq_zero (by omega), BitVec.ushiftRight_eq_zero (by omega)]
    have h2 : v.getLsbD (n - 1) = v.getLsbD 69 := by rw [BitVec.getLsbD_of_ge _ _ (by omega), BitVec.getLsbD_of_ge _ _ (by omega)]
    show Sh2.mk (v >>> n) (v.getLsbD (n - 1)) = Sh2.mk (v >>> 70) (v.getLsbD 69)
    rw [h1, h2]
  | 2, _ =>
    show Sh2.mk (v.sshiftRight (min n 32)) (v.getLsbD (min n 32 - 1)) = Sh2.mk (v.sshiftRight (min 70 32)) (v.getLsbD (min 70 32 - 1))
    rw [show min n 32 = min 70 32 from by omega]
theorem rShift_run (kind : Nat) (hk : kind ≤ 3) (a by_ : BitVec 32) (c : Bool) (h3 : kind = 3 → by_.toNat ≤ 64) : ∃ H' b',
    aloop rshL (AFr.al [(0, .int .i64 kind), (2, W32 by_), (3, .bool c), (10, .rsl 1 (bls (bitsL a))), (11, W32 0#32)]) AHeap.empty =
      some (.exit 0, AFr.al [(0, .int .i64 kind), (2, W32 by_), (3, .bool (shiftM kind a by_ c).c), (10, b'), (11, W32 (BitVec.ofNat 32 (min by_.toNat 70))), (37, .bool false)], H') ∧ BitsAt H' b' (shiftM kind a by_ c).w := by
  obtain ⟨H', b', h1, h2⟩ := sh_loop kind hk by_ (min by_.toNat 70) 0 a c AHeap.empty (.rsl 1 (bls (bitsL a))) (by omega) AHeap.WF.empty (.inl rfl)
  rw [Nat.zero_add] at h1
  have key : sIter kind (min by_.toNat 70) (a, c) = ((shiftM kind a by_ c).w, (shiftM kind a by_ c).c) := by
    unfold shiftM
    by_cases h0 : by_ = 0#32
    · subst h0; rfl
    · have hp : 0 < by_.toNat := Nat.pos_of_ne_zero fun e => h0 (BitVec.eq_of_toNat_eq (by simpa using e))
      rw [if_neg h0, show min by_.toNat 70 = min by_.toNat 70 - 1 + 1 from by omega, sIter_eq kind hk a c, show min by_.toNat 70 - 1 + 1 = min by_.toNat 70 from by omega]
      by_cases h70 : by_.toNat ≤ 70
      · rw [Nat.min_eq_left h70]
      · have hk2 : kind ≤ 2 := by
          by_cases e : kind = 3
          · have := h3 e; omega
          · omega
        rw [Nat.min_eq_right (by omega), shN_min kind hk2 a by_.toNat (by omega)]
  rw [key] at h1 h2
  exact ⟨H', b', h1, h2⟩
theorem rShift_eq (kind : Nat) (hk : kind ≤ 3) (a by_ : BitVec 32) (c : Bool) : ref01_Shift.spec [.int .i64 (kind : Nat), W32 a, W32 by_, .bool c] = some (.tup [W32 (shiftM kind a by_ c).w, .bool (shiftM kind a by_ c).c]) := by
  have b1 := Bits_eq a
  have k0 : ¬ (kind : Int) < 0 := by omega
  have k1 : ¬ (3 : Int) < kind := by omega
  by_cases h3 : kind = 3 ∧ 64#32 < by_
  · obtain ⟨h4, h5⟩ := h3
    obtain ⟨q, hq⟩ : ∃ q : BitVec 32, 32#32 + by_ % 32#32 = q := ⟨_, rfl⟩
    have hqn : q.toNat = 32 + by_.toNat % 32 := by rw [← hq, BitVec.toNat_add, BitVec.toNat_umod]; simp; omega
    have hb5 : 64 < by_.toNat := by rw [BitVec.lt_def] at h5; simpa using h5
    obtain ⟨H', b', h1, h2⟩ := rShift_run kind hk a q c (fun _ => by omega)
    have e : shiftM kind a q c = shiftM kind a by_ c := by
      subst h4
      unfold shiftM
      rw [if_neg (fun e => by rw [e] at hqn; simp at hqn; omega), if_neg (fun e => by rw [e] at hb5; simp at hb5)]
      show Sh2.mk (a.rotateRight (q.toNat % 32)) (a.rotateRight (q.toNat % 32)).msb = Sh2.mk (a.rotateRight (by_.toNat % 32)) (a.rotateRight (by_.toNat % 32)).msb
      rw [show q.toNat % 32 = by_.toNat % 32 from by omega]
    rw [e] at h1 h2
    have hw := Word_eq' (shiftM kind a by_ c).w
    have lv : (bitsL (shiftM kind a by_ c).w).length = 32 := by simp [bitsL]
    have ht : (bls (bitsL (shiftM kind a by_ c).w)).take 32 = bls (bitsL (shiftM kind a by_ c).w) := List.take_of_length_le (by rw [bls_length, lv]; exact Nat.le_refl _)
    subst h4
    push_cast at h1 ⊢
    rcases h2 with rfl | ⟨o, rfl, ho⟩
    · simp -implicitDefEqProofs +contextual (disch := omega) [ref01_Shift.spec, ref01_Shift, b1, h5, hq, h1, hw]
    · simp only [bBlk] at ho
      simp -implicitDefEqProofs +contextual (disch := omega) [ref01_Shift.spec, ref01_Shift, b1, h5, hq, h1, hw, ho, lv, ht]
  · obtain ⟨H', b', h1, h2⟩ := rShift_run kind hk a by_ c (fun e => by
      have : ¬ 64#32 < by_ := fun q => h3 ⟨e, q⟩
      rw [BitVec.lt_def] at this; simp at this; omega)
    have hw := Word_eq' (shiftM kind a by_ c).w
    have lv : (bitsL (shiftM kind a by_ c).w).length = 32 := by simp [bitsL]
    have ht : (bls (bitsL (shiftM kind a by_ c).w)).take 32 = bls (bitsL (shiftM kind a by_ c).w) := List.take_of_length_le (by rw [bls_length, lv]; exact Nat.le_refl _)
    by_cases h4 : kind = 3
    · have h5 : ¬ 64#32 < by_ := fun q => h3 ⟨h4, q⟩
      subst h4
      push_cast at h1 ⊢
      rcases h2 with rfl | ⟨o, rfl, ho⟩
      · simp -implicitDefEqProofs +contextual (disch := omega) [ref01_Shift.spec, ref01_Shift, b1, h5, h1, hw]
      · simp only [bBlk] at ho
        simp -implicitDefEqProofs +contextual (disch := omega) [ref01_Shift.spec, ref01_Shift, b1, h5, h1, hw, ho, lv, ht]
    · have h4i : ¬ (kind : Int) = 3 := by omega
      rcases h2 with rfl | ⟨o, rfl, ho⟩
      · simp -implicitDefEqProofs +contextual (disch := omega) [ref01_Shift.spec, ref01_Shift, b1, h4, h4i, h1, hw, k0, k1]
      · simp only [bBlk] at ho
        simp -implicitDefEqProofs +contextual (disch := omega) [ref01_Shift.spec, ref01_Shift, b1, h4, h4i, h1, hw, ho, lv, ht, k0, k1]
end Go.Abs

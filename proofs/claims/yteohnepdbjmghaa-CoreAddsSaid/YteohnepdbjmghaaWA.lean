import Derived.Test.YteohnepdbjmghaaLoF
import Derived.Test.YteohnepdbjmghaaSA
section
set_option linter.unusedSimpArgs false
set_option linter.unusedVariables false
namespace Go.Abs
def cw (c : Bool) : BitVec 32 := if c then 1#32 else 0#32
structure Add3 where
  w : BitVec 32
  c : Bool
  v : Bool
def addM (a b : BitVec 32) (c : Bool) : Add3 :=
  ⟨a + b + cw c, decide (4294967296 ≤ a.toNat + b.toNat + (cw c).toNat), (a ^^^ (a + b + cw c)) &&& (b ^^^ (a + b + cw c)) &&& 2147483648#32 != 0#32⟩
theorem add32_eq (a b c : BitVec 32) (hc : c.toNat ≤ 1) : math_bits_Add32.spec [W32 a, W32 b, W32 c] = some (.tup [W32 (a + b + c), W32 (if 4294967296 ≤ a.toNat + b.toNat + c.toNat then 1#32 else 0#32)]) := by
  simp -implicitDefEqProofs +contextual (disch := omega) [math_bits_Add32.spec, math_bits_Add32]
  have ha := a.isLt; have hb := b.isLt
  constructor
  · apply BitVec.eq_of_toNat_eq
    simp [BitVec.toNat_add]
  · apply BitVec.eq_of_toNat_eq
    simp [BitVec.toNat_add, Nat.shiftRight_eq_div_pow]
    split <;> simp <;> omega
theorem ite_one (p : Prop) [Decidable p] : ((if p then 1#32 else 0#32) == 1#32) = decide p := by
  by_cases h : p <;> simp [h]
theorem wAdd_eq (a b : BitVec 32) (c : Bool) : word_Add.spec [W32 a, W32 b, .bool c] = some (.tup [W32 (addM a b c).w, .bool (addM a b c).c, .bool (addM a b c).v]) := by
  cases c
  · have := add32_eq a b 0#32 (by decide)
    simp -implicitDefEqProofs +contextual (disch := omega) [word_Add.spec, word_Add, this, addM, cw, ite_one]
  · have := add32_eq a b 1#32 (by decide)
    simp -implicitDefEqProofs +contextual (disch := omega) [word_Add.spec, word_Add, this, addM, cw, ite_one]
theorem min_W32 (a b : BitVec 32) : amin (W32 a) (W32 b) = some (W32 (if a.toNat ≤ b.toNat then a else b)) := by
  show some (AV.int .u32 (if (b.toNat : Int) < a.toNat then (b.toNat : Int) else a.toNat)) = _
  by_cases h : a.toNat ≤ b.toNat
  · rw [if_neg (by omega), if_pos h]; rfl
  · rw [if_pos (by omega), if_neg h]; rfl
theorem lsb1 (x : BitVec 32) : ((x &&& 1#32) == 1#32) = x.getLsbD 0 := by
  rw [Bool.eq_iff_iff, beq_iff_eq]
  constructor
  · intro h
    have := congrArg (fun y : BitVec 32 => y.getLsbD 0) h
    simpa using this
  · intro h
    apply BitVec.eq_of_getLsbD_eq
    intro i hi
    by_cases e : i = 0
    · subst e; simp [h]
    · simp [e]
structure Sh2 where
  w : BitVec 32
  c : Bool
def shN (kind : Nat) (a : BitVec 32) (n : Nat) : Sh2 :=
  match kind with
  | 0 => ⟨a <<< n, decide (n ≤ 32) && a.getLsbD (32 - n)⟩
  | 1 => ⟨a >>> n, a.getLsbD (n - 1)⟩
  | 2 => ⟨a.sshiftRight (min n 32), a.getLsbD (min n 32 - 1)⟩
  | _ => ⟨a.rotateRight (n % 32), (a.rotateRight (n % 32)).msb⟩
def shiftM (kind : Nat) (a by_ : BitVec 32) (c : Bool) : Sh2 := if by_ = 0#32 then ⟨a, c⟩ else shN kind a by_.toNat
theorem wShift_0 (a by_ : BitVec 32) (c : Bool) (h : ¬ by_ = 0#32) : word_Shift.spec [.int .i64 0, W32 a, W32 by_, .bool c] = some (.tup [W32 (shN 0 a by_.toNat).w, .bool (shN 0 a by_.toNat).c]) := by
  simp -implicitDefEqProofs +contextual (disch := omega) [word_Shift.spec, word_Shift, h, shN, lsb1]
  have hb := by_.isLt
  by_cases q : by_.toNat ≤ 32
  · have q2 : by_ ≤ 32#32 := by rw [BitVec.le_def]; simpa using q
    rw [show (4294967296 - by_.toNat + 32) % 4294967296 = 32 - by_.toNat from by omega]
    simp [q, q2]
  · have q2 : ¬ by_ ≤ 32#32 := by rw [BitVec.le_def]; simpa using q
    simp [q, q2]
theorem wShift_1 (a by_ : BitVec 32) (c : Bool) (h : ¬ by_ = 0#32) : word_Shift.spec [.int .i64 1, W32 a, W32 by_, .bool c] = some (.tup [W32 (shN 1 a by_.toNat).w, .bool (shN 1 a by_.toNat).c]) := by
  simp -implicitDefEqProofs +contextual (disch := omega) [word_Shift.spec, word_Shift, h, shN, lsb1]
  have hb := by_.isLt
  have h0 : 0 < by_.toNat := Nat.pos_of_ne_zero fun e => h (BitVec.eq_of_toNat_eq (by simpa using e))
  rw [show (4294967295 + by_.toNat) % 4294967296 = by_.toNat - 1 from by omega]
  by_cases q : by_.toNat ≤ 32
  · have q2 : by_ ≤ 32#32 := by rw [BitVec.le_def]; simpa using q
    simp [q2]
  · rw [BitVec.getLsbD_of_ge _ _ (by omega)]; simp
theorem conv_i32 (a : BitVec 32) : aconvR (some .i32) (W32 a) = some (.int .i32 a.toInt) := by
  show some (AV.int .i32 (IntKind.i32.wrap (a.toNat : Int))) = _
  congr 2
  have := a.isLt
  by_cases h : 2 * a.toNat < 2 ^ 32
  · rw [BitVec.toInt_eq_toNat_cond, if_pos h]; simp [IntKind.wrap, IntKind.bits, IntKind.signed]; omega
  · rw [BitVec.toInt_eq_toNat_cond, if_neg h]; simp [IntKind.wrap, IntKind.bits, IntKind.signed]; omega
theorem shr_i32 (q : QK) (x : Int) (y : BitVec 32) : abinR q .shr (.int .i32 x) (W32 y) = some (.int .i32 (x / 2 ^ (min y.toNat 32))) := by
  rw [show W32 y = .int .u32 y.toNat from rfl, bin_shr _ _ _ _ _ (by omega)]
  simp only [Int.toNat_natCast, bits_i32]
  rw [Int.fdiv_eq_ediv_of_nonneg _ (by exact Int.le_of_lt (Int.pow_pos (by decide)))]
theorem sshr_ofInt (a : BitVec 32) (n : Nat) : BitVec.ofInt 32 (a.toInt / 2 ^ n) = a.sshiftRight n := by
  unfold BitVec.sshiftRight
  rw [Int.shiftRight_eq_div_pow]
  simp
theorem top_msb (x : BitVec 32) : (x &&& 2147483648#32 != 0#32) = x.msb := by
  have h : x &&& 2147483648#32 = if x.msb then 2147483648#32 else 0#32 := by
    apply BitVec.eq_of_getLsbD_eq
    intro i hi
    have hb : (2147483648#32).getLsbD i = decide (i = 31) := by
      have : ∀ i : Fin 32, (2147483648#32).getLsbD i.val = decide (i.val = 31) := by decide
      exact this ⟨i, hi⟩
    rw [BitVec.getLsbD_and, hb]
    by_cases e : i = 31
    · subst e
      rw [show x.getLsbD 31 = x.msb from by rw [BitVec.msb_eq_getLsbD_last]]
      cases x.msb <;> decide
    · simp only [e, decide_false, Bool.and_false]
      cases x.msb
      · simp
      · simp [hb, e]
  rw [h]; cases x.msb <;> decide
theorem sshr_lsb (a : BitVec 32) (n : Nat) (h : n < 32) : (a.sshiftRight n).getLsbD 0 = a.getLsbD n := by
  rw [BitVec.getLsbD_sshiftRight]; simp [h]
theorem wShift_2 (a by_ : BitVec 32) (c : Bool) (h : ¬ by_ = 0#32) : word_Shift.spec [.int .i64 2, W32 a, W32 by_, .bool c] = some (.tup [W32 (shN 2 a by_.toNat).w, .bool (shN 2 a by_.toNat).c]) := by
  have h0 : 0 < by_.toNat := Nat.pos_of_ne_zero fun e => h (BitVec.eq_of_toNat_eq (by simpa using e))
  have hm : min 31 32 = 31 := rfl
  by_cases q : by_.toNat ≤ 32
  · have e1 : (4294967295 + by_.toNat) % 4294967296 = by_.toNat - 1 := by omega
    have e2 : min by_.toNat 32 = by_.toNat := by omega
    have e3 : min (by_.toNat - 1) 32 = by_.toNat - 1 := by omega
    have e4 := sshr_lsb a (by_.toNat - 1) (by omega)
    have e5 : (by_ - 1#32).toNat = by_.toNat - 1 := by rw [BitVec.toNat_sub]; simp; omega
    simp -implicitDefEqProofs +contextual (disch := omega) [word_Shift.spec, word_Shift, h, shN, lsb1, min_W32, q, conv_i32, shr_i32, sshr_ofInt, e1, e2, e3, e4, e5, -BitVec.toNat_sub]
    rw [BitVec.getElem_sshiftRight]
    have z : by_.toNat - 1 < 32 := by omega
    simp [z]
  · have e1 : min by_.toNat 32 = 32 := by omega
    have e4 := sshr_lsb a 31 (by omega)
    simp -implicitDefEqProofs +contextual (disch := omega) [word_Shift.spec, word_Shift, h, shN, lsb1, min_W32, q, conv_i32, shr_i32, sshr_ofInt, e1, e4]
    refine ⟨sshr_ofInt a 32, ?_⟩
    rw [show BitVec.ofInt 32 (a.toInt / 2147483648) = a.sshiftRight 31 from sshr_ofInt a 31, BitVec.getElem_sshiftRight]; simp
theorem rot_eq (a : BitVec 32) (k : Int) : math_bits_RotateLeft32.spec [W32 a, .int .i64 k] = some (W32 (a.rotateLeft (k % 32).toNat)) := by
  simp -implicitDefEqProofs +contextual (disch := omega) [math_bits_RotateLeft32.spec, math_bits_RotateLeft32]
  have h1 : (k % 18446744073709551616).toNat &&& 31 = (k % 32).toNat := by
    rw [show 31 = 2 ^ 5 - 1 from rfl, Nat.and_two_pow_sub_one_eq_mod]; omega
  rw [h1, show (18446744073709551616 - (k % 32).toNat + 32) % 18446744073709551616 = 32 - (k % 32).toNat from by omega, BitVec.rotateLeft_def, Nat.mod_eq_of_lt (show (k % 32).toNat < 32 by omega)]
theorem rot_back (a : BitVec 32) (n : Nat) : a.rotateLeft (-((n : Int) % 32) % 32).toNat = a.rotateRight n := by
  rw [BitVec.rotateLeft_def, BitVec.rotateRight_def]
  by_cases h : n % 32 = 0
  · rw [show (-((n : Int) % 32) % 32).toNat = 0 from by omega, h]
    have z1 : a >>> (32 - 0 % 32) = 0#32 := BitVec.ushiftRight_eq_zero (by omega)
    have z2 : a <<< (32 - 0) = 0#32 := BitVec.shiftLeft_eq_zero (by omega)
    rw [z1, z2]
    simp
  · rw [show (-((n : Int) % 32) % 32).toNat = 32 - n % 32 from by omega, Nat.mod_eq_of_lt (show 32 - n % 32 < 32 by omega), show 32 - (32 - n % 32) = n % 32 from by omega, BitVec.or_comm]
theorem wShift_3 (a by_ : BitVec 32) (c : Bool) (h : ¬ by_ = 0#32) : word_Shift.spec [.int .i64 3, W32 a, W32 by_, .bool c] = some (.tup [W32 (shN 3 a by_.toNat).w, .bool (shN 3 a by_.toNat).c]) := by
  have e1 := rot_back a by_.toNat
  have e2 : a.rotateRight (by_.toNat % 32) = a.rotateRight by_.toNat := by rw [BitVec.rotateRight_mod_eq_rotateRight]
  simp -implicitDefEqProofs +contextual (disch := omega) [word_Shift.spec, word_Shift, h, shN, lsb1, rot_eq, e1, e2, top_msb, -BitVec.msb_rotateRight]
theorem wShift_eq (k : Nat) (hk : k ≤ 3) (a by_ : BitVec 32) (c : Bool) : word_Shift.spec [.int .i64 (k : Nat), W32 a, W32 by_, .bool c] = some (.tup [W32 (shiftM k a by_ c).w, .bool (shiftM k a by_ c).c]) := by
  unfold shiftM
  by_cases h : by_ = 0#32
  · rw [if_pos h]
    subst h
    simp -implicitDefEqProofs +contextual (disch := omega) [word_Shift.spec, word_Shift]
  · rw [if_neg h]
    match k, hk with
    | 0, _ => exact wShift_0 a by_ c h
    | 1, _ => exact wShift_1 a by_ c h
    | 2, _ => exact wShift_2 a by_ c h
    | 3, _ => exact wShift_3 a by_ c h
end Go.Abs
end
section
set_option linter.unusedSimpArgs false
set_option linter.unusedVariables false
namespace Go.Abs
def bls (l : List Bool) : List (List AV) := l.map fun b => [.bool b]
def atb (l : List Bool) (i : Nat) : Bool := l.getD i false
theorem atb_get (l : List Bool) (i : Nat) (h : i < l.length) : l[i]? = some (atb l i) := by
  unfold atb; rw [List.getD_eq_getElem?_getD, List.getElem?_eq_getElem h]; rfl
@[simp] theorem bls_length (l : List Bool) : (bls l).length = l.length := by simp [bls]
@[simp] theorem bls_get (l : List Bool) (n : Nat) : (bls l)[n]? = if n < l.length then some [.bool (atb l n)] else none := by
  split
  · rename_i h; simp [bls, atb_get l n h]
  · rename_i h; simp [bls]; omega
theorem bls_snoc (l : List Bool) (x : Bool) : bls l ++ [[.bool x]] = bls (l ++ [x]) := by simp [bls]
def tell (n : Nat) (f : Nat → Bool) : List Bool := (List.range n).map f
@[simp] theorem tell_length (n : Nat) (f : Nat → Bool) : (tell n f).length = n := by simp [tell]
theorem tell_at (n : Nat) (f : Nat → Bool) (i : Nat) (h : i < n) : atb (tell n f) i = f i := by
  have := atb_get (tell n f) i (by simpa using h)
  simp [tell, h] at this; exact this.symm
theorem tell_succ (n : Nat) (f : Nat → Bool) : tell (n + 1) f = tell n f ++ [f n] := by simp [tell, List.range_succ]
def bitsL (a : BitVec 32) : List Bool := tell 32 a.getLsbD
theorem shr_half (a : BitVec 32) (i : Nat) : a >>> i / 2#32 = a >>> (i + 1) := by
  apply BitVec.eq_of_toNat_eq
  rw [BitVec.toNat_udiv, BitVec.toNat_ushiftRight, BitVec.toNat_ushiftRight, Nat.shiftRight_succ]; rfl
theorem shr_odd (a : BitVec 32) (i : Nat) : ((a >>> i % 2#32) == 1#32) = a.getLsbD i := by
  rw [Bool.eq_iff_iff, beq_iff_eq]
  have h : (a >>> i % 2#32).toNat = a.toNat / 2 ^ i % 2 := by rw [BitVec.toNat_umod, BitVec.toNat_ushiftRight, Nat.shiftRight_eq_div_pow]; rfl
  rw [← BitVec.testBit_toNat, Nat.testBit_eq_decide_div_mod_eq, decide_eq_true_eq, ← h]
  constructor
  · intro q; rw [q]; rfl
  · intro q; exact BitVec.eq_of_toNat_eq q
def bBlk (l : List Bool) : Blk := ⟨T.ty_bool, 1, true, bls l⟩
theorem bits_step (a : BitVec 32) (i : Nat) (hi : i < 32) (H : AHeap) (b : Nat) (hb : H.get b = some (bBlk (tell i a.getLsbD))) (hw : H.WF) : ∃ H' b',
    ref01_Bits.l0 (AFr.al [(0, W32 (a >>> i)), (3, .sl b 1 0 i), (4, .int .i64 i)]) H = some (.normal, AFr.al [(0, W32 (a >>> (i + 1))), (3, .sl b' 1 0 (i + 1)), (4, .int .i64 (i + 1 : Nat))], H') ∧ H'.get b' = some (bBlk (tell (i + 1) a.getLsbD)) ∧ H'.WF := by
  have hlt := hw _ _ hb
  have e1 := shr_odd a i; have e2 := shr_half a i
  refine ⟨((H.push (bBlk [a.getLsbD i])).set b none).push (bBlk (tell (i + 1) a.getLsbD)), H.next + 1, ?_, by simp, AHeap.WF.push (AHeap.WF.set (AHeap.WF.push hw) (by simp; omega))⟩
  simp only [bBlk] at hb ⊢
  simp -implicitDefEqProofs +contextual (disch := omega) [ref01_Bits.l0, hb, e1, e2, tell_succ, ← bls_snoc]
  simp [bls]
theorem Bits_eq (a : BitVec 32) : ref01_Bits.spec [W32 a] = some (.rsl 1 (bls (bitsL a))) := by
  obtain ⟨e, fr', X', hgo, rfl, b, rfl, hq⟩ := aloop_upto (f := ref01_Bits.l0) (fun i fr X => ∃ b, fr = AFr.al [(0, W32 (a >>> i)), (3, .sl b 1 0 i), (4, .int .i64 i)] ∧ X.get b = some (bBlk (tell i a.getLsbD)) ∧ X.WF) 32
    (fun e fr X => e = .exit 0 ∧ ∃ b, fr = AFr.al [(0, W32 (a >>> 32)), (3, .sl b 1 0 32), (4, .int .i64 32), (7, .bool false)] ∧ X.get b = some (bBlk (bitsL a)))
    (fun k hk fr X hR => by
      obtain ⟨b, rfl, h1, h2⟩ := hR
      obtain ⟨H', b', q1, q2, q3⟩ := bits_step a k hk X b h1 h2
      exact ⟨_, _, q1, b', rfl, q2, q3⟩)
    (fun fr X hR => by
      obtain ⟨b, rfl, h1, h2⟩ := hR
      exact ⟨.exit 0, AFr.al [(0, W32 (a >>> 32)), (3, .sl b 1 0 32), (4, .int .i64 32), (7, .bool false)], X, by simp -implicitDefEqProofs +contextual (disch := omega) [ref01_Bits.l0], by simp, rfl, b, rfl, h1⟩)
    (fr := AFr.al [(0, W32 (a >>> 0)), (3, .sl 0 1 0 0), (4, .int .i64 (0 : Nat))]) (H := AHeap.empty.push (bBlk [])) ⟨0, rfl, by simp [tell], AHeap.WF.push AHeap.WF.empty⟩
  simp only [bBlk] at hgo hq
  rw [show ((0 : Nat) : Int) = 0 from rfl, show a >>> 0 = a from BitVec.ushiftRight_zero a] at hgo
  rw [show bls [] = ([] : List (List AV)) from rfl] at hgo
  have hl32 : (bitsL a).length = 32 := by simp [bitsL]
  have ht : (bls (bitsL a)).take 32 = bls (bitsL a) := List.take_of_length_le (by rw [bls_length, hl32]; exact Nat.le_refl _)
  simp -implicitDefEqProofs +contextual (disch := omega) [ref01_Bits.spec, ref01_Bits, hgo, hq, hl32, ht]
theorem word_step (a : BitVec 32) (i : Nat) (hi : i < 32) (H : AHeap) :
    ref01_Word.l0 (AFr.al [(0, .rsl 1 (bls (bitsL a))), (3, W32 (a >>> (i + 1))), (4, .int .i64 i)]) H = some (.normal, AFr.al [(0, .rsl 1 (bls (bitsL a))), (3, W32 (a >>> i)), (4, .int .i64 ((i : Int) - 1))], H) := by
  have hl : (bitsL a).length = 32 := by simp [bitsL]
  have ha : atb (bitsL a) i = a.getLsbD i := tell_at 32 _ i hi
  have hs : ∀ b : Bool, a.getLsbD i = b → a >>> i = a >>> (i + 1) * 2#32 + cw b := by
    intro b hb
    apply BitVec.eq_of_toNat_eq
    have h := a.isLt
    have h2 : (a >>> i).toNat = a.toNat / 2 ^ i := by rw [BitVec.toNat_ushiftRight, Nat.shiftRight_eq_div_pow]
    have h3 : (a >>> (i + 1)).toNat = a.toNat / 2 ^ i / 2 := by rw [BitVec.toNat_ushiftRight, Nat.shiftRight_eq_div_pow, Nat.pow_succ, Nat.div_div_eq_div_mul]
    have h4 : a.toNat / 2 ^ i < 4294967296 := Nat.lt_of_le_of_lt (Nat.div_le_self _ _) h
    have h5 : (cw b).toNat = a.toNat / 2 ^ i % 2 := by
      rw [← hb, ← BitVec.testBit_toNat, Nat.testBit_eq_decide_div_mod_eq]
      by_cases q : a.toNat / 2 ^ i % 2 = 1
      · simp [q, cw]
      · have : a.toNat / 2 ^ i % 2 = 0 := by omega
        simp [this, cw]
    rw [BitVec.toNat_add, BitVec.toNat_mul, h2, h3, h5]
    simp only [BitVec.toNat_ofNat]
    omega
  cases hb : a.getLsbD i with
  | true =>
    rw [hb] at ha
    rw [hs true hb]
    simp -implicitDefEqProofs +contextual (disch := omega) [ref01_Word.l0, hl, ha, cw]
  | false =>
    rw [hb] at ha
    rw [hs false hb]
    simp -implicitDefEqProofs +contextual (disch := omega) [ref01_Word.l0, hl, ha, cw]
theorem word_loop (a : BitVec 32) (H : AHeap) : ∀ i : Nat, i ≤ 32 → aloop ref01_Word.l0 (AFr.al [(0, .rsl 1 (bls (bitsL a))), (3, W32 (a >>> i)), (4, .int .i64 ((i : Int) - 1))]) H =
    some (.exit 0, AFr.al [(0, .rsl 1 (bls (bitsL a))), (3, W32 a), (4, .int .i64 (-1)), (9, .bool false)], H)
  | 0, _ => by
    rw [show a >>> 0 = a from BitVec.ushiftRight_zero a]
    refine aloop_exit (by simp) ?_
    simp -implicitDefEqProofs +contextual (disch := omega) [ref01_Word.l0]
  | i + 1, h => by
    have e1 := word_step a i (by omega) H
    rw [Int.natCast_succ, show (i : Int) + 1 - 1 = i from by omega, aloop_step e1]
    exact word_loop a H i (by omega)
theorem Word_eq' (a : BitVec 32) : ref01_Word.spec [.rsl 1 (bls (bitsL a))] = some (W32 a) := by
  have h := word_loop a AHeap.empty 32 (by omega)
  have hl : (bitsL a).length = 32 := by simp [bitsL]
  rw [show a >>> 32 = 0#32 from BitVec.ushiftRight_eq_zero (by omega), show ((32 : Nat) : Int) - 1 = 31 from rfl] at h
  simp -implicitDefEqProofs +contextual (disch := omega) [ref01_Word.spec, ref01_Word, hl, h]
def sumL (a b : BitVec 32) (c : Bool) : BitVec 32 := a + b + BitVec.setWidth 32 (BitVec.ofBool c)
theorem sumL_eq (a b : BitVec 32) (c : Bool) : sumL a b c = (addM a b c).w := by cases c <;> rfl
theorem add_step (a b : BitVec 32) (c : Bool) (i : Nat) (hi : i < 32) (H : AHeap) (o : Nat) (ho : H.get o = some (bBlk (tell i (sumL a b c).getLsbD))) (hw : H.WF) : ∃ H' o',
    ref01_Add.l0 ref01_Bits.spec ref01_Word.spec (AFr.al [(2, .bool (BitVec.carry i a b c)), (9, .rsl 1 (bls (bitsL a))), (10, .rsl 1 (bls (bitsL b))), (11, .sl o 1 0 i), (12, .int .i64 i)]) H =
      some (.normal, AFr.al [(2, .bool (BitVec.carry (i + 1) a b c)), (9, .rsl 1 (bls (bitsL a))), (10, .rsl 1 (bls (bitsL b))), (11, .sl o' 1 0 (i + 1)), (12, .int .i64 (i + 1 : Nat))], H') ∧
    H'.get o' = some (bBlk (tell (i + 1) (sumL a b c).getLsbD)) ∧ H'.WF := by
  have hlt := hw _ _ ho
  have la : (bitsL a).length = 32 := by simp [bitsL]
  have lb : (bitsL b).length = 32 := by simp [bitsL]
  have ha : atb (bitsL a) i = a.getLsbD i := tell_at 32 _ i hi
  have hb : atb (bitsL b) i = b.getLsbD i := tell_at 32 _ i hi
  have hs : (sumL a b c).getLsbD i = (a.getLsbD i ^^ (b.getLsbD i ^^ BitVec.carry i a b c)) := BitVec.getLsbD_add_add_bool hi a b c
  have hc : BitVec.carry (i + 1) a b c = Bool.atLeastTwo (a.getLsbD i) (b.getLsbD i) (BitVec.carry i a b c) := BitVec.carry_succ i a b c
  refine ⟨((H.push (bBlk [(sumL a b c).getLsbD i])).set o none).push (bBlk (tell (i + 1) (sumL a b c).getLsbD)), H.next + 1, ?_, by simp, AHeap.WF.push (AHeap.WF.set (AHeap.WF.push hw) (by simp; omega))⟩
  rw [hc, tell_succ]
  generalize (sumL a b c).getLsbD i = s at hs ⊢
  generalize BitVec.carry i a b c = x at hs ⊢
  generalize a.getLsbD i = y at ha hs ⊢
  generalize b.getLsbD i = z at hb hs ⊢
  simp only [bBlk] at ho ⊢
  subst hs
  cases x <;> cases y <;> cases z
  all_goals
    simp -implicitDefEqProofs +contextual (disch := omega) [ref01_Add.l0, ho, la, lb, ha, hb, ← bls_snoc, Bool.atLeastTwo]
    simp [bls]
theorem rAdd_eq (a b : BitVec 32) (c : Bool) : ref01_Add.spec [W32 a, W32 b, .bool c] = some (.tup [W32 (addM a b c).w, .bool (addM a b c).c, .bool (addM a b c).v]) := by
  have la : (bitsL a).length = 32 := by simp [bitsL]
  have lb : (bitsL b).length = 32 := by simp [bitsL]
  have ls : (bitsL (addM a b c).w).length = 32 := by simp [bitsL]
  have ha : atb (bitsL a) 31 = a.msb := by rw [bitsL, tell_at 32 _ 31 (by omega), BitVec.msb_eq_getLsbD_last]
  have hb : atb (bitsL b) 31 = b.msb := by rw [bitsL, tell_at 32 _ 31 (by omega), BitVec.msb_eq_getLsbD_last]
  have hs : atb (bitsL (addM a b c).w) 31 = (addM a b c).w.msb := by rw [bitsL, tell_at 32 _ 31 (by omega), BitVec.msb_eq_getLsbD_last]
  have b1 := Bits_eq a; have b2 := Bits_eq b; have b3 := Word_eq' (addM a b c).w
  obtain ⟨e, fr', X', hgo, rfl, o, rfl, hq⟩ := aloop_upto (f := ref01_Add.l0 ref01_Bits.spec ref01_Word.spec) (fun i fr X => ∃ o, fr = AFr.al [(2, .bool (BitVec.carry i a b c)), (9, .rsl 1 (bls (bitsL a))), (10, .rsl 1 (bls (bitsL b))), (11, .sl o 1 0 i), (12, .int .i64 i)] ∧ X.get o = some (bBlk (tell i (sumL a b c).getLsbD)) ∧ X.WF) 32
    (fun e fr X => e = .exit 0 ∧ ∃ o, fr = AFr.al [(2, .bool (BitVec.carry 32 a b c)), (9, .rsl 1 (bls (bitsL a))), (10, .rsl 1 (bls (bitsL b))), (11, .sl o 1 0 32), (12, .int .i64 32), (20, .bool false)] ∧ X.get o = some (bBlk (bitsL (addM a b c).w)))
    (fun k hk fr X hR => by
      obtain ⟨o, rfl, h1, h2⟩ := hR
      obtain ⟨H', o', q1, q2, q3⟩ := add_step a b c k hk X o h1 h2
      exact ⟨_, _, q1, o', rfl, q2, q3⟩)
    (fun fr X hR => by
      obtain ⟨o, rfl, h1, h2⟩ := hR
      refine ⟨.exit 0, AFr.al [(2, .bool (BitVec.carry 32 a b c)), (9, .rsl 1 (bls (bitsL a))), (10, .rsl 1 (bls (bitsL b))), (11, .sl o 1 0 32), (12, .int .i64 32), (20, .bool false)], X, ?_, by simp, rfl, o, rfl, by rw [h1, sumL_eq]; rfl⟩
      simp -implicitDefEqProofs +contextual (disch := omega) [ref01_Add.l0])
    (fr := AFr.al [(2, .bool (BitVec.carry 0 a b c)), (9, .rsl 1 (bls (bitsL a))), (10, .rsl 1 (bls (bitsL b))), (11, .sl 0 1 0 0), (12, .int .i64 (0 : Nat))]) (H := AHeap.empty.push (bBlk [])) ⟨0, rfl, by simp [tell], AHeap.WF.push AHeap.WF.empty⟩
  simp only [bBlk] at hgo hq
  rw [show ((0 : Nat) : Int) = 0 from rfl, BitVec.carry_zero] at hgo
  rw [show bls [] = ([] : List (List AV)) from rfl] at hgo
  have hc : BitVec.carry 32 a b c = (addM a b c).c := by
    have h1 := a.isLt; have h2 := b.isLt
    simp only [BitVec.carry, addM]
    rw [Nat.mod_eq_of_lt h1, Nat.mod_eq_of_lt h2]
    cases c <;> rfl
  have hv : (addM a b c).v = ((a.msb == b.msb) && ((addM a b c).w.msb != a.msb)) := by
    show (_ &&& 2147483648#32 != 0#32) = _
    rw [top_msb]
    simp only [BitVec.msb_and, BitVec.msb_xor]
    show ((a.msb ^^ (addM a b c).w.msb) && (b.msb ^^ (addM a b c).w.msb)) = _
    cases a.msb <;> cases b.msb <;> cases (addM a b c).w.msb <;> rfl
  rw [hc] at hgo
  have ht : (bls (bitsL (addM a b c).w)).take 32 = bls (bitsL (addM a b c).w) := List.take_of_length_le (by simp [bitsL])
  rw [hv]
  simp -implicitDefEqProofs +contextual (disch := omega) [ref01_Add.spec, ref01_Add, hgo, hq, b1, b2, b3, la, lb, ls, ha, hb, hs, ht]
  cases a.msb <;> cases b.msb <;> cases (addM a b c).w.msb <;> rfl
end Go.Abs
end
section
set_option linter.unusedSimpArgs false
set_option linter.unusedVariables false
end
section
set_option linter.unusedSimpArgs false
set_option linter.unusedVariables false
end

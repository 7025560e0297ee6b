/-
  Words: what the program's functions do.
-/
import Derived.Test.YtncablokgkejjaaLoF
set_option linter.unusedSimpArgs false
set_option linter.unusedVariables false
namespace Go.Abs
def cw (c : Bool) : BitVec 32 := if c then 1#32 else 0#32
structure Add3 where
  w : BitVec 32
  c : Bool
  v : Bool
def addM (a b : BitVec 32) (c : Bool) : Add3 :=
  ⟨a + b + cw c, decide (4294967296 ≤ a.toNat + b.toNat + (cw c).toNat), (a ^^^ (a + b + cw c)) &&& (b ^^^ (a + b + cw c)) &&& 2147483648#32 != 0#32⟩
theorem add32_eq (a b c : BitVec 32) (hc : c.toNat ≤ 1) : math_bits_Add32.spec [W32 a, W32 b, W32 c] = some (.tup [W32 (a + b + c), W32 (if 4294967296 ≤ a.toNat + b.toNat + c.toNat then 1#32 else 0#32)]) := by
  simp -implicitDefEqProofs +contextual (disch := omega) [math_bits_Add32.spec, math_bits_Add32]
  have ha := a.isLt; have hb := b.isLt
  constructor
  · apply BitVec.eq_of_toNat_eq
    simp [BitVec.toNat_add]
  · apply BitVec.eq_of_toNat_eq
    simp [BitVec.toNat_add, Nat.shiftRight_eq_div_pow]
    split <;> simp <;> omega
theorem ite_one (p : Prop) [Decidable p] : ((if p then 1#32 else 0#32) == 1#32) = decide p := by
  by_cases h : p <;> simp [h]
theorem wAdd_eq (a b : BitVec 32) (c : Bool) : word_Add.spec [W32 a, W32 b, .bool c] = some (.tup [W32 (addM a b c).w, .bool (addM a b c).c, .bool (addM a b c).v]) := by
  cases c
  · have := add32_eq a b 0#32 (by decide)
    simp -implicitDefEqProofs +contextual (disch := omega) [word_Add.spec, word_Add, this, addM, cw, ite_one]
  · have := add32_eq a b 1#32 (by decide)
    simp -implicitDefEqProofs +contextual (disch := omega) [word_Add.spec, word_Add, this, addM, cw, ite_one]
theorem min_W32 (a b : BitVec 32) : amin (W32 a) (W32 b) = some (W32 (if a.toNat ≤ b.toNat then a else b)) := by
  show some (AV.int .u32 (if (b.toNat : Int) < a.toNat then (b.toNat : Int) else a.toNat)) = _
  by_cases h : a.toNat ≤ b.toNat
  · rw [if_neg (by omega), if_pos h]; rfl
  · rw [if_pos (by omega), if_neg h]; rfl
theorem lsb1 (x : BitVec 32) : ((x &&& 1#32) == 1#32) = x.getLsbD 0 := by
  rw [Bool.eq_iff_iff, beq_iff_eq]
  constructor
  · intro h
    have := congrArg (fun y : BitVec 32 => y.getLsbD 0) h
    simpa using this
  · intro h
    apply BitVec.eq_of_getLsbD_eq
    intro i hi
    by_cases e : i = 0
    · subst e; simp [h]
    · simp [e]
structure Sh2 where
  w : BitVec 32
  c : Bool
def shN (kind : Nat) (a : BitVec 32) (n : Nat) : Sh2 :=
  match kind with
  | 0 => ⟨a <<< n, decide (n ≤ 32) && a.getLsbD (32 - n)⟩
  | 1 => ⟨a >>> n, a.getLsbD (n - 1)⟩
  | 2 => ⟨a.sshiftRight (min n 32), a.getLsbD (min n 32 - 1)⟩
  | _ => ⟨a.rotateRight (n % 32), (a.rotateRight (n % 32)).msb⟩
def shiftM (kind : Nat) (a by_ : BitVec 32) (c : Bool) : Sh2 := if by_ = 0#32 then ⟨a, c⟩ else shN kind a by_.toNat
theorem wShift_0 (a by_ : BitVec 32) (c : Bool) (h : ¬ by_ = 0#32) : word_Shift.spec [.int .i64 0, W32 a, W32 by_, .bool c] = some (.tup [W32 (shN 0 a by_.toNat).w, .bool (shN 0 a by_.toNat).c]) := by
  simp -implicitDefEqProofs +contextual (disch := omega) [word_Shift.spec, word_Shift, h, shN, lsb1]
  have hb := by_.isLt
  by_cases q : by_.toNat ≤ 32
  · have q2 : by_ ≤ 32#32 := by rw [BitVec.le_def]; simpa using q
    rw [show (4294967296 - by_.toNat + 32) % 4294967296 = 32 - by_.toNat from by omega]
    simp [q, q2]
  · have q2 : ¬ by_ ≤ 32#32 := by rw [BitVec.le_def]; simpa using q
    simp [q, q2]
theorem wShift_1 (a by_ : BitVec 32) (c : Bool) (h : ¬ by_ = 0#32) : word_Shift.spec [.int .i64 1, W32 a, W32 by_, .bool c] = some (.tup [W32 (shN 1 a by_.toNat).w, .bool (shN 1 a by_.toNat).c]) := by
  simp -implicitDefEqProofs +contextual (disch := omega) [word_Shift.spec, word_Shift, h, shN, lsb1]
  have hb := by_.isLt
  have h0 : 0 < by_.toNat := Nat.pos_of_ne_zero fun e => h (BitVec.eq_of_toNat_eq (by simpa using e))
  rw [show (4294967295 + by_.toNat) % 4294967296 = by_.toNat - 1 from by omega]
  by_cases q : by_.toNat ≤ 32
  · have q2 : by_ ≤ 32#32 := by rw [BitVec.le_def]; simpa using q
    simp [q2]
  · rw [BitVec.getLsbD_of_ge _ _ (by omega)]; simp
theorem conv_i32 (a : BitVec 32) : aconvR (some .i32) (W32 a) = some (.int .i32 a.toInt) := by
  show some (AV.int .i32 (IntKind.i32.wrap (a.toNat : Int))) = _
  congr 2
  have := a.isLt
  by_cases h : 2 * a.toNat < 2 ^ 32
  · rw [BitVec.toInt_eq_toNat_cond, if_pos h]; simp [IntKind.wrap, IntKind.bits, IntKind.signed]; omega
  · rw [BitVec.toInt_eq_toNat_cond, if_neg h]; simp [IntKind.wrap, IntKind.bits, IntKind.signed]; omega
theorem shr_i32 (q : QK) (x : Int) (y : BitVec 32) : abinR q .shr (.int .i32 x) (W32 y) = some (.int .i32 (x / 2 ^ (min y.toNat 32))) := by
  rw [show W32 y = .int .u32 y.toNat from rfl, bin_shr _ _ _ _ _ (by omega)]
  simp only [Int.toNat_natCast, bits_i32]
  rw [Int.fdiv_eq_ediv_of_nonneg _ (by exact Int.le_of_lt (Int.pow_pos (by decide)))]
theorem sshr_ofInt (a : BitVec 32) (n : Nat) : BitVec.ofInt 32 (a.toInt / 2 ^ n) = a.sshiftRight n := by
  unfold BitVec.sshiftRight
  rw [Int.shiftRight_eq_div_pow]
  simp
theorem top_msb (x : BitVec 32) : (x &&& 2147483648#32 != 0#32) = x.msb := by
  have h : x &&& 2147483648#32 = if x.msb then 2147483648#32 else 0#32 := by
    apply BitVec.eq_of_getLsbD_eq
    intro i hi
    have hb : (2147483648#32).getLsbD i = decide (i = 31) := by
      have : ∀ i : Fin 32, (2147483648#32).getLsbD i.val = decide (i.val = 31) := by decide
      exact this ⟨i, hi⟩
    rw [BitVec.getLsbD_and, hb]
    by_cases e : i = 31
    · subst e
      rw [show x.getLsbD 31 = x.msb from by rw [BitVec.msb_eq_getLsbD_last]]
      cases x.msb <;> decide
    · simp only [e, decide_false, Bool.and_false]
      cases x.msb
      · simp
      · simp [hb, e]
  rw [h]; cases x.msb <;> decide
theorem sshr_lsb (a : BitVec 32) (n : Nat) (h : n < 32) : (a.sshiftRight n).getLsbD 0 = a.getLsbD n := by
  rw [BitVec.getLsbD_sshiftRight]; simp [h]
theorem wShift_2 (a by_ : BitVec 32) (c : Bool) (h : ¬ by_ = 0#32) : word_Shift.spec [.int .i64 2, W32 a, W32 by_, .bool c] = some (.tup [W32 (shN 2 a by_.toNat).w, .bool (shN 2 a by_.toNat).c]) := by
  have h0 : 0 < by_.toNat := Nat.pos_of_ne_zero fun e => h (BitVec.eq_of_toNat_eq (by simpa using e))
  have hm : min 31 32 = 31 := rfl
  by_cases q : by_.toNat ≤ 32
  · have e1 : (4294967295 + by_.toNat) % 4294967296 = by_.toNat - 1 := by omega
    have e2 : min by_.toNat 32 = by_.toNat := by omega
    have e3 : min (by_.toNat - 1) 32 = by_.toNat - 1 := by omega
    have e4 := sshr_lsb a (by_.toNat - 1) (by omega)
    have e5 : (by_ - 1#32).toNat = by_.toNat - 1 := by rw [BitVec.toNat_sub]; simp; omega
    simp -implicitDefEqProofs +contextual (disch := omega) [word_Shift.spec, word_Shift, h, shN, lsb1, min_W32, q, conv_i32, shr_i32, sshr_ofInt, e1, e2, e3, e4, e5, -BitVec.toNat_sub]
    rw [BitVec.getElem_sshiftRight]
    have z : by_.toNat - 1 < 32 := by omega
    simp [z]
  · have e1 : min by_.toNat 32 = 32 := by omega
    have e4 := sshr_lsb a 31 (by omega)
    simp -implicitDefEqProofs +contextual (disch := omega) [word_Shift.spec, word_Shift, h, shN, lsb1, min_W32, q, conv_i32, shr_i32, sshr_ofInt, e1, e4]
    refine ⟨sshr_ofInt a 32, ?_⟩
    rw [show BitVec.ofInt 32 (a.toInt / 2147483648) = a.sshiftRight 31 from sshr_ofInt a 31, BitVec.getElem_sshiftRight]; simp
theorem rot_eq (a : BitVec 32) (k : Int) : math_bits_RotateLeft32.spec [W32 a, .int .i64 k] = some (W32 (a.rotateLeft (k % 32).toNat)) := by
  simp -implicitDefEqProofs +contextual (disch := omega) [math_bits_RotateLeft32.spec, math_bits_RotateLeft32]
  have h1 : (k % 18446744073709551616).toNat &&& 31 = (k % 32).toNat := by
    rw [show 31 = 2 ^ 5 - 1 from rfl, Nat.and_two_pow_sub_one_eq_mod]; omega
  rw [h1, show (18446744073709551616 - (k % 32).toNat + 32) % 18446744073709551616 = 32 - (k % 32).toNat from by omega, BitVec.rotateLeft_def, Nat.mod_eq_of_lt (show (k % 32).toNat < 32 by omega)]
theorem rot_back (a : BitVec 32) (n : Nat) : a.rotateLeft (-((n : Int) % 32) % 32).toNat = a.rotateRight n := by
  rw [BitVec.rotateLeft_def, BitVec.rotateRight_def]
  by_cases h : n % 32 = 0
  · rw [show (-((n : Int) % 32) % 32).toNat = 0 from by omega, h]
    have z1 : a >>> (32 - 0 % 32) = 0#32 := BitVec.ushiftRight_eq_zero (by omega)
    have z2 : a <<< (32 - 0) = 0#32 := BitVec.shiftLeft_eq_zero (by omega)
    rw [z1, z2]
    simp
  · rw [show (-((n : Int) % 32) % 32).toNat = 32 - n % 32 from by omega, Nat.mod_eq_of_lt (show 32 - n % 32 < 32 by omega), show 32 - (32 - n % 32) = n % 32 from by omega, BitVec.or_comm]
theorem wShift_3 (a by_ : BitVec 32) (c : Bool) (h : ¬ by_ = 0#32) : word_Shift.spec [.int .i64 3, W32 a, W32 by_, .bool c] = some (.tup [W32 (shN 3 a by_.toNat).w, .bool (shN 3 a by_.toNat).c]) := by
  have e1 := rot_back a by_.toNat
  have e2 : a.rotateRight (by_.toNat % 32) = a.rotateRight by_.toNat := by rw [BitVec.rotateRight_mod_eq_rotateRight]
  simp -implicitDefEqProofs +contextual (disch := omega) [word_Shift.spec, word_Shift, h, shN, lsb1, rot_eq, e1, e2, top_msb, -BitVec.msb_rotateRight]
theorem wShift_eq (k : Nat) (hk : k ≤ 3) (a by_ : BitVec 32) (c : Bool) : word_Shift.spec [.int .i64 (k : Nat), W32 a, W32 by_, .bool c] = some (.tup [W32 (shiftM k a by_ c).w, .bool (shiftM k a by_ c).c]) := by
  unfold shiftM
  by_cases h : by_ = 0#32
  · rw [if_pos h]
    subst h
    simp -implicitDefEqProofs +contextual (disch := omega) [word_Shift.spec, word_Shift]
  · rw [if_neg h]
    match k, hk with
    | 0, _ => exact wShift_0 a by_ c h
    | 1, _ => exact wShift_1 a by_ c h
    | 2, _ => exact wShift_2 a by_ c h
    | 3, _ => exact wShift_3 a by_ c h
end Go.Abs

/-
  Words as bit vectors.
-/
import Derived.Test.YtgcfbommjdcgkaaAbs19
set_option linter.unusedSimpArgs false
set_option linter.unusedVariables false
namespace Go.Abs

/-- A number of 8 bits. -/
def W8 (x : BitVec 8) : AV := .int .u8 (x.toNat : Int)
theorem W8_def (x : BitVec 8) : AV.int .u8 (x.toNat : Int) = W8 x := rfl
theorem W8_wrap (z : Int) : AV.int .u8 (IntKind.u8.wrap z) = W8 (BitVec.ofInt 8 z) := by
  have : IntKind.u8.wrap z = ((BitVec.ofInt 8 z).toNat : Int) := by
    rw [BitVec.toNat_ofInt, Int.toNat_of_nonneg (Int.emod_nonneg _ (by decide))]
    simp [IntKind.wrap, IntKind.bits, IntKind.signed]
  rw [this]; rfl
theorem W8_of (n : Int) (h0 : 0 ≤ n) (h1 : n < 256) : AV.int .u8 n = W8 (BitVec.ofInt 8 n) := by
  rw [← W8_wrap, show IntKind.u8.wrap n = n from by simp [IntKind.wrap, IntKind.bits, IntKind.signed]; omega]
@[simp] theorem W8_isCell (x : BitVec 8) : (W8 x).isCell = true := rfl
@[simp] theorem W8_flat (x : BitVec 8) : (W8 x).flat = true := rfl
@[simp] theorem W8_noSlC (x : BitVec 8) : (W8 x).noSlC = true := rfl
@[simp] theorem W8_cells (x : BitVec 8) : (W8 x).cells? = some [W8 x] := rfl
@[simp] theorem W8_inj (x y : BitVec 8) : (W8 x = W8 y) = (x = y) := by
  refine propext ⟨fun h => ?_, fun h => h ▸ rfl⟩
  simp only [W8, AV.int.injEq, true_and] at h
  exact BitVec.eq_of_toNat_eq (by omega)


/-- A number of 16 bits. -/
def W16 (x : BitVec 16) : AV := .int .u16 (x.toNat : Int)
theorem W16_def (x : BitVec 16) : AV.int .u16 (x.toNat : Int) = W16 x := rfl
theorem W16_wrap (z : Int) : AV.int .u16 (IntKind.u16.wrap z) = W16 (BitVec.ofInt 16 z) := by
  have : IntKind.u16.wrap z = ((BitVec.ofInt 16 z).toNat : Int) := by
    rw [BitVec.toNat_ofInt, Int.toNat_of_nonneg (Int.emod_nonneg _ (by decide))]
    simp [IntKind.wrap, IntKind.bits, IntKind.signed]
  rw [this]; rfl
theorem W16_of (n : Int) (h0 : 0 ≤ n) (h1 : n < 65536) : AV.int .u16 n = W16 (BitVec.ofInt 16 n) := by
  rw [← W16_wrap, show IntKind.u16.wrap n = n from by simp [IntKind.wrap, IntKind.bits, IntKind.signed]; omega]
@[simp] theorem W16_isCell (x : BitVec 16) : (W16 x).isCell = true := rfl
@[simp] theorem W16_flat (x : BitVec 16) : (W16 x).flat = true := rfl
@[simp] theorem W16_noSlC (x : BitVec 16) : (W16 x).noSlC = true := rfl
@[simp] theorem W16_cells (x : BitVec 16) : (W16 x).cells? = some [W16 x] := rfl
@[simp] theorem W16_inj (x y : BitVec 16) : (W16 x = W16 y) = (x = y) := by
  refine propext ⟨fun h => ?_, fun h => h ▸ rfl⟩
  simp only [W16, AV.int.injEq, true_and] at h
  exact BitVec.eq_of_toNat_eq (by omega)


/-- A number of 32 bits. -/
def W32 (x : BitVec 32) : AV := .int .u32 (x.toNat : Int)
theorem W32_def (x : BitVec 32) : AV.int .u32 (x.toNat : Int) = W32 x := rfl
theorem W32_wrap (z : Int) : AV.int .u32 (IntKind.u32.wrap z) = W32 (BitVec.ofInt 32 z) := by
  have : IntKind.u32.wrap z = ((BitVec.ofInt 32 z).toNat : Int) := by
    rw [BitVec.toNat_ofInt, Int.toNat_of_nonneg (Int.emod_nonneg _ (by decide))]
    simp [IntKind.wrap, IntKind.bits, IntKind.signed]
  rw [this]; rfl
theorem W32_of (n : Int) (h0 : 0 ≤ n) (h1 : n < 4294967296) : AV.int .u32 n = W32 (BitVec.ofInt 32 n) := by
  rw [← W32_wrap, show IntKind.u32.wrap n = n from by simp [IntKind.wrap, IntKind.bits, IntKind.signed]; omega]
@[simp] theorem W32_isCell (x : BitVec 32) : (W32 x).isCell = true := rfl
@[simp] theorem W32_flat (x : BitVec 32) : (W32 x).flat = true := rfl
@[simp] theorem W32_noSlC (x : BitVec 32) : (W32 x).noSlC = true := rfl
@[simp] theorem W32_cells (x : BitVec 32) : (W32 x).cells? = some [W32 x] := rfl
@[simp] theorem W32_inj (x y : BitVec 32) : (W32 x = W32 y) = (x = y) := by
  refine propext ⟨fun h => ?_, fun h => h ▸ rfl⟩
  simp only [W32, AV.int.injEq, true_and] at h
  exact BitVec.eq_of_toNat_eq (by omega)


/-- A number of 64 bits. -/
def W64 (x : BitVec 64) : AV := .int .u64 (x.toNat : Int)
theorem W64_def (x : BitVec 64) : AV.int .u64 (x.toNat : Int) = W64 x := rfl
theorem W64_wrap (z : Int) : AV.int .u64 (IntKind.u64.wrap z) = W64 (BitVec.ofInt 64 z) := by
  have : IntKind.u64.wrap z = ((BitVec.ofInt 64 z).toNat : Int) := by
    rw [BitVec.toNat_ofInt, Int.toNat_of_nonneg (Int.emod_nonneg _ (by decide))]
    simp [IntKind.wrap, IntKind.bits, IntKind.signed]
  rw [this]; rfl
theorem W64_of (n : Int) (h0 : 0 ≤ n) (h1 : n < 18446744073709551616) : AV.int .u64 n = W64 (BitVec.ofInt 64 n) := by
  rw [← W64_wrap, show IntKind.u64.wrap n = n from by simp [IntKind.wrap, IntKind.bits, IntKind.signed]; omega]
@[simp] theorem W64_isCell (x : BitVec 64) : (W64 x).isCell = true := rfl
@[simp] theorem W64_flat (x : BitVec 64) : (W64 x).flat = true := rfl
@[simp] theorem W64_noSlC (x : BitVec 64) : (W64 x).noSlC = true := rfl
@[simp] theorem W64_cells (x : BitVec 64) : (W64 x).cells? = some [W64 x] := rfl
@[simp] theorem W64_inj (x y : BitVec 64) : (W64 x = W64 y) = (x = y) := by
  refine propext ⟨fun h => ?_, fun h => h ▸ rfl⟩
  simp only [W64, AV.int.injEq, true_and] at h
  exact BitVec.eq_of_toNat_eq (by omega)

@[simp] theorem W8_add (q : QK) (x y : BitVec 8) : abinR q .add (W8 x) (W8 y) = some (W8 (x + y)) := by
  show some (AV.int .u8 (IntKind.u8.wrap _)) = _
  rw [W8_wrap, show BitVec.ofInt 8 _ = x + y from by apply BitVec.eq_of_toNat_eq; simp [BitVec.toNat_ofInt, BitVec.toNat_add, BitVec.toNat_sub, BitVec.toNat_mul]; omega]
@[simp] theorem W8_sub (q : QK) (x y : BitVec 8) : abinR q .sub (W8 x) (W8 y) = some (W8 (x - y)) := by
  show some (AV.int .u8 (IntKind.u8.wrap _)) = _
  rw [W8_wrap, show BitVec.ofInt 8 _ = x - y from by apply BitVec.eq_of_toNat_eq; simp [BitVec.toNat_ofInt, BitVec.toNat_add, BitVec.toNat_sub, BitVec.toNat_mul]; omega]
@[simp] theorem W8_mul (q : QK) (x y : BitVec 8) : abinR q .mul (W8 x) (W8 y) = some (W8 (x * y)) := by
  show some (AV.int .u8 (IntKind.u8.wrap _)) = _
  rw [W8_wrap, show BitVec.ofInt 8 _ = x * y from by apply BitVec.eq_of_toNat_eq; simp [BitVec.toNat_ofInt, BitVec.toNat_add, BitVec.toNat_sub, BitVec.toNat_mul]; rw [← Int.natCast_mul]; omega]
@[simp] theorem W8_and (q : QK) (x y : BitVec 8) : abinR q .and (W8 x) (W8 y) = some (W8 (x &&& y)) := by
  show some (AV.int .u8 (IntKind.u8.wrap ((_ : BitVec 8).toNat : Int))) = _
  rw [W8_wrap]; simp [IntKind.bits]; try rfl
@[simp] theorem W8_or (q : QK) (x y : BitVec 8) : abinR q .or (W8 x) (W8 y) = some (W8 (x ||| y)) := by
  show some (AV.int .u8 (IntKind.u8.wrap ((_ : BitVec 8).toNat : Int))) = _
  rw [W8_wrap]; simp [IntKind.bits]; try rfl
@[simp] theorem W8_xor (q : QK) (x y : BitVec 8) : abinR q .xor (W8 x) (W8 y) = some (W8 (x ^^^ y)) := by
  show some (AV.int .u8 (IntKind.u8.wrap ((_ : BitVec 8).toNat : Int))) = _
  rw [W8_wrap]; simp [IntKind.bits]; try rfl
@[simp] theorem W8_andNot (q : QK) (x y : BitVec 8) : abinR q .andNot (W8 x) (W8 y) = some (W8 (x &&& ~~~ y)) := by
  show some (AV.int .u8 (IntKind.u8.wrap ((_ : BitVec 8).toNat : Int))) = _
  rw [W8_wrap]; simp [IntKind.bits]; try rfl
@[simp] theorem W8_quo (q : QK) (x y : BitVec 8) : abinR q .quo (W8 x) (W8 y) = if y = 0#8 then none else some (W8 (x / y)) := by
  by_cases h : y = 0#8
  · subst h; rfl
  rw [if_neg h]
  have hy : (y.toNat : Int) ≠ 0 := fun e => h (BitVec.eq_of_toNat_eq (by simpa using e))
  show (if (y.toNat : Int) = 0 then none else some (AV.int .u8 (IntKind.u8.wrap ((x.toNat : Int).tdiv y.toNat)))) = _
  rw [if_neg hy, W8_wrap, show ((x.toNat : Int)).tdiv y.toNat = ((x.toNat / y.toNat : Nat) : Int) from rfl, ← BitVec.toNat_udiv, BitVec.ofInt_natCast, BitVec.ofNat_toNat, BitVec.setWidth_eq]
@[simp] theorem W8_rem (q : QK) (x y : BitVec 8) : abinR q .rem (W8 x) (W8 y) = if y = 0#8 then none else some (W8 (x % y)) := by
  by_cases h : y = 0#8
  · subst h; rfl
  rw [if_neg h]
  have hy : (y.toNat : Int) ≠ 0 := fun e => h (BitVec.eq_of_toNat_eq (by simpa using e))
  show (if (y.toNat : Int) = 0 then none else some (AV.int .u8 ((x.toNat : Int).tmod y.toNat))) = _
  rw [if_neg hy, show (x.toNat : Int).tmod y.toNat = ((x.toNat % y.toNat : Nat) : Int) from rfl, ← BitVec.toNat_umod]; rfl
@[simp] theorem W8_eql (q : QK) (x y : BitVec 8) : abinR q .eql (W8 x) (W8 y) = some (.bool (x == y)) := by
  show some (AV.bool ((x.toNat : Int) == y.toNat)) = _
  congr 2; rw [Bool.eq_iff_iff]; simp only [beq_iff_eq]; exact ⟨fun h => BitVec.eq_of_toNat_eq (by omega), fun h => h ▸ rfl⟩
@[simp] theorem W8_neq (q : QK) (x y : BitVec 8) : abinR q .neq (W8 x) (W8 y) = some (.bool (x != y)) := by
  show some (AV.bool ((x.toNat : Int) != y.toNat)) = _
  congr 2; rw [Bool.eq_iff_iff]; simp only [bne_iff_ne, ne_eq]; exact ⟨fun h e => h (e ▸ rfl), fun h e => h (BitVec.eq_of_toNat_eq (by omega))⟩
@[simp] theorem W8_lss (q : QK) (x y : BitVec 8) : abinR q .lss (W8 x) (W8 y) = some (.bool (decide (x < y))) := by
  show some (AV.bool (decide ((x.toNat : Int) < y.toNat))) = _
  simp [BitVec.lt_def]
@[simp] theorem W8_leq (q : QK) (x y : BitVec 8) : abinR q .leq (W8 x) (W8 y) = some (.bool (decide (x ≤ y))) := by
  show some (AV.bool (decide ((x.toNat : Int) ≤ y.toNat))) = _
  simp [BitVec.le_def]
@[simp] theorem W8_gtr (q : QK) (x y : BitVec 8) : abinR q .gtr (W8 x) (W8 y) = some (.bool (decide (y < x))) := by
  show some (AV.bool (decide ((x.toNat : Int) > y.toNat))) = _
  simp [BitVec.lt_def]
@[simp] theorem W8_geq (q : QK) (x y : BitVec 8) : abinR q .geq (W8 x) (W8 y) = some (.bool (decide (y ≤ x))) := by
  show some (AV.bool (decide ((x.toNat : Int) ≥ y.toNat))) = _
  simp [BitVec.le_def]
@[simp] theorem W8_shl (q : QK) (x : BitVec 8) (k' : IntKind) (c : Int) (h : 0 ≤ c) : abinR q .shl (W8 x) (.int k' c) = some (W8 (x <<< c.toNat)) := by
  unfold W8; rw [bin_shl _ _ _ _ _ h, W8_wrap]
  have : BitVec.ofInt 8 ((x.toNat : Int) * 2 ^ min c.toNat (IntKind.bits .u8)) = x <<< c.toNat := by
    apply BitVec.eq_of_toNat_eq
    rw [show ((x.toNat : Int) * 2 ^ min c.toNat (IntKind.bits .u8)) = ((x.toNat * 2 ^ min c.toNat (IntKind.bits .u8) : Nat) : Int) from by simp, BitVec.ofInt_natCast, BitVec.toNat_ofNat, BitVec.toNat_shiftLeft, Nat.shiftLeft_eq]
    by_cases hc : c.toNat ≤ 8
    · rw [show min c.toNat (IntKind.bits .u8) = c.toNat from by simp [IntKind.bits]; omega]
    · rw [show min c.toNat (IntKind.bits .u8) = 8 from by simp [IntKind.bits]; omega, show c.toNat = 8 + (c.toNat - 8) from by omega, Nat.pow_add, ← Nat.mul_assoc, Nat.mul_right_comm, Nat.mul_mod_left, Nat.mul_mod_left]
  rw [this]; rfl
@[simp] theorem W8_shr (q : QK) (x : BitVec 8) (k' : IntKind) (c : Int) (h : 0 ≤ c) : abinR q .shr (W8 x) (.int k' c) = some (W8 (x >>> c.toNat)) := by
  unfold W8; rw [bin_shr _ _ _ _ _ h]
  have : (x.toNat : Int).fdiv (2 ^ min c.toNat (IntKind.bits .u8)) = ((x >>> c.toNat).toNat : Int) := by
    rw [BitVec.toNat_ushiftRight, Nat.shiftRight_eq_div_pow, Int.fdiv_eq_ediv_of_nonneg _ (by simp [Int.pow_nonneg]), show ((x.toNat : Int) / 2 ^ min c.toNat (IntKind.bits .u8)) = ((x.toNat / 2 ^ min c.toNat (IntKind.bits .u8) : Nat) : Int) from by simp]
    by_cases hc : c.toNat ≤ 8
    · rw [show min c.toNat (IntKind.bits .u8) = c.toNat from by simp [IntKind.bits]; omega]
    · have hx := x.isLt
      rw [show min c.toNat (IntKind.bits .u8) = 8 from by simp [IntKind.bits]; omega, Nat.div_eq_of_lt hx, Nat.div_eq_of_lt (Nat.lt_of_lt_of_le hx (Nat.pow_le_pow_right (by decide) (by omega)))]
  rw [this]
@[simp] theorem W8_not (x : BitVec 8) : aun .xor (W8 x) = some (W8 (~~~ x)) := by
  show some (AV.int .u8 (IntKind.u8.wrap ((BitVec.ofInt 8 _ ^^^ BitVec.ofInt 8 _).toNat : Int))) = _
  rw [W8_wrap, show (BitVec.ofInt 8 _ ^^^ BitVec.ofInt 8 _ : BitVec 8) = ~~~ x from by
    rw [show (if IntKind.signed .u8 = true then (-1 : Int) else IntKind.max .u8) = 255 from rfl, show BitVec.ofInt 8 255 = BitVec.allOnes 8 from rfl, BitVec.ofInt_natCast, BitVec.ofNat_toNat, BitVec.setWidth_eq, BitVec.allOnes_xor], BitVec.ofInt_natCast, BitVec.ofNat_toNat, BitVec.setWidth_eq]
@[simp] theorem W8_neg (x : BitVec 8) : aun .neg (W8 x) = some (W8 (- x)) := by
  show some (AV.int .u8 (IntKind.u8.wrap _)) = _
  rw [W8_wrap, show BitVec.ofInt 8 _ = - x from by apply BitVec.eq_of_toNat_eq; simp [BitVec.toNat_ofInt, BitVec.toNat_neg]; omega]
@[simp] theorem W8_ceq (x y : BitVec 8) : ceq .i (W8 x) (W8 y) = some (x == y) := by
  show (if True then some ((x.toNat : Int) == y.toNat) else none) = _
  rw [if_pos trivial]; congr 1; rw [Bool.eq_iff_iff]; simp only [beq_iff_eq]; exact ⟨fun h => BitVec.eq_of_toNat_eq (by omega), fun h => h ▸ rfl⟩
@[simp] theorem W8_ofInt (k' : IntKind) (z : Int) : aconvR (some .u8) (.int k' z) = some (W8 (BitVec.ofInt 8 z)) := by
  rw [conv_int, W8_wrap]

@[simp] theorem W8_of_W8 (x : BitVec 8) : aconvR (some .u8) (W8 x) = some (W8 (x.setWidth 8)) := by
  unfold W8; rw [conv_int, W8_wrap, BitVec.ofInt_natCast, BitVec.ofNat_toNat]; try rfl
@[simp] theorem W16_of_W8 (x : BitVec 8) : aconvR (some .u16) (W8 x) = some (W16 (x.setWidth 16)) := by
  unfold W8; rw [conv_int, W16_wrap, BitVec.ofInt_natCast, BitVec.ofNat_toNat]; try rfl
@[simp] theorem W32_of_W8 (x : BitVec 8) : aconvR (some .u32) (W8 x) = some (W32 (x.setWidth 32)) := by
  unfold W8; rw [conv_int, W32_wrap, BitVec.ofInt_natCast, BitVec.ofNat_toNat]; try rfl
@[simp] theorem W64_of_W8 (x : BitVec 8) : aconvR (some .u64) (W8 x) = some (W64 (x.setWidth 64)) := by
  unfold W8; rw [conv_int, W64_wrap, BitVec.ofInt_natCast, BitVec.ofNat_toNat]; try rfl
@[simp] theorem i64_of_W8 (x : BitVec 8) : aconvR (some .i64) (W8 x) = some (.int .i64 (x.toNat : Int)) := by
  unfold W8; rw [conv_int, IntWalk.i64_in _ (by have := x.isLt; omega)]
@[simp] theorem W8_shl_W8 (q : QK) (x : BitVec 8) (y : BitVec 8) : abinR q .shl (W8 x) (W8 y) = some (W8 (x <<< y.toNat)) := by
  rw [show W8 y = .int .u8 y.toNat from rfl, W8_shl _ _ _ _ (by omega)]; rfl
@[simp] theorem W8_shr_W8 (q : QK) (x : BitVec 8) (y : BitVec 8) : abinR q .shr (W8 x) (W8 y) = some (W8 (x >>> y.toNat)) := by
  rw [show W8 y = .int .u8 y.toNat from rfl, W8_shr _ _ _ _ (by omega)]; rfl
@[simp] theorem W8_shl_W16 (q : QK) (x : BitVec 8) (y : BitVec 16) : abinR q .shl (W8 x) (W16 y) = some (W8 (x <<< y.toNat)) := by
  rw [show W16 y = .int .u16 y.toNat from rfl, W8_shl _ _ _ _ (by omega)]; rfl
@[simp] theorem W8_shr_W16 (q : QK) (x : BitVec 8) (y : BitVec 16) : abinR q .shr (W8 x) (W16 y) = some (W8 (x >>> y.toNat)) := by
  rw [show W16 y = .int .u16 y.toNat from rfl, W8_shr _ _ _ _ (by omega)]; rfl
@[simp] theorem W8_shl_W32 (q : QK) (x : BitVec 8) (y : BitVec 32) : abinR q .shl (W8 x) (W32 y) = some (W8 (x <<< y.toNat)) := by
  rw [show W32 y = .int .u32 y.toNat from rfl, W8_shl _ _ _ _ (by omega)]; rfl
@[simp] theorem W8_shr_W32 (q : QK) (x : BitVec 8) (y : BitVec 32) : abinR q .shr (W8 x) (W32 y) = some (W8 (x >>> y.toNat)) := by
  rw [show W32 y = .int .u32 y.toNat from rfl, W8_shr _ _ _ _ (by omega)]; rfl
@[simp] theorem W8_shl_W64 (q : QK) (x : BitVec 8) (y : BitVec 64) : abinR q .shl (W8 x) (W64 y) = some (W8 (x <<< y.toNat)) := by
  rw [show W64 y = .int .u64 y.toNat from rfl, W8_shl _ _ _ _ (by omega)]; rfl
@[simp] theorem W8_shr_W64 (q : QK) (x : BitVec 8) (y : BitVec 64) : abinR q .shr (W8 x) (W64 y) = some (W8 (x >>> y.toNat)) := by
  rw [show W64 y = .int .u64 y.toNat from rfl, W8_shr _ _ _ _ (by omega)]; rfl
@[simp] theorem W16_add (q : QK) (x y : BitVec 16) : abinR q .add (W16 x) (W16 y) = some (W16 (x + y)) := by
  show some (AV.int .u16 (IntKind.u16.wrap _)) = _
  rw [W16_wrap, show BitVec.ofInt 16 _ = x + y from by apply BitVec.eq_of_toNat_eq; simp [BitVec.toNat_ofInt, BitVec.toNat_add, BitVec.toNat_sub, BitVec.toNat_mul]; omega]
@[simp] theorem W16_sub (q : QK) (x y : BitVec 16) : abinR q .sub (W16 x) (W16 y) = some (W16 (x - y)) := by
  show some (AV.int .u16 (IntKind.u16.wrap _)) = _
  rw [W16_wrap, show BitVec.ofInt 16 _ = x - y from by apply BitVec.eq_of_toNat_eq; simp [BitVec.toNat_ofInt, BitVec.toNat_add, BitVec.toNat_sub, BitVec.toNat_mul]; omega]
@[simp] theorem W16_mul (q : QK) (x y : BitVec 16) : abinR q .mul (W16 x) (W16 y) = some (W16 (x * y)) := by
  show some (AV.int .u16 (IntKind.u16.wrap _)) = _
  rw [W16_wrap, show BitVec.ofInt 16 _ = x * y from by apply BitVec.eq_of_toNat_eq; simp [BitVec.toNat_ofInt, BitVec.toNat_add, BitVec.toNat_sub, BitVec.toNat_mul]; rw [← Int.natCast_mul]; omega]
@[simp] theorem W16_and (q : QK) (x y : BitVec 16) : abinR q .and (W16 x) (W16 y) = some (W16 (x &&& y)) := by
  show some (AV.int .u16 (IntKind.u16.wrap ((_ : BitVec 16).toNat : Int))) = _
  rw [W16_wrap]; simp [IntKind.bits]; try rfl
@[simp] theorem W16_or (q : QK) (x y : BitVec 16) : abinR q .or (W16 x) (W16 y) = some (W16 (x ||| y)) := by
  show some (AV.int .u16 (IntKind.u16.wrap ((_ : BitVec 16).toNat : Int))) = _
  rw [W16_wrap]; simp [IntKind.bits]; try rfl
@[simp] theorem W16_xor (q : QK) (x y : BitVec 16) : abinR q .xor (W16 x) (W16 y) = some (W16 (x ^^^ y)) := by
  show some (AV.int .u16 (IntKind.u16.wrap ((_ : BitVec 16).toNat : Int))) = _
  rw [W16_wrap]; simp [IntKind.bits]; try rfl
@[simp] theorem W16_andNot (q : QK) (x y : BitVec 16) : abinR q .andNot (W16 x) (W16 y) = some (W16 (x &&& ~~~ y)) := by
  show some (AV.int .u16 (IntKind.u16.wrap ((_ : BitVec 16).toNat : Int))) = _
  rw [W16_wrap]; simp [IntKind.bits]; try rfl
@[simp] theorem W16_quo (q : QK) (x y : BitVec 16) : abinR q .quo (W16 x) (W16 y) = if y = 0#16 then none else some (W16 (x / y)) := by
  by_cases h : y = 0#16
  · subst h; rfl
  rw [if_neg h]
  have hy : (y.toNat : Int) ≠ 0 := fun e => h (BitVec.eq_of_toNat_eq (by simpa using e))
  show (if (y.toNat : Int) = 0 then none else some (AV.int .u16 (IntKind.u16.wrap ((x.toNat : Int).tdiv y.toNat)))) = _
  rw [if_neg hy, W16_wrap, show ((x.toNat : Int)).tdiv y.toNat = ((x.toNat / y.toNat : Nat) : Int) from rfl, ← BitVec.toNat_udiv, BitVec.ofInt_natCast, BitVec.ofNat_toNat, BitVec.setWidth_eq]
@[simp] theorem W16_rem (q : QK) (x y : BitVec 16) : abinR q .rem (W16 x) (W16 y) = if y = 0#16 then none else some (W16 (x % y)) := by
  by_cases h : y = 0#16
  · subst h; rfl
  rw [if_neg h]
  have hy : (y.toNat : Int) ≠ 0 := fun e => h (BitVec.eq_of_toNat_eq (by simpa using e))
  show (if (y.toNat : Int) = 0 then none else some (AV.int .u16 ((x.toNat : Int).tmod y.toNat))) = _
  rw [if_neg hy, show (x.toNat : Int).tmod y.toNat = ((x.toNat % y.toNat : Nat) : Int) from rfl, ← BitVec.toNat_umod]; rfl
@[simp] theorem W16_eql (q : QK) (x y : BitVec 16) : abinR q .eql (W16 x) (W16 y) = some (.bool (x == y)) := by
  show some (AV.bool ((x.toNat : Int) == y.toNat)) = _
  congr 2; rw [Bool.eq_iff_iff]; simp only [beq_iff_eq]; exact ⟨fun h => BitVec.eq_of_toNat_eq (by omega), fun h => h ▸ rfl⟩
@[simp] theorem W16_neq (q : QK) (x y : BitVec 16) : abinR q .neq (W16 x) (W16 y) = some (.bool (x != y)) := by
  show some (AV.bool ((x.toNat : Int) != y.toNat)) = _
  congr 2; rw [Bool.eq_iff_iff]; simp only [bne_iff_ne, ne_eq]; exact ⟨fun h e => h (e ▸ rfl), fun h e => h (BitVec.eq_of_toNat_eq (by omega))⟩
@[simp] theorem W16_lss (q : QK) (x y : BitVec 16) : abinR q .lss (W16 x) (W16 y) = some (.bool (decide (x < y))) := by
  show some (AV.bool (decide ((x.toNat : Int) < y.toNat))) = _
  simp [BitVec.lt_def]
@[simp] theorem W16_leq (q : QK) (x y : BitVec 16) : abinR q .leq (W16 x) (W16 y) = some (.bool (decide (x ≤ y))) := by
  show some (AV.bool (decide ((x.toNat : Int) ≤ y.toNat))) = _
  simp [BitVec.le_def]
@[simp] theorem W16_gtr (q : QK) (x y : BitVec 16) : abinR q .gtr (W16 x) (W16 y) = some (.bool (decide (y < x))) := by
  show some (AV.bool (decide ((x.toNat : Int) > y.toNat))) = _
  simp [BitVec.lt_def]
@[simp] theorem W16_geq (q : QK) (x y : BitVec 16) : abinR q .geq (W16 x) (W16 y) = some (.bool (decide (y ≤ x))) := by
  show some (AV.bool (decide ((x.toNat : Int) ≥ y.toNat))) = _
  simp [BitVec.le_def]
@[simp] theorem W16_shl (q : QK) (x : BitVec 16) (k' : IntKind) (c : Int) (h : 0 ≤ c) : abinR q .shl (W16 x) (.int k' c) = some (W16 (x <<< c.toNat)) := by
  unfold W16; rw [bin_shl _ _ _ _ _ h, W16_wrap]
  have : BitVec.ofInt 16 ((x.toNat : Int) * 2 ^ min c.toNat (IntKind.bits .u16)) = x <<< c.toNat := by
    apply BitVec.eq_of_toNat_eq
    rw [show ((x.toNat : Int) * 2 ^ min c.toNat (IntKind.bits .u16)) = ((x.toNat * 2 ^ min c.toNat (IntKind.bits .u16) : Nat) : Int) from by simp, BitVec.ofInt_natCast, BitVec.toNat_ofNat, BitVec.toNat_shiftLeft, Nat.shiftLeft_eq]
    by_cases hc : c.toNat ≤ 16
    · rw [show min c.toNat (IntKind.bits .u16) = c.toNat from by simp [IntKind.bits]; omega]
    · rw [show min c.toNat (IntKind.bits .u16) = 16 from by simp [IntKind.bits]; omega, show c.toNat = 16 + (c.toNat - 16) from by omega, Nat.pow_add, ← Nat.mul_assoc, Nat.mul_right_comm, Nat.mul_mod_left, Nat.mul_mod_left]
  rw [this]; rfl
@[simp] theorem W16_shr (q : QK) (x : BitVec 16) (k' : IntKind) (c : Int) (h : 0 ≤ c) : abinR q .shr (W16 x) (.int k' c) = some (W16 (x >>> c.toNat)) := by
  unfold W16; rw [bin_shr _ _ _ _ _ h]
  have : (x.toNat : Int).fdiv (2 ^ min c.toNat (IntKind.bits .u16)) = ((x >>> c.toNat).toNat : Int) := by
    rw [BitVec.toNat_ushiftRight, Nat.shiftRight_eq_div_pow, Int.fdiv_eq_ediv_of_nonneg _ (by simp [Int.pow_nonneg]), show ((x.toNat : Int) / 2 ^ min c.toNat (IntKind.bits .u16)) = ((x.toNat / 2 ^ min c.toNat (IntKind.bits .u16) : Nat) : Int) from by simp]
    by_cases hc : c.toNat ≤ 16
    · rw [show min c.toNat (IntKind.bits .u16) = c.toNat from by simp [IntKind.bits]; omega]
    · have hx := x.isLt
      rw [show min c.toNat (IntKind.bits .u16) = 16 from by simp [IntKind.bits]; omega, Nat.div_eq_of_lt hx, Nat.div_eq_of_lt (Nat.lt_of_lt_of_le hx (Nat.pow_le_pow_right (by decide) (by omega)))]
  rw [this]
@[simp] theorem W16_not (x : BitVec 16) : aun .xor (W16 x) = some (W16 (~~~ x)) := by
  show some (AV.int .u16 (IntKind.u16.wrap ((BitVec.ofInt 16 _ ^^^ BitVec.ofInt 16 _).toNat : Int))) = _
  rw [W16_wrap, show (BitVec.ofInt 16 _ ^^^ BitVec.ofInt 16 _ : BitVec 16) = ~~~ x from by
    rw [show (if IntKind.signed .u16 = true then (-1 : Int) else IntKind.max .u16) = 65535 from rfl, show BitVec.ofInt 16 65535 = BitVec.allOnes 16 from rfl, BitVec.ofInt_natCast, BitVec.ofNat_toNat, BitVec.setWidth_eq, BitVec.allOnes_xor], BitVec.ofInt_natCast, BitVec.ofNat_toNat, BitVec.setWidth_eq]
@[simp] theorem W16_neg (x : BitVec 16) : aun .neg (W16 x) = some (W16 (- x)) := by
  show some (AV.int .u16 (IntKind.u16.wrap _)) = _
  rw [W16_wrap, show BitVec.ofInt 16 _ = - x from by apply BitVec.eq_of_toNat_eq; simp [BitVec.toNat_ofInt, BitVec.toNat_neg]; omega]
@[simp] theorem W16_ceq (x y : BitVec 16) : ceq .i (W16 x) (W16 y) = some (x == y) := by
  show (if True then some ((x.toNat : Int) == y.toNat) else none) = _
  rw [if_pos trivial]; congr 1; rw [Bool.eq_iff_iff]; simp only [beq_iff_eq]; exact ⟨fun h => BitVec.eq_of_toNat_eq (by omega), fun h => h ▸ rfl⟩
@[simp] theorem W16_ofInt (k' : IntKind) (z : Int) : aconvR (some .u16) (.int k' z) = some (W16 (BitVec.ofInt 16 z)) := by
  rw [conv_int, W16_wrap]

@[simp] theorem W8_of_W16 (x : BitVec 16) : aconvR (some .u8) (W16 x) = some (W8 (x.setWidth 8)) := by
  unfold W16; rw [conv_int, W8_wrap, BitVec.ofInt_natCast, BitVec.ofNat_toNat]; try rfl
@[simp] theorem W16_of_W16 (x : BitVec 16) : aconvR (some .u16) (W16 x) = some (W16 (x.setWidth 16)) := by
  unfold W16; rw [conv_int, W16_wrap, BitVec.ofInt_natCast, BitVec.ofNat_toNat]; try rfl
@[simp] theorem W32_of_W16 (x : BitVec 16) : aconvR (some .u32) (W16 x) = some (W32 (x.setWidth 32)) := by
  unfold W16; rw [conv_int, W32_wrap, BitVec.ofInt_natCast, BitVec.ofNat_toNat]; try rfl
@[simp] theorem W64_of_W16 (x : BitVec 16) : aconvR (some .u64) (W16 x) = some (W64 (x.setWidth 64)) := by
  unfold W16; rw [conv_int, W64_wrap, BitVec.ofInt_natCast, BitVec.ofNat_toNat]; try rfl
@[simp] theorem i64_of_W16 (x : BitVec 16) : aconvR (some .i64) (W16 x) = some (.int .i64 (x.toNat : Int)) := by
  unfold W16; rw [conv_int, IntWalk.i64_in _ (by have := x.isLt; omega)]
@[simp] theorem W16_shl_W8 (q : QK) (x : BitVec 16) (y : BitVec 8) : abinR q .shl (W16 x) (W8 y) = some (W16 (x <<< y.toNat)) := by
  rw [show W8 y = .int .u8 y.toNat from rfl, W16_shl _ _ _ _ (by omega)]; rfl
@[simp] theorem W16_shr_W8 (q : QK) (x : BitVec 16) (y : BitVec 8) : abinR q .shr (W16 x) (W8 y) = some (W16 (x >>> y.toNat)) := by
  rw [show W8 y = .int .u8 y.toNat from rfl, W16_shr _ _ _ _ (by omega)]; rfl
@[simp] theorem W16_shl_W16 (q : QK) (x : BitVec 16) (y : BitVec 16) : abinR q .shl (W16 x) (W16 y) = some (W16 (x <<< y.toNat)) := by
  rw [show W16 y = .int .u16 y.toNat from rfl, W16_shl _ _ _ _ (by omega)]; rfl
@[simp] theorem W16_shr_W16 (q : QK) (x : BitVec 16) (y : BitVec 16) : abinR q .shr (W16 x) (W16 y) = some (W16 (x >>> y.toNat)) := by
  rw [show W16 y = .int .u16 y.toNat from rfl, W16_shr _ _ _ _ (by omega)]; rfl
@[simp] theorem W16_shl_W32 (q : QK) (x : BitVec 16) (y : BitVec 32) : abinR q .shl (W16 x) (W32 y) = some (W16 (x <<< y.toNat)) := by
  rw [show W32 y = .int .u32 y.toNat from rfl, W16_shl _ _ _ _ (by omega)]; rfl
@[simp] theorem W16_shr_W32 (q : QK) (x : BitVec 16) (y : BitVec 32) : abinR q .shr (W16 x) (W32 y) = some (W16 (x >>> y.toNat)) := by
  rw [show W32 y = .int .u32 y.toNat from rfl, W16_shr _ _ _ _ (by omega)]; rfl
@[simp] theorem W16_shl_W64 (q : QK) (x : BitVec 16) (y : BitVec 64) : abinR q .shl (W16 x) (W64 y) = some (W16 (x <<< y.toNat)) := by
  rw [show W64 y = .int .u64 y.toNat from rfl, W16_shl _ _ _ _ (by omega)]; rfl
@[simp] theorem W16_shr_W64 (q : QK) (x : BitVec 16) (y : BitVec 64) : abinR q .shr (W16 x) (W64 y) = some (W16 (x >>> y.toNat)) := by
  rw [show W64 y = .int .u64 y.toNat from rfl, W16_shr _ _ _ _ (by omega)]; rfl
@[simp] theorem W32_add (q : QK) (x y : BitVec 32) : abinR q .add (W32 x) (W32 y) = some (W32 (x + y)) := by
  show some (AV.int .u32 (IntKind.u32.wrap _)) = _
  rw [W32_wrap, show BitVec.ofInt 32 _ = x + y from by apply BitVec.eq_of_toNat_eq; simp [BitVec.toNat_ofInt, BitVec.toNat_add, BitVec.toNat_sub, BitVec.toNat_mul]; omega]
@[simp] theorem W32_sub (q : QK) (x y : BitVec 32) : abinR q .sub (W32 x) (W32 y) = some (W32 (x - y)) := by
  show some (AV.int .u32 (IntKind.u32.wrap _)) = _
  rw [W32_wrap, show BitVec.ofInt 32 _ = x - y from by apply BitVec.eq_of_toNat_eq; simp [BitVec.toNat_ofInt, BitVec.toNat_add, BitVec.toNat_sub, BitVec.toNat_mul]; omega]
@[simp] theorem W32_mul (q : QK) (x y : BitVec 32) : abinR q .mul (W32 x) (W32 y) = some (W32 (x * y)) := by
  show some (AV.int .u32 (IntKind.u32.wrap _)) = _
  rw [W32_wrap, show BitVec.ofInt 32 _ = x * y from by apply BitVec.eq_of_toNat_eq; simp [BitVec.toNat_ofInt, BitVec.toNat_add, BitVec.toNat_sub, BitVec.toNat_mul]; rw [← Int.natCast_mul]; omega]
@[simp] theorem W32_and (q : QK) (x y : BitVec 32) : abinR q .and (W32 x) (W32 y) = some (W32 (x &&& y)) := by
  show some (AV.int .u32 (IntKind.u32.wrap ((_ : BitVec 32).toNat : Int))) = _
  rw [W32_wrap]; simp [IntKind.bits]; try rfl
@[simp] theorem W32_or (q : QK) (x y : BitVec 32) : abinR q .or (W32 x) (W32 y) = some (W32 (x ||| y)) := by
  show some (AV.int .u32 (IntKind.u32.wrap ((_ : BitVec 32).toNat : Int))) = _
  rw [W32_wrap]; simp [IntKind.bits]; try rfl
@[simp] theorem W32_xor (q : QK) (x y : BitVec 32) : abinR q .xor (W32 x) (W32 y) = some (W32 (x ^^^ y)) := by
  show some (AV.int .u32 (IntKind.u32.wrap ((_ : BitVec 32).toNat : Int))) = _
  rw [W32_wrap]; simp [IntKind.bits]; try rfl
@[simp] theorem W32_andNot (q : QK) (x y : BitVec 32) : abinR q .andNot (W32 x) (W32 y) = some (W32 (x &&& ~~~ y)) := by
  show some (AV.int .u32 (IntKind.u32.wrap ((_ : BitVec 32).toNat : Int))) = _
  rw [W32_wrap]; simp [IntKind.bits]; try rfl
@[simp] theorem W32_quo (q : QK) (x y : BitVec 32) : abinR q .quo (W32 x) (W32 y) = if y = 0#32 then none else some (W32 (x / y)) := by
  by_cases h : y = 0#32
  · subst h; rfl
  rw [if_neg h]
  have hy : (y.toNat : Int) ≠ 0 := fun e => h (BitVec.eq_of_toNat_eq (by simpa using e))
  show (if (y.toNat : Int) = 0 then none else some (AV.int .u32 (IntKind.u32.wrap ((x.toNat : Int).tdiv y.toNat)))) = _
  rw [if_neg hy, W32_wrap, show ((x.toNat : Int)).tdiv y.toNat = ((x.toNat / y.toNat : Nat) : Int) from rfl, ← BitVec.toNat_udiv, BitVec.ofInt_natCast, BitVec.ofNat_toNat, BitVec.setWidth_eq]
@[simp] theorem W32_rem (q : QK) (x y : BitVec 32) : abinR q .rem (W32 x) (W32 y) = if y = 0#32 then none else some (W32 (x % y)) := by
  by_cases h : y = 0#32
  · subst h; rfl
  rw [if_neg h]
  have hy : (y.toNat : Int) ≠ 0 := fun e => h (BitVec.eq_of_toNat_eq (by simpa using e))
  show (if (y.toNat : Int) = 0 then none else some (AV.int .u32 ((x.toNat : Int).tmod y.toNat))) = _
  rw [if_neg hy, show (x.toNat : Int).tmod y.toNat = ((x.toNat % y.toNat : Nat) : Int) from rfl, ← BitVec.toNat_umod]; rfl
@[simp] theorem W32_eql (q : QK) (x y : BitVec 32) : abinR q .eql (W32 x) (W32 y) = some (.bool (x == y)) := by
  show some (AV.bool ((x.toNat : Int) == y.toNat)) = _
  congr 2; rw [Bool.eq_iff_iff]; simp only [beq_iff_eq]; exact ⟨fun h => BitVec.eq_of_toNat_eq (by omega), fun h => h ▸ rfl⟩
@[simp] theorem W32_neq (q : QK) (x y : BitVec 32) : abinR q .neq (W32 x) (W32 y) = some (.bool (x != y)) := by
  show some (AV.bool ((x.toNat : Int) != y.toNat)) = _
  congr 2; rw [Bool.eq_iff_iff]; simp only [bne_iff_ne, ne_eq]; exact ⟨fun h e => h (e ▸ rfl), fun h e => h (BitVec.eq_of_toNat_eq (by omega))⟩
@[simp] theorem W32_lss (q : QK) (x y : BitVec 32) : abinR q .lss (W32 x) (W32 y) = some (.bool (decide (x < y))) := by
  show some (AV.bool (decide ((x.toNat : Int) < y.toNat))) = _
  simp [BitVec.lt_def]
@[simp] theorem W32_leq (q : QK) (x y : BitVec 32) : abinR q .leq (W32 x) (W32 y) = some (.bool (decide (x ≤ y))) := by
  show some (AV.bool (decide ((x.toNat : Int) ≤ y.toNat))) = _
  simp [BitVec.le_def]
@[simp] theorem W32_gtr (q : QK) (x y : BitVec 32) : abinR q .gtr (W32 x) (W32 y) = some (.bool (decide (y < x))) := by
  show some (AV.bool (decide ((x.toNat : Int) > y.toNat))) = _
  simp [BitVec.lt_def]
@[simp] theorem W32_geq (q : QK) (x y : BitVec 32) : abinR q .geq (W32 x) (W32 y) = some (.bool (decide (y ≤ x))) := by
  show some (AV.bool (decide ((x.toNat : Int) ≥ y.toNat))) = _
  simp [BitVec.le_def]
@[simp] theorem W32_shl (q : QK) (x : BitVec 32) (k' : IntKind) (c : Int) (h : 0 ≤ c) : abinR q .shl (W32 x) (.int k' c) = some (W32 (x <<< c.toNat)) := by
  unfold W32; rw [bin_shl _ _ _ _ _ h, W32_wrap]
  have : BitVec.ofInt 32 ((x.toNat : Int) * 2 ^ min c.toNat (IntKind.bits .u32)) = x <<< c.toNat := by
    apply BitVec.eq_of_toNat_eq
    rw [show ((x.toNat : Int) * 2 ^ min c.toNat (IntKind.bits .u32)) = ((x.toNat * 2 ^ min c.toNat (IntKind.bits .u32) : Nat) : Int) from by simp, BitVec.ofInt_natCast, BitVec.toNat_ofNat, BitVec.toNat_shiftLeft, Nat.shiftLeft_eq]
    by_cases hc : c.toNat ≤ 32
    · rw [show min c.toNat (IntKind.bits .u32) = c.toNat from by simp [IntKind.bits]; omega]
    · rw [show min c.toNat (IntKind.bits .u32) = 32 from by simp [IntKind.bits]; omega, show c.toNat = 32 + (c.toNat - 32) from by omega, Nat.pow_add, ← Nat.mul_assoc, Nat.mul_right_comm, Nat.mul_mod_left, Nat.mul_mod_left]
  rw [this]; rfl
@[simp] theorem W32_shr (q : QK) (x : BitVec 32) (k' : IntKind) (c : Int) (h : 0 ≤ c) : abinR q .shr (W32 x) (.int k' c) = some (W32 (x >>> c.toNat)) := by
  unfold W32; rw [bin_shr _ _ _ _ _ h]
  have : (x.toNat : Int).fdiv (2 ^ min c.toNat (IntKind.bits .u32)) = ((x >>> c.toNat).toNat : Int) := by
    rw [BitVec.toNat_ushiftRight, Nat.shiftRight_eq_div_pow, Int.fdiv_eq_ediv_of_nonneg _ (by simp [Int.pow_nonneg]), show ((x.toNat : Int) / 2 ^ min c.toNat (IntKind.bits .u32)) = ((x.toNat / 2 ^ min c.toNat (IntKind.bits .u32) : Nat) : Int) from by simp]
    by_cases hc : c.toNat ≤ 32
    · rw [show min c.toNat (IntKind.bits .u32) = c.toNat from by simp [IntKind.bits]; omega]
    · have hx := x.isLt
      rw [show min c.toNat (IntKind.bits .u32) = 32 from by simp [IntKind.bits]; omega, Nat.div_eq_of_lt hx, Nat.div_eq_of_lt (Nat.lt_of_lt_of_le hx (Nat.pow_le_pow_right (by decide) (by omega)))]
  rw [this]
@[simp] theorem W32_not (x : BitVec 32) : aun .xor (W32 x) = some (W32 (~~~ x)) := by
  show some (AV.int .u32 (IntKind.u32.wrap ((BitVec.ofInt 32 _ ^^^ BitVec.ofInt 32 _).toNat : Int))) = _
  rw [W32_wrap, show (BitVec.ofInt 32 _ ^^^ BitVec.ofInt 32 _ : BitVec 32) = ~~~ x from by
    rw [show (if IntKind.signed .u32 = true then (-1 : Int) else IntKind.max .u32) = 4294967295 from rfl, show BitVec.ofInt 32 4294967295 = BitVec.allOnes 32 from rfl, BitVec.ofInt_natCast, BitVec.ofNat_toNat, BitVec.setWidth_eq, BitVec.allOnes_xor], BitVec.ofInt_natCast, BitVec.ofNat_toNat, BitVec.setWidth_eq]
@[simp] theorem W32_neg (x : BitVec 32) : aun .neg (W32 x) = some (W32 (- x)) := by
  show some (AV.int .u32 (IntKind.u32.wrap _)) = _
  rw [W32_wrap, show BitVec.ofInt 32 _ = - x from by apply BitVec.eq_of_toNat_eq; simp [BitVec.toNat_ofInt, BitVec.toNat_neg]; omega]
@[simp] theorem W32_ceq (x y : BitVec 32) : ceq .i (W32 x) (W32 y) = some (x == y) := by
  show (if True then some ((x.toNat : Int) == y.toNat) else none) = _
  rw [if_pos trivial]; congr 1; rw [Bool.eq_iff_iff]; simp only [beq_iff_eq]; exact ⟨fun h => BitVec.eq_of_toNat_eq (by omega), fun h => h ▸ rfl⟩
@[simp] theorem W32_ofInt (k' : IntKind) (z : Int) : aconvR (some .u32) (.int k' z) = some (W32 (BitVec.ofInt 32 z)) := by
  rw [conv_int, W32_wrap]

@[simp] theorem W8_of_W32 (x : BitVec 32) : aconvR (some .u8) (W32 x) = some (W8 (x.setWidth 8)) := by
  unfold W32; rw [conv_int, W8_wrap, BitVec.ofInt_natCast, BitVec.ofNat_toNat]; try rfl
@[simp] theorem W16_of_W32 (x : BitVec 32) : aconvR (some .u16) (W32 x) = some (W16 (x.setWidth 16)) := by
  unfold W32; rw [conv_int, W16_wrap, BitVec.ofInt_natCast, BitVec.ofNat_toNat]; try rfl
@[simp] theorem W32_of_W32 (x : BitVec 32) : aconvR (some .u32) (W32 x) = some (W32 (x.setWidth 32)) := by
  unfold W32; rw [conv_int, W32_wrap, BitVec.ofInt_natCast, BitVec.ofNat_toNat]; try rfl
@[simp] theorem W64_of_W32 (x : BitVec 32) : aconvR (some .u64) (W32 x) = some (W64 (x.setWidth 64)) := by
  unfold W32; rw [conv_int, W64_wrap, BitVec.ofInt_natCast, BitVec.ofNat_toNat]; try rfl
@[simp] theorem i64_of_W32 (x : BitVec 32) : aconvR (some .i64) (W32 x) = some (.int .i64 (x.toNat : Int)) := by
  unfold W32; rw [conv_int, IntWalk.i64_in _ (by have := x.isLt; omega)]
@[simp] theorem W32_shl_W8 (q : QK) (x : BitVec 32) (y : BitVec 8) : abinR q .shl (W32 x) (W8 y) = some (W32 (x <<< y.toNat)) := by
  rw [show W8 y = .int .u8 y.toNat from rfl, W32_shl _ _ _ _ (by omega)]; rfl
@[simp] theorem W32_shr_W8 (q : QK) (x : BitVec 32) (y : BitVec 8) : abinR q .shr (W32 x) (W8 y) = some (W32 (x >>> y.toNat)) := by
  rw [show W8 y = .int .u8 y.toNat from rfl, W32_shr _ _ _ _ (by omega)]; rfl
@[simp] theorem W32_shl_W16 (q : QK) (x : BitVec 32) (y : BitVec 16) : abinR q .shl (W32 x) (W16 y) = some (W32 (x <<< y.toNat)) := by
  rw [show W16 y = .int .u16 y.toNat from rfl, W32_shl _ _ _ _ (by omega)]; rfl
@[simp] theorem W32_shr_W16 (q : QK) (x : BitVec 32) (y : BitVec 16) : abinR q .shr (W32 x) (W16 y) = some (W32 (x >>> y.toNat)) := by
  rw [show W16 y = .int .u16 y.toNat from rfl, W32_shr _ _ _ _ (by omega)]; rfl
@[simp] theorem W32_shl_W32 (q : QK) (x : BitVec 32) (y : BitVec 32) : abinR q .shl (W32 x) (W32 y) = some (W32 (x <<< y.toNat)) := by
  rw [show W32 y = .int .u32 y.toNat from rfl, W32_shl _ _ _ _ (by omega)]; rfl
@[simp] theorem W32_shr_W32 (q : QK) (x : BitVec 32) (y : BitVec 32) : abinR q .shr (W32 x) (W32 y) = some (W32 (x >>> y.toNat)) := by
  rw [show W32 y = .int .u32 y.toNat from rfl, W32_shr _ _ _ _ (by omega)]; rfl
@[simp] theorem W32_shl_W64 (q : QK) (x : BitVec 32) (y : BitVec 64) : abinR q .shl (W32 x) (W64 y) = some (W32 (x <<< y.toNat)) := by
  rw [show W64 y = .int .u64 y.toNat from rfl, W32_shl _ _ _ _ (by omega)]; rfl
@[simp] theorem W32_shr_W64 (q : QK) (x : BitVec 32) (y : BitVec 64) : abinR q .shr (W32 x) (W64 y) = some (W32 (x >>> y.toNat)) := by
  rw [show W64 y = .int .u64 y.toNat from rfl, W32_shr _ _ _ _ (by omega)]; rfl
@[simp] theorem W64_add (q : QK) (x y : BitVec 64) : abinR q .add (W64 x) (W64 y) = some (W64 (x + y)) := by
  show some (AV.int .u64 (IntKind.u64.wrap _)) = _
  rw [W64_wrap, show BitVec.ofInt 64 _ = x + y from by apply BitVec.eq_of_toNat_eq; simp [BitVec.toNat_ofInt, BitVec.toNat_add, BitVec.toNat_sub, BitVec.toNat_mul]; omega]
@[simp] theorem W64_sub (q : QK) (x y : BitVec 64) : abinR q .sub (W64 x) (W64 y) = some (W64 (x - y)) := by
  show some (AV.int .u64 (IntKind.u64.wrap _)) = _
  rw [W64_wrap, show BitVec.ofInt 64 _ = x - y from by apply BitVec.eq_of_toNat_eq; simp [BitVec.toNat_ofInt, BitVec.toNat_add, BitVec.toNat_sub, BitVec.toNat_mul]; omega]
@[simp] theorem W64_mul (q : QK) (x y : BitVec 64) : abinR q .mul (W64 x) (W64 y) = some (W64 (x * y)) := by
  show some (AV.int .u64 (IntKind.u64.wrap _)) = _
  rw [W64_wrap, show BitVec.ofInt 64 _ = x * y from by apply BitVec.eq_of_toNat_eq; simp [BitVec.toNat_ofInt, BitVec.toNat_add, BitVec.toNat_sub, BitVec.toNat_mul]; rw [← Int.natCast_mul]; omega]
@[simp] theorem W64_and (q : QK) (x y : BitVec 64) : abinR q .and (W64 x) (W64 y) = some (W64 (x &&& y)) := by
  show some (AV.int .u64 (IntKind.u64.wrap ((_ : BitVec 64).toNat : Int))) = _
  rw [W64_wrap]; simp [IntKind.bits]; try rfl
@[simp] theorem W64_or (q : QK) (x y : BitVec 64) : abinR q .or (W64 x) (W64 y) = some (W64 (x ||| y)) := by
  show some (AV.int .u64 (IntKind.u64.wrap ((_ : BitVec 64).toNat : Int))) = _
  rw [W64_wrap]; simp [IntKind.bits]; try rfl
@[simp] theorem W64_xor (q : QK) (x y : BitVec 64) : abinR q .xor (W64 x) (W64 y) = some (W64 (x ^^^ y)) := by
  show some (AV.int .u64 (IntKind.u64.wrap ((_ : BitVec 64).toNat : Int))) = _
  rw [W64_wrap]; simp [IntKind.bits]; try rfl
@[simp] theorem W64_andNot (q : QK) (x y : BitVec 64) : abinR q .andNot (W64 x) (W64 y) = some (W64 (x &&& ~~~ y)) := by
  show some (AV.int .u64 (IntKind.u64.wrap ((_ : BitVec 64).toNat : Int))) = _
  rw [W64_wrap]; simp [IntKind.bits]; try rfl
@[simp] theorem W64_quo (q : QK) (x y : BitVec 64) : abinR q .quo (W64 x) (W64 y) = if y = 0#64 then none else some (W64 (x / y)) := by
  by_cases h : y = 0#64
  · subst h; rfl
  rw [if_neg h]
  have hy : (y.toNat : Int) ≠ 0 := fun e => h (BitVec.eq_of_toNat_eq (by simpa using e))
  show (if (y.toNat : Int) = 0 then none else some (AV.int .u64 (IntKind.u64.wrap ((x.toNat : Int).tdiv y.toNat)))) = _
  rw [if_neg hy, W64_wrap, show ((x.toNat : Int)).tdiv y.toNat = ((x.toNat / y.toNat : Nat) : Int) from rfl, ← BitVec.toNat_udiv, BitVec.ofInt_natCast, BitVec.ofNat_toNat, BitVec.setWidth_eq]
@[simp] theorem W64_rem (q : QK) (x y : BitVec 64) : abinR q .rem (W64 x) (W64 y) = if y = 0#64 then none else some (W64 (x % y)) := by
  by_cases h : y = 0#64
  · subst h; rfl
  rw [if_neg h]
  have hy : (y.toNat : Int) ≠ 0 := fun e => h (BitVec.eq_of_toNat_eq (by simpa using e))
  show (if (y.toNat : Int) = 0 then none else some (AV.int .u64 ((x.toNat : Int).tmod y.toNat))) = _
  rw [if_neg hy, show (x.toNat : Int).tmod y.toNat = ((x.toNat % y.toNat : Nat) : Int) from rfl, ← BitVec.toNat_umod]; rfl
@[simp] theorem W64_eql (q : QK) (x y : BitVec 64) : abinR q .eql (W64 x) (W64 y) = some (.bool (x == y)) := by
  show some (AV.bool ((x.toNat : Int) == y.toNat)) = _
  congr 2; rw [Bool.eq_iff_iff]; simp only [beq_iff_eq]; exact ⟨fun h => BitVec.eq_of_toNat_eq (by omega), fun h => h ▸ rfl⟩
@[simp] theorem W64_neq (q : QK) (x y : BitVec 64) : abinR q .neq (W64 x) (W64 y) = some (.bool (x != y)) := by
  show some (AV.bool ((x.toNat : Int) != y.toNat)) = _
  congr 2; rw [Bool.eq_iff_iff]; simp only [bne_iff_ne, ne_eq]; exact ⟨fun h e => h (e ▸ rfl), fun h e => h (BitVec.eq_of_toNat_eq (by omega))⟩
@[simp] theorem W64_lss (q : QK) (x y : BitVec 64) : abinR q .lss (W64 x) (W64 y) = some (.bool (decide (x < y))) := by
  show some (AV.bool (decide ((x.toNat : Int) < y.toNat))) = _
  simp [BitVec.lt_def]
@[simp] theorem W64_leq (q : QK) (x y : BitVec 64) : abinR q .leq (W64 x) (W64 y) = some (.bool (decide (x ≤ y))) := by
  show some (AV.bool (decide ((x.toNat : Int) ≤ y.toNat))) = _
  simp [BitVec.le_def]
@[simp] theorem W64_gtr (q : QK) (x y : BitVec 64) : abinR q .gtr (W64 x) (W64 y) = some (.bool (decide (y < x))) := by
  show some (AV.bool (decide ((x.toNat : Int) > y.toNat))) = _
  simp [BitVec.lt_def]
@[simp] theorem W64_geq (q : QK) (x y : BitVec 64) : abinR q .geq (W64 x) (W64 y) = some (.bool (decide (y ≤ x))) := by
  show some (AV.bool (decide ((x.toNat : Int) ≥ y.toNat))) = _
  simp [BitVec.le_def]
@[simp] theorem W64_shl (q : QK) (x : BitVec 64) (k' : IntKind) (c : Int) (h : 0 ≤ c) : abinR q .shl (W64 x) (.int k' c) = some (W64 (x <<< c.toNat)) := by
  unfold W64; rw [bin_shl _ _ _ _ _ h, W64_wrap]
  have : BitVec.ofInt 64 ((x.toNat : Int) * 2 ^ min c.toNat (IntKind.bits .u64)) = x <<< c.toNat := by
    apply BitVec.eq_of_toNat_eq
    rw [show ((x.toNat : Int) * 2 ^ min c.toNat (IntKind.bits .u64)) = ((x.toNat * 2 ^ min c.toNat (IntKind.bits .u64) : Nat) : Int) from by simp, BitVec.ofInt_natCast, BitVec.toNat_ofNat, BitVec.toNat_shiftLeft, Nat.shiftLeft_eq]
    by_cases hc : c.toNat ≤ 64
    · rw [show min c.toNat (IntKind.bits .u64) = c.toNat from by simp [IntKind.bits]; omega]
    · rw [show min c.toNat (IntKind.bits .u64) = 64 from by simp [IntKind.bits]; omega, show c.toNat = 64 + (c.toNat - 64) from by omega, Nat.pow_add, ← Nat.mul_assoc, Nat.mul_right_comm, Nat.mul_mod_left, Nat.mul_mod_left]
  rw [this]; rfl
@[simp] theorem W64_shr (q : QK) (x : BitVec 64) (k' : IntKind) (c : Int) (h : 0 ≤ c) : abinR q .shr (W64 x) (.int k' c) = some (W64 (x >>> c.toNat)) := by
  unfold W64; rw [bin_shr _ _ _ _ _ h]
  have : (x.toNat : Int).fdiv (2 ^ min c.toNat (IntKind.bits .u64)) = ((x >>> c.toNat).toNat : Int) := by
    rw [BitVec.toNat_ushiftRight, Nat.shiftRight_eq_div_pow, Int.fdiv_eq_ediv_of_nonneg _ (by simp [Int.pow_nonneg]), show ((x.toNat : Int) / 2 ^ min c.toNat (IntKind.bits .u64)) = ((x.toNat / 2 ^ min c.toNat (IntKind.bits .u64) : Nat) : Int) from by simp]
    by_cases hc : c.toNat ≤ 64
    · rw [show min c.toNat (IntKind.bits .u64) = c.toNat from by simp [IntKind.bits]; omega]
    · have hx := x.isLt
      rw [show min c.toNat (IntKind.bits .u64) = 64 from by simp [IntKind.bits]; omega, Nat.div_eq_of_lt hx, Nat.div_eq_of_lt (Nat.lt_of_lt_of_le hx (Nat.pow_le_pow_right (by decide) (by omega)))]
  rw [this]
@[simp] theorem W64_not (x : BitVec 64) : aun .xor (W64 x) = some (W64 (~~~ x)) := by
  show some (AV.int .u64 (IntKind.u64.wrap ((BitVec.ofInt 64 _ ^^^ BitVec.ofInt 64 _).toNat : Int))) = _
  rw [W64_wrap, show (BitVec.ofInt 64 _ ^^^ BitVec.ofInt 64 _ : BitVec 64) = ~~~ x from by
    rw [show (if IntKind.signed .u64 = true then (-1 : Int) else IntKind.max .u64) = 18446744073709551615 from rfl, show BitVec.ofInt 64 18446744073709551615 = BitVec.allOnes 64 from rfl, BitVec.ofInt_natCast, BitVec.ofNat_toNat, BitVec.setWidth_eq, BitVec.allOnes_xor], BitVec.ofInt_natCast, BitVec.ofNat_toNat, BitVec.setWidth_eq]
@[simp] theorem W64_neg (x : BitVec 64) : aun .neg (W64 x) = some (W64 (- x)) := by
  show some (AV.int .u64 (IntKind.u64.wrap _)) = _
  rw [W64_wrap, show BitVec.ofInt 64 _ = - x from by apply BitVec.eq_of_toNat_eq; simp [BitVec.toNat_ofInt, BitVec.toNat_neg]; omega]
@[simp] theorem W64_ceq (x y : BitVec 64) : ceq .i (W64 x) (W64 y) = some (x == y) := by
  show (if True then some ((x.toNat : Int) == y.toNat) else none) = _
  rw [if_pos trivial]; congr 1; rw [Bool.eq_iff_iff]; simp only [beq_iff_eq]; exact ⟨fun h => BitVec.eq_of_toNat_eq (by omega), fun h => h ▸ rfl⟩
@[simp] theorem W64_ofInt (k' : IntKind) (z : Int) : aconvR (some .u64) (.int k' z) = some (W64 (BitVec.ofInt 64 z)) := by
  rw [conv_int, W64_wrap]

@[simp] theorem W8_of_W64 (x : BitVec 64) : aconvR (some .u8) (W64 x) = some (W8 (x.setWidth 8)) := by
  unfold W64; rw [conv_int, W8_wrap, BitVec.ofInt_natCast, BitVec.ofNat_toNat]; try rfl
@[simp] theorem W16_of_W64 (x : BitVec 64) : aconvR (some .u16) (W64 x) = some (W16 (x.setWidth 16)) := by
  unfold W64; rw [conv_int, W16_wrap, BitVec.ofInt_natCast, BitVec.ofNat_toNat]; try rfl
@[simp] theorem W32_of_W64 (x : BitVec 64) : aconvR (some .u32) (W64 x) = some (W32 (x.setWidth 32)) := by
  unfold W64; rw [conv_int, W32_wrap, BitVec.ofInt_natCast, BitVec.ofNat_toNat]; try rfl
@[simp] theorem W64_of_W64 (x : BitVec 64) : aconvR (some .u64) (W64 x) = some (W64 (x.setWidth 64)) := by
  unfold W64; rw [conv_int, W64_wrap, BitVec.ofInt_natCast, BitVec.ofNat_toNat]; try rfl
@[simp] theorem W64_shl_W8 (q : QK) (x : BitVec 64) (y : BitVec 8) : abinR q .shl (W64 x) (W8 y) = some (W64 (x <<< y.toNat)) := by
  rw [show W8 y = .int .u8 y.toNat from rfl, W64_shl _ _ _ _ (by omega)]; rfl
@[simp] theorem W64_shr_W8 (q : QK) (x : BitVec 64) (y : BitVec 8) : abinR q .shr (W64 x) (W8 y) = some (W64 (x >>> y.toNat)) := by
  rw [show W8 y = .int .u8 y.toNat from rfl, W64_shr _ _ _ _ (by omega)]; rfl
@[simp] theorem W64_shl_W16 (q : QK) (x : BitVec 64) (y : BitVec 16) : abinR q .shl (W64 x) (W16 y) = some (W64 (x <<< y.toNat)) := by
  rw [show W16 y = .int .u16 y.toNat from rfl, W64_shl _ _ _ _ (by omega)]; rfl
@[simp] theorem W64_shr_W16 (q : QK) (x : BitVec 64) (y : BitVec 16) : abinR q .shr (W64 x) (W16 y) = some (W64 (x >>> y.toNat)) := by
  rw [show W16 y = .int .u16 y.toNat from rfl, W64_shr _ _ _ _ (by omega)]; rfl
@[simp] theorem W64_shl_W32 (q : QK) (x : BitVec 64) (y : BitVec 32) : abinR q .shl (W64 x) (W32 y) = some (W64 (x <<< y.toNat)) := by
  rw [show W32 y = .int .u32 y.toNat from rfl, W64_shl _ _ _ _ (by omega)]; rfl
@[simp] theorem W64_shr_W32 (q : QK) (x : BitVec 64) (y : BitVec 32) : abinR q .shr (W64 x) (W32 y) = some (W64 (x >>> y.toNat)) := by
  rw [show W32 y = .int .u32 y.toNat from rfl, W64_shr _ _ _ _ (by omega)]; rfl
@[simp] theorem W64_shl_W64 (q : QK) (x : BitVec 64) (y : BitVec 64) : abinR q .shl (W64 x) (W64 y) = some (W64 (x <<< y.toNat)) := by
  rw [show W64 y = .int .u64 y.toNat from rfl, W64_shl _ _ _ _ (by omega)]; rfl
@[simp] theorem W64_shr_W64 (q : QK) (x : BitVec 64) (y : BitVec 64) : abinR q .shr (W64 x) (W64 y) = some (W64 (x >>> y.toNat)) := by
  rw [show W64 y = .int .u64 y.toNat from rfl, W64_shr _ _ _ _ (by omega)]; rfl
end Go.Abs

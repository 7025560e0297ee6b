/-
  Memory: what the program's memory does.
-/
import Derived.Test.YteohnepdbjmghaaZ4
import Derived.Test.YteohnepdbjmghaaZ9
import Derived.Test.YteohnepdbjmghaaZ2
import Derived.Test.YteohnepdbjmghaaZ12
set_option linter.unusedSimpArgs false
set_option linter.unusedVariables false
set_option maxHeartbeats 20000000
set_option maxRecDepth 100000
section
section
namespace Go.Abs
def cw (c : Bool) : BitVec 32 := if c then 1#32 else 0#32
structure Add3 where
 w : BitVec 32
 c : Bool
 v : Bool
def addM (a b : BitVec 32) (c : Bool) : Add3 :=
 ⟨a + b + cw c, decide (4294967296 ≤ a.toNat + b.toNat + (cw c).toNat), (a ^^^ (a + b + cw c)) &&& (b ^^^ (a + b + cw c)) &&& 2147483648#32 != 0#32⟩
structure Sh2 where
 w : BitVec 32
 c : Bool
def shN (kind : Nat) (a : BitVec 32) (n : Nat) : Sh2 :=
 match kind with
 | 0 => ⟨a <<< n, decide (n ≤ 32) && a.getLsbD (32 - n)⟩
 | 1 => ⟨a >>> n, a.getLsbD (n - 1)⟩
 | 2 => ⟨a.sshiftRight (min n 32), a.getLsbD (min n 32 - 1)⟩
 | _ => ⟨a.rotateRight (n % 32), (a.rotateRight (n % 32)).msb⟩
def z_db (kind : Nat) (a by_ : BitVec 32) (c : Bool) : Sh2 := if by_ = 0#32 then ⟨a, c⟩ else shN kind a by_.toNat
theorem z_xx (x : BitVec 32) : (x &&& 2147483648#32 != 0#32) = x.msb := by
 have h : x &&& 2147483648#32 = if x.msb then 2147483648#32 else 0#32 := by
  apply BitVec.eq_of_getLsbD_eq
  intro i hi
  have hb : (2147483648#32).getLsbD i = decide (i = 31) := by
   have : ∀ i : Fin 32, (2147483648#32).getLsbD i.val = decide (i.val = 31) := by decide
   exact this ⟨i, hi⟩
  rw [BitVec.getLsbD_and, hb]
  by_cases e : i = 31
  ·subst e
   rw [show x.getLsbD 31 = x.msb from by rw [BitVec.msb_eq_getLsbD_last]]
   cases x.msb <;> decide
  ·simp only [e, decide_false, Bool.and_false]
   cases x.msb
   ·simp
   ·simp [hb, e]
 rw [h]; cases x.msb <;> decide
end Go.Abs
end
section
namespace Go.Abs
def bls (l : List Bool) : List (List AV) := l.map fun b => [.bool b]
def atb (l : List Bool) (i : Nat) : Bool := l.getD i false
theorem z_t7 (l : List Bool) (i : Nat) (h : i < l.length) : l[i]? = some (atb l i) := by
 unfold atb; rw [List.getD_eq_getElem?_getD, List.getElem?_eq_getElem h]; rfl
@[simp] theorem z_he (l : List Bool) : (bls l).length = l.length := by simp [bls]
@[simp] theorem bls_get (l : List Bool) (n : Nat) : (bls l)[n]? = if n < l.length then some [.bool (atb l n)] else none := by
 split
 ·rename_i h; simp [bls, z_t7 l n h]
 ·rename_i h; simp [bls]; omega
@[simp] theorem bls_set (l : List Bool) (n : Nat) (x : Bool) : (bls l).set n [.bool x] = bls (l.set n x) := by simp [bls, List.map_set]
theorem z_p9 (l : List Bool) (x : Bool) : bls l ++ [[.bool x]] = bls (l ++ [x]) := by simp [bls]
def tell (n : Nat) (f : Nat → Bool) : List Bool := (List.range n).map f
@[simp] theorem z_gc (n : Nat) (f : Nat → Bool) : (tell n f).length = n := by simp [tell]
theorem z_gd (n : Nat) (f : Nat → Bool) (i : Nat) (h : i < n) : atb (tell n f) i = f i := by
 have := z_t7 (tell n f) i (by simpa using h)
 simp [tell, h] at this; exact this.symm
theorem z_mo (n : Nat) (f : Nat → Bool) : tell (n + 1) f = tell n f ++ [f n] := by simp [tell, List.range_succ]
theorem z_lk (n : Nat) (f : Nat → Bool) (k : Nat) (x : Bool) : (tell n f).set k x = tell n fun j => if j = k then x else f j := by
 apply List.ext_getElem (by simp)
 intro j h1 h2
 simp only [List.getElem_set, tell, List.getElem_map, List.getElem_range]
 by_cases e : k = j
 ·subst e; simp
 ·simp [e, show ¬ j = k from fun q => e q.symm]
theorem z_eu (n : Nat) (f g : Nat → Bool) (h : ∀ j, j < n → f j = g j) : tell n f = tell n g := by
 apply List.map_congr_left; intro j hj; exact h j (List.mem_range.1 hj)
theorem z_uy (n : Nat) (x : Bool) : List.replicate n x = tell n fun _ => x := by
 apply List.ext_getElem <;> simp [tell]
def bitsL (a : BitVec 32) : List Bool := tell 32 a.getLsbD
theorem z_u8 (a : BitVec 32) (i : Nat) : a >>> i / 2#32 = a >>> (i + 1) := by
 apply BitVec.eq_of_toNat_eq
 rw [BitVec.toNat_udiv, BitVec.toNat_ushiftRight, BitVec.toNat_ushiftRight, Nat.shiftRight_succ]; rfl
theorem z_x1 (a : BitVec 32) (i : Nat) : ((a >>> i % 2#32) == 1#32) = a.getLsbD i := by
 rw [Bool.eq_iff_iff, beq_iff_eq]
 have h : (a >>> i % 2#32).toNat = a.toNat / 2 ^ i % 2 := by rw [BitVec.toNat_umod, BitVec.toNat_ushiftRight, Nat.shiftRight_eq_div_pow]; rfl
 rw [← BitVec.testBit_toNat, Nat.testBit_eq_decide_div_mod_eq, decide_eq_true_eq, ← h]
 constructor
 ·intro q; rw [q]; rfl
 ·intro q; exact BitVec.eq_of_toNat_eq q
def bBlk (l : List Bool) : Blk := ⟨T.ty_bool, 1, true, bls l⟩
theorem z_t0 (a : BitVec 32) (i : Nat) (hi : i < 32) (H : Hp) (b : Nat) (hb : H.get b = some (bBlk (tell i a.getLsbD))) (hw : H.WF) : ∃ H' b',
  z_bq.l0 (AFr.al [(0, W32 (a >>> i)), (3, .sl b 1 0 i), (4, .int .i64 i)]) H = some (.normal, AFr.al [(0, W32 (a >>> (i + 1))), (3, .sl b' 1 0 (i + 1)), (4, .int .i64 (i + 1 : Nat))], H') ∧ H'.get b' = some (bBlk (tell (i + 1) a.getLsbD)) ∧ H'.WF := by
 have hlt := hw _ _ hb
 have e1 := z_x1 a i; have e2 := z_u8 a i
 refine ⟨((H.push (bBlk [a.getLsbD i])).set b none).push (bBlk (tell (i + 1) a.getLsbD)), H.next + 1, ?_, by simp, Hp.WF.push (Hp.WF.set (Hp.WF.push hw) (by simp; omega))⟩
 simp only [bBlk] at hb ⊢
 simp -implicitDefEqProofs +contextual (disch := omega) [z_bq.l0, hb, e1, e2, z_mo, ← z_p9]
 simp [bls]
theorem z_mi (a : BitVec 32) : z_bq.spec [W32 a] = some (.rsl 1 (bls (bitsL a))) := by
 obtain ⟨e, fr', X', hgo, rfl, b, rfl, hq⟩ := z_ld (f := z_bq.l0) (fun i fr X => ∃ b, fr = AFr.al [(0, W32 (a >>> i)), (3, .sl b 1 0 i), (4, .int .i64 i)] ∧ X.get b = some (bBlk (tell i a.getLsbD)) ∧ X.WF) 32
  (fun e fr X => e = .exit 0 ∧ ∃ b, fr = AFr.al [(0, W32 (a >>> 32)), (3, .sl b 1 0 32), (4, .int .i64 32), (7, .bool false)] ∧ X.get b = some (bBlk (bitsL a)))
  (fun k hk fr X hR => by
   obtain ⟨b, rfl, h1, h2⟩ := hR
   obtain ⟨H', b', q1, q2, q3⟩ := z_t0 a k hk X b h1 h2
   exact ⟨_, _, q1, b', rfl, q2, q3⟩)
  (fun fr X hR => by
   obtain ⟨b, rfl, h1, h2⟩ := hR
   exact ⟨.exit 0, AFr.al [(0, W32 (a >>> 32)), (3, .sl b 1 0 32), (4, .int .i64 32), (7, .bool false)], X, by simp -implicitDefEqProofs +contextual (disch := omega) [z_bq.l0], by simp, rfl, b, rfl, h1⟩)
  (fr := AFr.al [(0, W32 (a >>> 0)), (3, .sl 0 1 0 0), (4, .int .i64 (0 : Nat))]) (H := Hp.empty.push (bBlk [])) ⟨0, rfl, by simp [tell], Hp.WF.push Hp.WF.empty⟩
 simp only [bBlk] at hgo hq
 rw [show ((0 : Nat) : Int) = 0 from rfl, show a >>> 0 = a from BitVec.ushiftRight_zero a] at hgo
 rw [show bls [] = ([] : List (List AV)) from rfl] at hgo
 have hl32 : (bitsL a).length = 32 := by simp [bitsL]
 have ht : (bls (bitsL a)).take 32 = bls (bitsL a) := List.take_of_length_le (by rw [z_he, hl32]; exact Nat.le_refl _)
 simp -implicitDefEqProofs +contextual (disch := omega) [z_bq.spec, z_bq, hgo, hq, hl32, ht]
theorem z_rs (a : BitVec 32) (i : Nat) (hi : i < 32) (H : Hp) :
  z_bn.l0 (AFr.al [(0, .rsl 1 (bls (bitsL a))), (3, W32 (a >>> (i + 1))), (4, .int .i64 i)]) H = some (.normal, AFr.al [(0, .rsl 1 (bls (bitsL a))), (3, W32 (a >>> i)), (4, .int .i64 ((i : Int) - 1))], H) := by
 have hl : (bitsL a).length = 32 := by simp [bitsL]
 have ha : atb (bitsL a) i = a.getLsbD i := z_gd 32 _ i hi
 have hs : ∀ b : Bool, a.getLsbD i = b → a >>> i = a >>> (i + 1) * 2#32 + cw b := by
  intro b hb
  apply BitVec.eq_of_toNat_eq
  have h := a.isLt
  have h2 : (a >>> i).toNat = a.toNat / 2 ^ i := by rw [BitVec.toNat_ushiftRight, Nat.shiftRight_eq_div_pow]
  have h3 : (a >>> (i + 1)).toNat = a.toNat / 2 ^ i / 2 := by rw [BitVec.toNat_ushiftRight, Nat.shiftRight_eq_div_pow, Nat.pow_succ, Nat.div_div_eq_div_mul]
  have h4 : a.toNat / 2 ^ i < 4294967296 := Nat.lt_of_le_of_lt (Nat.div_le_self _ _) h
  have h5 : (cw b).toNat = a.toNat / 2 ^ i % 2 := by
   rw [← hb, ← BitVec.testBit_toNat, Nat.testBit_eq_decide_div_mod_eq]
   by_cases q : a.toNat / 2 ^ i % 2 = 1
   ·simp [q, cw]
   ·have : a.toNat / 2 ^ i % 2 = 0 := by omega
    simp [this, cw]
  rw [BitVec.toNat_add, BitVec.toNat_mul, h2, h3, h5]
  simp only [BitVec.toNat_ofNat]
  omega
 cases hb : a.getLsbD i with
 | true =>
  rw [hb] at ha
  rw [hs true hb]
  simp -implicitDefEqProofs +contextual (disch := omega) [z_bn.l0, hl, ha, cw]
 | false =>
  rw [hb] at ha
  rw [hs false hb]
  simp -implicitDefEqProofs +contextual (disch := omega) [z_bn.l0, hl, ha, cw]
theorem z_mk (a : BitVec 32) (H : Hp) : ∀ i : Nat, i ≤ 32 → aloop z_bn.l0 (AFr.al [(0, .rsl 1 (bls (bitsL a))), (3, W32 (a >>> i)), (4, .int .i64 ((i : Int) - 1))]) H =
  some (.exit 0, AFr.al [(0, .rsl 1 (bls (bitsL a))), (3, W32 a), (4, .int .i64 (-1)), (9, .bool false)], H)
 | 0, _ => by
  rw [show a >>> 0 = a from BitVec.ushiftRight_zero a]
  refine z_ce (by simp) ?_
  simp -implicitDefEqProofs +contextual (disch := omega) [z_bn.l0]
 | i + 1, h => by
  have e1 := z_rs a i (by omega) H
  rw [Int.natCast_succ, show (i : Int) + 1 - 1 = i from by omega, z_dk e1]
  exact z_mk a H i (by omega)
theorem Word_eq' (a : BitVec 32) : z_bn.spec [.rsl 1 (bls (bitsL a))] = some (W32 a) := by
 have h := z_mk a Hp.empty 32 (by omega)
 have hl : (bitsL a).length = 32 := by simp [bitsL]
 rw [show a >>> 32 = 0#32 from BitVec.ushiftRight_eq_zero (by omega), show ((32 : Nat) : Int) - 1 = 31 from rfl] at h
 simp -implicitDefEqProofs +contextual (disch := omega) [z_bn.spec, z_bn, hl, h]
def sumL (a b : BitVec 32) (c : Bool) : BitVec 32 := a + b + BitVec.setWidth 32 (BitVec.ofBool c)
theorem z_xy (a b : BitVec 32) (c : Bool) : sumL a b c = (addM a b c).w := by cases c <;> rfl
theorem z_wq (a b : BitVec 32) (c : Bool) (i : Nat) (hi : i < 32) (H : Hp) (o : Nat) (ho : H.get o = some (bBlk (tell i (sumL a b c).getLsbD))) (hw : H.WF) : ∃ H' o',
  z_c7.l0 z_bq.spec z_bn.spec (AFr.al [(2, .bool (BitVec.carry i a b c)), (9, .rsl 1 (bls (bitsL a))), (10, .rsl 1 (bls (bitsL b))), (11, .sl o 1 0 i), (12, .int .i64 i)]) H =
   some (.normal, AFr.al [(2, .bool (BitVec.carry (i + 1) a b c)), (9, .rsl 1 (bls (bitsL a))), (10, .rsl 1 (bls (bitsL b))), (11, .sl o' 1 0 (i + 1)), (12, .int .i64 (i + 1 : Nat))], H') ∧
  H'.get o' = some (bBlk (tell (i + 1) (sumL a b c).getLsbD)) ∧ H'.WF := by
 have hlt := hw _ _ ho
 have la : (bitsL a).length = 32 := by simp [bitsL]
 have lb : (bitsL b).length = 32 := by simp [bitsL]
 have ha : atb (bitsL a) i = a.getLsbD i := z_gd 32 _ i hi
 have hb : atb (bitsL b) i = b.getLsbD i := z_gd 32 _ i hi
 have hs : (sumL a b c).getLsbD i = (a.getLsbD i ^^ (b.getLsbD i ^^ BitVec.carry i a b c)) := BitVec.getLsbD_add_add_bool hi a b c
 have hc : BitVec.carry (i + 1) a b c = Bool.atLeastTwo (a.getLsbD i) (b.getLsbD i) (BitVec.carry i a b c) := BitVec.carry_succ i a b c
 refine ⟨((H.push (bBlk [(sumL a b c).getLsbD i])).set o none).push (bBlk (tell (i + 1) (sumL a b c).getLsbD)), H.next + 1, ?_, by simp, Hp.WF.push (Hp.WF.set (Hp.WF.push hw) (by simp; omega))⟩
 rw [hc, z_mo]
 generalize (sumL a b c).getLsbD i = s at hs ⊢
 generalize BitVec.carry i a b c = x at hs ⊢
 generalize a.getLsbD i = y at ha hs ⊢
 generalize b.getLsbD i = z at hb hs ⊢
 simp only [bBlk] at ho ⊢
 subst hs
 cases x <;> cases y <;> cases z
 all_goals
  simp -implicitDefEqProofs +contextual (disch := omega) [z_c7.l0, ho, la, lb, ha, hb, ← z_p9, Bool.atLeastTwo]
  simp [bls]
theorem z_ye (a b : BitVec 32) (c : Bool) : z_c7.spec [W32 a, W32 b, .bool c] = some (.tup [W32 (addM a b c).w, .bool (addM a b c).c, .bool (addM a b c).v]) := by
 have la : (bitsL a).length = 32 := by simp [bitsL]
 have lb : (bitsL b).length = 32 := by simp [bitsL]
 have ls : (bitsL (addM a b c).w).length = 32 := by simp [bitsL]
 have ha : atb (bitsL a) 31 = a.msb := by rw [bitsL, z_gd 32 _ 31 (by omega), BitVec.msb_eq_getLsbD_last]
 have hb : atb (bitsL b) 31 = b.msb := by rw [bitsL, z_gd 32 _ 31 (by omega), BitVec.msb_eq_getLsbD_last]
 have hs : atb (bitsL (addM a b c).w) 31 = (addM a b c).w.msb := by rw [bitsL, z_gd 32 _ 31 (by omega), BitVec.msb_eq_getLsbD_last]
 have b1 := z_mi a; have b2 := z_mi b; have b3 := Word_eq' (addM a b c).w
 obtain ⟨e, fr', X', hgo, rfl, o, rfl, hq⟩ := z_ld (f := z_c7.l0 z_bq.spec z_bn.spec) (fun i fr X => ∃ o, fr = AFr.al [(2, .bool (BitVec.carry i a b c)), (9, .rsl 1 (bls (bitsL a))), (10, .rsl 1 (bls (bitsL b))), (11, .sl o 1 0 i), (12, .int .i64 i)] ∧ X.get o = some (bBlk (tell i (sumL a b c).getLsbD)) ∧ X.WF) 32
  (fun e fr X => e = .exit 0 ∧ ∃ o, fr = AFr.al [(2, .bool (BitVec.carry 32 a b c)), (9, .rsl 1 (bls (bitsL a))), (10, .rsl 1 (bls (bitsL b))), (11, .sl o 1 0 32), (12, .int .i64 32), (20, .bool false)] ∧ X.get o = some (bBlk (bitsL (addM a b c).w)))
  (fun k hk fr X hR => by
   obtain ⟨o, rfl, h1, h2⟩ := hR
   obtain ⟨H', o', q1, q2, q3⟩ := z_wq a b c k hk X o h1 h2
   exact ⟨_, _, q1, o', rfl, q2, q3⟩)
  (fun fr X hR => by
   obtain ⟨o, rfl, h1, h2⟩ := hR
   refine ⟨.exit 0, AFr.al [(2, .bool (BitVec.carry 32 a b c)), (9, .rsl 1 (bls (bitsL a))), (10, .rsl 1 (bls (bitsL b))), (11, .sl o 1 0 32), (12, .int .i64 32), (20, .bool false)], X, ?_, by simp, rfl, o, rfl, by rw [h1, z_xy]; rfl⟩
   simp -implicitDefEqProofs +contextual (disch := omega) [z_c7.l0])
  (fr := AFr.al [(2, .bool (BitVec.carry 0 a b c)), (9, .rsl 1 (bls (bitsL a))), (10, .rsl 1 (bls (bitsL b))), (11, .sl 0 1 0 0), (12, .int .i64 (0 : Nat))]) (H := Hp.empty.push (bBlk [])) ⟨0, rfl, by simp [tell], Hp.WF.push Hp.WF.empty⟩
 simp only [bBlk] at hgo hq
 rw [show ((0 : Nat) : Int) = 0 from rfl, BitVec.carry_zero] at hgo
 rw [show bls [] = ([] : List (List AV)) from rfl] at hgo
 have hc : BitVec.carry 32 a b c = (addM a b c).c := by
  have h1 := a.isLt; have h2 := b.isLt
  simp only [BitVec.carry, addM]
  rw [Nat.mod_eq_of_lt h1, Nat.mod_eq_of_lt h2]
  cases c <;> rfl
 have hv : (addM a b c).v = ((a.msb == b.msb) && ((addM a b c).w.msb != a.msb)) := by
  show (_ &&& 2147483648#32 != 0#32) = _
  rw [z_xx]
  simp only [BitVec.msb_and, BitVec.msb_xor]
  show ((a.msb ^^ (addM a b c).w.msb) && (b.msb ^^ (addM a b c).w.msb)) = _
  cases a.msb <;> cases b.msb <;> cases (addM a b c).w.msb <;> rfl
 rw [hc] at hgo
 have ht : (bls (bitsL (addM a b c).w)).take 32 = bls (bitsL (addM a b c).w) := List.take_of_length_le (by simp [bitsL])
 rw [hv]
 simp -implicitDefEqProofs +contextual (disch := omega) [z_c7.spec, z_c7, hgo, hq, b1, b2, b3, la, lb, ls, ha, hb, hs, ht]
 cases a.msb <;> cases b.msb <;> cases (addM a b c).w.msb <;> rfl
def stepK (kind : Nat) (v : BitVec 32) : BitVec 32 :=
 match kind with
 | 0 => v <<< 1
 | 1 => v >>> 1
 | 2 => v.sshiftRight 1
 | _ => v.rotateRight 1
def movK (kind : Nat) (v : BitVec 32) (k : Nat) : List Bool := tell 32 fun j => decide (j < k) && (if kind = 0 then decide (0 < j) && v.getLsbD (j - 1) else v.getLsbD (j + 1))
noncomputable abbrev rshL1 := z_ap.l1 z_bq.spec z_bn.spec
noncomputable abbrev rshL := z_ap.l0 z_bq.spec z_bn.spec
def z_ga (H : Hp) (b : AV) (v : BitVec 32) : Prop := b = .rsl 1 (bls (bitsL v)) ∨ ∃ o, b = .sl o 1 0 32 ∧ H.get o = some (bBlk (bitsL v))
theorem z_vr (kind : Nat) (hk3 : kind ≤ 3) (v : BitVec 32) (k : Nat) (hk : k < 32) (H : Hp) (b a2 a11 : AV) (n : Nat) (hb : z_ga H b v) (hn : ∀ o l, b = .sl o 1 0 l → o ≠ n) :
  rshL1 (AFr.al [(0, .int .i64 kind), (2, a2), (10, b), (11, a11), (12, .sl n 1 0 32), (13, .int .i64 k)]) (H.set n (some (bBlk (movK kind v k)))) =
   some (.normal, AFr.al [(0, .int .i64 kind), (2, a2), (10, b), (11, a11), (12, .sl n 1 0 32), (13, .int .i64 (k + 1 : Nat))], H.set n (some (bBlk (movK kind v (k + 1))))) := by
 have lv : (bitsL v).length = 32 := by simp [bitsL]
 have lm : (movK kind v k).length = 32 := by simp [movK]
 have ht : ∀ i, i < 32 → atb (bitsL v) i = v.getLsbD i := fun i hi => z_gd 32 _ i hi
 have hset : ∀ x : Bool, x = (if kind = 0 then decide (0 < k) && v.getLsbD (k - 1) else v.getLsbD (k + 1)) → (movK kind v k).set k x = movK kind v (k + 1) := by
  intro x hx
  unfold movK
  rw [z_lk]
  refine z_eu _ _ _ fun j hj => ?_
  by_cases e : j = k
  ·subst e; simp [hx]
  ·rw [if_neg e]
   have : decide (j < k + 1) = decide (j < k) := by rw [decide_eq_decide]; omega
   rw [this]
 have hsame : (if kind = 0 then decide (0 < k) && v.getLsbD (k - 1) else v.getLsbD (k + 1)) = false → movK kind v (k + 1) = movK kind v k := by
  intro hx
  unfold movK
  refine z_eu _ _ _ fun j hj => ?_
  by_cases e : j = k
  ·subst e; simp only [hx, Bool.and_false]
  ·have : decide (j < k + 1) = decide (j < k) := by rw [decide_eq_decide]; omega
   rw [this]
 by_cases k0 : kind = 0
 ·subst k0
  by_cases hk0 : k = 0
  ·subst hk0
   rw [hsame (by simp)]
   rcases hb with rfl | ⟨o, rfl, ho⟩
   ·simp -implicitDefEqProofs +contextual (disch := omega) [rshL1, z_ap.l1]
   ·simp -implicitDefEqProofs +contextual (disch := omega) [rshL1, z_ap.l1]
  ·have h1 := hset (v.getLsbD (k - 1)) (by simp; omega)
   have h2 := ht (k - 1) (by omega)
   have h3 : ((k : Int) - 1).toNat = k - 1 := by omega
   have h4 : 0 < k := by omega
   rw [← h1]
   rcases hb with rfl | ⟨o, rfl, ho⟩
   ·simp -implicitDefEqProofs +contextual (disch := omega) [rshL1, z_ap.l1, bBlk, lv, lm, h2, h3, h4]
   ·have hno := hn o 32 rfl
    simp only [bBlk] at ho
    simp -implicitDefEqProofs +contextual (disch := omega) [rshL1, z_ap.l1, bBlk, lv, lm, h2, h3, h4, ho, hno]
 ·have k0i : ¬ (kind : Int) = 0 := by omega
  have k1i : 0 < (kind : Int) := by omega
  have k1n : 0 < kind := by omega
  by_cases hk31 : k = 31
  ·subst hk31
   rw [hsame (by simp [k0])]
   rcases hb with rfl | ⟨o, rfl, ho⟩
   ·simp -implicitDefEqProofs +contextual (disch := omega) [rshL1, z_ap.l1, k0, k0i, k1i, k1n]
   ·simp -implicitDefEqProofs +contextual (disch := omega) [rshL1, z_ap.l1, k0, k0i, k1i, k1n]
  ·have h1 := hset (v.getLsbD (k + 1)) (by simp [k0])
   have h2 := ht (k + 1) (by omega)
   have h3 : ((k : Int) + 1).toNat = k + 1 := by omega
   have h4 : k < 31 := by omega
   have h5 : (k : Int) < 31 := by omega
   rw [← h1]
   rcases hb with rfl | ⟨o, rfl, ho⟩
   ·simp -implicitDefEqProofs +contextual (disch := omega) [rshL1, z_ap.l1, bBlk, lv, lm, h2, h3, h4, h5, k0, k0i, k1i, k1n]
   ·have hno := hn o 32 rfl
    simp only [bBlk] at ho
    simp -implicitDefEqProofs +contextual (disch := omega) [rshL1, z_ap.l1, bBlk, lv, lm, h2, h3, h4, h5, k0, k0i, k1i, k1n, ho, hno]
theorem z_vs (kind : Nat) (hk3 : kind ≤ 3) (v : BitVec 32) (H : Hp) (b a2 a11 : AV) (n : Nat) (hb : z_ga H b v) (hn : ∀ o l, b = .sl o 1 0 l → o ≠ n) :
  aloop rshL1 (AFr.al [(0, .int .i64 kind), (2, a2), (10, b), (11, a11), (12, .sl n 1 0 32), (13, .int .i64 0)]) (H.set n (some (bBlk (movK kind v 0)))) =
   some (.exit 2, AFr.al [(0, .int .i64 kind), (2, a2), (10, b), (11, a11), (12, .sl n 1 0 32), (13, .int .i64 32), (42, .bool false)], H.set n (some (bBlk (movK kind v 32)))) := by
 have h := z_qd (f := rshL1) (fun k => AFr.al [(0, .int .i64 kind), (2, a2), (10, b), (11, a11), (12, .sl n 1 0 32), (13, .int .i64 k)]) (fun k => H.set n (some (bBlk (movK kind v k)))) 32
  (fun k hk => z_vr kind hk3 v k hk H b a2 a11 n hb hn) 0 (by omega)
 rw [show ((0 : Nat) : Int) = 0 from rfl] at h
 rw [h]
 refine z_ce (by simp) ?_
 simp -implicitDefEqProofs +contextual (disch := omega) [rshL1, z_ap.l1]
end Go.Abs
end
section
namespace Go.Abs
theorem z_h2 (H : Hp) (x y : Blk) : (H.push x).set H.next (some y) = H.push y := by
 refine Hp.eq_of rfl (funext fun c => ?_)
 rw [Hp.get_set, Hp.get_push, Hp.get_push]; split <;> rfl
theorem z_vt (H : Hp) (kind : Nat) (v : BitVec 32) : z_f7 (some ⟨T.ty_bool, 1, 1, [(.bool false)]⟩) (.int .i64 32) (.int .i64 32) H = some (.sl H.next 1 0 32, H.push (bBlk (movK kind v 0))) := by
 have h : movK kind v 0 = List.replicate 32 false := by rw [z_uy]; exact z_eu _ _ _ fun j hj => by simp
 rw [h]; rfl
theorem mov_0 (v : BitVec 32) : movK 0 v 32 = bitsL (stepK 0 v) :=
 z_eu _ _ _ fun j hj => by
  rcases j with _ | n
  ·simp [stepK]
  ·have h2 : n < 32 := by omega
   simp [stepK, hj, BitVec.getLsbD_eq_getElem h2]
theorem mov_1 (v : BitVec 32) : movK 1 v 32 = bitsL (stepK 1 v) :=
 z_eu _ _ _ fun j hj => by simp [stepK, hj, Nat.add_comm]
theorem mov_2 (v : BitVec 32) : (movK 2 v 32).set 31 v.msb = bitsL (stepK 2 v) := by
 unfold movK; rw [z_lk]
 refine z_eu _ _ _ fun j hj => ?_
 simp only [stepK, BitVec.getLsbD_sshiftRight]
 by_cases e : j = 31
 ·subst e; simp
 ·have h1 : 1 + j < 32 := by omega
  have h2 : j + 1 = 1 + j := by omega
  have h3 : ¬ 32 ≤ j := by omega
  simp [e, hj, h1, h2, h3]
theorem mov_3 (v : BitVec 32) : (movK 3 v 32).set 31 (v.getLsbD 0) = bitsL (stepK 3 v) := by
 unfold movK; rw [z_lk]
 refine z_eu _ _ _ fun j hj => ?_
 simp only [stepK, BitVec.getLsbD_rotateRight]
 by_cases e : j = 31
 ·subst e; simp
 ·have h1 : j < 31 := by omega
  have h2 : j + 1 = 1 + j := by omega
  simp [e, hj, h1, h2]
def outK (kind : Nat) (v : BitVec 32) : Bool := if kind = 0 then v.msb else v.getLsbD 0
theorem z_x2 (kind : Nat) (hk3 : kind ≤ 3) (v by_ : BitVec 32) (c : Bool) (i : Nat) (hi : i < by_.toNat) (hi70 : i < 70) (H : Hp) (hw : H.WF) (b : AV) (hb : z_ga H b v) : ∃ H' b',
  rshL (AFr.al [(0, .int .i64 kind), (2, W32 by_), (3, .bool c), (10, b), (11, W32 (BitVec.ofNat 32 i))]) H =
   some (.normal, AFr.al [(0, .int .i64 kind), (2, W32 by_), (3, .bool (outK kind v)), (10, b'), (11, W32 (BitVec.ofNat 32 (i + 1)))], H') ∧ z_ga H' b' (stepK kind v) ∧ H'.WF := by
 have lv : (bitsL v).length = 32 := by simp [bitsL]
 have lm : (movK kind v 32).length = 32 := by simp [movK]
 have h31 : atb (bitsL v) 31 = v.msb := by rw [bitsL, z_gd 32 _ 31 (by omega), BitVec.msb_eq_getLsbD_last]
 have h0 : atb (bitsL v) 0 = v.getLsbD 0 := z_gd 32 _ 0 (by omega)
 have hmk := z_vt H kind v
 have hbn : ∀ o l, b = .sl o 1 0 l → o < H.next := fun o l e => by
  rcases hb with rfl | ⟨o', rfl, ho⟩
  ·cases e
  ·cases e; exact hw _ _ ho
 have hb' : z_ga (H.push (bBlk (movK kind v 0))) b v := by
  rcases hb with rfl | ⟨o, rfl, ho⟩
  ·exact .inl rfl
  ·have := hw _ _ ho
   exact .inr ⟨o, rfl, by rw [Hp.get_push, if_neg (by omega)]; exact ho⟩
 have hl := z_vs kind hk3 v (H.push (bBlk (movK kind v 0))) b (W32 by_) (W32 (BitVec.ofNat 32 i)) H.next hb' (fun o l e => by have := hbn o l e; omega)
 rw [z_h2, z_h2] at hl
 have hlt : BitVec.ofNat 32 i < by_ := by rw [BitVec.lt_def, BitVec.toNat_ofNat]; omega
 have hlt70 : BitVec.ofNat 32 i < 70#32 := by rw [BitVec.lt_def, BitVec.toNat_ofNat]; simp; omega
 have hsucc : BitVec.ofNat 32 i + 1#32 = BitVec.ofNat 32 (i + 1) := by apply BitVec.eq_of_toNat_eq; simp
 have fin : ∀ l : List Bool, l = bitsL (stepK kind v) → z_ga (H.push (bBlk l)) (.sl H.next 1 0 32) (stepK kind v) ∧ (H.push (bBlk l)).WF := fun l e => ⟨.inr ⟨H.next, rfl, by simp [e]⟩, Hp.WF.push hw⟩
 have m0 := mov_0 v; have m1 := mov_1 v; have m2 := mov_2 v; have m3 := mov_3 v
 match kind, hk3 with
 | 0, _ =>
  refine ⟨H.push (bBlk (movK 0 v 32)), .sl H.next 1 0 32, ?_, fin _ m0⟩
  push_cast at hl
  simp only [bBlk] at hmk hl ⊢
  rcases hb with rfl | ⟨o, rfl, ho⟩
  ·simp -implicitDefEqProofs +contextual (disch := omega) [rshL, z_ap.l0, hmk, hl, hlt, hlt70, hsucc, h31, h0, lv, outK, -z_fk]
  ·have hon := hw _ _ ho
   simp only [bBlk] at ho
   simp -implicitDefEqProofs +contextual (disch := omega) [rshL, z_ap.l0, hmk, hl, hlt, hlt70, hsucc, h31, h0, lv, outK, ho, -z_fk]
 | 1, _ =>
  refine ⟨H.push (bBlk (movK 1 v 32)), .sl H.next 1 0 32, ?_, fin _ m1⟩
  push_cast at hl
  simp only [bBlk] at hmk hl ⊢
  rcases hb with rfl | ⟨o, rfl, ho⟩
  ·simp -implicitDefEqProofs +contextual (disch := omega) [rshL, z_ap.l0, hmk, hl, hlt, hlt70, hsucc, h31, h0, lv, outK, -z_fk]
  ·have hon := hw _ _ ho
   simp only [bBlk] at ho
   simp -implicitDefEqProofs +contextual (disch := omega) [rshL, z_ap.l0, hmk, hl, hlt, hlt70, hsucc, h31, h0, lv, outK, ho, -z_fk]
 | 2, _ =>
  refine ⟨H.push (bBlk ((movK 2 v 32).set 31 v.msb)), .sl H.next 1 0 32, ?_, fin _ m2⟩
  have ps := fun x y => z_h2 H x y
  push_cast at hl
  simp only [bBlk] at hmk hl ps ⊢
  rcases hb with rfl | ⟨o, rfl, ho⟩
  ·simp -implicitDefEqProofs +contextual (disch := omega) [rshL, z_ap.l0, hmk, hl, hlt, hlt70, hsucc, h31, h0, lv, lm, outK, ps, -z_fk]
  ·have hon := hw _ _ ho
   simp only [bBlk] at ho
   simp -implicitDefEqProofs +contextual (disch := omega) [rshL, z_ap.l0, hmk, hl, hlt, hlt70, hsucc, h31, h0, lv, lm, outK, ho, ps, -z_fk]
 | 3, _ =>
  refine ⟨H.push (bBlk ((movK 3 v 32).set 31 (v.getLsbD 0))), .sl H.next 1 0 32, ?_, fin _ m3⟩
  have ps := fun x y => z_h2 H x y
  push_cast at hl
  simp only [bBlk] at hmk hl ps ⊢
  rcases hb with rfl | ⟨o, rfl, ho⟩
  ·simp -implicitDefEqProofs +contextual (disch := omega) [rshL, z_ap.l0, hmk, hl, hlt, hlt70, hsucc, h31, h0, lv, lm, outK, ps, -z_fk]
  ·have hon := hw _ _ ho
   simp only [bBlk] at ho
   simp -implicitDefEqProofs +contextual (disch := omega) [rshL, z_ap.l0, hmk, hl, hlt, hlt70, hsucc, h31, h0, lv, lm, outK, ho, ps, -z_fk]
def sIter (kind : Nat) : Nat → BitVec 32 × Bool → BitVec 32 × Bool
 | 0, s => s
 | d + 1, s => sIter kind d (stepK kind s.1, outK kind s.1)
theorem z_ig (kind : Nat) : ∀ (d : Nat) (s : BitVec 32 × Bool), sIter kind (d + 1) s = (stepK kind (sIter kind d s).1, outK kind (sIter kind d s).1)
 | 0, s => rfl
 | d + 1, s => by
  show sIter kind (d + 1) (stepK kind s.1, outK kind s.1) = _
  rw [z_ig kind d]; rfl
theorem rotb (v : BitVec 32) (k i : Nat) (hi : i < 32) : (v.rotateRight k).getLsbD i = v.getLsbD ((k + i) % 32) := by
 rw [BitVec.getLsbD_rotateRight]
 by_cases h : i < 32 - k % 32
 ·rw [decide_eq_true h, cond_true]; congr 1; omega
 ·rw [decide_eq_false h, cond_false, decide_eq_true hi, Bool.true_and]; congr 1; omega
theorem z_vb (kind : Nat) (hk : kind ≤ 3) (v : BitVec 32) (n : Nat) (hn : 0 < n) : stepK kind (shN kind v n).w = (shN kind v (n + 1)).w ∧ outK kind (shN kind v n).w = (shN kind v (n + 1)).c := by
 match kind, hk with
 | 0, _ =>
  refine ⟨?_, ?_⟩
  ·show v <<< n <<< 1 = v <<< (n + 1)
   rw [BitVec.shiftLeft_add]
  ·show (v <<< n).msb = (decide (n + 1 ≤ 32) && v.getLsbD (32 - (n + 1)))
   rw [BitVec.msb_eq_getLsbD_last, BitVec.getLsbD_shiftLeft]
   by_cases h : n ≤ 31
   ·have h1 : ¬ 31 < n := by omega
    have h2 : n + 1 ≤ 32 := by omega
    rw [show 32 - (n + 1) = 31 - n from by omega]
    simp [h1, h2]
   ·have h1 : 31 < n := by omega
    have h2 : ¬ n + 1 ≤ 32 := by omega
    simp [h1, h2]
 | 1, _ =>
  refine ⟨?_, ?_⟩
  ·show v >>> n >>> 1 = v >>> (n + 1)
   rw [BitVec.shiftRight_add]
  ·show (v >>> n).getLsbD 0 = v.getLsbD (n + 1 - 1)
   rw [BitVec.getLsbD_ushiftRight]; simp
 | 2, _ =>
  refine ⟨?_, ?_⟩
  ·show (v.sshiftRight (min n 32)).sshiftRight 1 = v.sshiftRight (min (n + 1) 32)
   apply BitVec.eq_of_getLsbD_eq
   intro i hi
   simp only [BitVec.getLsbD_sshiftRight, BitVec.msb_sshiftRight]
   by_cases h : n < 32
   ·rw [show min n 32 = n from by omega, show min (n + 1) 32 = n + 1 from by omega]
    by_cases h1 : 1 + i < 32
    ·have h2 : n + (1 + i) = n + 1 + i := by omega
     simp [h1, h2]
    ·have h2 : ¬ n + 1 + i < 32 := by omega
     simp [h1, h2]
   ·rw [show min n 32 = 32 from by omega, show min (n + 1) 32 = 32 from by omega]
    by_cases h1 : 1 + i < 32 <;> simp [h1]
  ·show (v.sshiftRight (min n 32)).getLsbD 0 = v.getLsbD (min (n + 1) 32 - 1)
   rw [BitVec.getLsbD_sshiftRight]
   by_cases h : n < 32
   ·rw [show min n 32 = n from by omega, show min (n + 1) 32 - 1 = n from by omega]
    simp [h]
   ·rw [show min n 32 = 32 from by omega, show min (n + 1) 32 - 1 = 31 from by omega]
    simp [BitVec.msb_eq_getLsbD_last]
 | 3, _ =>
  have h1 : (v.rotateRight (n % 32)).rotateRight 1 = v.rotateRight ((n + 1) % 32) := by
   apply BitVec.eq_of_getLsbD_eq
   intro i hi
   rw [rotb _ _ _ hi, rotb _ _ _ (Nat.mod_lt _ (by omega)), rotb _ _ _ hi]
   congr 1; omega
  refine ⟨h1, ?_⟩
  show (v.rotateRight (n % 32)).getLsbD 0 = (v.rotateRight ((n + 1) % 32)).msb
  rw [← h1, BitVec.msb_eq_getLsbD_last, rotb _ 1 _ (by omega)]
theorem z_pu (kind : Nat) (hk : kind ≤ 3) (v : BitVec 32) (c : Bool) : ∀ n : Nat, sIter kind (n + 1) (v, c) = ((shN kind v (n + 1)).w, (shN kind v (n + 1)).c)
 | 0 => by
  rw [z_ig]
  show (stepK kind v, outK kind v) = _
  match kind, hk with
  | 0, _ => simp [stepK, outK, shN, BitVec.msb_eq_getLsbD_last]
  | 1, _ => simp [stepK, outK, shN]
  | 2, _ => simp [stepK, outK, shN]
  | 3, _ =>
   refine Prod.ext rfl ?_
   show v.getLsbD 0 = (v.rotateRight 1).msb
   rw [BitVec.msb_eq_getLsbD_last, BitVec.getLsbD_rotateRight]; simp
 | n + 1 => by
  rw [z_ig, z_pu kind hk v c n]
  obtain ⟨h1, h2⟩ := z_vb kind hk v (n + 1) (by omega)
  rw [h1, h2]
theorem z_sb (kind : Nat) (hk3 : kind ≤ 3) (by_ : BitVec 32) : ∀ (d i : Nat) (v : BitVec 32) (c : Bool) (H : Hp) (b : AV), i + d = min by_.toNat 70 → H.WF → z_ga H b v → ∃ H' b',
  aloop rshL (AFr.al [(0, .int .i64 kind), (2, W32 by_), (3, .bool c), (10, b), (11, W32 (BitVec.ofNat 32 i))]) H =
   some (.exit 0, AFr.al [(0, .int .i64 kind), (2, W32 by_), (3, .bool (sIter kind d (v, c)).2), (10, b'), (11, W32 (BitVec.ofNat 32 (i + d))), (37, .bool false)], H') ∧ z_ga H' b' (sIter kind d (v, c)).1
 | 0, i, v, c, H, b, hi, hw, hb => by
  refine ⟨H, b, z_ce (by simp) ?_, hb⟩
  by_cases h : by_.toNat ≤ 70
  ·have h1 : ¬ BitVec.ofNat 32 i < by_ := by rw [BitVec.lt_def, BitVec.toNat_ofNat]; omega
   simp -implicitDefEqProofs +contextual (disch := omega) [rshL, z_ap.l0, h1, sIter]
  ·have h1 : ¬ BitVec.ofNat 32 i < 70#32 := by rw [BitVec.lt_def, BitVec.toNat_ofNat]; simp; omega
   have h2 : BitVec.ofNat 32 i < by_ := by rw [BitVec.lt_def, BitVec.toNat_ofNat]; omega
   simp -implicitDefEqProofs +contextual (disch := omega) [rshL, z_ap.l0, h1, h2, sIter]
 | d + 1, i, v, c, H, b, hi, hw, hb => by
  obtain ⟨H1, b1, q1, q2, q3⟩ := z_x2 kind hk3 v by_ c i (by omega) (by omega) H hw b hb
  obtain ⟨H2, b2, p1, p2⟩ := z_sb kind hk3 by_ d (i + 1) (stepK kind v) (outK kind v) H1 b1 (by omega) q3 q2
  rw [show i + 1 + d = i + (d + 1) from by omega] at p1
  exact ⟨H2, b2, by rw [z_dk q1]; exact p1, p2⟩
theorem z_x4 (kind : Nat) (hk : kind ≤ 2) (v : BitVec 32) (n : Nat) (hn : 70 ≤ n) : shN kind v n = shN kind v 70 := by
 match kind, hk with
 | 0, _ =>
  have h1 : v <<< n = v <<< 70 := by rw [BitVec.shiftLeft_eq_zero (by omega), BitVec.shiftLeft_eq_zero (by omega)]
  have h2 : ¬ n ≤ 32 := by omega
  simp [shN, h1, h2]
 | 1, _ =>
  have h1 : v >>> n = v >>> 70 := by rw [BitVec.ushiftRight_eq_zero (by omega), BitVec.ushiftRight_eq_zero (by omega)]
  have h2 : v.getLsbD (n - 1) = v.getLsbD 69 := by rw [BitVec.getLsbD_of_ge _ _ (by omega), BitVec.getLsbD_of_ge _ _ (by omega)]
  show Sh2.mk (v >>> n) (v.getLsbD (n - 1)) = Sh2.mk (v >>> 70) (v.getLsbD 69)
  rw [h1, h2]
 | 2, _ =>
  show Sh2.mk (v.sshiftRight (min n 32)) (v.getLsbD (min n 32 - 1)) = Sh2.mk (v.sshiftRight (min 70 32)) (v.getLsbD (min 70 32 - 1))
  rw [show min n 32 = min 70 32 from by omega]
theorem z_k4 (kind : Nat) (hk : kind ≤ 3) (a by_ : BitVec 32) (c : Bool) (h3 : kind = 3 → by_.toNat ≤ 64) : ∃ H' b',
  aloop rshL (AFr.al [(0, .int .i64 kind), (2, W32 by_), (3, .bool c), (10, .rsl 1 (bls (bitsL a))), (11, W32 0#32)]) Hp.empty =
   some (.exit 0, AFr.al [(0, .int .i64 kind), (2, W32 by_), (3, .bool (z_db kind a by_ c).c), (10, b'), (11, W32 (BitVec.ofNat 32 (min by_.toNat 70))), (37, .bool false)], H') ∧ z_ga H' b' (z_db kind a by_ c).w := by
 obtain ⟨H', b', h1, h2⟩ := z_sb kind hk by_ (min by_.toNat 70) 0 a c Hp.empty (.rsl 1 (bls (bitsL a))) (by omega) Hp.WF.empty (.inl rfl)
 rw [Nat.zero_add] at h1
 have key : sIter kind (min by_.toNat 70) (a, c) = ((z_db kind a by_ c).w, (z_db kind a by_ c).c) := by
  unfold z_db
  by_cases h0 : by_ = 0#32
  ·subst h0; rfl
  ·have hp : 0 < by_.toNat := Nat.pos_of_ne_zero fun e => h0 (BitVec.eq_of_toNat_eq (by simpa using e))
   rw [if_neg h0, show min by_.toNat 70 = min by_.toNat 70 - 1 + 1 from by omega, z_pu kind hk a c, show min by_.toNat 70 - 1 + 1 = min by_.toNat 70 from by omega]
   by_cases h70 : by_.toNat ≤ 70
   ·rw [Nat.min_eq_left h70]
   ·have hk2 : kind ≤ 2 := by
     by_cases e : kind = 3
     ·have := h3 e; omega
     ·omega
    rw [Nat.min_eq_right (by omega), z_x4 kind hk2 a by_.toNat (by omega)]
 rw [key] at h1 h2
 exact ⟨H', b', h1, h2⟩
theorem z_jv (kind : Nat) (hk : kind ≤ 3) (a by_ : BitVec 32) (c : Bool) : z_ap.spec [.int .i64 (kind : Nat), W32 a, W32 by_, .bool c] = some (.tup [W32 (z_db kind a by_ c).w, .bool (z_db kind a by_ c).c]) := by
 have b1 := z_mi a
 have k0 : ¬ (kind : Int) < 0 := by omega
 have k1 : ¬ (3 : Int) < kind := by omega
 by_cases h3 : kind = 3 ∧ 64#32 < by_
 ·obtain ⟨h4, h5⟩ := h3
  obtain ⟨q, hq⟩ : ∃ q : BitVec 32, 32#32 + by_ % 32#32 = q := ⟨_, rfl⟩
  have hqn : q.toNat = 32 + by_.toNat % 32 := by rw [← hq, BitVec.toNat_add, BitVec.toNat_umod]; simp; omega
  have hb5 : 64 < by_.toNat := by rw [BitVec.lt_def] at h5; simpa using h5
  obtain ⟨H', b', h1, h2⟩ := z_k4 kind hk a q c (fun _ => by omega)
  have e : z_db kind a q c = z_db kind a by_ c := by
   subst h4
   unfold z_db
   rw [if_neg (fun e => by rw [e] at hqn; simp at hqn; omega), if_neg (fun e => by rw [e] at hb5; simp at hb5)]
   show Sh2.mk (a.rotateRight (q.toNat % 32)) (a.rotateRight (q.toNat % 32)).msb = Sh2.mk (a.rotateRight (by_.toNat % 32)) (a.rotateRight (by_.toNat % 32)).msb
   rw [show q.toNat % 32 = by_.toNat % 32 from by omega]
  rw [e] at h1 h2
  have hw := Word_eq' (z_db kind a by_ c).w
  have lv : (bitsL (z_db kind a by_ c).w).length = 32 := by simp [bitsL]
  have ht : (bls (bitsL (z_db kind a by_ c).w)).take 32 = bls (bitsL (z_db kind a by_ c).w) := List.take_of_length_le (by rw [z_he, lv]; exact Nat.le_refl _)
  subst h4
  push_cast at h1 ⊢
  rcases h2 with rfl | ⟨o, rfl, ho⟩
  ·simp -implicitDefEqProofs +contextual (disch := omega) [z_ap.spec, z_ap, b1, h5, hq, h1, hw]
  ·simp only [bBlk] at ho
   simp -implicitDefEqProofs +contextual (disch := omega) [z_ap.spec, z_ap, b1, h5, hq, h1, hw, ho, lv, ht]
 ·obtain ⟨H', b', h1, h2⟩ := z_k4 kind hk a by_ c (fun e => by
   have : ¬ 64#32 < by_ := fun q => h3 ⟨e, q⟩
   rw [BitVec.lt_def] at this; simp at this; omega)
  have hw := Word_eq' (z_db kind a by_ c).w
  have lv : (bitsL (z_db kind a by_ c).w).length = 32 := by simp [bitsL]
  have ht : (bls (bitsL (z_db kind a by_ c).w)).take 32 = bls (bitsL (z_db kind a by_ c).w) := List.take_of_length_le (by rw [z_he, lv]; exact Nat.le_refl _)
  by_cases h4 : kind = 3
  ·have h5 : ¬ 64#32 < by_ := fun q => h3 ⟨h4, q⟩
   subst h4
   push_cast at h1 ⊢
   rcases h2 with rfl | ⟨o, rfl, ho⟩
   ·simp -implicitDefEqProofs +contextual (disch := omega) [z_ap.spec, z_ap, b1, h5, h1, hw]
   ·simp only [bBlk] at ho
    simp -implicitDefEqProofs +contextual (disch := omega) [z_ap.spec, z_ap, b1, h5, h1, hw, ho, lv, ht]
  ·have h4i : ¬ (kind : Int) = 3 := by omega
   rcases h2 with rfl | ⟨o, rfl, ho⟩
   ·simp -implicitDefEqProofs +contextual (disch := omega) [z_ap.spec, z_ap, b1, h4, h4i, h1, hw, k0, k1]
   ·simp only [bBlk] at ho
    simp -implicitDefEqProofs +contextual (disch := omega) [z_ap.spec, z_ap, b1, h4, h4i, h1, hw, ho, lv, ht, k0, k1]
end Go.Abs
end
section
namespace Go.Abs
noncomputable abbrev rrotL := z_cy.l0 z_bq.spec z_bn.spec
theorem z_rv (v : BitVec 32) : [[AV.bool (atb (bitsL v) 31)]] ++ (bls (bitsL v)).take 31 = bls (bitsL (v.rotateLeft 1)) := by
 have e : bitsL (v.rotateLeft 1) = atb (bitsL v) 31 :: (bitsL v).take 31 := by
  apply List.ext_getElem?
  intro j
  cases j with
  | zero =>
   simp [bitsL, tell, atb, BitVec.getLsbD_rotateLeft]
  | succ j =>
   rw [List.getElem?_cons_succ, List.getElem?_take]
   by_cases h : j < 31
   ·rw [if_pos h]
    have h1 : j + 1 < 32 := by omega
    have h2 : j < 32 := by omega
    simp [bitsL, tell, h1, h2, BitVec.getLsbD_rotateLeft]
   ·rw [if_neg h, List.getElem?_eq_none (by simp [bitsL]; omega)]
 rw [e]; simp [bls, List.map_take]
theorem z_x7 (v : BitVec 32) (i : Nat) (hi : i < 31) : (v.rotateLeft i).rotateLeft 1 = v.rotateLeft (i + 1) := by
 apply BitVec.eq_of_getLsbD_eq
 intro j hj
 simp only [BitVec.getLsbD_rotateLeft, Nat.reduceMod, Nat.mod_eq_of_lt (show i < 32 by omega), Nat.mod_eq_of_lt (show i + 1 < 32 by omega)]
 by_cases h0 : j < 1
 ·have : j = 0 := by omega
  subst this
  have q : ¬ 31 < i := by omega
  simp [q]
 ·by_cases h1 : j - 1 < i
  ·have q : j < i + 1 := by omega
   have q2 : 31 - i + j = 32 - i + (j - 1) := by omega
   simp [h0, h1, q, q2, hj]
  ·have q : ¬ j < i + 1 := by omega
   have q2 : j - (i + 1) = j - 1 - i := by omega
   have q3 : j - 1 < 32 := by omega
   simp [h0, h1, q, q2, q3, hj]
theorem z_vg (v n : BitVec 32) (i : Nat) (hi : i < n.toNat % 32) (H : Hp) (hw : H.WF) (b : AV) (hb : z_ga H b v) (x : List (Nat × AV)) : ∃ y H' b',
  rrotL (AFr.al ([(1, W32 n), (5, b), (6, W32 (BitVec.ofNat 32 i))] ++ x)) H = some (.normal, AFr.al ([(1, W32 n), (5, b'), (6, W32 (BitVec.ofNat 32 (i + 1)))] ++ y), H') ∧ H'.WF ∧ z_ga H' b' (v.rotateLeft 1) := by
 have hlt : BitVec.ofNat 32 i < n % 32#32 := by
  rw [BitVec.lt_def, BitVec.toNat_umod, BitVec.toNat_ofNat]; simp; omega
 have h1 : BitVec.ofNat 32 i + 1#32 = BitVec.ofNat 32 (i + 1) := by
  apply BitVec.eq_of_toNat_eq; simp
 have ht := z_rv v
 simp only [bitsL, List.singleton_append] at ht
 rcases hb with rfl | ⟨o, rfl, ho⟩
 ·refine ⟨?_, ?_, ?_, ?_, ?_, ?_⟩
  rotate_left 3
  ·simp -implicitDefEqProofs +contextual (disch := try first | omega | assumption) [z_cy.l0, hlt, h1, bitsL, z_gc]
   constructor <;> rfl
  ·(repeat' (first | assumption | with_reducible apply Hp.WF.push | with_reducible apply Hp.WF.set)) <;> (simp <;> omega)
  ·right; simp (disch := omega) [bBlk, bitsL, z_gc]; exact ht
 ·have hbo := hw _ _ ho
  simp only [bBlk] at ho
  refine ⟨?_, ?_, ?_, ?_, ?_, ?_⟩
  rotate_left 3
  ·simp -implicitDefEqProofs +contextual (disch := try first | omega | assumption) [z_cy.l0, hlt, h1, bitsL, z_gc, ho]
   constructor <;> rfl
  ·(repeat' (first | assumption | with_reducible apply Hp.WF.push | with_reducible apply Hp.WF.set)) <;> (simp <;> omega)
  ·right; simp (disch := omega) [bBlk, bitsL, z_gc]; exact ht
theorem z_sg (a n : BitVec 32) : ∀ (d i : Nat) (H : Hp) (b : AV) (x : List (Nat × AV)), i + d = n.toNat % 32 → H.WF → z_ga H b (a.rotateLeft i) →
  ∃ fr' H' b', aloop rrotL (AFr.al ([(1, W32 n), (5, b), (6, W32 (BitVec.ofNat 32 i))] ++ x)) H = some (.exit 0, fr', H') ∧ fr' 5 = b' ∧ z_ga H' b' (a.rotateLeft (n.toNat % 32)) := by
 intro d
 induction d with
 | zero =>
  intro i H b x h hw hb
  obtain rfl : i = n.toNat % 32 := by omega
  have hlt : ¬ BitVec.ofNat 32 (n.toNat % 32) < n % 32#32 := by
   rw [BitVec.lt_def, BitVec.toNat_umod, BitVec.toNat_ofNat]; simp; omega
  refine ⟨_, H, b, z_ce (by simp) (by simp -implicitDefEqProofs +contextual (disch := omega) [z_cy.l0, hlt]; rfl), ?_, hb⟩
  simp
 | succ d ih =>
  intro i H b x h hw hb
  obtain ⟨y, H1, b1, s1, s2, s3⟩ := z_vg (a.rotateLeft i) n i (by omega) H hw b hb x
  rw [z_x7 a i (by omega)] at s3
  obtain ⟨fr', H', b', p1, p2⟩ := ih (i + 1) H1 b1 y (by omega) s2 s3
  exact ⟨fr', H', b', (z_dk s1).trans p1, p2⟩
theorem z_yc (a n : BitVec 32) : z_cy.spec [W32 a, W32 n] = some (W32 (a.rotateLeft (n.toNat % 32))) := by
 have hB := z_mi a
 generalize hwd : a.rotateLeft (n.toNat % 32) = w
 have hW := Word_eq' w
 have h0 : a.rotateLeft 0 = a := by
  apply BitVec.eq_of_getLsbD_eq; intro j hj; simp [BitVec.getLsbD_rotateLeft, hj]
 simp -implicitDefEqProofs +contextual (disch := omega) [z_cy.spec, z_cy, hB]
 generalize hr : aloop _ _ _ = r
 obtain ⟨fr', H', b', p1, p2, p3⟩ := z_sg a n (n.toNat % 32) 0 Hp.empty (.rsl 1 (bls (bitsL a))) [] (by omega) Hp.WF.empty (.inl (by rw [h0]))
 have hr2 := hr.symm.trans p1
 subst hr2
 rw [hwd] at p3
 rcases p3 with rfl | ⟨o, rfl, ho⟩
 ·simp -implicitDefEqProofs +contextual (disch := omega) [p2, hW]
 ·simp only [bBlk] at ho
  have hl : (bitsL w).length = 32 := by simp [bitsL]
  have ht : (bls (bitsL w)).take 32 = bls (bitsL w) := List.take_of_length_le (by rw [z_he, hl]; omega)
  simp -implicitDefEqProofs +contextual (disch := omega) [p2, ho, hl, ht, hW]
end Go.Abs
end
end
section
namespace Go.Abs
structure MemM where
 code : List (BitVec 16)
 words : List (BitVec 32)
 tape : List (BitVec 32)
 drawn : Nat
 bus : BitVec 32
def z_d1 (l : List (BitVec 32)) : Blk := ⟨T.ty_uint32, 1, true, w32s l⟩
def MemM.new (code : List (BitVec 16)) (n : Int) (tape : List (BitVec 32)) : MemM := ⟨code.take 60000, List.replicate (min (max n 0) 16000).toNat 0#32, tape, 0, 0#32⟩
def wslot (a : BitVec 32) : Nat := (a - 536870912#32).toNat / 4
def MemM.at (m : MemM) (a : BitVec 32) : Bool := decide (536870912#32 ≤ a) && decide (wslot a < m.words.length)
def MemM.load (m : MemM) (a : BitVec 32) : (BitVec 32 × Int) × MemM :=
 if a % 4#32 ≠ 0#32 then ((0#32, 50), m)
 else if a = 1073741824#32 then (if m.drawn = m.tape.length then ((0#32, 51), m) else ((at0 m.tape m.drawn, 0), { m with drawn := m.drawn + 1 }))
 else if m.at a = true then ((at0 m.words (wslot a), 0), m)
 else if a.toNat / 2 + 1 < m.code.length then ((((at0 m.code (a.toNat / 2)).setWidth 32) ||| (((at0 m.code (a.toNat / 2 + 1)).setWidth 32) <<< 16), 0), m)
 else ((0#32, 50), m)
def MemM.loads (m : MemM) (a : BitVec 32) : (BitVec 32 × Int) × MemM :=
 let r := m.load a
 (r.1, if r.1.2 = 0 then { r.2 with bus := r.1.1 } else r.2)
def MemM.store (m : MemM) (a w : BitVec 32) : Int × MemM :=
 if m.at a = true ∧ a % 4#32 = 0#32 then (0, { m with words := m.words.set (wslot a) w, bus := w }) else (50, m)
def MemM.fetch (m : MemM) (a : BitVec 32) : BitVec 16 × Int :=
 if a % 2#32 = 0#32 ∧ a.toNat / 2 < m.code.length then (at0 m.code (a.toNat / 2), 0) else (0#16, 50)
structure MemM.Ok (m : MemM) : Prop where
 code : m.code.length ≤ 60000
 words : m.words.length ≤ 16000
 tape : m.tape.length ≤ 1000000000
 drawn : m.drawn ≤ m.tape.length
end Go.Abs
end
section
section
namespace Go.Abs
structure StM where
 r : List (BitVec 32)
 len : r.length = 8
 pc : BitVec 32
 n : Bool
 z : Bool
 c : Bool
 v : Bool
theorem StM.ext_iff' (s t : StM) : s = t ↔ s.r = t.r ∧ s.pc = t.pc ∧ s.n = t.n ∧ s.z = t.z ∧ s.c = t.c ∧ s.v = t.v := by
 cases s; cases t; simp
instance : DecidableEq StM := fun s t => decidable_of_iff _ (StM.ext_iff' s t).symm
def StM.setR (s : StM) (k : Nat) (x : BitVec 32) : StM := { s with r := s.r.set k x, len := by rw [List.length_set]; exact s.len }
def StM.setPC (s : StM) (x : BitVec 32) : StM := { s with pc := x }
def StM.setN (s : StM) (x : Bool) : StM := { s with n := x }
def StM.setZ (s : StM) (x : Bool) : StM := { s with z := x }
def StM.setC (s : StM) (x : Bool) : StM := { s with c := x }
def StM.setV (s : StM) (x : Bool) : StM := { s with v := x }
def StM.reg (s : StM) (k : Nat) : BitVec 32 := at0 s.r k
def StM.cells (s : StM) : List AV := s.r.map W32 ++ [W32 s.pc, .bool s.n, .bool s.z, .bool s.c, .bool s.v]
section
variable (s t : StM)
@[simp] theorem sm_len : s.cells.length = 13 := by simp [StM.cells, s.len]
theorem z_r5 (i : Nat) : s.cells[8 + i]? = [W32 s.pc, .bool s.n, .bool s.z, .bool s.c, .bool s.v][i]? := by
 unfold StM.cells; rw [List.getElem?_append_right (by simp [s.len])]; simp [s.len]
theorem sm_reg (k : Nat) (h : k < 8) : s.cells[k]? = some (W32 (s.reg k)) := by
 unfold StM.cells; rw [List.getElem?_append_left (by simp [s.len, h])]
 rw [List.getElem?_map, z_j9 s.r k (by rw [s.len]; exact h)]; rfl
@[simp] theorem sm_8 : s.cells[8]? = some (W32 s.pc) := z_r5 s 0
@[simp] theorem sm_11 : s.cells[11]? = some (.bool s.c) := z_r5 s 3
@[simp] theorem sm_get (k : Nat) (h : k < 8) : s.cells[k]? = some (W32 (s.reg k)) := sm_reg s k h
@[simp] theorem sm_set (k : Nat) (x : BitVec 32) (h : k < 8) : s.cells.set k (W32 x) = (s.setR k x).cells := by
 unfold StM.cells StM.setR; rw [List.set_append_left _ _ (by simp [s.len, h])]; simp [List.map_set]
theorem z_fi (i : Nat) (x : AV) : s.cells.set (8 + i) x = s.r.map W32 ++ [W32 s.pc, .bool s.n, .bool s.z, .bool s.c, .bool s.v].set i x := by
 unfold StM.cells; rw [List.set_append_right _ _ (by simp [s.len])]; simp [s.len]
@[simp] theorem sm_set8 (x : BitVec 32) : s.cells.set 8 (W32 x) = (s.setPC x).cells := z_fi s 0 _
@[simp] theorem sm_set9 (x : Bool) : s.cells.set 9 (.bool x) = (s.setN x).cells := z_fi s 1 _
@[simp] theorem sm_set10 (x : Bool) : s.cells.set 10 (.bool x) = (s.setZ x).cells := z_fi s 2 _
@[simp] theorem sm_set11 (x : Bool) : s.cells.set 11 (.bool x) = (s.setC x).cells := z_fi s 3 _
@[simp] theorem sm_set12 (x : Bool) : s.cells.set 12 (.bool x) = (s.setV x).cells := z_fi s 4 _
theorem z_r6 (a : AV) (h : a ∈ s.cells) : (∃ x, a = W32 x) ∨ ∃ b, a = .bool b := by
 simp only [StM.cells, List.mem_append, List.mem_map, List.mem_cons, List.not_mem_nil, or_false] at h
 rcases h with ⟨x, _, rfl⟩ | rfl | rfl | rfl | rfl | rfl
 ·exact .inl ⟨_, rfl⟩
 ·exact .inl ⟨_, rfl⟩
 all_goals exact .inr ⟨_, rfl⟩
@[simp] theorem sm_isCell : s.cells.all AV.isCell = true := List.all_eq_true.2 fun a h => by
 rcases z_r6 s a h with ⟨x, rfl⟩ | ⟨b, rfl⟩ <;> rfl
@[simp] theorem sm_flat : s.cells.all AV.flat = true := List.all_eq_true.2 fun a h => by
 rcases z_r6 s a h with ⟨x, rfl⟩ | ⟨b, rfl⟩ <;> rfl
@[simp] theorem sm_take : s.cells.take 13 = s.cells := List.take_of_length_le (by simp)
theorem z_h6 (H : Hp) : ∀ (l : List (Option Nat)) (cs : List AV), l.length = cs.length → (∀ a, a ∈ cs → (∃ x, a = W32 x) ∨ ∃ b, a = .bool b) → z_c5 H l cs = some (cs, [])
 | [], [], _, _ => rfl
 | n :: l, c :: cs, h, hc => by
  have ih := z_h6 H l cs (by simpa using h) fun a ha => hc a (List.mem_cons_of_mem _ ha)
  rw [z_l4, ih]
  rcases hc c List.mem_cons_self with ⟨x, rfl⟩ | ⟨b, rfl⟩ <;> rfl
@[simp] theorem sm_frz (H : Hp) : z_c5 H [none, none, none, none, none, none, none, none, none, none, none, none, none] s.cells = some (s.cells, []) :=
 z_h6 H _ _ (by simp) (z_r6 s)
theorem z_ix : ∀ (cs l : List AV) (k : Nat), k + cs.length = l.length → z_dc l k cs = l.take k ++ cs
 | [], l, k, h => by simp only [z_dc, List.append_nil]; rw [List.take_of_length_le (by simp only [List.length_nil] at h; omega)]
 | c :: cs, l, k, h => by
  simp only [List.length_cons] at h
  rw [z_dc, z_ix cs (l.set k c) (k + 1) (by simp; omega)]
  rw [List.take_succ_eq_append_getElem (by simp; omega), List.take_set_of_le (Nat.le_refl k)]
  simp
theorem z_hz (l cs : List AV) (h : cs.length = l.length) : z_dc l 0 cs = cs := by
 rw [z_ix cs l 0 (by omega)]; rfl
@[simp] theorem sm_over : z_dc t.cells 0 s.cells = s.cells := z_hz _ _ (by simp)
@[simp] theorem sm_over0 (a0 a1 a2 a3 a4 a5 a6 a7 a8 a9 a10 a11 a12 : AV) : z_dc [a0, a1, a2, a3, a4, a5, a6, a7, a8, a9, a10, a11, a12] 0 s.cells = s.cells := z_hz _ _ (by simp)
end
@[simp] theorem setPC_r (s : StM) (x : BitVec 32) : (s.setPC x).r = s.r := rfl
@[simp] theorem z_hy (s : StM) (x : BitVec 32) (k : Nat) : (s.setPC x).reg k = s.reg k := rfl
@[simp] theorem setPC_pc (s : StM) (x : BitVec 32) : (s.setPC x).pc = x := rfl
@[simp] theorem setPC_n (s : StM) (x : BitVec 32) : (s.setPC x).n = s.n := rfl
@[simp] theorem setPC_z (s : StM) (x : BitVec 32) : (s.setPC x).z = s.z := rfl
@[simp] theorem setPC_c (s : StM) (x : BitVec 32) : (s.setPC x).c = s.c := rfl
@[simp] theorem setPC_v (s : StM) (x : BitVec 32) : (s.setPC x).v = s.v := rfl
@[simp] theorem setN_r (s : StM) (x : Bool) : (s.setN x).r = s.r := rfl
@[simp] theorem setN_reg (s : StM) (x : Bool) (k : Nat) : (s.setN x).reg k = s.reg k := rfl
@[simp] theorem setN_pc (s : StM) (x : Bool) : (s.setN x).pc = s.pc := rfl
@[simp] theorem setN_n (s : StM) (x : Bool) : (s.setN x).n = x := rfl
@[simp] theorem setN_z (s : StM) (x : Bool) : (s.setN x).z = s.z := rfl
@[simp] theorem setN_c (s : StM) (x : Bool) : (s.setN x).c = s.c := rfl
@[simp] theorem setN_v (s : StM) (x : Bool) : (s.setN x).v = s.v := rfl
@[simp] theorem setZ_r (s : StM) (x : Bool) : (s.setZ x).r = s.r := rfl
@[simp] theorem setZ_reg (s : StM) (x : Bool) (k : Nat) : (s.setZ x).reg k = s.reg k := rfl
@[simp] theorem setZ_pc (s : StM) (x : Bool) : (s.setZ x).pc = s.pc := rfl
@[simp] theorem setZ_n (s : StM) (x : Bool) : (s.setZ x).n = s.n := rfl
@[simp] theorem setZ_z (s : StM) (x : Bool) : (s.setZ x).z = x := rfl
@[simp] theorem setZ_c (s : StM) (x : Bool) : (s.setZ x).c = s.c := rfl
@[simp] theorem setZ_v (s : StM) (x : Bool) : (s.setZ x).v = s.v := rfl
@[simp] theorem setC_r (s : StM) (x : Bool) : (s.setC x).r = s.r := rfl
@[simp] theorem setC_reg (s : StM) (x : Bool) (k : Nat) : (s.setC x).reg k = s.reg k := rfl
@[simp] theorem setC_pc (s : StM) (x : Bool) : (s.setC x).pc = s.pc := rfl
@[simp] theorem setC_n (s : StM) (x : Bool) : (s.setC x).n = s.n := rfl
@[simp] theorem setC_z (s : StM) (x : Bool) : (s.setC x).z = s.z := rfl
@[simp] theorem setC_c (s : StM) (x : Bool) : (s.setC x).c = x := rfl
@[simp] theorem setC_v (s : StM) (x : Bool) : (s.setC x).v = s.v := rfl
@[simp] theorem setV_r (s : StM) (x : Bool) : (s.setV x).r = s.r := rfl
@[simp] theorem setV_reg (s : StM) (x : Bool) (k : Nat) : (s.setV x).reg k = s.reg k := rfl
@[simp] theorem setV_pc (s : StM) (x : Bool) : (s.setV x).pc = s.pc := rfl
@[simp] theorem setV_n (s : StM) (x : Bool) : (s.setV x).n = s.n := rfl
@[simp] theorem setV_z (s : StM) (x : Bool) : (s.setV x).z = s.z := rfl
@[simp] theorem setV_c (s : StM) (x : Bool) : (s.setV x).c = s.c := rfl
@[simp] theorem setV_v (s : StM) (x : Bool) : (s.setV x).v = x := rfl
@[simp] theorem setR_pc (s : StM) (k : Nat) (x : BitVec 32) : (s.setR k x).pc = s.pc := rfl
@[simp] theorem setR_n (s : StM) (k : Nat) (x : BitVec 32) : (s.setR k x).n = s.n := rfl
@[simp] theorem setR_z (s : StM) (k : Nat) (x : BitVec 32) : (s.setR k x).z = s.z := rfl
@[simp] theorem setR_c (s : StM) (k : Nat) (x : BitVec 32) : (s.setR k x).c = s.c := rfl
@[simp] theorem setR_v (s : StM) (k : Nat) (x : BitVec 32) : (s.setR k x).v = s.v := rfl
@[simp] theorem setR_r (s : StM) (k : Nat) (x : BitVec 32) : (s.setR k x).r = s.r.set k x := rfl
end Go.Abs
end
section
namespace Go.Abs
def z_fm (s : StM) (w : BitVec 32) : StM := (s.setN w.msb).setZ (w == 0#32)
def holdB (k : Nat) (s : StM) : Bool :=
 match k with
 | 0 => s.z
 | 1 => s.c
 | 2 => s.n
 | 3 => s.v
 | 4 => s.c && !s.z
 | 5 => s.n == s.v
 | 6 => !s.z && s.n == s.v
 | _ => false
def z_e3 (k : Nat) (s : StM) : Bool := holdB (k / 2) s == (k % 2 == 0)
def addS (s : StM) (a b : BitVec 32) (c : Bool) : StM × BitVec 32 := (z_fm ((s.setC (addM a b c).c).setV (addM a b c).v) (addM a b c).w, (addM a b c).w)
def z_gw (s : StM) (k : Nat) (a b : BitVec 32) : StM × BitVec 32 := (z_fm (s.setC (z_db k a b s.c).c) (z_db k a b s.c).w, (z_db k a b s.c).w)
def aluM (s : StM) (op : Nat) (a b : BitVec 32) : StM × BitVec 32 :=
 match op with
 | 0 | 8 => (z_fm s (a &&& b), a &&& b)
 | 1 => (z_fm s (a ^^^ b), a ^^^ b)
 | 2 => z_gw s 0 a (b &&& 255#32)
 | 3 => z_gw s 1 a (b &&& 255#32)
 | 4 => z_gw s 2 a (b &&& 255#32)
 | 5 => addS s a b s.c
 | 6 => addS s a (~~~b) s.c
 | 7 => z_gw s 3 a (b &&& 255#32)
 | 9 => addS s 0#32 (~~~b) true
 | 10 => addS s a (~~~b) true
 | 11 => addS s a b false
 | 12 => (z_fm s (a ||| b), a ||| b)
 | 13 => (z_fm s (a * b), a * b)
 | 14 => (z_fm s (a &&& ~~~b), a &&& ~~~b)
 | _ => (z_fm s (~~~b), ~~~b)
end Go.Abs
end
section
namespace Go.Abs
open Th
def immW (imm : Int) : BitVec 32 := BitVec.ofInt 32 imm
def reckM (s : StM) (k : Nat) (D N M : Nat) (imm : Int) : StM × BitVec 32 :=
 match k with
 | 0 => (z_fm s (immW imm), immW imm)
 | 1 | 3 => addS s (s.reg D) (~~~(immW imm)) true
 | 2 => addS s (s.reg D) (immW imm) false
 | 4 => z_gw s 0 (s.reg M) (immW imm)
 | 5 => z_gw s 1 (s.reg M) (immW imm)
 | 6 => z_gw s 2 (s.reg M) (immW imm)
 | 7 => addS s (s.reg N) (s.reg M) false
 | 8 => addS s (s.reg N) (~~~(s.reg M)) true
 | 9 => addS s (s.reg N) (immW imm) false
 | 10 => addS s (s.reg N) (~~~(immW imm)) true
 | _ => aluM s imm.toNat (s.reg D) (s.reg M)
def addrM (s : StM) (k : Nat) (N M : Nat) (imm : Int) : BitVec 32 :=
 match k with
 | 14 | 15 => s.reg N + s.reg M
 | 16 => ((s.pc + 4#32) &&& ~~~3#32) + 4#32 * immW imm
 | _ => s.reg N + 4#32 * immW imm
def moveM (s : StM) (k D : Nat) (a : BitVec 32) (m : MemM) : StM × MemM × Int :=
 if k = 13 ∨ k = 15 then (s, (m.store a (s.reg D)).2, (m.store a (s.reg D)).1)
 else (if (m.loads a).1.2 = 0 then s.setR D (m.loads a).1.1 else s, (m.loads a).2, (m.loads a).1.2)
end Go.Abs
end
end
section
namespace Go.Abs
open Th
def z_ef (i : InsM) : Int × Bool :=
 if i.can = true then (if i.op = 1 ∨ i.op = 13 ∨ i.op = 15 ∨ 17 ≤ i.op ∨ (i.op = 11 ∧ (i.imm = 8 ∨ i.imm = 10 ∨ i.imm = 11)) then (0, false) else (i.d, true)) else (0, false)
structure Did where
 s : StM
 m : MemM
 stop : Bool
 e : Int
def doM (i : InsM) (s : StM) (m : MemM) : Did :=
 match i.op.toNat with
 | 20 => ⟨s, m, true, 0⟩
 | 19 => ⟨s.setPC (s.pc + 2#32), m, false, 0⟩
 | 18 => ⟨s.setPC (if z_e3 i.d.toNat s = true then s.pc + 4#32 + 2#32 * immW i.imm else s.pc + 2#32), m, false, 0⟩
 | 17 => ⟨s.setPC (s.pc + 4#32 + 2#32 * immW i.imm), m, false, 0⟩
 | 12 | 13 | 14 | 15 | 16 =>
  if (moveM s i.op.toNat i.d.toNat (addrM s i.op.toNat i.n.toNat i.m.toNat i.imm) m).2.2 = 0 then
   ⟨(moveM s i.op.toNat i.d.toNat (addrM s i.op.toNat i.n.toNat i.m.toNat i.imm) m).1.setPC (s.pc + 2#32), (moveM s i.op.toNat i.d.toNat (addrM s i.op.toNat i.n.toNat i.m.toNat i.imm) m).2.1, false, 0⟩
  else ⟨s, (moveM s i.op.toNat i.d.toNat (addrM s i.op.toNat i.n.toNat i.m.toNat i.imm) m).2.1, false, (moveM s i.op.toNat i.d.toNat (addrM s i.op.toNat i.n.toNat i.m.toNat i.imm) m).2.2⟩
 | k => ⟨StM.setPC (if (z_ef i).2 = true then (reckM s k i.d.toNat i.n.toNat i.m.toNat i.imm).1.setR i.d.toNat (reckM s k i.d.toNat i.n.toNat i.m.toNat i.imm).2 else (reckM s k i.d.toNat i.n.toNat i.m.toNat i.imm).1) (s.pc + 2#32), m, false, 0⟩
def stepM (s : StM) (m : MemM) : Did :=
 if (m.fetch s.pc).2 = 0 then (if (takeN (m.fetch s.pc).1.toNat).2 = 0 then doM (takeN (m.fetch s.pc).1.toNat).1 s m else ⟨s, m, false, (takeN (m.fetch s.pc).1.toNat).2⟩) else ⟨s, m, false, (m.fetch s.pc).2⟩
def DidAV (x : Did) : AV := .tup [.agg x.s.cells, .bool x.stop, .int .i64 x.e]
end Go.Abs
end
section
namespace Go.Abs
def cAV (cb len : Nat) : AV := if len = 0 then .nils else .sl cb 1 0 len
@[simp] theorem cAV_zero (cb : Nat) : cAV cb 0 = .nils := rfl
@[simp] theorem len_cAV (cb len : Nat) : alenR .sl (cAV cb len) = some (.int .i64 len) := by
 unfold cAV; split
 ·simp_all
 ·rfl
@[simp] theorem index_cAV (cb len : Nat) (k : IntKind) (i : Int) : z_aa (.sl 1) (cAV cb len) (.int k i) = if 0 ≤ i ∧ i < len then some (.ptr cb 1 i.toNat 0) else none := by
 unfold cAV; split
 ·rename_i h; subst h; rw [if_neg (by omega)]; rfl
 ·simp
@[simp] theorem z_yt (cb len : Nat) (i : BitVec 32) : z_aa (.sl 1) (cAV cb len) (W32 i) = if i.toNat < len then some (.ptr cb 1 i.toNat 0) else none := by
 unfold cAV; split
 ·rename_i h; subst h; rw [if_neg (by omega)]; rfl
 ·simp
theorem z_im (cb len : Nat) (h : 0 < len) : cAV cb len = .sl cb 1 0 len := by unfold cAV; rw [if_neg (by omega)]
def hBlk (l : List (BitVec 16)) : Blk := ⟨T.ty_uint16, 1, true, w16s l⟩
def rBlk (cb wb tb : Nat) (m : MemM) : Blk := ⟨T.ty_bautaref05_Mem, 5, false, [[cAV cb m.code.length, cAV wb m.words.length, .sl tb 1 0 m.tape.length, .int .i64 m.drawn, W32 m.bus]]⟩
def Hp.rmem (H : Hp) (b cb wb tb : Nat) (m : MemM) : Hp := (if m.words.length = 0 then H else H.set wb (some (z_d1 m.words))).set b (some (rBlk cb wb tb m))
structure RFix (H : Hp) (b cb wb tb : Nat) (m : MemM) : Prop where
 code : 0 < m.code.length → H.get cb = some (hBlk m.code)
 tape : H.get tb = some (z_d1 m.tape)
 hb : b < H.next
 hwb : wb < H.next
 bw : wb ≠ b
 bc : cb ≠ b
 bt : tb ≠ b
 wc : cb ≠ wb
 wt : tb ≠ wb
theorem z_by (H : Hp) (b cb wb tb : Nat) (m : MemM) (c : Nat) : (H.rmem b cb wb tb m).get c = if c = b then some (rBlk cb wb tb m) else if c = wb ∧ 0 < m.words.length then some (z_d1 m.words) else H.get c := by
 unfold Hp.rmem
 by_cases h : m.words.length = 0
 ·rw [if_pos h, Hp.get_set]; simp [h]
 ·rw [if_neg h, Hp.get_set, Hp.get_set]
  by_cases h1 : c = b
  ·simp [h1]
  ·by_cases h2 : c = wb
   ·simp only [h1, h2, if_true, if_false, true_and]; rw [if_neg (fun e => h1 (h2.trans e)), if_neg (fun e => h1 (h2.trans e)), if_pos (by omega)]
   ·simp [h1, h2]
@[simp] theorem z_e1 (H : Hp) (b cb wb tb : Nat) (m : MemM) : (H.rmem b cb wb tb m).next = H.next := by
 unfold Hp.rmem; split <;> rfl
theorem z_ii (H X : Hp) (b cb wb tb : Nat) (m : MemM) (hn : X.next = H.next) (h : ∀ c, X.get c = if c = b then some (rBlk cb wb tb m) else if c = wb ∧ 0 < m.words.length then some (z_d1 m.words) else H.get c) : X = H.rmem b cb wb tb m :=
 Hp.eq_of (by rw [hn, z_e1]) (funext fun c => by rw [h, z_by])
theorem z_or {H : Hp} {b cb wb tb : Nat} {m : MemM} (hw : H.WF) (hb : b < H.next) (hwb : wb < H.next) : (H.rmem b cb wb tb m).WF := by
 unfold Hp.rmem; split
 ·exact Hp.WF.set hw hb
 ·exact Hp.WF.set (Hp.WF.set hw hwb) hb
theorem z_ib (cb len n : Nat) (h : cb < n) : z_dj n (cAV cb len) = true := by
 unfold cAV; split <;> simp [z_dj, h]
theorem RFix.cb {H : Hp} {b cb wb tb : Nat} {m : MemM} (h : RFix H b cb wb tb m) (hw : H.WF) (hc : 0 < m.code.length) : cb < H.next := hw _ _ (h.code hc)
theorem RFix.tb {H : Hp} {b cb wb tb : Nat} {m : MemM} (h : RFix H b cb wb tb m) (hw : H.WF) : tb < H.next := hw _ _ h.tape
theorem z_os (H : Hp) (b cb wb tb : Nat) (m m' : MemM) (rs : List AV) (hw : H.WF) (hf : RFix H b cb wb tb m) (hwl : m'.words.length = m.words.length) (hcd : m'.code.length = m.code.length)
  (hc : (mkRes rs).closed = true) : forget (H.rmem b cb wb tb m) (some (rs, H.rmem b cb wb tb m')) = some (mkRes rs, H.rmem b cb wb tb m') := by
 have hct : z_mh (H.rmem b cb wb tb m) (H.rmem b cb wb tb m') := fun c hcn => by
  rw [z_by, z_by]
  split
  ·refine .inr fun blk hblk row hr a ha => ?_
   simp only [Option.some.injEq] at hblk
   subst hblk
   simp only [rBlk, List.mem_singleton] at hr
   subst hr
   simp only [List.mem_cons, List.not_mem_nil, or_false] at ha
   rw [z_e1]
   have h1 := hf.hwb; have h2 := hf.tb hw
   rcases ha with rfl | rfl | rfl | rfl | rfl
   ·by_cases h0 : m'.code.length = 0
    ·rw [h0]; rfl
    ·exact z_ib _ _ _ (hf.cb hw (by omega))
   ·exact z_ib _ _ _ h1
   ·simp [z_dj, h2]
   ·rfl
   ·rfl
  ·rw [hwl]
   split
   ·refine .inr fun blk hblk row hr a ha => ?_
    simp only [Option.some.injEq] at hblk
    subst hblk
    have := z_ml _ row hr a ha
    cases a <;> simp_all [z_dj, AV.flat]
   ·exact .inl rfl
 unfold forget
 dsimp only
 rw [if_pos ⟨hc, hct, by simp⟩]
 congr 2
 refine Hp.eq_of (by simp [Hp.trunc]) (funext fun c => ?_)
 show (if c < (H.rmem b cb wb tb m).next then (H.rmem b cb wb tb m').get c else none) = (H.rmem b cb wb tb m').get c
 rw [z_e1]
 by_cases hcn : c < H.next
 ·rw [if_pos hcn]
 ·rw [if_neg hcn]
  cases hg : (H.rmem b cb wb tb m').get c with
  | none => rfl
  | some x => exact (hcn (by have := z_or (cb := cb) (tb := tb) (m := m') hw hf.hb hf.hwb c x hg; rwa [z_e1] at this)).elim
theorem z_d3 {H X : Hp} {b cb wb tb : Nat} {m m' : MemM} {rs : List AV} (hw : H.WF) (hf : RFix H b cb wb tb m) (hX : X = H.rmem b cb wb tb m') (hwl : m'.words.length = m.words.length) (hcd : m'.code.length = m.code.length)
  (hc : (mkRes rs).closed = true) : forget (H.rmem b cb wb tb m) (some (rs, X)) = some (mkRes rs, H.rmem b cb wb tb m') := by
 rw [hX]; exact z_os H b cb wb tb m m' rs hw hf hwl hcd hc
theorem z_fp (H : Hp) (b cb wb tb : Nat) (m m' : MemM) (hc : m'.words = m.words) : (H.rmem b cb wb tb m).set b (some (rBlk cb wb tb m')) = H.rmem b cb wb tb m' := by
 refine z_ii _ _ _ _ _ _ _ (by simp) fun c => ?_
 rw [Hp.get_set, z_by]
 split
 ·rfl
 ·rw [hc]
theorem z_m3 (H : Hp) (b cb wb tb : Nat) (m m' : MemM) (hbw : b ≠ wb) (hl : m'.words.length = m.words.length) (h0 : 0 < m.words.length) (hb : rBlk cb wb tb m' = rBlk cb wb tb m) : (H.rmem b cb wb tb m).set wb (some (z_d1 m'.words)) = H.rmem b cb wb tb m' := by
 refine z_ii _ _ _ _ _ _ _ (by simp) fun c => ?_
 rw [Hp.get_set, z_by]
 by_cases h1 : c = wb
 ·rw [if_pos h1, if_neg (by omega), if_pos ⟨h1, by omega⟩]
 ·rw [if_neg h1, hb]
  simp only [h1, false_and, if_false]
theorem z_j4 (x y : BitVec 16) : (x.setWidth 32 ||| y.setWidth 32 <<< 16) = x.setWidth 32 + 65536#32 * y.setWidth 32 := by
 apply BitVec.eq_of_toNat_eq
 have hx := x.isLt; have hy := y.isLt
 rw [BitVec.toNat_or, BitVec.toNat_shiftLeft, BitVec.toNat_add, BitVec.toNat_mul, BitVec.toNat_setWidth, BitVec.toNat_setWidth]
 simp only [Nat.shiftLeft_eq, BitVec.toNat_ofNat]
 rw [Nat.mod_eq_of_lt (show x.toNat < 2 ^ 32 by omega), Nat.mod_eq_of_lt (show y.toNat < 2 ^ 32 by omega), Nat.mod_eq_of_lt (show y.toNat * 2 ^ 16 < 2 ^ 32 by omega), Nat.or_comm]
 rw [show y.toNat * 2 ^ 16 = 2 ^ 16 * y.toNat from Nat.mul_comm _ _, ← Nat.two_pow_add_eq_or_of_lt (by omega)]
 omega
section
variable (H : Hp) (b cb wb tb : Nat) (m : MemM) (hw : H.WF) (hf : RFix H b cb wb tb m)
include hw hf
theorem z_vk (a : BitVec 32) (hm : m.Ok) : z_av.spec [.ptr b 5 0 0, W32 a] (H.rmem b cb wb tb m) = some (.tup [W32 (m.loads a).1.1, .int .i64 (m.loads a).1.2], H.rmem b cb wb tb (m.loads a).2) := by
 have q1 := hm.code; have q2 := hm.words; have q3 := hm.tape; have q4 := hm.drawn
 have f1 := hf.bw; have f2 := hf.bc; have f3 := hf.bt; have f4 := hf.wc; have f5 := hf.wt; have f6 := hf.tape
 have e1 : ((a.toNat : Int) / 2).toNat = a.toNat / 2 := by omega
 have e2 : ((a.toNat : Int) / 2 + 1).toNat = a.toNat / 2 + 1 := by omega
 have hs : (a - 536870912#32).toNat / 4 = wslot a := rfl
 have hd : (m.at a = true) = (536870912#32 ≤ a ∧ wslot a < m.words.length) := by simp [MemM.at]
 unfold MemM.loads MemM.load
 by_cases h1 : a % 4#32 = 0#32
 ·by_cases h2 : a = 1073741824#32
  ·subst h2
   by_cases h3 : m.drawn = m.tape.length
   ·simp -implicitDefEqProofs +contextual (disch := omega) [z_av.spec, z_av, z_by, rBlk, h3, f1, f2, f3, f4, f5, f6, z_d1]
    refine z_d3 hw hf ?_ ?_ ?_ ?_ <;> rfl
   ·have h4 : m.drawn < m.tape.length := by omega
    simp -implicitDefEqProofs +contextual (disch := omega) [z_av.spec, z_av, z_by, rBlk, h3, h4, f1, f2, f3, f4, f5, f6, z_d1]
    exact z_d3 hw hf (z_fp H b cb wb tb m { m with drawn := m.drawn + 1, bus := at0 m.tape m.drawn } rfl) rfl rfl rfl
  ·by_cases h3 : 536870912#32 ≤ a
   ·by_cases h5 : wslot a < m.words.length
    ·have h6 : 0 < m.words.length := by omega
     have h7 : ((a - 536870912#32).toNat : Int) / 4 < m.words.length := by omega
     simp -implicitDefEqProofs +contextual (disch := omega) [z_av.spec, z_av, z_by, rBlk, z_d1, h1, h2, h3, h5, h6, h7, hd, hs, f1, f2, f3, f4, f5, f6, -BitVec.toNat_sub]
     exact z_d3 hw hf (z_fp H b cb wb tb m { m with bus := at0 m.words (wslot a) } rfl) rfl rfl rfl
    ·have h7 : ¬ ((a - 536870912#32).toNat : Int) / 4 < m.words.length := by omega
     by_cases h4 : a.toNat / 2 + 1 < m.code.length
     ·have f7 := hf.code (by omega)
      simp -implicitDefEqProofs +contextual (disch := omega) [z_av.spec, z_av, z_by, rBlk, hBlk, h1, h2, h3, h4, h5, h7, hd, e1, e2, hs, f1, f2, f3, f4, f5, f6, f7, z_j4, -BitVec.toNat_sub]
      exact z_d3 hw hf (z_fp H b cb wb tb m { m with bus := (at0 m.code (a.toNat / 2)).setWidth 32 + 65536#32 * (at0 m.code (a.toNat / 2 + 1)).setWidth 32 } rfl) rfl rfl rfl
     ·simp -implicitDefEqProofs +contextual (disch := omega) [z_av.spec, z_av, z_by, rBlk, h1, h2, h3, h4, h5, h7, hd, hs, f1, f2, f3, f4, f5, f6, -BitVec.toNat_sub]
      refine z_d3 hw hf ?_ ?_ ?_ ?_ <;> rfl
   ·by_cases h4 : a.toNat / 2 + 1 < m.code.length
    ·have f7 := hf.code (by omega)
     simp -implicitDefEqProofs +contextual (disch := omega) [z_av.spec, z_av, z_by, rBlk, hBlk, h1, h2, h3, h4, hd, e1, e2, hs, f1, f2, f3, f4, f5, f6, f7, z_j4, -BitVec.toNat_sub]
     exact z_d3 hw hf (z_fp H b cb wb tb m { m with bus := (at0 m.code (a.toNat / 2)).setWidth 32 + 65536#32 * (at0 m.code (a.toNat / 2 + 1)).setWidth 32 } rfl) rfl rfl rfl
    ·simp -implicitDefEqProofs +contextual (disch := omega) [z_av.spec, z_av, z_by, rBlk, h1, h2, h3, h4, hd, hs, f1, f2, f3, f4, f5, f6, -BitVec.toNat_sub]
     refine z_d3 hw hf ?_ ?_ ?_ ?_ <;> rfl
 ·simp -implicitDefEqProofs +contextual (disch := omega) [z_av.spec, z_av, z_by, rBlk, h1]
  refine z_d3 hw hf ?_ ?_ ?_ ?_ <;> rfl
theorem z_sq (a x : BitVec 32) (hm : m.Ok) : z_a9.spec [.ptr b 5 0 0, W32 a, W32 x] (H.rmem b cb wb tb m) = some (.int .i64 (m.store a x).1, H.rmem b cb wb tb (m.store a x).2) := by
 have q1 := hm.code; have q2 := hm.words; have q3 := hm.tape; have q4 := hm.drawn
 have f1 := hf.bw; have f2 := hf.bc; have f3 := hf.bt; have f4 := hf.wc; have f5 := hf.wt; have f6 := hf.tape
 have hs : (a - 536870912#32).toNat / 4 = wslot a := rfl
 have hd : (m.at a = true) = (536870912#32 ≤ a ∧ wslot a < m.words.length) := by simp [MemM.at]
 unfold MemM.store
 by_cases h1 : a % 4#32 = 0#32
 ·by_cases h3 : 536870912#32 ≤ a
  ·have h3' : ¬ a < 536870912#32 := by rwa [BitVec.not_lt]
   by_cases h5 : wslot a < m.words.length
   ·have h6 : 0 < m.words.length := by omega
    have h7 : ((a - 536870912#32).toNat : Int) / 4 < m.words.length := by omega
    simp -implicitDefEqProofs +contextual (disch := omega) [z_a9.spec, z_a9, z_by, rBlk, z_d1, h1, h3, h5, h6, h7, hd, h3', hs, f1, f2, f3, f4, f5, f6, -BitVec.toNat_sub, -BitVec.not_le]
    refine z_d3 hw hf (z_ii _ _ _ _ _ _ _ (by simp) fun c => ?_) (by simp) rfl rfl
    by_cases c1 : c = b
    ·simp [c1, rBlk]
    ·by_cases c2 : c = wb
     ·simp [c2, f1, h6, z_d1]
     ·simp [c1, c2, z_by]
   ·have h7 : ¬ ((a - 536870912#32).toNat : Int) / 4 < m.words.length := by omega
    simp -implicitDefEqProofs +contextual (disch := omega) [z_a9.spec, z_a9, z_by, rBlk, z_d1, h1, h3, h5, h7, hd, h3', hs, f1, f2, f3, f4, f5, f6, -BitVec.toNat_sub, -BitVec.not_le]
    refine z_d3 hw hf ?_ ?_ ?_ ?_ <;> rfl
  ·have h3' : a < 536870912#32 := by rwa [← BitVec.not_le]
   simp -implicitDefEqProofs +contextual (disch := omega) [z_a9.spec, z_a9, z_by, rBlk, z_d1, h1, h3, hd, h3', hs, f1, f2, f3, f4, f5, f6, -BitVec.toNat_sub, -BitVec.not_le]
   refine z_d3 hw hf ?_ ?_ ?_ ?_ <;> rfl
 ·have h2 : (a % 4#32 != 0#32) = true := by simp [h1]
  simp -implicitDefEqProofs +contextual (disch := omega) [z_a9.spec, z_a9, z_by, rBlk, h1, h2]
  refine z_d3 hw hf ?_ ?_ ?_ ?_ <;> rfl
theorem z_ss (a : BitVec 32) (hm : m.Ok) : z_a1.spec [.ptr b 5 0 0, W32 a] (H.rmem b cb wb tb m) = some (.tup [W16 (m.fetch a).1, .int .i64 (m.fetch a).2], H.rmem b cb wb tb m) := by
 have q1 := hm.code
 have f1 := hf.bw; have f2 := hf.bc; have f3 := hf.bt; have f4 := hf.wc; have f5 := hf.wt; have f6 := hf.tape
 have e1 : ((a.toNat : Int) / 2).toNat = a.toNat / 2 := by omega
 unfold MemM.fetch
 by_cases h1 : a % 2#32 = 0#32
 ·by_cases h2 : a.toNat / 2 < m.code.length
  ·have f7 := hf.code (by omega)
   rw [if_pos ⟨h1, h2⟩]
   simp -implicitDefEqProofs +contextual (disch := omega) [z_a1.spec, z_a1, z_by, rBlk, hBlk, z_d1, h1, h2, e1, f1, f2, f3, f4, f5, f6, f7]
   refine z_d3 hw hf ?_ ?_ ?_ ?_ <;> rfl
  ·rw [if_neg (fun h => h2 h.2)]
   simp -implicitDefEqProofs +contextual (disch := omega) [z_a1.spec, z_a1, z_by, rBlk, z_d1, h1, h2, e1]
   refine z_d3 hw hf ?_ ?_ ?_ ?_ <;> rfl
 ·rw [if_neg (fun h => h1 h.1)]
  simp -implicitDefEqProofs +contextual (disch := omega) [z_a1.spec, z_a1, z_by, rBlk, z_d1, h1, e1]
  refine z_d3 hw hf ?_ ?_ ?_ ?_ <;> rfl
end
structure NewInv (H : Hp) (code : List (BitVec 16)) (tape : List (BitVec 32)) (i rb cb tb : Nat) (X : Hp) : Prop where
 wf : X.WF
 b : X.get rb = some (rBlk cb 0 tb ⟨code.take i, [], tape, 0, 0#32⟩)
 c : 0 < i → X.get cb = some (hBlk (code.take i))
 t : X.get tb = some (z_d1 tape)
 h : ∀ c, c < H.next → X.get c = H.get c
 hb : H.next + 2 ≤ rb
 ht : H.next < tb
 hc : 0 < i → H.next < cb
 bt : tb ≠ rb
 bc : 0 < i → cb ≠ rb
 ct : 0 < i → cb ≠ tb
theorem z_w2 (cb tb : Nat) (l : List (BitVec 16)) (tape : List (BitVec 32)) (h : 0 < l.length) : rBlk cb 0 tb ⟨l, [], tape, 0, 0#32⟩ = ⟨T.ty_bautaref05_Mem, 5, false, [[.sl cb 1 0 l.length, .nils, .sl tb 1 0 tape.length, .int .i64 0, W32 0#32]]⟩ := by
 simp [rBlk, z_im _ _ h]
theorem rBlk_0 (cb tb : Nat) (tape : List (BitVec 32)) : rBlk cb 0 tb ⟨[], [], tape, 0, 0#32⟩ = ⟨T.ty_bautaref05_Mem, 5, false, [[.nils, .nils, .sl tb 1 0 tape.length, .int .i64 0, W32 0#32]]⟩ := by
 simp [rBlk]
theorem z_mr {n : Nat} (l : List (BitVec n)) (i : Nat) (h : i < l.length) : l.take (i + 1) = l.take i ++ [at0 l i] := by
 rw [List.take_add_one, z_j9 l i h]; rfl
theorem z_vq (H : Hp) (code : List (BitVec 16)) (tape : List (BitVec 32)) (w : AV) (i rb cb tb : Nat) (X : Hp) (hc : i < code.length) (hi : i < 60000) (I : NewInv H code tape i rb cb tb X) :
  ∃ X' cb', z_b0.l0 (AFr.al [(0, .rsl 1 (w16s code)), (1, w), (7, .ptr rb 5 0 0), (8, .int .i64 i)]) X = some (.normal, AFr.al [(0, .rsl 1 (w16s code)), (1, w), (7, .ptr rb 5 0 0), (8, .int .i64 (i + 1 : Nat))], X') ∧ NewInv H code tape (i + 1) rb cb' tb X' := by
 have hrb := I.wf _ _ I.b
 have htb := I.wf _ _ I.t
 have i1 := I.hb; have i2 := I.ht; have i3 := I.bt
 have ts := z_mr code i hc
 by_cases h0 : i = 0
 ·subst h0
  have hb := I.b
  rw [List.take_zero, rBlk_0] at hb
  refine ⟨((X.push (hBlk [at0 code 0])).push (hBlk [at0 code 0])).set rb (some (rBlk (X.next + 1) 0 tb ⟨[at0 code 0], [], tape, 0, 0#32⟩)), X.next + 1, ?_, ?_⟩
  ·simp -implicitDefEqProofs +contextual (disch := omega) [z_b0.l0, hb, hc]
   simp [hBlk, rBlk, cAV, w16s]
  ·rw [show ([at0 code 0] : List (BitVec 16)) = code.take (0 + 1) from by rw [ts]; rfl]
   exact ⟨Hp.WF.set (Hp.WF.push (Hp.WF.push I.wf)) (by simp; omega), by simp, fun _ => by simp (disch := omega), by
    have := I.t; simp (disch := omega) [this], fun c h => by have := I.h c h; simp (disch := omega) [this], I.hb, I.ht, fun _ => by omega, I.bt, fun _ => by omega, fun _ => by omega⟩
 ·have hl : (code.take i).length = i := by rw [List.length_take]; omega
  have hb := I.b
  rw [z_w2 _ _ _ _ (by omega), hl] at hb
  have hcb := I.c (by omega)
  have hcn := I.wf _ _ hcb
  have i4 := I.bc (by omega); have i5 := I.ct (by omega); have i6 := I.hc (by omega)
  refine ⟨(((X.push (hBlk [at0 code i])).set cb none).push (hBlk (code.take (i + 1)))).set rb (some (rBlk (X.next + 1) 0 tb ⟨code.take (i + 1), [], tape, 0, 0#32⟩)), X.next + 1, ?_, ?_⟩
  ·simp -implicitDefEqProofs +contextual (disch := omega) [z_b0.l0, hb, hc, hcb, hBlk, hl, i4]
   rw [ts, z_w2 _ _ _ _ (by simp)]
   simp [hBlk, hl, w16s]
  ·exact ⟨Hp.WF.set (Hp.WF.push (Hp.WF.set (Hp.WF.push I.wf) (by simp; omega))) (by simp; omega), by simp, fun _ => by simp (disch := omega), by
    have := I.t; simp (disch := omega) [this], fun c h => by have := I.h c h; simp (disch := omega) [this], I.hb, I.ht, fun _ => by omega, I.bt, fun _ => by omega, fun _ => by omega⟩
theorem z_m4 {X : Hp} {b cb wb tb : Nat} {m : MemM} (h1 : X.get b = some (rBlk cb wb tb m)) (h2 : 0 < m.words.length → X.get wb = some (z_d1 m.words)) : X = X.rmem b cb wb tb m := by
 refine z_ii _ _ _ _ _ _ _ rfl fun c => ?_
 split
 ·rename_i e; rw [e, h1]
 ·split
  ·rename_i e; rw [e.1, h2 e.2]
  ·rfl
theorem z_st (cb wb tb : Nat) (m : MemM) : rBlk cb wb tb m = ⟨T.ty_bautaref05_Mem, 5, false, [[cAV cb m.code.length, cAV wb m.words.length, .sl tb 1 0 m.tape.length, .int .i64 m.drawn, W32 m.bus]]⟩ := rfl
theorem mk32 (X : Hp) (n : Int) (N : Nat) (h : n = (N : Int)) (hN : N ≤ 16000) : z_f7 (some ⟨T.ty_uint32, 1, 4, [W32 0#32]⟩) (.int .i64 n) (.int .i64 n) X = some (.sl X.next 1 0 N, X.push ⟨T.ty_uint32, 1, true, w32s (List.replicate N 0#32)⟩) := by
 subst h
 rw [z_fk, if_pos ⟨by omega, by omega, by simp; omega, by simp, by rfl⟩, ← z_pn]
 rfl
theorem z_x9 (H : Hp) (code : List (BitVec 16)) (tape : List (BitVec 32)) (n : Int) (hw : H.WF) (hc : code.length ≤ 1000000000) (ht : tape.length ≤ 1000000000) :
  ∃ X rb cb wb tb, z_b0.spec [.rsl 1 (w16s code), .int .i64 n, .rsl 1 (w32s tape)] H = some (.ptr rb 5 0 0, X.rmem rb cb wb tb (MemM.new code n tape)) ∧ X.WF ∧ RFix X rb cb wb tb (MemM.new code n tape) ∧
   H.next ≤ rb ∧ H.next ≤ cb ∧ H.next ≤ wb ∧ H.next ≤ tb ∧ H.next ≤ X.next ∧ ∀ c, c < H.next → X.get c = H.get c := by
 have I0 : NewInv H code tape 0 (H.next + 2) 0 (H.next + 1) ((((H.push (z_d1 [])).set H.next none).push (z_d1 tape)).push (rBlk 0 0 (H.next + 1) ⟨[], [], tape, 0, 0#32⟩)) := by
  refine ⟨Hp.WF.push (Hp.WF.push (Hp.WF.set (Hp.WF.push hw) (by simp))), by simp, fun h => by omega, by simp (disch := omega), fun c h => by simp (disch := omega), by omega, by omega, fun h => by omega, by omega, fun h => by omega, fun h => by omega⟩
 obtain ⟨fr', X1, ⟨cb1, e1, I1⟩, hgo⟩ := z_n1 (f := z_b0.l0) (fun i fr X => ∃ cb, fr = AFr.al [(0, .rsl 1 (w16s code)), (1, .int .i64 n), (7, .ptr (H.next + 2) 5 0 0), (8, .int .i64 i)] ∧ NewInv H code tape i (H.next + 2) cb (H.next + 1) X)
  (min code.length 60000) (fun k hk fr X hR => by
   obtain ⟨cb, rfl, I⟩ := hR
   obtain ⟨X', cb', h1, h2⟩ := z_vq H code tape (.int .i64 n) k (H.next + 2) cb (H.next + 1) X (by omega) (by omega) I
   exact ⟨_, _, h1, cb', rfl, h2⟩) ⟨0, rfl, I0⟩
 subst e1
 have hx : aloop z_b0.l0 (AFr.al [(0, .rsl 1 (w16s code)), (1, .int .i64 n), (7, .ptr (H.next + 2) 5 0 0), (8, .int .i64 (min code.length 60000 : Nat))]) X1 =
   some (.exit 0, AFr.al [(0, .rsl 1 (w16s code)), (1, .int .i64 n), (7, .ptr (H.next + 2) 5 0 0), (8, .int .i64 (min code.length 60000 : Nat)), (21, .bool false)], X1) := z_ce (by simp) (by
  by_cases h : code.length ≤ 60000
  ·rw [Nat.min_eq_left h]
   simp -implicitDefEqProofs +contextual (disch := omega) [z_b0.l0]
  ·rw [Nat.min_eq_right (by omega)]
   have h1 : (60000 : Int) < code.length := by omega
   simp -implicitDefEqProofs +contextual (disch := omega) [z_b0.l0, h1])
 rw [hx] at hgo
 have hgo' : aloop z_b0.l0 (AFr.al [(0, .rsl 1 (w16s code)), (1, .int .i64 n), (7, .ptr (H.next + 2) 5 0 0), (8, .int .i64 0)]) ((((H.push ⟨T.ty_uint32, 1, true, []⟩).set H.next none).push ⟨T.ty_uint32, 1, true, w32s tape⟩).push
   ⟨T.ty_bautaref05_Mem, 5, false, [[.nils, .nils, .sl (H.next + 1) 1 0 tape.length, .int .i64 0, W32 0#32]]⟩) = _ := hgo
 clear hgo hx
 have b1 := I1.b; have b2 := I1.wf _ _ b1; have b3 := I1.ht
 have hl : (code.take (min code.length 60000)) = code.take 60000 := by
  by_cases h : code.length ≤ 60000
  ·rw [Nat.min_eq_left h, List.take_of_length_le (by omega), List.take_of_length_le (by omega)]
  ·rw [Nat.min_eq_right (by omega)]
 rw [hl] at b1
 generalize hcd : (min code.length 60000 : Nat) = K at hgo' I1 hl
 obtain ⟨cb2, c1, c2, c3, c4, c5, c6⟩ : ∃ cb2, (0 < code.length → X1.get cb2 = some (hBlk (code.take 60000))) ∧ rBlk cb1 0 (H.next + 1) ⟨code.take 60000, [], tape, 0, 0#32⟩ = rBlk cb2 0 (H.next + 1) ⟨code.take 60000, [], tape, 0, 0#32⟩ ∧
   H.next < cb2 ∧ cb2 ≠ H.next + 2 ∧ cb2 ≠ H.next + 1 ∧ (code.length = 0 → X1.next + 1 < cb2) := by
  by_cases h : code.length = 0
  ·have h' : code = [] := List.length_eq_zero_iff.1 h
   subst h'
   refine ⟨X1.next + 2, fun q => by simp at q, rfl, by omega, by omega, by omega, by omega⟩
  ·have hK : 0 < K := by omega
   have := I1.c hK; rw [hl] at this
   exact ⟨cb1, fun _ => this, rfl, I1.hc hK, I1.bc hK, I1.ct hK, fun q => by omega⟩
 rw [c2] at b1
 by_cases hn : 0 < n
 ·obtain ⟨N, hN, hN2, hN3⟩ : ∃ N : Nat, (min (max n 0) 16000).toNat = N ∧ 0 < N ∧ N ≤ 16000 := ⟨_, rfl, by omega, by omega⟩
  have e1 : (MemM.new code n tape) = ⟨code.take 60000, List.replicate N 0#32, tape, 0, 0#32⟩ := by
   rw [MemM.new, hN]
  rw [e1]
  have q1 : cb2 ≠ X1.next := by
   by_cases h : code.length = 0
   ·have := c6 h; omega
   ·have := I1.wf _ _ (c1 (by omega)); omega
  have q2 : H.next + 1 < X1.next := I1.wf _ _ I1.t
  refine ⟨(X1.push (z_d1 (List.replicate N 0#32))).set (H.next + 2) (some (rBlk cb2 X1.next (H.next + 1) ⟨code.take 60000, List.replicate N 0#32, tape, 0, 0#32⟩)), H.next + 2, cb2, X1.next, H.next + 1, ?_,
   Hp.WF.set (Hp.WF.push I1.wf) (by simp; omega), ⟨fun q => ?_, ?_, by simp; omega, by simp, by omega, by omega, by omega, by omega, by omega⟩, by omega, by omega, by omega, by omega, by simp; omega, fun c hc => ?_⟩
  ·rw [← z_m4 (by simp) (fun _ => by simp (disch := omega))]
   rw [z_st] at b1
   have e2 : (if (16000 : Int) < n then (16000 : Int) else n) = (N : Int) := by split <;> omega
   have hmk := mk32 X1 (if (16000 : Int) < n then (16000 : Int) else n) N e2 hN3
   by_cases h6 : 16000 < n
   ·rw [if_pos h6] at hmk
    simp -implicitDefEqProofs +contextual (disch := omega) [z_b0.spec, z_b0, hgo', hn, h6, b1, hmk, -z_fk, z_d1, z_st, z_im]
   ·rw [if_neg h6] at hmk
    simp -implicitDefEqProofs +contextual (disch := omega) [z_b0.spec, z_b0, hgo', hn, h6, b1, hmk, -z_fk, z_d1, z_st, z_im]
  ·have := c1 (by simp at q; omega)
   simp (disch := omega) [this]
  ·have := I1.t; simp (disch := omega) [this]
  ·have := I1.h c hc; simp (disch := omega) [this]
 ·have e1 : (MemM.new code n tape) = ⟨code.take 60000, [], tape, 0, 0#32⟩ := by
   rw [MemM.new, show (min (max n 0) 16000).toNat = 0 from by omega]; rfl
  rw [e1]
  refine ⟨X1, H.next + 2, cb2, H.next, H.next + 1, ?_, I1.wf, ⟨fun q => c1 (by simp at q; omega), I1.t, b2, by omega, by omega, c4, by omega, by omega, by omega⟩, by omega, by omega, by omega, by omega, by omega, I1.h⟩
  have hn' : ¬ 16000 < n := by omega
  simp -implicitDefEqProofs +contextual (disch := omega) [z_b0.spec, z_b0, hgo', hn, hn']
  exact z_m4 b1 (fun q => by simp at q)
end Go.Abs
end
section
namespace Go.Abs
structure Ids where
 b : Nat
 wb : Nat
 rb : Nat
 cb : Nat
 rw : Nat
 tb : Nat
structure TwoOk (B : Hp) (I : Ids) (r : MemM) : Prop where
 wf : B.WF
 hb : I.b < B.next
 hwb : I.wb < B.next
 ne : I.b ≠ I.wb
 fix : RFix B I.rb I.cb I.rw I.tb r
 b1 : I.b ≠ I.rb
 b2 : I.b ≠ I.cb
 b3 : I.b ≠ I.rw
 b4 : I.b ≠ I.tb
 w1 : I.wb ≠ I.rb
 w2 : I.wb ≠ I.cb
 w3 : I.wb ≠ I.rw
 w4 : I.wb ≠ I.tb
theorem RFix.of {H : Hp} {b cb wb tb : Nat} {m m' : MemM} (h : RFix H b cb wb tb m) (hc : m'.code = m.code) (ht : m'.tape = m.tape) : RFix H b cb wb tb m' :=
 ⟨fun q => by rw [hc] at q ⊢; exact h.code q, by rw [ht]; exact h.tape, h.hb, h.hwb, h.bw, h.bc, h.bt, h.wc, h.wt⟩
theorem RFix.push {H : Hp} {b cb wb tb : Nat} {m : MemM} {x : Blk} (hw : H.WF) (h : RFix H b cb wb tb m) : RFix (H.push x) b cb wb tb m :=
 ⟨fun q => by have q1 := h.code q; have q2 := hw _ _ q1; simp (disch := omega) [q1], by have q1 := h.tape; have q2 := hw _ _ q1; simp (disch := omega) [q1], by have := h.hb; simp; omega, by have := h.hwb; simp; omega, h.bw, h.bc, h.bt, h.wc, h.wt⟩
theorem TwoOk.of {B : Hp} {I : Ids} {r r' : MemM} (h : TwoOk B I r) (hc : r'.code = r.code) (ht : r'.tape = r.tape) : TwoOk B I r' :=
 { h with fix := h.fix.of hc ht }
theorem TwoOk.push {B : Hp} {I : Ids} {r : MemM} {x : Blk} (h : TwoOk B I r) : TwoOk (B.push x) I r :=
 { h with wf := Hp.WF.push h.wf, hb := by have := h.hb; simp; omega, hwb := by have := h.hwb; simp; omega, fix := h.fix.push h.wf }
theorem z_ha (m : MemM) (a : BitVec 32) : (m.loads a).2.code = m.code ∧ (m.loads a).2.tape = m.tape ∧ (m.loads a).2.words = m.words := by
 unfold MemM.loads MemM.load; dsimp only; repeat' split
 all_goals simp
theorem z_g7 (m : MemM) (a x : BitVec 32) : (m.store a x).2.code = m.code ∧ (m.store a x).2.tape = m.tape ∧ (m.store a x).2.words.length = m.words.length := by
 unfold MemM.store; split <;> simp
theorem z_vu {m : MemM} (h : m.Ok) (a : BitVec 32) : (m.loads a).2.Ok := by
 obtain ⟨h1, h2, h3⟩ := z_ha m a
 have h4 := h.drawn
 refine ⟨by rw [h1]; exact h.code, by rw [h3]; exact h.words, by rw [h2]; exact h.tape, ?_⟩
 rw [h2]
 unfold MemM.loads MemM.load; dsimp only; repeat' split
 all_goals first | exact h4 | (dsimp only; omega)
theorem z_u1 {m : MemM} (h : m.Ok) (a x : BitVec 32) : (m.store a x).2.Ok := by
 obtain ⟨h1, h2, h3⟩ := z_g7 m a x
 refine ⟨by rw [h1]; exact h.code, by rw [h3]; exact h.words, by rw [h2]; exact h.tape, ?_⟩
 have h4 := h.drawn
 rw [h2]; unfold MemM.store; split <;> exact h4
end Go.Abs
end
section
namespace Go.Abs
open Th
theorem z_no (i : InsM) (h : i.can = true) : ∃ k D N M : Nat, i = ⟨k, D, N, M, i.imm⟩ ∧ k ≤ 20 ∧ (k ≠ 18 → D < 8) ∧ D < 14 ∧ N < 8 ∧ M < 8 ∧ (k = 11 → 0 ≤ i.imm ∧ i.imm ≤ 15) := by
 have h1 := (z_gp i).1 h
 have hb : ∀ k : Nat, k ≤ 20 → (k ≠ 18 → maxD k ≤ 7) ∧ maxD k ≤ 13 ∧ maxN k ≤ 7 ∧ maxM k ≤ 7 ∧ (k = 11 → (shp k).low = 0 ∧ (shp k).high = 15) := by decide
 obtain ⟨op, d, n, m, imm⟩ := i
 dsimp only at h1 ⊢
 obtain ⟨b1, b2, b3, b4, b5⟩ := hb op.toNat (by omega)
 refine ⟨op.toNat, d.toNat, n.toNat, m.toNat, ?_, by omega, fun q => by have := b1 q; omega, by omega, by omega, by omega, fun q => by have := b5 q; omega⟩
 rw [Int.toNat_of_nonneg (by omega), Int.toNat_of_nonneg (by omega), Int.toNat_of_nonneg (by omega), Int.toNat_of_nonneg (by omega)]
theorem z_p5 (m : MemM) (a : BitVec 32) : m.fetch a = ((m.fetch a).1, 0) ∨ m.fetch a = (0#16, 50) := by
 unfold MemM.fetch; split
 ·exact .inl rfl
 ·exact .inr rfl
structure Keeps (m m' : MemM) : Prop where
 code : m'.code = m.code
 tape : m'.tape = m.tape
 words : m'.words.length = m.words.length
 ok : m.Ok → m'.Ok
theorem Keeps.rfl' (m : MemM) : Keeps m m := ⟨rfl, rfl, rfl, id⟩
theorem z_o0 (m : MemM) (a : BitVec 32) : Keeps m (m.loads a).2 := ⟨(z_ha m a).1, (z_ha m a).2.1, by rw [(z_ha m a).2.2], fun h => z_vu h a⟩
theorem z_oz (m : MemM) (a x : BitVec 32) : Keeps m (m.store a x).2 := ⟨(z_g7 m a x).1, (z_g7 m a x).2.1, (z_g7 m a x).2.2, fun h => z_u1 h a x⟩
theorem z_qz (s : StM) (k D : Nat) (a : BitVec 32) (m : MemM) : Keeps m (moveM s k D a m).2.1 := by
 unfold moveM; split
 ·exact z_oz m a _
 ·exact z_o0 m a
theorem z_vy (i : InsM) (s : StM) (m : MemM) : Keeps m (doM i s m).m := by
 unfold doM; split
 all_goals first | exact .rfl' m | (split <;> exact z_qz _ _ _ _ m)
theorem z_f4 (s : StM) (m : MemM) : Keeps m (stepM s m).m := by
 unfold stepM; repeat' split
 all_goals first | exact .rfl' m | exact z_vy _ s m
end Go.Abs
end

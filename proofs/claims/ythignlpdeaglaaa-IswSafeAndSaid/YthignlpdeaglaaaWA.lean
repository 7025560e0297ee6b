import Derived.Test.YthignlpdeaglaaaLoF
import Derived.Test.YthignlpdeaglaaaSA
section
set_option linter.unusedSimpArgs false
set_option linter.unusedVariables false
namespace Go.Abs
def cw (c : Bool) : BitVec 32 := if c then 1#32 else 0#32
structure Add3 where
  w : BitVec 32
  c : Bool
  v : Bool
structure Sh2 where
  w : BitVec 32
  c : Bool
def shN (kind : Nat) (a : BitVec 32) (n : Nat) : Sh2 :=
  match kind with
  | 0 => ⟨a <<< n, decide (n ≤ 32) && a.getLsbD (32 - n)⟩
  | 1 => ⟨a >>> n, a.getLsbD (n - 1)⟩
  | 2 => ⟨a.sshiftRight (min n 32), a.getLsbD (min n 32 - 1)⟩
  | _ => ⟨a.rotateRight (n % 32), (a.rotateRight (n % 32)).msb⟩
def shiftM (kind : Nat) (a by_ : BitVec 32) (c : Bool) : Sh2 := if by_ = 0#32 then ⟨a, c⟩ else shN kind a by_.toNat
end Go.Abs
end
section
set_option linter.unusedSimpArgs false
set_option linter.unusedVariables false
namespace Go.Abs
def bls (l : List Bool) : List (List AV) := l.map fun b => [.bool b]
def atb (l : List Bool) (i : Nat) : Bool := l.getD i false
theorem atb_get (l : List Bool) (i : Nat) (h : i < l.length) : l[i]? = some (atb l i) := by
  unfold atb; rw [List.getD_eq_getElem?_getD, List.getElem?_eq_getElem h]; rfl
@[simp] theorem bls_length (l : List Bool) : (bls l).length = l.length := by simp [bls]
@[simp] theorem bls_get (l : List Bool) (n : Nat) : (bls l)[n]? = if n < l.length then some [.bool (atb l n)] else none := by
  split
  · rename_i h; simp [bls, atb_get l n h]
  · rename_i h; simp [bls]; omega
@[simp] theorem bls_set (l : List Bool) (n : Nat) (x : Bool) : (bls l).set n [.bool x] = bls (l.set n x) := by simp [bls, List.map_set]
theorem bls_rep (n : Nat) (x : Bool) : List.replicate n [AV.bool x] = bls (List.replicate n x) := by simp [bls]
theorem bls_snoc (l : List Bool) (x : Bool) : bls l ++ [[.bool x]] = bls (l ++ [x]) := by simp [bls]
def tell (n : Nat) (f : Nat → Bool) : List Bool := (List.range n).map f
@[simp] theorem tell_length (n : Nat) (f : Nat → Bool) : (tell n f).length = n := by simp [tell]
theorem tell_at (n : Nat) (f : Nat → Bool) (i : Nat) (h : i < n) : atb (tell n f) i = f i := by
  have := atb_get (tell n f) i (by simpa using h)
  simp [tell, h] at this; exact this.symm
theorem tell_succ (n : Nat) (f : Nat → Bool) : tell (n + 1) f = tell n f ++ [f n] := by simp [tell, List.range_succ]
theorem tell_set (n : Nat) (f : Nat → Bool) (k : Nat) (x : Bool) : (tell n f).set k x = tell n fun j => if j = k then x else f j := by
  apply List.ext_getElem (by simp)
  intro j h1 h2
  simp only [List.getElem_set, tell, List.getElem_map, List.getElem_range]
  by_cases e : k = j
  · subst e; simp
  · simp [e, show ¬ j = k from fun q => e q.symm]
theorem tell_congr (n : Nat) (f g : Nat → Bool) (h : ∀ j, j < n → f j = g j) : tell n f = tell n g := by
  apply List.map_congr_left; intro j hj; exact h j (List.mem_range.1 hj)
theorem tell_rep (n : Nat) (x : Bool) : List.replicate n x = tell n fun _ => x := by
  apply List.ext_getElem <;> simp [tell]
def bitsL (a : BitVec 32) : List Bool := tell 32 a.getLsbD
theorem shr_half (a : BitVec 32) (i : Nat) : a >>> i / 2#32 = a >>> (i + 1) := by
  apply BitVec.eq_of_toNat_eq
  rw [BitVec.toNat_udiv, BitVec.toNat_ushiftRight, BitVec.toNat_ushiftRight, Nat.shiftRight_succ]; rfl
theorem shr_odd (a : BitVec 32) (i : Nat) : ((a >>> i % 2#32) == 1#32) = a.getLsbD i := by
  rw [Bool.eq_iff_iff, beq_iff_eq]
  have h : (a >>> i % 2#32).toNat = a.toNat / 2 ^ i % 2 := by rw [BitVec.toNat_umod, BitVec.toNat_ushiftRight, Nat.shiftRight_eq_div_pow]; rfl
  rw [← BitVec.testBit_toNat, Nat.testBit_eq_decide_div_mod_eq, decide_eq_true_eq, ← h]
  constructor
  · intro q; rw [q]; rfl
  · intro q; exact BitVec.eq_of_toNat_eq q
def bBlk (l : List Bool) : Blk := ⟨T.ty_bool, 1, true, bls l⟩
theorem bits_step (a : BitVec 32) (i : Nat) (hi : i < 32) (H : AHeap) (b : Nat) (hb : H.get b = some (bBlk (tell i a.getLsbD))) (hw : H.WF) : ∃ H' b',
    ref01_Bits.l0 (AFr.al [(0, W32 (a >>> i)), (3, .sl b 1 0 i), (4, .int .i64 i)]) H = some (.normal, AFr.al [(0, W32 (a >>> (i + 1))), (3, .sl b' 1 0 (i + 1)), (4, .int .i64 (i + 1 : Nat))], H') ∧ H'.get b' = some (bBlk (tell (i + 1) a.getLsbD)) ∧ H'.WF := by
  have hlt := hw _ _ hb
  have e1 := shr_odd a i; have e2 := shr_half a i
  refine ⟨((H.push (bBlk [a.getLsbD i])).set b none).push (bBlk (tell (i + 1) a.getLsbD)), H.next + 1, ?_, by simp, AHeap.WF.push (AHeap.WF.set (AHeap.WF.push hw) (by simp; omega))⟩
  simp only [bBlk] at hb ⊢
  simp -implicitDefEqProofs +contextual (disch := omega) [ref01_Bits.l0, hb, e1, e2, tell_succ, ← bls_snoc]
  simp [bls]
theorem Bits_eq (a : BitVec 32) : ref01_Bits.spec [W32 a] = some (.rsl 1 (bls (bitsL a))) := by
  obtain ⟨e, fr', X', hgo, rfl, b, rfl, hq⟩ := aloop_upto (f := ref01_Bits.l0) (fun i fr X => ∃ b, fr = AFr.al [(0, W32 (a >>> i)), (3, .sl b 1 0 i), (4, .int .i64 i)] ∧ X.get b = some (bBlk (tell i a.getLsbD)) ∧ X.WF) 32
    (fun e fr X => e = .exit 0 ∧ ∃ b, fr = AFr.al [(0, W32 (a >>> 32)), (3, .sl b 1 0 32), (4, .int .i64 32), (7, .bool false)] ∧ X.get b = some (bBlk (bitsL a)))
    (fun k hk fr X hR => by
      obtain ⟨b, rfl, h1, h2⟩ := hR
      obtain ⟨H', b', q1, q2, q3⟩ := bits_step a k hk X b h1 h2
      exact ⟨_, _, q1, b', rfl, q2, q3⟩)
    (fun fr X hR => by
      obtain ⟨b, rfl, h1, h2⟩ := hR
      exact ⟨.exit 0, AFr.al [(0, W32 (a >>> 32)), (3, .sl b 1 0 32), (4, .int .i64 32), (7, .bool false)], X, by simp -implicitDefEqProofs +contextual (disch := omega) [ref01_Bits.l0], by simp, rfl, b, rfl, h1⟩)
    (fr := AFr.al [(0, W32 (a >>> 0)), (3, .sl 0 1 0 0), (4, .int .i64 (0 : Nat))]) (H := AHeap.empty.push (bBlk [])) ⟨0, rfl, by simp [tell], AHeap.WF.push AHeap.WF.empty⟩
  simp only [bBlk] at hgo hq
  rw [show ((0 : Nat) : Int) = 0 from rfl, show a >>> 0 = a from BitVec.ushiftRight_zero a] at hgo
  rw [show bls [] = ([] : List (List AV)) from rfl] at hgo
  have hl32 : (bitsL a).length = 32 := by simp [bitsL]
  have ht : (bls (bitsL a)).take 32 = bls (bitsL a) := List.take_of_length_le (by rw [bls_length, hl32]; exact Nat.le_refl _)
  simp -implicitDefEqProofs +contextual (disch := omega) [ref01_Bits.spec, ref01_Bits, hgo, hq, hl32, ht]
theorem word_step (a : BitVec 32) (i : Nat) (hi : i < 32) (H : AHeap) :
    ref01_Word.l0 (AFr.al [(0, .rsl 1 (bls (bitsL a))), (3, W32 (a >>> (i + 1))), (4, .int .i64 i)]) H = some (.normal, AFr.al [(0, .rsl 1 (bls (bitsL a))), (3, W32 (a >>> i)), (4, .int .i64 ((i : Int) - 1))], H) := by
  have hl : (bitsL a).length = 32 := by simp [bitsL]
  have ha : atb (bitsL a) i = a.getLsbD i := tell_at 32 _ i hi
  have hs : ∀ b : Bool, a.getLsbD i = b → a >>> i = a >>> (i + 1) * 2#32 + cw b := by
    intro b hb
    apply BitVec.eq_of_toNat_eq
    have h := a.isLt
    have h2 : (a >>> i).toNat = a.toNat / 2 ^ i := by rw [BitVec.toNat_ushiftRight, Nat.shiftRight_eq_div_pow]
    have h3 : (a >>> (i + 1)).toNat = a.toNat / 2 ^ i / 2 := by rw [BitVec.toNat_ushiftRight, Nat.shiftRight_eq_div_pow, Nat.pow_succ, Nat.div_div_eq_div_mul]
    have h4 : a.toNat / 2 ^ i < 4294967296 := Nat.lt_of_le_of_lt (Nat.div_le_self _ _) h
    have h5 : (cw b).toNat = a.toNat / 2 ^ i % 2 := by
      rw [← hb, ← BitVec.testBit_toNat, Nat.testBit_eq_decide_div_mod_eq]
      by_cases q : a.toNat / 2 ^ i % 2 = 1
      · simp [q, cw]
      · have : a.toNat / 2 ^ i % 2 = 0 := by omega
        simp [this, cw]
    rw [BitVec.toNat_add, BitVec.toNat_mul, h2, h3, h5]
    simp only [BitVec.toNat_ofNat]
    omega
  cases hb : a.getLsbD i with
  | true =>
    rw [hb] at ha
    rw [hs true hb]
    simp -implicitDefEqProofs +contextual (disch := omega) [ref01_Word.l0, hl, ha, cw]
  | false =>
    rw [hb] at ha
    rw [hs false hb]
    simp -implicitDefEqProofs +contextual (disch := omega) [ref01_Word.l0, hl, ha, cw]
theorem word_loop (a : BitVec 32) (H : AHeap) : ∀ i : Nat, i ≤ 32 → aloop ref01_Word.l0 (AFr.al [(0, .rsl 1 (bls (bitsL a))), (3, W32 (a >>> i)), (4, .int .i64 ((i : Int) - 1))]) H =
    some (.exit 0, AFr.al [(0, .rsl 1 (bls (bitsL a))), (3, W32 a), (4, .int .i64 (-1)), (9, .bool false)], H)
  | 0, _ => by
    rw [show a >>> 0 = a from BitVec.ushiftRight_zero a]
    refine aloop_exit (by simp) ?_
    simp -implicitDefEqProofs +contextual (disch := omega) [ref01_Word.l0]
  | i + 1, h => by
    have e1 := word_step a i (by omega) H
    rw [Int.natCast_succ, show (i : Int) + 1 - 1 = i from by omega, aloop_step e1]
    exact word_loop a H i (by omega)
theorem Word_eq' (a : BitVec 32) : ref01_Word.spec [.rsl 1 (bls (bitsL a))] = some (W32 a) := by
  have h := word_loop a AHeap.empty 32 (by omega)
  have hl : (bitsL a).length = 32 := by simp [bitsL]
  rw [show a >>> 32 = 0#32 from BitVec.ushiftRight_eq_zero (by omega), show ((32 : Nat) : Int) - 1 = 31 from rfl] at h
  simp -implicitDefEqProofs +contextual (disch := omega) [ref01_Word.spec, ref01_Word, hl, h]
def stepK (kind : Nat) (v : BitVec 32) : BitVec 32 :=
  match kind with
  | 0 => v <<< 1
  | 1 => v >>> 1
  | 2 => v.sshiftRight 1
  | _ => v.rotateRight 1
def movK (kind : Nat) (v : BitVec 32) (k : Nat) : List Bool := tell 32 fun j => decide (j < k) && (if kind = 0 then decide (0 < j) && v.getLsbD (j - 1) else v.getLsbD (j + 1))
noncomputable abbrev rshL1 := ref01_Shift.l1 ref01_Bits.spec ref01_Word.spec
noncomputable abbrev rshL := ref01_Shift.l0 ref01_Bits.spec ref01_Word.spec
def BitsAt (H : AHeap) (b : AV) (v : BitVec 32) : Prop := b = .rsl 1 (bls (bitsL v)) ∨ ∃ o, b = .sl o 1 0 32 ∧ H.get o = some (bBlk (bitsL v))
theorem mov_step (kind : Nat) (hk3 : kind ≤ 3) (v : BitVec 32) (k : Nat) (hk : k < 32) (H : AHeap) (b a2 a11 : AV) (n : Nat) (hb : BitsAt H b v) (hn : ∀ o l, b = .sl o 1 0 l → o ≠ n) :
    rshL1 (AFr.al [(0, .int .i64 kind), (2, a2), (10, b), (11, a11), (12, .sl n 1 0 32), (13, .int .i64 k)]) (H.set n (some (bBlk (movK kind v k)))) =
      some (.normal, AFr.al [(0, .int .i64 kind), (2, a2), (10, b), (11, a11), (12, .sl n 1 0 32), (13, .int .i64 (k + 1 : Nat))], H.set n (some (bBlk (movK kind v (k + 1))))) := by
  have lv : (bitsL v).length = 32 := by simp [bitsL]
  have lm : (movK kind v k).length = 32 := by simp [movK]
  have ht : ∀ i, i < 32 → atb (bitsL v) i = v.getLsbD i := fun i hi => tell_at 32 _ i hi
  have hset : ∀ x : Bool, x = (if kind = 0 then decide (0 < k) && v.getLsbD (k - 1) else v.getLsbD (k + 1)) → (movK kind v k).set k x = movK kind v (k + 1) := by
    intro x hx
    unfold movK
    rw [tell_set]
    refine tell_congr _ _ _ fun j hj => ?_
    by_cases e : j = k
    · subst e; simp [hx]
    · rw [if_neg e]
      have : decide (j < k + 1) = decide (j < k) := by rw [decide_eq_decide]; omega
      rw [this]
  have hsame : (if kind = 0 then decide (0 < k) && v.getLsbD (k - 1) else v.getLsbD (k + 1)) = false → movK kind v (k + 1) = movK kind v k := by
    intro hx
    unfold movK
    refine tell_congr _ _ _ fun j hj => ?_
    by_cases e : j = k
    · subst e; simp only [hx, Bool.and_false]
    · have : decide (j < k + 1) = decide (j < k) := by rw [decide_eq_decide]; omega
      rw [this]
  by_cases k0 : kind = 0
  · subst k0
    by_cases hk0 : k = 0
    · subst hk0
      rw [hsame (by simp)]
      rcases hb with rfl | ⟨o, rfl, ho⟩
      · simp -implicitDefEqProofs +contextual (disch := omega) [rshL1, ref01_Shift.l1]
      · simp -implicitDefEqProofs +contextual (disch := omega) [rshL1, ref01_Shift.l1]
    · have h1 := hset (v.getLsbD (k - 1)) (by simp; omega)
      have h2 := ht (k - 1) (by omega)
      have h3 : ((k : Int) - 1).toNat = k - 1 := by omega
      have h4 : 0 < k := by omega
      rw [← h1]
      rcases hb with rfl | ⟨o, rfl, ho⟩
      · simp -implicitDefEqProofs +contextual (disch := omega) [rshL1, ref01_Shift.l1, bBlk, lv, lm, h2, h3, h4]
      · have hno := hn o 32 rfl
        simp only [bBlk] at ho
        simp -implicitDefEqProofs +contextual (disch := omega) [rshL1, ref01_Shift.l1, bBlk, lv, lm, h2, h3, h4, ho, hno]
  · have k0i : ¬ (kind : Int) = 0 := by omega
    have k1i : 0 < (kind : Int) := by omega
    have k1n : 0 < kind := by omega
    by_cases hk31 : k = 31
    · subst hk31
      rw [hsame (by simp [k0])]
      rcases hb with rfl | ⟨o, rfl, ho⟩
      · simp -implicitDefEqProofs +contextual (disch := omega) [rshL1, ref01_Shift.l1, k0, k0i, k1i, k1n]
      · simp -implicitDefEqProofs +contextual (disch := omega) [rshL1, ref01_Shift.l1, k0, k0i, k1i, k1n]
    · have h1 := hset (v.getLsbD (k + 1)) (by simp [k0])
      have h2 := ht (k + 1) (by omega)
      have h3 : ((k : Int) + 1).toNat = k + 1 := by omega
      have h4 : k < 31 := by omega
      have h5 : (k : Int) < 31 := by omega
      rw [← h1]
      rcases hb with rfl | ⟨o, rfl, ho⟩
      · simp -implicitDefEqProofs +contextual (disch := omega) [rshL1, ref01_Shift.l1, bBlk, lv, lm, h2, h3, h4, h5, k0, k0i, k1i, k1n]
      · have hno := hn o 32 rfl
        simp only [bBlk] at ho
        simp -implicitDefEqProofs +contextual (disch := omega) [rshL1, ref01_Shift.l1, bBlk, lv, lm, h2, h3, h4, h5, k0, k0i, k1i, k1n, ho, hno]
theorem mov_loop (kind : Nat) (hk3 : kind ≤ 3) (v : BitVec 32) (H : AHeap) (b a2 a11 : AV) (n : Nat) (hb : BitsAt H b v) (hn : ∀ o l, b = .sl o 1 0 l → o ≠ n) :
    aloop rshL1 (AFr.al [(0, .int .i64 kind), (2, a2), (10, b), (11, a11), (12, .sl n 1 0 32), (13, .int .i64 0)]) (H.set n (some (bBlk (movK kind v 0)))) =
      some (.exit 2, AFr.al [(0, .int .i64 kind), (2, a2), (10, b), (11, a11), (12, .sl n 1 0 32), (13, .int .i64 32), (42, .bool false)], H.set n (some (bBlk (movK kind v 32)))) := by
  have h := aloop_go (f := rshL1) (fun k => AFr.al [(0, .int .i64 kind), (2, a2), (10, b), (11, a11), (12, .sl n 1 0 32), (13, .int .i64 k)]) (fun k => H.set n (some (bBlk (movK kind v k)))) 32
    (fun k hk => mov_step kind hk3 v k hk H b a2 a11 n hb hn) 0 (by omega)
  rw [show ((0 : Nat) : Int) = 0 from rfl] at h
  rw [h]
  refine aloop_exit (by simp) ?_
  simp -implicitDefEqProofs +contextual (disch := omega) [rshL1, ref01_Shift.l1]
end Go.Abs
end
section
set_option linter.unusedSimpArgs false
set_option linter.unusedVariables false
namespace Go.Abs
theorem push_setW (H : AHeap) (x y : Blk) : (H.push x).set H.next (some y) = H.push y := by
  refine AHeap.eq_of rfl (funext fun c => ?_)
  rw [AHeap.get_set, AHeap.get_push, AHeap.get_push]; split <;> rfl
theorem mk_bools (H : AHeap) (kind : Nat) (v : BitVec 32) : amakeR (some ⟨T.ty_bool, 1, 1, [(.bool false)]⟩) (.int .i64 32) (.int .i64 32) H = some (.sl H.next 1 0 32, H.push (bBlk (movK kind v 0))) := by
  have h : movK kind v 0 = List.replicate 32 false := by rw [tell_rep]; exact tell_congr _ _ _ fun j hj => by simp
  rw [h]; rfl
theorem mov_0 (v : BitVec 32) : movK 0 v 32 = bitsL (stepK 0 v) :=
  tell_congr _ _ _ fun j hj => by
    rcases j with _ | n
    · simp [stepK]
    · have h2 : n < 32 := by omega
      simp [stepK, hj, BitVec.getLsbD_eq_getElem h2]
theorem mov_1 (v : BitVec 32) : movK 1 v 32 = bitsL (stepK 1 v) :=
  tell_congr _ _ _ fun j hj => by simp [stepK, hj, Nat.add_comm]
theorem mov_2 (v : BitVec 32) : (movK 2 v 32).set 31 v.msb = bitsL (stepK 2 v) := by
  unfold movK; rw [tell_set]
  refine tell_congr _ _ _ fun j hj => ?_
  simp only [stepK, BitVec.getLsbD_sshiftRight]
  by_cases e : j = 31
  · subst e; simp
  · have h1 : 1 + j < 32 := by omega
    have h2 : j + 1 = 1 + j := by omega
    have h3 : ¬ 32 ≤ j := by omega
    simp [e, hj, h1, h2, h3]
theorem mov_3 (v : BitVec 32) : (movK 3 v 32).set 31 (v.getLsbD 0) = bitsL (stepK 3 v) := by
  unfold movK; rw [tell_set]
  refine tell_congr _ _ _ fun j hj => ?_
  simp only [stepK, BitVec.getLsbD_rotateRight]
  by_cases e : j = 31
  · subst e; simp
  · have h1 : j < 31 := by omega
    have h2 : j + 1 = 1 + j := by omega
    simp [e, hj, h1, h2]
def outK (kind : Nat) (v : BitVec 32) : Bool := if kind = 0 then v.msb else v.getLsbD 0
theorem sh_step (kind : Nat) (hk3 : kind ≤ 3) (v by_ : BitVec 32) (c : Bool) (i : Nat) (hi : i < by_.toNat) (hi70 : i < 70) (H : AHeap) (hw : H.WF) (b : AV) (hb : BitsAt H b v) : ∃ H' b',
    rshL (AFr.al [(0, .int .i64 kind), (2, W32 by_), (3, .bool c), (10, b), (11, W32 (BitVec.ofNat 32 i))]) H =
      some (.normal, AFr.al [(0, .int .i64 kind), (2, W32 by_), (3, .bool (outK kind v)), (10, b'), (11, W32 (BitVec.ofNat 32 (i + 1)))], H') ∧ BitsAt H' b' (stepK kind v) ∧ H'.WF := by
  have lv : (bitsL v).length = 32 := by simp [bitsL]
  have lm : (movK kind v 32).length = 32 := by simp [movK]
  have h31 : atb (bitsL v) 31 = v.msb := by rw [bitsL, tell_at 32 _ 31 (by omega), BitVec.msb_eq_getLsbD_last]
  have h0 : atb (bitsL v) 0 = v.getLsbD 0 := tell_at 32 _ 0 (by omega)
  have hmk := mk_bools H kind v
  have hbn : ∀ o l, b = .sl o 1 0 l → o < H.next := fun o l e => by
    rcases hb with rfl | ⟨o', rfl, ho⟩
    · cases e
    · cases e; exact hw _ _ ho
  have hb' : BitsAt (H.push (bBlk (movK kind v 0))) b v := by
    rcases hb with rfl | ⟨o, rfl, ho⟩
    · exact .inl rfl
    · have := hw _ _ ho
      exact .inr ⟨o, rfl, by rw [AHeap.get_push, if_neg (by omega)]; exact ho⟩
  have hl := mov_loop kind hk3 v (H.push (bBlk (movK kind v 0))) b (W32 by_) (W32 (BitVec.ofNat 32 i)) H.next hb' (fun o l e => by have := hbn o l e; omega)
  rw [push_setW, push_setW] at hl
  have hlt : BitVec.ofNat 32 i < by_ := by rw [BitVec.lt_def, BitVec.toNat_ofNat]; omega
  have hlt70 : BitVec.ofNat 32 i < 70#32 := by rw [BitVec.lt_def, BitVec.toNat_ofNat]; simp; omega
  have hsucc : BitVec.ofNat 32 i + 1#32 = BitVec.ofNat 32 (i + 1) := by apply BitVec.eq_of_toNat_eq; simp
  have fin : ∀ l : List Bool, l = bitsL (stepK kind v) → BitsAt (H.push (bBlk l)) (.sl H.next 1 0 32) (stepK kind v) ∧ (H.push (bBlk l)).WF := fun l e => ⟨.inr ⟨H.next, rfl, by simp [e]⟩, AHeap.WF.push hw⟩
  have m0 := mov_0 v; have m1 := mov_1 v; have m2 := mov_2 v; have m3 := mov_3 v
  match kind, hk3 with
  | 0, _ =>
    refine ⟨H.push (bBlk (movK 0 v 32)), .sl H.next 1 0 32, ?_, fin _ m0⟩
    push_cast at hl
    simp only [bBlk] at hmk hl ⊢
    rcases hb with rfl | ⟨o, rfl, ho⟩
    · simp -implicitDefEqProofs +contextual (disch := omega) [rshL, ref01_Shift.l0, hmk, hl, hlt, hlt70, hsucc, h31, h0, lv, outK, -make_eq]
    · have hon := hw _ _ ho
      simp only [bBlk] at ho
      simp -implicitDefEqProofs +contextual (disch := omega) [rshL, ref01_Shift.l0, hmk, hl, hlt, hlt70, hsucc, h31, h0, lv, outK, ho, -make_eq]
  | 1, _ =>
    refine ⟨H.push (bBlk (movK 1 v 32)), .sl H.next 1 0 32, ?_, fin _ m1⟩
    push_cast at hl
    simp only [bBlk] at hmk hl ⊢
    rcases hb with rfl | ⟨o, rfl, ho⟩
    · simp -implicitDefEqProofs +contextual (disch := omega) [rshL, ref01_Shift.l0, hmk, hl, hlt, hlt70, hsucc, h31, h0, lv, outK, -make_eq]
    · have hon := hw _ _ ho
      simp only [bBlk] at ho
      simp -implicitDefEqProofs +contextual (disch := omega) [rshL, ref01_Shift.l0, hmk, hl, hlt, hlt70, hsucc, h31, h0, lv, outK, ho, -make_eq]
  | 2, _ =>
    refine ⟨H.push (bBlk ((movK 2 v 32).set 31 v.msb)), .sl H.next 1 0 32, ?_, fin _ m2⟩
    have ps := fun x y => push_setW H x y
    push_cast at hl
    simp only [bBlk] at hmk hl ps ⊢
    rcases hb with rfl | ⟨o, rfl, ho⟩
    · simp -implicitDefEqProofs +contextual (disch := omega) [rshL, ref01_Shift.l0, hmk, hl, hlt, hlt70, hsucc, h31, h0, lv, lm, outK, ps, -make_eq]
    · have hon := hw _ _ ho
      simp only [bBlk] at ho
      simp -implicitDefEqProofs +contextual (disch := omega) [rshL, ref01_Shift.l0, hmk, hl, hlt, hlt70, hsucc, h31, h0, lv, lm, outK, ho, ps, -make_eq]
  | 3, _ =>
    refine ⟨H.push (bBlk ((movK 3 v 32).set 31 (v.getLsbD 0))), .sl H.next 1 0 32, ?_, fin _ m3⟩
    have ps := fun x y => push_setW H x y
    push_cast at hl
    simp only [bBlk] at hmk hl ps ⊢
    rcases hb with rfl | ⟨o, rfl, ho⟩
    · simp -implicitDefEqProofs +contextual (disch := omega) [rshL, ref01_Shift.l0, hmk, hl, hlt, hlt70, hsucc, h31, h0, lv, lm, outK, ps, -make_eq]
    · have hon := hw _ _ ho
      simp only [bBlk] at ho
      simp -implicitDefEqProofs +contextual (disch := omega) [rshL, ref01_Shift.l0, hmk, hl, hlt, hlt70, hsucc, h31, h0, lv, lm, outK, ho, ps, -make_eq]
def sIter (kind : Nat) : Nat → BitVec 32 × Bool → BitVec 32 × Bool
  | 0, s => s
  | d + 1, s => sIter kind d (stepK kind s.1, outK kind s.1)
theorem sIter_succ (kind : Nat) : ∀ (d : Nat) (s : BitVec 32 × Bool), sIter kind (d + 1) s = (stepK kind (sIter kind d s).1, outK kind (sIter kind d s).1)
  | 0, s => rfl
  | d + 1, s => by
    show sIter kind (d + 1) (stepK kind s.1, outK kind s.1) = _
    rw [sIter_succ kind d]; rfl
theorem rotb (v : BitVec 32) (k i : Nat) (hi : i < 32) : (v.rotateRight k).getLsbD i = v.getLsbD ((k + i) % 32) := by
  rw [BitVec.getLsbD_rotateRight]
  by_cases h : i < 32 - k % 32
  · rw [decide_eq_true h, cond_true]; congr 1; omega
  · rw [decide_eq_false h, cond_false, decide_eq_true hi, Bool.true_and]; congr 1; omega
theorem shN_next (kind : Nat) (hk : kind ≤ 3) (v : BitVec 32) (n : Nat) (hn : 0 < n) : stepK kind (shN kind v n).w = (shN kind v (n + 1)).w ∧ outK kind (shN kind v n).w = (shN kind v (n + 1)).c := by
  match kind, hk with
  | 0, _ =>
    refine ⟨?_, ?_⟩
    · show v <<< n <<< 1 = v <<< (n + 1)
      rw [BitVec.shiftLeft_add]
    · show (v <<< n).msb = (decide (n + 1 ≤ 32) && v.getLsbD (32 - (n + 1)))
      rw [BitVec.msb_eq_getLsbD_last, BitVec.getLsbD_shiftLeft]
      by_cases h : n ≤ 31
      · have h1 : ¬ 31 < n := by omega
        have h2 : n + 1 ≤ 32 := by omega
        rw [show 32 - (n + 1) = 31 - n from by omega]
        simp [h1, h2]
      · have h1 : 31 < n := by omega
        have h2 : ¬ n + 1 ≤ 32 := by omega
        simp [h1, h2]
  | 1, _ =>
    refine ⟨?_, ?_⟩
    · show v >>> n >>> 1 = v >>> (n + 1)
      rw [BitVec.shiftRight_add]
    · show (v >>> n).getLsbD 0 = v.getLsbD (n + 1 - 1)
      rw [BitVec.getLsbD_ushiftRight]; simp
  | 2, _ =>
    refine ⟨?_, ?_⟩
    · show (v.sshiftRight (min n 32)).sshiftRight 1 = v.sshiftRight (min (n + 1) 32)
      apply BitVec.eq_of_getLsbD_eq
      intro i hi
      simp only [BitVec.getLsbD_sshiftRight, BitVec.msb_sshiftRight]
      by_cases h : n < 32
      · rw [show min n 32 = n from by omega, show min (n + 1) 32 = n + 1 from by omega]
        by_cases h1 : 1 + i < 32
        · have h2 : n + (1 + i) = n + 1 + i := by omega
          simp [h1, h2]
        · have h2 : ¬ n + 1 + i < 32 := by omega
          simp [h1, h2]
      · rw [show min n 32 = 32 from by omega, show min (n + 1) 32 = 32 from by omega]
        by_cases h1 : 1 + i < 32 <;> simp [h1]
    · show (v.sshiftRight (min n 32)).getLsbD 0 = v.getLsbD (min (n + 1) 32 - 1)
      rw [BitVec.getLsbD_sshiftRight]
      by_cases h : n < 32
      · rw [show min n 32 = n from by omega, show min (n + 1) 32 - 1 = n from by omega]
        simp [h]
      · rw [show min n 32 = 32 from by omega, show min (n + 1) 32 - 1 = 31 from by omega]
        simp [BitVec.msb_eq_getLsbD_last]
  | 3, _ =>
    have h1 : (v.rotateRight (n % 32)).rotateRight 1 = v.rotateRight ((n + 1) % 32) := by
      apply BitVec.eq_of_getLsbD_eq
      intro i hi
      rw [rotb _ _ _ hi, rotb _ _ _ (Nat.mod_lt _ (by omega)), rotb _ _ _ hi]
      congr 1; omega
    refine ⟨h1, ?_⟩
    show (v.rotateRight (n % 32)).getLsbD 0 = (v.rotateRight ((n + 1) % 32)).msb
    rw [← h1, BitVec.msb_eq_getLsbD_last, rotb _ 1 _ (by omega)]
theorem sIter_eq (kind : Nat) (hk : kind ≤ 3) (v : BitVec 32) (c : Bool) : ∀ n : Nat, sIter kind (n + 1) (v, c) = ((shN kind v (n + 1)).w, (shN kind v (n + 1)).c)
  | 0 => by
    rw [sIter_succ]
    show (stepK kind v, outK kind v) = _
    match kind, hk with
    | 0, _ => simp [stepK, outK, shN, BitVec.msb_eq_getLsbD_last]
    | 1, _ => simp [stepK, outK, shN]
    | 2, _ => simp [stepK, outK, shN]
    | 3, _ =>
      refine Prod.ext rfl ?_
      show v.getLsbD 0 = (v.rotateRight 1).msb
      rw [BitVec.msb_eq_getLsbD_last, BitVec.getLsbD_rotateRight]; simp
  | n + 1 => by
    rw [sIter_succ, sIter_eq kind hk v c n]
    obtain ⟨h1, h2⟩ := shN_next kind hk v (n + 1) (by omega)
    rw [h1, h2]
theorem sh_loop (kind : Nat) (hk3 : kind ≤ 3) (by_ : BitVec 32) : ∀ (d i : Nat) (v : BitVec 32) (c : Bool) (H : AHeap) (b : AV), i + d = min by_.toNat 70 → H.WF → BitsAt H b v → ∃ H' b',
    aloop rshL (AFr.al [(0, .int .i64 kind), (2, W32 by_), (3, .bool c), (10, b), (11, W32 (BitVec.ofNat 32 i))]) H =
      some (.exit 0, AFr.al [(0, .int .i64 kind), (2, W32 by_), (3, .bool (sIter kind d (v, c)).2), (10, b'), (11, W32 (BitVec.ofNat 32 (i + d))), (37, .bool false)], H') ∧ BitsAt H' b' (sIter kind d (v, c)).1
  | 0, i, v, c, H, b, hi, hw, hb => by
    refine ⟨H, b, aloop_exit (by simp) ?_, hb⟩
    by_cases h : by_.toNat ≤ 70
    · have h1 : ¬ BitVec.ofNat 32 i < by_ := by rw [BitVec.lt_def, BitVec.toNat_ofNat]; omega
      simp -implicitDefEqProofs +contextual (disch := omega) [rshL, ref01_Shift.l0, h1, sIter]
    · have h1 : ¬ BitVec.ofNat 32 i < 70#32 := by rw [BitVec.lt_def, BitVec.toNat_ofNat]; simp; omega
      have h2 : BitVec.ofNat 32 i < by_ := by rw [BitVec.lt_def, BitVec.toNat_ofNat]; omega
      simp -implicitDefEqProofs +contextual (disch := omega) [rshL, ref01_Shift.l0, h1, h2, sIter]
  | d + 1, i, v, c, H, b, hi, hw, hb => by
    obtain ⟨H1, b1, q1, q2, q3⟩ := sh_step kind hk3 v by_ c i (by omega) (by omega) H hw b hb
    obtain ⟨H2, b2, p1, p2⟩ := sh_loop kind hk3 by_ d (i + 1) (stepK kind v) (outK kind v) H1 b1 (by omega) q3 q2
    rw [show i + 1 + d = i + (d + 1) from by omega] at p1
    exact ⟨H2, b2, by rw [aloop_step q1]; exact p1, p2⟩
theorem shN_min (kind : Nat) (hk : kind ≤ 2) (v : BitVec 32) (n : Nat) (hn : 70 ≤ n) : shN kind v n = shN kind v 70 := by
  match kind, hk with
  | 0, _ =>
    have h1 : v <<< n = v <<< 70 := by rw [BitVec.shiftLeft_eq_zero (by omega), BitVec.shiftLeft_eq_zero (by omega)]
    have h2 : ¬ n ≤ 32 := by omega
    simp [shN, h1, h2]
  | 1, _ =>
    have h1 : v >>> n = v >>> 70 := by rw [BitVec.ushiftRight_eq_zero (by omega), BitVec.ushiftRight_eq_zero (by omega)]
    have h2 : v.getLsbD (n - 1) = v.getLsbD 69 := by rw [BitVec.getLsbD_of_ge _ _ (by omega), BitVec.getLsbD_of_ge _ _ (by omega)]
    show Sh2.mk (v >>> n) (v.getLsbD (n - 1)) = Sh2.mk (v >>> 70) (v.getLsbD 69)
    rw [h1, h2]
  | 2, _ =>
    show Sh2.mk (v.sshiftRight (min n 32)) (v.getLsbD (min n 32 - 1)) = Sh2.mk (v.sshiftRight (min 70 32)) (v.getLsbD (min 70 32 - 1))
    rw [show min n 32 = min 70 32 from by omega]
theorem rShift_run (kind : Nat) (hk : kind ≤ 3) (a by_ : BitVec 32) (c : Bool) (h3 : kind = 3 → by_.toNat ≤ 64) : ∃ H' b',
    aloop rshL (AFr.al [(0, .int .i64 kind), (2, W32 by_), (3, .bool c), (10, .rsl 1 (bls (bitsL a))), (11, W32 0#32)]) AHeap.empty =
      some (.exit 0, AFr.al [(0, .int .i64 kind), (2, W32 by_), (3, .bool (shiftM kind a by_ c).c), (10, b'), (11, W32 (BitVec.ofNat 32 (min by_.toNat 70))), (37, .bool false)], H') ∧ BitsAt H' b' (shiftM kind a by_ c).w := by
  obtain ⟨H', b', h1, h2⟩ := sh_loop kind hk by_ (min by_.toNat 70) 0 a c AHeap.empty (.rsl 1 (bls (bitsL a))) (by omega) AHeap.WF.empty (.inl rfl)
  rw [Nat.zero_add] at h1
  have key : sIter kind (min by_.toNat 70) (a, c) = ((shiftM kind a by_ c).w, (shiftM kind a by_ c).c) := by
    unfold shiftM
    by_cases h0 : by_ = 0#32
    · subst h0; rfl
    · have hp : 0 < by_.toNat := Nat.pos_of_ne_zero fun e => h0 (BitVec.eq_of_toNat_eq (by simpa using e))
      rw [if_neg h0, show min by_.toNat 70 = min by_.toNat 70 - 1 + 1 from by omega, sIter_eq kind hk a c, show min by_.toNat 70 - 1 + 1 = min by_.toNat 70 from by omega]
      by_cases h70 : by_.toNat ≤ 70
      · rw [Nat.min_eq_left h70]
      · have hk2 : kind ≤ 2 := by
          by_cases e : kind = 3
          · have := h3 e; omega
          · omega
        rw [Nat.min_eq_right (by omega), shN_min kind hk2 a by_.toNat (by omega)]
  rw [key] at h1 h2
  exact ⟨H', b', h1, h2⟩
theorem rShift_eq (kind : Nat) (hk : kind ≤ 3) (a by_ : BitVec 32) (c : Bool) : ref01_Shift.spec [.int .i64 (kind : Nat), W32 a, W32 by_, .bool c] = some (.tup [W32 (shiftM kind a by_ c).w, .bool (shiftM kind a by_ c).c]) := by
  have b1 := Bits_eq a
  have k0 : ¬ (kind : Int) < 0 := by omega
  have k1 : ¬ (3 : Int) < kind := by omega
  by_cases h3 : kind = 3 ∧ 64#32 < by_
  · obtain ⟨h4, h5⟩ := h3
    obtain ⟨q, hq⟩ : ∃ q : BitVec 32, 32#32 + by_ % 32#32 = q := ⟨_, rfl⟩
    have hqn : q.toNat = 32 + by_.toNat % 32 := by rw [← hq, BitVec.toNat_add, BitVec.toNat_umod]; simp; omega
    have hb5 : 64 < by_.toNat := by rw [BitVec.lt_def] at h5; simpa using h5
    obtain ⟨H', b', h1, h2⟩ := rShift_run kind hk a q c (fun _ => by omega)
    have e : shiftM kind a q c = shiftM kind a by_ c := by
      subst h4
      unfold shiftM
      rw [if_neg (fun e => by rw [e] at hqn; simp at hqn; omega), if_neg (fun e => by rw [e] at hb5; simp at hb5)]
      show Sh2.mk (a.rotateRight (q.toNat % 32)) (a.rotateRight (q.toNat % 32)).msb = Sh2.mk (a.rotateRight (by_.toNat % 32)) (a.rotateRight (by_.toNat % 32)).msb
      rw [show q.toNat % 32 = by_.toNat % 32 from by omega]
    rw [e] at h1 h2
    have hw := Word_eq' (shiftM kind a by_ c).w
    have lv : (bitsL (shiftM kind a by_ c).w).length = 32 := by simp [bitsL]
    have ht : (bls (bitsL (shiftM kind a by_ c).w)).take 32 = bls (bitsL (shiftM kind a by_ c).w) := List.take_of_length_le (by rw [bls_length, lv]; exact Nat.le_refl _)
    subst h4
    push_cast at h1 ⊢
    rcases h2 with rfl | ⟨o, rfl, ho⟩
    · simp -implicitDefEqProofs +contextual (disch := omega) [ref01_Shift.spec, ref01_Shift, b1, h5, hq, h1, hw]
    · simp only [bBlk] at ho
      simp -implicitDefEqProofs +contextual (disch := omega) [ref01_Shift.spec, ref01_Shift, b1, h5, hq, h1, hw, ho, lv, ht]
  · obtain ⟨H', b', h1, h2⟩ := rShift_run kind hk a by_ c (fun e => by
      have : ¬ 64#32 < by_ := fun q => h3 ⟨e, q⟩
      rw [BitVec.lt_def] at this; simp at this; omega)
    have hw := Word_eq' (shiftM kind a by_ c).w
    have lv : (bitsL (shiftM kind a by_ c).w).length = 32 := by simp [bitsL]
    have ht : (bls (bitsL (shiftM kind a by_ c).w)).take 32 = bls (bitsL (shiftM kind a by_ c).w) := List.take_of_length_le (by rw [bls_length, lv]; exact Nat.le_refl _)
    by_cases h4 : kind = 3
    · have h5 : ¬ 64#32 < by_ := fun q => h3 ⟨h4, q⟩
      subst h4
      push_cast at h1 ⊢
      rcases h2 with rfl | ⟨o, rfl, ho⟩
      · simp -implicitDefEqProofs +contextual (disch := omega) [ref01_Shift.spec, ref01_Shift, b1, h5, h1, hw]
      · simp only [bBlk] at ho
        simp -implicitDefEqProofs +contextual (disch := omega) [ref01_Shift.spec, ref01_Shift, b1, h5, h1, hw, ho, lv, ht]
    · have h4i : ¬ (kind : Int) = 3 := by omega
      rcases h2 with rfl | ⟨o, rfl, ho⟩
      · simp -implicitDefEqProofs +contextual (disch := omega) [ref01_Shift.spec, ref01_Shift, b1, h4, h4i, h1, hw, k0, k1]
      · simp only [bBlk] at ho
        simp -implicitDefEqProofs +contextual (disch := omega) [ref01_Shift.spec, ref01_Shift, b1, h4, h4i, h1, hw, ho, lv, ht, k0, k1]
end Go.Abs
end
section
set_option linter.unusedSimpArgs false
set_option linter.unusedVariables false
namespace Go.Abs
noncomputable abbrev rrotL := ref01_Rot.l0 ref01_Bits.spec ref01_Word.spec
theorem turn_bits (v : BitVec 32) : [[AV.bool (atb (bitsL v) 31)]] ++ (bls (bitsL v)).take 31 = bls (bitsL (v.rotateLeft 1)) := by
  have e : bitsL (v.rotateLeft 1) = atb (bitsL v) 31 :: (bitsL v).take 31 := by
    apply List.ext_getElem?
    intro j
    cases j with
    | zero =>
      simp [bitsL, tell, atb, BitVec.getLsbD_rotateLeft]
    | succ j =>
      rw [List.getElem?_cons_succ, List.getElem?_take]
      by_cases h : j < 31
      · rw [if_pos h]
        have h1 : j + 1 < 32 := by omega
        have h2 : j < 32 := by omega
        simp [bitsL, tell, h1, h2, BitVec.getLsbD_rotateLeft]
      · rw [if_neg h, List.getElem?_eq_none (by simp [bitsL]; omega)]
  rw [e]; simp [bls, List.map_take]
theorem rot_one (v : BitVec 32) (i : Nat) (hi : i < 31) : (v.rotateLeft i).rotateLeft 1 = v.rotateLeft (i + 1) := by
  apply BitVec.eq_of_getLsbD_eq
  intro j hj
  simp only [BitVec.getLsbD_rotateLeft, Nat.reduceMod, Nat.mod_eq_of_lt (show i < 32 by omega), Nat.mod_eq_of_lt (show i + 1 < 32 by omega)]
  by_cases h0 : j < 1
  · have : j = 0 := by omega
    subst this
    have q : ¬ 31 < i := by omega
    simp [q]
  · by_cases h1 : j - 1 < i
    · have q : j < i + 1 := by omega
      have q2 : 31 - i + j = 32 - i + (j - 1) := by omega
      simp [h0, h1, q, q2, hj]
    · have q : ¬ j < i + 1 := by omega
      have q2 : j - (i + 1) = j - 1 - i := by omega
      have q3 : j - 1 < 32 := by omega
      simp [h0, h1, q, q2, q3, hj]
theorem rot_step (v n : BitVec 32) (i : Nat) (hi : i < n.toNat % 32) (H : AHeap) (hw : H.WF) (b : AV) (hb : BitsAt H b v) (x : List (Nat × AV)) : ∃ y H' b',
    rrotL (AFr.al ([(1, W32 n), (5, b), (6, W32 (BitVec.ofNat 32 i))] ++ x)) H = some (.normal, AFr.al ([(1, W32 n), (5, b'), (6, W32 (BitVec.ofNat 32 (i + 1)))] ++ y), H') ∧ H'.WF ∧ BitsAt H' b' (v.rotateLeft 1) := by
  have hlt : BitVec.ofNat 32 i < n % 32#32 := by
    rw [BitVec.lt_def, BitVec.toNat_umod, BitVec.toNat_ofNat]; simp; omega
  have h1 : BitVec.ofNat 32 i + 1#32 = BitVec.ofNat 32 (i + 1) := by
    apply BitVec.eq_of_toNat_eq; simp
  have ht := turn_bits v
  simp only [bitsL, List.singleton_append] at ht
  rcases hb with rfl | ⟨o, rfl, ho⟩
  · refine ⟨?_, ?_, ?_, ?_, ?_, ?_⟩
    rotate_left 3
    · simp -implicitDefEqProofs +contextual (disch := try first | omega | assumption) [ref01_Rot.l0, hlt, h1, bitsL, tell_length]
      constructor <;> rfl
    · (repeat' (first | assumption | with_reducible apply AHeap.WF.push | with_reducible apply AHeap.WF.set)) <;> (simp <;> omega)
    · right; simp (disch := omega) [bBlk, bitsL, tell_length]; exact ht
  · have hbo := hw _ _ ho
    simp only [bBlk] at ho
    refine ⟨?_, ?_, ?_, ?_, ?_, ?_⟩
    rotate_left 3
    · simp -implicitDefEqProofs +contextual (disch := try first | omega | assumption) [ref01_Rot.l0, hlt, h1, bitsL, tell_length, ho]
      constructor <;> rfl
    · (repeat' (first | assumption | with_reducible apply AHeap.WF.push | with_reducible apply AHeap.WF.set)) <;> (simp <;> omega)
    · right; simp (disch := omega) [bBlk, bitsL, tell_length]; exact ht
theorem rrot_loop (a n : BitVec 32) : ∀ (d i : Nat) (H : AHeap) (b : AV) (x : List (Nat × AV)), i + d = n.toNat % 32 → H.WF → BitsAt H b (a.rotateLeft i) →
    ∃ fr' H' b', aloop rrotL (AFr.al ([(1, W32 n), (5, b), (6, W32 (BitVec.ofNat 32 i))] ++ x)) H = some (.exit 0, fr', H') ∧ fr' 5 = b' ∧ BitsAt H' b' (a.rotateLeft (n.toNat % 32)) := by
  intro d
  induction d with
  | zero =>
    intro i H b x h hw hb
    obtain rfl : i = n.toNat % 32 := by omega
    have hlt : ¬ BitVec.ofNat 32 (n.toNat % 32) < n % 32#32 := by
      rw [BitVec.lt_def, BitVec.toNat_umod, BitVec.toNat_ofNat]; simp; omega
    refine ⟨_, H, b, aloop_exit (by simp) (by simp -implicitDefEqProofs +contextual (disch := omega) [ref01_Rot.l0, hlt]; rfl), ?_, hb⟩
    simp
  | succ d ih =>
    intro i H b x h hw hb
    obtain ⟨y, H1, b1, s1, s2, s3⟩ := rot_step (a.rotateLeft i) n i (by omega) H hw b hb x
    rw [rot_one a i (by omega)] at s3
    obtain ⟨fr', H', b', p1, p2⟩ := ih (i + 1) H1 b1 y (by omega) s2 s3
    exact ⟨fr', H', b', (aloop_step s1).trans p1, p2⟩
theorem rRot_eq (a n : BitVec 32) : ref01_Rot.spec [W32 a, W32 n] = some (W32 (a.rotateLeft (n.toNat % 32))) := by
  have hB := Bits_eq a
  generalize hwd : a.rotateLeft (n.toNat % 32) = w
  have hW := Word_eq' w
  have h0 : a.rotateLeft 0 = a := by
    apply BitVec.eq_of_getLsbD_eq; intro j hj; simp [BitVec.getLsbD_rotateLeft, hj]
  simp -implicitDefEqProofs +contextual (disch := omega) [ref01_Rot.spec, ref01_Rot, hB]
  generalize hr : aloop _ _ _ = r
  obtain ⟨fr', H', b', p1, p2, p3⟩ := rrot_loop a n (n.toNat % 32) 0 AHeap.empty (.rsl 1 (bls (bitsL a))) [] (by omega) AHeap.WF.empty (.inl (by rw [h0]))
  have hr2 := hr.symm.trans p1
  subst hr2
  rw [hwd] at p3
  rcases p3 with rfl | ⟨o, rfl, ho⟩
  · simp -implicitDefEqProofs +contextual (disch := omega) [p2, hW]
  · simp only [bBlk] at ho
    have hl : (bitsL w).length = 32 := by simp [bitsL]
    have ht : (bls (bitsL w)).take 32 = bls (bitsL w) := List.take_of_length_le (by rw [bls_length, hl]; omega)
    simp -implicitDefEqProofs +contextual (disch := omega) [p2, ho, hl, ht, hW]
end Go.Abs
end

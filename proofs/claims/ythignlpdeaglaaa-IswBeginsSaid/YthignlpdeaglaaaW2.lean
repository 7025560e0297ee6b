/-
  Words, bit by bit.
-/
import Derived.Test.YthignlpdeaglaaaW1
import Derived.Test.YthignlpdeaglaaaLoF
set_option linter.unusedSimpArgs false
set_option linter.unusedVariables false
namespace Go.Abs
def bls (l : List Bool) : List (List AV) := l.map fun b => [.bool b]
def atb (l : List Bool) (i : Nat) : Bool := l.getD i false
theorem atb_get (l : List Bool) (i : Nat) (h : i < l.length) : l[i]? = some (atb l i) := by
  unfold atb; rw [List.getD_eq_getElem?_getD, List.getElem?_eq_getElem h]; rfl
@[simp] theorem bls_length (l : List Bool) : (bls l).length = l.length := by simp [bls]
@[simp] theorem bls_get (l : List Bool) (n : Nat) : (bls l)[n]? = if n < l.length then some [.bool (atb l n)] else none := by
  split
  · rename_i h; simp [bls, atb_get l n h]
  · rename_i h; simp [bls]; omega
@[simp] theorem bls_set (l : List Bool) (n : Nat) (x : Bool) : (bls l).set n [.bool x] = bls (l.set n x) := by simp [bls, List.map_set]
theorem bls_snoc (l : List Bool) (x : Bool) : bls l ++ [[.bool x]] = bls (l ++ [x]) := by simp [bls]
def tell (n : Nat) (f : Nat → Bool) : List Bool := (List.range n).map f
@[simp] theorem tell_length (n : Nat) (f : Nat → Bool) : (tell n f).length = n := by simp [tell]
theorem tell_at (n : Nat) (f : Nat → Bool) (i : Nat) (h : i < n) : atb (tell n f) i = f i := by
  have := atb_get (tell n f) i (by simpa using h)
  simp [tell, h] at this; exact this.symm
theorem tell_succ (n : Nat) (f : Nat → Bool) : tell (n + 1) f = tell n f ++ [f n] := by simp [tell, List.range_succ]
theorem tell_set (n : Nat) (f : Nat → Bool) (k : Nat) (x : Bool) : (tell n f).set k x = tell n fun j => if j = k then x else f j := by
  apply List.ext_getElem (by simp)
  intro j h1 h2
  simp only [List.getElem_set, tell, List.getElem_map, List.getElem_range]
  by_cases e : k = j
  · subst e; simp
  · simp [e, show ¬ j = k from fun q => e q.symm]
theorem tell_congr (n : Nat) (f g : Nat → Bool) (h : ∀ j, j < n → f j = g j) : tell n f = tell n g := by
  apply List.map_congr_left; intro j hj; exact h j (List.mem_range.1 hj)
theorem tell_rep (n : Nat) (x : Bool) : List.replicate n x = tell n fun _ => x := by
  apply List.ext_getElem <;> simp [tell]
def bitsL (a : BitVec 32) : List Bool := tell 32 a.getLsbD
theorem shr_half (a : BitVec 32) (i : Nat) : a >>> i / 2#32 = a >>> (i + 1) := by
  apply BitVec.eq_of_toNat_eq
  rw [BitVec.toNat_udiv, BitVec.toNat_ushiftRight, BitVec.toNat_ushiftRight, Nat.shiftRight_succ]; rfl
theorem shr_odd (a : BitVec 32) (i : Nat) : ((a >>> i % 2#32) == 1#32) = a.getLsbD i := by
  rw [Bool.eq_iff_iff, beq_iff_eq]
  have h : (a >>> i % 2#32).toNat = a.toNat / 2 ^ i % 2 := by rw [BitVec.toNat_umod, BitVec.toNat_ushiftRight, Nat.shiftRight_eq_div_pow]; rfl
  rw [← BitVec.testBit_toNat, Nat.testBit_eq_decide_div_mod_eq, decide_eq_true_eq, ← h]
  constructor
  · intro q; rw [q]; rfl
  · intro q; exact BitVec.eq_of_toNat_eq q
def bBlk (l : List Bool) : Blk := ⟨T.ty_bool, 1, true, bls l⟩
theorem bits_step (a : BitVec 32) (i : Nat) (hi : i < 32) (H : AHeap) (b : Nat) (hb : H.get b = some (bBlk (tell i a.getLsbD))) (hw : H.WF) : ∃ H' b',
    ref01_Bits.l0 (AFr.al [(0, W32 (a >>> i)), (3, .sl b 1 0 i), (4, .int .i64 i)]) H = some (.normal, AFr.al [(0, W32 (a >>> (i + 1))), (3, .sl b' 1 0 (i + 1)), (4, .int .i64 (i + 1 : Nat))], H') ∧ H'.get b' = some (bBlk (tell (i + 1) a.getLsbD)) ∧ H'.WF := by
  have hlt := hw _ _ hb
  have e1 := shr_odd a i; have e2 := shr_half a i
  refine ⟨((H.push (bBlk [a.getLsbD i])).set b none).push (bBlk (tell (i + 1) a.getLsbD)), H.next + 1, ?_, by simp, AHeap.WF.push (AHeap.WF.set (AHeap.WF.push hw) (by simp; omega))⟩
  simp only [bBlk] at hb ⊢
  simp -implicitDefEqProofs +contextual (disch := omega) [ref01_Bits.l0, hb, e1, e2, tell_succ, ← bls_snoc]
  simp [bls]
theorem Bits_eq (a : BitVec 32) : ref01_Bits.spec [W32 a] = some (.rsl 1 (bls (bitsL a))) := by
  obtain ⟨e, fr', X', hgo, rfl, b, rfl, hq⟩ := aloop_upto (f := ref01_Bits.l0) (fun i fr X => ∃ b, fr = AFr.al [(0, W32 (a >>> i)), (3, .sl b 1 0 i), (4, .int .i64 i)] ∧ X.get b = some (bBlk (tell i a.getLsbD)) ∧ X.WF) 32
    (fun e fr X => e = .exit 0 ∧ ∃ b, fr = AFr.al [(0, W32 (a >>> 32)), (3, .sl b 1 0 32), (4, .int .i64 32), (7, .bool false)] ∧ X.get b = some (bBlk (bitsL a)))
    (fun k hk fr X hR => by
      obtain ⟨b, rfl, h1, h2⟩ := hR
      obtain ⟨H', b', q1, q2, q3⟩ := bits_step a k hk X b h1 h2
      exact ⟨_, _, q1, b', rfl, q2, q3⟩)
    (fun fr X hR => by
      obtain ⟨b, rfl, h1, h2⟩ := hR
      exact ⟨.exit 0, AFr.al [(0, W32 (a >>> 32)), (3, .sl b 1 0 32), (4, .int .i64 32), (7, .bool false)], X, by simp -implicitDefEqProofs +contextual (disch := omega) [ref01_Bits.l0], by simp, rfl, b, rfl, h1⟩)
    (fr := AFr.al [(0, W32 (a >>> 0)), (3, .sl 0 1 0 0), (4, .int .i64 (0 : Nat))]) (H := AHeap.empty.push (bBlk [])) ⟨0, rfl, by simp [tell], AHeap.WF.push AHeap.WF.empty⟩
  simp only [bBlk] at hgo hq
  rw [show ((0 : Nat) : Int) = 0 from rfl, show a >>> 0 = a from BitVec.ushiftRight_zero a] at hgo
  rw [show bls [] = ([] : List (List AV)) from rfl] at hgo
  have hl32 : (bitsL a).length = 32 := by simp [bitsL]
  have ht : (bls (bitsL a)).take 32 = bls (bitsL a) := List.take_of_length_le (by rw [bls_length, hl32]; exact Nat.le_refl _)
  simp -implicitDefEqProofs +contextual (disch := omega) [ref01_Bits.spec, ref01_Bits, hgo, hq, hl32, ht]
theorem word_step (a : BitVec 32) (i : Nat) (hi : i < 32) (H : AHeap) :
    ref01_Word.l0 (AFr.al [(0, .rsl 1 (bls (bitsL a))), (3, W32 (a >>> (i + 1))), (4, .int .i64 i)]) H = some (.normal, AFr.al [(0, .rsl 1 (bls (bitsL a))), (3, W32 (a >>> i)), (4, .int .i64 ((i : Int) - 1))], H) := by
  have hl : (bitsL a).length = 32 := by simp [bitsL]
  have ha : atb (bitsL a) i = a.getLsbD i := tell_at 32 _ i hi
  have hs : ∀ b : Bool, a.getLsbD i = b → a >>> i = a >>> (i + 1) * 2#32 + cw b := by
    intro b hb
    apply BitVec.eq_of_toNat_eq
    have h := a.isLt
    have h2 : (a >>> i).toNat = a.toNat / 2 ^ i := by rw [BitVec.toNat_ushiftRight, Nat.shiftRight_eq_div_pow]
    have h3 : (a >>> (i + 1)).toNat = a.toNat / 2 ^ i / 2 := by rw [BitVec.toNat_ushiftRight, Nat.shiftRight_eq_div_pow, Nat.pow_succ, Nat.div_div_eq_div_mul]
    have h4 : a.toNat / 2 ^ i < 4294967296 := Nat.lt_of_le_of_lt (Nat.div_le_self _ _) h
    have h5 : (cw b).toNat = a.toNat / 2 ^ i % 2 := by
      rw [← hb, ← BitVec.testBit_toNat, Nat.testBit_eq_decide_div_mod_eq]
      by_cases q : a.toNat / 2 ^ i % 2 = 1
      · simp [q, cw]
      · have : a.toNat / 2 ^ i % 2 = 0 := by omega
        simp [this, cw]
    rw [BitVec.toNat_add, BitVec.toNat_mul, h2, h3, h5]
    simp only [BitVec.toNat_ofNat]
    omega
  cases hb : a.getLsbD i with
  | true =>
    rw [hb] at ha
    rw [hs true hb]
    simp -implicitDefEqProofs +contextual (disch := omega) [ref01_Word.l0, hl, ha, cw]
  | false =>
    rw [hb] at ha
    rw [hs false hb]
    simp -implicitDefEqProofs +contextual (disch := omega) [ref01_Word.l0, hl, ha, cw]
theorem word_loop (a : BitVec 32) (H : AHeap) : ∀ i : Nat, i ≤ 32 → aloop ref01_Word.l0 (AFr.al [(0, .rsl 1 (bls (bitsL a))), (3, W32 (a >>> i)), (4, .int .i64 ((i : Int) - 1))]) H =
    some (.exit 0, AFr.al [(0, .rsl 1 (bls (bitsL a))), (3, W32 a), (4, .int .i64 (-1)), (9, .bool false)], H)
  | 0, _ => by
    rw [show a >>> 0 = a from BitVec.ushiftRight_zero a]
    refine aloop_exit (by simp) ?_
    simp -implicitDefEqProofs +contextual (disch := omega) [ref01_Word.l0]
  | i + 1, h => by
    have e1 := word_step a i (by omega) H
    rw [Int.natCast_succ, show (i : Int) + 1 - 1 = i from by omega, aloop_step e1]
    exact word_loop a H i (by omega)
theorem Word_eq' (a : BitVec 32) : ref01_Word.spec [.rsl 1 (bls (bitsL a))] = some (W32 a) := by
  have h := word_loop a AHeap.empty 32 (by omega)
  have hl : (bitsL a).length = 32 := by simp [bitsL]
  rw [show a >>> 32 = 0#32 from BitVec.ushiftRight_eq_zero (by omega), show ((32 : Nat) : Int) - 1 = 31 from rfl] at h
  simp -implicitDefEqProofs +contextual (disch := omega) [ref01_Word.spec, ref01_Word, hl, h]
def stepK (kind : Nat) (v : BitVec 32) : BitVec 32 :=
  match kind with
  | 0 => v <<< 1
  | 1 => v >>> 1
  | 2 => v.sshiftRight 1
  | _ => v.rotateRight 1
def movK (kind : Nat) (v : BitVec 32) (k : Nat) : List Bool := tell 32 fun j => decide (j < k) && (if kind = 0 then decide (0 < j) && v.getLsbD (j - 1) else v.getLsbD (j + 1))
noncomputable abbrev rshL1 := ref01_Shift.l1 ref01_Bits.spec ref01_Word.spec
noncomputable abbrev rshL := ref01_Shift.l0 ref01_Bits.spec ref01_Word.spec
def BitsAt (H : AHeap) (b : AV) (v : BitVec 32) : Prop := b = .rsl 1 (bls (bitsL v)) ∨ ∃ o, b = .sl o 1 0 32 ∧ H.get o = some (bBlk (bitsL v))
theorem mov_step (kind : Nat) (hk3 : kind ≤ 3) (v : BitVec 32) (k : Nat) (hk : k < 32) (H : AHeap) (b a2 a11 : AV) (n : Nat) (hb : BitsAt H b v) (hn : ∀ o l, b = .sl o 1 0 l → o ≠ n) :
    rshL1 (AFr.al [(0, .int .i64 kind), (2, a2), (10, b), (11, a11), (12, .sl n 1 0 32), (13, .int .i64 k)]) (H.set n (some (bBlk (movK kind v k)))) =
      some (.normal, AFr.al [(0, .int .i64 kind), (2, a2), (10, b), (11, a11), (12, .sl n 1 0 32), (13, .int .i64 (k + 1 : Nat))], H.set n (some (bBlk (movK kind v (k + 1))))) := by
  have lv : (bitsL v).length = 32 := by simp [bitsL]
  have lm : (movK kind v k).length = 32 := by simp [movK]
  have ht : ∀ i, i < 32 → atb (bitsL v) i = v.getLsbD i := fun i hi => tell_at 32 _ i hi
  have hset : ∀ x : Bool, x = (if kind = 0 then decide (0 < k) && v.getLsbD (k - 1) else v.getLsbD (k + 1)) → (movK kind v k).set k x = movK kind v (k + 1) := by
    intro x hx
    unfold movK
    rw [tell_set]
    refine tell_congr _ _ _ fun j hj => ?_
    by_cases e : j = k
    · subst e; simp [hx]
    · rw [if_neg e]
      have : decide (j < k + 1) = decide (j < k) := by rw [decide_eq_decide]; omega
      rw [this]
  have hsame : (if kind = 0 then decide (0 < k) && v.getLsbD (k - 1) else v.getLsbD (k + 1)) = false → movK kind v (k + 1) = movK kind v k := by
    intro hx
    unfold movK
    refine tell_congr _ _ _ fun j hj => ?_
    by_cases e : j = k
    · subst e; simp only [hx, Bool.and_false]
    · have : decide (j < k + 1) = decide (j < k) := by rw [decide_eq_decide]; omega
      rw [this]
  by_cases k0 : kind = 0
  · subst k0
    by_cases hk0 : k = 0
    · subst hk0
      rw [hsame (by simp)]
      rcases hb with rfl | ⟨o, rfl, ho⟩
      · simp -implicitDefEqProofs +contextual (disch := omega) [rshL1, ref01_Shift.l1]
      · simp -implicitDefEqProofs +contextual (disch := omega) [rshL1, ref01_Shift.l1]
    · have h1 := hset (v.getLsbD (k - 1)) (by simp; omega)
      have h2 := ht (k - 1) (by omega)
      have h3 : ((k : Int) - 1).toNat = k - 1 := by omega
      have h4 : 0 < k := by omega
      rw [← h1]
      rcases hb with rfl | ⟨o, rfl, ho⟩
      · simp -implicitDefEqProofs +contextual (disch := omega) [rshL1, ref01_Shift.l1, bBlk, lv, lm, h2, h3, h4]
      · have hno := hn o 32 rfl
        simp only [bBlk] at ho
        simp -implicitDefEqProofs +contextual (disch := omega) [rshL1, ref01_Shift.l1, bBlk, lv, lm, h2, h3, h4, ho, hno]
  · have k0i : ¬ (kind : Int) = 0 := by omega
    have k1i : 0 < (kind : Int) := by omega
    have k1n : 0 < kind := by omega
    by_cases hk31 : k = 31
    · subst hk31
      rw [hsame (by simp [k0])]
      rcases hb with rfl | ⟨o, rfl, ho⟩
      · simp -implicitDefEqProofs +contextual (disch := omega) [rshL1, ref01_Shift.l1, k0, k0i, k1i, k1n]
      · simp -implicitDefEqProofs +contextual (disch := omega) [rshL1, ref01_Shift.l1, k0, k0i, k1i, k1n]
    · have h1 := hset (v.getLsbD (k + 1)) (by simp [k0])
      have h2 := ht (k + 1) (by omega)
      have h3 : ((k : Int) + 1).toNat = k + 1 := by omega
      have h4 : k < 31 := by omega
      have h5 : (k : Int) < 31 := by omega
      rw [← h1]
      rcases hb with rfl | ⟨o, rfl, ho⟩
      · simp -implicitDefEqProofs +contextual (disch := omega) [rshL1, ref01_Shift.l1, bBlk, lv, lm, h2, h3, h4, h5, k0, k0i, k1i, k1n]
      · have hno := hn o 32 rfl
        simp only [bBlk] at ho
        simp -implicitDefEqProofs +contextual (disch := omega) [rshL1, ref01_Shift.l1, bBlk, lv, lm, h2, h3, h4, h5, k0, k0i, k1i, k1n, ho, hno]
theorem mov_loop (kind : Nat) (hk3 : kind ≤ 3) (v : BitVec 32) (H : AHeap) (b a2 a11 : AV) (n : Nat) (hb : BitsAt H b v) (hn : ∀ o l, b = .sl o 1 0 l → o ≠ n) :
    aloop rshL1 (AFr.al [(0, .int .i64 kind), (2, a2), (10, b), (11, a11), (12, .sl n 1 0 32), (13, .int .i64 0)]) (H.set n (some (bBlk (movK kind v 0)))) =
      some (.exit 2, AFr.al [(0, .int .i64 kind), (2, a2), (10, b), (11, a11), (12, .sl n 1 0 32), (13, .int .i64 32), (42, .bool false)], H.set n (some (bBlk (movK kind v 32)))) := by
  have h := aloop_go (f := rshL1) (fun k => AFr.al [(0, .int .i64 kind), (2, a2), (10, b), (11, a11), (12, .sl n 1 0 32), (13, .int .i64 k)]) (fun k => H.set n (some (bBlk (movK kind v k)))) 32
    (fun k hk => mov_step kind hk3 v k hk H b a2 a11 n hb hn) 0 (by omega)
  rw [show ((0 : Nat) : Int) = 0 from rfl] at h
  rw [h]
  refine aloop_exit (by simp) ?_
  simp -implicitDefEqProofs +contextual (disch := omega) [rshL1, ref01_Shift.l1]
end Go.Abs

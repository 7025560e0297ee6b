import Derived.Test.YthignlpdeaglaaaQI
section
set_option linter.unusedSimpArgs false
set_option linter.unusedVariables false
namespace Go.Abs
def repN (a : Nat → Nat) : Nat → Nat
  | 0 => 0
  | n + 1 => 2 ^ (8 * n) * a n + repN a n
theorem repN_lt {a : Nat → Nat} (h : ∀ n, a n < 256) : ∀ M, repN a M < 2 ^ (8 * M)
  | 0 => by simp [repN]
  | M + 1 => by
    have h1 := repN_lt h M
    have h2 := h M
    have e : 2 ^ (8 * (M + 1)) = 2 ^ (8 * M) * 256 := by rw [Nat.mul_add, Nat.pow_add]
    unfold repN
    rw [e]
    have h3 : 2 ^ (8 * M) * a M ≤ 2 ^ (8 * M) * 255 := Nat.mul_le_mul_left _ (by omega)
    omega
theorem repN_testBit {a : Nat → Nat} (h : ∀ n, a n < 256) (p : Nat) : ∀ M, (repN a M).testBit p = (decide (p / 8 < M) && (a (p / 8)).testBit (p % 8))
  | 0 => by simp [repN]
  | M + 1 => by
    unfold repN
    rw [Nat.testBit_two_pow_mul_add _ (repN_lt h M), repN_testBit h p M]
    by_cases h1 : p < 8 * M
    · rw [if_pos h1, decide_eq_true (show p / 8 < M by omega), decide_eq_true (show p / 8 < M + 1 by omega)]
    · rw [if_neg h1]
      by_cases h2 : p / 8 = M
      · have e : p - 8 * M = p % 8 := by omega
        rw [e, h2]; simp
      · rw [decide_eq_false (show ¬ p / 8 < M + 1 by omega), Bool.false_and]
        exact Nat.testBit_lt_two_pow (Nat.lt_of_lt_of_le (h M) (Nat.le_trans (show 256 ≤ 2 ^ 8 by decide) (Nat.pow_le_pow_right (by omega) (by omega))))
theorem repN_add (a b : Nat → Nat) : ∀ M, repN a M + repN b M = repN (fun n => a n + b n) M
  | 0 => rfl
  | M + 1 => by simp only [repN]; rw [← repN_add a b M, Nat.mul_add]; omega
theorem repN_low {a : Nat → Nat} (h : ∀ n, a n < 256) (K L : Nat) : repN a (K + L) % 2 ^ (8 * K) = repN a K := by
  apply Nat.eq_of_testBit_eq
  intro p
  rw [Nat.testBit_mod_two_pow, repN_testBit h, repN_testBit h]
  by_cases h1 : p < 8 * K
  · rw [decide_eq_true h1, decide_eq_true (show p / 8 < K + L by omega), decide_eq_true (show p / 8 < K by omega)]; rfl
  · rw [decide_eq_false h1, decide_eq_false (show ¬ p / 8 < K by omega)]; rfl
theorem repN_high {a : Nat → Nat} (h : ∀ n, a n < 256) (K L : Nat) : repN a (K + L) >>> (8 * K) = repN (fun n => a (n + K)) L := by
  apply Nat.eq_of_testBit_eq
  intro p
  rw [Nat.testBit_shiftRight, repN_testBit h, repN_testBit (fun n => h _)]
  have e1 : (8 * K + p) / 8 = p / 8 + K := by omega
  have e2 : (8 * K + p) % 8 = p % 8 := by omega
  rw [e1, e2]
  congr 1
  rw [decide_eq_decide]; omega
def foldD (B : Nat) : Nat → Nat → Nat
  | 0, D => D
  | r + 1, D => foldD B r (Nat.add (Nat.mod D (Nat.pow 2 (Nat.mul B (Nat.pow 2 r)))) (Nat.shiftRight D (Nat.mul B (Nat.pow 2 r))))
def sumN (f : Nat → Nat) : Nat → Nat
  | 0 => 0
  | n + 1 => sumN f n + f n
theorem sumN_split (f : Nat → Nat) (m : Nat) : ∀ n, sumN f (m + n) = sumN f m + sumN (fun t => f (m + t)) n
  | 0 => rfl
  | n + 1 => by
    show sumN f (m + n) + f (m + n) = sumN f m + (sumN (fun t => f (m + t)) n + f (m + n))
    rw [sumN_split f m n]; omega
theorem sumN_add (f g : Nat → Nat) : ∀ n, sumN (fun t => f t + g t) n = sumN f n + sumN g n
  | 0 => rfl
  | n + 1 => by simp only [sumN]; rw [sumN_add f g n]; omega
theorem sumN_congr {f g : Nat → Nat} : ∀ n, (∀ t, t < n → f t = g t) → sumN f n = sumN g n
  | 0, _ => rfl
  | n + 1, h => by simp only [sumN]; rw [sumN_congr n fun t ht => h t (by omega), h n (by omega)]
theorem foldD_eq (M : Nat) : ∀ (r : Nat) (a : Nat → Nat) (A : Nat), (∀ n, a n ≤ A) → A * 2 ^ r ≤ 255 → foldD (8 * M) r (repN a (M * 2 ^ r)) = repN (fun i => sumN (fun t => a (i + M * t)) (2 ^ r)) M
  | 0, a, A, _, _ => by simp [foldD, sumN]
  | r + 1, a, A, ha, hA => by
    have h1 : ∀ n, a n < 256 := fun n => by
      have := ha n
      have h2 : A * 1 ≤ A * 2 ^ (r + 1) := Nat.mul_le_mul_left _ (Nat.two_pow_pos _)
      omega
    have e : M * 2 ^ (r + 1) = M * 2 ^ r + M * 2 ^ r := by rw [Nat.pow_succ, ← Nat.mul_assoc]; omega
    have e2 : 8 * M * 2 ^ r = 8 * (M * 2 ^ r) := by rw [Nat.mul_assoc]
    unfold foldD
    show foldD (8 * M) r (repN a (M * 2 ^ (r + 1)) % 2 ^ (8 * M * 2 ^ r) + repN a (M * 2 ^ (r + 1)) >>> (8 * M * 2 ^ r)) = _
    rw [e, e2, repN_low h1, repN_high h1, repN_add, foldD_eq M r _ (A + A) (fun n => Nat.add_le_add (ha _) (ha _)) (by rw [Nat.pow_succ] at hA; rw [Nat.add_mul]; rw [← Nat.mul_assoc] at hA; omega)]
    congr 1
    funext i
    have e3 : 2 ^ (r + 1) = 2 ^ r + 2 ^ r := by rw [Nat.pow_succ]; omega
    rw [e3, sumN_split, ← sumN_add]
    refine sumN_congr _ fun t _ => ?_
    have e4 : i + M * t + M * 2 ^ r = i + M * (2 ^ r + t) := by rw [Nat.mul_add]; omega
    rw [e4]
theorem sumN_count (p : Nat → Bool) : ∀ n, sumN (fun t => if p t then 1 else 0) n = (List.range n).countP p
  | 0 => rfl
  | n + 1 => by
    rw [List.range_succ, List.countP_append]
    simp only [sumN]
    rw [sumN_count p n]; simp [List.countP_cons]
end Go.Abs
end
section
set_option linter.unusedSimpArgs false
set_option linter.unusedVariables false
namespace Go.Abs
def onesT : Nat → Nat
  | 0 => 1
  | L + 1 => Nat.add (onesT L) (Nat.shiftLeft (onesT L) (Nat.mul 8 (Nat.pow 2 L)))
def bitT (k : Nat) : Nat → Nat
  | 0 => 0
  | L + 1 => if Nat.blt L k then 0 else if Nat.beq L k then Nat.shiftLeft (onesT L) (Nat.mul 8 (Nat.pow 2 L)) else Nat.add (bitT k L) (Nat.shiftLeft (bitT k L) (Nat.mul 8 (Nat.pow 2 L)))
def b01 (b : Bool) : Nat := if b then 1 else 0
theorem b01_lt (b : Bool) : b01 b < 256 := by cases b <;> decide
theorem b01_bit (b : Bool) (j : Nat) : (b01 b).testBit j = (decide (j = 0) && b) := by
  cases b with
  | false => simp [b01]
  | true =>
    cases j with
    | zero => rfl
    | succ j => simp [b01, Nat.testBit_succ]
theorem repN_append (a : Nat → Nat) (K : Nat) : ∀ L, repN a (K + L) = repN a K + 2 ^ (8 * K) * repN (fun n => a (n + K)) L
  | 0 => by simp [repN]
  | L + 1 => by
    show 2 ^ (8 * (K + L)) * a (K + L) + repN a (K + L) = _
    rw [repN_append a K L]
    simp only [repN]
    have e : 2 ^ (8 * (K + L)) = 2 ^ (8 * K) * 2 ^ (8 * L) := by rw [← Nat.pow_add]; congr 1; omega
    rw [e, Nat.mul_add, Nat.add_comm L K, ← Nat.mul_assoc]; omega
theorem repN_congr {a b : Nat → Nat} : ∀ M, (∀ n, n < M → a n = b n) → repN a M = repN b M
  | 0, _ => rfl
  | M + 1, h => by simp only [repN]; rw [h M (by omega), repN_congr M fun n hn => h n (by omega)]
theorem pow2_succ (L : Nat) : 2 ^ (L + 1) = 2 ^ L + 2 ^ L := by rw [Nat.pow_succ]; omega
theorem onesT_eq : ∀ L, onesT L = repN (fun _ => 1) (2 ^ L)
  | 0 => by simp [onesT, repN]
  | L + 1 => by
    show onesT L + onesT L <<< (8 * 2 ^ L) = _
    rw [pow2_succ, repN_append, onesT_eq L, Nat.shiftLeft_eq, Nat.mul_comm]
theorem bitT_eq (k : Nat) : ∀ L, bitT k L = repN (fun n => b01 (n.testBit k)) (2 ^ L)
  | 0 => by simp [bitT, repN, b01]
  | L + 1 => by
    unfold bitT
    have hlow : ∀ n, n < 2 ^ L → L ≤ k → n.testBit k = false := fun n hn hk => Nat.testBit_lt_two_pow (Nat.lt_of_lt_of_le hn (Nat.pow_le_pow_right (by omega) hk))
    by_cases h1 : L < k
    · rw [if_pos (by simpa [Nat.blt_eq] using h1)]
      have : ∀ M, repN (fun _ => 0) M = 0 := fun M => by
        induction M with
        | zero => rfl
        | succ M ih => simp [repN, ih]
      rw [← this (2 ^ (L + 1))]
      refine repN_congr _ fun n hn => ?_
      rw [Nat.testBit_lt_two_pow (Nat.lt_of_lt_of_le hn (Nat.pow_le_pow_right (by omega) h1))]; rfl
    · rw [if_neg (by simpa [Nat.blt_eq] using h1), pow2_succ, repN_append]
      have hshift : ∀ n, n < 2 ^ L → (n + 2 ^ L).testBit k = if k = L then true else n.testBit k := fun n hn => by
        have := Nat.testBit_two_pow_mul_add 1 hn k
        rw [Nat.mul_one, Nat.add_comm] at this
        rw [this]
        by_cases e : k = L
        · subst e; rw [if_neg (by omega), if_pos rfl, Nat.sub_self]; rfl
        · rw [if_pos (by omega), if_neg e]
      by_cases h2 : L = k
      · subst h2
        rw [if_pos (by simp)]
        show onesT L <<< (8 * 2 ^ L) = _
        have e1 : repN (fun n => b01 (n.testBit L)) (2 ^ L) = repN (fun _ => 0) (2 ^ L) := repN_congr _ fun n hn => by rw [hlow n hn (Nat.le_refl _)]; rfl
        have e0 : ∀ M, repN (fun _ => 0) M = 0 := fun M => by
          induction M with
          | zero => rfl
          | succ M ih => simp [repN, ih]
        have e2 : repN (fun n => b01 ((n + 2 ^ L).testBit L)) (2 ^ L) = onesT L := by
          rw [onesT_eq]; exact repN_congr _ fun n hn => by rw [hshift n hn, if_pos rfl]; rfl
        rw [e1, e0, e2, Nat.shiftLeft_eq, Nat.mul_comm]; simp
      · rw [if_neg (by simpa using h2)]
        show bitT k L + bitT k L <<< (8 * 2 ^ L) = _
        have e2 : repN (fun n => b01 ((n + 2 ^ L).testBit k)) (2 ^ L) = bitT k L := by
          rw [bitT_eq k L]; exact repN_congr _ fun n hn => by rw [hshift n hn, if_neg (fun e => h2 e.symm)]
        rw [e2, ← bitT_eq k L, Nat.shiftLeft_eq, Nat.mul_comm]
theorem bitT_bit (k L p : Nat) : (bitT k L).testBit p = ((decide (p % 8 = 0) && decide (p / 8 < 2 ^ L)) && (p / 8).testBit k) := by
  rw [bitT_eq, repN_testBit (fun n => b01_lt _), b01_bit]
  cases decide (p % 8 = 0) <;> cases decide (p / 8 < 2 ^ L) <;> rfl
theorem onesT_bit (L p : Nat) : (onesT L).testBit p = (decide (p % 8 = 0) && decide (p / 8 < 2 ^ L)) := by
  have e : onesT L = repN (fun _ => b01 true) (2 ^ L) := onesT_eq L
  rw [e, repN_testBit (fun n => b01_lt _), b01_bit]
  cases decide (p % 8 = 0) <;> cases decide (p / 8 < 2 ^ L) <;> rfl
def force {α : Type} (n : Nat) (k : Nat → α) : α := match n with
  | 0 => k 0
  | m + 1 => k (m + 1)
theorem force_eq {α : Type} (n : Nat) (k : Nat → α) : force n k = k n := by cases n <;> rfl
def tabOpsD (rt : Nat → Nat) : List OpM → List Nat → Nat → List Nat
  | [], w, _ => w
  | o :: l, w, r =>
    if o.k = 0 then force (rt r) fun v => tabOpsD rt l (w ++ [v]) (r + 1)
    else if o.k = 1 then force (Nat.land (w.getD o.a.toNat 0) (w.getD o.b.toNat 0)) fun v => tabOpsD rt l (w ++ [v]) r
    else force (Nat.xor (w.getD o.a.toNat 0) (w.getD o.b.toNat 0)) fun v => tabOpsD rt l (w ++ [v]) r
def SameAt (b : Bool) (p : Nat) (T : List Nat) (W : List (BitVec 32)) : Prop := T.length = W.length ∧ ∀ x, (T.getD x 0).testBit p = (b && (at0 W x).getLsbD 0)
theorem getD_append' (T : List Nat) (v : Nat) (x : Nat) : (T ++ [v]).getD x 0 = if x = T.length then v else T.getD x 0 := by
  simp only [List.getD_eq_getElem?_getD]
  by_cases h : x < T.length
  · rw [List.getElem?_append_left h, if_neg (by omega)]
  · by_cases e : x = T.length
    · subst e; simp
    · rw [if_neg e, List.getElem?_eq_none (by simp; omega), List.getElem?_eq_none (by omega)]
theorem at0_append1' (W : List (BitVec 32)) (v : BitVec 32) (x : Nat) : at0 (W ++ [v]) x = if x = W.length then v else at0 W x := by
  simp only [at0, List.getD_eq_getElem?_getD]
  by_cases h : x < W.length
  · rw [List.getElem?_append_left h, if_neg (by omega)]
  · by_cases e : x = W.length
    · subst e; simp
    · rw [if_neg e, List.getElem?_eq_none (by simp; omega), List.getElem?_eq_none (by omega)]
theorem SameAt.snoc {b : Bool} {p : Nat} {T : List Nat} {W : List (BitVec 32)} (h : SameAt b p T W) {v : Nat} {x : BitVec 32} (hv : v.testBit p = (b && x.getLsbD 0)) : SameAt b p (T ++ [v]) (W ++ [x]) := by
  refine ⟨by simp [h.1], fun k => ?_⟩
  rw [getD_append', at0_append1', h.1]
  split
  · exact hv
  · exact h.2 k
def gadOps' (l : List OpM) : Bool := l.all fun o => decide (o.k = 0) || decide (o.k = 1) || decide (o.k = 2)
theorem tabOpsD_ok (rt : Nat → Nat) (b : Bool) (p : Nat) : ∀ (l : List OpM) (T : List Nat) (W t : List (BitVec 32)) (r : Nat), gadOps' l = true → SameAt b p T W → (∀ k, k < t.length → (rt (r + k)).testBit p = (b && (at0 t k).getLsbD 0)) → (l.filter fun o => decide (o.k = 0)).length ≤ t.length →
    SameAt b p (tabOpsD rt l T r) (runOps l W t)
  | [], T, W, t, r, _, h, _, _ => h
  | o :: l, T, W, t, r, hg, h, ht, hl => by
    simp only [gadOps', List.all_cons, Bool.and_eq_true, Bool.or_eq_true, decide_eq_true_eq] at hg
    obtain ⟨hk, hg⟩ := hg
    have hg' : gadOps' l = true := by simpa [gadOps'] using hg
    by_cases h0 : o.k = 0
    · rw [tabOpsD, runOps, if_pos h0, if_pos h0, force_eq]
      have hlt : 0 < t.length := by simp [h0] at hl; omega
      refine tabOpsD_ok rt b p l _ _ _ _ hg' (h.snoc ?_) (fun k hk => ?_) (by simp [h0] at hl ⊢; omega)
      · have := ht 0 hlt; rwa [Nat.add_zero] at this
      · cases t with
        | nil => simp at hlt
        | cons x t =>
          have := ht (k + 1) (by simpa using hk)
          simp only [at0, List.getD_cons_succ, List.tail_cons] at this ⊢
          rw [show r + 1 + k = r + (k + 1) from by omega]; exact this
    · rw [tabOpsD, runOps, if_neg h0, if_neg h0]
      have hl' : (l.filter fun o => decide (o.k = 0)).length ≤ t.length := by simpa [h0] using hl
      by_cases h1 : o.k = 1
      · rw [if_pos h1, force_eq]
        refine tabOpsD_ok rt b p l _ _ _ _ hg' (h.snoc ?_) ht hl'
        show (T.getD o.a.toNat 0 &&& T.getD o.b.toNat 0).testBit p = _
        rw [Nat.testBit_and, h.2, h.2]
        simp [h1, takesM, stepW]
        cases b <;> simp
      · have h2 : o.k = 2 := by omega
        rw [if_neg h1, force_eq]
        refine tabOpsD_ok rt b p l _ _ _ _ hg' (h.snoc ?_) ht hl'
        show (T.getD o.a.toNat 0 ^^^ T.getD o.b.toNat 0).testBit p = _
        rw [Nat.testBit_xor, h.2, h.2]
        simp [h2, takesM, stepW]
        cases b <;> simp
end Go.Abs
end

import Derived.Test.YthignlpdeaglaaaIK
import Derived.Test.YthignlpdeaglaaaJF
section
set_option linter.unusedSimpArgs false
set_option linter.unusedVariables false
namespace Go.Abs
def gTabD (ops : List OpM) (m P R : Nat) : List Nat := tabOpsD (fun r => bitT (m + P + r) (m + P + R)) ops ((List.range m).map fun k => bitT k (m + P + R)) 0
def wordsAt (ops : List OpM) (m R i t : Nat) : List (BitVec 32) := runOps ops (padM (bitsM i m) m) (bitsM t R)
theorem lsb_ofNat (n : Nat) : (BitVec.ofNat 32 (n % 2)).getLsbD 0 = decide (n % 2 = 1) := by
  rw [BitVec.getLsbD_ofNat]
  simp [Nat.testBit_zero]
theorem bitsM_at (n many k : Nat) (h : k < many) : (at0 (bitsM n many) k).getLsbD 0 = n.testBit k := by
  unfold bitsM
  rw [at0_map _ _ _ h, lsb_ofNat, Nat.testBit_eq_decide_div_mod_eq]
theorem gTabD_ok (ops : List OpM) (m P R : Nat) (hg : gadOps' ops = true) (hR : (ops.filter fun o => decide (o.k = 0)).length = R) (p : Nat) :
    SameAt (decide (p % 8 = 0) && decide (p / 8 < 2 ^ (m + P + R))) p (gTabD ops m P R) (wordsAt ops m R (p / 8 % 2 ^ m) (p / 8 / 2 ^ (m + P))) := by
  refine tabOpsD_ok _ _ p ops _ _ _ 0 hg ⟨by simp, fun x => ?_⟩ (fun k hk => ?_) (by simp [hR])
  · by_cases hx : x < m
    · have e1 : ((List.range m).map fun k => bitT k (m + P + R)).getD x 0 = bitT x (m + P + R) := by simp [List.getD_eq_getElem?_getD, hx]
      rw [e1, bitT_bit]
      congr 1
      have e2 : at0 (padM (bitsM (p / 8 % 2 ^ m) m) m) x = at0 (bitsM (p / 8 % 2 ^ m) m) x := by unfold padM; rw [at0_map _ _ _ hx]
      rw [e2, bitsM_at _ _ _ hx, Nat.testBit_mod_two_pow]; simp [hx]
    · have e1 : ((List.range m).map fun k => bitT k (m + P + R)).getD x 0 = 0 := by
        rw [List.getD_eq_getElem?_getD, List.getElem?_eq_none (by simp; omega)]; rfl
      have e2 : at0 (padM (bitsM (p / 8 % 2 ^ m) m) m) x = 0#32 := by
        unfold at0; rw [List.getD_eq_getElem?_getD, List.getElem?_eq_none (by simp; omega)]; rfl
      rw [e1, e2]; simp
  · have hk' : k < R := by simpa using hk
    rw [bitT_bit, bitsM_at _ _ _ hk']
    congr 1
    rw [Nat.zero_add, ← Nat.shiftRight_eq_div_pow, Nat.testBit_shiftRight]
def litT (all vb T : Nat) : Nat := Nat.xor all (Nat.xor T vb)
theorem litT_bit {b x y : Bool} {all vb T p : Nat} (h1 : all.testBit p = b) (h2 : vb.testBit p = (b && y)) (h3 : T.testBit p = (b && x)) : (litT all vb T).testBit p = (b && (x == y)) := by
  show (all ^^^ (T ^^^ vb)).testBit p = _
  rw [Nat.testBit_xor, Nat.testBit_xor, h1, h2, h3]
  cases b <;> cases x <;> cases y <;> rfl
def litsOk (w : List (BitVec 32)) (v : Nat) : List Nat → Bool
  | [] => true
  | x :: xs => ((at0 w x).getLsbD 0 == v.testBit xs.length) && litsOk w v xs
theorem lsb_mod (x : BitVec 32) : x.toNat % 2 = (x.getLsbD 0).toNat := by
  rw [BitVec.getLsbD, Nat.testBit_zero]
  have := Nat.mod_two_eq_zero_or_one x.toNat
  rcases this with h | h <;> simp [h]
theorem litsOk_iff (w : List (BitVec 32)) (v : Nat) : ∀ xs : List Nat, litsOk w v xs = decide (atM w (xs.map fun x : Nat => (x : Int)) = v % 2 ^ xs.length)
  | [] => by simp [litsOk, atM, Nat.mod_one]
  | x :: xs => by
    have h1 : atM w ((x :: xs).map fun x : Nat => (x : Int)) = ((at0 w x).getLsbD 0).toNat * 2 ^ xs.length + atM w (xs.map fun x : Nat => (x : Int)) := by
      have := atM_append w [(x : Int)] (xs.map fun x : Nat => (x : Int))
      have e : atM w [(x : Int)] = ((at0 w x).getLsbD 0).toNat := by
        rw [← lsb_mod]; simp [atM]
      rw [e, List.length_map] at this
      exact this
    have h2 : v % 2 ^ (x :: xs).length = (v.testBit xs.length).toNat * 2 ^ xs.length + v % 2 ^ xs.length := by
      rw [List.length_cons, Nat.mod_pow_succ, Nat.testBit_eq_decide_div_mod_eq]
      have hb := Nat.mod_two_eq_zero_or_one (v / 2 ^ xs.length)
      rcases hb with hb | hb
      · rw [hb]; simp
      · rw [hb]; simp [Nat.add_comm]
    have h3 := atM_lt w (xs.map fun x : Nat => (x : Int))
    rw [List.length_map] at h3
    have h4 : v % 2 ^ xs.length < 2 ^ xs.length := Nat.mod_lt _ (Nat.two_pow_pos _)
    rw [litsOk, litsOk_iff w v xs, h1, h2]
    generalize atM w (xs.map fun x : Nat => (x : Int)) = a at *
    generalize v % 2 ^ xs.length = c at *
    generalize 2 ^ xs.length = q at *
    generalize (at0 w x).getLsbD 0 = b1
    generalize v.testBit xs.length = b2
    rw [Bool.eq_iff_iff]
    simp only [Bool.and_eq_true, beq_iff_eq, decide_eq_true_eq]
    cases b1 <;> cases b2 <;> simp <;> omega
theorem match_count (c : CodeM) (m R : Nat) (xs : List Nat) (hRc : c.randoms = R) (w : Nat) (hw : ∀ p, w.testBit p = ((decide (p % 8 = 0) && decide (p / 8 < 2 ^ (m + xs.length + R))) && litsOk (wordsAt c.ops m R (p / 8 % 2 ^ m) (p / 8 / 2 ^ (m + xs.length))) (p / 8 / 2 ^ m % 2 ^ xs.length) xs)) (hRb : R ≤ 7) :
    foldD (8 * 2 ^ (m + xs.length)) R w = repN (fun n => (List.range (2 ^ R)).countP fun t => decide (atM (wordsAt c.ops m R (n % 2 ^ m) t) (xs.map fun x : Nat => (x : Int)) = n / 2 ^ m % 2 ^ xs.length)) (2 ^ (m + xs.length)) := by
  have e1 : w = repN (fun n => b01 (litsOk (wordsAt c.ops m R (n % 2 ^ m) (n / 2 ^ (m + xs.length))) (n / 2 ^ m % 2 ^ xs.length) xs)) (2 ^ (m + xs.length) * 2 ^ R) := by
    apply Nat.eq_of_testBit_eq
    intro p
    rw [hw p, repN_testBit (fun n => b01_lt _), b01_bit, ← Nat.pow_add]
    cases decide (p % 8 = 0) <;> cases decide (p / 8 < 2 ^ (m + xs.length + R)) <;> simp
  rw [e1, foldD_eq _ R _ 1 (fun n => by unfold b01; split <;> omega) (by
    have : 2 ^ R ≤ 2 ^ 7 := Nat.pow_le_pow_right (by omega) hRb
    omega)]
  refine repN_congr _ fun n hn => ?_
  rw [← sumN_count]
  refine sumN_congr _ fun t ht => ?_
  have hm2 : 2 ^ (m + xs.length) = 2 ^ m * 2 ^ xs.length := Nat.pow_add _ _ _
  have a1 : (n + 2 ^ (m + xs.length) * t) % 2 ^ m = n % 2 ^ m := by rw [hm2, Nat.mul_assoc, Nat.add_mul_mod_self_left]
  have a2 : (n + 2 ^ (m + xs.length) * t) / 2 ^ (m + xs.length) = t := by rw [Nat.add_mul_div_left _ _ (Nat.two_pow_pos _), Nat.div_eq_of_lt hn, Nat.zero_add]
  have a3 : (n + 2 ^ (m + xs.length) * t) / 2 ^ m % 2 ^ xs.length = n / 2 ^ m % 2 ^ xs.length := by
    rw [hm2, Nat.mul_assoc, Nat.add_mul_div_left _ _ (Nat.two_pow_pos _), Nat.add_mul_mod_self_left]
  rw [a1, a2, a3, litsOk_iff, Nat.mod_mod]
  unfold b01
  cases decide (atM (wordsAt c.ops m R (n % 2 ^ m) t) (xs.map fun x : Nat => (x : Int)) = n / 2 ^ m % 2 ^ xs.length) <;> rfl
def maskD (M k : Nat) : Nat := repN (fun n => if n.testBit k then 0 else 255) (2 ^ M)
def okK (p : Nat × Nat) (F : Nat) : Bool := Nat.beq (Nat.land F p.2) (Nat.land (Nat.shiftRight F p.1) p.2)
theorem okK_sound {cnt : Nat → Nat} (hc : ∀ n, cnt n < 256) (M k : Nat) (h : okK (8 * 2 ^ k, maskD M k) (repN cnt (2 ^ M)) = true) (n : Nat) (hn : n < 2 ^ M) (hn2 : n + 2 ^ k < 2 ^ M) (hb : n.testBit k = false) : cnt n = cnt (n + 2 ^ k) := by
  have h1 : repN cnt (2 ^ M) &&& maskD M k = (repN cnt (2 ^ M) >>> (8 * 2 ^ k)) &&& maskD M k := Nat.eq_of_beq_eq_true h
  apply Nat.eq_of_testBit_eq
  intro j
  by_cases hj : j < 8
  · have h2 := congrArg (fun z => z.testBit (8 * n + j)) h1
    simp only [Nat.testBit_and, Nat.testBit_shiftRight] at h2
    have d1 : (8 * n + j) / 8 = n := by omega
    have d2 : (8 * n + j) % 8 = j := by omega
    have d3 : (8 * 2 ^ k + (8 * n + j)) / 8 = n + 2 ^ k := by omega
    have d4 : (8 * 2 ^ k + (8 * n + j)) % 8 = j := by omega
    have hm : (maskD M k).testBit (8 * n + j) = true := by
      unfold maskD
      rw [repN_testBit (fun n => by split <;> omega), d1, d2, decide_eq_true hn, hb]
      have : j = 0 ∨ j = 1 ∨ j = 2 ∨ j = 3 ∨ j = 4 ∨ j = 5 ∨ j = 6 ∨ j = 7 := by omega
      rcases this with rfl | rfl | rfl | rfl | rfl | rfl | rfl | rfl <;> decide
    rw [hm, Bool.and_true, Bool.and_true, repN_testBit hc, repN_testBit hc, d1, d2, d3, d4, decide_eq_true hn, decide_eq_true hn2, Bool.true_and, Bool.true_and] at h2
    exact h2
  · have : ∀ x, cnt x < 2 ^ j := fun x => Nat.lt_of_lt_of_le (hc x) (Nat.le_trans (show 256 ≤ 2 ^ 8 by decide) (Nat.pow_le_pow_right (by omega) (by omega)))
    rw [Nat.testBit_lt_two_pow (this _), Nat.testBit_lt_two_pow (this _)]
theorem matter_sound (c : CodeM) (m R : Nat) (xs : List Nat) (hRc : c.randoms = R) (hRb : R ≤ 7) (w : Nat) (hw : ∀ p, w.testBit p = ((decide (p % 8 = 0) && decide (p / 8 < 2 ^ (m + xs.length + R))) && litsOk (wordsAt c.ops m R (p / 8 % 2 ^ m) (p / 8 / 2 ^ (m + xs.length))) (p / 8 / 2 ^ m % 2 ^ xs.length) xs)) (k : Nat) (hk : k < m)
    (h : okK (8 * 2 ^ k, maskD (m + xs.length) k) (foldD (8 * 2 ^ (m + xs.length)) R w) = true) : ∀ i, i < 2 ^ m → matB (maS c m (xs.map fun x : Nat => (x : Int))) i k = false := by
  intro i hi
  unfold matB
  by_cases hb : i / 2 ^ k % 2 = 0
  · have hroom := bit_room m i k hi hk hb
    have htb : i.testBit k = false := by rw [Nat.testBit_eq_decide_div_mod_eq, hb]; rfl
    rw [match_count c m R xs hRc w hw hRb] at h
    have hs : maS c m (xs.map fun x : Nat => (x : Int)) i = maS c m (xs.map fun x : Nat => (x : Int)) (i + 2 ^ k) := by
      unfold maS
      apply List.ext_getElem?
      intro v
      by_cases hv : v < 2 ^ (xs.map fun x : Nat => (x : Int)).length
      · rw [tally_get _ _ _ _ hv, tally_get _ _ _ _ hv]
        rw [List.length_map] at hv
        have hle : ∀ n, (List.range (2 ^ R)).countP (fun t => decide (atM (wordsAt c.ops m R (n % 2 ^ m) t) (xs.map fun x : Nat => (x : Int)) = n / 2 ^ m % 2 ^ xs.length)) < 256 := fun n => by
          have h1 := List.countP_le_length (p := fun t => decide (atM (wordsAt c.ops m R (n % 2 ^ m) t) (xs.map fun x : Nat => (x : Int)) = n / 2 ^ m % 2 ^ xs.length)) (l := List.range (2 ^ R))
          rw [List.length_range] at h1
          have : 2 ^ R ≤ 2 ^ 7 := Nat.pow_le_pow_right (by omega) hRb
          omega
        have hlt : ∀ j, j < 2 ^ m → j + 2 ^ m * v < 2 ^ (m + xs.length) := fun j hj => by
          rw [Nat.pow_add]
          have : 2 ^ m * v + 2 ^ m ≤ 2 ^ m * 2 ^ xs.length := by rw [← Nat.mul_succ]; exact Nat.mul_le_mul_left _ hv
          omega
        have e1 := okK_sound hle (m + xs.length) k h (i + 2 ^ m * v) (hlt i hi) (by have := hlt (i + 2 ^ k) hroom; omega) (by
          rw [Nat.add_comm, Nat.testBit_two_pow_mul_add _ hi, if_pos hk]; exact htb)
        have q1 : ∀ j, j < 2 ^ m → (j + 2 ^ m * v) % 2 ^ m = j := fun j hj => by rw [Nat.add_mul_mod_self_left, Nat.mod_eq_of_lt hj]
        have q2 : ∀ j, j < 2 ^ m → (j + 2 ^ m * v) / 2 ^ m % 2 ^ xs.length = v := fun j hj => by rw [Nat.add_mul_div_left _ _ (Nat.two_pow_pos _), Nat.div_eq_of_lt hj, Nat.zero_add, Nat.mod_eq_of_lt hv]
        have q3 : i + 2 ^ m * v + 2 ^ k = i + 2 ^ k + 2 ^ m * v := by omega
        rw [q3, q1 i hi, q2 i hi, q1 _ hroom, q2 _ hroom] at e1
        rw [hRc]
        congr 2
      · rw [List.getElem?_eq_none (by simp at hv ⊢; omega), List.getElem?_eq_none (by simp at hv ⊢; omega)]
    rw [decide_eq_true hs]; simp
  · rw [decide_eq_false hb]; rfl
def foldF {α : Type} (B : Nat) : Nat → Nat → (Nat → α) → α
  | 0, D, k => k D
  | r + 1, D, k => force (Nat.add (Nat.mod D (Nat.pow 2 (Nat.mul B (Nat.pow 2 r)))) (Nat.shiftRight D (Nat.mul B (Nat.pow 2 r)))) fun D' => foldF B r D' k
theorem foldF_eq {α : Type} (B : Nat) : ∀ (r D : Nat) (k : Nat → α), foldF B r D k = k (foldD B r D)
  | 0, D, k => rfl
  | r + 1, D, k => by unfold foldF foldD; rw [force_eq, foldF_eq B r]
def chkAll (fin : List Nat → Nat → Bool) : List (List (Nat × Nat)) → List Nat → Nat → Bool
  | [], xs, w => fin xs w
  | A :: As, xs, w => A.all fun p => force (Nat.land w p.2) fun w' => chkAll fin As (xs ++ [p.1]) w'
theorem chkAll_one (fin : List Nat → Nat → Bool) (A : List (Nat × Nat)) (As : List (List (Nat × Nat))) (xs : List Nat) (w : Nat) (h : chkAll fin (A :: As) xs w = true) (p : Nat × Nat) (hp : p ∈ A) : chkAll fin As (xs ++ [p.1]) (w &&& p.2) = true := by
  unfold chkAll at h
  rw [List.all_eq_true] at h
  have := h p hp
  rwa [force_eq] at this
def innerD (outs : List Nat) : List Nat → List Nat → Nat
  | _, [] => 0
  | done, x :: xs => (if outs.elem x || done.elem x then 0 else 1) + innerD outs (x :: done) xs
def badIn (l : List Bool) : Nat := (l.filter fun b => !b).length
def groupsOk (w n : Nat) : Nat → List Bool → Bool
  | 0, _ => true
  | g + 1, l => Nat.ble (badIn (l.take w)) n && groupsOk w n g (l.drop w)
def msD (m M : Nat) : List (Nat × Nat) := (List.range m).map fun k => (8 * 2 ^ k, maskD M k)
def finD (m P R wd g : Nat) (ms : List (Nat × Nat)) (outs : List Nat) (xs : List Nat) (w : Nat) : Bool :=
  foldF (8 * 2 ^ (m + P)) R w fun F => groupsOk wd (innerD outs [] xs) g (ms.map fun p => okK p F)
end Go.Abs
end
section
set_option linter.unusedSimpArgs false
set_option linter.unusedVariables false
namespace Go.Abs
def forceL {α : Type} : List Nat → (List Nat → α) → α
  | [], k => k []
  | x :: l, k => force x fun x' => forceL l fun l' => k (x' :: l')
theorem forceL_eq {α : Type} : ∀ (l : List Nat) (k : List Nat → α), forceL l k = k l
  | [], k => rfl
  | x :: l, k => by unfold forceL; rw [force_eq, forceL_eq l]
def litsP (all vb : Nat) : List Nat → Nat → List (Nat × Nat)
  | [], _ => []
  | T :: Ts, x => (x, litT all vb T) :: litsP all vb Ts (x + 1)
def litsF {α : Type} (all vb : Nat) : List Nat → Nat → (List (Nat × Nat) → α) → α
  | [], _, k => k []
  | T :: Ts, x, k => force (litT all vb T) fun l => force x fun x' => litsF all vb Ts (x + 1) fun r => k ((x', l) :: r)
theorem litsF_eq {α : Type} (all vb : Nat) : ∀ (Ts : List Nat) (x : Nat) (k : List (Nat × Nat) → α), litsF all vb Ts x k = k (litsP all vb Ts x)
  | [], _, k => rfl
  | T :: Ts, x, k => by unfold litsF litsP; rw [force_eq, force_eq, litsF_eq all vb Ts]
def msF {α : Type} (M : Nat) : Nat → (List (Nat × Nat) → α) → List (Nat × Nat) → α
  | 0, k, l => k l
  | j + 1, k, l => force (maskD M j) fun mk => force (Nat.mul 8 (Nat.pow 2 j)) fun s => msF M j k ((s, mk) :: l)
theorem msF_eq {α : Type} (M : Nat) : ∀ (j : Nat) (k : List (Nat × Nat) → α) (l : List (Nat × Nat)), msF M j k l = k (msD j M ++ l)
  | 0, k, l => rfl
  | j + 1, k, l => by
    unfold msF
    rw [force_eq, force_eq, msF_eq M j]
    have : msD (j + 1) M = msD j M ++ [(8 * 2 ^ j, maskD M j)] := by unfold msD; rw [List.range_succ, List.map_append]; rfl
    rw [this, List.append_assoc]; rfl
def checkX (and : Bool) (d x : Nat) : Bool :=
  let m := gadIn and d
  let R := d * (d + 1) / 2
  let L := m + d + R
  force (onesT L) fun all => forceL (gTabD (gadS and d).ops m d R) fun T => msF (m + d) m (fun ms =>
    match d with
    | 1 => force (bitT m L) fun v0 => force (litT all v0 (T.getD x 0)) fun l0 =>
      chkAll (finD m 1 R (d + 1) (m / (d + 1)) ms ((gadS and d).outs.map Int.toNat)) [[(x, l0)]] [] all
    | 2 => force (bitT (m + 1) L) fun v0 => force (litT all v0 (T.getD x 0)) fun l0 => force (bitT m L) fun v1 => litsF all v1 T 0 fun A1 =>
      chkAll (finD m 2 R (d + 1) (m / (d + 1)) ms ((gadS and d).outs.map Int.toNat)) [[(x, l0)], A1] [] all
    | 3 => force (bitT (m + 2) L) fun v0 => force (litT all v0 (T.getD x 0)) fun l0 => force (bitT (m + 1) L) fun v1 => litsF all v1 T 0 fun A1 => force (bitT m L) fun v2 => litsF all v2 T 0 fun A2 =>
      chkAll (finD m 3 R (d + 1) (m / (d + 1)) ms ((gadS and d).outs.map Int.toNat)) [[(x, l0)], A1, A2] [] all
    | _ => false) []
end Go.Abs
end
section
set_option linter.unusedSimpArgs false
set_option linter.unusedVariables false
namespace Go.Abs
theorem litsP_mem (all vb : Nat) : ∀ (Ts : List Nat) (s y : Nat), y < Ts.length → (s + y, litT all vb (Ts.getD y 0)) ∈ litsP all vb Ts s
  | [], s, y, h => by simp at h
  | T :: Ts, s, 0, h => by simp [litsP]
  | T :: Ts, s, y + 1, h => by
    have := litsP_mem all vb Ts (s + 1) y (by simpa using h)
    have e : s + (y + 1) = s + 1 + y := by omega
    rw [e]
    simp only [litsP, List.getD_cons_succ]
    exact List.mem_cons_of_mem _ this
def Lits (ops : List OpM) (m P R : Nat) (xs : List Nat) (w : Nat) : Prop :=
  ∀ p, w.testBit p = ((decide (p % 8 = 0) && decide (p / 8 < 2 ^ (m + P + R))) && litsOk (wordsAt ops m R (p / 8 % 2 ^ m) (p / 8 / 2 ^ (m + P))) (p / 8 / 2 ^ m % 2 ^ P) xs)
theorem lit_at (ops : List OpM) (m P R : Nat) (hg : gadOps' ops = true) (hR : (ops.filter fun o => decide (o.k = 0)).length = R) (j : Nat) (hj : j < P) (x p : Nat) :
    (litT (onesT (m + P + R)) (bitT (m + j) (m + P + R)) ((gTabD ops m P R).getD x 0)).testBit p =
      ((decide (p % 8 = 0) && decide (p / 8 < 2 ^ (m + P + R))) && ((at0 (wordsAt ops m R (p / 8 % 2 ^ m) (p / 8 / 2 ^ (m + P))) x).getLsbD 0 == (p / 8 / 2 ^ m % 2 ^ P).testBit j)) := by
  refine litT_bit (onesT_bit _ _) ?_ ((gTabD_ok ops m P R hg hR p).2 x)
  rw [bitT_bit]
  congr 1
  rw [Nat.testBit_mod_two_pow, decide_eq_true hj, Bool.true_and, ← Nat.shiftRight_eq_div_pow, Nat.testBit_shiftRight]
theorem ones_and (L w : Nat) (b : Bool) (p : Nat) (c : Bool) (h : w.testBit p = ((decide (p % 8 = 0) && decide (p / 8 < 2 ^ L)) && c)) : (onesT L &&& w).testBit p = ((decide (p % 8 = 0) && decide (p / 8 < 2 ^ L)) && c) := by
  rw [Nat.testBit_and, onesT_bit, h]
  cases decide (p % 8 = 0) && decide (p / 8 < 2 ^ L) <;> rfl
theorem gad_ops' (and : Bool) (d : Nat) (h : d ≤ 3) : gadOps' (gadS and d).ops = true := by
  have : d = 0 ∨ d = 1 ∨ d = 2 ∨ d = 3 := by omega
  rcases this with rfl | rfl | rfl | rfl <;> cases and <;> decide +kernel
def finAt (and : Bool) (d : Nat) (xs : List Nat) (w : Nat) : Prop :=
  groupsOk (d + 1) (innerD ((gadS and d).outs.map Int.toNat) [] xs) (gadIn and d / (d + 1)) ((msD (gadIn and d) (gadIn and d + d)).map fun p => okK p (foldD (8 * 2 ^ (gadIn and d + d)) (d * (d + 1) / 2) w)) = true
theorem finD_eq (m P R wd g : Nat) (ms : List (Nat × Nat)) (outs : List Nat) (xs : List Nat) (w : Nat) :
    finD m P R wd g ms outs xs w = groupsOk wd (innerD outs [] xs) g (ms.map fun p => okK p (foldD (8 * 2 ^ (m + P)) R w)) := by
  unfold finD; rw [foldF_eq]
theorem lits_snoc {w l p : Nat} {b x y : Bool} (h1 : w.testBit p = (b && x)) (h2 : l.testBit p = (b && y)) : (w &&& l).testBit p = (b && (x && y)) := by
  rw [Nat.testBit_and, h1, h2]; cases b <;> cases x <;> cases y <;> rfl
theorem lits_1 (b x : Bool) : (b && x) = (b && (x && true)) := by rw [Bool.and_true]
theorem lits_2 (b x y : Bool) : (b && (x && y)) = (b && (x && (y && true))) := by rw [Bool.and_true]
theorem lits_3 (b x y z : Bool) : (b && (x && y && z)) = (b && (x && (y && (z && true)))) := by rw [Bool.and_true, Bool.and_assoc]
set_option maxHeartbeats 1000000 in
theorem checkX_1 (and : Bool) (x : Nat) (h : checkX and 1 x = true) : ∃ w, Lits (gadS and 1).ops (gadIn and 1) 1 1 [x] w ∧ finAt and 1 [x] w := by
  unfold checkX at h
  simp only [force_eq, forceL_eq, msF_eq, List.append_nil, litsF_eq] at h
  have h1 := chkAll_one _ _ _ _ _ h (x, _) (List.mem_singleton.2 rfl)
  unfold chkAll at h1
  rw [finD_eq] at h1
  refine ⟨_, fun p => ?_, h1⟩
  have q := lit_at (gadS and 1).ops (gadIn and 1) 1 1 (gad_ops' and 1 (by omega)) (gad_randoms and 1 (by omega)) 0 (by omega) x p
  exact (ones_and _ _ true p _ q).trans (lits_1 _ _)
set_option maxHeartbeats 1000000 in
theorem checkX_2 (and : Bool) (x y : Nat) (hy : y < gadIn and 2 + (gadS and 2).ops.length) (h : checkX and 2 x = true) : ∃ w, Lits (gadS and 2).ops (gadIn and 2) 2 3 [x, y] w ∧ finAt and 2 [x, y] w := by
  unfold checkX at h
  simp only [force_eq, forceL_eq, msF_eq, List.append_nil, litsF_eq] at h
  have h1 := chkAll_one _ _ _ _ _ h (x, _) (List.mem_singleton.2 rfl)
  have hT : (gTabD (gadS and 2).ops (gadIn and 2) 2 3).length = gadIn and 2 + (gadS and 2).ops.length := by
    rw [(gTabD_ok (gadS and 2).ops (gadIn and 2) 2 3 (gad_ops' and 2 (by omega)) (gad_randoms and 2 (by omega)) 0).1]
    unfold wordsAt; rw [runOps_length, padM_length]
  have hm := litsP_mem (onesT (gadIn and 2 + 2 + 3)) (bitT (gadIn and 2) (gadIn and 2 + 2 + 3)) (gTabD (gadS and 2).ops (gadIn and 2) 2 3) 0 y (by rw [hT]; exact hy)
  have h2 := chkAll_one _ _ _ _ _ h1 _ hm
  unfold chkAll at h2
  rw [finD_eq, Nat.zero_add] at h2
  refine ⟨_, fun p => ?_, h2⟩
  have q1 := lit_at (gadS and 2).ops (gadIn and 2) 2 3 (gad_ops' and 2 (by omega)) (gad_randoms and 2 (by omega)) 1 (by omega) x p
  have q2 := lit_at (gadS and 2).ops (gadIn and 2) 2 3 (gad_ops' and 2 (by omega)) (gad_randoms and 2 (by omega)) 0 (by omega) y p
  exact (lits_snoc (ones_and _ _ true p _ q1) q2).trans (lits_2 _ _ _)
set_option maxHeartbeats 1000000 in
theorem checkX_3 (and : Bool) (x y z : Nat) (hy : y < gadIn and 3 + (gadS and 3).ops.length) (hz : z < gadIn and 3 + (gadS and 3).ops.length) (h : checkX and 3 x = true) : ∃ w, Lits (gadS and 3).ops (gadIn and 3) 3 6 [x, y, z] w ∧ finAt and 3 [x, y, z] w := by
  unfold checkX at h
  simp only [force_eq, forceL_eq, msF_eq, List.append_nil, litsF_eq] at h
  have h1 := chkAll_one _ _ _ _ _ h (x, _) (List.mem_singleton.2 rfl)
  have hT : (gTabD (gadS and 3).ops (gadIn and 3) 3 6).length = gadIn and 3 + (gadS and 3).ops.length := by
    rw [(gTabD_ok (gadS and 3).ops (gadIn and 3) 3 6 (gad_ops' and 3 (by omega)) (gad_randoms and 3 (by omega)) 0).1]
    unfold wordsAt; rw [runOps_length, padM_length]
  have hm := litsP_mem (onesT (gadIn and 3 + 3 + 6)) (bitT (gadIn and 3 + 1) (gadIn and 3 + 3 + 6)) (gTabD (gadS and 3).ops (gadIn and 3) 3 6) 0 y (by rw [hT]; exact hy)
  have h2 := chkAll_one _ _ _ _ _ h1 _ hm
  have hm2 := litsP_mem (onesT (gadIn and 3 + 3 + 6)) (bitT (gadIn and 3) (gadIn and 3 + 3 + 6)) (gTabD (gadS and 3).ops (gadIn and 3) 3 6) 0 z (by rw [hT]; exact hz)
  have h3 := chkAll_one _ _ _ _ _ h2 _ hm2
  unfold chkAll at h3
  rw [finD_eq, Nat.zero_add, Nat.zero_add] at h3
  refine ⟨_, fun p => ?_, h3⟩
  have q1 := lit_at (gadS and 3).ops (gadIn and 3) 3 6 (gad_ops' and 3 (by omega)) (gad_randoms and 3 (by omega)) 2 (by omega) x p
  have q2 := lit_at (gadS and 3).ops (gadIn and 3) 3 6 (gad_ops' and 3 (by omega)) (gad_randoms and 3 (by omega)) 1 (by omega) y p
  have q3 := lit_at (gadS and 3).ops (gadIn and 3) 3 6 (gad_ops' and 3 (by omega)) (gad_randoms and 3 (by omega)) 0 (by omega) z p
  exact (lits_snoc (lits_snoc (ones_and _ _ true p _ q1) q2) q3).trans (lits_3 _ _ _ _)
def Few (l : List Bool) (w n : Nat) : Prop := ∀ j, (j + 1) * w ≤ l.length → ((l.drop (j * w)).take w).countP id ≤ n
theorem groupsOk_all (w n : Nat) : ∀ (g : Nat) (l : List Bool), groupsOk w n g l = true → ∀ j, j < g → badIn ((l.drop (j * w)).take w) ≤ n
  | 0, _, _, j, h => by omega
  | g + 1, l, h, j, hj => by
    unfold groupsOk at h
    rw [Bool.and_eq_true] at h
    cases j with
    | zero => rw [Nat.zero_mul, List.drop_zero]; exact Nat.le_of_ble_eq_true h.1
    | succ j =>
      have := groupsOk_all w n g (l.drop w) h.2 j (by omega)
      rw [List.drop_drop] at this
      rw [Nat.succ_mul, Nat.add_comm]; exact this
theorem few_of (w n g m : Nat) (hw : 0 < w) (hgm : g * w = m) (f b : Nat → Bool) (hfb : ∀ k, k < m → b k = true → f k = false) (h : groupsOk w n g ((List.range m).map b) = true) : Few (tell m f) w n := by
  intro j hj
  rw [tell_length] at hj
  have hjg : j < g := by
    rw [← hgm] at hj
    have := Nat.le_of_mul_le_mul_right hj hw
    omega
  have h1 := groupsOk_all w n g _ h j hjg
  refine Nat.le_trans ?_ h1
  unfold badIn tell
  rw [← List.countP_eq_length_filter, ← List.map_drop, ← List.map_take, ← List.map_drop, ← List.map_take, List.countP_map, List.countP_map]
  refine List.countP_mono_left fun k hk hf => ?_
  have hkm : k < m := List.mem_range.1 (List.mem_of_mem_drop (List.mem_of_mem_take hk))
  simp only [Function.comp_apply, id_eq] at hf ⊢
  cases hb : b k with
  | false => rfl
  | true => rw [hfb k hkm hb] at hf; cases hf
end Go.Abs
end

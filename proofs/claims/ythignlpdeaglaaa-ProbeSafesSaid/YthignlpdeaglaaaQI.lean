import Derived.Test.YthignlpdeaglaaaT
section
set_option linter.unusedSimpArgs false
set_option linter.unusedVariables false
namespace Go.Abs
structure OpM where
  k : Int
  a : Int
  b : Int
  n : BitVec 32
deriving DecidableEq
structure CodeM where
  inN : Int
  ops : List OpM
  outs : List Int
deriving DecidableEq
def OpM.cells (o : OpM) : List AV := [.int .i64 o.k, .int .i64 o.a, .int .i64 o.b, W32 o.n]
def opRows (l : List OpM) : List (List AV) := l.map OpM.cells
def CodeM.cells (c : CodeM) : List AV := [.int .i64 c.inN, .rsl 4 (opRows c.ops), .rsl 1 (ints c.outs)]
@[simp] theorem opRows_length (l : List OpM) : (opRows l).length = l.length := by simp [opRows]
theorem opRows_get (l : List OpM) (k : Nat) (h : k < l.length) : (opRows l)[k]? = some l[k].cells := by simp [opRows, h]
def takesM (k : Int) : Int := if k = 1 ∨ k = 2 then 2 else if 3 ≤ k ∧ k ≤ 6 ∨ k = 8 then 1 else 0
def wireM (x wires : Int) (is : Bool) : Bool := if is then decide (0 ≤ x) && decide (x < wires) else decide (x = 0)
def numberM (o : OpM) : Bool := if o.k = 7 then true else if o.k = 4 ∨ o.k = 5 ∨ o.k = 6 then decide (o.n.toNat < 32) else decide (o.n = 0#32)
def OpM.ok (o : OpM) (wires : Int) : Bool :=
  decide (0 ≤ o.k) && decide (o.k < 9) && numberM o && wireM o.a wires (decide (0 < takesM o.k)) && wireM o.b wires (decide (1 < takesM o.k))
def opsOk : List OpM → Int → Bool
  | [], _ => true
  | o :: l, w => o.ok w && opsOk l (w + 1)
def CodeM.can (c : CodeM) : Bool :=
  decide (0 ≤ c.inN) && decide (c.inN ≤ 4000) && decide (c.ops.length ≤ 60000) && opsOk c.ops c.inN && c.outs.all (fun x => decide (0 ≤ x) && decide (x < c.inN + c.ops.length))
def CodeM.randoms (c : CodeM) : Nat := (c.ops.filter fun o => decide (o.k = 0)).length
def rotM (a n : BitVec 32) : BitVec 32 := a.rotateLeft (n.toNat % 32)
def stepW (o : OpM) (a b : BitVec 32) : BitVec 32 :=
  if o.k = 1 then a &&& b else if o.k = 2 then a ^^^ b else if o.k = 3 then ~~~ a else if o.k = 4 then a <<< o.n.toNat else if o.k = 5 then a >>> o.n.toNat
  else if o.k = 6 then rotM a o.n else if o.k = 7 then o.n else a
def runOps : List OpM → List (BitVec 32) → List (BitVec 32) → List (BitVec 32)
  | [], w, _ => w
  | o :: l, w, t =>
    if o.k = 0 then runOps l (w ++ [at0 t 0]) t.tail
    else runOps l (w ++ [stepW o (if 0 < takesM o.k then at0 w o.a.toNat else 0#32) (if 1 < takesM o.k then at0 w o.b.toNat else 0#32)]) t
def padM (l : List (BitVec 32)) (n : Nat) : List (BitVec 32) := (List.range n).map fun i => at0 l i
def CodeM.exec (c : CodeM) (inp tape : List (BitVec 32)) : List (BitVec 32) × Bool :=
  if c.can = true ∧ c.randoms ≤ tape.length then (runOps c.ops (padM inp c.inN.toNat) tape, true) else ([], false)
theorem runOps_length : ∀ (l : List OpM) (w t : List (BitVec 32)), (runOps l w t).length = w.length + l.length
  | [], w, t => by simp [runOps]
  | o :: l, w, t => by
    unfold runOps
    split <;> rw [runOps_length] <;> simp <;> omega
theorem runOps_append : ∀ (l l' : List OpM) (w t : List (BitVec 32)), runOps (l ++ l') w t = runOps l' (runOps l w t) (t.drop (l.filter fun o => decide (o.k = 0)).length)
  | [], l', w, t => by simp [runOps]
  | o :: l, l', w, t => by
    rw [List.cons_append]
    by_cases h : o.k = 0
    · rw [runOps, runOps, if_pos h, if_pos h, runOps_append]
      simp [h, Nat.add_comm]
    · rw [runOps, runOps, if_neg h, if_neg h, runOps_append]
      simp [h]
end Go.Abs
end
section
set_option linter.unusedSimpArgs false
set_option linter.unusedVariables false
namespace Go.Abs
def tally (N size : Nat) (f : Nat → Nat) : List Int := (List.range size).map fun i => (((List.range N).countP fun n => f n == i : Nat) : Int)
@[simp] theorem tally_length (N size : Nat) (f : Nat → Nat) : (tally N size f).length = size := by simp [tally]
theorem tally_get (N size : Nat) (f : Nat → Nat) (i : Nat) (h : i < size) : (tally N size f)[i]? = some (((List.range N).countP fun n => f n == i : Nat) : Int) := by simp [tally, h]
theorem tally_ati (N size : Nat) (f : Nat → Nat) (i : Nat) (h : i < size) : ati (tally N size f) i = (((List.range N).countP fun n => f n == i : Nat) : Int) := by
  rw [ati, List.getD_eq_getElem?_getD, tally_get _ _ _ _ h]; rfl
theorem tally_zero (size : Nat) (f : Nat → Nat) : tally 0 size f = List.replicate size 0 := by
  apply List.ext_getElem?
  intro i
  by_cases h : i < size
  · rw [tally_get _ _ _ _ h]; simp [h]
  · rw [List.getElem?_eq_none (by simp; omega), List.getElem?_eq_none (by simp; omega)]
theorem tally_succ (N size : Nat) (f : Nat → Nat) (h : f N < size) : tally (N + 1) size f = (tally N size f).set (f N) (ati (tally N size f) (f N) + 1) := by
  apply List.ext_getElem?
  intro i
  rw [List.getElem?_set, tally_length]
  by_cases hi : i < size
  · rw [tally_get _ _ _ _ hi, tally_get _ _ _ _ hi, tally_ati _ _ _ _ h, List.range_succ, List.countP_append]
    by_cases e : f N = i
    · subst e; simp [h]
    · simp [e]
  · rw [List.getElem?_eq_none (by simp; omega), List.getElem?_eq_none (by simp; omega)]
    split <;> simp <;> omega
theorem tally_congr {N size : Nat} {f g : Nat → Nat} (h : ∀ n, n < N → f n = g n) : tally N size f = tally N size g := by
  unfold tally
  apply List.map_congr_left
  intro i _
  congr 1
  apply List.countP_congr
  intro n hn
  rw [h n (by simpa using hn)]
def addL (a b : List Int) : List Int := List.zipWith (· + ·) a b
theorem count_split (p : Nat → Bool) (A : Nat) : ∀ B, (List.range (A * B)).countP p = ((List.range A).map fun m => (List.range B).countP fun t => p (m + A * t)).sum := by
  intro B
  induction B with
  | zero =>
    simp only [Nat.mul_zero, List.range_zero, List.countP_nil]
    induction A with
    | zero => rfl
    | succ A ih => rw [List.range_succ]; simp [List.sum_append]; simpa using ih
  | succ B ih =>
    rw [Nat.mul_succ, List.range_add, List.countP_append, ih]
    have h1 : ∀ (l : List Nat) (f g : Nat → Nat), (l.map fun m => f m + g m).sum = (l.map f).sum + (l.map g).sum := by
      intro l f g
      induction l with
      | nil => rfl
      | cons x l ih => simp only [List.map_cons, List.sum_cons, ih]; omega
    have h2 : (List.map (fun x => A * B + x) (List.range A)).countP p = ((List.range A).map fun m => if p (m + A * B) then 1 else 0).sum := by
      generalize A * B = q
      clear ih
      induction A with
      | zero => rfl
      | succ A ih => rw [List.range_succ, List.map_append, List.countP_append, List.map_append, List.sum_append, ih]; simp [List.countP_cons, Nat.add_comm]
    rw [h2, ← h1]
    congr 1
    apply List.map_congr_left
    intro m _
    rw [List.range_succ, List.countP_append]
    simp [List.countP_cons]
def sumT (A : Nat) (size : Nat) (g : Nat → List Int) : List Int := (List.range A).foldl (fun acc m => addL acc (g m)) (List.replicate size 0)
theorem addL_get (a b : List Int) (i : Nat) (ha : i < a.length) (hb : i < b.length) : ati (addL a b) i = ati a i + ati b i := by
  simp [addL, ati, List.getD_eq_getElem?_getD, List.getElem?_zipWith, ha, hb]
theorem sumT_length (A size : Nat) (g : Nat → List Int) (h : ∀ m, (g m).length = size) : (sumT A size g).length = size := by
  unfold sumT
  induction A with
  | zero => simp
  | succ A ih => rw [List.range_succ, List.foldl_append]; simp only [List.foldl_cons, List.foldl_nil]; rw [addL, List.length_zipWith, h, ih]; omega
theorem sumT_ati (size : Nat) (g : Nat → List Int) (h : ∀ m, (g m).length = size) (i : Nat) (hi : i < size) : ∀ A, ati (sumT A size g) i = ((List.range A).map fun m => ati (g m) i).sum := by
  intro A
  induction A with
  | zero => simp [sumT, ati, List.getD_eq_getElem?_getD, hi]
  | succ A ih =>
    have : sumT (A + 1) size g = addL (sumT A size g) (g A) := by unfold sumT; rw [List.range_succ, List.foldl_append]; rfl
    rw [this, addL_get _ _ _ (by rw [sumT_length _ _ _ h]; exact hi) (by rw [h]; exact hi), ih, List.range_succ, List.map_append, List.sum_append]
    simp
theorem natsum_cast : ∀ l : List Nat, ((l.sum : Nat) : Int) = (l.map fun n : Nat => (n : Int)).sum
  | [] => rfl
  | x :: l => by rw [List.sum_cons, List.map_cons, List.sum_cons, ← natsum_cast l]; omega
theorem ati_ext {a b : List Int} (hl : a.length = b.length) (h : ∀ i, i < a.length → ati a i = ati b i) : a = b := by
  apply List.ext_getElem?
  intro i
  by_cases hi : i < a.length
  · have := h i hi
    simp only [ati, List.getD_eq_getElem?_getD, List.getElem?_eq_getElem hi, List.getElem?_eq_getElem (hl ▸ hi : i < b.length), Option.getD_some] at this
    rw [List.getElem?_eq_getElem hi, List.getElem?_eq_getElem (hl ▸ hi : i < b.length), this]
  · rw [List.getElem?_eq_none (by omega), List.getElem?_eq_none (by omega)]
theorem tally_split (A B size : Nat) (f : Nat → Nat) : tally (A * B) size f = sumT A size fun m => tally B size fun t => f (m + A * t) := by
  have hl : ∀ m, (tally B size fun t => f (m + A * t)).length = size := fun m => by simp
  refine ati_ext (by rw [sumT_length _ _ _ hl]; simp) fun i hi => ?_
  rw [tally_length] at hi
  rw [tally_ati _ _ _ _ hi, sumT_ati _ _ hl _ hi, count_split, natsum_cast, List.map_map]
  congr 1
  apply List.map_congr_left
  intro m _
  rw [tally_ati _ _ _ _ hi]
  rfl
end Go.Abs
end
section
set_option linter.unusedSimpArgs false
set_option linter.unusedVariables false
namespace Go.Abs
theorem sumT_congr (A size : Nat) (g g' : Nat → List Int) (h : ∀ m, m < A → g m = g' m) : sumT A size g = sumT A size g' := by
  have key : ∀ (l : List Nat) (acc : List Int), (∀ m, m ∈ l → m < A) → l.foldl (fun acc m => addL acc (g m)) acc = l.foldl (fun acc m => addL acc (g' m)) acc := by
    intro l
    induction l with
    | nil => intros; rfl
    | cons m l ih =>
      intro acc hl
      rw [List.foldl_cons, List.foldl_cons, h m (hl m (by simp)), ih _ (fun x hx => hl x (by simp [hx]))]
  exact key _ _ fun m hm => by simpa using hm
def bitsM (n many : Nat) : List (BitVec 32) := (List.range many).map fun i => BitVec.ofNat 32 (n / 2 ^ i % 2)
@[simp] theorem bitsM_length (n many : Nat) : (bitsM n many).length = many := by simp [bitsM]
theorem bitsM_mod (n a : Nat) : bitsM (n % 2 ^ a) a = bitsM n a := by
  unfold bitsM
  apply List.map_congr_left
  intro i hi
  rw [List.mem_range] at hi
  congr 1
  have : 2 ^ a = 2 ^ i * (2 * 2 ^ (a - i - 1)) := by
    rw [← Nat.pow_succ', ← Nat.pow_add]; congr 1; omega
  rw [this, Nat.mod_mul_right_div_self, Nat.mod_mul_right_mod]
def bitW (n : BitVec 32) (i : Nat) : BitVec 32 := (n >>> (i % 32)) &&& 1#32
def xorL (l : List (BitVec 32)) : BitVec 32 := l.foldl (· ^^^ ·) 0#32
def shares (w : BitVec 32) (masks : List (BitVec 32)) : List (BitVec 32) := (w ^^^ xorL masks) :: masks
def sharesAll (secrets d : Nat) (s : BitVec 32) (m : List (BitVec 32)) : List (BitVec 32) :=
  (List.range secrets).flatMap fun i => shares (bitW s i) ((m.drop (i * d)).take d)
def comesIn (inN secrets d : Nat) (s p : BitVec 32) (m : List (BitVec 32)) : List (BitVec 32) :=
  sharesAll secrets d s m ++ (List.range' (secrets * (d + 1)) (inN - secrets * (d + 1))).map (bitW p)
def atM (w : List (BitVec 32)) (probes : List Int) : Nat := probes.foldl (fun a x => 2 * a + (at0 w x.toNat).toNat % 2) 0
theorem atM_snoc (w : List (BitVec 32)) (probes : List Int) (x : Int) : atM w (probes ++ [x]) = 2 * atM w probes + (at0 w x.toNat).toNat % 2 := by simp [atM]
theorem atM_lt (w : List (BitVec 32)) (probes : List Int) : atM w probes < 2 ^ probes.length := by
  have key : ∀ (l : List Int) (a : Nat), l.foldl (fun a x => 2 * a + (at0 w x.toNat).toNat % 2) a < 2 ^ l.length * (a + 1) := by
    intro l
    induction l with
    | nil => intro a; simp
    | cons x l ih =>
      intro a
      rw [List.foldl_cons, List.length_cons, Nat.pow_succ]
      refine Nat.lt_of_lt_of_le (ih _) ?_
      rw [Nat.mul_assoc]
      exact Nat.mul_le_mul_left _ (by omega)
  have := key probes 0
  simpa [atM] using this
structure AskM where
  c : CodeM
  secrets : Nat
  d : Nat
namespace AskM
variable (q : AskM)
def masks : Nat := q.secrets * q.d
def tapes : Nat := q.c.randoms
def tells (s p : BitVec 32) (probes : List Int) (n : Nat) : Nat :=
  atM (runOps q.c.ops (padM (comesIn q.c.inN.toNat q.secrets q.d s p (bitsM n q.masks)) q.c.inN.toNat) (bitsM (n / 2 ^ q.masks) q.tapes)) probes
def spread (s p : BitVec 32) (probes : List Int) : List Int := tally (2 ^ (q.masks + q.tapes)) (2 ^ probes.length) (q.tells s p probes)
def safe (p : BitVec 32) (probes : List Int) : Bool := (List.range (2 ^ q.secrets)).all fun s => decide (q.spread (BitVec.ofNat 32 s) p probes = q.spread 0#32 p probes)
theorem spread_length (s p : BitVec 32) (probes : List Int) : (q.spread s p probes).length = 2 ^ probes.length := by simp [spread]
theorem tells_lt (s p : BitVec 32) (probes : List Int) (n : Nat) : q.tells s p probes n < 2 ^ probes.length := atM_lt _ _
theorem spread_sum (s p : BitVec 32) (probes : List Int) : q.spread s p probes = sumT (2 ^ q.masks) (2 ^ probes.length) fun m => tally (2 ^ q.tapes) (2 ^ probes.length) fun t =>
    atM (runOps q.c.ops (padM (comesIn q.c.inN.toNat q.secrets q.d s p (bitsM m q.masks)) q.c.inN.toNat) (bitsM t q.tapes)) probes := by
  rw [spread, Nat.pow_add, tally_split]
  refine sumT_congr _ _ _ _ fun m hm => tally_congr fun t _ => ?_
  unfold tells
  have h1 : (m + 2 ^ q.masks * t) / 2 ^ q.masks = t := by
    rw [Nat.add_mul_div_left _ _ (Nat.two_pow_pos _), Nat.div_eq_of_lt hm, Nat.zero_add]
  have h2 : bitsM (m + 2 ^ q.masks * t) q.masks = bitsM m q.masks := by
    rw [← bitsM_mod (m + 2 ^ q.masks * t), Nat.add_mul_mod_self_left, Nat.mod_eq_of_lt hm]
  rw [h1, h2]
end AskM
theorem tally_sum (N size : Nat) (f : Nat → Nat) (h : ∀ n, f n < size) : (tally N size f).sum = (N : Int) := by
  induction N with
  | zero => rw [tally_zero]; simp
  | succ N ih =>
    rw [tally_succ _ _ _ (h N)]
    have key : ∀ (l : List Int) (k : Nat) (x : Int), k < l.length → (l.set k (ati l k + x)).sum = l.sum + x := by
      intro l
      induction l with
      | nil => intro k x hk; simp at hk
      | cons y l ih2 =>
        intro k x hk
        cases k with
        | zero => simp [ati]; omega
        | succ k =>
          have := ih2 k x (by simpa using hk)
          simp only [ati, List.getD_cons_succ, List.set_cons_succ, List.sum_cons] at this ⊢
          rw [this]; omega
    rw [key _ _ _ (by rw [tally_length]; exact h N), ih]
    omega
theorem countP_or (l : List Nat) (p q r : Nat → Bool) (h : ∀ n, n ∈ l → (p n = (q n || r n)) ∧ ¬ (q n = true ∧ r n = true)) : l.countP p = l.countP q + l.countP r := by
  induction l with
  | nil => rfl
  | cons x l ih =>
    have h1 := h x (by simp)
    have h2 := ih fun n hn => h n (by simp [hn])
    rw [List.countP_cons, List.countP_cons, List.countP_cons, h2, h1.1]
    cases hq : q x <;> cases hr : r x <;> simp [hq, hr] at h1 ⊢ <;> omega
theorem tally_half (N size : Nat) (f g : Nat → Nat) (b : Nat → Nat) (hg : ∀ n, g n = 2 * f n + b n) (hb : ∀ n, b n < 2) (k : Nat) (hk : k < size) : ati (tally N size f) k = ati (tally N (2 * size) g) (2 * k) + ati (tally N (2 * size) g) (2 * k + 1) := by
  rw [tally_ati _ _ _ _ hk, tally_ati _ _ _ _ (by omega), tally_ati _ _ _ _ (by omega)]
  rw [← Int.natCast_add]
  congr 1
  refine countP_or _ _ _ _ fun n _ => ?_
  have h1 := hg n
  have h2 := hb n
  rw [Bool.eq_iff_iff]
  simp only [beq_iff_eq, Bool.or_eq_true]
  omega
theorem tally_image {N M size size' : Nat} {f f' g g' : Nat → Nat} (φ : Nat → Nat) (h : tally N size f = tally M size f') (hf : ∀ n, f n < size) (hf' : ∀ n, f' n < size) (hg : ∀ n, g n = φ (f n)) (hg' : ∀ n, g' n = φ (f' n)) : tally N size' g = tally M size' g' := by
  have key : ∀ (N : Nat) (f g : Nat → Nat), (∀ n, f n < size) → (∀ n, g n = φ (f n)) → ∀ j, (List.range N).countP (fun n => g n == j) = ((List.range size).map fun i => if φ i = j then (List.range N).countP (fun n => f n == i) else 0).sum := by
    intro N f g hf hg j
    induction N with
    | zero =>
      simp only [List.range_zero, List.countP_nil, ite_self]
      have hz : ∀ n, 0 = ((List.range n).map fun _ => 0).sum := by
        intro n
        induction n with
        | zero => rfl
        | succ n ih => rw [List.range_succ, List.map_append, List.sum_append, ← ih]; rfl
      exact hz size
    | succ N ih =>
      rw [List.range_succ, List.countP_append, ih]
      have h3 : ∀ (n a c : Nat), ((List.range n).map fun i => if i = a then c else 0).sum = if a < n then c else 0 := by
        intro n a c
        induction n with
        | zero => rfl
        | succ n ih =>
          rw [List.range_succ, List.map_append, List.sum_append, ih]
          by_cases e : n = a
          · subst e; simp
          · simp only [List.map_cons, List.map_nil, List.sum_cons, List.sum_nil, if_neg e]
            by_cases e2 : a < n
            · rw [if_pos e2, if_pos (by omega)]; omega
            · rw [if_neg e2, if_neg (by omega)]; rfl
      have h4 : ∀ (l : List Nat) (F G : Nat → Nat), (l.map fun m => F m + G m).sum = (l.map F).sum + (l.map G).sum := by
        intro l F G
        induction l with
        | nil => rfl
        | cons x l ih => simp only [List.map_cons, List.sum_cons, ih]; omega
      have h5 := h3 size (f N) (if φ (f N) = j then 1 else 0)
      rw [if_pos (hf N)] at h5
      have h6 : (List.countP (fun n => g n == j) [N]) = if φ (f N) = j then 1 else 0 := by
        rw [List.countP_singleton, hg N]; simp [beq_iff_eq]
      rw [h6, ← h5, ← h4]
      congr 1
      apply List.map_congr_left
      intro i _
      rw [List.countP_append, List.countP_singleton]
      by_cases e : i = f N
      · subst e; simp; split <;> rfl
      · have e2 : ¬ f N = i := fun q => e q.symm
        simp [e, e2]
  apply List.ext_getElem?
  intro j
  by_cases hj : j < size'
  · rw [tally_get _ _ _ _ hj, tally_get _ _ _ _ hj, key N f g hf hg, key M f' g' hf' hg']
    congr 3
    apply List.map_congr_left
    intro i hi
    rw [List.mem_range] at hi
    have := congrArg (fun l => ati l i) h
    simp only [tally_ati _ _ _ _ hi] at this
    rw [Int.natCast_inj.1 this]
  · rw [List.getElem?_eq_none (by simp; omega), List.getElem?_eq_none (by simp; omega)]
end Go.Abs
end
section
set_option linter.unusedSimpArgs false
set_option linter.unusedVariables false
namespace Go.Abs
theorem atM_from (w : List (BitVec 32)) : ∀ (l : List Int) (a : Nat), l.foldl (fun a x => 2 * a + (at0 w x.toNat).toNat % 2) a = a * 2 ^ l.length + atM w l := by
  intro l
  induction l with
  | nil => intro a; simp [atM]
  | cons x l ih =>
    intro a
    rw [List.foldl_cons, ih, List.length_cons, Nat.pow_succ]
    conv => rhs; rw [atM, List.foldl_cons, ih]
    simp only [Nat.mul_zero, Nat.zero_add, Nat.add_mul]
    have : 2 * a * 2 ^ l.length = a * (2 ^ l.length * 2) := by rw [Nat.mul_comm 2 a, Nat.mul_assoc, Nat.mul_comm 2]
    omega
theorem atM_append (w : List (BitVec 32)) (a b : List Int) : atM w (a ++ b) = atM w a * 2 ^ b.length + atM w b := by
  rw [atM, List.foldl_append, atM_from]; rfl
def dropBit (k n : Nat) : Nat := n / 2 ^ (k + 1) * 2 ^ k + n % 2 ^ k
theorem atM_drop (w : List (BitVec 32)) (a b : List Int) (x : Int) : atM w (a ++ b) = dropBit b.length (atM w (a ++ x :: b)) := by
  have hb := atM_lt w b
  have hx : (at0 w x.toNat).toNat % 2 < 2 := Nat.mod_lt _ (by omega)
  rw [atM_append, show a ++ x :: b = (a ++ [x]) ++ b by simp, atM_append, atM_snoc]
  generalize (at0 w x.toNat).toNat % 2 = c at hx
  generalize atM w b = y at *
  generalize atM w a = z
  unfold dropBit
  rw [Nat.pow_succ]
  generalize 2 ^ b.length = P at *
  have e1 : ((2 * z + c) * P + y) / (P * 2) = z := by
    rw [← Nat.div_div_eq_div_mul, Nat.mul_comm, Nat.mul_add_div (by omega), Nat.div_eq_of_lt hb]; omega
  have e2 : ((2 * z + c) * P + y) % P = y := by
    rw [Nat.mul_comm, Nat.mul_add_mod, Nat.mod_eq_of_lt hb]
  rw [e1, e2]
namespace AskM
variable (q : AskM)
theorem spread_less (s s' p : BitVec 32) (a b : List Int) (x : Int) (h : q.spread s p (a ++ x :: b) = q.spread s' p (a ++ x :: b)) : q.spread s p (a ++ b) = q.spread s' p (a ++ b) := by
  unfold spread at h ⊢
  exact tally_image (dropBit b.length) h (fun n => q.tells_lt s p _ n) (fun n => q.tells_lt s' p _ n) (fun n => atM_drop _ a b x) (fun n => atM_drop _ a b x)
theorem safe_less (p : BitVec 32) (a b : List Int) (x : Int) (h : q.safe p (a ++ x :: b) = true) : q.safe p (a ++ b) = true := by
  unfold safe at h ⊢
  rw [List.all_eq_true] at h ⊢
  intro s hs
  have := of_decide_eq_true (h s hs)
  exact decide_eq_true (q.spread_less _ _ p a b x this)
theorem spread_all (s p : BitVec 32) (probes : List Int) : (q.spread s p probes).sum = ((2 ^ (q.masks + q.tapes) : Nat) : Int) := tally_sum _ _ _ fun n => q.tells_lt s p probes n
theorem spread_last (s p : BitVec 32) (probes : List Int) (x : Int) (k : Nat) (hk : k < 2 ^ probes.length) : ati (q.spread s p probes) k = ati (q.spread s p (probes ++ [x])) (2 * k) + ati (q.spread s p (probes ++ [x])) (2 * k + 1) := by
  have h2 : 2 ^ (probes ++ [x]).length = 2 * 2 ^ probes.length := by rw [List.length_append, List.length_singleton, Nat.pow_succ]; omega
  unfold spread
  rw [h2]
  exact tally_half _ _ _ _ (fun n => (at0 (runOps q.c.ops (padM (comesIn q.c.inN.toNat q.secrets q.d s p (bitsM n q.masks)) q.c.inN.toNat) (bitsM (n / 2 ^ q.masks) q.tapes)) x.toNat).toNat % 2) (fun n => atM_snoc _ _ _) (fun n => Nat.mod_lt _ (by omega)) k hk
end AskM
end Go.Abs
end
section
set_option linter.unusedSimpArgs false
set_option linter.unusedVariables false
namespace Go.Abs
structure GadS where
  ops : List OpM
  outs : List Int
def gadIn (and : Bool) (d : Nat) : Nat := if and then 2 * (d + 1) else d + 1
def outN (s : GadS) (i : Nat) : Nat := (ati s.outs i).toNat
theorem xorL_append (a b : List (BitVec 32)) : xorL (a ++ b) = xorL a ^^^ xorL b := by
  have key : ∀ (l : List (BitVec 32)) (x : BitVec 32), l.foldl (· ^^^ ·) x = x ^^^ l.foldl (· ^^^ ·) 0#32 := by
    intro l
    induction l with
    | nil => intro x; simp
    | cons y l ih => intro x; rw [List.foldl_cons, ih, List.foldl_cons, ih (0#32 ^^^ y), BitVec.zero_xor, BitVec.xor_assoc]
  unfold xorL
  rw [List.foldl_append, key b]
@[simp] theorem xorL_nil : xorL [] = 0#32 := rfl
theorem xorL_cons (x : BitVec 32) (l : List (BitVec 32)) : xorL (x :: l) = x ^^^ xorL l := by
  have := xorL_append [x] l
  simpa [xorL] using this
end Go.Abs
end
section
set_option linter.unusedSimpArgs false
set_option linter.unusedVariables false
namespace Go.Abs
structure GadOk (and : Bool) (d : Nat) (w0 t : List (BitVec 32)) (s : GadS) (E : BitVec 32) : Prop where
  len : s.outs.length = d + 1
  lt : ∀ k, k < d + 1 → 0 ≤ ati s.outs k ∧ outN s k < gadIn and d + s.ops.length
  sum : xorL ((List.range (d + 1)).map fun k => at0 (runOps s.ops w0 t) (outN s k)) = E
end Go.Abs
end
section
set_option linter.unusedSimpArgs false
set_option linter.unusedVariables false
end

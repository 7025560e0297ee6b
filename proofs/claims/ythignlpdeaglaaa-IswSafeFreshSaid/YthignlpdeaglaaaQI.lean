import Derived.Test.YthignlpdeaglaaaT
section
set_option linter.unusedSimpArgs false
set_option linter.unusedVariables false
namespace Go.Abs
structure OpM where
  k : Int
  a : Int
  b : Int
  n : BitVec 32
deriving DecidableEq
structure CodeM where
  inN : Int
  ops : List OpM
  outs : List Int
deriving DecidableEq
def OpM.cells (o : OpM) : List AV := [.int .i64 o.k, .int .i64 o.a, .int .i64 o.b, W32 o.n]
def opRows (l : List OpM) : List (List AV) := l.map OpM.cells
def CodeM.cells (c : CodeM) : List AV := [.int .i64 c.inN, .rsl 4 (opRows c.ops), .rsl 1 (ints c.outs)]
@[simp] theorem opRows_length (l : List OpM) : (opRows l).length = l.length := by simp [opRows]
theorem opRows_get (l : List OpM) (k : Nat) (h : k < l.length) : (opRows l)[k]? = some l[k].cells := by simp [opRows, h]
def takesM (k : Int) : Int := if k = 1 ∨ k = 2 then 2 else if 3 ≤ k ∧ k ≤ 6 ∨ k = 8 then 1 else 0
def wireM (x wires : Int) (is : Bool) : Bool := if is then decide (0 ≤ x) && decide (x < wires) else decide (x = 0)
def numberM (o : OpM) : Bool := if o.k = 7 then true else if o.k = 4 ∨ o.k = 5 ∨ o.k = 6 then decide (o.n.toNat < 32) else decide (o.n = 0#32)
def OpM.ok (o : OpM) (wires : Int) : Bool :=
  decide (0 ≤ o.k) && decide (o.k < 9) && numberM o && wireM o.a wires (decide (0 < takesM o.k)) && wireM o.b wires (decide (1 < takesM o.k))
def opsOk : List OpM → Int → Bool
  | [], _ => true
  | o :: l, w => o.ok w && opsOk l (w + 1)
def CodeM.can (c : CodeM) : Bool :=
  decide (0 ≤ c.inN) && decide (c.inN ≤ 4000) && decide (c.ops.length ≤ 60000) && opsOk c.ops c.inN && c.outs.all (fun x => decide (0 ≤ x) && decide (x < c.inN + c.ops.length))
def CodeM.randoms (c : CodeM) : Nat := (c.ops.filter fun o => decide (o.k = 0)).length
def rotM (a n : BitVec 32) : BitVec 32 := a.rotateLeft (n.toNat % 32)
def stepW (o : OpM) (a b : BitVec 32) : BitVec 32 :=
  if o.k = 1 then a &&& b else if o.k = 2 then a ^^^ b else if o.k = 3 then ~~~ a else if o.k = 4 then a <<< o.n.toNat else if o.k = 5 then a >>> o.n.toNat
  else if o.k = 6 then rotM a o.n else if o.k = 7 then o.n else a
def runOps : List OpM → List (BitVec 32) → List (BitVec 32) → List (BitVec 32)
  | [], w, _ => w
  | o :: l, w, t =>
    if o.k = 0 then runOps l (w ++ [at0 t 0]) t.tail
    else runOps l (w ++ [stepW o (if 0 < takesM o.k then at0 w o.a.toNat else 0#32) (if 1 < takesM o.k then at0 w o.b.toNat else 0#32)]) t
def padM (l : List (BitVec 32)) (n : Nat) : List (BitVec 32) := (List.range n).map fun i => at0 l i
def CodeM.exec (c : CodeM) (inp tape : List (BitVec 32)) : List (BitVec 32) × Bool :=
  if c.can = true ∧ c.randoms ≤ tape.length then (runOps c.ops (padM inp c.inN.toNat) tape, true) else ([], false)
theorem runOps_length : ∀ (l : List OpM) (w t : List (BitVec 32)), (runOps l w t).length = w.length + l.length
  | [], w, t => by simp [runOps]
  | o :: l, w, t => by
    unfold runOps
    split <;> rw [runOps_length] <;> simp <;> omega
theorem runOps_append : ∀ (l l' : List OpM) (w t : List (BitVec 32)), runOps (l ++ l') w t = runOps l' (runOps l w t) (t.drop (l.filter fun o => decide (o.k = 0)).length)
  | [], l', w, t => by simp [runOps]
  | o :: l, l', w, t => by
    rw [List.cons_append]
    by_cases h : o.k = 0
    · rw [runOps, runOps, if_pos h, if_pos h, runOps_append]
      simp [h, Nat.add_comm]
    · rw [runOps, runOps, if_neg h, if_neg h, runOps_append]
      simp [h]
end Go.Abs
end
section
set_option linter.unusedSimpArgs false
set_option linter.unusedVariables false
namespace Go.Abs
def tally (N size : Nat) (f : Nat → Nat) : List Int := (List.range size).map fun i => (((List.range N).countP fun n => f n == i : Nat) : Int)
@[simp] theorem tally_length (N size : Nat) (f : Nat → Nat) : (tally N size f).length = size := by simp [tally]
theorem tally_get (N size : Nat) (f : Nat → Nat) (i : Nat) (h : i < size) : (tally N size f)[i]? = some (((List.range N).countP fun n => f n == i : Nat) : Int) := by simp [tally, h]
theorem tally_ati (N size : Nat) (f : Nat → Nat) (i : Nat) (h : i < size) : ati (tally N size f) i = (((List.range N).countP fun n => f n == i : Nat) : Int) := by
  rw [ati, List.getD_eq_getElem?_getD, tally_get _ _ _ _ h]; rfl
theorem tally_zero (size : Nat) (f : Nat → Nat) : tally 0 size f = List.replicate size 0 := by
  apply List.ext_getElem?
  intro i
  by_cases h : i < size
  · rw [tally_get _ _ _ _ h]; simp [h]
  · rw [List.getElem?_eq_none (by simp; omega), List.getElem?_eq_none (by simp; omega)]
theorem tally_succ (N size : Nat) (f : Nat → Nat) (h : f N < size) : tally (N + 1) size f = (tally N size f).set (f N) (ati (tally N size f) (f N) + 1) := by
  apply List.ext_getElem?
  intro i
  rw [List.getElem?_set, tally_length]
  by_cases hi : i < size
  · rw [tally_get _ _ _ _ hi, tally_get _ _ _ _ hi, tally_ati _ _ _ _ h, List.range_succ, List.countP_append]
    by_cases e : f N = i
    · subst e; simp [h]
    · simp [e]
  · rw [List.getElem?_eq_none (by simp; omega), List.getElem?_eq_none (by simp; omega)]
    split <;> simp <;> omega
end Go.Abs
end
section
set_option linter.unusedSimpArgs false
set_option linter.unusedVariables false
namespace Go.Abs
def bitsM (n many : Nat) : List (BitVec 32) := (List.range many).map fun i => BitVec.ofNat 32 (n / 2 ^ i % 2)
@[simp] theorem bitsM_length (n many : Nat) : (bitsM n many).length = many := by simp [bitsM]
def xorL (l : List (BitVec 32)) : BitVec 32 := l.foldl (· ^^^ ·) 0#32
def atM (w : List (BitVec 32)) (probes : List Int) : Nat := probes.foldl (fun a x => 2 * a + (at0 w x.toNat).toNat % 2) 0
theorem atM_snoc (w : List (BitVec 32)) (probes : List Int) (x : Int) : atM w (probes ++ [x]) = 2 * atM w probes + (at0 w x.toNat).toNat % 2 := by simp [atM]
theorem atM_lt (w : List (BitVec 32)) (probes : List Int) : atM w probes < 2 ^ probes.length := by
  have key : ∀ (l : List Int) (a : Nat), l.foldl (fun a x => 2 * a + (at0 w x.toNat).toNat % 2) a < 2 ^ l.length * (a + 1) := by
    intro l
    induction l with
    | nil => intro a; simp
    | cons x l ih =>
      intro a
      rw [List.foldl_cons, List.length_cons, Nat.pow_succ]
      refine Nat.lt_of_lt_of_le (ih _) ?_
      rw [Nat.mul_assoc]
      exact Nat.mul_le_mul_left _ (by omega)
  have := key probes 0
  simpa [atM] using this
structure AskM where
  c : CodeM
  secrets : Nat
  d : Nat
namespace AskM
variable (q : AskM)
end AskM
end Go.Abs
end
section
set_option linter.unusedSimpArgs false
set_option linter.unusedVariables false
namespace Go.Abs
theorem atM_from (w : List (BitVec 32)) : ∀ (l : List Int) (a : Nat), l.foldl (fun a x => 2 * a + (at0 w x.toNat).toNat % 2) a = a * 2 ^ l.length + atM w l := by
  intro l
  induction l with
  | nil => intro a; simp [atM]
  | cons x l ih =>
    intro a
    rw [List.foldl_cons, ih, List.length_cons, Nat.pow_succ]
    conv => rhs; rw [atM, List.foldl_cons, ih]
    simp only [Nat.mul_zero, Nat.zero_add, Nat.add_mul]
    have : 2 * a * 2 ^ l.length = a * (2 ^ l.length * 2) := by rw [Nat.mul_comm 2 a, Nat.mul_assoc, Nat.mul_comm 2]
    omega
theorem atM_append (w : List (BitVec 32)) (a b : List Int) : atM w (a ++ b) = atM w a * 2 ^ b.length + atM w b := by
  rw [atM, List.foldl_append, atM_from]; rfl
namespace AskM
variable (q : AskM)
end AskM
end Go.Abs
end
section
set_option linter.unusedSimpArgs false
set_option linter.unusedVariables false
namespace Go.Abs
def opM (k a b : Nat) : OpM := ⟨k, a, b, 0#32⟩
structure GadS where
  ops : List OpM
  outs : List Int
def gadDiag (and : Bool) (d : Nat) (s : GadS) (i : Nat) : GadS :=
  if and then ⟨s.ops ++ [opM 1 i (d + 1 + i)], s.outs ++ [((2 * (d + 1) + s.ops.length : Nat) : Int)]⟩ else ⟨s.ops, s.outs ++ [(i : Int)]⟩
def gadIn (and : Bool) (d : Nat) : Nat := if and then 2 * (d + 1) else d + 1
def outN (s : GadS) (i : Nat) : Nat := (ati s.outs i).toNat
def gadPair (and : Bool) (d : Nat) (s : GadS) (p : Nat × Nat) : GadS :=
  let n := gadIn and d + s.ops.length
  if and then
    ⟨s.ops ++ [opM 0 0 0, opM 1 p.1 (d + 1 + p.2), opM 2 n (n + 1), opM 1 p.2 (d + 1 + p.1), opM 2 (n + 2) (n + 3), opM 2 (outN s p.1) n, opM 2 (outN s p.2) (n + 4)],
      (s.outs.set p.1 ((n + 5 : Nat) : Int)).set p.2 ((n + 6 : Nat) : Int)⟩
  else
    ⟨s.ops ++ [opM 0 0 0, opM 2 (outN s p.1) n, opM 2 (outN s p.2) n], (s.outs.set p.1 ((n + 1 : Nat) : Int)).set p.2 ((n + 2 : Nat) : Int)⟩
def pairsN (d : Nat) : List (Nat × Nat) := (List.range (d + 1)).flatMap fun i => (List.range' (i + 1) (d - i)).map fun j => (i, j)
def gadS (and : Bool) (d : Nat) : GadS := (pairsN d).foldl (gadPair and d) ((List.range (d + 1)).foldl (gadDiag and d) ⟨[], []⟩)
def gadC (and : Bool) (d : Nat) : CodeM := ⟨(gadIn and d : Nat), (gadS and d).ops, (gadS and d).outs⟩
theorem gad_can (and : Bool) (d : Nat) (h : d ≤ 6) : (gadC and d).can = true := by
  have : d = 0 ∨ d = 1 ∨ d = 2 ∨ d = 3 ∨ d = 4 ∨ d = 5 ∨ d = 6 := by omega
  rcases this with rfl | rfl | rfl | rfl | rfl | rfl | rfl <;> cases and <;> decide +kernel
theorem gad_randoms (and : Bool) (d : Nat) (h : d ≤ 6) : (gadC and d).randoms = d * (d + 1) / 2 := by
  have : d = 0 ∨ d = 1 ∨ d = 2 ∨ d = 3 ∨ d = 4 ∨ d = 5 ∨ d = 6 := by omega
  rcases this with rfl | rfl | rfl | rfl | rfl | rfl | rfl <;> cases and <;> decide +kernel
@[simp] theorem xorL_nil : xorL [] = 0#32 := rfl
end Go.Abs
end
section
set_option linter.unusedSimpArgs false
set_option linter.unusedVariables false
namespace Go.Abs
structure GadOk (and : Bool) (d : Nat) (w0 t : List (BitVec 32)) (s : GadS) (E : BitVec 32) : Prop where
  len : s.outs.length = d + 1
  lt : ∀ k, k < d + 1 → 0 ≤ ati s.outs k ∧ outN s k < gadIn and d + s.ops.length
  sum : xorL ((List.range (d + 1)).map fun k => at0 (runOps s.ops w0 t) (outN s k)) = E
theorem at0_map (f : Nat → BitVec 32) (n k : Nat) (h : k < n) : at0 ((List.range n).map f) k = f k := by
  simp [at0, List.getD_eq_getElem?_getD, h]
theorem ati_set (l : List Int) (i k : Nat) (x : Int) (h : i < l.length) : ati (l.set i x) k = if k = i then x else ati l k := by
  simp only [ati, List.getD_eq_getElem?_getD, List.getElem?_set]
  by_cases e : i = k
  · subst e; simp [h]
  · have e2 : ¬ k = i := fun q => e q.symm
    simp [e, e2]
end Go.Abs
end
section
set_option linter.unusedSimpArgs false
set_option linter.unusedVariables false
namespace Go.Abs
theorem pairsN_lt (d : Nat) : ∀ p ∈ pairsN d, p.1 < p.2 ∧ p.2 < d + 1 := by
  intro p hp
  simp only [pairsN, List.mem_flatMap, List.mem_range, List.mem_map, List.mem_range'_1] at hp
  obtain ⟨i, hi, j, hj, rfl⟩ := hp
  dsimp only
  omega
end Go.Abs
end

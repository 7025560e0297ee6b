import Derived.Test.YteohnepdbjmghaaT
section
set_option linter.unusedSimpArgs false
set_option linter.unusedVariables false
namespace Go.Abs
structure OpM where
  k : Int
  a : Int
  b : Int
  n : BitVec 32
deriving DecidableEq
structure CodeM where
  inN : Int
  ops : List OpM
  outs : List Int
deriving DecidableEq
def OpM.cells (o : OpM) : List AV := [.int .i64 o.k, .int .i64 o.a, .int .i64 o.b, W32 o.n]
def opRows (l : List OpM) : List (List AV) := l.map OpM.cells
def CodeM.cells (c : CodeM) : List AV := [.int .i64 c.inN, .rsl 4 (opRows c.ops), .rsl 1 (ints c.outs)]
@[simp] theorem opRows_length (l : List OpM) : (opRows l).length = l.length := by simp [opRows]
theorem opRows_get (l : List OpM) (k : Nat) (h : k < l.length) : (opRows l)[k]? = some l[k].cells := by simp [opRows, h]
def takesM (k : Int) : Int := if k = 1 ∨ k = 2 then 2 else if 3 ≤ k ∧ k ≤ 6 ∨ k = 8 then 1 else 0
def wireM (x wires : Int) (is : Bool) : Bool := if is then decide (0 ≤ x) && decide (x < wires) else decide (x = 0)
def numberM (o : OpM) : Bool := if o.k = 7 then true else if o.k = 4 ∨ o.k = 5 ∨ o.k = 6 then decide (o.n.toNat < 32) else decide (o.n = 0#32)
def OpM.ok (o : OpM) (wires : Int) : Bool :=
  decide (0 ≤ o.k) && decide (o.k < 9) && numberM o && wireM o.a wires (decide (0 < takesM o.k)) && wireM o.b wires (decide (1 < takesM o.k))
def opsOk : List OpM → Int → Bool
  | [], _ => true
  | o :: l, w => o.ok w && opsOk l (w + 1)
def CodeM.can (c : CodeM) : Bool :=
  decide (0 ≤ c.inN) && decide (c.inN ≤ 4000) && decide (c.ops.length ≤ 60000) && opsOk c.ops c.inN && c.outs.all (fun x => decide (0 ≤ x) && decide (x < c.inN + c.ops.length))
def rotM (a n : BitVec 32) : BitVec 32 := a.rotateLeft (n.toNat % 32)
def stepW (o : OpM) (a b : BitVec 32) : BitVec 32 :=
  if o.k = 1 then a &&& b else if o.k = 2 then a ^^^ b else if o.k = 3 then ~~~ a else if o.k = 4 then a <<< o.n.toNat else if o.k = 5 then a >>> o.n.toNat
  else if o.k = 6 then rotM a o.n else if o.k = 7 then o.n else a
def runOps : List OpM → List (BitVec 32) → List (BitVec 32) → List (BitVec 32)
  | [], w, _ => w
  | o :: l, w, t =>
    if o.k = 0 then runOps l (w ++ [at0 t 0]) t.tail
    else runOps l (w ++ [stepW o (if 0 < takesM o.k then at0 w o.a.toNat else 0#32) (if 1 < takesM o.k then at0 w o.b.toNat else 0#32)]) t
end Go.Abs
end
section
set_option linter.unusedSimpArgs false
set_option linter.unusedVariables false
end
section
set_option linter.unusedSimpArgs false
set_option linter.unusedVariables false
namespace Go.Abs
def xorL (l : List (BitVec 32)) : BitVec 32 := l.foldl (· ^^^ ·) 0#32
structure AskM where
  c : CodeM
  secrets : Nat
  d : Nat
namespace AskM
variable (q : AskM)
end AskM
end Go.Abs
end
section
set_option linter.unusedSimpArgs false
set_option linter.unusedVariables false
namespace Go.Abs
namespace AskM
variable (q : AskM)
end AskM
end Go.Abs
end
section
set_option linter.unusedSimpArgs false
set_option linter.unusedVariables false
namespace Go.Abs
structure GadS where
  ops : List OpM
  outs : List Int
def gadIn (and : Bool) (d : Nat) : Nat := if and then 2 * (d + 1) else d + 1
def outN (s : GadS) (i : Nat) : Nat := (ati s.outs i).toNat
@[simp] theorem xorL_nil : xorL [] = 0#32 := rfl
end Go.Abs
end
section
set_option linter.unusedSimpArgs false
set_option linter.unusedVariables false
namespace Go.Abs
structure GadOk (and : Bool) (d : Nat) (w0 t : List (BitVec 32)) (s : GadS) (E : BitVec 32) : Prop where
  len : s.outs.length = d + 1
  lt : ∀ k, k < d + 1 → 0 ≤ ati s.outs k ∧ outN s k < gadIn and d + s.ops.length
  sum : xorL ((List.range (d + 1)).map fun k => at0 (runOps s.ops w0 t) (outN s k)) = E
end Go.Abs
end
section
set_option linter.unusedSimpArgs false
set_option linter.unusedVariables false
end

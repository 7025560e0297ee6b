/-
  The gadgets, in plain Lean: what goes out is right.
-/
import Derived.Test.YthignlpdeaglaaaQ2
set_option linter.unusedSimpArgs false
set_option linter.unusedVariables false
namespace Go.Abs
def opM (k a b : Nat) : OpM := ⟨k, a, b, 0#32⟩
structure GadS where
  ops : List OpM
  outs : List Int
def gadDiag (and : Bool) (d : Nat) (s : GadS) (i : Nat) : GadS :=
  if and then ⟨s.ops ++ [opM 1 i (d + 1 + i)], s.outs ++ [((2 * (d + 1) + s.ops.length : Nat) : Int)]⟩ else ⟨s.ops, s.outs ++ [(i : Int)]⟩
def gadIn (and : Bool) (d : Nat) : Nat := if and then 2 * (d + 1) else d + 1
def outN (s : GadS) (i : Nat) : Nat := (ati s.outs i).toNat
def gadPair (and : Bool) (d : Nat) (s : GadS) (p : Nat × Nat) : GadS :=
  let n := gadIn and d + s.ops.length
  if and then
    ⟨s.ops ++ [opM 0 0 0, opM 1 p.1 (d + 1 + p.2), opM 2 n (n + 1), opM 1 p.2 (d + 1 + p.1), opM 2 (n + 2) (n + 3), opM 2 (outN s p.1) n, opM 2 (outN s p.2) (n + 4)],
      (s.outs.set p.1 ((n + 5 : Nat) : Int)).set p.2 ((n + 6 : Nat) : Int)⟩
  else
    ⟨s.ops ++ [opM 0 0 0, opM 2 (outN s p.1) n, opM 2 (outN s p.2) n], (s.outs.set p.1 ((n + 1 : Nat) : Int)).set p.2 ((n + 2 : Nat) : Int)⟩
def pairsN (d : Nat) : List (Nat × Nat) := (List.range (d + 1)).flatMap fun i => (List.range' (i + 1) (d - i)).map fun j => (i, j)
def gadS (and : Bool) (d : Nat) : GadS := (pairsN d).foldl (gadPair and d) ((List.range (d + 1)).foldl (gadDiag and d) ⟨[], []⟩)
def gadC (and : Bool) (d : Nat) : CodeM := ⟨(gadIn and d : Nat), (gadS and d).ops, (gadS and d).outs⟩
theorem gad_can (and : Bool) (d : Nat) (h : d ≤ 6) : (gadC and d).can = true := by
  have : d = 0 ∨ d = 1 ∨ d = 2 ∨ d = 3 ∨ d = 4 ∨ d = 5 ∨ d = 6 := by omega
  rcases this with rfl | rfl | rfl | rfl | rfl | rfl | rfl <;> cases and <;> decide +kernel
theorem gad_randoms (and : Bool) (d : Nat) (h : d ≤ 6) : (gadC and d).randoms = d * (d + 1) / 2 := by
  have : d = 0 ∨ d = 1 ∨ d = 2 ∨ d = 3 ∨ d = 4 ∨ d = 5 ∨ d = 6 := by omega
  rcases this with rfl | rfl | rfl | rfl | rfl | rfl | rfl <;> cases and <;> decide +kernel
theorem gad_outs (and : Bool) (d : Nat) (h : d ≤ 6) : (gadC and d).outs.length = d + 1 := by
  have : d = 0 ∨ d = 1 ∨ d = 2 ∨ d = 3 ∨ d = 4 ∨ d = 5 ∨ d = 6 := by omega
  rcases this with rfl | rfl | rfl | rfl | rfl | rfl | rfl <;> cases and <;> decide +kernel
theorem xorL_append (a b : List (BitVec 32)) : xorL (a ++ b) = xorL a ^^^ xorL b := by
  have key : ∀ (l : List (BitVec 32)) (x : BitVec 32), l.foldl (· ^^^ ·) x = x ^^^ l.foldl (· ^^^ ·) 0#32 := by
    intro l
    induction l with
    | nil => intro x; simp
    | cons y l ih => intro x; rw [List.foldl_cons, ih, List.foldl_cons, ih (0#32 ^^^ y), BitVec.zero_xor, BitVec.xor_assoc]
  unfold xorL
  rw [List.foldl_append, key b]
@[simp] theorem xorL_nil : xorL [] = 0#32 := rfl
theorem xorL_cons (x : BitVec 32) (l : List (BitVec 32)) : xorL (x :: l) = x ^^^ xorL l := by
  have := xorL_append [x] l
  simpa [xorL] using this
end Go.Abs

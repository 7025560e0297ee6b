/-
  What an instruction reads, and that what it sets hangs on that alone: in plain Lean.
-/
import Derived.Test.YteohnepdbjmghaaC7a
set_option linter.unusedSimpArgs false
set_option linter.unusedVariables false
namespace Go.Abs
open Th
def rdD (i : InsM) : Bool := decide (1 ≤ i.op ∧ i.op ≤ 3) || decide (i.op = 13) || decide (i.op = 15) || decide (i.op = 11 ∧ i.imm ≠ 9 ∧ i.imm ≠ 15)
def rdN (i : InsM) : Bool := decide (7 ≤ i.op ∧ i.op ≤ 10) || decide (12 ≤ i.op ∧ i.op ≤ 15)
def rdM (i : InsM) : Bool := decide (4 ≤ i.op ∧ i.op ≤ 8) || decide (i.op = 11) || decide (i.op = 14) || decide (i.op = 15)
def readB (i : InsM) (r : Nat) : Bool := i.can && (rdD i && decide (i.d = r) || rdN i && decide (i.n = r) || rdM i && decide (i.m = r))
structure Agree (i : InsM) (a b : StM) : Prop where
  pc : a.pc = b.pc
  n : a.n = b.n
  z : a.z = b.z
  c : a.c = b.c
  v : a.v = b.v
  reg : ∀ r, r < 8 → readB i r = true → a.reg r = b.reg r
structure OneOk (i : InsM) (a b : StM) (x y : Did) : Prop where
  e : x.e = y.e
  pc : x.s.pc = y.s.pc
  words : x.m.words = y.m.words
  set : ∀ r : Nat, r < 8 → (writesM i).2 = true → (writesM i).1 = (r : Nat) → x.e = 0 → x.s.reg r = y.s.reg r
  rest : ∀ r : Nat, r < 8 → ¬ ((writesM i).2 = true ∧ (writesM i).1 = (r : Nat) ∧ x.e = 0) → x.s.reg r = a.reg r ∧ y.s.reg r = b.reg r
end Go.Abs

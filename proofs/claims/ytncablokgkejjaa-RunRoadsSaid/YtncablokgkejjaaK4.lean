/-
  What an instruction leaks: the document's step. Printed by genk4.py.
-/
import Derived.Test.YtncablokgkejjaaK2
import Derived.Test.YtncablokgkejjaaCD
set_option linter.unusedSimpArgs false
set_option linter.unusedVariables false
namespace Go.Abs
open Th
structure LCtx (B : AHeap) (b cb wb tb : Nat) (m : MemM) (s : StM) (r : Did) (h : BitVec 16) : Prop where
  bus : ∀ B' : AHeap, (B'.rmem b cb wb tb m).get b = some (rBlk cb wb tb m)
  step : ∀ B' : AHeap, B'.WF → B.next ≤ B'.next → (∀ c, c < B.next → B'.get c = B.get c) → ref06_Step.spec [.agg s.cells, .ptr b 5 0 0] (B'.rmem b cb wb tb m) = some (DidAV r, B'.rmem b cb wb tb r.m)
  fetch : ∀ B' : AHeap, B'.WF → B.next ≤ B'.next → (∀ c, c < B.next → B'.get c = B.get c) → ref05_Mem_Fetch.spec [.ptr b 5 0 0, W32 s.pc] (B'.rmem b cb wb tb r.m) = some (.tup [W16 h, .int .i64 0], B'.rmem b cb wb tb r.m)
end Go.Abs

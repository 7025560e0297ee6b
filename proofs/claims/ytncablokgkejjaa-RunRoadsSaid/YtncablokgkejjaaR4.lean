/-
  What code comes to: a round of the document's run. Printed by genr4.py.
-/
import Derived.Test.YtncablokgkejjaaR3
import Derived.Test.YtncablokgkejjaaK4
import Derived.Test.YtncablokgkejjaaRrF
set_option linter.unusedSimpArgs false
set_option linter.unusedVariables false
namespace Go.Abs
open Th
theorem RFix.keep {H H' : AHeap} {b cb wb tb : Nat} {m : MemM} (h : RFix H b cb wb tb m) (hn : H.next ≤ H'.next) (hc : H'.get cb = H.get cb) (ht : H'.get tb = H.get tb) : RFix H' b cb wb tb m :=
  ⟨fun q => by rw [hc]; exact h.code q, by rw [ht]; exact h.tape, Nat.lt_of_lt_of_le h.hb hn, Nat.lt_of_lt_of_le h.hwb hn, h.bw, h.bc, h.bt, h.wc, h.wt⟩
structure Far (b cb wb tb so oo : Nat) : Prop where
  s0 : so ≠ 0
  s1 : so ≠ b
  s2 : so ≠ cb
  s3 : so ≠ wb
  s4 : so ≠ tb
  s5 : so ≠ oo
  o0 : oo ≠ 0
  o1 : oo ≠ b
  o2 : oo ≠ cb
  o3 : oo ≠ wb
  o4 : oo ≠ tb
  z1 : b ≠ 0
  z2 : cb ≠ 0
  z3 : wb ≠ 0
  z4 : tb ≠ 0
structure RI (B : AHeap) (b cb wb tb so oo : Nat) (m : MemM) (k : Nat) (e : Int) (ls : List LeakM) : Prop where
  wf : B.WF
  fix : RFix B b cb wb tb m
  lc : cb < B.next
  ns : so < B.next
  no : oo < B.next
  fst : B.get 0 = some (outB 0 0 0 .nils .nils true)
  out : ∃ c fl, B.get oo = some (outB k 0 e .nils (lAV c ls) fl) ∧ (ls ≠ [] → c ≠ 0 ∧ c ≠ b ∧ c ≠ cb ∧ c ≠ wb ∧ c ≠ tb ∧ c ≠ so ∧ c ≠ oo ∧ B.get c = some ⟨T.ty_api_Leak, 10, true, lrows ls⟩)
end Go.Abs

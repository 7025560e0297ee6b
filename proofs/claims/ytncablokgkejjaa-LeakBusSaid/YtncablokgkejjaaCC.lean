import Derived.Test.YtncablokgkejjaaC4
import Derived.Test.YtncablokgkejjaaW1
import Derived.Test.YtncablokgkejjaaLoF
import Derived.Test.YtncablokgkejjaaM5
import Derived.Test.YtncablokgkejjaaT6
import Derived.Test.YtncablokgkejjaaCrF
import Derived.Test.YtncablokgkejjaaCA
import Derived.KernelRfl
section
set_option linter.unusedSimpArgs false
set_option linter.unusedVariables false
namespace Go.Abs
open Th
theorem RFix.more {B B' : AHeap} {b cb wb tb : Nat} {m m' : MemM} (h : RFix B b cb wb tb m) (hw : B.WF) (hn : B.next ≤ B'.next) (hg : ∀ c, c < B.next → B'.get c = B.get c) (hc : m'.code = m.code) (ht : m'.tape = m.tape) : RFix B' b cb wb tb m' := by
  have h1 := h.hb; have h2 := h.hwb
  refine ⟨fun q => ?_, ?_, by omega, by omega, h.bw, h.bc, h.bt, h.wc, h.wt⟩
  · rw [hc] at q ⊢
    rw [hg cb (hw _ _ (h.code q))]; exact h.code q
  · rw [ht, hg tb (hw _ _ h.tape)]; exact h.tape
end Go.Abs
end
section
set_option linter.unusedSimpArgs false
set_option linter.unusedVariables false
namespace Go.Abs
open Th
structure RCtx (B : AHeap) (b cb wb tb : Nat) (m : MemM) : Prop where
  wf : B.WF
  fix : RFix B b cb wb tb m
  ok : m.Ok
end Go.Abs
end

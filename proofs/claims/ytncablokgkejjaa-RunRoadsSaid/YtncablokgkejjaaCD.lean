import Derived.Test.YtncablokgkejjaaCC
import Derived.Test.YtncablokgkejjaaC7a
import Derived.Test.YtncablokgkejjaaM6
import Derived.Test.YtncablokgkejjaaCA
section
set_option linter.unusedSimpArgs false
set_option linter.unusedVariables false
end
section
set_option linter.unusedSimpArgs false
set_option linter.unusedVariables false
namespace Go.Abs
open Th
theorem TwoOk.more {B B' : AHeap} {I : Ids} {r : MemM} (h : TwoOk B I r) (hw : B'.WF) (hn : B.next ≤ B'.next) (hg : ∀ c, c < B.next → B'.get c = B.get c) : TwoOk B' I r :=
  { h with wf := hw, hb := Nat.lt_of_lt_of_le h.hb hn, hwb := Nat.lt_of_lt_of_le h.hwb hn, fix := h.fix.more h.wf hn hg rfl rfl }
end Go.Abs
end

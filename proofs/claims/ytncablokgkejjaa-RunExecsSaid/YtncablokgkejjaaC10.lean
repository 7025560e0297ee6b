/-
  The law of any code, step by step. Printed by genc10.py.
-/
import Derived.Test.YtncablokgkejjaaC7a
import Derived.Test.YtncablokgkejjaaCA
import Derived.Test.YtncablokgkejjaaLoF
import Derived.Test.YtncablokgkejjaaCoF
import Derived.Test.YtncablokgkejjaaCrF
import Derived.Test.YtncablokgkejjaaCD
set_option linter.unusedSimpArgs false
set_option linter.unusedVariables false
namespace Go.Abs
open Th
def stBlk (s : StM) : Blk := ⟨T.ty_api_State, 13, true, [s.cells]⟩
structure Apart (I : Ids) (s : Nat) : Prop where
  b : s ≠ I.b
  wb : s ≠ I.wb
  rb : s ≠ I.rb
  rw : s ≠ I.rw
  cb : s ≠ I.cb
  tb : s ≠ I.tb
end Go.Abs

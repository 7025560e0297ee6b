/-
  Instructions and their halfwords: the document's Take.
-/
import Derived.Test.YtncablokgkejjaaT5
set_option linter.unusedSimpArgs false
set_option linter.unusedVariables false
namespace Go.Abs
open Th
structure TkB (st : TakeS) (P : Nat) : Prop where
  x : st.x < 65536
  d : st.d < P
  n : st.n < P
  m : st.m < P
  imm : st.imm < P
  wide : st.wide ≤ P
end Go.Abs

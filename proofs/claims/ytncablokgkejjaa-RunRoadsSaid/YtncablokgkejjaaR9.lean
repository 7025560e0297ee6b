/-
  The laws of runs: a greater limit; a longer tape.
-/
import Derived.Test.YtncablokgkejjaaR8
set_option linter.unusedSimpArgs false
set_option linter.unusedVariables false
namespace Go.Abs
open Th
def MemM.ext (m : MemM) (more : List (BitVec 32)) : MemM := { m with tape := m.tape ++ more }
def Did.ext (r : Did) (more : List (BitVec 32)) : Did := { r with m := r.m.ext more }
end Go.Abs

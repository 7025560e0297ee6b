/-
  What is counted: bits, what comes in, what probes are; in plain Lean.
-/
import Derived.Test.YthignlpdeaglaaaI1
set_option linter.unusedSimpArgs false
set_option linter.unusedVariables false
namespace Go.Abs
def xorL (l : List (BitVec 32)) : BitVec 32 := l.foldl (· ^^^ ·) 0#32
structure AskM where
  c : CodeM
  secrets : Nat
  d : Nat
namespace AskM
variable (q : AskM)
end AskM
end Go.Abs

/-
  Instructions and their halfwords: what the program's functions do. Printed by gent1.py.
-/
import Derived.Test.YteohnepdbjmghaaThM
import Derived.Test.YteohnepdbjmghaaLoF
set_option linter.unusedSimpArgs false
set_option linter.unusedVariables false
namespace Go.Abs
open Th
def InsAV (i : InsM) : AV := .agg [.int .i64 i.op, .int .i64 i.d, .int .i64 i.n, .int .i64 i.m, .int .i64 i.imm]
end Go.Abs

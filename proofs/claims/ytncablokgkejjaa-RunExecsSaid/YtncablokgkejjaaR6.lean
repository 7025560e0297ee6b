/-
  What runs are told by: the program's calls, equality of outcomes, cases.
-/
import Derived.Test.YtncablokgkejjaaR3
import Derived.Test.YtncablokgkejjaaM5
import Derived.Test.YtncablokgkejjaaRrF
import Derived.Test.YtncablokgkejjaaL08F
set_option linter.unusedSimpArgs false
set_option linter.unusedVariables false
namespace Go.Abs
open Th
theorem Exec_eq (code : List (BitVec 16)) (words tape : List (BitVec 32)) (lim : Int) (hc : code.length ≤ 1000000000) (hw : words.length ≤ 16000) (ht : tape.length ≤ 1000000000) :
    run_Exec.spec [.rsl 1 (w16s code), .rsl 1 (w32s words), .rsl 1 (w32s tape), .int .i64 lim] = some (outAV (goL (min (max lim 0) 1048576).toNat s00 (startM code words tape)) true) := by
  have h := goes_eq code words tape lim true hc hw ht
  generalize goL (min (max lim 0) 1048576).toNat s00 (startM code words tape) = R at *
  unfold outAV at h ⊢
  simp -implicitDefEqProofs +contextual (disch := omega) [run_Exec.spec, run_Exec, h]
theorem Quick_eq (code : List (BitVec 16)) (words tape : List (BitVec 32)) (lim : Int) (hc : code.length ≤ 1000000000) (hw : words.length ≤ 16000) (ht : tape.length ≤ 1000000000) :
    run_Quick.spec [.rsl 1 (w16s code), .rsl 1 (w32s words), .rsl 1 (w32s tape), .int .i64 lim] = some (outAV (goL (min (max lim 0) 1048576).toNat s00 (startM code words tape)) false) := by
  have h := goes_eq code words tape lim false hc hw ht
  generalize goL (min (max lim 0) 1048576).toNat s00 (startM code words tape) = R at *
  unfold outAV at h ⊢
  simp -implicitDefEqProofs +contextual (disch := omega) [run_Quick.spec, run_Quick, h]
def caseAV (c : List (BitVec 16)) (w t : List (BitVec 32)) : AV := .agg [.rsl 1 (w16s c), .rsl 1 (w32s w), .rsl 1 (w32s t)]
theorem small_eq (c : List (BitVec 16)) (w t : List (BitVec 32)) : law08_small.spec [caseAV c w t] = some (caseAV (c.take 100) (w.take 30) (t.take 50)) := by
  unfold caseAV
  by_cases h1 : 100 < (c.length : Int) <;> by_cases h2 : 30 < (w.length : Int) <;> by_cases h3 : 50 < (t.length : Int)
  all_goals
    simp -implicitDefEqProofs +contextual (disch := omega) [law08_small.spec, law08_small, h1, h2, h3, w32s_take, w16s_take, List.take_take, List.take_of_length_le]
theorem few_eq (n : Int) : law08_few.spec [.int .i64 n] = some (.int .i64 (min n 300)) := by
  by_cases h : 300 < n
  · have e : min n 300 = 300 := by omega
    simp -implicitDefEqProofs +contextual (disch := omega) [law08_few.spec, law08_few, h, e]
  · have e : min n 300 = n := by omega
    simp -implicitDefEqProofs +contextual (disch := omega) [law08_few.spec, law08_few, h, e]
end Go.Abs

/-
  The laws of runs: what comes of any code; bounds.
-/
import Derived.Test.YtncablokgkejjaaR7
import Derived.Test.YtncablokgkejjaaR4
set_option linter.unusedSimpArgs false
set_option linter.unusedVariables false
namespace Go.Abs
open Th
theorem sh_case {cs : List AV} (h : ShsOk [.sl 1 2 [.int .u16], .sl 1 4 [.int .u32], .sl 1 4 [.int .u32]] cs) : ∃ c w t, AV.agg cs = caseAV c w t := by
  obtain ⟨a0, _, rfl, q0, h⟩ := shs_cons h
  obtain ⟨a1, _, rfl, q1, h⟩ := shs_cons h
  obtain ⟨a2, rfl, q2⟩ := shs_one h
  obtain ⟨x0, rfl, _⟩ := sh_sl16 q0
  obtain ⟨x1, rfl, _⟩ := sh_sl32 q1
  obtain ⟨x2, rfl, _⟩ := sh_sl32 q2
  exact ⟨x0, x1, x2, rfl⟩
end Go.Abs

/-
  The law of what each instruction does, over any memory: the whole.
-/
import Derived.Test.YtncablokgkejjaaC12
import Derived.Test.YtncablokgkejjaaC10
set_option linter.unusedSimpArgs false
set_option linter.unusedVariables false
namespace Go.Abs
open Th
theorem stBlk_def (s : StM) : stBlk s = ⟨T.ty_api_State, 13, true, [s.cells]⟩ := rfl
theorem sh_ins {cs : List AV} (h : ShsOk [.int .i64, .int .i64, .int .i64, .int .i64, .int .i64] cs) : ∃ i : InsM, AV.agg cs = InsAV i := by
  obtain ⟨a0, _, rfl, q0, h⟩ := shs_cons h
  obtain ⟨a1, _, rfl, q1, h⟩ := shs_cons h
  obtain ⟨a2, _, rfl, q2, h⟩ := shs_cons h
  obtain ⟨a3, _, rfl, q3, h⟩ := shs_cons h
  obtain ⟨a4, rfl, q4⟩ := shs_one h
  obtain ⟨x0, rfl, _⟩ := sh_i64 q0
  obtain ⟨x1, rfl, _⟩ := sh_i64 q1
  obtain ⟨x2, rfl, _⟩ := sh_i64 q2
  obtain ⟨x3, rfl, _⟩ := sh_i64 q3
  obtain ⟨x4, rfl, _⟩ := sh_i64 q4
  exact ⟨⟨x0, x1, x2, x3, x4⟩, rfl⟩
theorem sh_four {cs : List AV} (h : ShsOk [.int .u32, .int .u32, .int .u32, .int .u32] cs) : ∃ w0 w1 w2 w3, cs = [W32 w0, W32 w1, W32 w2, W32 w3] := by
  obtain ⟨a0, _, rfl, q0, h⟩ := shs_cons h
  obtain ⟨a1, _, rfl, q1, h⟩ := shs_cons h
  obtain ⟨a2, _, rfl, q2, h⟩ := shs_cons h
  obtain ⟨a3, rfl, q3⟩ := shs_one h
  obtain ⟨x0, rfl⟩ := sh_u32 q0
  obtain ⟨x1, rfl⟩ := sh_u32 q1
  obtain ⟨x2, rfl⟩ := sh_u32 q2
  obtain ⟨x3, rfl⟩ := sh_u32 q3
  exact ⟨x0, x1, x2, x3, rfl⟩
end Go.Abs

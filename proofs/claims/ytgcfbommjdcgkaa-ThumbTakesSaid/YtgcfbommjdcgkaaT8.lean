/-
  The laws of halfwords, over all arguments.
-/
import Derived.Test.YtgcfbommjdcgkaaT7
set_option linter.unusedSimpArgs false
set_option linter.unusedVariables false
namespace Go.Abs
open Th
theorem sh_ins {cs : List AV} (h : ShsOk [.int .i64, .int .i64, .int .i64, .int .i64, .int .i64] cs) : ∃ i : InsM, AV.agg cs = InsAV i ∧ I64 i.op ∧ I64 i.d ∧ I64 i.n ∧ I64 i.m ∧ I64 i.imm := by
  obtain ⟨a, _, rfl, q1, h⟩ := shs_cons h
  obtain ⟨b, _, rfl, q2, h⟩ := shs_cons h
  obtain ⟨c, _, rfl, q3, h⟩ := shs_cons h
  obtain ⟨d, _, rfl, q4, h⟩ := shs_cons h
  obtain ⟨e, rfl, q5⟩ := shs_one h
  obtain ⟨x1, rfl, y1⟩ := sh_i64 q1
  obtain ⟨x2, rfl, y2⟩ := sh_i64 q2
  obtain ⟨x3, rfl, y3⟩ := sh_i64 q3
  obtain ⟨x4, rfl, y4⟩ := sh_i64 q4
  obtain ⟨x5, rfl, y5⟩ := sh_i64 q5
  exact ⟨⟨x1, x2, x3, x4, x5⟩, rfl, y1, y2, y3, y4, y5⟩
theorem law02_ThumbOne_law (args : List AV) (h : ArgsSh [(true, [.int .i64, .int .i64, .int .i64, .int .i64, .int .i64]), (true, [.int .i64, .int .i64, .int .i64, .int .i64, .int .i64])] args) : law02_ThumbOne.spec args = some (.bool true) := by
  obtain ⟨a, _, rfl, h1, h⟩ := args_agg h
  obtain ⟨b, _, rfl, h2, h⟩ := args_agg h
  obtain rfl := args_nil h
  obtain ⟨i, e1, _⟩ := sh_ins h1
  obtain ⟨j, e2, _⟩ := sh_ins h2
  rw [e1, e2]; exact thumbOne_law i j
theorem law02_ThumbPuts_law (args : List AV) (h : ArgsSh [(true, [.int .i64, .int .i64, .int .i64, .int .i64, .int .i64])] args) : law02_ThumbPuts.spec args = some (.bool true) := by
  obtain ⟨a, _, rfl, h1, h⟩ := args_agg h
  obtain rfl := args_nil h
  obtain ⟨i, e1, _⟩ := sh_ins h1
  rw [e1]; exact thumbPuts_law i
theorem law02_ThumbTakes_law (args : List AV) (h : ArgsSh [(false, [.int .u16])] args) : law02_ThumbTakes.spec args = some (.bool true) := by
  obtain ⟨a, _, rfl, h1, h⟩ := args_one h
  obtain rfl := args_nil h
  obtain ⟨x, rfl⟩ := sh_u16 h1.1
  exact thumbTakes_law x
end Go.Abs

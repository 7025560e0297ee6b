/-
  The shape of a state; that the core lives.
-/
import Derived.Test.YtncablokgkejjaaC7a
import Derived.Test.YtncablokgkejjaaC8c
import Derived.Test.YtncablokgkejjaaLoF
import Derived.Test.YtncablokgkejjaaCoF
import Derived.Test.YtncablokgkejjaaCrF
set_option linter.unusedSimpArgs false
set_option linter.unusedVariables false
namespace Go.Abs
open Th
theorem sh_state {cs : List AV} (h : ShsOk [.int .u32, .int .u32, .int .u32, .int .u32, .int .u32, .int .u32, .int .u32, .int .u32, .int .u32, .bool, .bool, .bool, .bool] cs) : ∃ s : StM, cs = s.cells := by
  obtain ⟨a0, _, rfl, q0, h⟩ := shs_cons h
  obtain ⟨a1, _, rfl, q1, h⟩ := shs_cons h
  obtain ⟨a2, _, rfl, q2, h⟩ := shs_cons h
  obtain ⟨a3, _, rfl, q3, h⟩ := shs_cons h
  obtain ⟨a4, _, rfl, q4, h⟩ := shs_cons h
  obtain ⟨a5, _, rfl, q5, h⟩ := shs_cons h
  obtain ⟨a6, _, rfl, q6, h⟩ := shs_cons h
  obtain ⟨a7, _, rfl, q7, h⟩ := shs_cons h
  obtain ⟨a8, _, rfl, q8, h⟩ := shs_cons h
  obtain ⟨a9, _, rfl, q9, h⟩ := shs_cons h
  obtain ⟨a10, _, rfl, q10, h⟩ := shs_cons h
  obtain ⟨a11, _, rfl, q11, h⟩ := shs_cons h
  obtain ⟨a12, rfl, q12⟩ := shs_one h
  obtain ⟨x0, rfl⟩ := sh_u32 q0
  obtain ⟨x1, rfl⟩ := sh_u32 q1
  obtain ⟨x2, rfl⟩ := sh_u32 q2
  obtain ⟨x3, rfl⟩ := sh_u32 q3
  obtain ⟨x4, rfl⟩ := sh_u32 q4
  obtain ⟨x5, rfl⟩ := sh_u32 q5
  obtain ⟨x6, rfl⟩ := sh_u32 q6
  obtain ⟨x7, rfl⟩ := sh_u32 q7
  obtain ⟨x8, rfl⟩ := sh_u32 q8
  obtain ⟨y9, rfl⟩ := sh_bool q9
  obtain ⟨y10, rfl⟩ := sh_bool q10
  obtain ⟨y11, rfl⟩ := sh_bool q11
  obtain ⟨y12, rfl⟩ := sh_bool q12
  exact ⟨⟨[x0, x1, x2, x3, x4, x5, x6, x7], rfl, x8, y9, y10, y11, y12⟩, rfl⟩
end Go.Abs

/-
  The shape of a state; that the core lives.
-/
import Derived.Test.YteohnepdbjmghaaC7a
import Derived.Test.YteohnepdbjmghaaCA
import Derived.Test.YteohnepdbjmghaaL06F
set_option linter.unusedSimpArgs false
set_option linter.unusedVariables false
namespace Go.Abs
open Th
theorem sh_state {cs : List AV} (h : ShsOk [.int .u32, .int .u32, .int .u32, .int .u32, .int .u32, .int .u32, .int .u32, .int .u32, .int .u32, .bool, .bool, .bool, .bool] cs) : ∃ s : StM, cs = s.cells := by
  obtain ⟨a0, _, rfl, q0, h⟩ := shs_cons h
  obtain ⟨a1, _, rfl, q1, h⟩ := shs_cons h
  obtain ⟨a2, _, rfl, q2, h⟩ := shs_cons h
  obtain ⟨a3, _, rfl, q3, h⟩ := shs_cons h
  obtain ⟨a4, _, rfl, q4, h⟩ := shs_cons h
  obtain ⟨a5, _, rfl, q5, h⟩ := shs_cons h
  obtain ⟨a6, _, rfl, q6, h⟩ := shs_cons h
  obtain ⟨a7, _, rfl, q7, h⟩ := shs_cons h
  obtain ⟨a8, _, rfl, q8, h⟩ := shs_cons h
  obtain ⟨a9, _, rfl, q9, h⟩ := shs_cons h
  obtain ⟨a10, _, rfl, q10, h⟩ := shs_cons h
  obtain ⟨a11, _, rfl, q11, h⟩ := shs_cons h
  obtain ⟨a12, rfl, q12⟩ := shs_one h
  obtain ⟨x0, rfl⟩ := sh_u32 q0
  obtain ⟨x1, rfl⟩ := sh_u32 q1
  obtain ⟨x2, rfl⟩ := sh_u32 q2
  obtain ⟨x3, rfl⟩ := sh_u32 q3
  obtain ⟨x4, rfl⟩ := sh_u32 q4
  obtain ⟨x5, rfl⟩ := sh_u32 q5
  obtain ⟨x6, rfl⟩ := sh_u32 q6
  obtain ⟨x7, rfl⟩ := sh_u32 q7
  obtain ⟨x8, rfl⟩ := sh_u32 q8
  obtain ⟨y9, rfl⟩ := sh_bool q9
  obtain ⟨y10, rfl⟩ := sh_bool q10
  obtain ⟨y11, rfl⟩ := sh_bool q11
  obtain ⟨y12, rfl⟩ := sh_bool q12
  exact ⟨⟨[x0, x1, x2, x3, x4, x5, x6, x7], rfl, x8, y9, y10, y11, y12⟩, rfl⟩
def s06 : StM := ⟨[4294967295#32, 0#32, 0#32, 0#32, 0#32, 0#32, 0#32, 0#32], rfl, 0#32, false, false, false, false⟩
def m06 : MemM := ⟨[12289#16], [0#32], [], 0, 0#32⟩
theorem did06 : (stepM s06 m06).s.reg 0 = 0#32 ∧ (stepM s06 m06).s.z = true ∧ (stepM s06 m06).s.c = true ∧ (stepM s06 m06).s.pc = 2#32 ∧ (stepM s06 m06).stop = false ∧ (stepM s06 m06).e = 0 := by decide +kernel
theorem lives06 : law06_lives.spec [] = some (.bool true) := by
  obtain ⟨X, x1, x2, hn, _⟩ := new_ex ((AHeap.empty.push { e := T.ty_uint16, sz := 1, flat := true, rows := [[W16 12289#16]] }).killAll [0]) [12289#16] [] 1 (killAll_wf (AHeap.WF.push AHeap.WF.empty) _) (by simp) (by simp)
  rw [show MemM.new [12289#16] 1 [] = m06 from rfl] at hn
  simp only [next_killAll, AHeap.next_push, empty_next, w32s, w16s, List.map_cons, List.map_nil, Nat.zero_add, Nat.reduceAdd] at hn x2
  have hS := Step_eq X 2 1 m06 x1 (by omega) (by omega) (by omega) ⟨by decide, by decide, by decide, by decide⟩ s06
  obtain ⟨d1, d2, d3, d4, d5, d6⟩ := did06
  unfold DidAV at hS
  rw [d5, d6] at hS
  generalize (stepM s06 m06).s = t at *
  generalize (stepM s06 m06).m = m' at *
  have e : s06.cells = [W32 4294967295#32, W32 0#32, W32 0#32, W32 0#32, W32 0#32, W32 0#32, W32 0#32, W32 0#32, W32 0#32, .bool false, .bool false, .bool false, .bool false] := rfl
  rw [e] at hS
  simp -implicitDefEqProofs +contextual (disch := omega) [law06_lives.spec, law06_lives, hn, hS, d1, d2, d3, d4]
end Go.Abs

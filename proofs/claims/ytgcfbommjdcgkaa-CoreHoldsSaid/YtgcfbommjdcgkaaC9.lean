/-
  The laws of what instructions do: conditions; any code, step by step.
-/
import Derived.Test.YtgcfbommjdcgkaaC7a
import Derived.Test.YtgcfbommjdcgkaaC8c
import Derived.Test.YtgcfbommjdcgkaaC5h
import Derived.Test.YtgcfbommjdcgkaaL06F
set_option linter.unusedSimpArgs false
set_option linter.unusedVariables false
namespace Go.Abs
open Th
theorem sh_state {cs : List AV} (h : ShsOk [.int .u32, .int .u32, .int .u32, .int .u32, .int .u32, .int .u32, .int .u32, .int .u32, .int .u32, .bool, .bool, .bool, .bool] cs) : ∃ s : StM, cs = s.cells := by
  obtain ⟨a0, _, rfl, q0, h⟩ := shs_cons h
  obtain ⟨a1, _, rfl, q1, h⟩ := shs_cons h
  obtain ⟨a2, _, rfl, q2, h⟩ := shs_cons h
  obtain ⟨a3, _, rfl, q3, h⟩ := shs_cons h
  obtain ⟨a4, _, rfl, q4, h⟩ := shs_cons h
  obtain ⟨a5, _, rfl, q5, h⟩ := shs_cons h
  obtain ⟨a6, _, rfl, q6, h⟩ := shs_cons h
  obtain ⟨a7, _, rfl, q7, h⟩ := shs_cons h
  obtain ⟨a8, _, rfl, q8, h⟩ := shs_cons h
  obtain ⟨a9, _, rfl, q9, h⟩ := shs_cons h
  obtain ⟨a10, _, rfl, q10, h⟩ := shs_cons h
  obtain ⟨a11, _, rfl, q11, h⟩ := shs_cons h
  obtain ⟨a12, rfl, q12⟩ := shs_one h
  obtain ⟨x0, rfl⟩ := sh_u32 q0
  obtain ⟨x1, rfl⟩ := sh_u32 q1
  obtain ⟨x2, rfl⟩ := sh_u32 q2
  obtain ⟨x3, rfl⟩ := sh_u32 q3
  obtain ⟨x4, rfl⟩ := sh_u32 q4
  obtain ⟨x5, rfl⟩ := sh_u32 q5
  obtain ⟨x6, rfl⟩ := sh_u32 q6
  obtain ⟨x7, rfl⟩ := sh_u32 q7
  obtain ⟨x8, rfl⟩ := sh_u32 q8
  obtain ⟨y9, rfl⟩ := sh_bool q9
  obtain ⟨y10, rfl⟩ := sh_bool q10
  obtain ⟨y11, rfl⟩ := sh_bool q11
  obtain ⟨y12, rfl⟩ := sh_bool q12
  exact ⟨⟨[x0, x1, x2, x3, x4, x5, x6, x7], rfl, x8, y9, y10, y11, y12⟩, rfl⟩
def s06 : StM := ⟨[4294967295#32, 0#32, 0#32, 0#32, 0#32, 0#32, 0#32, 0#32], rfl, 0#32, false, false, false, false⟩
def m06 : MemM := ⟨[12289#16], [0#32], [], 0, 0#32⟩
theorem did06 : (stepM s06 m06).s.reg 0 = 0#32 ∧ (stepM s06 m06).s.z = true ∧ (stepM s06 m06).s.c = true ∧ (stepM s06 m06).s.pc = 2#32 ∧ (stepM s06 m06).stop = false ∧ (stepM s06 m06).e = 0 := by decide +kernel
theorem lives06 : law06_lives.spec [] = some (.bool true) := by
  obtain ⟨X, x1, x2, hn, _⟩ := new_ex ((AHeap.empty.push { e := T.ty_uint16, sz := 1, flat := true, rows := [[W16 12289#16]] }).killAll [0]) [12289#16] [] 1 (killAll_wf (AHeap.WF.push AHeap.WF.empty) _) (by simp) (by simp)
  rw [show MemM.new [12289#16] 1 [] = m06 from rfl] at hn
  simp only [next_killAll, AHeap.next_push, empty_next, w32s, w16s, List.map_cons, List.map_nil, Nat.zero_add, Nat.reduceAdd] at hn x2
  have hS := Step_eq X 2 1 m06 x1 (by omega) (by omega) (by omega) ⟨by decide, by decide, by decide, by decide⟩ s06
  obtain ⟨d1, d2, d3, d4, d5, d6⟩ := did06
  unfold DidAV at hS
  rw [d5, d6] at hS
  generalize (stepM s06 m06).s = t at *
  generalize (stepM s06 m06).m = m' at *
  have e : s06.cells = [W32 4294967295#32, W32 0#32, W32 0#32, W32 0#32, W32 0#32, W32 0#32, W32 0#32, W32 0#32, W32 0#32, .bool false, .bool false, .bool false, .bool false] := rfl
  rw [e] at hS
  simp -implicitDefEqProofs +contextual (disch := omega) [law06_lives.spec, law06_lives, hn, hS, d1, d2, d3, d4]
theorem Holds_eq (c : Int) (s : StM) : core_Holds.spec [.int .i64 c, .agg s.cells] = some (.bool (decide (0 ≤ c) && decide (c ≤ 13) && holdsN c.toNat s)) := by
  by_cases h0 : 0 ≤ c
  · by_cases h1 : c ≤ 13
    · obtain ⟨k, rfl⟩ : ∃ k : Nat, c = k := ⟨c.toNat, by omega⟩
      have hH := holds_eq k (by omega) s
      have h2 : (k : Int) < 14 := by omega
      simp -implicitDefEqProofs +contextual (disch := omega) [core_Holds.spec, core_Holds, hH, h1, h2]
    · have h2 : ¬ c < 14 := by omega
      simp -implicitDefEqProofs +contextual (disch := omega) [core_Holds.spec, core_Holds, h0, h1, h2]
  · simp -implicitDefEqProofs +contextual (disch := omega) [core_Holds.spec, core_Holds, h0]
theorem rHolds_eq (c : Int) (s : StM) : ref06_Holds.spec [.int .i64 c, .agg s.cells] = some (.bool (decide (0 ≤ c) && decide (c ≤ 13) && holdsN c.toNat s)) := by
  by_cases h : 0 ≤ c ∧ c ≤ 13
  · obtain ⟨k, rfl⟩ : ∃ k : Nat, c = k := ⟨c.toNat, by omega⟩
    rw [rholds_eq k (by omega) s]
    simp [h.2]
  · have h2 : c < 0 ∨ 13 < c := by omega
    have h3 : (decide (0 ≤ c) && decide (c ≤ 13) && holdsN c.toNat s) = false := by
      rw [Bool.and_eq_false_iff]; left
      rw [Bool.and_eq_false_iff, decide_eq_false_iff_not, decide_eq_false_iff_not]; omega
    rw [h3]
    simp -implicitDefEqProofs +contextual (disch := omega) [ref06_Holds.spec, ref06_Holds, h2]
theorem Flags_eq (s : StM) (w : BitVec 32) : core_Flags.spec [.agg s.cells, W32 w] = some (.agg (flagsM s w).cells) := by
  have h := flags_eq s w
  simp -implicitDefEqProofs +contextual (disch := omega) [core_Flags.spec, core_Flags, h]
theorem coreHolds_law (c : Int) (s : StM) (w : BitVec 32) : law06_CoreHolds.spec [.int .i64 c, .agg s.cells, W32 w] = some (.bool true) := by
  have h1 := Holds_eq c s; have h2 := rHolds_eq c s; have h3 := Flags_eq s w; have h4 := rFlags_eq s w
  have h5 := sm_ceqs (flagsM s w) (flagsM s w)
  simp -implicitDefEqProofs +contextual (disch := omega) [law06_CoreHolds.spec, law06_CoreHolds, h1, h2, h3, h4, h5, lives06]
theorem law06_CoreHolds_law (args : List AV) (h : ArgsSh [(false, [.int .i64]), (true, [.int .u32, .int .u32, .int .u32, .int .u32, .int .u32, .int .u32, .int .u32, .int .u32, .int .u32, .bool, .bool, .bool, .bool]), (false, [.int .u32])] args) : law06_CoreHolds.spec args = some (.bool true) := by
  obtain ⟨a, _, rfl, h1, h⟩ := args_one h
  obtain ⟨b, _, rfl, h2, h⟩ := args_agg h
  obtain ⟨c, _, rfl, h3, h⟩ := args_one h
  obtain rfl := args_nil h
  obtain ⟨x, rfl, _⟩ := sh_i64 h1.1
  obtain ⟨s, rfl⟩ := sh_state h2
  obtain ⟨z, rfl⟩ := sh_u32 h3.1
  exact coreHolds_law x s z
end Go.Abs

/-
  The laws of what instructions leak: a leak's parts.
-/
import Derived.Test.YtncablokgkejjaaK2
import Derived.Test.YtncablokgkejjaaL07F
set_option linter.unusedSimpArgs false
set_option linter.unusedVariables false
namespace Go.Abs
open Th
def s07 : StM := ⟨[7#32, 0#32, 0#32, 0#32, 0#32, 0#32, 0#32, 0#32], rfl, 0#32, false, false, false, false⟩
def m07 : MemM := ⟨[8197#16], [0#32], [], 0, 0#32⟩
theorem did07 : (leakM s07 m07).b = 5#32 ∧ (leakM s07 m07).r = 5#32 ∧ (leakM s07 m07).old = 7#32 ∧ (leakM s07 m07).code = 8197#16 ∧ (stepM s07 m07).e = 0 := by decide +kernel
theorem lives07 : law07_lives.spec [] = some (.bool true) := by
  obtain ⟨X, x1, x2, hn, _⟩ := new_ex ((AHeap.empty.push { e := T.ty_uint16, sz := 1, flat := true, rows := [[W16 8197#16]] }).killAll [0]) [8197#16] [] 1 (killAll_wf (AHeap.WF.push AHeap.WF.empty) _) (by simp) (by simp)
  rw [show MemM.new [8197#16] 1 [] = m07 from rfl] at hn
  simp only [next_killAll, AHeap.next_push, empty_next, w32s, w16s, List.map_cons, List.map_nil, Nat.zero_add, Nat.reduceAdd] at hn x2
  have hS := LStep_eq X 2 1 m07 x1 (by omega) (by omega) (by omega) ⟨by decide, by decide, by decide, by decide⟩ s07
  obtain ⟨d1, d2, d3, d4, d5⟩ := did07
  unfold LeakAV LeakM.cells at hS
  rw [d1, d2, d3, d4, d5] at hS
  generalize stepM s07 m07 = t at *
  generalize leakM s07 m07 = l at *
  have e : s07.cells = [W32 7#32, W32 0#32, W32 0#32, W32 0#32, W32 0#32, W32 0#32, W32 0#32, W32 0#32, W32 0#32, .bool false, .bool false, .bool false, .bool false] := rfl
  rw [e] at hS
  simp -implicitDefEqProofs +contextual (disch := omega) [law07_lives.spec, law07_lives, hn, hS]
end Go.Abs

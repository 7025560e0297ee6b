/-
  What an instruction leaks: operands, place, flags. Printed by genk1.py.
-/
import Derived.Test.YtncablokgkejjaaC7a
import Derived.Test.YtncablokgkejjaaLeF
import Derived.Test.YtncablokgkejjaaLrF
set_option linter.unusedSimpArgs false
set_option linter.unusedVariables false
namespace Go.Abs
open Th
def opsM (i : InsM) (s : StM) : BitVec 32 × BitVec 32 :=
  match i.op.toNat with
  | 0 => (0#32, immW i.imm)
  | 1 | 2 | 3 => (s.reg i.d.toNat, immW i.imm)
  | 4 | 5 | 6 => (s.reg i.m.toNat, immW i.imm)
  | 7 | 8 | 14 => (s.reg i.n.toNat, s.reg i.m.toNat)
  | 9 | 10 => (s.reg i.n.toNat, immW i.imm)
  | 11 => (s.reg i.d.toNat, s.reg i.m.toNat)
  | 12 => (s.reg i.n.toNat, 4#32 * immW i.imm)
  | 13 | 15 => (s.reg i.d.toNat, 0#32)
  | _ => (0#32, 0#32)
def placeM (i : InsM) (s : StM) : BitVec 32 × Bool :=
  match i.op.toNat with
  | 12 | 13 => (s.reg i.n.toNat + 4#32 * immW i.imm, true)
  | 14 | 15 => (s.reg i.n.toNat + s.reg i.m.toNat, true)
  | 16 => (((s.pc + 4#32) &&& ~~~3#32) + 4#32 * immW i.imm, true)
  | _ => (0#32, false)
def flaggedM (i : InsM) (a b : BitVec 32) : BitVec 32 :=
  if i.op = 1 ∨ (i.op = 11 ∧ i.imm = 10) then a - b else if i.op = 11 ∧ i.imm = 8 then a &&& b else if i.op = 11 ∧ i.imm = 11 then a + b else 0#32
structure LeakM where
  pc : BitVec 32
  code : BitVec 16
  a : BitVec 32
  b : BitVec 32
  r : BitVec 32
  old : BitVec 32
  bus : BitVec 32
  addr : BitVec 32
  memory : Bool
  random : Bool
deriving DecidableEq
def LeakM.cells (l : LeakM) : List AV := [W32 l.pc, W16 l.code, W32 l.a, W32 l.b, W32 l.r, W32 l.old, W32 l.bus, W32 l.addr, .bool l.memory, .bool l.random]
def LeakM.zero : LeakM := ⟨0#32, 0#16, 0#32, 0#32, 0#32, 0#32, 0#32, 0#32, false, false⟩
def isStore (i : InsM) : Bool := decide (i.op = 13) || decide (i.op = 15)
def leakI (i : InsM) (h : BitVec 16) (s t : StM) (bus : BitVec 32) : LeakM :=
  { pc := s.pc, code := h, a := (opsM i s).1, b := (opsM i s).2, bus := bus, addr := (placeM i s).1, memory := (placeM i s).2,
    random := (placeM i s).2 && !isStore i && decide ((placeM i s).1 = 1073741824#32),
    r := if (writesM i).2 = true then t.reg (writesM i).1.toNat else if isStore i = true then (opsM i s).1 else flaggedM i (opsM i s).1 (opsM i s).2,
    old := if (writesM i).2 = true then s.reg (writesM i).1.toNat else 0#32 }
def leakM (s : StM) (m : MemM) : LeakM :=
  if (stepM s m).e = 0 then leakI (takeN (m.fetch s.pc).1.toNat).1 (m.fetch s.pc).1 s (stepM s m).s m.bus else LeakM.zero
theorem Operands_eq (i : InsM) (hc : i.can = true) (s : StM) : leak_operands.spec [.agg s.cells, InsAV i] = some (.tup [W32 (opsM i s).1, W32 (opsM i s).2]) := by
  obtain ⟨k, D, N, M, he, h1, h2, h3, h4, h5, h6⟩ := can_parts i hc
  generalize i.imm = imm at he h6
  subst he
  clear hc
  have hk : k = 0 ∨ k = 1 ∨ k = 2 ∨ k = 3 ∨ k = 4 ∨ k = 5 ∨ k = 6 ∨ k = 7 ∨ k = 8 ∨ k = 9 ∨ k = 10 ∨ k = 11 ∨ k = 12 ∨ k = 13 ∨ k = 14 ∨ k = 15 ∨ k = 16 ∨ k = 17 ∨ k = 18 ∨ k = 19 ∨ k = 20 := by omega
  simp only [InsAV, opsM]
  rcases hk with rfl | rfl | rfl | rfl | rfl | rfl | rfl | rfl | rfl | rfl | rfl | rfl | rfl | rfl | rfl | rfl | rfl | rfl | rfl | rfl | rfl
  all_goals
    try replace h2 := h2 (by decide)
    simp -implicitDefEqProofs +contextual (disch := omega) [leak_operands.spec, leak_operands, immW]
theorem Place_eq (i : InsM) (hc : i.can = true) (s : StM) : leak_place.spec [.agg s.cells, InsAV i] = some (.tup [W32 (placeM i s).1, .bool (placeM i s).2]) := by
  obtain ⟨k, D, N, M, he, h1, h2, h3, h4, h5, h6⟩ := can_parts i hc
  generalize i.imm = imm at he h6
  subst he
  clear hc
  have hk : k = 0 ∨ k = 1 ∨ k = 2 ∨ k = 3 ∨ k = 4 ∨ k = 5 ∨ k = 6 ∨ k = 7 ∨ k = 8 ∨ k = 9 ∨ k = 10 ∨ k = 11 ∨ k = 12 ∨ k = 13 ∨ k = 14 ∨ k = 15 ∨ k = 16 ∨ k = 17 ∨ k = 18 ∨ k = 19 ∨ k = 20 := by omega
  simp only [InsAV, placeM]
  rcases hk with rfl | rfl | rfl | rfl | rfl | rfl | rfl | rfl | rfl | rfl | rfl | rfl | rfl | rfl | rfl | rfl | rfl | rfl | rfl | rfl | rfl
  all_goals
    try replace h2 := h2 (by decide)
    simp -implicitDefEqProofs +contextual (disch := omega) [leak_place.spec, leak_place, immW]
theorem Flagged_eq (i : InsM) (a b : BitVec 32) : leak_flagged.spec [InsAV i, W32 a, W32 b] = some (W32 (flaggedM i a b)) := by
  obtain ⟨op, d, n, m, imm⟩ := i
  unfold flaggedM
  simp only [InsAV]
  by_cases h1 : op = 1
  · subst h1; simp -implicitDefEqProofs +contextual (disch := omega) [leak_flagged.spec, leak_flagged]
  · by_cases h11 : op = 11
    · subst h11
      by_cases a10 : imm = 10
      · subst a10; simp -implicitDefEqProofs +contextual (disch := omega) [leak_flagged.spec, leak_flagged]
      · by_cases a8 : imm = 8
        · subst a8; simp -implicitDefEqProofs +contextual (disch := omega) [leak_flagged.spec, leak_flagged]
        · by_cases a11 : imm = 11
          · subst a11; simp -implicitDefEqProofs +contextual (disch := omega) [leak_flagged.spec, leak_flagged]
          · simp -implicitDefEqProofs +contextual (disch := omega) [leak_flagged.spec, leak_flagged, a10, a8, a11]
    · simp -implicitDefEqProofs +contextual (disch := omega) [leak_flagged.spec, leak_flagged, h1, h11]
end Go.Abs

/-
  What an instruction leaks: operands, place, flags. Printed by genk1.py.
-/
import Derived.Test.YtncablokgkejjaaC7a
import Derived.Test.YtncablokgkejjaaLeF
import Derived.Test.YtncablokgkejjaaLrF
set_option linter.unusedSimpArgs false
set_option linter.unusedVariables false
namespace Go.Abs
open Th
def opsM (i : InsM) (s : StM) : BitVec 32 × BitVec 32 :=
  match i.op.toNat with
  | 0 => (0#32, immW i.imm)
  | 1 | 2 | 3 => (s.reg i.d.toNat, immW i.imm)
  | 4 | 5 | 6 => (s.reg i.m.toNat, immW i.imm)
  | 7 | 8 | 14 => (s.reg i.n.toNat, s.reg i.m.toNat)
  | 9 | 10 => (s.reg i.n.toNat, immW i.imm)
  | 11 => (s.reg i.d.toNat, s.reg i.m.toNat)
  | 12 => (s.reg i.n.toNat, 4#32 * immW i.imm)
  | 13 | 15 => (s.reg i.d.toNat, 0#32)
  | _ => (0#32, 0#32)
def placeM (i : InsM) (s : StM) : BitVec 32 × Bool :=
  match i.op.toNat with
  | 12 | 13 => (s.reg i.n.toNat + 4#32 * immW i.imm, true)
  | 14 | 15 => (s.reg i.n.toNat + s.reg i.m.toNat, true)
  | 16 => (((s.pc + 4#32) &&& ~~~3#32) + 4#32 * immW i.imm, true)
  | _ => (0#32, false)
def flaggedM (i : InsM) (a b : BitVec 32) : BitVec 32 :=
  if i.op = 1 ∨ (i.op = 11 ∧ i.imm = 10) then a - b else if i.op = 11 ∧ i.imm = 8 then a &&& b else if i.op = 11 ∧ i.imm = 11 then a + b else 0#32
structure LeakM where
  pc : BitVec 32
  code : BitVec 16
  a : BitVec 32
  b : BitVec 32
  r : BitVec 32
  old : BitVec 32
  bus : BitVec 32
  addr : BitVec 32
  memory : Bool
  random : Bool
deriving DecidableEq
def LeakM.cells (l : LeakM) : List AV := [W32 l.pc, W16 l.code, W32 l.a, W32 l.b, W32 l.r, W32 l.old, W32 l.bus, W32 l.addr, .bool l.memory, .bool l.random]
def LeakM.zero : LeakM := ⟨0#32, 0#16, 0#32, 0#32, 0#32, 0#32, 0#32, 0#32, false, false⟩
def isStore (i : InsM) : Bool := decide (i.op = 13) || decide (i.op = 15)
def leakI (i : InsM) (h : BitVec 16) (s t : StM) (bus : BitVec 32) : LeakM :=
  { pc := s.pc, code := h, a := (opsM i s).1, b := (opsM i s).2, bus := bus, addr := (placeM i s).1, memory := (placeM i s).2,
    random := (placeM i s).2 && !isStore i && decide ((placeM i s).1 = 1073741824#32),
    r := if (writesM i).2 = true then t.reg (writesM i).1.toNat else if isStore i = true then (opsM i s).1 else flaggedM i (opsM i s).1 (opsM i s).2,
    old := if (writesM i).2 = true then s.reg (writesM i).1.toNat else 0#32 }
def leakM (s : StM) (m : MemM) : LeakM :=
  if (stepM s m).e = 0 then leakI (takeN (m.fetch s.pc).1.toNat).1 (m.fetch s.pc).1 s (stepM s m).s m.bus else LeakM.zero
theorem ops0 (s : StM) (D N M : Nat) (hD : D < 8) (hN : N < 8) (hM : M < 8) (imm : Int) : leak_operands.spec [.agg s.cells, .agg [.int .i64 0, .int .i64 D, .int .i64 N, .int .i64 M, .int .i64 imm]] = some (.tup [W32 (opsM ⟨0, D, N, M, imm⟩ s).1, W32 (opsM ⟨0, D, N, M, imm⟩ s).2]) := by
  simp -implicitDefEqProofs +contextual (disch := omega) [leak_operands.spec, leak_operands, opsM, immW]
theorem ops1 (s : StM) (D N M : Nat) (hD : D < 8) (hN : N < 8) (hM : M < 8) (imm : Int) : leak_operands.spec [.agg s.cells, .agg [.int .i64 1, .int .i64 D, .int .i64 N, .int .i64 M, .int .i64 imm]] = some (.tup [W32 (opsM ⟨1, D, N, M, imm⟩ s).1, W32 (opsM ⟨1, D, N, M, imm⟩ s).2]) := by
  simp -implicitDefEqProofs +contextual (disch := omega) [leak_operands.spec, leak_operands, opsM, immW]
theorem ops2 (s : StM) (D N M : Nat) (hD : D < 8) (hN : N < 8) (hM : M < 8) (imm : Int) : leak_operands.spec [.agg s.cells, .agg [.int .i64 2, .int .i64 D, .int .i64 N, .int .i64 M, .int .i64 imm]] = some (.tup [W32 (opsM ⟨2, D, N, M, imm⟩ s).1, W32 (opsM ⟨2, D, N, M, imm⟩ s).2]) := by
  simp -implicitDefEqProofs +contextual (disch := omega) [leak_operands.spec, leak_operands, opsM, immW]
theorem ops3 (s : StM) (D N M : Nat) (hD : D < 8) (hN : N < 8) (hM : M < 8) (imm : Int) : leak_operands.spec [.agg s.cells, .agg [.int .i64 3, .int .i64 D, .int .i64 N, .int .i64 M, .int .i64 imm]] = some (.tup [W32 (opsM ⟨3, D, N, M, imm⟩ s).1, W32 (opsM ⟨3, D, N, M, imm⟩ s).2]) := by
  simp -implicitDefEqProofs +contextual (disch := omega) [leak_operands.spec, leak_operands, opsM, immW]
theorem ops4 (s : StM) (D N M : Nat) (hD : D < 8) (hN : N < 8) (hM : M < 8) (imm : Int) : leak_operands.spec [.agg s.cells, .agg [.int .i64 4, .int .i64 D, .int .i64 N, .int .i64 M, .int .i64 imm]] = some (.tup [W32 (opsM ⟨4, D, N, M, imm⟩ s).1, W32 (opsM ⟨4, D, N, M, imm⟩ s).2]) := by
  simp -implicitDefEqProofs +contextual (disch := omega) [leak_operands.spec, leak_operands, opsM, immW]
theorem ops5 (s : StM) (D N M : Nat) (hD : D < 8) (hN : N < 8) (hM : M < 8) (imm : Int) : leak_operands.spec [.agg s.cells, .agg [.int .i64 5, .int .i64 D, .int .i64 N, .int .i64 M, .int .i64 imm]] = some (.tup [W32 (opsM ⟨5, D, N, M, imm⟩ s).1, W32 (opsM ⟨5, D, N, M, imm⟩ s).2]) := by
  simp -implicitDefEqProofs +contextual (disch := omega) [leak_operands.spec, leak_operands, opsM, immW]
theorem ops6 (s : StM) (D N M : Nat) (hD : D < 8) (hN : N < 8) (hM : M < 8) (imm : Int) : leak_operands.spec [.agg s.cells, .agg [.int .i64 6, .int .i64 D, .int .i64 N, .int .i64 M, .int .i64 imm]] = some (.tup [W32 (opsM ⟨6, D, N, M, imm⟩ s).1, W32 (opsM ⟨6, D, N, M, imm⟩ s).2]) := by
  simp -implicitDefEqProofs +contextual (disch := omega) [leak_operands.spec, leak_operands, opsM, immW]
theorem ops7 (s : StM) (D N M : Nat) (hD : D < 8) (hN : N < 8) (hM : M < 8) (imm : Int) : leak_operands.spec [.agg s.cells, .agg [.int .i64 7, .int .i64 D, .int .i64 N, .int .i64 M, .int .i64 imm]] = some (.tup [W32 (opsM ⟨7, D, N, M, imm⟩ s).1, W32 (opsM ⟨7, D, N, M, imm⟩ s).2]) := by
  simp -implicitDefEqProofs +contextual (disch := omega) [leak_operands.spec, leak_operands, opsM, immW]
theorem ops8 (s : StM) (D N M : Nat) (hD : D < 8) (hN : N < 8) (hM : M < 8) (imm : Int) : leak_operands.spec [.agg s.cells, .agg [.int .i64 8, .int .i64 D, .int .i64 N, .int .i64 M, .int .i64 imm]] = some (.tup [W32 (opsM ⟨8, D, N, M, imm⟩ s).1, W32 (opsM ⟨8, D, N, M, imm⟩ s).2]) := by
  simp -implicitDefEqProofs +contextual (disch := omega) [leak_operands.spec, leak_operands, opsM, immW]
theorem ops9 (s : StM) (D N M : Nat) (hD : D < 8) (hN : N < 8) (hM : M < 8) (imm : Int) : leak_operands.spec [.agg s.cells, .agg [.int .i64 9, .int .i64 D, .int .i64 N, .int .i64 M, .int .i64 imm]] = some (.tup [W32 (opsM ⟨9, D, N, M, imm⟩ s).1, W32 (opsM ⟨9, D, N, M, imm⟩ s).2]) := by
  simp -implicitDefEqProofs +contextual (disch := omega) [leak_operands.spec, leak_operands, opsM, immW]
theorem ops10 (s : StM) (D N M : Nat) (hD : D < 8) (hN : N < 8) (hM : M < 8) (imm : Int) : leak_operands.spec [.agg s.cells, .agg [.int .i64 10, .int .i64 D, .int .i64 N, .int .i64 M, .int .i64 imm]] = some (.tup [W32 (opsM ⟨10, D, N, M, imm⟩ s).1, W32 (opsM ⟨10, D, N, M, imm⟩ s).2]) := by
  simp -implicitDefEqProofs +contextual (disch := omega) [leak_operands.spec, leak_operands, opsM, immW]
theorem ops11 (s : StM) (D N M : Nat) (hD : D < 8) (hN : N < 8) (hM : M < 8) (imm : Int) : leak_operands.spec [.agg s.cells, .agg [.int .i64 11, .int .i64 D, .int .i64 N, .int .i64 M, .int .i64 imm]] = some (.tup [W32 (opsM ⟨11, D, N, M, imm⟩ s).1, W32 (opsM ⟨11, D, N, M, imm⟩ s).2]) := by
  simp -implicitDefEqProofs +contextual (disch := omega) [leak_operands.spec, leak_operands, opsM, immW]
theorem ops12 (s : StM) (D N M : Nat) (hD : D < 8) (hN : N < 8) (hM : M < 8) (imm : Int) : leak_operands.spec [.agg s.cells, .agg [.int .i64 12, .int .i64 D, .int .i64 N, .int .i64 M, .int .i64 imm]] = some (.tup [W32 (opsM ⟨12, D, N, M, imm⟩ s).1, W32 (opsM ⟨12, D, N, M, imm⟩ s).2]) := by
  simp -implicitDefEqProofs +contextual (disch := omega) [leak_operands.spec, leak_operands, opsM, immW]
theorem ops13 (s : StM) (D N M : Nat) (hD : D < 8) (hN : N < 8) (hM : M < 8) (imm : Int) : leak_operands.spec [.agg s.cells, .agg [.int .i64 13, .int .i64 D, .int .i64 N, .int .i64 M, .int .i64 imm]] = some (.tup [W32 (opsM ⟨13, D, N, M, imm⟩ s).1, W32 (opsM ⟨13, D, N, M, imm⟩ s).2]) := by
  simp -implicitDefEqProofs +contextual (disch := omega) [leak_operands.spec, leak_operands, opsM, immW]
theorem ops14 (s : StM) (D N M : Nat) (hD : D < 8) (hN : N < 8) (hM : M < 8) (imm : Int) : leak_operands.spec [.agg s.cells, .agg [.int .i64 14, .int .i64 D, .int .i64 N, .int .i64 M, .int .i64 imm]] = some (.tup [W32 (opsM ⟨14, D, N, M, imm⟩ s).1, W32 (opsM ⟨14, D, N, M, imm⟩ s).2]) := by
  simp -implicitDefEqProofs +contextual (disch := omega) [leak_operands.spec, leak_operands, opsM, immW]
theorem ops15 (s : StM) (D N M : Nat) (hD : D < 8) (hN : N < 8) (hM : M < 8) (imm : Int) : leak_operands.spec [.agg s.cells, .agg [.int .i64 15, .int .i64 D, .int .i64 N, .int .i64 M, .int .i64 imm]] = some (.tup [W32 (opsM ⟨15, D, N, M, imm⟩ s).1, W32 (opsM ⟨15, D, N, M, imm⟩ s).2]) := by
  simp -implicitDefEqProofs +contextual (disch := omega) [leak_operands.spec, leak_operands, opsM, immW]
theorem ops16 (s : StM) (D N M : Nat) (hD : D < 8) (hN : N < 8) (hM : M < 8) (imm : Int) : leak_operands.spec [.agg s.cells, .agg [.int .i64 16, .int .i64 D, .int .i64 N, .int .i64 M, .int .i64 imm]] = some (.tup [W32 (opsM ⟨16, D, N, M, imm⟩ s).1, W32 (opsM ⟨16, D, N, M, imm⟩ s).2]) := by
  simp -implicitDefEqProofs +contextual (disch := omega) [leak_operands.spec, leak_operands, opsM, immW]
theorem ops17 (s : StM) (D N M : Nat) (imm : Int) : leak_operands.spec [.agg s.cells, .agg [.int .i64 17, .int .i64 D, .int .i64 N, .int .i64 M, .int .i64 imm]] = some (.tup [W32 (opsM ⟨17, D, N, M, imm⟩ s).1, W32 (opsM ⟨17, D, N, M, imm⟩ s).2]) := by
  simp -implicitDefEqProofs +contextual (disch := omega) [leak_operands.spec, leak_operands, opsM, immW]
theorem ops18 (s : StM) (D N M : Nat) (imm : Int) : leak_operands.spec [.agg s.cells, .agg [.int .i64 18, .int .i64 D, .int .i64 N, .int .i64 M, .int .i64 imm]] = some (.tup [W32 (opsM ⟨18, D, N, M, imm⟩ s).1, W32 (opsM ⟨18, D, N, M, imm⟩ s).2]) := by
  simp -implicitDefEqProofs +contextual (disch := omega) [leak_operands.spec, leak_operands, opsM, immW]
theorem ops19 (s : StM) (D N M : Nat) (imm : Int) : leak_operands.spec [.agg s.cells, .agg [.int .i64 19, .int .i64 D, .int .i64 N, .int .i64 M, .int .i64 imm]] = some (.tup [W32 (opsM ⟨19, D, N, M, imm⟩ s).1, W32 (opsM ⟨19, D, N, M, imm⟩ s).2]) := by
  simp -implicitDefEqProofs +contextual (disch := omega) [leak_operands.spec, leak_operands, opsM, immW]
theorem ops20 (s : StM) (D N M : Nat) (imm : Int) : leak_operands.spec [.agg s.cells, .agg [.int .i64 20, .int .i64 D, .int .i64 N, .int .i64 M, .int .i64 imm]] = some (.tup [W32 (opsM ⟨20, D, N, M, imm⟩ s).1, W32 (opsM ⟨20, D, N, M, imm⟩ s).2]) := by
  simp -implicitDefEqProofs +contextual (disch := omega) [leak_operands.spec, leak_operands, opsM, immW]
theorem place0 (s : StM) (D N M : Nat) (imm : Int) : leak_place.spec [.agg s.cells, .agg [.int .i64 0, .int .i64 D, .int .i64 N, .int .i64 M, .int .i64 imm]] = some (.tup [W32 (placeM ⟨0, D, N, M, imm⟩ s).1, .bool (placeM ⟨0, D, N, M, imm⟩ s).2]) := by
  simp -implicitDefEqProofs +contextual (disch := omega) [leak_place.spec, leak_place, placeM, immW]
theorem place1 (s : StM) (D N M : Nat) (imm : Int) : leak_place.spec [.agg s.cells, .agg [.int .i64 1, .int .i64 D, .int .i64 N, .int .i64 M, .int .i64 imm]] = some (.tup [W32 (placeM ⟨1, D, N, M, imm⟩ s).1, .bool (placeM ⟨1, D, N, M, imm⟩ s).2]) := by
  simp -implicitDefEqProofs +contextual (disch := omega) [leak_place.spec, leak_place, placeM, immW]
theorem place2 (s : StM) (D N M : Nat) (imm : Int) : leak_place.spec [.agg s.cells, .agg [.int .i64 2, .int .i64 D, .int .i64 N, .int .i64 M, .int .i64 imm]] = some (.tup [W32 (placeM ⟨2, D, N, M, imm⟩ s).1, .bool (placeM ⟨2, D, N, M, imm⟩ s).2]) := by
  simp -implicitDefEqProofs +contextual (disch := omega) [leak_place.spec, leak_place, placeM, immW]
theorem place3 (s : StM) (D N M : Nat) (imm : Int) : leak_place.spec [.agg s.cells, .agg [.int .i64 3, .int .i64 D, .int .i64 N, .int .i64 M, .int .i64 imm]] = some (.tup [W32 (placeM ⟨3, D, N, M, imm⟩ s).1, .bool (placeM ⟨3, D, N, M, imm⟩ s).2]) := by
  simp -implicitDefEqProofs +contextual (disch := omega) [leak_place.spec, leak_place, placeM, immW]
theorem place4 (s : StM) (D N M : Nat) (imm : Int) : leak_place.spec [.agg s.cells, .agg [.int .i64 4, .int .i64 D, .int .i64 N, .int .i64 M, .int .i64 imm]] = some (.tup [W32 (placeM ⟨4, D, N, M, imm⟩ s).1, .bool (placeM ⟨4, D, N, M, imm⟩ s).2]) := by
  simp -implicitDefEqProofs +contextual (disch := omega) [leak_place.spec, leak_place, placeM, immW]
theorem place5 (s : StM) (D N M : Nat) (imm : Int) : leak_place.spec [.agg s.cells, .agg [.int .i64 5, .int .i64 D, .int .i64 N, .int .i64 M, .int .i64 imm]] = some (.tup [W32 (placeM ⟨5, D, N, M, imm⟩ s).1, .bool (placeM ⟨5, D, N, M, imm⟩ s).2]) := by
  simp -implicitDefEqProofs +contextual (disch := omega) [leak_place.spec, leak_place, placeM, immW]
theorem place6 (s : StM) (D N M : Nat) (imm : Int) : leak_place.spec [.agg s.cells, .agg [.int .i64 6, .int .i64 D, .int .i64 N, .int .i64 M, .int .i64 imm]] = some (.tup [W32 (placeM ⟨6, D, N, M, imm⟩ s).1, .bool (placeM ⟨6, D, N, M, imm⟩ s).2]) := by
  simp -implicitDefEqProofs +contextual (disch := omega) [leak_place.spec, leak_place, placeM, immW]
theorem place7 (s : StM) (D N M : Nat) (imm : Int) : leak_place.spec [.agg s.cells, .agg [.int .i64 7, .int .i64 D, .int .i64 N, .int .i64 M, .int .i64 imm]] = some (.tup [W32 (placeM ⟨7, D, N, M, imm⟩ s).1, .bool (placeM ⟨7, D, N, M, imm⟩ s).2]) := by
  simp -implicitDefEqProofs +contextual (disch := omega) [leak_place.spec, leak_place, placeM, immW]
theorem place8 (s : StM) (D N M : Nat) (imm : Int) : leak_place.spec [.agg s.cells, .agg [.int .i64 8, .int .i64 D, .int .i64 N, .int .i64 M, .int .i64 imm]] = some (.tup [W32 (placeM ⟨8, D, N, M, imm⟩ s).1, .bool (placeM ⟨8, D, N, M, imm⟩ s).2]) := by
  simp -implicitDefEqProofs +contextual (disch := omega) [leak_place.spec, leak_place, placeM, immW]
theorem place9 (s : StM) (D N M : Nat) (imm : Int) : leak_place.spec [.agg s.cells, .agg [.int .i64 9, .int .i64 D, .int .i64 N, .int .i64 M, .int .i64 imm]] = some (.tup [W32 (placeM ⟨9, D, N, M, imm⟩ s).1, .bool (placeM ⟨9, D, N, M, imm⟩ s).2]) := by
  simp -implicitDefEqProofs +contextual (disch := omega) [leak_place.spec, leak_place, placeM, immW]
theorem place10 (s : StM) (D N M : Nat) (imm : Int) : leak_place.spec [.agg s.cells, .agg [.int .i64 10, .int .i64 D, .int .i64 N, .int .i64 M, .int .i64 imm]] = some (.tup [W32 (placeM ⟨10, D, N, M, imm⟩ s).1, .bool (placeM ⟨10, D, N, M, imm⟩ s).2]) := by
  simp -implicitDefEqProofs +contextual (disch := omega) [leak_place.spec, leak_place, placeM, immW]
theorem place11 (s : StM) (D N M : Nat) (imm : Int) : leak_place.spec [.agg s.cells, .agg [.int .i64 11, .int .i64 D, .int .i64 N, .int .i64 M, .int .i64 imm]] = some (.tup [W32 (placeM ⟨11, D, N, M, imm⟩ s).1, .bool (placeM ⟨11, D, N, M, imm⟩ s).2]) := by
  simp -implicitDefEqProofs +contextual (disch := omega) [leak_place.spec, leak_place, placeM, immW]
theorem place12 (s : StM) (D N M : Nat) (hD : D < 8) (hN : N < 8) (hM : M < 8) (imm : Int) : leak_place.spec [.agg s.cells, .agg [.int .i64 12, .int .i64 D, .int .i64 N, .int .i64 M, .int .i64 imm]] = some (.tup [W32 (placeM ⟨12, D, N, M, imm⟩ s).1, .bool (placeM ⟨12, D, N, M, imm⟩ s).2]) := by
  simp -implicitDefEqProofs +contextual (disch := omega) [leak_place.spec, leak_place, placeM, immW]
theorem place13 (s : StM) (D N M : Nat) (hD : D < 8) (hN : N < 8) (hM : M < 8) (imm : Int) : leak_place.spec [.agg s.cells, .agg [.int .i64 13, .int .i64 D, .int .i64 N, .int .i64 M, .int .i64 imm]] = some (.tup [W32 (placeM ⟨13, D, N, M, imm⟩ s).1, .bool (placeM ⟨13, D, N, M, imm⟩ s).2]) := by
  simp -implicitDefEqProofs +contextual (disch := omega) [leak_place.spec, leak_place, placeM, immW]
theorem place14 (s : StM) (D N M : Nat) (hD : D < 8) (hN : N < 8) (hM : M < 8) (imm : Int) : leak_place.spec [.agg s.cells, .agg [.int .i64 14, .int .i64 D, .int .i64 N, .int .i64 M, .int .i64 imm]] = some (.tup [W32 (placeM ⟨14, D, N, M, imm⟩ s).1, .bool (placeM ⟨14, D, N, M, imm⟩ s).2]) := by
  simp -implicitDefEqProofs +contextual (disch := omega) [leak_place.spec, leak_place, placeM, immW]
theorem place15 (s : StM) (D N M : Nat) (hD : D < 8) (hN : N < 8) (hM : M < 8) (imm : Int) : leak_place.spec [.agg s.cells, .agg [.int .i64 15, .int .i64 D, .int .i64 N, .int .i64 M, .int .i64 imm]] = some (.tup [W32 (placeM ⟨15, D, N, M, imm⟩ s).1, .bool (placeM ⟨15, D, N, M, imm⟩ s).2]) := by
  simp -implicitDefEqProofs +contextual (disch := omega) [leak_place.spec, leak_place, placeM, immW]
theorem place16 (s : StM) (D N M : Nat) (hD : D < 8) (hN : N < 8) (hM : M < 8) (imm : Int) : leak_place.spec [.agg s.cells, .agg [.int .i64 16, .int .i64 D, .int .i64 N, .int .i64 M, .int .i64 imm]] = some (.tup [W32 (placeM ⟨16, D, N, M, imm⟩ s).1, .bool (placeM ⟨16, D, N, M, imm⟩ s).2]) := by
  simp -implicitDefEqProofs +contextual (disch := omega) [leak_place.spec, leak_place, placeM, immW]
theorem place17 (s : StM) (D N M : Nat) (imm : Int) : leak_place.spec [.agg s.cells, .agg [.int .i64 17, .int .i64 D, .int .i64 N, .int .i64 M, .int .i64 imm]] = some (.tup [W32 (placeM ⟨17, D, N, M, imm⟩ s).1, .bool (placeM ⟨17, D, N, M, imm⟩ s).2]) := by
  simp -implicitDefEqProofs +contextual (disch := omega) [leak_place.spec, leak_place, placeM, immW]
theorem place18 (s : StM) (D N M : Nat) (imm : Int) : leak_place.spec [.agg s.cells, .agg [.int .i64 18, .int .i64 D, .int .i64 N, .int .i64 M, .int .i64 imm]] = some (.tup [W32 (placeM ⟨18, D, N, M, imm⟩ s).1, .bool (placeM ⟨18, D, N, M, imm⟩ s).2]) := by
  simp -implicitDefEqProofs +contextual (disch := omega) [leak_place.spec, leak_place, placeM, immW]
theorem place19 (s : StM) (D N M : Nat) (imm : Int) : leak_place.spec [.agg s.cells, .agg [.int .i64 19, .int .i64 D, .int .i64 N, .int .i64 M, .int .i64 imm]] = some (.tup [W32 (placeM ⟨19, D, N, M, imm⟩ s).1, .bool (placeM ⟨19, D, N, M, imm⟩ s).2]) := by
  simp -implicitDefEqProofs +contextual (disch := omega) [leak_place.spec, leak_place, placeM, immW]
theorem place20 (s : StM) (D N M : Nat) (imm : Int) : leak_place.spec [.agg s.cells, .agg [.int .i64 20, .int .i64 D, .int .i64 N, .int .i64 M, .int .i64 imm]] = some (.tup [W32 (placeM ⟨20, D, N, M, imm⟩ s).1, .bool (placeM ⟨20, D, N, M, imm⟩ s).2]) := by
  simp -implicitDefEqProofs +contextual (disch := omega) [leak_place.spec, leak_place, placeM, immW]
theorem Operands_eq (i : InsM) (hc : i.can = true) (s : StM) : leak_operands.spec [.agg s.cells, InsAV i] = some (.tup [W32 (opsM i s).1, W32 (opsM i s).2]) := by
  obtain ⟨k, D, N, M, he, h1, h2, h3, h4, h5, h6⟩ := can_parts i hc
  generalize i.imm = imm at he h6
  subst he
  simp only [InsAV]
  match k, h1 with
  | 0, _ => exact ops0 s D N M (h2 (by omega)) h4 h5 imm
  | 1, _ => exact ops1 s D N M (h2 (by omega)) h4 h5 imm
  | 2, _ => exact ops2 s D N M (h2 (by omega)) h4 h5 imm
  | 3, _ => exact ops3 s D N M (h2 (by omega)) h4 h5 imm
  | 4, _ => exact ops4 s D N M (h2 (by omega)) h4 h5 imm
  | 5, _ => exact ops5 s D N M (h2 (by omega)) h4 h5 imm
  | 6, _ => exact ops6 s D N M (h2 (by omega)) h4 h5 imm
  | 7, _ => exact ops7 s D N M (h2 (by omega)) h4 h5 imm
  | 8, _ => exact ops8 s D N M (h2 (by omega)) h4 h5 imm
  | 9, _ => exact ops9 s D N M (h2 (by omega)) h4 h5 imm
  | 10, _ => exact ops10 s D N M (h2 (by omega)) h4 h5 imm
  | 11, _ => exact ops11 s D N M (h2 (by omega)) h4 h5 imm
  | 12, _ => exact ops12 s D N M (h2 (by omega)) h4 h5 imm
  | 13, _ => exact ops13 s D N M (h2 (by omega)) h4 h5 imm
  | 14, _ => exact ops14 s D N M (h2 (by omega)) h4 h5 imm
  | 15, _ => exact ops15 s D N M (h2 (by omega)) h4 h5 imm
  | 16, _ => exact ops16 s D N M (h2 (by omega)) h4 h5 imm
  | 17, _ => exact ops17 s D N M  imm
  | 18, _ => exact ops18 s D N M  imm
  | 19, _ => exact ops19 s D N M  imm
  | 20, _ => exact ops20 s D N M  imm
theorem Place_eq (i : InsM) (hc : i.can = true) (s : StM) : leak_place.spec [.agg s.cells, InsAV i] = some (.tup [W32 (placeM i s).1, .bool (placeM i s).2]) := by
  obtain ⟨k, D, N, M, he, h1, h2, h3, h4, h5, h6⟩ := can_parts i hc
  generalize i.imm = imm at he h6
  subst he
  simp only [InsAV]
  match k, h1 with
  | 0, _ => exact place0 s D N M  imm
  | 1, _ => exact place1 s D N M  imm
  | 2, _ => exact place2 s D N M  imm
  | 3, _ => exact place3 s D N M  imm
  | 4, _ => exact place4 s D N M  imm
  | 5, _ => exact place5 s D N M  imm
  | 6, _ => exact place6 s D N M  imm
  | 7, _ => exact place7 s D N M  imm
  | 8, _ => exact place8 s D N M  imm
  | 9, _ => exact place9 s D N M  imm
  | 10, _ => exact place10 s D N M  imm
  | 11, _ => exact place11 s D N M  imm
  | 12, _ => exact place12 s D N M (h2 (by omega)) h4 h5 imm
  | 13, _ => exact place13 s D N M (h2 (by omega)) h4 h5 imm
  | 14, _ => exact place14 s D N M (h2 (by omega)) h4 h5 imm
  | 15, _ => exact place15 s D N M (h2 (by omega)) h4 h5 imm
  | 16, _ => exact place16 s D N M (h2 (by omega)) h4 h5 imm
  | 17, _ => exact place17 s D N M  imm
  | 18, _ => exact place18 s D N M  imm
  | 19, _ => exact place19 s D N M  imm
  | 20, _ => exact place20 s D N M  imm
theorem Flagged_eq (i : InsM) (a b : BitVec 32) : leak_flagged.spec [InsAV i, W32 a, W32 b] = some (W32 (flaggedM i a b)) := by
  obtain ⟨op, d, n, m, imm⟩ := i
  unfold flaggedM
  simp only [InsAV]
  by_cases h1 : op = 1
  · subst h1; simp -implicitDefEqProofs +contextual (disch := omega) [leak_flagged.spec, leak_flagged]
  · by_cases h11 : op = 11
    · subst h11
      by_cases a10 : imm = 10
      · subst a10; simp -implicitDefEqProofs +contextual (disch := omega) [leak_flagged.spec, leak_flagged]
      · by_cases a8 : imm = 8
        · subst a8; simp -implicitDefEqProofs +contextual (disch := omega) [leak_flagged.spec, leak_flagged]
        · by_cases a11 : imm = 11
          · subst a11; simp -implicitDefEqProofs +contextual (disch := omega) [leak_flagged.spec, leak_flagged]
          · simp -implicitDefEqProofs +contextual (disch := omega) [leak_flagged.spec, leak_flagged, a10, a8, a11]
    · simp -implicitDefEqProofs +contextual (disch := omega) [leak_flagged.spec, leak_flagged, h1, h11]
end Go.Abs

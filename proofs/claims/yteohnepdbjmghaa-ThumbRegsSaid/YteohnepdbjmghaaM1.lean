/-
  Memory: what the program's memory does.
-/
import Derived.Test.YteohnepdbjmghaaLoF
set_option linter.unusedSimpArgs false
set_option linter.unusedVariables false
namespace Go.Abs
structure MemM where
  code : List (BitVec 16)
  words : List (BitVec 32)
  tape : List (BitVec 32)
  drawn : Nat
  bus : BitVec 32
def wrdBlk (l : List (BitVec 32)) : Blk := ⟨T.ty_uint32, 1, true, w32s l⟩
def MemM.new (code : List (BitVec 16)) (n : Int) (tape : List (BitVec 32)) : MemM := ⟨code.take 60000, List.replicate (min (max n 0) 16000).toNat 0#32, tape, 0, 0#32⟩
def wslot (a : BitVec 32) : Nat := (a - 536870912#32).toNat / 4
def MemM.at (m : MemM) (a : BitVec 32) : Bool := decide (536870912#32 ≤ a) && decide (wslot a < m.words.length)
def MemM.load (m : MemM) (a : BitVec 32) : (BitVec 32 × Int) × MemM :=
  if a % 4#32 ≠ 0#32 then ((0#32, 50), m)
  else if a = 1073741824#32 then (if m.drawn = m.tape.length then ((0#32, 51), m) else ((at0 m.tape m.drawn, 0), { m with drawn := m.drawn + 1 }))
  else if m.at a = true then ((at0 m.words (wslot a), 0), m)
  else if a.toNat / 2 + 1 < m.code.length then ((((at0 m.code (a.toNat / 2)).setWidth 32) ||| (((at0 m.code (a.toNat / 2 + 1)).setWidth 32) <<< 16), 0), m)
  else ((0#32, 50), m)
def MemM.store (m : MemM) (a w : BitVec 32) : Int × MemM :=
  if m.at a = true ∧ a % 4#32 = 0#32 then (0, { m with words := m.words.set (wslot a) w, bus := w }) else (50, m)
structure MemM.Ok (m : MemM) : Prop where
  code : m.code.length ≤ 60000
  words : m.words.length ≤ 16000
  tape : m.tape.length ≤ 1000000000
  drawn : m.drawn ≤ m.tape.length
end Go.Abs

import Derived.Test.YteohnepdbjmghaaAbC
import Derived.Test.YteohnepdbjmghaaWA
import Derived.Test.YteohnepdbjmghaaLoF
import Derived.Test.YteohnepdbjmghaaM1
import Derived.Test.YteohnepdbjmghaaT3
section
set_option linter.unusedSimpArgs false
set_option linter.unusedVariables false
namespace Go.Abs
structure StM where
  r : List (BitVec 32)
  len : r.length = 8
  pc : BitVec 32
  n : Bool
  z : Bool
  c : Bool
  v : Bool
theorem StM.ext_iff' (s t : StM) : s = t ↔ s.r = t.r ∧ s.pc = t.pc ∧ s.n = t.n ∧ s.z = t.z ∧ s.c = t.c ∧ s.v = t.v := by
  cases s; cases t; simp
instance : DecidableEq StM := fun s t => decidable_of_iff _ (StM.ext_iff' s t).symm
def StM.reg (s : StM) (k : Nat) : BitVec 32 := at0 s.r k
def StM.cells (s : StM) : List AV := s.r.map W32 ++ [W32 s.pc, .bool s.n, .bool s.z, .bool s.c, .bool s.v]
section
variable (s t : StM)
theorem setCells_all : ∀ (cs l : List AV) (k : Nat), k + cs.length = l.length → setCells l k cs = l.take k ++ cs
  | [], l, k, h => by simp only [setCells, List.append_nil]; rw [List.take_of_length_le (by simp only [List.length_nil] at h; omega)]
  | c :: cs, l, k, h => by
    simp only [List.length_cons] at h
    rw [setCells, setCells_all cs (l.set k c) (k + 1) (by simp; omega)]
    rw [List.take_succ_eq_append_getElem (by simp; omega), List.take_set_of_le (Nat.le_refl k)]
    simp
theorem setCells_full (l cs : List AV) (h : cs.length = l.length) : setCells l 0 cs = cs := by
  rw [setCells_all cs l 0 (by omega)]; rfl
end
end Go.Abs
end
section
set_option linter.unusedSimpArgs false
set_option linter.unusedVariables false
end
section
set_option linter.unusedSimpArgs false
set_option linter.unusedVariables false
end

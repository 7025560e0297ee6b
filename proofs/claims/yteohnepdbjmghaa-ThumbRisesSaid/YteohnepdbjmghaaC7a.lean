/-
  What instructions do: the program's step, whole. Printed by genc7.py.
-/
import Derived.Test.YteohnepdbjmghaaC4
import Derived.Test.YteohnepdbjmghaaM6
set_option linter.unusedSimpArgs false
set_option linter.unusedVariables false
namespace Go.Abs
open Th
theorem can_parts (i : InsM) (h : i.can = true) : ∃ k D N M : Nat, i = ⟨k, D, N, M, i.imm⟩ ∧ k ≤ 20 ∧ (k ≠ 18 → D < 8) ∧ D < 14 ∧ N < 8 ∧ M < 8 ∧ (k = 11 → 0 ≤ i.imm ∧ i.imm ≤ 15) := by
  have h1 := (can_iff i).1 h
  have hb : ∀ k : Nat, k ≤ 20 → (k ≠ 18 → maxD k ≤ 7) ∧ maxD k ≤ 13 ∧ maxN k ≤ 7 ∧ maxM k ≤ 7 ∧ (k = 11 → (shp k).low = 0 ∧ (shp k).high = 15) := by decide
  obtain ⟨op, d, n, m, imm⟩ := i
  dsimp only at h1 ⊢
  obtain ⟨b1, b2, b3, b4, b5⟩ := hb op.toNat (by omega)
  refine ⟨op.toNat, d.toNat, n.toNat, m.toNat, ?_, by omega, fun q => by have := b1 q; omega, by omega, by omega, by omega, fun q => by have := b5 q; omega⟩
  rw [Int.toNat_of_nonneg (by omega), Int.toNat_of_nonneg (by omega), Int.toNat_of_nonneg (by omega), Int.toNat_of_nonneg (by omega)]
structure Keeps (m m' : MemM) : Prop where
  code : m'.code = m.code
  tape : m'.tape = m.tape
  words : m'.words.length = m.words.length
  ok : m.Ok → m'.Ok
end Go.Abs

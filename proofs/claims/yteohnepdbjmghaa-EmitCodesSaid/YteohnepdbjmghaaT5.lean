/-
  Instructions and their halfwords: the document's Can and Put.
-/
import Derived.Test.YteohnepdbjmghaaT4
set_option linter.unusedSimpArgs false
set_option linter.unusedVariables false
namespace Go.Abs
open Th
theorem rCan_eq (i : InsM) : ref02_Can.spec [InsAV i] = some (.bool i.can) := by
  obtain ⟨op, d, n, m, imm⟩ := i
  by_cases h : 0 ≤ op ∧ op ≤ 20
  · obtain ⟨k, rfl⟩ : ∃ k : Nat, op = k := ⟨op.toNat, by omega⟩
    exact cases21 (P := fun k => ref02_Can.spec [InsAV ⟨k, d, n, m, imm⟩] = some (.bool (InsM.mk k d n m imm).can)) k (by omega) (Can0 d n m imm) (Can1 d n m imm) (Can2 d n m imm) (Can3 d n m imm) (Can4 d n m imm) (Can5 d n m imm) (Can6 d n m imm) (Can7 d n m imm) (Can8 d n m imm) (Can9 d n m imm) (Can10 d n m imm)
      (Can11 d n m imm) (Can12 d n m imm) (Can13 d n m imm) (Can14 d n m imm) (Can15 d n m imm) (Can16 d n m imm) (Can17 d n m imm) (Can18 d n m imm) (Can19 d n m imm) (Can20 d n m imm)
  · have hc : (InsM.mk op d n m imm).can = false := by
      rw [Bool.eq_false_iff, Ne, can_iff]; exact fun q => h q.1
    have h' : op < 0 ∨ 20 < op := by omega
    rw [hc]
    simp -implicitDefEqProofs +contextual (disch := omega) [ref02_Can.spec, ref02_Can, InsAV, h']
theorem Shape_eq (op : Nat) (h : op ≤ 20) : ref02_Shape.spec [.int .i64 (op : Nat)] = some (.str (txtB op)) :=
  cases21 (P := fun op => ref02_Shape.spec [.int .i64 (op : Nat)] = some (.str (txtB op))) op h Shape0 Shape1 Shape2 Shape3 Shape4 Shape5 Shape6 Shape7 Shape8 Shape9 Shape10 Shape11 Shape12 Shape13 Shape14 Shape15 Shape16 Shape17 Shape18 Shape19 Shape20
theorem Low_eq (op : Nat) (h : op ≤ 20) : ref02_Low.spec [.int .i64 (op : Nat)] = some (.int .i64 (shp op).low) :=
  cases21 (P := fun op => ref02_Low.spec [.int .i64 (op : Nat)] = some (.int .i64 (shp op).low)) op h Low0 Low1 Low2 Low3 Low4 Low5 Low6 Low7 Low8 Low9 Low10 Low11 Low12 Low13 Low14 Low15 Low16 Low17 Low18 Low19 Low20
theorem High_eq (op : Nat) (h : op ≤ 20) : ref02_High.spec [.int .i64 (op : Nat)] = some (.int .i64 (shp op).high) :=
  cases21 (P := fun op => ref02_High.spec [.int .i64 (op : Nat)] = some (.int .i64 (shp op).high)) op h High0 High1 High2 High3 High4 High5 High6 High7 High8 High9 High10 High11 High12 High13 High14 High15 High16 High17 High18 High19 High20
theorem txt_len (op : Nat) (h : op ≤ 20) : (txt op).length = 16 := by
  have : ∀ op : Nat, op ≤ 20 → (txt op).length = 16 := by decide
  exact this op h
end Go.Abs

/-
  A maker's code grows by a step: the program's function.
-/
import Derived.Test.YthignlpdeaglaaaJ6
import Derived.Test.YthignlpdeaglaaaI2
set_option linter.unusedSimpArgs false
set_option linter.unusedVariables false
namespace Go.Abs
def Rw (X : AHeap) (mb : Nat) (ty : TypeId) (sz : Nat) (v : AV) (rows : List (List AV)) : Prop := (rows = [] ∧ v = .nils) ∨ ∃ ob, ob ≠ mb ∧ v = .sl ob sz 0 rows.length ∧ X.get ob = some ⟨ty, sz, true, rows⟩
def addO (k : Int) (l : List Int) : OpM := ⟨k, ati l 0, ati l 1, 0#32⟩
theorem add_run (X : AHeap) (hX : X.WF) (mb n : Nat) (hn : n ≤ 4000) (ops : List OpM) (hl : ops.length ≤ 60000) (k : Int) (l : List Int) (hll : l.length ≤ 2) (vo vu : AV) (fl : Bool) (ty : TypeId)
    (hg : X.get mb = some ⟨ty, 3, fl, [[.int .i64 n, vo, vu]]⟩) (ho : Rw X mb T.ty_api_Op 4 vo (opRows ops)) :
    ∃ X1 ob1 f1, isw_maker_add.spec [.ptr mb 3 0 0, .int .i64 k, .rsl 1 (ints l)] X = some (.int .i64 (n + ops.length : Nat), X1) ∧ X1.WF ∧ ob1 ≠ mb ∧ X.next ≤ ob1 ∧ X1.get mb = some ⟨ty, 3, f1, [[.int .i64 n, .sl ob1 4 0 (ops.length + 1), vu]]⟩ ∧
      X1.get ob1 = some ⟨T.ty_api_Op, 4, true, opRows (ops ++ [addO k l])⟩ ∧ X1.next = X.next + 3 ∧ (∀ c, c < X.next → c ≠ mb → (∀ ob, vo = .sl ob 4 0 ops.length → c ≠ ob) → X1.get c = X.get c) := by
  have hb := hX _ _ hg
  match l, hll with
  | [], _ =>
    rcases ho with ⟨h1, rfl⟩ | ⟨ob, h1, rfl, h3⟩
    · have hops : ops = [] := by simpa [opRows] using h1
      subst hops
      refine ⟨?_, X.next + 2, false, ?_, ?_, ?_, ?_, ?_, ?_, ?_, ?_⟩
      rotate_left
      · simp -implicitDefEqProofs +contextual (disch := try first | omega | assumption) [isw_maker_add.spec, isw_maker_add, isw_maker_add.l0, aloop_unroll, hg, ints]
        rfl
      · (repeat' (first | assumption | with_reducible apply AHeap.WF.push | with_reducible apply AHeap.WF.set)) <;> (simp <;> omega)
      · omega
      · omega
      · simp (disch := omega) []
      · simp (disch := omega) [addO, ati, opRows, OpM.cells]
      · simp
      · intro c q1 q2 _; simp (disch := omega) [q2]
    · have hob := hX _ _ h3
      refine ⟨?_, X.next + 2, false, ?_, ?_, ?_, ?_, ?_, ?_, ?_, ?_⟩
      rotate_left
      · simp -implicitDefEqProofs +contextual (disch := try first | omega | assumption) [isw_maker_add.spec, isw_maker_add, isw_maker_add.l0, aloop_unroll, hg, ints, h3]
        constructor
        · omega
        · rfl
      · (repeat' (first | assumption | with_reducible apply AHeap.WF.push | with_reducible apply AHeap.WF.set)) <;> (simp <;> omega)
      · omega
      · omega
      · simp (disch := omega) []
      · simp (disch := omega) [addO, ati, opRows, OpM.cells]
      · simp
      · intro c q1 q2 q3; have q4 := q3 ob (by simp [opRows]); simp (disch := omega) [q2, q4]
  | [a], _ =>
    rcases ho with ⟨h1, rfl⟩ | ⟨ob, h1, rfl, h3⟩
    · have hops : ops = [] := by simpa [opRows] using h1
      subst hops
      refine ⟨?_, X.next + 2, false, ?_, ?_, ?_, ?_, ?_, ?_, ?_, ?_⟩
      rotate_left
      · simp -implicitDefEqProofs +contextual (disch := try first | omega | assumption) [isw_maker_add.spec, isw_maker_add, isw_maker_add.l0, aloop_unroll, hg, ints]
        rfl
      · (repeat' (first | assumption | with_reducible apply AHeap.WF.push | with_reducible apply AHeap.WF.set)) <;> (simp <;> omega)
      · omega
      · omega
      · simp (disch := omega) []
      · simp (disch := omega) [addO, ati, opRows, OpM.cells]
      · simp
      · intro c q1 q2 _; simp (disch := omega) [q2]
    · have hob := hX _ _ h3
      refine ⟨?_, X.next + 2, false, ?_, ?_, ?_, ?_, ?_, ?_, ?_, ?_⟩
      rotate_left
      · simp -implicitDefEqProofs +contextual (disch := try first | omega | assumption) [isw_maker_add.spec, isw_maker_add, isw_maker_add.l0, aloop_unroll, hg, ints, h3]
        constructor
        · omega
        · rfl
      · (repeat' (first | assumption | with_reducible apply AHeap.WF.push | with_reducible apply AHeap.WF.set)) <;> (simp <;> omega)
      · omega
      · omega
      · simp (disch := omega) []
      · simp (disch := omega) [addO, ati, opRows, OpM.cells]
      · simp
      · intro c q1 q2 q3; have q4 := q3 ob (by simp [opRows]); simp (disch := omega) [q2, q4]
  | [a, b], _ =>
    rcases ho with ⟨h1, rfl⟩ | ⟨ob, h1, rfl, h3⟩
    · have hops : ops = [] := by simpa [opRows] using h1
      subst hops
      refine ⟨?_, X.next + 2, false, ?_, ?_, ?_, ?_, ?_, ?_, ?_, ?_⟩
      rotate_left
      · simp -implicitDefEqProofs +contextual (disch := try first | omega | assumption) [isw_maker_add.spec, isw_maker_add, isw_maker_add.l0, aloop_unroll, hg, ints]
        rfl
      · (repeat' (first | assumption | with_reducible apply AHeap.WF.push | with_reducible apply AHeap.WF.set)) <;> (simp <;> omega)
      · omega
      · omega
      · simp (disch := omega) []
      · simp (disch := omega) [addO, ati, opRows, OpM.cells]
      · simp
      · intro c q1 q2 _; simp (disch := omega) [q2]
    · have hob := hX _ _ h3
      refine ⟨?_, X.next + 2, false, ?_, ?_, ?_, ?_, ?_, ?_, ?_, ?_⟩
      rotate_left
      · simp -implicitDefEqProofs +contextual (disch := try first | omega | assumption) [isw_maker_add.spec, isw_maker_add, isw_maker_add.l0, aloop_unroll, hg, ints, h3]
        constructor
        · omega
        · rfl
      · (repeat' (first | assumption | with_reducible apply AHeap.WF.push | with_reducible apply AHeap.WF.set)) <;> (simp <;> omega)
      · omega
      · omega
      · simp (disch := omega) []
      · simp (disch := omega) [addO, ati, opRows, OpM.cells]
      · simp
      · intro c q1 q2 q3; have q4 := q3 ob (by simp [opRows]); simp (disch := omega) [q2, q4]
end Go.Abs

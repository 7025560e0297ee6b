/-
  Instructions and their halfwords: which instruction a halfword is. Printed by gent2.py.
-/
import Derived.Test.YteohnepdbjmghaaT1
set_option linter.unusedSimpArgs false
set_option linter.unusedVariables false
namespace Go.Abs
open Th
theorem can_eq (i : InsM) : thumb_can.spec [InsAV i] = some (.bool i.can) := by
  obtain ⟨op, d, n, m, imm⟩ := i
  by_cases h : 0 ≤ op ∧ op ≤ 20
  · obtain ⟨k, rfl⟩ : ∃ k : Nat, op = k := ⟨op.toNat, by omega⟩
    exact cases21 (P := fun k => thumb_can.spec [InsAV ⟨k, d, n, m, imm⟩] = some (.bool (InsM.mk k d n m imm).can)) k (by omega) (can0 d n m imm) (can1 d n m imm) (can2 d n m imm) (can3 d n m imm) (can4 d n m imm) (can5 d n m imm) (can6 d n m imm) (can7 d n m imm) (can8 d n m imm) (can9 d n m imm) (can10 d n m imm)
      (can11 d n m imm) (can12 d n m imm) (can13 d n m imm) (can14 d n m imm) (can15 d n m imm) (can16 d n m imm) (can17 d n m imm) (can18 d n m imm) (can19 d n m imm) (can20 d n m imm)
  · have hc : (InsM.mk op d n m imm).can = false := by
      rw [Bool.eq_false_iff, Ne, can_iff]; exact fun q => h q.1
    have h' : op < 0 ∨ 21 ≤ op := by omega
    rw [hc]
    simp -implicitDefEqProofs +contextual (disch := omega) [thumb_can.spec, thumb_can, InsAV, h']
theorem put_eq (i : InsM) (hc : i.can = true) : thumb_put.spec [InsAV i] = some (W16 (BitVec.ofNat 16 (putN i))) := by
  obtain ⟨op, d, n, m, imm⟩ := i
  have h := ((can_iff _).1 hc).1
  dsimp only at h
  obtain ⟨k, rfl⟩ : ∃ k : Nat, op = k := ⟨op.toNat, by omega⟩
  revert hc
  exact cases21 (P := fun k => (InsM.mk k d n m imm).can = true → thumb_put.spec [InsAV ⟨k, d, n, m, imm⟩] = some (W16 (BitVec.ofNat 16 (putN ⟨k, d, n, m, imm⟩)))) k (by omega) (put0 d n m imm) (put1 d n m imm) (put2 d n m imm) (put3 d n m imm) (put4 d n m imm) (put5 d n m imm) (put6 d n m imm) (put7 d n m imm) (put8 d n m imm) (put9 d n m imm) (put10 d n m imm)
    (put11 d n m imm) (put12 d n m imm) (put13 d n m imm) (put14 d n m imm) (put15 d n m imm) (put16 d n m imm) (put17 d n m imm) (put18 d n m imm) (put19 d n m imm) (put20 d n m imm)
def putM (i : InsM) : BitVec 16 × Int := if i.can then (BitVec.ofNat 16 (putN i), 0) else (0#16, 1)
def insBlk (i : InsM) : Blk := ⟨T.ty_api_Ins, 5, true, [[.int .i64 i.op, .int .i64 i.d, .int .i64 i.n, .int .i64 i.m, .int .i64 i.imm]]⟩
end Go.Abs

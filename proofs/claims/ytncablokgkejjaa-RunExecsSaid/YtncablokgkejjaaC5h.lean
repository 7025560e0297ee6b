/-
  What instructions do: the document's conditions. Printed by genc5.py.
-/
import Derived.Test.YtncablokgkejjaaCA
import Derived.Test.YtncablokgkejjaaCrF
import Derived.KernelRfl
set_option linter.unusedSimpArgs false
set_option linter.unusedVariables false
namespace Go.Abs
theorem rFlags_eq (s : StM) (w : BitVec 32) : ref06_Flags.spec [.agg s.cells, W32 w] = some (.agg (flagsM s w).cells) := by
  have h : decide (2147483648#32 ≤ w) = w.msb := by rw [BitVec.msb_eq_decide, decide_eq_decide, BitVec.le_def]; exact Iff.rfl
  simp -implicitDefEqProofs +contextual (disch := omega) [ref06_Flags.spec, ref06_Flags, h, flagsM]
theorem rholds0 (a0 a1 a2 a3 a4 a5 a6 a7 pc : BitVec 32) (n z c v : Bool) (h : [a0, a1, a2, a3, a4, a5, a6, a7].length = 8) : ref06_Holds.spec [.int .i64 0, .agg (StM.mk [a0, a1, a2, a3, a4, a5, a6, a7] h pc n z c v).cells] = some (.bool (holdsN 0 ⟨[a0, a1, a2, a3, a4, a5, a6, a7], h, pc, n, z, c, v⟩)) := by
  cases n <;> cases z <;> cases c <;> cases v
  all_goals kernel_rfl
theorem rholds1 (a0 a1 a2 a3 a4 a5 a6 a7 pc : BitVec 32) (n z c v : Bool) (h : [a0, a1, a2, a3, a4, a5, a6, a7].length = 8) : ref06_Holds.spec [.int .i64 1, .agg (StM.mk [a0, a1, a2, a3, a4, a5, a6, a7] h pc n z c v).cells] = some (.bool (holdsN 1 ⟨[a0, a1, a2, a3, a4, a5, a6, a7], h, pc, n, z, c, v⟩)) := by
  cases n <;> cases z <;> cases c <;> cases v
  all_goals kernel_rfl
theorem rholds2 (a0 a1 a2 a3 a4 a5 a6 a7 pc : BitVec 32) (n z c v : Bool) (h : [a0, a1, a2, a3, a4, a5, a6, a7].length = 8) : ref06_Holds.spec [.int .i64 2, .agg (StM.mk [a0, a1, a2, a3, a4, a5, a6, a7] h pc n z c v).cells] = some (.bool (holdsN 2 ⟨[a0, a1, a2, a3, a4, a5, a6, a7], h, pc, n, z, c, v⟩)) := by
  cases n <;> cases z <;> cases c <;> cases v
  all_goals kernel_rfl
theorem rholds3 (a0 a1 a2 a3 a4 a5 a6 a7 pc : BitVec 32) (n z c v : Bool) (h : [a0, a1, a2, a3, a4, a5, a6, a7].length = 8) : ref06_Holds.spec [.int .i64 3, .agg (StM.mk [a0, a1, a2, a3, a4, a5, a6, a7] h pc n z c v).cells] = some (.bool (holdsN 3 ⟨[a0, a1, a2, a3, a4, a5, a6, a7], h, pc, n, z, c, v⟩)) := by
  cases n <;> cases z <;> cases c <;> cases v
  all_goals kernel_rfl
theorem rholds4 (a0 a1 a2 a3 a4 a5 a6 a7 pc : BitVec 32) (n z c v : Bool) (h : [a0, a1, a2, a3, a4, a5, a6, a7].length = 8) : ref06_Holds.spec [.int .i64 4, .agg (StM.mk [a0, a1, a2, a3, a4, a5, a6, a7] h pc n z c v).cells] = some (.bool (holdsN 4 ⟨[a0, a1, a2, a3, a4, a5, a6, a7], h, pc, n, z, c, v⟩)) := by
  cases n <;> cases z <;> cases c <;> cases v
  all_goals kernel_rfl
theorem rholds5 (a0 a1 a2 a3 a4 a5 a6 a7 pc : BitVec 32) (n z c v : Bool) (h : [a0, a1, a2, a3, a4, a5, a6, a7].length = 8) : ref06_Holds.spec [.int .i64 5, .agg (StM.mk [a0, a1, a2, a3, a4, a5, a6, a7] h pc n z c v).cells] = some (.bool (holdsN 5 ⟨[a0, a1, a2, a3, a4, a5, a6, a7], h, pc, n, z, c, v⟩)) := by
  cases n <;> cases z <;> cases c <;> cases v
  all_goals kernel_rfl
theorem rholds6 (a0 a1 a2 a3 a4 a5 a6 a7 pc : BitVec 32) (n z c v : Bool) (h : [a0, a1, a2, a3, a4, a5, a6, a7].length = 8) : ref06_Holds.spec [.int .i64 6, .agg (StM.mk [a0, a1, a2, a3, a4, a5, a6, a7] h pc n z c v).cells] = some (.bool (holdsN 6 ⟨[a0, a1, a2, a3, a4, a5, a6, a7], h, pc, n, z, c, v⟩)) := by
  cases n <;> cases z <;> cases c <;> cases v
  all_goals kernel_rfl
theorem rholds7 (a0 a1 a2 a3 a4 a5 a6 a7 pc : BitVec 32) (n z c v : Bool) (h : [a0, a1, a2, a3, a4, a5, a6, a7].length = 8) : ref06_Holds.spec [.int .i64 7, .agg (StM.mk [a0, a1, a2, a3, a4, a5, a6, a7] h pc n z c v).cells] = some (.bool (holdsN 7 ⟨[a0, a1, a2, a3, a4, a5, a6, a7], h, pc, n, z, c, v⟩)) := by
  cases n <;> cases z <;> cases c <;> cases v
  all_goals kernel_rfl
theorem rholds8 (a0 a1 a2 a3 a4 a5 a6 a7 pc : BitVec 32) (n z c v : Bool) (h : [a0, a1, a2, a3, a4, a5, a6, a7].length = 8) : ref06_Holds.spec [.int .i64 8, .agg (StM.mk [a0, a1, a2, a3, a4, a5, a6, a7] h pc n z c v).cells] = some (.bool (holdsN 8 ⟨[a0, a1, a2, a3, a4, a5, a6, a7], h, pc, n, z, c, v⟩)) := by
  cases n <;> cases z <;> cases c <;> cases v
  all_goals kernel_rfl
theorem rholds9 (a0 a1 a2 a3 a4 a5 a6 a7 pc : BitVec 32) (n z c v : Bool) (h : [a0, a1, a2, a3, a4, a5, a6, a7].length = 8) : ref06_Holds.spec [.int .i64 9, .agg (StM.mk [a0, a1, a2, a3, a4, a5, a6, a7] h pc n z c v).cells] = some (.bool (holdsN 9 ⟨[a0, a1, a2, a3, a4, a5, a6, a7], h, pc, n, z, c, v⟩)) := by
  cases n <;> cases z <;> cases c <;> cases v
  all_goals kernel_rfl
theorem rholds10 (a0 a1 a2 a3 a4 a5 a6 a7 pc : BitVec 32) (n z c v : Bool) (h : [a0, a1, a2, a3, a4, a5, a6, a7].length = 8) : ref06_Holds.spec [.int .i64 10, .agg (StM.mk [a0, a1, a2, a3, a4, a5, a6, a7] h pc n z c v).cells] = some (.bool (holdsN 10 ⟨[a0, a1, a2, a3, a4, a5, a6, a7], h, pc, n, z, c, v⟩)) := by
  cases n <;> cases z <;> cases c <;> cases v
  all_goals kernel_rfl
theorem rholds11 (a0 a1 a2 a3 a4 a5 a6 a7 pc : BitVec 32) (n z c v : Bool) (h : [a0, a1, a2, a3, a4, a5, a6, a7].length = 8) : ref06_Holds.spec [.int .i64 11, .agg (StM.mk [a0, a1, a2, a3, a4, a5, a6, a7] h pc n z c v).cells] = some (.bool (holdsN 11 ⟨[a0, a1, a2, a3, a4, a5, a6, a7], h, pc, n, z, c, v⟩)) := by
  cases n <;> cases z <;> cases c <;> cases v
  all_goals kernel_rfl
theorem rholds12 (a0 a1 a2 a3 a4 a5 a6 a7 pc : BitVec 32) (n z c v : Bool) (h : [a0, a1, a2, a3, a4, a5, a6, a7].length = 8) : ref06_Holds.spec [.int .i64 12, .agg (StM.mk [a0, a1, a2, a3, a4, a5, a6, a7] h pc n z c v).cells] = some (.bool (holdsN 12 ⟨[a0, a1, a2, a3, a4, a5, a6, a7], h, pc, n, z, c, v⟩)) := by
  cases n <;> cases z <;> cases c <;> cases v
  all_goals kernel_rfl
theorem rholds13 (a0 a1 a2 a3 a4 a5 a6 a7 pc : BitVec 32) (n z c v : Bool) (h : [a0, a1, a2, a3, a4, a5, a6, a7].length = 8) : ref06_Holds.spec [.int .i64 13, .agg (StM.mk [a0, a1, a2, a3, a4, a5, a6, a7] h pc n z c v).cells] = some (.bool (holdsN 13 ⟨[a0, a1, a2, a3, a4, a5, a6, a7], h, pc, n, z, c, v⟩)) := by
  cases n <;> cases z <;> cases c <;> cases v
  all_goals kernel_rfl
theorem rholds_eq (k : Nat) (hk : k ≤ 13) (s : StM) : ref06_Holds.spec [.int .i64 k, .agg s.cells] = some (.bool (holdsN k s)) := by
  obtain ⟨r, len, pc, n, z, c, v⟩ := s
  match r, len with
  | [a0, a1, a2, a3, a4, a5, a6, a7], len =>
    match k, hk with
    | 0, _ => exact rholds0 a0 a1 a2 a3 a4 a5 a6 a7 pc n z c v len
    | 1, _ => exact rholds1 a0 a1 a2 a3 a4 a5 a6 a7 pc n z c v len
    | 2, _ => exact rholds2 a0 a1 a2 a3 a4 a5 a6 a7 pc n z c v len
    | 3, _ => exact rholds3 a0 a1 a2 a3 a4 a5 a6 a7 pc n z c v len
    | 4, _ => exact rholds4 a0 a1 a2 a3 a4 a5 a6 a7 pc n z c v len
    | 5, _ => exact rholds5 a0 a1 a2 a3 a4 a5 a6 a7 pc n z c v len
    | 6, _ => exact rholds6 a0 a1 a2 a3 a4 a5 a6 a7 pc n z c v len
    | 7, _ => exact rholds7 a0 a1 a2 a3 a4 a5 a6 a7 pc n z c v len
    | 8, _ => exact rholds8 a0 a1 a2 a3 a4 a5 a6 a7 pc n z c v len
    | 9, _ => exact rholds9 a0 a1 a2 a3 a4 a5 a6 a7 pc n z c v len
    | 10, _ => exact rholds10 a0 a1 a2 a3 a4 a5 a6 a7 pc n z c v len
    | 11, _ => exact rholds11 a0 a1 a2 a3 a4 a5 a6 a7 pc n z c v len
    | 12, _ => exact rholds12 a0 a1 a2 a3 a4 a5 a6 a7 pc n z c v len
    | 13, _ => exact rholds13 a0 a1 a2 a3 a4 a5 a6 a7 pc n z c v len
end Go.Abs

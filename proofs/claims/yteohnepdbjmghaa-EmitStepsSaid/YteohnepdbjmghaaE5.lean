/-
  Steps as instructions: the program's parts.
-/
import Derived.Test.YteohnepdbjmghaaE1
import Derived.Test.YteohnepdbjmghaaEmF
import Derived.Test.YteohnepdbjmghaaT1
import Derived.Test.YteohnepdbjmghaaJA
set_option linter.unusedSimpArgs false
set_option linter.unusedVariables false
namespace Go.Abs
open Th
def insRow (i : InsM) : List AV := [.int .i64 i.op, .int .i64 i.d, .int .i64 i.n, .int .i64 i.m, .int .i64 i.imm]
def insRows (l : List InsM) : List (List AV) := l.map insRow
@[simp] theorem insRows_length (l : List InsM) : (insRows l).length = l.length := by simp [insRows]
theorem insRows_append (a b : List InsM) : insRows a ++ insRows b = insRows (a ++ b) := by simp [insRows]
theorem insRows_get (l : List InsM) (k : Nat) (h : k < l.length) : (insRows l)[k]? = some (insRow l[k]) := by simp [insRows, h]
theorem insRows_all (l : List InsM) : (insRows l).take l.length = insRows l := List.take_of_length_le (by simp)
def mvI (d n : Int) : InsM := ⟨0, d, 0, 0, n⟩
def lfI (d n : Int) : InsM := ⟨4, d, 0, d, n⟩
def adI (d n : Int) : InsM := ⟨2, d, 0, 0, n⟩
def alI (op d m : Int) : InsM := ⟨11, d, 0, m, op⟩
theorem mov_eq (d n : Int) : emit_mov.spec [.int .i64 d, .int .i64 n] = some (.agg [.int .i64 0, .int .i64 d, .int .i64 0, .int .i64 0, .int .i64 n]) := by simp -implicitDefEqProofs +contextual (disch := omega) [emit_mov.spec, emit_mov]
theorem left_eq (d n : Int) : emit_left.spec [.int .i64 d, .int .i64 n] = some (.agg [.int .i64 4, .int .i64 d, .int .i64 0, .int .i64 d, .int .i64 n]) := by simp -implicitDefEqProofs +contextual (disch := omega) [emit_left.spec, emit_left]
theorem eadd_eq (d n : Int) : emit_add.spec [.int .i64 d, .int .i64 n] = some (.agg [.int .i64 2, .int .i64 d, .int .i64 0, .int .i64 0, .int .i64 n]) := by simp -implicitDefEqProofs +contextual (disch := omega) [emit_add.spec, emit_add]
theorem ealu_eq (op d m : Int) : emit_alu.spec [.int .i64 op, .int .i64 d, .int .i64 m] = some (.agg [.int .i64 11, .int .i64 d, .int .i64 0, .int .i64 m, .int .i64 op]) := by simp -implicitDefEqProofs +contextual (disch := omega) [emit_alu.spec, emit_alu]
def atI (n : Nat) : List InsM := if 4 * n < 256 then [mvI 6 (4 * n : Nat)] else [mvI 6 (4 * n / 256 : Nat), lfI 6 8, adI 6 (4 * n % 256 : Nat)]
theorem atI_len (n : Nat) : 1 ≤ (atI n).length ∧ (atI n).length ≤ 3 := by unfold atI; split <;> simp
theorem at_ref_eq (n : Nat) (h : n ≤ 16000) (H : AHeap) : emit_at_ref.spec [.int .i64 n] H = some (.sl H.next 5 0 (atI n).length, H.push ⟨T.ty_api_Ins, 5, true, insRows (atI n)⟩) := by
  unfold atI
  have h4 : (n : Int) * 4 = ((4 * n : Nat) : Int) := by omega
  generalize hm : 4 * n = m at *
  by_cases hs : m < 256
  · rw [if_pos hs]
    have hs' : (m : Int) < 256 := by omega
    simp -implicitDefEqProofs +contextual (disch := omega) [emit_at_ref.spec, emit_at_ref, h4, hs', mov_eq, insRows, insRow, mvI]
  · rw [if_neg hs]
    have hs' : ¬ (m : Int) < 256 := by omega
    have hd : ((m / 256 : Nat) : Int) = (m : Int) / 256 := by omega
    have hr : ((m % 256 : Nat) : Int) = (m : Int) % 256 := by omega
    simp -implicitDefEqProofs +contextual (disch := omega) [emit_at_ref.spec, emit_at_ref, h4, hs', mov_eq, left_eq, eadd_eq, insRows, insRow, mvI, lfI, adI, hd, hr]
theorem at_eq (n : Nat) (h : n ≤ 16000) : emit_at.spec [.int .i64 n] = some (.rsl 5 (insRows (atI n))) := by
  unfold atI
  have h4 : (n : Int) * 4 = ((4 * n : Nat) : Int) := by omega
  generalize hm : 4 * n = m at *
  by_cases hs : m < 256
  · rw [if_pos hs]
    have hs' : (m : Int) < 256 := by omega
    simp -implicitDefEqProofs +contextual (disch := omega) [emit_at.spec, emit_at, h4, hs', mov_eq, insRows, insRow, mvI]
  · rw [if_neg hs]
    have hs' : ¬ (m : Int) < 256 := by omega
    have hd : ((m / 256 : Nat) : Int) = (m : Int) / 256 := by omega
    have hr : ((m % 256 : Nat) : Int) = (m : Int) % 256 := by omega
    simp -implicitDefEqProofs +contextual (disch := omega) [emit_at.spec, emit_at, h4, hs', mov_eq, left_eq, eadd_eq, insRows, insRow, mvI, lfI, adI, hd, hr]
def getI (r : Int) (n : Nat) : List InsM := atI n ++ [⟨14, r, 7, 6, 0⟩]
def putI (n : Nat) : List InsM := atI n ++ [⟨15, 0, 7, 6, 0⟩]
theorem get_eq (r : Int) (n : Nat) (h : n ≤ 16000) : emit_get.spec [.int .i64 r, .int .i64 n] = some (.rsl 5 (insRows (getI r n))) := by
  have hA := at_ref_eq n h
  obtain ⟨l1, l3⟩ := atI_len n
  have ht : (insRows (atI n) ++ [[AV.int .i64 14, .int .i64 r, .int .i64 7, .int .i64 6, .int .i64 0]]).take ((atI n).length + 1) = insRows (atI n) ++ [[AV.int .i64 14, .int .i64 r, .int .i64 7, .int .i64 6, .int .i64 0]] := List.take_of_length_le (by simp)
  have he : insRows (getI r n) = insRows (atI n) ++ [[AV.int .i64 14, .int .i64 r, .int .i64 7, .int .i64 6, .int .i64 0]] := by simp [getI, insRows, insRow]
  rw [he]
  generalize atI n = l at *
  simp -implicitDefEqProofs +contextual (disch := omega) [emit_get.spec, emit_get, hA, ht]
theorem eput_eq (n : Nat) (h : n ≤ 16000) : emit_put.spec [.int .i64 n] = some (.rsl 5 (insRows (putI n))) := by
  have hA := at_ref_eq n h
  obtain ⟨l1, l3⟩ := atI_len n
  have ht : (insRows (atI n) ++ [[AV.int .i64 15, .int .i64 0, .int .i64 7, .int .i64 6, .int .i64 0]]).take ((atI n).length + 1) = insRows (atI n) ++ [[AV.int .i64 15, .int .i64 0, .int .i64 7, .int .i64 6, .int .i64 0]] := List.take_of_length_le (by simp)
  have he : insRows (putI n) = insRows (atI n) ++ [[AV.int .i64 15, .int .i64 0, .int .i64 7, .int .i64 6, .int .i64 0]] := by simp [putI, insRows, insRow]
  rw [he]
  generalize atI n = l at *
  simp -implicitDefEqProofs +contextual (disch := omega) [emit_put.spec, emit_put, hA, ht]
def beginI : List InsM := [mvI 7 32, lfI 7 24, mvI 5 64, lfI 5 24]
theorem begin_eq : emit_Begin.spec [] = some (.rsl 5 (insRows beginI)) := by
  simp -implicitDefEqProofs +contextual (disch := omega) [emit_Begin.spec, emit_Begin, mov_eq, left_eq, beginI, insRows, insRow, mvI, lfI]
theorem slot_eq (n : Int) : emit_slot.spec [.int .i64 n] = some (.bool (decide (0 ≤ n) && decide (n ≤ 16000))) := by
  by_cases h : 0 ≤ n
  · by_cases h2 : n ≤ 16000 <;> simp -implicitDefEqProofs +contextual (disch := omega) [emit_slot.spec, emit_slot, h, h2]
  · simp -implicitDefEqProofs +contextual (disch := omega) [emit_slot.spec, emit_slot, h]
theorem Slot_eq (n : Int) : emit_Slot.spec [.int .i64 n] = some (.rsl 5 (insRows (if 0 ≤ n ∧ n ≤ 16000 then atI n.toNat else []))) := by
  have hs := slot_eq n
  by_cases h : 0 ≤ n ∧ n ≤ 16000
  · obtain ⟨k, rfl⟩ : ∃ k : Nat, n = k := ⟨n.toNat, by omega⟩
    have hA := at_eq k (by omega)
    rw [if_pos h, Int.toNat_natCast]
    rw [decide_eq_true h.1, decide_eq_true h.2] at hs
    generalize atI k = l at *
    simp -implicitDefEqProofs +contextual (disch := omega) [emit_Slot.spec, emit_Slot, hs, hA]
  · rw [if_neg h]
    have hf : (decide (0 ≤ n) && decide (n ≤ 16000)) = false := by rw [← Bool.decide_and]; exact decide_eq_false h
    rw [hf] at hs
    simp -implicitDefEqProofs +contextual (disch := omega) [emit_Slot.spec, emit_Slot, hs, insRows]
end Go.Abs

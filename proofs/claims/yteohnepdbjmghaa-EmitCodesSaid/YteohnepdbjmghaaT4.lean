/-
  Instructions and their halfwords: the document's answers. Printed by gent4.py.
-/
import Derived.Test.YteohnepdbjmghaaT2
import Derived.Test.YteohnepdbjmghaaLoF
import Derived.KernelRfl
set_option linter.unusedSimpArgs false
set_option linter.unusedVariables false
namespace Go.Abs
open Th
def Chars (s : ByteArray) (l : List Nat) : Prop := s.size = l.length ∧ ∀ (k : Nat) (h1 : k < l.length) (h2 : k < s.size), s[k].toBitVec.toNat = l[k]
theorem has_loop (s : ByteArray) (l : List Nat) (hs : Chars s l) (hl : l.length ≤ 1000) (c : BitVec 8) (H : AHeap) : ∀ d i : Nat, i + d = l.length →
    aloop ref02_has.l0 (AFr.al [(0, .str s), (1, W8 c), (5, .int .i64 (i : Int))]) H =
      if (l.drop i).any (· == c.toNat) = true then some (.ret, AFr.al [(4, .bool true)], H) else some (.exit 0, AFr.al [(0, .str s), (1, W8 c), (5, .int .i64 (l.length : Int)), (9, .bool false)], H)
  | 0, i, h => by
    rw [aloop_unroll, List.drop_of_length_le (by omega), if_neg (by simp)]
    have h1 := hs.1
    simp -implicitDefEqProofs +contextual (disch := omega) [ref02_has.l0, show i = l.length from by omega, h1]
  | d + 1, i, h => by
    have ih := has_loop s l hs hl c H d (i + 1) (by omega)
    rw [Int.natCast_succ] at ih
    have h1 := hs.1
    have hb := hs.2 i (by omega) (by omega)
    have hr : (l.drop i).any (· == c.toNat) = ((l[i] == c.toNat) || (l.drop (i + 1)).any (· == c.toNat)) := by rw [List.drop_eq_getElem_cons (by omega), List.any_cons]
    rw [aloop_unroll, hr]
    by_cases q : s[i].toBitVec = c
    · have q3 : (l[i] == c.toNat) = true := by rw [← hb, q]; simp
      rw [q3, Bool.true_or, if_pos rfl]
      simp -implicitDefEqProofs +contextual (disch := omega) [ref02_has.l0, h1, q]
    · have q3 : (l[i] == c.toNat) = false := by rw [← hb, beq_eq_false_iff_ne]; exact fun e => q (BitVec.eq_of_toNat_eq e)
      rw [q3, Bool.false_or, ← ih]
      simp -implicitDefEqProofs +contextual (disch := omega) [ref02_has.l0, h1, q]
theorem has_eq (s : ByteArray) (l : List Nat) (hs : Chars s l) (hl : l.length ≤ 1000) (c : BitVec 8) : ref02_has.spec [.str s, W8 c] = some (.bool (l.any (· == c.toNat))) := by
  have h := has_loop s l hs hl c AHeap.empty l.length 0 (by omega)
  rw [List.drop_zero] at h
  rw [show ((0 : Nat) : Int) = 0 from rfl] at h
  cases hq : l.any (· == c.toNat) with
  | true =>
    rw [if_pos hq] at h
    simp -implicitDefEqProofs +contextual (disch := omega) [ref02_has.spec, ref02_has, h]
  | false =>
    rw [if_neg (by rw [hq]; simp)] at h
    simp -implicitDefEqProofs +contextual (disch := omega) [ref02_has.spec, ref02_has, h]
def txtB (op : Nat) : ByteArray := ⟨((txt op).map fun n => UInt8.ofNat n).toArray⟩
theorem txt_chars (op : Nat) (hop : op ≤ 20) : Chars (txtB op) (txt op) := by
  have hl : ∀ op : Nat, op ≤ 20 → (txt op).length = 16 := by decide
  have hb : ∀ op : Nat, op ≤ 20 → ∀ c, c ∈ txt op → c < 256 := by decide
  refine ⟨by simp [txtB, ByteArray.size], fun k h1 h2 => ?_⟩
  have h3 := hb op hop _ (List.getElem_mem h1)
  have : (txtB op)[k] = UInt8.ofNat ((txt op)[k]) := by
    simp [txtB, ByteArray.getElem_eq_getElem_data]
  rw [this]
  simp [BitVec.toNat_ofNat]
  omega
set_option maxHeartbeats 1000000 in
theorem Shape0 : ref02_Shape.spec [.int .i64 0] = some (.str (txtB 0)) := by kernel_rfl
set_option maxHeartbeats 1000000 in
theorem Low0 : ref02_Low.spec [.int .i64 0] = some (.int .i64 (shp 0).low) := by kernel_rfl
set_option maxHeartbeats 1000000 in
theorem High0 : ref02_High.spec [.int .i64 0] = some (.int .i64 (shp 0).high) := by kernel_rfl
set_option maxHeartbeats 1000000 in
theorem Can0 (d n m imm : Int) : ref02_Can.spec [InsAV ⟨0, d, n, m, imm⟩] = some (.bool (InsM.mk 0 d n m imm).can) := by
  have f1 := has_eq (txtB 0) (txt 0) (txt_chars 0 (by omega)) (by decide) 99#8
  have f2 := has_eq (txtB 0) (txt 0) (txt_chars 0 (by omega)) (by decide) 100#8
  have f3 := has_eq (txtB 0) (txt 0) (txt_chars 0 (by omega)) (by decide) 110#8
  have f4 := has_eq (txtB 0) (txt 0) (txt_chars 0 (by omega)) (by decide) 109#8
  simp [txt] at f1 f2 f3 f4
  have g1 := Shape0; have g2 := Low0; have g3 := High0
  simp [shp] at g2 g3
  have hc := can_op 0 (by omega) d n m imm
  simp only [shp, maxD, maxN, maxM, hasD, hasN, hasM] at hc
  generalize hb : (InsM.mk 0 d n m imm).can = b
  rw [show (InsM.mk (0 : Nat) d n m imm).can = b from hb] at hc
  repeat' (first
    | (simp -implicitDefEqProofs +contextual (disch := omega) [ref02_Can.spec, ref02_Can, InsAV, f1, f2, f3, f4, g1, g2, g3])
    | (refine acondO_elim (fun h => ?_) (fun h => ?_)))
  all_goals (first | (cases b <;> simp_all <;> omega) | trace_state)
set_option maxHeartbeats 1000000 in
theorem Shape1 : ref02_Shape.spec [.int .i64 1] = some (.str (txtB 1)) := by kernel_rfl
set_option maxHeartbeats 1000000 in
theorem Low1 : ref02_Low.spec [.int .i64 1] = some (.int .i64 (shp 1).low) := by kernel_rfl
set_option maxHeartbeats 1000000 in
theorem High1 : ref02_High.spec [.int .i64 1] = some (.int .i64 (shp 1).high) := by kernel_rfl
set_option maxHeartbeats 1000000 in
theorem Can1 (d n m imm : Int) : ref02_Can.spec [InsAV ⟨1, d, n, m, imm⟩] = some (.bool (InsM.mk 1 d n m imm).can) := by
  have f1 := has_eq (txtB 1) (txt 1) (txt_chars 1 (by omega)) (by decide) 99#8
  have f2 := has_eq (txtB 1) (txt 1) (txt_chars 1 (by omega)) (by decide) 100#8
  have f3 := has_eq (txtB 1) (txt 1) (txt_chars 1 (by omega)) (by decide) 110#8
  have f4 := has_eq (txtB 1) (txt 1) (txt_chars 1 (by omega)) (by decide) 109#8
  simp [txt] at f1 f2 f3 f4
  have g1 := Shape1; have g2 := Low1; have g3 := High1
  simp [shp] at g2 g3
  have hc := can_op 1 (by omega) d n m imm
  simp only [shp, maxD, maxN, maxM, hasD, hasN, hasM] at hc
  generalize hb : (InsM.mk 1 d n m imm).can = b
  rw [show (InsM.mk (1 : Nat) d n m imm).can = b from hb] at hc
  repeat' (first
    | (simp -implicitDefEqProofs +contextual (disch := omega) [ref02_Can.spec, ref02_Can, InsAV, f1, f2, f3, f4, g1, g2, g3])
    | (refine acondO_elim (fun h => ?_) (fun h => ?_)))
  all_goals (first | (cases b <;> simp_all <;> omega) | trace_state)
set_option maxHeartbeats 1000000 in
theorem Shape2 : ref02_Shape.spec [.int .i64 2] = some (.str (txtB 2)) := by kernel_rfl
set_option maxHeartbeats 1000000 in
theorem Low2 : ref02_Low.spec [.int .i64 2] = some (.int .i64 (shp 2).low) := by kernel_rfl
set_option maxHeartbeats 1000000 in
theorem High2 : ref02_High.spec [.int .i64 2] = some (.int .i64 (shp 2).high) := by kernel_rfl
set_option maxHeartbeats 1000000 in
theorem Can2 (d n m imm : Int) : ref02_Can.spec [InsAV ⟨2, d, n, m, imm⟩] = some (.bool (InsM.mk 2 d n m imm).can) := by
  have f1 := has_eq (txtB 2) (txt 2) (txt_chars 2 (by omega)) (by decide) 99#8
  have f2 := has_eq (txtB 2) (txt 2) (txt_chars 2 (by omega)) (by decide) 100#8
  have f3 := has_eq (txtB 2) (txt 2) (txt_chars 2 (by omega)) (by decide) 110#8
  have f4 := has_eq (txtB 2) (txt 2) (txt_chars 2 (by omega)) (by decide) 109#8
  simp [txt] at f1 f2 f3 f4
  have g1 := Shape2; have g2 := Low2; have g3 := High2
  simp [shp] at g2 g3
  have hc := can_op 2 (by omega) d n m imm
  simp only [shp, maxD, maxN, maxM, hasD, hasN, hasM] at hc
  generalize hb : (InsM.mk 2 d n m imm).can = b
  rw [show (InsM.mk (2 : Nat) d n m imm).can = b from hb] at hc
  repeat' (first
    | (simp -implicitDefEqProofs +contextual (disch := omega) [ref02_Can.spec, ref02_Can, InsAV, f1, f2, f3, f4, g1, g2, g3])
    | (refine acondO_elim (fun h => ?_) (fun h => ?_)))
  all_goals (first | (cases b <;> simp_all <;> omega) | trace_state)
set_option maxHeartbeats 1000000 in
theorem Shape3 : ref02_Shape.spec [.int .i64 3] = some (.str (txtB 3)) := by kernel_rfl
set_option maxHeartbeats 1000000 in
theorem Low3 : ref02_Low.spec [.int .i64 3] = some (.int .i64 (shp 3).low) := by kernel_rfl
set_option maxHeartbeats 1000000 in
theorem High3 : ref02_High.spec [.int .i64 3] = some (.int .i64 (shp 3).high) := by kernel_rfl
set_option maxHeartbeats 1000000 in
theorem Can3 (d n m imm : Int) : ref02_Can.spec [InsAV ⟨3, d, n, m, imm⟩] = some (.bool (InsM.mk 3 d n m imm).can) := by
  have f1 := has_eq (txtB 3) (txt 3) (txt_chars 3 (by omega)) (by decide) 99#8
  have f2 := has_eq (txtB 3) (txt 3) (txt_chars 3 (by omega)) (by decide) 100#8
  have f3 := has_eq (txtB 3) (txt 3) (txt_chars 3 (by omega)) (by decide) 110#8
  have f4 := has_eq (txtB 3) (txt 3) (txt_chars 3 (by omega)) (by decide) 109#8
  simp [txt] at f1 f2 f3 f4
  have g1 := Shape3; have g2 := Low3; have g3 := High3
  simp [shp] at g2 g3
  have hc := can_op 3 (by omega) d n m imm
  simp only [shp, maxD, maxN, maxM, hasD, hasN, hasM] at hc
  generalize hb : (InsM.mk 3 d n m imm).can = b
  rw [show (InsM.mk (3 : Nat) d n m imm).can = b from hb] at hc
  repeat' (first
    | (simp -implicitDefEqProofs +contextual (disch := omega) [ref02_Can.spec, ref02_Can, InsAV, f1, f2, f3, f4, g1, g2, g3])
    | (refine acondO_elim (fun h => ?_) (fun h => ?_)))
  all_goals (first | (cases b <;> simp_all <;> omega) | trace_state)
set_option maxHeartbeats 1000000 in
theorem Shape4 : ref02_Shape.spec [.int .i64 4] = some (.str (txtB 4)) := by kernel_rfl
set_option maxHeartbeats 1000000 in
theorem Low4 : ref02_Low.spec [.int .i64 4] = some (.int .i64 (shp 4).low) := by kernel_rfl
set_option maxHeartbeats 1000000 in
theorem High4 : ref02_High.spec [.int .i64 4] = some (.int .i64 (shp 4).high) := by kernel_rfl
set_option maxHeartbeats 1000000 in
theorem Can4 (d n m imm : Int) : ref02_Can.spec [InsAV ⟨4, d, n, m, imm⟩] = some (.bool (InsM.mk 4 d n m imm).can) := by
  have f1 := has_eq (txtB 4) (txt 4) (txt_chars 4 (by omega)) (by decide) 99#8
  have f2 := has_eq (txtB 4) (txt 4) (txt_chars 4 (by omega)) (by decide) 100#8
  have f3 := has_eq (txtB 4) (txt 4) (txt_chars 4 (by omega)) (by decide) 110#8
  have f4 := has_eq (txtB 4) (txt 4) (txt_chars 4 (by omega)) (by decide) 109#8
  simp [txt] at f1 f2 f3 f4
  have g1 := Shape4; have g2 := Low4; have g3 := High4
  simp [shp] at g2 g3
  have hc := can_op 4 (by omega) d n m imm
  simp only [shp, maxD, maxN, maxM, hasD, hasN, hasM] at hc
  generalize hb : (InsM.mk 4 d n m imm).can = b
  rw [show (InsM.mk (4 : Nat) d n m imm).can = b from hb] at hc
  repeat' (first
    | (simp -implicitDefEqProofs +contextual (disch := omega) [ref02_Can.spec, ref02_Can, InsAV, f1, f2, f3, f4, g1, g2, g3])
    | (refine acondO_elim (fun h => ?_) (fun h => ?_)))
  all_goals (first | (cases b <;> simp_all <;> omega) | trace_state)
set_option maxHeartbeats 1000000 in
theorem Shape5 : ref02_Shape.spec [.int .i64 5] = some (.str (txtB 5)) := by kernel_rfl
set_option maxHeartbeats 1000000 in
theorem Low5 : ref02_Low.spec [.int .i64 5] = some (.int .i64 (shp 5).low) := by kernel_rfl
set_option maxHeartbeats 1000000 in
theorem High5 : ref02_High.spec [.int .i64 5] = some (.int .i64 (shp 5).high) := by kernel_rfl
set_option maxHeartbeats 1000000 in
theorem Can5 (d n m imm : Int) : ref02_Can.spec [InsAV ⟨5, d, n, m, imm⟩] = some (.bool (InsM.mk 5 d n m imm).can) := by
  have f1 := has_eq (txtB 5) (txt 5) (txt_chars 5 (by omega)) (by decide) 99#8
  have f2 := has_eq (txtB 5) (txt 5) (txt_chars 5 (by omega)) (by decide) 100#8
  have f3 := has_eq (txtB 5) (txt 5) (txt_chars 5 (by omega)) (by decide) 110#8
  have f4 := has_eq (txtB 5) (txt 5) (txt_chars 5 (by omega)) (by decide) 109#8
  simp [txt] at f1 f2 f3 f4
  have g1 := Shape5; have g2 := Low5; have g3 := High5
  simp [shp] at g2 g3
  have hc := can_op 5 (by omega) d n m imm
  simp only [shp, maxD, maxN, maxM, hasD, hasN, hasM] at hc
  generalize hb : (InsM.mk 5 d n m imm).can = b
  rw [show (InsM.mk (5 : Nat) d n m imm).can = b from hb] at hc
  repeat' (first
    | (simp -implicitDefEqProofs +contextual (disch := omega) [ref02_Can.spec, ref02_Can, InsAV, f1, f2, f3, f4, g1, g2, g3])
    | (refine acondO_elim (fun h => ?_) (fun h => ?_)))
  all_goals (first | (cases b <;> simp_all <;> omega) | trace_state)
set_option maxHeartbeats 1000000 in
theorem Shape6 : ref02_Shape.spec [.int .i64 6] = some (.str (txtB 6)) := by kernel_rfl
set_option maxHeartbeats 1000000 in
theorem Low6 : ref02_Low.spec [.int .i64 6] = some (.int .i64 (shp 6).low) := by kernel_rfl
set_option maxHeartbeats 1000000 in
theorem High6 : ref02_High.spec [.int .i64 6] = some (.int .i64 (shp 6).high) := by kernel_rfl
set_option maxHeartbeats 1000000 in
theorem Can6 (d n m imm : Int) : ref02_Can.spec [InsAV ⟨6, d, n, m, imm⟩] = some (.bool (InsM.mk 6 d n m imm).can) := by
  have f1 := has_eq (txtB 6) (txt 6) (txt_chars 6 (by omega)) (by decide) 99#8
  have f2 := has_eq (txtB 6) (txt 6) (txt_chars 6 (by omega)) (by decide) 100#8
  have f3 := has_eq (txtB 6) (txt 6) (txt_chars 6 (by omega)) (by decide) 110#8
  have f4 := has_eq (txtB 6) (txt 6) (txt_chars 6 (by omega)) (by decide) 109#8
  simp [txt] at f1 f2 f3 f4
  have g1 := Shape6; have g2 := Low6; have g3 := High6
  simp [shp] at g2 g3
  have hc := can_op 6 (by omega) d n m imm
  simp only [shp, maxD, maxN, maxM, hasD, hasN, hasM] at hc
  generalize hb : (InsM.mk 6 d n m imm).can = b
  rw [show (InsM.mk (6 : Nat) d n m imm).can = b from hb] at hc
  repeat' (first
    | (simp -implicitDefEqProofs +contextual (disch := omega) [ref02_Can.spec, ref02_Can, InsAV, f1, f2, f3, f4, g1, g2, g3])
    | (refine acondO_elim (fun h => ?_) (fun h => ?_)))
  all_goals (first | (cases b <;> simp_all <;> omega) | trace_state)
set_option maxHeartbeats 1000000 in
theorem Shape7 : ref02_Shape.spec [.int .i64 7] = some (.str (txtB 7)) := by kernel_rfl
set_option maxHeartbeats 1000000 in
theorem Low7 : ref02_Low.spec [.int .i64 7] = some (.int .i64 (shp 7).low) := by kernel_rfl
set_option maxHeartbeats 1000000 in
theorem High7 : ref02_High.spec [.int .i64 7] = some (.int .i64 (shp 7).high) := by kernel_rfl
set_option maxHeartbeats 1000000 in
theorem Can7 (d n m imm : Int) : ref02_Can.spec [InsAV ⟨7, d, n, m, imm⟩] = some (.bool (InsM.mk 7 d n m imm).can) := by
  have f1 := has_eq (txtB 7) (txt 7) (txt_chars 7 (by omega)) (by decide) 99#8
  have f2 := has_eq (txtB 7) (txt 7) (txt_chars 7 (by omega)) (by decide) 100#8
  have f3 := has_eq (txtB 7) (txt 7) (txt_chars 7 (by omega)) (by decide) 110#8
  have f4 := has_eq (txtB 7) (txt 7) (txt_chars 7 (by omega)) (by decide) 109#8
  simp [txt] at f1 f2 f3 f4
  have g1 := Shape7; have g2 := Low7; have g3 := High7
  simp [shp] at g2 g3
  have hc := can_op 7 (by omega) d n m imm
  simp only [shp, maxD, maxN, maxM, hasD, hasN, hasM] at hc
  generalize hb : (InsM.mk 7 d n m imm).can = b
  rw [show (InsM.mk (7 : Nat) d n m imm).can = b from hb] at hc
  repeat' (first
    | (simp -implicitDefEqProofs +contextual (disch := omega) [ref02_Can.spec, ref02_Can, InsAV, f1, f2, f3, f4, g1, g2, g3])
    | (refine acondO_elim (fun h => ?_) (fun h => ?_)))
  all_goals (first | (cases b <;> simp_all <;> omega) | trace_state)
set_option maxHeartbeats 1000000 in
theorem Shape8 : ref02_Shape.spec [.int .i64 8] = some (.str (txtB 8)) := by kernel_rfl
set_option maxHeartbeats 1000000 in
theorem Low8 : ref02_Low.spec [.int .i64 8] = some (.int .i64 (shp 8).low) := by kernel_rfl
set_option maxHeartbeats 1000000 in
theorem High8 : ref02_High.spec [.int .i64 8] = some (.int .i64 (shp 8).high) := by kernel_rfl
set_option maxHeartbeats 1000000 in
theorem Can8 (d n m imm : Int) : ref02_Can.spec [InsAV ⟨8, d, n, m, imm⟩] = some (.bool (InsM.mk 8 d n m imm).can) := by
  have f1 := has_eq (txtB 8) (txt 8) (txt_chars 8 (by omega)) (by decide) 99#8
  have f2 := has_eq (txtB 8) (txt 8) (txt_chars 8 (by omega)) (by decide) 100#8
  have f3 := has_eq (txtB 8) (txt 8) (txt_chars 8 (by omega)) (by decide) 110#8
  have f4 := has_eq (txtB 8) (txt 8) (txt_chars 8 (by omega)) (by decide) 109#8
  simp [txt] at f1 f2 f3 f4
  have g1 := Shape8; have g2 := Low8; have g3 := High8
  simp [shp] at g2 g3
  have hc := can_op 8 (by omega) d n m imm
  simp only [shp, maxD, maxN, maxM, hasD, hasN, hasM] at hc
  generalize hb : (InsM.mk 8 d n m imm).can = b
  rw [show (InsM.mk (8 : Nat) d n m imm).can = b from hb] at hc
  repeat' (first
    | (simp -implicitDefEqProofs +contextual (disch := omega) [ref02_Can.spec, ref02_Can, InsAV, f1, f2, f3, f4, g1, g2, g3])
    | (refine acondO_elim (fun h => ?_) (fun h => ?_)))
  all_goals (first | (cases b <;> simp_all <;> omega) | trace_state)
set_option maxHeartbeats 1000000 in
theorem Shape9 : ref02_Shape.spec [.int .i64 9] = some (.str (txtB 9)) := by kernel_rfl
set_option maxHeartbeats 1000000 in
theorem Low9 : ref02_Low.spec [.int .i64 9] = some (.int .i64 (shp 9).low) := by kernel_rfl
set_option maxHeartbeats 1000000 in
theorem High9 : ref02_High.spec [.int .i64 9] = some (.int .i64 (shp 9).high) := by kernel_rfl
set_option maxHeartbeats 1000000 in
theorem Can9 (d n m imm : Int) : ref02_Can.spec [InsAV ⟨9, d, n, m, imm⟩] = some (.bool (InsM.mk 9 d n m imm).can) := by
  have f1 := has_eq (txtB 9) (txt 9) (txt_chars 9 (by omega)) (by decide) 99#8
  have f2 := has_eq (txtB 9) (txt 9) (txt_chars 9 (by omega)) (by decide) 100#8
  have f3 := has_eq (txtB 9) (txt 9) (txt_chars 9 (by omega)) (by decide) 110#8
  have f4 := has_eq (txtB 9) (txt 9) (txt_chars 9 (by omega)) (by decide) 109#8
  simp [txt] at f1 f2 f3 f4
  have g1 := Shape9; have g2 := Low9; have g3 := High9
  simp [shp] at g2 g3
  have hc := can_op 9 (by omega) d n m imm
  simp only [shp, maxD, maxN, maxM, hasD, hasN, hasM] at hc
  generalize hb : (InsM.mk 9 d n m imm).can = b
  rw [show (InsM.mk (9 : Nat) d n m imm).can = b from hb] at hc
  repeat' (first
    | (simp -implicitDefEqProofs +contextual (disch := omega) [ref02_Can.spec, ref02_Can, InsAV, f1, f2, f3, f4, g1, g2, g3])
    | (refine acondO_elim (fun h => ?_) (fun h => ?_)))
  all_goals (first | (cases b <;> simp_all <;> omega) | trace_state)
set_option maxHeartbeats 1000000 in
theorem Shape10 : ref02_Shape.spec [.int .i64 10] = some (.str (txtB 10)) := by kernel_rfl
set_option maxHeartbeats 1000000 in
theorem Low10 : ref02_Low.spec [.int .i64 10] = some (.int .i64 (shp 10).low) := by kernel_rfl
set_option maxHeartbeats 1000000 in
theorem High10 : ref02_High.spec [.int .i64 10] = some (.int .i64 (shp 10).high) := by kernel_rfl
set_option maxHeartbeats 1000000 in
theorem Can10 (d n m imm : Int) : ref02_Can.spec [InsAV ⟨10, d, n, m, imm⟩] = some (.bool (InsM.mk 10 d n m imm).can) := by
  have f1 := has_eq (txtB 10) (txt 10) (txt_chars 10 (by omega)) (by decide) 99#8
  have f2 := has_eq (txtB 10) (txt 10) (txt_chars 10 (by omega)) (by decide) 100#8
  have f3 := has_eq (txtB 10) (txt 10) (txt_chars 10 (by omega)) (by decide) 110#8
  have f4 := has_eq (txtB 10) (txt 10) (txt_chars 10 (by omega)) (by decide) 109#8
  simp [txt] at f1 f2 f3 f4
  have g1 := Shape10; have g2 := Low10; have g3 := High10
  simp [shp] at g2 g3
  have hc := can_op 10 (by omega) d n m imm
  simp only [shp, maxD, maxN, maxM, hasD, hasN, hasM] at hc
  generalize hb : (InsM.mk 10 d n m imm).can = b
  rw [show (InsM.mk (10 : Nat) d n m imm).can = b from hb] at hc
  repeat' (first
    | (simp -implicitDefEqProofs +contextual (disch := omega) [ref02_Can.spec, ref02_Can, InsAV, f1, f2, f3, f4, g1, g2, g3])
    | (refine acondO_elim (fun h => ?_) (fun h => ?_)))
  all_goals (first | (cases b <;> simp_all <;> omega) | trace_state)
set_option maxHeartbeats 1000000 in
theorem Shape11 : ref02_Shape.spec [.int .i64 11] = some (.str (txtB 11)) := by kernel_rfl
set_option maxHeartbeats 1000000 in
theorem Low11 : ref02_Low.spec [.int .i64 11] = some (.int .i64 (shp 11).low) := by kernel_rfl
set_option maxHeartbeats 1000000 in
theorem High11 : ref02_High.spec [.int .i64 11] = some (.int .i64 (shp 11).high) := by kernel_rfl
set_option maxHeartbeats 1000000 in
theorem Can11 (d n m imm : Int) : ref02_Can.spec [InsAV ⟨11, d, n, m, imm⟩] = some (.bool (InsM.mk 11 d n m imm).can) := by
  have f1 := has_eq (txtB 11) (txt 11) (txt_chars 11 (by omega)) (by decide) 99#8
  have f2 := has_eq (txtB 11) (txt 11) (txt_chars 11 (by omega)) (by decide) 100#8
  have f3 := has_eq (txtB 11) (txt 11) (txt_chars 11 (by omega)) (by decide) 110#8
  have f4 := has_eq (txtB 11) (txt 11) (txt_chars 11 (by omega)) (by decide) 109#8
  simp [txt] at f1 f2 f3 f4
  have g1 := Shape11; have g2 := Low11; have g3 := High11
  simp [shp] at g2 g3
  have hc := can_op 11 (by omega) d n m imm
  simp only [shp, maxD, maxN, maxM, hasD, hasN, hasM] at hc
  generalize hb : (InsM.mk 11 d n m imm).can = b
  rw [show (InsM.mk (11 : Nat) d n m imm).can = b from hb] at hc
  repeat' (first
    | (simp -implicitDefEqProofs +contextual (disch := omega) [ref02_Can.spec, ref02_Can, InsAV, f1, f2, f3, f4, g1, g2, g3])
    | (refine acondO_elim (fun h => ?_) (fun h => ?_)))
  all_goals (first | (cases b <;> simp_all <;> omega) | trace_state)
set_option maxHeartbeats 1000000 in
theorem Shape12 : ref02_Shape.spec [.int .i64 12] = some (.str (txtB 12)) := by kernel_rfl
set_option maxHeartbeats 1000000 in
theorem Low12 : ref02_Low.spec [.int .i64 12] = some (.int .i64 (shp 12).low) := by kernel_rfl
set_option maxHeartbeats 1000000 in
theorem High12 : ref02_High.spec [.int .i64 12] = some (.int .i64 (shp 12).high) := by kernel_rfl
set_option maxHeartbeats 1000000 in
theorem Can12 (d n m imm : Int) : ref02_Can.spec [InsAV ⟨12, d, n, m, imm⟩] = some (.bool (InsM.mk 12 d n m imm).can) := by
  have f1 := has_eq (txtB 12) (txt 12) (txt_chars 12 (by omega)) (by decide) 99#8
  have f2 := has_eq (txtB 12) (txt 12) (txt_chars 12 (by omega)) (by decide) 100#8
  have f3 := has_eq (txtB 12) (txt 12) (txt_chars 12 (by omega)) (by decide) 110#8
  have f4 := has_eq (txtB 12) (txt 12) (txt_chars 12 (by omega)) (by decide) 109#8
  simp [txt] at f1 f2 f3 f4
  have g1 := Shape12; have g2 := Low12; have g3 := High12
  simp [shp] at g2 g3
  have hc := can_op 12 (by omega) d n m imm
  simp only [shp, maxD, maxN, maxM, hasD, hasN, hasM] at hc
  generalize hb : (InsM.mk 12 d n m imm).can = b
  rw [show (InsM.mk (12 : Nat) d n m imm).can = b from hb] at hc
  repeat' (first
    | (simp -implicitDefEqProofs +contextual (disch := omega) [ref02_Can.spec, ref02_Can, InsAV, f1, f2, f3, f4, g1, g2, g3])
    | (refine acondO_elim (fun h => ?_) (fun h => ?_)))
  all_goals (first | (cases b <;> simp_all <;> omega) | trace_state)
set_option maxHeartbeats 1000000 in
theorem Shape13 : ref02_Shape.spec [.int .i64 13] = some (.str (txtB 13)) := by kernel_rfl
set_option maxHeartbeats 1000000 in
theorem Low13 : ref02_Low.spec [.int .i64 13] = some (.int .i64 (shp 13).low) := by kernel_rfl
set_option maxHeartbeats 1000000 in
theorem High13 : ref02_High.spec [.int .i64 13] = some (.int .i64 (shp 13).high) := by kernel_rfl
set_option maxHeartbeats 1000000 in
theorem Can13 (d n m imm : Int) : ref02_Can.spec [InsAV ⟨13, d, n, m, imm⟩] = some (.bool (InsM.mk 13 d n m imm).can) := by
  have f1 := has_eq (txtB 13) (txt 13) (txt_chars 13 (by omega)) (by decide) 99#8
  have f2 := has_eq (txtB 13) (txt 13) (txt_chars 13 (by omega)) (by decide) 100#8
  have f3 := has_eq (txtB 13) (txt 13) (txt_chars 13 (by omega)) (by decide) 110#8
  have f4 := has_eq (txtB 13) (txt 13) (txt_chars 13 (by omega)) (by decide) 109#8
  simp [txt] at f1 f2 f3 f4
  have g1 := Shape13; have g2 := Low13; have g3 := High13
  simp [shp] at g2 g3
  have hc := can_op 13 (by omega) d n m imm
  simp only [shp, maxD, maxN, maxM, hasD, hasN, hasM] at hc
  generalize hb : (InsM.mk 13 d n m imm).can = b
  rw [show (InsM.mk (13 : Nat) d n m imm).can = b from hb] at hc
  repeat' (first
    | (simp -implicitDefEqProofs +contextual (disch := omega) [ref02_Can.spec, ref02_Can, InsAV, f1, f2, f3, f4, g1, g2, g3])
    | (refine acondO_elim (fun h => ?_) (fun h => ?_)))
  all_goals (first | (cases b <;> simp_all <;> omega) | trace_state)
set_option maxHeartbeats 1000000 in
theorem Shape14 : ref02_Shape.spec [.int .i64 14] = some (.str (txtB 14)) := by kernel_rfl
set_option maxHeartbeats 1000000 in
theorem Low14 : ref02_Low.spec [.int .i64 14] = some (.int .i64 (shp 14).low) := by kernel_rfl
set_option maxHeartbeats 1000000 in
theorem High14 : ref02_High.spec [.int .i64 14] = some (.int .i64 (shp 14).high) := by kernel_rfl
set_option maxHeartbeats 1000000 in
theorem Can14 (d n m imm : Int) : ref02_Can.spec [InsAV ⟨14, d, n, m, imm⟩] = some (.bool (InsM.mk 14 d n m imm).can) := by
  have f1 := has_eq (txtB 14) (txt 14) (txt_chars 14 (by omega)) (by decide) 99#8
  have f2 := has_eq (txtB 14) (txt 14) (txt_chars 14 (by omega)) (by decide) 100#8
  have f3 := has_eq (txtB 14) (txt 14) (txt_chars 14 (by omega)) (by decide) 110#8
  have f4 := has_eq (txtB 14) (txt 14) (txt_chars 14 (by omega)) (by decide) 109#8
  simp [txt] at f1 f2 f3 f4
  have g1 := Shape14; have g2 := Low14; have g3 := High14
  simp [shp] at g2 g3
  have hc := can_op 14 (by omega) d n m imm
  simp only [shp, maxD, maxN, maxM, hasD, hasN, hasM] at hc
  generalize hb : (InsM.mk 14 d n m imm).can = b
  rw [show (InsM.mk (14 : Nat) d n m imm).can = b from hb] at hc
  repeat' (first
    | (simp -implicitDefEqProofs +contextual (disch := omega) [ref02_Can.spec, ref02_Can, InsAV, f1, f2, f3, f4, g1, g2, g3])
    | (refine acondO_elim (fun h => ?_) (fun h => ?_)))
  all_goals (first | (cases b <;> simp_all <;> omega) | trace_state)
set_option maxHeartbeats 1000000 in
theorem Shape15 : ref02_Shape.spec [.int .i64 15] = some (.str (txtB 15)) := by kernel_rfl
set_option maxHeartbeats 1000000 in
theorem Low15 : ref02_Low.spec [.int .i64 15] = some (.int .i64 (shp 15).low) := by kernel_rfl
set_option maxHeartbeats 1000000 in
theorem High15 : ref02_High.spec [.int .i64 15] = some (.int .i64 (shp 15).high) := by kernel_rfl
set_option maxHeartbeats 1000000 in
theorem Can15 (d n m imm : Int) : ref02_Can.spec [InsAV ⟨15, d, n, m, imm⟩] = some (.bool (InsM.mk 15 d n m imm).can) := by
  have f1 := has_eq (txtB 15) (txt 15) (txt_chars 15 (by omega)) (by decide) 99#8
  have f2 := has_eq (txtB 15) (txt 15) (txt_chars 15 (by omega)) (by decide) 100#8
  have f3 := has_eq (txtB 15) (txt 15) (txt_chars 15 (by omega)) (by decide) 110#8
  have f4 := has_eq (txtB 15) (txt 15) (txt_chars 15 (by omega)) (by decide) 109#8
  simp [txt] at f1 f2 f3 f4
  have g1 := Shape15; have g2 := Low15; have g3 := High15
  simp [shp] at g2 g3
  have hc := can_op 15 (by omega) d n m imm
  simp only [shp, maxD, maxN, maxM, hasD, hasN, hasM] at hc
  generalize hb : (InsM.mk 15 d n m imm).can = b
  rw [show (InsM.mk (15 : Nat) d n m imm).can = b from hb] at hc
  repeat' (first
    | (simp -implicitDefEqProofs +contextual (disch := omega) [ref02_Can.spec, ref02_Can, InsAV, f1, f2, f3, f4, g1, g2, g3])
    | (refine acondO_elim (fun h => ?_) (fun h => ?_)))
  all_goals (first | (cases b <;> simp_all <;> omega) | trace_state)
set_option maxHeartbeats 1000000 in
theorem Shape16 : ref02_Shape.spec [.int .i64 16] = some (.str (txtB 16)) := by kernel_rfl
set_option maxHeartbeats 1000000 in
theorem Low16 : ref02_Low.spec [.int .i64 16] = some (.int .i64 (shp 16).low) := by kernel_rfl
set_option maxHeartbeats 1000000 in
theorem High16 : ref02_High.spec [.int .i64 16] = some (.int .i64 (shp 16).high) := by kernel_rfl
set_option maxHeartbeats 1000000 in
theorem Can16 (d n m imm : Int) : ref02_Can.spec [InsAV ⟨16, d, n, m, imm⟩] = some (.bool (InsM.mk 16 d n m imm).can) := by
  have f1 := has_eq (txtB 16) (txt 16) (txt_chars 16 (by omega)) (by decide) 99#8
  have f2 := has_eq (txtB 16) (txt 16) (txt_chars 16 (by omega)) (by decide) 100#8
  have f3 := has_eq (txtB 16) (txt 16) (txt_chars 16 (by omega)) (by decide) 110#8
  have f4 := has_eq (txtB 16) (txt 16) (txt_chars 16 (by omega)) (by decide) 109#8
  simp [txt] at f1 f2 f3 f4
  have g1 := Shape16; have g2 := Low16; have g3 := High16
  simp [shp] at g2 g3
  have hc := can_op 16 (by omega) d n m imm
  simp only [shp, maxD, maxN, maxM, hasD, hasN, hasM] at hc
  generalize hb : (InsM.mk 16 d n m imm).can = b
  rw [show (InsM.mk (16 : Nat) d n m imm).can = b from hb] at hc
  repeat' (first
    | (simp -implicitDefEqProofs +contextual (disch := omega) [ref02_Can.spec, ref02_Can, InsAV, f1, f2, f3, f4, g1, g2, g3])
    | (refine acondO_elim (fun h => ?_) (fun h => ?_)))
  all_goals (first | (cases b <;> simp_all <;> omega) | trace_state)
set_option maxHeartbeats 1000000 in
theorem Shape17 : ref02_Shape.spec [.int .i64 17] = some (.str (txtB 17)) := by kernel_rfl
set_option maxHeartbeats 1000000 in
theorem Low17 : ref02_Low.spec [.int .i64 17] = some (.int .i64 (shp 17).low) := by kernel_rfl
set_option maxHeartbeats 1000000 in
theorem High17 : ref02_High.spec [.int .i64 17] = some (.int .i64 (shp 17).high) := by kernel_rfl
set_option maxHeartbeats 1000000 in
theorem Can17 (d n m imm : Int) : ref02_Can.spec [InsAV ⟨17, d, n, m, imm⟩] = some (.bool (InsM.mk 17 d n m imm).can) := by
  have f1 := has_eq (txtB 17) (txt 17) (txt_chars 17 (by omega)) (by decide) 99#8
  have f2 := has_eq (txtB 17) (txt 17) (txt_chars 17 (by omega)) (by decide) 100#8
  have f3 := has_eq (txtB 17) (txt 17) (txt_chars 17 (by omega)) (by decide) 110#8
  have f4 := has_eq (txtB 17) (txt 17) (txt_chars 17 (by omega)) (by decide) 109#8
  simp [txt] at f1 f2 f3 f4
  have g1 := Shape17; have g2 := Low17; have g3 := High17
  simp [shp] at g2 g3
  have hc := can_op 17 (by omega) d n m imm
  simp only [shp, maxD, maxN, maxM, hasD, hasN, hasM] at hc
  generalize hb : (InsM.mk 17 d n m imm).can = b
  rw [show (InsM.mk (17 : Nat) d n m imm).can = b from hb] at hc
  repeat' (first
    | (simp -implicitDefEqProofs +contextual (disch := omega) [ref02_Can.spec, ref02_Can, InsAV, f1, f2, f3, f4, g1, g2, g3])
    | (refine acondO_elim (fun h => ?_) (fun h => ?_)))
  all_goals (first | (cases b <;> simp_all <;> omega) | trace_state)
set_option maxHeartbeats 1000000 in
theorem Shape18 : ref02_Shape.spec [.int .i64 18] = some (.str (txtB 18)) := by kernel_rfl
set_option maxHeartbeats 1000000 in
theorem Low18 : ref02_Low.spec [.int .i64 18] = some (.int .i64 (shp 18).low) := by kernel_rfl
set_option maxHeartbeats 1000000 in
theorem High18 : ref02_High.spec [.int .i64 18] = some (.int .i64 (shp 18).high) := by kernel_rfl
set_option maxHeartbeats 1000000 in
theorem Can18 (d n m imm : Int) : ref02_Can.spec [InsAV ⟨18, d, n, m, imm⟩] = some (.bool (InsM.mk 18 d n m imm).can) := by
  have f1 := has_eq (txtB 18) (txt 18) (txt_chars 18 (by omega)) (by decide) 99#8
  have f2 := has_eq (txtB 18) (txt 18) (txt_chars 18 (by omega)) (by decide) 100#8
  have f3 := has_eq (txtB 18) (txt 18) (txt_chars 18 (by omega)) (by decide) 110#8
  have f4 := has_eq (txtB 18) (txt 18) (txt_chars 18 (by omega)) (by decide) 109#8
  simp [txt] at f1 f2 f3 f4
  have g1 := Shape18; have g2 := Low18; have g3 := High18
  simp [shp] at g2 g3
  have hc := can_op 18 (by omega) d n m imm
  simp only [shp, maxD, maxN, maxM, hasD, hasN, hasM] at hc
  generalize hb : (InsM.mk 18 d n m imm).can = b
  rw [show (InsM.mk (18 : Nat) d n m imm).can = b from hb] at hc
  repeat' (first
    | (simp -implicitDefEqProofs +contextual (disch := omega) [ref02_Can.spec, ref02_Can, InsAV, f1, f2, f3, f4, g1, g2, g3])
    | (refine acondO_elim (fun h => ?_) (fun h => ?_)))
  all_goals (first | (cases b <;> simp_all <;> omega) | trace_state)
set_option maxHeartbeats 1000000 in
theorem Shape19 : ref02_Shape.spec [.int .i64 19] = some (.str (txtB 19)) := by kernel_rfl
set_option maxHeartbeats 1000000 in
theorem Low19 : ref02_Low.spec [.int .i64 19] = some (.int .i64 (shp 19).low) := by kernel_rfl
set_option maxHeartbeats 1000000 in
theorem High19 : ref02_High.spec [.int .i64 19] = some (.int .i64 (shp 19).high) := by kernel_rfl
set_option maxHeartbeats 1000000 in
theorem Can19 (d n m imm : Int) : ref02_Can.spec [InsAV ⟨19, d, n, m, imm⟩] = some (.bool (InsM.mk 19 d n m imm).can) := by
  have f1 := has_eq (txtB 19) (txt 19) (txt_chars 19 (by omega)) (by decide) 99#8
  have f2 := has_eq (txtB 19) (txt 19) (txt_chars 19 (by omega)) (by decide) 100#8
  have f3 := has_eq (txtB 19) (txt 19) (txt_chars 19 (by omega)) (by decide) 110#8
  have f4 := has_eq (txtB 19) (txt 19) (txt_chars 19 (by omega)) (by decide) 109#8
  simp [txt] at f1 f2 f3 f4
  have g1 := Shape19; have g2 := Low19; have g3 := High19
  simp [shp] at g2 g3
  have hc := can_op 19 (by omega) d n m imm
  simp only [shp, maxD, maxN, maxM, hasD, hasN, hasM] at hc
  generalize hb : (InsM.mk 19 d n m imm).can = b
  rw [show (InsM.mk (19 : Nat) d n m imm).can = b from hb] at hc
  repeat' (first
    | (simp -implicitDefEqProofs +contextual (disch := omega) [ref02_Can.spec, ref02_Can, InsAV, f1, f2, f3, f4, g1, g2, g3])
    | (refine acondO_elim (fun h => ?_) (fun h => ?_)))
  all_goals (first | (cases b <;> simp_all <;> omega) | trace_state)
set_option maxHeartbeats 1000000 in
theorem Shape20 : ref02_Shape.spec [.int .i64 20] = some (.str (txtB 20)) := by kernel_rfl
set_option maxHeartbeats 1000000 in
theorem Low20 : ref02_Low.spec [.int .i64 20] = some (.int .i64 (shp 20).low) := by kernel_rfl
set_option maxHeartbeats 1000000 in
theorem High20 : ref02_High.spec [.int .i64 20] = some (.int .i64 (shp 20).high) := by kernel_rfl
set_option maxHeartbeats 1000000 in
theorem Can20 (d n m imm : Int) : ref02_Can.spec [InsAV ⟨20, d, n, m, imm⟩] = some (.bool (InsM.mk 20 d n m imm).can) := by
  have f1 := has_eq (txtB 20) (txt 20) (txt_chars 20 (by omega)) (by decide) 99#8
  have f2 := has_eq (txtB 20) (txt 20) (txt_chars 20 (by omega)) (by decide) 100#8
  have f3 := has_eq (txtB 20) (txt 20) (txt_chars 20 (by omega)) (by decide) 110#8
  have f4 := has_eq (txtB 20) (txt 20) (txt_chars 20 (by omega)) (by decide) 109#8
  simp [txt] at f1 f2 f3 f4
  have g1 := Shape20; have g2 := Low20; have g3 := High20
  simp [shp] at g2 g3
  have hc := can_op 20 (by omega) d n m imm
  simp only [shp, maxD, maxN, maxM, hasD, hasN, hasM] at hc
  generalize hb : (InsM.mk 20 d n m imm).can = b
  rw [show (InsM.mk (20 : Nat) d n m imm).can = b from hb] at hc
  repeat' (first
    | (simp -implicitDefEqProofs +contextual (disch := omega) [ref02_Can.spec, ref02_Can, InsAV, f1, f2, f3, f4, g1, g2, g3])
    | (refine acondO_elim (fun h => ?_) (fun h => ?_)))
  all_goals (first | (cases b <;> simp_all <;> omega) | trace_state)
end Go.Abs

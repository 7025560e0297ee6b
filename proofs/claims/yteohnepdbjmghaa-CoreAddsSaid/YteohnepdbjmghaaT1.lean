/-
  Instructions and their halfwords: what the program's functions do. Printed by gent1.py.
-/
import Derived.Test.YteohnepdbjmghaaThM
import Derived.Test.YteohnepdbjmghaaLoF
set_option linter.unusedSimpArgs false
set_option linter.unusedVariables false
namespace Go.Abs
open Th
def InsAV (i : InsM) : AV := .agg [.int .i64 i.op, .int .i64 i.d, .int .i64 i.n, .int .i64 i.m, .int .i64 i.imm]
def ofc : Nat → BitVec 8
  | 0 => 100#8
  | 1 => 110#8
  | 2 => 109#8
  | 3 => 105#8
  | _ => 99#8
def partAV : Option Part → List AV
  | some p => [W8 (ofc p.of), .int .i64 p.at_, .int .i64 p.wide]
  | none => [W8 0#8, .int .i64 0, .int .i64 0]
def shpAV (op : Nat) : AV := .agg (W16 (BitVec.ofNat 16 (shp op).bits) :: (partAV ((shp op).parts[0]?) ++ partAV ((shp op).parts[1]?) ++ partAV ((shp op).parts[2]?) ++ [.int .i64 (shp op).low, .int .i64 (shp op).high]))
theorem mask3 (q : QK) (x : Int) : abinR q .and (.int .i64 x) (.int .i64 7) = some (.int .i64 (x % 8)) := bin_mask q 3 x (by omega)
theorem mask4 (q : QK) (x : Int) : abinR q .and (.int .i64 x) (.int .i64 15) = some (.int .i64 (x % 16)) := bin_mask q 4 x (by omega)
theorem mask5 (q : QK) (x : Int) : abinR q .and (.int .i64 x) (.int .i64 31) = some (.int .i64 (x % 32)) := bin_mask q 5 x (by omega)
theorem mask8 (q : QK) (x : Int) : abinR q .and (.int .i64 x) (.int .i64 255) = some (.int .i64 (x % 256)) := bin_mask q 8 x (by omega)
theorem mask11 (q : QK) (x : Int) : abinR q .and (.int .i64 x) (.int .i64 2047) = some (.int .i64 (x % 2048)) := bin_mask q 11 x (by omega)
theorem or_shift (a b at_ w : Nat) (h : a % 2 ^ (at_ + w) = 0) (hb : b < 2 ^ w) : a ||| b <<< at_ = a + b * 2 ^ at_ := by
  obtain ⟨c, rfl⟩ : ∃ c, a = 2 ^ (at_ + w) * c := ⟨a / 2 ^ (at_ + w), by have := Nat.div_add_mod a (2 ^ (at_ + w)); omega⟩
  rw [Nat.shiftLeft_eq, ← Nat.two_pow_add_eq_or_of_lt]
  rw [Nat.pow_add, Nat.mul_comm]
  exact Nat.mul_lt_mul_of_pos_left hb (Nat.two_pow_pos _)
theorem orB (a : Nat) (x : Int) (s w : Nat) (h : a % 2 ^ (s + w) = 0) : BitVec.ofNat 16 a ||| (BitVec.ofInt 16 (x % ((2 ^ w : Nat) : Int))) <<< s = BitVec.ofNat 16 (a + (x % ((2 ^ w : Nat) : Int)).toNat * 2 ^ s) := by
  have h1 : 0 ≤ x % ((2 ^ w : Nat) : Int) := Int.emod_nonneg _ (by have := Nat.two_pow_pos w; omega)
  have h2 : x % ((2 ^ w : Nat) : Int) < ((2 ^ w : Nat) : Int) := Int.emod_lt_of_pos _ (by have := Nat.two_pow_pos w; omega)
  obtain ⟨b, hb⟩ : ∃ b : Nat, x % ((2 ^ w : Nat) : Int) = (b : Int) := ⟨_, (Int.toNat_of_nonneg h1).symm⟩
  rw [hb] at h2 ⊢
  rw [Int.toNat_natCast, BitVec.ofInt_natCast, ← or_shift a b s w h (by omega)]
  apply BitVec.eq_of_toNat_eq
  simp only [BitVec.toNat_or, BitVec.toNat_shiftLeft, BitVec.toNat_ofNat, Nat.or_mod_two_pow, Nat.shiftLeft_eq, Nat.mod_mul_mod]
theorem orB0 (a : Nat) (x : Int) (w : Nat) (h : a % 2 ^ w = 0) : BitVec.ofNat 16 a ||| (BitVec.ofInt 16 (x % ((2 ^ w : Nat) : Int))) = BitVec.ofNat 16 (a + (x % ((2 ^ w : Nat) : Int)).toNat) := by
  have := orB a x 0 w (by simpa using h); simpa using this
theorem field_d (b i0 : Nat) (H : AHeap) : thumb_field.spec [.ptr b 5 i0 0, W8 100#8] H = some (.ptr b 5 i0 1, H) := by
  simp -implicitDefEqProofs +contextual (disch := omega) [thumb_field.spec, thumb_field]
theorem field_c (b i0 : Nat) (H : AHeap) : thumb_field.spec [.ptr b 5 i0 0, W8 99#8] H = some (.ptr b 5 i0 1, H) := by
  simp -implicitDefEqProofs +contextual (disch := omega) [thumb_field.spec, thumb_field]
theorem field_n (b i0 : Nat) (H : AHeap) : thumb_field.spec [.ptr b 5 i0 0, W8 110#8] H = some (.ptr b 5 i0 2, H) := by
  simp -implicitDefEqProofs +contextual (disch := omega) [thumb_field.spec, thumb_field]
theorem field_m (b i0 : Nat) (H : AHeap) : thumb_field.spec [.ptr b 5 i0 0, W8 109#8] H = some (.ptr b 5 i0 3, H) := by
  simp -implicitDefEqProofs +contextual (disch := omega) [thumb_field.spec, thumb_field]
theorem field_i (b i0 : Nat) (H : AHeap) : thumb_field.spec [.ptr b 5 i0 0, W8 105#8] H = some (.ptr b 5 i0 4, H) := by
  simp -implicitDefEqProofs +contextual (disch := omega) [thumb_field.spec, thumb_field]
theorem field_0 (b i0 : Nat) (H : AHeap) : thumb_field.spec [.ptr b 5 i0 0, W8 0#8] H = some (.ptr b 5 i0 4, H) := by
  simp -implicitDefEqProofs +contextual (disch := omega) [thumb_field.spec, thumb_field]
theorem shapes0 : thumb_shapes.spec [.int .i64 0] = some (shpAV 0) := by
  simp -implicitDefEqProofs +contextual (disch := omega) [thumb_shapes.spec, thumb_shapes, shpAV, shp, partAV, ofc]
set_option maxHeartbeats 1000000 in
theorem can0 (d n m imm : Int) : thumb_can.spec [InsAV ⟨0, d, n, m, imm⟩] = some (.bool (InsM.mk 0 d n m imm).can) := by
  have hs := shapes0
  simp [shpAV, shp, partAV, ofc] at hs
  have hc := can_op 0 (by omega) d n m imm
  simp only [shp, maxD, maxN, maxM, hasD, hasN, hasM] at hc
  generalize hb : (InsM.mk 0 d n m imm).can = b
  rw [show (InsM.mk (0 : Nat) d n m imm).can = b from hb] at hc
  repeat' (first
    | (simp -implicitDefEqProofs +contextual (disch := omega) [thumb_can.spec, thumb_can, InsAV, hs, aloop_unroll, thumb_can.l0, field_d, field_c, field_n, field_m, field_i, field_0])
    | (refine acondO_elim (fun h => ?_) (fun h => ?_)))
  all_goals (cases b <;> simp_all <;> omega)
set_option maxHeartbeats 1000000 in
theorem put0 (d n m imm : Int) (hc : (InsM.mk 0 d n m imm).can = true) : thumb_put.spec [InsAV ⟨0, d, n, m, imm⟩] = some (W16 (BitVec.ofNat 16 (putN ⟨0, d, n, m, imm⟩))) := by
  have hs := shapes0
  simp [shpAV, shp, partAV, ofc] at hs
  rw [show ∀ a b c d : Int, (InsM.mk 0 a b c d).can = true ↔ _ from fun a b c d => can_op 0 (by omega) a b c d] at hc
  simp [shp, maxD, maxN, maxM, hasD, hasN, hasM] at hc
  simp -implicitDefEqProofs +contextual (disch := try first | omega | ((repeat' (first | exact AHeap.WF.empty | assumption | apply AHeap.WF.push | apply AHeap.WF.set)) <;> (simp only [AHeap.next_set, AHeap.next_push, empty_next] <;> omega))) [thumb_put.spec, thumb_put, InsAV, hs, san_wf, aloop_unroll, thumb_put.l0, field_d, field_c, field_n, field_m, field_i, field_0, mask3, mask4, mask5, mask8, mask11]
  have e0 : 8192#16 ||| BitVec.ofInt 16 (d % 8) <<< 8 = BitVec.ofNat 16 (8192 + (d % 8).toNat * 256) := orB (8192) d 8 3 (by omega)
  have e1 : BitVec.ofNat 16 (8192 + (d % 8).toNat * 256) ||| BitVec.ofInt 16 (imm % 256) = BitVec.ofNat 16 (8192 + (d % 8).toNat * 256 + (imm % 256).toNat) := orB0 (8192 + (d % 8).toNat * 256) imm 8 (by omega)
  rw [e0, e1]
  simp [putN, putGo, shp, InsM.get]
theorem shapes1 : thumb_shapes.spec [.int .i64 1] = some (shpAV 1) := by
  simp -implicitDefEqProofs +contextual (disch := omega) [thumb_shapes.spec, thumb_shapes, shpAV, shp, partAV, ofc]
set_option maxHeartbeats 1000000 in
theorem can1 (d n m imm : Int) : thumb_can.spec [InsAV ⟨1, d, n, m, imm⟩] = some (.bool (InsM.mk 1 d n m imm).can) := by
  have hs := shapes1
  simp [shpAV, shp, partAV, ofc] at hs
  have hc := can_op 1 (by omega) d n m imm
  simp only [shp, maxD, maxN, maxM, hasD, hasN, hasM] at hc
  generalize hb : (InsM.mk 1 d n m imm).can = b
  rw [show (InsM.mk (1 : Nat) d n m imm).can = b from hb] at hc
  repeat' (first
    | (simp -implicitDefEqProofs +contextual (disch := omega) [thumb_can.spec, thumb_can, InsAV, hs, aloop_unroll, thumb_can.l0, field_d, field_c, field_n, field_m, field_i, field_0])
    | (refine acondO_elim (fun h => ?_) (fun h => ?_)))
  all_goals (cases b <;> simp_all <;> omega)
set_option maxHeartbeats 1000000 in
theorem put1 (d n m imm : Int) (hc : (InsM.mk 1 d n m imm).can = true) : thumb_put.spec [InsAV ⟨1, d, n, m, imm⟩] = some (W16 (BitVec.ofNat 16 (putN ⟨1, d, n, m, imm⟩))) := by
  have hs := shapes1
  simp [shpAV, shp, partAV, ofc] at hs
  rw [show ∀ a b c d : Int, (InsM.mk 1 a b c d).can = true ↔ _ from fun a b c d => can_op 1 (by omega) a b c d] at hc
  simp [shp, maxD, maxN, maxM, hasD, hasN, hasM] at hc
  simp -implicitDefEqProofs +contextual (disch := try first | omega | ((repeat' (first | exact AHeap.WF.empty | assumption | apply AHeap.WF.push | apply AHeap.WF.set)) <;> (simp only [AHeap.next_set, AHeap.next_push, empty_next] <;> omega))) [thumb_put.spec, thumb_put, InsAV, hs, san_wf, aloop_unroll, thumb_put.l0, field_d, field_c, field_n, field_m, field_i, field_0, mask3, mask4, mask5, mask8, mask11]
  have e0 : 10240#16 ||| BitVec.ofInt 16 (d % 8) <<< 8 = BitVec.ofNat 16 (10240 + (d % 8).toNat * 256) := orB (10240) d 8 3 (by omega)
  have e1 : BitVec.ofNat 16 (10240 + (d % 8).toNat * 256) ||| BitVec.ofInt 16 (imm % 256) = BitVec.ofNat 16 (10240 + (d % 8).toNat * 256 + (imm % 256).toNat) := orB0 (10240 + (d % 8).toNat * 256) imm 8 (by omega)
  rw [e0, e1]
  simp [putN, putGo, shp, InsM.get]
theorem shapes2 : thumb_shapes.spec [.int .i64 2] = some (shpAV 2) := by
  simp -implicitDefEqProofs +contextual (disch := omega) [thumb_shapes.spec, thumb_shapes, shpAV, shp, partAV, ofc]
set_option maxHeartbeats 1000000 in
theorem can2 (d n m imm : Int) : thumb_can.spec [InsAV ⟨2, d, n, m, imm⟩] = some (.bool (InsM.mk 2 d n m imm).can) := by
  have hs := shapes2
  simp [shpAV, shp, partAV, ofc] at hs
  have hc := can_op 2 (by omega) d n m imm
  simp only [shp, maxD, maxN, maxM, hasD, hasN, hasM] at hc
  generalize hb : (InsM.mk 2 d n m imm).can = b
  rw [show (InsM.mk (2 : Nat) d n m imm).can = b from hb] at hc
  repeat' (first
    | (simp -implicitDefEqProofs +contextual (disch := omega) [thumb_can.spec, thumb_can, InsAV, hs, aloop_unroll, thumb_can.l0, field_d, field_c, field_n, field_m, field_i, field_0])
    | (refine acondO_elim (fun h => ?_) (fun h => ?_)))
  all_goals (cases b <;> simp_all <;> omega)
set_option maxHeartbeats 1000000 in
theorem put2 (d n m imm : Int) (hc : (InsM.mk 2 d n m imm).can = true) : thumb_put.spec [InsAV ⟨2, d, n, m, imm⟩] = some (W16 (BitVec.ofNat 16 (putN ⟨2, d, n, m, imm⟩))) := by
  have hs := shapes2
  simp [shpAV, shp, partAV, ofc] at hs
  rw [show ∀ a b c d : Int, (InsM.mk 2 a b c d).can = true ↔ _ from fun a b c d => can_op 2 (by omega) a b c d] at hc
  simp [shp, maxD, maxN, maxM, hasD, hasN, hasM] at hc
  simp -implicitDefEqProofs +contextual (disch := try first | omega | ((repeat' (first | exact AHeap.WF.empty | assumption | apply AHeap.WF.push | apply AHeap.WF.set)) <;> (simp only [AHeap.next_set, AHeap.next_push, empty_next] <;> omega))) [thumb_put.spec, thumb_put, InsAV, hs, san_wf, aloop_unroll, thumb_put.l0, field_d, field_c, field_n, field_m, field_i, field_0, mask3, mask4, mask5, mask8, mask11]
  have e0 : 12288#16 ||| BitVec.ofInt 16 (d % 8) <<< 8 = BitVec.ofNat 16 (12288 + (d % 8).toNat * 256) := orB (12288) d 8 3 (by omega)
  have e1 : BitVec.ofNat 16 (12288 + (d % 8).toNat * 256) ||| BitVec.ofInt 16 (imm % 256) = BitVec.ofNat 16 (12288 + (d % 8).toNat * 256 + (imm % 256).toNat) := orB0 (12288 + (d % 8).toNat * 256) imm 8 (by omega)
  rw [e0, e1]
  simp [putN, putGo, shp, InsM.get]
theorem shapes3 : thumb_shapes.spec [.int .i64 3] = some (shpAV 3) := by
  simp -implicitDefEqProofs +contextual (disch := omega) [thumb_shapes.spec, thumb_shapes, shpAV, shp, partAV, ofc]
set_option maxHeartbeats 1000000 in
theorem can3 (d n m imm : Int) : thumb_can.spec [InsAV ⟨3, d, n, m, imm⟩] = some (.bool (InsM.mk 3 d n m imm).can) := by
  have hs := shapes3
  simp [shpAV, shp, partAV, ofc] at hs
  have hc := can_op 3 (by omega) d n m imm
  simp only [shp, maxD, maxN, maxM, hasD, hasN, hasM] at hc
  generalize hb : (InsM.mk 3 d n m imm).can = b
  rw [show (InsM.mk (3 : Nat) d n m imm).can = b from hb] at hc
  repeat' (first
    | (simp -implicitDefEqProofs +contextual (disch := omega) [thumb_can.spec, thumb_can, InsAV, hs, aloop_unroll, thumb_can.l0, field_d, field_c, field_n, field_m, field_i, field_0])
    | (refine acondO_elim (fun h => ?_) (fun h => ?_)))
  all_goals (cases b <;> simp_all <;> omega)
set_option maxHeartbeats 1000000 in
theorem put3 (d n m imm : Int) (hc : (InsM.mk 3 d n m imm).can = true) : thumb_put.spec [InsAV ⟨3, d, n, m, imm⟩] = some (W16 (BitVec.ofNat 16 (putN ⟨3, d, n, m, imm⟩))) := by
  have hs := shapes3
  simp [shpAV, shp, partAV, ofc] at hs
  rw [show ∀ a b c d : Int, (InsM.mk 3 a b c d).can = true ↔ _ from fun a b c d => can_op 3 (by omega) a b c d] at hc
  simp [shp, maxD, maxN, maxM, hasD, hasN, hasM] at hc
  simp -implicitDefEqProofs +contextual (disch := try first | omega | ((repeat' (first | exact AHeap.WF.empty | assumption | apply AHeap.WF.push | apply AHeap.WF.set)) <;> (simp only [AHeap.next_set, AHeap.next_push, empty_next] <;> omega))) [thumb_put.spec, thumb_put, InsAV, hs, san_wf, aloop_unroll, thumb_put.l0, field_d, field_c, field_n, field_m, field_i, field_0, mask3, mask4, mask5, mask8, mask11]
  have e0 : 14336#16 ||| BitVec.ofInt 16 (d % 8) <<< 8 = BitVec.ofNat 16 (14336 + (d % 8).toNat * 256) := orB (14336) d 8 3 (by omega)
  have e1 : BitVec.ofNat 16 (14336 + (d % 8).toNat * 256) ||| BitVec.ofInt 16 (imm % 256) = BitVec.ofNat 16 (14336 + (d % 8).toNat * 256 + (imm % 256).toNat) := orB0 (14336 + (d % 8).toNat * 256) imm 8 (by omega)
  rw [e0, e1]
  simp [putN, putGo, shp, InsM.get]
theorem shapes4 : thumb_shapes.spec [.int .i64 4] = some (shpAV 4) := by
  simp -implicitDefEqProofs +contextual (disch := omega) [thumb_shapes.spec, thumb_shapes, shpAV, shp, partAV, ofc]
set_option maxHeartbeats 1000000 in
theorem can4 (d n m imm : Int) : thumb_can.spec [InsAV ⟨4, d, n, m, imm⟩] = some (.bool (InsM.mk 4 d n m imm).can) := by
  have hs := shapes4
  simp [shpAV, shp, partAV, ofc] at hs
  have hc := can_op 4 (by omega) d n m imm
  simp only [shp, maxD, maxN, maxM, hasD, hasN, hasM] at hc
  generalize hb : (InsM.mk 4 d n m imm).can = b
  rw [show (InsM.mk (4 : Nat) d n m imm).can = b from hb] at hc
  repeat' (first
    | (simp -implicitDefEqProofs +contextual (disch := omega) [thumb_can.spec, thumb_can, InsAV, hs, aloop_unroll, thumb_can.l0, field_d, field_c, field_n, field_m, field_i, field_0])
    | (refine acondO_elim (fun h => ?_) (fun h => ?_)))
  all_goals (cases b <;> simp_all <;> omega)
set_option maxHeartbeats 1000000 in
theorem put4 (d n m imm : Int) (hc : (InsM.mk 4 d n m imm).can = true) : thumb_put.spec [InsAV ⟨4, d, n, m, imm⟩] = some (W16 (BitVec.ofNat 16 (putN ⟨4, d, n, m, imm⟩))) := by
  have hs := shapes4
  simp [shpAV, shp, partAV, ofc] at hs
  rw [show ∀ a b c d : Int, (InsM.mk 4 a b c d).can = true ↔ _ from fun a b c d => can_op 4 (by omega) a b c d] at hc
  simp [shp, maxD, maxN, maxM, hasD, hasN, hasM] at hc
  simp -implicitDefEqProofs +contextual (disch := try first | omega | ((repeat' (first | exact AHeap.WF.empty | assumption | apply AHeap.WF.push | apply AHeap.WF.set)) <;> (simp only [AHeap.next_set, AHeap.next_push, empty_next] <;> omega))) [thumb_put.spec, thumb_put, InsAV, hs, san_wf, aloop_unroll, thumb_put.l0, field_d, field_c, field_n, field_m, field_i, field_0, mask3, mask4, mask5, mask8, mask11]
  have e0 : BitVec.ofInt 16 (imm % 32) <<< 6 = BitVec.ofNat 16 (0 + (imm % 32).toNat * 64) := BitVec.zero_or.symm.trans (orB 0 imm 6 5 (by omega))
  have e1 : BitVec.ofNat 16 (0 + (imm % 32).toNat * 64) ||| BitVec.ofInt 16 (m % 8) <<< 3 = BitVec.ofNat 16 (0 + (imm % 32).toNat * 64 + (m % 8).toNat * 8) := orB (0 + (imm % 32).toNat * 64) m 3 3 (by omega)
  have e2 : BitVec.ofNat 16 (0 + (imm % 32).toNat * 64 + (m % 8).toNat * 8) ||| BitVec.ofInt 16 (d % 8) = BitVec.ofNat 16 (0 + (imm % 32).toNat * 64 + (m % 8).toNat * 8 + (d % 8).toNat) := orB0 (0 + (imm % 32).toNat * 64 + (m % 8).toNat * 8) d 3 (by omega)
  rw [e0, e1, e2]
  simp [putN, putGo, shp, InsM.get]
theorem shapes5 : thumb_shapes.spec [.int .i64 5] = some (shpAV 5) := by
  simp -implicitDefEqProofs +contextual (disch := omega) [thumb_shapes.spec, thumb_shapes, shpAV, shp, partAV, ofc]
set_option maxHeartbeats 1000000 in
theorem can5 (d n m imm : Int) : thumb_can.spec [InsAV ⟨5, d, n, m, imm⟩] = some (.bool (InsM.mk 5 d n m imm).can) := by
  have hs := shapes5
  simp [shpAV, shp, partAV, ofc] at hs
  have hc := can_op 5 (by omega) d n m imm
  simp only [shp, maxD, maxN, maxM, hasD, hasN, hasM] at hc
  generalize hb : (InsM.mk 5 d n m imm).can = b
  rw [show (InsM.mk (5 : Nat) d n m imm).can = b from hb] at hc
  repeat' (first
    | (simp -implicitDefEqProofs +contextual (disch := omega) [thumb_can.spec, thumb_can, InsAV, hs, aloop_unroll, thumb_can.l0, field_d, field_c, field_n, field_m, field_i, field_0])
    | (refine acondO_elim (fun h => ?_) (fun h => ?_)))
  all_goals (cases b <;> simp_all <;> omega)
set_option maxHeartbeats 1000000 in
theorem put5 (d n m imm : Int) (hc : (InsM.mk 5 d n m imm).can = true) : thumb_put.spec [InsAV ⟨5, d, n, m, imm⟩] = some (W16 (BitVec.ofNat 16 (putN ⟨5, d, n, m, imm⟩))) := by
  have hs := shapes5
  simp [shpAV, shp, partAV, ofc] at hs
  rw [show ∀ a b c d : Int, (InsM.mk 5 a b c d).can = true ↔ _ from fun a b c d => can_op 5 (by omega) a b c d] at hc
  simp [shp, maxD, maxN, maxM, hasD, hasN, hasM] at hc
  simp -implicitDefEqProofs +contextual (disch := try first | omega | ((repeat' (first | exact AHeap.WF.empty | assumption | apply AHeap.WF.push | apply AHeap.WF.set)) <;> (simp only [AHeap.next_set, AHeap.next_push, empty_next] <;> omega))) [thumb_put.spec, thumb_put, InsAV, hs, san_wf, aloop_unroll, thumb_put.l0, field_d, field_c, field_n, field_m, field_i, field_0, mask3, mask4, mask5, mask8, mask11]
  have e0 : 2048#16 ||| BitVec.ofInt 16 (imm % 32) <<< 6 = BitVec.ofNat 16 (2048 + (imm % 32).toNat * 64) := orB (2048) imm 6 5 (by omega)
  have e1 : BitVec.ofNat 16 (2048 + (imm % 32).toNat * 64) ||| BitVec.ofInt 16 (m % 8) <<< 3 = BitVec.ofNat 16 (2048 + (imm % 32).toNat * 64 + (m % 8).toNat * 8) := orB (2048 + (imm % 32).toNat * 64) m 3 3 (by omega)
  have e2 : BitVec.ofNat 16 (2048 + (imm % 32).toNat * 64 + (m % 8).toNat * 8) ||| BitVec.ofInt 16 (d % 8) = BitVec.ofNat 16 (2048 + (imm % 32).toNat * 64 + (m % 8).toNat * 8 + (d % 8).toNat) := orB0 (2048 + (imm % 32).toNat * 64 + (m % 8).toNat * 8) d 3 (by omega)
  rw [e0, e1, e2]
  simp [putN, putGo, shp, InsM.get]
theorem shapes6 : thumb_shapes.spec [.int .i64 6] = some (shpAV 6) := by
  simp -implicitDefEqProofs +contextual (disch := omega) [thumb_shapes.spec, thumb_shapes, shpAV, shp, partAV, ofc]
set_option maxHeartbeats 1000000 in
theorem can6 (d n m imm : Int) : thumb_can.spec [InsAV ⟨6, d, n, m, imm⟩] = some (.bool (InsM.mk 6 d n m imm).can) := by
  have hs := shapes6
  simp [shpAV, shp, partAV, ofc] at hs
  have hc := can_op 6 (by omega) d n m imm
  simp only [shp, maxD, maxN, maxM, hasD, hasN, hasM] at hc
  generalize hb : (InsM.mk 6 d n m imm).can = b
  rw [show (InsM.mk (6 : Nat) d n m imm).can = b from hb] at hc
  repeat' (first
    | (simp -implicitDefEqProofs +contextual (disch := omega) [thumb_can.spec, thumb_can, InsAV, hs, aloop_unroll, thumb_can.l0, field_d, field_c, field_n, field_m, field_i, field_0])
    | (refine acondO_elim (fun h => ?_) (fun h => ?_)))
  all_goals (cases b <;> simp_all <;> omega)
set_option maxHeartbeats 1000000 in
theorem put6 (d n m imm : Int) (hc : (InsM.mk 6 d n m imm).can = true) : thumb_put.spec [InsAV ⟨6, d, n, m, imm⟩] = some (W16 (BitVec.ofNat 16 (putN ⟨6, d, n, m, imm⟩))) := by
  have hs := shapes6
  simp [shpAV, shp, partAV, ofc] at hs
  rw [show ∀ a b c d : Int, (InsM.mk 6 a b c d).can = true ↔ _ from fun a b c d => can_op 6 (by omega) a b c d] at hc
  simp [shp, maxD, maxN, maxM, hasD, hasN, hasM] at hc
  simp -implicitDefEqProofs +contextual (disch := try first | omega | ((repeat' (first | exact AHeap.WF.empty | assumption | apply AHeap.WF.push | apply AHeap.WF.set)) <;> (simp only [AHeap.next_set, AHeap.next_push, empty_next] <;> omega))) [thumb_put.spec, thumb_put, InsAV, hs, san_wf, aloop_unroll, thumb_put.l0, field_d, field_c, field_n, field_m, field_i, field_0, mask3, mask4, mask5, mask8, mask11]
  have e0 : 4096#16 ||| BitVec.ofInt 16 (imm % 32) <<< 6 = BitVec.ofNat 16 (4096 + (imm % 32).toNat * 64) := orB (4096) imm 6 5 (by omega)
  have e1 : BitVec.ofNat 16 (4096 + (imm % 32).toNat * 64) ||| BitVec.ofInt 16 (m % 8) <<< 3 = BitVec.ofNat 16 (4096 + (imm % 32).toNat * 64 + (m % 8).toNat * 8) := orB (4096 + (imm % 32).toNat * 64) m 3 3 (by omega)
  have e2 : BitVec.ofNat 16 (4096 + (imm % 32).toNat * 64 + (m % 8).toNat * 8) ||| BitVec.ofInt 16 (d % 8) = BitVec.ofNat 16 (4096 + (imm % 32).toNat * 64 + (m % 8).toNat * 8 + (d % 8).toNat) := orB0 (4096 + (imm % 32).toNat * 64 + (m % 8).toNat * 8) d 3 (by omega)
  rw [e0, e1, e2]
  simp [putN, putGo, shp, InsM.get]
theorem shapes7 : thumb_shapes.spec [.int .i64 7] = some (shpAV 7) := by
  simp -implicitDefEqProofs +contextual (disch := omega) [thumb_shapes.spec, thumb_shapes, shpAV, shp, partAV, ofc]
set_option maxHeartbeats 1000000 in
theorem can7 (d n m imm : Int) : thumb_can.spec [InsAV ⟨7, d, n, m, imm⟩] = some (.bool (InsM.mk 7 d n m imm).can) := by
  have hs := shapes7
  simp [shpAV, shp, partAV, ofc] at hs
  have hc := can_op 7 (by omega) d n m imm
  simp only [shp, maxD, maxN, maxM, hasD, hasN, hasM] at hc
  generalize hb : (InsM.mk 7 d n m imm).can = b
  rw [show (InsM.mk (7 : Nat) d n m imm).can = b from hb] at hc
  repeat' (first
    | (simp -implicitDefEqProofs +contextual (disch := omega) [thumb_can.spec, thumb_can, InsAV, hs, aloop_unroll, thumb_can.l0, field_d, field_c, field_n, field_m, field_i, field_0])
    | (refine acondO_elim (fun h => ?_) (fun h => ?_)))
  all_goals (cases b <;> simp_all <;> omega)
set_option maxHeartbeats 1000000 in
theorem put7 (d n m imm : Int) (hc : (InsM.mk 7 d n m imm).can = true) : thumb_put.spec [InsAV ⟨7, d, n, m, imm⟩] = some (W16 (BitVec.ofNat 16 (putN ⟨7, d, n, m, imm⟩))) := by
  have hs := shapes7
  simp [shpAV, shp, partAV, ofc] at hs
  rw [show ∀ a b c d : Int, (InsM.mk 7 a b c d).can = true ↔ _ from fun a b c d => can_op 7 (by omega) a b c d] at hc
  simp [shp, maxD, maxN, maxM, hasD, hasN, hasM] at hc
  simp -implicitDefEqProofs +contextual (disch := try first | omega | ((repeat' (first | exact AHeap.WF.empty | assumption | apply AHeap.WF.push | apply AHeap.WF.set)) <;> (simp only [AHeap.next_set, AHeap.next_push, empty_next] <;> omega))) [thumb_put.spec, thumb_put, InsAV, hs, san_wf, aloop_unroll, thumb_put.l0, field_d, field_c, field_n, field_m, field_i, field_0, mask3, mask4, mask5, mask8, mask11]
  have e0 : 6144#16 ||| BitVec.ofInt 16 (m % 8) <<< 6 = BitVec.ofNat 16 (6144 + (m % 8).toNat * 64) := orB (6144) m 6 3 (by omega)
  have e1 : BitVec.ofNat 16 (6144 + (m % 8).toNat * 64) ||| BitVec.ofInt 16 (n % 8) <<< 3 = BitVec.ofNat 16 (6144 + (m % 8).toNat * 64 + (n % 8).toNat * 8) := orB (6144 + (m % 8).toNat * 64) n 3 3 (by omega)
  have e2 : BitVec.ofNat 16 (6144 + (m % 8).toNat * 64 + (n % 8).toNat * 8) ||| BitVec.ofInt 16 (d % 8) = BitVec.ofNat 16 (6144 + (m % 8).toNat * 64 + (n % 8).toNat * 8 + (d % 8).toNat) := orB0 (6144 + (m % 8).toNat * 64 + (n % 8).toNat * 8) d 3 (by omega)
  rw [e0, e1, e2]
  simp [putN, putGo, shp, InsM.get]
theorem shapes8 : thumb_shapes.spec [.int .i64 8] = some (shpAV 8) := by
  simp -implicitDefEqProofs +contextual (disch := omega) [thumb_shapes.spec, thumb_shapes, shpAV, shp, partAV, ofc]
set_option maxHeartbeats 1000000 in
theorem can8 (d n m imm : Int) : thumb_can.spec [InsAV ⟨8, d, n, m, imm⟩] = some (.bool (InsM.mk 8 d n m imm).can) := by
  have hs := shapes8
  simp [shpAV, shp, partAV, ofc] at hs
  have hc := can_op 8 (by omega) d n m imm
  simp only [shp, maxD, maxN, maxM, hasD, hasN, hasM] at hc
  generalize hb : (InsM.mk 8 d n m imm).can = b
  rw [show (InsM.mk (8 : Nat) d n m imm).can = b from hb] at hc
  repeat' (first
    | (simp -implicitDefEqProofs +contextual (disch := omega) [thumb_can.spec, thumb_can, InsAV, hs, aloop_unroll, thumb_can.l0, field_d, field_c, field_n, field_m, field_i, field_0])
    | (refine acondO_elim (fun h => ?_) (fun h => ?_)))
  all_goals (cases b <;> simp_all <;> omega)
set_option maxHeartbeats 1000000 in
theorem put8 (d n m imm : Int) (hc : (InsM.mk 8 d n m imm).can = true) : thumb_put.spec [InsAV ⟨8, d, n, m, imm⟩] = some (W16 (BitVec.ofNat 16 (putN ⟨8, d, n, m, imm⟩))) := by
  have hs := shapes8
  simp [shpAV, shp, partAV, ofc] at hs
  rw [show ∀ a b c d : Int, (InsM.mk 8 a b c d).can = true ↔ _ from fun a b c d => can_op 8 (by omega) a b c d] at hc
  simp [shp, maxD, maxN, maxM, hasD, hasN, hasM] at hc
  simp -implicitDefEqProofs +contextual (disch := try first | omega | ((repeat' (first | exact AHeap.WF.empty | assumption | apply AHeap.WF.push | apply AHeap.WF.set)) <;> (simp only [AHeap.next_set, AHeap.next_push, empty_next] <;> omega))) [thumb_put.spec, thumb_put, InsAV, hs, san_wf, aloop_unroll, thumb_put.l0, field_d, field_c, field_n, field_m, field_i, field_0, mask3, mask4, mask5, mask8, mask11]
  have e0 : 6656#16 ||| BitVec.ofInt 16 (m % 8) <<< 6 = BitVec.ofNat 16 (6656 + (m % 8).toNat * 64) := orB (6656) m 6 3 (by omega)
  have e1 : BitVec.ofNat 16 (6656 + (m % 8).toNat * 64) ||| BitVec.ofInt 16 (n % 8) <<< 3 = BitVec.ofNat 16 (6656 + (m % 8).toNat * 64 + (n % 8).toNat * 8) := orB (6656 + (m % 8).toNat * 64) n 3 3 (by omega)
  have e2 : BitVec.ofNat 16 (6656 + (m % 8).toNat * 64 + (n % 8).toNat * 8) ||| BitVec.ofInt 16 (d % 8) = BitVec.ofNat 16 (6656 + (m % 8).toNat * 64 + (n % 8).toNat * 8 + (d % 8).toNat) := orB0 (6656 + (m % 8).toNat * 64 + (n % 8).toNat * 8) d 3 (by omega)
  rw [e0, e1, e2]
  simp [putN, putGo, shp, InsM.get]
theorem shapes9 : thumb_shapes.spec [.int .i64 9] = some (shpAV 9) := by
  simp -implicitDefEqProofs +contextual (disch := omega) [thumb_shapes.spec, thumb_shapes, shpAV, shp, partAV, ofc]
set_option maxHeartbeats 1000000 in
theorem can9 (d n m imm : Int) : thumb_can.spec [InsAV ⟨9, d, n, m, imm⟩] = some (.bool (InsM.mk 9 d n m imm).can) := by
  have hs := shapes9
  simp [shpAV, shp, partAV, ofc] at hs
  have hc := can_op 9 (by omega) d n m imm
  simp only [shp, maxD, maxN, maxM, hasD, hasN, hasM] at hc
  generalize hb : (InsM.mk 9 d n m imm).can = b
  rw [show (InsM.mk (9 : Nat) d n m imm).can = b from hb] at hc
  repeat' (first
    | (simp -implicitDefEqProofs +contextual (disch := omega) [thumb_can.spec, thumb_can, InsAV, hs, aloop_unroll, thumb_can.l0, field_d, field_c, field_n, field_m, field_i, field_0])
    | (refine acondO_elim (fun h => ?_) (fun h => ?_)))
  all_goals (cases b <;> simp_all <;> omega)
set_option maxHeartbeats 1000000 in
theorem put9 (d n m imm : Int) (hc : (InsM.mk 9 d n m imm).can = true) : thumb_put.spec [InsAV ⟨9, d, n, m, imm⟩] = some (W16 (BitVec.ofNat 16 (putN ⟨9, d, n, m, imm⟩))) := by
  have hs := shapes9
  simp [shpAV, shp, partAV, ofc] at hs
  rw [show ∀ a b c d : Int, (InsM.mk 9 a b c d).can = true ↔ _ from fun a b c d => can_op 9 (by omega) a b c d] at hc
  simp [shp, maxD, maxN, maxM, hasD, hasN, hasM] at hc
  simp -implicitDefEqProofs +contextual (disch := try first | omega | ((repeat' (first | exact AHeap.WF.empty | assumption | apply AHeap.WF.push | apply AHeap.WF.set)) <;> (simp only [AHeap.next_set, AHeap.next_push, empty_next] <;> omega))) [thumb_put.spec, thumb_put, InsAV, hs, san_wf, aloop_unroll, thumb_put.l0, field_d, field_c, field_n, field_m, field_i, field_0, mask3, mask4, mask5, mask8, mask11]
  have e0 : 7168#16 ||| BitVec.ofInt 16 (imm % 8) <<< 6 = BitVec.ofNat 16 (7168 + (imm % 8).toNat * 64) := orB (7168) imm 6 3 (by omega)
  have e1 : BitVec.ofNat 16 (7168 + (imm % 8).toNat * 64) ||| BitVec.ofInt 16 (n % 8) <<< 3 = BitVec.ofNat 16 (7168 + (imm % 8).toNat * 64 + (n % 8).toNat * 8) := orB (7168 + (imm % 8).toNat * 64) n 3 3 (by omega)
  have e2 : BitVec.ofNat 16 (7168 + (imm % 8).toNat * 64 + (n % 8).toNat * 8) ||| BitVec.ofInt 16 (d % 8) = BitVec.ofNat 16 (7168 + (imm % 8).toNat * 64 + (n % 8).toNat * 8 + (d % 8).toNat) := orB0 (7168 + (imm % 8).toNat * 64 + (n % 8).toNat * 8) d 3 (by omega)
  rw [e0, e1, e2]
  simp [putN, putGo, shp, InsM.get]
theorem shapes10 : thumb_shapes.spec [.int .i64 10] = some (shpAV 10) := by
  simp -implicitDefEqProofs +contextual (disch := omega) [thumb_shapes.spec, thumb_shapes, shpAV, shp, partAV, ofc]
set_option maxHeartbeats 1000000 in
theorem can10 (d n m imm : Int) : thumb_can.spec [InsAV ⟨10, d, n, m, imm⟩] = some (.bool (InsM.mk 10 d n m imm).can) := by
  have hs := shapes10
  simp [shpAV, shp, partAV, ofc] at hs
  have hc := can_op 10 (by omega) d n m imm
  simp only [shp, maxD, maxN, maxM, hasD, hasN, hasM] at hc
  generalize hb : (InsM.mk 10 d n m imm).can = b
  rw [show (InsM.mk (10 : Nat) d n m imm).can = b from hb] at hc
  repeat' (first
    | (simp -implicitDefEqProofs +contextual (disch := omega) [thumb_can.spec, thumb_can, InsAV, hs, aloop_unroll, thumb_can.l0, field_d, field_c, field_n, field_m, field_i, field_0])
    | (refine acondO_elim (fun h => ?_) (fun h => ?_)))
  all_goals (cases b <;> simp_all <;> omega)
set_option maxHeartbeats 1000000 in
theorem put10 (d n m imm : Int) (hc : (InsM.mk 10 d n m imm).can = true) : thumb_put.spec [InsAV ⟨10, d, n, m, imm⟩] = some (W16 (BitVec.ofNat 16 (putN ⟨10, d, n, m, imm⟩))) := by
  have hs := shapes10
  simp [shpAV, shp, partAV, ofc] at hs
  rw [show ∀ a b c d : Int, (InsM.mk 10 a b c d).can = true ↔ _ from fun a b c d => can_op 10 (by omega) a b c d] at hc
  simp [shp, maxD, maxN, maxM, hasD, hasN, hasM] at hc
  simp -implicitDefEqProofs +contextual (disch := try first | omega | ((repeat' (first | exact AHeap.WF.empty | assumption | apply AHeap.WF.push | apply AHeap.WF.set)) <;> (simp only [AHeap.next_set, AHeap.next_push, empty_next] <;> omega))) [thumb_put.spec, thumb_put, InsAV, hs, san_wf, aloop_unroll, thumb_put.l0, field_d, field_c, field_n, field_m, field_i, field_0, mask3, mask4, mask5, mask8, mask11]
  have e0 : 7680#16 ||| BitVec.ofInt 16 (imm % 8) <<< 6 = BitVec.ofNat 16 (7680 + (imm % 8).toNat * 64) := orB (7680) imm 6 3 (by omega)
  have e1 : BitVec.ofNat 16 (7680 + (imm % 8).toNat * 64) ||| BitVec.ofInt 16 (n % 8) <<< 3 = BitVec.ofNat 16 (7680 + (imm % 8).toNat * 64 + (n % 8).toNat * 8) := orB (7680 + (imm % 8).toNat * 64) n 3 3 (by omega)
  have e2 : BitVec.ofNat 16 (7680 + (imm % 8).toNat * 64 + (n % 8).toNat * 8) ||| BitVec.ofInt 16 (d % 8) = BitVec.ofNat 16 (7680 + (imm % 8).toNat * 64 + (n % 8).toNat * 8 + (d % 8).toNat) := orB0 (7680 + (imm % 8).toNat * 64 + (n % 8).toNat * 8) d 3 (by omega)
  rw [e0, e1, e2]
  simp [putN, putGo, shp, InsM.get]
theorem shapes11 : thumb_shapes.spec [.int .i64 11] = some (shpAV 11) := by
  simp -implicitDefEqProofs +contextual (disch := omega) [thumb_shapes.spec, thumb_shapes, shpAV, shp, partAV, ofc]
set_option maxHeartbeats 1000000 in
theorem can11 (d n m imm : Int) : thumb_can.spec [InsAV ⟨11, d, n, m, imm⟩] = some (.bool (InsM.mk 11 d n m imm).can) := by
  have hs := shapes11
  simp [shpAV, shp, partAV, ofc] at hs
  have hc := can_op 11 (by omega) d n m imm
  simp only [shp, maxD, maxN, maxM, hasD, hasN, hasM] at hc
  generalize hb : (InsM.mk 11 d n m imm).can = b
  rw [show (InsM.mk (11 : Nat) d n m imm).can = b from hb] at hc
  repeat' (first
    | (simp -implicitDefEqProofs +contextual (disch := omega) [thumb_can.spec, thumb_can, InsAV, hs, aloop_unroll, thumb_can.l0, field_d, field_c, field_n, field_m, field_i, field_0])
    | (refine acondO_elim (fun h => ?_) (fun h => ?_)))
  all_goals (cases b <;> simp_all <;> omega)
set_option maxHeartbeats 1000000 in
theorem put11 (d n m imm : Int) (hc : (InsM.mk 11 d n m imm).can = true) : thumb_put.spec [InsAV ⟨11, d, n, m, imm⟩] = some (W16 (BitVec.ofNat 16 (putN ⟨11, d, n, m, imm⟩))) := by
  have hs := shapes11
  simp [shpAV, shp, partAV, ofc] at hs
  rw [show ∀ a b c d : Int, (InsM.mk 11 a b c d).can = true ↔ _ from fun a b c d => can_op 11 (by omega) a b c d] at hc
  simp [shp, maxD, maxN, maxM, hasD, hasN, hasM] at hc
  simp -implicitDefEqProofs +contextual (disch := try first | omega | ((repeat' (first | exact AHeap.WF.empty | assumption | apply AHeap.WF.push | apply AHeap.WF.set)) <;> (simp only [AHeap.next_set, AHeap.next_push, empty_next] <;> omega))) [thumb_put.spec, thumb_put, InsAV, hs, san_wf, aloop_unroll, thumb_put.l0, field_d, field_c, field_n, field_m, field_i, field_0, mask3, mask4, mask5, mask8, mask11]
  have e0 : 16384#16 ||| BitVec.ofInt 16 (imm % 16) <<< 6 = BitVec.ofNat 16 (16384 + (imm % 16).toNat * 64) := orB (16384) imm 6 4 (by omega)
  have e1 : BitVec.ofNat 16 (16384 + (imm % 16).toNat * 64) ||| BitVec.ofInt 16 (m % 8) <<< 3 = BitVec.ofNat 16 (16384 + (imm % 16).toNat * 64 + (m % 8).toNat * 8) := orB (16384 + (imm % 16).toNat * 64) m 3 3 (by omega)
  have e2 : BitVec.ofNat 16 (16384 + (imm % 16).toNat * 64 + (m % 8).toNat * 8) ||| BitVec.ofInt 16 (d % 8) = BitVec.ofNat 16 (16384 + (imm % 16).toNat * 64 + (m % 8).toNat * 8 + (d % 8).toNat) := orB0 (16384 + (imm % 16).toNat * 64 + (m % 8).toNat * 8) d 3 (by omega)
  rw [e0, e1, e2]
  simp [putN, putGo, shp, InsM.get]
theorem shapes12 : thumb_shapes.spec [.int .i64 12] = some (shpAV 12) := by
  simp -implicitDefEqProofs +contextual (disch := omega) [thumb_shapes.spec, thumb_shapes, shpAV, shp, partAV, ofc]
set_option maxHeartbeats 1000000 in
theorem can12 (d n m imm : Int) : thumb_can.spec [InsAV ⟨12, d, n, m, imm⟩] = some (.bool (InsM.mk 12 d n m imm).can) := by
  have hs := shapes12
  simp [shpAV, shp, partAV, ofc] at hs
  have hc := can_op 12 (by omega) d n m imm
  simp only [shp, maxD, maxN, maxM, hasD, hasN, hasM] at hc
  generalize hb : (InsM.mk 12 d n m imm).can = b
  rw [show (InsM.mk (12 : Nat) d n m imm).can = b from hb] at hc
  repeat' (first
    | (simp -implicitDefEqProofs +contextual (disch := omega) [thumb_can.spec, thumb_can, InsAV, hs, aloop_unroll, thumb_can.l0, field_d, field_c, field_n, field_m, field_i, field_0])
    | (refine acondO_elim (fun h => ?_) (fun h => ?_)))
  all_goals (cases b <;> simp_all <;> omega)
set_option maxHeartbeats 1000000 in
theorem put12 (d n m imm : Int) (hc : (InsM.mk 12 d n m imm).can = true) : thumb_put.spec [InsAV ⟨12, d, n, m, imm⟩] = some (W16 (BitVec.ofNat 16 (putN ⟨12, d, n, m, imm⟩))) := by
  have hs := shapes12
  simp [shpAV, shp, partAV, ofc] at hs
  rw [show ∀ a b c d : Int, (InsM.mk 12 a b c d).can = true ↔ _ from fun a b c d => can_op 12 (by omega) a b c d] at hc
  simp [shp, maxD, maxN, maxM, hasD, hasN, hasM] at hc
  simp -implicitDefEqProofs +contextual (disch := try first | omega | ((repeat' (first | exact AHeap.WF.empty | assumption | apply AHeap.WF.push | apply AHeap.WF.set)) <;> (simp only [AHeap.next_set, AHeap.next_push, empty_next] <;> omega))) [thumb_put.spec, thumb_put, InsAV, hs, san_wf, aloop_unroll, thumb_put.l0, field_d, field_c, field_n, field_m, field_i, field_0, mask3, mask4, mask5, mask8, mask11]
  have e0 : 26624#16 ||| BitVec.ofInt 16 (imm % 32) <<< 6 = BitVec.ofNat 16 (26624 + (imm % 32).toNat * 64) := orB (26624) imm 6 5 (by omega)
  have e1 : BitVec.ofNat 16 (26624 + (imm % 32).toNat * 64) ||| BitVec.ofInt 16 (n % 8) <<< 3 = BitVec.ofNat 16 (26624 + (imm % 32).toNat * 64 + (n % 8).toNat * 8) := orB (26624 + (imm % 32).toNat * 64) n 3 3 (by omega)
  have e2 : BitVec.ofNat 16 (26624 + (imm % 32).toNat * 64 + (n % 8).toNat * 8) ||| BitVec.ofInt 16 (d % 8) = BitVec.ofNat 16 (26624 + (imm % 32).toNat * 64 + (n % 8).toNat * 8 + (d % 8).toNat) := orB0 (26624 + (imm % 32).toNat * 64 + (n % 8).toNat * 8) d 3 (by omega)
  rw [e0, e1, e2]
  simp [putN, putGo, shp, InsM.get]
theorem shapes13 : thumb_shapes.spec [.int .i64 13] = some (shpAV 13) := by
  simp -implicitDefEqProofs +contextual (disch := omega) [thumb_shapes.spec, thumb_shapes, shpAV, shp, partAV, ofc]
set_option maxHeartbeats 1000000 in
theorem can13 (d n m imm : Int) : thumb_can.spec [InsAV ⟨13, d, n, m, imm⟩] = some (.bool (InsM.mk 13 d n m imm).can) := by
  have hs := shapes13
  simp [shpAV, shp, partAV, ofc] at hs
  have hc := can_op 13 (by omega) d n m imm
  simp only [shp, maxD, maxN, maxM, hasD, hasN, hasM] at hc
  generalize hb : (InsM.mk 13 d n m imm).can = b
  rw [show (InsM.mk (13 : Nat) d n m imm).can = b from hb] at hc
  repeat' (first
    | (simp -implicitDefEqProofs +contextual (disch := omega) [thumb_can.spec, thumb_can, InsAV, hs, aloop_unroll, thumb_can.l0, field_d, field_c, field_n, field_m, field_i, field_0])
    | (refine acondO_elim (fun h => ?_) (fun h => ?_)))
  all_goals (cases b <;> simp_all <;> omega)
set_option maxHeartbeats 1000000 in
theorem put13 (d n m imm : Int) (hc : (InsM.mk 13 d n m imm).can = true) : thumb_put.spec [InsAV ⟨13, d, n, m, imm⟩] = some (W16 (BitVec.ofNat 16 (putN ⟨13, d, n, m, imm⟩))) := by
  have hs := shapes13
  simp [shpAV, shp, partAV, ofc] at hs
  rw [show ∀ a b c d : Int, (InsM.mk 13 a b c d).can = true ↔ _ from fun a b c d => can_op 13 (by omega) a b c d] at hc
  simp [shp, maxD, maxN, maxM, hasD, hasN, hasM] at hc
  simp -implicitDefEqProofs +contextual (disch := try first | omega | ((repeat' (first | exact AHeap.WF.empty | assumption | apply AHeap.WF.push | apply AHeap.WF.set)) <;> (simp only [AHeap.next_set, AHeap.next_push, empty_next] <;> omega))) [thumb_put.spec, thumb_put, InsAV, hs, san_wf, aloop_unroll, thumb_put.l0, field_d, field_c, field_n, field_m, field_i, field_0, mask3, mask4, mask5, mask8, mask11]
  have e0 : 24576#16 ||| BitVec.ofInt 16 (imm % 32) <<< 6 = BitVec.ofNat 16 (24576 + (imm % 32).toNat * 64) := orB (24576) imm 6 5 (by omega)
  have e1 : BitVec.ofNat 16 (24576 + (imm % 32).toNat * 64) ||| BitVec.ofInt 16 (n % 8) <<< 3 = BitVec.ofNat 16 (24576 + (imm % 32).toNat * 64 + (n % 8).toNat * 8) := orB (24576 + (imm % 32).toNat * 64) n 3 3 (by omega)
  have e2 : BitVec.ofNat 16 (24576 + (imm % 32).toNat * 64 + (n % 8).toNat * 8) ||| BitVec.ofInt 16 (d % 8) = BitVec.ofNat 16 (24576 + (imm % 32).toNat * 64 + (n % 8).toNat * 8 + (d % 8).toNat) := orB0 (24576 + (imm % 32).toNat * 64 + (n % 8).toNat * 8) d 3 (by omega)
  rw [e0, e1, e2]
  simp [putN, putGo, shp, InsM.get]
theorem shapes14 : thumb_shapes.spec [.int .i64 14] = some (shpAV 14) := by
  simp -implicitDefEqProofs +contextual (disch := omega) [thumb_shapes.spec, thumb_shapes, shpAV, shp, partAV, ofc]
set_option maxHeartbeats 1000000 in
theorem can14 (d n m imm : Int) : thumb_can.spec [InsAV ⟨14, d, n, m, imm⟩] = some (.bool (InsM.mk 14 d n m imm).can) := by
  have hs := shapes14
  simp [shpAV, shp, partAV, ofc] at hs
  have hc := can_op 14 (by omega) d n m imm
  simp only [shp, maxD, maxN, maxM, hasD, hasN, hasM] at hc
  generalize hb : (InsM.mk 14 d n m imm).can = b
  rw [show (InsM.mk (14 : Nat) d n m imm).can = b from hb] at hc
  repeat' (first
    | (simp -implicitDefEqProofs +contextual (disch := omega) [thumb_can.spec, thumb_can, InsAV, hs, aloop_unroll, thumb_can.l0, field_d, field_c, field_n, field_m, field_i, field_0])
    | (refine acondO_elim (fun h => ?_) (fun h => ?_)))
  all_goals (cases b <;> simp_all <;> omega)
set_option maxHeartbeats 1000000 in
theorem put14 (d n m imm : Int) (hc : (InsM.mk 14 d n m imm).can = true) : thumb_put.spec [InsAV ⟨14, d, n, m, imm⟩] = some (W16 (BitVec.ofNat 16 (putN ⟨14, d, n, m, imm⟩))) := by
  have hs := shapes14
  simp [shpAV, shp, partAV, ofc] at hs
  rw [show ∀ a b c d : Int, (InsM.mk 14 a b c d).can = true ↔ _ from fun a b c d => can_op 14 (by omega) a b c d] at hc
  simp [shp, maxD, maxN, maxM, hasD, hasN, hasM] at hc
  simp -implicitDefEqProofs +contextual (disch := try first | omega | ((repeat' (first | exact AHeap.WF.empty | assumption | apply AHeap.WF.push | apply AHeap.WF.set)) <;> (simp only [AHeap.next_set, AHeap.next_push, empty_next] <;> omega))) [thumb_put.spec, thumb_put, InsAV, hs, san_wf, aloop_unroll, thumb_put.l0, field_d, field_c, field_n, field_m, field_i, field_0, mask3, mask4, mask5, mask8, mask11]
  have e0 : 22528#16 ||| BitVec.ofInt 16 (m % 8) <<< 6 = BitVec.ofNat 16 (22528 + (m % 8).toNat * 64) := orB (22528) m 6 3 (by omega)
  have e1 : BitVec.ofNat 16 (22528 + (m % 8).toNat * 64) ||| BitVec.ofInt 16 (n % 8) <<< 3 = BitVec.ofNat 16 (22528 + (m % 8).toNat * 64 + (n % 8).toNat * 8) := orB (22528 + (m % 8).toNat * 64) n 3 3 (by omega)
  have e2 : BitVec.ofNat 16 (22528 + (m % 8).toNat * 64 + (n % 8).toNat * 8) ||| BitVec.ofInt 16 (d % 8) = BitVec.ofNat 16 (22528 + (m % 8).toNat * 64 + (n % 8).toNat * 8 + (d % 8).toNat) := orB0 (22528 + (m % 8).toNat * 64 + (n % 8).toNat * 8) d 3 (by omega)
  rw [e0, e1, e2]
  simp [putN, putGo, shp, InsM.get]
theorem shapes15 : thumb_shapes.spec [.int .i64 15] = some (shpAV 15) := by
  simp -implicitDefEqProofs +contextual (disch := omega) [thumb_shapes.spec, thumb_shapes, shpAV, shp, partAV, ofc]
set_option maxHeartbeats 1000000 in
theorem can15 (d n m imm : Int) : thumb_can.spec [InsAV ⟨15, d, n, m, imm⟩] = some (.bool (InsM.mk 15 d n m imm).can) := by
  have hs := shapes15
  simp [shpAV, shp, partAV, ofc] at hs
  have hc := can_op 15 (by omega) d n m imm
  simp only [shp, maxD, maxN, maxM, hasD, hasN, hasM] at hc
  generalize hb : (InsM.mk 15 d n m imm).can = b
  rw [show (InsM.mk (15 : Nat) d n m imm).can = b from hb] at hc
  repeat' (first
    | (simp -implicitDefEqProofs +contextual (disch := omega) [thumb_can.spec, thumb_can, InsAV, hs, aloop_unroll, thumb_can.l0, field_d, field_c, field_n, field_m, field_i, field_0])
    | (refine acondO_elim (fun h => ?_) (fun h => ?_)))
  all_goals (cases b <;> simp_all <;> omega)
set_option maxHeartbeats 1000000 in
theorem put15 (d n m imm : Int) (hc : (InsM.mk 15 d n m imm).can = true) : thumb_put.spec [InsAV ⟨15, d, n, m, imm⟩] = some (W16 (BitVec.ofNat 16 (putN ⟨15, d, n, m, imm⟩))) := by
  have hs := shapes15
  simp [shpAV, shp, partAV, ofc] at hs
  rw [show ∀ a b c d : Int, (InsM.mk 15 a b c d).can = true ↔ _ from fun a b c d => can_op 15 (by omega) a b c d] at hc
  simp [shp, maxD, maxN, maxM, hasD, hasN, hasM] at hc
  simp -implicitDefEqProofs +contextual (disch := try first | omega | ((repeat' (first | exact AHeap.WF.empty | assumption | apply AHeap.WF.push | apply AHeap.WF.set)) <;> (simp only [AHeap.next_set, AHeap.next_push, empty_next] <;> omega))) [thumb_put.spec, thumb_put, InsAV, hs, san_wf, aloop_unroll, thumb_put.l0, field_d, field_c, field_n, field_m, field_i, field_0, mask3, mask4, mask5, mask8, mask11]
  have e0 : 20480#16 ||| BitVec.ofInt 16 (m % 8) <<< 6 = BitVec.ofNat 16 (20480 + (m % 8).toNat * 64) := orB (20480) m 6 3 (by omega)
  have e1 : BitVec.ofNat 16 (20480 + (m % 8).toNat * 64) ||| BitVec.ofInt 16 (n % 8) <<< 3 = BitVec.ofNat 16 (20480 + (m % 8).toNat * 64 + (n % 8).toNat * 8) := orB (20480 + (m % 8).toNat * 64) n 3 3 (by omega)
  have e2 : BitVec.ofNat 16 (20480 + (m % 8).toNat * 64 + (n % 8).toNat * 8) ||| BitVec.ofInt 16 (d % 8) = BitVec.ofNat 16 (20480 + (m % 8).toNat * 64 + (n % 8).toNat * 8 + (d % 8).toNat) := orB0 (20480 + (m % 8).toNat * 64 + (n % 8).toNat * 8) d 3 (by omega)
  rw [e0, e1, e2]
  simp [putN, putGo, shp, InsM.get]
theorem shapes16 : thumb_shapes.spec [.int .i64 16] = some (shpAV 16) := by
  simp -implicitDefEqProofs +contextual (disch := omega) [thumb_shapes.spec, thumb_shapes, shpAV, shp, partAV, ofc]
set_option maxHeartbeats 1000000 in
theorem can16 (d n m imm : Int) : thumb_can.spec [InsAV ⟨16, d, n, m, imm⟩] = some (.bool (InsM.mk 16 d n m imm).can) := by
  have hs := shapes16
  simp [shpAV, shp, partAV, ofc] at hs
  have hc := can_op 16 (by omega) d n m imm
  simp only [shp, maxD, maxN, maxM, hasD, hasN, hasM] at hc
  generalize hb : (InsM.mk 16 d n m imm).can = b
  rw [show (InsM.mk (16 : Nat) d n m imm).can = b from hb] at hc
  repeat' (first
    | (simp -implicitDefEqProofs +contextual (disch := omega) [thumb_can.spec, thumb_can, InsAV, hs, aloop_unroll, thumb_can.l0, field_d, field_c, field_n, field_m, field_i, field_0])
    | (refine acondO_elim (fun h => ?_) (fun h => ?_)))
  all_goals (cases b <;> simp_all <;> omega)
set_option maxHeartbeats 1000000 in
theorem put16 (d n m imm : Int) (hc : (InsM.mk 16 d n m imm).can = true) : thumb_put.spec [InsAV ⟨16, d, n, m, imm⟩] = some (W16 (BitVec.ofNat 16 (putN ⟨16, d, n, m, imm⟩))) := by
  have hs := shapes16
  simp [shpAV, shp, partAV, ofc] at hs
  rw [show ∀ a b c d : Int, (InsM.mk 16 a b c d).can = true ↔ _ from fun a b c d => can_op 16 (by omega) a b c d] at hc
  simp [shp, maxD, maxN, maxM, hasD, hasN, hasM] at hc
  simp -implicitDefEqProofs +contextual (disch := try first | omega | ((repeat' (first | exact AHeap.WF.empty | assumption | apply AHeap.WF.push | apply AHeap.WF.set)) <;> (simp only [AHeap.next_set, AHeap.next_push, empty_next] <;> omega))) [thumb_put.spec, thumb_put, InsAV, hs, san_wf, aloop_unroll, thumb_put.l0, field_d, field_c, field_n, field_m, field_i, field_0, mask3, mask4, mask5, mask8, mask11]
  have e0 : 18432#16 ||| BitVec.ofInt 16 (d % 8) <<< 8 = BitVec.ofNat 16 (18432 + (d % 8).toNat * 256) := orB (18432) d 8 3 (by omega)
  have e1 : BitVec.ofNat 16 (18432 + (d % 8).toNat * 256) ||| BitVec.ofInt 16 (imm % 256) = BitVec.ofNat 16 (18432 + (d % 8).toNat * 256 + (imm % 256).toNat) := orB0 (18432 + (d % 8).toNat * 256) imm 8 (by omega)
  rw [e0, e1]
  simp [putN, putGo, shp, InsM.get]
theorem shapes17 : thumb_shapes.spec [.int .i64 17] = some (shpAV 17) := by
  simp -implicitDefEqProofs +contextual (disch := omega) [thumb_shapes.spec, thumb_shapes, shpAV, shp, partAV, ofc]
set_option maxHeartbeats 1000000 in
theorem can17 (d n m imm : Int) : thumb_can.spec [InsAV ⟨17, d, n, m, imm⟩] = some (.bool (InsM.mk 17 d n m imm).can) := by
  have hs := shapes17
  simp [shpAV, shp, partAV, ofc] at hs
  have hc := can_op 17 (by omega) d n m imm
  simp only [shp, maxD, maxN, maxM, hasD, hasN, hasM] at hc
  generalize hb : (InsM.mk 17 d n m imm).can = b
  rw [show (InsM.mk (17 : Nat) d n m imm).can = b from hb] at hc
  repeat' (first
    | (simp -implicitDefEqProofs +contextual (disch := omega) [thumb_can.spec, thumb_can, InsAV, hs, aloop_unroll, thumb_can.l0, field_d, field_c, field_n, field_m, field_i, field_0])
    | (refine acondO_elim (fun h => ?_) (fun h => ?_)))
  all_goals (cases b <;> simp_all <;> omega)
set_option maxHeartbeats 1000000 in
theorem put17 (d n m imm : Int) (hc : (InsM.mk 17 d n m imm).can = true) : thumb_put.spec [InsAV ⟨17, d, n, m, imm⟩] = some (W16 (BitVec.ofNat 16 (putN ⟨17, d, n, m, imm⟩))) := by
  have hs := shapes17
  simp [shpAV, shp, partAV, ofc] at hs
  rw [show ∀ a b c d : Int, (InsM.mk 17 a b c d).can = true ↔ _ from fun a b c d => can_op 17 (by omega) a b c d] at hc
  simp [shp, maxD, maxN, maxM, hasD, hasN, hasM] at hc
  simp -implicitDefEqProofs +contextual (disch := try first | omega | ((repeat' (first | exact AHeap.WF.empty | assumption | apply AHeap.WF.push | apply AHeap.WF.set)) <;> (simp only [AHeap.next_set, AHeap.next_push, empty_next] <;> omega))) [thumb_put.spec, thumb_put, InsAV, hs, san_wf, aloop_unroll, thumb_put.l0, field_d, field_c, field_n, field_m, field_i, field_0, mask3, mask4, mask5, mask8, mask11]
  have e0 : 57344#16 ||| BitVec.ofInt 16 (imm % 2048) = BitVec.ofNat 16 (57344 + (imm % 2048).toNat) := orB0 (57344) imm 11 (by omega)
  rw [e0]
  simp [putN, putGo, shp, InsM.get]
theorem shapes18 : thumb_shapes.spec [.int .i64 18] = some (shpAV 18) := by
  simp -implicitDefEqProofs +contextual (disch := omega) [thumb_shapes.spec, thumb_shapes, shpAV, shp, partAV, ofc]
set_option maxHeartbeats 1000000 in
theorem can18 (d n m imm : Int) : thumb_can.spec [InsAV ⟨18, d, n, m, imm⟩] = some (.bool (InsM.mk 18 d n m imm).can) := by
  have hs := shapes18
  simp [shpAV, shp, partAV, ofc] at hs
  have hc := can_op 18 (by omega) d n m imm
  simp only [shp, maxD, maxN, maxM, hasD, hasN, hasM] at hc
  generalize hb : (InsM.mk 18 d n m imm).can = b
  rw [show (InsM.mk (18 : Nat) d n m imm).can = b from hb] at hc
  repeat' (first
    | (simp -implicitDefEqProofs +contextual (disch := omega) [thumb_can.spec, thumb_can, InsAV, hs, aloop_unroll, thumb_can.l0, field_d, field_c, field_n, field_m, field_i, field_0])
    | (refine acondO_elim (fun h => ?_) (fun h => ?_)))
  all_goals (cases b <;> simp_all <;> omega)
set_option maxHeartbeats 1000000 in
theorem put18 (d n m imm : Int) (hc : (InsM.mk 18 d n m imm).can = true) : thumb_put.spec [InsAV ⟨18, d, n, m, imm⟩] = some (W16 (BitVec.ofNat 16 (putN ⟨18, d, n, m, imm⟩))) := by
  have hs := shapes18
  simp [shpAV, shp, partAV, ofc] at hs
  rw [show ∀ a b c d : Int, (InsM.mk 18 a b c d).can = true ↔ _ from fun a b c d => can_op 18 (by omega) a b c d] at hc
  simp [shp, maxD, maxN, maxM, hasD, hasN, hasM] at hc
  simp -implicitDefEqProofs +contextual (disch := try first | omega | ((repeat' (first | exact AHeap.WF.empty | assumption | apply AHeap.WF.push | apply AHeap.WF.set)) <;> (simp only [AHeap.next_set, AHeap.next_push, empty_next] <;> omega))) [thumb_put.spec, thumb_put, InsAV, hs, san_wf, aloop_unroll, thumb_put.l0, field_d, field_c, field_n, field_m, field_i, field_0, mask3, mask4, mask5, mask8, mask11]
  have e0 : 53248#16 ||| BitVec.ofInt 16 (d % 16) <<< 8 = BitVec.ofNat 16 (53248 + (d % 16).toNat * 256) := orB (53248) d 8 4 (by omega)
  have e1 : BitVec.ofNat 16 (53248 + (d % 16).toNat * 256) ||| BitVec.ofInt 16 (imm % 256) = BitVec.ofNat 16 (53248 + (d % 16).toNat * 256 + (imm % 256).toNat) := orB0 (53248 + (d % 16).toNat * 256) imm 8 (by omega)
  rw [e0, e1]
  simp [putN, putGo, shp, InsM.get]
theorem shapes19 : thumb_shapes.spec [.int .i64 19] = some (shpAV 19) := by
  simp -implicitDefEqProofs +contextual (disch := omega) [thumb_shapes.spec, thumb_shapes, shpAV, shp, partAV, ofc]
set_option maxHeartbeats 1000000 in
theorem can19 (d n m imm : Int) : thumb_can.spec [InsAV ⟨19, d, n, m, imm⟩] = some (.bool (InsM.mk 19 d n m imm).can) := by
  have hs := shapes19
  simp [shpAV, shp, partAV, ofc] at hs
  have hc := can_op 19 (by omega) d n m imm
  simp only [shp, maxD, maxN, maxM, hasD, hasN, hasM] at hc
  generalize hb : (InsM.mk 19 d n m imm).can = b
  rw [show (InsM.mk (19 : Nat) d n m imm).can = b from hb] at hc
  repeat' (first
    | (simp -implicitDefEqProofs +contextual (disch := omega) [thumb_can.spec, thumb_can, InsAV, hs, aloop_unroll, thumb_can.l0, field_d, field_c, field_n, field_m, field_i, field_0])
    | (refine acondO_elim (fun h => ?_) (fun h => ?_)))
  all_goals (cases b <;> simp_all <;> omega)
set_option maxHeartbeats 1000000 in
theorem put19 (d n m imm : Int) (hc : (InsM.mk 19 d n m imm).can = true) : thumb_put.spec [InsAV ⟨19, d, n, m, imm⟩] = some (W16 (BitVec.ofNat 16 (putN ⟨19, d, n, m, imm⟩))) := by
  have hs := shapes19
  simp [shpAV, shp, partAV, ofc] at hs
  rw [show ∀ a b c d : Int, (InsM.mk 19 a b c d).can = true ↔ _ from fun a b c d => can_op 19 (by omega) a b c d] at hc
  simp [shp, maxD, maxN, maxM, hasD, hasN, hasM] at hc
  simp -implicitDefEqProofs +contextual (disch := try first | omega | ((repeat' (first | exact AHeap.WF.empty | assumption | apply AHeap.WF.push | apply AHeap.WF.set)) <;> (simp only [AHeap.next_set, AHeap.next_push, empty_next] <;> omega))) [thumb_put.spec, thumb_put, InsAV, hs, san_wf, aloop_unroll, thumb_put.l0, field_d, field_c, field_n, field_m, field_i, field_0, mask3, mask4, mask5, mask8, mask11]
  simp [putN, putGo, shp, InsM.get]
theorem shapes20 : thumb_shapes.spec [.int .i64 20] = some (shpAV 20) := by
  simp -implicitDefEqProofs +contextual (disch := omega) [thumb_shapes.spec, thumb_shapes, shpAV, shp, partAV, ofc]
set_option maxHeartbeats 1000000 in
theorem can20 (d n m imm : Int) : thumb_can.spec [InsAV ⟨20, d, n, m, imm⟩] = some (.bool (InsM.mk 20 d n m imm).can) := by
  have hs := shapes20
  simp [shpAV, shp, partAV, ofc] at hs
  have hc := can_op 20 (by omega) d n m imm
  simp only [shp, maxD, maxN, maxM, hasD, hasN, hasM] at hc
  generalize hb : (InsM.mk 20 d n m imm).can = b
  rw [show (InsM.mk (20 : Nat) d n m imm).can = b from hb] at hc
  repeat' (first
    | (simp -implicitDefEqProofs +contextual (disch := omega) [thumb_can.spec, thumb_can, InsAV, hs, aloop_unroll, thumb_can.l0, field_d, field_c, field_n, field_m, field_i, field_0])
    | (refine acondO_elim (fun h => ?_) (fun h => ?_)))
  all_goals (cases b <;> simp_all <;> omega)
set_option maxHeartbeats 1000000 in
theorem put20 (d n m imm : Int) (hc : (InsM.mk 20 d n m imm).can = true) : thumb_put.spec [InsAV ⟨20, d, n, m, imm⟩] = some (W16 (BitVec.ofNat 16 (putN ⟨20, d, n, m, imm⟩))) := by
  have hs := shapes20
  simp [shpAV, shp, partAV, ofc] at hs
  rw [show ∀ a b c d : Int, (InsM.mk 20 a b c d).can = true ↔ _ from fun a b c d => can_op 20 (by omega) a b c d] at hc
  simp [shp, maxD, maxN, maxM, hasD, hasN, hasM] at hc
  simp -implicitDefEqProofs +contextual (disch := try first | omega | ((repeat' (first | exact AHeap.WF.empty | assumption | apply AHeap.WF.push | apply AHeap.WF.set)) <;> (simp only [AHeap.next_set, AHeap.next_push, empty_next] <;> omega))) [thumb_put.spec, thumb_put, InsAV, hs, san_wf, aloop_unroll, thumb_put.l0, field_d, field_c, field_n, field_m, field_i, field_0, mask3, mask4, mask5, mask8, mask11]
  have e0 : 48640#16 ||| BitVec.ofInt 16 (imm % 256) = BitVec.ofNat 16 (48640 + (imm % 256).toNat) := orB0 (48640) imm 8 (by omega)
  rw [e0]
  simp [putN, putGo, shp, InsM.get]
end Go.Abs

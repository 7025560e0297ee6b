/-
  Instructions and their halfwords: what the program's functions do. Printed by gent1.py.
-/
import Derived.Test.YteohnepdbjmghaaZ10
import Derived.Test.YteohnepdbjmghaaZ4
import Derived.Test.YteohnepdbjmghaaZ2
import Derived.Test.YteohnepdbjmghaaZ9
set_option linter.unusedSimpArgs false
set_option linter.unusedVariables false
set_option maxHeartbeats 20000000
set_option maxRecDepth 100000
section
namespace Go.Abs
open Th
def InsAV (i : InsM) : AV := .agg [.int .i64 i.op, .int .i64 i.d, .int .i64 i.n, .int .i64 i.m, .int .i64 i.imm]
def ofc : Nat → BitVec 8
 | 0 => 100#8
 | 1 => 110#8
 | 2 => 109#8
 | 3 => 105#8
 | _ => 99#8
def z_bp : Option Part → List AV
 | some p => [W8 (ofc p.of), .int .i64 p.at_, .int .i64 p.wide]
 | none => [W8 0#8, .int .i64 0, .int .i64 0]
def shpAV (op : Nat) : AV := .agg (W16 (BitVec.ofNat 16 (shp op).bits) :: (z_bp ((shp op).parts[0]?) ++ z_bp ((shp op).parts[1]?) ++ z_bp ((shp op).parts[2]?) ++ [.int .i64 (shp op).low, .int .i64 (shp op).high]))
theorem mask3 (q : QK) (x : Int) : abinR q .and (.int .i64 x) (.int .i64 7) = some (.int .i64 (x % 8)) := z_ib q 3 x (by omega)
theorem mask4 (q : QK) (x : Int) : abinR q .and (.int .i64 x) (.int .i64 15) = some (.int .i64 (x % 16)) := z_ib q 4 x (by omega)
theorem mask5 (q : QK) (x : Int) : abinR q .and (.int .i64 x) (.int .i64 31) = some (.int .i64 (x % 32)) := z_ib q 5 x (by omega)
theorem mask8 (q : QK) (x : Int) : abinR q .and (.int .i64 x) (.int .i64 255) = some (.int .i64 (x % 256)) := z_ib q 8 x (by omega)
theorem mask11 (q : QK) (x : Int) : abinR q .and (.int .i64 x) (.int .i64 2047) = some (.int .i64 (x % 2048)) := z_ib q 11 x (by omega)
theorem z_v3 (a b at_ w : Nat) (h : a % 2 ^ (at_ + w) = 0) (hb : b < 2 ^ w) : a ||| b <<< at_ = a + b * 2 ^ at_ := by
 obtain ⟨c, rfl⟩ : ∃ c, a = 2 ^ (at_ + w) * c := ⟨a / 2 ^ (at_ + w), by have := Nat.div_add_mod a (2 ^ (at_ + w)); omega⟩
 rw [Nat.shiftLeft_eq, ← Nat.two_pow_add_eq_or_of_lt]
 rw [Nat.pow_add, Nat.mul_comm]
 exact Nat.mul_lt_mul_of_pos_left hb (Nat.two_pow_pos _)
theorem orB (a : Nat) (x : Int) (s w : Nat) (h : a % 2 ^ (s + w) = 0) : BitVec.ofNat 16 a ||| (BitVec.ofInt 16 (x % ((2 ^ w : Nat) : Int))) <<< s = BitVec.ofNat 16 (a + (x % ((2 ^ w : Nat) : Int)).toNat * 2 ^ s) := by
 have h1 : 0 ≤ x % ((2 ^ w : Nat) : Int) := Int.emod_nonneg _ (by have := Nat.two_pow_pos w; omega)
 have h2 : x % ((2 ^ w : Nat) : Int) < ((2 ^ w : Nat) : Int) := Int.emod_lt_of_pos _ (by have := Nat.two_pow_pos w; omega)
 obtain ⟨b, hb⟩ : ∃ b : Nat, x % ((2 ^ w : Nat) : Int) = (b : Int) := ⟨_, (Int.toNat_of_nonneg h1).symm⟩
 rw [hb] at h2 ⊢
 rw [Int.toNat_natCast, BitVec.ofInt_natCast, ← z_v3 a b s w h (by omega)]
 apply BitVec.eq_of_toNat_eq
 simp only [BitVec.toNat_or, BitVec.toNat_shiftLeft, BitVec.toNat_ofNat, Nat.or_mod_two_pow, Nat.shiftLeft_eq, Nat.mod_mul_mod]
theorem orB0 (a : Nat) (x : Int) (w : Nat) (h : a % 2 ^ w = 0) : BitVec.ofNat 16 a ||| (BitVec.ofInt 16 (x % ((2 ^ w : Nat) : Int))) = BitVec.ofNat 16 (a + (x % ((2 ^ w : Nat) : Int)).toNat) := by
 have := orB a x 0 w (by simpa using h); simpa using this
theorem z_b6 (b i0 : Nat) (H : Hp) : z_a5.spec [.ptr b 5 i0 0, W8 100#8] H = some (.ptr b 5 i0 1, H) := by
 simp -implicitDefEqProofs +contextual (disch := omega) [z_a5.spec, z_a5]
theorem z_b7 (b i0 : Nat) (H : Hp) : z_a5.spec [.ptr b 5 i0 0, W8 99#8] H = some (.ptr b 5 i0 1, H) := by
 simp -implicitDefEqProofs +contextual (disch := omega) [z_a5.spec, z_a5]
theorem z_b3 (b i0 : Nat) (H : Hp) : z_a5.spec [.ptr b 5 i0 0, W8 110#8] H = some (.ptr b 5 i0 2, H) := by
 simp -implicitDefEqProofs +contextual (disch := omega) [z_a5.spec, z_a5]
theorem z_b4 (b i0 : Nat) (H : Hp) : z_a5.spec [.ptr b 5 i0 0, W8 109#8] H = some (.ptr b 5 i0 3, H) := by
 simp -implicitDefEqProofs +contextual (disch := omega) [z_a5.spec, z_a5]
theorem z_b5 (b i0 : Nat) (H : Hp) : z_a5.spec [.ptr b 5 i0 0, W8 105#8] H = some (.ptr b 5 i0 4, H) := by
 simp -implicitDefEqProofs +contextual (disch := omega) [z_a5.spec, z_a5]
theorem z_b8 (b i0 : Nat) (H : Hp) : z_a5.spec [.ptr b 5 i0 0, W8 0#8] H = some (.ptr b 5 i0 4, H) := by
 simp -implicitDefEqProofs +contextual (disch := omega) [z_a5.spec, z_a5]
theorem shapes0 : z_ab.spec [.int .i64 0] = some (shpAV 0) := by
 simp -implicitDefEqProofs +contextual (disch := omega) [z_ab.spec, z_ab, shpAV, shp, z_bp, ofc]
theorem can0 (d n m imm : Int) : z_af.spec [InsAV ⟨0, d, n, m, imm⟩] = some (.bool (InsM.mk 0 d n m imm).can) := by
 have hs := shapes0
 simp [shpAV, shp, z_bp, ofc] at hs
 have hc := z_aw 0 (by omega) d n m imm
 simp only [shp, maxD, maxN, maxM, hasD, hasN, hasM] at hc
 generalize hb : (InsM.mk 0 d n m imm).can = b
 rw [show (InsM.mk (0 : Nat) d n m imm).can = b from hb] at hc
 repeat' (first
  | (simp -implicitDefEqProofs +contextual (disch := omega) [z_af.spec, z_af, InsAV, hs, z_al, z_af.l0, z_b6, z_b7, z_b3, z_b4, z_b5, z_b8])
  | (refine z_as (fun h => ?_) (fun h => ?_)))
 all_goals (cases b <;> simp_all <;> omega)
theorem put0 (d n m imm : Int) (hc : (InsM.mk 0 d n m imm).can = true) : z_ag.spec [InsAV ⟨0, d, n, m, imm⟩] = some (W16 (BitVec.ofNat 16 (putN ⟨0, d, n, m, imm⟩))) := by
 have hs := shapes0
 simp [shpAV, shp, z_bp, ofc] at hs
 rw [show ∀ a b c d : Int, (InsM.mk 0 a b c d).can = true ↔ _ from fun a b c d => z_aw 0 (by omega) a b c d] at hc
 simp [shp, maxD, maxN, maxM, hasD, hasN, hasM] at hc
 simp -implicitDefEqProofs +contextual (disch := try first | omega | ((repeat' (first | exact Hp.WF.empty | assumption | apply Hp.WF.push | apply Hp.WF.set)) <;> (simp only [Hp.next_set, Hp.next_push, z_cf] <;> omega))) [z_ag.spec, z_ag, InsAV, hs, z_d8, z_al, z_ag.l0, z_b6, z_b7, z_b3, z_b4, z_b5, z_b8, mask3, mask4, mask5, mask8, mask11]
 have e0 : 8192#16 ||| BitVec.ofInt 16 (d % 8) <<< 8 = BitVec.ofNat 16 (8192 + (d % 8).toNat * 256) := orB (8192) d 8 3 (by omega)
 have e1 : BitVec.ofNat 16 (8192 + (d % 8).toNat * 256) ||| BitVec.ofInt 16 (imm % 256) = BitVec.ofNat 16 (8192 + (d % 8).toNat * 256 + (imm % 256).toNat) := orB0 (8192 + (d % 8).toNat * 256) imm 8 (by omega)
 rw [e0, e1]
 simp [putN, putGo, shp, InsM.get]
theorem shapes1 : z_ab.spec [.int .i64 1] = some (shpAV 1) := by
 simp -implicitDefEqProofs +contextual (disch := omega) [z_ab.spec, z_ab, shpAV, shp, z_bp, ofc]
theorem can1 (d n m imm : Int) : z_af.spec [InsAV ⟨1, d, n, m, imm⟩] = some (.bool (InsM.mk 1 d n m imm).can) := by
 have hs := shapes1
 simp [shpAV, shp, z_bp, ofc] at hs
 have hc := z_aw 1 (by omega) d n m imm
 simp only [shp, maxD, maxN, maxM, hasD, hasN, hasM] at hc
 generalize hb : (InsM.mk 1 d n m imm).can = b
 rw [show (InsM.mk (1 : Nat) d n m imm).can = b from hb] at hc
 repeat' (first
  | (simp -implicitDefEqProofs +contextual (disch := omega) [z_af.spec, z_af, InsAV, hs, z_al, z_af.l0, z_b6, z_b7, z_b3, z_b4, z_b5, z_b8])
  | (refine z_as (fun h => ?_) (fun h => ?_)))
 all_goals (cases b <;> simp_all <;> omega)
theorem put1 (d n m imm : Int) (hc : (InsM.mk 1 d n m imm).can = true) : z_ag.spec [InsAV ⟨1, d, n, m, imm⟩] = some (W16 (BitVec.ofNat 16 (putN ⟨1, d, n, m, imm⟩))) := by
 have hs := shapes1
 simp [shpAV, shp, z_bp, ofc] at hs
 rw [show ∀ a b c d : Int, (InsM.mk 1 a b c d).can = true ↔ _ from fun a b c d => z_aw 1 (by omega) a b c d] at hc
 simp [shp, maxD, maxN, maxM, hasD, hasN, hasM] at hc
 simp -implicitDefEqProofs +contextual (disch := try first | omega | ((repeat' (first | exact Hp.WF.empty | assumption | apply Hp.WF.push | apply Hp.WF.set)) <;> (simp only [Hp.next_set, Hp.next_push, z_cf] <;> omega))) [z_ag.spec, z_ag, InsAV, hs, z_d8, z_al, z_ag.l0, z_b6, z_b7, z_b3, z_b4, z_b5, z_b8, mask3, mask4, mask5, mask8, mask11]
 have e0 : 10240#16 ||| BitVec.ofInt 16 (d % 8) <<< 8 = BitVec.ofNat 16 (10240 + (d % 8).toNat * 256) := orB (10240) d 8 3 (by omega)
 have e1 : BitVec.ofNat 16 (10240 + (d % 8).toNat * 256) ||| BitVec.ofInt 16 (imm % 256) = BitVec.ofNat 16 (10240 + (d % 8).toNat * 256 + (imm % 256).toNat) := orB0 (10240 + (d % 8).toNat * 256) imm 8 (by omega)
 rw [e0, e1]
 simp [putN, putGo, shp, InsM.get]
theorem shapes2 : z_ab.spec [.int .i64 2] = some (shpAV 2) := by
 simp -implicitDefEqProofs +contextual (disch := omega) [z_ab.spec, z_ab, shpAV, shp, z_bp, ofc]
theorem can2 (d n m imm : Int) : z_af.spec [InsAV ⟨2, d, n, m, imm⟩] = some (.bool (InsM.mk 2 d n m imm).can) := by
 have hs := shapes2
 simp [shpAV, shp, z_bp, ofc] at hs
 have hc := z_aw 2 (by omega) d n m imm
 simp only [shp, maxD, maxN, maxM, hasD, hasN, hasM] at hc
 generalize hb : (InsM.mk 2 d n m imm).can = b
 rw [show (InsM.mk (2 : Nat) d n m imm).can = b from hb] at hc
 repeat' (first
  | (simp -implicitDefEqProofs +contextual (disch := omega) [z_af.spec, z_af, InsAV, hs, z_al, z_af.l0, z_b6, z_b7, z_b3, z_b4, z_b5, z_b8])
  | (refine z_as (fun h => ?_) (fun h => ?_)))
 all_goals (cases b <;> simp_all <;> omega)
theorem put2 (d n m imm : Int) (hc : (InsM.mk 2 d n m imm).can = true) : z_ag.spec [InsAV ⟨2, d, n, m, imm⟩] = some (W16 (BitVec.ofNat 16 (putN ⟨2, d, n, m, imm⟩))) := by
 have hs := shapes2
 simp [shpAV, shp, z_bp, ofc] at hs
 rw [show ∀ a b c d : Int, (InsM.mk 2 a b c d).can = true ↔ _ from fun a b c d => z_aw 2 (by omega) a b c d] at hc
 simp [shp, maxD, maxN, maxM, hasD, hasN, hasM] at hc
 simp -implicitDefEqProofs +contextual (disch := try first | omega | ((repeat' (first | exact Hp.WF.empty | assumption | apply Hp.WF.push | apply Hp.WF.set)) <;> (simp only [Hp.next_set, Hp.next_push, z_cf] <;> omega))) [z_ag.spec, z_ag, InsAV, hs, z_d8, z_al, z_ag.l0, z_b6, z_b7, z_b3, z_b4, z_b5, z_b8, mask3, mask4, mask5, mask8, mask11]
 have e0 : 12288#16 ||| BitVec.ofInt 16 (d % 8) <<< 8 = BitVec.ofNat 16 (12288 + (d % 8).toNat * 256) := orB (12288) d 8 3 (by omega)
 have e1 : BitVec.ofNat 16 (12288 + (d % 8).toNat * 256) ||| BitVec.ofInt 16 (imm % 256) = BitVec.ofNat 16 (12288 + (d % 8).toNat * 256 + (imm % 256).toNat) := orB0 (12288 + (d % 8).toNat * 256) imm 8 (by omega)
 rw [e0, e1]
 simp [putN, putGo, shp, InsM.get]
theorem shapes3 : z_ab.spec [.int .i64 3] = some (shpAV 3) := by
 simp -implicitDefEqProofs +contextual (disch := omega) [z_ab.spec, z_ab, shpAV, shp, z_bp, ofc]
theorem can3 (d n m imm : Int) : z_af.spec [InsAV ⟨3, d, n, m, imm⟩] = some (.bool (InsM.mk 3 d n m imm).can) := by
 have hs := shapes3
 simp [shpAV, shp, z_bp, ofc] at hs
 have hc := z_aw 3 (by omega) d n m imm
 simp only [shp, maxD, maxN, maxM, hasD, hasN, hasM] at hc
 generalize hb : (InsM.mk 3 d n m imm).can = b
 rw [show (InsM.mk (3 : Nat) d n m imm).can = b from hb] at hc
 repeat' (first
  | (simp -implicitDefEqProofs +contextual (disch := omega) [z_af.spec, z_af, InsAV, hs, z_al, z_af.l0, z_b6, z_b7, z_b3, z_b4, z_b5, z_b8])
  | (refine z_as (fun h => ?_) (fun h => ?_)))
 all_goals (cases b <;> simp_all <;> omega)
theorem put3 (d n m imm : Int) (hc : (InsM.mk 3 d n m imm).can = true) : z_ag.spec [InsAV ⟨3, d, n, m, imm⟩] = some (W16 (BitVec.ofNat 16 (putN ⟨3, d, n, m, imm⟩))) := by
 have hs := shapes3
 simp [shpAV, shp, z_bp, ofc] at hs
 rw [show ∀ a b c d : Int, (InsM.mk 3 a b c d).can = true ↔ _ from fun a b c d => z_aw 3 (by omega) a b c d] at hc
 simp [shp, maxD, maxN, maxM, hasD, hasN, hasM] at hc
 simp -implicitDefEqProofs +contextual (disch := try first | omega | ((repeat' (first | exact Hp.WF.empty | assumption | apply Hp.WF.push | apply Hp.WF.set)) <;> (simp only [Hp.next_set, Hp.next_push, z_cf] <;> omega))) [z_ag.spec, z_ag, InsAV, hs, z_d8, z_al, z_ag.l0, z_b6, z_b7, z_b3, z_b4, z_b5, z_b8, mask3, mask4, mask5, mask8, mask11]
 have e0 : 14336#16 ||| BitVec.ofInt 16 (d % 8) <<< 8 = BitVec.ofNat 16 (14336 + (d % 8).toNat * 256) := orB (14336) d 8 3 (by omega)
 have e1 : BitVec.ofNat 16 (14336 + (d % 8).toNat * 256) ||| BitVec.ofInt 16 (imm % 256) = BitVec.ofNat 16 (14336 + (d % 8).toNat * 256 + (imm % 256).toNat) := orB0 (14336 + (d % 8).toNat * 256) imm 8 (by omega)
 rw [e0, e1]
 simp [putN, putGo, shp, InsM.get]
theorem shapes4 : z_ab.spec [.int .i64 4] = some (shpAV 4) := by
 simp -implicitDefEqProofs +contextual (disch := omega) [z_ab.spec, z_ab, shpAV, shp, z_bp, ofc]
theorem can4 (d n m imm : Int) : z_af.spec [InsAV ⟨4, d, n, m, imm⟩] = some (.bool (InsM.mk 4 d n m imm).can) := by
 have hs := shapes4
 simp [shpAV, shp, z_bp, ofc] at hs
 have hc := z_aw 4 (by omega) d n m imm
 simp only [shp, maxD, maxN, maxM, hasD, hasN, hasM] at hc
 generalize hb : (InsM.mk 4 d n m imm).can = b
 rw [show (InsM.mk (4 : Nat) d n m imm).can = b from hb] at hc
 repeat' (first
  | (simp -implicitDefEqProofs +contextual (disch := omega) [z_af.spec, z_af, InsAV, hs, z_al, z_af.l0, z_b6, z_b7, z_b3, z_b4, z_b5, z_b8])
  | (refine z_as (fun h => ?_) (fun h => ?_)))
 all_goals (cases b <;> simp_all <;> omega)
theorem put4 (d n m imm : Int) (hc : (InsM.mk 4 d n m imm).can = true) : z_ag.spec [InsAV ⟨4, d, n, m, imm⟩] = some (W16 (BitVec.ofNat 16 (putN ⟨4, d, n, m, imm⟩))) := by
 have hs := shapes4
 simp [shpAV, shp, z_bp, ofc] at hs
 rw [show ∀ a b c d : Int, (InsM.mk 4 a b c d).can = true ↔ _ from fun a b c d => z_aw 4 (by omega) a b c d] at hc
 simp [shp, maxD, maxN, maxM, hasD, hasN, hasM] at hc
 simp -implicitDefEqProofs +contextual (disch := try first | omega | ((repeat' (first | exact Hp.WF.empty | assumption | apply Hp.WF.push | apply Hp.WF.set)) <;> (simp only [Hp.next_set, Hp.next_push, z_cf] <;> omega))) [z_ag.spec, z_ag, InsAV, hs, z_d8, z_al, z_ag.l0, z_b6, z_b7, z_b3, z_b4, z_b5, z_b8, mask3, mask4, mask5, mask8, mask11]
 have e0 : BitVec.ofInt 16 (imm % 32) <<< 6 = BitVec.ofNat 16 (0 + (imm % 32).toNat * 64) := BitVec.zero_or.symm.trans (orB 0 imm 6 5 (by omega))
 have e1 : BitVec.ofNat 16 (0 + (imm % 32).toNat * 64) ||| BitVec.ofInt 16 (m % 8) <<< 3 = BitVec.ofNat 16 (0 + (imm % 32).toNat * 64 + (m % 8).toNat * 8) := orB (0 + (imm % 32).toNat * 64) m 3 3 (by omega)
 have e2 : BitVec.ofNat 16 (0 + (imm % 32).toNat * 64 + (m % 8).toNat * 8) ||| BitVec.ofInt 16 (d % 8) = BitVec.ofNat 16 (0 + (imm % 32).toNat * 64 + (m % 8).toNat * 8 + (d % 8).toNat) := orB0 (0 + (imm % 32).toNat * 64 + (m % 8).toNat * 8) d 3 (by omega)
 rw [e0, e1, e2]
 simp [putN, putGo, shp, InsM.get]
theorem shapes5 : z_ab.spec [.int .i64 5] = some (shpAV 5) := by
 simp -implicitDefEqProofs +contextual (disch := omega) [z_ab.spec, z_ab, shpAV, shp, z_bp, ofc]
theorem can5 (d n m imm : Int) : z_af.spec [InsAV ⟨5, d, n, m, imm⟩] = some (.bool (InsM.mk 5 d n m imm).can) := by
 have hs := shapes5
 simp [shpAV, shp, z_bp, ofc] at hs
 have hc := z_aw 5 (by omega) d n m imm
 simp only [shp, maxD, maxN, maxM, hasD, hasN, hasM] at hc
 generalize hb : (InsM.mk 5 d n m imm).can = b
 rw [show (InsM.mk (5 : Nat) d n m imm).can = b from hb] at hc
 repeat' (first
  | (simp -implicitDefEqProofs +contextual (disch := omega) [z_af.spec, z_af, InsAV, hs, z_al, z_af.l0, z_b6, z_b7, z_b3, z_b4, z_b5, z_b8])
  | (refine z_as (fun h => ?_) (fun h => ?_)))
 all_goals (cases b <;> simp_all <;> omega)
theorem put5 (d n m imm : Int) (hc : (InsM.mk 5 d n m imm).can = true) : z_ag.spec [InsAV ⟨5, d, n, m, imm⟩] = some (W16 (BitVec.ofNat 16 (putN ⟨5, d, n, m, imm⟩))) := by
 have hs := shapes5
 simp [shpAV, shp, z_bp, ofc] at hs
 rw [show ∀ a b c d : Int, (InsM.mk 5 a b c d).can = true ↔ _ from fun a b c d => z_aw 5 (by omega) a b c d] at hc
 simp [shp, maxD, maxN, maxM, hasD, hasN, hasM] at hc
 simp -implicitDefEqProofs +contextual (disch := try first | omega | ((repeat' (first | exact Hp.WF.empty | assumption | apply Hp.WF.push | apply Hp.WF.set)) <;> (simp only [Hp.next_set, Hp.next_push, z_cf] <;> omega))) [z_ag.spec, z_ag, InsAV, hs, z_d8, z_al, z_ag.l0, z_b6, z_b7, z_b3, z_b4, z_b5, z_b8, mask3, mask4, mask5, mask8, mask11]
 have e0 : 2048#16 ||| BitVec.ofInt 16 (imm % 32) <<< 6 = BitVec.ofNat 16 (2048 + (imm % 32).toNat * 64) := orB (2048) imm 6 5 (by omega)
 have e1 : BitVec.ofNat 16 (2048 + (imm % 32).toNat * 64) ||| BitVec.ofInt 16 (m % 8) <<< 3 = BitVec.ofNat 16 (2048 + (imm % 32).toNat * 64 + (m % 8).toNat * 8) := orB (2048 + (imm % 32).toNat * 64) m 3 3 (by omega)
 have e2 : BitVec.ofNat 16 (2048 + (imm % 32).toNat * 64 + (m % 8).toNat * 8) ||| BitVec.ofInt 16 (d % 8) = BitVec.ofNat 16 (2048 + (imm % 32).toNat * 64 + (m % 8).toNat * 8 + (d % 8).toNat) := orB0 (2048 + (imm % 32).toNat * 64 + (m % 8).toNat * 8) d 3 (by omega)
 rw [e0, e1, e2]
 simp [putN, putGo, shp, InsM.get]
theorem shapes6 : z_ab.spec [.int .i64 6] = some (shpAV 6) := by
 simp -implicitDefEqProofs +contextual (disch := omega) [z_ab.spec, z_ab, shpAV, shp, z_bp, ofc]
theorem can6 (d n m imm : Int) : z_af.spec [InsAV ⟨6, d, n, m, imm⟩] = some (.bool (InsM.mk 6 d n m imm).can) := by
 have hs := shapes6
 simp [shpAV, shp, z_bp, ofc] at hs
 have hc := z_aw 6 (by omega) d n m imm
 simp only [shp, maxD, maxN, maxM, hasD, hasN, hasM] at hc
 generalize hb : (InsM.mk 6 d n m imm).can = b
 rw [show (InsM.mk (6 : Nat) d n m imm).can = b from hb] at hc
 repeat' (first
  | (simp -implicitDefEqProofs +contextual (disch := omega) [z_af.spec, z_af, InsAV, hs, z_al, z_af.l0, z_b6, z_b7, z_b3, z_b4, z_b5, z_b8])
  | (refine z_as (fun h => ?_) (fun h => ?_)))
 all_goals (cases b <;> simp_all <;> omega)
theorem put6 (d n m imm : Int) (hc : (InsM.mk 6 d n m imm).can = true) : z_ag.spec [InsAV ⟨6, d, n, m, imm⟩] = some (W16 (BitVec.ofNat 16 (putN ⟨6, d, n, m, imm⟩))) := by
 have hs := shapes6
 simp [shpAV, shp, z_bp, ofc] at hs
 rw [show ∀ a b c d : Int, (InsM.mk 6 a b c d).can = true ↔ _ from fun a b c d => z_aw 6 (by omega) a b c d] at hc
 simp [shp, maxD, maxN, maxM, hasD, hasN, hasM] at hc
 simp -implicitDefEqProofs +contextual (disch := try first | omega | ((repeat' (first | exact Hp.WF.empty | assumption | apply Hp.WF.push | apply Hp.WF.set)) <;> (simp only [Hp.next_set, Hp.next_push, z_cf] <;> omega))) [z_ag.spec, z_ag, InsAV, hs, z_d8, z_al, z_ag.l0, z_b6, z_b7, z_b3, z_b4, z_b5, z_b8, mask3, mask4, mask5, mask8, mask11]
 have e0 : 4096#16 ||| BitVec.ofInt 16 (imm % 32) <<< 6 = BitVec.ofNat 16 (4096 + (imm % 32).toNat * 64) := orB (4096) imm 6 5 (by omega)
 have e1 : BitVec.ofNat 16 (4096 + (imm % 32).toNat * 64) ||| BitVec.ofInt 16 (m % 8) <<< 3 = BitVec.ofNat 16 (4096 + (imm % 32).toNat * 64 + (m % 8).toNat * 8) := orB (4096 + (imm % 32).toNat * 64) m 3 3 (by omega)
 have e2 : BitVec.ofNat 16 (4096 + (imm % 32).toNat * 64 + (m % 8).toNat * 8) ||| BitVec.ofInt 16 (d % 8) = BitVec.ofNat 16 (4096 + (imm % 32).toNat * 64 + (m % 8).toNat * 8 + (d % 8).toNat) := orB0 (4096 + (imm % 32).toNat * 64 + (m % 8).toNat * 8) d 3 (by omega)
 rw [e0, e1, e2]
 simp [putN, putGo, shp, InsM.get]
theorem shapes7 : z_ab.spec [.int .i64 7] = some (shpAV 7) := by
 simp -implicitDefEqProofs +contextual (disch := omega) [z_ab.spec, z_ab, shpAV, shp, z_bp, ofc]
theorem can7 (d n m imm : Int) : z_af.spec [InsAV ⟨7, d, n, m, imm⟩] = some (.bool (InsM.mk 7 d n m imm).can) := by
 have hs := shapes7
 simp [shpAV, shp, z_bp, ofc] at hs
 have hc := z_aw 7 (by omega) d n m imm
 simp only [shp, maxD, maxN, maxM, hasD, hasN, hasM] at hc
 generalize hb : (InsM.mk 7 d n m imm).can = b
 rw [show (InsM.mk (7 : Nat) d n m imm).can = b from hb] at hc
 repeat' (first
  | (simp -implicitDefEqProofs +contextual (disch := omega) [z_af.spec, z_af, InsAV, hs, z_al, z_af.l0, z_b6, z_b7, z_b3, z_b4, z_b5, z_b8])
  | (refine z_as (fun h => ?_) (fun h => ?_)))
 all_goals (cases b <;> simp_all <;> omega)
theorem put7 (d n m imm : Int) (hc : (InsM.mk 7 d n m imm).can = true) : z_ag.spec [InsAV ⟨7, d, n, m, imm⟩] = some (W16 (BitVec.ofNat 16 (putN ⟨7, d, n, m, imm⟩))) := by
 have hs := shapes7
 simp [shpAV, shp, z_bp, ofc] at hs
 rw [show ∀ a b c d : Int, (InsM.mk 7 a b c d).can = true ↔ _ from fun a b c d => z_aw 7 (by omega) a b c d] at hc
 simp [shp, maxD, maxN, maxM, hasD, hasN, hasM] at hc
 simp -implicitDefEqProofs +contextual (disch := try first | omega | ((repeat' (first | exact Hp.WF.empty | assumption | apply Hp.WF.push | apply Hp.WF.set)) <;> (simp only [Hp.next_set, Hp.next_push, z_cf] <;> omega))) [z_ag.spec, z_ag, InsAV, hs, z_d8, z_al, z_ag.l0, z_b6, z_b7, z_b3, z_b4, z_b5, z_b8, mask3, mask4, mask5, mask8, mask11]
 have e0 : 6144#16 ||| BitVec.ofInt 16 (m % 8) <<< 6 = BitVec.ofNat 16 (6144 + (m % 8).toNat * 64) := orB (6144) m 6 3 (by omega)
 have e1 : BitVec.ofNat 16 (6144 + (m % 8).toNat * 64) ||| BitVec.ofInt 16 (n % 8) <<< 3 = BitVec.ofNat 16 (6144 + (m % 8).toNat * 64 + (n % 8).toNat * 8) := orB (6144 + (m % 8).toNat * 64) n 3 3 (by omega)
 have e2 : BitVec.ofNat 16 (6144 + (m % 8).toNat * 64 + (n % 8).toNat * 8) ||| BitVec.ofInt 16 (d % 8) = BitVec.ofNat 16 (6144 + (m % 8).toNat * 64 + (n % 8).toNat * 8 + (d % 8).toNat) := orB0 (6144 + (m % 8).toNat * 64 + (n % 8).toNat * 8) d 3 (by omega)
 rw [e0, e1, e2]
 simp [putN, putGo, shp, InsM.get]
theorem shapes8 : z_ab.spec [.int .i64 8] = some (shpAV 8) := by
 simp -implicitDefEqProofs +contextual (disch := omega) [z_ab.spec, z_ab, shpAV, shp, z_bp, ofc]
theorem can8 (d n m imm : Int) : z_af.spec [InsAV ⟨8, d, n, m, imm⟩] = some (.bool (InsM.mk 8 d n m imm).can) := by
 have hs := shapes8
 simp [shpAV, shp, z_bp, ofc] at hs
 have hc := z_aw 8 (by omega) d n m imm
 simp only [shp, maxD, maxN, maxM, hasD, hasN, hasM] at hc
 generalize hb : (InsM.mk 8 d n m imm).can = b
 rw [show (InsM.mk (8 : Nat) d n m imm).can = b from hb] at hc
 repeat' (first
  | (simp -implicitDefEqProofs +contextual (disch := omega) [z_af.spec, z_af, InsAV, hs, z_al, z_af.l0, z_b6, z_b7, z_b3, z_b4, z_b5, z_b8])
  | (refine z_as (fun h => ?_) (fun h => ?_)))
 all_goals (cases b <;> simp_all <;> omega)
theorem put8 (d n m imm : Int) (hc : (InsM.mk 8 d n m imm).can = true) : z_ag.spec [InsAV ⟨8, d, n, m, imm⟩] = some (W16 (BitVec.ofNat 16 (putN ⟨8, d, n, m, imm⟩))) := by
 have hs := shapes8
 simp [shpAV, shp, z_bp, ofc] at hs
 rw [show ∀ a b c d : Int, (InsM.mk 8 a b c d).can = true ↔ _ from fun a b c d => z_aw 8 (by omega) a b c d] at hc
 simp [shp, maxD, maxN, maxM, hasD, hasN, hasM] at hc
 simp -implicitDefEqProofs +contextual (disch := try first | omega | ((repeat' (first | exact Hp.WF.empty | assumption | apply Hp.WF.push | apply Hp.WF.set)) <;> (simp only [Hp.next_set, Hp.next_push, z_cf] <;> omega))) [z_ag.spec, z_ag, InsAV, hs, z_d8, z_al, z_ag.l0, z_b6, z_b7, z_b3, z_b4, z_b5, z_b8, mask3, mask4, mask5, mask8, mask11]
 have e0 : 6656#16 ||| BitVec.ofInt 16 (m % 8) <<< 6 = BitVec.ofNat 16 (6656 + (m % 8).toNat * 64) := orB (6656) m 6 3 (by omega)
 have e1 : BitVec.ofNat 16 (6656 + (m % 8).toNat * 64) ||| BitVec.ofInt 16 (n % 8) <<< 3 = BitVec.ofNat 16 (6656 + (m % 8).toNat * 64 + (n % 8).toNat * 8) := orB (6656 + (m % 8).toNat * 64) n 3 3 (by omega)
 have e2 : BitVec.ofNat 16 (6656 + (m % 8).toNat * 64 + (n % 8).toNat * 8) ||| BitVec.ofInt 16 (d % 8) = BitVec.ofNat 16 (6656 + (m % 8).toNat * 64 + (n % 8).toNat * 8 + (d % 8).toNat) := orB0 (6656 + (m % 8).toNat * 64 + (n % 8).toNat * 8) d 3 (by omega)
 rw [e0, e1, e2]
 simp [putN, putGo, shp, InsM.get]
theorem shapes9 : z_ab.spec [.int .i64 9] = some (shpAV 9) := by
 simp -implicitDefEqProofs +contextual (disch := omega) [z_ab.spec, z_ab, shpAV, shp, z_bp, ofc]
theorem can9 (d n m imm : Int) : z_af.spec [InsAV ⟨9, d, n, m, imm⟩] = some (.bool (InsM.mk 9 d n m imm).can) := by
 have hs := shapes9
 simp [shpAV, shp, z_bp, ofc] at hs
 have hc := z_aw 9 (by omega) d n m imm
 simp only [shp, maxD, maxN, maxM, hasD, hasN, hasM] at hc
 generalize hb : (InsM.mk 9 d n m imm).can = b
 rw [show (InsM.mk (9 : Nat) d n m imm).can = b from hb] at hc
 repeat' (first
  | (simp -implicitDefEqProofs +contextual (disch := omega) [z_af.spec, z_af, InsAV, hs, z_al, z_af.l0, z_b6, z_b7, z_b3, z_b4, z_b5, z_b8])
  | (refine z_as (fun h => ?_) (fun h => ?_)))
 all_goals (cases b <;> simp_all <;> omega)
theorem put9 (d n m imm : Int) (hc : (InsM.mk 9 d n m imm).can = true) : z_ag.spec [InsAV ⟨9, d, n, m, imm⟩] = some (W16 (BitVec.ofNat 16 (putN ⟨9, d, n, m, imm⟩))) := by
 have hs := shapes9
 simp [shpAV, shp, z_bp, ofc] at hs
 rw [show ∀ a b c d : Int, (InsM.mk 9 a b c d).can = true ↔ _ from fun a b c d => z_aw 9 (by omega) a b c d] at hc
 simp [shp, maxD, maxN, maxM, hasD, hasN, hasM] at hc
 simp -implicitDefEqProofs +contextual (disch := try first | omega | ((repeat' (first | exact Hp.WF.empty | assumption | apply Hp.WF.push | apply Hp.WF.set)) <;> (simp only [Hp.next_set, Hp.next_push, z_cf] <;> omega))) [z_ag.spec, z_ag, InsAV, hs, z_d8, z_al, z_ag.l0, z_b6, z_b7, z_b3, z_b4, z_b5, z_b8, mask3, mask4, mask5, mask8, mask11]
 have e0 : 7168#16 ||| BitVec.ofInt 16 (imm % 8) <<< 6 = BitVec.ofNat 16 (7168 + (imm % 8).toNat * 64) := orB (7168) imm 6 3 (by omega)
 have e1 : BitVec.ofNat 16 (7168 + (imm % 8).toNat * 64) ||| BitVec.ofInt 16 (n % 8) <<< 3 = BitVec.ofNat 16 (7168 + (imm % 8).toNat * 64 + (n % 8).toNat * 8) := orB (7168 + (imm % 8).toNat * 64) n 3 3 (by omega)
 have e2 : BitVec.ofNat 16 (7168 + (imm % 8).toNat * 64 + (n % 8).toNat * 8) ||| BitVec.ofInt 16 (d % 8) = BitVec.ofNat 16 (7168 + (imm % 8).toNat * 64 + (n % 8).toNat * 8 + (d % 8).toNat) := orB0 (7168 + (imm % 8).toNat * 64 + (n % 8).toNat * 8) d 3 (by omega)
 rw [e0, e1, e2]
 simp [putN, putGo, shp, InsM.get]
theorem shapes10 : z_ab.spec [.int .i64 10] = some (shpAV 10) := by
 simp -implicitDefEqProofs +contextual (disch := omega) [z_ab.spec, z_ab, shpAV, shp, z_bp, ofc]
theorem can10 (d n m imm : Int) : z_af.spec [InsAV ⟨10, d, n, m, imm⟩] = some (.bool (InsM.mk 10 d n m imm).can) := by
 have hs := shapes10
 simp [shpAV, shp, z_bp, ofc] at hs
 have hc := z_aw 10 (by omega) d n m imm
 simp only [shp, maxD, maxN, maxM, hasD, hasN, hasM] at hc
 generalize hb : (InsM.mk 10 d n m imm).can = b
 rw [show (InsM.mk (10 : Nat) d n m imm).can = b from hb] at hc
 repeat' (first
  | (simp -implicitDefEqProofs +contextual (disch := omega) [z_af.spec, z_af, InsAV, hs, z_al, z_af.l0, z_b6, z_b7, z_b3, z_b4, z_b5, z_b8])
  | (refine z_as (fun h => ?_) (fun h => ?_)))
 all_goals (cases b <;> simp_all <;> omega)
theorem put10 (d n m imm : Int) (hc : (InsM.mk 10 d n m imm).can = true) : z_ag.spec [InsAV ⟨10, d, n, m, imm⟩] = some (W16 (BitVec.ofNat 16 (putN ⟨10, d, n, m, imm⟩))) := by
 have hs := shapes10
 simp [shpAV, shp, z_bp, ofc] at hs
 rw [show ∀ a b c d : Int, (InsM.mk 10 a b c d).can = true ↔ _ from fun a b c d => z_aw 10 (by omega) a b c d] at hc
 simp [shp, maxD, maxN, maxM, hasD, hasN, hasM] at hc
 simp -implicitDefEqProofs +contextual (disch := try first | omega | ((repeat' (first | exact Hp.WF.empty | assumption | apply Hp.WF.push | apply Hp.WF.set)) <;> (simp only [Hp.next_set, Hp.next_push, z_cf] <;> omega))) [z_ag.spec, z_ag, InsAV, hs, z_d8, z_al, z_ag.l0, z_b6, z_b7, z_b3, z_b4, z_b5, z_b8, mask3, mask4, mask5, mask8, mask11]
 have e0 : 7680#16 ||| BitVec.ofInt 16 (imm % 8) <<< 6 = BitVec.ofNat 16 (7680 + (imm % 8).toNat * 64) := orB (7680) imm 6 3 (by omega)
 have e1 : BitVec.ofNat 16 (7680 + (imm % 8).toNat * 64) ||| BitVec.ofInt 16 (n % 8) <<< 3 = BitVec.ofNat 16 (7680 + (imm % 8).toNat * 64 + (n % 8).toNat * 8) := orB (7680 + (imm % 8).toNat * 64) n 3 3 (by omega)
 have e2 : BitVec.ofNat 16 (7680 + (imm % 8).toNat * 64 + (n % 8).toNat * 8) ||| BitVec.ofInt 16 (d % 8) = BitVec.ofNat 16 (7680 + (imm % 8).toNat * 64 + (n % 8).toNat * 8 + (d % 8).toNat) := orB0 (7680 + (imm % 8).toNat * 64 + (n % 8).toNat * 8) d 3 (by omega)
 rw [e0, e1, e2]
 simp [putN, putGo, shp, InsM.get]
theorem shapes11 : z_ab.spec [.int .i64 11] = some (shpAV 11) := by
 simp -implicitDefEqProofs +contextual (disch := omega) [z_ab.spec, z_ab, shpAV, shp, z_bp, ofc]
theorem can11 (d n m imm : Int) : z_af.spec [InsAV ⟨11, d, n, m, imm⟩] = some (.bool (InsM.mk 11 d n m imm).can) := by
 have hs := shapes11
 simp [shpAV, shp, z_bp, ofc] at hs
 have hc := z_aw 11 (by omega) d n m imm
 simp only [shp, maxD, maxN, maxM, hasD, hasN, hasM] at hc
 generalize hb : (InsM.mk 11 d n m imm).can = b
 rw [show (InsM.mk (11 : Nat) d n m imm).can = b from hb] at hc
 repeat' (first
  | (simp -implicitDefEqProofs +contextual (disch := omega) [z_af.spec, z_af, InsAV, hs, z_al, z_af.l0, z_b6, z_b7, z_b3, z_b4, z_b5, z_b8])
  | (refine z_as (fun h => ?_) (fun h => ?_)))
 all_goals (cases b <;> simp_all <;> omega)
theorem put11 (d n m imm : Int) (hc : (InsM.mk 11 d n m imm).can = true) : z_ag.spec [InsAV ⟨11, d, n, m, imm⟩] = some (W16 (BitVec.ofNat 16 (putN ⟨11, d, n, m, imm⟩))) := by
 have hs := shapes11
 simp [shpAV, shp, z_bp, ofc] at hs
 rw [show ∀ a b c d : Int, (InsM.mk 11 a b c d).can = true ↔ _ from fun a b c d => z_aw 11 (by omega) a b c d] at hc
 simp [shp, maxD, maxN, maxM, hasD, hasN, hasM] at hc
 simp -implicitDefEqProofs +contextual (disch := try first | omega | ((repeat' (first | exact Hp.WF.empty | assumption | apply Hp.WF.push | apply Hp.WF.set)) <;> (simp only [Hp.next_set, Hp.next_push, z_cf] <;> omega))) [z_ag.spec, z_ag, InsAV, hs, z_d8, z_al, z_ag.l0, z_b6, z_b7, z_b3, z_b4, z_b5, z_b8, mask3, mask4, mask5, mask8, mask11]
 have e0 : 16384#16 ||| BitVec.ofInt 16 (imm % 16) <<< 6 = BitVec.ofNat 16 (16384 + (imm % 16).toNat * 64) := orB (16384) imm 6 4 (by omega)
 have e1 : BitVec.ofNat 16 (16384 + (imm % 16).toNat * 64) ||| BitVec.ofInt 16 (m % 8) <<< 3 = BitVec.ofNat 16 (16384 + (imm % 16).toNat * 64 + (m % 8).toNat * 8) := orB (16384 + (imm % 16).toNat * 64) m 3 3 (by omega)
 have e2 : BitVec.ofNat 16 (16384 + (imm % 16).toNat * 64 + (m % 8).toNat * 8) ||| BitVec.ofInt 16 (d % 8) = BitVec.ofNat 16 (16384 + (imm % 16).toNat * 64 + (m % 8).toNat * 8 + (d % 8).toNat) := orB0 (16384 + (imm % 16).toNat * 64 + (m % 8).toNat * 8) d 3 (by omega)
 rw [e0, e1, e2]
 simp [putN, putGo, shp, InsM.get]
theorem shapes12 : z_ab.spec [.int .i64 12] = some (shpAV 12) := by
 simp -implicitDefEqProofs +contextual (disch := omega) [z_ab.spec, z_ab, shpAV, shp, z_bp, ofc]
theorem can12 (d n m imm : Int) : z_af.spec [InsAV ⟨12, d, n, m, imm⟩] = some (.bool (InsM.mk 12 d n m imm).can) := by
 have hs := shapes12
 simp [shpAV, shp, z_bp, ofc] at hs
 have hc := z_aw 12 (by omega) d n m imm
 simp only [shp, maxD, maxN, maxM, hasD, hasN, hasM] at hc
 generalize hb : (InsM.mk 12 d n m imm).can = b
 rw [show (InsM.mk (12 : Nat) d n m imm).can = b from hb] at hc
 repeat' (first
  | (simp -implicitDefEqProofs +contextual (disch := omega) [z_af.spec, z_af, InsAV, hs, z_al, z_af.l0, z_b6, z_b7, z_b3, z_b4, z_b5, z_b8])
  | (refine z_as (fun h => ?_) (fun h => ?_)))
 all_goals (cases b <;> simp_all <;> omega)
theorem put12 (d n m imm : Int) (hc : (InsM.mk 12 d n m imm).can = true) : z_ag.spec [InsAV ⟨12, d, n, m, imm⟩] = some (W16 (BitVec.ofNat 16 (putN ⟨12, d, n, m, imm⟩))) := by
 have hs := shapes12
 simp [shpAV, shp, z_bp, ofc] at hs
 rw [show ∀ a b c d : Int, (InsM.mk 12 a b c d).can = true ↔ _ from fun a b c d => z_aw 12 (by omega) a b c d] at hc
 simp [shp, maxD, maxN, maxM, hasD, hasN, hasM] at hc
 simp -implicitDefEqProofs +contextual (disch := try first | omega | ((repeat' (first | exact Hp.WF.empty | assumption | apply Hp.WF.push | apply Hp.WF.set)) <;> (simp only [Hp.next_set, Hp.next_push, z_cf] <;> omega))) [z_ag.spec, z_ag, InsAV, hs, z_d8, z_al, z_ag.l0, z_b6, z_b7, z_b3, z_b4, z_b5, z_b8, mask3, mask4, mask5, mask8, mask11]
 have e0 : 26624#16 ||| BitVec.ofInt 16 (imm % 32) <<< 6 = BitVec.ofNat 16 (26624 + (imm % 32).toNat * 64) := orB (26624) imm 6 5 (by omega)
 have e1 : BitVec.ofNat 16 (26624 + (imm % 32).toNat * 64) ||| BitVec.ofInt 16 (n % 8) <<< 3 = BitVec.ofNat 16 (26624 + (imm % 32).toNat * 64 + (n % 8).toNat * 8) := orB (26624 + (imm % 32).toNat * 64) n 3 3 (by omega)
 have e2 : BitVec.ofNat 16 (26624 + (imm % 32).toNat * 64 + (n % 8).toNat * 8) ||| BitVec.ofInt 16 (d % 8) = BitVec.ofNat 16 (26624 + (imm % 32).toNat * 64 + (n % 8).toNat * 8 + (d % 8).toNat) := orB0 (26624 + (imm % 32).toNat * 64 + (n % 8).toNat * 8) d 3 (by omega)
 rw [e0, e1, e2]
 simp [putN, putGo, shp, InsM.get]
theorem shapes13 : z_ab.spec [.int .i64 13] = some (shpAV 13) := by
 simp -implicitDefEqProofs +contextual (disch := omega) [z_ab.spec, z_ab, shpAV, shp, z_bp, ofc]
theorem can13 (d n m imm : Int) : z_af.spec [InsAV ⟨13, d, n, m, imm⟩] = some (.bool (InsM.mk 13 d n m imm).can) := by
 have hs := shapes13
 simp [shpAV, shp, z_bp, ofc] at hs
 have hc := z_aw 13 (by omega) d n m imm
 simp only [shp, maxD, maxN, maxM, hasD, hasN, hasM] at hc
 generalize hb : (InsM.mk 13 d n m imm).can = b
 rw [show (InsM.mk (13 : Nat) d n m imm).can = b from hb] at hc
 repeat' (first
  | (simp -implicitDefEqProofs +contextual (disch := omega) [z_af.spec, z_af, InsAV, hs, z_al, z_af.l0, z_b6, z_b7, z_b3, z_b4, z_b5, z_b8])
  | (refine z_as (fun h => ?_) (fun h => ?_)))
 all_goals (cases b <;> simp_all <;> omega)
theorem put13 (d n m imm : Int) (hc : (InsM.mk 13 d n m imm).can = true) : z_ag.spec [InsAV ⟨13, d, n, m, imm⟩] = some (W16 (BitVec.ofNat 16 (putN ⟨13, d, n, m, imm⟩))) := by
 have hs := shapes13
 simp [shpAV, shp, z_bp, ofc] at hs
 rw [show ∀ a b c d : Int, (InsM.mk 13 a b c d).can = true ↔ _ from fun a b c d => z_aw 13 (by omega) a b c d] at hc
 simp [shp, maxD, maxN, maxM, hasD, hasN, hasM] at hc
 simp -implicitDefEqProofs +contextual (disch := try first | omega | ((repeat' (first | exact Hp.WF.empty | assumption | apply Hp.WF.push | apply Hp.WF.set)) <;> (simp only [Hp.next_set, Hp.next_push, z_cf] <;> omega))) [z_ag.spec, z_ag, InsAV, hs, z_d8, z_al, z_ag.l0, z_b6, z_b7, z_b3, z_b4, z_b5, z_b8, mask3, mask4, mask5, mask8, mask11]
 have e0 : 24576#16 ||| BitVec.ofInt 16 (imm % 32) <<< 6 = BitVec.ofNat 16 (24576 + (imm % 32).toNat * 64) := orB (24576) imm 6 5 (by omega)
 have e1 : BitVec.ofNat 16 (24576 + (imm % 32).toNat * 64) ||| BitVec.ofInt 16 (n % 8) <<< 3 = BitVec.ofNat 16 (24576 + (imm % 32).toNat * 64 + (n % 8).toNat * 8) := orB (24576 + (imm % 32).toNat * 64) n 3 3 (by omega)
 have e2 : BitVec.ofNat 16 (24576 + (imm % 32).toNat * 64 + (n % 8).toNat * 8) ||| BitVec.ofInt 16 (d % 8) = BitVec.ofNat 16 (24576 + (imm % 32).toNat * 64 + (n % 8).toNat * 8 + (d % 8).toNat) := orB0 (24576 + (imm % 32).toNat * 64 + (n % 8).toNat * 8) d 3 (by omega)
 rw [e0, e1, e2]
 simp [putN, putGo, shp, InsM.get]
theorem shapes14 : z_ab.spec [.int .i64 14] = some (shpAV 14) := by
 simp -implicitDefEqProofs +contextual (disch := omega) [z_ab.spec, z_ab, shpAV, shp, z_bp, ofc]
theorem can14 (d n m imm : Int) : z_af.spec [InsAV ⟨14, d, n, m, imm⟩] = some (.bool (InsM.mk 14 d n m imm).can) := by
 have hs := shapes14
 simp [shpAV, shp, z_bp, ofc] at hs
 have hc := z_aw 14 (by omega) d n m imm
 simp only [shp, maxD, maxN, maxM, hasD, hasN, hasM] at hc
 generalize hb : (InsM.mk 14 d n m imm).can = b
 rw [show (InsM.mk (14 : Nat) d n m imm).can = b from hb] at hc
 repeat' (first
  | (simp -implicitDefEqProofs +contextual (disch := omega) [z_af.spec, z_af, InsAV, hs, z_al, z_af.l0, z_b6, z_b7, z_b3, z_b4, z_b5, z_b8])
  | (refine z_as (fun h => ?_) (fun h => ?_)))
 all_goals (cases b <;> simp_all <;> omega)
theorem put14 (d n m imm : Int) (hc : (InsM.mk 14 d n m imm).can = true) : z_ag.spec [InsAV ⟨14, d, n, m, imm⟩] = some (W16 (BitVec.ofNat 16 (putN ⟨14, d, n, m, imm⟩))) := by
 have hs := shapes14
 simp [shpAV, shp, z_bp, ofc] at hs
 rw [show ∀ a b c d : Int, (InsM.mk 14 a b c d).can = true ↔ _ from fun a b c d => z_aw 14 (by omega) a b c d] at hc
 simp [shp, maxD, maxN, maxM, hasD, hasN, hasM] at hc
 simp -implicitDefEqProofs +contextual (disch := try first | omega | ((repeat' (first | exact Hp.WF.empty | assumption | apply Hp.WF.push | apply Hp.WF.set)) <;> (simp only [Hp.next_set, Hp.next_push, z_cf] <;> omega))) [z_ag.spec, z_ag, InsAV, hs, z_d8, z_al, z_ag.l0, z_b6, z_b7, z_b3, z_b4, z_b5, z_b8, mask3, mask4, mask5, mask8, mask11]
 have e0 : 22528#16 ||| BitVec.ofInt 16 (m % 8) <<< 6 = BitVec.ofNat 16 (22528 + (m % 8).toNat * 64) := orB (22528) m 6 3 (by omega)
 have e1 : BitVec.ofNat 16 (22528 + (m % 8).toNat * 64) ||| BitVec.ofInt 16 (n % 8) <<< 3 = BitVec.ofNat 16 (22528 + (m % 8).toNat * 64 + (n % 8).toNat * 8) := orB (22528 + (m % 8).toNat * 64) n 3 3 (by omega)
 have e2 : BitVec.ofNat 16 (22528 + (m % 8).toNat * 64 + (n % 8).toNat * 8) ||| BitVec.ofInt 16 (d % 8) = BitVec.ofNat 16 (22528 + (m % 8).toNat * 64 + (n % 8).toNat * 8 + (d % 8).toNat) := orB0 (22528 + (m % 8).toNat * 64 + (n % 8).toNat * 8) d 3 (by omega)
 rw [e0, e1, e2]
 simp [putN, putGo, shp, InsM.get]
theorem shapes15 : z_ab.spec [.int .i64 15] = some (shpAV 15) := by
 simp -implicitDefEqProofs +contextual (disch := omega) [z_ab.spec, z_ab, shpAV, shp, z_bp, ofc]
theorem can15 (d n m imm : Int) : z_af.spec [InsAV ⟨15, d, n, m, imm⟩] = some (.bool (InsM.mk 15 d n m imm).can) := by
 have hs := shapes15
 simp [shpAV, shp, z_bp, ofc] at hs
 have hc := z_aw 15 (by omega) d n m imm
 simp only [shp, maxD, maxN, maxM, hasD, hasN, hasM] at hc
 generalize hb : (InsM.mk 15 d n m imm).can = b
 rw [show (InsM.mk (15 : Nat) d n m imm).can = b from hb] at hc
 repeat' (first
  | (simp -implicitDefEqProofs +contextual (disch := omega) [z_af.spec, z_af, InsAV, hs, z_al, z_af.l0, z_b6, z_b7, z_b3, z_b4, z_b5, z_b8])
  | (refine z_as (fun h => ?_) (fun h => ?_)))
 all_goals (cases b <;> simp_all <;> omega)
theorem put15 (d n m imm : Int) (hc : (InsM.mk 15 d n m imm).can = true) : z_ag.spec [InsAV ⟨15, d, n, m, imm⟩] = some (W16 (BitVec.ofNat 16 (putN ⟨15, d, n, m, imm⟩))) := by
 have hs := shapes15
 simp [shpAV, shp, z_bp, ofc] at hs
 rw [show ∀ a b c d : Int, (InsM.mk 15 a b c d).can = true ↔ _ from fun a b c d => z_aw 15 (by omega) a b c d] at hc
 simp [shp, maxD, maxN, maxM, hasD, hasN, hasM] at hc
 simp -implicitDefEqProofs +contextual (disch := try first | omega | ((repeat' (first | exact Hp.WF.empty | assumption | apply Hp.WF.push | apply Hp.WF.set)) <;> (simp only [Hp.next_set, Hp.next_push, z_cf] <;> omega))) [z_ag.spec, z_ag, InsAV, hs, z_d8, z_al, z_ag.l0, z_b6, z_b7, z_b3, z_b4, z_b5, z_b8, mask3, mask4, mask5, mask8, mask11]
 have e0 : 20480#16 ||| BitVec.ofInt 16 (m % 8) <<< 6 = BitVec.ofNat 16 (20480 + (m % 8).toNat * 64) := orB (20480) m 6 3 (by omega)
 have e1 : BitVec.ofNat 16 (20480 + (m % 8).toNat * 64) ||| BitVec.ofInt 16 (n % 8) <<< 3 = BitVec.ofNat 16 (20480 + (m % 8).toNat * 64 + (n % 8).toNat * 8) := orB (20480 + (m % 8).toNat * 64) n 3 3 (by omega)
 have e2 : BitVec.ofNat 16 (20480 + (m % 8).toNat * 64 + (n % 8).toNat * 8) ||| BitVec.ofInt 16 (d % 8) = BitVec.ofNat 16 (20480 + (m % 8).toNat * 64 + (n % 8).toNat * 8 + (d % 8).toNat) := orB0 (20480 + (m % 8).toNat * 64 + (n % 8).toNat * 8) d 3 (by omega)
 rw [e0, e1, e2]
 simp [putN, putGo, shp, InsM.get]
theorem shapes16 : z_ab.spec [.int .i64 16] = some (shpAV 16) := by
 simp -implicitDefEqProofs +contextual (disch := omega) [z_ab.spec, z_ab, shpAV, shp, z_bp, ofc]
theorem can16 (d n m imm : Int) : z_af.spec [InsAV ⟨16, d, n, m, imm⟩] = some (.bool (InsM.mk 16 d n m imm).can) := by
 have hs := shapes16
 simp [shpAV, shp, z_bp, ofc] at hs
 have hc := z_aw 16 (by omega) d n m imm
 simp only [shp, maxD, maxN, maxM, hasD, hasN, hasM] at hc
 generalize hb : (InsM.mk 16 d n m imm).can = b
 rw [show (InsM.mk (16 : Nat) d n m imm).can = b from hb] at hc
 repeat' (first
  | (simp -implicitDefEqProofs +contextual (disch := omega) [z_af.spec, z_af, InsAV, hs, z_al, z_af.l0, z_b6, z_b7, z_b3, z_b4, z_b5, z_b8])
  | (refine z_as (fun h => ?_) (fun h => ?_)))
 all_goals (cases b <;> simp_all <;> omega)
theorem put16 (d n m imm : Int) (hc : (InsM.mk 16 d n m imm).can = true) : z_ag.spec [InsAV ⟨16, d, n, m, imm⟩] = some (W16 (BitVec.ofNat 16 (putN ⟨16, d, n, m, imm⟩))) := by
 have hs := shapes16
 simp [shpAV, shp, z_bp, ofc] at hs
 rw [show ∀ a b c d : Int, (InsM.mk 16 a b c d).can = true ↔ _ from fun a b c d => z_aw 16 (by omega) a b c d] at hc
 simp [shp, maxD, maxN, maxM, hasD, hasN, hasM] at hc
 simp -implicitDefEqProofs +contextual (disch := try first | omega | ((repeat' (first | exact Hp.WF.empty | assumption | apply Hp.WF.push | apply Hp.WF.set)) <;> (simp only [Hp.next_set, Hp.next_push, z_cf] <;> omega))) [z_ag.spec, z_ag, InsAV, hs, z_d8, z_al, z_ag.l0, z_b6, z_b7, z_b3, z_b4, z_b5, z_b8, mask3, mask4, mask5, mask8, mask11]
 have e0 : 18432#16 ||| BitVec.ofInt 16 (d % 8) <<< 8 = BitVec.ofNat 16 (18432 + (d % 8).toNat * 256) := orB (18432) d 8 3 (by omega)
 have e1 : BitVec.ofNat 16 (18432 + (d % 8).toNat * 256) ||| BitVec.ofInt 16 (imm % 256) = BitVec.ofNat 16 (18432 + (d % 8).toNat * 256 + (imm % 256).toNat) := orB0 (18432 + (d % 8).toNat * 256) imm 8 (by omega)
 rw [e0, e1]
 simp [putN, putGo, shp, InsM.get]
theorem shapes17 : z_ab.spec [.int .i64 17] = some (shpAV 17) := by
 simp -implicitDefEqProofs +contextual (disch := omega) [z_ab.spec, z_ab, shpAV, shp, z_bp, ofc]
theorem can17 (d n m imm : Int) : z_af.spec [InsAV ⟨17, d, n, m, imm⟩] = some (.bool (InsM.mk 17 d n m imm).can) := by
 have hs := shapes17
 simp [shpAV, shp, z_bp, ofc] at hs
 have hc := z_aw 17 (by omega) d n m imm
 simp only [shp, maxD, maxN, maxM, hasD, hasN, hasM] at hc
 generalize hb : (InsM.mk 17 d n m imm).can = b
 rw [show (InsM.mk (17 : Nat) d n m imm).can = b from hb] at hc
 repeat' (first
  | (simp -implicitDefEqProofs +contextual (disch := omega) [z_af.spec, z_af, InsAV, hs, z_al, z_af.l0, z_b6, z_b7, z_b3, z_b4, z_b5, z_b8])
  | (refine z_as (fun h => ?_) (fun h => ?_)))
 all_goals (cases b <;> simp_all <;> omega)
theorem put17 (d n m imm : Int) (hc : (InsM.mk 17 d n m imm).can = true) : z_ag.spec [InsAV ⟨17, d, n, m, imm⟩] = some (W16 (BitVec.ofNat 16 (putN ⟨17, d, n, m, imm⟩))) := by
 have hs := shapes17
 simp [shpAV, shp, z_bp, ofc] at hs
 rw [show ∀ a b c d : Int, (InsM.mk 17 a b c d).can = true ↔ _ from fun a b c d => z_aw 17 (by omega) a b c d] at hc
 simp [shp, maxD, maxN, maxM, hasD, hasN, hasM] at hc
 simp -implicitDefEqProofs +contextual (disch := try first | omega | ((repeat' (first | exact Hp.WF.empty | assumption | apply Hp.WF.push | apply Hp.WF.set)) <;> (simp only [Hp.next_set, Hp.next_push, z_cf] <;> omega))) [z_ag.spec, z_ag, InsAV, hs, z_d8, z_al, z_ag.l0, z_b6, z_b7, z_b3, z_b4, z_b5, z_b8, mask3, mask4, mask5, mask8, mask11]
 have e0 : 57344#16 ||| BitVec.ofInt 16 (imm % 2048) = BitVec.ofNat 16 (57344 + (imm % 2048).toNat) := orB0 (57344) imm 11 (by omega)
 rw [e0]
 simp [putN, putGo, shp, InsM.get]
theorem shapes18 : z_ab.spec [.int .i64 18] = some (shpAV 18) := by
 simp -implicitDefEqProofs +contextual (disch := omega) [z_ab.spec, z_ab, shpAV, shp, z_bp, ofc]
theorem can18 (d n m imm : Int) : z_af.spec [InsAV ⟨18, d, n, m, imm⟩] = some (.bool (InsM.mk 18 d n m imm).can) := by
 have hs := shapes18
 simp [shpAV, shp, z_bp, ofc] at hs
 have hc := z_aw 18 (by omega) d n m imm
 simp only [shp, maxD, maxN, maxM, hasD, hasN, hasM] at hc
 generalize hb : (InsM.mk 18 d n m imm).can = b
 rw [show (InsM.mk (18 : Nat) d n m imm).can = b from hb] at hc
 repeat' (first
  | (simp -implicitDefEqProofs +contextual (disch := omega) [z_af.spec, z_af, InsAV, hs, z_al, z_af.l0, z_b6, z_b7, z_b3, z_b4, z_b5, z_b8])
  | (refine z_as (fun h => ?_) (fun h => ?_)))
 all_goals (cases b <;> simp_all <;> omega)
theorem put18 (d n m imm : Int) (hc : (InsM.mk 18 d n m imm).can = true) : z_ag.spec [InsAV ⟨18, d, n, m, imm⟩] = some (W16 (BitVec.ofNat 16 (putN ⟨18, d, n, m, imm⟩))) := by
 have hs := shapes18
 simp [shpAV, shp, z_bp, ofc] at hs
 rw [show ∀ a b c d : Int, (InsM.mk 18 a b c d).can = true ↔ _ from fun a b c d => z_aw 18 (by omega) a b c d] at hc
 simp [shp, maxD, maxN, maxM, hasD, hasN, hasM] at hc
 simp -implicitDefEqProofs +contextual (disch := try first | omega | ((repeat' (first | exact Hp.WF.empty | assumption | apply Hp.WF.push | apply Hp.WF.set)) <;> (simp only [Hp.next_set, Hp.next_push, z_cf] <;> omega))) [z_ag.spec, z_ag, InsAV, hs, z_d8, z_al, z_ag.l0, z_b6, z_b7, z_b3, z_b4, z_b5, z_b8, mask3, mask4, mask5, mask8, mask11]
 have e0 : 53248#16 ||| BitVec.ofInt 16 (d % 16) <<< 8 = BitVec.ofNat 16 (53248 + (d % 16).toNat * 256) := orB (53248) d 8 4 (by omega)
 have e1 : BitVec.ofNat 16 (53248 + (d % 16).toNat * 256) ||| BitVec.ofInt 16 (imm % 256) = BitVec.ofNat 16 (53248 + (d % 16).toNat * 256 + (imm % 256).toNat) := orB0 (53248 + (d % 16).toNat * 256) imm 8 (by omega)
 rw [e0, e1]
 simp [putN, putGo, shp, InsM.get]
theorem shapes19 : z_ab.spec [.int .i64 19] = some (shpAV 19) := by
 simp -implicitDefEqProofs +contextual (disch := omega) [z_ab.spec, z_ab, shpAV, shp, z_bp, ofc]
theorem can19 (d n m imm : Int) : z_af.spec [InsAV ⟨19, d, n, m, imm⟩] = some (.bool (InsM.mk 19 d n m imm).can) := by
 have hs := shapes19
 simp [shpAV, shp, z_bp, ofc] at hs
 have hc := z_aw 19 (by omega) d n m imm
 simp only [shp, maxD, maxN, maxM, hasD, hasN, hasM] at hc
 generalize hb : (InsM.mk 19 d n m imm).can = b
 rw [show (InsM.mk (19 : Nat) d n m imm).can = b from hb] at hc
 repeat' (first
  | (simp -implicitDefEqProofs +contextual (disch := omega) [z_af.spec, z_af, InsAV, hs, z_al, z_af.l0, z_b6, z_b7, z_b3, z_b4, z_b5, z_b8])
  | (refine z_as (fun h => ?_) (fun h => ?_)))
 all_goals (cases b <;> simp_all <;> omega)
theorem put19 (d n m imm : Int) (hc : (InsM.mk 19 d n m imm).can = true) : z_ag.spec [InsAV ⟨19, d, n, m, imm⟩] = some (W16 (BitVec.ofNat 16 (putN ⟨19, d, n, m, imm⟩))) := by
 have hs := shapes19
 simp [shpAV, shp, z_bp, ofc] at hs
 rw [show ∀ a b c d : Int, (InsM.mk 19 a b c d).can = true ↔ _ from fun a b c d => z_aw 19 (by omega) a b c d] at hc
 simp [shp, maxD, maxN, maxM, hasD, hasN, hasM] at hc
 simp -implicitDefEqProofs +contextual (disch := try first | omega | ((repeat' (first | exact Hp.WF.empty | assumption | apply Hp.WF.push | apply Hp.WF.set)) <;> (simp only [Hp.next_set, Hp.next_push, z_cf] <;> omega))) [z_ag.spec, z_ag, InsAV, hs, z_d8, z_al, z_ag.l0, z_b6, z_b7, z_b3, z_b4, z_b5, z_b8, mask3, mask4, mask5, mask8, mask11]
 simp [putN, putGo, shp, InsM.get]
theorem shapes20 : z_ab.spec [.int .i64 20] = some (shpAV 20) := by
 simp -implicitDefEqProofs +contextual (disch := omega) [z_ab.spec, z_ab, shpAV, shp, z_bp, ofc]
theorem can20 (d n m imm : Int) : z_af.spec [InsAV ⟨20, d, n, m, imm⟩] = some (.bool (InsM.mk 20 d n m imm).can) := by
 have hs := shapes20
 simp [shpAV, shp, z_bp, ofc] at hs
 have hc := z_aw 20 (by omega) d n m imm
 simp only [shp, maxD, maxN, maxM, hasD, hasN, hasM] at hc
 generalize hb : (InsM.mk 20 d n m imm).can = b
 rw [show (InsM.mk (20 : Nat) d n m imm).can = b from hb] at hc
 repeat' (first
  | (simp -implicitDefEqProofs +contextual (disch := omega) [z_af.spec, z_af, InsAV, hs, z_al, z_af.l0, z_b6, z_b7, z_b3, z_b4, z_b5, z_b8])
  | (refine z_as (fun h => ?_) (fun h => ?_)))
 all_goals (cases b <;> simp_all <;> omega)
theorem put20 (d n m imm : Int) (hc : (InsM.mk 20 d n m imm).can = true) : z_ag.spec [InsAV ⟨20, d, n, m, imm⟩] = some (W16 (BitVec.ofNat 16 (putN ⟨20, d, n, m, imm⟩))) := by
 have hs := shapes20
 simp [shpAV, shp, z_bp, ofc] at hs
 rw [show ∀ a b c d : Int, (InsM.mk 20 a b c d).can = true ↔ _ from fun a b c d => z_aw 20 (by omega) a b c d] at hc
 simp [shp, maxD, maxN, maxM, hasD, hasN, hasM] at hc
 simp -implicitDefEqProofs +contextual (disch := try first | omega | ((repeat' (first | exact Hp.WF.empty | assumption | apply Hp.WF.push | apply Hp.WF.set)) <;> (simp only [Hp.next_set, Hp.next_push, z_cf] <;> omega))) [z_ag.spec, z_ag, InsAV, hs, z_d8, z_al, z_ag.l0, z_b6, z_b7, z_b3, z_b4, z_b5, z_b8, mask3, mask4, mask5, mask8, mask11]
 have e0 : 48640#16 ||| BitVec.ofInt 16 (imm % 256) = BitVec.ofNat 16 (48640 + (imm % 256).toNat) := orB0 (48640) imm 8 (by omega)
 rw [e0]
 simp [putN, putGo, shp, InsM.get]
end Go.Abs
end
section
namespace Go.Abs
open Th
theorem can_eq (i : InsM) : z_af.spec [InsAV i] = some (.bool i.can) := by
 obtain ⟨op, d, n, m, imm⟩ := i
 by_cases h : 0 ≤ op ∧ op ≤ 20
 ·obtain ⟨k, rfl⟩ : ∃ k : Nat, op = k := ⟨op.toNat, by omega⟩
  exact cases21 (P := fun k => z_af.spec [InsAV ⟨k, d, n, m, imm⟩] = some (.bool (InsM.mk k d n m imm).can)) k (by omega) (can0 d n m imm) (can1 d n m imm) (can2 d n m imm) (can3 d n m imm) (can4 d n m imm) (can5 d n m imm) (can6 d n m imm) (can7 d n m imm) (can8 d n m imm) (can9 d n m imm) (can10 d n m imm)
   (can11 d n m imm) (can12 d n m imm) (can13 d n m imm) (can14 d n m imm) (can15 d n m imm) (can16 d n m imm) (can17 d n m imm) (can18 d n m imm) (can19 d n m imm) (can20 d n m imm)
 ·have hc : (InsM.mk op d n m imm).can = false := by
   rw [Bool.eq_false_iff, Ne, z_gl]; exact fun q => h q.1
  have h' : op < 0 ∨ 21 ≤ op := by omega
  rw [hc]
  simp -implicitDefEqProofs +contextual (disch := omega) [z_af.spec, z_af, InsAV, h']
theorem put_eq (i : InsM) (hc : i.can = true) : z_ag.spec [InsAV i] = some (W16 (BitVec.ofNat 16 (putN i))) := by
 obtain ⟨op, d, n, m, imm⟩ := i
 have h := ((z_gl _).1 hc).1
 dsimp only at h
 obtain ⟨k, rfl⟩ : ∃ k : Nat, op = k := ⟨op.toNat, by omega⟩
 revert hc
 exact cases21 (P := fun k => (InsM.mk k d n m imm).can = true → z_ag.spec [InsAV ⟨k, d, n, m, imm⟩] = some (W16 (BitVec.ofNat 16 (putN ⟨k, d, n, m, imm⟩)))) k (by omega) (put0 d n m imm) (put1 d n m imm) (put2 d n m imm) (put3 d n m imm) (put4 d n m imm) (put5 d n m imm) (put6 d n m imm) (put7 d n m imm) (put8 d n m imm) (put9 d n m imm) (put10 d n m imm)
  (put11 d n m imm) (put12 d n m imm) (put13 d n m imm) (put14 d n m imm) (put15 d n m imm) (put16 d n m imm) (put17 d n m imm) (put18 d n m imm) (put19 d n m imm) (put20 d n m imm)
def putM (i : InsM) : BitVec 16 × Int := if i.can then (BitVec.ofNat 16 (putN i), 0) else (0#16, 1)
def z_ej (i : InsM) : Blk := ⟨T.ty_api_Ins, 5, true, [[.int .i64 i.op, .int .i64 i.d, .int .i64 i.n, .int .i64 i.m, .int .i64 i.imm]]⟩
end Go.Abs
end
section
section
namespace Go.Abs
structure StM where
 r : List (BitVec 32)
 len : r.length = 8
 pc : BitVec 32
 n : Bool
 z : Bool
 c : Bool
 v : Bool
theorem StM.ext_iff' (s t : StM) : s = t ↔ s.r = t.r ∧ s.pc = t.pc ∧ s.n = t.n ∧ s.z = t.z ∧ s.c = t.c ∧ s.v = t.v := by
 cases s; cases t; simp
instance : DecidableEq StM := fun s t => decidable_of_iff _ (StM.ext_iff' s t).symm
def StM.setR (s : StM) (k : Nat) (x : BitVec 32) : StM := { s with r := s.r.set k x, len := by rw [List.length_set]; exact s.len }
def StM.setPC (s : StM) (x : BitVec 32) : StM := { s with pc := x }
def StM.setN (s : StM) (x : Bool) : StM := { s with n := x }
def StM.setZ (s : StM) (x : Bool) : StM := { s with z := x }
def StM.setC (s : StM) (x : Bool) : StM := { s with c := x }
def StM.setV (s : StM) (x : Bool) : StM := { s with v := x }
def StM.reg (s : StM) (k : Nat) : BitVec 32 := at0 s.r k
def StM.cells (s : StM) : List AV := s.r.map W32 ++ [W32 s.pc, .bool s.n, .bool s.z, .bool s.c, .bool s.v]
section
variable (s t : StM)
@[simp] theorem sm_len : s.cells.length = 13 := by simp [StM.cells, s.len]
theorem z_sh (i : Nat) : s.cells[8 + i]? = [W32 s.pc, .bool s.n, .bool s.z, .bool s.c, .bool s.v][i]? := by
 unfold StM.cells; rw [List.getElem?_append_right (by simp [s.len])]; simp [s.len]
theorem sm_reg (k : Nat) (h : k < 8) : s.cells[k]? = some (W32 (s.reg k)) := by
 unfold StM.cells; rw [List.getElem?_append_left (by simp [s.len, h])]
 rw [List.getElem?_map, z_ke s.r k (by rw [s.len]; exact h)]; rfl
@[simp] theorem sm_8 : s.cells[8]? = some (W32 s.pc) := z_sh s 0
@[simp] theorem sm_11 : s.cells[11]? = some (.bool s.c) := z_sh s 3
@[simp] theorem sm_get (k : Nat) (h : k < 8) : s.cells[k]? = some (W32 (s.reg k)) := sm_reg s k h
@[simp] theorem sm_set (k : Nat) (x : BitVec 32) (h : k < 8) : s.cells.set k (W32 x) = (s.setR k x).cells := by
 unfold StM.cells StM.setR; rw [List.set_append_left _ _ (by simp [s.len, h])]; simp [List.map_set]
theorem z_fg (i : Nat) (x : AV) : s.cells.set (8 + i) x = s.r.map W32 ++ [W32 s.pc, .bool s.n, .bool s.z, .bool s.c, .bool s.v].set i x := by
 unfold StM.cells; rw [List.set_append_right _ _ (by simp [s.len])]; simp [s.len]
@[simp] theorem sm_set8 (x : BitVec 32) : s.cells.set 8 (W32 x) = (s.setPC x).cells := z_fg s 0 _
@[simp] theorem sm_set9 (x : Bool) : s.cells.set 9 (.bool x) = (s.setN x).cells := z_fg s 1 _
@[simp] theorem sm_set10 (x : Bool) : s.cells.set 10 (.bool x) = (s.setZ x).cells := z_fg s 2 _
@[simp] theorem sm_set11 (x : Bool) : s.cells.set 11 (.bool x) = (s.setC x).cells := z_fg s 3 _
@[simp] theorem sm_set12 (x : Bool) : s.cells.set 12 (.bool x) = (s.setV x).cells := z_fg s 4 _
theorem z_si (a : AV) (h : a ∈ s.cells) : (∃ x, a = W32 x) ∨ ∃ b, a = .bool b := by
 simp only [StM.cells, List.mem_append, List.mem_map, List.mem_cons, List.not_mem_nil, or_false] at h
 rcases h with ⟨x, _, rfl⟩ | rfl | rfl | rfl | rfl | rfl
 ·exact .inl ⟨_, rfl⟩
 ·exact .inl ⟨_, rfl⟩
 all_goals exact .inr ⟨_, rfl⟩
@[simp] theorem sm_isCell : s.cells.all AV.isCell = true := List.all_eq_true.2 fun a h => by
 rcases z_si s a h with ⟨x, rfl⟩ | ⟨b, rfl⟩ <;> rfl
@[simp] theorem sm_flat : s.cells.all AV.flat = true := List.all_eq_true.2 fun a h => by
 rcases z_si s a h with ⟨x, rfl⟩ | ⟨b, rfl⟩ <;> rfl
@[simp] theorem sm_take : s.cells.take 13 = s.cells := List.take_of_length_le (by simp)
theorem z_h5 (H : Hp) : ∀ (l : List (Option Nat)) (cs : List AV), l.length = cs.length → (∀ a, a ∈ cs → (∃ x, a = W32 x) ∨ ∃ b, a = .bool b) → z_c3 H l cs = some (cs, [])
 | [], [], _, _ => rfl
 | n :: l, c :: cs, h, hc => by
  have ih := z_h5 H l cs (by simpa using h) fun a ha => hc a (List.mem_cons_of_mem _ ha)
  rw [z_ma, ih]
  rcases hc c List.mem_cons_self with ⟨x, rfl⟩ | ⟨b, rfl⟩ <;> rfl
@[simp] theorem sm_frz (H : Hp) : z_c3 H [none, none, none, none, none, none, none, none, none, none, none, none, none] s.cells = some (s.cells, []) :=
 z_h5 H _ _ (by simp) (z_si s)
theorem z_iz : ∀ (cs l : List AV) (k : Nat), k + cs.length = l.length → z_dc l k cs = l.take k ++ cs
 | [], l, k, h => by simp only [z_dc, List.append_nil]; rw [List.take_of_length_le (by simp only [List.length_nil] at h; omega)]
 | c :: cs, l, k, h => by
  simp only [List.length_cons] at h
  rw [z_dc, z_iz cs (l.set k c) (k + 1) (by simp; omega)]
  rw [List.take_succ_eq_append_getElem (by simp; omega), List.take_set_of_le (Nat.le_refl k)]
  simp
theorem z_hx (l cs : List AV) (h : cs.length = l.length) : z_dc l 0 cs = cs := by
 rw [z_iz cs l 0 (by omega)]; rfl
@[simp] theorem sm_over : z_dc t.cells 0 s.cells = s.cells := z_hx _ _ (by simp)
@[simp] theorem sm_over0 (a0 a1 a2 a3 a4 a5 a6 a7 a8 a9 a10 a11 a12 : AV) : z_dc [a0, a1, a2, a3, a4, a5, a6, a7, a8, a9, a10, a11, a12] 0 s.cells = s.cells := z_hx _ _ (by simp)
end
@[simp] theorem setPC_r (s : StM) (x : BitVec 32) : (s.setPC x).r = s.r := rfl
@[simp] theorem z_gv (s : StM) (x : BitVec 32) (k : Nat) : (s.setPC x).reg k = s.reg k := rfl
@[simp] theorem setPC_pc (s : StM) (x : BitVec 32) : (s.setPC x).pc = x := rfl
@[simp] theorem setPC_n (s : StM) (x : BitVec 32) : (s.setPC x).n = s.n := rfl
@[simp] theorem setPC_z (s : StM) (x : BitVec 32) : (s.setPC x).z = s.z := rfl
@[simp] theorem setPC_c (s : StM) (x : BitVec 32) : (s.setPC x).c = s.c := rfl
@[simp] theorem setPC_v (s : StM) (x : BitVec 32) : (s.setPC x).v = s.v := rfl
@[simp] theorem setN_r (s : StM) (x : Bool) : (s.setN x).r = s.r := rfl
@[simp] theorem setN_reg (s : StM) (x : Bool) (k : Nat) : (s.setN x).reg k = s.reg k := rfl
@[simp] theorem setN_pc (s : StM) (x : Bool) : (s.setN x).pc = s.pc := rfl
@[simp] theorem setN_n (s : StM) (x : Bool) : (s.setN x).n = x := rfl
@[simp] theorem setN_z (s : StM) (x : Bool) : (s.setN x).z = s.z := rfl
@[simp] theorem setN_c (s : StM) (x : Bool) : (s.setN x).c = s.c := rfl
@[simp] theorem setN_v (s : StM) (x : Bool) : (s.setN x).v = s.v := rfl
@[simp] theorem setZ_r (s : StM) (x : Bool) : (s.setZ x).r = s.r := rfl
@[simp] theorem setZ_reg (s : StM) (x : Bool) (k : Nat) : (s.setZ x).reg k = s.reg k := rfl
@[simp] theorem setZ_pc (s : StM) (x : Bool) : (s.setZ x).pc = s.pc := rfl
@[simp] theorem setZ_n (s : StM) (x : Bool) : (s.setZ x).n = s.n := rfl
@[simp] theorem setZ_z (s : StM) (x : Bool) : (s.setZ x).z = x := rfl
@[simp] theorem setZ_c (s : StM) (x : Bool) : (s.setZ x).c = s.c := rfl
@[simp] theorem setZ_v (s : StM) (x : Bool) : (s.setZ x).v = s.v := rfl
@[simp] theorem setC_r (s : StM) (x : Bool) : (s.setC x).r = s.r := rfl
@[simp] theorem setC_reg (s : StM) (x : Bool) (k : Nat) : (s.setC x).reg k = s.reg k := rfl
@[simp] theorem setC_pc (s : StM) (x : Bool) : (s.setC x).pc = s.pc := rfl
@[simp] theorem setC_n (s : StM) (x : Bool) : (s.setC x).n = s.n := rfl
@[simp] theorem setC_z (s : StM) (x : Bool) : (s.setC x).z = s.z := rfl
@[simp] theorem setC_c (s : StM) (x : Bool) : (s.setC x).c = x := rfl
@[simp] theorem setC_v (s : StM) (x : Bool) : (s.setC x).v = s.v := rfl
@[simp] theorem setV_r (s : StM) (x : Bool) : (s.setV x).r = s.r := rfl
@[simp] theorem setV_reg (s : StM) (x : Bool) (k : Nat) : (s.setV x).reg k = s.reg k := rfl
@[simp] theorem setV_pc (s : StM) (x : Bool) : (s.setV x).pc = s.pc := rfl
@[simp] theorem setV_n (s : StM) (x : Bool) : (s.setV x).n = s.n := rfl
@[simp] theorem setV_z (s : StM) (x : Bool) : (s.setV x).z = s.z := rfl
@[simp] theorem setV_c (s : StM) (x : Bool) : (s.setV x).c = s.c := rfl
@[simp] theorem setV_v (s : StM) (x : Bool) : (s.setV x).v = x := rfl
@[simp] theorem setR_pc (s : StM) (k : Nat) (x : BitVec 32) : (s.setR k x).pc = s.pc := rfl
@[simp] theorem setR_n (s : StM) (k : Nat) (x : BitVec 32) : (s.setR k x).n = s.n := rfl
@[simp] theorem setR_z (s : StM) (k : Nat) (x : BitVec 32) : (s.setR k x).z = s.z := rfl
@[simp] theorem setR_c (s : StM) (k : Nat) (x : BitVec 32) : (s.setR k x).c = s.c := rfl
@[simp] theorem setR_v (s : StM) (k : Nat) (x : BitVec 32) : (s.setR k x).v = s.v := rfl
@[simp] theorem setR_r (s : StM) (k : Nat) (x : BitVec 32) : (s.setR k x).r = s.r.set k x := rfl
end Go.Abs
end
section
namespace Go.Abs
def z_fl (s : StM) (w : BitVec 32) : StM := (s.setN w.msb).setZ (w == 0#32)
def holdB (k : Nat) (s : StM) : Bool :=
 match k with
 | 0 => s.z
 | 1 => s.c
 | 2 => s.n
 | 3 => s.v
 | 4 => s.c && !s.z
 | 5 => s.n == s.v
 | 6 => !s.z && s.n == s.v
 | _ => false
def z_e2 (k : Nat) (s : StM) : Bool := holdB (k / 2) s == (k % 2 == 0)
def addS (s : StM) (a b : BitVec 32) (c : Bool) : StM × BitVec 32 := (z_fl ((s.setC (addM a b c).c).setV (addM a b c).v) (addM a b c).w, (addM a b c).w)
def z_f0 (s : StM) (k : Nat) (a b : BitVec 32) : StM × BitVec 32 := (z_fl (s.setC (z_df k a b s.c).c) (z_df k a b s.c).w, (z_df k a b s.c).w)
def aluM (s : StM) (op : Nat) (a b : BitVec 32) : StM × BitVec 32 :=
 match op with
 | 0 | 8 => (z_fl s (a &&& b), a &&& b)
 | 1 => (z_fl s (a ^^^ b), a ^^^ b)
 | 2 => z_f0 s 0 a (b &&& 255#32)
 | 3 => z_f0 s 1 a (b &&& 255#32)
 | 4 => z_f0 s 2 a (b &&& 255#32)
 | 5 => addS s a b s.c
 | 6 => addS s a (~~~b) s.c
 | 7 => z_f0 s 3 a (b &&& 255#32)
 | 9 => addS s 0#32 (~~~b) true
 | 10 => addS s a (~~~b) true
 | 11 => addS s a b false
 | 12 => (z_fl s (a ||| b), a ||| b)
 | 13 => (z_fl s (a * b), a * b)
 | 14 => (z_fl s (a &&& ~~~b), a &&& ~~~b)
 | _ => (z_fl s (~~~b), ~~~b)
end Go.Abs
end
section
namespace Go.Abs
open Th
def immW (imm : Int) : BitVec 32 := BitVec.ofInt 32 imm
def reckM (s : StM) (k : Nat) (D N M : Nat) (imm : Int) : StM × BitVec 32 :=
 match k with
 | 0 => (z_fl s (immW imm), immW imm)
 | 1 | 3 => addS s (s.reg D) (~~~(immW imm)) true
 | 2 => addS s (s.reg D) (immW imm) false
 | 4 => z_f0 s 0 (s.reg M) (immW imm)
 | 5 => z_f0 s 1 (s.reg M) (immW imm)
 | 6 => z_f0 s 2 (s.reg M) (immW imm)
 | 7 => addS s (s.reg N) (s.reg M) false
 | 8 => addS s (s.reg N) (~~~(s.reg M)) true
 | 9 => addS s (s.reg N) (immW imm) false
 | 10 => addS s (s.reg N) (~~~(immW imm)) true
 | _ => aluM s imm.toNat (s.reg D) (s.reg M)
def addrM (s : StM) (k : Nat) (N M : Nat) (imm : Int) : BitVec 32 :=
 match k with
 | 14 | 15 => s.reg N + s.reg M
 | 16 => ((s.pc + 4#32) &&& ~~~3#32) + 4#32 * immW imm
 | _ => s.reg N + 4#32 * immW imm
def moveM (s : StM) (k D : Nat) (a : BitVec 32) (m : MemM) : StM × MemM × Int :=
 if k = 13 ∨ k = 15 then (s, (m.store a (s.reg D)).2, (m.store a (s.reg D)).1)
 else (if (m.loads a).1.2 = 0 then s.setR D (m.loads a).1.1 else s, (m.loads a).2, (m.loads a).1.2)
end Go.Abs
end
end
section
namespace Go.Abs
open Th
def z_ed (i : InsM) : Int × Bool :=
 if i.can = true then (if i.op = 1 ∨ i.op = 13 ∨ i.op = 15 ∨ 17 ≤ i.op ∨ (i.op = 11 ∧ (i.imm = 8 ∨ i.imm = 10 ∨ i.imm = 11)) then (0, false) else (i.d, true)) else (0, false)
structure Did where
 s : StM
 m : MemM
 stop : Bool
 e : Int
def doM (i : InsM) (s : StM) (m : MemM) : Did :=
 match i.op.toNat with
 | 20 => ⟨s, m, true, 0⟩
 | 19 => ⟨s.setPC (s.pc + 2#32), m, false, 0⟩
 | 18 => ⟨s.setPC (if z_e2 i.d.toNat s = true then s.pc + 4#32 + 2#32 * immW i.imm else s.pc + 2#32), m, false, 0⟩
 | 17 => ⟨s.setPC (s.pc + 4#32 + 2#32 * immW i.imm), m, false, 0⟩
 | 12 | 13 | 14 | 15 | 16 =>
  if (moveM s i.op.toNat i.d.toNat (addrM s i.op.toNat i.n.toNat i.m.toNat i.imm) m).2.2 = 0 then
   ⟨(moveM s i.op.toNat i.d.toNat (addrM s i.op.toNat i.n.toNat i.m.toNat i.imm) m).1.setPC (s.pc + 2#32), (moveM s i.op.toNat i.d.toNat (addrM s i.op.toNat i.n.toNat i.m.toNat i.imm) m).2.1, false, 0⟩
  else ⟨s, (moveM s i.op.toNat i.d.toNat (addrM s i.op.toNat i.n.toNat i.m.toNat i.imm) m).2.1, false, (moveM s i.op.toNat i.d.toNat (addrM s i.op.toNat i.n.toNat i.m.toNat i.imm) m).2.2⟩
 | k => ⟨StM.setPC (if (z_ed i).2 = true then (reckM s k i.d.toNat i.n.toNat i.m.toNat i.imm).1.setR i.d.toNat (reckM s k i.d.toNat i.n.toNat i.m.toNat i.imm).2 else (reckM s k i.d.toNat i.n.toNat i.m.toNat i.imm).1) (s.pc + 2#32), m, false, 0⟩
def stepM (s : StM) (m : MemM) : Did :=
 if (m.fetch s.pc).2 = 0 then (if (takeN (m.fetch s.pc).1.toNat).2 = 0 then doM (takeN (m.fetch s.pc).1.toNat).1 s m else ⟨s, m, false, (takeN (m.fetch s.pc).1.toNat).2⟩) else ⟨s, m, false, (m.fetch s.pc).2⟩
def DidAV (x : Did) : AV := .tup [.agg x.s.cells, .bool x.stop, .int .i64 x.e]
end Go.Abs
end

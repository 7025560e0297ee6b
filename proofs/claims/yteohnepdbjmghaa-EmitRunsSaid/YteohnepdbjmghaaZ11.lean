/-
  Instructions and their halfwords: what the program's functions do. Printed by gent1.py.
-/
import Derived.Test.YteohnepdbjmghaaZ10
import Derived.Test.YteohnepdbjmghaaZ4
import Derived.Test.YteohnepdbjmghaaZ3
set_option linter.unusedSimpArgs false
set_option linter.unusedVariables false
set_option maxHeartbeats 20000000
set_option maxRecDepth 100000
section
namespace Go.Abs
open Th
def InsAV (i : InsM) : AV := .agg [.int .i64 i.op, .int .i64 i.d, .int .i64 i.n, .int .i64 i.m, .int .i64 i.imm]
def ofc : Nat → BitVec 8
 | 0 => 100#8
 | 1 => 110#8
 | 2 => 109#8
 | 3 => 105#8
 | _ => 99#8
def z_bt : Option Part → List AV
 | some p => [W8 (ofc p.of), .int .i64 p.at_, .int .i64 p.wide]
 | none => [W8 0#8, .int .i64 0, .int .i64 0]
def shpAV (op : Nat) : AV := .agg (W16 (BitVec.ofNat 16 (shp op).bits) :: (z_bt ((shp op).parts[0]?) ++ z_bt ((shp op).parts[1]?) ++ z_bt ((shp op).parts[2]?) ++ [.int .i64 (shp op).low, .int .i64 (shp op).high]))
theorem mask3 (q : QK) (x : Int) : abinR q .and (.int .i64 x) (.int .i64 7) = some (.int .i64 (x % 8)) := z_ic q 3 x (by omega)
theorem mask4 (q : QK) (x : Int) : abinR q .and (.int .i64 x) (.int .i64 15) = some (.int .i64 (x % 16)) := z_ic q 4 x (by omega)
theorem mask5 (q : QK) (x : Int) : abinR q .and (.int .i64 x) (.int .i64 31) = some (.int .i64 (x % 32)) := z_ic q 5 x (by omega)
theorem mask8 (q : QK) (x : Int) : abinR q .and (.int .i64 x) (.int .i64 255) = some (.int .i64 (x % 256)) := z_ic q 8 x (by omega)
theorem mask11 (q : QK) (x : Int) : abinR q .and (.int .i64 x) (.int .i64 2047) = some (.int .i64 (x % 2048)) := z_ic q 11 x (by omega)
theorem z_vn (a b at_ w : Nat) (h : a % 2 ^ (at_ + w) = 0) (hb : b < 2 ^ w) : a ||| b <<< at_ = a + b * 2 ^ at_ := by
 obtain ⟨c, rfl⟩ : ∃ c, a = 2 ^ (at_ + w) * c := ⟨a / 2 ^ (at_ + w), by have := Nat.div_add_mod a (2 ^ (at_ + w)); omega⟩
 rw [Nat.shiftLeft_eq, ← Nat.two_pow_add_eq_or_of_lt]
 rw [Nat.pow_add, Nat.mul_comm]
 exact Nat.mul_lt_mul_of_pos_left hb (Nat.two_pow_pos _)
theorem orB (a : Nat) (x : Int) (s w : Nat) (h : a % 2 ^ (s + w) = 0) : BitVec.ofNat 16 a ||| (BitVec.ofInt 16 (x % ((2 ^ w : Nat) : Int))) <<< s = BitVec.ofNat 16 (a + (x % ((2 ^ w : Nat) : Int)).toNat * 2 ^ s) := by
 have h1 : 0 ≤ x % ((2 ^ w : Nat) : Int) := Int.emod_nonneg _ (by have := Nat.two_pow_pos w; omega)
 have h2 : x % ((2 ^ w : Nat) : Int) < ((2 ^ w : Nat) : Int) := Int.emod_lt_of_pos _ (by have := Nat.two_pow_pos w; omega)
 obtain ⟨b, hb⟩ : ∃ b : Nat, x % ((2 ^ w : Nat) : Int) = (b : Int) := ⟨_, (Int.toNat_of_nonneg h1).symm⟩
 rw [hb] at h2 ⊢
 rw [Int.toNat_natCast, BitVec.ofInt_natCast, ← z_vn a b s w h (by omega)]
 apply BitVec.eq_of_toNat_eq
 simp only [BitVec.toNat_or, BitVec.toNat_shiftLeft, BitVec.toNat_ofNat, Nat.or_mod_two_pow, Nat.shiftLeft_eq, Nat.mod_mul_mod]
theorem orB0 (a : Nat) (x : Int) (w : Nat) (h : a % 2 ^ w = 0) : BitVec.ofNat 16 a ||| (BitVec.ofInt 16 (x % ((2 ^ w : Nat) : Int))) = BitVec.ofNat 16 (a + (x % ((2 ^ w : Nat) : Int)).toNat) := by
 have := orB a x 0 w (by simpa using h); simpa using this
theorem z_b5 (b i0 : Nat) (H : Hp) : z_a7.spec [.ptr b 5 i0 0, W8 100#8] H = some (.ptr b 5 i0 1, H) := by
 simp -implicitDefEqProofs +contextual (disch := omega) [z_a7.spec, z_a7]
theorem z_b6 (b i0 : Nat) (H : Hp) : z_a7.spec [.ptr b 5 i0 0, W8 99#8] H = some (.ptr b 5 i0 1, H) := by
 simp -implicitDefEqProofs +contextual (disch := omega) [z_a7.spec, z_a7]
theorem z_b2 (b i0 : Nat) (H : Hp) : z_a7.spec [.ptr b 5 i0 0, W8 110#8] H = some (.ptr b 5 i0 2, H) := by
 simp -implicitDefEqProofs +contextual (disch := omega) [z_a7.spec, z_a7]
theorem z_b3 (b i0 : Nat) (H : Hp) : z_a7.spec [.ptr b 5 i0 0, W8 109#8] H = some (.ptr b 5 i0 3, H) := by
 simp -implicitDefEqProofs +contextual (disch := omega) [z_a7.spec, z_a7]
theorem z_b4 (b i0 : Nat) (H : Hp) : z_a7.spec [.ptr b 5 i0 0, W8 105#8] H = some (.ptr b 5 i0 4, H) := by
 simp -implicitDefEqProofs +contextual (disch := omega) [z_a7.spec, z_a7]
theorem z_b7 (b i0 : Nat) (H : Hp) : z_a7.spec [.ptr b 5 i0 0, W8 0#8] H = some (.ptr b 5 i0 4, H) := by
 simp -implicitDefEqProofs +contextual (disch := omega) [z_a7.spec, z_a7]
theorem shapes0 : z_ab.spec [.int .i64 0] = some (shpAV 0) := by
 simp -implicitDefEqProofs +contextual (disch := omega) [z_ab.spec, z_ab, shpAV, shp, z_bt, ofc]
theorem can0 (d n m imm : Int) : z_af.spec [InsAV ⟨0, d, n, m, imm⟩] = some (.bool (InsM.mk 0 d n m imm).can) := by
 have hs := shapes0
 simp [shpAV, shp, z_bt, ofc] at hs
 have hc := z_ax 0 (by omega) d n m imm
 simp only [shp, maxD, maxN, maxM, hasD, hasN, hasM] at hc
 generalize hb : (InsM.mk 0 d n m imm).can = b
 rw [show (InsM.mk (0 : Nat) d n m imm).can = b from hb] at hc
 repeat' (first
  | (simp -implicitDefEqProofs +contextual (disch := omega) [z_af.spec, z_af, InsAV, hs, z_al, z_af.l0, z_b5, z_b6, z_b2, z_b3, z_b4, z_b7])
  | (refine z_as (fun h => ?_) (fun h => ?_)))
 all_goals (cases b <;> simp_all <;> omega)
theorem put0 (d n m imm : Int) (hc : (InsM.mk 0 d n m imm).can = true) : z_ag.spec [InsAV ⟨0, d, n, m, imm⟩] = some (W16 (BitVec.ofNat 16 (putN ⟨0, d, n, m, imm⟩))) := by
 have hs := shapes0
 simp [shpAV, shp, z_bt, ofc] at hs
 rw [show ∀ a b c d : Int, (InsM.mk 0 a b c d).can = true ↔ _ from fun a b c d => z_ax 0 (by omega) a b c d] at hc
 simp [shp, maxD, maxN, maxM, hasD, hasN, hasM] at hc
 simp -implicitDefEqProofs +contextual (disch := try first | omega | ((repeat' (first | exact Hp.WF.empty | assumption | apply Hp.WF.push | apply Hp.WF.set)) <;> (simp only [Hp.next_set, Hp.next_push, z_cd] <;> omega))) [z_ag.spec, z_ag, InsAV, hs, z_d6, z_al, z_ag.l0, z_b5, z_b6, z_b2, z_b3, z_b4, z_b7, mask3, mask4, mask5, mask8, mask11]
 have e0 : 8192#16 ||| BitVec.ofInt 16 (d % 8) <<< 8 = BitVec.ofNat 16 (8192 + (d % 8).toNat * 256) := orB (8192) d 8 3 (by omega)
 have e1 : BitVec.ofNat 16 (8192 + (d % 8).toNat * 256) ||| BitVec.ofInt 16 (imm % 256) = BitVec.ofNat 16 (8192 + (d % 8).toNat * 256 + (imm % 256).toNat) := orB0 (8192 + (d % 8).toNat * 256) imm 8 (by omega)
 rw [e0, e1]
 simp [putN, putGo, shp, InsM.get]
theorem shapes1 : z_ab.spec [.int .i64 1] = some (shpAV 1) := by
 simp -implicitDefEqProofs +contextual (disch := omega) [z_ab.spec, z_ab, shpAV, shp, z_bt, ofc]
theorem can1 (d n m imm : Int) : z_af.spec [InsAV ⟨1, d, n, m, imm⟩] = some (.bool (InsM.mk 1 d n m imm).can) := by
 have hs := shapes1
 simp [shpAV, shp, z_bt, ofc] at hs
 have hc := z_ax 1 (by omega) d n m imm
 simp only [shp, maxD, maxN, maxM, hasD, hasN, hasM] at hc
 generalize hb : (InsM.mk 1 d n m imm).can = b
 rw [show (InsM.mk (1 : Nat) d n m imm).can = b from hb] at hc
 repeat' (first
  | (simp -implicitDefEqProofs +contextual (disch := omega) [z_af.spec, z_af, InsAV, hs, z_al, z_af.l0, z_b5, z_b6, z_b2, z_b3, z_b4, z_b7])
  | (refine z_as (fun h => ?_) (fun h => ?_)))
 all_goals (cases b <;> simp_all <;> omega)
theorem put1 (d n m imm : Int) (hc : (InsM.mk 1 d n m imm).can = true) : z_ag.spec [InsAV ⟨1, d, n, m, imm⟩] = some (W16 (BitVec.ofNat 16 (putN ⟨1, d, n, m, imm⟩))) := by
 have hs := shapes1
 simp [shpAV, shp, z_bt, ofc] at hs
 rw [show ∀ a b c d : Int, (InsM.mk 1 a b c d).can = true ↔ _ from fun a b c d => z_ax 1 (by omega) a b c d] at hc
 simp [shp, maxD, maxN, maxM, hasD, hasN, hasM] at hc
 simp -implicitDefEqProofs +contextual (disch := try first | omega | ((repeat' (first | exact Hp.WF.empty | assumption | apply Hp.WF.push | apply Hp.WF.set)) <;> (simp only [Hp.next_set, Hp.next_push, z_cd] <;> omega))) [z_ag.spec, z_ag, InsAV, hs, z_d6, z_al, z_ag.l0, z_b5, z_b6, z_b2, z_b3, z_b4, z_b7, mask3, mask4, mask5, mask8, mask11]
 have e0 : 10240#16 ||| BitVec.ofInt 16 (d % 8) <<< 8 = BitVec.ofNat 16 (10240 + (d % 8).toNat * 256) := orB (10240) d 8 3 (by omega)
 have e1 : BitVec.ofNat 16 (10240 + (d % 8).toNat * 256) ||| BitVec.ofInt 16 (imm % 256) = BitVec.ofNat 16 (10240 + (d % 8).toNat * 256 + (imm % 256).toNat) := orB0 (10240 + (d % 8).toNat * 256) imm 8 (by omega)
 rw [e0, e1]
 simp [putN, putGo, shp, InsM.get]
theorem shapes2 : z_ab.spec [.int .i64 2] = some (shpAV 2) := by
 simp -implicitDefEqProofs +contextual (disch := omega) [z_ab.spec, z_ab, shpAV, shp, z_bt, ofc]
theorem can2 (d n m imm : Int) : z_af.spec [InsAV ⟨2, d, n, m, imm⟩] = some (.bool (InsM.mk 2 d n m imm).can) := by
 have hs := shapes2
 simp [shpAV, shp, z_bt, ofc] at hs
 have hc := z_ax 2 (by omega) d n m imm
 simp only [shp, maxD, maxN, maxM, hasD, hasN, hasM] at hc
 generalize hb : (InsM.mk 2 d n m imm).can = b
 rw [show (InsM.mk (2 : Nat) d n m imm).can = b from hb] at hc
 repeat' (first
  | (simp -implicitDefEqProofs +contextual (disch := omega) [z_af.spec, z_af, InsAV, hs, z_al, z_af.l0, z_b5, z_b6, z_b2, z_b3, z_b4, z_b7])
  | (refine z_as (fun h => ?_) (fun h => ?_)))
 all_goals (cases b <;> simp_all <;> omega)
theorem put2 (d n m imm : Int) (hc : (InsM.mk 2 d n m imm).can = true) : z_ag.spec [InsAV ⟨2, d, n, m, imm⟩] = some (W16 (BitVec.ofNat 16 (putN ⟨2, d, n, m, imm⟩))) := by
 have hs := shapes2
 simp [shpAV, shp, z_bt, ofc] at hs
 rw [show ∀ a b c d : Int, (InsM.mk 2 a b c d).can = true ↔ _ from fun a b c d => z_ax 2 (by omega) a b c d] at hc
 simp [shp, maxD, maxN, maxM, hasD, hasN, hasM] at hc
 simp -implicitDefEqProofs +contextual (disch := try first | omega | ((repeat' (first | exact Hp.WF.empty | assumption | apply Hp.WF.push | apply Hp.WF.set)) <;> (simp only [Hp.next_set, Hp.next_push, z_cd] <;> omega))) [z_ag.spec, z_ag, InsAV, hs, z_d6, z_al, z_ag.l0, z_b5, z_b6, z_b2, z_b3, z_b4, z_b7, mask3, mask4, mask5, mask8, mask11]
 have e0 : 12288#16 ||| BitVec.ofInt 16 (d % 8) <<< 8 = BitVec.ofNat 16 (12288 + (d % 8).toNat * 256) := orB (12288) d 8 3 (by omega)
 have e1 : BitVec.ofNat 16 (12288 + (d % 8).toNat * 256) ||| BitVec.ofInt 16 (imm % 256) = BitVec.ofNat 16 (12288 + (d % 8).toNat * 256 + (imm % 256).toNat) := orB0 (12288 + (d % 8).toNat * 256) imm 8 (by omega)
 rw [e0, e1]
 simp [putN, putGo, shp, InsM.get]
theorem shapes3 : z_ab.spec [.int .i64 3] = some (shpAV 3) := by
 simp -implicitDefEqProofs +contextual (disch := omega) [z_ab.spec, z_ab, shpAV, shp, z_bt, ofc]
theorem can3 (d n m imm : Int) : z_af.spec [InsAV ⟨3, d, n, m, imm⟩] = some (.bool (InsM.mk 3 d n m imm).can) := by
 have hs := shapes3
 simp [shpAV, shp, z_bt, ofc] at hs
 have hc := z_ax 3 (by omega) d n m imm
 simp only [shp, maxD, maxN, maxM, hasD, hasN, hasM] at hc
 generalize hb : (InsM.mk 3 d n m imm).can = b
 rw [show (InsM.mk (3 : Nat) d n m imm).can = b from hb] at hc
 repeat' (first
  | (simp -implicitDefEqProofs +contextual (disch := omega) [z_af.spec, z_af, InsAV, hs, z_al, z_af.l0, z_b5, z_b6, z_b2, z_b3, z_b4, z_b7])
  | (refine z_as (fun h => ?_) (fun h => ?_)))
 all_goals (cases b <;> simp_all <;> omega)
theorem put3 (d n m imm : Int) (hc : (InsM.mk 3 d n m imm).can = true) : z_ag.spec [InsAV ⟨3, d, n, m, imm⟩] = some (W16 (BitVec.ofNat 16 (putN ⟨3, d, n, m, imm⟩))) := by
 have hs := shapes3
 simp [shpAV, shp, z_bt, ofc] at hs
 rw [show ∀ a b c d : Int, (InsM.mk 3 a b c d).can = true ↔ _ from fun a b c d => z_ax 3 (by omega) a b c d] at hc
 simp [shp, maxD, maxN, maxM, hasD, hasN, hasM] at hc
 simp -implicitDefEqProofs +contextual (disch := try first | omega | ((repeat' (first | exact Hp.WF.empty | assumption | apply Hp.WF.push | apply Hp.WF.set)) <;> (simp only [Hp.next_set, Hp.next_push, z_cd] <;> omega))) [z_ag.spec, z_ag, InsAV, hs, z_d6, z_al, z_ag.l0, z_b5, z_b6, z_b2, z_b3, z_b4, z_b7, mask3, mask4, mask5, mask8, mask11]
 have e0 : 14336#16 ||| BitVec.ofInt 16 (d % 8) <<< 8 = BitVec.ofNat 16 (14336 + (d % 8).toNat * 256) := orB (14336) d 8 3 (by omega)
 have e1 : BitVec.ofNat 16 (14336 + (d % 8).toNat * 256) ||| BitVec.ofInt 16 (imm % 256) = BitVec.ofNat 16 (14336 + (d % 8).toNat * 256 + (imm % 256).toNat) := orB0 (14336 + (d % 8).toNat * 256) imm 8 (by omega)
 rw [e0, e1]
 simp [putN, putGo, shp, InsM.get]
theorem shapes4 : z_ab.spec [.int .i64 4] = some (shpAV 4) := by
 simp -implicitDefEqProofs +contextual (disch := omega) [z_ab.spec, z_ab, shpAV, shp, z_bt, ofc]
theorem can4 (d n m imm : Int) : z_af.spec [InsAV ⟨4, d, n, m, imm⟩] = some (.bool (InsM.mk 4 d n m imm).can) := by
 have hs := shapes4
 simp [shpAV, shp, z_bt, ofc] at hs
 have hc := z_ax 4 (by omega) d n m imm
 simp only [shp, maxD, maxN, maxM, hasD, hasN, hasM] at hc
 generalize hb : (InsM.mk 4 d n m imm).can = b
 rw [show (InsM.mk (4 : Nat) d n m imm).can = b from hb] at hc
 repeat' (first
  | (simp -implicitDefEqProofs +contextual (disch := omega) [z_af.spec, z_af, InsAV, hs, z_al, z_af.l0, z_b5, z_b6, z_b2, z_b3, z_b4, z_b7])
  | (refine z_as (fun h => ?_) (fun h => ?_)))
 all_goals (cases b <;> simp_all <;> omega)
theorem put4 (d n m imm : Int) (hc : (InsM.mk 4 d n m imm).can = true) : z_ag.spec [InsAV ⟨4, d, n, m, imm⟩] = some (W16 (BitVec.ofNat 16 (putN ⟨4, d, n, m, imm⟩))) := by
 have hs := shapes4
 simp [shpAV, shp, z_bt, ofc] at hs
 rw [show ∀ a b c d : Int, (InsM.mk 4 a b c d).can = true ↔ _ from fun a b c d => z_ax 4 (by omega) a b c d] at hc
 simp [shp, maxD, maxN, maxM, hasD, hasN, hasM] at hc
 simp -implicitDefEqProofs +contextual (disch := try first | omega | ((repeat' (first | exact Hp.WF.empty | assumption | apply Hp.WF.push | apply Hp.WF.set)) <;> (simp only [Hp.next_set, Hp.next_push, z_cd] <;> omega))) [z_ag.spec, z_ag, InsAV, hs, z_d6, z_al, z_ag.l0, z_b5, z_b6, z_b2, z_b3, z_b4, z_b7, mask3, mask4, mask5, mask8, mask11]
 have e0 : BitVec.ofInt 16 (imm % 32) <<< 6 = BitVec.ofNat 16 (0 + (imm % 32).toNat * 64) := BitVec.zero_or.symm.trans (orB 0 imm 6 5 (by omega))
 have e1 : BitVec.ofNat 16 (0 + (imm % 32).toNat * 64) ||| BitVec.ofInt 16 (m % 8) <<< 3 = BitVec.ofNat 16 (0 + (imm % 32).toNat * 64 + (m % 8).toNat * 8) := orB (0 + (imm % 32).toNat * 64) m 3 3 (by omega)
 have e2 : BitVec.ofNat 16 (0 + (imm % 32).toNat * 64 + (m % 8).toNat * 8) ||| BitVec.ofInt 16 (d % 8) = BitVec.ofNat 16 (0 + (imm % 32).toNat * 64 + (m % 8).toNat * 8 + (d % 8).toNat) := orB0 (0 + (imm % 32).toNat * 64 + (m % 8).toNat * 8) d 3 (by omega)
 rw [e0, e1, e2]
 simp [putN, putGo, shp, InsM.get]
theorem shapes5 : z_ab.spec [.int .i64 5] = some (shpAV 5) := by
 simp -implicitDefEqProofs +contextual (disch := omega) [z_ab.spec, z_ab, shpAV, shp, z_bt, ofc]
theorem can5 (d n m imm : Int) : z_af.spec [InsAV ⟨5, d, n, m, imm⟩] = some (.bool (InsM.mk 5 d n m imm).can) := by
 have hs := shapes5
 simp [shpAV, shp, z_bt, ofc] at hs
 have hc := z_ax 5 (by omega) d n m imm
 simp only [shp, maxD, maxN, maxM, hasD, hasN, hasM] at hc
 generalize hb : (InsM.mk 5 d n m imm).can = b
 rw [show (InsM.mk (5 : Nat) d n m imm).can = b from hb] at hc
 repeat' (first
  | (simp -implicitDefEqProofs +contextual (disch := omega) [z_af.spec, z_af, InsAV, hs, z_al, z_af.l0, z_b5, z_b6, z_b2, z_b3, z_b4, z_b7])
  | (refine z_as (fun h => ?_) (fun h => ?_)))
 all_goals (cases b <;> simp_all <;> omega)
theorem put5 (d n m imm : Int) (hc : (InsM.mk 5 d n m imm).can = true) : z_ag.spec [InsAV ⟨5, d, n, m, imm⟩] = some (W16 (BitVec.ofNat 16 (putN ⟨5, d, n, m, imm⟩))) := by
 have hs := shapes5
 simp [shpAV, shp, z_bt, ofc] at hs
 rw [show ∀ a b c d : Int, (InsM.mk 5 a b c d).can = true ↔ _ from fun a b c d => z_ax 5 (by omega) a b c d] at hc
 simp [shp, maxD, maxN, maxM, hasD, hasN, hasM] at hc
 simp -implicitDefEqProofs +contextual (disch := try first | omega | ((repeat' (first | exact Hp.WF.empty | assumption | apply Hp.WF.push | apply Hp.WF.set)) <;> (simp only [Hp.next_set, Hp.next_push, z_cd] <;> omega))) [z_ag.spec, z_ag, InsAV, hs, z_d6, z_al, z_ag.l0, z_b5, z_b6, z_b2, z_b3, z_b4, z_b7, mask3, mask4, mask5, mask8, mask11]
 have e0 : 2048#16 ||| BitVec.ofInt 16 (imm % 32) <<< 6 = BitVec.ofNat 16 (2048 + (imm % 32).toNat * 64) := orB (2048) imm 6 5 (by omega)
 have e1 : BitVec.ofNat 16 (2048 + (imm % 32).toNat * 64) ||| BitVec.ofInt 16 (m % 8) <<< 3 = BitVec.ofNat 16 (2048 + (imm % 32).toNat * 64 + (m % 8).toNat * 8) := orB (2048 + (imm % 32).toNat * 64) m 3 3 (by omega)
 have e2 : BitVec.ofNat 16 (2048 + (imm % 32).toNat * 64 + (m % 8).toNat * 8) ||| BitVec.ofInt 16 (d % 8) = BitVec.ofNat 16 (2048 + (imm % 32).toNat * 64 + (m % 8).toNat * 8 + (d % 8).toNat) := orB0 (2048 + (imm % 32).toNat * 64 + (m % 8).toNat * 8) d 3 (by omega)
 rw [e0, e1, e2]
 simp [putN, putGo, shp, InsM.get]
theorem shapes6 : z_ab.spec [.int .i64 6] = some (shpAV 6) := by
 simp -implicitDefEqProofs +contextual (disch := omega) [z_ab.spec, z_ab, shpAV, shp, z_bt, ofc]
theorem can6 (d n m imm : Int) : z_af.spec [InsAV ⟨6, d, n, m, imm⟩] = some (.bool (InsM.mk 6 d n m imm).can) := by
 have hs := shapes6
 simp [shpAV, shp, z_bt, ofc] at hs
 have hc := z_ax 6 (by omega) d n m imm
 simp only [shp, maxD, maxN, maxM, hasD, hasN, hasM] at hc
 generalize hb : (InsM.mk 6 d n m imm).can = b
 rw [show (InsM.mk (6 : Nat) d n m imm).can = b from hb] at hc
 repeat' (first
  | (simp -implicitDefEqProofs +contextual (disch := omega) [z_af.spec, z_af, InsAV, hs, z_al, z_af.l0, z_b5, z_b6, z_b2, z_b3, z_b4, z_b7])
  | (refine z_as (fun h => ?_) (fun h => ?_)))
 all_goals (cases b <;> simp_all <;> omega)
theorem put6 (d n m imm : Int) (hc : (InsM.mk 6 d n m imm).can = true) : z_ag.spec [InsAV ⟨6, d, n, m, imm⟩] = some (W16 (BitVec.ofNat 16 (putN ⟨6, d, n, m, imm⟩))) := by
 have hs := shapes6
 simp [shpAV, shp, z_bt, ofc] at hs
 rw [show ∀ a b c d : Int, (InsM.mk 6 a b c d).can = true ↔ _ from fun a b c d => z_ax 6 (by omega) a b c d] at hc
 simp [shp, maxD, maxN, maxM, hasD, hasN, hasM] at hc
 simp -implicitDefEqProofs +contextual (disch := try first | omega | ((repeat' (first | exact Hp.WF.empty | assumption | apply Hp.WF.push | apply Hp.WF.set)) <;> (simp only [Hp.next_set, Hp.next_push, z_cd] <;> omega))) [z_ag.spec, z_ag, InsAV, hs, z_d6, z_al, z_ag.l0, z_b5, z_b6, z_b2, z_b3, z_b4, z_b7, mask3, mask4, mask5, mask8, mask11]
 have e0 : 4096#16 ||| BitVec.ofInt 16 (imm % 32) <<< 6 = BitVec.ofNat 16 (4096 + (imm % 32).toNat * 64) := orB (4096) imm 6 5 (by omega)
 have e1 : BitVec.ofNat 16 (4096 + (imm % 32).toNat * 64) ||| BitVec.ofInt 16 (m % 8) <<< 3 = BitVec.ofNat 16 (4096 + (imm % 32).toNat * 64 + (m % 8).toNat * 8) := orB (4096 + (imm % 32).toNat * 64) m 3 3 (by omega)
 have e2 : BitVec.ofNat 16 (4096 + (imm % 32).toNat * 64 + (m % 8).toNat * 8) ||| BitVec.ofInt 16 (d % 8) = BitVec.ofNat 16 (4096 + (imm % 32).toNat * 64 + (m % 8).toNat * 8 + (d % 8).toNat) := orB0 (4096 + (imm % 32).toNat * 64 + (m % 8).toNat * 8) d 3 (by omega)
 rw [e0, e1, e2]
 simp [putN, putGo, shp, InsM.get]
theorem shapes7 : z_ab.spec [.int .i64 7] = some (shpAV 7) := by
 simp -implicitDefEqProofs +contextual (disch := omega) [z_ab.spec, z_ab, shpAV, shp, z_bt, ofc]
theorem can7 (d n m imm : Int) : z_af.spec [InsAV ⟨7, d, n, m, imm⟩] = some (.bool (InsM.mk 7 d n m imm).can) := by
 have hs := shapes7
 simp [shpAV, shp, z_bt, ofc] at hs
 have hc := z_ax 7 (by omega) d n m imm
 simp only [shp, maxD, maxN, maxM, hasD, hasN, hasM] at hc
 generalize hb : (InsM.mk 7 d n m imm).can = b
 rw [show (InsM.mk (7 : Nat) d n m imm).can = b from hb] at hc
 repeat' (first
  | (simp -implicitDefEqProofs +contextual (disch := omega) [z_af.spec, z_af, InsAV, hs, z_al, z_af.l0, z_b5, z_b6, z_b2, z_b3, z_b4, z_b7])
  | (refine z_as (fun h => ?_) (fun h => ?_)))
 all_goals (cases b <;> simp_all <;> omega)
theorem put7 (d n m imm : Int) (hc : (InsM.mk 7 d n m imm).can = true) : z_ag.spec [InsAV ⟨7, d, n, m, imm⟩] = some (W16 (BitVec.ofNat 16 (putN ⟨7, d, n, m, imm⟩))) := by
 have hs := shapes7
 simp [shpAV, shp, z_bt, ofc] at hs
 rw [show ∀ a b c d : Int, (InsM.mk 7 a b c d).can = true ↔ _ from fun a b c d => z_ax 7 (by omega) a b c d] at hc
 simp [shp, maxD, maxN, maxM, hasD, hasN, hasM] at hc
 simp -implicitDefEqProofs +contextual (disch := try first | omega | ((repeat' (first | exact Hp.WF.empty | assumption | apply Hp.WF.push | apply Hp.WF.set)) <;> (simp only [Hp.next_set, Hp.next_push, z_cd] <;> omega))) [z_ag.spec, z_ag, InsAV, hs, z_d6, z_al, z_ag.l0, z_b5, z_b6, z_b2, z_b3, z_b4, z_b7, mask3, mask4, mask5, mask8, mask11]
 have e0 : 6144#16 ||| BitVec.ofInt 16 (m % 8) <<< 6 = BitVec.ofNat 16 (6144 + (m % 8).toNat * 64) := orB (6144) m 6 3 (by omega)
 have e1 : BitVec.ofNat 16 (6144 + (m % 8).toNat * 64) ||| BitVec.ofInt 16 (n % 8) <<< 3 = BitVec.ofNat 16 (6144 + (m % 8).toNat * 64 + (n % 8).toNat * 8) := orB (6144 + (m % 8).toNat * 64) n 3 3 (by omega)
 have e2 : BitVec.ofNat 16 (6144 + (m % 8).toNat * 64 + (n % 8).toNat * 8) ||| BitVec.ofInt 16 (d % 8) = BitVec.ofNat 16 (6144 + (m % 8).toNat * 64 + (n % 8).toNat * 8 + (d % 8).toNat) := orB0 (6144 + (m % 8).toNat * 64 + (n % 8).toNat * 8) d 3 (by omega)
 rw [e0, e1, e2]
 simp [putN, putGo, shp, InsM.get]
theorem shapes8 : z_ab.spec [.int .i64 8] = some (shpAV 8) := by
 simp -implicitDefEqProofs +contextual (disch := omega) [z_ab.spec, z_ab, shpAV, shp, z_bt, ofc]
theorem can8 (d n m imm : Int) : z_af.spec [InsAV ⟨8, d, n, m, imm⟩] = some (.bool (InsM.mk 8 d n m imm).can) := by
 have hs := shapes8
 simp [shpAV, shp, z_bt, ofc] at hs
 have hc := z_ax 8 (by omega) d n m imm
 simp only [shp, maxD, maxN, maxM, hasD, hasN, hasM] at hc
 generalize hb : (InsM.mk 8 d n m imm).can = b
 rw [show (InsM.mk (8 : Nat) d n m imm).can = b from hb] at hc
 repeat' (first
  | (simp -implicitDefEqProofs +contextual (disch := omega) [z_af.spec, z_af, InsAV, hs, z_al, z_af.l0, z_b5, z_b6, z_b2, z_b3, z_b4, z_b7])
  | (refine z_as (fun h => ?_) (fun h => ?_)))
 all_goals (cases b <;> simp_all <;> omega)
theorem put8 (d n m imm : Int) (hc : (InsM.mk 8 d n m imm).can = true) : z_ag.spec [InsAV ⟨8, d, n, m, imm⟩] = some (W16 (BitVec.ofNat 16 (putN ⟨8, d, n, m, imm⟩))) := by
 have hs := shapes8
 simp [shpAV, shp, z_bt, ofc] at hs
 rw [show ∀ a b c d : Int, (InsM.mk 8 a b c d).can = true ↔ _ from fun a b c d => z_ax 8 (by omega) a b c d] at hc
 simp [shp, maxD, maxN, maxM, hasD, hasN, hasM] at hc
 simp -implicitDefEqProofs +contextual (disch := try first | omega | ((repeat' (first | exact Hp.WF.empty | assumption | apply Hp.WF.push | apply Hp.WF.set)) <;> (simp only [Hp.next_set, Hp.next_push, z_cd] <;> omega))) [z_ag.spec, z_ag, InsAV, hs, z_d6, z_al, z_ag.l0, z_b5, z_b6, z_b2, z_b3, z_b4, z_b7, mask3, mask4, mask5, mask8, mask11]
 have e0 : 6656#16 ||| BitVec.ofInt 16 (m % 8) <<< 6 = BitVec.ofNat 16 (6656 + (m % 8).toNat * 64) := orB (6656) m 6 3 (by omega)
 have e1 : BitVec.ofNat 16 (6656 + (m % 8).toNat * 64) ||| BitVec.ofInt 16 (n % 8) <<< 3 = BitVec.ofNat 16 (6656 + (m % 8).toNat * 64 + (n % 8).toNat * 8) := orB (6656 + (m % 8).toNat * 64) n 3 3 (by omega)
 have e2 : BitVec.ofNat 16 (6656 + (m % 8).toNat * 64 + (n % 8).toNat * 8) ||| BitVec.ofInt 16 (d % 8) = BitVec.ofNat 16 (6656 + (m % 8).toNat * 64 + (n % 8).toNat * 8 + (d % 8).toNat) := orB0 (6656 + (m % 8).toNat * 64 + (n % 8).toNat * 8) d 3 (by omega)
 rw [e0, e1, e2]
 simp [putN, putGo, shp, InsM.get]
theorem shapes9 : z_ab.spec [.int .i64 9] = some (shpAV 9) := by
 simp -implicitDefEqProofs +contextual (disch := omega) [z_ab.spec, z_ab, shpAV, shp, z_bt, ofc]
theorem can9 (d n m imm : Int) : z_af.spec [InsAV ⟨9, d, n, m, imm⟩] = some (.bool (InsM.mk 9 d n m imm).can) := by
 have hs := shapes9
 simp [shpAV, shp, z_bt, ofc] at hs
 have hc := z_ax 9 (by omega) d n m imm
 simp only [shp, maxD, maxN, maxM, hasD, hasN, hasM] at hc
 generalize hb : (InsM.mk 9 d n m imm).can = b
 rw [show (InsM.mk (9 : Nat) d n m imm).can = b from hb] at hc
 repeat' (first
  | (simp -implicitDefEqProofs +contextual (disch := omega) [z_af.spec, z_af, InsAV, hs, z_al, z_af.l0, z_b5, z_b6, z_b2, z_b3, z_b4, z_b7])
  | (refine z_as (fun h => ?_) (fun h => ?_)))
 all_goals (cases b <;> simp_all <;> omega)
theorem put9 (d n m imm : Int) (hc : (InsM.mk 9 d n m imm).can = true) : z_ag.spec [InsAV ⟨9, d, n, m, imm⟩] = some (W16 (BitVec.ofNat 16 (putN ⟨9, d, n, m, imm⟩))) := by
 have hs := shapes9
 simp [shpAV, shp, z_bt, ofc] at hs
 rw [show ∀ a b c d : Int, (InsM.mk 9 a b c d).can = true ↔ _ from fun a b c d => z_ax 9 (by omega) a b c d] at hc
 simp [shp, maxD, maxN, maxM, hasD, hasN, hasM] at hc
 simp -implicitDefEqProofs +contextual (disch := try first | omega | ((repeat' (first | exact Hp.WF.empty | assumption | apply Hp.WF.push | apply Hp.WF.set)) <;> (simp only [Hp.next_set, Hp.next_push, z_cd] <;> omega))) [z_ag.spec, z_ag, InsAV, hs, z_d6, z_al, z_ag.l0, z_b5, z_b6, z_b2, z_b3, z_b4, z_b7, mask3, mask4, mask5, mask8, mask11]
 have e0 : 7168#16 ||| BitVec.ofInt 16 (imm % 8) <<< 6 = BitVec.ofNat 16 (7168 + (imm % 8).toNat * 64) := orB (7168) imm 6 3 (by omega)
 have e1 : BitVec.ofNat 16 (7168 + (imm % 8).toNat * 64) ||| BitVec.ofInt 16 (n % 8) <<< 3 = BitVec.ofNat 16 (7168 + (imm % 8).toNat * 64 + (n % 8).toNat * 8) := orB (7168 + (imm % 8).toNat * 64) n 3 3 (by omega)
 have e2 : BitVec.ofNat 16 (7168 + (imm % 8).toNat * 64 + (n % 8).toNat * 8) ||| BitVec.ofInt 16 (d % 8) = BitVec.ofNat 16 (7168 + (imm % 8).toNat * 64 + (n % 8).toNat * 8 + (d % 8).toNat) := orB0 (7168 + (imm % 8).toNat * 64 + (n % 8).toNat * 8) d 3 (by omega)
 rw [e0, e1, e2]
 simp [putN, putGo, shp, InsM.get]
theorem shapes10 : z_ab.spec [.int .i64 10] = some (shpAV 10) := by
 simp -implicitDefEqProofs +contextual (disch := omega) [z_ab.spec, z_ab, shpAV, shp, z_bt, ofc]
theorem can10 (d n m imm : Int) : z_af.spec [InsAV ⟨10, d, n, m, imm⟩] = some (.bool (InsM.mk 10 d n m imm).can) := by
 have hs := shapes10
 simp [shpAV, shp, z_bt, ofc] at hs
 have hc := z_ax 10 (by omega) d n m imm
 simp only [shp, maxD, maxN, maxM, hasD, hasN, hasM] at hc
 generalize hb : (InsM.mk 10 d n m imm).can = b
 rw [show (InsM.mk (10 : Nat) d n m imm).can = b from hb] at hc
 repeat' (first
  | (simp -implicitDefEqProofs +contextual (disch := omega) [z_af.spec, z_af, InsAV, hs, z_al, z_af.l0, z_b5, z_b6, z_b2, z_b3, z_b4, z_b7])
  | (refine z_as (fun h => ?_) (fun h => ?_)))
 all_goals (cases b <;> simp_all <;> omega)
theorem put10 (d n m imm : Int) (hc : (InsM.mk 10 d n m imm).can = true) : z_ag.spec [InsAV ⟨10, d, n, m, imm⟩] = some (W16 (BitVec.ofNat 16 (putN ⟨10, d, n, m, imm⟩))) := by
 have hs := shapes10
 simp [shpAV, shp, z_bt, ofc] at hs
 rw [show ∀ a b c d : Int, (InsM.mk 10 a b c d).can = true ↔ _ from fun a b c d => z_ax 10 (by omega) a b c d] at hc
 simp [shp, maxD, maxN, maxM, hasD, hasN, hasM] at hc
 simp -implicitDefEqProofs +contextual (disch := try first | omega | ((repeat' (first | exact Hp.WF.empty | assumption | apply Hp.WF.push | apply Hp.WF.set)) <;> (simp only [Hp.next_set, Hp.next_push, z_cd] <;> omega))) [z_ag.spec, z_ag, InsAV, hs, z_d6, z_al, z_ag.l0, z_b5, z_b6, z_b2, z_b3, z_b4, z_b7, mask3, mask4, mask5, mask8, mask11]
 have e0 : 7680#16 ||| BitVec.ofInt 16 (imm % 8) <<< 6 = BitVec.ofNat 16 (7680 + (imm % 8).toNat * 64) := orB (7680) imm 6 3 (by omega)
 have e1 : BitVec.ofNat 16 (7680 + (imm % 8).toNat * 64) ||| BitVec.ofInt 16 (n % 8) <<< 3 = BitVec.ofNat 16 (7680 + (imm % 8).toNat * 64 + (n % 8).toNat * 8) := orB (7680 + (imm % 8).toNat * 64) n 3 3 (by omega)
 have e2 : BitVec.ofNat 16 (7680 + (imm % 8).toNat * 64 + (n % 8).toNat * 8) ||| BitVec.ofInt 16 (d % 8) = BitVec.ofNat 16 (7680 + (imm % 8).toNat * 64 + (n % 8).toNat * 8 + (d % 8).toNat) := orB0 (7680 + (imm % 8).toNat * 64 + (n % 8).toNat * 8) d 3 (by omega)
 rw [e0, e1, e2]
 simp [putN, putGo, shp, InsM.get]
theorem shapes11 : z_ab.spec [.int .i64 11] = some (shpAV 11) := by
 simp -implicitDefEqProofs +contextual (disch := omega) [z_ab.spec, z_ab, shpAV, shp, z_bt, ofc]
theorem can11 (d n m imm : Int) : z_af.spec [InsAV ⟨11, d, n, m, imm⟩] = some (.bool (InsM.mk 11 d n m imm).can) := by
 have hs := shapes11
 simp [shpAV, shp, z_bt, ofc] at hs
 have hc := z_ax 11 (by omega) d n m imm
 simp only [shp, maxD, maxN, maxM, hasD, hasN, hasM] at hc
 generalize hb : (InsM.mk 11 d n m imm).can = b
 rw [show (InsM.mk (11 : Nat) d n m imm).can = b from hb] at hc
 repeat' (first
  | (simp -implicitDefEqProofs +contextual (disch := omega) [z_af.spec, z_af, InsAV, hs, z_al, z_af.l0, z_b5, z_b6, z_b2, z_b3, z_b4, z_b7])
  | (refine z_as (fun h => ?_) (fun h => ?_)))
 all_goals (cases b <;> simp_all <;> omega)
theorem put11 (d n m imm : Int) (hc : (InsM.mk 11 d n m imm).can = true) : z_ag.spec [InsAV ⟨11, d, n, m, imm⟩] = some (W16 (BitVec.ofNat 16 (putN ⟨11, d, n, m, imm⟩))) := by
 have hs := shapes11
 simp [shpAV, shp, z_bt, ofc] at hs
 rw [show ∀ a b c d : Int, (InsM.mk 11 a b c d).can = true ↔ _ from fun a b c d => z_ax 11 (by omega) a b c d] at hc
 simp [shp, maxD, maxN, maxM, hasD, hasN, hasM] at hc
 simp -implicitDefEqProofs +contextual (disch := try first | omega | ((repeat' (first | exact Hp.WF.empty | assumption | apply Hp.WF.push | apply Hp.WF.set)) <;> (simp only [Hp.next_set, Hp.next_push, z_cd] <;> omega))) [z_ag.spec, z_ag, InsAV, hs, z_d6, z_al, z_ag.l0, z_b5, z_b6, z_b2, z_b3, z_b4, z_b7, mask3, mask4, mask5, mask8, mask11]
 have e0 : 16384#16 ||| BitVec.ofInt 16 (imm % 16) <<< 6 = BitVec.ofNat 16 (16384 + (imm % 16).toNat * 64) := orB (16384) imm 6 4 (by omega)
 have e1 : BitVec.ofNat 16 (16384 + (imm % 16).toNat * 64) ||| BitVec.ofInt 16 (m % 8) <<< 3 = BitVec.ofNat 16 (16384 + (imm % 16).toNat * 64 + (m % 8).toNat * 8) := orB (16384 + (imm % 16).toNat * 64) m 3 3 (by omega)
 have e2 : BitVec.ofNat 16 (16384 + (imm % 16).toNat * 64 + (m % 8).toNat * 8) ||| BitVec.ofInt 16 (d % 8) = BitVec.ofNat 16 (16384 + (imm % 16).toNat * 64 + (m % 8).toNat * 8 + (d % 8).toNat) := orB0 (16384 + (imm % 16).toNat * 64 + (m % 8).toNat * 8) d 3 (by omega)
 rw [e0, e1, e2]
 simp [putN, putGo, shp, InsM.get]
theorem shapes12 : z_ab.spec [.int .i64 12] = some (shpAV 12) := by
 simp -implicitDefEqProofs +contextual (disch := omega) [z_ab.spec, z_ab, shpAV, shp, z_bt, ofc]
theorem can12 (d n m imm : Int) : z_af.spec [InsAV ⟨12, d, n, m, imm⟩] = some (.bool (InsM.mk 12 d n m imm).can) := by
 have hs := shapes12
 simp [shpAV, shp, z_bt, ofc] at hs
 have hc := z_ax 12 (by omega) d n m imm
 simp only [shp, maxD, maxN, maxM, hasD, hasN, hasM] at hc
 generalize hb : (InsM.mk 12 d n m imm).can = b
 rw [show (InsM.mk (12 : Nat) d n m imm).can = b from hb] at hc
 repeat' (first
  | (simp -implicitDefEqProofs +contextual (disch := omega) [z_af.spec, z_af, InsAV, hs, z_al, z_af.l0, z_b5, z_b6, z_b2, z_b3, z_b4, z_b7])
  | (refine z_as (fun h => ?_) (fun h => ?_)))
 all_goals (cases b <;> simp_all <;> omega)
theorem put12 (d n m imm : Int) (hc : (InsM.mk 12 d n m imm).can = true) : z_ag.spec [InsAV ⟨12, d, n, m, imm⟩] = some (W16 (BitVec.ofNat 16 (putN ⟨12, d, n, m, imm⟩))) := by
 have hs := shapes12
 simp [shpAV, shp, z_bt, ofc] at hs
 rw [show ∀ a b c d : Int, (InsM.mk 12 a b c d).can = true ↔ _ from fun a b c d => z_ax 12 (by omega) a b c d] at hc
 simp [shp, maxD, maxN, maxM, hasD, hasN, hasM] at hc
 simp -implicitDefEqProofs +contextual (disch := try first | omega | ((repeat' (first | exact Hp.WF.empty | assumption | apply Hp.WF.push | apply Hp.WF.set)) <;> (simp only [Hp.next_set, Hp.next_push, z_cd] <;> omega))) [z_ag.spec, z_ag, InsAV, hs, z_d6, z_al, z_ag.l0, z_b5, z_b6, z_b2, z_b3, z_b4, z_b7, mask3, mask4, mask5, mask8, mask11]
 have e0 : 26624#16 ||| BitVec.ofInt 16 (imm % 32) <<< 6 = BitVec.ofNat 16 (26624 + (imm % 32).toNat * 64) := orB (26624) imm 6 5 (by omega)
 have e1 : BitVec.ofNat 16 (26624 + (imm % 32).toNat * 64) ||| BitVec.ofInt 16 (n % 8) <<< 3 = BitVec.ofNat 16 (26624 + (imm % 32).toNat * 64 + (n % 8).toNat * 8) := orB (26624 + (imm % 32).toNat * 64) n 3 3 (by omega)
 have e2 : BitVec.ofNat 16 (26624 + (imm % 32).toNat * 64 + (n % 8).toNat * 8) ||| BitVec.ofInt 16 (d % 8) = BitVec.ofNat 16 (26624 + (imm % 32).toNat * 64 + (n % 8).toNat * 8 + (d % 8).toNat) := orB0 (26624 + (imm % 32).toNat * 64 + (n % 8).toNat * 8) d 3 (by omega)
 rw [e0, e1, e2]
 simp [putN, putGo, shp, InsM.get]
theorem shapes13 : z_ab.spec [.int .i64 13] = some (shpAV 13) := by
 simp -implicitDefEqProofs +contextual (disch := omega) [z_ab.spec, z_ab, shpAV, shp, z_bt, ofc]
theorem can13 (d n m imm : Int) : z_af.spec [InsAV ⟨13, d, n, m, imm⟩] = some (.bool (InsM.mk 13 d n m imm).can) := by
 have hs := shapes13
 simp [shpAV, shp, z_bt, ofc] at hs
 have hc := z_ax 13 (by omega) d n m imm
 simp only [shp, maxD, maxN, maxM, hasD, hasN, hasM] at hc
 generalize hb : (InsM.mk 13 d n m imm).can = b
 rw [show (InsM.mk (13 : Nat) d n m imm).can = b from hb] at hc
 repeat' (first
  | (simp -implicitDefEqProofs +contextual (disch := omega) [z_af.spec, z_af, InsAV, hs, z_al, z_af.l0, z_b5, z_b6, z_b2, z_b3, z_b4, z_b7])
  | (refine z_as (fun h => ?_) (fun h => ?_)))
 all_goals (cases b <;> simp_all <;> omega)
theorem put13 (d n m imm : Int) (hc : (InsM.mk 13 d n m imm).can = true) : z_ag.spec [InsAV ⟨13, d, n, m, imm⟩] = some (W16 (BitVec.ofNat 16 (putN ⟨13, d, n, m, imm⟩))) := by
 have hs := shapes13
 simp [shpAV, shp, z_bt, ofc] at hs
 rw [show ∀ a b c d : Int, (InsM.mk 13 a b c d).can = true ↔ _ from fun a b c d => z_ax 13 (by omega) a b c d] at hc
 simp [shp, maxD, maxN, maxM, hasD, hasN, hasM] at hc
 simp -implicitDefEqProofs +contextual (disch := try first | omega | ((repeat' (first | exact Hp.WF.empty | assumption | apply Hp.WF.push | apply Hp.WF.set)) <;> (simp only [Hp.next_set, Hp.next_push, z_cd] <;> omega))) [z_ag.spec, z_ag, InsAV, hs, z_d6, z_al, z_ag.l0, z_b5, z_b6, z_b2, z_b3, z_b4, z_b7, mask3, mask4, mask5, mask8, mask11]
 have e0 : 24576#16 ||| BitVec.ofInt 16 (imm % 32) <<< 6 = BitVec.ofNat 16 (24576 + (imm % 32).toNat * 64) := orB (24576) imm 6 5 (by omega)
 have e1 : BitVec.ofNat 16 (24576 + (imm % 32).toNat * 64) ||| BitVec.ofInt 16 (n % 8) <<< 3 = BitVec.ofNat 16 (24576 + (imm % 32).toNat * 64 + (n % 8).toNat * 8) := orB (24576 + (imm % 32).toNat * 64) n 3 3 (by omega)
 have e2 : BitVec.ofNat 16 (24576 + (imm % 32).toNat * 64 + (n % 8).toNat * 8) ||| BitVec.ofInt 16 (d % 8) = BitVec.ofNat 16 (24576 + (imm % 32).toNat * 64 + (n % 8).toNat * 8 + (d % 8).toNat) := orB0 (24576 + (imm % 32).toNat * 64 + (n % 8).toNat * 8) d 3 (by omega)
 rw [e0, e1, e2]
 simp [putN, putGo, shp, InsM.get]
theorem shapes14 : z_ab.spec [.int .i64 14] = some (shpAV 14) := by
 simp -implicitDefEqProofs +contextual (disch := omega) [z_ab.spec, z_ab, shpAV, shp, z_bt, ofc]
theorem can14 (d n m imm : Int) : z_af.spec [InsAV ⟨14, d, n, m, imm⟩] = some (.bool (InsM.mk 14 d n m imm).can) := by
 have hs := shapes14
 simp [shpAV, shp, z_bt, ofc] at hs
 have hc := z_ax 14 (by omega) d n m imm
 simp only [shp, maxD, maxN, maxM, hasD, hasN, hasM] at hc
 generalize hb : (InsM.mk 14 d n m imm).can = b
 rw [show (InsM.mk (14 : Nat) d n m imm).can = b from hb] at hc
 repeat' (first
  | (simp -implicitDefEqProofs +contextual (disch := omega) [z_af.spec, z_af, InsAV, hs, z_al, z_af.l0, z_b5, z_b6, z_b2, z_b3, z_b4, z_b7])
  | (refine z_as (fun h => ?_) (fun h => ?_)))
 all_goals (cases b <;> simp_all <;> omega)
theorem put14 (d n m imm : Int) (hc : (InsM.mk 14 d n m imm).can = true) : z_ag.spec [InsAV ⟨14, d, n, m, imm⟩] = some (W16 (BitVec.ofNat 16 (putN ⟨14, d, n, m, imm⟩))) := by
 have hs := shapes14
 simp [shpAV, shp, z_bt, ofc] at hs
 rw [show ∀ a b c d : Int, (InsM.mk 14 a b c d).can = true ↔ _ from fun a b c d => z_ax 14 (by omega) a b c d] at hc
 simp [shp, maxD, maxN, maxM, hasD, hasN, hasM] at hc
 simp -implicitDefEqProofs +contextual (disch := try first | omega | ((repeat' (first | exact Hp.WF.empty | assumption | apply Hp.WF.push | apply Hp.WF.set)) <;> (simp only [Hp.next_set, Hp.next_push, z_cd] <;> omega))) [z_ag.spec, z_ag, InsAV, hs, z_d6, z_al, z_ag.l0, z_b5, z_b6, z_b2, z_b3, z_b4, z_b7, mask3, mask4, mask5, mask8, mask11]
 have e0 : 22528#16 ||| BitVec.ofInt 16 (m % 8) <<< 6 = BitVec.ofNat 16 (22528 + (m % 8).toNat * 64) := orB (22528) m 6 3 (by omega)
 have e1 : BitVec.ofNat 16 (22528 + (m % 8).toNat * 64) ||| BitVec.ofInt 16 (n % 8) <<< 3 = BitVec.ofNat 16 (22528 + (m % 8).toNat * 64 + (n % 8).toNat * 8) := orB (22528 + (m % 8).toNat * 64) n 3 3 (by omega)
 have e2 : BitVec.ofNat 16 (22528 + (m % 8).toNat * 64 + (n % 8).toNat * 8) ||| BitVec.ofInt 16 (d % 8) = BitVec.ofNat 16 (22528 + (m % 8).toNat * 64 + (n % 8).toNat * 8 + (d % 8).toNat) := orB0 (22528 + (m % 8).toNat * 64 + (n % 8).toNat * 8) d 3 (by omega)
 rw [e0, e1, e2]
 simp [putN, putGo, shp, InsM.get]
theorem shapes15 : z_ab.spec [.int .i64 15] = some (shpAV 15) := by
 simp -implicitDefEqProofs +contextual (disch := omega) [z_ab.spec, z_ab, shpAV, shp, z_bt, ofc]
theorem can15 (d n m imm : Int) : z_af.spec [InsAV ⟨15, d, n, m, imm⟩] = some (.bool (InsM.mk 15 d n m imm).can) := by
 have hs := shapes15
 simp [shpAV, shp, z_bt, ofc] at hs
 have hc := z_ax 15 (by omega) d n m imm
 simp only [shp, maxD, maxN, maxM, hasD, hasN, hasM] at hc
 generalize hb : (InsM.mk 15 d n m imm).can = b
 rw [show (InsM.mk (15 : Nat) d n m imm).can = b from hb] at hc
 repeat' (first
  | (simp -implicitDefEqProofs +contextual (disch := omega) [z_af.spec, z_af, InsAV, hs, z_al, z_af.l0, z_b5, z_b6, z_b2, z_b3, z_b4, z_b7])
  | (refine z_as (fun h => ?_) (fun h => ?_)))
 all_goals (cases b <;> simp_all <;> omega)
theorem put15 (d n m imm : Int) (hc : (InsM.mk 15 d n m imm).can = true) : z_ag.spec [InsAV ⟨15, d, n, m, imm⟩] = some (W16 (BitVec.ofNat 16 (putN ⟨15, d, n, m, imm⟩))) := by
 have hs := shapes15
 simp [shpAV, shp, z_bt, ofc] at hs
 rw [show ∀ a b c d : Int, (InsM.mk 15 a b c d).can = true ↔ _ from fun a b c d => z_ax 15 (by omega) a b c d] at hc
 simp [shp, maxD, maxN, maxM, hasD, hasN, hasM] at hc
 simp -implicitDefEqProofs +contextual (disch := try first | omega | ((repeat' (first | exact Hp.WF.empty | assumption | apply Hp.WF.push | apply Hp.WF.set)) <;> (simp only [Hp.next_set, Hp.next_push, z_cd] <;> omega))) [z_ag.spec, z_ag, InsAV, hs, z_d6, z_al, z_ag.l0, z_b5, z_b6, z_b2, z_b3, z_b4, z_b7, mask3, mask4, mask5, mask8, mask11]
 have e0 : 20480#16 ||| BitVec.ofInt 16 (m % 8) <<< 6 = BitVec.ofNat 16 (20480 + (m % 8).toNat * 64) := orB (20480) m 6 3 (by omega)
 have e1 : BitVec.ofNat 16 (20480 + (m % 8).toNat * 64) ||| BitVec.ofInt 16 (n % 8) <<< 3 = BitVec.ofNat 16 (20480 + (m % 8).toNat * 64 + (n % 8).toNat * 8) := orB (20480 + (m % 8).toNat * 64) n 3 3 (by omega)
 have e2 : BitVec.ofNat 16 (20480 + (m % 8).toNat * 64 + (n % 8).toNat * 8) ||| BitVec.ofInt 16 (d % 8) = BitVec.ofNat 16 (20480 + (m % 8).toNat * 64 + (n % 8).toNat * 8 + (d % 8).toNat) := orB0 (20480 + (m % 8).toNat * 64 + (n % 8).toNat * 8) d 3 (by omega)
 rw [e0, e1, e2]
 simp [putN, putGo, shp, InsM.get]
theorem shapes16 : z_ab.spec [.int .i64 16] = some (shpAV 16) := by
 simp -implicitDefEqProofs +contextual (disch := omega) [z_ab.spec, z_ab, shpAV, shp, z_bt, ofc]
theorem can16 (d n m imm : Int) : z_af.spec [InsAV ⟨16, d, n, m, imm⟩] = some (.bool (InsM.mk 16 d n m imm).can) := by
 have hs := shapes16
 simp [shpAV, shp, z_bt, ofc] at hs
 have hc := z_ax 16 (by omega) d n m imm
 simp only [shp, maxD, maxN, maxM, hasD, hasN, hasM] at hc
 generalize hb : (InsM.mk 16 d n m imm).can = b
 rw [show (InsM.mk (16 : Nat) d n m imm).can = b from hb] at hc
 repeat' (first
  | (simp -implicitDefEqProofs +contextual (disch := omega) [z_af.spec, z_af, InsAV, hs, z_al, z_af.l0, z_b5, z_b6, z_b2, z_b3, z_b4, z_b7])
  | (refine z_as (fun h => ?_) (fun h => ?_)))
 all_goals (cases b <;> simp_all <;> omega)
theorem put16 (d n m imm : Int) (hc : (InsM.mk 16 d n m imm).can = true) : z_ag.spec [InsAV ⟨16, d, n, m, imm⟩] = some (W16 (BitVec.ofNat 16 (putN ⟨16, d, n, m, imm⟩))) := by
 have hs := shapes16
 simp [shpAV, shp, z_bt, ofc] at hs
 rw [show ∀ a b c d : Int, (InsM.mk 16 a b c d).can = true ↔ _ from fun a b c d => z_ax 16 (by omega) a b c d] at hc
 simp [shp, maxD, maxN, maxM, hasD, hasN, hasM] at hc
 simp -implicitDefEqProofs +contextual (disch := try first | omega | ((repeat' (first | exact Hp.WF.empty | assumption | apply Hp.WF.push | apply Hp.WF.set)) <;> (simp only [Hp.next_set, Hp.next_push, z_cd] <;> omega))) [z_ag.spec, z_ag, InsAV, hs, z_d6, z_al, z_ag.l0, z_b5, z_b6, z_b2, z_b3, z_b4, z_b7, mask3, mask4, mask5, mask8, mask11]
 have e0 : 18432#16 ||| BitVec.ofInt 16 (d % 8) <<< 8 = BitVec.ofNat 16 (18432 + (d % 8).toNat * 256) := orB (18432) d 8 3 (by omega)
 have e1 : BitVec.ofNat 16 (18432 + (d % 8).toNat * 256) ||| BitVec.ofInt 16 (imm % 256) = BitVec.ofNat 16 (18432 + (d % 8).toNat * 256 + (imm % 256).toNat) := orB0 (18432 + (d % 8).toNat * 256) imm 8 (by omega)
 rw [e0, e1]
 simp [putN, putGo, shp, InsM.get]
theorem shapes17 : z_ab.spec [.int .i64 17] = some (shpAV 17) := by
 simp -implicitDefEqProofs +contextual (disch := omega) [z_ab.spec, z_ab, shpAV, shp, z_bt, ofc]
theorem can17 (d n m imm : Int) : z_af.spec [InsAV ⟨17, d, n, m, imm⟩] = some (.bool (InsM.mk 17 d n m imm).can) := by
 have hs := shapes17
 simp [shpAV, shp, z_bt, ofc] at hs
 have hc := z_ax 17 (by omega) d n m imm
 simp only [shp, maxD, maxN, maxM, hasD, hasN, hasM] at hc
 generalize hb : (InsM.mk 17 d n m imm).can = b
 rw [show (InsM.mk (17 : Nat) d n m imm).can = b from hb] at hc
 repeat' (first
  | (simp -implicitDefEqProofs +contextual (disch := omega) [z_af.spec, z_af, InsAV, hs, z_al, z_af.l0, z_b5, z_b6, z_b2, z_b3, z_b4, z_b7])
  | (refine z_as (fun h => ?_) (fun h => ?_)))
 all_goals (cases b <;> simp_all <;> omega)
theorem put17 (d n m imm : Int) (hc : (InsM.mk 17 d n m imm).can = true) : z_ag.spec [InsAV ⟨17, d, n, m, imm⟩] = some (W16 (BitVec.ofNat 16 (putN ⟨17, d, n, m, imm⟩))) := by
 have hs := shapes17
 simp [shpAV, shp, z_bt, ofc] at hs
 rw [show ∀ a b c d : Int, (InsM.mk 17 a b c d).can = true ↔ _ from fun a b c d => z_ax 17 (by omega) a b c d] at hc
 simp [shp, maxD, maxN, maxM, hasD, hasN, hasM] at hc
 simp -implicitDefEqProofs +contextual (disch := try first | omega | ((repeat' (first | exact Hp.WF.empty | assumption | apply Hp.WF.push | apply Hp.WF.set)) <;> (simp only [Hp.next_set, Hp.next_push, z_cd] <;> omega))) [z_ag.spec, z_ag, InsAV, hs, z_d6, z_al, z_ag.l0, z_b5, z_b6, z_b2, z_b3, z_b4, z_b7, mask3, mask4, mask5, mask8, mask11]
 have e0 : 57344#16 ||| BitVec.ofInt 16 (imm % 2048) = BitVec.ofNat 16 (57344 + (imm % 2048).toNat) := orB0 (57344) imm 11 (by omega)
 rw [e0]
 simp [putN, putGo, shp, InsM.get]
theorem shapes18 : z_ab.spec [.int .i64 18] = some (shpAV 18) := by
 simp -implicitDefEqProofs +contextual (disch := omega) [z_ab.spec, z_ab, shpAV, shp, z_bt, ofc]
theorem can18 (d n m imm : Int) : z_af.spec [InsAV ⟨18, d, n, m, imm⟩] = some (.bool (InsM.mk 18 d n m imm).can) := by
 have hs := shapes18
 simp [shpAV, shp, z_bt, ofc] at hs
 have hc := z_ax 18 (by omega) d n m imm
 simp only [shp, maxD, maxN, maxM, hasD, hasN, hasM] at hc
 generalize hb : (InsM.mk 18 d n m imm).can = b
 rw [show (InsM.mk (18 : Nat) d n m imm).can = b from hb] at hc
 repeat' (first
  | (simp -implicitDefEqProofs +contextual (disch := omega) [z_af.spec, z_af, InsAV, hs, z_al, z_af.l0, z_b5, z_b6, z_b2, z_b3, z_b4, z_b7])
  | (refine z_as (fun h => ?_) (fun h => ?_)))
 all_goals (cases b <;> simp_all <;> omega)
theorem put18 (d n m imm : Int) (hc : (InsM.mk 18 d n m imm).can = true) : z_ag.spec [InsAV ⟨18, d, n, m, imm⟩] = some (W16 (BitVec.ofNat 16 (putN ⟨18, d, n, m, imm⟩))) := by
 have hs := shapes18
 simp [shpAV, shp, z_bt, ofc] at hs
 rw [show ∀ a b c d : Int, (InsM.mk 18 a b c d).can = true ↔ _ from fun a b c d => z_ax 18 (by omega) a b c d] at hc
 simp [shp, maxD, maxN, maxM, hasD, hasN, hasM] at hc
 simp -implicitDefEqProofs +contextual (disch := try first | omega | ((repeat' (first | exact Hp.WF.empty | assumption | apply Hp.WF.push | apply Hp.WF.set)) <;> (simp only [Hp.next_set, Hp.next_push, z_cd] <;> omega))) [z_ag.spec, z_ag, InsAV, hs, z_d6, z_al, z_ag.l0, z_b5, z_b6, z_b2, z_b3, z_b4, z_b7, mask3, mask4, mask5, mask8, mask11]
 have e0 : 53248#16 ||| BitVec.ofInt 16 (d % 16) <<< 8 = BitVec.ofNat 16 (53248 + (d % 16).toNat * 256) := orB (53248) d 8 4 (by omega)
 have e1 : BitVec.ofNat 16 (53248 + (d % 16).toNat * 256) ||| BitVec.ofInt 16 (imm % 256) = BitVec.ofNat 16 (53248 + (d % 16).toNat * 256 + (imm % 256).toNat) := orB0 (53248 + (d % 16).toNat * 256) imm 8 (by omega)
 rw [e0, e1]
 simp [putN, putGo, shp, InsM.get]
theorem shapes19 : z_ab.spec [.int .i64 19] = some (shpAV 19) := by
 simp -implicitDefEqProofs +contextual (disch := omega) [z_ab.spec, z_ab, shpAV, shp, z_bt, ofc]
theorem can19 (d n m imm : Int) : z_af.spec [InsAV ⟨19, d, n, m, imm⟩] = some (.bool (InsM.mk 19 d n m imm).can) := by
 have hs := shapes19
 simp [shpAV, shp, z_bt, ofc] at hs
 have hc := z_ax 19 (by omega) d n m imm
 simp only [shp, maxD, maxN, maxM, hasD, hasN, hasM] at hc
 generalize hb : (InsM.mk 19 d n m imm).can = b
 rw [show (InsM.mk (19 : Nat) d n m imm).can = b from hb] at hc
 repeat' (first
  | (simp -implicitDefEqProofs +contextual (disch := omega) [z_af.spec, z_af, InsAV, hs, z_al, z_af.l0, z_b5, z_b6, z_b2, z_b3, z_b4, z_b7])
  | (refine z_as (fun h => ?_) (fun h => ?_)))
 all_goals (cases b <;> simp_all <;> omega)
theorem put19 (d n m imm : Int) (hc : (InsM.mk 19 d n m imm).can = true) : z_ag.spec [InsAV ⟨19, d, n, m, imm⟩] = some (W16 (BitVec.ofNat 16 (putN ⟨19, d, n, m, imm⟩))) := by
 have hs := shapes19
 simp [shpAV, shp, z_bt, ofc] at hs
 rw [show ∀ a b c d : Int, (InsM.mk 19 a b c d).can = true ↔ _ from fun a b c d => z_ax 19 (by omega) a b c d] at hc
 simp [shp, maxD, maxN, maxM, hasD, hasN, hasM] at hc
 simp -implicitDefEqProofs +contextual (disch := try first | omega | ((repeat' (first | exact Hp.WF.empty | assumption | apply Hp.WF.push | apply Hp.WF.set)) <;> (simp only [Hp.next_set, Hp.next_push, z_cd] <;> omega))) [z_ag.spec, z_ag, InsAV, hs, z_d6, z_al, z_ag.l0, z_b5, z_b6, z_b2, z_b3, z_b4, z_b7, mask3, mask4, mask5, mask8, mask11]
 simp [putN, putGo, shp, InsM.get]
theorem shapes20 : z_ab.spec [.int .i64 20] = some (shpAV 20) := by
 simp -implicitDefEqProofs +contextual (disch := omega) [z_ab.spec, z_ab, shpAV, shp, z_bt, ofc]
theorem can20 (d n m imm : Int) : z_af.spec [InsAV ⟨20, d, n, m, imm⟩] = some (.bool (InsM.mk 20 d n m imm).can) := by
 have hs := shapes20
 simp [shpAV, shp, z_bt, ofc] at hs
 have hc := z_ax 20 (by omega) d n m imm
 simp only [shp, maxD, maxN, maxM, hasD, hasN, hasM] at hc
 generalize hb : (InsM.mk 20 d n m imm).can = b
 rw [show (InsM.mk (20 : Nat) d n m imm).can = b from hb] at hc
 repeat' (first
  | (simp -implicitDefEqProofs +contextual (disch := omega) [z_af.spec, z_af, InsAV, hs, z_al, z_af.l0, z_b5, z_b6, z_b2, z_b3, z_b4, z_b7])
  | (refine z_as (fun h => ?_) (fun h => ?_)))
 all_goals (cases b <;> simp_all <;> omega)
theorem put20 (d n m imm : Int) (hc : (InsM.mk 20 d n m imm).can = true) : z_ag.spec [InsAV ⟨20, d, n, m, imm⟩] = some (W16 (BitVec.ofNat 16 (putN ⟨20, d, n, m, imm⟩))) := by
 have hs := shapes20
 simp [shpAV, shp, z_bt, ofc] at hs
 rw [show ∀ a b c d : Int, (InsM.mk 20 a b c d).can = true ↔ _ from fun a b c d => z_ax 20 (by omega) a b c d] at hc
 simp [shp, maxD, maxN, maxM, hasD, hasN, hasM] at hc
 simp -implicitDefEqProofs +contextual (disch := try first | omega | ((repeat' (first | exact Hp.WF.empty | assumption | apply Hp.WF.push | apply Hp.WF.set)) <;> (simp only [Hp.next_set, Hp.next_push, z_cd] <;> omega))) [z_ag.spec, z_ag, InsAV, hs, z_d6, z_al, z_ag.l0, z_b5, z_b6, z_b2, z_b3, z_b4, z_b7, mask3, mask4, mask5, mask8, mask11]
 have e0 : 48640#16 ||| BitVec.ofInt 16 (imm % 256) = BitVec.ofNat 16 (48640 + (imm % 256).toNat) := orB0 (48640) imm 8 (by omega)
 rw [e0]
 simp [putN, putGo, shp, InsM.get]
end Go.Abs
end
section
section
namespace Go.Abs
structure OpM where
 k : Int
 a : Int
 b : Int
 n : BitVec 32
deriving DecidableEq
structure CodeM where
 inN : Int
 ops : List OpM
 outs : List Int
deriving DecidableEq
def OpM.cells (o : OpM) : List AV := [.int .i64 o.k, .int .i64 o.a, .int .i64 o.b, W32 o.n]
def z_dw (l : List OpM) : List (List AV) := l.map OpM.cells
def CodeM.cells (c : CodeM) : List AV := [.int .i64 c.inN, .rsl 4 (z_dw c.ops), .rsl 1 (ints c.outs)]
@[simp] theorem z_fb (l : List OpM) : (z_dw l).length = l.length := by simp [z_dw]
theorem z_fg (l : List OpM) (k : Nat) (h : k < l.length) : (z_dw l)[k]? = some l[k].cells := by simp [z_dw, h]
def z_a3 (k : Int) : Int := if k = 1 ∨ k = 2 then 2 else if 3 ≤ k ∧ k ≤ 6 ∨ k = 8 then 1 else 0
def wireM (x wires : Int) (is : Bool) : Bool := if is then decide (0 ≤ x) && decide (x < wires) else decide (x = 0)
def z_gi (o : OpM) : Bool := if o.k = 7 then true else if o.k = 4 ∨ o.k = 5 ∨ o.k = 6 then decide (o.n.toNat < 32) else decide (o.n = 0#32)
def OpM.ok (o : OpM) (wires : Int) : Bool :=
 decide (0 ≤ o.k) && decide (o.k < 9) && z_gi o && wireM o.a wires (decide (0 < z_a3 o.k)) && wireM o.b wires (decide (1 < z_a3 o.k))
def opsOk : List OpM → Int → Bool
 | [], _ => true
 | o :: l, w => o.ok w && opsOk l (w + 1)
def CodeM.can (c : CodeM) : Bool :=
 decide (0 ≤ c.inN) && decide (c.inN ≤ 4000) && decide (c.ops.length ≤ 60000) && opsOk c.ops c.inN && c.outs.all (fun x => decide (0 ≤ x) && decide (x < c.inN + c.ops.length))
def CodeM.randoms (c : CodeM) : Nat := (c.ops.filter fun o => decide (o.k = 0)).length
def rotM (a n : BitVec 32) : BitVec 32 := a.rotateLeft (n.toNat % 32)
def stepW (o : OpM) (a b : BitVec 32) : BitVec 32 :=
 if o.k = 1 then a &&& b else if o.k = 2 then a ^^^ b else if o.k = 3 then ~~~ a else if o.k = 4 then a <<< o.n.toNat else if o.k = 5 then a >>> o.n.toNat
 else if o.k = 6 then rotM a o.n else if o.k = 7 then o.n else a
def z_cs : List OpM → List (BitVec 32) → List (BitVec 32) → List (BitVec 32)
 | [], w, _ => w
 | o :: l, w, t =>
  if o.k = 0 then z_cs l (w ++ [at0 t 0]) t.tail
  else z_cs l (w ++ [stepW o (if 0 < z_a3 o.k then at0 w o.a.toNat else 0#32) (if 1 < z_a3 o.k then at0 w o.b.toNat else 0#32)]) t
def padM (l : List (BitVec 32)) (n : Nat) : List (BitVec 32) := (List.range n).map fun i => at0 l i
def CodeM.exec (c : CodeM) (inp tape : List (BitVec 32)) : List (BitVec 32) × Bool :=
 if c.can = true ∧ c.randoms ≤ tape.length then (z_cs c.ops (padM inp c.inN.toNat) tape, true) else ([], false)
theorem z_e9 : ∀ (l : List OpM) (w t : List (BitVec 32)), (z_cs l w t).length = w.length + l.length
 | [], w, t => by simp [z_cs]
 | o :: l, w, t => by
  unfold z_cs
  split <;> rw [z_e9] <;> simp <;> omega
theorem z_gg : ∀ (l l' : List OpM) (w t : List (BitVec 32)), z_cs (l ++ l') w t = z_cs l' (z_cs l w t) (t.drop (l.filter fun o => decide (o.k = 0)).length)
 | [], l', w, t => by simp [z_cs]
 | o :: l, l', w, t => by
  rw [List.cons_append]
  by_cases h : o.k = 0
  ·rw [z_cs, z_cs, if_pos h, if_pos h, z_gg]
   simp [h, Nat.add_comm]
  ·rw [z_cs, z_cs, if_neg h, if_neg h, z_gg]
   simp [h]
end Go.Abs
end
section
end
section
namespace Go.Abs
def xorL (l : List (BitVec 32)) : BitVec 32 := l.foldl (· ^^^ ·) 0#32
structure AskM where
 c : CodeM
 secrets : Nat
 d : Nat
namespace AskM
variable (q : AskM)
end AskM
end Go.Abs
end
section
namespace Go.Abs
namespace AskM
variable (q : AskM)
end AskM
end Go.Abs
end
section
namespace Go.Abs
structure GadS where
 ops : List OpM
 outs : List Int
def gadIn (and : Bool) (d : Nat) : Nat := if and then 2 * (d + 1) else d + 1
def outN (s : GadS) (i : Nat) : Nat := (ati s.outs i).toNat
@[simp] theorem xorL_nil : xorL [] = 0#32 := rfl
end Go.Abs
end
section
namespace Go.Abs
structure GadOk (and : Bool) (d : Nat) (w0 t : List (BitVec 32)) (s : GadS) (E : BitVec 32) : Prop where
 len : s.outs.length = d + 1
 lt : ∀ k, k < d + 1 → 0 ≤ ati s.outs k ∧ outN s k < gadIn and d + s.ops.length
 sum : xorL ((List.range (d + 1)).map fun k => at0 (z_cs s.ops w0 t) (outN s k)) = E
end Go.Abs
end
section
end
end
section
section
namespace Go.Abs
theorem z_uz (k : Int) : z_bg.spec [.int .i64 k] = some (.int .i64 (z_a3 k)) := by
 by_cases h1 : k = 1
 ·subst h1; simp -implicitDefEqProofs +contextual (disch := omega) [z_bg.spec, z_bg, z_a3]
 by_cases h2 : k = 2
 ·subst h2; simp -implicitDefEqProofs +contextual (disch := omega) [z_bg.spec, z_bg, z_a3]
 by_cases h3 : k = 3
 ·subst h3; simp -implicitDefEqProofs +contextual (disch := omega) [z_bg.spec, z_bg, z_a3]
 by_cases h4 : k = 4
 ·subst h4; simp -implicitDefEqProofs +contextual (disch := omega) [z_bg.spec, z_bg, z_a3]
 by_cases h5 : k = 5
 ·subst h5; simp -implicitDefEqProofs +contextual (disch := omega) [z_bg.spec, z_bg, z_a3]
 by_cases h6 : k = 6
 ·subst h6; simp -implicitDefEqProofs +contextual (disch := omega) [z_bg.spec, z_bg, z_a3]
 by_cases h8 : k = 8
 ·subst h8; simp -implicitDefEqProofs +contextual (disch := omega) [z_bg.spec, z_bg, z_a3]
 have e : z_a3 k = 0 := by
  unfold z_a3
  rw [if_neg (by omega), if_neg (by omega)]
 rw [e]
 simp -implicitDefEqProofs +contextual (disch := omega) [z_bg.spec, z_bg, h1, h2, h3, h4, h5, h6, h8]
theorem z_s3 (o : OpM) : z_bi.spec [.agg o.cells] = some (.bool (z_gi o)) := by
 obtain ⟨k, a, b, n⟩ := o
 unfold OpM.cells z_gi
 dsimp only
 by_cases h7 : k = 7
 ·subst h7; simp -implicitDefEqProofs +contextual (disch := omega) [z_bi.spec, z_bi]
 by_cases h4 : k = 4
 ·subst h4; simp -implicitDefEqProofs +contextual (disch := omega) [z_bi.spec, z_bi, BitVec.lt_def]
 by_cases h5 : k = 5
 ·subst h5; simp -implicitDefEqProofs +contextual (disch := omega) [z_bi.spec, z_bi, BitVec.lt_def]
 by_cases h6 : k = 6
 ·subst h6; simp -implicitDefEqProofs +contextual (disch := omega) [z_bi.spec, z_bi, BitVec.lt_def]
 simp -implicitDefEqProofs +contextual (disch := omega) [z_bi.spec, z_bi, h4, h5, h6, h7]
 rfl
theorem z_lj (x w : Int) (b : Bool) : z_ck.spec [.int .i64 x, .int .i64 w, .bool b] = some (.bool (wireM x w b)) := by
 unfold wireM
 cases b with
 | true =>
  by_cases h : 0 ≤ x
  ·simp -implicitDefEqProofs +contextual (disch := omega) [z_ck.spec, z_ck, h]
  ·simp -implicitDefEqProofs +contextual (disch := omega) [z_ck.spec, z_ck, h]
 | false =>
  simp -implicitDefEqProofs +contextual (disch := omega) [z_ck.spec, z_ck]
  rfl
def z_bp (c : CodeM) : Blk := ⟨T.ty_api_Code, 3, true, [c.cells]⟩
theorem z_k7 (o : OpM) (l : List OpM) (w : Int) : opsOk (o :: l) w = (o.ok w && opsOk l (w + 1)) := rfl
def canFr (c : CodeM) (k : Nat) (x : List (Nat × AV)) : AFr := AFr.al ([(1, .ptr 0 3 0 0), (23, .rsl 4 (z_dw c.ops)), (24, .int .i64 c.ops.length), (25, .int .i64 k)] ++ x)
theorem z_we (c : CodeM) (hl : c.ops.length ≤ 60000) (hin : 0 ≤ c.inN ∧ c.inN ≤ 4000) : ∀ (d k : Nat) (X : Hp) (x : List (Nat × AV)), k + d = c.ops.length → X.WF → X.get 0 = some (z_bp c) →
  ∃ fr' X', aloop (z_b1.l0 z_bg.spec z_bi.spec z_ck.spec) (canFr c k x) X = some (if opsOk (c.ops.drop k) (c.inN + k) = true then .exit 0 else .ret, fr', X') ∧
   (opsOk (c.ops.drop k) (c.inN + k) = true → fr' 1 = .ptr 0 3 0 0) ∧ (opsOk (c.ops.drop k) (c.inN + k) = false → fr' 2 = .bool false) ∧ X'.WF ∧ X'.get 0 = some (z_bp c) := by
 intro d
 induction d with
 | zero =>
  intro k X x h hw hg
  obtain rfl : k = c.ops.length := by omega
  rw [List.drop_length]
  refine ⟨_, _, z_ce (by simp [opsOk]) (by simp -implicitDefEqProofs +contextual (disch := omega) [z_b1.l0, canFr, opsOk]; exact rfl), ?_, ?_, hw, hg⟩
  ·intro _; simp
  ·intro q; simp [opsOk] at q
 | succ d ih =>
  intro k X x h hw hg
  have hk : k < c.ops.length := by omega
  have hk' : (k : Int) < c.ops.length := by omega
  have hk1 : ((k + 1 : Nat) : Int) = (k : Int) + 1 := by omega
  have hrow := z_fg c.ops k hk
  have hdr : c.ops.drop k = c.ops[k] :: c.ops.drop (k + 1) := List.drop_eq_getElem_cons hk
  have hne := hw _ _ hg
  rw [hdr, z_k7]
  have hT := z_uz c.ops[k].k
  have hN := z_s3 c.ops[k]
  have hW := z_lj
  generalize c.ops[k] = o at *
  obtain ⟨ok, oa, ob, on⟩ := o
  simp only [OpM.cells] at hN hrow hT
  have hWa := z_lj oa (c.inN + k) (decide (0 < z_a3 ok))
  have hWb := z_lj ob (c.inN + k) (decide (1 < z_a3 ok))
  have hok : OpM.ok ⟨ok, oa, ob, on⟩ (c.inN + k) = (decide (0 ≤ ok) && decide (ok < 9) && z_gi ⟨ok, oa, ob, on⟩ && wireM oa (c.inN + k) (decide (0 < z_a3 ok)) && wireM ob (c.inN + k) (decide (1 < z_a3 ok))) := rfl
  rw [hok]
  generalize z_gi ⟨ok, oa, ob, on⟩ = nb at *
  generalize wireM oa (c.inN + k) (decide (0 < z_a3 ok)) = wa at *
  generalize wireM ob (c.inN + k) (decide (1 < z_a3 ok)) = wb at *
  have hcb : z_bp c = ⟨T.ty_api_Code, 3, true, [[.int .i64 c.inN, .rsl 4 (z_dw c.ops), .rsl 1 (ints c.outs)]]⟩ := rfl
  have e0 : c.inN + (k : Int) + 1 = c.inN + ((k + 1 : Nat) : Int) := by omega
  by_cases g1 : 0 ≤ ok
  ·have g1' : ¬ ok < 0 := by omega
   by_cases g2 : ok < 9
   ·have g2' : ¬ 9 ≤ ok := by omega
    cases nb with
    | true =>
     cases wa with
     | true =>
      cases wb with
      | true =>
       have st : ∃ X1 y, z_b1.l0 z_bg.spec z_bi.spec z_ck.spec (canFr c k x) X = some (.normal, canFr c (k + 1) y, X1) ∧ X1.WF ∧ X1.get 0 = some (z_bp c) := by
        refine ⟨?_, ?_, ?_, ?_, ?_⟩
        rotate_left; rotate_left
        ·simp -implicitDefEqProofs +contextual (disch := try first | omega | assumption) [z_b1.l0, canFr, hg, hcb, hrow, hk', hk1, hT, hN, hWa, hWb, g1', g2']
         constructor <;> rfl
        ·(repeat' (first | assumption | with_reducible apply Hp.WF.push | with_reducible apply Hp.WF.set)) <;> (simp <;> omega)
        ·simp (disch := omega) [hg]
       obtain ⟨X1, y, s1, s2, s3⟩ := st
       obtain ⟨fr', X', p1, p2, p3, p4, p5⟩ := ih (k + 1) X1 y (by omega) s2 s3
       simp only [decide_eq_true g1, decide_eq_true g2, Bool.true_and, e0]
       exact ⟨fr', X', (z_dk s1).trans p1, p2, p3, p4, p5⟩
      | false =>
       have st : ∃ fr1 X1, z_b1.l0 z_bg.spec z_bi.spec z_ck.spec (canFr c k x) X = some (.ret, fr1, X1) ∧ fr1 2 = .bool false ∧ X1.WF ∧ X1.get 0 = some (z_bp c) := by
        refine ⟨?_, ?_, ?_, ?_, ?_, ?_⟩
        rotate_left; rotate_left
        ·simp -implicitDefEqProofs +contextual (disch := try first | omega | assumption) [z_b1.l0, canFr, hg, hcb, hrow, hk', hk1, hT, hN, hWa, hWb, g1', g2', g1, g2]
         constructor <;> rfl
        ·simp
        ·(repeat' (first | assumption | with_reducible apply Hp.WF.push | with_reducible apply Hp.WF.set)) <;> (simp <;> omega)
        ·simp (disch := omega) [hg]
       obtain ⟨fr1, X1, s1, s2, s3, s4⟩ := st
       exact ⟨fr1, X1, by rw [z_ce (by simp) s1]; simp [g1', g2', g1, g2], by simp [g1', g2', g1, g2], fun _ => s2, s3, s4⟩
     | false =>
      have st : ∃ fr1 X1, z_b1.l0 z_bg.spec z_bi.spec z_ck.spec (canFr c k x) X = some (.ret, fr1, X1) ∧ fr1 2 = .bool false ∧ X1.WF ∧ X1.get 0 = some (z_bp c) := by
       refine ⟨?_, ?_, ?_, ?_, ?_, ?_⟩
       rotate_left; rotate_left
       ·simp -implicitDefEqProofs +contextual (disch := try first | omega | assumption) [z_b1.l0, canFr, hg, hcb, hrow, hk', hk1, hT, hN, hWa, hWb, g1', g2', g1, g2]
        constructor <;> rfl
       ·simp
       ·(repeat' (first | assumption | with_reducible apply Hp.WF.push | with_reducible apply Hp.WF.set)) <;> (simp <;> omega)
       ·simp (disch := omega) [hg]
      obtain ⟨fr1, X1, s1, s2, s3, s4⟩ := st
      exact ⟨fr1, X1, by rw [z_ce (by simp) s1]; simp [g1', g2', g1, g2], by simp [g1', g2', g1, g2], fun _ => s2, s3, s4⟩
    | false =>
     have st : ∃ fr1 X1, z_b1.l0 z_bg.spec z_bi.spec z_ck.spec (canFr c k x) X = some (.ret, fr1, X1) ∧ fr1 2 = .bool false ∧ X1.WF ∧ X1.get 0 = some (z_bp c) := by
      refine ⟨?_, ?_, ?_, ?_, ?_, ?_⟩
      rotate_left; rotate_left
      ·simp -implicitDefEqProofs +contextual (disch := try first | omega | assumption) [z_b1.l0, canFr, hg, hcb, hrow, hk', hk1, hT, hN, hWa, hWb, g1', g2', g1, g2]
       constructor <;> rfl
      ·simp
      ·(repeat' (first | assumption | with_reducible apply Hp.WF.push | with_reducible apply Hp.WF.set)) <;> (simp <;> omega)
      ·simp (disch := omega) [hg]
     obtain ⟨fr1, X1, s1, s2, s3, s4⟩ := st
     exact ⟨fr1, X1, by rw [z_ce (by simp) s1]; simp [g1', g2', g1, g2], by simp [g1', g2', g1, g2], fun _ => s2, s3, s4⟩
   ·have g2' : 9 ≤ ok := by omega
    have st : ∃ fr1 X1, z_b1.l0 z_bg.spec z_bi.spec z_ck.spec (canFr c k x) X = some (.ret, fr1, X1) ∧ fr1 2 = .bool false ∧ X1.WF ∧ X1.get 0 = some (z_bp c) := by
     refine ⟨?_, ?_, ?_, ?_, ?_, ?_⟩
     rotate_left; rotate_left
     ·simp -implicitDefEqProofs +contextual (disch := try first | omega | assumption) [z_b1.l0, canFr, hg, hcb, hrow, hk', hk1, hT, hN, hWa, hWb, g1', g2', g1, g2]
      constructor <;> rfl
     ·simp
     ·(repeat' (first | assumption | with_reducible apply Hp.WF.push | with_reducible apply Hp.WF.set)) <;> (simp <;> omega)
     ·simp (disch := omega) [hg]
    obtain ⟨fr1, X1, s1, s2, s3, s4⟩ := st
    exact ⟨fr1, X1, by rw [z_ce (by simp) s1]; simp [g1', g2', g1, g2], by simp [g1', g2', g1, g2], fun _ => s2, s3, s4⟩
  ·have g1' : ok < 0 := by omega
   have st : ∃ fr1 X1, z_b1.l0 z_bg.spec z_bi.spec z_ck.spec (canFr c k x) X = some (.ret, fr1, X1) ∧ fr1 2 = .bool false ∧ X1.WF ∧ X1.get 0 = some (z_bp c) := by
    refine ⟨?_, ?_, ?_, ?_, ?_, ?_⟩
    rotate_left; rotate_left
    ·simp -implicitDefEqProofs +contextual (disch := try first | omega | assumption) [z_b1.l0, canFr, hg, hcb, hrow, hk', hk1, hT, hN, hWa, hWb, g1', g1]
     constructor <;> rfl
    ·simp
    ·(repeat' (first | assumption | with_reducible apply Hp.WF.push | with_reducible apply Hp.WF.set)) <;> (simp <;> omega)
    ·simp (disch := omega) [hg]
   obtain ⟨fr1, X1, s1, s2, s3, s4⟩ := st
   exact ⟨fr1, X1, by rw [z_ce (by simp) s1]; simp [g1', g1], by simp [g1', g1], fun _ => s2, s3, s4⟩
theorem z_tb (l : List Int) (k : Nat) (h : k < l.length) : (ints l)[k]? = some [.int .i64 l[k]] := by simp [ints, h]
theorem z_s1 (c : CodeM) (hl : c.ops.length ≤ 60000) (hin : 0 ≤ c.inN ∧ c.inN ≤ 4000) (hb : c.outs.length ≤ 1000000000) (X : Hp) (hg : X.get 0 = some (z_bp c)) : ∀ (d k : Nat) (x : List (Nat × AV)), k + d = c.outs.length →
  ∃ fr', aloop (z_b1.l1 z_bg.spec z_bi.spec z_ck.spec) (AFr.al ([(1, .ptr 0 3 0 0), (72, .rsl 1 (ints c.outs)), (73, .int .i64 c.outs.length), (74, .int .i64 k)] ++ x)) X =
    some (if (c.outs.drop k).all (fun x => decide (0 ≤ x) && decide (x < c.inN + c.ops.length)) = true then .exit 2 else .ret, fr', X) ∧
   ((c.outs.drop k).all (fun x => decide (0 ≤ x) && decide (x < c.inN + c.ops.length)) = false → fr' 2 = .bool false) := by
 intro d
 induction d with
 | zero =>
  intro k x h
  obtain rfl : k = c.outs.length := by omega
  rw [List.drop_length]
  refine ⟨_, z_ce (by simp) (by simp -implicitDefEqProofs +contextual (disch := omega) [z_b1.l1]; exact rfl), ?_⟩
  intro q; simp at q
 | succ d ih =>
  intro k x h
  have hk : k < c.outs.length := by omega
  have hk' : (k : Int) < c.outs.length := by omega
  have hk1 : ((k + 1 : Nat) : Int) = (k : Int) + 1 := by omega
  have hrow := z_tb c.outs k hk
  have hdr : c.outs.drop k = c.outs[k] :: c.outs.drop (k + 1) := List.drop_eq_getElem_cons hk
  rw [hdr, List.all_cons]
  generalize c.outs[k] = o at *
  have hW := z_lj o (c.inN + c.ops.length) true
  have hwo : wireM o (c.inN + c.ops.length) true = (decide (0 ≤ o) && decide (o < c.inN + c.ops.length)) := by simp [wireM]
  rw [← hwo]
  have hcb : z_bp c = ⟨T.ty_api_Code, 3, true, [[.int .i64 c.inN, .rsl 4 (z_dw c.ops), .rsl 1 (ints c.outs)]]⟩ := rfl
  cases hv : wireM o (c.inN + c.ops.length) true with
  | true =>
   rw [hv] at hW
   have st : ∃ y, z_b1.l1 z_bg.spec z_bi.spec z_ck.spec (AFr.al ([(1, .ptr 0 3 0 0), (72, .rsl 1 (ints c.outs)), (73, .int .i64 c.outs.length), (74, .int .i64 k)] ++ x)) X =
     some (.normal, AFr.al ([(1, .ptr 0 3 0 0), (72, .rsl 1 (ints c.outs)), (73, .int .i64 c.outs.length), (74, .int .i64 (k + 1 : Nat))] ++ y), X) := by
    refine ⟨?_, ?_⟩
    rotate_left
    ·simp -implicitDefEqProofs +contextual (disch := try first | omega | assumption) [z_b1.l1, hg, hcb, hrow, hk', hk1, hW]
     rfl
   obtain ⟨y, s1⟩ := st
   obtain ⟨fr', p1, p2⟩ := ih (k + 1) y (by omega)
   simp only [Bool.true_and]
   exact ⟨fr', (z_dk s1).trans p1, p2⟩
  | false =>
   rw [hv] at hW
   have st : ∃ fr1, z_b1.l1 z_bg.spec z_bi.spec z_ck.spec (AFr.al ([(1, .ptr 0 3 0 0), (72, .rsl 1 (ints c.outs)), (73, .int .i64 c.outs.length), (74, .int .i64 k)] ++ x)) X = some (.ret, fr1, X) ∧ fr1 2 = .bool false := by
    refine ⟨?_, ?_, ?_⟩
    rotate_left
    ·simp -implicitDefEqProofs +contextual (disch := try first | omega | assumption) [z_b1.l1, hg, hcb, hrow, hk', hk1, hW]
     rfl
    ·simp
   obtain ⟨fr1, s1, s2⟩ := st
   exact ⟨fr1, by rw [z_ce (by simp) s1]; simp, fun _ => s2⟩
theorem can_of (c : CodeM) (hl : c.ops.length ≤ 60000) (hin : 0 ≤ c.inN ∧ c.inN ≤ 4000) {X : Hp} {r} (hr : aloop (z_b1.l0 z_bg.spec z_bi.spec z_ck.spec) (AFr.al [(1, .ptr 0 3 0 0), (23, .rsl 4 (z_dw c.ops)), (24, .int .i64 c.ops.length), (25, .int .i64 0)]) X = r) (hw : X.WF) (hg : X.get 0 = some (z_bp c)) :
  ∃ fr' X', r = some (if opsOk c.ops c.inN = true then .exit 0 else .ret, fr', X') ∧ (opsOk c.ops c.inN = true → fr' 1 = .ptr 0 3 0 0) ∧ (opsOk c.ops c.inN = false → fr' 2 = .bool false) ∧ X'.WF ∧ X'.get 0 = some (z_bp c) := by
 obtain ⟨fr', X', p1, p2⟩ := z_we c hl hin c.ops.length 0 X [] (by omega) hw hg
 simp only [List.drop_zero, Int.natCast_zero, Int.add_zero] at p1 p2
 exact ⟨fr', X', hr.symm.trans p1, p2⟩
theorem z_yi (c : CodeM) (hl : c.ops.length ≤ 60000) (hin : 0 ≤ c.inN ∧ c.inN ≤ 4000) (hb : c.outs.length ≤ 1000000000) {X : Hp} {r} (hr : aloop (z_b1.l1 z_bg.spec z_bi.spec z_ck.spec) (AFr.al [(1, .ptr 0 3 0 0), (72, .rsl 1 (ints c.outs)), (73, .int .i64 c.outs.length), (74, .int .i64 0)]) X = r) (hg : X.get 0 = some (z_bp c)) :
  ∃ fr', r = some (if c.outs.all (fun x => decide (0 ≤ x) && decide (x < c.inN + c.ops.length)) = true then .exit 2 else .ret, fr', X) ∧ (c.outs.all (fun x => decide (0 ≤ x) && decide (x < c.inN + c.ops.length)) = false → fr' 2 = .bool false) := by
 obtain ⟨fr', p1, p2⟩ := z_s1 c hl hin hb X hg c.outs.length 0 [] (by omega)
 simp only [List.drop_zero] at p1 p2
 exact ⟨fr', hr.symm.trans p1, p2⟩
theorem z_yu (c : CodeM) (hb : c.outs.length ≤ 1000000000) (hb2 : c.ops.length ≤ 1000000000) : z_b1.spec [.agg c.cells] = some (.bool c.can) := by
 have hcb : z_bp c = ⟨T.ty_api_Code, 3, true, [[.int .i64 c.inN, .rsl 4 (z_dw c.ops), .rsl 1 (ints c.outs)]]⟩ := rfl
 unfold CodeM.cells CodeM.can
 by_cases h1 : 0 ≤ c.inN
 ·have h1' : ¬ c.inN < 0 := by omega
  by_cases h2 : c.inN ≤ 4000
  ·have h2' : ¬ 4000 < c.inN := by omega
   by_cases h3 : c.ops.length ≤ 60000
   ·have h3' : ¬ (60000 : Int) < c.ops.length := by omega
    simp -implicitDefEqProofs +contextual (disch := omega) [z_b1.spec, z_b1, h1', h2', h3']
    generalize hr : aloop _ _ _ = r
    obtain ⟨fr', X', rfl, p2, p3, p4, p5⟩ := can_of c h3 ⟨h1, h2⟩ hr (by (repeat' (first | assumption | with_reducible apply Hp.WF.push | with_reducible apply Hp.WF.set | exact Hp.WF.empty)) <;> (simp <;> omega)) (by simp [hcb])
    cases hv : opsOk c.ops c.inN with
    | true =>
     have p2 := p2 hv
     rw [hcb] at p5
     simp -implicitDefEqProofs +contextual (disch := omega) [p2, p5]
     generalize hr2 : aloop _ _ _ = r2
     obtain ⟨fr2, rfl, q2⟩ := z_yi c h3 ⟨h1, h2⟩ hb hr2 (by rw [hcb]; exact p5)
     cases hv2 : c.outs.all (fun x => decide (0 ≤ x) && decide (x < c.inN + c.ops.length)) with
     | true => simp -implicitDefEqProofs +contextual (disch := omega) [h1, h2, h3]
     | false => simp -implicitDefEqProofs +contextual (disch := omega) [h1, h2, h3, q2 hv2]
    | false => simp -implicitDefEqProofs +contextual (disch := omega) [h1, h2, h3, p3 hv]
   ·have h3' : (60000 : Int) < c.ops.length := by omega
    simp -implicitDefEqProofs +contextual (disch := omega) [z_b1.spec, z_b1, h1', h2', h3', h3]
  ·have h2' : 4000 < c.inN := by omega
   simp -implicitDefEqProofs +contextual (disch := omega) [z_b1.spec, z_b1, h1', h2', h2]
 ·have h1' : c.inN < 0 := by omega
  simp -implicitDefEqProofs +contextual (disch := omega) [z_b1.spec, z_b1, h1', h1]
end Go.Abs
end
section
namespace Go.Abs
def rndL (l : List OpM) : Nat := (l.filter fun o => decide (o.k = 0)).length
theorem z_oq (l : List OpM) : rndL l ≤ l.length := List.length_filter_le _ _
theorem Can_eq' (c : CodeM) (hb : c.outs.length ≤ 1000000000) (hb2 : c.ops.length ≤ 1000000000) : z_d7.spec [.agg c.cells] = some (.bool c.can) := by
 have h := z_yu c hb hb2
 unfold CodeM.cells at h ⊢
 simp -implicitDefEqProofs +contextual (disch := omega) [z_d7.spec, z_d7, h]
end Go.Abs
end
section
end
section
namespace Go.Abs
def wBlk (w : List (BitVec 32)) : Blk := ⟨T.ty_uint32, 1, true, w32s w⟩
theorem z_on (o : OpM) (l : List OpM) (w t : List (BitVec 32)) : z_cs (o :: l) w t =
  z_cs l (w ++ [if o.k = 0 then at0 t 0 else stepW o (if 0 < z_a3 o.k then at0 w o.a.toNat else 0#32) (if 1 < z_a3 o.k then at0 w o.b.toNat else 0#32)]) (if o.k = 0 then t.tail else t) := by
 by_cases h : o.k = 0
 ·rw [z_cs, if_pos h, if_pos h, if_pos h]
 ·rw [z_cs, if_neg h, if_neg h, if_neg h]
end Go.Abs
end
section
end
section
end
end

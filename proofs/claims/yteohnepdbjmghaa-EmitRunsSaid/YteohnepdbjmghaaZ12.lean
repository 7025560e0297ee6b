/-
  Instructions and their halfwords: which instruction a halfword is. Printed by gent2.py.
-/
import Derived.Test.YteohnepdbjmghaaZ9
import Derived.Test.YteohnepdbjmghaaZ5
import Derived.Test.YteohnepdbjmghaaZ11
import Derived.Test.YteohnepdbjmghaaZ4
import Derived.KernelRfl
import Derived.Test.YteohnepdbjmghaaZ6
import Derived.Test.YteohnepdbjmghaaZ8
set_option linter.unusedSimpArgs false
set_option linter.unusedVariables false
set_option maxHeartbeats 20000000
set_option maxRecDepth 100000
section
section
namespace Go.Abs
open Th
def z_ed (i : InsM) : List AV := [.int .i64 i.op, .int .i64 i.d, .int .i64 i.n, .int .i64 i.m, .int .i64 i.imm]
def z_a4 (l : List InsM) : List (List AV) := l.map z_ed
@[simp] theorem z_fz (l : List InsM) : (z_a4 l).length = l.length := by simp [z_a4]
theorem z_kk (a b : List InsM) : z_a4 a ++ z_a4 b = z_a4 (a ++ b) := by simp [z_a4]
theorem z_j3 (l : List InsM) (k : Nat) (h : k < l.length) : (z_a4 l)[k]? = some (z_ed l[k]) := by simp [z_a4, h]
theorem z_ds (l : List InsM) : (z_a4 l).take l.length = z_a4 l := List.take_of_length_le (by simp)
def mvI (d n : Int) : InsM := ⟨0, d, 0, 0, n⟩
def lfI (d n : Int) : InsM := ⟨4, d, 0, d, n⟩
def adI (d n : Int) : InsM := ⟨2, d, 0, 0, n⟩
def alI (op d m : Int) : InsM := ⟨11, d, 0, m, op⟩
theorem z_hh (d n : Int) : z_cp.spec [.int .i64 d, .int .i64 n] = some (.agg [.int .i64 0, .int .i64 d, .int .i64 0, .int .i64 0, .int .i64 n]) := by simp -implicitDefEqProofs +contextual (disch := omega) [z_cp.spec, z_cp]
theorem z_ij (d n : Int) : z_cl.spec [.int .i64 d, .int .i64 n] = some (.agg [.int .i64 4, .int .i64 d, .int .i64 0, .int .i64 d, .int .i64 n]) := by simp -implicitDefEqProofs +contextual (disch := omega) [z_cl.spec, z_cl]
theorem z_tp (d n : Int) : z_dm.spec [.int .i64 d, .int .i64 n] = some (.agg [.int .i64 2, .int .i64 d, .int .i64 0, .int .i64 0, .int .i64 n]) := by simp -implicitDefEqProofs +contextual (disch := omega) [z_dm.spec, z_dm]
theorem z_l8 (op d m : Int) : z_ea.spec [.int .i64 op, .int .i64 d, .int .i64 m] = some (.agg [.int .i64 11, .int .i64 d, .int .i64 0, .int .i64 m, .int .i64 op]) := by simp -implicitDefEqProofs +contextual (disch := omega) [z_ea.spec, z_ea]
def atI (n : Nat) : List InsM := if 4 * n < 256 then [mvI 6 (4 * n : Nat)] else [mvI 6 (4 * n / 256 : Nat), lfI 6 8, adI 6 (4 * n % 256 : Nat)]
theorem z_ma (n : Nat) : 1 ≤ (atI n).length ∧ (atI n).length ≤ 3 := by unfold atI; split <;> simp
theorem z_ns (n : Nat) (h : n ≤ 16000) (H : Hp) : z_ch.spec [.int .i64 n] H = some (.sl H.next 5 0 (atI n).length, H.push ⟨T.ty_api_Ins, 5, true, z_a4 (atI n)⟩) := by
 unfold atI
 have h4 : (n : Int) * 4 = ((4 * n : Nat) : Int) := by omega
 generalize hm : 4 * n = m at *
 by_cases hs : m < 256
 ·rw [if_pos hs]
  have hs' : (m : Int) < 256 := by omega
  simp -implicitDefEqProofs +contextual (disch := omega) [z_ch.spec, z_ch, h4, hs', z_hh, z_a4, z_ed, mvI]
 ·rw [if_neg hs]
  have hs' : ¬ (m : Int) < 256 := by omega
  have hd : ((m / 256 : Nat) : Int) = (m : Int) / 256 := by omega
  have hr : ((m % 256 : Nat) : Int) = (m : Int) % 256 := by omega
  simp -implicitDefEqProofs +contextual (disch := omega) [z_ch.spec, z_ch, h4, hs', z_hh, z_ij, z_tp, z_a4, z_ed, mvI, lfI, adI, hd, hr]
def getI (r : Int) (n : Nat) : List InsM := atI n ++ [⟨14, r, 7, 6, 0⟩]
def putI (n : Nat) : List InsM := atI n ++ [⟨15, 0, 7, 6, 0⟩]
theorem z_tg (r : Int) (n : Nat) (h : n ≤ 16000) : z_d9.spec [.int .i64 r, .int .i64 n] = some (.rsl 5 (z_a4 (getI r n))) := by
 have hA := z_ns n h
 obtain ⟨l1, l3⟩ := z_ma n
 have ht : (z_a4 (atI n) ++ [[AV.int .i64 14, .int .i64 r, .int .i64 7, .int .i64 6, .int .i64 0]]).take ((atI n).length + 1) = z_a4 (atI n) ++ [[AV.int .i64 14, .int .i64 r, .int .i64 7, .int .i64 6, .int .i64 0]] := List.take_of_length_le (by simp)
 have he : z_a4 (getI r n) = z_a4 (atI n) ++ [[AV.int .i64 14, .int .i64 r, .int .i64 7, .int .i64 6, .int .i64 0]] := by simp [getI, z_a4, z_ed]
 rw [he]
 generalize atI n = l at *
 simp -implicitDefEqProofs +contextual (disch := omega) [z_d9.spec, z_d9, hA, ht]
theorem z_zc (n : Nat) (h : n ≤ 16000) : z_d8.spec [.int .i64 n] = some (.rsl 5 (z_a4 (putI n))) := by
 have hA := z_ns n h
 obtain ⟨l1, l3⟩ := z_ma n
 have ht : (z_a4 (atI n) ++ [[AV.int .i64 15, .int .i64 0, .int .i64 7, .int .i64 6, .int .i64 0]]).take ((atI n).length + 1) = z_a4 (atI n) ++ [[AV.int .i64 15, .int .i64 0, .int .i64 7, .int .i64 6, .int .i64 0]] := List.take_of_length_le (by simp)
 have he : z_a4 (putI n) = z_a4 (atI n) ++ [[AV.int .i64 15, .int .i64 0, .int .i64 7, .int .i64 6, .int .i64 0]] := by simp [putI, z_a4, z_ed]
 rw [he]
 generalize atI n = l at *
 simp -implicitDefEqProofs +contextual (disch := omega) [z_d8.spec, z_d8, hA, ht]
def z_i5 : List InsM := [mvI 7 32, lfI 7 24, mvI 5 64, lfI 5 24]
theorem z_wi : z_da.spec [] = some (.rsl 5 (z_a4 z_i5)) := by
 simp -implicitDefEqProofs +contextual (disch := omega) [z_da.spec, z_da, z_hh, z_ij, z_i5, z_a4, z_ed, mvI, lfI]
theorem z_oh (n : Int) : z_cq.spec [.int .i64 n] = some (.bool (decide (0 ≤ n) && decide (n ≤ 16000))) := by
 by_cases h : 0 ≤ n
 ·by_cases h2 : n ≤ 16000 <;> simp -implicitDefEqProofs +contextual (disch := omega) [z_cq.spec, z_cq, h, h2]
 ·simp -implicitDefEqProofs +contextual (disch := omega) [z_cq.spec, z_cq, h]
end Go.Abs
end
section
namespace Go.Abs
open Th
def byteI (v : BitVec 32) (j : Nat) : Nat := ((v >>> (24 - 8 * j)) &&& 255#32).toNat
def z_du (v : BitVec 32) : Nat → List InsM
 | 0 => []
 | j + 1 => if z_du v j ≠ [] then z_du v j ++ [lfI 0 8, adI 0 (byteI v j)] else if 0 < byteI v j ∨ j = 3 then [mvI 0 (byteI v j)] else []
def z_j7 (v : BitVec 32) : List InsM := z_du v 4
theorem z_go (v : BitVec 32) : ∀ j, (z_du v j).length ≤ 2 * j
 | 0 => by simp [z_du]
 | j + 1 => by
  have := z_go v j
  unfold z_du
  repeat' split
  all_goals simp; try omega
def InsUp (H : Hp) (v : AV) (l : List InsM) : Prop := (l = [] ∧ v = .nils) ∨ (l ≠ [] ∧ ∃ ob, v = .sl ob 5 0 l.length ∧ H.get ob = some ⟨T.ty_api_Ins, 5, true, z_a4 l⟩)
noncomputable abbrev csL := z_br.l0 z_cl.spec z_dm.spec z_cp.spec
theorem z_q7 (v : BitVec 32) (H : Hp) (hw : H.WF) {r} (hr : aloop csL (AFr.al [(0, W32 v), (3, .nils), (4, .int .i64 24)]) H = r) :
  ∃ e fr' H', r = some (e, fr', H') ∧ (e = .exit 0 ∧ ∃ v3 y, fr' = AFr.al ([(0, W32 v), (3, v3)] ++ y) ∧ InsUp H' v3 (z_j7 v)) := by
 refine z_ee hr (z_cf 4 (fun j fr H => H.WF ∧ ∃ v3 y, fr = AFr.al ([(0, W32 v), (3, v3), (4, .int .i64 (24 - 8 * j : Int))] ++ y) ∧ InsUp H v3 (z_du v j)) _ (fun j hj fr H hR => ?_) (fun fr H hR => ?_) ⟨hw, .nils, [], rfl, .inl ⟨rfl, rfl⟩⟩)
 ·obtain ⟨hw, v3, y, rfl, hR⟩ := hR
  have hk : (0 : Int) ≤ 24 - 8 * j := by omega
  have hk2 : (24 - 8 * (j : Int)).toNat = 24 - 8 * j := by omega
  have hj1 : (24 - 8 * ((j + 1 : Nat) : Int)) = 24 - 8 * (j : Int) - 8 := by omega
  have hbl : byteI v j ≤ 255 := by
   unfold byteI
   rw [BitVec.toNat_and]
   exact Nat.and_le_right
  have hstep : z_du v (j + 1) = if z_du v j ≠ [] then z_du v j ++ [lfI 0 8, adI 0 (byteI v j)] else if 0 < byteI v j ∨ j = 3 then [mvI 0 (byteI v j)] else [] := rfl
  have hll := z_go v j
  rw [hstep, hj1]
  generalize z_du v j = l at *
  have hbyte : ((v >>> (24 - 8 * j)) &&& 255#32).toNat = byteI v j := rfl
  generalize byteI v j = b at *
  rcases hR with ⟨rfl, rfl⟩ | ⟨hne, ob, rfl, hb⟩
  ·rw [if_neg (by simp)]
   by_cases hp : 0 < b
   ·rw [if_pos (.inl hp)]
    have hp' : (0 : Int) < b := by omega
    refine ⟨_, _, _, by simp -implicitDefEqProofs +contextual (disch := omega) [z_br.l0, hk, hk2, hbyte, hp', z_hh]; first | rfl | exact ⟨rfl, rfl⟩ | exact ⟨rfl, rfl, rfl⟩, .inl ⟨rfl, ?_, _, _, rfl, .inr ⟨by simp, _, rfl, ?_⟩⟩⟩
    ·(repeat' (first | assumption | with_reducible apply Hp.WF.push | with_reducible apply Hp.WF.set | with_reducible apply z_az | exact Hp.WF.empty)) <;> (simp <;> omega)
    ·simp [z_a4, z_ed, mvI]
   ·obtain rfl : b = 0 := by omega
    by_cases h3 : j = 3
    ·subst h3
     rw [if_pos (.inr rfl)]
     have hb3 : v.toNat &&& 255 = 0 := by simpa using hbyte
     refine ⟨_, _, _, by simp -implicitDefEqProofs +contextual (disch := omega) [z_br.l0, hb3, z_hh]; first | rfl | exact ⟨rfl, rfl⟩ | exact ⟨rfl, rfl, rfl⟩, .inl ⟨rfl, ?_, _, _, rfl, .inr ⟨by simp, _, rfl, ?_⟩⟩⟩
     ·(repeat' (first | assumption | with_reducible apply Hp.WF.push | with_reducible apply Hp.WF.set | with_reducible apply z_az | exact Hp.WF.empty)) <;> (simp <;> omega)
     ·simp [z_a4, z_ed, mvI]
    ·rw [if_neg (by omega)]
     have hne : ¬ (24 - 8 * (j : Int)) = 0 := by omega
     refine ⟨_, _, _, by simp -implicitDefEqProofs +contextual (disch := omega) [z_br.l0, hk, hk2, hbyte, hne, z_hh]; first | rfl | exact ⟨rfl, rfl⟩ | exact ⟨rfl, rfl, rfl⟩, .inl ⟨rfl, hw, _, _, rfl, .inl ⟨rfl, rfl⟩⟩⟩
  ·rw [if_pos hne]
   have hob := hw _ _ hb
   have hpos : 0 < l.length := List.length_pos_iff.2 hne
   have hpos' : (0 : Int) < l.length := by omega
   refine ⟨_, _, _, by simp -implicitDefEqProofs +contextual (disch := omega) [z_br.l0, hk, hk2, hbyte, z_ij, z_tp, hb, hpos']; first | rfl | exact ⟨rfl, rfl⟩ | exact ⟨rfl, rfl, rfl⟩, .inl ⟨rfl, ?_, _, _, rfl, .inr ⟨by simp, _, by rw [List.length_append]; rfl, ?_⟩⟩⟩
   ·(repeat' (first | assumption | with_reducible apply Hp.WF.push | with_reducible apply Hp.WF.set | with_reducible apply z_az | exact Hp.WF.empty)) <;> (simp <;> omega)
   ·simp [z_a4, z_ed, lfI, adI]
 ·obtain ⟨hw, v3, y, rfl, hR⟩ := hR
  refine ⟨_, _, _, by simp -implicitDefEqProofs +contextual (disch := omega) [z_br.l0]; first | rfl | exact ⟨rfl, rfl⟩ | exact ⟨rfl, rfl, rfl⟩, by simp, rfl, _, _, rfl, hR⟩
theorem z_v8 (v : BitVec 32) : z_br.spec [W32 v] = some (.rsl 5 (z_a4 (z_j7 v))) := by
 simp -implicitDefEqProofs +contextual (disch := omega) [z_br.spec, z_br]
 generalize hr : aloop _ _ _ = r
 obtain ⟨e, fr, X, rfl, rfl, v3, y, rfl, hR⟩ := z_q7 v _ Hp.WF.empty hr
 have hl := z_go v 4
 unfold z_j7 at *
 generalize z_du v 4 = l at *
 rcases hR with ⟨rfl, rfl⟩ | ⟨hne, ob, rfl, hb⟩
 ·simp -implicitDefEqProofs +contextual (disch := omega) [z_a4]
 ·have ht := z_ds l
  simp -implicitDefEqProofs +contextual (disch := omega) [hb, ht]
end Go.Abs
end
section
namespace Go.Abs
open Th
def doesI (o : OpM) : List InsM :=
 if o.k = 1 then [alI 0 0 1] else if o.k = 2 then [alI 1 0 1] else if o.k = 3 then [alI 15 0 0] else if o.k = 4 then [lfI 0 o.n.toNat]
 else if o.k = 5 then (if o.n = 0#32 then [lfI 0 0] else [⟨5, 0, 0, 0, o.n.toNat⟩]) else if o.k = 6 then [mvI 2 ((32#32 - o.n) % 32#32).toNat, alI 7 0 2]
 else if o.k = 7 then z_j7 o.n else if o.k = 0 then [⟨12, 0, 5, 0, 0⟩] else []
theorem z_zf (o : OpM) : z_bv.spec [.agg o.cells] = some (.rsl 5 (z_a4 (doesI o))) := by
 have hc := z_v8 o.n
 obtain ⟨k, a, b, n⟩ := o
 unfold OpM.cells doesI
 dsimp only at *
 by_cases h1 : k = 1
 ·subst h1; simp -implicitDefEqProofs +contextual (disch := omega) [z_bv.spec, z_bv, z_l8, z_a4, z_ed, alI]
 rw [if_neg h1]
 by_cases h2 : k = 2
 ·subst h2; simp -implicitDefEqProofs +contextual (disch := omega) [z_bv.spec, z_bv, z_l8, z_a4, z_ed, alI]
 rw [if_neg h2]
 by_cases h3 : k = 3
 ·subst h3; simp -implicitDefEqProofs +contextual (disch := omega) [z_bv.spec, z_bv, z_l8, z_a4, z_ed, alI]
 rw [if_neg h3]
 by_cases h4 : k = 4
 ·subst h4; simp -implicitDefEqProofs +contextual (disch := omega) [z_bv.spec, z_bv, z_ij, z_a4, z_ed, lfI]
 rw [if_neg h4]
 by_cases h5 : k = 5
 ·subst h5
  by_cases hn : n = 0#32
  ·subst hn; simp -implicitDefEqProofs +contextual (disch := omega) [z_bv.spec, z_bv, z_ij, z_a4, z_ed, lfI]
  ·simp -implicitDefEqProofs +contextual (disch := omega) [z_bv.spec, z_bv, z_ij, z_a4, z_ed, hn]
 rw [if_neg h5]
 by_cases h6 : k = 6
 ·subst h6
  generalize hm : (32#32 - n) % 32#32 = m
  simp -implicitDefEqProofs +contextual (disch := omega) [z_bv.spec, z_bv, z_hh, z_l8, z_a4, z_ed, alI, mvI, hm]
 rw [if_neg h6]
 by_cases h7 : k = 7
 ·subst h7
  rw [if_pos rfl]
  generalize z_j7 n = l at *
  simp -implicitDefEqProofs +contextual (disch := omega) [z_bv.spec, z_bv, hc]
 rw [if_neg h7]
 by_cases h0 : k = 0
 ·subst h0; simp -implicitDefEqProofs +contextual (disch := omega) [z_bv.spec, z_bv, z_a4, z_ed]
 rw [if_neg h0]
 simp -implicitDefEqProofs +contextual (disch := omega) [z_bv.spec, z_bv, z_a4, h1, h2, h3, h4, h5, h6, h7, h0]
@[simp] theorem z_u6 (n : Nat) (k : IntKind) : z_ey (.sl n) .nils none (some (.int k 0)) none = some .nils := rfl
theorem z_0c (n : Nat) (h0 : 0 < n) (h : n ≤ 1000000) (H : Hp) : z_au.spec [.nils, .int .i64 n] H = some (.sl H.next 5 0 0, H.push ⟨T.ty_api_Ins, 5, true, []⟩) := by
 have h1 : ¬ (n : Int) < 0 := by omega
 have h2 : (0 : Int) < n := by omega
 simp -implicitDefEqProofs +contextual (disch := omega) [z_au.spec, z_au, h1, h2]
theorem z_up (a b c : List InsM) (ha : 1 ≤ a.length) (hl : a.length + b.length + c.length ≤ 1000) (H : Hp) (hw : H.WF) (ab sb : Nat) (hab : H.get ab = some ⟨T.ty_api_Ins, 5, true, z_a4 a⟩) (hsb : H.get sb = some ⟨T.ty_sl_api_Ins, 1, false, [[.sl ab 5 0 a.length], [.rsl 5 (z_a4 b)], [.rsl 5 (z_a4 c)]]⟩) :
  ∃ v H', z_aj.spec [.sl sb 1 0 3] H = some (v, H') ∧ ∃ ob, v = .sl ob 5 0 (a ++ b ++ c).length ∧ H'.get ob = some ⟨T.ty_api_Ins, 5, true, z_a4 (a ++ b ++ c)⟩ := by
 have hs1 : ¬ ((a.length : Int)) < 0 := by omega
 have hab' := hw _ _ hab
 have hsb' := hw _ _ hsb
 have hG := fun H => z_0c (a.length + b.length + c.length) (by omega) (by omega) H
 have hsum : ((a.length + b.length + c.length : Nat) : Int) = (a.length : Int) + b.length + c.length := by omega
 rw [hsum] at hG
 have hne : ¬ ab = sb := by intro e; subst e; rw [hab] at hsb; simp at hsb
 have hne' : ¬ sb = ab := fun e => hne e.symm
 have ta := z_ds a
 have tb := z_ds b
 have tc := z_ds c
 refine ⟨_, _, by simp -implicitDefEqProofs +contextual (disch := omega) [z_aj.spec, z_aj, z_al, z_aj.l0, z_aj.l1, hsb, hab, hG, hne, hne', ta, tb, tc]; exact ⟨rfl, rfl⟩, _, by rw [List.length_append, List.length_append], ?_⟩
 simp [← z_kk]
def regsI : List Nat → Int → List InsM
 | [], _ => []
 | x :: l, r => getI r x ++ regsI l (r + 1)
def headI (src : List Nat) : List InsM := mvI 0 0 :: (if 1 < src.length then [mvI 1 0] else [])
def stepI (o : OpM) (dst : Nat) (src : List Nat) : List InsM := headI src ++ regsI src 0 ++ doesI o ++ putI dst
theorem z_hb (r : Int) (n : Nat) : (getI r n).length ≤ 4 := by have := (z_ma n).2; simp [getI]; omega
theorem z_px (n : Nat) : (putI n).length ≤ 4 := by have := (z_ma n).2; simp [putI]; omega
theorem z_nn (o : OpM) : (doesI o).length ≤ 8 := by
 have := z_go o.n 4
 unfold doesI
 repeat' split
 all_goals first | (simp; done) | (unfold z_j7; omega)
theorem z_j8 {sb : Nat} {H : Hp} {r : Option (AV × Hp)} (hr : z_aj.spec [.sl sb 1 0 3] H = r) (a b c : List InsM) (ha : 1 ≤ a.length) (hl : a.length + b.length + c.length ≤ 1000) (hw : H.WF) (ab : Nat) (hab : H.get ab = some ⟨T.ty_api_Ins, 5, true, z_a4 a⟩) (hsb : H.get sb = some ⟨T.ty_sl_api_Ins, 1, false, [[.sl ab 5 0 a.length], [.rsl 5 (z_a4 b)], [.rsl 5 (z_a4 c)]]⟩) :
  ∃ ob H', r = some (.sl ob 5 0 (a ++ b ++ c).length, H') ∧ H'.get ob = some ⟨T.ty_api_Ins, 5, true, z_a4 (a ++ b ++ c)⟩ := by
 subst hr
 obtain ⟨v, H', h, ob, rfl, hg⟩ := z_up a b c ha hl H hw ab sb hab hsb
 exact ⟨ob, H', h, hg⟩
theorem z_p7 (o : OpM) (dst : Nat) (hd : dst ≤ 16000) (src : List Nat) (hs : src.length ≤ 2) (hx : ∀ x ∈ src, x ≤ 16000) :
  z_cj.spec [.agg o.cells, .int .i64 dst, .rsl 1 (ints (src.map fun x : Nat => (x : Int)))] = some (.rsl 5 (z_a4 (stepI o dst src))) := by
 have hdo := z_zf o
 have hpu := z_zc dst hd
 have hl1 := z_nn o
 have hl2 := z_px dst
 unfold OpM.cells at hdo ⊢
 generalize hD : doesI o = D at *
 generalize hP : putI dst = Q at *
 match src, hs, hx with
 | [], _, _ =>
  have hst : [mvI 0 0] ++ D ++ Q = stepI o dst [] := by simp [stepI, headI, regsI, hD, hP]
  generalize stepI o dst [] = L at *
  simp -implicitDefEqProofs +contextual (disch := omega) [z_cj.spec, z_cj, z_hh, z_al, z_cj.l0, ints, hdo, hpu]
  generalize hr : z_aj.spec _ _ = r
  obtain ⟨ob, H', rfl, hg⟩ := z_j8 hr [mvI 0 0] D Q (by simp) (by simp; omega) (by (repeat' (first | assumption | with_reducible apply Hp.WF.push | with_reducible apply Hp.WF.set | with_reducible apply z_az | exact Hp.WF.empty)) <;> (simp <;> omega)) 1 (by simp [z_a4, z_ed, mvI]) (by simp)
  rw [hst] at hg ⊢
  have ht := z_ds L
  simp -implicitDefEqProofs +contextual (disch := omega) [hg, ht]
 | [x], _, hx =>
  have hg0 := z_tg 0 x (hx x (by simp))
  have hl0 := z_hb 0 x
  have hst : mvI 0 0 :: getI 0 x ++ D ++ Q = stepI o dst [x] := by simp [stepI, headI, regsI, hD, hP]
  generalize stepI o dst [x] = L at *
  generalize getI 0 x = g0 at *
  have t0 := z_ds g0
  simp -implicitDefEqProofs +contextual (disch := omega) [z_cj.spec, z_cj, z_hh, z_al, z_cj.l0, ints, hdo, hpu, hg0, t0]
  generalize hr : z_aj.spec _ _ = r
  obtain ⟨ob, H', rfl, hg⟩ := z_j8 hr (mvI 0 0 :: g0) D Q (by simp) (by simp; omega) (by (repeat' (first | assumption | with_reducible apply Hp.WF.push | with_reducible apply Hp.WF.set | with_reducible apply z_az | exact Hp.WF.empty)) <;> (simp <;> omega)) 2 (by simp [z_a4, z_ed, mvI]) (by simp; omega)
  rw [hst] at hg ⊢
  have ht := z_ds L
  simp -implicitDefEqProofs +contextual (disch := omega) [hg, ht]
 | [x, y], _, hx =>
  have hg0 := z_tg 0 x (hx x (by simp))
  have hg1 := z_tg 1 y (hx y (by simp))
  have hl0 := z_hb 0 x
  have hl1' := z_hb 1 y
  have hst : mvI 0 0 :: mvI 1 0 :: (getI 0 x ++ getI 1 y) ++ D ++ Q = stepI o dst [x, y] := by simp [stepI, headI, regsI, hD, hP]
  generalize stepI o dst [x, y] = L at *
  generalize getI 0 x = g0 at *
  generalize getI 1 y = g1 at *
  have t0 := z_ds g0
  have t1 := z_ds g1
  simp -implicitDefEqProofs +contextual (disch := omega) [z_cj.spec, z_cj, z_hh, z_al, z_cj.l0, ints, hdo, hpu, hg0, t0, hg1, t1]
  generalize hr : z_aj.spec _ _ = r
  obtain ⟨ob, H', rfl, hg⟩ := z_j8 hr (mvI 0 0 :: mvI 1 0 :: (g0 ++ g1)) D Q (by simp) (by simp; omega) (by (repeat' (first | assumption | with_reducible apply Hp.WF.push | with_reducible apply Hp.WF.set | with_reducible apply z_az | exact Hp.WF.empty)) <;> (simp <;> omega)) 5 (by simp [z_a4, z_ed, mvI]) (by simp; omega)
  rw [hst] at hg ⊢
  have ht := z_ds L
  simp -implicitDefEqProofs +contextual (disch := omega) [hg, ht]
end Go.Abs
end
section
namespace Go.Abs
open Th
def z_cv (n : Int) : Bool := decide (0 ≤ n) && decide (n ≤ 16000)
theorem z_nm (k : Int) : z_bw.spec [.int .i64 k] = some (.int .i64 (if k = 1 ∨ k = 2 then 2 else if k = 0 ∨ k = 7 then 0 else 1)) := by
 by_cases h1 : k = 1
 ·subst h1; simp -implicitDefEqProofs +contextual (disch := omega) [z_bw.spec, z_bw]
 by_cases h2 : k = 2
 ·subst h2; simp -implicitDefEqProofs +contextual (disch := omega) [z_bw.spec, z_bw]
 rw [if_neg (by omega)]
 by_cases h0 : k = 0
 ·subst h0; simp -implicitDefEqProofs +contextual (disch := omega) [z_bw.spec, z_bw]
 by_cases h7 : k = 7
 ·subst h7; simp -implicitDefEqProofs +contextual (disch := omega) [z_bw.spec, z_bw]
 rw [if_neg (by omega)]
 simp -implicitDefEqProofs +contextual (disch := omega) [z_bw.spec, z_bw, h1, h2, h0, h7]
theorem z_u3 (n : Int) : z_b9.spec [.int .i64 n] = some (.bool (!z_cv n)) := by
 have hs := z_oh n
 unfold z_cv
 generalize (decide (0 ≤ n) && decide (n ≤ 16000)) = b at *
 cases b <;> simp -implicitDefEqProofs +contextual (disch := omega) [z_b9.spec, z_b9, hs]
theorem z_v9 (n : Int) : z_ca.spec [.int .i64 n] = some (.bool (!z_cv n)) := by
 have hs := z_oh n
 unfold z_cv
 generalize (decide (0 ≤ n) && decide (n ≤ 16000)) = b at *
 cases b <;> simp -implicitDefEqProofs +contextual (disch := omega) [z_ca.spec, z_ca, hs]
theorem z_r8 (g : FuncId) (s : SpecP) (hC : z_am.C z_b9.spec z_ca.spec z_a2.spec g = some (.pure false s)) (hs : ∀ n, s [.int .i64 n] = some (.bool (!z_cv n)))
  (X : Hp) (hX : X.WF) (l : List Int) (hll : l.length ≤ 1000000000) :
  ∃ i : Int, z_am.spec [.rsl 1 (ints l), .clo g [] []] X = some (.int .i64 i, X) ∧ (0 ≤ i ↔ (l.any fun n => !z_cv n) = true) := by
 have hrun : ∃ (i : Int), z_am.spec [.rsl 1 (ints l), .clo g [] []] X = forget X (some ([.int .i64 i], X)) ∧ (0 ≤ i ↔ (l.any fun n => !z_cv n) = true) := by
  generalize hA : (l.any fun n => !z_cv n) = A
  simp -implicitDefEqProofs +contextual (disch := omega) [z_am.spec, z_am]
  generalize hr : aloop _ _ _ = r
  obtain ⟨e, fr', X', rfl, rfl, hq⟩ : ∃ e fr' X', r = some (e, fr', X') ∧ (X' = X ∧ ((e = .exit 0 ∧ A = false) ∨ (e = .ret ∧ A = true ∧ ∃ k : Nat, fr' 4 = .int .i64 k))) := by
   refine z_ee hr (z_cf l.length (fun k fr H => H = X ∧ (∃ y, fr = AFr.al ([(0, .rsl 1 (ints l)), (1, .clo g [] []), (7, .int .i64 l.length), (8, .int .i64 k)] ++ y)) ∧ ((l.take k).any fun n => !z_cv n) = false) _ (fun k hk fr H hR => ?_) (fun fr H hR => ?_) ⟨rfl, ⟨[], rfl⟩, rfl⟩)
   ·obtain ⟨rfl, ⟨y, rfl⟩, h3⟩ := hR
    have hk' : (k : Int) < l.length := by omega
    have hk1 : ((k + 1 : Nat) : Int) = (k : Int) + 1 := by omega
    have hme : l[k] ∈ l := List.getElem_mem hk
    have h1 := hs (ati l k)
    have hss : ((l.take (k + 1)).any fun n => !z_cv n) = !z_cv (ati l k) := by rw [List.take_succ_eq_append_getElem hk, List.any_append, h3, z_i6 l k hk]; simp
    rw [hss]
    rw [← z_i6 l k hk] at hme
    cases hv : z_cv (ati l k) with
    | false =>
     rw [hv] at h1
     refine ⟨_, _, _, by simp -implicitDefEqProofs +contextual (disch := omega) [z_am.l0, z_fu, z_i9, hC, hk, hk', h1]; first | rfl | exact ⟨rfl, rfl⟩ | exact ⟨rfl, rfl, rfl⟩, .inr ⟨by simp, rfl, .inr ⟨rfl, hA.symm.trans (List.any_eq_true.2 ⟨_, hme, by rw [hv]; rfl⟩), k, by simp⟩⟩⟩
    | true =>
     rw [hv] at h1
     rw [hk1]
     refine ⟨_, _, _, by simp -implicitDefEqProofs +contextual (disch := omega) [z_am.l0, z_fu, z_i9, hC, hk, hk', h1]; first | rfl | exact ⟨rfl, rfl⟩ | exact ⟨rfl, rfl, rfl⟩, .inl ⟨rfl, rfl, ⟨_, rfl⟩, rfl⟩⟩
   ·obtain ⟨rfl, ⟨y, rfl⟩, h3⟩ := hR
    rw [List.take_length] at h3
    refine ⟨_, _, _, by simp -implicitDefEqProofs +contextual (disch := omega) [z_am.l0]; first | rfl | exact ⟨rfl, rfl⟩ | exact ⟨rfl, rfl, rfl⟩, by simp, rfl, .inl ⟨rfl, hA.symm.trans h3⟩⟩
  rcases hq with ⟨rfl, q⟩ | ⟨rfl, q, k, hk⟩
  ·refine ⟨-1, by simp -implicitDefEqProofs +contextual (disch := omega) [], by rw [q]; simp⟩
  ·refine ⟨k, by simp -implicitDefEqProofs +contextual (disch := omega) [hk], by rw [q]; simp⟩
 obtain ⟨i, h1, h2⟩ := hrun
 refine ⟨i, ?_, h2⟩
 rw [h1, z_ni hX (Nat.le_refl _) (fun _ _ => rfl) rfl]
 rfl
theorem z_my (g : FuncId) (s : SpecP) (hC : z_am.C z_b9.spec z_ca.spec z_a2.spec g = some (.pure false s)) (hs : ∀ n, s [.int .i64 n] = some (.bool (!z_cv n)))
  (X : Hp) (hX : X.WF) (l : List Int) (hll : l.length ≤ 1000000000) :
  z_ak.spec [.rsl 1 (ints l), .clo g [] []] X = some (.bool (l.any fun n => !z_cv n), X) := by
 obtain ⟨i, h1, h2⟩ := z_r8 g s hC hs X hX l hll
 have e : z_ak.spec [.rsl 1 (ints l), .clo g [] []] X = forget X (some ([.bool (l.any fun n => !z_cv n)], X)) := by
  by_cases hi : 0 ≤ i
  ·simp -implicitDefEqProofs +contextual (disch := omega) [z_ak.spec, z_ak, h1, hi, h2.1 hi]
  ·have : (l.any fun n => !z_cv n) = false := by
    rw [Bool.eq_false_iff]; exact fun q => hi (h2.2 q)
   simp -implicitDefEqProofs +contextual (disch := omega) [z_ak.spec, z_ak, h1, hi, this]
 rw [e, z_ni hX (Nat.le_refl _) (fun _ _ => rfl) rfl]
 rfl
theorem z_yx : z_am.C z_b9.spec z_ca.spec z_a2.spec 72 = some (.pure false z_b9.spec) := by simp [z_am.C, Tab.add]
theorem z_yy : z_am.C z_b9.spec z_ca.spec z_a2.spec 80 = some (.pure false z_ca.spec) := by simp [z_am.C, Tab.add]
end Go.Abs
end
section
namespace Go.Abs
open Th
theorem z_iy {g : FuncId} {s : SpecP} (hC : z_am.C z_b9.spec z_ca.spec z_a2.spec g = some (.pure false s)) (hs : ∀ n, s [.int .i64 n] = some (.bool (!z_cv n)))
  {X : Hp} {l : List Int} {r} (hr : z_ak.spec [.rsl 1 (ints l), .clo g [] []] X = r) (hX : X.WF) (hll : l.length ≤ 1000000000) :
  r = some (.bool (l.any fun n => !z_cv n), X) := by
 subst hr; exact z_my g s hC hs X hX l hll
def oneC (o : OpM) : CodeM := ⟨1, [⟨o.k, 0, 0, o.n⟩], []⟩
def z_de (k : Int) : Int := if k = 1 ∨ k = 2 then 2 else if k = 0 ∨ k = 7 then 0 else 1
def fitsI (o : OpM) (dst : Int) (src : List Int) : Bool := (oneC o).can && decide ((src.length : Int) = z_de o.k) && z_cv dst && !(src.any fun n => !z_cv n)
theorem z_mu (l : List Int) (h : (l.any fun n => !z_cv n) = false) : ∃ m : List Nat, l = m.map (fun x : Nat => (x : Int)) ∧ ∀ x ∈ m, x ≤ 16000 := by
 refine ⟨l.map Int.toNat, ?_, fun x hx => ?_⟩
 ·rw [List.map_map]
  refine (List.map_id l).symm.trans (List.map_congr_left fun n hn => ?_)
  have := List.any_eq_false.1 h n hn
  simp [z_cv] at this
  simp; omega
 ·obtain ⟨n, hn, rfl⟩ := List.mem_map.1 hx
  have := List.any_eq_false.1 h n hn
  simp [z_cv] at this
  omega
theorem z_jo (k : Int) : z_de k ≤ 2 := by unfold z_de; repeat' split <;> omega
theorem z_u2 (o : OpM) (a b : Int) (dst : Nat) (src : List Nat) : stepI ⟨o.k, a, b, o.n⟩ dst src = stepI o dst src := rfl
theorem z_wt (o : OpM) (dst : Int) (src : List Int) (hl : src.length ≤ 1000000000) :
  z_c0.spec [.agg o.cells, .int .i64 dst, .rsl 1 (ints src)] = some (.rsl 5 (z_a4 (if fitsI o dst src = true then stepI o dst.toNat (src.map Int.toNat) else []))) := by
 have hcan := Can_eq' (oneC o) (by simp [oneC]) (by simp [oneC])
 have ht := z_nm o.k
 have htk : (if o.k = 1 ∨ o.k = 2 then (2 : Int) else if o.k = 0 ∨ o.k = 7 then 0 else 1) = z_de o.k := rfl
 rw [htk] at ht
 have hst := z_oh dst
 unfold CodeM.cells oneC at hcan
 simp only [z_dw, List.map_cons, List.map_nil, OpM.cells, ints, Option.some.injEq] at hcan
 unfold fitsI
 have hone : (oneC o).can = (CodeM.mk 1 [⟨o.k, 0, 0, o.n⟩] []).can := rfl
 rw [← hone] at hcan
 have hso : (decide (0 ≤ dst) && decide (dst ≤ 16000)) = z_cv dst := rfl
 rw [hso] at hst
 unfold OpM.cells
 cases hc : (oneC o).can with
 | false =>
  rw [hc] at hcan
  simp -implicitDefEqProofs +contextual (disch := omega) [z_c0.spec, z_c0, hcan, z_a4]
 | true =>
  rw [hc] at hcan
  by_cases hlen : (src.length : Int) = z_de o.k
  ·rw [decide_eq_true hlen]
   cases hs : z_cv dst with
   | false =>
    rw [hs] at hst
    simp -implicitDefEqProofs +contextual (disch := omega) [z_c0.spec, z_c0, hcan, ht, hlen, hst, z_a4]
   | true =>
    rw [hs] at hst
    simp -implicitDefEqProofs +contextual (disch := omega) [z_c0.spec, z_c0, hcan, ht, hlen, hst]
    generalize hr : z_ak.spec _ _ = r
    obtain rfl := z_iy z_yx z_u3 hr (by (repeat' (first | assumption | with_reducible apply Hp.WF.push | with_reducible apply Hp.WF.set | with_reducible apply z_az | exact Hp.WF.empty)) <;> (simp <;> omega)) hl
    cases hany : src.any fun n => !z_cv n with
    | true =>
     simp -implicitDefEqProofs +contextual (disch := omega) [z_a4]
     intro h
     simp at hany
     obtain ⟨x, hx, h2⟩ := hany
     rw [h x hx] at h2; cases h2
    | false =>
     obtain ⟨m, rfl, hm⟩ := z_mu src hany
     obtain ⟨k, rfl⟩ : ∃ k : Nat, dst = k := ⟨dst.toNat, by simp [z_cv] at hs; omega⟩
     have hk : k ≤ 16000 := by simp [z_cv] at hs; omega
     have hml : m.length ≤ 2 := by have := z_jo o.k; simp at hlen; omega
     have hE := z_p7 ⟨o.k, 0, 0, o.n⟩ k hk m hml hm
     rw [z_u2] at hE
     unfold OpM.cells at hE
     have hmm : (m.map fun x : Nat => (x : Int)).map Int.toNat = m := by rw [List.map_map]; exact (List.map_congr_left fun x _ => by simp).trans (List.map_id m)
     rw [hmm, Int.toNat_natCast]
     generalize stepI o k m = L at *
     simp -implicitDefEqProofs +contextual (disch := omega) [hE]
     rw [if_pos (fun a ha => by have := hm a ha; simp [z_cv]; omega)]
  ·rw [decide_eq_false hlen]
   simp -implicitDefEqProofs +contextual (disch := omega) [z_c0.spec, z_c0, hcan, ht, hlen, z_a4]
end Go.Abs
end
end
section
namespace Go.Abs
open Th
theorem can_eq (i : InsM) : z_af.spec [InsAV i] = some (.bool i.can) := by
 obtain ⟨op, d, n, m, imm⟩ := i
 by_cases h : 0 ≤ op ∧ op ≤ 20
 ·obtain ⟨k, rfl⟩ : ∃ k : Nat, op = k := ⟨op.toNat, by omega⟩
  exact cases21 (P := fun k => z_af.spec [InsAV ⟨k, d, n, m, imm⟩] = some (.bool (InsM.mk k d n m imm).can)) k (by omega) (can0 d n m imm) (can1 d n m imm) (can2 d n m imm) (can3 d n m imm) (can4 d n m imm) (can5 d n m imm) (can6 d n m imm) (can7 d n m imm) (can8 d n m imm) (can9 d n m imm) (can10 d n m imm)
   (can11 d n m imm) (can12 d n m imm) (can13 d n m imm) (can14 d n m imm) (can15 d n m imm) (can16 d n m imm) (can17 d n m imm) (can18 d n m imm) (can19 d n m imm) (can20 d n m imm)
 ·have hc : (InsM.mk op d n m imm).can = false := by
   rw [Bool.eq_false_iff, Ne, z_gp]; exact fun q => h q.1
  have h' : op < 0 ∨ 21 ≤ op := by omega
  rw [hc]
  simp -implicitDefEqProofs +contextual (disch := omega) [z_af.spec, z_af, InsAV, h']
theorem put_eq (i : InsM) (hc : i.can = true) : z_ag.spec [InsAV i] = some (W16 (BitVec.ofNat 16 (putN i))) := by
 obtain ⟨op, d, n, m, imm⟩ := i
 have h := ((z_gp _).1 hc).1
 dsimp only at h
 obtain ⟨k, rfl⟩ : ∃ k : Nat, op = k := ⟨op.toNat, by omega⟩
 revert hc
 exact cases21 (P := fun k => (InsM.mk k d n m imm).can = true → z_ag.spec [InsAV ⟨k, d, n, m, imm⟩] = some (W16 (BitVec.ofNat 16 (putN ⟨k, d, n, m, imm⟩)))) k (by omega) (put0 d n m imm) (put1 d n m imm) (put2 d n m imm) (put3 d n m imm) (put4 d n m imm) (put5 d n m imm) (put6 d n m imm) (put7 d n m imm) (put8 d n m imm) (put9 d n m imm) (put10 d n m imm)
  (put11 d n m imm) (put12 d n m imm) (put13 d n m imm) (put14 d n m imm) (put15 d n m imm) (put16 d n m imm) (put17 d n m imm) (put18 d n m imm) (put19 d n m imm) (put20 d n m imm)
def putM (i : InsM) : BitVec 16 × Int := if i.can then (BitVec.ofNat 16 (putN i), 0) else (0#16, 1)
def z_ej (i : InsM) : Blk := ⟨T.ty_api_Ins, 5, true, [[.int .i64 i.op, .int .i64 i.d, .int .i64 i.n, .int .i64 i.m, .int .i64 i.imm]]⟩
end Go.Abs
end
section
namespace Go.Abs
open Th
def Chars (s : ByteArray) (l : List Nat) : Prop := s.size = l.length ∧ ∀ (k : Nat) (h1 : k < l.length) (h2 : k < s.size), s[k].toBitVec.toNat = l[k]
theorem z_p1 (s : ByteArray) (l : List Nat) (hs : Chars s l) (hl : l.length ≤ 1000) (c : BitVec 8) (H : Hp) : ∀ d i : Nat, i + d = l.length →
  aloop z_cx.l0 (AFr.al [(0, .str s), (1, W8 c), (5, .int .i64 (i : Int))]) H =
   if (l.drop i).any (· == c.toNat) = true then some (.ret, AFr.al [(4, .bool true)], H) else some (.exit 0, AFr.al [(0, .str s), (1, W8 c), (5, .int .i64 (l.length : Int)), (9, .bool false)], H)
 | 0, i, h => by
  rw [z_al, List.drop_of_length_le (by omega), if_neg (by simp)]
  have h1 := hs.1
  simp -implicitDefEqProofs +contextual (disch := omega) [z_cx.l0, show i = l.length from by omega, h1]
 | d + 1, i, h => by
  have ih := z_p1 s l hs hl c H d (i + 1) (by omega)
  rw [Int.natCast_succ] at ih
  have h1 := hs.1
  have hb := hs.2 i (by omega) (by omega)
  have hr : (l.drop i).any (· == c.toNat) = ((l[i] == c.toNat) || (l.drop (i + 1)).any (· == c.toNat)) := by rw [List.drop_eq_getElem_cons (by omega), List.any_cons]
  rw [z_al, hr]
  by_cases q : s[i].toBitVec = c
  ·have q3 : (l[i] == c.toNat) = true := by rw [← hb, q]; simp
   rw [q3, Bool.true_or, if_pos rfl]
   simp -implicitDefEqProofs +contextual (disch := omega) [z_cx.l0, h1, q]
  ·have q3 : (l[i] == c.toNat) = false := by rw [← hb, beq_eq_false_iff_ne]; exact fun e => q (BitVec.eq_of_toNat_eq e)
   rw [q3, Bool.false_or, ← ih]
   simp -implicitDefEqProofs +contextual (disch := omega) [z_cx.l0, h1, q]
theorem z_bc (s : ByteArray) (l : List Nat) (hs : Chars s l) (hl : l.length ≤ 1000) (c : BitVec 8) : z_cx.spec [.str s, W8 c] = some (.bool (l.any (· == c.toNat))) := by
 have h := z_p1 s l hs hl c Hp.empty l.length 0 (by omega)
 rw [List.drop_zero] at h
 rw [show ((0 : Nat) : Int) = 0 from rfl] at h
 cases hq : l.any (· == c.toNat) with
 | true =>
  rw [if_pos hq] at h
  simp -implicitDefEqProofs +contextual (disch := omega) [z_cx.spec, z_cx, h]
 | false =>
  rw [if_neg (by rw [hq]; simp)] at h
  simp -implicitDefEqProofs +contextual (disch := omega) [z_cx.spec, z_cx, h]
def txtB (op : Nat) : ByteArray := ⟨((txt op).map fun n => UInt8.ofNat n).toArray⟩
theorem z_ai (op : Nat) (hop : op ≤ 20) : Chars (txtB op) (txt op) := by
 have hl : ∀ op : Nat, op ≤ 20 → (txt op).length = 16 := by decide
 have hb : ∀ op : Nat, op ≤ 20 → ∀ c, c ∈ txt op → c < 256 := by decide
 refine ⟨by simp [txtB, ByteArray.size], fun k h1 h2 => ?_⟩
 have h3 := hb op hop _ (List.getElem_mem h1)
 have : (txtB op)[k] = UInt8.ofNat ((txt op)[k]) := by
  simp [txtB, ByteArray.getElem_eq_getElem_data]
 rw [this]
 simp [BitVec.toNat_ofNat]
 omega
theorem Shape0 : z_ay.spec [.int .i64 0] = some (.str (txtB 0)) := by kernel_rfl
theorem Low0 : z_bj.spec [.int .i64 0] = some (.int .i64 (shp 0).low) := by kernel_rfl
theorem High0 : z_a5.spec [.int .i64 0] = some (.int .i64 (shp 0).high) := by kernel_rfl
theorem Can0 (d n m imm : Int) : z_ah.spec [InsAV ⟨0, d, n, m, imm⟩] = some (.bool (InsM.mk 0 d n m imm).can) := by
 have f1 := z_bc (txtB 0) (txt 0) (z_ai 0 (by omega)) (by decide) 99#8
 have f2 := z_bc (txtB 0) (txt 0) (z_ai 0 (by omega)) (by decide) 100#8
 have f3 := z_bc (txtB 0) (txt 0) (z_ai 0 (by omega)) (by decide) 110#8
 have f4 := z_bc (txtB 0) (txt 0) (z_ai 0 (by omega)) (by decide) 109#8
 simp [txt] at f1 f2 f3 f4
 have g1 := Shape0; have g2 := Low0; have g3 := High0
 simp [shp] at g2 g3
 have hc := z_ax 0 (by omega) d n m imm
 simp only [shp, maxD, maxN, maxM, hasD, hasN, hasM] at hc
 generalize hb : (InsM.mk 0 d n m imm).can = b
 rw [show (InsM.mk (0 : Nat) d n m imm).can = b from hb] at hc
 repeat' (first
  | (simp -implicitDefEqProofs +contextual (disch := omega) [z_ah.spec, z_ah, InsAV, f1, f2, f3, f4, g1, g2, g3])
  | (refine z_as (fun h => ?_) (fun h => ?_)))
 all_goals (first | (cases b <;> simp_all <;> omega) | trace_state)
theorem Shape1 : z_ay.spec [.int .i64 1] = some (.str (txtB 1)) := by kernel_rfl
theorem Low1 : z_bj.spec [.int .i64 1] = some (.int .i64 (shp 1).low) := by kernel_rfl
theorem High1 : z_a5.spec [.int .i64 1] = some (.int .i64 (shp 1).high) := by kernel_rfl
theorem Can1 (d n m imm : Int) : z_ah.spec [InsAV ⟨1, d, n, m, imm⟩] = some (.bool (InsM.mk 1 d n m imm).can) := by
 have f1 := z_bc (txtB 1) (txt 1) (z_ai 1 (by omega)) (by decide) 99#8
 have f2 := z_bc (txtB 1) (txt 1) (z_ai 1 (by omega)) (by decide) 100#8
 have f3 := z_bc (txtB 1) (txt 1) (z_ai 1 (by omega)) (by decide) 110#8
 have f4 := z_bc (txtB 1) (txt 1) (z_ai 1 (by omega)) (by decide) 109#8
 simp [txt] at f1 f2 f3 f4
 have g1 := Shape1; have g2 := Low1; have g3 := High1
 simp [shp] at g2 g3
 have hc := z_ax 1 (by omega) d n m imm
 simp only [shp, maxD, maxN, maxM, hasD, hasN, hasM] at hc
 generalize hb : (InsM.mk 1 d n m imm).can = b
 rw [show (InsM.mk (1 : Nat) d n m imm).can = b from hb] at hc
 repeat' (first
  | (simp -implicitDefEqProofs +contextual (disch := omega) [z_ah.spec, z_ah, InsAV, f1, f2, f3, f4, g1, g2, g3])
  | (refine z_as (fun h => ?_) (fun h => ?_)))
 all_goals (first | (cases b <;> simp_all <;> omega) | trace_state)
theorem Shape2 : z_ay.spec [.int .i64 2] = some (.str (txtB 2)) := by kernel_rfl
theorem Low2 : z_bj.spec [.int .i64 2] = some (.int .i64 (shp 2).low) := by kernel_rfl
theorem High2 : z_a5.spec [.int .i64 2] = some (.int .i64 (shp 2).high) := by kernel_rfl
theorem Can2 (d n m imm : Int) : z_ah.spec [InsAV ⟨2, d, n, m, imm⟩] = some (.bool (InsM.mk 2 d n m imm).can) := by
 have f1 := z_bc (txtB 2) (txt 2) (z_ai 2 (by omega)) (by decide) 99#8
 have f2 := z_bc (txtB 2) (txt 2) (z_ai 2 (by omega)) (by decide) 100#8
 have f3 := z_bc (txtB 2) (txt 2) (z_ai 2 (by omega)) (by decide) 110#8
 have f4 := z_bc (txtB 2) (txt 2) (z_ai 2 (by omega)) (by decide) 109#8
 simp [txt] at f1 f2 f3 f4
 have g1 := Shape2; have g2 := Low2; have g3 := High2
 simp [shp] at g2 g3
 have hc := z_ax 2 (by omega) d n m imm
 simp only [shp, maxD, maxN, maxM, hasD, hasN, hasM] at hc
 generalize hb : (InsM.mk 2 d n m imm).can = b
 rw [show (InsM.mk (2 : Nat) d n m imm).can = b from hb] at hc
 repeat' (first
  | (simp -implicitDefEqProofs +contextual (disch := omega) [z_ah.spec, z_ah, InsAV, f1, f2, f3, f4, g1, g2, g3])
  | (refine z_as (fun h => ?_) (fun h => ?_)))
 all_goals (first | (cases b <;> simp_all <;> omega) | trace_state)
theorem Shape3 : z_ay.spec [.int .i64 3] = some (.str (txtB 3)) := by kernel_rfl
theorem Low3 : z_bj.spec [.int .i64 3] = some (.int .i64 (shp 3).low) := by kernel_rfl
theorem High3 : z_a5.spec [.int .i64 3] = some (.int .i64 (shp 3).high) := by kernel_rfl
theorem Can3 (d n m imm : Int) : z_ah.spec [InsAV ⟨3, d, n, m, imm⟩] = some (.bool (InsM.mk 3 d n m imm).can) := by
 have f1 := z_bc (txtB 3) (txt 3) (z_ai 3 (by omega)) (by decide) 99#8
 have f2 := z_bc (txtB 3) (txt 3) (z_ai 3 (by omega)) (by decide) 100#8
 have f3 := z_bc (txtB 3) (txt 3) (z_ai 3 (by omega)) (by decide) 110#8
 have f4 := z_bc (txtB 3) (txt 3) (z_ai 3 (by omega)) (by decide) 109#8
 simp [txt] at f1 f2 f3 f4
 have g1 := Shape3; have g2 := Low3; have g3 := High3
 simp [shp] at g2 g3
 have hc := z_ax 3 (by omega) d n m imm
 simp only [shp, maxD, maxN, maxM, hasD, hasN, hasM] at hc
 generalize hb : (InsM.mk 3 d n m imm).can = b
 rw [show (InsM.mk (3 : Nat) d n m imm).can = b from hb] at hc
 repeat' (first
  | (simp -implicitDefEqProofs +contextual (disch := omega) [z_ah.spec, z_ah, InsAV, f1, f2, f3, f4, g1, g2, g3])
  | (refine z_as (fun h => ?_) (fun h => ?_)))
 all_goals (first | (cases b <;> simp_all <;> omega) | trace_state)
theorem Shape4 : z_ay.spec [.int .i64 4] = some (.str (txtB 4)) := by kernel_rfl
theorem Low4 : z_bj.spec [.int .i64 4] = some (.int .i64 (shp 4).low) := by kernel_rfl
theorem High4 : z_a5.spec [.int .i64 4] = some (.int .i64 (shp 4).high) := by kernel_rfl
theorem Can4 (d n m imm : Int) : z_ah.spec [InsAV ⟨4, d, n, m, imm⟩] = some (.bool (InsM.mk 4 d n m imm).can) := by
 have f1 := z_bc (txtB 4) (txt 4) (z_ai 4 (by omega)) (by decide) 99#8
 have f2 := z_bc (txtB 4) (txt 4) (z_ai 4 (by omega)) (by decide) 100#8
 have f3 := z_bc (txtB 4) (txt 4) (z_ai 4 (by omega)) (by decide) 110#8
 have f4 := z_bc (txtB 4) (txt 4) (z_ai 4 (by omega)) (by decide) 109#8
 simp [txt] at f1 f2 f3 f4
 have g1 := Shape4; have g2 := Low4; have g3 := High4
 simp [shp] at g2 g3
 have hc := z_ax 4 (by omega) d n m imm
 simp only [shp, maxD, maxN, maxM, hasD, hasN, hasM] at hc
 generalize hb : (InsM.mk 4 d n m imm).can = b
 rw [show (InsM.mk (4 : Nat) d n m imm).can = b from hb] at hc
 repeat' (first
  | (simp -implicitDefEqProofs +contextual (disch := omega) [z_ah.spec, z_ah, InsAV, f1, f2, f3, f4, g1, g2, g3])
  | (refine z_as (fun h => ?_) (fun h => ?_)))
 all_goals (first | (cases b <;> simp_all <;> omega) | trace_state)
theorem Shape5 : z_ay.spec [.int .i64 5] = some (.str (txtB 5)) := by kernel_rfl
theorem Low5 : z_bj.spec [.int .i64 5] = some (.int .i64 (shp 5).low) := by kernel_rfl
theorem High5 : z_a5.spec [.int .i64 5] = some (.int .i64 (shp 5).high) := by kernel_rfl
theorem Can5 (d n m imm : Int) : z_ah.spec [InsAV ⟨5, d, n, m, imm⟩] = some (.bool (InsM.mk 5 d n m imm).can) := by
 have f1 := z_bc (txtB 5) (txt 5) (z_ai 5 (by omega)) (by decide) 99#8
 have f2 := z_bc (txtB 5) (txt 5) (z_ai 5 (by omega)) (by decide) 100#8
 have f3 := z_bc (txtB 5) (txt 5) (z_ai 5 (by omega)) (by decide) 110#8
 have f4 := z_bc (txtB 5) (txt 5) (z_ai 5 (by omega)) (by decide) 109#8
 simp [txt] at f1 f2 f3 f4
 have g1 := Shape5; have g2 := Low5; have g3 := High5
 simp [shp] at g2 g3
 have hc := z_ax 5 (by omega) d n m imm
 simp only [shp, maxD, maxN, maxM, hasD, hasN, hasM] at hc
 generalize hb : (InsM.mk 5 d n m imm).can = b
 rw [show (InsM.mk (5 : Nat) d n m imm).can = b from hb] at hc
 repeat' (first
  | (simp -implicitDefEqProofs +contextual (disch := omega) [z_ah.spec, z_ah, InsAV, f1, f2, f3, f4, g1, g2, g3])
  | (refine z_as (fun h => ?_) (fun h => ?_)))
 all_goals (first | (cases b <;> simp_all <;> omega) | trace_state)
theorem Shape6 : z_ay.spec [.int .i64 6] = some (.str (txtB 6)) := by kernel_rfl
theorem Low6 : z_bj.spec [.int .i64 6] = some (.int .i64 (shp 6).low) := by kernel_rfl
theorem High6 : z_a5.spec [.int .i64 6] = some (.int .i64 (shp 6).high) := by kernel_rfl
theorem Can6 (d n m imm : Int) : z_ah.spec [InsAV ⟨6, d, n, m, imm⟩] = some (.bool (InsM.mk 6 d n m imm).can) := by
 have f1 := z_bc (txtB 6) (txt 6) (z_ai 6 (by omega)) (by decide) 99#8
 have f2 := z_bc (txtB 6) (txt 6) (z_ai 6 (by omega)) (by decide) 100#8
 have f3 := z_bc (txtB 6) (txt 6) (z_ai 6 (by omega)) (by decide) 110#8
 have f4 := z_bc (txtB 6) (txt 6) (z_ai 6 (by omega)) (by decide) 109#8
 simp [txt] at f1 f2 f3 f4
 have g1 := Shape6; have g2 := Low6; have g3 := High6
 simp [shp] at g2 g3
 have hc := z_ax 6 (by omega) d n m imm
 simp only [shp, maxD, maxN, maxM, hasD, hasN, hasM] at hc
 generalize hb : (InsM.mk 6 d n m imm).can = b
 rw [show (InsM.mk (6 : Nat) d n m imm).can = b from hb] at hc
 repeat' (first
  | (simp -implicitDefEqProofs +contextual (disch := omega) [z_ah.spec, z_ah, InsAV, f1, f2, f3, f4, g1, g2, g3])
  | (refine z_as (fun h => ?_) (fun h => ?_)))
 all_goals (first | (cases b <;> simp_all <;> omega) | trace_state)
theorem Shape7 : z_ay.spec [.int .i64 7] = some (.str (txtB 7)) := by kernel_rfl
theorem Low7 : z_bj.spec [.int .i64 7] = some (.int .i64 (shp 7).low) := by kernel_rfl
theorem High7 : z_a5.spec [.int .i64 7] = some (.int .i64 (shp 7).high) := by kernel_rfl
theorem Can7 (d n m imm : Int) : z_ah.spec [InsAV ⟨7, d, n, m, imm⟩] = some (.bool (InsM.mk 7 d n m imm).can) := by
 have f1 := z_bc (txtB 7) (txt 7) (z_ai 7 (by omega)) (by decide) 99#8
 have f2 := z_bc (txtB 7) (txt 7) (z_ai 7 (by omega)) (by decide) 100#8
 have f3 := z_bc (txtB 7) (txt 7) (z_ai 7 (by omega)) (by decide) 110#8
 have f4 := z_bc (txtB 7) (txt 7) (z_ai 7 (by omega)) (by decide) 109#8
 simp [txt] at f1 f2 f3 f4
 have g1 := Shape7; have g2 := Low7; have g3 := High7
 simp [shp] at g2 g3
 have hc := z_ax 7 (by omega) d n m imm
 simp only [shp, maxD, maxN, maxM, hasD, hasN, hasM] at hc
 generalize hb : (InsM.mk 7 d n m imm).can = b
 rw [show (InsM.mk (7 : Nat) d n m imm).can = b from hb] at hc
 repeat' (first
  | (simp -implicitDefEqProofs +contextual (disch := omega) [z_ah.spec, z_ah, InsAV, f1, f2, f3, f4, g1, g2, g3])
  | (refine z_as (fun h => ?_) (fun h => ?_)))
 all_goals (first | (cases b <;> simp_all <;> omega) | trace_state)
theorem Shape8 : z_ay.spec [.int .i64 8] = some (.str (txtB 8)) := by kernel_rfl
theorem Low8 : z_bj.spec [.int .i64 8] = some (.int .i64 (shp 8).low) := by kernel_rfl
theorem High8 : z_a5.spec [.int .i64 8] = some (.int .i64 (shp 8).high) := by kernel_rfl
theorem Can8 (d n m imm : Int) : z_ah.spec [InsAV ⟨8, d, n, m, imm⟩] = some (.bool (InsM.mk 8 d n m imm).can) := by
 have f1 := z_bc (txtB 8) (txt 8) (z_ai 8 (by omega)) (by decide) 99#8
 have f2 := z_bc (txtB 8) (txt 8) (z_ai 8 (by omega)) (by decide) 100#8
 have f3 := z_bc (txtB 8) (txt 8) (z_ai 8 (by omega)) (by decide) 110#8
 have f4 := z_bc (txtB 8) (txt 8) (z_ai 8 (by omega)) (by decide) 109#8
 simp [txt] at f1 f2 f3 f4
 have g1 := Shape8; have g2 := Low8; have g3 := High8
 simp [shp] at g2 g3
 have hc := z_ax 8 (by omega) d n m imm
 simp only [shp, maxD, maxN, maxM, hasD, hasN, hasM] at hc
 generalize hb : (InsM.mk 8 d n m imm).can = b
 rw [show (InsM.mk (8 : Nat) d n m imm).can = b from hb] at hc
 repeat' (first
  | (simp -implicitDefEqProofs +contextual (disch := omega) [z_ah.spec, z_ah, InsAV, f1, f2, f3, f4, g1, g2, g3])
  | (refine z_as (fun h => ?_) (fun h => ?_)))
 all_goals (first | (cases b <;> simp_all <;> omega) | trace_state)
theorem Shape9 : z_ay.spec [.int .i64 9] = some (.str (txtB 9)) := by kernel_rfl
theorem Low9 : z_bj.spec [.int .i64 9] = some (.int .i64 (shp 9).low) := by kernel_rfl
theorem High9 : z_a5.spec [.int .i64 9] = some (.int .i64 (shp 9).high) := by kernel_rfl
theorem Can9 (d n m imm : Int) : z_ah.spec [InsAV ⟨9, d, n, m, imm⟩] = some (.bool (InsM.mk 9 d n m imm).can) := by
 have f1 := z_bc (txtB 9) (txt 9) (z_ai 9 (by omega)) (by decide) 99#8
 have f2 := z_bc (txtB 9) (txt 9) (z_ai 9 (by omega)) (by decide) 100#8
 have f3 := z_bc (txtB 9) (txt 9) (z_ai 9 (by omega)) (by decide) 110#8
 have f4 := z_bc (txtB 9) (txt 9) (z_ai 9 (by omega)) (by decide) 109#8
 simp [txt] at f1 f2 f3 f4
 have g1 := Shape9; have g2 := Low9; have g3 := High9
 simp [shp] at g2 g3
 have hc := z_ax 9 (by omega) d n m imm
 simp only [shp, maxD, maxN, maxM, hasD, hasN, hasM] at hc
 generalize hb : (InsM.mk 9 d n m imm).can = b
 rw [show (InsM.mk (9 : Nat) d n m imm).can = b from hb] at hc
 repeat' (first
  | (simp -implicitDefEqProofs +contextual (disch := omega) [z_ah.spec, z_ah, InsAV, f1, f2, f3, f4, g1, g2, g3])
  | (refine z_as (fun h => ?_) (fun h => ?_)))
 all_goals (first | (cases b <;> simp_all <;> omega) | trace_state)
theorem Shape10 : z_ay.spec [.int .i64 10] = some (.str (txtB 10)) := by kernel_rfl
theorem Low10 : z_bj.spec [.int .i64 10] = some (.int .i64 (shp 10).low) := by kernel_rfl
theorem High10 : z_a5.spec [.int .i64 10] = some (.int .i64 (shp 10).high) := by kernel_rfl
theorem Can10 (d n m imm : Int) : z_ah.spec [InsAV ⟨10, d, n, m, imm⟩] = some (.bool (InsM.mk 10 d n m imm).can) := by
 have f1 := z_bc (txtB 10) (txt 10) (z_ai 10 (by omega)) (by decide) 99#8
 have f2 := z_bc (txtB 10) (txt 10) (z_ai 10 (by omega)) (by decide) 100#8
 have f3 := z_bc (txtB 10) (txt 10) (z_ai 10 (by omega)) (by decide) 110#8
 have f4 := z_bc (txtB 10) (txt 10) (z_ai 10 (by omega)) (by decide) 109#8
 simp [txt] at f1 f2 f3 f4
 have g1 := Shape10; have g2 := Low10; have g3 := High10
 simp [shp] at g2 g3
 have hc := z_ax 10 (by omega) d n m imm
 simp only [shp, maxD, maxN, maxM, hasD, hasN, hasM] at hc
 generalize hb : (InsM.mk 10 d n m imm).can = b
 rw [show (InsM.mk (10 : Nat) d n m imm).can = b from hb] at hc
 repeat' (first
  | (simp -implicitDefEqProofs +contextual (disch := omega) [z_ah.spec, z_ah, InsAV, f1, f2, f3, f4, g1, g2, g3])
  | (refine z_as (fun h => ?_) (fun h => ?_)))
 all_goals (first | (cases b <;> simp_all <;> omega) | trace_state)
theorem Shape11 : z_ay.spec [.int .i64 11] = some (.str (txtB 11)) := by kernel_rfl
theorem Low11 : z_bj.spec [.int .i64 11] = some (.int .i64 (shp 11).low) := by kernel_rfl
theorem High11 : z_a5.spec [.int .i64 11] = some (.int .i64 (shp 11).high) := by kernel_rfl
theorem Can11 (d n m imm : Int) : z_ah.spec [InsAV ⟨11, d, n, m, imm⟩] = some (.bool (InsM.mk 11 d n m imm).can) := by
 have f1 := z_bc (txtB 11) (txt 11) (z_ai 11 (by omega)) (by decide) 99#8
 have f2 := z_bc (txtB 11) (txt 11) (z_ai 11 (by omega)) (by decide) 100#8
 have f3 := z_bc (txtB 11) (txt 11) (z_ai 11 (by omega)) (by decide) 110#8
 have f4 := z_bc (txtB 11) (txt 11) (z_ai 11 (by omega)) (by decide) 109#8
 simp [txt] at f1 f2 f3 f4
 have g1 := Shape11; have g2 := Low11; have g3 := High11
 simp [shp] at g2 g3
 have hc := z_ax 11 (by omega) d n m imm
 simp only [shp, maxD, maxN, maxM, hasD, hasN, hasM] at hc
 generalize hb : (InsM.mk 11 d n m imm).can = b
 rw [show (InsM.mk (11 : Nat) d n m imm).can = b from hb] at hc
 repeat' (first
  | (simp -implicitDefEqProofs +contextual (disch := omega) [z_ah.spec, z_ah, InsAV, f1, f2, f3, f4, g1, g2, g3])
  | (refine z_as (fun h => ?_) (fun h => ?_)))
 all_goals (first | (cases b <;> simp_all <;> omega) | trace_state)
theorem Shape12 : z_ay.spec [.int .i64 12] = some (.str (txtB 12)) := by kernel_rfl
theorem Low12 : z_bj.spec [.int .i64 12] = some (.int .i64 (shp 12).low) := by kernel_rfl
theorem High12 : z_a5.spec [.int .i64 12] = some (.int .i64 (shp 12).high) := by kernel_rfl
theorem Can12 (d n m imm : Int) : z_ah.spec [InsAV ⟨12, d, n, m, imm⟩] = some (.bool (InsM.mk 12 d n m imm).can) := by
 have f1 := z_bc (txtB 12) (txt 12) (z_ai 12 (by omega)) (by decide) 99#8
 have f2 := z_bc (txtB 12) (txt 12) (z_ai 12 (by omega)) (by decide) 100#8
 have f3 := z_bc (txtB 12) (txt 12) (z_ai 12 (by omega)) (by decide) 110#8
 have f4 := z_bc (txtB 12) (txt 12) (z_ai 12 (by omega)) (by decide) 109#8
 simp [txt] at f1 f2 f3 f4
 have g1 := Shape12; have g2 := Low12; have g3 := High12
 simp [shp] at g2 g3
 have hc := z_ax 12 (by omega) d n m imm
 simp only [shp, maxD, maxN, maxM, hasD, hasN, hasM] at hc
 generalize hb : (InsM.mk 12 d n m imm).can = b
 rw [show (InsM.mk (12 : Nat) d n m imm).can = b from hb] at hc
 repeat' (first
  | (simp -implicitDefEqProofs +contextual (disch := omega) [z_ah.spec, z_ah, InsAV, f1, f2, f3, f4, g1, g2, g3])
  | (refine z_as (fun h => ?_) (fun h => ?_)))
 all_goals (first | (cases b <;> simp_all <;> omega) | trace_state)
theorem Shape13 : z_ay.spec [.int .i64 13] = some (.str (txtB 13)) := by kernel_rfl
theorem Low13 : z_bj.spec [.int .i64 13] = some (.int .i64 (shp 13).low) := by kernel_rfl
theorem High13 : z_a5.spec [.int .i64 13] = some (.int .i64 (shp 13).high) := by kernel_rfl
theorem Can13 (d n m imm : Int) : z_ah.spec [InsAV ⟨13, d, n, m, imm⟩] = some (.bool (InsM.mk 13 d n m imm).can) := by
 have f1 := z_bc (txtB 13) (txt 13) (z_ai 13 (by omega)) (by decide) 99#8
 have f2 := z_bc (txtB 13) (txt 13) (z_ai 13 (by omega)) (by decide) 100#8
 have f3 := z_bc (txtB 13) (txt 13) (z_ai 13 (by omega)) (by decide) 110#8
 have f4 := z_bc (txtB 13) (txt 13) (z_ai 13 (by omega)) (by decide) 109#8
 simp [txt] at f1 f2 f3 f4
 have g1 := Shape13; have g2 := Low13; have g3 := High13
 simp [shp] at g2 g3
 have hc := z_ax 13 (by omega) d n m imm
 simp only [shp, maxD, maxN, maxM, hasD, hasN, hasM] at hc
 generalize hb : (InsM.mk 13 d n m imm).can = b
 rw [show (InsM.mk (13 : Nat) d n m imm).can = b from hb] at hc
 repeat' (first
  | (simp -implicitDefEqProofs +contextual (disch := omega) [z_ah.spec, z_ah, InsAV, f1, f2, f3, f4, g1, g2, g3])
  | (refine z_as (fun h => ?_) (fun h => ?_)))
 all_goals (first | (cases b <;> simp_all <;> omega) | trace_state)
theorem Shape14 : z_ay.spec [.int .i64 14] = some (.str (txtB 14)) := by kernel_rfl
theorem Low14 : z_bj.spec [.int .i64 14] = some (.int .i64 (shp 14).low) := by kernel_rfl
theorem High14 : z_a5.spec [.int .i64 14] = some (.int .i64 (shp 14).high) := by kernel_rfl
theorem Can14 (d n m imm : Int) : z_ah.spec [InsAV ⟨14, d, n, m, imm⟩] = some (.bool (InsM.mk 14 d n m imm).can) := by
 have f1 := z_bc (txtB 14) (txt 14) (z_ai 14 (by omega)) (by decide) 99#8
 have f2 := z_bc (txtB 14) (txt 14) (z_ai 14 (by omega)) (by decide) 100#8
 have f3 := z_bc (txtB 14) (txt 14) (z_ai 14 (by omega)) (by decide) 110#8
 have f4 := z_bc (txtB 14) (txt 14) (z_ai 14 (by omega)) (by decide) 109#8
 simp [txt] at f1 f2 f3 f4
 have g1 := Shape14; have g2 := Low14; have g3 := High14
 simp [shp] at g2 g3
 have hc := z_ax 14 (by omega) d n m imm
 simp only [shp, maxD, maxN, maxM, hasD, hasN, hasM] at hc
 generalize hb : (InsM.mk 14 d n m imm).can = b
 rw [show (InsM.mk (14 : Nat) d n m imm).can = b from hb] at hc
 repeat' (first
  | (simp -implicitDefEqProofs +contextual (disch := omega) [z_ah.spec, z_ah, InsAV, f1, f2, f3, f4, g1, g2, g3])
  | (refine z_as (fun h => ?_) (fun h => ?_)))
 all_goals (first | (cases b <;> simp_all <;> omega) | trace_state)
theorem Shape15 : z_ay.spec [.int .i64 15] = some (.str (txtB 15)) := by kernel_rfl
theorem Low15 : z_bj.spec [.int .i64 15] = some (.int .i64 (shp 15).low) := by kernel_rfl
theorem High15 : z_a5.spec [.int .i64 15] = some (.int .i64 (shp 15).high) := by kernel_rfl
theorem Can15 (d n m imm : Int) : z_ah.spec [InsAV ⟨15, d, n, m, imm⟩] = some (.bool (InsM.mk 15 d n m imm).can) := by
 have f1 := z_bc (txtB 15) (txt 15) (z_ai 15 (by omega)) (by decide) 99#8
 have f2 := z_bc (txtB 15) (txt 15) (z_ai 15 (by omega)) (by decide) 100#8
 have f3 := z_bc (txtB 15) (txt 15) (z_ai 15 (by omega)) (by decide) 110#8
 have f4 := z_bc (txtB 15) (txt 15) (z_ai 15 (by omega)) (by decide) 109#8
 simp [txt] at f1 f2 f3 f4
 have g1 := Shape15; have g2 := Low15; have g3 := High15
 simp [shp] at g2 g3
 have hc := z_ax 15 (by omega) d n m imm
 simp only [shp, maxD, maxN, maxM, hasD, hasN, hasM] at hc
 generalize hb : (InsM.mk 15 d n m imm).can = b
 rw [show (InsM.mk (15 : Nat) d n m imm).can = b from hb] at hc
 repeat' (first
  | (simp -implicitDefEqProofs +contextual (disch := omega) [z_ah.spec, z_ah, InsAV, f1, f2, f3, f4, g1, g2, g3])
  | (refine z_as (fun h => ?_) (fun h => ?_)))
 all_goals (first | (cases b <;> simp_all <;> omega) | trace_state)
theorem Shape16 : z_ay.spec [.int .i64 16] = some (.str (txtB 16)) := by kernel_rfl
theorem Low16 : z_bj.spec [.int .i64 16] = some (.int .i64 (shp 16).low) := by kernel_rfl
theorem High16 : z_a5.spec [.int .i64 16] = some (.int .i64 (shp 16).high) := by kernel_rfl
theorem Can16 (d n m imm : Int) : z_ah.spec [InsAV ⟨16, d, n, m, imm⟩] = some (.bool (InsM.mk 16 d n m imm).can) := by
 have f1 := z_bc (txtB 16) (txt 16) (z_ai 16 (by omega)) (by decide) 99#8
 have f2 := z_bc (txtB 16) (txt 16) (z_ai 16 (by omega)) (by decide) 100#8
 have f3 := z_bc (txtB 16) (txt 16) (z_ai 16 (by omega)) (by decide) 110#8
 have f4 := z_bc (txtB 16) (txt 16) (z_ai 16 (by omega)) (by decide) 109#8
 simp [txt] at f1 f2 f3 f4
 have g1 := Shape16; have g2 := Low16; have g3 := High16
 simp [shp] at g2 g3
 have hc := z_ax 16 (by omega) d n m imm
 simp only [shp, maxD, maxN, maxM, hasD, hasN, hasM] at hc
 generalize hb : (InsM.mk 16 d n m imm).can = b
 rw [show (InsM.mk (16 : Nat) d n m imm).can = b from hb] at hc
 repeat' (first
  | (simp -implicitDefEqProofs +contextual (disch := omega) [z_ah.spec, z_ah, InsAV, f1, f2, f3, f4, g1, g2, g3])
  | (refine z_as (fun h => ?_) (fun h => ?_)))
 all_goals (first | (cases b <;> simp_all <;> omega) | trace_state)
theorem Shape17 : z_ay.spec [.int .i64 17] = some (.str (txtB 17)) := by kernel_rfl
theorem Low17 : z_bj.spec [.int .i64 17] = some (.int .i64 (shp 17).low) := by kernel_rfl
theorem High17 : z_a5.spec [.int .i64 17] = some (.int .i64 (shp 17).high) := by kernel_rfl
theorem Can17 (d n m imm : Int) : z_ah.spec [InsAV ⟨17, d, n, m, imm⟩] = some (.bool (InsM.mk 17 d n m imm).can) := by
 have f1 := z_bc (txtB 17) (txt 17) (z_ai 17 (by omega)) (by decide) 99#8
 have f2 := z_bc (txtB 17) (txt 17) (z_ai 17 (by omega)) (by decide) 100#8
 have f3 := z_bc (txtB 17) (txt 17) (z_ai 17 (by omega)) (by decide) 110#8
 have f4 := z_bc (txtB 17) (txt 17) (z_ai 17 (by omega)) (by decide) 109#8
 simp [txt] at f1 f2 f3 f4
 have g1 := Shape17; have g2 := Low17; have g3 := High17
 simp [shp] at g2 g3
 have hc := z_ax 17 (by omega) d n m imm
 simp only [shp, maxD, maxN, maxM, hasD, hasN, hasM] at hc
 generalize hb : (InsM.mk 17 d n m imm).can = b
 rw [show (InsM.mk (17 : Nat) d n m imm).can = b from hb] at hc
 repeat' (first
  | (simp -implicitDefEqProofs +contextual (disch := omega) [z_ah.spec, z_ah, InsAV, f1, f2, f3, f4, g1, g2, g3])
  | (refine z_as (fun h => ?_) (fun h => ?_)))
 all_goals (first | (cases b <;> simp_all <;> omega) | trace_state)
theorem Shape18 : z_ay.spec [.int .i64 18] = some (.str (txtB 18)) := by kernel_rfl
theorem Low18 : z_bj.spec [.int .i64 18] = some (.int .i64 (shp 18).low) := by kernel_rfl
theorem High18 : z_a5.spec [.int .i64 18] = some (.int .i64 (shp 18).high) := by kernel_rfl
theorem Can18 (d n m imm : Int) : z_ah.spec [InsAV ⟨18, d, n, m, imm⟩] = some (.bool (InsM.mk 18 d n m imm).can) := by
 have f1 := z_bc (txtB 18) (txt 18) (z_ai 18 (by omega)) (by decide) 99#8
 have f2 := z_bc (txtB 18) (txt 18) (z_ai 18 (by omega)) (by decide) 100#8
 have f3 := z_bc (txtB 18) (txt 18) (z_ai 18 (by omega)) (by decide) 110#8
 have f4 := z_bc (txtB 18) (txt 18) (z_ai 18 (by omega)) (by decide) 109#8
 simp [txt] at f1 f2 f3 f4
 have g1 := Shape18; have g2 := Low18; have g3 := High18
 simp [shp] at g2 g3
 have hc := z_ax 18 (by omega) d n m imm
 simp only [shp, maxD, maxN, maxM, hasD, hasN, hasM] at hc
 generalize hb : (InsM.mk 18 d n m imm).can = b
 rw [show (InsM.mk (18 : Nat) d n m imm).can = b from hb] at hc
 repeat' (first
  | (simp -implicitDefEqProofs +contextual (disch := omega) [z_ah.spec, z_ah, InsAV, f1, f2, f3, f4, g1, g2, g3])
  | (refine z_as (fun h => ?_) (fun h => ?_)))
 all_goals (first | (cases b <;> simp_all <;> omega) | trace_state)
theorem Shape19 : z_ay.spec [.int .i64 19] = some (.str (txtB 19)) := by kernel_rfl
theorem Low19 : z_bj.spec [.int .i64 19] = some (.int .i64 (shp 19).low) := by kernel_rfl
theorem High19 : z_a5.spec [.int .i64 19] = some (.int .i64 (shp 19).high) := by kernel_rfl
theorem Can19 (d n m imm : Int) : z_ah.spec [InsAV ⟨19, d, n, m, imm⟩] = some (.bool (InsM.mk 19 d n m imm).can) := by
 have f1 := z_bc (txtB 19) (txt 19) (z_ai 19 (by omega)) (by decide) 99#8
 have f2 := z_bc (txtB 19) (txt 19) (z_ai 19 (by omega)) (by decide) 100#8
 have f3 := z_bc (txtB 19) (txt 19) (z_ai 19 (by omega)) (by decide) 110#8
 have f4 := z_bc (txtB 19) (txt 19) (z_ai 19 (by omega)) (by decide) 109#8
 simp [txt] at f1 f2 f3 f4
 have g1 := Shape19; have g2 := Low19; have g3 := High19
 simp [shp] at g2 g3
 have hc := z_ax 19 (by omega) d n m imm
 simp only [shp, maxD, maxN, maxM, hasD, hasN, hasM] at hc
 generalize hb : (InsM.mk 19 d n m imm).can = b
 rw [show (InsM.mk (19 : Nat) d n m imm).can = b from hb] at hc
 repeat' (first
  | (simp -implicitDefEqProofs +contextual (disch := omega) [z_ah.spec, z_ah, InsAV, f1, f2, f3, f4, g1, g2, g3])
  | (refine z_as (fun h => ?_) (fun h => ?_)))
 all_goals (first | (cases b <;> simp_all <;> omega) | trace_state)
theorem Shape20 : z_ay.spec [.int .i64 20] = some (.str (txtB 20)) := by kernel_rfl
theorem Low20 : z_bj.spec [.int .i64 20] = some (.int .i64 (shp 20).low) := by kernel_rfl
theorem High20 : z_a5.spec [.int .i64 20] = some (.int .i64 (shp 20).high) := by kernel_rfl
theorem Can20 (d n m imm : Int) : z_ah.spec [InsAV ⟨20, d, n, m, imm⟩] = some (.bool (InsM.mk 20 d n m imm).can) := by
 have f1 := z_bc (txtB 20) (txt 20) (z_ai 20 (by omega)) (by decide) 99#8
 have f2 := z_bc (txtB 20) (txt 20) (z_ai 20 (by omega)) (by decide) 100#8
 have f3 := z_bc (txtB 20) (txt 20) (z_ai 20 (by omega)) (by decide) 110#8
 have f4 := z_bc (txtB 20) (txt 20) (z_ai 20 (by omega)) (by decide) 109#8
 simp [txt] at f1 f2 f3 f4
 have g1 := Shape20; have g2 := Low20; have g3 := High20
 simp [shp] at g2 g3
 have hc := z_ax 20 (by omega) d n m imm
 simp only [shp, maxD, maxN, maxM, hasD, hasN, hasM] at hc
 generalize hb : (InsM.mk 20 d n m imm).can = b
 rw [show (InsM.mk (20 : Nat) d n m imm).can = b from hb] at hc
 repeat' (first
  | (simp -implicitDefEqProofs +contextual (disch := omega) [z_ah.spec, z_ah, InsAV, f1, f2, f3, f4, g1, g2, g3])
  | (refine z_as (fun h => ?_) (fun h => ?_)))
 all_goals (first | (cases b <;> simp_all <;> omega) | trace_state)
end Go.Abs
end
section
namespace Go.Abs
open Th
theorem z_ox (i : InsM) : z_ah.spec [InsAV i] = some (.bool i.can) := by
 obtain ⟨op, d, n, m, imm⟩ := i
 by_cases h : 0 ≤ op ∧ op ≤ 20
 ·obtain ⟨k, rfl⟩ : ∃ k : Nat, op = k := ⟨op.toNat, by omega⟩
  exact cases21 (P := fun k => z_ah.spec [InsAV ⟨k, d, n, m, imm⟩] = some (.bool (InsM.mk k d n m imm).can)) k (by omega) (Can0 d n m imm) (Can1 d n m imm) (Can2 d n m imm) (Can3 d n m imm) (Can4 d n m imm) (Can5 d n m imm) (Can6 d n m imm) (Can7 d n m imm) (Can8 d n m imm) (Can9 d n m imm) (Can10 d n m imm)
   (Can11 d n m imm) (Can12 d n m imm) (Can13 d n m imm) (Can14 d n m imm) (Can15 d n m imm) (Can16 d n m imm) (Can17 d n m imm) (Can18 d n m imm) (Can19 d n m imm) (Can20 d n m imm)
 ·have hc : (InsM.mk op d n m imm).can = false := by
   rw [Bool.eq_false_iff, Ne, z_gp]; exact fun q => h q.1
  have h' : op < 0 ∨ 20 < op := by omega
  rw [hc]
  simp -implicitDefEqProofs +contextual (disch := omega) [z_ah.spec, z_ah, InsAV, h']
theorem z_ws (op : Nat) (h : op ≤ 20) : z_ay.spec [.int .i64 (op : Nat)] = some (.str (txtB op)) :=
 cases21 (P := fun op => z_ay.spec [.int .i64 (op : Nat)] = some (.str (txtB op))) op h Shape0 Shape1 Shape2 Shape3 Shape4 Shape5 Shape6 Shape7 Shape8 Shape9 Shape10 Shape11 Shape12 Shape13 Shape14 Shape15 Shape16 Shape17 Shape18 Shape19 Shape20
theorem Low_eq (op : Nat) (h : op ≤ 20) : z_bj.spec [.int .i64 (op : Nat)] = some (.int .i64 (shp op).low) :=
 cases21 (P := fun op => z_bj.spec [.int .i64 (op : Nat)] = some (.int .i64 (shp op).low)) op h Low0 Low1 Low2 Low3 Low4 Low5 Low6 Low7 Low8 Low9 Low10 Low11 Low12 Low13 Low14 Low15 Low16 Low17 Low18 Low19 Low20
theorem z_0b (op : Nat) (h : op ≤ 20) : z_a5.spec [.int .i64 (op : Nat)] = some (.int .i64 (shp op).high) :=
 cases21 (P := fun op => z_a5.spec [.int .i64 (op : Nat)] = some (.int .i64 (shp op).high)) op h High0 High1 High2 High3 High4 High5 High6 High7 High8 High9 High10 High11 High12 High13 High14 High15 High16 High17 High18 High19 High20
theorem z_xp (op : Nat) (h : op ≤ 20) : (txt op).length = 16 := by
 have : ∀ op : Nat, op ≤ 20 → (txt op).length = 16 := by decide
 exact this op h
end Go.Abs
end
section
section
namespace Go.Abs
open Th
def regT (n : Int) : List UInt8 := 114 :: num n.toNat
def immT (n : Int) : List UInt8 := 35 :: num n.toNat
def csT : List UInt8 := [44, 32]
def aluT (n : Int) : List UInt8 :=
 if n = 0 then [97, 110, 100, 115] else if n = 1 then [101, 111, 114, 115] else if n = 7 then [114, 111, 114, 115] else [109, 118, 110, 115]
def showI (i : InsM) : List UInt8 :=
 if i.op = 0 then [109, 111, 118, 115, 32] ++ (regT i.d ++ csT) ++ immT i.imm
 else if i.op = 2 then [97, 100, 100, 115, 32] ++ (regT i.d ++ csT) ++ immT i.imm
 else if i.op = 4 then [108, 115, 108, 115, 32] ++ (regT i.d ++ csT) ++ regT i.m ++ csT ++ immT i.imm
 else if i.op = 5 then [108, 115, 114, 115, 32] ++ (regT i.d ++ csT) ++ regT i.m ++ csT ++ immT i.imm
 else if i.op = 11 then aluT i.imm ++ [32] ++ (regT i.d ++ csT) ++ regT i.m
 else if i.op = 12 then [108, 100, 114, 32] ++ (regT i.d ++ csT) ++ [91] ++ regT i.n ++ csT ++ immT (4 * i.imm) ++ [93]
 else if i.op = 14 then [108, 100, 114, 32] ++ (regT i.d ++ csT) ++ [91] ++ regT i.n ++ csT ++ regT i.m ++ [93]
 else [115, 116, 114, 32] ++ (regT i.d ++ csT) ++ [91] ++ regT i.n ++ csT ++ regT i.m ++ [93]
def usedI (i : InsM) : Prop := (i.op = 0 ∨ i.op = 2 ∨ i.op = 4 ∨ i.op = 5 ∨ (i.op = 11 ∧ (i.imm = 0 ∨ i.imm = 1 ∨ i.imm = 7 ∨ i.imm = 15)) ∨ i.op = 12 ∨ i.op = 14 ∨ i.op = 15) ∧ i.can = true
theorem z_e7 (n : Int) (h : 0 ≤ n ∧ n ≤ 7) : z_c6.spec [.int .i64 n] = some (.str (bs (regT n))) := by
 obtain ⟨k, rfl⟩ : ∃ k : Nat, n = k := ⟨n.toNat, by omega⟩
 have hn := z_xl k (by omega)
 have hl := z_ls k
 unfold regT
 rw [Int.toNat_natCast]
 generalize num k = l at *
 simp -implicitDefEqProofs +contextual (disch := omega) [z_c6.spec, z_c6, hn]
theorem z_nf (n : Int) (h : 0 ≤ n ∧ n ≤ 100000) : z_do.spec [.int .i64 n] = some (.str (bs (immT n))) := by
 obtain ⟨k, rfl⟩ : ∃ k : Nat, n = k := ⟨n.toNat, by omega⟩
 have hn := z_xl k (by omega)
 have hl := z_ls k
 unfold immT
 rw [Int.toNat_natCast]
 generalize num k = l at *
 simp -implicitDefEqProofs +contextual (disch := omega) [z_do.spec, z_do, hn]
theorem z_lp (n : Int) : (regT n).length ≤ 20 := by have := z_ls n.toNat; simp [regT]; omega
theorem z_p0 (n : Int) : (immT n).length ≤ 20 := by have := z_ls n.toNat; simp [immT]; omega
def z_gr : List (List AV) := [[(.str (bs [97, 110, 100, 115]))], [(.str (bs [101, 111, 114, 115]))], [(.str (bs [108, 115, 108, 115]))], [(.str (bs [108, 115, 114, 115]))], [(.str (bs [97, 115, 114, 115]))], [(.str (bs [97, 100, 99, 115]))], [(.str (bs [115, 98, 99, 115]))], [(.str (bs [114, 111, 114, 115]))], [(.str (bs [116, 115, 116]))], [(.str (bs [114, 115, 98, 115]))], [(.str (bs [99, 109, 112]))], [(.str (bs [99, 109, 110]))], [(.str (bs [111, 114, 114, 115]))], [(.str (bs [109, 117, 108, 115]))], [(.str (bs [98, 105, 99, 115]))], [(.str (bs [109, 118, 110, 115]))]]
theorem build16 (H : Hp) : z_ad (some ⟨T.ty_string, 1, 16, [(.str (bs []))]⟩) 16 [(0, (.str (bs [97, 110, 100, 115]))), (1, (.str (bs [101, 111, 114, 115]))), (2, (.str (bs [108, 115, 108, 115]))), (3, (.str (bs [108, 115, 114, 115]))), (4, (.str (bs [97, 115, 114, 115]))), (5, (.str (bs [97, 100, 99, 115]))), (6, (.str (bs [115, 98, 99, 115]))), (7, (.str (bs [114, 111, 114, 115]))), (8, (.str (bs [116, 115, 116]))), (9, (.str (bs [114, 115, 98, 115]))), (10, (.str (bs [99, 109, 112]))), (11, (.str (bs [99, 109, 110]))), (12, (.str (bs [111, 114, 114, 115]))), (13, (.str (bs [109, 117, 108, 115]))), (14, (.str (bs [98, 105, 99, 115]))), (15, (.str (bs [109, 118, 110, 115])))] H = some (.sl H.next 1 0 16, H.push ⟨T.ty_string, 1, true, z_gr⟩) := rfl
theorem z_uh : z_gr[0]? = some [.str (bs [97, 110, 100, 115])] := rfl
theorem z_ug : z_gr[1]? = some [.str (bs [101, 111, 114, 115])] := rfl
theorem z_uf : z_gr[7]? = some [.str (bs [114, 111, 114, 115])] := rfl
theorem z_rg : z_gr[15]? = some [.str (bs [109, 118, 110, 115])] := rfl
theorem z_u9 (op : Nat) (nm D M : List UInt8) (hn : z_gr[op]? = some [.str (bs nm)]) (hop : op < 16) (d n m : Int) (hD : D.length ≤ 30) (hM : M.length ≤ 30) (hnm : nm.length ≤ 10) (e3 : z_c6.spec [.int .i64 m] = some (.str (bs M))) (H : Hp) (hw : H.WF)
  (h0 : H.get 0 = some ⟨T.ty_api_Ins, 5, true, [[.int .i64 11, .int .i64 d, .int .i64 n, .int .i64 m, .int .i64 op]]⟩) (v : AV) :
  ∃ H', z_bh.r14 z_c6.spec (AFr.al [(1, .ptr 0 5 0 0), (4, .str (bs D)), (5, .int .i64 11), (85, v)]) H = some (.normal, AFr.al [(2, .str (bs (nm ++ [32] ++ D ++ M))), (3, .bool true)], H') := by
 have b0 := hw _ _ h0
 simp only [z_bh.r14]
 rw [build16]
 generalize z_gr = R at *
 refine ⟨_, by simp -implicitDefEqProofs +contextual (disch := omega) [h0, hn, e3]; rfl⟩
theorem z_oj {op : Nat} {D M : List UInt8} {d n m : Int} {H : Hp} {v : AV} {r : ARes} (hr : z_bh.r14 z_c6.spec (AFr.al [(1, .ptr 0 5 0 0), (4, .str (bs D)), (5, .int .i64 11), (85, v)]) H = r) (nm : List UInt8) (hn : z_gr[op]? = some [.str (bs nm)]) (hop : op < 16) (hD : D.length ≤ 30) (hM : M.length ≤ 30) (hnm : nm.length ≤ 10) (e3 : z_c6.spec [.int .i64 m] = some (.str (bs M))) (hw : H.WF)
  (h0 : H.get 0 = some ⟨T.ty_api_Ins, 5, true, [[.int .i64 11, .int .i64 d, .int .i64 n, .int .i64 m, .int .i64 op]]⟩) :
  ∃ H', r = some (.normal, AFr.al [(2, .str (bs (nm ++ [32] ++ D ++ M))), (3, .bool true)], H') := by
 subst hr; exact z_u9 op nm D M hn hop d n m hD hM hnm e3 H hw h0 v
theorem z_z9 (i : InsM) (h : usedI i) : z_bh.spec [InsAV i] = some (.tup [.str (bs (showI i)), .bool true]) := by
 obtain ⟨hop, hcan⟩ := h
 have hc := z_ox i
 rw [hcan] at hc
 obtain ⟨⟨h0, h20⟩, l1, l2, l3, l4, l5, l6, l7, l8⟩ := (z_gp i).1 hcan
 obtain ⟨op, d, n, m, imm⟩ := i
 dsimp only at *
 simp only [InsAV] at *
 have rd := z_lp d
 have rn := z_lp n
 have rm := z_lp m
 have ri := z_p0 imm
 have ri4 := z_p0 (4 * imm)
 rcases hop with rfl | rfl | rfl | rfl | ⟨rfl, hi⟩ | rfl | rfl | rfl
 all_goals simp [shp, maxD, maxN, maxM, hasD, hasN, hasM] at l1 l2 l3 l4 l5 l6 l7 l8
 ·have e1 := z_e7 d (by omega)
  have e2 := z_nf imm (by omega)
  simp only [showI, csT, if_true]
  generalize regT d = D at *
  generalize immT imm = I at *
  simp -implicitDefEqProofs +contextual (disch := omega) [z_bh.spec, z_bh, hc, e1, e2]
 ·have e1 := z_e7 d (by omega)
  have e2 := z_nf imm (by omega)
  simp [showI, csT]
  generalize regT d = D at *
  generalize immT imm = I at *
  simp -implicitDefEqProofs +contextual (disch := omega) [z_bh.spec, z_bh, hc, e1, e2]
 ·have e1 := z_e7 d (by omega)
  have e2 := z_nf imm (by omega)
  have e3 := z_e7 m (by omega)
  simp [showI, csT]
  generalize regT d = D at *
  generalize regT m = M at *
  generalize immT imm = I at *
  simp -implicitDefEqProofs +contextual (disch := omega) [z_bh.spec, z_bh, hc, e1, e2, e3]
 ·have e1 := z_e7 d (by omega)
  have e2 := z_nf imm (by omega)
  have e3 := z_e7 m (by omega)
  simp [showI, csT]
  generalize regT d = D at *
  generalize regT m = M at *
  generalize immT imm = I at *
  simp -implicitDefEqProofs +contextual (disch := omega) [z_bh.spec, z_bh, hc, e1, e2, e3]
 ·have e1 := z_e7 d (by omega)
  have e3 := z_e7 m (by omega)
  have hi' : ∃ k : Nat, imm = k ∧ k < 16 ∧ ∃ nm, z_gr[k]? = some [.str (bs nm)] ∧ nm.length ≤ 10 ∧ aluT k = nm := by
   rcases hi with rfl | rfl | rfl | rfl
   ·exact ⟨0, rfl, by decide, _, z_uh, by decide, rfl⟩
   ·exact ⟨1, rfl, by decide, _, z_ug, by decide, rfl⟩
   ·exact ⟨7, rfl, by decide, _, z_uf, by decide, rfl⟩
   ·exact ⟨15, rfl, by decide, _, z_rg, by decide, rfl⟩
  obtain ⟨k, rfl, hk, nm, q1, q2, q3⟩ := hi'
  have hsh : showI ⟨11, d, n, m, (k : Int)⟩ = nm ++ [32] ++ (regT d ++ csT) ++ regT m := by simp [showI, q3]
  rw [hsh]
  simp only [csT]
  generalize regT d = D at *
  generalize regT m = M at *
  simp -implicitDefEqProofs +contextual (disch := omega) [z_bh.spec, z_bh, hc, e1, -z_bh.r14]
  generalize hr : z_bh.r14 _ _ _ = r
  obtain ⟨H', rfl⟩ := z_oj (d := d) (n := n) hr nm q1 hk (by simp; omega) (by omega) q2 e3 (by (repeat' (first | assumption | with_reducible apply Hp.WF.push | with_reducible apply Hp.WF.set | with_reducible apply z_az | exact Hp.WF.empty)) <;> (simp <;> omega)) (by simp)
  simp -implicitDefEqProofs +contextual (disch := omega) []
 ·have e1 := z_e7 d (by omega)
  have e2 := z_nf (4 * imm) (by omega)
  have e3 := z_e7 n (by omega)
  simp [showI, csT]
  generalize regT d = D at *
  generalize regT n = M at *
  generalize immT (4 * imm) = I at *
  simp -implicitDefEqProofs +contextual (disch := omega) [z_bh.spec, z_bh, hc, e1, e2, e3]
 ·have e1 := z_e7 d (by omega)
  have e2 := z_e7 n (by omega)
  have e3 := z_e7 m (by omega)
  simp [showI, csT]
  generalize regT d = D at *
  generalize regT n = N at *
  generalize regT m = M at *
  simp -implicitDefEqProofs +contextual (disch := omega) [z_bh.spec, z_bh, hc, e1, e2, e3]
 ·have e1 := z_e7 d (by omega)
  have e2 := z_e7 n (by omega)
  have e3 := z_e7 m (by omega)
  simp [showI, csT]
  generalize regT d = D at *
  generalize regT n = N at *
  generalize regT m = M at *
  simp -implicitDefEqProofs +contextual (disch := omega) [z_bh.spec, z_bh, hc, e1, e2, e3]
end Go.Abs
end
section
namespace Go.Abs
open Th
def z_fx (l : List (List UInt8)) : List (List AV) := l.map fun s => [.str (bs s)]
@[simp] theorem z_uq (l : List (List UInt8)) : (z_fx l).length = l.length := by simp [z_fx]
def z_hi (l : List InsM) : List (List UInt8) := l.map showI
@[simp] theorem z_vv (l : List InsM) : (z_hi l).length = l.length := by simp [z_hi]
end Go.Abs
end
section
namespace Go.Abs
open Th
def UsedL (l : List InsM) : Prop := ∀ i ∈ l, usedI i
noncomputable abbrev ssL := z_cw.l0 z_bh.spec
theorem z_ok (l : List InsM) (hu : UsedL l) (hl : l.length ≤ 1000000) (X : Hp) {r}
  (hr : aloop ssL (AFr.al [(0, .rsl 5 (z_a4 l)), (1, .rsl 1 (z_fx (z_hi l))), (5, .int .i64 0)]) X = r) :
  ∃ e fr' X', r = some (e, fr', X') ∧ (e = .exit 0) := by
 refine z_ee hr (z_cf l.length (fun k fr H => ∃ y, fr = AFr.al ([(0, .rsl 5 (z_a4 l)), (1, .rsl 1 (z_fx (z_hi l))), (5, .int .i64 k)] ++ y)) _ (fun k hk fr H hR => ?_) (fun fr H hR => ?_) ⟨[], rfl⟩)
 ·obtain ⟨y, rfl⟩ := hR
  have hk' : (k : Int) < l.length := by omega
  have hk1 : ((k + 1 : Nat) : Int) = (k : Int) + 1 := by omega
  have h1 := z_j3 l k hk
  have h2 : (z_fx (z_hi l))[k]? = some [.str (bs (showI l[k]))] := by simp [z_fx, z_hi, hk]
  have hS := z_z9 l[k] (hu _ (List.getElem_mem hk))
  rw [hk1]
  have hR1 : (z_a4 l).length = l.length := z_fz l
  have hR2 : (z_fx (z_hi l)).length = l.length := by simp
  generalize z_a4 l = R1 at *
  generalize z_fx (z_hi l) = R2 at *
  generalize l[k] = i at *
  unfold InsAV at hS
  unfold z_ed at h1
  generalize showI i = s at *
  refine ⟨_, _, _, by simp -implicitDefEqProofs +contextual (disch := omega) [z_cw.l0, hk', h1, h2, hS, hR1, hR2, -getElem?_pos]; first | rfl | exact ⟨rfl, rfl⟩ | exact ⟨rfl, rfl, rfl⟩, .inl ⟨rfl, _, rfl⟩⟩
 ·obtain ⟨y, rfl⟩ := hR
  refine ⟨_, _, _, by simp -implicitDefEqProofs +contextual (disch := omega) [z_cw.l0]; first | rfl | exact ⟨rfl, rfl⟩ | exact ⟨rfl, rfl, rfl⟩, by simp, rfl⟩
theorem z_qs (l : List InsM) (hu : UsedL l) (hl : l.length ≤ 1000000) : z_cw.spec [.rsl 5 (z_a4 l), .rsl 1 (z_fx (z_hi l))] = some (.bool true) := by
 simp -implicitDefEqProofs +contextual (disch := omega) [z_cw.spec, z_cw]
 generalize hr : aloop _ _ _ = r
 obtain ⟨e, fr', X', rfl, rfl⟩ := z_ok l hu hl _ hr
 simp -implicitDefEqProofs +contextual (disch := omega) []
end Go.Abs
end
section
namespace Go.Abs
open Th
theorem can_k (k : Nat) (hk : k ≤ 20) (d n m imm : Int) (h : (shp k).low ≤ imm ∧ imm ≤ (shp k).high ∧ 0 ≤ d ∧ d ≤ maxD k ∧ 0 ≤ n ∧ n ≤ maxN k ∧ 0 ≤ m ∧ m ≤ maxM k) : (InsM.mk (k : Nat) d n m imm).can = true := (z_ax k hk d n m imm).2 h
theorem z_gb (d n : Int) (hd : 0 ≤ d ∧ d ≤ 7) (hn : 0 ≤ n ∧ n ≤ 255) : usedI (mvI d n) :=
 ⟨.inl rfl, can_k 0 (by omega) d 0 0 n ⟨hn.1, hn.2, hd.1, hd.2, by decide, by decide, by decide, by decide⟩⟩
theorem z_od (d n : Int) (hd : 0 ≤ d ∧ d ≤ 7) (hn : 0 ≤ n ∧ n ≤ 255) : usedI (adI d n) :=
 ⟨.inr (.inl rfl), can_k 2 (by omega) d 0 0 n ⟨hn.1, hn.2, hd.1, hd.2, by decide, by decide, by decide, by decide⟩⟩
theorem z_hn (d n : Int) (hd : 0 ≤ d ∧ d ≤ 7) (hn : 0 ≤ n ∧ n ≤ 31) : usedI (lfI d n) :=
 ⟨.inr (.inr (.inl rfl)), can_k 4 (by omega) d 0 d n ⟨hn.1, hn.2, hd.1, hd.2, by decide, by decide, hd.1, hd.2⟩⟩
theorem z_po (d n : Int) (hd : 0 ≤ d ∧ d ≤ 7) (hn : 1 ≤ n ∧ n ≤ 32) : usedI ⟨5, d, 0, d, n⟩ :=
 ⟨.inr (.inr (.inr (.inl rfl))), can_k 5 (by omega) d 0 d n ⟨hn.1, hn.2, hd.1, hd.2, by decide, by decide, hd.1, hd.2⟩⟩
theorem z_gx (op d m : Int) (ho : op = 0 ∨ op = 1 ∨ op = 7 ∨ op = 15) (hd : 0 ≤ d ∧ d ≤ 7) (hm : 0 ≤ m ∧ m ≤ 7) : usedI (alI op d m) := by
 refine ⟨.inr (.inr (.inr (.inr (.inl ⟨rfl, ho⟩)))), can_k 11 (by omega) d 0 m op ⟨?_, ?_, hd.1, hd.2, by decide, by decide, hm.1, hm.2⟩⟩
 ·show (0 : Int) ≤ op; omega
 ·show op ≤ (15 : Int); omega
theorem z_ut : usedI ⟨12, 0, 5, 0, 0⟩ := ⟨.inr (.inr (.inr (.inr (.inr (.inl rfl))))), by decide⟩
theorem z_us (r : Int) (hr : 0 ≤ r ∧ r ≤ 7) : usedI ⟨14, r, 7, 6, 0⟩ :=
 ⟨.inr (.inr (.inr (.inr (.inr (.inr (.inl rfl)))))), can_k 14 (by omega) r 7 6 0 ⟨by decide, by decide, hr.1, hr.2, by decide, by decide, by decide, by decide⟩⟩
theorem z_ur : usedI ⟨15, 0, 7, 6, 0⟩ := ⟨.inr (.inr (.inr (.inr (.inr (.inr (.inr rfl)))))), by decide⟩
theorem UsedL.append {a b : List InsM} (ha : UsedL a) (hb : UsedL b) : UsedL (a ++ b) := fun i hi => (List.mem_append.1 hi).elim (ha i) (hb i)
theorem UsedL.one {i : InsM} (h : usedI i) : UsedL [i] := fun j hj => by rw [List.mem_singleton.1 hj]; exact h
theorem UsedL.cons {i : InsM} {l : List InsM} (h : usedI i) (hl : UsedL l) : UsedL (i :: l) := fun j hj => (List.mem_cons.1 hj).elim (fun e => e ▸ h) (hl j)
theorem UsedL.nil : UsedL [] := fun j hj => by simp at hj
theorem z_qa (n : Nat) (h : n ≤ 16000) : UsedL (atI n) := by
 unfold atI
 split
 ·exact .one (z_gb _ _ (by omega) (by omega))
 ·exact .cons (z_gb _ _ (by omega) (by omega)) (.cons (z_hn _ _ (by omega) (by omega)) (.one (z_od _ _ (by omega) (by omega))))
theorem z_th (r : Int) (hr : 0 ≤ r ∧ r ≤ 7) (n : Nat) (h : n ≤ 16000) : UsedL (getI r n) := (z_qa n h).append (.one (z_us r hr))
theorem z_sx (n : Nat) (h : n ≤ 16000) : UsedL (putI n) := (z_qa n h).append (.one z_ur)
theorem z_pe : UsedL z_i5 := .cons (z_gb _ _ (by decide) (by decide)) (.cons (z_hn _ _ (by decide) (by decide)) (.cons (z_gb _ _ (by decide) (by decide)) (.one (z_hn _ _ (by decide) (by decide)))))
theorem z_wf (v : BitVec 32) (j : Nat) : byteI v j ≤ 255 := by
 unfold byteI
 rw [BitVec.toNat_and]
 exact Nat.and_le_right
theorem z_i4 (v : BitVec 32) : ∀ j, UsedL (z_du v j)
 | 0 => UsedL.nil
 | j + 1 => by
  have hb := z_wf v j
  unfold z_du
  split
  ·exact (z_i4 v j).append (.cons (z_hn _ _ (by decide) (by decide)) (.one (z_od _ _ (by decide) (by omega))))
  ·split
   ·exact .one (z_gb _ _ (by decide) (by omega))
   ·exact UsedL.nil
def numOk (o : OpM) : Prop := (o.k = 4 ∨ o.k = 5 ∨ o.k = 6) → o.n.toNat < 32
theorem z_q6 (o : OpM) (hn : numOk o) : UsedL (doesI o) := by
 unfold doesI numOk at *
 split
 ·exact .one (z_gx _ _ _ (by decide) (by decide) (by decide))
 split
 ·exact .one (z_gx _ _ _ (by decide) (by decide) (by decide))
 split
 ·exact .one (z_gx _ _ _ (by decide) (by decide) (by decide))
 split
 ·rename_i h; have := hn (.inl h); exact .one (z_hn _ _ (by decide) (by omega))
 split
 ·rename_i h
  have := hn (.inr (.inl h))
  split
  ·exact .one (z_hn _ _ (by decide) (by decide))
  ·rename_i h0
   have : o.n.toNat ≠ 0 := fun e => h0 (BitVec.eq_of_toNat_eq (by simpa using e))
   exact .one (z_po _ _ (by decide) (by omega))
 split
 ·have : ((32#32 - o.n) % 32#32).toNat < 32 := by rw [BitVec.toNat_umod]; exact Nat.mod_lt _ (by decide)
  exact .cons (z_gb _ _ (by decide) (by omega)) (.one (z_gx _ _ _ (by decide) (by decide) (by decide)))
 split
 ·exact z_i4 _ _
 split
 ·exact .one z_ut
 ·exact UsedL.nil
theorem z_k2 : ∀ (src : List Nat) (r : Int), 0 ≤ r → r + src.length ≤ 8 → (∀ x ∈ src, x ≤ 16000) → UsedL (regsI src r)
 | [], _, _, _, _ => UsedL.nil
 | x :: l, r, h0, h8, hx => by
  simp only [List.length_cons] at h8
  exact (z_th r (by omega) x (hx x (by simp))).append (z_k2 l (r + 1) (by omega) (by omega) fun y hy => hx y (by simp [hy]))
theorem z_kv (o : OpM) (hn : numOk o) (dst : Nat) (hd : dst ≤ 16000) (src : List Nat) (hs : src.length ≤ 8) (hx : ∀ x ∈ src, x ≤ 16000) : UsedL (stepI o dst src) := by
 refine (((UsedL.append ?_ (z_k2 src 0 (by decide) (by omega) hx)).append (z_q6 o hn)).append (z_sx dst hd))
 unfold headI
 refine .cons (z_gb _ _ (by decide) (by decide)) ?_
 split
 ·exact .one (z_gb _ _ (by decide) (by decide))
 ·exact UsedL.nil
theorem z_qu : z_hi (stepI ⟨3, 0, 0, 0#32⟩ 1 [0]) = [[109, 111, 118, 115, 32, 114, 48, 44, 32, 35, 48], [109, 111, 118, 115, 32, 114, 54, 44, 32, 35, 48], [108, 100, 114, 32, 114, 48, 44, 32, 91, 114, 55, 44, 32, 114, 54, 93], [109, 118, 110, 115, 32, 114, 48, 44, 32, 114, 48], [109, 111, 118, 115, 32, 114, 54, 44, 32, 35, 52], [115, 116, 114, 32, 114, 48, 44, 32, 91, 114, 55, 44, 32, 114, 54, 93]] := by decide +kernel
theorem lives25 : z_cr.spec [] = some (.bool true) := by
 have hS := z_wt ⟨3, 0, 0, 0#32⟩ 1 [0] (by decide)
 rw [if_pos (show fitsI ⟨3, 0, 0, 0#32⟩ 1 [0] = true by decide +kernel)] at hS
 rw [show (1 : Int).toNat = 1 from rfl, show ([0] : List Int).map Int.toNat = [0] from rfl] at hS
 have hM := z_qs (stepI ⟨3, 0, 0, 0#32⟩ 1 [0]) (z_kv _ (fun h => by simp at h) 1 (by decide) [0] (by decide) (by decide)) (by decide +kernel)
 rw [z_qu] at hM
 unfold OpM.cells at hS
 simp only [ints, List.map_cons, List.map_nil] at hS
 generalize stepI ⟨3, 0, 0, 0#32⟩ 1 [0] = L at *
 simp only [z_fx, List.map_cons, List.map_nil] at hM
 simp -implicitDefEqProofs +contextual (disch := omega) [z_cr.spec, z_cr, hS, hM]
end Go.Abs
end
end

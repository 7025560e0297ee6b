/-
  An instruction's halfword comes back as the instruction.
-/
import Derived.Test.YteohnepdbjmghaaZ14
import Derived.Test.YteohnepdbjmghaaZ12
import Derived.Test.YteohnepdbjmghaaZ6
import Derived.Test.YteohnepdbjmghaaZ8
import Derived.Test.YteohnepdbjmghaaZ11
import Derived.Test.YteohnepdbjmghaaZ5
import Derived.Test.YteohnepdbjmghaaZ9
import Derived.Test.YteohnepdbjmghaaZ13
set_option linter.unusedSimpArgs false
set_option linter.unusedVariables false
set_option maxHeartbeats 20000000
set_option maxRecDepth 100000
section
section
namespace Go.Abs
open Th
def regT (n : Int) : List UInt8 := 114 :: num n.toNat
def immT (n : Int) : List UInt8 := 35 :: num n.toNat
def csT : List UInt8 := [44, 32]
def aluT (n : Int) : List UInt8 :=
 if n = 0 then [97, 110, 100, 115] else if n = 1 then [101, 111, 114, 115] else if n = 7 then [114, 111, 114, 115] else [109, 118, 110, 115]
def showI (i : InsM) : List UInt8 :=
 if i.op = 0 then [109, 111, 118, 115, 32] ++ (regT i.d ++ csT) ++ immT i.imm
 else if i.op = 2 then [97, 100, 100, 115, 32] ++ (regT i.d ++ csT) ++ immT i.imm
 else if i.op = 4 then [108, 115, 108, 115, 32] ++ (regT i.d ++ csT) ++ regT i.m ++ csT ++ immT i.imm
 else if i.op = 5 then [108, 115, 114, 115, 32] ++ (regT i.d ++ csT) ++ regT i.m ++ csT ++ immT i.imm
 else if i.op = 11 then aluT i.imm ++ [32] ++ (regT i.d ++ csT) ++ regT i.m
 else if i.op = 12 then [108, 100, 114, 32] ++ (regT i.d ++ csT) ++ [91] ++ regT i.n ++ csT ++ immT (4 * i.imm) ++ [93]
 else if i.op = 14 then [108, 100, 114, 32] ++ (regT i.d ++ csT) ++ [91] ++ regT i.n ++ csT ++ regT i.m ++ [93]
 else [115, 116, 114, 32] ++ (regT i.d ++ csT) ++ [91] ++ regT i.n ++ csT ++ regT i.m ++ [93]
def usedI (i : InsM) : Prop := (i.op = 0 ∨ i.op = 2 ∨ i.op = 4 ∨ i.op = 5 ∨ (i.op = 11 ∧ (i.imm = 0 ∨ i.imm = 1 ∨ i.imm = 7 ∨ i.imm = 15)) ∨ i.op = 12 ∨ i.op = 14 ∨ i.op = 15) ∧ i.can = true
theorem z_e5 (n : Int) (h : 0 ≤ n ∧ n ≤ 7) : z_c4.spec [.int .i64 n] = some (.str (bs (regT n))) := by
 obtain ⟨k, rfl⟩ : ∃ k : Nat, n = k := ⟨n.toNat, by omega⟩
 have hn := z_x5 k (by omega)
 have hl := z_ly k
 unfold regT
 rw [Int.toNat_natCast]
 generalize num k = l at *
 simp -implicitDefEqProofs +contextual (disch := omega) [z_c4.spec, z_c4, hn]
theorem z_nr (n : Int) (h : 0 ≤ n ∧ n ≤ 100000) : z_dt.spec [.int .i64 n] = some (.str (bs (immT n))) := by
 obtain ⟨k, rfl⟩ : ∃ k : Nat, n = k := ⟨n.toNat, by omega⟩
 have hn := z_x5 k (by omega)
 have hl := z_ly k
 unfold immT
 rw [Int.toNat_natCast]
 generalize num k = l at *
 simp -implicitDefEqProofs +contextual (disch := omega) [z_dt.spec, z_dt, hn]
theorem z_lx (n : Int) : (regT n).length ≤ 20 := by have := z_ly n.toNat; simp [regT]; omega
theorem z_qd (n : Int) : (immT n).length ≤ 20 := by have := z_ly n.toNat; simp [immT]; omega
def z_gn : List (List AV) := [[(.str (bs [97, 110, 100, 115]))], [(.str (bs [101, 111, 114, 115]))], [(.str (bs [108, 115, 108, 115]))], [(.str (bs [108, 115, 114, 115]))], [(.str (bs [97, 115, 114, 115]))], [(.str (bs [97, 100, 99, 115]))], [(.str (bs [115, 98, 99, 115]))], [(.str (bs [114, 111, 114, 115]))], [(.str (bs [116, 115, 116]))], [(.str (bs [114, 115, 98, 115]))], [(.str (bs [99, 109, 112]))], [(.str (bs [99, 109, 110]))], [(.str (bs [111, 114, 114, 115]))], [(.str (bs [109, 117, 108, 115]))], [(.str (bs [98, 105, 99, 115]))], [(.str (bs [109, 118, 110, 115]))]]
theorem build16 (H : Hp) : z_ae (some ⟨T.ty_string, 1, 16, [(.str (bs []))]⟩) 16 [(0, (.str (bs [97, 110, 100, 115]))), (1, (.str (bs [101, 111, 114, 115]))), (2, (.str (bs [108, 115, 108, 115]))), (3, (.str (bs [108, 115, 114, 115]))), (4, (.str (bs [97, 115, 114, 115]))), (5, (.str (bs [97, 100, 99, 115]))), (6, (.str (bs [115, 98, 99, 115]))), (7, (.str (bs [114, 111, 114, 115]))), (8, (.str (bs [116, 115, 116]))), (9, (.str (bs [114, 115, 98, 115]))), (10, (.str (bs [99, 109, 112]))), (11, (.str (bs [99, 109, 110]))), (12, (.str (bs [111, 114, 114, 115]))), (13, (.str (bs [109, 117, 108, 115]))), (14, (.str (bs [98, 105, 99, 115]))), (15, (.str (bs [109, 118, 110, 115])))] H = some (.sl H.next 1 0 16, H.push ⟨T.ty_string, 1, true, z_gn⟩) := rfl
theorem z_ux : z_gn[0]? = some [.str (bs [97, 110, 100, 115])] := rfl
theorem z_uw : z_gn[1]? = some [.str (bs [101, 111, 114, 115])] := rfl
theorem z_uv : z_gn[7]? = some [.str (bs [114, 111, 114, 115])] := rfl
theorem z_ru : z_gn[15]? = some [.str (bs [109, 118, 110, 115])] := rfl
theorem z_vq (op : Nat) (nm D M : List UInt8) (hn : z_gn[op]? = some [.str (bs nm)]) (hop : op < 16) (d n m : Int) (hD : D.length ≤ 30) (hM : M.length ≤ 30) (hnm : nm.length ≤ 10) (e3 : z_c4.spec [.int .i64 m] = some (.str (bs M))) (H : Hp) (hw : H.WF)
  (h0 : H.get 0 = some ⟨T.ty_api_Ins, 5, true, [[.int .i64 11, .int .i64 d, .int .i64 n, .int .i64 m, .int .i64 op]]⟩) (v : AV) :
  ∃ H', z_bc.r14 z_c4.spec (AFr.al [(1, .ptr 0 5 0 0), (4, .str (bs D)), (5, .int .i64 11), (85, v)]) H = some (.normal, AFr.al [(2, .str (bs (nm ++ [32] ++ D ++ M))), (3, .bool true)], H') := by
 have b0 := hw _ _ h0
 simp only [z_bc.r14]
 rw [build16]
 generalize z_gn = R at *
 refine ⟨_, by simp -implicitDefEqProofs +contextual (disch := omega) [h0, hn, e3]; rfl⟩
theorem z_ou {op : Nat} {D M : List UInt8} {d n m : Int} {H : Hp} {v : AV} {r : ARes} (hr : z_bc.r14 z_c4.spec (AFr.al [(1, .ptr 0 5 0 0), (4, .str (bs D)), (5, .int .i64 11), (85, v)]) H = r) (nm : List UInt8) (hn : z_gn[op]? = some [.str (bs nm)]) (hop : op < 16) (hD : D.length ≤ 30) (hM : M.length ≤ 30) (hnm : nm.length ≤ 10) (e3 : z_c4.spec [.int .i64 m] = some (.str (bs M))) (hw : H.WF)
  (h0 : H.get 0 = some ⟨T.ty_api_Ins, 5, true, [[.int .i64 11, .int .i64 d, .int .i64 n, .int .i64 m, .int .i64 op]]⟩) :
  ∃ H', r = some (.normal, AFr.al [(2, .str (bs (nm ++ [32] ++ D ++ M))), (3, .bool true)], H') := by
 subst hr; exact z_vq op nm D M hn hop d n m hD hM hnm e3 H hw h0 v
theorem z_0o (i : InsM) (h : usedI i) : z_bc.spec [InsAV i] = some (.tup [.str (bs (showI i)), .bool true]) := by
 obtain ⟨hop, hcan⟩ := h
 have hc := z_o8 i
 rw [hcan] at hc
 obtain ⟨⟨h0, h20⟩, l1, l2, l3, l4, l5, l6, l7, l8⟩ := (z_gl i).1 hcan
 obtain ⟨op, d, n, m, imm⟩ := i
 dsimp only at *
 simp only [InsAV] at *
 have rd := z_lx d
 have rn := z_lx n
 have rm := z_lx m
 have ri := z_qd imm
 have ri4 := z_qd (4 * imm)
 rcases hop with rfl | rfl | rfl | rfl | ⟨rfl, hi⟩ | rfl | rfl | rfl
 all_goals simp [shp, maxD, maxN, maxM, hasD, hasN, hasM] at l1 l2 l3 l4 l5 l6 l7 l8
 ·have e1 := z_e5 d (by omega)
  have e2 := z_nr imm (by omega)
  simp only [showI, csT, if_true]
  generalize regT d = D at *
  generalize immT imm = I at *
  simp -implicitDefEqProofs +contextual (disch := omega) [z_bc.spec, z_bc, hc, e1, e2]
 ·have e1 := z_e5 d (by omega)
  have e2 := z_nr imm (by omega)
  simp [showI, csT]
  generalize regT d = D at *
  generalize immT imm = I at *
  simp -implicitDefEqProofs +contextual (disch := omega) [z_bc.spec, z_bc, hc, e1, e2]
 ·have e1 := z_e5 d (by omega)
  have e2 := z_nr imm (by omega)
  have e3 := z_e5 m (by omega)
  simp [showI, csT]
  generalize regT d = D at *
  generalize regT m = M at *
  generalize immT imm = I at *
  simp -implicitDefEqProofs +contextual (disch := omega) [z_bc.spec, z_bc, hc, e1, e2, e3]
 ·have e1 := z_e5 d (by omega)
  have e2 := z_nr imm (by omega)
  have e3 := z_e5 m (by omega)
  simp [showI, csT]
  generalize regT d = D at *
  generalize regT m = M at *
  generalize immT imm = I at *
  simp -implicitDefEqProofs +contextual (disch := omega) [z_bc.spec, z_bc, hc, e1, e2, e3]
 ·have e1 := z_e5 d (by omega)
  have e3 := z_e5 m (by omega)
  have hi' : ∃ k : Nat, imm = k ∧ k < 16 ∧ ∃ nm, z_gn[k]? = some [.str (bs nm)] ∧ nm.length ≤ 10 ∧ aluT k = nm := by
   rcases hi with rfl | rfl | rfl | rfl
   ·exact ⟨0, rfl, by decide, _, z_ux, by decide, rfl⟩
   ·exact ⟨1, rfl, by decide, _, z_uw, by decide, rfl⟩
   ·exact ⟨7, rfl, by decide, _, z_uv, by decide, rfl⟩
   ·exact ⟨15, rfl, by decide, _, z_ru, by decide, rfl⟩
  obtain ⟨k, rfl, hk, nm, q1, q2, q3⟩ := hi'
  have hsh : showI ⟨11, d, n, m, (k : Int)⟩ = nm ++ [32] ++ (regT d ++ csT) ++ regT m := by simp [showI, q3]
  rw [hsh]
  simp only [csT]
  generalize regT d = D at *
  generalize regT m = M at *
  simp -implicitDefEqProofs +contextual (disch := omega) [z_bc.spec, z_bc, hc, e1, -z_bc.r14]
  generalize hr : z_bc.r14 _ _ _ = r
  obtain ⟨H', rfl⟩ := z_ou (d := d) (n := n) hr nm q1 hk (by simp; omega) (by omega) q2 e3 (by (repeat' (first | assumption | with_reducible apply Hp.WF.push | with_reducible apply Hp.WF.set | with_reducible apply z_bl | exact Hp.WF.empty)) <;> (simp <;> omega)) (by simp)
  simp -implicitDefEqProofs +contextual (disch := omega) []
 ·have e1 := z_e5 d (by omega)
  have e2 := z_nr (4 * imm) (by omega)
  have e3 := z_e5 n (by omega)
  simp [showI, csT]
  generalize regT d = D at *
  generalize regT n = M at *
  generalize immT (4 * imm) = I at *
  simp -implicitDefEqProofs +contextual (disch := omega) [z_bc.spec, z_bc, hc, e1, e2, e3]
 ·have e1 := z_e5 d (by omega)
  have e2 := z_e5 n (by omega)
  have e3 := z_e5 m (by omega)
  simp [showI, csT]
  generalize regT d = D at *
  generalize regT n = N at *
  generalize regT m = M at *
  simp -implicitDefEqProofs +contextual (disch := omega) [z_bc.spec, z_bc, hc, e1, e2, e3]
 ·have e1 := z_e5 d (by omega)
  have e2 := z_e5 n (by omega)
  have e3 := z_e5 m (by omega)
  simp [showI, csT]
  generalize regT d = D at *
  generalize regT n = N at *
  generalize regT m = M at *
  simp -implicitDefEqProofs +contextual (disch := omega) [z_bc.spec, z_bc, hc, e1, e2, e3]
end Go.Abs
end
section
namespace Go.Abs
open Th
def z_fv (l : List (List UInt8)) : List (List AV) := l.map fun s => [.str (bs s)]
@[simp] theorem z_u6 (l : List (List UInt8)) : (z_fv l).length = l.length := by simp [z_fv]
def z_hd (l : List InsM) : List (List UInt8) := l.map showI
@[simp] theorem z_wb (l : List InsM) : (z_hd l).length = l.length := by simp [z_hd]
end Go.Abs
end
section
namespace Go.Abs
open Th
def UsedL (l : List InsM) : Prop := ∀ i ∈ l, usedI i
noncomputable abbrev ssL := z_cv.l0 z_bc.spec
theorem z_ov (l : List InsM) (hu : UsedL l) (hl : l.length ≤ 1000000) (X : Hp) {r}
  (hr : aloop ssL (AFr.al [(0, .rsl 5 (z_a1 l)), (1, .rsl 1 (z_fv (z_hd l))), (5, .int .i64 0)]) X = r) :
  ∃ e fr' X', r = some (e, fr', X') ∧ (e = .exit 0) := by
 refine z_ev hr (z_ct l.length (fun k fr H => ∃ y, fr = AFr.al ([(0, .rsl 5 (z_a1 l)), (1, .rsl 1 (z_fv (z_hd l))), (5, .int .i64 k)] ++ y)) _ (fun k hk fr H hR => ?_) (fun fr H hR => ?_) ⟨[], rfl⟩)
 ·obtain ⟨y, rfl⟩ := hR
  have hk' : (k : Int) < l.length := by omega
  have hk1 : ((k + 1 : Nat) : Int) = (k : Int) + 1 := by omega
  have h1 := z_j6 l k hk
  have h2 : (z_fv (z_hd l))[k]? = some [.str (bs (showI l[k]))] := by simp [z_fv, z_hd, hk]
  have hS := z_0o l[k] (hu _ (List.getElem_mem hk))
  rw [hk1]
  have hR1 : (z_a1 l).length = l.length := z_fx l
  have hR2 : (z_fv (z_hd l)).length = l.length := by simp
  generalize z_a1 l = R1 at *
  generalize z_fv (z_hd l) = R2 at *
  generalize l[k] = i at *
  unfold InsAV at hS
  unfold z_ef at h1
  generalize showI i = s at *
  refine ⟨_, _, _, by simp -implicitDefEqProofs +contextual (disch := omega) [z_cv.l0, hk', h1, h2, hS, hR1, hR2, -getElem?_pos]; first | rfl | exact ⟨rfl, rfl⟩ | exact ⟨rfl, rfl, rfl⟩, .inl ⟨rfl, _, rfl⟩⟩
 ·obtain ⟨y, rfl⟩ := hR
  refine ⟨_, _, _, by simp -implicitDefEqProofs +contextual (disch := omega) [z_cv.l0]; first | rfl | exact ⟨rfl, rfl⟩ | exact ⟨rfl, rfl, rfl⟩, by simp, rfl⟩
theorem z_q6 (l : List InsM) (hu : UsedL l) (hl : l.length ≤ 1000000) : z_cv.spec [.rsl 5 (z_a1 l), .rsl 1 (z_fv (z_hd l))] = some (.bool true) := by
 simp -implicitDefEqProofs +contextual (disch := omega) [z_cv.spec, z_cv]
 generalize hr : aloop _ _ _ = r
 obtain ⟨e, fr', X', rfl, rfl⟩ := z_ov l hu hl _ hr
 simp -implicitDefEqProofs +contextual (disch := omega) []
end Go.Abs
end
section
namespace Go.Abs
open Th
theorem can_k (k : Nat) (hk : k ≤ 20) (d n m imm : Int) (h : (shp k).low ≤ imm ∧ imm ≤ (shp k).high ∧ 0 ≤ d ∧ d ≤ maxD k ∧ 0 ≤ n ∧ n ≤ maxN k ∧ 0 ≤ m ∧ m ≤ maxM k) : (InsM.mk (k : Nat) d n m imm).can = true := (z_aw k hk d n m imm).2 h
theorem z_f9 (d n : Int) (hd : 0 ≤ d ∧ d ≤ 7) (hn : 0 ≤ n ∧ n ≤ 255) : usedI (mvI d n) :=
 ⟨.inl rfl, can_k 0 (by omega) d 0 0 n ⟨hn.1, hn.2, hd.1, hd.2, by decide, by decide, by decide, by decide⟩⟩
theorem z_op (d n : Int) (hd : 0 ≤ d ∧ d ≤ 7) (hn : 0 ≤ n ∧ n ≤ 255) : usedI (adI d n) :=
 ⟨.inr (.inl rfl), can_k 2 (by omega) d 0 0 n ⟨hn.1, hn.2, hd.1, hd.2, by decide, by decide, by decide, by decide⟩⟩
theorem z_hj (d n : Int) (hd : 0 ≤ d ∧ d ≤ 7) (hn : 0 ≤ n ∧ n ≤ 31) : usedI (lfI d n) :=
 ⟨.inr (.inr (.inl rfl)), can_k 4 (by omega) d 0 d n ⟨hn.1, hn.2, hd.1, hd.2, by decide, by decide, hd.1, hd.2⟩⟩
theorem z_p1 (d n : Int) (hd : 0 ≤ d ∧ d ≤ 7) (hn : 1 ≤ n ∧ n ≤ 32) : usedI ⟨5, d, 0, d, n⟩ :=
 ⟨.inr (.inr (.inr (.inl rfl))), can_k 5 (by omega) d 0 d n ⟨hn.1, hn.2, hd.1, hd.2, by decide, by decide, hd.1, hd.2⟩⟩
theorem z_gt (op d m : Int) (ho : op = 0 ∨ op = 1 ∨ op = 7 ∨ op = 15) (hd : 0 ≤ d ∧ d ≤ 7) (hm : 0 ≤ m ∧ m ≤ 7) : usedI (alI op d m) := by
 refine ⟨.inr (.inr (.inr (.inr (.inl ⟨rfl, ho⟩)))), can_k 11 (by omega) d 0 m op ⟨?_, ?_, hd.1, hd.2, by decide, by decide, hm.1, hm.2⟩⟩
 ·show (0 : Int) ≤ op; omega
 ·show op ≤ (15 : Int); omega
theorem z_va : usedI ⟨12, 0, 5, 0, 0⟩ := ⟨.inr (.inr (.inr (.inr (.inr (.inl rfl))))), by decide⟩
theorem z_u9 (r : Int) (hr : 0 ≤ r ∧ r ≤ 7) : usedI ⟨14, r, 7, 6, 0⟩ :=
 ⟨.inr (.inr (.inr (.inr (.inr (.inr (.inl rfl)))))), can_k 14 (by omega) r 7 6 0 ⟨by decide, by decide, hr.1, hr.2, by decide, by decide, by decide, by decide⟩⟩
theorem z_u8 : usedI ⟨15, 0, 7, 6, 0⟩ := ⟨.inr (.inr (.inr (.inr (.inr (.inr (.inr rfl)))))), by decide⟩
theorem UsedL.append {a b : List InsM} (ha : UsedL a) (hb : UsedL b) : UsedL (a ++ b) := fun i hi => (List.mem_append.1 hi).elim (ha i) (hb i)
theorem UsedL.one {i : InsM} (h : usedI i) : UsedL [i] := fun j hj => by rw [List.mem_singleton.1 hj]; exact h
theorem UsedL.cons {i : InsM} {l : List InsM} (h : usedI i) (hl : UsedL l) : UsedL (i :: l) := fun j hj => (List.mem_cons.1 hj).elim (fun e => e ▸ h) (hl j)
theorem UsedL.nil : UsedL [] := fun j hj => by simp at hj
theorem z_qn (n : Nat) (h : n ≤ 16000) : UsedL (atI n) := by
 unfold atI
 split
 ·exact .one (z_f9 _ _ (by omega) (by omega))
 ·exact .cons (z_f9 _ _ (by omega) (by omega)) (.cons (z_hj _ _ (by omega) (by omega)) (.one (z_op _ _ (by omega) (by omega))))
theorem z_tw (r : Int) (hr : 0 ≤ r ∧ r ≤ 7) (n : Nat) (h : n ≤ 16000) : UsedL (getI r n) := (z_qn n h).append (.one (z_u9 r hr))
theorem z_te (n : Nat) (h : n ≤ 16000) : UsedL (putI n) := (z_qn n h).append (.one z_u8)
theorem z_pr : UsedL z_ic := .cons (z_f9 _ _ (by decide) (by decide)) (.cons (z_hj _ _ (by decide) (by decide)) (.cons (z_f9 _ _ (by decide) (by decide)) (.one (z_hj _ _ (by decide) (by decide)))))
theorem z_wv (v : BitVec 32) (j : Nat) : byteI v j ≤ 255 := by
 unfold byteI
 rw [BitVec.toNat_and]
 exact Nat.and_le_right
theorem z_i8 (v : BitVec 32) : ∀ j, UsedL (z_do v j)
 | 0 => UsedL.nil
 | j + 1 => by
  have hb := z_wv v j
  unfold z_do
  split
  ·exact (z_i8 v j).append (.cons (z_hj _ _ (by decide) (by decide)) (.one (z_op _ _ (by decide) (by omega))))
  ·split
   ·exact .one (z_f9 _ _ (by decide) (by omega))
   ·exact UsedL.nil
def numOk (o : OpM) : Prop := (o.k = 4 ∨ o.k = 5 ∨ o.k = 6) → o.n.toNat < 32
theorem z_rk (o : OpM) (hn : numOk o) : UsedL (doesI o) := by
 unfold doesI numOk at *
 split
 ·exact .one (z_gt _ _ _ (by decide) (by decide) (by decide))
 split
 ·exact .one (z_gt _ _ _ (by decide) (by decide) (by decide))
 split
 ·exact .one (z_gt _ _ _ (by decide) (by decide) (by decide))
 split
 ·rename_i h; have := hn (.inl h); exact .one (z_hj _ _ (by decide) (by omega))
 split
 ·rename_i h
  have := hn (.inr (.inl h))
  split
  ·exact .one (z_hj _ _ (by decide) (by decide))
  ·rename_i h0
   have : o.n.toNat ≠ 0 := fun e => h0 (BitVec.eq_of_toNat_eq (by simpa using e))
   exact .one (z_p1 _ _ (by decide) (by omega))
 split
 ·have : ((32#32 - o.n) % 32#32).toNat < 32 := by rw [BitVec.toNat_umod]; exact Nat.mod_lt _ (by decide)
  exact .cons (z_f9 _ _ (by decide) (by omega)) (.one (z_gt _ _ _ (by decide) (by decide) (by decide)))
 split
 ·exact z_i8 _ _
 split
 ·exact .one z_va
 ·exact UsedL.nil
theorem z_k8 : ∀ (src : List Nat) (r : Int), 0 ≤ r → r + src.length ≤ 8 → (∀ x ∈ src, x ≤ 16000) → UsedL (regsI src r)
 | [], _, _, _, _ => UsedL.nil
 | x :: l, r, h0, h8, hx => by
  simp only [List.length_cons] at h8
  exact (z_tw r (by omega) x (hx x (by simp))).append (z_k8 l (r + 1) (by omega) (by omega) fun y hy => hx y (by simp [hy]))
theorem z_k0 (o : OpM) (hn : numOk o) (dst : Nat) (hd : dst ≤ 16000) (src : List Nat) (hs : src.length ≤ 8) (hx : ∀ x ∈ src, x ≤ 16000) : UsedL (stepI o dst src) := by
 refine (((UsedL.append ?_ (z_k8 src 0 (by decide) (by omega) hx)).append (z_rk o hn)).append (z_te dst hd))
 unfold headI
 refine .cons (z_f9 _ _ (by decide) (by decide)) ?_
 split
 ·exact .one (z_f9 _ _ (by decide) (by decide))
 ·exact UsedL.nil
theorem z_q8 : z_hd (stepI ⟨3, 0, 0, 0#32⟩ 1 [0]) = [[109, 111, 118, 115, 32, 114, 48, 44, 32, 35, 48], [109, 111, 118, 115, 32, 114, 54, 44, 32, 35, 48], [108, 100, 114, 32, 114, 48, 44, 32, 91, 114, 55, 44, 32, 114, 54, 93], [109, 118, 110, 115, 32, 114, 48, 44, 32, 114, 48], [109, 111, 118, 115, 32, 114, 54, 44, 32, 35, 52], [115, 116, 114, 32, 114, 48, 44, 32, 91, 114, 55, 44, 32, 114, 54, 93]] := by decide +kernel
theorem lives25 : z_c1.spec [] = some (.bool true) := by
 have hS := z_w7 ⟨3, 0, 0, 0#32⟩ 1 [0] (by decide)
 rw [if_pos (show fitsI ⟨3, 0, 0, 0#32⟩ 1 [0] = true by decide +kernel)] at hS
 rw [show (1 : Int).toNat = 1 from rfl, show ([0] : List Int).map Int.toNat = [0] from rfl] at hS
 have hM := z_q6 (stepI ⟨3, 0, 0, 0#32⟩ 1 [0]) (z_k0 _ (fun h => by simp at h) 1 (by decide) [0] (by decide) (by decide)) (by decide +kernel)
 rw [z_q8] at hM
 unfold OpM.cells at hS
 simp only [ints, List.map_cons, List.map_nil] at hS
 generalize stepI ⟨3, 0, 0, 0#32⟩ 1 [0] = L at *
 simp only [z_fv, List.map_cons, List.map_nil] at hM
 simp -implicitDefEqProofs +contextual (disch := omega) [z_c1.spec, z_c1, hS, hM]
end Go.Abs
end
end
section
namespace Go.Abs
open Th
theorem z_nj {i : InsM} (h : i.can = true) : takeN (putM i).1.toNat = (i, 0) := by
 simp only [putM, h, if_true]
 rw [BitVec.toNat_ofNat, Nat.mod_eq_of_lt (by have := (forth i h).2.2; omega)]
 exact z_vh i h
end Go.Abs
end
section
namespace Go.Abs
open Th
theorem z_x4 (i : InsM) : z_dd.spec [InsAV i] = some (.tup [W16 (putM i).1, .int .i64 (putM i).2]) := by
 have h := can_eq i
 unfold putM
 by_cases hc : i.can = true
 ·have h2 := put_eq i hc
  simp only [InsAV] at h h2
  simp -implicitDefEqProofs +contextual (disch := omega) [z_dd.spec, z_dd, InsAV, h, h2, hc]
 ·simp only [InsAV] at h
  simp -implicitDefEqProofs +contextual (disch := omega) [z_dd.spec, z_dd, InsAV, h, hc]
end Go.Abs
end
section
section
namespace Go.Abs
theorem z_m7 (k : Int) : z_a4.spec [.int .i64 k] = some (.int .i64 (z_a7 k)) := by
 by_cases h1 : k = 1
 ·subst h1; simp -implicitDefEqProofs +contextual (disch := omega) [z_a4.spec, z_a4, z_a7]
 by_cases h2 : k = 2
 ·subst h2; simp -implicitDefEqProofs +contextual (disch := omega) [z_a4.spec, z_a4, z_a7]
 by_cases h3 : 3 ≤ k
 ·by_cases h6 : k ≤ 6
  ·simp -implicitDefEqProofs +contextual (disch := omega) [z_a4.spec, z_a4, z_a7, h1, h2, h3, h6]
  ·by_cases h8 : k = 8
   ·subst h8; simp -implicitDefEqProofs +contextual (disch := omega) [z_a4.spec, z_a4, z_a7]
   ·simp -implicitDefEqProofs +contextual (disch := omega) [z_a4.spec, z_a4, z_a7, h1, h2, h3, h6, h8]
 ·by_cases h8 : k = 8
  ·omega
  ·simp -implicitDefEqProofs +contextual (disch := omega) [z_a4.spec, z_a4, z_a7, h1, h2, h3, h8]
def rcFr (k : Nat) (x : List (Nat × AV)) : AFr := AFr.al ([(1, .ptr 0 3 0 0), (3, .int .i64 k)] ++ x)
theorem z_q5 (c : CodeM) (hl : c.ops.length ≤ 60000) (hin : 0 ≤ c.inN ∧ c.inN ≤ 4000) (k : Nat) (hk : k < c.ops.length) (X : Hp) (x : List (Nat × AV)) (hw : X.WF) (hg : X.get 0 = some (z_b9 c)) (o : OpM) (ho : c.ops[k] = o) :
  ∃ e fr1 X1, z_bg.l0 z_a4.spec (rcFr k x) X = some (e, fr1, X1) ∧ X1.WF ∧ X1.get 0 = some (z_b9 c) ∧
   ((o.ok (c.inN + k) = true ∧ e = .normal ∧ ∃ y, fr1 = rcFr (k + 1) y) ∨ (o.ok (c.inN + k) = false ∧ e = .ret ∧ fr1 2 = .bool false)) := by
 have hk' : (k : Int) < c.ops.length := by omega
 have hk1 : ((k + 1 : Nat) : Int) = (k : Int) + 1 := by omega
 have hrow := z_f3 c.ops k hk
 rw [ho] at hrow
 have hne := hw _ _ hg
 have hcb : z_b9 c = ⟨T.ty_api_Code, 3, true, [[.int .i64 c.inN, .rsl 4 (z_d0 c.ops), .rsl 1 (ints c.outs)]]⟩ := rfl
 obtain ⟨ok, oa, ob, on⟩ := o
 have hT := z_m7 ok
 simp only [OpM.cells] at hrow
 have fin : ∀ (A B : Bool), True := fun _ _ => trivial
 obtain ⟨w, hwd⟩ : ∃ w, w = c.inN + (k : Int) := ⟨_, rfl⟩
 have hw2 : (c.inN + (k : Int)) = w := hwd.symm
 rw [hw2]
 have hz : on = 0#32 ↔ on.toNat = 0 := ⟨fun h => by rw [h]; rfl, fun h => BitVec.eq_of_toNat_eq h⟩
 have hwir : ∀ (t : Int) (z : Int) (m : Int), (wireM z w (decide (m < t)) = true ↔ (m < t → 0 ≤ z ∧ z < w) ∧ (¬ m < t → z = 0)) := by
  intro t z m
  unfold wireM
  by_cases q : m < t <;> simp [q]
 have hnum : z_ge ⟨ok, oa, ob, on⟩ = true ↔ (ok = 7 ∨ ((4 ≤ ok ∧ ok ≤ 6) ∧ on.toNat ≤ 31) ∨ (ok ≠ 7 ∧ ¬ (4 ≤ ok ∧ ok ≤ 6) ∧ on.toNat = 0)) := by
  unfold z_ge
  dsimp only
  by_cases q7 : ok = 7
  ·subst q7; simp
  ·rw [if_neg q7]
   by_cases q4 : ok = 4 ∨ ok = 5 ∨ ok = 6
   ·rw [if_pos q4, decide_eq_true_eq]; omega
   ·rw [if_neg q4, decide_eq_true_eq, hz]; omega
 have hoka : (OpM.ok ⟨ok, oa, ob, on⟩ w = true) ↔ (0 ≤ ok ∧ ok < 9) ∧ (ok = 7 ∨ ((4 ≤ ok ∧ ok ≤ 6) ∧ on.toNat ≤ 31) ∨ (ok ≠ 7 ∧ ¬ (4 ≤ ok ∧ ok ≤ 6) ∧ on.toNat = 0)) ∧ ((0 < z_a7 ok → 0 ≤ oa ∧ oa < w) ∧ (¬ 0 < z_a7 ok → oa = 0)) ∧ ((1 < z_a7 ok → 0 ≤ ob ∧ ob < w) ∧ (¬ 1 < z_a7 ok → ob = 0)) := by
  rw [← hwir, ← hwir, ← hnum]
  simp only [OpM.ok, Bool.and_eq_true, decide_eq_true_eq]
  exact ⟨fun h => ⟨h.1.1.1, h.1.1.2, h.1.2, h.2⟩, fun h => ⟨⟨⟨h.1, h.2.1⟩, h.2.2.1⟩, h.2.2.2⟩⟩
 generalize OpM.ok ⟨ok, oa, ob, on⟩ w = okb at *
 refine z_nx (s := ?_) ?_ ?_
 rotate_left
 ·simp -implicitDefEqProofs +contextual (disch := try first | omega | assumption | (simp; done)) [z_bg.l0, rcFr, hg, hcb, hrow, hk', hk1, hT, hw2, z_h2, z_gw]
  rfl
 refine z_km (fun h => ?_) (fun h => ?_)
 ·refine ⟨_, _, _, rfl, ?_, ?_, .inr ⟨?_, rfl, by simp⟩⟩
  ·(repeat' (first | assumption | with_reducible apply Hp.WF.push | with_reducible apply Hp.WF.set)) <;> (simp <;> omega)
  ·simp (disch := omega) [hg, hcb]
  ·rw [Bool.eq_false_iff, Ne, hoka]; generalize z_a7 ok = tk at *; clear hoka hwir hnum; omega
 refine z_nx (s := ?_) ?_ ?_
 rotate_left
 ·simp -implicitDefEqProofs +contextual (disch := try first | omega | assumption | (simp; done)) [z_bg.l0, rcFr, hg, hcb, hrow, hk', hk1, hT, hw2, z_h2, z_gw]
  rfl
 refine z_km (fun h2 => ?_) (fun h2 => ?_)
 ·refine ⟨_, _, _, rfl, ?_, ?_, .inr ⟨?_, rfl, by simp⟩⟩
  ·(repeat' (first | assumption | with_reducible apply Hp.WF.push | with_reducible apply Hp.WF.set)) <;> (simp <;> omega)
  ·simp (disch := omega) [hg, hcb]
  ·rw [Bool.eq_false_iff, Ne, hoka]; generalize z_a7 ok = tk at *; clear hoka hwir hnum; simp only [hz, BitVec.lt_def] at h2; simp at h2; omega
 refine z_nx (s := ?_) ?_ ?_
 rotate_left
 ·simp -implicitDefEqProofs +contextual (disch := try first | omega | assumption | (simp; done)) [z_bg.l0, rcFr, hg, hcb, hrow, hk', hk1, hT, hw2, z_h2, z_gw]
  rfl
 refine ⟨_, _, _, rfl, ?_, ?_, .inl ⟨?_, rfl, _, rfl⟩⟩
 ·(repeat' (first | assumption | with_reducible apply Hp.WF.push | with_reducible apply Hp.WF.set)) <;> (simp <;> omega)
 ·simp (disch := omega) [hg, hcb]
 ·rw [hoka]; generalize z_a7 ok = tk at *; clear hoka hwir hnum; simp only [hz, BitVec.lt_def] at h2; simp at h2; omega
theorem z_fi : ∀ (l : List OpM) (w : Int), opsOk l w = true ↔ ∀ k (h : k < l.length), l[k].ok (w + k) = true
 | [], w => by simp [opsOk]
 | o :: l, w => by
  rw [z_ld, Bool.and_eq_true, z_fi l (w + 1)]
  constructor
  ·rintro ⟨h1, h2⟩ k hk
   cases k with
   | zero => rw [show w + ((0 : Nat) : Int) = w from by omega]; exact h1
   | succ k =>
    have := h2 k (by simpa using hk)
    simp only [List.getElem_cons_succ]
    rw [show w + ((k + 1 : Nat) : Int) = w + 1 + (k : Int) from by omega]; exact this
  ·intro h
   refine ⟨by have := h 0 (by simp); rwa [show w + ((0 : Nat) : Int) = w from by omega] at this, fun k hk => ?_⟩
   have := h (k + 1) (by simpa using hk)
   simp only [List.getElem_cons_succ] at this
   rw [show w + 1 + (k : Int) = w + ((k + 1 : Nat) : Int) from by omega]; exact this
theorem z_s5 (c : CodeM) (hl : c.ops.length ≤ 60000) (hin : 0 ≤ c.inN ∧ c.inN ≤ 4000) (X : Hp) (hw : X.WF) (hg : X.get 0 = some (z_b9 c)) {r} (hr : aloop (z_bg.l0 z_a4.spec) (AFr.al [(1, .ptr 0 3 0 0), (3, .int .i64 0)]) X = r) :
  ∃ e fr' X', r = some (e, fr', X') ∧ ((opsOk c.ops c.inN = true ∧ e = .exit 0 ∧ fr' 1 = .ptr 0 3 0 0 ∧ X'.WF ∧ X'.get 0 = some (z_b9 c)) ∨ (opsOk c.ops c.inN = false ∧ e = .ret ∧ fr' 2 = .bool false)) := by
 refine z_ev hr (z_ct c.ops.length (fun k fr H => (∃ y, fr = rcFr k y) ∧ H.WF ∧ H.get 0 = some (z_b9 c) ∧ ∀ i (h : i < c.ops.length), i < k → c.ops[i].ok (c.inN + i) = true) _ (fun k hk fr H hR => ?_) (fun fr H hR => ?_) ⟨⟨[], rfl⟩, hw, hg, fun i _ h => absurd h (by omega)⟩)
 ·obtain ⟨⟨y, rfl⟩, h1, h2, h3⟩ := hR
  obtain ⟨e, fr1, X1, s1, s2, s3, s4⟩ := z_q5 c hl hin k hk H y h1 h2 _ rfl
  refine ⟨e, fr1, X1, s1, ?_⟩
  rcases s4 with ⟨q1, rfl, q2⟩ | ⟨q1, rfl, q2⟩
  ·refine .inl ⟨rfl, q2, s2, s3, fun i hi hik => ?_⟩
   by_cases e : i = k
   ·subst e; exact q1
   ·exact h3 i hi (by omega)
  ·refine .inr ⟨by simp, .inr ⟨?_, rfl, q2⟩⟩
   rw [Bool.eq_false_iff, Ne, z_fi]
   intro h; rw [h k hk] at q1; cases q1
 ·obtain ⟨⟨y, rfl⟩, h1, h2, h3⟩ := hR
  have hcb : z_b9 c = ⟨T.ty_api_Code, 3, true, [[.int .i64 c.inN, .rsl 4 (z_d0 c.ops), .rsl 1 (ints c.outs)]]⟩ := rfl
  refine ⟨_, _, _, by simp -implicitDefEqProofs +contextual (disch := omega) [z_bg.l0, rcFr, h2, hcb]; first | rfl | exact ⟨rfl, rfl⟩ | exact ⟨rfl, rfl, rfl⟩, by simp, .inl ⟨(z_fi _ _).2 fun i hi => h3 i hi hi, rfl, by simp, h1, h2⟩⟩
def rcFr1 (k : Nat) (x : List (Nat × AV)) : AFr := AFr.al ([(1, .ptr 0 3 0 0), (7, .int .i64 k)] ++ x)
theorem z_q2 (c : CodeM) (hl : c.ops.length ≤ 60000) (hin : 0 ≤ c.inN ∧ c.inN ≤ 4000) (hb : c.outs.length ≤ 1000000000) (X : Hp) (hg : X.get 0 = some (z_b9 c)) {r} (hr : aloop (z_bg.l1 z_a4.spec) (AFr.al [(1, .ptr 0 3 0 0), (7, .int .i64 0)]) X = r) :
  ∃ e fr' X', r = some (e, fr', X') ∧ ((c.outs.all (fun x => decide (0 ≤ x) && decide (x < c.inN + c.ops.length)) = true ∧ e = .exit 2) ∨ (c.outs.all (fun x => decide (0 ≤ x) && decide (x < c.inN + c.ops.length)) = false ∧ e = .ret ∧ fr' 2 = .bool false)) := by
 have hcb : z_b9 c = ⟨T.ty_api_Code, 3, true, [[.int .i64 c.inN, .rsl 4 (z_d0 c.ops), .rsl 1 (ints c.outs)]]⟩ := rfl
 have hcl : (c.ops.length : Int) ≤ 60000 := by omega
 refine z_ev hr (z_ct c.outs.length (fun k fr H => (∃ y, fr = rcFr1 k y) ∧ H = X ∧ ∀ i (h : i < c.outs.length), i < k → 0 ≤ c.outs[i] ∧ c.outs[i] < c.inN + c.ops.length) _ (fun k hk fr H hR => ?_) (fun fr H hR => ?_) ⟨⟨[], rfl⟩, rfl, fun i _ h => absurd h (by omega)⟩)
 ·obtain ⟨⟨y, rfl⟩, rfl, h3⟩ := hR
  have hk' : (k : Int) < c.outs.length := by omega
  have hk1 : ((k + 1 : Nat) : Int) = (k : Int) + 1 := by omega
  have hrow := z_tr c.outs k hk
  have hme : c.outs[k] ∈ c.outs := List.getElem_mem hk
  generalize hx : c.outs[k] = o at *
  refine z_nx (s := ?_) ?_ ?_
  rotate_left
  ·simp -implicitDefEqProofs +contextual (disch := try first | omega | assumption | (simp; done)) [z_bg.l1, rcFr1, hg, hcb, hrow, hk', hk1, z_h2, z_gw]
   rfl
  refine z_km (fun h => ?_) (fun h => ?_)
  ·refine ⟨_, _, _, rfl, .inr ⟨by simp, .inr ⟨?_, rfl, by simp⟩⟩⟩
   rw [List.all_eq_false]
   refine ⟨o, hme, ?_⟩
   simp; omega
  refine z_nx (s := ?_) ?_ ?_
  rotate_left
  ·simp -implicitDefEqProofs +contextual (disch := try first | omega | assumption | (simp; done)) [z_bg.l1, rcFr1, hg, hcb, hrow, hk', hk1, z_h2, z_gw]
   rfl
  refine ⟨_, _, _, rfl, .inl ⟨rfl, ⟨_, rfl⟩, rfl, fun i hi hik => ?_⟩⟩
  by_cases e : i = k
  ·subst e; rw [hx]; omega
  ·exact h3 i hi (by omega)
 ·obtain ⟨⟨y, rfl⟩, rfl, h3⟩ := hR
  refine ⟨_, _, _, by simp -implicitDefEqProofs +contextual (disch := omega) [z_bg.l1, rcFr1, hg, hcb]; first | rfl | exact ⟨rfl, rfl⟩ | exact ⟨rfl, rfl, rfl⟩, by simp, .inl ⟨?_, rfl⟩⟩
  rw [List.all_eq_true]
  intro x hx
  obtain ⟨i, hi, rfl⟩ := List.getElem_of_mem hx
  have := h3 i hi hi
  simp; omega
theorem z_qc (c : CodeM) (hb : c.outs.length ≤ 1000000000) (hb2 : c.ops.length ≤ 1000000000) : z_bg.spec [.agg c.cells] = some (.bool c.can) := by
 have hcb : z_b9 c = ⟨T.ty_api_Code, 3, true, [[.int .i64 c.inN, .rsl 4 (z_d0 c.ops), .rsl 1 (ints c.outs)]]⟩ := rfl
 unfold CodeM.cells CodeM.can
 by_cases h1 : 0 ≤ c.inN
 ·have h1' : ¬ c.inN < 0 := by omega
  by_cases h2 : c.inN ≤ 4000
  ·have h2' : ¬ 4000 < c.inN := by omega
   by_cases h3 : c.ops.length ≤ 60000
   ·have h3' : ¬ (60000 : Int) < c.ops.length := by omega
    simp -implicitDefEqProofs +contextual (disch := omega) [z_bg.spec, z_bg, h1', h2', h3']
    generalize hr : aloop _ _ _ = r
    obtain ⟨e, fr', X', rfl, hq⟩ := z_s5 c h3 ⟨h1, h2⟩ _ (by (repeat' (first | assumption | with_reducible apply Hp.WF.push | with_reducible apply Hp.WF.set | exact Hp.WF.empty)) <;> (simp <;> omega)) (by simp [hcb]) hr
    rcases hq with ⟨hv, rfl, p2, p4, p5⟩ | ⟨hv, rfl, p3⟩
    ·simp -implicitDefEqProofs +contextual (disch := omega) [p2, p5, hcb]
     generalize hr2 : aloop _ _ _ = r2
     obtain ⟨e, fr2, X2, rfl, q2⟩ := z_q2 c h3 ⟨h1, h2⟩ hb X' p5 hr2
     rcases q2 with ⟨hv2, rfl⟩ | ⟨hv2, rfl, q2⟩
     ·simp -implicitDefEqProofs +contextual (disch := omega) [h1, h2, h3, hv, hv2]
     ·simp -implicitDefEqProofs +contextual (disch := omega) [h1, h2, h3, q2, hv, hv2]
    ·simp -implicitDefEqProofs +contextual (disch := omega) [h1, h2, h3, p3, hv]
   ·have h3' : (60000 : Int) < c.ops.length := by omega
    simp -implicitDefEqProofs +contextual (disch := omega) [z_bg.spec, z_bg, h1', h2', h3', h3]
  ·have h2' : 4000 < c.inN := by omega
   simp -implicitDefEqProofs +contextual (disch := omega) [z_bg.spec, z_bg, h1', h2', h2]
 ·have h1' : c.inN < 0 := by omega
  simp -implicitDefEqProofs +contextual (disch := omega) [z_bg.spec, z_bg, h1', h1]
end Go.Abs
end
section
namespace Go.Abs
theorem z_bi (c : CodeM) : z_b9 c = ⟨T.ty_api_Code, 3, true, [[.int .i64 c.inN, .rsl 4 (z_d0 c.ops), .rsl 1 (ints c.outs)]]⟩ := rfl
theorem z_o7 (c : CodeM) (hl : c.ops.length ≤ 1000000000) : z_bv.spec [.agg c.cells] = some (.int .i64 (c.randoms : Nat)) := by
 unfold CodeM.cells
 simp -implicitDefEqProofs +contextual (disch := omega) [z_bv.spec, z_bv]
 generalize hr : aloop _ _ _ = r
 obtain ⟨e, fr', X', rfl, rfl, hq⟩ : ∃ e fr' X', r = some (e, fr', X') ∧ (e = .exit 0 ∧ fr' 3 = .int .i64 (c.randoms : Nat)) := by
  refine z_ev hr (z_ct c.ops.length (fun k fr H => (∃ y, fr = AFr.al ([(1, .ptr 0 3 0 0), (3, .int .i64 (rndL (c.ops.take k) : Nat)), (4, .int .i64 k)] ++ y)) ∧ H.get 0 = some (z_b9 c)) _ (fun k hk fr H hR => ?_) (fun fr H hR => ?_) ⟨⟨[], rfl⟩, by simp [z_bi]⟩)
  ·obtain ⟨⟨y, rfl⟩, h2⟩ := hR
   rw [z_bi] at h2
   have hk' : (k : Int) < c.ops.length := by omega
   have hk1 : ((k + 1 : Nat) : Int) = (k : Int) + 1 := by omega
   have hrow := z_f3 c.ops k hk
   have hb : rndL (c.ops.take k) ≤ k := Nat.le_trans (z_sz _) (by rw [List.length_take]; omega)
   have hs : rndL (c.ops.take (k + 1)) = rndL (c.ops.take k) + if c.ops[k].k = 0 then 1 else 0 := by
    rw [List.take_succ_eq_append_getElem hk]
    unfold rndL
    rw [List.filter_append, List.length_append]
    by_cases q : c.ops[k].k = 0 <;> simp [q]
   rw [hs]
   generalize c.ops[k] = o at *
   generalize rndL (c.ops.take k) = n at *
   simp only [OpM.cells] at hrow
   have hn1 : ((n + 1 : Nat) : Int) = (n : Int) + 1 := by omega
   by_cases h0 : o.k = 0
   ·rw [if_pos h0, hn1, hk1]
    refine ⟨_, _, _, by simp -implicitDefEqProofs +contextual (disch := omega) [z_bv.l0, h2, hrow, hk', h0]; first | rfl | exact ⟨rfl, rfl⟩ | exact ⟨rfl, rfl, rfl⟩, .inl ⟨rfl, ⟨_, rfl⟩, by rw [z_bi]; exact h2⟩⟩
   ·rw [if_neg h0, hk1, Nat.add_zero]
    refine ⟨_, _, _, by simp -implicitDefEqProofs +contextual (disch := omega) [z_bv.l0, h2, hrow, hk', h0]; first | rfl | exact ⟨rfl, rfl⟩ | exact ⟨rfl, rfl, rfl⟩, .inl ⟨rfl, ⟨_, rfl⟩, by rw [z_bi]; exact h2⟩⟩
  ·obtain ⟨⟨y, rfl⟩, h2⟩ := hR
   rw [z_bi] at h2
   refine ⟨_, _, _, by simp -implicitDefEqProofs +contextual (disch := omega) [z_bv.l0, h2]; first | rfl | exact ⟨rfl, rfl⟩ | exact ⟨rfl, rfl, rfl⟩, by simp, rfl, ?_⟩
   simp [rndL, CodeM.randoms]
 simp -implicitDefEqProofs +contextual (disch := omega) [hq]
theorem z_yv (c : CodeM) (hl : c.ops.length ≤ 1000000000) (hb : c.outs.length ≤ 1000000000) : z_ds.spec [.agg c.cells] = some (.agg c.cells) := by
 unfold CodeM.cells
 simp -implicitDefEqProofs +contextual (disch := omega) [z_ds.spec, z_ds]
 have e1 : (z_d0 c.ops).take c.ops.length = z_d0 c.ops := by rw [← z_e8 c.ops, List.take_length]
 by_cases h1 : z_d0 c.ops = []
 ·by_cases h2 : ints c.outs = []
  ·simp -implicitDefEqProofs +contextual (disch := omega) [h1, h2, e1]
  ·simp -implicitDefEqProofs +contextual (disch := omega) [h1, h2, e1]
 ·by_cases h2 : ints c.outs = []
  ·simp -implicitDefEqProofs +contextual (disch := omega) [h1, h2, e1]
  ·simp -implicitDefEqProofs +contextual (disch := omega) [h1, h2, e1]
theorem z_vw (rows : List (List AV)) (h : ∀ row, row ∈ rows → ShsOk [.int .i64, .int .i64, .int .i64, .int .u32] row) : ∃ l : List OpM, rows = z_d0 l := by
 obtain ⟨l, h1, _⟩ := z_o1 (enc := OpM.cells) (ok := fun _ => True) (fun row h => by
  obtain ⟨a0, _, rfl, q0, h⟩ := z_e7 h
  obtain ⟨a1, _, rfl, q1, h⟩ := z_e7 h
  obtain ⟨a2, _, rfl, q2, h⟩ := z_e7 h
  obtain ⟨a3, rfl, q3⟩ := z_jv h
  obtain ⟨x0, rfl, _⟩ := z_m4 q0
  obtain ⟨x1, rfl, _⟩ := z_m4 q1
  obtain ⟨x2, rfl, _⟩ := z_m4 q2
  obtain ⟨x3, rfl⟩ := z_xf q3
  exact ⟨⟨x0, x1, x2, x3⟩, rfl, trivial⟩) rows h
 exact ⟨l, h1⟩
theorem z_yo {cs : List AV} {ss : List Sh} (h : ShsOk (.int .i64 :: .sl 4 32 [.int .i64, .int .i64, .int .i64, .int .u32] :: .sl 1 8 [.int .i64] :: ss) cs) :
  ∃ (c : CodeM) (r : List AV), cs = c.cells ++ r ∧ ShsOk ss r ∧ I64 c.inN ∧ c.ops.length ≤ 4398046511101 ∧ c.outs.length ≤ 17592186043904 := by
 obtain ⟨a0, _, rfl, q0, h⟩ := z_e7 h
 obtain ⟨a1, _, rfl, q1, h⟩ := z_e7 h
 obtain ⟨a2, r, rfl, q2, h9⟩ := z_e7 h
 obtain ⟨x0, rfl, hx⟩ := z_m4 q0
 simp only [ShOk] at q1
 obtain ⟨rows, rfl, hb, hr⟩ := q1
 obtain ⟨l, rfl⟩ := z_vw rows hr
 obtain ⟨m, rfl, hm, _⟩ := z_vs q2
 refine ⟨⟨x0, l, m⟩, r, rfl, h9, hx, ?_, by dsimp only; omega⟩
 simp [reachBytes] at hb
 dsimp only; omega
end Go.Abs
end
section
namespace Go.Abs
def opV (o : OpM) (w : List (BitVec 32)) (t0 : BitVec 32) : BitVec 32 := if o.k = 0 then t0 else stepW o (if 0 < z_a7 o.k then at0 w o.a.toNat else 0#32) (if 1 < z_a7 o.k then at0 w o.b.toNat else 0#32)
theorem z_oy (l : List OpM) (o : OpM) (w t : List (BitVec 32)) : z_dr (l ++ [o]) w t = z_dr l w t ++ [opV o (z_dr l w t) (at0 t (rndL l))] := by
 have h : ∀ n, at0 (t.drop n) 0 = at0 t n := fun n => by simp [at0, List.getD_eq_getElem?_getD]
 have h0 : ∀ x y, z_dr [] x y = x := fun _ _ => rfl
 rw [z_gc, z_oz, h, h0]
 rfl
theorem z_sy (l : List OpM) (k : Nat) (hk : k < l.length) : rndL (l.take (k + 1)) = rndL (l.take k) + if l[k].k = 0 then 1 else 0 := by
 rw [List.take_succ_eq_append_getElem hk]
 unfold rndL
 rw [List.filter_append, List.length_append]
 by_cases q : l[k].k = 0 <;> simp [q]
theorem z_nc (l : List OpM) (k : Nat) : rndL (l.take k) ≤ rndL l := by
 unfold rndL
 have h : (l.filter fun o => decide (o.k = 0)).length = ((l.take k ++ l.drop k).filter fun o => decide (o.k = 0)).length := by rw [List.take_append_drop]
 rw [h, List.filter_append, List.length_append]; omega
end Go.Abs
end
end
section
section
namespace Go.Abs
open Th
def hlfs (l : List InsM) : List (BitVec 16) := l.map fun i => (putM i).1
@[simp] theorem z_zd (l : List InsM) : (hlfs l).length = l.length := by simp [hlfs]
theorem z_hn (a b : List InsM) : hlfs (a ++ b) = hlfs a ++ hlfs b := by simp [hlfs]
def HV (ws : List (BitVec 16)) (v : AV) (H : Hp) : Prop := (ws = [] ∧ v = .nils) ∨ ∃ ob, v = .sl ob 1 0 ws.length ∧ H.get ob = some ⟨T.ty_uint16, 1, true, w16s ws⟩
def NotAt (p : Nat) (v : AV) : Prop := ∀ n, v ≠ .sl p 1 0 n
def Kp (v : AV) (H : Hp) (v' : AV) (H' : Hp) : Prop := H'.WF ∧ H.next ≤ H'.next ∧ ∀ p blk, H.get p = some blk → NotAt p v → H'.get p = some blk ∧ NotAt p v'
theorem Kp.trans {v H v1 H1 v2 H2} (a : Kp v H v1 H1) (b : Kp v1 H1 v2 H2) : Kp v H v2 H2 :=
 ⟨b.1, Nat.le_trans a.2.1 b.2.1, fun p blk hp hn => b.2.2 p blk (a.2.2 p blk hp hn).1 (a.2.2 p blk hp hn).2⟩
noncomputable abbrev hvL := z_a8.l0 z_dd.spec
def hvFr (v : AV) (l : List InsM) (k : Nat) (y : List (Nat × AV)) : AFr := AFr.al ([(0, v), (9, .rsl 5 (z_a1 l)), (10, .int .i64 l.length), (11, .int .i64 k)] ++ y)
theorem z_wh (l : List InsM) (hl : l.length ≤ 1000) (k : Nat) (hk : k < l.length) (ws : List (BitVec 16)) (hws : ws.length ≤ 1000000) (v : AV) (H : Hp) (y : List (Nat × AV)) (hw : H.WF) (hv : HV ws v H) :
  ∃ v' H' y', hvL (hvFr v l k y) H = some (.normal, hvFr v' l (k + 1) y', H') ∧ HV (ws ++ [(putM l[k]).1]) v' H' ∧ Kp v H v' H' := by
 have hk' : (k : Int) < l.length := by omega
 have hk1 : ((k + 1 : Nat) : Int) = (k : Int) + 1 := by omega
 have h1 := z_j6 l k hk
 have hP := z_x4 l[k]
 unfold hvFr
 have hR1 : (z_a1 l).length = l.length := z_fx l
 generalize z_a1 l = R1 at *
 generalize l[k] = i at *
 unfold InsAV at hP
 unfold z_ef at h1
 generalize (putM i).1 = h at *
 generalize (putM i).2 = e at *
 rcases hv with ⟨rfl, rfl⟩ | ⟨ob, rfl, gb⟩
 ·refine ⟨?_, ?_, ?_, ?_, ?_, ?_⟩
  rotate_left 3
  ·simp -implicitDefEqProofs +contextual (disch := try first | omega | assumption | (simp; done)) [z_a8.l0, hk', hk1, h1, hP, hR1, -getElem?_pos]
   constructor <;> rfl
  ·exact .inr ⟨_, rfl, by simp [w16s]⟩
  ·refine ⟨by (repeat' (first | assumption | with_reducible apply Hp.WF.push | with_reducible apply Hp.WF.set | with_reducible apply z_bl | exact Hp.WF.empty)) <;> (simp <;> omega), by simp; omega, fun p blk hp hn => ?_⟩
   have := hw _ _ hp
   refine ⟨by simp (disch := omega) [hp], fun n e => ?_⟩
   injection e with e1
   omega
 ·have hob := hw _ _ gb
  refine ⟨?_, ?_, ?_, ?_, ?_, ?_⟩
  rotate_left 3
  ·simp -implicitDefEqProofs +contextual (disch := try first | omega | assumption | (simp; done)) [z_a8.l0, hk', hk1, h1, hP, hR1, gb, -getElem?_pos]
   constructor <;> rfl
  ·exact .inr ⟨_, by simp; rfl, by simp [z_mt]⟩
  ·refine ⟨by (repeat' (first | assumption | with_reducible apply Hp.WF.push | with_reducible apply Hp.WF.set | with_reducible apply z_bl | exact Hp.WF.empty)) <;> (simp <;> omega), by simp; omega, fun p blk hp hn => ?_⟩
   have := hw _ _ hp
   have hpo : ¬ p = ob := fun e => hn ws.length (by rw [e])
   refine ⟨by simp (disch := omega) [hp, hpo], fun n e => ?_⟩
   injection e with e1
   omega
theorem z_zc (l : List InsM) (hl : l.length ≤ 1000) (ws : List (BitVec 16)) (hws : ws.length ≤ 900000) (v : AV) (H : Hp) (hw : H.WF) (hv : HV ws v H) {r} (hr : aloop hvL (hvFr v l 0 []) H = r) :
  ∃ e fr' X', r = some (e, fr', X') ∧ (e = .exit 0 ∧ HV (ws ++ hlfs l) (fr' 0) X' ∧ Kp v H (fr' 0) X') := by
 refine z_ev hr (z_ct l.length (fun k fr X => ∃ y v', fr = hvFr v' l k y ∧ HV (ws ++ hlfs (l.take k)) v' X ∧ Kp v H v' X) _ (fun k hk fr X hR => ?_) (fun fr X hR => ?_) ⟨[], v, rfl, by simpa [hlfs] using hv, hw, Nat.le_refl _, fun p blk hp hn => ⟨hp, hn⟩⟩)
 ·obtain ⟨y, v', rfl, q1, q2⟩ := hR
  obtain ⟨v2, H2, y2, s1, s2, s3⟩ := z_wh l hl k hk (ws ++ hlfs (l.take k)) (by simp; omega) v' X y q2.1 q1
  refine ⟨_, _, _, s1, .inl ⟨rfl, y2, v2, rfl, ?_, q2.trans s3⟩⟩
  rw [List.take_succ_eq_append_getElem hk, z_hn, ← List.append_assoc]
  exact s2
 ·obtain ⟨y, v', rfl, q1, q2⟩ := hR
  rw [List.take_length] at q1
  refine ⟨_, _, _, by simp -implicitDefEqProofs +contextual (disch := omega) [z_a8.l0, hvFr]; first | rfl | exact ⟨rfl, rfl⟩ | exact ⟨rfl, rfl, rfl⟩, by simp, rfl, by simpa [hvFr] using q1, by simpa [hvFr] using q2⟩
theorem z_ts (l : List InsM) (hl : l.length ≤ 1000) (ws : List (BitVec 16)) (hws : ws.length ≤ 900000) (v : AV) (H : Hp) (hw : H.WF) (hv : HV ws v H) :
  ∃ v' H', z_a8.spec [v, .rsl 5 (z_a1 l)] H = some (v', H') ∧ HV (ws ++ hlfs l) v' H' ∧ Kp v H v' H' := by
 have hrl := z_fx l
 obtain ⟨e, fr', X', h1, rfl, h2, h3⟩ := z_zc l hl ws hws v H hw hv rfl
 refine ⟨fr' 0, X', ?_, h2, h3⟩
 simp -implicitDefEqProofs +contextual (disch := omega) [z_a8.spec, z_a8, hrl]
 generalize hr : aloop _ _ _ = r
 have : r = some (.exit 0, fr', X') := hr.symm.trans h1
 subst this
 simp -implicitDefEqProofs +contextual (disch := omega) []
theorem z_h3 {v : AV} {H : Hp} {l : List InsM} {r : Option (AV × Hp)} (hr : z_a8.spec [v, .rsl 5 (z_a1 l)] H = r) (hl : l.length ≤ 1000) (ws : List (BitVec 16)) (hws : ws.length ≤ 900000) (hw : H.WF) (hv : HV ws v H) :
  ∃ v' H', r = some (v', H') ∧ HV (ws ++ hlfs l) v' H' ∧ Kp v H v' H' := by
 subst hr; exact z_ts l hl ws hws v H hw hv
end Go.Abs
end
section
namespace Go.Abs
open Th
theorem z_p3 (o : OpM) (dst : Nat) (src : List Nat) (hs : src.length ≤ 2) : (stepI o dst src).length ≤ 22 := by
 have h1 := z_nz o
 have h2 := z_p9 dst
 unfold stepI headI
 match src, hs with
 | [], _ => simp [regsI]; omega
 | [x], _ => have := z_g7 0 x; simp [regsI]; omega
 | [x, y], _ => have := z_g7 0 x; have := z_g7 1 y; simp [regsI]; omega
def srcI (m : List Nat) (o : OpM) : List Nat := (if 0 < z_de o.k then [m.getD o.a.toNat 0] else []) ++ (if 1 < z_de o.k then [m.getD o.b.toNat 0] else [])
theorem z_hw (m : List Nat) (o : OpM) : (srcI m o).length ≤ 2 := by unfold srcI; split <;> split <;> simp
theorem z_il (m : List Nat) (hm : ∀ x ∈ m, x ≤ 16000) (k : Nat) : m.getD k 0 ≤ 16000 := by
 rw [List.getD_eq_getElem?_getD]
 by_cases h : k < m.length
 ·rw [List.getElem?_eq_getElem h]; exact hm _ (List.getElem_mem h)
 ·rw [List.getElem?_eq_none (by omega)]; simp
theorem z_os (m : List Nat) (hm : ∀ x ∈ m, x ≤ 16000) (o : OpM) : ∀ x ∈ srcI m o, x ≤ 16000 := by
 intro x hx
 unfold srcI at hx
 rw [List.mem_append] at hx
 rcases hx with hx | hx
 ·split at hx
  ·rw [List.mem_singleton.1 hx]; exact z_il m hm _
  ·simp at hx
 ·split at hx
  ·rw [List.mem_singleton.1 hx]; exact z_il m hm _
  ·simp at hx
def iz (m : List Nat) : List Int := m.map fun x : Nat => (x : Int)
@[simp] theorem iz_length (m : List Nat) : (iz m).length = m.length := by simp [iz]
theorem z_qb (m : List Nat) (k : Nat) (h : k < m.length) : (ints (iz m))[k]? = some [.int .i64 (m.getD k 0 : Nat)] := by
 simp [ints, iz, h, List.getD_eq_getElem?_getD]
noncomputable abbrev ecL0 := z_cd.l0 z_d9.spec z_ak.spec z_da.spec z_a8.spec z_bs.spec z_ck.spec
def ecFr (c : CodeM) (m : List Nat) (v : AV) (k : Nat) (y : List (Nat × AV)) : AFr :=
 AFr.al ([(1, .rsl 1 (ints (iz m))), (2, .ptr 0 3 0 0), (6, v), (33, .rsl 4 (z_d0 c.ops)), (34, .int .i64 c.ops.length), (35, .int .i64 k)] ++ y)
theorem z_u4 {ws v H} (h : HV ws v H) : alenR .sl v = some (.int .i64 ws.length) := by
 rcases h with ⟨rfl, rfl⟩ | ⟨ob, rfl, _⟩ <;> rfl
theorem z_pz {ws v H} (h : HV ws v H) {X : Hp} (hx : ∀ b blk, H.get b = some blk → X.get b = some blk) : HV ws v X := by
 rcases h with h | ⟨ob, rfl, g⟩
 ·exact .inl h
 ·exact .inr ⟨ob, rfl, hx _ _ g⟩
theorem z_wm (c : CodeM) (n : Nat) (hn : c.inN = n) (m : List Nat) (hm : ∀ x ∈ m, x ≤ 16000) (hml : m.length = n + c.ops.length) (hop : c.ops.length ≤ 1000) (hin : n ≤ 4000) (k : Nat) (hk : k < c.ops.length) (hok : c.ops[k].ok (n + k : Nat) = true)
  (ws : List (BitVec 16)) (hws : ws.length ≤ 50000) (v : AV) (H : Hp) (y : List (Nat × AV)) (hw : H.WF) (h0 : H.get 0 = some (z_b9 c)) (h0' : NotAt 0 v) (hv : HV ws v H) :
  ∃ v' H' y', ecL0 (ecFr c m v k y) H = some (.normal, ecFr c m v' (k + 1) y', H') ∧ HV (ws ++ hlfs (stepI c.ops[k] (m.getD (n + k) 0) (srcI m c.ops[k]))) v' H' ∧ H'.WF ∧ H'.get 0 = some (z_b9 c) ∧ NotAt 0 v' := by
 have hk' : (k : Int) < c.ops.length := by omega
 have hk1 : ((k + 1 : Nat) : Int) = (k : Int) + 1 := by omega
 have hrow := z_f3 c.ops k hk
 have h0b := hw _ _ h0
 have hT := z_ny c.ops[k].k
 have htk : (if c.ops[k].k = 1 ∨ c.ops[k].k = 2 then (2 : Int) else if c.ops[k].k = 0 ∨ c.ops[k].k = 7 then 0 else 1) = z_de c.ops[k].k := rfl
 rw [htk] at hT
 have hS := z_qk c.ops[k] (m.getD (n + k) 0) (z_il m hm _) (srcI m c.ops[k]) (z_hw m _) (z_os m hm _)
 have hnk : (n : Int) + k = ((n + k : Nat) : Int) := by omega
 have hgk := z_qb m (n + k) (by omega)
 rw [z_bi, hn] at h0
 simp only [z_bi, hn]
 have hOl : (z_d0 c.ops).length = c.ops.length := z_e8 _
 have hIl : (ints (iz m)).length = m.length := by simp
 unfold OpM.ok at hok
 simp only [Bool.and_eq_true, decide_eq_true_eq] at hok
 obtain ⟨⟨⟨⟨q1, q2⟩, q3⟩, q4⟩, q5⟩ := hok
 have hta : 0 < z_de c.ops[k].k → ∃ A : Nat, c.ops[k].a = A ∧ A < m.length := fun h => by
  have : 0 < z_a7 c.ops[k].k := by
   have : z_a7 c.ops[k].k = z_de c.ops[k].k := by unfold z_a7 z_de; repeat' split <;> omega
   omega
  simp [wireM, this] at q4
  exact ⟨c.ops[k].a.toNat, by omega, by omega⟩
 have htb : 1 < z_de c.ops[k].k → ∃ B : Nat, c.ops[k].b = B ∧ B < m.length := fun h => by
  have : 1 < z_a7 c.ops[k].k := by
   have : z_a7 c.ops[k].k = z_de c.ops[k].k := by unfold z_a7 z_de; repeat' split <;> omega
   omega
  simp [wireM, this] at q5
  exact ⟨c.ops[k].b.toNat, by omega, by omega⟩
 have hts := z_js c.ops[k].k
 have hSl := z_p3 c.ops[k] (m.getD (n + k) 0) (srcI m c.ops[k]) (z_hw m _)
 unfold ecFr
 clear q1 q2 q3 q4 q5 htk
 generalize hN : n + k = N at *
 generalize hL : stepI c.ops[k] (m.getD N 0) (srcI m c.ops[k]) = L at *
 generalize c.ops[k] = o at *
 obtain ⟨ok, oa, ob, on⟩ := o
 simp only [OpM.cells] at hrow hS
 dsimp only at hta htb hts hT
 have hc : z_de ok = 0 ∨ z_de ok = 1 ∨ z_de ok = 2 := by
  have h0 : 0 ≤ z_de ok := by unfold z_de; repeat' split <;> omega
  omega
 rcases hc with hc | hc | hc
 ·rw [hc] at hT hta htb
  have hsr : srcI m ⟨ok, oa, ob, on⟩ = [] := by simp [srcI, hc]
  rw [hsr] at hS
  simp only [List.map_nil, List.map_cons, ints] at hS
  generalize m.getD N 0 = z at *
  generalize ints (iz m) = I at *
  generalize z_d0 c.ops = R at *
  generalize hr : ecL0 _ H = r
  simp -implicitDefEqProofs +contextual (disch := omega) [z_cd.l0, hk', hrow, hOl, h0, z_al, z_cd.l1, hT, hnk, hgk, hIl, hS, -getElem?_pos] at hr
  generalize hq : z_a8.spec _ _ = q at hr
  obtain ⟨v', H', rfl, p1, p2⟩ := z_h3 hq (by omega) ws (by omega) (by (repeat' (first | assumption | with_reducible apply Hp.WF.push | with_reducible apply Hp.WF.set | with_reducible apply z_bl | exact Hp.WF.empty)) <;> (simp <;> omega)) (z_pz hv fun b blk hb => by have := hw _ _ hb; simp (disch := omega) [hb])
  have hlv := z_u4 p1
  rw [z_d8 p2.1 p2.2.1] at hr
  have hlw : (ws ++ hlfs L).length = ws.length + L.length := by simp
  rw [hlw] at hlv
  simp -implicitDefEqProofs +contextual (disch := omega) [hlv] at hr
  subst hr
  obtain ⟨g1, g2⟩ := p2.2.2 0 _ (by simp (disch := omega) [h0]; rfl) h0'
  refine ⟨v', H', _, by rw [hk1]; rfl, p1, p2.1, g1, g2⟩
 ·rw [hc] at hT hta htb
  obtain ⟨A, rfl, hA⟩ := hta (by omega)
  have hga := z_qb m A hA
  have hsr : srcI m ⟨ok, A, ob, on⟩ = [m.getD A 0] := by simp [srcI, hc]
  rw [hsr] at hS
  simp only [List.map_nil, List.map_cons, ints] at hS
  generalize m.getD N 0 = z at *
  generalize m.getD A 0 = x at *
  generalize ints (iz m) = I at *
  generalize z_d0 c.ops = R at *
  generalize hr : ecL0 _ H = r
  simp -implicitDefEqProofs +contextual (disch := omega) [z_cd.l0, hk', hrow, hOl, h0, z_al, z_cd.l1, hT, hnk, hgk, hIl, hS, hga, hA, -getElem?_pos] at hr
  generalize hq : z_a8.spec _ _ = q at hr
  obtain ⟨v', H', rfl, p1, p2⟩ := z_h3 hq (by omega) ws (by omega) (by (repeat' (first | assumption | with_reducible apply Hp.WF.push | with_reducible apply Hp.WF.set | with_reducible apply z_bl | exact Hp.WF.empty)) <;> (simp <;> omega)) (z_pz hv fun b blk hb => by have := hw _ _ hb; simp (disch := omega) [hb])
  have hlv := z_u4 p1
  rw [z_d8 p2.1 p2.2.1] at hr
  have hlw : (ws ++ hlfs L).length = ws.length + L.length := by simp
  rw [hlw] at hlv
  simp -implicitDefEqProofs +contextual (disch := omega) [hlv] at hr
  subst hr
  obtain ⟨g1, g2⟩ := p2.2.2 0 _ (by simp (disch := omega) [h0]; rfl) h0'
  refine ⟨v', H', _, by rw [hk1]; rfl, p1, p2.1, g1, g2⟩
 ·rw [hc] at hT hta htb
  obtain ⟨A, rfl, hA⟩ := hta (by omega)
  have hga := z_qb m A hA
  obtain ⟨B, rfl, hB⟩ := htb (by omega)
  have hgb := z_qb m B hB
  have hsr : srcI m ⟨ok, A, B, on⟩ = [m.getD A 0, m.getD B 0] := by simp [srcI, hc]
  rw [hsr] at hS
  simp only [List.map_nil, List.map_cons, ints] at hS
  generalize m.getD N 0 = z at *
  generalize m.getD A 0 = x at *
  generalize m.getD B 0 = x2 at *
  have hB' := hB
  generalize ints (iz m) = I at *
  generalize z_d0 c.ops = R at *
  generalize hr : ecL0 _ H = r
  simp -implicitDefEqProofs +contextual (disch := omega) [z_cd.l0, hk', hrow, hOl, h0, z_al, z_cd.l1, hT, hnk, hgk, hIl, hS, hga, hgb, hA, hB, -getElem?_pos] at hr
  generalize hq : z_a8.spec _ _ = q at hr
  obtain ⟨v', H', rfl, p1, p2⟩ := z_h3 hq (by omega) ws (by omega) (by (repeat' (first | assumption | with_reducible apply Hp.WF.push | with_reducible apply Hp.WF.set | with_reducible apply z_bl | exact Hp.WF.empty)) <;> (simp <;> omega)) (z_pz hv fun b blk hb => by have := hw _ _ hb; simp (disch := omega) [hb])
  have hlv := z_u4 p1
  rw [z_d8 p2.1 p2.2.1] at hr
  have hlw : (ws ++ hlfs L).length = ws.length + L.length := by simp
  rw [hlw] at hlv
  simp -implicitDefEqProofs +contextual (disch := omega) [hlv] at hr
  subst hr
  obtain ⟨g1, g2⟩ := p2.2.2 0 _ (by simp (disch := omega) [h0]; rfl) h0'
  refine ⟨v', H', _, by rw [hk1]; rfl, p1, p2.1, g1, g2⟩
end Go.Abs
end
section
namespace Go.Abs
open Th
def opZ : OpM := ⟨0, 0, 0, 0#32⟩
def blkI (c : CodeM) (m : List Nat) (k : Nat) : List InsM := stepI (c.ops.getD k opZ) (m.getD (c.inN.toNat + k) 0) (srcI m (c.ops.getD k opZ))
def upI (c : CodeM) (m : List Nat) (k : Nat) : List InsM := z_ic ++ ((List.range k).map (blkI c m)).flatten
theorem z_hr (c : CodeM) (m : List Nat) (k : Nat) : upI c m (k + 1) = upI c m k ++ blkI c m k := by
 unfold upI; rw [List.range_succ, List.map_append, List.flatten_append, List.append_assoc]; simp
theorem z_z0 (c : CodeM) (m : List Nat) (k : Nat) : (blkI c m k).length ≤ 22 := z_p3 _ _ _ (z_hw _ _)
theorem z_mu (c : CodeM) (m : List Nat) : ∀ k, (upI c m k).length ≤ 4 + 22 * k
 | 0 => by simp [upI, z_ic]
 | k + 1 => by rw [z_hr, List.length_append]; have := z_mu c m k; have := z_z0 c m k; omega
def bkI : InsM := ⟨20, 0, 0, 0, 0⟩
def codeI (c : CodeM) (m : List Nat) : List InsM := upI c m c.ops.length ++ [bkI]
def z_h9 (c : CodeM) (slots : List Int) : Bool := c.can && decide ((slots.length : Int) = c.inN + c.ops.length) && !(slots.any fun n => !z_cu n)
theorem z_zs (c : CodeM) (n : Nat) (hn : c.inN = n) (m : List Nat) (hm : ∀ x ∈ m, x ≤ 16000) (hml : m.length = n + c.ops.length) (hop : c.ops.length ≤ 1000) (hin : n ≤ 4000) (hok : opsOk c.ops c.inN = true)
  (v : AV) (H : Hp) (hw : H.WF) (h0 : H.get 0 = some (z_b9 c)) (h0' : NotAt 0 v) (hv : HV (hlfs z_ic) v H) {r} (hr : aloop ecL0 (ecFr c m v 0 []) H = r) :
  ∃ e fr' X', r = some (e, fr', X') ∧ (e = .exit 0 ∧ HV (hlfs (upI c m c.ops.length)) (fr' 6) X' ∧ X'.WF) := by
 refine z_ev hr (z_ct c.ops.length (fun k fr X => ∃ y v', fr = ecFr c m v' k y ∧ HV (hlfs (upI c m k)) v' X ∧ X.WF ∧ X.get 0 = some (z_b9 c) ∧ NotAt 0 v') _ (fun k hk fr X hR => ?_) (fun fr X hR => ?_) ⟨[], v, rfl, by simpa [upI] using hv, hw, h0, h0'⟩)
 ·obtain ⟨y, v', rfl, q1, q2, q3, q4⟩ := hR
  have hu := z_mu c m k
  have hok' := (z_fi _ _).1 hok k hk
  rw [hn, show (n : Int) + k = ((n + k : Nat) : Int) by omega] at hok'
  obtain ⟨v2, H2, y2, s1, s2, s3, s4, s5⟩ := z_wm c n hn m hm hml hop hin k hk hok' (hlfs (upI c m k)) (by simp; omega) v' X y q2 q3 q4 q1
  refine ⟨_, _, _, s1, .inl ⟨rfl, y2, v2, rfl, ?_, s3, s4, s5⟩⟩
  have e1 : c.ops.getD k opZ = c.ops[k] := by simp [List.getD_eq_getElem?_getD, hk]
  rw [z_hr, z_hn, blkI, e1, hn, Int.toNat_natCast]
  exact s2
 ·obtain ⟨y, v', rfl, q1, q2, q3, q4⟩ := hR
  refine ⟨_, _, _, by simp -implicitDefEqProofs +contextual (disch := omega) [z_cd.l0, ecFr]; first | rfl | exact ⟨rfl, rfl⟩ | exact ⟨rfl, rfl, rfl⟩, by simp, rfl, by simpa [ecFr] using q1, q2⟩
theorem z_jz : putM bkI = (48640#16, 0) := by decide +kernel
theorem z_tt {ws : List (BitVec 16)} (hws : ws.length ≤ 900000) {v : AV} {H : Hp} (hw : H.WF) (hv : HV ws v H) :
  ∃ v' H', z_a8.spec [v, .sl H.next 5 0 1] (H.push { e := T.ty_api_Ins, sz := 5, flat := true, rows := [[.int .i64 20, .int .i64 0, .int .i64 0, .int .i64 0, .int .i64 0]] }) = some (v', H') ∧ HV (ws ++ [48640#16]) v' H' := by
 have hP := z_x4 bkI
 rw [z_jz] at hP
 unfold InsAV bkI at hP
 dsimp only at hP
 rcases hv with ⟨rfl, rfl⟩ | ⟨ob, rfl, gb⟩
 ·refine ⟨_, _, by simp -implicitDefEqProofs +contextual (disch := omega) [z_a8.spec, z_a8, z_al, z_a8.l0, hP]; exact ⟨rfl, rfl⟩, .inr ⟨_, rfl, by simp [w16s]⟩⟩
 ·have hob := hw _ _ gb
  refine ⟨_, _, by simp -implicitDefEqProofs +contextual (disch := omega) [z_a8.spec, z_a8, z_al, z_a8.l0, hP, gb]; exact ⟨rfl, rfl⟩, .inr ⟨_, by simp; rfl, by simp [z_mt]⟩⟩
theorem z_w8 (c : CodeM) (hop : c.ops.length ≤ 1000) (hout : c.outs.length ≤ 1000000000) (slots : List Int) (hl : slots.length ≤ 1000000000) :
  z_cd.spec [.agg c.cells, .rsl 1 (ints slots)] = some (if z_h9 c slots = true then .tup [.rsl 1 (w16s (hlfs (codeI c (slots.map Int.toNat)))), .int .i64 0] else .tup [.rsl 1 [], .int .i64 1]) := by
 have hC := Can_eq' c hout (by omega)
 have hcb := z_bi c
 unfold z_h9
 unfold CodeM.cells at hC ⊢
 cases hcan : c.can with
 | false =>
  rw [hcan] at hC
  simp -implicitDefEqProofs +contextual (disch := omega) [z_cd.spec, z_cd, hC]
 | true =>
  rw [hcan] at hC
  have hcan' := hcan
  unfold CodeM.can at hcan'
  simp only [Bool.and_eq_true, decide_eq_true_eq] at hcan'
  obtain ⟨⟨⟨⟨q1, q2⟩, q3⟩, q4⟩, q5⟩ := hcan'
  obtain ⟨n, hn⟩ : ∃ n : Nat, c.inN = n := ⟨c.inN.toNat, by omega⟩
  rw [hn] at hC hcb ⊢
  have hn4 : n ≤ 4000 := by omega
  by_cases hlen : (slots.length : Int) = n + c.ops.length
  ·rw [decide_eq_true hlen]
   simp -implicitDefEqProofs +contextual (disch := omega) [z_cd.spec, z_cd, hC, hlen]
   generalize hr : z_ak.spec _ _ = r
   obtain rfl := z_i0 z_zf z_wp hr (by (repeat' (first | assumption | with_reducible apply Hp.WF.push | with_reducible apply Hp.WF.set | with_reducible apply z_bl | exact Hp.WF.empty)) <;> (simp <;> omega)) hl
   cases hany : slots.any fun n => !z_cu n with
   | true =>
    simp -implicitDefEqProofs +contextual (disch := omega) []
    simpa using hany
   | false =>
    obtain ⟨m, rfl, hm⟩ := z_m1 slots hany
    have hmm : (m.map fun x : Nat => (x : Int)).map Int.toNat = m := by rw [List.map_map]; exact (List.map_congr_left fun x _ => by simp).trans (List.map_id m)
    rw [hmm, if_pos (fun a ha => by obtain ⟨x, hx, rfl⟩ := List.mem_map.1 ha; have := hm x hx; simp [z_cu]; omega)]
    rw [List.length_map] at hlen
    have hB := z_wy
    simp -implicitDefEqProofs +contextual (disch := omega) [hB]
    generalize hq : z_a8.spec _ _ = q
    obtain ⟨v1, X1, rfl, p1, p2⟩ := z_h3 hq (by simp [z_ic]) [] (by simp) (by (repeat' (first | assumption | with_reducible apply Hp.WF.push | with_reducible apply Hp.WF.set | with_reducible apply z_bl | exact Hp.WF.empty)) <;> (simp <;> omega)) (.inl ⟨rfl, rfl⟩)
    obtain ⟨g1, g2⟩ := p2.2.2 0 _ (by simp; rfl) (fun _ h => by cases h)
    simp -implicitDefEqProofs +contextual (disch := omega) [g1]
    generalize hr : aloop _ _ _ = r
    obtain ⟨e, fr', X', rfl, rfl, s1, s2⟩ := z_zs c n hn m hm (by omega) hop (by omega) q4 v1 X1 p2.1 (by rw [hcb]; exact g1) g2 p1 hr
    have hu := z_mu c m c.ops.length
    simp -implicitDefEqProofs +contextual (disch := omega) []
    obtain ⟨v2, X2, t1, t2⟩ := z_tt (by simp; omega) s2 s1
    have hco : hlfs (upI c m c.ops.length) ++ [48640#16] = hlfs (codeI c m) := by unfold codeI; rw [z_hn]; simp [hlfs, z_jz]
    rw [hco] at t2
    rw [t1]
    rcases t2 with ⟨t3, rfl⟩ | ⟨ob, rfl, t4⟩
    ·have : (hlfs (codeI c m)).length = 0 := by rw [t3]; rfl
     simp [codeI] at this
    ·generalize hlfs (codeI c m) = L at *
     simp -implicitDefEqProofs +contextual (disch := omega) [t4]
  ·rw [decide_eq_false hlen]
   simp -implicitDefEqProofs +contextual (disch := omega) [z_cd.spec, z_cd, hC, hlen]
end Go.Abs
end
end
section
section
namespace Go.Abs
open Th
def seqM : List InsM → StM → MemM → StM × MemM × Int
 | [], s, m => (s, m, 0)
 | i :: l, s, m => if (doM i s m).e = 0 then seqM l (doM i s m).s (doM i s m).m else ((doM i s m).s, (doM i s m).m, (doM i s m).e)
theorem z_jx : ∀ (a b : List InsM) (s : StM) (m : MemM) (s1 : StM) (m1 : MemM), seqM a s m = (s1, m1, 0) → seqM (a ++ b) s m = seqM b s1 m1
 | [], b, s, m, s1, m1, h => by cases h; rfl
 | i :: a, b, s, m, s1, m1, h => by
  rw [List.cons_append, seqM]
  rw [seqM] at h
  by_cases e : (doM i s m).e = 0
  ·rw [if_pos e] at h ⊢; exact z_jx a b _ _ _ _ h
  ·rw [if_neg e] at h; exact (e (congrArg (fun x => x.2.2) h)).elim
abbrev Regs := Nat → BitVec 32
def Rg (s : StM) (f : Regs) : Prop := ∀ k, k < 8 → s.reg k = f k
def upd (f : Regs) (d : Nat) (v : BitVec 32) : Regs := fun k => if k = d then v else f k
def Tri (T : List (BitVec 32)) (l : List InsM) (f : Regs) (W : List (BitVec 32)) (d : Nat) (g : Regs) (W' : List (BitVec 32)) (d' : Nat) : Prop :=
 ∀ (s : StM) (m : MemM), Rg s f → m.words = W → m.drawn = d → m.tape = T → ∃ s' m', seqM l s m = (s', m', 0) ∧ Rg s' g ∧ s'.pc = s.pc + BitVec.ofNat 32 (2 * l.length) ∧ m'.words = W' ∧ m'.drawn = d' ∧ m'.tape = m.tape ∧ m'.code = m.code
theorem Tri.nil (T f W d) : Tri T [] f W d f W d := fun s m h1 h2 h3 h4 => ⟨s, m, rfl, h1, by simp, h2, h3, rfl, rfl⟩
theorem Tri.append {T a b f W d g W1 d1 h W2 d2} (ha : Tri T a f W d g W1 d1) (hb : Tri T b g W1 d1 h W2 d2) : Tri T (a ++ b) f W d h W2 d2 := by
 intro s m h1 h2 h3 h4
 obtain ⟨s1, m1, p1, p2, p3, p4, p5, p6, p7⟩ := ha s m h1 h2 h3 h4
 obtain ⟨s2, m2, q1, q2, q3, q4, q5, q6, q7⟩ := hb s1 m1 p2 p4 p5 (p6.trans h4)
 refine ⟨s2, m2, by rw [z_jx a b s m s1 m1 p1]; exact q1, q2, ?_, q4, q5, q6.trans p6, q7.trans p7⟩
 rw [q3, p3, List.length_append, BitVec.add_assoc, Nat.mul_add, BitVec.ofNat_add]
theorem Tri.weak {T l f W d g W' d'} (h : Tri T l f W d g W' d') {g' : Regs} (hg : ∀ k, k < 8 → g k = g' k) : Tri T l f W d g' W' d' := by
 intro s m h1 h2 h3 h4
 obtain ⟨s1, m1, p1, p2, p3⟩ := h s m h1 h2 h3 h4
 exact ⟨s1, m1, p1, fun k hk => (p2 k hk).trans (hg k hk), p3⟩
theorem z_yd {T : List (BitVec 32)} {i : InsM} {f : Regs} {W : List (BitVec 32)} {d : Nat} (r : Nat) (v : BitVec 32) (hr : r < 8)
  (h : ∀ s m, Rg s f → (doM i s m).e = 0 ∧ (doM i s m).m = m ∧ (doM i s m).s.pc = s.pc + 2#32 ∧ ∀ k, k < 8 → (doM i s m).s.reg k = if k = r then v else s.reg k) : Tri T [i] f W d (upd f r v) W d := by
 intro s m h1 h2 h3 h4
 obtain ⟨e1, e2, e3, e4⟩ := h s m h1
 refine ⟨(doM i s m).s, m, by rw [seqM, if_pos e1, e2]; rfl, fun k hk => ?_, by rw [e3]; rfl, h2, h3, rfl, rfl⟩
 rw [e4 k hk]; unfold upd; split
 ·rfl
 ·exact h1 k hk
theorem z_lw (s : StM) (D k : Nat) (x : BitVec 32) (hk : k < 8) : (s.setR D x).reg k = if k = D then x else s.reg k := by
 unfold StM.reg StM.setR at0
 rw [List.getD_eq_getElem?_getD, List.getD_eq_getElem?_getD, List.getElem?_set]
 by_cases e : D = k
 ·subst e; simp [s.len, hk]
 ·rw [if_neg e, if_neg (fun q => e q.symm)]
@[simp] theorem flagsM_reg (s : StM) (w : BitVec 32) (k : Nat) : (z_fl s w).reg k = s.reg k := rfl
@[simp] theorem flagsM_pc (s : StM) (w : BitVec 32) : (z_fl s w).pc = s.pc := rfl
theorem z_jw (s : StM) (s0 : StM) (D k : Nat) (x : BitVec 32) (p : BitVec 32) (hk : k < 8) (h : ∀ k, s.reg k = s0.reg k) : ((s.setR D x).setPC p).reg k = if k = D then x else s0.reg k := by
 rw [z_gv, z_lw _ _ _ _ hk, h]
theorem z_jp (n : Nat) : immW (n : Int) = BitVec.ofNat 32 n := BitVec.ofInt_natCast _ _
theorem z_pk (i : InsM) (k D : Nat) (hk : i.op = k) (hk2 : k ≤ 11) (hD : i.d = D) (hw : z_ed i = (i.d, true)) (s : StM) (m : MemM) :
  doM i s m = ⟨((reckM s k D i.n.toNat i.m.toNat i.imm).1.setR D (reckM s k D i.n.toNat i.m.toNat i.imm).2).setPC (s.pc + 2#32), m, false, 0⟩ := by
 unfold doM
 rw [hk, hD, hw, Int.toNat_natCast, Int.toNat_natCast]
 dsimp only
 split <;> first | omega | simp
theorem z_gu {T : List (BitVec 32)} {i : InsM} {f : Regs} {W : List (BitVec 32)} {d : Nat} (k D : Nat) (v : BitVec 32) (hk : i.op = k) (hk2 : k ≤ 11) (hD : i.d = D) (hD8 : D < 8) (hw : z_ed i = (i.d, true))
  (h : ∀ s, Rg s f → (reckM s k D i.n.toNat i.m.toNat i.imm).2 = v ∧ (∀ j, (reckM s k D i.n.toNat i.m.toNat i.imm).1.reg j = s.reg j)) : Tri T [i] f W d (upd f D v) W d := by
 refine z_yd D v hD8 fun s m hs => ?_
 obtain ⟨h1, h2⟩ := h s hs
 rw [z_pk i k D hk hk2 hD hw s m]
 refine ⟨rfl, rfl, rfl, fun j hj => ?_⟩
 rw [h1]
 exact z_jw _ s _ _ _ _ hj h2
theorem z_c7 (i : InsM) (h : usedI i) (ho : i.op ≠ 15) : z_ed i = (i.d, true) := by
 obtain ⟨h1, h2⟩ := h
 unfold z_ed
 rw [if_pos h2, if_neg]
 omega
theorem z_ht (T f W d) (D n : Nat) (hD : D < 8) (hn : n ≤ 255) : Tri T [mvI D n] f W d (upd f D (BitVec.ofNat 32 n)) W d :=
 z_gu 0 D _ rfl (by omega) rfl hD (z_c7 _ (z_f9 D n (by omega) (by omega)) (by simp [mvI])) fun s hs => ⟨by simp [reckM, mvI, z_jp], fun j => by simp [reckM]⟩
theorem z_xd (T f W d) (D n : Nat) (hD : D < 8) (hn : n ≤ 255) : Tri T [adI D n] f W d (upd f D (f D + BitVec.ofNat 32 n)) W d :=
 z_gu 2 D _ rfl (by omega) rfl hD (z_c7 _ (z_op D n (by omega) (by omega)) (by simp [adI])) fun s hs => ⟨by simp only [reckM, adI, z_jp, addS, addM, cw]; rw [hs D hD]; simp, fun j => rfl⟩
theorem shl_w (a : BitVec 32) (n : Nat) (hn : n ≤ 31) (c : Bool) : (z_df 0 a (BitVec.ofNat 32 n) c).w = a <<< n := by
 unfold z_df
 have ht : (BitVec.ofNat 32 n).toNat = n := by rw [BitVec.toNat_ofNat]; omega
 by_cases h : BitVec.ofNat 32 n = 0#32
 ·rw [if_pos h]; have : n = 0 := by rw [← ht, h]; rfl
  subst this; simp
 ·rw [if_neg h, ht]; rfl
theorem shr_w (a : BitVec 32) (n : Nat) (hn : n ≤ 31) (c : Bool) : (z_df 1 a (BitVec.ofNat 32 n) c).w = a >>> n := by
 unfold z_df
 have ht : (BitVec.ofNat 32 n).toNat = n := by rw [BitVec.toNat_ofNat]; omega
 by_cases h : BitVec.ofNat 32 n = 0#32
 ·rw [if_pos h]; have : n = 0 := by rw [← ht, h]; rfl
  subst this; simp
 ·rw [if_neg h, ht]; rfl
theorem z_kv (T f W d) (D n : Nat) (hD : D < 8) (hn : n ≤ 31) : Tri T [lfI D n] f W d (upd f D (f D <<< n)) W d :=
 z_gu 4 D _ rfl (by omega) rfl hD (z_c7 _ (z_hj D n (by omega) (by omega)) (by simp [lfI])) fun s hs => ⟨by simp only [reckM, lfI, z_jp, z_f0, Int.toNat_natCast]; rw [shl_w _ _ hn, hs D hD], fun j => rfl⟩
theorem tri_lr (T f W d) (D n : Nat) (hD : D < 8) (hn : n ≤ 31) (h1 : 1 ≤ n) : Tri T [⟨5, D, 0, D, n⟩] f W d (upd f D (f D >>> n)) W d :=
 z_gu 5 D _ rfl (by omega) rfl hD (z_c7 _ (z_p1 D n (by omega) (by omega)) (by simp)) fun s hs => ⟨by simp only [reckM, z_jp, z_f0, Int.toNat_natCast]; rw [shr_w _ _ hn, hs D hD], fun j => rfl⟩
end Go.Abs
end
section
namespace Go.Abs
open Th
theorem z_yg (T f W d) : Tri T [alI 0 0 1] f W d (upd f 0 (f 0 &&& f 1)) W d :=
 z_gu 11 0 _ rfl (by omega) rfl (by omega) (z_c7 _ (z_gt 0 0 1 (by decide) (by decide) (by decide)) (by simp [alI])) fun s hs => ⟨by simp only [reckM, alI, aluM]; rw [← hs 0 (by omega), ← hs 1 (by omega)]; rfl, fun j => rfl⟩
theorem z_ya (T f W d) : Tri T [alI 1 0 1] f W d (upd f 0 (f 0 ^^^ f 1)) W d :=
 z_gu 11 0 _ rfl (by omega) rfl (by omega) (z_c7 _ (z_gt 1 0 1 (by decide) (by decide) (by decide)) (by simp [alI])) fun s hs => ⟨by simp only [reckM, alI, aluM]; rw [← hs 0 (by omega), ← hs 1 (by omega)]; rfl, fun j => rfl⟩
theorem z_ye (T f W d) : Tri T [alI 15 0 0] f W d (upd f 0 (~~~ f 0)) W d :=
 z_gu 11 0 _ rfl (by omega) rfl (by omega) (z_c7 _ (z_gt 15 0 0 (by decide) (by decide) (by decide)) (by simp [alI])) fun s hs => ⟨by simp only [reckM, alI, aluM]; rw [← hs 0 (by omega)]; rfl, fun j => rfl⟩
theorem z_yb (T f W d) : Tri T [alI 7 0 2] f W d (upd f 0 (z_df 3 (f 0) (f 2 &&& 255#32) false).w) W d :=
 z_gu 11 0 _ rfl (by omega) rfl (by omega) (z_c7 _ (z_gt 7 0 2 (by decide) (by decide) (by decide)) (by simp [alI])) fun s hs => ⟨by
  have e : (reckM s 11 0 (alI 7 0 2).n.toNat (alI 7 0 2).m.toNat (alI 7 0 2).imm).2 = (z_df 3 (s.reg 0) (s.reg 2 &&& 255#32) s.c).w := rfl
  rw [e, hs 0 (by omega), hs 2 (by omega)]
  unfold z_df; split <;> rfl, fun j => rfl⟩
theorem z_yr (a n : BitVec 32) (hn : n.toNat < 32) : (z_df 3 a (BitVec.ofNat 32 ((32#32 - n) % 32#32).toNat &&& 255#32) false).w = rotM a n := by
 have key : ∀ k : Nat, k < 32 → (BitVec.ofNat 32 ((32#32 - BitVec.ofNat 32 k) % 32#32).toNat &&& 255#32) = BitVec.ofNat 32 ((32 - k) % 32) := by decide +kernel
 obtain ⟨k, hk, rfl⟩ : ∃ k : Nat, k < 32 ∧ n = BitVec.ofNat 32 k := ⟨n.toNat, hn, by simp⟩
 rw [key k hk]
 unfold rotM
 have hk2 : (BitVec.ofNat 32 k).toNat % 32 = k := by rw [BitVec.toNat_ofNat]; omega
 rw [hk2]
 by_cases h0 : k = 0
 ·subst h0
  rw [show BitVec.ofNat 32 ((32 - 0) % 32) = 0#32 from rfl]
  unfold z_df
  rw [if_pos rfl]
  have h32 : a >>> 32 = 0#32 := by apply BitVec.eq_of_toNat_eq; rw [BitVec.toNat_ushiftRight, Nat.shiftRight_eq_div_pow, Nat.div_eq_of_lt a.isLt]; rfl
  simp [BitVec.rotateLeft_def, h32]
 ·have h1 : (32 - k) % 32 = 32 - k := Nat.mod_eq_of_lt (by omega)
  rw [h1]
  unfold z_df
  have ht : (BitVec.ofNat 32 (32 - k)).toNat = 32 - k := by rw [BitVec.toNat_ofNat]; omega
  rw [if_neg (by intro e; have := congrArg BitVec.toNat e; rw [ht] at this; simp at this; omega), ht]
  unfold shN
  rw [BitVec.rotateRight_def, BitVec.rotateLeft_def]
  rw [show (32 - k) % 32 % 32 = 32 - k by omega, show k % 32 = k by omega, show 32 - (32 - k) = k by omega, BitVec.or_comm]
  rfl
theorem doM_14 (r : Nat) (s : StM) (m : MemM) (a : BitVec 32) (ha : s.reg 7 + s.reg 6 = a) (v : BitVec 32) (m2 : MemM) (hl : m.loads a = ((v, 0), m2)) : doM ⟨14, r, 7, 6, 0⟩ s m = ⟨(s.setR r v).setPC (s.pc + 2#32), m2, false, 0⟩ := by
 have e : doM ⟨14, r, 7, 6, 0⟩ s m = if (moveM s 14 r (s.reg 7 + s.reg 6) m).2.2 = 0 then ⟨(moveM s 14 r (s.reg 7 + s.reg 6) m).1.setPC (s.pc + 2#32), (moveM s 14 r (s.reg 7 + s.reg 6) m).2.1, false, 0⟩ else ⟨s, (moveM s 14 r (s.reg 7 + s.reg 6) m).2.1, false, (moveM s 14 r (s.reg 7 + s.reg 6) m).2.2⟩ := rfl
 have e2 : moveM s 14 r a m = (s.setR r v, m2, 0) := by
  unfold moveM
  rw [if_neg (by omega), hl]
  rfl
 rw [e, ha, e2]; rfl
theorem doM_12 (s : StM) (m : MemM) (a : BitVec 32) (ha : s.reg 5 = a) (v : BitVec 32) (m2 : MemM) (hl : m.loads a = ((v, 0), m2)) : doM ⟨12, 0, 5, 0, 0⟩ s m = ⟨(s.setR 0 v).setPC (s.pc + 2#32), m2, false, 0⟩ := by
 have e : doM ⟨12, 0, 5, 0, 0⟩ s m = if (moveM s 12 0 (s.reg 5 + 4#32 * 0#32) m).2.2 = 0 then ⟨(moveM s 12 0 (s.reg 5 + 4#32 * 0#32) m).1.setPC (s.pc + 2#32), (moveM s 12 0 (s.reg 5 + 4#32 * 0#32) m).2.1, false, 0⟩ else ⟨s, (moveM s 12 0 (s.reg 5 + 4#32 * 0#32) m).2.1, false, (moveM s 12 0 (s.reg 5 + 4#32 * 0#32) m).2.2⟩ := rfl
 have e3 : s.reg 5 + 4#32 * 0#32 = a := by rw [ha]; simp
 have e2 : moveM s 12 0 a m = (s.setR 0 v, m2, 0) := by
  unfold moveM
  rw [if_neg (by omega), hl]
  rfl
 rw [e, e3, e2]; rfl
theorem doM_15 (s : StM) (m : MemM) (a : BitVec 32) (ha : s.reg 7 + s.reg 6 = a) (m2 : MemM) (hl : m.store a (s.reg 0) = (0, m2)) : doM ⟨15, 0, 7, 6, 0⟩ s m = ⟨s.setPC (s.pc + 2#32), m2, false, 0⟩ := by
 have e : doM ⟨15, 0, 7, 6, 0⟩ s m = if (moveM s 15 0 (s.reg 7 + s.reg 6) m).2.2 = 0 then ⟨(moveM s 15 0 (s.reg 7 + s.reg 6) m).1.setPC (s.pc + 2#32), (moveM s 15 0 (s.reg 7 + s.reg 6) m).2.1, false, 0⟩ else ⟨s, (moveM s 15 0 (s.reg 7 + s.reg 6) m).2.1, false, (moveM s 15 0 (s.reg 7 + s.reg 6) m).2.2⟩ := rfl
 have e2 : moveM s 15 0 a m = (s, m2, 0) := by
  unfold moveM
  rw [if_pos (by omega), hl]
 rw [e, ha, e2]; rfl
def slotA (n : Nat) : BitVec 32 := 536870912#32 + BitVec.ofNat 32 (4 * n)
theorem z_sj (n : Nat) (h : n ≤ 16000) : (slotA n).toNat = 536870912 + 4 * n := by
 unfold slotA; rw [BitVec.toNat_add, BitVec.toNat_ofNat]; simp; omega
theorem z_p4 (m : MemM) (n : Nat) (h : n ≤ 16000) (hn : n < m.words.length) : m.at (slotA n) = true ∧ slotA n % 4#32 = 0#32 ∧ slotA n ≠ 1073741824#32 ∧ wslot (slotA n) = n := by
 have h1 := z_sj n h
 have hw : wslot (slotA n) = n := by
  unfold wslot; rw [BitVec.toNat_sub, h1]; simp; omega
 refine ⟨?_, ?_, ?_, hw⟩
 ·unfold MemM.at
  rw [hw]
  simp only [Bool.and_eq_true, decide_eq_true_eq]
  refine ⟨?_, hn⟩
  rw [BitVec.le_def, h1]; simp
 ·apply BitVec.eq_of_toNat_eq
  rw [BitVec.toNat_umod, h1]; simp
 ·intro e
  have := congrArg BitVec.toNat e
  rw [h1] at this
  simp at this; omega
theorem tri_ld (T f W d) (r n : Nat) (hr : r < 8) (h : n ≤ 16000) (hn : n < W.length) (h7 : f 7 = 536870912#32) (h6 : f 6 = BitVec.ofNat 32 (4 * n)) : Tri T [⟨14, r, 7, 6, 0⟩] f W d (upd f r (at0 W n)) W d := by
 intro s m h1 h2 h3 h4
 subst h2 h3 h4
 obtain ⟨a1, a2, a3, a4⟩ := z_p4 m n h hn
 have hl : m.loads (slotA n) = ((at0 m.words n, 0), { m with bus := at0 m.words n }) := by
  unfold MemM.loads MemM.load
  rw [if_neg (fun q => q a2), if_neg a3, if_pos a1, a4]
  rfl
 have ha : s.reg 7 + s.reg 6 = slotA n := by rw [h1 7 (by omega), h1 6 (by omega), h7, h6]; rfl
 have hd := doM_14 r s m _ ha _ _ hl
 refine ⟨(s.setR r (at0 m.words n)).setPC (s.pc + 2#32), { m with bus := at0 m.words n }, by rw [seqM, hd]; rfl, fun k hk => ?_, rfl, rfl, rfl, rfl, rfl⟩
 rw [z_gv, z_lw _ _ _ _ hk, h1 k hk]; rfl
theorem z_yf (T f W d) (h5 : f 5 = 1073741824#32) (hd : d < T.length) : Tri T [⟨12, 0, 5, 0, 0⟩] f W d (upd f 0 (at0 T d)) W (d + 1) := by
 intro s m h1 h2 h3 h4
 subst h2 h3 h4
 have hl : m.loads 1073741824#32 = ((at0 m.tape m.drawn, 0), { m with drawn := m.drawn + 1, bus := at0 m.tape m.drawn }) := by
  unfold MemM.loads MemM.load
  rw [if_neg (fun q => q rfl), if_pos rfl, if_neg (by omega)]
  rfl
 have hdo := doM_12 s m _ (by rw [h1 5 (by omega), h5]) _ _ hl
 refine ⟨(s.setR 0 (at0 m.tape m.drawn)).setPC (s.pc + 2#32), { m with drawn := m.drawn + 1, bus := at0 m.tape m.drawn }, by rw [seqM, hdo]; rfl, fun k hk => ?_, rfl, rfl, rfl, rfl, rfl⟩
 rw [z_gv, z_lw _ _ _ _ hk, h1 k hk]; rfl
theorem tri_st (T f W d) (n : Nat) (h : n ≤ 16000) (hn : n < W.length) (h7 : f 7 = 536870912#32) (h6 : f 6 = BitVec.ofNat 32 (4 * n)) : Tri T [⟨15, 0, 7, 6, 0⟩] f W d f (W.set n (f 0)) d := by
 intro s m h1 h2 h3 h4
 subst h2 h3 h4
 obtain ⟨a1, a2, a3, a4⟩ := z_p4 m n h hn
 have ha : s.reg 7 + s.reg 6 = slotA n := by rw [h1 7 (by omega), h1 6 (by omega), h7, h6]; rfl
 have hl : m.store (slotA n) (s.reg 0) = (0, { m with words := m.words.set n (s.reg 0), bus := s.reg 0 }) := by
  unfold MemM.store
  rw [if_pos ⟨a1, a2⟩, a4]
 have hd := doM_15 s m _ ha _ hl
 refine ⟨s.setPC (s.pc + 2#32), { m with words := m.words.set n (s.reg 0), bus := s.reg 0 }, by rw [seqM, hd]; rfl, fun k hk => by rw [z_gv]; exact h1 k hk, rfl, ?_, rfl, rfl, rfl⟩
 dsimp only
 rw [h1 0 (by omega)]
end Go.Abs
end
section
namespace Go.Abs
open Th
theorem z_0e (n : Nat) (h : n ≤ 16000) : BitVec.ofNat 32 (4 * n / 256) <<< 8 + BitVec.ofNat 32 (4 * n % 256) = BitVec.ofNat 32 (4 * n) := by
 apply BitVec.eq_of_toNat_eq
 rw [BitVec.toNat_add, BitVec.toNat_shiftLeft, BitVec.toNat_ofNat, BitVec.toNat_ofNat, BitVec.toNat_ofNat, Nat.shiftLeft_eq]
 omega
theorem z_xc (T f W d) (n : Nat) (h : n ≤ 16000) : Tri T (atI n) f W d (upd f 6 (BitVec.ofNat 32 (4 * n))) W d := by
 unfold atI
 split
 ·exact z_ht T f W d 6 (4 * n) (by omega) (by omega)
 ·refine (((z_ht T f W d 6 (4 * n / 256) (by omega) (by omega)).append (z_kv T _ W d 6 8 (by omega) (by omega))).append (z_xd T _ W d 6 (4 * n % 256) (by omega) (by omega))).weak fun k hk => ?_
  unfold upd
  by_cases e : k = 6
  ·subst e; simp only [if_true]; exact z_0e n h
  ·simp only [if_neg e]
theorem z_or (T f W d) (r n : Nat) (hr : r < 8) (h : n ≤ 16000) (hn : n < W.length) (h7 : f 7 = 536870912#32) : Tri T (getI r n) f W d (upd (upd f 6 (BitVec.ofNat 32 (4 * n))) r (at0 W n)) W d :=
 (z_xc T f W d n h).append (tri_ld T _ W d r n hr h hn (by simpa [upd] using h7) (by simp [upd]))
theorem z_yc (T f W d) (n : Nat) (h : n ≤ 16000) (hn : n < W.length) (h7 : f 7 = 536870912#32) : Tri T (putI n) f W d (upd f 6 (BitVec.ofNat 32 (4 * n))) (W.set n (f 0)) d := by
 have h2 := tri_st T (upd f 6 (BitVec.ofNat 32 (4 * n))) W d n h hn (by simpa [upd] using h7) (by simp [upd])
 have e : upd f 6 (BitVec.ofNat 32 (4 * n)) 0 = f 0 := by simp [upd]
 rw [e] at h2
 exact (z_xc T f W d n h).append h2
def Fix (f g : Regs) (v : BitVec 32) : Prop := g 0 = v ∧ g 5 = f 5 ∧ g 7 = f 7
theorem z_n1 (v : BitVec 32) (j : Nat) : byteI v j = v.toNat / 2 ^ (24 - 8 * j) % 256 := by
 unfold byteI
 rw [BitVec.toNat_and, BitVec.toNat_ushiftRight, Nat.shiftRight_eq_div_pow]
 exact Nat.and_two_pow_sub_one_eq_mod _ 8
theorem z_uf (v : BitVec 32) (j : Nat) (hj : j < 4) : v >>> (32 - 8 * (j + 1)) = (v >>> (32 - 8 * j)) <<< 8 + BitVec.ofNat 32 (byteI v j) := by
 apply BitVec.eq_of_toNat_eq
 rw [BitVec.toNat_add, BitVec.toNat_shiftLeft, BitVec.toNat_ofNat, BitVec.toNat_ushiftRight, BitVec.toNat_ushiftRight, Nat.shiftLeft_eq, Nat.shiftRight_eq_div_pow, Nat.shiftRight_eq_div_pow, z_n1]
 have hv := v.isLt
 have h4 : j = 0 ∨ j = 1 ∨ j = 2 ∨ j = 3 := by omega
 rcases h4 with rfl | rfl | rfl | rfl <;> simp only [Nat.reduceMul, Nat.reduceSub, Nat.reducePow, Nat.reduceAdd, Nat.pow_zero] <;> omega
theorem z_jr (T W d) (v : BitVec 32) (f : Regs) : ∀ j, j ≤ 4 → (z_do v j = [] → v >>> (32 - 8 * j) = 0#32) ∧ (z_do v j ≠ [] → ∃ g, Tri T (z_do v j) f W d g W d ∧ Fix f g (v >>> (32 - 8 * j)))
 | 0, _ => ⟨fun _ => by apply BitVec.eq_of_toNat_eq; rw [BitVec.toNat_ushiftRight, Nat.shiftRight_eq_div_pow, Nat.div_eq_of_lt v.isLt]; rfl, fun h => (h rfl).elim⟩
 | j + 1, hj => by
  obtain ⟨ih1, ih2⟩ := z_jr T W d v f j (by omega)
  have hs := z_uf v j (by omega)
  have hb : byteI v j ≤ 255 := by rw [z_n1]; omega
  rw [z_do]
  by_cases h : z_do v j = []
  ·rw [if_neg (fun q => q h)]
   rw [ih1 h] at hs
   have hz : 0#32 <<< 8 + BitVec.ofNat 32 (byteI v j) = BitVec.ofNat 32 (byteI v j) := by simp
   rw [hz] at hs
   by_cases h2 : 0 < byteI v j ∨ j = 3
   ·rw [if_pos h2]
    refine ⟨fun q => (List.cons_ne_nil _ _ q).elim, fun _ => ⟨_, z_ht T f W d 0 (byteI v j) (by omega) hb, by rw [hs]; simp [upd], by simp [upd], by simp [upd]⟩⟩
   ·rw [if_neg h2]
    refine ⟨fun _ => ?_, fun q => (q rfl).elim⟩
    rw [hs, show byteI v j = 0 by omega]
  ·rw [if_pos h]
   obtain ⟨g, g1, g2, g3, g4⟩ := ih2 h
   refine ⟨fun q => (h (List.append_eq_nil_iff.1 q).1).elim, fun _ => ⟨_, g1.append ((z_kv T g W d 0 8 (by omega) (by omega)).append (z_xd T _ W d 0 (byteI v j) (by omega) hb)), ?_, by simp [upd, g3], by simp [upd, g4]⟩⟩
   rw [hs]; simp [upd, g2]
theorem z_sa (T W d) (v : BitVec 32) (f : Regs) : ∃ g, Tri T (z_kb v) f W d g W d ∧ Fix f g v := by
 have hne : z_do v 4 ≠ [] := by
  intro e
  rw [z_do] at e
  split at e
  ·simp at e
  ·rw [if_pos (.inr rfl)] at e; cases e
 obtain ⟨g, g1, g2⟩ := (z_jr T W d v f 4 (by omega)).2 hne
 exact ⟨g, g1, by simpa using g2⟩
theorem z_ve (T W d) (o : OpM) (hn : numOk o) (hk : 0 ≤ o.k ∧ o.k < 9) (f : Regs) (h5 : f 5 = 1073741824#32) (hd : o.k = 0 → d < T.length) :
  ∃ g, Tri T (doesI o) f W d g W (if o.k = 0 then d + 1 else d) ∧ Fix f g (if o.k = 0 then at0 T d else stepW o (f 0) (f 1)) := by
 obtain ⟨k, a, b, n⟩ := o
 unfold numOk at hn
 dsimp only at hn hk hd
 have hk9 : k = 0 ∨ k = 1 ∨ k = 2 ∨ k = 3 ∨ k = 4 ∨ k = 5 ∨ k = 6 ∨ k = 7 ∨ k = 8 := by omega
 unfold doesI stepW
 dsimp only
 rcases hk9 with rfl | rfl | rfl | rfl | rfl | rfl | rfl | rfl | rfl
 ·exact ⟨_, z_yf T f W d h5 (hd rfl), by simp [upd], by simp [upd], by simp [upd]⟩
 ·exact ⟨_, z_yg T f W d, by simp [upd], by simp [upd], by simp [upd]⟩
 ·exact ⟨_, z_ya T f W d, by simp [upd], by simp [upd], by simp [upd]⟩
 ·exact ⟨_, z_ye T f W d, by simp [upd], by simp [upd], by simp [upd]⟩
 ·have := hn (.inl rfl)
  exact ⟨_, z_kv T f W d 0 n.toNat (by omega) (by omega), by simp [upd], by simp [upd], by simp [upd]⟩
 ·have hn5 := hn (.inr (.inl rfl))
  by_cases h0 : n = 0#32
  ·subst h0
   exact ⟨_, z_kv T f W d 0 0 (by omega) (by omega), by simp [upd], by simp [upd], by simp [upd]⟩
  ·have : n.toNat ≠ 0 := fun e => h0 (BitVec.eq_of_toNat_eq (by simpa using e))
   rw [if_neg (by omega), if_neg (by omega), if_neg (by omega), if_neg (by omega), if_pos rfl, if_neg h0]
   exact ⟨_, tri_lr T f W d 0 n.toNat (by omega) (by omega) (by omega), by simp [upd], by simp [upd], by simp [upd]⟩
 ·have hn6 := hn (.inr (.inr rfl))
  have hm : ((32#32 - n) % 32#32).toNat < 32 := by rw [BitVec.toNat_umod]; exact Nat.mod_lt _ (by decide)
  refine ⟨_, (z_ht T f W d 2 ((32#32 - n) % 32#32).toNat (by omega) (by omega)).append (z_yb T _ W d), ?_, by simp [upd], by simp [upd]⟩
  have := z_yr (f 0) n hn6
  simp only [upd]
  simpa using this
 ·obtain ⟨g, g1, g2⟩ := z_sa T W d n f
  exact ⟨g, g1, g2⟩
 ·exact ⟨f, Tri.nil T f W d, rfl, rfl, rfl⟩
theorem z_vc (T W d) (hW : W.length ≤ 16000) : ∀ (src : List Nat) (f : Regs), src.length ≤ 2 → (∀ x ∈ src, x < W.length) → f 7 = 536870912#32 →
  ∃ g, Tri T (regsI src 0) f W d g W d ∧ (∀ k, k < src.length → g k = at0 W (src.getD k 0)) ∧ g 5 = f 5 ∧ g 7 = f 7
 | [], f, _, _, _ => ⟨f, Tri.nil T f W d, fun k h => by simp at h, rfl, rfl⟩
 | [x], f, _, hx, h7 => by
  have h1 := hx x (by simp)
  refine ⟨_, by simp only [regsI, List.append_nil]; exact z_or T f W d 0 x (by omega) (by omega) h1 h7, fun k h => ?_, by simp [upd], by simp [upd]⟩
  have : k = 0 := by simpa using h
  subst this; simp [upd]
 | [x, y], f, _, hx, h7 => by
  have h1 := hx x (by simp)
  have h2 := hx y (by simp)
  refine ⟨_, by simp only [regsI, List.append_nil]; exact (z_or T f W d 0 x (by omega) (by omega) h1 h7).append (z_or T _ W d 1 y (by omega) (by omega) h2 (by simpa [upd] using h7)), fun k h => ?_, by simp [upd], by simp [upd]⟩
  have : k = 0 ∨ k = 1 := by simp at h; omega
  rcases this with rfl | rfl <;> simp [upd]
theorem z_vd (T f W d) (src : List Nat) : ∃ g, Tri T (headI src) f W d g W d ∧ g 5 = f 5 ∧ g 7 = f 7 := by
 unfold headI
 split
 ·exact ⟨_, (z_ht T f W d 0 0 (by omega) (by omega)).append (z_ht T _ W d 1 0 (by omega) (by omega)), by simp [upd], by simp [upd]⟩
 ·exact ⟨_, z_ht T f W d 0 0 (by omega) (by omega), by simp [upd], by simp [upd]⟩
def stepV (o : OpM) (W : List (BitVec 32)) (src : List Nat) (t0 : BitVec 32) : BitVec 32 :=
 if o.k = 0 then t0 else stepW o (at0 W (src.getD 0 0)) (at0 W (src.getD 1 0))
theorem z_vb (T W d) (hW : W.length ≤ 16000) (o : OpM) (hn : numOk o) (hk : 0 ≤ o.k ∧ o.k < 9) (dst : Nat) (hdst : dst < W.length) (src : List Nat) (hs : (src.length : Int) = z_a7 o.k) (hx : ∀ x ∈ src, x < W.length) (f : Regs) (h5 : f 5 = 1073741824#32) (h7 : f 7 = 536870912#32) (hd : o.k = 0 → d < T.length) :
  ∃ g, Tri T (stepI o dst src) f W d g (W.set dst (stepV o W src (at0 T d))) (if o.k = 0 then d + 1 else d) ∧ g 5 = 1073741824#32 ∧ g 7 = 536870912#32 := by
 have htk : z_a7 o.k ≤ 2 := by unfold z_a7; repeat' split <;> omega
 obtain ⟨g1, a1, a2, a3⟩ := z_vd T f W d src
 obtain ⟨g2, b1, b2, b3, b4⟩ := z_vc T W d hW src g1 (by omega) hx (by rw [a3, h7])
 obtain ⟨g3, c1, c2, c3, c4⟩ := z_ve T W d o hn hk g2 (by rw [b3, a2, h5]) hd
 have hp := z_yc T g3 W (if o.k = 0 then d + 1 else d) dst (by omega) hdst (by rw [c4, b4, a3, h7])
 have hv : g3 0 = stepV o W src (at0 T d) := by
  rw [c2]
  unfold stepV
  by_cases h0 : o.k = 0
  ·rw [if_pos h0, if_pos h0]
  ·rw [if_neg h0, if_neg h0]
   have h9 : o.k = 1 ∨ o.k = 2 ∨ o.k = 3 ∨ o.k = 4 ∨ o.k = 5 ∨ o.k = 6 ∨ o.k = 7 ∨ o.k = 8 := by omega
   have e0 : 0 < z_a7 o.k → g2 0 = at0 W (src.getD 0 0) := fun h => b2 0 (by omega)
   have e1 : 1 < z_a7 o.k → g2 1 = at0 W (src.getD 1 0) := fun h => b2 1 (by omega)
   clear hn hk hs hd c1 c2 htk hp
   obtain ⟨k, a, b, n⟩ := o
   dsimp only at h9 e0 e1 ⊢
   unfold stepW
   dsimp only
   rcases h9 with rfl | rfl | rfl | rfl | rfl | rfl | rfl | rfl
   ·rw [e0 (by decide), e1 (by decide)] <;> rfl
   ·rw [e0 (by decide), e1 (by decide)] <;> rfl
   ·rw [e0 (by decide)] <;> rfl
   ·rw [e0 (by decide)] <;> rfl
   ·rw [e0 (by decide)] <;> rfl
   ·rw [e0 (by decide)] <;> rfl
   ·rfl
   ·rw [e0 (by decide)] <;> rfl
 rw [hv] at hp
 refine ⟨_, (((a1.append b1).append c1).append hp), by simp [upd, c3, b3, a2, h5], by simp [upd, c4, b4, a3, h7]⟩
theorem z_sb (T f W d) : ∃ g, Tri T z_ic f W d g W d ∧ g 5 = 1073741824#32 ∧ g 7 = 536870912#32 := by
 refine ⟨_, (z_ht T f W d 7 32 (by omega) (by omega)).append ((z_kv T _ W d 7 24 (by omega) (by omega)).append ((z_ht T _ W d 5 64 (by omega) (by omega)).append (z_kv T _ W d 5 24 (by omega) (by omega)))), by simp [upd], by simp [upd]⟩
end Go.Abs
end
end

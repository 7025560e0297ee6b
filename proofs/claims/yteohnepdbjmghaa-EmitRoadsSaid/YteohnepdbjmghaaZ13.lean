/-
  What instructions do: the document's conditions. Printed by genc5.py.
-/
import Derived.Test.YteohnepdbjmghaaZ11
import Derived.Test.YteohnepdbjmghaaZ7
import Derived.KernelRfl
import Derived.Test.YteohnepdbjmghaaZ9
import Derived.Test.YteohnepdbjmghaaZ12
import Derived.Test.YteohnepdbjmghaaZ4
import Derived.Test.YteohnepdbjmghaaZ3
import Derived.Test.YteohnepdbjmghaaZ8
set_option linter.unusedSimpArgs false
set_option linter.unusedVariables false
set_option maxHeartbeats 20000000
set_option maxRecDepth 100000
section
namespace Go.Abs
theorem z_ni (s : StM) (w : BitVec 32) : z_c0.spec [.agg s.cells, W32 w] = some (.agg (z_fl s w).cells) := by
 have h : decide (2147483648#32 ≤ w) = w.msb := by rw [BitVec.msb_eq_decide, decide_eq_decide, BitVec.le_def]; exact Iff.rfl
 simp -implicitDefEqProofs +contextual (disch := omega) [z_c0.spec, z_c0, h, z_fl]
theorem rholds0 (a0 a1 a2 a3 a4 a5 a6 a7 pc : BitVec 32) (n z c v : Bool) (h : [a0, a1, a2, a3, a4, a5, a6, a7].length = 8) : z_bm.spec [.int .i64 0, .agg (StM.mk [a0, a1, a2, a3, a4, a5, a6, a7] h pc n z c v).cells] = some (.bool (z_e2 0 ⟨[a0, a1, a2, a3, a4, a5, a6, a7], h, pc, n, z, c, v⟩)) := by
 cases n <;> cases z <;> cases c <;> cases v
 all_goals kernel_rfl
theorem rholds1 (a0 a1 a2 a3 a4 a5 a6 a7 pc : BitVec 32) (n z c v : Bool) (h : [a0, a1, a2, a3, a4, a5, a6, a7].length = 8) : z_bm.spec [.int .i64 1, .agg (StM.mk [a0, a1, a2, a3, a4, a5, a6, a7] h pc n z c v).cells] = some (.bool (z_e2 1 ⟨[a0, a1, a2, a3, a4, a5, a6, a7], h, pc, n, z, c, v⟩)) := by
 cases n <;> cases z <;> cases c <;> cases v
 all_goals kernel_rfl
theorem rholds2 (a0 a1 a2 a3 a4 a5 a6 a7 pc : BitVec 32) (n z c v : Bool) (h : [a0, a1, a2, a3, a4, a5, a6, a7].length = 8) : z_bm.spec [.int .i64 2, .agg (StM.mk [a0, a1, a2, a3, a4, a5, a6, a7] h pc n z c v).cells] = some (.bool (z_e2 2 ⟨[a0, a1, a2, a3, a4, a5, a6, a7], h, pc, n, z, c, v⟩)) := by
 cases n <;> cases z <;> cases c <;> cases v
 all_goals kernel_rfl
theorem rholds3 (a0 a1 a2 a3 a4 a5 a6 a7 pc : BitVec 32) (n z c v : Bool) (h : [a0, a1, a2, a3, a4, a5, a6, a7].length = 8) : z_bm.spec [.int .i64 3, .agg (StM.mk [a0, a1, a2, a3, a4, a5, a6, a7] h pc n z c v).cells] = some (.bool (z_e2 3 ⟨[a0, a1, a2, a3, a4, a5, a6, a7], h, pc, n, z, c, v⟩)) := by
 cases n <;> cases z <;> cases c <;> cases v
 all_goals kernel_rfl
theorem rholds4 (a0 a1 a2 a3 a4 a5 a6 a7 pc : BitVec 32) (n z c v : Bool) (h : [a0, a1, a2, a3, a4, a5, a6, a7].length = 8) : z_bm.spec [.int .i64 4, .agg (StM.mk [a0, a1, a2, a3, a4, a5, a6, a7] h pc n z c v).cells] = some (.bool (z_e2 4 ⟨[a0, a1, a2, a3, a4, a5, a6, a7], h, pc, n, z, c, v⟩)) := by
 cases n <;> cases z <;> cases c <;> cases v
 all_goals kernel_rfl
theorem rholds5 (a0 a1 a2 a3 a4 a5 a6 a7 pc : BitVec 32) (n z c v : Bool) (h : [a0, a1, a2, a3, a4, a5, a6, a7].length = 8) : z_bm.spec [.int .i64 5, .agg (StM.mk [a0, a1, a2, a3, a4, a5, a6, a7] h pc n z c v).cells] = some (.bool (z_e2 5 ⟨[a0, a1, a2, a3, a4, a5, a6, a7], h, pc, n, z, c, v⟩)) := by
 cases n <;> cases z <;> cases c <;> cases v
 all_goals kernel_rfl
theorem rholds6 (a0 a1 a2 a3 a4 a5 a6 a7 pc : BitVec 32) (n z c v : Bool) (h : [a0, a1, a2, a3, a4, a5, a6, a7].length = 8) : z_bm.spec [.int .i64 6, .agg (StM.mk [a0, a1, a2, a3, a4, a5, a6, a7] h pc n z c v).cells] = some (.bool (z_e2 6 ⟨[a0, a1, a2, a3, a4, a5, a6, a7], h, pc, n, z, c, v⟩)) := by
 cases n <;> cases z <;> cases c <;> cases v
 all_goals kernel_rfl
theorem rholds7 (a0 a1 a2 a3 a4 a5 a6 a7 pc : BitVec 32) (n z c v : Bool) (h : [a0, a1, a2, a3, a4, a5, a6, a7].length = 8) : z_bm.spec [.int .i64 7, .agg (StM.mk [a0, a1, a2, a3, a4, a5, a6, a7] h pc n z c v).cells] = some (.bool (z_e2 7 ⟨[a0, a1, a2, a3, a4, a5, a6, a7], h, pc, n, z, c, v⟩)) := by
 cases n <;> cases z <;> cases c <;> cases v
 all_goals kernel_rfl
theorem rholds8 (a0 a1 a2 a3 a4 a5 a6 a7 pc : BitVec 32) (n z c v : Bool) (h : [a0, a1, a2, a3, a4, a5, a6, a7].length = 8) : z_bm.spec [.int .i64 8, .agg (StM.mk [a0, a1, a2, a3, a4, a5, a6, a7] h pc n z c v).cells] = some (.bool (z_e2 8 ⟨[a0, a1, a2, a3, a4, a5, a6, a7], h, pc, n, z, c, v⟩)) := by
 cases n <;> cases z <;> cases c <;> cases v
 all_goals kernel_rfl
theorem rholds9 (a0 a1 a2 a3 a4 a5 a6 a7 pc : BitVec 32) (n z c v : Bool) (h : [a0, a1, a2, a3, a4, a5, a6, a7].length = 8) : z_bm.spec [.int .i64 9, .agg (StM.mk [a0, a1, a2, a3, a4, a5, a6, a7] h pc n z c v).cells] = some (.bool (z_e2 9 ⟨[a0, a1, a2, a3, a4, a5, a6, a7], h, pc, n, z, c, v⟩)) := by
 cases n <;> cases z <;> cases c <;> cases v
 all_goals kernel_rfl
theorem rholds10 (a0 a1 a2 a3 a4 a5 a6 a7 pc : BitVec 32) (n z c v : Bool) (h : [a0, a1, a2, a3, a4, a5, a6, a7].length = 8) : z_bm.spec [.int .i64 10, .agg (StM.mk [a0, a1, a2, a3, a4, a5, a6, a7] h pc n z c v).cells] = some (.bool (z_e2 10 ⟨[a0, a1, a2, a3, a4, a5, a6, a7], h, pc, n, z, c, v⟩)) := by
 cases n <;> cases z <;> cases c <;> cases v
 all_goals kernel_rfl
theorem rholds11 (a0 a1 a2 a3 a4 a5 a6 a7 pc : BitVec 32) (n z c v : Bool) (h : [a0, a1, a2, a3, a4, a5, a6, a7].length = 8) : z_bm.spec [.int .i64 11, .agg (StM.mk [a0, a1, a2, a3, a4, a5, a6, a7] h pc n z c v).cells] = some (.bool (z_e2 11 ⟨[a0, a1, a2, a3, a4, a5, a6, a7], h, pc, n, z, c, v⟩)) := by
 cases n <;> cases z <;> cases c <;> cases v
 all_goals kernel_rfl
theorem rholds12 (a0 a1 a2 a3 a4 a5 a6 a7 pc : BitVec 32) (n z c v : Bool) (h : [a0, a1, a2, a3, a4, a5, a6, a7].length = 8) : z_bm.spec [.int .i64 12, .agg (StM.mk [a0, a1, a2, a3, a4, a5, a6, a7] h pc n z c v).cells] = some (.bool (z_e2 12 ⟨[a0, a1, a2, a3, a4, a5, a6, a7], h, pc, n, z, c, v⟩)) := by
 cases n <;> cases z <;> cases c <;> cases v
 all_goals kernel_rfl
theorem rholds13 (a0 a1 a2 a3 a4 a5 a6 a7 pc : BitVec 32) (n z c v : Bool) (h : [a0, a1, a2, a3, a4, a5, a6, a7].length = 8) : z_bm.spec [.int .i64 13, .agg (StM.mk [a0, a1, a2, a3, a4, a5, a6, a7] h pc n z c v).cells] = some (.bool (z_e2 13 ⟨[a0, a1, a2, a3, a4, a5, a6, a7], h, pc, n, z, c, v⟩)) := by
 cases n <;> cases z <;> cases c <;> cases v
 all_goals kernel_rfl
theorem z_s1 (k : Nat) (hk : k ≤ 13) (s : StM) : z_bm.spec [.int .i64 k, .agg s.cells] = some (.bool (z_e2 k s)) := by
 obtain ⟨r, len, pc, n, z, c, v⟩ := s
 match r, len with
 | [a0, a1, a2, a3, a4, a5, a6, a7], len =>
  match k, hk with
  | 0, _ => exact rholds0 a0 a1 a2 a3 a4 a5 a6 a7 pc n z c v len
  | 1, _ => exact rholds1 a0 a1 a2 a3 a4 a5 a6 a7 pc n z c v len
  | 2, _ => exact rholds2 a0 a1 a2 a3 a4 a5 a6 a7 pc n z c v len
  | 3, _ => exact rholds3 a0 a1 a2 a3 a4 a5 a6 a7 pc n z c v len
  | 4, _ => exact rholds4 a0 a1 a2 a3 a4 a5 a6 a7 pc n z c v len
  | 5, _ => exact rholds5 a0 a1 a2 a3 a4 a5 a6 a7 pc n z c v len
  | 6, _ => exact rholds6 a0 a1 a2 a3 a4 a5 a6 a7 pc n z c v len
  | 7, _ => exact rholds7 a0 a1 a2 a3 a4 a5 a6 a7 pc n z c v len
  | 8, _ => exact rholds8 a0 a1 a2 a3 a4 a5 a6 a7 pc n z c v len
  | 9, _ => exact rholds9 a0 a1 a2 a3 a4 a5 a6 a7 pc n z c v len
  | 10, _ => exact rholds10 a0 a1 a2 a3 a4 a5 a6 a7 pc n z c v len
  | 11, _ => exact rholds11 a0 a1 a2 a3 a4 a5 a6 a7 pc n z c v len
  | 12, _ => exact rholds12 a0 a1 a2 a3 a4 a5 a6 a7 pc n z c v len
  | 13, _ => exact rholds13 a0 a1 a2 a3 a4 a5 a6 a7 pc n z c v len
end Go.Abs
end
section
section
namespace Go.Abs
open Th
theorem z_cr (B : Hp) (b cb wb tb : Nat) (m : MemM) (x : Blk) (hb : b < B.next) (hwb : wb < B.next) : (B.rmem b cb wb tb m).push x = (B.push x).rmem b cb wb tb m := by
 refine z_ij _ _ _ _ _ _ _ (by simp) fun c => ?_
 rw [Hp.get_push, z_bx, z_e1, Hp.get_push]
 by_cases e : c = B.next
 ·subst e; rw [if_pos rfl, if_neg (by omega), if_neg (by omega), if_pos rfl]
 ·rw [if_neg e, if_neg e]
theorem z_dg (B : Hp) (b cb wb tb c : Nat) (m : MemM) (x : Option Blk) (hb : c ≠ b) (hwb : c ≠ wb) : (B.rmem b cb wb tb m).set c x = (B.set c x).rmem b cb wb tb m := by
 refine z_ij _ _ _ _ _ _ _ (by simp) fun d => ?_
 rw [Hp.get_set, z_bx, Hp.get_set]
 by_cases e : d = c
 ·subst e; rw [if_pos rfl, if_neg hb, if_neg (fun q => hwb q.1), if_pos rfl]
 ·rw [if_neg e, if_neg e]
theorem z_c2 (B : Hp) (b cb wb tb c : Nat) (m : MemM) (hb : c ≠ b) (hwb : c ≠ wb) : (B.rmem b cb wb tb m).get c = B.get c := by
 rw [z_bx, if_neg hb, if_neg (fun q => hwb q.1)]
theorem RFix.more {B B' : Hp} {b cb wb tb : Nat} {m m' : MemM} (h : RFix B b cb wb tb m) (hw : B.WF) (hn : B.next ≤ B'.next) (hg : ∀ c, c < B.next → B'.get c = B.get c) (hc : m'.code = m.code) (ht : m'.tape = m.tape) : RFix B' b cb wb tb m' := by
 have h1 := h.hb; have h2 := h.hwb
 refine ⟨fun q => ?_, ?_, by omega, by omega, h.bw, h.bc, h.bt, h.wc, h.wt⟩
 ·rw [hc] at q ⊢
  rw [hg cb (hw _ _ (h.code q))]; exact h.code q
 ·rw [ht, hg tb (hw _ _ h.tape)]; exact h.tape
theorem z_d2 {B B' X : Hp} {b cb wb tb : Nat} {m m' : MemM} {rs : List AV} (hw : B.WF) (hf : RFix B b cb wb tb m) (hX : X = B'.rmem b cb wb tb m') (hn : B.next ≤ B'.next) (hg : ∀ c, c < B.next → B'.get c = B.get c)
  (hwl : m'.words.length = m.words.length) (hcd : m'.code.length = m.code.length) (hc : (mkRes rs).closed = true) :
  forget (B.rmem b cb wb tb m) (some (rs, X)) = some (mkRes rs, B.rmem b cb wb tb m') := by
 subst hX
 have hct : z_mo (B.rmem b cb wb tb m) (B'.rmem b cb wb tb m') := fun c hcn => by
  rw [z_bx, z_bx]
  split
  ·refine .inr fun blk hblk row hr a ha => ?_
   simp only [Option.some.injEq] at hblk
   subst hblk
   simp only [rBlk, List.mem_singleton] at hr
   subst hr
   simp only [List.mem_cons, List.not_mem_nil, or_false] at ha
   rw [z_e1]
   have h1 := hf.hwb; have h2 := hf.tb hw
   rcases ha with rfl | rfl | rfl | rfl | rfl
   ·by_cases h0 : m'.code.length = 0
    ·rw [h0]; rfl
    ·exact z_ia _ _ _ (hf.cb hw (by omega))
   ·exact z_ia _ _ _ h1
   ·simp [z_dk, h2]
   ·rfl
   ·rfl
  ·rw [hwl]
   split
   ·refine .inr fun blk hblk row hr a ha => ?_
    simp only [Option.some.injEq] at hblk
    subst hblk
    have := z_ms _ row hr a ha
    cases a <;> simp_all [z_dk, AV.flat]
   ·refine .inl (hg c (by simpa using hcn))
 unfold forget
 dsimp only
 rw [if_pos ⟨hc, hct, by simpa using hn⟩]
 congr 2
 refine Hp.eq_of (by simp [Hp.trunc]) (funext fun c => ?_)
 show (if c < (B.rmem b cb wb tb m).next then (B'.rmem b cb wb tb m').get c else none) = (B.rmem b cb wb tb m').get c
 rw [z_e1]
 by_cases hcn : c < B.next
 ·rw [if_pos hcn, z_bx, z_bx, hg c hcn]
 ·rw [if_neg hcn]
  cases hh : (B.rmem b cb wb tb m').get c with
  | none => rfl
  | some x => exact (hcn (by have := z_o2 (cb := cb) (tb := tb) (m := m') hw hf.hb hf.hwb c x hh; rwa [z_e1] at this)).elim
theorem z_d1 {B : Hp} {b cb wb tb : Nat} {m m' : MemM} {v : AV} (hw : B.WF) (hb : b < B.next) (hwb : wb < B.next) : san (B.rmem b cb wb tb m) (some (v, B.rmem b cb wb tb m')) = some (v, B.rmem b cb wb tb m') := z_d8 (z_o2 hw hb hwb) (by simp)
def putS (s : StM) (w : BitVec 32) (d : Option Nat) : StM := match d with | some d => (z_fl s w).setR d w | none => z_fl s w
theorem z_sq (s : StM) (w : BitVec 32) (d : Nat) (hd : d < 8) : z_ca.spec [.agg s.cells, W32 w, .int .i64 d] = some (.agg (putS s w (some d)).cells) := by
 have h := z_ni s w
 simp -implicitDefEqProofs +contextual (disch := omega) [z_ca.spec, z_ca, h, putS]
theorem z_sr (s : StM) (w : BitVec 32) : z_ca.spec [.agg s.cells, W32 w, .int .i64 (-1)] = some (.agg (putS s w none).cells) := by
 have h := z_ni s w
 simp -implicitDefEqProofs +contextual (disch := omega) [z_ca.spec, z_ca, h, putS]
theorem z_ee (a : BitVec 32) : z_dh.spec [W32 a] = some (W32 (~~~a)) := by
 have h : 4294967295#32 - a = ~~~a := by
  apply BitVec.eq_of_toNat_eq
  have := a.isLt
  rw [BitVec.toNat_sub, BitVec.toNat_not]; simp; omega
 simp -implicitDefEqProofs +contextual (disch := omega) [z_dh.spec, z_dh, h]
def dAV (d : Option Nat) : AV := match d with | some d => .int .i64 d | none => .int .i64 (-1)
def dOk (d : Option Nat) : Prop := match d with | some d => d < 8 | none => True
theorem z_cn (s : StM) (w : BitVec 32) (d : Option Nat) (hd : dOk d) : z_ca.spec [.agg s.cells, W32 w, dAV d] = some (.agg (putS s w d).cells) := by
 cases d with
 | some d => exact z_sq s w d hd
 | none => exact z_sr s w
def inS (x : StM × BitVec 32) (d : Option Nat) : StM := match d with | some d => x.1.setR d x.2 | none => x.1
theorem z_co (s : StM) (a b : BitVec 32) (c : Bool) (d : Option Nat) (hd : dOk d) : z_cz.spec [.agg s.cells, W32 a, W32 b, .bool c, dAV d] = some (.agg (inS (addS s a b c) d).cells) := by
 have h1 := z_yw a b c
 have h2 := fun s' => z_cn s' (addM a b c).w d hd
 cases d with
 | some d =>
  simp only [dAV] at h2 ⊢
  simp -implicitDefEqProofs +contextual (disch := omega) [z_cz.spec, z_cz, h1, h2, inS, addS, putS]
 | none =>
  simp only [dAV] at h2 ⊢
  simp -implicitDefEqProofs +contextual (disch := omega) [z_cz.spec, z_cz, h1, h2, inS, addS, putS]
theorem z_ao (s : StM) (k : Nat) (hk : k ≤ 3) (a b : BitVec 32) (d : Option Nat) (hd : dOk d) : z_ch.spec [.agg s.cells, .int .i64 k, W32 a, W32 b, dAV d] = some (.agg (inS (z_f0 s k a b) d).cells) := by
 have h1 := z_s8 k hk a b s.c
 have h2 := fun s' => z_cn s' (z_df k a b s.c).w d hd
 cases d with
 | some d =>
  simp only [dAV] at h2 ⊢
  simp -implicitDefEqProofs +contextual (disch := omega) [z_ch.spec, z_ch, h1, h2, inS, z_f0, putS]
 | none =>
  simp only [dAV] at h2 ⊢
  simp -implicitDefEqProofs +contextual (disch := omega) [z_ch.spec, z_ch, h1, h2, inS, z_f0, putS]
def aluD (k d : Nat) : Option Nat := if k = 8 ∨ k = 10 ∨ k = 11 then none else some d
theorem z_eg (b : BitVec 32) : b % 256#32 = b &&& 255#32 := by
 apply BitVec.eq_of_toNat_eq
 rw [BitVec.toNat_umod, BitVec.toNat_and, show (255#32).toNat = 2 ^ 8 - 1 from rfl, Nat.and_two_pow_sub_one_eq_mod]; rfl
theorem ralu0 (s : StM) (d : Nat) (hd : d < 8) (a b : BitVec 32) : z_ar.spec [.agg s.cells, .int .i64 0, .int .i64 d, W32 a, W32 b] = some (.agg (inS (aluM s 0 a b) (aluD 0 d)).cells) := by
 have h1 := fun w => z_cn s w (some d) hd
 have h2 := fun w => z_cn s w none trivial
 have h3 := fun a b c => z_co s a b c (some d) hd
 have h4 := fun a b c => z_co s a b c none trivial
 have h50 := fun a b => z_ao s 0 (by omega) a b (some d) hd
 have h51 := fun a b => z_ao s 1 (by omega) a b (some d) hd
 have h52 := fun a b => z_ao s 2 (by omega) a b (some d) hd
 have h53 := fun a b => z_ao s 3 (by omega) a b (some d) hd
 simp only [dAV] at h1 h2 h3 h4 h50 h51 h52 h53
 push_cast at h50 h51 h52 h53
 simp -implicitDefEqProofs +contextual (disch := omega) [z_ar.spec, z_ar, aluM, aluD, inS, putS, z_eg, z_ee, h1, h2, h3, h4, h50, h51, h52, h53]
theorem ralu1 (s : StM) (d : Nat) (hd : d < 8) (a b : BitVec 32) : z_ar.spec [.agg s.cells, .int .i64 1, .int .i64 d, W32 a, W32 b] = some (.agg (inS (aluM s 1 a b) (aluD 1 d)).cells) := by
 have h1 := fun w => z_cn s w (some d) hd
 have h2 := fun w => z_cn s w none trivial
 have h3 := fun a b c => z_co s a b c (some d) hd
 have h4 := fun a b c => z_co s a b c none trivial
 have h50 := fun a b => z_ao s 0 (by omega) a b (some d) hd
 have h51 := fun a b => z_ao s 1 (by omega) a b (some d) hd
 have h52 := fun a b => z_ao s 2 (by omega) a b (some d) hd
 have h53 := fun a b => z_ao s 3 (by omega) a b (some d) hd
 simp only [dAV] at h1 h2 h3 h4 h50 h51 h52 h53
 push_cast at h50 h51 h52 h53
 simp -implicitDefEqProofs +contextual (disch := omega) [z_ar.spec, z_ar, aluM, aluD, inS, putS, z_eg, z_ee, h1, h2, h3, h4, h50, h51, h52, h53]
theorem ralu2 (s : StM) (d : Nat) (hd : d < 8) (a b : BitVec 32) : z_ar.spec [.agg s.cells, .int .i64 2, .int .i64 d, W32 a, W32 b] = some (.agg (inS (aluM s 2 a b) (aluD 2 d)).cells) := by
 have h1 := fun w => z_cn s w (some d) hd
 have h2 := fun w => z_cn s w none trivial
 have h3 := fun a b c => z_co s a b c (some d) hd
 have h4 := fun a b c => z_co s a b c none trivial
 have h50 := fun a b => z_ao s 0 (by omega) a b (some d) hd
 have h51 := fun a b => z_ao s 1 (by omega) a b (some d) hd
 have h52 := fun a b => z_ao s 2 (by omega) a b (some d) hd
 have h53 := fun a b => z_ao s 3 (by omega) a b (some d) hd
 simp only [dAV] at h1 h2 h3 h4 h50 h51 h52 h53
 push_cast at h50 h51 h52 h53
 simp -implicitDefEqProofs +contextual (disch := omega) [z_ar.spec, z_ar, aluM, aluD, inS, putS, z_eg, z_ee, h1, h2, h3, h4, h50, h51, h52, h53]
theorem ralu3 (s : StM) (d : Nat) (hd : d < 8) (a b : BitVec 32) : z_ar.spec [.agg s.cells, .int .i64 3, .int .i64 d, W32 a, W32 b] = some (.agg (inS (aluM s 3 a b) (aluD 3 d)).cells) := by
 have h1 := fun w => z_cn s w (some d) hd
 have h2 := fun w => z_cn s w none trivial
 have h3 := fun a b c => z_co s a b c (some d) hd
 have h4 := fun a b c => z_co s a b c none trivial
 have h50 := fun a b => z_ao s 0 (by omega) a b (some d) hd
 have h51 := fun a b => z_ao s 1 (by omega) a b (some d) hd
 have h52 := fun a b => z_ao s 2 (by omega) a b (some d) hd
 have h53 := fun a b => z_ao s 3 (by omega) a b (some d) hd
 simp only [dAV] at h1 h2 h3 h4 h50 h51 h52 h53
 push_cast at h50 h51 h52 h53
 simp -implicitDefEqProofs +contextual (disch := omega) [z_ar.spec, z_ar, aluM, aluD, inS, putS, z_eg, z_ee, h1, h2, h3, h4, h50, h51, h52, h53]
theorem ralu4 (s : StM) (d : Nat) (hd : d < 8) (a b : BitVec 32) : z_ar.spec [.agg s.cells, .int .i64 4, .int .i64 d, W32 a, W32 b] = some (.agg (inS (aluM s 4 a b) (aluD 4 d)).cells) := by
 have h1 := fun w => z_cn s w (some d) hd
 have h2 := fun w => z_cn s w none trivial
 have h3 := fun a b c => z_co s a b c (some d) hd
 have h4 := fun a b c => z_co s a b c none trivial
 have h50 := fun a b => z_ao s 0 (by omega) a b (some d) hd
 have h51 := fun a b => z_ao s 1 (by omega) a b (some d) hd
 have h52 := fun a b => z_ao s 2 (by omega) a b (some d) hd
 have h53 := fun a b => z_ao s 3 (by omega) a b (some d) hd
 simp only [dAV] at h1 h2 h3 h4 h50 h51 h52 h53
 push_cast at h50 h51 h52 h53
 simp -implicitDefEqProofs +contextual (disch := omega) [z_ar.spec, z_ar, aluM, aluD, inS, putS, z_eg, z_ee, h1, h2, h3, h4, h50, h51, h52, h53]
theorem ralu5 (s : StM) (d : Nat) (hd : d < 8) (a b : BitVec 32) : z_ar.spec [.agg s.cells, .int .i64 5, .int .i64 d, W32 a, W32 b] = some (.agg (inS (aluM s 5 a b) (aluD 5 d)).cells) := by
 have h1 := fun w => z_cn s w (some d) hd
 have h2 := fun w => z_cn s w none trivial
 have h3 := fun a b c => z_co s a b c (some d) hd
 have h4 := fun a b c => z_co s a b c none trivial
 have h50 := fun a b => z_ao s 0 (by omega) a b (some d) hd
 have h51 := fun a b => z_ao s 1 (by omega) a b (some d) hd
 have h52 := fun a b => z_ao s 2 (by omega) a b (some d) hd
 have h53 := fun a b => z_ao s 3 (by omega) a b (some d) hd
 simp only [dAV] at h1 h2 h3 h4 h50 h51 h52 h53
 push_cast at h50 h51 h52 h53
 simp -implicitDefEqProofs +contextual (disch := omega) [z_ar.spec, z_ar, aluM, aluD, inS, putS, z_eg, z_ee, h1, h2, h3, h4, h50, h51, h52, h53]
theorem ralu6 (s : StM) (d : Nat) (hd : d < 8) (a b : BitVec 32) : z_ar.spec [.agg s.cells, .int .i64 6, .int .i64 d, W32 a, W32 b] = some (.agg (inS (aluM s 6 a b) (aluD 6 d)).cells) := by
 have h1 := fun w => z_cn s w (some d) hd
 have h2 := fun w => z_cn s w none trivial
 have h3 := fun a b c => z_co s a b c (some d) hd
 have h4 := fun a b c => z_co s a b c none trivial
 have h50 := fun a b => z_ao s 0 (by omega) a b (some d) hd
 have h51 := fun a b => z_ao s 1 (by omega) a b (some d) hd
 have h52 := fun a b => z_ao s 2 (by omega) a b (some d) hd
 have h53 := fun a b => z_ao s 3 (by omega) a b (some d) hd
 simp only [dAV] at h1 h2 h3 h4 h50 h51 h52 h53
 push_cast at h50 h51 h52 h53
 simp -implicitDefEqProofs +contextual (disch := omega) [z_ar.spec, z_ar, aluM, aluD, inS, putS, z_eg, z_ee, h1, h2, h3, h4, h50, h51, h52, h53]
theorem ralu7 (s : StM) (d : Nat) (hd : d < 8) (a b : BitVec 32) : z_ar.spec [.agg s.cells, .int .i64 7, .int .i64 d, W32 a, W32 b] = some (.agg (inS (aluM s 7 a b) (aluD 7 d)).cells) := by
 have h1 := fun w => z_cn s w (some d) hd
 have h2 := fun w => z_cn s w none trivial
 have h3 := fun a b c => z_co s a b c (some d) hd
 have h4 := fun a b c => z_co s a b c none trivial
 have h50 := fun a b => z_ao s 0 (by omega) a b (some d) hd
 have h51 := fun a b => z_ao s 1 (by omega) a b (some d) hd
 have h52 := fun a b => z_ao s 2 (by omega) a b (some d) hd
 have h53 := fun a b => z_ao s 3 (by omega) a b (some d) hd
 simp only [dAV] at h1 h2 h3 h4 h50 h51 h52 h53
 push_cast at h50 h51 h52 h53
 simp -implicitDefEqProofs +contextual (disch := omega) [z_ar.spec, z_ar, aluM, aluD, inS, putS, z_eg, z_ee, h1, h2, h3, h4, h50, h51, h52, h53]
theorem ralu8 (s : StM) (d : Nat) (hd : d < 8) (a b : BitVec 32) : z_ar.spec [.agg s.cells, .int .i64 8, .int .i64 d, W32 a, W32 b] = some (.agg (inS (aluM s 8 a b) (aluD 8 d)).cells) := by
 have h1 := fun w => z_cn s w (some d) hd
 have h2 := fun w => z_cn s w none trivial
 have h3 := fun a b c => z_co s a b c (some d) hd
 have h4 := fun a b c => z_co s a b c none trivial
 have h50 := fun a b => z_ao s 0 (by omega) a b (some d) hd
 have h51 := fun a b => z_ao s 1 (by omega) a b (some d) hd
 have h52 := fun a b => z_ao s 2 (by omega) a b (some d) hd
 have h53 := fun a b => z_ao s 3 (by omega) a b (some d) hd
 simp only [dAV] at h1 h2 h3 h4 h50 h51 h52 h53
 push_cast at h50 h51 h52 h53
 simp -implicitDefEqProofs +contextual (disch := omega) [z_ar.spec, z_ar, aluM, aluD, inS, putS, z_eg, z_ee, h1, h2, h3, h4, h50, h51, h52, h53]
theorem ralu9 (s : StM) (d : Nat) (hd : d < 8) (a b : BitVec 32) : z_ar.spec [.agg s.cells, .int .i64 9, .int .i64 d, W32 a, W32 b] = some (.agg (inS (aluM s 9 a b) (aluD 9 d)).cells) := by
 have h1 := fun w => z_cn s w (some d) hd
 have h2 := fun w => z_cn s w none trivial
 have h3 := fun a b c => z_co s a b c (some d) hd
 have h4 := fun a b c => z_co s a b c none trivial
 have h50 := fun a b => z_ao s 0 (by omega) a b (some d) hd
 have h51 := fun a b => z_ao s 1 (by omega) a b (some d) hd
 have h52 := fun a b => z_ao s 2 (by omega) a b (some d) hd
 have h53 := fun a b => z_ao s 3 (by omega) a b (some d) hd
 simp only [dAV] at h1 h2 h3 h4 h50 h51 h52 h53
 push_cast at h50 h51 h52 h53
 simp -implicitDefEqProofs +contextual (disch := omega) [z_ar.spec, z_ar, aluM, aluD, inS, putS, z_eg, z_ee, h1, h2, h3, h4, h50, h51, h52, h53]
theorem ralu10 (s : StM) (d : Nat) (hd : d < 8) (a b : BitVec 32) : z_ar.spec [.agg s.cells, .int .i64 10, .int .i64 d, W32 a, W32 b] = some (.agg (inS (aluM s 10 a b) (aluD 10 d)).cells) := by
 have h1 := fun w => z_cn s w (some d) hd
 have h2 := fun w => z_cn s w none trivial
 have h3 := fun a b c => z_co s a b c (some d) hd
 have h4 := fun a b c => z_co s a b c none trivial
 have h50 := fun a b => z_ao s 0 (by omega) a b (some d) hd
 have h51 := fun a b => z_ao s 1 (by omega) a b (some d) hd
 have h52 := fun a b => z_ao s 2 (by omega) a b (some d) hd
 have h53 := fun a b => z_ao s 3 (by omega) a b (some d) hd
 simp only [dAV] at h1 h2 h3 h4 h50 h51 h52 h53
 push_cast at h50 h51 h52 h53
 simp -implicitDefEqProofs +contextual (disch := omega) [z_ar.spec, z_ar, aluM, aluD, inS, putS, z_eg, z_ee, h1, h2, h3, h4, h50, h51, h52, h53]
theorem ralu11 (s : StM) (d : Nat) (hd : d < 8) (a b : BitVec 32) : z_ar.spec [.agg s.cells, .int .i64 11, .int .i64 d, W32 a, W32 b] = some (.agg (inS (aluM s 11 a b) (aluD 11 d)).cells) := by
 have h1 := fun w => z_cn s w (some d) hd
 have h2 := fun w => z_cn s w none trivial
 have h3 := fun a b c => z_co s a b c (some d) hd
 have h4 := fun a b c => z_co s a b c none trivial
 have h50 := fun a b => z_ao s 0 (by omega) a b (some d) hd
 have h51 := fun a b => z_ao s 1 (by omega) a b (some d) hd
 have h52 := fun a b => z_ao s 2 (by omega) a b (some d) hd
 have h53 := fun a b => z_ao s 3 (by omega) a b (some d) hd
 simp only [dAV] at h1 h2 h3 h4 h50 h51 h52 h53
 push_cast at h50 h51 h52 h53
 simp -implicitDefEqProofs +contextual (disch := omega) [z_ar.spec, z_ar, aluM, aluD, inS, putS, z_eg, z_ee, h1, h2, h3, h4, h50, h51, h52, h53]
theorem ralu12 (s : StM) (d : Nat) (hd : d < 8) (a b : BitVec 32) : z_ar.spec [.agg s.cells, .int .i64 12, .int .i64 d, W32 a, W32 b] = some (.agg (inS (aluM s 12 a b) (aluD 12 d)).cells) := by
 have h1 := fun w => z_cn s w (some d) hd
 have h2 := fun w => z_cn s w none trivial
 have h3 := fun a b c => z_co s a b c (some d) hd
 have h4 := fun a b c => z_co s a b c none trivial
 have h50 := fun a b => z_ao s 0 (by omega) a b (some d) hd
 have h51 := fun a b => z_ao s 1 (by omega) a b (some d) hd
 have h52 := fun a b => z_ao s 2 (by omega) a b (some d) hd
 have h53 := fun a b => z_ao s 3 (by omega) a b (some d) hd
 simp only [dAV] at h1 h2 h3 h4 h50 h51 h52 h53
 push_cast at h50 h51 h52 h53
 simp -implicitDefEqProofs +contextual (disch := omega) [z_ar.spec, z_ar, aluM, aluD, inS, putS, z_eg, z_ee, h1, h2, h3, h4, h50, h51, h52, h53]
theorem ralu13 (s : StM) (d : Nat) (hd : d < 8) (a b : BitVec 32) : z_ar.spec [.agg s.cells, .int .i64 13, .int .i64 d, W32 a, W32 b] = some (.agg (inS (aluM s 13 a b) (aluD 13 d)).cells) := by
 have h1 := fun w => z_cn s w (some d) hd
 have h2 := fun w => z_cn s w none trivial
 have h3 := fun a b c => z_co s a b c (some d) hd
 have h4 := fun a b c => z_co s a b c none trivial
 have h50 := fun a b => z_ao s 0 (by omega) a b (some d) hd
 have h51 := fun a b => z_ao s 1 (by omega) a b (some d) hd
 have h52 := fun a b => z_ao s 2 (by omega) a b (some d) hd
 have h53 := fun a b => z_ao s 3 (by omega) a b (some d) hd
 simp only [dAV] at h1 h2 h3 h4 h50 h51 h52 h53
 push_cast at h50 h51 h52 h53
 simp -implicitDefEqProofs +contextual (disch := omega) [z_ar.spec, z_ar, aluM, aluD, inS, putS, z_eg, z_ee, h1, h2, h3, h4, h50, h51, h52, h53]
theorem ralu14 (s : StM) (d : Nat) (hd : d < 8) (a b : BitVec 32) : z_ar.spec [.agg s.cells, .int .i64 14, .int .i64 d, W32 a, W32 b] = some (.agg (inS (aluM s 14 a b) (aluD 14 d)).cells) := by
 have h1 := fun w => z_cn s w (some d) hd
 have h2 := fun w => z_cn s w none trivial
 have h3 := fun a b c => z_co s a b c (some d) hd
 have h4 := fun a b c => z_co s a b c none trivial
 have h50 := fun a b => z_ao s 0 (by omega) a b (some d) hd
 have h51 := fun a b => z_ao s 1 (by omega) a b (some d) hd
 have h52 := fun a b => z_ao s 2 (by omega) a b (some d) hd
 have h53 := fun a b => z_ao s 3 (by omega) a b (some d) hd
 simp only [dAV] at h1 h2 h3 h4 h50 h51 h52 h53
 push_cast at h50 h51 h52 h53
 simp -implicitDefEqProofs +contextual (disch := omega) [z_ar.spec, z_ar, aluM, aluD, inS, putS, z_eg, z_ee, h1, h2, h3, h4, h50, h51, h52, h53]
theorem ralu15 (s : StM) (d : Nat) (hd : d < 8) (a b : BitVec 32) : z_ar.spec [.agg s.cells, .int .i64 15, .int .i64 d, W32 a, W32 b] = some (.agg (inS (aluM s 15 a b) (aluD 15 d)).cells) := by
 have h1 := fun w => z_cn s w (some d) hd
 have h2 := fun w => z_cn s w none trivial
 have h3 := fun a b c => z_co s a b c (some d) hd
 have h4 := fun a b c => z_co s a b c none trivial
 have h50 := fun a b => z_ao s 0 (by omega) a b (some d) hd
 have h51 := fun a b => z_ao s 1 (by omega) a b (some d) hd
 have h52 := fun a b => z_ao s 2 (by omega) a b (some d) hd
 have h53 := fun a b => z_ao s 3 (by omega) a b (some d) hd
 simp only [dAV] at h1 h2 h3 h4 h50 h51 h52 h53
 push_cast at h50 h51 h52 h53
 simp -implicitDefEqProofs +contextual (disch := omega) [z_ar.spec, z_ar, aluM, aluD, inS, putS, z_eg, z_ee, h1, h2, h3, h4, h50, h51, h52, h53]
end Go.Abs
end
section
namespace Go.Abs
open Th
theorem z_oq (x : BitVec 32) (y : BitVec 32) : x + y + y = x + 2#32 * y := by
 rw [BitVec.add_assoc]; congr 1
 apply BitVec.eq_of_toNat_eq
 rw [BitVec.toNat_add, BitVec.toNat_mul]; simp; omega
theorem down4 (x : BitVec 32) : x / 4#32 * 4#32 = x &&& 4294967292#32 := by
 have h : x &&& 4294967292#32 = (x >>> 2) <<< 2 := by
  apply BitVec.eq_of_getLsbD_eq
  intro i hi
  have h1 : ∀ i : Fin 32, (4294967292#32).getLsbD i.val = decide (2 ≤ i.val) := by decide
  have h2 := h1 ⟨i, hi⟩
  simp only at h2
  rw [BitVec.getLsbD_and, h2, BitVec.getLsbD_shiftLeft, BitVec.getLsbD_ushiftRight]
  by_cases e : 2 ≤ i
  ·have e2 : ¬ i < 2 := by omega
   rw [show 2 + (i - 2) = i from by omega]
   simp [e, e2, hi]
  ·have e2 : i < 2 := by omega
   simp [e, e2]
 rw [h]
 apply BitVec.eq_of_toNat_eq
 have := x.isLt
 rw [BitVec.toNat_mul, BitVec.toNat_udiv, BitVec.toNat_shiftLeft, BitVec.toNat_ushiftRight, Nat.shiftLeft_eq, Nat.shiftRight_eq_div_pow]; rfl
theorem loads_keep' (m : MemM) (a : BitVec 32) : (m.loads a).2.code = m.code ∧ (m.loads a).2.tape = m.tape ∧ (m.loads a).2.words = m.words := by
 unfold MemM.loads MemM.load; dsimp only; repeat' split
 all_goals simp
theorem store_keep' (m : MemM) (a x : BitVec 32) : (m.store a x).2.code = m.code ∧ (m.store a x).2.tape = m.tape ∧ (m.store a x).2.words.length = m.words.length := by
 unfold MemM.store; split <;> simp
theorem z_yu (k : Nat) (hk : k ≤ 15) (s : StM) (d : Nat) (hd : d < 8) (a b : BitVec 32) : z_ar.spec [.agg s.cells, .int .i64 k, .int .i64 d, W32 a, W32 b] = some (.agg (inS (aluM s k a b) (aluD k d)).cells) := by
 match k, hk with
 | 0, _ => exact ralu0 s d hd a b
 | 1, _ => exact ralu1 s d hd a b
 | 2, _ => exact ralu2 s d hd a b
 | 3, _ => exact ralu3 s d hd a b
 | 4, _ => exact ralu4 s d hd a b
 | 5, _ => exact ralu5 s d hd a b
 | 6, _ => exact ralu6 s d hd a b
 | 7, _ => exact ralu7 s d hd a b
 | 8, _ => exact ralu8 s d hd a b
 | 9, _ => exact ralu9 s d hd a b
 | 10, _ => exact ralu10 s d hd a b
 | 11, _ => exact ralu11 s d hd a b
 | 12, _ => exact ralu12 s d hd a b
 | 13, _ => exact ralu13 s d hd a b
 | 14, _ => exact ralu14 s d hd a b
 | 15, _ => exact ralu15 s d hd a b
structure RCtx (B : Hp) (b cb wb tb : Nat) (m : MemM) : Prop where
 wf : B.WF
 fix : RFix B b cb wb tb m
 ok : m.Ok
theorem rL {B B' : Hp} {b cb wb tb : Nat} {m : MemM} (h : RCtx B b cb wb tb m) (h1 : B'.WF) (h2 : B.next ≤ B'.next) (h3 : ∀ c, c < B.next → B'.get c = B.get c) (a : BitVec 32) : z_au.spec [.ptr b 5 0 0, W32 a] (B'.rmem b cb wb tb m) = some (.tup [W32 (m.loads a).1.1, .int .i64 (m.loads a).1.2], B'.rmem b cb wb tb (m.loads a).2) :=
 z_v1 B' b cb wb tb m h1 (h.fix.more h.wf h2 h3 rfl rfl) a h.ok
theorem rS {B B' : Hp} {b cb wb tb : Nat} {m : MemM} (h : RCtx B b cb wb tb m) (h1 : B'.WF) (h2 : B.next ≤ B'.next) (h3 : ∀ c, c < B.next → B'.get c = B.get c) (a x : BitVec 32) : z_a6.spec [.ptr b 5 0 0, W32 a, W32 x] (B'.rmem b cb wb tb m) = some (.int .i64 (m.store a x).1, B'.rmem b cb wb tb (m.store a x).2) :=
 z_s7 B' b cb wb tb m h1 (h.fix.more h.wf h2 h3 rfl rfl) a x h.ok
theorem rF {B B' : Hp} {b cb wb tb : Nat} {m : MemM} (h : RCtx B b cb wb tb m) (h1 : B'.WF) (h2 : B.next ≤ B'.next) (h3 : ∀ c, c < B.next → B'.get c = B.get c) (a : BitVec 32) : z_ay.spec [.ptr b 5 0 0, W32 a] (B'.rmem b cb wb tb m) = some (.tup [W16 (m.fetch a).1, .int .i64 (m.fetch a).2], B'.rmem b cb wb tb m) :=
 z_ta B' b cb wb tb m h1 (h.fix.more h.wf h2 h3 rfl rfl) a h.ok
theorem z_so (k : Nat) (hk : k = 0 ∨ k = 1 ∨ k = 2 ∨ k = 3 ∨ k = 4 ∨ k = 5 ∨ k = 6 ∨ k = 7 ∨ k = 8 ∨ k = 9 ∨ k = 10) (B : Hp) (b cb wb tb : Nat) (m : MemM) (hx : RCtx B b cb wb tb m) (s : StM) (D N M : Nat) (hD : D < 8) (hN : N < 8) (hM : M < 8) (imm : Int) (hc : (InsM.mk (k : Nat) D N M imm).can = true) (h : BitVec 16) (hf : m.fetch s.pc = (h, 0)) (ht : takeN h.toNat = (⟨(k : Nat), D, N, M, imm⟩, 0)) :
  z_av.spec [.agg s.cells, .ptr b 5 0 0] (B.rmem b cb wb tb m) = some (DidAV (doM ⟨(k : Nat), D, N, M, imm⟩ s m), B.rmem b cb wb tb (doM ⟨(k : Nat), D, N, M, imm⟩ s m).m) := by
 have hT := z_et h
 have hw := hx.wf; have hb := hx.fix.hb; have hwb := hx.fix.hwb
 have hF := fun B' h1 h2 h3 => rF (B' := B') hx h1 h2 h3 s.pc
 have hD8 : D % 8 < 8 := Nat.mod_lt _ (by omega)
 have hd8i : D < 8 → ((D : Int) % 8).toNat = D := fun _ => by omega
 rw [hf] at hF
 rw [ht] at hT
 clear ht
 simp only [InsAV] at hT
 unfold DidAV
 have h1 := fun w => z_cn s w (some D) hD
 have h3 := fun a b c => z_co s a b c (some D) hD
 have h4 := fun a b c => z_co s a b c none trivial
 have h50 := fun a b => z_ao s 0 (by omega) a b (some D) hD
 have h51 := fun a b => z_ao s 1 (by omega) a b (some D) hD
 have h52 := fun a b => z_ao s 2 (by omega) a b (some D) hD
 simp only [dAV] at h1 h3 h4 h50 h51 h52
 push_cast at h50 h51 h52
 have hd8 : D % 8 = D := Nat.mod_eq_of_lt hD
 obtain rfl | rfl | rfl | rfl | rfl | rfl | rfl | rfl | rfl | rfl | rfl := hk
 all_goals
  push_cast at hT hc ⊢
  simp only [doM, Int.toNat_natCast, Int.reduceToNat, z_ed, hc, if_true]
  simp -implicitDefEqProofs +contextual (disch := try first | omega | assumption | (simp only [Hp.next_set, Hp.next_push]; omega) | ((repeat' (first | assumption | with_reducible apply Hp.WF.push | with_reducible apply Hp.WF.set)) <;> first | omega | (simp only [Hp.next_set, Hp.next_push]; omega)) | (intro c hc; simp (disch := omega); done)) [z_av.spec, z_av, hT, hF, z_cr, z_dg, z_c2, z_d1, hD8, hd8i, h1, h3, h4, h50, h51, h52, hd8, z_ee, reckM, immW, inS, putS]
  refine z_d2 hw hx.fix rfl ?_ ?_ ?_ ?_ ?_
  ·simp; omega
  ·intro c hc
   simp (disch := omega)
  ·rfl
  ·rfl
  ·simp [mkRes]
theorem z_sp (k : Nat) (hk : k = 11) (B : Hp) (b cb wb tb : Nat) (m : MemM) (hx : RCtx B b cb wb tb m) (s : StM) (D N M : Nat) (hD : D < 8) (hN : N < 8) (hM : M < 8) (imm : Int) (hi : 0 ≤ imm ∧ imm ≤ 15) (hc : (InsM.mk (k : Nat) D N M imm).can = true) (h : BitVec 16) (hf : m.fetch s.pc = (h, 0)) (ht : takeN h.toNat = (⟨(k : Nat), D, N, M, imm⟩, 0)) :
  z_av.spec [.agg s.cells, .ptr b 5 0 0] (B.rmem b cb wb tb m) = some (DidAV (doM ⟨(k : Nat), D, N, M, imm⟩ s m), B.rmem b cb wb tb (doM ⟨(k : Nat), D, N, M, imm⟩ s m).m) := by
 have hT := z_et h
 have hw := hx.wf; have hb := hx.fix.hb; have hwb := hx.fix.hwb
 have hF := fun B' h1 h2 h3 => rF (B' := B') hx h1 h2 h3 s.pc
 have hD8 : D % 8 < 8 := Nat.mod_lt _ (by omega)
 have hd8i : D < 8 → ((D : Int) % 8).toNat = D := fun _ => by omega
 rw [hf] at hF
 rw [ht] at hT
 clear ht
 simp only [InsAV] at hT
 unfold DidAV
 have hd8 : D % 8 = D := Nat.mod_eq_of_lt hD
 subst hk
 push_cast at hT hc ⊢
 simp only [doM, Int.toNat_natCast, Int.reduceToNat, z_ed, hc, if_true]
 obtain ⟨q, rfl⟩ : ∃ q : Nat, imm = q := ⟨imm.toNat, by omega⟩
 have hA := z_yu q (by omega) s D hD (s.reg D) (s.reg M)
 by_cases hq : q = 8 ∨ q = 10 ∨ q = 11
 ·have hq' : (q : Int) = 8 ∨ (q : Int) = 10 ∨ (q : Int) = 11 := by omega
  simp only [aluD, hq, if_true, inS] at hA
  simp -implicitDefEqProofs +contextual (disch := try first | omega | assumption | (simp only [Hp.next_set, Hp.next_push]; omega) | ((repeat' (first | assumption | with_reducible apply Hp.WF.push | with_reducible apply Hp.WF.set)) <;> first | omega | (simp only [Hp.next_set, Hp.next_push]; omega)) | (intro c hc; simp (disch := omega); done)) [z_av.spec, z_av, hT, hF, z_cr, z_dg, z_c2, z_d1, hD8, hd8i, hA, hd8, hq', reckM]
  refine z_d2 hw hx.fix rfl ?_ ?_ ?_ ?_ ?_
  ·simp; omega
  ·intro c hc
   simp (disch := omega)
  ·rfl
  ·rfl
  ·simp [mkRes]
 ·have hq' : ¬ ((q : Int) = 8 ∨ (q : Int) = 10 ∨ (q : Int) = 11) := by omega
  simp only [aluD, hq, if_false, inS] at hA
  simp -implicitDefEqProofs +contextual (disch := try first | omega | assumption | (simp only [Hp.next_set, Hp.next_push]; omega) | ((repeat' (first | assumption | with_reducible apply Hp.WF.push | with_reducible apply Hp.WF.set)) <;> first | omega | (simp only [Hp.next_set, Hp.next_push]; omega)) | (intro c hc; simp (disch := omega); done)) [z_av.spec, z_av, hT, hF, z_cr, z_dg, z_c2, z_d1, hD8, hd8i, hA, hd8, hq', reckM]
  refine z_d2 hw hx.fix rfl ?_ ?_ ?_ ?_ ?_
  ·simp; omega
  ·intro c hc
   simp (disch := omega)
  ·rfl
  ·rfl
  ·simp [mkRes]
theorem z_o0 (k : Nat) (hk : k = 13 ∨ k = 15) (B : Hp) (b cb wb tb : Nat) (m : MemM) (hx : RCtx B b cb wb tb m) (s : StM) (D N M : Nat) (hD : D < 8) (hN : N < 8) (hM : M < 8) (imm : Int) (hc : (InsM.mk (k : Nat) D N M imm).can = true) (h : BitVec 16) (hf : m.fetch s.pc = (h, 0)) (ht : takeN h.toNat = (⟨(k : Nat), D, N, M, imm⟩, 0)) :
  z_av.spec [.agg s.cells, .ptr b 5 0 0] (B.rmem b cb wb tb m) = some (DidAV (doM ⟨(k : Nat), D, N, M, imm⟩ s m), B.rmem b cb wb tb (doM ⟨(k : Nat), D, N, M, imm⟩ s m).m) := by
 have hT := z_et h
 have hw := hx.wf; have hb := hx.fix.hb; have hwb := hx.fix.hwb
 have hF := fun B' h1 h2 h3 => rF (B' := B') hx h1 h2 h3 s.pc
 have hD8 : D % 8 < 8 := Nat.mod_lt _ (by omega)
 have hd8i : D < 8 → ((D : Int) % 8).toNat = D := fun _ => by omega
 rw [hf] at hF
 rw [ht] at hT
 clear ht
 simp only [InsAV] at hT
 unfold DidAV
 have hM := fun B' h1 h2 h3 => rS (B' := B') hx h1 h2 h3 (addrM s k N M imm) (s.reg D)
 have kp := store_keep' m (addrM s k N M imm) (s.reg D)
 have hd8 : D % 8 = D := Nat.mod_eq_of_lt hD
 obtain rfl | rfl := hk
 all_goals
  push_cast at hT hc ⊢
  simp only [doM, Int.toNat_natCast, Int.reduceToNat, moveM, Nat.reduceEqDiff, or_true, true_or, or_self, if_true]
  simp only [addrM, immW] at hM kp ⊢
  generalize hr : m.store _ (s.reg D) = r at *
  by_cases he : r.1 = 0
  ·rw [if_pos he]
   simp -implicitDefEqProofs +contextual (disch := try first | omega | assumption | (simp only [Hp.next_set, Hp.next_push]; omega) | ((repeat' (first | assumption | with_reducible apply Hp.WF.push | with_reducible apply Hp.WF.set)) <;> first | omega | (simp only [Hp.next_set, Hp.next_push]; omega)) | (intro c hc; simp (disch := omega); done)) [z_av.spec, z_av, hT, hF, z_cr, z_dg, z_c2, z_d1, hD8, hd8i, hM, he, hd8]
   refine z_d2 hw hx.fix rfl ?_ ?_ ?_ ?_ ?_
   ·simp; omega
   ·intro c hc
    simp (disch := omega)
   ·rw [kp.2.2]
   ·rw [kp.1]
   ·simp [mkRes]
  ·rw [if_neg he]
   simp -implicitDefEqProofs +contextual (disch := try first | omega | assumption | (simp only [Hp.next_set, Hp.next_push]; omega) | ((repeat' (first | assumption | with_reducible apply Hp.WF.push | with_reducible apply Hp.WF.set)) <;> first | omega | (simp only [Hp.next_set, Hp.next_push]; omega)) | (intro c hc; simp (disch := omega); done)) [z_av.spec, z_av, hT, hF, z_cr, z_dg, z_c2, z_d1, hD8, hd8i, hM, he, hd8]
   refine z_d2 hw hx.fix rfl ?_ ?_ ?_ ?_ ?_
   ·simp; omega
   ·intro c hc
    simp (disch := omega)
   ·rw [kp.2.2]
   ·rw [kp.1]
   ·simp [mkRes]
theorem z_q0 (k : Nat) (hk : k = 12 ∨ k = 14 ∨ k = 16) (B : Hp) (b cb wb tb : Nat) (m : MemM) (hx : RCtx B b cb wb tb m) (s : StM) (D N M : Nat) (hD : D < 8) (hN : N < 8) (hM : M < 8) (imm : Int) (hc : (InsM.mk (k : Nat) D N M imm).can = true) (h : BitVec 16) (hf : m.fetch s.pc = (h, 0)) (ht : takeN h.toNat = (⟨(k : Nat), D, N, M, imm⟩, 0)) :
  z_av.spec [.agg s.cells, .ptr b 5 0 0] (B.rmem b cb wb tb m) = some (DidAV (doM ⟨(k : Nat), D, N, M, imm⟩ s m), B.rmem b cb wb tb (doM ⟨(k : Nat), D, N, M, imm⟩ s m).m) := by
 have hT := z_et h
 have hw := hx.wf; have hb := hx.fix.hb; have hwb := hx.fix.hwb
 have hF := fun B' h1 h2 h3 => rF (B' := B') hx h1 h2 h3 s.pc
 have hD8 : D % 8 < 8 := Nat.mod_lt _ (by omega)
 have hd8i : D < 8 → ((D : Int) % 8).toNat = D := fun _ => by omega
 rw [hf] at hF
 rw [ht] at hT
 clear ht
 simp only [InsAV] at hT
 unfold DidAV
 have hM := fun B' h1 h2 h3 => rL (B' := B') hx h1 h2 h3 (addrM s k N M imm)
 have kp := loads_keep' m (addrM s k N M imm)
 obtain rfl | rfl | rfl := hk
 all_goals
  push_cast at hT hc ⊢
  simp only [doM, Int.toNat_natCast, Int.reduceToNat, moveM, Nat.reduceEqDiff, or_self, if_false]
  simp only [addrM, immW] at hM kp ⊢
  try rw [show ~~~3#32 = 4294967292#32 from by decide] at *
  generalize hr : m.loads _ = r at *
  by_cases he : r.1.2 = 0
  ·rw [if_pos he]
   simp -implicitDefEqProofs +contextual (disch := try first | omega | assumption | (simp only [Hp.next_set, Hp.next_push]; omega) | ((repeat' (first | assumption | with_reducible apply Hp.WF.push | with_reducible apply Hp.WF.set)) <;> first | omega | (simp only [Hp.next_set, Hp.next_push]; omega)) | (intro c hc; simp (disch := omega); done)) [z_av.spec, z_av, hT, hF, z_cr, z_dg, z_c2, z_d1, hD8, hd8i, hM, he, down4]
   refine z_d2 hw hx.fix rfl ?_ ?_ ?_ ?_ ?_
   ·simp; omega
   ·intro c hc
    simp (disch := omega)
   ·rw [kp.2.2]
   ·rw [kp.1]
   ·simp [mkRes]
  ·rw [if_neg he]
   simp -implicitDefEqProofs +contextual (disch := try first | omega | assumption | (simp only [Hp.next_set, Hp.next_push]; omega) | ((repeat' (first | assumption | with_reducible apply Hp.WF.push | with_reducible apply Hp.WF.set)) <;> first | omega | (simp only [Hp.next_set, Hp.next_push]; omega)) | (intro c hc; simp (disch := omega); done)) [z_av.spec, z_av, hT, hF, z_cr, z_dg, z_c2, z_d1, hD8, hd8i, hM, he, down4]
   refine z_d2 hw hx.fix rfl ?_ ?_ ?_ ?_ ?_
   ·simp; omega
   ·intro c hc
    simp (disch := omega)
   ·rw [kp.2.2]
   ·rw [kp.1]
   ·simp [mkRes]
theorem z_q1 (k : Nat) (hk : k = 17 ∨ k = 19 ∨ k = 20) (B : Hp) (b cb wb tb : Nat) (m : MemM) (hx : RCtx B b cb wb tb m) (s : StM) (D N M : Nat) (hD : D < 8) (hN : N < 8) (hM : M < 8) (imm : Int) (hc : (InsM.mk (k : Nat) D N M imm).can = true) (h : BitVec 16) (hf : m.fetch s.pc = (h, 0)) (ht : takeN h.toNat = (⟨(k : Nat), D, N, M, imm⟩, 0)) :
  z_av.spec [.agg s.cells, .ptr b 5 0 0] (B.rmem b cb wb tb m) = some (DidAV (doM ⟨(k : Nat), D, N, M, imm⟩ s m), B.rmem b cb wb tb (doM ⟨(k : Nat), D, N, M, imm⟩ s m).m) := by
 have hT := z_et h
 have hw := hx.wf; have hb := hx.fix.hb; have hwb := hx.fix.hwb
 have hF := fun B' h1 h2 h3 => rF (B' := B') hx h1 h2 h3 s.pc
 have hD8 : D % 8 < 8 := Nat.mod_lt _ (by omega)
 have hd8i : D < 8 → ((D : Int) % 8).toNat = D := fun _ => by omega
 rw [hf] at hF
 rw [ht] at hT
 clear ht
 simp only [InsAV] at hT
 unfold DidAV
 obtain rfl | rfl | rfl := hk
 all_goals
  push_cast at hT hc ⊢
  simp only [doM, Int.toNat_natCast, Int.reduceToNat]
  simp -implicitDefEqProofs +contextual (disch := try first | omega | assumption | (simp only [Hp.next_set, Hp.next_push]; omega) | ((repeat' (first | assumption | with_reducible apply Hp.WF.push | with_reducible apply Hp.WF.set)) <;> first | omega | (simp only [Hp.next_set, Hp.next_push]; omega)) | (intro c hc; simp (disch := omega); done)) [z_av.spec, z_av, hT, hF, z_cr, z_dg, z_c2, z_d1, hD8, hd8i, immW, z_oq]
  refine z_d2 hw hx.fix rfl ?_ ?_ ?_ ?_ ?_
  ·simp; omega
  ·intro c hc
   simp (disch := omega)
  ·rfl
  ·rfl
  ·simp [mkRes]
theorem z_vv (k : Nat) (hk : k = 18) (B : Hp) (b cb wb tb : Nat) (m : MemM) (hx : RCtx B b cb wb tb m) (s : StM) (D N M : Nat) (hD : D < 14) (hN : N < 8) (hM : M < 8) (imm : Int) (hc : (InsM.mk (k : Nat) D N M imm).can = true) (h : BitVec 16) (hf : m.fetch s.pc = (h, 0)) (ht : takeN h.toNat = (⟨(k : Nat), D, N, M, imm⟩, 0)) :
  z_av.spec [.agg s.cells, .ptr b 5 0 0] (B.rmem b cb wb tb m) = some (DidAV (doM ⟨(k : Nat), D, N, M, imm⟩ s m), B.rmem b cb wb tb (doM ⟨(k : Nat), D, N, M, imm⟩ s m).m) := by
 have hT := z_et h
 have hw := hx.wf; have hb := hx.fix.hb; have hwb := hx.fix.hwb
 have hF := fun B' h1 h2 h3 => rF (B' := B') hx h1 h2 h3 s.pc
 have hD8 : D % 8 < 8 := Nat.mod_lt _ (by omega)
 have hd8i : D < 8 → ((D : Int) % 8).toNat = D := fun _ => by omega
 rw [hf] at hF
 rw [ht] at hT
 clear ht
 simp only [InsAV] at hT
 unfold DidAV
 have hH := z_s1 D (by omega) s
 subst hk
 push_cast at hT hc ⊢
 simp only [doM, Int.toNat_natCast, Int.reduceToNat]
 by_cases he : z_e2 D s = true
 ·rw [if_pos he]
  simp -implicitDefEqProofs +contextual (disch := try first | omega | assumption | (simp only [Hp.next_set, Hp.next_push]; omega) | ((repeat' (first | assumption | with_reducible apply Hp.WF.push | with_reducible apply Hp.WF.set)) <;> first | omega | (simp only [Hp.next_set, Hp.next_push]; omega)) | (intro c hc; simp (disch := omega); done)) [z_av.spec, z_av, hT, hF, z_cr, z_dg, z_c2, z_d1, hD8, hd8i, immW, z_oq, hH, he]
  refine z_d2 hw hx.fix rfl ?_ ?_ ?_ ?_ ?_
  ·simp; omega
  ·intro c hc
   simp (disch := omega)
  ·rfl
  ·rfl
  ·simp [mkRes]
 ·rw [if_neg he]
  simp -implicitDefEqProofs +contextual (disch := try first | omega | assumption | (simp only [Hp.next_set, Hp.next_push]; omega) | ((repeat' (first | assumption | with_reducible apply Hp.WF.push | with_reducible apply Hp.WF.set)) <;> first | omega | (simp only [Hp.next_set, Hp.next_push]; omega)) | (intro c hc; simp (disch := omega); done)) [z_av.spec, z_av, hT, hF, z_cr, z_dg, z_c2, z_d1, hD8, hd8i, immW, z_oq, hH, he]
  refine z_d2 hw hx.fix rfl ?_ ?_ ?_ ?_ ?_
  ·simp; omega
  ·intro c hc
   simp (disch := omega)
  ·rfl
  ·rfl
  ·simp [mkRes]
end Go.Abs
end
end
section
section
namespace Go.Abs
open Th
theorem z_vz (B : Hp) (b cb wb tb : Nat) (m : MemM) (hx : RCtx B b cb wb tb m) (s : StM) (i : InsM) (hc : i.can = true) (h : BitVec 16) (hf : m.fetch s.pc = (h, 0)) (ht : takeN h.toNat = (i, 0)) :
  z_av.spec [.agg s.cells, .ptr b 5 0 0] (B.rmem b cb wb tb m) = some (DidAV (doM i s m), B.rmem b cb wb tb (doM i s m).m) := by
 obtain ⟨k, D, N, M, he, h1, h2, h3, h4, h5, h6⟩ := z_kd i hc
 generalize i.imm = imm at he h6
 subst he
 by_cases e : k = 18
 ·exact z_vv k e B b cb wb tb m hx s D N M h3 h4 h5 imm hc h hf ht
 ·by_cases e1 : k ≤ 10
  ·exact z_so k (by omega) B b cb wb tb m hx s D N M (h2 e) h4 h5 imm hc h hf ht
  ·by_cases e2 : k = 11
   ·exact z_sp k e2 B b cb wb tb m hx s D N M (h2 e) h4 h5 imm (h6 e2) hc h hf ht
   ·by_cases e3 : k = 13 ∨ k = 15
    ·exact z_o0 k e3 B b cb wb tb m hx s D N M (h2 e) h4 h5 imm hc h hf ht
    ·by_cases e4 : k ≤ 16
     ·exact z_q0 k (by omega) B b cb wb tb m hx s D N M (h2 e) h4 h5 imm hc h hf ht
     ·exact z_q1 k (by omega) B b cb wb tb m hx s D N M (h2 e) h4 h5 imm hc h hf ht
theorem z_vy (B : Hp) (b cb wb tb : Nat) (m : MemM) (hx : RCtx B b cb wb tb m) (s : StM) :
  z_av.spec [.agg s.cells, .ptr b 5 0 0] (B.rmem b cb wb tb m) = some (DidAV (stepM s m), B.rmem b cb wb tb (stepM s m).m) := by
 have hw := hx.wf; have hb := hx.fix.hb; have hwb := hx.fix.hwb
 have hF := fun B' h1 h2 h3 => rF (B' := B') hx h1 h2 h3 s.pc
 rcases z_qi m s.pc with hf | hf
 ·have hT := z_et (m.fetch s.pc).1
  rcases z_jk (m.fetch s.pc).1.toNat with ⟨i, hc, hp, ht⟩ | ht
  ·unfold stepM
   rw [ht, if_pos (by rw [hf]), if_pos rfl]
   exact z_vz B b cb wb tb m hx s i hc _ hf ht
  ·unfold stepM DidAV
   rw [if_pos (by rw [hf]), ht, if_neg (by simp)]
   rw [ht] at hT
   have hf2 : (m.fetch s.pc).2 = 0 := by rw [hf]
   simp only [InsAV, InsM.zero] at hT
   simp -implicitDefEqProofs +contextual (disch := try first | omega | assumption | (simp only [Hp.next_set, Hp.next_push]; omega) | ((repeat' (first | assumption | with_reducible apply Hp.WF.push | with_reducible apply Hp.WF.set)) <;> first | omega | (simp only [Hp.next_set, Hp.next_push]; omega)) | (intro c hc; simp (disch := omega); done)) [z_av.spec, z_av, hT, hF, hf2, z_cr, z_dg, z_c2, z_d1]
   refine z_d2 hw hx.fix rfl ?_ ?_ ?_ ?_ ?_
   ·simp; omega
   ·intro c hc
    simp (disch := omega)
   ·rfl
   ·rfl
   ·simp [mkRes]
 ·unfold stepM DidAV
  rw [hf, if_neg (by simp)]
  rw [hf] at hF
  simp -implicitDefEqProofs +contextual (disch := try first | omega | assumption | (simp only [Hp.next_set, Hp.next_push]; omega) | ((repeat' (first | assumption | with_reducible apply Hp.WF.push | with_reducible apply Hp.WF.set)) <;> first | omega | (simp only [Hp.next_set, Hp.next_push]; omega)) | (intro c hc; simp (disch := omega); done)) [z_av.spec, z_av, hF, z_cr, z_dg, z_c2, z_d1]
  refine z_d2 hw hx.fix rfl ?_ ?_ ?_ ?_ ?_
  ·simp; omega
  ·intro c hc
   simp (disch := omega)
  ·rfl
  ·rfl
  ·simp [mkRes]
end Go.Abs
end
section
namespace Go.Abs
open Th
theorem TwoOk.more {B B' : Hp} {I : Ids} {r : MemM} (h : TwoOk B I r) (hw : B'.WF) (hn : B.next ≤ B'.next) (hg : ∀ c, c < B.next → B'.get c = B.get c) : TwoOk B' I r :=
 { h with wf := hw, hb := Nat.lt_of_lt_of_le h.hb hn, hwb := Nat.lt_of_lt_of_le h.hwb hn, fix := h.fix.more h.wf hn hg rfl rfl }
end Go.Abs
end
end
section
namespace Go.Abs
open Th
def stBlk (s : StM) : Blk := ⟨T.ty_api_State, 13, true, [s.cells]⟩
structure Apart (I : Ids) (s : Nat) : Prop where
 b : s ≠ I.b
 wb : s ≠ I.wb
 rb : s ≠ I.rb
 rw : s ≠ I.rw
 cb : s ≠ I.cb
 tb : s ≠ I.tb
end Go.Abs
end
section
namespace Go.Abs
open Th
def lrows (l : List LeakM) : List (List AV) := l.map LeakM.cells
@[simp] theorem z_xk (l : List LeakM) : (lrows l).length = l.length := by simp [lrows]
@[simp] theorem lrows_nil : lrows [] = [] := rfl
def lAV (c : Nat) (l : List LeakM) : AV := if l = [] then .nils else .sl c 10 0 l.length
def outB (k : Nat) (d : Nat) (e : Int) (w : AV) (l : AV) (fl : Bool) : Blk := ⟨T.ty_api_Outcome, 5, fl, [[.int .i64 k, .int .i64 d, .int .i64 e, w, l]]⟩
def goL : Nat → StM → MemM → List LeakM × MemM × Int
 | 0, _, m => ([], m, 80)
 | n + 1, s, m => if (stepM s m).e ≠ 0 then ([], (stepM s m).m, (stepM s m).e) else if (stepM s m).stop = true then ([leakM s m], (stepM s m).m, 0) else
   (leakM s m :: (goL n (stepM s m).s (stepM s m).m).1, (goL n (stepM s m).s (stepM s m).m).2)
structure GI (B : Hp) (k : Nat) (e : Int) (ls : List LeakM) : Prop where
 wf : B.WF
 nx : 5 ≤ B.next
 fst : B.get 0 = some (outB 0 0 0 .nils .nils true)
 out : ∃ c fl, B.get 3 = some (outB k 0 e .nils (lAV c ls) fl) ∧ (ls ≠ [] → 5 ≤ c ∧ B.get c = some ⟨T.ty_api_Leak, 10, true, lrows ls⟩)
end Go.Abs
end
section
namespace Go.Abs
open Th
structure GF (fr : AFr) : Prop where
 h10 : fr 10 = .ptr 0 5 0 0
 h11 : fr 11 = .ptr 2 5 0 0
 h14 : fr 14 = .ptr 3 5 0 0
end Go.Abs
end
section
namespace Go.Abs
open Th
def MemM.put4 (m : MemM) (w : List (BitVec 32)) : Nat → MemM
 | 0 => m
 | k + 1 => { m.put4 w k with words := (m.put4 w k).words.set k (at0 w k) }
theorem z_tg (m : MemM) (w : List (BitVec 32)) (k : Nat) : (m.put4 w k).code = m.code ∧ (m.put4 w k).tape = m.tape ∧ (m.put4 w k).words.length = m.words.length ∧ (m.Ok → (m.put4 w k).Ok) := by
 induction k with
 | zero => exact ⟨rfl, rfl, rfl, id⟩
 | succ k ih =>
  obtain ⟨h1, h2, h3, h4⟩ := ih
  refine ⟨h1, h2, by simp [MemM.put4, h3], fun h => ?_⟩
  have q := h4 h
  exact ⟨q.code, by simp only [MemM.put4, List.length_set]; exact q.words, q.tape, q.drawn⟩
end Go.Abs
end
section
namespace Go.Abs
open Th
def z_dm (code : List (BitVec 16)) (words tape : List (BitVec 32)) : MemM := ⟨code.take 60000, words, tape, 0, 0#32⟩
def s00 : StM := ⟨[0#32, 0#32, 0#32, 0#32, 0#32, 0#32, 0#32, 0#32], rfl, 0#32, false, false, false, false⟩
theorem z_lc (m : MemM) (w : List (BitVec 32)) (h : m.words.length = w.length) : ∀ k, k ≤ w.length → (m.put4 w k).words = w.take k ++ m.words.drop k
 | 0, _ => by simp [MemM.put4]
 | k + 1, hk => by
  have ih := z_lc m w h k (by omega)
  simp only [MemM.put4, ih]
  rw [List.set_append_right _ _ (by simp; omega), List.length_take, Nat.min_eq_left (by omega), Nat.sub_self]
  rw [List.drop_eq_getElem_cons (show k < m.words.length by omega), List.set_cons_zero, z_mx w k (by omega)]
  simp
theorem z_tf (m : MemM) (w : List (BitVec 32)) (k : Nat) : (m.put4 w k).drawn = m.drawn ∧ (m.put4 w k).bus = m.bus ∧ (m.put4 w k).code = m.code ∧ (m.put4 w k).tape = m.tape := by
 induction k with
 | zero => exact ⟨rfl, rfl, rfl, rfl⟩
 | succ k ih => exact ih
theorem z_q7 (code : List (BitVec 16)) (words tape : List (BitVec 32)) (hw : words.length ≤ 16000) : (MemM.new code words.length tape).put4 words words.length = z_dm code words tape := by
 have hl : (MemM.new code words.length tape).words.length = words.length := by simp only [MemM.new, List.length_replicate]; omega
 have h1 := z_lc _ words hl words.length (Nat.le_refl _)
 obtain ⟨h2, h3, h4, h5⟩ := z_tf (MemM.new code words.length tape) words words.length
 rw [List.take_length, List.drop_eq_nil_of_le (by omega), List.append_nil] at h1
 generalize (MemM.new code words.length tape).put4 words words.length = q at *
 obtain ⟨a, b, c, d, e⟩ := q
 dsimp only at *
 subst h1 h2 h3 h4 h5
 rfl
theorem z_vl (code : List (BitVec 16)) (words tape : List (BitVec 32)) (hw : words.length ≤ 16000) (ht : tape.length ≤ 1000000000) : (z_dm code words tape).Ok := by
 refine ⟨?_, hw, ht, Nat.zero_le _⟩
 simp only [z_dm, List.length_take]; omega
def outAV (R : List LeakM × MemM × Int) (b : Bool) : AV := .agg [.int .i64 R.1.length, .int .i64 R.2.1.drawn, .int .i64 R.2.2, .rsl 1 (w32s R.2.1.words), .rsl 10 (lrows (if b = true then R.1 else []))]
theorem z_ns : ∀ (n : Nat) (s : StM) (m : MemM), Keeps m (goL n s m).2.1
 | 0, s, m => .rfl' m
 | n + 1, s, m => by
  have h := z_fe s m
  unfold goL; split
  ·exact h
  ·split
   ·exact h
   ·have h2 := z_ns n (stepM s m).s (stepM s m).m
    exact ⟨h2.code.trans h.code, h2.tape.trans h.tape, h2.words.trans h.words, fun q => h2.ok (h.ok q)⟩
end Go.Abs
end
section
namespace Go.Abs
open Th
theorem z_k9 (i : InsM) : z_bj.spec [InsAV i] = some (.tup [.int .i64 (z_ed i).1, .bool (z_ed i).2]) := by
 have hc := z_o8 i
 unfold z_ed
 by_cases h : i.can = true
 ·have h1 := ((z_gl i).1 h).1
  obtain ⟨op, d, n, m, imm⟩ := i
  rw [if_pos h]
  rw [h] at hc
  simp only [InsAV] at hc ⊢
  dsimp only at h1 ⊢
  obtain ⟨k, rfl⟩ : ∃ k : Nat, op = k := ⟨op.toNat, by omega⟩
  have hk : k = 0 ∨ k = 1 ∨ k = 2 ∨ k = 3 ∨ k = 4 ∨ k = 5 ∨ k = 6 ∨ k = 7 ∨ k = 8 ∨ k = 9 ∨ k = 10 ∨ k = 11 ∨ k = 12 ∨ k = 13 ∨ k = 14 ∨ k = 15 ∨ k = 16 ∨ k = 17 ∨ k = 18 ∨ k = 19 ∨ k = 20 := by omega
  rcases hk with rfl | rfl | rfl | rfl | rfl | rfl | rfl | rfl | rfl | rfl | rfl | rfl | rfl | rfl | rfl | rfl | rfl | rfl | rfl | rfl | rfl
  case inr.inr.inr.inr.inr.inr.inr.inr.inr.inr.inr.inl =>
   push_cast at hc ⊢
   by_cases a8 : imm = 8
   ·subst a8; simp -implicitDefEqProofs +contextual (disch := omega) [z_bj.spec, z_bj, hc]
   ·by_cases a10 : imm = 10
    ·subst a10; simp -implicitDefEqProofs +contextual (disch := omega) [z_bj.spec, z_bj, hc]
    ·by_cases a11 : imm = 11
     ·subst a11; simp -implicitDefEqProofs +contextual (disch := omega) [z_bj.spec, z_bj, hc]
     ·simp -implicitDefEqProofs +contextual (disch := omega) [z_bj.spec, z_bj, hc, a8, a10, a11]
  all_goals
   push_cast at hc ⊢
   simp -implicitDefEqProofs +contextual (disch := omega) [z_bj.spec, z_bj, hc]
 ·rw [if_neg h]
  simp only [InsAV] at hc ⊢
  simp -implicitDefEqProofs +contextual (disch := omega) [z_bj.spec, z_bj, hc, h]
end Go.Abs
end
section
namespace Go.Abs
open Th
structure LCtx (B : Hp) (b cb wb tb : Nat) (m : MemM) (s : StM) (r : Did) (h : BitVec 16) : Prop where
 bus : ∀ B' : Hp, (B'.rmem b cb wb tb m).get b = some (rBlk cb wb tb m)
 step : ∀ B' : Hp, B'.WF → B.next ≤ B'.next → (∀ c, c < B.next → B'.get c = B.get c) → z_av.spec [.agg s.cells, .ptr b 5 0 0] (B'.rmem b cb wb tb m) = some (DidAV r, B'.rmem b cb wb tb r.m)
 fetch : ∀ B' : Hp, B'.WF → B.next ≤ B'.next → (∀ c, c < B.next → B'.get c = B.get c) → z_ay.spec [.ptr b 5 0 0, W32 s.pc] (B'.rmem b cb wb tb r.m) = some (.tup [W16 h, .int .i64 0], B'.rmem b cb wb tb r.m)
theorem z_q4 (k : Nat) (hk : k = 0 ∨ k = 1 ∨ k = 2 ∨ k = 3 ∨ k = 4 ∨ k = 5 ∨ k = 6 ∨ k = 7 ∨ k = 8 ∨ k = 9 ∨ k = 10 ∨ k = 12 ∨ k = 13 ∨ k = 14 ∨ k = 15 ∨ k = 16 ∨ k = 17 ∨ k = 18 ∨ k = 19 ∨ k = 20) (B : Hp) (b cb wb tb : Nat) (m : MemM) (hx : RCtx B b cb wb tb m) (s : StM) (D N M : Nat) (hD : k ≠ 18 → D < 8) (hN : N < 8) (hM : M < 8) (imm : Int) (hc : (InsM.mk (k : Nat) D N M imm).can = true) (h : BitVec 16) (ht : takeN h.toNat = (⟨(k : Nat), D, N, M, imm⟩, 0)) (r : Did) (he : r.e = 0) (hcd : r.m.code = m.code) (hwl : r.m.words.length = m.words.length) (hl : LCtx B b cb wb tb m s r h) :
  z_by.spec [.agg s.cells, .ptr b 5 0 0] (B.rmem b cb wb tb m) = some (.tup [.agg r.s.cells, .agg (leakI ⟨(k : Nat), D, N, M, imm⟩ h s r.s m.bus).cells, .bool r.stop, .int .i64 0], B.rmem b cb wb tb r.m) := by
 have hT := z_et h
 have hw := hx.wf; have hb := hx.fix.hb; have hwb := hx.fix.hwb
 rw [ht] at hT
 clear ht
 have hW := z_k9 ⟨(k : Nat), D, N, M, imm⟩
 simp only [InsAV] at hT hW
 have hS := hl.step
 have hF := hl.fetch
 have hB := hl.bus
 unfold DidAV at hS
 simp only [rBlk] at hB
 obtain ⟨rs, rm, rstop, re⟩ := r
 dsimp only at *
 subst he
 unfold LeakM.cells leakI opsM z_ep z_mb z_l6
 obtain rfl | rfl | rfl | rfl | rfl | rfl | rfl | rfl | rfl | rfl | rfl | rfl | rfl | rfl | rfl | rfl | rfl | rfl | rfl | rfl := hk
 all_goals
  try replace hD := hD (by decide)
  push_cast at hT hW hc ⊢
  simp only [z_ed, hc, if_true] at hW ⊢
  try simp only [Int.toNat_natCast, Int.reduceToNat]
  simp -implicitDefEqProofs +contextual (disch := try first | omega | assumption | (simp only [Hp.next_set, Hp.next_push]; omega) | ((repeat' (first | assumption | with_reducible apply Hp.WF.push | with_reducible apply Hp.WF.set)) <;> first | omega | (simp only [Hp.next_set, Hp.next_push]; omega)) | (intro c hc; simp (disch := omega); done)) [z_by.spec, z_by, hT, hS, hF, hW, hB, z_cr, z_dg, z_c2, z_d1, immW, down4]
  refine z_d2 hw hx.fix rfl ?_ ?_ ?_ ?_ ?_
  ·simp; omega
  ·intro c hc
   simp (disch := omega)
  ·exact hwl
  ·rw [hcd]
  ·simp [mkRes]
theorem z_s0 (k : Nat) (hk : k = 11) (B : Hp) (b cb wb tb : Nat) (m : MemM) (hx : RCtx B b cb wb tb m) (s : StM) (D N M : Nat) (hD : k ≠ 18 → D < 8) (hN : N < 8) (hM : M < 8) (imm : Int) (hc : (InsM.mk (k : Nat) D N M imm).can = true) (h : BitVec 16) (ht : takeN h.toNat = (⟨(k : Nat), D, N, M, imm⟩, 0)) (r : Did) (he : r.e = 0) (hcd : r.m.code = m.code) (hwl : r.m.words.length = m.words.length) (hl : LCtx B b cb wb tb m s r h) :
  z_by.spec [.agg s.cells, .ptr b 5 0 0] (B.rmem b cb wb tb m) = some (.tup [.agg r.s.cells, .agg (leakI ⟨(k : Nat), D, N, M, imm⟩ h s r.s m.bus).cells, .bool r.stop, .int .i64 0], B.rmem b cb wb tb r.m) := by
 have hT := z_et h
 have hw := hx.wf; have hb := hx.fix.hb; have hwb := hx.fix.hwb
 rw [ht] at hT
 clear ht
 have hW := z_k9 ⟨(k : Nat), D, N, M, imm⟩
 simp only [InsAV] at hT hW
 have hS := hl.step
 have hF := hl.fetch
 have hB := hl.bus
 unfold DidAV at hS
 simp only [rBlk] at hB
 obtain ⟨rs, rm, rstop, re⟩ := r
 dsimp only at *
 subst he
 unfold LeakM.cells leakI opsM z_ep z_mb z_l6
 subst hk
 replace hD := hD (by decide)
 push_cast at hT hW hc ⊢
 simp only [z_ed, hc, if_true] at hW ⊢
 simp only [Int.toNat_natCast, Int.reduceToNat]
 have hi : (imm = 8 ∨ imm = 10 ∨ imm = 11) ∨ (¬ imm = 8 ∧ ¬ imm = 10 ∧ ¬ imm = 11) := by omega
 rcases hi with hi | ⟨ha8, ha10, ha11⟩
 ·rcases hi with rfl | rfl | rfl
  all_goals
   simp -implicitDefEqProofs +contextual (disch := try first | omega | assumption | (simp only [Hp.next_set, Hp.next_push]; omega) | ((repeat' (first | assumption | with_reducible apply Hp.WF.push | with_reducible apply Hp.WF.set)) <;> first | omega | (simp only [Hp.next_set, Hp.next_push]; omega)) | (intro c hc; simp (disch := omega); done)) [z_by.spec, z_by, hT, hS, hF, hW, hB, z_cr, z_dg, z_c2, z_d1, immW, down4]
   refine z_d2 hw hx.fix rfl ?_ ?_ ?_ ?_ ?_
   ·simp; omega
   ·intro c hc
    simp (disch := omega)
   ·exact hwl
   ·rw [hcd]
   ·simp [mkRes]
 ·simp only [ha8, ha10, ha11, or_self, and_false, if_false] at hW
  simp -implicitDefEqProofs +contextual (disch := try first | omega | assumption | (simp only [Hp.next_set, Hp.next_push]; omega) | ((repeat' (first | assumption | with_reducible apply Hp.WF.push | with_reducible apply Hp.WF.set)) <;> first | omega | (simp only [Hp.next_set, Hp.next_push]; omega)) | (intro c hc; simp (disch := omega); done)) [z_by.spec, z_by, hT, hS, hF, hW, hB, z_cr, z_dg, z_c2, z_d1, immW, down4, ha8, ha10, ha11]
  refine z_d2 hw hx.fix rfl ?_ ?_ ?_ ?_ ?_
  ·simp; omega
  ·intro c hc
   simp (disch := omega)
  ·exact hwl
  ·rw [hcd]
  ·simp [mkRes]
end Go.Abs
end
section
namespace Go.Abs
open Th
theorem z_s9 (B : Hp) (b cb wb tb : Nat) (m : MemM) (hx : RCtx B b cb wb tb m) (s : StM) :
  z_by.spec [.agg s.cells, .ptr b 5 0 0] (B.rmem b cb wb tb m) = some (z_oo s m, B.rmem b cb wb tb (stepM s m).m) := by
 have hK := z_fe s m
 have hd := z_m0 s m
 have hbus : ∀ B' : Hp, (B'.rmem b cb wb tb m).get b = some (rBlk cb wb tb m) := fun B' => by rw [z_bx, if_pos rfl]
 have hst : ∀ B' : Hp, B'.WF → B.next ≤ B'.next → (∀ c, c < B.next → B'.get c = B.get c) → z_av.spec [.agg s.cells, .ptr b 5 0 0] (B'.rmem b cb wb tb m) = some (DidAV (stepM s m), B'.rmem b cb wb tb (stepM s m).m) :=
  fun B' h1 h2 h3 => z_vy B' b cb wb tb m ⟨h1, hx.fix.more hx.wf h2 h3 rfl rfl, hx.ok⟩ s
 have hx' : RCtx B b cb wb tb (stepM s m).m := ⟨hx.wf, hx.fix.of hK.code hK.tape, hK.ok hx.ok⟩
 have hft : ∀ B' : Hp, B'.WF → B.next ≤ B'.next → (∀ c, c < B.next → B'.get c = B.get c) → z_ay.spec [.ptr b 5 0 0, W32 s.pc] (B'.rmem b cb wb tb (stepM s m).m) = some (.tup [W16 (m.fetch s.pc).1, .int .i64 (m.fetch s.pc).2], B'.rmem b cb wb tb (stepM s m).m) :=
  fun B' h1 h2 h3 => by rw [← z_pi hK]; exact rF hx' h1 h2 h3 s.pc
 by_cases he : (stepM s m).e = 0
 ·obtain ⟨i, hc, ht, hf⟩ := hd he
  obtain ⟨k, D, N, M, hi, h1, h2, h3, h4, h5, h6⟩ := z_kd i hc
  generalize i.imm = imm at hi h6
  subst hi
  have hl : LCtx B b cb wb tb m s (stepM s m) (m.fetch s.pc).1 := ⟨hbus, hst, fun B' h1 h2 h3 => by have := hft B' h1 h2 h3; rw [hf] at this; exact this⟩
  have hg : z_oo s m = .tup [.agg (stepM s m).s.cells, .agg (leakI ⟨(k : Nat), D, N, M, imm⟩ (m.fetch s.pc).1 s (stepM s m).s m.bus).cells, .bool (stepM s m).stop, .int .i64 0] := by
   unfold z_oo leakM; rw [if_pos he, ht, he]
  rw [hg]
  by_cases e : k = 11
  ·exact z_s0 k e B b cb wb tb m hx s D N M h2 h4 h5 imm hc _ ht (stepM s m) he hK.code hK.words hl
  ·exact z_q4 k (by omega) B b cb wb tb m hx s D N M h2 h4 h5 imm hc _ ht (stepM s m) he hK.code hK.words hl
 ·unfold z_oo leakM
  rw [if_neg he]
  have hw := hx.wf; have hb := hx.fix.hb; have hwb := hx.fix.hwb
  have hcd := hK.code; have hwl := hK.words
  unfold DidAV at hst
  generalize stepM s m = r at *
  obtain ⟨rs, rm, rstop, re⟩ := r
  dsimp only at *
  simp only [rBlk] at hbus
  unfold LeakM.zero LeakM.cells
  simp -implicitDefEqProofs +contextual (disch := try first | omega | assumption | (simp only [Hp.next_set, Hp.next_push]; omega) | ((repeat' (first | assumption | with_reducible apply Hp.WF.push | with_reducible apply Hp.WF.set)) <;> first | omega | (simp only [Hp.next_set, Hp.next_push]; omega)) | (intro c hc; simp (disch := omega); done)) [z_by.spec, z_by, hst, hbus, he, z_cr, z_dg, z_c2, z_d1]
  refine z_d2 hw hx.fix rfl ?_ ?_ ?_ ?_ ?_
  ·simp; omega
  ·intro c hc
   simp (disch := omega)
  ·exact hwl
  ·rw [hcd]
  ·simp [mkRes]
end Go.Abs
end
section
namespace Go.Abs
open Th
theorem RFix.keep {H H' : Hp} {b cb wb tb : Nat} {m : MemM} (h : RFix H b cb wb tb m) (hn : H.next ≤ H'.next) (hc : H'.get cb = H.get cb) (ht : H'.get tb = H.get tb) : RFix H' b cb wb tb m :=
 ⟨fun q => by rw [hc]; exact h.code q, by rw [ht]; exact h.tape, Nat.lt_of_lt_of_le h.hb hn, Nat.lt_of_lt_of_le h.hwb hn, h.bw, h.bc, h.bt, h.wc, h.wt⟩
noncomputable abbrev exeL := z_bf.l1 z_b1.spec z_by.spec
abbrev exeF (lim : Nat) (b so oo : Nat) (on : Bool) (x : List (Nat × AV)) : AFr := AFr.al ((3, .int .i64 lim) :: (8, .ptr 0 5 0 0) :: (9, .ptr b 5 0 0) :: (10, .ptr so 13 0 0) :: (12, .ptr oo 5 0 0) :: (13, .bool on) :: x)
structure Far (b cb wb tb so oo : Nat) : Prop where
 s0 : so ≠ 0
 s1 : so ≠ b
 s2 : so ≠ cb
 s3 : so ≠ wb
 s4 : so ≠ tb
 s5 : so ≠ oo
 o0 : oo ≠ 0
 o1 : oo ≠ b
 o2 : oo ≠ cb
 o3 : oo ≠ wb
 o4 : oo ≠ tb
 z1 : b ≠ 0
 z2 : cb ≠ 0
 z3 : wb ≠ 0
 z4 : tb ≠ 0
structure RI (B : Hp) (b cb wb tb so oo : Nat) (m : MemM) (k : Nat) (e : Int) (ls : List LeakM) : Prop where
 wf : B.WF
 fix : RFix B b cb wb tb m
 lc : cb < B.next
 ns : so < B.next
 no : oo < B.next
 fst : B.get 0 = some (outB 0 0 0 .nils .nils true)
 out : ∃ c fl, B.get oo = some (outB k 0 e .nils (lAV c ls) fl) ∧ (ls ≠ [] → c ≠ 0 ∧ c ≠ b ∧ c ≠ cb ∧ c ≠ wb ∧ c ≠ tb ∧ c ≠ so ∧ c ≠ oo ∧ B.get c = some ⟨T.ty_api_Leak, 10, true, lrows ls⟩)
theorem z_wl (B : Hp) (b cb wb tb so oo : Nat) (F : Far b cb wb tb so oo) (s : StM) (m : MemM) (hm : m.Ok) (lim : Nat) (x : List (Nat × AV)) (hl : lim ≤ 1048576) (ls : List LeakM) (hk : ls.length < lim) (G : RI B b cb wb tb so oo m ls.length 80 ls) (hs : B.get so = some (stBlk s)) :
  ((stepM s m).e ≠ 0 ∧ ∃ B', exeL (exeF lim b so oo true x) (B.rmem b cb wb tb m) = some (.normal, exeF lim b so oo false [], B'.rmem b cb wb tb (stepM s m).m) ∧ RI B' b cb wb tb so oo (stepM s m).m ls.length (stepM s m).e ls) ∨
  ((stepM s m).e = 0 ∧ (stepM s m).stop = true ∧ ∃ B', exeL (exeF lim b so oo true x) (B.rmem b cb wb tb m) = some (.normal, exeF lim b so oo false [], B'.rmem b cb wb tb (stepM s m).m) ∧ RI B' b cb wb tb so oo (stepM s m).m (ls.length + 1) 0 (ls ++ [leakM s m])) ∨
  ((stepM s m).e = 0 ∧ (stepM s m).stop = false ∧ ∃ B', exeL (exeF lim b so oo true x) (B.rmem b cb wb tb m) = some (.normal, exeF lim b so oo true [(76, .bool false)], B'.rmem b cb wb tb (stepM s m).m) ∧ RI B' b cb wb tb so oo (stepM s m).m (ls.length + 1) 80 (ls ++ [leakM s m]) ∧ B'.get so = some (stBlk (stepM s m).s)) := by
 obtain ⟨wf, fix, lc, ns, no, fst, c, fl, out, hc⟩ := G
 obtain ⟨s0, s1, s2, s3, s4, s5, o0, o1, o2, o3, o4, z1, z2, z3, z4⟩ := F
 have hS := z_s9 B b cb wb tb m ⟨wf, fix, hm⟩ s
 have hb := fix.hb; have hwb := fix.hwb; have htb := wf _ _ fix.tape
 have hc5 : ls ≠ [] → c < B.next := fun h => wf _ _ (hc h).2.2.2.2.2.2.2
 have hK := z_fe s m
 have fix' := fix.of hK.code hK.tape
 clear fix hK
 unfold z_oo at hS
 generalize hlk : leakM s m = lk at *
 have hlc : lk.cells = [W32 lk.pc, W16 lk.code, W32 lk.a, W32 lk.b, W32 lk.r, W32 lk.old, W32 lk.bus, W32 lk.addr, .bool lk.memory, .bool lk.random] := rfl
 rw [hlc] at hS
 generalize stepM s m = r at *
 obtain ⟨rs, rm, rstop, re⟩ := r
 simp only [stBlk, outB] at hs out fst ⊢
 dsimp only at *
 have hk' : (ls.length : Int) < (lim : Int) := by omega
 have n0 : 0 < B.next := by omega
 by_cases hn : ls = []
 ·subst hn
  simp only [lAV, if_true, List.length_nil] at out ⊢
  by_cases he : re = 0
  ·subst he
   cases rstop with
   | true =>
    refine .inr (.inl ⟨rfl, rfl, ?_⟩)
    refine ⟨?_, ?_, ?_⟩
    rotate_left
    ·simp -implicitDefEqProofs +contextual (disch := try first | omega | assumption | (simp only [Hp.next_set, Hp.next_push]; omega) | ((repeat' (first | assumption | with_reducible apply Hp.WF.push | with_reducible apply Hp.WF.set)) <;> first | omega | (simp only [Hp.next_set, Hp.next_push]; omega)) | (intro c hc; simp (disch := omega); done)) [exeL, exeF, z_bf.l1, hs, out, hS, z_cr, z_dg, z_c2, hk']
     rfl
    ·refine ⟨?_, fix'.keep ?_ ?_ ?_, ?_, ?_, ?_, ?_, ?_⟩
     ·(repeat' (first | assumption | with_reducible apply Hp.WF.push | with_reducible apply Hp.WF.set)) <;> (simp <;> omega)
     ·simp; try omega
     ·simp (disch := omega)
     ·simp (disch := omega)
     ·simp; omega
     ·simp; omega
     ·simp; omega
     ·simp (disch := omega) [outB, fst]
     ·refine ⟨B.next + 3, _, by simp (disch := omega) [outB, lAV]; rfl, fun _ => ⟨by omega, by omega, by omega, by omega, by omega, by omega, by omega, by simp (disch := omega) [lrows, hlc]⟩⟩
   | false =>
    refine .inr (.inr ⟨rfl, rfl, ?_⟩)
    refine ⟨?_, ?_, ?_, ?_⟩
    rotate_left
    ·simp -implicitDefEqProofs +contextual (disch := try first | omega | assumption | (simp only [Hp.next_set, Hp.next_push]; omega) | ((repeat' (first | assumption | with_reducible apply Hp.WF.push | with_reducible apply Hp.WF.set)) <;> first | omega | (simp only [Hp.next_set, Hp.next_push]; omega)) | (intro c hc; simp (disch := omega); done)) [exeL, exeF, z_bf.l1, hs, out, hS, z_cr, z_dg, z_c2, hk']
     rfl
    ·refine ⟨?_, fix'.keep ?_ ?_ ?_, ?_, ?_, ?_, ?_, ?_⟩
     ·(repeat' (first | assumption | with_reducible apply Hp.WF.push | with_reducible apply Hp.WF.set)) <;> (simp <;> omega)
     ·simp; try omega
     ·simp (disch := omega)
     ·simp (disch := omega)
     ·simp; omega
     ·simp; omega
     ·simp; omega
     ·simp (disch := omega) [outB, fst]
     ·refine ⟨B.next + 3, _, by simp (disch := omega) [outB, lAV]; rfl, fun _ => ⟨by omega, by omega, by omega, by omega, by omega, by omega, by omega, by simp (disch := omega) [lrows, hlc]⟩⟩
    ·simp (disch := omega) [stBlk]
  ·refine .inl ⟨he, ?_⟩
   refine ⟨?_, ?_, ?_⟩
   rotate_left
   ·simp -implicitDefEqProofs +contextual (disch := try first | omega | assumption | (simp only [Hp.next_set, Hp.next_push]; omega) | ((repeat' (first | assumption | with_reducible apply Hp.WF.push | with_reducible apply Hp.WF.set)) <;> first | omega | (simp only [Hp.next_set, Hp.next_push]; omega)) | (intro c hc; simp (disch := omega); done)) [exeL, exeF, z_bf.l1, hs, out, hS, z_cr, z_dg, z_c2, hk', he]
    rfl
   ·refine ⟨?_, fix'.keep ?_ ?_ ?_, ?_, ?_, ?_, ?_, ?_⟩
    ·(repeat' (first | assumption | with_reducible apply Hp.WF.push | with_reducible apply Hp.WF.set)) <;> (simp <;> omega)
    ·simp; try omega
    ·simp (disch := omega)
    ·simp (disch := omega)
    ·simp; omega
    ·simp; omega
    ·simp; omega
    ·simp (disch := omega) [outB, fst]
    ·exact ⟨c, _, by simp (disch := omega) [outB, lAV]; rfl, fun h => (h rfl).elim⟩
 ·obtain ⟨c0, c1, c2, c3, c4, c6, c7, hcg⟩ := hc hn
  have hc7 := hc5 hn
  simp only [lAV, hn, if_false] at out ⊢
  by_cases he : re = 0
  ·subst he
   cases rstop with
   | true =>
    refine .inr (.inl ⟨rfl, rfl, ?_⟩)
    refine ⟨?_, ?_, ?_⟩
    rotate_left
    ·simp -implicitDefEqProofs +contextual (disch := try first | omega | assumption | (simp only [Hp.next_set, Hp.next_push]; omega) | ((repeat' (first | assumption | with_reducible apply Hp.WF.push | with_reducible apply Hp.WF.set)) <;> first | omega | (simp only [Hp.next_set, Hp.next_push]; omega)) | (intro c hc; simp (disch := omega); done)) [exeL, exeF, z_bf.l1, hs, out, hS, z_cr, z_dg, z_c2, hk', hcg]
     rfl
    ·refine ⟨?_, fix'.keep ?_ ?_ ?_, ?_, ?_, ?_, ?_, ?_⟩
     ·(repeat' (first | assumption | with_reducible apply Hp.WF.push | with_reducible apply Hp.WF.set)) <;> (simp <;> omega)
     ·simp; try omega
     ·simp (disch := omega)
     ·simp (disch := omega)
     ·simp; omega
     ·simp; omega
     ·simp; omega
     ·simp (disch := omega) [outB, fst]
     ·refine ⟨B.next + 3, _, by simp (disch := omega) [outB, lAV]; rfl, fun _ => ⟨by omega, by omega, by omega, by omega, by omega, by omega, by omega, by simp (disch := omega) [lrows, hlc]⟩⟩
   | false =>
    refine .inr (.inr ⟨rfl, rfl, ?_⟩)
    refine ⟨?_, ?_, ?_, ?_⟩
    rotate_left
    ·simp -implicitDefEqProofs +contextual (disch := try first | omega | assumption | (simp only [Hp.next_set, Hp.next_push]; omega) | ((repeat' (first | assumption | with_reducible apply Hp.WF.push | with_reducible apply Hp.WF.set)) <;> first | omega | (simp only [Hp.next_set, Hp.next_push]; omega)) | (intro c hc; simp (disch := omega); done)) [exeL, exeF, z_bf.l1, hs, out, hS, z_cr, z_dg, z_c2, hk', hcg]
     rfl
    ·refine ⟨?_, fix'.keep ?_ ?_ ?_, ?_, ?_, ?_, ?_, ?_⟩
     ·(repeat' (first | assumption | with_reducible apply Hp.WF.push | with_reducible apply Hp.WF.set)) <;> (simp <;> omega)
     ·simp; try omega
     ·simp (disch := omega)
     ·simp (disch := omega)
     ·simp; omega
     ·simp; omega
     ·simp; omega
     ·simp (disch := omega) [outB, fst]
     ·refine ⟨B.next + 3, _, by simp (disch := omega) [outB, lAV]; rfl, fun _ => ⟨by omega, by omega, by omega, by omega, by omega, by omega, by omega, by simp (disch := omega) [lrows, hlc]⟩⟩
    ·simp (disch := omega) [stBlk]
  ·refine .inl ⟨he, ?_⟩
   refine ⟨?_, ?_, ?_⟩
   rotate_left
   ·simp -implicitDefEqProofs +contextual (disch := try first | omega | assumption | (simp only [Hp.next_set, Hp.next_push]; omega) | ((repeat' (first | assumption | with_reducible apply Hp.WF.push | with_reducible apply Hp.WF.set)) <;> first | omega | (simp only [Hp.next_set, Hp.next_push]; omega)) | (intro c hc; simp (disch := omega); done)) [exeL, exeF, z_bf.l1, hs, out, hS, z_cr, z_dg, z_c2, hk', he, hcg]
    rfl
   ·refine ⟨?_, fix'.keep ?_ ?_ ?_, ?_, ?_, ?_, ?_, ?_⟩
    ·(repeat' (first | assumption | with_reducible apply Hp.WF.push | with_reducible apply Hp.WF.set)) <;> (simp <;> omega)
    ·simp; try omega
    ·simp (disch := omega)
    ·simp (disch := omega)
    ·simp; omega
    ·simp; omega
    ·simp; omega
    ·simp (disch := omega) [outB, fst]
    ·exact ⟨c, _, by simp (disch := omega) [outB, lAV, hn]; rfl, fun _ => ⟨c0, c1, c2, c3, c4, c6, c7, by simp (disch := omega) [hcg]⟩⟩
end Go.Abs
end

/-
  What an instruction leaks: operands, place, flags. Printed by genk1.py.
-/
import Derived.Test.YteohnepdbjmghaaZ13
import Derived.Test.YteohnepdbjmghaaZ3
import Derived.Test.YteohnepdbjmghaaZ7
import Derived.Test.YteohnepdbjmghaaZ12
import Derived.KernelRfl
import Derived.Test.YteohnepdbjmghaaZ4
set_option linter.unusedSimpArgs false
set_option linter.unusedVariables false
set_option maxHeartbeats 20000000
set_option maxRecDepth 100000
section
namespace Go.Abs
open Th
def opsM (i : InsM) (s : StM) : BitVec 32 × BitVec 32 :=
 match i.op.toNat with
 | 0 => (0#32, immW i.imm)
 | 1 | 2 | 3 => (s.reg i.d.toNat, immW i.imm)
 | 4 | 5 | 6 => (s.reg i.m.toNat, immW i.imm)
 | 7 | 8 | 14 => (s.reg i.n.toNat, s.reg i.m.toNat)
 | 9 | 10 => (s.reg i.n.toNat, immW i.imm)
 | 11 => (s.reg i.d.toNat, s.reg i.m.toNat)
 | 12 => (s.reg i.n.toNat, 4#32 * immW i.imm)
 | 13 | 15 => (s.reg i.d.toNat, 0#32)
 | _ => (0#32, 0#32)
def z_k6 (i : InsM) (s : StM) : BitVec 32 × Bool :=
 match i.op.toNat with
 | 12 | 13 => (s.reg i.n.toNat + 4#32 * immW i.imm, true)
 | 14 | 15 => (s.reg i.n.toNat + s.reg i.m.toNat, true)
 | 16 => (((s.pc + 4#32) &&& ~~~3#32) + 4#32 * immW i.imm, true)
 | _ => (0#32, false)
def z_l5 (i : InsM) (a b : BitVec 32) : BitVec 32 :=
 if i.op = 1 ∨ (i.op = 11 ∧ i.imm = 10) then a - b else if i.op = 11 ∧ i.imm = 8 then a &&& b else if i.op = 11 ∧ i.imm = 11 then a + b else 0#32
structure LeakM where
 pc : BitVec 32
 code : BitVec 16
 a : BitVec 32
 b : BitVec 32
 r : BitVec 32
 old : BitVec 32
 bus : BitVec 32
 addr : BitVec 32
 memory : Bool
 random : Bool
deriving DecidableEq
def LeakM.cells (l : LeakM) : List AV := [W32 l.pc, W16 l.code, W32 l.a, W32 l.b, W32 l.r, W32 l.old, W32 l.bus, W32 l.addr, .bool l.memory, .bool l.random]
def LeakM.zero : LeakM := ⟨0#32, 0#16, 0#32, 0#32, 0#32, 0#32, 0#32, 0#32, false, false⟩
def z_lz (i : InsM) : Bool := decide (i.op = 13) || decide (i.op = 15)
def leakI (i : InsM) (h : BitVec 16) (s t : StM) (bus : BitVec 32) : LeakM :=
 { pc := s.pc, code := h, a := (opsM i s).1, b := (opsM i s).2, bus := bus, addr := (z_k6 i s).1, memory := (z_k6 i s).2,
   random := (z_k6 i s).2 && !z_lz i && decide ((z_k6 i s).1 = 1073741824#32),
   r := if (z_ef i).2 = true then t.reg (z_ef i).1.toNat else if z_lz i = true then (opsM i s).1 else z_l5 i (opsM i s).1 (opsM i s).2,
   old := if (z_ef i).2 = true then s.reg (z_ef i).1.toNat else 0#32 }
def leakM (s : StM) (m : MemM) : LeakM :=
 if (stepM s m).e = 0 then leakI (takeN (m.fetch s.pc).1.toNat).1 (m.fetch s.pc).1 s (stepM s m).s m.bus else LeakM.zero
end Go.Abs
end
section
namespace Go.Abs
open Th
theorem z_o6 {m m' : MemM} (h : Keeps m m') (a : BitVec 32) : m'.fetch a = m.fetch a := by unfold MemM.fetch; rw [h.code]
theorem z_r2 (s : StM) (m : MemM) (h : (stepM s m).e = 0) : ∃ i : InsM, i.can = true ∧ takeN (m.fetch s.pc).1.toNat = (i, 0) ∧ m.fetch s.pc = ((m.fetch s.pc).1, 0) := by
 rcases z_p5 m s.pc with hf | hf
 ·rcases z_lm (m.fetch s.pc).1.toNat with ⟨i, hc, hp, ht⟩ | ht
  ·exact ⟨i, hc, ht, hf⟩
  ·unfold stepM at h
   rw [if_pos (by rw [hf]), ht] at h
   simp at h
 ·unfold stepM at h
  rw [hf] at h
  simp at h
def z_oc (s : StM) (m : MemM) : AV := .tup [.agg (stepM s m).s.cells, .agg (leakM s m).cells, .bool (stepM s m).stop, .int .i64 (stepM s m).e]
end Go.Abs
end
section
namespace Go.Abs
open Th
noncomputable abbrev z_fj := z_ba.l1 z_ay.spec z_bj.spec z_a5.spec z_ah.spec
noncomputable abbrev z_hg := z_ba.l0 z_ay.spec z_bj.spec z_a5.spec z_ah.spec
def tkFr (h : BitVec 16) (op : Nat) (s : ByteArray) (b : Nat) (st : TakeS) (k : Nat) : List (Nat × AV) :=
 [(0, W16 h), (2, .ptr 0 5 0 0), (4, .int .i64 op), (5, .str s), (6, .ptr b 5 0 0), (7, .bool st.ok), (8, .int .i64 st.wide), (9, .int .i64 st.x), (10, .int .i64 k)]
def tkBlk (op : Nat) (st : TakeS) : Blk := z_ej ⟨op, st.d, st.n, st.m, st.imm⟩
theorem z_qm (h : BitVec 16) (op : Nat) (s : ByteArray) (l : List Nat) (hs : Chars s l) (hl : l.length = 16) (X : Hp) (b : Nat) (k : Nat) (hk : k < 16) (st : TakeS) (P : Nat) (hP : P ≤ 65536) (hx : st.x < 65536) (hd : st.d < P) (hn : st.n < P) (hm : st.m < P) (hi : st.imm < P) (hw : st.wide ≤ P) :
  z_fj (AFr.al (tkFr h op s b st k)) (X.set b (some (tkBlk op st))) = some (.normal, AFr.al (tkFr h op s b (z_ho l[k] st) (k + 1)), X.set b (some (tkBlk op (z_ho l[k] st)))) := by
 have hv := hs.2 k (by omega) (by have := hs.1; omega)
 have hsz : k < s.size := by have := hs.1; omega
 generalize hc : l[k] = c at hv
 have ne : ∀ q : Nat, q < 256 → c ≠ q → ¬ s[k].toBitVec = BitVec.ofNat 8 q := fun q hq hn e => by
  rw [e, BitVec.toNat_ofNat, Nat.mod_eq_of_lt hq] at hv; exact hn hv.symm
 have eq : ∀ q : Nat, q < 256 → c = q → s[k].toBitVec = BitVec.ofNat 8 q := fun q hq hn => by
  apply BitVec.eq_of_toNat_eq; rw [hv, BitVec.toNat_ofNat, Nat.mod_eq_of_lt hq, hn]
 unfold z_ho tkFr tkBlk z_ej
 obtain ⟨x, ok, wide, d, n, m, imm⟩ := st
 dsimp only at hx hd hn hm hi hw ⊢
 obtain ⟨bit, hbit⟩ : ∃ bit, x / 32768 = bit := ⟨_, rfl⟩
 obtain ⟨y, hy⟩ : ∃ y, x % 32768 = y := ⟨_, rfl⟩
 rw [hbit, hy]
 have hbc : (bit = 0 ∧ x = y ∧ x < 32768) ∨ (bit = 1 ∧ x = y + 32768 ∧ 32768 ≤ x) := by omega
 have hy2 : y < 32768 := by omega
 clear hbit hy
 rcases hbc with ⟨rfl, rfl, h3⟩ | ⟨rfl, rfl, h3⟩
 all_goals
  by_cases c1 : c = 48
  ·have e1 := eq 48 (by omega) c1
   simp -implicitDefEqProofs +contextual (disch := omega) [z_fj, z_ba.l1, hsz, e1, c1]
  ·have n1 := ne 48 (by omega) c1
   by_cases c2 : c = 49
   ·have e1 := eq 49 (by omega) c2
    simp -implicitDefEqProofs +contextual (disch := omega) [z_fj, z_ba.l1, hsz, e1, c2]
   ·have n2 := ne 49 (by omega) c2
    by_cases c3 : c = 100
    ·have e1 := eq 100 (by omega) c3
     simp -implicitDefEqProofs +contextual (disch := omega) [z_fj, z_ba.l1, hsz, e1, c3]
    ·have n3 := ne 100 (by omega) c3
     by_cases c4 : c = 99
     ·have e1 := eq 99 (by omega) c4
      simp -implicitDefEqProofs +contextual (disch := omega) [z_fj, z_ba.l1, hsz, e1, c4]
     ·have n4 := ne 99 (by omega) c4
      by_cases c5 : c = 110
      ·have e1 := eq 110 (by omega) c5
       simp -implicitDefEqProofs +contextual (disch := omega) [z_fj, z_ba.l1, hsz, e1, c5]
      ·have n5 := ne 110 (by omega) c5
       by_cases c6 : c = 109
       ·have e1 := eq 109 (by omega) c6
        simp -implicitDefEqProofs +contextual (disch := omega) [z_fj, z_ba.l1, hsz, e1, c6]
       ·have n6 := ne 109 (by omega) c6
        by_cases c7 : c = 105
        ·have e1 := eq 105 (by omega) c7
         simp -implicitDefEqProofs +contextual (disch := omega) [z_fj, z_ba.l1, hsz, e1, c7]
        ·have n7 := ne 105 (by omega) c7
         simp -implicitDefEqProofs +contextual (disch := omega) [z_fj, z_ba.l1, hsz, n1, n2, n3, n4, n5, n6, n7, c1, c2, c3, c4, c5, c6, c7]
structure TkB (st : TakeS) (P : Nat) : Prop where
 x : st.x < 65536
 d : st.d < P
 n : st.n < P
 m : st.m < P
 imm : st.imm < P
 wide : st.wide ≤ P
theorem z_r0 (c : Nat) (st : TakeS) (P : Nat) (h : TkB st P) : TkB (z_ho c st) (P * 2) := by
 obtain ⟨h1, h2, h3, h4, h5, h6⟩ := h
 unfold z_ho; dsimp only; repeat' split
 all_goals (refine ⟨?_, ?_, ?_, ?_, ?_, ?_⟩ <;> dsimp only <;> omega)
theorem z_k0 (h : BitVec 16) (op : Nat) (s : ByteArray) (l : List Nat) (hs : Chars s l) (hl : l.length = 16) (X : Hp) (b : Nat) : ∀ (d k : Nat) (st : TakeS) (P : Nat), k + d = 16 → P * 2 ^ d ≤ 65536 → TkB st P →
  aloop z_fj (AFr.al (tkFr h op s b st k)) (X.set b (some (tkBlk op st))) =
   some (.exit 2, AFr.al (tkFr h op s b (z_fw (l.drop k) st) 16 ++ [(23, .bool false)]), X.set b (some (tkBlk op (z_fw (l.drop k) st)))) ∧ TkB (z_fw (l.drop k) st) (P * 2 ^ d)
 | 0, k, st, P, hk, hP, hb => by
  rw [List.drop_of_length_le (by omega)]
  refine ⟨z_ce (by simp) ?_, by simpa [z_fw] using hb⟩
  obtain rfl : k = 16 := by omega
  unfold tkFr z_fw
  simp -implicitDefEqProofs +contextual (disch := omega) [z_fj, z_ba.l1]
 | d + 1, k, st, P, hk, hP, hb => by
  have hP2 : P * 2 * 2 ^ d ≤ 65536 := by rw [Nat.mul_assoc, Nat.mul_comm 2, ← Nat.pow_succ]; exact hP
  have hP1 : P ≤ 65536 := by have := Nat.two_pow_pos (d + 1); have := Nat.le_mul_of_pos_right P this; omega
  have e1 := z_qm h op s l hs hl X b k (by omega) st P hP1 hb.x hb.d hb.n hb.m hb.imm hb.wide
  have ih := z_k0 h op s l hs hl X b d (k + 1) (z_ho l[k] st) (P * 2) (by omega) hP2 (z_r0 _ _ _ hb)
  rw [List.drop_eq_getElem_cons (by omega), z_dk e1]
  rw [show P * 2 ^ (d + 1) = P * 2 * 2 ^ d from by rw [Nat.mul_assoc, Nat.mul_comm 2, ← Nat.pow_succ]]
  exact ih
theorem z_sd (op : Nat) (hop : op ≤ 20) (h : BitVec 16) (H : Hp) (hw : H.WF) (i0 : InsM) (h0 : H.get 0 = some (z_ej i0)) : ∃ H' : Hp,
  z_hg (AFr.al [(0, W16 h), (2, .ptr 0 5 0 0), (4, .int .i64 (op : Nat))]) H = (if isR op h.toNat = true then some (.ret, AFr.al [(2, .ptr 0 5 0 0), (3, .int .i64 0)], H') else some (.normal, AFr.al [(0, W16 h), (2, .ptr 0 5 0 0), (4, .int .i64 (op + 1 : Nat))], H')) ∧
  H'.WF ∧ H'.get 0 = some (z_ej (if isR op h.toNat = true then candR op h.toNat else i0)) := by
 have hz := hw _ _ h0
 have g1 := z_ws op hop; have g2 := Low_eq op hop; have g3 := z_0b op hop
 obtain ⟨e1, e2⟩ := z_k0 h op (txtB op) (txt op) (z_ai op hop) (z_xp op hop) (H.push (z_ej ⟨0, 0, 0, 0, 0⟩)) H.next 16 0 ⟨h.toNat, true, 1, 0, 0, 0, 0⟩ 1 (by omega) (by omega) ⟨h.isLt, by simp, by simp, by simp, by simp, by simp⟩
 rw [List.drop_zero, show z_fw (txt op) ⟨h.toNat, true, 1, 0, 0, 0, 0⟩ = takeS op h.toNat from rfl] at e1 e2
 have hbd : -1024 ≤ (shp op).low ∧ (shp op).high ≤ 1023 ∧ (shp op).low ≤ 1 := by
  have : ∀ k : Nat, k ≤ 20 → -1024 ≤ (shp k).low ∧ (shp k).high ≤ 1023 ∧ (shp k).low ≤ 1 := by decide
  exact this op hop
 have hcan := z_ox (candR op h.toNat)
 unfold isR candR at *
 generalize takeS op h.toNat = st at *
 dsimp only at hcan ⊢
 obtain ⟨b1, b2, b3, b4, b5, b6⟩ := e2
 simp only [Nat.reducePow, Nat.one_mul] at b2 b3 b4 b5 b6
 generalize (shp op).low = low at *
 generalize (shp op).high = high at *
 simp only [tkFr, tkBlk, z_ej, InsAV, List.cons_append, List.nil_append] at e1 hcan h0
 simp only [Int.natCast_zero, Int.natCast_one] at e1
 have hop2 : (op : Int) ≤ 20 := by omega
 have key : ∀ (v : Int) (c : Bool), v = (if low = 1 ∧ (if low < 0 ∧ (st.imm : Int) > high then (st.imm : Int) - st.wide else (st.imm : Int)) = 0 then (32 : Int) else if low < 0 ∧ (st.imm : Int) > high then (st.imm : Int) - st.wide else (st.imm : Int)) →
   z_ah.spec [.agg [.int .i64 op, .int .i64 st.d, .int .i64 st.n, .int .i64 st.m, .int .i64 v]] = some (.bool c) → ∃ H' : Hp,
   z_hg (AFr.al [(0, W16 h), (2, .ptr 0 5 0 0), (4, .int .i64 (op : Nat))]) H = (if (st.ok && c) = true then some (.ret, AFr.al [(2, .ptr 0 5 0 0), (3, .int .i64 0)], H') else some (.normal, AFr.al [(0, W16 h), (2, .ptr 0 5 0 0), (4, .int .i64 (op + 1 : Nat))], H')) ∧
   H'.WF ∧ H'.get 0 = some (z_ej (if (st.ok && c) = true then ⟨op, st.d, st.n, st.m, v⟩ else i0)) := by
  intro v c hv hcan
  by_cases l1 : low < 0
  ·have l3 : ¬ low = 1 := by omega
   by_cases l2 : high < (st.imm : Int)
   ·have hv' : v = (st.imm : Int) - st.wide := by rw [hv]; simp [l1, l2, l3]
    clear hv; subst hv'
    cases hok : st.ok <;> cases c
    all_goals
     refine ⟨?_, ?_, ?_, ?_⟩
     rotate_left
     ·simp -implicitDefEqProofs +contextual (disch := omega) [z_hg, z_ba.l0, g1, g2, g3, e1, l1, l2, l3, hcan, hok, h0, z_ej]
      rfl
     ·(repeat' (first | assumption | with_reducible apply Hp.WF.push | with_reducible apply Hp.WF.set)) <;> simp <;> omega
     ·simp (disch := omega) [z_ej, h0]
   ·have hv' : v = (st.imm : Int) := by rw [hv]; simp [l1, l2, l3]
    clear hv; subst hv'
    cases hok : st.ok <;> cases c
    all_goals
     refine ⟨?_, ?_, ?_, ?_⟩
     rotate_left
     ·simp -implicitDefEqProofs +contextual (disch := omega) [z_hg, z_ba.l0, g1, g2, g3, e1, l1, l2, l3, hcan, hok, h0, z_ej]
      rfl
     ·(repeat' (first | assumption | with_reducible apply Hp.WF.push | with_reducible apply Hp.WF.set)) <;> simp <;> omega
     ·simp (disch := omega) [z_ej, h0]
  ·by_cases l3 : low = 1
   ·by_cases l2 : st.imm = 0
    ·have l2i : (st.imm : Int) = 0 := by omega
     have hv' : v = 32 := by rw [hv]; simp [l1, l2, l3]
     clear hv; subst hv'
     cases hok : st.ok <;> cases c
     all_goals
      refine ⟨?_, ?_, ?_, ?_⟩
      rotate_left
      ·simp -implicitDefEqProofs +contextual (disch := omega) [z_hg, z_ba.l0, g1, g2, g3, e1, l1, l2, l2i, l3, hcan, hok, h0, z_ej]
       rfl
      ·(repeat' (first | assumption | with_reducible apply Hp.WF.push | with_reducible apply Hp.WF.set)) <;> simp <;> omega
      ·simp (disch := omega) [z_ej, h0]
    ·have hv' : v = (st.imm : Int) := by rw [hv]; simp [l1, l2, l3]
     have l2i : ¬ (st.imm : Int) = 0 := by omega
     clear hv; subst hv'
     cases hok : st.ok <;> cases c
     all_goals
      refine ⟨?_, ?_, ?_, ?_⟩
      rotate_left
      ·simp -implicitDefEqProofs +contextual (disch := omega) [z_hg, z_ba.l0, g1, g2, g3, e1, l1, l2, l2i, l3, hcan, hok, h0, z_ej]
       rfl
      ·(repeat' (first | assumption | with_reducible apply Hp.WF.push | with_reducible apply Hp.WF.set)) <;> simp <;> omega
      ·simp (disch := omega) [z_ej, h0]
   ·have hv' : v = (st.imm : Int) := by rw [hv]; simp [l1, l3]
    clear hv; subst hv'
    cases hok : st.ok <;> cases c
    all_goals
     refine ⟨?_, ?_, ?_, ?_⟩
     rotate_left
     ·simp -implicitDefEqProofs +contextual (disch := omega) [z_hg, z_ba.l0, g1, g2, g3, e1, l1, l3, hcan, hok, h0, z_ej]
      rfl
     ·(repeat' (first | assumption | with_reducible apply Hp.WF.push | with_reducible apply Hp.WF.set)) <;> simp <;> omega
     ·simp (disch := omega) [z_ej, h0]
 exact key _ _ rfl hcan
def z_ge (h : Nat) : Nat → Nat → InsM × Int
 | 0, _ => (InsM.zero, 20)
 | k + 1, op => if isR op h then (candR op h, 0) else z_ge h k (op + 1)
theorem z_kt (h : Nat) (hh : h < 65536) : ∀ k s : Nat, s + k = 21 → z_ge h k s = z_hx h k s
 | 0, s, _ => rfl
 | k + 1, s, hs => by
  unfold z_ge z_hx
  rw [isR_eq s h (by omega) hh, (z_ll s (by omega) h hh).2, z_kt h hh k (s + 1) (by omega)]
theorem z_m0 (h : BitVec 16) : ∀ (k s : Nat) (H : Hp) (i0 : InsM), s + k = 21 → H.WF → H.get 0 = some (z_ej i0) → ∃ H' : Hp,
  aloop z_hg (AFr.al [(0, W16 h), (2, .ptr 0 5 0 0), (4, .int .i64 (s : Nat))]) H = (if (z_ge h.toNat k s).2 = 0 then some (.ret, AFr.al [(2, .ptr 0 5 0 0), (3, .int .i64 0)], H') else some (.exit 0, AFr.al [(0, W16 h), (2, .ptr 0 5 0 0), (4, .int .i64 21), (13, .bool false)], H')) ∧
  H'.WF ∧ ∃ i1, H'.get 0 = some (z_ej i1) ∧ ((z_ge h.toNat k s).2 = 0 → i1 = (z_ge h.toNat k s).1)
 | 0, s, H, i0, hs, hw, h0 => by
  have hs' : s = 21 := by omega
  subst hs'
  refine ⟨H, ?_, hw, i0, h0, fun q => by simp [z_ge] at q⟩
  rw [if_neg (by simp [z_ge])]
  exact z_ce (by simp) (by simp -implicitDefEqProofs +contextual (disch := omega) [z_hg, z_ba.l0])
 | k + 1, s, H, i0, hs, hw, h0 => by
  obtain ⟨H1, e1, e2, e3⟩ := z_sd s (by omega) h H hw i0 h0
  unfold z_ge
  by_cases hi : isR s h.toNat = true
  ·rw [if_pos hi] at e1 e3
   simp only [hi, if_true]
   exact ⟨H1, z_ce (by simp) e1, e2, _, e3, fun _ => rfl⟩
  ·rw [if_neg hi] at e1 e3
   simp only [hi, if_false, Bool.false_eq_true]
   obtain ⟨H2, f1, f2, f3⟩ := z_m0 h k (s + 1) H1 i0 (by omega) e2 e3
   exact ⟨H2, by rw [z_dk e1]; exact f1, f2, f3⟩
theorem z_fa (h : BitVec 16) : z_ba.spec [W16 h] = some (.tup [InsAV (takeN h.toNat).1, .int .i64 (takeN h.toNat).2]) := by
 obtain ⟨H1, e1, e2, i1, e3, e4⟩ := z_m0 h 21 0 (Hp.empty.push (z_ej InsM.zero)) InsM.zero rfl (Hp.WF.push Hp.WF.empty) (by simp)
 rw [z_kt h.toNat h.isLt 21 0 rfl] at e1 e4
 have hz := e2 _ _ e3
 have h20 := z_lm h.toNat
 unfold takeN at h20 ⊢
 simp only [z_ej, InsM.zero, z_hg] at e1 e3
 rw [show ((0 : Nat) : Int) = 0 from rfl] at e1
 generalize z_hx h.toNat 21 0 = r at e1 e4 h20 ⊢
 obtain ⟨ri, re⟩ := r
 rcases h20 with ⟨i, _, _, h5⟩ | h5
 ·cases h5
  obtain rfl := e4 rfl
  rw [if_pos rfl] at e1
  simp -implicitDefEqProofs +contextual (disch := omega) [z_ba.spec, z_ba, e1, e3, InsAV]
 ·cases h5
  rw [if_neg (by simp)] at e1
  simp -implicitDefEqProofs +contextual (disch := omega) [z_ba.spec, z_ba, e1, e3, InsAV, InsM.zero]
end Go.Abs
end
section
namespace Go.Abs
theorem z_m8 (s : StM) (w : BitVec 32) : z_c2.spec [.agg s.cells, W32 w] = some (.agg (z_fm s w).cells) := by
 have h : decide (2147483648#32 ≤ w) = w.msb := by rw [BitVec.msb_eq_decide, decide_eq_decide, BitVec.le_def]; exact Iff.rfl
 simp -implicitDefEqProofs +contextual (disch := omega) [z_c2.spec, z_c2, h, z_fm]
theorem rholds0 (a0 a1 a2 a3 a4 a5 a6 a7 pc : BitVec 32) (n z c v : Bool) (h : [a0, a1, a2, a3, a4, a5, a6, a7].length = 8) : z_bo.spec [.int .i64 0, .agg (StM.mk [a0, a1, a2, a3, a4, a5, a6, a7] h pc n z c v).cells] = some (.bool (z_e3 0 ⟨[a0, a1, a2, a3, a4, a5, a6, a7], h, pc, n, z, c, v⟩)) := by
 cases n <;> cases z <;> cases c <;> cases v
 all_goals kernel_rfl
theorem rholds1 (a0 a1 a2 a3 a4 a5 a6 a7 pc : BitVec 32) (n z c v : Bool) (h : [a0, a1, a2, a3, a4, a5, a6, a7].length = 8) : z_bo.spec [.int .i64 1, .agg (StM.mk [a0, a1, a2, a3, a4, a5, a6, a7] h pc n z c v).cells] = some (.bool (z_e3 1 ⟨[a0, a1, a2, a3, a4, a5, a6, a7], h, pc, n, z, c, v⟩)) := by
 cases n <;> cases z <;> cases c <;> cases v
 all_goals kernel_rfl
theorem rholds2 (a0 a1 a2 a3 a4 a5 a6 a7 pc : BitVec 32) (n z c v : Bool) (h : [a0, a1, a2, a3, a4, a5, a6, a7].length = 8) : z_bo.spec [.int .i64 2, .agg (StM.mk [a0, a1, a2, a3, a4, a5, a6, a7] h pc n z c v).cells] = some (.bool (z_e3 2 ⟨[a0, a1, a2, a3, a4, a5, a6, a7], h, pc, n, z, c, v⟩)) := by
 cases n <;> cases z <;> cases c <;> cases v
 all_goals kernel_rfl
theorem rholds3 (a0 a1 a2 a3 a4 a5 a6 a7 pc : BitVec 32) (n z c v : Bool) (h : [a0, a1, a2, a3, a4, a5, a6, a7].length = 8) : z_bo.spec [.int .i64 3, .agg (StM.mk [a0, a1, a2, a3, a4, a5, a6, a7] h pc n z c v).cells] = some (.bool (z_e3 3 ⟨[a0, a1, a2, a3, a4, a5, a6, a7], h, pc, n, z, c, v⟩)) := by
 cases n <;> cases z <;> cases c <;> cases v
 all_goals kernel_rfl
theorem rholds4 (a0 a1 a2 a3 a4 a5 a6 a7 pc : BitVec 32) (n z c v : Bool) (h : [a0, a1, a2, a3, a4, a5, a6, a7].length = 8) : z_bo.spec [.int .i64 4, .agg (StM.mk [a0, a1, a2, a3, a4, a5, a6, a7] h pc n z c v).cells] = some (.bool (z_e3 4 ⟨[a0, a1, a2, a3, a4, a5, a6, a7], h, pc, n, z, c, v⟩)) := by
 cases n <;> cases z <;> cases c <;> cases v
 all_goals kernel_rfl
theorem rholds5 (a0 a1 a2 a3 a4 a5 a6 a7 pc : BitVec 32) (n z c v : Bool) (h : [a0, a1, a2, a3, a4, a5, a6, a7].length = 8) : z_bo.spec [.int .i64 5, .agg (StM.mk [a0, a1, a2, a3, a4, a5, a6, a7] h pc n z c v).cells] = some (.bool (z_e3 5 ⟨[a0, a1, a2, a3, a4, a5, a6, a7], h, pc, n, z, c, v⟩)) := by
 cases n <;> cases z <;> cases c <;> cases v
 all_goals kernel_rfl
theorem rholds6 (a0 a1 a2 a3 a4 a5 a6 a7 pc : BitVec 32) (n z c v : Bool) (h : [a0, a1, a2, a3, a4, a5, a6, a7].length = 8) : z_bo.spec [.int .i64 6, .agg (StM.mk [a0, a1, a2, a3, a4, a5, a6, a7] h pc n z c v).cells] = some (.bool (z_e3 6 ⟨[a0, a1, a2, a3, a4, a5, a6, a7], h, pc, n, z, c, v⟩)) := by
 cases n <;> cases z <;> cases c <;> cases v
 all_goals kernel_rfl
theorem rholds7 (a0 a1 a2 a3 a4 a5 a6 a7 pc : BitVec 32) (n z c v : Bool) (h : [a0, a1, a2, a3, a4, a5, a6, a7].length = 8) : z_bo.spec [.int .i64 7, .agg (StM.mk [a0, a1, a2, a3, a4, a5, a6, a7] h pc n z c v).cells] = some (.bool (z_e3 7 ⟨[a0, a1, a2, a3, a4, a5, a6, a7], h, pc, n, z, c, v⟩)) := by
 cases n <;> cases z <;> cases c <;> cases v
 all_goals kernel_rfl
theorem rholds8 (a0 a1 a2 a3 a4 a5 a6 a7 pc : BitVec 32) (n z c v : Bool) (h : [a0, a1, a2, a3, a4, a5, a6, a7].length = 8) : z_bo.spec [.int .i64 8, .agg (StM.mk [a0, a1, a2, a3, a4, a5, a6, a7] h pc n z c v).cells] = some (.bool (z_e3 8 ⟨[a0, a1, a2, a3, a4, a5, a6, a7], h, pc, n, z, c, v⟩)) := by
 cases n <;> cases z <;> cases c <;> cases v
 all_goals kernel_rfl
theorem rholds9 (a0 a1 a2 a3 a4 a5 a6 a7 pc : BitVec 32) (n z c v : Bool) (h : [a0, a1, a2, a3, a4, a5, a6, a7].length = 8) : z_bo.spec [.int .i64 9, .agg (StM.mk [a0, a1, a2, a3, a4, a5, a6, a7] h pc n z c v).cells] = some (.bool (z_e3 9 ⟨[a0, a1, a2, a3, a4, a5, a6, a7], h, pc, n, z, c, v⟩)) := by
 cases n <;> cases z <;> cases c <;> cases v
 all_goals kernel_rfl
theorem rholds10 (a0 a1 a2 a3 a4 a5 a6 a7 pc : BitVec 32) (n z c v : Bool) (h : [a0, a1, a2, a3, a4, a5, a6, a7].length = 8) : z_bo.spec [.int .i64 10, .agg (StM.mk [a0, a1, a2, a3, a4, a5, a6, a7] h pc n z c v).cells] = some (.bool (z_e3 10 ⟨[a0, a1, a2, a3, a4, a5, a6, a7], h, pc, n, z, c, v⟩)) := by
 cases n <;> cases z <;> cases c <;> cases v
 all_goals kernel_rfl
theorem rholds11 (a0 a1 a2 a3 a4 a5 a6 a7 pc : BitVec 32) (n z c v : Bool) (h : [a0, a1, a2, a3, a4, a5, a6, a7].length = 8) : z_bo.spec [.int .i64 11, .agg (StM.mk [a0, a1, a2, a3, a4, a5, a6, a7] h pc n z c v).cells] = some (.bool (z_e3 11 ⟨[a0, a1, a2, a3, a4, a5, a6, a7], h, pc, n, z, c, v⟩)) := by
 cases n <;> cases z <;> cases c <;> cases v
 all_goals kernel_rfl
theorem rholds12 (a0 a1 a2 a3 a4 a5 a6 a7 pc : BitVec 32) (n z c v : Bool) (h : [a0, a1, a2, a3, a4, a5, a6, a7].length = 8) : z_bo.spec [.int .i64 12, .agg (StM.mk [a0, a1, a2, a3, a4, a5, a6, a7] h pc n z c v).cells] = some (.bool (z_e3 12 ⟨[a0, a1, a2, a3, a4, a5, a6, a7], h, pc, n, z, c, v⟩)) := by
 cases n <;> cases z <;> cases c <;> cases v
 all_goals kernel_rfl
theorem rholds13 (a0 a1 a2 a3 a4 a5 a6 a7 pc : BitVec 32) (n z c v : Bool) (h : [a0, a1, a2, a3, a4, a5, a6, a7].length = 8) : z_bo.spec [.int .i64 13, .agg (StM.mk [a0, a1, a2, a3, a4, a5, a6, a7] h pc n z c v).cells] = some (.bool (z_e3 13 ⟨[a0, a1, a2, a3, a4, a5, a6, a7], h, pc, n, z, c, v⟩)) := by
 cases n <;> cases z <;> cases c <;> cases v
 all_goals kernel_rfl
theorem z_sm (k : Nat) (hk : k ≤ 13) (s : StM) : z_bo.spec [.int .i64 k, .agg s.cells] = some (.bool (z_e3 k s)) := by
 obtain ⟨r, len, pc, n, z, c, v⟩ := s
 match r, len with
 | [a0, a1, a2, a3, a4, a5, a6, a7], len =>
  match k, hk with
  | 0, _ => exact rholds0 a0 a1 a2 a3 a4 a5 a6 a7 pc n z c v len
  | 1, _ => exact rholds1 a0 a1 a2 a3 a4 a5 a6 a7 pc n z c v len
  | 2, _ => exact rholds2 a0 a1 a2 a3 a4 a5 a6 a7 pc n z c v len
  | 3, _ => exact rholds3 a0 a1 a2 a3 a4 a5 a6 a7 pc n z c v len
  | 4, _ => exact rholds4 a0 a1 a2 a3 a4 a5 a6 a7 pc n z c v len
  | 5, _ => exact rholds5 a0 a1 a2 a3 a4 a5 a6 a7 pc n z c v len
  | 6, _ => exact rholds6 a0 a1 a2 a3 a4 a5 a6 a7 pc n z c v len
  | 7, _ => exact rholds7 a0 a1 a2 a3 a4 a5 a6 a7 pc n z c v len
  | 8, _ => exact rholds8 a0 a1 a2 a3 a4 a5 a6 a7 pc n z c v len
  | 9, _ => exact rholds9 a0 a1 a2 a3 a4 a5 a6 a7 pc n z c v len
  | 10, _ => exact rholds10 a0 a1 a2 a3 a4 a5 a6 a7 pc n z c v len
  | 11, _ => exact rholds11 a0 a1 a2 a3 a4 a5 a6 a7 pc n z c v len
  | 12, _ => exact rholds12 a0 a1 a2 a3 a4 a5 a6 a7 pc n z c v len
  | 13, _ => exact rholds13 a0 a1 a2 a3 a4 a5 a6 a7 pc n z c v len
end Go.Abs
end
section
section
namespace Go.Abs
open Th
theorem z_ct (B : Hp) (b cb wb tb : Nat) (m : MemM) (x : Blk) (hb : b < B.next) (hwb : wb < B.next) : (B.rmem b cb wb tb m).push x = (B.push x).rmem b cb wb tb m := by
 refine z_ii _ _ _ _ _ _ _ (by simp) fun c => ?_
 rw [Hp.get_push, z_by, z_e1, Hp.get_push]
 by_cases e : c = B.next
 ·subst e; rw [if_pos rfl, if_neg (by omega), if_neg (by omega), if_pos rfl]
 ·rw [if_neg e, if_neg e]
theorem z_dg (B : Hp) (b cb wb tb c : Nat) (m : MemM) (x : Option Blk) (hb : c ≠ b) (hwb : c ≠ wb) : (B.rmem b cb wb tb m).set c x = (B.set c x).rmem b cb wb tb m := by
 refine z_ii _ _ _ _ _ _ _ (by simp) fun d => ?_
 rw [Hp.get_set, z_by, Hp.get_set]
 by_cases e : d = c
 ·subst e; rw [if_pos rfl, if_neg hb, if_neg (fun q => hwb q.1), if_pos rfl]
 ·rw [if_neg e, if_neg e]
theorem z_c4 (B : Hp) (b cb wb tb c : Nat) (m : MemM) (hb : c ≠ b) (hwb : c ≠ wb) : (B.rmem b cb wb tb m).get c = B.get c := by
 rw [z_by, if_neg hb, if_neg (fun q => hwb q.1)]
theorem RFix.more {B B' : Hp} {b cb wb tb : Nat} {m m' : MemM} (h : RFix B b cb wb tb m) (hw : B.WF) (hn : B.next ≤ B'.next) (hg : ∀ c, c < B.next → B'.get c = B.get c) (hc : m'.code = m.code) (ht : m'.tape = m.tape) : RFix B' b cb wb tb m' := by
 have h1 := h.hb; have h2 := h.hwb
 refine ⟨fun q => ?_, ?_, by omega, by omega, h.bw, h.bc, h.bt, h.wc, h.wt⟩
 ·rw [hc] at q ⊢
  rw [hg cb (hw _ _ (h.code q))]; exact h.code q
 ·rw [ht, hg tb (hw _ _ h.tape)]; exact h.tape
theorem z_dy {B B' X : Hp} {b cb wb tb : Nat} {m m' : MemM} {rs : List AV} (hw : B.WF) (hf : RFix B b cb wb tb m) (hX : X = B'.rmem b cb wb tb m') (hn : B.next ≤ B'.next) (hg : ∀ c, c < B.next → B'.get c = B.get c)
  (hwl : m'.words.length = m.words.length) (hcd : m'.code.length = m.code.length) (hc : (mkRes rs).closed = true) :
  forget (B.rmem b cb wb tb m) (some (rs, X)) = some (mkRes rs, B.rmem b cb wb tb m') := by
 subst hX
 have hct : z_mh (B.rmem b cb wb tb m) (B'.rmem b cb wb tb m') := fun c hcn => by
  rw [z_by, z_by]
  split
  ·refine .inr fun blk hblk row hr a ha => ?_
   simp only [Option.some.injEq] at hblk
   subst hblk
   simp only [rBlk, List.mem_singleton] at hr
   subst hr
   simp only [List.mem_cons, List.not_mem_nil, or_false] at ha
   rw [z_e1]
   have h1 := hf.hwb; have h2 := hf.tb hw
   rcases ha with rfl | rfl | rfl | rfl | rfl
   ·by_cases h0 : m'.code.length = 0
    ·rw [h0]; rfl
    ·exact z_ib _ _ _ (hf.cb hw (by omega))
   ·exact z_ib _ _ _ h1
   ·simp [z_dj, h2]
   ·rfl
   ·rfl
  ·rw [hwl]
   split
   ·refine .inr fun blk hblk row hr a ha => ?_
    simp only [Option.some.injEq] at hblk
    subst hblk
    have := z_ml _ row hr a ha
    cases a <;> simp_all [z_dj, AV.flat]
   ·refine .inl (hg c (by simpa using hcn))
 unfold forget
 dsimp only
 rw [if_pos ⟨hc, hct, by simpa using hn⟩]
 congr 2
 refine Hp.eq_of (by simp [Hp.trunc]) (funext fun c => ?_)
 show (if c < (B.rmem b cb wb tb m).next then (B'.rmem b cb wb tb m').get c else none) = (B.rmem b cb wb tb m').get c
 rw [z_e1]
 by_cases hcn : c < B.next
 ·rw [if_pos hcn, z_by, z_by, hg c hcn]
 ·rw [if_neg hcn]
  cases hh : (B.rmem b cb wb tb m').get c with
  | none => rfl
  | some x => exact (hcn (by have := z_or (cb := cb) (tb := tb) (m := m') hw hf.hb hf.hwb c x hh; rwa [z_e1] at this)).elim
theorem z_dx {B : Hp} {b cb wb tb : Nat} {m m' : MemM} {v : AV} (hw : B.WF) (hb : b < B.next) (hwb : wb < B.next) : san (B.rmem b cb wb tb m) (some (v, B.rmem b cb wb tb m')) = some (v, B.rmem b cb wb tb m') := z_d6 (z_or hw hb hwb) (by simp)
def putS (s : StM) (w : BitVec 32) (d : Option Nat) : StM := match d with | some d => (z_fm s w).setR d w | none => z_fm s w
theorem z_sh (s : StM) (w : BitVec 32) (d : Nat) (hd : d < 8) : z_b8.spec [.agg s.cells, W32 w, .int .i64 d] = some (.agg (putS s w (some d)).cells) := by
 have h := z_m8 s w
 simp -implicitDefEqProofs +contextual (disch := omega) [z_b8.spec, z_b8, h, putS]
theorem z_si (s : StM) (w : BitVec 32) : z_b8.spec [.agg s.cells, W32 w, .int .i64 (-1)] = some (.agg (putS s w none).cells) := by
 have h := z_m8 s w
 simp -implicitDefEqProofs +contextual (disch := omega) [z_b8.spec, z_b8, h, putS]
theorem z_ec (a : BitVec 32) : z_dh.spec [W32 a] = some (W32 (~~~a)) := by
 have h : 4294967295#32 - a = ~~~a := by
  apply BitVec.eq_of_toNat_eq
  have := a.isLt
  rw [BitVec.toNat_sub, BitVec.toNat_not]; simp; omega
 simp -implicitDefEqProofs +contextual (disch := omega) [z_dh.spec, z_dh, h]
def dAV (d : Option Nat) : AV := match d with | some d => .int .i64 d | none => .int .i64 (-1)
def dOk (d : Option Nat) : Prop := match d with | some d => d < 8 | none => True
theorem z_cm (s : StM) (w : BitVec 32) (d : Option Nat) (hd : dOk d) : z_b8.spec [.agg s.cells, W32 w, dAV d] = some (.agg (putS s w d).cells) := by
 cases d with
 | some d => exact z_sh s w d hd
 | none => exact z_si s w
def inS (x : StM × BitVec 32) (d : Option Nat) : StM := match d with | some d => x.1.setR d x.2 | none => x.1
theorem z_cn (s : StM) (a b : BitVec 32) (c : Bool) (d : Option Nat) (hd : dOk d) : z_c1.spec [.agg s.cells, W32 a, W32 b, .bool c, dAV d] = some (.agg (inS (addS s a b c) d).cells) := by
 have h1 := z_ye a b c
 have h2 := fun s' => z_cm s' (addM a b c).w d hd
 cases d with
 | some d =>
  simp only [dAV] at h2 ⊢
  simp -implicitDefEqProofs +contextual (disch := omega) [z_c1.spec, z_c1, h1, h2, inS, addS, putS]
 | none =>
  simp only [dAV] at h2 ⊢
  simp -implicitDefEqProofs +contextual (disch := omega) [z_c1.spec, z_c1, h1, h2, inS, addS, putS]
theorem z_ao (s : StM) (k : Nat) (hk : k ≤ 3) (a b : BitVec 32) (d : Option Nat) (hd : dOk d) : z_cg.spec [.agg s.cells, .int .i64 k, W32 a, W32 b, dAV d] = some (.agg (inS (z_gw s k a b) d).cells) := by
 have h1 := z_jv k hk a b s.c
 have h2 := fun s' => z_cm s' (z_db k a b s.c).w d hd
 cases d with
 | some d =>
  simp only [dAV] at h2 ⊢
  simp -implicitDefEqProofs +contextual (disch := omega) [z_cg.spec, z_cg, h1, h2, inS, z_gw, putS]
 | none =>
  simp only [dAV] at h2 ⊢
  simp -implicitDefEqProofs +contextual (disch := omega) [z_cg.spec, z_cg, h1, h2, inS, z_gw, putS]
def aluD (k d : Nat) : Option Nat := if k = 8 ∨ k = 10 ∨ k = 11 then none else some d
theorem z_eg (b : BitVec 32) : b % 256#32 = b &&& 255#32 := by
 apply BitVec.eq_of_toNat_eq
 rw [BitVec.toNat_umod, BitVec.toNat_and, show (255#32).toNat = 2 ^ 8 - 1 from rfl, Nat.and_two_pow_sub_one_eq_mod]; rfl
theorem ralu0 (s : StM) (d : Nat) (hd : d < 8) (a b : BitVec 32) : z_aq.spec [.agg s.cells, .int .i64 0, .int .i64 d, W32 a, W32 b] = some (.agg (inS (aluM s 0 a b) (aluD 0 d)).cells) := by
 have h1 := fun w => z_cm s w (some d) hd
 have h2 := fun w => z_cm s w none trivial
 have h3 := fun a b c => z_cn s a b c (some d) hd
 have h4 := fun a b c => z_cn s a b c none trivial
 have h50 := fun a b => z_ao s 0 (by omega) a b (some d) hd
 have h51 := fun a b => z_ao s 1 (by omega) a b (some d) hd
 have h52 := fun a b => z_ao s 2 (by omega) a b (some d) hd
 have h53 := fun a b => z_ao s 3 (by omega) a b (some d) hd
 simp only [dAV] at h1 h2 h3 h4 h50 h51 h52 h53
 push_cast at h50 h51 h52 h53
 simp -implicitDefEqProofs +contextual (disch := omega) [z_aq.spec, z_aq, aluM, aluD, inS, putS, z_eg, z_ec, h1, h2, h3, h4, h50, h51, h52, h53]
theorem ralu1 (s : StM) (d : Nat) (hd : d < 8) (a b : BitVec 32) : z_aq.spec [.agg s.cells, .int .i64 1, .int .i64 d, W32 a, W32 b] = some (.agg (inS (aluM s 1 a b) (aluD 1 d)).cells) := by
 have h1 := fun w => z_cm s w (some d) hd
 have h2 := fun w => z_cm s w none trivial
 have h3 := fun a b c => z_cn s a b c (some d) hd
 have h4 := fun a b c => z_cn s a b c none trivial
 have h50 := fun a b => z_ao s 0 (by omega) a b (some d) hd
 have h51 := fun a b => z_ao s 1 (by omega) a b (some d) hd
 have h52 := fun a b => z_ao s 2 (by omega) a b (some d) hd
 have h53 := fun a b => z_ao s 3 (by omega) a b (some d) hd
 simp only [dAV] at h1 h2 h3 h4 h50 h51 h52 h53
 push_cast at h50 h51 h52 h53
 simp -implicitDefEqProofs +contextual (disch := omega) [z_aq.spec, z_aq, aluM, aluD, inS, putS, z_eg, z_ec, h1, h2, h3, h4, h50, h51, h52, h53]
theorem ralu2 (s : StM) (d : Nat) (hd : d < 8) (a b : BitVec 32) : z_aq.spec [.agg s.cells, .int .i64 2, .int .i64 d, W32 a, W32 b] = some (.agg (inS (aluM s 2 a b) (aluD 2 d)).cells) := by
 have h1 := fun w => z_cm s w (some d) hd
 have h2 := fun w => z_cm s w none trivial
 have h3 := fun a b c => z_cn s a b c (some d) hd
 have h4 := fun a b c => z_cn s a b c none trivial
 have h50 := fun a b => z_ao s 0 (by omega) a b (some d) hd
 have h51 := fun a b => z_ao s 1 (by omega) a b (some d) hd
 have h52 := fun a b => z_ao s 2 (by omega) a b (some d) hd
 have h53 := fun a b => z_ao s 3 (by omega) a b (some d) hd
 simp only [dAV] at h1 h2 h3 h4 h50 h51 h52 h53
 push_cast at h50 h51 h52 h53
 simp -implicitDefEqProofs +contextual (disch := omega) [z_aq.spec, z_aq, aluM, aluD, inS, putS, z_eg, z_ec, h1, h2, h3, h4, h50, h51, h52, h53]
theorem ralu3 (s : StM) (d : Nat) (hd : d < 8) (a b : BitVec 32) : z_aq.spec [.agg s.cells, .int .i64 3, .int .i64 d, W32 a, W32 b] = some (.agg (inS (aluM s 3 a b) (aluD 3 d)).cells) := by
 have h1 := fun w => z_cm s w (some d) hd
 have h2 := fun w => z_cm s w none trivial
 have h3 := fun a b c => z_cn s a b c (some d) hd
 have h4 := fun a b c => z_cn s a b c none trivial
 have h50 := fun a b => z_ao s 0 (by omega) a b (some d) hd
 have h51 := fun a b => z_ao s 1 (by omega) a b (some d) hd
 have h52 := fun a b => z_ao s 2 (by omega) a b (some d) hd
 have h53 := fun a b => z_ao s 3 (by omega) a b (some d) hd
 simp only [dAV] at h1 h2 h3 h4 h50 h51 h52 h53
 push_cast at h50 h51 h52 h53
 simp -implicitDefEqProofs +contextual (disch := omega) [z_aq.spec, z_aq, aluM, aluD, inS, putS, z_eg, z_ec, h1, h2, h3, h4, h50, h51, h52, h53]
theorem ralu4 (s : StM) (d : Nat) (hd : d < 8) (a b : BitVec 32) : z_aq.spec [.agg s.cells, .int .i64 4, .int .i64 d, W32 a, W32 b] = some (.agg (inS (aluM s 4 a b) (aluD 4 d)).cells) := by
 have h1 := fun w => z_cm s w (some d) hd
 have h2 := fun w => z_cm s w none trivial
 have h3 := fun a b c => z_cn s a b c (some d) hd
 have h4 := fun a b c => z_cn s a b c none trivial
 have h50 := fun a b => z_ao s 0 (by omega) a b (some d) hd
 have h51 := fun a b => z_ao s 1 (by omega) a b (some d) hd
 have h52 := fun a b => z_ao s 2 (by omega) a b (some d) hd
 have h53 := fun a b => z_ao s 3 (by omega) a b (some d) hd
 simp only [dAV] at h1 h2 h3 h4 h50 h51 h52 h53
 push_cast at h50 h51 h52 h53
 simp -implicitDefEqProofs +contextual (disch := omega) [z_aq.spec, z_aq, aluM, aluD, inS, putS, z_eg, z_ec, h1, h2, h3, h4, h50, h51, h52, h53]
theorem ralu5 (s : StM) (d : Nat) (hd : d < 8) (a b : BitVec 32) : z_aq.spec [.agg s.cells, .int .i64 5, .int .i64 d, W32 a, W32 b] = some (.agg (inS (aluM s 5 a b) (aluD 5 d)).cells) := by
 have h1 := fun w => z_cm s w (some d) hd
 have h2 := fun w => z_cm s w none trivial
 have h3 := fun a b c => z_cn s a b c (some d) hd
 have h4 := fun a b c => z_cn s a b c none trivial
 have h50 := fun a b => z_ao s 0 (by omega) a b (some d) hd
 have h51 := fun a b => z_ao s 1 (by omega) a b (some d) hd
 have h52 := fun a b => z_ao s 2 (by omega) a b (some d) hd
 have h53 := fun a b => z_ao s 3 (by omega) a b (some d) hd
 simp only [dAV] at h1 h2 h3 h4 h50 h51 h52 h53
 push_cast at h50 h51 h52 h53
 simp -implicitDefEqProofs +contextual (disch := omega) [z_aq.spec, z_aq, aluM, aluD, inS, putS, z_eg, z_ec, h1, h2, h3, h4, h50, h51, h52, h53]
theorem ralu6 (s : StM) (d : Nat) (hd : d < 8) (a b : BitVec 32) : z_aq.spec [.agg s.cells, .int .i64 6, .int .i64 d, W32 a, W32 b] = some (.agg (inS (aluM s 6 a b) (aluD 6 d)).cells) := by
 have h1 := fun w => z_cm s w (some d) hd
 have h2 := fun w => z_cm s w none trivial
 have h3 := fun a b c => z_cn s a b c (some d) hd
 have h4 := fun a b c => z_cn s a b c none trivial
 have h50 := fun a b => z_ao s 0 (by omega) a b (some d) hd
 have h51 := fun a b => z_ao s 1 (by omega) a b (some d) hd
 have h52 := fun a b => z_ao s 2 (by omega) a b (some d) hd
 have h53 := fun a b => z_ao s 3 (by omega) a b (some d) hd
 simp only [dAV] at h1 h2 h3 h4 h50 h51 h52 h53
 push_cast at h50 h51 h52 h53
 simp -implicitDefEqProofs +contextual (disch := omega) [z_aq.spec, z_aq, aluM, aluD, inS, putS, z_eg, z_ec, h1, h2, h3, h4, h50, h51, h52, h53]
theorem ralu7 (s : StM) (d : Nat) (hd : d < 8) (a b : BitVec 32) : z_aq.spec [.agg s.cells, .int .i64 7, .int .i64 d, W32 a, W32 b] = some (.agg (inS (aluM s 7 a b) (aluD 7 d)).cells) := by
 have h1 := fun w => z_cm s w (some d) hd
 have h2 := fun w => z_cm s w none trivial
 have h3 := fun a b c => z_cn s a b c (some d) hd
 have h4 := fun a b c => z_cn s a b c none trivial
 have h50 := fun a b => z_ao s 0 (by omega) a b (some d) hd
 have h51 := fun a b => z_ao s 1 (by omega) a b (some d) hd
 have h52 := fun a b => z_ao s 2 (by omega) a b (some d) hd
 have h53 := fun a b => z_ao s 3 (by omega) a b (some d) hd
 simp only [dAV] at h1 h2 h3 h4 h50 h51 h52 h53
 push_cast at h50 h51 h52 h53
 simp -implicitDefEqProofs +contextual (disch := omega) [z_aq.spec, z_aq, aluM, aluD, inS, putS, z_eg, z_ec, h1, h2, h3, h4, h50, h51, h52, h53]
theorem ralu8 (s : StM) (d : Nat) (hd : d < 8) (a b : BitVec 32) : z_aq.spec [.agg s.cells, .int .i64 8, .int .i64 d, W32 a, W32 b] = some (.agg (inS (aluM s 8 a b) (aluD 8 d)).cells) := by
 have h1 := fun w => z_cm s w (some d) hd
 have h2 := fun w => z_cm s w none trivial
 have h3 := fun a b c => z_cn s a b c (some d) hd
 have h4 := fun a b c => z_cn s a b c none trivial
 have h50 := fun a b => z_ao s 0 (by omega) a b (some d) hd
 have h51 := fun a b => z_ao s 1 (by omega) a b (some d) hd
 have h52 := fun a b => z_ao s 2 (by omega) a b (some d) hd
 have h53 := fun a b => z_ao s 3 (by omega) a b (some d) hd
 simp only [dAV] at h1 h2 h3 h4 h50 h51 h52 h53
 push_cast at h50 h51 h52 h53
 simp -implicitDefEqProofs +contextual (disch := omega) [z_aq.spec, z_aq, aluM, aluD, inS, putS, z_eg, z_ec, h1, h2, h3, h4, h50, h51, h52, h53]
theorem ralu9 (s : StM) (d : Nat) (hd : d < 8) (a b : BitVec 32) : z_aq.spec [.agg s.cells, .int .i64 9, .int .i64 d, W32 a, W32 b] = some (.agg (inS (aluM s 9 a b) (aluD 9 d)).cells) := by
 have h1 := fun w => z_cm s w (some d) hd
 have h2 := fun w => z_cm s w none trivial
 have h3 := fun a b c => z_cn s a b c (some d) hd
 have h4 := fun a b c => z_cn s a b c none trivial
 have h50 := fun a b => z_ao s 0 (by omega) a b (some d) hd
 have h51 := fun a b => z_ao s 1 (by omega) a b (some d) hd
 have h52 := fun a b => z_ao s 2 (by omega) a b (some d) hd
 have h53 := fun a b => z_ao s 3 (by omega) a b (some d) hd
 simp only [dAV] at h1 h2 h3 h4 h50 h51 h52 h53
 push_cast at h50 h51 h52 h53
 simp -implicitDefEqProofs +contextual (disch := omega) [z_aq.spec, z_aq, aluM, aluD, inS, putS, z_eg, z_ec, h1, h2, h3, h4, h50, h51, h52, h53]
theorem ralu10 (s : StM) (d : Nat) (hd : d < 8) (a b : BitVec 32) : z_aq.spec [.agg s.cells, .int .i64 10, .int .i64 d, W32 a, W32 b] = some (.agg (inS (aluM s 10 a b) (aluD 10 d)).cells) := by
 have h1 := fun w => z_cm s w (some d) hd
 have h2 := fun w => z_cm s w none trivial
 have h3 := fun a b c => z_cn s a b c (some d) hd
 have h4 := fun a b c => z_cn s a b c none trivial
 have h50 := fun a b => z_ao s 0 (by omega) a b (some d) hd
 have h51 := fun a b => z_ao s 1 (by omega) a b (some d) hd
 have h52 := fun a b => z_ao s 2 (by omega) a b (some d) hd
 have h53 := fun a b => z_ao s 3 (by omega) a b (some d) hd
 simp only [dAV] at h1 h2 h3 h4 h50 h51 h52 h53
 push_cast at h50 h51 h52 h53
 simp -implicitDefEqProofs +contextual (disch := omega) [z_aq.spec, z_aq, aluM, aluD, inS, putS, z_eg, z_ec, h1, h2, h3, h4, h50, h51, h52, h53]
theorem ralu11 (s : StM) (d : Nat) (hd : d < 8) (a b : BitVec 32) : z_aq.spec [.agg s.cells, .int .i64 11, .int .i64 d, W32 a, W32 b] = some (.agg (inS (aluM s 11 a b) (aluD 11 d)).cells) := by
 have h1 := fun w => z_cm s w (some d) hd
 have h2 := fun w => z_cm s w none trivial
 have h3 := fun a b c => z_cn s a b c (some d) hd
 have h4 := fun a b c => z_cn s a b c none trivial
 have h50 := fun a b => z_ao s 0 (by omega) a b (some d) hd
 have h51 := fun a b => z_ao s 1 (by omega) a b (some d) hd
 have h52 := fun a b => z_ao s 2 (by omega) a b (some d) hd
 have h53 := fun a b => z_ao s 3 (by omega) a b (some d) hd
 simp only [dAV] at h1 h2 h3 h4 h50 h51 h52 h53
 push_cast at h50 h51 h52 h53
 simp -implicitDefEqProofs +contextual (disch := omega) [z_aq.spec, z_aq, aluM, aluD, inS, putS, z_eg, z_ec, h1, h2, h3, h4, h50, h51, h52, h53]
theorem ralu12 (s : StM) (d : Nat) (hd : d < 8) (a b : BitVec 32) : z_aq.spec [.agg s.cells, .int .i64 12, .int .i64 d, W32 a, W32 b] = some (.agg (inS (aluM s 12 a b) (aluD 12 d)).cells) := by
 have h1 := fun w => z_cm s w (some d) hd
 have h2 := fun w => z_cm s w none trivial
 have h3 := fun a b c => z_cn s a b c (some d) hd
 have h4 := fun a b c => z_cn s a b c none trivial
 have h50 := fun a b => z_ao s 0 (by omega) a b (some d) hd
 have h51 := fun a b => z_ao s 1 (by omega) a b (some d) hd
 have h52 := fun a b => z_ao s 2 (by omega) a b (some d) hd
 have h53 := fun a b => z_ao s 3 (by omega) a b (some d) hd
 simp only [dAV] at h1 h2 h3 h4 h50 h51 h52 h53
 push_cast at h50 h51 h52 h53
 simp -implicitDefEqProofs +contextual (disch := omega) [z_aq.spec, z_aq, aluM, aluD, inS, putS, z_eg, z_ec, h1, h2, h3, h4, h50, h51, h52, h53]
theorem ralu13 (s : StM) (d : Nat) (hd : d < 8) (a b : BitVec 32) : z_aq.spec [.agg s.cells, .int .i64 13, .int .i64 d, W32 a, W32 b] = some (.agg (inS (aluM s 13 a b) (aluD 13 d)).cells) := by
 have h1 := fun w => z_cm s w (some d) hd
 have h2 := fun w => z_cm s w none trivial
 have h3 := fun a b c => z_cn s a b c (some d) hd
 have h4 := fun a b c => z_cn s a b c none trivial
 have h50 := fun a b => z_ao s 0 (by omega) a b (some d) hd
 have h51 := fun a b => z_ao s 1 (by omega) a b (some d) hd
 have h52 := fun a b => z_ao s 2 (by omega) a b (some d) hd
 have h53 := fun a b => z_ao s 3 (by omega) a b (some d) hd
 simp only [dAV] at h1 h2 h3 h4 h50 h51 h52 h53
 push_cast at h50 h51 h52 h53
 simp -implicitDefEqProofs +contextual (disch := omega) [z_aq.spec, z_aq, aluM, aluD, inS, putS, z_eg, z_ec, h1, h2, h3, h4, h50, h51, h52, h53]
theorem ralu14 (s : StM) (d : Nat) (hd : d < 8) (a b : BitVec 32) : z_aq.spec [.agg s.cells, .int .i64 14, .int .i64 d, W32 a, W32 b] = some (.agg (inS (aluM s 14 a b) (aluD 14 d)).cells) := by
 have h1 := fun w => z_cm s w (some d) hd
 have h2 := fun w => z_cm s w none trivial
 have h3 := fun a b c => z_cn s a b c (some d) hd
 have h4 := fun a b c => z_cn s a b c none trivial
 have h50 := fun a b => z_ao s 0 (by omega) a b (some d) hd
 have h51 := fun a b => z_ao s 1 (by omega) a b (some d) hd
 have h52 := fun a b => z_ao s 2 (by omega) a b (some d) hd
 have h53 := fun a b => z_ao s 3 (by omega) a b (some d) hd
 simp only [dAV] at h1 h2 h3 h4 h50 h51 h52 h53
 push_cast at h50 h51 h52 h53
 simp -implicitDefEqProofs +contextual (disch := omega) [z_aq.spec, z_aq, aluM, aluD, inS, putS, z_eg, z_ec, h1, h2, h3, h4, h50, h51, h52, h53]
theorem ralu15 (s : StM) (d : Nat) (hd : d < 8) (a b : BitVec 32) : z_aq.spec [.agg s.cells, .int .i64 15, .int .i64 d, W32 a, W32 b] = some (.agg (inS (aluM s 15 a b) (aluD 15 d)).cells) := by
 have h1 := fun w => z_cm s w (some d) hd
 have h2 := fun w => z_cm s w none trivial
 have h3 := fun a b c => z_cn s a b c (some d) hd
 have h4 := fun a b c => z_cn s a b c none trivial
 have h50 := fun a b => z_ao s 0 (by omega) a b (some d) hd
 have h51 := fun a b => z_ao s 1 (by omega) a b (some d) hd
 have h52 := fun a b => z_ao s 2 (by omega) a b (some d) hd
 have h53 := fun a b => z_ao s 3 (by omega) a b (some d) hd
 simp only [dAV] at h1 h2 h3 h4 h50 h51 h52 h53
 push_cast at h50 h51 h52 h53
 simp -implicitDefEqProofs +contextual (disch := omega) [z_aq.spec, z_aq, aluM, aluD, inS, putS, z_eg, z_ec, h1, h2, h3, h4, h50, h51, h52, h53]
end Go.Abs
end
section
namespace Go.Abs
open Th
theorem z_oe (x : BitVec 32) (y : BitVec 32) : x + y + y = x + 2#32 * y := by
 rw [BitVec.add_assoc]; congr 1
 apply BitVec.eq_of_toNat_eq
 rw [BitVec.toNat_add, BitVec.toNat_mul]; simp; omega
theorem down4 (x : BitVec 32) : x / 4#32 * 4#32 = x &&& 4294967292#32 := by
 have h : x &&& 4294967292#32 = (x >>> 2) <<< 2 := by
  apply BitVec.eq_of_getLsbD_eq
  intro i hi
  have h1 : ∀ i : Fin 32, (4294967292#32).getLsbD i.val = decide (2 ≤ i.val) := by decide
  have h2 := h1 ⟨i, hi⟩
  simp only at h2
  rw [BitVec.getLsbD_and, h2, BitVec.getLsbD_shiftLeft, BitVec.getLsbD_ushiftRight]
  by_cases e : 2 ≤ i
  ·have e2 : ¬ i < 2 := by omega
   rw [show 2 + (i - 2) = i from by omega]
   simp [e, e2, hi]
  ·have e2 : i < 2 := by omega
   simp [e, e2]
 rw [h]
 apply BitVec.eq_of_toNat_eq
 have := x.isLt
 rw [BitVec.toNat_mul, BitVec.toNat_udiv, BitVec.toNat_shiftLeft, BitVec.toNat_ushiftRight, Nat.shiftLeft_eq, Nat.shiftRight_eq_div_pow]; rfl
theorem loads_keep' (m : MemM) (a : BitVec 32) : (m.loads a).2.code = m.code ∧ (m.loads a).2.tape = m.tape ∧ (m.loads a).2.words = m.words := by
 unfold MemM.loads MemM.load; dsimp only; repeat' split
 all_goals simp
theorem store_keep' (m : MemM) (a x : BitVec 32) : (m.store a x).2.code = m.code ∧ (m.store a x).2.tape = m.tape ∧ (m.store a x).2.words.length = m.words.length := by
 unfold MemM.store; split <;> simp
theorem z_yb (k : Nat) (hk : k ≤ 15) (s : StM) (d : Nat) (hd : d < 8) (a b : BitVec 32) : z_aq.spec [.agg s.cells, .int .i64 k, .int .i64 d, W32 a, W32 b] = some (.agg (inS (aluM s k a b) (aluD k d)).cells) := by
 match k, hk with
 | 0, _ => exact ralu0 s d hd a b
 | 1, _ => exact ralu1 s d hd a b
 | 2, _ => exact ralu2 s d hd a b
 | 3, _ => exact ralu3 s d hd a b
 | 4, _ => exact ralu4 s d hd a b
 | 5, _ => exact ralu5 s d hd a b
 | 6, _ => exact ralu6 s d hd a b
 | 7, _ => exact ralu7 s d hd a b
 | 8, _ => exact ralu8 s d hd a b
 | 9, _ => exact ralu9 s d hd a b
 | 10, _ => exact ralu10 s d hd a b
 | 11, _ => exact ralu11 s d hd a b
 | 12, _ => exact ralu12 s d hd a b
 | 13, _ => exact ralu13 s d hd a b
 | 14, _ => exact ralu14 s d hd a b
 | 15, _ => exact ralu15 s d hd a b
structure RCtx (B : Hp) (b cb wb tb : Nat) (m : MemM) : Prop where
 wf : B.WF
 fix : RFix B b cb wb tb m
 ok : m.Ok
theorem rL {B B' : Hp} {b cb wb tb : Nat} {m : MemM} (h : RCtx B b cb wb tb m) (h1 : B'.WF) (h2 : B.next ≤ B'.next) (h3 : ∀ c, c < B.next → B'.get c = B.get c) (a : BitVec 32) : z_av.spec [.ptr b 5 0 0, W32 a] (B'.rmem b cb wb tb m) = some (.tup [W32 (m.loads a).1.1, .int .i64 (m.loads a).1.2], B'.rmem b cb wb tb (m.loads a).2) :=
 z_vk B' b cb wb tb m h1 (h.fix.more h.wf h2 h3 rfl rfl) a h.ok
theorem rS {B B' : Hp} {b cb wb tb : Nat} {m : MemM} (h : RCtx B b cb wb tb m) (h1 : B'.WF) (h2 : B.next ≤ B'.next) (h3 : ∀ c, c < B.next → B'.get c = B.get c) (a x : BitVec 32) : z_a9.spec [.ptr b 5 0 0, W32 a, W32 x] (B'.rmem b cb wb tb m) = some (.int .i64 (m.store a x).1, B'.rmem b cb wb tb (m.store a x).2) :=
 z_sq B' b cb wb tb m h1 (h.fix.more h.wf h2 h3 rfl rfl) a x h.ok
theorem rF {B B' : Hp} {b cb wb tb : Nat} {m : MemM} (h : RCtx B b cb wb tb m) (h1 : B'.WF) (h2 : B.next ≤ B'.next) (h3 : ∀ c, c < B.next → B'.get c = B.get c) (a : BitVec 32) : z_a1.spec [.ptr b 5 0 0, W32 a] (B'.rmem b cb wb tb m) = some (.tup [W16 (m.fetch a).1, .int .i64 (m.fetch a).2], B'.rmem b cb wb tb m) :=
 z_ss B' b cb wb tb m h1 (h.fix.more h.wf h2 h3 rfl rfl) a h.ok
theorem z_se (k : Nat) (hk : k = 0 ∨ k = 1 ∨ k = 2 ∨ k = 3 ∨ k = 4 ∨ k = 5 ∨ k = 6 ∨ k = 7 ∨ k = 8 ∨ k = 9 ∨ k = 10) (B : Hp) (b cb wb tb : Nat) (m : MemM) (hx : RCtx B b cb wb tb m) (s : StM) (D N M : Nat) (hD : D < 8) (hN : N < 8) (hM : M < 8) (imm : Int) (hc : (InsM.mk (k : Nat) D N M imm).can = true) (h : BitVec 16) (hf : m.fetch s.pc = (h, 0)) (ht : takeN h.toNat = (⟨(k : Nat), D, N, M, imm⟩, 0)) :
  z_aw.spec [.agg s.cells, .ptr b 5 0 0] (B.rmem b cb wb tb m) = some (DidAV (doM ⟨(k : Nat), D, N, M, imm⟩ s m), B.rmem b cb wb tb (doM ⟨(k : Nat), D, N, M, imm⟩ s m).m) := by
 have hT := z_fa h
 have hw := hx.wf; have hb := hx.fix.hb; have hwb := hx.fix.hwb
 have hF := fun B' h1 h2 h3 => rF (B' := B') hx h1 h2 h3 s.pc
 have hD8 : D % 8 < 8 := Nat.mod_lt _ (by omega)
 have hd8i : D < 8 → ((D : Int) % 8).toNat = D := fun _ => by omega
 rw [hf] at hF
 rw [ht] at hT
 clear ht
 simp only [InsAV] at hT
 unfold DidAV
 have h1 := fun w => z_cm s w (some D) hD
 have h3 := fun a b c => z_cn s a b c (some D) hD
 have h4 := fun a b c => z_cn s a b c none trivial
 have h50 := fun a b => z_ao s 0 (by omega) a b (some D) hD
 have h51 := fun a b => z_ao s 1 (by omega) a b (some D) hD
 have h52 := fun a b => z_ao s 2 (by omega) a b (some D) hD
 simp only [dAV] at h1 h3 h4 h50 h51 h52
 push_cast at h50 h51 h52
 have hd8 : D % 8 = D := Nat.mod_eq_of_lt hD
 obtain rfl | rfl | rfl | rfl | rfl | rfl | rfl | rfl | rfl | rfl | rfl := hk
 all_goals
  push_cast at hT hc ⊢
  simp only [doM, Int.toNat_natCast, Int.reduceToNat, z_ef, hc, if_true]
  simp -implicitDefEqProofs +contextual (disch := try first | omega | assumption | (simp only [Hp.next_set, Hp.next_push]; omega) | ((repeat' (first | assumption | with_reducible apply Hp.WF.push | with_reducible apply Hp.WF.set)) <;> first | omega | (simp only [Hp.next_set, Hp.next_push]; omega)) | (intro c hc; simp (disch := omega); done)) [z_aw.spec, z_aw, hT, hF, z_ct, z_dg, z_c4, z_dx, hD8, hd8i, h1, h3, h4, h50, h51, h52, hd8, z_ec, reckM, immW, inS, putS]
  refine z_dy hw hx.fix rfl ?_ ?_ ?_ ?_ ?_
  ·simp; omega
  ·intro c hc
   simp (disch := omega)
  ·rfl
  ·rfl
  ·simp [mkRes]
theorem z_sf (k : Nat) (hk : k = 11) (B : Hp) (b cb wb tb : Nat) (m : MemM) (hx : RCtx B b cb wb tb m) (s : StM) (D N M : Nat) (hD : D < 8) (hN : N < 8) (hM : M < 8) (imm : Int) (hi : 0 ≤ imm ∧ imm ≤ 15) (hc : (InsM.mk (k : Nat) D N M imm).can = true) (h : BitVec 16) (hf : m.fetch s.pc = (h, 0)) (ht : takeN h.toNat = (⟨(k : Nat), D, N, M, imm⟩, 0)) :
  z_aw.spec [.agg s.cells, .ptr b 5 0 0] (B.rmem b cb wb tb m) = some (DidAV (doM ⟨(k : Nat), D, N, M, imm⟩ s m), B.rmem b cb wb tb (doM ⟨(k : Nat), D, N, M, imm⟩ s m).m) := by
 have hT := z_fa h
 have hw := hx.wf; have hb := hx.fix.hb; have hwb := hx.fix.hwb
 have hF := fun B' h1 h2 h3 => rF (B' := B') hx h1 h2 h3 s.pc
 have hD8 : D % 8 < 8 := Nat.mod_lt _ (by omega)
 have hd8i : D < 8 → ((D : Int) % 8).toNat = D := fun _ => by omega
 rw [hf] at hF
 rw [ht] at hT
 clear ht
 simp only [InsAV] at hT
 unfold DidAV
 have hd8 : D % 8 = D := Nat.mod_eq_of_lt hD
 subst hk
 push_cast at hT hc ⊢
 simp only [doM, Int.toNat_natCast, Int.reduceToNat, z_ef, hc, if_true]
 obtain ⟨q, rfl⟩ : ∃ q : Nat, imm = q := ⟨imm.toNat, by omega⟩
 have hA := z_yb q (by omega) s D hD (s.reg D) (s.reg M)
 by_cases hq : q = 8 ∨ q = 10 ∨ q = 11
 ·have hq' : (q : Int) = 8 ∨ (q : Int) = 10 ∨ (q : Int) = 11 := by omega
  simp only [aluD, hq, if_true, inS] at hA
  simp -implicitDefEqProofs +contextual (disch := try first | omega | assumption | (simp only [Hp.next_set, Hp.next_push]; omega) | ((repeat' (first | assumption | with_reducible apply Hp.WF.push | with_reducible apply Hp.WF.set)) <;> first | omega | (simp only [Hp.next_set, Hp.next_push]; omega)) | (intro c hc; simp (disch := omega); done)) [z_aw.spec, z_aw, hT, hF, z_ct, z_dg, z_c4, z_dx, hD8, hd8i, hA, hd8, hq', reckM]
  refine z_dy hw hx.fix rfl ?_ ?_ ?_ ?_ ?_
  ·simp; omega
  ·intro c hc
   simp (disch := omega)
  ·rfl
  ·rfl
  ·simp [mkRes]
 ·have hq' : ¬ ((q : Int) = 8 ∨ (q : Int) = 10 ∨ (q : Int) = 11) := by omega
  simp only [aluD, hq, if_false, inS] at hA
  simp -implicitDefEqProofs +contextual (disch := try first | omega | assumption | (simp only [Hp.next_set, Hp.next_push]; omega) | ((repeat' (first | assumption | with_reducible apply Hp.WF.push | with_reducible apply Hp.WF.set)) <;> first | omega | (simp only [Hp.next_set, Hp.next_push]; omega)) | (intro c hc; simp (disch := omega); done)) [z_aw.spec, z_aw, hT, hF, z_ct, z_dg, z_c4, z_dx, hD8, hd8i, hA, hd8, hq', reckM]
  refine z_dy hw hx.fix rfl ?_ ?_ ?_ ?_ ?_
  ·simp; omega
  ·intro c hc
   simp (disch := omega)
  ·rfl
  ·rfl
  ·simp [mkRes]
theorem z_oo (k : Nat) (hk : k = 13 ∨ k = 15) (B : Hp) (b cb wb tb : Nat) (m : MemM) (hx : RCtx B b cb wb tb m) (s : StM) (D N M : Nat) (hD : D < 8) (hN : N < 8) (hM : M < 8) (imm : Int) (hc : (InsM.mk (k : Nat) D N M imm).can = true) (h : BitVec 16) (hf : m.fetch s.pc = (h, 0)) (ht : takeN h.toNat = (⟨(k : Nat), D, N, M, imm⟩, 0)) :
  z_aw.spec [.agg s.cells, .ptr b 5 0 0] (B.rmem b cb wb tb m) = some (DidAV (doM ⟨(k : Nat), D, N, M, imm⟩ s m), B.rmem b cb wb tb (doM ⟨(k : Nat), D, N, M, imm⟩ s m).m) := by
 have hT := z_fa h
 have hw := hx.wf; have hb := hx.fix.hb; have hwb := hx.fix.hwb
 have hF := fun B' h1 h2 h3 => rF (B' := B') hx h1 h2 h3 s.pc
 have hD8 : D % 8 < 8 := Nat.mod_lt _ (by omega)
 have hd8i : D < 8 → ((D : Int) % 8).toNat = D := fun _ => by omega
 rw [hf] at hF
 rw [ht] at hT
 clear ht
 simp only [InsAV] at hT
 unfold DidAV
 have hM := fun B' h1 h2 h3 => rS (B' := B') hx h1 h2 h3 (addrM s k N M imm) (s.reg D)
 have kp := store_keep' m (addrM s k N M imm) (s.reg D)
 have hd8 : D % 8 = D := Nat.mod_eq_of_lt hD
 obtain rfl | rfl := hk
 all_goals
  push_cast at hT hc ⊢
  simp only [doM, Int.toNat_natCast, Int.reduceToNat, moveM, Nat.reduceEqDiff, or_true, true_or, or_self, if_true]
  simp only [addrM, immW] at hM kp ⊢
  generalize hr : m.store _ (s.reg D) = r at *
  by_cases he : r.1 = 0
  ·rw [if_pos he]
   simp -implicitDefEqProofs +contextual (disch := try first | omega | assumption | (simp only [Hp.next_set, Hp.next_push]; omega) | ((repeat' (first | assumption | with_reducible apply Hp.WF.push | with_reducible apply Hp.WF.set)) <;> first | omega | (simp only [Hp.next_set, Hp.next_push]; omega)) | (intro c hc; simp (disch := omega); done)) [z_aw.spec, z_aw, hT, hF, z_ct, z_dg, z_c4, z_dx, hD8, hd8i, hM, he, hd8]
   refine z_dy hw hx.fix rfl ?_ ?_ ?_ ?_ ?_
   ·simp; omega
   ·intro c hc
    simp (disch := omega)
   ·rw [kp.2.2]
   ·rw [kp.1]
   ·simp [mkRes]
  ·rw [if_neg he]
   simp -implicitDefEqProofs +contextual (disch := try first | omega | assumption | (simp only [Hp.next_set, Hp.next_push]; omega) | ((repeat' (first | assumption | with_reducible apply Hp.WF.push | with_reducible apply Hp.WF.set)) <;> first | omega | (simp only [Hp.next_set, Hp.next_push]; omega)) | (intro c hc; simp (disch := omega); done)) [z_aw.spec, z_aw, hT, hF, z_ct, z_dg, z_c4, z_dx, hD8, hd8i, hM, he, hd8]
   refine z_dy hw hx.fix rfl ?_ ?_ ?_ ?_ ?_
   ·simp; omega
   ·intro c hc
    simp (disch := omega)
   ·rw [kp.2.2]
   ·rw [kp.1]
   ·simp [mkRes]
theorem z_qn (k : Nat) (hk : k = 12 ∨ k = 14 ∨ k = 16) (B : Hp) (b cb wb tb : Nat) (m : MemM) (hx : RCtx B b cb wb tb m) (s : StM) (D N M : Nat) (hD : D < 8) (hN : N < 8) (hM : M < 8) (imm : Int) (hc : (InsM.mk (k : Nat) D N M imm).can = true) (h : BitVec 16) (hf : m.fetch s.pc = (h, 0)) (ht : takeN h.toNat = (⟨(k : Nat), D, N, M, imm⟩, 0)) :
  z_aw.spec [.agg s.cells, .ptr b 5 0 0] (B.rmem b cb wb tb m) = some (DidAV (doM ⟨(k : Nat), D, N, M, imm⟩ s m), B.rmem b cb wb tb (doM ⟨(k : Nat), D, N, M, imm⟩ s m).m) := by
 have hT := z_fa h
 have hw := hx.wf; have hb := hx.fix.hb; have hwb := hx.fix.hwb
 have hF := fun B' h1 h2 h3 => rF (B' := B') hx h1 h2 h3 s.pc
 have hD8 : D % 8 < 8 := Nat.mod_lt _ (by omega)
 have hd8i : D < 8 → ((D : Int) % 8).toNat = D := fun _ => by omega
 rw [hf] at hF
 rw [ht] at hT
 clear ht
 simp only [InsAV] at hT
 unfold DidAV
 have hM := fun B' h1 h2 h3 => rL (B' := B') hx h1 h2 h3 (addrM s k N M imm)
 have kp := loads_keep' m (addrM s k N M imm)
 obtain rfl | rfl | rfl := hk
 all_goals
  push_cast at hT hc ⊢
  simp only [doM, Int.toNat_natCast, Int.reduceToNat, moveM, Nat.reduceEqDiff, or_self, if_false]
  simp only [addrM, immW] at hM kp ⊢
  try rw [show ~~~3#32 = 4294967292#32 from by decide] at *
  generalize hr : m.loads _ = r at *
  by_cases he : r.1.2 = 0
  ·rw [if_pos he]
   simp -implicitDefEqProofs +contextual (disch := try first | omega | assumption | (simp only [Hp.next_set, Hp.next_push]; omega) | ((repeat' (first | assumption | with_reducible apply Hp.WF.push | with_reducible apply Hp.WF.set)) <;> first | omega | (simp only [Hp.next_set, Hp.next_push]; omega)) | (intro c hc; simp (disch := omega); done)) [z_aw.spec, z_aw, hT, hF, z_ct, z_dg, z_c4, z_dx, hD8, hd8i, hM, he, down4]
   refine z_dy hw hx.fix rfl ?_ ?_ ?_ ?_ ?_
   ·simp; omega
   ·intro c hc
    simp (disch := omega)
   ·rw [kp.2.2]
   ·rw [kp.1]
   ·simp [mkRes]
  ·rw [if_neg he]
   simp -implicitDefEqProofs +contextual (disch := try first | omega | assumption | (simp only [Hp.next_set, Hp.next_push]; omega) | ((repeat' (first | assumption | with_reducible apply Hp.WF.push | with_reducible apply Hp.WF.set)) <;> first | omega | (simp only [Hp.next_set, Hp.next_push]; omega)) | (intro c hc; simp (disch := omega); done)) [z_aw.spec, z_aw, hT, hF, z_ct, z_dg, z_c4, z_dx, hD8, hd8i, hM, he, down4]
   refine z_dy hw hx.fix rfl ?_ ?_ ?_ ?_ ?_
   ·simp; omega
   ·intro c hc
    simp (disch := omega)
   ·rw [kp.2.2]
   ·rw [kp.1]
   ·simp [mkRes]
theorem z_qo (k : Nat) (hk : k = 17 ∨ k = 19 ∨ k = 20) (B : Hp) (b cb wb tb : Nat) (m : MemM) (hx : RCtx B b cb wb tb m) (s : StM) (D N M : Nat) (hD : D < 8) (hN : N < 8) (hM : M < 8) (imm : Int) (hc : (InsM.mk (k : Nat) D N M imm).can = true) (h : BitVec 16) (hf : m.fetch s.pc = (h, 0)) (ht : takeN h.toNat = (⟨(k : Nat), D, N, M, imm⟩, 0)) :
  z_aw.spec [.agg s.cells, .ptr b 5 0 0] (B.rmem b cb wb tb m) = some (DidAV (doM ⟨(k : Nat), D, N, M, imm⟩ s m), B.rmem b cb wb tb (doM ⟨(k : Nat), D, N, M, imm⟩ s m).m) := by
 have hT := z_fa h
 have hw := hx.wf; have hb := hx.fix.hb; have hwb := hx.fix.hwb
 have hF := fun B' h1 h2 h3 => rF (B' := B') hx h1 h2 h3 s.pc
 have hD8 : D % 8 < 8 := Nat.mod_lt _ (by omega)
 have hd8i : D < 8 → ((D : Int) % 8).toNat = D := fun _ => by omega
 rw [hf] at hF
 rw [ht] at hT
 clear ht
 simp only [InsAV] at hT
 unfold DidAV
 obtain rfl | rfl | rfl := hk
 all_goals
  push_cast at hT hc ⊢
  simp only [doM, Int.toNat_natCast, Int.reduceToNat]
  simp -implicitDefEqProofs +contextual (disch := try first | omega | assumption | (simp only [Hp.next_set, Hp.next_push]; omega) | ((repeat' (first | assumption | with_reducible apply Hp.WF.push | with_reducible apply Hp.WF.set)) <;> first | omega | (simp only [Hp.next_set, Hp.next_push]; omega)) | (intro c hc; simp (disch := omega); done)) [z_aw.spec, z_aw, hT, hF, z_ct, z_dg, z_c4, z_dx, hD8, hd8i, immW, z_oe]
  refine z_dy hw hx.fix rfl ?_ ?_ ?_ ?_ ?_
  ·simp; omega
  ·intro c hc
   simp (disch := omega)
  ·rfl
  ·rfl
  ·simp [mkRes]
theorem z_ve (k : Nat) (hk : k = 18) (B : Hp) (b cb wb tb : Nat) (m : MemM) (hx : RCtx B b cb wb tb m) (s : StM) (D N M : Nat) (hD : D < 14) (hN : N < 8) (hM : M < 8) (imm : Int) (hc : (InsM.mk (k : Nat) D N M imm).can = true) (h : BitVec 16) (hf : m.fetch s.pc = (h, 0)) (ht : takeN h.toNat = (⟨(k : Nat), D, N, M, imm⟩, 0)) :
  z_aw.spec [.agg s.cells, .ptr b 5 0 0] (B.rmem b cb wb tb m) = some (DidAV (doM ⟨(k : Nat), D, N, M, imm⟩ s m), B.rmem b cb wb tb (doM ⟨(k : Nat), D, N, M, imm⟩ s m).m) := by
 have hT := z_fa h
 have hw := hx.wf; have hb := hx.fix.hb; have hwb := hx.fix.hwb
 have hF := fun B' h1 h2 h3 => rF (B' := B') hx h1 h2 h3 s.pc
 have hD8 : D % 8 < 8 := Nat.mod_lt _ (by omega)
 have hd8i : D < 8 → ((D : Int) % 8).toNat = D := fun _ => by omega
 rw [hf] at hF
 rw [ht] at hT
 clear ht
 simp only [InsAV] at hT
 unfold DidAV
 have hH := z_sm D (by omega) s
 subst hk
 push_cast at hT hc ⊢
 simp only [doM, Int.toNat_natCast, Int.reduceToNat]
 by_cases he : z_e3 D s = true
 ·rw [if_pos he]
  simp -implicitDefEqProofs +contextual (disch := try first | omega | assumption | (simp only [Hp.next_set, Hp.next_push]; omega) | ((repeat' (first | assumption | with_reducible apply Hp.WF.push | with_reducible apply Hp.WF.set)) <;> first | omega | (simp only [Hp.next_set, Hp.next_push]; omega)) | (intro c hc; simp (disch := omega); done)) [z_aw.spec, z_aw, hT, hF, z_ct, z_dg, z_c4, z_dx, hD8, hd8i, immW, z_oe, hH, he]
  refine z_dy hw hx.fix rfl ?_ ?_ ?_ ?_ ?_
  ·simp; omega
  ·intro c hc
   simp (disch := omega)
  ·rfl
  ·rfl
  ·simp [mkRes]
 ·rw [if_neg he]
  simp -implicitDefEqProofs +contextual (disch := try first | omega | assumption | (simp only [Hp.next_set, Hp.next_push]; omega) | ((repeat' (first | assumption | with_reducible apply Hp.WF.push | with_reducible apply Hp.WF.set)) <;> first | omega | (simp only [Hp.next_set, Hp.next_push]; omega)) | (intro c hc; simp (disch := omega); done)) [z_aw.spec, z_aw, hT, hF, z_ct, z_dg, z_c4, z_dx, hD8, hd8i, immW, z_oe, hH, he]
  refine z_dy hw hx.fix rfl ?_ ?_ ?_ ?_ ?_
  ·simp; omega
  ·intro c hc
   simp (disch := omega)
  ·rfl
  ·rfl
  ·simp [mkRes]
end Go.Abs
end
end
section
section
namespace Go.Abs
open Th
theorem z_vj (B : Hp) (b cb wb tb : Nat) (m : MemM) (hx : RCtx B b cb wb tb m) (s : StM) (i : InsM) (hc : i.can = true) (h : BitVec 16) (hf : m.fetch s.pc = (h, 0)) (ht : takeN h.toNat = (i, 0)) :
  z_aw.spec [.agg s.cells, .ptr b 5 0 0] (B.rmem b cb wb tb m) = some (DidAV (doM i s m), B.rmem b cb wb tb (doM i s m).m) := by
 obtain ⟨k, D, N, M, he, h1, h2, h3, h4, h5, h6⟩ := z_no i hc
 generalize i.imm = imm at he h6
 subst he
 by_cases e : k = 18
 ·exact z_ve k e B b cb wb tb m hx s D N M h3 h4 h5 imm hc h hf ht
 ·by_cases e1 : k ≤ 10
  ·exact z_se k (by omega) B b cb wb tb m hx s D N M (h2 e) h4 h5 imm hc h hf ht
  ·by_cases e2 : k = 11
   ·exact z_sf k e2 B b cb wb tb m hx s D N M (h2 e) h4 h5 imm (h6 e2) hc h hf ht
   ·by_cases e3 : k = 13 ∨ k = 15
    ·exact z_oo k e3 B b cb wb tb m hx s D N M (h2 e) h4 h5 imm hc h hf ht
    ·by_cases e4 : k ≤ 16
     ·exact z_qn k (by omega) B b cb wb tb m hx s D N M (h2 e) h4 h5 imm hc h hf ht
     ·exact z_qo k (by omega) B b cb wb tb m hx s D N M (h2 e) h4 h5 imm hc h hf ht
theorem z_vi (B : Hp) (b cb wb tb : Nat) (m : MemM) (hx : RCtx B b cb wb tb m) (s : StM) :
  z_aw.spec [.agg s.cells, .ptr b 5 0 0] (B.rmem b cb wb tb m) = some (DidAV (stepM s m), B.rmem b cb wb tb (stepM s m).m) := by
 have hw := hx.wf; have hb := hx.fix.hb; have hwb := hx.fix.hwb
 have hF := fun B' h1 h2 h3 => rF (B' := B') hx h1 h2 h3 s.pc
 rcases z_p5 m s.pc with hf | hf
 ·have hT := z_fa (m.fetch s.pc).1
  rcases z_lm (m.fetch s.pc).1.toNat with ⟨i, hc, hp, ht⟩ | ht
  ·unfold stepM
   rw [ht, if_pos (by rw [hf]), if_pos rfl]
   exact z_vj B b cb wb tb m hx s i hc _ hf ht
  ·unfold stepM DidAV
   rw [if_pos (by rw [hf]), ht, if_neg (by simp)]
   rw [ht] at hT
   have hf2 : (m.fetch s.pc).2 = 0 := by rw [hf]
   simp only [InsAV, InsM.zero] at hT
   simp -implicitDefEqProofs +contextual (disch := try first | omega | assumption | (simp only [Hp.next_set, Hp.next_push]; omega) | ((repeat' (first | assumption | with_reducible apply Hp.WF.push | with_reducible apply Hp.WF.set)) <;> first | omega | (simp only [Hp.next_set, Hp.next_push]; omega)) | (intro c hc; simp (disch := omega); done)) [z_aw.spec, z_aw, hT, hF, hf2, z_ct, z_dg, z_c4, z_dx]
   refine z_dy hw hx.fix rfl ?_ ?_ ?_ ?_ ?_
   ·simp; omega
   ·intro c hc
    simp (disch := omega)
   ·rfl
   ·rfl
   ·simp [mkRes]
 ·unfold stepM DidAV
  rw [hf, if_neg (by simp)]
  rw [hf] at hF
  simp -implicitDefEqProofs +contextual (disch := try first | omega | assumption | (simp only [Hp.next_set, Hp.next_push]; omega) | ((repeat' (first | assumption | with_reducible apply Hp.WF.push | with_reducible apply Hp.WF.set)) <;> first | omega | (simp only [Hp.next_set, Hp.next_push]; omega)) | (intro c hc; simp (disch := omega); done)) [z_aw.spec, z_aw, hF, z_ct, z_dg, z_c4, z_dx]
  refine z_dy hw hx.fix rfl ?_ ?_ ?_ ?_ ?_
  ·simp; omega
  ·intro c hc
   simp (disch := omega)
  ·rfl
  ·rfl
  ·simp [mkRes]
end Go.Abs
end
section
namespace Go.Abs
open Th
theorem TwoOk.more {B B' : Hp} {I : Ids} {r : MemM} (h : TwoOk B I r) (hw : B'.WF) (hn : B.next ≤ B'.next) (hg : ∀ c, c < B.next → B'.get c = B.get c) : TwoOk B' I r :=
 { h with wf := hw, hb := Nat.lt_of_lt_of_le h.hb hn, hwb := Nat.lt_of_lt_of_le h.hwb hn, fix := h.fix.more h.wf hn hg rfl rfl }
end Go.Abs
end
end
section
namespace Go.Abs
open Th
def stBlk (s : StM) : Blk := ⟨T.ty_api_State, 13, true, [s.cells]⟩
structure Apart (I : Ids) (s : Nat) : Prop where
 b : s ≠ I.b
 wb : s ≠ I.wb
 rb : s ≠ I.rb
 rw : s ≠ I.rw
 cb : s ≠ I.cb
 tb : s ≠ I.tb
end Go.Abs
end
section
namespace Go.Abs
open Th
def lrows (l : List LeakM) : List (List AV) := l.map LeakM.cells
@[simp] theorem z_w4 (l : List LeakM) : (lrows l).length = l.length := by simp [lrows]
@[simp] theorem lrows_nil : lrows [] = [] := rfl
def lAV (c : Nat) (l : List LeakM) : AV := if l = [] then .nils else .sl c 10 0 l.length
def outB (k : Nat) (d : Nat) (e : Int) (w : AV) (l : AV) (fl : Bool) : Blk := ⟨T.ty_api_Outcome, 5, fl, [[.int .i64 k, .int .i64 d, .int .i64 e, w, l]]⟩
def goL : Nat → StM → MemM → List LeakM × MemM × Int
 | 0, _, m => ([], m, 80)
 | n + 1, s, m => if (stepM s m).e ≠ 0 then ([], (stepM s m).m, (stepM s m).e) else if (stepM s m).stop = true then ([leakM s m], (stepM s m).m, 0) else
   (leakM s m :: (goL n (stepM s m).s (stepM s m).m).1, (goL n (stepM s m).s (stepM s m).m).2)
structure GI (B : Hp) (k : Nat) (e : Int) (ls : List LeakM) : Prop where
 wf : B.WF
 nx : 5 ≤ B.next
 fst : B.get 0 = some (outB 0 0 0 .nils .nils true)
 out : ∃ c fl, B.get 3 = some (outB k 0 e .nils (lAV c ls) fl) ∧ (ls ≠ [] → 5 ≤ c ∧ B.get c = some ⟨T.ty_api_Leak, 10, true, lrows ls⟩)
end Go.Abs
end
section
namespace Go.Abs
open Th
theorem z_sw {i : InsM} (h : i.can = true) : takeN (putM i).1.toNat = (i, 0) := by
 simp only [putM, h, if_true]
 rw [BitVec.toNat_ofNat, Nat.mod_eq_of_lt (by have := (forth i h).2.2; omega)]
 exact z_u0 i h
end Go.Abs
end
section
namespace Go.Abs
open Th
theorem z_xk (i : InsM) : z_dd.spec [InsAV i] = some (.tup [W16 (putM i).1, .int .i64 (putM i).2]) := by
 have h := can_eq i
 unfold putM
 by_cases hc : i.can = true
 ·have h2 := put_eq i hc
  simp only [InsAV] at h h2
  simp -implicitDefEqProofs +contextual (disch := omega) [z_dd.spec, z_dd, InsAV, h, h2, hc]
 ·simp only [InsAV] at h
  simp -implicitDefEqProofs +contextual (disch := omega) [z_dd.spec, z_dd, InsAV, h, hc]
end Go.Abs
end

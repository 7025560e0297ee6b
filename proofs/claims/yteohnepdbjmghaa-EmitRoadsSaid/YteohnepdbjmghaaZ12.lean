/-
  Memory: what the document's memory does; two memories side by side.
-/
import Derived.Test.YteohnepdbjmghaaZ9
import Derived.Test.YteohnepdbjmghaaZ4
import Derived.Test.YteohnepdbjmghaaZ11
import Derived.Test.YteohnepdbjmghaaZ3
import Derived.Test.YteohnepdbjmghaaZ7
import Derived.KernelRfl
set_option linter.unusedSimpArgs false
set_option linter.unusedVariables false
set_option maxHeartbeats 20000000
set_option maxRecDepth 100000
section
namespace Go.Abs
def cAV (cb len : Nat) : AV := if len = 0 then .nils else .sl cb 1 0 len
@[simp] theorem cAV_zero (cb : Nat) : cAV cb 0 = .nils := rfl
@[simp] theorem len_cAV (cb len : Nat) : alenR .sl (cAV cb len) = some (.int .i64 len) := by
 unfold cAV; split
 ·simp_all
 ·rfl
@[simp] theorem index_cAV (cb len : Nat) (k : IntKind) (i : Int) : z_aa (.sl 1) (cAV cb len) (.int k i) = if 0 ≤ i ∧ i < len then some (.ptr cb 1 i.toNat 0) else none := by
 unfold cAV; split
 ·rename_i h; subst h; rw [if_neg (by omega)]; rfl
 ·simp
@[simp] theorem z_za (cb len : Nat) (i : BitVec 32) : z_aa (.sl 1) (cAV cb len) (W32 i) = if i.toNat < len then some (.ptr cb 1 i.toNat 0) else none := by
 unfold cAV; split
 ·rename_i h; subst h; rw [if_neg (by omega)]; rfl
 ·simp
theorem z_in (cb len : Nat) (h : 0 < len) : cAV cb len = .sl cb 1 0 len := by unfold cAV; rw [if_neg (by omega)]
def hBlk (l : List (BitVec 16)) : Blk := ⟨T.ty_uint16, 1, true, w16s l⟩
def rBlk (cb wb tb : Nat) (m : MemM) : Blk := ⟨T.ty_bautaref05_Mem, 5, false, [[cAV cb m.code.length, cAV wb m.words.length, .sl tb 1 0 m.tape.length, .int .i64 m.drawn, W32 m.bus]]⟩
def Hp.rmem (H : Hp) (b cb wb tb : Nat) (m : MemM) : Hp := (if m.words.length = 0 then H else H.set wb (some (z_d3 m.words))).set b (some (rBlk cb wb tb m))
structure RFix (H : Hp) (b cb wb tb : Nat) (m : MemM) : Prop where
 code : 0 < m.code.length → H.get cb = some (hBlk m.code)
 tape : H.get tb = some (z_d3 m.tape)
 hb : b < H.next
 hwb : wb < H.next
 bw : wb ≠ b
 bc : cb ≠ b
 bt : tb ≠ b
 wc : cb ≠ wb
 wt : tb ≠ wb
theorem z_bx (H : Hp) (b cb wb tb : Nat) (m : MemM) (c : Nat) : (H.rmem b cb wb tb m).get c = if c = b then some (rBlk cb wb tb m) else if c = wb ∧ 0 < m.words.length then some (z_d3 m.words) else H.get c := by
 unfold Hp.rmem
 by_cases h : m.words.length = 0
 ·rw [if_pos h, Hp.get_set]; simp [h]
 ·rw [if_neg h, Hp.get_set, Hp.get_set]
  by_cases h1 : c = b
  ·simp [h1]
  ·by_cases h2 : c = wb
   ·simp only [h1, h2, if_true, if_false, true_and]; rw [if_neg (fun e => h1 (h2.trans e)), if_neg (fun e => h1 (h2.trans e)), if_pos (by omega)]
   ·simp [h1, h2]
@[simp] theorem z_e1 (H : Hp) (b cb wb tb : Nat) (m : MemM) : (H.rmem b cb wb tb m).next = H.next := by
 unfold Hp.rmem; split <;> rfl
theorem z_ij (H X : Hp) (b cb wb tb : Nat) (m : MemM) (hn : X.next = H.next) (h : ∀ c, X.get c = if c = b then some (rBlk cb wb tb m) else if c = wb ∧ 0 < m.words.length then some (z_d3 m.words) else H.get c) : X = H.rmem b cb wb tb m :=
 Hp.eq_of (by rw [hn, z_e1]) (funext fun c => by rw [h, z_bx])
theorem z_o2 {H : Hp} {b cb wb tb : Nat} {m : MemM} (hw : H.WF) (hb : b < H.next) (hwb : wb < H.next) : (H.rmem b cb wb tb m).WF := by
 unfold Hp.rmem; split
 ·exact Hp.WF.set hw hb
 ·exact Hp.WF.set (Hp.WF.set hw hwb) hb
theorem z_ia (cb len n : Nat) (h : cb < n) : z_dk n (cAV cb len) = true := by
 unfold cAV; split <;> simp [z_dk, h]
theorem RFix.cb {H : Hp} {b cb wb tb : Nat} {m : MemM} (h : RFix H b cb wb tb m) (hw : H.WF) (hc : 0 < m.code.length) : cb < H.next := hw _ _ (h.code hc)
theorem RFix.tb {H : Hp} {b cb wb tb : Nat} {m : MemM} (h : RFix H b cb wb tb m) (hw : H.WF) : tb < H.next := hw _ _ h.tape
theorem z_o3 (H : Hp) (b cb wb tb : Nat) (m m' : MemM) (rs : List AV) (hw : H.WF) (hf : RFix H b cb wb tb m) (hwl : m'.words.length = m.words.length) (hcd : m'.code.length = m.code.length)
  (hc : (mkRes rs).closed = true) : forget (H.rmem b cb wb tb m) (some (rs, H.rmem b cb wb tb m')) = some (mkRes rs, H.rmem b cb wb tb m') := by
 have hct : z_mo (H.rmem b cb wb tb m) (H.rmem b cb wb tb m') := fun c hcn => by
  rw [z_bx, z_bx]
  split
  ·refine .inr fun blk hblk row hr a ha => ?_
   simp only [Option.some.injEq] at hblk
   subst hblk
   simp only [rBlk, List.mem_singleton] at hr
   subst hr
   simp only [List.mem_cons, List.not_mem_nil, or_false] at ha
   rw [z_e1]
   have h1 := hf.hwb; have h2 := hf.tb hw
   rcases ha with rfl | rfl | rfl | rfl | rfl
   ·by_cases h0 : m'.code.length = 0
    ·rw [h0]; rfl
    ·exact z_ia _ _ _ (hf.cb hw (by omega))
   ·exact z_ia _ _ _ h1
   ·simp [z_dk, h2]
   ·rfl
   ·rfl
  ·rw [hwl]
   split
   ·refine .inr fun blk hblk row hr a ha => ?_
    simp only [Option.some.injEq] at hblk
    subst hblk
    have := z_ms _ row hr a ha
    cases a <;> simp_all [z_dk, AV.flat]
   ·exact .inl rfl
 unfold forget
 dsimp only
 rw [if_pos ⟨hc, hct, by simp⟩]
 congr 2
 refine Hp.eq_of (by simp [Hp.trunc]) (funext fun c => ?_)
 show (if c < (H.rmem b cb wb tb m).next then (H.rmem b cb wb tb m').get c else none) = (H.rmem b cb wb tb m').get c
 rw [z_e1]
 by_cases hcn : c < H.next
 ·rw [if_pos hcn]
 ·rw [if_neg hcn]
  cases hg : (H.rmem b cb wb tb m').get c with
  | none => rfl
  | some x => exact (hcn (by have := z_o2 (cb := cb) (tb := tb) (m := m') hw hf.hb hf.hwb c x hg; rwa [z_e1] at this)).elim
theorem z_d5 {H X : Hp} {b cb wb tb : Nat} {m m' : MemM} {rs : List AV} (hw : H.WF) (hf : RFix H b cb wb tb m) (hX : X = H.rmem b cb wb tb m') (hwl : m'.words.length = m.words.length) (hcd : m'.code.length = m.code.length)
  (hc : (mkRes rs).closed = true) : forget (H.rmem b cb wb tb m) (some (rs, X)) = some (mkRes rs, H.rmem b cb wb tb m') := by
 rw [hX]; exact z_o3 H b cb wb tb m m' rs hw hf hwl hcd hc
theorem z_fo (H : Hp) (b cb wb tb : Nat) (m m' : MemM) (hc : m'.words = m.words) : (H.rmem b cb wb tb m).set b (some (rBlk cb wb tb m')) = H.rmem b cb wb tb m' := by
 refine z_ij _ _ _ _ _ _ _ (by simp) fun c => ?_
 rw [Hp.get_set, z_bx]
 split
 ·rfl
 ·rw [hc]
theorem z_nd (H : Hp) (b cb wb tb : Nat) (m m' : MemM) (hbw : b ≠ wb) (hl : m'.words.length = m.words.length) (h0 : 0 < m.words.length) (hb : rBlk cb wb tb m' = rBlk cb wb tb m) : (H.rmem b cb wb tb m).set wb (some (z_d3 m'.words)) = H.rmem b cb wb tb m' := by
 refine z_ij _ _ _ _ _ _ _ (by simp) fun c => ?_
 rw [Hp.get_set, z_bx]
 by_cases h1 : c = wb
 ·rw [if_pos h1, if_neg (by omega), if_pos ⟨h1, by omega⟩]
 ·rw [if_neg h1, hb]
  simp only [h1, false_and, if_false]
theorem z_j7 (x y : BitVec 16) : (x.setWidth 32 ||| y.setWidth 32 <<< 16) = x.setWidth 32 + 65536#32 * y.setWidth 32 := by
 apply BitVec.eq_of_toNat_eq
 have hx := x.isLt; have hy := y.isLt
 rw [BitVec.toNat_or, BitVec.toNat_shiftLeft, BitVec.toNat_add, BitVec.toNat_mul, BitVec.toNat_setWidth, BitVec.toNat_setWidth]
 simp only [Nat.shiftLeft_eq, BitVec.toNat_ofNat]
 rw [Nat.mod_eq_of_lt (show x.toNat < 2 ^ 32 by omega), Nat.mod_eq_of_lt (show y.toNat < 2 ^ 32 by omega), Nat.mod_eq_of_lt (show y.toNat * 2 ^ 16 < 2 ^ 32 by omega), Nat.or_comm]
 rw [show y.toNat * 2 ^ 16 = 2 ^ 16 * y.toNat from Nat.mul_comm _ _, ← Nat.two_pow_add_eq_or_of_lt (by omega)]
 omega
section
variable (H : Hp) (b cb wb tb : Nat) (m : MemM) (hw : H.WF) (hf : RFix H b cb wb tb m)
include hw hf
theorem z_v1 (a : BitVec 32) (hm : m.Ok) : z_au.spec [.ptr b 5 0 0, W32 a] (H.rmem b cb wb tb m) = some (.tup [W32 (m.loads a).1.1, .int .i64 (m.loads a).1.2], H.rmem b cb wb tb (m.loads a).2) := by
 have q1 := hm.code; have q2 := hm.words; have q3 := hm.tape; have q4 := hm.drawn
 have f1 := hf.bw; have f2 := hf.bc; have f3 := hf.bt; have f4 := hf.wc; have f5 := hf.wt; have f6 := hf.tape
 have e1 : ((a.toNat : Int) / 2).toNat = a.toNat / 2 := by omega
 have e2 : ((a.toNat : Int) / 2 + 1).toNat = a.toNat / 2 + 1 := by omega
 have hs : (a - 536870912#32).toNat / 4 = wslot a := rfl
 have hd : (m.at a = true) = (536870912#32 ≤ a ∧ wslot a < m.words.length) := by simp [MemM.at]
 unfold MemM.loads MemM.load
 by_cases h1 : a % 4#32 = 0#32
 ·by_cases h2 : a = 1073741824#32
  ·subst h2
   by_cases h3 : m.drawn = m.tape.length
   ·simp -implicitDefEqProofs +contextual (disch := omega) [z_au.spec, z_au, z_bx, rBlk, h3, f1, f2, f3, f4, f5, f6, z_d3]
    refine z_d5 hw hf ?_ ?_ ?_ ?_ <;> rfl
   ·have h4 : m.drawn < m.tape.length := by omega
    simp -implicitDefEqProofs +contextual (disch := omega) [z_au.spec, z_au, z_bx, rBlk, h3, h4, f1, f2, f3, f4, f5, f6, z_d3]
    exact z_d5 hw hf (z_fo H b cb wb tb m { m with drawn := m.drawn + 1, bus := at0 m.tape m.drawn } rfl) rfl rfl rfl
  ·by_cases h3 : 536870912#32 ≤ a
   ·by_cases h5 : wslot a < m.words.length
    ·have h6 : 0 < m.words.length := by omega
     have h7 : ((a - 536870912#32).toNat : Int) / 4 < m.words.length := by omega
     simp -implicitDefEqProofs +contextual (disch := omega) [z_au.spec, z_au, z_bx, rBlk, z_d3, h1, h2, h3, h5, h6, h7, hd, hs, f1, f2, f3, f4, f5, f6, -BitVec.toNat_sub]
     exact z_d5 hw hf (z_fo H b cb wb tb m { m with bus := at0 m.words (wslot a) } rfl) rfl rfl rfl
    ·have h7 : ¬ ((a - 536870912#32).toNat : Int) / 4 < m.words.length := by omega
     by_cases h4 : a.toNat / 2 + 1 < m.code.length
     ·have f7 := hf.code (by omega)
      simp -implicitDefEqProofs +contextual (disch := omega) [z_au.spec, z_au, z_bx, rBlk, hBlk, h1, h2, h3, h4, h5, h7, hd, e1, e2, hs, f1, f2, f3, f4, f5, f6, f7, z_j7, -BitVec.toNat_sub]
      exact z_d5 hw hf (z_fo H b cb wb tb m { m with bus := (at0 m.code (a.toNat / 2)).setWidth 32 + 65536#32 * (at0 m.code (a.toNat / 2 + 1)).setWidth 32 } rfl) rfl rfl rfl
     ·simp -implicitDefEqProofs +contextual (disch := omega) [z_au.spec, z_au, z_bx, rBlk, h1, h2, h3, h4, h5, h7, hd, hs, f1, f2, f3, f4, f5, f6, -BitVec.toNat_sub]
      refine z_d5 hw hf ?_ ?_ ?_ ?_ <;> rfl
   ·by_cases h4 : a.toNat / 2 + 1 < m.code.length
    ·have f7 := hf.code (by omega)
     simp -implicitDefEqProofs +contextual (disch := omega) [z_au.spec, z_au, z_bx, rBlk, hBlk, h1, h2, h3, h4, hd, e1, e2, hs, f1, f2, f3, f4, f5, f6, f7, z_j7, -BitVec.toNat_sub]
     exact z_d5 hw hf (z_fo H b cb wb tb m { m with bus := (at0 m.code (a.toNat / 2)).setWidth 32 + 65536#32 * (at0 m.code (a.toNat / 2 + 1)).setWidth 32 } rfl) rfl rfl rfl
    ·simp -implicitDefEqProofs +contextual (disch := omega) [z_au.spec, z_au, z_bx, rBlk, h1, h2, h3, h4, hd, hs, f1, f2, f3, f4, f5, f6, -BitVec.toNat_sub]
     refine z_d5 hw hf ?_ ?_ ?_ ?_ <;> rfl
 ·simp -implicitDefEqProofs +contextual (disch := omega) [z_au.spec, z_au, z_bx, rBlk, h1]
  refine z_d5 hw hf ?_ ?_ ?_ ?_ <;> rfl
theorem z_s7 (a x : BitVec 32) (hm : m.Ok) : z_a6.spec [.ptr b 5 0 0, W32 a, W32 x] (H.rmem b cb wb tb m) = some (.int .i64 (m.store a x).1, H.rmem b cb wb tb (m.store a x).2) := by
 have q1 := hm.code; have q2 := hm.words; have q3 := hm.tape; have q4 := hm.drawn
 have f1 := hf.bw; have f2 := hf.bc; have f3 := hf.bt; have f4 := hf.wc; have f5 := hf.wt; have f6 := hf.tape
 have hs : (a - 536870912#32).toNat / 4 = wslot a := rfl
 have hd : (m.at a = true) = (536870912#32 ≤ a ∧ wslot a < m.words.length) := by simp [MemM.at]
 unfold MemM.store
 by_cases h1 : a % 4#32 = 0#32
 ·by_cases h3 : 536870912#32 ≤ a
  ·have h3' : ¬ a < 536870912#32 := by rwa [BitVec.not_lt]
   by_cases h5 : wslot a < m.words.length
   ·have h6 : 0 < m.words.length := by omega
    have h7 : ((a - 536870912#32).toNat : Int) / 4 < m.words.length := by omega
    simp -implicitDefEqProofs +contextual (disch := omega) [z_a6.spec, z_a6, z_bx, rBlk, z_d3, h1, h3, h5, h6, h7, hd, h3', hs, f1, f2, f3, f4, f5, f6, -BitVec.toNat_sub, -BitVec.not_le]
    refine z_d5 hw hf (z_ij _ _ _ _ _ _ _ (by simp) fun c => ?_) (by simp) rfl rfl
    by_cases c1 : c = b
    ·simp [c1, rBlk]
    ·by_cases c2 : c = wb
     ·simp [c2, f1, h6, z_d3]
     ·simp [c1, c2, z_bx]
   ·have h7 : ¬ ((a - 536870912#32).toNat : Int) / 4 < m.words.length := by omega
    simp -implicitDefEqProofs +contextual (disch := omega) [z_a6.spec, z_a6, z_bx, rBlk, z_d3, h1, h3, h5, h7, hd, h3', hs, f1, f2, f3, f4, f5, f6, -BitVec.toNat_sub, -BitVec.not_le]
    refine z_d5 hw hf ?_ ?_ ?_ ?_ <;> rfl
  ·have h3' : a < 536870912#32 := by rwa [← BitVec.not_le]
   simp -implicitDefEqProofs +contextual (disch := omega) [z_a6.spec, z_a6, z_bx, rBlk, z_d3, h1, h3, hd, h3', hs, f1, f2, f3, f4, f5, f6, -BitVec.toNat_sub, -BitVec.not_le]
   refine z_d5 hw hf ?_ ?_ ?_ ?_ <;> rfl
 ·have h2 : (a % 4#32 != 0#32) = true := by simp [h1]
  simp -implicitDefEqProofs +contextual (disch := omega) [z_a6.spec, z_a6, z_bx, rBlk, h1, h2]
  refine z_d5 hw hf ?_ ?_ ?_ ?_ <;> rfl
theorem z_ta (a : BitVec 32) (hm : m.Ok) : z_ay.spec [.ptr b 5 0 0, W32 a] (H.rmem b cb wb tb m) = some (.tup [W16 (m.fetch a).1, .int .i64 (m.fetch a).2], H.rmem b cb wb tb m) := by
 have q1 := hm.code
 have f1 := hf.bw; have f2 := hf.bc; have f3 := hf.bt; have f4 := hf.wc; have f5 := hf.wt; have f6 := hf.tape
 have e1 : ((a.toNat : Int) / 2).toNat = a.toNat / 2 := by omega
 unfold MemM.fetch
 by_cases h1 : a % 2#32 = 0#32
 ·by_cases h2 : a.toNat / 2 < m.code.length
  ·have f7 := hf.code (by omega)
   rw [if_pos ⟨h1, h2⟩]
   simp -implicitDefEqProofs +contextual (disch := omega) [z_ay.spec, z_ay, z_bx, rBlk, hBlk, z_d3, h1, h2, e1, f1, f2, f3, f4, f5, f6, f7]
   refine z_d5 hw hf ?_ ?_ ?_ ?_ <;> rfl
  ·rw [if_neg (fun h => h2 h.2)]
   simp -implicitDefEqProofs +contextual (disch := omega) [z_ay.spec, z_ay, z_bx, rBlk, z_d3, h1, h2, e1]
   refine z_d5 hw hf ?_ ?_ ?_ ?_ <;> rfl
 ·rw [if_neg (fun h => h1 h.1)]
  simp -implicitDefEqProofs +contextual (disch := omega) [z_ay.spec, z_ay, z_bx, rBlk, z_d3, h1, e1]
  refine z_d5 hw hf ?_ ?_ ?_ ?_ <;> rfl
end
structure NewInv (H : Hp) (code : List (BitVec 16)) (tape : List (BitVec 32)) (i rb cb tb : Nat) (X : Hp) : Prop where
 wf : X.WF
 b : X.get rb = some (rBlk cb 0 tb ⟨code.take i, [], tape, 0, 0#32⟩)
 c : 0 < i → X.get cb = some (hBlk (code.take i))
 t : X.get tb = some (z_d3 tape)
 h : ∀ c, c < H.next → X.get c = H.get c
 hb : H.next + 2 ≤ rb
 ht : H.next < tb
 hc : 0 < i → H.next < cb
 bt : tb ≠ rb
 bc : 0 < i → cb ≠ rb
 ct : 0 < i → cb ≠ tb
theorem z_xi (cb tb : Nat) (l : List (BitVec 16)) (tape : List (BitVec 32)) (h : 0 < l.length) : rBlk cb 0 tb ⟨l, [], tape, 0, 0#32⟩ = ⟨T.ty_bautaref05_Mem, 5, false, [[.sl cb 1 0 l.length, .nils, .sl tb 1 0 tape.length, .int .i64 0, W32 0#32]]⟩ := by
 simp [rBlk, z_in _ _ h]
theorem rBlk_0 (cb tb : Nat) (tape : List (BitVec 32)) : rBlk cb 0 tb ⟨[], [], tape, 0, 0#32⟩ = ⟨T.ty_bautaref05_Mem, 5, false, [[.nils, .nils, .sl tb 1 0 tape.length, .int .i64 0, W32 0#32]]⟩ := by
 simp [rBlk]
theorem z_mx {n : Nat} (l : List (BitVec n)) (i : Nat) (h : i < l.length) : l.take (i + 1) = l.take i ++ [at0 l i] := by
 rw [List.take_add_one, z_ke l i h]; rfl
theorem z_v6 (H : Hp) (code : List (BitVec 16)) (tape : List (BitVec 32)) (w : AV) (i rb cb tb : Nat) (X : Hp) (hc : i < code.length) (hi : i < 60000) (I : NewInv H code tape i rb cb tb X) :
  ∃ X' cb', z_b1.l0 (AFr.al [(0, .rsl 1 (w16s code)), (1, w), (7, .ptr rb 5 0 0), (8, .int .i64 i)]) X = some (.normal, AFr.al [(0, .rsl 1 (w16s code)), (1, w), (7, .ptr rb 5 0 0), (8, .int .i64 (i + 1 : Nat))], X') ∧ NewInv H code tape (i + 1) rb cb' tb X' := by
 have hrb := I.wf _ _ I.b
 have htb := I.wf _ _ I.t
 have i1 := I.hb; have i2 := I.ht; have i3 := I.bt
 have ts := z_mx code i hc
 by_cases h0 : i = 0
 ·subst h0
  have hb := I.b
  rw [List.take_zero, rBlk_0] at hb
  refine ⟨((X.push (hBlk [at0 code 0])).push (hBlk [at0 code 0])).set rb (some (rBlk (X.next + 1) 0 tb ⟨[at0 code 0], [], tape, 0, 0#32⟩)), X.next + 1, ?_, ?_⟩
  ·simp -implicitDefEqProofs +contextual (disch := omega) [z_b1.l0, hb, hc]
   simp [hBlk, rBlk, cAV, w16s]
  ·rw [show ([at0 code 0] : List (BitVec 16)) = code.take (0 + 1) from by rw [ts]; rfl]
   exact ⟨Hp.WF.set (Hp.WF.push (Hp.WF.push I.wf)) (by simp; omega), by simp, fun _ => by simp (disch := omega), by
    have := I.t; simp (disch := omega) [this], fun c h => by have := I.h c h; simp (disch := omega) [this], I.hb, I.ht, fun _ => by omega, I.bt, fun _ => by omega, fun _ => by omega⟩
 ·have hl : (code.take i).length = i := by rw [List.length_take]; omega
  have hb := I.b
  rw [z_xi _ _ _ _ (by omega), hl] at hb
  have hcb := I.c (by omega)
  have hcn := I.wf _ _ hcb
  have i4 := I.bc (by omega); have i5 := I.ct (by omega); have i6 := I.hc (by omega)
  refine ⟨(((X.push (hBlk [at0 code i])).set cb none).push (hBlk (code.take (i + 1)))).set rb (some (rBlk (X.next + 1) 0 tb ⟨code.take (i + 1), [], tape, 0, 0#32⟩)), X.next + 1, ?_, ?_⟩
  ·simp -implicitDefEqProofs +contextual (disch := omega) [z_b1.l0, hb, hc, hcb, hBlk, hl, i4]
   rw [ts, z_xi _ _ _ _ (by simp)]
   simp [hBlk, hl, w16s]
  ·exact ⟨Hp.WF.set (Hp.WF.push (Hp.WF.set (Hp.WF.push I.wf) (by simp; omega))) (by simp; omega), by simp, fun _ => by simp (disch := omega), by
    have := I.t; simp (disch := omega) [this], fun c h => by have := I.h c h; simp (disch := omega) [this], I.hb, I.ht, fun _ => by omega, I.bt, fun _ => by omega, fun _ => by omega⟩
theorem z_ne {X : Hp} {b cb wb tb : Nat} {m : MemM} (h1 : X.get b = some (rBlk cb wb tb m)) (h2 : 0 < m.words.length → X.get wb = some (z_d3 m.words)) : X = X.rmem b cb wb tb m := by
 refine z_ij _ _ _ _ _ _ _ rfl fun c => ?_
 split
 ·rename_i e; rw [e, h1]
 ·split
  ·rename_i e; rw [e.1, h2 e.2]
  ·rfl
theorem z_tb (cb wb tb : Nat) (m : MemM) : rBlk cb wb tb m = ⟨T.ty_bautaref05_Mem, 5, false, [[cAV cb m.code.length, cAV wb m.words.length, .sl tb 1 0 m.tape.length, .int .i64 m.drawn, W32 m.bus]]⟩ := rfl
theorem mk32 (X : Hp) (n : Int) (N : Nat) (h : n = (N : Int)) (hN : N ≤ 16000) : z_gs (some ⟨T.ty_uint32, 1, 4, [W32 0#32]⟩) (.int .i64 n) (.int .i64 n) X = some (.sl X.next 1 0 N, X.push ⟨T.ty_uint32, 1, true, w32s (List.replicate N 0#32)⟩) := by
 subst h
 rw [z_fj, if_pos ⟨by omega, by omega, by simp; omega, by simp, by rfl⟩, ← z_u7]
 rfl
theorem z_ys (H : Hp) (code : List (BitVec 16)) (tape : List (BitVec 32)) (n : Int) (hw : H.WF) (hc : code.length ≤ 1000000000) (ht : tape.length ≤ 1000000000) :
  ∃ X rb cb wb tb, z_b1.spec [.rsl 1 (w16s code), .int .i64 n, .rsl 1 (w32s tape)] H = some (.ptr rb 5 0 0, X.rmem rb cb wb tb (MemM.new code n tape)) ∧ X.WF ∧ RFix X rb cb wb tb (MemM.new code n tape) ∧
   H.next ≤ rb ∧ H.next ≤ cb ∧ H.next ≤ wb ∧ H.next ≤ tb ∧ H.next ≤ X.next ∧ ∀ c, c < H.next → X.get c = H.get c := by
 have I0 : NewInv H code tape 0 (H.next + 2) 0 (H.next + 1) ((((H.push (z_d3 [])).set H.next none).push (z_d3 tape)).push (rBlk 0 0 (H.next + 1) ⟨[], [], tape, 0, 0#32⟩)) := by
  refine ⟨Hp.WF.push (Hp.WF.push (Hp.WF.set (Hp.WF.push hw) (by simp))), by simp, fun h => by omega, by simp (disch := omega), fun c h => by simp (disch := omega), by omega, by omega, fun h => by omega, by omega, fun h => by omega, fun h => by omega⟩
 obtain ⟨fr', X1, ⟨cb1, e1, I1⟩, hgo⟩ := z_od (f := z_b1.l0) (fun i fr X => ∃ cb, fr = AFr.al [(0, .rsl 1 (w16s code)), (1, .int .i64 n), (7, .ptr (H.next + 2) 5 0 0), (8, .int .i64 i)] ∧ NewInv H code tape i (H.next + 2) cb (H.next + 1) X)
  (min code.length 60000) (fun k hk fr X hR => by
   obtain ⟨cb, rfl, I⟩ := hR
   obtain ⟨X', cb', h1, h2⟩ := z_v6 H code tape (.int .i64 n) k (H.next + 2) cb (H.next + 1) X (by omega) (by omega) I
   exact ⟨_, _, h1, cb', rfl, h2⟩) ⟨0, rfl, I0⟩
 subst e1
 have hx : aloop z_b1.l0 (AFr.al [(0, .rsl 1 (w16s code)), (1, .int .i64 n), (7, .ptr (H.next + 2) 5 0 0), (8, .int .i64 (min code.length 60000 : Nat))]) X1 =
   some (.exit 0, AFr.al [(0, .rsl 1 (w16s code)), (1, .int .i64 n), (7, .ptr (H.next + 2) 5 0 0), (8, .int .i64 (min code.length 60000 : Nat)), (21, .bool false)], X1) := z_bz (by simp) (by
  by_cases h : code.length ≤ 60000
  ·rw [Nat.min_eq_left h]
   simp -implicitDefEqProofs +contextual (disch := omega) [z_b1.l0]
  ·rw [Nat.min_eq_right (by omega)]
   have h1 : (60000 : Int) < code.length := by omega
   simp -implicitDefEqProofs +contextual (disch := omega) [z_b1.l0, h1])
 rw [hx] at hgo
 have hgo' : aloop z_b1.l0 (AFr.al [(0, .rsl 1 (w16s code)), (1, .int .i64 n), (7, .ptr (H.next + 2) 5 0 0), (8, .int .i64 0)]) ((((H.push ⟨T.ty_uint32, 1, true, []⟩).set H.next none).push ⟨T.ty_uint32, 1, true, w32s tape⟩).push
   ⟨T.ty_bautaref05_Mem, 5, false, [[.nils, .nils, .sl (H.next + 1) 1 0 tape.length, .int .i64 0, W32 0#32]]⟩) = _ := hgo
 clear hgo hx
 have b1 := I1.b; have b2 := I1.wf _ _ b1; have b3 := I1.ht
 have hl : (code.take (min code.length 60000)) = code.take 60000 := by
  by_cases h : code.length ≤ 60000
  ·rw [Nat.min_eq_left h, List.take_of_length_le (by omega), List.take_of_length_le (by omega)]
  ·rw [Nat.min_eq_right (by omega)]
 rw [hl] at b1
 generalize hcd : (min code.length 60000 : Nat) = K at hgo' I1 hl
 obtain ⟨cb2, c1, c2, c3, c4, c5, c6⟩ : ∃ cb2, (0 < code.length → X1.get cb2 = some (hBlk (code.take 60000))) ∧ rBlk cb1 0 (H.next + 1) ⟨code.take 60000, [], tape, 0, 0#32⟩ = rBlk cb2 0 (H.next + 1) ⟨code.take 60000, [], tape, 0, 0#32⟩ ∧
   H.next < cb2 ∧ cb2 ≠ H.next + 2 ∧ cb2 ≠ H.next + 1 ∧ (code.length = 0 → X1.next + 1 < cb2) := by
  by_cases h : code.length = 0
  ·have h' : code = [] := List.length_eq_zero_iff.1 h
   subst h'
   refine ⟨X1.next + 2, fun q => by simp at q, rfl, by omega, by omega, by omega, by omega⟩
  ·have hK : 0 < K := by omega
   have := I1.c hK; rw [hl] at this
   exact ⟨cb1, fun _ => this, rfl, I1.hc hK, I1.bc hK, I1.ct hK, fun q => by omega⟩
 rw [c2] at b1
 by_cases hn : 0 < n
 ·obtain ⟨N, hN, hN2, hN3⟩ : ∃ N : Nat, (min (max n 0) 16000).toNat = N ∧ 0 < N ∧ N ≤ 16000 := ⟨_, rfl, by omega, by omega⟩
  have e1 : (MemM.new code n tape) = ⟨code.take 60000, List.replicate N 0#32, tape, 0, 0#32⟩ := by
   rw [MemM.new, hN]
  rw [e1]
  have q1 : cb2 ≠ X1.next := by
   by_cases h : code.length = 0
   ·have := c6 h; omega
   ·have := I1.wf _ _ (c1 (by omega)); omega
  have q2 : H.next + 1 < X1.next := I1.wf _ _ I1.t
  refine ⟨(X1.push (z_d3 (List.replicate N 0#32))).set (H.next + 2) (some (rBlk cb2 X1.next (H.next + 1) ⟨code.take 60000, List.replicate N 0#32, tape, 0, 0#32⟩)), H.next + 2, cb2, X1.next, H.next + 1, ?_,
   Hp.WF.set (Hp.WF.push I1.wf) (by simp; omega), ⟨fun q => ?_, ?_, by simp; omega, by simp, by omega, by omega, by omega, by omega, by omega⟩, by omega, by omega, by omega, by omega, by simp; omega, fun c hc => ?_⟩
  ·rw [← z_ne (by simp) (fun _ => by simp (disch := omega))]
   rw [z_tb] at b1
   have e2 : (if (16000 : Int) < n then (16000 : Int) else n) = (N : Int) := by split <;> omega
   have hmk := mk32 X1 (if (16000 : Int) < n then (16000 : Int) else n) N e2 hN3
   by_cases h6 : 16000 < n
   ·rw [if_pos h6] at hmk
    simp -implicitDefEqProofs +contextual (disch := omega) [z_b1.spec, z_b1, hgo', hn, h6, b1, hmk, -z_fj, z_d3, z_tb, z_in]
   ·rw [if_neg h6] at hmk
    simp -implicitDefEqProofs +contextual (disch := omega) [z_b1.spec, z_b1, hgo', hn, h6, b1, hmk, -z_fj, z_d3, z_tb, z_in]
  ·have := c1 (by simp at q; omega)
   simp (disch := omega) [this]
  ·have := I1.t; simp (disch := omega) [this]
  ·have := I1.h c hc; simp (disch := omega) [this]
 ·have e1 : (MemM.new code n tape) = ⟨code.take 60000, [], tape, 0, 0#32⟩ := by
   rw [MemM.new, show (min (max n 0) 16000).toNat = 0 from by omega]; rfl
  rw [e1]
  refine ⟨X1, H.next + 2, cb2, H.next, H.next + 1, ?_, I1.wf, ⟨fun q => c1 (by simp at q; omega), I1.t, b2, by omega, by omega, c4, by omega, by omega, by omega⟩, by omega, by omega, by omega, by omega, by omega, I1.h⟩
  have hn' : ¬ 16000 < n := by omega
  simp -implicitDefEqProofs +contextual (disch := omega) [z_b1.spec, z_b1, hgo', hn, hn']
  exact z_ne b1 (fun q => by simp at q)
end Go.Abs
end
section
namespace Go.Abs
structure Ids where
 b : Nat
 wb : Nat
 rb : Nat
 cb : Nat
 rw : Nat
 tb : Nat
structure TwoOk (B : Hp) (I : Ids) (r : MemM) : Prop where
 wf : B.WF
 hb : I.b < B.next
 hwb : I.wb < B.next
 ne : I.b ≠ I.wb
 fix : RFix B I.rb I.cb I.rw I.tb r
 b1 : I.b ≠ I.rb
 b2 : I.b ≠ I.cb
 b3 : I.b ≠ I.rw
 b4 : I.b ≠ I.tb
 w1 : I.wb ≠ I.rb
 w2 : I.wb ≠ I.cb
 w3 : I.wb ≠ I.rw
 w4 : I.wb ≠ I.tb
theorem RFix.of {H : Hp} {b cb wb tb : Nat} {m m' : MemM} (h : RFix H b cb wb tb m) (hc : m'.code = m.code) (ht : m'.tape = m.tape) : RFix H b cb wb tb m' :=
 ⟨fun q => by rw [hc] at q ⊢; exact h.code q, by rw [ht]; exact h.tape, h.hb, h.hwb, h.bw, h.bc, h.bt, h.wc, h.wt⟩
theorem RFix.push {H : Hp} {b cb wb tb : Nat} {m : MemM} {x : Blk} (hw : H.WF) (h : RFix H b cb wb tb m) : RFix (H.push x) b cb wb tb m :=
 ⟨fun q => by have q1 := h.code q; have q2 := hw _ _ q1; simp (disch := omega) [q1], by have q1 := h.tape; have q2 := hw _ _ q1; simp (disch := omega) [q1], by have := h.hb; simp; omega, by have := h.hwb; simp; omega, h.bw, h.bc, h.bt, h.wc, h.wt⟩
theorem TwoOk.of {B : Hp} {I : Ids} {r r' : MemM} (h : TwoOk B I r) (hc : r'.code = r.code) (ht : r'.tape = r.tape) : TwoOk B I r' :=
 { h with fix := h.fix.of hc ht }
theorem TwoOk.push {B : Hp} {I : Ids} {r : MemM} {x : Blk} (h : TwoOk B I r) : TwoOk (B.push x) I r :=
 { h with wf := Hp.WF.push h.wf, hb := by have := h.hb; simp; omega, hwb := by have := h.hwb; simp; omega, fix := h.fix.push h.wf }
theorem z_g6 (m : MemM) (a : BitVec 32) : (m.loads a).2.code = m.code ∧ (m.loads a).2.tape = m.tape ∧ (m.loads a).2.words = m.words := by
 unfold MemM.loads MemM.load; dsimp only; repeat' split
 all_goals simp
theorem z_g3 (m : MemM) (a x : BitVec 32) : (m.store a x).2.code = m.code ∧ (m.store a x).2.tape = m.tape ∧ (m.store a x).2.words.length = m.words.length := by
 unfold MemM.store; split <;> simp
theorem z_wa {m : MemM} (h : m.Ok) (a : BitVec 32) : (m.loads a).2.Ok := by
 obtain ⟨h1, h2, h3⟩ := z_g6 m a
 have h4 := h.drawn
 refine ⟨by rw [h1]; exact h.code, by rw [h3]; exact h.words, by rw [h2]; exact h.tape, ?_⟩
 rw [h2]
 unfold MemM.loads MemM.load; dsimp only; repeat' split
 all_goals first | exact h4 | (dsimp only; omega)
theorem z_vi {m : MemM} (h : m.Ok) (a x : BitVec 32) : (m.store a x).2.Ok := by
 obtain ⟨h1, h2, h3⟩ := z_g3 m a x
 refine ⟨by rw [h1]; exact h.code, by rw [h3]; exact h.words, by rw [h2]; exact h.tape, ?_⟩
 have h4 := h.drawn
 rw [h2]; unfold MemM.store; split <;> exact h4
end Go.Abs
end
section
namespace Go.Abs
open Th
theorem z_kd (i : InsM) (h : i.can = true) : ∃ k D N M : Nat, i = ⟨k, D, N, M, i.imm⟩ ∧ k ≤ 20 ∧ (k ≠ 18 → D < 8) ∧ D < 14 ∧ N < 8 ∧ M < 8 ∧ (k = 11 → 0 ≤ i.imm ∧ i.imm ≤ 15) := by
 have h1 := (z_gl i).1 h
 have hb : ∀ k : Nat, k ≤ 20 → (k ≠ 18 → maxD k ≤ 7) ∧ maxD k ≤ 13 ∧ maxN k ≤ 7 ∧ maxM k ≤ 7 ∧ (k = 11 → (shp k).low = 0 ∧ (shp k).high = 15) := by decide
 obtain ⟨op, d, n, m, imm⟩ := i
 dsimp only at h1 ⊢
 obtain ⟨b1, b2, b3, b4, b5⟩ := hb op.toNat (by omega)
 refine ⟨op.toNat, d.toNat, n.toNat, m.toNat, ?_, by omega, fun q => by have := b1 q; omega, by omega, by omega, by omega, fun q => by have := b5 q; omega⟩
 rw [Int.toNat_of_nonneg (by omega), Int.toNat_of_nonneg (by omega), Int.toNat_of_nonneg (by omega), Int.toNat_of_nonneg (by omega)]
theorem z_qi (m : MemM) (a : BitVec 32) : m.fetch a = ((m.fetch a).1, 0) ∨ m.fetch a = (0#16, 50) := by
 unfold MemM.fetch; split
 ·exact .inl rfl
 ·exact .inr rfl
structure Keeps (m m' : MemM) : Prop where
 code : m'.code = m.code
 tape : m'.tape = m.tape
 words : m'.words.length = m.words.length
 ok : m.Ok → m'.Ok
theorem Keeps.rfl' (m : MemM) : Keeps m m := ⟨rfl, rfl, rfl, id⟩
theorem z_pc (m : MemM) (a : BitVec 32) : Keeps m (m.loads a).2 := ⟨(z_g6 m a).1, (z_g6 m a).2.1, by rw [(z_g6 m a).2.2], fun h => z_wa h a⟩
theorem z_pb (m : MemM) (a x : BitVec 32) : Keeps m (m.store a x).2 := ⟨(z_g3 m a x).1, (z_g3 m a x).2.1, (z_g3 m a x).2.2, fun h => z_vi h a x⟩
theorem z_rd (s : StM) (k D : Nat) (a : BitVec 32) (m : MemM) : Keeps m (moveM s k D a m).2.1 := by
 unfold moveM; split
 ·exact z_pb m a _
 ·exact z_pc m a
theorem z_we (i : InsM) (s : StM) (m : MemM) : Keeps m (doM i s m).m := by
 unfold doM; split
 all_goals first | exact .rfl' m | (split <;> exact z_rd _ _ _ _ m)
theorem z_fe (s : StM) (m : MemM) : Keeps m (stepM s m).m := by
 unfold stepM; repeat' split
 all_goals first | exact .rfl' m | exact z_we _ s m
end Go.Abs
end
section
namespace Go.Abs
open Th
def opsM (i : InsM) (s : StM) : BitVec 32 × BitVec 32 :=
 match i.op.toNat with
 | 0 => (0#32, immW i.imm)
 | 1 | 2 | 3 => (s.reg i.d.toNat, immW i.imm)
 | 4 | 5 | 6 => (s.reg i.m.toNat, immW i.imm)
 | 7 | 8 | 14 => (s.reg i.n.toNat, s.reg i.m.toNat)
 | 9 | 10 => (s.reg i.n.toNat, immW i.imm)
 | 11 => (s.reg i.d.toNat, s.reg i.m.toNat)
 | 12 => (s.reg i.n.toNat, 4#32 * immW i.imm)
 | 13 | 15 => (s.reg i.d.toNat, 0#32)
 | _ => (0#32, 0#32)
def z_ep (i : InsM) (s : StM) : BitVec 32 × Bool :=
 match i.op.toNat with
 | 12 | 13 => (s.reg i.n.toNat + 4#32 * immW i.imm, true)
 | 14 | 15 => (s.reg i.n.toNat + s.reg i.m.toNat, true)
 | 16 => (((s.pc + 4#32) &&& ~~~3#32) + 4#32 * immW i.imm, true)
 | _ => (0#32, false)
def z_mb (i : InsM) (a b : BitVec 32) : BitVec 32 :=
 if i.op = 1 ∨ (i.op = 11 ∧ i.imm = 10) then a - b else if i.op = 11 ∧ i.imm = 8 then a &&& b else if i.op = 11 ∧ i.imm = 11 then a + b else 0#32
structure LeakM where
 pc : BitVec 32
 code : BitVec 16
 a : BitVec 32
 b : BitVec 32
 r : BitVec 32
 old : BitVec 32
 bus : BitVec 32
 addr : BitVec 32
 memory : Bool
 random : Bool
deriving DecidableEq
def LeakM.cells (l : LeakM) : List AV := [W32 l.pc, W16 l.code, W32 l.a, W32 l.b, W32 l.r, W32 l.old, W32 l.bus, W32 l.addr, .bool l.memory, .bool l.random]
def LeakM.zero : LeakM := ⟨0#32, 0#16, 0#32, 0#32, 0#32, 0#32, 0#32, 0#32, false, false⟩
def z_l6 (i : InsM) : Bool := decide (i.op = 13) || decide (i.op = 15)
def leakI (i : InsM) (h : BitVec 16) (s t : StM) (bus : BitVec 32) : LeakM :=
 { pc := s.pc, code := h, a := (opsM i s).1, b := (opsM i s).2, bus := bus, addr := (z_ep i s).1, memory := (z_ep i s).2,
   random := (z_ep i s).2 && !z_l6 i && decide ((z_ep i s).1 = 1073741824#32),
   r := if (z_ed i).2 = true then t.reg (z_ed i).1.toNat else if z_l6 i = true then (opsM i s).1 else z_mb i (opsM i s).1 (opsM i s).2,
   old := if (z_ed i).2 = true then s.reg (z_ed i).1.toNat else 0#32 }
def leakM (s : StM) (m : MemM) : LeakM :=
 if (stepM s m).e = 0 then leakI (takeN (m.fetch s.pc).1.toNat).1 (m.fetch s.pc).1 s (stepM s m).s m.bus else LeakM.zero
end Go.Abs
end
section
namespace Go.Abs
open Th
theorem z_pi {m m' : MemM} (h : Keeps m m') (a : BitVec 32) : m'.fetch a = m.fetch a := by unfold MemM.fetch; rw [h.code]
theorem z_m0 (s : StM) (m : MemM) (h : (stepM s m).e = 0) : ∃ i : InsM, i.can = true ∧ takeN (m.fetch s.pc).1.toNat = (i, 0) ∧ m.fetch s.pc = ((m.fetch s.pc).1, 0) := by
 rcases z_qi m s.pc with hf | hf
 ·rcases z_jk (m.fetch s.pc).1.toNat with ⟨i, hc, hp, ht⟩ | ht
  ·exact ⟨i, hc, ht, hf⟩
  ·unfold stepM at h
   rw [if_pos (by rw [hf]), ht] at h
   simp at h
 ·unfold stepM at h
  rw [hf] at h
  simp at h
def z_oo (s : StM) (m : MemM) : AV := .tup [.agg (stepM s m).s.cells, .agg (leakM s m).cells, .bool (stepM s m).stop, .int .i64 (stepM s m).e]
end Go.Abs
end
section
namespace Go.Abs
open Th
def Chars (s : ByteArray) (l : List Nat) : Prop := s.size = l.length ∧ ∀ (k : Nat) (h1 : k < l.length) (h2 : k < s.size), s[k].toBitVec.toNat = l[k]
theorem z_qe (s : ByteArray) (l : List Nat) (hs : Chars s l) (hl : l.length ≤ 1000) (c : BitVec 8) (H : Hp) : ∀ d i : Nat, i + d = l.length →
  aloop z_cw.l0 (AFr.al [(0, .str s), (1, W8 c), (5, .int .i64 (i : Int))]) H =
   if (l.drop i).any (· == c.toNat) = true then some (.ret, AFr.al [(4, .bool true)], H) else some (.exit 0, AFr.al [(0, .str s), (1, W8 c), (5, .int .i64 (l.length : Int)), (9, .bool false)], H)
 | 0, i, h => by
  rw [z_al, List.drop_of_length_le (by omega), if_neg (by simp)]
  have h1 := hs.1
  simp -implicitDefEqProofs +contextual (disch := omega) [z_cw.l0, show i = l.length from by omega, h1]
 | d + 1, i, h => by
  have ih := z_qe s l hs hl c H d (i + 1) (by omega)
  rw [Int.natCast_succ] at ih
  have h1 := hs.1
  have hb := hs.2 i (by omega) (by omega)
  have hr : (l.drop i).any (· == c.toNat) = ((l[i] == c.toNat) || (l.drop (i + 1)).any (· == c.toNat)) := by rw [List.drop_eq_getElem_cons (by omega), List.any_cons]
  rw [z_al, hr]
  by_cases q : s[i].toBitVec = c
  ·have q3 : (l[i] == c.toNat) = true := by rw [← hb, q]; simp
   rw [q3, Bool.true_or, if_pos rfl]
   simp -implicitDefEqProofs +contextual (disch := omega) [z_cw.l0, h1, q]
  ·have q3 : (l[i] == c.toNat) = false := by rw [← hb, beq_eq_false_iff_ne]; exact fun e => q (BitVec.eq_of_toNat_eq e)
   rw [q3, Bool.false_or, ← ih]
   simp -implicitDefEqProofs +contextual (disch := omega) [z_cw.l0, h1, q]
theorem z_a9 (s : ByteArray) (l : List Nat) (hs : Chars s l) (hl : l.length ≤ 1000) (c : BitVec 8) : z_cw.spec [.str s, W8 c] = some (.bool (l.any (· == c.toNat))) := by
 have h := z_qe s l hs hl c Hp.empty l.length 0 (by omega)
 rw [List.drop_zero] at h
 rw [show ((0 : Nat) : Int) = 0 from rfl] at h
 cases hq : l.any (· == c.toNat) with
 | true =>
  rw [if_pos hq] at h
  simp -implicitDefEqProofs +contextual (disch := omega) [z_cw.spec, z_cw, h]
 | false =>
  rw [if_neg (by rw [hq]; simp)] at h
  simp -implicitDefEqProofs +contextual (disch := omega) [z_cw.spec, z_cw, h]
def txtB (op : Nat) : ByteArray := ⟨((txt op).map fun n => UInt8.ofNat n).toArray⟩
theorem z_ai (op : Nat) (hop : op ≤ 20) : Chars (txtB op) (txt op) := by
 have hl : ∀ op : Nat, op ≤ 20 → (txt op).length = 16 := by decide
 have hb : ∀ op : Nat, op ≤ 20 → ∀ c, c ∈ txt op → c < 256 := by decide
 refine ⟨by simp [txtB, ByteArray.size], fun k h1 h2 => ?_⟩
 have h3 := hb op hop _ (List.getElem_mem h1)
 have : (txtB op)[k] = UInt8.ofNat ((txt op)[k]) := by
  simp [txtB, ByteArray.getElem_eq_getElem_data]
 rw [this]
 simp [BitVec.toNat_ofNat]
 omega
theorem Shape0 : z_ax.spec [.int .i64 0] = some (.str (txtB 0)) := by kernel_rfl
theorem Low0 : z_be.spec [.int .i64 0] = some (.int .i64 (shp 0).low) := by kernel_rfl
theorem High0 : z_a2.spec [.int .i64 0] = some (.int .i64 (shp 0).high) := by kernel_rfl
theorem Can0 (d n m imm : Int) : z_ah.spec [InsAV ⟨0, d, n, m, imm⟩] = some (.bool (InsM.mk 0 d n m imm).can) := by
 have f1 := z_a9 (txtB 0) (txt 0) (z_ai 0 (by omega)) (by decide) 99#8
 have f2 := z_a9 (txtB 0) (txt 0) (z_ai 0 (by omega)) (by decide) 100#8
 have f3 := z_a9 (txtB 0) (txt 0) (z_ai 0 (by omega)) (by decide) 110#8
 have f4 := z_a9 (txtB 0) (txt 0) (z_ai 0 (by omega)) (by decide) 109#8
 simp [txt] at f1 f2 f3 f4
 have g1 := Shape0; have g2 := Low0; have g3 := High0
 simp [shp] at g2 g3
 have hc := z_aw 0 (by omega) d n m imm
 simp only [shp, maxD, maxN, maxM, hasD, hasN, hasM] at hc
 generalize hb : (InsM.mk 0 d n m imm).can = b
 rw [show (InsM.mk (0 : Nat) d n m imm).can = b from hb] at hc
 repeat' (first
  | (simp -implicitDefEqProofs +contextual (disch := omega) [z_ah.spec, z_ah, InsAV, f1, f2, f3, f4, g1, g2, g3])
  | (refine z_as (fun h => ?_) (fun h => ?_)))
 all_goals (first | (cases b <;> simp_all <;> omega) | trace_state)
theorem Shape1 : z_ax.spec [.int .i64 1] = some (.str (txtB 1)) := by kernel_rfl
theorem Low1 : z_be.spec [.int .i64 1] = some (.int .i64 (shp 1).low) := by kernel_rfl
theorem High1 : z_a2.spec [.int .i64 1] = some (.int .i64 (shp 1).high) := by kernel_rfl
theorem Can1 (d n m imm : Int) : z_ah.spec [InsAV ⟨1, d, n, m, imm⟩] = some (.bool (InsM.mk 1 d n m imm).can) := by
 have f1 := z_a9 (txtB 1) (txt 1) (z_ai 1 (by omega)) (by decide) 99#8
 have f2 := z_a9 (txtB 1) (txt 1) (z_ai 1 (by omega)) (by decide) 100#8
 have f3 := z_a9 (txtB 1) (txt 1) (z_ai 1 (by omega)) (by decide) 110#8
 have f4 := z_a9 (txtB 1) (txt 1) (z_ai 1 (by omega)) (by decide) 109#8
 simp [txt] at f1 f2 f3 f4
 have g1 := Shape1; have g2 := Low1; have g3 := High1
 simp [shp] at g2 g3
 have hc := z_aw 1 (by omega) d n m imm
 simp only [shp, maxD, maxN, maxM, hasD, hasN, hasM] at hc
 generalize hb : (InsM.mk 1 d n m imm).can = b
 rw [show (InsM.mk (1 : Nat) d n m imm).can = b from hb] at hc
 repeat' (first
  | (simp -implicitDefEqProofs +contextual (disch := omega) [z_ah.spec, z_ah, InsAV, f1, f2, f3, f4, g1, g2, g3])
  | (refine z_as (fun h => ?_) (fun h => ?_)))
 all_goals (first | (cases b <;> simp_all <;> omega) | trace_state)
theorem Shape2 : z_ax.spec [.int .i64 2] = some (.str (txtB 2)) := by kernel_rfl
theorem Low2 : z_be.spec [.int .i64 2] = some (.int .i64 (shp 2).low) := by kernel_rfl
theorem High2 : z_a2.spec [.int .i64 2] = some (.int .i64 (shp 2).high) := by kernel_rfl
theorem Can2 (d n m imm : Int) : z_ah.spec [InsAV ⟨2, d, n, m, imm⟩] = some (.bool (InsM.mk 2 d n m imm).can) := by
 have f1 := z_a9 (txtB 2) (txt 2) (z_ai 2 (by omega)) (by decide) 99#8
 have f2 := z_a9 (txtB 2) (txt 2) (z_ai 2 (by omega)) (by decide) 100#8
 have f3 := z_a9 (txtB 2) (txt 2) (z_ai 2 (by omega)) (by decide) 110#8
 have f4 := z_a9 (txtB 2) (txt 2) (z_ai 2 (by omega)) (by decide) 109#8
 simp [txt] at f1 f2 f3 f4
 have g1 := Shape2; have g2 := Low2; have g3 := High2
 simp [shp] at g2 g3
 have hc := z_aw 2 (by omega) d n m imm
 simp only [shp, maxD, maxN, maxM, hasD, hasN, hasM] at hc
 generalize hb : (InsM.mk 2 d n m imm).can = b
 rw [show (InsM.mk (2 : Nat) d n m imm).can = b from hb] at hc
 repeat' (first
  | (simp -implicitDefEqProofs +contextual (disch := omega) [z_ah.spec, z_ah, InsAV, f1, f2, f3, f4, g1, g2, g3])
  | (refine z_as (fun h => ?_) (fun h => ?_)))
 all_goals (first | (cases b <;> simp_all <;> omega) | trace_state)
theorem Shape3 : z_ax.spec [.int .i64 3] = some (.str (txtB 3)) := by kernel_rfl
theorem Low3 : z_be.spec [.int .i64 3] = some (.int .i64 (shp 3).low) := by kernel_rfl
theorem High3 : z_a2.spec [.int .i64 3] = some (.int .i64 (shp 3).high) := by kernel_rfl
theorem Can3 (d n m imm : Int) : z_ah.spec [InsAV ⟨3, d, n, m, imm⟩] = some (.bool (InsM.mk 3 d n m imm).can) := by
 have f1 := z_a9 (txtB 3) (txt 3) (z_ai 3 (by omega)) (by decide) 99#8
 have f2 := z_a9 (txtB 3) (txt 3) (z_ai 3 (by omega)) (by decide) 100#8
 have f3 := z_a9 (txtB 3) (txt 3) (z_ai 3 (by omega)) (by decide) 110#8
 have f4 := z_a9 (txtB 3) (txt 3) (z_ai 3 (by omega)) (by decide) 109#8
 simp [txt] at f1 f2 f3 f4
 have g1 := Shape3; have g2 := Low3; have g3 := High3
 simp [shp] at g2 g3
 have hc := z_aw 3 (by omega) d n m imm
 simp only [shp, maxD, maxN, maxM, hasD, hasN, hasM] at hc
 generalize hb : (InsM.mk 3 d n m imm).can = b
 rw [show (InsM.mk (3 : Nat) d n m imm).can = b from hb] at hc
 repeat' (first
  | (simp -implicitDefEqProofs +contextual (disch := omega) [z_ah.spec, z_ah, InsAV, f1, f2, f3, f4, g1, g2, g3])
  | (refine z_as (fun h => ?_) (fun h => ?_)))
 all_goals (first | (cases b <;> simp_all <;> omega) | trace_state)
theorem Shape4 : z_ax.spec [.int .i64 4] = some (.str (txtB 4)) := by kernel_rfl
theorem Low4 : z_be.spec [.int .i64 4] = some (.int .i64 (shp 4).low) := by kernel_rfl
theorem High4 : z_a2.spec [.int .i64 4] = some (.int .i64 (shp 4).high) := by kernel_rfl
theorem Can4 (d n m imm : Int) : z_ah.spec [InsAV ⟨4, d, n, m, imm⟩] = some (.bool (InsM.mk 4 d n m imm).can) := by
 have f1 := z_a9 (txtB 4) (txt 4) (z_ai 4 (by omega)) (by decide) 99#8
 have f2 := z_a9 (txtB 4) (txt 4) (z_ai 4 (by omega)) (by decide) 100#8
 have f3 := z_a9 (txtB 4) (txt 4) (z_ai 4 (by omega)) (by decide) 110#8
 have f4 := z_a9 (txtB 4) (txt 4) (z_ai 4 (by omega)) (by decide) 109#8
 simp [txt] at f1 f2 f3 f4
 have g1 := Shape4; have g2 := Low4; have g3 := High4
 simp [shp] at g2 g3
 have hc := z_aw 4 (by omega) d n m imm
 simp only [shp, maxD, maxN, maxM, hasD, hasN, hasM] at hc
 generalize hb : (InsM.mk 4 d n m imm).can = b
 rw [show (InsM.mk (4 : Nat) d n m imm).can = b from hb] at hc
 repeat' (first
  | (simp -implicitDefEqProofs +contextual (disch := omega) [z_ah.spec, z_ah, InsAV, f1, f2, f3, f4, g1, g2, g3])
  | (refine z_as (fun h => ?_) (fun h => ?_)))
 all_goals (first | (cases b <;> simp_all <;> omega) | trace_state)
theorem Shape5 : z_ax.spec [.int .i64 5] = some (.str (txtB 5)) := by kernel_rfl
theorem Low5 : z_be.spec [.int .i64 5] = some (.int .i64 (shp 5).low) := by kernel_rfl
theorem High5 : z_a2.spec [.int .i64 5] = some (.int .i64 (shp 5).high) := by kernel_rfl
theorem Can5 (d n m imm : Int) : z_ah.spec [InsAV ⟨5, d, n, m, imm⟩] = some (.bool (InsM.mk 5 d n m imm).can) := by
 have f1 := z_a9 (txtB 5) (txt 5) (z_ai 5 (by omega)) (by decide) 99#8
 have f2 := z_a9 (txtB 5) (txt 5) (z_ai 5 (by omega)) (by decide) 100#8
 have f3 := z_a9 (txtB 5) (txt 5) (z_ai 5 (by omega)) (by decide) 110#8
 have f4 := z_a9 (txtB 5) (txt 5) (z_ai 5 (by omega)) (by decide) 109#8
 simp [txt] at f1 f2 f3 f4
 have g1 := Shape5; have g2 := Low5; have g3 := High5
 simp [shp] at g2 g3
 have hc := z_aw 5 (by omega) d n m imm
 simp only [shp, maxD, maxN, maxM, hasD, hasN, hasM] at hc
 generalize hb : (InsM.mk 5 d n m imm).can = b
 rw [show (InsM.mk (5 : Nat) d n m imm).can = b from hb] at hc
 repeat' (first
  | (simp -implicitDefEqProofs +contextual (disch := omega) [z_ah.spec, z_ah, InsAV, f1, f2, f3, f4, g1, g2, g3])
  | (refine z_as (fun h => ?_) (fun h => ?_)))
 all_goals (first | (cases b <;> simp_all <;> omega) | trace_state)
theorem Shape6 : z_ax.spec [.int .i64 6] = some (.str (txtB 6)) := by kernel_rfl
theorem Low6 : z_be.spec [.int .i64 6] = some (.int .i64 (shp 6).low) := by kernel_rfl
theorem High6 : z_a2.spec [.int .i64 6] = some (.int .i64 (shp 6).high) := by kernel_rfl
theorem Can6 (d n m imm : Int) : z_ah.spec [InsAV ⟨6, d, n, m, imm⟩] = some (.bool (InsM.mk 6 d n m imm).can) := by
 have f1 := z_a9 (txtB 6) (txt 6) (z_ai 6 (by omega)) (by decide) 99#8
 have f2 := z_a9 (txtB 6) (txt 6) (z_ai 6 (by omega)) (by decide) 100#8
 have f3 := z_a9 (txtB 6) (txt 6) (z_ai 6 (by omega)) (by decide) 110#8
 have f4 := z_a9 (txtB 6) (txt 6) (z_ai 6 (by omega)) (by decide) 109#8
 simp [txt] at f1 f2 f3 f4
 have g1 := Shape6; have g2 := Low6; have g3 := High6
 simp [shp] at g2 g3
 have hc := z_aw 6 (by omega) d n m imm
 simp only [shp, maxD, maxN, maxM, hasD, hasN, hasM] at hc
 generalize hb : (InsM.mk 6 d n m imm).can = b
 rw [show (InsM.mk (6 : Nat) d n m imm).can = b from hb] at hc
 repeat' (first
  | (simp -implicitDefEqProofs +contextual (disch := omega) [z_ah.spec, z_ah, InsAV, f1, f2, f3, f4, g1, g2, g3])
  | (refine z_as (fun h => ?_) (fun h => ?_)))
 all_goals (first | (cases b <;> simp_all <;> omega) | trace_state)
theorem Shape7 : z_ax.spec [.int .i64 7] = some (.str (txtB 7)) := by kernel_rfl
theorem Low7 : z_be.spec [.int .i64 7] = some (.int .i64 (shp 7).low) := by kernel_rfl
theorem High7 : z_a2.spec [.int .i64 7] = some (.int .i64 (shp 7).high) := by kernel_rfl
theorem Can7 (d n m imm : Int) : z_ah.spec [InsAV ⟨7, d, n, m, imm⟩] = some (.bool (InsM.mk 7 d n m imm).can) := by
 have f1 := z_a9 (txtB 7) (txt 7) (z_ai 7 (by omega)) (by decide) 99#8
 have f2 := z_a9 (txtB 7) (txt 7) (z_ai 7 (by omega)) (by decide) 100#8
 have f3 := z_a9 (txtB 7) (txt 7) (z_ai 7 (by omega)) (by decide) 110#8
 have f4 := z_a9 (txtB 7) (txt 7) (z_ai 7 (by omega)) (by decide) 109#8
 simp [txt] at f1 f2 f3 f4
 have g1 := Shape7; have g2 := Low7; have g3 := High7
 simp [shp] at g2 g3
 have hc := z_aw 7 (by omega) d n m imm
 simp only [shp, maxD, maxN, maxM, hasD, hasN, hasM] at hc
 generalize hb : (InsM.mk 7 d n m imm).can = b
 rw [show (InsM.mk (7 : Nat) d n m imm).can = b from hb] at hc
 repeat' (first
  | (simp -implicitDefEqProofs +contextual (disch := omega) [z_ah.spec, z_ah, InsAV, f1, f2, f3, f4, g1, g2, g3])
  | (refine z_as (fun h => ?_) (fun h => ?_)))
 all_goals (first | (cases b <;> simp_all <;> omega) | trace_state)
theorem Shape8 : z_ax.spec [.int .i64 8] = some (.str (txtB 8)) := by kernel_rfl
theorem Low8 : z_be.spec [.int .i64 8] = some (.int .i64 (shp 8).low) := by kernel_rfl
theorem High8 : z_a2.spec [.int .i64 8] = some (.int .i64 (shp 8).high) := by kernel_rfl
theorem Can8 (d n m imm : Int) : z_ah.spec [InsAV ⟨8, d, n, m, imm⟩] = some (.bool (InsM.mk 8 d n m imm).can) := by
 have f1 := z_a9 (txtB 8) (txt 8) (z_ai 8 (by omega)) (by decide) 99#8
 have f2 := z_a9 (txtB 8) (txt 8) (z_ai 8 (by omega)) (by decide) 100#8
 have f3 := z_a9 (txtB 8) (txt 8) (z_ai 8 (by omega)) (by decide) 110#8
 have f4 := z_a9 (txtB 8) (txt 8) (z_ai 8 (by omega)) (by decide) 109#8
 simp [txt] at f1 f2 f3 f4
 have g1 := Shape8; have g2 := Low8; have g3 := High8
 simp [shp] at g2 g3
 have hc := z_aw 8 (by omega) d n m imm
 simp only [shp, maxD, maxN, maxM, hasD, hasN, hasM] at hc
 generalize hb : (InsM.mk 8 d n m imm).can = b
 rw [show (InsM.mk (8 : Nat) d n m imm).can = b from hb] at hc
 repeat' (first
  | (simp -implicitDefEqProofs +contextual (disch := omega) [z_ah.spec, z_ah, InsAV, f1, f2, f3, f4, g1, g2, g3])
  | (refine z_as (fun h => ?_) (fun h => ?_)))
 all_goals (first | (cases b <;> simp_all <;> omega) | trace_state)
theorem Shape9 : z_ax.spec [.int .i64 9] = some (.str (txtB 9)) := by kernel_rfl
theorem Low9 : z_be.spec [.int .i64 9] = some (.int .i64 (shp 9).low) := by kernel_rfl
theorem High9 : z_a2.spec [.int .i64 9] = some (.int .i64 (shp 9).high) := by kernel_rfl
theorem Can9 (d n m imm : Int) : z_ah.spec [InsAV ⟨9, d, n, m, imm⟩] = some (.bool (InsM.mk 9 d n m imm).can) := by
 have f1 := z_a9 (txtB 9) (txt 9) (z_ai 9 (by omega)) (by decide) 99#8
 have f2 := z_a9 (txtB 9) (txt 9) (z_ai 9 (by omega)) (by decide) 100#8
 have f3 := z_a9 (txtB 9) (txt 9) (z_ai 9 (by omega)) (by decide) 110#8
 have f4 := z_a9 (txtB 9) (txt 9) (z_ai 9 (by omega)) (by decide) 109#8
 simp [txt] at f1 f2 f3 f4
 have g1 := Shape9; have g2 := Low9; have g3 := High9
 simp [shp] at g2 g3
 have hc := z_aw 9 (by omega) d n m imm
 simp only [shp, maxD, maxN, maxM, hasD, hasN, hasM] at hc
 generalize hb : (InsM.mk 9 d n m imm).can = b
 rw [show (InsM.mk (9 : Nat) d n m imm).can = b from hb] at hc
 repeat' (first
  | (simp -implicitDefEqProofs +contextual (disch := omega) [z_ah.spec, z_ah, InsAV, f1, f2, f3, f4, g1, g2, g3])
  | (refine z_as (fun h => ?_) (fun h => ?_)))
 all_goals (first | (cases b <;> simp_all <;> omega) | trace_state)
theorem Shape10 : z_ax.spec [.int .i64 10] = some (.str (txtB 10)) := by kernel_rfl
theorem Low10 : z_be.spec [.int .i64 10] = some (.int .i64 (shp 10).low) := by kernel_rfl
theorem High10 : z_a2.spec [.int .i64 10] = some (.int .i64 (shp 10).high) := by kernel_rfl
theorem Can10 (d n m imm : Int) : z_ah.spec [InsAV ⟨10, d, n, m, imm⟩] = some (.bool (InsM.mk 10 d n m imm).can) := by
 have f1 := z_a9 (txtB 10) (txt 10) (z_ai 10 (by omega)) (by decide) 99#8
 have f2 := z_a9 (txtB 10) (txt 10) (z_ai 10 (by omega)) (by decide) 100#8
 have f3 := z_a9 (txtB 10) (txt 10) (z_ai 10 (by omega)) (by decide) 110#8
 have f4 := z_a9 (txtB 10) (txt 10) (z_ai 10 (by omega)) (by decide) 109#8
 simp [txt] at f1 f2 f3 f4
 have g1 := Shape10; have g2 := Low10; have g3 := High10
 simp [shp] at g2 g3
 have hc := z_aw 10 (by omega) d n m imm
 simp only [shp, maxD, maxN, maxM, hasD, hasN, hasM] at hc
 generalize hb : (InsM.mk 10 d n m imm).can = b
 rw [show (InsM.mk (10 : Nat) d n m imm).can = b from hb] at hc
 repeat' (first
  | (simp -implicitDefEqProofs +contextual (disch := omega) [z_ah.spec, z_ah, InsAV, f1, f2, f3, f4, g1, g2, g3])
  | (refine z_as (fun h => ?_) (fun h => ?_)))
 all_goals (first | (cases b <;> simp_all <;> omega) | trace_state)
theorem Shape11 : z_ax.spec [.int .i64 11] = some (.str (txtB 11)) := by kernel_rfl
theorem Low11 : z_be.spec [.int .i64 11] = some (.int .i64 (shp 11).low) := by kernel_rfl
theorem High11 : z_a2.spec [.int .i64 11] = some (.int .i64 (shp 11).high) := by kernel_rfl
theorem Can11 (d n m imm : Int) : z_ah.spec [InsAV ⟨11, d, n, m, imm⟩] = some (.bool (InsM.mk 11 d n m imm).can) := by
 have f1 := z_a9 (txtB 11) (txt 11) (z_ai 11 (by omega)) (by decide) 99#8
 have f2 := z_a9 (txtB 11) (txt 11) (z_ai 11 (by omega)) (by decide) 100#8
 have f3 := z_a9 (txtB 11) (txt 11) (z_ai 11 (by omega)) (by decide) 110#8
 have f4 := z_a9 (txtB 11) (txt 11) (z_ai 11 (by omega)) (by decide) 109#8
 simp [txt] at f1 f2 f3 f4
 have g1 := Shape11; have g2 := Low11; have g3 := High11
 simp [shp] at g2 g3
 have hc := z_aw 11 (by omega) d n m imm
 simp only [shp, maxD, maxN, maxM, hasD, hasN, hasM] at hc
 generalize hb : (InsM.mk 11 d n m imm).can = b
 rw [show (InsM.mk (11 : Nat) d n m imm).can = b from hb] at hc
 repeat' (first
  | (simp -implicitDefEqProofs +contextual (disch := omega) [z_ah.spec, z_ah, InsAV, f1, f2, f3, f4, g1, g2, g3])
  | (refine z_as (fun h => ?_) (fun h => ?_)))
 all_goals (first | (cases b <;> simp_all <;> omega) | trace_state)
theorem Shape12 : z_ax.spec [.int .i64 12] = some (.str (txtB 12)) := by kernel_rfl
theorem Low12 : z_be.spec [.int .i64 12] = some (.int .i64 (shp 12).low) := by kernel_rfl
theorem High12 : z_a2.spec [.int .i64 12] = some (.int .i64 (shp 12).high) := by kernel_rfl
theorem Can12 (d n m imm : Int) : z_ah.spec [InsAV ⟨12, d, n, m, imm⟩] = some (.bool (InsM.mk 12 d n m imm).can) := by
 have f1 := z_a9 (txtB 12) (txt 12) (z_ai 12 (by omega)) (by decide) 99#8
 have f2 := z_a9 (txtB 12) (txt 12) (z_ai 12 (by omega)) (by decide) 100#8
 have f3 := z_a9 (txtB 12) (txt 12) (z_ai 12 (by omega)) (by decide) 110#8
 have f4 := z_a9 (txtB 12) (txt 12) (z_ai 12 (by omega)) (by decide) 109#8
 simp [txt] at f1 f2 f3 f4
 have g1 := Shape12; have g2 := Low12; have g3 := High12
 simp [shp] at g2 g3
 have hc := z_aw 12 (by omega) d n m imm
 simp only [shp, maxD, maxN, maxM, hasD, hasN, hasM] at hc
 generalize hb : (InsM.mk 12 d n m imm).can = b
 rw [show (InsM.mk (12 : Nat) d n m imm).can = b from hb] at hc
 repeat' (first
  | (simp -implicitDefEqProofs +contextual (disch := omega) [z_ah.spec, z_ah, InsAV, f1, f2, f3, f4, g1, g2, g3])
  | (refine z_as (fun h => ?_) (fun h => ?_)))
 all_goals (first | (cases b <;> simp_all <;> omega) | trace_state)
theorem Shape13 : z_ax.spec [.int .i64 13] = some (.str (txtB 13)) := by kernel_rfl
theorem Low13 : z_be.spec [.int .i64 13] = some (.int .i64 (shp 13).low) := by kernel_rfl
theorem High13 : z_a2.spec [.int .i64 13] = some (.int .i64 (shp 13).high) := by kernel_rfl
theorem Can13 (d n m imm : Int) : z_ah.spec [InsAV ⟨13, d, n, m, imm⟩] = some (.bool (InsM.mk 13 d n m imm).can) := by
 have f1 := z_a9 (txtB 13) (txt 13) (z_ai 13 (by omega)) (by decide) 99#8
 have f2 := z_a9 (txtB 13) (txt 13) (z_ai 13 (by omega)) (by decide) 100#8
 have f3 := z_a9 (txtB 13) (txt 13) (z_ai 13 (by omega)) (by decide) 110#8
 have f4 := z_a9 (txtB 13) (txt 13) (z_ai 13 (by omega)) (by decide) 109#8
 simp [txt] at f1 f2 f3 f4
 have g1 := Shape13; have g2 := Low13; have g3 := High13
 simp [shp] at g2 g3
 have hc := z_aw 13 (by omega) d n m imm
 simp only [shp, maxD, maxN, maxM, hasD, hasN, hasM] at hc
 generalize hb : (InsM.mk 13 d n m imm).can = b
 rw [show (InsM.mk (13 : Nat) d n m imm).can = b from hb] at hc
 repeat' (first
  | (simp -implicitDefEqProofs +contextual (disch := omega) [z_ah.spec, z_ah, InsAV, f1, f2, f3, f4, g1, g2, g3])
  | (refine z_as (fun h => ?_) (fun h => ?_)))
 all_goals (first | (cases b <;> simp_all <;> omega) | trace_state)
theorem Shape14 : z_ax.spec [.int .i64 14] = some (.str (txtB 14)) := by kernel_rfl
theorem Low14 : z_be.spec [.int .i64 14] = some (.int .i64 (shp 14).low) := by kernel_rfl
theorem High14 : z_a2.spec [.int .i64 14] = some (.int .i64 (shp 14).high) := by kernel_rfl
theorem Can14 (d n m imm : Int) : z_ah.spec [InsAV ⟨14, d, n, m, imm⟩] = some (.bool (InsM.mk 14 d n m imm).can) := by
 have f1 := z_a9 (txtB 14) (txt 14) (z_ai 14 (by omega)) (by decide) 99#8
 have f2 := z_a9 (txtB 14) (txt 14) (z_ai 14 (by omega)) (by decide) 100#8
 have f3 := z_a9 (txtB 14) (txt 14) (z_ai 14 (by omega)) (by decide) 110#8
 have f4 := z_a9 (txtB 14) (txt 14) (z_ai 14 (by omega)) (by decide) 109#8
 simp [txt] at f1 f2 f3 f4
 have g1 := Shape14; have g2 := Low14; have g3 := High14
 simp [shp] at g2 g3
 have hc := z_aw 14 (by omega) d n m imm
 simp only [shp, maxD, maxN, maxM, hasD, hasN, hasM] at hc
 generalize hb : (InsM.mk 14 d n m imm).can = b
 rw [show (InsM.mk (14 : Nat) d n m imm).can = b from hb] at hc
 repeat' (first
  | (simp -implicitDefEqProofs +contextual (disch := omega) [z_ah.spec, z_ah, InsAV, f1, f2, f3, f4, g1, g2, g3])
  | (refine z_as (fun h => ?_) (fun h => ?_)))
 all_goals (first | (cases b <;> simp_all <;> omega) | trace_state)
theorem Shape15 : z_ax.spec [.int .i64 15] = some (.str (txtB 15)) := by kernel_rfl
theorem Low15 : z_be.spec [.int .i64 15] = some (.int .i64 (shp 15).low) := by kernel_rfl
theorem High15 : z_a2.spec [.int .i64 15] = some (.int .i64 (shp 15).high) := by kernel_rfl
theorem Can15 (d n m imm : Int) : z_ah.spec [InsAV ⟨15, d, n, m, imm⟩] = some (.bool (InsM.mk 15 d n m imm).can) := by
 have f1 := z_a9 (txtB 15) (txt 15) (z_ai 15 (by omega)) (by decide) 99#8
 have f2 := z_a9 (txtB 15) (txt 15) (z_ai 15 (by omega)) (by decide) 100#8
 have f3 := z_a9 (txtB 15) (txt 15) (z_ai 15 (by omega)) (by decide) 110#8
 have f4 := z_a9 (txtB 15) (txt 15) (z_ai 15 (by omega)) (by decide) 109#8
 simp [txt] at f1 f2 f3 f4
 have g1 := Shape15; have g2 := Low15; have g3 := High15
 simp [shp] at g2 g3
 have hc := z_aw 15 (by omega) d n m imm
 simp only [shp, maxD, maxN, maxM, hasD, hasN, hasM] at hc
 generalize hb : (InsM.mk 15 d n m imm).can = b
 rw [show (InsM.mk (15 : Nat) d n m imm).can = b from hb] at hc
 repeat' (first
  | (simp -implicitDefEqProofs +contextual (disch := omega) [z_ah.spec, z_ah, InsAV, f1, f2, f3, f4, g1, g2, g3])
  | (refine z_as (fun h => ?_) (fun h => ?_)))
 all_goals (first | (cases b <;> simp_all <;> omega) | trace_state)
theorem Shape16 : z_ax.spec [.int .i64 16] = some (.str (txtB 16)) := by kernel_rfl
theorem Low16 : z_be.spec [.int .i64 16] = some (.int .i64 (shp 16).low) := by kernel_rfl
theorem High16 : z_a2.spec [.int .i64 16] = some (.int .i64 (shp 16).high) := by kernel_rfl
theorem Can16 (d n m imm : Int) : z_ah.spec [InsAV ⟨16, d, n, m, imm⟩] = some (.bool (InsM.mk 16 d n m imm).can) := by
 have f1 := z_a9 (txtB 16) (txt 16) (z_ai 16 (by omega)) (by decide) 99#8
 have f2 := z_a9 (txtB 16) (txt 16) (z_ai 16 (by omega)) (by decide) 100#8
 have f3 := z_a9 (txtB 16) (txt 16) (z_ai 16 (by omega)) (by decide) 110#8
 have f4 := z_a9 (txtB 16) (txt 16) (z_ai 16 (by omega)) (by decide) 109#8
 simp [txt] at f1 f2 f3 f4
 have g1 := Shape16; have g2 := Low16; have g3 := High16
 simp [shp] at g2 g3
 have hc := z_aw 16 (by omega) d n m imm
 simp only [shp, maxD, maxN, maxM, hasD, hasN, hasM] at hc
 generalize hb : (InsM.mk 16 d n m imm).can = b
 rw [show (InsM.mk (16 : Nat) d n m imm).can = b from hb] at hc
 repeat' (first
  | (simp -implicitDefEqProofs +contextual (disch := omega) [z_ah.spec, z_ah, InsAV, f1, f2, f3, f4, g1, g2, g3])
  | (refine z_as (fun h => ?_) (fun h => ?_)))
 all_goals (first | (cases b <;> simp_all <;> omega) | trace_state)
theorem Shape17 : z_ax.spec [.int .i64 17] = some (.str (txtB 17)) := by kernel_rfl
theorem Low17 : z_be.spec [.int .i64 17] = some (.int .i64 (shp 17).low) := by kernel_rfl
theorem High17 : z_a2.spec [.int .i64 17] = some (.int .i64 (shp 17).high) := by kernel_rfl
theorem Can17 (d n m imm : Int) : z_ah.spec [InsAV ⟨17, d, n, m, imm⟩] = some (.bool (InsM.mk 17 d n m imm).can) := by
 have f1 := z_a9 (txtB 17) (txt 17) (z_ai 17 (by omega)) (by decide) 99#8
 have f2 := z_a9 (txtB 17) (txt 17) (z_ai 17 (by omega)) (by decide) 100#8
 have f3 := z_a9 (txtB 17) (txt 17) (z_ai 17 (by omega)) (by decide) 110#8
 have f4 := z_a9 (txtB 17) (txt 17) (z_ai 17 (by omega)) (by decide) 109#8
 simp [txt] at f1 f2 f3 f4
 have g1 := Shape17; have g2 := Low17; have g3 := High17
 simp [shp] at g2 g3
 have hc := z_aw 17 (by omega) d n m imm
 simp only [shp, maxD, maxN, maxM, hasD, hasN, hasM] at hc
 generalize hb : (InsM.mk 17 d n m imm).can = b
 rw [show (InsM.mk (17 : Nat) d n m imm).can = b from hb] at hc
 repeat' (first
  | (simp -implicitDefEqProofs +contextual (disch := omega) [z_ah.spec, z_ah, InsAV, f1, f2, f3, f4, g1, g2, g3])
  | (refine z_as (fun h => ?_) (fun h => ?_)))
 all_goals (first | (cases b <;> simp_all <;> omega) | trace_state)
theorem Shape18 : z_ax.spec [.int .i64 18] = some (.str (txtB 18)) := by kernel_rfl
theorem Low18 : z_be.spec [.int .i64 18] = some (.int .i64 (shp 18).low) := by kernel_rfl
theorem High18 : z_a2.spec [.int .i64 18] = some (.int .i64 (shp 18).high) := by kernel_rfl
theorem Can18 (d n m imm : Int) : z_ah.spec [InsAV ⟨18, d, n, m, imm⟩] = some (.bool (InsM.mk 18 d n m imm).can) := by
 have f1 := z_a9 (txtB 18) (txt 18) (z_ai 18 (by omega)) (by decide) 99#8
 have f2 := z_a9 (txtB 18) (txt 18) (z_ai 18 (by omega)) (by decide) 100#8
 have f3 := z_a9 (txtB 18) (txt 18) (z_ai 18 (by omega)) (by decide) 110#8
 have f4 := z_a9 (txtB 18) (txt 18) (z_ai 18 (by omega)) (by decide) 109#8
 simp [txt] at f1 f2 f3 f4
 have g1 := Shape18; have g2 := Low18; have g3 := High18
 simp [shp] at g2 g3
 have hc := z_aw 18 (by omega) d n m imm
 simp only [shp, maxD, maxN, maxM, hasD, hasN, hasM] at hc
 generalize hb : (InsM.mk 18 d n m imm).can = b
 rw [show (InsM.mk (18 : Nat) d n m imm).can = b from hb] at hc
 repeat' (first
  | (simp -implicitDefEqProofs +contextual (disch := omega) [z_ah.spec, z_ah, InsAV, f1, f2, f3, f4, g1, g2, g3])
  | (refine z_as (fun h => ?_) (fun h => ?_)))
 all_goals (first | (cases b <;> simp_all <;> omega) | trace_state)
theorem Shape19 : z_ax.spec [.int .i64 19] = some (.str (txtB 19)) := by kernel_rfl
theorem Low19 : z_be.spec [.int .i64 19] = some (.int .i64 (shp 19).low) := by kernel_rfl
theorem High19 : z_a2.spec [.int .i64 19] = some (.int .i64 (shp 19).high) := by kernel_rfl
theorem Can19 (d n m imm : Int) : z_ah.spec [InsAV ⟨19, d, n, m, imm⟩] = some (.bool (InsM.mk 19 d n m imm).can) := by
 have f1 := z_a9 (txtB 19) (txt 19) (z_ai 19 (by omega)) (by decide) 99#8
 have f2 := z_a9 (txtB 19) (txt 19) (z_ai 19 (by omega)) (by decide) 100#8
 have f3 := z_a9 (txtB 19) (txt 19) (z_ai 19 (by omega)) (by decide) 110#8
 have f4 := z_a9 (txtB 19) (txt 19) (z_ai 19 (by omega)) (by decide) 109#8
 simp [txt] at f1 f2 f3 f4
 have g1 := Shape19; have g2 := Low19; have g3 := High19
 simp [shp] at g2 g3
 have hc := z_aw 19 (by omega) d n m imm
 simp only [shp, maxD, maxN, maxM, hasD, hasN, hasM] at hc
 generalize hb : (InsM.mk 19 d n m imm).can = b
 rw [show (InsM.mk (19 : Nat) d n m imm).can = b from hb] at hc
 repeat' (first
  | (simp -implicitDefEqProofs +contextual (disch := omega) [z_ah.spec, z_ah, InsAV, f1, f2, f3, f4, g1, g2, g3])
  | (refine z_as (fun h => ?_) (fun h => ?_)))
 all_goals (first | (cases b <;> simp_all <;> omega) | trace_state)
theorem Shape20 : z_ax.spec [.int .i64 20] = some (.str (txtB 20)) := by kernel_rfl
theorem Low20 : z_be.spec [.int .i64 20] = some (.int .i64 (shp 20).low) := by kernel_rfl
theorem High20 : z_a2.spec [.int .i64 20] = some (.int .i64 (shp 20).high) := by kernel_rfl
theorem Can20 (d n m imm : Int) : z_ah.spec [InsAV ⟨20, d, n, m, imm⟩] = some (.bool (InsM.mk 20 d n m imm).can) := by
 have f1 := z_a9 (txtB 20) (txt 20) (z_ai 20 (by omega)) (by decide) 99#8
 have f2 := z_a9 (txtB 20) (txt 20) (z_ai 20 (by omega)) (by decide) 100#8
 have f3 := z_a9 (txtB 20) (txt 20) (z_ai 20 (by omega)) (by decide) 110#8
 have f4 := z_a9 (txtB 20) (txt 20) (z_ai 20 (by omega)) (by decide) 109#8
 simp [txt] at f1 f2 f3 f4
 have g1 := Shape20; have g2 := Low20; have g3 := High20
 simp [shp] at g2 g3
 have hc := z_aw 20 (by omega) d n m imm
 simp only [shp, maxD, maxN, maxM, hasD, hasN, hasM] at hc
 generalize hb : (InsM.mk 20 d n m imm).can = b
 rw [show (InsM.mk (20 : Nat) d n m imm).can = b from hb] at hc
 repeat' (first
  | (simp -implicitDefEqProofs +contextual (disch := omega) [z_ah.spec, z_ah, InsAV, f1, f2, f3, f4, g1, g2, g3])
  | (refine z_as (fun h => ?_) (fun h => ?_)))
 all_goals (first | (cases b <;> simp_all <;> omega) | trace_state)
end Go.Abs
end
section
namespace Go.Abs
open Th
theorem z_o8 (i : InsM) : z_ah.spec [InsAV i] = some (.bool i.can) := by
 obtain ⟨op, d, n, m, imm⟩ := i
 by_cases h : 0 ≤ op ∧ op ≤ 20
 ·obtain ⟨k, rfl⟩ : ∃ k : Nat, op = k := ⟨op.toNat, by omega⟩
  exact cases21 (P := fun k => z_ah.spec [InsAV ⟨k, d, n, m, imm⟩] = some (.bool (InsM.mk k d n m imm).can)) k (by omega) (Can0 d n m imm) (Can1 d n m imm) (Can2 d n m imm) (Can3 d n m imm) (Can4 d n m imm) (Can5 d n m imm) (Can6 d n m imm) (Can7 d n m imm) (Can8 d n m imm) (Can9 d n m imm) (Can10 d n m imm)
   (Can11 d n m imm) (Can12 d n m imm) (Can13 d n m imm) (Can14 d n m imm) (Can15 d n m imm) (Can16 d n m imm) (Can17 d n m imm) (Can18 d n m imm) (Can19 d n m imm) (Can20 d n m imm)
 ·have hc : (InsM.mk op d n m imm).can = false := by
   rw [Bool.eq_false_iff, Ne, z_gl]; exact fun q => h q.1
  have h' : op < 0 ∨ 20 < op := by omega
  rw [hc]
  simp -implicitDefEqProofs +contextual (disch := omega) [z_ah.spec, z_ah, InsAV, h']
theorem z_w6 (op : Nat) (h : op ≤ 20) : z_ax.spec [.int .i64 (op : Nat)] = some (.str (txtB op)) :=
 cases21 (P := fun op => z_ax.spec [.int .i64 (op : Nat)] = some (.str (txtB op))) op h Shape0 Shape1 Shape2 Shape3 Shape4 Shape5 Shape6 Shape7 Shape8 Shape9 Shape10 Shape11 Shape12 Shape13 Shape14 Shape15 Shape16 Shape17 Shape18 Shape19 Shape20
theorem Low_eq (op : Nat) (h : op ≤ 20) : z_be.spec [.int .i64 (op : Nat)] = some (.int .i64 (shp op).low) :=
 cases21 (P := fun op => z_be.spec [.int .i64 (op : Nat)] = some (.int .i64 (shp op).low)) op h Low0 Low1 Low2 Low3 Low4 Low5 Low6 Low7 Low8 Low9 Low10 Low11 Low12 Low13 Low14 Low15 Low16 Low17 Low18 Low19 Low20
theorem z_0q (op : Nat) (h : op ≤ 20) : z_a2.spec [.int .i64 (op : Nat)] = some (.int .i64 (shp op).high) :=
 cases21 (P := fun op => z_a2.spec [.int .i64 (op : Nat)] = some (.int .i64 (shp op).high)) op h High0 High1 High2 High3 High4 High5 High6 High7 High8 High9 High10 High11 High12 High13 High14 High15 High16 High17 High18 High19 High20
theorem z_x9 (op : Nat) (h : op ≤ 20) : (txt op).length = 16 := by
 have : ∀ op : Nat, op ≤ 20 → (txt op).length = 16 := by decide
 exact this op h
end Go.Abs
end
section
namespace Go.Abs
open Th
noncomputable abbrev z_fh := z_az.l1 z_ax.spec z_be.spec z_a2.spec z_ah.spec
noncomputable abbrev z_hb := z_az.l0 z_ax.spec z_be.spec z_a2.spec z_ah.spec
def tkFr (h : BitVec 16) (op : Nat) (s : ByteArray) (b : Nat) (st : TakeS) (k : Nat) : List (Nat × AV) :=
 [(0, W16 h), (2, .ptr 0 5 0 0), (4, .int .i64 op), (5, .str s), (6, .ptr b 5 0 0), (7, .bool st.ok), (8, .int .i64 st.wide), (9, .int .i64 st.x), (10, .int .i64 k)]
def tkBlk (op : Nat) (st : TakeS) : Blk := z_ej ⟨op, st.d, st.n, st.m, st.imm⟩
theorem z_qz (h : BitVec 16) (op : Nat) (s : ByteArray) (l : List Nat) (hs : Chars s l) (hl : l.length = 16) (X : Hp) (b : Nat) (k : Nat) (hk : k < 16) (st : TakeS) (P : Nat) (hP : P ≤ 65536) (hx : st.x < 65536) (hd : st.d < P) (hn : st.n < P) (hm : st.m < P) (hi : st.imm < P) (hw : st.wide ≤ P) :
  z_fh (AFr.al (tkFr h op s b st k)) (X.set b (some (tkBlk op st))) = some (.normal, AFr.al (tkFr h op s b (z_hk l[k] st) (k + 1)), X.set b (some (tkBlk op (z_hk l[k] st)))) := by
 have hv := hs.2 k (by omega) (by have := hs.1; omega)
 have hsz : k < s.size := by have := hs.1; omega
 generalize hc : l[k] = c at hv
 have ne : ∀ q : Nat, q < 256 → c ≠ q → ¬ s[k].toBitVec = BitVec.ofNat 8 q := fun q hq hn e => by
  rw [e, BitVec.toNat_ofNat, Nat.mod_eq_of_lt hq] at hv; exact hn hv.symm
 have eq : ∀ q : Nat, q < 256 → c = q → s[k].toBitVec = BitVec.ofNat 8 q := fun q hq hn => by
  apply BitVec.eq_of_toNat_eq; rw [hv, BitVec.toNat_ofNat, Nat.mod_eq_of_lt hq, hn]
 unfold z_hk tkFr tkBlk z_ej
 obtain ⟨x, ok, wide, d, n, m, imm⟩ := st
 dsimp only at hx hd hn hm hi hw ⊢
 obtain ⟨bit, hbit⟩ : ∃ bit, x / 32768 = bit := ⟨_, rfl⟩
 obtain ⟨y, hy⟩ : ∃ y, x % 32768 = y := ⟨_, rfl⟩
 rw [hbit, hy]
 have hbc : (bit = 0 ∧ x = y ∧ x < 32768) ∨ (bit = 1 ∧ x = y + 32768 ∧ 32768 ≤ x) := by omega
 have hy2 : y < 32768 := by omega
 clear hbit hy
 rcases hbc with ⟨rfl, rfl, h3⟩ | ⟨rfl, rfl, h3⟩
 all_goals
  by_cases c1 : c = 48
  ·have e1 := eq 48 (by omega) c1
   simp -implicitDefEqProofs +contextual (disch := omega) [z_fh, z_az.l1, hsz, e1, c1]
  ·have n1 := ne 48 (by omega) c1
   by_cases c2 : c = 49
   ·have e1 := eq 49 (by omega) c2
    simp -implicitDefEqProofs +contextual (disch := omega) [z_fh, z_az.l1, hsz, e1, c2]
   ·have n2 := ne 49 (by omega) c2
    by_cases c3 : c = 100
    ·have e1 := eq 100 (by omega) c3
     simp -implicitDefEqProofs +contextual (disch := omega) [z_fh, z_az.l1, hsz, e1, c3]
    ·have n3 := ne 100 (by omega) c3
     by_cases c4 : c = 99
     ·have e1 := eq 99 (by omega) c4
      simp -implicitDefEqProofs +contextual (disch := omega) [z_fh, z_az.l1, hsz, e1, c4]
     ·have n4 := ne 99 (by omega) c4
      by_cases c5 : c = 110
      ·have e1 := eq 110 (by omega) c5
       simp -implicitDefEqProofs +contextual (disch := omega) [z_fh, z_az.l1, hsz, e1, c5]
      ·have n5 := ne 110 (by omega) c5
       by_cases c6 : c = 109
       ·have e1 := eq 109 (by omega) c6
        simp -implicitDefEqProofs +contextual (disch := omega) [z_fh, z_az.l1, hsz, e1, c6]
       ·have n6 := ne 109 (by omega) c6
        by_cases c7 : c = 105
        ·have e1 := eq 105 (by omega) c7
         simp -implicitDefEqProofs +contextual (disch := omega) [z_fh, z_az.l1, hsz, e1, c7]
        ·have n7 := ne 105 (by omega) c7
         simp -implicitDefEqProofs +contextual (disch := omega) [z_fh, z_az.l1, hsz, n1, n2, n3, n4, n5, n6, n7, c1, c2, c3, c4, c5, c6, c7]
structure TkB (st : TakeS) (P : Nat) : Prop where
 x : st.x < 65536
 d : st.d < P
 n : st.n < P
 m : st.m < P
 imm : st.imm < P
 wide : st.wide ≤ P
theorem z_sd (c : Nat) (st : TakeS) (P : Nat) (h : TkB st P) : TkB (z_hk c st) (P * 2) := by
 obtain ⟨h1, h2, h3, h4, h5, h6⟩ := h
 unfold z_hk; dsimp only; repeat' split
 all_goals (refine ⟨?_, ?_, ?_, ?_, ?_, ?_⟩ <;> dsimp only <;> omega)
theorem z_k6 (h : BitVec 16) (op : Nat) (s : ByteArray) (l : List Nat) (hs : Chars s l) (hl : l.length = 16) (X : Hp) (b : Nat) : ∀ (d k : Nat) (st : TakeS) (P : Nat), k + d = 16 → P * 2 ^ d ≤ 65536 → TkB st P →
  aloop z_fh (AFr.al (tkFr h op s b st k)) (X.set b (some (tkBlk op st))) =
   some (.exit 2, AFr.al (tkFr h op s b (z_fu (l.drop k) st) 16 ++ [(23, .bool false)]), X.set b (some (tkBlk op (z_fu (l.drop k) st)))) ∧ TkB (z_fu (l.drop k) st) (P * 2 ^ d)
 | 0, k, st, P, hk, hP, hb => by
  rw [List.drop_of_length_le (by omega)]
  refine ⟨z_bz (by simp) ?_, by simpa [z_fu] using hb⟩
  obtain rfl : k = 16 := by omega
  unfold tkFr z_fu
  simp -implicitDefEqProofs +contextual (disch := omega) [z_fh, z_az.l1]
 | d + 1, k, st, P, hk, hP, hb => by
  have hP2 : P * 2 * 2 ^ d ≤ 65536 := by rw [Nat.mul_assoc, Nat.mul_comm 2, ← Nat.pow_succ]; exact hP
  have hP1 : P ≤ 65536 := by have := Nat.two_pow_pos (d + 1); have := Nat.le_mul_of_pos_right P this; omega
  have e1 := z_qz h op s l hs hl X b k (by omega) st P hP1 hb.x hb.d hb.n hb.m hb.imm hb.wide
  have ih := z_k6 h op s l hs hl X b d (k + 1) (z_hk l[k] st) (P * 2) (by omega) hP2 (z_sd _ _ _ hb)
  rw [List.drop_eq_getElem_cons (by omega), z_dl e1]
  rw [show P * 2 ^ (d + 1) = P * 2 * 2 ^ d from by rw [Nat.mul_assoc, Nat.mul_comm 2, ← Nat.pow_succ]]
  exact ih
theorem z_sn (op : Nat) (hop : op ≤ 20) (h : BitVec 16) (H : Hp) (hw : H.WF) (i0 : InsM) (h0 : H.get 0 = some (z_ej i0)) : ∃ H' : Hp,
  z_hb (AFr.al [(0, W16 h), (2, .ptr 0 5 0 0), (4, .int .i64 (op : Nat))]) H = (if isR op h.toNat = true then some (.ret, AFr.al [(2, .ptr 0 5 0 0), (3, .int .i64 0)], H') else some (.normal, AFr.al [(0, W16 h), (2, .ptr 0 5 0 0), (4, .int .i64 (op + 1 : Nat))], H')) ∧
  H'.WF ∧ H'.get 0 = some (z_ej (if isR op h.toNat = true then candR op h.toNat else i0)) := by
 have hz := hw _ _ h0
 have g1 := z_w6 op hop; have g2 := Low_eq op hop; have g3 := z_0q op hop
 obtain ⟨e1, e2⟩ := z_k6 h op (txtB op) (txt op) (z_ai op hop) (z_x9 op hop) (H.push (z_ej ⟨0, 0, 0, 0, 0⟩)) H.next 16 0 ⟨h.toNat, true, 1, 0, 0, 0, 0⟩ 1 (by omega) (by omega) ⟨h.isLt, by simp, by simp, by simp, by simp, by simp⟩
 rw [List.drop_zero, show z_fu (txt op) ⟨h.toNat, true, 1, 0, 0, 0, 0⟩ = takeS op h.toNat from rfl] at e1 e2
 have hbd : -1024 ≤ (shp op).low ∧ (shp op).high ≤ 1023 ∧ (shp op).low ≤ 1 := by
  have : ∀ k : Nat, k ≤ 20 → -1024 ≤ (shp k).low ∧ (shp k).high ≤ 1023 ∧ (shp k).low ≤ 1 := by decide
  exact this op hop
 have hcan := z_o8 (candR op h.toNat)
 unfold isR candR at *
 generalize takeS op h.toNat = st at *
 dsimp only at hcan ⊢
 obtain ⟨b1, b2, b3, b4, b5, b6⟩ := e2
 simp only [Nat.reducePow, Nat.one_mul] at b2 b3 b4 b5 b6
 generalize (shp op).low = low at *
 generalize (shp op).high = high at *
 simp only [tkFr, tkBlk, z_ej, InsAV, List.cons_append, List.nil_append] at e1 hcan h0
 simp only [Int.natCast_zero, Int.natCast_one] at e1
 have hop2 : (op : Int) ≤ 20 := by omega
 have key : ∀ (v : Int) (c : Bool), v = (if low = 1 ∧ (if low < 0 ∧ (st.imm : Int) > high then (st.imm : Int) - st.wide else (st.imm : Int)) = 0 then (32 : Int) else if low < 0 ∧ (st.imm : Int) > high then (st.imm : Int) - st.wide else (st.imm : Int)) →
   z_ah.spec [.agg [.int .i64 op, .int .i64 st.d, .int .i64 st.n, .int .i64 st.m, .int .i64 v]] = some (.bool c) → ∃ H' : Hp,
   z_hb (AFr.al [(0, W16 h), (2, .ptr 0 5 0 0), (4, .int .i64 (op : Nat))]) H = (if (st.ok && c) = true then some (.ret, AFr.al [(2, .ptr 0 5 0 0), (3, .int .i64 0)], H') else some (.normal, AFr.al [(0, W16 h), (2, .ptr 0 5 0 0), (4, .int .i64 (op + 1 : Nat))], H')) ∧
   H'.WF ∧ H'.get 0 = some (z_ej (if (st.ok && c) = true then ⟨op, st.d, st.n, st.m, v⟩ else i0)) := by
  intro v c hv hcan
  by_cases l1 : low < 0
  ·have l3 : ¬ low = 1 := by omega
   by_cases l2 : high < (st.imm : Int)
   ·have hv' : v = (st.imm : Int) - st.wide := by rw [hv]; simp [l1, l2, l3]
    clear hv; subst hv'
    cases hok : st.ok <;> cases c
    all_goals
     refine ⟨?_, ?_, ?_, ?_⟩
     rotate_left
     ·simp -implicitDefEqProofs +contextual (disch := omega) [z_hb, z_az.l0, g1, g2, g3, e1, l1, l2, l3, hcan, hok, h0, z_ej]
      rfl
     ·(repeat' (first | assumption | with_reducible apply Hp.WF.push | with_reducible apply Hp.WF.set)) <;> simp <;> omega
     ·simp (disch := omega) [z_ej, h0]
   ·have hv' : v = (st.imm : Int) := by rw [hv]; simp [l1, l2, l3]
    clear hv; subst hv'
    cases hok : st.ok <;> cases c
    all_goals
     refine ⟨?_, ?_, ?_, ?_⟩
     rotate_left
     ·simp -implicitDefEqProofs +contextual (disch := omega) [z_hb, z_az.l0, g1, g2, g3, e1, l1, l2, l3, hcan, hok, h0, z_ej]
      rfl
     ·(repeat' (first | assumption | with_reducible apply Hp.WF.push | with_reducible apply Hp.WF.set)) <;> simp <;> omega
     ·simp (disch := omega) [z_ej, h0]
  ·by_cases l3 : low = 1
   ·by_cases l2 : st.imm = 0
    ·have l2i : (st.imm : Int) = 0 := by omega
     have hv' : v = 32 := by rw [hv]; simp [l1, l2, l3]
     clear hv; subst hv'
     cases hok : st.ok <;> cases c
     all_goals
      refine ⟨?_, ?_, ?_, ?_⟩
      rotate_left
      ·simp -implicitDefEqProofs +contextual (disch := omega) [z_hb, z_az.l0, g1, g2, g3, e1, l1, l2, l2i, l3, hcan, hok, h0, z_ej]
       rfl
      ·(repeat' (first | assumption | with_reducible apply Hp.WF.push | with_reducible apply Hp.WF.set)) <;> simp <;> omega
      ·simp (disch := omega) [z_ej, h0]
    ·have hv' : v = (st.imm : Int) := by rw [hv]; simp [l1, l2, l3]
     have l2i : ¬ (st.imm : Int) = 0 := by omega
     clear hv; subst hv'
     cases hok : st.ok <;> cases c
     all_goals
      refine ⟨?_, ?_, ?_, ?_⟩
      rotate_left
      ·simp -implicitDefEqProofs +contextual (disch := omega) [z_hb, z_az.l0, g1, g2, g3, e1, l1, l2, l2i, l3, hcan, hok, h0, z_ej]
       rfl
      ·(repeat' (first | assumption | with_reducible apply Hp.WF.push | with_reducible apply Hp.WF.set)) <;> simp <;> omega
      ·simp (disch := omega) [z_ej, h0]
   ·have hv' : v = (st.imm : Int) := by rw [hv]; simp [l1, l3]
    clear hv; subst hv'
    cases hok : st.ok <;> cases c
    all_goals
     refine ⟨?_, ?_, ?_, ?_⟩
     rotate_left
     ·simp -implicitDefEqProofs +contextual (disch := omega) [z_hb, z_az.l0, g1, g2, g3, e1, l1, l3, hcan, hok, h0, z_ej]
      rfl
     ·(repeat' (first | assumption | with_reducible apply Hp.WF.push | with_reducible apply Hp.WF.set)) <;> simp <;> omega
     ·simp (disch := omega) [z_ej, h0]
 exact key _ _ rfl hcan
def z_gb (h : Nat) : Nat → Nat → InsM × Int
 | 0, _ => (InsM.zero, 20)
 | k + 1, op => if isR op h then (candR op h, 0) else z_gb h k (op + 1)
theorem z_ky (h : Nat) (hh : h < 65536) : ∀ k s : Nat, s + k = 21 → z_gb h k s = z_hv h k s
 | 0, s, _ => rfl
 | k + 1, s, hs => by
  unfold z_gb z_hv
  rw [isR_eq s h (by omega) hh, (z_lr s (by omega) h hh).2, z_ky h hh k (s + 1) (by omega)]
theorem z_m8 (h : BitVec 16) : ∀ (k s : Nat) (H : Hp) (i0 : InsM), s + k = 21 → H.WF → H.get 0 = some (z_ej i0) → ∃ H' : Hp,
  aloop z_hb (AFr.al [(0, W16 h), (2, .ptr 0 5 0 0), (4, .int .i64 (s : Nat))]) H = (if (z_gb h.toNat k s).2 = 0 then some (.ret, AFr.al [(2, .ptr 0 5 0 0), (3, .int .i64 0)], H') else some (.exit 0, AFr.al [(0, W16 h), (2, .ptr 0 5 0 0), (4, .int .i64 21), (13, .bool false)], H')) ∧
  H'.WF ∧ ∃ i1, H'.get 0 = some (z_ej i1) ∧ ((z_gb h.toNat k s).2 = 0 → i1 = (z_gb h.toNat k s).1)
 | 0, s, H, i0, hs, hw, h0 => by
  have hs' : s = 21 := by omega
  subst hs'
  refine ⟨H, ?_, hw, i0, h0, fun q => by simp [z_gb] at q⟩
  rw [if_neg (by simp [z_gb])]
  exact z_bz (by simp) (by simp -implicitDefEqProofs +contextual (disch := omega) [z_hb, z_az.l0])
 | k + 1, s, H, i0, hs, hw, h0 => by
  obtain ⟨H1, e1, e2, e3⟩ := z_sn s (by omega) h H hw i0 h0
  unfold z_gb
  by_cases hi : isR s h.toNat = true
  ·rw [if_pos hi] at e1 e3
   simp only [hi, if_true]
   exact ⟨H1, z_bz (by simp) e1, e2, _, e3, fun _ => rfl⟩
  ·rw [if_neg hi] at e1 e3
   simp only [hi, if_false, Bool.false_eq_true]
   obtain ⟨H2, f1, f2, f3⟩ := z_m8 h k (s + 1) H1 i0 (by omega) e2 e3
   exact ⟨H2, by rw [z_dl e1]; exact f1, f2, f3⟩
theorem z_et (h : BitVec 16) : z_az.spec [W16 h] = some (.tup [InsAV (takeN h.toNat).1, .int .i64 (takeN h.toNat).2]) := by
 obtain ⟨H1, e1, e2, i1, e3, e4⟩ := z_m8 h 21 0 (Hp.empty.push (z_ej InsM.zero)) InsM.zero rfl (Hp.WF.push Hp.WF.empty) (by simp)
 rw [z_ky h.toNat h.isLt 21 0 rfl] at e1 e4
 have hz := e2 _ _ e3
 have h20 := z_jk h.toNat
 unfold takeN at h20 ⊢
 simp only [z_ej, InsM.zero, z_hb] at e1 e3
 rw [show ((0 : Nat) : Int) = 0 from rfl] at e1
 generalize z_hv h.toNat 21 0 = r at e1 e4 h20 ⊢
 obtain ⟨ri, re⟩ := r
 rcases h20 with ⟨i, _, _, h5⟩ | h5
 ·cases h5
  obtain rfl := e4 rfl
  rw [if_pos rfl] at e1
  simp -implicitDefEqProofs +contextual (disch := omega) [z_az.spec, z_az, e1, e3, InsAV]
 ·cases h5
  rw [if_neg (by simp)] at e1
  simp -implicitDefEqProofs +contextual (disch := omega) [z_az.spec, z_az, e1, e3, InsAV, InsM.zero]
end Go.Abs
end

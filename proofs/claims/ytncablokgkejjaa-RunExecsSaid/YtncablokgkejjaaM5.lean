/-
  Memory: what the document's memory does; two memories side by side.
-/
import Derived.Test.YtncablokgkejjaaM1
import Derived.Test.YtncablokgkejjaaLoF
set_option linter.unusedSimpArgs false
set_option linter.unusedVariables false
namespace Go.Abs
theorem at0_drop {n : Nat} (l : List (BitVec n)) (i : Nat) (h : i < l.length) : l.drop i = at0 l i :: l.drop (i + 1) := by
  rw [List.drop_eq_getElem_cons h, at0_eq l i h]
theorem same_loop (a b : List (BitVec 32)) (hl : a.length = b.length) (hm : a.length ≤ 1000000000) (H : AHeap) : ∀ d i : Nat, i + d = a.length →
    aloop ref05_Same.l0 (AFr.al [(0, .rsl 1 (w32s a)), (1, .rsl 1 (w32s b)), (5, .int .i64 (i : Int))]) H =
      if a.drop i = b.drop i then some (.exit 0, AFr.al [(0, .rsl 1 (w32s a)), (1, .rsl 1 (w32s b)), (5, .int .i64 (a.length : Int)), (14, .bool false)], H) else some (.ret, AFr.al [(4, .bool false)], H)
  | 0, i, h => by
    rw [aloop_unroll, List.drop_of_length_le (by omega), List.drop_of_length_le (by omega), if_pos rfl]
    simp -implicitDefEqProofs +contextual (disch := omega) [ref05_Same.l0, show i = a.length from by omega]
  | d + 1, i, h => by
    have ih := same_loop a b hl hm H d (i + 1) (by omega)
    rw [Int.natCast_succ] at ih
    rw [aloop_unroll, at0_drop a i (by omega), at0_drop b i (by omega)]
    by_cases e : at0 a i = at0 b i
    · simp -implicitDefEqProofs +contextual (disch := omega) [ref05_Same.l0, e, ih]
    · simp -implicitDefEqProofs +contextual (disch := omega) [ref05_Same.l0, e]
theorem same_eq (a b : List (BitVec 32)) (ha : a.length ≤ 1000000000) : ref05_Same.spec [.rsl 1 (w32s a), .rsl 1 (w32s b)] = some (.bool (decide (a = b))) := by
  by_cases hl : a.length = b.length
  · have := same_loop a b hl ha AHeap.empty a.length 0 (by omega)
    simp only [List.drop_zero, Int.natCast_zero] at this
    by_cases e : a = b
    · subst e
      rw [if_pos rfl] at this
      simp -implicitDefEqProofs +contextual (disch := omega) [ref05_Same.spec, ref05_Same, this]
    · rw [if_neg e] at this
      simp -implicitDefEqProofs +contextual (disch := omega) [ref05_Same.spec, ref05_Same, hl, this, e]
  · have e : a ≠ b := fun h => hl (by rw [h])
    simp -implicitDefEqProofs +contextual (disch := omega) [ref05_Same.spec, ref05_Same, hl, e]
def cAV (cb len : Nat) : AV := if len = 0 then .nils else .sl cb 1 0 len
@[simp] theorem cAV_zero (cb : Nat) : cAV cb 0 = .nils := rfl
@[simp] theorem len_cAV (cb len : Nat) : alenR .sl (cAV cb len) = some (.int .i64 len) := by
  unfold cAV; split
  · simp_all
  · rfl
@[simp] theorem index_cAV (cb len : Nat) (k : IntKind) (i : Int) : aindexAddrR (.sl 1) (cAV cb len) (.int k i) = if 0 ≤ i ∧ i < len then some (.ptr cb 1 i.toNat 0) else none := by
  unfold cAV; split
  · rename_i h; subst h; rw [if_neg (by omega)]; rfl
  · simp
@[simp] theorem index_cAV32 (cb len : Nat) (i : BitVec 32) : aindexAddrR (.sl 1) (cAV cb len) (W32 i) = if i.toNat < len then some (.ptr cb 1 i.toNat 0) else none := by
  unfold cAV; split
  · rename_i h; subst h; rw [if_neg (by omega)]; rfl
  · simp
theorem cAV_pos (cb len : Nat) (h : 0 < len) : cAV cb len = .sl cb 1 0 len := by unfold cAV; rw [if_neg (by omega)]
def hBlk (l : List (BitVec 16)) : Blk := ⟨T.ty_uint16, 1, true, w16s l⟩
def rBlk (cb wb tb : Nat) (m : MemM) : Blk := ⟨T.ty_bautaref05_Mem, 5, false, [[cAV cb m.code.length, cAV wb m.words.length, .sl tb 1 0 m.tape.length, .int .i64 m.drawn, W32 m.bus]]⟩
def AHeap.rmem (H : AHeap) (b cb wb tb : Nat) (m : MemM) : AHeap := (if m.words.length = 0 then H else H.set wb (some (wrdBlk m.words))).set b (some (rBlk cb wb tb m))
structure RFix (H : AHeap) (b cb wb tb : Nat) (m : MemM) : Prop where
  code : 0 < m.code.length → H.get cb = some (hBlk m.code)
  tape : H.get tb = some (wrdBlk m.tape)
  hb : b < H.next
  hwb : wb < H.next
  bw : wb ≠ b
  bc : cb ≠ b
  bt : tb ≠ b
  wc : cb ≠ wb
  wt : tb ≠ wb
theorem rmem_get (H : AHeap) (b cb wb tb : Nat) (m : MemM) (c : Nat) : (H.rmem b cb wb tb m).get c = if c = b then some (rBlk cb wb tb m) else if c = wb ∧ 0 < m.words.length then some (wrdBlk m.words) else H.get c := by
  unfold AHeap.rmem
  by_cases h : m.words.length = 0
  · rw [if_pos h, AHeap.get_set]; simp [h]
  · rw [if_neg h, AHeap.get_set, AHeap.get_set]
    by_cases h1 : c = b
    · simp [h1]
    · by_cases h2 : c = wb
      · simp only [h1, h2, if_true, if_false, true_and]; rw [if_neg (fun e => h1 (h2.trans e)), if_neg (fun e => h1 (h2.trans e)), if_pos (by omega)]
      · simp [h1, h2]
@[simp] theorem rmem_next (H : AHeap) (b cb wb tb : Nat) (m : MemM) : (H.rmem b cb wb tb m).next = H.next := by
  unfold AHeap.rmem; split <;> rfl
theorem rmem_of (H X : AHeap) (b cb wb tb : Nat) (m : MemM) (hn : X.next = H.next) (h : ∀ c, X.get c = if c = b then some (rBlk cb wb tb m) else if c = wb ∧ 0 < m.words.length then some (wrdBlk m.words) else H.get c) : X = H.rmem b cb wb tb m :=
  AHeap.eq_of (by rw [hn, rmem_next]) (funext fun c => by rw [h, rmem_get])
theorem rmem_wf {H : AHeap} {b cb wb tb : Nat} {m : MemM} (hw : H.WF) (hb : b < H.next) (hwb : wb < H.next) : (H.rmem b cb wb tb m).WF := by
  unfold AHeap.rmem; split
  · exact AHeap.WF.set hw hb
  · exact AHeap.WF.set (AHeap.WF.set hw hwb) hb
theorem cAV_below (cb len n : Nat) (h : cb < n) : idsBelow n (cAV cb len) = true := by
  unfold cAV; split <;> simp [idsBelow, h]
theorem RFix.cb {H : AHeap} {b cb wb tb : Nat} {m : MemM} (h : RFix H b cb wb tb m) (hw : H.WF) (hc : 0 < m.code.length) : cb < H.next := hw _ _ (h.code hc)
theorem RFix.tb {H : AHeap} {b cb wb tb : Nat} {m : MemM} (h : RFix H b cb wb tb m) (hw : H.WF) : tb < H.next := hw _ _ h.tape
theorem rmem_forget (H : AHeap) (b cb wb tb : Nat) (m m' : MemM) (rs : List AV) (hw : H.WF) (hf : RFix H b cb wb tb m) (hwl : m'.words.length = m.words.length) (hcd : m'.code.length = m.code.length)
    (hc : (mkRes rs).closed = true) : forget (H.rmem b cb wb tb m) (some (rs, H.rmem b cb wb tb m')) = some (mkRes rs, H.rmem b cb wb tb m') := by
  have hct : CanTrunc (H.rmem b cb wb tb m) (H.rmem b cb wb tb m') := fun c hcn => by
    rw [rmem_get, rmem_get]
    split
    · refine .inr fun blk hblk row hr a ha => ?_
      simp only [Option.some.injEq] at hblk
      subst hblk
      simp only [rBlk, List.mem_singleton] at hr
      subst hr
      simp only [List.mem_cons, List.not_mem_nil, or_false] at ha
      rw [rmem_next]
      have h1 := hf.hwb; have h2 := hf.tb hw
      rcases ha with rfl | rfl | rfl | rfl | rfl
      · by_cases h0 : m'.code.length = 0
        · rw [h0]; rfl
        · exact cAV_below _ _ _ (hf.cb hw (by omega))
      · exact cAV_below _ _ _ h1
      · simp [idsBelow, h2]
      · rfl
      · rfl
    · rw [hwl]
      split
      · refine .inr fun blk hblk row hr a ha => ?_
        simp only [Option.some.injEq] at hblk
        subst hblk
        have := w32s_flat _ row hr a ha
        cases a <;> simp_all [idsBelow, AV.flat]
      · exact .inl rfl
  unfold forget
  dsimp only
  rw [if_pos ⟨hc, hct, by simp⟩]
  congr 2
  refine AHeap.eq_of (by simp [AHeap.trunc]) (funext fun c => ?_)
  show (if c < (H.rmem b cb wb tb m).next then (H.rmem b cb wb tb m').get c else none) = (H.rmem b cb wb tb m').get c
  rw [rmem_next]
  by_cases hcn : c < H.next
  · rw [if_pos hcn]
  · rw [if_neg hcn]
    cases hg : (H.rmem b cb wb tb m').get c with
    | none => rfl
    | some x => exact (hcn (by have := rmem_wf (cb := cb) (tb := tb) (m := m') hw hf.hb hf.hwb c x hg; rwa [rmem_next] at this)).elim
theorem rmem_fin {H X : AHeap} {b cb wb tb : Nat} {m m' : MemM} {rs : List AV} (hw : H.WF) (hf : RFix H b cb wb tb m) (hX : X = H.rmem b cb wb tb m') (hwl : m'.words.length = m.words.length) (hcd : m'.code.length = m.code.length)
    (hc : (mkRes rs).closed = true) : forget (H.rmem b cb wb tb m) (some (rs, X)) = some (mkRes rs, H.rmem b cb wb tb m') := by
  rw [hX]; exact rmem_forget H b cb wb tb m m' rs hw hf hwl hcd hc
theorem rmem_store_b (H : AHeap) (b cb wb tb : Nat) (m m' : MemM) (hc : m'.words = m.words) : (H.rmem b cb wb tb m).set b (some (rBlk cb wb tb m')) = H.rmem b cb wb tb m' := by
  refine rmem_of _ _ _ _ _ _ _ (by simp) fun c => ?_
  rw [AHeap.get_set, rmem_get]
  split
  · rfl
  · rw [hc]
theorem rmem_store_w (H : AHeap) (b cb wb tb : Nat) (m m' : MemM) (hbw : b ≠ wb) (hl : m'.words.length = m.words.length) (h0 : 0 < m.words.length) (hb : rBlk cb wb tb m' = rBlk cb wb tb m) : (H.rmem b cb wb tb m).set wb (some (wrdBlk m'.words)) = H.rmem b cb wb tb m' := by
  refine rmem_of _ _ _ _ _ _ _ (by simp) fun c => ?_
  rw [AHeap.get_set, rmem_get]
  by_cases h1 : c = wb
  · rw [if_pos h1, if_neg (by omega), if_pos ⟨h1, by omega⟩]
  · rw [if_neg h1, hb]
    simp only [h1, false_and, if_false]
theorem halves_word (x y : BitVec 16) : (x.setWidth 32 ||| y.setWidth 32 <<< 16) = x.setWidth 32 + 65536#32 * y.setWidth 32 := by
  apply BitVec.eq_of_toNat_eq
  have hx := x.isLt; have hy := y.isLt
  rw [BitVec.toNat_or, BitVec.toNat_shiftLeft, BitVec.toNat_add, BitVec.toNat_mul, BitVec.toNat_setWidth, BitVec.toNat_setWidth]
  simp only [Nat.shiftLeft_eq, BitVec.toNat_ofNat]
  rw [Nat.mod_eq_of_lt (show x.toNat < 2 ^ 32 by omega), Nat.mod_eq_of_lt (show y.toNat < 2 ^ 32 by omega), Nat.mod_eq_of_lt (show y.toNat * 2 ^ 16 < 2 ^ 32 by omega), Nat.or_comm]
  rw [show y.toNat * 2 ^ 16 = 2 ^ 16 * y.toNat from Nat.mul_comm _ _, ← Nat.two_pow_add_eq_or_of_lt (by omega)]
  omega
section
variable (H : AHeap) (b cb wb tb : Nat) (m : MemM) (hw : H.WF) (hf : RFix H b cb wb tb m)
include hw hf
theorem rLoad_eq (a : BitVec 32) (hm : m.Ok) : ref05_Mem_Load.spec [.ptr b 5 0 0, W32 a] (H.rmem b cb wb tb m) = some (.tup [W32 (m.loads a).1.1, .int .i64 (m.loads a).1.2], H.rmem b cb wb tb (m.loads a).2) := by
  have q1 := hm.code; have q2 := hm.words; have q3 := hm.tape; have q4 := hm.drawn
  have f1 := hf.bw; have f2 := hf.bc; have f3 := hf.bt; have f4 := hf.wc; have f5 := hf.wt; have f6 := hf.tape
  have e1 : ((a.toNat : Int) / 2).toNat = a.toNat / 2 := by omega
  have e2 : ((a.toNat : Int) / 2 + 1).toNat = a.toNat / 2 + 1 := by omega
  have hs : (a - 536870912#32).toNat / 4 = wslot a := rfl
  have hd : (m.at a = true) = (536870912#32 ≤ a ∧ wslot a < m.words.length) := by simp [MemM.at]
  unfold MemM.loads MemM.load
  by_cases h1 : a % 4#32 = 0#32
  · by_cases h2 : a = 1073741824#32
    · subst h2
      by_cases h3 : m.drawn = m.tape.length
      · simp -implicitDefEqProofs +contextual (disch := omega) [ref05_Mem_Load.spec, ref05_Mem_Load, rmem_get, rBlk, h3, f1, f2, f3, f4, f5, f6, wrdBlk]
        refine rmem_fin hw hf ?_ ?_ ?_ ?_ <;> rfl
      · have h4 : m.drawn < m.tape.length := by omega
        simp -implicitDefEqProofs +contextual (disch := omega) [ref05_Mem_Load.spec, ref05_Mem_Load, rmem_get, rBlk, h3, h4, f1, f2, f3, f4, f5, f6, wrdBlk]
        exact rmem_fin hw hf (rmem_store_b H b cb wb tb m { m with drawn := m.drawn + 1, bus := at0 m.tape m.drawn } rfl) rfl rfl rfl
    · by_cases h3 : 536870912#32 ≤ a
      · by_cases h5 : wslot a < m.words.length
        · have h6 : 0 < m.words.length := by omega
          have h7 : ((a - 536870912#32).toNat : Int) / 4 < m.words.length := by omega
          simp -implicitDefEqProofs +contextual (disch := omega) [ref05_Mem_Load.spec, ref05_Mem_Load, rmem_get, rBlk, wrdBlk, h1, h2, h3, h5, h6, h7, hd, hs, f1, f2, f3, f4, f5, f6, -BitVec.toNat_sub]
          exact rmem_fin hw hf (rmem_store_b H b cb wb tb m { m with bus := at0 m.words (wslot a) } rfl) rfl rfl rfl
        · have h7 : ¬ ((a - 536870912#32).toNat : Int) / 4 < m.words.length := by omega
          by_cases h4 : a.toNat / 2 + 1 < m.code.length
          · have f7 := hf.code (by omega)
            simp -implicitDefEqProofs +contextual (disch := omega) [ref05_Mem_Load.spec, ref05_Mem_Load, rmem_get, rBlk, hBlk, h1, h2, h3, h4, h5, h7, hd, e1, e2, hs, f1, f2, f3, f4, f5, f6, f7, halves_word, -BitVec.toNat_sub]
            exact rmem_fin hw hf (rmem_store_b H b cb wb tb m { m with bus := (at0 m.code (a.toNat / 2)).setWidth 32 + 65536#32 * (at0 m.code (a.toNat / 2 + 1)).setWidth 32 } rfl) rfl rfl rfl
          · simp -implicitDefEqProofs +contextual (disch := omega) [ref05_Mem_Load.spec, ref05_Mem_Load, rmem_get, rBlk, h1, h2, h3, h4, h5, h7, hd, hs, f1, f2, f3, f4, f5, f6, -BitVec.toNat_sub]
            refine rmem_fin hw hf ?_ ?_ ?_ ?_ <;> rfl
      · by_cases h4 : a.toNat / 2 + 1 < m.code.length
        · have f7 := hf.code (by omega)
          simp -implicitDefEqProofs +contextual (disch := omega) [ref05_Mem_Load.spec, ref05_Mem_Load, rmem_get, rBlk, hBlk, h1, h2, h3, h4, hd, e1, e2, hs, f1, f2, f3, f4, f5, f6, f7, halves_word, -BitVec.toNat_sub]
          exact rmem_fin hw hf (rmem_store_b H b cb wb tb m { m with bus := (at0 m.code (a.toNat / 2)).setWidth 32 + 65536#32 * (at0 m.code (a.toNat / 2 + 1)).setWidth 32 } rfl) rfl rfl rfl
        · simp -implicitDefEqProofs +contextual (disch := omega) [ref05_Mem_Load.spec, ref05_Mem_Load, rmem_get, rBlk, h1, h2, h3, h4, hd, hs, f1, f2, f3, f4, f5, f6, -BitVec.toNat_sub]
          refine rmem_fin hw hf ?_ ?_ ?_ ?_ <;> rfl
  · simp -implicitDefEqProofs +contextual (disch := omega) [ref05_Mem_Load.spec, ref05_Mem_Load, rmem_get, rBlk, h1]
    refine rmem_fin hw hf ?_ ?_ ?_ ?_ <;> rfl
theorem rStore_eq (a x : BitVec 32) (hm : m.Ok) : ref05_Mem_Store.spec [.ptr b 5 0 0, W32 a, W32 x] (H.rmem b cb wb tb m) = some (.int .i64 (m.store a x).1, H.rmem b cb wb tb (m.store a x).2) := by
  have q1 := hm.code; have q2 := hm.words; have q3 := hm.tape; have q4 := hm.drawn
  have f1 := hf.bw; have f2 := hf.bc; have f3 := hf.bt; have f4 := hf.wc; have f5 := hf.wt; have f6 := hf.tape
  have hs : (a - 536870912#32).toNat / 4 = wslot a := rfl
  have hd : (m.at a = true) = (536870912#32 ≤ a ∧ wslot a < m.words.length) := by simp [MemM.at]
  unfold MemM.store
  by_cases h1 : a % 4#32 = 0#32
  · by_cases h3 : 536870912#32 ≤ a
    · have h3' : ¬ a < 536870912#32 := by rwa [BitVec.not_lt]
      by_cases h5 : wslot a < m.words.length
      · have h6 : 0 < m.words.length := by omega
        have h7 : ((a - 536870912#32).toNat : Int) / 4 < m.words.length := by omega
        simp -implicitDefEqProofs +contextual (disch := omega) [ref05_Mem_Store.spec, ref05_Mem_Store, rmem_get, rBlk, wrdBlk, h1, h3, h5, h6, h7, hd, h3', hs, f1, f2, f3, f4, f5, f6, -BitVec.toNat_sub, -BitVec.not_le]
        refine rmem_fin hw hf (rmem_of _ _ _ _ _ _ _ (by simp) fun c => ?_) (by simp) rfl rfl
        by_cases c1 : c = b
        · simp [c1, rBlk]
        · by_cases c2 : c = wb
          · simp [c2, f1, h6, wrdBlk]
          · simp [c1, c2, rmem_get]
      · have h7 : ¬ ((a - 536870912#32).toNat : Int) / 4 < m.words.length := by omega
        simp -implicitDefEqProofs +contextual (disch := omega) [ref05_Mem_Store.spec, ref05_Mem_Store, rmem_get, rBlk, wrdBlk, h1, h3, h5, h7, hd, h3', hs, f1, f2, f3, f4, f5, f6, -BitVec.toNat_sub, -BitVec.not_le]
        refine rmem_fin hw hf ?_ ?_ ?_ ?_ <;> rfl
    · have h3' : a < 536870912#32 := by rwa [← BitVec.not_le]
      simp -implicitDefEqProofs +contextual (disch := omega) [ref05_Mem_Store.spec, ref05_Mem_Store, rmem_get, rBlk, wrdBlk, h1, h3, hd, h3', hs, f1, f2, f3, f4, f5, f6, -BitVec.toNat_sub, -BitVec.not_le]
      refine rmem_fin hw hf ?_ ?_ ?_ ?_ <;> rfl
  · have h2 : (a % 4#32 != 0#32) = true := by simp [h1]
    simp -implicitDefEqProofs +contextual (disch := omega) [ref05_Mem_Store.spec, ref05_Mem_Store, rmem_get, rBlk, h1, h2]
    refine rmem_fin hw hf ?_ ?_ ?_ ?_ <;> rfl
theorem rFetch_eq (a : BitVec 32) (hm : m.Ok) : ref05_Mem_Fetch.spec [.ptr b 5 0 0, W32 a] (H.rmem b cb wb tb m) = some (.tup [W16 (m.fetch a).1, .int .i64 (m.fetch a).2], H.rmem b cb wb tb m) := by
  have q1 := hm.code
  have f1 := hf.bw; have f2 := hf.bc; have f3 := hf.bt; have f4 := hf.wc; have f5 := hf.wt; have f6 := hf.tape
  have e1 : ((a.toNat : Int) / 2).toNat = a.toNat / 2 := by omega
  unfold MemM.fetch
  by_cases h1 : a % 2#32 = 0#32
  · by_cases h2 : a.toNat / 2 < m.code.length
    · have f7 := hf.code (by omega)
      rw [if_pos ⟨h1, h2⟩]
      simp -implicitDefEqProofs +contextual (disch := omega) [ref05_Mem_Fetch.spec, ref05_Mem_Fetch, rmem_get, rBlk, hBlk, wrdBlk, h1, h2, e1, f1, f2, f3, f4, f5, f6, f7]
      refine rmem_fin hw hf ?_ ?_ ?_ ?_ <;> rfl
    · rw [if_neg (fun h => h2 h.2)]
      simp -implicitDefEqProofs +contextual (disch := omega) [ref05_Mem_Fetch.spec, ref05_Mem_Fetch, rmem_get, rBlk, wrdBlk, h1, h2, e1]
      refine rmem_fin hw hf ?_ ?_ ?_ ?_ <;> rfl
  · rw [if_neg (fun h => h1 h.1)]
    simp -implicitDefEqProofs +contextual (disch := omega) [ref05_Mem_Fetch.spec, ref05_Mem_Fetch, rmem_get, rBlk, wrdBlk, h1, e1]
    refine rmem_fin hw hf ?_ ?_ ?_ ?_ <;> rfl
end
structure NewInv (H : AHeap) (code : List (BitVec 16)) (tape : List (BitVec 32)) (i rb cb tb : Nat) (X : AHeap) : Prop where
  wf : X.WF
  b : X.get rb = some (rBlk cb 0 tb ⟨code.take i, [], tape, 0, 0#32⟩)
  c : 0 < i → X.get cb = some (hBlk (code.take i))
  t : X.get tb = some (wrdBlk tape)
  h : ∀ c, c < H.next → X.get c = H.get c
  hb : H.next + 2 ≤ rb
  ht : H.next < tb
  hc : 0 < i → H.next < cb
  bt : tb ≠ rb
  bc : 0 < i → cb ≠ rb
  ct : 0 < i → cb ≠ tb
theorem rBlk_i (cb tb : Nat) (l : List (BitVec 16)) (tape : List (BitVec 32)) (h : 0 < l.length) : rBlk cb 0 tb ⟨l, [], tape, 0, 0#32⟩ = ⟨T.ty_bautaref05_Mem, 5, false, [[.sl cb 1 0 l.length, .nils, .sl tb 1 0 tape.length, .int .i64 0, W32 0#32]]⟩ := by
  simp [rBlk, cAV_pos _ _ h]
theorem rBlk_0 (cb tb : Nat) (tape : List (BitVec 32)) : rBlk cb 0 tb ⟨[], [], tape, 0, 0#32⟩ = ⟨T.ty_bautaref05_Mem, 5, false, [[.nils, .nils, .sl tb 1 0 tape.length, .int .i64 0, W32 0#32]]⟩ := by
  simp [rBlk]
theorem take_succ {n : Nat} (l : List (BitVec n)) (i : Nat) (h : i < l.length) : l.take (i + 1) = l.take i ++ [at0 l i] := by
  rw [List.take_add_one, at0_get l i h]; rfl
theorem new_step (H : AHeap) (code : List (BitVec 16)) (tape : List (BitVec 32)) (w : AV) (i rb cb tb : Nat) (X : AHeap) (hc : i < code.length) (hi : i < 60000) (I : NewInv H code tape i rb cb tb X) :
    ∃ X' cb', ref05_New.l0 (AFr.al [(0, .rsl 1 (w16s code)), (1, w), (7, .ptr rb 5 0 0), (8, .int .i64 i)]) X = some (.normal, AFr.al [(0, .rsl 1 (w16s code)), (1, w), (7, .ptr rb 5 0 0), (8, .int .i64 (i + 1 : Nat))], X') ∧ NewInv H code tape (i + 1) rb cb' tb X' := by
  have hrb := I.wf _ _ I.b
  have htb := I.wf _ _ I.t
  have i1 := I.hb; have i2 := I.ht; have i3 := I.bt
  have ts := take_succ code i hc
  by_cases h0 : i = 0
  · subst h0
    have hb := I.b
    rw [List.take_zero, rBlk_0] at hb
    refine ⟨((X.push (hBlk [at0 code 0])).push (hBlk [at0 code 0])).set rb (some (rBlk (X.next + 1) 0 tb ⟨[at0 code 0], [], tape, 0, 0#32⟩)), X.next + 1, ?_, ?_⟩
    · simp -implicitDefEqProofs +contextual (disch := omega) [ref05_New.l0, hb, hc]
      simp [hBlk, rBlk, cAV, w16s]
    · rw [show ([at0 code 0] : List (BitVec 16)) = code.take (0 + 1) from by rw [ts]; rfl]
      exact ⟨AHeap.WF.set (AHeap.WF.push (AHeap.WF.push I.wf)) (by simp; omega), by simp, fun _ => by simp (disch := omega), by
        have := I.t; simp (disch := omega) [this], fun c h => by have := I.h c h; simp (disch := omega) [this], I.hb, I.ht, fun _ => by omega, I.bt, fun _ => by omega, fun _ => by omega⟩
  · have hl : (code.take i).length = i := by rw [List.length_take]; omega
    have hb := I.b
    rw [rBlk_i _ _ _ _ (by omega), hl] at hb
    have hcb := I.c (by omega)
    have hcn := I.wf _ _ hcb
    have i4 := I.bc (by omega); have i5 := I.ct (by omega); have i6 := I.hc (by omega)
    refine ⟨(((X.push (hBlk [at0 code i])).set cb none).push (hBlk (code.take (i + 1)))).set rb (some (rBlk (X.next + 1) 0 tb ⟨code.take (i + 1), [], tape, 0, 0#32⟩)), X.next + 1, ?_, ?_⟩
    · simp -implicitDefEqProofs +contextual (disch := omega) [ref05_New.l0, hb, hc, hcb, hBlk, hl, i4]
      rw [ts, rBlk_i _ _ _ _ (by simp)]
      simp [hBlk, hl, w16s]
    · exact ⟨AHeap.WF.set (AHeap.WF.push (AHeap.WF.set (AHeap.WF.push I.wf) (by simp; omega))) (by simp; omega), by simp, fun _ => by simp (disch := omega), by
        have := I.t; simp (disch := omega) [this], fun c h => by have := I.h c h; simp (disch := omega) [this], I.hb, I.ht, fun _ => by omega, I.bt, fun _ => by omega, fun _ => by omega⟩
theorem rmem_self {X : AHeap} {b cb wb tb : Nat} {m : MemM} (h1 : X.get b = some (rBlk cb wb tb m)) (h2 : 0 < m.words.length → X.get wb = some (wrdBlk m.words)) : X = X.rmem b cb wb tb m := by
  refine rmem_of _ _ _ _ _ _ _ rfl fun c => ?_
  split
  · rename_i e; rw [e, h1]
  · split
    · rename_i e; rw [e.1, h2 e.2]
    · rfl
theorem rBlk_c (cb wb tb : Nat) (m : MemM) : rBlk cb wb tb m = ⟨T.ty_bautaref05_Mem, 5, false, [[cAV cb m.code.length, cAV wb m.words.length, .sl tb 1 0 m.tape.length, .int .i64 m.drawn, W32 m.bus]]⟩ := rfl
theorem mk32 (X : AHeap) (n : Int) (N : Nat) (h : n = (N : Int)) (hN : N ≤ 16000) : amakeR (some ⟨T.ty_uint32, 1, 4, [W32 0#32]⟩) (.int .i64 n) (.int .i64 n) X = some (.sl X.next 1 0 N, X.push ⟨T.ty_uint32, 1, true, w32s (List.replicate N 0#32)⟩) := by
  subst h
  rw [make_eq, if_pos ⟨by omega, by omega, by simp; omega, by simp, by rfl⟩, ← w32s_rep]
  rfl
theorem rnew_ex (H : AHeap) (code : List (BitVec 16)) (tape : List (BitVec 32)) (n : Int) (hw : H.WF) (hc : code.length ≤ 1000000000) (ht : tape.length ≤ 1000000000) :
    ∃ X rb cb wb tb, ref05_New.spec [.rsl 1 (w16s code), .int .i64 n, .rsl 1 (w32s tape)] H = some (.ptr rb 5 0 0, X.rmem rb cb wb tb (MemM.new code n tape)) ∧ X.WF ∧ RFix X rb cb wb tb (MemM.new code n tape) ∧
      H.next ≤ rb ∧ H.next ≤ cb ∧ H.next ≤ wb ∧ H.next ≤ tb ∧ H.next ≤ X.next ∧ ∀ c, c < H.next → X.get c = H.get c := by
  have I0 : NewInv H code tape 0 (H.next + 2) 0 (H.next + 1) ((((H.push (wrdBlk [])).set H.next none).push (wrdBlk tape)).push (rBlk 0 0 (H.next + 1) ⟨[], [], tape, 0, 0#32⟩)) := by
    refine ⟨AHeap.WF.push (AHeap.WF.push (AHeap.WF.set (AHeap.WF.push hw) (by simp))), by simp, fun h => by omega, by simp (disch := omega), fun c h => by simp (disch := omega), by omega, by omega, fun h => by omega, by omega, fun h => by omega, fun h => by omega⟩
  obtain ⟨fr', X1, ⟨cb1, e1, I1⟩, hgo⟩ := aloop_rel (f := ref05_New.l0) (fun i fr X => ∃ cb, fr = AFr.al [(0, .rsl 1 (w16s code)), (1, .int .i64 n), (7, .ptr (H.next + 2) 5 0 0), (8, .int .i64 i)] ∧ NewInv H code tape i (H.next + 2) cb (H.next + 1) X)
    (min code.length 60000) (fun k hk fr X hR => by
      obtain ⟨cb, rfl, I⟩ := hR
      obtain ⟨X', cb', h1, h2⟩ := new_step H code tape (.int .i64 n) k (H.next + 2) cb (H.next + 1) X (by omega) (by omega) I
      exact ⟨_, _, h1, cb', rfl, h2⟩) ⟨0, rfl, I0⟩
  subst e1
  have hx : aloop ref05_New.l0 (AFr.al [(0, .rsl 1 (w16s code)), (1, .int .i64 n), (7, .ptr (H.next + 2) 5 0 0), (8, .int .i64 (min code.length 60000 : Nat))]) X1 =
      some (.exit 0, AFr.al [(0, .rsl 1 (w16s code)), (1, .int .i64 n), (7, .ptr (H.next + 2) 5 0 0), (8, .int .i64 (min code.length 60000 : Nat)), (21, .bool false)], X1) := aloop_exit (by simp) (by
    by_cases h : code.length ≤ 60000
    · rw [Nat.min_eq_left h]
      simp -implicitDefEqProofs +contextual (disch := omega) [ref05_New.l0]
    · rw [Nat.min_eq_right (by omega)]
      have h1 : (60000 : Int) < code.length := by omega
      simp -implicitDefEqProofs +contextual (disch := omega) [ref05_New.l0, h1])
  rw [hx] at hgo
  have hgo' : aloop ref05_New.l0 (AFr.al [(0, .rsl 1 (w16s code)), (1, .int .i64 n), (7, .ptr (H.next + 2) 5 0 0), (8, .int .i64 0)]) ((((H.push ⟨T.ty_uint32, 1, true, []⟩).set H.next none).push ⟨T.ty_uint32, 1, true, w32s tape⟩).push
      ⟨T.ty_bautaref05_Mem, 5, false, [[.nils, .nils, .sl (H.next + 1) 1 0 tape.length, .int .i64 0, W32 0#32]]⟩) = _ := hgo
  clear hgo hx
  have b1 := I1.b; have b2 := I1.wf _ _ b1; have b3 := I1.ht
  have hl : (code.take (min code.length 60000)) = code.take 60000 := by
    by_cases h : code.length ≤ 60000
    · rw [Nat.min_eq_left h, List.take_of_length_le (by omega), List.take_of_length_le (by omega)]
    · rw [Nat.min_eq_right (by omega)]
  rw [hl] at b1
  generalize hcd : (min code.length 60000 : Nat) = K at hgo' I1 hl
  obtain ⟨cb2, c1, c2, c3, c4, c5, c6⟩ : ∃ cb2, (0 < code.length → X1.get cb2 = some (hBlk (code.take 60000))) ∧ rBlk cb1 0 (H.next + 1) ⟨code.take 60000, [], tape, 0, 0#32⟩ = rBlk cb2 0 (H.next + 1) ⟨code.take 60000, [], tape, 0, 0#32⟩ ∧
      H.next < cb2 ∧ cb2 ≠ H.next + 2 ∧ cb2 ≠ H.next + 1 ∧ (code.length = 0 → X1.next + 1 < cb2) := by
    by_cases h : code.length = 0
    · have h' : code = [] := List.length_eq_zero_iff.1 h
      subst h'
      refine ⟨X1.next + 2, fun q => by simp at q, rfl, by omega, by omega, by omega, by omega⟩
    · have hK : 0 < K := by omega
      have := I1.c hK; rw [hl] at this
      exact ⟨cb1, fun _ => this, rfl, I1.hc hK, I1.bc hK, I1.ct hK, fun q => by omega⟩
  rw [c2] at b1
  by_cases hn : 0 < n
  · obtain ⟨N, hN, hN2, hN3⟩ : ∃ N : Nat, (min (max n 0) 16000).toNat = N ∧ 0 < N ∧ N ≤ 16000 := ⟨_, rfl, by omega, by omega⟩
    have e1 : (MemM.new code n tape) = ⟨code.take 60000, List.replicate N 0#32, tape, 0, 0#32⟩ := by
      rw [MemM.new, hN]
    rw [e1]
    have q1 : cb2 ≠ X1.next := by
      by_cases h : code.length = 0
      · have := c6 h; omega
      · have := I1.wf _ _ (c1 (by omega)); omega
    have q2 : H.next + 1 < X1.next := I1.wf _ _ I1.t
    refine ⟨(X1.push (wrdBlk (List.replicate N 0#32))).set (H.next + 2) (some (rBlk cb2 X1.next (H.next + 1) ⟨code.take 60000, List.replicate N 0#32, tape, 0, 0#32⟩)), H.next + 2, cb2, X1.next, H.next + 1, ?_,
      AHeap.WF.set (AHeap.WF.push I1.wf) (by simp; omega), ⟨fun q => ?_, ?_, by simp; omega, by simp, by omega, by omega, by omega, by omega, by omega⟩, by omega, by omega, by omega, by omega, by simp; omega, fun c hc => ?_⟩
    · rw [← rmem_self (by simp) (fun _ => by simp (disch := omega))]
      rw [rBlk_c] at b1
      have e2 : (if (16000 : Int) < n then (16000 : Int) else n) = (N : Int) := by split <;> omega
      have hmk := mk32 X1 (if (16000 : Int) < n then (16000 : Int) else n) N e2 hN3
      by_cases h6 : 16000 < n
      · rw [if_pos h6] at hmk
        simp -implicitDefEqProofs +contextual (disch := omega) [ref05_New.spec, ref05_New, hgo', hn, h6, b1, hmk, -make_eq, wrdBlk, rBlk_c, cAV_pos]
      · rw [if_neg h6] at hmk
        simp -implicitDefEqProofs +contextual (disch := omega) [ref05_New.spec, ref05_New, hgo', hn, h6, b1, hmk, -make_eq, wrdBlk, rBlk_c, cAV_pos]
    · have := c1 (by simp at q; omega)
      simp (disch := omega) [this]
    · have := I1.t; simp (disch := omega) [this]
    · have := I1.h c hc; simp (disch := omega) [this]
  · have e1 : (MemM.new code n tape) = ⟨code.take 60000, [], tape, 0, 0#32⟩ := by
      rw [MemM.new, show (min (max n 0) 16000).toNat = 0 from by omega]; rfl
    rw [e1]
    refine ⟨X1, H.next + 2, cb2, H.next, H.next + 1, ?_, I1.wf, ⟨fun q => c1 (by simp at q; omega), I1.t, b2, by omega, by omega, c4, by omega, by omega, by omega⟩, by omega, by omega, by omega, by omega, by omega, I1.h⟩
    have hn' : ¬ 16000 < n := by omega
    simp -implicitDefEqProofs +contextual (disch := omega) [ref05_New.spec, ref05_New, hgo', hn, hn']
    exact rmem_self b1 (fun q => by simp at q)
end Go.Abs

/-
  Memory: what the document's memory does; two memories side by side.
-/
import Derived.Test.YtncablokgkejjaaM1
import Derived.Test.YtncablokgkejjaaLoF
set_option linter.unusedSimpArgs false
set_option linter.unusedVariables false
namespace Go.Abs
theorem at0_drop {n : Nat} (l : List (BitVec n)) (i : Nat) (h : i < l.length) : l.drop i = at0 l i :: l.drop (i + 1) := by
  rw [List.drop_eq_getElem_cons h, at0_eq l i h]
theorem same_loop (a b : List (BitVec 32)) (hl : a.length = b.length) (hm : a.length ≤ 1000000000) (H : AHeap) : ∀ d i : Nat, i + d = a.length →
    aloop ref05_Same.l0 (AFr.al [(0, .rsl 1 (w32s a)), (1, .rsl 1 (w32s b)), (5, .int .i64 (i : Int))]) H =
      if a.drop i = b.drop i then some (.exit 0, AFr.al [(0, .rsl 1 (w32s a)), (1, .rsl 1 (w32s b)), (5, .int .i64 (a.length : Int)), (14, .bool false)], H) else some (.ret, AFr.al [(4, .bool false)], H)
  | 0, i, h => by
    rw [aloop_unroll, List.drop_of_length_le (by omega), List.drop_of_length_le (by omega), if_pos rfl]
    simp -implicitDefEqProofs +contextual (disch := omega) [ref05_Same.l0, show i = a.length from by omega]
  | d + 1, i, h => by
    have ih := same_loop a b hl hm H d (i + 1) (by omega)
    rw [Int.natCast_succ] at ih
    rw [aloop_unroll, at0_drop a i (by omega), at0_drop b i (by omega)]
    by_cases e : at0 a i = at0 b i
    · simp -implicitDefEqProofs +contextual (disch := omega) [ref05_Same.l0, e, ih]
    · simp -implicitDefEqProofs +contextual (disch := omega) [ref05_Same.l0, e]
theorem same_eq (a b : List (BitVec 32)) (ha : a.length ≤ 1000000000) : ref05_Same.spec [.rsl 1 (w32s a), .rsl 1 (w32s b)] = some (.bool (decide (a = b))) := by
  by_cases hl : a.length = b.length
  · have := same_loop a b hl ha AHeap.empty a.length 0 (by omega)
    simp only [List.drop_zero, Int.natCast_zero] at this
    by_cases e : a = b
    · subst e
      rw [if_pos rfl] at this
      simp -implicitDefEqProofs +contextual (disch := omega) [ref05_Same.spec, ref05_Same, this]
    · rw [if_neg e] at this
      simp -implicitDefEqProofs +contextual (disch := omega) [ref05_Same.spec, ref05_Same, hl, this, e]
  · have e : a ≠ b := fun h => hl (by rw [h])
    simp -implicitDefEqProofs +contextual (disch := omega) [ref05_Same.spec, ref05_Same, hl, e]
def cAV (cb len : Nat) : AV := if len = 0 then .nils else .sl cb 1 0 len
@[simp] theorem cAV_zero (cb : Nat) : cAV cb 0 = .nils := rfl
def hBlk (l : List (BitVec 16)) : Blk := ⟨T.ty_uint16, 1, true, w16s l⟩
def rBlk (cb wb tb : Nat) (m : MemM) : Blk := ⟨T.ty_bautaref05_Mem, 5, false, [[cAV cb m.code.length, cAV wb m.words.length, .sl tb 1 0 m.tape.length, .int .i64 m.drawn, W32 m.bus]]⟩
def AHeap.rmem (H : AHeap) (b cb wb tb : Nat) (m : MemM) : AHeap := (if m.words.length = 0 then H else H.set wb (some (wrdBlk m.words))).set b (some (rBlk cb wb tb m))
structure RFix (H : AHeap) (b cb wb tb : Nat) (m : MemM) : Prop where
  code : 0 < m.code.length → H.get cb = some (hBlk m.code)
  tape : H.get tb = some (wrdBlk m.tape)
  hb : b < H.next
  hwb : wb < H.next
  bw : wb ≠ b
  bc : cb ≠ b
  bt : tb ≠ b
  wc : cb ≠ wb
  wt : tb ≠ wb
theorem RFix.cb {H : AHeap} {b cb wb tb : Nat} {m : MemM} (h : RFix H b cb wb tb m) (hw : H.WF) (hc : 0 < m.code.length) : cb < H.next := hw _ _ (h.code hc)
theorem RFix.tb {H : AHeap} {b cb wb tb : Nat} {m : MemM} (h : RFix H b cb wb tb m) (hw : H.WF) : tb < H.next := hw _ _ h.tape
structure NewInv (H : AHeap) (code : List (BitVec 16)) (tape : List (BitVec 32)) (i rb cb tb : Nat) (X : AHeap) : Prop where
  wf : X.WF
  b : X.get rb = some (rBlk cb 0 tb ⟨code.take i, [], tape, 0, 0#32⟩)
  c : 0 < i → X.get cb = some (hBlk (code.take i))
  t : X.get tb = some (wrdBlk tape)
  h : ∀ c, c < H.next → X.get c = H.get c
  hb : H.next + 2 ≤ rb
  ht : H.next < tb
  hc : 0 < i → H.next < cb
  bt : tb ≠ rb
  bc : 0 < i → cb ≠ rb
  ct : 0 < i → cb ≠ tb
theorem take_succ {n : Nat} (l : List (BitVec n)) (i : Nat) (h : i < l.length) : l.take (i + 1) = l.take i ++ [at0 l i] := by
  rw [List.take_add_one, at0_get l i h]; rfl
end Go.Abs

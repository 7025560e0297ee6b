/-
  Memory: what the document's memory does; two memories side by side.
-/
import Derived.Test.YteohnepdbjmghaaM1
import Derived.Test.YteohnepdbjmghaaLoF
set_option linter.unusedSimpArgs false
set_option linter.unusedVariables false
namespace Go.Abs
def cAV (cb len : Nat) : AV := if len = 0 then .nils else .sl cb 1 0 len
@[simp] theorem cAV_zero (cb : Nat) : cAV cb 0 = .nils := rfl
def hBlk (l : List (BitVec 16)) : Blk := ⟨T.ty_uint16, 1, true, w16s l⟩
def rBlk (cb wb tb : Nat) (m : MemM) : Blk := ⟨T.ty_bautaref05_Mem, 5, false, [[cAV cb m.code.length, cAV wb m.words.length, .sl tb 1 0 m.tape.length, .int .i64 m.drawn, W32 m.bus]]⟩
structure RFix (H : AHeap) (b cb wb tb : Nat) (m : MemM) : Prop where
  code : 0 < m.code.length → H.get cb = some (hBlk m.code)
  tape : H.get tb = some (wrdBlk m.tape)
  hb : b < H.next
  hwb : wb < H.next
  bw : wb ≠ b
  bc : cb ≠ b
  bt : tb ≠ b
  wc : cb ≠ wb
  wt : tb ≠ wb
theorem RFix.cb {H : AHeap} {b cb wb tb : Nat} {m : MemM} (h : RFix H b cb wb tb m) (hw : H.WF) (hc : 0 < m.code.length) : cb < H.next := hw _ _ (h.code hc)
theorem RFix.tb {H : AHeap} {b cb wb tb : Nat} {m : MemM} (h : RFix H b cb wb tb m) (hw : H.WF) : tb < H.next := hw _ _ h.tape
structure NewInv (H : AHeap) (code : List (BitVec 16)) (tape : List (BitVec 32)) (i rb cb tb : Nat) (X : AHeap) : Prop where
  wf : X.WF
  b : X.get rb = some (rBlk cb 0 tb ⟨code.take i, [], tape, 0, 0#32⟩)
  c : 0 < i → X.get cb = some (hBlk (code.take i))
  t : X.get tb = some (wrdBlk tape)
  h : ∀ c, c < H.next → X.get c = H.get c
  hb : H.next + 2 ≤ rb
  ht : H.next < tb
  hc : 0 < i → H.next < cb
  bt : tb ≠ rb
  bc : 0 < i → cb ≠ rb
  ct : 0 < i → cb ≠ tb
end Go.Abs

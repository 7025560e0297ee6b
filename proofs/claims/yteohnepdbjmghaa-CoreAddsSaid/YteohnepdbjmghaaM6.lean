/-
  Two memories side by side: the program's and the document's.
-/
import Derived.Test.YteohnepdbjmghaaM5
set_option linter.unusedSimpArgs false
set_option linter.unusedVariables false
namespace Go.Abs
structure Ids where
  b : Nat
  wb : Nat
  rb : Nat
  cb : Nat
  rw : Nat
  tb : Nat
structure TwoOk (B : AHeap) (I : Ids) (r : MemM) : Prop where
  wf : B.WF
  hb : I.b < B.next
  hwb : I.wb < B.next
  ne : I.b ≠ I.wb
  fix : RFix B I.rb I.cb I.rw I.tb r
  b1 : I.b ≠ I.rb
  b2 : I.b ≠ I.cb
  b3 : I.b ≠ I.rw
  b4 : I.b ≠ I.tb
  w1 : I.wb ≠ I.rb
  w2 : I.wb ≠ I.cb
  w3 : I.wb ≠ I.rw
  w4 : I.wb ≠ I.tb
theorem RFix.of {H : AHeap} {b cb wb tb : Nat} {m m' : MemM} (h : RFix H b cb wb tb m) (hc : m'.code = m.code) (ht : m'.tape = m.tape) : RFix H b cb wb tb m' :=
  ⟨fun q => by rw [hc] at q ⊢; exact h.code q, by rw [ht]; exact h.tape, h.hb, h.hwb, h.bw, h.bc, h.bt, h.wc, h.wt⟩
theorem RFix.push {H : AHeap} {b cb wb tb : Nat} {m : MemM} {x : Blk} (hw : H.WF) (h : RFix H b cb wb tb m) : RFix (H.push x) b cb wb tb m :=
  ⟨fun q => by have q1 := h.code q; have q2 := hw _ _ q1; simp (disch := omega) [q1], by have q1 := h.tape; have q2 := hw _ _ q1; simp (disch := omega) [q1], by have := h.hb; simp; omega, by have := h.hwb; simp; omega, h.bw, h.bc, h.bt, h.wc, h.wt⟩
theorem TwoOk.of {B : AHeap} {I : Ids} {r r' : MemM} (h : TwoOk B I r) (hc : r'.code = r.code) (ht : r'.tape = r.tape) : TwoOk B I r' :=
  { h with fix := h.fix.of hc ht }
theorem TwoOk.push {B : AHeap} {I : Ids} {r : MemM} {x : Blk} (h : TwoOk B I r) : TwoOk (B.push x) I r :=
  { h with wf := AHeap.WF.push h.wf, hb := by have := h.hb; simp; omega, hwb := by have := h.hwb; simp; omega, fix := h.fix.push h.wf }
end Go.Abs

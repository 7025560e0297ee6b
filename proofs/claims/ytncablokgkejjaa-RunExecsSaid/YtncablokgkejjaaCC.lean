import Derived.Test.YtncablokgkejjaaC4
import Derived.Test.YtncablokgkejjaaW3
import Derived.Test.YtncablokgkejjaaM5
import Derived.Test.YtncablokgkejjaaT6
import Derived.Test.YtncablokgkejjaaCrF
import Derived.Test.YtncablokgkejjaaC5h
import Derived.KernelRfl
section
set_option linter.unusedSimpArgs false
set_option linter.unusedVariables false
namespace Go.Abs
open Th
theorem rmemPush (B : AHeap) (b cb wb tb : Nat) (m : MemM) (x : Blk) (hb : b < B.next) (hwb : wb < B.next) : (B.rmem b cb wb tb m).push x = (B.push x).rmem b cb wb tb m := by
  refine rmem_of _ _ _ _ _ _ _ (by simp) fun c => ?_
  rw [AHeap.get_push, rmem_get, rmem_next, AHeap.get_push]
  by_cases e : c = B.next
  · subst e; rw [if_pos rfl, if_neg (by omega), if_neg (by omega), if_pos rfl]
  · rw [if_neg e, if_neg e]
theorem rmemSet (B : AHeap) (b cb wb tb c : Nat) (m : MemM) (x : Option Blk) (hb : c ≠ b) (hwb : c ≠ wb) : (B.rmem b cb wb tb m).set c x = (B.set c x).rmem b cb wb tb m := by
  refine rmem_of _ _ _ _ _ _ _ (by simp) fun d => ?_
  rw [AHeap.get_set, rmem_get, AHeap.get_set]
  by_cases e : d = c
  · subst e; rw [if_pos rfl, if_neg hb, if_neg (fun q => hwb q.1), if_pos rfl]
  · rw [if_neg e, if_neg e]
theorem rmemGet (B : AHeap) (b cb wb tb c : Nat) (m : MemM) (hb : c ≠ b) (hwb : c ≠ wb) : (B.rmem b cb wb tb m).get c = B.get c := by
  rw [rmem_get, if_neg hb, if_neg (fun q => hwb q.1)]
theorem RFix.more {B B' : AHeap} {b cb wb tb : Nat} {m m' : MemM} (h : RFix B b cb wb tb m) (hw : B.WF) (hn : B.next ≤ B'.next) (hg : ∀ c, c < B.next → B'.get c = B.get c) (hc : m'.code = m.code) (ht : m'.tape = m.tape) : RFix B' b cb wb tb m' := by
  have h1 := h.hb; have h2 := h.hwb
  refine ⟨fun q => ?_, ?_, by omega, by omega, h.bw, h.bc, h.bt, h.wc, h.wt⟩
  · rw [hc] at q ⊢
    rw [hg cb (hw _ _ (h.code q))]; exact h.code q
  · rw [ht, hg tb (hw _ _ h.tape)]; exact h.tape
theorem rmem_end {B B' X : AHeap} {b cb wb tb : Nat} {m m' : MemM} {rs : List AV} (hw : B.WF) (hf : RFix B b cb wb tb m) (hX : X = B'.rmem b cb wb tb m') (hn : B.next ≤ B'.next) (hg : ∀ c, c < B.next → B'.get c = B.get c)
    (hwl : m'.words.length = m.words.length) (hcd : m'.code.length = m.code.length) (hc : (mkRes rs).closed = true) :
    forget (B.rmem b cb wb tb m) (some (rs, X)) = some (mkRes rs, B.rmem b cb wb tb m') := by
  subst hX
  have hct : CanTrunc (B.rmem b cb wb tb m) (B'.rmem b cb wb tb m') := fun c hcn => by
    rw [rmem_get, rmem_get]
    split
    · refine .inr fun blk hblk row hr a ha => ?_
      simp only [Option.some.injEq] at hblk
      subst hblk
      simp only [rBlk, List.mem_singleton] at hr
      subst hr
      simp only [List.mem_cons, List.not_mem_nil, or_false] at ha
      rw [rmem_next]
      have h1 := hf.hwb; have h2 := hf.tb hw
      rcases ha with rfl | rfl | rfl | rfl | rfl
      · by_cases h0 : m'.code.length = 0
        · rw [h0]; rfl
        · exact cAV_below _ _ _ (hf.cb hw (by omega))
      · exact cAV_below _ _ _ h1
      · simp [idsBelow, h2]
      · rfl
      · rfl
    · rw [hwl]
      split
      · refine .inr fun blk hblk row hr a ha => ?_
        simp only [Option.some.injEq] at hblk
        subst hblk
        have := w32s_flat _ row hr a ha
        cases a <;> simp_all [idsBelow, AV.flat]
      · refine .inl (hg c (by simpa using hcn))
  unfold forget
  dsimp only
  rw [if_pos ⟨hc, hct, by simpa using hn⟩]
  congr 2
  refine AHeap.eq_of (by simp [AHeap.trunc]) (funext fun c => ?_)
  show (if c < (B.rmem b cb wb tb m).next then (B'.rmem b cb wb tb m').get c else none) = (B.rmem b cb wb tb m').get c
  rw [rmem_next]
  by_cases hcn : c < B.next
  · rw [if_pos hcn, rmem_get, rmem_get, hg c hcn]
  · rw [if_neg hcn]
    cases hh : (B.rmem b cb wb tb m').get c with
    | none => rfl
    | some x => exact (hcn (by have := rmem_wf (cb := cb) (tb := tb) (m := m') hw hf.hb hf.hwb c x hh; rwa [rmem_next] at this)).elim
theorem rmem_san {B : AHeap} {b cb wb tb : Nat} {m m' : MemM} {v : AV} (hw : B.WF) (hb : b < B.next) (hwb : wb < B.next) : san (B.rmem b cb wb tb m) (some (v, B.rmem b cb wb tb m')) = some (v, B.rmem b cb wb tb m') := san_wf (rmem_wf hw hb hwb) (by simp)
def putS (s : StM) (w : BitVec 32) (d : Option Nat) : StM := match d with | some d => (flagsM s w).setR d w | none => flagsM s w
theorem rput_some (s : StM) (w : BitVec 32) (d : Nat) (hd : d < 8) : ref06_put.spec [.agg s.cells, W32 w, .int .i64 d] = some (.agg (putS s w (some d)).cells) := by
  have h := rFlags_eq s w
  simp -implicitDefEqProofs +contextual (disch := omega) [ref06_put.spec, ref06_put, h, putS]
theorem rput_none (s : StM) (w : BitVec 32) : ref06_put.spec [.agg s.cells, W32 w, .int .i64 (-1)] = some (.agg (putS s w none).cells) := by
  have h := rFlags_eq s w
  simp -implicitDefEqProofs +contextual (disch := omega) [ref06_put.spec, ref06_put, h, putS]
theorem rnot_eq (a : BitVec 32) : ref06_not.spec [W32 a] = some (W32 (~~~a)) := by
  have h : 4294967295#32 - a = ~~~a := by
    apply BitVec.eq_of_toNat_eq
    have := a.isLt
    rw [BitVec.toNat_sub, BitVec.toNat_not]; simp; omega
  simp -implicitDefEqProofs +contextual (disch := omega) [ref06_not.spec, ref06_not, h]
def dAV (d : Option Nat) : AV := match d with | some d => .int .i64 d | none => .int .i64 (-1)
def dOk (d : Option Nat) : Prop := match d with | some d => d < 8 | none => True
theorem rput_eq (s : StM) (w : BitVec 32) (d : Option Nat) (hd : dOk d) : ref06_put.spec [.agg s.cells, W32 w, dAV d] = some (.agg (putS s w d).cells) := by
  cases d with
  | some d => exact rput_some s w d hd
  | none => exact rput_none s w
def inS (x : StM × BitVec 32) (d : Option Nat) : StM := match d with | some d => x.1.setR d x.2 | none => x.1
theorem rsum_eq (s : StM) (a b : BitVec 32) (c : Bool) (d : Option Nat) (hd : dOk d) : ref06_sum.spec [.agg s.cells, W32 a, W32 b, .bool c, dAV d] = some (.agg (inS (addS s a b c) d).cells) := by
  have h1 := rAdd_eq a b c
  have h2 := fun s' => rput_eq s' (addM a b c).w d hd
  cases d with
  | some d =>
    simp only [dAV] at h2 ⊢
    simp -implicitDefEqProofs +contextual (disch := omega) [ref06_sum.spec, ref06_sum, h1, h2, inS, addS, putS]
  | none =>
    simp only [dAV] at h2 ⊢
    simp -implicitDefEqProofs +contextual (disch := omega) [ref06_sum.spec, ref06_sum, h1, h2, inS, addS, putS]
theorem rshift_eq (s : StM) (k : Nat) (hk : k ≤ 3) (a b : BitVec 32) (d : Option Nat) (hd : dOk d) : ref06_shift.spec [.agg s.cells, .int .i64 k, W32 a, W32 b, dAV d] = some (.agg (inS (shiftS s k a b) d).cells) := by
  have h1 := rShift_eq k hk a b s.c
  have h2 := fun s' => rput_eq s' (shiftM k a b s.c).w d hd
  cases d with
  | some d =>
    simp only [dAV] at h2 ⊢
    simp -implicitDefEqProofs +contextual (disch := omega) [ref06_shift.spec, ref06_shift, h1, h2, inS, shiftS, putS]
  | none =>
    simp only [dAV] at h2 ⊢
    simp -implicitDefEqProofs +contextual (disch := omega) [ref06_shift.spec, ref06_shift, h1, h2, inS, shiftS, putS]
def aluD (k d : Nat) : Option Nat := if k = 8 ∨ k = 10 ∨ k = 11 then none else some d
theorem and_255 (b : BitVec 32) : b % 256#32 = b &&& 255#32 := by
  apply BitVec.eq_of_toNat_eq
  rw [BitVec.toNat_umod, BitVec.toNat_and, show (255#32).toNat = 2 ^ 8 - 1 from rfl, Nat.and_two_pow_sub_one_eq_mod]; rfl
theorem ralu0 (s : StM) (d : Nat) (hd : d < 8) (a b : BitVec 32) : ref06_alu.spec [.agg s.cells, .int .i64 0, .int .i64 d, W32 a, W32 b] = some (.agg (inS (aluM s 0 a b) (aluD 0 d)).cells) := by
  have h1 := fun w => rput_eq s w (some d) hd
  have h2 := fun w => rput_eq s w none trivial
  have h3 := fun a b c => rsum_eq s a b c (some d) hd
  have h4 := fun a b c => rsum_eq s a b c none trivial
  have h50 := fun a b => rshift_eq s 0 (by omega) a b (some d) hd
  have h51 := fun a b => rshift_eq s 1 (by omega) a b (some d) hd
  have h52 := fun a b => rshift_eq s 2 (by omega) a b (some d) hd
  have h53 := fun a b => rshift_eq s 3 (by omega) a b (some d) hd
  simp only [dAV] at h1 h2 h3 h4 h50 h51 h52 h53
  push_cast at h50 h51 h52 h53
  simp -implicitDefEqProofs +contextual (disch := omega) [ref06_alu.spec, ref06_alu, aluM, aluD, inS, putS, and_255, rnot_eq, h1, h2, h3, h4, h50, h51, h52, h53]
theorem ralu1 (s : StM) (d : Nat) (hd : d < 8) (a b : BitVec 32) : ref06_alu.spec [.agg s.cells, .int .i64 1, .int .i64 d, W32 a, W32 b] = some (.agg (inS (aluM s 1 a b) (aluD 1 d)).cells) := by
  have h1 := fun w => rput_eq s w (some d) hd
  have h2 := fun w => rput_eq s w none trivial
  have h3 := fun a b c => rsum_eq s a b c (some d) hd
  have h4 := fun a b c => rsum_eq s a b c none trivial
  have h50 := fun a b => rshift_eq s 0 (by omega) a b (some d) hd
  have h51 := fun a b => rshift_eq s 1 (by omega) a b (some d) hd
  have h52 := fun a b => rshift_eq s 2 (by omega) a b (some d) hd
  have h53 := fun a b => rshift_eq s 3 (by omega) a b (some d) hd
  simp only [dAV] at h1 h2 h3 h4 h50 h51 h52 h53
  push_cast at h50 h51 h52 h53
  simp -implicitDefEqProofs +contextual (disch := omega) [ref06_alu.spec, ref06_alu, aluM, aluD, inS, putS, and_255, rnot_eq, h1, h2, h3, h4, h50, h51, h52, h53]
theorem ralu2 (s : StM) (d : Nat) (hd : d < 8) (a b : BitVec 32) : ref06_alu.spec [.agg s.cells, .int .i64 2, .int .i64 d, W32 a, W32 b] = some (.agg (inS (aluM s 2 a b) (aluD 2 d)).cells) := by
  have h1 := fun w => rput_eq s w (some d) hd
  have h2 := fun w => rput_eq s w none trivial
  have h3 := fun a b c => rsum_eq s a b c (some d) hd
  have h4 := fun a b c => rsum_eq s a b c none trivial
  have h50 := fun a b => rshift_eq s 0 (by omega) a b (some d) hd
  have h51 := fun a b => rshift_eq s 1 (by omega) a b (some d) hd
  have h52 := fun a b => rshift_eq s 2 (by omega) a b (some d) hd
  have h53 := fun a b => rshift_eq s 3 (by omega) a b (some d) hd
  simp only [dAV] at h1 h2 h3 h4 h50 h51 h52 h53
  push_cast at h50 h51 h52 h53
  simp -implicitDefEqProofs +contextual (disch := omega) [ref06_alu.spec, ref06_alu, aluM, aluD, inS, putS, and_255, rnot_eq, h1, h2, h3, h4, h50, h51, h52, h53]
theorem ralu3 (s : StM) (d : Nat) (hd : d < 8) (a b : BitVec 32) : ref06_alu.spec [.agg s.cells, .int .i64 3, .int .i64 d, W32 a, W32 b] = some (.agg (inS (aluM s 3 a b) (aluD 3 d)).cells) := by
  have h1 := fun w => rput_eq s w (some d) hd
  have h2 := fun w => rput_eq s w none trivial
  have h3 := fun a b c => rsum_eq s a b c (some d) hd
  have h4 := fun a b c => rsum_eq s a b c none trivial
  have h50 := fun a b => rshift_eq s 0 (by omega) a b (some d) hd
  have h51 := fun a b => rshift_eq s 1 (by omega) a b (some d) hd
  have h52 := fun a b => rshift_eq s 2 (by omega) a b (some d) hd
  have h53 := fun a b => rshift_eq s 3 (by omega) a b (some d) hd
  simp only [dAV] at h1 h2 h3 h4 h50 h51 h52 h53
  push_cast at h50 h51 h52 h53
  simp -implicitDefEqProofs +contextual (disch := omega) [ref06_alu.spec, ref06_alu, aluM, aluD, inS, putS, and_255, rnot_eq, h1, h2, h3, h4, h50, h51, h52, h53]
theorem ralu4 (s : StM) (d : Nat) (hd : d < 8) (a b : BitVec 32) : ref06_alu.spec [.agg s.cells, .int .i64 4, .int .i64 d, W32 a, W32 b] = some (.agg (inS (aluM s 4 a b) (aluD 4 d)).cells) := by
  have h1 := fun w => rput_eq s w (some d) hd
  have h2 := fun w => rput_eq s w none trivial
  have h3 := fun a b c => rsum_eq s a b c (some d) hd
  have h4 := fun a b c => rsum_eq s a b c none trivial
  have h50 := fun a b => rshift_eq s 0 (by omega) a b (some d) hd
  have h51 := fun a b => rshift_eq s 1 (by omega) a b (some d) hd
  have h52 := fun a b => rshift_eq s 2 (by omega) a b (some d) hd
  have h53 := fun a b => rshift_eq s 3 (by omega) a b (some d) hd
  simp only [dAV] at h1 h2 h3 h4 h50 h51 h52 h53
  push_cast at h50 h51 h52 h53
  simp -implicitDefEqProofs +contextual (disch := omega) [ref06_alu.spec, ref06_alu, aluM, aluD, inS, putS, and_255, rnot_eq, h1, h2, h3, h4, h50, h51, h52, h53]
theorem ralu5 (s : StM) (d : Nat) (hd : d < 8) (a b : BitVec 32) : ref06_alu.spec [.agg s.cells, .int .i64 5, .int .i64 d, W32 a, W32 b] = some (.agg (inS (aluM s 5 a b) (aluD 5 d)).cells) := by
  have h1 := fun w => rput_eq s w (some d) hd
  have h2 := fun w => rput_eq s w none trivial
  have h3 := fun a b c => rsum_eq s a b c (some d) hd
  have h4 := fun a b c => rsum_eq s a b c none trivial
  have h50 := fun a b => rshift_eq s 0 (by omega) a b (some d) hd
  have h51 := fun a b => rshift_eq s 1 (by omega) a b (some d) hd
  have h52 := fun a b => rshift_eq s 2 (by omega) a b (some d) hd
  have h53 := fun a b => rshift_eq s 3 (by omega) a b (some d) hd
  simp only [dAV] at h1 h2 h3 h4 h50 h51 h52 h53
  push_cast at h50 h51 h52 h53
  simp -implicitDefEqProofs +contextual (disch := omega) [ref06_alu.spec, ref06_alu, aluM, aluD, inS, putS, and_255, rnot_eq, h1, h2, h3, h4, h50, h51, h52, h53]
theorem ralu6 (s : StM) (d : Nat) (hd : d < 8) (a b : BitVec 32) : ref06_alu.spec [.agg s.cells, .int .i64 6, .int .i64 d, W32 a, W32 b] = some (.agg (inS (aluM s 6 a b) (aluD 6 d)).cells) := by
  have h1 := fun w => rput_eq s w (some d) hd
  have h2 := fun w => rput_eq s w none trivial
  have h3 := fun a b c => rsum_eq s a b c (some d) hd
  have h4 := fun a b c => rsum_eq s a b c none trivial
  have h50 := fun a b => rshift_eq s 0 (by omega) a b (some d) hd
  have h51 := fun a b => rshift_eq s 1 (by omega) a b (some d) hd
  have h52 := fun a b => rshift_eq s 2 (by omega) a b (some d) hd
  have h53 := fun a b => rshift_eq s 3 (by omega) a b (some d) hd
  simp only [dAV] at h1 h2 h3 h4 h50 h51 h52 h53
  push_cast at h50 h51 h52 h53
  simp -implicitDefEqProofs +contextual (disch := omega) [ref06_alu.spec, ref06_alu, aluM, aluD, inS, putS, and_255, rnot_eq, h1, h2, h3, h4, h50, h51, h52, h53]
theorem ralu7 (s : StM) (d : Nat) (hd : d < 8) (a b : BitVec 32) : ref06_alu.spec [.agg s.cells, .int .i64 7, .int .i64 d, W32 a, W32 b] = some (.agg (inS (aluM s 7 a b) (aluD 7 d)).cells) := by
  have h1 := fun w => rput_eq s w (some d) hd
  have h2 := fun w => rput_eq s w none trivial
  have h3 := fun a b c => rsum_eq s a b c (some d) hd
  have h4 := fun a b c => rsum_eq s a b c none trivial
  have h50 := fun a b => rshift_eq s 0 (by omega) a b (some d) hd
  have h51 := fun a b => rshift_eq s 1 (by omega) a b (some d) hd
  have h52 := fun a b => rshift_eq s 2 (by omega) a b (some d) hd
  have h53 := fun a b => rshift_eq s 3 (by omega) a b (some d) hd
  simp only [dAV] at h1 h2 h3 h4 h50 h51 h52 h53
  push_cast at h50 h51 h52 h53
  simp -implicitDefEqProofs +contextual (disch := omega) [ref06_alu.spec, ref06_alu, aluM, aluD, inS, putS, and_255, rnot_eq, h1, h2, h3, h4, h50, h51, h52, h53]
theorem ralu8 (s : StM) (d : Nat) (hd : d < 8) (a b : BitVec 32) : ref06_alu.spec [.agg s.cells, .int .i64 8, .int .i64 d, W32 a, W32 b] = some (.agg (inS (aluM s 8 a b) (aluD 8 d)).cells) := by
  have h1 := fun w => rput_eq s w (some d) hd
  have h2 := fun w => rput_eq s w none trivial
  have h3 := fun a b c => rsum_eq s a b c (some d) hd
  have h4 := fun a b c => rsum_eq s a b c none trivial
  have h50 := fun a b => rshift_eq s 0 (by omega) a b (some d) hd
  have h51 := fun a b => rshift_eq s 1 (by omega) a b (some d) hd
  have h52 := fun a b => rshift_eq s 2 (by omega) a b (some d) hd
  have h53 := fun a b => rshift_eq s 3 (by omega) a b (some d) hd
  simp only [dAV] at h1 h2 h3 h4 h50 h51 h52 h53
  push_cast at h50 h51 h52 h53
  simp -implicitDefEqProofs +contextual (disch := omega) [ref06_alu.spec, ref06_alu, aluM, aluD, inS, putS, and_255, rnot_eq, h1, h2, h3, h4, h50, h51, h52, h53]
theorem ralu9 (s : StM) (d : Nat) (hd : d < 8) (a b : BitVec 32) : ref06_alu.spec [.agg s.cells, .int .i64 9, .int .i64 d, W32 a, W32 b] = some (.agg (inS (aluM s 9 a b) (aluD 9 d)).cells) := by
  have h1 := fun w => rput_eq s w (some d) hd
  have h2 := fun w => rput_eq s w none trivial
  have h3 := fun a b c => rsum_eq s a b c (some d) hd
  have h4 := fun a b c => rsum_eq s a b c none trivial
  have h50 := fun a b => rshift_eq s 0 (by omega) a b (some d) hd
  have h51 := fun a b => rshift_eq s 1 (by omega) a b (some d) hd
  have h52 := fun a b => rshift_eq s 2 (by omega) a b (some d) hd
  have h53 := fun a b => rshift_eq s 3 (by omega) a b (some d) hd
  simp only [dAV] at h1 h2 h3 h4 h50 h51 h52 h53
  push_cast at h50 h51 h52 h53
  simp -implicitDefEqProofs +contextual (disch := omega) [ref06_alu.spec, ref06_alu, aluM, aluD, inS, putS, and_255, rnot_eq, h1, h2, h3, h4, h50, h51, h52, h53]
theorem ralu10 (s : StM) (d : Nat) (hd : d < 8) (a b : BitVec 32) : ref06_alu.spec [.agg s.cells, .int .i64 10, .int .i64 d, W32 a, W32 b] = some (.agg (inS (aluM s 10 a b) (aluD 10 d)).cells) := by
  have h1 := fun w => rput_eq s w (some d) hd
  have h2 := fun w => rput_eq s w none trivial
  have h3 := fun a b c => rsum_eq s a b c (some d) hd
  have h4 := fun a b c => rsum_eq s a b c none trivial
  have h50 := fun a b => rshift_eq s 0 (by omega) a b (some d) hd
  have h51 := fun a b => rshift_eq s 1 (by omega) a b (some d) hd
  have h52 := fun a b => rshift_eq s 2 (by omega) a b (some d) hd
  have h53 := fun a b => rshift_eq s 3 (by omega) a b (some d) hd
  simp only [dAV] at h1 h2 h3 h4 h50 h51 h52 h53
  push_cast at h50 h51 h52 h53
  simp -implicitDefEqProofs +contextual (disch := omega) [ref06_alu.spec, ref06_alu, aluM, aluD, inS, putS, and_255, rnot_eq, h1, h2, h3, h4, h50, h51, h52, h53]
theorem ralu11 (s : StM) (d : Nat) (hd : d < 8) (a b : BitVec 32) : ref06_alu.spec [.agg s.cells, .int .i64 11, .int .i64 d, W32 a, W32 b] = some (.agg (inS (aluM s 11 a b) (aluD 11 d)).cells) := by
  have h1 := fun w => rput_eq s w (some d) hd
  have h2 := fun w => rput_eq s w none trivial
  have h3 := fun a b c => rsum_eq s a b c (some d) hd
  have h4 := fun a b c => rsum_eq s a b c none trivial
  have h50 := fun a b => rshift_eq s 0 (by omega) a b (some d) hd
  have h51 := fun a b => rshift_eq s 1 (by omega) a b (some d) hd
  have h52 := fun a b => rshift_eq s 2 (by omega) a b (some d) hd
  have h53 := fun a b => rshift_eq s 3 (by omega) a b (some d) hd
  simp only [dAV] at h1 h2 h3 h4 h50 h51 h52 h53
  push_cast at h50 h51 h52 h53
  simp -implicitDefEqProofs +contextual (disch := omega) [ref06_alu.spec, ref06_alu, aluM, aluD, inS, putS, and_255, rnot_eq, h1, h2, h3, h4, h50, h51, h52, h53]
theorem ralu12 (s : StM) (d : Nat) (hd : d < 8) (a b : BitVec 32) : ref06_alu.spec [.agg s.cells, .int .i64 12, .int .i64 d, W32 a, W32 b] = some (.agg (inS (aluM s 12 a b) (aluD 12 d)).cells) := by
  have h1 := fun w => rput_eq s w (some d) hd
  have h2 := fun w => rput_eq s w none trivial
  have h3 := fun a b c => rsum_eq s a b c (some d) hd
  have h4 := fun a b c => rsum_eq s a b c none trivial
  have h50 := fun a b => rshift_eq s 0 (by omega) a b (some d) hd
  have h51 := fun a b => rshift_eq s 1 (by omega) a b (some d) hd
  have h52 := fun a b => rshift_eq s 2 (by omega) a b (some d) hd
  have h53 := fun a b => rshift_eq s 3 (by omega) a b (some d) hd
  simp only [dAV] at h1 h2 h3 h4 h50 h51 h52 h53
  push_cast at h50 h51 h52 h53
  simp -implicitDefEqProofs +contextual (disch := omega) [ref06_alu.spec, ref06_alu, aluM, aluD, inS, putS, and_255, rnot_eq, h1, h2, h3, h4, h50, h51, h52, h53]
theorem ralu13 (s : StM) (d : Nat) (hd : d < 8) (a b : BitVec 32) : ref06_alu.spec [.agg s.cells, .int .i64 13, .int .i64 d, W32 a, W32 b] = some (.agg (inS (aluM s 13 a b) (aluD 13 d)).cells) := by
  have h1 := fun w => rput_eq s w (some d) hd
  have h2 := fun w => rput_eq s w none trivial
  have h3 := fun a b c => rsum_eq s a b c (some d) hd
  have h4 := fun a b c => rsum_eq s a b c none trivial
  have h50 := fun a b => rshift_eq s 0 (by omega) a b (some d) hd
  have h51 := fun a b => rshift_eq s 1 (by omega) a b (some d) hd
  have h52 := fun a b => rshift_eq s 2 (by omega) a b (some d) hd
  have h53 := fun a b => rshift_eq s 3 (by omega) a b (some d) hd
  simp only [dAV] at h1 h2 h3 h4 h50 h51 h52 h53
  push_cast at h50 h51 h52 h53
  simp -implicitDefEqProofs +contextual (disch := omega) [ref06_alu.spec, ref06_alu, aluM, aluD, inS, putS, and_255, rnot_eq, h1, h2, h3, h4, h50, h51, h52, h53]
theorem ralu14 (s : StM) (d : Nat) (hd : d < 8) (a b : BitVec 32) : ref06_alu.spec [.agg s.cells, .int .i64 14, .int .i64 d, W32 a, W32 b] = some (.agg (inS (aluM s 14 a b) (aluD 14 d)).cells) := by
  have h1 := fun w => rput_eq s w (some d) hd
  have h2 := fun w => rput_eq s w none trivial
  have h3 := fun a b c => rsum_eq s a b c (some d) hd
  have h4 := fun a b c => rsum_eq s a b c none trivial
  have h50 := fun a b => rshift_eq s 0 (by omega) a b (some d) hd
  have h51 := fun a b => rshift_eq s 1 (by omega) a b (some d) hd
  have h52 := fun a b => rshift_eq s 2 (by omega) a b (some d) hd
  have h53 := fun a b => rshift_eq s 3 (by omega) a b (some d) hd
  simp only [dAV] at h1 h2 h3 h4 h50 h51 h52 h53
  push_cast at h50 h51 h52 h53
  simp -implicitDefEqProofs +contextual (disch := omega) [ref06_alu.spec, ref06_alu, aluM, aluD, inS, putS, and_255, rnot_eq, h1, h2, h3, h4, h50, h51, h52, h53]
theorem ralu15 (s : StM) (d : Nat) (hd : d < 8) (a b : BitVec 32) : ref06_alu.spec [.agg s.cells, .int .i64 15, .int .i64 d, W32 a, W32 b] = some (.agg (inS (aluM s 15 a b) (aluD 15 d)).cells) := by
  have h1 := fun w => rput_eq s w (some d) hd
  have h2 := fun w => rput_eq s w none trivial
  have h3 := fun a b c => rsum_eq s a b c (some d) hd
  have h4 := fun a b c => rsum_eq s a b c none trivial
  have h50 := fun a b => rshift_eq s 0 (by omega) a b (some d) hd
  have h51 := fun a b => rshift_eq s 1 (by omega) a b (some d) hd
  have h52 := fun a b => rshift_eq s 2 (by omega) a b (some d) hd
  have h53 := fun a b => rshift_eq s 3 (by omega) a b (some d) hd
  simp only [dAV] at h1 h2 h3 h4 h50 h51 h52 h53
  push_cast at h50 h51 h52 h53
  simp -implicitDefEqProofs +contextual (disch := omega) [ref06_alu.spec, ref06_alu, aluM, aluD, inS, putS, and_255, rnot_eq, h1, h2, h3, h4, h50, h51, h52, h53]
end Go.Abs
end
section
set_option linter.unusedSimpArgs false
set_option linter.unusedVariables false
namespace Go.Abs
open Th
theorem two_imm (x : BitVec 32) (y : BitVec 32) : x + y + y = x + 2#32 * y := by
  rw [BitVec.add_assoc]; congr 1
  apply BitVec.eq_of_toNat_eq
  rw [BitVec.toNat_add, BitVec.toNat_mul]; simp; omega
theorem down4 (x : BitVec 32) : x / 4#32 * 4#32 = x &&& 4294967292#32 := by
  have h : x &&& 4294967292#32 = (x >>> 2) <<< 2 := by
    apply BitVec.eq_of_getLsbD_eq
    intro i hi
    have h1 : ∀ i : Fin 32, (4294967292#32).getLsbD i.val = decide (2 ≤ i.val) := by decide
    have h2 := h1 ⟨i, hi⟩
    simp only at h2
    rw [BitVec.getLsbD_and, h2, BitVec.getLsbD_shiftLeft, BitVec.getLsbD_ushiftRight]
    by_cases e : 2 ≤ i
    · have e2 : ¬ i < 2 := by omega
      rw [show 2 + (i - 2) = i from by omega]
      simp [e, e2, hi]
    · have e2 : i < 2 := by omega
      simp [e, e2]
  rw [h]
  apply BitVec.eq_of_toNat_eq
  have := x.isLt
  rw [BitVec.toNat_mul, BitVec.toNat_udiv, BitVec.toNat_shiftLeft, BitVec.toNat_ushiftRight, Nat.shiftLeft_eq, Nat.shiftRight_eq_div_pow]; rfl
theorem loads_keep' (m : MemM) (a : BitVec 32) : (m.loads a).2.code = m.code ∧ (m.loads a).2.tape = m.tape ∧ (m.loads a).2.words = m.words := by
  unfold MemM.loads MemM.load; dsimp only; repeat' split
  all_goals simp
theorem store_keep' (m : MemM) (a x : BitVec 32) : (m.store a x).2.code = m.code ∧ (m.store a x).2.tape = m.tape ∧ (m.store a x).2.words.length = m.words.length := by
  unfold MemM.store; split <;> simp
theorem ralu_eq (k : Nat) (hk : k ≤ 15) (s : StM) (d : Nat) (hd : d < 8) (a b : BitVec 32) : ref06_alu.spec [.agg s.cells, .int .i64 k, .int .i64 d, W32 a, W32 b] = some (.agg (inS (aluM s k a b) (aluD k d)).cells) := by
  match k, hk with
  | 0, _ => exact ralu0 s d hd a b
  | 1, _ => exact ralu1 s d hd a b
  | 2, _ => exact ralu2 s d hd a b
  | 3, _ => exact ralu3 s d hd a b
  | 4, _ => exact ralu4 s d hd a b
  | 5, _ => exact ralu5 s d hd a b
  | 6, _ => exact ralu6 s d hd a b
  | 7, _ => exact ralu7 s d hd a b
  | 8, _ => exact ralu8 s d hd a b
  | 9, _ => exact ralu9 s d hd a b
  | 10, _ => exact ralu10 s d hd a b
  | 11, _ => exact ralu11 s d hd a b
  | 12, _ => exact ralu12 s d hd a b
  | 13, _ => exact ralu13 s d hd a b
  | 14, _ => exact ralu14 s d hd a b
  | 15, _ => exact ralu15 s d hd a b
structure RCtx (B : AHeap) (b cb wb tb : Nat) (m : MemM) : Prop where
  wf : B.WF
  fix : RFix B b cb wb tb m
  ok : m.Ok
theorem rL {B B' : AHeap} {b cb wb tb : Nat} {m : MemM} (h : RCtx B b cb wb tb m) (h1 : B'.WF) (h2 : B.next ≤ B'.next) (h3 : ∀ c, c < B.next → B'.get c = B.get c) (a : BitVec 32) : ref05_Mem_Load.spec [.ptr b 5 0 0, W32 a] (B'.rmem b cb wb tb m) = some (.tup [W32 (m.loads a).1.1, .int .i64 (m.loads a).1.2], B'.rmem b cb wb tb (m.loads a).2) :=
  rLoad_eq B' b cb wb tb m h1 (h.fix.more h.wf h2 h3 rfl rfl) a h.ok
theorem rS {B B' : AHeap} {b cb wb tb : Nat} {m : MemM} (h : RCtx B b cb wb tb m) (h1 : B'.WF) (h2 : B.next ≤ B'.next) (h3 : ∀ c, c < B.next → B'.get c = B.get c) (a x : BitVec 32) : ref05_Mem_Store.spec [.ptr b 5 0 0, W32 a, W32 x] (B'.rmem b cb wb tb m) = some (.int .i64 (m.store a x).1, B'.rmem b cb wb tb (m.store a x).2) :=
  rStore_eq B' b cb wb tb m h1 (h.fix.more h.wf h2 h3 rfl rfl) a x h.ok
theorem rF {B B' : AHeap} {b cb wb tb : Nat} {m : MemM} (h : RCtx B b cb wb tb m) (h1 : B'.WF) (h2 : B.next ≤ B'.next) (h3 : ∀ c, c < B.next → B'.get c = B.get c) (a : BitVec 32) : ref05_Mem_Fetch.spec [.ptr b 5 0 0, W32 a] (B'.rmem b cb wb tb m) = some (.tup [W16 (m.fetch a).1, .int .i64 (m.fetch a).2], B'.rmem b cb wb tb m) :=
  rFetch_eq B' b cb wb tb m h1 (h.fix.more h.wf h2 h3 rfl rfl) a h.ok
set_option maxHeartbeats 40000000 in
theorem rstep_low (k : Nat) (hk : k = 0 ∨ k = 1 ∨ k = 2 ∨ k = 3 ∨ k = 4 ∨ k = 5 ∨ k = 6 ∨ k = 7 ∨ k = 8 ∨ k = 9 ∨ k = 10) (B : AHeap) (b cb wb tb : Nat) (m : MemM) (hx : RCtx B b cb wb tb m) (s : StM) (D N M : Nat) (hD : D < 8) (hN : N < 8) (hM : M < 8) (imm : Int) (hc : (InsM.mk (k : Nat) D N M imm).can = true) (h : BitVec 16) (hf : m.fetch s.pc = (h, 0)) (ht : takeN h.toNat = (⟨(k : Nat), D, N, M, imm⟩, 0)) :
    ref06_Step.spec [.agg s.cells, .ptr b 5 0 0] (B.rmem b cb wb tb m) = some (DidAV (doM ⟨(k : Nat), D, N, M, imm⟩ s m), B.rmem b cb wb tb (doM ⟨(k : Nat), D, N, M, imm⟩ s m).m) := by
  have hT := rTake_eq h
  have hw := hx.wf; have hb := hx.fix.hb; have hwb := hx.fix.hwb
  have hF := fun B' h1 h2 h3 => rF (B' := B') hx h1 h2 h3 s.pc
  have hD8 : D % 8 < 8 := Nat.mod_lt _ (by omega)
  have hd8i : D < 8 → ((D : Int) % 8).toNat = D := fun _ => by omega
  rw [hf] at hF
  rw [ht] at hT
  clear ht
  simp only [InsAV] at hT
  unfold DidAV
  have h1 := fun w => rput_eq s w (some D) hD
  have h3 := fun a b c => rsum_eq s a b c (some D) hD
  have h4 := fun a b c => rsum_eq s a b c none trivial
  have h50 := fun a b => rshift_eq s 0 (by omega) a b (some D) hD
  have h51 := fun a b => rshift_eq s 1 (by omega) a b (some D) hD
  have h52 := fun a b => rshift_eq s 2 (by omega) a b (some D) hD
  simp only [dAV] at h1 h3 h4 h50 h51 h52
  push_cast at h50 h51 h52
  have hd8 : D % 8 = D := Nat.mod_eq_of_lt hD
  obtain rfl | rfl | rfl | rfl | rfl | rfl | rfl | rfl | rfl | rfl | rfl := hk
  all_goals
    push_cast at hT hc ⊢
    simp only [doM, Int.toNat_natCast, Int.reduceToNat, writesM, hc, if_true]
    simp -implicitDefEqProofs +contextual (disch := try first | omega | assumption | (simp only [AHeap.next_set, AHeap.next_push]; omega) | ((repeat' (first | assumption | with_reducible apply AHeap.WF.push | with_reducible apply AHeap.WF.set)) <;> first | omega | (simp only [AHeap.next_set, AHeap.next_push]; omega)) | (intro c hc; simp (disch := omega); done)) [ref06_Step.spec, ref06_Step, hT, hF, rmemPush, rmemSet, rmemGet, rmem_san, hD8, hd8i, h1, h3, h4, h50, h51, h52, hd8, rnot_eq, reckM, immW, inS, putS]
    refine rmem_end hw hx.fix rfl ?_ ?_ ?_ ?_ ?_
    · simp; omega
    · intro c hc
      simp (disch := omega)
    · rfl
    · rfl
    · simp [mkRes]
set_option maxHeartbeats 40000000 in
theorem rstep_alu (k : Nat) (hk : k = 11) (B : AHeap) (b cb wb tb : Nat) (m : MemM) (hx : RCtx B b cb wb tb m) (s : StM) (D N M : Nat) (hD : D < 8) (hN : N < 8) (hM : M < 8) (imm : Int) (hi : 0 ≤ imm ∧ imm ≤ 15) (hc : (InsM.mk (k : Nat) D N M imm).can = true) (h : BitVec 16) (hf : m.fetch s.pc = (h, 0)) (ht : takeN h.toNat = (⟨(k : Nat), D, N, M, imm⟩, 0)) :
    ref06_Step.spec [.agg s.cells, .ptr b 5 0 0] (B.rmem b cb wb tb m) = some (DidAV (doM ⟨(k : Nat), D, N, M, imm⟩ s m), B.rmem b cb wb tb (doM ⟨(k : Nat), D, N, M, imm⟩ s m).m) := by
  have hT := rTake_eq h
  have hw := hx.wf; have hb := hx.fix.hb; have hwb := hx.fix.hwb
  have hF := fun B' h1 h2 h3 => rF (B' := B') hx h1 h2 h3 s.pc
  have hD8 : D % 8 < 8 := Nat.mod_lt _ (by omega)
  have hd8i : D < 8 → ((D : Int) % 8).toNat = D := fun _ => by omega
  rw [hf] at hF
  rw [ht] at hT
  clear ht
  simp only [InsAV] at hT
  unfold DidAV
  have hd8 : D % 8 = D := Nat.mod_eq_of_lt hD
  subst hk
  push_cast at hT hc ⊢
  simp only [doM, Int.toNat_natCast, Int.reduceToNat, writesM, hc, if_true]
  obtain ⟨q, rfl⟩ : ∃ q : Nat, imm = q := ⟨imm.toNat, by omega⟩
  have hA := ralu_eq q (by omega) s D hD (s.reg D) (s.reg M)
  by_cases hq : q = 8 ∨ q = 10 ∨ q = 11
  · have hq' : (q : Int) = 8 ∨ (q : Int) = 10 ∨ (q : Int) = 11 := by omega
    simp only [aluD, hq, if_true, inS] at hA
    simp -implicitDefEqProofs +contextual (disch := try first | omega | assumption | (simp only [AHeap.next_set, AHeap.next_push]; omega) | ((repeat' (first | assumption | with_reducible apply AHeap.WF.push | with_reducible apply AHeap.WF.set)) <;> first | omega | (simp only [AHeap.next_set, AHeap.next_push]; omega)) | (intro c hc; simp (disch := omega); done)) [ref06_Step.spec, ref06_Step, hT, hF, rmemPush, rmemSet, rmemGet, rmem_san, hD8, hd8i, hA, hd8, hq', reckM]
    refine rmem_end hw hx.fix rfl ?_ ?_ ?_ ?_ ?_
    · simp; omega
    · intro c hc
      simp (disch := omega)
    · rfl
    · rfl
    · simp [mkRes]
  · have hq' : ¬ ((q : Int) = 8 ∨ (q : Int) = 10 ∨ (q : Int) = 11) := by omega
    simp only [aluD, hq, if_false, inS] at hA
    simp -implicitDefEqProofs +contextual (disch := try first | omega | assumption | (simp only [AHeap.next_set, AHeap.next_push]; omega) | ((repeat' (first | assumption | with_reducible apply AHeap.WF.push | with_reducible apply AHeap.WF.set)) <;> first | omega | (simp only [AHeap.next_set, AHeap.next_push]; omega)) | (intro c hc; simp (disch := omega); done)) [ref06_Step.spec, ref06_Step, hT, hF, rmemPush, rmemSet, rmemGet, rmem_san, hD8, hd8i, hA, hd8, hq', reckM]
    refine rmem_end hw hx.fix rfl ?_ ?_ ?_ ?_ ?_
    · simp; omega
    · intro c hc
      simp (disch := omega)
    · rfl
    · rfl
    · simp [mkRes]
set_option maxHeartbeats 40000000 in
theorem rstep_store (k : Nat) (hk : k = 13 ∨ k = 15) (B : AHeap) (b cb wb tb : Nat) (m : MemM) (hx : RCtx B b cb wb tb m) (s : StM) (D N M : Nat) (hD : D < 8) (hN : N < 8) (hM : M < 8) (imm : Int) (hc : (InsM.mk (k : Nat) D N M imm).can = true) (h : BitVec 16) (hf : m.fetch s.pc = (h, 0)) (ht : takeN h.toNat = (⟨(k : Nat), D, N, M, imm⟩, 0)) :
    ref06_Step.spec [.agg s.cells, .ptr b 5 0 0] (B.rmem b cb wb tb m) = some (DidAV (doM ⟨(k : Nat), D, N, M, imm⟩ s m), B.rmem b cb wb tb (doM ⟨(k : Nat), D, N, M, imm⟩ s m).m) := by
  have hT := rTake_eq h
  have hw := hx.wf; have hb := hx.fix.hb; have hwb := hx.fix.hwb
  have hF := fun B' h1 h2 h3 => rF (B' := B') hx h1 h2 h3 s.pc
  have hD8 : D % 8 < 8 := Nat.mod_lt _ (by omega)
  have hd8i : D < 8 → ((D : Int) % 8).toNat = D := fun _ => by omega
  rw [hf] at hF
  rw [ht] at hT
  clear ht
  simp only [InsAV] at hT
  unfold DidAV
  have hM := fun B' h1 h2 h3 => rS (B' := B') hx h1 h2 h3 (addrM s k N M imm) (s.reg D)
  have kp := store_keep' m (addrM s k N M imm) (s.reg D)
  have hd8 : D % 8 = D := Nat.mod_eq_of_lt hD
  obtain rfl | rfl := hk
  all_goals
    push_cast at hT hc ⊢
    simp only [doM, Int.toNat_natCast, Int.reduceToNat, moveM, Nat.reduceEqDiff, or_true, true_or, or_self, if_true]
    simp only [addrM, immW] at hM kp ⊢
    generalize hr : m.store _ (s.reg D) = r at *
    by_cases he : r.1 = 0
    · rw [if_pos he]
      simp -implicitDefEqProofs +contextual (disch := try first | omega | assumption | (simp only [AHeap.next_set, AHeap.next_push]; omega) | ((repeat' (first | assumption | with_reducible apply AHeap.WF.push | with_reducible apply AHeap.WF.set)) <;> first | omega | (simp only [AHeap.next_set, AHeap.next_push]; omega)) | (intro c hc; simp (disch := omega); done)) [ref06_Step.spec, ref06_Step, hT, hF, rmemPush, rmemSet, rmemGet, rmem_san, hD8, hd8i, hM, he, hd8]
      refine rmem_end hw hx.fix rfl ?_ ?_ ?_ ?_ ?_
      · simp; omega
      · intro c hc
        simp (disch := omega)
      · rw [kp.2.2]
      · rw [kp.1]
      · simp [mkRes]
    · rw [if_neg he]
      simp -implicitDefEqProofs +contextual (disch := try first | omega | assumption | (simp only [AHeap.next_set, AHeap.next_push]; omega) | ((repeat' (first | assumption | with_reducible apply AHeap.WF.push | with_reducible apply AHeap.WF.set)) <;> first | omega | (simp only [AHeap.next_set, AHeap.next_push]; omega)) | (intro c hc; simp (disch := omega); done)) [ref06_Step.spec, ref06_Step, hT, hF, rmemPush, rmemSet, rmemGet, rmem_san, hD8, hd8i, hM, he, hd8]
      refine rmem_end hw hx.fix rfl ?_ ?_ ?_ ?_ ?_
      · simp; omega
      · intro c hc
        simp (disch := omega)
      · rw [kp.2.2]
      · rw [kp.1]
      · simp [mkRes]
set_option maxHeartbeats 40000000 in
theorem rstep_load (k : Nat) (hk : k = 12 ∨ k = 14 ∨ k = 16) (B : AHeap) (b cb wb tb : Nat) (m : MemM) (hx : RCtx B b cb wb tb m) (s : StM) (D N M : Nat) (hD : D < 8) (hN : N < 8) (hM : M < 8) (imm : Int) (hc : (InsM.mk (k : Nat) D N M imm).can = true) (h : BitVec 16) (hf : m.fetch s.pc = (h, 0)) (ht : takeN h.toNat = (⟨(k : Nat), D, N, M, imm⟩, 0)) :
    ref06_Step.spec [.agg s.cells, .ptr b 5 0 0] (B.rmem b cb wb tb m) = some (DidAV (doM ⟨(k : Nat), D, N, M, imm⟩ s m), B.rmem b cb wb tb (doM ⟨(k : Nat), D, N, M, imm⟩ s m).m) := by
  have hT := rTake_eq h
  have hw := hx.wf; have hb := hx.fix.hb; have hwb := hx.fix.hwb
  have hF := fun B' h1 h2 h3 => rF (B' := B') hx h1 h2 h3 s.pc
  have hD8 : D % 8 < 8 := Nat.mod_lt _ (by omega)
  have hd8i : D < 8 → ((D : Int) % 8).toNat = D := fun _ => by omega
  rw [hf] at hF
  rw [ht] at hT
  clear ht
  simp only [InsAV] at hT
  unfold DidAV
  have hM := fun B' h1 h2 h3 => rL (B' := B') hx h1 h2 h3 (addrM s k N M imm)
  have kp := loads_keep' m (addrM s k N M imm)
  obtain rfl | rfl | rfl := hk
  all_goals
    push_cast at hT hc ⊢
    simp only [doM, Int.toNat_natCast, Int.reduceToNat, moveM, Nat.reduceEqDiff, or_self, if_false]
    simp only [addrM, immW] at hM kp ⊢
    try rw [show ~~~3#32 = 4294967292#32 from by decide] at *
    generalize hr : m.loads _ = r at *
    by_cases he : r.1.2 = 0
    · rw [if_pos he]
      simp -implicitDefEqProofs +contextual (disch := try first | omega | assumption | (simp only [AHeap.next_set, AHeap.next_push]; omega) | ((repeat' (first | assumption | with_reducible apply AHeap.WF.push | with_reducible apply AHeap.WF.set)) <;> first | omega | (simp only [AHeap.next_set, AHeap.next_push]; omega)) | (intro c hc; simp (disch := omega); done)) [ref06_Step.spec, ref06_Step, hT, hF, rmemPush, rmemSet, rmemGet, rmem_san, hD8, hd8i, hM, he, down4]
      refine rmem_end hw hx.fix rfl ?_ ?_ ?_ ?_ ?_
      · simp; omega
      · intro c hc
        simp (disch := omega)
      · rw [kp.2.2]
      · rw [kp.1]
      · simp [mkRes]
    · rw [if_neg he]
      simp -implicitDefEqProofs +contextual (disch := try first | omega | assumption | (simp only [AHeap.next_set, AHeap.next_push]; omega) | ((repeat' (first | assumption | with_reducible apply AHeap.WF.push | with_reducible apply AHeap.WF.set)) <;> first | omega | (simp only [AHeap.next_set, AHeap.next_push]; omega)) | (intro c hc; simp (disch := omega); done)) [ref06_Step.spec, ref06_Step, hT, hF, rmemPush, rmemSet, rmemGet, rmem_san, hD8, hd8i, hM, he, down4]
      refine rmem_end hw hx.fix rfl ?_ ?_ ?_ ?_ ?_
      · simp; omega
      · intro c hc
        simp (disch := omega)
      · rw [kp.2.2]
      · rw [kp.1]
      · simp [mkRes]
set_option maxHeartbeats 40000000 in
theorem rstep_high (k : Nat) (hk : k = 17 ∨ k = 19 ∨ k = 20) (B : AHeap) (b cb wb tb : Nat) (m : MemM) (hx : RCtx B b cb wb tb m) (s : StM) (D N M : Nat) (hD : D < 8) (hN : N < 8) (hM : M < 8) (imm : Int) (hc : (InsM.mk (k : Nat) D N M imm).can = true) (h : BitVec 16) (hf : m.fetch s.pc = (h, 0)) (ht : takeN h.toNat = (⟨(k : Nat), D, N, M, imm⟩, 0)) :
    ref06_Step.spec [.agg s.cells, .ptr b 5 0 0] (B.rmem b cb wb tb m) = some (DidAV (doM ⟨(k : Nat), D, N, M, imm⟩ s m), B.rmem b cb wb tb (doM ⟨(k : Nat), D, N, M, imm⟩ s m).m) := by
  have hT := rTake_eq h
  have hw := hx.wf; have hb := hx.fix.hb; have hwb := hx.fix.hwb
  have hF := fun B' h1 h2 h3 => rF (B' := B') hx h1 h2 h3 s.pc
  have hD8 : D % 8 < 8 := Nat.mod_lt _ (by omega)
  have hd8i : D < 8 → ((D : Int) % 8).toNat = D := fun _ => by omega
  rw [hf] at hF
  rw [ht] at hT
  clear ht
  simp only [InsAV] at hT
  unfold DidAV
  obtain rfl | rfl | rfl := hk
  all_goals
    push_cast at hT hc ⊢
    simp only [doM, Int.toNat_natCast, Int.reduceToNat]
    simp -implicitDefEqProofs +contextual (disch := try first | omega | assumption | (simp only [AHeap.next_set, AHeap.next_push]; omega) | ((repeat' (first | assumption | with_reducible apply AHeap.WF.push | with_reducible apply AHeap.WF.set)) <;> first | omega | (simp only [AHeap.next_set, AHeap.next_push]; omega)) | (intro c hc; simp (disch := omega); done)) [ref06_Step.spec, ref06_Step, hT, hF, rmemPush, rmemSet, rmemGet, rmem_san, hD8, hd8i, immW, two_imm]
    refine rmem_end hw hx.fix rfl ?_ ?_ ?_ ?_ ?_
    · simp; omega
    · intro c hc
      simp (disch := omega)
    · rfl
    · rfl
    · simp [mkRes]
set_option maxHeartbeats 40000000 in
theorem rstep_if (k : Nat) (hk : k = 18) (B : AHeap) (b cb wb tb : Nat) (m : MemM) (hx : RCtx B b cb wb tb m) (s : StM) (D N M : Nat) (hD : D < 14) (hN : N < 8) (hM : M < 8) (imm : Int) (hc : (InsM.mk (k : Nat) D N M imm).can = true) (h : BitVec 16) (hf : m.fetch s.pc = (h, 0)) (ht : takeN h.toNat = (⟨(k : Nat), D, N, M, imm⟩, 0)) :
    ref06_Step.spec [.agg s.cells, .ptr b 5 0 0] (B.rmem b cb wb tb m) = some (DidAV (doM ⟨(k : Nat), D, N, M, imm⟩ s m), B.rmem b cb wb tb (doM ⟨(k : Nat), D, N, M, imm⟩ s m).m) := by
  have hT := rTake_eq h
  have hw := hx.wf; have hb := hx.fix.hb; have hwb := hx.fix.hwb
  have hF := fun B' h1 h2 h3 => rF (B' := B') hx h1 h2 h3 s.pc
  have hD8 : D % 8 < 8 := Nat.mod_lt _ (by omega)
  have hd8i : D < 8 → ((D : Int) % 8).toNat = D := fun _ => by omega
  rw [hf] at hF
  rw [ht] at hT
  clear ht
  simp only [InsAV] at hT
  unfold DidAV
  have hH := rholds_eq D (by omega) s
  subst hk
  push_cast at hT hc ⊢
  simp only [doM, Int.toNat_natCast, Int.reduceToNat]
  by_cases he : holdsN D s = true
  · rw [if_pos he]
    simp -implicitDefEqProofs +contextual (disch := try first | omega | assumption | (simp only [AHeap.next_set, AHeap.next_push]; omega) | ((repeat' (first | assumption | with_reducible apply AHeap.WF.push | with_reducible apply AHeap.WF.set)) <;> first | omega | (simp only [AHeap.next_set, AHeap.next_push]; omega)) | (intro c hc; simp (disch := omega); done)) [ref06_Step.spec, ref06_Step, hT, hF, rmemPush, rmemSet, rmemGet, rmem_san, hD8, hd8i, immW, two_imm, hH, he]
    refine rmem_end hw hx.fix rfl ?_ ?_ ?_ ?_ ?_
    · simp; omega
    · intro c hc
      simp (disch := omega)
    · rfl
    · rfl
    · simp [mkRes]
  · rw [if_neg he]
    simp -implicitDefEqProofs +contextual (disch := try first | omega | assumption | (simp only [AHeap.next_set, AHeap.next_push]; omega) | ((repeat' (first | assumption | with_reducible apply AHeap.WF.push | with_reducible apply AHeap.WF.set)) <;> first | omega | (simp only [AHeap.next_set, AHeap.next_push]; omega)) | (intro c hc; simp (disch := omega); done)) [ref06_Step.spec, ref06_Step, hT, hF, rmemPush, rmemSet, rmemGet, rmem_san, hD8, hd8i, immW, two_imm, hH, he]
    refine rmem_end hw hx.fix rfl ?_ ?_ ?_ ?_ ?_
    · simp; omega
    · intro c hc
      simp (disch := omega)
    · rfl
    · rfl
    · simp [mkRes]
end Go.Abs
end

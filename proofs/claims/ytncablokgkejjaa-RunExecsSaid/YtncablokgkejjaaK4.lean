/-
  What an instruction leaks: the document's step. Printed by genk4.py.
-/
import Derived.Test.YtncablokgkejjaaK2
import Derived.Test.YtncablokgkejjaaCD
set_option linter.unusedSimpArgs false
set_option linter.unusedVariables false
namespace Go.Abs
open Th
theorem rWrites_eq (i : InsM) : ref02_Writes.spec [InsAV i] = some (.tup [.int .i64 (writesM i).1, .bool (writesM i).2]) := by
  have hc := rCan_eq i
  unfold writesM
  by_cases h : i.can = true
  · have h1 := ((can_iff i).1 h).1
    obtain ⟨op, d, n, m, imm⟩ := i
    rw [if_pos h]
    rw [h] at hc
    simp only [InsAV] at hc ⊢
    dsimp only at h1 ⊢
    obtain ⟨k, rfl⟩ : ∃ k : Nat, op = k := ⟨op.toNat, by omega⟩
    have hk : k = 0 ∨ k = 1 ∨ k = 2 ∨ k = 3 ∨ k = 4 ∨ k = 5 ∨ k = 6 ∨ k = 7 ∨ k = 8 ∨ k = 9 ∨ k = 10 ∨ k = 11 ∨ k = 12 ∨ k = 13 ∨ k = 14 ∨ k = 15 ∨ k = 16 ∨ k = 17 ∨ k = 18 ∨ k = 19 ∨ k = 20 := by omega
    rcases hk with rfl | rfl | rfl | rfl | rfl | rfl | rfl | rfl | rfl | rfl | rfl | rfl | rfl | rfl | rfl | rfl | rfl | rfl | rfl | rfl | rfl
    case inr.inr.inr.inr.inr.inr.inr.inr.inr.inr.inr.inl =>
      push_cast at hc ⊢
      by_cases a8 : imm = 8
      · subst a8; simp -implicitDefEqProofs +contextual (disch := omega) [ref02_Writes.spec, ref02_Writes, hc]
      · by_cases a10 : imm = 10
        · subst a10; simp -implicitDefEqProofs +contextual (disch := omega) [ref02_Writes.spec, ref02_Writes, hc]
        · by_cases a11 : imm = 11
          · subst a11; simp -implicitDefEqProofs +contextual (disch := omega) [ref02_Writes.spec, ref02_Writes, hc]
          · simp -implicitDefEqProofs +contextual (disch := omega) [ref02_Writes.spec, ref02_Writes, hc, a8, a10, a11]
    all_goals
      push_cast at hc ⊢
      simp -implicitDefEqProofs +contextual (disch := omega) [ref02_Writes.spec, ref02_Writes, hc]
  · rw [if_neg h]
    simp only [InsAV] at hc ⊢
    simp -implicitDefEqProofs +contextual (disch := omega) [ref02_Writes.spec, ref02_Writes, hc, h]
structure LCtx (B : AHeap) (b cb wb tb : Nat) (m : MemM) (s : StM) (r : Did) (h : BitVec 16) : Prop where
  bus : ∀ B' : AHeap, (B'.rmem b cb wb tb m).get b = some (rBlk cb wb tb m)
  step : ∀ B' : AHeap, B'.WF → B.next ≤ B'.next → (∀ c, c < B.next → B'.get c = B.get c) → ref06_Step.spec [.agg s.cells, .ptr b 5 0 0] (B'.rmem b cb wb tb m) = some (DidAV r, B'.rmem b cb wb tb r.m)
  fetch : ∀ B' : AHeap, B'.WF → B.next ≤ B'.next → (∀ c, c < B.next → B'.get c = B.get c) → ref05_Mem_Fetch.spec [.ptr b 5 0 0, W32 s.pc] (B'.rmem b cb wb tb r.m) = some (.tup [W16 h, .int .i64 0], B'.rmem b cb wb tb r.m)
set_option maxHeartbeats 40000000 in
theorem rleak_most (k : Nat) (hk : k = 0 ∨ k = 1 ∨ k = 2 ∨ k = 3 ∨ k = 4 ∨ k = 5 ∨ k = 6 ∨ k = 7 ∨ k = 8 ∨ k = 9 ∨ k = 10 ∨ k = 12 ∨ k = 13 ∨ k = 14 ∨ k = 15 ∨ k = 16 ∨ k = 17 ∨ k = 18 ∨ k = 19 ∨ k = 20) (B : AHeap) (b cb wb tb : Nat) (m : MemM) (hx : RCtx B b cb wb tb m) (s : StM) (D N M : Nat) (hD : k ≠ 18 → D < 8) (hN : N < 8) (hM : M < 8) (imm : Int) (hc : (InsM.mk (k : Nat) D N M imm).can = true) (h : BitVec 16) (ht : takeN h.toNat = (⟨(k : Nat), D, N, M, imm⟩, 0)) (r : Did) (he : r.e = 0) (hcd : r.m.code = m.code) (hwl : r.m.words.length = m.words.length) (hl : LCtx B b cb wb tb m s r h) :
    ref07_Step.spec [.agg s.cells, .ptr b 5 0 0] (B.rmem b cb wb tb m) = some (.tup [.agg r.s.cells, .agg (leakI ⟨(k : Nat), D, N, M, imm⟩ h s r.s m.bus).cells, .bool r.stop, .int .i64 0], B.rmem b cb wb tb r.m) := by
  have hT := rTake_eq h
  have hw := hx.wf; have hb := hx.fix.hb; have hwb := hx.fix.hwb
  rw [ht] at hT
  clear ht
  have hW := rWrites_eq ⟨(k : Nat), D, N, M, imm⟩
  simp only [InsAV] at hT hW
  have hS := hl.step
  have hF := hl.fetch
  have hB := hl.bus
  unfold DidAV at hS
  simp only [rBlk] at hB
  obtain ⟨rs, rm, rstop, re⟩ := r
  dsimp only at *
  subst he
  unfold LeakM.cells leakI opsM placeM flaggedM isStore
  obtain rfl | rfl | rfl | rfl | rfl | rfl | rfl | rfl | rfl | rfl | rfl | rfl | rfl | rfl | rfl | rfl | rfl | rfl | rfl | rfl := hk
  all_goals
    try replace hD := hD (by decide)
    push_cast at hT hW hc ⊢
    simp only [writesM, hc, if_true] at hW ⊢
    try simp only [Int.toNat_natCast, Int.reduceToNat]
    simp -implicitDefEqProofs +contextual (disch := try first | omega | assumption | (simp only [AHeap.next_set, AHeap.next_push]; omega) | ((repeat' (first | assumption | with_reducible apply AHeap.WF.push | with_reducible apply AHeap.WF.set)) <;> first | omega | (simp only [AHeap.next_set, AHeap.next_push]; omega)) | (intro c hc; simp (disch := omega); done)) [ref07_Step.spec, ref07_Step, hT, hS, hF, hW, hB, rmemPush, rmemSet, rmemGet, rmem_san, immW, down4]
    refine rmem_end hw hx.fix rfl ?_ ?_ ?_ ?_ ?_
    · simp; omega
    · intro c hc
      simp (disch := omega)
    · exact hwl
    · rw [hcd]
    · simp [mkRes]
set_option maxHeartbeats 40000000 in
theorem rleak_alu (k : Nat) (hk : k = 11) (B : AHeap) (b cb wb tb : Nat) (m : MemM) (hx : RCtx B b cb wb tb m) (s : StM) (D N M : Nat) (hD : k ≠ 18 → D < 8) (hN : N < 8) (hM : M < 8) (imm : Int) (hc : (InsM.mk (k : Nat) D N M imm).can = true) (h : BitVec 16) (ht : takeN h.toNat = (⟨(k : Nat), D, N, M, imm⟩, 0)) (r : Did) (he : r.e = 0) (hcd : r.m.code = m.code) (hwl : r.m.words.length = m.words.length) (hl : LCtx B b cb wb tb m s r h) :
    ref07_Step.spec [.agg s.cells, .ptr b 5 0 0] (B.rmem b cb wb tb m) = some (.tup [.agg r.s.cells, .agg (leakI ⟨(k : Nat), D, N, M, imm⟩ h s r.s m.bus).cells, .bool r.stop, .int .i64 0], B.rmem b cb wb tb r.m) := by
  have hT := rTake_eq h
  have hw := hx.wf; have hb := hx.fix.hb; have hwb := hx.fix.hwb
  rw [ht] at hT
  clear ht
  have hW := rWrites_eq ⟨(k : Nat), D, N, M, imm⟩
  simp only [InsAV] at hT hW
  have hS := hl.step
  have hF := hl.fetch
  have hB := hl.bus
  unfold DidAV at hS
  simp only [rBlk] at hB
  obtain ⟨rs, rm, rstop, re⟩ := r
  dsimp only at *
  subst he
  unfold LeakM.cells leakI opsM placeM flaggedM isStore
  subst hk
  replace hD := hD (by decide)
  push_cast at hT hW hc ⊢
  simp only [writesM, hc, if_true] at hW ⊢
  simp only [Int.toNat_natCast, Int.reduceToNat]
  have hi : (imm = 8 ∨ imm = 10 ∨ imm = 11) ∨ (¬ imm = 8 ∧ ¬ imm = 10 ∧ ¬ imm = 11) := by omega
  rcases hi with hi | ⟨ha8, ha10, ha11⟩
  · rcases hi with rfl | rfl | rfl
    all_goals
      simp -implicitDefEqProofs +contextual (disch := try first | omega | assumption | (simp only [AHeap.next_set, AHeap.next_push]; omega) | ((repeat' (first | assumption | with_reducible apply AHeap.WF.push | with_reducible apply AHeap.WF.set)) <;> first | omega | (simp only [AHeap.next_set, AHeap.next_push]; omega)) | (intro c hc; simp (disch := omega); done)) [ref07_Step.spec, ref07_Step, hT, hS, hF, hW, hB, rmemPush, rmemSet, rmemGet, rmem_san, immW, down4]
      refine rmem_end hw hx.fix rfl ?_ ?_ ?_ ?_ ?_
      · simp; omega
      · intro c hc
        simp (disch := omega)
      · exact hwl
      · rw [hcd]
      · simp [mkRes]
  · simp only [ha8, ha10, ha11, or_self, and_false, if_false] at hW
    simp -implicitDefEqProofs +contextual (disch := try first | omega | assumption | (simp only [AHeap.next_set, AHeap.next_push]; omega) | ((repeat' (first | assumption | with_reducible apply AHeap.WF.push | with_reducible apply AHeap.WF.set)) <;> first | omega | (simp only [AHeap.next_set, AHeap.next_push]; omega)) | (intro c hc; simp (disch := omega); done)) [ref07_Step.spec, ref07_Step, hT, hS, hF, hW, hB, rmemPush, rmemSet, rmemGet, rmem_san, immW, down4, ha8, ha10, ha11]
    refine rmem_end hw hx.fix rfl ?_ ?_ ?_ ?_ ?_
    · simp; omega
    · intro c hc
      simp (disch := omega)
    · exact hwl
    · rw [hcd]
    · simp [mkRes]
end Go.Abs

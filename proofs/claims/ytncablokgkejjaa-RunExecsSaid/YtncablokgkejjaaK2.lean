/-
  What an instruction leaks: the program's step.
-/
import Derived.Test.YtncablokgkejjaaK1
set_option linter.unusedSimpArgs false
set_option linter.unusedVariables false
namespace Go.Abs
open Th
theorem fetch_keeps {m m' : MemM} (h : Keeps m m') (a : BitVec 32) : m'.fetch a = m.fetch a := by unfold MemM.fetch; rw [h.code]
theorem step_done (s : StM) (m : MemM) (h : (stepM s m).e = 0) : ∃ i : InsM, i.can = true ∧ takeN (m.fetch s.pc).1.toNat = (i, 0) ∧ m.fetch s.pc = ((m.fetch s.pc).1, 0) := by
  rcases fetch_or m s.pc with hf | hf
  · rcases takeN_or (m.fetch s.pc).1.toNat with ⟨i, hc, hp, ht⟩ | ht
    · exact ⟨i, hc, ht, hf⟩
    · unfold stepM at h
      rw [if_pos (by rw [hf]), ht] at h
      simp at h
  · unfold stepM at h
    rw [hf] at h
    simp at h
theorem writes_d (i : InsM) (hc : i.can = true) (h : (writesM i).2 = true) : ∃ D : Nat, D < 8 ∧ (writesM i).1 = D ∧ ¬ i.op = 13 ∧ ¬ i.op = 15 := by
  obtain ⟨k, D, N, M, he, h1, h2, h3, h4, h5, h6⟩ := can_parts i hc
  generalize i.imm = imm at he h6
  subst he
  unfold writesM at *
  rw [if_pos hc] at h ⊢
  dsimp only at *
  split at h
  · simp at h
  · rename_i q
    rw [if_neg q]
    exact ⟨D, h2 (by omega), rfl, by omega, by omega⟩
def LeakAV (s : StM) (m : MemM) : AV := .tup [.agg (stepM s m).s.cells, .agg (leakM s m).cells, .bool (stepM s m).stop, .int .i64 (stepM s m).e]
set_option maxHeartbeats 20000000 in
theorem LStep_eq (B : AHeap) (b wb : Nat) (m : MemM) (hw : B.WF) (hb : b < B.next) (hwb : wb < B.next) (hbw : b ≠ wb) (hm : m.Ok) (s : StM) :
    leak_Step.spec [.agg s.cells, .ptr b 5 0 0] (B.mem b wb m) = some (LeakAV s m, B.mem b wb (stepM s m).m) := by
  have hK := keeps_step s m
  have hm' := hK.ok hm
  have hBus := fun (B : AHeap) (h1 : B.WF) (h2 : b < B.next) (h3 : wb < B.next) => Bus_eq B b wb m h1 h2 h3
  have hS := fun (B : AHeap) (h1 : B.WF) (h2 : b < B.next) (h3 : wb < B.next) => Step_eq B b wb m h1 h2 h3 hbw hm s
  have hF := fun (B : AHeap) (h1 : B.WF) (h2 : b < B.next) (h3 : wb < B.next) => Fetch_eq B b wb (stepM s m).m h1 h2 h3 s.pc hm'
  rw [fetch_keeps hK] at hF
  have hd := step_done s m
  unfold DidAV at hS
  unfold LeakAV leakM
  generalize stepM s m = r at *
  obtain ⟨rs, rm, rstop, re⟩ := r
  dsimp only at *
  by_cases he : re = 0
  · subst he
    obtain ⟨i, hc, ht, hf⟩ := hd rfl
    have hT := Take_eq (m.fetch s.pc).1
    rw [ht] at hT ⊢
    rw [hf] at hF
    have hOp := Operands_eq i hc s
    have hPl := Place_eq i hc s
    have hFl := Flagged_eq i (opsM i s).1 (opsM i s).2
    have hWr := Writes_eq i
    have hwd := writes_d i hc
    rw [if_pos rfl]
    generalize (m.fetch s.pc).1 = h at *
    simp only [InsAV] at hT hOp hPl hFl hWr
    dsimp only at *
    unfold leakI isStore
    generalize opsM i s = o at *
    generalize placeM i s = p at *
    generalize flaggedM i o.1 o.2 = f at *
    generalize writesM i = w at *
    obtain ⟨op, d, n, mm, imm⟩ := i
    obtain ⟨o1, o2⟩ := o
    obtain ⟨p1, p2⟩ := p
    obtain ⟨w1, w2⟩ := w
    dsimp only at *
    cases w2 with
    | true =>
      obtain ⟨D, hD, hW1, hn1, hn2⟩ := hwd rfl
      subst hW1
      cases p2
      all_goals
        simp -implicitDefEqProofs +contextual (disch := try first | omega | assumption | (simp only [AHeap.next_set, AHeap.next_push]; omega) | ((repeat' (first | assumption | with_reducible apply AHeap.WF.push | with_reducible apply AHeap.WF.set)) <;> first | omega | (simp only [AHeap.next_set, AHeap.next_push]; omega))) [leak_Step.spec, leak_Step, hT, hS, hF, hBus, hOp, hPl, hFl, hWr, hn1, hn2, memPush, memSet, memGet, mem_san, LeakM.cells]
        refine mem_fin hw hb hwb rfl ?_ ?_ ?_
        · simp; omega
        · intro c hc
          simp (disch := omega)
        · simp [mkRes]
    | false =>
      have hsplit : (op = 13 ∨ op = 15) ∨ (¬ op = 13 ∧ ¬ op = 15) := by omega
      rcases hsplit with hs | ⟨h13, h15⟩
      · cases p2 <;> rcases hs with rfl | rfl
        all_goals
          simp -implicitDefEqProofs +contextual (disch := try first | omega | assumption | (simp only [AHeap.next_set, AHeap.next_push]; omega) | ((repeat' (first | assumption | with_reducible apply AHeap.WF.push | with_reducible apply AHeap.WF.set)) <;> first | omega | (simp only [AHeap.next_set, AHeap.next_push]; omega))) [leak_Step.spec, leak_Step, hT, hS, hF, hBus, hOp, hPl, hFl, hWr, memPush, memSet, memGet, mem_san, LeakM.cells]
          refine mem_fin hw hb hwb rfl ?_ ?_ ?_
          · simp; omega
          · intro c hc
            simp (disch := omega)
          · simp [mkRes]
      · cases p2
        all_goals
          simp -implicitDefEqProofs +contextual (disch := try first | omega | assumption | (simp only [AHeap.next_set, AHeap.next_push]; omega) | ((repeat' (first | assumption | with_reducible apply AHeap.WF.push | with_reducible apply AHeap.WF.set)) <;> first | omega | (simp only [AHeap.next_set, AHeap.next_push]; omega))) [leak_Step.spec, leak_Step, hT, hS, hF, hBus, hOp, hPl, hFl, hWr, memPush, memSet, memGet, mem_san, LeakM.cells, h13, h15]
          refine mem_fin hw hb hwb rfl ?_ ?_ ?_
          · simp; omega
          · intro c hc
            simp (disch := omega)
          · simp [mkRes]
  · rw [if_neg he]
    simp -implicitDefEqProofs +contextual (disch := try first | omega | assumption | (simp only [AHeap.next_set, AHeap.next_push]; omega) | ((repeat' (first | assumption | with_reducible apply AHeap.WF.push | with_reducible apply AHeap.WF.set)) <;> first | omega | (simp only [AHeap.next_set, AHeap.next_push]; omega))) [leak_Step.spec, leak_Step, hS, hBus, he, memPush, memSet, memGet, mem_san, LeakM.cells, LeakM.zero]
    refine mem_fin hw hb hwb rfl ?_ ?_ ?_
    · simp; omega
    · intro c hc
      simp (disch := omega)
    · simp [mkRes]
end Go.Abs

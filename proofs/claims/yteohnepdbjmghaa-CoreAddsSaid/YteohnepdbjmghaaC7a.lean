/-
  What instructions do: the program's step, whole. Printed by genc7.py.
-/
import Derived.Test.YteohnepdbjmghaaC4
import Derived.Test.YteohnepdbjmghaaM6
set_option linter.unusedSimpArgs false
set_option linter.unusedVariables false
namespace Go.Abs
open Th
theorem can_parts (i : InsM) (h : i.can = true) : ∃ k D N M : Nat, i = ⟨k, D, N, M, i.imm⟩ ∧ k ≤ 20 ∧ (k ≠ 18 → D < 8) ∧ D < 14 ∧ N < 8 ∧ M < 8 ∧ (k = 11 → 0 ≤ i.imm ∧ i.imm ≤ 15) := by
  have h1 := (can_iff i).1 h
  have hb : ∀ k : Nat, k ≤ 20 → (k ≠ 18 → maxD k ≤ 7) ∧ maxD k ≤ 13 ∧ maxN k ≤ 7 ∧ maxM k ≤ 7 ∧ (k = 11 → (shp k).low = 0 ∧ (shp k).high = 15) := by decide
  obtain ⟨op, d, n, m, imm⟩ := i
  dsimp only at h1 ⊢
  obtain ⟨b1, b2, b3, b4, b5⟩ := hb op.toNat (by omega)
  refine ⟨op.toNat, d.toNat, n.toNat, m.toNat, ?_, by omega, fun q => by have := b1 q; omega, by omega, by omega, by omega, fun q => by have := b5 q; omega⟩
  rw [Int.toNat_of_nonneg (by omega), Int.toNat_of_nonneg (by omega), Int.toNat_of_nonneg (by omega), Int.toNat_of_nonneg (by omega)]
theorem Step_do (B : AHeap) (b wb : Nat) (m : MemM) (hw : B.WF) (hb : b < B.next) (hwb : wb < B.next) (hbw : b ≠ wb) (hm : m.Ok) (s : StM) (i : InsM) (hc : i.can = true) (h : BitVec 16) (hf : m.fetch s.pc = (h, 0)) (ht : takeN h.toNat = (i, 0)) :
    core_Step.spec [.agg s.cells, .ptr b 5 0 0] (B.mem b wb m) = some (DidAV (doM i s m), B.mem b wb (doM i s m).m) := by
  obtain ⟨k, D, N, M, he, h1, h2, h3, h4, h5, h6⟩ := can_parts i hc
  generalize i.imm = imm at he h6
  subst he
  by_cases e1 : k ≤ 11
  · exact step_low k e1 B b wb m hw hb hwb hbw hm s D N M (h2 (by omega)) h4 h5 imm h6 hc h hf ht
  · by_cases e2 : k ≤ 16
    · exact step_mid k (by omega) e2 B b wb m hw hb hwb hbw hm s D N M (h2 (by omega)) h4 h5 imm hc h hf ht
    · exact step_high k (by omega) h1 B b wb m hw hb hwb hbw hm s D N M h3 imm hc h hf ht
theorem fetch_or (m : MemM) (a : BitVec 32) : m.fetch a = ((m.fetch a).1, 0) ∨ m.fetch a = (0#16, 50) := by
  unfold MemM.fetch; split
  · exact .inl rfl
  · exact .inr rfl
theorem Step_eq (B : AHeap) (b wb : Nat) (m : MemM) (hw : B.WF) (hb : b < B.next) (hwb : wb < B.next) (hbw : b ≠ wb) (hm : m.Ok) (s : StM) :
    core_Step.spec [.agg s.cells, .ptr b 5 0 0] (B.mem b wb m) = some (DidAV (stepM s m), B.mem b wb (stepM s m).m) := by
  have hF := fun (B : AHeap) (h1 : B.WF) (h2 : b < B.next) (h3 : wb < B.next) => Fetch_eq B b wb m h1 h2 h3 s.pc hm
  rcases fetch_or m s.pc with hf | hf
  · have hT := Take_eq (m.fetch s.pc).1
    rcases takeN_or (m.fetch s.pc).1.toNat with ⟨i, hc, hp, ht⟩ | ht
    · unfold stepM
      rw [ht, if_pos (by rw [hf]), if_pos rfl]
      exact Step_do B b wb m hw hb hwb hbw hm s i hc _ hf ht
    · unfold stepM DidAV
      rw [if_pos (by rw [hf]), ht, if_neg (by simp)]
      rw [ht] at hT
      have hf2 : (m.fetch s.pc).2 = 0 := by rw [hf]
      simp only [InsAV, InsM.zero] at hT
      simp -implicitDefEqProofs +contextual (disch := try first | omega | assumption | (simp only [AHeap.next_set, AHeap.next_push]; omega) | ((repeat' (first | assumption | with_reducible apply AHeap.WF.push | with_reducible apply AHeap.WF.set)) <;> first | omega | (simp only [AHeap.next_set, AHeap.next_push]; omega))) [core_Step.spec, core_Step, hT, hF, hf2, memPush, memSet, memGet, mem_san]
      refine mem_fin hw hb hwb rfl ?_ ?_ ?_
      · simp; omega
      · intro c hc
        simp (disch := omega)
      · simp [mkRes]
  · unfold stepM DidAV
    rw [hf, if_neg (by simp)]
    rw [hf] at hF
    simp -implicitDefEqProofs +contextual (disch := try first | omega | assumption | (simp only [AHeap.next_set, AHeap.next_push]; omega) | ((repeat' (first | assumption | with_reducible apply AHeap.WF.push | with_reducible apply AHeap.WF.set)) <;> first | omega | (simp only [AHeap.next_set, AHeap.next_push]; omega))) [core_Step.spec, core_Step, hF, memPush, memSet, memGet, mem_san]
    refine mem_fin hw hb hwb rfl ?_ ?_ ?_
    · simp; omega
    · intro c hc
      simp (disch := omega)
    · simp [mkRes]
structure Keeps (m m' : MemM) : Prop where
  code : m'.code = m.code
  tape : m'.tape = m.tape
  words : m'.words.length = m.words.length
  ok : m.Ok → m'.Ok
end Go.Abs

import Derived.Test.YtncablokgkejjaaCC
import Derived.Test.YtncablokgkejjaaC7a
import Derived.Test.YtncablokgkejjaaM6
import Derived.Test.YtncablokgkejjaaCA
section
set_option linter.unusedSimpArgs false
set_option linter.unusedVariables false
namespace Go.Abs
open Th
theorem rStep_do (B : AHeap) (b cb wb tb : Nat) (m : MemM) (hx : RCtx B b cb wb tb m) (s : StM) (i : InsM) (hc : i.can = true) (h : BitVec 16) (hf : m.fetch s.pc = (h, 0)) (ht : takeN h.toNat = (i, 0)) :
    ref06_Step.spec [.agg s.cells, .ptr b 5 0 0] (B.rmem b cb wb tb m) = some (DidAV (doM i s m), B.rmem b cb wb tb (doM i s m).m) := by
  obtain ⟨k, D, N, M, he, h1, h2, h3, h4, h5, h6⟩ := can_parts i hc
  generalize i.imm = imm at he h6
  subst he
  by_cases e : k = 18
  · exact rstep_if k e B b cb wb tb m hx s D N M h3 h4 h5 imm hc h hf ht
  · by_cases e1 : k ≤ 10
    · exact rstep_low k (by omega) B b cb wb tb m hx s D N M (h2 e) h4 h5 imm hc h hf ht
    · by_cases e2 : k = 11
      · exact rstep_alu k e2 B b cb wb tb m hx s D N M (h2 e) h4 h5 imm (h6 e2) hc h hf ht
      · by_cases e3 : k = 13 ∨ k = 15
        · exact rstep_store k e3 B b cb wb tb m hx s D N M (h2 e) h4 h5 imm hc h hf ht
        · by_cases e4 : k ≤ 16
          · exact rstep_load k (by omega) B b cb wb tb m hx s D N M (h2 e) h4 h5 imm hc h hf ht
          · exact rstep_high k (by omega) B b cb wb tb m hx s D N M (h2 e) h4 h5 imm hc h hf ht
theorem rStep_eq (B : AHeap) (b cb wb tb : Nat) (m : MemM) (hx : RCtx B b cb wb tb m) (s : StM) :
    ref06_Step.spec [.agg s.cells, .ptr b 5 0 0] (B.rmem b cb wb tb m) = some (DidAV (stepM s m), B.rmem b cb wb tb (stepM s m).m) := by
  have hw := hx.wf; have hb := hx.fix.hb; have hwb := hx.fix.hwb
  have hF := fun B' h1 h2 h3 => rF (B' := B') hx h1 h2 h3 s.pc
  rcases fetch_or m s.pc with hf | hf
  · have hT := rTake_eq (m.fetch s.pc).1
    rcases takeN_or (m.fetch s.pc).1.toNat with ⟨i, hc, hp, ht⟩ | ht
    · unfold stepM
      rw [ht, if_pos (by rw [hf]), if_pos rfl]
      exact rStep_do B b cb wb tb m hx s i hc _ hf ht
    · unfold stepM DidAV
      rw [if_pos (by rw [hf]), ht, if_neg (by simp)]
      rw [ht] at hT
      have hf2 : (m.fetch s.pc).2 = 0 := by rw [hf]
      simp only [InsAV, InsM.zero] at hT
      simp -implicitDefEqProofs +contextual (disch := try first | omega | assumption | (simp only [AHeap.next_set, AHeap.next_push]; omega) | ((repeat' (first | assumption | with_reducible apply AHeap.WF.push | with_reducible apply AHeap.WF.set)) <;> first | omega | (simp only [AHeap.next_set, AHeap.next_push]; omega)) | (intro c hc; simp (disch := omega); done)) [ref06_Step.spec, ref06_Step, hT, hF, hf2, rmemPush, rmemSet, rmemGet, rmem_san]
      refine rmem_end hw hx.fix rfl ?_ ?_ ?_ ?_ ?_
      · simp; omega
      · intro c hc
        simp (disch := omega)
      · rfl
      · rfl
      · simp [mkRes]
  · unfold stepM DidAV
    rw [hf, if_neg (by simp)]
    rw [hf] at hF
    simp -implicitDefEqProofs +contextual (disch := try first | omega | assumption | (simp only [AHeap.next_set, AHeap.next_push]; omega) | ((repeat' (first | assumption | with_reducible apply AHeap.WF.push | with_reducible apply AHeap.WF.set)) <;> first | omega | (simp only [AHeap.next_set, AHeap.next_push]; omega)) | (intro c hc; simp (disch := omega); done)) [ref06_Step.spec, ref06_Step, hF, rmemPush, rmemSet, rmemGet, rmem_san]
    refine rmem_end hw hx.fix rfl ?_ ?_ ?_ ?_ ?_
    · simp; omega
    · intro c hc
      simp (disch := omega)
    · rfl
    · rfl
    · simp [mkRes]
end Go.Abs
end
section
set_option linter.unusedSimpArgs false
set_option linter.unusedVariables false
namespace Go.Abs
open Th
theorem TwoOk.more {B B' : AHeap} {I : Ids} {r : MemM} (h : TwoOk B I r) (hw : B'.WF) (hn : B.next ≤ B'.next) (hg : ∀ c, c < B.next → B'.get c = B.get c) : TwoOk B' I r :=
  { h with wf := hw, hb := Nat.lt_of_lt_of_le h.hb hn, hwb := Nat.lt_of_lt_of_le h.hwb hn, fix := h.fix.more h.wf hn hg rfl rfl }
end Go.Abs
end

/-
  What an instruction leaks: the document's step, whole.
-/
import Derived.Test.YtncablokgkejjaaK4
set_option linter.unusedSimpArgs false
set_option linter.unusedVariables false
namespace Go.Abs
open Th
set_option maxHeartbeats 4000000 in
theorem rLStep_eq (B : AHeap) (b cb wb tb : Nat) (m : MemM) (hx : RCtx B b cb wb tb m) (s : StM) :
    ref07_Step.spec [.agg s.cells, .ptr b 5 0 0] (B.rmem b cb wb tb m) = some (LeakAV s m, B.rmem b cb wb tb (stepM s m).m) := by
  have hK := keeps_step s m
  have hd := step_done s m
  have hbus : ∀ B' : AHeap, (B'.rmem b cb wb tb m).get b = some (rBlk cb wb tb m) := fun B' => by rw [rmem_get, if_pos rfl]
  have hst : ∀ B' : AHeap, B'.WF → B.next ≤ B'.next → (∀ c, c < B.next → B'.get c = B.get c) → ref06_Step.spec [.agg s.cells, .ptr b 5 0 0] (B'.rmem b cb wb tb m) = some (DidAV (stepM s m), B'.rmem b cb wb tb (stepM s m).m) :=
    fun B' h1 h2 h3 => rStep_eq B' b cb wb tb m ⟨h1, hx.fix.more hx.wf h2 h3 rfl rfl, hx.ok⟩ s
  have hx' : RCtx B b cb wb tb (stepM s m).m := ⟨hx.wf, hx.fix.of hK.code hK.tape, hK.ok hx.ok⟩
  have hft : ∀ B' : AHeap, B'.WF → B.next ≤ B'.next → (∀ c, c < B.next → B'.get c = B.get c) → ref05_Mem_Fetch.spec [.ptr b 5 0 0, W32 s.pc] (B'.rmem b cb wb tb (stepM s m).m) = some (.tup [W16 (m.fetch s.pc).1, .int .i64 (m.fetch s.pc).2], B'.rmem b cb wb tb (stepM s m).m) :=
    fun B' h1 h2 h3 => by rw [← fetch_keeps hK]; exact rF hx' h1 h2 h3 s.pc
  by_cases he : (stepM s m).e = 0
  · obtain ⟨i, hc, ht, hf⟩ := hd he
    obtain ⟨k, D, N, M, hi, h1, h2, h3, h4, h5, h6⟩ := can_parts i hc
    generalize i.imm = imm at hi h6
    subst hi
    have hl : LCtx B b cb wb tb m s (stepM s m) (m.fetch s.pc).1 := ⟨hbus, hst, fun B' h1 h2 h3 => by have := hft B' h1 h2 h3; rw [hf] at this; exact this⟩
    have hg : LeakAV s m = .tup [.agg (stepM s m).s.cells, .agg (leakI ⟨(k : Nat), D, N, M, imm⟩ (m.fetch s.pc).1 s (stepM s m).s m.bus).cells, .bool (stepM s m).stop, .int .i64 0] := by
      unfold LeakAV leakM; rw [if_pos he, ht, he]
    rw [hg]
    by_cases e : k = 11
    · exact rleak_alu k e B b cb wb tb m hx s D N M h2 h4 h5 imm hc _ ht (stepM s m) he hK.code hK.words hl
    · exact rleak_most k (by omega) B b cb wb tb m hx s D N M h2 h4 h5 imm hc _ ht (stepM s m) he hK.code hK.words hl
  · unfold LeakAV leakM
    rw [if_neg he]
    have hw := hx.wf; have hb := hx.fix.hb; have hwb := hx.fix.hwb
    have hcd := hK.code; have hwl := hK.words
    unfold DidAV at hst
    generalize stepM s m = r at *
    obtain ⟨rs, rm, rstop, re⟩ := r
    dsimp only at *
    simp only [rBlk] at hbus
    unfold LeakM.zero LeakM.cells
    simp -implicitDefEqProofs +contextual (disch := try first | omega | assumption | (simp only [AHeap.next_set, AHeap.next_push]; omega) | ((repeat' (first | assumption | with_reducible apply AHeap.WF.push | with_reducible apply AHeap.WF.set)) <;> first | omega | (simp only [AHeap.next_set, AHeap.next_push]; omega)) | (intro c hc; simp (disch := omega); done)) [ref07_Step.spec, ref07_Step, hst, hbus, he, rmemPush, rmemSet, rmemGet, rmem_san]
    refine rmem_end hw hx.fix rfl ?_ ?_ ?_ ?_ ?_
    · simp; omega
    · intro c hc
      simp (disch := omega)
    · exact hwl
    · rw [hcd]
    · simp [mkRes]
end Go.Abs

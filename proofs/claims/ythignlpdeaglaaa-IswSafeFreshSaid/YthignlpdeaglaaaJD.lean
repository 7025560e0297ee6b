import Derived.Test.YthignlpdeaglaaaJC
import Derived.Test.YthignlpdeaglaaaJB
section
set_option linter.unusedSimpArgs false
set_option linter.unusedVariables false
namespace Go.Abs
structure CdI (n : Nat) (X : AHeap) (vo vu : AV) (ops : List OpM) (outs : List Int) : Prop where
  wf : X.WF
  g0 : X.get 0 = some resBlk
  g1 : ∃ f, X.get 1 = some ⟨T.ty_api_Code, 3, f, [[.int .i64 n, vo, vu]]⟩
  ro : Rl X [0, 1] T.ty_api_Op 4 vo (opRows ops)
  ru : Rl X [0, 1] T.ty_int 1 vu (ints outs)
section
variable {n : Nat} {X : AHeap} {vo vu : AV} {ops : List OpM} {outs : List Int}
theorem CdI.vu_at (h : CdI n X vo vu ops outs) {ob : Nat} (hu : vu = .sl ob 1 0 outs.length) : X.get ob = some ⟨T.ty_int, 1, true, ints outs⟩ ∧ ob ∉ [0, 1] := by
  rcases h.ru with ⟨q1, q2⟩ | ⟨ob', q1, q2, q3⟩
  · rw [q2] at hu; cases hu
  · rw [q2, ints_length] at hu; cases hu; exact ⟨q3, q1⟩
theorem CdI.newouts (h : CdI n X vo vu ops outs) {X' : AHeap} {nb : Nat} {outs' : List Int} {f' : Bool} (h1 : X.next ≤ nb) (hw : X'.WF) (hm : X'.get 1 = some ⟨T.ty_api_Code, 3, f', [[.int .i64 n, vo, .sl nb 1 0 outs'.length]]⟩)
    (hb : X'.get nb = some ⟨T.ty_int, 1, true, ints outs'⟩) (hk : ∀ c, c < X.next → c ≠ 1 → (∀ ob, vu = .sl ob 1 0 outs.length → c ≠ ob) → X'.get c = X.get c) : CdI n X' vo (.sl nb 1 0 outs'.length) ops outs' := by
  obtain ⟨f, hf⟩ := h.g1
  have b1 := h.wf _ _ hf
  refine ⟨hw, ?_, ⟨f', hm⟩, h.ro.lift fun ob p1 p2 => ?_, .inr ⟨nb, ?_, by simp, hb⟩⟩
  · rw [hk 0 (by omega) (by omega) fun ub hu e => (h.vu_at hu).2 (by simp [← e])]; exact h.g0
  · rw [hk ob (h.wf _ _ p2) (fun e => p1 (by simp [e])) fun ub hu e => ?_]
    · exact p2
    · subst e
      rw [(h.vu_at hu).1] at p2
      exact absurd (congrArg Blk.e (Option.some.inj p2)) (by show T.ty_int ≠ T.ty_api_Op; decide)
  · simp; omega
theorem CdI.turn (h : CdI n X vo vu ops outs) {ob : Nat} (hv : vu = .sl ob 1 0 outs.length) (i : Nat) (x : Int) : CdI n (X.set ob (some ⟨T.ty_int, 1, true, ints (outs.set i x)⟩)) vo vu ops (outs.set i x) := by
  obtain ⟨q1, q2⟩ := h.vu_at hv
  have hb := h.wf _ _ q1
  simp only [List.mem_cons, List.not_mem_nil, or_false, not_or] at q2
  obtain ⟨f, hf⟩ := h.g1
  refine ⟨h.wf.set hb, by rw [AHeap.get_set, if_neg (by omega)]; exact h.g0, ⟨f, by rw [AHeap.get_set, if_neg (by omega)]; exact hf⟩, h.ro.lift fun ob' p1 p2 => ?_, .inr ⟨ob, by simp; omega, by rw [hv]; simp, by simp⟩⟩
  rw [AHeap.get_set, if_neg fun e => ?_]
  · exact p2
  · subst e
    rw [q1] at p2
    exact absurd (congrArg Blk.e (Option.some.inj p2)) (by show T.ty_int ≠ T.ty_api_Op; decide)
end
end Go.Abs
end
section
set_option linter.unusedSimpArgs false
set_option linter.unusedVariables false
end
section
set_option linter.unusedSimpArgs false
set_option linter.unusedVariables false
end

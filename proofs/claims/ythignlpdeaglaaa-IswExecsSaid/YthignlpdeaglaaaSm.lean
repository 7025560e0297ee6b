/-
  One list and another.
-/
import Derived.Test.YthignlpdeaglaaaS1
import Derived.Test.YthignlpdeaglaaaLoF
set_option linter.unusedSimpArgs false
set_option linter.unusedVariables false
namespace Go.Abs
theorem same32_eq (a b : List (BitVec 32)) (ha : a.length ≤ 1000000000) : ref05_Same.spec [.rsl 1 (w32s a), .rsl 1 (w32s b)] = some (.bool (decide (a = b))) := by
  by_cases hl : a.length = b.length
  · simp -implicitDefEqProofs +contextual (disch := omega) [ref05_Same.spec, ref05_Same, hl]
    generalize hr : aloop _ _ _ = r
    obtain ⟨e, fr', X', rfl, hq⟩ : ∃ e fr' X', r = some (e, fr', X') ∧ ((a = b ∧ e = .exit 0) ∨ (a ≠ b ∧ e = .ret ∧ fr' 4 = .bool false)) := by
      refine run_of hr (aloop_each a.length (fun k fr H => (∃ y, fr = AFr.al ([(0, .rsl 1 (w32s a)), (1, .rsl 1 (w32s b)), (5, .int .i64 k)] ++ y)) ∧ ∀ i, i < k → at0 a i = at0 b i) _ (fun k hk fr H hR => ?_) (fun fr H hR => ?_) ⟨⟨[], rfl⟩, fun i h => absurd h (by omega)⟩)
      · obtain ⟨⟨y, rfl⟩, h3⟩ := hR
        have hk' : (k : Int) < a.length := by omega
        have hk1 : ((k + 1 : Nat) : Int) = (k : Int) + 1 := by omega
        by_cases e : at0 a k = at0 b k
        · refine ⟨_, _, _, by simp -implicitDefEqProofs +contextual (disch := omega) [ref05_Same.l0, e, hk', hk1]; first | rfl | exact ⟨rfl, rfl⟩ | exact ⟨rfl, rfl, rfl⟩, .inl ⟨rfl, ⟨_, rfl⟩, fun i hi => ?_⟩⟩
          by_cases q : i = k
          · subst q; exact e
          · exact h3 i (by omega)
        · refine ⟨_, _, _, by simp -implicitDefEqProofs +contextual (disch := omega) [ref05_Same.l0, e, hk', hk1]; first | rfl | exact ⟨rfl, rfl⟩ | exact ⟨rfl, rfl, rfl⟩, .inr ⟨by simp, .inr ⟨fun q => e (by rw [q]), rfl, by simp⟩⟩⟩
      · obtain ⟨⟨y, rfl⟩, h3⟩ := hR
        refine ⟨_, _, _, by simp -implicitDefEqProofs +contextual (disch := omega) [ref05_Same.l0]; first | rfl | exact ⟨rfl, rfl⟩ | exact ⟨rfl, rfl, rfl⟩, by simp, .inl ⟨?_, rfl⟩⟩
        refine List.ext_getElem hl fun i h1 h2 => ?_
        have := h3 i h1
        rwa [at0_eq _ _ h1, at0_eq _ _ h2] at this
    rcases hq with ⟨h, rfl⟩ | ⟨h, rfl, q⟩
    · simp -implicitDefEqProofs +contextual (disch := omega) [h]
    · simp -implicitDefEqProofs +contextual (disch := omega) [h, q]
  · have e : a ≠ b := fun h => hl (by rw [h])
    simp -implicitDefEqProofs +contextual (disch := omega) [ref05_Same.spec, ref05_Same, hl, e]
theorem sameI_eq (a b : List Int) (ha : a.length ≤ 1000000000) : ref02_Same.spec [.rsl 1 (ints a), .rsl 1 (ints b)] = some (.bool (decide (a = b))) := by
  by_cases hl : a.length = b.length
  · simp -implicitDefEqProofs +contextual (disch := omega) [ref02_Same.spec, ref02_Same, hl]
    generalize hr : aloop _ _ _ = r
    obtain ⟨e, fr', X', rfl, hq⟩ : ∃ e fr' X', r = some (e, fr', X') ∧ ((a = b ∧ e = .exit 0) ∨ (a ≠ b ∧ e = .ret ∧ fr' 4 = .bool false)) := by
      refine run_of hr (aloop_each a.length (fun k fr H => (∃ y, fr = AFr.al ([(0, .rsl 1 (ints a)), (1, .rsl 1 (ints b)), (5, .int .i64 k)] ++ y)) ∧ ∀ i, i < k → ati a i = ati b i) _ (fun k hk fr H hR => ?_) (fun fr H hR => ?_) ⟨⟨[], rfl⟩, fun i h => absurd h (by omega)⟩)
      · obtain ⟨⟨y, rfl⟩, h3⟩ := hR
        have hk' : (k : Int) < a.length := by omega
        have hk1 : ((k + 1 : Nat) : Int) = (k : Int) + 1 := by omega
        by_cases e : ati a k = ati b k
        · refine ⟨_, _, _, by simp -implicitDefEqProofs +contextual (disch := omega) [ref02_Same.l0, e, hk', hk1]; first | rfl | exact ⟨rfl, rfl⟩ | exact ⟨rfl, rfl, rfl⟩, .inl ⟨rfl, ⟨_, rfl⟩, fun i hi => ?_⟩⟩
          by_cases q : i = k
          · subst q; exact e
          · exact h3 i (by omega)
        · refine ⟨_, _, _, by simp -implicitDefEqProofs +contextual (disch := omega) [ref02_Same.l0, e, hk', hk1]; first | rfl | exact ⟨rfl, rfl⟩ | exact ⟨rfl, rfl, rfl⟩, .inr ⟨by simp, .inr ⟨fun q => e (by rw [q]), rfl, by simp⟩⟩⟩
      · obtain ⟨⟨y, rfl⟩, h3⟩ := hR
        refine ⟨_, _, _, by simp -implicitDefEqProofs +contextual (disch := omega) [ref02_Same.l0]; first | rfl | exact ⟨rfl, rfl⟩ | exact ⟨rfl, rfl, rfl⟩, by simp, .inl ⟨?_, rfl⟩⟩
        refine List.ext_getElem hl fun i h1 h2 => ?_
        have := h3 i h1
        rwa [ati_eq _ _ h1, ati_eq _ _ h2] at this
    rcases hq with ⟨h, rfl⟩ | ⟨h, rfl, q⟩
    · simp -implicitDefEqProofs +contextual (disch := omega) [h]
    · simp -implicitDefEqProofs +contextual (disch := omega) [h, q]
  · have e : a ≠ b := fun h => hl (by rw [h])
    simp -implicitDefEqProofs +contextual (disch := omega) [ref02_Same.spec, ref02_Same, hl, e]
end Go.Abs

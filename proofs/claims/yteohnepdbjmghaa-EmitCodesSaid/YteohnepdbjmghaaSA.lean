import Derived.Test.YteohnepdbjmghaaAbC
import Derived.Test.YteohnepdbjmghaaLoF
section
set_option linter.unusedSimpArgs false
set_option linter.unusedVariables false
namespace Go.Abs
theorem pick_orG (b c d : Bool) (h : (!b) = c) : apick (.bool b) (.bool true) (gdv c (.bool d)) = some (.bool (b || d)) := by
  subst h; cases b <;> rfl
theorem pick_andG (b c d : Bool) (h : b = c) : apick (.bool b) (gdv c (.bool d)) (.bool false) = some (.bool (b && d)) := by
  subst h; cases b <;> rfl
theorem acondp_ex {p : Prop} {x y : ARes} {Q : AEx → AFr → AHeap → Prop} (h1 : p → ∃ e f X, x = some (e, f, X) ∧ Q e f X) (h2 : ¬ p → ∃ e f X, y = some (e, f, X) ∧ Q e f X) : ∃ e f X, @acondp p ⟨x⟩ ⟨y⟩ = some (e, f, X) ∧ Q e f X := by
  by_cases h : p
  · rw [acondp_pos _ _ _ h]; exact h1 h
  · rw [acondp_neg _ _ _ h]; exact h2 h
theorem aloop_each {f : AFr → AHeap → ARes} (n : Nat) (R : Nat → AFr → AHeap → Prop) (Q : AEx → AFr → AHeap → Prop)
    (h : ∀ k, k < n → ∀ fr H, R k fr H → ∃ e fr' H', f fr H = some (e, fr', H') ∧ ((e = .normal ∧ R (k + 1) fr' H') ∨ (e ≠ .normal ∧ Q e fr' H')))
    (hx : ∀ fr H, R n fr H → ∃ e fr' H', f fr H = some (e, fr', H') ∧ e ≠ .normal ∧ Q e fr' H') {fr : AFr} {H : AHeap} (h0 : R 0 fr H) :
    ∃ e fr' H', aloop f fr H = some (e, fr', H') ∧ Q e fr' H' := by
  refine aloop_down (fun d fr H => d ≤ n ∧ R (n - d) fr H) Q (fun d fr H hR => ?_) n fr H ⟨Nat.le_refl _, by rw [Nat.sub_self]; exact h0⟩
  by_cases hd : d = 0
  · subst hd
    obtain ⟨e, fr', H', h1, h2, h3⟩ := hx fr H hR.2
    exact ⟨e, fr', H', h1, .inr ⟨h2, h3⟩⟩
  · obtain ⟨e, fr', H', h1, h2⟩ := h (n - d) (by omega) fr H hR.2
    refine ⟨e, fr', H', h1, ?_⟩
    rcases h2 with ⟨h3, h4⟩ | h3
    · refine .inl ⟨h3, d - 1, by omega, by omega, ?_⟩
      have e : n - (d - 1) = n - d + 1 := by omega
      rw [e]; exact h4
    · exact .inr h3
theorem run_of {r r' : ARes} {Q : AEx → AFr → AHeap → Prop} (hr : r' = r) (h : ∃ e f X, r' = some (e, f, X) ∧ Q e f X) : ∃ e f X, r = some (e, f, X) ∧ Q e f X := by
  subst hr; exact h
theorem ex_run {r s : ARes} {Q : AEx → AFr → AHeap → Prop} (h : r = s) (h2 : ∃ e f X, s = some (e, f, X) ∧ Q e f X) : ∃ e f X, r = some (e, f, X) ∧ Q e f X := by
  subst h; exact h2
def Rl (X : AHeap) (av : List Nat) (ty : TypeId) (sz : Nat) (v : AV) (rows : List (List AV)) : Prop := (rows = [] ∧ v = .nils) ∨ ∃ ob, ob ∉ av ∧ v = .sl ob sz 0 rows.length ∧ X.get ob = some ⟨ty, sz, true, rows⟩
theorem Rl.lift {X Y : AHeap} {av : List Nat} {ty : TypeId} {sz : Nat} {v : AV} {rows : List (List AV)} (h : Rl X av ty sz v rows) (hg : ∀ ob, ob ∉ av → X.get ob = some ⟨ty, sz, true, rows⟩ → Y.get ob = some ⟨ty, sz, true, rows⟩) : Rl Y av ty sz v rows := by
  rcases h with h | ⟨ob, h1, h2, h3⟩
  · exact .inl h
  · exact .inr ⟨ob, h1, h2, hg ob h1 h3⟩
end Go.Abs
end
section
set_option linter.unusedSimpArgs false
set_option linter.unusedVariables false
end

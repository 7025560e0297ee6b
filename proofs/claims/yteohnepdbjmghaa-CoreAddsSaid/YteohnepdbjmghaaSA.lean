import Derived.Test.YteohnepdbjmghaaAbC
import Derived.Test.YteohnepdbjmghaaLoF
section
set_option linter.unusedSimpArgs false
set_option linter.unusedVariables false
namespace Go.Abs
def Rl (X : AHeap) (av : List Nat) (ty : TypeId) (sz : Nat) (v : AV) (rows : List (List AV)) : Prop := (rows = [] ∧ v = .nils) ∨ ∃ ob, ob ∉ av ∧ v = .sl ob sz 0 rows.length ∧ X.get ob = some ⟨ty, sz, true, rows⟩
theorem Rl.lift {X Y : AHeap} {av : List Nat} {ty : TypeId} {sz : Nat} {v : AV} {rows : List (List AV)} (h : Rl X av ty sz v rows) (hg : ∀ ob, ob ∉ av → X.get ob = some ⟨ty, sz, true, rows⟩ → Y.get ob = some ⟨ty, sz, true, rows⟩) : Rl Y av ty sz v rows := by
  rcases h with h | ⟨ob, h1, h2, h3⟩
  · exact .inl h
  · exact .inr ⟨ob, h1, h2, hg ob h1 h3⟩
end Go.Abs
end
section
set_option linter.unusedSimpArgs false
set_option linter.unusedVariables false
end

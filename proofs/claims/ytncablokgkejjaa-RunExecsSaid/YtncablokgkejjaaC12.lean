/-
  The law of what each instruction does, over any memory: both memories with some words, both steps.
-/
import Derived.Test.YtncablokgkejjaaC7a
import Derived.Test.YtncablokgkejjaaCA
import Derived.Test.YtncablokgkejjaaLoF
import Derived.Test.YtncablokgkejjaaCoF
import Derived.Test.YtncablokgkejjaaCrF
import Derived.Test.YtncablokgkejjaaCD
import Derived.Test.YtncablokgkejjaaT5
set_option linter.unusedSimpArgs false
set_option linter.unusedVariables false
namespace Go.Abs
open Th
theorem bumpGet (H : AHeap) (n c : Nat) : (H.bump n).get c = H.get c := rfl
def MemM.put4 (m : MemM) (w : List (BitVec 32)) : Nat → MemM
  | 0 => m
  | k + 1 => { m.put4 w k with words := (m.put4 w k).words.set k (at0 w k) }
theorem put4_keep (m : MemM) (w : List (BitVec 32)) (k : Nat) : (m.put4 w k).code = m.code ∧ (m.put4 w k).tape = m.tape ∧ (m.put4 w k).words.length = m.words.length ∧ (m.Ok → (m.put4 w k).Ok) := by
  induction k with
  | zero => exact ⟨rfl, rfl, rfl, id⟩
  | succ k ih =>
    obtain ⟨h1, h2, h3, h4⟩ := ih
    refine ⟨h1, h2, by simp [MemM.put4, h3], fun h => ?_⟩
    have q := h4 h
    exact ⟨q.code, by simp only [MemM.put4, List.length_set]; exact q.words, q.tape, q.drawn⟩
end Go.Abs

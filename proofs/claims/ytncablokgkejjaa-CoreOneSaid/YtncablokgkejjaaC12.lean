/-
  The law of what each instruction does, over any memory: both memories with some words, both steps.
-/
import Derived.Test.YtncablokgkejjaaC9a
import Derived.Test.YtncablokgkejjaaCD
import Derived.Test.YtncablokgkejjaaT5
set_option linter.unusedSimpArgs false
set_option linter.unusedVariables false
namespace Go.Abs
open Th
theorem bumpGet (H : AHeap) (n c : Nat) : (H.bump n).get c = H.get c := rfl
theorem two_of_mem {H : AHeap} {r : Option (AV × AHeap)} (code : List (BitVec 16)) (tape : List (BitVec 32)) (n : Int) (b wb : Nat) (m : MemM) (hr : ref05_New.spec [.rsl 1 (w16s code), .int .i64 n, .rsl 1 (w32s tape)] H = r)
    (hw : H.WF) (hne : b ≠ wb) (hb : b < H.next) (hwb : wb < H.next) (gb : H.get b = some (memBlk wb m)) (gw : H.get wb = some (wrdBlk m.words)) (hc : code.length ≤ 1000000000) (ht : tape.length ≤ 1000000000) :
    ∃ (B : AHeap) (I : Ids), r = some (.ptr I.rb 5 0 0, B.two I m (MemM.new code n tape)) ∧ I.b = b ∧ I.wb = wb ∧ TwoOk B I (MemM.new code n tape) ∧
      H.next ≤ B.next ∧ H.next ≤ I.rb ∧ H.next ≤ I.rw ∧ H.next ≤ I.cb ∧ H.next ≤ I.tb ∧ ∀ c, c < H.next → B.get c = H.get c := by
  obtain ⟨Y, rb, cb, rw_, tb, h1, h2, h3, h4, h5, h6, h7, h8, h9⟩ := rnew_ex H code tape n hw hc ht
  have hy : Y = Y.mem b wb m := by
    refine mem_of _ _ _ _ _ rfl fun c => ?_
    by_cases e : c < H.next
    · rw [h9 c e]
      split
      · rename_i q; rw [q, gb]
      · split
        · rename_i q; rw [q, gw]
        · rfl
    · rw [if_neg (by omega), if_neg (by omega)]
  refine ⟨Y, ⟨b, wb, rb, cb, rw_, tb⟩, ?_, rfl, rfl, ⟨h2, by dsimp only; omega, by dsimp only; omega, hne, h3, ?_, ?_, ?_, ?_, ?_, ?_, ?_, ?_⟩, h8, h4, h6, h5, h7, h9⟩
  · rw [← hr, h1, AHeap.two, ← hy]
  all_goals (dsimp only; omega)
def MemM.put4 (m : MemM) (w : List (BitVec 32)) : Nat → MemM
  | 0 => m
  | k + 1 => { m.put4 w k with words := (m.put4 w k).words.set k (at0 w k) }
theorem put4_keep (m : MemM) (w : List (BitVec 32)) (k : Nat) : (m.put4 w k).code = m.code ∧ (m.put4 w k).tape = m.tape ∧ (m.put4 w k).words.length = m.words.length ∧ (m.Ok → (m.put4 w k).Ok) := by
  induction k with
  | zero => exact ⟨rfl, rfl, rfl, id⟩
  | succ k ih =>
    obtain ⟨h1, h2, h3, h4⟩ := ih
    refine ⟨h1, h2, by simp [MemM.put4, h3], fun h => ?_⟩
    have q := h4 h
    exact ⟨q.code, by simp only [MemM.put4, List.length_set]; exact q.words, q.tape, q.drawn⟩
end Go.Abs

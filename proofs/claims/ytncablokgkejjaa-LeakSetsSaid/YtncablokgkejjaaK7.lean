/-
  The law of what each instruction leaks.
-/
import Derived.Test.YtncablokgkejjaaK6
import Derived.Test.YtncablokgkejjaaC14
set_option linter.unusedSimpArgs false
set_option linter.unusedVariables false
namespace Go.Abs
open Th
theorem both_of {H : AHeap} {r : Option (AV × AHeap)} (code : List (BitVec 16)) (w0 w1 w2 w3 : BitVec 32) (hr : law07_both.spec [.rsl 1 (w16s code), .agg [W32 w0, W32 w1, W32 w2, W32 w3]] H = r) (hw : H.WF) (hc : code.length ≤ 1000) :
    ∃ B I, r = some (.tup [.ptr I.b 5 0 0, .ptr I.rb 5 0 0], B.two I (m78 code [w0, w1, w2, w3]) (m78 code [w0, w1, w2, w3])) ∧ TwoOk B I (m78 code [w0, w1, w2, w3]) ∧
      H.next ≤ B.next ∧ H.next ≤ I.b ∧ H.next ≤ I.wb ∧ H.next ≤ I.rb ∧ H.next ≤ I.rw ∧ H.next ≤ I.cb ∧ H.next ≤ I.tb ∧ ∀ c, c < H.next → B.get c = H.get c := by
  obtain ⟨B, I, h1, h2⟩ := both_ex H hw code hc w0 w1 w2 w3
  exact ⟨B, I, by rw [← hr, h1], h2⟩
theorem m78_facts (code : List (BitVec 16)) (w : List (BitVec 32)) : (m78 code w).Ok ∧ (m78 code w).words.length = 4 ∧ (m78 code w).code = code.take 60000 := by
  obtain ⟨q1, q2, q3, q4⟩ := put4_keep (MemM.new code 4 [7#32, 8#32]) w 4
  refine ⟨q4 (new_ok code [7#32, 8#32] 4 (by simp)), ?_, q1⟩
  unfold m78; rw [q3]; simp only [MemM.new, List.length_replicate]; decide
end Go.Abs

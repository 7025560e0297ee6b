/-
  Equality of states, as it is reckoned.
-/
import Derived.Test.YtncablokgkejjaaCA
set_option linter.unusedSimpArgs false
set_option linter.unusedVariables false
namespace Go.Abs
theorem ceqs_snoc : ∀ (l l' : List CK) (a b a' b' : List AV), l.length = a.length → l.length = b.length → ceqs (l ++ l') (a ++ a') (b ++ b') = (ceqs l a b).bind fun x => (ceqs l' a' b').map fun y => x && y
  | [], l', [], [], a', b', _, _ => by simp only [List.nil_append, ceqs_nil, Option.bind_some]; cases ceqs l' a' b' <;> simp
  | k :: l, l', c :: a, d :: b, a', b', h1, h2 => by
    simp only [List.cons_append, ceqs_cons]
    rw [ceqs_snoc l l' a b a' b' (by simpa using h1) (by simpa using h2)]
    cases ceq k c d with
    | none => rfl
    | some x =>
      simp only [Option.bind_some]
      cases ceqs l a b with
      | none => rfl
      | some y => simp only [Option.bind_some, Option.map_some]; cases ceqs l' a' b' <;> simp [Bool.and_assoc]
theorem ceqs_words : ∀ (a b : List (BitVec 32)), a.length = b.length → ceqs (List.replicate a.length .i) (a.map W32) (b.map W32) = some (decide (a = b))
  | [], [], _ => rfl
  | x :: a, y :: b, h => by
    have ih := ceqs_words a b (by simpa using h)
    simp only [List.length_cons, List.replicate_succ, List.map_cons, ceqs_cons, ih]
    have : ceq .i (W32 x) (W32 y) = some (decide (x = y)) := by
      show some ((x.toNat : Int) == (y.toNat : Int)) = _
      congr 1
      rw [Bool.eq_iff_iff, beq_iff_eq, decide_eq_true_eq]
      exact ⟨fun q => BitVec.eq_of_toNat_eq (by omega), fun q => by rw [q]⟩
    rw [this]
    simp
theorem sm_ceqs (s t : StM) : ceqs [.i, .i, .i, .i, .i, .i, .i, .i, .i, .b, .b, .b, .b] s.cells t.cells = some (decide (s = t)) := by
  have h := ceqs_snoc (List.replicate 8 .i) [.i, .b, .b, .b, .b] (s.r.map W32) (t.r.map W32) [W32 s.pc, .bool s.n, .bool s.z, .bool s.c, .bool s.v] [W32 t.pc, .bool t.n, .bool t.z, .bool t.c, .bool t.v] (by simp [s.len]) (by simp [t.len])
  have h2 := ceqs_words s.r t.r (by rw [s.len, t.len])
  rw [s.len] at h2
  rw [h2] at h
  have e : decide (s = t) = (decide (s.r = t.r) && (decide (s.pc = t.pc) && (decide (s.n = t.n) && (decide (s.z = t.z) && (decide (s.c = t.c) && decide (s.v = t.v)))))) := by
    rw [Bool.eq_iff_iff]; simp [StM.ext_iff']
  rw [e]
  refine h.trans ?_
  have hb : ∀ x y : Bool, (x == y) = decide (x = y) := by decide
  have hp : (s.pc == t.pc) = decide (s.pc = t.pc) := by rw [Bool.eq_iff_iff]; simp
  simp [hb, hp]
end Go.Abs

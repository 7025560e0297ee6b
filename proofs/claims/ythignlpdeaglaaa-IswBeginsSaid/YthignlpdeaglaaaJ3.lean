/-
  What a step makes: the program's function.
-/
import Derived.Test.YthignlpdeaglaaaJ2
set_option linter.unusedSimpArgs false
set_option linter.unusedVariables false
namespace Go.Abs
theorem rotl_eq (a : BitVec 32) (k : Nat) (hk : k < 32) : math_bits_RotateLeft32.spec [W32 a, .int .i64 k] = some (W32 (a.rotateLeft k)) := by
  simp -implicitDefEqProofs +contextual (disch := omega) [math_bits_RotateLeft32.spec, math_bits_RotateLeft32]
  have e1 : k % 18446744073709551616 &&& 31 = k := by
    rw [Nat.mod_eq_of_lt (by omega), show (31 : Nat) = 2 ^ 5 - 1 from rfl, Nat.and_two_pow_sub_one_eq_mod]; omega
  have e2 : (18446744073709551616 - k + 32) % 18446744073709551616 = 32 - k := by omega
  rw [e1, e2]
  unfold BitVec.rotateLeft BitVec.rotateLeftAux
  rw [Nat.mod_eq_of_lt hk]
theorem Rot_eq (a n : BitVec 32) : word_Rot.spec [W32 a, W32 n] = some (W32 (rotM a n)) := by
  have h := rotl_eq a (n.toNat % 32) (Nat.mod_lt _ (by omega))
  have e : ((n.toNat % 32 : Nat) : Int) = (n.toNat : Int) % 32 := by omega
  rw [e] at h
  simp -implicitDefEqProofs +contextual (disch := omega) [word_Rot.spec, word_Rot, h]
  simp [rotM]
theorem step_eq (o : OpM) (a b : BitVec 32) : isw_step.spec [.agg o.cells, W32 a, W32 b] = some (W32 (stepW o a b)) := by
  obtain ⟨k, x, y, n⟩ := o
  unfold OpM.cells stepW
  dsimp only
  have hR := Rot_eq a n
  by_cases h1 : k = 1
  · subst h1; simp -implicitDefEqProofs +contextual (disch := omega) [isw_step.spec, isw_step]
  by_cases h2 : k = 2
  · subst h2; simp -implicitDefEqProofs +contextual (disch := omega) [isw_step.spec, isw_step]
  by_cases h3 : k = 3
  · subst h3; simp -implicitDefEqProofs +contextual (disch := omega) [isw_step.spec, isw_step]
  by_cases h4 : k = 4
  · subst h4; simp -implicitDefEqProofs +contextual (disch := omega) [isw_step.spec, isw_step]
  by_cases h5 : k = 5
  · subst h5; simp -implicitDefEqProofs +contextual (disch := omega) [isw_step.spec, isw_step]
  by_cases h6 : k = 6
  · subst h6; simp -implicitDefEqProofs +contextual (disch := omega) [isw_step.spec, isw_step, hR]
  by_cases h7 : k = 7
  · subst h7; simp -implicitDefEqProofs +contextual (disch := omega) [isw_step.spec, isw_step]
  simp -implicitDefEqProofs +contextual (disch := omega) [isw_step.spec, isw_step, h1, h2, h3, h4, h5, h6, h7]
end Go.Abs

/-
  Texts: numbers' digits.
-/
import Derived.Test.YteohnepdbjmghaaSA
import Derived.Test.YteohnepdbjmghaaTeF
set_option linter.unusedSimpArgs false
set_option linter.unusedVariables false
namespace Go.Abs
def numK : Nat → Nat → List UInt8
  | 0, _ => []
  | k + 1, n => if n < 10 then [48 + UInt8.ofNat n] else numK k (n / 10) ++ [48 + UInt8.ofNat (n % 10)]
def num (n : Nat) : List UInt8 := numK 19 n
theorem numK_len : ∀ k n, (numK k n).length ≤ k
  | 0, _ => by simp [numK]
  | k + 1, n => by
    have := numK_len k (n / 10)
    unfold numK
    split
    · simp
    · simp; omega
theorem num_len (n : Nat) : (num n).length ≤ 19 := numK_len 19 n
theorem numK_one (k n : Nat) (h : n < 10) : numK (k + 1) n = [48 + UInt8.ofNat n] := by unfold numK; rw [if_pos h]
theorem digit_cut (n : Nat) (h : n < 10) : (([48, 49, 50, 51, 52, 53, 54, 55, 56, 57] : List UInt8).take (n + 1)).drop n = [48 + UInt8.ofNat n] := by
  have : n = 0 ∨ n = 1 ∨ n = 2 ∨ n = 3 ∨ n = 4 ∨ n = 5 ∨ n = 6 ∨ n = 7 ∨ n = 8 ∨ n = 9 := by omega
  rcases this with rfl | rfl | rfl | rfl | rfl | rfl | rfl | rfl | rfl | rfl <;> rfl
theorem Num_one (s : SpecP) (n : Nat) (h : n < 10) : ref04_Num.step s [.int .i64 n] = some (.str (bs [48 + UInt8.ofNat n])) := by
  have h1 : (n : Int) < 10 := by omega
  have h2 : ¬ (n : Int) < 0 := by omega
  have hc := digit_cut n h
  have h3 : ((n : Int) + 1).toNat = n + 1 := by omega
  rw [List.take_succ_cons] at hc
  simp -implicitDefEqProofs +contextual (disch := omega) [ref04_Num.step, h1, h2, hc, h3]
theorem Num_fuel : ∀ (k j n : Nat), k ≤ 18 → n < 10 ^ (k + 1) → n < 1000000000000000000 → ref04_Num.fuel (k + 1 + j) [.int .i64 n] = some (.str (bs (numK (k + 1) n)))
  | 0, j, n, _, h, hb => by
    have h' : n < 10 := by simpa using h
    rw [show 0 + 1 + j = j + 1 from by omega, numK_one 0 n h']
    exact Num_one _ n h'
  | k + 1, j, n, hk18, h, hb => by
    by_cases h' : n < 10
    · rw [show k + 1 + 1 + j = (k + 1 + j) + 1 from by omega, numK_one (k + 1) n h']
      exact Num_one _ n h'
    · have e1 := Num_fuel k j (n / 10) (by omega) (by rw [Nat.pow_succ] at h; omega) (by omega)
      have e2 := Num_fuel 0 (k + j) (n % 10) (by omega) (by omega) (by omega)
      rw [show 0 + 1 + (k + j) = k + 1 + j from by omega, numK_one 0 _ (by omega)] at e2
      have hl := numK_len (k + 1) (n / 10)
      have hk : (numK (k + 1) (n / 10)).length ≤ 19 := by omega
      rw [show k + 1 + 1 + j = (k + 1 + j) + 1 from by omega]
      show ref04_Num.step (ref04_Num.fuel (k + 1 + j)) [.int .i64 n] = _
      have h1 : ¬ (n : Int) < 10 := by omega
      have h2 : ¬ (n : Int) < 0 := by omega
      have hd : ((n / 10 : Nat) : Int) = (n : Int) / 10 := by omega
      have hm : ((n % 10 : Nat) : Int) = (n : Int) % 10 := by omega
      rw [hd] at e1
      rw [hm] at e2
      rw [show numK (k + 1 + 1) n = numK (k + 1) (n / 10) ++ [48 + UInt8.ofNat (n % 10)] from by rw [numK, if_neg h']]
      generalize numK (k + 1) (n / 10) = l at *
      generalize ref04_Num.fuel (k + 1 + j) = s at *
      simp -implicitDefEqProofs +contextual (disch := omega) [ref04_Num.step, h1, h2, e1, e2]
theorem Num_eq (n : Nat) (h : n < 1000000000000000000) : ref04_Num.spec [.int .i64 n] = some (.str (bs (num n))) :=
  Num_fuel 18 45 n (by omega) (by omega) h
end Go.Abs

/-
  What few wires of a gadget tell: the check, wire by wire. Printed by genj38.py.
-/
import Derived.Test.YthignlpdeaglaaaIL
set_option linter.unusedVariables false
namespace Go.Abs
theorem gadn_t1 : gadIn true 1 + (gadS true 1).ops.length = 13 := by decide +kernel
theorem ck_t1_0 : checkX true 1 0 = true := by decide +kernel
theorem ck_t1_1 : checkX true 1 1 = true := by decide +kernel
theorem ck_t1_2 : checkX true 1 2 = true := by decide +kernel
theorem ck_t1_3 : checkX true 1 3 = true := by decide +kernel
theorem ck_t1_4 : checkX true 1 4 = true := by decide +kernel
theorem ck_t1_5 : checkX true 1 5 = true := by decide +kernel
theorem ck_t1_6 : checkX true 1 6 = true := by decide +kernel
theorem ck_t1_7 : checkX true 1 7 = true := by decide +kernel
theorem ck_t1_8 : checkX true 1 8 = true := by decide +kernel
theorem ck_t1_9 : checkX true 1 9 = true := by decide +kernel
theorem ck_t1_10 : checkX true 1 10 = true := by decide +kernel
theorem ck_t1_11 : checkX true 1 11 = true := by decide +kernel
theorem ck_t1_12 : checkX true 1 12 = true := by decide +kernel
theorem ck_t1 (x : Nat) (h : x < 13) : checkX true 1 x = true := by
  have : x = 0 ∨ x = 1 ∨ x = 2 ∨ x = 3 ∨ x = 4 ∨ x = 5 ∨ x = 6 ∨ x = 7 ∨ x = 8 ∨ x = 9 ∨ x = 10 ∨ x = 11 ∨ x = 12 := by omega
  rcases this with rfl | rfl | rfl | rfl | rfl | rfl | rfl | rfl | rfl | rfl | rfl | rfl | rfl
  · exact ck_t1_0
  · exact ck_t1_1
  · exact ck_t1_2
  · exact ck_t1_3
  · exact ck_t1_4
  · exact ck_t1_5
  · exact ck_t1_6
  · exact ck_t1_7
  · exact ck_t1_8
  · exact ck_t1_9
  · exact ck_t1_10
  · exact ck_t1_11
  · exact ck_t1_12
theorem gadn_t2 : gadIn true 2 + (gadS true 2).ops.length = 30 := by decide +kernel
theorem ck_t2_0 : checkX true 2 0 = true := by decide +kernel
theorem ck_t2_1 : checkX true 2 1 = true := by decide +kernel
theorem ck_t2_2 : checkX true 2 2 = true := by decide +kernel
theorem ck_t2_3 : checkX true 2 3 = true := by decide +kernel
theorem ck_t2_4 : checkX true 2 4 = true := by decide +kernel
theorem ck_t2_5 : checkX true 2 5 = true := by decide +kernel
theorem ck_t2_6 : checkX true 2 6 = true := by decide +kernel
theorem ck_t2_7 : checkX true 2 7 = true := by decide +kernel
theorem ck_t2_8 : checkX true 2 8 = true := by decide +kernel
theorem ck_t2_9 : checkX true 2 9 = true := by decide +kernel
theorem ck_t2_10 : checkX true 2 10 = true := by decide +kernel
theorem ck_t2_11 : checkX true 2 11 = true := by decide +kernel
theorem ck_t2_12 : checkX true 2 12 = true := by decide +kernel
theorem ck_t2_13 : checkX true 2 13 = true := by decide +kernel
theorem ck_t2_14 : checkX true 2 14 = true := by decide +kernel
theorem ck_t2_15 : checkX true 2 15 = true := by decide +kernel
theorem ck_t2_16 : checkX true 2 16 = true := by decide +kernel
theorem ck_t2_17 : checkX true 2 17 = true := by decide +kernel
theorem ck_t2_18 : checkX true 2 18 = true := by decide +kernel
theorem ck_t2_19 : checkX true 2 19 = true := by decide +kernel
theorem ck_t2_20 : checkX true 2 20 = true := by decide +kernel
theorem ck_t2_21 : checkX true 2 21 = true := by decide +kernel
theorem ck_t2_22 : checkX true 2 22 = true := by decide +kernel
theorem ck_t2_23 : checkX true 2 23 = true := by decide +kernel
theorem ck_t2_24 : checkX true 2 24 = true := by decide +kernel
theorem ck_t2_25 : checkX true 2 25 = true := by decide +kernel
theorem ck_t2_26 : checkX true 2 26 = true := by decide +kernel
theorem ck_t2_27 : checkX true 2 27 = true := by decide +kernel
theorem ck_t2_28 : checkX true 2 28 = true := by decide +kernel
theorem ck_t2_29 : checkX true 2 29 = true := by decide +kernel
theorem ck_t2 (x : Nat) (h : x < 30) : checkX true 2 x = true := by
  have : x = 0 ∨ x = 1 ∨ x = 2 ∨ x = 3 ∨ x = 4 ∨ x = 5 ∨ x = 6 ∨ x = 7 ∨ x = 8 ∨ x = 9 ∨ x = 10 ∨ x = 11 ∨ x = 12 ∨ x = 13 ∨ x = 14 ∨ x = 15 ∨ x = 16 ∨ x = 17 ∨ x = 18 ∨ x = 19 ∨ x = 20 ∨ x = 21 ∨ x = 22 ∨ x = 23 ∨ x = 24 ∨ x = 25 ∨ x = 26 ∨ x = 27 ∨ x = 28 ∨ x = 29 := by omega
  rcases this with rfl | rfl | rfl | rfl | rfl | rfl | rfl | rfl | rfl | rfl | rfl | rfl | rfl | rfl | rfl | rfl | rfl | rfl | rfl | rfl | rfl | rfl | rfl | rfl | rfl | rfl | rfl | rfl | rfl | rfl
  · exact ck_t2_0
  · exact ck_t2_1
  · exact ck_t2_2
  · exact ck_t2_3
  · exact ck_t2_4
  · exact ck_t2_5
  · exact ck_t2_6
  · exact ck_t2_7
  · exact ck_t2_8
  · exact ck_t2_9
  · exact ck_t2_10
  · exact ck_t2_11
  · exact ck_t2_12
  · exact ck_t2_13
  · exact ck_t2_14
  · exact ck_t2_15
  · exact ck_t2_16
  · exact ck_t2_17
  · exact ck_t2_18
  · exact ck_t2_19
  · exact ck_t2_20
  · exact ck_t2_21
  · exact ck_t2_22
  · exact ck_t2_23
  · exact ck_t2_24
  · exact ck_t2_25
  · exact ck_t2_26
  · exact ck_t2_27
  · exact ck_t2_28
  · exact ck_t2_29
theorem gadn_f1 : gadIn false 1 + (gadS false 1).ops.length = 5 := by decide +kernel
theorem ck_f1_0 : checkX false 1 0 = true := by decide +kernel
theorem ck_f1_1 : checkX false 1 1 = true := by decide +kernel
theorem ck_f1_2 : checkX false 1 2 = true := by decide +kernel
theorem ck_f1_3 : checkX false 1 3 = true := by decide +kernel
theorem ck_f1_4 : checkX false 1 4 = true := by decide +kernel
theorem ck_f1 (x : Nat) (h : x < 5) : checkX false 1 x = true := by
  have : x = 0 ∨ x = 1 ∨ x = 2 ∨ x = 3 ∨ x = 4 := by omega
  rcases this with rfl | rfl | rfl | rfl | rfl
  · exact ck_f1_0
  · exact ck_f1_1
  · exact ck_f1_2
  · exact ck_f1_3
  · exact ck_f1_4
theorem gadn_f2 : gadIn false 2 + (gadS false 2).ops.length = 12 := by decide +kernel
theorem ck_f2_0 : checkX false 2 0 = true := by decide +kernel
theorem ck_f2_1 : checkX false 2 1 = true := by decide +kernel
theorem ck_f2_2 : checkX false 2 2 = true := by decide +kernel
theorem ck_f2_3 : checkX false 2 3 = true := by decide +kernel
theorem ck_f2_4 : checkX false 2 4 = true := by decide +kernel
theorem ck_f2_5 : checkX false 2 5 = true := by decide +kernel
theorem ck_f2_6 : checkX false 2 6 = true := by decide +kernel
theorem ck_f2_7 : checkX false 2 7 = true := by decide +kernel
theorem ck_f2_8 : checkX false 2 8 = true := by decide +kernel
theorem ck_f2_9 : checkX false 2 9 = true := by decide +kernel
theorem ck_f2_10 : checkX false 2 10 = true := by decide +kernel
theorem ck_f2_11 : checkX false 2 11 = true := by decide +kernel
theorem ck_f2 (x : Nat) (h : x < 12) : checkX false 2 x = true := by
  have : x = 0 ∨ x = 1 ∨ x = 2 ∨ x = 3 ∨ x = 4 ∨ x = 5 ∨ x = 6 ∨ x = 7 ∨ x = 8 ∨ x = 9 ∨ x = 10 ∨ x = 11 := by omega
  rcases this with rfl | rfl | rfl | rfl | rfl | rfl | rfl | rfl | rfl | rfl | rfl | rfl
  · exact ck_f2_0
  · exact ck_f2_1
  · exact ck_f2_2
  · exact ck_f2_3
  · exact ck_f2_4
  · exact ck_f2_5
  · exact ck_f2_6
  · exact ck_f2_7
  · exact ck_f2_8
  · exact ck_f2_9
  · exact ck_f2_10
  · exact ck_f2_11
theorem gadn_f3 : gadIn false 3 + (gadS false 3).ops.length = 22 := by decide +kernel
theorem ck_f3_0 : checkX false 3 0 = true := by decide +kernel
theorem ck_f3_1 : checkX false 3 1 = true := by decide +kernel
theorem ck_f3_2 : checkX false 3 2 = true := by decide +kernel
theorem ck_f3_3 : checkX false 3 3 = true := by decide +kernel
theorem ck_f3_4 : checkX false 3 4 = true := by decide +kernel
theorem ck_f3_5 : checkX false 3 5 = true := by decide +kernel
theorem ck_f3_6 : checkX false 3 6 = true := by decide +kernel
theorem ck_f3_7 : checkX false 3 7 = true := by decide +kernel
theorem ck_f3_8 : checkX false 3 8 = true := by decide +kernel
theorem ck_f3_9 : checkX false 3 9 = true := by decide +kernel
theorem ck_f3_10 : checkX false 3 10 = true := by decide +kernel
theorem ck_f3_11 : checkX false 3 11 = true := by decide +kernel
theorem ck_f3_12 : checkX false 3 12 = true := by decide +kernel
theorem ck_f3_13 : checkX false 3 13 = true := by decide +kernel
theorem ck_f3_14 : checkX false 3 14 = true := by decide +kernel
theorem ck_f3_15 : checkX false 3 15 = true := by decide +kernel
theorem ck_f3_16 : checkX false 3 16 = true := by decide +kernel
theorem ck_f3_17 : checkX false 3 17 = true := by decide +kernel
theorem ck_f3_18 : checkX false 3 18 = true := by decide +kernel
theorem ck_f3_19 : checkX false 3 19 = true := by decide +kernel
theorem ck_f3_20 : checkX false 3 20 = true := by decide +kernel
theorem ck_f3_21 : checkX false 3 21 = true := by decide +kernel
theorem ck_f3 (x : Nat) (h : x < 22) : checkX false 3 x = true := by
  have : x = 0 ∨ x = 1 ∨ x = 2 ∨ x = 3 ∨ x = 4 ∨ x = 5 ∨ x = 6 ∨ x = 7 ∨ x = 8 ∨ x = 9 ∨ x = 10 ∨ x = 11 ∨ x = 12 ∨ x = 13 ∨ x = 14 ∨ x = 15 ∨ x = 16 ∨ x = 17 ∨ x = 18 ∨ x = 19 ∨ x = 20 ∨ x = 21 := by omega
  rcases this with rfl | rfl | rfl | rfl | rfl | rfl | rfl | rfl | rfl | rfl | rfl | rfl | rfl | rfl | rfl | rfl | rfl | rfl | rfl | rfl | rfl | rfl
  · exact ck_f3_0
  · exact ck_f3_1
  · exact ck_f3_2
  · exact ck_f3_3
  · exact ck_f3_4
  · exact ck_f3_5
  · exact ck_f3_6
  · exact ck_f3_7
  · exact ck_f3_8
  · exact ck_f3_9
  · exact ck_f3_10
  · exact ck_f3_11
  · exact ck_f3_12
  · exact ck_f3_13
  · exact ck_f3_14
  · exact ck_f3_15
  · exact ck_f3_16
  · exact ck_f3_17
  · exact ck_f3_18
  · exact ck_f3_19
  · exact ck_f3_20
  · exact ck_f3_21
end Go.Abs

/-
  Steps' texts: the document's step. Printed by gene15.py.
-/
import Derived.Test.YteohnepdbjmghaaE14
set_option linter.unusedSimpArgs false
set_option linter.unusedVariables false
namespace Go.Abs
open Th
theorem num0_eq : ref04_Num.spec [.int .i64 0] = some (.str (bs [48])) := Num_eq 0 (by decide)
theorem num1_eq : ref04_Num.spec [.int .i64 1] = some (.str (bs [49])) := Num_eq 1 (by decide)
theorem lf0_line (n : Nat) : showI (lfI 0 n) = [108, 115, 108, 115, 32, 114, 48, 44, 32, 114, 48, 44, 32, 35] ++ num n := by
  obtain ⟨n0, n1, n2, n5, n6, n7, n8, n24, n32, n64⟩ := num_small
  simp only [showI, lfI, regT, immT, csT, if_true, Int.toNat_natCast]
  simp [n0]
theorem lsr_line (n : Nat) : showI ⟨5, 0, 0, 0, n⟩ = [108, 115, 114, 115, 32, 114, 48, 44, 32, 114, 48, 44, 32, 35] ++ num n := by
  obtain ⟨n0, n1, n2, n5, n6, n7, n8, n24, n32, n64⟩ := num_small
  simp only [showI, regT, immT, csT, Int.toNat_natCast]
  simp [n0]
theorem mv2_line (n : Nat) : showI (mvI 2 n) = [109, 111, 118, 115, 32, 114, 50, 44, 32, 35] ++ num n := by
  obtain ⟨n0, n1, n2, n5, n6, n7, n8, n24, n32, n64⟩ := num_small
  simp only [showI, mvI, regT, immT, csT, if_true, Int.toNat_natCast]
  simp [n2]
theorem fixed_lines : showI (mvI 0 0) = [109, 111, 118, 115, 32, 114, 48, 44, 32, 35, 48] ∧ showI (mvI 1 0) = [109, 111, 118, 115, 32, 114, 49, 44, 32, 35, 48] ∧ showI (alI 0 0 1) = [97, 110, 100, 115, 32, 114, 48, 44, 32, 114, 49] ∧ showI (alI 1 0 1) = [101, 111, 114, 115, 32, 114, 48, 44, 32, 114, 49] ∧
    showI (alI 15 0 0) = [109, 118, 110, 115, 32, 114, 48, 44, 32, 114, 48] ∧ showI (alI 7 0 2) = [114, 111, 114, 115, 32, 114, 48, 44, 32, 114, 50] ∧ showI ⟨12, 0, 5, 0, 0⟩ = [108, 100, 114, 32, 114, 48, 44, 32, 91, 114, 53, 44, 32, 35, 48, 93] ∧ showI (lfI 0 0) = [108, 115, 108, 115, 32, 114, 48, 44, 32, 114, 48, 44, 32, 35, 48] := by decide +kernel
theorem get_lines0 (n : Nat) : linesI (getI 0 n) = linesI (atI n) ++ [[108, 100, 114, 32, 114, 48, 44, 32, 91, 114, 55, 44, 32, 114, 54, 93]] := by
  have := getI_lines 0 n (by decide)
  simpa [num_small.1] using this
theorem get_lines1 (n : Nat) : linesI (getI 1 n) = linesI (atI n) ++ [[108, 100, 114, 32, 114, 49, 44, 32, 91, 114, 55, 44, 32, 114, 54, 93]] := by
  have := getI_lines 1 n (by decide)
  simpa [num_small.2.1] using this
set_option maxHeartbeats 2000000 in
theorem rStep_0 (v : BitVec 32) (a b : Int) (dst : Nat) (hd : dst ≤ 16000) : ref25_Step.spec [.agg [.int .i64 0, .int .i64 a, .int .i64 b, W32 v], .int .i64 dst, .rsl 1 []] = some (.rsl 1 (strRows (linesI (stepI ⟨0, a, b, v⟩ dst [])))) := by
  have hsl := rSlot_eq dst hd
  obtain ⟨x0, x1, x2, x3, x4, x5, x6, x7⟩ := fixed_lines
  have hN := Num_eq v.toNat (by have := v.isLt; omega)
  have hlines : linesI (stepI ⟨0, a, b, v⟩ dst []) = [[109, 111, 118, 115, 32, 114, 48, 44, 32, 35, 48]] ++ [[108, 100, 114, 32, 114, 48, 44, 32, 91, 114, 53, 44, 32, 35, 48, 93]] ++ (linesI (atI dst) ++ [[115, 116, 114, 32, 114, 48, 44, 32, 91, 114, 55, 44, 32, 114, 54, 93]]) := by
    rw [← putI_lines]
    simp only [stepI, headI, regsI, linesI_append, doesI]
    simp [linesI, x0, x1, x2, x3, x4, x5, x6, x7, lf0_line, lsr_line, mv2_line]
  rw [hlines]
  clear hlines
  have hnl := num_len v.toNat
  generalize num v.toNat = ns at *
  have ldst : (linesI (atI dst)).length ≤ 3 := by rw [linesI_length]; exact (atI_len dst).2
  obtain ⟨Sdst, edst⟩ : ∃ S, S = linesI (atI dst) := ⟨_, rfl⟩
  rw [← edst] at hsl ldst ⊢
  have tdst := strRows_all Sdst
  simp -implicitDefEqProofs +contextual (disch := omega) [ref25_Step.spec, ref25_Step, aloop_unroll, ref25_Step.l0, hsl, hN, num0_eq, num1_eq]
  rw [List.take_of_length_le (by simp; omega)]
  simp [strRows]
set_option maxHeartbeats 2000000 in
theorem rStep_1 (v : BitVec 32) (a b : Int) (dst : Nat) (hd : dst ≤ 16000) (x : Nat) (y : Nat) (hx : x ≤ 16000) (hy : y ≤ 16000) : ref25_Step.spec [.agg [.int .i64 1, .int .i64 a, .int .i64 b, W32 v], .int .i64 dst, .rsl 1 [[.int .i64 x], [.int .i64 y]]] = some (.rsl 1 (strRows (linesI (stepI ⟨1, a, b, v⟩ dst [x, y])))) := by
  have hsl := rSlot_eq dst hd
  have hsx := rSlot_eq x hx
  have hsy := rSlot_eq y hy
  obtain ⟨x0, x1, x2, x3, x4, x5, x6, x7⟩ := fixed_lines
  have hN := Num_eq v.toNat (by have := v.isLt; omega)
  have hlines : linesI (stepI ⟨1, a, b, v⟩ dst [x, y]) = [[109, 111, 118, 115, 32, 114, 48, 44, 32, 35, 48]] ++ [[109, 111, 118, 115, 32, 114, 49, 44, 32, 35, 48]] ++ (linesI (atI x) ++ [[108, 100, 114, 32, 114, 48, 44, 32, 91, 114, 55, 44, 32, 114, 54, 93]]) ++ (linesI (atI y) ++ [[108, 100, 114, 32, 114, 49, 44, 32, 91, 114, 55, 44, 32, 114, 54, 93]]) ++ [[97, 110, 100, 115, 32, 114, 48, 44, 32, 114, 49]] ++ (linesI (atI dst) ++ [[115, 116, 114, 32, 114, 48, 44, 32, 91, 114, 55, 44, 32, 114, 54, 93]]) := by
    rw [← putI_lines, ← get_lines0, ← get_lines1]
    simp only [stepI, headI, regsI, linesI_append, doesI]
    simp [linesI, x0, x1, x2, x3, x4, x5, x6, x7, lf0_line, lsr_line, mv2_line]
  rw [hlines]
  clear hlines
  have hnl := num_len v.toNat
  generalize num v.toNat = ns at *
  have lx : (linesI (atI x)).length ≤ 3 := by rw [linesI_length]; exact (atI_len x).2
  have ly : (linesI (atI y)).length ≤ 3 := by rw [linesI_length]; exact (atI_len y).2
  have ldst : (linesI (atI dst)).length ≤ 3 := by rw [linesI_length]; exact (atI_len dst).2
  obtain ⟨Sx, ex⟩ : ∃ S, S = linesI (atI x) := ⟨_, rfl⟩
  rw [← ex] at hsx lx ⊢
  have tx := strRows_all Sx
  obtain ⟨Sy, ey⟩ : ∃ S, S = linesI (atI y) := ⟨_, rfl⟩
  rw [← ey] at hsy ly ⊢
  have ty := strRows_all Sy
  obtain ⟨Sdst, edst⟩ : ∃ S, S = linesI (atI dst) := ⟨_, rfl⟩
  rw [← edst] at hsl ldst ⊢
  have tdst := strRows_all Sdst
  simp -implicitDefEqProofs +contextual (disch := omega) [ref25_Step.spec, ref25_Step, aloop_unroll, ref25_Step.l0, hsl, hN, num0_eq, num1_eq, hsx, tx, hsy, ty]
  rw [List.take_of_length_le (by simp; omega)]
  simp [strRows]
set_option maxHeartbeats 2000000 in
theorem rStep_2 (v : BitVec 32) (a b : Int) (dst : Nat) (hd : dst ≤ 16000) (x : Nat) (y : Nat) (hx : x ≤ 16000) (hy : y ≤ 16000) : ref25_Step.spec [.agg [.int .i64 2, .int .i64 a, .int .i64 b, W32 v], .int .i64 dst, .rsl 1 [[.int .i64 x], [.int .i64 y]]] = some (.rsl 1 (strRows (linesI (stepI ⟨2, a, b, v⟩ dst [x, y])))) := by
  have hsl := rSlot_eq dst hd
  have hsx := rSlot_eq x hx
  have hsy := rSlot_eq y hy
  obtain ⟨x0, x1, x2, x3, x4, x5, x6, x7⟩ := fixed_lines
  have hN := Num_eq v.toNat (by have := v.isLt; omega)
  have hlines : linesI (stepI ⟨2, a, b, v⟩ dst [x, y]) = [[109, 111, 118, 115, 32, 114, 48, 44, 32, 35, 48]] ++ [[109, 111, 118, 115, 32, 114, 49, 44, 32, 35, 48]] ++ (linesI (atI x) ++ [[108, 100, 114, 32, 114, 48, 44, 32, 91, 114, 55, 44, 32, 114, 54, 93]]) ++ (linesI (atI y) ++ [[108, 100, 114, 32, 114, 49, 44, 32, 91, 114, 55, 44, 32, 114, 54, 93]]) ++ [[101, 111, 114, 115, 32, 114, 48, 44, 32, 114, 49]] ++ (linesI (atI dst) ++ [[115, 116, 114, 32, 114, 48, 44, 32, 91, 114, 55, 44, 32, 114, 54, 93]]) := by
    rw [← putI_lines, ← get_lines0, ← get_lines1]
    simp only [stepI, headI, regsI, linesI_append, doesI]
    simp [linesI, x0, x1, x2, x3, x4, x5, x6, x7, lf0_line, lsr_line, mv2_line]
  rw [hlines]
  clear hlines
  have hnl := num_len v.toNat
  generalize num v.toNat = ns at *
  have lx : (linesI (atI x)).length ≤ 3 := by rw [linesI_length]; exact (atI_len x).2
  have ly : (linesI (atI y)).length ≤ 3 := by rw [linesI_length]; exact (atI_len y).2
  have ldst : (linesI (atI dst)).length ≤ 3 := by rw [linesI_length]; exact (atI_len dst).2
  obtain ⟨Sx, ex⟩ : ∃ S, S = linesI (atI x) := ⟨_, rfl⟩
  rw [← ex] at hsx lx ⊢
  have tx := strRows_all Sx
  obtain ⟨Sy, ey⟩ : ∃ S, S = linesI (atI y) := ⟨_, rfl⟩
  rw [← ey] at hsy ly ⊢
  have ty := strRows_all Sy
  obtain ⟨Sdst, edst⟩ : ∃ S, S = linesI (atI dst) := ⟨_, rfl⟩
  rw [← edst] at hsl ldst ⊢
  have tdst := strRows_all Sdst
  simp -implicitDefEqProofs +contextual (disch := omega) [ref25_Step.spec, ref25_Step, aloop_unroll, ref25_Step.l0, hsl, hN, num0_eq, num1_eq, hsx, tx, hsy, ty]
  rw [List.take_of_length_le (by simp; omega)]
  simp [strRows]
set_option maxHeartbeats 2000000 in
theorem rStep_3 (v : BitVec 32) (a b : Int) (dst : Nat) (hd : dst ≤ 16000) (x : Nat) (hx : x ≤ 16000) : ref25_Step.spec [.agg [.int .i64 3, .int .i64 a, .int .i64 b, W32 v], .int .i64 dst, .rsl 1 [[.int .i64 x]]] = some (.rsl 1 (strRows (linesI (stepI ⟨3, a, b, v⟩ dst [x])))) := by
  have hsl := rSlot_eq dst hd
  have hsx := rSlot_eq x hx
  obtain ⟨x0, x1, x2, x3, x4, x5, x6, x7⟩ := fixed_lines
  have hN := Num_eq v.toNat (by have := v.isLt; omega)
  have hlines : linesI (stepI ⟨3, a, b, v⟩ dst [x]) = [[109, 111, 118, 115, 32, 114, 48, 44, 32, 35, 48]] ++ (linesI (atI x) ++ [[108, 100, 114, 32, 114, 48, 44, 32, 91, 114, 55, 44, 32, 114, 54, 93]]) ++ [[109, 118, 110, 115, 32, 114, 48, 44, 32, 114, 48]] ++ (linesI (atI dst) ++ [[115, 116, 114, 32, 114, 48, 44, 32, 91, 114, 55, 44, 32, 114, 54, 93]]) := by
    rw [← putI_lines, ← get_lines0]
    simp only [stepI, headI, regsI, linesI_append, doesI]
    simp [linesI, x0, x1, x2, x3, x4, x5, x6, x7, lf0_line, lsr_line, mv2_line]
  rw [hlines]
  clear hlines
  have hnl := num_len v.toNat
  generalize num v.toNat = ns at *
  have lx : (linesI (atI x)).length ≤ 3 := by rw [linesI_length]; exact (atI_len x).2
  have ldst : (linesI (atI dst)).length ≤ 3 := by rw [linesI_length]; exact (atI_len dst).2
  obtain ⟨Sx, ex⟩ : ∃ S, S = linesI (atI x) := ⟨_, rfl⟩
  rw [← ex] at hsx lx ⊢
  have tx := strRows_all Sx
  obtain ⟨Sdst, edst⟩ : ∃ S, S = linesI (atI dst) := ⟨_, rfl⟩
  rw [← edst] at hsl ldst ⊢
  have tdst := strRows_all Sdst
  simp -implicitDefEqProofs +contextual (disch := omega) [ref25_Step.spec, ref25_Step, aloop_unroll, ref25_Step.l0, hsl, hN, num0_eq, num1_eq, hsx, tx]
  rw [List.take_of_length_le (by simp; omega)]
  simp [strRows]
set_option maxHeartbeats 2000000 in
theorem rStep_4 (v : BitVec 32) (a b : Int) (dst : Nat) (hd : dst ≤ 16000) (x : Nat) (hx : x ≤ 16000) : ref25_Step.spec [.agg [.int .i64 4, .int .i64 a, .int .i64 b, W32 v], .int .i64 dst, .rsl 1 [[.int .i64 x]]] = some (.rsl 1 (strRows (linesI (stepI ⟨4, a, b, v⟩ dst [x])))) := by
  have hsl := rSlot_eq dst hd
  have hsx := rSlot_eq x hx
  obtain ⟨x0, x1, x2, x3, x4, x5, x6, x7⟩ := fixed_lines
  have hN := Num_eq v.toNat (by have := v.isLt; omega)
  have hlines : linesI (stepI ⟨4, a, b, v⟩ dst [x]) = [[109, 111, 118, 115, 32, 114, 48, 44, 32, 35, 48]] ++ (linesI (atI x) ++ [[108, 100, 114, 32, 114, 48, 44, 32, 91, 114, 55, 44, 32, 114, 54, 93]]) ++ [[108, 115, 108, 115, 32, 114, 48, 44, 32, 114, 48, 44, 32, 35] ++ num v.toNat] ++ (linesI (atI dst) ++ [[115, 116, 114, 32, 114, 48, 44, 32, 91, 114, 55, 44, 32, 114, 54, 93]]) := by
    rw [← putI_lines, ← get_lines0]
    simp only [stepI, headI, regsI, linesI_append, doesI]
    simp [linesI, x0, x1, x2, x3, x4, x5, x6, x7, lf0_line, lsr_line, mv2_line]
  rw [hlines]
  clear hlines
  have hnl := num_len v.toNat
  generalize num v.toNat = ns at *
  have lx : (linesI (atI x)).length ≤ 3 := by rw [linesI_length]; exact (atI_len x).2
  have ldst : (linesI (atI dst)).length ≤ 3 := by rw [linesI_length]; exact (atI_len dst).2
  obtain ⟨Sx, ex⟩ : ∃ S, S = linesI (atI x) := ⟨_, rfl⟩
  rw [← ex] at hsx lx ⊢
  have tx := strRows_all Sx
  obtain ⟨Sdst, edst⟩ : ∃ S, S = linesI (atI dst) := ⟨_, rfl⟩
  rw [← edst] at hsl ldst ⊢
  have tdst := strRows_all Sdst
  simp -implicitDefEqProofs +contextual (disch := omega) [ref25_Step.spec, ref25_Step, aloop_unroll, ref25_Step.l0, hsl, hN, num0_eq, num1_eq, hsx, tx]
  rw [List.take_of_length_le (by simp; omega)]
  simp [strRows]
set_option maxHeartbeats 2000000 in
theorem rStep_5 (v : BitVec 32) (a b : Int) (dst : Nat) (hd : dst ≤ 16000) (x : Nat) (hx : x ≤ 16000) (hv : ¬ v = 0#32) : ref25_Step.spec [.agg [.int .i64 5, .int .i64 a, .int .i64 b, W32 v], .int .i64 dst, .rsl 1 [[.int .i64 x]]] = some (.rsl 1 (strRows (linesI (stepI ⟨5, a, b, v⟩ dst [x])))) := by
  have hsl := rSlot_eq dst hd
  have hsx := rSlot_eq x hx
  obtain ⟨x0, x1, x2, x3, x4, x5, x6, x7⟩ := fixed_lines
  have hN := Num_eq v.toNat (by have := v.isLt; omega)
  have hlines : linesI (stepI ⟨5, a, b, v⟩ dst [x]) = [[109, 111, 118, 115, 32, 114, 48, 44, 32, 35, 48]] ++ (linesI (atI x) ++ [[108, 100, 114, 32, 114, 48, 44, 32, 91, 114, 55, 44, 32, 114, 54, 93]]) ++ [[108, 115, 114, 115, 32, 114, 48, 44, 32, 114, 48, 44, 32, 35] ++ num v.toNat] ++ (linesI (atI dst) ++ [[115, 116, 114, 32, 114, 48, 44, 32, 91, 114, 55, 44, 32, 114, 54, 93]]) := by
    rw [← putI_lines, ← get_lines0]
    simp only [stepI, headI, regsI, linesI_append, doesI]
    simp [linesI, x0, x1, x2, x3, x4, x5, x6, x7, lf0_line, lsr_line, mv2_line, hv]
  rw [hlines]
  clear hlines
  have hnl := num_len v.toNat
  generalize num v.toNat = ns at *
  have lx : (linesI (atI x)).length ≤ 3 := by rw [linesI_length]; exact (atI_len x).2
  have ldst : (linesI (atI dst)).length ≤ 3 := by rw [linesI_length]; exact (atI_len dst).2
  obtain ⟨Sx, ex⟩ : ∃ S, S = linesI (atI x) := ⟨_, rfl⟩
  rw [← ex] at hsx lx ⊢
  have tx := strRows_all Sx
  obtain ⟨Sdst, edst⟩ : ∃ S, S = linesI (atI dst) := ⟨_, rfl⟩
  rw [← edst] at hsl ldst ⊢
  have tdst := strRows_all Sdst
  simp -implicitDefEqProofs +contextual (disch := omega) [ref25_Step.spec, ref25_Step, aloop_unroll, ref25_Step.l0, hsl, hN, num0_eq, num1_eq, hsx, tx, hv]
  rw [List.take_of_length_le (by simp; omega)]
  simp [strRows]
set_option maxHeartbeats 2000000 in
theorem rStep_5z (a b : Int) (dst : Nat) (hd : dst ≤ 16000) (x : Nat) (hx : x ≤ 16000) : ref25_Step.spec [.agg [.int .i64 5, .int .i64 a, .int .i64 b, W32 0#32], .int .i64 dst, .rsl 1 [[.int .i64 x]]] = some (.rsl 1 (strRows (linesI (stepI ⟨5, a, b, 0#32⟩ dst [x])))) := by
  have hsl := rSlot_eq dst hd
  have hsx := rSlot_eq x hx
  obtain ⟨x0, x1, x2, x3, x4, x5, x6, x7⟩ := fixed_lines
  have hlines : linesI (stepI ⟨5, a, b, 0#32⟩ dst [x]) = [[109, 111, 118, 115, 32, 114, 48, 44, 32, 35, 48]] ++ (linesI (atI x) ++ [[108, 100, 114, 32, 114, 48, 44, 32, 91, 114, 55, 44, 32, 114, 54, 93]]) ++ [[108, 115, 108, 115, 32, 114, 48, 44, 32, 114, 48, 44, 32, 35, 48]] ++ (linesI (atI dst) ++ [[115, 116, 114, 32, 114, 48, 44, 32, 91, 114, 55, 44, 32, 114, 54, 93]]) := by
    rw [← putI_lines, ← get_lines0]
    simp only [stepI, headI, regsI, linesI_append, doesI]
    simp [linesI, x0, x1, x2, x3, x4, x5, x6, x7, lf0_line, lsr_line, mv2_line]
  rw [hlines]
  clear hlines
  have lx : (linesI (atI x)).length ≤ 3 := by rw [linesI_length]; exact (atI_len x).2
  have ldst : (linesI (atI dst)).length ≤ 3 := by rw [linesI_length]; exact (atI_len dst).2
  obtain ⟨Sx, ex⟩ : ∃ S, S = linesI (atI x) := ⟨_, rfl⟩
  rw [← ex] at hsx lx ⊢
  have tx := strRows_all Sx
  obtain ⟨Sdst, edst⟩ : ∃ S, S = linesI (atI dst) := ⟨_, rfl⟩
  rw [← edst] at hsl ldst ⊢
  have tdst := strRows_all Sdst
  simp -implicitDefEqProofs +contextual (disch := omega) [ref25_Step.spec, ref25_Step, aloop_unroll, ref25_Step.l0, hsl, num0_eq, num1_eq, hsx, tx]
  rw [List.take_of_length_le (by simp; omega)]
  simp [strRows]
set_option maxHeartbeats 2000000 in
theorem rStep_6 (v : BitVec 32) (a b : Int) (dst : Nat) (hd : dst ≤ 16000) (x : Nat) (hx : x ≤ 16000) : ref25_Step.spec [.agg [.int .i64 6, .int .i64 a, .int .i64 b, W32 v], .int .i64 dst, .rsl 1 [[.int .i64 x]]] = some (.rsl 1 (strRows (linesI (stepI ⟨6, a, b, v⟩ dst [x])))) := by
  have hsl := rSlot_eq dst hd
  have hsx := rSlot_eq x hx
  obtain ⟨x0, x1, x2, x3, x4, x5, x6, x7⟩ := fixed_lines
  have hN := Num_eq v.toNat (by have := v.isLt; omega)
  have hQ : ((32#32 - v) % 32#32).toNat = (4294967296 - v.toNat) % 32 := by rw [BitVec.toNat_umod, BitVec.toNat_sub]; simp
  obtain ⟨Q, hQ2⟩ : ∃ Q, Q = (4294967296 - v.toNat) % 32 := ⟨_, rfl⟩
  rw [← hQ2] at hQ
  have hc : ((4294967296 - v.toNat : Nat) : Int) % 32 = Q := by omega
  have hN2 := Num_eq Q (by omega)
  have hn2 := num_len Q
  have hlines : linesI (stepI ⟨6, a, b, v⟩ dst [x]) = [[109, 111, 118, 115, 32, 114, 48, 44, 32, 35, 48]] ++ (linesI (atI x) ++ [[108, 100, 114, 32, 114, 48, 44, 32, 91, 114, 55, 44, 32, 114, 54, 93]]) ++ [[109, 111, 118, 115, 32, 114, 50, 44, 32, 35] ++ num Q, [114, 111, 114, 115, 32, 114, 48, 44, 32, 114, 50]] ++ (linesI (atI dst) ++ [[115, 116, 114, 32, 114, 48, 44, 32, 91, 114, 55, 44, 32, 114, 54, 93]]) := by
    rw [← putI_lines, ← get_lines0]
    simp only [stepI, headI, regsI, linesI_append, doesI, hQ]
    simp [linesI, x0, x1, x2, x3, x4, x5, x6, x7, lf0_line, lsr_line, mv2_line]
  rw [hlines]
  clear hlines
  have hnl := num_len v.toNat
  generalize num v.toNat = ns at *
  have lx : (linesI (atI x)).length ≤ 3 := by rw [linesI_length]; exact (atI_len x).2
  have ldst : (linesI (atI dst)).length ≤ 3 := by rw [linesI_length]; exact (atI_len dst).2
  obtain ⟨Sx, ex⟩ : ∃ S, S = linesI (atI x) := ⟨_, rfl⟩
  rw [← ex] at hsx lx ⊢
  have tx := strRows_all Sx
  obtain ⟨Sdst, edst⟩ : ∃ S, S = linesI (atI dst) := ⟨_, rfl⟩
  rw [← edst] at hsl ldst ⊢
  have tdst := strRows_all Sdst
  simp -implicitDefEqProofs +contextual (disch := omega) [ref25_Step.spec, ref25_Step, aloop_unroll, ref25_Step.l0, hsl, hN, num0_eq, num1_eq, hsx, tx, hc, hN2]
  rw [List.take_of_length_le (by simp; omega)]
  simp [strRows]
set_option maxHeartbeats 2000000 in
theorem rStep_8 (v : BitVec 32) (a b : Int) (dst : Nat) (hd : dst ≤ 16000) (x : Nat) (hx : x ≤ 16000) : ref25_Step.spec [.agg [.int .i64 8, .int .i64 a, .int .i64 b, W32 v], .int .i64 dst, .rsl 1 [[.int .i64 x]]] = some (.rsl 1 (strRows (linesI (stepI ⟨8, a, b, v⟩ dst [x])))) := by
  have hsl := rSlot_eq dst hd
  have hsx := rSlot_eq x hx
  obtain ⟨x0, x1, x2, x3, x4, x5, x6, x7⟩ := fixed_lines
  have hN := Num_eq v.toNat (by have := v.isLt; omega)
  have hlines : linesI (stepI ⟨8, a, b, v⟩ dst [x]) = [[109, 111, 118, 115, 32, 114, 48, 44, 32, 35, 48]] ++ (linesI (atI x) ++ [[108, 100, 114, 32, 114, 48, 44, 32, 91, 114, 55, 44, 32, 114, 54, 93]]) ++ (linesI (atI dst) ++ [[115, 116, 114, 32, 114, 48, 44, 32, 91, 114, 55, 44, 32, 114, 54, 93]]) := by
    rw [← putI_lines, ← get_lines0]
    simp only [stepI, headI, regsI, linesI_append, doesI]
    simp [linesI, x0, x1, x2, x3, x4, x5, x6, x7, lf0_line, lsr_line, mv2_line]
  rw [hlines]
  clear hlines
  have hnl := num_len v.toNat
  generalize num v.toNat = ns at *
  have lx : (linesI (atI x)).length ≤ 3 := by rw [linesI_length]; exact (atI_len x).2
  have ldst : (linesI (atI dst)).length ≤ 3 := by rw [linesI_length]; exact (atI_len dst).2
  obtain ⟨Sx, ex⟩ : ∃ S, S = linesI (atI x) := ⟨_, rfl⟩
  rw [← ex] at hsx lx ⊢
  have tx := strRows_all Sx
  obtain ⟨Sdst, edst⟩ : ∃ S, S = linesI (atI dst) := ⟨_, rfl⟩
  rw [← edst] at hsl ldst ⊢
  have tdst := strRows_all Sdst
  simp -implicitDefEqProofs +contextual (disch := omega) [ref25_Step.spec, ref25_Step, aloop_unroll, ref25_Step.l0, hsl, hN, num0_eq, num1_eq, hsx, tx]
  rw [List.take_of_length_le (by simp; omega)]
  simp [strRows]
end Go.Abs

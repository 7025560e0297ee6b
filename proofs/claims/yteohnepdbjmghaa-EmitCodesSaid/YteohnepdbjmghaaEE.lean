import Derived.Test.YteohnepdbjmghaaED
import Derived.Test.YteohnepdbjmghaaJC
section
set_option linter.unusedSimpArgs false
set_option linter.unusedVariables false
namespace Go.Abs
open Th
theorem byteI_eq (v : BitVec 32) (j : Nat) : byteI v j = v.toNat / 2 ^ (24 - 8 * j) % 256 := by
  unfold byteI
  rw [BitVec.toNat_and, BitVec.toNat_ushiftRight, Nat.shiftRight_eq_div_pow, show (255#32).toNat = 2 ^ 8 - 1 from rfl, Nat.and_two_pow_sub_one_eq_mod]
theorem constI_1 (v : BitVec 32) (h : v.toNat < 256) : constI v = [mvI 0 (v.toNat : Nat)] := by
  have b0 : byteI v 0 = 0 := by rw [byteI_eq]; simp; omega
  have b1 : byteI v 1 = 0 := by rw [byteI_eq]; simp; omega
  have b2 : byteI v 2 = 0 := by rw [byteI_eq]; simp; omega
  have b3 : byteI v 3 = v.toNat := by rw [byteI_eq]; simp; omega
  simp [constI, constUp, b0, b1, b2, b3]
theorem constI_2 (v : BitVec 32) (d0 d1 : Nat) (h : v.toNat = d1 * 256 + d0) (h0 : d0 < 256) (h1 : 0 < d1 ∧ d1 < 256) : constI v = [mvI 0 d1, lfI 0 8, adI 0 d0] := by
  have b0 : byteI v 0 = 0 := by rw [byteI_eq]; simp; omega
  have b1 : byteI v 1 = 0 := by rw [byteI_eq]; simp; omega
  have b2 : byteI v 2 = d1 := by rw [byteI_eq]; simp; omega
  have b3 : byteI v 3 = d0 := by rw [byteI_eq]; simp; omega
  simp [constI, constUp, b0, b1, b2, b3, h1]
theorem constI_3 (v : BitVec 32) (d0 d1 d2 : Nat) (h : v.toNat = d2 * 65536 + d1 * 256 + d0) (h0 : d0 < 256) (h1 : d1 < 256) (h2 : 0 < d2 ∧ d2 < 256) : constI v = [mvI 0 d2, lfI 0 8, adI 0 d1, lfI 0 8, adI 0 d0] := by
  have b0 : byteI v 0 = 0 := by rw [byteI_eq]; simp; omega
  have b1 : byteI v 1 = d2 := by rw [byteI_eq]; simp; omega
  have b2 : byteI v 2 = d1 := by rw [byteI_eq]; simp; omega
  have b3 : byteI v 3 = d0 := by rw [byteI_eq]; simp; omega
  simp [constI, constUp, b0, b1, b2, b3, h2]
theorem constI_4 (v : BitVec 32) (d0 d1 d2 d3 : Nat) (h : v.toNat = d3 * 16777216 + d2 * 65536 + d1 * 256 + d0) (h0 : d0 < 256) (h1 : d1 < 256) (h2 : d2 < 256) (h3 : 0 < d3 ∧ d3 < 256) : constI v = [mvI 0 d3, lfI 0 8, adI 0 d2, lfI 0 8, adI 0 d1, lfI 0 8, adI 0 d0] := by
  have b0 : byteI v 0 = d3 := by rw [byteI_eq]; simp; omega
  have b1 : byteI v 1 = d2 := by rw [byteI_eq]; simp; omega
  have b2 : byteI v 2 = d1 := by rw [byteI_eq]; simp; omega
  have b3 : byteI v 3 = d0 := by rw [byteI_eq]; simp; omega
  simp [constI, constUp, b0, b1, b2, b3, h3]
theorem mv0_line (n : Nat) : showI (mvI 0 n) = [109, 111, 118, 115, 32, 114, 48, 44, 32, 35] ++ num n := by
  obtain ⟨n0, n1, n2, n5, n6, n7, n8, n24, n32, n64⟩ := num_small
  simp only [showI, mvI, regT, immT, csT, if_true, Int.toNat_natCast]
  simp [n0]
theorem ad0_line (n : Nat) : showI (adI 0 n) = [97, 100, 100, 115, 32, 114, 48, 44, 32, 35] ++ num n := by
  obtain ⟨n0, n1, n2, n5, n6, n7, n8, n24, n32, n64⟩ := num_small
  simp only [showI, adI, regT, immT, csT, if_true, Int.toNat_natCast]
  simp [n0]
theorem lf08_line : showI (lfI 0 8) = [108, 115, 108, 115, 32, 114, 48, 44, 32, 114, 48, 44, 32, 35, 56] := by decide +kernel
theorem putI_lines (n : Nat) : linesI (putI n) = linesI (atI n) ++ [[115, 116, 114, 32, 114, 48, 44, 32, 91, 114, 55, 44, 32, 114, 54, 93]] := by
  rw [putI, linesI_append]
  congr 1
theorem getI_lines (r n : Nat) (hr : r ≤ 7) : linesI (getI r n) = linesI (atI n) ++ [[108, 100, 114, 32, 114] ++ num r ++ [44, 32, 91, 114, 55, 44, 32, 114, 54, 93]] := by
  obtain ⟨n0, n1, n2, n5, n6, n7, n8, n24, n32, n64⟩ := num_small
  rw [getI, linesI_append]
  congr 1
  simp only [linesI, List.map_cons, List.map_nil, showI, regT, csT, Int.toNat_natCast]
  simp [n6, n7]
set_option maxHeartbeats 4000000 in
theorem rStep_7 (v : BitVec 32) (a b : Int) (dst : Nat) (hd : dst ≤ 16000) : ref25_Step.spec [.agg [.int .i64 7, .int .i64 a, .int .i64 b, W32 v], .int .i64 dst, .rsl 1 []] = some (.rsl 1 (strRows (linesI (stepI ⟨7, a, b, v⟩ dst [])))) := by
  have hsl := rSlot_eq dst hd
  have hN := Num_eq v.toNat (by have := v.isLt; omega)
  have hlines : linesI (stepI ⟨7, a, b, v⟩ dst []) = [[109, 111, 118, 115, 32, 114, 48, 44, 32, 35, 48]] ++ linesI (constI v) ++ (linesI (atI dst) ++ [[115, 116, 114, 32, 114, 48, 44, 32, 91, 114, 55, 44, 32, 114, 54, 93]]) := by
    obtain ⟨n0, n1, n2, n5, n6, n7, n8, n24, n32, n64⟩ := num_small
    rw [← putI_lines]
    simp only [stepI, headI, regsI, linesI_append, doesI]
    have := mv0_line 0
    simp only [Int.natCast_zero] at this
    simp [linesI, this, n0]
  rw [hlines]
  have hsll : (linesI (atI dst)).length ≤ 3 := by rw [linesI_length]; exact (atI_len dst).2
  generalize linesI (atI dst) = S at *
  have hSl := strRows_all S
  have hnl := num_len v.toNat
  generalize hNs : num v.toNat = ns at *
  have hlt := v.isLt
  by_cases c1 : v.toNat < 256
  · rw [constI_1 v c1]
    have hL : linesI [mvI 0 (v.toNat : Nat)] = [[109, 111, 118, 115, 32, 114, 48, 44, 32, 35] ++ ns] := by simp only [linesI, List.map_cons, List.map_nil, mv0_line, hNs]
    rw [hL]
    have e0 : (v.toNat : Int) % 256 = v.toNat := by omega
    have q0 : (v.toNat : Int) / 256 = 0 := by omega
    by_cases hp : 0 < v.toNat
    · have hp' : (0 : Int) < v.toNat := by omega
      simp -implicitDefEqProofs +contextual (disch := omega) [ref25_Step.spec, ref25_Step, aloop_unroll, ref25_Step.l0, ref25_Step.l1, ref25_Step.l2, hsl, hN, e0, q0, hp']
      rw [List.take_of_length_le (by simp; omega)]; simp [strRows]
    · have hz : (v.toNat : Int) = 0 := by omega
      rw [hz] at hN
      simp -implicitDefEqProofs +contextual (disch := omega) [ref25_Step.spec, ref25_Step, aloop_unroll, ref25_Step.l0, ref25_Step.l1, ref25_Step.l2, hsl, hN, hz]
      rw [List.take_of_length_le (by simp; omega)]; simp [strRows]
  · by_cases c2 : v.toNat < 65536
    · obtain ⟨d0, hd0⟩ : ∃ d : Nat, d = v.toNat / 1 % 256 := ⟨_, rfl⟩
      obtain ⟨d1, hd1⟩ : ∃ d : Nat, d = v.toNat / 256 % 256 := ⟨_, rfl⟩
      have hv : v.toNat = d1 * 256 + d0 := by omega
      rw [constI_2 v d0 d1 hv (by omega) (by omega)]
      have f0 := Num_eq d0 (by omega)
      have g0 := num_len d0
      have f1 := Num_eq d1 (by omega)
      have g1 := num_len d1
      have hL : linesI [mvI 0 d1, lfI 0 8, adI 0 d0] = [[109, 111, 118, 115, 32, 114, 48, 44, 32, 35] ++ num d1, [108, 115, 108, 115, 32, 114, 48, 44, 32, 114, 48, 44, 32, 35, 56], [97, 100, 100, 115, 32, 114, 48, 44, 32, 35] ++ num d0] := by simp only [linesI, List.map_cons, List.map_nil, mv0_line, ad0_line, lf08_line]
      rw [hL]
      have p0 : (0 : Int) < v.toNat := by omega
      have e0 : (v.toNat : Int) % 256 = d0 := by omega
      have q0 : (v.toNat : Int) / 256 = d1 := by omega
      have p1 : (0 : Int) < d1 := by omega
      have e1 : (d1 : Int) % 256 = d1 := by omega
      have q1 : (d1 : Int) / 256 = 0 := by omega
      generalize num d0 = t0 at *
      generalize num d1 = t1 at *
      simp -implicitDefEqProofs +contextual (disch := omega) [ref25_Step.spec, ref25_Step, aloop_unroll, ref25_Step.l0, ref25_Step.l1, ref25_Step.l2, hsl, hN, p0, e0, q0, f0, p1, e1, q1, f1]
      rw [List.take_of_length_le (by simp; omega)]; simp [strRows]
    · by_cases c3 : v.toNat < 16777216
      · obtain ⟨d0, hd0⟩ : ∃ d : Nat, d = v.toNat / 1 % 256 := ⟨_, rfl⟩
        obtain ⟨d1, hd1⟩ : ∃ d : Nat, d = v.toNat / 256 % 256 := ⟨_, rfl⟩
        obtain ⟨d2, hd2⟩ : ∃ d : Nat, d = v.toNat / 65536 % 256 := ⟨_, rfl⟩
        obtain ⟨m1, hm1⟩ : ∃ m : Nat, m = v.toNat / 256 := ⟨_, rfl⟩
        have hv : v.toNat = d2 * 65536 + d1 * 256 + d0 := by omega
        rw [constI_3 v d0 d1 d2 hv (by omega) (by omega) (by omega)]
        have f0 := Num_eq d0 (by omega)
        have g0 := num_len d0
        have f1 := Num_eq d1 (by omega)
        have g1 := num_len d1
        have f2 := Num_eq d2 (by omega)
        have g2 := num_len d2
        have hL : linesI [mvI 0 d2, lfI 0 8, adI 0 d1, lfI 0 8, adI 0 d0] = [[109, 111, 118, 115, 32, 114, 48, 44, 32, 35] ++ num d2, [108, 115, 108, 115, 32, 114, 48, 44, 32, 114, 48, 44, 32, 35, 56], [97, 100, 100, 115, 32, 114, 48, 44, 32, 35] ++ num d1, [108, 115, 108, 115, 32, 114, 48, 44, 32, 114, 48, 44, 32, 35, 56], [97, 100, 100, 115, 32, 114, 48, 44, 32, 35] ++ num d0] := by simp only [linesI, List.map_cons, List.map_nil, mv0_line, ad0_line, lf08_line]
        rw [hL]
        have p0 : (0 : Int) < v.toNat := by omega
        have e0 : (v.toNat : Int) % 256 = d0 := by omega
        have q0 : (v.toNat : Int) / 256 = m1 := by omega
        have p1 : (0 : Int) < m1 := by omega
        have e1 : (m1 : Int) % 256 = d1 := by omega
        have q1 : (m1 : Int) / 256 = d2 := by omega
        have p2 : (0 : Int) < d2 := by omega
        have e2 : (d2 : Int) % 256 = d2 := by omega
        have q2 : (d2 : Int) / 256 = 0 := by omega
        generalize num d0 = t0 at *
        generalize num d1 = t1 at *
        generalize num d2 = t2 at *
        simp -implicitDefEqProofs +contextual (disch := omega) [ref25_Step.spec, ref25_Step, aloop_unroll, ref25_Step.l0, ref25_Step.l1, ref25_Step.l2, hsl, hN, p0, e0, q0, f0, p1, e1, q1, f1, p2, e2, q2, f2]
        rw [List.take_of_length_le (by simp; omega)]; simp [strRows]
      · obtain ⟨d0, hd0⟩ : ∃ d : Nat, d = v.toNat / 1 % 256 := ⟨_, rfl⟩
        obtain ⟨d1, hd1⟩ : ∃ d : Nat, d = v.toNat / 256 % 256 := ⟨_, rfl⟩
        obtain ⟨d2, hd2⟩ : ∃ d : Nat, d = v.toNat / 65536 % 256 := ⟨_, rfl⟩
        obtain ⟨d3, hd3⟩ : ∃ d : Nat, d = v.toNat / 16777216 % 256 := ⟨_, rfl⟩
        obtain ⟨m1, hm1⟩ : ∃ m : Nat, m = v.toNat / 256 := ⟨_, rfl⟩
        obtain ⟨m2, hm2⟩ : ∃ m : Nat, m = v.toNat / 65536 := ⟨_, rfl⟩
        have hv : v.toNat = d3 * 16777216 + d2 * 65536 + d1 * 256 + d0 := by omega
        rw [constI_4 v d0 d1 d2 d3 hv (by omega) (by omega) (by omega) (by omega)]
        have f0 := Num_eq d0 (by omega)
        have g0 := num_len d0
        have f1 := Num_eq d1 (by omega)
        have g1 := num_len d1
        have f2 := Num_eq d2 (by omega)
        have g2 := num_len d2
        have f3 := Num_eq d3 (by omega)
        have g3 := num_len d3
        have hL : linesI [mvI 0 d3, lfI 0 8, adI 0 d2, lfI 0 8, adI 0 d1, lfI 0 8, adI 0 d0] = [[109, 111, 118, 115, 32, 114, 48, 44, 32, 35] ++ num d3, [108, 115, 108, 115, 32, 114, 48, 44, 32, 114, 48, 44, 32, 35, 56], [97, 100, 100, 115, 32, 114, 48, 44, 32, 35] ++ num d2, [108, 115, 108, 115, 32, 114, 48, 44, 32, 114, 48, 44, 32, 35, 56], [97, 100, 100, 115, 32, 114, 48, 44, 32, 35] ++ num d1, [108, 115, 108, 115, 32, 114, 48, 44, 32, 114, 48, 44, 32, 35, 56], [97, 100, 100, 115, 32, 114, 48, 44, 32, 35] ++ num d0] := by simp only [linesI, List.map_cons, List.map_nil, mv0_line, ad0_line, lf08_line]
        rw [hL]
        have p0 : (0 : Int) < v.toNat := by omega
        have e0 : (v.toNat : Int) % 256 = d0 := by omega
        have q0 : (v.toNat : Int) / 256 = m1 := by omega
        have p1 : (0 : Int) < m1 := by omega
        have e1 : (m1 : Int) % 256 = d1 := by omega
        have q1 : (m1 : Int) / 256 = m2 := by omega
        have p2 : (0 : Int) < m2 := by omega
        have e2 : (m2 : Int) % 256 = d2 := by omega
        have q2 : (m2 : Int) / 256 = d3 := by omega
        have p3 : (0 : Int) < d3 := by omega
        have e3 : (d3 : Int) % 256 = d3 := by omega
        have q3 : (d3 : Int) / 256 = 0 := by omega
        generalize num d0 = t0 at *
        generalize num d1 = t1 at *
        generalize num d2 = t2 at *
        generalize num d3 = t3 at *
        simp -implicitDefEqProofs +contextual (disch := omega) [ref25_Step.spec, ref25_Step, aloop_unroll, ref25_Step.l0, ref25_Step.l1, ref25_Step.l2, hsl, hN, p0, e0, q0, f0, p1, e1, q1, f1, p2, e2, q2, f2, p3, e3, q3, f3]
        rw [List.take_of_length_le (by simp; omega)]; simp [strRows]
end Go.Abs
end
section
set_option linter.unusedSimpArgs false
set_option linter.unusedVariables false
namespace Go.Abs
open Th
theorem num0_eq : ref04_Num.spec [.int .i64 0] = some (.str (bs [48])) := Num_eq 0 (by decide)
theorem num1_eq : ref04_Num.spec [.int .i64 1] = some (.str (bs [49])) := Num_eq 1 (by decide)
theorem lf0_line (n : Nat) : showI (lfI 0 n) = [108, 115, 108, 115, 32, 114, 48, 44, 32, 114, 48, 44, 32, 35] ++ num n := by
  obtain ⟨n0, n1, n2, n5, n6, n7, n8, n24, n32, n64⟩ := num_small
  simp only [showI, lfI, regT, immT, csT, if_true, Int.toNat_natCast]
  simp [n0]
theorem lsr_line (n : Nat) : showI ⟨5, 0, 0, 0, n⟩ = [108, 115, 114, 115, 32, 114, 48, 44, 32, 114, 48, 44, 32, 35] ++ num n := by
  obtain ⟨n0, n1, n2, n5, n6, n7, n8, n24, n32, n64⟩ := num_small
  simp only [showI, regT, immT, csT, Int.toNat_natCast]
  simp [n0]
theorem mv2_line (n : Nat) : showI (mvI 2 n) = [109, 111, 118, 115, 32, 114, 50, 44, 32, 35] ++ num n := by
  obtain ⟨n0, n1, n2, n5, n6, n7, n8, n24, n32, n64⟩ := num_small
  simp only [showI, mvI, regT, immT, csT, if_true, Int.toNat_natCast]
  simp [n2]
theorem fixed_lines : showI (mvI 0 0) = [109, 111, 118, 115, 32, 114, 48, 44, 32, 35, 48] ∧ showI (mvI 1 0) = [109, 111, 118, 115, 32, 114, 49, 44, 32, 35, 48] ∧ showI (alI 0 0 1) = [97, 110, 100, 115, 32, 114, 48, 44, 32, 114, 49] ∧ showI (alI 1 0 1) = [101, 111, 114, 115, 32, 114, 48, 44, 32, 114, 49] ∧
    showI (alI 15 0 0) = [109, 118, 110, 115, 32, 114, 48, 44, 32, 114, 48] ∧ showI (alI 7 0 2) = [114, 111, 114, 115, 32, 114, 48, 44, 32, 114, 50] ∧ showI ⟨12, 0, 5, 0, 0⟩ = [108, 100, 114, 32, 114, 48, 44, 32, 91, 114, 53, 44, 32, 35, 48, 93] ∧ showI (lfI 0 0) = [108, 115, 108, 115, 32, 114, 48, 44, 32, 114, 48, 44, 32, 35, 48] := by decide +kernel
theorem get_lines0 (n : Nat) : linesI (getI 0 n) = linesI (atI n) ++ [[108, 100, 114, 32, 114, 48, 44, 32, 91, 114, 55, 44, 32, 114, 54, 93]] := by
  have := getI_lines 0 n (by decide)
  simpa [num_small.1] using this
theorem get_lines1 (n : Nat) : linesI (getI 1 n) = linesI (atI n) ++ [[108, 100, 114, 32, 114, 49, 44, 32, 91, 114, 55, 44, 32, 114, 54, 93]] := by
  have := getI_lines 1 n (by decide)
  simpa [num_small.2.1] using this
set_option maxHeartbeats 2000000 in
theorem rStep_0 (v : BitVec 32) (a b : Int) (dst : Nat) (hd : dst ≤ 16000) : ref25_Step.spec [.agg [.int .i64 0, .int .i64 a, .int .i64 b, W32 v], .int .i64 dst, .rsl 1 []] = some (.rsl 1 (strRows (linesI (stepI ⟨0, a, b, v⟩ dst [])))) := by
  have hsl := rSlot_eq dst hd
  obtain ⟨x0, x1, x2, x3, x4, x5, x6, x7⟩ := fixed_lines
  have hN := Num_eq v.toNat (by have := v.isLt; omega)
  have hlines : linesI (stepI ⟨0, a, b, v⟩ dst []) = [[109, 111, 118, 115, 32, 114, 48, 44, 32, 35, 48]] ++ [[108, 100, 114, 32, 114, 48, 44, 32, 91, 114, 53, 44, 32, 35, 48, 93]] ++ (linesI (atI dst) ++ [[115, 116, 114, 32, 114, 48, 44, 32, 91, 114, 55, 44, 32, 114, 54, 93]]) := by
    rw [← putI_lines]
    simp only [stepI, headI, regsI, linesI_append, doesI]
    simp [linesI, x0, x1, x2, x3, x4, x5, x6, x7, lf0_line, lsr_line, mv2_line]
  rw [hlines]
  clear hlines
  have hnl := num_len v.toNat
  generalize num v.toNat = ns at *
  have ldst : (linesI (atI dst)).length ≤ 3 := by rw [linesI_length]; exact (atI_len dst).2
  obtain ⟨Sdst, edst⟩ : ∃ S, S = linesI (atI dst) := ⟨_, rfl⟩
  rw [← edst] at hsl ldst ⊢
  have tdst := strRows_all Sdst
  simp -implicitDefEqProofs +contextual (disch := omega) [ref25_Step.spec, ref25_Step, aloop_unroll, ref25_Step.l0, hsl, hN, num0_eq, num1_eq]
  rw [List.take_of_length_le (by simp; omega)]
  simp [strRows]
set_option maxHeartbeats 2000000 in
theorem rStep_1 (v : BitVec 32) (a b : Int) (dst : Nat) (hd : dst ≤ 16000) (x : Nat) (y : Nat) (hx : x ≤ 16000) (hy : y ≤ 16000) : ref25_Step.spec [.agg [.int .i64 1, .int .i64 a, .int .i64 b, W32 v], .int .i64 dst, .rsl 1 [[.int .i64 x], [.int .i64 y]]] = some (.rsl 1 (strRows (linesI (stepI ⟨1, a, b, v⟩ dst [x, y])))) := by
  have hsl := rSlot_eq dst hd
  have hsx := rSlot_eq x hx
  have hsy := rSlot_eq y hy
  obtain ⟨x0, x1, x2, x3, x4, x5, x6, x7⟩ := fixed_lines
  have hN := Num_eq v.toNat (by have := v.isLt; omega)
  have hlines : linesI (stepI ⟨1, a, b, v⟩ dst [x, y]) = [[109, 111, 118, 115, 32, 114, 48, 44, 32, 35, 48]] ++ [[109, 111, 118, 115, 32, 114, 49, 44, 32, 35, 48]] ++ (linesI (atI x) ++ [[108, 100, 114, 32, 114, 48, 44, 32, 91, 114, 55, 44, 32, 114, 54, 93]]) ++ (linesI (atI y) ++ [[108, 100, 114, 32, 114, 49, 44, 32, 91, 114, 55, 44, 32, 114, 54, 93]]) ++ [[97, 110, 100, 115, 32, 114, 48, 44, 32, 114, 49]] ++ (linesI (atI dst) ++ [[115, 116, 114, 32, 114, 48, 44, 32, 91, 114, 55, 44, 32, 114, 54, 93]]) := by
    rw [← putI_lines, ← get_lines0, ← get_lines1]
    simp only [stepI, headI, regsI, linesI_append, doesI]
    simp [linesI, x0, x1, x2, x3, x4, x5, x6, x7, lf0_line, lsr_line, mv2_line]
  rw [hlines]
  clear hlines
  have hnl := num_len v.toNat
  generalize num v.toNat = ns at *
  have lx : (linesI (atI x)).length ≤ 3 := by rw [linesI_length]; exact (atI_len x).2
  have ly : (linesI (atI y)).length ≤ 3 := by rw [linesI_length]; exact (atI_len y).2
  have ldst : (linesI (atI dst)).length ≤ 3 := by rw [linesI_length]; exact (atI_len dst).2
  obtain ⟨Sx, ex⟩ : ∃ S, S = linesI (atI x) := ⟨_, rfl⟩
  rw [← ex] at hsx lx ⊢
  have tx := strRows_all Sx
  obtain ⟨Sy, ey⟩ : ∃ S, S = linesI (atI y) := ⟨_, rfl⟩
  rw [← ey] at hsy ly ⊢
  have ty := strRows_all Sy
  obtain ⟨Sdst, edst⟩ : ∃ S, S = linesI (atI dst) := ⟨_, rfl⟩
  rw [← edst] at hsl ldst ⊢
  have tdst := strRows_all Sdst
  simp -implicitDefEqProofs +contextual (disch := omega) [ref25_Step.spec, ref25_Step, aloop_unroll, ref25_Step.l0, hsl, hN, num0_eq, num1_eq, hsx, tx, hsy, ty]
  rw [List.take_of_length_le (by simp; omega)]
  simp [strRows]
set_option maxHeartbeats 2000000 in
theorem rStep_2 (v : BitVec 32) (a b : Int) (dst : Nat) (hd : dst ≤ 16000) (x : Nat) (y : Nat) (hx : x ≤ 16000) (hy : y ≤ 16000) : ref25_Step.spec [.agg [.int .i64 2, .int .i64 a, .int .i64 b, W32 v], .int .i64 dst, .rsl 1 [[.int .i64 x], [.int .i64 y]]] = some (.rsl 1 (strRows (linesI (stepI ⟨2, a, b, v⟩ dst [x, y])))) := by
  have hsl := rSlot_eq dst hd
  have hsx := rSlot_eq x hx
  have hsy := rSlot_eq y hy
  obtain ⟨x0, x1, x2, x3, x4, x5, x6, x7⟩ := fixed_lines
  have hN := Num_eq v.toNat (by have := v.isLt; omega)
  have hlines : linesI (stepI ⟨2, a, b, v⟩ dst [x, y]) = [[109, 111, 118, 115, 32, 114, 48, 44, 32, 35, 48]] ++ [[109, 111, 118, 115, 32, 114, 49, 44, 32, 35, 48]] ++ (linesI (atI x) ++ [[108, 100, 114, 32, 114, 48, 44, 32, 91, 114, 55, 44, 32, 114, 54, 93]]) ++ (linesI (atI y) ++ [[108, 100, 114, 32, 114, 49, 44, 32, 91, 114, 55, 44, 32, 114, 54, 93]]) ++ [[101, 111, 114, 115, 32, 114, 48, 44, 32, 114, 49]] ++ (linesI (atI dst) ++ [[115, 116, 114, 32, 114, 48, 44, 32, 91, 114, 55, 44, 32, 114, 54, 93]]) := by
    rw [← putI_lines, ← get_lines0, ← get_lines1]
    simp only [stepI, headI, regsI, linesI_append, doesI]
    simp [linesI, x0, x1, x2, x3, x4, x5, x6, x7, lf0_line, lsr_line, mv2_line]
  rw [hlines]
  clear hlines
  have hnl := num_len v.toNat
  generalize num v.toNat = ns at *
  have lx : (linesI (atI x)).length ≤ 3 := by rw [linesI_length]; exact (atI_len x).2
  have ly : (linesI (atI y)).length ≤ 3 := by rw [linesI_length]; exact (atI_len y).2
  have ldst : (linesI (atI dst)).length ≤ 3 := by rw [linesI_length]; exact (atI_len dst).2
  obtain ⟨Sx, ex⟩ : ∃ S, S = linesI (atI x) := ⟨_, rfl⟩
  rw [← ex] at hsx lx ⊢
  have tx := strRows_all Sx
  obtain ⟨Sy, ey⟩ : ∃ S, S = linesI (atI y) := ⟨_, rfl⟩
  rw [← ey] at hsy ly ⊢
  have ty := strRows_all Sy
  obtain ⟨Sdst, edst⟩ : ∃ S, S = linesI (atI dst) := ⟨_, rfl⟩
  rw [← edst] at hsl ldst ⊢
  have tdst := strRows_all Sdst
  simp -implicitDefEqProofs +contextual (disch := omega) [ref25_Step.spec, ref25_Step, aloop_unroll, ref25_Step.l0, hsl, hN, num0_eq, num1_eq, hsx, tx, hsy, ty]
  rw [List.take_of_length_le (by simp; omega)]
  simp [strRows]
set_option maxHeartbeats 2000000 in
theorem rStep_3 (v : BitVec 32) (a b : Int) (dst : Nat) (hd : dst ≤ 16000) (x : Nat) (hx : x ≤ 16000) : ref25_Step.spec [.agg [.int .i64 3, .int .i64 a, .int .i64 b, W32 v], .int .i64 dst, .rsl 1 [[.int .i64 x]]] = some (.rsl 1 (strRows (linesI (stepI ⟨3, a, b, v⟩ dst [x])))) := by
  have hsl := rSlot_eq dst hd
  have hsx := rSlot_eq x hx
  obtain ⟨x0, x1, x2, x3, x4, x5, x6, x7⟩ := fixed_lines
  have hN := Num_eq v.toNat (by have := v.isLt; omega)
  have hlines : linesI (stepI ⟨3, a, b, v⟩ dst [x]) = [[109, 111, 118, 115, 32, 114, 48, 44, 32, 35, 48]] ++ (linesI (atI x) ++ [[108, 100, 114, 32, 114, 48, 44, 32, 91, 114, 55, 44, 32, 114, 54, 93]]) ++ [[109, 118, 110, 115, 32, 114, 48, 44, 32, 114, 48]] ++ (linesI (atI dst) ++ [[115, 116, 114, 32, 114, 48, 44, 32, 91, 114, 55, 44, 32, 114, 54, 93]]) := by
    rw [← putI_lines, ← get_lines0]
    simp only [stepI, headI, regsI, linesI_append, doesI]
    simp [linesI, x0, x1, x2, x3, x4, x5, x6, x7, lf0_line, lsr_line, mv2_line]
  rw [hlines]
  clear hlines
  have hnl := num_len v.toNat
  generalize num v.toNat = ns at *
  have lx : (linesI (atI x)).length ≤ 3 := by rw [linesI_length]; exact (atI_len x).2
  have ldst : (linesI (atI dst)).length ≤ 3 := by rw [linesI_length]; exact (atI_len dst).2
  obtain ⟨Sx, ex⟩ : ∃ S, S = linesI (atI x) := ⟨_, rfl⟩
  rw [← ex] at hsx lx ⊢
  have tx := strRows_all Sx
  obtain ⟨Sdst, edst⟩ : ∃ S, S = linesI (atI dst) := ⟨_, rfl⟩
  rw [← edst] at hsl ldst ⊢
  have tdst := strRows_all Sdst
  simp -implicitDefEqProofs +contextual (disch := omega) [ref25_Step.spec, ref25_Step, aloop_unroll, ref25_Step.l0, hsl, hN, num0_eq, num1_eq, hsx, tx]
  rw [List.take_of_length_le (by simp; omega)]
  simp [strRows]
set_option maxHeartbeats 2000000 in
theorem rStep_4 (v : BitVec 32) (a b : Int) (dst : Nat) (hd : dst ≤ 16000) (x : Nat) (hx : x ≤ 16000) : ref25_Step.spec [.agg [.int .i64 4, .int .i64 a, .int .i64 b, W32 v], .int .i64 dst, .rsl 1 [[.int .i64 x]]] = some (.rsl 1 (strRows (linesI (stepI ⟨4, a, b, v⟩ dst [x])))) := by
  have hsl := rSlot_eq dst hd
  have hsx := rSlot_eq x hx
  obtain ⟨x0, x1, x2, x3, x4, x5, x6, x7⟩ := fixed_lines
  have hN := Num_eq v.toNat (by have := v.isLt; omega)
  have hlines : linesI (stepI ⟨4, a, b, v⟩ dst [x]) = [[109, 111, 118, 115, 32, 114, 48, 44, 32, 35, 48]] ++ (linesI (atI x) ++ [[108, 100, 114, 32, 114, 48, 44, 32, 91, 114, 55, 44, 32, 114, 54, 93]]) ++ [[108, 115, 108, 115, 32, 114, 48, 44, 32, 114, 48, 44, 32, 35] ++ num v.toNat] ++ (linesI (atI dst) ++ [[115, 116, 114, 32, 114, 48, 44, 32, 91, 114, 55, 44, 32, 114, 54, 93]]) := by
    rw [← putI_lines, ← get_lines0]
    simp only [stepI, headI, regsI, linesI_append, doesI]
    simp [linesI, x0, x1, x2, x3, x4, x5, x6, x7, lf0_line, lsr_line, mv2_line]
  rw [hlines]
  clear hlines
  have hnl := num_len v.toNat
  generalize num v.toNat = ns at *
  have lx : (linesI (atI x)).length ≤ 3 := by rw [linesI_length]; exact (atI_len x).2
  have ldst : (linesI (atI dst)).length ≤ 3 := by rw [linesI_length]; exact (atI_len dst).2
  obtain ⟨Sx, ex⟩ : ∃ S, S = linesI (atI x) := ⟨_, rfl⟩
  rw [← ex] at hsx lx ⊢
  have tx := strRows_all Sx
  obtain ⟨Sdst, edst⟩ : ∃ S, S = linesI (atI dst) := ⟨_, rfl⟩
  rw [← edst] at hsl ldst ⊢
  have tdst := strRows_all Sdst
  simp -implicitDefEqProofs +contextual (disch := omega) [ref25_Step.spec, ref25_Step, aloop_unroll, ref25_Step.l0, hsl, hN, num0_eq, num1_eq, hsx, tx]
  rw [List.take_of_length_le (by simp; omega)]
  simp [strRows]
set_option maxHeartbeats 2000000 in
theorem rStep_5 (v : BitVec 32) (a b : Int) (dst : Nat) (hd : dst ≤ 16000) (x : Nat) (hx : x ≤ 16000) (hv : ¬ v = 0#32) : ref25_Step.spec [.agg [.int .i64 5, .int .i64 a, .int .i64 b, W32 v], .int .i64 dst, .rsl 1 [[.int .i64 x]]] = some (.rsl 1 (strRows (linesI (stepI ⟨5, a, b, v⟩ dst [x])))) := by
  have hsl := rSlot_eq dst hd
  have hsx := rSlot_eq x hx
  obtain ⟨x0, x1, x2, x3, x4, x5, x6, x7⟩ := fixed_lines
  have hN := Num_eq v.toNat (by have := v.isLt; omega)
  have hlines : linesI (stepI ⟨5, a, b, v⟩ dst [x]) = [[109, 111, 118, 115, 32, 114, 48, 44, 32, 35, 48]] ++ (linesI (atI x) ++ [[108, 100, 114, 32, 114, 48, 44, 32, 91, 114, 55, 44, 32, 114, 54, 93]]) ++ [[108, 115, 114, 115, 32, 114, 48, 44, 32, 114, 48, 44, 32, 35] ++ num v.toNat] ++ (linesI (atI dst) ++ [[115, 116, 114, 32, 114, 48, 44, 32, 91, 114, 55, 44, 32, 114, 54, 93]]) := by
    rw [← putI_lines, ← get_lines0]
    simp only [stepI, headI, regsI, linesI_append, doesI]
    simp [linesI, x0, x1, x2, x3, x4, x5, x6, x7, lf0_line, lsr_line, mv2_line, hv]
  rw [hlines]
  clear hlines
  have hnl := num_len v.toNat
  generalize num v.toNat = ns at *
  have lx : (linesI (atI x)).length ≤ 3 := by rw [linesI_length]; exact (atI_len x).2
  have ldst : (linesI (atI dst)).length ≤ 3 := by rw [linesI_length]; exact (atI_len dst).2
  obtain ⟨Sx, ex⟩ : ∃ S, S = linesI (atI x) := ⟨_, rfl⟩
  rw [← ex] at hsx lx ⊢
  have tx := strRows_all Sx
  obtain ⟨Sdst, edst⟩ : ∃ S, S = linesI (atI dst) := ⟨_, rfl⟩
  rw [← edst] at hsl ldst ⊢
  have tdst := strRows_all Sdst
  simp -implicitDefEqProofs +contextual (disch := omega) [ref25_Step.spec, ref25_Step, aloop_unroll, ref25_Step.l0, hsl, hN, num0_eq, num1_eq, hsx, tx, hv]
  rw [List.take_of_length_le (by simp; omega)]
  simp [strRows]
set_option maxHeartbeats 2000000 in
theorem rStep_5z (a b : Int) (dst : Nat) (hd : dst ≤ 16000) (x : Nat) (hx : x ≤ 16000) : ref25_Step.spec [.agg [.int .i64 5, .int .i64 a, .int .i64 b, W32 0#32], .int .i64 dst, .rsl 1 [[.int .i64 x]]] = some (.rsl 1 (strRows (linesI (stepI ⟨5, a, b, 0#32⟩ dst [x])))) := by
  have hsl := rSlot_eq dst hd
  have hsx := rSlot_eq x hx
  obtain ⟨x0, x1, x2, x3, x4, x5, x6, x7⟩ := fixed_lines
  have hlines : linesI (stepI ⟨5, a, b, 0#32⟩ dst [x]) = [[109, 111, 118, 115, 32, 114, 48, 44, 32, 35, 48]] ++ (linesI (atI x) ++ [[108, 100, 114, 32, 114, 48, 44, 32, 91, 114, 55, 44, 32, 114, 54, 93]]) ++ [[108, 115, 108, 115, 32, 114, 48, 44, 32, 114, 48, 44, 32, 35, 48]] ++ (linesI (atI dst) ++ [[115, 116, 114, 32, 114, 48, 44, 32, 91, 114, 55, 44, 32, 114, 54, 93]]) := by
    rw [← putI_lines, ← get_lines0]
    simp only [stepI, headI, regsI, linesI_append, doesI]
    simp [linesI, x0, x1, x2, x3, x4, x5, x6, x7, lf0_line, lsr_line, mv2_line]
  rw [hlines]
  clear hlines
  have lx : (linesI (atI x)).length ≤ 3 := by rw [linesI_length]; exact (atI_len x).2
  have ldst : (linesI (atI dst)).length ≤ 3 := by rw [linesI_length]; exact (atI_len dst).2
  obtain ⟨Sx, ex⟩ : ∃ S, S = linesI (atI x) := ⟨_, rfl⟩
  rw [← ex] at hsx lx ⊢
  have tx := strRows_all Sx
  obtain ⟨Sdst, edst⟩ : ∃ S, S = linesI (atI dst) := ⟨_, rfl⟩
  rw [← edst] at hsl ldst ⊢
  have tdst := strRows_all Sdst
  simp -implicitDefEqProofs +contextual (disch := omega) [ref25_Step.spec, ref25_Step, aloop_unroll, ref25_Step.l0, hsl, num0_eq, num1_eq, hsx, tx]
  rw [List.take_of_length_le (by simp; omega)]
  simp [strRows]
set_option maxHeartbeats 2000000 in
theorem rStep_6 (v : BitVec 32) (a b : Int) (dst : Nat) (hd : dst ≤ 16000) (x : Nat) (hx : x ≤ 16000) : ref25_Step.spec [.agg [.int .i64 6, .int .i64 a, .int .i64 b, W32 v], .int .i64 dst, .rsl 1 [[.int .i64 x]]] = some (.rsl 1 (strRows (linesI (stepI ⟨6, a, b, v⟩ dst [x])))) := by
  have hsl := rSlot_eq dst hd
  have hsx := rSlot_eq x hx
  obtain ⟨x0, x1, x2, x3, x4, x5, x6, x7⟩ := fixed_lines
  have hN := Num_eq v.toNat (by have := v.isLt; omega)
  have hQ : ((32#32 - v) % 32#32).toNat = (4294967296 - v.toNat) % 32 := by rw [BitVec.toNat_umod, BitVec.toNat_sub]; simp
  obtain ⟨Q, hQ2⟩ : ∃ Q, Q = (4294967296 - v.toNat) % 32 := ⟨_, rfl⟩
  rw [← hQ2] at hQ
  have hc : ((4294967296 - v.toNat : Nat) : Int) % 32 = Q := by omega
  have hN2 := Num_eq Q (by omega)
  have hn2 := num_len Q
  have hlines : linesI (stepI ⟨6, a, b, v⟩ dst [x]) = [[109, 111, 118, 115, 32, 114, 48, 44, 32, 35, 48]] ++ (linesI (atI x) ++ [[108, 100, 114, 32, 114, 48, 44, 32, 91, 114, 55, 44, 32, 114, 54, 93]]) ++ [[109, 111, 118, 115, 32, 114, 50, 44, 32, 35] ++ num Q, [114, 111, 114, 115, 32, 114, 48, 44, 32, 114, 50]] ++ (linesI (atI dst) ++ [[115, 116, 114, 32, 114, 48, 44, 32, 91, 114, 55, 44, 32, 114, 54, 93]]) := by
    rw [← putI_lines, ← get_lines0]
    simp only [stepI, headI, regsI, linesI_append, doesI, hQ]
    simp [linesI, x0, x1, x2, x3, x4, x5, x6, x7, lf0_line, lsr_line, mv2_line]
  rw [hlines]
  clear hlines
  have hnl := num_len v.toNat
  generalize num v.toNat = ns at *
  have lx : (linesI (atI x)).length ≤ 3 := by rw [linesI_length]; exact (atI_len x).2
  have ldst : (linesI (atI dst)).length ≤ 3 := by rw [linesI_length]; exact (atI_len dst).2
  obtain ⟨Sx, ex⟩ : ∃ S, S = linesI (atI x) := ⟨_, rfl⟩
  rw [← ex] at hsx lx ⊢
  have tx := strRows_all Sx
  obtain ⟨Sdst, edst⟩ : ∃ S, S = linesI (atI dst) := ⟨_, rfl⟩
  rw [← edst] at hsl ldst ⊢
  have tdst := strRows_all Sdst
  simp -implicitDefEqProofs +contextual (disch := omega) [ref25_Step.spec, ref25_Step, aloop_unroll, ref25_Step.l0, hsl, hN, num0_eq, num1_eq, hsx, tx, hc, hN2]
  rw [List.take_of_length_le (by simp; omega)]
  simp [strRows]
set_option maxHeartbeats 2000000 in
theorem rStep_8 (v : BitVec 32) (a b : Int) (dst : Nat) (hd : dst ≤ 16000) (x : Nat) (hx : x ≤ 16000) : ref25_Step.spec [.agg [.int .i64 8, .int .i64 a, .int .i64 b, W32 v], .int .i64 dst, .rsl 1 [[.int .i64 x]]] = some (.rsl 1 (strRows (linesI (stepI ⟨8, a, b, v⟩ dst [x])))) := by
  have hsl := rSlot_eq dst hd
  have hsx := rSlot_eq x hx
  obtain ⟨x0, x1, x2, x3, x4, x5, x6, x7⟩ := fixed_lines
  have hN := Num_eq v.toNat (by have := v.isLt; omega)
  have hlines : linesI (stepI ⟨8, a, b, v⟩ dst [x]) = [[109, 111, 118, 115, 32, 114, 48, 44, 32, 35, 48]] ++ (linesI (atI x) ++ [[108, 100, 114, 32, 114, 48, 44, 32, 91, 114, 55, 44, 32, 114, 54, 93]]) ++ (linesI (atI dst) ++ [[115, 116, 114, 32, 114, 48, 44, 32, 91, 114, 55, 44, 32, 114, 54, 93]]) := by
    rw [← putI_lines, ← get_lines0]
    simp only [stepI, headI, regsI, linesI_append, doesI]
    simp [linesI, x0, x1, x2, x3, x4, x5, x6, x7, lf0_line, lsr_line, mv2_line]
  rw [hlines]
  clear hlines
  have hnl := num_len v.toNat
  generalize num v.toNat = ns at *
  have lx : (linesI (atI x)).length ≤ 3 := by rw [linesI_length]; exact (atI_len x).2
  have ldst : (linesI (atI dst)).length ≤ 3 := by rw [linesI_length]; exact (atI_len dst).2
  obtain ⟨Sx, ex⟩ : ∃ S, S = linesI (atI x) := ⟨_, rfl⟩
  rw [← ex] at hsx lx ⊢
  have tx := strRows_all Sx
  obtain ⟨Sdst, edst⟩ : ∃ S, S = linesI (atI dst) := ⟨_, rfl⟩
  rw [← edst] at hsl ldst ⊢
  have tdst := strRows_all Sdst
  simp -implicitDefEqProofs +contextual (disch := omega) [ref25_Step.spec, ref25_Step, aloop_unroll, ref25_Step.l0, hsl, hN, num0_eq, num1_eq, hsx, tx]
  rw [List.take_of_length_le (by simp; omega)]
  simp [strRows]
end Go.Abs
end
section
set_option linter.unusedSimpArgs false
set_option linter.unusedVariables false
namespace Go.Abs
open Th
theorem slotOk_no (x : Int) : (slotOk x = false) ↔ (x < 0 ∨ 16000 < x) := by simp [slotOk]; omega
def numT (o : OpM) : Bool := decide (o.k = 7) || decide (o.n = 0#32) || decide (4 ≤ o.k ∧ o.k ≤ 6) && decide (o.n < 32#32)
def fitsR (o : OpM) (dst : Int) (src : List Int) : Bool := decide (0 ≤ o.k ∧ o.k ≤ 8) && decide ((src.length : Int) = takesM o.k) && slotOk dst && !(src.any fun n => !slotOk n) && numT o
theorem fitsR_eq (o : OpM) (dst : Int) (src : List Int) : fitsI o dst src = fitsR o dst src := by
  unfold fitsI fitsR
  by_cases hk : 0 ≤ o.k ∧ o.k ≤ 8
  · have ht : takesI o.k = takesM o.k := by
      unfold takesI takesM
      repeat' split
      all_goals omega
    have hc : (oneC o).can = numT o := by
      have h9 : o.k < 9 := by omega
      have hw : ∀ b, wireM 0 1 b = true := by intro b; cases b <;> rfl
      simp [oneC, CodeM.can, opsOk, OpM.ok, hk.1, h9, hw, numberM, numT]
      by_cases h7 : o.k = 7
      · simp [h7]
      · by_cases h4 : o.k = 4 ∨ o.k = 5 ∨ o.k = 6
        · have h46 : 4 ≤ o.k ∧ o.k ≤ 6 := by omega
          simp [h7, h4, h46, BitVec.lt_def]
          intro e; rw [e]; decide
        · have h46 : ¬ (4 ≤ o.k ∧ o.k ≤ 6) := by omega
          simp [h7, h4, h46]
    rw [hc, ht, decide_eq_true hk]
    generalize numT o = a
    generalize decide ((src.length : Int) = takesM o.k) = b
    generalize slotOk dst = c
    generalize (!(src.any fun n => !slotOk n)) = d
    cases a <;> cases b <;> cases c <;> cases d <;> rfl
  · have hc : (oneC o).can = false := by
      have : ¬ (0 ≤ o.k ∧ o.k < 9) := by omega
      simp [oneC, CodeM.can, opsOk, OpM.ok]
      intro h1 h2; omega
    rw [hc, decide_eq_false hk]; simp
end Go.Abs
end
section
set_option linter.unusedSimpArgs false
set_option linter.unusedVariables false
namespace Go.Abs
open Th
theorem fits_parts (o : OpM) (dst : Int) (src : List Int) (h : fitsI o dst src = true) : (0 ≤ o.k ∧ o.k ≤ 8) ∧ (src.length : Int) = takesM o.k ∧ (0 ≤ dst ∧ dst ≤ 16000) ∧ (src.any fun n => !slotOk n) = false ∧ numOk o := by
  rw [fitsR_eq] at h
  unfold fitsR at h
  simp only [Bool.and_eq_true, decide_eq_true_eq, Bool.not_eq_true'] at h
  obtain ⟨⟨⟨⟨h1, h2⟩, h3⟩, h4⟩, h5⟩ := h
  refine ⟨h1, h2, ?_, h4, fun hk => ?_⟩
  · simp [slotOk] at h3; exact h3
  · simp only [numT, Bool.or_eq_true, Bool.and_eq_true, decide_eq_true_eq] at h5
    rcases h5 with (h5 | h5) | ⟨_, h5⟩
    · omega
    · rw [h5]; decide
    · rw [BitVec.lt_def] at h5; exact h5
theorem rStep_eq' (o : OpM) (dst : Nat) (src : List Nat) (h : fitsI o dst (src.map fun x : Nat => (x : Int)) = true) :
    ref25_Step.spec [.agg o.cells, .int .i64 dst, .rsl 1 (ints (src.map fun x : Nat => (x : Int)))] = some (.rsl 1 (strRows (linesI (stepI o dst src)))) := by
  obtain ⟨hk, hl, hd, hs, hn⟩ := fits_parts o dst _ h
  have hx : ∀ x ∈ src, x ≤ 16000 := fun x hx => by
    have := List.any_eq_false.1 hs x (List.mem_map.2 ⟨x, hx, rfl⟩)
    simp [slotOk] at this
    omega
  have hd' : dst ≤ 16000 := by omega
  rw [List.length_map] at hl
  obtain ⟨k, a, b, n⟩ := o
  dsimp only at hk hl
  unfold OpM.cells
  dsimp only
  have hkc : k = 0 ∨ k = 1 ∨ k = 2 ∨ k = 3 ∨ k = 4 ∨ k = 5 ∨ k = 6 ∨ k = 7 ∨ k = 8 := by omega
  have l0 : src.length = 0 → src = [] := List.eq_nil_of_length_eq_zero
  have l1 : src.length = 1 → ∃ x, src = [x] := List.length_eq_one_iff.1
  have l2 : src.length = 2 → ∃ x y, src = [x, y] := fun h => by
    match src, h with
    | [x, y], _ => exact ⟨x, y, rfl⟩
  rcases hkc with rfl | rfl | rfl | rfl | rfl | rfl | rfl | rfl | rfl
  · obtain rfl := l0 (by have : takesM (0:Int) = 0 := rfl; have : takesM (7:Int) = 0 := rfl; omega)
    exact rStep_0 n a b dst hd'
  · obtain ⟨x, y, rfl⟩ := l2 (by simp [takesM] at hl; omega)
    exact rStep_1 n a b dst hd' x y (hx x (by simp)) (hx y (by simp))
  · obtain ⟨x, y, rfl⟩ := l2 (by simp [takesM] at hl; omega)
    exact rStep_2 n a b dst hd' x y (hx x (by simp)) (hx y (by simp))
  · obtain ⟨x, rfl⟩ := l1 (by simp [takesM] at hl; omega)
    exact rStep_3 n a b dst hd' x (hx x (by simp))
  · obtain ⟨x, rfl⟩ := l1 (by simp [takesM] at hl; omega)
    exact rStep_4 n a b dst hd' x (hx x (by simp))
  · obtain ⟨x, rfl⟩ := l1 (by simp [takesM] at hl; omega)
    by_cases hz : n = 0#32
    · subst hz; exact rStep_5z a b dst hd' x (hx x (by simp))
    · exact rStep_5 n a b dst hd' x (hx x (by simp)) hz
  · obtain ⟨x, rfl⟩ := l1 (by simp [takesM] at hl; omega)
    exact rStep_6 n a b dst hd' x (hx x (by simp))
  · obtain rfl := l0 (by have : takesM (0:Int) = 0 := rfl; have : takesM (7:Int) = 0 := rfl; omega)
    exact rStep_7 n a b dst hd'
  · obtain ⟨x, rfl⟩ := l1 (by simp [takesM] at hl; omega)
    exact rStep_8 n a b dst hd' x (hx x (by simp))
end Go.Abs
end

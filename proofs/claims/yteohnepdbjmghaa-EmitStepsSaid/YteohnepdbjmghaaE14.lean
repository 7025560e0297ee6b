/-
  Steps' texts: the document's step.
-/
import Derived.Test.YteohnepdbjmghaaE13
set_option linter.unusedSimpArgs false
set_option linter.unusedVariables false
namespace Go.Abs
open Th
theorem byteI_eq (v : BitVec 32) (j : Nat) : byteI v j = v.toNat / 2 ^ (24 - 8 * j) % 256 := by
  unfold byteI
  rw [BitVec.toNat_and, BitVec.toNat_ushiftRight, Nat.shiftRight_eq_div_pow, show (255#32).toNat = 2 ^ 8 - 1 from rfl, Nat.and_two_pow_sub_one_eq_mod]
theorem constI_1 (v : BitVec 32) (h : v.toNat < 256) : constI v = [mvI 0 (v.toNat : Nat)] := by
  have b0 : byteI v 0 = 0 := by rw [byteI_eq]; simp; omega
  have b1 : byteI v 1 = 0 := by rw [byteI_eq]; simp; omega
  have b2 : byteI v 2 = 0 := by rw [byteI_eq]; simp; omega
  have b3 : byteI v 3 = v.toNat := by rw [byteI_eq]; simp; omega
  simp [constI, constUp, b0, b1, b2, b3]
theorem constI_2 (v : BitVec 32) (d0 d1 : Nat) (h : v.toNat = d1 * 256 + d0) (h0 : d0 < 256) (h1 : 0 < d1 ∧ d1 < 256) : constI v = [mvI 0 d1, lfI 0 8, adI 0 d0] := by
  have b0 : byteI v 0 = 0 := by rw [byteI_eq]; simp; omega
  have b1 : byteI v 1 = 0 := by rw [byteI_eq]; simp; omega
  have b2 : byteI v 2 = d1 := by rw [byteI_eq]; simp; omega
  have b3 : byteI v 3 = d0 := by rw [byteI_eq]; simp; omega
  simp [constI, constUp, b0, b1, b2, b3, h1]
theorem constI_3 (v : BitVec 32) (d0 d1 d2 : Nat) (h : v.toNat = d2 * 65536 + d1 * 256 + d0) (h0 : d0 < 256) (h1 : d1 < 256) (h2 : 0 < d2 ∧ d2 < 256) : constI v = [mvI 0 d2, lfI 0 8, adI 0 d1, lfI 0 8, adI 0 d0] := by
  have b0 : byteI v 0 = 0 := by rw [byteI_eq]; simp; omega
  have b1 : byteI v 1 = d2 := by rw [byteI_eq]; simp; omega
  have b2 : byteI v 2 = d1 := by rw [byteI_eq]; simp; omega
  have b3 : byteI v 3 = d0 := by rw [byteI_eq]; simp; omega
  simp [constI, constUp, b0, b1, b2, b3, h2]
theorem constI_4 (v : BitVec 32) (d0 d1 d2 d3 : Nat) (h : v.toNat = d3 * 16777216 + d2 * 65536 + d1 * 256 + d0) (h0 : d0 < 256) (h1 : d1 < 256) (h2 : d2 < 256) (h3 : 0 < d3 ∧ d3 < 256) : constI v = [mvI 0 d3, lfI 0 8, adI 0 d2, lfI 0 8, adI 0 d1, lfI 0 8, adI 0 d0] := by
  have b0 : byteI v 0 = d3 := by rw [byteI_eq]; simp; omega
  have b1 : byteI v 1 = d2 := by rw [byteI_eq]; simp; omega
  have b2 : byteI v 2 = d1 := by rw [byteI_eq]; simp; omega
  have b3 : byteI v 3 = d0 := by rw [byteI_eq]; simp; omega
  simp [constI, constUp, b0, b1, b2, b3, h3]
theorem mv0_line (n : Nat) : showI (mvI 0 n) = [109, 111, 118, 115, 32, 114, 48, 44, 32, 35] ++ num n := by
  obtain ⟨n0, n1, n2, n5, n6, n7, n8, n24, n32, n64⟩ := num_small
  simp only [showI, mvI, regT, immT, csT, if_true, Int.toNat_natCast]
  simp [n0]
theorem ad0_line (n : Nat) : showI (adI 0 n) = [97, 100, 100, 115, 32, 114, 48, 44, 32, 35] ++ num n := by
  obtain ⟨n0, n1, n2, n5, n6, n7, n8, n24, n32, n64⟩ := num_small
  simp only [showI, adI, regT, immT, csT, if_true, Int.toNat_natCast]
  simp [n0]
theorem lf08_line : showI (lfI 0 8) = [108, 115, 108, 115, 32, 114, 48, 44, 32, 114, 48, 44, 32, 35, 56] := by decide +kernel
theorem putI_lines (n : Nat) : linesI (putI n) = linesI (atI n) ++ [[115, 116, 114, 32, 114, 48, 44, 32, 91, 114, 55, 44, 32, 114, 54, 93]] := by
  rw [putI, linesI_append]
  congr 1
theorem getI_lines (r n : Nat) (hr : r ≤ 7) : linesI (getI r n) = linesI (atI n) ++ [[108, 100, 114, 32, 114] ++ num r ++ [44, 32, 91, 114, 55, 44, 32, 114, 54, 93]] := by
  obtain ⟨n0, n1, n2, n5, n6, n7, n8, n24, n32, n64⟩ := num_small
  rw [getI, linesI_append]
  congr 1
  simp only [linesI, List.map_cons, List.map_nil, showI, regT, csT, Int.toNat_natCast]
  simp [n6, n7]
set_option maxHeartbeats 4000000 in
theorem rStep_7 (v : BitVec 32) (a b : Int) (dst : Nat) (hd : dst ≤ 16000) : ref25_Step.spec [.agg [.int .i64 7, .int .i64 a, .int .i64 b, W32 v], .int .i64 dst, .rsl 1 []] = some (.rsl 1 (strRows (linesI (stepI ⟨7, a, b, v⟩ dst [])))) := by
  have hsl := rSlot_eq dst hd
  have hN := Num_eq v.toNat (by have := v.isLt; omega)
  have hlines : linesI (stepI ⟨7, a, b, v⟩ dst []) = [[109, 111, 118, 115, 32, 114, 48, 44, 32, 35, 48]] ++ linesI (constI v) ++ (linesI (atI dst) ++ [[115, 116, 114, 32, 114, 48, 44, 32, 91, 114, 55, 44, 32, 114, 54, 93]]) := by
    obtain ⟨n0, n1, n2, n5, n6, n7, n8, n24, n32, n64⟩ := num_small
    rw [← putI_lines]
    simp only [stepI, headI, regsI, linesI_append, doesI]
    have := mv0_line 0
    simp only [Int.natCast_zero] at this
    simp [linesI, this, n0]
  rw [hlines]
  have hsll : (linesI (atI dst)).length ≤ 3 := by rw [linesI_length]; exact (atI_len dst).2
  generalize linesI (atI dst) = S at *
  have hSl := strRows_all S
  have hnl := num_len v.toNat
  generalize hNs : num v.toNat = ns at *
  have hlt := v.isLt
  by_cases c1 : v.toNat < 256
  · rw [constI_1 v c1]
    have hL : linesI [mvI 0 (v.toNat : Nat)] = [[109, 111, 118, 115, 32, 114, 48, 44, 32, 35] ++ ns] := by simp only [linesI, List.map_cons, List.map_nil, mv0_line, hNs]
    rw [hL]
    have e0 : (v.toNat : Int) % 256 = v.toNat := by omega
    have q0 : (v.toNat : Int) / 256 = 0 := by omega
    by_cases hp : 0 < v.toNat
    · have hp' : (0 : Int) < v.toNat := by omega
      simp -implicitDefEqProofs +contextual (disch := omega) [ref25_Step.spec, ref25_Step, aloop_unroll, ref25_Step.l0, ref25_Step.l1, ref25_Step.l2, hsl, hN, e0, q0, hp']
      rw [List.take_of_length_le (by simp; omega)]; simp [strRows]
    · have hz : (v.toNat : Int) = 0 := by omega
      rw [hz] at hN
      simp -implicitDefEqProofs +contextual (disch := omega) [ref25_Step.spec, ref25_Step, aloop_unroll, ref25_Step.l0, ref25_Step.l1, ref25_Step.l2, hsl, hN, hz]
      rw [List.take_of_length_le (by simp; omega)]; simp [strRows]
  · by_cases c2 : v.toNat < 65536
    · obtain ⟨d0, hd0⟩ : ∃ d : Nat, d = v.toNat / 1 % 256 := ⟨_, rfl⟩
      obtain ⟨d1, hd1⟩ : ∃ d : Nat, d = v.toNat / 256 % 256 := ⟨_, rfl⟩
      have hv : v.toNat = d1 * 256 + d0 := by omega
      rw [constI_2 v d0 d1 hv (by omega) (by omega)]
      have f0 := Num_eq d0 (by omega)
      have g0 := num_len d0
      have f1 := Num_eq d1 (by omega)
      have g1 := num_len d1
      have hL : linesI [mvI 0 d1, lfI 0 8, adI 0 d0] = [[109, 111, 118, 115, 32, 114, 48, 44, 32, 35] ++ num d1, [108, 115, 108, 115, 32, 114, 48, 44, 32, 114, 48, 44, 32, 35, 56], [97, 100, 100, 115, 32, 114, 48, 44, 32, 35] ++ num d0] := by simp only [linesI, List.map_cons, List.map_nil, mv0_line, ad0_line, lf08_line]
      rw [hL]
      have p0 : (0 : Int) < v.toNat := by omega
      have e0 : (v.toNat : Int) % 256 = d0 := by omega
      have q0 : (v.toNat : Int) / 256 = d1 := by omega
      have p1 : (0 : Int) < d1 := by omega
      have e1 : (d1 : Int) % 256 = d1 := by omega
      have q1 : (d1 : Int) / 256 = 0 := by omega
      generalize num d0 = t0 at *
      generalize num d1 = t1 at *
      simp -implicitDefEqProofs +contextual (disch := omega) [ref25_Step.spec, ref25_Step, aloop_unroll, ref25_Step.l0, ref25_Step.l1, ref25_Step.l2, hsl, hN, p0, e0, q0, f0, p1, e1, q1, f1]
      rw [List.take_of_length_le (by simp; omega)]; simp [strRows]
    · by_cases c3 : v.toNat < 16777216
      · obtain ⟨d0, hd0⟩ : ∃ d : Nat, d = v.toNat / 1 % 256 := ⟨_, rfl⟩
        obtain ⟨d1, hd1⟩ : ∃ d : Nat, d = v.toNat / 256 % 256 := ⟨_, rfl⟩
        obtain ⟨d2, hd2⟩ : ∃ d : Nat, d = v.toNat / 65536 % 256 := ⟨_, rfl⟩
        obtain ⟨m1, hm1⟩ : ∃ m : Nat, m = v.toNat / 256 := ⟨_, rfl⟩
        have hv : v.toNat = d2 * 65536 + d1 * 256 + d0 := by omega
        rw [constI_3 v d0 d1 d2 hv (by omega) (by omega) (by omega)]
        have f0 := Num_eq d0 (by omega)
        have g0 := num_len d0
        have f1 := Num_eq d1 (by omega)
        have g1 := num_len d1
        have f2 := Num_eq d2 (by omega)
        have g2 := num_len d2
        have hL : linesI [mvI 0 d2, lfI 0 8, adI 0 d1, lfI 0 8, adI 0 d0] = [[109, 111, 118, 115, 32, 114, 48, 44, 32, 35] ++ num d2, [108, 115, 108, 115, 32, 114, 48, 44, 32, 114, 48, 44, 32, 35, 56], [97, 100, 100, 115, 32, 114, 48, 44, 32, 35] ++ num d1, [108, 115, 108, 115, 32, 114, 48, 44, 32, 114, 48, 44, 32, 35, 56], [97, 100, 100, 115, 32, 114, 48, 44, 32, 35] ++ num d0] := by simp only [linesI, List.map_cons, List.map_nil, mv0_line, ad0_line, lf08_line]
        rw [hL]
        have p0 : (0 : Int) < v.toNat := by omega
        have e0 : (v.toNat : Int) % 256 = d0 := by omega
        have q0 : (v.toNat : Int) / 256 = m1 := by omega
        have p1 : (0 : Int) < m1 := by omega
        have e1 : (m1 : Int) % 256 = d1 := by omega
        have q1 : (m1 : Int) / 256 = d2 := by omega
        have p2 : (0 : Int) < d2 := by omega
        have e2 : (d2 : Int) % 256 = d2 := by omega
        have q2 : (d2 : Int) / 256 = 0 := by omega
        generalize num d0 = t0 at *
        generalize num d1 = t1 at *
        generalize num d2 = t2 at *
        simp -implicitDefEqProofs +contextual (disch := omega) [ref25_Step.spec, ref25_Step, aloop_unroll, ref25_Step.l0, ref25_Step.l1, ref25_Step.l2, hsl, hN, p0, e0, q0, f0, p1, e1, q1, f1, p2, e2, q2, f2]
        rw [List.take_of_length_le (by simp; omega)]; simp [strRows]
      · obtain ⟨d0, hd0⟩ : ∃ d : Nat, d = v.toNat / 1 % 256 := ⟨_, rfl⟩
        obtain ⟨d1, hd1⟩ : ∃ d : Nat, d = v.toNat / 256 % 256 := ⟨_, rfl⟩
        obtain ⟨d2, hd2⟩ : ∃ d : Nat, d = v.toNat / 65536 % 256 := ⟨_, rfl⟩
        obtain ⟨d3, hd3⟩ : ∃ d : Nat, d = v.toNat / 16777216 % 256 := ⟨_, rfl⟩
        obtain ⟨m1, hm1⟩ : ∃ m : Nat, m = v.toNat / 256 := ⟨_, rfl⟩
        obtain ⟨m2, hm2⟩ : ∃ m : Nat, m = v.toNat / 65536 := ⟨_, rfl⟩
        have hv : v.toNat = d3 * 16777216 + d2 * 65536 + d1 * 256 + d0 := by omega
        rw [constI_4 v d0 d1 d2 d3 hv (by omega) (by omega) (by omega) (by omega)]
        have f0 := Num_eq d0 (by omega)
        have g0 := num_len d0
        have f1 := Num_eq d1 (by omega)
        have g1 := num_len d1
        have f2 := Num_eq d2 (by omega)
        have g2 := num_len d2
        have f3 := Num_eq d3 (by omega)
        have g3 := num_len d3
        have hL : linesI [mvI 0 d3, lfI 0 8, adI 0 d2, lfI 0 8, adI 0 d1, lfI 0 8, adI 0 d0] = [[109, 111, 118, 115, 32, 114, 48, 44, 32, 35] ++ num d3, [108, 115, 108, 115, 32, 114, 48, 44, 32, 114, 48, 44, 32, 35, 56], [97, 100, 100, 115, 32, 114, 48, 44, 32, 35] ++ num d2, [108, 115, 108, 115, 32, 114, 48, 44, 32, 114, 48, 44, 32, 35, 56], [97, 100, 100, 115, 32, 114, 48, 44, 32, 35] ++ num d1, [108, 115, 108, 115, 32, 114, 48, 44, 32, 114, 48, 44, 32, 35, 56], [97, 100, 100, 115, 32, 114, 48, 44, 32, 35] ++ num d0] := by simp only [linesI, List.map_cons, List.map_nil, mv0_line, ad0_line, lf08_line]
        rw [hL]
        have p0 : (0 : Int) < v.toNat := by omega
        have e0 : (v.toNat : Int) % 256 = d0 := by omega
        have q0 : (v.toNat : Int) / 256 = m1 := by omega
        have p1 : (0 : Int) < m1 := by omega
        have e1 : (m1 : Int) % 256 = d1 := by omega
        have q1 : (m1 : Int) / 256 = m2 := by omega
        have p2 : (0 : Int) < m2 := by omega
        have e2 : (m2 : Int) % 256 = d2 := by omega
        have q2 : (m2 : Int) / 256 = d3 := by omega
        have p3 : (0 : Int) < d3 := by omega
        have e3 : (d3 : Int) % 256 = d3 := by omega
        have q3 : (d3 : Int) / 256 = 0 := by omega
        generalize num d0 = t0 at *
        generalize num d1 = t1 at *
        generalize num d2 = t2 at *
        generalize num d3 = t3 at *
        simp -implicitDefEqProofs +contextual (disch := omega) [ref25_Step.spec, ref25_Step, aloop_unroll, ref25_Step.l0, ref25_Step.l1, ref25_Step.l2, hsl, hN, p0, e0, q0, f0, p1, e1, q1, f1, p2, e2, q2, f2, p3, e3, q3, f3]
        rw [List.take_of_length_le (by simp; omega)]; simp [strRows]
end Go.Abs

/-
  The laws on what few wires of a gadget tell.
-/
import Derived.Test.YthignlpdeaglaaaJJ
import Derived.Test.YthignlpdeaglaaaJ38
import Derived.Test.YthignlpdeaglaaaJE
set_option linter.unusedSimpArgs false
set_option linter.unusedVariables false
namespace Go.Abs
theorem gad_outs_nn (and : Bool) (d : Nat) (h : d ≤ 3) : ((gadC and d).outs.all fun o => decide (0 ≤ o)) = true := by
  have : d = 0 ∨ d = 1 ∨ d = 2 ∨ d = 3 := by omega
  rcases this with rfl | rfl | rfl | rfl <;> cases and <;> decide +kernel
theorem few_of_check (and : Bool) (d : Nat) (hd : d ≤ 3) (xs : List Nat) (hlen : xs.length = d) (w : Nat) (hL : Lits (gadS and d).ops (gadIn and d) d (d * (d + 1) / 2) xs w) (hF : finAt and d xs w) :
    Few (matterM (maS (gadC and d) (gadIn and d) (xs.map fun x : Nat => (x : Int))) (gadIn and d)) (d + 1) (sfCnt (gadC and d).outs [] (xs.map fun x : Nat => (x : Int))) := by
  subst hlen
  have ho := gad_outs_nn and xs.length hd
  rw [List.all_eq_true] at ho
  have hi := innerD_eq (gadC and xs.length).outs (fun o h => by simpa using ho o h) xs [] [] (fun x => rfl)
  rw [← hi]
  have hR := gad_randoms and xs.length (by omega)
  have hR7 : xs.length * (xs.length + 1) / 2 ≤ 7 := by
    have : xs.length = 0 ∨ xs.length = 1 ∨ xs.length = 2 ∨ xs.length = 3 := by omega
    rcases this with h | h | h | h <;> rw [h] <;> decide
  have hg : gadIn and xs.length / (xs.length + 1) * (xs.length + 1) = gadIn and xs.length := by
    unfold gadIn
    cases and with
    | true => rw [if_pos rfl, Nat.mul_div_cancel _ (by omega)]
    | false => rw [if_neg (by simp), Nat.div_self (by omega), Nat.one_mul]
  refine few_of (xs.length + 1) _ (gadIn and xs.length / (xs.length + 1)) (gadIn and xs.length) (by omega) hg _
    (fun k => okK (8 * 2 ^ k, maskD (gadIn and xs.length + xs.length) k) (foldD (8 * 2 ^ (gadIn and xs.length + xs.length)) (xs.length * (xs.length + 1) / 2) w)) (fun k hk hb => ?_) ?_
  · rw [List.any_eq_false]
    intro i hi
    rw [matter_sound (gadC and xs.length) (gadIn and xs.length) _ xs hR hR7 w hL k hk hb i (List.mem_range.1 hi)]
    simp
  · unfold finAt msD at hF
    rw [List.map_map] at hF
    exact hF
theorem gad_facts (and : Bool) (d : Nat) (h1 : 1 ≤ d) (h3 : d ≤ 3) (ha : and = true → d ≤ 2) : (0 < gadIn and d ∧ gadIn and d ≤ 10) ∧ (gadC and d).ops.length < 60 ∧ (gadC and d).outs.length ≤ 1000000000 ∧ (gadC and d).randoms ≤ 12 := by
  have : d = 1 ∨ d = 2 ∨ d = 3 := by omega
  rcases this with rfl | rfl | rfl <;> cases and <;> first | (simp at ha; done) | (decide +kernel)
theorem emod_nat (a : Int) (q : Nat) (hq : 0 < q) : ∃ x : Nat, x < q ∧ a % (q : Int) = x := by
  have h1 := Int.emod_nonneg a (show (q : Int) ≠ 0 by omega)
  have h2 := Int.emod_lt_of_pos a (show (0 : Int) < q by omega)
  exact ⟨(a % q).toNat, by omega, by omega⟩
theorem safe_gad (and : Bool) (d n : Nat) (h1 : 1 ≤ d) (h3 : d ≤ 3) (ha : and = true → d ≤ 2) (hn : gadIn and d + (gadS and d).ops.length = n) (ck : ∀ x, x < n → checkX and d x = true)
    (a0 a1 a2 : Int) (b0 : 0 ≤ a0 ∧ a0 < 65536) (b1 : 0 ≤ a1 ∧ a1 < 65536) (b2 : 0 ≤ a2 ∧ a2 < 65536) :
    law19_safe.spec [.agg (gadC and d).cells, .int .i64 d, .agg [.int .u16 a0, .int .u16 a1, .int .u16 a2]] = some (.bool true) := by
  obtain ⟨f1, f2, f3, f4⟩ := gad_facts and d h1 h3 ha
  have hg : gadIn and d / (d + 1) * (d + 1) = gadIn and d := by
    unfold gadIn
    cases and with
    | true => rw [if_pos rfl, Nat.mul_div_cancel _ (by omega)]
    | false => rw [if_neg (by simp), Nat.div_self (by omega), Nat.one_mul]
  refine safe19_eq (gadC and d) (gadIn and d) rfl f1 (gad_can and d (by omega)) f2 f3 f4 d _ h3 hg a0 a1 a2 b0 b1 b2 ?_
  have hq : ((gadIn and d : Nat) : Int) + (gadC and d).ops.length = (n : Int) := by rw [← hn]; simp [gadC]
  rw [hq]
  have hn0 : 0 < n := by omega
  obtain ⟨x, hx, ex⟩ := emod_nat a0 n hn0
  obtain ⟨y, hy, ey⟩ := emod_nat a1 n hn0
  obtain ⟨z, hz, ez⟩ := emod_nat a2 n hn0
  have hd : d = 1 ∨ d = 2 ∨ d = 3 := by omega
  rcases hd with rfl | rfl | rfl
  · have e : prb a0 a1 a2 n 1 = [x].map fun x : Nat => (x : Int) := by simp [prb, ex]
    rw [e]
    obtain ⟨w, w1, w2⟩ := checkX_1 and x (ck x hx)
    exact few_of_check and 1 (by omega) [x] rfl w w1 w2
  · have e : prb a0 a1 a2 n 2 = [x, y].map fun x : Nat => (x : Int) := by simp [prb, ex, ey]
    rw [e]
    obtain ⟨w, w1, w2⟩ := checkX_2 and x y (by omega) (ck x hx)
    exact few_of_check and 2 (by omega) [x, y] rfl w w1 w2
  · have e : prb a0 a1 a2 n 3 = [x, y, z].map fun x : Nat => (x : Int) := by simp [prb, ex, ey, ez]
    rw [e]
    obtain ⟨w, w1, w2⟩ := checkX_3 and x y z (by omega) (by omega) (ck x hx)
    exact few_of_check and 3 (by omega) [x, y, z] rfl w w1 w2
theorem w16_int (x : BitVec 16) : W16 x = .int .u16 x.toNat ∧ 0 ≤ (x.toNat : Int) ∧ (x.toNat : Int) < 65536 := ⟨rfl, by omega, by have := x.isLt; omega⟩
theorem iswSafeAnd_law (two : Bool) (a0 a1 a2 : BitVec 16) : law19_IswSafeAnd.spec [.bool two, .agg [W16 a0, W16 a1, W16 a2]] = some (.bool true) := by
  obtain ⟨e0, b0⟩ := w16_int a0
  obtain ⟨e1, b1⟩ := w16_int a1
  obtain ⟨e2, b2⟩ := w16_int a2
  rw [e0, e1, e2]
  generalize (a0.toNat : Int) = z0 at *
  generalize (a1.toNat : Int) = z1 at *
  generalize (a2.toNat : Int) = z2 at *
  cases two with
  | false =>
    have hA : isw_And.spec [.int .i64 1] = _ := And_eq 1 (by omega)
    have hC := rCan_eq (gadC true 1) (by decide +kernel) (by decide +kernel)
    rw [gad_can true 1 (by omega)] at hC
    have hR := rRandoms_eq (gadC true 1) (by decide +kernel)
    rw [gad_randoms true 1 (by omega)] at hR
    have hS : law19_safe.spec [.agg (gadC true 1).cells, .int .i64 1, .agg [.int .u16 z0, .int .u16 z1, .int .u16 z2]] = _ := safe_gad true 1 13 (by omega) (by omega) (by simp) gadn_t1 ck_t1 z0 z1 z2 b0 b1 b2
    have hi : (gadC true 1).inN = 4 := rfl
    have hl : (gadC true 1).ops.length = 9 := by decide +kernel
    unfold CodeM.cells at *
    generalize gadC true 1 = c at *
    rw [hi] at hA hC hR hS
    simp -implicitDefEqProofs +contextual (disch := omega) [law19_IswSafeAnd.spec, law19_IswSafeAnd, hA, hC, hR, hS, hl, hi, lives19]
  | true =>
    have hA : isw_And.spec [.int .i64 2] = _ := And_eq 2 (by omega)
    have hC := rCan_eq (gadC true 2) (by decide +kernel) (by decide +kernel)
    rw [gad_can true 2 (by omega)] at hC
    have hR := rRandoms_eq (gadC true 2) (by decide +kernel)
    rw [gad_randoms true 2 (by omega)] at hR
    have hS : law19_safe.spec [.agg (gadC true 2).cells, .int .i64 2, .agg [.int .u16 z0, .int .u16 z1, .int .u16 z2]] = _ := safe_gad true 2 30 (by omega) (by omega) (by simp) gadn_t2 ck_t2 z0 z1 z2 b0 b1 b2
    have hi : (gadC true 2).inN = 6 := rfl
    have hl : (gadC true 2).ops.length = 24 := by decide +kernel
    unfold CodeM.cells at *
    generalize gadC true 2 = c at *
    rw [hi] at hA hC hR hS
    simp -implicitDefEqProofs +contextual (disch := omega) [law19_IswSafeAnd.spec, law19_IswSafeAnd, hA, hC, hR, hS, hl, hi, lives19]
theorem iswSafeFresh_law (d : BitVec 8) (a0 a1 a2 : BitVec 16) : law19_IswSafeFresh.spec [W8 d, .agg [W16 a0, W16 a1, W16 a2]] = some (.bool true) := by
  obtain ⟨e0, b0⟩ := w16_int a0
  obtain ⟨e1, b1⟩ := w16_int a1
  obtain ⟨e2, b2⟩ := w16_int a2
  rw [e0, e1, e2]
  generalize (a0.toNat : Int) = z0 at *
  generalize (a1.toNat : Int) = z1 at *
  generalize (a2.toNat : Int) = z2 at *
  obtain ⟨q, hq, hq3⟩ : ∃ q : Nat, (d % 3#8).toNat = q ∧ q < 3 := ⟨_, rfl, by rw [BitVec.toNat_umod]; exact Nat.mod_lt _ (by decide)⟩
  have hcases : q = 0 ∨ q = 1 ∨ q = 2 := by omega
  rcases hcases with rfl | rfl | rfl
  · have hA : isw_Refresh.spec [.int .i64 1] = _ := Refresh_eq 1 (by omega)
    have hC := rCan_eq (gadC false 1) (by decide +kernel) (by decide +kernel)
    rw [gad_can false 1 (by omega)] at hC
    have hR := rRandoms_eq (gadC false 1) (by decide +kernel)
    rw [gad_randoms false 1 (by omega)] at hR
    have hS : law19_safe.spec [.agg (gadC false 1).cells, .int .i64 1, .agg [.int .u16 z0, .int .u16 z1, .int .u16 z2]] = _ := safe_gad false 1 5 (by omega) (by omega) (by simp) gadn_f1 ck_f1 z0 z1 z2 b0 b1 b2
    have hi : (gadC false 1).inN = 2 := rfl
    have hl : (gadC false 1).ops.length = 3 := by decide +kernel
    unfold CodeM.cells at *
    generalize gadC false 1 = c at *
    rw [hi] at hA hC hR hS
    simp -implicitDefEqProofs +contextual (disch := omega) [law19_IswSafeFresh.spec, law19_IswSafeFresh, hq, hA, hC, hR, hS, hl, hi, lives19]
  · have hA : isw_Refresh.spec [.int .i64 2] = _ := Refresh_eq 2 (by omega)
    have hC := rCan_eq (gadC false 2) (by decide +kernel) (by decide +kernel)
    rw [gad_can false 2 (by omega)] at hC
    have hR := rRandoms_eq (gadC false 2) (by decide +kernel)
    rw [gad_randoms false 2 (by omega)] at hR
    have hS : law19_safe.spec [.agg (gadC false 2).cells, .int .i64 2, .agg [.int .u16 z0, .int .u16 z1, .int .u16 z2]] = _ := safe_gad false 2 12 (by omega) (by omega) (by simp) gadn_f2 ck_f2 z0 z1 z2 b0 b1 b2
    have hi : (gadC false 2).inN = 3 := rfl
    have hl : (gadC false 2).ops.length = 9 := by decide +kernel
    unfold CodeM.cells at *
    generalize gadC false 2 = c at *
    rw [hi] at hA hC hR hS
    simp -implicitDefEqProofs +contextual (disch := omega) [law19_IswSafeFresh.spec, law19_IswSafeFresh, hq, hA, hC, hR, hS, hl, hi, lives19]
  · have hA : isw_Refresh.spec [.int .i64 3] = _ := Refresh_eq 3 (by omega)
    have hC := rCan_eq (gadC false 3) (by decide +kernel) (by decide +kernel)
    rw [gad_can false 3 (by omega)] at hC
    have hR := rRandoms_eq (gadC false 3) (by decide +kernel)
    rw [gad_randoms false 3 (by omega)] at hR
    have hS : law19_safe.spec [.agg (gadC false 3).cells, .int .i64 3, .agg [.int .u16 z0, .int .u16 z1, .int .u16 z2]] = _ := safe_gad false 3 22 (by omega) (by omega) (by simp) gadn_f3 ck_f3 z0 z1 z2 b0 b1 b2
    have hi : (gadC false 3).inN = 4 := rfl
    have hl : (gadC false 3).ops.length = 18 := by decide +kernel
    unfold CodeM.cells at *
    generalize gadC false 3 = c at *
    rw [hi] at hA hC hR hS
    simp -implicitDefEqProofs +contextual (disch := omega) [law19_IswSafeFresh.spec, law19_IswSafeFresh, hq, hA, hC, hR, hS, hl, hi, lives19]
theorem sh_which {cs : List AV} (h : ShsOk [.int .u16, .int .u16, .int .u16] cs) : ∃ a b c, cs = [W16 a, W16 b, W16 c] := by
  obtain ⟨a0, _, rfl, q0, h⟩ := shs_cons h
  obtain ⟨a1, _, rfl, q1, h⟩ := shs_cons h
  obtain ⟨a2, rfl, q2⟩ := shs_one h
  obtain ⟨x0, rfl⟩ := sh_u16 q0
  obtain ⟨x1, rfl⟩ := sh_u16 q1
  obtain ⟨x2, rfl⟩ := sh_u16 q2
  exact ⟨x0, x1, x2, rfl⟩
theorem law19_IswSafeAnd_law (args : List AV) (h : ArgsSh [(false, [.bool]), (true, [.int .u16, .int .u16, .int .u16])] args) : law19_IswSafeAnd.spec args = some (.bool true) := by
  obtain ⟨a, _, rfl, h1, h⟩ := args_one h
  obtain ⟨b, _, rfl, h2, h⟩ := args_agg h
  obtain rfl := args_nil h
  obtain ⟨x, rfl⟩ := sh_bool h1.1
  obtain ⟨y0, y1, y2, rfl⟩ := sh_which h2
  exact iswSafeAnd_law x y0 y1 y2
theorem law19_IswSafeFresh_law (args : List AV) (h : ArgsSh [(false, [.int .u8]), (true, [.int .u16, .int .u16, .int .u16])] args) : law19_IswSafeFresh.spec args = some (.bool true) := by
  obtain ⟨a, _, rfl, h1, h⟩ := args_one h
  obtain ⟨b, _, rfl, h2, h⟩ := args_agg h
  obtain rfl := args_nil h
  obtain ⟨x, rfl⟩ := sh_u8 h1.1
  obtain ⟨y0, y1, y2, rfl⟩ := sh_which h2
  exact iswSafeFresh_law x y0 y1 y2
end Go.Abs

/-
  The law EmitLong.
-/
import Derived.Test.YteohnepdbjmghaaE22
import Derived.Test.YteohnepdbjmghaaED
set_option linter.unusedSimpArgs false
set_option linter.unusedVariables false
namespace Go.Abs
open Th
def fewM (c : CodeM) : Bool := decide (c.ops.length ≤ 120) && decide (c.outs.length ≤ 100) && decide (c.inN ≤ 200)
theorem few_eq (c : CodeM) : law25_few.spec [.agg c.cells] = some (.bool (fewM c)) := by
  unfold CodeM.cells fewM
  by_cases h1 : c.ops.length ≤ 120
  · have h1' : (c.ops.length : Int) ≤ 120 := by omega
    by_cases h2 : c.outs.length ≤ 100
    · have h2' : (c.outs.length : Int) ≤ 100 := by omega
      by_cases h3 : c.inN ≤ 200 <;> simp -implicitDefEqProofs +contextual (disch := omega) [law25_few.spec, law25_few, h1, h1', h2, h2', h3]
    · have h2' : ¬ (c.outs.length : Int) ≤ 100 := by omega
      simp -implicitDefEqProofs +contextual (disch := omega) [law25_few.spec, law25_few, h1, h1', h2, h2']
  · have h1' : ¬ (c.ops.length : Int) ≤ 120 := by omega
    simp -implicitDefEqProofs +contextual (disch := omega) [law25_few.spec, law25_few, h1, h1']
theorem constI_pos (n : BitVec 32) : 1 ≤ (constI n).length := by
  unfold constI
  rw [constUp]
  repeat' split
  all_goals simp_all
theorem does_src (o : OpM) (hk : 0 ≤ o.k ∧ o.k < 9) (m : List Nat) : 1 ≤ (doesI o).length + (srcI m o).length ∧ (doesI o).length + 4 * (srcI m o).length ≤ 9 := by
  have hc1 := constI_pos o.n
  have hc2 := constUp_len o.n 4
  have hc3 : constI o.n = constUp o.n 4 := rfl
  rw [← hc3] at hc2
  obtain ⟨k, a, b, n⟩ := o
  dsimp only at hk hc1 hc2
  have hk9 : k = 0 ∨ k = 1 ∨ k = 2 ∨ k = 3 ∨ k = 4 ∨ k = 5 ∨ k = 6 ∨ k = 7 ∨ k = 8 := by omega
  unfold doesI srcI takesI
  dsimp only
  rcases hk9 with rfl | rfl | rfl | rfl | rfl | rfl | rfl | rfl | rfl
  · simp
  · simp
  · simp
  · simp
  · simp
  · by_cases hn : n = 0#32 <;> simp [hn]
  · simp
  · simp; omega
  · simp
theorem stepI_ge (o : OpM) (hk : 0 ≤ o.k ∧ o.k < 9) (dst : Nat) (m : List Nat) : 4 ≤ (stepI o dst (srcI m o)).length ∧ (stepI o dst (srcI m o)).length ≤ 19 := by
  have h1 : ∀ n, 1 ≤ (atI n).length := fun n => (atI_len n).1
  have h2 : 2 ≤ (putI dst).length := by have := h1 dst; simp [putI]; omega
  have h5 := putI_len dst
  have h3 := does_src o hk m
  have h4 : (srcI m o).length ≤ (regsI (srcI m o) 0).length ∧ (regsI (srcI m o) 0).length ≤ 4 * (srcI m o).length := by
    have : ∀ (l : List Nat) r, l.length ≤ (regsI l r).length ∧ (regsI l r).length ≤ 4 * l.length := by
      intro l; induction l with
      | nil => intro r; simp [regsI]
      | cons x l ih => intro r; have := ih (r + 1); have := getI_len r x; simp only [regsI, List.length_append, List.length_cons]; have : 1 ≤ (getI r x).length := by { simp [getI] }; omega
    exact this _ _
  have h6 : 1 ≤ (headI (srcI m o)).length ∧ (headI (srcI m o)).length ≤ 2 := by unfold headI; split <;> simp
  unfold stepI
  simp only [List.length_append]
  omega
theorem upI_ge (c : CodeM) (hok : opsOk c.ops c.inN = true) (m : List Nat) : ∀ k, k ≤ c.ops.length → 4 + 4 * k ≤ (upI c m k).length ∧ (upI c m k).length ≤ 4 + 19 * k
  | 0, _ => by simp [upI, beginI]
  | k + 1, h => by
    rw [upI_succ, List.length_append]
    have h1 := upI_ge c hok m k (by omega)
    have e1 : c.ops.getD k opZ = c.ops[k] := by simp [List.getD_eq_getElem?_getD, show k < c.ops.length by omega]
    have h3 := (opsOk_all _ _).1 hok k (by omega)
    unfold OpM.ok at h3
    simp only [Bool.and_eq_true, decide_eq_true_eq] at h3
    have h2 := stepI_ge c.ops[k] ⟨h3.1.1.1.1, h3.1.1.1.2⟩ (m.getD (c.inN.toNat + k) 0) m
    rw [blkI, e1]
    omega
theorem emitLong_law (c : CodeM) (slots : List Int) (hl : slots.length ≤ 100000000000000) : law25_EmitLong.spec [.agg c.cells, .rsl 1 (ints slots)] = some (.bool true) := by
  have hF := few_eq c
  cases hf : fewM c with
  | false =>
    rw [hf] at hF
    unfold CodeM.cells at *
    simp -implicitDefEqProofs +contextual (disch := omega) [law25_EmitLong.spec, law25_EmitLong, hF, lives25]
  | true =>
    rw [hf] at hF
    unfold fewM at hf
    simp only [Bool.and_eq_true, decide_eq_true_eq] at hf
    obtain ⟨⟨f1, f2⟩, f3⟩ := hf
    by_cases h4 : slots.length ≤ 400
    · have h4' : ¬ (400 : Int) < slots.length := by omega
      have hO := rOwn_eq c (by omega) (by omega)
      have hE := ECode_eq c (by omega) (by omega) slots (by omega)
      by_cases hfit : codeFits c slots = true
      · rw [if_pos hfit] at hE
        have hcan := hfit
        unfold codeFits CodeM.can at hcan
        simp only [Bool.and_eq_true, decide_eq_true_eq] at hcan
        have hge := upI_ge c hcan.1.1.1.2 (slots.map Int.toNat) c.ops.length (Nat.le_refl _)
        have hlast : hlfs (codeI c (slots.map Int.toNat)) = hlfs (upI c (slots.map Int.toNat) c.ops.length) ++ [48640#16] := by unfold codeI; rw [hlfs_append]; simp [hlfs, putM_bk]
        rw [hlast] at hE
        generalize hH : hlfs (upI c (slots.map Int.toNat) c.ops.length) = L at *
        have hLl : L.length = (upI c (slots.map Int.toNat) c.ops.length).length := by rw [← hH]; simp
        have hg : (w16s (L ++ [48640#16]))[L.length]? = some [W16 48640#16] := by simp [w16s]
        have hwl : (w16s (L ++ [48640#16])).length = L.length + 1 := by simp
        rw [← hLl] at hge
        generalize w16s (L ++ [48640#16]) = R at *
        have z1 : 5 + 4 * (c.ops.length : Int) - 1 ≤ ((L.length + 1 : Nat) : Int) := by omega
        have z2 : ((L.length + 1 : Nat) : Int) ≤ 5 + 19 * (c.ops.length : Int) := by omega
        unfold CodeM.cells at *
        simp -implicitDefEqProofs +contextual (disch := omega) [law25_EmitLong.spec, law25_EmitLong, hF, lives25, h4', hO, hE, hwl, z1, z2, hg, -getElem?_pos]
      · rw [if_neg hfit] at hE
        unfold CodeM.cells at *
        simp -implicitDefEqProofs +contextual (disch := omega) [law25_EmitLong.spec, law25_EmitLong, hF, lives25, h4', hO, hE]
    · have h4' : (400 : Int) < slots.length := by omega
      unfold CodeM.cells at *
      simp -implicitDefEqProofs +contextual (disch := omega) [law25_EmitLong.spec, law25_EmitLong, hF, lives25, h4']
theorem law25_EmitLong_law (args : List AV) (h : ArgsSh [(true, [.int .i64, .sl 4 32 [.int .i64, .int .i64, .int .i64, .int .u32], .sl 1 8 [.int .i64]]), (false, [.sl 1 8 [.int .i64]])] args) : law25_EmitLong.spec args = some (.bool true) := by
  obtain ⟨cs, _, rfl, h1, h⟩ := args_agg h
  obtain ⟨a, _, rfl, h2, h⟩ := args_one h
  obtain rfl := args_nil h
  obtain ⟨c, r, rfl, hr, _, _, _⟩ := sh_code h1
  obtain rfl := shs_nil hr
  rw [List.append_nil]
  obtain ⟨l, rfl, hl, _⟩ := sh_slint h2.1
  exact emitLong_law c l (by omega)
end Go.Abs

/-
  Wires' words: the program's function, whole.
-/
import Derived.Test.YthignlpdeaglaaaJ4
set_option linter.unusedSimpArgs false
set_option linter.unusedVariables false
namespace Go.Abs
theorem exec_of (ops : List OpM) (hl : ops.length ≤ 60000) (w t : List (BitVec 32)) (ob n : Nat) (hln : w.length = n) {X : AHeap} {r} (hr : aloop exL0 (AFr.al [(2, .rsl 1 (w32s t)), (8, .sl ob 1 0 n), (37, .rsl 4 (opRows ops)), (38, .int .i64 ops.length), (39, .int .i64 0)]) X = r) (hwl : w.length ≤ 4000) (hok : opsOk ops w.length = true) (hn : rndL ops ≤ t.length) (hw : X.WF) (hb : X.get ob = some (wBlk w)) :
    ∃ fr' X' ob', r = some (.exit 0, fr', X') ∧ fr' 8 = .sl ob' 1 0 (runOps ops w t).length ∧ X'.get ob' = some (wBlk (runOps ops w t)) := by
  subst hln
  obtain ⟨fr', X', ob', p1, p2, p3⟩ := ex_loop ops hl ops.length 0 w t ob X [] (by omega) (by omega) hok hn hw hb
  exact ⟨fr', X', ob', hr.symm.trans p1, p2, p3⟩
theorem pad_rows (inp : List (BitVec 32)) (n : Nat) : List.take n (w32s inp) ++ List.replicate (n - min inp.length n) [W32 0#32] = w32s (padM inp n) := by
  apply List.ext_getElem?
  intro i
  rw [w32s_get]
  have hpl : (padM inp n).length = n := by simp [padM]
  have hat : i < n → at0 (padM inp n) i = at0 inp i := fun h => by simp [padM, at0, List.getD_eq_getElem?_getD, h]
  by_cases h : i < n
  · rw [hpl, if_pos h, hat h]
    by_cases h2 : i < inp.length
    · rw [List.getElem?_append_left (by simp; omega), List.getElem?_take, if_pos h, w32s_get, if_pos h2]
    · rw [List.getElem?_append_right (by simp; omega), List.getElem?_replicate, if_pos (by simp; omega)]
      simp [at0, List.getD_eq_getElem?_getD, List.getElem?_eq_none (by omega : inp.length ≤ i)]
  · rw [hpl, if_neg h, List.getElem?_eq_none (by simp; omega)]
set_option maxHeartbeats 4000000 in
theorem Exec_eq (c : CodeM) (inp tape : List (BitVec 32)) (hb : c.outs.length ≤ 1000000000) (hb2 : c.ops.length ≤ 1000000000) (hi : inp.length ≤ 1000000000) (ht : tape.length ≤ 1000000000) :
    isw_Exec.spec [.agg c.cells, .rsl 1 (w32s inp), .rsl 1 (w32s tape)] = some (.tup [.rsl 1 (w32s (c.exec inp tape).1), .bool (c.exec inp tape).2]) := by
  have hC := can_eq c hb hb2
  have hR := randoms_eq c hb2
  unfold CodeM.exec
  unfold CodeM.cells at hC hR ⊢
  by_cases h1 : c.can = true
  · rw [h1] at hC
    by_cases h2 : c.randoms ≤ tape.length
    · have h2' : ¬ (tape.length : Int) < c.randoms := by omega
      have hcan := h1
      simp only [CodeM.can, Bool.and_eq_true, decide_eq_true_eq] at hcan
      obtain ⟨⟨⟨⟨q1, q2⟩, q3⟩, q4⟩, q5⟩ := hcan
      obtain ⟨n, hn⟩ : ∃ n : Nat, c.inN = n := ⟨c.inN.toNat, by omega⟩
      rw [hn] at hC hR q4 ⊢
      simp -implicitDefEqProofs +contextual (disch := omega) [isw_Exec.spec, isw_Exec, hC, hR, h1, h2, h2']
      rw [pad_rows]
      have hpl : (padM inp n).length = n := by simp [padM]
      generalize hr : aloop _ _ _ = r
      obtain ⟨fr', X', ob', rfl, p2, p3⟩ := exec_of c.ops q3 (padM inp n) tape 1 n hpl hr (by rw [hpl]; omega) (by rw [hpl]; exact q4) h2 (by (repeat' (first | assumption | with_reducible apply AHeap.WF.push | with_reducible apply AHeap.WF.set | exact AHeap.WF.empty)) <;> (simp <;> omega)) (by simp [wBlk])
      simp only [wBlk] at p3
      simp -implicitDefEqProofs +contextual (disch := omega) [p2, p3]
    · have h2' : (tape.length : Int) < c.randoms := by omega
      simp -implicitDefEqProofs +contextual (disch := omega) [isw_Exec.spec, isw_Exec, hC, hR, h1, h2, h2']
      rfl
  · rw [Bool.not_eq_true] at h1
    rw [h1] at hC
    simp -implicitDefEqProofs +contextual (disch := omega) [isw_Exec.spec, isw_Exec, hC, h1]
    rfl
end Go.Abs

import Derived.Test.YthignlpdeaglaaaQI
import Derived.Test.YthignlpdeaglaaaIxF
import Derived.Test.YthignlpdeaglaaaLoF
section
set_option linter.unusedSimpArgs false
set_option linter.unusedVariables false
namespace Go.Abs
def codeBlk (c : CodeM) : Blk := ⟨T.ty_api_Code, 3, true, [c.cells]⟩
theorem opsOk_cons (o : OpM) (l : List OpM) (w : Int) : opsOk (o :: l) w = (o.ok w && opsOk l (w + 1)) := rfl
theorem ints_at (l : List Int) (k : Nat) (h : k < l.length) : (ints l)[k]? = some [.int .i64 l[k]] := by simp [ints, h]
end Go.Abs
end
section
set_option linter.unusedSimpArgs false
set_option linter.unusedVariables false
namespace Go.Abs
def rndL (l : List OpM) : Nat := (l.filter fun o => decide (o.k = 0)).length
theorem rndL_cons (o : OpM) (l : List OpM) : rndL (o :: l) = (if o.k = 0 then 1 else 0) + rndL l := by
  unfold rndL; rw [List.filter_cons]; by_cases h : o.k = 0 <;> simp [h, Nat.add_comm]
theorem rndL_le (l : List OpM) : rndL l ≤ l.length := List.length_filter_le _ _
theorem rnd_loop (ops : List OpM) (hl : ops.length ≤ 1000000000) : ∀ (d k n : Nat) (X : AHeap) (x : List (Nat × AV)), k + d = ops.length → n ≤ k → X.WF →
    ∃ fr' X', aloop isw_randoms.l0 (AFr.al ([(3, .int .i64 n), (7, .rsl 4 (opRows ops)), (8, .int .i64 ops.length), (9, .int .i64 k)] ++ x)) X = some (.exit 0, fr', X') ∧ fr' 3 = .int .i64 (n + rndL (ops.drop k) : Nat) := by
  intro d
  induction d with
  | zero =>
    intro k n X x h hn hw
    obtain rfl : k = ops.length := by omega
    refine ⟨_, _, aloop_exit (by simp) (by simp -implicitDefEqProofs +contextual (disch := omega) [isw_randoms.l0]; exact ⟨rfl, rfl⟩), ?_⟩
    simp [rndL]
  | succ d ih =>
    intro k n X x h hn hw
    have hk : k < ops.length := by omega
    have hk' : (k : Int) < ops.length := by omega
    have hk1 : ((k + 1 : Nat) : Int) = (k : Int) + 1 := by omega
    have hn1 : ((n + 1 : Nat) : Int) = (n : Int) + 1 := by omega
    have hrow := opRows_get ops k hk
    have hdr : ops.drop k = ops[k] :: ops.drop (k + 1) := List.drop_eq_getElem_cons hk
    rw [hdr, rndL_cons]
    generalize ops[k] = o at *
    simp only [OpM.cells] at hrow
    by_cases h0 : o.k = 0
    · have st : ∃ X1 y, isw_randoms.l0 (AFr.al ([(3, .int .i64 n), (7, .rsl 4 (opRows ops)), (8, .int .i64 ops.length), (9, .int .i64 k)] ++ x)) X =
          some (.normal, AFr.al ([(3, .int .i64 (n + 1 : Nat)), (7, .rsl 4 (opRows ops)), (8, .int .i64 ops.length), (9, .int .i64 (k + 1 : Nat))] ++ y), X1) ∧ X1.WF := by
        refine ⟨?_, ?_, ?_, ?_⟩
        rotate_left; rotate_left
        · simp -implicitDefEqProofs +contextual (disch := try first | omega | assumption) [isw_randoms.l0, hrow, hk', hk1, hn1, h0]
          constructor <;> rfl
        · (repeat' (first | assumption | with_reducible apply AHeap.WF.push | with_reducible apply AHeap.WF.set)) <;> (simp <;> omega)
      obtain ⟨X1, y, s1, s2⟩ := st
      obtain ⟨fr', X', p1, p2⟩ := ih (k + 1) (n + 1) X1 y (by omega) (by omega) s2
      refine ⟨fr', X', (aloop_step s1).trans p1, ?_⟩
      rw [p2, if_pos h0, Nat.add_assoc]
    · have st : ∃ X1 y, isw_randoms.l0 (AFr.al ([(3, .int .i64 n), (7, .rsl 4 (opRows ops)), (8, .int .i64 ops.length), (9, .int .i64 k)] ++ x)) X =
          some (.normal, AFr.al ([(3, .int .i64 n), (7, .rsl 4 (opRows ops)), (8, .int .i64 ops.length), (9, .int .i64 (k + 1 : Nat))] ++ y), X1) ∧ X1.WF := by
        refine ⟨?_, ?_, ?_, ?_⟩
        rotate_left; rotate_left
        · simp -implicitDefEqProofs +contextual (disch := try first | omega | assumption) [isw_randoms.l0, hrow, hk', hk1, h0]
          constructor <;> rfl
        · (repeat' (first | assumption | with_reducible apply AHeap.WF.push | with_reducible apply AHeap.WF.set)) <;> (simp <;> omega)
      obtain ⟨X1, y, s1, s2⟩ := st
      obtain ⟨fr', X', p1, p2⟩ := ih (k + 1) n X1 y (by omega) (by omega) s2
      refine ⟨fr', X', (aloop_step s1).trans p1, ?_⟩
      rw [p2, if_neg h0, Nat.zero_add]
theorem rnd_of (ops : List OpM) (hl : ops.length ≤ 1000000000) {X : AHeap} {r} (hr : aloop isw_randoms.l0 (AFr.al [(3, .int .i64 0), (7, .rsl 4 (opRows ops)), (8, .int .i64 ops.length), (9, .int .i64 0)]) X = r) (hw : X.WF) :
    ∃ fr' X', r = some (.exit 0, fr', X') ∧ fr' 3 = .int .i64 (rndL ops : Nat) := by
  obtain ⟨fr', X', p1, p2⟩ := rnd_loop ops hl ops.length 0 0 X [] (by omega) (by omega) hw
  rw [List.drop_zero, Nat.zero_add] at p2
  exact ⟨fr', X', hr.symm.trans p1, p2⟩
theorem randoms_eq (c : CodeM) (hl : c.ops.length ≤ 1000000000) : isw_randoms.spec [.agg c.cells] = some (.int .i64 (c.randoms : Nat)) := by
  unfold CodeM.cells
  simp -implicitDefEqProofs +contextual (disch := omega) [isw_randoms.spec, isw_randoms]
  generalize hr : aloop _ _ _ = r
  obtain ⟨fr', X', rfl, p2⟩ := rnd_of c.ops hl hr (by (repeat' (first | assumption | with_reducible apply AHeap.WF.push | with_reducible apply AHeap.WF.set | exact AHeap.WF.empty)) <;> (simp <;> omega))
  simp -implicitDefEqProofs +contextual (disch := omega) [p2]
  rfl
theorem Randoms_eq' (c : CodeM) (hl : c.ops.length ≤ 1000000000) : isw_Randoms.spec [.agg c.cells] = some (.int .i64 (c.randoms : Nat)) := by
  have h := randoms_eq c hl
  unfold CodeM.cells at h ⊢
  simp -implicitDefEqProofs +contextual (disch := omega) [isw_Randoms.spec, isw_Randoms, h]
end Go.Abs
end
section
set_option linter.unusedSimpArgs false
set_option linter.unusedVariables false
end
section
set_option linter.unusedSimpArgs false
set_option linter.unusedVariables false
namespace Go.Abs
def wBlk (w : List (BitVec 32)) : Blk := ⟨T.ty_uint32, 1, true, w32s w⟩
theorem runOps_cons (o : OpM) (l : List OpM) (w t : List (BitVec 32)) : runOps (o :: l) w t =
    runOps l (w ++ [if o.k = 0 then at0 t 0 else stepW o (if 0 < takesM o.k then at0 w o.a.toNat else 0#32) (if 1 < takesM o.k then at0 w o.b.toNat else 0#32)]) (if o.k = 0 then t.tail else t) := by
  by_cases h : o.k = 0
  · rw [runOps, if_pos h, if_pos h, if_pos h]
  · rw [runOps, if_neg h, if_neg h, if_neg h]
end Go.Abs
end
section
set_option linter.unusedSimpArgs false
set_option linter.unusedVariables false
end
section
set_option linter.unusedSimpArgs false
set_option linter.unusedVariables false
end

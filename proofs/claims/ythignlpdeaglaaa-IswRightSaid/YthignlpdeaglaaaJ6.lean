/-
  What goes out: the program's function.
-/
import Derived.Test.YthignlpdeaglaaaJ5
set_option linter.unusedSimpArgs false
set_option linter.unusedVariables false
namespace Go.Abs
def outV (w : List (BitVec 32)) (x : Int) : BitVec 32 := if 0 ≤ x then at0 w x.toNat else 0#32
def Und (X : AHeap) (v : AV) (l : List (BitVec 32)) : Prop := (l = [] ∧ v = .nils) ∨ ∃ ob, v = .sl ob 1 0 l.length ∧ X.get ob = some (wBlk l)
def ouFr (outs : List Int) (w : List (BitVec 32)) (v : AV) (k : Nat) (x : List (Nat × AV)) : AFr :=
  AFr.al ([(1, .rsl 1 (w32s w)), (5, v), (10, .rsl 1 (ints outs)), (11, .int .i64 outs.length), (12, .int .i64 k)] ++ x)
theorem ou_round (outs : List Int) (hl : outs.length ≤ 1000000000) (w : List (BitVec 32)) (hw : w.length ≤ 1000000000) (k : Nat) (hk : k < outs.length) (l : List (BitVec 32)) (hll : l.length ≤ k) (v : AV) (X : AHeap) (x : List (Nat × AV)) (hX : X.WF) (hv : Und X v l) (o : Int) (ho : outs[k] = o) :
    ∃ X1 ob y, isw_Outs.l0 (ouFr outs w v k x) X = some (.normal, ouFr outs w (.sl ob 1 0 (l ++ [outV w o]).length) (k + 1) y, X1) ∧ X1.WF ∧ X1.get ob = some (wBlk (l ++ [outV w o])) := by
  have hk' : (k : Int) < outs.length := by omega
  have hk1 : ((k + 1 : Nat) : Int) = (k : Int) + 1 := by omega
  have hrow := ints_at outs k hk
  rw [ho] at hrow
  by_cases h0 : 0 ≤ o
  · obtain ⟨A, rfl⟩ : ∃ A : Nat, o = A := ⟨o.toNat, by omega⟩
    by_cases hA : A < w.length
    · have e : outV w A = at0 w A := by simp [outV]
      rw [e]
      have hA' : (A : Int) < w.length := by omega
      rcases hv with ⟨rfl, rfl⟩ | ⟨ob, rfl, hb⟩
      · skip
        refine ⟨?_, ?_, ?_, ?_, ?_, ?_⟩
        rotate_left; rotate_left; rotate_left
        · simp -implicitDefEqProofs +contextual (disch := try first | omega | assumption) [isw_Outs.l0, ouFr, wBlk, hrow, hk', hk1, hA, hA']
          constructor <;> rfl
        · (repeat' (first | assumption | with_reducible apply AHeap.WF.push | with_reducible apply AHeap.WF.set)) <;> (simp <;> omega)
        · simp (disch := omega) [wBlk, w32s_snoc, w32s]
      · have hbl := hX _ _ hb
        simp only [wBlk] at hb
        refine ⟨?_, ?_, ?_, ?_, ?_, ?_⟩
        rotate_left; rotate_left; rotate_left
        · simp -implicitDefEqProofs +contextual (disch := try first | omega | assumption) [isw_Outs.l0, ouFr, wBlk, hrow, hk', hk1, hA, hA', hb]
          constructor <;> rfl
        · (repeat' (first | assumption | with_reducible apply AHeap.WF.push | with_reducible apply AHeap.WF.set)) <;> (simp <;> omega)
        · simp (disch := omega) [wBlk, w32s_snoc, w32s]
    · have e : outV w A = 0#32 := by simp [outV, at0, List.getD_eq_getElem?_getD, List.getElem?_eq_none (by omega : w.length ≤ A)]
      rw [e]
      have hA' : ¬ (A : Int) < w.length := by omega
      rcases hv with ⟨rfl, rfl⟩ | ⟨ob, rfl, hb⟩
      · skip
        refine ⟨?_, ?_, ?_, ?_, ?_, ?_⟩
        rotate_left; rotate_left; rotate_left
        · simp -implicitDefEqProofs +contextual (disch := try first | omega | assumption) [isw_Outs.l0, ouFr, wBlk, hrow, hk', hk1, hA, hA']
          constructor <;> rfl
        · (repeat' (first | assumption | with_reducible apply AHeap.WF.push | with_reducible apply AHeap.WF.set)) <;> (simp <;> omega)
        · simp (disch := omega) [wBlk, w32s_snoc, w32s]
      · have hbl := hX _ _ hb
        simp only [wBlk] at hb
        refine ⟨?_, ?_, ?_, ?_, ?_, ?_⟩
        rotate_left; rotate_left; rotate_left
        · simp -implicitDefEqProofs +contextual (disch := try first | omega | assumption) [isw_Outs.l0, ouFr, wBlk, hrow, hk', hk1, hA, hA', hb]
          constructor <;> rfl
        · (repeat' (first | assumption | with_reducible apply AHeap.WF.push | with_reducible apply AHeap.WF.set)) <;> (simp <;> omega)
        · simp (disch := omega) [wBlk, w32s_snoc, w32s]
  · have e : outV w o = 0#32 := by simp [outV, h0]
    rw [e]
    rcases hv with ⟨rfl, rfl⟩ | ⟨ob, rfl, hb⟩
    · skip
      refine ⟨?_, ?_, ?_, ?_, ?_, ?_⟩
      rotate_left; rotate_left; rotate_left
      · simp -implicitDefEqProofs +contextual (disch := try first | omega | assumption) [isw_Outs.l0, ouFr, wBlk, hrow, hk', hk1, h0]
        constructor <;> rfl
      · (repeat' (first | assumption | with_reducible apply AHeap.WF.push | with_reducible apply AHeap.WF.set)) <;> (simp <;> omega)
      · simp (disch := omega) [wBlk, w32s_snoc, w32s]
    · have hbl := hX _ _ hb
      simp only [wBlk] at hb
      refine ⟨?_, ?_, ?_, ?_, ?_, ?_⟩
      rotate_left; rotate_left; rotate_left
      · simp -implicitDefEqProofs +contextual (disch := try first | omega | assumption) [isw_Outs.l0, ouFr, wBlk, hrow, hk', hk1, h0, hb]
        constructor <;> rfl
      · (repeat' (first | assumption | with_reducible apply AHeap.WF.push | with_reducible apply AHeap.WF.set)) <;> (simp <;> omega)
      · simp (disch := omega) [wBlk, w32s_snoc, w32s]
theorem ou_loop (outs : List Int) (hl : outs.length ≤ 1000000000) (w : List (BitVec 32)) (hw : w.length ≤ 1000000000) : ∀ (d k : Nat) (l : List (BitVec 32)) (v : AV) (X : AHeap) (x : List (Nat × AV)), k + d = outs.length → l.length ≤ k → X.WF → Und X v l →
    ∃ fr' X' v', aloop isw_Outs.l0 (ouFr outs w v k x) X = some (.exit 0, fr', X') ∧ fr' 5 = v' ∧ Und X' v' (l ++ (outs.drop k).map (outV w)) := by
  intro d
  induction d with
  | zero =>
    intro k l v X x h hll hX hv
    obtain rfl : k = outs.length := by omega
    rw [List.drop_length, List.map_nil, List.append_nil]
    refine ⟨_, _, v, aloop_exit (by simp) (by simp -implicitDefEqProofs +contextual (disch := omega) [isw_Outs.l0, ouFr]; exact rfl), ?_, hv⟩
    simp
  | succ d ih =>
    intro k l v X x h hll hX hv
    have hk : k < outs.length := by omega
    have hdr : outs.drop k = outs[k] :: outs.drop (k + 1) := List.drop_eq_getElem_cons hk
    obtain ⟨X1, ob, y, s1, s2, s3⟩ := ou_round outs hl w hw k hk l hll v X x hX hv outs[k] rfl
    obtain ⟨fr', X', v', p1, p2, p3⟩ := ih (k + 1) (l ++ [outV w outs[k]]) _ X1 y (by omega) (by simp; omega) s2 (.inr ⟨ob, rfl, s3⟩)
    refine ⟨fr', X', v', (aloop_step s1).trans p1, p2, ?_⟩
    rw [hdr, List.map_cons, List.append_cons]
    exact p3
theorem ou_of (outs : List Int) (hl : outs.length ≤ 1000000000) (w : List (BitVec 32)) (hw : w.length ≤ 1000000000) {X : AHeap} {r} (hr : aloop isw_Outs.l0 (AFr.al [(1, .rsl 1 (w32s w)), (5, .nils), (10, .rsl 1 (ints outs)), (11, .int .i64 outs.length), (12, .int .i64 0)]) X = r) (hX : X.WF) :
    ∃ fr' X' v', r = some (.exit 0, fr', X') ∧ fr' 5 = v' ∧ Und X' v' (outs.map (outV w)) := by
  obtain ⟨fr', X', v', p1, p2, p3⟩ := ou_loop outs hl w hw outs.length 0 [] .nils X [] (by omega) (by simp) hX (.inl ⟨rfl, rfl⟩)
  exact ⟨fr', X', v', hr.symm.trans p1, p2, p3⟩
theorem Outs_eq (c : CodeM) (w : List (BitVec 32)) (hb : c.outs.length ≤ 1000000000) (hb2 : c.ops.length ≤ 1000000000) (hw : w.length ≤ 1000000000) :
    isw_Outs.spec [.agg c.cells, .rsl 1 (w32s w)] = some (.rsl 1 (w32s (c.outsM w))) := by
  unfold CodeM.cells CodeM.outsM
  simp -implicitDefEqProofs +contextual (disch := omega) [isw_Outs.spec, isw_Outs]
  generalize hr : aloop _ _ _ = r
  obtain ⟨fr', X', v', rfl, p2, p3⟩ := ou_of c.outs hb w hw hr (by (repeat' (first | assumption | with_reducible apply AHeap.WF.push | with_reducible apply AHeap.WF.set | exact AHeap.WF.empty)) <;> (simp <;> omega))
  have hm : c.outs.map (fun x => if 0 ≤ x then at0 w x.toNat else 0#32) = c.outs.map (outV w) := rfl
  rw [hm]
  generalize c.outs.map (outV w) = l at *
  rcases p3 with ⟨rfl, rfl⟩ | ⟨ob, rfl, h⟩
  · simp -implicitDefEqProofs +contextual (disch := omega) [p2]
    rfl
  · simp only [wBlk] at h
    simp -implicitDefEqProofs +contextual (disch := omega) [p2, h]
end Go.Abs

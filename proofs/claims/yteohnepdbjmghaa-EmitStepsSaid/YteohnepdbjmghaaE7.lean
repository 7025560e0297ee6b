/-
  Steps as instructions: what a step does; texts joined; the step whole.
-/
import Derived.Test.YteohnepdbjmghaaE6
set_option linter.unusedSimpArgs false
set_option linter.unusedVariables false
namespace Go.Abs
open Th
def doesI (o : OpM) : List InsM :=
  if o.k = 1 then [alI 0 0 1] else if o.k = 2 then [alI 1 0 1] else if o.k = 3 then [alI 15 0 0] else if o.k = 4 then [lfI 0 o.n.toNat]
  else if o.k = 5 then (if o.n = 0#32 then [lfI 0 0] else [⟨5, 0, 0, 0, o.n.toNat⟩]) else if o.k = 6 then [mvI 2 ((32#32 - o.n) % 32#32).toNat, alI 7 0 2]
  else if o.k = 7 then constI o.n else if o.k = 0 then [⟨12, 0, 5, 0, 0⟩] else []
theorem does_eq (o : OpM) : emit_does.spec [.agg o.cells] = some (.rsl 5 (insRows (doesI o))) := by
  have hc := const_eq o.n
  obtain ⟨k, a, b, n⟩ := o
  unfold OpM.cells doesI
  dsimp only at *
  by_cases h1 : k = 1
  · subst h1; simp -implicitDefEqProofs +contextual (disch := omega) [emit_does.spec, emit_does, ealu_eq, insRows, insRow, alI]
  rw [if_neg h1]
  by_cases h2 : k = 2
  · subst h2; simp -implicitDefEqProofs +contextual (disch := omega) [emit_does.spec, emit_does, ealu_eq, insRows, insRow, alI]
  rw [if_neg h2]
  by_cases h3 : k = 3
  · subst h3; simp -implicitDefEqProofs +contextual (disch := omega) [emit_does.spec, emit_does, ealu_eq, insRows, insRow, alI]
  rw [if_neg h3]
  by_cases h4 : k = 4
  · subst h4; simp -implicitDefEqProofs +contextual (disch := omega) [emit_does.spec, emit_does, left_eq, insRows, insRow, lfI]
  rw [if_neg h4]
  by_cases h5 : k = 5
  · subst h5
    by_cases hn : n = 0#32
    · subst hn; simp -implicitDefEqProofs +contextual (disch := omega) [emit_does.spec, emit_does, left_eq, insRows, insRow, lfI]
    · simp -implicitDefEqProofs +contextual (disch := omega) [emit_does.spec, emit_does, left_eq, insRows, insRow, hn]
  rw [if_neg h5]
  by_cases h6 : k = 6
  · subst h6
    generalize hm : (32#32 - n) % 32#32 = m
    simp -implicitDefEqProofs +contextual (disch := omega) [emit_does.spec, emit_does, mov_eq, ealu_eq, insRows, insRow, alI, mvI, hm]
  rw [if_neg h6]
  by_cases h7 : k = 7
  · subst h7
    rw [if_pos rfl]
    generalize constI n = l at *
    simp -implicitDefEqProofs +contextual (disch := omega) [emit_does.spec, emit_does, hc]
  rw [if_neg h7]
  by_cases h0 : k = 0
  · subst h0; simp -implicitDefEqProofs +contextual (disch := omega) [emit_does.spec, emit_does, insRows, insRow]
  rw [if_neg h0]
  simp -implicitDefEqProofs +contextual (disch := omega) [emit_does.spec, emit_does, insRows, h1, h2, h3, h4, h5, h6, h7, h0]
@[simp] theorem slice_nils_to (n : Nat) (k : IntKind) : asliceR (.sl n) .nils none (some (.int k 0)) none = some .nils := rfl
theorem Grow_eq (n : Nat) (h0 : 0 < n) (h : n ≤ 1000000) (H : AHeap) : slices_Grow_bauta_api_Ins.spec [.nils, .int .i64 n] H = some (.sl H.next 5 0 0, H.push ⟨T.ty_api_Ins, 5, true, []⟩) := by
  have h1 : ¬ (n : Int) < 0 := by omega
  have h2 : (0 : Int) < n := by omega
  simp -implicitDefEqProofs +contextual (disch := omega) [slices_Grow_bauta_api_Ins.spec, slices_Grow_bauta_api_Ins, h1, h2]
theorem Concat_eq (a b c : List InsM) (ha : 1 ≤ a.length) (hl : a.length + b.length + c.length ≤ 1000) (H : AHeap) (hw : H.WF) (ab sb : Nat) (hab : H.get ab = some ⟨T.ty_api_Ins, 5, true, insRows a⟩) (hsb : H.get sb = some ⟨T.ty_sl_api_Ins, 1, false, [[.sl ab 5 0 a.length], [.rsl 5 (insRows b)], [.rsl 5 (insRows c)]]⟩) :
    ∃ v H', slices_Concat_bauta_api_Ins.spec [.sl sb 1 0 3] H = some (v, H') ∧ ∃ ob, v = .sl ob 5 0 (a ++ b ++ c).length ∧ H'.get ob = some ⟨T.ty_api_Ins, 5, true, insRows (a ++ b ++ c)⟩ := by
  have hs1 : ¬ ((a.length : Int)) < 0 := by omega
  have hab' := hw _ _ hab
  have hsb' := hw _ _ hsb
  have hG := fun H => Grow_eq (a.length + b.length + c.length) (by omega) (by omega) H
  have hsum : ((a.length + b.length + c.length : Nat) : Int) = (a.length : Int) + b.length + c.length := by omega
  rw [hsum] at hG
  have hne : ¬ ab = sb := by intro e; subst e; rw [hab] at hsb; simp at hsb
  have hne' : ¬ sb = ab := fun e => hne e.symm
  have ta := insRows_all a
  have tb := insRows_all b
  have tc := insRows_all c
  refine ⟨_, _, by simp -implicitDefEqProofs +contextual (disch := omega) [slices_Concat_bauta_api_Ins.spec, slices_Concat_bauta_api_Ins, aloop_unroll, slices_Concat_bauta_api_Ins.l0, slices_Concat_bauta_api_Ins.l1, hsb, hab, hG, hne, hne', ta, tb, tc]; exact ⟨rfl, rfl⟩, _, by rw [List.length_append, List.length_append], ?_⟩
  simp [← insRows_append]
def regsI : List Nat → Int → List InsM
  | [], _ => []
  | x :: l, r => getI r x ++ regsI l (r + 1)
def headI (src : List Nat) : List InsM := mvI 0 0 :: (if 1 < src.length then [mvI 1 0] else [])
def stepI (o : OpM) (dst : Nat) (src : List Nat) : List InsM := headI src ++ regsI src 0 ++ doesI o ++ putI dst
theorem getI_len (r : Int) (n : Nat) : (getI r n).length ≤ 4 := by have := (atI_len n).2; simp [getI]; omega
theorem putI_len (n : Nat) : (putI n).length ≤ 4 := by have := (atI_len n).2; simp [putI]; omega
theorem doesI_len (o : OpM) : (doesI o).length ≤ 8 := by
  have := constUp_len o.n 4
  unfold doesI
  repeat' split
  all_goals first | (simp; done) | (unfold constI; omega)
theorem concat_of {sb : Nat} {H : AHeap} {r : Option (AV × AHeap)} (hr : slices_Concat_bauta_api_Ins.spec [.sl sb 1 0 3] H = r) (a b c : List InsM) (ha : 1 ≤ a.length) (hl : a.length + b.length + c.length ≤ 1000) (hw : H.WF) (ab : Nat) (hab : H.get ab = some ⟨T.ty_api_Ins, 5, true, insRows a⟩) (hsb : H.get sb = some ⟨T.ty_sl_api_Ins, 1, false, [[.sl ab 5 0 a.length], [.rsl 5 (insRows b)], [.rsl 5 (insRows c)]]⟩) :
    ∃ ob H', r = some (.sl ob 5 0 (a ++ b ++ c).length, H') ∧ H'.get ob = some ⟨T.ty_api_Ins, 5, true, insRows (a ++ b ++ c)⟩ := by
  subst hr
  obtain ⟨v, H', h, ob, rfl, hg⟩ := Concat_eq a b c ha hl H hw ab sb hab hsb
  exact ⟨ob, H', h, hg⟩
theorem estep_eq (o : OpM) (dst : Nat) (hd : dst ≤ 16000) (src : List Nat) (hs : src.length ≤ 2) (hx : ∀ x ∈ src, x ≤ 16000) :
    emit_step.spec [.agg o.cells, .int .i64 dst, .rsl 1 (ints (src.map fun x : Nat => (x : Int)))] = some (.rsl 5 (insRows (stepI o dst src))) := by
  have hdo := does_eq o
  have hpu := eput_eq dst hd
  have hl1 := doesI_len o
  have hl2 := putI_len dst
  unfold OpM.cells at hdo ⊢
  generalize hD : doesI o = D at *
  generalize hP : putI dst = Q at *
  match src, hs, hx with
  | [], _, _ =>
    have hst : [mvI 0 0] ++ D ++ Q = stepI o dst [] := by simp [stepI, headI, regsI, hD, hP]
    generalize stepI o dst [] = L at *
    simp -implicitDefEqProofs +contextual (disch := omega) [emit_step.spec, emit_step, mov_eq, aloop_unroll, emit_step.l0, ints, hdo, hpu]
    generalize hr : slices_Concat_bauta_api_Ins.spec _ _ = r
    obtain ⟨ob, H', rfl, hg⟩ := concat_of hr [mvI 0 0] D Q (by simp) (by simp; omega) (by (repeat' (first | assumption | with_reducible apply AHeap.WF.push | with_reducible apply AHeap.WF.set | with_reducible apply killAll_wf | exact AHeap.WF.empty)) <;> (simp <;> omega)) 1 (by simp [insRows, insRow, mvI]) (by simp)
    rw [hst] at hg ⊢
    have ht := insRows_all L
    simp -implicitDefEqProofs +contextual (disch := omega) [hg, ht]
  | [x], _, hx =>
    have hg0 := get_eq 0 x (hx x (by simp))
    have hl0 := getI_len 0 x
    have hst : mvI 0 0 :: getI 0 x ++ D ++ Q = stepI o dst [x] := by simp [stepI, headI, regsI, hD, hP]
    generalize stepI o dst [x] = L at *
    generalize getI 0 x = g0 at *
    have t0 := insRows_all g0
    simp -implicitDefEqProofs +contextual (disch := omega) [emit_step.spec, emit_step, mov_eq, aloop_unroll, emit_step.l0, ints, hdo, hpu, hg0, t0]
    generalize hr : slices_Concat_bauta_api_Ins.spec _ _ = r
    obtain ⟨ob, H', rfl, hg⟩ := concat_of hr (mvI 0 0 :: g0) D Q (by simp) (by simp; omega) (by (repeat' (first | assumption | with_reducible apply AHeap.WF.push | with_reducible apply AHeap.WF.set | with_reducible apply killAll_wf | exact AHeap.WF.empty)) <;> (simp <;> omega)) 2 (by simp [insRows, insRow, mvI]) (by simp; omega)
    rw [hst] at hg ⊢
    have ht := insRows_all L
    simp -implicitDefEqProofs +contextual (disch := omega) [hg, ht]
  | [x, y], _, hx =>
    have hg0 := get_eq 0 x (hx x (by simp))
    have hg1 := get_eq 1 y (hx y (by simp))
    have hl0 := getI_len 0 x
    have hl1' := getI_len 1 y
    have hst : mvI 0 0 :: mvI 1 0 :: (getI 0 x ++ getI 1 y) ++ D ++ Q = stepI o dst [x, y] := by simp [stepI, headI, regsI, hD, hP]
    generalize stepI o dst [x, y] = L at *
    generalize getI 0 x = g0 at *
    generalize getI 1 y = g1 at *
    have t0 := insRows_all g0
    have t1 := insRows_all g1
    simp -implicitDefEqProofs +contextual (disch := omega) [emit_step.spec, emit_step, mov_eq, aloop_unroll, emit_step.l0, ints, hdo, hpu, hg0, t0, hg1, t1]
    generalize hr : slices_Concat_bauta_api_Ins.spec _ _ = r
    obtain ⟨ob, H', rfl, hg⟩ := concat_of hr (mvI 0 0 :: mvI 1 0 :: (g0 ++ g1)) D Q (by simp) (by simp; omega) (by (repeat' (first | assumption | with_reducible apply AHeap.WF.push | with_reducible apply AHeap.WF.set | with_reducible apply killAll_wf | exact AHeap.WF.empty)) <;> (simp <;> omega)) 5 (by simp [insRows, insRow, mvI]) (by simp; omega)
    rw [hst] at hg ⊢
    have ht := insRows_all L
    simp -implicitDefEqProofs +contextual (disch := omega) [hg, ht]
end Go.Abs

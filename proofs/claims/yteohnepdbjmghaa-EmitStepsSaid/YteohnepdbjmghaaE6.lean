/-
  Steps as instructions: constants, what a step does, the step whole.
-/
import Derived.Test.YteohnepdbjmghaaE5
set_option linter.unusedSimpArgs false
set_option linter.unusedVariables false
namespace Go.Abs
open Th
def byteI (v : BitVec 32) (j : Nat) : Nat := ((v >>> (24 - 8 * j)) &&& 255#32).toNat
def constUp (v : BitVec 32) : Nat → List InsM
  | 0 => []
  | j + 1 => if constUp v j ≠ [] then constUp v j ++ [lfI 0 8, adI 0 (byteI v j)] else if 0 < byteI v j ∨ j = 3 then [mvI 0 (byteI v j)] else []
def constI (v : BitVec 32) : List InsM := constUp v 4
theorem constUp_len (v : BitVec 32) : ∀ j, (constUp v j).length ≤ 2 * j
  | 0 => by simp [constUp]
  | j + 1 => by
    have := constUp_len v j
    unfold constUp
    repeat' split
    all_goals simp; try omega
def InsUp (H : AHeap) (v : AV) (l : List InsM) : Prop := (l = [] ∧ v = .nils) ∨ (l ≠ [] ∧ ∃ ob, v = .sl ob 5 0 l.length ∧ H.get ob = some ⟨T.ty_api_Ins, 5, true, insRows l⟩)
noncomputable abbrev csL := emit_constant.l0 emit_left.spec emit_add.spec emit_mov.spec
theorem const_loop (v : BitVec 32) (H : AHeap) (hw : H.WF) {r} (hr : aloop csL (AFr.al [(0, W32 v), (3, .nils), (4, .int .i64 24)]) H = r) :
    ∃ e fr' H', r = some (e, fr', H') ∧ (e = .exit 0 ∧ ∃ v3 y, fr' = AFr.al ([(0, W32 v), (3, v3)] ++ y) ∧ InsUp H' v3 (constI v)) := by
  refine run_of hr (aloop_each 4 (fun j fr H => H.WF ∧ ∃ v3 y, fr = AFr.al ([(0, W32 v), (3, v3), (4, .int .i64 (24 - 8 * j : Int))] ++ y) ∧ InsUp H v3 (constUp v j)) _ (fun j hj fr H hR => ?_) (fun fr H hR => ?_) ⟨hw, .nils, [], rfl, .inl ⟨rfl, rfl⟩⟩)
  · obtain ⟨hw, v3, y, rfl, hR⟩ := hR
    have hk : (0 : Int) ≤ 24 - 8 * j := by omega
    have hk2 : (24 - 8 * (j : Int)).toNat = 24 - 8 * j := by omega
    have hj1 : (24 - 8 * ((j + 1 : Nat) : Int)) = 24 - 8 * (j : Int) - 8 := by omega
    have hbl : byteI v j ≤ 255 := by
      unfold byteI
      rw [BitVec.toNat_and]
      exact Nat.and_le_right
    have hstep : constUp v (j + 1) = if constUp v j ≠ [] then constUp v j ++ [lfI 0 8, adI 0 (byteI v j)] else if 0 < byteI v j ∨ j = 3 then [mvI 0 (byteI v j)] else [] := rfl
    have hll := constUp_len v j
    rw [hstep, hj1]
    generalize constUp v j = l at *
    have hbyte : ((v >>> (24 - 8 * j)) &&& 255#32).toNat = byteI v j := rfl
    generalize byteI v j = b at *
    rcases hR with ⟨rfl, rfl⟩ | ⟨hne, ob, rfl, hb⟩
    · rw [if_neg (by simp)]
      by_cases hp : 0 < b
      · rw [if_pos (.inl hp)]
        have hp' : (0 : Int) < b := by omega
        refine ⟨_, _, _, by simp -implicitDefEqProofs +contextual (disch := omega) [emit_constant.l0, hk, hk2, hbyte, hp', mov_eq]; first | rfl | exact ⟨rfl, rfl⟩ | exact ⟨rfl, rfl, rfl⟩, .inl ⟨rfl, ?_, _, _, rfl, .inr ⟨by simp, _, rfl, ?_⟩⟩⟩
        · (repeat' (first | assumption | with_reducible apply AHeap.WF.push | with_reducible apply AHeap.WF.set | with_reducible apply killAll_wf | exact AHeap.WF.empty)) <;> (simp <;> omega)
        · simp [insRows, insRow, mvI]
      · obtain rfl : b = 0 := by omega
        by_cases h3 : j = 3
        · subst h3
          rw [if_pos (.inr rfl)]
          have hb3 : v.toNat &&& 255 = 0 := by simpa using hbyte
          refine ⟨_, _, _, by simp -implicitDefEqProofs +contextual (disch := omega) [emit_constant.l0, hb3, mov_eq]; first | rfl | exact ⟨rfl, rfl⟩ | exact ⟨rfl, rfl, rfl⟩, .inl ⟨rfl, ?_, _, _, rfl, .inr ⟨by simp, _, rfl, ?_⟩⟩⟩
          · (repeat' (first | assumption | with_reducible apply AHeap.WF.push | with_reducible apply AHeap.WF.set | with_reducible apply killAll_wf | exact AHeap.WF.empty)) <;> (simp <;> omega)
          · simp [insRows, insRow, mvI]
        · rw [if_neg (by omega)]
          have hne : ¬ (24 - 8 * (j : Int)) = 0 := by omega
          refine ⟨_, _, _, by simp -implicitDefEqProofs +contextual (disch := omega) [emit_constant.l0, hk, hk2, hbyte, hne, mov_eq]; first | rfl | exact ⟨rfl, rfl⟩ | exact ⟨rfl, rfl, rfl⟩, .inl ⟨rfl, hw, _, _, rfl, .inl ⟨rfl, rfl⟩⟩⟩
    · rw [if_pos hne]
      have hob := hw _ _ hb
      have hpos : 0 < l.length := List.length_pos_iff.2 hne
      have hpos' : (0 : Int) < l.length := by omega
      refine ⟨_, _, _, by simp -implicitDefEqProofs +contextual (disch := omega) [emit_constant.l0, hk, hk2, hbyte, left_eq, eadd_eq, hb, hpos']; first | rfl | exact ⟨rfl, rfl⟩ | exact ⟨rfl, rfl, rfl⟩, .inl ⟨rfl, ?_, _, _, rfl, .inr ⟨by simp, _, by rw [List.length_append]; rfl, ?_⟩⟩⟩
      · (repeat' (first | assumption | with_reducible apply AHeap.WF.push | with_reducible apply AHeap.WF.set | with_reducible apply killAll_wf | exact AHeap.WF.empty)) <;> (simp <;> omega)
      · simp [insRows, insRow, lfI, adI]
  · obtain ⟨hw, v3, y, rfl, hR⟩ := hR
    refine ⟨_, _, _, by simp -implicitDefEqProofs +contextual (disch := omega) [emit_constant.l0]; first | rfl | exact ⟨rfl, rfl⟩ | exact ⟨rfl, rfl, rfl⟩, by simp, rfl, _, _, rfl, hR⟩
theorem const_eq (v : BitVec 32) : emit_constant.spec [W32 v] = some (.rsl 5 (insRows (constI v))) := by
  simp -implicitDefEqProofs +contextual (disch := omega) [emit_constant.spec, emit_constant]
  generalize hr : aloop _ _ _ = r
  obtain ⟨e, fr, X, rfl, rfl, v3, y, rfl, hR⟩ := const_loop v _ AHeap.WF.empty hr
  have hl := constUp_len v 4
  unfold constI at *
  generalize constUp v 4 = l at *
  rcases hR with ⟨rfl, rfl⟩ | ⟨hne, ob, rfl, hb⟩
  · simp -implicitDefEqProofs +contextual (disch := omega) [insRows]
  · have ht := insRows_all l
    simp -implicitDefEqProofs +contextual (disch := omega) [hb, ht]
end Go.Abs

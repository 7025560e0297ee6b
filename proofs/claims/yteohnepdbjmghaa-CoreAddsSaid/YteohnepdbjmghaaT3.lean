/-
  Instructions and their halfwords: Take.
-/
import Derived.Test.YteohnepdbjmghaaT2
set_option linter.unusedSimpArgs false
set_option linter.unusedVariables false
namespace Go.Abs
open Th
theorem take_step (op : Nat) (hop : op ≤ 20) (h : BitVec 16) (H : AHeap) (hw : H.WF) (i0 : InsM) (h0 : H.get 0 = some (insBlk i0)) : ∃ H' : AHeap,
    takeL (AFr.al [(0, W16 h), (2, .ptr 0 5 0 0), (10, .int .i64 (op : Nat))]) H = (if isN op h.toNat = true then some (.ret, AFr.al [(2, .ptr 0 5 0 0), (3, .int .i64 0)], H') else some (.normal, AFr.al [(0, W16 h), (2, .ptr 0 5 0 0), (10, .int .i64 (op + 1 : Nat))], H')) ∧
    H'.WF ∧ H'.get 0 = some (insBlk (if isN op h.toNat = true then candN op h.toNat else i0)) := by
  by_cases e : op = 5 ∨ op = 6 ∨ op = 17 ∨ op = 18
  · rcases e with rfl | rfl | rfl | rfl
    · exact take5 h H hw i0 h0
    · exact take6 h H hw i0 h0
    · exact take17 h H hw i0 h0
    · exact take18 h H hw i0 h0
  · exact take_most op (by omega) h H hw i0 h0
theorem take_loop (h : BitVec 16) : ∀ (k s : Nat) (H : AHeap) (i0 : InsM), s + k = 21 → H.WF → H.get 0 = some (insBlk i0) → ∃ H' : AHeap,
    aloop takeL (AFr.al [(0, W16 h), (2, .ptr 0 5 0 0), (10, .int .i64 (s : Nat))]) H = (if (takeGo h.toNat k s).2 = 0 then some (.ret, AFr.al [(2, .ptr 0 5 0 0), (3, .int .i64 0)], H') else some (.exit 0, AFr.al [(0, W16 h), (2, .ptr 0 5 0 0), (10, .int .i64 21), (11, .bool false)], H')) ∧
    H'.WF ∧ ∃ i1, H'.get 0 = some (insBlk i1) ∧ ((takeGo h.toNat k s).2 = 0 → i1 = (takeGo h.toNat k s).1)
  | 0, s, H, i0, hs, hw, h0 => by
    have hs' : s = 21 := by omega
    subst hs'
    refine ⟨H, ?_, hw, i0, h0, fun q => by simp [takeGo] at q⟩
    rw [if_neg (by simp [takeGo])]
    exact aloop_exit (by simp) (by simp -implicitDefEqProofs +contextual (disch := omega) [takeL, thumb_Take.l0])
  | k + 1, s, H, i0, hs, hw, h0 => by
    obtain ⟨H1, e1, e2, e3⟩ := take_step s (by omega) h H hw i0 h0
    unfold takeGo
    by_cases hi : isN s h.toNat = true
    · rw [if_pos hi] at e1 e3
      simp only [hi, if_true]
      exact ⟨H1, aloop_exit (by simp) e1, e2, _, e3, fun _ => rfl⟩
    · rw [if_neg hi] at e1 e3
      simp only [hi, if_false, Bool.false_eq_true]
      obtain ⟨H2, f1, f2, f3⟩ := take_loop h k (s + 1) H1 i0 (by omega) e2 e3
      exact ⟨H2, by rw [aloop_step e1]; exact f1, f2, f3⟩
theorem Take_eq (h : BitVec 16) : thumb_Take.spec [W16 h] = some (.tup [InsAV (takeN h.toNat).1, .int .i64 (takeN h.toNat).2]) := by
  obtain ⟨H1, e1, e2, i1, e3, e4⟩ := take_loop h 21 0 (AHeap.empty.push (insBlk InsM.zero)) InsM.zero rfl (AHeap.WF.push AHeap.WF.empty) (by simp)
  have hz := e2 _ _ e3
  have h20 := takeN_or h.toNat
  unfold takeN at h20 ⊢
  simp only [insBlk, InsM.zero, takeL] at e1 e3
  rw [show ((0 : Nat) : Int) = 0 from rfl] at e1
  generalize takeGo h.toNat 21 0 = r at e1 e4 h20 ⊢
  obtain ⟨ri, re⟩ := r
  rcases h20 with ⟨i, _, _, h5⟩ | h5
  · cases h5
    obtain rfl := e4 rfl
    rw [if_pos rfl] at e1
    simp -implicitDefEqProofs +contextual (disch := omega) [thumb_Take.spec, thumb_Take, e1, e3, InsAV]
  · cases h5
    rw [if_neg (by simp)] at e1
    simp -implicitDefEqProofs +contextual (disch := omega) [thumb_Take.spec, thumb_Take, e1, e3, InsAV, InsM.zero]
end Go.Abs

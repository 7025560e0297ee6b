/-
  Instructions and their halfwords: the document's Take is the program's; the laws.
-/
import Derived.Test.YtgcfbommjdcgkaaT6
set_option linter.unusedSimpArgs false
set_option linter.unusedVariables false
namespace Go.Abs
open Th
def takeGoR (h : Nat) : Nat → Nat → InsM × Int
  | 0, _ => (InsM.zero, 20)
  | k + 1, op => if isR op h then (candR op h, 0) else takeGoR h k (op + 1)
theorem takeGoR_eq (h : Nat) (hh : h < 65536) : ∀ k s : Nat, s + k = 21 → takeGoR h k s = takeGo h k s
  | 0, s, _ => rfl
  | k + 1, s, hs => by
    unfold takeGoR takeGo
    rw [isR_eq s h (by omega) hh, (takeS_eq s (by omega) h hh).2, takeGoR_eq h hh k (s + 1) (by omega)]
theorem rtake_all (h : BitVec 16) : ∀ (k s : Nat) (H : AHeap) (i0 : InsM), s + k = 21 → H.WF → H.get 0 = some (insBlk i0) → ∃ H' : AHeap,
    aloop rtakeL (AFr.al [(0, W16 h), (2, .ptr 0 5 0 0), (4, .int .i64 (s : Nat))]) H = (if (takeGoR h.toNat k s).2 = 0 then some (.ret, AFr.al [(2, .ptr 0 5 0 0), (3, .int .i64 0)], H') else some (.exit 0, AFr.al [(0, W16 h), (2, .ptr 0 5 0 0), (4, .int .i64 21), (13, .bool false)], H')) ∧
    H'.WF ∧ ∃ i1, H'.get 0 = some (insBlk i1) ∧ ((takeGoR h.toNat k s).2 = 0 → i1 = (takeGoR h.toNat k s).1)
  | 0, s, H, i0, hs, hw, h0 => by
    have hs' : s = 21 := by omega
    subst hs'
    refine ⟨H, ?_, hw, i0, h0, fun q => by simp [takeGoR] at q⟩
    rw [if_neg (by simp [takeGoR])]
    exact aloop_exit (by simp) (by simp -implicitDefEqProofs +contextual (disch := omega) [rtakeL, ref02_Take.l0])
  | k + 1, s, H, i0, hs, hw, h0 => by
    obtain ⟨H1, e1, e2, e3⟩ := rtake_out s (by omega) h H hw i0 h0
    unfold takeGoR
    by_cases hi : isR s h.toNat = true
    · rw [if_pos hi] at e1 e3
      simp only [hi, if_true]
      exact ⟨H1, aloop_exit (by simp) e1, e2, _, e3, fun _ => rfl⟩
    · rw [if_neg hi] at e1 e3
      simp only [hi, if_false, Bool.false_eq_true]
      obtain ⟨H2, f1, f2, f3⟩ := rtake_all h k (s + 1) H1 i0 (by omega) e2 e3
      exact ⟨H2, by rw [aloop_step e1]; exact f1, f2, f3⟩
theorem rTake_eq (h : BitVec 16) : ref02_Take.spec [W16 h] = some (.tup [InsAV (takeN h.toNat).1, .int .i64 (takeN h.toNat).2]) := by
  obtain ⟨H1, e1, e2, i1, e3, e4⟩ := rtake_all h 21 0 (AHeap.empty.push (insBlk InsM.zero)) InsM.zero rfl (AHeap.WF.push AHeap.WF.empty) (by simp)
  rw [takeGoR_eq h.toNat h.isLt 21 0 rfl] at e1 e4
  have hz := e2 _ _ e3
  have h20 := takeN_or h.toNat
  unfold takeN at h20 ⊢
  simp only [insBlk, InsM.zero, rtakeL] at e1 e3
  rw [show ((0 : Nat) : Int) = 0 from rfl] at e1
  generalize takeGo h.toNat 21 0 = r at e1 e4 h20 ⊢
  obtain ⟨ri, re⟩ := r
  rcases h20 with ⟨i, _, _, h5⟩ | h5
  · cases h5
    obtain rfl := e4 rfl
    rw [if_pos rfl] at e1
    simp -implicitDefEqProofs +contextual (disch := omega) [ref02_Take.spec, ref02_Take, e1, e3, InsAV]
  · cases h5
    rw [if_neg (by simp)] at e1
    simp -implicitDefEqProofs +contextual (disch := omega) [ref02_Take.spec, ref02_Take, e1, e3, InsAV, InsM.zero]
theorem lives02 : law02_lives.spec [] = some (.bool true) := by
  have h1 := Put_eq ⟨0, 1, 0, 0, 5⟩
  have h2 := Can_eq ⟨19, 0, 0, 0, 0⟩
  rw [show putM ⟨0, 1, 0, 0, 5⟩ = (8453#16, 0) from by decide] at h1
  rw [show (InsM.mk 19 0 0 0 0).can = true from by decide] at h2
  simp only [InsAV] at h1 h2
  simp -implicitDefEqProofs +contextual (disch := omega) [law02_lives.spec, law02_lives, h1, h2]
theorem insAV_eq (i j : InsM) : ceqs [.i, .i, .i, .i, .i] [.int .i64 i.op, .int .i64 i.d, .int .i64 i.n, .int .i64 i.m, .int .i64 i.imm] [.int .i64 j.op, .int .i64 j.d, .int .i64 j.n, .int .i64 j.m, .int .i64 j.imm] = some (decide (i = j)) := by
  obtain ⟨a, b, c, d, e⟩ := i
  obtain ⟨a', b', c', d', e'⟩ := j
  have hd : ∀ x y : Int, (x == y) = decide (x = y) := fun _ _ => rfl
  simp [InsM.mk.injEq, hd]
theorem putM_ok (i : InsM) : (putM i).2 = 0 ↔ i.can = true := by
  unfold putM; cases i.can <;> simp
theorem putM_inj {a b : InsM} (ha : a.can = true) (hb : b.can = true) : ((putM a).1 = (putM b).1) ↔ a = b := by
  constructor
  · intro h
    simp only [putM, ha, hb, if_true] at h
    have := congrArg BitVec.toNat h
    rw [BitVec.toNat_ofNat, BitVec.toNat_ofNat, Nat.mod_eq_of_lt (by have := (forth a ha).2.2; omega), Nat.mod_eq_of_lt (by have := (forth b hb).2.2; omega)] at this
    exact putN_inj ha hb this
  · rintro rfl; rfl
theorem putM_take {i : InsM} (h : i.can = true) : takeN (putM i).1.toNat = (i, 0) := by
  simp only [putM, h, if_true]
  rw [BitVec.toNat_ofNat, Nat.mod_eq_of_lt (by have := (forth i h).2.2; omega)]
  exact take_put i h
theorem putM_no {i : InsM} (h : ¬ i.can = true) : putM i = (0#16, 1) := by simp [putM, h]
theorem thumbOne_law (a b : InsM) : law02_ThumbOne.spec [InsAV a, InsAV b] = some (.bool true) := by
  have h1 := Put_eq a; have h2 := Put_eq b
  have he := insAV_eq a b
  simp only [InsAV] at h1 h2
  by_cases ha : a.can = true
  · have ha2 := (putM_ok a).2 ha
    by_cases hb : b.can = true
    · have hb2 := (putM_ok b).2 hb
      have hi := putM_inj ha hb
      rw [ha2] at h1; rw [hb2] at h2
      generalize (putM a).1 = x at *
      generalize (putM b).1 = y at *
      by_cases e : a = b
      · have := hi.2 e
        subst e; subst this
        simp -implicitDefEqProofs +contextual (disch := omega) [law02_ThumbOne.spec, law02_ThumbOne, InsAV, h1, h2, lives02]
      · have hxy : ¬ x = y := fun q => e (hi.1 q)
        rw [decide_eq_false e] at he
        simp -implicitDefEqProofs +contextual (disch := omega) [law02_ThumbOne.spec, law02_ThumbOne, InsAV, h1, h2, he, hxy, lives02, -ceqs_cons]
    · rw [putM_no hb] at h2
      rw [ha2] at h1
      simp -implicitDefEqProofs +contextual (disch := omega) [law02_ThumbOne.spec, law02_ThumbOne, InsAV, h1, h2, he, lives02, -ceqs_cons]
  · rw [putM_no ha] at h1
    simp -implicitDefEqProofs +contextual (disch := omega) [law02_ThumbOne.spec, law02_ThumbOne, InsAV, h1, h2, he, lives02, -ceqs_cons]
theorem thumbPuts_law (i : InsM) : law02_ThumbPuts.spec [InsAV i] = some (.bool true) := by
  have h1 := Put_eq i; have h2 := rPut_eq i; have h3 := Can_eq i; have h4 := rCan_eq i
  have h5 := Take_eq (putM i).1
  have he := insAV_eq i i
  simp only [InsAV] at h1 h2 h3 h4
  by_cases hc : i.can = true
  · rw [putM_take hc] at h5
    rw [(putM_ok i).2 hc] at h1 h2
    simp only [InsAV] at h5
    simp -implicitDefEqProofs +contextual (disch := omega) [law02_ThumbPuts.spec, law02_ThumbPuts, InsAV, h1, h2, h3, h4, h5, he, lives02, -ceqs_cons]
  · rw [putM_no hc] at h1 h2
    simp -implicitDefEqProofs +contextual (disch := omega) [law02_ThumbPuts.spec, law02_ThumbPuts, InsAV, h1, h2, h3, h4, lives02]
theorem thumbTakes_law (h : BitVec 16) : law02_ThumbTakes.spec [W16 h] = some (.bool true) := by
  have h1 := Take_eq h; have h2 := rTake_eq h
  rcases takeN_or h.toNat with ⟨i, hc, hp, ht⟩ | ht
  · rw [ht] at h1 h2
    have h3 := Put_eq i
    have he := insAV_eq i i
    have hm : putM i = (h, 0) := by
      simp only [putM, hc, if_true, hp]; rw [BitVec.ofNat_toNat]; simp
    rw [hm] at h3
    simp only [InsAV] at h1 h2 h3
    simp -implicitDefEqProofs +contextual (disch := omega) [law02_ThumbTakes.spec, law02_ThumbTakes, h1, h2, h3, he, lives02, -ceqs_cons]
  · rw [ht] at h1 h2
    simp only [InsAV, InsM.zero] at h1 h2
    simp -implicitDefEqProofs +contextual (disch := omega) [law02_ThumbTakes.spec, law02_ThumbTakes, h1, h2, lives02]
end Go.Abs

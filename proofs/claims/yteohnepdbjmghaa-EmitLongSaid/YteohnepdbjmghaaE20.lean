/-
  Code of steps: instructions' halfwords behind others.
-/
import Derived.Test.YteohnepdbjmghaaEC
import Derived.Test.YteohnepdbjmghaaTp
import Derived.Test.YteohnepdbjmghaaSA
set_option linter.unusedSimpArgs false
set_option linter.unusedVariables false
namespace Go.Abs
open Th
def hlfs (l : List InsM) : List (BitVec 16) := l.map fun i => (putM i).1
@[simp] theorem hlfs_length (l : List InsM) : (hlfs l).length = l.length := by simp [hlfs]
theorem hlfs_append (a b : List InsM) : hlfs (a ++ b) = hlfs a ++ hlfs b := by simp [hlfs]
def HV (ws : List (BitVec 16)) (v : AV) (H : AHeap) : Prop := (ws = [] ∧ v = .nils) ∨ ∃ ob, v = .sl ob 1 0 ws.length ∧ H.get ob = some ⟨T.ty_uint16, 1, true, w16s ws⟩
def NotAt (p : Nat) (v : AV) : Prop := ∀ n, v ≠ .sl p 1 0 n
def Kp (v : AV) (H : AHeap) (v' : AV) (H' : AHeap) : Prop := H'.WF ∧ H.next ≤ H'.next ∧ ∀ p blk, H.get p = some blk → NotAt p v → H'.get p = some blk ∧ NotAt p v'
theorem Kp.trans {v H v1 H1 v2 H2} (a : Kp v H v1 H1) (b : Kp v1 H1 v2 H2) : Kp v H v2 H2 :=
  ⟨b.1, Nat.le_trans a.2.1 b.2.1, fun p blk hp hn => b.2.2 p blk (a.2.2 p blk hp hn).1 (a.2.2 p blk hp hn).2⟩
noncomputable abbrev hvL := emit_halves.l0 thumb_Put.spec
def hvFr (v : AV) (l : List InsM) (k : Nat) (y : List (Nat × AV)) : AFr := AFr.al ([(0, v), (9, .rsl 5 (insRows l)), (10, .int .i64 l.length), (11, .int .i64 k)] ++ y)
theorem hv_round (l : List InsM) (hl : l.length ≤ 1000) (k : Nat) (hk : k < l.length) (ws : List (BitVec 16)) (hws : ws.length ≤ 1000000) (v : AV) (H : AHeap) (y : List (Nat × AV)) (hw : H.WF) (hv : HV ws v H) :
    ∃ v' H' y', hvL (hvFr v l k y) H = some (.normal, hvFr v' l (k + 1) y', H') ∧ HV (ws ++ [(putM l[k]).1]) v' H' ∧ Kp v H v' H' := by
  have hk' : (k : Int) < l.length := by omega
  have hk1 : ((k + 1 : Nat) : Int) = (k : Int) + 1 := by omega
  have h1 := insRows_get l k hk
  have hP := Put_eq l[k]
  unfold hvFr
  have hR1 : (insRows l).length = l.length := insRows_length l
  generalize insRows l = R1 at *
  generalize l[k] = i at *
  unfold InsAV at hP
  unfold insRow at h1
  generalize (putM i).1 = h at *
  generalize (putM i).2 = e at *
  rcases hv with ⟨rfl, rfl⟩ | ⟨ob, rfl, gb⟩
  · refine ⟨?_, ?_, ?_, ?_, ?_, ?_⟩
    rotate_left 3
    · simp -implicitDefEqProofs +contextual (disch := try first | omega | assumption | (simp; done)) [emit_halves.l0, hk', hk1, h1, hP, hR1, -getElem?_pos]
      constructor <;> rfl
    · exact .inr ⟨_, rfl, by simp [w16s]⟩
    · refine ⟨by (repeat' (first | assumption | with_reducible apply AHeap.WF.push | with_reducible apply AHeap.WF.set | with_reducible apply killAll_wf | exact AHeap.WF.empty)) <;> (simp <;> omega), by simp; omega, fun p blk hp hn => ?_⟩
      have := hw _ _ hp
      refine ⟨by simp (disch := omega) [hp], fun n e => ?_⟩
      injection e with e1
      omega
  · have hob := hw _ _ gb
    refine ⟨?_, ?_, ?_, ?_, ?_, ?_⟩
    rotate_left 3
    · simp -implicitDefEqProofs +contextual (disch := try first | omega | assumption | (simp; done)) [emit_halves.l0, hk', hk1, h1, hP, hR1, gb, -getElem?_pos]
      constructor <;> rfl
    · exact .inr ⟨_, by simp; rfl, by simp [w16s_snoc]⟩
    · refine ⟨by (repeat' (first | assumption | with_reducible apply AHeap.WF.push | with_reducible apply AHeap.WF.set | with_reducible apply killAll_wf | exact AHeap.WF.empty)) <;> (simp <;> omega), by simp; omega, fun p blk hp hn => ?_⟩
      have := hw _ _ hp
      have hpo : ¬ p = ob := fun e => hn ws.length (by rw [e])
      refine ⟨by simp (disch := omega) [hp, hpo], fun n e => ?_⟩
      injection e with e1
      omega
theorem hv_loop (l : List InsM) (hl : l.length ≤ 1000) (ws : List (BitVec 16)) (hws : ws.length ≤ 900000) (v : AV) (H : AHeap) (hw : H.WF) (hv : HV ws v H) {r} (hr : aloop hvL (hvFr v l 0 []) H = r) :
    ∃ e fr' X', r = some (e, fr', X') ∧ (e = .exit 0 ∧ HV (ws ++ hlfs l) (fr' 0) X' ∧ Kp v H (fr' 0) X') := by
  refine run_of hr (aloop_each l.length (fun k fr X => ∃ y v', fr = hvFr v' l k y ∧ HV (ws ++ hlfs (l.take k)) v' X ∧ Kp v H v' X) _ (fun k hk fr X hR => ?_) (fun fr X hR => ?_) ⟨[], v, rfl, by simpa [hlfs] using hv, hw, Nat.le_refl _, fun p blk hp hn => ⟨hp, hn⟩⟩)
  · obtain ⟨y, v', rfl, q1, q2⟩ := hR
    obtain ⟨v2, H2, y2, s1, s2, s3⟩ := hv_round l hl k hk (ws ++ hlfs (l.take k)) (by simp; omega) v' X y q2.1 q1
    refine ⟨_, _, _, s1, .inl ⟨rfl, y2, v2, rfl, ?_, q2.trans s3⟩⟩
    rw [List.take_succ_eq_append_getElem hk, hlfs_append, ← List.append_assoc]
    exact s2
  · obtain ⟨y, v', rfl, q1, q2⟩ := hR
    rw [List.take_length] at q1
    refine ⟨_, _, _, by simp -implicitDefEqProofs +contextual (disch := omega) [emit_halves.l0, hvFr]; first | rfl | exact ⟨rfl, rfl⟩ | exact ⟨rfl, rfl, rfl⟩, by simp, rfl, by simpa [hvFr] using q1, by simpa [hvFr] using q2⟩
theorem halves_eq (l : List InsM) (hl : l.length ≤ 1000) (ws : List (BitVec 16)) (hws : ws.length ≤ 900000) (v : AV) (H : AHeap) (hw : H.WF) (hv : HV ws v H) :
    ∃ v' H', emit_halves.spec [v, .rsl 5 (insRows l)] H = some (v', H') ∧ HV (ws ++ hlfs l) v' H' ∧ Kp v H v' H' := by
  have hrl := insRows_length l
  obtain ⟨e, fr', X', h1, rfl, h2, h3⟩ := hv_loop l hl ws hws v H hw hv rfl
  refine ⟨fr' 0, X', ?_, h2, h3⟩
  simp -implicitDefEqProofs +contextual (disch := omega) [emit_halves.spec, emit_halves, hrl]
  generalize hr : aloop _ _ _ = r
  have : r = some (.exit 0, fr', X') := hr.symm.trans h1
  subst this
  simp -implicitDefEqProofs +contextual (disch := omega) []
theorem halves_of {v : AV} {H : AHeap} {l : List InsM} {r : Option (AV × AHeap)} (hr : emit_halves.spec [v, .rsl 5 (insRows l)] H = r) (hl : l.length ≤ 1000) (ws : List (BitVec 16)) (hws : ws.length ≤ 900000) (hw : H.WF) (hv : HV ws v H) :
    ∃ v' H', r = some (v', H') ∧ HV (ws ++ hlfs l) v' H' ∧ Kp v H v' H' := by
  subst hr; exact halves_eq l hl ws hws v H hw hv
end Go.Abs

/-
  Steps' texts: instructions are the lines; the law EmitSlots.
-/
import Derived.Test.YteohnepdbjmghaaE11
import Derived.Test.YteohnepdbjmghaaE9
set_option linter.unusedSimpArgs false
set_option linter.unusedVariables false
namespace Go.Abs
open Th
def UsedL (l : List InsM) : Prop := ∀ i ∈ l, usedI i
noncomputable abbrev ssL := ref25_Same.l0 ref04_Show.spec
theorem same25_loop (l : List InsM) (hu : UsedL l) (hl : l.length ≤ 1000000) (X : AHeap) {r}
    (hr : aloop ssL (AFr.al [(0, .rsl 5 (insRows l)), (1, .rsl 1 (strRows (linesI l))), (5, .int .i64 0)]) X = r) :
    ∃ e fr' X', r = some (e, fr', X') ∧ (e = .exit 0) := by
  refine run_of hr (aloop_each l.length (fun k fr H => ∃ y, fr = AFr.al ([(0, .rsl 5 (insRows l)), (1, .rsl 1 (strRows (linesI l))), (5, .int .i64 k)] ++ y)) _ (fun k hk fr H hR => ?_) (fun fr H hR => ?_) ⟨[], rfl⟩)
  · obtain ⟨y, rfl⟩ := hR
    have hk' : (k : Int) < l.length := by omega
    have hk1 : ((k + 1 : Nat) : Int) = (k : Int) + 1 := by omega
    have h1 := insRows_get l k hk
    have h2 : (strRows (linesI l))[k]? = some [.str (bs (showI l[k]))] := by simp [strRows, linesI, hk]
    have hS := Show_eq l[k] (hu _ (List.getElem_mem hk))
    rw [hk1]
    have hR1 : (insRows l).length = l.length := insRows_length l
    have hR2 : (strRows (linesI l)).length = l.length := by simp
    generalize insRows l = R1 at *
    generalize strRows (linesI l) = R2 at *
    generalize l[k] = i at *
    unfold InsAV at hS
    unfold insRow at h1
    generalize showI i = s at *
    refine ⟨_, _, _, by simp -implicitDefEqProofs +contextual (disch := omega) [ref25_Same.l0, hk', h1, h2, hS, hR1, hR2, -getElem?_pos]; first | rfl | exact ⟨rfl, rfl⟩ | exact ⟨rfl, rfl, rfl⟩, .inl ⟨rfl, _, rfl⟩⟩
  · obtain ⟨y, rfl⟩ := hR
    refine ⟨_, _, _, by simp -implicitDefEqProofs +contextual (disch := omega) [ref25_Same.l0]; first | rfl | exact ⟨rfl, rfl⟩ | exact ⟨rfl, rfl, rfl⟩, by simp, rfl⟩
theorem rSame_eq25 (l : List InsM) (hu : UsedL l) (hl : l.length ≤ 1000000) : ref25_Same.spec [.rsl 5 (insRows l), .rsl 1 (strRows (linesI l))] = some (.bool true) := by
  simp -implicitDefEqProofs +contextual (disch := omega) [ref25_Same.spec, ref25_Same]
  generalize hr : aloop _ _ _ = r
  obtain ⟨e, fr', X', rfl, rfl⟩ := same25_loop l hu hl _ hr
  simp -implicitDefEqProofs +contextual (disch := omega) []
end Go.Abs

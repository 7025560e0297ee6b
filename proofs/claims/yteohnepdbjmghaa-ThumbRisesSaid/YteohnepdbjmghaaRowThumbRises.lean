/-
  The row of the law ThumbRises: for every input the law returns true, and each argument reads as it did.
-/
import Derived.Test.YteohnepdbjmghaaRows
import Derived.Test.YteohnepdbjmghaaL02bP
import Derived.Test.YteohnepdbjmghaaEB
namespace Go.Proofs.Yteohnepdbjmghaa.thumbRises
open Go.ChangeShapes Go.WideShapes Go.ChangeAt Go.RowKit
set_option linter.unusedVariables false
theorem own : ownKnob Try.prog.godebug = none := by kernel_rfl
theorem laidOut : laidOutB Try.prog = true := by kernel_rfl
set_option maxRecDepth 100000 in
theorem lifted (os : Os) (started : os.Started) (H : Type) (enc : TypeId × Value → H) :
    ReturnsInHanded {} Try.checked os 4 .any (Rows.thumbRisesSpec.pre6 enc Try.prog Try.f4 Rows.thumbRisesRow.domain false) (Rows.thumbRisesSpec.post enc Try.prog Try.f4 false true false false) :=
  Go.Abs.law_row (C := Try.checked) (D := 8) (rt := 4) own started (by kernel_rfl) Try.func4
    (ChangeSpec.witness6 (enc := enc) (C := Try.checked) false ⟨#[], #[.int .u16 0], []⟩ 8 (by kernel_rfl) (by kernel_rfl) (by kernel_rfl) (by kernel_rfl))
    Go.Abs.law02_ThumbRises.sound laidOut (by kernel_rfl) rfl (by kernel_rfl) (by kernel_rfl)
    (fun ds h => by
      have h' : ds.length = 1 := h.trans (by kernel_rfl)
      match ds, h' with
      | [d0], _ => rfl)
    (fun args h => Go.Abs.law02_ThumbRises_law args (Go.Abs.args_ok (by kernel_rfl) h))
theorem over : Rows.thumbRisesRow.holds Try.pinned (OpenSpec.ofChange Rows.thumbRisesSpec) :=
  OpenClaim.holds_of_wide 4 Try.f4 rfl rfl rfl rfl rfl rfl rfl ⟨rfl, rfl, rfl, rfl, rfl⟩ rfl rfl rfl rfl rfl (by kernel_rfl) Try.func4 (by kernel_rfl)
    (of_decide_eq_true (by kernel_rfl)) (by unfold Func.isWrapper; first | (rw [if_pos (by decide +kernel)]; kernel_rfl) | (rw [if_neg (by decide +kernel)]; exact ⟨rfl, rfl⟩))
    (fun os started H enc _ => lifted os started H enc)
theorem proved : Rows.ThumbRisesSaid := over
end Go.Proofs.Yteohnepdbjmghaa.thumbRises
namespace Go.Proofs.Yteohnepdbjmghaa
theorem thumbRises_holds : Rows.ThumbRisesSaid := thumbRises.proved
end Go.Proofs.Yteohnepdbjmghaa

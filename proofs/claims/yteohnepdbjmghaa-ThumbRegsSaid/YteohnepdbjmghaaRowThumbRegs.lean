/-
  The row of the law ThumbRegs: for every input the law returns true, and each argument reads as it did.
-/
import Derived.Test.YteohnepdbjmghaaRows
import Derived.Test.YteohnepdbjmghaaL02bP
import Derived.Test.YteohnepdbjmghaaEB
namespace Go.Proofs.Yteohnepdbjmghaa.thumbRegs
open Go.ChangeShapes Go.WideShapes Go.ChangeAt Go.RowKit
set_option linter.unusedVariables false
theorem own : ownKnob Try.prog.godebug = none := by kernel_rfl
theorem laidOut : laidOutB Try.prog = true := by kernel_rfl
set_option maxRecDepth 100000 in
theorem lifted (os : Os) (started : os.Started) (H : Type) (enc : TypeId × Value → H) :
    ReturnsInHanded {} Try.checked os 3 .any (Rows.thumbRegsSpec.pre6 enc Try.prog Try.f3 Rows.thumbRegsRow.domain false) (Rows.thumbRegsSpec.post enc Try.prog Try.f3 false true false false) :=
  Go.Abs.law_row (C := Try.checked) (D := 8) (rt := 4) own started (by kernel_rfl) Try.func3
    (ChangeSpec.witness6 (enc := enc) (C := Try.checked) false ⟨#[], #[.agg #[.int .i64 0, .int .i64 0, .int .i64 0, .int .i64 0, .int .i64 0]], []⟩ 8 (by kernel_rfl) (by kernel_rfl) (by kernel_rfl) (by kernel_rfl))
    Go.Abs.law02_ThumbRegs.sound laidOut (by kernel_rfl) rfl (by kernel_rfl) (by kernel_rfl)
    (fun ds h => by
      have h' : ds.length = 1 := h.trans (by kernel_rfl)
      match ds, h' with
      | [d0], _ => rfl)
    (fun args h => Go.Abs.law02_ThumbRegs_law args (Go.Abs.args_ok (by kernel_rfl) h))
theorem over : Rows.thumbRegsRow.holds Try.pinned (OpenSpec.ofChange Rows.thumbRegsSpec) :=
  OpenClaim.holds_of_wide 3 Try.f3 rfl rfl rfl rfl rfl rfl rfl ⟨rfl, rfl, rfl, rfl, rfl⟩ rfl rfl rfl rfl rfl (by kernel_rfl) Try.func3 (by kernel_rfl)
    (of_decide_eq_true (by kernel_rfl)) (by unfold Func.isWrapper; first | (rw [if_pos (by decide +kernel)]; kernel_rfl) | (rw [if_neg (by decide +kernel)]; exact ⟨rfl, rfl⟩))
    (fun os started H enc _ => lifted os started H enc)
theorem proved : Rows.ThumbRegsSaid := over
end Go.Proofs.Yteohnepdbjmghaa.thumbRegs
namespace Go.Proofs.Yteohnepdbjmghaa
theorem thumbRegs_holds : Rows.ThumbRegsSaid := thumbRegs.proved
end Go.Proofs.Yteohnepdbjmghaa

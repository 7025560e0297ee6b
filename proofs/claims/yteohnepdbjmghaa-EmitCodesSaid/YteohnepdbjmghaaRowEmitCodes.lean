/-
  The row of the law EmitCodes: for every input the law returns true, and each argument reads as it did.
-/
import Derived.Test.YteohnepdbjmghaaRows
import Derived.Test.YteohnepdbjmghaaL25P
import Derived.Test.YteohnepdbjmghaaE25
namespace Go.Proofs.Yteohnepdbjmghaa.emitCodes
open Go.ChangeShapes Go.WideShapes Go.ChangeAt Go.RowKit
set_option linter.unusedVariables false
theorem own : ownKnob Try.prog.godebug = none := by kernel_rfl
theorem laidOut : laidOutB Try.prog = true := by kernel_rfl
set_option maxRecDepth 100000 in
theorem lifted (os : Os) (started : os.Started) (H : Type) (enc : TypeId × Value → H) :
    ReturnsInHanded {} Try.checked os 7 .any (Rows.emitCodesSpec.pre6 enc Try.prog Try.f7 Rows.emitCodesRow.domain false) (Rows.emitCodesSpec.post enc Try.prog Try.f7 false true false false) :=
  Go.Abs.law_row (C := Try.checked) (D := 8) (rt := 4) own started (by kernel_rfl) Try.func7
    (ChangeSpec.witness6 (enc := enc) (C := Try.checked) false ⟨#[], #[.agg #[.int .i64 0, .slice none 0 0, .slice none 0 0], .slice none 0 0], []⟩ 8 (by kernel_rfl) (by kernel_rfl) (by kernel_rfl) (by kernel_rfl))
    Go.Abs.law25_EmitCodes.sound laidOut (by kernel_rfl) rfl (by kernel_rfl) (by kernel_rfl)
    (fun ds h => by
      have h' : ds.length = 2 := h.trans (by kernel_rfl)
      match ds, h' with
      | [d0, d1], _ => rfl)
    (fun args h => Go.Abs.law25_EmitCodes_law args (Go.Abs.args_ok (by kernel_rfl) h))
theorem over : Rows.emitCodesRow.holds Try.pinned (OpenSpec.ofChange Rows.emitCodesSpec) :=
  OpenClaim.holds_of_wide 7 Try.f7 rfl rfl rfl rfl rfl rfl rfl ⟨rfl, rfl, rfl, rfl, rfl⟩ rfl rfl rfl rfl rfl (by kernel_rfl) Try.func7 (by kernel_rfl)
    (of_decide_eq_true (by kernel_rfl)) (by unfold Func.isWrapper; first | (rw [if_pos (by decide +kernel)]; kernel_rfl) | (rw [if_neg (by decide +kernel)]; exact ⟨rfl, rfl⟩))
    (fun os started H enc _ => lifted os started H enc)
theorem proved : Rows.EmitCodesSaid := over
end Go.Proofs.Yteohnepdbjmghaa.emitCodes
namespace Go.Proofs.Yteohnepdbjmghaa
theorem emitCodes_holds : Rows.EmitCodesSaid := emitCodes.proved
end Go.Proofs.Yteohnepdbjmghaa

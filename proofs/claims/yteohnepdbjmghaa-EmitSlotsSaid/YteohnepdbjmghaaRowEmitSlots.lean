/-
  The row of the law EmitSlots: for every input the law returns true, and each argument reads as it did.
-/
import Derived.Test.YteohnepdbjmghaaRows
import Derived.Test.YteohnepdbjmghaaL25P
import Derived.Test.YteohnepdbjmghaaE13
namespace Go.Proofs.Yteohnepdbjmghaa.emitSlots
open Go.ChangeShapes Go.WideShapes Go.ChangeAt Go.RowKit
set_option linter.unusedVariables false
theorem own : ownKnob Try.prog.godebug = none := by kernel_rfl
theorem laidOut : laidOutB Try.prog = true := by kernel_rfl
set_option maxRecDepth 100000 in
theorem lifted (os : Os) (started : os.Started) (H : Type) (enc : TypeId × Value → H) :
    ReturnsInHanded {} Try.checked os 6 .any (Rows.emitSlotsSpec.pre6 enc Try.prog Try.f6 Rows.emitSlotsRow.domain false) (Rows.emitSlotsSpec.post enc Try.prog Try.f6 false true false false) :=
  Go.Abs.law_row (C := Try.checked) (D := 8) (rt := 4) own started (by kernel_rfl) Try.func6
    (ChangeSpec.witness6 (enc := enc) (C := Try.checked) false ⟨#[], #[.int .i64 0], []⟩ 8 (by kernel_rfl) (by kernel_rfl) (by kernel_rfl) (by kernel_rfl))
    Go.Abs.law25_EmitSlots.sound laidOut (by kernel_rfl) rfl (by kernel_rfl) (by kernel_rfl)
    (fun ds h => by
      have h' : ds.length = 1 := h.trans (by kernel_rfl)
      match ds, h' with
      | [d0], _ => rfl)
    (fun args h => Go.Abs.law25_EmitSlots_law args (Go.Abs.args_ok (by kernel_rfl) h))
theorem over : Rows.emitSlotsRow.holds Try.pinned (OpenSpec.ofChange Rows.emitSlotsSpec) :=
  OpenClaim.holds_of_wide 6 Try.f6 rfl rfl rfl rfl rfl rfl rfl ⟨rfl, rfl, rfl, rfl, rfl⟩ rfl rfl rfl rfl rfl (by kernel_rfl) Try.func6 (by kernel_rfl)
    (of_decide_eq_true (by kernel_rfl)) (by unfold Func.isWrapper; first | (rw [if_pos (by decide +kernel)]; kernel_rfl) | (rw [if_neg (by decide +kernel)]; exact ⟨rfl, rfl⟩))
    (fun os started H enc _ => lifted os started H enc)
theorem proved : Rows.EmitSlotsSaid := over
end Go.Proofs.Yteohnepdbjmghaa.emitSlots
namespace Go.Proofs.Yteohnepdbjmghaa
theorem emitSlots_holds : Rows.EmitSlotsSaid := emitSlots.proved
end Go.Proofs.Yteohnepdbjmghaa

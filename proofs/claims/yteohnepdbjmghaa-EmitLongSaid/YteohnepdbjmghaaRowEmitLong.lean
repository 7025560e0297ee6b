/-
  The row of the law EmitLong: for every input the law returns true, and each argument reads as it did.
-/
import Derived.Test.YteohnepdbjmghaaRows
import Derived.Test.YteohnepdbjmghaaL25P
import Derived.Test.YteohnepdbjmghaaE23
namespace Go.Proofs.Yteohnepdbjmghaa.emitLong
open Go.ChangeShapes Go.WideShapes Go.ChangeAt Go.RowKit
set_option linter.unusedVariables false
theorem own : ownKnob Try.prog.godebug = none := by kernel_rfl
theorem laidOut : laidOutB Try.prog = true := by kernel_rfl
set_option maxRecDepth 100000 in
theorem lifted (os : Os) (started : os.Started) (H : Type) (enc : TypeId × Value → H) :
    ReturnsInHanded {} Try.checked os 10 .any (Rows.emitLongSpec.pre6 enc Try.prog Try.f10 Rows.emitLongRow.domain false) (Rows.emitLongSpec.post enc Try.prog Try.f10 false true false false) :=
  Go.Abs.law_row (C := Try.checked) (D := 8) (rt := 4) own started (by kernel_rfl) Try.func10
    (ChangeSpec.witness6 (enc := enc) (C := Try.checked) false ⟨#[], #[.agg #[.int .i64 0, .slice none 0 0, .slice none 0 0], .slice none 0 0], []⟩ 8 (by kernel_rfl) (by kernel_rfl) (by kernel_rfl) (by kernel_rfl))
    Go.Abs.law25_EmitLong.sound laidOut (by kernel_rfl) rfl (by kernel_rfl) (by kernel_rfl)
    (fun ds h => by
      have h' : ds.length = 2 := h.trans (by kernel_rfl)
      match ds, h' with
      | [d0, d1], _ => rfl)
    (fun args h => Go.Abs.law25_EmitLong_law args (Go.Abs.args_ok (by kernel_rfl) h))
theorem over : Rows.emitLongRow.holds Try.pinned (OpenSpec.ofChange Rows.emitLongSpec) :=
  OpenClaim.holds_of_wide 10 Try.f10 rfl rfl rfl rfl rfl rfl rfl ⟨rfl, rfl, rfl, rfl, rfl⟩ rfl rfl rfl rfl rfl (by kernel_rfl) Try.func10 (by kernel_rfl)
    (of_decide_eq_true (by kernel_rfl)) (by unfold Func.isWrapper; first | (rw [if_pos (by decide +kernel)]; kernel_rfl) | (rw [if_neg (by decide +kernel)]; exact ⟨rfl, rfl⟩))
    (fun os started H enc _ => lifted os started H enc)
theorem proved : Rows.EmitLongSaid := over
end Go.Proofs.Yteohnepdbjmghaa.emitLong
namespace Go.Proofs.Yteohnepdbjmghaa
theorem emitLong_holds : Rows.EmitLongSaid := emitLong.proved
end Go.Proofs.Yteohnepdbjmghaa

/-
  The row of the law CoreAdds: for every input the law returns true, and each argument reads as it did.
-/
import Derived.Test.YteohnepdbjmghaaRows
import Derived.Test.YteohnepdbjmghaaL06bP
import Derived.Test.YteohnepdbjmghaaC20
namespace Go.Proofs.Yteohnepdbjmghaa.coreAdds
open Go.ChangeShapes Go.WideShapes Go.ChangeAt Go.RowKit
set_option linter.unusedVariables false
theorem own : ownKnob Try.prog.godebug = none := by kernel_rfl
theorem laidOut : laidOutB Try.prog = true := by kernel_rfl
set_option maxRecDepth 100000 in
theorem lifted (os : Os) (started : os.Started) (H : Type) (enc : TypeId × Value → H) :
    ReturnsInHanded {} Try.checked os 11 .any (Rows.coreAddsSpec.pre6 enc Try.prog Try.f11 Rows.coreAddsRow.domain false) (Rows.coreAddsSpec.post enc Try.prog Try.f11 false true false false) :=
  Go.Abs.law_row (C := Try.checked) (D := 8) (rt := 4) own started (by kernel_rfl) Try.func11
    (ChangeSpec.witness6 (enc := enc) (C := Try.checked) false ⟨#[], #[.agg #[.int .u32 0, .int .u32 0, .int .u32 0, .int .u32 0, .int .u32 0, .int .u32 0, .int .u32 0, .int .u32 0, .int .u32 0, .bool false, .bool false, .bool false, .bool false], .bool false], []⟩ 8 (by kernel_rfl) (by kernel_rfl) (by kernel_rfl) (by kernel_rfl))
    Go.Abs.law06_CoreAdds.sound laidOut (by kernel_rfl) rfl (by kernel_rfl) (by kernel_rfl)
    (fun ds h => by
      have h' : ds.length = 2 := h.trans (by kernel_rfl)
      match ds, h' with
      | [d0, d1], _ => rfl)
    (fun args h => Go.Abs.law06_CoreAdds_law args (Go.Abs.args_ok (by kernel_rfl) h))
theorem over : Rows.coreAddsRow.holds Try.pinned (OpenSpec.ofChange Rows.coreAddsSpec) :=
  OpenClaim.holds_of_wide 11 Try.f11 rfl rfl rfl rfl rfl rfl rfl ⟨rfl, rfl, rfl, rfl, rfl⟩ rfl rfl rfl rfl rfl (by kernel_rfl) Try.func11 (by kernel_rfl)
    (of_decide_eq_true (by kernel_rfl)) (by unfold Func.isWrapper; first | (rw [if_pos (by decide +kernel)]; kernel_rfl) | (rw [if_neg (by decide +kernel)]; exact ⟨rfl, rfl⟩))
    (fun os started H enc _ => lifted os started H enc)
theorem proved : Rows.CoreAddsSaid := over
end Go.Proofs.Yteohnepdbjmghaa.coreAdds
namespace Go.Proofs.Yteohnepdbjmghaa
theorem coreAdds_holds : Rows.CoreAddsSaid := coreAdds.proved
end Go.Proofs.Yteohnepdbjmghaa

/-
  The row of the law CoreOne: for every input the law returns true, and each argument reads as it did.
-/
import Derived.Test.YtncablokgkejjaaRows
import Derived.Test.YtncablokgkejjaaL06P
import Derived.Test.YtncablokgkejjaaC18
namespace Go.Proofs.Ytncablokgkejjaa.coreOne
open Go.ChangeShapes Go.WideShapes Go.ChangeAt Go.RowKit
set_option linter.unusedVariables false
theorem own : ownKnob Try.prog.godebug = none := by kernel_rfl
theorem laidOut : laidOutB Try.prog = true := by kernel_rfl
set_option maxRecDepth 100000 in
theorem lifted (os : Os) (started : os.Started) (H : Type) (enc : TypeId × Value → H) :
    ReturnsInHanded {} Try.checked os 4 .any (Rows.coreOneSpec.pre6 enc Try.prog Try.f4 Rows.coreOneRow.domain false) (Rows.coreOneSpec.post enc Try.prog Try.f4 false true false false) :=
  Go.Abs.law_row (C := Try.checked) (D := 8) (rt := 4) own started (by kernel_rfl) Try.func4
    (ChangeSpec.witness6 (enc := enc) (C := Try.checked) false ⟨#[], #[.agg #[.int .i64 0, .int .i64 0, .int .i64 0, .int .i64 0, .int .i64 0], .agg #[.int .u32 0, .int .u32 0, .int .u32 0, .int .u32 0, .int .u32 0, .int .u32 0, .int .u32 0, .int .u32 0, .int .u32 0, .bool false, .bool false, .bool false, .bool false, .int .u32 0, .int .u32 0, .int .u32 0, .int .u32 0, .int .u32 0, .int .u32 0, .int .u32 0, .int .u32 0, .int .u32 0, .bool false, .bool false, .bool false, .bool false]], []⟩ 8 (by kernel_rfl) (by kernel_rfl) (by kernel_rfl) (by kernel_rfl))
    Go.Abs.law06_CoreOne.sound laidOut (by kernel_rfl) rfl (by kernel_rfl) (by kernel_rfl)
    (fun ds h => by
      have h' : ds.length = 2 := h.trans (by kernel_rfl)
      match ds, h' with
      | [d0, d1], _ => rfl)
    (fun args h => Go.Abs.law06_CoreOne_law args (Go.Abs.args_ok (by kernel_rfl) h))
theorem over : Rows.coreOneRow.holds Try.pinned (OpenSpec.ofChange Rows.coreOneSpec) :=
  OpenClaim.holds_of_wide 4 Try.f4 rfl rfl rfl rfl rfl rfl rfl ⟨rfl, rfl, rfl, rfl, rfl⟩ rfl rfl rfl rfl rfl (by kernel_rfl) Try.func4 (by kernel_rfl)
    (of_decide_eq_true (by kernel_rfl)) (by unfold Func.isWrapper; first | (rw [if_pos (by decide +kernel)]; kernel_rfl) | (rw [if_neg (by decide +kernel)]; exact ⟨rfl, rfl⟩))
    (fun os started H enc _ => lifted os started H enc)
theorem proved : Rows.CoreOneSaid := over
end Go.Proofs.Ytncablokgkejjaa.coreOne
namespace Go.Proofs.Ytncablokgkejjaa
theorem coreOne_holds : Rows.CoreOneSaid := coreOne.proved
end Go.Proofs.Ytncablokgkejjaa

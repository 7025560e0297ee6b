/-
  The row of the law ThumbPuts: for every input the law returns true, and each argument reads as it did.
-/
import Derived.Test.YtgcfbommjdcgkaaRows
import Derived.Test.YtgcfbommjdcgkaaAP
import Derived.Test.YtgcfbommjdcgkaaT8
namespace Go.Proofs.Ytgcfbommjdcgkaa.thumbPuts
open Go.ChangeShapes Go.WideShapes Go.ChangeAt Go.RowKit
set_option linter.unusedVariables false
theorem own : ownKnob Try.prog.godebug = none := by kernel_rfl
theorem laidOut : laidOutB Try.prog = true := by kernel_rfl
set_option maxRecDepth 100000 in
theorem lifted (os : Os) (started : os.Started) (H : Type) (enc : TypeId × Value → H) :
    ReturnsInHanded {} Try.checked os 4 .any (Rows.thumbPutsSpec.pre6 enc Try.prog Try.f4 Rows.thumbPutsRow.domain false) (Rows.thumbPutsSpec.post enc Try.prog Try.f4 false true false false) :=
  Go.Abs.law_row (C := Try.checked) (D := 8) (rt := 4) own started (by kernel_rfl) Try.func4
    (ChangeSpec.witness6 (enc := enc) (C := Try.checked) false ⟨#[], #[.agg #[.int .i64 0, .int .i64 0, .int .i64 0, .int .i64 0, .int .i64 0]], []⟩ 8 (by kernel_rfl) (by kernel_rfl) (by kernel_rfl) (by kernel_rfl))
    Go.Abs.law02_ThumbPuts.sound laidOut (by kernel_rfl) rfl (by kernel_rfl) (by kernel_rfl)
    (fun ds h => by
      have h' : ds.length = 1 := h.trans (by kernel_rfl)
      match ds, h' with
      | [d0], _ => rfl)
    (fun args h => Go.Abs.law02_ThumbPuts_law args (Go.Abs.args_ok (by kernel_rfl) h))
theorem over : Rows.thumbPutsRow.holds Try.pinned (OpenSpec.ofChange Rows.thumbPutsSpec) :=
  OpenClaim.holds_of_wide 4 Try.f4 rfl rfl rfl rfl rfl rfl rfl ⟨rfl, rfl, rfl, rfl, rfl⟩ rfl rfl rfl rfl rfl (by kernel_rfl) Try.func4 (by kernel_rfl)
    (of_decide_eq_true (by kernel_rfl)) (by unfold Func.isWrapper; first | (rw [if_pos (by decide +kernel)]; kernel_rfl) | (rw [if_neg (by decide +kernel)]; exact ⟨rfl, rfl⟩))
    (fun os started H enc _ => lifted os started H enc)
theorem proved : Rows.ThumbPutsSaid := over
end Go.Proofs.Ytgcfbommjdcgkaa.thumbPuts
namespace Go.Proofs.Ytgcfbommjdcgkaa
/-- The row, under a short name, for the claim. -/
theorem thumbPuts_holds : Rows.ThumbPutsSaid := thumbPuts.proved
end Go.Proofs.Ytgcfbommjdcgkaa

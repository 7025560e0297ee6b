/-
  The row of the law EmitRuns: for every input the law returns true, and each argument reads as it did.
-/
import Derived.Test.YteohnepdbjmghaaRows
import Derived.Test.YteohnepdbjmghaaZ9
import Derived.Test.YteohnepdbjmghaaZ17
namespace Go.Proofs.Yteohnepdbjmghaa.emitRuns
open Go.ChangeShapes Go.WideShapes Go.ChangeAt Go.RowKit
set_option linter.unusedVariables false
theorem own : ownKnob Try.prog.godebug = none := by kernel_rfl
theorem z_yp : laidOutB Try.prog = true := by kernel_rfl
set_option maxRecDepth 100000 in
theorem lifted (os : Os) (started : os.Started) (H : Type) (enc : TypeId × Value → H) :
    ReturnsInHanded {} Try.checked os 8 .any (Rows.emitRunsSpec.pre6 enc Try.prog Try.f8 Rows.emitRunsRow.domain false) (Rows.emitRunsSpec.post enc Try.prog Try.f8 false true false false) :=
  Go.Abs.law_row (C := Try.checked) (D := 8) (rt := 4) own started (by kernel_rfl) Try.func8
    (ChangeSpec.witness6 (enc := enc) (C := Try.checked) false ⟨#[], #[.agg #[.int .i64 0, .slice none 0 0, .slice none 0 0], .slice none 0 0, .slice none 0 0], []⟩ 8 (by kernel_rfl) (by kernel_rfl) (by kernel_rfl) (by kernel_rfl))
    Go.Abs.law25_EmitRuns.sound z_yp (by kernel_rfl) rfl (by kernel_rfl) (by kernel_rfl)
    (fun ds h => by
      have h' : ds.length = 3 := h.trans (by kernel_rfl)
      match ds, h' with
      | [d0, d1, d2], _ => rfl)
    (fun args h => Go.Abs.law25_EmitRuns_law args (Go.Abs.args_ok (by kernel_rfl) h))
theorem over : Rows.emitRunsRow.holds Try.pinned (OpenSpec.ofChange Rows.emitRunsSpec) :=
  OpenClaim.holds_of_wide 8 Try.f8 rfl rfl rfl rfl rfl rfl rfl ⟨rfl, rfl, rfl, rfl, rfl⟩ rfl rfl rfl rfl rfl (by kernel_rfl) Try.func8 (by kernel_rfl)
    (of_decide_eq_true (by kernel_rfl)) (by unfold Func.isWrapper; first | (rw [if_pos (by decide +kernel)]; kernel_rfl) | (rw [if_neg (by decide +kernel)]; exact ⟨rfl, rfl⟩))
    (fun os started H enc _ => lifted os started H enc)
theorem proved : Rows.EmitRunsSaid := over
end Go.Proofs.Yteohnepdbjmghaa.emitRuns
namespace Go.Proofs.Yteohnepdbjmghaa
theorem emitRuns_holds : Rows.EmitRunsSaid := emitRuns.proved
end Go.Proofs.Yteohnepdbjmghaa

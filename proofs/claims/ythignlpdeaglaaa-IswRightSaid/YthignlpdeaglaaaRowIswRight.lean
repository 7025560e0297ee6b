/-
  The row of the law IswRight: for every input the law returns true, and each argument reads as it did.
-/
import Derived.Test.YthignlpdeaglaaaRows
import Derived.Test.YthignlpdeaglaaaL19P
import Derived.Test.YthignlpdeaglaaaJ19
namespace Go.Proofs.Ythignlpdeaglaaa.iswRight
open Go.ChangeShapes Go.WideShapes Go.ChangeAt Go.RowKit
set_option linter.unusedVariables false
theorem own : ownKnob Try.prog.godebug = none := by kernel_rfl
theorem laidOut : laidOutB Try.prog = true := by kernel_rfl
set_option maxRecDepth 100000 in
theorem lifted (os : Os) (started : os.Started) (H : Type) (enc : TypeId × Value → H) :
    ReturnsInHanded {} Try.checked os 13 .any (Rows.iswRightSpec.pre6 enc Try.prog Try.f13 Rows.iswRightRow.domain false) (Rows.iswRightSpec.post enc Try.prog Try.f13 false true false false) :=
  Go.Abs.law_row (C := Try.checked) (D := 8) (rt := 4) own started (by kernel_rfl) Try.func13
    (ChangeSpec.witness6 (enc := enc) (C := Try.checked) false ⟨#[], #[.int .u8 0, .slice none 0 0, .slice none 0 0], []⟩ 8 (by kernel_rfl) (by kernel_rfl) (by kernel_rfl) (by kernel_rfl))
    Go.Abs.law19_IswRight.sound laidOut (by kernel_rfl) rfl (by kernel_rfl) (by kernel_rfl)
    (fun ds h => by
      have h' : ds.length = 3 := h.trans (by kernel_rfl)
      match ds, h' with
      | [d0, d1, d2], _ => rfl)
    (fun args h => Go.Abs.law19_IswRight_law args (Go.Abs.args_ok (by kernel_rfl) h))
theorem over : Rows.iswRightRow.holds Try.pinned (OpenSpec.ofChange Rows.iswRightSpec) :=
  OpenClaim.holds_of_wide 13 Try.f13 rfl rfl rfl rfl rfl rfl rfl ⟨rfl, rfl, rfl, rfl, rfl⟩ rfl rfl rfl rfl rfl (by kernel_rfl) Try.func13 (by kernel_rfl)
    (of_decide_eq_true (by kernel_rfl)) (by unfold Func.isWrapper; first | (rw [if_pos (by decide +kernel)]; kernel_rfl) | (rw [if_neg (by decide +kernel)]; exact ⟨rfl, rfl⟩))
    (fun os started H enc _ => lifted os started H enc)
theorem proved : Rows.IswRightSaid := over
end Go.Proofs.Ythignlpdeaglaaa.iswRight
namespace Go.Proofs.Ythignlpdeaglaaa
theorem iswRight_holds : Rows.IswRightSaid := iswRight.proved
end Go.Proofs.Ythignlpdeaglaaa

/-
  The row of the law IswSafeFresh: for every input the law returns true, and each argument reads as it did.
-/
import Derived.Test.YthignlpdeaglaaaRows
import Derived.Test.YthignlpdeaglaaaL19P
import Derived.Test.YthignlpdeaglaaaJ39
namespace Go.Proofs.Ythignlpdeaglaaa.iswSafeFresh
open Go.ChangeShapes Go.WideShapes Go.ChangeAt Go.RowKit
set_option linter.unusedVariables false
theorem own : ownKnob Try.prog.godebug = none := by kernel_rfl
theorem laidOut : laidOutB Try.prog = true := by kernel_rfl
set_option maxRecDepth 100000 in
theorem lifted (os : Os) (started : os.Started) (H : Type) (enc : TypeId × Value → H) :
    ReturnsInHanded {} Try.checked os 9 .any (Rows.iswSafeFreshSpec.pre6 enc Try.prog Try.f9 Rows.iswSafeFreshRow.domain false) (Rows.iswSafeFreshSpec.post enc Try.prog Try.f9 false true false false) :=
  Go.Abs.law_row (C := Try.checked) (D := 8) (rt := 4) own started (by kernel_rfl) Try.func9
    (ChangeSpec.witness6 (enc := enc) (C := Try.checked) false ⟨#[], #[.int .u8 0, .agg #[.int .u16 0, .int .u16 0, .int .u16 0]], []⟩ 8 (by kernel_rfl) (by kernel_rfl) (by kernel_rfl) (by kernel_rfl))
    Go.Abs.law19_IswSafeFresh.sound laidOut (by kernel_rfl) rfl (by kernel_rfl) (by kernel_rfl)
    (fun ds h => by
      have h' : ds.length = 2 := h.trans (by kernel_rfl)
      match ds, h' with
      | [d0, d1], _ => rfl)
    (fun args h => Go.Abs.law19_IswSafeFresh_law args (Go.Abs.args_ok (by kernel_rfl) h))
theorem over : Rows.iswSafeFreshRow.holds Try.pinned (OpenSpec.ofChange Rows.iswSafeFreshSpec) :=
  OpenClaim.holds_of_wide 9 Try.f9 rfl rfl rfl rfl rfl rfl rfl ⟨rfl, rfl, rfl, rfl, rfl⟩ rfl rfl rfl rfl rfl (by kernel_rfl) Try.func9 (by kernel_rfl)
    (of_decide_eq_true (by kernel_rfl)) (by unfold Func.isWrapper; first | (rw [if_pos (by decide +kernel)]; kernel_rfl) | (rw [if_neg (by decide +kernel)]; exact ⟨rfl, rfl⟩))
    (fun os started H enc _ => lifted os started H enc)
theorem proved : Rows.IswSafeFreshSaid := over
end Go.Proofs.Ythignlpdeaglaaa.iswSafeFresh
namespace Go.Proofs.Ythignlpdeaglaaa
theorem iswSafeFresh_holds : Rows.IswSafeFreshSaid := iswSafeFresh.proved
end Go.Proofs.Ythignlpdeaglaaa

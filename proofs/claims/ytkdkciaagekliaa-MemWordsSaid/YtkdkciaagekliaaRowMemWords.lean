/-
  The row of the law MemWords: for every input the law returns true, and each argument reads as it did.
-/
import Derived.Test.YtkdkciaagekliaaRows
import Derived.Test.YtkdkciaagekliaaAP
import Derived.Test.YtkdkciaagekliaaM4
namespace Go.Proofs.Ytkdkciaagekliaa.memWords
open Go.ChangeShapes Go.WideShapes Go.ChangeAt Go.RowKit
set_option linter.unusedVariables false
theorem own : ownKnob Try.prog.godebug = none := by kernel_rfl
theorem laidOut : laidOutB Try.prog = true := by kernel_rfl
set_option maxRecDepth 100000 in
theorem lifted (os : Os) (started : os.Started) (H : Type) (enc : TypeId × Value → H) :
    ReturnsInHanded {} Try.checked os 8 .any (Rows.memWordsSpec.pre6 enc Try.prog Try.f8 Rows.memWordsRow.domain false) (Rows.memWordsSpec.post enc Try.prog Try.f8 false true false false) :=
  Go.Abs.law_row (C := Try.checked) (D := 8) (rt := 4) own started (by kernel_rfl) Try.func8
    (ChangeSpec.witness6 (enc := enc) (C := Try.checked) false ⟨#[], #[.int .i64 0, .int .i64 0, .int .u32 0], []⟩ 8 (by kernel_rfl) (by kernel_rfl) (by kernel_rfl) (by kernel_rfl))
    Go.Abs.law05_MemWords.sound laidOut (by kernel_rfl) rfl (by kernel_rfl) (by kernel_rfl)
    (fun ds h => by
      have h' : ds.length = 3 := h.trans (by kernel_rfl)
      match ds, h' with
      | [d0, d1, d2], _ => rfl)
    (fun args h => Go.Abs.law05_MemWords_law args (Go.Abs.args_ok (by kernel_rfl) h))
theorem over : Rows.memWordsRow.holds Try.pinned (OpenSpec.ofChange Rows.memWordsSpec) :=
  OpenClaim.holds_of_wide 8 Try.f8 rfl rfl rfl rfl rfl rfl rfl ⟨rfl, rfl, rfl, rfl, rfl⟩ rfl rfl rfl rfl rfl (by kernel_rfl) Try.func8 (by kernel_rfl)
    (of_decide_eq_true (by kernel_rfl)) (by unfold Func.isWrapper; first | (rw [if_pos (by decide +kernel)]; kernel_rfl) | (rw [if_neg (by decide +kernel)]; exact ⟨rfl, rfl⟩))
    (fun os started H enc _ => lifted os started H enc)
theorem proved : Rows.MemWordsSaid := over
end Go.Proofs.Ytkdkciaagekliaa.memWords
namespace Go.Proofs.Ytkdkciaagekliaa
/-- The row, under a short name, for the claim. -/
theorem memWords_holds : Rows.MemWordsSaid := memWords.proved
end Go.Proofs.Ytkdkciaagekliaa

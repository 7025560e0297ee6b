/-
  The library's sort of whole numbers: that it is so.
-/
import Derived.Test.YteohnepdbjmghaaSoF
import Derived.Test.YteohnepdbjmghaaP0
import Derived.Test.YteohnepdbjmghaaSoL
import Derived.Shelf.Sort.Plain
import Derived.Shelf.Slices.In.SortNone
set_option linter.unusedVariables false
namespace Go.Abs
theorem slices_Sort_int.callable : Callable Go.Proofs.Try.prog 61 := fun args w => Go.Proofs.Try.call61 args w
theorem slices_Sort_int.sound : Sound Go.Proofs.Try.prog 61 (.ref [false] slices_Sort_int.spec) :=
  sound_sort (k := .i64) slices_Sort_int.callable (fun blk off cap zs w h1 h2 h3 => Go.Proofs.Any.slices_Sort_int Go.Proofs.Try.lays189 blk off cap zs w h1 h2 h3)
    (fun p cap w => Go.Proofs.Any.slices_Sort_int_none Go.Proofs.Try.lays189 p cap w)
end Go.Abs

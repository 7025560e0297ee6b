/-
  The library's sort of whole numbers.
-/
import Derived.Test.YteohnepdbjmghaaT
import Derived.Test.YteohnepdbjmghaaSoA
namespace Go.Abs
def slices_Sort_int.spec : List AV → AHeap → Option (AV × AHeap) := sortSpec .i64
end Go.Abs

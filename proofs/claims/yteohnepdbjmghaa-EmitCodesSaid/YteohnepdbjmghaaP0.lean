/-
  What the proofs share.
-/
import Derived.Test.YteohnepdbjmghaaT
import Derived.Test.YteohnepdbjmghaaProg
import Derived.KernelRfl
namespace Go.Abs
theorem Mixed : Go.Proofs.Try.prog.follows .mixedOrders = true := by kernel_rfl
end Go.Abs

/-
  What the proofs share.
-/
import Derived.Test.YtncablokgkejjaaT
import Derived.Test.YtncablokgkejjaaProg
import Derived.KernelRfl
namespace Go.Abs
theorem Mixed : Go.Proofs.Try.prog.follows .mixedOrders = true := by kernel_rfl
end Go.Abs

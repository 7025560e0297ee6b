/-
  What the proofs share.
-/
import Derived.Test.YthignlpdeaglaaaT
import Derived.Test.YthignlpdeaglaaaProg
import Derived.KernelRfl
namespace Go.Abs
theorem Mixed : Go.Proofs.Try.prog.follows .mixedOrders = true := by kernel_rfl
end Go.Abs

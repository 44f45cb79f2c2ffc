/-
  The sanity of the chapter, run by the kernel.
-/
import Derived.Test.YtlilfkbnlacfgaaGreatDoorSan0
open Go Go.Abs Go.Proofs
namespace Go.W14
set_option maxRecDepth 100000
theorem r4 : gives (.bool true) (call (envM [k44, k77, k20x0, k20x1, k20x2, k20x3, k20x4]) 200 4 [] h0) = true := by kernel_rfl
end Go.W14

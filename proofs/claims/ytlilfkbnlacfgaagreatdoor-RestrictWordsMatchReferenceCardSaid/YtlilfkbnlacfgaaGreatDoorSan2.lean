/-
  The checks of the trees, run by the kernel.
-/
import Derived.Test.YtlilfkbnlacfgaaGreatDoorSan0
open Go Go.Abs Go.Proofs
namespace Go.W14
set_option maxRecDepth 100000
theorem r20x0 : gives k20x0.res (call (envM [k44, k77]) 200 20 k20x0.args (knownHeap k20x0)) = true := by kernel_rfl
theorem r20x1 : gives k20x1.res (call (envM [k44, k77]) 200 20 k20x1.args (knownHeap k20x1)) = true := by kernel_rfl
end Go.W14

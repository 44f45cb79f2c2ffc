/-
  The checks of the trees, run by the kernel.
-/
import Derived.Test.YtlilfkbnlacfgaaGreatDoorSan0
open Go Go.Abs Go.Proofs
namespace Go.W14
set_option maxRecDepth 100000
theorem r20x2 : gives k20x2.res (call (envM [k44, k77]) 200 20 k20x2.args (knownHeap k20x2)) = true := by kernel_rfl
theorem r20x3 : gives k20x3.res (call (envM [k44, k77]) 200 20 k20x3.args (knownHeap k20x3)) = true := by kernel_rfl
theorem r20x4 : gives k20x4.res (call (envM [k44, k77]) 200 20 k20x4.args (knownHeap k20x4)) = true := by kernel_rfl
end Go.W14

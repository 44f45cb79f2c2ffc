/-
  The checks of the grammar, run by the kernel.
-/
import Derived.Test.YtlilfkbnlacfgaaGreatDoorSan0
open Go Go.Abs Go.Proofs
namespace Go.W14
set_option maxRecDepth 100000
theorem r77 : gives k77.res (call (envM []) 200 k77.f k77.args (knownHeap k77)) = true := by kernel_rfl
theorem r44 : gives k44.res (call (envM [k77]) 200 k44.f k44.args (knownHeap k44)) = true := by kernel_rfl
end Go.W14

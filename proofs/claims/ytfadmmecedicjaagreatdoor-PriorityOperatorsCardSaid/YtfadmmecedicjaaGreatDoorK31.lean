/-
  PriorityOperators: parts of its proof (Va4).
-/
import Derived.Test.YtfadmmecedicjaaGreatDoorK24
set_option linter.unusedVariables false
set_option linter.unusedSimpArgs false

section
/-
  The checks of the grammars of the operators, run by the kernel.
-/
open Go Go.Abs Go.Proofs
namespace Go.Pri
set_option maxRecDepth 100000
theorem e57q4q1 (ps : List (Nat × Pl)) : gives6 (.int .i64 0) (call (envP ps [k96 4 1]) 200 57 [gA 4 1] (knownHeap (k57 4 1))) = true := by kernel_rfl
theorem e20q4q1 (ps : List (Nat × Pl)) : gives6 (.int .i64 0) (call (envP ps [k57 4 1]) 200 20 [gA 4 1] (knownHeap (k20 4 1))) = true := by kernel_rfl
theorem s57q4q1 : knownAt (k57 4 1) 57 [gA 4 1] (knownHeap (k57 4 1)) = true := by kernel_rfl
theorem s20q4q1 : knownAt (k20 4 1) 20 [gA 4 1] (knownHeap (k20 4 1)) = true := by kernel_rfl
theorem e57q4q2 (ps : List (Nat × Pl)) : gives6 (.int .i64 0) (call (envP ps [k96 4 2]) 200 57 [gA 4 2] (knownHeap (k57 4 2))) = true := by kernel_rfl
theorem e20q4q2 (ps : List (Nat × Pl)) : gives6 (.int .i64 0) (call (envP ps [k57 4 2]) 200 20 [gA 4 2] (knownHeap (k20 4 2))) = true := by kernel_rfl
theorem s57q4q2 : knownAt (k57 4 2) 57 [gA 4 2] (knownHeap (k57 4 2)) = true := by kernel_rfl
theorem s20q4q2 : knownAt (k20 4 2) 20 [gA 4 2] (knownHeap (k20 4 2)) = true := by kernel_rfl
theorem e57q4q3 (ps : List (Nat × Pl)) : gives6 (.int .i64 0) (call (envP ps [k96 4 3]) 200 57 [gA 4 3] (knownHeap (k57 4 3))) = true := by kernel_rfl
theorem e20q4q3 (ps : List (Nat × Pl)) : gives6 (.int .i64 0) (call (envP ps [k57 4 3]) 200 20 [gA 4 3] (knownHeap (k20 4 3))) = true := by kernel_rfl
theorem s57q4q3 : knownAt (k57 4 3) 57 [gA 4 3] (knownHeap (k57 4 3)) = true := by kernel_rfl
theorem s20q4q3 : knownAt (k20 4 3) 20 [gA 4 3] (knownHeap (k20 4 3)) = true := by kernel_rfl
end Go.Pri
end

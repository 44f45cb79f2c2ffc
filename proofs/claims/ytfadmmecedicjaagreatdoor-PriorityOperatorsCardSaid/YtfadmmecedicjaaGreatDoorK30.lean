/-
  PriorityOperators: parts of its proof (Va3).
-/
import Derived.Test.YtfadmmecedicjaaGreatDoorK24
set_option linter.unusedVariables false
set_option linter.unusedSimpArgs false

section
/-
  The checks of the grammars of the operators, run by the kernel.
-/
open Go Go.Abs Go.Proofs
namespace Go.Pri
set_option maxRecDepth 100000
theorem e57q3q1 (ps : List (Nat × Pl)) : gives6 (.int .i64 0) (call (envP ps [k96 3 1]) 200 57 [gA 3 1] (knownHeap (k57 3 1))) = true := by kernel_rfl
theorem e20q3q1 (ps : List (Nat × Pl)) : gives6 (.int .i64 0) (call (envP ps [k57 3 1]) 200 20 [gA 3 1] (knownHeap (k20 3 1))) = true := by kernel_rfl
theorem s57q3q1 : knownAt (k57 3 1) 57 [gA 3 1] (knownHeap (k57 3 1)) = true := by kernel_rfl
theorem s20q3q1 : knownAt (k20 3 1) 20 [gA 3 1] (knownHeap (k20 3 1)) = true := by kernel_rfl
theorem e57q3q2 (ps : List (Nat × Pl)) : gives6 (.int .i64 0) (call (envP ps [k96 3 2]) 200 57 [gA 3 2] (knownHeap (k57 3 2))) = true := by kernel_rfl
theorem e20q3q2 (ps : List (Nat × Pl)) : gives6 (.int .i64 0) (call (envP ps [k57 3 2]) 200 20 [gA 3 2] (knownHeap (k20 3 2))) = true := by kernel_rfl
theorem s57q3q2 : knownAt (k57 3 2) 57 [gA 3 2] (knownHeap (k57 3 2)) = true := by kernel_rfl
theorem s20q3q2 : knownAt (k20 3 2) 20 [gA 3 2] (knownHeap (k20 3 2)) = true := by kernel_rfl
theorem e57q3q3 (ps : List (Nat × Pl)) : gives6 (.int .i64 0) (call (envP ps [k96 3 3]) 200 57 [gA 3 3] (knownHeap (k57 3 3))) = true := by kernel_rfl
theorem e20q3q3 (ps : List (Nat × Pl)) : gives6 (.int .i64 0) (call (envP ps [k57 3 3]) 200 20 [gA 3 3] (knownHeap (k20 3 3))) = true := by kernel_rfl
theorem s57q3q3 : knownAt (k57 3 3) 57 [gA 3 3] (knownHeap (k57 3 3)) = true := by kernel_rfl
theorem s20q3q3 : knownAt (k20 3 3) 20 [gA 3 3] (knownHeap (k20 3 3)) = true := by kernel_rfl
end Go.Pri
end

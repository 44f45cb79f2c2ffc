/-
  PriorityOperators: parts of its proof (Va2).
-/
import Derived.Test.YtfadmmecedicjaaGreatDoorK24
set_option linter.unusedVariables false
set_option linter.unusedSimpArgs false

section
/-
  The checks of the grammars of the operators, run by the kernel.
-/
open Go Go.Abs Go.Proofs
namespace Go.Pri
set_option maxRecDepth 100000
theorem e57q1q1 (ps : List (Nat × Pl)) : gives6 (.int .i64 0) (call (envP ps [k96 1 1]) 200 57 [gA 1 1] (knownHeap (k57 1 1))) = true := by kernel_rfl
theorem e20q1q1 (ps : List (Nat × Pl)) : gives6 (.int .i64 0) (call (envP ps [k57 1 1]) 200 20 [gA 1 1] (knownHeap (k20 1 1))) = true := by kernel_rfl
theorem s57q1q1 : knownAt (k57 1 1) 57 [gA 1 1] (knownHeap (k57 1 1)) = true := by kernel_rfl
theorem s20q1q1 : knownAt (k20 1 1) 20 [gA 1 1] (knownHeap (k20 1 1)) = true := by kernel_rfl
theorem e57q2q1 (ps : List (Nat × Pl)) : gives6 (.int .i64 0) (call (envP ps [k96 2 1]) 200 57 [gA 2 1] (knownHeap (k57 2 1))) = true := by kernel_rfl
theorem e20q2q1 (ps : List (Nat × Pl)) : gives6 (.int .i64 0) (call (envP ps [k57 2 1]) 200 20 [gA 2 1] (knownHeap (k20 2 1))) = true := by kernel_rfl
theorem s57q2q1 : knownAt (k57 2 1) 57 [gA 2 1] (knownHeap (k57 2 1)) = true := by kernel_rfl
theorem s20q2q1 : knownAt (k20 2 1) 20 [gA 2 1] (knownHeap (k20 2 1)) = true := by kernel_rfl
theorem e57q2q2 (ps : List (Nat × Pl)) : gives6 (.int .i64 0) (call (envP ps [k96 2 2]) 200 57 [gA 2 2] (knownHeap (k57 2 2))) = true := by kernel_rfl
theorem e20q2q2 (ps : List (Nat × Pl)) : gives6 (.int .i64 0) (call (envP ps [k57 2 2]) 200 20 [gA 2 2] (knownHeap (k20 2 2))) = true := by kernel_rfl
theorem s57q2q2 : knownAt (k57 2 2) 57 [gA 2 2] (knownHeap (k57 2 2)) = true := by kernel_rfl
theorem s20q2q2 : knownAt (k20 2 2) 20 [gA 2 2] (knownHeap (k20 2 2)) = true := by kernel_rfl
end Go.Pri
end

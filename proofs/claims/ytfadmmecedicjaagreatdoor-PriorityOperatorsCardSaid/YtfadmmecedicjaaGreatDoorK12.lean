/-
  PriorityOperators: parts of its proof (Pr2).
-/
import Derived.OwnWalk
import Derived.Test.YtfadmmecedicjaaGreatDoorK07
set_option linter.unusedVariables false
set_option linter.unusedSimpArgs false

section
/-
  The closure that reads a tree's node, walked.
-/
namespace Go.Pri
open Go Go.Abs Go.Proofs Go.RowKit Go.Lib

/-- A node's fields fit the grammar: a leaf's, an inner node's. -/
def okLeaf (nt : Nat) (p tok fr to : Int) : Prop := p = -1 ∧ 0 ≤ tok ∧ tok < nt ∧ 0 ≤ fr ∧ fr < to
def okInner (np : Nat) (p tok fr to : Int) : Prop := 0 ≤ p ∧ p < np ∧ tok = -1 ∧ 0 ≤ fr ∧ fr ≤ to

set_option maxHeartbeats 4000000 in
theorem node47 (c0 c1 c2 c3 c4 c5 c6 c7 c8 tv : Value) (Bt Bg : Nat) (a1 a2 : Option Addr) (nt np cap1 cap2 : Nat) (h3 : c3 = .slice a1 nt cap1) (h5 : c5 = .slice a2 np cap2)
    (ts : List (List Value)) (i : Nat) (p tok fr to : Int) (w : World)
    (hg3 : w.cell? ⟨Bg, 3, none⟩ = some c3) (hg5 : w.cell? ⟨Bg, 5, none⟩ = some c5) (ht : w.cell? ⟨Bt, 0, none⟩ = some tv)
    (hs : SliceAt 4 w tv ts) (hi : ts[i]? = some [.int .i64 p, .int .i64 tok, .int .i64 fr, .int .i64 to]) (hok : okLeaf nt p tok fr to ∨ okInner np p tok fr to) :
    Calls Tryz.prog 47 #[.int .i64 i, .pointer (some ⟨Bt, 0, none⟩), .pointer (some ⟨Bg, 0, none⟩)] w fun e w' =>
      e = .returned (.tuple #[.int .i64 p, .int .i64 tok, .bool true]) ∧ Keeps w w' := by
  obtain ⟨b, off, cap, rfl, hcell⟩ := hs.at hi
  have k0 := hcell 0 _ rfl
  have k1 := hcell 1 _ rfl
  have k2 := hcell 2 _ rfl
  have k3 := hcell 3 _ rfl
  have hlt : (i : Int) < ts.length := by
    have := (List.getElem?_eq_some_iff.1 hi).1
    omega
  have hb := lt_of_cell k1
  have hb1 := lt_of_cell hg3
  have hb2 := lt_of_cell ht
  simp only at hb hb1 hb2
  have n0 : b ≠ w.heap.size := by omega
  have n1 : Bg ≠ w.heap.size := by omega
  have n2 : Bt ≠ w.heap.size := by omega
  subst h3 h5
  generalize ts.length = n at *
  clear hs hi hcell hb hb1 hb2
  simp only [Nat.add_zero] at k0
  have kk : ∀ c t, Keeps w (w.alloc (.cells c t)) := fun c t => (Keeps.refl w).alloc c t
  have g3 := (kk #[.int .i64 p, .int .i64 tok, .int .i64 fr, .int .i64 to] 79).cell_some hg3
  have g5 := (kk #[.int .i64 p, .int .i64 tok, .int .i64 fr, .int .i64 to] 79).cell_some hg5
  rcases hok with ⟨rfl, q1, q2, q3, q4⟩ | ⟨q1, q2, rfl, q3, q4⟩
  · go_enter Tryz.func47, Tryz.ntmps47
    go_wp2
    go_region
    all_goals go_wp2
    all_goals go_ret3
    all_goals exact ⟨rfl, by repeat (first | exact Keeps.refl _ | apply Keeps.drew | apply Keeps.alloc)⟩
  · have q0 : ¬ p = -1 := by omega
    go_enter Tryz.func47, Tryz.ntmps47
    go_wp2
    go_region
    all_goals go_wp2
    all_goals go_ret3
    all_goals exact ⟨rfl, by repeat (first | exact Keeps.refl _ | apply Keeps.drew | apply Keeps.alloc)⟩
end Go.Pri
end

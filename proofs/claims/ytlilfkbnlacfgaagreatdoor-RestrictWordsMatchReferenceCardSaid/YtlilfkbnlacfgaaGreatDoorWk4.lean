/-
  The law, walked.
-/
import Derived.Test.YtlilfkbnlacfgaaGreatDoorWk3
import Derived.Test.YtlilfkbnlacfgaaGreatDoorSan5
namespace Go.W14
open Go Go.Abs Go.Proofs Go.RowKit Go.Lib

theorem words_form (fr to en : Int) (zs : List Wd) : ∃ (a b : Int) (c : Bool), words fr to en zs = .tuple #[.int .i64 a, .int .i64 b, .bool c] := by
  unfold words
  split
  · exact ⟨_, _, _, rfl⟩
  · exact ⟨_, _, _, rfl⟩

set_option maxHeartbeats 2000000 in
theorem law3 (fr to en : Int) (v r s : Value) (zs : List Wd) (w : World) (el : TypeId) (fz : Nat × Nat) (ht : w.heap[0]? = some (.cells table.toArray el fz)) (hc : WordsAt w v zs) :
    Calls Tryz.prog 3 #[.agg #[v, r, .int .i64 en, s], .int .i64 fr, .int .i64 to] w fun e w' => e = .returned (.bool true) ∧ Keeps w w' := by
  have hsz : 0 < w.heap.size := by
    rcases Nat.lt_or_ge 0 w.heap.size with h | h
    · exact h
    · simp [h] at ht
  have hk0 : Keeps w (w.alloc (.cells #[v, r, .int .i64 en, s] 24)) := (Keeps.refl w).alloc _ _
  have hsan := sanity4 (w.alloc (.cells #[v, r, .int .i64 en, s] 24)) el fz (by rw [hk0.heap 0 hsz]; exact ht)
  have hcells : ∀ W, Keeps (w.alloc (.cells #[v, r, .int .i64 en, s] 24)) W → W.cell? ⟨w.heap.size, 0, none⟩ = some v ∧ W.cell? ⟨w.heap.size, 1, none⟩ = some r ∧ W.cell? ⟨w.heap.size, 2, none⟩ = some (.int .i64 en) ∧ W.cell? ⟨w.heap.size, 3, none⟩ = some s := fun W hW =>
    ⟨by rw [hW.cell (by simp)]; simp, by rw [hW.cell (by simp)]; simp, by rw [hW.cell (by simp)]; simp, by rw [hW.cell (by simp)]; simp⟩
  by_cases hbig : zs.length ≤ 20
  · have hp : ∀ (W : World), Keeps w W → Calls Tryz.prog 5 #[.agg #[v, r, .int .i64 en, s], .int .i64 fr, .int .i64 to] W fun e w' => e = .returned (words fr to en zs) ∧ Keeps W w' := fun W hW =>
      words5 fr to en v r s zs W (by omega) (hc.keep hW)
    have hq : ∀ (W : World), Keeps w W → Calls Tryz.prog 6 #[.agg #[v, r, .int .i64 en, s], .int .i64 fr, .int .i64 to] W fun e w' => e = .returned (words fr to en zs) ∧ Keeps W w' := fun W hW =>
      words6 fr to en v r s zs W (by omega) (hc.keep hW)
    obtain ⟨x, y, z, hx⟩ := words_form fr to en zs
    rw [hx] at hp hq
    obtain ⟨a, c, rfl⟩ := hc.form
    have hgt : ¬ 20 < (zs.length : Int) := by omega
    clear hc hx ht
    generalize zs.length = n at *
    go_enter Tryz.func3, Tryz.ntmps3
    go_wp2_with (first
      | (go_at_call 4; refine hsan.mono ?_; rintro e w1 ⟨rfl, kw⟩; obtain ⟨l0, l1, l2, l3⟩ := hcells _ kw)
      | (go_at_call 5; refine (hp _ (hk0.trans kw)).mono ?_; rintro e w1 ⟨rfl, hb'⟩; replace kw := kw.trans hb'; clear hb'; obtain ⟨l0, l1, l2, l3⟩ := hcells _ kw)
      | (go_at_call 6; refine (hq _ (hk0.trans kw)).mono ?_; rintro e w1 ⟨rfl, hb'⟩; replace kw := kw.trans hb'; clear hb'; obtain ⟨l0, l1, l2, l3⟩ := hcells _ kw))
    all_goals go_ret
    all_goals exact ⟨rfl, hk0.trans kw⟩
  · obtain ⟨a, c, rfl⟩ := hc.form
    have hgt : 20 < (zs.length : Int) := by omega
    clear hc ht
    generalize zs.length = n at *
    go_enter Tryz.func3, Tryz.ntmps3
    go_wp2_with (go_at_call 4; refine hsan.mono ?_; rintro e w1 ⟨rfl, kw⟩; obtain ⟨l0, l1, l2, l3⟩ := hcells _ kw)
    all_goals go_ret
    all_goals exact ⟨rfl, hk0.trans kw⟩

end Go.W14

/-
  The reference's gap and number, and Words, walked.
-/
import Derived.Test.YtlilfkbnlacfgaaGreatDoorWk2
import Derived.OwnWalk
namespace Go.W14
open Go Go.Abs Go.Proofs Go.RowKit Go.Lib

def gapAt (en : Int) (zs : List Wd) (i : Nat) : Int := if i < zs.length then zs[i]!.1 else en

set_option maxHeartbeats 1000000 in
/-- koineref14.gap -/
theorem gap32 (i : Nat) (en : Int) (v r s : Value) (zs : List Wd) (w : World) (hbig : zs.length ≤ 9223372036854775807) (hc : WordsAt w v zs) :
    Calls Tryz.prog 32 #[.agg #[v, r, .int .i64 en, s], .int .i64 i] w fun e w' => e = .returned (.int .i64 (gapAt en zs i)) ∧ Keeps w w' := by
  have k1 : ∀ c t, Keeps w (w.alloc (.cells c t)) := fun c t => (Keeps.refl w).alloc c t
  by_cases hlt : i < zs.length
  · rcases hc with ⟨rfl, a, c, rfl⟩ | ⟨b, off, c, rfl, h2⟩
    · exact absurd hlt (Nat.not_lt_zero _)
    · have h0 := h2 i hlt 0 _ rfl
      simp only [Nat.add_zero] at h0
      have hb := lt_of_cell h0
      simp only at hb
      have hne : b ≠ w.heap.size := by omega
      have hi : (i : Int) < (zs.length : Int) := by omega
      have eg : gapAt en zs i = zs[i]!.1 := by simp only [gapAt, if_pos hlt]
      rw [eg]
      clear h2 eg
      generalize zs[i]!.1 = y at h0 ⊢
      generalize zs.length = n at *
      go_enter Tryz.func32, Tryz.ntmps32
      go_wp2
      all_goals (go_ret; exact ⟨rfl, k1 _ _⟩)
  · obtain ⟨a, c, rfl⟩ := hc.form
    clear hc
    have hi : ¬ (i : Int) < (zs.length : Int) := by omega
    simp only [gapAt, if_neg hlt]
    generalize zs.length = n at *
    go_enter Tryz.func32, Tryz.ntmps32
    go_wp2
    all_goals (go_ret; exact ⟨rfl, k1 _ _⟩)

theorem num_hit {at_ en : Int} {zs : List Wd} {k : Nat} (hk : k ≤ zs.length) (h : gapAt en zs k = at_) (hj : ∀ j, j < k → gapAt en zs j ≠ at_) : num at_ en zs = k := by
  have hj' : ∀ j, j < k → zs[j]!.1 ≠ at_ := fun j h1 => by
    have := hj j h1
    rwa [gapAt, if_pos (by omega)] at this
  rcases Nat.lt_or_ge k zs.length with h1 | h1
  · rw [gapAt, if_pos h1] at h
    have := firstAt_hit at_ zs k h1 h hj'
    simp only [num, this, if_pos h1]
  · have e : k = zs.length := by omega
    subst e
    have := firstAt_miss at_ zs hj'
    rw [gapAt, if_neg (Nat.lt_irrefl _)] at h
    simp only [num, this, Nat.lt_irrefl, if_false, h, if_true]
theorem num_miss {at_ en : Int} {zs : List Wd} (hj : ∀ j, j < zs.length + 1 → gapAt en zs j ≠ at_) : num at_ en zs = -1 := by
  have := firstAt_miss at_ zs (fun j h1 => by
    have := hj j (by omega)
    rwa [gapAt, if_pos (by omega)] at this)
  have h := hj zs.length (by omega)
  rw [gapAt, if_neg (Nat.lt_irrefl _)] at h
  simp only [num, this, Nat.lt_irrefl, if_false]
  rw [if_neg (fun e => h e.symm)]

set_option maxHeartbeats 2000000 in
/-- koineref14.number -/
theorem number15 (at_ en : Int) (v r s : Value) (zs : List Wd) (w : World) (hbig : zs.length ≤ 9223372036854775000) (hc : WordsAt w v zs) :
    Calls Tryz.prog 15 #[.agg #[v, r, .int .i64 en, s], .int .i64 at_] w fun e w' => e = .returned (.int .i64 (num at_ en zs)) ∧ Keeps w w' := by
  have hk0 : Keeps w (w.alloc (.cells #[v, r, .int .i64 en, s] 24)) := (Keeps.refl w).alloc _ _
  have hp : ∀ (W : World) (i : Nat), Keeps w W → Calls Tryz.prog 32 #[.agg #[v, r, .int .i64 en, s], .int .i64 i] W fun e w' => e = .returned (.int .i64 (gapAt en zs i)) ∧ Keeps W w' := fun W i hW =>
    gap32 i en v r s zs W (by omega) (hc.keep hW)
  have hcells : ∀ W, Keeps (w.alloc (.cells #[v, r, .int .i64 en, s] 24)) W → W.cell? ⟨w.heap.size, 0, none⟩ = some v ∧ W.cell? ⟨w.heap.size, 1, none⟩ = some r ∧ W.cell? ⟨w.heap.size, 2, none⟩ = some (.int .i64 en) ∧ W.cell? ⟨w.heap.size, 3, none⟩ = some s := fun W hW =>
    ⟨by rw [hW.cell (by simp)]; simp, by rw [hW.cell (by simp)]; simp, by rw [hW.cell (by simp)]; simp, by rw [hW.cell (by simp)]; simp⟩
  obtain ⟨a, c, rfl⟩ := hc.form
  clear hc
  generalize hn : zs.length = n at *
  go_enter Tryz.func15, Tryz.ntmps15
  go_wp2
  go_loopg [5] (n + 1) (fun gg s5 wr => ∃ kk : Nat, kk ≤ n + 1 ∧ n + 1 - kk ≤ gg ∧ s5 = .int .i64 kk ∧ Aside (Keeps (w.alloc (.cells #[.slice a n c, r, .int .i64 en, s] 24)) wr) ∧ Aside (∀ j, j < kk → gapAt en zs j ≠ at_))
  case atStart => exact ⟨0, Nat.zero_le _, by omega, rfl, Keeps.refl _, fun j hj => absurd hj (Nat.not_lt_zero _)⟩
  case round =>
    obtain ⟨kk, hkk, hg, rfl, BW, A⟩ := hrel
    by_cases hlt : kk < n + 1
    · have hltz : (kk : Int) ≤ (n : Int) := by omega
      have hcall := hp wr kk (hk0.trans BW.out)
      obtain ⟨l0, l1, l2, l3⟩ := hcells wr BW.out
      clear hp hcells
      generalize hy : gapAt en zs kk = y at hcall
      have B : Aside (gapAt en zs kk = y) := hy
      clear hy
      by_cases hq : y = at_
      · go_wp2_with (go_at_call 32; refine hcall.mono ?_; rintro e w' ⟨rfl, hb'⟩)
        go_ret
        refine ⟨?_, hk0.trans (BW.out.trans hb')⟩
        rw [num_hit (by omega) (by rw [B.out]; exact hq) A.out]
        rfl
      · go_wp2_with (go_at_call 32; refine hcall.mono ?_; rintro e w' ⟨rfl, hb'⟩)
        go_roundg (n + 1 - (kk + 1))
        case measure => omega
        case rel =>
          refine ⟨kk + 1, by omega, by omega, by go_num, (show Aside _ from BW.out.trans hb'), (show Aside _ from fun j hj => ?_)⟩
          by_cases e : j = kk
          · subst e
            rw [B.out]; exact hq
          · exact A.out j (by omega)
    · have hltz : ¬ (kk : Int) ≤ (n : Int) := by omega
      have : kk = n + 1 := by omega
      subst this
      obtain ⟨l0, l1, l2, l3⟩ := hcells wr BW.out
      go_wp2
      go_ret
      refine ⟨?_, hk0.trans BW.out⟩
      rw [num_miss (fun j hj => A.out j (by omega))]
      rfl

def words (fr to en : Int) (zs : List Wd) : Value :=
  if num fr en zs < 0 ∨ num to en zs ≤ num fr en zs then .tuple #[.int .i64 0, .int .i64 0, .bool false]
  else .tuple #[.int .i64 (num fr en zs), .int .i64 (num to en zs - 1), .bool true]

theorem num_le (x en : Int) (zs : List Wd) : num x en zs ≤ zs.length ∧ -1 ≤ num x en zs := by
  unfold num
  split
  · omega
  · split <;> omega

set_option maxHeartbeats 2000000 in
/-- koineref14.Words -/
theorem words6 (fr to en : Int) (v r s : Value) (zs : List Wd) (w : World) (hbig : zs.length ≤ 9223372036854775000) (hc : WordsAt w v zs) :
    Calls Tryz.prog 6 #[.agg #[v, r, .int .i64 en, s], .int .i64 fr, .int .i64 to] w fun e w' => e = .returned (words fr to en zs) ∧ Keeps w w' := by
  have hk0 : Keeps w (w.alloc (.cells #[v, r, .int .i64 en, s] 24)) := (Keeps.refl w).alloc _ _
  have hp : ∀ (W : World) (i : Int), Keeps w W → Calls Tryz.prog 15 #[.agg #[v, r, .int .i64 en, s], .int .i64 i] W fun e w' => e = .returned (.int .i64 (num i en zs)) ∧ Keeps W w' := fun W i hW =>
    number15 i en v r s zs W hbig (hc.keep hW)
  have hcells : ∀ W, Keeps (w.alloc (.cells #[v, r, .int .i64 en, s] 24)) W → W.cell? ⟨w.heap.size, 0, none⟩ = some v ∧ W.cell? ⟨w.heap.size, 1, none⟩ = some r ∧ W.cell? ⟨w.heap.size, 2, none⟩ = some (.int .i64 en) ∧ W.cell? ⟨w.heap.size, 3, none⟩ = some s := fun W hW =>
    ⟨by rw [hW.cell (by simp)]; simp, by rw [hW.cell (by simp)]; simp, by rw [hW.cell (by simp)]; simp, by rw [hW.cell (by simp)]; simp⟩
  obtain ⟨a, c, rfl⟩ := hc.form
  clear hc
  have hb1 := num_le fr en zs
  have hb2 := num_le to en zs
  have kw : Keeps (w.alloc (.cells #[.slice a zs.length c, r, .int .i64 en, s] 24)) (w.alloc (.cells #[.slice a zs.length c, r, .int .i64 en, s] 24)) := Keeps.refl _
  go_enter Tryz.func6, Tryz.ntmps6
  go_wp2_with (go_at_call 15; refine (hp _ _ (hk0.trans kw)).mono ?_; rintro e w1 ⟨rfl, hb'⟩; replace kw := kw.trans hb'; clear hb'; obtain ⟨l0, l1, l2, l3⟩ := hcells _ kw)
  all_goals go_ret3
  all_goals refine ⟨?_, hk0.trans kw⟩
  all_goals first
    | (rw [words, if_pos (by omega)]; rfl)
    | (rw [words, if_neg (by omega)]; rfl)

theorem num_fine {x en : Int} {zs : List Wd} (h : fine x en zs = true) : num x en zs = firstAt x zs := by
  have := firstAt_le x zs
  unfold fine at h
  unfold num
  split
  · rfl
  · rename_i h1
    rw [if_neg h1] at h
    rw [if_pos (by simpa using h)]
    omega
theorem num_not {x en : Int} {zs : List Wd} (h : fine x en zs = false) : num x en zs = -1 := by
  unfold fine at h
  unfold num
  split
  · rename_i h1
    rw [if_pos h1] at h; cases h
  · rename_i h1
    rw [if_neg h1] at h
    rw [if_neg (by simpa using h)]

set_option maxHeartbeats 2000000 in
/-- restrict.Words -/
theorem words5 (fr to en : Int) (v r s : Value) (zs : List Wd) (w : World) (hbig : zs.length ≤ 9223372036854775000) (hc : WordsAt w v zs) :
    Calls Tryz.prog 5 #[.agg #[v, r, .int .i64 en, s], .int .i64 fr, .int .i64 to] w fun e w' => e = .returned (words fr to en zs) ∧ Keeps w w' := by
  have hk0 : Keeps w (w.alloc (.cells #[v, r, .int .i64 en, s] 24)) := (Keeps.refl w).alloc _ _
  have hp : ∀ (W : World) (i : Int), Keeps w W → Calls Tryz.prog 14 #[.agg #[v, r, .int .i64 en, s], .int .i64 i] W fun e w' => e = .returned (.tuple #[.int .i64 (firstAt i zs), .bool (fine i en zs)]) ∧ Keeps W w' := fun W i hW =>
    gap14 i en v r s zs W (by omega) (hc.keep hW)
  have hcells : ∀ W, Keeps (w.alloc (.cells #[v, r, .int .i64 en, s] 24)) W → W.cell? ⟨w.heap.size, 0, none⟩ = some v ∧ W.cell? ⟨w.heap.size, 1, none⟩ = some r ∧ W.cell? ⟨w.heap.size, 2, none⟩ = some (.int .i64 en) ∧ W.cell? ⟨w.heap.size, 3, none⟩ = some s := fun W hW =>
    ⟨by rw [hW.cell (by simp)]; simp, by rw [hW.cell (by simp)]; simp, by rw [hW.cell (by simp)]; simp, by rw [hW.cell (by simp)]; simp⟩
  obtain ⟨a, c, rfl⟩ := hc.form
  clear hc
  have hb1 := firstAt_le fr zs
  have hb2 := firstAt_le to zs
  have kw : Keeps (w.alloc (.cells #[.slice a zs.length c, r, .int .i64 en, s] 24)) (w.alloc (.cells #[.slice a zs.length c, r, .int .i64 en, s] 24)) := Keeps.refl _
  have n1 := @num_fine fr en zs
  have n2 := @num_fine to en zs
  have m1 := @num_not fr en zs
  have m2 := @num_not to en zs
  go_enter Tryz.func5, Tryz.ntmps5
  go_wp2_with (go_at_call 14; refine (hp _ _ (hk0.trans kw)).mono ?_; rintro e w1 ⟨rfl, hb'⟩; replace kw := kw.trans hb'; clear hb'; obtain ⟨l0, l1, l2, l3⟩ := hcells _ kw)
  all_goals go_ret3
  all_goals refine ⟨?_, hk0.trans kw⟩
  · have a1 := n1 (by assumption)
    have a2 := n2 (by assumption)
    have a3 : firstAt to zs ≤ firstAt fr zs := by assumption
    rw [words, if_pos (by omega)]; rfl
  · have a1 := n1 (by assumption)
    have a2 := n2 (by assumption)
    have a3 : ¬ firstAt to zs ≤ firstAt fr zs := by assumption
    rw [words, if_neg (by omega), a1, a2]; rfl
  · have a1 := n1 (by assumption)
    have a2 := m2 (Bool.eq_false_iff.2 (by assumption))
    rw [words, if_pos (by omega)]; rfl
  · have a1 := m1 (Bool.eq_false_iff.2 (by assumption))
    rw [words, if_pos (by omega)]; rfl

end Go.W14

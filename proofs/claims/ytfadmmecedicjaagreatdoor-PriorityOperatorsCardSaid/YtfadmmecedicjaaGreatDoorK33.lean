/-
  PriorityOperators: parts of its proof (Gr3).
-/
import Derived.Test.YtfadmmecedicjaaGreatDoorK09
import Derived.Test.YtfadmmecedicjaaGreatDoorK32
set_option linter.unusedVariables false
set_option linter.unusedSimpArgs false

section
namespace Go.Pri
open Go Go.Abs Go.Proofs Go.RowKit Go.Lib Go.Maps
set_option maxRecDepth 100000
set_option maxHeartbeats 8000000

theorem gram5 (m l0 l1 l2 l3 s0 s1 s2 : Int) (w : World) (hm : 0 ≤ m ∧ m ≤ 255) (hL : ∀ i, 0 ≤ lvN l0 l1 l2 l3 i ∧ lvN l0 l1 l2 l3 i ≤ 255) (hS : ∀ k, 0 ≤ asN s0 s1 s2 k ∧ asN s0 s1 s2 k ≤ 255) (htab : TabAt w) :
    Calls Tryz.prog 5 #[.agg #[.int .u8 m, .int .u8 l0, .int .u8 l1, .int .u8 l2, .int .u8 l3, .int .u8 s0, .int .u8 s1, .int .u8 s2]] w fun e w' => ∃ g, e = .returned g ∧ Old w w' ∧ GRaw w' g (1 + m % 4).toNat (lvAll (1 + m % 4).toNat (lvN l0 l1 l2 l3) (asN s0 s1 s2) 3) := by
  replace hL : Aside _ := hL
  replace hS : Aside _ := hS
  have hO1 : Old w (((w.alloc (.cells #[.int .u8 m, .int .u8 l0, .int .u8 l1, .int .u8 l2, .int .u8 l3, .int .u8 s0, .int .u8 s1, .int .u8 s2] 25)).alloc (.cells #[.slice none 0 0, .slice none 0 0, .int .i64 0, .slice none 0 0, .slice none 0 0, .slice none 0 0, .int .i64 0, .slice none 0 0, .slice none 0 0] 37)).alloc (.cells #[.string ⟨#[69]⟩] 9)) :=
    (((Old.refl w).alloc _).alloc _).alloc _
  have hb14 := bare14 (w.heap.size + 1 + 1) 9 _ (htab.old hO1) (by
    have := World.alloc_heap_new ((w.alloc (.cells #[.int .u8 m, .int .u8 l0, .int .u8 l1, .int .u8 l2, .int .u8 l3, .int .u8 s0, .int .u8 s1, .int .u8 s2] 25)).alloc (.cells #[.slice none 0 0, .slice none 0 0, .int .i64 0, .slice none 0 0, .slice none 0 0, .slice none 0 0, .int .i64 0, .slice none 0 0, .slice none 0 0] 37)) (.cells #[.string ⟨#[69]⟩] 9)
    simpa using this)
  obtain ⟨n, hn⟩ : ∃ n : Nat, (n : Int) = 1 + m % 4 := ⟨(1 + m % 4).toNat, by omega⟩
  have hn4 : n ≤ 4 := by omega
  have hn1 : 1 ≤ n := by omega
  have hnum : ∀ X, Calls Tryz.prog 6 #[.agg #[.int .u8 m, .int .u8 l0, .int .u8 l1, .int .u8 l2, .int .u8 l3, .int .u8 s0, .int .u8 s1, .int .u8 s2]] X fun e w' => e = .returned (.int .i64 n) ∧ Old X w' := fun X => by
    rw [hn]; exact num6 m l0 l1 l2 l3 s0 s1 s2 hm X
  have hx0 : (((w.alloc (.cells #[.int .u8 m, .int .u8 l0, .int .u8 l1, .int .u8 l2, .int .u8 l3, .int .u8 s0, .int .u8 s1, .int .u8 s2] 25)).alloc (.cells #[.slice none 0 0, .slice none 0 0, .int .i64 0, .slice none 0 0, .slice none 0 0, .slice none 0 0, .int .i64 0, .slice none 0 0, .slice none 0 0] 37)).alloc (.cells #[.string ⟨#[69]⟩] 9)).heap[w.heap.size]? = some (.cells #[.int .u8 m, .int .u8 l0, .int .u8 l1, .int .u8 l2, .int .u8 l3, .int .u8 s0, .int .u8 s1, .int .u8 s2] 25 (0, 0)) :=
    ((((Old.refl _).alloc _).alloc _).heap w.heap.size (by simp)).trans (World.alloc_heap_new w _)
  have hz0 : (((w.alloc (.cells #[.int .u8 m, .int .u8 l0, .int .u8 l1, .int .u8 l2, .int .u8 l3, .int .u8 s0, .int .u8 s1, .int .u8 s2] 25)).alloc (.cells #[.slice none 0 0, .slice none 0 0, .int .i64 0, .slice none 0 0, .slice none 0 0, .slice none 0 0, .int .i64 0, .slice none 0 0, .slice none 0 0] 37)).alloc (.cells #[.string ⟨#[69]⟩] 9)).heap[w.heap.size + 1]? = some (.cells #[.slice none 0 0, .slice none 0 0, .int .i64 0, .slice none 0 0, .slice none 0 0, .slice none 0 0, .int .i64 0, .slice none 0 0, .slice none 0 0] 37 (0, 0)) := by
    have h1 := World.alloc_heap_new (w.alloc (.cells #[.int .u8 m, .int .u8 l0, .int .u8 l1, .int .u8 l2, .int .u8 l3, .int .u8 s0, .int .u8 s1, .int .u8 s2] 25)) (.cells #[.slice none 0 0, .slice none 0 0, .int .i64 0, .slice none 0 0, .slice none 0 0, .slice none 0 0, .int .i64 0, .slice none 0 0, .slice none 0 0] 37)
    rw [World.size_alloc] at h1
    exact (((Old.refl _).alloc _).heap (w.heap.size + 1) (by simp)).trans h1
  have hsz0 : w.heap.size + 2 < (((w.alloc (.cells #[.int .u8 m, .int .u8 l0, .int .u8 l1, .int .u8 l2, .int .u8 l3, .int .u8 s0, .int .u8 s1, .int .u8 s2] 25)).alloc (.cells #[.slice none 0 0, .slice none 0 0, .int .i64 0, .slice none 0 0, .slice none 0 0, .slice none 0 0, .int .i64 0, .slice none 0 0, .slice none 0 0] 37)).alloc (.cells #[.string ⟨#[69]⟩] 9)).heap.size := by simp
  replace hn : Aside _ := hn
  replace hx0 : Aside _ := hx0
  replace hz0 : Aside _ := hz0
  replace hsz0 : Aside _ := hsz0
  replace hnum : Aside _ := hnum
  replace hb14 : Aside _ := hb14
  replace hO1 : Aside _ := hO1
  go_enter Tryz.func5, Tryz.ntmps5
  go_wp2_with (first
    | (go_at_call 14; refine Calls.mono hb14.out ?_; rintro e w3 ⟨g, ρ, rfl, hg, hdom, hzero, hrows, hO3⟩; obtain ⟨a0, k0, a3, k3, a4, k4, rfl, v0, v3, v4⟩ := gBare_inv hg; replace hdom : Aside _ := hdom; replace hzero : Aside _ := hzero; replace hrows : Aside _ := hrows; replace hO3 : Aside _ := hO3; replace v0 : Aside _ := v0; replace v3 : Aside _ := v3; replace v4 : Aside _ := v4; replace hg : Aside _ := hg)
    | (go_at_call 15; refine Calls.mono (const15 _) ?_; rintro e w4 ⟨rfl, hO4⟩; replace hO4 : Aside _ := hO4))
  have hO4' := hO4.out
  have hO3' := hO3.out
  have hO34 : Old w3 w4 := ((Old.refl w3).alloc _).trans hO4'
  replace hO34 : Aside _ := hO34
  have hOw4 : Old _ w4 := (hO3'.alloc _).trans hO4'
  have hx4 := (hOw4.heap w.heap.size (by have := hsz0.out; omega)).trans hx0.out
  have hz4 := (hOw4.heap (w.heap.size + 1) (by have := hsz0.out; omega)).trans hz0.out
  have hOw : Old w w4 := hO1.out.trans hOw4
  have hB3ne : w.heap.size + 2 < w3.heap.size := Nat.lt_of_lt_of_le hsz0.out hO3'.size
  replace hx4 : Aside _ := hx4
  replace hz4 : Aside _ := hz4
  replace hOw : Aside _ := hOw
  clear hOw4 hx0 hz0 hO1 hb14
  have hW3 : w4.heap[w3.heap.size]? = some (.cells #[.slice (some a0) 2 k0, .slice none 0 0, .int .i64 1, .slice (some a3) 11 k3, .slice (some a4) 1 k4, .slice none 0 0, .int .i64 0, .slice none 0 0, .slice none 0 0] 37 (0, 0)) :=
    (hO4'.heap _ (by simp)).trans (World.alloc_heap_new _ _)
  have hb3 : w3.heap.size < w4.heap.size := by have := hO4'.size; simp at this; omega
  have hOW : Old w4 (w4.alloc (.cells #[.slice none 0 0, .int .i64 1] 31)) := (Old.refl w4).alloc _
  have hB3 : (w4.alloc (.cells #[.slice none 0 0, .int .i64 1] 31)).heap[w3.heap.size]? = some (gObj (.slice (some a0) 2 k0) (.slice (some a3) 11 k3) (.slice (some a4) 1 k4) (.slice none 0 0) (.slice none 0 0)) := (hOW.heap _ hb3).trans hW3
  have hB4 : (w4.alloc (.cells #[.slice none 0 0, .int .i64 1] 31)).heap[w4.heap.size]? = some (.cells #[.slice none 0 0, .int .i64 1] 31 (0, 0)) := World.alloc_heap_new _ _
  generalize hW : w4.alloc (.cells #[.slice none 0 0, .int .i64 1] 31) = W at *
  have kk : ∀ X, Old W X → X.cell? ⟨w3.heap.size, 5, none⟩ = some (.slice none 0 0) ∧ X.cell? ⟨w4.heap.size, 0, none⟩ = some (.slice none 0 0) ∧ X.cell? ⟨w4.heap.size, 1, none⟩ = some (.int .i64 1) ∧ X.frozen? ⟨w3.heap.size, 5, none⟩ = false := fun X hX => by
    have e1 := (hX.heap _ (Array.getElem?_eq_some_iff.1 hB3).1).trans hB3
    have e2 := (hX.heap _ (Array.getElem?_eq_some_iff.1 hB4).1).trans hB4
    exact ⟨cells_at e1 rfl, cells_at e2 rfl, cells_at e2 rfl, frozen_at e1 _⟩
  replace kk : Aside _ := kk
  replace hB3 : Aside _ := hB3
  replace hB4 : Aside _ := hB4
  replace hW3 : Aside _ := hW3
  replace hOW : Aside _ := hOW
  clear hW hO4' hO3' hO4
  have hrf : ∀ X, Old X X := Old.refl
  have htr : ∀ X Y Z, Old X Y → Old Y Z → Old X Z := fun _ _ _ => Old.trans
  replace hrf : Aside _ := hrf
  replace htr : Aside _ := htr
  refine wp_region_O Old 9 (by kernel_rfl) ?_
  have hOd : Old W W.drew := (Old.refl W).drew
  refine wpAnyO_take hrf.out htr.out (i := 0) (v := ?_) rfl (by kernel_rfl) (fun _ _ _ h => h) (Or.inl ⟨by rfl, ?_⟩) ?_
  rotate_left
  · (intro X hX; go_simp <;> with_reducible rfl)
  try simp only [Act.put, List.setIfInBounds_toArray, List.set_cons_zero, List.set_cons_succ, List.getElem_toArray, List.getElem_cons_zero, List.getElem_cons_succ]
  refine wpAnyO_take hrf.out htr.out (i := 1) (v := ?_) rfl (by kernel_rfl) (fun _ _ _ h => h) (Or.inl ⟨by rfl, ?_⟩) ?_
  rotate_left
  · (intro X hX; obtain ⟨f1, f2, f3, f4⟩ := kk.out X (hOd.trans hX); go_simp <;> with_reducible rfl)
  try simp only [Act.put, List.setIfInBounds_toArray, List.set_cons_zero, List.set_cons_succ, List.getElem_toArray, List.getElem_cons_zero, List.getElem_cons_succ]
  refine wpAnyO_take hrf.out htr.out (i := 4) (v := ?_) rfl (by kernel_rfl) (fun _ _ _ h => h) (Or.inl ⟨by rfl, ?_⟩) ?_
  rotate_left
  · (intro X hX; obtain ⟨f1, f2, f3, f4⟩ := kk.out X (hOd.trans hX); go_simp <;> with_reducible rfl)
  try simp only [Act.put, List.setIfInBounds_toArray, List.set_cons_zero, List.set_cons_succ, List.getElem_toArray, List.getElem_cons_zero, List.getElem_cons_succ]
  refine wpAnyO_one (i := 2) (by kernel_rfl) rfl ?_
  intro K hK
  go_simp
  (go_at_call 16; refine Calls.mono (tok16 _ _) ?_; rintro e w5 ⟨rfl, hO5⟩)
  refine hK _ _ (fun _ => hO5) ?_
  clear hK K
  try simp only [Act.put, List.setIfInBounds_toArray, List.set_cons_zero, List.set_cons_succ, List.getElem_toArray, List.getElem_cons_zero, List.getElem_cons_succ]
  have hO5W := hOd.trans hO5
  refine wpAnyO_one (i := 3) (by kernel_rfl) rfl ?_
  intro K hK
  go_simp
  refine hK _ _ (fun _ => (Old.refl _).alloc _) ?_
  clear hK K
  try simp only [Act.put, List.setIfInBounds_toArray, List.set_cons_zero, List.set_cons_succ, List.getElem_toArray, List.getElem_cons_zero, List.getElem_cons_succ]
  have hN5 : (w5.alloc (.cells #[.bool true, .int .i64 0] 66)).heap[w5.heap.size]? = some (.cells #[.bool true, .int .i64 0] 66 (0, 0)) := World.alloc_heap_new _ _
  have hO6W : Old W (w5.alloc (.cells #[.bool true, .int .i64 0] 66)) := hO5W.alloc _
  have hz6 : (w5.alloc (.cells #[.bool true, .int .i64 0] 66)).heap.size = w5.heap.size + 1 := by simp
  replace hz6 : Aside _ := hz6
  generalize hW6 : w5.alloc (.cells #[.bool true, .int .i64 0] 66) = W6 at *
  clear hW6
  refine wpAnyO_take hrf.out htr.out (i := 5) (v := ?_) rfl (by kernel_rfl) (fun _ _ _ h => h) (Or.inl ⟨by rfl, ?_⟩) ?_
  rotate_left
  · (intro X hX; go_simp <;> with_reducible rfl)
  try simp only [Act.put, List.setIfInBounds_toArray, List.set_cons_zero, List.set_cons_succ, List.getElem_toArray, List.getElem_cons_zero, List.getElem_cons_succ]
  refine wpAnyO_one (i := 6) (by kernel_rfl) rfl ?_
  intro K hK
  go_simp
  refine hK _ _ (fun _ => (Old.refl _).alloc _) ?_
  clear hK K
  try simp only [Act.put, List.setIfInBounds_toArray, List.set_cons_zero, List.set_cons_succ, List.getElem_toArray, List.getElem_cons_zero, List.getElem_cons_succ]
  have hN7 : (W6.alloc (.cells (prodV nameO w5.heap.size 1).toArray 73)).heap[W6.heap.size]? = some (.cells (prodV nameO w5.heap.size 1).toArray 73 (0, 0)) := World.alloc_heap_new _ _
  have hO67 : Old W6 (W6.alloc (.cells (prodV nameO w5.heap.size 1).toArray 73)) := (Old.refl _).alloc _
  change wpAnyO _ _ _ _ _ _ _ _ _ (W6.alloc (.cells (prodV nameO w5.heap.size 1).toArray 73))
  generalize hW7 : W6.alloc (.cells (prodV nameO w5.heap.size 1).toArray 73) = W7 at *
  clear hW7
  have hO7W := hO6W.trans hO67
  have hN5' := (hO67.heap _ (by have := hz6.out; omega)).trans hN5
  refine wpAnyO_one (i := 7) (by kernel_rfl) rfl ?_
  intro K hK
  refine stepP (.tmp 13) (.tmp 18) _ W.heap.size (.slice none 0 0) 0 [] (prodV nameO w5.heap.size 1) W6.heap.size rfl rfl (World.ownsRow_nil _ _ _ _) hO7W.size (by omega) (by rfl) (by rfl) rfl (prodV_one (by unfold nameO; rfl)) (fun i u hi => cells_at hN7 (by simpa using hi)) ?_
  intro v8 W8 hown8 hg8
  obtain ⟨a8, c8, rfl⟩ := own_form hown8
  have hO78 : Old W7 W8 := (Old.refl W7).grown hg8 (fun k hk => by cases hk)
  refine hK _ _ (fun _ => hO78) ?_
  clear hK K
  try simp only [Act.put, List.setIfInBounds_toArray, List.set_cons_zero, List.set_cons_succ, List.getElem_toArray, List.getElem_cons_zero, List.getElem_cons_succ]
  have hO8W := hO7W.trans hO78
  have hN5'' := (hO78.heap _ (Array.getElem?_eq_some_iff.1 hN5').1).trans hN5'
  refine wpAnyO_take hrf.out htr.out (i := 8) (v := ?_) rfl (by kernel_rfl) (fun _ _ _ h => h) (Or.inl ⟨by rfl, ?_⟩) ?_
  rotate_left
  · (intro X hX; go_simp <;> with_reducible rfl)
  try simp only [Act.put, List.setIfInBounds_toArray, List.set_cons_zero, List.set_cons_succ, List.getElem_toArray, List.getElem_cons_zero, List.getElem_cons_succ]
  refine wpAnyO_one (i := 9) (by kernel_rfl) rfl ?_
  intro K hK
  obtain ⟨f1, f2, f3, f4⟩ := kk.out W8 hO8W
  go_simp
  refine hK _ _ (fun h => absurd rfl h) ?_
  clear hK K
  try simp only [Act.put, List.setIfInBounds_toArray, List.set_cons_zero, List.set_cons_succ, List.getElem_toArray, List.getElem_cons_zero, List.getElem_cons_succ]
  refine wpAnyO_done (by kernel_rfl) ?_ _
  have hob8 := (hO8W.heap _ (Array.getElem?_eq_some_iff.1 hB3.out).1).trans hB3.out
  have hb3W : w3.heap.size < W.heap.size := (Array.getElem?_eq_some_iff.1 hB3.out).1
  have hPW : PW W (W8.setCell ⟨w3.heap.size, 5, none⟩ (.slice a8 1 c8)) w3.heap.size (.slice (some a0) 2 k0) (.slice (some a3) 11 k3) (.slice (some a4) 1 k4) (.slice a8 1 c8) 0 (fun _ => w5.heap.size) := by
    refine ⟨hO8W.but.trans (setCell_but _ _ _ _), ?_, own_but (by have h := hown8; simp only [List.nil_append] at h; exact h) (setCell_but _ _ _ _) hb3W, fun j hj => ?_⟩
    · rw [heap_setCell_same W8 w3.heap.size 5 _ 37 _ hob8]
      rfl
    · have e : j = 0 := by omega
      subst e
      refine (heap_setCell_other W8 _ w5.heap.size _ (fun e => ?_)).trans hN5''
      have e : w5.heap.size = w3.heap.size := e
      rw [e, hob8] at hN5''
      simp [gObj] at hN5''
  have hxW := (hOW.out.heap w.heap.size (Array.getElem?_eq_some_iff.1 hx4.out).1).trans hx4.out
  have hzW := (hOW.out.heap (w.heap.size + 1) (Array.getElem?_eq_some_iff.1 hz4.out).1).trans hz4.out
  have hwW := hOw.out.trans hOW.out
  have hbx : ∀ X, OldBut w3.heap.size W X → X.heap[w.heap.size]? = some (.cells #[.int .u8 m, .int .u8 l0, .int .u8 l1, .int .u8 l2, .int .u8 l3, .int .u8 s0, .int .u8 s1, .int .u8 s2] 25 (0, 0)) ∧
      X.heap[w.heap.size + 1]? = some (.cells #[.slice none 0 0, .slice none 0 0, .int .i64 0, .slice none 0 0, .slice none 0 0, .slice none 0 0, .int .i64 0, .slice none 0 0, .slice none 0 0] 37 (0, 0)) ∧ X.heap[w4.heap.size]? = some (.cells #[.slice none 0 0, .int .i64 1] 31 (0, 0)) := fun X hX =>
    ⟨(hX.heap _ (Array.getElem?_eq_some_iff.1 hxW).1 (by omega)).trans hxW, (hX.heap _ (Array.getElem?_eq_some_iff.1 hzW).1 (by omega)).trans hzW, (hX.heap _ (Array.getElem?_eq_some_iff.1 hB4.out).1 (by omega)).trans hB4.out⟩
  replace hbx : Aside _ := hbx
  replace hPW : Aside _ := hPW
  replace hwW : Aside _ := hwW
  generalize W8.setCell ⟨w3.heap.size, 5, none⟩ (.slice a8 1 c8) = W9 at *
  clear hob8 hO8W hO7W hO6W hO5W hN5 hN5' hN5'' hN7 hO67 hO78 hO5 hg8 hown8 f1 f2 f3 f4 hxW hzW hOd kk hz6
  go_wp2
  go_loopg [5] n (fun gg s wr => ∃ (i : Nat) (v5 : Value) (rb : Nat → Nat), s = .int .i64 i ∧ n - i ≤ gg ∧ i ≤ n ∧ Aside (PW W wr w3.heap.size (.slice (some a0) 2 k0) (.slice (some a3) 11 k3) (.slice (some a4) 1 k4) v5 i rb))
  case atStart => exact ⟨0, _, _, rfl, by omega, by omega, hPW⟩
  case round =>
    obtain ⟨i, v5, rb, rfl, hgi, hil, hP⟩ := hrel
    obtain ⟨xb, zb, fb⟩ := hbx.out wr hP.out.but
    have xc0 := cells_at xb (i := 0) rfl
    have xc1 := cells_at xb (i := 1) rfl
    have xc2 := cells_at xb (i := 2) rfl
    have xc3 := cells_at xb (i := 3) rfl
    have xc4 := cells_at xb (i := 4) rfl
    have xc5 := cells_at xb (i := 5) rfl
    have xc6 := cells_at xb (i := 6) rfl
    have xc7 := cells_at xb (i := 7) rfl
    clear xb zb fb
    by_cases hlt : i < n
    · have hlt' : (i : Int) < n := by omega
      have hi0 : (0 : Int) ≤ i := by omega
      have hi4 : (i : Int) < 4 := by omega
      have hi4n : i < 4 := by omega
      obtain ⟨nm, hnm⟩ := name_str hi4n
      obtain ⟨g, cap, hv5, hgb, hgs⟩ := own_some hP.out.own (by omega)
      subst hv5
      replace hi4n : Aside _ := hi4n
      replace hnm : Aside _ := hnm
      go_wp2_with (go_at_call 6; refine Calls.mono (hnum.out _) ?_; rintro e w6 ⟨rfl, hO6⟩)
      have hP6 := hP.out.old hO6
      have hgs6 : g < w6.heap.size := Nat.lt_of_lt_of_le hgs hO6.size
      have hb34 : w4.heap.size < W.heap.size := (Array.getElem?_eq_some_iff.1 hB4.out).1
      have kk7 : ∀ X, OldBut g w6 X → X.cell? ⟨w3.heap.size, 5, none⟩ = some (.slice (some ⟨g, 0, none⟩) (i + 1) cap) ∧ X.cell? ⟨w4.heap.size, 0, none⟩ = some (.slice none 0 0) ∧ X.cell? ⟨w4.heap.size, 1, none⟩ = some (.int .i64 1) ∧ X.frozen? ⟨w3.heap.size, 5, none⟩ = false := fun X hX => by
        have e1 := (hX.heap _ (Array.getElem?_eq_some_iff.1 hP6.obj).1 (by omega)).trans hP6.obj
        have e0 := (hbx.out w6 hP6.but).2.2
        have e2 := (hX.heap _ (Array.getElem?_eq_some_iff.1 e0).1 (by omega)).trans e0
        exact ⟨cells_at e1 rfl, cells_at e2 rfl, cells_at e2 rfl, frozen_at e1 _⟩
      replace kk7 : Aside _ := kk7
      replace hP6 : Aside _ := hP6
      clear xc0 xc1 xc2 xc3 xc4 xc5 xc6 xc7 hO6 hP
      have hrf : ∀ X, OldBut g X X := OldBut.refl g
      have htr : ∀ X Y Z, OldBut g X Y → OldBut g Y Z → OldBut g X Z := fun _ _ _ => OldBut.trans
      replace hrf : Aside _ := hrf
      replace htr : Aside _ := htr
      refine wp_region_O (OldBut g) 19 (by kernel_rfl) ?_
      have hQ0 : Old w6 w6.drew := (Old.refl _).drew
      replace hQ0 : Aside _ := hQ0
      generalize w6.drew = X0 at *
      refine wpAnyO_take hrf.out htr.out (i := 0) (v := ?_) rfl (by kernel_rfl) (fun _ _ _ h => h) (Or.inl ⟨by rfl, ?_⟩) ?_
      rotate_left
      · (intro X hX; go_simp <;> with_reducible rfl)
      try simp only [Act.put, List.setIfInBounds_toArray, List.set_cons_zero, List.set_cons_succ, List.getElem_toArray, List.getElem_cons_zero, List.getElem_cons_succ]
      refine wpAnyO_take hrf.out htr.out (i := 1) (v := ?_) rfl (by kernel_rfl) (fun _ _ _ h => h) (Or.inl ⟨by rfl, ?_⟩) ?_
      rotate_left
      · (intro X hX; obtain ⟨f1, f2, f3, f4⟩ := kk7.out X (hQ0.out.but.trans hX); go_simp <;> with_reducible rfl)
      try simp only [Act.put, List.setIfInBounds_toArray, List.set_cons_zero, List.set_cons_succ, List.getElem_toArray, List.getElem_cons_zero, List.getElem_cons_succ]
      refine wpAnyO_take hrf.out htr.out (i := 3) (v := ?_) rfl (by kernel_rfl) (fun _ _ _ h => h) (Or.inl ⟨by rfl, ?_⟩) ?_
      rotate_left
      · (intro X hX; go_simp <;> with_reducible rfl)
      try simp only [Act.put, List.setIfInBounds_toArray, List.set_cons_zero, List.set_cons_succ, List.getElem_toArray, List.getElem_cons_zero, List.getElem_cons_succ]
      refine wpAnyO_take hrf.out htr.out (i := 8) (v := ?_) rfl (by kernel_rfl) (fun _ _ _ h => h) (Or.inl ⟨by rfl, ?_⟩) ?_
      rotate_left
      · (intro X hX; go_simp <;> with_reducible rfl)
      try simp only [Act.put, List.setIfInBounds_toArray, List.set_cons_zero, List.set_cons_succ, List.getElem_toArray, List.getElem_cons_zero, List.getElem_cons_succ]
      refine wpAnyO_take hrf.out htr.out (i := 14) (v := ?_) rfl (by kernel_rfl) (fun _ _ _ h => h) (Or.inl ⟨by rfl, ?_⟩) ?_
      rotate_left
      · (intro X hX; obtain ⟨f1, f2, f3, f4⟩ := kk7.out X (hQ0.out.but.trans hX); go_simp <;> with_reducible rfl)
      try simp only [Act.put, List.setIfInBounds_toArray, List.set_cons_zero, List.set_cons_succ, List.getElem_toArray, List.getElem_cons_zero, List.getElem_cons_succ]
      refine wpAnyO_two (i := 2) (j := 6) (by kernel_rfl) rfl rfl ?_ ?_
      · intro K hK
        go_simp
        refine hK _ _ (fun _ => ((Old.refl _).alloc _).but) ?_
        clear hK K
        try simp only [Act.put, List.setIfInBounds_toArray, List.set_cons_zero, List.set_cons_succ, List.getElem_toArray, List.getElem_cons_zero, List.getElem_cons_succ]
        have hN1 : (X0.alloc (.cells #[.string ⟨#[97, 100, 100]⟩, .string ⟨#[109, 117, 108]⟩, .string ⟨#[112, 111, 119]⟩, .string ⟨#[115, 101, 113]⟩] 9)).heap[X0.heap.size]? = some (.cells #[.string ⟨#[97, 100, 100]⟩, .string ⟨#[109, 117, 108]⟩, .string ⟨#[112, 111, 119]⟩, .string ⟨#[115, 101, 113]⟩] 9 (0, 0)) := World.alloc_heap_new _ _
        have hQ1 : Old w6 (X0.alloc (.cells #[.string ⟨#[97, 100, 100]⟩, .string ⟨#[109, 117, 108]⟩, .string ⟨#[112, 111, 119]⟩, .string ⟨#[115, 101, 113]⟩] 9)) := hQ0.out.alloc _
        have hS1 : Old X0 (X0.alloc (.cells #[.string ⟨#[97, 100, 100]⟩, .string ⟨#[109, 117, 108]⟩, .string ⟨#[112, 111, 119]⟩, .string ⟨#[115, 101, 113]⟩] 9)) := (Old.refl _).alloc _
        replace hS1 : Aside _ := hS1
        replace hN1 : Aside _ := hN1
        replace hQ1 : Aside _ := hQ1
        have hne1 : X0.heap.size ≠ g := by have := hQ0.out.size; omega
        replace hne1 : Aside _ := hne1
        generalize X0.alloc (.cells #[.string ⟨#[97, 100, 100]⟩, .string ⟨#[109, 117, 108]⟩, .string ⟨#[112, 111, 119]⟩, .string ⟨#[115, 101, 113]⟩] 9) = X1 at *
        refine wpAnyO_take hrf.out htr.out (i := 4) (v := ?_) rfl (by kernel_rfl) (fun _ _ _ h => h) (Or.inl ⟨by rfl, ?_⟩) ?_
        rotate_left
        · (intro X hX; go_simp <;> with_reducible rfl)
        try simp only [Act.put, List.setIfInBounds_toArray, List.set_cons_zero, List.set_cons_succ, List.getElem_toArray, List.getElem_cons_zero, List.getElem_cons_succ]
        refine wpAnyO_take hrf.out htr.out (i := 5) (v := ?_) rfl (by kernel_rfl) (fun _ _ _ h => h) (Or.inl ⟨by rfl, ?_⟩) ?_
        rotate_left
        · (intro X hX; have f := cells_at ((hX.heap _ (Array.getElem?_eq_some_iff.1 hN1.out).1 hne1.out).trans hN1.out) ((names_at hi4n).trans (congrArg some hnm)); go_simp <;> with_reducible rfl)
        try simp only [Act.put, List.setIfInBounds_toArray, List.set_cons_zero, List.set_cons_succ, List.getElem_toArray, List.getElem_cons_zero, List.getElem_cons_succ]
        refine wpAnyO_one (i := 6) (by kernel_rfl) rfl ?_
        intro K hK
        go_simp
        (go_at_call 17; refine Calls.mono (non17 _ _) ?_; rintro e X2 ⟨rfl, hY2⟩)
        have hQ2 := hQ1.out.trans hY2
        refine hK _ _ (fun _ => hY2.but) ?_
        clear hK K
        try simp only [Act.put, List.setIfInBounds_toArray, List.set_cons_zero, List.set_cons_succ, List.getElem_toArray, List.getElem_cons_zero, List.getElem_cons_succ]
        replace hQ2 : Aside _ := hQ2
        replace hY2 : Aside _ := hY2
        refine wpAnyO_one (i := 7) (by kernel_rfl) rfl ?_
        intro K hK
        go_simp
        (go_at_call 18; refine Calls.mono (toks18 _) ?_; rintro e Y ⟨rfl, rfl⟩)
        refine hK _ _ (fun _ => ((Old.refl _).alloc _).but) ?_
        clear hK K
        try simp only [Act.put, List.setIfInBounds_toArray, List.set_cons_zero, List.set_cons_succ, List.getElem_toArray, List.getElem_cons_zero, List.getElem_cons_succ]
        have hN3 : (X2.alloc (.cells #[.int .i64 1, .int .i64 2, .int .i64 8, .int .i64 7] 3)).heap[X2.heap.size]? = some (.cells #[.int .i64 1, .int .i64 2, .int .i64 8, .int .i64 7] 3 (0, 0)) := World.alloc_heap_new _ _
        have hQ3 : Old w6 (X2.alloc (.cells #[.int .i64 1, .int .i64 2, .int .i64 8, .int .i64 7] 3)) := hQ2.out.alloc _
        have hS3 : Old X2 (X2.alloc (.cells #[.int .i64 1, .int .i64 2, .int .i64 8, .int .i64 7] 3)) := (Old.refl _).alloc _
        replace hS3 : Aside _ := hS3
        replace hN3 : Aside _ := hN3
        replace hQ3 : Aside _ := hQ3
        have hne3 : X2.heap.size ≠ g := by have := hQ2.out.size; omega
        replace hne3 : Aside _ := hne3
        generalize X2.alloc (.cells #[.int .i64 1, .int .i64 2, .int .i64 8, .int .i64 7] 3) = X3 at *
        refine wpAnyO_take hrf.out htr.out (i := 9) (v := ?_) rfl (by kernel_rfl) (fun _ _ _ h => h) (Or.inl ⟨by rfl, ?_⟩) ?_
        rotate_left
        · (intro X hX; go_simp <;> with_reducible rfl)
        try simp only [Act.put, List.setIfInBounds_toArray, List.set_cons_zero, List.set_cons_succ, List.getElem_toArray, List.getElem_cons_zero, List.getElem_cons_succ]
        refine wpAnyO_take hrf.out htr.out (i := 10) (v := ?_) rfl (by kernel_rfl) (fun _ _ _ h => h) (Or.inl ⟨by rfl, ?_⟩) ?_
        rotate_left
        · (intro X hX; have f := cells_at ((hX.heap _ (Array.getElem?_eq_some_iff.1 hN3.out).1 hne3.out).trans hN3.out) (toks_at hi4n); go_simp <;> with_reducible rfl)
        try simp only [Act.put, List.setIfInBounds_toArray, List.set_cons_zero, List.set_cons_succ, List.getElem_toArray, List.getElem_cons_zero, List.getElem_cons_succ]
        refine wpAnyO_one (i := 11) (by kernel_rfl) rfl ?_
        intro K hK
        go_simp
        (go_at_call 16; refine Calls.mono (tok16 _ _) ?_; rintro e X4 ⟨rfl, hY4⟩)
        have hQ4 := hQ3.out.trans hY4
        refine hK _ _ (fun _ => hY4.but) ?_
        clear hK K
        try simp only [Act.put, List.setIfInBounds_toArray, List.set_cons_zero, List.set_cons_succ, List.getElem_toArray, List.getElem_cons_zero, List.getElem_cons_succ]
        replace hQ4 : Aside _ := hQ4
        replace hY4 : Aside _ := hY4
        refine wpAnyO_one (i := 12) (by kernel_rfl) rfl ?_
        intro K hK
        go_simp
        (go_at_call 17; refine Calls.mono (non17 _ _) ?_; rintro e X5 ⟨rfl, hY5⟩)
        have hQ5 := hQ4.out.trans hY5
        refine hK _ _ (fun _ => hY5.but) ?_
        clear hK K
        try simp only [Act.put, List.setIfInBounds_toArray, List.set_cons_zero, List.set_cons_succ, List.getElem_toArray, List.getElem_cons_zero, List.getElem_cons_succ]
        replace hQ5 : Aside _ := hQ5
        replace hY5 : Aside _ := hY5
        refine wpAnyO_one (i := 13) (by kernel_rfl) rfl ?_
        intro K hK
        go_simp
        refine hK _ _ (fun _ => ((Old.refl _).alloc _).but) ?_
        clear hK K
        try simp only [Act.put, List.setIfInBounds_toArray, List.set_cons_zero, List.set_cons_succ, List.getElem_toArray, List.getElem_cons_zero, List.getElem_cons_succ]
        have hN6 : (X5.alloc (.cells #[.bool false, .int .i64 0, .bool true, .int .i64 (tokC i), .bool false, .int .i64 0] 66)).heap[X5.heap.size]? = some (.cells #[.bool false, .int .i64 0, .bool true, .int .i64 (tokC i), .bool false, .int .i64 0] 66 (0, 0)) := World.alloc_heap_new _ _
        have hQ6 : Old w6 (X5.alloc (.cells #[.bool false, .int .i64 0, .bool true, .int .i64 (tokC i), .bool false, .int .i64 0] 66)) := hQ5.out.alloc _
        have hS6 : Old X5 (X5.alloc (.cells #[.bool false, .int .i64 0, .bool true, .int .i64 (tokC i), .bool false, .int .i64 0] 66)) := (Old.refl _).alloc _
        replace hS6 : Aside _ := hS6
        replace hN6 : Aside _ := hN6
        replace hQ6 : Aside _ := hQ6
        have hne6 : X5.heap.size ≠ g := by have := hQ5.out.size; omega
        replace hne6 : Aside _ := hne6
        generalize X5.alloc (.cells #[.bool false, .int .i64 0, .bool true, .int .i64 (tokC i), .bool false, .int .i64 0] 66) = X6 at *
        refine wpAnyO_take hrf.out htr.out (i := 15) (v := ?_) rfl (by kernel_rfl) (fun _ _ _ h => h) (Or.inl ⟨by rfl, ?_⟩) ?_
        rotate_left
        · (intro X hX; go_simp <;> with_reducible rfl)
        try simp only [Act.put, List.setIfInBounds_toArray, List.set_cons_zero, List.set_cons_succ, List.getElem_toArray, List.getElem_cons_zero, List.getElem_cons_succ]
        refine wpAnyO_one (i := 16) (by kernel_rfl) rfl ?_
        intro K hK
        go_simp
        refine hK _ _ (fun _ => ((Old.refl _).alloc _).but) ?_
        clear hK K
        try simp only [Act.put, List.setIfInBounds_toArray, List.set_cons_zero, List.set_cons_succ, List.getElem_toArray, List.getElem_cons_zero, List.getElem_cons_succ]
        change wpAnyO _ _ _ _ _ _ _ _ _ (X6.alloc (.cells (prodV (.string nm) X5.heap.size 3).toArray 73))
        have hN7 : (X6.alloc (.cells (prodV (.string nm) X5.heap.size 3).toArray 73)).heap[X6.heap.size]? = some (.cells (prodV (.string nm) X5.heap.size 3).toArray 73 (0, 0)) := World.alloc_heap_new _ _
        have hQ7 : Old w6 (X6.alloc (.cells (prodV (.string nm) X5.heap.size 3).toArray 73)) := hQ6.out.alloc _
        have hS7 : Old X6 (X6.alloc (.cells (prodV (.string nm) X5.heap.size 3).toArray 73)) := (Old.refl _).alloc _
        replace hS7 : Aside _ := hS7
        replace hN7 : Aside _ := hN7
        replace hQ7 : Aside _ := hQ7
        have hne7 : X6.heap.size ≠ g := by have := hQ6.out.size; omega
        replace hne7 : Aside _ := hne7
        generalize X6.alloc (.cells (prodV (.string nm) X5.heap.size 3).toArray 73) = X7 at *
        have hR : X7.heap[X5.heap.size]? = some (.cells (rightV (i + 1)).toArray 66 (0, 0)) := (hS7.out.heap _ (Array.getElem?_eq_some_iff.1 hN6.out).1).trans hN6.out
        refine wpAnyO_one (i := 17) (by kernel_rfl) rfl ?_
        intro K hK
        refine stepP (.tmp 28) (.tmp 43) _ W.heap.size (.slice (some ⟨g, 0, none⟩) (i + 1) cap) (i + 1) (prodsV rb i) (prodV (.string nm) X5.heap.size 3) X6.heap.size rfl rfl (own_old hP6.out.own hQ7.out) (Nat.le_trans hP6.out.but.size hQ7.out.size) (by omega) (by rfl) (by rfl) rfl (prodV_one rfl) (fun i u hi => cells_at hN7.out (by simpa using hi)) ?_
        intro v' w' hown' hg'
        obtain ⟨a', c', rfl⟩ := own_form hown'
        refine hK _ _ (fun _ => (OldBut.refl g _).grown hg' (fun k hk => by cases hk; exact .inr rfl)) ?_
        clear hK K
        try simp only [Act.put, List.setIfInBounds_toArray, List.set_cons_zero, List.set_cons_succ, List.getElem_toArray, List.getElem_cons_zero, List.getElem_cons_succ]
        have hPn := hP6.out.step hb3W hQ7.out hR (by rw [hnm]; exact hown') hg'
        obtain ⟨f1, f2, f3, f4⟩ := kk7.out w' ((hQ7.out.but).trans ((OldBut.refl g _).grown hg' (fun k hk => by cases hk; exact .inr rfl)))
        replace hPn : Aside _ := hPn
        clear hR hown' hg'
        refine wpAnyO_take hrf.out htr.out (i := 18) (v := ?_) rfl (by kernel_rfl) (fun _ _ _ h => h) (Or.inl ⟨by rfl, ?_⟩) ?_
        rotate_left
        · (intro X hX; go_simp <;> with_reducible rfl)
        try simp only [Act.put, List.setIfInBounds_toArray, List.set_cons_zero, List.set_cons_succ, List.getElem_toArray, List.getElem_cons_zero, List.getElem_cons_succ]
        refine wpAnyO_one (i := 19) (by kernel_rfl) rfl ?_
        intro K hK
        go_simp
        refine hK _ _ (fun h => absurd rfl h) ?_
        clear hK K
        try simp only [Act.put, List.setIfInBounds_toArray, List.set_cons_zero, List.set_cons_succ, List.getElem_toArray, List.getElem_cons_zero, List.getElem_cons_succ]
        refine wpAnyO_done (by kernel_rfl) ?_ _
        generalize w'.setCell ⟨w3.heap.size, 5, none⟩ (.slice a' (i + 1 + 1) c') = wn at *
        go_wp2
        go_roundg (n - (i + 1))
        case measure => omega
        case rel => exact ⟨i + 1, _, _, by go_num, by omega, by omega, hPn⟩
      · intro K hK
        go_simp
        (go_at_call 17; refine Calls.mono (non17 _ _) ?_; rintro e X8 ⟨rfl, hY8⟩)
        have hQ8 := hQ0.out.trans hY8
        refine hK _ _ (fun _ => hY8.but) ?_
        clear hK K
        try simp only [Act.put, List.setIfInBounds_toArray, List.set_cons_zero, List.set_cons_succ, List.getElem_toArray, List.getElem_cons_zero, List.getElem_cons_succ]
        replace hQ8 : Aside _ := hQ8
        replace hY8 : Aside _ := hY8
        refine wpAnyO_two (i := 2) (j := 7) (by kernel_rfl) rfl rfl ?_ ?_
        · intro K hK
          go_simp
          refine hK _ _ (fun _ => ((Old.refl _).alloc _).but) ?_
          clear hK K
          try simp only [Act.put, List.setIfInBounds_toArray, List.set_cons_zero, List.set_cons_succ, List.getElem_toArray, List.getElem_cons_zero, List.getElem_cons_succ]
          have hN9 : (X8.alloc (.cells #[.string ⟨#[97, 100, 100]⟩, .string ⟨#[109, 117, 108]⟩, .string ⟨#[112, 111, 119]⟩, .string ⟨#[115, 101, 113]⟩] 9)).heap[X8.heap.size]? = some (.cells #[.string ⟨#[97, 100, 100]⟩, .string ⟨#[109, 117, 108]⟩, .string ⟨#[112, 111, 119]⟩, .string ⟨#[115, 101, 113]⟩] 9 (0, 0)) := World.alloc_heap_new _ _
          have hQ9 : Old w6 (X8.alloc (.cells #[.string ⟨#[97, 100, 100]⟩, .string ⟨#[109, 117, 108]⟩, .string ⟨#[112, 111, 119]⟩, .string ⟨#[115, 101, 113]⟩] 9)) := hQ8.out.alloc _
          have hS9 : Old X8 (X8.alloc (.cells #[.string ⟨#[97, 100, 100]⟩, .string ⟨#[109, 117, 108]⟩, .string ⟨#[112, 111, 119]⟩, .string ⟨#[115, 101, 113]⟩] 9)) := (Old.refl _).alloc _
          replace hS9 : Aside _ := hS9
          replace hN9 : Aside _ := hN9
          replace hQ9 : Aside _ := hQ9
          have hne9 : X8.heap.size ≠ g := by have := hQ8.out.size; omega
          replace hne9 : Aside _ := hne9
          generalize X8.alloc (.cells #[.string ⟨#[97, 100, 100]⟩, .string ⟨#[109, 117, 108]⟩, .string ⟨#[112, 111, 119]⟩, .string ⟨#[115, 101, 113]⟩] 9) = X9 at *
          refine wpAnyO_take hrf.out htr.out (i := 4) (v := ?_) rfl (by kernel_rfl) (fun _ _ _ h => h) (Or.inl ⟨by rfl, ?_⟩) ?_
          rotate_left
          · (intro X hX; go_simp <;> with_reducible rfl)
          try simp only [Act.put, List.setIfInBounds_toArray, List.set_cons_zero, List.set_cons_succ, List.getElem_toArray, List.getElem_cons_zero, List.getElem_cons_succ]
          refine wpAnyO_take hrf.out htr.out (i := 5) (v := ?_) rfl (by kernel_rfl) (fun _ _ _ h => h) (Or.inl ⟨by rfl, ?_⟩) ?_
          rotate_left
          · (intro X hX; have f := cells_at ((hX.heap _ (Array.getElem?_eq_some_iff.1 hN9.out).1 hne9.out).trans hN9.out) ((names_at hi4n).trans (congrArg some hnm)); go_simp <;> with_reducible rfl)
          try simp only [Act.put, List.setIfInBounds_toArray, List.set_cons_zero, List.set_cons_succ, List.getElem_toArray, List.getElem_cons_zero, List.getElem_cons_succ]
          refine wpAnyO_one (i := 7) (by kernel_rfl) rfl ?_
          intro K hK
          go_simp
          (go_at_call 18; refine Calls.mono (toks18 _) ?_; rintro e Y ⟨rfl, rfl⟩)
          refine hK _ _ (fun _ => ((Old.refl _).alloc _).but) ?_
          clear hK K
          try simp only [Act.put, List.setIfInBounds_toArray, List.set_cons_zero, List.set_cons_succ, List.getElem_toArray, List.getElem_cons_zero, List.getElem_cons_succ]
          have hN10 : (X9.alloc (.cells #[.int .i64 1, .int .i64 2, .int .i64 8, .int .i64 7] 3)).heap[X9.heap.size]? = some (.cells #[.int .i64 1, .int .i64 2, .int .i64 8, .int .i64 7] 3 (0, 0)) := World.alloc_heap_new _ _
          have hQ10 : Old w6 (X9.alloc (.cells #[.int .i64 1, .int .i64 2, .int .i64 8, .int .i64 7] 3)) := hQ9.out.alloc _
          have hS10 : Old X9 (X9.alloc (.cells #[.int .i64 1, .int .i64 2, .int .i64 8, .int .i64 7] 3)) := (Old.refl _).alloc _
          replace hS10 : Aside _ := hS10
          replace hN10 : Aside _ := hN10
          replace hQ10 : Aside _ := hQ10
          have hne10 : X9.heap.size ≠ g := by have := hQ9.out.size; omega
          replace hne10 : Aside _ := hne10
          generalize X9.alloc (.cells #[.int .i64 1, .int .i64 2, .int .i64 8, .int .i64 7] 3) = X10 at *
          refine wpAnyO_take hrf.out htr.out (i := 9) (v := ?_) rfl (by kernel_rfl) (fun _ _ _ h => h) (Or.inl ⟨by rfl, ?_⟩) ?_
          rotate_left
          · (intro X hX; go_simp <;> with_reducible rfl)
          try simp only [Act.put, List.setIfInBounds_toArray, List.set_cons_zero, List.set_cons_succ, List.getElem_toArray, List.getElem_cons_zero, List.getElem_cons_succ]
          refine wpAnyO_take hrf.out htr.out (i := 10) (v := ?_) rfl (by kernel_rfl) (fun _ _ _ h => h) (Or.inl ⟨by rfl, ?_⟩) ?_
          rotate_left
          · (intro X hX; have f := cells_at ((hX.heap _ (Array.getElem?_eq_some_iff.1 hN10.out).1 hne10.out).trans hN10.out) (toks_at hi4n); go_simp <;> with_reducible rfl)
          try simp only [Act.put, List.setIfInBounds_toArray, List.set_cons_zero, List.set_cons_succ, List.getElem_toArray, List.getElem_cons_zero, List.getElem_cons_succ]
          refine wpAnyO_one (i := 11) (by kernel_rfl) rfl ?_
          intro K hK
          go_simp
          (go_at_call 16; refine Calls.mono (tok16 _ _) ?_; rintro e X11 ⟨rfl, hY11⟩)
          have hQ11 := hQ10.out.trans hY11
          refine hK _ _ (fun _ => hY11.but) ?_
          clear hK K
          try simp only [Act.put, List.setIfInBounds_toArray, List.set_cons_zero, List.set_cons_succ, List.getElem_toArray, List.getElem_cons_zero, List.getElem_cons_succ]
          replace hQ11 : Aside _ := hQ11
          replace hY11 : Aside _ := hY11
          refine wpAnyO_one (i := 12) (by kernel_rfl) rfl ?_
          intro K hK
          go_simp
          (go_at_call 17; refine Calls.mono (non17 _ _) ?_; rintro e X12 ⟨rfl, hY12⟩)
          have hQ12 := hQ11.out.trans hY12
          refine hK _ _ (fun _ => hY12.but) ?_
          clear hK K
          try simp only [Act.put, List.setIfInBounds_toArray, List.set_cons_zero, List.set_cons_succ, List.getElem_toArray, List.getElem_cons_zero, List.getElem_cons_succ]
          replace hQ12 : Aside _ := hQ12
          replace hY12 : Aside _ := hY12
          refine wpAnyO_one (i := 13) (by kernel_rfl) rfl ?_
          intro K hK
          go_simp
          refine hK _ _ (fun _ => ((Old.refl _).alloc _).but) ?_
          clear hK K
          try simp only [Act.put, List.setIfInBounds_toArray, List.set_cons_zero, List.set_cons_succ, List.getElem_toArray, List.getElem_cons_zero, List.getElem_cons_succ]
          have hN13 : (X12.alloc (.cells #[.bool false, .int .i64 0, .bool true, .int .i64 (tokC i), .bool false, .int .i64 0] 66)).heap[X12.heap.size]? = some (.cells #[.bool false, .int .i64 0, .bool true, .int .i64 (tokC i), .bool false, .int .i64 0] 66 (0, 0)) := World.alloc_heap_new _ _
          have hQ13 : Old w6 (X12.alloc (.cells #[.bool false, .int .i64 0, .bool true, .int .i64 (tokC i), .bool false, .int .i64 0] 66)) := hQ12.out.alloc _
          have hS13 : Old X12 (X12.alloc (.cells #[.bool false, .int .i64 0, .bool true, .int .i64 (tokC i), .bool false, .int .i64 0] 66)) := (Old.refl _).alloc _
          replace hS13 : Aside _ := hS13
          replace hN13 : Aside _ := hN13
          replace hQ13 : Aside _ := hQ13
          have hne13 : X12.heap.size ≠ g := by have := hQ12.out.size; omega
          replace hne13 : Aside _ := hne13
          generalize X12.alloc (.cells #[.bool false, .int .i64 0, .bool true, .int .i64 (tokC i), .bool false, .int .i64 0] 66) = X13 at *
          refine wpAnyO_take hrf.out htr.out (i := 15) (v := ?_) rfl (by kernel_rfl) (fun _ _ _ h => h) (Or.inl ⟨by rfl, ?_⟩) ?_
          rotate_left
          · (intro X hX; go_simp <;> with_reducible rfl)
          try simp only [Act.put, List.setIfInBounds_toArray, List.set_cons_zero, List.set_cons_succ, List.getElem_toArray, List.getElem_cons_zero, List.getElem_cons_succ]
          refine wpAnyO_one (i := 16) (by kernel_rfl) rfl ?_
          intro K hK
          go_simp
          refine hK _ _ (fun _ => ((Old.refl _).alloc _).but) ?_
          clear hK K
          try simp only [Act.put, List.setIfInBounds_toArray, List.set_cons_zero, List.set_cons_succ, List.getElem_toArray, List.getElem_cons_zero, List.getElem_cons_succ]
          change wpAnyO _ _ _ _ _ _ _ _ _ (X13.alloc (.cells (prodV (.string nm) X12.heap.size 3).toArray 73))
          have hN14 : (X13.alloc (.cells (prodV (.string nm) X12.heap.size 3).toArray 73)).heap[X13.heap.size]? = some (.cells (prodV (.string nm) X12.heap.size 3).toArray 73 (0, 0)) := World.alloc_heap_new _ _
          have hQ14 : Old w6 (X13.alloc (.cells (prodV (.string nm) X12.heap.size 3).toArray 73)) := hQ13.out.alloc _
          have hS14 : Old X13 (X13.alloc (.cells (prodV (.string nm) X12.heap.size 3).toArray 73)) := (Old.refl _).alloc _
          replace hS14 : Aside _ := hS14
          replace hN14 : Aside _ := hN14
          replace hQ14 : Aside _ := hQ14
          have hne14 : X13.heap.size ≠ g := by have := hQ13.out.size; omega
          replace hne14 : Aside _ := hne14
          generalize X13.alloc (.cells (prodV (.string nm) X12.heap.size 3).toArray 73) = X14 at *
          have hR : X14.heap[X12.heap.size]? = some (.cells (rightV (i + 1)).toArray 66 (0, 0)) := (hS14.out.heap _ (Array.getElem?_eq_some_iff.1 hN13.out).1).trans hN13.out
          refine wpAnyO_one (i := 17) (by kernel_rfl) rfl ?_
          intro K hK
          refine stepP (.tmp 28) (.tmp 43) _ W.heap.size (.slice (some ⟨g, 0, none⟩) (i + 1) cap) (i + 1) (prodsV rb i) (prodV (.string nm) X12.heap.size 3) X13.heap.size rfl rfl (own_old hP6.out.own hQ14.out) (Nat.le_trans hP6.out.but.size hQ14.out.size) (by omega) (by rfl) (by rfl) rfl (prodV_one rfl) (fun i u hi => cells_at hN14.out (by simpa using hi)) ?_
          intro v' w' hown' hg'
          obtain ⟨a', c', rfl⟩ := own_form hown'
          refine hK _ _ (fun _ => (OldBut.refl g _).grown hg' (fun k hk => by cases hk; exact .inr rfl)) ?_
          clear hK K
          try simp only [Act.put, List.setIfInBounds_toArray, List.set_cons_zero, List.set_cons_succ, List.getElem_toArray, List.getElem_cons_zero, List.getElem_cons_succ]
          have hPn := hP6.out.step hb3W hQ14.out hR (by rw [hnm]; exact hown') hg'
          obtain ⟨f1, f2, f3, f4⟩ := kk7.out w' ((hQ14.out.but).trans ((OldBut.refl g _).grown hg' (fun k hk => by cases hk; exact .inr rfl)))
          replace hPn : Aside _ := hPn
          clear hR hown' hg'
          refine wpAnyO_take hrf.out htr.out (i := 18) (v := ?_) rfl (by kernel_rfl) (fun _ _ _ h => h) (Or.inl ⟨by rfl, ?_⟩) ?_
          rotate_left
          · (intro X hX; go_simp <;> with_reducible rfl)
          try simp only [Act.put, List.setIfInBounds_toArray, List.set_cons_zero, List.set_cons_succ, List.getElem_toArray, List.getElem_cons_zero, List.getElem_cons_succ]
          refine wpAnyO_one (i := 19) (by kernel_rfl) rfl ?_
          intro K hK
          go_simp
          refine hK _ _ (fun h => absurd rfl h) ?_
          clear hK K
          try simp only [Act.put, List.setIfInBounds_toArray, List.set_cons_zero, List.set_cons_succ, List.getElem_toArray, List.getElem_cons_zero, List.getElem_cons_succ]
          refine wpAnyO_done (by kernel_rfl) ?_ _
          generalize w'.setCell ⟨w3.heap.size, 5, none⟩ (.slice a' (i + 1 + 1) c') = wn at *
          go_wp2
          go_roundg (n - (i + 1))
          case measure => omega
          case rel => exact ⟨i + 1, _, _, by go_num, by omega, by omega, hPn⟩
        · intro K hK
          go_simp
          (go_at_call 18; refine Calls.mono (toks18 _) ?_; rintro e Y ⟨rfl, rfl⟩)
          refine hK _ _ (fun _ => ((Old.refl _).alloc _).but) ?_
          clear hK K
          try simp only [Act.put, List.setIfInBounds_toArray, List.set_cons_zero, List.set_cons_succ, List.getElem_toArray, List.getElem_cons_zero, List.getElem_cons_succ]
          have hN15 : (X8.alloc (.cells #[.int .i64 1, .int .i64 2, .int .i64 8, .int .i64 7] 3)).heap[X8.heap.size]? = some (.cells #[.int .i64 1, .int .i64 2, .int .i64 8, .int .i64 7] 3 (0, 0)) := World.alloc_heap_new _ _
          have hQ15 : Old w6 (X8.alloc (.cells #[.int .i64 1, .int .i64 2, .int .i64 8, .int .i64 7] 3)) := hQ8.out.alloc _
          have hS15 : Old X8 (X8.alloc (.cells #[.int .i64 1, .int .i64 2, .int .i64 8, .int .i64 7] 3)) := (Old.refl _).alloc _
          replace hS15 : Aside _ := hS15
          replace hN15 : Aside _ := hN15
          replace hQ15 : Aside _ := hQ15
          have hne15 : X8.heap.size ≠ g := by have := hQ8.out.size; omega
          replace hne15 : Aside _ := hne15
          generalize X8.alloc (.cells #[.int .i64 1, .int .i64 2, .int .i64 8, .int .i64 7] 3) = X15 at *
          refine wpAnyO_take hrf.out htr.out (i := 9) (v := ?_) rfl (by kernel_rfl) (fun _ _ _ h => h) (Or.inl ⟨by rfl, ?_⟩) ?_
          rotate_left
          · (intro X hX; go_simp <;> with_reducible rfl)
          try simp only [Act.put, List.setIfInBounds_toArray, List.set_cons_zero, List.set_cons_succ, List.getElem_toArray, List.getElem_cons_zero, List.getElem_cons_succ]
          refine wpAnyO_take hrf.out htr.out (i := 10) (v := ?_) rfl (by kernel_rfl) (fun _ _ _ h => h) (Or.inl ⟨by rfl, ?_⟩) ?_
          rotate_left
          · (intro X hX; have f := cells_at ((hX.heap _ (Array.getElem?_eq_some_iff.1 hN15.out).1 hne15.out).trans hN15.out) (toks_at hi4n); go_simp <;> with_reducible rfl)
          try simp only [Act.put, List.setIfInBounds_toArray, List.set_cons_zero, List.set_cons_succ, List.getElem_toArray, List.getElem_cons_zero, List.getElem_cons_succ]
          refine wpAnyO_two (i := 2) (j := 11) (by kernel_rfl) rfl rfl ?_ ?_
          · intro K hK
            go_simp
            refine hK _ _ (fun _ => ((Old.refl _).alloc _).but) ?_
            clear hK K
            try simp only [Act.put, List.setIfInBounds_toArray, List.set_cons_zero, List.set_cons_succ, List.getElem_toArray, List.getElem_cons_zero, List.getElem_cons_succ]
            have hN16 : (X15.alloc (.cells #[.string ⟨#[97, 100, 100]⟩, .string ⟨#[109, 117, 108]⟩, .string ⟨#[112, 111, 119]⟩, .string ⟨#[115, 101, 113]⟩] 9)).heap[X15.heap.size]? = some (.cells #[.string ⟨#[97, 100, 100]⟩, .string ⟨#[109, 117, 108]⟩, .string ⟨#[112, 111, 119]⟩, .string ⟨#[115, 101, 113]⟩] 9 (0, 0)) := World.alloc_heap_new _ _
            have hQ16 : Old w6 (X15.alloc (.cells #[.string ⟨#[97, 100, 100]⟩, .string ⟨#[109, 117, 108]⟩, .string ⟨#[112, 111, 119]⟩, .string ⟨#[115, 101, 113]⟩] 9)) := hQ15.out.alloc _
            have hS16 : Old X15 (X15.alloc (.cells #[.string ⟨#[97, 100, 100]⟩, .string ⟨#[109, 117, 108]⟩, .string ⟨#[112, 111, 119]⟩, .string ⟨#[115, 101, 113]⟩] 9)) := (Old.refl _).alloc _
            replace hS16 : Aside _ := hS16
            replace hN16 : Aside _ := hN16
            replace hQ16 : Aside _ := hQ16
            have hne16 : X15.heap.size ≠ g := by have := hQ15.out.size; omega
            replace hne16 : Aside _ := hne16
            generalize X15.alloc (.cells #[.string ⟨#[97, 100, 100]⟩, .string ⟨#[109, 117, 108]⟩, .string ⟨#[112, 111, 119]⟩, .string ⟨#[115, 101, 113]⟩] 9) = X16 at *
            refine wpAnyO_take hrf.out htr.out (i := 4) (v := ?_) rfl (by kernel_rfl) (fun _ _ _ h => h) (Or.inl ⟨by rfl, ?_⟩) ?_
            rotate_left
            · (intro X hX; go_simp <;> with_reducible rfl)
            try simp only [Act.put, List.setIfInBounds_toArray, List.set_cons_zero, List.set_cons_succ, List.getElem_toArray, List.getElem_cons_zero, List.getElem_cons_succ]
            refine wpAnyO_take hrf.out htr.out (i := 5) (v := ?_) rfl (by kernel_rfl) (fun _ _ _ h => h) (Or.inl ⟨by rfl, ?_⟩) ?_
            rotate_left
            · (intro X hX; have f := cells_at ((hX.heap _ (Array.getElem?_eq_some_iff.1 hN16.out).1 hne16.out).trans hN16.out) ((names_at hi4n).trans (congrArg some hnm)); go_simp <;> with_reducible rfl)
            try simp only [Act.put, List.setIfInBounds_toArray, List.set_cons_zero, List.set_cons_succ, List.getElem_toArray, List.getElem_cons_zero, List.getElem_cons_succ]
            refine wpAnyO_one (i := 11) (by kernel_rfl) rfl ?_
            intro K hK
            go_simp
            (go_at_call 16; refine Calls.mono (tok16 _ _) ?_; rintro e X17 ⟨rfl, hY17⟩)
            have hQ17 := hQ16.out.trans hY17
            refine hK _ _ (fun _ => hY17.but) ?_
            clear hK K
            try simp only [Act.put, List.setIfInBounds_toArray, List.set_cons_zero, List.set_cons_succ, List.getElem_toArray, List.getElem_cons_zero, List.getElem_cons_succ]
            replace hQ17 : Aside _ := hQ17
            replace hY17 : Aside _ := hY17
            refine wpAnyO_one (i := 12) (by kernel_rfl) rfl ?_
            intro K hK
            go_simp
            (go_at_call 17; refine Calls.mono (non17 _ _) ?_; rintro e X18 ⟨rfl, hY18⟩)
            have hQ18 := hQ17.out.trans hY18
            refine hK _ _ (fun _ => hY18.but) ?_
            clear hK K
            try simp only [Act.put, List.setIfInBounds_toArray, List.set_cons_zero, List.set_cons_succ, List.getElem_toArray, List.getElem_cons_zero, List.getElem_cons_succ]
            replace hQ18 : Aside _ := hQ18
            replace hY18 : Aside _ := hY18
            refine wpAnyO_one (i := 13) (by kernel_rfl) rfl ?_
            intro K hK
            go_simp
            refine hK _ _ (fun _ => ((Old.refl _).alloc _).but) ?_
            clear hK K
            try simp only [Act.put, List.setIfInBounds_toArray, List.set_cons_zero, List.set_cons_succ, List.getElem_toArray, List.getElem_cons_zero, List.getElem_cons_succ]
            have hN19 : (X18.alloc (.cells #[.bool false, .int .i64 0, .bool true, .int .i64 (tokC i), .bool false, .int .i64 0] 66)).heap[X18.heap.size]? = some (.cells #[.bool false, .int .i64 0, .bool true, .int .i64 (tokC i), .bool false, .int .i64 0] 66 (0, 0)) := World.alloc_heap_new _ _
            have hQ19 : Old w6 (X18.alloc (.cells #[.bool false, .int .i64 0, .bool true, .int .i64 (tokC i), .bool false, .int .i64 0] 66)) := hQ18.out.alloc _
            have hS19 : Old X18 (X18.alloc (.cells #[.bool false, .int .i64 0, .bool true, .int .i64 (tokC i), .bool false, .int .i64 0] 66)) := (Old.refl _).alloc _
            replace hS19 : Aside _ := hS19
            replace hN19 : Aside _ := hN19
            replace hQ19 : Aside _ := hQ19
            have hne19 : X18.heap.size ≠ g := by have := hQ18.out.size; omega
            replace hne19 : Aside _ := hne19
            generalize X18.alloc (.cells #[.bool false, .int .i64 0, .bool true, .int .i64 (tokC i), .bool false, .int .i64 0] 66) = X19 at *
            refine wpAnyO_take hrf.out htr.out (i := 15) (v := ?_) rfl (by kernel_rfl) (fun _ _ _ h => h) (Or.inl ⟨by rfl, ?_⟩) ?_
            rotate_left
            · (intro X hX; go_simp <;> with_reducible rfl)
            try simp only [Act.put, List.setIfInBounds_toArray, List.set_cons_zero, List.set_cons_succ, List.getElem_toArray, List.getElem_cons_zero, List.getElem_cons_succ]
            refine wpAnyO_one (i := 16) (by kernel_rfl) rfl ?_
            intro K hK
            go_simp
            refine hK _ _ (fun _ => ((Old.refl _).alloc _).but) ?_
            clear hK K
            try simp only [Act.put, List.setIfInBounds_toArray, List.set_cons_zero, List.set_cons_succ, List.getElem_toArray, List.getElem_cons_zero, List.getElem_cons_succ]
            change wpAnyO _ _ _ _ _ _ _ _ _ (X19.alloc (.cells (prodV (.string nm) X18.heap.size 3).toArray 73))
            have hN20 : (X19.alloc (.cells (prodV (.string nm) X18.heap.size 3).toArray 73)).heap[X19.heap.size]? = some (.cells (prodV (.string nm) X18.heap.size 3).toArray 73 (0, 0)) := World.alloc_heap_new _ _
            have hQ20 : Old w6 (X19.alloc (.cells (prodV (.string nm) X18.heap.size 3).toArray 73)) := hQ19.out.alloc _
            have hS20 : Old X19 (X19.alloc (.cells (prodV (.string nm) X18.heap.size 3).toArray 73)) := (Old.refl _).alloc _
            replace hS20 : Aside _ := hS20
            replace hN20 : Aside _ := hN20
            replace hQ20 : Aside _ := hQ20
            have hne20 : X19.heap.size ≠ g := by have := hQ19.out.size; omega
            replace hne20 : Aside _ := hne20
            generalize X19.alloc (.cells (prodV (.string nm) X18.heap.size 3).toArray 73) = X20 at *
            have hR : X20.heap[X18.heap.size]? = some (.cells (rightV (i + 1)).toArray 66 (0, 0)) := (hS20.out.heap _ (Array.getElem?_eq_some_iff.1 hN19.out).1).trans hN19.out
            refine wpAnyO_one (i := 17) (by kernel_rfl) rfl ?_
            intro K hK
            refine stepP (.tmp 28) (.tmp 43) _ W.heap.size (.slice (some ⟨g, 0, none⟩) (i + 1) cap) (i + 1) (prodsV rb i) (prodV (.string nm) X18.heap.size 3) X19.heap.size rfl rfl (own_old hP6.out.own hQ20.out) (Nat.le_trans hP6.out.but.size hQ20.out.size) (by omega) (by rfl) (by rfl) rfl (prodV_one rfl) (fun i u hi => cells_at hN20.out (by simpa using hi)) ?_
            intro v' w' hown' hg'
            obtain ⟨a', c', rfl⟩ := own_form hown'
            refine hK _ _ (fun _ => (OldBut.refl g _).grown hg' (fun k hk => by cases hk; exact .inr rfl)) ?_
            clear hK K
            try simp only [Act.put, List.setIfInBounds_toArray, List.set_cons_zero, List.set_cons_succ, List.getElem_toArray, List.getElem_cons_zero, List.getElem_cons_succ]
            have hPn := hP6.out.step hb3W hQ20.out hR (by rw [hnm]; exact hown') hg'
            obtain ⟨f1, f2, f3, f4⟩ := kk7.out w' ((hQ20.out.but).trans ((OldBut.refl g _).grown hg' (fun k hk => by cases hk; exact .inr rfl)))
            replace hPn : Aside _ := hPn
            clear hR hown' hg'
            refine wpAnyO_take hrf.out htr.out (i := 18) (v := ?_) rfl (by kernel_rfl) (fun _ _ _ h => h) (Or.inl ⟨by rfl, ?_⟩) ?_
            rotate_left
            · (intro X hX; go_simp <;> with_reducible rfl)
            try simp only [Act.put, List.setIfInBounds_toArray, List.set_cons_zero, List.set_cons_succ, List.getElem_toArray, List.getElem_cons_zero, List.getElem_cons_succ]
            refine wpAnyO_one (i := 19) (by kernel_rfl) rfl ?_
            intro K hK
            go_simp
            refine hK _ _ (fun h => absurd rfl h) ?_
            clear hK K
            try simp only [Act.put, List.setIfInBounds_toArray, List.set_cons_zero, List.set_cons_succ, List.getElem_toArray, List.getElem_cons_zero, List.getElem_cons_succ]
            refine wpAnyO_done (by kernel_rfl) ?_ _
            generalize w'.setCell ⟨w3.heap.size, 5, none⟩ (.slice a' (i + 1 + 1) c') = wn at *
            go_wp2
            go_roundg (n - (i + 1))
            case measure => omega
            case rel => exact ⟨i + 1, _, _, by go_num, by omega, by omega, hPn⟩
          · intro K hK
            go_simp
            (go_at_call 16; refine Calls.mono (tok16 _ _) ?_; rintro e X21 ⟨rfl, hY21⟩)
            have hQ21 := hQ15.out.trans hY21
            refine hK _ _ (fun _ => hY21.but) ?_
            clear hK K
            try simp only [Act.put, List.setIfInBounds_toArray, List.set_cons_zero, List.set_cons_succ, List.getElem_toArray, List.getElem_cons_zero, List.getElem_cons_succ]
            replace hQ21 : Aside _ := hQ21
            replace hY21 : Aside _ := hY21
            refine wpAnyO_two (i := 2) (j := 12) (by kernel_rfl) rfl rfl ?_ ?_
            · intro K hK
              go_simp
              refine hK _ _ (fun _ => ((Old.refl _).alloc _).but) ?_
              clear hK K
              try simp only [Act.put, List.setIfInBounds_toArray, List.set_cons_zero, List.set_cons_succ, List.getElem_toArray, List.getElem_cons_zero, List.getElem_cons_succ]
              have hN22 : (X21.alloc (.cells #[.string ⟨#[97, 100, 100]⟩, .string ⟨#[109, 117, 108]⟩, .string ⟨#[112, 111, 119]⟩, .string ⟨#[115, 101, 113]⟩] 9)).heap[X21.heap.size]? = some (.cells #[.string ⟨#[97, 100, 100]⟩, .string ⟨#[109, 117, 108]⟩, .string ⟨#[112, 111, 119]⟩, .string ⟨#[115, 101, 113]⟩] 9 (0, 0)) := World.alloc_heap_new _ _
              have hQ22 : Old w6 (X21.alloc (.cells #[.string ⟨#[97, 100, 100]⟩, .string ⟨#[109, 117, 108]⟩, .string ⟨#[112, 111, 119]⟩, .string ⟨#[115, 101, 113]⟩] 9)) := hQ21.out.alloc _
              have hS22 : Old X21 (X21.alloc (.cells #[.string ⟨#[97, 100, 100]⟩, .string ⟨#[109, 117, 108]⟩, .string ⟨#[112, 111, 119]⟩, .string ⟨#[115, 101, 113]⟩] 9)) := (Old.refl _).alloc _
              replace hS22 : Aside _ := hS22
              replace hN22 : Aside _ := hN22
              replace hQ22 : Aside _ := hQ22
              have hne22 : X21.heap.size ≠ g := by have := hQ21.out.size; omega
              replace hne22 : Aside _ := hne22
              generalize X21.alloc (.cells #[.string ⟨#[97, 100, 100]⟩, .string ⟨#[109, 117, 108]⟩, .string ⟨#[112, 111, 119]⟩, .string ⟨#[115, 101, 113]⟩] 9) = X22 at *
              refine wpAnyO_take hrf.out htr.out (i := 4) (v := ?_) rfl (by kernel_rfl) (fun _ _ _ h => h) (Or.inl ⟨by rfl, ?_⟩) ?_
              rotate_left
              · (intro X hX; go_simp <;> with_reducible rfl)
              try simp only [Act.put, List.setIfInBounds_toArray, List.set_cons_zero, List.set_cons_succ, List.getElem_toArray, List.getElem_cons_zero, List.getElem_cons_succ]
              refine wpAnyO_take hrf.out htr.out (i := 5) (v := ?_) rfl (by kernel_rfl) (fun _ _ _ h => h) (Or.inl ⟨by rfl, ?_⟩) ?_
              rotate_left
              · (intro X hX; have f := cells_at ((hX.heap _ (Array.getElem?_eq_some_iff.1 hN22.out).1 hne22.out).trans hN22.out) ((names_at hi4n).trans (congrArg some hnm)); go_simp <;> with_reducible rfl)
              try simp only [Act.put, List.setIfInBounds_toArray, List.set_cons_zero, List.set_cons_succ, List.getElem_toArray, List.getElem_cons_zero, List.getElem_cons_succ]
              refine wpAnyO_one (i := 12) (by kernel_rfl) rfl ?_
              intro K hK
              go_simp
              (go_at_call 17; refine Calls.mono (non17 _ _) ?_; rintro e X23 ⟨rfl, hY23⟩)
              have hQ23 := hQ22.out.trans hY23
              refine hK _ _ (fun _ => hY23.but) ?_
              clear hK K
              try simp only [Act.put, List.setIfInBounds_toArray, List.set_cons_zero, List.set_cons_succ, List.getElem_toArray, List.getElem_cons_zero, List.getElem_cons_succ]
              replace hQ23 : Aside _ := hQ23
              replace hY23 : Aside _ := hY23
              refine wpAnyO_one (i := 13) (by kernel_rfl) rfl ?_
              intro K hK
              go_simp
              refine hK _ _ (fun _ => ((Old.refl _).alloc _).but) ?_
              clear hK K
              try simp only [Act.put, List.setIfInBounds_toArray, List.set_cons_zero, List.set_cons_succ, List.getElem_toArray, List.getElem_cons_zero, List.getElem_cons_succ]
              have hN24 : (X23.alloc (.cells #[.bool false, .int .i64 0, .bool true, .int .i64 (tokC i), .bool false, .int .i64 0] 66)).heap[X23.heap.size]? = some (.cells #[.bool false, .int .i64 0, .bool true, .int .i64 (tokC i), .bool false, .int .i64 0] 66 (0, 0)) := World.alloc_heap_new _ _
              have hQ24 : Old w6 (X23.alloc (.cells #[.bool false, .int .i64 0, .bool true, .int .i64 (tokC i), .bool false, .int .i64 0] 66)) := hQ23.out.alloc _
              have hS24 : Old X23 (X23.alloc (.cells #[.bool false, .int .i64 0, .bool true, .int .i64 (tokC i), .bool false, .int .i64 0] 66)) := (Old.refl _).alloc _
              replace hS24 : Aside _ := hS24
              replace hN24 : Aside _ := hN24
              replace hQ24 : Aside _ := hQ24
              have hne24 : X23.heap.size ≠ g := by have := hQ23.out.size; omega
              replace hne24 : Aside _ := hne24
              generalize X23.alloc (.cells #[.bool false, .int .i64 0, .bool true, .int .i64 (tokC i), .bool false, .int .i64 0] 66) = X24 at *
              refine wpAnyO_take hrf.out htr.out (i := 15) (v := ?_) rfl (by kernel_rfl) (fun _ _ _ h => h) (Or.inl ⟨by rfl, ?_⟩) ?_
              rotate_left
              · (intro X hX; go_simp <;> with_reducible rfl)
              try simp only [Act.put, List.setIfInBounds_toArray, List.set_cons_zero, List.set_cons_succ, List.getElem_toArray, List.getElem_cons_zero, List.getElem_cons_succ]
              refine wpAnyO_one (i := 16) (by kernel_rfl) rfl ?_
              intro K hK
              go_simp
              refine hK _ _ (fun _ => ((Old.refl _).alloc _).but) ?_
              clear hK K
              try simp only [Act.put, List.setIfInBounds_toArray, List.set_cons_zero, List.set_cons_succ, List.getElem_toArray, List.getElem_cons_zero, List.getElem_cons_succ]
              change wpAnyO _ _ _ _ _ _ _ _ _ (X24.alloc (.cells (prodV (.string nm) X23.heap.size 3).toArray 73))
              have hN25 : (X24.alloc (.cells (prodV (.string nm) X23.heap.size 3).toArray 73)).heap[X24.heap.size]? = some (.cells (prodV (.string nm) X23.heap.size 3).toArray 73 (0, 0)) := World.alloc_heap_new _ _
              have hQ25 : Old w6 (X24.alloc (.cells (prodV (.string nm) X23.heap.size 3).toArray 73)) := hQ24.out.alloc _
              have hS25 : Old X24 (X24.alloc (.cells (prodV (.string nm) X23.heap.size 3).toArray 73)) := (Old.refl _).alloc _
              replace hS25 : Aside _ := hS25
              replace hN25 : Aside _ := hN25
              replace hQ25 : Aside _ := hQ25
              have hne25 : X24.heap.size ≠ g := by have := hQ24.out.size; omega
              replace hne25 : Aside _ := hne25
              generalize X24.alloc (.cells (prodV (.string nm) X23.heap.size 3).toArray 73) = X25 at *
              have hR : X25.heap[X23.heap.size]? = some (.cells (rightV (i + 1)).toArray 66 (0, 0)) := (hS25.out.heap _ (Array.getElem?_eq_some_iff.1 hN24.out).1).trans hN24.out
              refine wpAnyO_one (i := 17) (by kernel_rfl) rfl ?_
              intro K hK
              refine stepP (.tmp 28) (.tmp 43) _ W.heap.size (.slice (some ⟨g, 0, none⟩) (i + 1) cap) (i + 1) (prodsV rb i) (prodV (.string nm) X23.heap.size 3) X24.heap.size rfl rfl (own_old hP6.out.own hQ25.out) (Nat.le_trans hP6.out.but.size hQ25.out.size) (by omega) (by rfl) (by rfl) rfl (prodV_one rfl) (fun i u hi => cells_at hN25.out (by simpa using hi)) ?_
              intro v' w' hown' hg'
              obtain ⟨a', c', rfl⟩ := own_form hown'
              refine hK _ _ (fun _ => (OldBut.refl g _).grown hg' (fun k hk => by cases hk; exact .inr rfl)) ?_
              clear hK K
              try simp only [Act.put, List.setIfInBounds_toArray, List.set_cons_zero, List.set_cons_succ, List.getElem_toArray, List.getElem_cons_zero, List.getElem_cons_succ]
              have hPn := hP6.out.step hb3W hQ25.out hR (by rw [hnm]; exact hown') hg'
              obtain ⟨f1, f2, f3, f4⟩ := kk7.out w' ((hQ25.out.but).trans ((OldBut.refl g _).grown hg' (fun k hk => by cases hk; exact .inr rfl)))
              replace hPn : Aside _ := hPn
              clear hR hown' hg'
              refine wpAnyO_take hrf.out htr.out (i := 18) (v := ?_) rfl (by kernel_rfl) (fun _ _ _ h => h) (Or.inl ⟨by rfl, ?_⟩) ?_
              rotate_left
              · (intro X hX; go_simp <;> with_reducible rfl)
              try simp only [Act.put, List.setIfInBounds_toArray, List.set_cons_zero, List.set_cons_succ, List.getElem_toArray, List.getElem_cons_zero, List.getElem_cons_succ]
              refine wpAnyO_one (i := 19) (by kernel_rfl) rfl ?_
              intro K hK
              go_simp
              refine hK _ _ (fun h => absurd rfl h) ?_
              clear hK K
              try simp only [Act.put, List.setIfInBounds_toArray, List.set_cons_zero, List.set_cons_succ, List.getElem_toArray, List.getElem_cons_zero, List.getElem_cons_succ]
              refine wpAnyO_done (by kernel_rfl) ?_ _
              generalize w'.setCell ⟨w3.heap.size, 5, none⟩ (.slice a' (i + 1 + 1) c') = wn at *
              go_wp2
              go_roundg (n - (i + 1))
              case measure => omega
              case rel => exact ⟨i + 1, _, _, by go_num, by omega, by omega, hPn⟩
            · intro K hK
              go_simp
              (go_at_call 17; refine Calls.mono (non17 _ _) ?_; rintro e X26 ⟨rfl, hY26⟩)
              have hQ26 := hQ21.out.trans hY26
              refine hK _ _ (fun _ => hY26.but) ?_
              clear hK K
              try simp only [Act.put, List.setIfInBounds_toArray, List.set_cons_zero, List.set_cons_succ, List.getElem_toArray, List.getElem_cons_zero, List.getElem_cons_succ]
              replace hQ26 : Aside _ := hQ26
              replace hY26 : Aside _ := hY26
              refine wpAnyO_two (i := 2) (j := 13) (by kernel_rfl) rfl rfl ?_ ?_
              · intro K hK
                go_simp
                refine hK _ _ (fun _ => ((Old.refl _).alloc _).but) ?_
                clear hK K
                try simp only [Act.put, List.setIfInBounds_toArray, List.set_cons_zero, List.set_cons_succ, List.getElem_toArray, List.getElem_cons_zero, List.getElem_cons_succ]
                have hN27 : (X26.alloc (.cells #[.string ⟨#[97, 100, 100]⟩, .string ⟨#[109, 117, 108]⟩, .string ⟨#[112, 111, 119]⟩, .string ⟨#[115, 101, 113]⟩] 9)).heap[X26.heap.size]? = some (.cells #[.string ⟨#[97, 100, 100]⟩, .string ⟨#[109, 117, 108]⟩, .string ⟨#[112, 111, 119]⟩, .string ⟨#[115, 101, 113]⟩] 9 (0, 0)) := World.alloc_heap_new _ _
                have hQ27 : Old w6 (X26.alloc (.cells #[.string ⟨#[97, 100, 100]⟩, .string ⟨#[109, 117, 108]⟩, .string ⟨#[112, 111, 119]⟩, .string ⟨#[115, 101, 113]⟩] 9)) := hQ26.out.alloc _
                have hS27 : Old X26 (X26.alloc (.cells #[.string ⟨#[97, 100, 100]⟩, .string ⟨#[109, 117, 108]⟩, .string ⟨#[112, 111, 119]⟩, .string ⟨#[115, 101, 113]⟩] 9)) := (Old.refl _).alloc _
                replace hS27 : Aside _ := hS27
                replace hN27 : Aside _ := hN27
                replace hQ27 : Aside _ := hQ27
                have hne27 : X26.heap.size ≠ g := by have := hQ26.out.size; omega
                replace hne27 : Aside _ := hne27
                generalize X26.alloc (.cells #[.string ⟨#[97, 100, 100]⟩, .string ⟨#[109, 117, 108]⟩, .string ⟨#[112, 111, 119]⟩, .string ⟨#[115, 101, 113]⟩] 9) = X27 at *
                refine wpAnyO_take hrf.out htr.out (i := 4) (v := ?_) rfl (by kernel_rfl) (fun _ _ _ h => h) (Or.inl ⟨by rfl, ?_⟩) ?_
                rotate_left
                · (intro X hX; go_simp <;> with_reducible rfl)
                try simp only [Act.put, List.setIfInBounds_toArray, List.set_cons_zero, List.set_cons_succ, List.getElem_toArray, List.getElem_cons_zero, List.getElem_cons_succ]
                refine wpAnyO_take hrf.out htr.out (i := 5) (v := ?_) rfl (by kernel_rfl) (fun _ _ _ h => h) (Or.inl ⟨by rfl, ?_⟩) ?_
                rotate_left
                · (intro X hX; have f := cells_at ((hX.heap _ (Array.getElem?_eq_some_iff.1 hN27.out).1 hne27.out).trans hN27.out) ((names_at hi4n).trans (congrArg some hnm)); go_simp <;> with_reducible rfl)
                try simp only [Act.put, List.setIfInBounds_toArray, List.set_cons_zero, List.set_cons_succ, List.getElem_toArray, List.getElem_cons_zero, List.getElem_cons_succ]
                refine wpAnyO_one (i := 13) (by kernel_rfl) rfl ?_
                intro K hK
                go_simp
                refine hK _ _ (fun _ => ((Old.refl _).alloc _).but) ?_
                clear hK K
                try simp only [Act.put, List.setIfInBounds_toArray, List.set_cons_zero, List.set_cons_succ, List.getElem_toArray, List.getElem_cons_zero, List.getElem_cons_succ]
                have hN28 : (X27.alloc (.cells #[.bool false, .int .i64 0, .bool true, .int .i64 (tokC i), .bool false, .int .i64 0] 66)).heap[X27.heap.size]? = some (.cells #[.bool false, .int .i64 0, .bool true, .int .i64 (tokC i), .bool false, .int .i64 0] 66 (0, 0)) := World.alloc_heap_new _ _
                have hQ28 : Old w6 (X27.alloc (.cells #[.bool false, .int .i64 0, .bool true, .int .i64 (tokC i), .bool false, .int .i64 0] 66)) := hQ27.out.alloc _
                have hS28 : Old X27 (X27.alloc (.cells #[.bool false, .int .i64 0, .bool true, .int .i64 (tokC i), .bool false, .int .i64 0] 66)) := (Old.refl _).alloc _
                replace hS28 : Aside _ := hS28
                replace hN28 : Aside _ := hN28
                replace hQ28 : Aside _ := hQ28
                have hne28 : X27.heap.size ≠ g := by have := hQ27.out.size; omega
                replace hne28 : Aside _ := hne28
                generalize X27.alloc (.cells #[.bool false, .int .i64 0, .bool true, .int .i64 (tokC i), .bool false, .int .i64 0] 66) = X28 at *
                refine wpAnyO_take hrf.out htr.out (i := 15) (v := ?_) rfl (by kernel_rfl) (fun _ _ _ h => h) (Or.inl ⟨by rfl, ?_⟩) ?_
                rotate_left
                · (intro X hX; go_simp <;> with_reducible rfl)
                try simp only [Act.put, List.setIfInBounds_toArray, List.set_cons_zero, List.set_cons_succ, List.getElem_toArray, List.getElem_cons_zero, List.getElem_cons_succ]
                refine wpAnyO_one (i := 16) (by kernel_rfl) rfl ?_
                intro K hK
                go_simp
                refine hK _ _ (fun _ => ((Old.refl _).alloc _).but) ?_
                clear hK K
                try simp only [Act.put, List.setIfInBounds_toArray, List.set_cons_zero, List.set_cons_succ, List.getElem_toArray, List.getElem_cons_zero, List.getElem_cons_succ]
                change wpAnyO _ _ _ _ _ _ _ _ _ (X28.alloc (.cells (prodV (.string nm) X27.heap.size 3).toArray 73))
                have hN29 : (X28.alloc (.cells (prodV (.string nm) X27.heap.size 3).toArray 73)).heap[X28.heap.size]? = some (.cells (prodV (.string nm) X27.heap.size 3).toArray 73 (0, 0)) := World.alloc_heap_new _ _
                have hQ29 : Old w6 (X28.alloc (.cells (prodV (.string nm) X27.heap.size 3).toArray 73)) := hQ28.out.alloc _
                have hS29 : Old X28 (X28.alloc (.cells (prodV (.string nm) X27.heap.size 3).toArray 73)) := (Old.refl _).alloc _
                replace hS29 : Aside _ := hS29
                replace hN29 : Aside _ := hN29
                replace hQ29 : Aside _ := hQ29
                have hne29 : X28.heap.size ≠ g := by have := hQ28.out.size; omega
                replace hne29 : Aside _ := hne29
                generalize X28.alloc (.cells (prodV (.string nm) X27.heap.size 3).toArray 73) = X29 at *
                have hR : X29.heap[X27.heap.size]? = some (.cells (rightV (i + 1)).toArray 66 (0, 0)) := (hS29.out.heap _ (Array.getElem?_eq_some_iff.1 hN28.out).1).trans hN28.out
                refine wpAnyO_one (i := 17) (by kernel_rfl) rfl ?_
                intro K hK
                refine stepP (.tmp 28) (.tmp 43) _ W.heap.size (.slice (some ⟨g, 0, none⟩) (i + 1) cap) (i + 1) (prodsV rb i) (prodV (.string nm) X27.heap.size 3) X28.heap.size rfl rfl (own_old hP6.out.own hQ29.out) (Nat.le_trans hP6.out.but.size hQ29.out.size) (by omega) (by rfl) (by rfl) rfl (prodV_one rfl) (fun i u hi => cells_at hN29.out (by simpa using hi)) ?_
                intro v' w' hown' hg'
                obtain ⟨a', c', rfl⟩ := own_form hown'
                refine hK _ _ (fun _ => (OldBut.refl g _).grown hg' (fun k hk => by cases hk; exact .inr rfl)) ?_
                clear hK K
                try simp only [Act.put, List.setIfInBounds_toArray, List.set_cons_zero, List.set_cons_succ, List.getElem_toArray, List.getElem_cons_zero, List.getElem_cons_succ]
                have hPn := hP6.out.step hb3W hQ29.out hR (by rw [hnm]; exact hown') hg'
                obtain ⟨f1, f2, f3, f4⟩ := kk7.out w' ((hQ29.out.but).trans ((OldBut.refl g _).grown hg' (fun k hk => by cases hk; exact .inr rfl)))
                replace hPn : Aside _ := hPn
                clear hR hown' hg'
                refine wpAnyO_take hrf.out htr.out (i := 18) (v := ?_) rfl (by kernel_rfl) (fun _ _ _ h => h) (Or.inl ⟨by rfl, ?_⟩) ?_
                rotate_left
                · (intro X hX; go_simp <;> with_reducible rfl)
                try simp only [Act.put, List.setIfInBounds_toArray, List.set_cons_zero, List.set_cons_succ, List.getElem_toArray, List.getElem_cons_zero, List.getElem_cons_succ]
                refine wpAnyO_one (i := 19) (by kernel_rfl) rfl ?_
                intro K hK
                go_simp
                refine hK _ _ (fun h => absurd rfl h) ?_
                clear hK K
                try simp only [Act.put, List.setIfInBounds_toArray, List.set_cons_zero, List.set_cons_succ, List.getElem_toArray, List.getElem_cons_zero, List.getElem_cons_succ]
                refine wpAnyO_done (by kernel_rfl) ?_ _
                generalize w'.setCell ⟨w3.heap.size, 5, none⟩ (.slice a' (i + 1 + 1) c') = wn at *
                go_wp2
                go_roundg (n - (i + 1))
                case measure => omega
                case rel => exact ⟨i + 1, _, _, by go_num, by omega, by omega, hPn⟩
              · intro K hK
                go_simp
                refine hK _ _ (fun _ => ((Old.refl _).alloc _).but) ?_
                clear hK K
                try simp only [Act.put, List.setIfInBounds_toArray, List.set_cons_zero, List.set_cons_succ, List.getElem_toArray, List.getElem_cons_zero, List.getElem_cons_succ]
                have hN30 : (X26.alloc (.cells #[.bool false, .int .i64 0, .bool true, .int .i64 (tokC i), .bool false, .int .i64 0] 66)).heap[X26.heap.size]? = some (.cells #[.bool false, .int .i64 0, .bool true, .int .i64 (tokC i), .bool false, .int .i64 0] 66 (0, 0)) := World.alloc_heap_new _ _
                have hQ30 : Old w6 (X26.alloc (.cells #[.bool false, .int .i64 0, .bool true, .int .i64 (tokC i), .bool false, .int .i64 0] 66)) := hQ26.out.alloc _
                have hS30 : Old X26 (X26.alloc (.cells #[.bool false, .int .i64 0, .bool true, .int .i64 (tokC i), .bool false, .int .i64 0] 66)) := (Old.refl _).alloc _
                replace hS30 : Aside _ := hS30
                replace hN30 : Aside _ := hN30
                replace hQ30 : Aside _ := hQ30
                have hne30 : X26.heap.size ≠ g := by have := hQ26.out.size; omega
                replace hne30 : Aside _ := hne30
                generalize X26.alloc (.cells #[.bool false, .int .i64 0, .bool true, .int .i64 (tokC i), .bool false, .int .i64 0] 66) = X30 at *
                refine wpAnyO_one (i := 2) (by kernel_rfl) rfl ?_
                intro K hK
                go_simp
                refine hK _ _ (fun _ => ((Old.refl _).alloc _).but) ?_
                clear hK K
                try simp only [Act.put, List.setIfInBounds_toArray, List.set_cons_zero, List.set_cons_succ, List.getElem_toArray, List.getElem_cons_zero, List.getElem_cons_succ]
                have hN31 : (X30.alloc (.cells #[.string ⟨#[97, 100, 100]⟩, .string ⟨#[109, 117, 108]⟩, .string ⟨#[112, 111, 119]⟩, .string ⟨#[115, 101, 113]⟩] 9)).heap[X30.heap.size]? = some (.cells #[.string ⟨#[97, 100, 100]⟩, .string ⟨#[109, 117, 108]⟩, .string ⟨#[112, 111, 119]⟩, .string ⟨#[115, 101, 113]⟩] 9 (0, 0)) := World.alloc_heap_new _ _
                have hQ31 : Old w6 (X30.alloc (.cells #[.string ⟨#[97, 100, 100]⟩, .string ⟨#[109, 117, 108]⟩, .string ⟨#[112, 111, 119]⟩, .string ⟨#[115, 101, 113]⟩] 9)) := hQ30.out.alloc _
                have hS31 : Old X30 (X30.alloc (.cells #[.string ⟨#[97, 100, 100]⟩, .string ⟨#[109, 117, 108]⟩, .string ⟨#[112, 111, 119]⟩, .string ⟨#[115, 101, 113]⟩] 9)) := (Old.refl _).alloc _
                replace hS31 : Aside _ := hS31
                replace hN31 : Aside _ := hN31
                replace hQ31 : Aside _ := hQ31
                have hne31 : X30.heap.size ≠ g := by have := hQ30.out.size; omega
                replace hne31 : Aside _ := hne31
                generalize X30.alloc (.cells #[.string ⟨#[97, 100, 100]⟩, .string ⟨#[109, 117, 108]⟩, .string ⟨#[112, 111, 119]⟩, .string ⟨#[115, 101, 113]⟩] 9) = X31 at *
                refine wpAnyO_take hrf.out htr.out (i := 4) (v := ?_) rfl (by kernel_rfl) (fun _ _ _ h => h) (Or.inl ⟨by rfl, ?_⟩) ?_
                rotate_left
                · (intro X hX; go_simp <;> with_reducible rfl)
                try simp only [Act.put, List.setIfInBounds_toArray, List.set_cons_zero, List.set_cons_succ, List.getElem_toArray, List.getElem_cons_zero, List.getElem_cons_succ]
                refine wpAnyO_take hrf.out htr.out (i := 5) (v := ?_) rfl (by kernel_rfl) (fun _ _ _ h => h) (Or.inl ⟨by rfl, ?_⟩) ?_
                rotate_left
                · (intro X hX; have f := cells_at ((hX.heap _ (Array.getElem?_eq_some_iff.1 hN31.out).1 hne31.out).trans hN31.out) ((names_at hi4n).trans (congrArg some hnm)); go_simp <;> with_reducible rfl)
                try simp only [Act.put, List.setIfInBounds_toArray, List.set_cons_zero, List.set_cons_succ, List.getElem_toArray, List.getElem_cons_zero, List.getElem_cons_succ]
                refine wpAnyO_take hrf.out htr.out (i := 15) (v := ?_) rfl (by kernel_rfl) (fun _ _ _ h => h) (Or.inl ⟨by rfl, ?_⟩) ?_
                rotate_left
                · (intro X hX; go_simp <;> with_reducible rfl)
                try simp only [Act.put, List.setIfInBounds_toArray, List.set_cons_zero, List.set_cons_succ, List.getElem_toArray, List.getElem_cons_zero, List.getElem_cons_succ]
                refine wpAnyO_one (i := 16) (by kernel_rfl) rfl ?_
                intro K hK
                go_simp
                refine hK _ _ (fun _ => ((Old.refl _).alloc _).but) ?_
                clear hK K
                try simp only [Act.put, List.setIfInBounds_toArray, List.set_cons_zero, List.set_cons_succ, List.getElem_toArray, List.getElem_cons_zero, List.getElem_cons_succ]
                change wpAnyO _ _ _ _ _ _ _ _ _ (X31.alloc (.cells (prodV (.string nm) X26.heap.size 3).toArray 73))
                have hN32 : (X31.alloc (.cells (prodV (.string nm) X26.heap.size 3).toArray 73)).heap[X31.heap.size]? = some (.cells (prodV (.string nm) X26.heap.size 3).toArray 73 (0, 0)) := World.alloc_heap_new _ _
                have hQ32 : Old w6 (X31.alloc (.cells (prodV (.string nm) X26.heap.size 3).toArray 73)) := hQ31.out.alloc _
                have hS32 : Old X31 (X31.alloc (.cells (prodV (.string nm) X26.heap.size 3).toArray 73)) := (Old.refl _).alloc _
                replace hS32 : Aside _ := hS32
                replace hN32 : Aside _ := hN32
                replace hQ32 : Aside _ := hQ32
                have hne32 : X31.heap.size ≠ g := by have := hQ31.out.size; omega
                replace hne32 : Aside _ := hne32
                generalize X31.alloc (.cells (prodV (.string nm) X26.heap.size 3).toArray 73) = X32 at *
                have hR : X32.heap[X26.heap.size]? = some (.cells (rightV (i + 1)).toArray 66 (0, 0)) := ((hS31.out.trans hS32.out).heap _ (Array.getElem?_eq_some_iff.1 hN30.out).1).trans hN30.out
                refine wpAnyO_one (i := 17) (by kernel_rfl) rfl ?_
                intro K hK
                refine stepP (.tmp 28) (.tmp 43) _ W.heap.size (.slice (some ⟨g, 0, none⟩) (i + 1) cap) (i + 1) (prodsV rb i) (prodV (.string nm) X26.heap.size 3) X31.heap.size rfl rfl (own_old hP6.out.own hQ32.out) (Nat.le_trans hP6.out.but.size hQ32.out.size) (by omega) (by rfl) (by rfl) rfl (prodV_one rfl) (fun i u hi => cells_at hN32.out (by simpa using hi)) ?_
                intro v' w' hown' hg'
                obtain ⟨a', c', rfl⟩ := own_form hown'
                refine hK _ _ (fun _ => (OldBut.refl g _).grown hg' (fun k hk => by cases hk; exact .inr rfl)) ?_
                clear hK K
                try simp only [Act.put, List.setIfInBounds_toArray, List.set_cons_zero, List.set_cons_succ, List.getElem_toArray, List.getElem_cons_zero, List.getElem_cons_succ]
                have hPn := hP6.out.step hb3W hQ32.out hR (by rw [hnm]; exact hown') hg'
                obtain ⟨f1, f2, f3, f4⟩ := kk7.out w' ((hQ32.out.but).trans ((OldBut.refl g _).grown hg' (fun k hk => by cases hk; exact .inr rfl)))
                replace hPn : Aside _ := hPn
                clear hR hown' hg'
                refine wpAnyO_take hrf.out htr.out (i := 18) (v := ?_) rfl (by kernel_rfl) (fun _ _ _ h => h) (Or.inl ⟨by rfl, ?_⟩) ?_
                rotate_left
                · (intro X hX; go_simp <;> with_reducible rfl)
                try simp only [Act.put, List.setIfInBounds_toArray, List.set_cons_zero, List.set_cons_succ, List.getElem_toArray, List.getElem_cons_zero, List.getElem_cons_succ]
                refine wpAnyO_one (i := 19) (by kernel_rfl) rfl ?_
                intro K hK
                go_simp
                refine hK _ _ (fun h => absurd rfl h) ?_
                clear hK K
                try simp only [Act.put, List.setIfInBounds_toArray, List.set_cons_zero, List.set_cons_succ, List.getElem_toArray, List.getElem_cons_zero, List.getElem_cons_succ]
                refine wpAnyO_done (by kernel_rfl) ?_ _
                generalize w'.setCell ⟨w3.heap.size, 5, none⟩ (.slice a' (i + 1 + 1) c') = wn at *
                go_wp2
                go_roundg (n - (i + 1))
                case measure => omega
                case rel => exact ⟨i + 1, _, _, by go_num, by omega, by omega, hPn⟩
    · have hin : i = n := by omega
      subst hin
      go_wp2_with (go_at_call 6; refine Calls.mono (hnum.out _) ?_; rintro e w6 ⟨rfl, hO6⟩)
      have hP6 := hP.out.old hO6
      have hb36 : w3.heap.size < w6.heap.size := (Array.getElem?_eq_some_iff.1 hP6.obj).1
      have hQW : QW w6 w6 w3.heap.size (.slice (some a0) 2 k0) (.slice (some a3) 11 k3) (.slice (some a4) 1 k4) v5 (.slice none 0 0) [] (lvAll i (lvN l0 l1 l2 l3) (asN s0 s1 s2) 0) :=
        ⟨OldBut.refl _ _, hP6.obj, World.ownsRow_nil _ _ _ _, rfl, fun j b a h => (by simp at h)⟩
      have hbx6 : ∀ X, OldBut w3.heap.size w6 X → X.heap[w.heap.size]? = some (.cells #[.int .u8 m, .int .u8 l0, .int .u8 l1, .int .u8 l2, .int .u8 l3, .int .u8 s0, .int .u8 s1, .int .u8 s2] 25 (0, 0)) ∧
        X.heap[w.heap.size + 1]? = some (.cells #[.slice none 0 0, .slice none 0 0, .int .i64 0, .slice none 0 0, .slice none 0 0, .slice none 0 0, .int .i64 0, .slice none 0 0, .slice none 0 0] 37 (0, 0)) ∧ X.heap[w4.heap.size]? = some (.cells #[.slice none 0 0, .int .i64 1] 31 (0, 0)) := fun X hX => hbx.out X (hP6.but.trans hX)
      replace hbx6 : Aside _ := hbx6
      replace hP6 : Aside _ := hP6
      replace hQW : Aside _ := hQW
      clear xc0 xc1 xc2 xc3 xc4 xc5 xc6 xc7 hO6 hP hbx
      go_loopg [6] 3 (fun gg s wr => ∃ (k : Nat) (v7 : Value) (bs : List (Nat × Nat)), s = .int .i64 k ∧ 3 - k ≤ gg ∧ k ≤ 3 ∧ Aside (QW w6 wr w3.heap.size (.slice (some a0) 2 k0) (.slice (some a3) 11 k3) (.slice (some a4) 1 k4) v5 v7 bs (lvAll i (lvN l0 l1 l2 l3) (asN s0 s1 s2) k)))
      case atStart => exact ⟨0, _, _, rfl, by omega, by omega, hQW⟩
      case round =>
      obtain ⟨k, v7, bs, rfl, hgk, hkl, hQ⟩ := hrel
      by_cases hk3 : k < 3
      · have hk3' : (k : Int) < 3 := by omega
        have hk0 : (0 : Int) ≤ k := by omega
        have hsk := hS.out k
        have hwS := wrap64 hsk
        have hts : (asN s0 s1 s2 k).tmod 3 = asN s0 s1 s2 k % 3 := Int.tmod_eq_emod_of_nonneg hsk.1
        have hw2 : IntKind.i64.wrap (1 + asN s0 s1 s2 k % 3) = 1 + asN s0 s1 s2 k % 3 := wrap64 (by omega)
        have kk11 : ∀ X, Old wr X → X.cell? ⟨w.heap.size, 5 + k, none⟩ = some (.int .u8 (asN s0 s1 s2 k)) ∧ X.cell? ⟨w4.heap.size, 0, none⟩ = some (.slice none 0 0) ∧ X.cell? ⟨w4.heap.size, 1, none⟩ = some (.int .i64 1) := fun X hX => by
          obtain ⟨e1, e2, e3⟩ := hbx6.out X (hQ.out.but.trans hX.but)
          exact ⟨box_as e1 hk3, cells_at e3 rfl, cells_at e3 rfl⟩
        replace kk11 : Aside _ := kk11
        go_wp2
        refine wp_region_O Old 10 (by kernel_rfl) ?_
        have hQ0 : Old wr wr.drew := (Old.refl _).drew
        replace hQ0 : Aside _ := hQ0
        have hrf : ∀ X, Old X X := Old.refl
        have htr : ∀ X Y Z, Old X Y → Old Y Z → Old X Z := fun _ _ _ => Old.trans
        replace hrf : Aside _ := hrf
        replace htr : Aside _ := htr
        generalize wr.drew = X0 at *
        refine wpAnyO_take hrf.out htr.out (i := 0) (v := ?_) rfl (by kernel_rfl) (fun _ _ _ h => h) (Or.inl ⟨by rfl, ?_⟩) ?_
        rotate_left
        · (intro X hX; go_simp <;> with_reducible rfl)
        try simp only [Act.put, List.setIfInBounds_toArray, List.set_cons_zero, List.set_cons_succ, List.getElem_toArray, List.getElem_cons_zero, List.getElem_cons_succ]
        refine wpAnyO_take hrf.out htr.out (i := 1) (v := ?_) rfl (by kernel_rfl) (fun _ _ _ h => h) (Or.inl ⟨by rfl, ?_⟩) ?_
        rotate_left
        · (intro X hX; go_simp <;> with_reducible rfl)
        try simp only [Act.put, List.setIfInBounds_toArray, List.set_cons_zero, List.set_cons_succ, List.getElem_toArray, List.getElem_cons_zero, List.getElem_cons_succ]
        refine wpAnyO_take hrf.out htr.out (i := 2) (v := ?_) rfl (by kernel_rfl) (fun _ _ _ h => h) (Or.inl ⟨by rfl, ?_⟩) ?_
        rotate_left
        · (intro X hX; go_simp <;> with_reducible rfl)
        try simp only [Act.put, List.setIfInBounds_toArray, List.set_cons_zero, List.set_cons_succ, List.getElem_toArray, List.getElem_cons_zero, List.getElem_cons_succ]
        refine wpAnyO_take hrf.out htr.out (i := 3) (v := ?_) rfl (by kernel_rfl) (fun _ _ _ h => h) (Or.inl ⟨by rfl, ?_⟩) ?_
        rotate_left
        · (intro X hX; obtain ⟨f1, f2, f3⟩ := kk11.out X (hQ0.out.trans hX); go_simp <;> with_reducible rfl)
        try simp only [Act.put, List.setIfInBounds_toArray, List.set_cons_zero, List.set_cons_succ, List.getElem_toArray, List.getElem_cons_zero, List.getElem_cons_succ]
        refine wpAnyO_take hrf.out htr.out (i := 4) (v := ?_) rfl (by kernel_rfl) (fun _ _ _ h => h) (Or.inl ⟨by rfl, ?_⟩) ?_
        rotate_left
        · (intro X hX; go_simp <;> with_reducible rfl)
        try simp only [Act.put, List.setIfInBounds_toArray, List.set_cons_zero, List.set_cons_succ, List.getElem_toArray, List.getElem_cons_zero, List.getElem_cons_succ]
        refine wpAnyO_take hrf.out htr.out (i := 5) (v := ?_) rfl (by kernel_rfl) (fun _ _ _ h => h) (Or.inl ⟨by rfl, ?_⟩) ?_
        rotate_left
        · (intro X hX; go_simp <;> with_reducible rfl)
        try simp only [Act.put, List.setIfInBounds_toArray, List.set_cons_zero, List.set_cons_succ, List.getElem_toArray, List.getElem_cons_zero, List.getElem_cons_succ]
        refine wpAnyO_take hrf.out htr.out (i := 6) (v := ?_) rfl (by kernel_rfl) (fun _ _ _ h => h) (Or.inl ⟨by rfl, ?_⟩) ?_
        rotate_left
        · (intro X hX; go_simp <;> with_reducible rfl)
        try simp only [Act.put, List.setIfInBounds_toArray, List.set_cons_zero, List.set_cons_succ, List.getElem_toArray, List.getElem_cons_zero, List.getElem_cons_succ]
        refine wpAnyO_take hrf.out htr.out (i := 7) (v := ?_) rfl (by kernel_rfl) (fun _ _ _ h => h) (Or.inl ⟨by rfl, ?_⟩) ?_
        rotate_left
        · (intro X hX; obtain ⟨f1, f2, f3⟩ := kk11.out X (hQ0.out.trans hX); go_simp <;> with_reducible rfl)
        try simp only [Act.put, List.setIfInBounds_toArray, List.set_cons_zero, List.set_cons_succ, List.getElem_toArray, List.getElem_cons_zero, List.getElem_cons_succ]
        refine wpAnyO_take hrf.out htr.out (i := 8) (v := ?_) rfl (by kernel_rfl) (fun _ _ _ h => h) (Or.inl ⟨by rfl, ?_⟩) ?_
        rotate_left
        · (intro X hX; go_simp <;> with_reducible rfl)
        try simp only [Act.put, List.setIfInBounds_toArray, List.set_cons_zero, List.set_cons_succ, List.getElem_toArray, List.getElem_cons_zero, List.getElem_cons_succ]
        refine wpAnyO_one (i := 9) (by kernel_rfl) rfl ?_
        intro K hK
        go_simp
        refine hK _ _ (fun _ => (Old.refl _).alloc _) ?_
        clear hK K
        try simp only [Act.put, List.setIfInBounds_toArray, List.set_cons_zero, List.set_cons_succ, List.getElem_toArray, List.getElem_cons_zero, List.getElem_cons_succ]
        have hN9 : (X0.alloc (.cells #[.slice none 0 0, .int .i64 0, .slice none 0 0, .int .i64 0] 76)).heap[X0.heap.size]? = some (.cells #[.slice none 0 0, .int .i64 0, .slice none 0 0, .int .i64 0] 76 (0, 0)) := World.alloc_heap_new _ _
        have hO9 : Old wr (X0.alloc (.cells #[.slice none 0 0, .int .i64 0, .slice none 0 0, .int .i64 0] 76)) := hQ0.out.alloc _
        replace hO9 : Aside _ := hO9
        refine wpAnyO_one (i := 10) (by kernel_rfl) rfl ?_
        intro K hK
        go_simp
        refine hK _ _ (fun h => absurd rfl h) ?_
        clear hK K
        try simp only [Act.put, List.setIfInBounds_toArray, List.set_cons_zero, List.set_cons_succ, List.getElem_toArray, List.getElem_cons_zero, List.getElem_cons_succ]
        refine wpAnyO_done (by kernel_rfl) ?_ _

        have hO3 : Old wr (X0.alloc (.cells #[.slice none 0 0, .int .i64 (1 + asN s0 s1 s2 k % 3), .slice none 0 0, .int .i64 1] 76)) := hQ0.out.alloc _
        have hN3 : (X0.alloc (.cells #[.slice none 0 0, .int .i64 (1 + asN s0 s1 s2 k % 3), .slice none 0 0, .int .i64 1] 76)).heap[X0.heap.size]? = some (.cells #[.slice none 0 0, .int .i64 (1 + asN s0 s1 s2 k % 3), .slice none 0 0, .int .i64 1] 76 (0, 0)) := World.alloc_heap_new _ _
        have hRW : RW (X0.alloc (.cells #[.slice none 0 0, .int .i64 (1 + asN s0 s1 s2 k % 3), .slice none 0 0, .int .i64 1] 76)) (X0.alloc (.cells #[.slice none 0 0, .int .i64 (1 + asN s0 s1 s2 k % 3), .slice none 0 0, .int .i64 1] 76)) X0.heap.size (.slice none 0 0) (1 + asN s0 s1 s2 k % 3) (heldAt (lvN l0 l1 l2 l3) k 0) :=
          ⟨OldBut.refl _ _, hN3, World.ownsRow_nil _ _ _ _⟩
        have hbX : wr.heap.size ≤ X0.heap.size := hQ0.out.size
        generalize X0.heap.size = bl at *
        generalize X0.alloc (.cells #[.slice none 0 0, .int .i64 (1 + asN s0 s1 s2 k % 3), .slice none 0 0, .int .i64 1] 76) = W3 at *
        have hbl : bl < W3.heap.size := (Array.getElem?_eq_some_iff.1 hN3).1
        have hbx9 : ∀ X, OldBut bl W3 X → X.heap[w.heap.size]? = some (.cells #[.int .u8 m, .int .u8 l0, .int .u8 l1, .int .u8 l2, .int .u8 l3, .int .u8 s0, .int .u8 s1, .int .u8 s2] 25 (0, 0)) ∧ Old wr X := fun X hX => by
          have hOX : Old wr X := OldBut.oldOf hO3 hbX hX
          exact ⟨(hbx6.out X (hQ.out.but.trans hOX.but)).1, hOX⟩
        replace hbx9 : Aside _ := hbx9
        replace hRW : Aside _ := hRW
        clear hO3 hN3 hO9 hN9 hQ0 hrf htr kk11 hbX hts hw2 hwS hsk
        go_wp2
        go_loopg [8] i (fun gg s wr2 => ∃ (j : Nat) (pv : Value), s = .int .i64 j ∧ i - j ≤ gg ∧ j ≤ i ∧ Aside (RW W3 wr2 bl pv (1 + asN s0 s1 s2 k % 3) (heldAt (lvN l0 l1 l2 l3) k j)))
        case atStart => exact ⟨0, _, rfl, by omega, by omega, hRW⟩
        case round =>
        obtain ⟨j, pv, rfl, hgj, hjl, hR⟩ := hrel
        obtain ⟨xb, hOX⟩ := hbx9.out _ hR.out.but
        have xc0 := cells_at xb (i := 0) rfl
        have xc1 := cells_at xb (i := 1) rfl
        have xc2 := cells_at xb (i := 2) rfl
        have xc3 := cells_at xb (i := 3) rfl
        have xc4 := cells_at xb (i := 4) rfl
        have xc5 := cells_at xb (i := 5) rfl
        have xc6 := cells_at xb (i := 6) rfl
        have xc7 := cells_at xb (i := 7) rfl
        clear xb hOX
        by_cases hlj : j < i
        · have hlj' : (j : Int) < i := by omega
          have hj0 : (0 : Int) ≤ j := by omega
          have hj4 : (j : Int) < 4 := by omega
          have hj4n : j < 4 := by omega
          have hlk := hL.out j
          have hwL := wrap64 hlk
          have htl : (lvN l0 l1 l2 l3 j).tmod 3 = lvN l0 l1 l2 l3 j % 3 := Int.tmod_eq_emod_of_nonneg hlk.1
          replace hlk : Aside _ := hlk
          by_cases heq : lvN l0 l1 l2 l3 j % 3 = (k : Int)
          · have hheld : heldAt (lvN l0 l1 l2 l3) k (j + 1) = heldAt (lvN l0 l1 l2 l3) k j ++ [j + 1] := by simp [heldAt, heq]
            replace hheld : Aside _ := hheld
            have hle := heldAt_le (lvN l0 l1 l2 l3) k j
            go_wp2_with (first
              | (go_at_call 6; refine Calls.mono (hnum.out _) ?_; rintro e w7 ⟨rfl, hO7⟩; have hR7 := hR.out.old hO7; have fl := box_lv (hbx9.out w7 hR7.but).1 hj4n; obtain ⟨ap, cp, hpv⟩ := own_form hR7.own; subst hpv; have fo := cells_at hR7.obj (i := 0) rfl)
              | (at_builtin; have hR8 := hR7.old ((Old.refl w7).alloc (.cells #[.int .i64 ((j : Int) + 1)] 3)); refine push3 (.tmp 74) (.tmp 77) _ W3.heap.size (.slice ap (heldAt (lvN l0 l1 l2 l3) k j).length cp) (heldAt (lvN l0 l1 l2 l3) k j).length (intsV (heldAt (lvN l0 l1 l2 l3) k j)) ((j : Int) + 1) w7.heap.size rfl rfl hR8.own hR8.but.size (by omega) rfl rfl (by simp) ?_; intro v9 w9 hown9 hg9 _; obtain ⟨a9, c9, hv9⟩ := own_form hown9; subst hv9; have hR9 := hR8.step (p := j + 1) hbl (by simpa using hown9) hg9; have fo9 := cells_at ((hg9.block bl (Array.getElem?_eq_some_iff.1 hR8.obj).1 (fun e => by have := (hR8.own.lt bl e.symm).1; omega)).trans hR8.obj) (i := 0) rfl; have fz9 := frozen_at ((hg9.block bl (Array.getElem?_eq_some_iff.1 hR8.obj).1 (fun e => by have := (hR8.own.lt bl e.symm).1; omega)).trans hR8.obj) 0; replace hR9 : Aside _ := hR9; replace hR8 : Aside _ := hR8; replace hR7 : Aside _ := hR7))
            go_roundg (i - (j + 1))
            case measure => omega
            case rel => exact ⟨j + 1, _, by go_num, by omega, by omega, by rw [hheld.out]; exact hR9⟩
          · have hheld : heldAt (lvN l0 l1 l2 l3) k (j + 1) = heldAt (lvN l0 l1 l2 l3) k j := by simp [heldAt, heq]
            replace hheld : Aside _ := hheld
            go_wp2_with (first
              | (go_at_call 6; refine Calls.mono (hnum.out _) ?_; rintro e w7 ⟨rfl, hO7⟩; have hR7 := hR.out.old hO7; have fl := box_lv (hbx9.out w7 hR7.but).1 hj4n; replace hR7 : Aside _ := hR7))
            go_roundg (i - (j + 1))
            case measure => omega
            case rel => exact ⟨j + 1, _, by go_num, by omega, by omega, by rw [hheld.out]; exact hR7⟩
        · have hji : j = i := by omega
          subst hji
          by_cases hnil : heldAt (lvN l0 l1 l2 l3) k j = []
          · have hall : lvAll j (lvN l0 l1 l2 l3) (asN s0 s1 s2) (k + 1) = lvAll j (lvN l0 l1 l2 l3) (asN s0 s1 s2) k := by simp [lvAll, hnil]
            replace hall : Aside _ := hall
            have hzl : (heldAt (lvN l0 l1 l2 l3) k j).length = 0 := by rw [hnil]; rfl
            go_wp2_with (first
              | (go_at_call 6; refine Calls.mono (hnum.out _) ?_; rintro e w7 ⟨rfl, hO7⟩; have hR7 := hR.out.old hO7; obtain ⟨ap, cp, hpv⟩ := own_form hR7.own; rw [hzl] at hpv; subst hpv; have fo := cells_at hR7.obj (i := 0) rfl; have hQ7 := hQ.out.old (hbx9.out w7 hR7.but).2; replace hQ7 : Aside _ := hQ7; replace hR7 : Aside _ := hR7))
            go_roundg (3 - (k + 1))
            case measure => omega
            case rel => exact ⟨k + 1, _, _, by go_num, by omega, by omega, by rw [hall.out]; exact hQ7⟩
          · have hall : lvAll j (lvN l0 l1 l2 l3) (asN s0 s1 s2) (k + 1) = lvAll j (lvN l0 l1 l2 l3) (asN s0 s1 s2) k ++ [(heldAt (lvN l0 l1 l2 l3) k j, 1 + asN s0 s1 s2 k % 3)] := by simp [lvAll, hnil]
            replace hall : Aside _ := hall
            have hzl : 0 < (heldAt (lvN l0 l1 l2 l3) k j).length := List.length_pos_iff.2 hnil
            have hzl' : (0 : Int) < (heldAt (lvN l0 l1 l2 l3) k j).length := by omega
            have hlvle := lvAll_le j (lvN l0 l1 l2 l3) (asN s0 s1 s2) k
            go_wp2_with (first
              | (go_at_call 6; refine Calls.mono (hnum.out _) ?_; rintro e w7 ⟨rfl, hO7⟩; have hR7 := hR.out.old hO7; obtain ⟨gp, cp, cur, hpv, hcur, htk, hcp⟩ := own_cur hR7.own hzl; subst hpv; have fo0 := cells_at hR7.obj (i := 0) rfl; have fo1 := cells_at hR7.obj (i := 1) rfl; have fo2 := cells_at hR7.obj (i := 2) rfl; have fo3 := cells_at hR7.obj (i := 3) rfl; have hQ7 := hQ.out.old (hbx9.out w7 hR7.but).2; obtain ⟨a7', c7', hv7⟩ := own_form hQ7.own; subst hv7; have f7 := cells_at hQ7.obj (i := 7) rfl; replace hcur : Aside _ := hcur; replace htk : Aside _ := htk; replace hQ7 : Aside _ := hQ7; replace hR7 : Aside _ := hR7)
              | (at_builtin; have hA8 := (Old.refl w7).alloc (.cells #[.slice (some ⟨gp, 0, none⟩) (heldAt (lvN l0 l1 l2 l3) k j).length cp, .int .i64 (1 + asN s0 s1 s2 k % 3), .slice none 0 0, .int .i64 1] 76); have hN8 := World.alloc_heap_new w7 (.cells #[.slice (some ⟨gp, 0, none⟩) (heldAt (lvN l0 l1 l2 l3) k j).length cp, .int .i64 (1 + asN s0 s1 s2 k % 3), .slice none 0 0, .int .i64 1] 76); have hQ8 := hQ7.out.old hA8; refine pushL (.tmp 85) (.tmp 87) _ w6.heap.size (.slice a7' (lvAll j (lvN l0 l1 l2 l3) (asN s0 s1 s2) k).length c7') (lvAll j (lvN l0 l1 l2 l3) (asN s0 s1 s2) k).length (levelsV bs (lvAll j (lvN l0 l1 l2 l3) (asN s0 s1 s2) k)) [.slice (some ⟨gp, 0, none⟩) (heldAt (lvN l0 l1 l2 l3) k j).length cp, .int .i64 (1 + asN s0 s1 s2 k % 3), .slice none 0 0, .int .i64 1] w7.heap.size rfl rfl hQ8.own hQ8.but.size (by omega) rfl rfl rfl (by simp; exact ⟨rfl, rfl, rfl, rfl⟩) (fun u v hu => cells_at hN8 (by simpa using hu)) ?_; intro v9 w9 hown9 hg9; obtain ⟨a9, c9, hv9⟩ := own_form hown9; subst hv9; have hc8 := (hA8.heap _ (Array.getElem?_eq_some_iff.1 hcur.out).1).trans hcur.out; have hQ9 := hQ8.step (b := (gp, cp)) (a := (heldAt (lvN l0 l1 l2 l3) k j, 1 + asN s0 s1 s2 k % 3)) hb36 hc8 htk.out hcp hown9 hg9; have hob9 := (hg9.block w3.heap.size (Array.getElem?_eq_some_iff.1 hQ8.obj).1 (fun e => by have := (hQ8.own.lt _ e.symm).1; omega)).trans hQ8.obj; have fo9 := cells_at hob9 (i := 7) rfl; have fz9 := frozen_at hob9 7; replace hQ9 : Aside _ := hQ9; replace hQ8 : Aside _ := hQ8; clear hob9 hA8 hN8 hc8))
            go_roundg (3 - (k + 1))
            case measure => omega
            case rel => exact ⟨k + 1, _, _, by go_num, by omega, by omega, by rw [hall.out]; exact hQ9⟩
      · have hk3e : k = 3 := by omega
        subst hk3e
        obtain ⟨a7', c7', hv7⟩ := own_form hQ.out.own
        subst hv7
        obtain ⟨_, zb0, _⟩ := hbx6.out _ hQ.out.but
        replace zb0 : Aside _ := zb0
        have zb := zb0.out
        have ob := hQ.out.obj
        have g0 := cells_at ob (i := 0) rfl
        have g1 := cells_at ob (i := 1) rfl
        have g2 := cells_at ob (i := 2) rfl
        have g3 := cells_at ob (i := 3) rfl
        have g4 := cells_at ob (i := 4) rfl
        have g5 := cells_at ob (i := 5) rfl
        have g6 := cells_at ob (i := 6) rfl
        have g7 := cells_at ob (i := 7) rfl
        have g8 := cells_at ob (i := 8) rfl
        have z0 := cells_at zb (i := 0) rfl
        have z1 := cells_at zb (i := 1) rfl
        have z2 := cells_at zb (i := 2) rfl
        have z3 := cells_at zb (i := 3) rfl
        have z4 := cells_at zb (i := 4) rfl
        have z5 := cells_at zb (i := 5) rfl
        have z6 := cells_at zb (i := 6) rfl
        have z7 := cells_at zb (i := 7) rfl
        have z8 := cells_at zb (i := 8) rfl
        have y0 := frozen_at zb 0
        have y1 := frozen_at zb 1
        have y2 := frozen_at zb 2
        have y3 := frozen_at zb 3
        have y4 := frozen_at zb 4
        have y5 := frozen_at zb 5
        have y6 := frozen_at zb 6
        have y7 := frozen_at zb 7
        have y8 := frozen_at zb 8
        obtain ⟨a5', c5', hv5⟩ := own_form hP6.out.own
        subst hv5
        clear ob zb
        go_wp2
        have hni : (1 + m % 4).toNat = i := by have := hn.out; omega
        refine bodyPost_ret (v := .agg #[.slice (some a0) 2 k0, .slice none 0 0, .int .i64 1, .slice (some a3) 11 k3, .slice (some a4) 1 k4, .slice a5' (i + 1) c5', .int .i64 0, .slice a7' (lvAll i (lvN l0 l1 l2 l3) (asN s0 s1 s2) 3).length c7', .slice none 0 0]) ?_ rfl ⟨_, rfl, ?_, ?_⟩
        · rw [results_cell1 Tryz.results5]
          simp [go_sem, z0, z1, z2, z3, z4, z5, z6, z7, z8]
        all_goals clear g0 g1 g2 g3 g4 g5 g6 g7 g8 z0 z1 z2 z3 z4 z5 z6 z7 z8 y0 y1 y2 y3 y4 y5 y6 y7 y8
        all_goals (
          have hbW : w3.heap.size < W.heap.size := hb3W
          have hOwr : Old w wr := OldBut.oldOf hwW.out (by omega) (hP6.out.but.trans hQ.out.but))
        · exact ((((((((hOwr.setCell (p := ⟨w.heap.size + 1, 0, none⟩) (by simp only; omega) _).setCell (p := ⟨w.heap.size + 1, 1, none⟩) (by simp only; omega) _).setCell (p := ⟨w.heap.size + 1, 2, none⟩) (by simp only; omega) _).setCell (p := ⟨w.heap.size + 1, 3, none⟩) (by simp only; omega) _).setCell (p := ⟨w.heap.size + 1, 4, none⟩) (by simp only; omega) _).setCell (p := ⟨w.heap.size + 1, 5, none⟩) (by simp only; omega) _).setCell (p := ⟨w.heap.size + 1, 6, none⟩) (by simp only; omega) _).setCell (p := ⟨w.heap.size + 1, 7, none⟩) (by simp only; omega) _).setCell (p := ⟨w.heap.size + 1, 8, none⟩) (by simp only; omega) _
        · rw [hni]
          have hBut := (((((((((OldBut.refl (w.heap.size + 1) wr).trans (setCell_but _ _ 0 (.slice (some a0) 2 k0))).trans (setCell_but _ _ 1 (.slice none 0 0))).trans (setCell_but _ _ 2 (.int .i64 1))).trans (setCell_but _ _ 3 (.slice (some a3) 11 k3))).trans (setCell_but _ _ 4 (.slice (some a4) 1 k4))).trans (setCell_but _ _ 5 (.slice a5' (i + 1) c5'))).trans (setCell_but _ _ 6 (.int .i64 0))).trans (setCell_but _ _ 7 (.slice a7' (lvAll i (lvN l0 l1 l2 l3) (asN s0 s1 s2) 3).length c7'))).trans (setCell_but _ _ 8 (.slice none 0 0))
          generalize ((((((((wr.setCell ⟨w.heap.size + 1, 0, none⟩ (.slice (some a0) 2 k0)).setCell ⟨w.heap.size + 1, 1, none⟩ (.slice none 0 0)).setCell ⟨w.heap.size + 1, 2, none⟩ (.int .i64 1)).setCell ⟨w.heap.size + 1, 3, none⟩ (.slice (some a3) 11 k3)).setCell ⟨w.heap.size + 1, 4, none⟩ (.slice (some a4) 1 k4)).setCell ⟨w.heap.size + 1, 5, none⟩ (.slice a5' (i + 1) c5')).setCell ⟨w.heap.size + 1, 6, none⟩ (.int .i64 0)).setCell ⟨w.heap.size + 1, 7, none⟩ (.slice a7' (lvAll i (lvN l0 l1 l2 l3) (asN s0 s1 s2) 3).length c7')).setCell ⟨w.heap.size + 1, 8, none⟩ (.slice none 0 0) = wf at *
          have hob : w6.heap[w3.heap.size]? = some (.cells #[.slice (some a0) 2 k0, .slice none 0 0, .int .i64 1, .slice (some a3) 11 k3, .slice (some a4) 1 k4, .slice a5' (i + 1) c5', .int .i64 0, .slice none 0 0, .slice none 0 0] 37 (0, 0)) := hP6.out.obj
          refine ⟨a0, a3, a4, k0, k3, k4, _, _, ρ, bs, rb, W.heap.size, w6.heap.size, rfl, v0.out, v3.out, v4.out, hdom.out, hzero.out, fun i' cs esz hi' => ?_, own_but (own_but hP6.out.own hQ.out.but hbW) hBut (by omega), fun j hj => ?_, own_but hQ.out.own hBut (by omega), hQ.out.rt.same fun b hb cur hc => (hBut.heap _ (Array.getElem?_eq_some_iff.1 hc).1 (cells_ne hc zb0.out (by decide))).trans hc⟩
          · obtain ⟨pl, e1, e2, e3⟩ := hrows.out i' cs esz hi'
            have hlt := e2.lt
            have h1 := (hO34.out.trans hOW.out)
            have h2 := (hP6.out.but.trans hQ.out.but)
            refine ⟨pl, e1, e2.mono (Ext.refl _) ?_⟩
            have hltW : pl.blk < W.heap.size := Nat.lt_of_lt_of_le hlt h1.size
            rw [hBut.heap _ (Nat.lt_of_lt_of_le hltW h2.size) (by omega), h2.heap _ hltW (by omega), h1.heap _ hlt]
          · have r6 := hP6.out.rt j hj
            have r7 := (hQ.out.but.heap _ (Array.getElem?_eq_some_iff.1 r6).1 (cells_ne r6 hob (by decide))).trans r6
            exact (hBut.heap _ (Array.getElem?_eq_some_iff.1 r7).1 (cells_ne r7 zb0.out (by decide))).trans r7
end Go.Pri
end

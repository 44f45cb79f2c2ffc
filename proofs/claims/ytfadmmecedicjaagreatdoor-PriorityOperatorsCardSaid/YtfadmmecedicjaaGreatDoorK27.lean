/-
  PriorityOperators: parts of its proof (Co4).
-/
import Derived.Test.YtfadmmecedicjaaGreatDoorK09
import Derived.Test.YtfadmmecedicjaaGreatDoorK24
set_option linter.unusedVariables false
set_option linter.unusedSimpArgs false

section
/-
  The closure of Compare: walked.
-/
namespace Go.Pri
open Go Go.Abs Go.Proofs Go.RowKit Go.Lib
set_option maxRecDepth 100000
set_option maxHeartbeats 8000000

theorem order22 (Ba Bb Bx By Bo bx by' : Nat) (tva tvb : Value) (la lb : List Nd) (outa outb : List Int) (KA KB : Nat → List Nat) (hP : OrdP la lb outa outb KA KB) : ∀ (N i j : Nat) (w : World), la.length - i ≤ N → i < la.length → j < lb.length →
    OrdM w Ba Bb Bx By Bo bx by' tva tvb la lb outa outb →
    Calls Tryz.prog 22 #[.int .i64 i, .int .i64 j, .pointer (some ⟨Ba, 0, none⟩), .pointer (some ⟨Bb, 0, none⟩), .pointer (some ⟨Bx, 0, none⟩), .pointer (some ⟨By, 0, none⟩), .pointer (some ⟨Bo, 0, none⟩)] w fun e w' =>
      e = .returned (.int .i64 (ordN la lb KA KB N i j)) ∧ Old w w' := by
  intro N
  induction N with
  | zero => intro i j w h hi _ _; omega
  | succ N ih =>
    intro i j w hN hi hj hM
    obtain ⟨x, hx⟩ : ∃ x, la[i]? = some x := ⟨_, List.getElem?_eq_getElem hi⟩
    obtain ⟨y, hy⟩ : ∃ y, lb[j]? = some y := ⟨_, List.getElem?_eq_getElem hj⟩
    have hord : ordN la lb KA KB (N + 1) i j = (if headC x y = 0 then
        (if firstNZ (((KA i).zip (KB j)).map fun z => posZ la lb z.1 z.2) = 0 then firstNZ (((KA i).zip (KB j)).map fun z => ordN la lb KA KB N z.1 z.2) else firstNZ (((KA i).zip (KB j)).map fun z => posZ la lb z.1 z.2))
      else headC x y) := by simp only [ordN, hx, hy]
    obtain ⟨ba, oa, ca, hva, _⟩ := hM.sa.at (j := i) (c := encN x) (by simp [hx])
    obtain ⟨bb, ob, cb, hvb, _⟩ := hM.sb.at (j := j) (c := encN y) (by simp [hy])
    rw [List.length_map] at hva hvb
    subst hva
    subst hvb
    have hnode : ∀ (k : Nat) (z : Nd) (X : World), la[k]? = some z → Old w X → X.cell? ⟨ba, oa + k * 4, none⟩ = some (.int .i64 z.p) ∧ X.cell? ⟨ba, oa + k * 4 + 1, none⟩ = some (.int .i64 z.tok) ∧ X.cell? ⟨ba, oa + k * 4 + 2, none⟩ = some (.int .i64 z.fr) ∧ X.cell? ⟨ba, oa + k * 4 + 3, none⟩ = some (.int .i64 z.to) := fun k z X hk hO => by
      obtain ⟨b', o', c', he, hc⟩ := (hM.sa.old hO).at (j := k) (c := encN z) (by simp [hk])
      rw [List.length_map] at he
      cases he
      exact ⟨hc 0 _ rfl, hc 1 _ rfl, hc 2 _ rfl, hc 3 _ rfl⟩
    have hnodb : ∀ (k : Nat) (z : Nd) (X : World), lb[k]? = some z → Old w X → X.cell? ⟨bb, ob + k * 4, none⟩ = some (.int .i64 z.p) ∧ X.cell? ⟨bb, ob + k * 4 + 1, none⟩ = some (.int .i64 z.tok) ∧ X.cell? ⟨bb, ob + k * 4 + 2, none⟩ = some (.int .i64 z.fr) ∧ X.cell? ⟨bb, ob + k * 4 + 3, none⟩ = some (.int .i64 z.to) := fun k z X hk hO => by
      obtain ⟨b', o', c', he, hc⟩ := (hM.sb.old hO).at (j := k) (c := encN z) (by simp [hk])
      rw [List.length_map] at he
      cases he
      exact ⟨hc 0 _ rfl, hc 1 _ rfl, hc 2 _ rfl, hc 3 _ rfl⟩
    have hbox : ∀ X, Old w X → X.cell? ⟨Ba, 0, none⟩ = some (.slice (some ⟨ba, oa, none⟩) la.length ca) ∧ X.cell? ⟨Bb, 0, none⟩ = some (.slice (some ⟨bb, ob, none⟩) lb.length cb) ∧ X.cell? ⟨Bx, 0, none⟩ = some (.slice (some ⟨bx, 0, none⟩) la.length la.length) ∧
        X.cell? ⟨By, 0, none⟩ = some (.slice (some ⟨by', 0, none⟩) lb.length lb.length) ∧ X.cell? ⟨Bo, 0, none⟩ = some (.func (.func 22) #[] #[.pointer (some ⟨Ba, 0, none⟩), .pointer (some ⟨Bb, 0, none⟩), .pointer (some ⟨Bx, 0, none⟩), .pointer (some ⟨By, 0, none⟩), .pointer (some ⟨Bo, 0, none⟩)]) := fun X hO =>
      ⟨hO.cell_some hM.a, hO.cell_some hM.b, hO.cell_some hM.x, hO.cell_some hM.y, hO.cell_some hM.o⟩
    have hrec := fun (k l : Nat) (W : World) (h1 : i < k) (h2 : k < la.length) (h3 : l < lb.length) (h4 : Old w W) => ih k l W (by omega) h2 h3 (hM.old h4)
    have hor := fun (W : World) => or23 [cmpI x.tok y.tok, cmpI x.p y.p, posC x y] (.slice (some ⟨W.heap.size, 0, none⟩) 3 3) (W.alloc (.cells #[.int .i64 (cmpI x.tok y.tok), .int .i64 (cmpI x.p y.p), .int .i64 (posC x y)] 3)) (slice_new W [cmpI x.tok y.tok, cmpI x.p y.p, posC x y] 3 W.heap.size rfl) (by simp)
    obtain ⟨⟨stopA, hstA, hkA⟩, hKAb, hKAl⟩ := hP.ka i hi
    obtain ⟨⟨stopB, hstB, hkB⟩, hKBb, hKBl⟩ := hP.kb j hj
    have hcolA := fun (W : World) (Be Bi : Nat) (h1 : W.cell? ⟨Bi, 0, none⟩ = some (.int .i64 i)) (h2 : W.cell? ⟨Be, 0, none⟩ = some (.slice (some ⟨bx, 0, none⟩) la.length la.length)) (h3 : Old w W) => collect26 bx Be Bi la.length la.length i outa ((KA i).map fun k : Nat => (k : Int)) stopA W h1 h2 (hM.na.old h3) hP.lena (by have := hP.small; omega) hi hstA hkA (by simp; omega)
    have hcolB := fun (W : World) (Be Bi : Nat) (h1 : W.cell? ⟨Bi, 0, none⟩ = some (.int .i64 j)) (h2 : W.cell? ⟨Be, 0, none⟩ = some (.slice (some ⟨by', 0, none⟩) lb.length lb.length)) (h3 : Old w W) => collect26 by' Be Bi lb.length lb.length j outb ((KB j).map fun k : Nat => (k : Int)) stopB W h1 h2 (hM.nb.old h3) hP.lenb (by have := hP.small; omega) hj hstB hkB (by simp; omega)
    have hfit := hP.fit i j x y hx hy
    have i0 : (0 : Int) ≤ i := by omega
    have i1 : (i : Int) < la.length := by omega
    have j0 : (0 : Int) ≤ j := by omega
    have j1 : (j : Int) < lb.length := by omega
    clear ih hkA hkB hstA hstB
    replace hnode : Aside _ := hnode
    replace hnodb : Aside _ := hnodb
    replace hbox : Aside _ := hbox
    replace hrec : Aside _ := hrec
    replace hor : Aside _ := hor
    replace hcolA : Aside _ := hcolA
    replace hcolB : Aside _ := hcolB
    replace hfit : Aside _ := hfit
    replace hord : Aside _ := hord
    replace hx : Aside _ := hx
    replace hy : Aside _ := hy
    replace hKAb : Aside _ := hKAb
    replace hKBb : Aside _ := hKBb
    replace hM : Aside _ := hM
    replace hP : Aside _ := hP
    have hrf : ∀ X, Old X X := Old.refl
    have htr : ∀ X Y Z, Old X Y → Old Y Z → Old X Z := fun _ _ _ => Old.trans
    replace hrf : Aside _ := hrf
    replace htr : Aside _ := htr
    have hmix : Tryz.prog.follows Departure.mixedOrders = true := rfl
    go_enter Tryz.func22, Tryz.ntmps22
    go_wp2
    refine wp_region_O Old 33 (by kernel_rfl) ?_
    have hQ0 : Old w w.drew := (Old.refl _).drew
    replace hQ0 : Aside _ := hQ0
    generalize w.drew = X0 at *
    refine wpAnyO_take hrf.out htr.out (i := 0) (v := ?_) rfl (by kernel_rfl) (fun _ _ _ h => h) (Or.inl ⟨by rfl, ?_⟩) ?_
    rotate_left
    · (intro X hX; obtain ⟨f1, f2, f3, f4, f5⟩ := hbox.out X (hQ0.out.trans hX); obtain ⟨a0, a1, a2, a3⟩ := hnode.out i x X hx.out (hQ0.out.trans hX); obtain ⟨b0, b1, b2, b3⟩ := hnodb.out j y X hy.out (hQ0.out.trans hX); go_simp <;> with_reducible rfl)
    try simp only [Act.put, List.setIfInBounds_toArray, List.set_cons_zero, List.set_cons_succ, List.getElem_toArray, List.getElem_cons_zero, List.getElem_cons_succ]
    refine wpAnyO_take hrf.out htr.out (i := 1) (v := ?_) rfl (by kernel_rfl) (fun _ _ _ h => h) (Or.inl ⟨by rfl, ?_⟩) ?_
    rotate_left
    · (intro X hX; go_simp <;> with_reducible rfl)
    try simp only [Act.put, List.setIfInBounds_toArray, List.set_cons_zero, List.set_cons_succ, List.getElem_toArray, List.getElem_cons_zero, List.getElem_cons_succ]
    refine wpAnyO_take hrf.out htr.out (i := 2) (v := ?_) rfl (by kernel_rfl) (fun _ _ _ h => h) (Or.inl ⟨by rfl, ?_⟩) ?_
    rotate_left
    · (intro X hX; go_simp <;> with_reducible rfl)
    try simp only [Act.put, List.setIfInBounds_toArray, List.set_cons_zero, List.set_cons_succ, List.getElem_toArray, List.getElem_cons_zero, List.getElem_cons_succ]
    refine wpAnyO_take hrf.out htr.out (i := 3) (v := ?_) rfl (by kernel_rfl) (fun _ _ _ h => h) (Or.inl ⟨by rfl, ?_⟩) ?_
    rotate_left
    · (intro X hX; go_simp <;> with_reducible rfl)
    try simp only [Act.put, List.setIfInBounds_toArray, List.set_cons_zero, List.set_cons_succ, List.getElem_toArray, List.getElem_cons_zero, List.getElem_cons_succ]
    refine wpAnyO_take hrf.out htr.out (i := 4) (v := ?_) rfl (by kernel_rfl) (fun _ _ _ h => h) (Or.inl ⟨by rfl, ?_⟩) ?_
    rotate_left
    · (intro X hX; obtain ⟨f1, f2, f3, f4, f5⟩ := hbox.out X (hQ0.out.trans hX); obtain ⟨a0, a1, a2, a3⟩ := hnode.out i x X hx.out (hQ0.out.trans hX); obtain ⟨b0, b1, b2, b3⟩ := hnodb.out j y X hy.out (hQ0.out.trans hX); go_simp <;> with_reducible rfl)
    try simp only [Act.put, List.setIfInBounds_toArray, List.set_cons_zero, List.set_cons_succ, List.getElem_toArray, List.getElem_cons_zero, List.getElem_cons_succ]
    refine wpAnyO_take hrf.out htr.out (i := 5) (v := ?_) rfl (by kernel_rfl) (fun _ _ _ h => h) (Or.inl ⟨by rfl, ?_⟩) ?_
    rotate_left
    · (intro X hX; obtain ⟨f1, f2, f3, f4, f5⟩ := hbox.out X (hQ0.out.trans hX); obtain ⟨a0, a1, a2, a3⟩ := hnode.out i x X hx.out (hQ0.out.trans hX); obtain ⟨b0, b1, b2, b3⟩ := hnodb.out j y X hy.out (hQ0.out.trans hX); go_simp <;> with_reducible rfl)
    try simp only [Act.put, List.setIfInBounds_toArray, List.set_cons_zero, List.set_cons_succ, List.getElem_toArray, List.getElem_cons_zero, List.getElem_cons_succ]
    refine wpAnyO_take hrf.out htr.out (i := 6) (v := ?_) rfl (by kernel_rfl) (fun _ _ _ h => h) (Or.inl ⟨by rfl, ?_⟩) ?_
    rotate_left
    · (intro X hX; go_simp <;> with_reducible rfl)
    try simp only [Act.put, List.setIfInBounds_toArray, List.set_cons_zero, List.set_cons_succ, List.getElem_toArray, List.getElem_cons_zero, List.getElem_cons_succ]
    refine wpAnyO_take hrf.out htr.out (i := 7) (v := ?_) rfl (by kernel_rfl) (fun _ _ _ h => h) (Or.inl ⟨by rfl, ?_⟩) ?_
    rotate_left
    · (intro X hX; go_simp <;> with_reducible rfl)
    try simp only [Act.put, List.setIfInBounds_toArray, List.set_cons_zero, List.set_cons_succ, List.getElem_toArray, List.getElem_cons_zero, List.getElem_cons_succ]
    refine wpAnyO_take hrf.out htr.out (i := 8) (v := ?_) rfl (by kernel_rfl) (fun _ _ _ h => h) (Or.inl ⟨by rfl, ?_⟩) ?_
    rotate_left
    · (intro X hX; go_simp <;> with_reducible rfl)
    try simp only [Act.put, List.setIfInBounds_toArray, List.set_cons_zero, List.set_cons_succ, List.getElem_toArray, List.getElem_cons_zero, List.getElem_cons_succ]
    refine wpAnyO_take hrf.out htr.out (i := 9) (v := ?_) rfl (by kernel_rfl) (fun _ _ _ h => h) (Or.inl ⟨by rfl, ?_⟩) ?_
    rotate_left
    · (intro X hX; obtain ⟨f1, f2, f3, f4, f5⟩ := hbox.out X (hQ0.out.trans hX); obtain ⟨a0, a1, a2, a3⟩ := hnode.out i x X hx.out (hQ0.out.trans hX); obtain ⟨b0, b1, b2, b3⟩ := hnodb.out j y X hy.out (hQ0.out.trans hX); go_simp <;> with_reducible rfl)
    try simp only [Act.put, List.setIfInBounds_toArray, List.set_cons_zero, List.set_cons_succ, List.getElem_toArray, List.getElem_cons_zero, List.getElem_cons_succ]
    refine wpAnyO_take hrf.out htr.out (i := 11) (v := ?_) rfl (by kernel_rfl) (fun _ _ _ h => h) (Or.inl ⟨by rfl, ?_⟩) ?_
    rotate_left
    · (intro X hX; obtain ⟨f1, f2, f3, f4, f5⟩ := hbox.out X (hQ0.out.trans hX); obtain ⟨a0, a1, a2, a3⟩ := hnode.out i x X hx.out (hQ0.out.trans hX); obtain ⟨b0, b1, b2, b3⟩ := hnodb.out j y X hy.out (hQ0.out.trans hX); go_simp <;> with_reducible rfl)
    try simp only [Act.put, List.setIfInBounds_toArray, List.set_cons_zero, List.set_cons_succ, List.getElem_toArray, List.getElem_cons_zero, List.getElem_cons_succ]
    refine wpAnyO_take hrf.out htr.out (i := 12) (v := ?_) rfl (by kernel_rfl) (fun _ _ _ h => h) (Or.inl ⟨by rfl, ?_⟩) ?_
    rotate_left
    · (intro X hX; go_simp <;> with_reducible rfl)
    try simp only [Act.put, List.setIfInBounds_toArray, List.set_cons_zero, List.set_cons_succ, List.getElem_toArray, List.getElem_cons_zero, List.getElem_cons_succ]
    refine wpAnyO_take hrf.out htr.out (i := 13) (v := ?_) rfl (by kernel_rfl) (fun _ _ _ h => h) (Or.inl ⟨by rfl, ?_⟩) ?_
    rotate_left
    · (intro X hX; go_simp <;> with_reducible rfl)
    try simp only [Act.put, List.setIfInBounds_toArray, List.set_cons_zero, List.set_cons_succ, List.getElem_toArray, List.getElem_cons_zero, List.getElem_cons_succ]
    refine wpAnyO_take hrf.out htr.out (i := 14) (v := ?_) rfl (by kernel_rfl) (fun _ _ _ h => h) (Or.inl ⟨by rfl, ?_⟩) ?_
    rotate_left
    · (intro X hX; go_simp <;> with_reducible rfl)
    try simp only [Act.put, List.setIfInBounds_toArray, List.set_cons_zero, List.set_cons_succ, List.getElem_toArray, List.getElem_cons_zero, List.getElem_cons_succ]
    refine wpAnyO_take hrf.out htr.out (i := 15) (v := ?_) rfl (by kernel_rfl) (fun _ _ _ h => h) (Or.inl ⟨by rfl, ?_⟩) ?_
    rotate_left
    · (intro X hX; obtain ⟨f1, f2, f3, f4, f5⟩ := hbox.out X (hQ0.out.trans hX); obtain ⟨a0, a1, a2, a3⟩ := hnode.out i x X hx.out (hQ0.out.trans hX); obtain ⟨b0, b1, b2, b3⟩ := hnodb.out j y X hy.out (hQ0.out.trans hX); go_simp <;> with_reducible rfl)
    try simp only [Act.put, List.setIfInBounds_toArray, List.set_cons_zero, List.set_cons_succ, List.getElem_toArray, List.getElem_cons_zero, List.getElem_cons_succ]
    refine wpAnyO_take hrf.out htr.out (i := 16) (v := ?_) rfl (by kernel_rfl) (fun _ _ _ h => h) (Or.inl ⟨by rfl, ?_⟩) ?_
    rotate_left
    · (intro X hX; obtain ⟨f1, f2, f3, f4, f5⟩ := hbox.out X (hQ0.out.trans hX); obtain ⟨a0, a1, a2, a3⟩ := hnode.out i x X hx.out (hQ0.out.trans hX); obtain ⟨b0, b1, b2, b3⟩ := hnodb.out j y X hy.out (hQ0.out.trans hX); go_simp <;> with_reducible rfl)
    try simp only [Act.put, List.setIfInBounds_toArray, List.set_cons_zero, List.set_cons_succ, List.getElem_toArray, List.getElem_cons_zero, List.getElem_cons_succ]
    refine wpAnyO_take hrf.out htr.out (i := 17) (v := ?_) rfl (by kernel_rfl) (fun _ _ _ h => h) (Or.inl ⟨by rfl, ?_⟩) ?_
    rotate_left
    · (intro X hX; go_simp <;> with_reducible rfl)
    try simp only [Act.put, List.setIfInBounds_toArray, List.set_cons_zero, List.set_cons_succ, List.getElem_toArray, List.getElem_cons_zero, List.getElem_cons_succ]
    refine wpAnyO_take hrf.out htr.out (i := 18) (v := ?_) rfl (by kernel_rfl) (fun _ _ _ h => h) (Or.inl ⟨by rfl, ?_⟩) ?_
    rotate_left
    · (intro X hX; go_simp <;> with_reducible rfl)
    try simp only [Act.put, List.setIfInBounds_toArray, List.set_cons_zero, List.set_cons_succ, List.getElem_toArray, List.getElem_cons_zero, List.getElem_cons_succ]
    refine wpAnyO_take hrf.out htr.out (i := 19) (v := ?_) rfl (by kernel_rfl) (fun _ _ _ h => h) (Or.inl ⟨by rfl, ?_⟩) ?_
    rotate_left
    · (intro X hX; go_simp <;> with_reducible rfl)
    try simp only [Act.put, List.setIfInBounds_toArray, List.set_cons_zero, List.set_cons_succ, List.getElem_toArray, List.getElem_cons_zero, List.getElem_cons_succ]
    refine wpAnyO_take hrf.out htr.out (i := 20) (v := ?_) rfl (by kernel_rfl) (fun _ _ _ h => h) (Or.inl ⟨by rfl, ?_⟩) ?_
    rotate_left
    · (intro X hX; obtain ⟨f1, f2, f3, f4, f5⟩ := hbox.out X (hQ0.out.trans hX); obtain ⟨a0, a1, a2, a3⟩ := hnode.out i x X hx.out (hQ0.out.trans hX); obtain ⟨b0, b1, b2, b3⟩ := hnodb.out j y X hy.out (hQ0.out.trans hX); go_simp <;> with_reducible rfl)
    try simp only [Act.put, List.setIfInBounds_toArray, List.set_cons_zero, List.set_cons_succ, List.getElem_toArray, List.getElem_cons_zero, List.getElem_cons_succ]
    refine wpAnyO_take hrf.out htr.out (i := 22) (v := ?_) rfl (by kernel_rfl) (fun _ _ _ h => h) (Or.inl ⟨by rfl, ?_⟩) ?_
    rotate_left
    · (intro X hX; obtain ⟨f1, f2, f3, f4, f5⟩ := hbox.out X (hQ0.out.trans hX); obtain ⟨a0, a1, a2, a3⟩ := hnode.out i x X hx.out (hQ0.out.trans hX); obtain ⟨b0, b1, b2, b3⟩ := hnodb.out j y X hy.out (hQ0.out.trans hX); go_simp <;> with_reducible rfl)
    try simp only [Act.put, List.setIfInBounds_toArray, List.set_cons_zero, List.set_cons_succ, List.getElem_toArray, List.getElem_cons_zero, List.getElem_cons_succ]
    refine wpAnyO_take hrf.out htr.out (i := 23) (v := ?_) rfl (by kernel_rfl) (fun _ _ _ h => h) (Or.inl ⟨by rfl, ?_⟩) ?_
    rotate_left
    · (intro X hX; go_simp <;> with_reducible rfl)
    try simp only [Act.put, List.setIfInBounds_toArray, List.set_cons_zero, List.set_cons_succ, List.getElem_toArray, List.getElem_cons_zero, List.getElem_cons_succ]
    refine wpAnyO_take hrf.out htr.out (i := 24) (v := ?_) rfl (by kernel_rfl) (fun _ _ _ h => h) (Or.inl ⟨by rfl, ?_⟩) ?_
    rotate_left
    · (intro X hX; go_simp <;> with_reducible rfl)
    try simp only [Act.put, List.setIfInBounds_toArray, List.set_cons_zero, List.set_cons_succ, List.getElem_toArray, List.getElem_cons_zero, List.getElem_cons_succ]
    refine wpAnyO_take hrf.out htr.out (i := 25) (v := ?_) rfl (by kernel_rfl) (fun _ _ _ h => h) (Or.inl ⟨by rfl, ?_⟩) ?_
    rotate_left
    · (intro X hX; obtain ⟨f1, f2, f3, f4, f5⟩ := hbox.out X (hQ0.out.trans hX); obtain ⟨a0, a1, a2, a3⟩ := hnode.out i x X hx.out (hQ0.out.trans hX); obtain ⟨b0, b1, b2, b3⟩ := hnodb.out j y X hy.out (hQ0.out.trans hX); go_simp <;> with_reducible rfl)
    try simp only [Act.put, List.setIfInBounds_toArray, List.set_cons_zero, List.set_cons_succ, List.getElem_toArray, List.getElem_cons_zero, List.getElem_cons_succ]
    refine wpAnyO_take hrf.out htr.out (i := 26) (v := ?_) rfl (by kernel_rfl) (fun _ _ _ h => h) (Or.inl ⟨by rfl, ?_⟩) ?_
    rotate_left
    · (intro X hX; obtain ⟨f1, f2, f3, f4, f5⟩ := hbox.out X (hQ0.out.trans hX); obtain ⟨a0, a1, a2, a3⟩ := hnode.out i x X hx.out (hQ0.out.trans hX); obtain ⟨b0, b1, b2, b3⟩ := hnodb.out j y X hy.out (hQ0.out.trans hX); go_simp <;> with_reducible rfl)
    try simp only [Act.put, List.setIfInBounds_toArray, List.set_cons_zero, List.set_cons_succ, List.getElem_toArray, List.getElem_cons_zero, List.getElem_cons_succ]
    refine wpAnyO_take hrf.out htr.out (i := 27) (v := ?_) rfl (by kernel_rfl) (fun _ _ _ h => h) (Or.inl ⟨by rfl, ?_⟩) ?_
    rotate_left
    · (intro X hX; go_simp <;> with_reducible rfl)
    try simp only [Act.put, List.setIfInBounds_toArray, List.set_cons_zero, List.set_cons_succ, List.getElem_toArray, List.getElem_cons_zero, List.getElem_cons_succ]
    refine wpAnyO_take hrf.out htr.out (i := 28) (v := ?_) rfl (by kernel_rfl) (fun _ _ _ h => h) (Or.inl ⟨by rfl, ?_⟩) ?_
    rotate_left
    · (intro X hX; go_simp <;> with_reducible rfl)
    try simp only [Act.put, List.setIfInBounds_toArray, List.set_cons_zero, List.set_cons_succ, List.getElem_toArray, List.getElem_cons_zero, List.getElem_cons_succ]
    refine wpAnyO_take hrf.out htr.out (i := 29) (v := ?_) rfl (by kernel_rfl) (fun _ _ _ h => h) (Or.inl ⟨by rfl, ?_⟩) ?_
    rotate_left
    · (intro X hX; obtain ⟨f1, f2, f3, f4, f5⟩ := hbox.out X (hQ0.out.trans hX); obtain ⟨a0, a1, a2, a3⟩ := hnode.out i x X hx.out (hQ0.out.trans hX); obtain ⟨b0, b1, b2, b3⟩ := hnodb.out j y X hy.out (hQ0.out.trans hX); go_simp <;> with_reducible rfl)
    try simp only [Act.put, List.setIfInBounds_toArray, List.set_cons_zero, List.set_cons_succ, List.getElem_toArray, List.getElem_cons_zero, List.getElem_cons_succ]
    refine wpAnyO_one (i := 10) (by kernel_rfl) rfl ?_
    intro K hK
    go_simp
    (go_at_call 24; refine Calls.mono (cmp24 _ _ _) ?_; rintro e Y ⟨rfl, hYX⟩)
    subst hYX
    refine hK _ _ (fun _ => Old.refl _) ?_
    clear hK K
    try simp only [Act.put, List.setIfInBounds_toArray, List.set_cons_zero, List.set_cons_succ, List.getElem_toArray, List.getElem_cons_zero, List.getElem_cons_succ]
    refine wpAnyO_one (i := 21) (by kernel_rfl) rfl ?_
    intro K hK
    go_simp
    (go_at_call 24; refine Calls.mono (cmp24 _ _ _) ?_; rintro e Y ⟨rfl, hYX⟩)
    subst hYX
    refine hK _ _ (fun _ => Old.refl _) ?_
    clear hK K
    try simp only [Act.put, List.setIfInBounds_toArray, List.set_cons_zero, List.set_cons_succ, List.getElem_toArray, List.getElem_cons_zero, List.getElem_cons_succ]
    refine wpAnyO_one (i := 30) (by kernel_rfl) rfl ?_
    intro K hK
    go_simp
    (go_at_call 25; refine Calls.mono (pos25 x y _) ?_; rintro e X1 ⟨rfl, hO1⟩)
    refine hK _ _ (fun _ => hO1) ?_
    clear hK K
    try simp only [Act.put, List.setIfInBounds_toArray, List.set_cons_zero, List.set_cons_succ, List.getElem_toArray, List.getElem_cons_zero, List.getElem_cons_succ]
    have hQ1 : Old w X1 := hQ0.out.trans hO1
    replace hQ1 : Aside _ := hQ1
    clear hO1
    refine wpAnyO_one (i := 31) (by kernel_rfl) rfl ?_
    intro K hK
    go_simp
    refine hK _ _ (fun _ => (Old.refl _).alloc _) ?_
    clear hK K
    try simp only [Act.put, List.setIfInBounds_toArray, List.set_cons_zero, List.set_cons_succ, List.getElem_toArray, List.getElem_cons_zero, List.getElem_cons_succ]
    refine wpAnyO_one (i := 32) (by kernel_rfl) rfl ?_
    intro K hK
    go_simp
    (go_at_call 23; refine Calls.mono (hor.out _) ?_; rintro e Y ⟨rfl, hYX⟩)
    subst hYX
    refine hK _ _ (fun _ => Old.refl _) ?_
    clear hK K
    try simp only [Act.put, List.setIfInBounds_toArray, List.set_cons_zero, List.set_cons_succ, List.getElem_toArray, List.getElem_cons_zero, List.getElem_cons_succ]
    refine wpAnyO_one (i := 33) (by kernel_rfl) rfl ?_
    intro K hK
    go_simp
    refine hK _ _ (fun h => absurd rfl h) ?_
    clear hK K
    try simp only [Act.put, List.setIfInBounds_toArray, List.set_cons_zero, List.set_cons_succ, List.getElem_toArray, List.getElem_cons_zero, List.getElem_cons_succ]
    refine wpAnyO_done (by kernel_rfl) ?_ _
    have hQ2 : Old w (X1.alloc (.cells #[.int .i64 (cmpI x.tok y.tok), .int .i64 (cmpI x.p y.p), .int .i64 (posC x y)] 3)) := hQ1.out.alloc _
    replace hQ2 : Aside _ := hQ2
    generalize X1.alloc (.cells #[.int .i64 (cmpI x.tok y.tok), .int .i64 (cmpI x.p y.p), .int .i64 (posC x y)] 3) = X2 at *
    have hhead : firstNZ [cmpI x.tok y.tok, cmpI x.p y.p, posC x y] = headC x y := rfl
    rw [hhead]
    by_cases hh : headC x y = 0
    case neg =>
      have ho : ordN la lb KA KB (N + 1) i j = headC x y := by rw [hord.out, if_neg hh]
      replace ho : Aside _ := ho
      go_wp2
      go_ret
      exact ⟨by rw [ho.out]; rfl, hQ2.out⟩
    rw [hh]
    have hxy : x = y := (headC_zero x y).1 hh
    have hlen : (KA i).length = (KB j).length := hfit.out (by rw [hxy])
    go_wp2
    refine wp_region_O Old 9 (by kernel_rfl) ?_
    have hQ3 : Old w X2.drew := hQ2.out.trans (Old.refl _).drew
    replace hQ3 : Aside _ := hQ3
    generalize X2.drew = X3 at *
    refine wpAnyO_take hrf.out htr.out (i := 0) (v := ?_) rfl (by kernel_rfl) (fun _ _ _ h => h) (Or.inl ⟨by rfl, ?_⟩) ?_
    rotate_left
    · (intro X hX; obtain ⟨f1, f2, f3, f4, f5⟩ := hbox.out X (hQ3.out.trans hX); go_simp <;> with_reducible rfl)
    try simp only [Act.put, List.setIfInBounds_toArray, List.set_cons_zero, List.set_cons_succ, List.getElem_toArray, List.getElem_cons_zero, List.getElem_cons_succ]
    refine wpAnyO_take hrf.out htr.out (i := 1) (v := ?_) rfl (by kernel_rfl) (fun _ _ _ h => h) (Or.inl ⟨by rfl, ?_⟩) ?_
    rotate_left
    · (intro X hX; go_simp <;> with_reducible rfl)
    try simp only [Act.put, List.setIfInBounds_toArray, List.set_cons_zero, List.set_cons_succ, List.getElem_toArray, List.getElem_cons_zero, List.getElem_cons_succ]
    refine wpAnyO_take hrf.out htr.out (i := 4) (v := ?_) rfl (by kernel_rfl) (fun _ _ _ h => h) (Or.inl ⟨by rfl, ?_⟩) ?_
    rotate_left
    · (intro X hX; obtain ⟨f1, f2, f3, f4, f5⟩ := hbox.out X (hQ3.out.trans hX); go_simp <;> with_reducible rfl)
    try simp only [Act.put, List.setIfInBounds_toArray, List.set_cons_zero, List.set_cons_succ, List.getElem_toArray, List.getElem_cons_zero, List.getElem_cons_succ]
    refine wpAnyO_take hrf.out htr.out (i := 5) (v := ?_) rfl (by kernel_rfl) (fun _ _ _ h => h) (Or.inl ⟨by rfl, ?_⟩) ?_
    rotate_left
    · (intro X hX; go_simp <;> with_reducible rfl)
    try simp only [Act.put, List.setIfInBounds_toArray, List.set_cons_zero, List.set_cons_succ, List.getElem_toArray, List.getElem_cons_zero, List.getElem_cons_succ]
    refine wpAnyO_one (i := 2) (by kernel_rfl) rfl ?_
    intro K hK
    go_simp
    (go_at_call 27; refine Calls.mono (kids27 _ _ _ _ _) ?_; rintro e Y ⟨rfl, hYX⟩)
    subst hYX
    refine hK _ _ (fun _ => ((Old.refl _).alloc _).alloc _) ?_
    clear hK K
    try simp only [Act.put, List.setIfInBounds_toArray, List.set_cons_zero, List.set_cons_succ, List.getElem_toArray, List.getElem_cons_zero, List.getElem_cons_succ]
    have hBi : ((X3.alloc (.cells #[.slice (some ⟨bx, 0, none⟩) la.length la.length] 39)).alloc (.cells #[.int .i64 i] 3)).cell? ⟨X3.heap.size + 1, 0, none⟩ = some (.int .i64 i) := by simp
    have hBe : ((X3.alloc (.cells #[.slice (some ⟨bx, 0, none⟩) la.length la.length] 39)).alloc (.cells #[.int .i64 i] 3)).cell? ⟨X3.heap.size, 0, none⟩ = some (.slice (some ⟨bx, 0, none⟩) la.length la.length) := by simp
    have hW4 : Old w ((X3.alloc (.cells #[.slice (some ⟨bx, 0, none⟩) la.length la.length] 39)).alloc (.cells #[.int .i64 i] 3)) := (hQ3.out.alloc _).alloc _
    replace hW4 : Aside _ := hW4
    have hZW4 : Old X3 ((X3.alloc (.cells #[.slice (some ⟨bx, 0, none⟩) la.length la.length] 39)).alloc (.cells #[.int .i64 i] 3)) := ((Old.refl _).alloc _).alloc _
    replace hZW4 : Aside _ := hZW4
    have hcc := hcolA.out _ _ _ hBi hBe hW4.out
    replace hcc : Aside _ := hcc
    clear hBi hBe
    generalize ((X3.alloc (.cells #[.slice (some ⟨bx, 0, none⟩) la.length la.length] 39)).alloc (.cells #[.int .i64 i] 3)) = W4 at *
    refine wpAnyO_one (i := 3) (by kernel_rfl) rfl ?_
    intro K hK
    go_simp
    (go_at_call 26; refine Calls.mono hcc.out ?_; rintro e X4 ⟨vk, rfl, hO, hrvk⟩)
    refine hK _ _ (fun _ => hO) ?_
    clear hK K
    try simp only [Act.put, List.setIfInBounds_toArray, List.set_cons_zero, List.set_cons_succ, List.getElem_toArray, List.getElem_cons_zero, List.getElem_cons_succ]
    have hX4 : Old w X4 := hW4.out.trans hO
    have hWX4 : Old W4 X4 := hO
    rw [List.length_map] at hrvk
    replace hrvk : Aside _ := hrvk
    replace hX4 : Aside _ := hX4
    clear hcc hO
    refine wpAnyO_one (i := 6) (by kernel_rfl) rfl ?_
    intro K hK
    go_simp
    (go_at_call 27; refine Calls.mono (kids27 _ _ _ _ _) ?_; rintro e Y ⟨rfl, hYX⟩)
    subst hYX
    refine hK _ _ (fun _ => ((Old.refl _).alloc _).alloc _) ?_
    clear hK K
    try simp only [Act.put, List.setIfInBounds_toArray, List.set_cons_zero, List.set_cons_succ, List.getElem_toArray, List.getElem_cons_zero, List.getElem_cons_succ]
    have hBi : ((X4.alloc (.cells #[.slice (some ⟨by', 0, none⟩) lb.length lb.length] 39)).alloc (.cells #[.int .i64 j] 3)).cell? ⟨X4.heap.size + 1, 0, none⟩ = some (.int .i64 j) := by simp
    have hBe : ((X4.alloc (.cells #[.slice (some ⟨by', 0, none⟩) lb.length lb.length] 39)).alloc (.cells #[.int .i64 j] 3)).cell? ⟨X4.heap.size, 0, none⟩ = some (.slice (some ⟨by', 0, none⟩) lb.length lb.length) := by simp
    have hW5 : Old w ((X4.alloc (.cells #[.slice (some ⟨by', 0, none⟩) lb.length lb.length] 39)).alloc (.cells #[.int .i64 j] 3)) := (hX4.out.alloc _).alloc _
    replace hW5 : Aside _ := hW5
    have hZW5 : Old X4 ((X4.alloc (.cells #[.slice (some ⟨by', 0, none⟩) lb.length lb.length] 39)).alloc (.cells #[.int .i64 j] 3)) := ((Old.refl _).alloc _).alloc _
    replace hZW5 : Aside _ := hZW5
    have hcc := hcolB.out _ _ _ hBi hBe hW5.out
    replace hcc : Aside _ := hcc
    clear hBi hBe
    generalize ((X4.alloc (.cells #[.slice (some ⟨by', 0, none⟩) lb.length lb.length] 39)).alloc (.cells #[.int .i64 j] 3)) = W5 at *
    refine wpAnyO_one (i := 7) (by kernel_rfl) rfl ?_
    intro K hK
    go_simp
    (go_at_call 26; refine Calls.mono hcc.out ?_; rintro e X5 ⟨vl, rfl, hO, hrvl⟩)
    refine hK _ _ (fun _ => hO) ?_
    clear hK K
    try simp only [Act.put, List.setIfInBounds_toArray, List.set_cons_zero, List.set_cons_succ, List.getElem_toArray, List.getElem_cons_zero, List.getElem_cons_succ]
    have hX5 : Old w X5 := hW5.out.trans hO
    have hWX5 : Old W5 X5 := hO
    rw [List.length_map] at hrvl
    replace hrvl : Aside _ := hrvl
    replace hX5 : Aside _ := hX5
    clear hcc hO
    refine wpAnyO_take hrf.out htr.out (i := 8) (v := ?_) rfl (by kernel_rfl) (fun _ _ _ h => h) (Or.inl ⟨by rfl, ?_⟩) ?_
    rotate_left
    · (intro X hX; go_simp <;> with_reducible rfl)
    try simp only [Act.put, List.setIfInBounds_toArray, List.set_cons_zero, List.set_cons_succ, List.getElem_toArray, List.getElem_cons_zero, List.getElem_cons_succ]
    refine wpAnyO_one (i := 9) (by kernel_rfl) rfl ?_
    intro K hK
    go_simp
    refine hK _ _ (fun h => absurd rfl h) ?_
    clear hK K
    try simp only [Act.put, List.setIfInBounds_toArray, List.set_cons_zero, List.set_cons_succ, List.getElem_toArray, List.getElem_cons_zero, List.getElem_cons_succ]
    refine wpAnyO_done (by kernel_rfl) ?_ _
    have hkc : ∀ X, Old X5 X → X.ownsRow W4.heap.size 3 1 vk (KA i).length (((KA i).map fun k : Nat => (k : Int)).map (Value.int .i64)) ∧ X.ownsRow W5.heap.size 3 1 vl (KB j).length (((KB j).map fun k : Nat => (k : Int)).map (Value.int .i64)) := fun X hX =>
      ⟨own_old hrvk.out (((hZW5.out.trans hWX5).trans hX)), own_old hrvl.out hX⟩
    obtain ⟨ak, ck, hvk⟩ := own_form hrvk.out
    obtain ⟨al, cl, hvl⟩ := own_form hrvl.out
    subst hvk
    subst hvl
    have hkids : ∀ (q : Nat) (X : World), q < (KA i).length → Old X5 X → ∃ k l zx zy g gl ccap lcap, (KA i)[q]? = some k ∧ (KB j)[q]? = some l ∧ i < k ∧ k < la.length ∧ l < lb.length ∧ la[k]? = some zx ∧ lb[l]? = some zy ∧
        Value.slice ak (KA i).length ck = .slice (some ⟨g, 0, none⟩) (KA i).length ccap ∧ Value.slice al (KB j).length cl = .slice (some ⟨gl, 0, none⟩) (KB j).length lcap ∧ X.cell? ⟨g, q, none⟩ = some (.int .i64 (k : Nat)) ∧ X.cell? ⟨gl, q, none⟩ = some (.int .i64 (l : Nat)) := fun q X hq hX => by
      obtain ⟨k, hk⟩ : ∃ k, (KA i)[q]? = some k := ⟨_, List.getElem?_eq_getElem hq⟩
      obtain ⟨l, hl⟩ : ∃ l, (KB j)[q]? = some l := ⟨_, List.getElem?_eq_getElem (by omega)⟩
      obtain ⟨e1, e2⟩ := hKAb.out k (List.mem_of_getElem? hk)
      obtain ⟨_, e4⟩ := hKBb.out l (List.mem_of_getElem? hl)
      obtain ⟨r1, r2⟩ := hkc X hX
      obtain ⟨g, ccap, q1, q2⟩ := own_intcell (ks := (KA i).map fun k : Nat => (k : Int)) (by rw [List.length_map]; exact r1) (n := q) (k := (k : Int)) (by simp [hk])
      obtain ⟨gl, lcap, q3, q4⟩ := own_intcell (ks := (KB j).map fun k : Nat => (k : Int)) (by rw [List.length_map]; exact r2) (n := q) (k := (l : Int)) (by simp [hl])
      rw [List.length_map] at q1 q3
      exact ⟨k, l, _, _, g, gl, ccap, lcap, hk, hl, e1, e2, e4, List.getElem?_eq_getElem e2, List.getElem?_eq_getElem e4, q1, q3, q2, q4⟩
    have hX5 : Old w X5 := hX5.out
    have hzl : ((KA i).zip (KB j)).length = (KA i).length := by simp [hlen]
    have hz : ∀ q k l, (KA i)[q]? = some k → (KB j)[q]? = some l → ((KA i).zip (KB j))[q]? = some (k, l) := fun q k l h1 h2 => List.getElem?_zip_eq_some.2 ⟨h1, h2⟩
    replace hkids : Aside _ := hkids
    replace hkc : Aside _ := hkc
    replace hX5 : Aside _ := hX5
    replace hxy : Aside _ := hxy
    replace hz : Aside _ := hz
    replace hzl : Aside _ := hzl
    have hlenI : ((KA i).length : Int) = (KB j).length := by omega
    replace hlenI : Aside _ := hlenI
    replace hlen : Aside _ := hlen
    replace hrvk : Aside _ := hrvk
    replace hW4 : Aside _ := hW4
    clear hQ0 hQ1 hQ2 hQ3 hWX5 hWX4 hcolA hcolB hfit hX4 hW5 hZW4 hZW5 hrvk hrvl hor hkc hW4
    go_wp2
    go_loopg [63] (KA i).length (fun gg s wr => ∃ q : Nat, s = .int .i64 q ∧ (KA i).length - q ≤ gg ∧ q ≤ (KA i).length ∧ Aside (∀ b ∈ (((KA i).zip (KB j)).map fun z => posZ la lb z.1 z.2).take q, b = 0) ∧ Aside (Old X5 wr))
    case atStart => exact ⟨0, rfl, by omega, by omega, (fun b hb => by simp at hb), Old.refl _⟩
    case round =>
    obtain ⟨q, rfl, hgq, hql, hzero, hO⟩ := hrel
    by_cases hq : q < (KA i).length
    · have hq' : (q : Int) < (KA i).length := by omega
      have hq0 : (0 : Int) ≤ q := by omega
      have hq'' : (q : Int) < (KB j).length := by have := hlen.out; omega
      obtain ⟨k, l, zx, zy, g, gl, ccap, lcap, hk, hl, hik, hkl, hll, hzx, hzy, e1, e2, c1, c2⟩ := hkids.out q wr hq hO.out
      cases e1
      cases e2
      have hpz : posZ la lb k l = posC zx zy := by simp only [posZ, hzx, hzy]
      have hat : (((KA i).zip (KB j)).map fun z => posZ la lb z.1 z.2)[q]? = some (posC zx zy) := by simp [hz.out q k l hk hl, hpz]
      have k0 : (0 : Int) ≤ k := by omega
      have k1 : (k : Int) < la.length := by omega
      have l0 : (0 : Int) ≤ l := by omega
      have l1 : (l : Int) < lb.length := by omega
      have kk : ∀ X, Old wr X → X.cell? ⟨Ba, 0, none⟩ = some (.slice (some ⟨ba, oa, none⟩) la.length ca) ∧ X.cell? ⟨Bb, 0, none⟩ = some (.slice (some ⟨bb, ob, none⟩) lb.length cb) ∧ X.cell? ⟨g, q, none⟩ = some (.int .i64 (k : Nat)) ∧ X.cell? ⟨gl, q, none⟩ = some (.int .i64 (l : Nat)) ∧
          (X.cell? ⟨ba, oa + k * 4, none⟩ = some (.int .i64 zx.p) ∧ X.cell? ⟨ba, oa + k * 4 + 1, none⟩ = some (.int .i64 zx.tok) ∧ X.cell? ⟨ba, oa + k * 4 + 2, none⟩ = some (.int .i64 zx.fr) ∧ X.cell? ⟨ba, oa + k * 4 + 3, none⟩ = some (.int .i64 zx.to)) ∧
          (X.cell? ⟨bb, ob + l * 4, none⟩ = some (.int .i64 zy.p) ∧ X.cell? ⟨bb, ob + l * 4 + 1, none⟩ = some (.int .i64 zy.tok) ∧ X.cell? ⟨bb, ob + l * 4 + 2, none⟩ = some (.int .i64 zy.fr) ∧ X.cell? ⟨bb, ob + l * 4 + 3, none⟩ = some (.int .i64 zy.to)) := fun X hX => by
        have hw := (hX5.out.trans hO.out).trans hX
        obtain ⟨f1, f2, _, _, _⟩ := hbox.out X hw
        exact ⟨f1, f2, hX.cell_some c1, hX.cell_some c2, hnode.out k zx X hzx hw, hnodb.out l zy X hzy hw⟩
      replace kk : Aside _ := kk
      replace hat : Aside _ := hat
      replace hzx : Aside _ := hzx
      replace hzy : Aside _ := hzy
      clear hk hl hpz
      go_wp2
      refine wp_region_O Old 15 (by kernel_rfl) ?_
      have hQ6 : Old wr wr.drew := (Old.refl _).drew
      replace hQ6 : Aside _ := hQ6
      generalize wr.drew = X6 at *
      refine wpAnyO_take hrf.out htr.out (i := 0) (v := ?_) rfl (by kernel_rfl) (fun _ _ _ h => h) (Or.inl ⟨by rfl, ?_⟩) ?_
      rotate_left
      · (intro X hX; obtain ⟨f1, f2, f3, f4, ⟨a0, a1, a2, a3⟩, b0, b1, b2, b3⟩ := kk.out X (hQ6.out.trans hX); go_simp <;> with_reducible rfl)
      try simp only [Act.put, List.setIfInBounds_toArray, List.set_cons_zero, List.set_cons_succ, List.getElem_toArray, List.getElem_cons_zero, List.getElem_cons_succ]
      refine wpAnyO_take hrf.out htr.out (i := 1) (v := ?_) rfl (by kernel_rfl) (fun _ _ _ h => h) (Or.inl ⟨by rfl, ?_⟩) ?_
      rotate_left
      · (intro X hX; go_simp <;> with_reducible rfl)
      try simp only [Act.put, List.setIfInBounds_toArray, List.set_cons_zero, List.set_cons_succ, List.getElem_toArray, List.getElem_cons_zero, List.getElem_cons_succ]
      refine wpAnyO_take hrf.out htr.out (i := 2) (v := ?_) rfl (by kernel_rfl) (fun _ _ _ h => h) (Or.inl ⟨by rfl, ?_⟩) ?_
      rotate_left
      · (intro X hX; go_simp <;> with_reducible rfl)
      try simp only [Act.put, List.setIfInBounds_toArray, List.set_cons_zero, List.set_cons_succ, List.getElem_toArray, List.getElem_cons_zero, List.getElem_cons_succ]
      refine wpAnyO_take hrf.out htr.out (i := 3) (v := ?_) rfl (by kernel_rfl) (fun _ _ _ h => h) (Or.inl ⟨by rfl, ?_⟩) ?_
      rotate_left
      · (intro X hX; go_simp <;> with_reducible rfl)
      try simp only [Act.put, List.setIfInBounds_toArray, List.set_cons_zero, List.set_cons_succ, List.getElem_toArray, List.getElem_cons_zero, List.getElem_cons_succ]
      refine wpAnyO_take hrf.out htr.out (i := 4) (v := ?_) rfl (by kernel_rfl) (fun _ _ _ h => h) (Or.inl ⟨by rfl, ?_⟩) ?_
      rotate_left
      · (intro X hX; obtain ⟨f1, f2, f3, f4, ⟨a0, a1, a2, a3⟩, b0, b1, b2, b3⟩ := kk.out X (hQ6.out.trans hX); go_simp <;> with_reducible rfl)
      try simp only [Act.put, List.setIfInBounds_toArray, List.set_cons_zero, List.set_cons_succ, List.getElem_toArray, List.getElem_cons_zero, List.getElem_cons_succ]
      refine wpAnyO_take hrf.out htr.out (i := 5) (v := ?_) rfl (by kernel_rfl) (fun _ _ _ h => h) (Or.inl ⟨by rfl, ?_⟩) ?_
      rotate_left
      · (intro X hX; go_simp <;> with_reducible rfl)
      try simp only [Act.put, List.setIfInBounds_toArray, List.set_cons_zero, List.set_cons_succ, List.getElem_toArray, List.getElem_cons_zero, List.getElem_cons_succ]
      refine wpAnyO_take hrf.out htr.out (i := 6) (v := ?_) rfl (by kernel_rfl) (fun _ _ _ h => h) (Or.inl ⟨by rfl, ?_⟩) ?_
      rotate_left
      · (intro X hX; obtain ⟨f1, f2, f3, f4, ⟨a0, a1, a2, a3⟩, b0, b1, b2, b3⟩ := kk.out X (hQ6.out.trans hX); go_simp <;> with_reducible rfl)
      try simp only [Act.put, List.setIfInBounds_toArray, List.set_cons_zero, List.set_cons_succ, List.getElem_toArray, List.getElem_cons_zero, List.getElem_cons_succ]
      refine wpAnyO_take hrf.out htr.out (i := 7) (v := ?_) rfl (by kernel_rfl) (fun _ _ _ h => h) (Or.inl ⟨by rfl, ?_⟩) ?_
      rotate_left
      · (intro X hX; obtain ⟨f1, f2, f3, f4, ⟨a0, a1, a2, a3⟩, b0, b1, b2, b3⟩ := kk.out X (hQ6.out.trans hX); go_simp <;> with_reducible rfl)
      try simp only [Act.put, List.setIfInBounds_toArray, List.set_cons_zero, List.set_cons_succ, List.getElem_toArray, List.getElem_cons_zero, List.getElem_cons_succ]
      refine wpAnyO_take hrf.out htr.out (i := 8) (v := ?_) rfl (by kernel_rfl) (fun _ _ _ h => h) (Or.inl ⟨by rfl, ?_⟩) ?_
      rotate_left
      · (intro X hX; go_simp <;> with_reducible rfl)
      try simp only [Act.put, List.setIfInBounds_toArray, List.set_cons_zero, List.set_cons_succ, List.getElem_toArray, List.getElem_cons_zero, List.getElem_cons_succ]
      refine wpAnyO_take hrf.out htr.out (i := 9) (v := ?_) rfl (by kernel_rfl) (fun _ _ _ h => h) (Or.inl ⟨by rfl, ?_⟩) ?_
      rotate_left
      · (intro X hX; go_simp <;> with_reducible rfl)
      try simp only [Act.put, List.setIfInBounds_toArray, List.set_cons_zero, List.set_cons_succ, List.getElem_toArray, List.getElem_cons_zero, List.getElem_cons_succ]
      refine wpAnyO_take hrf.out htr.out (i := 10) (v := ?_) rfl (by kernel_rfl) (fun _ _ _ h => h) (Or.inl ⟨by rfl, ?_⟩) ?_
      rotate_left
      · (intro X hX; go_simp <;> with_reducible rfl)
      try simp only [Act.put, List.setIfInBounds_toArray, List.set_cons_zero, List.set_cons_succ, List.getElem_toArray, List.getElem_cons_zero, List.getElem_cons_succ]
      refine wpAnyO_take hrf.out htr.out (i := 11) (v := ?_) rfl (by kernel_rfl) (fun _ _ _ h => h) (Or.inl ⟨by rfl, ?_⟩) ?_
      rotate_left
      · (intro X hX; obtain ⟨f1, f2, f3, f4, ⟨a0, a1, a2, a3⟩, b0, b1, b2, b3⟩ := kk.out X (hQ6.out.trans hX); go_simp <;> with_reducible rfl)
      try simp only [Act.put, List.setIfInBounds_toArray, List.set_cons_zero, List.set_cons_succ, List.getElem_toArray, List.getElem_cons_zero, List.getElem_cons_succ]
      refine wpAnyO_take hrf.out htr.out (i := 12) (v := ?_) rfl (by kernel_rfl) (fun _ _ _ h => h) (Or.inl ⟨by rfl, ?_⟩) ?_
      rotate_left
      · (intro X hX; go_simp <;> with_reducible rfl)
      try simp only [Act.put, List.setIfInBounds_toArray, List.set_cons_zero, List.set_cons_succ, List.getElem_toArray, List.getElem_cons_zero, List.getElem_cons_succ]
      refine wpAnyO_take hrf.out htr.out (i := 13) (v := ?_) rfl (by kernel_rfl) (fun _ _ _ h => h) (Or.inl ⟨by rfl, ?_⟩) ?_
      rotate_left
      · (intro X hX; obtain ⟨f1, f2, f3, f4, ⟨a0, a1, a2, a3⟩, b0, b1, b2, b3⟩ := kk.out X (hQ6.out.trans hX); go_simp <;> with_reducible rfl)
      try simp only [Act.put, List.setIfInBounds_toArray, List.set_cons_zero, List.set_cons_succ, List.getElem_toArray, List.getElem_cons_zero, List.getElem_cons_succ]
      refine wpAnyO_one (i := 14) (by kernel_rfl) rfl ?_
      intro K hK
      go_simp
      (go_at_call 25; refine Calls.mono (pos25 zx zy _) ?_; rintro e X7 ⟨rfl, hO7⟩)
      refine hK _ _ (fun _ => hO7) ?_
      clear hK K
      try simp only [Act.put, List.setIfInBounds_toArray, List.set_cons_zero, List.set_cons_succ, List.getElem_toArray, List.getElem_cons_zero, List.getElem_cons_succ]
      refine wpAnyO_one (i := 15) (by kernel_rfl) rfl ?_
      intro K hK
      go_simp
      refine hK _ _ (fun h => absurd rfl h) ?_
      clear hK K
      try simp only [Act.put, List.setIfInBounds_toArray, List.set_cons_zero, List.set_cons_succ, List.getElem_toArray, List.getElem_cons_zero, List.getElem_cons_succ]
      refine wpAnyO_done (by kernel_rfl) ?_ _
      have hQ7 : Old X5 X7 := (hO.out.trans hQ6.out).trans hO7
      replace hQ7 : Aside _ := hQ7
      clear hO7 kk
      by_cases hd : posC zx zy = 0
      · have hz2 : ∀ b ∈ (((KA i).zip (KB j)).map fun z => posZ la lb z.1 z.2).take (q + 1), b = 0 := fun b hb => by
          rw [List.take_add_one, hat.out] at hb
          simp only [List.mem_append, Option.toList_some, List.mem_singleton] at hb
          rcases hb with hb | rfl
          · exact hzero.out b hb
          · exact hd
        replace hz2 : Aside _ := hz2
        rw [hd]
        go_wp2
        go_roundg ((KA i).length - (q + 1))
        case measure => omega
        case rel => exact ⟨q + 1, by go_num, by omega, by omega, hz2, hQ7⟩
      · have hr : ordN la lb KA KB (N + 1) i j = posC zx zy := by
          have h1 : firstNZ (((KA i).zip (KB j)).map fun z => posZ la lb z.1 z.2) = posC zx zy := firstNZ_at hzero.out hat.out hd
          rw [hord.out, if_pos hh, if_neg (by rw [h1]; exact hd), h1]
        replace hr : Aside _ := hr
        go_wp2
        go_ret
        exact ⟨by rw [hr.out]; rfl, hX5.out.trans hQ7.out⟩
    · have hqe : q = (KA i).length := by omega
      subst hqe
      have hpos0 : firstNZ (((KA i).zip (KB j)).map fun z => posZ la lb z.1 z.2) = 0 := firstNZ_zero (by
        have := hzero.out
        rwa [List.take_of_length_le (by simp [hzl.out])] at this)
      have hord2 : ordN la lb KA KB (N + 1) i j = firstNZ (((KA i).zip (KB j)).map fun z => ordN la lb KA KB N z.1 z.2) := by rw [hord.out, if_pos hh, if_pos hpos0]
      replace hord2 : Aside _ := hord2
      replace hpos0 : Aside _ := hpos0
      clear hzero
      go_wp2
      go_loopg [87] (KA i).length (fun gg s wr => ∃ q : Nat, s = .int .i64 q ∧ (KA i).length - q ≤ gg ∧ q ≤ (KA i).length ∧ Aside (∀ b ∈ (((KA i).zip (KB j)).map fun z => ordN la lb KA KB N z.1 z.2).take q, b = 0) ∧ Aside (Old X5 wr))
      case atStart => exact ⟨0, rfl, by omega, by omega, (fun b hb => by simp at hb), hO⟩
      case round =>
      obtain ⟨q, rfl, hgq, hql, hzero, hO⟩ := hrel
      by_cases hq : q < (KA i).length
      · have hq' : (q : Int) < (KA i).length := by omega
        have hq0 : (0 : Int) ≤ q := by omega
        have hq'' : (q : Int) < (KB j).length := by have := hlen.out; omega
        obtain ⟨k, l, zx, zy, g, gl, ccap, lcap, hk, hl, hik, hkl, hll, hzx, hzy, e1, e2, c1, c2⟩ := hkids.out q wr hq hO.out
        cases e1
        cases e2
        have hat : (((KA i).zip (KB j)).map fun z => ordN la lb KA KB N z.1 z.2)[q]? = some (ordN la lb KA KB N k l) := by simp [hz.out q k l hk hl]
        have kk : ∀ X, Old wr X → X.cell? ⟨Bo, 0, none⟩ = some (.func (.func 22) #[] #[.pointer (some ⟨Ba, 0, none⟩), .pointer (some ⟨Bb, 0, none⟩), .pointer (some ⟨Bx, 0, none⟩), .pointer (some ⟨By, 0, none⟩), .pointer (some ⟨Bo, 0, none⟩)]) ∧ X.cell? ⟨g, q, none⟩ = some (.int .i64 (k : Nat)) ∧ X.cell? ⟨gl, q, none⟩ = some (.int .i64 (l : Nat)) := fun X hX =>
          ⟨(hbox.out X ((hX5.out.trans hO.out).trans hX)).2.2.2.2, hX.cell_some c1, hX.cell_some c2⟩
        have hcall := fun (W : World) (hW : Old wr W) => hrec.out k l W hik hkl hll ((hX5.out.trans hO.out).trans hW)
        replace hcall : Aside _ := hcall
        replace kk : Aside _ := kk
        replace hat : Aside _ := hat
        clear hk hl hzx hzy
        go_wp2
        refine wp_region_O Old 10 (by kernel_rfl) ?_
        have hQ8 : Old wr wr.drew := (Old.refl _).drew
        replace hQ8 : Aside _ := hQ8
        generalize wr.drew = X8 at *
        refine wpAnyO_take hrf.out htr.out (i := 0) (v := ?_) rfl (by kernel_rfl) (fun _ _ _ h => h) (Or.inl ⟨by rfl, ?_⟩) ?_
        rotate_left
        · (intro X hX; obtain ⟨f1, f2, f3⟩ := kk.out X (hQ8.out.trans hX); go_simp <;> with_reducible rfl)
        try simp only [Act.put, List.setIfInBounds_toArray, List.set_cons_zero, List.set_cons_succ, List.getElem_toArray, List.getElem_cons_zero, List.getElem_cons_succ]
        refine wpAnyO_take hrf.out htr.out (i := 1) (v := ?_) rfl (by kernel_rfl) (fun _ _ _ h => h) (Or.inl ⟨by rfl, ?_⟩) ?_
        rotate_left
        · (intro X hX; go_simp <;> with_reducible rfl)
        try simp only [Act.put, List.setIfInBounds_toArray, List.set_cons_zero, List.set_cons_succ, List.getElem_toArray, List.getElem_cons_zero, List.getElem_cons_succ]
        refine wpAnyO_take hrf.out htr.out (i := 2) (v := ?_) rfl (by kernel_rfl) (fun _ _ _ h => h) (Or.inl ⟨by rfl, ?_⟩) ?_
        rotate_left
        · (intro X hX; go_simp <;> with_reducible rfl)
        try simp only [Act.put, List.setIfInBounds_toArray, List.set_cons_zero, List.set_cons_succ, List.getElem_toArray, List.getElem_cons_zero, List.getElem_cons_succ]
        refine wpAnyO_take hrf.out htr.out (i := 3) (v := ?_) rfl (by kernel_rfl) (fun _ _ _ h => h) (Or.inl ⟨by rfl, ?_⟩) ?_
        rotate_left
        · (intro X hX; go_simp <;> with_reducible rfl)
        try simp only [Act.put, List.setIfInBounds_toArray, List.set_cons_zero, List.set_cons_succ, List.getElem_toArray, List.getElem_cons_zero, List.getElem_cons_succ]
        refine wpAnyO_take hrf.out htr.out (i := 4) (v := ?_) rfl (by kernel_rfl) (fun _ _ _ h => h) (Or.inl ⟨by rfl, ?_⟩) ?_
        rotate_left
        · (intro X hX; obtain ⟨f1, f2, f3⟩ := kk.out X (hQ8.out.trans hX); go_simp <;> with_reducible rfl)
        try simp only [Act.put, List.setIfInBounds_toArray, List.set_cons_zero, List.set_cons_succ, List.getElem_toArray, List.getElem_cons_zero, List.getElem_cons_succ]
        refine wpAnyO_take hrf.out htr.out (i := 5) (v := ?_) rfl (by kernel_rfl) (fun _ _ _ h => h) (Or.inl ⟨by rfl, ?_⟩) ?_
        rotate_left
        · (intro X hX; go_simp <;> with_reducible rfl)
        try simp only [Act.put, List.setIfInBounds_toArray, List.set_cons_zero, List.set_cons_succ, List.getElem_toArray, List.getElem_cons_zero, List.getElem_cons_succ]
        refine wpAnyO_take hrf.out htr.out (i := 6) (v := ?_) rfl (by kernel_rfl) (fun _ _ _ h => h) (Or.inl ⟨by rfl, ?_⟩) ?_
        rotate_left
        · (intro X hX; go_simp <;> with_reducible rfl)
        try simp only [Act.put, List.setIfInBounds_toArray, List.set_cons_zero, List.set_cons_succ, List.getElem_toArray, List.getElem_cons_zero, List.getElem_cons_succ]
        refine wpAnyO_take hrf.out htr.out (i := 7) (v := ?_) rfl (by kernel_rfl) (fun _ _ _ h => h) (Or.inl ⟨by rfl, ?_⟩) ?_
        rotate_left
        · (intro X hX; go_simp <;> with_reducible rfl)
        try simp only [Act.put, List.setIfInBounds_toArray, List.set_cons_zero, List.set_cons_succ, List.getElem_toArray, List.getElem_cons_zero, List.getElem_cons_succ]
        refine wpAnyO_take hrf.out htr.out (i := 8) (v := ?_) rfl (by kernel_rfl) (fun _ _ _ h => h) (Or.inl ⟨by rfl, ?_⟩) ?_
        rotate_left
        · (intro X hX; obtain ⟨f1, f2, f3⟩ := kk.out X (hQ8.out.trans hX); go_simp <;> with_reducible rfl)
        try simp only [Act.put, List.setIfInBounds_toArray, List.set_cons_zero, List.set_cons_succ, List.getElem_toArray, List.getElem_cons_zero, List.getElem_cons_succ]
        refine wpAnyO_one (i := 9) (by kernel_rfl) rfl ?_
        intro K hK
        go_simp
        (go_at_call 22; refine Calls.mono (hcall.out _ hQ8.out) ?_; rintro e X9 ⟨rfl, hO9⟩)
        refine hK _ _ (fun _ => hO9) ?_
        clear hK K
        try simp only [Act.put, List.setIfInBounds_toArray, List.set_cons_zero, List.set_cons_succ, List.getElem_toArray, List.getElem_cons_zero, List.getElem_cons_succ]
        refine wpAnyO_one (i := 10) (by kernel_rfl) rfl ?_
        intro K hK
        go_simp
        refine hK _ _ (fun h => absurd rfl h) ?_
        clear hK K
        try simp only [Act.put, List.setIfInBounds_toArray, List.set_cons_zero, List.set_cons_succ, List.getElem_toArray, List.getElem_cons_zero, List.getElem_cons_succ]
        refine wpAnyO_done (by kernel_rfl) ?_ _
        have hQ9 : Old X5 X9 := (hO.out.trans hQ8.out).trans hO9
        replace hQ9 : Aside _ := hQ9
        clear hO9 kk hcall
        generalize hdv : ordN la lb KA KB N k l = dv at *
        by_cases hd : dv = 0
        · have hz2 : ∀ b ∈ (((KA i).zip (KB j)).map fun z => ordN la lb KA KB N z.1 z.2).take (q + 1), b = 0 := fun b hb => by
            rw [List.take_add_one, hat.out] at hb
            simp only [List.mem_append, Option.toList_some, List.mem_singleton] at hb
            rcases hb with hb | rfl
            · exact hzero.out b hb
            · exact hd
          replace hz2 : Aside _ := hz2
          rw [hd]
          go_wp2
          go_roundg ((KA i).length - (q + 1))
          case measure => omega
          case rel => exact ⟨q + 1, by go_num, by omega, by omega, hz2, hQ9⟩
        · have hr : ordN la lb KA KB (N + 1) i j = dv := by
            rw [hord2.out]
            exact firstNZ_at hzero.out hat.out hd
          replace hr : Aside _ := hr
          replace hdv : Aside _ := hdv
          go_wp2
          go_ret
          exact ⟨by rw [hr.out]; rfl, hX5.out.trans hQ9.out⟩
      · have hqe : q = (KA i).length := by omega
        subst hqe
        have hr : ordN la lb KA KB (N + 1) i j = 0 := by
          rw [hord2.out]
          exact firstNZ_zero (by
            have := hzero.out
            rwa [List.take_of_length_le (by simp [hzl.out])] at this)
        replace hr : Aside _ := hr
        clear hzero
        go_wp2
        go_ret
        exact ⟨by rw [hr.out]; rfl, hX5.out.trans hO.out⟩
end Go.Pri
end

/-
  PriorityOperators: parts of its proof (Co5).
-/
import Derived.Laws.EntriesVeiled
import Derived.Test.YtfadmmecedicjaaGreatDoorK16
import Derived.Test.YtfadmmecedicjaaGreatDoorK25
import Derived.Test.YtfadmmecedicjaaGreatDoorK27
set_option linter.unusedVariables false
set_option linter.unusedSimpArgs false

section
/-
  Compare: walked.
-/
namespace Go.Pri
open Go Go.Abs Go.Proofs Go.RowKit Go.Lib
set_option maxRecDepth 100000
set_option maxHeartbeats 8000000

/-- What lies below a bound stays. -/
def RTo (K : Nat) (a b : World) : Prop := K ≤ a.heap.size → (K ≤ b.heap.size ∧ b.os = a.os ∧ b.output = a.output ∧ a.heap.size ≤ b.heap.size ∧ ∀ k, k < K → b.heap[k]? = a.heap[k]?)
theorem RTo.refl (K : Nat) (a : World) : RTo K a a := fun h => ⟨h, rfl, rfl, Nat.le_refl _, fun _ _ => rfl⟩
theorem RTo.trans {K : Nat} {a b c : World} (h : RTo K a b) (k : RTo K b c) : RTo K a c := fun ha => by
  obtain ⟨h1, h2, h3, h4, h5⟩ := h ha
  obtain ⟨k1, k2, k3, k4, k5⟩ := k h1
  exact ⟨k1, k2.trans h2, k3.trans h3, Nat.le_trans h4 k4, fun i hi => (k5 i hi).trans (h5 i hi)⟩
theorem rto {K : Nat} {a b : World} (h : Old a b) : RTo K a b := fun ha => ⟨Nat.le_trans ha h.size, h.os, h.output, h.size, fun k hk => h.heap k (Nat.lt_of_lt_of_le hk ha)⟩
theorem rto_set {K : Nat} {a : World} {p : Addr} (hp : K ≤ p.block) (v : Value) : RTo K a (a.setCell p v) := fun ha =>
  ⟨by simpa [World.setCell] using ha, rfl, rfl, by simp [World.setCell], fun k hk => heap_setCell_other a p k v (by omega)⟩

theorem frozen_at' {w : World} {b t : Nat} {cs : Array Value} (h : w.heap[b]? = some (.cells cs t (0, 0))) (i : Nat) : w.frozen? ⟨b, i, none⟩ = false := by
  simp [World.frozen?, h]
theorem nums_ne {X : World} {b p : Nat} {out : List Int} (hn : NumsAt X b out) (h0 : 0 < out.length) (hp : X.cell? ⟨p, 0, none⟩ = some (.slice none 0 0)) : b ≠ p := by
  intro e
  subst e
  have := hn 0 (out[0]'h0) (List.getElem?_eq_getElem _)
  rw [hp] at this
  cases this
theorem nums_set {X : World} {b p : Nat} {out : List Int} {v : Value} (hn : NumsAt X b out) (h : b ≠ p) : NumsAt (X.setCell ⟨p, 0, none⟩ v) b out := fun j v' hj => by
  rw [World.cell?_setCell_other _ _ _ _ (fun e => h (by cases e; rfl))]
  exact hn j v' hj
theorem wpAnyO_three {P : Program} {ops : Array Oper} {Q : Exit → Act → World → Prop} {md : Region.Mode} {R : World → World → Prop} {i j k last : Nat} {o o' o'' : Oper} {fuel : Nat} {listed : Array Bool} {a : Act} {w : World} (hr : Region.ready md ops listed = [i, j, k]) (ho : ops[i]? = some o) (ho' : ops[j]? = some o') (ho'' : ops[k]? = some o'')
    (h : ∀ K' : Act → World → Prop, (∀ a' w', (i ≠ last → R w w') → wpAnyO P md ops Q R last fuel (listed.setIfInBounds i true) a' w' → K' a' w') → if Region.wanted o (yielded ops a.tmps) = true then Oper.wp P o a w K' Q else K' (a.put o.dst undef) w)
    (h' : ∀ K' : Act → World → Prop, (∀ a' w', (j ≠ last → R w w') → wpAnyO P md ops Q R last fuel (listed.setIfInBounds j true) a' w' → K' a' w') → if Region.wanted o' (yielded ops a.tmps) = true then Oper.wp P o' a w K' Q else K' (a.put o'.dst undef) w)
    (h'' : ∀ K' : Act → World → Prop, (∀ a' w', (k ≠ last → R w w') → wpAnyO P md ops Q R last fuel (listed.setIfInBounds k true) a' w' → K' a' w') → if Region.wanted o'' (yielded ops a.tmps) = true then Oper.wp P o'' a w K' Q else K' (a.put o''.dst undef) w) :
    wpAnyO P md ops Q R last (fuel + 1) listed a w :=
  ⟨fun h0 => (by rw [hr] at h0; cases h0), fun q hq => by
    rw [hr] at hq
    rcases List.mem_cons.1 hq with rfl | hq
    · exact wpOp_stepO ho h
    · rcases List.mem_cons.1 hq with rfl | hq
      · exact wpOp_stepO ho' h'
      · rw [List.mem_singleton.1 hq]; exact wpOp_stepO ho'' h''⟩

theorem compare9 (a0 : Option Addr) (cap0 : Nat) (c3 c4 c5 c6 c7 c8 tva tvb : Value) (nt : Nat) (ps : List Prod') (la lb : List Nd) (outa outb : List Int) (KA KB : Nat → List Nat) (w : World) (hP : OrdP la lb outa outb KA KB)
    (hv : Valid w (.agg #[.slice a0 2 cap0, .slice none 0 0, .int .i64 1, c3, c4, c5, c6, c7, c8])) (hg : GramAt w c3 c5 nt ps) (hsa : Shaped ps nt la outa) (hsb : Shaped ps nt lb outb) (hta : SliceAt 4 w tva (la.map encN)) (htb : SliceAt 4 w tvb (lb.map encN)) :
    Calls Tryz.prog 9 #[.agg #[.slice a0 2 cap0, .slice none 0 0, .int .i64 1, c3, c4, c5, c6, c7, c8], tva, tvb] w fun e w' => e = .returned (.int .i64 (ordN la lb KA KB la.length 0 0)) ∧ Old w w' := by
  obtain ⟨a3, cap3, rfl⟩ : ∃ a3 cap3, c3 = .slice a3 nt cap3 := by
    obtain ⟨ts, h1, h2, _⟩ := hg.toks
    obtain ⟨a, c, h⟩ := h1.form
    exact ⟨a, c, by rw [h, h2]⟩
  obtain ⟨aa, ca, hva⟩ := hta.form
  obtain ⟨ab, cb, hvb⟩ := htb.form
  rw [List.length_map] at hva hvb
  subst hva
  subst hvb
  have hO3 : Old w (((w.alloc (.cells #[.slice a0 2 cap0, .slice none 0 0, .int .i64 1, .slice a3 nt cap3, c4, c5, c6, c7, c8] 37)).alloc (.cells #[.slice aa la.length ca] 42)).alloc (.cells #[.slice ab lb.length cb] 42)) := (((Old.refl w).alloc _).alloc _).alloc _
  have hw0 := (((Old.refl _).alloc (.cells #[.slice aa la.length ca] 42)).alloc (.cells #[.slice ab lb.length cb] 42)).heap w.heap.size (by simp) |>.trans (World.alloc_heap_new w (.cells #[.slice a0 2 cap0, .slice none 0 0, .int .i64 1, .slice a3 nt cap3, c4, c5, c6, c7, c8] 37))
  have hw1 := World.alloc_heap_new (w.alloc (.cells #[.slice a0 2 cap0, .slice none 0 0, .int .i64 1, .slice a3 nt cap3, c4, c5, c6, c7, c8] 37)) (.cells #[.slice aa la.length ca] 42)
  rw [World.size_alloc] at hw1
  have hw1 := ((Old.refl _).alloc (.cells #[.slice ab lb.length cb] 42)).heap (w.heap.size + 1) (by simp) |>.trans hw1
  have hw2 := World.alloc_heap_new ((w.alloc (.cells #[.slice a0 2 cap0, .slice none 0 0, .int .i64 1, .slice a3 nt cap3, c4, c5, c6, c7, c8] 37)).alloc (.cells #[.slice aa la.length ca] 42)) (.cells #[.slice ab lb.length cb] 42)
  rw [World.size_alloc, World.size_alloc] at hw2
  have hbx : ∀ X, Old (((w.alloc (.cells #[.slice a0 2 cap0, .slice none 0 0, .int .i64 1, .slice a3 nt cap3, c4, c5, c6, c7, c8] 37)).alloc (.cells #[.slice aa la.length ca] 42)).alloc (.cells #[.slice ab lb.length cb] 42)) X →
      (∀ (i : Nat) v, (#[.slice a0 2 cap0, .slice none 0 0, .int .i64 1, .slice a3 nt cap3, c4, c5, c6, c7, c8] : Array Value)[i]? = some v → X.cell? ⟨w.heap.size, i, none⟩ = some v) ∧ X.cell? ⟨w.heap.size + 1, 0, none⟩ = some (.slice aa la.length ca) ∧ X.cell? ⟨w.heap.size + 1 + 1, 0, none⟩ = some (.slice ab lb.length cb) := fun X h =>
    ⟨fun i v hi => cells_at' ((h.heap w.heap.size (by simp only [World.size_alloc]; omega)).trans hw0) hi, cells_at' ((h.heap (w.heap.size + 1) (by simp only [World.size_alloc]; omega)).trans hw1) rfl, cells_at' ((h.heap (w.heap.size + 1 + 1) (by simp only [World.size_alloc]; omega)).trans hw2) rfl⟩
  have hfact := hv.facts _ hO3
  have hpr := hg.prodsAt
  have hea := fun (X : World) (hX : Old w X) => treeEnds21 (.slice a0 2 cap0) (.slice none 0 0) (.int .i64 1) (.slice a3 nt cap3) c4 c5 c6 c7 c8 (.slice aa la.length ca) a3 nt cap3 rfl ps la outa X (hta.old hX) (hpr.old hX) hsa
  have heb := fun (X : World) (hX : Old w X) => treeEnds21 (.slice a0 2 cap0) (.slice none 0 0) (.int .i64 1) (.slice a3 nt cap3) c4 c5 c6 c7 c8 (.slice ab lb.length cb) a3 nt cap3 rfl ps lb outb X (htb.old hX) (hpr.old hX) hsb
  have hla := hsa.pos
  have hlb := hsb.pos
  have hca : 0 < outa.length := by have := hP.lena; omega
  have hcb : 0 < outb.length := by have := hP.lenb; omega
  have hord := fun (Bo p7 p8 b1 b2 : Nat) (W : World) (hM : OrdM W (w.heap.size + 1) (w.heap.size + 1 + 1) p7 p8 Bo b1 b2 (.slice aa la.length ca) (.slice ab lb.length cb) la lb outa outb) => order22 (w.heap.size + 1) (w.heap.size + 1 + 1) p7 p8 Bo b1 b2 _ _ la lb outa outb KA KB hP la.length 0 0 W (by omega) hla hlb hM
  -- the closure, from where the ends lie
  have hlast : ∀ (X W' : World) (p7 p8 b1 b2 : Nat), Old w X → w.heap.size + 3 ≤ X.heap.size → (∀ Y, Old X Y → Y.cell? ⟨w.heap.size + 1, 0, none⟩ = some (.slice aa la.length ca) ∧ Y.cell? ⟨w.heap.size + 1 + 1, 0, none⟩ = some (.slice ab lb.length cb)) → NumsAt X b1 outa → NumsAt X b2 outb →
      X.cell? ⟨p7, 0, none⟩ = some (.slice (some ⟨b1, 0, none⟩) la.length la.length) → X.cell? ⟨p8, 0, none⟩ = some (.slice (some ⟨b2, 0, none⟩) lb.length lb.length) →
      OrdM (X.alloc (.cells #[.func (.func 22) #[] #[.pointer (some ⟨w.heap.size + 1, 0, none⟩), .pointer (some ⟨w.heap.size + 1 + 1, 0, none⟩), .pointer (some ⟨p7, 0, none⟩), .pointer (some ⟨p8, 0, none⟩), .pointer (some ⟨X.heap.size, 0, none⟩)]] 82)) (w.heap.size + 1) (w.heap.size + 1 + 1) p7 p8 X.heap.size b1 b2 (.slice aa la.length ca) (.slice ab lb.length cb) la lb outa outb := fun X W' p7 p8 b1 b2 hX _ hb n1 n2 c7 c8 => by
    have hA := (Old.refl X).alloc (.cells #[.func (.func 22) #[] #[.pointer (some ⟨w.heap.size + 1, 0, none⟩), .pointer (some ⟨w.heap.size + 1 + 1, 0, none⟩), .pointer (some ⟨p7, 0, none⟩), .pointer (some ⟨p8, 0, none⟩), .pointer (some ⟨X.heap.size, 0, none⟩)]] 82)
    exact ⟨(hb _ hA).1, (hb _ hA).2, hA.cell_some c7, hA.cell_some c8, cells_at' (World.alloc_heap_new X _) (i := 0) rfl, hta.old (hX.trans hA), htb.old (hX.trans hA), n1.old hA, n2.old hA⟩
  have hsz3 : (((w.alloc (.cells #[.slice a0 2 cap0, .slice none 0 0, .int .i64 1, .slice a3 nt cap3, c4, c5, c6, c7, c8] 37)).alloc (.cells #[.slice aa la.length ca] 42)).alloc (.cells #[.slice ab lb.length cb] 42)).heap.size = w.heap.size + 3 := by simp
  clear hw0 hw1 hw2
  replace hfact : Aside _ := hfact
  replace hea : Aside _ := hea
  replace heb : Aside _ := heb
  replace hord : Aside _ := hord
  replace hlast : Aside _ := hlast
  replace hO3 : Aside _ := hO3
  obtain ⟨hb0, hb1, hb2⟩ := hbx _ (Old.refl _)
  have g0 := hb0 0 _ rfl
  have g1 := hb0 1 _ rfl
  have g2 := hb0 2 _ rfl
  have g3 := hb0 3 _ rfl
  have g4 := hb0 4 _ rfl
  have g5 := hb0 5 _ rfl
  have g6 := hb0 6 _ rfl
  have g7 := hb0 7 _ rfl
  have g8 := hb0 8 _ rfl
  clear hb0
  replace hbx : Aside _ := hbx
  replace hsz3 : Aside _ := hsz3
  clear hv hg hpr hta htb hsa hsb hP
  go_enter Tryz.func9, Tryz.ntmps9
  go_wp2_with (go_at_call 20; refine Calls.mono hfact.out ?_; rintro e w2 ⟨rfl, hk2⟩)
  have hkk := hbx.out w2 hk2
  have hOw2 := hO3.out.trans hk2
  have hsz2 : w.heap.size + 3 ≤ w2.heap.size := by have h1 := hk2.size; rw [hsz3.out] at h1; exact h1
  clear g0 g1 g2 g3 g4 g5 g6 g7 g8 hb1 hb2 hbx hfact
  have kk : ∀ X, RTo w2.heap.size w2 X → (∀ (i : Nat) v, (#[.slice a0 2 cap0, .slice none 0 0, .int .i64 1, .slice a3 nt cap3, c4, c5, c6, c7, c8] : Array Value)[i]? = some v → X.cell? ⟨w.heap.size, i, none⟩ = some v) ∧ X.cell? ⟨w.heap.size + 1, 0, none⟩ = some (.slice aa la.length ca) ∧ X.cell? ⟨w.heap.size + 1 + 1, 0, none⟩ = some (.slice ab lb.length cb) := fun X hX => by
    obtain ⟨_, _, _, _, hh⟩ := hX (Nat.le_refl _)
    refine ⟨fun i v hi => ?_, ?_, ?_⟩
    · exact (World.cell?_of_block (w := w2) (hh w.heap.size (by omega))).trans (hkk.1 i v hi)
    · exact (World.cell?_of_block (w := w2) (hh (w.heap.size + 1) (by omega))).trans hkk.2.1
    · exact (World.cell?_of_block (w := w2) (hh (w.heap.size + 1 + 1) (by omega))).trans hkk.2.2
  have hbxX : ∀ X Y, RTo w2.heap.size w2 X → Old X Y → Y.cell? ⟨w.heap.size + 1, 0, none⟩ = some (.slice aa la.length ca) ∧ Y.cell? ⟨w.heap.size + 1 + 1, 0, none⟩ = some (.slice ab lb.length cb) := fun X Y h1 h2 => (kk Y (h1.trans (rto h2))).2
  have hOldOf : ∀ X, RTo w2.heap.size w2 X → Old w X := fun X hX => by
    obtain ⟨h1, h2, h3, h4, h5⟩ := hX (Nat.le_refl _)
    exact hOw2.trans ⟨h2, h3, h4, h5⟩
  generalize hKe : w2.heap.size = K at *
  replace kk : Aside _ := kk
  replace hbxX : Aside _ := hbxX
  replace hOldOf : Aside _ := hOldOf
  replace hOw2 : Aside _ := hOw2
  replace hkk : Aside _ := hkk
  have hrf : ∀ X, RTo K X X := RTo.refl K
  have htr : ∀ X Y Z, RTo K X Y → RTo K Y Z → RTo K X Z := fun _ _ _ => RTo.trans
  replace hrf : Aside _ := hrf
  replace htr : Aside _ := htr
  clear hk2 hO3
  refine wp_region_O (RTo K) 9 (by kernel_rfl) ?_
  have hQ0 : Old w2 w2.drew := (Old.refl _).drew
  replace hQ0 : Aside _ := hQ0
  generalize w2.drew = X0 at *
  refine wpAnyO_take hrf.out htr.out (i := 0) (v := ?_) rfl (by kernel_rfl) (fun _ _ _ h => h) (Or.inl ⟨by rfl, ?_⟩) ?_
  rotate_left
  · (intro X hX; obtain ⟨f0, f1, f2⟩ := kk.out X ((rto hQ0.out).trans hX); have g0 := f0 0 _ rfl; have g1 := f0 1 _ rfl; have g2 := f0 2 _ rfl; have g3 := f0 3 _ rfl; have g4 := f0 4 _ rfl; have g5 := f0 5 _ rfl; have g6 := f0 6 _ rfl; have g7 := f0 7 _ rfl; have g8 := f0 8 _ rfl; clear f0; go_simp <;> with_reducible rfl)
  try simp only [Act.put, List.setIfInBounds_toArray, List.set_cons_zero, List.set_cons_succ, List.getElem_toArray, List.getElem_cons_zero, List.getElem_cons_succ]
  refine wpAnyO_take hrf.out htr.out (i := 1) (v := ?_) rfl (by kernel_rfl) (fun _ _ _ h => h) (Or.inl ⟨by rfl, ?_⟩) ?_
  rotate_left
  · (intro X hX; obtain ⟨f0, f1, f2⟩ := kk.out X ((rto hQ0.out).trans hX); have g0 := f0 0 _ rfl; have g1 := f0 1 _ rfl; have g2 := f0 2 _ rfl; have g3 := f0 3 _ rfl; have g4 := f0 4 _ rfl; have g5 := f0 5 _ rfl; have g6 := f0 6 _ rfl; have g7 := f0 7 _ rfl; have g8 := f0 8 _ rfl; clear f0; go_simp <;> with_reducible rfl)
  try simp only [Act.put, List.setIfInBounds_toArray, List.set_cons_zero, List.set_cons_succ, List.getElem_toArray, List.getElem_cons_zero, List.getElem_cons_succ]
  refine wpAnyO_take hrf.out htr.out (i := 3) (v := ?_) rfl (by kernel_rfl) (fun _ _ _ h => h) (Or.inl ⟨by rfl, ?_⟩) ?_
  rotate_left
  · (intro X hX; obtain ⟨f0, f1, f2⟩ := kk.out X ((rto hQ0.out).trans hX); have g0 := f0 0 _ rfl; have g1 := f0 1 _ rfl; have g2 := f0 2 _ rfl; have g3 := f0 3 _ rfl; have g4 := f0 4 _ rfl; have g5 := f0 5 _ rfl; have g6 := f0 6 _ rfl; have g7 := f0 7 _ rfl; have g8 := f0 8 _ rfl; clear f0; go_simp <;> with_reducible rfl)
  try simp only [Act.put, List.setIfInBounds_toArray, List.set_cons_zero, List.set_cons_succ, List.getElem_toArray, List.getElem_cons_zero, List.getElem_cons_succ]
  refine wpAnyO_take hrf.out htr.out (i := 4) (v := ?_) rfl (by kernel_rfl) (fun _ _ _ h => h) (Or.inl ⟨by rfl, ?_⟩) ?_
  rotate_left
  · (intro X hX; obtain ⟨f0, f1, f2⟩ := kk.out X ((rto hQ0.out).trans hX); have g0 := f0 0 _ rfl; have g1 := f0 1 _ rfl; have g2 := f0 2 _ rfl; have g3 := f0 3 _ rfl; have g4 := f0 4 _ rfl; have g5 := f0 5 _ rfl; have g6 := f0 6 _ rfl; have g7 := f0 7 _ rfl; have g8 := f0 8 _ rfl; clear f0; go_simp <;> with_reducible rfl)
  try simp only [Act.put, List.setIfInBounds_toArray, List.set_cons_zero, List.set_cons_succ, List.getElem_toArray, List.getElem_cons_zero, List.getElem_cons_succ]
  refine wpAnyO_three (i := 2) (j := 6) (k := 7) (by kernel_rfl) rfl rfl rfl ?_ ?_ ?_
  · intro K' hK
    go_simp
    (go_at_call 21; refine Calls.mono (hea.out _ (hOw2.out.trans hQ0.out)) ?_; rintro e X1 ⟨b1, rfl, hr1, _, hO1⟩)
    refine hK _ _ (fun _ => rto hO1) ?_
    clear hK K'
    try simp only [Act.put, List.setIfInBounds_toArray, List.set_cons_zero, List.set_cons_succ, List.getElem_toArray, List.getElem_cons_zero, List.getElem_cons_succ]
    have hQ1 := hQ0.out.trans hO1
    have hn1 := NumsAt.of hr1
    refine wpAnyO_three (i := 5) (j := 6) (k := 7) (by kernel_rfl) rfl rfl rfl ?_ ?_ ?_
    · intro K' hK
      go_simp
      (go_at_call 21; refine Calls.mono (heb.out _ (hOw2.out.trans hQ1)) ?_; rintro e X2 ⟨b2, rfl, hr2, _, hO2⟩)
      refine hK _ _ (fun _ => rto hO2) ?_
      clear hK K'
      try simp only [Act.put, List.setIfInBounds_toArray, List.set_cons_zero, List.set_cons_succ, List.getElem_toArray, List.getElem_cons_zero, List.getElem_cons_succ]
      have hQ2 := hQ1.trans hO2
      have nx_2 := NumsAt.old hn1 hO2
      have hn2 := NumsAt.of hr2
      refine wpAnyO_two (i := 6) (j := 7) (by kernel_rfl) rfl rfl ?_ ?_
      · intro K' hK
        go_simp
        refine hK _ _ (fun _ => rto ((Old.refl _).alloc _)) ?_
        clear hK K'
        try simp only [Act.put, List.setIfInBounds_toArray, List.set_cons_zero, List.set_cons_succ, List.getElem_toArray, List.getElem_cons_zero, List.getElem_cons_succ]
        have hO3 : Old X2 (X2.alloc (.cells #[.slice none 0 0] 39)) := (Old.refl _).alloc _
        have c3 := World.alloc_heap_new X2 (.cells #[.slice none 0 0] 39)
        have z3 : K ≤ X2.heap.size := by have := hQ2.size; omega
        have s3 : X2.heap.size < (X2.alloc (.cells #[.slice none 0 0] 39)).heap.size := by simp
        generalize X2.alloc (.cells #[.slice none 0 0] 39) = X3 at *
        generalize hp3 : X2.heap.size = p3 at *
        have hQ3 := hQ2.trans hO3
        have nx_3 := NumsAt.old nx_2 hO3
        have ny_3 := NumsAt.old hn2 hO3
        refine wpAnyO_one (i := 7) (by kernel_rfl) rfl ?_
        intro K' hK
        go_simp
        refine hK _ _ (fun _ => rto ((Old.refl _).alloc _)) ?_
        clear hK K'
        try simp only [Act.put, List.setIfInBounds_toArray, List.set_cons_zero, List.set_cons_succ, List.getElem_toArray, List.getElem_cons_zero, List.getElem_cons_succ]
        have hO4 : Old X3 (X3.alloc (.cells #[.slice none 0 0] 39)) := (Old.refl _).alloc _
        have c4 := World.alloc_heap_new X3 (.cells #[.slice none 0 0] 39)
        have z4 : K ≤ X3.heap.size := by have := hQ3.size; omega
        have s4 : X3.heap.size < (X3.alloc (.cells #[.slice none 0 0] 39)).heap.size := by simp
        generalize X3.alloc (.cells #[.slice none 0 0] 39) = X4 at *
        generalize hp4 : X3.heap.size = p4 at *
        have hQ4 := hQ3.trans hO4
        have nx_4 := NumsAt.old nx_3 hO4
        have ny_4 := NumsAt.old ny_3 hO4
        have c7q4 := (hO4.heap _ (Array.getElem?_eq_some_iff.1 c3).1).trans c3
        have hne4 : p4 ≠ p3 := by have := (Old.refl X3).size; omega
        have e17 := nums_ne nx_4 hca (cells_at' c7q4 (i := 0) rfl)
        have e18 := nums_ne nx_4 hca (cells_at' c4 (i := 0) rfl)
        have e27 := nums_ne ny_4 hcb (cells_at' c7q4 (i := 0) rfl)
        have e28 := nums_ne ny_4 hcb (cells_at' c4 (i := 0) rfl)
        have hne : p4 ≠ p3 := hne4
        have hR : RTo K w2 X4 := rto hQ4
        have x7 := cells_at' c7q4 (i := 0) rfl
        have y7 := frozen_at' c7q4 0
        have m7 := heap_setCell_same X4 p3 0 _ 39 (.slice (some ⟨b1, 0, none⟩) la.length la.length) c7q4
        have m8 := (heap_setCell_other X4 ⟨p3, 0, none⟩ p4 (.slice (some ⟨b1, 0, none⟩) la.length la.length) hne).trans c4
        have x8 := cells_at' m8 (i := 0) rfl
        have y8 := frozen_at' m8 0
        have q7 := cells_at' ((heap_setCell_other (X4.setCell ⟨p3, 0, none⟩ (.slice (some ⟨b1, 0, none⟩) la.length la.length)) ⟨p4, 0, none⟩ p3 (.slice (some ⟨b2, 0, none⟩) lb.length lb.length) hne.symm).trans m7) (i := 0) rfl
        have q8 := cells_at' (heap_setCell_same (X4.setCell ⟨p3, 0, none⟩ (.slice (some ⟨b1, 0, none⟩) la.length la.length)) p4 0 _ 39 (.slice (some ⟨b2, 0, none⟩) lb.length lb.length) m8) (i := 0) rfl
        have n1' := nums_set (v := (.slice (some ⟨b2, 0, none⟩) lb.length lb.length)) (nums_set (v := (.slice (some ⟨b1, 0, none⟩) la.length la.length)) nx_4 e17) e18
        have n2' := nums_set (v := (.slice (some ⟨b2, 0, none⟩) lb.length lb.length)) (nums_set (v := (.slice (some ⟨b1, 0, none⟩) la.length la.length)) ny_4 e27) e28
        have hR2 : RTo K w2 ((X4.setCell ⟨p3, 0, none⟩ (.slice (some ⟨b1, 0, none⟩) la.length la.length)).setCell ⟨p4, 0, none⟩ (.slice (some ⟨b2, 0, none⟩) lb.length lb.length)) := (hR.trans (rto_set (p := ⟨p3, 0, none⟩) z3 _)).trans (rto_set (p := ⟨p4, 0, none⟩) z4 _)
        refine wpAnyO_one (i := 8) (by kernel_rfl) rfl ?_
        intro K' hK
        go_simp
        refine hK _ _ (fun _ => rto_set (p := ⟨p3, 0, none⟩) z3 _) ?_
        clear hK K'
        try simp only [Act.put, List.setIfInBounds_toArray, List.set_cons_zero, List.set_cons_succ, List.getElem_toArray, List.getElem_cons_zero, List.getElem_cons_succ]
        refine wpAnyO_one (i := 9) (by kernel_rfl) rfl ?_
        intro K' hK
        go_simp
        refine hK _ _ (fun h => absurd rfl h) ?_
        clear hK K'
        try simp only [Act.put, List.setIfInBounds_toArray, List.set_cons_zero, List.set_cons_succ, List.getElem_toArray, List.getElem_cons_zero, List.getElem_cons_succ]
        refine wpAnyO_done (by kernel_rfl) ?_ _
        clear m7 m8 x7 y7 x8 y8
        generalize (X4.setCell ⟨p3, 0, none⟩ (.slice (some ⟨b1, 0, none⟩) la.length la.length)).setCell ⟨p4, 0, none⟩ (.slice (some ⟨b2, 0, none⟩) lb.length lb.length) = XF at *
        have hOXF := hOldOf.out _ hR2
        have hszF : w.heap.size + 3 ≤ XF.heap.size := by have := hR2 (by omega); omega
        have hM := hlast.out XF XF p3 p4 b1 b2 hOXF hszF (fun Y hY => hbxX.out XF Y hR2 hY) n1' n2' q7 q8
        have hc22 := hord.out XF.heap.size p3 p4 b1 b2 _ hM
        have hAl : Old XF (XF.alloc (.cells #[.func (.func 22) #[] #[.pointer (some ⟨w.heap.size + 1, 0, none⟩), .pointer (some ⟨w.heap.size + 1 + 1, 0, none⟩), .pointer (some ⟨p3, 0, none⟩), .pointer (some ⟨p4, 0, none⟩), .pointer (some ⟨XF.heap.size, 0, none⟩)]] 82)) := (Old.refl _).alloc _
        replace hM : Aside _ := hM
        replace hc22 : Aside _ := hc22
        replace hOXF : Aside _ := hOXF
        replace hAl : Aside _ := hAl
        replace hR2 : Aside _ := hR2
        replace n1' : Aside _ := n1'
        replace n2' : Aside _ := n2'
        have hnil : ∀ W a n c, Sem.run Tryz.prog (binOp BinOp.eql 39 (Value.slice a n c) (Value.slice none 0 0)) W = .ok (.bool a.isNone) W := fun W a n c => Lib.run_eql_slice_nil W 39 3 _ _ _ _ _ Tryz.underlying39
        have nc := cells_at' (World.alloc_heap_new XF (.cells #[.nilFunc] 82)) (i := 0) rfl
        have nf := frozen_at' (World.alloc_heap_new XF (.cells #[.nilFunc] 82)) 0
        go_wp2_with (go_at_call 22; refine Calls.mono hc22.out ?_; rintro e XZ ⟨rfl, hOZ⟩)
        go_ret
        exact ⟨rfl, hOXF.out.trans (hAl.out.trans hOZ)⟩
      · intro K' hK
        go_simp
        refine hK _ _ (fun _ => rto ((Old.refl _).alloc _)) ?_
        clear hK K'
        try simp only [Act.put, List.setIfInBounds_toArray, List.set_cons_zero, List.set_cons_succ, List.getElem_toArray, List.getElem_cons_zero, List.getElem_cons_succ]
        have hO5 : Old X2 (X2.alloc (.cells #[.slice none 0 0] 39)) := (Old.refl _).alloc _
        have c5 := World.alloc_heap_new X2 (.cells #[.slice none 0 0] 39)
        have z5 : K ≤ X2.heap.size := by have := hQ2.size; omega
        have s5 : X2.heap.size < (X2.alloc (.cells #[.slice none 0 0] 39)).heap.size := by simp
        generalize X2.alloc (.cells #[.slice none 0 0] 39) = X5 at *
        generalize hp5 : X2.heap.size = p5 at *
        have hQ5 := hQ2.trans hO5
        have nx_5 := NumsAt.old nx_2 hO5
        have ny_5 := NumsAt.old hn2 hO5
        refine wpAnyO_one (i := 6) (by kernel_rfl) rfl ?_
        intro K' hK
        go_simp
        refine hK _ _ (fun _ => rto ((Old.refl _).alloc _)) ?_
        clear hK K'
        try simp only [Act.put, List.setIfInBounds_toArray, List.set_cons_zero, List.set_cons_succ, List.getElem_toArray, List.getElem_cons_zero, List.getElem_cons_succ]
        have hO6 : Old X5 (X5.alloc (.cells #[.slice none 0 0] 39)) := (Old.refl _).alloc _
        have c6 := World.alloc_heap_new X5 (.cells #[.slice none 0 0] 39)
        have z6 : K ≤ X5.heap.size := by have := hQ5.size; omega
        have s6 : X5.heap.size < (X5.alloc (.cells #[.slice none 0 0] 39)).heap.size := by simp
        generalize X5.alloc (.cells #[.slice none 0 0] 39) = X6 at *
        generalize hp6 : X5.heap.size = p6 at *
        have hQ6 := hQ5.trans hO6
        have nx_6 := NumsAt.old nx_5 hO6
        have ny_6 := NumsAt.old ny_5 hO6
        have c8q6 := (hO6.heap _ (Array.getElem?_eq_some_iff.1 c5).1).trans c5
        have hne6 : p6 ≠ p5 := by have := (Old.refl X5).size; omega
        have e17 := nums_ne nx_6 hca (cells_at' c6 (i := 0) rfl)
        have e18 := nums_ne nx_6 hca (cells_at' c8q6 (i := 0) rfl)
        have e27 := nums_ne ny_6 hcb (cells_at' c6 (i := 0) rfl)
        have e28 := nums_ne ny_6 hcb (cells_at' c8q6 (i := 0) rfl)
        have hne : p5 ≠ p6 := hne6.symm
        have hR : RTo K w2 X6 := rto hQ6
        have x7 := cells_at' c6 (i := 0) rfl
        have y7 := frozen_at' c6 0
        have m7 := heap_setCell_same X6 p6 0 _ 39 (.slice (some ⟨b1, 0, none⟩) la.length la.length) c6
        have m8 := (heap_setCell_other X6 ⟨p6, 0, none⟩ p5 (.slice (some ⟨b1, 0, none⟩) la.length la.length) hne).trans c8q6
        have x8 := cells_at' m8 (i := 0) rfl
        have y8 := frozen_at' m8 0
        have q7 := cells_at' ((heap_setCell_other (X6.setCell ⟨p6, 0, none⟩ (.slice (some ⟨b1, 0, none⟩) la.length la.length)) ⟨p5, 0, none⟩ p6 (.slice (some ⟨b2, 0, none⟩) lb.length lb.length) hne.symm).trans m7) (i := 0) rfl
        have q8 := cells_at' (heap_setCell_same (X6.setCell ⟨p6, 0, none⟩ (.slice (some ⟨b1, 0, none⟩) la.length la.length)) p5 0 _ 39 (.slice (some ⟨b2, 0, none⟩) lb.length lb.length) m8) (i := 0) rfl
        have n1' := nums_set (v := (.slice (some ⟨b2, 0, none⟩) lb.length lb.length)) (nums_set (v := (.slice (some ⟨b1, 0, none⟩) la.length la.length)) nx_6 e17) e18
        have n2' := nums_set (v := (.slice (some ⟨b2, 0, none⟩) lb.length lb.length)) (nums_set (v := (.slice (some ⟨b1, 0, none⟩) la.length la.length)) ny_6 e27) e28
        have hR2 : RTo K w2 ((X6.setCell ⟨p6, 0, none⟩ (.slice (some ⟨b1, 0, none⟩) la.length la.length)).setCell ⟨p5, 0, none⟩ (.slice (some ⟨b2, 0, none⟩) lb.length lb.length)) := (hR.trans (rto_set (p := ⟨p6, 0, none⟩) z6 _)).trans (rto_set (p := ⟨p5, 0, none⟩) z5 _)
        refine wpAnyO_one (i := 8) (by kernel_rfl) rfl ?_
        intro K' hK
        go_simp
        refine hK _ _ (fun _ => rto_set (p := ⟨p6, 0, none⟩) z6 _) ?_
        clear hK K'
        try simp only [Act.put, List.setIfInBounds_toArray, List.set_cons_zero, List.set_cons_succ, List.getElem_toArray, List.getElem_cons_zero, List.getElem_cons_succ]
        refine wpAnyO_one (i := 9) (by kernel_rfl) rfl ?_
        intro K' hK
        go_simp
        refine hK _ _ (fun h => absurd rfl h) ?_
        clear hK K'
        try simp only [Act.put, List.setIfInBounds_toArray, List.set_cons_zero, List.set_cons_succ, List.getElem_toArray, List.getElem_cons_zero, List.getElem_cons_succ]
        refine wpAnyO_done (by kernel_rfl) ?_ _
        clear m7 m8 x7 y7 x8 y8
        generalize (X6.setCell ⟨p6, 0, none⟩ (.slice (some ⟨b1, 0, none⟩) la.length la.length)).setCell ⟨p5, 0, none⟩ (.slice (some ⟨b2, 0, none⟩) lb.length lb.length) = XF at *
        have hOXF := hOldOf.out _ hR2
        have hszF : w.heap.size + 3 ≤ XF.heap.size := by have := hR2 (by omega); omega
        have hM := hlast.out XF XF p6 p5 b1 b2 hOXF hszF (fun Y hY => hbxX.out XF Y hR2 hY) n1' n2' q7 q8
        have hc22 := hord.out XF.heap.size p6 p5 b1 b2 _ hM
        have hAl : Old XF (XF.alloc (.cells #[.func (.func 22) #[] #[.pointer (some ⟨w.heap.size + 1, 0, none⟩), .pointer (some ⟨w.heap.size + 1 + 1, 0, none⟩), .pointer (some ⟨p6, 0, none⟩), .pointer (some ⟨p5, 0, none⟩), .pointer (some ⟨XF.heap.size, 0, none⟩)]] 82)) := (Old.refl _).alloc _
        replace hM : Aside _ := hM
        replace hc22 : Aside _ := hc22
        replace hOXF : Aside _ := hOXF
        replace hAl : Aside _ := hAl
        replace hR2 : Aside _ := hR2
        replace n1' : Aside _ := n1'
        replace n2' : Aside _ := n2'
        have hnil : ∀ W a n c, Sem.run Tryz.prog (binOp BinOp.eql 39 (Value.slice a n c) (Value.slice none 0 0)) W = .ok (.bool a.isNone) W := fun W a n c => Lib.run_eql_slice_nil W 39 3 _ _ _ _ _ Tryz.underlying39
        have nc := cells_at' (World.alloc_heap_new XF (.cells #[.nilFunc] 82)) (i := 0) rfl
        have nf := frozen_at' (World.alloc_heap_new XF (.cells #[.nilFunc] 82)) 0
        go_wp2_with (go_at_call 22; refine Calls.mono hc22.out ?_; rintro e XZ ⟨rfl, hOZ⟩)
        go_ret
        exact ⟨rfl, hOXF.out.trans (hAl.out.trans hOZ)⟩
    · intro K' hK
      go_simp
      refine hK _ _ (fun _ => rto ((Old.refl _).alloc _)) ?_
      clear hK K'
      try simp only [Act.put, List.setIfInBounds_toArray, List.set_cons_zero, List.set_cons_succ, List.getElem_toArray, List.getElem_cons_zero, List.getElem_cons_succ]
      have hO7 : Old X1 (X1.alloc (.cells #[.slice none 0 0] 39)) := (Old.refl _).alloc _
      have c7 := World.alloc_heap_new X1 (.cells #[.slice none 0 0] 39)
      have z7 : K ≤ X1.heap.size := by have := hQ1.size; omega
      have s7 : X1.heap.size < (X1.alloc (.cells #[.slice none 0 0] 39)).heap.size := by simp
      generalize X1.alloc (.cells #[.slice none 0 0] 39) = X7 at *
      generalize hp7 : X1.heap.size = p7 at *
      have hQ7 := hQ1.trans hO7
      have nx_7 := NumsAt.old hn1 hO7
      refine wpAnyO_two (i := 5) (j := 7) (by kernel_rfl) rfl rfl ?_ ?_
      · intro K' hK
        go_simp
        (go_at_call 21; refine Calls.mono (heb.out _ (hOw2.out.trans hQ7)) ?_; rintro e X8 ⟨b8, rfl, hr8, _, hO8⟩)
        refine hK _ _ (fun _ => rto hO8) ?_
        clear hK K'
        try simp only [Act.put, List.setIfInBounds_toArray, List.set_cons_zero, List.set_cons_succ, List.getElem_toArray, List.getElem_cons_zero, List.getElem_cons_succ]
        have hQ8 := hQ7.trans hO8
        have nx_8 := NumsAt.old nx_7 hO8
        have c7q8 := (hO8.heap _ (Array.getElem?_eq_some_iff.1 c7).1).trans c7
        have hn8 := NumsAt.of hr8
        refine wpAnyO_one (i := 7) (by kernel_rfl) rfl ?_
        intro K' hK
        go_simp
        refine hK _ _ (fun _ => rto ((Old.refl _).alloc _)) ?_
        clear hK K'
        try simp only [Act.put, List.setIfInBounds_toArray, List.set_cons_zero, List.set_cons_succ, List.getElem_toArray, List.getElem_cons_zero, List.getElem_cons_succ]
        have hO9 : Old X8 (X8.alloc (.cells #[.slice none 0 0] 39)) := (Old.refl _).alloc _
        have c9 := World.alloc_heap_new X8 (.cells #[.slice none 0 0] 39)
        have z9 : K ≤ X8.heap.size := by have := hQ8.size; omega
        have s9 : X8.heap.size < (X8.alloc (.cells #[.slice none 0 0] 39)).heap.size := by simp
        generalize X8.alloc (.cells #[.slice none 0 0] 39) = X9 at *
        generalize hp9 : X8.heap.size = p9 at *
        have hQ9 := hQ8.trans hO9
        have nx_9 := NumsAt.old nx_8 hO9
        have c7q9 := (hO9.heap _ (Array.getElem?_eq_some_iff.1 c7q8).1).trans c7q8
        have ny_9 := NumsAt.old hn8 hO9
        have hne9 : p9 ≠ p7 := by have := ((Old.refl X7).trans hO8).size; omega
        have e17 := nums_ne nx_9 hca (cells_at' c7q9 (i := 0) rfl)
        have e18 := nums_ne nx_9 hca (cells_at' c9 (i := 0) rfl)
        have e27 := nums_ne ny_9 hcb (cells_at' c7q9 (i := 0) rfl)
        have e28 := nums_ne ny_9 hcb (cells_at' c9 (i := 0) rfl)
        have hne : p9 ≠ p7 := hne9
        have hR : RTo K w2 X9 := rto hQ9
        have x7 := cells_at' c7q9 (i := 0) rfl
        have y7 := frozen_at' c7q9 0
        have m7 := heap_setCell_same X9 p7 0 _ 39 (.slice (some ⟨b1, 0, none⟩) la.length la.length) c7q9
        have m8 := (heap_setCell_other X9 ⟨p7, 0, none⟩ p9 (.slice (some ⟨b1, 0, none⟩) la.length la.length) hne).trans c9
        have x8 := cells_at' m8 (i := 0) rfl
        have y8 := frozen_at' m8 0
        have q7 := cells_at' ((heap_setCell_other (X9.setCell ⟨p7, 0, none⟩ (.slice (some ⟨b1, 0, none⟩) la.length la.length)) ⟨p9, 0, none⟩ p7 (.slice (some ⟨b8, 0, none⟩) lb.length lb.length) hne.symm).trans m7) (i := 0) rfl
        have q8 := cells_at' (heap_setCell_same (X9.setCell ⟨p7, 0, none⟩ (.slice (some ⟨b1, 0, none⟩) la.length la.length)) p9 0 _ 39 (.slice (some ⟨b8, 0, none⟩) lb.length lb.length) m8) (i := 0) rfl
        have n1' := nums_set (v := (.slice (some ⟨b8, 0, none⟩) lb.length lb.length)) (nums_set (v := (.slice (some ⟨b1, 0, none⟩) la.length la.length)) nx_9 e17) e18
        have n2' := nums_set (v := (.slice (some ⟨b8, 0, none⟩) lb.length lb.length)) (nums_set (v := (.slice (some ⟨b1, 0, none⟩) la.length la.length)) ny_9 e27) e28
        have hR2 : RTo K w2 ((X9.setCell ⟨p7, 0, none⟩ (.slice (some ⟨b1, 0, none⟩) la.length la.length)).setCell ⟨p9, 0, none⟩ (.slice (some ⟨b8, 0, none⟩) lb.length lb.length)) := (hR.trans (rto_set (p := ⟨p7, 0, none⟩) z7 _)).trans (rto_set (p := ⟨p9, 0, none⟩) z9 _)
        refine wpAnyO_one (i := 8) (by kernel_rfl) rfl ?_
        intro K' hK
        go_simp
        refine hK _ _ (fun _ => rto_set (p := ⟨p7, 0, none⟩) z7 _) ?_
        clear hK K'
        try simp only [Act.put, List.setIfInBounds_toArray, List.set_cons_zero, List.set_cons_succ, List.getElem_toArray, List.getElem_cons_zero, List.getElem_cons_succ]
        refine wpAnyO_one (i := 9) (by kernel_rfl) rfl ?_
        intro K' hK
        go_simp
        refine hK _ _ (fun h => absurd rfl h) ?_
        clear hK K'
        try simp only [Act.put, List.setIfInBounds_toArray, List.set_cons_zero, List.set_cons_succ, List.getElem_toArray, List.getElem_cons_zero, List.getElem_cons_succ]
        refine wpAnyO_done (by kernel_rfl) ?_ _
        clear m7 m8 x7 y7 x8 y8
        generalize (X9.setCell ⟨p7, 0, none⟩ (.slice (some ⟨b1, 0, none⟩) la.length la.length)).setCell ⟨p9, 0, none⟩ (.slice (some ⟨b8, 0, none⟩) lb.length lb.length) = XF at *
        have hOXF := hOldOf.out _ hR2
        have hszF : w.heap.size + 3 ≤ XF.heap.size := by have := hR2 (by omega); omega
        have hM := hlast.out XF XF p7 p9 b1 b8 hOXF hszF (fun Y hY => hbxX.out XF Y hR2 hY) n1' n2' q7 q8
        have hc22 := hord.out XF.heap.size p7 p9 b1 b8 _ hM
        have hAl : Old XF (XF.alloc (.cells #[.func (.func 22) #[] #[.pointer (some ⟨w.heap.size + 1, 0, none⟩), .pointer (some ⟨w.heap.size + 1 + 1, 0, none⟩), .pointer (some ⟨p7, 0, none⟩), .pointer (some ⟨p9, 0, none⟩), .pointer (some ⟨XF.heap.size, 0, none⟩)]] 82)) := (Old.refl _).alloc _
        replace hM : Aside _ := hM
        replace hc22 : Aside _ := hc22
        replace hOXF : Aside _ := hOXF
        replace hAl : Aside _ := hAl
        replace hR2 : Aside _ := hR2
        replace n1' : Aside _ := n1'
        replace n2' : Aside _ := n2'
        have hnil : ∀ W a n c, Sem.run Tryz.prog (binOp BinOp.eql 39 (Value.slice a n c) (Value.slice none 0 0)) W = .ok (.bool a.isNone) W := fun W a n c => Lib.run_eql_slice_nil W 39 3 _ _ _ _ _ Tryz.underlying39
        have nc := cells_at' (World.alloc_heap_new XF (.cells #[.nilFunc] 82)) (i := 0) rfl
        have nf := frozen_at' (World.alloc_heap_new XF (.cells #[.nilFunc] 82)) 0
        go_wp2_with (go_at_call 22; refine Calls.mono hc22.out ?_; rintro e XZ ⟨rfl, hOZ⟩)
        go_ret
        exact ⟨rfl, hOXF.out.trans (hAl.out.trans hOZ)⟩
      · intro K' hK
        go_simp
        refine hK _ _ (fun _ => rto ((Old.refl _).alloc _)) ?_
        clear hK K'
        try simp only [Act.put, List.setIfInBounds_toArray, List.set_cons_zero, List.set_cons_succ, List.getElem_toArray, List.getElem_cons_zero, List.getElem_cons_succ]
        have hO10 : Old X7 (X7.alloc (.cells #[.slice none 0 0] 39)) := (Old.refl _).alloc _
        have c10 := World.alloc_heap_new X7 (.cells #[.slice none 0 0] 39)
        have z10 : K ≤ X7.heap.size := by have := hQ7.size; omega
        have s10 : X7.heap.size < (X7.alloc (.cells #[.slice none 0 0] 39)).heap.size := by simp
        generalize X7.alloc (.cells #[.slice none 0 0] 39) = X10 at *
        generalize hp10 : X7.heap.size = p10 at *
        have hQ10 := hQ7.trans hO10
        have nx_10 := NumsAt.old nx_7 hO10
        have c7q10 := (hO10.heap _ (Array.getElem?_eq_some_iff.1 c7).1).trans c7
        have hne10 : p10 ≠ p7 := by have := (Old.refl X7).size; omega
        refine wpAnyO_one (i := 5) (by kernel_rfl) rfl ?_
        intro K' hK
        go_simp
        (go_at_call 21; refine Calls.mono (heb.out _ (hOw2.out.trans hQ10)) ?_; rintro e X11 ⟨b11, rfl, hr11, _, hO11⟩)
        refine hK _ _ (fun _ => rto hO11) ?_
        clear hK K'
        try simp only [Act.put, List.setIfInBounds_toArray, List.set_cons_zero, List.set_cons_succ, List.getElem_toArray, List.getElem_cons_zero, List.getElem_cons_succ]
        have hQ11 := hQ10.trans hO11
        have nx_11 := NumsAt.old nx_10 hO11
        have c7q11 := (hO11.heap _ (Array.getElem?_eq_some_iff.1 c7q10).1).trans c7q10
        have c8q11 := (hO11.heap _ (Array.getElem?_eq_some_iff.1 c10).1).trans c10
        have hn11 := NumsAt.of hr11
        have e17 := nums_ne nx_11 hca (cells_at' c7q11 (i := 0) rfl)
        have e18 := nums_ne nx_11 hca (cells_at' c8q11 (i := 0) rfl)
        have e27 := nums_ne hn11 hcb (cells_at' c7q11 (i := 0) rfl)
        have e28 := nums_ne hn11 hcb (cells_at' c8q11 (i := 0) rfl)
        have hne : p10 ≠ p7 := hne10
        have hR : RTo K w2 X11 := rto hQ11
        have x7 := cells_at' c7q11 (i := 0) rfl
        have y7 := frozen_at' c7q11 0
        have m7 := heap_setCell_same X11 p7 0 _ 39 (.slice (some ⟨b1, 0, none⟩) la.length la.length) c7q11
        have m8 := (heap_setCell_other X11 ⟨p7, 0, none⟩ p10 (.slice (some ⟨b1, 0, none⟩) la.length la.length) hne).trans c8q11
        have x8 := cells_at' m8 (i := 0) rfl
        have y8 := frozen_at' m8 0
        have q7 := cells_at' ((heap_setCell_other (X11.setCell ⟨p7, 0, none⟩ (.slice (some ⟨b1, 0, none⟩) la.length la.length)) ⟨p10, 0, none⟩ p7 (.slice (some ⟨b11, 0, none⟩) lb.length lb.length) hne.symm).trans m7) (i := 0) rfl
        have q8 := cells_at' (heap_setCell_same (X11.setCell ⟨p7, 0, none⟩ (.slice (some ⟨b1, 0, none⟩) la.length la.length)) p10 0 _ 39 (.slice (some ⟨b11, 0, none⟩) lb.length lb.length) m8) (i := 0) rfl
        have n1' := nums_set (v := (.slice (some ⟨b11, 0, none⟩) lb.length lb.length)) (nums_set (v := (.slice (some ⟨b1, 0, none⟩) la.length la.length)) nx_11 e17) e18
        have n2' := nums_set (v := (.slice (some ⟨b11, 0, none⟩) lb.length lb.length)) (nums_set (v := (.slice (some ⟨b1, 0, none⟩) la.length la.length)) hn11 e27) e28
        have hR2 : RTo K w2 ((X11.setCell ⟨p7, 0, none⟩ (.slice (some ⟨b1, 0, none⟩) la.length la.length)).setCell ⟨p10, 0, none⟩ (.slice (some ⟨b11, 0, none⟩) lb.length lb.length)) := (hR.trans (rto_set (p := ⟨p7, 0, none⟩) z7 _)).trans (rto_set (p := ⟨p10, 0, none⟩) z10 _)
        refine wpAnyO_one (i := 8) (by kernel_rfl) rfl ?_
        intro K' hK
        go_simp
        refine hK _ _ (fun _ => rto_set (p := ⟨p7, 0, none⟩) z7 _) ?_
        clear hK K'
        try simp only [Act.put, List.setIfInBounds_toArray, List.set_cons_zero, List.set_cons_succ, List.getElem_toArray, List.getElem_cons_zero, List.getElem_cons_succ]
        refine wpAnyO_one (i := 9) (by kernel_rfl) rfl ?_
        intro K' hK
        go_simp
        refine hK _ _ (fun h => absurd rfl h) ?_
        clear hK K'
        try simp only [Act.put, List.setIfInBounds_toArray, List.set_cons_zero, List.set_cons_succ, List.getElem_toArray, List.getElem_cons_zero, List.getElem_cons_succ]
        refine wpAnyO_done (by kernel_rfl) ?_ _
        clear m7 m8 x7 y7 x8 y8
        generalize (X11.setCell ⟨p7, 0, none⟩ (.slice (some ⟨b1, 0, none⟩) la.length la.length)).setCell ⟨p10, 0, none⟩ (.slice (some ⟨b11, 0, none⟩) lb.length lb.length) = XF at *
        have hOXF := hOldOf.out _ hR2
        have hszF : w.heap.size + 3 ≤ XF.heap.size := by have := hR2 (by omega); omega
        have hM := hlast.out XF XF p7 p10 b1 b11 hOXF hszF (fun Y hY => hbxX.out XF Y hR2 hY) n1' n2' q7 q8
        have hc22 := hord.out XF.heap.size p7 p10 b1 b11 _ hM
        have hAl : Old XF (XF.alloc (.cells #[.func (.func 22) #[] #[.pointer (some ⟨w.heap.size + 1, 0, none⟩), .pointer (some ⟨w.heap.size + 1 + 1, 0, none⟩), .pointer (some ⟨p7, 0, none⟩), .pointer (some ⟨p10, 0, none⟩), .pointer (some ⟨XF.heap.size, 0, none⟩)]] 82)) := (Old.refl _).alloc _
        replace hM : Aside _ := hM
        replace hc22 : Aside _ := hc22
        replace hOXF : Aside _ := hOXF
        replace hAl : Aside _ := hAl
        replace hR2 : Aside _ := hR2
        replace n1' : Aside _ := n1'
        replace n2' : Aside _ := n2'
        have hnil : ∀ W a n c, Sem.run Tryz.prog (binOp BinOp.eql 39 (Value.slice a n c) (Value.slice none 0 0)) W = .ok (.bool a.isNone) W := fun W a n c => Lib.run_eql_slice_nil W 39 3 _ _ _ _ _ Tryz.underlying39
        have nc := cells_at' (World.alloc_heap_new XF (.cells #[.nilFunc] 82)) (i := 0) rfl
        have nf := frozen_at' (World.alloc_heap_new XF (.cells #[.nilFunc] 82)) 0
        go_wp2_with (go_at_call 22; refine Calls.mono hc22.out ?_; rintro e XZ ⟨rfl, hOZ⟩)
        go_ret
        exact ⟨rfl, hOXF.out.trans (hAl.out.trans hOZ)⟩
    · intro K' hK
      go_simp
      refine hK _ _ (fun _ => rto ((Old.refl _).alloc _)) ?_
      clear hK K'
      try simp only [Act.put, List.setIfInBounds_toArray, List.set_cons_zero, List.set_cons_succ, List.getElem_toArray, List.getElem_cons_zero, List.getElem_cons_succ]
      have hO12 : Old X1 (X1.alloc (.cells #[.slice none 0 0] 39)) := (Old.refl _).alloc _
      have c12 := World.alloc_heap_new X1 (.cells #[.slice none 0 0] 39)
      have z12 : K ≤ X1.heap.size := by have := hQ1.size; omega
      have s12 : X1.heap.size < (X1.alloc (.cells #[.slice none 0 0] 39)).heap.size := by simp
      generalize X1.alloc (.cells #[.slice none 0 0] 39) = X12 at *
      generalize hp12 : X1.heap.size = p12 at *
      have hQ12 := hQ1.trans hO12
      have nx_12 := NumsAt.old hn1 hO12
      refine wpAnyO_two (i := 5) (j := 6) (by kernel_rfl) rfl rfl ?_ ?_
      · intro K' hK
        go_simp
        (go_at_call 21; refine Calls.mono (heb.out _ (hOw2.out.trans hQ12)) ?_; rintro e X13 ⟨b13, rfl, hr13, _, hO13⟩)
        refine hK _ _ (fun _ => rto hO13) ?_
        clear hK K'
        try simp only [Act.put, List.setIfInBounds_toArray, List.set_cons_zero, List.set_cons_succ, List.getElem_toArray, List.getElem_cons_zero, List.getElem_cons_succ]
        have hQ13 := hQ12.trans hO13
        have nx_13 := NumsAt.old nx_12 hO13
        have c8q13 := (hO13.heap _ (Array.getElem?_eq_some_iff.1 c12).1).trans c12
        have hn13 := NumsAt.of hr13
        refine wpAnyO_one (i := 6) (by kernel_rfl) rfl ?_
        intro K' hK
        go_simp
        refine hK _ _ (fun _ => rto ((Old.refl _).alloc _)) ?_
        clear hK K'
        try simp only [Act.put, List.setIfInBounds_toArray, List.set_cons_zero, List.set_cons_succ, List.getElem_toArray, List.getElem_cons_zero, List.getElem_cons_succ]
        have hO14 : Old X13 (X13.alloc (.cells #[.slice none 0 0] 39)) := (Old.refl _).alloc _
        have c14 := World.alloc_heap_new X13 (.cells #[.slice none 0 0] 39)
        have z14 : K ≤ X13.heap.size := by have := hQ13.size; omega
        have s14 : X13.heap.size < (X13.alloc (.cells #[.slice none 0 0] 39)).heap.size := by simp
        generalize X13.alloc (.cells #[.slice none 0 0] 39) = X14 at *
        generalize hp14 : X13.heap.size = p14 at *
        have hQ14 := hQ13.trans hO14
        have nx_14 := NumsAt.old nx_13 hO14
        have c8q14 := (hO14.heap _ (Array.getElem?_eq_some_iff.1 c8q13).1).trans c8q13
        have ny_14 := NumsAt.old hn13 hO14
        have hne14 : p14 ≠ p12 := by have := ((Old.refl X12).trans hO13).size; omega
        have e17 := nums_ne nx_14 hca (cells_at' c14 (i := 0) rfl)
        have e18 := nums_ne nx_14 hca (cells_at' c8q14 (i := 0) rfl)
        have e27 := nums_ne ny_14 hcb (cells_at' c14 (i := 0) rfl)
        have e28 := nums_ne ny_14 hcb (cells_at' c8q14 (i := 0) rfl)
        have hne : p12 ≠ p14 := hne14.symm
        have hR : RTo K w2 X14 := rto hQ14
        have x7 := cells_at' c14 (i := 0) rfl
        have y7 := frozen_at' c14 0
        have m7 := heap_setCell_same X14 p14 0 _ 39 (.slice (some ⟨b1, 0, none⟩) la.length la.length) c14
        have m8 := (heap_setCell_other X14 ⟨p14, 0, none⟩ p12 (.slice (some ⟨b1, 0, none⟩) la.length la.length) hne).trans c8q14
        have x8 := cells_at' m8 (i := 0) rfl
        have y8 := frozen_at' m8 0
        have q7 := cells_at' ((heap_setCell_other (X14.setCell ⟨p14, 0, none⟩ (.slice (some ⟨b1, 0, none⟩) la.length la.length)) ⟨p12, 0, none⟩ p14 (.slice (some ⟨b13, 0, none⟩) lb.length lb.length) hne.symm).trans m7) (i := 0) rfl
        have q8 := cells_at' (heap_setCell_same (X14.setCell ⟨p14, 0, none⟩ (.slice (some ⟨b1, 0, none⟩) la.length la.length)) p12 0 _ 39 (.slice (some ⟨b13, 0, none⟩) lb.length lb.length) m8) (i := 0) rfl
        have n1' := nums_set (v := (.slice (some ⟨b13, 0, none⟩) lb.length lb.length)) (nums_set (v := (.slice (some ⟨b1, 0, none⟩) la.length la.length)) nx_14 e17) e18
        have n2' := nums_set (v := (.slice (some ⟨b13, 0, none⟩) lb.length lb.length)) (nums_set (v := (.slice (some ⟨b1, 0, none⟩) la.length la.length)) ny_14 e27) e28
        have hR2 : RTo K w2 ((X14.setCell ⟨p14, 0, none⟩ (.slice (some ⟨b1, 0, none⟩) la.length la.length)).setCell ⟨p12, 0, none⟩ (.slice (some ⟨b13, 0, none⟩) lb.length lb.length)) := (hR.trans (rto_set (p := ⟨p14, 0, none⟩) z14 _)).trans (rto_set (p := ⟨p12, 0, none⟩) z12 _)
        refine wpAnyO_one (i := 8) (by kernel_rfl) rfl ?_
        intro K' hK
        go_simp
        refine hK _ _ (fun _ => rto_set (p := ⟨p14, 0, none⟩) z14 _) ?_
        clear hK K'
        try simp only [Act.put, List.setIfInBounds_toArray, List.set_cons_zero, List.set_cons_succ, List.getElem_toArray, List.getElem_cons_zero, List.getElem_cons_succ]
        refine wpAnyO_one (i := 9) (by kernel_rfl) rfl ?_
        intro K' hK
        go_simp
        refine hK _ _ (fun h => absurd rfl h) ?_
        clear hK K'
        try simp only [Act.put, List.setIfInBounds_toArray, List.set_cons_zero, List.set_cons_succ, List.getElem_toArray, List.getElem_cons_zero, List.getElem_cons_succ]
        refine wpAnyO_done (by kernel_rfl) ?_ _
        clear m7 m8 x7 y7 x8 y8
        generalize (X14.setCell ⟨p14, 0, none⟩ (.slice (some ⟨b1, 0, none⟩) la.length la.length)).setCell ⟨p12, 0, none⟩ (.slice (some ⟨b13, 0, none⟩) lb.length lb.length) = XF at *
        have hOXF := hOldOf.out _ hR2
        have hszF : w.heap.size + 3 ≤ XF.heap.size := by have := hR2 (by omega); omega
        have hM := hlast.out XF XF p14 p12 b1 b13 hOXF hszF (fun Y hY => hbxX.out XF Y hR2 hY) n1' n2' q7 q8
        have hc22 := hord.out XF.heap.size p14 p12 b1 b13 _ hM
        have hAl : Old XF (XF.alloc (.cells #[.func (.func 22) #[] #[.pointer (some ⟨w.heap.size + 1, 0, none⟩), .pointer (some ⟨w.heap.size + 1 + 1, 0, none⟩), .pointer (some ⟨p14, 0, none⟩), .pointer (some ⟨p12, 0, none⟩), .pointer (some ⟨XF.heap.size, 0, none⟩)]] 82)) := (Old.refl _).alloc _
        replace hM : Aside _ := hM
        replace hc22 : Aside _ := hc22
        replace hOXF : Aside _ := hOXF
        replace hAl : Aside _ := hAl
        replace hR2 : Aside _ := hR2
        replace n1' : Aside _ := n1'
        replace n2' : Aside _ := n2'
        have hnil : ∀ W a n c, Sem.run Tryz.prog (binOp BinOp.eql 39 (Value.slice a n c) (Value.slice none 0 0)) W = .ok (.bool a.isNone) W := fun W a n c => Lib.run_eql_slice_nil W 39 3 _ _ _ _ _ Tryz.underlying39
        have nc := cells_at' (World.alloc_heap_new XF (.cells #[.nilFunc] 82)) (i := 0) rfl
        have nf := frozen_at' (World.alloc_heap_new XF (.cells #[.nilFunc] 82)) 0
        go_wp2_with (go_at_call 22; refine Calls.mono hc22.out ?_; rintro e XZ ⟨rfl, hOZ⟩)
        go_ret
        exact ⟨rfl, hOXF.out.trans (hAl.out.trans hOZ)⟩
      · intro K' hK
        go_simp
        refine hK _ _ (fun _ => rto ((Old.refl _).alloc _)) ?_
        clear hK K'
        try simp only [Act.put, List.setIfInBounds_toArray, List.set_cons_zero, List.set_cons_succ, List.getElem_toArray, List.getElem_cons_zero, List.getElem_cons_succ]
        have hO15 : Old X12 (X12.alloc (.cells #[.slice none 0 0] 39)) := (Old.refl _).alloc _
        have c15 := World.alloc_heap_new X12 (.cells #[.slice none 0 0] 39)
        have z15 : K ≤ X12.heap.size := by have := hQ12.size; omega
        have s15 : X12.heap.size < (X12.alloc (.cells #[.slice none 0 0] 39)).heap.size := by simp
        generalize X12.alloc (.cells #[.slice none 0 0] 39) = X15 at *
        generalize hp15 : X12.heap.size = p15 at *
        have hQ15 := hQ12.trans hO15
        have nx_15 := NumsAt.old nx_12 hO15
        have c8q15 := (hO15.heap _ (Array.getElem?_eq_some_iff.1 c12).1).trans c12
        have hne15 : p15 ≠ p12 := by have := (Old.refl X12).size; omega
        refine wpAnyO_one (i := 5) (by kernel_rfl) rfl ?_
        intro K' hK
        go_simp
        (go_at_call 21; refine Calls.mono (heb.out _ (hOw2.out.trans hQ15)) ?_; rintro e X16 ⟨b16, rfl, hr16, _, hO16⟩)
        refine hK _ _ (fun _ => rto hO16) ?_
        clear hK K'
        try simp only [Act.put, List.setIfInBounds_toArray, List.set_cons_zero, List.set_cons_succ, List.getElem_toArray, List.getElem_cons_zero, List.getElem_cons_succ]
        have hQ16 := hQ15.trans hO16
        have nx_16 := NumsAt.old nx_15 hO16
        have c8q16 := (hO16.heap _ (Array.getElem?_eq_some_iff.1 c8q15).1).trans c8q15
        have c7q16 := (hO16.heap _ (Array.getElem?_eq_some_iff.1 c15).1).trans c15
        have hn16 := NumsAt.of hr16
        have e17 := nums_ne nx_16 hca (cells_at' c7q16 (i := 0) rfl)
        have e18 := nums_ne nx_16 hca (cells_at' c8q16 (i := 0) rfl)
        have e27 := nums_ne hn16 hcb (cells_at' c7q16 (i := 0) rfl)
        have e28 := nums_ne hn16 hcb (cells_at' c8q16 (i := 0) rfl)
        have hne : p12 ≠ p15 := hne15.symm
        have hR : RTo K w2 X16 := rto hQ16
        have x7 := cells_at' c7q16 (i := 0) rfl
        have y7 := frozen_at' c7q16 0
        have m7 := heap_setCell_same X16 p15 0 _ 39 (.slice (some ⟨b1, 0, none⟩) la.length la.length) c7q16
        have m8 := (heap_setCell_other X16 ⟨p15, 0, none⟩ p12 (.slice (some ⟨b1, 0, none⟩) la.length la.length) hne).trans c8q16
        have x8 := cells_at' m8 (i := 0) rfl
        have y8 := frozen_at' m8 0
        have q7 := cells_at' ((heap_setCell_other (X16.setCell ⟨p15, 0, none⟩ (.slice (some ⟨b1, 0, none⟩) la.length la.length)) ⟨p12, 0, none⟩ p15 (.slice (some ⟨b16, 0, none⟩) lb.length lb.length) hne.symm).trans m7) (i := 0) rfl
        have q8 := cells_at' (heap_setCell_same (X16.setCell ⟨p15, 0, none⟩ (.slice (some ⟨b1, 0, none⟩) la.length la.length)) p12 0 _ 39 (.slice (some ⟨b16, 0, none⟩) lb.length lb.length) m8) (i := 0) rfl
        have n1' := nums_set (v := (.slice (some ⟨b16, 0, none⟩) lb.length lb.length)) (nums_set (v := (.slice (some ⟨b1, 0, none⟩) la.length la.length)) nx_16 e17) e18
        have n2' := nums_set (v := (.slice (some ⟨b16, 0, none⟩) lb.length lb.length)) (nums_set (v := (.slice (some ⟨b1, 0, none⟩) la.length la.length)) hn16 e27) e28
        have hR2 : RTo K w2 ((X16.setCell ⟨p15, 0, none⟩ (.slice (some ⟨b1, 0, none⟩) la.length la.length)).setCell ⟨p12, 0, none⟩ (.slice (some ⟨b16, 0, none⟩) lb.length lb.length)) := (hR.trans (rto_set (p := ⟨p15, 0, none⟩) z15 _)).trans (rto_set (p := ⟨p12, 0, none⟩) z12 _)
        refine wpAnyO_one (i := 8) (by kernel_rfl) rfl ?_
        intro K' hK
        go_simp
        refine hK _ _ (fun _ => rto_set (p := ⟨p15, 0, none⟩) z15 _) ?_
        clear hK K'
        try simp only [Act.put, List.setIfInBounds_toArray, List.set_cons_zero, List.set_cons_succ, List.getElem_toArray, List.getElem_cons_zero, List.getElem_cons_succ]
        refine wpAnyO_one (i := 9) (by kernel_rfl) rfl ?_
        intro K' hK
        go_simp
        refine hK _ _ (fun h => absurd rfl h) ?_
        clear hK K'
        try simp only [Act.put, List.setIfInBounds_toArray, List.set_cons_zero, List.set_cons_succ, List.getElem_toArray, List.getElem_cons_zero, List.getElem_cons_succ]
        refine wpAnyO_done (by kernel_rfl) ?_ _
        clear m7 m8 x7 y7 x8 y8
        generalize (X16.setCell ⟨p15, 0, none⟩ (.slice (some ⟨b1, 0, none⟩) la.length la.length)).setCell ⟨p12, 0, none⟩ (.slice (some ⟨b16, 0, none⟩) lb.length lb.length) = XF at *
        have hOXF := hOldOf.out _ hR2
        have hszF : w.heap.size + 3 ≤ XF.heap.size := by have := hR2 (by omega); omega
        have hM := hlast.out XF XF p15 p12 b1 b16 hOXF hszF (fun Y hY => hbxX.out XF Y hR2 hY) n1' n2' q7 q8
        have hc22 := hord.out XF.heap.size p15 p12 b1 b16 _ hM
        have hAl : Old XF (XF.alloc (.cells #[.func (.func 22) #[] #[.pointer (some ⟨w.heap.size + 1, 0, none⟩), .pointer (some ⟨w.heap.size + 1 + 1, 0, none⟩), .pointer (some ⟨p15, 0, none⟩), .pointer (some ⟨p12, 0, none⟩), .pointer (some ⟨XF.heap.size, 0, none⟩)]] 82)) := (Old.refl _).alloc _
        replace hM : Aside _ := hM
        replace hc22 : Aside _ := hc22
        replace hOXF : Aside _ := hOXF
        replace hAl : Aside _ := hAl
        replace hR2 : Aside _ := hR2
        replace n1' : Aside _ := n1'
        replace n2' : Aside _ := n2'
        have hnil : ∀ W a n c, Sem.run Tryz.prog (binOp BinOp.eql 39 (Value.slice a n c) (Value.slice none 0 0)) W = .ok (.bool a.isNone) W := fun W a n c => Lib.run_eql_slice_nil W 39 3 _ _ _ _ _ Tryz.underlying39
        have nc := cells_at' (World.alloc_heap_new XF (.cells #[.nilFunc] 82)) (i := 0) rfl
        have nf := frozen_at' (World.alloc_heap_new XF (.cells #[.nilFunc] 82)) 0
        go_wp2_with (go_at_call 22; refine Calls.mono hc22.out ?_; rintro e XZ ⟨rfl, hOZ⟩)
        go_ret
        exact ⟨rfl, hOXF.out.trans (hAl.out.trans hOZ)⟩
  · intro K' hK
    go_simp
    refine hK _ _ (fun _ => rto ((Old.refl _).alloc _)) ?_
    clear hK K'
    try simp only [Act.put, List.setIfInBounds_toArray, List.set_cons_zero, List.set_cons_succ, List.getElem_toArray, List.getElem_cons_zero, List.getElem_cons_succ]
    have hO17 : Old X0 (X0.alloc (.cells #[.slice none 0 0] 39)) := (Old.refl _).alloc _
    have c17 := World.alloc_heap_new X0 (.cells #[.slice none 0 0] 39)
    have z17 : K ≤ X0.heap.size := by have := hQ0.out.size; omega
    have s17 : X0.heap.size < (X0.alloc (.cells #[.slice none 0 0] 39)).heap.size := by simp
    generalize X0.alloc (.cells #[.slice none 0 0] 39) = X17 at *
    generalize hp17 : X0.heap.size = p17 at *
    have hQ17 := hQ0.out.trans hO17
    refine wpAnyO_two (i := 2) (j := 7) (by kernel_rfl) rfl rfl ?_ ?_
    · intro K' hK
      go_simp
      (go_at_call 21; refine Calls.mono (hea.out _ (hOw2.out.trans hQ17)) ?_; rintro e X18 ⟨b18, rfl, hr18, _, hO18⟩)
      refine hK _ _ (fun _ => rto hO18) ?_
      clear hK K'
      try simp only [Act.put, List.setIfInBounds_toArray, List.set_cons_zero, List.set_cons_succ, List.getElem_toArray, List.getElem_cons_zero, List.getElem_cons_succ]
      have hQ18 := hQ17.trans hO18
      have c7q18 := (hO18.heap _ (Array.getElem?_eq_some_iff.1 c17).1).trans c17
      have hn18 := NumsAt.of hr18
      refine wpAnyO_two (i := 5) (j := 7) (by kernel_rfl) rfl rfl ?_ ?_
      · intro K' hK
        go_simp
        (go_at_call 21; refine Calls.mono (heb.out _ (hOw2.out.trans hQ18)) ?_; rintro e X19 ⟨b19, rfl, hr19, _, hO19⟩)
        refine hK _ _ (fun _ => rto hO19) ?_
        clear hK K'
        try simp only [Act.put, List.setIfInBounds_toArray, List.set_cons_zero, List.set_cons_succ, List.getElem_toArray, List.getElem_cons_zero, List.getElem_cons_succ]
        have hQ19 := hQ18.trans hO19
        have c7q19 := (hO19.heap _ (Array.getElem?_eq_some_iff.1 c7q18).1).trans c7q18
        have nx_19 := NumsAt.old hn18 hO19
        have hn19 := NumsAt.of hr19
        refine wpAnyO_one (i := 7) (by kernel_rfl) rfl ?_
        intro K' hK
        go_simp
        refine hK _ _ (fun _ => rto ((Old.refl _).alloc _)) ?_
        clear hK K'
        try simp only [Act.put, List.setIfInBounds_toArray, List.set_cons_zero, List.set_cons_succ, List.getElem_toArray, List.getElem_cons_zero, List.getElem_cons_succ]
        have hO20 : Old X19 (X19.alloc (.cells #[.slice none 0 0] 39)) := (Old.refl _).alloc _
        have c20 := World.alloc_heap_new X19 (.cells #[.slice none 0 0] 39)
        have z20 : K ≤ X19.heap.size := by have := hQ19.size; omega
        have s20 : X19.heap.size < (X19.alloc (.cells #[.slice none 0 0] 39)).heap.size := by simp
        generalize X19.alloc (.cells #[.slice none 0 0] 39) = X20 at *
        generalize hp20 : X19.heap.size = p20 at *
        have hQ20 := hQ19.trans hO20
        have c7q20 := (hO20.heap _ (Array.getElem?_eq_some_iff.1 c7q19).1).trans c7q19
        have nx_20 := NumsAt.old nx_19 hO20
        have ny_20 := NumsAt.old hn19 hO20
        have hne20 : p20 ≠ p17 := by have := (((Old.refl X17).trans hO18).trans hO19).size; omega
        have e17 := nums_ne nx_20 hca (cells_at' c7q20 (i := 0) rfl)
        have e18 := nums_ne nx_20 hca (cells_at' c20 (i := 0) rfl)
        have e27 := nums_ne ny_20 hcb (cells_at' c7q20 (i := 0) rfl)
        have e28 := nums_ne ny_20 hcb (cells_at' c20 (i := 0) rfl)
        have hne : p20 ≠ p17 := hne20
        have hR : RTo K w2 X20 := rto hQ20
        have x7 := cells_at' c7q20 (i := 0) rfl
        have y7 := frozen_at' c7q20 0
        have m7 := heap_setCell_same X20 p17 0 _ 39 (.slice (some ⟨b18, 0, none⟩) la.length la.length) c7q20
        have m8 := (heap_setCell_other X20 ⟨p17, 0, none⟩ p20 (.slice (some ⟨b18, 0, none⟩) la.length la.length) hne).trans c20
        have x8 := cells_at' m8 (i := 0) rfl
        have y8 := frozen_at' m8 0
        have q7 := cells_at' ((heap_setCell_other (X20.setCell ⟨p17, 0, none⟩ (.slice (some ⟨b18, 0, none⟩) la.length la.length)) ⟨p20, 0, none⟩ p17 (.slice (some ⟨b19, 0, none⟩) lb.length lb.length) hne.symm).trans m7) (i := 0) rfl
        have q8 := cells_at' (heap_setCell_same (X20.setCell ⟨p17, 0, none⟩ (.slice (some ⟨b18, 0, none⟩) la.length la.length)) p20 0 _ 39 (.slice (some ⟨b19, 0, none⟩) lb.length lb.length) m8) (i := 0) rfl
        have n1' := nums_set (v := (.slice (some ⟨b19, 0, none⟩) lb.length lb.length)) (nums_set (v := (.slice (some ⟨b18, 0, none⟩) la.length la.length)) nx_20 e17) e18
        have n2' := nums_set (v := (.slice (some ⟨b19, 0, none⟩) lb.length lb.length)) (nums_set (v := (.slice (some ⟨b18, 0, none⟩) la.length la.length)) ny_20 e27) e28
        have hR2 : RTo K w2 ((X20.setCell ⟨p17, 0, none⟩ (.slice (some ⟨b18, 0, none⟩) la.length la.length)).setCell ⟨p20, 0, none⟩ (.slice (some ⟨b19, 0, none⟩) lb.length lb.length)) := (hR.trans (rto_set (p := ⟨p17, 0, none⟩) z17 _)).trans (rto_set (p := ⟨p20, 0, none⟩) z20 _)
        refine wpAnyO_one (i := 8) (by kernel_rfl) rfl ?_
        intro K' hK
        go_simp
        refine hK _ _ (fun _ => rto_set (p := ⟨p17, 0, none⟩) z17 _) ?_
        clear hK K'
        try simp only [Act.put, List.setIfInBounds_toArray, List.set_cons_zero, List.set_cons_succ, List.getElem_toArray, List.getElem_cons_zero, List.getElem_cons_succ]
        refine wpAnyO_one (i := 9) (by kernel_rfl) rfl ?_
        intro K' hK
        go_simp
        refine hK _ _ (fun h => absurd rfl h) ?_
        clear hK K'
        try simp only [Act.put, List.setIfInBounds_toArray, List.set_cons_zero, List.set_cons_succ, List.getElem_toArray, List.getElem_cons_zero, List.getElem_cons_succ]
        refine wpAnyO_done (by kernel_rfl) ?_ _
        clear m7 m8 x7 y7 x8 y8
        generalize (X20.setCell ⟨p17, 0, none⟩ (.slice (some ⟨b18, 0, none⟩) la.length la.length)).setCell ⟨p20, 0, none⟩ (.slice (some ⟨b19, 0, none⟩) lb.length lb.length) = XF at *
        have hOXF := hOldOf.out _ hR2
        have hszF : w.heap.size + 3 ≤ XF.heap.size := by have := hR2 (by omega); omega
        have hM := hlast.out XF XF p17 p20 b18 b19 hOXF hszF (fun Y hY => hbxX.out XF Y hR2 hY) n1' n2' q7 q8
        have hc22 := hord.out XF.heap.size p17 p20 b18 b19 _ hM
        have hAl : Old XF (XF.alloc (.cells #[.func (.func 22) #[] #[.pointer (some ⟨w.heap.size + 1, 0, none⟩), .pointer (some ⟨w.heap.size + 1 + 1, 0, none⟩), .pointer (some ⟨p17, 0, none⟩), .pointer (some ⟨p20, 0, none⟩), .pointer (some ⟨XF.heap.size, 0, none⟩)]] 82)) := (Old.refl _).alloc _
        replace hM : Aside _ := hM
        replace hc22 : Aside _ := hc22
        replace hOXF : Aside _ := hOXF
        replace hAl : Aside _ := hAl
        replace hR2 : Aside _ := hR2
        replace n1' : Aside _ := n1'
        replace n2' : Aside _ := n2'
        have hnil : ∀ W a n c, Sem.run Tryz.prog (binOp BinOp.eql 39 (Value.slice a n c) (Value.slice none 0 0)) W = .ok (.bool a.isNone) W := fun W a n c => Lib.run_eql_slice_nil W 39 3 _ _ _ _ _ Tryz.underlying39
        have nc := cells_at' (World.alloc_heap_new XF (.cells #[.nilFunc] 82)) (i := 0) rfl
        have nf := frozen_at' (World.alloc_heap_new XF (.cells #[.nilFunc] 82)) 0
        go_wp2_with (go_at_call 22; refine Calls.mono hc22.out ?_; rintro e XZ ⟨rfl, hOZ⟩)
        go_ret
        exact ⟨rfl, hOXF.out.trans (hAl.out.trans hOZ)⟩
      · intro K' hK
        go_simp
        refine hK _ _ (fun _ => rto ((Old.refl _).alloc _)) ?_
        clear hK K'
        try simp only [Act.put, List.setIfInBounds_toArray, List.set_cons_zero, List.set_cons_succ, List.getElem_toArray, List.getElem_cons_zero, List.getElem_cons_succ]
        have hO21 : Old X18 (X18.alloc (.cells #[.slice none 0 0] 39)) := (Old.refl _).alloc _
        have c21 := World.alloc_heap_new X18 (.cells #[.slice none 0 0] 39)
        have z21 : K ≤ X18.heap.size := by have := hQ18.size; omega
        have s21 : X18.heap.size < (X18.alloc (.cells #[.slice none 0 0] 39)).heap.size := by simp
        generalize X18.alloc (.cells #[.slice none 0 0] 39) = X21 at *
        generalize hp21 : X18.heap.size = p21 at *
        have hQ21 := hQ18.trans hO21
        have c7q21 := (hO21.heap _ (Array.getElem?_eq_some_iff.1 c7q18).1).trans c7q18
        have nx_21 := NumsAt.old hn18 hO21
        have hne21 : p21 ≠ p17 := by have := ((Old.refl X17).trans hO18).size; omega
        refine wpAnyO_one (i := 5) (by kernel_rfl) rfl ?_
        intro K' hK
        go_simp
        (go_at_call 21; refine Calls.mono (heb.out _ (hOw2.out.trans hQ21)) ?_; rintro e X22 ⟨b22, rfl, hr22, _, hO22⟩)
        refine hK _ _ (fun _ => rto hO22) ?_
        clear hK K'
        try simp only [Act.put, List.setIfInBounds_toArray, List.set_cons_zero, List.set_cons_succ, List.getElem_toArray, List.getElem_cons_zero, List.getElem_cons_succ]
        have hQ22 := hQ21.trans hO22
        have c7q22 := (hO22.heap _ (Array.getElem?_eq_some_iff.1 c7q21).1).trans c7q21
        have nx_22 := NumsAt.old nx_21 hO22
        have c8q22 := (hO22.heap _ (Array.getElem?_eq_some_iff.1 c21).1).trans c21
        have hn22 := NumsAt.of hr22
        have e17 := nums_ne nx_22 hca (cells_at' c7q22 (i := 0) rfl)
        have e18 := nums_ne nx_22 hca (cells_at' c8q22 (i := 0) rfl)
        have e27 := nums_ne hn22 hcb (cells_at' c7q22 (i := 0) rfl)
        have e28 := nums_ne hn22 hcb (cells_at' c8q22 (i := 0) rfl)
        have hne : p21 ≠ p17 := hne21
        have hR : RTo K w2 X22 := rto hQ22
        have x7 := cells_at' c7q22 (i := 0) rfl
        have y7 := frozen_at' c7q22 0
        have m7 := heap_setCell_same X22 p17 0 _ 39 (.slice (some ⟨b18, 0, none⟩) la.length la.length) c7q22
        have m8 := (heap_setCell_other X22 ⟨p17, 0, none⟩ p21 (.slice (some ⟨b18, 0, none⟩) la.length la.length) hne).trans c8q22
        have x8 := cells_at' m8 (i := 0) rfl
        have y8 := frozen_at' m8 0
        have q7 := cells_at' ((heap_setCell_other (X22.setCell ⟨p17, 0, none⟩ (.slice (some ⟨b18, 0, none⟩) la.length la.length)) ⟨p21, 0, none⟩ p17 (.slice (some ⟨b22, 0, none⟩) lb.length lb.length) hne.symm).trans m7) (i := 0) rfl
        have q8 := cells_at' (heap_setCell_same (X22.setCell ⟨p17, 0, none⟩ (.slice (some ⟨b18, 0, none⟩) la.length la.length)) p21 0 _ 39 (.slice (some ⟨b22, 0, none⟩) lb.length lb.length) m8) (i := 0) rfl
        have n1' := nums_set (v := (.slice (some ⟨b22, 0, none⟩) lb.length lb.length)) (nums_set (v := (.slice (some ⟨b18, 0, none⟩) la.length la.length)) nx_22 e17) e18
        have n2' := nums_set (v := (.slice (some ⟨b22, 0, none⟩) lb.length lb.length)) (nums_set (v := (.slice (some ⟨b18, 0, none⟩) la.length la.length)) hn22 e27) e28
        have hR2 : RTo K w2 ((X22.setCell ⟨p17, 0, none⟩ (.slice (some ⟨b18, 0, none⟩) la.length la.length)).setCell ⟨p21, 0, none⟩ (.slice (some ⟨b22, 0, none⟩) lb.length lb.length)) := (hR.trans (rto_set (p := ⟨p17, 0, none⟩) z17 _)).trans (rto_set (p := ⟨p21, 0, none⟩) z21 _)
        refine wpAnyO_one (i := 8) (by kernel_rfl) rfl ?_
        intro K' hK
        go_simp
        refine hK _ _ (fun _ => rto_set (p := ⟨p17, 0, none⟩) z17 _) ?_
        clear hK K'
        try simp only [Act.put, List.setIfInBounds_toArray, List.set_cons_zero, List.set_cons_succ, List.getElem_toArray, List.getElem_cons_zero, List.getElem_cons_succ]
        refine wpAnyO_one (i := 9) (by kernel_rfl) rfl ?_
        intro K' hK
        go_simp
        refine hK _ _ (fun h => absurd rfl h) ?_
        clear hK K'
        try simp only [Act.put, List.setIfInBounds_toArray, List.set_cons_zero, List.set_cons_succ, List.getElem_toArray, List.getElem_cons_zero, List.getElem_cons_succ]
        refine wpAnyO_done (by kernel_rfl) ?_ _
        clear m7 m8 x7 y7 x8 y8
        generalize (X22.setCell ⟨p17, 0, none⟩ (.slice (some ⟨b18, 0, none⟩) la.length la.length)).setCell ⟨p21, 0, none⟩ (.slice (some ⟨b22, 0, none⟩) lb.length lb.length) = XF at *
        have hOXF := hOldOf.out _ hR2
        have hszF : w.heap.size + 3 ≤ XF.heap.size := by have := hR2 (by omega); omega
        have hM := hlast.out XF XF p17 p21 b18 b22 hOXF hszF (fun Y hY => hbxX.out XF Y hR2 hY) n1' n2' q7 q8
        have hc22 := hord.out XF.heap.size p17 p21 b18 b22 _ hM
        have hAl : Old XF (XF.alloc (.cells #[.func (.func 22) #[] #[.pointer (some ⟨w.heap.size + 1, 0, none⟩), .pointer (some ⟨w.heap.size + 1 + 1, 0, none⟩), .pointer (some ⟨p17, 0, none⟩), .pointer (some ⟨p21, 0, none⟩), .pointer (some ⟨XF.heap.size, 0, none⟩)]] 82)) := (Old.refl _).alloc _
        replace hM : Aside _ := hM
        replace hc22 : Aside _ := hc22
        replace hOXF : Aside _ := hOXF
        replace hAl : Aside _ := hAl
        replace hR2 : Aside _ := hR2
        replace n1' : Aside _ := n1'
        replace n2' : Aside _ := n2'
        have hnil : ∀ W a n c, Sem.run Tryz.prog (binOp BinOp.eql 39 (Value.slice a n c) (Value.slice none 0 0)) W = .ok (.bool a.isNone) W := fun W a n c => Lib.run_eql_slice_nil W 39 3 _ _ _ _ _ Tryz.underlying39
        have nc := cells_at' (World.alloc_heap_new XF (.cells #[.nilFunc] 82)) (i := 0) rfl
        have nf := frozen_at' (World.alloc_heap_new XF (.cells #[.nilFunc] 82)) 0
        go_wp2_with (go_at_call 22; refine Calls.mono hc22.out ?_; rintro e XZ ⟨rfl, hOZ⟩)
        go_ret
        exact ⟨rfl, hOXF.out.trans (hAl.out.trans hOZ)⟩
    · intro K' hK
      go_simp
      refine hK _ _ (fun _ => rto ((Old.refl _).alloc _)) ?_
      clear hK K'
      try simp only [Act.put, List.setIfInBounds_toArray, List.set_cons_zero, List.set_cons_succ, List.getElem_toArray, List.getElem_cons_zero, List.getElem_cons_succ]
      have hO23 : Old X17 (X17.alloc (.cells #[.slice none 0 0] 39)) := (Old.refl _).alloc _
      have c23 := World.alloc_heap_new X17 (.cells #[.slice none 0 0] 39)
      have z23 : K ≤ X17.heap.size := by have := hQ17.size; omega
      have s23 : X17.heap.size < (X17.alloc (.cells #[.slice none 0 0] 39)).heap.size := by simp
      generalize X17.alloc (.cells #[.slice none 0 0] 39) = X23 at *
      generalize hp23 : X17.heap.size = p23 at *
      have hQ23 := hQ17.trans hO23
      have c7q23 := (hO23.heap _ (Array.getElem?_eq_some_iff.1 c17).1).trans c17
      have hne23 : p23 ≠ p17 := by have := (Old.refl X17).size; omega
      refine wpAnyO_one (i := 2) (by kernel_rfl) rfl ?_
      intro K' hK
      go_simp
      (go_at_call 21; refine Calls.mono (hea.out _ (hOw2.out.trans hQ23)) ?_; rintro e X24 ⟨b24, rfl, hr24, _, hO24⟩)
      refine hK _ _ (fun _ => rto hO24) ?_
      clear hK K'
      try simp only [Act.put, List.setIfInBounds_toArray, List.set_cons_zero, List.set_cons_succ, List.getElem_toArray, List.getElem_cons_zero, List.getElem_cons_succ]
      have hQ24 := hQ23.trans hO24
      have c7q24 := (hO24.heap _ (Array.getElem?_eq_some_iff.1 c7q23).1).trans c7q23
      have c8q24 := (hO24.heap _ (Array.getElem?_eq_some_iff.1 c23).1).trans c23
      have hn24 := NumsAt.of hr24
      refine wpAnyO_one (i := 5) (by kernel_rfl) rfl ?_
      intro K' hK
      go_simp
      (go_at_call 21; refine Calls.mono (heb.out _ (hOw2.out.trans hQ24)) ?_; rintro e X25 ⟨b25, rfl, hr25, _, hO25⟩)
      refine hK _ _ (fun _ => rto hO25) ?_
      clear hK K'
      try simp only [Act.put, List.setIfInBounds_toArray, List.set_cons_zero, List.set_cons_succ, List.getElem_toArray, List.getElem_cons_zero, List.getElem_cons_succ]
      have hQ25 := hQ24.trans hO25
      have c7q25 := (hO25.heap _ (Array.getElem?_eq_some_iff.1 c7q24).1).trans c7q24
      have c8q25 := (hO25.heap _ (Array.getElem?_eq_some_iff.1 c8q24).1).trans c8q24
      have nx_25 := NumsAt.old hn24 hO25
      have hn25 := NumsAt.of hr25
      have e17 := nums_ne nx_25 hca (cells_at' c7q25 (i := 0) rfl)
      have e18 := nums_ne nx_25 hca (cells_at' c8q25 (i := 0) rfl)
      have e27 := nums_ne hn25 hcb (cells_at' c7q25 (i := 0) rfl)
      have e28 := nums_ne hn25 hcb (cells_at' c8q25 (i := 0) rfl)
      have hne : p23 ≠ p17 := hne23
      have hR : RTo K w2 X25 := rto hQ25
      have x7 := cells_at' c7q25 (i := 0) rfl
      have y7 := frozen_at' c7q25 0
      have m7 := heap_setCell_same X25 p17 0 _ 39 (.slice (some ⟨b24, 0, none⟩) la.length la.length) c7q25
      have m8 := (heap_setCell_other X25 ⟨p17, 0, none⟩ p23 (.slice (some ⟨b24, 0, none⟩) la.length la.length) hne).trans c8q25
      have x8 := cells_at' m8 (i := 0) rfl
      have y8 := frozen_at' m8 0
      have q7 := cells_at' ((heap_setCell_other (X25.setCell ⟨p17, 0, none⟩ (.slice (some ⟨b24, 0, none⟩) la.length la.length)) ⟨p23, 0, none⟩ p17 (.slice (some ⟨b25, 0, none⟩) lb.length lb.length) hne.symm).trans m7) (i := 0) rfl
      have q8 := cells_at' (heap_setCell_same (X25.setCell ⟨p17, 0, none⟩ (.slice (some ⟨b24, 0, none⟩) la.length la.length)) p23 0 _ 39 (.slice (some ⟨b25, 0, none⟩) lb.length lb.length) m8) (i := 0) rfl
      have n1' := nums_set (v := (.slice (some ⟨b25, 0, none⟩) lb.length lb.length)) (nums_set (v := (.slice (some ⟨b24, 0, none⟩) la.length la.length)) nx_25 e17) e18
      have n2' := nums_set (v := (.slice (some ⟨b25, 0, none⟩) lb.length lb.length)) (nums_set (v := (.slice (some ⟨b24, 0, none⟩) la.length la.length)) hn25 e27) e28
      have hR2 : RTo K w2 ((X25.setCell ⟨p17, 0, none⟩ (.slice (some ⟨b24, 0, none⟩) la.length la.length)).setCell ⟨p23, 0, none⟩ (.slice (some ⟨b25, 0, none⟩) lb.length lb.length)) := (hR.trans (rto_set (p := ⟨p17, 0, none⟩) z17 _)).trans (rto_set (p := ⟨p23, 0, none⟩) z23 _)
      refine wpAnyO_one (i := 8) (by kernel_rfl) rfl ?_
      intro K' hK
      go_simp
      refine hK _ _ (fun _ => rto_set (p := ⟨p17, 0, none⟩) z17 _) ?_
      clear hK K'
      try simp only [Act.put, List.setIfInBounds_toArray, List.set_cons_zero, List.set_cons_succ, List.getElem_toArray, List.getElem_cons_zero, List.getElem_cons_succ]
      refine wpAnyO_one (i := 9) (by kernel_rfl) rfl ?_
      intro K' hK
      go_simp
      refine hK _ _ (fun h => absurd rfl h) ?_
      clear hK K'
      try simp only [Act.put, List.setIfInBounds_toArray, List.set_cons_zero, List.set_cons_succ, List.getElem_toArray, List.getElem_cons_zero, List.getElem_cons_succ]
      refine wpAnyO_done (by kernel_rfl) ?_ _
      clear m7 m8 x7 y7 x8 y8
      generalize (X25.setCell ⟨p17, 0, none⟩ (.slice (some ⟨b24, 0, none⟩) la.length la.length)).setCell ⟨p23, 0, none⟩ (.slice (some ⟨b25, 0, none⟩) lb.length lb.length) = XF at *
      have hOXF := hOldOf.out _ hR2
      have hszF : w.heap.size + 3 ≤ XF.heap.size := by have := hR2 (by omega); omega
      have hM := hlast.out XF XF p17 p23 b24 b25 hOXF hszF (fun Y hY => hbxX.out XF Y hR2 hY) n1' n2' q7 q8
      have hc22 := hord.out XF.heap.size p17 p23 b24 b25 _ hM
      have hAl : Old XF (XF.alloc (.cells #[.func (.func 22) #[] #[.pointer (some ⟨w.heap.size + 1, 0, none⟩), .pointer (some ⟨w.heap.size + 1 + 1, 0, none⟩), .pointer (some ⟨p17, 0, none⟩), .pointer (some ⟨p23, 0, none⟩), .pointer (some ⟨XF.heap.size, 0, none⟩)]] 82)) := (Old.refl _).alloc _
      replace hM : Aside _ := hM
      replace hc22 : Aside _ := hc22
      replace hOXF : Aside _ := hOXF
      replace hAl : Aside _ := hAl
      replace hR2 : Aside _ := hR2
      replace n1' : Aside _ := n1'
      replace n2' : Aside _ := n2'
      have hnil : ∀ W a n c, Sem.run Tryz.prog (binOp BinOp.eql 39 (Value.slice a n c) (Value.slice none 0 0)) W = .ok (.bool a.isNone) W := fun W a n c => Lib.run_eql_slice_nil W 39 3 _ _ _ _ _ Tryz.underlying39
      have nc := cells_at' (World.alloc_heap_new XF (.cells #[.nilFunc] 82)) (i := 0) rfl
      have nf := frozen_at' (World.alloc_heap_new XF (.cells #[.nilFunc] 82)) 0
      go_wp2_with (go_at_call 22; refine Calls.mono hc22.out ?_; rintro e XZ ⟨rfl, hOZ⟩)
      go_ret
      exact ⟨rfl, hOXF.out.trans (hAl.out.trans hOZ)⟩
  · intro K' hK
    go_simp
    refine hK _ _ (fun _ => rto ((Old.refl _).alloc _)) ?_
    clear hK K'
    try simp only [Act.put, List.setIfInBounds_toArray, List.set_cons_zero, List.set_cons_succ, List.getElem_toArray, List.getElem_cons_zero, List.getElem_cons_succ]
    have hO26 : Old X0 (X0.alloc (.cells #[.slice none 0 0] 39)) := (Old.refl _).alloc _
    have c26 := World.alloc_heap_new X0 (.cells #[.slice none 0 0] 39)
    have z26 : K ≤ X0.heap.size := by have := hQ0.out.size; omega
    have s26 : X0.heap.size < (X0.alloc (.cells #[.slice none 0 0] 39)).heap.size := by simp
    generalize X0.alloc (.cells #[.slice none 0 0] 39) = X26 at *
    generalize hp26 : X0.heap.size = p26 at *
    have hQ26 := hQ0.out.trans hO26
    refine wpAnyO_two (i := 2) (j := 6) (by kernel_rfl) rfl rfl ?_ ?_
    · intro K' hK
      go_simp
      (go_at_call 21; refine Calls.mono (hea.out _ (hOw2.out.trans hQ26)) ?_; rintro e X27 ⟨b27, rfl, hr27, _, hO27⟩)
      refine hK _ _ (fun _ => rto hO27) ?_
      clear hK K'
      try simp only [Act.put, List.setIfInBounds_toArray, List.set_cons_zero, List.set_cons_succ, List.getElem_toArray, List.getElem_cons_zero, List.getElem_cons_succ]
      have hQ27 := hQ26.trans hO27
      have c8q27 := (hO27.heap _ (Array.getElem?_eq_some_iff.1 c26).1).trans c26
      have hn27 := NumsAt.of hr27
      refine wpAnyO_two (i := 5) (j := 6) (by kernel_rfl) rfl rfl ?_ ?_
      · intro K' hK
        go_simp
        (go_at_call 21; refine Calls.mono (heb.out _ (hOw2.out.trans hQ27)) ?_; rintro e X28 ⟨b28, rfl, hr28, _, hO28⟩)
        refine hK _ _ (fun _ => rto hO28) ?_
        clear hK K'
        try simp only [Act.put, List.setIfInBounds_toArray, List.set_cons_zero, List.set_cons_succ, List.getElem_toArray, List.getElem_cons_zero, List.getElem_cons_succ]
        have hQ28 := hQ27.trans hO28
        have c8q28 := (hO28.heap _ (Array.getElem?_eq_some_iff.1 c8q27).1).trans c8q27
        have nx_28 := NumsAt.old hn27 hO28
        have hn28 := NumsAt.of hr28
        refine wpAnyO_one (i := 6) (by kernel_rfl) rfl ?_
        intro K' hK
        go_simp
        refine hK _ _ (fun _ => rto ((Old.refl _).alloc _)) ?_
        clear hK K'
        try simp only [Act.put, List.setIfInBounds_toArray, List.set_cons_zero, List.set_cons_succ, List.getElem_toArray, List.getElem_cons_zero, List.getElem_cons_succ]
        have hO29 : Old X28 (X28.alloc (.cells #[.slice none 0 0] 39)) := (Old.refl _).alloc _
        have c29 := World.alloc_heap_new X28 (.cells #[.slice none 0 0] 39)
        have z29 : K ≤ X28.heap.size := by have := hQ28.size; omega
        have s29 : X28.heap.size < (X28.alloc (.cells #[.slice none 0 0] 39)).heap.size := by simp
        generalize X28.alloc (.cells #[.slice none 0 0] 39) = X29 at *
        generalize hp29 : X28.heap.size = p29 at *
        have hQ29 := hQ28.trans hO29
        have c8q29 := (hO29.heap _ (Array.getElem?_eq_some_iff.1 c8q28).1).trans c8q28
        have nx_29 := NumsAt.old nx_28 hO29
        have ny_29 := NumsAt.old hn28 hO29
        have hne29 : p29 ≠ p26 := by have := (((Old.refl X26).trans hO27).trans hO28).size; omega
        have e17 := nums_ne nx_29 hca (cells_at' c29 (i := 0) rfl)
        have e18 := nums_ne nx_29 hca (cells_at' c8q29 (i := 0) rfl)
        have e27 := nums_ne ny_29 hcb (cells_at' c29 (i := 0) rfl)
        have e28 := nums_ne ny_29 hcb (cells_at' c8q29 (i := 0) rfl)
        have hne : p26 ≠ p29 := hne29.symm
        have hR : RTo K w2 X29 := rto hQ29
        have x7 := cells_at' c29 (i := 0) rfl
        have y7 := frozen_at' c29 0
        have m7 := heap_setCell_same X29 p29 0 _ 39 (.slice (some ⟨b27, 0, none⟩) la.length la.length) c29
        have m8 := (heap_setCell_other X29 ⟨p29, 0, none⟩ p26 (.slice (some ⟨b27, 0, none⟩) la.length la.length) hne).trans c8q29
        have x8 := cells_at' m8 (i := 0) rfl
        have y8 := frozen_at' m8 0
        have q7 := cells_at' ((heap_setCell_other (X29.setCell ⟨p29, 0, none⟩ (.slice (some ⟨b27, 0, none⟩) la.length la.length)) ⟨p26, 0, none⟩ p29 (.slice (some ⟨b28, 0, none⟩) lb.length lb.length) hne.symm).trans m7) (i := 0) rfl
        have q8 := cells_at' (heap_setCell_same (X29.setCell ⟨p29, 0, none⟩ (.slice (some ⟨b27, 0, none⟩) la.length la.length)) p26 0 _ 39 (.slice (some ⟨b28, 0, none⟩) lb.length lb.length) m8) (i := 0) rfl
        have n1' := nums_set (v := (.slice (some ⟨b28, 0, none⟩) lb.length lb.length)) (nums_set (v := (.slice (some ⟨b27, 0, none⟩) la.length la.length)) nx_29 e17) e18
        have n2' := nums_set (v := (.slice (some ⟨b28, 0, none⟩) lb.length lb.length)) (nums_set (v := (.slice (some ⟨b27, 0, none⟩) la.length la.length)) ny_29 e27) e28
        have hR2 : RTo K w2 ((X29.setCell ⟨p29, 0, none⟩ (.slice (some ⟨b27, 0, none⟩) la.length la.length)).setCell ⟨p26, 0, none⟩ (.slice (some ⟨b28, 0, none⟩) lb.length lb.length)) := (hR.trans (rto_set (p := ⟨p29, 0, none⟩) z29 _)).trans (rto_set (p := ⟨p26, 0, none⟩) z26 _)
        refine wpAnyO_one (i := 8) (by kernel_rfl) rfl ?_
        intro K' hK
        go_simp
        refine hK _ _ (fun _ => rto_set (p := ⟨p29, 0, none⟩) z29 _) ?_
        clear hK K'
        try simp only [Act.put, List.setIfInBounds_toArray, List.set_cons_zero, List.set_cons_succ, List.getElem_toArray, List.getElem_cons_zero, List.getElem_cons_succ]
        refine wpAnyO_one (i := 9) (by kernel_rfl) rfl ?_
        intro K' hK
        go_simp
        refine hK _ _ (fun h => absurd rfl h) ?_
        clear hK K'
        try simp only [Act.put, List.setIfInBounds_toArray, List.set_cons_zero, List.set_cons_succ, List.getElem_toArray, List.getElem_cons_zero, List.getElem_cons_succ]
        refine wpAnyO_done (by kernel_rfl) ?_ _
        clear m7 m8 x7 y7 x8 y8
        generalize (X29.setCell ⟨p29, 0, none⟩ (.slice (some ⟨b27, 0, none⟩) la.length la.length)).setCell ⟨p26, 0, none⟩ (.slice (some ⟨b28, 0, none⟩) lb.length lb.length) = XF at *
        have hOXF := hOldOf.out _ hR2
        have hszF : w.heap.size + 3 ≤ XF.heap.size := by have := hR2 (by omega); omega
        have hM := hlast.out XF XF p29 p26 b27 b28 hOXF hszF (fun Y hY => hbxX.out XF Y hR2 hY) n1' n2' q7 q8
        have hc22 := hord.out XF.heap.size p29 p26 b27 b28 _ hM
        have hAl : Old XF (XF.alloc (.cells #[.func (.func 22) #[] #[.pointer (some ⟨w.heap.size + 1, 0, none⟩), .pointer (some ⟨w.heap.size + 1 + 1, 0, none⟩), .pointer (some ⟨p29, 0, none⟩), .pointer (some ⟨p26, 0, none⟩), .pointer (some ⟨XF.heap.size, 0, none⟩)]] 82)) := (Old.refl _).alloc _
        replace hM : Aside _ := hM
        replace hc22 : Aside _ := hc22
        replace hOXF : Aside _ := hOXF
        replace hAl : Aside _ := hAl
        replace hR2 : Aside _ := hR2
        replace n1' : Aside _ := n1'
        replace n2' : Aside _ := n2'
        have hnil : ∀ W a n c, Sem.run Tryz.prog (binOp BinOp.eql 39 (Value.slice a n c) (Value.slice none 0 0)) W = .ok (.bool a.isNone) W := fun W a n c => Lib.run_eql_slice_nil W 39 3 _ _ _ _ _ Tryz.underlying39
        have nc := cells_at' (World.alloc_heap_new XF (.cells #[.nilFunc] 82)) (i := 0) rfl
        have nf := frozen_at' (World.alloc_heap_new XF (.cells #[.nilFunc] 82)) 0
        go_wp2_with (go_at_call 22; refine Calls.mono hc22.out ?_; rintro e XZ ⟨rfl, hOZ⟩)
        go_ret
        exact ⟨rfl, hOXF.out.trans (hAl.out.trans hOZ)⟩
      · intro K' hK
        go_simp
        refine hK _ _ (fun _ => rto ((Old.refl _).alloc _)) ?_
        clear hK K'
        try simp only [Act.put, List.setIfInBounds_toArray, List.set_cons_zero, List.set_cons_succ, List.getElem_toArray, List.getElem_cons_zero, List.getElem_cons_succ]
        have hO30 : Old X27 (X27.alloc (.cells #[.slice none 0 0] 39)) := (Old.refl _).alloc _
        have c30 := World.alloc_heap_new X27 (.cells #[.slice none 0 0] 39)
        have z30 : K ≤ X27.heap.size := by have := hQ27.size; omega
        have s30 : X27.heap.size < (X27.alloc (.cells #[.slice none 0 0] 39)).heap.size := by simp
        generalize X27.alloc (.cells #[.slice none 0 0] 39) = X30 at *
        generalize hp30 : X27.heap.size = p30 at *
        have hQ30 := hQ27.trans hO30
        have c8q30 := (hO30.heap _ (Array.getElem?_eq_some_iff.1 c8q27).1).trans c8q27
        have nx_30 := NumsAt.old hn27 hO30
        have hne30 : p30 ≠ p26 := by have := ((Old.refl X26).trans hO27).size; omega
        refine wpAnyO_one (i := 5) (by kernel_rfl) rfl ?_
        intro K' hK
        go_simp
        (go_at_call 21; refine Calls.mono (heb.out _ (hOw2.out.trans hQ30)) ?_; rintro e X31 ⟨b31, rfl, hr31, _, hO31⟩)
        refine hK _ _ (fun _ => rto hO31) ?_
        clear hK K'
        try simp only [Act.put, List.setIfInBounds_toArray, List.set_cons_zero, List.set_cons_succ, List.getElem_toArray, List.getElem_cons_zero, List.getElem_cons_succ]
        have hQ31 := hQ30.trans hO31
        have c8q31 := (hO31.heap _ (Array.getElem?_eq_some_iff.1 c8q30).1).trans c8q30
        have nx_31 := NumsAt.old nx_30 hO31
        have c7q31 := (hO31.heap _ (Array.getElem?_eq_some_iff.1 c30).1).trans c30
        have hn31 := NumsAt.of hr31
        have e17 := nums_ne nx_31 hca (cells_at' c7q31 (i := 0) rfl)
        have e18 := nums_ne nx_31 hca (cells_at' c8q31 (i := 0) rfl)
        have e27 := nums_ne hn31 hcb (cells_at' c7q31 (i := 0) rfl)
        have e28 := nums_ne hn31 hcb (cells_at' c8q31 (i := 0) rfl)
        have hne : p26 ≠ p30 := hne30.symm
        have hR : RTo K w2 X31 := rto hQ31
        have x7 := cells_at' c7q31 (i := 0) rfl
        have y7 := frozen_at' c7q31 0
        have m7 := heap_setCell_same X31 p30 0 _ 39 (.slice (some ⟨b27, 0, none⟩) la.length la.length) c7q31
        have m8 := (heap_setCell_other X31 ⟨p30, 0, none⟩ p26 (.slice (some ⟨b27, 0, none⟩) la.length la.length) hne).trans c8q31
        have x8 := cells_at' m8 (i := 0) rfl
        have y8 := frozen_at' m8 0
        have q7 := cells_at' ((heap_setCell_other (X31.setCell ⟨p30, 0, none⟩ (.slice (some ⟨b27, 0, none⟩) la.length la.length)) ⟨p26, 0, none⟩ p30 (.slice (some ⟨b31, 0, none⟩) lb.length lb.length) hne.symm).trans m7) (i := 0) rfl
        have q8 := cells_at' (heap_setCell_same (X31.setCell ⟨p30, 0, none⟩ (.slice (some ⟨b27, 0, none⟩) la.length la.length)) p26 0 _ 39 (.slice (some ⟨b31, 0, none⟩) lb.length lb.length) m8) (i := 0) rfl
        have n1' := nums_set (v := (.slice (some ⟨b31, 0, none⟩) lb.length lb.length)) (nums_set (v := (.slice (some ⟨b27, 0, none⟩) la.length la.length)) nx_31 e17) e18
        have n2' := nums_set (v := (.slice (some ⟨b31, 0, none⟩) lb.length lb.length)) (nums_set (v := (.slice (some ⟨b27, 0, none⟩) la.length la.length)) hn31 e27) e28
        have hR2 : RTo K w2 ((X31.setCell ⟨p30, 0, none⟩ (.slice (some ⟨b27, 0, none⟩) la.length la.length)).setCell ⟨p26, 0, none⟩ (.slice (some ⟨b31, 0, none⟩) lb.length lb.length)) := (hR.trans (rto_set (p := ⟨p30, 0, none⟩) z30 _)).trans (rto_set (p := ⟨p26, 0, none⟩) z26 _)
        refine wpAnyO_one (i := 8) (by kernel_rfl) rfl ?_
        intro K' hK
        go_simp
        refine hK _ _ (fun _ => rto_set (p := ⟨p30, 0, none⟩) z30 _) ?_
        clear hK K'
        try simp only [Act.put, List.setIfInBounds_toArray, List.set_cons_zero, List.set_cons_succ, List.getElem_toArray, List.getElem_cons_zero, List.getElem_cons_succ]
        refine wpAnyO_one (i := 9) (by kernel_rfl) rfl ?_
        intro K' hK
        go_simp
        refine hK _ _ (fun h => absurd rfl h) ?_
        clear hK K'
        try simp only [Act.put, List.setIfInBounds_toArray, List.set_cons_zero, List.set_cons_succ, List.getElem_toArray, List.getElem_cons_zero, List.getElem_cons_succ]
        refine wpAnyO_done (by kernel_rfl) ?_ _
        clear m7 m8 x7 y7 x8 y8
        generalize (X31.setCell ⟨p30, 0, none⟩ (.slice (some ⟨b27, 0, none⟩) la.length la.length)).setCell ⟨p26, 0, none⟩ (.slice (some ⟨b31, 0, none⟩) lb.length lb.length) = XF at *
        have hOXF := hOldOf.out _ hR2
        have hszF : w.heap.size + 3 ≤ XF.heap.size := by have := hR2 (by omega); omega
        have hM := hlast.out XF XF p30 p26 b27 b31 hOXF hszF (fun Y hY => hbxX.out XF Y hR2 hY) n1' n2' q7 q8
        have hc22 := hord.out XF.heap.size p30 p26 b27 b31 _ hM
        have hAl : Old XF (XF.alloc (.cells #[.func (.func 22) #[] #[.pointer (some ⟨w.heap.size + 1, 0, none⟩), .pointer (some ⟨w.heap.size + 1 + 1, 0, none⟩), .pointer (some ⟨p30, 0, none⟩), .pointer (some ⟨p26, 0, none⟩), .pointer (some ⟨XF.heap.size, 0, none⟩)]] 82)) := (Old.refl _).alloc _
        replace hM : Aside _ := hM
        replace hc22 : Aside _ := hc22
        replace hOXF : Aside _ := hOXF
        replace hAl : Aside _ := hAl
        replace hR2 : Aside _ := hR2
        replace n1' : Aside _ := n1'
        replace n2' : Aside _ := n2'
        have hnil : ∀ W a n c, Sem.run Tryz.prog (binOp BinOp.eql 39 (Value.slice a n c) (Value.slice none 0 0)) W = .ok (.bool a.isNone) W := fun W a n c => Lib.run_eql_slice_nil W 39 3 _ _ _ _ _ Tryz.underlying39
        have nc := cells_at' (World.alloc_heap_new XF (.cells #[.nilFunc] 82)) (i := 0) rfl
        have nf := frozen_at' (World.alloc_heap_new XF (.cells #[.nilFunc] 82)) 0
        go_wp2_with (go_at_call 22; refine Calls.mono hc22.out ?_; rintro e XZ ⟨rfl, hOZ⟩)
        go_ret
        exact ⟨rfl, hOXF.out.trans (hAl.out.trans hOZ)⟩
    · intro K' hK
      go_simp
      refine hK _ _ (fun _ => rto ((Old.refl _).alloc _)) ?_
      clear hK K'
      try simp only [Act.put, List.setIfInBounds_toArray, List.set_cons_zero, List.set_cons_succ, List.getElem_toArray, List.getElem_cons_zero, List.getElem_cons_succ]
      have hO32 : Old X26 (X26.alloc (.cells #[.slice none 0 0] 39)) := (Old.refl _).alloc _
      have c32 := World.alloc_heap_new X26 (.cells #[.slice none 0 0] 39)
      have z32 : K ≤ X26.heap.size := by have := hQ26.size; omega
      have s32 : X26.heap.size < (X26.alloc (.cells #[.slice none 0 0] 39)).heap.size := by simp
      generalize X26.alloc (.cells #[.slice none 0 0] 39) = X32 at *
      generalize hp32 : X26.heap.size = p32 at *
      have hQ32 := hQ26.trans hO32
      have c8q32 := (hO32.heap _ (Array.getElem?_eq_some_iff.1 c26).1).trans c26
      have hne32 : p32 ≠ p26 := by have := (Old.refl X26).size; omega
      refine wpAnyO_one (i := 2) (by kernel_rfl) rfl ?_
      intro K' hK
      go_simp
      (go_at_call 21; refine Calls.mono (hea.out _ (hOw2.out.trans hQ32)) ?_; rintro e X33 ⟨b33, rfl, hr33, _, hO33⟩)
      refine hK _ _ (fun _ => rto hO33) ?_
      clear hK K'
      try simp only [Act.put, List.setIfInBounds_toArray, List.set_cons_zero, List.set_cons_succ, List.getElem_toArray, List.getElem_cons_zero, List.getElem_cons_succ]
      have hQ33 := hQ32.trans hO33
      have c8q33 := (hO33.heap _ (Array.getElem?_eq_some_iff.1 c8q32).1).trans c8q32
      have c7q33 := (hO33.heap _ (Array.getElem?_eq_some_iff.1 c32).1).trans c32
      have hn33 := NumsAt.of hr33
      refine wpAnyO_one (i := 5) (by kernel_rfl) rfl ?_
      intro K' hK
      go_simp
      (go_at_call 21; refine Calls.mono (heb.out _ (hOw2.out.trans hQ33)) ?_; rintro e X34 ⟨b34, rfl, hr34, _, hO34⟩)
      refine hK _ _ (fun _ => rto hO34) ?_
      clear hK K'
      try simp only [Act.put, List.setIfInBounds_toArray, List.set_cons_zero, List.set_cons_succ, List.getElem_toArray, List.getElem_cons_zero, List.getElem_cons_succ]
      have hQ34 := hQ33.trans hO34
      have c8q34 := (hO34.heap _ (Array.getElem?_eq_some_iff.1 c8q33).1).trans c8q33
      have c7q34 := (hO34.heap _ (Array.getElem?_eq_some_iff.1 c7q33).1).trans c7q33
      have nx_34 := NumsAt.old hn33 hO34
      have hn34 := NumsAt.of hr34
      have e17 := nums_ne nx_34 hca (cells_at' c7q34 (i := 0) rfl)
      have e18 := nums_ne nx_34 hca (cells_at' c8q34 (i := 0) rfl)
      have e27 := nums_ne hn34 hcb (cells_at' c7q34 (i := 0) rfl)
      have e28 := nums_ne hn34 hcb (cells_at' c8q34 (i := 0) rfl)
      have hne : p26 ≠ p32 := hne32.symm
      have hR : RTo K w2 X34 := rto hQ34
      have x7 := cells_at' c7q34 (i := 0) rfl
      have y7 := frozen_at' c7q34 0
      have m7 := heap_setCell_same X34 p32 0 _ 39 (.slice (some ⟨b33, 0, none⟩) la.length la.length) c7q34
      have m8 := (heap_setCell_other X34 ⟨p32, 0, none⟩ p26 (.slice (some ⟨b33, 0, none⟩) la.length la.length) hne).trans c8q34
      have x8 := cells_at' m8 (i := 0) rfl
      have y8 := frozen_at' m8 0
      have q7 := cells_at' ((heap_setCell_other (X34.setCell ⟨p32, 0, none⟩ (.slice (some ⟨b33, 0, none⟩) la.length la.length)) ⟨p26, 0, none⟩ p32 (.slice (some ⟨b34, 0, none⟩) lb.length lb.length) hne.symm).trans m7) (i := 0) rfl
      have q8 := cells_at' (heap_setCell_same (X34.setCell ⟨p32, 0, none⟩ (.slice (some ⟨b33, 0, none⟩) la.length la.length)) p26 0 _ 39 (.slice (some ⟨b34, 0, none⟩) lb.length lb.length) m8) (i := 0) rfl
      have n1' := nums_set (v := (.slice (some ⟨b34, 0, none⟩) lb.length lb.length)) (nums_set (v := (.slice (some ⟨b33, 0, none⟩) la.length la.length)) nx_34 e17) e18
      have n2' := nums_set (v := (.slice (some ⟨b34, 0, none⟩) lb.length lb.length)) (nums_set (v := (.slice (some ⟨b33, 0, none⟩) la.length la.length)) hn34 e27) e28
      have hR2 : RTo K w2 ((X34.setCell ⟨p32, 0, none⟩ (.slice (some ⟨b33, 0, none⟩) la.length la.length)).setCell ⟨p26, 0, none⟩ (.slice (some ⟨b34, 0, none⟩) lb.length lb.length)) := (hR.trans (rto_set (p := ⟨p32, 0, none⟩) z32 _)).trans (rto_set (p := ⟨p26, 0, none⟩) z26 _)
      refine wpAnyO_one (i := 8) (by kernel_rfl) rfl ?_
      intro K' hK
      go_simp
      refine hK _ _ (fun _ => rto_set (p := ⟨p32, 0, none⟩) z32 _) ?_
      clear hK K'
      try simp only [Act.put, List.setIfInBounds_toArray, List.set_cons_zero, List.set_cons_succ, List.getElem_toArray, List.getElem_cons_zero, List.getElem_cons_succ]
      refine wpAnyO_one (i := 9) (by kernel_rfl) rfl ?_
      intro K' hK
      go_simp
      refine hK _ _ (fun h => absurd rfl h) ?_
      clear hK K'
      try simp only [Act.put, List.setIfInBounds_toArray, List.set_cons_zero, List.set_cons_succ, List.getElem_toArray, List.getElem_cons_zero, List.getElem_cons_succ]
      refine wpAnyO_done (by kernel_rfl) ?_ _
      clear m7 m8 x7 y7 x8 y8
      generalize (X34.setCell ⟨p32, 0, none⟩ (.slice (some ⟨b33, 0, none⟩) la.length la.length)).setCell ⟨p26, 0, none⟩ (.slice (some ⟨b34, 0, none⟩) lb.length lb.length) = XF at *
      have hOXF := hOldOf.out _ hR2
      have hszF : w.heap.size + 3 ≤ XF.heap.size := by have := hR2 (by omega); omega
      have hM := hlast.out XF XF p32 p26 b33 b34 hOXF hszF (fun Y hY => hbxX.out XF Y hR2 hY) n1' n2' q7 q8
      have hc22 := hord.out XF.heap.size p32 p26 b33 b34 _ hM
      have hAl : Old XF (XF.alloc (.cells #[.func (.func 22) #[] #[.pointer (some ⟨w.heap.size + 1, 0, none⟩), .pointer (some ⟨w.heap.size + 1 + 1, 0, none⟩), .pointer (some ⟨p32, 0, none⟩), .pointer (some ⟨p26, 0, none⟩), .pointer (some ⟨XF.heap.size, 0, none⟩)]] 82)) := (Old.refl _).alloc _
      replace hM : Aside _ := hM
      replace hc22 : Aside _ := hc22
      replace hOXF : Aside _ := hOXF
      replace hAl : Aside _ := hAl
      replace hR2 : Aside _ := hR2
      replace n1' : Aside _ := n1'
      replace n2' : Aside _ := n2'
      have hnil : ∀ W a n c, Sem.run Tryz.prog (binOp BinOp.eql 39 (Value.slice a n c) (Value.slice none 0 0)) W = .ok (.bool a.isNone) W := fun W a n c => Lib.run_eql_slice_nil W 39 3 _ _ _ _ _ Tryz.underlying39
      have nc := cells_at' (World.alloc_heap_new XF (.cells #[.nilFunc] 82)) (i := 0) rfl
      have nf := frozen_at' (World.alloc_heap_new XF (.cells #[.nilFunc] 82)) 0
      go_wp2_with (go_at_call 22; refine Calls.mono hc22.out ?_; rintro e XZ ⟨rfl, hOZ⟩)
      go_ret
      exact ⟨rfl, hOXF.out.trans (hAl.out.trans hOZ)⟩
end Go.Pri
end

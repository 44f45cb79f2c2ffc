/-
  PriorityOperators: parts of its proof (Sa2).
-/
import Derived.Test.YtfadmmecedicjaaGreatDoorK40
set_option linter.unusedVariables false
set_option linter.unusedSimpArgs false

section
/-
  The sanity check: walked.
-/
namespace Go.Pri
open Go Go.Abs Go.Proofs Go.RowKit Go.Lib
set_option maxRecDepth 100000
set_option maxHeartbeats 4000000

theorem sanity4 (w : World) (htab : TabAt w) : Calls Tryz.prog 4 #[] w fun e w' => e = .returned (.bool true) ∧ Old w w' := by
  have hgram := fun (X : World) (hX : Old w X) => gram_sane X (htab.old hX)
  replace htab : Aside _ := htab
  replace hgram : Aside _ := hgram
  go_enter Tryz.func4, Tryz.ntmps4
  go_wp2_with (first
    | (go_at_call 5; refine Calls.mono (hgram.out _ ((Old.refl w).alloc _)) ?_; rintro e w2 ⟨a0, k0, a3, k3, a4, n4, k4, a5, n5, k5, a7, n7, k7, rfl, hk2, hV2, hC2, hG2⟩; replace hk2 : Aside _ := hk2; replace hV2 : Aside _ := hV2; replace hC2 : Aside _ := hC2; replace hG2 : Aside _ := hG2)
    | (go_at_call 11; refine Calls.mono (hC2.out _ ((Old.refl w2).alloc _)) ?_; rintro e w3 ⟨fv, rfl, hF3, hk3⟩; obtain ⟨bF, oF, cF, hvF, _⟩ := SliceAt.at hF3 (j := 0) rfl; replace hvF : fv = .slice (some ⟨bF, oF, none⟩) 4 cF := hvF; subst hvF; replace hF3 : Aside _ := hF3; replace hk3 : Aside _ := hk3)
    | (go_at_call 8; refine Calls.mono (trees_sane _) ?_; rintro e w5 ⟨bT, cT, rfl, hk5, hbT, b0, c0, b1, c1, hT0, hT1, hcT⟩; replace hk5 : Aside _ := hk5; replace hT0 : Aside _ := hT0; replace hT1 : Aside _ := hT1; replace hcT : Aside _ := hcT; replace hbT : Aside _ := hbT))
  have hO23 : Old w2 (w2.alloc (.cells #[.slice a0 2 k0, .slice none 0 0, .int .i64 1, .slice a3 11 k3, .slice a4 n4 k4, .slice a5 n5 k5, .int .i64 0, .slice a7 n7 k7, .slice none 0 0] 37)) := (Old.refl w2).alloc _
  have hO35 : Old w3 w5 := ((Old.refl w3).alloc _).trans hk5.out
  have hO5 : Old (w2.alloc (.cells #[.slice a0 2 k0, .slice none 0 0, .int .i64 1, .slice a3 11 k3, .slice a4 n4 k4, .slice a5 n5 k5, .int .i64 0, .slice a7 n7 k7, .slice none 0 0] 37)) w5 := hk3.out.trans hO35
  have hO25 : Old w2 w5 := hO23.trans hO5
  have hOw : Old w w5 := ((Old.refl w).alloc _).trans (hk2.out.trans hO25)
  have kk : ∀ X, Old w5 X → (∀ (i : Nat) v, (#[.slice a0 2 k0, .slice none 0 0, .int .i64 1, .slice a3 11 k3, .slice a4 n4 k4, .slice a5 n5 k5, .int .i64 0, .slice a7 n7 k7, .slice none 0 0] : Array Value)[i]? = some v → X.cell? ⟨w2.heap.size, i, none⟩ = some v) ∧ X.cell? ⟨bT, 0, none⟩ = some (.slice (some ⟨b0, 0, none⟩) 10 c0) ∧ X.cell? ⟨bT, 1, none⟩ = some (.slice (some ⟨b1, 0, none⟩) 10 c1) := fun X hX =>
    ⟨fun i v hi => (hO5.trans hX).cell_some (by simp [hi]), hcT.out X (hX.heap bT hbT.out)⟩
  have h1 := fun (X : World) (hX : Old w5 X) => (viol_sane a0 k0 (.slice a3 11 k3) (.slice a4 n4 k4) (.slice a5 n5 k5) (.slice a7 n7 k7) (.slice none 0 0) (.slice (some ⟨b1, 0, none⟩) 10 c1) A1 [(0, 1)] X (TabAt.old htab.out (hOw.trans hX)) (SliceAt.old hT1.out hX) (GramAt.old hG2.out (hO25.trans hX)) (Valid.old hV2.out (hO25.trans hX)) (ConfAt.old hC2.out (hO25.trans hX)) (.inr rfl) sane_viol1).1
  have h0 := fun (X : World) (hX : Old w5 X) => viol_sane a0 k0 (.slice a3 11 k3) (.slice a4 n4 k4) (.slice a5 n5 k5) (.slice a7 n7 k7) (.slice none 0 0) (.slice (some ⟨b0, 0, none⟩) 10 c0) A0 [] X (TabAt.old htab.out (hOw.trans hX)) (SliceAt.old hT0.out hX) (GramAt.old hG2.out (hO25.trans hX)) (Valid.old hV2.out (hO25.trans hX)) (ConfAt.old hC2.out (hO25.trans hX)) (.inl rfl) sane_viol0
  have h13 := fun (X : World) (hX : Old w5 X) => spine_sane a0 k0 (.slice a3 11 k3) (.slice a4 n4 k4) (.slice a5 n5 k5) (.slice a7 n7 k7) (.slice none 0 0) (.slice (some ⟨b0, 0, none⟩) 10 c0) X (SliceAt.old hT0.out hX) (GramAt.old hG2.out (hO25.trans hX)) (Valid.old hV2.out (hO25.trans hX))
  have kF : ∀ X, Old w5 X → ∀ (j : Nat) c, (F4.map encF)[j]? = some c → ∀ (i : Nat) v, c[i]? = some v → X.cell? ⟨bF, oF + j * 9 + i, none⟩ = some v := fun X hX => by
    rcases hF3.out with ⟨h, _⟩ | ⟨b, off, c, he, _, hr⟩
    · cases h
    · cases he
      exact fun j c hj i v hi => (hO35.trans hX).cell_some (hr j c hj i v hi)
  have hrf : ∀ X, Old X X := Old.refl
  have htr : ∀ X Y Z, Old X Y → Old Y Z → Old X Z := fun _ _ _ => Old.trans
  replace hrf : Aside _ := hrf
  replace htr : Aside _ := htr
  replace kk : Aside _ := kk
  replace kF : Aside _ := kF
  replace h1 : Aside _ := h1
  replace h0 : Aside _ := h0
  replace h13 : Aside _ := h13
  replace hOw : Aside _ := hOw
  clear hO23 hO35 hO5 hO25 hk2 hV2 hC2 hG2 hF3 hk3 hk5 hT0 hT1 hcT hbT hgram htab
  generalize w2.heap.size = b2 at *
  refine wp_region_O Old 9 (by kernel_rfl) ?_
  have hQ : Old w5 w5.drew := (Old.refl w5).drew
  replace hQ : Aside _ := hQ
  generalize w5.drew = X0 at *
  refine wpAnyO_take hrf.out htr.out (i := 0) (v := ?_) rfl (by kernel_rfl) (fun _ _ _ h => h) (Or.inl ⟨by rfl, ?_⟩) ?_
  rotate_left
  · (intro X hX; have hOX := hQ.out.trans hX; obtain ⟨f6, t0, t1⟩ := kk.out X hOX; have x0 := f6 0 _ rfl; have x1 := f6 1 _ rfl; have x2 := f6 2 _ rfl; have x3 := f6 3 _ rfl; have x4 := f6 4 _ rfl; have x5 := f6 5 _ rfl; have x6 := f6 6 _ rfl; have x7 := f6 7 _ rfl; have x8 := f6 8 _ rfl; clear f6 hOX; go_simp <;> with_reducible rfl)
  try simp only [Act.put, List.setIfInBounds_toArray, List.set_cons_zero, List.set_cons_succ, List.getElem_toArray, List.getElem_cons_zero, List.getElem_cons_succ]
  refine wpAnyO_take hrf.out htr.out (i := 1) (v := ?_) rfl (by kernel_rfl) (fun _ _ _ h => h) (Or.inl ⟨by rfl, ?_⟩) ?_
  rotate_left
  · (intro X hX; go_simp <;> with_reducible rfl)
  try simp only [Act.put, List.setIfInBounds_toArray, List.set_cons_zero, List.set_cons_succ, List.getElem_toArray, List.getElem_cons_zero, List.getElem_cons_succ]
  refine wpAnyO_take hrf.out htr.out (i := 2) (v := ?_) rfl (by kernel_rfl) (fun _ _ _ h => h) (Or.inl ⟨by rfl, ?_⟩) ?_
  rotate_left
  · (intro X hX; go_simp <;> with_reducible rfl)
  try simp only [Act.put, List.setIfInBounds_toArray, List.set_cons_zero, List.set_cons_succ, List.getElem_toArray, List.getElem_cons_zero, List.getElem_cons_succ]
  refine wpAnyO_take hrf.out htr.out (i := 3) (v := ?_) rfl (by kernel_rfl) (fun _ _ _ h => h) (Or.inl ⟨by rfl, ?_⟩) ?_
  rotate_left
  · (intro X hX; have hOX := hQ.out.trans hX; obtain ⟨f6, t0, t1⟩ := kk.out X hOX; have x0 := f6 0 _ rfl; have x1 := f6 1 _ rfl; have x2 := f6 2 _ rfl; have x3 := f6 3 _ rfl; have x4 := f6 4 _ rfl; have x5 := f6 5 _ rfl; have x6 := f6 6 _ rfl; have x7 := f6 7 _ rfl; have x8 := f6 8 _ rfl; clear f6 hOX; go_simp <;> with_reducible rfl)
  try simp only [Act.put, List.setIfInBounds_toArray, List.set_cons_zero, List.set_cons_succ, List.getElem_toArray, List.getElem_cons_zero, List.getElem_cons_succ]
  refine wpAnyO_one (i := 4) (by kernel_rfl) rfl ?_
  intro K hK
  go_simp
  (go_at_call 12; refine Calls.mono (h1.out _ hQ.out) ?_; rintro e X1 ⟨v6, rfl, hv6, hk⟩; obtain ⟨av6, capv6, hv6v⟩ := hv6.form; replace hv6v : v6 = .slice av6 1 capv6 := hv6v; subst hv6v; replace hv6 : Aside _ := hv6)
  refine hK _ _ (fun _ => hk) ?_
  clear hK K
  try simp only [Act.put, List.setIfInBounds_toArray, List.set_cons_zero, List.set_cons_succ, List.getElem_toArray, List.getElem_cons_zero, List.getElem_cons_succ]
  have hQ1 : Old w5 X1 := hQ.out.trans hk
  replace hQ1 : Aside _ := hQ1
  clear hk
  refine wpAnyO_take hrf.out htr.out (i := 5) (v := ?_) rfl (by kernel_rfl) (fun _ _ _ h => h) (Or.inl ⟨by rfl, ?_⟩) ?_
  rotate_left
  · (intro X hX; go_simp <;> with_reducible rfl)
  try simp only [Act.put, List.setIfInBounds_toArray, List.set_cons_zero, List.set_cons_succ, List.getElem_toArray, List.getElem_cons_zero, List.getElem_cons_succ]
  refine wpAnyO_take hrf.out htr.out (i := 6) (v := ?_) rfl (by kernel_rfl) (fun _ _ _ h => h) (Or.inl ⟨by rfl, ?_⟩) ?_
  rotate_left
  · (intro X hX; go_simp <;> with_reducible rfl)
  try simp only [Act.put, List.setIfInBounds_toArray, List.set_cons_zero, List.set_cons_succ, List.getElem_toArray, List.getElem_cons_zero, List.getElem_cons_succ]
  refine wpAnyO_take hrf.out htr.out (i := 7) (v := ?_) rfl (by kernel_rfl) (fun _ _ _ h => h) (Or.inl ⟨by rfl, ?_⟩) ?_
  rotate_left
  · (intro X hX; go_simp <;> with_reducible rfl)
  try simp only [Act.put, List.setIfInBounds_toArray, List.set_cons_zero, List.set_cons_succ, List.getElem_toArray, List.getElem_cons_zero, List.getElem_cons_succ]
  refine wpAnyO_take hrf.out htr.out (i := 8) (v := ?_) rfl (by kernel_rfl) (fun _ _ _ h => h) (Or.inl ⟨by rfl, ?_⟩) ?_
  rotate_left
  · (intro X hX; go_simp <;> with_reducible rfl)
  try simp only [Act.put, List.setIfInBounds_toArray, List.set_cons_zero, List.set_cons_succ, List.getElem_toArray, List.getElem_cons_zero, List.getElem_cons_succ]
  refine wpAnyO_one (i := 9) (by kernel_rfl) rfl ?_
  intro K hK
  go_simp
  refine hK _ _ (fun h => absurd rfl h) ?_
  clear hK K
  try simp only [Act.put, List.setIfInBounds_toArray, List.set_cons_zero, List.set_cons_succ, List.getElem_toArray, List.getElem_cons_zero, List.getElem_cons_succ]
  refine wpAnyO_done (by kernel_rfl) ?_ _
  go_wp2
  refine wp_region_O Old 9 (by kernel_rfl) ?_
  have hQ2 : Old w5 X1.drew := Old.drew hQ1.out
  replace hQ2 : Aside _ := hQ2
  have hw6 := SliceAt.old hv6.out ((Old.refl X1).drew)
  replace hw6 : Aside _ := hw6
  generalize X1.drew = X2 at *
  refine wpAnyO_take hrf.out htr.out (i := 0) (v := ?_) rfl (by kernel_rfl) (fun _ _ _ h => h) (Or.inl ⟨by rfl, ?_⟩) ?_
  rotate_left
  · (intro X hX; have hOX := hQ2.out.trans hX; obtain ⟨f6, t0, t1⟩ := kk.out X hOX; have x0 := f6 0 _ rfl; have x1 := f6 1 _ rfl; have x2 := f6 2 _ rfl; have x3 := f6 3 _ rfl; have x4 := f6 4 _ rfl; have x5 := f6 5 _ rfl; have x6 := f6 6 _ rfl; have x7 := f6 7 _ rfl; have x8 := f6 8 _ rfl; clear f6 hOX; go_simp <;> with_reducible rfl)
  try simp only [Act.put, List.setIfInBounds_toArray, List.set_cons_zero, List.set_cons_succ, List.getElem_toArray, List.getElem_cons_zero, List.getElem_cons_succ]
  refine wpAnyO_take hrf.out htr.out (i := 1) (v := ?_) rfl (by kernel_rfl) (fun _ _ _ h => h) (Or.inl ⟨by rfl, ?_⟩) ?_
  rotate_left
  · (intro X hX; go_simp <;> with_reducible rfl)
  try simp only [Act.put, List.setIfInBounds_toArray, List.set_cons_zero, List.set_cons_succ, List.getElem_toArray, List.getElem_cons_zero, List.getElem_cons_succ]
  refine wpAnyO_take hrf.out htr.out (i := 2) (v := ?_) rfl (by kernel_rfl) (fun _ _ _ h => h) (Or.inl ⟨by rfl, ?_⟩) ?_
  rotate_left
  · (intro X hX; go_simp <;> with_reducible rfl)
  try simp only [Act.put, List.setIfInBounds_toArray, List.set_cons_zero, List.set_cons_succ, List.getElem_toArray, List.getElem_cons_zero, List.getElem_cons_succ]
  refine wpAnyO_take hrf.out htr.out (i := 3) (v := ?_) rfl (by kernel_rfl) (fun _ _ _ h => h) (Or.inl ⟨by rfl, ?_⟩) ?_
  rotate_left
  · (intro X hX; have hOX := hQ2.out.trans hX; obtain ⟨f6, t0, t1⟩ := kk.out X hOX; have x0 := f6 0 _ rfl; have x1 := f6 1 _ rfl; have x2 := f6 2 _ rfl; have x3 := f6 3 _ rfl; have x4 := f6 4 _ rfl; have x5 := f6 5 _ rfl; have x6 := f6 6 _ rfl; have x7 := f6 7 _ rfl; have x8 := f6 8 _ rfl; clear f6 hOX; go_simp <;> with_reducible rfl)
  try simp only [Act.put, List.setIfInBounds_toArray, List.set_cons_zero, List.set_cons_succ, List.getElem_toArray, List.getElem_cons_zero, List.getElem_cons_succ]
  refine wpAnyO_one (i := 4) (by kernel_rfl) rfl ?_
  intro K hK
  go_simp
  (go_at_call 12; refine Calls.mono ((fun X hX => (h0.out X hX).1) _ hQ2.out) ?_; rintro e X3 ⟨v8, rfl, hv8, hk⟩; obtain ⟨av8, capv8, hv8v⟩ := hv8.form; replace hv8v : v8 = .slice av8 0 capv8 := hv8v; subst hv8v; replace hv8 : Aside _ := hv8)
  refine hK _ _ (fun _ => hk) ?_
  clear hK K
  try simp only [Act.put, List.setIfInBounds_toArray, List.set_cons_zero, List.set_cons_succ, List.getElem_toArray, List.getElem_cons_zero, List.getElem_cons_succ]
  have hQ3 : Old w5 X3 := hQ2.out.trans hk
  replace hQ3 : Aside _ := hQ3
  have hu6 := SliceAt.old hw6.out hk
  replace hu6 : Aside _ := hu6
  clear hk
  refine wpAnyO_take hrf.out htr.out (i := 5) (v := ?_) rfl (by kernel_rfl) (fun _ _ _ h => h) (Or.inl ⟨by rfl, ?_⟩) ?_
  rotate_left
  · (intro X hX; go_simp <;> with_reducible rfl)
  try simp only [Act.put, List.setIfInBounds_toArray, List.set_cons_zero, List.set_cons_succ, List.getElem_toArray, List.getElem_cons_zero, List.getElem_cons_succ]
  refine wpAnyO_take hrf.out htr.out (i := 6) (v := ?_) rfl (by kernel_rfl) (fun _ _ _ h => h) (Or.inl ⟨by rfl, ?_⟩) ?_
  rotate_left
  · (intro X hX; go_simp <;> with_reducible rfl)
  try simp only [Act.put, List.setIfInBounds_toArray, List.set_cons_zero, List.set_cons_succ, List.getElem_toArray, List.getElem_cons_zero, List.getElem_cons_succ]
  refine wpAnyO_take hrf.out htr.out (i := 7) (v := ?_) rfl (by kernel_rfl) (fun _ _ _ h => h) (Or.inl ⟨by rfl, ?_⟩) ?_
  rotate_left
  · (intro X hX; go_simp <;> with_reducible rfl)
  try simp only [Act.put, List.setIfInBounds_toArray, List.set_cons_zero, List.set_cons_succ, List.getElem_toArray, List.getElem_cons_zero, List.getElem_cons_succ]
  refine wpAnyO_take hrf.out htr.out (i := 8) (v := ?_) rfl (by kernel_rfl) (fun _ _ _ h => h) (Or.inl ⟨by rfl, ?_⟩) ?_
  rotate_left
  · (intro X hX; go_simp <;> with_reducible rfl)
  try simp only [Act.put, List.setIfInBounds_toArray, List.set_cons_zero, List.set_cons_succ, List.getElem_toArray, List.getElem_cons_zero, List.getElem_cons_succ]
  refine wpAnyO_one (i := 9) (by kernel_rfl) rfl ?_
  intro K hK
  go_simp
  refine hK _ _ (fun h => absurd rfl h) ?_
  clear hK K
  try simp only [Act.put, List.setIfInBounds_toArray, List.set_cons_zero, List.set_cons_succ, List.getElem_toArray, List.getElem_cons_zero, List.getElem_cons_succ]
  refine wpAnyO_done (by kernel_rfl) ?_ _
  have kF3 := kF.out X3 hQ3.out
  have p01 := kF3 0 _ rfl 1 _ rfl
  have p02 := kF3 0 _ rfl 2 _ rfl
  have p03 := kF3 0 _ rfl 3 _ rfl
  have p11 := kF3 1 _ rfl 1 _ rfl
  have p12 := kF3 1 _ rfl 2 _ rfl
  have p13 := kF3 1 _ rfl 3 _ rfl
  have p32 := kF3 3 _ rfl 2 _ rfl
  have p33 := kF3 3 _ rfl 3 _ rfl
  simp only [Nat.zero_mul, Nat.one_mul, Nat.add_zero, Nat.reduceMul] at p01 p02 p03 p11 p12 p13 p32 p33
  obtain ⟨bV, oV, cV, hvV, hcV⟩ := SliceAt.at hu6.out (j := 0) rfl
  simp only [Value.slice.injEq] at hvV
  obtain ⟨rfl, -, rfl⟩ := hvV
  have kV : ∀ X, Old X3 X → X.cell? ⟨bV, oV, none⟩ = some (.int .i64 1) ∧ X.cell? ⟨bV, oV + 1, none⟩ = some (.int .i64 0) ∧ X.cell? ⟨bV, oV + 2, none⟩ = some (.int .i64 1) := fun X hX => by
    have e0 := hcV 0 _ rfl
    have e1 := hcV 1 _ rfl
    have e2 := hcV 2 _ rfl
    simp only [Nat.zero_mul, Nat.add_zero] at e0 e1 e2
    exact ⟨hX.cell_some e0, hX.cell_some e1, hX.cell_some e2⟩
  replace kV : Aside _ := kV
  clear kF3 hcV hu6 hw6 hv6 hv8 kF
  go_wp2
  clear p01 p02 p03 p11 p12 p13 p32 p33
  refine wp_region_O Old 24 (by kernel_rfl) ?_
  have hQ4 : Old w5 X3.drew := Old.drew hQ3.out
  have hQV : Old X3 X3.drew := (Old.refl X3).drew
  replace hQ4 : Aside _ := hQ4
  replace hQV : Aside _ := hQV
  generalize X3.drew = X4 at *
  refine wpAnyO_take hrf.out htr.out (i := 0) (v := ?_) rfl (by kernel_rfl) (fun _ _ _ h => h) (Or.inl ⟨by rfl, ?_⟩) ?_
  rotate_left
  · (intro X hX; go_simp <;> with_reducible rfl)
  try simp only [Act.put, List.setIfInBounds_toArray, List.set_cons_zero, List.set_cons_succ, List.getElem_toArray, List.getElem_cons_zero, List.getElem_cons_succ]
  refine wpAnyO_take hrf.out htr.out (i := 1) (v := ?_) rfl (by kernel_rfl) (fun _ _ _ h => h) (Or.inl ⟨by rfl, ?_⟩) ?_
  rotate_left
  · (intro X hX; go_simp <;> with_reducible rfl)
  try simp only [Act.put, List.setIfInBounds_toArray, List.set_cons_zero, List.set_cons_succ, List.getElem_toArray, List.getElem_cons_zero, List.getElem_cons_succ]
  refine wpAnyO_take hrf.out htr.out (i := 2) (v := ?_) rfl (by kernel_rfl) (fun _ _ _ h => h) (Or.inl ⟨by rfl, ?_⟩) ?_
  rotate_left
  · (intro X hX; go_simp <;> with_reducible rfl)
  try simp only [Act.put, List.setIfInBounds_toArray, List.set_cons_zero, List.set_cons_succ, List.getElem_toArray, List.getElem_cons_zero, List.getElem_cons_succ]
  refine wpAnyO_take hrf.out htr.out (i := 3) (v := ?_) rfl (by kernel_rfl) (fun _ _ _ h => h) (Or.inl ⟨by rfl, ?_⟩) ?_
  rotate_left
  · (intro X hX; go_simp <;> with_reducible rfl)
  try simp only [Act.put, List.setIfInBounds_toArray, List.set_cons_zero, List.set_cons_succ, List.getElem_toArray, List.getElem_cons_zero, List.getElem_cons_succ]
  refine wpAnyO_take hrf.out htr.out (i := 4) (v := ?_) rfl (by kernel_rfl) (fun _ _ _ h => h) (Or.inl ⟨by rfl, ?_⟩) ?_
  rotate_left
  · (intro X hX; obtain ⟨v0, v1, v2⟩ := kV.out X (hQV.out.trans hX); go_simp <;> with_reducible rfl)
  try simp only [Act.put, List.setIfInBounds_toArray, List.set_cons_zero, List.set_cons_succ, List.getElem_toArray, List.getElem_cons_zero, List.getElem_cons_succ]
  refine wpAnyO_take hrf.out htr.out (i := 5) (v := ?_) rfl (by kernel_rfl) (fun _ _ _ h => h) (Or.inl ⟨by rfl, ?_⟩) ?_
  rotate_left
  · (intro X hX; go_simp <;> with_reducible rfl)
  try simp only [Act.put, List.setIfInBounds_toArray, List.set_cons_zero, List.set_cons_succ, List.getElem_toArray, List.getElem_cons_zero, List.getElem_cons_succ]
  refine wpAnyO_take hrf.out htr.out (i := 6) (v := ?_) rfl (by kernel_rfl) (fun _ _ _ h => h) (Or.inl ⟨by rfl, ?_⟩) ?_
  rotate_left
  · (intro X hX; go_simp <;> with_reducible rfl)
  try simp only [Act.put, List.setIfInBounds_toArray, List.set_cons_zero, List.set_cons_succ, List.getElem_toArray, List.getElem_cons_zero, List.getElem_cons_succ]
  refine wpAnyO_take hrf.out htr.out (i := 7) (v := ?_) rfl (by kernel_rfl) (fun _ _ _ h => h) (Or.inl ⟨by rfl, ?_⟩) ?_
  rotate_left
  · (intro X hX; go_simp <;> with_reducible rfl)
  try simp only [Act.put, List.setIfInBounds_toArray, List.set_cons_zero, List.set_cons_succ, List.getElem_toArray, List.getElem_cons_zero, List.getElem_cons_succ]
  refine wpAnyO_take hrf.out htr.out (i := 8) (v := ?_) rfl (by kernel_rfl) (fun _ _ _ h => h) (Or.inl ⟨by rfl, ?_⟩) ?_
  rotate_left
  · (intro X hX; go_simp <;> with_reducible rfl)
  try simp only [Act.put, List.setIfInBounds_toArray, List.set_cons_zero, List.set_cons_succ, List.getElem_toArray, List.getElem_cons_zero, List.getElem_cons_succ]
  refine wpAnyO_take hrf.out htr.out (i := 9) (v := ?_) rfl (by kernel_rfl) (fun _ _ _ h => h) (Or.inl ⟨by rfl, ?_⟩) ?_
  rotate_left
  · (intro X hX; have hOX := hQ4.out.trans hX; obtain ⟨f6, t0, t1⟩ := kk.out X hOX; have x0 := f6 0 _ rfl; have x1 := f6 1 _ rfl; have x2 := f6 2 _ rfl; have x3 := f6 3 _ rfl; have x4 := f6 4 _ rfl; have x5 := f6 5 _ rfl; have x6 := f6 6 _ rfl; have x7 := f6 7 _ rfl; have x8 := f6 8 _ rfl; clear f6 hOX; go_simp <;> with_reducible rfl)
  try simp only [Act.put, List.setIfInBounds_toArray, List.set_cons_zero, List.set_cons_succ, List.getElem_toArray, List.getElem_cons_zero, List.getElem_cons_succ]
  refine wpAnyO_take hrf.out htr.out (i := 10) (v := ?_) rfl (by kernel_rfl) (fun _ _ _ h => h) (Or.inl ⟨by rfl, ?_⟩) ?_
  rotate_left
  · (intro X hX; go_simp <;> with_reducible rfl)
  try simp only [Act.put, List.setIfInBounds_toArray, List.set_cons_zero, List.set_cons_succ, List.getElem_toArray, List.getElem_cons_zero, List.getElem_cons_succ]
  refine wpAnyO_take hrf.out htr.out (i := 11) (v := ?_) rfl (by kernel_rfl) (fun _ _ _ h => h) (Or.inl ⟨by rfl, ?_⟩) ?_
  rotate_left
  · (intro X hX; go_simp <;> with_reducible rfl)
  try simp only [Act.put, List.setIfInBounds_toArray, List.set_cons_zero, List.set_cons_succ, List.getElem_toArray, List.getElem_cons_zero, List.getElem_cons_succ]
  refine wpAnyO_take hrf.out htr.out (i := 12) (v := ?_) rfl (by kernel_rfl) (fun _ _ _ h => h) (Or.inl ⟨by rfl, ?_⟩) ?_
  rotate_left
  · (intro X hX; have hOX := hQ4.out.trans hX; obtain ⟨f6, t0, t1⟩ := kk.out X hOX; have x0 := f6 0 _ rfl; have x1 := f6 1 _ rfl; have x2 := f6 2 _ rfl; have x3 := f6 3 _ rfl; have x4 := f6 4 _ rfl; have x5 := f6 5 _ rfl; have x6 := f6 6 _ rfl; have x7 := f6 7 _ rfl; have x8 := f6 8 _ rfl; clear f6 hOX; go_simp <;> with_reducible rfl)
  try simp only [Act.put, List.setIfInBounds_toArray, List.set_cons_zero, List.set_cons_succ, List.getElem_toArray, List.getElem_cons_zero, List.getElem_cons_succ]
  refine wpAnyO_one (i := 13) (by kernel_rfl) rfl ?_
  intro K hK
  go_simp
  (go_at_call 10; refine Calls.mono ((h0.out _ hQ4.out).2) ?_; rintro e X5 ⟨rfl, hk⟩)
  refine hK _ _ (fun _ => hk) ?_
  clear hK K
  try simp only [Act.put, List.setIfInBounds_toArray, List.set_cons_zero, List.set_cons_succ, List.getElem_toArray, List.getElem_cons_zero, List.getElem_cons_succ]
  have hQ5 : Old w5 X5 := hQ4.out.trans hk
  replace hQ5 : Aside _ := hQ5
  clear hk
  refine wpAnyO_take hrf.out htr.out (i := 14) (v := ?_) rfl (by kernel_rfl) (fun _ _ _ h => h) (Or.inl ⟨by rfl, ?_⟩) ?_
  rotate_left
  · (intro X hX; go_simp <;> with_reducible rfl)
  try simp only [Act.put, List.setIfInBounds_toArray, List.set_cons_zero, List.set_cons_succ, List.getElem_toArray, List.getElem_cons_zero, List.getElem_cons_succ]
  refine wpAnyO_take hrf.out htr.out (i := 15) (v := ?_) rfl (by kernel_rfl) (fun _ _ _ h => h) (Or.inl ⟨by rfl, ?_⟩) ?_
  rotate_left
  · (intro X hX; go_simp <;> with_reducible rfl)
  try simp only [Act.put, List.setIfInBounds_toArray, List.set_cons_zero, List.set_cons_succ, List.getElem_toArray, List.getElem_cons_zero, List.getElem_cons_succ]
  refine wpAnyO_take hrf.out htr.out (i := 16) (v := ?_) rfl (by kernel_rfl) (fun _ _ _ h => h) (Or.inl ⟨by rfl, ?_⟩) ?_
  rotate_left
  · (intro X hX; have hOX := hQ5.out.trans hX; obtain ⟨f6, t0, t1⟩ := kk.out X hOX; have x0 := f6 0 _ rfl; have x1 := f6 1 _ rfl; have x2 := f6 2 _ rfl; have x3 := f6 3 _ rfl; have x4 := f6 4 _ rfl; have x5 := f6 5 _ rfl; have x6 := f6 6 _ rfl; have x7 := f6 7 _ rfl; have x8 := f6 8 _ rfl; clear f6 hOX; go_simp <;> with_reducible rfl)
  try simp only [Act.put, List.setIfInBounds_toArray, List.set_cons_zero, List.set_cons_succ, List.getElem_toArray, List.getElem_cons_zero, List.getElem_cons_succ]
  refine wpAnyO_take hrf.out htr.out (i := 17) (v := ?_) rfl (by kernel_rfl) (fun _ _ _ h => h) (Or.inl ⟨by rfl, ?_⟩) ?_
  rotate_left
  · (intro X hX; go_simp <;> with_reducible rfl)
  try simp only [Act.put, List.setIfInBounds_toArray, List.set_cons_zero, List.set_cons_succ, List.getElem_toArray, List.getElem_cons_zero, List.getElem_cons_succ]
  refine wpAnyO_take hrf.out htr.out (i := 18) (v := ?_) rfl (by kernel_rfl) (fun _ _ _ h => h) (Or.inl ⟨by rfl, ?_⟩) ?_
  rotate_left
  · (intro X hX; go_simp <;> with_reducible rfl)
  try simp only [Act.put, List.setIfInBounds_toArray, List.set_cons_zero, List.set_cons_succ, List.getElem_toArray, List.getElem_cons_zero, List.getElem_cons_succ]
  refine wpAnyO_take hrf.out htr.out (i := 19) (v := ?_) rfl (by kernel_rfl) (fun _ _ _ h => h) (Or.inl ⟨by rfl, ?_⟩) ?_
  rotate_left
  · (intro X hX; have hOX := hQ5.out.trans hX; obtain ⟨f6, t0, t1⟩ := kk.out X hOX; have x0 := f6 0 _ rfl; have x1 := f6 1 _ rfl; have x2 := f6 2 _ rfl; have x3 := f6 3 _ rfl; have x4 := f6 4 _ rfl; have x5 := f6 5 _ rfl; have x6 := f6 6 _ rfl; have x7 := f6 7 _ rfl; have x8 := f6 8 _ rfl; clear f6 hOX; go_simp <;> with_reducible rfl)
  try simp only [Act.put, List.setIfInBounds_toArray, List.set_cons_zero, List.set_cons_succ, List.getElem_toArray, List.getElem_cons_zero, List.getElem_cons_succ]
  refine wpAnyO_one (i := 20) (by kernel_rfl) rfl ?_
  intro K hK
  go_simp
  (go_at_call 13; refine Calls.mono (h13.out _ hQ5.out) ?_; rintro e X6 ⟨a13, c13, rfl, hk⟩)
  refine hK _ _ (fun _ => hk) ?_
  clear hK K
  try simp only [Act.put, List.setIfInBounds_toArray, List.set_cons_zero, List.set_cons_succ, List.getElem_toArray, List.getElem_cons_zero, List.getElem_cons_succ]
  have hQ6 : Old w5 X6 := hQ5.out.trans hk
  replace hQ6 : Aside _ := hQ6
  clear hk
  refine wpAnyO_take hrf.out htr.out (i := 21) (v := ?_) rfl (by kernel_rfl) (fun _ _ _ h => h) (Or.inl ⟨by rfl, ?_⟩) ?_
  rotate_left
  · (intro X hX; go_simp <;> with_reducible rfl)
  try simp only [Act.put, List.setIfInBounds_toArray, List.set_cons_zero, List.set_cons_succ, List.getElem_toArray, List.getElem_cons_zero, List.getElem_cons_succ]
  refine wpAnyO_take hrf.out htr.out (i := 22) (v := ?_) rfl (by kernel_rfl) (fun _ _ _ h => h) (Or.inl ⟨by rfl, ?_⟩) ?_
  rotate_left
  · (intro X hX; go_simp <;> with_reducible rfl)
  try simp only [Act.put, List.setIfInBounds_toArray, List.set_cons_zero, List.set_cons_succ, List.getElem_toArray, List.getElem_cons_zero, List.getElem_cons_succ]
  refine wpAnyO_take hrf.out htr.out (i := 23) (v := ?_) rfl (by kernel_rfl) (fun _ _ _ h => h) (Or.inl ⟨by rfl, ?_⟩) ?_
  rotate_left
  · (intro X hX; go_simp <;> with_reducible rfl)
  try simp only [Act.put, List.setIfInBounds_toArray, List.set_cons_zero, List.set_cons_succ, List.getElem_toArray, List.getElem_cons_zero, List.getElem_cons_succ]
  refine wpAnyO_one (i := 24) (by kernel_rfl) rfl ?_
  intro K hK
  go_simp
  refine hK _ _ (fun h => absurd rfl h) ?_
  clear hK K
  try simp only [Act.put, List.setIfInBounds_toArray, List.set_cons_zero, List.set_cons_succ, List.getElem_toArray, List.getElem_cons_zero, List.getElem_cons_succ]
  refine wpAnyO_done (by kernel_rfl) ?_ _
  go_wp2
  go_ret
  exact ⟨rfl, hOw.out.trans hQ6.out⟩
end Go.Pri
end

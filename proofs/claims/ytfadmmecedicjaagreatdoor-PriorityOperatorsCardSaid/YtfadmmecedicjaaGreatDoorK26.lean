/-
  PriorityOperators: parts of its proof (Tr1 Tr2).
-/
import Derived.Test.YtfadmmecedicjaaGreatDoorK25
set_option linter.unusedVariables false
set_option linter.unusedSimpArgs false

section
/-
  Joined: walked.
-/
namespace Go.Pri
open Go Go.Abs Go.Proofs Go.RowKit Go.Lib Go.Maps
set_option maxRecDepth 100000
set_option maxHeartbeats 8000000

def opTok (o : Nat) : Int := match o with | 0 => 1 | 1 => 2 | 2 => 8 | _ => 7
theorem opTok_at {o : Nat} (h : o < 4) : (#[.int .i64 1, .int .i64 2, .int .i64 8, .int .i64 7] : Array Value)[o]? = some (.int .i64 (opTok o)) := by
  match o, h with
  | 0, _ => rfl
  | 1, _ => rfl
  | 2, _ => rfl
  | 3, _ => rfl
def opsAt (w : World) (v : Value) (ops : List Nat) : Prop := SliceAt 1 w v (ops.map fun o => [.int .i64 (o : Nat)])
theorem opsAt.old {w w' : World} {v : Value} {ops : List Nat} (h : opsAt w v ops) (ho : Old w w') : opsAt w' v ops := SliceAt.old h ho
/-- A tree in memory. -/
def TreeAt (w : World) (v : Value) (l : List Nd) : Prop := ∃ b c cur, v = .slice (some ⟨b, 0, none⟩) l.length c ∧ w.heap[b]? = some (.cells cur 79 (0, 0)) ∧ l.length ≤ c ∧ cur.toList.take (l.length * 4) = cellsN l
theorem own_tree {w : World} {base : Nat} {v : Value} {V : List Nd} (h : w.ownsRow base 79 4 v V.length (cellsN V)) (h0 : 0 < V.length) : TreeAt w v V := by
  rcases h.2 with ⟨_, hx⟩ | ⟨g, cap, cur, hv, _, h1, h2, _, _, h3⟩
  · omega
  · exact ⟨g, cap, cur, hv, h1, h2, h3⟩
theorem TreeAt.old {w w' : World} {v : Value} {l : List Nd} (h : TreeAt w v l) (ho : Old w w') : TreeAt w' v l := by
  obtain ⟨b, c, cur, h1, h2, h3⟩ := h
  exact ⟨b, c, cur, h1, (ho.heap _ (Array.getElem?_eq_some_iff.1 h2).1).trans h2, h3⟩
theorem TreeAt.slice {w : World} {v : Value} {l : List Nd} (h : TreeAt w v l) : SliceAt 4 w v (l.map encN) := by
  obtain ⟨g, c, cur, h1, h2, h3, h4⟩ := h
  refine .inr ⟨g, 0, c, by simpa using h1, by simpa using h3, fun j d hj i u hi => ?_⟩
  simp only [List.getElem?_map, Option.map_eq_some_iff] at hj
  obtain ⟨x, hx, rfl⟩ := hj
  have hf := cellsN_at l j x i u hx hi
  rw [← h4, List.getElem?_take] at hf
  split at hf
  · rw [Nat.zero_add]
    exact cells_at' h2 (by simpa using hf)
  · cases hf
/-- The tree whose root is operator k. -/
def joinT (ops : List Nat) (f k t : Nat) (a b : List Nd) : List Nd :=
  (⟨1 + (ops.getD k 0 : Nat), -1, 2 * (f : Int), 2 * (t : Int) + 1⟩ : Nd) :: a ++ (⟨-1, opTok (ops.getD k 0), 2 * (k : Int) + 1, 2 * (k : Int) + 2⟩ : Nd) :: b

theorem joined19 (ov tva tvb : Value) (ops : List Nat) (f k t o : Nat) (A B : List Nd) (w : World) (ho : opsAt w ov ops) (hk : ops[k]? = some o) (ho4 : o < 4) (hf : f ≤ 100) (hkl : k ≤ 100) (ht : t ≤ 100) (hol : ops.length ≤ 100)
    (hA : SliceAt 4 w tva (A.map encN)) (hB : SliceAt 4 w tvb (B.map encN)) (hA0 : 0 < A.length) (hB0 : 0 < B.length) (hAl : A.length ≤ 1000) (hBl : B.length ≤ 1000) :
    Calls Tryz.prog 19 #[ov, .int .i64 f, .int .i64 k, .int .i64 t, tva, tvb] w fun e w' => ∃ v, e = .returned v ∧ Old w w' ∧ TreeAt w' v (joinT ops f k t A B) := by
  obtain ⟨ob, oo, ocap, hov, hcell⟩ := ho.at (j := k) (c := [.int .i64 (o : Nat)]) (by simp [hk])
  replace hov : ov = .slice (some ⟨ob, oo, none⟩) ops.length ocap := by simpa using hov
  subst hov
  have hc0 := hcell 0 _ rfl
  have hc0 : w.cell? ⟨ob, oo + k, none⟩ = some (.int .i64 (o : Nat)) := by simpa using hc0
  have hklt : k < ops.length := (List.getElem?_eq_some_iff.1 hk).1
  have hk0 : (0 : Int) ≤ k := by omega
  have hk1 : (k : Int) < ops.length := by omega
  have ho0 : (0 : Int) ≤ o := by omega
  have ho1 : (o : Int) < 4 := by omega
  have hgetD : ops.getD k 0 = o := by simp [List.getD, hk]
  have w1 : IntKind.i64.wrap (2 * (f : Int)) = 2 * (f : Int) := wf_wrap (by omega) (by omega)
  have w2 : IntKind.i64.wrap (2 * (t : Int)) = 2 * (t : Int) := wf_wrap (by omega) (by omega)
  have w3 : IntKind.i64.wrap (2 * (t : Int) + 1) = 2 * (t : Int) + 1 := wf_wrap (by omega) (by omega)
  have w4 : IntKind.i64.wrap (1 + (o : Int)) = 1 + (o : Int) := wf_wrap (by omega) (by omega)
  have w5 : IntKind.i64.wrap (2 * (k : Int)) = 2 * (k : Int) := wf_wrap (by omega) (by omega)
  have w6 : IntKind.i64.wrap (2 * (k : Int) + 1) = 2 * (k : Int) + 1 := wf_wrap (by omega) (by omega)
  have w7 : IntKind.i64.wrap (2 * (k : Int) + 2) = 2 * (k : Int) + 2 := wf_wrap (by omega) (by omega)
  have hO1 : Old w (w.alloc (.cells (encN ⟨1 + (o : Nat), -1, 2 * (f : Int), 2 * (t : Int) + 1⟩).toArray 79)) := (Old.refl w).alloc _
  have hown1 := World.ownsRow_lit (base := w.heap.size) (e := 79) (size := 4) w (encN ⟨1 + (o : Nat), -1, 2 * (f : Int), 2 * (t : Int) + 1⟩).toArray 1 (Nat.le_refl _) (by decide) rfl
  have hown1 : (w.alloc (.cells (encN ⟨1 + (o : Nat), -1, 2 * (f : Int), 2 * (t : Int) + 1⟩).toArray 79)).ownsRow w.heap.size 79 4 (.slice (some ⟨w.heap.size, 0, none⟩) 1 1) [(⟨1 + (o : Nat), -1, 2 * (f : Int), 2 * (t : Int) + 1⟩ : Nd)].length (cellsN [(⟨1 + (o : Nat), -1, 2 * (f : Int), 2 * (t : Int) + 1⟩ : Nd)]) := by simpa [cellsN] using hown1
  have hA1 := hA.old hO1
  have hsz1 : w.heap.size ≤ (w.alloc (.cells (encN ⟨1 + (o : Nat), -1, 2 * (f : Int), 2 * (t : Int) + 1⟩).toArray 79)).heap.size := hO1.size
  replace hA : Aside _ := hA
  replace hB : Aside _ := hB
  replace hA1 : Aside _ := hA1
  replace hown1 : Aside _ := hown1
  replace hO1 : Aside _ := hO1
  replace hcell : Aside _ := hcell
  replace ho : Aside _ := ho
  replace hk : Aside _ := hk
  go_enter Tryz.func19, Tryz.ntmps19
  go_wp2_with (first
    | (at_builtin; refine pushN (.tmp 26) (.tmp 27) _ w.heap.size (.slice (some ⟨w.heap.size, 0, none⟩) 1 1) tva [(⟨1 + (o : Nat), -1, 2 * (f : Int), 2 * (t : Int) + 1⟩ : Nd)] A rfl rfl hown1.out hsz1 (by simp; omega) rfl rfl hA1.out hA0 ?_; intro v2 w2 hown2 hg2; have hO2 : Old w w2 := hO1.out.grown hg2 (fun k hk => by cases hk; exact Nat.le_refl _); obtain ⟨g2, c2, hv2, hgb2, hgs2⟩ := own_some hown2 (by simp); subst hv2; replace hown2 : Aside _ := hown2; replace hg2 : Aside _ := hg2))
  have hc2 := hO2.cell_some hc0
  have hbn : ob ≠ g2 := by have := lt_of_cell hc0; simp only at this; omega
  have kk : ∀ X, OldBut g2 w2 X → X.cell? ⟨ob, oo + k, none⟩ = some (.int .i64 (o : Nat)) := fun X hX => hX.cell_some hbn hc2
  replace kk : Aside _ := kk
  replace hO2 : Aside _ := hO2
  have hrf : ∀ X, OldBut g2 X X := OldBut.refl g2
  have htr : ∀ X Y Z, OldBut g2 X Y → OldBut g2 Y Z → OldBut g2 X Z := fun _ _ _ => OldBut.trans
  replace hrf : Aside _ := hrf
  replace htr : Aside _ := htr
  refine wp_region_O (OldBut g2) 17 (by kernel_rfl) ?_
  have hQ0 : Old w2 w2.drew := (Old.refl _).drew
  replace hQ0 : Aside _ := hQ0
  generalize w2.drew = X0 at *
  refine wpAnyO_take hrf.out htr.out (i := 0) (v := ?_) rfl (by kernel_rfl) (fun _ _ _ h => h) (Or.inl ⟨by rfl, ?_⟩) ?_
  rotate_left
  · (intro X hX; go_simp <;> with_reducible rfl)
  try simp only [Act.put, List.setIfInBounds_toArray, List.set_cons_zero, List.set_cons_succ, List.getElem_toArray, List.getElem_cons_zero, List.getElem_cons_succ]
  refine wpAnyO_take hrf.out htr.out (i := 2) (v := ?_) rfl (by kernel_rfl) (fun _ _ _ h => h) (Or.inl ⟨by rfl, ?_⟩) ?_
  rotate_left
  · (intro X hX; go_simp <;> with_reducible rfl)
  try simp only [Act.put, List.setIfInBounds_toArray, List.set_cons_zero, List.set_cons_succ, List.getElem_toArray, List.getElem_cons_zero, List.getElem_cons_succ]
  refine wpAnyO_take hrf.out htr.out (i := 3) (v := ?_) rfl (by kernel_rfl) (fun _ _ _ h => h) (Or.inl ⟨by rfl, ?_⟩) ?_
  rotate_left
  · (intro X hX; go_simp <;> with_reducible rfl)
  try simp only [Act.put, List.setIfInBounds_toArray, List.set_cons_zero, List.set_cons_succ, List.getElem_toArray, List.getElem_cons_zero, List.getElem_cons_succ]
  refine wpAnyO_take hrf.out htr.out (i := 4) (v := ?_) rfl (by kernel_rfl) (fun _ _ _ h => h) (Or.inl ⟨by rfl, ?_⟩) ?_
  rotate_left
  · (intro X hX; go_simp <;> with_reducible rfl)
  try simp only [Act.put, List.setIfInBounds_toArray, List.set_cons_zero, List.set_cons_succ, List.getElem_toArray, List.getElem_cons_zero, List.getElem_cons_succ]
  refine wpAnyO_take hrf.out htr.out (i := 5) (v := ?_) rfl (by kernel_rfl) (fun _ _ _ h => h) (Or.inl ⟨by rfl, ?_⟩) ?_
  rotate_left
  · (intro X hX; have f1 := kk.out X (hQ0.out.but.trans hX); go_simp <;> with_reducible rfl)
  try simp only [Act.put, List.setIfInBounds_toArray, List.set_cons_zero, List.set_cons_succ, List.getElem_toArray, List.getElem_cons_zero, List.getElem_cons_succ]
  refine wpAnyO_take hrf.out htr.out (i := 8) (v := ?_) rfl (by kernel_rfl) (fun _ _ _ h => h) (Or.inl ⟨by rfl, ?_⟩) ?_
  rotate_left
  · (intro X hX; go_simp <;> with_reducible rfl)
  try simp only [Act.put, List.setIfInBounds_toArray, List.set_cons_zero, List.set_cons_succ, List.getElem_toArray, List.getElem_cons_zero, List.getElem_cons_succ]
  refine wpAnyO_take hrf.out htr.out (i := 9) (v := ?_) rfl (by kernel_rfl) (fun _ _ _ h => h) (Or.inl ⟨by rfl, ?_⟩) ?_
  rotate_left
  · (intro X hX; go_simp <;> with_reducible rfl)
  try simp only [Act.put, List.setIfInBounds_toArray, List.set_cons_zero, List.set_cons_succ, List.getElem_toArray, List.getElem_cons_zero, List.getElem_cons_succ]
  refine wpAnyO_take hrf.out htr.out (i := 10) (v := ?_) rfl (by kernel_rfl) (fun _ _ _ h => h) (Or.inl ⟨by rfl, ?_⟩) ?_
  rotate_left
  · (intro X hX; go_simp <;> with_reducible rfl)
  try simp only [Act.put, List.setIfInBounds_toArray, List.set_cons_zero, List.set_cons_succ, List.getElem_toArray, List.getElem_cons_zero, List.getElem_cons_succ]
  refine wpAnyO_take hrf.out htr.out (i := 11) (v := ?_) rfl (by kernel_rfl) (fun _ _ _ h => h) (Or.inl ⟨by rfl, ?_⟩) ?_
  rotate_left
  · (intro X hX; go_simp <;> with_reducible rfl)
  try simp only [Act.put, List.setIfInBounds_toArray, List.set_cons_zero, List.set_cons_succ, List.getElem_toArray, List.getElem_cons_zero, List.getElem_cons_succ]
  refine wpAnyO_take hrf.out htr.out (i := 12) (v := ?_) rfl (by kernel_rfl) (fun _ _ _ h => h) (Or.inl ⟨by rfl, ?_⟩) ?_
  rotate_left
  · (intro X hX; go_simp <;> with_reducible rfl)
  try simp only [Act.put, List.setIfInBounds_toArray, List.set_cons_zero, List.set_cons_succ, List.getElem_toArray, List.getElem_cons_zero, List.getElem_cons_succ]
  refine wpAnyO_take hrf.out htr.out (i := 13) (v := ?_) rfl (by kernel_rfl) (fun _ _ _ h => h) (Or.inl ⟨by rfl, ?_⟩) ?_
  rotate_left
  · (intro X hX; go_simp <;> with_reducible rfl)
  try simp only [Act.put, List.setIfInBounds_toArray, List.set_cons_zero, List.set_cons_succ, List.getElem_toArray, List.getElem_cons_zero, List.getElem_cons_succ]
  refine wpAnyO_one (i := 1) (by kernel_rfl) rfl ?_
  intro K hK
  go_simp
  (go_at_call 18; refine Calls.mono (toks18 _) ?_; rintro e Y ⟨rfl, rfl⟩)
  refine hK _ _ (fun _ => ((Old.refl _).alloc _).but) ?_
  clear hK K
  try simp only [Act.put, List.setIfInBounds_toArray, List.set_cons_zero, List.set_cons_succ, List.getElem_toArray, List.getElem_cons_zero, List.getElem_cons_succ]
  have hN1 : (X0.alloc (.cells #[.int .i64 1, .int .i64 2, .int .i64 8, .int .i64 7] 3)).heap[X0.heap.size]? = some (.cells #[.int .i64 1, .int .i64 2, .int .i64 8, .int .i64 7] 3 (0, 0)) := World.alloc_heap_new _ _
  have hQ1 : Old w2 (X0.alloc (.cells #[.int .i64 1, .int .i64 2, .int .i64 8, .int .i64 7] 3)) := hQ0.out.alloc _
  have hne1 : X0.heap.size ≠ g2 := by have := hQ0.out.size; omega
  replace hN1 : Aside _ := hN1
  replace hQ1 : Aside _ := hQ1
  replace hne1 : Aside _ := hne1
  generalize X0.alloc (.cells #[.int .i64 1, .int .i64 2, .int .i64 8, .int .i64 7] 3) = X1 at *
  refine wpAnyO_take hrf.out htr.out (i := 6) (v := ?_) rfl (by kernel_rfl) (fun _ _ _ h => h) (Or.inl ⟨by rfl, ?_⟩) ?_
  rotate_left
  · (intro X hX; go_simp <;> with_reducible rfl)
  try simp only [Act.put, List.setIfInBounds_toArray, List.set_cons_zero, List.set_cons_succ, List.getElem_toArray, List.getElem_cons_zero, List.getElem_cons_succ]
  refine wpAnyO_take hrf.out htr.out (i := 7) (v := ?_) rfl (by kernel_rfl) (fun _ _ _ h => h) (Or.inl ⟨by rfl, ?_⟩) ?_
  rotate_left
  · (intro X hX; have f := cells_at' ((hX.heap _ (Array.getElem?_eq_some_iff.1 hN1.out).1 hne1.out).trans hN1.out) (opTok_at ho4); go_simp <;> with_reducible rfl)
  try simp only [Act.put, List.setIfInBounds_toArray, List.set_cons_zero, List.set_cons_succ, List.getElem_toArray, List.getElem_cons_zero, List.getElem_cons_succ]
  refine wpAnyO_take hrf.out htr.out (i := 14) (v := ?_) rfl (by kernel_rfl) (fun _ _ _ h => h) (Or.inl ⟨by rfl, ?_⟩) ?_
  rotate_left
  · (intro X hX; go_simp <;> with_reducible rfl)
  try simp only [Act.put, List.setIfInBounds_toArray, List.set_cons_zero, List.set_cons_succ, List.getElem_toArray, List.getElem_cons_zero, List.getElem_cons_succ]
  refine wpAnyO_one (i := 15) (by kernel_rfl) rfl ?_
  intro K hK
  go_simp
  refine hK _ _ (fun _ => ((Old.refl _).alloc _).but) ?_
  clear hK K
  try simp only [Act.put, List.setIfInBounds_toArray, List.set_cons_zero, List.set_cons_succ, List.getElem_toArray, List.getElem_cons_zero, List.getElem_cons_succ]
  change wpAnyO _ _ _ _ _ _ _ _ _ (X1.alloc (.cells (encN (⟨-1, opTok o, 2 * (k : Int) + 1, 2 * (k : Int) + 2⟩ : Nd)).toArray 79))
  have hN2 : (X1.alloc (.cells (encN (⟨-1, opTok o, 2 * (k : Int) + 1, 2 * (k : Int) + 2⟩ : Nd)).toArray 79)).heap[X1.heap.size]? = some (.cells (encN (⟨-1, opTok o, 2 * (k : Int) + 1, 2 * (k : Int) + 2⟩ : Nd)).toArray 79 (0, 0)) := World.alloc_heap_new _ _
  have hQ2 : Old w2 (X1.alloc (.cells (encN (⟨-1, opTok o, 2 * (k : Int) + 1, 2 * (k : Int) + 2⟩ : Nd)).toArray 79)) := hQ1.out.alloc _
  replace hN2 : Aside _ := hN2
  replace hQ2 : Aside _ := hQ2
  generalize X1.alloc (.cells (encN (⟨-1, opTok o, 2 * (k : Int) + 1, 2 * (k : Int) + 2⟩ : Nd)).toArray 79) = X2 at *
  refine wpAnyO_one (i := 16) (by kernel_rfl) rfl ?_
  intro K hK
  refine stepN (.tmp 29) (.tmp 44) _ w.heap.size (.slice (some ⟨g2, 0, none⟩) ([(⟨1 + (o : Nat), -1, 2 * (f : Int), 2 * (t : Int) + 1⟩ : Nd)] ++ A).length c2) ([(⟨1 + (o : Nat), -1, 2 * (f : Int), 2 * (t : Int) + 1⟩ : Nd)] ++ A) (⟨-1, opTok o, 2 * (k : Int) + 1, 2 * (k : Int) + 2⟩ : Nd) X1.heap.size rfl rfl (own_old hown2.out hQ2.out) (hO2.out.trans hQ2.out).size (by simp; omega) (by rfl) (by rfl) (fun i u hi => cells_at' hN2.out (by simpa using hi)) ?_
  intro v3 w3 hown3 hg3
  obtain ⟨a3, c3, hv3⟩ := own_form hown3
  rw [show (([(⟨1 + (o : Nat), -1, 2 * (f : Int), 2 * (t : Int) + 1⟩ : Nd)] ++ A) ++ [(⟨-1, opTok o, 2 * (k : Int) + 1, 2 * (k : Int) + 2⟩ : Nd)]).length = A.length + 1 + 1 by simp] at hv3
  subst hv3
  have hO3 : Old w w3 := (hO2.out.trans hQ2.out).grown hg3 (fun k hk => by cases hk; exact hgb2)
  refine hK _ _ (fun _ => (OldBut.refl g2 _).grown hg3 (fun k hk => by cases hk; exact .inr rfl)) ?_
  clear hK K
  try simp only [Act.put, List.setIfInBounds_toArray, List.set_cons_zero, List.set_cons_succ, List.getElem_toArray, List.getElem_cons_zero, List.getElem_cons_succ]
  replace hown3 : Aside _ := hown3
  refine wpAnyO_one (i := 17) (by kernel_rfl) rfl ?_
  intro K hK
  go_simp
  refine hK _ _ (fun h => absurd rfl h) ?_
  clear hK K
  try simp only [Act.put, List.setIfInBounds_toArray, List.set_cons_zero, List.set_cons_succ, List.getElem_toArray, List.getElem_cons_zero, List.getElem_cons_succ]
  refine wpAnyO_done (by kernel_rfl) ?_ _
  have hB3 : SliceAt 4 w3 tvb (B.map encN) := SliceAt.old (w := w) hB.out hO3
  replace hB3 : Aside _ := hB3
  clear kk hrf htr
  go_wp2_with (first
    | (at_builtin; refine pushN (.tmp 46) (.tmp 47) _ w.heap.size (.slice a3 (A.length + 1 + 1) c3) tvb (([(⟨1 + (o : Nat), -1, 2 * (f : Int), 2 * (t : Int) + 1⟩ : Nd)] ++ A) ++ [(⟨-1, opTok o, 2 * (k : Int) + 1, 2 * (k : Int) + 2⟩ : Nd)]) B rfl rfl hown3.out hO3.size (by simp; omega) rfl rfl hB3.out hB0 ?_; intro v4 w4 hown4 hg4; have hO4 : Old w w4 := hO3.grown hg4 (fun k hk => (World.ownsRow.lt (w := w3) (base := w.heap.size) hown3.out k hk).1); obtain ⟨a4, c4, hv4⟩ := own_form hown4; subst hv4; replace hown4 : Aside _ := hown4; replace hO4 : Aside _ := hO4))
  go_ret
  have hj : joinT ops f k t A B = ([(⟨1 + (o : Nat), -1, 2 * (f : Int), 2 * (t : Int) + 1⟩ : Nd)] ++ A) ++ [(⟨-1, opTok o, 2 * (k : Int) + 1, 2 * (k : Int) + 2⟩ : Nd)] ++ B := by unfold joinT; rw [hgetD]; simp
  have hlen : (joinT ops f k t A B).length = A.length + (B.length + 1) + 1 := by rw [hj]; simp
  have h := own_tree (w := w4) (base := w.heap.size) hown4.out (by simp)
  rw [← hj, hlen] at h
  exact ⟨.slice a4 (A.length + (B.length + 1) + 1) c4, rfl, hO4.out, h⟩
end Go.Pri
end

section
/-
  The trees of an expression: what Trees hands back, plain; its list in memory.
-/
namespace Go.Pri
open Go Go.Abs Go.Proofs Go.RowKit Go.Lib Go.Maps

def leafT (f : Nat) : List Nd := [⟨0, -1, 2 * (f : Int), 2 * (f : Int) + 1⟩, ⟨-1, 0, 2 * (f : Int), 2 * (f : Int) + 1⟩]
def rowJ (T : Nat → Nat → List (List Nd)) (ops : List Nat) (f k t : Nat) : List (List Nd) := (T (k - f) f).flatMap fun a => (T (t - (k + 1)) (k + 1)).map fun b => joinT ops f k t a b
def treesTo (T : Nat → Nat → List (List Nd)) (ops : List Nat) (f t k : Nat) : List (List Nd) := (List.range (k - f)).flatMap fun j => rowJ T ops f (f + j) t
def treesN (ops : List Nat) : Nat → Nat → Nat → List (List Nd)
  | 0, _, f => [leafT f]
  | _ + 1, 0, f => [leafT f]
  | n + 1, d + 1, f => treesTo (treesN ops n) ops f (f + (d + 1)) (f + (d + 1))
theorem treesTo_start (T : Nat → Nat → List (List Nd)) (ops : List Nat) (f t : Nat) : treesTo T ops f t f = [] := by simp [treesTo]
theorem treesTo_succ (T : Nat → Nat → List (List Nd)) (ops : List Nat) {f t k : Nat} (h : f ≤ k) : treesTo T ops f t (k + 1) = treesTo T ops f t k ++ rowJ T ops f k t := by
  have e : k + 1 - f = (k - f) + 1 := by omega
  have e2 : f + (k - f) = k := by omega
  simp [treesTo, e, List.range_succ, e2]

theorem flat_le' {α β : Type} (f : α → List β) (k : Nat) : ∀ (l : List α), (∀ a ∈ l, (f a).length ≤ k) → (l.flatMap f).length ≤ l.length * k
  | [], _ => by simp
  | a :: l, h => by
    have h1 := flat_le' f k l (fun b hb => h b (List.mem_cons_of_mem _ hb))
    have h2 := h a (List.mem_cons_self ..)
    simp only [List.flatMap_cons, List.length_append, List.length_cons, Nat.succ_mul]
    omega
theorem joinT_len (ops : List Nat) (f k t : Nat) (a b : List Nd) : (joinT ops f k t a b).length = a.length + b.length + 2 := by
  simp [joinT]; omega
theorem treesN_len (ops : List Nat) : ∀ {n d f : Nat} {l : List Nd}, d ≤ n → l ∈ treesN ops n d f → l.length = 4 * d + 2
  | 0, d, f, l, hd, h => by
    obtain rfl : d = 0 := by omega
    simp [treesN] at h; subst h; rfl
  | n + 1, 0, f, l, hd, h => by simp [treesN] at h; subst h; rfl
  | n + 1, d + 1, f, l, hd, h => by
    simp only [treesN, treesTo, rowJ, List.mem_flatMap, List.mem_map, List.mem_range] at h
    obtain ⟨j, hj, a, ha, b, hb, rfl⟩ := h
    have h1 := treesN_len ops (n := n) (by omega) ha
    have h2 := treesN_len ops (n := n) (by omega) hb
    rw [joinT_len, h1, h2]
    omega
def cat : Nat → Nat → Nat
  | 0, _ => 1
  | _ + 1, 0 => 1
  | n + 1, d + 1 => ((List.range (d + 1)).map fun j => cat n j * cat n (d - j)).sum
theorem flat_len {α β : Type} (f : α → List β) (l : List α) : (l.flatMap f).length = (l.map fun a => (f a).length).sum := by
  induction l with
  | nil => rfl
  | cons a l ih => simp [ih]
theorem treesN_cat (ops : List Nat) : ∀ {n d f : Nat}, d ≤ n → (treesN ops n d f).length = cat n d
  | 0, d, f, _ => rfl
  | n + 1, 0, f, _ => rfl
  | n + 1, d + 1, f, hd => by
    simp only [treesN, treesTo, cat, flat_len]
    have e0 : f + (d + 1) - f = d + 1 := by omega
    rw [e0]
    congr 1
    apply List.map_congr_left
    intro j hj
    have hj := List.mem_range.1 hj
    have e1 : f + j - f = j := by omega
    have e2 : f + (d + 1) - (f + j + 1) = d - j := by omega
    simp only [rowJ, flat_len, List.length_map, e1, e2]
    rw [treesN_cat ops (n := n) (d := d - j) (by omega)]
    rw [List.map_const', List.sum_replicate_nat, treesN_cat ops (n := n) (d := j) (by omega)]
theorem cat_small : ∀ n, n ≤ 5 → ∀ d, d ≤ n → cat n d ≤ 42 ∧ 1 ≤ cat n d := by decide

/-! ## Lists of trees -/
def TreesIn (w : World) (b : Nat) (v : Value) (ts : List (List Nd)) : Prop := ∃ cap cur vs, v = .slice (some ⟨b, 0, none⟩) ts.length cap ∧ w.heap[b]? = some (.cells cur 42 (0, 0)) ∧ cur.toList.take ts.length = vs ∧ vs.length = ts.length ∧
  ∀ (j : Nat) x l, vs[j]? = some x → ts[j]? = some l → TreeAt w x l
theorem TreesIn.old {w w' : World} {b : Nat} {v : Value} {ts : List (List Nd)} (h : TreesIn w b v ts) (ho : Old w w') : TreesIn w' b v ts := by
  obtain ⟨cap, cur, vs, h1, h2, h3, h4, h5⟩ := h
  exact ⟨cap, cur, vs, h1, (ho.heap _ (Array.getElem?_eq_some_iff.1 h2).1).trans h2, h3, h4, fun j x l e1 e2 => (h5 j x l e1 e2).old ho⟩
theorem TreesIn.cell {w : World} {b : Nat} {v : Value} {ts : List (List Nd)} (h : TreesIn w b v ts) {i : Nat} {l : List Nd} (hi : ts[i]? = some l) :
    ∃ bx cx, TreeAt w (.slice (some ⟨bx, 0, none⟩) l.length cx) l ∧ ∀ X : World, X.heap[b]? = w.heap[b]? → X.cell? ⟨b, i, none⟩ = some (.slice (some ⟨bx, 0, none⟩) l.length cx) := by
  obtain ⟨cap, cur, vs, h1, h2, h3, h4, h5⟩ := h
  have hl := (List.getElem?_eq_some_iff.1 hi).1
  obtain ⟨x, hx⟩ : ∃ x, vs[i]? = some x := ⟨_, List.getElem?_eq_getElem (by omega)⟩
  have ht := h5 i x l hx hi
  obtain ⟨bx, cx, cur', rfl, _⟩ := ht
  refine ⟨bx, cx, h5 i _ l hx hi, fun X hX => cells_at' (hX.trans h2) ?_⟩
  rw [← h3, List.getElem?_take, if_pos hl] at hx
  simpa using hx
theorem TreeAt.grown {X w' : World} {v vo : Value} {l : List Nd} {base n : Nat} {xs : List Value} (h : TreeAt X v l) (hown : X.ownsRow base 42 1 vo n xs) (hg : X.grownBy w' vo.ownBlock) : TreeAt w' v l := by
  obtain ⟨b, c, cur, h1, h2, h3⟩ := h
  exact ⟨b, c, cur, h1, (hg.block b (Array.getElem?_eq_some_iff.1 h2).1 (not_row' h2 (by decide) hown)).trans h2, h3⟩
theorem TreesIn.grown {X w' : World} {b : Nat} {v vo : Value} {ts : List (List Nd)} {base n : Nat} {xs : List Value} (h : TreesIn X b v ts) (hown : X.ownsRow base 42 1 vo n xs) (hg : X.grownBy w' vo.ownBlock) (hb : some b ≠ vo.ownBlock) : TreesIn w' b v ts := by
  obtain ⟨cap, cur, vs, h1, h2, h3, h4, h5⟩ := h
  exact ⟨cap, cur, vs, h1, (hg.block b (Array.getElem?_eq_some_iff.1 h2).1 hb).trans h2, h3, h4, fun j x l e1 e2 => (h5 j x l e1 e2).grown hown hg⟩

/-- The trees so far. -/
structure TW (w0 wr : World) (v : Value) (ts : List (List Nd)) (vs : List Value) : Prop where
  old : Old w0 wr
  own : wr.ownsRow w0.heap.size 42 1 v ts.length vs
  at_ : ∀ (j : Nat) x l, vs[j]? = some x → ts[j]? = some l → TreeAt wr x l
theorem TW.len {w0 wr : World} {v : Value} {ts : List (List Nd)} {vs : List Value} (h : TW w0 wr v ts vs) : vs.length = ts.length := by simpa using h.own.1
theorem TW.keep {w0 wr X : World} {v : Value} {ts : List (List Nd)} {vs : List Value} (h : TW w0 wr v ts vs) (ho : Old wr X) : TW w0 X v ts vs := ⟨h.old.trans ho, own_old h.own ho, fun j x l e1 e2 => (h.at_ j x l e1 e2).old ho⟩
theorem TW.step {w0 X w' : World} {v v' tv : Value} {ts : List (List Nd)} {l : List Nd} {vs : List Value} (h : TW w0 X v ts vs) (ht : TreeAt X tv l) (hown : w'.ownsRow w0.heap.size 42 1 v' (ts.length + 1) (vs ++ [tv])) (hg : X.grownBy w' v.ownBlock) : TW w0 w' v' (ts ++ [l]) (vs ++ [tv]) := by
  refine ⟨h.old.grown hg (fun k hk => (h.own.lt k hk).1), by simpa using hown, fun j x y e1 e2 => ?_⟩
  have hl := h.len
  rcases Nat.lt_or_ge j vs.length with hj | hj
  · rw [List.getElem?_append_left hj] at e1
    rw [List.getElem?_append_left (by omega)] at e2
    exact (h.at_ j x y e1 e2).grown h.own hg
  · rw [List.getElem?_append_right hj] at e1
    rw [List.getElem?_append_right (by omega)] at e2
    have ej : j = vs.length := by
      have := (List.getElem?_eq_some_iff.1 e1).1
      simp at this
      omega
    subst ej
    simp at e1
    rw [hl] at e2
    simp at e2
    subst e1; subst e2
    exact ht.grown h.own hg
theorem TW.trees {w0 wr : World} {v : Value} {ts : List (List Nd)} {vs : List Value} (h : TW w0 wr v ts vs) (h0 : 0 < ts.length) : ∃ b, TreesIn wr b v ts ∧ w0.heap.size ≤ b := by
  rcases h.own.2 with ⟨_, hx⟩ | ⟨g, cap, cur, hv, hb, h1, h2, _, _, h3⟩
  · omega
  · exact ⟨g, ⟨cap, cur, vs, hv, h1, by simpa using h3, h.len, h.at_⟩, hb⟩
end Go.Pri
end

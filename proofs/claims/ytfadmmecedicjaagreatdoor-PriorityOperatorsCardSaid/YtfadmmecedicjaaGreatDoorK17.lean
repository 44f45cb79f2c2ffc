/-
  PriorityOperators: parts of its proof (Pr11).
-/
import Derived.Test.YtfadmmecedicjaaGreatDoorK16
set_option linter.unusedVariables false
set_option linter.unusedSimpArgs false

section
/-
  priority.kids, walked.
-/
namespace Go.Pri
open Go Go.Abs Go.Proofs Go.RowKit Go.Lib

theorem info39 : (Tryz.prog.info? 39).map (fun i => (i.zero, i.size, i.bytes)) = some (some (.slice none 0 0), 1, 24) := by kernel_rfl
theorem made_nil (n : Nat) : (madeCells (Value.slice none 0 0).cells (n * 1)).toList = List.replicate n (Value.slice none 0 0) := by
  apply List.ext_getElem
  · simp [madeCells]
  · intro i h1 h2
    simp [madeCells, Value.cells, Nat.mod_one]

/-- A number put behind a row of numbers. -/
theorem push3 {ops : Array Oper} {rest : List Oper} {o : Oper} {a : Act} {Q : Exit → Act → World → Prop} (s x : Operand) (W : World) (base : Nat) (v : Value) (n : Nat) (xs : List Value) (k : Int) (b : Nat)
    (hgd : o.guard = none) (ho : o.op = .call { callee := .builtin .append, args := #[s, x], argTypes := #[39, 39] })
    (hown : W.ownsRow base 3 1 v n xs) (hb : base ≤ W.heap.size) (hn : n ≤ 2000000)
    (hs : a.eval s = v) (hx : a.eval x = .slice (some ⟨b, 0, none⟩) 1 1) (m0 : W.cell? ⟨b, 0, none⟩ = some (.int .i64 k))
    (h : ∀ v' w', w'.ownsRow base 3 1 v' (n + 1) (xs ++ [.int .i64 k]) → W.grownBy w' v.ownBlock → (v'.ownBlock = v.ownBlock ∨ v'.ownBlock = some W.heap.size) → wpList Tryz.prog ops Q rest (a.put o.dst v') w') : wpList Tryz.prog ops Q (o :: rest) a W := by
  obtain ⟨i6, hi6, hz6, hs6, hb6⟩ := info_parts info3
  refine wpList_append_own_at _ hgd s x 39 ho base 3 i6 (.int .i64 0) 1 8 Tryz.underlying39 hi6 hz6 hs6 hb6 rfl (by decide) v n xs hs hown ⟨b, 0, none⟩ 1 1 [.int .i64 k] hx rfl ?_ ?_ ?_ ?_ hb ?_
  · intro j u hj
    match j, hj with
    | 0, hj => simp at hj; subst hj; simpa [Addr.add] using m0
    | j + 1, hj => simp at hj
  · intro u hu
    simp at hu
    subst hu
    rfl
  · unfold maxLen; omega
  · omega
  · intro v' w' h1 h2 _ h4
    exact h v' w' h1 h2 h4

theorem top_num {w0 wr : World} {B n : Nat} {st : Value} {L : List Nat} {u : Nat} {G : List (List Int × Value)} (h : KM w0 B n wr st (L ++ [u]) G) :
    ∃ g cap, st = .slice (some ⟨g, 0, none⟩) (L.length + 1) cap ∧ L.length + 1 ≤ cap ∧ wr.cell? ⟨g, L.length, none⟩ = some (.int .i64 u) := by
  have h1 := h.stk
  rw [List.length_append, List.length_singleton, List.map_append] at h1
  obtain ⟨g, cap, rfl, _, _⟩ := own_some h1 (by omega)
  have h2 := h1.cellAt L.length (by omega)
  rw [List.getElem?_append_right (by simp)] at h2
  exact ⟨g, cap, rfl, own_cap h1, by simpa using h2⟩
/-- A node's cell in the row of children. -/
theorem kid_cell {w0 wr : World} {B n : Nat} {st : Value} {S : List Nat} {G : List (List Int × Value)} (h : KM w0 B n wr st S G) {u : Nat} (hu : u < n) :
    ∃ ks v, G[u]? = some (ks, v) ∧ wr.cell? ⟨B, u, none⟩ = some v ∧ (∃ a c, v = .slice a ks.length c) ∧ wr.frozen? ⟨B, u, none⟩ = false := by
  have hl : u < G.length := by have := h.len; omega
  have h1 := h.out.cellAt u (by omega)
  rw [List.getElem?_map, List.getElem?_eq_getElem hl] at h1
  refine ⟨G[u].1, G[u].2, List.getElem?_eq_getElem hl, h1, ?_, h.out.frozenAt u⟩
  exact own_form (h.rows u _ (List.getElem?_eq_getElem hl))

/-- What holds while full nodes are taken off the stack. -/
def In37 (ps : List Prod') (l : List Nd) (n : Nat) (w box : World) (kk gg : Nat) (s6 : Value) (wr : World) : Prop :=
  ∃ (G : List (List Int × Value)) (T : List Nat), T.length ≤ gg ∧ T.length ≤ kk + 1 ∧ runK ps l (l.take (kk + 1)) 0 ([], List.replicate n []) = (settleK ps l (G.map (·.1)) T, G.map (·.1)) ∧
    KM w (w.heap.size + 1) n wr s6 T.reverse G ∧ (∀ u ∈ T, u < n ∧ ∃ x, l[u]? = some x ∧ 0 ≤ x.p) ∧ Old box wr ∧ ∀ (i : Nat) x, G[i]? = some x → x.1.length ≤ kk + 1

/-- What is known behind a child's append. -/
theorem kid_step {w0 wr Wb w4 : World} {B n : Nat} {st v v' : Value} {S : List Nat} {G : List (List Int × Value)} {u : Nat} {ks : List Int} {i : Int} (h : KM w0 B n Wb st S G) (hG : G[u]? = some (ks, v)) (hu : u < n) (hB : B < wr.heap.size)
    (hv : ∀ k, v.ownBlock = some k → k < wr.heap.size) (hold : Old wr Wb) (hown : w4.ownsRow (B + 1) 3 1 v' (ks.length + 1) (ks.map (Value.int .i64) ++ [.int .i64 i])) (hgrow : Wb.grownBy w4 v.ownBlock)
    (hat : v'.ownBlock = v.ownBlock ∨ v'.ownBlock = some Wb.heap.size) :
    w4.cell? ⟨B, u, none⟩ = some v ∧ w4.frozen? ⟨B, u, none⟩ = false ∧ (∀ (b : Nat) (j : Nat) x, wr.heap.size ≤ b → Wb.cell? ⟨b, j, none⟩ = some x → (w4.setCell ⟨B, u, none⟩ v').cell? ⟨b, j, none⟩ = some x) ∧
      KM w0 B n (w4.setCell ⟨B, u, none⟩ v') st S (G.set u (ks ++ [i], v')) := by
  have ho := h.out.kept hgrow (out_ne (fun k hk => ((h.rows u _ hG).lt k hk).1))
  refine ⟨?_, ho.frozenAt u, fun b j x hb hx => ?_, h.kid hG hown hgrow hat⟩
  · have := ho.cellAt u (by omega)
    rw [List.getElem?_map, hG] at this
    exact this
  · have hbl := lt_of_cell hx
    have h1 : w4.heap[b]? = Wb.heap[b]? := hgrow.block b hbl (fun e => by have := hv b e.symm; omega)
    have h2 : (w4.setCell ⟨B, u, none⟩ v').heap[b]? = w4.heap[b]? := (ho.stored u v').2.block b (by have := hgrow.size; simp only at hbl; omega) (fun e => by cases e; omega)
    exact (World.cell?_of_block (w := Wb) (h2.trans h1)).trans hx

set_option maxRecDepth 100000 in
set_option maxHeartbeats 8000000 in
theorem kids37 (c0 c1 c2 c3 c4 c5 c6 c7 c8 tv : Value) (nt : Nat) (ps : List Prod') (l : List Nd) (w : World)
    (hs : SliceAt 4 w tv (l.map encN)) (hg : GramAt w c3 c5 nt ps) (hok : ∀ x ∈ l, okNd nt ps.length x) (hpos : 0 < l.length) (hle : l.length ≤ 2000000) :
    Calls Tryz.prog 37 #[.agg #[c0, c1, c2, c3, c4, c5, c6, c7, c8], tv] w fun e w' =>
      ∃ b, e = .returned (.slice (some ⟨b, 0, none⟩) l.length l.length) ∧ KidsAt w' b (runK ps l l 0 ([], List.replicate l.length [])).2 ∧ Old w w' := by
  obtain ⟨bt, off, capt, rfl, hcell⟩ : ∃ bt off capt, tv = .slice (some ⟨bt, off, none⟩) l.length capt ∧ RowK 4 w bt off (l.map encN) := by
    rcases hs with ⟨h, _⟩ | ⟨bt, off, capt, h1, _, h2⟩
    · have : l = [] := by simpa using h
      simp [this] at *
    · exact ⟨bt, off, capt, by simpa using h1, h2⟩
  generalize hn : l.length = n at *
  obtain ⟨i3, hi3, hz3, hs3, hb3⟩ := info_parts info39
  have b2 : i3.bytes * n ≤ 281474976710656 := by rw [hb3]; omega
  have b3 : n ≤ maxLen := by unfold maxLen; omega
  have b4 : w.heap.size + 1 ≤ (w.alloc (.cells #[c0, c1, c2, c3, c4, c5, c6, c7, c8] 37)).heap.size := by simp
  have hright : ∀ (u : Nat) x, l[u]? = some x → 0 ≤ x.p → ∃ b5 off5 cap5 ar cr, c5 = .slice (some ⟨b5, off5, none⟩) ps.length cap5 ∧ w.cell? ⟨b5, off5 + x.p.toNat * 13 + 2, none⟩ = some (.slice ar (rlen ps l u) cr) ∧ x.p < ps.length := fun u x hu hp => by
    rcases hok x (List.mem_of_getElem? hu) with ⟨e, _⟩ | ⟨_, hlt, _⟩
    · omega
    · obtain ⟨q, hq⟩ : ∃ q, ps[x.p.toNat]? = some q := ⟨_, List.getElem?_eq_getElem (by omega)⟩
      obtain ⟨cs, h1, h2, h3⟩ := hg.prods
      obtain ⟨c, rv, e1, _, e3, e4, _⟩ := h3 _ q hq
      obtain ⟨b5, off5, cap5, h6, h7⟩ := h1.at e1
      obtain ⟨ar, cr, hrv⟩ := e4.form
      refine ⟨b5, off5, cap5, ar, cr, by rw [h6, h2], ?_, hlt⟩
      rw [h7 2 _ e3, hrv, List.length_map]
      simp only [rlen, hu, rightsOf, if_neg (show ¬ x.p < 0 by omega), hq, Option.map_some, Option.getD_some]
  have hbox : ∀ wr, Old (w.alloc (.cells #[c0, c1, c2, c3, c4, c5, c6, c7, c8] 37)) wr → wr.cell? ⟨w.heap.size, 5, none⟩ = some c5 := fun wr h => h.cell_some (by simp)
  have hO : Old w (w.alloc (.cells #[c0, c1, c2, c3, c4, c5, c6, c7, c8] 37)) := (Old.refl w).alloc _
  obtain ⟨i4, hi4, hz4, hs4, hb4⟩ := info_parts info3
  clear hg hs
  replace hright : Aside _ := hright
  replace hbox : Aside _ := hbox
  replace hcell : Aside _ := hcell
  replace hok : Aside _ := hok
  replace hO : Aside _ := hO
  go_enter Tryz.func37, Tryz.ntmps37
  go_wp2_with (first
    | (at_make; refine wpList_make_full _ rfl (.tmp 12) (.tmp 12) 107 rfl (w.heap.size + 1) 39 i3 (.slice none 0 0) 1 Tryz.underlying107 hi3 hz3 hs3 .i64 .i64 n n n rfl rfl rfl rfl b2 b3 b4 ?_; intro w1 hown1 hgrow1))
  have hM1 : KM w (w.heap.size + 1) n w1 (.slice none 0 0) ([] : List Nat).reverse (List.replicate n (([] : List Int), Value.slice none 0 0)) := by
    rw [made_nil, World.size_alloc] at hown1
    have hlt : w.heap.size + 1 < w1.heap.size := (hown1.lt _ rfl).2
    refine ⟨by simp, by simpa using hown1, fun i x hx => ?_, World.ownsRow_nil _ _ _ _, fun i j x y _ hx _ => ?_, fun i x hx => ?_, hO.out.grown hgrow1 (fun k hk => by cases hk), by omega, by omega⟩
    · rw [List.getElem?_replicate] at hx
      split at hx
      · cases hx; exact World.ownsRow_nil _ _ _ _
      · cases hx
    · rw [List.getElem?_replicate] at hx
      split at hx
      · cases hx; exact .inl rfl
      · cases hx
    · rw [List.getElem?_replicate] at hx
      split at hx
      · cases hx; exact .inl rfl
      · cases hx
  have hO1 : Old (w.alloc (.cells #[c0, c1, c2, c3, c4, c5, c6, c7, c8] 37)) w1 := (Old.refl _).grown hgrow1 (fun k hk => by cases hk)
  replace hM1 : Aside _ := hM1
  replace hO1 : Aside _ := hO1
  clear hown1 hgrow1 b2 b3 b4 hi3 hz3 hs3 hb3
  go_loopg [6, 16] n (fun gg s6 s16 wr => ∃ (kk : Nat) (G : List (List Int × Value)) (T : List Nat), kk ≤ n ∧ n - kk ≤ gg ∧ T.length ≤ kk ∧ s16 = .int .i64 kk ∧ Aside (runK ps l (l.take kk) 0 ([], List.replicate n []) = (T, G.map (·.1))) ∧
    Aside (KM w (w.heap.size + 1) n wr s6 T.reverse G) ∧ Aside (∀ u ∈ T, u < n ∧ ∃ x, l[u]? = some x ∧ 0 ≤ x.p) ∧ Aside (Old (w.alloc (.cells #[c0, c1, c2, c3, c4, c5, c6, c7, c8] 37)) wr) ∧ Aside (∀ (i : Nat) x, G[i]? = some x → x.1.length ≤ kk))
  case atStart => exact ⟨0, List.replicate n ([], .slice none 0 0), [], Nat.zero_le _, by omega, Nat.le_refl _, rfl, (show Aside (runK ps l (l.take 0) 0 ([], List.replicate n []) = _) from by simp [Aside, runK]), hM1, (show Aside (∀ u ∈ ([] : List Nat), u < n ∧ ∃ x, l[u]? = some x ∧ 0 ≤ x.p) from fun u hu => by cases hu), hO1, (show Aside (∀ (i : Nat) x, (List.replicate n (([] : List Int), Value.slice none 0 0))[i]? = some x → x.1.length ≤ 0) from fun i x hx => by
    rw [List.getElem?_replicate] at hx
    split at hx
    · cases hx; exact Nat.le_refl _
    · cases hx)⟩
  case round =>
    obtain ⟨kk, G, T, hkk, hgk, hTk, rfl, hR, hM, hT, hOr, hL⟩ := hrel
    clear hM1 hO1
    by_cases hlt : kk < n
    · have hlt' : (kk : Int) < n := by omega
      obtain ⟨⟨xp, xt, xf, xo⟩, hx⟩ : ∃ x, l[kk]? = some x := ⟨_, List.getElem?_eq_getElem (by omega)⟩
      have hOw := hO.out.trans hOr.out
      have e0 := hOw.cell_some (hcell.out kk (encN ⟨xp, xt, xf, xo⟩) (by simp [hx]) 0 _ rfl)
      have e1 := hOw.cell_some (hcell.out kk (encN ⟨xp, xt, xf, xo⟩) (by simp [hx]) 1 _ rfl)
      have e2 := hOw.cell_some (hcell.out kk (encN ⟨xp, xt, xf, xo⟩) (by simp [hx]) 2 _ rfl)
      have e3 := hOw.cell_some (hcell.out kk (encN ⟨xp, xt, xf, xo⟩) (by simp [hx]) 3 _ rfl)
      simp only [Nat.add_zero] at e0 e1 e2 e3
      have hstep := runK_step (ps := ps) (l := l) (r := l) (i := 0) (s := ([], List.replicate n [])) hx
      rw [hR.out, Nat.zero_add] at hstep
      simp only [stepK] at hstep
      have hin : 0 ≤ xp → kk < n ∧ ∃ x, l[kk]? = some x ∧ 0 ≤ x.p := fun h => ⟨hlt, _, hx, h⟩
      replace hstep : Aside _ := hstep
      replace hin : Aside _ := hin
      replace hx : Aside _ := hx
      have hOn : Old wr (wr.alloc (.cells #[.int .i64 xp, .int .i64 xt, .int .i64 xf, .int .i64 xo] 79)) := (Old.refl wr).alloc _
      have hOr2 := hOr.out.trans hOn
      have hMn := hM.out.keep hOn
      clear hOw
      rcases T with _ | ⟨u, T'⟩
      rotate_left
      have hM' := hM.out
      simp only [List.reverse_cons] at hM'
      obtain ⟨g, cap, rfl, hcap, hg⟩ := top_num hM'
      obtain ⟨hun, y, hy, hyp⟩ := hT.out u (List.mem_cons_self ..)
      obtain ⟨ks, v, hG, hcv, ⟨av, cv, rfl⟩, hfz⟩ := kid_cell hM' hun
      have hksn : ks.length ≤ 2000000 := by have h := hL.out u _ hG; simp only at h; omega
      simp only [List.length_reverse] at hM hMn hcap hg hM'
      have hTk' : T'.length + 1 ≤ kk := hTk
      have hun' : (u : Int) < n := by omega
      have hBl : w.heap.size + 1 < wr.heap.size := by have := lt_of_cell hcv; simp only at this; omega
      have hvl := fun k hk => ((hM'.rows u _ hG).lt k hk).2
      have hg' := hOn.cell_some hg
      have hcv' := hOn.cell_some hcv
      have hOb2 : Old wr ((wr.alloc (.cells #[.int .i64 xp, .int .i64 xt, .int .i64 xf, .int .i64 xo] 79)).alloc (.cells #[.int .i64 kk] 3)) := hOn.alloc _
      have hMb := hM.out.keep hOb2
      have hOb := hOr.out.trans hOb2
      have hsz := hMb.size
      have hrow := hMb.rows u _ hG
      have hks := fun (w4 : World) (v' : Value) h1 h2 h3 => kid_step (w4 := w4) (v' := v') (i := (kk : Int)) hMb hG hun hBl hvl hOb2 h1 h2 h3
      have hres : runK ps l (l.take (kk + 1)) 0 ([], List.replicate n []) = (settleK ps l ((G.map (·.1)).set u (ks ++ [(kk : Int)])) (if 0 ≤ xp then kk :: u :: T' else u :: T'), (G.map (·.1)).set u (ks ++ [(kk : Int)])) := by
        rw [hstep.out]
        simp only [kidOf, List.getElem?_map, hG, Option.map_some, Option.getD_some]
      have hL5 : ∀ v' (i : Nat) x, (G.set u (ks ++ [(kk : Int)], v'))[i]? = some x → x.1.length ≤ kk + 1 := fun v' i x hx => by
        rw [List.getElem?_set] at hx
        by_cases e : u = i
        · rw [if_pos e] at hx
          split at hx
          · cases hx
            have h := hL.out u _ hG
            simpa using h
          · cases hx
        · rw [if_neg e] at hx
          have := hL.out i x hx
          omega
      replace hL5 : Aside _ := hL5
      replace hres : Aside _ := hres
      replace hks : Aside _ := hks
      replace hMb : Aside _ := hMb
      replace hOb : Aside _ := hOb
      replace hrow : Aside _ := hrow
      have hvo : ∀ k, (Value.slice av ks.length cv).ownBlock = some k → w.heap.size + 1 + 1 ≤ k := fun k hk => (World.ownsRow.lt hrow.out k hk).1
      replace hvo : Aside _ := hvo
      clear hM hMn hOr2 hOn hM' hvl hOb2 hstep hR hOr hL
      rcases (show xp < 0 ∨ 0 ≤ xp by omega) with hxp | hxp
      have hxp' : ¬ 0 ≤ xp := by omega
      focus go_wp2_with (first
        | (at_builtin; refine push3 (.tmp 35) (.tmp 37) _ (w.heap.size + 1 + 1) (.slice av ks.length cv) ks.length (ks.map (Value.int .i64)) kk (wr.heap.size + 1) rfl rfl hrow.out hsz hksn rfl rfl (by simp) ?_; intro s' w4 hown4 hgrow4 hat4; obtain ⟨g', cap', rfl⟩ := ownsRow_succ hown4; obtain ⟨hc4, hf4, hk4, hM4⟩ := hks.out w4 _ hown4 hgrow4 hat4; have hb4 := hk4 wr.heap.size 0 (.int .i64 xp) (Nat.le_refl _) (by simp)))
      have hI : In37 ps l n w (w.alloc (.cells #[c0, c1, c2, c3, c4, c5, c6, c7, c8] 37)) kk n (.slice (some ⟨g, 0, none⟩) (T'.length + 1) cap) (w4.setCell ⟨w.heap.size + 1, u, none⟩ (.slice (some ⟨g', 0, none⟩) (ks.length + 1) cap')) := by
        refine ⟨_, u :: T', by simp only [List.length_cons]; omega, by simp only [List.length_cons]; omega, ?_, by simpa using hM4, hT.out, ?_, hL5.out _⟩
        · rw [hres.out, if_neg (show ¬ 0 ≤ xp by omega), List.map_set]
        · exact (hOb.out.grown hgrow4 (fun k hk => by have := hvo.out k hk; simp; omega)).setCell (by simp) _
      replace hI : Aside _ := hI
      clear hM4 hks hMb hOb hrow hown4 hgrow4 hat4 hk4 hb4 hc4 hf4 hT hin hL5 hres hvo hcv hcv' hg hg' hG hy hyp
      rotate_left
      have hres : runK ps l (l.take (kk + 1)) 0 ([], List.replicate n []) = _ := hres.out
      rw [if_pos hxp] at hres
      replace hres : Aside _ := hres
      have hTl : T'.length + 1 ≤ 2000000 := by omega
      focus go_wp2_with (first
        | (at_builtin; refine push3 (.tmp 35) (.tmp 37) _ (w.heap.size + 1 + 1) (.slice av ks.length cv) ks.length (ks.map (Value.int .i64)) kk (wr.heap.size + 1) rfl rfl hrow.out hsz hksn rfl rfl (by simp) ?_; intro s' w4 hown4 hgrow4 hat4; obtain ⟨g', cap', rfl⟩ := ownsRow_succ hown4; obtain ⟨hc4, hf4, hk4, hM4⟩ := hks.out w4 _ hown4 hgrow4 hat4; have hb4 := hk4 wr.heap.size 0 (.int .i64 xp) (Nat.le_refl _) (by simp))
        | (at_builtin; (have hM5 := hM4.keep ((Old.refl _).alloc (.cells #[.int .i64 kk] 3)); have m5 : World.cell? (World.alloc (w4.setCell ⟨w.heap.size + 1, u, none⟩ (.slice (some ⟨g', 0, none⟩) (ks.length + 1) cap')) (.cells #[.int .i64 kk] 3)) ⟨w4.heap.size, 0, none⟩ = some (.int .i64 kk) := (by have := cell_new1 (w4.setCell ⟨w.heap.size + 1, u, none⟩ (.slice (some ⟨g', 0, none⟩) (ks.length + 1) cap')) (.int .i64 kk) 3; simpa [World.setCell] using this); have hsz5 := hM5.size; have hst5 : World.ownsRow _ (w.heap.size + 1 + 1) 3 1 (.slice (some ⟨g, 0, none⟩) (T'.length + 1) cap) (T'.length + 1) ((T'.reverse ++ [u]).map fun (k : Nat) => Value.int .i64 k) := (by have := hM5.stk; simpa using this); refine push3 (.tmp 43) (.tmp 45) _ (w.heap.size + 1 + 1) (.slice (some ⟨g, 0, none⟩) (T'.length + 1) cap) (T'.length + 1) ((T'.reverse ++ [u]).map fun (k : Nat) => Value.int .i64 k) kk _ rfl rfl hst5 hsz5 hTl rfl rfl m5 ?_; intro s6 w6 hown6 hgrow6 hat6)))
      have hM6 := hM5.push (S := (u :: T').reverse) (k := kk) (by simpa using hown6) hgrow6 hat6
      have hI : In37 ps l n w (w.alloc (.cells #[c0, c1, c2, c3, c4, c5, c6, c7, c8] 37)) kk n s6 w6 := by
        refine ⟨_, kk :: u :: T', by simp only [List.length_cons]; omega, by simp only [List.length_cons]; omega, ?_, by simpa using hM6, ?_, ?_, hL5.out _⟩
        · rw [hres.out, List.map_set]
        · intro z hz
          rcases List.mem_cons.1 hz with rfl | hz
          · exact hin.out hxp
          · exact hT.out z hz
        · have h4 : Old (w.alloc (.cells #[c0, c1, c2, c3, c4, c5, c6, c7, c8] 37)) _ := (hOb.out.grown hgrow4 (fun k hk => by have := hvo.out k hk; simp; omega)).setCell (p := ⟨w.heap.size + 1, u, none⟩) (by simp) (.slice (some ⟨g', 0, none⟩) (ks.length + 1) cap')
          exact (h4.alloc _).grown hgrow6 (fun k hk => by have := (hM5.stk.lt k hk).1; simp; omega)
      replace hI : Aside _ := hI
      clear hM6 hst5 hM5 hM4 hks hMb hOb hrow hown4 hgrow4 hat4 hk4 hb4 hc4 hf4 hT hin hL5 hres hvo hcv hcv' hg hg' hG hy hyp hown6 hgrow6 hat6
      rotate_left
      obtain ⟨a6, cap6, hs6⟩ := own_form hM.out.stk
      simp only [List.reverse_nil, List.length_nil] at hs6
      subst hs6
      rcases (show xp < 0 ∨ 0 ≤ xp by omega) with hxp | hxp
      have hxp' : ¬ 0 ≤ xp := by omega
      have hres : runK ps l (l.take (kk + 1)) 0 ([], List.replicate n []) = (settleK ps l (G.map (·.1)) [], G.map (·.1)) := by
        rw [hstep.out]; simp [kidOf, hxp']
      have hI : In37 ps l n w (w.alloc (.cells #[c0, c1, c2, c3, c4, c5, c6, c7, c8] 37)) kk n (.slice a6 0 cap6) _ := ⟨G, [], by simp, by simp, hres, hMn, (fun u hu => by cases hu), hOr2, fun i x hx => by have := hL.out i x hx; omega⟩
      replace hI : Aside _ := hI
      clear hM hMn hOr2 hOn hT hstep hR hin hOr hL hres
      focus go_wp2
      rotate_left
      have hres : runK ps l (l.take (kk + 1)) 0 ([], List.replicate n []) = (settleK ps l (G.map (·.1)) [kk], G.map (·.1)) := by
        rw [hstep.out]; simp [kidOf, hxp]
      replace hres : Aside _ := hres
      have hT5 : ∀ u ∈ [kk], u < n ∧ ∃ x, l[u]? = some x ∧ 0 ≤ x.p := fun u hu => by
        rw [List.mem_singleton.1 hu]; exact hin.out hxp
      replace hT5 : Aside _ := hT5
      have hMb := hMn.keep ((Old.refl _).alloc (.cells #[.int .i64 kk] 3))
      have hOb := hOr2.trans ((Old.refl _).alloc (.cells #[.int .i64 kk] 3))
      have hsz := hMb.size
      replace hMb : Aside _ := hMb
      replace hOb : Aside _ := hOb
      clear hM hMn hOr2 hOn hT hstep hR hin hOr
      focus go_wp2_with (first
        | (at_builtin; refine push3 (.tmp 43) (.tmp 45) _ (w.heap.size + 1 + 1) (.slice a6 0 cap6) 0 [] kk (wr.heap.size + 1) rfl rfl hMb.out.stk hsz (by omega) rfl rfl (by simp) ?_; intro s6 w4 hown4 hgrow4 hat4))
      have hM5 := hMb.out.push hown4 hgrow4 hat4
      have hI : In37 ps l n w (w.alloc (.cells #[c0, c1, c2, c3, c4, c5, c6, c7, c8] 37)) kk n s6 w4 := ⟨G, [kk], by simp; omega, by simp, hres.out, hM5, hT5.out, hOb.out.grown hgrow4 (fun k hk => by have := (hMb.out.stk.lt k hk).1; simp; omega), fun i x hx => by have := hL.out i x hx; omega⟩
      replace hI : Aside _ := hI
      clear hM5 hMb hOb hown4 hgrow4 hat4 hT5 hres hL
      all_goals
        go_loopg [6] n (fun gg s6 wr => Aside (In37 ps l n w (w.alloc (.cells #[c0, c1, c2, c3, c4, c5, c6, c7, c8] 37)) kk gg s6 wr))
        case atStart => exact hI
        case round =>
          obtain ⟨G2, T2, hT2g, hT2k, hR2, hM2, hU2, hO2, hL2⟩ := hrel.out
          clear hI hrel
          rcases T2 with _ | ⟨u, T3⟩
          · obtain ⟨a6, cap6, hs6⟩ := own_form hM2.stk
            simp only [List.reverse_nil, List.length_nil] at hs6
            subst hs6
            have hfin : runK ps l (l.take (kk + 1)) 0 ([], List.replicate n []) = ([], G2.map (·.1)) := hR2
            replace hfin : Aside _ := hfin
            replace hM2 : Aside _ := hM2
            replace hO2 : Aside _ := hO2
            replace hL2 : Aside _ := hL2
            clear hR2 hU2
            go_wp2
            go_roundg (n - (kk + 1))
            case measure => omega
            case rel => exact ⟨kk + 1, G2, [], by omega, by omega, by simp, by go_num, hfin.out, hM2.out, (show Aside (∀ u ∈ ([] : List Nat), u < n ∧ ∃ x, l[u]? = some x ∧ 0 ≤ x.p) from fun u hu => by cases hu), hO2.out, hL2.out⟩
          · have hM2' := hM2
            simp only [List.reverse_cons] at hM2'
            obtain ⟨g, cap, rfl, hcap, hgu⟩ := top_num hM2'
            obtain ⟨hun, y, hyu, hyp⟩ := hU2 u (List.mem_cons_self ..)
            obtain ⟨ks, v, hGu, hcu, ⟨av, cv, rfl⟩, hfz⟩ := kid_cell hM2' hun
            obtain ⟨b5, off5, cap5, ar, cr, hc5, hrc, hpl⟩ := hright.out u y hyu hyp
            subst hc5
            simp only [List.length_reverse] at hM2 hM2' hcap hgu
            have hg5 := hbox.out wr hO2
            have hOw2 := hO.out.trans hO2
            have hrc' := hOw2.cell_some hrc
            have hy0 := hOw2.cell_some (hcell.out u (encN y) (by simp [hyu]) 0 _ rfl)
            simp only [Nat.add_zero] at hy0
            have hun' : (u : Int) < n := by omega
            have hks : ks.length ≤ 2000000 := by have h := hL2 u _ hGu; simp only at h; omega
            have hpop : KM w (w.heap.size + 1) n wr (.slice (some ⟨g, 0, none⟩) T3.length cap) T3.reverse G2 := by
              have := KM.pop (L := T3.reverse) (k := u) (W := wr) (g := g) (cap := cap) (G := G2) (w0 := w) (B := w.heap.size + 1) (n := n) (by simpa using hM2')
              simpa using this
            have hset : settleK ps l (G2.map (·.1)) (u :: T3) = if ks.length < rlen ps l u then u :: T3 else settleK ps l (G2.map (·.1)) T3 := by
              simp only [settleK, List.getElem?_map, hGu, Option.map_some, Option.getD_some]
            rw [hset] at hR2
            clear hset
            have hT3 : T3.length + 1 ≤ kk + 1 := hT2k
            have hT3g : T3.length + 1 ≤ _ := hT2g
            have hlu : u < l.length := by omega
            have hOd : Old wr wr.drew := (Old.refl wr).drew
            have hmix : Tryz.prog.follows Departure.mixedOrders = true := rfl
            by_cases hc : ks.length < rlen ps l u
            · rw [if_pos hc] at hR2
              replace hR2 : Aside _ := hR2
              have hMd : Aside _ := hM2.keep hOd
              have hO2d : Aside _ := hO2.trans hOd
              have hc' : (ks.length : Int) < rlen ps l u := by omega
              replace hU2 : Aside _ := hU2
              replace hL2 : Aside _ := hL2
              generalize rlen ps l u = rn at hrc' hc hc'
              clear hM2 hM2' hpop hO2 hOd hOw2 hrc
              (try clear hT); (try clear hin)
              go_wp2
              go_region
              go_wp2
              go_roundg (n - (kk + 1))
              case measure => omega
              case rel => exact ⟨kk + 1, G2, u :: T3, by omega, by omega, hT2k, by go_num, hR2.out, (by rw [List.length_reverse]; exact hMd), hU2.out, hO2d.out, hL2.out⟩
            · rw [if_neg hc] at hR2
              have hU3 : ∀ z ∈ T3, z < n ∧ ∃ x, l[z]? = some x ∧ 0 ≤ x.p := fun z hz => hU2 z (List.mem_cons_of_mem _ hz)
              have hI3 : ∀ gg, T3.length ≤ gg → In37 ps l n w (w.alloc (.cells #[c0, c1, c2, c3, c4, .slice (some ⟨b5, off5, none⟩) ps.length cap5, c6, c7, c8] 37)) kk gg (.slice (some ⟨g, 0, none⟩) T3.length cap) wr.drew :=
                fun gg hgg => ⟨G2, T3, hgg, by omega, hR2, hpop.keep hOd, hU3, hO2.trans hOd, hL2⟩
              replace hI3 : Aside _ := hI3
              have hc' : (rlen ps l u : Int) ≤ ks.length := by omega
              generalize rlen ps l u = rn at hrc' hc hc'
              clear hM2 hM2' hpop hO2 hOd hOw2 hrc hR2 hU3 hU2 hL2
              (try clear hT); (try clear hin)
              go_wp2
              go_region
              go_wp2
              go_roundg T3.length
              case measure => omega
              case rel => exact hI3.out _ (Nat.le_refl _)
    · have hkn : kk = n := by omega
      subst hkn
      have hfin := hR.out
      rw [List.take_of_length_le (by omega)] at hfin
      have hkids := hM.out.kids
      have hOe := hO.out.trans hOr.out
      replace hkids : Aside _ := hkids
      replace hOe : Aside _ := hOe
      clear hM hR hT hOr hL
      go_wp2
      go_ret
      exact ⟨w.heap.size + 1, rfl, by rw [hfin]; exact hkids.out, hOe.out⟩
end Go.Pri
end

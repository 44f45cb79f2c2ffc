/-
  PriorityOperators: parts of its proof (Pr4).
-/
import Derived.Deep.LoopGhost
import Derived.WalkSmall
import Derived.OwnWalk
import Derived.Shelf.Abstract
import Derived.Laws.OwnMore
import Derived.Test.YtfadmmecedicjaaGreatDoorK07
import Derived.Test.YtfadmmecedicjaaGreatDoorK12
set_option linter.unusedVariables false
set_option linter.unusedSimpArgs false

section
/-
  The ends of a tree's nodes, walked.
-/
namespace Go.Pri
open Go Go.Abs Go.Proofs Go.RowKit Go.Lib

theorem info3 : (Tryz.prog.info? 3).map (fun i => (i.zero, i.size, i.bytes)) = some (some (.int .i64 0), 1, 8) := by kernel_rfl
theorem info166 : (Tryz.prog.info? 166).map (fun i => (i.zero, i.size, i.bytes)) = some (some (.agg #[.int .i64 0, .slice none 0 0]), 2, 32) := by kernel_rfl

abbrev Gst : Type := List (Nat × List Sym × Value)
def cellsG (G : Gst) : List Value := G.flatMap fun x => [.int .i64 x.1, x.2.2]
def stkG (G : Gst) : Stk := (G.map fun x => (x.1, x.2.1)).reverse
/-- The symbols still to come lie where the stack's slices say. -/
def RestsAt (w : World) (G : Gst) : Prop := ∀ x ∈ G, SliceAt 2 w x.2.2 (x.2.1.map encS)
/-- The productions in memory. -/
def ProdsAt (w : World) (v : Value) (ps : List Prod') : Prop := ∃ cs : List (List Value), SliceAt 13 w v cs ∧ cs.length = ps.length ∧
  ∀ (j : Nat) q, ps[j]? = some q → ∃ c rv, cs[j]? = some c ∧ c[1]? = some (.int .i64 q.1) ∧ c[2]? = some rv ∧ SliceAt 2 w rv (q.2.map encS)
def okNd (nt np : Nat) (x : Nd) : Prop := okLeaf nt x.p x.tok x.fr x.to ∨ okInner np x.p x.tok x.fr x.to

theorem own_form {w : World} {base : Nat} {e : TypeId} {size : Nat} {v : Value} {n : Nat} {xs : List Value} (h : w.ownsRow base e size v n xs) : ∃ a c, v = .slice a n c := by
  rcases h.2 with ⟨h1, h2⟩ | ⟨g, cap, cur, h1, _⟩
  · subst h2; exact ⟨_, _, h1⟩
  · exact ⟨_, _, h1⟩
theorem own_some {w : World} {base : Nat} {e : TypeId} {size : Nat} {v : Value} {n : Nat} {xs : List Value} (h : w.ownsRow base e size v n xs) (hn : 0 < n) : ∃ g cap, v = .slice (some ⟨g, 0, none⟩) n cap ∧ base ≤ g ∧ g < w.heap.size := by
  rcases h.2 with ⟨h1, h2⟩ | ⟨g, cap, cur, h1, h2, h3, _⟩
  · omega
  · exact ⟨g, cap, h1, h2, (Array.getElem?_eq_some_iff.1 h3).1⟩

theorem own_old {w w' : World} {base : Nat} {e : TypeId} {size : Nat} {v : Value} {n : Nat} {xs : List Value} (h : w.ownsRow base e size v n xs) (ho : Old w w') : w'.ownsRow base e size v n xs := by
  refine ⟨h.1, ?_⟩
  rcases h.2 with h2 | ⟨g, cap, cur, h1, h2, h3, h4⟩
  · exact .inl h2
  · exact .inr ⟨g, cap, cur, h1, h2, (ho.heap g (Array.getElem?_eq_some_iff.1 h3).1).trans h3, h4⟩

/-- A frame's push: the law of append, at this type. -/
theorem push166 {ops : Array Oper} {rest : List Oper} {o : Oper} {a : Act} {Q : Exit → Act → World → Prop} (W : World) (wr : World) (c1 c2 : Array Value) (t1 t2 : TypeId) (base : Nat) (v : Value) (n : Nat) (xs : List Value) (k : Int) (rv : Value)
    (hrv : rv.oneCell' = true) (hgd : o.guard = none) (ho : o.op = .call { callee := .builtin .append, args := #[.tmp 85, .tmp 89], argTypes := #[162, 162] })
    (hW : Old wr W) (hown : wr.ownsRow base 166 2 v n xs) (hb : base ≤ wr.heap.size) (hn : n ≤ 2000000)
    (hs : a.eval (.tmp 85) = v) (hx : a.eval (.tmp 89) = .slice (some ⟨W.heap.size + 1, 0, none⟩) 1 1) (hc2 : c2 = #[.int .i64 k, rv])
    (h : ∀ v' w', w'.ownsRow base 166 2 v' (n + 1) (xs ++ [.int .i64 k, rv]) → Old wr ((W.alloc (.cells c1 t1)).alloc (.cells c2 t2)) → ((W.alloc (.cells c1 t1)).alloc (.cells c2 t2)).grownBy w' v.ownBlock → wpList Tryz.prog ops Q rest (a.put o.dst v') w') :
    wpList Tryz.prog ops Q (o :: rest) a ((W.alloc (.cells c1 t1)).alloc (.cells c2 t2)) := by
  obtain ⟨i6, hi6, hz6, hs6, hb6⟩ := info_parts info166
  subst hc2
  have hO2 : Old wr ((W.alloc (.cells c1 t1)).alloc (.cells #[.int .i64 k, rv] t2)) := (hW.alloc _).alloc _
  refine wpList_append_own _ hgd (.tmp 85) (.tmp 89) 162 ho base 166 i6 (.agg #[.int .i64 0, .slice none 0 0]) 2 32 Tryz.underlying162 hi6 hz6 hs6 hb6 rfl (by decide) v n xs hs (own_old hown hO2) ⟨W.heap.size + 1, 0, none⟩ 1 1 [.int .i64 k, rv] hx rfl ?_ ?_ ?_ ?_ ?_ ?_
  · intro j u hj
    match j, hj with
    | 0, hj => simp at hj; subst hj; simp [Addr.add]
    | 1, hj => simp at hj; subst hj; simp [Addr.add]
  · intro u hu
    simp at hu
    rcases hu with rfl | rfl
    · rfl
    · exact hrv
  · unfold maxLen; omega
  · omega
  · exact Nat.le_trans hb hO2.size
  · intro v' w' h1 h2 _
    exact h v' w' h1 hO2 h2

theorem after_push {w0 wr W w4 : World} {B n : Nat} {s4 s4' : Value} {G : Gst} {k : Nat} {rg : List Sym} {rv : Value} {ol : List Int} (hS : wr.ownsRow (B + 1) 166 2 s4 G.length (cellsG G))
    (hE : wr.ownsRow B 3 1 (.slice (some ⟨B, 0, none⟩) n n) n (ol.map (Value.int .i64))) (hO : Old w0 wr) (h0 : w0.heap.size ≤ B) (hsz : B + 1 ≤ wr.heap.size) (hold : Old wr W) (hgrow : W.grownBy w4 s4.ownBlock)
    (hown : w4.ownsRow (B + 1) 166 2 s4' (G.length + 1) (cellsG G ++ [.int .i64 k, rv])) :
    w4.ownsRow (B + 1) 166 2 s4' (G ++ [(k, rg, rv)]).length (cellsG (G ++ [(k, rg, rv)])) ∧ w4.ownsRow B 3 1 (.slice (some ⟨B, 0, none⟩) n n) n (ol.map (Value.int .i64)) ∧ Old w0 w4 ∧ B + 1 ≤ w4.heap.size := by
  have hb : ∀ k, s4.ownBlock = some k → B + 1 ≤ k := fun k hk => (hS.lt k hk).1
  refine ⟨by simpa [cellsG] using hown, (own_old hE hold).kept hgrow ?_, (hO.trans hold).grown hgrow (fun k hk => by have := hb k hk; omega), Nat.le_trans hsz (Nat.le_trans hold.size hgrow.size)⟩
  right
  intro e
  have := hb B (by rw [← e]; rfl)
  omega

theorem settle_nil (i : Nat) (ol : List Int) : settle i (stkG []) ol = (stkG [], ol) := rfl
theorem stkG_snoc (L : Gst) (k : Nat) (sy : List Sym) (v : Value) : stkG (L ++ [(k, sy, v)]) = (k, sy) :: stkG L := by simp [stkG]
theorem cellsG_snoc (L : Gst) (k : Nat) (sy : List Sym) (v : Value) : cellsG (L ++ [(k, sy, v)]) = cellsG L ++ [.int .i64 k, v] := by simp [cellsG]
theorem cellsG_len (L : Gst) : (cellsG L).length = L.length * 2 := by
  induction L with
  | nil => rfl
  | cons a L ih => simp [cellsG] at ih ⊢; omega
/-- The stack's top, in memory. -/
theorem top_cells {wr : World} {B : Nat} {s4 : Value} {L : Gst} {k : Nat} {sy : List Sym} {v : Value} (hS : wr.ownsRow B 166 2 s4 (L ++ [(k, sy, v)]).length (cellsG (L ++ [(k, sy, v)]))) :
    ∃ g cap, s4 = .slice (some ⟨g, 0, none⟩) (L.length + 1) cap ∧ B ≤ g ∧ g < wr.heap.size ∧ wr.cell? ⟨g, L.length * 2, none⟩ = some (.int .i64 k) ∧ wr.cell? ⟨g, L.length * 2 + 1, none⟩ = some v ∧
      (∀ j, wr.frozen? ⟨g, j, none⟩ = false) := by
  obtain ⟨g, cap, rfl, h1, h2⟩ := own_some hS (by simp)
  have hl : (L ++ [(k, sy, v)]).length = L.length + 1 := by simp
  have c0 := hS.cellAt (L.length * 2) (by rw [hl]; omega)
  have c1 := hS.cellAt (L.length * 2 + 1) (by rw [hl]; omega)
  rw [cellsG_snoc] at c0 c1
  rw [List.getElem?_append_right (by rw [cellsG_len]; omega), cellsG_len] at c0
  rw [List.getElem?_append_right (by rw [cellsG_len]; omega), cellsG_len] at c1
  refine ⟨g, cap, by rw [hl], h1, h2, by simpa using c0, by simpa using c1, fun j => hS.frozenAt j⟩

theorem after_pop {w0 wr : World} {B n g cap k : Nat} {v : Value} {L : Gst} {sy : List Sym} {olc : List Int} (u : Int)
    (hS : wr.ownsRow (B + 1) 166 2 (.slice (some ⟨g, 0, none⟩) (L.length + 1) cap) (L ++ [(k, sy, v)]).length (cellsG (L ++ [(k, sy, v)])))
    (hE : wr.ownsRow B 3 1 (.slice (some ⟨B, 0, none⟩) n n) n (olc.map (Value.int .i64))) (hO : Old w0 wr) (h0 : w0.heap.size ≤ B) (hsz : B + 1 ≤ wr.heap.size) :
    (wr.setCell ⟨B, k, none⟩ (.int .i64 u)).ownsRow (B + 1) 166 2 (.slice (some ⟨g, 0, none⟩) L.length cap) L.length (cellsG L) ∧
    (wr.setCell ⟨B, k, none⟩ (.int .i64 u)).ownsRow B 3 1 (.slice (some ⟨B, 0, none⟩) n n) n ((olc.set k u).map (Value.int .i64)) ∧ Old w0 (wr.setCell ⟨B, k, none⟩ (.int .i64 u)) ∧ B + 1 ≤ (wr.setCell ⟨B, k, none⟩ (.int .i64 u)).heap.size := by
  obtain ⟨s1, s2⟩ := hE.stored k (.int .i64 u)
  have hg := (hS.lt g rfl).1
  have hS' := hS.kept s2 (.inr (by show some g ≠ some B; intro e; cases e; omega))
  rw [cellsG_snoc, show (L ++ [(k, sy, v)]).length = L.length + 1 by simp] at hS'
  refine ⟨ownsRow_pop (cellsG_len L) hS', ?_, hO.setCell h0 _, by simpa [World.setCell] using hsz⟩
  rw [List.map_set]
  exact s1
theorem out_cell {wr : World} {B n k : Nat} {olc : List Int} (hE : wr.ownsRow B 3 1 (.slice (some ⟨B, 0, none⟩) n n) n (olc.map (Value.int .i64))) (hk : k < n) : ∃ z, wr.cell? ⟨B, k, none⟩ = some (.int .i64 z) := by
  have h1 := hE.cellAt k (by omega)
  have hl := hE.1
  simp only [List.length_map, Nat.mul_one] at hl
  rw [List.getElem?_map, List.getElem?_eq_getElem (by omega)] at h1
  exact ⟨_, h1⟩

theorem nb_of {w w' : World} {a : Addr} {v : Value} (h : Old w w') (hc : w.cell? a = some v) : ¬ a.block = w'.heap.size := by
  have := lt_of_cell hc
  have := h.size
  omega

theorem cell_new (W : World) (c : Array Value) (t : TypeId) (b i : Nat) (hb : W.heap.size = b) : (W.alloc (.cells c t)).drew.cell? ⟨b, i, none⟩ = c[i]? := by
  subst hb; simp

/-- A frame's push, in whatever world. -/
theorem push166c {ops : Array Oper} {rest : List Oper} {o : Oper} {a : Act} {Q : Exit → Act → World → Prop} (W : World) (base : Nat) (v : Value) (n : Nat) (xs : List Value) (k : Int) (rv : Value) (b : Nat)
    (hrv : rv.oneCell' = true) (hgd : o.guard = none) (ho : o.op = .call { callee := .builtin .append, args := #[.tmp 85, .tmp 89], argTypes := #[162, 162] })
    (hown : W.ownsRow base 166 2 v n xs) (hb : base ≤ W.heap.size) (hn : n ≤ 2000000)
    (hs : a.eval (.tmp 85) = v) (hx : a.eval (.tmp 89) = .slice (some ⟨b, 0, none⟩) 1 1) (m0 : W.cell? ⟨b, 0, none⟩ = some (.int .i64 k)) (m1 : W.cell? ⟨b, 1, none⟩ = some rv)
    (h : ∀ v' w', w'.ownsRow base 166 2 v' (n + 1) (xs ++ [.int .i64 k, rv]) → W.grownBy w' v.ownBlock → wpList Tryz.prog ops Q rest (a.put o.dst v') w') : wpList Tryz.prog ops Q (o :: rest) a W := by
  obtain ⟨i6, hi6, hz6, hs6, hb6⟩ := info_parts info166
  refine wpList_append_own _ hgd (.tmp 85) (.tmp 89) 162 ho base 166 i6 (.agg #[.int .i64 0, .slice none 0 0]) 2 32 Tryz.underlying162 hi6 hz6 hs6 hb6 rfl (by decide) v n xs hs hown ⟨b, 0, none⟩ 1 1 [.int .i64 k, rv] hx rfl ?_ ?_ ?_ ?_ hb ?_
  · intro j u hj
    match j, hj with
    | 0, hj => simp at hj; subst hj; simpa [Addr.add] using m0
    | 1, hj => simp at hj; subst hj; simpa [Addr.add] using m1
  · intro u hu
    simp at hu
    rcases hu with rfl | rfl
    · rfl
    · exact hrv
  · unfold maxLen; omega
  · omega
  · intro v' w' h1 h2 _
    exact h v' w' h1 h2

/-- The stack behind the top's step and the push. -/
theorem after_step {w0 wr W3 Wx w4 : World} {B n g capg kk k : Nat} {s4' v v1 rv : Value} {G' : Gst} {rs rg sy : List Sym} {ol : List Int}
    (hS : wr.ownsRow (B + 1) 166 2 (.slice (some ⟨g, 0, none⟩) (G'.length + 1) capg) (G' ++ [(k, sy, v)]).length (cellsG (G' ++ [(k, sy, v)])))
    (hE : wr.ownsRow B 3 1 (.slice (some ⟨B, 0, none⟩) n n) n (ol.map (Value.int .i64))) (hO : Old w0 wr) (h0 : w0.heap.size ≤ B) (hsz : B + 1 ≤ wr.heap.size) (h3 : Old wr W3)
    (hx : Old (W3.setCell ⟨g, G'.length * 2 + 1, none⟩ v1) Wx) (hgrow : Wx.grownBy w4 (some g))
    (hown : w4.ownsRow (B + 1) 166 2 s4' (G'.length + 1 + 1) (cellsG (G' ++ [(k, rs, v1)]) ++ [.int .i64 kk, rv])) :
    w4.ownsRow (B + 1) 166 2 s4' ((G' ++ [(k, rs, v1)]) ++ [(kk, rg, rv)]).length (cellsG ((G' ++ [(k, rs, v1)]) ++ [(kk, rg, rv)])) ∧ w4.ownsRow B 3 1 (.slice (some ⟨B, 0, none⟩) n n) n (ol.map (Value.int .i64)) ∧ Old w0 w4 ∧ B + 1 ≤ w4.heap.size := by
  rw [show (G' ++ [(k, sy, v)]).length = G'.length + 1 by simp] at hS
  have hg := (hS.lt g rfl)
  have hE3 := own_old hE h3
  have hset : W3.grownBy (W3.setCell ⟨g, G'.length * 2 + 1, none⟩ v1) (some g) := ((own_old hS h3).stored (G'.length * 2 + 1) v1).2
  have hne : (Value.slice (some ⟨B, 0, none⟩) n n).ownBlock = none ∨ (Value.slice (some ⟨B, 0, none⟩) n n).ownBlock ≠ some g := .inr (by show some B ≠ some g; intro e; cases e; omega)
  have hO3 : Old w0 W3 := hO.trans h3
  have hO4 : Old w0 (W3.setCell ⟨g, G'.length * 2 + 1, none⟩ v1) := hO3.grown hset (fun k hk => by cases hk; omega)
  refine ⟨?_, (own_old (hE3.kept hset hne) hx).kept hgrow hne, (hO4.trans hx).grown hgrow (fun k hk => by cases hk; omega), ?_⟩
  · rw [cellsG_snoc (G' ++ [(k, rs, v1)])]
    simpa using hown
  · exact Nat.le_trans hsz (Nat.le_trans h3.size (Nat.le_trans hset.size (Nat.le_trans hx.size hgrow.size)))
/-- The stack behind the top's step. -/
theorem own_step {wr W3 Wx : World} {B g capg k : Nat} {v v1 : Value} {G' : Gst} {rs sy : List Sym}
    (hS : wr.ownsRow B 166 2 (.slice (some ⟨g, 0, none⟩) (G'.length + 1) capg) (G' ++ [(k, sy, v)]).length (cellsG (G' ++ [(k, sy, v)]))) (h3 : Old wr W3) (hx : Old (W3.setCell ⟨g, G'.length * 2 + 1, none⟩ v1) Wx) :
    Wx.ownsRow B 166 2 (.slice (some ⟨g, 0, none⟩) (G'.length + 1) capg) (G'.length + 1) (cellsG (G' ++ [(k, rs, v1)])) := by
  rw [show (G' ++ [(k, sy, v)]).length = G'.length + 1 by simp] at hS
  have h1 := ((own_old hS h3).stored (G'.length * 2 + 1) v1).1
  have e : (cellsG (G' ++ [(k, sy, v)])).set (G'.length * 2 + 1) v1 = cellsG (G' ++ [(k, rs, v1)]) := by
    rw [cellsG_snoc, cellsG_snoc, List.set_append_right _ _ (by rw [cellsG_len]; omega), cellsG_len]
    simp
  rw [e] at h1
  exact own_old h1 hx

theorem rests_step {w : World} {G' : Gst} {k kk : Nat} {rs rg : List Sym} {rv : Value} {bv offv capv n : Nat} (h : ∀ x ∈ G', SliceAt 2 w x.2.2 (x.2.1.map encS))
    (ht : n = (rs.map encS).length + 1 ∧ (capv = 1 → SliceAt 2 w (.slice (some ⟨bv, offv, none⟩) (rs.map encS).length 0) (rs.map encS)) ∧ (¬ capv = 1 → SliceAt 2 w (.slice (some ⟨bv, offv + 2, none⟩) (rs.map encS).length (capv - 1)) (rs.map encS)))
    (hr : SliceAt 2 w rv (rg.map encS)) : RestsAt w ((G' ++ [(k, rs, .slice (if capv = 1 then some ⟨bv, offv, none⟩ else some ⟨bv, offv + 2, none⟩) rs.length (capv - 1))]) ++ [(kk, rg, rv)]) := by
  simp only [List.length_map] at ht
  intro x hx
  rcases List.mem_append.1 hx with hx | hx
  · rcases List.mem_append.1 hx with hx | hx
    · exact h x hx
    · rw [List.mem_singleton.1 hx]
      by_cases hc : capv = 1
      · subst hc
        exact ht.2.1 rfl
      · simp only [if_neg hc]
        exact ht.2.2 hc
  · rw [List.mem_singleton.1 hx]; exact hr
theorem nums_step {n : Nat} {G' : Gst} {k kk : Nat} {sy rs rg : List Sym} {v v1 rv : Value} (h : ∀ x ∈ G' ++ [(k, sy, v)], x.1 < n) (hk : kk < n) : ∀ x ∈ ((G' ++ [(k, rs, v1)]) ++ [(kk, rg, rv)] : Gst), x.1 < n := by
  intro x hx
  rcases List.mem_append.1 hx with hx | hx
  · rcases List.mem_append.1 hx with hx | hx
    · exact h x (List.mem_append_left _ hx)
    · rw [List.mem_singleton.1 hx]
      exact h (k, sy, v) (by simp)
  · rw [List.mem_singleton.1 hx]; exact hk

theorem own_cap {w : World} {base : Nat} {e : TypeId} {size m cap g : Nat} {n : Nat} {xs : List Value} (h : w.ownsRow base e size (.slice (some ⟨g, 0, none⟩) m cap) n xs) : m ≤ cap := by
  rcases h.2 with ⟨h1, _⟩ | ⟨g', cap', cur, h1, _, _, h3, _⟩
  · cases h1
  · cases h1; exact h3

theorem made_zero (n : Nat) : (madeCells (Value.int .i64 0).cells (n * 1)).toList = (List.replicate n (0 : Int)).map (Value.int .i64) := by
  apply List.ext_getElem
  · simp [madeCells]
  · intro i h1 h2
    simp [madeCells, Value.cells, Nat.mod_one]

set_option maxRecDepth 100000 in
set_option maxHeartbeats 4000000 in
theorem ends48 (c0 c1 c2 c3 c4 c5 c6 c7 c8 tv : Value) (Bt Bg : Nat) (a1 : Option Addr) (nt cap1 : Nat) (h3 : c3 = .slice a1 nt cap1)
    (ps : List Prod') (l : List Nd) (out : List Int) (w : World)
    (hg3 : w.cell? ⟨Bg, 3, none⟩ = some c3) (hg5 : w.cell? ⟨Bg, 5, none⟩ = some c5) (ht : w.cell? ⟨Bt, 0, none⟩ = some tv)
    (hs : SliceAt 4 w tv (l.map encN)) (hp : ProdsAt w c5 ps) (hok : ∀ x ∈ l, okNd nt ps.length x) (hl0 : 0 < l.length) (hl : l.length ≤ 2000000)
    (hrun : runE ps l 0 ([], List.replicate l.length 0) = some ([], out)) :
    Calls Tryz.prog 48 #[.agg #[c0, c1, c2, c3, c4, c5, c6, c7, c8, .int .i64 l.length, .func (.func 47) #[] #[.pointer (some ⟨Bt, 0, none⟩), .pointer (some ⟨Bg, 0, none⟩)]]] w fun e w' =>
      ∃ b, e = .returned (.slice (some ⟨b, 0, none⟩) l.length l.length) ∧ RowK 1 w' b 0 (out.map fun n => [.int .i64 n]) ∧ out.length = l.length ∧ Old w w' := by
  subst h3
  generalize hn : l.length = n at *
  obtain ⟨i3, hi3, hz3, hs3, hb3⟩ := info_parts info3
  obtain ⟨i6, hi6, hz6, hs6, hb6⟩ := info_parts info166
  have n0 : ¬ (n : Int) = 0 := by omega
  have n1 : ¬ 2000000 < (n : Int) := by omega
  have b2 : i3.bytes * n ≤ 281474976710656 := by rw [hb3]; omega
  have b3 : n ≤ maxLen := by unfold maxLen; omega
  have b4 : w.heap.size + 1 ≤ (w.alloc (.cells #[c0, c1, c2, .slice a1 nt cap1, c4, c5, c6, c7, c8, .int .i64 n, .func (.func 47) #[] #[.pointer (some ⟨Bt, 0, none⟩), .pointer (some ⟨Bg, 0, none⟩)]] 123)).heap.size := by simp
  have hbox : Aside (∀ wr, Old (w.alloc (.cells #[c0, c1, c2, .slice a1 nt cap1, c4, c5, c6, c7, c8, .int .i64 n, .func (.func 47) #[] #[.pointer (some ⟨Bt, 0, none⟩), .pointer (some ⟨Bg, 0, none⟩)]] 123)) wr →
      wr.cell? ⟨w.heap.size, 0, none⟩ = some c0 ∧ wr.cell? ⟨w.heap.size, 1, none⟩ = some c1 ∧ wr.cell? ⟨w.heap.size, 2, none⟩ = some c2 ∧ wr.cell? ⟨w.heap.size, 3, none⟩ = some (.slice a1 nt cap1) ∧ wr.cell? ⟨w.heap.size, 4, none⟩ = some c4 ∧
      wr.cell? ⟨w.heap.size, 5, none⟩ = some c5 ∧ wr.cell? ⟨w.heap.size, 6, none⟩ = some c6 ∧ wr.cell? ⟨w.heap.size, 7, none⟩ = some c7 ∧ wr.cell? ⟨w.heap.size, 8, none⟩ = some c8 ∧ wr.cell? ⟨w.heap.size, 9, none⟩ = some (.int .i64 n) ∧
      wr.cell? ⟨w.heap.size, 10, none⟩ = some (.func (.func 47) #[] #[.pointer (some ⟨Bt, 0, none⟩), .pointer (some ⟨Bg, 0, none⟩)])) := fun wr h => by
    refine ⟨?_, ?_, ?_, ?_, ?_, ?_, ?_, ?_, ?_, ?_, ?_⟩ <;> exact h.cell_some (by simp)
  go_enter Tryz.func48, Tryz.ntmps48
  go_wp2_with (first
    | (at_make; refine wpList_make_full _ rfl (.tmp 21) (.tmp 21) 39 rfl (w.heap.size + 1) 3 i3 (.int .i64 0) 1 Tryz.underlying39 hi3 hz3 hs3 .i64 .i64 n n n rfl rfl rfl rfl b2 b3 b4 ?_; intro w1 hown1 hgrow1; have hO := (Old.refl _).grown hgrow1 (fun k hk => by cases hk); obtain ⟨_, _, _, _, _, _, _, _, _, e9, _⟩ := hbox.out w1 hO))
  have hOw : Old w w1 := ((Old.refl w).alloc _).trans hO
  clear hgrow1
  have hz := made_zero n
  rw [hz] at hown1
  have hown1 : w1.ownsRow (w.heap.size + 1) 3 1 (.slice (some ⟨w.heap.size + 1, 0, none⟩) n n) n ((List.replicate n (0 : Int)).map (Value.int .i64)) := by simpa using hown1
  have hsz1 : w.heap.size + 2 ≤ w1.heap.size := (own_some hown1 hl0).elim fun g h => h.elim fun cap h => by
    have := h.1
    cases this
    have := h.2.2
    omega
  go_loopg [4, 25] n (fun gg s4 s25 wr => ∃ (kk : Nat) (G : Gst) (ol : List Int), kk ≤ n ∧ n - kk ≤ gg ∧ G.length ≤ kk ∧ s25 = .int .i64 kk ∧ Aside (runE ps (l.take kk) 0 ([], List.replicate n 0) = some (stkG G, ol)) ∧
    Aside (wr.ownsRow (w.heap.size + 2) 166 2 s4 G.length (cellsG G)) ∧ Aside (wr.ownsRow (w.heap.size + 1) 3 1 (.slice (some ⟨w.heap.size + 1, 0, none⟩) n n) n (ol.map (Value.int .i64))) ∧ Aside (RestsAt w G) ∧ Aside (∀ x ∈ G, x.1 < n) ∧
    Aside (Old (w.alloc (.cells #[c0, c1, c2, .slice a1 nt cap1, c4, c5, c6, c7, c8, .int .i64 n, .func (.func 47) #[] #[.pointer (some ⟨Bt, 0, none⟩), .pointer (some ⟨Bg, 0, none⟩)]] 123)) wr) ∧ Aside (w.heap.size + 2 ≤ wr.heap.size))
  case atStart => exact ⟨0, [], List.replicate n 0, Nat.zero_le _, by omega, Nat.le_refl _, rfl, rfl, World.ownsRow_nil _ _ _ _, hown1, (show Aside (RestsAt w []) from fun x hx => by cases hx), (show Aside _ from fun x hx => by cases hx), hO, hsz1⟩
  case round =>
    obtain ⟨kk, G, ol, hkk, hg, hGk, rfl, hR, hS, hE, hA, hB, hOr, hsz⟩ := hrel
    clear hO hown1 hsz1 hOw e9
    have hOw : Old w wr := ((Old.refl w).alloc _).trans hOr.out
    by_cases hlt : kk < n
    · obtain ⟨x, hx⟩ : ∃ x, l[kk]? = some x := ⟨_, List.getElem?_eq_getElem (by omega)⟩
      have hxl : x ∈ l := List.mem_of_getElem? hx
      have hcells : (l.map encN)[kk]? = some [.int .i64 x.p, .int .i64 x.tok, .int .i64 x.fr, .int .i64 x.to] := by simp [hx, encN]
      obtain ⟨cs, hcs, hcl, hcp⟩ := hp
      obtain ⟨a5, cap5, h5⟩ := hcs.form
      have hnode := node47 c0 c1 c2 (.slice a1 nt cap1) c4 c5 c6 c7 c8 tv Bt Bg a1 a5 nt cs.length cap1 cap5 rfl h5 (l.map encN) kk x.p x.tok x.fr x.to wr (hOw.cell_some hg3) (hOw.cell_some hg5) (hOw.cell_some ht) (hs.old hOw) hcells (by rw [hcl]; exact hok x hxl)
      have hleft : 0 ≤ x.p → ∃ c, cs[x.p.toNat]? = some c ∧ c[1]? = some (.int .i64 (symOf ps x).2) := fun h0 => by
        rcases hok x hxl with ⟨q, _⟩ | ⟨q1, q2, _⟩
        · omega
        · obtain ⟨q, hq⟩ : ∃ q, ps[x.p.toNat]? = some q := ⟨_, List.getElem?_eq_getElem (by omega)⟩
          obtain ⟨c, rv, r1, r2, _⟩ := hcp _ _ hq
          refine ⟨c, r1, ?_⟩
          rw [symOf, if_neg (by omega), hq]
          exact r2
      have hsym : Aside (∀ W, Old w W → Calls Tryz.prog 77 #[.agg #[c0, c1, c2, .slice a1 nt cap1, c4, c5, c6, c7, c8], .int .i64 x.p, .int .i64 x.tok] W fun e w' =>
          e = .returned (.agg #[.bool (symOf ps x).1, .int .i64 (symOf ps x).2]) ∧ Keeps W w') := fun W hW =>
        (sym77 c0 c1 c2 (.slice a1 nt cap1) c4 c5 c6 c7 c8 cs x.p x.tok W (hcs.old hW) (symOf ps x).2 hleft).mono fun e w' ⟨h1, h2⟩ => ⟨by
          rw [h1]
          by_cases hneg : x.p < 0
          · rw [if_pos hneg, symOf, if_pos hneg]
          · rw [if_neg hneg, symOf, if_neg hneg], h2⟩
      have hsy : Aside (symOf ps x = symOf ps x) := rfl
      obtain ⟨rv, hrv, hrn, hrp⟩ : ∃ rv, SliceAt 2 w rv ((rightsOf ps x).map encS) ∧ (x.p < 0 → rv = .slice none 0 0) ∧ (0 ≤ x.p → ∃ b off cap, c5 = .slice (some ⟨b, off, none⟩) ps.length cap ∧ w.cell? ⟨b, off + x.p.toNat * 13 + 2, none⟩ = some rv) := by
        rcases hok x hxl with ⟨q, _⟩ | ⟨q1, q2, _⟩
        · exact ⟨.slice none 0 0, .inl ⟨by rw [rightsOf, if_pos (by omega)]; rfl, none, 0, rfl⟩, fun _ => rfl, fun h => by omega⟩
        · obtain ⟨q, hq⟩ : ∃ q, ps[x.p.toNat]? = some q := ⟨_, List.getElem?_eq_getElem (by omega)⟩
          obtain ⟨c, rv, r1, _, r2, r3⟩ := hcp _ _ hq
          refine ⟨rv, by rw [rightsOf, if_neg (by omega), hq]; exact r3, fun h => by omega, fun _ => ?_⟩
          obtain ⟨b, off, cap, e1, e2⟩ := hcs.at r1
          exact ⟨b, off, cap, by rw [e1, hcl], e2 2 _ r2⟩
      have hrv : Aside (SliceAt 2 w rv ((rightsOf ps x).map encS)) := hrv
      have hplt : 0 ≤ x.p → x.p < ps.length := fun h => by
        rcases hok x hxl with ⟨q, _⟩ | ⟨q1, q2, _⟩
        · omega
        · exact q2
      have hx : Aside (l[kk]? = some x) := hx
      have hxn : x.p < 0 → x.p = -1 := fun h => by
        rcases hok x hxl with ⟨q, _⟩ | ⟨q1, q2, _⟩
        · exact q
        · omega
      have hok : Aside (∀ x ∈ l, okNd nt ps.length x) := hok
      have hrun : Aside (runE ps l 0 ([], List.replicate n 0) = some ([], out)) := hrun
      obtain ⟨aS, caps, hs4⟩ := own_form hS.out
      obtain ⟨_, _, _, _, _, _, _, _, _, b9, b10⟩ := hbox.out wr hOr.out
      have hstep : ∃ y, stepE ps kk x (stkG G, ol) = some y ∧ runE ps (l.take (kk + 1)) 0 ([], List.replicate n 0) = some y := by
        obtain ⟨s1, h1⟩ := runE_prefix (kk + 1) hrun.out
        have h2 := runE_step hR.out hx.out
        rw [Nat.zero_add, h1] at h2
        exact ⟨s1, h2.symm, h1⟩
      clear hcp hleft hcells hs hcl hxl hcs h5 hg3 hg5 ht
      obtain ⟨y, hy1, hy2⟩ := hstep
      have hy2 : Aside (runE ps (l.take (kk + 1)) 0 ([], List.replicate n 0) = some y) := hy2
      rcases List.eq_nil_or_concat G with hG | ⟨G', ⟨k, syms, v⟩, hG⟩
      · subst hG
        have hkz : kk = 0 := by
          by_cases h : kk = 0
          · exact h
          · simp [stepE, stkG, ahead, h] at hy1
        have hyS : Aside (settle kk [(kk, rightsOf ps x)] ol = y) := by
          simp only [stepE, stkG, ahead, List.map_nil, List.reverse_nil, if_pos hkz] at hy1
          exact Option.some.inj hy1
        clear hy1
        simp only [List.length_nil] at hs4
        subst hs4
        generalize hgx : rightsOf ps x = rg at *
        generalize symOf ps x = sy at *
        obtain ⟨sb, si⟩ := sy
        obtain ⟨p, tok, fr, to⟩ := x
        simp only at hnode hsym hrn hrp hplt hxn
        subst hkz
        have hnode : Calls Tryz.prog (47 : Nat) #[.int .i64 0, .pointer (some ⟨Bt, 0, none⟩), .pointer (some ⟨Bg, 0, none⟩)] wr fun e w' => e = .returned (.tuple #[.int .i64 p, .int .i64 tok, .bool true]) ∧ Keeps wr w' := hnode
        rcases (show p < 0 ∨ 0 ≤ p by omega) with hneg | hpos
        · obtain rfl := hrn hneg
          obtain rfl := hxn hneg
          clear hrp hplt hxn hrn hneg
          go_wp2_with (first
            | (go_at_call 47; refine hnode.mono ?_; rintro e w2 ⟨rfl, hk2⟩; obtain ⟨d0, d1, d2, d3, d4, d5, d6, d7, d8, d9, d10⟩ := hbox.out w2 (hOr.out.trans hk2.old))
            | (go_at_call 77; refine (hsym.out _ (hOw.trans hk2.old)).mono ?_; rintro e w3 ⟨rfl, hk3⟩; obtain ⟨f0, f1, f2, f3, f4, f5, f6, f7, f8, f9, f10⟩ := hbox.out w3 ((hOr.out.trans hk2.old).trans hk3.old))
            | (at_builtin; refine push166 w3 wr _ _ _ _ (w.heap.size + 2) (.slice aS 0 caps) 0 [] 0 (.slice none 0 0) rfl rfl rfl (hk2.old.trans hk3.old) hS.out hsz.out (by omega) rfl rfl rfl ?_; intro s4' w4 hown4 hold4 hgrow4))
          have hp := after_push (rg := rg) hS.out hE.out hOr.out (by simp) hsz.out hold4 hgrow4 hown4
          have hrs : RestsAt w ([] ++ [(0, rg, Value.slice none 0 0)]) := fun x hx => by
            simp at hx; subst hx; exact hrv.out
          clear hS hE hOr hsz hold4 hgrow4 hown4 hnode hsym hbox b9 b10 d0 d1 d2 d3 d4 d5 d6 d7 d8 d9 d10 f0 f1 f2 f3 f4 f5 f6 f7 f8 f9 f10 hk2 hk3 hOw
          go_loopg [4] 1 (fun gg s4 wr => ∃ (Gc : Gst) (olc : List Int), Gc.length ≤ gg ∧ Gc.length ≤ 0 + 1 ∧ Aside (settle 0 (stkG Gc) olc = y) ∧ Aside (wr.ownsRow (w.heap.size + 1 + 1) 166 2 s4 Gc.length (cellsG Gc)) ∧
            Aside (wr.ownsRow (w.heap.size + 1) 3 1 (.slice (some ⟨w.heap.size + 1, 0, none⟩) n n) n (olc.map (Value.int .i64))) ∧ Aside (RestsAt w Gc) ∧ Aside (∀ x ∈ Gc, x.1 < n) ∧
            Aside (Old (w.alloc (.cells #[c0, c1, c2, .slice a1 nt cap1, c4, c5, c6, c7, c8, .int .i64 n, .func (.func 47) #[] #[.pointer (some ⟨Bt, 0, none⟩), .pointer (some ⟨Bg, 0, none⟩)]] 123)) wr) ∧ Aside (w.heap.size + 1 + 1 ≤ wr.heap.size))
          case atStart =>
            exact ⟨_, ol, by simp, by simp, (show settle 0 (stkG ([] ++ [(0, rg, Value.slice none 0 0)])) ol = y from by simpa [stkG] using hyS.out), hp.1, hp.2.1, hrs, (show Aside _ from fun x hx => by simp at hx; subst hx; exact hlt), hp.2.2.1, hp.2.2.2⟩
          case round =>
            clear hp hrs
            obtain ⟨Gc, olc, hgl, hgn, iY, iS, iE, iA, iB, iO, iZ⟩ := hrel
            rcases List.eq_nil_or_concat Gc with hG | ⟨L, ⟨k, syms, v⟩, hG⟩
            · subst hG
              obtain ⟨aC, capC, hsC⟩ := own_form iS.out
              simp only [List.length_nil] at hsC
              subst hsC
              go_wp2
              go_roundg (n - (0 + 1))
              case measure => omega
              case rel => exact ⟨0 + 1, [], olc, by omega, by omega, by simp, by go_num, (show Aside _ from by rw [hy2.out, ← iY.out]; rfl), iS, iE, iA, iB, iO, iZ⟩
            · rw [List.concat_eq_append] at hG
              subst hG
              obtain ⟨g, capg, hs, hgB, hgS, q0, q1, qf⟩ := top_cells iS.out
              subst hs
              have hcapg := own_cap iS.out
              have hvA := iA.out (k, syms, v) (by simp)
              obtain ⟨av, capv, hv⟩ := hvA.form
              simp only [List.length_map] at hv
              have hkn : k < n := iB.out (k, syms, v) (by simp)
              subst hv
              have hgl2 : L.length + 1 ≤ gk := by simpa using hgl
              have hLn : L.length + 1 ≤ 0 + 1 := by simpa using hgn
              clear hgl hgn hvA
              cases syms with
              | nil =>
                obtain ⟨z, hz⟩ := out_cell iE.out hkn
                have hfz := iE.out.frozenAt k
                have hpop := after_pop (1 : Int) iS.out iE.out iO.out (by simp) iZ.out
                have hY : settle 0 (stkG L) (olc.set k ((0 : Nat) + 1)) = y := by
                  have := iY.out
                  rw [stkG_snoc] at this
                  exact this
                have hpop : Aside _ := hpop
                have hY : Aside _ := hY
                have iA2 : Aside (RestsAt w L) := fun x hx => iA.out x (List.mem_append_left _ hx)
                have iB2 : Aside (∀ x ∈ L, x.1 < n) := fun x hx => iB.out x (List.mem_append_left _ hx)
                clear iS iE iO iZ iA iB iY qf
                simp only [List.length_nil] at q1
                go_wp2
                go_roundg L.length
                case measure => omega
                case rel => exact ⟨L, olc.set k 1, Nat.le_refl _, by omega, hY.out, hpop.out.1, hpop.out.2.1, iA2, iB2, hpop.out.2.2.1, hpop.out.2.2.2⟩
              | cons r rs =>
                have hY : stkG (L ++ [(k, r :: rs, Value.slice av (r :: rs).length capv)]) = y.1 ∧ olc = y.2 := by
                  have := iY.out
                  rw [stkG_snoc] at this
                  rw [stkG_snoc, ← this]
                  exact ⟨rfl, rfl⟩
                have hY : Aside _ := hY
                have hrl : ¬ ((r :: rs).length : Int) = 0 := by simp only [List.length_cons]; omega
                have hlen : (L ++ [(k, r :: rs, Value.slice av (r :: rs).length capv)]).length ≤ 0 + 1 := by simpa using hLn
                have hlen : Aside _ := hlen
                generalize hrr : (r :: rs).length = rl at *
                clear qf iY hz
                go_wp2
                go_roundg (n - (0 + 1))
                case measure => omega
                case rel => exact ⟨0 + 1, L ++ [(k, r :: rs, Value.slice av rl capv)], olc, by omega, by omega, hlen.out, by go_num, (show Aside _ from by rw [hy2.out, hY.out.1, hY.out.2]; exact rfl), iS, iE, iA, iB, iO, iZ⟩
        · have hpl := hplt hpos
          obtain ⟨b5, off5, cap5, h5c, hcell⟩ := hrp hpos
          obtain ⟨ar, cr, hrv0⟩ := hrv.out.form
          simp only [List.length_map] at hrv0
          subst hrv0
          subst h5c
          clear hrp hplt hxn hrn
          generalize hrnl : rg.length = rn at *
          clear hrnl
          go_wp2_with (first
            | (go_at_call 47; refine hnode.mono ?_; rintro e w2 ⟨rfl, hk2⟩; obtain ⟨d0, d1, d2, d3, d4, d5, d6, d7, d8, d9, d10⟩ := hbox.out w2 (hOr.out.trans hk2.old))
            | (go_at_call 77; refine (hsym.out _ (hOw.trans hk2.old)).mono ?_; rintro e w3 ⟨rfl, hk3⟩; obtain ⟨f0, f1, f2, f3, f4, f5, f6, f7, f8, f9, f10⟩ := hbox.out w3 ((hOr.out.trans hk2.old).trans hk3.old); have r3 := (hOw.trans (hk2.old.trans hk3.old)).cell_some hcell; have nb := nb_of (hOw.trans (hk2.old.trans hk3.old)) hcell; have nb0 := nb_of (Old.refl _) f5; have g5 := ((Old.refl w3).alloc (.cells #[.bool sb, .int .i64 si] 66)).cell_some f5; have g3 := ((Old.refl w3).alloc (.cells #[.bool sb, .int .i64 si] 66)).cell_some r3)
            | (at_builtin; refine push166 w3 wr _ _ _ _ (w.heap.size + 2) (.slice aS 0 caps) 0 [] 0 (.slice ar rn cr) rfl rfl rfl (hk2.old.trans hk3.old) hS.out hsz.out (by omega) rfl rfl rfl ?_; intro s4' w4 hown4 hold4 hgrow4))
          have hp := after_push (rg := rg) hS.out hE.out hOr.out (by simp) hsz.out hold4 hgrow4 hown4
          have hrs : RestsAt w ([] ++ [(0, rg, Value.slice ar rn cr)]) := fun x hx => by
            simp at hx; subst hx; exact hrv.out
          clear hS hE hOr hsz hold4 hgrow4 hown4 hnode hsym hbox b9 b10 hcell r3 nb nb0 g5 g3 hpl hpos d0 d1 d2 d3 d4 d5 d6 d7 d8 d9 d10 f0 f1 f2 f3 f4 f5 f6 f7 f8 f9 f10 hk2 hk3 hOw
          go_loopg [4] 1 (fun gg s4 wr => ∃ (Gc : Gst) (olc : List Int), Gc.length ≤ gg ∧ Gc.length ≤ 0 + 1 ∧ Aside (settle 0 (stkG Gc) olc = y) ∧ Aside (wr.ownsRow (w.heap.size + 1 + 1) 166 2 s4 Gc.length (cellsG Gc)) ∧
            Aside (wr.ownsRow (w.heap.size + 1) 3 1 (.slice (some ⟨w.heap.size + 1, 0, none⟩) n n) n (olc.map (Value.int .i64))) ∧ Aside (RestsAt w Gc) ∧ Aside (∀ x ∈ Gc, x.1 < n) ∧
            Aside (Old (w.alloc (.cells #[c0, c1, c2, .slice a1 nt cap1, c4, .slice (some ⟨b5, off5, none⟩) ps.length cap5, c6, c7, c8, .int .i64 n, .func (.func 47) #[] #[.pointer (some ⟨Bt, 0, none⟩), .pointer (some ⟨Bg, 0, none⟩)]] 123)) wr) ∧ Aside (w.heap.size + 1 + 1 ≤ wr.heap.size))
          case atStart =>
            exact ⟨_, ol, by simp, by simp, (show settle 0 (stkG ([] ++ [(0, rg, Value.slice ar rn cr)])) ol = y from by simpa [stkG] using hyS.out), hp.1, hp.2.1, hrs, (show Aside _ from fun x hx => by simp at hx; subst hx; exact hlt), hp.2.2.1, hp.2.2.2⟩
          case round =>
            clear hp hrs
            obtain ⟨Gc, olc, hgl, hgn, iY, iS, iE, iA, iB, iO, iZ⟩ := hrel
            rcases List.eq_nil_or_concat Gc with hG | ⟨L, ⟨k, syms, v⟩, hG⟩
            · subst hG
              obtain ⟨aC, capC, hsC⟩ := own_form iS.out
              simp only [List.length_nil] at hsC
              subst hsC
              go_wp2
              go_roundg (n - (0 + 1))
              case measure => omega
              case rel => exact ⟨0 + 1, [], olc, by omega, by omega, by simp, by go_num, (show Aside _ from by rw [hy2.out, ← iY.out]; rfl), iS, iE, iA, iB, iO, iZ⟩
            · rw [List.concat_eq_append] at hG
              subst hG
              obtain ⟨g, capg, hs, hgB, hgS, q0, q1, qf⟩ := top_cells iS.out
              subst hs
              have hcapg := own_cap iS.out
              have hvA := iA.out (k, syms, v) (by simp)
              obtain ⟨av, capv, hv⟩ := hvA.form
              simp only [List.length_map] at hv
              have hkn : k < n := iB.out (k, syms, v) (by simp)
              subst hv
              have hgl2 : L.length + 1 ≤ gk := by simpa using hgl
              have hLn : L.length + 1 ≤ 0 + 1 := by simpa using hgn
              clear hgl hgn hvA
              cases syms with
              | nil =>
                obtain ⟨z, hz⟩ := out_cell iE.out hkn
                have hfz := iE.out.frozenAt k
                have hpop := after_pop (1 : Int) iS.out iE.out iO.out (by simp) iZ.out
                have hY : settle 0 (stkG L) (olc.set k ((0 : Nat) + 1)) = y := by
                  have := iY.out
                  rw [stkG_snoc] at this
                  exact this
                have hpop : Aside _ := hpop
                have hY : Aside _ := hY
                have iA2 : Aside (RestsAt w L) := fun x hx => iA.out x (List.mem_append_left _ hx)
                have iB2 : Aside (∀ x ∈ L, x.1 < n) := fun x hx => iB.out x (List.mem_append_left _ hx)
                clear iS iE iO iZ iA iB iY qf
                simp only [List.length_nil] at q1
                go_wp2
                go_roundg L.length
                case measure => omega
                case rel => exact ⟨L, olc.set k 1, Nat.le_refl _, by omega, hY.out, hpop.out.1, hpop.out.2.1, iA2, iB2, hpop.out.2.2.1, hpop.out.2.2.2⟩
              | cons r rs =>
                have hY : stkG (L ++ [(k, r :: rs, Value.slice av (r :: rs).length capv)]) = y.1 ∧ olc = y.2 := by
                  have := iY.out
                  rw [stkG_snoc] at this
                  rw [stkG_snoc, ← this]
                  exact ⟨rfl, rfl⟩
                have hY : Aside _ := hY
                have hrl : ¬ ((r :: rs).length : Int) = 0 := by simp only [List.length_cons]; omega
                have hlen : (L ++ [(k, r :: rs, Value.slice av (r :: rs).length capv)]).length ≤ 0 + 1 := by simpa using hLn
                have hlen : Aside _ := hlen
                generalize hrr : (r :: rs).length = rl at *
                clear qf iY hz
                go_wp2
                go_roundg (n - (0 + 1))
                case measure => omega
                case rel => exact ⟨0 + 1, L ++ [(k, r :: rs, Value.slice av rl capv)], olc, by omega, by omega, hlen.out, by go_num, (show Aside _ from by rw [hy2.out, hY.out.1, hY.out.2]; exact rfl), iS, iE, iA, iB, iO, iZ⟩
      · rw [List.concat_eq_append] at hG
        subst hG
        rw [stkG_snoc] at hy1
        have hkp : 0 < kk := by
          rcases Nat.eq_zero_or_pos kk with h | h
          · subst h
            have := hR.out
            simp [runE, stkG] at this
          · exact h
        obtain ⟨r, rs, rfl, hsr⟩ : ∃ r rs, syms = r :: rs ∧ symOf ps x = r := by
          cases syms with
          | nil => simp [stepE, ahead] at hy1
          | cons r rs =>
            by_cases h : symOf ps x = r
            · exact ⟨r, rs, rfl, h⟩
            · simp [stepE, ahead, h] at hy1
        have hyS : Aside (settle kk ((kk, rightsOf ps x) :: (k, rs) :: stkG G') ol = y) := by
          simp only [stepE, ahead, if_pos hsr] at hy1
          exact Option.some.inj hy1
        clear hy1
        obtain ⟨g, capg, hs, hgB, hgS, q0, q1, qf⟩ := top_cells hS.out
        have hvA := hA.out (k, r :: rs, v) (by simp)
        obtain ⟨bv, offv, capv, hv, hcv⟩ := hvA.at (j := 0) (c := encS r) rfl
        have htl : Aside _ := SliceAt.tail (by decide) (hv ▸ hvA)
        simp only [List.length_map, List.length_cons] at hv
        have e0 := hcv 0 (.bool r.1) rfl
        have e1 := hcv 1 (.int .i64 r.2) rfl
        have hkn : k < n := hB.out (k, r :: rs, v) (by simp)
        have hleG : G'.length + 1 ≤ kk := by simpa using hGk
        have o0 := hOw.cell_some e0
        have o1 := hOw.cell_some e1
        obtain ⟨r1, r2⟩ := r
        generalize hgx : rightsOf ps x = rg at *
        rw [hsr] at hsym
        obtain ⟨p, tok, fr, to⟩ := x
        simp only at hnode hsym hrn hrp hplt hxn
        rw [hs] at hs4
        simp only [Nat.zero_mul, Nat.add_zero] at e0 e1 o0 o1
        subst hv
        subst hs
        clear hs4 hvA hcv e0 e1
        rcases (show p < 0 ∨ 0 ≤ p by omega) with hneg | hpos
        · obtain rfl := hrn hneg
          obtain rfl := hxn hneg
          clear hrp hplt hxn hrn hneg
          go_wp2_with (first
            | (go_at_call 47; refine hnode.mono ?_; rintro e w2 ⟨rfl, hk2⟩; obtain ⟨d0, d1, d2, d3, d4, d5, d6, d7, d8, d9, d10⟩ := hbox.out w2 (hOr.out.trans hk2.old))
            | (go_at_call 77; refine (hsym.out _ (hOw.trans hk2.old)).mono ?_; rintro e w3 ⟨rfl, hk3⟩; obtain ⟨f0, f1, f2, f3, f4, f5, f6, f7, f8, f9, f10⟩ := hbox.out w3 ((hOr.out.trans hk2.old).trans hk3.old)))
          have hO3 : Old wr (w3.alloc (.cells #[.bool r1, .int .i64 r2] 66)) := (hk2.old.trans hk3.old).alloc _
          have q1' := hO3.cell_some q1
          have o0' := hO3.cell_some o0
          have o1' := hO3.cell_some o1
          have qf' : (w3.alloc (.cells #[.bool r1, .int .i64 r2] 66)).frozen? ⟨g, G'.length * 2 + 1, none⟩ = false := (hO3.frozen (p := ⟨g, G'.length * 2 + 1, none⟩) hgS).trans (qf _)
          have hsz3 : w.heap.size + 1 + 1 ≤ w3.heap.size := Nat.le_trans hsz.out (Nat.le_trans hk2.size hk3.size)
          have ngw : ¬ g = w3.heap.size + 1 := by have := Nat.le_trans hk2.size hk3.size; omega
          go_region
          all_goals go_wp2_with (at_builtin; refine push166c _ (w.heap.size + 1 + 1) (.slice (some ⟨g, 0, none⟩) (G'.length + 1) capg) (G'.length + 1) _ kk (.slice none 0 0) (w3.heap.size + 1) rfl rfl rfl (own_step (rs := rs) hS.out hO3 (((Old.refl _).alloc _).drew)) (by simp [World.setCell]; omega) (by omega) rfl rfl (cell_new _ _ _ _ 0 (by simp [World.setCell])) (cell_new _ _ _ _ 1 (by simp [World.setCell])) ?_; intro s4' w4 hown4 hgrow4)
          all_goals have hp := after_step (rg := rg) hS.out hE.out hOr.out (by simp) hsz.out hO3 (((Old.refl _).alloc _).drew) hgrow4 hown4
          all_goals have hrs := rests_step (k := k) (kk := kk) (fun x hx => hA.out x (List.mem_append_left _ hx)) htl.out hrv.out
          all_goals have hbs := nums_step (rs := rs) (rg := rg) (v1 := .slice (if capv = 1 then some ⟨bv, offv, none⟩ else some ⟨bv, offv + 2, none⟩) rs.length (capv - 1)) (rv := .slice none 0 0) hB.out hlt
          all_goals clear hS hE hOr hsz hO3 hgrow4 hown4 hnode hsym hbox b9 b10 d0 d1 d2 d3 d4 d5 d6 d7 d8 d9 d10 f0 f1 f2 f3 f4 f5 f6 f7 f8 f9 f10 hk2 hk3 hOw q0 q1 qf q1' o0 o1 o0' o1' qf' ngw hA hB htl
          all_goals generalize hV1 : Value.slice (if capv = 1 then some ⟨bv, offv, none⟩ else some ⟨bv, offv + 2, none⟩) rs.length (capv - 1) = v1 at hp hrs hbs
          all_goals clear hV1
          all_goals
            go_loopg [4] (G'.length + 2) (fun gg s4 wr => ∃ (Gc : Gst) (olc : List Int), Gc.length ≤ gg ∧ Gc.length ≤ kk + 1 ∧ Aside (settle kk (stkG Gc) olc = y) ∧ Aside (wr.ownsRow (w.heap.size + 1 + 1) 166 2 s4 Gc.length (cellsG Gc)) ∧
              Aside (wr.ownsRow (w.heap.size + 1) 3 1 (.slice (some ⟨w.heap.size + 1, 0, none⟩) n n) n (olc.map (Value.int .i64))) ∧ Aside (RestsAt w Gc) ∧ Aside (∀ x ∈ Gc, x.1 < n) ∧
              Aside (Old (w.alloc (.cells #[c0, c1, c2, .slice a1 nt cap1, c4, c5, c6, c7, c8, .int .i64 n, .func (.func 47) #[] #[.pointer (some ⟨Bt, 0, none⟩), .pointer (some ⟨Bg, 0, none⟩)]] 123)) wr) ∧ Aside (w.heap.size + 1 + 1 ≤ wr.heap.size))
            case atStart =>
              exact ⟨_, ol, by simp, by simp; omega, (show settle kk (stkG _) ol = y from by rw [stkG_snoc, stkG_snoc]; exact hyS.out), hp.1, hp.2.1, hrs, hbs, hp.2.2.1, hp.2.2.2⟩
            case round =>
              clear hp hrs hbs
              obtain ⟨Gc, olc, hgl, hgn, iY, iS, iE, iA, iB, iO, iZ⟩ := hrel
              rcases List.eq_nil_or_concat Gc with hG | ⟨L, ⟨k, syms, v⟩, hG⟩
              · subst hG
                obtain ⟨aC, capC, hsC⟩ := own_form iS.out
                simp only [List.length_nil] at hsC
                subst hsC
                go_wp2
                go_roundg (n - (kk + 1))
                case measure => omega
                case rel => exact ⟨kk + 1, [], olc, by omega, by omega, by simp, by go_num, (show Aside _ from by rw [hy2.out, ← iY.out]; rfl), iS, iE, iA, iB, iO, iZ⟩
              · rw [List.concat_eq_append] at hG
                subst hG
                obtain ⟨g, capg, hs, hgB, hgS, q0, q1, qf⟩ := top_cells iS.out
                subst hs
                have hcapg := own_cap iS.out
                have hvA := iA.out (k, syms, v) (by simp)
                obtain ⟨av, capv, hv⟩ := hvA.form
                simp only [List.length_map] at hv
                have hkn : k < n := iB.out (k, syms, v) (by simp)
                subst hv
                have hgl2 : L.length + 1 ≤ gk := by simpa using hgl
                have hLn : L.length + 1 ≤ kk + 1 := by simpa using hgn
                clear hgl hgn hvA
                cases syms with
                | nil =>
                  obtain ⟨z, hz⟩ := out_cell iE.out hkn
                  have hfz := iE.out.frozenAt k
                  have hpop := after_pop ((kk : Int) + 1) iS.out iE.out iO.out (by simp) iZ.out
                  have hY : settle kk (stkG L) (olc.set k (kk + 1)) = y := by
                    have := iY.out
                    rw [stkG_snoc] at this
                    exact this
                  have hpop : Aside _ := hpop
                  have hY : Aside _ := hY
                  have iA2 : Aside (RestsAt w L) := fun x hx => iA.out x (List.mem_append_left _ hx)
                  have iB2 : Aside (∀ x ∈ L, x.1 < n) := fun x hx => iB.out x (List.mem_append_left _ hx)
                  clear iS iE iO iZ iA iB iY qf
                  simp only [List.length_nil] at q1
                  go_wp2
                  go_roundg L.length
                  case measure => omega
                  case rel => exact ⟨L, olc.set k (kk + 1), Nat.le_refl _, by omega, hY.out, hpop.out.1, hpop.out.2.1, iA2, iB2, hpop.out.2.2.1, hpop.out.2.2.2⟩
                | cons r rs =>
                  have hY : stkG (L ++ [(k, r :: rs, Value.slice av (r :: rs).length capv)]) = y.1 ∧ olc = y.2 := by
                    have := iY.out
                    rw [stkG_snoc] at this
                    rw [stkG_snoc, ← this]
                    exact ⟨rfl, rfl⟩
                  have hY : Aside _ := hY
                  have hrl : ¬ ((r :: rs).length : Int) = 0 := by simp only [List.length_cons]; omega
                  have hlen : (L ++ [(k, r :: rs, Value.slice av (r :: rs).length capv)]).length ≤ kk + 1 := by simpa using hLn
                  have hlen : Aside _ := hlen
                  generalize hrr : (r :: rs).length = rl at *
                  clear qf iY hz
                  go_wp2
                  go_roundg (n - (kk + 1))
                  case measure => omega
                  case rel => exact ⟨kk + 1, L ++ [(k, r :: rs, Value.slice av rl capv)], olc, by omega, by omega, hlen.out, by go_num, (show Aside _ from by rw [hy2.out, hY.out.1, hY.out.2]; exact rfl), iS, iE, iA, iB, iO, iZ⟩
        · have hpl := hplt hpos
          obtain ⟨b5, off5, cap5, h5c, hcell⟩ := hrp hpos
          obtain ⟨ar, cr, hrv0⟩ := hrv.out.form
          simp only [List.length_map] at hrv0
          subst hrv0
          subst h5c
          clear hrp hplt hxn hrn
          generalize hrnl : rg.length = rn at *
          clear hrnl
          go_wp2_with (first
            | (go_at_call 47; refine hnode.mono ?_; rintro e w2 ⟨rfl, hk2⟩; obtain ⟨d0, d1, d2, d3, d4, d5, d6, d7, d8, d9, d10⟩ := hbox.out w2 (hOr.out.trans hk2.old))
            | (go_at_call 77; refine (hsym.out _ (hOw.trans hk2.old)).mono ?_; rintro e w3 ⟨rfl, hk3⟩; obtain ⟨f0, f1, f2, f3, f4, f5, f6, f7, f8, f9, f10⟩ := hbox.out w3 ((hOr.out.trans hk2.old).trans hk3.old)))
          have hO3 : Old wr (w3.alloc (.cells #[.bool r1, .int .i64 r2] 66)) := (hk2.old.trans hk3.old).alloc _
          have q1' := hO3.cell_some q1
          have o0' := hO3.cell_some o0
          have o1' := hO3.cell_some o1
          have qf' : (w3.alloc (.cells #[.bool r1, .int .i64 r2] 66)).frozen? ⟨g, G'.length * 2 + 1, none⟩ = false := (hO3.frozen (p := ⟨g, G'.length * 2 + 1, none⟩) hgS).trans (qf _)
          have hsz3 : w.heap.size + 1 + 1 ≤ w3.heap.size := Nat.le_trans hsz.out (Nat.le_trans hk2.size hk3.size)
          have g5 := ((Old.refl w3).alloc (.cells #[.bool r1, .int .i64 r2] 66)).cell_some f5
          have g3 := hO3.cell_some (hOw.cell_some hcell)
          have hb5 := lt_of_cell hcell
          simp only at hb5
          have nbg : ¬ b5 = g := by omega
          have nwg : ¬ w.heap.size = g := by omega
          have ngw : ¬ g = w3.heap.size + 1 := by have := Nat.le_trans hk2.size hk3.size; omega
          go_region
          all_goals go_wp2_with (at_builtin; refine push166c _ (w.heap.size + 1 + 1) (.slice (some ⟨g, 0, none⟩) (G'.length + 1) capg) (G'.length + 1) _ kk (.slice ar rn cr) (w3.heap.size + 1) rfl rfl rfl (own_step (rs := rs) hS.out hO3 (((Old.refl _).alloc _).drew)) (by simp [World.setCell]; omega) (by omega) rfl rfl (cell_new _ _ _ _ 0 (by simp [World.setCell])) (cell_new _ _ _ _ 1 (by simp [World.setCell])) ?_; intro s4' w4 hown4 hgrow4)
          all_goals have hp := after_step (rg := rg) hS.out hE.out hOr.out (by simp) hsz.out hO3 (((Old.refl _).alloc _).drew) hgrow4 hown4
          all_goals have hrs := rests_step (k := k) (kk := kk) (fun x hx => hA.out x (List.mem_append_left _ hx)) htl.out hrv.out
          all_goals have hbs := nums_step (rs := rs) (rg := rg) (v1 := .slice (if capv = 1 then some ⟨bv, offv, none⟩ else some ⟨bv, offv + 2, none⟩) rs.length (capv - 1)) (rv := .slice ar rn cr) hB.out hlt
          all_goals clear hS hE hOr hsz hO3 hgrow4 hown4 hnode hsym hbox b9 b10 d0 d1 d2 d3 d4 d5 d6 d7 d8 d9 d10 f0 f1 f2 f3 f4 f5 f6 f7 f8 f9 f10 hk2 hk3 hOw q0 q1 qf q1' o0 o1 o0' o1' qf' ngw hA hB htl hcell g5 g3 hb5 nbg nwg hpl hpos
          all_goals generalize hV1 : Value.slice (if capv = 1 then some ⟨bv, offv, none⟩ else some ⟨bv, offv + 2, none⟩) rs.length (capv - 1) = v1 at hp hrs hbs
          all_goals clear hV1
          all_goals
            go_loopg [4] (G'.length + 2) (fun gg s4 wr => ∃ (Gc : Gst) (olc : List Int), Gc.length ≤ gg ∧ Gc.length ≤ kk + 1 ∧ Aside (settle kk (stkG Gc) olc = y) ∧ Aside (wr.ownsRow (w.heap.size + 1 + 1) 166 2 s4 Gc.length (cellsG Gc)) ∧
              Aside (wr.ownsRow (w.heap.size + 1) 3 1 (.slice (some ⟨w.heap.size + 1, 0, none⟩) n n) n (olc.map (Value.int .i64))) ∧ Aside (RestsAt w Gc) ∧ Aside (∀ x ∈ Gc, x.1 < n) ∧
              Aside (Old (w.alloc (.cells #[c0, c1, c2, .slice a1 nt cap1, c4, .slice (some ⟨b5, off5, none⟩) ps.length cap5, c6, c7, c8, .int .i64 n, .func (.func 47) #[] #[.pointer (some ⟨Bt, 0, none⟩), .pointer (some ⟨Bg, 0, none⟩)]] 123)) wr) ∧ Aside (w.heap.size + 1 + 1 ≤ wr.heap.size))
            case atStart =>
              exact ⟨_, ol, by simp, by simp; omega, (show settle kk (stkG _) ol = y from by rw [stkG_snoc, stkG_snoc]; exact hyS.out), hp.1, hp.2.1, hrs, hbs, hp.2.2.1, hp.2.2.2⟩
            case round =>
              clear hp hrs hbs
              obtain ⟨Gc, olc, hgl, hgn, iY, iS, iE, iA, iB, iO, iZ⟩ := hrel
              rcases List.eq_nil_or_concat Gc with hG | ⟨L, ⟨k, syms, v⟩, hG⟩
              · subst hG
                obtain ⟨aC, capC, hsC⟩ := own_form iS.out
                simp only [List.length_nil] at hsC
                subst hsC
                go_wp2
                go_roundg (n - (kk + 1))
                case measure => omega
                case rel => exact ⟨kk + 1, [], olc, by omega, by omega, by simp, by go_num, (show Aside _ from by rw [hy2.out, ← iY.out]; rfl), iS, iE, iA, iB, iO, iZ⟩
              · rw [List.concat_eq_append] at hG
                subst hG
                obtain ⟨g, capg, hs, hgB, hgS, q0, q1, qf⟩ := top_cells iS.out
                subst hs
                have hcapg := own_cap iS.out
                have hvA := iA.out (k, syms, v) (by simp)
                obtain ⟨av, capv, hv⟩ := hvA.form
                simp only [List.length_map] at hv
                have hkn : k < n := iB.out (k, syms, v) (by simp)
                subst hv
                have hgl2 : L.length + 1 ≤ gk := by simpa using hgl
                have hLn : L.length + 1 ≤ kk + 1 := by simpa using hgn
                clear hgl hgn hvA
                cases syms with
                | nil =>
                  obtain ⟨z, hz⟩ := out_cell iE.out hkn
                  have hfz := iE.out.frozenAt k
                  have hpop := after_pop ((kk : Int) + 1) iS.out iE.out iO.out (by simp) iZ.out
                  have hY : settle kk (stkG L) (olc.set k (kk + 1)) = y := by
                    have := iY.out
                    rw [stkG_snoc] at this
                    exact this
                  have hpop : Aside _ := hpop
                  have hY : Aside _ := hY
                  have iA2 : Aside (RestsAt w L) := fun x hx => iA.out x (List.mem_append_left _ hx)
                  have iB2 : Aside (∀ x ∈ L, x.1 < n) := fun x hx => iB.out x (List.mem_append_left _ hx)
                  clear iS iE iO iZ iA iB iY qf
                  simp only [List.length_nil] at q1
                  go_wp2
                  go_roundg L.length
                  case measure => omega
                  case rel => exact ⟨L, olc.set k (kk + 1), Nat.le_refl _, by omega, hY.out, hpop.out.1, hpop.out.2.1, iA2, iB2, hpop.out.2.2.1, hpop.out.2.2.2⟩
                | cons r rs =>
                  have hY : stkG (L ++ [(k, r :: rs, Value.slice av (r :: rs).length capv)]) = y.1 ∧ olc = y.2 := by
                    have := iY.out
                    rw [stkG_snoc] at this
                    rw [stkG_snoc, ← this]
                    exact ⟨rfl, rfl⟩
                  have hY : Aside _ := hY
                  have hrl : ¬ ((r :: rs).length : Int) = 0 := by simp only [List.length_cons]; omega
                  have hlen : (L ++ [(k, r :: rs, Value.slice av (r :: rs).length capv)]).length ≤ kk + 1 := by simpa using hLn
                  have hlen : Aside _ := hlen
                  generalize hrr : (r :: rs).length = rl at *
                  clear qf iY hz
                  go_wp2
                  go_roundg (n - (kk + 1))
                  case measure => omega
                  case rel => exact ⟨kk + 1, L ++ [(k, r :: rs, Value.slice av rl capv)], olc, by omega, by omega, hlen.out, by go_num, (show Aside _ from by rw [hy2.out, hY.out.1, hY.out.2]; exact rfl), iS, iE, iA, iB, iO, iZ⟩
    · have hkn : kk = n := by omega
      have hfin := hR.out
      rw [hkn, List.take_of_length_le (by omega), hrun] at hfin
      simp only [Option.some.injEq, Prod.mk.injEq] at hfin
      obtain ⟨hf1, rfl⟩ := hfin
      have hGe : G = [] := by
        cases G with
        | nil => rfl
        | cons z G => simp [stkG] at hf1
      subst hGe
      subst hkn
      obtain ⟨aC, capC, hsC⟩ := own_form hS.out
      simp only [List.length_nil] at hsC
      subst hsC
      have hbox : Aside _ := hbox
      clear hR hg hf1 hrun hok hp hs
      go_wp2
      go_ret
      refine ⟨w.heap.size + 1, rfl, ?_, by have := hE.out.1; simpa using this, hOw⟩
      intro j c hj i v hi
      rw [List.getElem?_map] at hj
      obtain ⟨z, hz, rfl⟩ := Option.map_eq_some_iff.1 hj
      have hjl := (List.getElem?_eq_some_iff.1 hz).1
      have hol := hE.out.1
      simp only [List.length_map, Nat.mul_one] at hol
      have hcj := hE.out.cellAt j (by omega)
      rw [List.getElem?_map, hz] at hcj
      cases i with
      | zero =>
        simp only [List.getElem?_cons_zero, Option.some.injEq] at hi
        subst hi
        simpa using hcj
      | succ i => simp at hi
end Go.Pri
end

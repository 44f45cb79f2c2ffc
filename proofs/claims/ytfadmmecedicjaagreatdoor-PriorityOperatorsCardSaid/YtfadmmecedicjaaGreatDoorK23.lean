/-
  PriorityOperators: parts of its proof (Pr22 Pr23 Pr24 Co2).
-/
import Derived.Maps.RangeWalk
import Derived.Shelf.SlSortCmp.QuietGrown
import Derived.StillTailTactics
import Derived.Test.YtfadmmecedicjaaGreatDoorK09
import Derived.Test.YtfadmmecedicjaaGreatDoorK20
import Derived.Test.YtfadmmecedicjaaGreatDoorK22
set_option linter.unusedVariables false
set_option linter.unusedSimpArgs false

section
/-
  Conflicts, of operators: walked up to the sort, whose word is asked for.
-/
namespace Go.Pri
open Go Go.Abs Go.Proofs Go.RowKit Go.Lib Go.Maps

theorem sets_made (w : World) : SetsAt (w.alloc (.map #[] 0)) w.heap.size [] :=
  ⟨.map [], World.ownsMap_made w Tryz.prog 95 R31, isMap_empty, fun f kl _ _ => by simp [Maps.has], fun kl h => by simp [Maps.has] at h⟩

theorem R31_lit_true {v : Value} {ps : List MemPlace} {y : DatU × List MemPlace} (h : R31 v = some y) (hy : y.1 = .lit (.bool true)) : v = .agg #[.slice none 0 0, .int .i64 1] := by
  unfold R31 at h
  split at h
  · rename_i n
    split at h
    · cases h; cases hy
    · split at h
      · rename_i h1; subst h1; rfl
      · cases h
  · cases h

/-- The range over the rules is under way: these have come. -/
def RangeAt (w : World) (M r : Nat) (L F : List Fil) (cnt : Nat) : Prop := ∃ (D : DatU) (n : Nat) (left : Lit → Bool), w.ranges Tryz.prog 95 R31 M r n D left cnt ∧
  (∀ kl, Maps.has D kl = true → (∃ f ∈ L, f.wf ∧ keyOf Tryz.prog 95 (ruleV f) = some kl) ∧ ∀ z, D.atKey kl z = .lit (.bool true)) ∧ (∀ kl, left kl = true → Maps.has D kl = true) ∧
  (∀ f kl, f.wf → keyOf Tryz.prog 95 (ruleV f) = some kl → (left kl = true ↔ f ∈ L ∧ f ∉ F)) ∧ F.Nodup ∧ (∀ f ∈ F, f ∈ L)

/-- 'range k.sets'. -/
theorem range_start {w : World} {M : Nat} {L : List Fil} (h : SetsAt w M L) : ∃ w' cnt, (Instr.range 90 (.map (some M))).run Tryz.prog w = .ok (.pointer (some ⟨w.heap.size, 0, none⟩)) w' ∧ RangeAt w' M w.heap.size L [] cnt ∧ Old w w' ∧ w'.heap.size = w.heap.size + 1 := by
  obtain ⟨D, h1, h2, h3, h4⟩ := h
  obtain ⟨w', hrun, hr, hg, hsz⟩ := World.ownsMap.range h1 keyed95 Tryz.underlying90
  refine ⟨w', _, hrun, ⟨D, _, _, hr, h4, fun kl h => h, fun f kl hf hk => ?_, List.nodup_nil, fun f hf => by cases hf⟩, ⟨hg.os, hg.output, hg.size, fun k hk => hg.block k hk (by simp)⟩, hsz⟩
  rw [h3 f kl hf hk]
  simp

/-- The step. -/
theorem range_next {w : World} {M r cnt : Nat} {L F : List Fil} (h : RangeAt w M r L F cnt) (hL : ∀ f ∈ L, f.wf) (ty : TypeId) :
    (F.Perm L ∨ ¬ L.Nodup) ∧ (Instr.next (.pointer (some ⟨r, 0, none⟩)) false ty).run Tryz.prog w = .ok (.tuple #[.bool false]) w ∨
    ∃ f w' cnt', f ∈ L ∧ f ∉ F ∧ (Instr.next (.pointer (some ⟨r, 0, none⟩)) false ty).run Tryz.prog w = .ok (.tuple #[.bool true, ruleV f, .agg #[.slice none 0 0, .int .i64 1]]) w' ∧ RangeAt w' M r L (F ++ [f]) cnt' ∧ cnt' < cnt ∧ w.grownBy w' (some r) ∧ w'.heap.size = w.heap.size ∧
      (Instr.entry (.pointer (some ⟨r, 0, none⟩))).run Tryz.prog w' = .ok (.tuple #[ruleV f, .agg #[.slice none 0 0, .int .i64 1]]) w' := by
  obtain ⟨D, n, left, h1, h2, h3, h4, h5, h6⟩ := h
  rcases World.ranges.next h1 keyed95 ty with ⟨hc, hl, hrun⟩ | ⟨key, v, kl, y, w', cnt', hkey, hlk, hv, hat, hrun, hrg, hlt, hgr, hsz, hen⟩
  · refine .inl ⟨?_, hrun⟩
    by_cases hn : L.Nodup
    · refine .inl ((List.perm_ext_iff_of_nodup h5 hn).2 fun f => ⟨h6 f, fun hf => ?_⟩)
      obtain ⟨kl, hk⟩ := key95 (hL f hf)
      have := h4 f kl (hL f hf) hk
      rw [hl kl] at this
      by_cases hF : f ∈ F
      · exact hF
      · exact absurd (this.2 ⟨hf, hF⟩) (by simp)
    · exact .inr hn
  · obtain ⟨⟨f, hf, hfw, hfk⟩, hz⟩ := h2 kl (h3 kl hlk)
    have e1 : key = ruleV f := keyed95.inj hkey hfk
    subst e1
    have e2 : v = .agg #[.slice none 0 0, .int .i64 1] := R31_lit_true (ps := []) hv (by rw [← hat (.lit (.bool false)), hz])
    subst e2
    have hnF := ((h4 f kl hfw hfk).1 hlk).2
    refine .inr ⟨f, w', cnt', hf, hnF, hrun, ⟨D, n, _, hrg, h2, fun kl' h' => h3 kl' (by simp only [Bool.and_eq_true] at h'; exact h'.1), fun f' kl' hf' hk' => ?_, ?_, ?_⟩, hlt, hgr, hsz, hen⟩
    · have hkk : WideAt.IsKeyLit kl := keyed95.key hfk
      rw [Bool.and_eq_true, h4 f' kl' hf' hk']
      by_cases e : kl' = kl
      · subst e
        have : f' = f := ruleV_inj (keyed95.inj hk' hfk)
        subst this
        simp [WideAt.sameKey_self hkk]
      · have hne : f' ≠ f := fun e3 => by subst e3; rw [hfk] at hk'; cases hk'; exact e rfl
        have hs : kl'.sameKey kl = false := sameKey_ne e
        simp [hs, hne]
    · rw [List.nodup_append]
      exact ⟨h5, by simp, fun a ha b hb e => by simp at hb; subst hb; subst e; exact hnF ha⟩
    · intro f' hf'
      rcases List.mem_append.1 hf' with hf' | hf'
      · exact h6 f' hf'
      · rw [List.mem_singleton.1 hf']; exact hf
theorem RangeAt.kept {w w' : World} {M r cnt : Nat} {L F : List Fil} {row : Option Nat} (h : RangeAt w M r L F cnt) (hg : w.grownBy w' row) (hM : some M ≠ row) (hr : some r ≠ row) : RangeAt w' M r L F cnt := by
  obtain ⟨D, n, left, h1, h2⟩ := h
  exact ⟨D, n, left, h1.kept hg hM hr, h2⟩

theorem info59 : (Tryz.prog.info? 59).map (fun i => (i.zero, i.size, i.bytes)) = some (some (.agg #[.int .i64 0, .int .i64 0, .int .i64 0, .int .i64 0, .int .i64 0, .int .i64 0, .slice none 0 0, .slice none 0 0, .int .i64 0]), 9, 104) := by kernel_rfl
def cellsF (F : List Fil) : List Value := F.flatMap encF
/-- What the sort of the filters does. -/
def SortAt (L F : List Fil) : Prop := ∀ (w : World) (base : Nat) (v : Value) (F' : List Fil), F'.Perm L → w.ownsRow base 59 9 v F'.length (cellsF F') → Calls Tryz.prog 31 #[v, .func (.func 32) #[] #[]] w fun e w' =>
  (∃ u, e = .returned u) ∧ w'.ownsRow base 59 9 v F.length (cellsF F) ∧ ∀ a, a.heap.size ≤ base → Old a w → Old a w'

/-- A filter put behind the others. -/
theorem pushF {ops : Array Oper} {rest : List Oper} {o : Oper} {a : Act} {Q : Exit → Act → World → Prop} (s x : Operand) (W : World) (base : Nat) (v : Value) (F : List Fil) (f : Fil) (b : Nat)
    (hgd : o.guard = none) (ho : o.op = .call { callee := .builtin .append, args := #[s, x], argTypes := #[35, 35] })
    (hown : W.ownsRow base 59 9 v F.length (cellsF F)) (hb : base ≤ W.heap.size) (hn : F.length ≤ 5000)
    (hs : a.eval s = v) (hx : a.eval x = .slice (some ⟨b, 0, none⟩) 1 1) (m : ∀ (i : Nat) u, (encF f)[i]? = some u → W.cell? ⟨b, i, none⟩ = some u)
    (h : ∀ v' w', w'.ownsRow base 59 9 v' (F ++ [f]).length (cellsF (F ++ [f])) → W.grownBy w' v.ownBlock → wpList Tryz.prog ops Q rest (a.put o.dst v') w') : wpList Tryz.prog ops Q (o :: rest) a W := by
  obtain ⟨i6, hi6, hz6, hs6, hb6⟩ := info_parts info59
  refine wpList_append_own _ hgd s x 35 ho base 59 i6 _ 9 104 Tryz.underlying35 hi6 hz6 hs6 hb6 rfl (by decide) v F.length (cellsF F) hs hown ⟨b, 0, none⟩ 1 1 (encF f) hx rfl ?_ ?_ ?_ ?_ hb ?_
  · intro j u hj
    have := m j u hj
    cases j <;> simpa [Addr.add] using this
  · intro u hu
    simp [encF] at hu
    rcases hu with rfl | rfl | rfl | rfl | rfl | rfl | rfl | rfl | rfl <;> rfl
  · unfold maxLen; omega
  · omega
  · intro v' w' h1 h2 _
    exact h v' w' (by simpa [cellsF] using h1) h2

/-- Clone of no branches. -/
theorem clone30 (w : World) : Calls Tryz.prog 30 #[.slice none 0 0] w fun e w' => e = .returned (.slice none 0 0) ∧ Old w w' := by
  have hnil : ∀ W, Sem.run Tryz.prog (binOp BinOp.eql 29 (Value.slice none 0 0) (Value.slice none 0 0)) W = .ok (.bool true) W := fun W => Lib.run_eql_slice_nil W 29 98 none _ _ _ _ Tryz.underlying29
  go_enter Tryz.func30, Tryz.ntmps30
  go_wp2
  go_ret
  exact ⟨rfl, Old.refl w⟩

theorem cellsF_len (F : List Fil) : (cellsF F).length = F.length * 9 := by
  induction F with
  | nil => rfl
  | cons a F ih => simp [cellsF, encF] at ih ⊢; omega
theorem cellsF_at : ∀ (V : List Fil) (j : Nat) (x : Fil) (i : Nat) (u : Value), V[j]? = some x → (encF x)[i]? = some u → (cellsF V)[j * 9 + i]? = some u
  | [], j, x, i, u, h, _ => by cases h
  | y :: V, 0, x, i, u, h, h2 => by
    simp only [List.getElem?_cons_zero, Option.some.injEq] at h
    subst h
    have hi : i < (encF y).length := (List.getElem?_eq_some_iff.1 h2).1
    simp only [Nat.zero_mul, Nat.zero_add, cellsF, List.flatMap_cons]
    rw [List.getElem?_append_left hi]
    exact h2
  | y :: V, j + 1, x, i, u, h, h2 => by
    have ih := cellsF_at V j x i u (by simpa using h) h2
    simp only [cellsF, List.flatMap_cons]
    rw [List.getElem?_append_right (by simp [encF]; omega)]
    have e : (j + 1) * 9 + i - (encF y).length = j * 9 + i := by simp [encF]; omega
    rw [e]
    exact ih
/-- A row of filters is a slice of them. -/
theorem own_fils {w : World} {base : Nat} {v : Value} {V : List Fil} (h : w.ownsRow base 59 9 v V.length (cellsF V)) : SliceAt 9 w v (V.map encF) := by
  rcases Nat.eq_zero_or_pos V.length with h0 | h0
  · have e : V = [] := List.eq_nil_of_length_eq_zero h0
    obtain ⟨a, c, hv⟩ := own_form h
    exact .inl ⟨by rw [e]; rfl, a, c, by rw [hv, h0]⟩
  · obtain ⟨g, cap, rfl, _, _⟩ := own_some h h0
    refine .inr ⟨g, 0, cap, by simp, by simpa using own_cap h, fun j c hj i u hu => ?_⟩
    rw [List.getElem?_map, Option.map_eq_some_iff] at hj
    obtain ⟨x, hx, rfl⟩ := hj
    have hjl := (List.getElem?_eq_some_iff.1 hx).1
    have hi : i < 9 := by have := (List.getElem?_eq_some_iff.1 hu).1; simpa [encF] using this
    have h1 := h.cellAt (j * 9 + i) (by omega)
    rw [cellsF_at V j x i u hx hu] at h1
    simpa using h1
end Go.Pri
end

section
/-
  Conflicts, of operators: walked, the sort's word being given.
-/
namespace Go.Pri
open Go Go.Abs Go.Proofs Go.RowKit Go.Lib Go.Maps

theorem nodup_len {α : Type} : ∀ {F L : List α}, F.Nodup → (∀ f ∈ F, f ∈ L) → F.length ≤ L.length
  | [], L, _, _ => Nat.zero_le _
  | a :: F, L, h, hs => by
    classical
    obtain ⟨h1, h2⟩ := List.nodup_cons.1 h
    have ha : a ∈ L := hs a (by simp)
    have := nodup_len (F := F) (L := L.erase a) h2 fun f hf => (List.mem_erase_of_ne (fun e => h1 (by rw [← e]; exact hf))).2 (hs f (by simp [hf]))
    rw [List.length_erase_of_mem ha] at this
    have := List.length_pos_of_mem ha
    simp
    omega
theorem own_kept_row {w w' : World} {base r n : Nat} {ty : TypeId} {k : Nat} {v : Value} {l : List Value} (h : w.ownsRow base ty k v n l) (hg : w.grownBy w' (some r)) (hr : r < base) : w'.ownsRow base ty k v n l := h.kept hg (by
  cases hv : v.ownBlock with
  | none => exact .inl rfl
  | some b => exact .inr (fun e => by cases e; have := (h.lt _ hv).1; omega))

theorem RangeAt.old {w W : World} {M r cnt : Nat} {L F : List Fil} (h : RangeAt w M r L F cnt) (ho : Old w W) : RangeAt W M r L F cnt := by
  obtain ⟨D, n, left, h1, h2⟩ := h
  have h3 := h1.owns.lt
  have h4 := h1.lt
  obtain ⟨es, clock, since, seen, c0, hb, F, hs, hD, hr, rest⟩ := h1
  exact ⟨D, n, left, ⟨es, clock, since, seen, c0, (ho.heap _ h3).trans hb, F, hs, hD, (ho.heap _ h4).trans hr, rest⟩, h2⟩
theorem RangeAt.row {w W w' : World} {M r cnt n base : Nat} {ty : TypeId} {k : Nat} {L F : List Fil} {v : Value} {l : List Value} (h : RangeAt w M r L F cnt) (hv : w.ownsRow base ty k v n l) (hg : w.grownBy w' v.ownBlock) (hM : M < base) (hr : r < base) : RangeAt w' M r L F cnt :=
  h.kept hg (fun e => by have := (hv.lt _ e.symm).1; omega) (fun e => by have := (hv.lt _ e.symm).1; omega)

set_option maxRecDepth 100000 in
set_option maxHeartbeats 16000000 in
theorem conf11 (a0 : Option Addr) (cap0 : Nat) (c3 c4 c5 c7 : Value) (start : Int) (nt : Nat) (ps : List Prod') (lv : List Lv) (F : List Fil) (w : World) (htab : TabAt w)
    (hv : Valid w (.agg #[.slice a0 2 cap0, .slice none 0 0, .int .i64 1, c3, c4, c5, .int .i64 start, c7, .slice none 0 0])) (hgr : GramAt w c3 c5 nt ps) (hlv : LvAt w c7 lv) (hl7 : c7 = .slice none 0 0 → lv = [])
    (hop : ∀ a ∈ lv, ∀ p ∈ a.1, IsOp ps p ∧ p ≤ 100) (has : ∀ a ∈ lv, a.2 = 1 ∨ a.2 = 2 ∨ a.2 = 3) (hnd : (rulesAll lv).Nodup) (hlen : (rulesAll lv).length ≤ 4000) (hlvl : lv.length ≤ 100) (hpl : ∀ a ∈ lv, a.1.length ≤ 100)
    (hLw : ∀ f ∈ rulesAll lv, f.wf) (hsort : SortAt (rulesAll lv) F) :
    Calls Tryz.prog 11 #[.agg #[.slice a0 2 cap0, .slice none 0 0, .int .i64 1, c3, c4, c5, .int .i64 start, c7, .slice none 0 0]] w fun e w' =>
      ∃ fv, e = .returned (.tuple #[fv, .int .i64 0]) ∧ SliceAt 9 w' fv (F.map encF) ∧ Old w w' := by
  obtain ⟨a7, cap7, rfl⟩ : ∃ a7 cap7, c7 = .slice a7 lv.length cap7 := by
    obtain ⟨cs, h1, h2, _⟩ := hlv
    obtain ⟨a, c, h⟩ := h1.form
    exact ⟨a, c, by rw [h, h2]⟩
  have hO : Old w (w.alloc (.cells #[.slice a0 2 cap0, .slice none 0 0, .int .i64 1, c3, c4, c5, .int .i64 start, .slice a7 lv.length cap7, .slice none 0 0] 37)) := (Old.refl w).alloc _
  have hb : ∀ wr, Old (w.alloc (.cells #[.slice a0 2 cap0, .slice none 0 0, .int .i64 1, c3, c4, c5, .int .i64 start, .slice a7 lv.length cap7, .slice none 0 0] 37)) wr → ∀ (i : Nat) v, (#[.slice a0 2 cap0, .slice none 0 0, .int .i64 1, c3, c4, c5, .int .i64 start, .slice a7 lv.length cap7, .slice none 0 0] : Array Value)[i]? = some v → wr.cell? ⟨w.heap.size, i, none⟩ = some v := fun wr h i v hi =>
    h.cell_some (by simpa using hi)
  have h1 := hv.facts _ hO
  replace h1 : Aside _ := h1
  replace hb : Aside _ := hb
  replace hO : Aside _ := hO
  replace hgr : Aside _ := hgr
  replace hlv : Aside _ := hlv
  replace hop : Aside _ := hop
  replace has : Aside _ := has
  replace hnd : Aside _ := hnd
  replace hpl : Aside _ := hpl
  replace hLw : Aside _ := hLw
  replace hsort : Aside _ := hsort
  replace htab : Aside _ := htab
  have hmm := @run_makeMap Tryz.prog
  clear hv
  go_enter Tryz.func11, Tryz.ntmps11
  go_wp2_with (first
    | (go_at_call 20; refine Calls.mono h1.out ?_; rintro e w2 ⟨rfl, hk⟩; have d0 := hb.out w2 hk 0 _ rfl; have d1 := hb.out w2 hk 1 _ rfl; have d2 := hb.out w2 hk 2 _ rfl; have d3 := hb.out w2 hk 3 _ rfl; have d4 := hb.out w2 hk 4 _ rfl; have d5 := hb.out w2 hk 5 _ rfl; have d6 := hb.out w2 hk 6 _ rfl; have d7 := hb.out w2 hk 7 _ rfl; have d8 := hb.out w2 hk 8 _ rfl;
        have hOM : Old w2 ((w2.alloc (.map #[] 0)).alloc (.cells #[.slice a0 2 cap0, .slice none 0 0, .int .i64 1, c3, c4, c5, .int .i64 start, .slice a7 lv.length cap7, .slice none 0 0, .map (some w2.heap.size), .bool false] 92)) := (((Old.refl w2).alloc _).alloc _);
        have e8 := hOM.cell_some d8; replace hOM : Aside _ := hOM))
  have hOw2 := hO.out.trans hk
  have hC : CollAt ((w2.alloc (.map #[] 0)).alloc (.cells #[.slice a0 2 cap0, .slice none 0 0, .int .i64 1, c3, c4, c5, .int .i64 start, .slice a7 lv.length cap7, .slice none 0 0, .map (some w2.heap.size), .bool false] 92)) (w2.heap.size + 1) w2.heap.size
      [.slice a0 2 cap0, .slice none 0 0, .int .i64 1, c3, c4, c5, .int .i64 start, .slice a7 lv.length cap7, .slice none 0 0] := by
    have hh := World.alloc_heap_new (w2.alloc (.map #[] 0)) (.cells #[.slice a0 2 cap0, .slice none 0 0, .int .i64 1, c3, c4, c5, .int .i64 start, .slice a7 lv.length cap7, .slice none 0 0, .map (some w2.heap.size), .bool false] 92)
    rw [World.size_alloc] at hh
    refine ⟨fun i v hi hl => ?_, by simp only [World.cell?, hh]; rfl, by simp only [World.cell?, hh]; rfl, fun i => by simp only [World.frozen?, hh]; simp, by omega⟩
    simp only [World.cell?, hh]
    match i, hl, hi with
    | 0, _, hi => exact hi
    | 1, _, hi => exact hi
    | 2, _, hi => exact hi
    | 3, _, hi => exact hi
    | 4, _, hi => exact hi
    | 5, _, hi => exact hi
    | 6, _, hi => exact hi
    | 7, _, hi => exact hi
    | 8, _, hi => exact hi
  have hSm : SetsAt ((w2.alloc (.map #[] 0)).alloc (.cells #[.slice a0 2 cap0, .slice none 0 0, .int .i64 1, c3, c4, c5, .int .i64 start, .slice a7 lv.length cap7, .slice none 0 0, .map (some w2.heap.size), .bool false] 92)) w2.heap.size [] := (sets_made w2).old ((Old.refl _).alloc _)
  have hM0 : w2.heap.size ≠ 0 := by
    have := hOw2.size
    obtain ⟨el, fz, h⟩ := htab.out
    have := (Array.getElem?_eq_some_iff.1 h).1
    omega
  have hlev := levels29 (w2.heap.size + 1) w2.heap.size _ c3 c5 (.slice a7 lv.length cap7) nt ps lv w2 _ (TabAt.old (w := w) htab.out (hOw2.trans hOM.out)) hM0 hC rfl rfl rfl rfl (hgr.out.old hOw2) (LvAt.old (w := w) hlv.out hOw2) hl7 hOM.out (Nat.le_refl _) (by simp; omega) hop.out has.out hSm hnd.out hlen hlvl hpl.out
  replace hlev : Aside _ := hlev
  replace hC : Aside _ := hC
  clear d0 d1 d2 d3 d4 d5 d6 d7 d8 h1 hb hSm hgr hlv hop has hpl hmm
  generalize hWc : (w2.alloc (.map #[] 0)).alloc (.cells #[.slice a0 2 cap0, .slice none 0 0, .int .i64 1, c3, c4, c5, .int .i64 start, .slice a7 lv.length cap7, .slice none 0 0, .map (some w2.heap.size), .bool false] 92) = Wc at *
  clear hWc
  go_loopg [23] 1 (fun gg s wr => s = .int .i64 0 ∧ Aside (wr = Wc))
  case atStart => exact ⟨rfl, rfl⟩
  case round =>
    obtain ⟨rfl, hw⟩ := hrel
    have hw := hw.out
    subst hw
    go_wp2_with (first
      | (go_at_call 29; refine Calls.mono hlev.out ?_; rintro e w5 ⟨⟨u, rfl⟩, hs5, ho5⟩; have hC5 := CollAt.but hC.out ho5; have k9 := hC5.sets; have k10 := hC5.large; obtain ⟨w6, cnt, hrun, hR6, hO56, hsz6⟩ := range_start hs5; obtain ⟨D5, hm5, _⟩ := hs5; have hln := fun ty => World.ownsMap.len hm5 Tryz.underlying90 ty; have hsz := hm5.size_le; have hsz' : (Maps.size D5 : Int) ≤ 4096 := (by omega); replace hR6 : Aside _ := hR6; replace hO56 : Aside _ := hO56; replace hC5 : Aside _ := hC5; replace hm5 : Aside _ := hm5))
    have hOw6 : Old w w6 := by
      have h1 : OldBut w2.heap.size w w5 := ((hOw2.trans hOM.out).but).trans ho5
      have h2 : Old w w5 := OldBut.oldOf (Old.refl w) hOw2.size h1
      exact h2.trans hO56.out
    have hMr : w2.heap.size < w5.heap.size := World.ownsMap.lt hm5.out
    have hsw : w.heap.size ≤ w2.heap.size := hOw2.size
    replace hOw6 : Aside _ := hOw6
    clear hC5 hm5 hln hO56 hrun k9 k10 hC hlev hOM ho5 hsz hsz' hl7 e8
    go_loopg [8] cnt (fun gg s8 wr => ∃ (F' : List Fil) (c : Nat), c ≤ gg ∧ Aside (RangeAt wr w2.heap.size w5.heap.size (rulesAll lv) F' c) ∧ Aside (wr.ownsRow w6.heap.size 59 9 s8 F'.length (cellsF F')) ∧ Aside (Old w wr) ∧ w6.heap.size ≤ wr.heap.size)
    case atStart => exact ⟨[], cnt, Nat.le_refl _, hR6, World.ownsRow_nil _ _ _ _, hOw6, Nat.le_refl _⟩
    case round =>
      obtain ⟨F', c, hcg, hR, hown, hOr, hszr⟩ := hrel
      rcases range_next hR.out hLw.out 0 with ⟨hperm, hrun⟩ | ⟨f, w7, cnt', hfL, hfF, hrun, hR7, hclt, hg7, hsz7, hen⟩
      · have hp : F'.Perm (rulesAll lv) := by
          rcases hperm with h | h
          · exact h
          · exact absurd hnd.out h
        obtain ⟨av, cv, hvf⟩ := own_form hown.out
        subst hvf
        have hs := hsort.out wr w6.heap.size _ F' hp hown.out
        replace hs : Aside _ := hs
        clear hR hperm hp
        go_wp2_with (first
          | (go_at_call 31; refine Calls.mono hs.out ?_; rintro e w9 ⟨⟨u, rfl⟩, hs9, ho9⟩))
        go_ret2
        exact ⟨_, rfl, own_fils hs9, ho9 w hOw6.out.size hOr.out⟩
      · obtain ⟨par, pos, ch⟩ := f
        have hlt5 : F'.length ≤ 5000 := by
          obtain ⟨_, _, _, _, _, _, _, hnF, hsub⟩ := hR.out
          have := nodup_len hnF hsub
          omega
        have hrM : w5.heap.size < w6.heap.size := by omega
        have hw5 : w.heap.size ≤ w5.heap.size := by omega
        have hOr7 : Old w w7 := hOr.out.grown hg7 (fun k hk => by cases hk; exact hw5)
        have hown7 := own_kept_row hown.out hg7 hrM
        clear hsort hnd hLw hR hown hOr
        simp only [ruleV] at hrun hen
        generalize hWb : (w7.alloc (.cells #[.int .i64 1, .int .i64 par, .int .i64 pos, .int .i64 ch] 95)).alloc (.cells #[.slice none 0 0, .int .i64 1] 31) = Wb
        have hO7 : Old w7 Wb := by rw [← hWb]; exact ((Old.refl w7).alloc _).alloc _
        have hszb : Wb.heap.size = wr.heap.size + 2 := by rw [← hWb]; simp [hsz7]
        have hbx : ∀ W, Old Wb W →
            W.cell? ⟨wr.heap.size, 0, none⟩ = some (.int .i64 1) ∧ W.cell? ⟨wr.heap.size, 1, none⟩ = some (.int .i64 par) ∧ W.cell? ⟨wr.heap.size, 2, none⟩ = some (.int .i64 pos) ∧ W.cell? ⟨wr.heap.size, 3, none⟩ = some (.int .i64 ch) ∧
            W.cell? ⟨wr.heap.size + 1, 0, none⟩ = some (.slice none 0 0) ∧ W.cell? ⟨wr.heap.size + 1, 1, none⟩ = some (.int .i64 1) ∧ W.frozen? ⟨wr.heap.size + 1, 0, none⟩ = false := fun W h => by
          subst hWb
          have e0 : wr.heap.size = w7.heap.size := hsz7.symm
          rw [e0]
          refine ⟨h.cell_some (by simp), h.cell_some (by simp), h.cell_some (by simp), h.cell_some (by simp), h.cell_some (by simp), h.cell_some (by simp), (h.frozen (by simp)).trans ?_⟩
          have := World.alloc_heap_new (w7.alloc (.cells #[.int .i64 1, .int .i64 par, .int .i64 pos, .int .i64 ch] 95)) (.cells #[.slice none 0 0, .int .i64 1] 31)
          rw [World.size_alloc] at this
          simp only [World.frozen?, this]
          simp
        have hRb := hR7.old hO7
        have hownb := own_old hown7 hO7
        have hOwb := hOr7.trans hO7
        clear hR7 hown7 hOr7 hO7 hg7
        obtain ⟨b0, b1, b2, b3, b4, b5, b6⟩ := hbx _ (Old.refl _)
        obtain ⟨a8, cv8, hvf⟩ := own_form hownb
        subst hvf
        have hfin : ∀ W v' w', Old Wb W → W.ownsRow w6.heap.size 59 9 (.slice a8 F'.length cv8) F'.length (cellsF F') → W.grownBy w' (Value.slice a8 F'.length cv8).ownBlock → w'.ownsRow w6.heap.size 59 9 v' (F' ++ [Fil.mk par pos ch]).length (cellsF (F' ++ [Fil.mk par pos ch])) →
            RangeAt w' w2.heap.size w5.heap.size (rulesAll lv) (F' ++ [Fil.mk par pos ch]) cnt' ∧ w'.ownsRow w6.heap.size 59 9 v' (F' ++ [Fil.mk par pos ch]).length (cellsF (F' ++ [Fil.mk par pos ch])) ∧ Old w w' ∧ w6.heap.size ≤ w'.heap.size := fun W v' w' hO hv hg hn =>
          ⟨(hRb.old hO).row (W := W) hv hg (by omega) hrM, hn, (hOwb.trans hO).grown hg (fun k hk => by have := (hv.lt _ hk).1; omega), by have := hO.size; have := hg.size; omega⟩
        subst hWb
        replace hfin : Aside _ := hfin
        replace hownb : Aside _ := hownb
        replace hbx : Aside _ := hbx
        clear hRb hOwb
        go_wp2_with (first
          | (go_at_call 30; refine Calls.mono (clone30 _) ?_; rintro e w9 ⟨rfl, hO9⟩; obtain ⟨p0, p1, p2, p3, p4, p5, p6⟩ := hbx.out w9 hO9; have hS := old_setSelf p4; obtain ⟨q0, q1, q2, q3, q4, q5, q6⟩ := hbx.out _ (hO9.trans hS); replace hS : Aside _ := hS)
          | (at_builtin; have hO10 := (hO9.trans hS.out).trans ((Old.refl _).alloc (.cells #[.int .i64 1, .int .i64 par, .int .i64 pos, .int .i64 ch, .int .i64 0, .int .i64 0, .slice none 0 0, .slice none 0 0, .int .i64 1] 59)); have hV := own_old hownb.out hO10; refine pushF (.tmp 77) (.tmp 88) _ w6.heap.size _ F' ⟨par, pos, ch⟩ w9.heap.size rfl rfl hV (by have := hO10.size; omega) hlt5 rfl rfl (by intro i u hi; have hn := World.alloc_heap_new (w9.setCell ⟨wr.heap.size + 1, 0, none⟩ (.slice none 0 0)) (.cells #[.int .i64 1, .int .i64 par, .int .i64 pos, .int .i64 ch, .int .i64 0, .int .i64 0, .slice none 0 0, .slice none 0 0, .int .i64 1] 59); simp only [World.setCell, Array.size_modify] at hn; simp only [World.cell?, World.setCell, hn]; simpa [encF] using hi) ?_; intro v' w10 hown10 hgrow10))
        obtain ⟨g1, g2, g3, g4⟩ := hfin.out _ v' w10 hO10 hV hgrow10 hown10
        replace g1 : Aside _ := g1
        replace g2 : Aside _ := g2
        replace g3 : Aside _ := g3
        clear hfin hownb hbx
        go_roundg cnt' <;> first | omega | skip
        exact ⟨F' ++ [Fil.mk par pos ch], cnt', Nat.le_refl _, g1, g2, g3, g4⟩
end Go.Pri
end

section
/-
  The sort of the rules: what it compares by.
-/
namespace Go.Pri
open Go Go.Abs Go.Proofs Go.RowKit Go.Lib

def cmpI (x y : Int) : Int := if x < y then -1 else if y < x then 1 else 0
def lexC : List Int → List Int → Int
  | a :: s, b :: t => if cmpI a b = 0 then lexC s t else cmpI a b
  | _, _ => 0

theorem nan49 (x : Int) (w : World) : Calls Tryz.prog 49 #[.int .i64 x] w fun e w' => e = .returned (.bool false) ∧ w' = w := by
  go_enter Tryz.func49, Tryz.ntmps49
  go_wp2
  go_ret
  exact ⟨rfl, rfl⟩

set_option maxRecDepth 100000 in
theorem cmp24 (x y : Int) (w : World) : Calls Tryz.prog 24 #[.int .i64 x, .int .i64 y] w fun e w' => e = .returned (.int .i64 (cmpI x y)) ∧ w' = w := by
  have h1 := nan49 x w
  have h2 := nan49 y w
  unfold cmpI
  by_cases a : x < y
  · simp only [a, if_true]
    go_enter Tryz.func24, Tryz.ntmps24
    go_wp2_with (go_at_call 49; refine Calls.mono (by first | exact h1 | exact h2) ?_; rintro e w2 ⟨rfl, rfl⟩)
    go_ret
    exact ⟨rfl, rfl⟩
  · by_cases b : y < x
    · simp only [a, b, if_true, if_false]
      go_enter Tryz.func24, Tryz.ntmps24
      go_wp2_with (go_at_call 49; refine Calls.mono (by first | exact h1 | exact h2) ?_; rintro e w2 ⟨rfl, rfl⟩)
      go_ret
      exact ⟨rfl, rfl⟩
    · simp only [a, b, if_false]
      go_enter Tryz.func24, Tryz.ntmps24
      go_wp2_with (go_at_call 49; refine Calls.mono (by first | exact h1 | exact h2) ?_; rintro e w2 ⟨rfl, rfl⟩)
      go_ret
      exact ⟨rfl, rfl⟩

set_option maxRecDepth 100000 in
set_option maxHeartbeats 4000000 in
theorem cmp33 (xs ys : List Int) (n : Nat) (v u : Value) (w : World) (hx : SliceAt 1 w v (xs.map fun x => [.int .i64 x])) (hy : SliceAt 1 w u (ys.map fun x => [.int .i64 x])) (hxl : xs.length = n) (hyl : ys.length = n) (hn : n ≤ 100) :
    Calls Tryz.prog 33 #[v, u] w fun e w' => e = .returned (.int .i64 (lexC xs ys)) ∧ w' = w := by
  obtain ⟨av, cv, rfl⟩ := hx.form
  obtain ⟨au, cu, rfl⟩ := hy.form
  simp only [List.length_map, hxl, hyl] at hx hy ⊢
  replace hx : Aside _ := hx
  replace hy : Aside _ := hy
  go_enter Tryz.func33, Tryz.ntmps33
  go_wp2
  go_loopg [11] n (fun gg s wr => ∃ i : Nat, s = .int .i64 i ∧ n - i ≤ gg ∧ i ≤ n ∧ Aside (lexC xs ys = lexC (xs.drop i) (ys.drop i)) ∧ wr = w)
  case atStart => exact ⟨0, rfl, by omega, by omega, by simp [Aside], rfl⟩
  case round =>
    obtain ⟨i, rfl, hg, hi, hl, rfl⟩ := hrel
    by_cases hlt : i < n
    · have hlt' : (i : Int) < n := by omega
      have hnge : ¬ (n : Int) ≤ i := by omega
      obtain ⟨x, hxi⟩ : ∃ x, xs[i]? = some x := ⟨_, List.getElem?_eq_getElem (by omega)⟩
      obtain ⟨y, hyi⟩ : ∃ y, ys[i]? = some y := ⟨_, List.getElem?_eq_getElem (by omega)⟩
      obtain ⟨b, o, c, hv, hvc⟩ := SliceAt.at hx.out (j := i) (c := [.int .i64 x]) (by simp [hxi])
      obtain ⟨b', o', c', hu, huc⟩ := SliceAt.at hy.out (j := i) (c := [.int .i64 y]) (by simp [hyi])
      simp only [List.length_map, hxl, hyl] at hv hu
      cases hv
      cases hu
      have x0 := hvc 0 _ rfl
      have y0 := huc 0 _ rfl
      simp only [Nat.add_zero, Nat.mul_one] at x0 y0
      have hlex : lexC xs ys = if cmpI x y = 0 then lexC (xs.drop (i + 1)) (ys.drop (i + 1)) else cmpI x y := by
        rw [hl.out, drop_at hxi, drop_at hyi]
        rfl
      have hcmp := cmp24 x y wr
      clear hl hvc huc
      by_cases hz : cmpI x y = 0
      · rw [if_pos hz] at hlex
        rw [hz] at hcmp
        replace hlex : Aside _ := hlex
        go_wp2_with (go_at_call 24; refine Calls.mono hcmp ?_; rintro e w2 ⟨rfl, rfl⟩)
        go_roundg (n - (i + 1))
        case measure => omega
        case rel => exact ⟨i + 1, by go_num, by omega, by omega, hlex, rfl⟩
      · rw [if_neg hz] at hlex
        generalize cmpI x y = r at *
        have hzb : (r == 0) = false := by simpa using hz
        replace hlex : Aside _ := hlex
        go_wp2_with (go_at_call 24; refine Calls.mono hcmp ?_; rintro e w2 ⟨rfl, rfl⟩)
        go_ret
        exact ⟨by rw [hlex.out]; rfl, rfl⟩
    · have hnlt' : ¬ (i : Int) < n := by omega
      have he : lexC xs ys = 0 := by
        rw [hl.out, List.drop_eq_nil_of_le (by omega)]
        rfl
      replace he : Aside _ := he
      clear hx hy
      go_wp2
      go_ret
      exact ⟨by rw [he.out]; rfl, rfl⟩

def cfF (f g : Fil) : Int := lexC [1, f.par, f.pos, f.child] [1, g.par, g.pos, g.child]

theorem slice_new (w : World) (l : List Int) (t n : Nat) (hn : w.heap.size = n) : SliceAt 1 (w.alloc (.cells (l.map (Value.int .i64)).toArray t)) (.slice (some ⟨n, 0, none⟩) l.length l.length) (l.map fun x => [.int .i64 x]) := by
  subst hn
  refine .inr ⟨w.heap.size, 0, l.length, by simp, by simp, fun j c hj i u hu => ?_⟩
  have hn := World.alloc_heap_new w (.cells (l.map (Value.int .i64)).toArray t)
  rw [List.getElem?_map, Option.map_eq_some_iff] at hj
  obtain ⟨x, hx, rfl⟩ := hj
  cases i with
  | succ i => simp at hu
  | zero =>
    simp only [List.getElem?_cons_zero, Option.some.injEq] at hu
    subst hu
    simp only [World.cell?, hn]
    simp [hx]

set_option maxRecDepth 100000 in
set_option maxHeartbeats 4000000 in
theorem cmp32 (f g : Fil) (w : World) : Calls Tryz.prog 32 #[.agg (encF f).toArray, .agg (encF g).toArray] w fun e w' => e = .returned (.int .i64 (cfF f g)) ∧ ∃ q os, w' = Go.Sort.grow (w.drewN q) os := by
  obtain ⟨a, b, c⟩ := f
  obtain ⟨a', b', c'⟩ := g
  have hcmp := fun W v u h1 h2 => cmp33 [1, a, b, c] [1, a', b', c'] 4 v u W h1 h2 rfl rfl (by omega)
  replace hcmp : Aside _ := hcmp
  simp only [encF, cfF]
  generalize lexC [1, a, b, c] [1, a', b', c'] = r at *
  go_enter Tryz.func32, Tryz.ntmps32
  go_wp2_with (go_at_call 33; refine Calls.mono (hcmp.out _ _ _ ((slice_new _ [1, a, b, c] 3 _ (by simp)).old ((Old.refl _).alloc _)) (slice_new _ [1, a', b', c'] 3 _ (by simp))) ?_; rintro e w2 ⟨rfl, rfl⟩)
  go_ret
  refine ⟨rfl, 0, _, by rw [Go.Sort.alloc_eq_grow, Go.Sort.alloc_eq_grow, Go.Sort.alloc_eq_grow, Go.Sort.alloc_eq_grow, Go.Sort.grow_grow, Go.Sort.grow_grow, Go.Sort.grow_grow]; rfl⟩
end Go.Pri
end

section
/-
  kids, Collect, cmp.Or, position: walked.
-/
namespace Go.Pri
open Go Go.Abs Go.Proofs Go.RowKit Go.Lib Go.Shelf
set_option maxRecDepth 100000

theorem kids27 (a : Option Addr) (m cap : Nat) (i : Int) (w : World) : Calls Tryz.prog 27 #[.slice a m cap, .int .i64 i] w fun e w' => e = .returned (.func (.func 51) #[] #[.pointer (some ⟨w.heap.size + 1, 0, none⟩), .pointer (some ⟨w.heap.size, 0, none⟩)]) ∧
    w' = (w.alloc (.cells #[.slice a m cap] 39)).alloc (.cells #[.int .i64 i] 3) :=
  (callsIn_wide (n := 5)).1 (kids27_in Fence.wide 5 trivial rfl a m cap i w)

set_option maxHeartbeats 1000000 in
theorem collect26 (b Be Bi m cap i : Nat) (out ks : List Int) (stop : Int) (w : World)
    (hBi : w.cell? ⟨Bi, 0, none⟩ = some (.int .i64 i)) (hBe : w.cell? ⟨Be, 0, none⟩ = some (.slice (some ⟨b, 0, none⟩) m cap)) (hn : NumsAt w b out) (hm : out.length = m) (hb : m ≤ 2000000) (hi : i < m) (hst : out[i]? = some stop) (hk : IsKids out stop (i + 1) ks) (hkl : ks.length ≤ 2000000) :
    Calls Tryz.prog 26 #[.func (.func 51) #[] #[.pointer (some ⟨Bi, 0, none⟩), .pointer (some ⟨Be, 0, none⟩)]] w fun e w' => ∃ v, e = .returned v ∧ Old w w' ∧ w'.ownsRow w.heap.size 3 1 v ks.length (ks.map (Value.int .i64)) := by
  have h := (callsIn_wide (n := 5)).1 (append50_in Fence.wide 5 trivial trivial rfl (by omega) b Be Bi m cap i out ks stop w hBi hBe hn hm hb hi hst hk hkl)
  replace h : Aside _ := h
  clear hBi hBe hn hst hk
  go_enter Tryz.func26, Tryz.ntmps26
  go_wp2_with (go_at_call 50; refine Calls.mono h.out ?_; rintro e w2 ⟨v, rfl, hO, hr⟩)
  go_ret
  exact ⟨v, rfl, hO, hr⟩

/-- The first that is not nought. -/
def firstNZ : List Int → Int
  | [] => 0
  | a :: l => if a = 0 then firstNZ l else a
theorem firstNZ_zero : ∀ {l : List Int}, (∀ a ∈ l, a = 0) → firstNZ l = 0
  | [], _ => rfl
  | a :: l, h => by
    simp only [firstNZ, h a (by simp), if_true]
    exact firstNZ_zero fun b hb => h b (by simp [hb])
theorem firstNZ_iff : ∀ {l : List Int}, firstNZ l = 0 ↔ ∀ a ∈ l, a = 0
  | [] => by simp [firstNZ]
  | a :: l => by
    simp only [firstNZ]
    by_cases h : a = 0
    · rw [if_pos h, firstNZ_iff]; simp [h]
    · rw [if_neg h]; simp [h]
theorem firstNZ_at {l : List Int} {i : Nat} {a : Int} (h0 : ∀ b ∈ l.take i, b = 0) (hi : l[i]? = some a) (ha : a ≠ 0) : firstNZ l = a := by
  induction l generalizing i with
  | nil => cases hi
  | cons x l ih =>
    cases i with
    | zero => simp at hi; subst hi; simp [firstNZ, ha]
    | succ i =>
      have hx : x = 0 := h0 x (by simp)
      simp only [firstNZ, hx, if_true]
      exact ih (i := i) (fun b hb => h0 b (by rw [List.take_succ_cons]; exact List.mem_cons_of_mem _ hb)) (by simpa using hi)

set_option maxHeartbeats 2000000 in
theorem or23 (xs : List Int) (v : Value) (w : World) (hx : SliceAt 1 w v (xs.map fun x => [.int .i64 x])) (hn : xs.length ≤ 100) :
    Calls Tryz.prog 23 #[v] w fun e w' => e = .returned (.int .i64 (firstNZ xs)) ∧ w' = w := by
  obtain ⟨a, c, rfl⟩ := hx.form
  simp only [List.length_map] at hx ⊢
  replace hx : Aside _ := hx
  go_enter Tryz.func23, Tryz.ntmps23
  go_wp2
  go_loopg [8] xs.length (fun gg s wr => ∃ i : Nat, s = .int .i64 i ∧ xs.length - i ≤ gg ∧ i ≤ xs.length ∧ Aside (∀ b ∈ xs.take i, b = 0) ∧ Aside (wr = w))
  case atStart => exact ⟨0, rfl, by omega, by omega, (fun b hb => by simp at hb), rfl⟩
  case round =>
    obtain ⟨i, rfl, hgi, hil, hz, hw⟩ := hrel
    obtain rfl := hw.out
    by_cases hi : i < xs.length
    · have hi' : (i : Int) < xs.length := by omega
      obtain ⟨y, hy⟩ : ∃ y, xs[i]? = some y := ⟨_, List.getElem?_eq_getElem hi⟩
      obtain ⟨b, off, cap, he, hc⟩ := SliceAt.at hx.out (j := i) (c := [.int .i64 y]) (by simp [hy])
      simp only [List.length_map] at he
      cases he
      have c0 := hc 0 _ rfl
      simp only [Nat.mul_one, Nat.add_zero] at c0
      clear hc
      by_cases h0 : y = 0
      · have hz2 : ∀ b ∈ xs.take (i + 1), b = 0 := fun b hb => by
          rw [List.take_add_one, hy] at hb
          simp at hb
          rcases hb with hb | rfl
          · exact hz.out b hb
          · exact h0
        replace hz2 : Aside _ := hz2
        subst h0
        go_wp2
        go_roundg (xs.length - (i + 1))
        case measure => omega
        case rel => exact ⟨i + 1, by go_num, by omega, by omega, hz2, rfl⟩
      · have hr : firstNZ xs = y := firstNZ_at hz.out hy h0
        clear hz hy
        go_wp2
        go_ret
        exact ⟨rfl, rfl⟩
    · have hie : i = xs.length := by omega
      subst hie
      have hr : firstNZ xs = 0 := firstNZ_zero (by simpa using hz.out)
      clear hz
      go_wp2
      go_ret
      exact ⟨rfl, rfl⟩

def posC (x y : Nd) : Int := firstNZ [cmpI x.tok y.tok, cmpI x.fr y.fr, cmpI x.to y.to]

set_option maxHeartbeats 4000000 in
theorem pos25 (x y : Nd) (w : World) : Calls Tryz.prog 25 #[.agg #[.int .i64 x.p, .int .i64 x.tok, .int .i64 x.fr, .int .i64 x.to], .agg #[.int .i64 y.p, .int .i64 y.tok, .int .i64 y.fr, .int .i64 y.to]] w fun e w' => e = .returned (.int .i64 (posC x y)) ∧ Old w w' := by
  obtain ⟨xp, xt, xf, xo⟩ := x
  obtain ⟨yp, yt, yf, yo⟩ := y
  simp only [posC]
  have hO : Old w ((w.alloc (.cells #[.int .i64 xp, .int .i64 xt, .int .i64 xf, .int .i64 xo] 79)).alloc (.cells #[.int .i64 yp, .int .i64 yt, .int .i64 yf, .int .i64 yo] 79)) := ((Old.refl w).alloc _).alloc _
  have hA : ∀ X, Old ((w.alloc (.cells #[.int .i64 xp, .int .i64 xt, .int .i64 xf, .int .i64 xo] 79)).alloc (.cells #[.int .i64 yp, .int .i64 yt, .int .i64 yf, .int .i64 yo] 79)) X →
      X.cell? ⟨w.heap.size, 1, none⟩ = some (.int .i64 xt) ∧ X.cell? ⟨w.heap.size, 2, none⟩ = some (.int .i64 xf) ∧ X.cell? ⟨w.heap.size, 3, none⟩ = some (.int .i64 xo) ∧ X.cell? ⟨w.heap.size + 1, 1, none⟩ = some (.int .i64 yt) ∧ X.cell? ⟨w.heap.size + 1, 2, none⟩ = some (.int .i64 yf) ∧ X.cell? ⟨w.heap.size + 1, 3, none⟩ = some (.int .i64 yo) := fun X h =>
    ⟨h.cell_some (by simp), h.cell_some (by simp), h.cell_some (by simp), h.cell_some (by simp), h.cell_some (by simp), h.cell_some (by simp)⟩
  obtain ⟨a1, a2, a3, b1, b2, b3⟩ := hA _ (Old.refl _)
  have hor := fun (W : World) => or23 [cmpI xt yt, cmpI xf yf, cmpI xo yo] (.slice (some ⟨W.heap.size, 0, none⟩) 3 3) (W.alloc (.cells #[.int .i64 (cmpI xt yt), .int .i64 (cmpI xf yf), .int .i64 (cmpI xo yo)] 3)) (slice_new W [cmpI xt yt, cmpI xf yf, cmpI xo yo] 3 W.heap.size rfl) (by simp)
  have hmix : Tryz.prog.follows Departure.mixedOrders = true := rfl
  replace hor : Aside _ := hor
  replace hO : Aside _ := hO
  clear hA
  go_enter Tryz.func25, Tryz.ntmps25
  go_wp2
  generalize (w.alloc (.cells #[.int .i64 xp, .int .i64 xt, .int .i64 xf, .int .i64 xo] 79)).alloc (.cells #[.int .i64 yp, .int .i64 yt, .int .i64 yf, .int .i64 yo] 79) = W at *
  have hrf : ∀ X, Old X X := Old.refl
  have htr : ∀ X Y Z, Old X Y → Old Y Z → Old X Z := fun _ _ _ => Old.trans
  replace hrf : Aside _ := hrf
  replace htr : Aside _ := htr
  have kk : ∀ X, Old W X → X.cell? ⟨w.heap.size, 1, none⟩ = some (.int .i64 xt) ∧ X.cell? ⟨w.heap.size, 2, none⟩ = some (.int .i64 xf) ∧ X.cell? ⟨w.heap.size, 3, none⟩ = some (.int .i64 xo) ∧ X.cell? ⟨w.heap.size + 1, 1, none⟩ = some (.int .i64 yt) ∧ X.cell? ⟨w.heap.size + 1, 2, none⟩ = some (.int .i64 yf) ∧ X.cell? ⟨w.heap.size + 1, 3, none⟩ = some (.int .i64 yo) := fun X h =>
    ⟨h.cell_some a1, h.cell_some a2, h.cell_some a3, h.cell_some b1, h.cell_some b2, h.cell_some b3⟩
  replace kk : Aside _ := kk
  clear a1 a2 a3 b1 b2 b3
  refine wp_region_O Old 17 (by kernel_rfl) ?_
  have hQ0 : Old W W.drew := (Old.refl _).drew
  replace hQ0 : Aside _ := hQ0
  generalize W.drew = X0 at *
  refine wpAnyO_take hrf.out htr.out (i := 0) (v := ?_) rfl (by kernel_rfl) (fun _ _ _ h => h) (Or.inl ⟨by rfl, ?_⟩) ?_
  rotate_left
  · (intro X hX; go_simp <;> with_reducible rfl)
  try simp only [Act.put, List.setIfInBounds_toArray, List.set_cons_zero, List.set_cons_succ, List.getElem_toArray, List.getElem_cons_zero, List.getElem_cons_succ]
  refine wpAnyO_take hrf.out htr.out (i := 1) (v := ?_) rfl (by kernel_rfl) (fun _ _ _ h => h) (Or.inl ⟨by rfl, ?_⟩) ?_
  rotate_left
  · (intro X hX; obtain ⟨a1, a2, a3, b1, b2, b3⟩ := kk.out X (hQ0.out.trans hX); go_simp <;> with_reducible rfl)
  try simp only [Act.put, List.setIfInBounds_toArray, List.set_cons_zero, List.set_cons_succ, List.getElem_toArray, List.getElem_cons_zero, List.getElem_cons_succ]
  refine wpAnyO_take hrf.out htr.out (i := 2) (v := ?_) rfl (by kernel_rfl) (fun _ _ _ h => h) (Or.inl ⟨by rfl, ?_⟩) ?_
  rotate_left
  · (intro X hX; go_simp <;> with_reducible rfl)
  try simp only [Act.put, List.setIfInBounds_toArray, List.set_cons_zero, List.set_cons_succ, List.getElem_toArray, List.getElem_cons_zero, List.getElem_cons_succ]
  refine wpAnyO_take hrf.out htr.out (i := 3) (v := ?_) rfl (by kernel_rfl) (fun _ _ _ h => h) (Or.inl ⟨by rfl, ?_⟩) ?_
  rotate_left
  · (intro X hX; obtain ⟨a1, a2, a3, b1, b2, b3⟩ := kk.out X (hQ0.out.trans hX); go_simp <;> with_reducible rfl)
  try simp only [Act.put, List.setIfInBounds_toArray, List.set_cons_zero, List.set_cons_succ, List.getElem_toArray, List.getElem_cons_zero, List.getElem_cons_succ]
  refine wpAnyO_take hrf.out htr.out (i := 5) (v := ?_) rfl (by kernel_rfl) (fun _ _ _ h => h) (Or.inl ⟨by rfl, ?_⟩) ?_
  rotate_left
  · (intro X hX; go_simp <;> with_reducible rfl)
  try simp only [Act.put, List.setIfInBounds_toArray, List.set_cons_zero, List.set_cons_succ, List.getElem_toArray, List.getElem_cons_zero, List.getElem_cons_succ]
  refine wpAnyO_take hrf.out htr.out (i := 6) (v := ?_) rfl (by kernel_rfl) (fun _ _ _ h => h) (Or.inl ⟨by rfl, ?_⟩) ?_
  rotate_left
  · (intro X hX; obtain ⟨a1, a2, a3, b1, b2, b3⟩ := kk.out X (hQ0.out.trans hX); go_simp <;> with_reducible rfl)
  try simp only [Act.put, List.setIfInBounds_toArray, List.set_cons_zero, List.set_cons_succ, List.getElem_toArray, List.getElem_cons_zero, List.getElem_cons_succ]
  refine wpAnyO_take hrf.out htr.out (i := 7) (v := ?_) rfl (by kernel_rfl) (fun _ _ _ h => h) (Or.inl ⟨by rfl, ?_⟩) ?_
  rotate_left
  · (intro X hX; go_simp <;> with_reducible rfl)
  try simp only [Act.put, List.setIfInBounds_toArray, List.set_cons_zero, List.set_cons_succ, List.getElem_toArray, List.getElem_cons_zero, List.getElem_cons_succ]
  refine wpAnyO_take hrf.out htr.out (i := 8) (v := ?_) rfl (by kernel_rfl) (fun _ _ _ h => h) (Or.inl ⟨by rfl, ?_⟩) ?_
  rotate_left
  · (intro X hX; obtain ⟨a1, a2, a3, b1, b2, b3⟩ := kk.out X (hQ0.out.trans hX); go_simp <;> with_reducible rfl)
  try simp only [Act.put, List.setIfInBounds_toArray, List.set_cons_zero, List.set_cons_succ, List.getElem_toArray, List.getElem_cons_zero, List.getElem_cons_succ]
  refine wpAnyO_take hrf.out htr.out (i := 10) (v := ?_) rfl (by kernel_rfl) (fun _ _ _ h => h) (Or.inl ⟨by rfl, ?_⟩) ?_
  rotate_left
  · (intro X hX; go_simp <;> with_reducible rfl)
  try simp only [Act.put, List.setIfInBounds_toArray, List.set_cons_zero, List.set_cons_succ, List.getElem_toArray, List.getElem_cons_zero, List.getElem_cons_succ]
  refine wpAnyO_take hrf.out htr.out (i := 11) (v := ?_) rfl (by kernel_rfl) (fun _ _ _ h => h) (Or.inl ⟨by rfl, ?_⟩) ?_
  rotate_left
  · (intro X hX; obtain ⟨a1, a2, a3, b1, b2, b3⟩ := kk.out X (hQ0.out.trans hX); go_simp <;> with_reducible rfl)
  try simp only [Act.put, List.setIfInBounds_toArray, List.set_cons_zero, List.set_cons_succ, List.getElem_toArray, List.getElem_cons_zero, List.getElem_cons_succ]
  refine wpAnyO_take hrf.out htr.out (i := 12) (v := ?_) rfl (by kernel_rfl) (fun _ _ _ h => h) (Or.inl ⟨by rfl, ?_⟩) ?_
  rotate_left
  · (intro X hX; go_simp <;> with_reducible rfl)
  try simp only [Act.put, List.setIfInBounds_toArray, List.set_cons_zero, List.set_cons_succ, List.getElem_toArray, List.getElem_cons_zero, List.getElem_cons_succ]
  refine wpAnyO_take hrf.out htr.out (i := 13) (v := ?_) rfl (by kernel_rfl) (fun _ _ _ h => h) (Or.inl ⟨by rfl, ?_⟩) ?_
  rotate_left
  · (intro X hX; obtain ⟨a1, a2, a3, b1, b2, b3⟩ := kk.out X (hQ0.out.trans hX); go_simp <;> with_reducible rfl)
  try simp only [Act.put, List.setIfInBounds_toArray, List.set_cons_zero, List.set_cons_succ, List.getElem_toArray, List.getElem_cons_zero, List.getElem_cons_succ]
  refine wpAnyO_one (i := 4) (by kernel_rfl) rfl ?_
  intro K hK
  go_simp
  (go_at_call 24; refine Calls.mono (cmp24 _ _ _) ?_; rintro e Y ⟨rfl, hYX⟩)
  subst hYX
  refine hK _ _ (fun _ => Old.refl _) ?_
  clear hK K
  try simp only [Act.put, List.setIfInBounds_toArray, List.set_cons_zero, List.set_cons_succ, List.getElem_toArray, List.getElem_cons_zero, List.getElem_cons_succ]
  refine wpAnyO_one (i := 9) (by kernel_rfl) rfl ?_
  intro K hK
  go_simp
  (go_at_call 24; refine Calls.mono (cmp24 _ _ _) ?_; rintro e Y ⟨rfl, hYX⟩)
  subst hYX
  refine hK _ _ (fun _ => Old.refl _) ?_
  clear hK K
  try simp only [Act.put, List.setIfInBounds_toArray, List.set_cons_zero, List.set_cons_succ, List.getElem_toArray, List.getElem_cons_zero, List.getElem_cons_succ]
  refine wpAnyO_one (i := 14) (by kernel_rfl) rfl ?_
  intro K hK
  go_simp
  (go_at_call 24; refine Calls.mono (cmp24 _ _ _) ?_; rintro e Y ⟨rfl, hYX⟩)
  subst hYX
  refine hK _ _ (fun _ => Old.refl _) ?_
  clear hK K
  try simp only [Act.put, List.setIfInBounds_toArray, List.set_cons_zero, List.set_cons_succ, List.getElem_toArray, List.getElem_cons_zero, List.getElem_cons_succ]
  refine wpAnyO_one (i := 15) (by kernel_rfl) rfl ?_
  intro K hK
  go_simp
  refine hK _ _ (fun _ => (Old.refl _).alloc _) ?_
  clear hK K
  try simp only [Act.put, List.setIfInBounds_toArray, List.set_cons_zero, List.set_cons_succ, List.getElem_toArray, List.getElem_cons_zero, List.getElem_cons_succ]
  refine wpAnyO_one (i := 16) (by kernel_rfl) rfl ?_
  intro K hK
  go_simp
  (go_at_call 23; refine Calls.mono (hor.out _) ?_; rintro e Y ⟨rfl, hYX⟩)
  subst hYX
  refine hK _ _ (fun _ => Old.refl _) ?_
  clear hK K
  try simp only [Act.put, List.setIfInBounds_toArray, List.set_cons_zero, List.set_cons_succ, List.getElem_toArray, List.getElem_cons_zero, List.getElem_cons_succ]
  refine wpAnyO_one (i := 17) (by kernel_rfl) rfl ?_
  intro K hK
  go_simp
  refine hK _ _ (fun h => absurd rfl h) ?_
  clear hK K
  try simp only [Act.put, List.setIfInBounds_toArray, List.set_cons_zero, List.set_cons_succ, List.getElem_toArray, List.getElem_cons_zero, List.getElem_cons_succ]
  refine wpAnyO_done (by kernel_rfl) ?_ _
  have hfin := (hO.out.trans hQ0.out).alloc (.cells #[.int .i64 (cmpI xt yt), .int .i64 (cmpI xf yf), .int .i64 (cmpI xo yo)] 3)
  replace hfin : Aside _ := hfin
  go_wp2
  go_ret
  exact ⟨rfl, hfin.out⟩
end Go.Pri
end

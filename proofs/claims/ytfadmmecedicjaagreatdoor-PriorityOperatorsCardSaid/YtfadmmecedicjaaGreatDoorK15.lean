/-
  PriorityOperators: parts of its proof (Pr7).
-/
import Derived.Test.YtfadmmecedicjaaGreatDoorK14
set_option linter.unusedVariables false
set_option linter.unusedSimpArgs false

section
/-
  consistent: the positions of a node's children, walked.
-/
namespace Go.Pri
open Go Go.Abs Go.Proofs Go.RowKit Go.Lib Go.Shelf
attribute [local go_sem] Oper.semAt_some

def stepC (l : List Nd) (s : Int × Bool) (k : Int) : Option (Int × Bool) :=
  match l[k.toNat]? with
  | none => none
  | some x => if (s.2 = true ∧ ¬ x.fr = s.1) ∨ x.fr < s.1 then none else some (x.to, decide (0 ≤ x.p))
def runC (l : List Nd) : Int × Bool → List Int → Option (Int × Bool)
  | s, [] => some s
  | s, k :: r => match stepC l s k with
    | none => none
    | some s => runC l s r
theorem runC_snoc (l : List Nd) : ∀ (r : List Int) (s : Int × Bool) (k : Int), runC l s (r ++ [k]) = (match runC l s r with | none => none | some s => stepC l s k)
  | [], s, k => by simp only [List.nil_append, runC]; cases stepC l s k <;> rfl
  | y :: r, s, k => by
    simp only [List.cons_append, runC]
    cases h : stepC l s y with
    | none => rfl
    | some s1 => exact runC_snoc l r s1 k
theorem runC_prefix {l : List Nd} : ∀ {r p : List Int} {s s' : Int × Bool}, runC l s r = some s' → p <+: r → ∃ s1, runC l s p = some s1
  | r, [], s, s', h, _ => ⟨s, rfl⟩
  | [], y :: p, s, s', h, hp => by simp at hp
  | y :: r, z :: p, s, s', h, hp => by
    obtain ⟨rfl, hp2⟩ := List.cons_prefix_cons.1 hp
    simp only [runC] at h ⊢
    cases hs : stepC l s z with
    | none => rw [hs] at h; cases h
    | some s1 => rw [hs] at h; exact runC_prefix h hp2

theorem boxed_grown {W W' : World} {B t : Nat} {v : Value} {row : Option Nat} (h : Boxed W B t v) (hg : W.grownBy W' row) (hr : ∀ r, row = some r → ∃ o : Obj, W.heap[r]? = some o ∧ o.isCells = false) : Boxed W' B t v :=
  h.kept hg (fun e' => by obtain ⟨o, ho, hc⟩ := hr B e'.symm; rw [show W.heap[B]? = _ from h] at ho; cases ho; cases hc)
theorem cell_new1 (W : World) (v : Value) (t : TypeId) : (W.alloc (.cells #[v] t)).cell? ⟨W.heap.size, 0, none⟩ = some v := by simp
theorem Old.ownFrom {β : Type} {B : Nat} {w : World} (hB : w.heap.size ≤ B) : OwnFrom B (fun (_ : β) W => Old w W) := fun _ _ _ _ hs hg hr => hs.grown hg (fun k e => Nat.le_trans hB (hr k e).1)

def I98 (l : List Nd) (fr : Int) (tv : Value) (w : World) {ks : List Int} (pre : List { k : Int // k ∈ ks }) (W : World) : Prop :=
  (∃ s, runC l (fr, true) (pre.map Subtype.val) = some s ∧ Boxed W w.heap.size 42 tv ∧ Boxed W (w.heap.size + 1) 4 (.bool false) ∧ Boxed W (w.heap.size + 1 + 1) 3 (.int .i64 s.1) ∧ Boxed W (w.heap.size + 1 + 1 + 1) 4 (.bool s.2)) ∧ Old w W ∧ w.heap.size + 6 ≤ W.heap.size
def X98 (l : List Nd) (fr : Int) {ks : List Int} (c : Code) (pre : List { k : Int // k ∈ ks }) (_ : World) : Prop := c = .ret ∧ runC l (fr, true) (pre.map Subtype.val) = none

theorem drewB {W : World} {B t : Nat} {v : Value} (h : Boxed W B t v) : Boxed W.drew B t v := h
theorem fin98 {l : List Nd} {fr : Int} {tv : Value} {w W : World} {ks : List Int} {pre : List { k : Int // k ∈ ks }} {k : Int} (hkk : k ∈ ks) {s : Int × Bool} {s' : Int × Bool} {b Be Bi : Nat} {act : Act}
    (q3 : Boxed W w.heap.size 42 tv) (q6 : Boxed W (w.heap.size + 1) 4 (.bool false)) (q7 : Boxed W (w.heap.size + 1 + 1) 3 (.int .i64 s.1)) (q8 : Boxed W (w.heap.size + 1 + 1 + 1) 4 (.bool s.2)) (hOW : Old w W) (h6 : w.heap.size + 6 ≤ W.heap.size)
    (hb : b < w.heap.size) (hBe : w.heap.size + 4 ≤ Be) (hBi : w.heap.size + 4 ≤ Bi) (hbe : Be < W.heap.size) (hbi : Bi < W.heap.size) (hrun : runC l (fr, true) (pre.map Subtype.val ++ [k]) = some s') (c : Array Value) (t : TypeId) :
    ownPostK (Kept3 b Be Bi) (I98 l fr tv w) (X98 l fr) (pre ++ [⟨k, hkk⟩]) W Exit.normal act (((W.alloc (.cells c t)).setCell ⟨w.heap.size + 1 + 1, 0, none⟩ (.int .i64 s'.1)).setCell ⟨w.heap.size + 1 + 1 + 1, 0, none⟩ (.bool s'.2)).drew := by
  have hsz := hOW.size
  have keep : ∀ j, j < W.heap.size → ¬ j = w.heap.size + 1 + 1 → ¬ j = w.heap.size + 1 + 1 + 1 → (((W.alloc (.cells c t)).setCell ⟨w.heap.size + 1 + 1, 0, none⟩ (.int .i64 s'.1)).setCell ⟨w.heap.size + 1 + 1 + 1, 0, none⟩ (.bool s'.2)).drew.heap[j]? = W.heap[j]? := fun j hj h1 h2 => by
    show (((W.alloc (.cells c t)).setCell ⟨w.heap.size + 1 + 1, 0, none⟩ (.int .i64 s'.1)).setCell ⟨w.heap.size + 1 + 1 + 1, 0, none⟩ (.bool s'.2)).heap[j]? = W.heap[j]?
    rw [(grownBy_setCell' _ (w.heap.size + 1 + 1 + 1) _).block j (by simp [World.setCell]; omega) (fun e => h2 (by cases e; rfl)), (grownBy_setCell' _ (w.heap.size + 1 + 1) _).block j (by simp; omega) (fun e => h1 (by cases e; rfl))]
    exact Below.heap_alloc W _ j hj
  refine ⟨((KeepsOthers.alloc W _).trans ((KeepsOthers.setCell _ _ _).trans (KeepsOthers.setCell _ _ _))).trans (KeepsOthers.drew _), ⟨keep _ (by omega) (by omega) (by omega), keep _ (by omega) (by omega) (by omega), keep _ (by omega) (by omega) (by omega)⟩, ⟨s', by simpa using hrun, ?_, ?_, ?_, ?_⟩, ?_, ?_⟩
  · exact drewB (Boxed.other (B' := w.heap.size + 1 + 1 + 1) (Boxed.other (B' := w.heap.size + 1 + 1) (q3.alloc _) (by omega) _) (by omega) _)
  · exact drewB (Boxed.other (B' := w.heap.size + 1 + 1 + 1) (Boxed.other (B' := w.heap.size + 1 + 1) (q6.alloc _) (by omega) _) (by omega) _)
  · exact drewB (Boxed.other (B' := w.heap.size + 1 + 1 + 1) (Boxed.set _ (q7.alloc _)) (by omega) _)
  · exact drewB (Boxed.set _ (Boxed.other (B' := w.heap.size + 1 + 1) (q8.alloc _) (by omega) _))
  · exact (((hOW.alloc _).setCell (by simp only; omega) _).setCell (by simp only; omega) _).drew
  · simp [World.setCell, World.drew]; omega

theorem IsKids.mem {out : List Int} {stop : Int} : ∀ {ks : List Int} {k0 : Int}, IsKids out stop k0 ks → ∀ k ∈ ks, 0 ≤ k ∧ k.toNat < out.length
  | [], _, _, k, hk => by cases hk
  | x :: r, k0, ⟨e, _, h0, m, hm, _, h2⟩, k, hk => by
    subst e
    rcases List.mem_cons.1 hk with rfl | hk
    · exact ⟨h0, (List.getElem?_eq_some_iff.1 hm).1⟩
    · exact h2.mem k hk

theorem ret98 {F : Fence} {n : Nat} {w W : World} {D : Nat} {tmps : Array Value} (ht : tmps.getD 6 undef = .pointer (some ⟨w.heap.size + 1, 0, none⟩)) (q6 : Boxed W (w.heap.size + 1) 4 (.bool false)) (hOW : Old w W) (hD : w.heap.size ≤ D)
    (hK : W.heap[D]? = some (.deferred (some []))) :
    bodyPostM F n Tryz.prog Tryz.f98 (fun e w' => e = .returned (.bool true) ∧ Old w w') Exit.ret { tmps, defers := [{ target := .collected D, args := #[] }] } (W.setCell ⟨w.heap.size + 1, 0, none⟩ (.bool true)).drew := by
  have hK' : (W.setCell ⟨w.heap.size + 1, 0, none⟩ (.bool true)).drew.heap[D]? = some (.deferred (some [])) := (KeepsOthers.setCell W ⟨w.heap.size + 1, 0, none⟩ (.bool true)).same D _ hK rfl
  refine ⟨by simp, .inl ⟨_, _, rfl, run_takeDeferred hK', ?_⟩⟩
  have hc5 := cell_kept (drewB (Boxed.set (.bool true) q6)).cell (grownBy_putObj' _ D (.deferred none)) (fun r e => by cases e; exact ⟨_, hK', rfl⟩)
  refine ⟨.bool true, ?_, rfl, ?_⟩
  · rw [results_cell1 Tryz.results98]
    simp [go_sem, ht, hc5]
  · have h1 : Old w (W.setCell ⟨w.heap.size + 1, 0, none⟩ (.bool true)).drew := (hOW.setCell (by simp only; omega) _).drew
    exact h1.grown (grownBy_putObj' _ D _) (fun k e => by cases e; exact hD)

set_option maxRecDepth 100000 in
set_option maxHeartbeats 20000000 in
theorem consistent98_in (F : Fence) (n : Nat) (h98 : F.fn 98) (h27 : F.fn 27) (h51 : F.fn 51) (hro : F.round = none) (hn5 : 5 ≤ n) (tv : Value) (l : List Nd) (b m cap i : Nat) (out ks : List Int) (stop : Int) (x0 : Nd) (sf : Int × Bool) (w : World)
    (hs : SliceAt 4 w tv (l.map encN)) (hn : NumsAt w b out) (hl : l.length = m) (hm : out.length = m) (hb : m ≤ 2000000) (hx : l[i]? = some x0) (hst : out[i]? = some stop) (hk : IsKids out stop (i + 1) ks)
    (hrun : runC l (x0.fr, true) ks = some sf) (hfin : if sf.2 then sf.1 = x0.to else sf.1 ≤ x0.to) :
    CallsIn F n Tryz.prog 98 #[tv, .slice (some ⟨b, 0, none⟩) m cap, .int .i64 i] w fun e w' => e = .returned (.bool true) ∧ Old w w' := by
  have h1 : 1 ≤ n := by omega
  obtain ⟨bt, off, capt, rfl, hcell⟩ := hs.at (j := i) (c := encN x0) (by simp [hx])
  have k2 := hcell 2 _ rfl
  have k3 := hcell 3 _ rfl
  have him : (i : Int) < m := by have := (List.getElem?_eq_some_iff.1 hx).1; omega
  simp only [List.length_map, hl] at hs ⊢
  have hbt := lt_of_cell k2
  simp only at hbt
  refine callsIn_of_wp_marks Tryz.func98 rfl h98 ?_ hro
  simp only [Tryz.ntmps98, List.size_toArray, List.length_cons, List.length_nil, Nat.reduceAdd, Nat.reduceSub, Array.replicate_succ, Array.replicate_zero, List.push_toArray, List.append_toArray, List.nil_append, List.cons_append]
  gi_wp2_with (gi_at_call 27; refine (kids27_in F (n - 1) h27 hro _ _ _ _ _).mono ?_; rintro e w2 ⟨rfl, rfl⟩)
  have hnode : Aside (∀ k ∈ ks, 0 ≤ k ∧ ∃ x, l[k.toNat]? = some x) := fun k hk' => by
    obtain ⟨h0, h2⟩ := hk.mem k hk'
    exact ⟨h0, l[k.toNat]'(by omega), List.getElem?_eq_getElem _⟩
  have hO : Old w ((((((w.alloc (.cells #[.slice (some ⟨bt, off, none⟩) m capt] 42)).alloc (.cells #[.bool false] 4)).alloc (.cells #[.int .i64 x0.fr] 3)).alloc (.cells #[.bool true] 4)).alloc (.cells #[.slice (some ⟨b, 0, none⟩) m cap] 39)).alloc (.cells #[.int .i64 i] 3)) :=
    ((((((Old.refl w).alloc _).alloc _).alloc _).alloc _).alloc _).alloc _
  have hb3 : Boxed ((((((w.alloc (.cells #[.slice (some ⟨bt, off, none⟩) m capt] 42)).alloc (.cells #[.bool false] 4)).alloc (.cells #[.int .i64 x0.fr] 3)).alloc (.cells #[.bool true] 4)).alloc (.cells #[.slice (some ⟨b, 0, none⟩) m cap] 39)).alloc (.cells #[.int .i64 i] 3)) w.heap.size 42 (.slice (some ⟨bt, off, none⟩) m capt) :=
    (((((Boxed.new w 42 _).alloc _).alloc _).alloc _).alloc _).alloc _
  have hb6 : Boxed ((((((w.alloc (.cells #[.slice (some ⟨bt, off, none⟩) m capt] 42)).alloc (.cells #[.bool false] 4)).alloc (.cells #[.int .i64 x0.fr] 3)).alloc (.cells #[.bool true] 4)).alloc (.cells #[.slice (some ⟨b, 0, none⟩) m cap] 39)).alloc (.cells #[.int .i64 i] 3)) (w.heap.size + 1) 4 (.bool false) := by
    have := Boxed.new (w.alloc (.cells #[.slice (some ⟨bt, off, none⟩) m capt] 42)) 4 (.bool false)
    rw [World.size_alloc] at this
    exact (((this.alloc _).alloc _).alloc _).alloc _
  have hb7 : Boxed ((((((w.alloc (.cells #[.slice (some ⟨bt, off, none⟩) m capt] 42)).alloc (.cells #[.bool false] 4)).alloc (.cells #[.int .i64 x0.fr] 3)).alloc (.cells #[.bool true] 4)).alloc (.cells #[.slice (some ⟨b, 0, none⟩) m cap] 39)).alloc (.cells #[.int .i64 i] 3)) (w.heap.size + 1 + 1) 3 (.int .i64 x0.fr) := by
    have := Boxed.new ((w.alloc (.cells #[.slice (some ⟨bt, off, none⟩) m capt] 42)).alloc (.cells #[.bool false] 4)) 3 (.int .i64 x0.fr)
    rw [World.size_alloc, World.size_alloc] at this
    exact ((this.alloc _).alloc _).alloc _
  have hb8 : Boxed ((((((w.alloc (.cells #[.slice (some ⟨bt, off, none⟩) m capt] 42)).alloc (.cells #[.bool false] 4)).alloc (.cells #[.int .i64 x0.fr] 3)).alloc (.cells #[.bool true] 4)).alloc (.cells #[.slice (some ⟨b, 0, none⟩) m cap] 39)).alloc (.cells #[.int .i64 i] 3)) (w.heap.size + 1 + 1 + 1) 4 (.bool true) := by
    have := Boxed.new (((w.alloc (.cells #[.slice (some ⟨bt, off, none⟩) m capt] 42)).alloc (.cells #[.bool false] 4)).alloc (.cells #[.int .i64 x0.fr] 3)) 4 (.bool true)
    rw [World.size_alloc, World.size_alloc, World.size_alloc] at this
    exact (this.alloc _).alloc _
  have hbe := cell_new1 ((((w.alloc (.cells #[.slice (some ⟨bt, off, none⟩) m capt] 42)).alloc (.cells #[.bool false] 4)).alloc (.cells #[.int .i64 x0.fr] 3)).alloc (.cells #[.bool true] 4)) (.slice (some ⟨b, 0, none⟩) m cap) 39
  have hbi := cell_new1 (((((w.alloc (.cells #[.slice (some ⟨bt, off, none⟩) m capt] 42)).alloc (.cells #[.bool false] 4)).alloc (.cells #[.int .i64 x0.fr] 3)).alloc (.cells #[.bool true] 4)).alloc (.cells #[.slice (some ⟨b, 0, none⟩) m cap] 39)) (.int .i64 i) 3
  simp only [World.size_alloc] at hbe hbi
  have hbe := ((Old.refl _).alloc (.cells #[.int .i64 i] 3)).cell_some hbe
  generalize hW0 : ((((((w.alloc (.cells #[.slice (some ⟨bt, off, none⟩) m capt] 42)).alloc (.cells #[.bool false] 4)).alloc (.cells #[.int .i64 x0.fr] 3)).alloc (.cells #[.bool true] 4)).alloc (.cells #[.slice (some ⟨b, 0, none⟩) m cap] 39)).alloc (.cells #[.int .i64 i] 3)) = W0 at *
  have hsz : W0.heap.size = w.heap.size + 6 := by rw [← hW0]; simp
  have hbw : b < w.heap.size := by
    have h0 : 0 < out.length := by omega
    exact lt_of_cell (hn 0 (out[0]'h0) (List.getElem?_eq_getElem _))
  clear hW0
  refine wpIn_rangeFunc_ownF hro h1 (gf := 51) (lb := #[.pointer (some ⟨w.heap.size + 1 + 1 + 1 + 1 + 1, 0, none⟩), .pointer (some ⟨w.heap.size + 1 + 1 + 1 + 1, 0, none⟩)]) rfl h51 (enters_of Tryz.func51 (by kernel_rfl) rfl)
    (kids_stops (α := { k : Int // k ∈ ks }) Subtype.val F (n - 1) h51 hro (by omega) b (w.heap.size + 1 + 1 + 1 + 1) (w.heap.size + 1 + 1 + 1 + 1 + 1) i m cap out ks.attach stop hm hst hb (by omega) W0 hbi hbe (hn.old hO) (by simpa using hk))
    Kept3.trans (fun W l' o o' hl' _ _ _ => ⟨World.putObj_heap_other (by omega), World.putObj_heap_other (by omega), World.putObj_heap_other (by omega)⟩) (Below.refl _ _) (fun _ => rfl)
    (I98 l x0.fr (.slice (some ⟨bt, off, none⟩) m capt) w) (X98 l x0.fr)
    (OwnFrom.and (Own.from (fun s A B row hs hg hr => by
      obtain ⟨s', q0, q1, q2, q3, q4⟩ := hs
      exact ⟨s', q0, boxed_grown q1 hg hr, boxed_grown q2 hg hr, boxed_grown q3 hg hr, boxed_grown q4 hg hr⟩) _) (OwnFrom.and (Old.ownFrom (by omega)) (fun _ A B row hs hg _ => Nat.le_trans hs hg.size)))
    (fun c => ownFrom_pure _ _)
    ⟨⟨(x0.fr, true), rfl, hb3, hb6, hb7, hb8⟩, hO, by omega⟩
    (fun x => { tmps := #[.slice (some ⟨bt, off, none⟩) m capt, .slice (some ⟨b, 0, none⟩) m cap, .int .i64 i, .pointer (some ⟨w.heap.size, 0, none⟩), undef, undef, .pointer (some ⟨w.heap.size + 1, 0, none⟩), .pointer (some ⟨w.heap.size + 1 + 1, 0, none⟩), .pointer (some ⟨w.heap.size + 1 + 1 + 1, 0, none⟩), .int .i64 x.1, undef,
        .slice (some ⟨bt, off, none⟩) m capt, .int .i64 i, .pointer (some ⟨bt, off + i * 4, none⟩), .pointer (some ⟨bt, off + i * 4 + 2, none⟩), .int .i64 x0.fr, .slice (some ⟨b, 0, none⟩) m cap, .int .i64 i,
        .func (.func 51) #[] #[.pointer (some ⟨w.heap.size + 1 + 1 + 1 + 1 + 1, 0, none⟩), .pointer (some ⟨w.heap.size + 1 + 1 + 1 + 1, 0, none⟩)], .int .i64 x.1,
        undef, undef, undef, undef, undef, undef, undef, undef, undef, undef, undef, undef, undef, undef, undef, undef, undef, undef, undef, undef, undef, undef, undef, undef, undef, undef, undef, undef, undef, undef, undef, undef, undef, undef, undef, undef, undef], defers := [] }) ?assign ?body ?done ?stop
  case assign =>
    intro l x W K hK
    gi_wp2
    exact hK
  case body =>
    rintro l' pre ⟨k, hkk⟩ W ⟨⟨⟨at', ex⟩, q0, q3, q6, q7, q8⟩, hOW, h6⟩ hlen
    obtain ⟨hk0, nd, hnd⟩ := hnode.out k hkk
    have hstep := runC_snoc l (pre.map Subtype.val) (x0.fr, true) k
    rw [q0] at hstep
    simp only [stepC, hnd] at hstep
    have hstep : Aside _ := hstep
    have hkm : k < m := by have := (List.getElem?_eq_some_iff.1 hnd).1; omega
    have hct := (hs.old hOW).at (j := k.toNat) (c := encN nd) (by simp [hnd])
    obtain ⟨bt', off', capt', hte, hcell'⟩ := hct
    simp only [List.length_map, hl] at hte
    cases hte
    have e0 := hcell' 0 _ rfl
    have e1 := hcell' 1 _ rfl
    have e2 := hcell' 2 _ rfl
    have e3 := hcell' 3 _ rfl
    simp only [Nat.add_zero] at e0
    have g3 := q3.cell
    have g7 := q7.cell
    have g8 := q8.cell
    have z7 := q7.frozen
    have z8 := q8.frozen
    have hWs : w.heap.size + 4 ≤ W.heap.size := by have := lt_of_cell g8; simp only at this; omega
    have hOw := (Old.refl W).alloc (.cells #[.int .i64 nd.p, .int .i64 nd.tok, .int .i64 nd.fr, .int .i64 nd.to] 79)
    have g3' := hOw.cell_some g3
    have g7' := hOw.cell_some g7
    have g8' := hOw.cell_some g8
    have g6' := hOw.cell_some q6.cell
    have z6' := (hOw.frozen (p := ⟨w.heap.size + 1, 0, none⟩) (by simp only; omega)).trans q6.frozen
    have z7' := (hOw.frozen (p := ⟨w.heap.size + 1 + 1, 0, none⟩) (by simp only; omega)).trans z7
    have z8' := (hOw.frozen (p := ⟨w.heap.size + 1 + 1 + 1, 0, none⟩) (by simp only; omega)).trans z8
    clear hOw
    clear hcell' hcell hk hn hs hrun hfin hb3 hb6 hb7 hb8 hbe hbi k2 k3 hO hx hst hnode hm hl
    have hmix : Tryz.prog.follows Departure.mixedOrders = true := rfl
    have hfin := fun (s' : Int × Bool) (act : Act) (hr : runC l (x0.fr, true) (pre.map Subtype.val ++ [k]) = some s') => fin98 (act := act) hkk q3 q6 q7 q8 hOW h6 hbw (Be := w.heap.size + 1 + 1 + 1 + 1) (Bi := w.heap.size + 1 + 1 + 1 + 1 + 1) (by omega) (by omega) (by omega) (by omega) hr #[.int .i64 nd.p, .int .i64 nd.tok, .int .i64 nd.fr, .int .i64 nd.to] 79
    have hfin : Aside _ := hfin
    clear q3 q6 q7 q8 hOW q0
    by_cases h2 : nd.fr = at'
    · subst h2
      have hst0 : runC l (x0.fr, true) (pre.map Subtype.val ++ [k]) = some (nd.to, decide (0 ≤ nd.p)) := by rw [hstep.out]; simp
      have hst := fun act => hfin.out _ act hst0
      simp only at hst
      have hst : Aside _ := hst
      clear hst0 hfin
      clear hstep
      cases ex
      all_goals gi_wp2
      all_goals gi_region_o
      all_goals gi_wp2
      all_goals exact hst.out _
    · by_cases h3 : nd.fr < at'
      · have hno0 : runC l (x0.fr, true) (pre.map Subtype.val ++ [k]) = none := by rw [hstep.out]; simp [h3]
        have hno : Aside _ := hno0
        clear hno0
        clear hstep hfin
        cases ex
        all_goals gi_wp2
        all_goals exact ⟨(KeepsOthers.alloc W _).trans (KeepsOthers.setCell _ _ _), rfl, by simpa using hno.out⟩
      · cases ex
        · have hst0 : runC l (x0.fr, true) (pre.map Subtype.val ++ [k]) = some (nd.to, decide (0 ≤ nd.p)) := by rw [hstep.out]; simp [h3]
          have hst := fun act => hfin.out _ act hst0
          simp only at hst
          have hst : Aside _ := hst
          clear hst0 hfin
          clear hstep
          gi_wp2
          all_goals gi_region_o
          all_goals gi_wp2
          all_goals exact hst.out _
        · have hno0 : runC l (x0.fr, true) (pre.map Subtype.val ++ [k]) = none := by rw [hstep.out]; simp [h2]
          have hno : Aside _ := hno0
          clear hno0
          clear hstep hfin
          gi_wp2
          all_goals exact ⟨(KeepsOthers.alloc W _).trans (KeepsOthers.setCell _ _ _), rfl, by simpa using hno.out⟩
  case done =>
    rintro D xs W hD rfl ⟨⟨s, hs0, q3, q6, q7, q8⟩, hOW, h6⟩ hK
    have hs0 : runC l (x0.fr, true) ks = some s := by simpa using hs0
    rw [hrun] at hs0
    cases hs0
    obtain ⟨at', ex⟩ := sf
    have k2' := hOW.cell_some k2
    have k3' := hOW.cell_some k3
    have g3 := q3.cell
    have g6 := q6.cell
    have g7 := q7.cell
    have g8 := q8.cell
    have z6 := q6.frozen
    clear hk hn hs hrun hb3 hb6 hb7 hb8 hbe hbi k2 k3 hO hx hst hnode hm hl q3 q7 q8
    have hmix : Tryz.prog.follows Departure.mixedOrders = true := rfl
    cases ex
    · simp only [Bool.false_eq_true, if_false] at hfin
      gi_wp2
      all_goals gi_region_o
      all_goals gi_wp2
      all_goals exact ret98 rfl q6 hOW (by omega) hK
    · simp only [if_true] at hfin
      subst hfin
      gi_wp2
      all_goals gi_region_o
      all_goals gi_wp2
      all_goals exact ret98 rfl q6 hOW (by omega) hK
  case stop =>
    rintro D c pre W _ hpre ⟨_, hnone⟩ _
    have hp2 : pre.map Subtype.val <+: ks := by have := hpre.map Subtype.val; simpa using this
    obtain ⟨s1, hs1⟩ := runC_prefix hrun hp2
    rw [hs1] at hnone
    cases hnone

theorem consistent98 (tv : Value) (l : List Nd) (b m cap i : Nat) (out ks : List Int) (stop : Int) (x0 : Nd) (sf : Int × Bool) (w : World)
    (hs : SliceAt 4 w tv (l.map encN)) (hn : NumsAt w b out) (hl : l.length = m) (hm : out.length = m) (hb : m ≤ 2000000) (hx : l[i]? = some x0) (hst : out[i]? = some stop) (hk : IsKids out stop (i + 1) ks)
    (hrun : runC l (x0.fr, true) ks = some sf) (hfin : if sf.2 then sf.1 = x0.to else sf.1 ≤ x0.to) :
    Calls Tryz.prog 98 #[tv, .slice (some ⟨b, 0, none⟩) m cap, .int .i64 i] w fun e w' => e = .returned (.bool true) ∧ Old w w' :=
  (callsIn_wide (n := 5)).1 (consistent98_in Fence.wide 5 trivial trivial trivial rfl (by omega) tv l b m cap i out ks stop x0 sf w hs hn hl hm hb hx hst hk hrun hfin)
end Go.Pri
end

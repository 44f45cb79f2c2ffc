/-
  PriorityOperators: parts of its proof (Pr12 Pr13 Pr14).
-/
import Derived.Deep.RegionWith
import Derived.Deep.RegionLaw
import Derived.Deep.QuietTactic
import Derived.BigQuiet
import Derived.StillTailTactics
import Derived.Maps.OwnRows
import Derived.Maps.Views
import Derived.Deep.AppendLies
import Derived.Test.YtfadmmecedicjaaGreatDoorK17
set_option linter.unusedVariables false
set_option linter.unusedSimpArgs false

section
/-
  violates, at a child filter: walked.
-/
namespace Go.Pri
open Go Go.Abs Go.Proofs Go.RowKit Go.Lib

theorem KidsAt.old {w w' : World} {b : Nat} {K : List (List Int)} (h : KidsAt w b K) (ho : Old w w') : KidsAt w' b K := fun i ks hi => by
  obtain ⟨v, h1, h2⟩ := h i ks hi
  exact ⟨v, ho.cell_some h1, h2.old ho⟩

set_option maxRecDepth 100000 in
set_option maxHeartbeats 4000000 in
theorem violates38 (tv : Value) (b n cap i : Nat) (K : List (List Int)) (l : List Nd) (ks : List Int) (par at' child k : Int) (x : Nd) (f4 f5 f7 : Value) (f6 : Value) (f8 : Value) (w : World)
    (hk : KidsAt w b K) (hs : SliceAt 4 w tv (l.map encN)) (hi : K[i]? = some ks) (hin : i < n) (hat0 : 0 ≤ at') (hat : ks[at'.toNat]? = some k) (hk0 : 0 ≤ k) (hx : l[k.toNat]? = some x) :
    Calls Tryz.prog 38 #[.slice (some ⟨b, 0, none⟩) n cap, tv, .int .i64 i, .agg #[.int .i64 1, .int .i64 par, .int .i64 at', .int .i64 child, f4, f5, f6, f7, f8]] w fun e w' =>
      e = .returned (.bool (x.p == child)) ∧ Old w w' := by
  obtain ⟨v, hv, hv2⟩ := hk i ks hi
  obtain ⟨ba, oa, ca, rfl, hca⟩ := hv2.at (j := at'.toNat) (c := [.int .i64 k]) (by simp [hat])
  have c0 := hca 0 _ rfl
  obtain ⟨bt, off, capt, rfl, hct⟩ := hs.at (j := k.toNat) (c := encN x) (by simp [hx])
  have t0 := hct 0 _ rfl
  simp only [List.length_map, Nat.mul_one, Nat.add_zero] at c0 t0 hv hs ⊢
  have hin' : (i : Int) < n := by omega
  have hal : at' < ks.length := by have := (List.getElem?_eq_some_iff.1 hat).1; omega
  have hkl : k < l.length := by have := (List.getElem?_eq_some_iff.1 hx).1; omega
  have hO : Old w ((w.alloc (.cells #[.slice (some ⟨bt, off, none⟩) l.length capt] 42)).alloc (.cells #[.int .i64 1, .int .i64 par, .int .i64 at', .int .i64 child, f4, f5, f6, f7, f8] 59)) := ((Old.refl w).alloc _).alloc _
  have hv' := hO.cell_some hv
  have c0' := hO.cell_some c0
  have t0' := hO.cell_some t0
  have hmix : Tryz.prog.follows Departure.mixedOrders = true := rfl
  clear hk hs hi hat hx hca hct hv2
  go_enter Tryz.func38, Tryz.ntmps38
  go_wp2
  go_region
  go_wp2
  go_region
  go_wp2
  go_ret
  exact ⟨rfl, hO.drew.drew⟩
end Go.Pri
end

section
/-
  The sort of violations of one step: nothing is moved.
-/
namespace Go.Pri
open Go Go.Abs Go.Proofs Go.RowKit Go.Lib

/-- A violation: its node, its rule; the step is 1. -/
def encV (x : Nat × Int) : List Value := [.int .i64 1, .int .i64 x.1, .int .i64 x.2]

set_option maxHeartbeats 1000000 in
theorem cmp40 (n1 n2 r1 r2 : Int) (w : World) : Calls Tryz.prog 40 #[.agg #[.int .i64 1, .int .i64 n1, .int .i64 r1], .agg #[.int .i64 1, .int .i64 n2, .int .i64 r2]] w fun e w' => e = .returned (.int .i64 0) ∧ Old w w' := by
  go_enter Tryz.func40, Tryz.ntmps40
  go_wp2
  go_ret
  exact ⟨rfl, ((Old.refl w).alloc _).alloc _⟩

set_option maxRecDepth 100000 in
set_option maxHeartbeats 4000000 in
theorem insert102 (v : Value) (V : List (Nat × Int)) (m : Nat) (w : World) (hs : SliceAt 3 w v (V.map encV)) (hm : V.length = m) (hm2 : m < 20) :
    Calls Tryz.prog 102 #[v, .int .i64 0, .int .i64 m, .func (.func 40) #[] #[]] w fun e w' => (∃ u, e = .returned u) ∧ Old w w' := by
  obtain ⟨a, c, rfl⟩ := hs.form
  simp only [List.length_map, hm] at hs ⊢
  replace hs : Aside _ := hs
  go_enter Tryz.func102, Tryz.ntmps102
  go_wp2
  go_loopg [8] (m + 1) (fun gg s wr => ∃ i : Nat, 1 ≤ i ∧ m + 1 - i ≤ gg ∧ i ≤ m + 1 ∧ s = .int .i64 i ∧ Aside (Old w wr))
  case atStart => exact ⟨1, by omega, by omega, by omega, by go_num, Old.refl w⟩
  case round =>
    obtain ⟨i, hi1, hig, him, rfl, hO⟩ := hrel
    by_cases hlt : i < m
    · have hlt' : (i : Int) < m := by omega
      obtain ⟨⟨n1, r1⟩, hx1⟩ : ∃ x, V[i]? = some x := ⟨_, List.getElem?_eq_getElem (by omega)⟩
      obtain ⟨⟨n0, r0⟩, hx0⟩ : ∃ x, V[i - 1]? = some x := ⟨_, List.getElem?_eq_getElem (by omega)⟩
      obtain ⟨b, off, cap, hv, hc1⟩ := (SliceAt.old (w := w) hs.out hO.out).at (j := i) (c := encV (n1, r1)) (by simp [hx1])
      obtain ⟨b', off', cap', hv', hc0⟩ := (SliceAt.old (w := w) hs.out hO.out).at (j := i - 1) (c := encV (n0, r0)) (by simp [hx0])
      simp only [List.length_map, hm] at hv hv'
      cases hv
      cases hv'
      have d0 := hc1 0 _ rfl
      have d1 := hc1 1 _ rfl
      have d2 := hc1 2 _ rfl
      have p0 := hc0 0 _ rfl
      have p1 := hc0 1 _ rfl
      have p2 := hc0 2 _ rfl
      simp only [Nat.add_zero] at d0 p0
      have hw1 : IntKind.i64.wrap ((i : Int) - 1) = ((i - 1 : Nat) : Int) := by
        have : (i : Int) - 1 = ((i - 1 : Nat) : Int) := by omega
        rw [this]
        exact IntWalk.i64_in _ (by omega)
      have hmix : Tryz.prog.follows Departure.mixedOrders = true := rfl
      have hcmp := fun W => cmp40 n1 n0 r1 r0 W
      replace hcmp : Aside _ := hcmp
      clear hc1 hc0 hx1 hx0
      go_wp2
      go_loopg [9] 1 (fun gg s wr2 => s = .int .i64 (i : Int) ∧ Aside (wr2 = wr))
      case atStart => exact ⟨by go_num, rfl⟩
      case round =>
        obtain ⟨rfl, hww⟩ := hrel
        have hww := hww.out
        subst hww
        have hj : (0 : Int) < (i : Int) := by omega
        have hlt2 : ((i - 1 : Nat) : Int) < m := by omega
        have hge2 : (0 : Int) ≤ ((i - 1 : Nat) : Int) := by omega
        generalize hi1' : i - 1 = i1 at *
        go_wp2
        have hj0 : 0 < i := by omega
        go_still_tail 14, (by kernel_rfl)
        change wpList _ _ _ _ _ wr.drew
        have hO3 : Old w wr.drew := hO.out.drew
        replace hO3 : Aside _ := hO3
        go_wp2_with (go_at_call 40; refine Calls.mono (hcmp.out _) ?_; rintro e w3 ⟨rfl, hk3⟩)
        go_roundg (m - i)
        case measure => omega
        case rel => exact ⟨i + 1, by omega, by omega, by omega, by go_num, hO3.out.trans hk3⟩
    · have hlt' : (m : Int) ≤ i := by omega
      replace hO : Aside _ := hO
      clear hs
      go_wp2
      go_end0
      exact ⟨⟨_, rfl⟩, hO.out⟩

set_option maxRecDepth 100000 in
set_option maxHeartbeats 4000000 in
theorem stable64 (v : Value) (V : List (Nat × Int)) (m : Nat) (w : World) (hs : SliceAt 3 w v (V.map encV)) (hm : V.length = m) (hm2 : m < 20) :
    Calls Tryz.prog 64 #[v, .int .i64 m, .func (.func 40) #[] #[]] w fun e w' => (∃ u, e = .returned u) ∧ Old w w' := by
  have hc := insert102 v V m w hs hm hm2
  replace hc : Aside _ := hc
  obtain ⟨a, c, rfl⟩ := hs.form
  simp only [List.length_map, hm] at hc ⊢
  have h20 : ¬ (20 : Int) ≤ m := by omega
  have h20' : ¬ (20 : Int) < m := by omega
  clear hs
  go_enter Tryz.func64, Tryz.ntmps64
  go_wp2
  go_loopg [7, 8] 1 (fun gg s7 s8 wr => s7 = .int .i64 0 ∧ s8 = .int .i64 20 ∧ Aside (wr = w))
  case atStart => exact ⟨rfl, rfl, rfl⟩
  case round =>
    obtain ⟨rfl, rfl, hw⟩ := hrel
    have hw := hw.out
    subst hw
    go_wp2_with (go_at_call 102; refine Calls.mono hc.out ?_; rintro e w2 ⟨⟨u, rfl⟩, hk2⟩)
    go_loopg [6] 1 (fun gg s6 wr2 => s6 = .int .i64 20 ∧ Aside (Old wr wr2))
    case atStart => exact ⟨rfl, hk2⟩
    case round =>
      obtain ⟨rfl, hO⟩ := hrel
      clear hc hk2
      go_wp2
      go_end0
      exact ⟨⟨_, rfl⟩, hO.out⟩

set_option maxRecDepth 100000 in
set_option maxHeartbeats 4000000 in
/-- slices.SortStableFunc of fewer than twenty violations of one step. -/
theorem sort39 (v : Value) (V : List (Nat × Int)) (m : Nat) (w : World) (hs : SliceAt 3 w v (V.map encV)) (hm : V.length = m) (hm2 : m < 20) :
    Calls Tryz.prog 39 #[v, .func (.func 40) #[] #[]] w fun e w' => (∃ u, e = .returned u) ∧ Old w w' := by
  have hc := stable64 v V m w hs hm hm2
  replace hc : Aside _ := hc
  obtain ⟨a, c, rfl⟩ := hs.form
  simp only [List.length_map, hm] at hc ⊢
  clear hs
  go_enter Tryz.func39, Tryz.ntmps39
  go_wp2_with (go_at_call 64; refine Calls.mono hc.out ?_; rintro e w2 ⟨⟨u, rfl⟩, hk2⟩)
  go_end0
  exact ⟨⟨_, rfl⟩, hk2⟩
end Go.Pri
end

section
/-
  The conflicts of each production in a map; a step of the draw that fills it.
-/
namespace Go.Pri
open Go Go.Abs Go.Proofs Go.RowKit Go.Lib Go.Maps Go.ChangeShapes Go.ChangeMaps

/-- A child filter. -/
structure Fil where
  par : Int
  pos : Int
  child : Int
def encF (f : Fil) : List Value := [.int .i64 1, .int .i64 f.par, .int .i64 f.pos, .int .i64 f.child, .int .i64 0, .int .i64 0, .slice none 0 0, .slice none 0 0, .int .i64 1]

/-- The numbers of the filters of a production, of the first k. -/
def rulesTo (F : List Fil) : Nat → Int → List Int
  | 0, _ => []
  | k + 1, p => match F[k]? with
    | none => rulesTo F k p
    | some f => if f.par = p then rulesTo F k p ++ [(k : Int)] else rulesTo F k p
theorem rulesTo_len (F : List Fil) : ∀ (k : Nat) (p : Int), (rulesTo F k p).length ≤ k
  | 0, _ => Nat.le_refl _
  | k + 1, p => by
    simp only [rulesTo]
    have := rulesTo_len F k p
    split
    · omega
    · split
      · simp; omega
      · omega

abbrev DatU : Type := DataW Unit
def RulesOK (D : DatU) (R : Int → List Int) : Prop :=
  IsMap D ∧ ∀ p, (Lit.int .i64 p).wf = true → D.atKey (.int .i64 p) .nil = if R p = [] then .nil else .slice (lits .i64 (R p)) []
theorem rules_init : RulesOK (.map []) (fun _ => []) := ⟨isMap_empty, fun p _ => by simp [DataW.atKey]⟩
theorem lits_inj {x y : List Int} (h : (lits .i64 x : List DatU) = lits .i64 y) : x = y := by
  exact (List.map_inj_right (fun a b hab => by cases hab; rfl)).1 h
theorem RulesOK.look {D : DatU} {R : Int → List Int} (h : RulesOK D R) {p : Int} (hp : (Lit.int .i64 p).wf = true) {w : World} {base : Nat} {v : Value} {zs : List Int} (hat : D.atKey (.int .i64 p) .nil = rowDatum .i64 v zs) (ho : w.ownsInts base 3 .i64 v zs) : zs = R p := by
  rw [h.2 p hp] at hat
  rcases ho.datum (H := Unit) with ⟨h1, h2⟩ | h1
  · rw [h1] at hat
    by_cases hr : R p = []
    · rw [hr, h2]
    · rw [if_neg hr] at hat; cases hat
  · rw [h1] at hat
    by_cases hr : R p = []
    · rw [if_pos hr] at hat; cases hat
    · rw [if_neg hr] at hat
      injection hat with h3 _
      exact (lits_inj h3).symm
theorem RulesOK.put {D : DatU} {R : Int → List Int} (h : RulesOK D R) {p : Int} {w : World} {base : Nat} {v : Value} {k : Int} (ho : w.ownsInts base 3 .i64 v (R p ++ [k])) :
    RulesOK (D.put (.int .i64 p) (rowDatum .i64 v (R p ++ [k]))) (fun q => if q = p then R p ++ [k] else R q) := by
  refine ⟨h.1.put _ _, fun q hq => ?_⟩
  by_cases e : q = p
  · subst e
    simp only [if_true]
    rw [if_neg (by simp), atKey_put_same h.1 (show WideAt.IsKeyLit (.int .i64 q) from trivial), ho.datum_pos (by simp)]
  · simp only [if_neg e]
    rw [atKey_put_other (by intro e2; cases e2; exact e rfl)]
    exact h.2 q hq


theorem ints_old {w W : World} {base : Nat} {v : Value} {zs : List Int} (h : w.ownsInts base 3 .i64 v zs) (ho : Old w W) : W.ownsInts base 3 .i64 v zs := ⟨own_old h.1 ho, h.2⟩
/-- A map of rows stays where new blocks alone are laid. -/
theorem groups_old {w W : World} {M base n : Nat} {D : DatU} (h : w.ownsGroups Tryz.prog 3 base 3 .i64 M n D) (ho : Old w W) : W.ownsGroups Tryz.prog 3 base 3 .i64 M n D := by
  obtain ⟨es, clock, hb, F, hs, hD, hbb, hlen, hap⟩ := h
  obtain ⟨F2, hmap, _⟩ := F.stay (R' := rowElem W base 3 .i64) (fun x _ z hz => by obtain ⟨zs, o, rfl⟩ := rowElem_inv hz; exact rowElem_mk (ints_old o ho))
  refine ⟨es, clock, (ho.heap M (Array.getElem?_eq_some_iff.1 hb).1).trans hb, F2, hs, by rw [hmap]; exact hD, hbb, fun x hx zs h2 => ?_, hap⟩
  obtain ⟨y, hy⟩ := F.reads x hx
  obtain ⟨z, hz, _⟩ := WideElems.rd_val hy
  obtain ⟨zs0, ho0, _⟩ := rowElem_inv hz
  rw [h2.unique (ints_old ho0 ho)]
  exact hlen x hx zs0 ho0

/-- A number put behind a row of numbers, at a step of a draw. -/
theorem step3 {ops : Array Oper} {o : Oper} {a : Act} {K : Act → World → Prop} {Q : Exit → Act → World → Prop} {E : Prop} (s x : Operand) (W : World) (base : Nat) (v : Value) (zs : List Int) (k : Int) (b : Nat)
    (hgd : o.guard = none) (ho : o.op = .call { callee := .builtin .append, args := #[s, x], argTypes := #[39, 39] })
    (hown : W.ownsInts base 3 .i64 v zs) (hb : base ≤ W.heap.size) (hn : zs.length ≤ 2000000)
    (hs : a.eval s = v) (hx : a.eval x = .slice (some ⟨b, 0, none⟩) 1 1) (m0 : W.cell? ⟨b, 0, none⟩ = some (.int .i64 k)) (hk : (Lit.int .i64 k).wf = true)
    (h : ∀ g cap w', w'.ownsInts base 3 .i64 (.slice (some ⟨g, 0, none⟩) (zs.length + 1) cap) (zs ++ [k]) → W.grownBy w' v.ownBlock → (v.ownBlock = some g ∨ g = W.heap.size) → K (a.put o.dst (.slice (some ⟨g, 0, none⟩) (zs.length + 1) cap)) w') :
    if Region.wanted o (yielded ops a.tmps) = true then Oper.wp Tryz.prog o a W K Q else E := by
  obtain ⟨i6, hi6, hz6, hs6, hb6⟩ := info_parts info3
  refine step_append_lies _ hgd s x 39 ho base 3 i6 (.int .i64 0) 1 8 Tryz.underlying39 hi6 hz6 hs6 hb6 rfl (by decide) v zs.length (zs.map (Value.int .i64)) hs hown.1 ⟨b, 0, none⟩ 1 1 [.int .i64 k] hx rfl ?_ ?_ (by decide) ?_ ?_ hb _ rfl ?_
  · intro j u hj
    match j, hj with
    | 0, hj => simp at hj; subst hj; simpa [Addr.add] using m0
    | j + 1, hj => simp at hj
  · intro u hu
    simp at hu
    subst hu
    rfl
  · unfold maxLen; omega
  · omega
  · intro g cap w' h1 h2 h3 _
    exact h g cap w' (hown.appended h1 hk) h2 h3

theorem wf_nat {k : Nat} (h : k ≤ 2000000) : (Lit.int .i64 (k : Int)).wf = true := by
  have h1 := RowKit.wrap64_wf (k : Int)
  rwa [show wrap64 (k : Int) = k from by simp only [wrap64]; omega] at h1

/-- The map behind a round. -/
theorem rules_step {F : List Fil} {kk : Nat} {f : Fil} {D : DatU} {w4 W W2 w6 : World} {M n : Nat} {v v' : Value} {zs : List Int} (hf : F[kk]? = some f) (hR : RulesOK D (rulesTo F kk)) (hwp : (Lit.int .i64 f.par).wf = true)
    (hb : W.groupBack Tryz.prog 104 3 (M + 1) 3 .i64 M n D (.int .i64 f.par) (.int .i64 f.par) v) (hat : D.atKey (.int .i64 f.par) .nil = rowDatum .i64 v zs) (ho : W.ownsInts (M + 1) 3 .i64 v zs) (hzn : zs.length ≤ n)
    (hW : Old w4 W) (hM : M = w4.heap.size) (hW2 : Old W W2) (hg6 : W2.grownBy w6 v.ownBlock) (ho6 : w6.ownsInts (M + 1) 3 .i64 v' (zs ++ [(kk : Int)])) (hloc : v'.ownBlock = v.ownBlock ∨ ∃ g, v'.ownBlock = some g ∧ W.heap.size ≤ g) (hgw : W.grownBy w6 v.ownBlock) :
    ∃ w7, (Instr.mapUpdate 104 (.map (some M)) (.int .i64 f.par) v').run Tryz.prog w6 = .ok () w7 ∧ (∃ D' : DatU, RulesOK D' (rulesTo F (kk + 1)) ∧ w7.ownsGroups Tryz.prog 3 (M + 1) 3 .i64 M (n + 1) D') ∧ Old w4 w7 := by
  subst hM
  obtain ⟨w7, h1, h2, h3⟩ := hb w6 v' (zs ++ [(kk : Int)]) hgw ho6 (by simp; omega) hloc
  have hz := hR.look hwp hat ho
  subst hz
  refine ⟨w7, h1, ⟨_, ?_, h2⟩, ?_⟩
  · have h4 := hR.put ho6
    have e : (fun q => if q = f.par then rulesTo F kk f.par ++ [(kk : Int)] else rulesTo F kk q) = rulesTo F (kk + 1) := by
      funext q
      simp only [rulesTo, hf]
      by_cases e : q = f.par
      · rw [if_pos e, e, if_pos rfl]
      · rw [if_neg e, if_neg (fun e2 => e e2.symm)]
    rw [e] at h4
    exact h4
  · refine (((hW.trans hW2).grown hg6 (fun k hk => ?_)).grown h3 (fun k hk => by cases hk; exact Nat.le_refl _))
    have := (ho.1.lt k hk).1
    omega

/-- A block of another element type is no owner's row. -/
theorem not_row {W : World} {B : Nat} {c : Array Value} {t e : TypeId} {fz : Nat × Nat} (h : W.heap[B]? = some (.cells c t fz)) (hte : t ≠ e) {base size k : Nat} {v : Value} {xs : List Value} (hr : W.ownsRow base e size v k xs) : some B ≠ v.ownBlock := by
  rcases hr.2 with ⟨rfl, _⟩ | ⟨g, cap, cur, rfl, _, hg, _⟩
  · simp [Value.ownBlock]
  · intro e'
    simp only [Value.ownBlock, Option.some.injEq] at e'
    subst e'
    rw [h] at hg
    cases hg
    exact hte rfl

theorem info61 : (Tryz.prog.info? 61).map (fun i => (i.zero, i.size, i.bytes)) = some (some (.agg #[.int .i64 0, .int .i64 0, .int .i64 0]), 3, 24) := by kernel_rfl

def cellsV (V : List (Nat × Int)) : List Value := V.flatMap encV
theorem cellsV_len (V : List (Nat × Int)) : (cellsV V).length = V.length * 3 := by
  induction V with
  | nil => rfl
  | cons a V ih => simp [cellsV, encV] at ih ⊢; omega
theorem cellsV_snoc (V : List (Nat × Int)) (x : Nat × Int) : cellsV (V ++ [x]) = cellsV V ++ encV x := by simp [cellsV]
theorem cellsV_at : ∀ (V : List (Nat × Int)) (j : Nat) (x : Nat × Int) (i : Nat) (u : Value), V[j]? = some x → (encV x)[i]? = some u → (cellsV V)[j * 3 + i]? = some u
  | [], j, x, i, u, h, _ => by cases h
  | y :: V, 0, x, i, u, h, h2 => by
    simp only [List.getElem?_cons_zero, Option.some.injEq] at h
    subst h
    have hi : i < (encV y).length := (List.getElem?_eq_some_iff.1 h2).1
    simp only [Nat.zero_mul, Nat.zero_add, cellsV, List.flatMap_cons]
    rw [List.getElem?_append_left hi]
    exact h2
  | y :: V, j + 1, x, i, u, h, h2 => by
    have ih := cellsV_at V j x i u (by simpa using h) h2
    simp only [cellsV, List.flatMap_cons]
    rw [List.getElem?_append_right (by simp [encV]; omega)]
    have e : (j + 1) * 3 + i - (encV y).length = j * 3 + i := by simp [encV]; omega
    rw [e]
    exact ih
/-- A row of violations is a slice of them. -/
theorem own_viols {w : World} {base : Nat} {v : Value} {V : List (Nat × Int)} (h : w.ownsRow base 61 3 v V.length (cellsV V)) : SliceAt 3 w v (V.map encV) := by
  rcases Nat.eq_zero_or_pos V.length with h0 | h0
  · have e : V = [] := List.eq_nil_of_length_eq_zero h0
    obtain ⟨a, c, hv⟩ := own_form h
    exact .inl ⟨by rw [e]; rfl, a, c, by rw [hv, h0]⟩
  · obtain ⟨g, cap, rfl, _, _⟩ := own_some h h0
    refine .inr ⟨g, 0, cap, by simp, by simpa using own_cap h, fun j c hj i u hu => ?_⟩
    rw [List.getElem?_map, Option.map_eq_some_iff] at hj
    obtain ⟨x, hx, rfl⟩ := hj
    have hjl := (List.getElem?_eq_some_iff.1 hx).1
    have hi : i < 3 := by have := (List.getElem?_eq_some_iff.1 hu).1; simpa [encV] using this
    have h1 := h.cellAt (j * 3 + i) (by omega)
    rw [cellsV_at V j x i u hx hu] at h1
    simpa using h1

/-- A violation put behind the others. -/
theorem pushV {ops : Array Oper} {rest : List Oper} {o : Oper} {a : Act} {Q : Exit → Act → World → Prop} (s x : Operand) (W : World) (base : Nat) (v : Value) (V : List (Nat × Int)) (i : Nat) (k : Int) (b : Nat)
    (hgd : o.guard = none) (ho : o.op = .call { callee := .builtin .append, args := #[s, x], argTypes := #[55, 55] })
    (hown : W.ownsRow base 61 3 v V.length (cellsV V)) (hb : base ≤ W.heap.size) (hn : V.length ≤ 2000000)
    (hs : a.eval s = v) (hx : a.eval x = .slice (some ⟨b, 0, none⟩) 1 1) (m0 : W.cell? ⟨b, 0, none⟩ = some (.int .i64 1)) (m1 : W.cell? ⟨b, 1, none⟩ = some (.int .i64 i)) (m2 : W.cell? ⟨b, 2, none⟩ = some (.int .i64 k))
    (h : ∀ v' w', w'.ownsRow base 61 3 v' (V ++ [(i, k)]).length (cellsV (V ++ [(i, k)])) → W.grownBy w' v.ownBlock → wpList Tryz.prog ops Q rest (a.put o.dst v') w') : wpList Tryz.prog ops Q (o :: rest) a W := by
  obtain ⟨i6, hi6, hz6, hs6, hb6⟩ := info_parts info61
  refine wpList_append_own _ hgd s x 55 ho base 61 i6 (.agg #[.int .i64 0, .int .i64 0, .int .i64 0]) 3 24 Tryz.underlying55 hi6 hz6 hs6 hb6 rfl (by decide) v V.length (cellsV V) hs hown ⟨b, 0, none⟩ 1 1 (encV (i, k)) hx rfl ?_ ?_ ?_ ?_ hb ?_
  · intro j u hj
    match j, hj with
    | 0, hj => simp [encV] at hj; subst hj; simpa [Addr.add] using m0
    | 1, hj => simp [encV] at hj; subst hj; simpa [Addr.add] using m1
    | 2, hj => simp [encV] at hj; subst hj; simpa [Addr.add] using m2
    | j + 3, hj => simp [encV] at hj
  · intro u hu
    simp [encV] at hu
    rcases hu with rfl | rfl | rfl <;> rfl
  · unfold maxLen; omega
  · omega
  · intro v' w' h1 h2 _
    exact h v' w' (by rw [cellsV_snoc]; simpa using h1) h2

/-- Whether a node violates a filter. -/
def vio (l : List Nd) (K : List (List Int)) (F : List Fil) (i : Nat) (k : Int) : Bool :=
  match F[k.toNat]? with
  | none => false
  | some f => match K[i]? with
    | none => false
    | some ks => match ks[f.pos.toNat]? with
      | none => false
      | some c => match l[c.toNat]? with
        | none => false
        | some y => y.p == f.child
def violAt (l : List Nd) (K : List (List Int)) (F : List Fil) (i : Nat) (zs : List Int) : List (Nat × Int) := (zs.filter fun k => vio l K F i k).map fun k => (i, k)
def violTo (l : List Nd) (K : List (List Int)) (F : List Fil) : Nat → List (Nat × Int)
  | 0 => []
  | i + 1 => match l[i]? with
    | none => violTo l K F i
    | some x => violTo l K F i ++ violAt l K F i (rulesTo F F.length x.p)
theorem rulesTo_mem {F : List Fil} : ∀ {n : Nat} {p k : Int}, k ∈ rulesTo F n p → 0 ≤ k ∧ k < n ∧ ∃ f, F[k.toNat]? = some f ∧ f.par = p
  | 0, p, k, h => by cases h
  | n + 1, p, k, h => by
    simp only [rulesTo] at h
    split at h
    · obtain ⟨h1, h2, h3⟩ := rulesTo_mem h
      exact ⟨h1, by omega, h3⟩
    · rename_i f hf
      split at h
      · rename_i hp
        rcases List.mem_append.1 h with h | h
        · obtain ⟨h1, h2, h3⟩ := rulesTo_mem h
          exact ⟨h1, by omega, h3⟩
        · rw [List.mem_singleton.1 h]
          exact ⟨by omega, by omega, f, by simpa using hf, hp⟩
      · obtain ⟨h1, h2, h3⟩ := rulesTo_mem h
        exact ⟨h1, by omega, h3⟩
/-- A number of a row that is owned. -/
theorem int_at {W : World} {base : Nat} {v : Value} {zs : List Int} (h : W.ownsInts base 3 .i64 v zs) {j : Nat} {z : Int} (hj : zs[j]? = some z) : ∃ g cap, v = .slice (some ⟨g, 0, none⟩) zs.length cap ∧ W.cell? ⟨g, j, none⟩ = some (.int .i64 z) := by
  have hl := (List.getElem?_eq_some_iff.1 hj).1
  obtain ⟨g, cap, rfl, _, _⟩ := own_some h.1 (by omega)
  refine ⟨g, cap, rfl, ?_⟩
  have := h.1.cellAt j (by omega)
  rw [List.getElem?_map, hj] at this
  exact this
/-- Rows of numbers and rows of violations lie apart. -/
theorem rows_apart {W : World} {base base' size k : Nat} {v u : Value} {zs : List Int} {xs : List Value} (h : W.ownsInts base 3 .i64 v zs) (h2 : W.ownsRow base' 61 size u k xs) : v.ownBlock = none ∨ v.ownBlock ≠ u.ownBlock := by
  rcases h.1.2 with ⟨rfl, _⟩ | ⟨g, cap, cur, rfl, _, hg, _⟩
  · exact .inl rfl
  · exact .inr (not_row hg (by decide) h2)

theorem violAt_snoc {l : List Nd} {K : List (List Int)} {F : List Fil} {i : Nat} {zs : List Int} {j : Nat} {k : Int} (h : zs[j]? = some k) :
    violAt l K F i (zs.take (j + 1)) = violAt l K F i (zs.take j) ++ if vio l K F i k then [(i, k)] else [] := by
  rw [List.take_add_one, h]
  simp only [Option.toList_some, violAt, List.filter_append, List.map_append]
  by_cases hv : vio l K F i k = true
  · simp [hv]
  · simp [hv]

theorem violTo_le (l : List Nd) (K : List (List Int)) (F : List Fil) (i : Nat) : ∀ n, i ≤ n → (violTo l K F i).length ≤ (violTo l K F n).length
  | 0, h => by rw [show i = 0 by omega]; exact Nat.le_refl _
  | n + 1, h => by
    rcases Nat.lt_or_ge n i with h1 | h1
    · rw [show i = n + 1 by omega]; exact Nat.le_refl _
    · have := violTo_le l K F i n h1
      simp only [violTo]
      split
      · exact this
      · simp; omega
theorem violAt_le (l : List Nd) (K : List (List Int)) (F : List Fil) (i : Nat) (zs : List Int) (j : Nat) : (violAt l K F i (zs.take j)).length ≤ (violAt l K F i zs).length := by
  simp only [violAt, List.length_map]
  exact ((List.take_sublist j zs).filter _).length_le
end Go.Pri
end

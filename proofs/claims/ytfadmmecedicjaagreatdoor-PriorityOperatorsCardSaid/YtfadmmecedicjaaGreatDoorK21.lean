/-
  PriorityOperators: parts of its proof (Pr20).
-/
import Derived.StillTailTactics
import Derived.BigQuiet
import Derived.Deep.QuietTactic
import Derived.Test.YtfadmmecedicjaaGreatDoorK20
set_option linter.unusedVariables false
set_option linter.unusedSimpArgs false

section
/-
  The collector's compete, of operators: walked.
-/
namespace Go.Pri
open Go Go.Abs Go.Proofs Go.RowKit Go.Lib Go.Maps

/-- The rules in the collector's map. -/
def SetsAt (w : World) (M : Nat) (L : List Fil) : Prop := ∃ D : DatU, w.ownsMap Tryz.prog 95 R31 M L.length D ∧ IsMap D ∧ (∀ f kl, f.wf → keyOf Tryz.prog 95 (ruleV f) = some kl → (Maps.has D kl = true ↔ f ∈ L)) ∧
  ∀ kl, Maps.has D kl = true → (∃ f ∈ L, f.wf ∧ keyOf Tryz.prog 95 (ruleV f) = some kl) ∧ ∀ z, D.atKey kl z = .lit (.bool true)
theorem SetsAt.old {w W : World} {M : Nat} {L : List Fil} (h : SetsAt w M L) (ho : Old w W) : SetsAt W M L := by
  obtain ⟨D, h1, h2⟩ := h
  exact ⟨D, map_old h1 ho, h2⟩
theorem ruleV_inj {f f' : Fil} (h : ruleV f = ruleV f') : f = f' := by
  obtain ⟨a, b, c⟩ := f
  obtain ⟨a', b', c'⟩ := f'
  simp only [ruleV, Value.agg.injEq, Array.mk.injEq, List.cons.injEq, Value.int.injEq, true_and, and_true] at h
  obtain ⟨rfl, rfl, rfl⟩ := h
  rfl

theorem add28s (C M : Nat) (g : List Value) (f : Fil) (L : List Fil) (w : World) (htab : TabAt w) (hM0 : M ≠ 0) (hc : CollAt w C M g) (hg1 : g[1]? = some (.slice none 0 0)) (hg2 : g[2]? = some (.int .i64 1))
    (hs : SetsAt w M L) (hn : L.length ≤ 5000) (hf : f.wf) (hnew : f ∉ L) :
    Calls Tryz.prog 28 #[.pointer (some ⟨C, 0, none⟩), .agg #[.int .i64 1, .int .i64 f.par, .int .i64 f.pos, .int .i64 f.child], .agg #[.slice none 0 0, .int .i64 1]] w fun e w' =>
      (∃ u, e = .returned u) ∧ SetsAt w' M (L ++ [f]) ∧ OldBut M w w' := by
  obtain ⟨D, h1, h2, h3, h4⟩ := hs
  obtain ⟨kl, hk⟩ := key95 hf
  have hno : Maps.has D kl = false := by
    cases hh : Maps.has D kl with
    | false => rfl
    | true => exact absurd ((h3 f kl hf hk).1 hh) hnew
  refine Calls.mono (add28 C M L.length g f kl D w htab hM0 hc hg1 hg2 h1 hn hk hno) ?_
  rintro e w' ⟨hu, hm, ho⟩
  have hkey : WideAt.IsKeyLit kl := keyed95.key hk
  refine ⟨hu, ⟨_, by simpa using hm, h2.put _ _, fun f' kl' hf' hk' => ?_, fun kl' hh => ?_⟩, ho⟩
  rotate_left
  · by_cases e : kl' = kl
    · subst e
      exact ⟨⟨f, by simp, hf, hk⟩, fun z => atKey_put_same h2 hkey _ _⟩
    · rw [has_put_other e] at hh
      obtain ⟨⟨f', hf1, hf2, hf3⟩, h5⟩ := h4 kl' hh
      exact ⟨⟨f', by simp [hf1], hf2, hf3⟩, fun z => by rw [atKey_put_other e]; exact h5 z⟩
  by_cases e : kl' = kl
  · subst e
    have : f' = f := ruleV_inj (keyed95.inj hk' hk)
    subst this
    rw [has_put_same h2 hkey]
    simp
  · rw [has_put_other e, h3 f' kl' hf' hk']
    have : f' ≠ f := fun e2 => by subst e2; rw [hk] at hk'; cases hk'; exact e rfl
    simp [this]

set_option maxHeartbeats 1000000 in
theorem open80 (b : Bool) (i : Int) (w : World) : Calls Tryz.prog 80 #[.agg #[.bool b, .int .i64 i]] w fun e w' => e = .returned (.bool (!b)) ∧ Old w w' := by
  go_enter Tryz.func80, Tryz.ntmps80
  go_wp2
  go_ret
  exact ⟨rfl, (Old.refl w).alloc _⟩

theorem OldBut.oldOf {M : Nat} {a w W : World} (h : Old a w) (hM : a.heap.size ≤ M) (ho : OldBut M w W) : Old a W :=
  ⟨ho.os.trans h.os, ho.output.trans h.output, Nat.le_trans h.size ho.size, fun k hk => (ho.heap k (Nat.lt_of_lt_of_le hk h.size) (by omega)).trans (h.heap k hk)⟩

theorem TabAt.but {M : Nat} {w W : World} (h : TabAt w) (hM : M ≠ 0) (ho : OldBut M w W) : TabAt W := by
  obtain ⟨el, fz, h1⟩ := h
  exact ⟨el, fz, (ho.heap 0 (Array.getElem?_eq_some_iff.1 h1).1 (fun e => hM e.symm)).trans h1⟩

/-- A binary operator's production. -/
def IsOp (ps : List Prod') (p : Nat) : Prop := ∃ tok : Int, ps[p]? = some (0, [(false, 0), (true, tok), (false, 0)])
/-- The rules that two operators give. -/
def newOf (p q : Nat) (first last : Bool) : List Fil := (if first then [⟨p, 0, q⟩] else []) ++ (if last then [⟨p, 2, q⟩] else [])

/-- What is read of an operator. -/
structure OpCells (W : World) (b5 off5 p bp op cp : Nat) (tok : Int) : Prop where
  left : W.cell? ⟨b5, off5 + p * 13 + 1, none⟩ = some (.int .i64 0)
  right : W.cell? ⟨b5, off5 + p * 13 + 2, none⟩ = some (.slice (some ⟨bp, op, none⟩) 3 cp)
  r0 : W.cell? ⟨bp, op, none⟩ = some (.bool false)
  r1 : W.cell? ⟨bp, op + 1, none⟩ = some (.int .i64 0)
  r4 : W.cell? ⟨bp, op + 4, none⟩ = some (.bool false)
  r5 : W.cell? ⟨bp, op + 5, none⟩ = some (.int .i64 0)
theorem OpCells.old {W W' : World} {b5 off5 p bp op cp : Nat} {tok : Int} (h : OpCells W b5 off5 p bp op cp tok) (ho : Old W W') : OpCells W' b5 off5 p bp op cp tok :=
  ⟨ho.cell_some h.left, ho.cell_some h.right, ho.cell_some h.r0, ho.cell_some h.r1, ho.cell_some h.r4, ho.cell_some h.r5⟩
theorem opCells {w : World} {c3 c5 : Value} {nt : Nat} {ps : List Prod'} (hg : GramAt w c3 c5 nt ps) {p : Nat} (hp : IsOp ps p) :
    ∃ b5 off5 cap5 bp op cp tok, c5 = .slice (some ⟨b5, off5, none⟩) ps.length cap5 ∧ p < ps.length ∧ OpCells w b5 off5 p bp op cp tok := by
  obtain ⟨tok, hp⟩ := hp
  obtain ⟨cs, h1, h2, h3⟩ := hg.prods
  obtain ⟨c, rv, e1, e2, e3, e4, _⟩ := h3 p _ hp
  obtain ⟨b5, off5, cap5, h6, h7⟩ := h1.at e1
  obtain ⟨bp, op, cp, h8, h9⟩ := e4.at (j := 0) (c := encS (false, 0)) rfl
  obtain ⟨bp', op', cp', h8', h9'⟩ := e4.at (j := 2) (c := encS (false, 0)) rfl
  subst h8
  cases h8'
  refine ⟨b5, off5, cap5, bp, op, cp, tok, by rw [h6, h2], (List.getElem?_eq_some_iff.1 hp).1, ⟨h7 1 _ e2, by simpa using h7 2 _ e3, ?_, ?_, ?_, ?_⟩⟩
  · simpa using h9 0 _ rfl
  · simpa using h9 1 _ rfl
  · simpa using h9' 0 _ rfl
  · simpa using h9' 1 _ rfl

set_option maxRecDepth 100000 in
set_option maxHeartbeats 8000000 in
theorem compete54 (C M : Nat) (g : List Value) (c3 c5 : Value) (nt : Nat) (ps : List Prod') (p q : Nat) (first last : Bool) (L : List Fil) (wg w : World) (htab : TabAt w) (hM0 : M ≠ 0) (hc : CollAt w C M g)
    (hg1 : g[1]? = some (.slice none 0 0)) (hg2 : g[2]? = some (.int .i64 1)) (hg5 : g[5]? = some c5) (hgr : GramAt wg c3 c5 nt ps) (hwg : Old wg w) (hMg : wg.heap.size ≤ M) (hMw : M < w.heap.size) (hp : IsOp ps p) (hq : IsOp ps q) (hpl : p ≤ 100) (hql : q ≤ 100)
    (hs : SetsAt w M L) (hn : L.length ≤ 4000) (hnew : ∀ f ∈ newOf p q first last, f ∉ L) :
    Calls Tryz.prog 54 #[.pointer (some ⟨C, 0, none⟩), .int .i64 p, .int .i64 q, .bool first, .bool last, .agg #[.slice none 0 0, .int .i64 1]] w fun e w' =>
      (∃ u, e = .returned u) ∧ SetsAt w' M (L ++ newOf p q first last) ∧ OldBut M w w' := by
  obtain ⟨b5, off5, cap5, bp, op, cp, tok, rfl, hpn, hP⟩ := opCells hgr hp
  obtain ⟨b5', off5', cap5', bq, oq, cq, tok', hc5, hqn, hQ⟩ := opCells hgr hq
  cases hc5
  have hO : Old w (w.alloc (.cells #[.slice none 0 0, .int .i64 1] 31)) := (Old.refl w).alloc _
  have k5 := hO.cell_some (hc.g 5 _ hg5 (by omega))
  obtain ⟨l1, l2, l3, l4, l5, l6⟩ := hP.old (hwg.trans hO)
  obtain ⟨m1, m2, m3, m4, m5, m6⟩ := hQ.old (hwg.trans hO)
  have hpn' : (p : Int) < ps.length := by omega
  have hqn' : (q : Int) < ps.length := by omega
  have hmix : Tryz.prog.follows Departure.mixedOrders = true := rfl
  have hwp : ∀ (a b : Nat) (at' : Int), a ≤ 100 → b ≤ 100 → at' = 0 ∨ at' = 2 → Fil.wf ⟨a, at', b⟩ := fun a b at' ha hb hat => ⟨wf_nat (by omega), by
    have h0 : (Lit.int .i64 0).wf = true := by decide
    have h2 : (Lit.int .i64 2).wf = true := by decide
    rcases hat with rfl | rfl
    · exact h0
    · exact h2, wf_nat (by omega)⟩
  go_enter Tryz.func54, Tryz.ntmps54
  go_wp2
  generalize hW0 : w.alloc (.cells #[.slice none 0 0, .int .i64 1] 31) = W0 at *
  go_quiet (fail)
  have hO1 : Old W0 (W0.drewN nq) := ⟨rfl, rfl, Nat.le_refl _, fun _ _ => rfl⟩
  have hbx : (W0.drewN nq).cell? ⟨w.heap.size, 0, none⟩ = some (.slice none 0 0) ∧ (W0.drewN nq).cell? ⟨w.heap.size, 1, none⟩ = some (.int .i64 1) := by
    subst hW0
    exact ⟨hO1.cell_some (by simp), hO1.cell_some (by simp)⟩
  have k5' := hO1.cell_some k5
  have hwg1 := (hwg.trans hO).trans hO1
  have hw1 := hO.trans hO1
  generalize hW1 : W0.drewN nq = W1 at *
  obtain ⟨l1', l2', l3', l4', l5', l6'⟩ := hP.old hwg1
  obtain ⟨m1', m2', m3', m4', m5', m6'⟩ := hQ.old hwg1
  go_wp2
  have hO2 : Old W1 (W1.alloc (.cells #[.bool false, .int .i64 0] 66)) := (Old.refl W1).alloc _
  have hn0 : (W1.alloc (.cells #[.bool false, .int .i64 0] 66)).cell? ⟨W1.heap.size, 0, none⟩ = some (.bool false) := by simp
  have hn1 : (W1.alloc (.cells #[.bool false, .int .i64 0] 66)).cell? ⟨W1.heap.size, 1, none⟩ = some (.int .i64 0) := by simp
  have hb0 := hO2.cell_some hbx.1
  have hb1 := hO2.cell_some hbx.2
  have hw2 := hw1.trans hO2
  have hwg2 := hwg1.trans hO2
  have hsz1 := hw1.size
  generalize hW2 : W1.alloc (.cells #[.bool false, .int .i64 0] 66) = W2 at *
  have hF : ∀ W, OldBut M W2 W → OpCells W b5 off5 p bp op cp tok ∧ OpCells W b5 off5 q bq oq cq tok' ∧ W.cell? ⟨W1.heap.size, 0, none⟩ = some (.bool false) ∧ W.cell? ⟨W1.heap.size, 1, none⟩ = some (.int .i64 0) ∧
      W.cell? ⟨w.heap.size, 0, none⟩ = some (.slice none 0 0) ∧ W.cell? ⟨w.heap.size, 1, none⟩ = some (.int .i64 1) := fun W h =>
    ⟨hP.old (OldBut.oldOf hwg2 hMg h), hQ.old (OldBut.oldOf hwg2 hMg h), h.cell_some (by simp only; omega) hn0, h.cell_some (by simp only; omega) hn1, h.cell_some (by simp only; omega) hb0, h.cell_some (by simp only; omega) hb1⟩
  have hadd := fun W (h : OldBut M W2 W) (f : Fil) (L' : List Fil) (h1 : SetsAt W M L') (h2 : L'.length ≤ 5000) (h3 : f.wf) (h4 : f ∉ L') =>
    add28s C M g f L' W ((htab.old hw2).but hM0 h) hM0 ((hc.but (M := M) hw2.but).but h) hg1 hg2 h1 h2 h3 h4
  have hs2 := hs.old hw2
  have hsub : IntKind.i64.wrap ((3 : Int) - 1) = 2 := by rfl
  have hsub2 : IntKind.i64.wrap 2 = 2 := by rfl
  have heq : ∀ W, Sem.run Tryz.prog (binOp BinOp.eql 66 (Value.agg #[.bool false, .int .i64 0]) (Value.agg #[.bool false, .int .i64 0])) W = .ok (.bool true) W := fun W => by kernel_rfl
  obtain ⟨hFp, hFq, q0, q1, q2, q3⟩ := hF W2 (OldBut.refl M W2)
  obtain ⟨l1'', l2'', l3'', l4'', l5'', l6''⟩ := hFp
  obtain ⟨m1'', m2'', m3'', m4'', m5'', m6''⟩ := hFq
  replace hF : Aside _ := hF
  replace hadd : Aside _ := hadd
  replace hs2 : Aside _ := hs2
  clear hW0 hW1 hW2 l1 l2 l3 l4 l5 l6 m1 m2 m3 m4 m5 m6 l1' l2' l3' l4' l5' l6' m1' m2' m3' m4' m5' m6' k5 k5' hbx hn0 hn1 hb0 hb1 hO hO1 hO2 hs hc hP hQ hgr
  cases first with
  | false =>
    go_quiet (fail)
    have hO3 : Old W2 (W2.drewN nq) := ⟨rfl, rfl, Nat.le_refl _, fun _ _ => rfl⟩
    generalize hW3 : W2.drewN nq = W3 at *
    obtain ⟨hFp, hFq, q0, q1, q2, q3⟩ := hF.out W3 hO3.but
    obtain ⟨r1, r2, r3, r4, r5, r6⟩ := hFp
    obtain ⟨t1, t2, t3, t4, t5, t6⟩ := hFq
    have hs3 := SetsAt.old (w := W2) (M := M) hs2.out hO3
    replace hs3 : Aside _ := hs3
    go_wp2
    cases last with
    | false =>
      go_quiet (fail)
      have hOl : Old W3 (W3.drewN nq) := ⟨rfl, rfl, Nat.le_refl _, fun _ _ => rfl⟩
      have hres : SetsAt (W3.drewN nq) M (L ++ []) ∧ OldBut M w (W3.drewN nq) := ⟨by simpa using SetsAt.old (w := W3) (M := M) hs3.out hOl, ((hw2.but (M := M)).trans (hO3.but)).trans hOl.but⟩
      replace hres : Aside _ := hres
      clear hF hadd
      go_wp2
      go_end0
      exact ⟨⟨_, rfl⟩, by simpa [newOf] using hres.out.1, hres.out.2⟩
    | true =>
      have hnl := hnew ⟨p, 2, q⟩ (by simp [newOf])
      go_still_tail 13, (by kernel_rfl)
      change wpList _ _ _ _ _ W3.drew
      go_wp2_with (first
        | (go_at_call 80; refine Calls.mono (open80 _ _ _) ?_; rintro e w5 ⟨rfl, hk5⟩; have hB5 : OldBut M W2 w5 := (hO3.but).trans (((Old.refl W3).drew.trans hk5).but); obtain ⟨_, _, _, _, x0, x1⟩ := hF.out w5 hB5)
        | (go_at_call 28; (refine Calls.mono (hadd.out w5 hB5 ⟨p, 2, q⟩ _ (SetsAt.old (w := W3) (M := M) hs3.out ((Old.refl W3).drew.trans hk5)) (by first | omega | (simp; omega)) (hwp p q 2 hpl hql (.inr rfl)) (by first | exact hnl | simpa [newOf] using hnl)) ?_; rintro e w6 ⟨⟨u, rfl⟩, hs6, ho6⟩)))
      have hres : SetsAt w6 M ((L) ++ [⟨p, 2, q⟩]) ∧ OldBut M w w6 := ⟨hs6, ((hw2.but (M := M)).trans hB5).trans ho6⟩
      replace hres : Aside _ := hres
      clear hF hadd
      go_wp2
      go_end0
      exact ⟨⟨_, rfl⟩, by simpa [newOf] using hres.out.1, hres.out.2⟩
  | true =>
    have hn1 := hnew ⟨p, 0, q⟩ (by simp [newOf])
    go_still_tail 15, (by kernel_rfl)
    change wpList _ _ _ _ _ W2.drew
    go_wp2_with (first
      | (go_at_call 80; refine Calls.mono (open80 _ _ _) ?_; rintro e w3 ⟨rfl, hk3⟩; have hB3 : OldBut M W2 w3 := ((Old.refl W2).drew.trans hk3).but; obtain ⟨_, _, _, _, x0, x1⟩ := hF.out w3 hB3)
      | (go_at_call 28; refine Calls.mono (hadd.out w3 hB3 ⟨p, 0, q⟩ L (SetsAt.old (w := W2) (M := M) hs2.out ((Old.refl W2).drew.trans hk3)) (by omega) (hwp p q 0 hpl hql (.inl rfl)) hn1) ?_; rintro e w4 ⟨⟨u, rfl⟩, hs4, ho4⟩; have hB4 := hB3.trans ho4; obtain ⟨hFp4, hFq4, z0, z1, z2, z3⟩ := hF.out w4 hB4; obtain ⟨r1, r2, r3, r4, r5, r6⟩ := hFp4; obtain ⟨t1, t2, t3, t4, t5, t6⟩ := hFq4; replace hs4 : Aside _ := hs4))
    cases last with
    | false =>
      go_quiet (fail)
      have hOl : Old w4 (w4.drewN nq) := ⟨rfl, rfl, Nat.le_refl _, fun _ _ => rfl⟩
      have hres : SetsAt (w4.drewN nq) M ((L ++ [⟨p, 0, q⟩]) ++ []) ∧ OldBut M w (w4.drewN nq) := ⟨by simpa using SetsAt.old (w := w4) (M := M) hs4.out hOl, ((hw2.but (M := M)).trans (hB4)).trans hOl.but⟩
      replace hres : Aside _ := hres
      clear hF hadd
      go_wp2
      go_end0
      exact ⟨⟨_, rfl⟩, by simpa [newOf] using hres.out.1, hres.out.2⟩
    | true =>
      have hnl : (⟨p, 2, q⟩ : Fil) ∉ L ++ [⟨p, 0, q⟩] := by
        have := hnew ⟨p, 2, q⟩ (by simp [newOf])
        simp [this]
      go_still_tail 13, (by kernel_rfl)
      change wpList _ _ _ _ _ w4.drew
      go_wp2_with (first
        | (go_at_call 80; refine Calls.mono (open80 _ _ _) ?_; rintro e w5 ⟨rfl, hk5⟩; have hB5 : OldBut M W2 w5 := (hB4).trans (((Old.refl w4).drew.trans hk5).but); obtain ⟨_, _, _, _, x0, x1⟩ := hF.out w5 hB5)
        | (go_at_call 28; (refine Calls.mono (hadd.out w5 hB5 ⟨p, 2, q⟩ _ (SetsAt.old (w := w4) (M := M) hs4.out ((Old.refl w4).drew.trans hk5)) (by first | omega | (simp; omega)) (hwp p q 2 hpl hql (.inr rfl)) (by first | exact hnl | simpa [newOf] using hnl)) ?_; rintro e w6 ⟨⟨u, rfl⟩, hs6, ho6⟩)))
      have hres : SetsAt w6 M (((L ++ [⟨p, 0, q⟩])) ++ [⟨p, 2, q⟩]) ∧ OldBut M w w6 := ⟨hs6, ((hw2.but (M := M)).trans hB5).trans ho6⟩
      replace hres : Aside _ := hres
      clear hF hadd
      go_wp2
      go_end0
      exact ⟨⟨_, rfl⟩, by simpa [newOf] using hres.out.1, hres.out.2⟩
end Go.Pri
end

/-
  PriorityOperators: parts of its proof (Va5 Va7 Pk Gr2 Gr2b Gr4).
-/
import Derived.Deep.RegionHeld3
import Derived.Deep.AppendLies
import Derived.Test.YtfadmmecedicjaaGreatDoorK16
import Derived.Test.YtfadmmecedicjaaGreatDoorK20
import Derived.Test.YtfadmmecedicjaaGreatDoorK24
import Derived.Test.YtfadmmecedicjaaGreatDoorK25
import Derived.Test.YtfadmmecedicjaaGreatDoorK29
import Derived.Test.YtfadmmecedicjaaGreatDoorK30
import Derived.Test.YtfadmmecedicjaaGreatDoorK31
set_option linter.unusedVariables false
set_option linter.unusedSimpArgs false

section
/-
  Both checks accept the grammars of the operators.
-/
open Go Go.Abs Go.Proofs Go.RowKit
namespace Go.Pri

theorem goods {ps : List (Nat × Pl)} {n nl : Nat} (hf : Few n nl) (h96 : GoodP ps (k96 n nl)) : GoodP ps (k57 n nl) ∧ GoodP ps (k20 n nl) ∧ knownAt (k57 n nl) 57 [gA n nl] (knownHeap (k57 n nl)) = true ∧ knownAt (k20 n nl) 20 [gA n nl] (knownHeap (k20 n nl)) = true := by
  have one : ∀ {n nl : Nat}, GoodP ps (k96 n nl) → gives6 (.int .i64 0) (call (envP ps [k96 n nl]) 200 57 [gA n nl] (knownHeap (k57 n nl))) = true → gives6 (.int .i64 0) (call (envP ps [k57 n nl]) 200 20 [gA n nl] (knownHeap (k20 n nl))) = true →
      GoodP ps (k57 n nl) ∧ GoodP ps (k20 n nl) := fun {n nl} h96 h1 h2 => by
    have g57 : GoodP ps (k57 n nl) := good_ofP (ms := [k96 n nl]) (fun k hk => by simp at hk; subst hk; exact h96) (k := k57 n nl) h1 rfl
    exact ⟨g57, good_ofP (ms := [k57 n nl]) (fun k hk => by simp at hk; subst hk; exact g57) (k := k20 n nl) h2 rfl⟩
  rcases hf with ⟨rfl, rfl⟩ | ⟨rfl, rfl | rfl⟩ | ⟨rfl, rfl | rfl | rfl⟩ | ⟨rfl, rfl | rfl | rfl⟩
  · exact ⟨(one h96 (e57q1q1 ps) (e20q1q1 ps)).1, (one h96 (e57q1q1 ps) (e20q1q1 ps)).2, s57q1q1, s20q1q1⟩
  · exact ⟨(one h96 (e57q2q1 ps) (e20q2q1 ps)).1, (one h96 (e57q2q1 ps) (e20q2q1 ps)).2, s57q2q1, s20q2q1⟩
  · exact ⟨(one h96 (e57q2q2 ps) (e20q2q2 ps)).1, (one h96 (e57q2q2 ps) (e20q2q2 ps)).2, s57q2q2, s20q2q2⟩
  · exact ⟨(one h96 (e57q3q1 ps) (e20q3q1 ps)).1, (one h96 (e57q3q1 ps) (e20q3q1 ps)).2, s57q3q1, s20q3q1⟩
  · exact ⟨(one h96 (e57q3q2 ps) (e20q3q2 ps)).1, (one h96 (e57q3q2 ps) (e20q3q2 ps)).2, s57q3q2, s20q3q2⟩
  · exact ⟨(one h96 (e57q3q3 ps) (e20q3q3 ps)).1, (one h96 (e57q3q3 ps) (e20q3q3 ps)).2, s57q3q3, s20q3q3⟩
  · exact ⟨(one h96 (e57q4q1 ps) (e20q4q1 ps)).1, (one h96 (e57q4q1 ps) (e20q4q1 ps)).2, s57q4q1, s20q4q1⟩
  · exact ⟨(one h96 (e57q4q2 ps) (e20q4q2 ps)).1, (one h96 (e57q4q2 ps) (e20q4q2 ps)).2, s57q4q2, s20q4q2⟩
  · exact ⟨(one h96 (e57q4q3 ps) (e20q4q3 ps)).1, (one h96 (e57q4q3 ps) (e20q4q3 ps)).2, s57q4q3, s20q4q3⟩

/-- What is asked of the levels. -/
structure LvOK (n : Nat) (lv : List Lv) : Prop where
  few : Few n lv.length
  assoc : ∀ a ∈ lv, a.2 = 1 ∨ a.2 = 2 ∨ a.2 = 3
  lo : ∀ a ∈ lv, ∀ p ∈ a.1, 1 ≤ p
  hi : ∀ a ∈ lv, ∀ p ∈ a.1, p ≤ n
  nodup : (lv.flatMap (·.1)).Nodup
  short : ∀ a ∈ lv, a.1.length ≤ 4
  full : ∀ a ∈ lv, a.1 ≠ []

theorem LvOK.few4 {n : Nat} {lv : List Lv} (h : LvOK n lv) : 1 ≤ n ∧ n ≤ 4 ∧ 1 ≤ lv.length ∧ lv.length ≤ 3 := by
  have := h.few
  unfold Few at this
  omega
theorem flat_le {α β : Type} (f : α → List β) (k : Nat) : ∀ (l : List α), (∀ a ∈ l, (f a).length ≤ k) → (l.flatMap f).length ≤ l.length * k
  | [], _ => by simp
  | a :: l, h => by
    have h1 := flat_le f k l (fun b hb => h b (List.mem_cons_of_mem _ hb))
    have h2 := h a (List.mem_cons_self ..)
    simp only [List.flatMap_cons, List.length_append, List.length_cons, Nat.succ_mul]
    omega

/-- The grammar of n operators in memory, its levels beside. -/
structure GramW (w : World) (n : Nat) (lv : List Lv) (g c7 : Value) (ρ : Inj) (b7 cap b0 b1 b2 : Nat) : Prop where
  ok : LvOK n lv
  dom : ∀ i pl, ρ i = some pl → i < 200
  rows : ∀ i cs esz, (i, cs, esz) ∈ rowsG n → ∃ pl, ρ i = some pl ∧ ORel ρ w pl (.row cs false esz)
  zero : ∃ pl, ρ 0 = some pl ∧ pl.blk = 0 ∧ pl.off = 0
  val : VRel ρ (gA n lv.length) g
  pins : ∀ p ∈ pinsOf w b7 cap b0 b1 b2, ρ p.1 = some p.2
  tab : TabAt w
  lev : LvW w c7 lv b7 cap b0 b1 b2

theorem GramW.valid {w : World} {n : Nat} {lv : List Lv} {g c7 : Value} {ρ : Inj} {b7 cap b0 b1 b2 : Nat} (h : GramW w n lv g c7 ρ b7 cap b0 b1 b2) : Valid w g := by
  have hf := h.ok.few4
  have h96 : GoodP (pinsOf w b7 cap b0 b1 b2) (k96 n lv.length) := good96 h.tab h.lev (fun a ha => by rcases h.ok.assoc a ha with e | e | e <;> omega) (fun a ha p hp => by have := h.ok.hi a ha p hp; omega) hf.2.1 (by omega) h.ok.nodup (by omega)
    (fun a ha => by have := h.ok.short a ha; omega) (by have := flat_le (fun a : Lv => a.1) 4 lv (fun a ha => h.ok.short a ha); omega)
  obtain ⟨g57, g20, s57, s20⟩ := goods h.ok.few h96
  have hat : ∀ w1, Old w w1 → ∀ i cs esz, (i, cs, esz) ∈ rowsG n → ∃ pl, ρ i = some pl ∧ ORel ρ w1 pl (.row cs false esz) := fun w1 h1 i cs esz hi => by
    obtain ⟨pl, e1, e2⟩ := h.rows i cs esz hi
    exact ⟨pl, e1, e2.mono (Ext.refl _) (h1.heap _ e2.lt)⟩
  refine ⟨fun w1 h1 => ?_, fun w1 h1 => ?_⟩
  · refine (g20.call h.zero h.pins h.dom s20 (hat w1 h1) (args := #[g]) (.cons h.val .nil)).mono ?_
    rintro en w' ⟨rfl, hk⟩
    exact ⟨rfl, hk.old⟩
  · refine (g57.call h.zero h.pins (fun i pl hi => Nat.lt_trans (h.dom i pl hi) (show 200 < 6000 by decide)) s57 (hat w1 h1) (args := #[g]) (.cons h.val .nil)).mono ?_
    rintro en w' ⟨rfl, hk⟩
    exact ⟨rfl, hk.old⟩
end Go.Pri
end

section
/-
  The conflicts of the grammars of the operators.
-/
namespace Go.Pri
open Go Go.Abs Go.Proofs Go.RowKit

/-- The productions: the operand, then one for each operator. -/
noncomputable def psOf (n : Nat) : List Prod' := (0, [(true, 0)]) :: (List.range n).map fun i => (0, [(false, 0), (true, tokC i), (false, 0)])
theorem psOf_len (n : Nat) : (psOf n).length = n + 1 := by simp [psOf]
theorem isOp_psOf {n p : Nat} (h1 : 1 ≤ p) (h2 : p ≤ n) : IsOp (psOf n) p := by
  refine ⟨tokC (p - 1), ?_⟩
  obtain ⟨k, rfl⟩ : ∃ k, p = k + 1 := ⟨p - 1, by omega⟩
  simp only [psOf, List.getElem?_cons_succ, List.getElem?_map, Nat.add_sub_cancel]
  rw [List.getElem?_range (by omega)]
  rfl

theorem rules_ne {n : Nat} {lv : List Lv} (h : LvOK n lv) : rulesAll lv ≠ [] := by
  obtain ⟨_, _, h3, _⟩ := h.few4
  match lv, h3, h with
  | a :: r, _, h =>
    have hf := h.full a (by simp)
    have ha := h.assoc a (by simp)
    intro e
    simp only [rulesAll, List.append_eq_nil_iff] at e
    obtain ⟨p, hp⟩ := List.exists_mem_of_ne_nil _ hf
    have hx : ∀ x, x ∉ pairOf a a (firstOf a.2) (lastOf a.2) := fun x hx => by rw [e.1] at hx; cases hx
    rcases ha with ha | ha | ha
    · exact hx (Fil.mk p 2 p) (mem_pairOf.2 ⟨p, hp, p, hp, .inr ⟨by rw [ha]; rfl, rfl⟩⟩)
    · exact hx (Fil.mk p 0 p) (mem_pairOf.2 ⟨p, hp, p, hp, .inl ⟨by rw [ha]; rfl, rfl⟩⟩)
    · exact hx (Fil.mk p 0 p) (mem_pairOf.2 ⟨p, hp, p, hp, .inl ⟨by rw [ha]; rfl, rfl⟩⟩)
theorem rules_few {n : Nat} {lv : List Lv} (h : LvOK n lv) : (rulesAll lv).length ≤ 300 := by
  obtain ⟨_, _, _, h4⟩ := h.few4
  have h1 := rules_len (k := 4) (lv := lv) h.short
  have h2 : lv.length * (lv.length * (4 * (4 * 2))) ≤ 3 * (3 * (4 * (4 * 2))) := Nat.mul_le_mul h4 (Nat.mul_le_mul_right _ h4)
  omega
theorem rule_wf {n : Nat} {lv : List Lv} (h : LvOK n lv) {f : Fil} (hf : f ∈ rulesAll lv) : f.wf ∧ ∃ p q : Nat, f.par = p ∧ f.child = q ∧ 1 ≤ p ∧ p ≤ n ∧ 1 ≤ q ∧ q ≤ n ∧ (f.pos = 0 ∨ f.pos = 2) := by
  obtain ⟨_, h4, _, _⟩ := h.few4
  obtain ⟨a, ha, b, hb, p, hp, q, hq, hx⟩ := mem_rules hf
  have e1 := h.lo a ha p hp
  have e2 := h.hi a ha p hp
  have e3 := h.lo b hb q hq
  have e4 := h.hi b hb q hq
  have wp : (Lit.int .i64 (p : Int)).wf = true := wf64 (by omega)
  have wq : (Lit.int .i64 (q : Int)).wf = true := wf64 (by omega)
  rcases hx with rfl | rfl
  · exact ⟨⟨wp, wf64 (p := 0) (by omega), wq⟩, p, q, rfl, rfl, e1, e2, e3, e4, .inl rfl⟩
  · exact ⟨⟨wp, wf64 (p := 2) (by omega), wq⟩, p, q, rfl, rfl, e1, e2, e3, e4, .inr rfl⟩

theorem GramW.conf {w : World} {n nt : Nat} {lv : List Lv} {c3 c4 c5 c7 : Value} {a0 : Option Addr} {cap0 : Nat} {ρ : Inj} {b7 cap b0 b1 b2 : Nat} (hgr : GramAt w c3 c5 nt (psOf n))
    (h : GramW w n lv (.agg #[.slice a0 2 cap0, .slice none 0 0, .int .i64 1, c3, c4, c5, .int .i64 0, c7, .slice none 0 0]) c7 ρ b7 cap b0 b1 b2) :
    ConfAt w (.agg #[.slice a0 2 cap0, .slice none 0 0, .int .i64 1, c3, c4, c5, .int .i64 0, c7, .slice none 0 0]) (rulesF lv) := by
  intro w1 h1
  obtain ⟨_, h4, _, h6⟩ := h.ok.few4
  refine conf11 a0 cap0 c3 c4 c5 c7 0 nt (psOf n) lv (rulesF lv) w1 (h.tab.old h1) (h.valid.old h1) (hgr.old h1) ((h.lev.lv w fun _ _ => rfl).old h1) (fun e => ?_) (fun a ha p hp => ⟨isOp_psOf (h.ok.lo a ha p hp) (h.ok.hi a ha p hp), ?_⟩) h.ok.assoc
    (rules_nodup h.ok.nodup) (Nat.le_trans (rules_few h.ok) (by decide)) (by omega) (fun a ha => by have := h.ok.short a ha; omega) (fun f hf => (rule_wf h.ok hf).1) (sortAt _ _ (rules_ne h.ok) (rulesF_perm lv) (rulesF_sorted lv) (Nat.le_trans (rules_few h.ok) (by decide)))
  · rw [h.lev.val] at e; cases e
  · have := h.ok.hi a ha p hp
    omega
end Go.Pri
end

section
/-
  What the law asks of one tree.
-/
namespace Go.Pri
open Go Go.Abs

/-- What the law asks of one tree l, next to the grouped tree g. -/
structure Pack (n : Nat) (F : List Fil) (l g : List Nd) (flag : Bool) : Prop where
  tree : ∃ out outg KA KB, TreeOK (psOf n) 11 0 l out ∧ Shaped (psOf n) 11 g outg ∧ OrdP l g out outg KA KB ∧
    decide ((violTo l (kidsK (psOf n) l) F l.length).length = 0) = (flag && decide (ordN l g KA KB l.length 0 0 = 0))
  kids : ∀ (i : Nat) x f, l[i]? = some x → f ∈ F → f.par = x.p → ∃ ks kid y, (kidsK (psOf n) l)[i]? = some ks ∧ 0 ≤ f.pos ∧ ks[f.pos.toNat]? = some kid ∧ 0 ≤ kid ∧ l[kid.toNat]? = some y
  wf : ∀ x ∈ l, (Lit.int .i64 x.p).wf = true
  few : (violTo l (kidsK (psOf n) l) F l.length).length < 20
end Go.Pri
end

section
/-
  The grammar of the operators: its parts in memory.
-/
namespace Go.Pri
open Go Go.Abs Go.Proofs Go.RowKit Go.Lib Go.Maps
set_option maxRecDepth 100000

theorem info73 : (Tryz.prog.info? 73).map (fun i => (i.zero, i.size, i.bytes)) = some (some (.agg #[.string ⟨#[]⟩, .int .i64 0, .slice none 0 0, .slice none 0 0, .int .i64 0, .bool false, .int .i64 0, .slice none 0 0, .bool false, .int .i64 0, .int .i64 0, .int .i64 0, .int .i64 0]), 13, 160) := by kernel_rfl
theorem info76 : (Tryz.prog.info? 76).map (fun i => (i.zero, i.size, i.bytes)) = some (some (.agg #[.slice none 0 0, .int .i64 0, .slice none 0 0, .int .i64 0]), 4, 64) := by kernel_rfl

/-- A production's cells, its right side at a block. -/
noncomputable def prodV (name : Value) (b len : Nat) : List Value := [name, .int .i64 0, .slice (some ⟨b, 0, none⟩) len len, .slice none 0 0, .int .i64 1, .bool false, .int .i64 0, .slice none 0 0, .bool false, .int .i64 0, .int .i64 0, .int .i64 0, .int .i64 0]
noncomputable def prodsV (rb : Nat → Nat) : Nat → List Value
  | 0 => prodV nameO (rb 0) 1
  | n + 1 => prodsV rb n ++ prodV (nameC n) (rb (n + 1)) 3
noncomputable def rightV : Nat → List Value
  | 0 => rightO
  | n + 1 => rightC n
theorem prodsV_len (rb : Nat → Nat) : ∀ n, (prodsV rb n).length = (n + 1) * 13
  | 0 => rfl
  | n + 1 => by simp [prodsV, prodsV_len rb n, prodV]; omega
theorem prodsV_same {rb rb' : Nat → Nat} : ∀ {n : Nat}, (∀ j, j ≤ n → rb j = rb' j) → prodsV rb n = prodsV rb' n
  | 0, h => by simp [prodsV, h 0 (Nat.le_refl _)]
  | n + 1, h => by simp [prodsV, prodsV_same (n := n) (fun j hj => h j (by omega)), h (n + 1) (Nat.le_refl _)]

/-- A production put behind the others, at a step of a draw. -/
theorem stepP {ops : Array Oper} {o : Oper} {a : Act} {K : Act → World → Prop} {Q : Exit → Act → World → Prop} {E : Prop} (s x : Operand) (W : World) (base : Nat) (v : Value) (n : Nat) (xs c : List Value) (b : Nat)
    (hgd : o.guard = none) (ho : o.op = .call { callee := .builtin .append, args := #[s, x], argTypes := #[33, 33] })
    (hown : W.ownsRow base 73 13 v n xs) (hb : base ≤ W.heap.size) (hn : n ≤ 5000)
    (hs : a.eval s = v) (hx : a.eval x = .slice (some ⟨b, 0, none⟩) 1 1) (hc : c.length = 13) (h1 : ∀ u ∈ c, u.oneCell' = true) (m : ∀ (i : Nat) u, c[i]? = some u → W.cell? ⟨b, i, none⟩ = some u)
    (h : ∀ v' w', w'.ownsRow base 73 13 v' (n + 1) (xs ++ c) → W.grownBy w' v.ownBlock → K (a.put o.dst v') w') :
    if Region.wanted o (yielded ops a.tmps) = true then Oper.wp Tryz.prog o a W K Q else E := by
  obtain ⟨i6, hi6, hz6, hs6, hb6⟩ := info_parts info73
  refine step_append_lies _ hgd s x 33 ho base 73 i6 _ 13 160 Tryz.underlying33 hi6 hz6 hs6 hb6 rfl (by decide) v n xs hs hown ⟨b, 0, none⟩ 1 1 c hx (by rw [hc]) ?_ h1 (by decide) ?_ ?_ hb _ rfl ?_
  · intro j u hj
    have := m j u hj
    cases j <;> simpa [Addr.add] using this
  · unfold maxLen; omega
  · omega
  · intro g cap w' h1 h2 h3 _
    exact h _ w' h1 h2

/-- The grammar under way: its own nine cells. -/
def gObj (c0 c3 c4 v5 v7 : Value) : Obj := .cells #[c0, .slice none 0 0, .int .i64 1, c3, c4, v5, .int .i64 0, v7, .slice none 0 0] 37 (0, 0)
theorem gBare_inv {ρ : Inj} {g : Value} (h : VRel ρ gBare g) : ∃ a0 k0 a3 k3 a4 k4, g = .agg #[.slice (some a0) 2 k0, .slice none 0 0, .int .i64 1, .slice (some a3) 11 k3, .slice (some a4) 1 k4, .slice none 0 0, .int .i64 0, .slice none 0 0, .slice none 0 0] ∧
    VRel ρ (.slice (some ⟨5, 0, none⟩) 2 2) (.slice (some a0) 2 k0) ∧ VRel ρ (.slice (some ⟨50, 0, none⟩) 11 11) (.slice (some a3) 11 k3) ∧ VRel ρ (.slice (some ⟨1, 0, none⟩) 1 1) (.slice (some a4) 1 k4) := by
  unfold gBare at h
  cases h with
  | @agg a a' hs hh =>
    obtain ⟨l⟩ := a'
    match l, hs with
    | [x0, x1, x2, x3, x4, x5, x6, x7, x8], _ =>
      have e0 := hh 0 _ _ rfl rfl
      have e1 := hh 1 _ _ rfl rfl
      have e2 := hh 2 _ _ rfl rfl
      have e3 := hh 3 _ _ rfl rfl
      have e4 := hh 4 _ _ rfl rfl
      have e5 := hh 5 _ _ rfl rfl
      have e6 := hh 6 _ _ rfl rfl
      have e7 := hh 7 _ _ rfl rfl
      have e8 := hh 8 _ _ rfl rfl
      cases e1; cases e2; cases e5; cases e6; cases e7; cases e8
      have e0' := e0
      have e3' := e3
      have e4' := e4
      cases e0 with
      | @sl _ c0 _ _ k0 _ _ _ =>
      cases e3 with
      | @sl _ c3 _ _ k3 _ _ _ =>
      cases e4 with
      | @sl _ c4 _ _ k4 _ _ _ => exact ⟨c0, k0, c3, k3, c4, k4, rfl, e0', e3', e4'⟩

theorem cells_at {w : World} {b t : Nat} {cs : Array Value} {f : Nat × Nat} (h : w.heap[b]? = some (.cells cs t f)) {i : Nat} {v : Value} (hi : cs[i]? = some v) : w.cell? ⟨b, i, none⟩ = some v := by
  simp only [World.cell?, h]
  exact hi
theorem frozen_at {w : World} {b t : Nat} {cs : Array Value} (h : w.heap[b]? = some (.cells cs t (0, 0))) (i : Nat) : w.frozen? ⟨b, i, none⟩ = false := by
  simp [World.frozen?, h]
theorem prodV_one {name : Value} {b len : Nat} (h : name.oneCell' = true) : ∀ u ∈ prodV name b len, u.oneCell' = true := by
  intro u hu
  simp only [prodV, List.mem_cons, List.not_mem_nil, or_false] at hu
  rcases hu with rfl | rfl | rfl | rfl | rfl | rfl | rfl | rfl | rfl | rfl | rfl | rfl | rfl <;> first | exact h | rfl
theorem own_but {M : Nat} {w w' : World} {base : Nat} {e : TypeId} {size : Nat} {v : Value} {n : Nat} {xs : List Value} (h : w.ownsRow base e size v n xs) (ho : OldBut M w w') (hM : M < base) : w'.ownsRow base e size v n xs := by
  obtain ⟨h1, h2⟩ := h
  refine ⟨h1, ?_⟩
  rcases h2 with h2 | ⟨g, cap, cur, h3, h4, h5⟩
  · exact .inl h2
  · exact .inr ⟨g, cap, cur, h3, h4, (ho.heap g (Array.getElem?_eq_some_iff.1 h5.1).1 (by omega)).trans h5.1, h5.2⟩
theorem setCell_but (w : World) (M i : Nat) (v : Value) : OldBut M w (w.setCell ⟨M, i, none⟩ v) :=
  ⟨rfl, rfl, by simp [World.setCell], fun k _ hk => heap_setCell_other w ⟨M, i, none⟩ k v hk⟩

/-- The productions under way. -/
structure PW (W wr : World) (b3 : Nat) (c0 c3 c4 v5 : Value) (i : Nat) (rb : Nat → Nat) : Prop where
  but : OldBut b3 W wr
  obj : wr.heap[b3]? = some (gObj c0 c3 c4 v5 (.slice none 0 0))
  own : wr.ownsRow W.heap.size 73 13 v5 (i + 1) (prodsV rb i)
  rt : ∀ j, j ≤ i → wr.heap[rb j]? = some (.cells (rightV j).toArray 66 (0, 0))

theorem PW.old {W wr X : World} {b3 : Nat} {c0 c3 c4 v5 : Value} {i : Nat} {rb : Nat → Nat} (h : PW W wr b3 c0 c3 c4 v5 i rb) (hO : Old wr X) : PW W X b3 c0 c3 c4 v5 i rb :=
  ⟨h.but.trans hO.but, (hO.heap _ (Array.getElem?_eq_some_iff.1 h.obj).1).trans h.obj, own_old h.own hO, fun j hj => (hO.heap _ (Array.getElem?_eq_some_iff.1 (h.rt j hj)).1).trans (h.rt j hj)⟩
theorem names_at {i : Nat} (h : i < 4) : (#[.string ⟨#[97, 100, 100]⟩, .string ⟨#[109, 117, 108]⟩, .string ⟨#[112, 111, 119]⟩, .string ⟨#[115, 101, 113]⟩] : Array Value)[i]? = some (nameC i) := by
  match i, h with
  | 0, _ => rfl
  | 1, _ => rfl
  | 2, _ => rfl
  | 3, _ => rfl
theorem toks_at {i : Nat} (h : i < 4) : (#[.int .i64 1, .int .i64 2, .int .i64 8, .int .i64 7] : Array Value)[i]? = some (.int .i64 (tokC i)) := by
  match i, h with
  | 0, _ => rfl
  | 1, _ => rfl
  | 2, _ => rfl
  | 3, _ => rfl
theorem name_str {i : Nat} (h : i < 4) : ∃ s, nameC i = .string s := by
  match i, h with
  | 0, _ => exact ⟨_, rfl⟩
  | 1, _ => exact ⟨_, rfl⟩
  | 2, _ => exact ⟨_, rfl⟩
  | 3, _ => exact ⟨_, rfl⟩

theorem PW.step {W wr X w' : World} {b3 : Nat} {c0 c3 c4 v5 v' : Value} {i s : Nat} {rb : Nat → Nat} (h : PW W wr b3 c0 c3 c4 v5 i rb) (hb : b3 < W.heap.size) (hO : Old wr X) (hs : X.heap[s]? = some (.cells (rightV (i + 1)).toArray 66 (0, 0)))
    (hown : w'.ownsRow W.heap.size 73 13 v' (i + 1 + 1) (prodsV rb i ++ prodV (nameC i) s 3)) (hg : X.grownBy w' v5.ownBlock) :
    PW W (w'.setCell ⟨b3, 5, none⟩ v') b3 c0 c3 c4 v' (i + 1) (fun j => if j = i + 1 then s else rb j) := by
  have hown' := own_old h.own hO
  have hrow : ∀ k, v5.ownBlock = some k → W.heap.size ≤ k := fun k hk => (hown'.lt k hk).1
  have hX : OldBut b3 W X := h.but.trans hO.but
  have hw : OldBut b3 W w' := hX.grown hg (fun k hk => .inl (hrow k hk))
  have hobj : w'.heap[b3]? = some (gObj c0 c3 c4 v5 (.slice none 0 0)) := by
    have e1 := (hO.heap b3 (Array.getElem?_eq_some_iff.1 h.obj).1).trans h.obj
    refine (hg.block b3 (Array.getElem?_eq_some_iff.1 e1).1 (fun e => ?_)).trans e1
    have := hrow b3 e.symm
    omega
  have hkeep : ∀ (r : Nat) (cs : Array Value), X.heap[r]? = some (.cells cs 66 (0, 0)) → w'.heap[r]? = some (.cells cs 66 (0, 0)) := fun r cs hr =>
    (hg.block r (Array.getElem?_eq_some_iff.1 hr).1 (not_row hr (by decide) hown')).trans hr
  have hset : ∀ (r : Nat) (cs : Array Value), w'.heap[r]? = some (.cells cs 66 (0, 0)) → (w'.setCell ⟨b3, 5, none⟩ v').heap[r]? = some (.cells cs 66 (0, 0)) := fun r cs hr => by
    refine (heap_setCell_other w' _ r v' (fun e => ?_)).trans hr
    have e : r = b3 := e
    rw [e, hobj] at hr
    simp [gObj] at hr
  refine ⟨hw.trans (setCell_but _ _ _ _), ?_, ?_, fun j hj => ?_⟩
  · rw [heap_setCell_same w' b3 5 _ 37 v' hobj]
    rfl
  · have e : prodsV rb i ++ prodV (nameC i) s 3 = prodsV (fun j => if j = i + 1 then s else rb j) (i + 1) := by
      simp only [prodsV, if_true]
      rw [prodsV_same (rb := rb) (rb' := fun j => if j = i + 1 then s else rb j) (fun j hj => by rw [if_neg (by omega)])]
    rw [← e]
    exact own_but hown (setCell_but _ _ _ _) hb
  · by_cases e : j = i + 1
    · subst e
      simp only [if_true]
      exact hset _ _ (hkeep _ _ hs)
    · simp only [e, if_false]
      have hj' : j ≤ i := by omega
      exact hset _ _ (hkeep _ _ ((hO.heap _ (Array.getElem?_eq_some_iff.1 (h.rt j hj')).1).trans (h.rt j hj')))
end Go.Pri
end

section
/-
  The levels under way.
-/
namespace Go.Pri
open Go Go.Abs Go.Proofs Go.RowKit Go.Lib Go.Maps
set_option maxRecDepth 100000

def intsV (l : List Nat) : List Value := l.map fun p => .int .i64 (p : Nat)
def levelsV : List (Nat × Nat) → List Lv → List Value
  | b :: bs, a :: lv => [.slice (some ⟨b.1, 0, none⟩) a.1.length b.2, .int .i64 a.2, .slice none 0 0, .int .i64 1] ++ levelsV bs lv
  | _, _ => []
theorem levelsV_len : ∀ {bs : List (Nat × Nat)} {lv : List Lv}, bs.length = lv.length → (levelsV bs lv).length = lv.length * 4
  | [], [], _ => rfl
  | b :: bs, a :: lv, h => by simp [levelsV, levelsV_len (bs := bs) (lv := lv) (by simpa using h)]; omega
theorem levelsV_snoc : ∀ {bs : List (Nat × Nat)} {lv : List Lv} {b : Nat × Nat} {a : Lv}, bs.length = lv.length →
    levelsV (bs ++ [b]) (lv ++ [a]) = levelsV bs lv ++ [.slice (some ⟨b.1, 0, none⟩) a.1.length b.2, .int .i64 a.2, .slice none 0 0, .int .i64 1]
  | [], [], b, a, _ => rfl
  | _ :: bs, _ :: lv, b, a, h => by simp [levelsV, levelsV_snoc (bs := bs) (lv := lv) (b := b) (a := a) (by simpa using h)]
/-- The levels' rows of productions. -/
def LvsAt (w : World) (bs : List (Nat × Nat)) (lv : List Lv) : Prop := bs.length = lv.length ∧ ∀ (j : Nat) b a, bs[j]? = some b → lv[j]? = some a → ∃ cur, w.heap[b.1]? = some (.cells cur 3 (0, 0)) ∧ cur.toList.take a.1.length = intsV a.1 ∧ a.1.length ≤ b.2
theorem LvsAt.same {w w' : World} {bs : List (Nat × Nat)} {lv : List Lv} (h : LvsAt w bs lv) (hs : ∀ b ∈ bs, ∀ cur, w.heap[b.1]? = some (.cells cur 3 (0, 0)) → w'.heap[b.1]? = some (.cells cur 3 (0, 0))) : LvsAt w' bs lv :=
  ⟨h.1, fun j b a h1 h2 => let ⟨cur, e1, e2, e3⟩ := h.2 j b a h1 h2; ⟨cur, hs b (List.mem_of_getElem? h1) cur e1, e2, e3⟩⟩
theorem LvsAt.old {w w' : World} {bs : List (Nat × Nat)} {lv : List Lv} (h : LvsAt w bs lv) (ho : Old w w') : LvsAt w' bs lv :=
  h.same fun b _ cur hc => (ho.heap _ (Array.getElem?_eq_some_iff.1 hc).1).trans hc

structure QW (W wr : World) (b3 : Nat) (c0 c3 c4 v5 v7 : Value) (bs : List (Nat × Nat)) (lv : List Lv) : Prop where
  but : OldBut b3 W wr
  obj : wr.heap[b3]? = some (gObj c0 c3 c4 v5 v7)
  own : wr.ownsRow W.heap.size 76 4 v7 lv.length (levelsV bs lv)
  rt : LvsAt wr bs lv
theorem QW.old {W wr X : World} {b3 : Nat} {c0 c3 c4 v5 v7 : Value} {bs : List (Nat × Nat)} {lv : List Lv} (h : QW W wr b3 c0 c3 c4 v5 v7 bs lv) (hO : Old wr X) : QW W X b3 c0 c3 c4 v5 v7 bs lv :=
  ⟨h.but.trans hO.but, (hO.heap _ (Array.getElem?_eq_some_iff.1 h.obj).1).trans h.obj, own_old h.own hO, h.rt.old hO⟩

theorem QW.step {W X w' : World} {b3 : Nat} {c0 c3 c4 v5 v7 v' : Value} {bs : List (Nat × Nat)} {lv : List Lv} {b : Nat × Nat} {a : Lv} {cur : Array Value} (h : QW W X b3 c0 c3 c4 v5 v7 bs lv) (hb : b3 < W.heap.size)
    (hc : X.heap[b.1]? = some (.cells cur 3 (0, 0))) (hcur : cur.toList.take a.1.length = intsV a.1) (hcap : a.1.length ≤ b.2)
    (hown : w'.ownsRow W.heap.size 76 4 v' (lv.length + 1) (levelsV bs lv ++ [.slice (some ⟨b.1, 0, none⟩) a.1.length b.2, .int .i64 a.2, .slice none 0 0, .int .i64 1])) (hg : X.grownBy w' v7.ownBlock) :
    QW W (w'.setCell ⟨b3, 7, none⟩ v') b3 c0 c3 c4 v5 v' (bs ++ [b]) (lv ++ [a]) := by
  have hrow : ∀ k, v7.ownBlock = some k → W.heap.size ≤ k := fun k hk => (h.own.lt k hk).1
  have hw : OldBut b3 W w' := h.but.grown hg (fun k hk => .inl (hrow k hk))
  have hobj : w'.heap[b3]? = some (gObj c0 c3 c4 v5 v7) := by
    refine (hg.block b3 (Array.getElem?_eq_some_iff.1 h.obj).1 (fun e => ?_)).trans h.obj
    have := hrow b3 e.symm
    omega
  have hkeep : ∀ (r : Nat) (cs : Array Value), X.heap[r]? = some (.cells cs 3 (0, 0)) → (w'.setCell ⟨b3, 7, none⟩ v').heap[r]? = some (.cells cs 3 (0, 0)) := fun r cs hr => by
    have h1 := (hg.block r (Array.getElem?_eq_some_iff.1 hr).1 (not_row hr (by decide) h.own)).trans hr
    refine (heap_setCell_other w' _ r v' (fun e => ?_)).trans h1
    have e : r = b3 := e
    rw [e, hobj] at h1
    simp [gObj] at h1
  have hl := h.rt.1
  refine ⟨hw.trans (setCell_but _ _ _ _), ?_, ?_, by simp [hl], fun j b' a' h1 h2 => ?_⟩
  · rw [heap_setCell_same w' b3 7 _ 37 v' hobj]
    rfl
  · rw [levelsV_snoc hl, List.length_append]
    exact own_but hown (setCell_but _ _ _ _) hb
  · rcases Nat.lt_or_ge j bs.length with hj | hj
    · rw [List.getElem?_append_left hj] at h1
      rw [List.getElem?_append_left (by omega)] at h2
      obtain ⟨cur', e1, e2, e3⟩ := h.rt.2 j b' a' h1 h2
      exact ⟨cur', hkeep _ _ e1, e2, e3⟩
    · rw [List.getElem?_append_right hj] at h1
      rw [List.getElem?_append_right (by omega)] at h2
      have e : j = bs.length := by
        have := (List.getElem?_eq_some_iff.1 h1).1
        simp at this
        omega
      subst e
      simp at h1
      rw [hl] at h2
      simp at h2
      subst h1; subst h2
      exact ⟨cur, hkeep _ _ hc, hcur, hcap⟩

/-! ## The levels, off the input -/
def lvN (l0 l1 l2 l3 : Int) (i : Nat) : Int := match i with | 0 => l0 | 1 => l1 | 2 => l2 | _ => l3
def asN (s0 s1 s2 : Int) (k : Nat) : Int := match k with | 0 => s0 | 1 => s1 | _ => s2
def heldAt (L : Nat → Int) (k : Nat) : Nat → List Nat
  | 0 => []
  | i + 1 => heldAt L k i ++ (if L i % 3 = k then [i + 1] else [])
def lvAll (n : Nat) (L S : Nat → Int) : Nat → List Lv
  | 0 => []
  | k + 1 => lvAll n L S k ++ (if heldAt L k n = [] then [] else [(heldAt L k n, 1 + S k % 3)])
theorem heldAt_le (L : Nat → Int) (k : Nat) : ∀ i, (heldAt L k i).length ≤ i
  | 0 => Nat.le_refl _
  | i + 1 => by
    have := heldAt_le L k i
    simp only [heldAt, List.length_append]
    split <;> simp <;> omega
theorem lvAll_le (n : Nat) (L S : Nat → Int) : ∀ k, (lvAll n L S k).length ≤ k
  | 0 => Nat.le_refl _
  | k + 1 => by
    have := lvAll_le n L S k
    simp only [lvAll, List.length_append]
    split <;> simp <;> omega
theorem box_lv {X : World} {b : Nat} {m l0 l1 l2 l3 s0 s1 s2 : Int} (h : X.heap[b]? = some (.cells #[.int .u8 m, .int .u8 l0, .int .u8 l1, .int .u8 l2, .int .u8 l3, .int .u8 s0, .int .u8 s1, .int .u8 s2] 25 (0, 0))) {i : Nat} (hi : i < 4) :
    X.cell? ⟨b, 1 + i, none⟩ = some (.int .u8 (lvN l0 l1 l2 l3 i)) := by
  match i, hi with
  | 0, _ => exact cells_at h rfl
  | 1, _ => exact cells_at h rfl
  | 2, _ => exact cells_at h rfl
  | 3, _ => exact cells_at h rfl
theorem box_as {X : World} {b : Nat} {m l0 l1 l2 l3 s0 s1 s2 : Int} (h : X.heap[b]? = some (.cells #[.int .u8 m, .int .u8 l0, .int .u8 l1, .int .u8 l2, .int .u8 l3, .int .u8 s0, .int .u8 s1, .int .u8 s2] 25 (0, 0))) {k : Nat} (hk : k < 3) :
    X.cell? ⟨b, 5 + k, none⟩ = some (.int .u8 (asN s0 s1 s2 k)) := by
  match k, hk with
  | 0, _ => exact cells_at h rfl
  | 1, _ => exact cells_at h rfl
  | 2, _ => exact cells_at h rfl
theorem wrap64 {m : Int} (h : 0 ≤ m ∧ m ≤ 255) : IntKind.i64.wrap m = m := by
  simp [IntKind.wrap, IntKind.bits]; omega

theorem own_cur {w : World} {base n : Nat} {v : Value} {xs : List Value} (h : w.ownsRow base 3 1 v n xs) (hn : 0 < n) : ∃ g cap cur, v = .slice (some ⟨g, 0, none⟩) n cap ∧ w.heap[g]? = some (.cells cur 3 (0, 0)) ∧ cur.toList.take n = xs ∧ n ≤ cap := by
  rcases h.2 with ⟨rfl, hx⟩ | ⟨g, cap, cur, rfl, _, h1, h2, _, _, h3⟩
  · exfalso
    have := h.1
    rw [hx] at this
    simp at this
    omega
  · exact ⟨g, cap, cur, rfl, h1, by simpa using h3, h2⟩

/-- A level under way. -/
structure RW (W wr : World) (bl : Nat) (pv : Value) (asc : Int) (l : List Nat) : Prop where
  but : OldBut bl W wr
  obj : wr.heap[bl]? = some (.cells #[pv, .int .i64 asc, .slice none 0 0, .int .i64 1] 76 (0, 0))
  own : wr.ownsRow W.heap.size 3 1 pv l.length (intsV l)
theorem RW.old {W wr X : World} {bl : Nat} {pv : Value} {asc : Int} {l : List Nat} (h : RW W wr bl pv asc l) (hO : Old wr X) : RW W X bl pv asc l :=
  ⟨h.but.trans hO.but, (hO.heap _ (Array.getElem?_eq_some_iff.1 h.obj).1).trans h.obj, own_old h.own hO⟩
theorem RW.step {W X w' : World} {bl : Nat} {pv v' : Value} {asc : Int} {l : List Nat} {p : Nat} (h : RW W X bl pv asc l) (hb : bl < W.heap.size) (hown : w'.ownsRow W.heap.size 3 1 v' (l.length + 1) (intsV l ++ [.int .i64 (p : Nat)])) (hg : X.grownBy w' pv.ownBlock) :
    RW W (w'.setCell ⟨bl, 0, none⟩ v') bl v' asc (l ++ [p]) := by
  have hrow : ∀ k, pv.ownBlock = some k → W.heap.size ≤ k := fun k hk => (h.own.lt k hk).1
  have hw : OldBut bl W w' := h.but.grown hg (fun k hk => .inl (hrow k hk))
  have hobj : w'.heap[bl]? = some (.cells #[pv, .int .i64 asc, .slice none 0 0, .int .i64 1] 76 (0, 0)) := by
    refine (hg.block bl (Array.getElem?_eq_some_iff.1 h.obj).1 (fun e => ?_)).trans h.obj
    have := hrow bl e.symm
    omega
  refine ⟨hw.trans (setCell_but _ _ _ _), ?_, ?_⟩
  · rw [heap_setCell_same w' bl 0 _ 76 v' hobj]
    rfl
  · have e : intsV (l ++ [p]) = intsV l ++ [.int .i64 (p : Nat)] := by simp [intsV]
    rw [e, List.length_append]
    exact own_but hown (setCell_but _ _ _ _) hb

/-- A level put behind the others. -/
theorem pushL {ops : Array Oper} {rest : List Oper} {o : Oper} {a : Act} {Q : Exit → Act → World → Prop} (s x : Operand) (W : World) (base : Nat) (v : Value) (n : Nat) (xs c : List Value) (b : Nat)
    (hgd : o.guard = none) (ho : o.op = .call { callee := .builtin .append, args := #[s, x], argTypes := #[34, 34] })
    (hown : W.ownsRow base 76 4 v n xs) (hb : base ≤ W.heap.size) (hn : n ≤ 5000)
    (hs : a.eval s = v) (hx : a.eval x = .slice (some ⟨b, 0, none⟩) 1 1) (hc : c.length = 4) (h1 : ∀ u ∈ c, u.oneCell' = true) (m : ∀ (i : Nat) u, c[i]? = some u → W.cell? ⟨b, i, none⟩ = some u)
    (h : ∀ v' w', w'.ownsRow base 76 4 v' (n + 1) (xs ++ c) → W.grownBy w' v.ownBlock → wpList Tryz.prog ops Q rest (a.put o.dst v') w') : wpList Tryz.prog ops Q (o :: rest) a W := by
  obtain ⟨i6, hi6, hz6, hs6, hb6⟩ := info_parts info76
  refine wpList_append_own _ hgd s x 34 ho base 76 i6 _ 4 64 Tryz.underlying34 hi6 hz6 hs6 hb6 rfl (by decide) v n xs hs hown ⟨b, 0, none⟩ 1 1 c hx (by rw [hc]) ?_ h1 ?_ ?_ hb ?_
  · intro j u hj
    have := m j u hj
    cases j <;> simpa [Addr.add] using this
  · unfold maxLen; omega
  · omega
  · intro v' w' h1 h2 _
    exact h v' w' h1 h2

theorem cells_ne {w : World} {b b' t t' : Nat} {c c' : Array Value} {f f' : Nat × Nat} (h : w.heap[b]? = some (.cells c t f)) (h' : w.heap[b']? = some (.cells c' t' f')) (ht : t ≠ t') : b ≠ b' := by
  intro e
  subst e
  rw [h] at h'
  cases h'
  exact ht rfl

/-- What the walk leaves. -/
def GRaw (w : World) (g : Value) (n : Nat) (lv : List Lv) : Prop := ∃ (a0 a3 a4 : Addr) (k0 k3 k4 : Nat) (v5 v7 : Value) (ρ : Inj) (bs : List (Nat × Nat)) (rb : Nat → Nat) (x y : Nat),
  g = .agg #[.slice (some a0) 2 k0, .slice none 0 0, .int .i64 1, .slice (some a3) 11 k3, .slice (some a4) 1 k4, v5, .int .i64 0, v7, .slice none 0 0] ∧
  VRel ρ (.slice (some ⟨5, 0, none⟩) 2 2) (.slice (some a0) 2 k0) ∧ VRel ρ (.slice (some ⟨50, 0, none⟩) 11 11) (.slice (some a3) 11 k3) ∧ VRel ρ (.slice (some ⟨1, 0, none⟩) 1 1) (.slice (some a4) 1 k4) ∧
  (∀ i pl, ρ i = some pl → i < 100) ∧ (∃ pl, ρ 0 = some pl ∧ pl.blk = 0 ∧ pl.off = 0) ∧ (∀ i cs esz, (i, cs, esz) ∈ rowsB → ∃ pl, ρ i = some pl ∧ ORel ρ w pl (.row cs false esz)) ∧
  w.ownsRow x 73 13 v5 (n + 1) (prodsV rb n) ∧ (∀ j, j ≤ n → w.heap[rb j]? = some (.cells (rightV j).toArray 66 (0, 0))) ∧ w.ownsRow y 76 4 v7 lv.length (levelsV bs lv) ∧ LvsAt w bs lv
end Go.Pri
end

section
/-
  The levels of an input, in order; plain.
-/
namespace Go.Pri
open Go Go.Abs Go.Proofs Go.RowKit

theorem mem_held {L : Nat → Int} {k p : Nat} : ∀ {n : Nat}, p ∈ heldAt L k n ↔ 1 ≤ p ∧ p ≤ n ∧ L (p - 1) % 3 = k
  | 0 => by simp [heldAt]; omega
  | n + 1 => by
    simp only [heldAt, List.mem_append, mem_held (n := n)]
    by_cases h : L n % 3 = (k : Int)
    · rw [if_pos h]
      simp only [List.mem_singleton]
      constructor
      · rintro (⟨h1, h2, h3⟩ | rfl)
        · exact ⟨h1, by omega, h3⟩
        · exact ⟨by omega, by omega, by simpa using h⟩
      · rintro ⟨h1, h2, h3⟩
        by_cases e : p = n + 1
        · exact .inr e
        · exact .inl ⟨h1, by omega, h3⟩
    · rw [if_neg h]
      simp only [List.not_mem_nil, or_false]
      constructor
      · rintro ⟨h1, h2, h3⟩
        exact ⟨h1, by omega, h3⟩
      · rintro ⟨h1, h2, h3⟩
        by_cases e : p = n + 1
        · subst e
          exact absurd (by simpa using h3) h
        · exact ⟨h1, by omega, h3⟩
theorem held_nodup (L : Nat → Int) (k : Nat) : ∀ n, (heldAt L k n).Nodup
  | 0 => by simp [heldAt]
  | n + 1 => by
    simp only [heldAt, List.nodup_append]
    refine ⟨held_nodup L k n, by split <;> simp, fun a ha b hb e => ?_⟩
    subst e
    have := (mem_held.1 ha).2.1
    split at hb
    · simp at hb; omega
    · simp at hb
theorem held_sum (L : Nat → Int) : ∀ n, (heldAt L 0 n).length + (heldAt L 1 n).length + (heldAt L 2 n).length = n
  | 0 => rfl
  | n + 1 => by
    have ih := held_sum L n
    have : L n % 3 = 0 ∨ L n % 3 = 1 ∨ L n % 3 = 2 := by omega
    simp only [heldAt, List.length_append]
    rcases this with h | h | h <;> simp [h] <;> omega
theorem lvAll_flat (n : Nat) (L S : Nat → Int) : ∀ k, (lvAll n L S (k + 1)).flatMap (·.1) = (lvAll n L S k).flatMap (·.1) ++ heldAt L k n := fun k => by
  simp only [lvAll, List.flatMap_append]
  split
  · rename_i h; simp [h]
  · simp
theorem lvAll_flat3 (n : Nat) (L S : Nat → Int) : (lvAll n L S 3).flatMap (·.1) = heldAt L 0 n ++ heldAt L 1 n ++ heldAt L 2 n := by
  rw [lvAll_flat, lvAll_flat, lvAll_flat]
  simp [lvAll]
theorem mem_lvAll {n : Nat} {L S : Nat → Int} {a : Lv} : ∀ {k : Nat}, a ∈ lvAll n L S k ↔ ∃ j, j < k ∧ heldAt L j n ≠ [] ∧ a = (heldAt L j n, 1 + S j % 3)
  | 0 => by simp [lvAll]
  | k + 1 => by
    simp only [lvAll, List.mem_append, mem_lvAll (k := k)]
    constructor
    · rintro (⟨j, h1, h2⟩ | h)
      · exact ⟨j, by omega, h2⟩
      · split at h
        · simp at h
        · rename_i hne
          exact ⟨k, by omega, hne, by simpa using h⟩
    · rintro ⟨j, h1, h2, h3⟩
      by_cases e : j = k
      · subst e
        rw [if_neg h2]
        exact .inr (by simp [h3])
      · exact .inl ⟨j, by omega, h2, h3⟩
theorem lvAll_full {n : Nat} {L S : Nat → Int} {k : Nat} {a : Lv} (h : a ∈ lvAll n L S k) : a.1 ≠ [] := by
  obtain ⟨j, _, h2, rfl⟩ := mem_lvAll.1 h
  exact h2
theorem len_le_flat : ∀ {lv : List Lv}, (∀ a ∈ lv, a.1 ≠ []) → lv.length ≤ (lv.flatMap (·.1)).length
  | [], _ => by simp
  | a :: lv, h => by
    have h1 := len_le_flat (lv := lv) fun b hb => h b (List.mem_cons_of_mem _ hb)
    have h2 := List.length_pos_iff.2 (h a (List.mem_cons_self ..))
    simp only [List.flatMap_cons, List.length_append, List.length_cons]
    omega

theorem lvOK_all {n : Nat} (L S : Nat → Int) (h1 : 1 ≤ n) (h4 : n ≤ 4) : LvOK n (lvAll n L S 3) := by
  have hsum := held_sum L n
  have hflat : ((lvAll n L S 3).flatMap (·.1)).length = n := by rw [lvAll_flat3]; simp only [List.length_append]; exact hsum
  have hle := len_le_flat (lv := lvAll n L S 3) fun a ha => lvAll_full ha
  have h3 := lvAll_le n L S 3
  have hpos : 1 ≤ (lvAll n L S 3).length := by
    rcases Nat.eq_zero_or_pos (lvAll n L S 3).length with h | h
    · have : lvAll n L S 3 = [] := List.eq_nil_of_length_eq_zero h
      rw [this] at hflat
      simp at hflat
      omega
    · exact h
  refine ⟨?_, fun a ha => ?_, fun a ha p hp => ?_, fun a ha p hp => ?_, ?_, fun a ha => ?_, fun a ha => lvAll_full ha⟩
  · unfold Few
    omega
  · obtain ⟨j, _, _, rfl⟩ := mem_lvAll.1 ha
    simp only
    omega
  · obtain ⟨j, _, _, rfl⟩ := mem_lvAll.1 ha
    exact (mem_held.1 hp).1
  · obtain ⟨j, _, _, rfl⟩ := mem_lvAll.1 ha
    exact (mem_held.1 hp).2.1
  · rw [lvAll_flat3]
    simp only [List.nodup_append]
    refine ⟨⟨held_nodup .., held_nodup .., fun a ha b hb e => ?_⟩, held_nodup .., fun a ha b hb e => ?_⟩
    · subst e
      have e1 := (mem_held.1 ha).2.2
      have e2 := (mem_held.1 hb).2.2
      omega
    · subst e
      have e2 := (mem_held.1 hb).2.2
      rcases List.mem_append.1 ha with ha | ha
      · have e1 := (mem_held.1 ha).2.2
        omega
      · have e1 := (mem_held.1 ha).2.2
        omega
  · obtain ⟨j, _, _, rfl⟩ := mem_lvAll.1 ha
    exact Nat.le_trans (heldAt_le ..) h4
end Go.Pri
end

/-
  PriorityOperators: parts of its proof (Pr8 Pr9 Pr10).
-/
import Derived.Maps.AppendAt
import Derived.Test.YtfadmmecedicjaaGreatDoorK11
import Derived.Test.YtfadmmecedicjaaGreatDoorK15
set_option linter.unusedVariables false
set_option linter.unusedSimpArgs false

section
/-
  shape, member, Shape: walked, at trees that are well formed.
-/
namespace Go.Pri
open Go Go.Abs Go.Proofs Go.RowKit Go.Lib

theorem self36a : knownAt (k36 0) 36 (k36 0).args (knownHeap (k36 0)) = true := by kernel_rfl
theorem self36b : knownAt (k36 1) 36 (k36 1).args (knownHeap (k36 1)) = true := by kernel_rfl
theorem vs36 (c : Int) (ρ : Inj) : VsRel ρ (k36 c).args (k36 c).args := by
  refine .cons (.agg rfl fun i v v' h1 h2 => ?_) (.cons (.int _ _) .nil)
  rw [h1] at h2
  cases h2
  match i, h1 with
  | 0, h1 => cases h1; exact .sl0 _ _
  | 1, h1 => cases h1; exact .int _ _
  | k + 2, h1 => cases h1
theorem holds36 (c : Int) (hc : c = 0 ∨ c = 1) {w : World} (ht : TabAt w) : Calls Tryz.prog 36 #[.agg #[.slice none 0 0, .int .i64 1], .int .u64 c] w fun en w' => en = .returned (.bool true) ∧ Keeps w w' := by
  have hg : Good (k36 c) := good_of (ms := []) (fun _ h => by cases h) (r36 c) rfl
  rcases hc with rfl | rfl
  · exact hg.plain rfl (by decide) self36a ht (vs36 0)
  · exact hg.plain rfl (by decide) self36b ht (vs36 1)

/-- A grammar's tokens and productions, all of them there in every configuration. -/
structure GramAt (w : World) (c3 c5 : Value) (nt : Nat) (ps : List Prod') : Prop where
  prods : ∃ cs : List (List Value), SliceAt 13 w c5 cs ∧ cs.length = ps.length ∧
    ∀ (j : Nat) q, ps[j]? = some q → ∃ c rv, cs[j]? = some c ∧ c[1]? = some (.int .i64 q.1) ∧ c[2]? = some rv ∧ SliceAt 2 w rv (q.2.map encS) ∧ c[3]? = some (.slice none 0 0) ∧ c[4]? = some (.int .i64 1)
  toks : ∃ ts : List (List Value), SliceAt 7 w c3 ts ∧ ts.length = nt ∧ ∀ (j : Nat) c, ts[j]? = some c → c[5]? = some (.slice none 0 0) ∧ c[6]? = some (.int .i64 1)
theorem GramAt.old {w w' : World} {c3 c5 : Value} {nt : Nat} {ps : List Prod'} (h : GramAt w c3 c5 nt ps) (ho : Old w w') : GramAt w' c3 c5 nt ps := by
  obtain ⟨⟨cs, h1, h2, h3⟩, ⟨ts, h4, h5, h6⟩⟩ := h
  refine ⟨⟨cs, h1.old ho, h2, fun j q hj => ?_⟩, ⟨ts, h4.old ho, h5, h6⟩⟩
  obtain ⟨c, rv, e1, e2, e3, e4, e5⟩ := h3 j q hj
  exact ⟨c, rv, e1, e2, e3, e4.old ho, e5⟩
theorem GramAt.prodsAt {w : World} {c3 c5 : Value} {nt : Nat} {ps : List Prod'} (h : GramAt w c3 c5 nt ps) : ProdsAt w c5 ps := by
  obtain ⟨cs, h1, h2, h3⟩ := h.prods
  refine ⟨cs, h1, h2, fun j q hj => ?_⟩
  obtain ⟨c, rv, e1, e2, e3, e4, _⟩ := h3 j q hj
  exact ⟨c, rv, e1, e2, e3, e4⟩

/-- A tree that Shape accepts. -/
structure TreeOK (ps : List Prod') (nt : Nat) (start : Int) (l : List Nd) (out : List Int) : Prop where
  sh : Shaped ps nt l out
  root : ∃ x q, l[0]? = some x ∧ 0 ≤ x.p ∧ ps[x.p.toNat]? = some q ∧ q.1 = start
  cons : ∀ (i : Nat) x, l[i]? = some x → 0 ≤ x.p → ∃ stop ks sf, out[i]? = some stop ∧ IsKids out stop (i + 1) ks ∧ runC l (x.fr, true) ks = some sf ∧ (if sf.2 then sf.1 = x.to else sf.1 ≤ x.to)

set_option maxRecDepth 100000 in
set_option maxHeartbeats 8000000 in
theorem shape60 (c0 c1 c2 c3 c4 c5 c7 c8 tv : Value) (start : Int) (nt : Nat) (ps : List Prod') (l : List Nd) (out : List Int) (c : Int) (w : World)
    (hc : c = 0 ∨ c = 1) (htab : TabAt w) (hs : SliceAt 4 w tv (l.map encN)) (hg : GramAt w c3 c5 nt ps) (ht : TreeOK ps nt start l out) :
    Calls Tryz.prog 60 #[.agg #[c0, c1, c2, c3, c4, c5, .int .i64 start, c7, c8], .int .u64 c, tv] w fun e w' =>
      ∃ b, e = .returned (.slice (some ⟨b, 0, none⟩) l.length l.length) ∧ NumsAt w' b out ∧ Old w w' := by
  obtain ⟨bt, off, capt, rfl, hcell⟩ : ∃ bt off capt, tv = .slice (some ⟨bt, off, none⟩) l.length capt ∧ RowK 4 w bt off (l.map encN) := by
    rcases hs with ⟨h, _⟩ | ⟨bt, off, capt, h1, _, h2⟩
    · have := ht.sh.pos
      have : l = [] := by simpa using h
      simp [this] at *
    · exact ⟨bt, off, capt, by simpa using h1, h2⟩
  obtain ⟨a3, cap3, rfl⟩ : ∃ a3 cap3, c3 = .slice a3 nt cap3 := by
    obtain ⟨ts, h4, h5, _⟩ := hg.toks
    obtain ⟨a, c', h⟩ := h4.form
    exact ⟨a, c', by rw [h, h5]⟩
  obtain ⟨x0, q0, hx0, hp0, hq0, hst⟩ := ht.root
  obtain ⟨b5, off5, cap5, rfl, hcell5⟩ : ∃ b5 off5 cap5, c5 = .slice (some ⟨b5, off5, none⟩) ps.length cap5 ∧
      ∀ (j : Nat) q, ps[j]? = some q → w.cell? ⟨b5, off5 + j * 13 + 1, none⟩ = some (.int .i64 q.1) ∧ w.cell? ⟨b5, off5 + j * 13 + 3, none⟩ = some (.slice none 0 0) ∧ w.cell? ⟨b5, off5 + j * 13 + 4, none⟩ = some (.int .i64 1) := by
    obtain ⟨cs, h1, h2, h3⟩ := hg.prods
    rcases h1 with ⟨h, _⟩ | ⟨b5, off5, cap5, h4, _, h5⟩
    · have hlt := (List.getElem?_eq_some_iff.1 hq0).1
      simp [h] at h2
      omega
    · refine ⟨b5, off5, cap5, by rw [h4, h2], fun j q hj => ?_⟩
      obtain ⟨c, rv, e1, e2, e3, e4, e5, e6⟩ := h3 j q hj
      exact ⟨h5 j c e1 1 _ e2, h5 j c e1 3 _ e5, h5 j c e1 4 _ e6⟩
  have htree := treeEnds21 c0 c1 c2 (.slice a3 nt cap3) c4 (.slice (some ⟨b5, off5, none⟩) ps.length cap5) (.int .i64 start) c7 c8 (.slice (some ⟨bt, off, none⟩) l.length capt) a3 nt cap3 rfl ps l out (w.alloc (.cells #[c0, c1, c2, .slice a3 nt cap3, c4, .slice (some ⟨b5, off5, none⟩) ps.length cap5, .int .i64 start, c7, c8] 37)) (hs.old ((Old.refl w).alloc _)) (hg.prodsAt.old ((Old.refl w).alloc _)) ht.sh
  have hbox : ∀ wr, Old (w.alloc (.cells #[c0, c1, c2, .slice a3 nt cap3, c4, .slice (some ⟨b5, off5, none⟩) ps.length cap5, .int .i64 start, c7, c8] 37)) wr →
      wr.cell? ⟨w.heap.size, 2, none⟩ = some c2 ∧ wr.cell? ⟨w.heap.size, 3, none⟩ = some (.slice a3 nt cap3) ∧ wr.cell? ⟨w.heap.size, 5, none⟩ = some (.slice (some ⟨b5, off5, none⟩) ps.length cap5) ∧ wr.cell? ⟨w.heap.size, 6, none⟩ = some (.int .i64 start) := fun wr h => by
    refine ⟨?_, ?_, ?_, ?_⟩ <;> exact h.cell_some (by simp)
  have hO : Old w (w.alloc (.cells #[c0, c1, c2, .slice a3 nt cap3, c4, .slice (some ⟨b5, off5, none⟩) ps.length cap5, .int .i64 start, c7, c8] 37)) := (Old.refl w).alloc _
  have hlp := ht.sh.pos
  have hle := ht.sh.le
  have hpl : (x0.p : Int) < ps.length := by have := (List.getElem?_eq_some_iff.1 hq0).1; omega
  have hlp' : (0 : Int) < l.length := by omega
  replace hbox : Aside _ := hbox
  replace hcell5 : Aside _ := hcell5
  replace htree : Aside _ := htree
  replace hg : Aside _ := hg
  replace ht : Aside _ := ht
  replace hs : Aside _ := hs
  replace htab : Aside _ := htab
  replace hcell : Aside _ := hcell
  have hmix : Tryz.prog.follows Departure.mixedOrders = true := rfl
  go_enter Tryz.func60, Tryz.ntmps60
  go_wp2_with (first
    | (go_at_call 21; refine Calls.mono htree.out ?_; rintro e w2 ⟨b, rfl, hr1, hr2, hr3⟩))
  have hO2 : Old w w2 := hO.trans hr3
  obtain ⟨g2, g3, g5, g6⟩ := hbox.out w2 hr3
  have k0 := hO2.cell_some (hcell.out 0 (encN x0) (by simp [hx0]) 0 _ rfl)
  simp only [Nat.zero_mul, Nat.add_zero] at k0
  have k5 := hO2.cell_some (hcell5.out x0.p.toNat q0 hq0).1
  rw [hst] at k5
  replace hr1 : Aside _ := NumsAt.of hr1
  replace hr3 : Aside _ := hr3
  replace hO2 : Aside _ := hO2
  replace hO : Aside _ := hO
  have hnil : ∀ W, Sem.run Tryz.prog (binOp BinOp.eql 39 (Value.slice (some ⟨b, 0, none⟩) l.length l.length) (Value.slice none 0 0)) W = .ok (.bool false) W := fun W => Lib.run_eql_slice_nil W 39 3 _ _ _ _ _ Tryz.underlying39
  have hp0' : ¬ x0.p < 0 := by omega
  have hp0' : ¬ x0.p < 0 := by omega
  clear htree
  go_region
  clear hp0' hnil g2 g3 g5 g6 k0 k5 hx0 hq0 hst hpl hp0
  go_wp2
  go_loopg [38] l.length (fun gg s wr => ∃ (k : Nat), s = .int .i64 k ∧ l.length - k ≤ gg ∧ k ≤ l.length ∧ Aside (Old w2 wr))
  case atStart => exact ⟨0, rfl, by omega, by omega, ((Old.refl w2).drew)⟩
  case round =>
    obtain ⟨k, rfl, hgk, hkl, hOr⟩ := hrel
    by_cases hk : k < l.length
    · have hkl' : (k : Int) < l.length := by omega
      obtain ⟨⟨xp, xt, xf, xo⟩, hx⟩ : ∃ x, l[k]? = some x := ⟨_, List.getElem?_eq_getElem hk⟩
      have hOb := hr3.out.trans hOr.out
      have hOw := hO2.out.trans hOr.out
      obtain ⟨g2, g3, g5, g6⟩ := hbox.out wr hOb
      have e0 := hOw.cell_some (hcell.out k (encN ⟨xp, xt, xf, xo⟩) (by simp [hx]) 0 _ rfl)
      have e1 := hOw.cell_some (hcell.out k (encN ⟨xp, xt, xf, xo⟩) (by simp [hx]) 1 _ rfl)
      have e2 := hOw.cell_some (hcell.out k (encN ⟨xp, xt, xf, xo⟩) (by simp [hx]) 2 _ rfl)
      have e3 := hOw.cell_some (hcell.out k (encN ⟨xp, xt, xf, xo⟩) (by simp [hx]) 3 _ rfl)
      simp only [Nat.add_zero] at e0
      have hOn : Old wr (wr.alloc (.cells #[.int .i64 xp, .int .i64 xt, .int .i64 xf, .int .i64 xo] 79)) := (Old.refl wr).alloc _
      have g3' := hOn.cell_some g3
      have g5' := hOn.cell_some g5
      simp only at e0 e1 e2 e3
      rcases ht.out.sh.ok _ (List.mem_of_getElem? hx) with ⟨hp1, ht0, ht1, hf0, hf1⟩ | ⟨hp1, hp2, ht0, hf0, hf1⟩
      · simp only at hp1 ht0 ht1 hf0 hf1
        subst hp1
        obtain ⟨ts, hts1, hts2, hts3⟩ := hg.out.toks
        obtain ⟨tc, htc⟩ : ∃ tc, ts[xt.toNat]? = some tc := ⟨_, List.getElem?_eq_getElem (by omega)⟩
        obtain ⟨b3, off3, cap3', hc3, hct⟩ := hts1.at htc
        rw [hts2] at hc3
        cases hc3
        obtain ⟨q5, q6⟩ := hts3 _ _ htc
        have d5 := hOn.cell_some (hOw.cell_some (hct 5 _ q5))
        have d6 := hOn.cell_some (hOw.cell_some (hct 6 _ q6))
        have hhold : Aside _ := holds36 c hc (TabAt.old (w := w) htab.out (hOw.trans hOn))
        have hOr' : Aside _ := hOr.out.trans hOn
        clear hOb hOw hOn hcell5 hcell hg ht hs htab hbox hO hO2 hr1 hr3 g2 g3 g5 g6 hts3 hts1 hct q5 q6 htc hx g5'
        go_wp2_with (first
          | (go_at_call 36; refine Calls.mono hhold.out ?_; rintro e w3 ⟨rfl, hk3⟩))
        go_roundg (l.length - (k + 1))
        case measure => omega
        case rel => exact ⟨k + 1, by go_num, by omega, by omega, hOr'.out.trans hk3.old⟩
      · simp only at hp1 hp2 ht0 hf0 hf1
        subst ht0
        have hp1' : ¬ xp < 0 := by omega
        obtain ⟨q, hq⟩ : ∃ q, ps[xp.toNat]? = some q := ⟨_, List.getElem?_eq_getElem (by omega)⟩
        obtain ⟨_, q3, q4⟩ := hcell5.out _ q hq
        have d3 := hOn.cell_some (hOw.cell_some q3)
        have d4 := hOn.cell_some (hOw.cell_some q4)
        have hOwn := hOw.trans hOn
        have hhold : Aside _ := holds36 c hc (TabAt.old (w := w) htab.out hOwn)
        obtain ⟨stop, ks, sf, z1, z2, z3, z4⟩ := ht.out.cons k _ hx hp1
        have hOr' := hOr.out.trans hOn
        have hcons := fun (w3 : World) (hk3 : Keeps (wr.alloc (.cells #[.int .i64 xp, .int .i64 (-1), .int .i64 xf, .int .i64 xo] 79)) w3) =>
          consistent98 (.slice (some ⟨bt, off, none⟩) l.length capt) l b l.length l.length k out ks stop ⟨xp, -1, xf, xo⟩ sf w3 (SliceAt.old (w := w) hs.out (hOwn.trans hk3.old)) (NumsAt.old (w := w2) hr1.out (hOr'.trans hk3.old)) rfl hr2 hle hx z1 z2 z3 z4
        replace hcons : Aside _ := hcons
        replace hOr' : Aside _ := hOr'
        clear hOb hOw hOn hcell5 hcell hg ht hs htab hbox hO hO2 hr1 hr3 g2 g3 g5 g6 q3 q4 hx g3' hq z1 z2 z3 z4 hOwn
        go_wp2_with (first
          | (go_at_call 36; refine Calls.mono hhold.out ?_; rintro e w3 ⟨rfl, hk3⟩)
          | (go_at_call 98; refine Calls.mono (hcons.out w3 hk3) ?_; rintro e w4 ⟨rfl, hk4⟩))
        go_roundg (l.length - (k + 1))
        case measure => omega
        case rel => exact ⟨k + 1, by go_num, by omega, by omega, (hOr'.out.trans hk3.old).trans hk4⟩
    · have hkn : k = l.length := by omega
      subst hkn
      replace hOr : Aside _ := And.intro (NumsAt.old (w := w2) hr1.out hOr.out) (hO2.out.trans hOr.out)
      clear hr1 hO2 hr3 hO hcell hcell5 hg ht hs htab hbox
      go_wp2
      go_ret
      exact ⟨b, rfl, hOr.out.1, hOr.out.2⟩
end Go.Pri
end

section
/-
  In, member, Shape: walked, at a grammar that both checks accept.
-/
namespace Go.Pri
open Go Go.Abs Go.Proofs Go.RowKit Go.Lib

/-- Both checks accept the grammar, in whatever world to come. -/
structure Valid (w : World) (g : Value) : Prop where
  facts : ∀ w1, Old w w1 → Calls Tryz.prog 20 #[g] w1 fun e w2 => e = .returned (.int .i64 0) ∧ Old w1 w2
  gram : ∀ w1, Old w w1 → Calls Tryz.prog 57 #[g] w1 fun e w2 => e = .returned (.int .i64 0) ∧ Old w1 w2
theorem Valid.old {w w' : World} {g : Value} (h : Valid w g) (ho : Old w w') : Valid w' g := ⟨fun w1 h1 => h.facts w1 (ho.trans h1), fun w1 h1 => h.gram w1 (ho.trans h1)⟩

set_option maxHeartbeats 2000000 in
theorem within58 (a0 : Option Addr) (cap0 : Nat) (c3 c4 c5 c6 c7 c8 : Value) (c : Int) (hc : c = 0 ∨ c = 1) (w : World) (htab : TabAt w) :
    Calls Tryz.prog 58 #[.agg #[.slice a0 2 cap0, .slice none 0 0, .int .i64 1, c3, c4, c5, c6, c7, c8], .int .u64 c] w fun e w' => e = .returned (.bool true) ∧ Old w w' := by
  have hO : Old w (w.alloc (.cells #[.slice a0 2 cap0, .slice none 0 0, .int .i64 1, c3, c4, c5, c6, c7, c8] 37)) := (Old.refl w).alloc _
  have hh := holds36 c hc (htab.old hO)
  replace hh : Aside _ := hh
  rcases hc with rfl | rfl
  · go_enter Tryz.func58, Tryz.ntmps58
    go_wp2_with (first
      | (go_at_call 36; refine Calls.mono hh.out ?_; rintro e w2 ⟨rfl, hk⟩))
    go_ret
    exact ⟨rfl, hO.trans hk.old⟩
  · go_enter Tryz.func58, Tryz.ntmps58
    go_wp2_with (first
      | (go_at_call 36; refine Calls.mono hh.out ?_; rintro e w2 ⟨rfl, hk⟩))
    go_ret
    exact ⟨rfl, hO.trans hk.old⟩

set_option maxHeartbeats 2000000 in
theorem in34 (a0 : Option Addr) (cap0 : Nat) (c3 c4 c5 c6 c7 c8 : Value) (c : Int) (hc : c = 0 ∨ c = 1) (w : World) (htab : TabAt w) (hv : Valid w (.agg #[.slice a0 2 cap0, .slice none 0 0, .int .i64 1, c3, c4, c5, c6, c7, c8])) :
    Calls Tryz.prog 34 #[.agg #[.slice a0 2 cap0, .slice none 0 0, .int .i64 1, c3, c4, c5, c6, c7, c8], .int .u64 c] w fun e w' => e = .returned (.bool true) ∧ Old w w' := by
  have hO : Old w (w.alloc (.cells #[.slice a0 2 cap0, .slice none 0 0, .int .i64 1, c3, c4, c5, c6, c7, c8] 37)) := (Old.refl w).alloc _
  have hb : ∀ wr, Old (w.alloc (.cells #[.slice a0 2 cap0, .slice none 0 0, .int .i64 1, c3, c4, c5, c6, c7, c8] 37)) wr → ∀ (i : Nat) v, (#[.slice a0 2 cap0, .slice none 0 0, .int .i64 1, c3, c4, c5, c6, c7, c8] : Array Value)[i]? = some v → wr.cell? ⟨w.heap.size, i, none⟩ = some v := fun wr h i v hi =>
    h.cell_some (by simpa using hi)
  have h1 := hv.gram _ hO
  have h2 := fun w2 (h : Old (w.alloc (.cells #[.slice a0 2 cap0, .slice none 0 0, .int .i64 1, c3, c4, c5, c6, c7, c8] 37)) w2) => within58 a0 cap0 c3 c4 c5 c6 c7 c8 c hc w2 (htab.old (hO.trans h))
  replace h1 : Aside _ := h1
  replace h2 : Aside _ := h2
  replace hb : Aside _ := hb
  clear hv
  go_enter Tryz.func34, Tryz.ntmps34
  go_wp2_with (first
    | (go_at_call 57; refine Calls.mono h1.out ?_; rintro e w2 ⟨rfl, hk⟩; have d0 := hb.out w2 hk 0 _ rfl; have d1 := hb.out w2 hk 1 _ rfl; have d2 := hb.out w2 hk 2 _ rfl; have d3 := hb.out w2 hk 3 _ rfl; have d4 := hb.out w2 hk 4 _ rfl; have d5 := hb.out w2 hk 5 _ rfl; have d6 := hb.out w2 hk 6 _ rfl; have d7 := hb.out w2 hk 7 _ rfl; have d8 := hb.out w2 hk 8 _ rfl)
    | (go_at_call 58; refine Calls.mono (h2.out w2 hk) ?_; rintro e w3 ⟨rfl, hk3⟩))
  go_ret
  exact ⟨rfl, (hO.trans hk).trans hk3⟩

set_option maxHeartbeats 2000000 in
theorem member59 (a0 : Option Addr) (cap0 : Nat) (c3 c4 c5 c6 c7 c8 : Value) (c : Int) (hc : c = 0 ∨ c = 1) (w : World) (htab : TabAt w) (hv : Valid w (.agg #[.slice a0 2 cap0, .slice none 0 0, .int .i64 1, c3, c4, c5, c6, c7, c8])) :
    Calls Tryz.prog 59 #[.agg #[.slice a0 2 cap0, .slice none 0 0, .int .i64 1, c3, c4, c5, c6, c7, c8], .int .u64 c] w fun e w' => e = .returned (.int .i64 0) ∧ Old w w' := by
  have hO : Old w (w.alloc (.cells #[.slice a0 2 cap0, .slice none 0 0, .int .i64 1, c3, c4, c5, c6, c7, c8] 37)) := (Old.refl w).alloc _
  have hb : ∀ wr, Old (w.alloc (.cells #[.slice a0 2 cap0, .slice none 0 0, .int .i64 1, c3, c4, c5, c6, c7, c8] 37)) wr → ∀ (i : Nat) v, (#[.slice a0 2 cap0, .slice none 0 0, .int .i64 1, c3, c4, c5, c6, c7, c8] : Array Value)[i]? = some v → wr.cell? ⟨w.heap.size, i, none⟩ = some v := fun wr h i v hi =>
    h.cell_some (by simpa using hi)
  have h1 := hv.facts _ hO
  have h2 := fun w2 (h : Old (w.alloc (.cells #[.slice a0 2 cap0, .slice none 0 0, .int .i64 1, c3, c4, c5, c6, c7, c8] 37)) w2) => in34 a0 cap0 c3 c4 c5 c6 c7 c8 c hc w2 (htab.old (hO.trans h)) (hv.old (hO.trans h))
  replace h1 : Aside _ := h1
  replace h2 : Aside _ := h2
  replace hb : Aside _ := hb
  clear hv
  go_enter Tryz.func59, Tryz.ntmps59
  go_wp2_with (first
    | (go_at_call 20; refine Calls.mono h1.out ?_; rintro e w2 ⟨rfl, hk⟩; have d0 := hb.out w2 hk 0 _ rfl; have d1 := hb.out w2 hk 1 _ rfl; have d2 := hb.out w2 hk 2 _ rfl; have d3 := hb.out w2 hk 3 _ rfl; have d4 := hb.out w2 hk 4 _ rfl; have d5 := hb.out w2 hk 5 _ rfl; have d6 := hb.out w2 hk 6 _ rfl; have d7 := hb.out w2 hk 7 _ rfl; have d8 := hb.out w2 hk 8 _ rfl)
    | (go_at_call 34; refine Calls.mono (h2.out w2 hk) ?_; rintro e w3 ⟨rfl, hk3⟩))
  go_ret
  exact ⟨rfl, (hO.trans hk).trans hk3⟩

set_option maxRecDepth 100000 in
set_option maxHeartbeats 4000000 in
theorem Shape35 (a0 : Option Addr) (cap0 : Nat) (c3 c4 c5 c7 c8 tv : Value) (start : Int) (nt : Nat) (ps : List Prod') (l : List Nd) (out : List Int) (c : Int) (w : World)
    (hc : c = 0 ∨ c = 1) (htab : TabAt w) (hs : SliceAt 4 w tv (l.map encN)) (hg : GramAt w c3 c5 nt ps) (ht : TreeOK ps nt start l out) (hv : Valid w (.agg #[.slice a0 2 cap0, .slice none 0 0, .int .i64 1, c3, c4, c5, .int .i64 start, c7, c8])) :
    Calls Tryz.prog 35 #[.agg #[.slice a0 2 cap0, .slice none 0 0, .int .i64 1, c3, c4, c5, .int .i64 start, c7, c8], .int .u64 c, tv] w fun e w' => e = .returned (.int .i64 0) ∧ Old w w' := by
  have hO : Old w (w.alloc (.cells #[.slice a0 2 cap0, .slice none 0 0, .int .i64 1, c3, c4, c5, .int .i64 start, c7, c8] 37)) := (Old.refl w).alloc _
  have hb : ∀ wr, Old (w.alloc (.cells #[.slice a0 2 cap0, .slice none 0 0, .int .i64 1, c3, c4, c5, .int .i64 start, c7, c8] 37)) wr → ∀ (i : Nat) v, (#[.slice a0 2 cap0, .slice none 0 0, .int .i64 1, c3, c4, c5, .int .i64 start, c7, c8] : Array Value)[i]? = some v → wr.cell? ⟨w.heap.size, i, none⟩ = some v := fun wr h i v hi =>
    h.cell_some (by simpa using hi)
  have h1 := member59 a0 cap0 c3 c4 c5 (.int .i64 start) c7 c8 c hc _ (htab.old hO) (hv.old hO)
  have h2 := fun w2 (h : Old (w.alloc (.cells #[.slice a0 2 cap0, .slice none 0 0, .int .i64 1, c3, c4, c5, .int .i64 start, c7, c8] 37)) w2) => shape60 (.slice a0 2 cap0) (.slice none 0 0) (.int .i64 1) c3 c4 c5 c7 c8 tv start nt ps l out c w2 hc (htab.old (hO.trans h)) (hs.old (hO.trans h)) (hg.old (hO.trans h)) ht
  have hnil : ∀ W a n c, Sem.run Tryz.prog (binOp BinOp.eql 39 (Value.slice a n c) (Value.slice none 0 0)) W = .ok (.bool a.isNone) W := fun W a n c => Lib.run_eql_slice_nil W 39 3 _ _ _ _ _ Tryz.underlying39
  obtain ⟨ta, tc, htv⟩ := hs.form
  simp only [List.length_map] at htv
  subst htv
  replace h1 : Aside _ := h1
  replace h2 : Aside _ := h2
  replace hb : Aside _ := hb
  clear hv hs hg ht
  go_enter Tryz.func35, Tryz.ntmps35
  go_wp2_with (first
    | (go_at_call 59; refine Calls.mono h1.out ?_; rintro e w2 ⟨rfl, hk⟩; have d0 := hb.out w2 hk 0 _ rfl; have d1 := hb.out w2 hk 1 _ rfl; have d2 := hb.out w2 hk 2 _ rfl; have d3 := hb.out w2 hk 3 _ rfl; have d4 := hb.out w2 hk 4 _ rfl; have d5 := hb.out w2 hk 5 _ rfl; have d6 := hb.out w2 hk 6 _ rfl; have d7 := hb.out w2 hk 7 _ rfl; have d8 := hb.out w2 hk 8 _ rfl)
    | (go_at_call 60; refine Calls.mono (h2.out w2 hk) ?_; rintro e w3 ⟨b, rfl, hn3, hk3⟩))
  go_ret
  exact ⟨rfl, (hO.trans hk).trans hk3⟩
end Go.Pri
end

section
/-
  The children of all nodes: what lies in memory while they are gathered; the machine by itself.
-/
namespace Go.Pri
open Go Go.Abs Go.Proofs Go.RowKit Go.Lib

def rlen (ps : List Prod') (l : List Nd) (u : Nat) : Nat := match l[u]? with
  | none => 0
  | some x => (rightsOf ps x).length
def settleK (ps : List Prod') (l : List Nd) (K : List (List Int)) : List Nat → List Nat
  | [] => []
  | u :: T => if ((K[u]?).getD []).length < rlen ps l u then u :: T else settleK ps l K T
def kidOf (i : Nat) (T : List Nat) (K : List (List Int)) : List (List Int) := match T with
  | [] => K
  | u :: _ => K.set u ((K[u]?).getD [] ++ [(i : Int)])
def stepK (ps : List Prod') (l : List Nd) (i : Nat) (x : Nd) (s : List Nat × List (List Int)) : List Nat × List (List Int) :=
  (settleK ps l (kidOf i s.1 s.2) (if 0 ≤ x.p then i :: s.1 else s.1), kidOf i s.1 s.2)
def runK (ps : List Prod') (l : List Nd) : List Nd → Nat → List Nat × List (List Int) → List Nat × List (List Int)
  | [], _, s => s
  | x :: r, i, s => runK ps l r (i + 1) (stepK ps l i x s)
theorem runK_step {ps : List Prod'} {l : List Nd} : ∀ {r : List Nd} {i : Nat} {s : List Nat × List (List Int)} {j : Nat} {x : Nd}, r[j]? = some x → runK ps l (r.take (j + 1)) i s = stepK ps l (i + j) x (runK ps l (r.take j) i s)
  | [], i, s, j, x, hx => by cases hx
  | y :: r, i, s, 0, x, hx => by
    simp only [List.getElem?_cons_zero, Option.some.injEq] at hx
    subst hx
    simp only [Nat.zero_add, List.take_succ_cons, List.take_zero, runK, Nat.add_zero]
  | y :: r, i, s, j + 1, x, hx => by
    have := runK_step (ps := ps) (l := l) (r := r) (i := i + 1) (s := stepK ps l i y s) (j := j) (by simpa using hx)
    simp only [List.take_succ_cons, runK]
    rw [this]
    congr 1
    omega

/-- What lies in memory while the children are gathered. -/
structure KM (w0 : World) (B n : Nat) (wr : World) (st : Value) (S : List Nat) (G : List (List Int × Value)) : Prop where
  len : G.length = n
  out : wr.ownsRow B 39 1 (.slice (some ⟨B, 0, none⟩) n n) n (G.map (·.2))
  rows : ∀ (i : Nat) x, G[i]? = some x → wr.ownsRow (B + 1) 3 1 x.2 x.1.length (x.1.map (Value.int .i64))
  stk : wr.ownsRow (B + 1) 3 1 st S.length (S.map fun (k : Nat) => Value.int .i64 k)
  dis : ∀ (i j : Nat) x y, i ≠ j → G[i]? = some x → G[j]? = some y → x.2.ownBlock = none ∨ x.2.ownBlock ≠ y.2.ownBlock
  dst : ∀ (i : Nat) x, G[i]? = some x → x.2.ownBlock = none ∨ x.2.ownBlock ≠ st.ownBlock
  old : Old w0 wr
  size : B + 1 ≤ wr.heap.size
  base : w0.heap.size ≤ B
theorem KM.keep {w0 : World} {B n : Nat} {wr W : World} {st : Value} {S : List Nat} {G : List (List Int × Value)} (h : KM w0 B n wr st S G) (ho : Old wr W) : KM w0 B n W st S G :=
  ⟨h.len, own_old h.out ho, fun i x hx => own_old (h.rows i x hx) ho, own_old h.stk ho, h.dis, h.dst, h.old.trans ho, Nat.le_trans h.size ho.size, h.base⟩

theorem ne_of_own {w : World} {B : Nat} {v : Value} {n : Nat} {xs : List Value} {e : TypeId} (h : w.ownsRow (B + 1) e 1 v n xs) : v.ownBlock = none ∨ v.ownBlock ≠ some B := by
  cases hv : v.ownBlock with
  | none => exact .inl rfl
  | some k => exact .inr (fun e => by cases e; have := (h.lt _ hv).1; omega)
theorem out_ne {B n c : Nat} {o : Option Nat} (h : ∀ k, o = some k → B + 1 ≤ k) : (Value.slice (some ⟨B, 0, none⟩) n c).ownBlock = none ∨ (Value.slice (some ⟨B, 0, none⟩) n c).ownBlock ≠ o := .inr (fun e => by
  have := h B e.symm
  omega)

theorem KM.kid {w0 : World} {B n : Nat} {W w4 : World} {st v v' : Value} {S : List Nat} {G : List (List Int × Value)} {up : Nat} {ks : List Int} {i : Int} (h : KM w0 B n W st S G) (hup : G[up]? = some (ks, v))
    (hown : w4.ownsRow (B + 1) 3 1 v' (ks.length + 1) (ks.map (Value.int .i64) ++ [.int .i64 i])) (hgrow : W.grownBy w4 v.ownBlock) (hat : v'.ownBlock = v.ownBlock ∨ v'.ownBlock = some W.heap.size) :
    KM w0 B n (w4.setCell ⟨B, up, none⟩ v') st S (G.set up (ks ++ [i], v')) := by
  have hv := h.rows up _ hup
  have hvl : ∀ k, v.ownBlock = some k → B + 1 ≤ k := fun k hk => (hv.lt k hk).1
  have hupl : up < G.length := (List.getElem?_eq_some_iff.1 hup).1
  obtain ⟨s1, s2⟩ := (h.out.kept hgrow (out_ne hvl)).stored up v'
  have fresh : ∀ (o : Option Nat), (∀ k, o = some k → k < W.heap.size) → (o = none ∨ o ≠ v.ownBlock) → o = none ∨ o ≠ v'.ownBlock := fun o ho hne => by
    rcases hne with hne | hne
    · exact .inl hne
    · rcases hat with e | e
      · exact .inr (by rw [e]; exact hne)
      · cases ho' : o with
        | none => exact .inl rfl
        | some k => exact .inr (fun e' => by rw [e] at e'; cases e'; have := ho _ ho'; omega)
  have other : ∀ (j : Nat) y, j ≠ up → G[j]? = some y → y.2.ownBlock = none ∨ y.2.ownBlock ≠ v.ownBlock := fun j y hj hy => h.dis j up y _ hj hy hup
  refine ⟨by simpa using h.len, ?_, fun j y hy => ?_, (h.stk.kept hgrow ?_).kept s2 (ne_of_own (h.stk.kept hgrow ?_)), fun j k x y hjk hx hy => ?_, fun j y hy => ?_, ?_, ?_, h.base⟩
  · rw [List.map_set]; exact s1
  · rw [List.getElem?_set] at hy
    by_cases e : up = j
    · rw [if_pos e, if_pos (by omega)] at hy
      cases hy
      have : w4.ownsRow (B + 1) 3 1 v' (ks ++ [i]).length ((ks ++ [i]).map (Value.int .i64)) := by simpa using hown
      exact this.kept s2 (ne_of_own this)
    · rw [if_neg e] at hy
      have h1 := (h.rows j y hy).kept hgrow (other j y (fun e' => e e'.symm) hy)
      exact h1.kept s2 (ne_of_own h1)
  · rcases h.dst up _ hup with e | e
    · rw [show v.ownBlock = none from e]; cases hs : st.ownBlock with
      | none => exact .inl rfl
      | some k => exact .inr (by simp)
    · exact .inr (fun e' => e e'.symm)
  · rcases h.dst up _ hup with e | e
    · rw [show v.ownBlock = none from e]; cases hs : st.ownBlock with
      | none => exact .inl rfl
      | some k => exact .inr (by simp)
    · exact .inr (fun e' => e e'.symm)
  · rw [List.getElem?_set] at hx hy
    by_cases e1 : up = j
    · by_cases e2 : up = k
      · omega
      · rw [if_neg e2] at hy
        rw [if_pos e1, if_pos (by omega)] at hx
        cases hx
        have := fresh y.2.ownBlock (fun q hq => ((h.rows k y hy).lt q hq).2) (other k y (fun e' => e2 e'.symm) hy)
        rcases this with e | e
        · show v'.ownBlock = none ∨ v'.ownBlock ≠ y.2.ownBlock
          cases hv' : v'.ownBlock with
          | none => exact .inl rfl
          | some q => exact .inr (by rw [e]; simp)
        · exact .inr (fun e' => e e'.symm)
    · rw [if_neg e1] at hx
      by_cases e2 : up = k
      · rw [if_pos e2, if_pos (by omega)] at hy
        cases hy
        exact fresh x.2.ownBlock (fun q hq => ((h.rows j x hx).lt q hq).2) (other j x (fun e' => e1 e'.symm) hx)
      · rw [if_neg e2] at hy
        exact h.dis j k x y hjk hx hy
  · rw [List.getElem?_set] at hy
    by_cases e : up = j
    · rw [if_pos e, if_pos (by omega)] at hy
      cases hy
      have : st.ownBlock = none ∨ st.ownBlock ≠ v.ownBlock := by
        rcases h.dst up _ hup with e | e
        · rw [show v.ownBlock = none from e]; cases hs : st.ownBlock with
          | none => exact .inl rfl
          | some k => exact .inr (by simp)
        · exact .inr (fun e' => e e'.symm)
      have := fresh st.ownBlock (fun q hq => (h.stk.lt q hq).2) this
      show v'.ownBlock = none ∨ v'.ownBlock ≠ st.ownBlock
      rcases this with e | e
      · cases hv' : v'.ownBlock with
        | none => exact .inl rfl
        | some q => exact .inr (by rw [e]; simp)
      · exact .inr (fun e' => e e'.symm)
    · rw [if_neg e] at hy
      exact h.dst j y hy
  · exact ((h.old.grown hgrow (fun k hk => by have := hvl k hk; have := h.base; omega)).grown s2 (fun k hk => by cases hk; exact h.base))
  · have := h.size; have := hgrow.size; simp [World.setCell]; omega

theorem KM.push {w0 : World} {B n : Nat} {W w4 : World} {st st' : Value} {S : List Nat} {G : List (List Int × Value)} {k : Nat} (h : KM w0 B n W st S G)
    (hown : w4.ownsRow (B + 1) 3 1 st' (S.length + 1) ((S.map fun (k : Nat) => Value.int .i64 k) ++ [.int .i64 k])) (hgrow : W.grownBy w4 st.ownBlock) (hat : st'.ownBlock = st.ownBlock ∨ st'.ownBlock = some W.heap.size) :
    KM w0 B n w4 st' (S ++ [k]) G := by
  have hvl : ∀ k, st.ownBlock = some k → B + 1 ≤ k := fun k hk => (h.stk.lt k hk).1
  refine ⟨h.len, h.out.kept hgrow (out_ne hvl), fun j y hy => (h.rows j y hy).kept hgrow (h.dst j y hy), by simpa using hown, h.dis, fun j y hy => ?_, h.old.grown hgrow (fun k hk => by have := hvl k hk; have := h.base; omega), Nat.le_trans h.size hgrow.size, h.base⟩
  rcases h.dst j y hy with e | e
  · exact .inl e
  · rcases hat with e2 | e2
    · exact .inr (by rw [e2]; exact e)
    · cases hy' : y.2.ownBlock with
      | none => exact .inl rfl
      | some q => exact .inr (fun e' => by rw [e2] at e'; cases e'; have := ((h.rows j y hy).lt _ hy').2; omega)
theorem KM.pop {w0 : World} {B n : Nat} {W : World} {g cap k : Nat} {L : List Nat} {G : List (List Int × Value)} (h : KM w0 B n W (.slice (some ⟨g, 0, none⟩) (L.length + 1) cap) (L ++ [k]) G) : KM w0 B n W (.slice (some ⟨g, 0, none⟩) L.length cap) L G := by
  refine ⟨h.len, h.out, h.rows, ?_, h.dis, h.dst, h.old, h.size, h.base⟩
  have h1 := h.stk
  rw [List.map_append, List.length_append, List.length_singleton] at h1
  exact ownsRow_pop (by simp) h1

/-- The children of all nodes in memory. -/
def KidsAt (w : World) (B : Nat) (K : List (List Int)) : Prop := ∀ (i : Nat) ks, K[i]? = some ks → ∃ v, w.cell? ⟨B, i, none⟩ = some v ∧ SliceAt 1 w v (ks.map fun k => [.int .i64 k])
theorem KM.kids {w0 : World} {B n : Nat} {wr : World} {st : Value} {S : List Nat} {G : List (List Int × Value)} (h : KM w0 B n wr st S G) : KidsAt wr B (G.map (·.1)) := fun i ks hi => by
  rw [List.getElem?_map, Option.map_eq_some_iff] at hi
  obtain ⟨x, hx, rfl⟩ := hi
  have hl : i < G.length := (List.getElem?_eq_some_iff.1 hx).1
  have h1 := h.out.cellAt i (by have := h.len; omega)
  rw [List.getElem?_map, hx] at h1
  refine ⟨x.2, h1, ?_⟩
  have h2 := h.rows i x hx
  rcases Nat.eq_zero_or_pos x.1.length with h0 | h0
  · have e : x.1 = [] := List.eq_nil_of_length_eq_zero h0
    obtain ⟨a, c, hv⟩ := own_form h2
    exact .inl ⟨by rw [e]; rfl, a, c, by rw [hv, h0]⟩
  · obtain ⟨g, cap, hv, _, _⟩ := own_some h2 h0
    rw [hv] at h2
    refine .inr ⟨g, 0, cap, by rw [hv]; simp, by simpa using own_cap h2, fun j c hj q u hq => ?_⟩
    rw [List.getElem?_map, Option.map_eq_some_iff] at hj
    obtain ⟨z, hz, rfl⟩ := hj
    have hjl := (List.getElem?_eq_some_iff.1 hz).1
    match q, hq with
    | 0, hq =>
      cases hq
      have := h2.cellAt j (by omega)
      rw [List.getElem?_map, hz] at this
      simpa using this
    | q + 1, hq => simp at hq
end Go.Pri
end

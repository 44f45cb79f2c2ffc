/-
  PriorityOperators: parts of its proof (Pr15).
-/
import Derived.Deep.RegionLaw
import Derived.Test.YtfadmmecedicjaaGreatDoorK18
set_option linter.unusedVariables false
set_option linter.unusedSimpArgs false

section
/-
  Violations, walked.
-/
namespace Go.Pri
open Go Go.Abs Go.Proofs Go.RowKit Go.Lib Go.Maps

/-- The conflicts of a grammar are these filters, in whatever world to come. -/
def ConfAt (w : World) (g : Value) (F : List Fil) : Prop := ∀ w1, Old w w1 → Calls Tryz.prog 11 #[g] w1 fun e w2 => ∃ fv, e = .returned (.tuple #[fv, .int .i64 0]) ∧ SliceAt 9 w2 fv (F.map encF) ∧ Old w1 w2
theorem ConfAt.old {w w' : World} {g : Value} {F : List Fil} (h : ConfAt w g F) (ho : Old w w') : ConfAt w' g F := fun w1 h1 => h w1 (ho.trans h1)

set_option maxRecDepth 100000 in
set_option maxHeartbeats 8000000 in
theorem viol12 (a0 : Option Addr) (cap0 : Nat) (c3 c4 c5 c7 c8 tv : Value) (start : Int) (nt : Nat) (ps : List Prod') (l : List Nd) (out : List Int) (F : List Fil) (c : Int) (w : World)
    (hc : c = 0 ∨ c = 1) (htab : TabAt w) (hs : SliceAt 4 w tv (l.map encN)) (hg : GramAt w c3 c5 nt ps) (ht : TreeOK ps nt start l out) (hv : Valid w (.agg #[.slice a0 2 cap0, .slice none 0 0, .int .i64 1, c3, c4, c5, .int .i64 start, c7, c8]))
    (hK : ∀ (i : Nat) x f, l[i]? = some x → f ∈ F → f.par = x.p → ∃ ks kid y, (runK ps l l 0 ([], List.replicate l.length [])).2[i]? = some ks ∧ 0 ≤ f.pos ∧ ks[f.pos.toNat]? = some kid ∧ 0 ≤ kid ∧ l[kid.toNat]? = some y)
    (hpw : ∀ x ∈ l, (Lit.int .i64 x.p).wf = true) (hV20 : (violTo l (runK ps l l 0 ([], List.replicate l.length [])).2 F l.length).length < 20)
    (hf : ConfAt w (.agg #[.slice a0 2 cap0, .slice none 0 0, .int .i64 1, c3, c4, c5, .int .i64 start, c7, c8]) F) (hF : F.length ≤ 4096) (hwf : ∀ f ∈ F, (Lit.int .i64 f.par).wf = true) :
    Calls Tryz.prog 12 #[.agg #[.slice a0 2 cap0, .slice none 0 0, .int .i64 1, c3, c4, c5, .int .i64 start, c7, c8], .int .u64 c, tv] w fun e w' =>
      ∃ v, e = .returned (.tuple #[v, .int .i64 0]) ∧ SliceAt 3 w' v ((violTo l (runK ps l l 0 ([], List.replicate l.length [])).2 F l.length).map encV) ∧ Old w w' := by
  generalize hKK : (runK ps l l 0 ([], List.replicate l.length [])).2 = K at *
  have hO : Old w (w.alloc (.cells #[.slice a0 2 cap0, .slice none 0 0, .int .i64 1, c3, c4, c5, .int .i64 start, c7, c8] 37)) := (Old.refl w).alloc _
  have hb : ∀ wr, Old (w.alloc (.cells #[.slice a0 2 cap0, .slice none 0 0, .int .i64 1, c3, c4, c5, .int .i64 start, c7, c8] 37)) wr → ∀ (i : Nat) v, (#[.slice a0 2 cap0, .slice none 0 0, .int .i64 1, c3, c4, c5, .int .i64 start, c7, c8] : Array Value)[i]? = some v → wr.cell? ⟨w.heap.size, i, none⟩ = some v := fun wr h i v hi =>
    h.cell_some (by simpa using hi)
  obtain ⟨bt, off, capt, htv, hcell⟩ : ∃ bt off capt, tv = .slice (some ⟨bt, off, none⟩) l.length capt ∧ RowK 4 w bt off (l.map encN) := by
    rcases hs with ⟨h, _⟩ | ⟨bt, off, capt, h1, _, h2⟩
    · have := ht.sh.pos
      have : l = [] := by simpa using h
      simp [this] at *
    · exact ⟨bt, off, capt, by simpa using h1, h2⟩
  subst htv
  have h1 := hf _ hO
  have h2 := fun w2 (h : Old (w.alloc (.cells #[.slice a0 2 cap0, .slice none 0 0, .int .i64 1, c3, c4, c5, .int .i64 start, c7, c8] 37)) w2) => in34 a0 cap0 c3 c4 c5 (.int .i64 start) c7 c8 c hc w2 (htab.old (hO.trans h)) (hv.old (hO.trans h))
  have h3 := fun w2 (h : Old (w.alloc (.cells #[.slice a0 2 cap0, .slice none 0 0, .int .i64 1, c3, c4, c5, .int .i64 start, c7, c8] 37)) w2) => Shape35 a0 cap0 c3 c4 c5 c7 c8 _ start nt ps l out c w2 hc (htab.old (hO.trans h)) (hs.old (hO.trans h)) (hg.old (hO.trans h)) ht (hv.old (hO.trans h))
  have h4 := fun w2 (h : Old (w.alloc (.cells #[.slice a0 2 cap0, .slice none 0 0, .int .i64 1, c3, c4, c5, .int .i64 start, c7, c8] 37)) w2) => kids37 (.slice a0 2 cap0) (.slice none 0 0) (.int .i64 1) c3 c4 c5 (.int .i64 start) c7 c8 _ nt ps l w2 (hs.old (hO.trans h)) (hg.old (hO.trans h)) ht.sh.ok ht.sh.pos ht.sh.le
  rw [hKK] at h4
  have hhold := fun w2 (h : Old w w2) => holds36 c hc (htab.old h)
  replace h1 : Aside _ := h1
  replace h2 : Aside _ := h2
  replace h3 : Aside _ := h3
  replace h4 : Aside _ := h4
  replace hb : Aside _ := hb
  replace hhold : Aside _ := hhold
  replace hcell : Aside _ := hcell
  replace hs : Aside _ := hs
  replace ht : Aside _ := ht
  replace hO : Aside _ := hO
  replace hwf : Aside _ := hwf
  replace hK : Aside _ := hK
  replace hpw : Aside _ := hpw
  clear hv hf hg htab
  have hmm := @run_makeMap Tryz.prog
  go_enter Tryz.func12, Tryz.ntmps12
  go_wp2_with (first
    | (go_at_call 11; refine Calls.mono h1.out ?_; rintro e w2 ⟨fv, rfl, hfv, hk⟩; obtain ⟨af, cf, hff⟩ := hfv.form; simp only [List.length_map] at hff; subst hff; replace hfv : Aside _ := hfv; have d0 := hb.out w2 hk 0 _ rfl; have d1 := hb.out w2 hk 1 _ rfl; have d2 := hb.out w2 hk 2 _ rfl; have d3 := hb.out w2 hk 3 _ rfl; have d4 := hb.out w2 hk 4 _ rfl; have d5 := hb.out w2 hk 5 _ rfl; have d6 := hb.out w2 hk 6 _ rfl; have d7 := hb.out w2 hk 7 _ rfl; have d8 := hb.out w2 hk 8 _ rfl)
    | (go_at_call 34; refine Calls.mono (h2.out w2 hk) ?_; rintro e w3 ⟨rfl, hk3⟩; have hk3' := hk.trans hk3; have e0 := hb.out w3 hk3' 0 _ rfl; have e1 := hb.out w3 hk3' 1 _ rfl; have e2 := hb.out w3 hk3' 2 _ rfl; have e3 := hb.out w3 hk3' 3 _ rfl; have e4 := hb.out w3 hk3' 4 _ rfl; have e5 := hb.out w3 hk3' 5 _ rfl; have e6 := hb.out w3 hk3' 6 _ rfl; have e7 := hb.out w3 hk3' 7 _ rfl; have e8 := hb.out w3 hk3' 8 _ rfl)
    | (go_at_call 35; refine Calls.mono (h3.out w3 hk3') ?_; rintro e w4 ⟨rfl, hk4⟩))
  have hk4' := hk3'.trans hk4
  have hfv4 : Aside (SliceAt 9 w4 (.slice af F.length cf) (F.map encF)) := SliceAt.old (w := w2) hfv.out (hk3.trans hk4)
  have hM0 := World.ownsGroups_made (H := Unit) w4 Tryz.prog 3 3 .i64
  have hOM : Old w4 (w4.alloc (.map #[] 0)) := (Old.refl w4).alloc _
  replace hM0 : Aside _ := hM0
  replace hk4' : Aside _ := hk4'
  replace hOM : Aside _ := hOM
  clear hmm h1 h2 h3 d0 d1 d2 d3 d4 d5 d6 d7 d8 e0 e1 e2 e3 e4 e5 e6 e7 e8 hfv
  go_loopg [42] F.length (fun gg s wr => ∃ (kk : Nat), s = .int .i64 kk ∧ F.length - kk ≤ gg ∧ kk ≤ F.length ∧ Aside (∃ D : DatU, RulesOK D (rulesTo F kk) ∧ wr.ownsGroups Tryz.prog 3 (w4.heap.size + 1) 3 .i64 w4.heap.size kk D) ∧ Aside (Old w4 wr))
  case atStart => exact ⟨0, rfl, by omega, by omega, ⟨.map [], rules_init, hM0.out⟩, hOM.out⟩
  case round =>
    obtain ⟨kk, rfl, hgk, hkl, hD, hOr⟩ := hrel
    by_cases hlt : kk < F.length
    · have hlt' : (kk : Int) < F.length := by omega
      obtain ⟨⟨par, pos, ch⟩, hf⟩ : ∃ f, F[kk]? = some f := ⟨_, List.getElem?_eq_getElem hlt⟩
      obtain ⟨bf, of, cf', hce, hcf⟩ := (SliceAt.old (w := w4) hfv4.out hOr.out).at (j := kk) (c := encF ⟨par, pos, ch⟩) (by simp [hf])
      simp only [List.length_map] at hce
      cases hce
      have f0 := hcf 0 _ rfl
      have f1 := hcf 1 _ rfl
      have f2 := hcf 2 _ rfl
      have f3 := hcf 3 _ rfl
      have f4 := hcf 4 _ rfl
      have f5 := hcf 5 _ rfl
      have f6 := hcf 6 _ rfl
      have f7 := hcf 7 _ rfl
      have f8 := hcf 8 _ rfl
      simp only [Nat.add_zero] at f0
      have hOb : Old wr (wr.alloc (.cells #[.int .i64 1, .int .i64 par, .int .i64 pos, .int .i64 ch, .int .i64 0, .int .i64 0, .slice none 0 0, .slice none 0 0, .int .i64 1] 59)) := (Old.refl wr).alloc _
      have hh := hhold.out (wr.alloc (.cells #[.int .i64 1, .int .i64 par, .int .i64 pos, .int .i64 ch, .int .i64 0, .int .i64 0, .slice none 0 0, .slice none 0 0, .int .i64 1] 59)) (((hO.out.trans hk4'.out).trans hOr.out).trans hOb)
      have hx : ∀ i v, (#[.int .i64 1, .int .i64 par, .int .i64 pos, .int .i64 ch, .int .i64 0, .int .i64 0, .slice none 0 0, .slice none 0 0, .int .i64 1] : Array Value)[i]? = some v → (wr.alloc (.cells #[.int .i64 1, .int .i64 par, .int .i64 pos, .int .i64 ch, .int .i64 0, .int .i64 0, .slice none 0 0, .slice none 0 0, .int .i64 1] 59)).cell? ⟨wr.heap.size, i, none⟩ = some v := fun i v h => by simpa using h
      replace hh : Aside _ := hh
      replace hx : Aside _ := hx
      replace hf : Aside _ := hf
      replace hOb : Aside _ := hOb
      clear hcf
      go_wp2_with (first
        | (go_at_call 36; refine Calls.mono hh.out ?_; rintro e w5 ⟨rfl, hk5⟩; have y1 := hk5.cell_some (hx.out 1 _ rfl)))
      have hO5 : Old wr w5 := hOb.out.trans hk5.old
      obtain ⟨D, hR, hG⟩ := hD.out
      have hG5 := groups_old hG hO5
      have hOal : Old w5 (w5.alloc (.cells #[.int .i64 kk] 3)).drew := ((Old.refl w5).alloc _).drew
      have hwp : (Lit.int .i64 par).wf = true := hwf.out _ (List.mem_of_getElem? hf.out)
      have hwk : (Lit.int .i64 (kk : Int)).wf = true := wf_nat (by omega)
      obtain ⟨v1, zs1, l1, a1, o1, n1, b1⟩ := (groups_old hG5 ((Old.refl w5).drew)).at (int_keyed Tryz.underlying3) Tryz.underlying104 (Tryz.zeroValue39 _) (by unfold maxLen; omega) (keyOf_int_mk Tryz.underlying3 hwp)
      obtain ⟨v2, zs2, l2, a2, o2, n2, b2⟩ := (groups_old hG5 hOal).at (int_keyed Tryz.underlying3) Tryz.underlying104 (Tryz.zeroValue39 _) (by unfold maxLen; omega) (keyOf_int_mk Tryz.underlying3 hwp)
      have hfs : F[kk]? = some ⟨par, pos, ch⟩ := hf.out
      have hW5 : Old w4 w5 := hOr.out.trans hO5
      have hsz5 : w4.heap.size + 1 ≤ w5.heap.size := by
        obtain ⟨es, clk, hbM, _⟩ := hG5
        have := (Array.getElem?_eq_some_iff.1 hbM).1
        omega
      have hga : ∀ row, w5.drew.grownBy (w5.alloc (.cells #[.int .i64 kk] 3)).drew row := fun row => by
        have h := World.grownBy_alloc w5 (.cells #[.int .i64 kk] 3) row
        exact ⟨h.os, h.tape, h.output, h.size, h.block⟩
      have hA := fun (w6 : World) (v' : Value) (hg6 : (w5.alloc (.cells #[.int .i64 kk] 3)).drew.grownBy w6 v1.ownBlock) (ho6 : w6.ownsInts (w4.heap.size + 1) 3 .i64 v' (zs1 ++ [(kk : Int)])) (hl6 : v'.ownBlock = v1.ownBlock ∨ ∃ g, v'.ownBlock = some g ∧ w5.heap.size ≤ g) =>
        rules_step (W := w5.drew) (W2 := (w5.alloc (.cells #[.int .i64 kk] 3)).drew) hfs hR hwp b1 a1 o1 n1 hW5.drew rfl ⟨(hga none).os, (hga none).output, (hga none).size, fun k hk => (hga none).block k hk (by simp)⟩ hg6 ho6 hl6 ((hga _).trans hg6)
      have hB := fun (w6 : World) (v' : Value) (hg6 : (w5.alloc (.cells #[.int .i64 kk] 3)).drew.grownBy w6 v2.ownBlock) (ho6 : w6.ownsInts (w4.heap.size + 1) 3 .i64 v' (zs2 ++ [(kk : Int)])) (hl6 : v'.ownBlock = v2.ownBlock ∨ ∃ g, v'.ownBlock = some g ∧ (w5.alloc (.cells #[.int .i64 kk] 3)).drew.heap.size ≤ g) =>
        rules_step (W := (w5.alloc (.cells #[.int .i64 kk] 3)).drew) (W2 := (w5.alloc (.cells #[.int .i64 kk] 3)).drew) hfs hR hwp b2 a2 o2 n2 (hW5.trans hOal) rfl (Old.refl _) hg6 ho6 hl6 hg6
      have o1' : (w5.alloc (.cells #[.int .i64 kk] 3)).drew.ownsInts (w4.heap.size + 1) 3 .i64 v1 zs1 := ints_old o1 ⟨(hga none).os, (hga none).output, (hga none).size, fun k hk => (hga none).block k hk (by simp)⟩
      have hszW : w4.heap.size + 1 ≤ (w5.alloc (.cells #[.int .i64 kk] 3)).drew.heap.size := Nat.le_trans hsz5 hOal.size
      have hz1 : zs1.length ≤ 2000000 := by omega
      have hz2 : zs2.length ≤ 2000000 := by omega
      have m0 : (w5.alloc (.cells #[.int .i64 kk] 3)).drew.cell? ⟨w5.heap.size, 0, none⟩ = some (.int .i64 kk) := by simp
      have hbx : (w5.alloc (.cells #[.int .i64 kk] 3)).drew.heap[wr.heap.size]? = some (.cells #[.int .i64 1, .int .i64 par, .int .i64 pos, .int .i64 ch, .int .i64 0, .int .i64 0, .slice none 0 0, .slice none 0 0, .int .i64 1] 59 (0, 0)) := by
        have e1 := World.alloc_heap_new wr (.cells #[.int .i64 1, .int .i64 par, .int .i64 pos, .int .i64 ch, .int .i64 0, .int .i64 0, .slice none 0 0, .slice none 0 0, .int .i64 1] 59)
        have e2 := hk5.heap _ (Array.getElem?_eq_some_iff.1 e1).1
        have e3 := hOal.heap wr.heap.size (Nat.lt_of_lt_of_le (Array.getElem?_eq_some_iff.1 e1).1 hk5.size)
        exact e3.trans (e2.trans e1)
      have hyA : ∀ w6 : World, (w5.alloc (.cells #[.int .i64 kk] 3)).drew.grownBy w6 v1.ownBlock → w6.cell? ⟨wr.heap.size, 1, none⟩ = some (.int .i64 par) := fun w6 h => h.cell (by have := ((Old.refl w5).alloc (.cells #[.int .i64 kk] 3)).cell_some y1; simpa using this) (not_row hbx (by decide) o1'.1)
      have hyB : ∀ w6 : World, (w5.alloc (.cells #[.int .i64 kk] 3)).drew.grownBy w6 v2.ownBlock → w6.cell? ⟨wr.heap.size, 1, none⟩ = some (.int .i64 par) := fun w6 h => h.cell (by have := ((Old.refl w5).alloc (.cells #[.int .i64 kk] 3)).cell_some y1; simpa using this) (not_row hbx (by decide) o2.1)
      replace hyA : Aside _ := hyA
      replace hyB : Aside _ := hyB
      clear hbx
      replace hA : Aside _ := hA
      replace hB : Aside _ := hB
      replace hf : Aside _ := hf
      replace o1' : Aside _ := o1'
      replace o2 : Aside _ := o2
      replace m0 : Aside _ := m0
      have y1' := ((Old.refl w5).alloc (.cells #[.int .i64 kk] 3)).cell_some y1
      have hmix : Tryz.prog.follows Departure.mixedOrders = true := rfl
      clear hD hG hG5 b1 b2 a1 a2 o1 hR hh hx hOb hk5 hO5 hOal hga hfs hW5 hOr
      go_region_law (first
        | (refine step3 (.tmp 57) (.tmp 59) _ (w4.heap.size + 1) v1 zs1 kk w5.heap.size rfl rfl o1'.out hszW hz1 rfl rfl m0.out hwk ?_; intro g cap w6 ho6 hg6 hat6; obtain ⟨w7, hrun7, hI7, hO7⟩ := hA.out w6 _ hg6 ho6 (by rcases hat6 with h | h; exact .inl h.symm; exact .inr ⟨g, rfl, by rw [h]; simp⟩); have y6 := hyA.out w6 hg6)
        | (refine step3 (.tmp 57) (.tmp 59) _ (w4.heap.size + 1) v2 zs2 kk w5.heap.size rfl rfl o2.out hszW hz2 rfl rfl m0.out hwk ?_; intro g cap w6 ho6 hg6 hat6; obtain ⟨w7, hrun7, hI7, hO7⟩ := hB.out w6 _ hg6 ho6 (by rcases hat6 with h | h; exact .inl h.symm; exact .inr ⟨g, rfl, by rw [h]; exact Nat.le_refl _⟩); have y6 := hyB.out w6 hg6))
      all_goals go_wp2
      all_goals go_roundg (F.length - (kk + 1))
      all_goals first
        | (exact ⟨kk + 1, by go_num, by omega, by omega, hI7, hO7⟩)
        | omega
    · have hkn : kk = F.length := by omega
      subst hkn
      have hOr4 := hk4'.out.trans hOr.out
      have hk := hb.out wr hOr4
      have d0 := hk 0 _ rfl
      have d1 := hk 1 _ rfl
      have d2 := hk 2 _ rfl
      have d3 := hk 3 _ rfl
      have d4 := hk 4 _ rfl
      have d5 := hk 5 _ rfl
      have d6 := hk 6 _ rfl
      have d7 := hk 7 _ rfl
      have d8 := hk 8 _ rfl
      have hk37 := h4.out wr hOr4
      replace hk37 : Aside _ := hk37
      replace hOr4 : Aside _ := hOr4
      clear h4 hM0 hOM hk hhold
      go_wp2_with (first
        | (go_at_call 37; refine Calls.mono hk37.out ?_; rintro e w6 ⟨b, rfl, hkids, hO6⟩))
      clear hk37 d0 d1 d2 d3 d4 d5 d6 d7 d8
      obtain ⟨D, hR, hG⟩ := hD.out
      have hG6 := groups_old hG hO6
      have hOw6 : Old w w6 := (hO.out.trans hOr4.out).trans hO6
      have hO46 : Old w4 w6 := hOr.out.trans hO6
      replace hkids : Aside _ := hkids
      replace hR : Aside _ := hR
      replace hG6 : Aside _ := hG6
      replace hOw6 : Aside _ := hOw6
      replace hO46 : Aside _ := hO46
      clear hD hOr hG hO6 hOr4
      have hll : l.length ≤ 2000000 := ht.out.sh.le
      go_loopg [15, 67] l.length (fun gg s15 s67 wr => ∃ (i : Nat), s67 = .int .i64 i ∧ l.length - i ≤ gg ∧ i ≤ l.length ∧ Aside (wr.ownsRow w6.heap.size 61 3 s15 (violTo l K F i).length (cellsV (violTo l K F i))) ∧ Aside (Old w6 wr))
      case atStart => exact ⟨0, rfl, by omega, by omega, World.ownsRow_nil _ _ _ _, Old.refl w6⟩
      case round =>
        obtain ⟨i, rfl, hgi, hil, hVr, hOi⟩ := hrel
        by_cases hlt : i < l.length
        · have hlt' : (i : Int) < l.length := by omega
          obtain ⟨⟨xp, xt, xf, xo⟩, hx⟩ : ∃ x, l[i]? = some x := ⟨_, List.getElem?_eq_getElem hlt⟩
          have hOwi := hOw6.out.trans hOi.out
          have e0 := hOwi.cell_some (hcell.out i (encN ⟨xp, xt, xf, xo⟩) (by simp [hx]) 0 _ rfl)
          have e1 := hOwi.cell_some (hcell.out i (encN ⟨xp, xt, xf, xo⟩) (by simp [hx]) 1 _ rfl)
          have e2 := hOwi.cell_some (hcell.out i (encN ⟨xp, xt, xf, xo⟩) (by simp [hx]) 2 _ rfl)
          have e3 := hOwi.cell_some (hcell.out i (encN ⟨xp, xt, xf, xo⟩) (by simp [hx]) 3 _ rfl)
          simp only [Nat.add_zero] at e0 e1 e2 e3
          have hwx : (Lit.int .i64 xp).wf = true := hpw.out _ (List.mem_of_getElem? hx)
          have hOx : Old wr (wr.alloc (.cells #[.int .i64 xp, .int .i64 xt, .int .i64 xf, .int .i64 xo] 79)) := (Old.refl wr).alloc _
          obtain ⟨v1, zs1, l1, a1, o1, n1, _⟩ := (groups_old hG6.out (hOi.out.trans hOx)).at (int_keyed Tryz.underlying3) Tryz.underlying104 (Tryz.zeroValue39 _) (by unfold maxLen; omega) (keyOf_int_mk Tryz.underlying3 hwx)
          have hz := RulesOK.look (R := rulesTo F F.length) hR.out hwx a1 o1
          obtain ⟨av, cv, hv1⟩ := own_form o1.1
          subst hv1
          have hVx := own_old hVr.out hOx
          have hOix := hOi.out.trans hOx
          have hv2 : violTo l K F (i + 1) = violTo l K F i ++ violAt l K F i zs1 := by simp only [violTo, hx, hz]
          have hzm : ∀ k ∈ zs1, 0 ≤ k ∧ k < F.length ∧ ∃ f, F[k.toNat]? = some f ∧ f.par = xp := fun k hk => rulesTo_mem (by rw [← hz]; exact hk)
          have hy0 := hOx.cell_some e0
          replace hx : Aside _ := hx
          replace hv2 : Aside _ := hv2
          replace hzm : Aside _ := hzm
          replace hVx : Aside _ := hVx
          replace hOix : Aside _ := hOix
          replace o1 : Aside _ := o1
          clear hz a1 hOx hOwi hwx
          go_wp2
          go_loopg [15, 77] zs1.length (fun gg s15 s77 wr2 => ∃ (j : Nat) (V : List (Nat × Int)), s77 = .int .i64 j ∧ zs1.length - j ≤ gg ∧ j ≤ zs1.length ∧ Aside (V = violTo l K F i ++ violAt l K F i (zs1.take j)) ∧ Aside (wr2.ownsRow w6.heap.size 61 3 s15 V.length (cellsV V)) ∧
            Aside (wr2.ownsInts (w4.heap.size + 1) 3 .i64 (.slice av zs1.length cv) zs1) ∧ Aside (Old w6 wr2))
          case atStart => exact ⟨0, _, rfl, by omega, by omega, (show Aside (violTo l K F i = _) from by simp [Aside, violAt]), hVx, o1, hOix⟩
          case round =>
            obtain ⟨j, V, rfl, hgj, hjl, hVe, hVo, hIo, hO2⟩ := hrel
            by_cases hj : j < zs1.length
            · have hj' : (j : Int) < zs1.length := by omega
              obtain ⟨k, hk⟩ : ∃ k, zs1[j]? = some k := ⟨_, List.getElem?_eq_getElem hj⟩
              obtain ⟨g, cg, hge, hgc⟩ := int_at hIo.out hk
              cases hge
              obtain ⟨hk0, hkn, ⟨par, pos, ch⟩, hf, hpar⟩ := hzm.out k (List.mem_of_getElem? hk)
              have hO42 := hO46.out.trans hO2.out
              obtain ⟨bf, of, cf', hce, hcf⟩ := (SliceAt.old (w := w4) hfv4.out hO42).at (j := k.toNat) (c := encF ⟨par, pos, ch⟩) (by simp [hf])
              simp only [List.length_map] at hce
              cases hce
              obtain ⟨ks, kid, y, hki, hpos0, hkid, hkid0, hyl⟩ := hK.out i _ ⟨par, pos, ch⟩ hx.out (List.mem_of_getElem? hf) hpar
              have hvio : vio l K F i k = (y.p == ch) := by simp only [vio, hf, hki, hkid, hyl]
              have hcall := violates38 (.slice (some ⟨bt, off, none⟩) l.length capt) b l.length l.length i K l ks par pos ch kid y (.int .i64 0) (.int .i64 0) (.slice none 0 0) (.slice none 0 0) (.int .i64 1) wr
                (KidsAt.old (w := w6) hkids.out hO2.out) (SliceAt.old (w := w) hs.out (hOw6.out.trans hO2.out)) hki hlt hpos0 hkid hkid0 hyl
              have f0 := hcf 0 _ rfl
              have f1 := hcf 1 _ rfl
              have f2 := hcf 2 _ rfl
              have f3 := hcf 3 _ rfl
              have f4 := hcf 4 _ rfl
              have f5 := hcf 5 _ rfl
              have f6 := hcf 6 _ rfl
              have f7 := hcf 7 _ rfl
              have f8 := hcf 8 _ rfl
              simp only [Nat.add_zero] at f0
              have hsn := violAt_snoc (l := l) (K := K) (F := F) (i := i) hk
              rw [hvio] at hsn
              have hVl : V.length ≤ 2000000 := by
                have q1 := violTo_le l K F (i + 1) l.length hlt
                have q2 := violAt_le l K F i zs1 j
                rw [hv2.out, List.length_append] at q1
                rw [hVe.out, List.length_append]
                omega
              clear hcf hki hkid hyl hf hvio hk
              cases hbb : (y.p == ch) with
              | false =>
                rw [hbb] at hcall hsn
                replace hcall : Aside _ := hcall
                have hV2 : V = violTo l K F i ++ violAt l K F i (zs1.take (j + 1)) := by rw [hsn, hVe.out]; simp
                replace hV2 : Aside _ := hV2
                clear hsn hbb
                go_wp2_with (go_at_call 38; refine Calls.mono hcall.out ?_; rintro e w7 ⟨rfl, hk7⟩)
                go_roundg (zs1.length - (j + 1))
                case measure => omega
                case rel => exact ⟨j + 1, V, by go_num, by omega, by omega, hV2, own_old hVo.out hk7, ints_old hIo.out hk7, hO2.out.trans hk7⟩
              | true =>
                rw [hbb] at hcall hsn
                replace hcall : Aside _ := hcall
                have hV2 : V ++ [(i, k)] = violTo l K F i ++ violAt l K F i (zs1.take (j + 1)) := by rw [hsn, hVe.out]; simp
                replace hV2 : Aside _ := hV2
                clear hsn hbb
                have hbv : ∀ q, (_ : Value).ownBlock = some q → w6.heap.size ≤ q := fun q hq => (hVo.out.lt q hq).1
                replace hbv : Aside _ := hbv
                go_wp2_with (first
                  | (go_at_call 38; refine Calls.mono hcall.out ?_; rintro e w7 ⟨rfl, hk7⟩; have f0' := hk7.cell_some f0)
                  | (at_builtin; have hO7 := hk7.trans ((Old.refl w7).alloc (.cells #[.int .i64 1, .int .i64 i, .int .i64 k] 61)); have hO67 := hO2.out.trans hO7; have hV7 := own_old hVo.out hO7; have hI7 := ints_old hIo.out hO7; refine pushV (.tmp 89) (.tmp 98) _ w6.heap.size _ V i k w7.heap.size rfl rfl hV7 hO67.size hVl rfl rfl (by simp) (by simp) (by simp) ?_; intro v' w8 hown8 hgrow8))
                go_roundg (zs1.length - (j + 1))
                case measure => omega
                case rel => exact ⟨j + 1, V ++ [(i, k)], by go_num, by omega, by omega, hV2, hown8, hI7.kept hgrow8 (rows_apart hI7 hV7), hO67.grown hgrow8 hbv.out⟩
            · have hjn : j = zs1.length := by omega
              subst hjn
              have hVf : V = violTo l K F (i + 1) := by rw [hVe.out, List.take_of_length_le (Nat.le_refl _), hv2.out]
              subst hVf
              clear hVe
              go_wp2
              go_roundg (l.length - (i + 1))
              case measure => omega
              case rel => exact ⟨i + 1, by go_num, by omega, by omega, hVo, hO2⟩
        · have hin : i = l.length := by omega
          subst hin
          have hsort := sort39 _ _ _ wr (own_viols hVr.out) rfl hV20
          have hsl := own_viols hVr.out
          obtain ⟨asl, csl, hss⟩ := own_form hVr.out
          subst hss
          have hOe := hOw6.out.trans hOi.out
          replace hsort : Aside _ := hsort
          replace hsl : Aside _ := hsl
          replace hOe : Aside _ := hOe
          clear hVr hOi
          go_wp2_with (go_at_call 39; refine Calls.mono hsort.out ?_; rintro e w9 ⟨⟨u, rfl⟩, hk9⟩)
          go_ret2
          exact ⟨_, rfl, SliceAt.old (w := wr) hsl.out hk9, hOe.out.trans hk9⟩
end Go.Pri
end

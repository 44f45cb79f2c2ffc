/-
  PriorityOperators: parts of its proof (La1).
-/
import Derived.Test.YtfadmmecedicjaaGreatDoorK25
import Derived.Test.YtfadmmecedicjaaGreatDoorK28
import Derived.Test.YtfadmmecedicjaaGreatDoorK32
import Derived.Test.YtfadmmecedicjaaGreatDoorK34
import Derived.Test.YtfadmmecedicjaaGreatDoorK38
set_option linter.unusedVariables false
set_option linter.unusedSimpArgs false

section
/-
  The law PriorityOperators: walked, with what is said of the trees for hypothesis.
-/
namespace Go.Pri
open Go Go.Abs Go.Proofs Go.RowKit Go.Lib
set_option maxRecDepth 100000
set_option maxHeartbeats 8000000

/-- One number, at a step of a draw. -/
theorem step3i {ops : Array Oper} {o : Oper} {a : Act} {K : Act → World → Prop} {Q : Exit → Act → World → Prop} {E : Prop} (s x : Operand) (W : World) (base : Nat) (v : Value) (V : List Int) (y : Int) (b n : Nat) (hVn : V.length = n)
    (hgd : o.guard = none) (ho : o.op = .call { callee := .builtin .append, args := #[s, x], argTypes := #[39, 39] })
    (hown : W.ownsRow base 3 1 v V.length (V.map (Value.int .i64))) (hb : base ≤ W.heap.size) (hn : V.length ≤ 4000)
    (hs : a.eval s = v) (hx : a.eval x = .slice (some ⟨b, 0, none⟩) 1 1) (m : W.cell? ⟨b, 0, none⟩ = some (.int .i64 y))
    (h : ∀ g cap w', w'.ownsRow base 3 1 (.slice (some ⟨g, 0, none⟩) (n + 1) cap) (V ++ [y]).length ((V ++ [y]).map (Value.int .i64)) → W.grownBy w' v.ownBlock → K (a.put o.dst (.slice (some ⟨g, 0, none⟩) (n + 1) cap)) w') :
    if Region.wanted o (yielded ops a.tmps) = true then Oper.wp Tryz.prog o a W K Q else E := by
  subst hVn
  obtain ⟨i6, hi6, hz6, hs6, hb6⟩ := info_parts info3
  refine step_append_lies _ hgd s x 39 ho base 3 i6 (.int .i64 0) 1 8 Tryz.underlying39 hi6 hz6 hs6 hb6 rfl (by decide) v V.length (V.map (Value.int .i64)) hs hown ⟨b, 0, none⟩ 1 1 [.int .i64 y] hx rfl ?_ ?_ (by decide) ?_ ?_ hb _ rfl ?_
  · intro j u hj
    match j, hj with
    | 0, hj => simp at hj; subst hj; simpa [Addr.add] using m
    | j + 1, hj => simp at hj
  · intro u hu
    simp at hu
    subst hu
    rfl
  · unfold maxLen; omega
  · omega
  · intro g cap w' h1 h2 h3 _
    refine h _ _ w' ?_ h2
    rw [List.length_append, List.map_append]
    simpa using h1
theorem rto_grown {K : Nat} {a b : World} {row : Option Nat} (h : a.grownBy b row) (hr : ∀ k, row = some k → K ≤ k) : RTo K a b := fun hK =>
  ⟨Nat.le_trans hK h.size, h.os, h.output, h.size, fun k hk => h.block k (by omega) (fun e => by have := hr k e.symm; omega)⟩

abbrev xv (m l0 l1 l2 l3 s0 s1 s2 : Int) : Value := .agg #[.int .u8 m, .int .u8 l0, .int .u8 l1, .int .u8 l2, .int .u8 l3, .int .u8 s0, .int .u8 s1, .int .u8 s2]

theorem law3 (m l0 l1 l2 l3 s0 s1 s2 : Int) (bs : List Int) (bv : Value) (w : World) (hm : 0 ≤ m ∧ m ≤ 255) (hL : ∀ i, 0 ≤ lvN l0 l1 l2 l3 i ∧ lvN l0 l1 l2 l3 i ≤ 255) (hS : ∀ k, 0 ≤ asN s0 s1 s2 k ∧ asN s0 s1 s2 k ≤ 255) (htab : TabAt w)
    (hbs : SliceAt 1 w bv (bs.map fun b => [.int .u8 b])) (hb : ∀ b ∈ bs, 0 ≤ b ∧ b ≤ 255) (hsan : ∀ X, Old w X → Calls Tryz.prog 4 #[] X fun e X' => e = .returned (.bool true) ∧ Old X X')
    (ops : List Nat) (gt : List Nd) (flag : Bool) (T : List (List Nd)) (F : List Fil) (n : Nat) (hn : n = (1 + m % 4).toNat) (hops : ops = (bs.take 5).map fun b => (b % (1 + m % 4)).toNat)
    (hGr : groupN (lvN l0 l1 l2 l3) (asN s0 s1 s2) ops 5 (bs.take 5).length 0 = (gt, flag)) (hTr : treesN ops 5 (bs.take 5).length 0 = T) (hF : rulesF (lvAll (1 + m % 4).toNat (lvN l0 l1 l2 l3) (asN s0 s1 s2) 3) = F)
    (hTl : T.length ≤ 1000) (hFl : F.length ≤ 4096) (hFw : ∀ f ∈ F, (Lit.int .i64 f.par).wf = true) (hpk : ∀ l ∈ T, Pack n F l gt flag) :
    Calls Tryz.prog 3 #[.agg #[.int .u8 m, .int .u8 l0, .int .u8 l1, .int .u8 l2, .int .u8 l3, .int .u8 s0, .int .u8 s1, .int .u8 s2], bv] w fun e w' => e = .returned (.bool true) ∧ Old w w' := by
  obtain ⟨ab, cb, hva⟩ := hbs.form
  rw [List.length_map] at hva
  subst hva
  have hO0 : Old w (w.alloc (.cells #[.int .u8 m, .int .u8 l0, .int .u8 l1, .int .u8 l2, .int .u8 l3, .int .u8 s0, .int .u8 s1, .int .u8 s2] 25)) := (Old.refl w).alloc _
  have hbox2 : ∀ X, Old (w.alloc (.cells #[.int .u8 m, .int .u8 l0, .int .u8 l1, .int .u8 l2, .int .u8 l3, .int .u8 s0, .int .u8 s1, .int .u8 s2] 25)) X → ∀ (i : Nat) v, (#[.int .u8 m, .int .u8 l0, .int .u8 l1, .int .u8 l2, .int .u8 l3, .int .u8 s0, .int .u8 s1, .int .u8 s2] : Array Value)[i]? = some v → X.cell? ⟨w.heap.size, i, none⟩ = some v := fun X h i v hi => by
    refine h.cell_some ?_
    simp [hi]
  have hsan0 := hsan _ hO0
  have hgram := fun (X : World) (hX : Old w X) => grammar5 m l0 l1 l2 l3 s0 s1 s2 X hm hL hS (htab.old hX)
  have hnum := fun (X : World) => num6 m l0 l1 l2 l3 s0 s1 s2 hm X
  replace hsan0 : Aside _ := hsan0
  replace hgram : Aside _ := hgram
  replace hnum : Aside _ := hnum
  replace hO0 : Aside _ := hO0
  replace hbox2 : Aside _ := hbox2
  replace hpk : Aside _ := hpk
  replace hbs : Aside _ := hbs
  replace hb : Aside _ := hb
  replace hL : Aside _ := hL
  replace hS : Aside _ := hS
  replace htab : Aside _ := htab
  clear hsan
  replace hops : Aside _ := hops
  replace hGr : Aside _ := hGr
  replace hTr : Aside _ := hTr
  replace hFw : Aside _ := hFw
  replace hFl : Aside _ := hFl
  go_enter Tryz.func3, Tryz.ntmps3
  go_wp2_with (first
    | (go_at_call 4; refine Calls.mono hsan0.out ?_; rintro e w2 ⟨rfl, hk2⟩; have hb2 := hbox2.out _ hk2; have f0 := hb2 0 _ rfl; have f1 := hb2 1 _ rfl; have f2 := hb2 2 _ rfl; have f3 := hb2 3 _ rfl; have f4 := hb2 4 _ rfl; have f5 := hb2 5 _ rfl; have f6 := hb2 6 _ rfl; have f7 := hb2 7 _ rfl; clear hb2; replace hk2 : Aside _ := hk2)
    | (go_at_call 5; refine Calls.mono (hgram.out _ (hO0.out.trans hk2.out)) ?_; rintro e w3 ⟨gv, rfl, hk3, hG3⟩; obtain ⟨hlv, a0, k0, c3, c4, c5, c7, rfl, hV3, hC3, hG3, ⟨a4, n4, k4, rfl⟩, ⟨a7, n7, k7, rfl⟩⟩ := hG3; obtain ⟨a3, k3, rfl⟩ : ∃ a3 k3, c3 = .slice a3 11 k3 := (by obtain ⟨ts, h1, h2, _⟩ := hG3.toks; obtain ⟨a, c, h⟩ := h1.form; exact ⟨a, c, by rw [h, h2]⟩); obtain ⟨a5, n5, k5, rfl⟩ : ∃ a5 n5 k5, c5 = .slice a5 n5 k5 := (by obtain ⟨ts, h1, _⟩ := hG3.prods; obtain ⟨a, c, h⟩ := h1.form; exact ⟨a, _, c, h⟩); replace hlv : Aside _ := hlv; replace hV3 : Aside _ := hV3; replace hC3 : Aside _ := hC3; replace hG3 : Aside _ := hG3; replace hk3 : Aside _ := hk3))
  -- the grammar lies in its box
  have hGO : Old w3 (w3.alloc (.cells #[.slice a0 2 k0, .slice none 0 0, .int .i64 1, .slice a3 11 k3, .slice a4 n4 k4, .slice a5 n5 k5, .int .i64 0, .slice a7 n7 k7, .slice none 0 0] 37)) := (Old.refl _).alloc _
  have hsz3 : w.heap.size + 1 ≤ w3.heap.size := by have := hk2.out.size; have := hk3.out.size; rw [World.size_alloc] at *; omega
  have hown0 : ((w3.alloc (.cells #[.slice a0 2 k0, .slice none 0 0, .int .i64 1, .slice a3 11 k3, .slice a4 n4 k4, .slice a5 n5 k5, .int .i64 0, .slice a7 n7 k7, .slice none 0 0] 37)).alloc (.cells #[] 3)).ownsRow (w3.heap.size + 1) 3 1 (.slice (some ⟨w3.heap.size + 1, 0, none⟩) 0 0) ([] : List Int).length (([] : List Int).map (Value.int .i64)) :=
    ⟨rfl, .inr ⟨_, 0, #[], rfl, Nat.le_refl _, by have := World.alloc_heap_new (w3.alloc (.cells #[.slice a0 2 k0, .slice none 0 0, .int .i64 1, .slice a3 11 k3, .slice a4 n4 k4, .slice a5 n5 k5, .int .i64 0, .slice a7 n7 k7, .slice none 0 0] 37)) (.cells #[] 3); rwa [World.size_alloc] at this, Nat.le_refl _, Nat.zero_le _, rfl, rfl⟩⟩
  have hboxG : ∀ X, Old (w3.alloc (.cells #[.slice a0 2 k0, .slice none 0 0, .int .i64 1, .slice a3 11 k3, .slice a4 n4 k4, .slice a5 n5 k5, .int .i64 0, .slice a7 n7 k7, .slice none 0 0] 37)) X → ∀ (i : Nat) v, (#[.slice a0 2 k0, .slice none 0 0, .int .i64 1, .slice a3 11 k3, .slice a4 n4 k4, .slice a5 n5 k5, .int .i64 0, .slice a7 n7 k7, .slice none 0 0] : Array Value)[i]? = some v → X.cell? ⟨w3.heap.size, i, none⟩ = some v := fun X h i v hi => by
    refine h.cell_some ?_
    simp [hi]
  have hszG : (w3.alloc (.cells #[.slice a0 2 k0, .slice none 0 0, .int .i64 1, .slice a3 11 k3, .slice a4 n4 k4, .slice a5 n5 k5, .int .i64 0, .slice a7 n7 k7, .slice none 0 0] 37)).heap.size = w3.heap.size + 1 := by simp
  generalize hWG : w3.alloc (.cells #[.slice a0 2 k0, .slice none 0 0, .int .i64 1, .slice a3 11 k3, .slice a4 n4 k4, .slice a5 n5 k5, .int .i64 0, .slice a7 n7 k7, .slice none 0 0] 37) = WG at *
  clear hWG
  have hOG : Old w WG := hO0.out.trans (hk2.out.trans (hk3.out.trans hGO))
  have hbox : ∀ X, Old WG X → (∀ (i : Nat) v, (#[.int .u8 m, .int .u8 l0, .int .u8 l1, .int .u8 l2, .int .u8 l3, .int .u8 s0, .int .u8 s1, .int .u8 s2] : Array Value)[i]? = some v → X.cell? ⟨w.heap.size, i, none⟩ = some v) ∧ (∀ (i : Nat) v, (#[.slice a0 2 k0, .slice none 0 0, .int .i64 1, .slice a3 11 k3, .slice a4 n4 k4, .slice a5 n5 k5, .int .i64 0, .slice a7 n7 k7, .slice none 0 0] : Array Value)[i]? = some v → X.cell? ⟨w3.heap.size, i, none⟩ = some v) := fun X hX =>
    ⟨hbox2.out X (hk2.out.trans (hk3.out.trans (hGO.trans hX))), hboxG X hX⟩
  have hO4 : Old WG (WG.alloc (.cells #[] 3)) := (Old.refl _).alloc _
  have hrw : ∀ X, RTo (w3.heap.size + 1) WG X → Old WG X := fun X h => by
    obtain ⟨_, h2, h3, h4, h5⟩ := h (by omega)
    exact ⟨h2, h3, h4, fun k hk => h5 k (by omega)⟩
  have hV4 := hV3.out.old hGO
  have hC4 := ConfAt.old hC3.out hGO
  have hG4 := hG3.out.old hGO
  rw [hF] at hC4
  rw [← hn] at hG4
  replace hV4 : Aside _ := hV4
  replace hC4 : Aside _ := hC4
  replace hG4 : Aside _ := hG4
  replace hbox : Aside _ := hbox
  replace hrw : Aside _ := hrw
  replace hO4 : Aside _ := hO4
  replace hOG : Aside _ := hOG
  replace hown0 : Aside _ := hown0
  clear hV3 hC3 hG3 hboxG hGO hbox2 hk2 hk3 hO0 hsan0 hgram f0 f1 f2 f3 f4 f5 f6 f7
  have hrf : ∀ X, RTo (w3.heap.size + 1) X X := RTo.refl _
  have htr : ∀ X Y Z, RTo (w3.heap.size + 1) X Y → RTo (w3.heap.size + 1) Y Z → RTo (w3.heap.size + 1) X Z := fun _ _ _ => RTo.trans
  replace hrf : Aside _ := hrf
  replace htr : Aside _ := htr
  have hR0 : RTo (w3.heap.size + 1) WG (WG.alloc (.cells #[] 3)) := rto hO4.out
  replace hR0 : Aside _ := hR0
  replace hszG : Aside _ := hszG
  generalize hB : w3.heap.size + 1 = B at *
  generalize hB6 : w3.heap.size = B6 at *
  go_loopg [7, 8] (bs.take 5).length (fun gg s7 s8 wr => ∃ i : Nat, s8 = .int .i64 i ∧ i ≤ (bs.take 5).length ∧ (bs.take 5).length - i ≤ gg ∧ Aside (wr.ownsRow B 3 1 s7 ((bs.take i).map fun b => b % (1 + m % 4)).length (((bs.take i).map fun b => b % (1 + m % 4)).map (Value.int .i64))) ∧ Aside (RTo B WG wr) ∧ Aside (B ≤ wr.heap.size))
  case atStart => exact ⟨0, rfl, Nat.zero_le _, by omega, hown0.out, hR0, (show B ≤ _ by have := hO4.out.size; have := hszG.out; omega)⟩
  case round =>
    obtain ⟨i, rfl, hil, hgi, hown, hR, hBs⟩ := hrel
    obtain ⟨a7', c7', hs7⟩ := own_form hown.out
    have hVi : ((bs.take i).map fun b => b % (1 + m % 4)).length = i := by simp only [List.length_map, List.length_take] at *; omega
    rw [hVi] at hs7
    subst hs7
    replace hVi : Aside _ := hVi
    have hlt5 : (bs.take 5).length = min 5 bs.length := List.length_take
    have hOr := hrw.out _ hR.out
    obtain ⟨f2, f6⟩ := hbox.out _ hOr
    replace hOr : Aside _ := hOr
    by_cases hi : i < (bs.take 5).length
    · have hi1 : (i : Int) < bs.length := by omega
      have hi5 : (i : Int) < 5 := by omega
      have hi0 : (0 : Int) ≤ i := by omega
      obtain ⟨b, hbi⟩ : ∃ b, bs[i]? = some b := ⟨_, List.getElem?_eq_getElem (by omega)⟩
      have hbr := hb.out b (List.mem_of_getElem? hbi)
      have hbw : IntKind.i64.wrap b = b := wf_wrap hbr.1 (by omega)
      obtain ⟨bb, ob, cb', heb, hcb⟩ := SliceAt.at hbs.out (j := i) (c := [.int .u8 b]) (by simp [hbi])
      rw [List.length_map] at heb
      cases heb
      have hb0 := hcb 0 _ rfl
      simp only [Nat.mul_one, Nat.add_zero] at hb0
      have hd0 : ¬ (1 + m % 4 = 0) := by omega
      have hwm : IntKind.i64.wrap (b % (1 + m % 4)) = b % (1 + m % 4) := wf_wrap (by have := Int.emod_nonneg b hd0; omega) (by have := Int.emod_lt_of_pos b (show 0 < 1 + m % 4 by omega); omega)
      have htm : b.tmod (1 + m % 4) = b % (1 + m % 4) := Int.tmod_eq_emod_of_nonneg hbr.1
      have hnext : (bs.take (i + 1)).map (fun b => b % (1 + m % 4)) = (bs.take i).map (fun b => b % (1 + m % 4)) ++ [b % (1 + m % 4)] := by
        rw [List.take_add_one, hbi]; simp
      have hlen : ((bs.take i).map fun b => b % (1 + m % 4)).length = i := by simp; omega
      have kk : ∀ X, Old WG X → (∀ (i : Nat) v, (#[.int .u8 m, .int .u8 l0, .int .u8 l1, .int .u8 l2, .int .u8 l3, .int .u8 s0, .int .u8 s1, .int .u8 s2] : Array Value)[i]? = some v → X.cell? ⟨w.heap.size, i, none⟩ = some v) ∧ X.cell? ⟨bb, ob + i, none⟩ = some (.int .u8 b) := fun X hX => ⟨(hbox.out X hX).1, (hOG.out.trans hX).cell_some hb0⟩
      replace kk : Aside _ := kk
      replace hnext : Aside _ := hnext
      replace hlen : Aside _ := hlen
      replace hlt5 : Aside _ := hlt5
      clear f2 f6 hcb hb0 hbi
      go_wp2
      refine wp_region_O (RTo B) 11 (by kernel_rfl) ?_
      have hQ0 : Old wr wr.drew := (Old.refl _).drew
      have hBX : B ≤ wr.drew.heap.size := hBs.out
      have hownX := own_old hown.out hQ0
      have hRX := htr.out _ _ _ hR.out (rto hQ0)
      replace hQ0 : Aside _ := hQ0
      replace hownX : Aside _ := hownX
      replace hRX : Aside _ := hRX
      replace hBX : Aside _ := hBX
      clear hown hR hBs hOr
      generalize wr.drew = X0 at *
      refine wpAnyO_take hrf.out htr.out (i := 0) (v := ?_) rfl (by kernel_rfl) (fun _ _ _ h => h) (Or.inl ⟨by rfl, ?_⟩) ?_
      rotate_left
      · (intro X hX; go_simp <;> with_reducible rfl)
      try simp only [Act.put, List.setIfInBounds_toArray, List.set_cons_zero, List.set_cons_succ, List.getElem_toArray, List.getElem_cons_zero, List.getElem_cons_succ]
      refine wpAnyO_take hrf.out htr.out (i := 1) (v := ?_) rfl (by kernel_rfl) (fun _ _ _ h => h) (Or.inl ⟨by rfl, ?_⟩) ?_
      rotate_left
      · (intro X hX; go_simp <;> with_reducible rfl)
      try simp only [Act.put, List.setIfInBounds_toArray, List.set_cons_zero, List.set_cons_succ, List.getElem_toArray, List.getElem_cons_zero, List.getElem_cons_succ]
      refine wpAnyO_take hrf.out htr.out (i := 2) (v := ?_) rfl (by kernel_rfl) (fun _ _ _ h => h) (Or.inl ⟨by rfl, ?_⟩) ?_
      rotate_left
      · (intro X hX; go_simp <;> with_reducible rfl)
      try simp only [Act.put, List.setIfInBounds_toArray, List.set_cons_zero, List.set_cons_succ, List.getElem_toArray, List.getElem_cons_zero, List.getElem_cons_succ]
      refine wpAnyO_take hrf.out htr.out (i := 3) (v := ?_) rfl (by kernel_rfl) (fun _ _ _ h => h) (Or.inl ⟨by rfl, ?_⟩) ?_
      rotate_left
      · (intro X hX; go_simp <;> with_reducible rfl)
      try simp only [Act.put, List.setIfInBounds_toArray, List.set_cons_zero, List.set_cons_succ, List.getElem_toArray, List.getElem_cons_zero, List.getElem_cons_succ]
      refine wpAnyO_take hrf.out htr.out (i := 4) (v := ?_) rfl (by kernel_rfl) (fun _ _ _ h => h) (Or.inl ⟨by rfl, ?_⟩) ?_
      rotate_left
      · (intro X hX; have hOX := hrw.out X (htr.out _ _ _ hRX.out hX); obtain ⟨f2, b0⟩ := kk.out X hOX; have x0 := f2 0 _ rfl; have x1 := f2 1 _ rfl; have x2 := f2 2 _ rfl; have x3 := f2 3 _ rfl; have x4 := f2 4 _ rfl; have x5 := f2 5 _ rfl; have x6 := f2 6 _ rfl; have x7 := f2 7 _ rfl; clear f2 hOX; go_simp <;> with_reducible rfl)
      try simp only [Act.put, List.setIfInBounds_toArray, List.set_cons_zero, List.set_cons_succ, List.getElem_toArray, List.getElem_cons_zero, List.getElem_cons_succ]
      refine wpAnyO_take hrf.out htr.out (i := 5) (v := ?_) rfl (by kernel_rfl) (fun _ _ _ h => h) (Or.inl ⟨by rfl, ?_⟩) ?_
      rotate_left
      · (intro X hX; go_simp <;> with_reducible rfl)
      try simp only [Act.put, List.setIfInBounds_toArray, List.set_cons_zero, List.set_cons_succ, List.getElem_toArray, List.getElem_cons_zero, List.getElem_cons_succ]
      refine wpAnyO_take hrf.out htr.out (i := 6) (v := ?_) rfl (by kernel_rfl) (fun _ _ _ h => h) (Or.inl ⟨by rfl, ?_⟩) ?_
      rotate_left
      · (intro X hX; have hOX := hrw.out X (htr.out _ _ _ hRX.out hX); obtain ⟨f2, b0⟩ := kk.out X hOX; have x0 := f2 0 _ rfl; have x1 := f2 1 _ rfl; have x2 := f2 2 _ rfl; have x3 := f2 3 _ rfl; have x4 := f2 4 _ rfl; have x5 := f2 5 _ rfl; have x6 := f2 6 _ rfl; have x7 := f2 7 _ rfl; clear f2 hOX; go_simp <;> with_reducible rfl)
      try simp only [Act.put, List.setIfInBounds_toArray, List.set_cons_zero, List.set_cons_succ, List.getElem_toArray, List.getElem_cons_zero, List.getElem_cons_succ]
      refine wpAnyO_one (i := 7) (by kernel_rfl) rfl ?_
      intro K hK
      go_simp
      (go_at_call 6; refine Calls.mono (hnum.out _) ?_; rintro e X1 ⟨rfl, hO7⟩)
      refine hK _ _ (fun _ => rto hO7) ?_
      clear hK K
      try simp only [Act.put, List.setIfInBounds_toArray, List.set_cons_zero, List.set_cons_succ, List.getElem_toArray, List.getElem_cons_zero, List.getElem_cons_succ]
      have hown7 := own_old hownX.out hO7
      have hB7 := Nat.le_trans hBX.out hO7.size
      have hR7 := htr.out _ _ _ hRX.out (rto hO7)
      replace hown7 : Aside _ := hown7
      replace hR7 : Aside _ := hR7
      refine wpAnyO_take hrf.out htr.out (i := 8) (v := ?_) rfl (by kernel_rfl) (fun _ _ _ h => h) (Or.inl ⟨by rfl, ?_⟩) ?_
      rotate_left
      · (intro X hX; go_simp <;> with_reducible rfl)
      try simp only [Act.put, List.setIfInBounds_toArray, List.set_cons_zero, List.set_cons_succ, List.getElem_toArray, List.getElem_cons_zero, List.getElem_cons_succ]
      refine wpAnyO_one (i := 9) (by kernel_rfl) rfl ?_
      intro K hK
      go_simp
      refine hK _ _ (fun _ => rto ((Old.refl _).alloc _)) ?_
      clear hK K
      try simp only [Act.put, List.setIfInBounds_toArray, List.set_cons_zero, List.set_cons_succ, List.getElem_toArray, List.getElem_cons_zero, List.getElem_cons_succ]
      have hO9 : Old X1 (X1.alloc (.cells #[.int .i64 (b % (1 + m % 4))] 3)) := (Old.refl _).alloc _
      have hown9 := own_old hown7.out hO9
      have hB9 := Nat.le_trans hB7 hO9.size
      have hR9 := htr.out _ _ _ hR7.out (rto hO9)
      have hn9 : (X1.alloc (.cells #[.int .i64 (b % (1 + m % 4))] 3)).cell? ⟨X1.heap.size, 0, none⟩ = some (.int .i64 (b % (1 + m % 4))) := by simp
      have hvo := fun k hk => (World.ownsRow.lt hown9 k hk).1
      replace hown9 : Aside _ := hown9
      replace hR9 : Aside _ := hR9
      replace hvo : Aside _ := hvo
      generalize X1.alloc (.cells #[.int .i64 (b % (1 + m % 4))] 3) = X2 at *
      generalize X1.heap.size = nb at *
      refine wpAnyO_one (i := 10) (by kernel_rfl) rfl ?_
      intro K hK
      refine step3i (.tmp 28) (.tmp 37) X2 B _ _ (b % (1 + m % 4)) nb i hlen.out rfl rfl hown9.out hB9 (by have := hlen.out; omega) rfl rfl hn9 ?_
      intro g2 cap2 X3 hown10 hgrow10
      refine hK _ _ (fun _ => rto_grown hgrow10 hvo.out) ?_
      clear hK K
      try simp only [Act.put, List.setIfInBounds_toArray, List.set_cons_zero, List.set_cons_succ, List.getElem_toArray, List.getElem_cons_zero, List.getElem_cons_succ]
      have hR10 := htr.out _ _ _ hR9.out (rto_grown hgrow10 hvo.out)
      have hB10 : B ≤ X3.heap.size := Nat.le_trans hB9 hgrow10.size
      replace hown10 : Aside _ := hown10
      replace hR10 : Aside _ := hR10
      replace hB10 : Aside _ := hB10
      clear hgrow10 hvo hown9 hR9 hn9 hO9 hown7 hR7 hO7 hownX hRX hBX
      refine wpAnyO_one (i := 11) (by kernel_rfl) rfl ?_
      intro K hK
      go_simp
      refine hK _ _ (fun h => absurd rfl h) ?_
      clear hK K
      try simp only [Act.put, List.setIfInBounds_toArray, List.set_cons_zero, List.set_cons_succ, List.getElem_toArray, List.getElem_cons_zero, List.getElem_cons_succ]
      refine wpAnyO_done (by kernel_rfl) ?_ _
      go_wp2
      go_roundg ((bs.take 5).length - (i + 1))
      case measure => omega
      case rel => exact ⟨i + 1, by go_num, by omega, by omega, (by rw [hnext.out]; exact hown10.out), hR10.out, hB10.out⟩
    · have hie : i = (bs.take 5).length := by omega
      have hti : bs.take i = bs.take 5 := by rw [hie, List.length_take, ← List.take_eq_take_min]
      have hopm : (bs.take 5).map (fun b => b % (1 + m % 4)) = ops.map fun o : Nat => (o : Int) := by
        rw [hops.out, List.map_map]
        refine List.map_congr_left fun b hb' => ?_
        have := Int.emod_nonneg b (show (1 + m % 4) ≠ 0 by omega)
        simp only [Function.comp_apply]
        omega
      have hol : ops.length = (bs.take 5).length := by rw [hops.out, List.length_map]
      have ho4 : ∀ o ∈ ops, o < 4 := fun o ho => by
        rw [hops.out] at ho
        obtain ⟨b, _, rfl⟩ := List.mem_map.1 ho
        have := Int.emod_lt_of_pos b (show 0 < 1 + m % 4 by omega)
        omega
      have hov : opsAt wr (.slice a7' i c7') ops := by
        have h := own_ints hown.out
        rw [hti, hopm, List.map_map] at h
        exact h
      have h7 := fun (X : World) (hX : Old wr X) => grouped7 (.slice a7' i c7') ops m l0 l1 l2 l3 s0 s1 s2 hL.out hS.out (by omega) ho4 5 0 (bs.take 5).length X (by omega) (by omega) (by omega) (by omega) (hov.old hX)
      have h8 := fun (X : World) (hX : Old wr X) (h0 : 0 < X.heap.size) => trees8 (.slice a7' i c7') ops (by omega) ho4 5 0 (bs.take 5).length X h0 (by omega) (by omega) (by omega) (by omega) (hov.old hX)
      simp only [Nat.sub_zero, hGr.out] at h7
      simp only [Nat.sub_zero, hTr.out] at h8
      rw [← hie] at h7 h8
      have hwr0 : 0 < wr.heap.size := by have := hBs.out; omega
      replace h7 : Aside _ := h7
      replace h8 : Aside _ := h8
      replace hwr0 : Aside _ := hwr0
      clear hown hR hBs hov hopm hops ho4 hol hti
      have hx0 := f2 0 _ rfl
      have hx1 := f2 1 _ rfl
      have hx2 := f2 2 _ rfl
      have hx3 := f2 3 _ rfl
      have hx4 := f2 4 _ rfl
      have hx5 := f2 5 _ rfl
      have hx6 := f2 6 _ rfl
      have hx7 := f2 7 _ rfl
      clear f2 f6
      have hgd : (i : Int) < bs.length → ¬ (i : Int) < 5 := fun h => by omega
      replace hie : Aside _ := hie
      replace hlt5 : Aside _ := hlt5
      obtain ⟨hg1, hg2⟩ | hg1 : ((i : Int) < bs.length ∧ ¬ (i : Int) < 5) ∨ ¬ (i : Int) < bs.length := by
        by_cases h : (i : Int) < bs.length
        · exact .inl ⟨h, hgd h⟩
        · exact .inr h
      all_goals clear hgd
      all_goals (focus go_wp2_with (first
        | (go_at_call 7; refine Calls.mono (h7.out _ (Old.refl _)) ?_; rintro e w5 ⟨v9, rfl, hO5, hT9⟩)
        | (go_at_call 8; refine Calls.mono (h8.out _ hO5 (Nat.lt_of_lt_of_le hwr0.out hO5.size)) ?_; rintro e w6 ⟨v11, bT, rfl, hO6, hTs, _⟩; obtain ⟨bg, cg, rfl⟩ : ∃ bg cg, v9 = .slice (some ⟨bg, 0, none⟩) gt.length cg := (by obtain ⟨b, c, _, h, _⟩ := hT9; exact ⟨b, c, h⟩); obtain ⟨capT, rfl⟩ : ∃ capT, v11 = .slice (some ⟨bT, 0, none⟩) T.length capT := (by obtain ⟨c, _, _, h, _⟩ := hTs; exact ⟨c, h⟩); replace hTs : Aside _ := hTs; replace hT9 : Aside _ := hT9; replace hO5 : Aside _ := hO5; replace hO6 : Aside _ := hO6; clear hx0 hx1 hx2 hx3 hx4 hx5 hx6 hx7)))
      · have hgeA : ∀ X, Old w6 X → Old WG X := fun X hX => hOr.out.trans (hO5.out.trans (hO6.out.trans hX))
        replace hgeA : Aside _ := hgeA
        go_loopg [12] T.length (fun gg s12 wr2 => ∃ j : Nat, s12 = .int .i64 j ∧ j ≤ T.length ∧ T.length - j ≤ gg ∧ Aside (Old w6 wr2))
        case atStart => exact ⟨0, rfl, Nat.zero_le _, by omega, Old.refl _⟩
        case round =>
          obtain ⟨j, rfl, hjl, hgj, hO7⟩ := hrel
          by_cases hj : j < T.length
          · have hj1 : (j : Int) < T.length := by omega
            have hj0 : (0 : Int) ≤ j := by omega
            obtain ⟨l, hl⟩ : ∃ l, T[j]? = some l := ⟨_, List.getElem?_eq_getElem hj⟩
            have hp := hpk l (List.mem_of_getElem? hl)
            obtain ⟨bx, cx, hTx, hcx⟩ := TreesIn.cell hTs.out hl
            obtain ⟨outa, outg, KA, KB, htok, hsg, hP, hdec⟩ := hp.tree
            have hbT : bT < w6.heap.size := by obtain ⟨_, _, _, _, h, _⟩ := hTs.out; exact (Array.getElem?_eq_some_iff.1 h).1
            have h9 := fun (X : World) (hX : Old w6 X) => compare9 a0 k0 (.slice a3 11 k3) (.slice a4 n4 k4) (.slice a5 n5 k5) (.int .i64 0) (.slice a7 n7 k7) (.slice none 0 0) (.slice (some ⟨bx, 0, none⟩) l.length cx) (.slice (some ⟨bg, 0, none⟩) gt.length cg) 11 (psOf n) l gt outa outg KA KB X hP
              (Valid.old hV4.out (hgeA.out X hX)) (GramAt.old hG4.out (hgeA.out X hX)) htok.sh hsg (SliceAt.old hTx.slice hX) (SliceAt.old (TreeAt.slice hT9.out) (hO6.out.trans hX))
            have h10 := fun (X : World) (hX : Old w6 X) => survives10 a0 k0 (.slice a3 11 k3) (.slice a4 n4 k4) (.slice a5 n5 k5) (.slice a7 n7 k7) (.slice none 0 0) (.slice (some ⟨bx, 0, none⟩) l.length cx) 0 11 (psOf n) l outa F 1 X (.inr rfl) (TabAt.old htab.out (hOG.out.trans (hgeA.out X hX)))
              (SliceAt.old hTx.slice hX) (GramAt.old hG4.out (hgeA.out X hX)) htok (Valid.old hV4.out (hgeA.out X hX)) hp.kids hp.wf hp.few (ConfAt.old hC4.out (hgeA.out X hX)) hFl.out hFw.out
            rw [hdec] at h10
            have kk : ∀ X, Old w6 X → (∀ (i : Nat) v, (#[.slice a0 2 k0, .slice none 0 0, .int .i64 1, .slice a3 11 k3, .slice a4 n4 k4, .slice a5 n5 k5, .int .i64 0, .slice a7 n7 k7, .slice none 0 0] : Array Value)[i]? = some v → X.cell? ⟨B6, i, none⟩ = some v) ∧ X.cell? ⟨bT, j, none⟩ = some (.slice (some ⟨bx, 0, none⟩) l.length cx) := fun X hX => ⟨(hbox.out X (hgeA.out X hX)).2, hcx X (hX.heap bT hbT)⟩
            have hrf : ∀ X, Old X X := Old.refl
            have htr : ∀ X Y Z, Old X Y → Old Y Z → Old X Z := fun _ _ _ => Old.trans
            replace hrf : Aside _ := hrf
            replace htr : Aside _ := htr
            replace kk : Aside _ := kk
            replace h9 : Aside _ := h9
            clear hdec hTx hcx hp hsg hP htok hl hbT
            generalize hoo : ordN l gt KA KB l.length 0 0 = o at *
            clear hoo
            cases flag
            · simp only [Bool.false_and] at h10
              replace h10 : Aside _ := h10
              clear h9
              go_wp2
              refine wp_region_O Old 11 (by kernel_rfl) ?_
              have hQ0 : Old w6 wr.drew := Old.drew hO7.out
              replace hQ0 : Aside _ := hQ0
              generalize wr.drew = X0 at *
              refine wpAnyO_take hrf.out htr.out (i := 0) (v := ?_) rfl (by kernel_rfl) (fun _ _ _ h => h) (Or.inl ⟨by rfl, ?_⟩) ?_
              rotate_left
              · (intro X hX; go_simp <;> with_reducible rfl)
              try simp only [Act.put, List.setIfInBounds_toArray, List.set_cons_zero, List.set_cons_succ, List.getElem_toArray, List.getElem_cons_zero, List.getElem_cons_succ]
              refine wpAnyO_take hrf.out htr.out (i := 1) (v := ?_) rfl (by kernel_rfl) (fun _ _ _ h => h) (Or.inl ⟨by rfl, ?_⟩) ?_
              rotate_left
              · (intro X hX; go_simp <;> with_reducible rfl)
              try simp only [Act.put, List.setIfInBounds_toArray, List.set_cons_zero, List.set_cons_succ, List.getElem_toArray, List.getElem_cons_zero, List.getElem_cons_succ]
              refine wpAnyO_take hrf.out htr.out (i := 2) (v := undef) rfl (by kernel_rfl) (fun _ _ _ h => h) (Or.inr ⟨by rfl, rfl⟩) ?_
              try simp only [Act.put, List.setIfInBounds_toArray, List.set_cons_zero, List.set_cons_succ, List.getElem_toArray, List.getElem_cons_zero, List.getElem_cons_succ]
              refine wpAnyO_take hrf.out htr.out (i := 3) (v := undef) rfl (by kernel_rfl) (fun _ _ _ h => h) (Or.inr ⟨by rfl, rfl⟩) ?_
              try simp only [Act.put, List.setIfInBounds_toArray, List.set_cons_zero, List.set_cons_succ, List.getElem_toArray, List.getElem_cons_zero, List.getElem_cons_succ]
              refine wpAnyO_take hrf.out htr.out (i := 4) (v := undef) rfl (by kernel_rfl) (fun _ _ _ h => h) (Or.inr ⟨by rfl, rfl⟩) ?_
              try simp only [Act.put, List.setIfInBounds_toArray, List.set_cons_zero, List.set_cons_succ, List.getElem_toArray, List.getElem_cons_zero, List.getElem_cons_succ]
              refine wpAnyO_take hrf.out htr.out (i := 5) (v := undef) rfl (by kernel_rfl) (fun _ _ _ h => h) (Or.inr ⟨by rfl, rfl⟩) ?_
              try simp only [Act.put, List.setIfInBounds_toArray, List.set_cons_zero, List.set_cons_succ, List.getElem_toArray, List.getElem_cons_zero, List.getElem_cons_succ]
              refine wpAnyO_take hrf.out htr.out (i := 6) (v := undef) rfl (by kernel_rfl) (fun _ _ _ h => h) (Or.inr ⟨by rfl, rfl⟩) ?_
              try simp only [Act.put, List.setIfInBounds_toArray, List.set_cons_zero, List.set_cons_succ, List.getElem_toArray, List.getElem_cons_zero, List.getElem_cons_succ]
              refine wpAnyO_take hrf.out htr.out (i := 7) (v := undef) rfl (by kernel_rfl) (fun _ _ _ h => h) (Or.inr ⟨by rfl, rfl⟩) ?_
              try simp only [Act.put, List.setIfInBounds_toArray, List.set_cons_zero, List.set_cons_succ, List.getElem_toArray, List.getElem_cons_zero, List.getElem_cons_succ]
              refine wpAnyO_take hrf.out htr.out (i := 8) (v := undef) rfl (by kernel_rfl) (fun _ _ _ h => h) (Or.inr ⟨by rfl, rfl⟩) ?_
              try simp only [Act.put, List.setIfInBounds_toArray, List.set_cons_zero, List.set_cons_succ, List.getElem_toArray, List.getElem_cons_zero, List.getElem_cons_succ]
              refine wpAnyO_take hrf.out htr.out (i := 9) (v := undef) rfl (by kernel_rfl) (fun _ _ _ h => h) (Or.inr ⟨by rfl, rfl⟩) ?_
              try simp only [Act.put, List.setIfInBounds_toArray, List.set_cons_zero, List.set_cons_succ, List.getElem_toArray, List.getElem_cons_zero, List.getElem_cons_succ]
              refine wpAnyO_take hrf.out htr.out (i := 10) (v := ?_) rfl (by kernel_rfl) (fun _ _ _ h => h) (Or.inl ⟨by rfl, ?_⟩) ?_
              rotate_left
              · (intro X hX; go_simp <;> with_reducible rfl)
              try simp only [Act.put, List.setIfInBounds_toArray, List.set_cons_zero, List.set_cons_succ, List.getElem_toArray, List.getElem_cons_zero, List.getElem_cons_succ]
              refine wpAnyO_one (i := 11) (by kernel_rfl) rfl ?_
              intro K hK
              go_simp
              refine hK _ _ (fun h => absurd rfl h) ?_
              clear hK K
              try simp only [Act.put, List.setIfInBounds_toArray, List.set_cons_zero, List.set_cons_succ, List.getElem_toArray, List.getElem_cons_zero, List.getElem_cons_succ]
              refine wpAnyO_done (by kernel_rfl) ?_ _
              go_wp2
              refine wp_region_O Old 8 (by kernel_rfl) ?_
              have hQ1 : Old w6 X0.drew := Old.drew hQ0.out
              replace hQ1 : Aside _ := hQ1
              generalize X0.drew = X2 at *
              refine wpAnyO_takeN hrf.out htr.out (i := 0) (v := ?_) rfl (by kernel_rfl) (fun _ _ _ h => h) (Or.inl ⟨by rfl, ?_⟩) ?_
              rotate_left
              · (intro X hX; have hOX := (hQ1.out.trans hX); obtain ⟨f6, t0⟩ := kk.out X hOX; have x0 := f6 0 _ rfl; have x1 := f6 1 _ rfl; have x2 := f6 2 _ rfl; have x3 := f6 3 _ rfl; have x4 := f6 4 _ rfl; have x5 := f6 5 _ rfl; have x6 := f6 6 _ rfl; have x7 := f6 7 _ rfl; have x8 := f6 8 _ rfl; clear f6 hOX; go_simp <;> with_reducible rfl)
              try simp only [Act.put, List.setIfInBounds_toArray, List.set_cons_zero, List.set_cons_succ, List.getElem_toArray, List.getElem_cons_zero, List.getElem_cons_succ]
              refine wpAnyO_takeN hrf.out htr.out (i := 1) (v := ?_) rfl (by kernel_rfl) (fun _ _ _ h => h) (Or.inl ⟨by rfl, ?_⟩) ?_
              rotate_left
              · (intro X hX; go_simp <;> with_reducible rfl)
              try simp only [Act.put, List.setIfInBounds_toArray, List.set_cons_zero, List.set_cons_succ, List.getElem_toArray, List.getElem_cons_zero, List.getElem_cons_succ]
              refine wpAnyO_takeN hrf.out htr.out (i := 2) (v := ?_) rfl (by kernel_rfl) (fun _ _ _ h => h) (Or.inl ⟨by rfl, ?_⟩) ?_
              rotate_left
              · (intro X hX; go_simp <;> with_reducible rfl)
              try simp only [Act.put, List.setIfInBounds_toArray, List.set_cons_zero, List.set_cons_succ, List.getElem_toArray, List.getElem_cons_zero, List.getElem_cons_succ]
              refine wpAnyO_takeN hrf.out htr.out (i := 3) (v := ?_) rfl (by kernel_rfl) (fun _ _ _ h => h) (Or.inl ⟨by rfl, ?_⟩) ?_
              rotate_left
              · (intro X hX; go_simp <;> with_reducible rfl)
              try simp only [Act.put, List.setIfInBounds_toArray, List.set_cons_zero, List.set_cons_succ, List.getElem_toArray, List.getElem_cons_zero, List.getElem_cons_succ]
              refine wpAnyO_takeN hrf.out htr.out (i := 4) (v := ?_) rfl (by kernel_rfl) (fun _ _ _ h => h) (Or.inl ⟨by rfl, ?_⟩) ?_
              rotate_left
              · (intro X hX; have hOX := (hQ1.out.trans hX); obtain ⟨f6, t0⟩ := kk.out X hOX; have x0 := f6 0 _ rfl; have x1 := f6 1 _ rfl; have x2 := f6 2 _ rfl; have x3 := f6 3 _ rfl; have x4 := f6 4 _ rfl; have x5 := f6 5 _ rfl; have x6 := f6 6 _ rfl; have x7 := f6 7 _ rfl; have x8 := f6 8 _ rfl; clear f6 hOX; go_simp <;> with_reducible rfl)
              try simp only [Act.put, List.setIfInBounds_toArray, List.set_cons_zero, List.set_cons_succ, List.getElem_toArray, List.getElem_cons_zero, List.getElem_cons_succ]
              refine wpAnyO_takeN hrf.out htr.out (i := 6) (v := ?_) rfl (by kernel_rfl) (fun _ _ _ h => h) (Or.inl ⟨by rfl, ?_⟩) ?_
              rotate_left
              · (intro X hX; go_simp <;> with_reducible rfl)
              try simp only [Act.put, List.setIfInBounds_toArray, List.set_cons_zero, List.set_cons_succ, List.getElem_toArray, List.getElem_cons_zero, List.getElem_cons_succ]
              refine wpAnyO_one (i := 5) (by kernel_rfl) rfl ?_
              intro K hK
              go_simp
              (go_at_call 10; refine Calls.mono (h10.out _ hQ1.out) ?_; rintro e X3 ⟨rfl, hO9⟩)
              refine hK _ _ (fun _ => hO9) ?_
              clear hK K
              try simp only [Act.put, List.setIfInBounds_toArray, List.set_cons_zero, List.set_cons_succ, List.getElem_toArray, List.getElem_cons_zero, List.getElem_cons_succ]
              refine wpAnyO_one (i := 7) (by kernel_rfl) rfl ?_
              intro K hK
              go_simp
              refine hK _ _ (fun _ => Old.refl _) ?_
              clear hK K
              try simp only [Act.put, List.setIfInBounds_toArray, List.set_cons_zero, List.set_cons_succ, List.getElem_toArray, List.getElem_cons_zero, List.getElem_cons_succ]
              refine wpAnyO_done (by kernel_rfl) ?_ _
              have hQ2 : Old w6 X3 := hQ1.out.trans hO9
              replace hQ2 : Aside _ := hQ2
              go_wp2
              go_roundg (T.length - (j + 1))
              case measure => omega
              case rel => exact ⟨j + 1, by go_num, by omega, by omega, hQ2.out⟩
            · simp only [Bool.true_and] at h10
              replace h10 : Aside _ := h10
              go_wp2
              refine wp_region_O Old 11 (by kernel_rfl) ?_
              have hQ0 : Old w6 wr.drew := Old.drew hO7.out
              replace hQ0 : Aside _ := hQ0
              generalize wr.drew = X0 at *
              refine wpAnyO_take hrf.out htr.out (i := 0) (v := ?_) rfl (by kernel_rfl) (fun _ _ _ h => h) (Or.inl ⟨by rfl, ?_⟩) ?_
              rotate_left
              · (intro X hX; go_simp <;> with_reducible rfl)
              try simp only [Act.put, List.setIfInBounds_toArray, List.set_cons_zero, List.set_cons_succ, List.getElem_toArray, List.getElem_cons_zero, List.getElem_cons_succ]
              refine wpAnyO_take hrf.out htr.out (i := 1) (v := ?_) rfl (by kernel_rfl) (fun _ _ _ h => h) (Or.inl ⟨by rfl, ?_⟩) ?_
              rotate_left
              · (intro X hX; go_simp <;> with_reducible rfl)
              try simp only [Act.put, List.setIfInBounds_toArray, List.set_cons_zero, List.set_cons_succ, List.getElem_toArray, List.getElem_cons_zero, List.getElem_cons_succ]
              refine wpAnyO_take hrf.out htr.out (i := 2) (v := ?_) rfl (by kernel_rfl) (fun _ _ _ h => h) (Or.inl ⟨by rfl, ?_⟩) ?_
              rotate_left
              · (intro X hX; have hOX := (hQ0.out.trans hX); obtain ⟨f6, t0⟩ := kk.out X hOX; have x0 := f6 0 _ rfl; have x1 := f6 1 _ rfl; have x2 := f6 2 _ rfl; have x3 := f6 3 _ rfl; have x4 := f6 4 _ rfl; have x5 := f6 5 _ rfl; have x6 := f6 6 _ rfl; have x7 := f6 7 _ rfl; have x8 := f6 8 _ rfl; clear f6 hOX; go_simp <;> with_reducible rfl)
              try simp only [Act.put, List.setIfInBounds_toArray, List.set_cons_zero, List.set_cons_succ, List.getElem_toArray, List.getElem_cons_zero, List.getElem_cons_succ]
              refine wpAnyO_take hrf.out htr.out (i := 3) (v := ?_) rfl (by kernel_rfl) (fun _ _ _ h => h) (Or.inl ⟨by rfl, ?_⟩) ?_
              rotate_left
              · (intro X hX; go_simp <;> with_reducible rfl)
              try simp only [Act.put, List.setIfInBounds_toArray, List.set_cons_zero, List.set_cons_succ, List.getElem_toArray, List.getElem_cons_zero, List.getElem_cons_succ]
              refine wpAnyO_take hrf.out htr.out (i := 4) (v := ?_) rfl (by kernel_rfl) (fun _ _ _ h => h) (Or.inl ⟨by rfl, ?_⟩) ?_
              rotate_left
              · (intro X hX; go_simp <;> with_reducible rfl)
              try simp only [Act.put, List.setIfInBounds_toArray, List.set_cons_zero, List.set_cons_succ, List.getElem_toArray, List.getElem_cons_zero, List.getElem_cons_succ]
              refine wpAnyO_take hrf.out htr.out (i := 5) (v := ?_) rfl (by kernel_rfl) (fun _ _ _ h => h) (Or.inl ⟨by rfl, ?_⟩) ?_
              rotate_left
              · (intro X hX; go_simp <;> with_reducible rfl)
              try simp only [Act.put, List.setIfInBounds_toArray, List.set_cons_zero, List.set_cons_succ, List.getElem_toArray, List.getElem_cons_zero, List.getElem_cons_succ]
              refine wpAnyO_take hrf.out htr.out (i := 6) (v := ?_) rfl (by kernel_rfl) (fun _ _ _ h => h) (Or.inl ⟨by rfl, ?_⟩) ?_
              rotate_left
              · (intro X hX; have hOX := (hQ0.out.trans hX); obtain ⟨f6, t0⟩ := kk.out X hOX; have x0 := f6 0 _ rfl; have x1 := f6 1 _ rfl; have x2 := f6 2 _ rfl; have x3 := f6 3 _ rfl; have x4 := f6 4 _ rfl; have x5 := f6 5 _ rfl; have x6 := f6 6 _ rfl; have x7 := f6 7 _ rfl; have x8 := f6 8 _ rfl; clear f6 hOX; go_simp <;> with_reducible rfl)
              try simp only [Act.put, List.setIfInBounds_toArray, List.set_cons_zero, List.set_cons_succ, List.getElem_toArray, List.getElem_cons_zero, List.getElem_cons_succ]
              refine wpAnyO_take hrf.out htr.out (i := 7) (v := ?_) rfl (by kernel_rfl) (fun _ _ _ h => h) (Or.inl ⟨by rfl, ?_⟩) ?_
              rotate_left
              · (intro X hX; go_simp <;> with_reducible rfl)
              try simp only [Act.put, List.setIfInBounds_toArray, List.set_cons_zero, List.set_cons_succ, List.getElem_toArray, List.getElem_cons_zero, List.getElem_cons_succ]
              refine wpAnyO_one (i := 8) (by kernel_rfl) rfl ?_
              intro K hK
              go_simp
              (go_at_call 9; refine Calls.mono (h9.out _ hQ0.out) ?_; rintro e X1 ⟨rfl, hO8⟩)
              refine hK _ _ (fun _ => hO8) ?_
              clear hK K
              try simp only [Act.put, List.setIfInBounds_toArray, List.set_cons_zero, List.set_cons_succ, List.getElem_toArray, List.getElem_cons_zero, List.getElem_cons_succ]
              have hQ8 : Old w6 X1 := hQ0.out.trans hO8
              replace hQ8 : Aside _ := hQ8
              clear hO8
              rcases Decidable.em (o = 0) with ho | ho
              · subst ho
                simp only [decide_true] at h10
                replace h10 : Aside _ := h10
                refine wpAnyO_take hrf.out htr.out (i := 9) (v := ?_) rfl (by kernel_rfl) (fun _ _ _ h => h) (Or.inl ⟨by rfl, ?_⟩) ?_
                rotate_left
                · (intro X hX; go_simp <;> with_reducible rfl)
                try simp only [Act.put, List.setIfInBounds_toArray, List.set_cons_zero, List.set_cons_succ, List.getElem_toArray, List.getElem_cons_zero, List.getElem_cons_succ]
                refine wpAnyO_take hrf.out htr.out (i := 10) (v := ?_) rfl (by kernel_rfl) (fun _ _ _ h => h) (Or.inl ⟨by rfl, ?_⟩) ?_
                rotate_left
                · (intro X hX; go_simp <;> with_reducible rfl)
                try simp only [Act.put, List.setIfInBounds_toArray, List.set_cons_zero, List.set_cons_succ, List.getElem_toArray, List.getElem_cons_zero, List.getElem_cons_succ]
                refine wpAnyO_one (i := 11) (by kernel_rfl) rfl ?_
                intro K hK
                go_simp
                refine hK _ _ (fun h => absurd rfl h) ?_
                clear hK K
                try simp only [Act.put, List.setIfInBounds_toArray, List.set_cons_zero, List.set_cons_succ, List.getElem_toArray, List.getElem_cons_zero, List.getElem_cons_succ]
                refine wpAnyO_done (by kernel_rfl) ?_ _
                go_wp2
                refine wp_region_O Old 8 (by kernel_rfl) ?_
                have hQ1 : Old w6 X1.drew := Old.drew hQ8.out
                replace hQ1 : Aside _ := hQ1
                generalize X1.drew = X2 at *
                refine wpAnyO_takeN hrf.out htr.out (i := 0) (v := ?_) rfl (by kernel_rfl) (fun _ _ _ h => h) (Or.inl ⟨by rfl, ?_⟩) ?_
                rotate_left
                · (intro X hX; have hOX := (hQ1.out.trans hX); obtain ⟨f6, t0⟩ := kk.out X hOX; have x0 := f6 0 _ rfl; have x1 := f6 1 _ rfl; have x2 := f6 2 _ rfl; have x3 := f6 3 _ rfl; have x4 := f6 4 _ rfl; have x5 := f6 5 _ rfl; have x6 := f6 6 _ rfl; have x7 := f6 7 _ rfl; have x8 := f6 8 _ rfl; clear f6 hOX; go_simp <;> with_reducible rfl)
                try simp only [Act.put, List.setIfInBounds_toArray, List.set_cons_zero, List.set_cons_succ, List.getElem_toArray, List.getElem_cons_zero, List.getElem_cons_succ]
                refine wpAnyO_takeN hrf.out htr.out (i := 1) (v := ?_) rfl (by kernel_rfl) (fun _ _ _ h => h) (Or.inl ⟨by rfl, ?_⟩) ?_
                rotate_left
                · (intro X hX; go_simp <;> with_reducible rfl)
                try simp only [Act.put, List.setIfInBounds_toArray, List.set_cons_zero, List.set_cons_succ, List.getElem_toArray, List.getElem_cons_zero, List.getElem_cons_succ]
                refine wpAnyO_takeN hrf.out htr.out (i := 2) (v := ?_) rfl (by kernel_rfl) (fun _ _ _ h => h) (Or.inl ⟨by rfl, ?_⟩) ?_
                rotate_left
                · (intro X hX; go_simp <;> with_reducible rfl)
                try simp only [Act.put, List.setIfInBounds_toArray, List.set_cons_zero, List.set_cons_succ, List.getElem_toArray, List.getElem_cons_zero, List.getElem_cons_succ]
                refine wpAnyO_takeN hrf.out htr.out (i := 3) (v := ?_) rfl (by kernel_rfl) (fun _ _ _ h => h) (Or.inl ⟨by rfl, ?_⟩) ?_
                rotate_left
                · (intro X hX; go_simp <;> with_reducible rfl)
                try simp only [Act.put, List.setIfInBounds_toArray, List.set_cons_zero, List.set_cons_succ, List.getElem_toArray, List.getElem_cons_zero, List.getElem_cons_succ]
                refine wpAnyO_takeN hrf.out htr.out (i := 4) (v := ?_) rfl (by kernel_rfl) (fun _ _ _ h => h) (Or.inl ⟨by rfl, ?_⟩) ?_
                rotate_left
                · (intro X hX; have hOX := (hQ1.out.trans hX); obtain ⟨f6, t0⟩ := kk.out X hOX; have x0 := f6 0 _ rfl; have x1 := f6 1 _ rfl; have x2 := f6 2 _ rfl; have x3 := f6 3 _ rfl; have x4 := f6 4 _ rfl; have x5 := f6 5 _ rfl; have x6 := f6 6 _ rfl; have x7 := f6 7 _ rfl; have x8 := f6 8 _ rfl; clear f6 hOX; go_simp <;> with_reducible rfl)
                try simp only [Act.put, List.setIfInBounds_toArray, List.set_cons_zero, List.set_cons_succ, List.getElem_toArray, List.getElem_cons_zero, List.getElem_cons_succ]
                refine wpAnyO_takeN hrf.out htr.out (i := 6) (v := ?_) rfl (by kernel_rfl) (fun _ _ _ h => h) (Or.inl ⟨by rfl, ?_⟩) ?_
                rotate_left
                · (intro X hX; go_simp <;> with_reducible rfl)
                try simp only [Act.put, List.setIfInBounds_toArray, List.set_cons_zero, List.set_cons_succ, List.getElem_toArray, List.getElem_cons_zero, List.getElem_cons_succ]
                refine wpAnyO_one (i := 5) (by kernel_rfl) rfl ?_
                intro K hK
                go_simp
                (go_at_call 10; refine Calls.mono (h10.out _ hQ1.out) ?_; rintro e X3 ⟨rfl, hO9⟩)
                refine hK _ _ (fun _ => hO9) ?_
                clear hK K
                try simp only [Act.put, List.setIfInBounds_toArray, List.set_cons_zero, List.set_cons_succ, List.getElem_toArray, List.getElem_cons_zero, List.getElem_cons_succ]
                refine wpAnyO_one (i := 7) (by kernel_rfl) rfl ?_
                intro K hK
                go_simp
                refine hK _ _ (fun _ => Old.refl _) ?_
                clear hK K
                try simp only [Act.put, List.setIfInBounds_toArray, List.set_cons_zero, List.set_cons_succ, List.getElem_toArray, List.getElem_cons_zero, List.getElem_cons_succ]
                refine wpAnyO_done (by kernel_rfl) ?_ _
                have hQ2 : Old w6 X3 := hQ1.out.trans hO9
                replace hQ2 : Aside _ := hQ2
                go_wp2
                go_roundg (T.length - (j + 1))
                case measure => omega
                case rel => exact ⟨j + 1, by go_num, by omega, by omega, hQ2.out⟩
              · have ho' : (o == 0) = false := by simpa using ho
                simp only [ho, decide_true, decide_false] at h10
                replace h10 : Aside _ := h10
                refine wpAnyO_take hrf.out htr.out (i := 9) (v := ?_) rfl (by kernel_rfl) (fun _ _ _ h => h) (Or.inl ⟨by rfl, ?_⟩) ?_
                rotate_left
                · (intro X hX; go_simp <;> with_reducible rfl)
                try simp only [Act.put, List.setIfInBounds_toArray, List.set_cons_zero, List.set_cons_succ, List.getElem_toArray, List.getElem_cons_zero, List.getElem_cons_succ]
                refine wpAnyO_take hrf.out htr.out (i := 10) (v := ?_) rfl (by kernel_rfl) (fun _ _ _ h => h) (Or.inl ⟨by rfl, ?_⟩) ?_
                rotate_left
                · (intro X hX; go_simp <;> with_reducible rfl)
                try simp only [Act.put, List.setIfInBounds_toArray, List.set_cons_zero, List.set_cons_succ, List.getElem_toArray, List.getElem_cons_zero, List.getElem_cons_succ]
                refine wpAnyO_one (i := 11) (by kernel_rfl) rfl ?_
                intro K hK
                go_simp
                refine hK _ _ (fun h => absurd rfl h) ?_
                clear hK K
                try simp only [Act.put, List.setIfInBounds_toArray, List.set_cons_zero, List.set_cons_succ, List.getElem_toArray, List.getElem_cons_zero, List.getElem_cons_succ]
                refine wpAnyO_done (by kernel_rfl) ?_ _
                go_wp2
                refine wp_region_O Old 8 (by kernel_rfl) ?_
                have hQ1 : Old w6 X1.drew := Old.drew hQ8.out
                replace hQ1 : Aside _ := hQ1
                generalize X1.drew = X2 at *
                refine wpAnyO_takeN hrf.out htr.out (i := 0) (v := ?_) rfl (by kernel_rfl) (fun _ _ _ h => h) (Or.inl ⟨by rfl, ?_⟩) ?_
                rotate_left
                · (intro X hX; have hOX := (hQ1.out.trans hX); obtain ⟨f6, t0⟩ := kk.out X hOX; have x0 := f6 0 _ rfl; have x1 := f6 1 _ rfl; have x2 := f6 2 _ rfl; have x3 := f6 3 _ rfl; have x4 := f6 4 _ rfl; have x5 := f6 5 _ rfl; have x6 := f6 6 _ rfl; have x7 := f6 7 _ rfl; have x8 := f6 8 _ rfl; clear f6 hOX; go_simp <;> with_reducible rfl)
                try simp only [Act.put, List.setIfInBounds_toArray, List.set_cons_zero, List.set_cons_succ, List.getElem_toArray, List.getElem_cons_zero, List.getElem_cons_succ]
                refine wpAnyO_takeN hrf.out htr.out (i := 1) (v := ?_) rfl (by kernel_rfl) (fun _ _ _ h => h) (Or.inl ⟨by rfl, ?_⟩) ?_
                rotate_left
                · (intro X hX; go_simp <;> with_reducible rfl)
                try simp only [Act.put, List.setIfInBounds_toArray, List.set_cons_zero, List.set_cons_succ, List.getElem_toArray, List.getElem_cons_zero, List.getElem_cons_succ]
                refine wpAnyO_takeN hrf.out htr.out (i := 2) (v := ?_) rfl (by kernel_rfl) (fun _ _ _ h => h) (Or.inl ⟨by rfl, ?_⟩) ?_
                rotate_left
                · (intro X hX; go_simp <;> with_reducible rfl)
                try simp only [Act.put, List.setIfInBounds_toArray, List.set_cons_zero, List.set_cons_succ, List.getElem_toArray, List.getElem_cons_zero, List.getElem_cons_succ]
                refine wpAnyO_takeN hrf.out htr.out (i := 3) (v := ?_) rfl (by kernel_rfl) (fun _ _ _ h => h) (Or.inl ⟨by rfl, ?_⟩) ?_
                rotate_left
                · (intro X hX; go_simp <;> with_reducible rfl)
                try simp only [Act.put, List.setIfInBounds_toArray, List.set_cons_zero, List.set_cons_succ, List.getElem_toArray, List.getElem_cons_zero, List.getElem_cons_succ]
                refine wpAnyO_takeN hrf.out htr.out (i := 4) (v := ?_) rfl (by kernel_rfl) (fun _ _ _ h => h) (Or.inl ⟨by rfl, ?_⟩) ?_
                rotate_left
                · (intro X hX; have hOX := (hQ1.out.trans hX); obtain ⟨f6, t0⟩ := kk.out X hOX; have x0 := f6 0 _ rfl; have x1 := f6 1 _ rfl; have x2 := f6 2 _ rfl; have x3 := f6 3 _ rfl; have x4 := f6 4 _ rfl; have x5 := f6 5 _ rfl; have x6 := f6 6 _ rfl; have x7 := f6 7 _ rfl; have x8 := f6 8 _ rfl; clear f6 hOX; go_simp <;> with_reducible rfl)
                try simp only [Act.put, List.setIfInBounds_toArray, List.set_cons_zero, List.set_cons_succ, List.getElem_toArray, List.getElem_cons_zero, List.getElem_cons_succ]
                refine wpAnyO_takeN hrf.out htr.out (i := 6) (v := ?_) rfl (by kernel_rfl) (fun _ _ _ h => h) (Or.inl ⟨by rfl, ?_⟩) ?_
                rotate_left
                · (intro X hX; go_simp <;> with_reducible rfl)
                try simp only [Act.put, List.setIfInBounds_toArray, List.set_cons_zero, List.set_cons_succ, List.getElem_toArray, List.getElem_cons_zero, List.getElem_cons_succ]
                refine wpAnyO_one (i := 5) (by kernel_rfl) rfl ?_
                intro K hK
                go_simp
                (go_at_call 10; refine Calls.mono (h10.out _ hQ1.out) ?_; rintro e X3 ⟨rfl, hO9⟩)
                refine hK _ _ (fun _ => hO9) ?_
                clear hK K
                try simp only [Act.put, List.setIfInBounds_toArray, List.set_cons_zero, List.set_cons_succ, List.getElem_toArray, List.getElem_cons_zero, List.getElem_cons_succ]
                refine wpAnyO_one (i := 7) (by kernel_rfl) rfl ?_
                intro K hK
                go_simp
                refine hK _ _ (fun _ => Old.refl _) ?_
                clear hK K
                try simp only [Act.put, List.setIfInBounds_toArray, List.set_cons_zero, List.set_cons_succ, List.getElem_toArray, List.getElem_cons_zero, List.getElem_cons_succ]
                refine wpAnyO_done (by kernel_rfl) ?_ _
                have hQ2 : Old w6 X3 := hQ1.out.trans hO9
                replace hQ2 : Aside _ := hQ2
                go_wp2
                go_roundg (T.length - (j + 1))
                case measure => omega
                case rel => exact ⟨j + 1, by go_num, by omega, by omega, hQ2.out⟩
          · have hje : j = T.length := by omega
            subst hje
            go_wp2
            go_ret
            exact ⟨rfl, hOG.out.trans (hgeA.out _ hO7.out)⟩
      · have hgeA : ∀ X, Old w6 X → Old WG X := fun X hX => hOr.out.trans (hO5.out.trans (hO6.out.trans hX))
        replace hgeA : Aside _ := hgeA
        go_loopg [12] T.length (fun gg s12 wr2 => ∃ j : Nat, s12 = .int .i64 j ∧ j ≤ T.length ∧ T.length - j ≤ gg ∧ Aside (Old w6 wr2))
        case atStart => exact ⟨0, rfl, Nat.zero_le _, by omega, Old.refl _⟩
        case round =>
          obtain ⟨j, rfl, hjl, hgj, hO7⟩ := hrel
          by_cases hj : j < T.length
          · have hj1 : (j : Int) < T.length := by omega
            have hj0 : (0 : Int) ≤ j := by omega
            obtain ⟨l, hl⟩ : ∃ l, T[j]? = some l := ⟨_, List.getElem?_eq_getElem hj⟩
            have hp := hpk l (List.mem_of_getElem? hl)
            obtain ⟨bx, cx, hTx, hcx⟩ := TreesIn.cell hTs.out hl
            obtain ⟨outa, outg, KA, KB, htok, hsg, hP, hdec⟩ := hp.tree
            have hbT : bT < w6.heap.size := by obtain ⟨_, _, _, _, h, _⟩ := hTs.out; exact (Array.getElem?_eq_some_iff.1 h).1
            have h9 := fun (X : World) (hX : Old w6 X) => compare9 a0 k0 (.slice a3 11 k3) (.slice a4 n4 k4) (.slice a5 n5 k5) (.int .i64 0) (.slice a7 n7 k7) (.slice none 0 0) (.slice (some ⟨bx, 0, none⟩) l.length cx) (.slice (some ⟨bg, 0, none⟩) gt.length cg) 11 (psOf n) l gt outa outg KA KB X hP
              (Valid.old hV4.out (hgeA.out X hX)) (GramAt.old hG4.out (hgeA.out X hX)) htok.sh hsg (SliceAt.old hTx.slice hX) (SliceAt.old (TreeAt.slice hT9.out) (hO6.out.trans hX))
            have h10 := fun (X : World) (hX : Old w6 X) => survives10 a0 k0 (.slice a3 11 k3) (.slice a4 n4 k4) (.slice a5 n5 k5) (.slice a7 n7 k7) (.slice none 0 0) (.slice (some ⟨bx, 0, none⟩) l.length cx) 0 11 (psOf n) l outa F 1 X (.inr rfl) (TabAt.old htab.out (hOG.out.trans (hgeA.out X hX)))
              (SliceAt.old hTx.slice hX) (GramAt.old hG4.out (hgeA.out X hX)) htok (Valid.old hV4.out (hgeA.out X hX)) hp.kids hp.wf hp.few (ConfAt.old hC4.out (hgeA.out X hX)) hFl.out hFw.out
            rw [hdec] at h10
            have kk : ∀ X, Old w6 X → (∀ (i : Nat) v, (#[.slice a0 2 k0, .slice none 0 0, .int .i64 1, .slice a3 11 k3, .slice a4 n4 k4, .slice a5 n5 k5, .int .i64 0, .slice a7 n7 k7, .slice none 0 0] : Array Value)[i]? = some v → X.cell? ⟨B6, i, none⟩ = some v) ∧ X.cell? ⟨bT, j, none⟩ = some (.slice (some ⟨bx, 0, none⟩) l.length cx) := fun X hX => ⟨(hbox.out X (hgeA.out X hX)).2, hcx X (hX.heap bT hbT)⟩
            have hrf : ∀ X, Old X X := Old.refl
            have htr : ∀ X Y Z, Old X Y → Old Y Z → Old X Z := fun _ _ _ => Old.trans
            replace hrf : Aside _ := hrf
            replace htr : Aside _ := htr
            replace kk : Aside _ := kk
            replace h9 : Aside _ := h9
            clear hdec hTx hcx hp hsg hP htok hl hbT
            generalize hoo : ordN l gt KA KB l.length 0 0 = o at *
            clear hoo
            cases flag
            · simp only [Bool.false_and] at h10
              replace h10 : Aside _ := h10
              clear h9
              go_wp2
              refine wp_region_O Old 11 (by kernel_rfl) ?_
              have hQ0 : Old w6 wr.drew := Old.drew hO7.out
              replace hQ0 : Aside _ := hQ0
              generalize wr.drew = X0 at *
              refine wpAnyO_take hrf.out htr.out (i := 0) (v := ?_) rfl (by kernel_rfl) (fun _ _ _ h => h) (Or.inl ⟨by rfl, ?_⟩) ?_
              rotate_left
              · (intro X hX; go_simp <;> with_reducible rfl)
              try simp only [Act.put, List.setIfInBounds_toArray, List.set_cons_zero, List.set_cons_succ, List.getElem_toArray, List.getElem_cons_zero, List.getElem_cons_succ]
              refine wpAnyO_take hrf.out htr.out (i := 1) (v := ?_) rfl (by kernel_rfl) (fun _ _ _ h => h) (Or.inl ⟨by rfl, ?_⟩) ?_
              rotate_left
              · (intro X hX; go_simp <;> with_reducible rfl)
              try simp only [Act.put, List.setIfInBounds_toArray, List.set_cons_zero, List.set_cons_succ, List.getElem_toArray, List.getElem_cons_zero, List.getElem_cons_succ]
              refine wpAnyO_take hrf.out htr.out (i := 2) (v := undef) rfl (by kernel_rfl) (fun _ _ _ h => h) (Or.inr ⟨by rfl, rfl⟩) ?_
              try simp only [Act.put, List.setIfInBounds_toArray, List.set_cons_zero, List.set_cons_succ, List.getElem_toArray, List.getElem_cons_zero, List.getElem_cons_succ]
              refine wpAnyO_take hrf.out htr.out (i := 3) (v := undef) rfl (by kernel_rfl) (fun _ _ _ h => h) (Or.inr ⟨by rfl, rfl⟩) ?_
              try simp only [Act.put, List.setIfInBounds_toArray, List.set_cons_zero, List.set_cons_succ, List.getElem_toArray, List.getElem_cons_zero, List.getElem_cons_succ]
              refine wpAnyO_take hrf.out htr.out (i := 4) (v := undef) rfl (by kernel_rfl) (fun _ _ _ h => h) (Or.inr ⟨by rfl, rfl⟩) ?_
              try simp only [Act.put, List.setIfInBounds_toArray, List.set_cons_zero, List.set_cons_succ, List.getElem_toArray, List.getElem_cons_zero, List.getElem_cons_succ]
              refine wpAnyO_take hrf.out htr.out (i := 5) (v := undef) rfl (by kernel_rfl) (fun _ _ _ h => h) (Or.inr ⟨by rfl, rfl⟩) ?_
              try simp only [Act.put, List.setIfInBounds_toArray, List.set_cons_zero, List.set_cons_succ, List.getElem_toArray, List.getElem_cons_zero, List.getElem_cons_succ]
              refine wpAnyO_take hrf.out htr.out (i := 6) (v := undef) rfl (by kernel_rfl) (fun _ _ _ h => h) (Or.inr ⟨by rfl, rfl⟩) ?_
              try simp only [Act.put, List.setIfInBounds_toArray, List.set_cons_zero, List.set_cons_succ, List.getElem_toArray, List.getElem_cons_zero, List.getElem_cons_succ]
              refine wpAnyO_take hrf.out htr.out (i := 7) (v := undef) rfl (by kernel_rfl) (fun _ _ _ h => h) (Or.inr ⟨by rfl, rfl⟩) ?_
              try simp only [Act.put, List.setIfInBounds_toArray, List.set_cons_zero, List.set_cons_succ, List.getElem_toArray, List.getElem_cons_zero, List.getElem_cons_succ]
              refine wpAnyO_take hrf.out htr.out (i := 8) (v := undef) rfl (by kernel_rfl) (fun _ _ _ h => h) (Or.inr ⟨by rfl, rfl⟩) ?_
              try simp only [Act.put, List.setIfInBounds_toArray, List.set_cons_zero, List.set_cons_succ, List.getElem_toArray, List.getElem_cons_zero, List.getElem_cons_succ]
              refine wpAnyO_take hrf.out htr.out (i := 9) (v := undef) rfl (by kernel_rfl) (fun _ _ _ h => h) (Or.inr ⟨by rfl, rfl⟩) ?_
              try simp only [Act.put, List.setIfInBounds_toArray, List.set_cons_zero, List.set_cons_succ, List.getElem_toArray, List.getElem_cons_zero, List.getElem_cons_succ]
              refine wpAnyO_take hrf.out htr.out (i := 10) (v := ?_) rfl (by kernel_rfl) (fun _ _ _ h => h) (Or.inl ⟨by rfl, ?_⟩) ?_
              rotate_left
              · (intro X hX; go_simp <;> with_reducible rfl)
              try simp only [Act.put, List.setIfInBounds_toArray, List.set_cons_zero, List.set_cons_succ, List.getElem_toArray, List.getElem_cons_zero, List.getElem_cons_succ]
              refine wpAnyO_one (i := 11) (by kernel_rfl) rfl ?_
              intro K hK
              go_simp
              refine hK _ _ (fun h => absurd rfl h) ?_
              clear hK K
              try simp only [Act.put, List.setIfInBounds_toArray, List.set_cons_zero, List.set_cons_succ, List.getElem_toArray, List.getElem_cons_zero, List.getElem_cons_succ]
              refine wpAnyO_done (by kernel_rfl) ?_ _
              go_wp2
              refine wp_region_O Old 8 (by kernel_rfl) ?_
              have hQ1 : Old w6 X0.drew := Old.drew hQ0.out
              replace hQ1 : Aside _ := hQ1
              generalize X0.drew = X2 at *
              refine wpAnyO_takeN hrf.out htr.out (i := 0) (v := ?_) rfl (by kernel_rfl) (fun _ _ _ h => h) (Or.inl ⟨by rfl, ?_⟩) ?_
              rotate_left
              · (intro X hX; have hOX := (hQ1.out.trans hX); obtain ⟨f6, t0⟩ := kk.out X hOX; have x0 := f6 0 _ rfl; have x1 := f6 1 _ rfl; have x2 := f6 2 _ rfl; have x3 := f6 3 _ rfl; have x4 := f6 4 _ rfl; have x5 := f6 5 _ rfl; have x6 := f6 6 _ rfl; have x7 := f6 7 _ rfl; have x8 := f6 8 _ rfl; clear f6 hOX; go_simp <;> with_reducible rfl)
              try simp only [Act.put, List.setIfInBounds_toArray, List.set_cons_zero, List.set_cons_succ, List.getElem_toArray, List.getElem_cons_zero, List.getElem_cons_succ]
              refine wpAnyO_takeN hrf.out htr.out (i := 1) (v := ?_) rfl (by kernel_rfl) (fun _ _ _ h => h) (Or.inl ⟨by rfl, ?_⟩) ?_
              rotate_left
              · (intro X hX; go_simp <;> with_reducible rfl)
              try simp only [Act.put, List.setIfInBounds_toArray, List.set_cons_zero, List.set_cons_succ, List.getElem_toArray, List.getElem_cons_zero, List.getElem_cons_succ]
              refine wpAnyO_takeN hrf.out htr.out (i := 2) (v := ?_) rfl (by kernel_rfl) (fun _ _ _ h => h) (Or.inl ⟨by rfl, ?_⟩) ?_
              rotate_left
              · (intro X hX; go_simp <;> with_reducible rfl)
              try simp only [Act.put, List.setIfInBounds_toArray, List.set_cons_zero, List.set_cons_succ, List.getElem_toArray, List.getElem_cons_zero, List.getElem_cons_succ]
              refine wpAnyO_takeN hrf.out htr.out (i := 3) (v := ?_) rfl (by kernel_rfl) (fun _ _ _ h => h) (Or.inl ⟨by rfl, ?_⟩) ?_
              rotate_left
              · (intro X hX; go_simp <;> with_reducible rfl)
              try simp only [Act.put, List.setIfInBounds_toArray, List.set_cons_zero, List.set_cons_succ, List.getElem_toArray, List.getElem_cons_zero, List.getElem_cons_succ]
              refine wpAnyO_takeN hrf.out htr.out (i := 4) (v := ?_) rfl (by kernel_rfl) (fun _ _ _ h => h) (Or.inl ⟨by rfl, ?_⟩) ?_
              rotate_left
              · (intro X hX; have hOX := (hQ1.out.trans hX); obtain ⟨f6, t0⟩ := kk.out X hOX; have x0 := f6 0 _ rfl; have x1 := f6 1 _ rfl; have x2 := f6 2 _ rfl; have x3 := f6 3 _ rfl; have x4 := f6 4 _ rfl; have x5 := f6 5 _ rfl; have x6 := f6 6 _ rfl; have x7 := f6 7 _ rfl; have x8 := f6 8 _ rfl; clear f6 hOX; go_simp <;> with_reducible rfl)
              try simp only [Act.put, List.setIfInBounds_toArray, List.set_cons_zero, List.set_cons_succ, List.getElem_toArray, List.getElem_cons_zero, List.getElem_cons_succ]
              refine wpAnyO_takeN hrf.out htr.out (i := 6) (v := ?_) rfl (by kernel_rfl) (fun _ _ _ h => h) (Or.inl ⟨by rfl, ?_⟩) ?_
              rotate_left
              · (intro X hX; go_simp <;> with_reducible rfl)
              try simp only [Act.put, List.setIfInBounds_toArray, List.set_cons_zero, List.set_cons_succ, List.getElem_toArray, List.getElem_cons_zero, List.getElem_cons_succ]
              refine wpAnyO_one (i := 5) (by kernel_rfl) rfl ?_
              intro K hK
              go_simp
              (go_at_call 10; refine Calls.mono (h10.out _ hQ1.out) ?_; rintro e X3 ⟨rfl, hO9⟩)
              refine hK _ _ (fun _ => hO9) ?_
              clear hK K
              try simp only [Act.put, List.setIfInBounds_toArray, List.set_cons_zero, List.set_cons_succ, List.getElem_toArray, List.getElem_cons_zero, List.getElem_cons_succ]
              refine wpAnyO_one (i := 7) (by kernel_rfl) rfl ?_
              intro K hK
              go_simp
              refine hK _ _ (fun _ => Old.refl _) ?_
              clear hK K
              try simp only [Act.put, List.setIfInBounds_toArray, List.set_cons_zero, List.set_cons_succ, List.getElem_toArray, List.getElem_cons_zero, List.getElem_cons_succ]
              refine wpAnyO_done (by kernel_rfl) ?_ _
              have hQ2 : Old w6 X3 := hQ1.out.trans hO9
              replace hQ2 : Aside _ := hQ2
              go_wp2
              go_roundg (T.length - (j + 1))
              case measure => omega
              case rel => exact ⟨j + 1, by go_num, by omega, by omega, hQ2.out⟩
            · simp only [Bool.true_and] at h10
              replace h10 : Aside _ := h10
              go_wp2
              refine wp_region_O Old 11 (by kernel_rfl) ?_
              have hQ0 : Old w6 wr.drew := Old.drew hO7.out
              replace hQ0 : Aside _ := hQ0
              generalize wr.drew = X0 at *
              refine wpAnyO_take hrf.out htr.out (i := 0) (v := ?_) rfl (by kernel_rfl) (fun _ _ _ h => h) (Or.inl ⟨by rfl, ?_⟩) ?_
              rotate_left
              · (intro X hX; go_simp <;> with_reducible rfl)
              try simp only [Act.put, List.setIfInBounds_toArray, List.set_cons_zero, List.set_cons_succ, List.getElem_toArray, List.getElem_cons_zero, List.getElem_cons_succ]
              refine wpAnyO_take hrf.out htr.out (i := 1) (v := ?_) rfl (by kernel_rfl) (fun _ _ _ h => h) (Or.inl ⟨by rfl, ?_⟩) ?_
              rotate_left
              · (intro X hX; go_simp <;> with_reducible rfl)
              try simp only [Act.put, List.setIfInBounds_toArray, List.set_cons_zero, List.set_cons_succ, List.getElem_toArray, List.getElem_cons_zero, List.getElem_cons_succ]
              refine wpAnyO_take hrf.out htr.out (i := 2) (v := ?_) rfl (by kernel_rfl) (fun _ _ _ h => h) (Or.inl ⟨by rfl, ?_⟩) ?_
              rotate_left
              · (intro X hX; have hOX := (hQ0.out.trans hX); obtain ⟨f6, t0⟩ := kk.out X hOX; have x0 := f6 0 _ rfl; have x1 := f6 1 _ rfl; have x2 := f6 2 _ rfl; have x3 := f6 3 _ rfl; have x4 := f6 4 _ rfl; have x5 := f6 5 _ rfl; have x6 := f6 6 _ rfl; have x7 := f6 7 _ rfl; have x8 := f6 8 _ rfl; clear f6 hOX; go_simp <;> with_reducible rfl)
              try simp only [Act.put, List.setIfInBounds_toArray, List.set_cons_zero, List.set_cons_succ, List.getElem_toArray, List.getElem_cons_zero, List.getElem_cons_succ]
              refine wpAnyO_take hrf.out htr.out (i := 3) (v := ?_) rfl (by kernel_rfl) (fun _ _ _ h => h) (Or.inl ⟨by rfl, ?_⟩) ?_
              rotate_left
              · (intro X hX; go_simp <;> with_reducible rfl)
              try simp only [Act.put, List.setIfInBounds_toArray, List.set_cons_zero, List.set_cons_succ, List.getElem_toArray, List.getElem_cons_zero, List.getElem_cons_succ]
              refine wpAnyO_take hrf.out htr.out (i := 4) (v := ?_) rfl (by kernel_rfl) (fun _ _ _ h => h) (Or.inl ⟨by rfl, ?_⟩) ?_
              rotate_left
              · (intro X hX; go_simp <;> with_reducible rfl)
              try simp only [Act.put, List.setIfInBounds_toArray, List.set_cons_zero, List.set_cons_succ, List.getElem_toArray, List.getElem_cons_zero, List.getElem_cons_succ]
              refine wpAnyO_take hrf.out htr.out (i := 5) (v := ?_) rfl (by kernel_rfl) (fun _ _ _ h => h) (Or.inl ⟨by rfl, ?_⟩) ?_
              rotate_left
              · (intro X hX; go_simp <;> with_reducible rfl)
              try simp only [Act.put, List.setIfInBounds_toArray, List.set_cons_zero, List.set_cons_succ, List.getElem_toArray, List.getElem_cons_zero, List.getElem_cons_succ]
              refine wpAnyO_take hrf.out htr.out (i := 6) (v := ?_) rfl (by kernel_rfl) (fun _ _ _ h => h) (Or.inl ⟨by rfl, ?_⟩) ?_
              rotate_left
              · (intro X hX; have hOX := (hQ0.out.trans hX); obtain ⟨f6, t0⟩ := kk.out X hOX; have x0 := f6 0 _ rfl; have x1 := f6 1 _ rfl; have x2 := f6 2 _ rfl; have x3 := f6 3 _ rfl; have x4 := f6 4 _ rfl; have x5 := f6 5 _ rfl; have x6 := f6 6 _ rfl; have x7 := f6 7 _ rfl; have x8 := f6 8 _ rfl; clear f6 hOX; go_simp <;> with_reducible rfl)
              try simp only [Act.put, List.setIfInBounds_toArray, List.set_cons_zero, List.set_cons_succ, List.getElem_toArray, List.getElem_cons_zero, List.getElem_cons_succ]
              refine wpAnyO_take hrf.out htr.out (i := 7) (v := ?_) rfl (by kernel_rfl) (fun _ _ _ h => h) (Or.inl ⟨by rfl, ?_⟩) ?_
              rotate_left
              · (intro X hX; go_simp <;> with_reducible rfl)
              try simp only [Act.put, List.setIfInBounds_toArray, List.set_cons_zero, List.set_cons_succ, List.getElem_toArray, List.getElem_cons_zero, List.getElem_cons_succ]
              refine wpAnyO_one (i := 8) (by kernel_rfl) rfl ?_
              intro K hK
              go_simp
              (go_at_call 9; refine Calls.mono (h9.out _ hQ0.out) ?_; rintro e X1 ⟨rfl, hO8⟩)
              refine hK _ _ (fun _ => hO8) ?_
              clear hK K
              try simp only [Act.put, List.setIfInBounds_toArray, List.set_cons_zero, List.set_cons_succ, List.getElem_toArray, List.getElem_cons_zero, List.getElem_cons_succ]
              have hQ8 : Old w6 X1 := hQ0.out.trans hO8
              replace hQ8 : Aside _ := hQ8
              clear hO8
              rcases Decidable.em (o = 0) with ho | ho
              · subst ho
                simp only [decide_true] at h10
                replace h10 : Aside _ := h10
                refine wpAnyO_take hrf.out htr.out (i := 9) (v := ?_) rfl (by kernel_rfl) (fun _ _ _ h => h) (Or.inl ⟨by rfl, ?_⟩) ?_
                rotate_left
                · (intro X hX; go_simp <;> with_reducible rfl)
                try simp only [Act.put, List.setIfInBounds_toArray, List.set_cons_zero, List.set_cons_succ, List.getElem_toArray, List.getElem_cons_zero, List.getElem_cons_succ]
                refine wpAnyO_take hrf.out htr.out (i := 10) (v := ?_) rfl (by kernel_rfl) (fun _ _ _ h => h) (Or.inl ⟨by rfl, ?_⟩) ?_
                rotate_left
                · (intro X hX; go_simp <;> with_reducible rfl)
                try simp only [Act.put, List.setIfInBounds_toArray, List.set_cons_zero, List.set_cons_succ, List.getElem_toArray, List.getElem_cons_zero, List.getElem_cons_succ]
                refine wpAnyO_one (i := 11) (by kernel_rfl) rfl ?_
                intro K hK
                go_simp
                refine hK _ _ (fun h => absurd rfl h) ?_
                clear hK K
                try simp only [Act.put, List.setIfInBounds_toArray, List.set_cons_zero, List.set_cons_succ, List.getElem_toArray, List.getElem_cons_zero, List.getElem_cons_succ]
                refine wpAnyO_done (by kernel_rfl) ?_ _
                go_wp2
                refine wp_region_O Old 8 (by kernel_rfl) ?_
                have hQ1 : Old w6 X1.drew := Old.drew hQ8.out
                replace hQ1 : Aside _ := hQ1
                generalize X1.drew = X2 at *
                refine wpAnyO_takeN hrf.out htr.out (i := 0) (v := ?_) rfl (by kernel_rfl) (fun _ _ _ h => h) (Or.inl ⟨by rfl, ?_⟩) ?_
                rotate_left
                · (intro X hX; have hOX := (hQ1.out.trans hX); obtain ⟨f6, t0⟩ := kk.out X hOX; have x0 := f6 0 _ rfl; have x1 := f6 1 _ rfl; have x2 := f6 2 _ rfl; have x3 := f6 3 _ rfl; have x4 := f6 4 _ rfl; have x5 := f6 5 _ rfl; have x6 := f6 6 _ rfl; have x7 := f6 7 _ rfl; have x8 := f6 8 _ rfl; clear f6 hOX; go_simp <;> with_reducible rfl)
                try simp only [Act.put, List.setIfInBounds_toArray, List.set_cons_zero, List.set_cons_succ, List.getElem_toArray, List.getElem_cons_zero, List.getElem_cons_succ]
                refine wpAnyO_takeN hrf.out htr.out (i := 1) (v := ?_) rfl (by kernel_rfl) (fun _ _ _ h => h) (Or.inl ⟨by rfl, ?_⟩) ?_
                rotate_left
                · (intro X hX; go_simp <;> with_reducible rfl)
                try simp only [Act.put, List.setIfInBounds_toArray, List.set_cons_zero, List.set_cons_succ, List.getElem_toArray, List.getElem_cons_zero, List.getElem_cons_succ]
                refine wpAnyO_takeN hrf.out htr.out (i := 2) (v := ?_) rfl (by kernel_rfl) (fun _ _ _ h => h) (Or.inl ⟨by rfl, ?_⟩) ?_
                rotate_left
                · (intro X hX; go_simp <;> with_reducible rfl)
                try simp only [Act.put, List.setIfInBounds_toArray, List.set_cons_zero, List.set_cons_succ, List.getElem_toArray, List.getElem_cons_zero, List.getElem_cons_succ]
                refine wpAnyO_takeN hrf.out htr.out (i := 3) (v := ?_) rfl (by kernel_rfl) (fun _ _ _ h => h) (Or.inl ⟨by rfl, ?_⟩) ?_
                rotate_left
                · (intro X hX; go_simp <;> with_reducible rfl)
                try simp only [Act.put, List.setIfInBounds_toArray, List.set_cons_zero, List.set_cons_succ, List.getElem_toArray, List.getElem_cons_zero, List.getElem_cons_succ]
                refine wpAnyO_takeN hrf.out htr.out (i := 4) (v := ?_) rfl (by kernel_rfl) (fun _ _ _ h => h) (Or.inl ⟨by rfl, ?_⟩) ?_
                rotate_left
                · (intro X hX; have hOX := (hQ1.out.trans hX); obtain ⟨f6, t0⟩ := kk.out X hOX; have x0 := f6 0 _ rfl; have x1 := f6 1 _ rfl; have x2 := f6 2 _ rfl; have x3 := f6 3 _ rfl; have x4 := f6 4 _ rfl; have x5 := f6 5 _ rfl; have x6 := f6 6 _ rfl; have x7 := f6 7 _ rfl; have x8 := f6 8 _ rfl; clear f6 hOX; go_simp <;> with_reducible rfl)
                try simp only [Act.put, List.setIfInBounds_toArray, List.set_cons_zero, List.set_cons_succ, List.getElem_toArray, List.getElem_cons_zero, List.getElem_cons_succ]
                refine wpAnyO_takeN hrf.out htr.out (i := 6) (v := ?_) rfl (by kernel_rfl) (fun _ _ _ h => h) (Or.inl ⟨by rfl, ?_⟩) ?_
                rotate_left
                · (intro X hX; go_simp <;> with_reducible rfl)
                try simp only [Act.put, List.setIfInBounds_toArray, List.set_cons_zero, List.set_cons_succ, List.getElem_toArray, List.getElem_cons_zero, List.getElem_cons_succ]
                refine wpAnyO_one (i := 5) (by kernel_rfl) rfl ?_
                intro K hK
                go_simp
                (go_at_call 10; refine Calls.mono (h10.out _ hQ1.out) ?_; rintro e X3 ⟨rfl, hO9⟩)
                refine hK _ _ (fun _ => hO9) ?_
                clear hK K
                try simp only [Act.put, List.setIfInBounds_toArray, List.set_cons_zero, List.set_cons_succ, List.getElem_toArray, List.getElem_cons_zero, List.getElem_cons_succ]
                refine wpAnyO_one (i := 7) (by kernel_rfl) rfl ?_
                intro K hK
                go_simp
                refine hK _ _ (fun _ => Old.refl _) ?_
                clear hK K
                try simp only [Act.put, List.setIfInBounds_toArray, List.set_cons_zero, List.set_cons_succ, List.getElem_toArray, List.getElem_cons_zero, List.getElem_cons_succ]
                refine wpAnyO_done (by kernel_rfl) ?_ _
                have hQ2 : Old w6 X3 := hQ1.out.trans hO9
                replace hQ2 : Aside _ := hQ2
                go_wp2
                go_roundg (T.length - (j + 1))
                case measure => omega
                case rel => exact ⟨j + 1, by go_num, by omega, by omega, hQ2.out⟩
              · have ho' : (o == 0) = false := by simpa using ho
                simp only [ho, decide_true, decide_false] at h10
                replace h10 : Aside _ := h10
                refine wpAnyO_take hrf.out htr.out (i := 9) (v := ?_) rfl (by kernel_rfl) (fun _ _ _ h => h) (Or.inl ⟨by rfl, ?_⟩) ?_
                rotate_left
                · (intro X hX; go_simp <;> with_reducible rfl)
                try simp only [Act.put, List.setIfInBounds_toArray, List.set_cons_zero, List.set_cons_succ, List.getElem_toArray, List.getElem_cons_zero, List.getElem_cons_succ]
                refine wpAnyO_take hrf.out htr.out (i := 10) (v := ?_) rfl (by kernel_rfl) (fun _ _ _ h => h) (Or.inl ⟨by rfl, ?_⟩) ?_
                rotate_left
                · (intro X hX; go_simp <;> with_reducible rfl)
                try simp only [Act.put, List.setIfInBounds_toArray, List.set_cons_zero, List.set_cons_succ, List.getElem_toArray, List.getElem_cons_zero, List.getElem_cons_succ]
                refine wpAnyO_one (i := 11) (by kernel_rfl) rfl ?_
                intro K hK
                go_simp
                refine hK _ _ (fun h => absurd rfl h) ?_
                clear hK K
                try simp only [Act.put, List.setIfInBounds_toArray, List.set_cons_zero, List.set_cons_succ, List.getElem_toArray, List.getElem_cons_zero, List.getElem_cons_succ]
                refine wpAnyO_done (by kernel_rfl) ?_ _
                go_wp2
                refine wp_region_O Old 8 (by kernel_rfl) ?_
                have hQ1 : Old w6 X1.drew := Old.drew hQ8.out
                replace hQ1 : Aside _ := hQ1
                generalize X1.drew = X2 at *
                refine wpAnyO_takeN hrf.out htr.out (i := 0) (v := ?_) rfl (by kernel_rfl) (fun _ _ _ h => h) (Or.inl ⟨by rfl, ?_⟩) ?_
                rotate_left
                · (intro X hX; have hOX := (hQ1.out.trans hX); obtain ⟨f6, t0⟩ := kk.out X hOX; have x0 := f6 0 _ rfl; have x1 := f6 1 _ rfl; have x2 := f6 2 _ rfl; have x3 := f6 3 _ rfl; have x4 := f6 4 _ rfl; have x5 := f6 5 _ rfl; have x6 := f6 6 _ rfl; have x7 := f6 7 _ rfl; have x8 := f6 8 _ rfl; clear f6 hOX; go_simp <;> with_reducible rfl)
                try simp only [Act.put, List.setIfInBounds_toArray, List.set_cons_zero, List.set_cons_succ, List.getElem_toArray, List.getElem_cons_zero, List.getElem_cons_succ]
                refine wpAnyO_takeN hrf.out htr.out (i := 1) (v := ?_) rfl (by kernel_rfl) (fun _ _ _ h => h) (Or.inl ⟨by rfl, ?_⟩) ?_
                rotate_left
                · (intro X hX; go_simp <;> with_reducible rfl)
                try simp only [Act.put, List.setIfInBounds_toArray, List.set_cons_zero, List.set_cons_succ, List.getElem_toArray, List.getElem_cons_zero, List.getElem_cons_succ]
                refine wpAnyO_takeN hrf.out htr.out (i := 2) (v := ?_) rfl (by kernel_rfl) (fun _ _ _ h => h) (Or.inl ⟨by rfl, ?_⟩) ?_
                rotate_left
                · (intro X hX; go_simp <;> with_reducible rfl)
                try simp only [Act.put, List.setIfInBounds_toArray, List.set_cons_zero, List.set_cons_succ, List.getElem_toArray, List.getElem_cons_zero, List.getElem_cons_succ]
                refine wpAnyO_takeN hrf.out htr.out (i := 3) (v := ?_) rfl (by kernel_rfl) (fun _ _ _ h => h) (Or.inl ⟨by rfl, ?_⟩) ?_
                rotate_left
                · (intro X hX; go_simp <;> with_reducible rfl)
                try simp only [Act.put, List.setIfInBounds_toArray, List.set_cons_zero, List.set_cons_succ, List.getElem_toArray, List.getElem_cons_zero, List.getElem_cons_succ]
                refine wpAnyO_takeN hrf.out htr.out (i := 4) (v := ?_) rfl (by kernel_rfl) (fun _ _ _ h => h) (Or.inl ⟨by rfl, ?_⟩) ?_
                rotate_left
                · (intro X hX; have hOX := (hQ1.out.trans hX); obtain ⟨f6, t0⟩ := kk.out X hOX; have x0 := f6 0 _ rfl; have x1 := f6 1 _ rfl; have x2 := f6 2 _ rfl; have x3 := f6 3 _ rfl; have x4 := f6 4 _ rfl; have x5 := f6 5 _ rfl; have x6 := f6 6 _ rfl; have x7 := f6 7 _ rfl; have x8 := f6 8 _ rfl; clear f6 hOX; go_simp <;> with_reducible rfl)
                try simp only [Act.put, List.setIfInBounds_toArray, List.set_cons_zero, List.set_cons_succ, List.getElem_toArray, List.getElem_cons_zero, List.getElem_cons_succ]
                refine wpAnyO_takeN hrf.out htr.out (i := 6) (v := ?_) rfl (by kernel_rfl) (fun _ _ _ h => h) (Or.inl ⟨by rfl, ?_⟩) ?_
                rotate_left
                · (intro X hX; go_simp <;> with_reducible rfl)
                try simp only [Act.put, List.setIfInBounds_toArray, List.set_cons_zero, List.set_cons_succ, List.getElem_toArray, List.getElem_cons_zero, List.getElem_cons_succ]
                refine wpAnyO_one (i := 5) (by kernel_rfl) rfl ?_
                intro K hK
                go_simp
                (go_at_call 10; refine Calls.mono (h10.out _ hQ1.out) ?_; rintro e X3 ⟨rfl, hO9⟩)
                refine hK _ _ (fun _ => hO9) ?_
                clear hK K
                try simp only [Act.put, List.setIfInBounds_toArray, List.set_cons_zero, List.set_cons_succ, List.getElem_toArray, List.getElem_cons_zero, List.getElem_cons_succ]
                refine wpAnyO_one (i := 7) (by kernel_rfl) rfl ?_
                intro K hK
                go_simp
                refine hK _ _ (fun _ => Old.refl _) ?_
                clear hK K
                try simp only [Act.put, List.setIfInBounds_toArray, List.set_cons_zero, List.set_cons_succ, List.getElem_toArray, List.getElem_cons_zero, List.getElem_cons_succ]
                refine wpAnyO_done (by kernel_rfl) ?_ _
                have hQ2 : Old w6 X3 := hQ1.out.trans hO9
                replace hQ2 : Aside _ := hQ2
                go_wp2
                go_roundg (T.length - (j + 1))
                case measure => omega
                case rel => exact ⟨j + 1, by go_num, by omega, by omega, hQ2.out⟩
          · have hje : j = T.length := by omega
            subst hje
            go_wp2
            go_ret
            exact ⟨rfl, hOG.out.trans (hgeA.out _ hO7.out)⟩
end Go.Pri
end

/-
  PriorityOperators: parts of its proof (Pr16 Pr17 Co1 Pr18 Pr19).
-/
import Derived.Lib.BufferMore
import Derived.Maps.OwnSet
import Derived.DeepKeys4
import Derived.Test.YtfadmmecedicjaaGreatDoorK11
import Derived.Test.YtfadmmecedicjaaGreatDoorK17
import Derived.Test.YtfadmmecedicjaaGreatDoorK19
set_option linter.unusedVariables false
set_option linter.unusedSimpArgs false

section
/-
  Survives, walked.
-/
namespace Go.Pri
open Go Go.Abs Go.Proofs Go.RowKit Go.Lib

/-- The children of a tree's nodes. -/
def kidsK (ps : List Prod') (l : List Nd) : List (List Int) := (runK ps l l 0 ([], List.replicate l.length [])).2

set_option maxRecDepth 100000 in
set_option maxHeartbeats 4000000 in
theorem survives10 (a0 : Option Addr) (cap0 : Nat) (c3 c4 c5 c7 c8 tv : Value) (start : Int) (nt : Nat) (ps : List Prod') (l : List Nd) (out : List Int) (F : List Fil) (c : Int) (w : World)
    (hc : c = 0 ∨ c = 1) (htab : TabAt w) (hs : SliceAt 4 w tv (l.map encN)) (hg : GramAt w c3 c5 nt ps) (ht : TreeOK ps nt start l out) (hv : Valid w (.agg #[.slice a0 2 cap0, .slice none 0 0, .int .i64 1, c3, c4, c5, .int .i64 start, c7, c8]))
    (hK : ∀ (i : Nat) x f, l[i]? = some x → f ∈ F → f.par = x.p → ∃ ks kid y, (kidsK ps l)[i]? = some ks ∧ 0 ≤ f.pos ∧ ks[f.pos.toNat]? = some kid ∧ 0 ≤ kid ∧ l[kid.toNat]? = some y)
    (hpw : ∀ x ∈ l, (Lit.int .i64 x.p).wf = true) (hV20 : (violTo l (kidsK ps l) F l.length).length < 20)
    (hf : ConfAt w (.agg #[.slice a0 2 cap0, .slice none 0 0, .int .i64 1, c3, c4, c5, .int .i64 start, c7, c8]) F) (hF : F.length ≤ 4096) (hwf : ∀ f ∈ F, (Lit.int .i64 f.par).wf = true) :
    Calls Tryz.prog 10 #[.agg #[.slice a0 2 cap0, .slice none 0 0, .int .i64 1, c3, c4, c5, .int .i64 start, c7, c8], .int .u64 c, tv] w fun e w' =>
      e = .returned (.bool (decide ((violTo l (kidsK ps l) F l.length).length = 0))) ∧ Old w w' := by
  have hO : Old w (w.alloc (.cells #[.slice a0 2 cap0, .slice none 0 0, .int .i64 1, c3, c4, c5, .int .i64 start, c7, c8] 37)) := (Old.refl w).alloc _
  have h1 := viol12 a0 cap0 c3 c4 c5 c7 c8 tv start nt ps l out F c _ hc (htab.old hO) (hs.old hO) (hg.old hO) ht (hv.old hO) hK hpw hV20 (hf.old hO) hF hwf
  obtain ⟨at', ct, htv⟩ := hs.form
  simp only [List.length_map] at htv
  subst htv
  change Calls _ _ _ _ (fun e w' => ∃ v, e = .returned (.tuple #[v, .int .i64 0]) ∧ SliceAt 3 w' v ((violTo l (kidsK ps l) F l.length).map encV) ∧ Old _ w') at h1
  generalize violTo l (kidsK ps l) F l.length = V at *
  replace h1 : Aside _ := h1
  clear hs hg ht hv hK hpw hf hwf htab
  by_cases hz : V.length = 0
  · rw [decide_eq_true hz]
    go_enter Tryz.func10, Tryz.ntmps10
    go_wp2_with (go_at_call 12; refine Calls.mono h1.out ?_; rintro e w2 ⟨v, rfl, hsl, hk⟩; obtain ⟨a, cv, hvf⟩ := hsl.form; simp only [List.length_map, hz] at hvf; subst hvf)
    go_ret
    exact ⟨rfl, hO.trans hk⟩
  · rw [decide_eq_false hz]
    have hz' : ¬ (V.length : Int) = 0 := by omega
    have hbe : ((V.length : Int) == 0) = false := by simpa using hz
    go_enter Tryz.func10, Tryz.ntmps10
    go_wp2_with (go_at_call 12; refine Calls.mono h1.out ?_; rintro e w2 ⟨v, rfl, hsl, hk⟩; obtain ⟨a, cv, hvf⟩ := hsl.form; simp only [List.length_map] at hvf; subst hvf)
    go_ret
    exact ⟨rfl, hO.trans hk⟩
end Go.Pri
end

section
/-
  The collector's and: at the sets of all configurations.
-/
namespace Go.Pri
open Go Go.Abs Go.Proofs Go.RowKit Go.Lib

/-- A store of what is there already. -/
theorem old_setSelf {W : World} {b i : Nat} {v : Value} (h : W.cell? ⟨b, i, none⟩ = some v) : Old W (W.setCell ⟨b, i, none⟩ v) := by
  refine ⟨rfl, rfl, by simp [World.setCell], fun k hk => ?_⟩
  by_cases e : b = k
  · subst e
    simp only [World.cell?] at h
    cases hb : W.heap[b]? with
    | none => rw [hb] at h; cases h
    | some o =>
      rw [hb] at h
      cases o with
      | cells c el fz =>
        simp only [Option.isSome_none, Bool.false_eq_true, if_false] at h
        rw [Go.Lib.heap_setCell_same hb v]
        obtain ⟨hl, hv⟩ := Array.getElem?_eq_some_iff.1 h
        have : c.setIfInBounds i v = c := by
          apply Array.ext
          · simp
          · intro j h1 h2
            rw [Array.getElem_setIfInBounds]
            split
            · rename_i e; subst e; exact hv.symm
            · rfl
        rw [this]
      | _ => cases h
  · exact Below.heap_setCell W ⟨b, i, none⟩ v k (fun e2 => e e2.symm)

set_option maxHeartbeats 4000000 in
theorem and52 (C : Nat) (w : World) (htab : TabAt w) (hC : w.cell? ⟨C, 10, none⟩ = some (.bool false)) (hfz : w.frozen? ⟨C, 10, none⟩ = false) :
    Calls Tryz.prog 52 #[.pointer (some ⟨C, 0, none⟩), .agg #[.slice none 0 0, .int .i64 1], .agg #[.slice none 0 0, .int .i64 1]] w fun e w' => e = .returned (.agg #[.slice none 0 0, .int .i64 1]) ∧ Old w w' := by
  have hO : Old w (((w.alloc (.cells #[.slice none 0 0, .int .i64 1] 31)).alloc (.cells #[.slice none 0 0, .int .i64 1] 31)).alloc (.cells #[.slice none 0 0, .int .i64 0] 31)) := (((Old.refl w).alloc _).alloc _).alloc _
  have h1 := and69 (htab.old hO)
  have hx6 : ∀ i v, (#[.slice none 0 0, .int .i64 0] : Array Value)[i]? = some v → (((w.alloc (.cells #[.slice none 0 0, .int .i64 1] 31)).alloc (.cells #[.slice none 0 0, .int .i64 1] 31)).alloc (.cells #[.slice none 0 0, .int .i64 0] 31)).cell? ⟨w.heap.size + 1 + 1, i, none⟩ = some v := fun i v hi => by
    have := World.alloc_heap_new ((w.alloc (.cells #[.slice none 0 0, .int .i64 1] 31)).alloc (.cells #[.slice none 0 0, .int .i64 1] 31)) (.cells #[.slice none 0 0, .int .i64 0] 31)
    rw [World.size_alloc, World.size_alloc] at this
    simp only [World.cell?, this]
    simpa using hi
  have hx6z : ∀ i, (((w.alloc (.cells #[.slice none 0 0, .int .i64 1] 31)).alloc (.cells #[.slice none 0 0, .int .i64 1] 31)).alloc (.cells #[.slice none 0 0, .int .i64 0] 31)).frozen? ⟨w.heap.size + 1 + 1, i, none⟩ = false := fun i => by
    have := World.alloc_heap_new ((w.alloc (.cells #[.slice none 0 0, .int .i64 1] 31)).alloc (.cells #[.slice none 0 0, .int .i64 1] 31)) (.cells #[.slice none 0 0, .int .i64 0] 31)
    rw [World.size_alloc, World.size_alloc] at this
    simp only [World.frozen?, this]
    simp
  replace hx6z : Aside _ := hx6z
  have hlt := lt_of_cell hC
  simp only at hlt
  have lt6 : w.heap.size + 1 + 1 < (((w.alloc (.cells #[.slice none 0 0, .int .i64 1] 31)).alloc (.cells #[.slice none 0 0, .int .i64 1] 31)).alloc (.cells #[.slice none 0 0, .int .i64 0] 31)).heap.size := lt_of_cell (hx6 0 _ rfl)
  replace lt6 : Aside _ := lt6
  replace h1 : Aside _ := h1
  replace hx6 : Aside _ := hx6
  go_enter Tryz.func52, Tryz.ntmps52
  go_wp2_with (first
    | (go_at_call 69; refine Calls.mono h1.out ?_; rintro e w2 ⟨rfl, hk2⟩; have hOk := hO.trans hk2.old; have c10 := hOk.cell_some hC; have z10 := (hOk.frozen hlt).trans hfz; have y0 := hk2.cell_some (hx6.out 0 _ rfl); have y1 := hk2.cell_some (hx6.out 1 _ rfl); have z6 := (hk2.frozen ⟨w.heap.size + 1 + 1, 0, none⟩ (lt6.out)).trans (hx6z.out 0); have z61 := (hk2.frozen ⟨w.heap.size + 1 + 1, 1, none⟩ (lt6.out)).trans (hx6z.out 1);
        have hsz2 : w.heap.size + 3 ≤ w2.heap.size := (by have := hk2.size; simpa using this);
        have hO3 : Old w2 (w2.alloc (.cells #[.slice none 0 0, .int .i64 1] 31)) := (Old.refl w2).alloc _;
        have c10' := hO3.cell_some c10; have z10' := (hO3.frozen (p := ⟨C, 10, none⟩) (by simp only; omega)).trans z10;
        have hS := old_setSelf c10';
        have y0' := hS.cell_some (hO3.cell_some y0); have y1' := hS.cell_some (hO3.cell_some y1);
        have z6' := (hS.frozen (p := ⟨w.heap.size + 1 + 1, 0, none⟩) (by simp only [World.size_alloc]; omega)).trans ((hO3.frozen (p := ⟨w.heap.size + 1 + 1, 0, none⟩) (by simp only; omega)).trans z6);
        have z61' := (hS.frozen (p := ⟨w.heap.size + 1 + 1, 1, none⟩) (by simp only [World.size_alloc]; omega)).trans ((hO3.frozen (p := ⟨w.heap.size + 1 + 1, 1, none⟩) (by simp only; omega)).trans z61);
        have x0 := hS.cell_some (p := ⟨w2.heap.size, 0, none⟩) (v := .slice none 0 0) (by simp);
        have x1 := hS.cell_some (p := ⟨w2.heap.size, 1, none⟩) (v := .int .i64 1) (by simp);
        replace hS : Aside _ := hS; replace hO3 : Aside _ := hO3; replace hOk : Aside _ := hOk))
  refine bodyPost_ret (v := .agg #[.slice none 0 0, .int .i64 1]) ?_ rfl ⟨rfl, ?_⟩
  · rw [results_cell1 Tryz.results52]
    simp [go_sem, y0', y1']
  · exact (((((hOk.out.trans hO3.out).trans hS.out).setCell (p := ⟨w.heap.size + 1 + 1, 0, none⟩) (by simp only; omega) _).setCell (p := ⟨w.heap.size + 1 + 1, 1, none⟩) (by simp only; omega) _))
end Go.Pri
end

section
/-
  Collect of the children: walked.
-/
namespace Go.Pri
open Go Go.Abs Go.Proofs Go.RowKit Go.Lib Go.Shelf
attribute [local go_sem] Oper.semAt_some

theorem heap_setCell_other' (w : World) (b i : Nat) (v : Value) {k : Nat} (h : k ≠ b) : (w.setCell ⟨b, i, none⟩ v).heap[k]? = w.heap[k]? := Go.heap_setCell_other w ⟨b, i, none⟩ k v h

def I50 (w : World) (pre : List Int) (W : World) : Prop := (∃ v, Boxed W w.heap.size 39 v ∧ W.ownsRow (w.heap.size + 1) 3 1 v pre.length (pre.map (Value.int .i64))) ∧ Old w W ∧ w.heap.size + 1 ≤ W.heap.size

theorem own_plain {A B : World} {row : Option Nat} {base n : Nat} {v : Value} {xs : List Value} (h : A.ownsRow base 3 1 v n xs) (hg : A.grownBy B row) (hr : ∀ r, row = some r → ∃ o : Obj, A.heap[r]? = some o ∧ o.isCells = false) : B.ownsRow base 3 1 v n xs := by
  refine ⟨h.1, ?_⟩
  rcases h.2 with h2 | ⟨g, cap, cur, h1, h2, h3, h4⟩
  · exact .inl h2
  · refine .inr ⟨g, cap, cur, h1, h2, (hg.block g (Array.getElem?_eq_some_iff.1 h3).1 (fun e => ?_)).trans h3, h4⟩
    obtain ⟨o, ho, hc⟩ := hr g e.symm
    rw [h3] at ho
    cases ho
    cases hc

theorem fin50 {w W w3 : World} {pre : List Int} {x : Int} {v v' : Value} {b Be Bi : Nat} {act : Act} (hB : Boxed W w.heap.size 39 v) (hown : W.ownsRow (w.heap.size + 1) 3 1 v pre.length (pre.map (Value.int .i64))) (hOW : Old w W)
    (hb : b < w.heap.size) (hbe : Be < w.heap.size) (hbi : Bi < w.heap.size) (hown' : w3.ownsRow (w.heap.size + 1) 3 1 v' (pre.length + 1) (pre.map (Value.int .i64) ++ [.int .i64 x])) (hg : (W.alloc (.cells #[.int .i64 x] 3)).grownBy w3 v.ownBlock) :
    ownPostK (Kept3 b Be Bi) (I50 w) (fun _ _ _ => False) (pre ++ [x]) W Exit.normal act (w3.setCell ⟨w.heap.size, 0, none⟩ v') := by
  have hlt := hB.lt
  have hrow : ∀ k, v.ownBlock = some k → w.heap.size + 1 ≤ k := fun k hk => (hown.lt k hk).1
  have hA : Old w (W.alloc (.cells #[.int .i64 x] 3)) := hOW.alloc _
  have h3 : Old w w3 := hA.grown hg (fun k hk => by have := hrow k hk; omega)
  have hB3 : Boxed w3 w.heap.size 39 v := (hg.block w.heap.size (by simp; omega) (fun e => by have := hrow _ e.symm; omega)).trans ((Below.heap_alloc W _ _ hlt).trans hB)
  have keep : ∀ j, j < w.heap.size → (w3.setCell ⟨w.heap.size, 0, none⟩ v').heap[j]? = W.heap[j]? := fun j hj => by
    rw [heap_setCell_other' w3 w.heap.size 0 v' (by omega), h3.heap j hj, hOW.heap j hj]
  refine ⟨((KeepsOthers.alloc W _).trans (KeepsOthers.of_grownBy hg (fun j o hj ho => ?_))).trans (KeepsOthers.setCell _ _ _), ⟨keep _ hb, keep _ hbe, keep _ hbi⟩, ⟨v', Boxed.set _ hB3, ?_⟩, h3.setCell (Nat.le_refl _) _, ?_⟩
  · have h1 : (W.alloc (.cells #[.int .i64 x] 3)).ownsRow (w.heap.size + 1) 3 1 v pre.length (pre.map (Value.int .i64)) := own_old hown ((Old.refl W).alloc _)
    rcases h1.2 with ⟨rfl, _⟩ | ⟨g, cap, cur, rfl, _, h4, _⟩
    · cases hj
    · simp only [Value.ownBlock, Option.some.injEq] at hj
      subst hj
      rw [h4] at ho
      cases ho
      rfl
  · have e : ((pre ++ [x]).map (Value.int .i64)) = pre.map (Value.int .i64) ++ [.int .i64 x] := by simp
    rw [e, List.length_append]
    refine ⟨hown'.1, ?_⟩
    rcases hown'.2 with h5 | ⟨g, cap, cur, h5, h6, h7, h8⟩
    · exact .inl h5
    · exact .inr ⟨g, cap, cur, h5, h6, (heap_setCell_other' w3 w.heap.size 0 v' (by omega)).trans h7, h8⟩
  · have := h3.size
    have := hB3.lt
    simp [World.setCell]; omega

set_option maxRecDepth 100000 in
set_option maxHeartbeats 8000000 in
theorem append50_in (F : Fence) (n : Nat) (h50 : F.fn 50) (h51 : F.fn 51) (hro : F.round = none) (hn5 : 5 ≤ n) (b Be Bi m cap i : Nat) (out ks : List Int) (stop : Int) (w : World)
    (hBi : w.cell? ⟨Bi, 0, none⟩ = some (.int .i64 i)) (hBe : w.cell? ⟨Be, 0, none⟩ = some (.slice (some ⟨b, 0, none⟩) m cap)) (hn : NumsAt w b out) (hm : out.length = m) (hb : m ≤ 2000000) (hi : i < m) (hst : out[i]? = some stop) (hk : IsKids out stop (i + 1) ks) (hkl : ks.length ≤ 2000000) :
    CallsIn F n Tryz.prog 50 #[.slice none 0 0, .func (.func 51) #[] #[.pointer (some ⟨Bi, 0, none⟩), .pointer (some ⟨Be, 0, none⟩)]] w fun e w' => ∃ v, e = .returned v ∧ Old w w' ∧ w'.ownsRow w.heap.size 3 1 v ks.length (ks.map (Value.int .i64)) := by
  have h1 : 1 ≤ n := by omega
  have hbw : b < w.heap.size := by
    have h0 : 0 < out.length := by omega
    exact lt_of_cell (hn 0 (out[0]'h0) (List.getElem?_eq_getElem _))
  have hbiw := lt_of_cell hBi
  have hbew := lt_of_cell hBe
  simp only at hbiw hbew
  refine callsIn_of_wp_marks Tryz.func50 rfl h50 ?_ hro
  simp only [Tryz.ntmps50, List.size_toArray, List.length_cons, List.length_nil, Nat.reduceAdd, Nat.reduceSub, Array.replicate_succ, Array.replicate_zero, List.push_toArray, List.append_toArray, List.nil_append, List.cons_append]
  gi_wp2
  have hO : Old w (w.alloc (.cells #[.slice none 0 0] 39)) := (Old.refl w).alloc _
  have hB0 : Boxed (w.alloc (.cells #[.slice none 0 0] 39)) w.heap.size 39 (.slice none 0 0) := Boxed.new w 39 _
  have hBi0 := hO.cell_some hBi
  have hBe0 := hO.cell_some hBe
  have hn0 := hn.old hO
  have hsz : (w.alloc (.cells #[.slice none 0 0] 39)).heap.size = w.heap.size + 1 := by simp
  generalize w.alloc (.cells #[.slice none 0 0] 39) = W0 at *
  refine wpIn_rangeFunc_ownF hro h1 (gf := 51) (lb := #[.pointer (some ⟨Bi, 0, none⟩), .pointer (some ⟨Be, 0, none⟩)]) rfl h51 (enters_of Tryz.func51 (by kernel_rfl) rfl)
    (kids_stops (α := Int) (fun k => k) F (n - 1) h51 hro (by omega) b Be Bi i m cap out ks stop hm hst hb hi W0 hBi0 hBe0 hn0 (by simpa using hk))
    Kept3.trans (fun W l' o o' hl' _ _ _ => ⟨World.putObj_heap_other (by omega), World.putObj_heap_other (by omega), World.putObj_heap_other (by omega)⟩) (Below.refl _ _) (fun _ => rfl)
    (I50 w) (fun _ _ _ => False)
    (OwnFrom.and (Own.from (fun s A B row hs hg hr => by
      obtain ⟨v, q1, q2⟩ := hs
      exact ⟨v, boxed_grown q1 hg hr, own_plain q2 hg hr⟩) _) (OwnFrom.and (Old.ownFrom (by omega)) (fun _ A B row hs hg _ => Nat.le_trans hs hg.size)))
    (fun c => ownFrom_pure _ _)
    ⟨⟨_, hB0, World.ownsRow_nil _ _ _ _⟩, hO, by omega⟩
    (fun x => { tmps := #[.slice none 0 0, .func (.func 51) #[] #[.pointer (some ⟨Bi, 0, none⟩), .pointer (some ⟨Be, 0, none⟩)], .pointer (some ⟨w.heap.size, 0, none⟩), undef, .slice none 0 0, .int .i64 x, .func (.func 51) #[] #[.pointer (some ⟨Bi, 0, none⟩), .pointer (some ⟨Be, 0, none⟩)], .int .i64 x,
        undef, undef, undef, undef, undef], defers := [] }) ?assign ?body ?done ?stop
  case assign =>
    intro l x W K hK
    gi_wp2
    exact hK
  case body =>
    rintro l' pre x W ⟨⟨v, hB, hown⟩, hOW, hWs⟩ hlen
    obtain ⟨a, c, hv⟩ := own_form hown
    subst hv
    have g2 := hB.cell
    obtain ⟨i6, hi6, hz6, hs6, hb6⟩ := info_parts info3
    have hown1 : (W.alloc (.cells #[.int .i64 x] 3)).ownsRow (w.heap.size + 1) 3 1 (.slice a pre.length c) pre.length (pre.map (Value.int .i64)) := own_old hown ((Old.refl W).alloc _)
    have hsz1 : w.heap.size + 1 ≤ (W.alloc (.cells #[.int .i64 x] 3)).heap.size := by simp; omega
    have hnew : ∀ j u, [Value.int .i64 x][j]? = some u → (W.alloc (.cells #[.int .i64 x] 3)).cell? ((⟨W.heap.size, 0, none⟩ : Addr).add j) = some u := fun j u hj => by
      match j, hj with
      | 0, hj => simp at hj; subst hj; simp [Addr.add]
      | j + 1, hj => simp at hj
    replace hown1 : Aside _ := hown1
    replace hown : Aside _ := hown
    replace hOW : Aside _ := hOW
    replace hnew : Aside _ := hnew
    clear hk hn hn0 hst hO hB0 hBi0 hBe0 hBi hBe
    gi_wp2_with (gi_at_builtin; refine wpListIn_append_own _ rfl (.tmp 8) (.tmp 10) 39 rfl (w.heap.size + 1) 3 i6 (.int .i64 0) 1 8 Tryz.underlying39 hi6 hz6 hs6 hb6 rfl (by decide) (.slice a pre.length c) pre.length (pre.map (Value.int .i64)) rfl hown1.out ⟨W.heap.size, 0, none⟩ 1 1 [.int .i64 x] rfl rfl hnew.out (by simp; rfl) (by unfold maxLen; omega) (by omega) hsz1 ?_; intro v' w3 hown' hg3 _; have hf := fun act => fin50 (act := act) hB hown.out hOW.out hbw hbew hbiw hown' hg3; have hB3 : Boxed w3 w.heap.size 39 (.slice a pre.length c) := (hg3.block w.heap.size (by simp; omega) (fun e => by have := (World.ownsRow.lt (w := W) (base := w.heap.size + 1) hown.out _ e.symm).1; omega)).trans ((Below.heap_alloc W _ _ hB.lt).trans hB); have g3 := hB3.cell; have z3 := hB3.frozen; obtain ⟨a', c', hv'⟩ := own_form hown'; subst hv'; replace hf : Aside _ := hf; clear hown' hg3 hB3)
    exact hf.out _
  case done =>
    rintro D xs W hD rfl ⟨⟨v, hB, hown⟩, hOW, hWs⟩ hK
    obtain ⟨a, c, hv⟩ := own_form hown
    subst hv
    have g2 := hB.cell
    clear hk hn hn0 hst hO hB0 hBi0 hBe0 hBi hBe
    replace hown : Aside _ := hown
    replace hOW : Aside _ := hOW
    gi_wp2
    refine ⟨by simp, .inl ⟨_, _, rfl, run_takeDeferred hK, ?_⟩⟩
    refine ⟨_, results_tmp rfl _ _ _, _, rfl, hOW.out.grown (grownBy_putObj' _ D _) (fun k e => by cases e; omega), ?_⟩
    have hkk := own_plain hown.out (grownBy_putObj' W D (.deferred none)) (fun r e => by cases e; exact ⟨_, hK, rfl⟩)
    refine ⟨hkk.1, ?_⟩
    rcases hkk.2 with h5 | ⟨g, cap', cur, h5, h6, h7⟩
    · exact .inl h5
    · exact .inr ⟨g, cap', cur, h5, by omega, h7⟩
  case stop =>
    rintro D c pre W _ hpre hF _
    exact hF.elim
end Go.Pri
end

section
/-
  The rules' map: its keys, its elements.
-/
namespace Go.Pri
open Go Go.Abs Go.Proofs Go.RowKit Go.Lib Go.Maps

theorem laidOut : laidOutB Tryz.prog = true := by kernel_rfl
theorem row95 : (95 : TypeId) < Tryz.prog.types.size := of_decide_eq_true (by kernel_rfl)
theorem wide95 : (match Tryz.prog.underlying 95 with | some (.array _ _) | some (.struct _) => true | _ => false) = true := by rw [Tryz.underlying95]
set_option maxRecDepth 100000 in
theorem law95 : WideMaps.KeyLaw Tryz.prog 95 := deep_law_laid laidOut (m := 2) (by omega) row95 (by kernel_rfl) wide95
theorem keyed95 : Keyed Tryz.prog 95 := Keyed.of_law law95
theorem keyType95 : Tryz.prog.keyType 95 = true := by kernel_rfl
theorem cells95 : Tryz.prog.cellsOf 95 = 4 := by kernel_rfl
theorem cells3 : Tryz.prog.cellsOf 3 = 1 := by kernel_rfl
theorem typesPos : ∃ n, Tryz.prog.types.size + 1 = n + 1 + 1 := by
  have h : 95 < Tryz.prog.types.size := row95
  exact ⟨Tryz.prog.types.size - 1, by omega⟩

def ruleV (f : Fil) : Value := .agg #[.int .i64 1, .int .i64 f.par, .int .i64 f.pos, .int .i64 f.child]
structure Fil.wf (f : Fil) : Prop where
  par : (Lit.int .i64 f.par).wf = true
  pos : (Lit.int .i64 f.pos).wf = true
  child : (Lit.int .i64 f.child).wf = true
theorem lits3 {n : Nat} {a : Int} (h : (Lit.int .i64 a).wf = true) : Tryz.prog.keyLits (n + 1) 3 [.int .i64 a] = some [.int .i64 a] := by
  simp only [Program.keyLits, Tryz.underlying3, h, and_self, if_true]
theorem lits95 {n : Nat} {f : Fil} (h : f.wf) : Tryz.prog.keyLits (n + 1 + 1) 95 [.int .i64 1, .int .i64 f.par, .int .i64 f.pos, .int .i64 f.child] = some [.int .i64 1, .int .i64 f.par, .int .i64 f.pos, .int .i64 f.child] := by
  have h1 : (Lit.int .i64 1).wf = true := by decide
  have hu := Tryz.underlying95
  unfold Program.keyLits
  rw [hu]
  simp only [cells95, List.length_cons, List.length_nil, cells3, List.mapM_cons, List.mapM_nil, List.drop_zero, List.drop_succ_cons, List.take_succ_cons, List.take_zero, lits3 h.par, lits3 h.pos, lits3 h.child, lits3 h1]
  rw [if_pos ⟨trivial, by simp⟩]
  rfl
theorem formed95 (f : Fil) : (ruleV f).formed Tryz.prog 95 = true := by
  unfold Value.formed ruleV
  rw [Tryz.underlying95]
  simp only [cells95]
  rfl
theorem key95 {f : Fil} (h : f.wf) : ∃ kl, keyOf Tryz.prog 95 (ruleV f) = some kl := by
  obtain ⟨n, hn⟩ := typesPos
  unfold keyOf
  rw [Tryz.underlying95]
  simp only [keyType95, formed95, Bool.and_self, if_true, hn]
  have : (ruleV f).cells.toList = [.int .i64 1, .int .i64 f.par, .int .i64 f.pos, .int .i64 f.child] := rfl
  rw [this, lits95 h]
  exact ⟨_, rfl⟩

/-- How a set reads among the map's elements. -/
def R31 (v : Value) : Option (DatU × List MemPlace) := match v with
  | .agg ⟨[.slice none 0 0, .int .i64 n]⟩ => if n = 0 then some (.lit (.bool false), []) else if n = 1 then some (.lit (.bool true), []) else none
  | _ => none
theorem R31_true : R31 (.agg #[.slice none 0 0, .int .i64 1]) = some (.lit (.bool true), []) := rfl
theorem R31_zero : R31 (.agg #[.slice none 0 0, .int .i64 0]) = some (.lit (.bool false), []) := rfl

/-- All but one block is as it was. -/
structure OldBut (M : Nat) (w w' : World) : Prop where
  os : w'.os = w.os
  output : w'.output = w.output
  size : w.heap.size ≤ w'.heap.size
  heap : ∀ k, k < w.heap.size → k ≠ M → w'.heap[k]? = w.heap[k]?
end Go.Pri
namespace Go.Abs
theorem Old.but {M : Nat} {w w' : World} (h : Old w w') : Go.Pri.OldBut M w w' := ⟨h.os, h.output, h.size, fun k hk _ => h.heap k hk⟩
end Go.Abs
namespace Go.Pri
open Go Go.Abs Go.Proofs Go.RowKit Go.Lib Go.Maps
theorem OldBut.refl (M : Nat) (w : World) : OldBut M w w := (Old.refl w).but
theorem OldBut.trans {M : Nat} {a b c : World} (h : OldBut M a b) (k : OldBut M b c) : OldBut M a c :=
  ⟨k.os.trans h.os, k.output.trans h.output, Nat.le_trans h.size k.size, fun i hi hne => (k.heap i (Nat.lt_of_lt_of_le hi h.size) hne).trans (h.heap i hi hne)⟩
theorem OldBut.cell_some {M : Nat} {w w' : World} (h : OldBut M w w') {p : Addr} {v : Value} (hM : p.block ≠ M) (hp : w.cell? p = some v) : w'.cell? p = some v :=
  (World.cell?_of_block (w := w) (h.heap p.block (lt_of_cell hp) hM)).trans hp
theorem OldBut.frozen {M : Nat} {w w' : World} (h : OldBut M w w') {p : Addr} (hp : p.block < w.heap.size) (hM : p.block ≠ M) : w'.frozen? p = w.frozen? p := World.frozen?_of_block (w := w) (h.heap p.block hp hM)
theorem OldBut.grown {M : Nat} {a w w' : World} {row : Option Nat} (h : OldBut M a w) (hg : w.grownBy w' row) (hr : ∀ k, row = some k → a.heap.size ≤ k ∨ k = M) : OldBut M a w' :=
  ⟨hg.os.trans h.os, hg.output.trans h.output, Nat.le_trans h.size hg.size, fun k hk hne => (hg.block k (Nat.lt_of_lt_of_le hk h.size) (fun e => by
    rcases hr k e.symm with h1 | h1
    · omega
    · exact hne h1)).trans (h.heap k hk hne)⟩
theorem map_old {w W : World} {M n : Nat} {D : DatU} (h : w.ownsMap Tryz.prog 95 R31 M n D) (ho : Old w W) : W.ownsMap Tryz.prog 95 R31 M n D := by
  obtain ⟨es, clock, hb, F, hs, hD⟩ := h
  exact ⟨es, clock, (ho.heap M (Array.getElem?_eq_some_iff.1 hb).1).trans hb, F, hs, hD⟩

/-- The collector in memory. -/
structure CollAt (w : World) (C M : Nat) (g : List Value) : Prop where
  g : ∀ (i : Nat) v, g[i]? = some v → i < 9 → w.cell? ⟨C, i, none⟩ = some v
  sets : w.cell? ⟨C, 9, none⟩ = some (.map (some M))
  large : w.cell? ⟨C, 10, none⟩ = some (.bool false)
  fz : ∀ i, w.frozen? ⟨C, i, none⟩ = false
  ne : C ≠ M
theorem CollAt.but {w w' : World} {C M : Nat} {g : List Value} (h : CollAt w C M g) (ho : OldBut M w w') : CollAt w' C M g :=
  ⟨fun i v hi hl => ho.cell_some h.ne (h.g i v hi hl), ho.cell_some h.ne h.sets, ho.cell_some h.ne h.large, fun i => (ho.frozen (p := ⟨C, i, none⟩) (show C < w.heap.size from lt_of_cell h.sets) h.ne).trans (h.fz i), h.ne⟩

theorem R31_form {v : Value} {z : DatU × List MemPlace} (h : R31 v = some z) : ∃ n, v = .agg #[.slice none 0 0, .int .i64 n] := by
  unfold R31 at h
  split at h
  · exact ⟨_, rfl⟩
  · cases h
end Go.Pri
end

section
/-
  The collector's add, of a rule that is not there: walked.
-/
namespace Go.Pri
open Go Go.Abs Go.Proofs Go.RowKit Go.Lib Go.Maps

set_option maxRecDepth 100000 in
set_option maxHeartbeats 8000000 in
theorem add28 (C M n : Nat) (g : List Value) (f : Fil) (kl : Lit) (D : DatU) (w : World) (htab : TabAt w) (hM0 : M ≠ 0) (hc : CollAt w C M g) (hg1 : g[1]? = some (.slice none 0 0)) (hg2 : g[2]? = some (.int .i64 1))
    (hm : w.ownsMap Tryz.prog 95 R31 M n D) (hn : n ≤ 5000) (hk : keyOf Tryz.prog 95 (ruleV f) = some kl) (hnew : Maps.has D kl = false) :
    Calls Tryz.prog 28 #[.pointer (some ⟨C, 0, none⟩), .agg #[.int .i64 1, .int .i64 f.par, .int .i64 f.pos, .int .i64 f.child], .agg #[.slice none 0 0, .int .i64 1]] w fun e w' =>
      (∃ u, e = .returned u) ∧ w'.ownsMap Tryz.prog 95 R31 M (n + 1) (D.put kl (.lit (.bool true))) ∧ OldBut M w w' := by
  have hO : Old w ((w.alloc (.cells #[.int .i64 1, .int .i64 f.par, .int .i64 f.pos, .int .i64 f.child] 95)).alloc (.cells #[.slice none 0 0, .int .i64 1] 31)) := ((Old.refl w).alloc _).alloc _
  have k9 := hO.cell_some hc.sets
  have k10 := hO.cell_some hc.large
  have k1 := hO.cell_some (hc.g 1 _ hg1 (by omega))
  have k2 := hO.cell_some (hc.g 2 _ hg2 (by omega))
  have hlt := lt_of_cell hc.sets
  simp only at hlt
  have z10 := (hO.frozen (p := ⟨C, 10, none⟩) hlt).trans (hc.fz 10)
  have hand := and52 C _ ((htab.old hO).old (Old.refl _).drew) (by simpa using k10) (by simpa using z10)
  have hmix : Tryz.prog.follows Departure.mixedOrders = true := rfl
  have hbx : ∀ W, Old ((w.alloc (.cells #[.int .i64 1, .int .i64 f.par, .int .i64 f.pos, .int .i64 f.child] 95)).alloc (.cells #[.slice none 0 0, .int .i64 1] 31)) W →
      W.cell? ⟨w.heap.size, 0, none⟩ = some (.int .i64 1) ∧ W.cell? ⟨w.heap.size, 1, none⟩ = some (.int .i64 f.par) ∧ W.cell? ⟨w.heap.size, 2, none⟩ = some (.int .i64 f.pos) ∧ W.cell? ⟨w.heap.size, 3, none⟩ = some (.int .i64 f.child) ∧
      W.cell? ⟨w.heap.size + 1, 0, none⟩ = some (.slice none 0 0) ∧ W.cell? ⟨w.heap.size + 1, 1, none⟩ = some (.int .i64 1) ∧ W.frozen? ⟨w.heap.size + 1, 0, none⟩ = false ∧ W.frozen? ⟨w.heap.size + 1, 1, none⟩ = false := fun W h => by
    refine ⟨h.cell_some (by simp), h.cell_some (by simp), h.cell_some (by simp), h.cell_some (by simp), h.cell_some (by simp), h.cell_some (by simp), (h.frozen (by simp)).trans ?_, (h.frozen (by simp)).trans ?_⟩ <;>
    · have := World.alloc_heap_new (w.alloc (.cells #[.int .i64 1, .int .i64 f.par, .int .i64 f.pos, .int .i64 f.child] 95)) (.cells #[.slice none 0 0, .int .i64 1] 31)
      rw [World.size_alloc] at this
      simp only [World.frozen?, this]
      simp
  obtain ⟨b0, b1, b2, b3, b4, b5, b6, b7⟩ := hbx _ (Old.refl _)
  have hszW : ((w.alloc (.cells #[.int .i64 1, .int .i64 f.par, .int .i64 f.pos, .int .i64 f.child] 95)).alloc (.cells #[.slice none 0 0, .int .i64 1] 31)).heap.size = w.heap.size + 2 := by simp
  go_enter Tryz.func28, Tryz.ntmps28
  go_wp2
  generalize hW0 : (w.alloc (.cells #[.int .i64 1, .int .i64 f.par, .int .i64 f.pos, .int .i64 f.child] 95)).alloc (.cells #[.slice none 0 0, .int .i64 1] 31) = W0 at *
  clear hW0
  replace hand : Aside _ := hand
  replace hbx : Aside _ := hbx
  replace hO : Aside _ := hO
  replace hm : Aside _ := hm
  replace hc : Aside _ := hc
  go_still_tail 7, (by kernel_rfl)
  change wpList _ _ _ _ _ W0.drew
  have hd : Old W0 W0.drew := (Old.refl W0).drew
  go_wp2_with (first
    | (go_at_call 52; refine Calls.mono hand.out ?_; rintro e w2 ⟨rfl, hk2⟩; obtain ⟨p0, p1, p2, p3, p4, p5, p6, p7⟩ := hbx.out w2 (hd.trans hk2); have hS0 := old_setSelf p4; have hS1 := old_setSelf (hS0.cell_some p5); have hS := hS0.trans hS1; have p5' := hS.cell_some p5))
  have hO3 := (hd.trans hk2).trans hS
  generalize hW3 : (w2.setCell ⟨w.heap.size + 1, 0, none⟩ (.slice none 0 0)).setCell ⟨w.heap.size + 1, 1, none⟩ (.int .i64 1) = W3 at *
  clear hW3 hS0 hS1 hS p0 p1 p2 p3 p4 p5 p6 p7 b0 b1 b2 b3 b4 b5 b6 b7 hand hd p5'
  obtain ⟨b0, b1, b2, b3, b4, b5, b6, b7⟩ := hbx.out W3 hO3
  have k9' := hO3.cell_some k9
  have hO3w := hO.out.trans hO3
  have hm3 := map_old hm.out hO3w
  have hz31 : ∀ W, (zeroValue 31).run Tryz.prog W = .ok (.agg #[.slice none 0 0, .int .i64 0]) W := Tryz.zeroValue31
  have hOa : Old W3 (W3.alloc (.cells #[.slice none 0 0, .int .i64 0] 31)) := (Old.refl W3).alloc _
  obtain ⟨v1, ps1, l1, r1⟩ := World.ownsMap.look_ok (w := W3.drew) (map_old hm3 (Old.refl W3).drew) keyed95 Tryz.underlying90 (hz31 _) R31_zero hk
  obtain ⟨v2, ps2, l2, r2⟩ := World.ownsMap.look_ok (w := (W3.alloc (.cells #[.slice none 0 0, .int .i64 0] 31)).drew) (map_old hm3 hOa.drew) keyed95 Tryz.underlying90 (hz31 _) R31_zero hk
  obtain ⟨n1, rfl⟩ := R31_form r1
  obtain ⟨n2, rfl⟩ := R31_form r2
  rw [hnew] at l1 l2
  have b0' := hOa.cell_some b0
  have b1' := hOa.cell_some b1
  have b2' := hOa.cell_some b2
  have b3' := hOa.cell_some b3
  have k9'' := hOa.cell_some k9'
  simp only [ruleV] at l1 l2
  have hOn := fun (q : Int) => (Old.refl W3).alloc (.cells #[.slice none 0 0, .int .i64 q] 31)
  have hup := fun (q : Int) => World.ownsMap.update (w := (W3.alloc (.cells #[.slice none 0 0, .int .i64 q] 31)).drew.drew) (map_old hm3 (hOn q).drew.drew) keyed95 Tryz.underlying90 (by unfold maxLen; omega) hk R31_true
  obtain ⟨w5, u1, m1, g1⟩ := hup n1
  obtain ⟨w6, u2, m2, g2⟩ := hup n2
  simp only [ruleV] at u1 u2
  have x0 := (hOn n1).cell_some b0
  have x1 := (hOn n1).cell_some b1
  have x2 := (hOn n1).cell_some b2
  have x3 := (hOn n1).cell_some b3
  have x4 := (hOn n1).cell_some b4
  have x5 := (hOn n1).cell_some b5
  have x9 := (hOn n1).cell_some k9'
  have y0 := (hOn n2).cell_some b0
  have y1 := (hOn n2).cell_some b1
  have y2 := (hOn n2).cell_some b2
  have y3 := (hOn n2).cell_some b3
  have y4 := (hOn n2).cell_some b4
  have y5 := (hOn n2).cell_some b5
  have y9 := (hOn n2).cell_some k9'
  have hfA : OldBut M w w5 := ((hO3w.trans (hOn n1).drew.drew).but (M := M)).grown g1 (fun k hk => by cases hk; exact .inr rfl)
  have hfB : OldBut M w w6 := ((hO3w.trans (hOn n2).drew.drew).but (M := M)).grown g2 (fun k hk => by cases hk; exact .inr rfl)
  replace hfA : Aside _ := hfA
  replace hfB : Aside _ := hfB
  replace m1 : Aside _ := m1
  replace m2 : Aside _ := m2
  clear hup hOn g1 g2 r1 r2 hm3 hO3w hO3 hbx
  go_region
  all_goals go_wp2
  all_goals go_region
  all_goals go_wp2
  all_goals go_end0
  all_goals first
    | (exact ⟨⟨_, rfl⟩, m1.out, hfA.out⟩)
    | (exact ⟨⟨_, rfl⟩, m2.out, hfB.out⟩)
end Go.Pri
end

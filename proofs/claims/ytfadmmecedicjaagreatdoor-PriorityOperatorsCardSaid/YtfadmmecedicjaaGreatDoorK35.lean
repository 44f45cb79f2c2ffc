/-
  PriorityOperators: parts of its proof (Tr3).
-/
import Derived.Test.YtfadmmecedicjaaGreatDoorK26
set_option linter.unusedVariables false
set_option linter.unusedSimpArgs false

section
/-
  Trees: walked.
-/
namespace Go.Pri
open Go Go.Abs Go.Proofs Go.RowKit Go.Lib Go.Maps
set_option maxRecDepth 100000
set_option maxHeartbeats 8000000

theorem leaf8 (ov : Value) (f : Nat) (w : World) (hf : f ≤ 100) :
    Calls Tryz.prog 8 #[ov, .int .i64 f, .int .i64 f] w fun e w' => ∃ v b, e = .returned v ∧ Old w w' ∧ TreesIn w' b v [leafT f] ∧ w.heap.size ≤ b := by
  have w1 : IntKind.i64.wrap (2 * (f : Int)) = 2 * (f : Int) := wf_wrap (by omega) (by omega)
  have w2 : IntKind.i64.wrap (2 * (f : Int) + 1) = 2 * (f : Int) + 1 := wf_wrap (by omega) (by omega)
  go_enter Tryz.func8, Tryz.ntmps8
  go_wp2
  go_ret
  have h1 := World.alloc_heap_new w (.cells (cellsN (leafT f)).toArray 79)
  have hO : Old (w.alloc (.cells (cellsN (leafT f)).toArray 79)) ((w.alloc (.cells (cellsN (leafT f)).toArray 79)).alloc (.cells #[.slice (some ⟨w.heap.size, 0, none⟩) 2 2] 42)) := (Old.refl _).alloc _
  have h2 := World.alloc_heap_new (w.alloc (.cells (cellsN (leafT f)).toArray 79)) (.cells #[.slice (some ⟨w.heap.size, 0, none⟩) 2 2] 42)
  have ht : TreeAt ((w.alloc (.cells (cellsN (leafT f)).toArray 79)).alloc (.cells #[.slice (some ⟨w.heap.size, 0, none⟩) 2 2] 42)) (.slice (some ⟨w.heap.size, 0, none⟩) 2 2) (leafT f) :=
    TreeAt.old ⟨w.heap.size, 2, (cellsN (leafT f)).toArray, rfl, h1, Nat.le_refl _, rfl⟩ hO
  refine ⟨_, w.heap.size + 1, rfl, ((Old.refl w).alloc _).alloc _, ⟨1, #[.slice (some ⟨w.heap.size, 0, none⟩) 2 2], [.slice (some ⟨w.heap.size, 0, none⟩) 2 2], rfl, ?_, rfl, rfl, fun j x l e1 e2 => ?_⟩, by omega⟩
  · rw [World.size_alloc] at h2
    exact h2
  · match j with
    | 0 =>
      simp at e1 e2
      subst e1; subst e2
      exact ht
    | j + 1 => simp at e1

theorem trees8 (ov : Value) (ops : List Nat) (hol : ops.length ≤ 5) (ho4 : ∀ o ∈ ops, o < 4) : ∀ (n f t : Nat) (w : World), 0 < w.heap.size → n ≤ 5 → f ≤ t → t - f ≤ n → t ≤ ops.length → opsAt w ov ops →
    Calls Tryz.prog 8 #[ov, .int .i64 f, .int .i64 t] w fun e w' => ∃ v b, e = .returned v ∧ Old w w' ∧ TreesIn w' b v (treesN ops n (t - f) f) ∧ w.heap.size ≤ b := by
  intro n
  induction n with
  | zero =>
    intro f t w hsz hn hft hd ht ho
    have e : t = f := by omega
    subst e
    have := leaf8 ov t w (by omega)
    simpa [treesN] using this
  | succ n ih =>
    intro f t w hsz hn hft hd ht ho
    by_cases hz : t = f
    · subst hz
      have := leaf8 ov t w (by omega)
      simpa [treesN] using this
    have hlt : f < t := by omega
    have hne : ¬ (f : Int) = t := by omega
    have hrec := fun (f' t' : Nat) (W : World) (h1 : f' ≤ t') (h2 : t' - f' ≤ n) (h3 : t' ≤ t) (h4 : Old w W) => ih f' t' W (Nat.lt_of_lt_of_le hsz h4.size) (by omega) h1 h2 (by omega) (ho.old h4)
    have hgoal : treesN ops (n + 1) (t - f) f = treesTo (treesN ops n) ops f t t := by
      obtain ⟨d, hd'⟩ : ∃ d, t - f = d + 1 := ⟨t - f - 1, by omega⟩
      have e : f + (d + 1) = t := by omega
      rw [hd', treesN, e]
    have hcat := fun (d f' : Nat) (h : d ≤ n) => (by rw [treesN_cat ops h]; exact cat_small n (by omega) d h : (treesN ops n d f').length ≤ 42 ∧ 1 ≤ (treesN ops n d f').length)
    have hjo := fun (k : Nat) (A B : List Nd) (tva tvb : Value) (W : World) (h1 : k < t) (h2 : A ∈ treesN ops n (k - f) f) (h3 : B ∈ treesN ops n (t - (k + 1)) (k + 1)) (h4 : TreeAt W tva A) (h5 : TreeAt W tvb B) (h6 : f ≤ k) (h7 : Old w W) =>
      joined19 ov tva tvb ops f k t (ops[k]'(by omega)) A B W (ho.old h7) (List.getElem?_eq_getElem (by omega)) (ho4 _ (List.getElem_mem _)) (by omega) (by omega) (by omega) (by omega) h4.slice h5.slice (by rw [treesN_len ops (by omega) h2]; omega) (by rw [treesN_len ops (by omega) h3]; omega) (by rw [treesN_len ops (by omega) h2]; omega) (by rw [treesN_len ops (by omega) h3]; omega)
    have hTW0 : TW w (w.alloc (.cells #[] 42)) (.slice (some ⟨w.heap.size, 0, none⟩) 0 0) (treesTo (treesN ops n) ops f t f) [] := by
      rw [treesTo_start]
      exact ⟨(Old.refl w).alloc _, World.ownsRow_lit w #[] 0 (Nat.le_refl _) (by decide) rfl, fun j x l e1 _ => (by simp at e1)⟩
    clear ih
    replace hrec : Aside _ := hrec
    replace hgoal : Aside _ := hgoal
    replace hcat : Aside _ := hcat
    replace hjo : Aside _ := hjo
    replace ho : Aside _ := ho
    replace ho4 : Aside _ := ho4
    replace hTW0 : Aside _ := hTW0
    have hpos : 0 < w.heap.size := hsz
    go_enter Tryz.func8, Tryz.ntmps8
    go_wp2
    generalize w.alloc (.cells #[] 42) = W0 at *
    have hbf : ((f : Int) == (t : Int)) = false := by simp; omega
    (try simp only [hbf])
    go_loopg [7, 8] (t - f) (fun gg s7 s8 wr => ∃ (k : Nat) (vs : List Value), s8 = .int .i64 k ∧ t - k ≤ gg ∧ f ≤ k ∧ k ≤ t ∧ Aside (TW w wr s7 (treesTo (treesN ops n) ops f t k) vs))
    case atStart => exact ⟨f, _, rfl, by omega, by omega, by omega, hTW0⟩
    case round =>
    obtain ⟨k, vs, rfl, hgk, hfk, hkt, hT⟩ := hrel
    by_cases hk : k < t
    · have hk' : (k : Int) < t := by omega
      have wk : IntKind.i64.wrap ((k : Int) + 1) = (k : Int) + 1 := wf_wrap (by omega) (by omega)
      obtain ⟨a7, c7, hv7⟩ := own_form hT.out.own
      subst hv7
      have hr1 := hrec.out f k wr hfk (by omega) (by omega) hT.out.old
      replace hr1 : Aside _ := hr1
      have hC1 := (hcat.out (k - f) f (by omega)).1
      have hC2 := (hcat.out (t - (k + 1)) (k + 1) (by omega)).1
      go_wp2_with (first
        | (go_at_call 8; refine Calls.mono hr1.out ?_; rintro e w1 ⟨v9, b9, rfl, hO1, hL, hb9⟩; have hr2 := hrec.out (k + 1) t w1 (by omega) (by omega) (by omega) (hT.out.old.trans hO1); replace hr2 : Aside _ := hr2; replace hO1 : Aside _ := hO1; replace hL : Aside _ := hL; clear hr1)
        | (go_at_call 8; refine Calls.mono hr2.out ?_; rintro e w2 ⟨v10, b10, rfl, hO2, hM, hb10⟩; replace hO2 : Aside _ := hO2; replace hM : Aside _ := hM; clear hr2))
      have hO12 : Old wr w2 := hO1.out.trans hO2.out
      have hL2 := TreesIn.old (w := w1) hL.out hO2.out
      have hT2 := hT.out.keep hO12
      obtain ⟨cap9, hv9⟩ : ∃ cap, v9 = .slice (some ⟨b9, 0, none⟩) (treesN ops n (k - f) f).length cap := by obtain ⟨cap, _, _, h, _⟩ := hL2; exact ⟨cap, h⟩
      obtain ⟨cap10, hv10⟩ : ∃ cap, v10 = .slice (some ⟨b10, 0, none⟩) (treesN ops n (t - (k + 1)) (k + 1)).length cap := by obtain ⟨cap, _, _, h, _⟩ := hM.out; exact ⟨cap, h⟩
      subst hv9
      subst hv10
      have hgb : ∀ q, (Value.slice a7 (treesTo (treesN ops n) ops f t k).length c7).ownBlock = some q → q < wr.heap.size := fun q hq => (hT.out.own.lt q hq).2
      have hK2 : TreesIn w2 b9 (.slice (some ⟨b9, 0, none⟩) (treesN ops n (k - f) f).length cap9) (treesN ops n (k - f) f) ∧ TreesIn w2 b10 (.slice (some ⟨b10, 0, none⟩) (treesN ops n (t - (k + 1)) (k + 1)).length cap10) (treesN ops n (t - (k + 1)) (k + 1)) ∧
          some b9 ≠ (Value.slice a7 (treesTo (treesN ops n) ops f t k).length c7).ownBlock ∧ some b10 ≠ (Value.slice a7 (treesTo (treesN ops n) ops f t k).length c7).ownBlock :=
        ⟨hL2, hM.out, fun e => by have := hgb _ e.symm; omega, fun e => by have := hgb _ e.symm; have := hO1.out.size; omega⟩
      have hpos9 : b9 ≠ 0 ∧ b10 ≠ 0 := by have := hT.out.old.size; have := hO1.out.size; omega
      have hstart : treesTo (treesN ops n) ops f t k ++ ((treesN ops n (k - f) f).take 0).flatMap (fun a => (treesN ops n (t - (k + 1)) (k + 1)).map fun b => joinT ops f k t a b) = treesTo (treesN ops n) ops f t k := by simp
      have hTo : (treesTo (treesN ops n) ops f t k).length ≤ 10000 := by
        have := flat_le' (fun j => rowJ (treesN ops n) ops f (f + j) t) 1764 (List.range (k - f)) (fun j hj => by
          have hj := List.mem_range.1 hj
          have e1 : f + j - f = j := by omega
          have h1 := (hcat.out j f (by omega)).1
          have h2 := (hcat.out (t - (f + j + 1)) (f + j + 1) (by omega)).1
          have h3 := flat_le' (fun a => (treesN ops n (t - (f + j + 1)) (f + j + 1)).map fun b => joinT ops f (f + j) t a b) 42 (treesN ops n j f) (fun a _ => by simpa using h2)
          simp only [rowJ, e1]
          have := Nat.mul_le_mul_right 42 h1
          omega)
        simp only [List.length_range] at this
        have h5 : (k - f) * 1764 ≤ 5 * 1764 := Nat.mul_le_mul_right _ (by omega)
        exact Nat.le_trans this (Nat.le_trans h5 (by omega))
      replace hT2 : Aside _ := hT2
      replace hK2 : Aside _ := hK2
      replace hstart : Aside _ := hstart
      replace hpos9 : Aside _ := hpos9
      clear hgb hL hL2 hM hO1 hO2 hO12 hb9 hb10 hT
      generalize hLL : treesN ops n (k - f) f = L at *
      generalize hMM : treesN ops n (t - (k + 1)) (k + 1) = M at *
      replace hLL : Aside _ := hLL
      replace hMM : Aside _ := hMM
      go_loopg [7, 11] L.length (fun gg s7 s11 wr2 => ∃ (i : Nat) (vs2 : List Value), s11 = .int .i64 i ∧ L.length - i ≤ gg ∧ i ≤ L.length ∧ Aside (TW w wr2 s7 (treesTo (treesN ops n) ops f t k ++ (L.take i).flatMap fun a => M.map fun b => joinT ops f k t a b) vs2) ∧
          Aside (TreesIn wr2 b9 (.slice (some ⟨b9, 0, none⟩) L.length cap9) L ∧ TreesIn wr2 b10 (.slice (some ⟨b10, 0, none⟩) M.length cap10) M ∧ some b9 ≠ s7.ownBlock ∧ some b10 ≠ s7.ownBlock))
      case atStart => exact ⟨0, _, rfl, by omega, by omega, by rw [hstart.out]; exact hT2, hK2⟩
      case round =>
      obtain ⟨i, vs2, rfl, hgi, hil, hT3, hK3⟩ := hrel
      by_cases hi : i < L.length
      · have hi' : (i : Int) < L.length := by omega
        obtain ⟨A, hA⟩ : ∃ A, L[i]? = some A := ⟨_, List.getElem?_eq_getElem hi⟩
        have hrowA : (L.take (i + 1)).flatMap (fun a => M.map fun b => joinT ops f k t a b) = (L.take i).flatMap (fun a => M.map fun b => joinT ops f k t a b) ++ M.map fun b => joinT ops f k t A b := by
          simp [List.take_add_one, hA]
        have hTi : ((L.take i).flatMap (fun a => M.map fun b => joinT ops f k t a b)).length ≤ 1764 := by
          have h3 := flat_le' (fun a => M.map fun b => joinT ops f k t a b) 42 (L.take i) (fun a _ => by simpa using hC2)
          have h4 : (L.take i).length ≤ 42 := by simp; omega
          have := Nat.mul_le_mul_right 42 h4
          omega
        have hst2 : (treesTo (treesN ops n) ops f t k ++ (L.take i).flatMap fun a => M.map fun b => joinT ops f k t a b) ++ (M.take 0).map (fun b => joinT ops f k t A b) = treesTo (treesN ops n) ops f t k ++ (L.take i).flatMap fun a => M.map fun b => joinT ops f k t a b := by simp
        replace hA : Aside _ := hA
        replace hrowA : Aside _ := hrowA
        replace hst2 : Aside _ := hst2
        obtain ⟨a7', c7', hv7'⟩ := own_form hT3.out.own
        subst hv7'
        go_wp2
        go_loopg [7, 12] M.length (fun gg s7 s12 wr3 => ∃ (j : Nat) (vs3 : List Value), s12 = .int .i64 j ∧ M.length - j ≤ gg ∧ j ≤ M.length ∧ Aside (TW w wr3 s7 ((treesTo (treesN ops n) ops f t k ++ (L.take i).flatMap fun a => M.map fun b => joinT ops f k t a b) ++ (M.take j).map (fun b => joinT ops f k t A b)) vs3) ∧
          Aside (TreesIn wr3 b9 (.slice (some ⟨b9, 0, none⟩) L.length cap9) L ∧ TreesIn wr3 b10 (.slice (some ⟨b10, 0, none⟩) M.length cap10) M ∧ some b9 ≠ s7.ownBlock ∧ some b10 ≠ s7.ownBlock))
        case atStart => exact ⟨0, _, rfl, by omega, by omega, by rw [hst2.out]; exact hT3, hK3⟩
        case round =>
        obtain ⟨j, vs3, rfl, hgj, hjl, hT4, hK4⟩ := hrel
        by_cases hj : j < M.length
        · have hj' : (j : Int) < M.length := by omega
          have hi0 : (0 : Int) ≤ i := by omega
          have hj0 : (0 : Int) ≤ j := by omega
          obtain ⟨B, hB⟩ : ∃ B, M[j]? = some B := ⟨_, List.getElem?_eq_getElem hj⟩
          obtain ⟨a7x, c7x, hv7x⟩ := own_form hT4.out.own
          subst hv7x
          obtain ⟨hKL, hKM, hn9, hn10⟩ := hK4.out
          obtain ⟨bA, cA, hTA, hcA⟩ := hKL.cell hA.out
          obtain ⟨bB, cB, hTB, hcB⟩ := hKM.cell hB
          have hl9 : b9 < wr.heap.size := by obtain ⟨_, _, _, _, h, _⟩ := hKL; exact (Array.getElem?_eq_some_iff.1 h).1
          have hl10 : b10 < wr.heap.size := by obtain ⟨_, _, _, _, h, _⟩ := hKM; exact (Array.getElem?_eq_some_iff.1 h).1
          have hcall := hjo.out k A B _ _ wr.drew hk (by rw [hLL.out]; exact List.mem_of_getElem? hA.out) (by rw [hMM.out]; exact List.mem_of_getElem? hB) (hTA.old (Old.refl wr).drew) (hTB.old (Old.refl wr).drew) hfk (hT4.out.old.trans (Old.refl wr).drew)
          generalize hts : (treesTo (treesN ops n) ops f t k ++ (L.take i).flatMap fun a => M.map fun b => joinT ops f k t a b) ++ (M.take j).map (fun b => joinT ops f k t A b) = ts at *
          have htl : ts.length ≤ 20000 := by
            rw [← hts]
            simp only [List.length_append, List.length_map, List.length_take]
            omega
          have hsj : (treesTo (treesN ops n) ops f t k ++ (L.take i).flatMap fun a => M.map fun b => joinT ops f k t a b) ++ (M.take (j + 1)).map (fun b => joinT ops f k t A b) = ts ++ [joinT ops f k t A B] := by
            rw [← hts, List.take_add_one, hB]
            simp
          have hMx : ∀ q, (Value.slice a7x ts.length c7x).ownBlock = some q → (Value.slice a7x ts.length c7x).ownBlock.getD 0 = q := fun q hq => by rw [hq]; rfl
          have hx9 : b9 ≠ (Value.slice a7x ts.length c7x).ownBlock.getD 0 := by
            cases ho : (Value.slice a7x ts.length c7x).ownBlock with
            | none => exact hpos9.out.1
            | some q => rw [ho] at hn9; simpa using hn9
          have hx10 : b10 ≠ (Value.slice a7x ts.length c7x).ownBlock.getD 0 := by
            cases ho : (Value.slice a7x ts.length c7x).ownBlock with
            | none => exact hpos9.out.2
            | some q => rw [ho] at hn10; simpa using hn10
          have kk : ∀ X, OldBut ((Value.slice a7x ts.length c7x).ownBlock.getD 0) wr X → X.cell? ⟨b9, i, none⟩ = some (.slice (some ⟨bA, 0, none⟩) A.length cA) ∧ X.cell? ⟨b10, j, none⟩ = some (.slice (some ⟨bB, 0, none⟩) B.length cB) := fun X hX =>
            ⟨hcA X (hX.heap b9 hl9 hx9), hcB X (hX.heap b10 hl10 hx10)⟩
          generalize hMe : (Value.slice a7x ts.length c7x).ownBlock.getD 0 = Mx at *
          replace hMx : Aside _ := hMx
          replace kk : Aside _ := kk
          replace hcall : Aside _ := hcall
          replace hsj : Aside _ := hsj
          replace hn9 : Aside _ := hn9
          replace hn10 : Aside _ := hn10
          replace hKL : Aside _ := hKL
          replace hKM : Aside _ := hKM
          replace hTA : Aside _ := hTA
          replace hTB : Aside _ := hTB
          replace hcA : Aside _ := hcA
          replace hcB : Aside _ := hcB
          replace hB : Aside _ := hB
          clear hts hx9 hx10 hMe
          go_wp2
          have hrf : ∀ X, OldBut Mx X X := OldBut.refl Mx
          have htr : ∀ X Y Z, OldBut Mx X Y → OldBut Mx Y Z → OldBut Mx X Z := fun _ _ _ => OldBut.trans
          replace hrf : Aside _ := hrf
          replace htr : Aside _ := htr
          refine wp_region_O (OldBut Mx) 16 (by kernel_rfl) ?_
          have hQ0 : Old wr wr.drew := (Old.refl _).drew
          replace hQ0 : Aside _ := hQ0
          generalize wr.drew = X0 at *
          refine wpAnyO_take hrf.out htr.out (i := 0) (v := ?_) rfl (by kernel_rfl) (fun _ _ _ h => h) (Or.inl ⟨by rfl, ?_⟩) ?_
          rotate_left
          · (intro X hX; go_simp <;> with_reducible rfl)
          try simp only [Act.put, List.setIfInBounds_toArray, List.set_cons_zero, List.set_cons_succ, List.getElem_toArray, List.getElem_cons_zero, List.getElem_cons_succ]
          refine wpAnyO_take hrf.out htr.out (i := 1) (v := ?_) rfl (by kernel_rfl) (fun _ _ _ h => h) (Or.inl ⟨by rfl, ?_⟩) ?_
          rotate_left
          · (intro X hX; go_simp <;> with_reducible rfl)
          try simp only [Act.put, List.setIfInBounds_toArray, List.set_cons_zero, List.set_cons_succ, List.getElem_toArray, List.getElem_cons_zero, List.getElem_cons_succ]
          refine wpAnyO_take hrf.out htr.out (i := 2) (v := ?_) rfl (by kernel_rfl) (fun _ _ _ h => h) (Or.inl ⟨by rfl, ?_⟩) ?_
          rotate_left
          · (intro X hX; go_simp <;> with_reducible rfl)
          try simp only [Act.put, List.setIfInBounds_toArray, List.set_cons_zero, List.set_cons_succ, List.getElem_toArray, List.getElem_cons_zero, List.getElem_cons_succ]
          refine wpAnyO_take hrf.out htr.out (i := 3) (v := ?_) rfl (by kernel_rfl) (fun _ _ _ h => h) (Or.inl ⟨by rfl, ?_⟩) ?_
          rotate_left
          · (intro X hX; go_simp <;> with_reducible rfl)
          try simp only [Act.put, List.setIfInBounds_toArray, List.set_cons_zero, List.set_cons_succ, List.getElem_toArray, List.getElem_cons_zero, List.getElem_cons_succ]
          refine wpAnyO_take hrf.out htr.out (i := 4) (v := ?_) rfl (by kernel_rfl) (fun _ _ _ h => h) (Or.inl ⟨by rfl, ?_⟩) ?_
          rotate_left
          · (intro X hX; go_simp <;> with_reducible rfl)
          try simp only [Act.put, List.setIfInBounds_toArray, List.set_cons_zero, List.set_cons_succ, List.getElem_toArray, List.getElem_cons_zero, List.getElem_cons_succ]
          refine wpAnyO_take hrf.out htr.out (i := 5) (v := ?_) rfl (by kernel_rfl) (fun _ _ _ h => h) (Or.inl ⟨by rfl, ?_⟩) ?_
          rotate_left
          · (intro X hX; go_simp <;> with_reducible rfl)
          try simp only [Act.put, List.setIfInBounds_toArray, List.set_cons_zero, List.set_cons_succ, List.getElem_toArray, List.getElem_cons_zero, List.getElem_cons_succ]
          refine wpAnyO_take hrf.out htr.out (i := 6) (v := ?_) rfl (by kernel_rfl) (fun _ _ _ h => h) (Or.inl ⟨by rfl, ?_⟩) ?_
          rotate_left
          · (intro X hX; go_simp <;> with_reducible rfl)
          try simp only [Act.put, List.setIfInBounds_toArray, List.set_cons_zero, List.set_cons_succ, List.getElem_toArray, List.getElem_cons_zero, List.getElem_cons_succ]
          refine wpAnyO_take hrf.out htr.out (i := 7) (v := ?_) rfl (by kernel_rfl) (fun _ _ _ h => h) (Or.inl ⟨by rfl, ?_⟩) ?_
          rotate_left
          · (intro X hX; go_simp <;> with_reducible rfl)
          try simp only [Act.put, List.setIfInBounds_toArray, List.set_cons_zero, List.set_cons_succ, List.getElem_toArray, List.getElem_cons_zero, List.getElem_cons_succ]
          refine wpAnyO_take hrf.out htr.out (i := 8) (v := ?_) rfl (by kernel_rfl) (fun _ _ _ h => h) (Or.inl ⟨by rfl, ?_⟩) ?_
          rotate_left
          · (intro X hX; obtain ⟨f1, f2⟩ := kk.out X (hQ0.out.but.trans hX); go_simp <;> with_reducible rfl)
          try simp only [Act.put, List.setIfInBounds_toArray, List.set_cons_zero, List.set_cons_succ, List.getElem_toArray, List.getElem_cons_zero, List.getElem_cons_succ]
          refine wpAnyO_take hrf.out htr.out (i := 9) (v := ?_) rfl (by kernel_rfl) (fun _ _ _ h => h) (Or.inl ⟨by rfl, ?_⟩) ?_
          rotate_left
          · (intro X hX; go_simp <;> with_reducible rfl)
          try simp only [Act.put, List.setIfInBounds_toArray, List.set_cons_zero, List.set_cons_succ, List.getElem_toArray, List.getElem_cons_zero, List.getElem_cons_succ]
          refine wpAnyO_take hrf.out htr.out (i := 10) (v := ?_) rfl (by kernel_rfl) (fun _ _ _ h => h) (Or.inl ⟨by rfl, ?_⟩) ?_
          rotate_left
          · (intro X hX; go_simp <;> with_reducible rfl)
          try simp only [Act.put, List.setIfInBounds_toArray, List.set_cons_zero, List.set_cons_succ, List.getElem_toArray, List.getElem_cons_zero, List.getElem_cons_succ]
          refine wpAnyO_take hrf.out htr.out (i := 11) (v := ?_) rfl (by kernel_rfl) (fun _ _ _ h => h) (Or.inl ⟨by rfl, ?_⟩) ?_
          rotate_left
          · (intro X hX; go_simp <;> with_reducible rfl)
          try simp only [Act.put, List.setIfInBounds_toArray, List.set_cons_zero, List.set_cons_succ, List.getElem_toArray, List.getElem_cons_zero, List.getElem_cons_succ]
          refine wpAnyO_take hrf.out htr.out (i := 12) (v := ?_) rfl (by kernel_rfl) (fun _ _ _ h => h) (Or.inl ⟨by rfl, ?_⟩) ?_
          rotate_left
          · (intro X hX; obtain ⟨f1, f2⟩ := kk.out X (hQ0.out.but.trans hX); go_simp <;> with_reducible rfl)
          try simp only [Act.put, List.setIfInBounds_toArray, List.set_cons_zero, List.set_cons_succ, List.getElem_toArray, List.getElem_cons_zero, List.getElem_cons_succ]
          refine wpAnyO_one (i := 13) (by kernel_rfl) rfl ?_
          intro K hK
          go_simp
          (go_at_call 19; refine Calls.mono hcall.out ?_; rintro e X1 ⟨v5, rfl, hY1, hTv⟩)
          refine hK _ _ (fun _ => hY1.but) ?_
          clear hK K
          try simp only [Act.put, List.setIfInBounds_toArray, List.set_cons_zero, List.set_cons_succ, List.getElem_toArray, List.getElem_cons_zero, List.getElem_cons_succ]
          have hTv0 := hTv
          obtain ⟨b5, c5, _, hv5, _⟩ := hTv0
          subst hv5
          have hQ1 : Old wr X1 := hQ0.out.trans hY1
          replace hTv : Aside _ := hTv
          replace hQ1 : Aside _ := hQ1
          refine wpAnyO_one (i := 14) (by kernel_rfl) rfl ?_
          intro K hK
          go_simp
          refine hK _ _ (fun _ => ((Old.refl _).alloc _).but) ?_
          clear hK K
          try simp only [Act.put, List.setIfInBounds_toArray, List.set_cons_zero, List.set_cons_succ, List.getElem_toArray, List.getElem_cons_zero, List.getElem_cons_succ]
          have hN2 : (X1.alloc (.cells #[(.slice (some ⟨b5, 0, none⟩) (joinT ops f k t A B).length c5)] 42)).heap[X1.heap.size]? = some (.cells #[(.slice (some ⟨b5, 0, none⟩) (joinT ops f k t A B).length c5)] 42 (0, 0)) := World.alloc_heap_new _ _
          have hQ2 : Old wr (X1.alloc (.cells #[(.slice (some ⟨b5, 0, none⟩) (joinT ops f k t A B).length c5)] 42)) := hQ1.out.alloc _
          have hTv := TreeAt.old (w := X1) hTv.out ((Old.refl X1).alloc (.cells #[(.slice (some ⟨b5, 0, none⟩) (joinT ops f k t A B).length c5)] 42))
          replace hN2 : Aside _ := hN2
          replace hQ2 : Aside _ := hQ2
          replace hTv : Aside _ := hTv
          generalize X1.alloc (.cells #[(.slice (some ⟨b5, 0, none⟩) (joinT ops f k t A B).length c5)] 42) = X2 at *
          have hT5 := hT4.out.keep hQ2.out
          refine wpAnyO_one (i := 15) (by kernel_rfl) rfl ?_
          intro K hK
          refine stepT (.tmp 58) (.tmp 72) _ w.heap.size (.slice a7x ts.length c7x) (.slice (some ⟨b5, 0, none⟩) (joinT ops f k t A B).length c5) ts.length vs3 X1.heap.size rfl rfl hT5.own hT5.old.size (by omega) rfl (by rfl) (by rfl) (cells_at' hN2.out rfl) ?_
          intro g6 cap6 w6 hown6 hg6 hat6
          refine hK _ _ (fun _ => (OldBut.refl Mx _).grown hg6 (fun q hq => .inr (hMx.out q hq).symm)) ?_
          clear hK K
          try simp only [Act.put, List.setIfInBounds_toArray, List.set_cons_zero, List.set_cons_succ, List.getElem_toArray, List.getElem_cons_zero, List.getElem_cons_succ]
          replace hTv := hTv.out
          refine wpAnyO_one (i := 16) (by kernel_rfl) rfl ?_
          intro K hK
          go_simp
          refine hK _ _ (fun h => absurd rfl h) ?_
          clear hK K
          try simp only [Act.put, List.setIfInBounds_toArray, List.set_cons_zero, List.set_cons_succ, List.getElem_toArray, List.getElem_cons_zero, List.getElem_cons_succ]
          refine wpAnyO_done (by kernel_rfl) ?_ _
          have hK6 : TreesIn w6 b9 (.slice (some ⟨b9, 0, none⟩) L.length cap9) L ∧ TreesIn w6 b10 (.slice (some ⟨b10, 0, none⟩) M.length cap10) M ∧ some b9 ≠ (Value.slice (some ⟨g6, 0, none⟩) (ts.length + 1) cap6).ownBlock ∧ some b10 ≠ (Value.slice (some ⟨g6, 0, none⟩) (ts.length + 1) cap6).ownBlock := by
            have hs2 := hQ2.out.size
            refine ⟨(TreesIn.old hKL.out hQ2.out).grown hT5.own hg6 hn9.out, (TreesIn.old hKM.out hQ2.out).grown hT5.own hg6 hn10.out, ?_, ?_⟩
            · rcases hat6 with h | h
              · rw [h] at hn9; exact hn9.out
              · simp only [Value.ownBlock, ne_eq, Option.some.injEq]; omega
            · rcases hat6 with h | h
              · rw [h] at hn10; exact hn10.out
              · simp only [Value.ownBlock, ne_eq, Option.some.injEq]; omega
          have hT6 := hT5.step hTv hown6 hg6
          replace hT6 : Aside _ := hT6
          replace hK6 : Aside _ := hK6
          clear hcall kk hrf htr hg6 hat6 hown6 hT5 hTv
          go_wp2
          go_roundg (M.length - (j + 1))
          case measure => omega
          case rel => exact ⟨j + 1, _, by go_num, by omega, by omega, by rw [hsj.out]; exact hT6, hK6⟩
        · have hje : j = M.length := by omega
          subst hje
          have hfin : (treesTo (treesN ops n) ops f t k ++ (L.take i).flatMap fun a => M.map fun b => joinT ops f k t a b) ++ (M.take M.length).map (fun b => joinT ops f k t A b) = treesTo (treesN ops n) ops f t k ++ (L.take (i + 1)).flatMap fun a => M.map fun b => joinT ops f k t a b := by
            rw [hrowA.out, List.take_length, List.append_assoc]
          obtain ⟨a7x, c7x, hv7x⟩ := own_form hT4.out.own
          subst hv7x
          replace hfin : Aside _ := hfin
          go_wp2
          go_roundg (L.length - (i + 1))
          case measure => omega
          case rel => exact ⟨i + 1, _, by go_num, by omega, by omega, by rw [← hfin.out]; exact hT4, hK4⟩
      · have hie : i = L.length := by omega
        subst hie
        have hfin : treesTo (treesN ops n) ops f t (k + 1) = treesTo (treesN ops n) ops f t k ++ (L.take L.length).flatMap fun a => M.map fun b => joinT ops f k t a b := by
          rw [treesTo_succ _ _ hfk, List.take_length, ← hLL.out, ← hMM.out]
          rfl
        obtain ⟨a7', c7', hv7'⟩ := own_form hT3.out.own
        subst hv7'
        replace hfin : Aside _ := hfin
        go_wp2
        go_roundg (t - (k + 1))
        case measure => omega
        case rel => exact ⟨k + 1, _, by go_num, by omega, by omega, by omega, by rw [hfin.out]; exact hT3⟩
    · have hke : k = t := by omega
      subst hke
      have hlen1 : 0 < (treesTo (treesN ops n) ops f k k).length := by
        have h1 : (treesN ops (n + 1) (k - f) f).length = cat (n + 1) (k - f) := treesN_cat ops (by omega)
        rw [hgoal.out] at h1
        have := (cat_small (n + 1) (by omega) (k - f) (by omega)).2
        omega
      obtain ⟨b, hTr, hb⟩ := hT.out.trees hlen1
      obtain ⟨a7, c7, hv7⟩ := own_form hT.out.own
      subst hv7
      have hold := hT.out.old
      replace hTr : Aside _ := hTr
      replace hold : Aside _ := hold
      clear hT
      go_wp2
      go_ret
      exact ⟨_, b, rfl, hold.out, by rw [hgoal.out]; exact hTr.out, hb⟩
end Go.Pri
end

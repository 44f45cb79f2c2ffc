/-
  Iterators; every operation.
-/
import Derived.Test.YtlilfkbnlacfgaaGreatDoorAbsH
import Derived.CallsIn
namespace Go.Abs
variable {e : Env}

theorem All2.filter {ρ : Inj} {es es' : List MapEntry} (h : All2 (EntRel ρ) es es') (p q : MapEntry → Bool) (hpq : ∀ a b, EntRel ρ a b → q b = p a) : All2 (EntRel ρ) (es.filter p) (es'.filter q) := by
  induction h with
  | nil => exact .nil
  | cons h t ih =>
    simp only [List.filter_cons, hpq _ _ h]
    split
    · exact .cons h ih
    · exact ih
theorem All2.all {ρ : Inj} {es es' : List MapEntry} (h : All2 (EntRel ρ) es es') (p q : MapEntry → Bool) (hpq : ∀ a b, EntRel ρ a b → q b = p a) : es'.all q = es.all p := by
  induction h with
  | nil => rfl
  | cons h t ih => simp only [List.all_cons, hpq _ _ h, ih]
theorem All2.find {ρ : Inj} {es es' : List MapEntry} (h : All2 (EntRel ρ) es es') (p q : MapEntry → Bool) (hpq : ∀ a b, EntRel ρ a b → q b = p a) {x : MapEntry} (hx : es.find? p = some x) : ∃ y, es'.find? q = some y ∧ EntRel ρ x y := by
  induction h with
  | nil => cases hx
  | cons h t ih =>
    simp only [List.find?_cons, hpq _ _ h] at hx ⊢
    split at hx
    · cases hx; exact ⟨_, rfl, h⟩
    · exact ih hx

theorem setObj_iter {P : Program} {w : World} {r : Nat} {o : Obj} (p : Obj) (h : w.heap[r]? = some p) (hp : ∀ c t f, p ≠ .cells c t f) : (setObj r o).run P w = .ok () (World.turn w r o) := setObj_turn p h hp
theorem getObj_run {P : Program} {w : World} {r : Nat} {o : Obj} (h : w.heap[r]? = some o) (hp : ∀ c t f, o ≠ .cells c t f) : (getObj r).run P w = .ok o w := by
  cases o with
  | cells c t f => exact absurd rfl (hp c t f)
  | _ => simp only [getObj, Sem.run, h]

theorem choose_one (P : Program) (w : World) : (choose (.mapNext 1)).run P w = .ok 0 w := by
  simp only [run_choose]
  rfl

theorem next_rel {b : Nat} (P : Program) {ρ : Inj} {h h' : AHeap} {w : World} (x : WRel ρ h w) {it it' r : Value} {s : Bool} (hi : VRel ρ it it') (hr : nextA h it s = some (r, h')) (ty : TypeId) :
    Gives b P ρ h w (Instr.next it' s ty) r h' := by
  unfold nextA at hr
  split at hr
  · rename_i i
    obtain ⟨pl, hp, rfl⟩ := hi.ptr_l
    split at hr
    · -- a string
      rename_i str pos ho
      obtain ⟨pl', g1, g2, g3⟩ := x.obj _ _ ho
      rw [hp] at g1; cases g1
      have hgo := getObj_run (P := P) g3 (fun _ _ _ h => by cases h)
      have hlt : pl.blk < w.heap.size := (Array.getElem?_eq_some_iff.1 g3).1
      have hz : pl.off + 0 = 0 := by rw [g2]
      cases hpos : Nat.blt pos str.size with
      | true =>
        have hpos' : pos < str.size := Nat.le_of_ble_eq_true hpos
        simp only [hpos, cond_true, Option.some.injEq, Prod.mk.injEq] at hr
        obtain ⟨rfl, rfl⟩ := hr
        obtain ⟨k1, k2⟩ := wrel_turn (b := b) (o := .stringIter str (pos + (Utf8.decode str pos).2)) (ao' := .strIt str (pos + (Utf8.decode str pos).2)) x ho rfl hp rfl ⟨g2, heap_turn_self _ _ _ hlt⟩ rfl
        refine ⟨.tuple #[.bool true, .int .i64 pos, .int .i32 (Utf8.decode str pos).1], _, ρ, ?_, VRel.tuple_iff.2 (.cons (.bool _) (.cons (.int _ _) (.cons (.int _ _) .nil))), k1, k2⟩
        simp only [Instr.next, hz, Sem.run_bind, hgo, Result.andThen_ok, hpos', if_true, setObj_turn _ g3 (fun _ _ _ h => by cases h), Sem.run_pure, goInt]
      | false =>
        have hpos' : ¬ pos < str.size := fun hc => by rw [show Nat.blt pos str.size = true from Nat.ble_eq_true_of_le hc] at hpos; cases hpos
        simp only [hpos, cond_false, Option.some.injEq, Prod.mk.injEq] at hr
        obtain ⟨rfl, rfl⟩ := hr
        refine Gives.same x (v' := .tuple #[.bool false]) ?_ (VRel.tuple_iff.2 (.cons (.bool _) .nil))
        simp only [Instr.next, hz, Sem.run_bind, hgo, Result.andThen_ok, hpos', if_false, Sem.run_pure]
    · -- a map that is nil
      rename_i since seen last ho
      cases hr
      obtain ⟨pl', g1, g2, m', g3, g4⟩ := x.obj _ _ ho
      rw [hp] at g1; cases g1
      have hm : m' = none := by have := g4.map_none; cases this; rfl
      subst hm
      have hgo := getObj_run (P := P) g3 (fun _ _ _ h => by cases h)
      have hz : pl.off + 0 = 0 := by rw [g2]
      refine Gives.same x (v' := .tuple #[.bool false]) ?_ (VRel.tuple_iff.2 (.cons (.bool _) .nil))
      simp only [Instr.next, hz, Sem.run_bind, hgo, Result.andThen_ok, Sem.run_pure]
    · -- a map
      rename_i m since seen last ho
      obtain ⟨pl', g1, g2, m', g3, g4⟩ := x.obj _ _ ho
      rw [hp] at g1; cases g1
      obtain ⟨plm, hpm, hm⟩ := g4.map_some
      cases hm
      have hgo := getObj_run (P := P) g3 (fun _ _ _ h => by cases h)
      have hz : pl.off + 0 = 0 := by rw [g2]
      have hlt : pl.blk < w.heap.size := (Array.getElem?_eq_some_iff.1 g3).1
      cases hmo : h.get m with
      | none => simp [hmo] at hr
      | some o =>
        cases o with
        | map es clock =>
          simp only [hmo] at hr
          obtain ⟨pl', q1, q2, es', q3, q4⟩ := x.obj _ _ hmo
          rw [hpm] at q1; cases q1
          have hgm := getObj_map (P := P) q3
          have hcond : (!seen.toArray.isEmpty && !es'.isEmpty && es'.all fun x => decide (x.born ≥ last)) = (!seen.isEmpty && !es.isEmpty && es.all fun x => Nat.ble last x.born) := by
            rw [isEmpty_rel q4, ← Array.all_toList]
            have : es'.toList.all (fun x => decide (x.born ≥ last)) = es.all fun x => Nat.ble last x.born := All2.all q4 _ _ fun a c hac => by
              rw [hac.born]
              by_cases hc : last ≤ a.born
              · rw [Nat.ble_eq_true_of_le hc]; simpa using hc
              · have : Nat.ble last a.born = false := by
                  cases hcc : Nat.ble last a.born with
                  | true => exact absurd (Nat.le_of_ble_eq_true hcc) hc
                  | false => rfl
                rw [this]; simpa using hc
            rw [this]
            simp
          generalize hC : (!seen.isEmpty && !es.isEmpty && es.all fun x => Nat.ble last x.born) = C at hr hcond
          cases C with
          | true => cases hr
          | false =>
            simp only [cond_false] at hr
            have hleft := All2.filter q4 (fun x => !seen.contains x.born) (fun x => !seen.contains x.born) fun a c hac => by simp only [hac.born]
            have hold := All2.filter hleft (fun x => decide (x.born < since)) (fun x => decide (x.born < since)) fun a c hac => by simp only [hac.born]
            have hnew := All2.filter hleft (fun x => decide (x.born ≥ since)) (fun x => decide (x.born ≥ since)) fun a c hac => by simp only [hac.born]
            have e1 : ((es'.filter fun x => !seen.toArray.contains x.born).filter fun x => decide (x.born < since)).toList = (es'.toList.filter fun x => !seen.contains x.born).filter fun x => decide (x.born < since) := by
              simp
            have e2 : ((es'.filter fun x => !seen.toArray.contains x.born).filter fun x => decide (x.born ≥ since)).toList = (es'.toList.filter fun x => !seen.contains x.born).filter fun x => decide (x.born ≥ since) := by
              simp
            rw [← e1] at hold
            rw [← e2] at hnew
            generalize hO : ((es'.filter fun x => !seen.toArray.contains x.born).filter fun x => decide (x.born < since)) = O at hold
            generalize hN : ((es'.filter fun x => !seen.toArray.contains x.born).filter fun x => decide (x.born ≥ since)) = N at hnew
            generalize hO1 : ((es.filter fun x => !seen.contains x.born).filter fun x => decide (x.born < since)) = O1 at hold hr
            generalize hN1 : ((es.filter fun x => !seen.contains x.born).filter fun x => decide (x.born ≥ since)) = N1 at hnew hr
            split at hr
            · simp only [Option.some.injEq, Prod.mk.injEq] at hr
              obtain ⟨rfl, rfl⟩ := hr
              have hO0 : O = #[] := by have := hold.length; apply Array.eq_empty_of_size_eq_zero; simpa using this.symm
              have hN0 : N = #[] := by have := hnew.length; apply Array.eq_empty_of_size_eq_zero; simpa using this.symm
              subst hO0; subst hN0
              refine Gives.same x (v' := .tuple #[.bool false]) ?_ (VRel.tuple_iff.2 (.cons (.bool _) .nil))
              simp only [Instr.next, hz, Sem.run_bind, hgo, Result.andThen_ok, hgm, hcond, Bool.false_eq_true, if_false, hO, hN]
              have hcand : ((if (#[] : Array MapEntry).isEmpty = true then #[none] else #[]) ++ Array.map some (#[] ++ #[] : Array MapEntry)) = #[none] := by simp
              have h1 : (#[none] : Array (Option MapEntry)).size = 1 := rfl
              have h0 : (#[none] : Array (Option MapEntry))[0]? = some none := rfl
              simp only [hcand, h1, choose_one, Result.andThen_ok, h0, Sem.run_pure]
            · rename_i y
              simp only [Option.some.injEq, Prod.mk.injEq] at hr
              obtain ⟨rfl, rfl⟩ := hr
              obtain ⟨y', hO0, hyy⟩ : ∃ y', O = #[y'] ∧ EntRel ρ y y' := by
                cases hOl : O.toList with
                | nil => rw [hOl] at hold; cases hold
                | cons y' ys =>
                  rw [hOl] at hold
                  cases hold with
                  | cons hy ht =>
                    cases ht
                    exact ⟨y', by rw [← Array.toArray_toList (xs := O), hOl], hy⟩
              have hN0 : N = #[] := by have := hnew.length; apply Array.eq_empty_of_size_eq_zero; simpa using this.symm
              subst hO0; subst hN0
              obtain ⟨k1, k2⟩ := wrel_turn (b := b) (o := .mapIter (some plm.blk) since (seen.toArray.push y'.born) clock) (ao' := .mapIt (some m) since (seen ++ [y.born]) clock) x ho rfl hp rfl
                ⟨g2, some plm.blk, by rw [heap_turn_self _ _ _ hlt, hyy.born]; simp, .map hpm⟩ rfl
              refine ⟨.tuple #[.bool true, y'.key, y'.val], _, ρ, ?_, VRel.tuple_iff.2 (.cons (.bool _) (.cons (by rw [hyy.key]; exact plain_rel hyy.plain) (.cons hyy.val .nil))), k1, k2⟩
              simp only [Instr.next, hz, Sem.run_bind, hgo, Result.andThen_ok, hgm, hcond, Bool.false_eq_true, if_false, hO, hN]
              have hcand : ((if (#[y'] : Array MapEntry).isEmpty = true then #[none] else #[]) ++ Array.map some (#[y'] ++ #[] : Array MapEntry)) = #[some y'] := by simp
              have h1 : (#[some y'] : Array (Option MapEntry)).size = 1 := rfl
              have h0 : (#[some y'] : Array (Option MapEntry))[0]? = some (some y') := rfl
              simp only [hcand, h1, choose_one, Result.andThen_ok, h0, Sem.run_bind, setObj_turn _ g3 (fun _ _ _ h => by cases h), Sem.run_pure]
            · cases hr
        | _ => simp [hmo] at hr
    · cases hr
  · cases hr

theorem entry_rel (P : Program) {ρ : Inj} {h : AHeap} {w : World} (x : WRel ρ h w) {it it' r : Value} (hi : VRel ρ it it') (hr : entryA h it = some r) :
    ∃ r', (Instr.entry it').run P w = .ok r' w ∧ VRel ρ r r' := by
  unfold entryA at hr
  split at hr
  · rename_i i
    obtain ⟨pl, hp, rfl⟩ := hi.ptr_l
    split at hr
    · rename_i m since seen stepped ho
      obtain ⟨pl', g1, g2, m', g3, g4⟩ := x.obj _ _ ho
      rw [hp] at g1; cases g1
      obtain ⟨plm, hpm, hm⟩ := g4.map_some
      cases hm
      have hgo := getObj_run (P := P) g3 (fun _ _ _ h => by cases h)
      have hz : pl.off + 0 = 0 := by rw [g2]
      cases hl : seen.getLast? with
      | none => simp [hl] at hr
      | some stamp =>
        cases hmo : h.get m with
        | none => simp [hl, hmo] at hr
        | some o =>
          cases o with
          | map es clock =>
            simp only [hl, hmo] at hr
            obtain ⟨pl', q1, q2, es', q3, q4⟩ := x.obj _ _ hmo
            rw [hpm] at q1; cases q1
            obtain ⟨hc, hr2⟩ := of_bif hr
            clear hr
            have hc := Nat.eq_of_beq_eq_true hc
            subst hc
            cases hf : es.find? fun x => x.born == stamp with
            | none => simp [hf] at hr2
            | some y =>
              simp only [hf, Option.some.injEq] at hr2
              subst hr2
              obtain ⟨y', k1, k2⟩ := All2.find q4 _ (fun x => x.born == stamp) (fun a c hac => by simp only [hac.born]) hf
              refine ⟨.tuple #[y'.key, y'.val], ?_, VRel.tuple_iff.2 (.cons (by rw [k2.key]; exact plain_rel k2.plain) (.cons k2.val .nil))⟩
              have hb : seen.toArray.back? = some stamp := by simpa using hl
              have hff : es'.find? (fun x => x.born == stamp) = some y' := by rw [← Array.find?_toList]; exact k1
              simp only [Instr.entry, hz, Sem.run_bind, hgo, Result.andThen_ok, hb, getObj_map q3, bne_self_eq_false, Bool.false_eq_true, if_false, hff, Sem.run_pure]
          | _ => simp [hl, hmo] at hr
    · cases hr
  · cases hr

end Go.Abs

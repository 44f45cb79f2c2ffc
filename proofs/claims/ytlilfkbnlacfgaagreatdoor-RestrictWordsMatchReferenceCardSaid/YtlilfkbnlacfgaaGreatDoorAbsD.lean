/-
  Operations, more: aggregates, new objects, slices, maps.
-/
import Derived.Test.YtlilfkbnlacfgaaGreatDoorAbsC
namespace Go.Abs
variable {e : Env}

/-! ## Filling cells -/
theorem foldl_set (vs : List Value) : ∀ (off k : Nat) (cs : Array Value), off + k + vs.length ≤ cs.size →
    ((vs.zipIdx k).foldl (fun cs (p : Value × Nat) => cs.setIfInBounds (off + p.2) p.1) cs).toList = splice cs.toList (off + k) vs := by
  induction vs with
  | nil =>
    intro off k cs h
    simp [splice]
  | cons v vs ih =>
    intro off k cs h
    simp only [List.zipIdx_cons, List.foldl_cons]
    have := ih off (k + 1) (cs.setIfInBounds (off + k) v) (by simp at h ⊢; omega)
    rw [this]
    have e := list_seg_step cs.toList (off + k) v vs (by simp at h ⊢; omega)
    unfold splice
    simpa [Array.toList_setIfInBounds, Nat.add_assoc, Nat.add_comm 1 vs.length] using e

theorem fill_rel {ρ : Inj} {place place' : Nat → Option (Nat × Nat)} (hpl : ∀ i x, place i = some x → place' i = some x) : ∀ {cells : List Value} {ps ps' : List (Nat × Value)} {cells' : Array Value} {cs : List Value},
    VsRel ρ cells cells'.toList → PRel ρ ps ps' → fillA place cells ps = some cs → ∃ cs' : Array Value, Instr.fill place' cells' ps' = some cs' ∧ VsRel ρ cs cs'.toList := by
  intro cells ps ps' cells' cs hc hp
  induction hp generalizing cells cells' with
  | nil =>
    intro h
    simp only [fillA, Option.some.injEq] at h
    subst h
    exact ⟨cells', rfl, hc⟩
  | @cons i v v' x y hv _ ih =>
    intro h
    simp only [fillA] at h
    cases hi : place i with
    | none => simp [hi] at h
    | some p =>
      obtain ⟨off, size⟩ := p
      simp only [hi] at h
      obtain ⟨hb, h⟩ := of_bif h
      rw [Bool.and_eq_true] at hb
      have hl := hv.cells.length
      have h1 : v.cells.toList.length = size := Nat.eq_of_beq_eq_true hb.1
      have h2 : off + size ≤ cells.length := Nat.le_of_ble_eq_true hb.2
      have h3 : cells.length = cells'.size := by simpa using hc.length
      have h4 : v'.cells.size = size := by rw [← Array.length_toList, ← hl]; exact h1
      have hf := foldl_set v'.cells.toList off 0 cells' (by simp only [Array.length_toList]; omega)
      simp only [Nat.add_zero] at hf
      have hz : v'.cells.zipIdx.foldl (fun cs (p : Value × Nat) => cs.setIfInBounds (off + p.2) p.1) cells' = (v'.cells.toList.zipIdx.foldl (fun cs (p : Value × Nat) => cs.setIfInBounds (off + p.2) p.1) cells') := by
        rw [← Array.foldl_toList, Array.toList_zipIdx]
      obtain ⟨cs', g1, g2⟩ := ih (cells := splice cells off v.cells.toList) (cells' := v'.cells.zipIdx.foldl (fun cs (p : Value × Nat) => cs.setIfInBounds (off + p.2) p.1) cells') (by
        rw [hz, hf]
        exact All2.splice hc hv.cells off) h
      refine ⟨cs', ?_, g2⟩
      rw [Instr.fill, hpl i _ hi]
      have hcond : ((v'.cells.size != size) || decide (off + v'.cells.size > cells'.size)) = false := by
        simp [h4]; omega
      simp only [ne_eq, h4, not_true_eq_false, decide_false, Bool.false_or]
      rw [if_neg (by simp; omega)]
      exact g1

/-- The places of a struct's fields, as the model reckons them. -/
theorem mapM_places (he : e.Ok) {fs : Array Field} (hf : ∀ f ∈ fs.toList, ∃ n, e.size f.type = some n) (w : World) :
    ∃ places : Array (Nat × Nat), (fs.mapM (fun (f : Field) => (do pure (f.offset, ← sizeOf f.type) : Sem (Nat × Nat)))).run e.P w = .ok places w ∧ ∀ i x, fieldPlaceA e fs i = some x → places[i]? = some x := by
  have key : ∀ (l : List Field), (∀ f ∈ l, ∃ n, e.size f.type = some n) → ∃ ps : List (Nat × Nat), (l.mapM (fun (f : Field) => (do pure (f.offset, ← sizeOf f.type) : Sem (Nat × Nat)))).run e.P w = .ok ps w ∧
      ∀ (i : Nat) (f : Field) (s : Nat), l[i]? = some f → e.size f.type = some s → ps[i]? = some (f.offset, s) := by
    intro l
    induction l with
    | nil => intro _; exact ⟨[], rfl, fun i f s h => by simp at h⟩
    | cons f l ih =>
      intro h
      obtain ⟨n, hn⟩ := h f (by simp)
      obtain ⟨ps, h1, h2⟩ := ih fun g hg => h g (by simp [hg])
      refine ⟨(f.offset, n) :: ps, by simp only [List.mapM_cons, Sem.run_bind, he.runSize hn, Result.andThen_ok, Sem.run_pure, h1], fun i g s hi hs => ?_⟩
      cases i with
      | zero => simp at hi; subst hi; rw [hn] at hs; cases hs; rfl
      | succ i => simpa using h2 i g s (by simpa using hi) hs
  obtain ⟨ps, h1, h2⟩ := key fs.toList hf
  refine ⟨ps.toArray, ?_, fun i x hx => ?_⟩
  · rw [Array.mapM_eq_mapM_toList, Sem.run_map, h1]
    rfl
  · unfold fieldPlaceA at hx
    cases hi : fs[i]? with
    | none => simp [hi] at hx
    | some f =>
      simp only [hi] at hx
      cases hs : e.size f.type with
      | none => simp [hs] at hx
      | some s =>
        simp only [hs, Option.some.injEq] at hx
        subst hx
        simpa using h2 i f s (by simpa using hi) hs

theorem Env.Ok.zeroRel (he : e.Ok) {t : TypeId} {z : Value} (h : e.zero t = some z) (ρ : Inj) : VsRel ρ z.cells.toList z.cells.toList :=
  let ⟨_, _, _, hp⟩ := he.zero t z h; (plain_rel hp).cells

theorem build_rel (he : e.Ok) {ρ : Inj} (w : World) {t : TypeId} {ps : List (Nat × Value)} {ps' : Array (Nat × Value)} {v : Value} (hp : PRel ρ ps ps'.toList) (h : buildA e t ps = some v) :
    ∃ v', (Instr.build t ps').run e.P w = .ok v' w ∧ VRel ρ v v' := by
  unfold buildA at h
  cases hz : e.zero t with
  | none => simp [hz] at h
  | some z =>
    cases hu : e.under t with
    | none => simp [hz, hu] at h
    | some d =>
      cases d with
      | struct fields =>
        simp only [hz, hu] at h
        cases hf : fillA (fieldPlaceA e fields) z.cells.toList ps with
        | none => simp [hf] at h
        | some cs =>
          simp only [hf, Option.some.injEq] at h
          subst h
          obtain ⟨places, g1, g2⟩ := mapM_places he (he.fields t fields hu) w
          obtain ⟨cs', g3, g4⟩ := fill_rel (place' := (places[·]?)) g2 (he.zeroRel hz ρ) hp hf
          refine ⟨.agg cs', ?_, VRel.mk_agg g4⟩
          simp only [Instr.build, Sem.run_bind, he.runZero hz, Result.andThen_ok, he.runUnder hu, g1, g3, Sem.run_pure]
      | array n elem =>
        simp only [hz, hu] at h
        cases hs : e.size elem with
        | none => simp [hs] at h
        | some s =>
          simp only [hs] at h
          cases hf : fillA (fun i => some (i * s, s)) z.cells.toList ps with
          | none => simp [hf] at h
          | some cs =>
            simp only [hf, Option.some.injEq] at h
            subst h
            obtain ⟨cs', g3, g4⟩ := fill_rel (place' := fun i => some (i * s, s)) (fun _ _ h => h) (he.zeroRel hz ρ) hp hf
            refine ⟨.agg cs', ?_, VRel.mk_agg g4⟩
            simp only [Instr.build, Sem.run_bind, he.runZero hz, Result.andThen_ok, he.runUnder hu, he.runSize hs, g3, Sem.run_pure]
      | _ => simp [hz, hu] at h

theorem part_rel (he : e.Ok) {ρ : Inj} (w : World) {t : TypeId} {cs : List Value} {cs' : Array Value} {off : Nat} {v : Value} (hc : VsRel ρ cs cs'.toList) (h : partA e t cs off = some v) :
    ∃ v', (part t cs' off).run e.P w = .ok v' w ∧ VRel ρ v v' := by
  unfold partA at h
  cases hd : e.under t with
  | none => simp [hd] at h
  | some d =>
    simp only [hd] at h
    cases ha : isAggD d with
    | true =>
      simp only [ha, cond_true] at h
      cases hs : e.size t with
      | none => simp [hs] at h
      | some n =>
        simp only [hs, Option.some.injEq] at h
        subst h
        refine ⟨.agg (cs'.extract off (off + n)), ?_, VRel.mk_agg ?_⟩
        · simp [part, he.runAgg hd, ha, he.runSize hs]
        · have := (hc.drop off).take n
          simpa [Array.toList_extract, List.extract_eq_take_drop] using this
    | false =>
      simp only [ha, cond_false] at h
      obtain ⟨v', g1, g2⟩ := hc.get off v h
      refine ⟨v', ?_, g2⟩
      have : cs'[off]? = some v' := by simpa using g1
      simp [part, he.runAgg hd, ha, this]

/-! ## New objects -/
theorem oref {ρ : Inj} {i : Nat} {pl : Pl} (h : ρ i = some pl) (h0 : pl.off = 0) : VRel ρ (.pointer (some ⟨i, 0, none⟩)) (.pointer (some ⟨pl.blk, 0, none⟩)) := by
  have := VRel.ptr (ρ := ρ) (a := ⟨i, 0, none⟩) h
  rw [h0] at this
  exact this

/-- A new row. -/
theorem new_row {b id : Nat} {ρ : Inj} {h h' : AHeap} {w : World} {cs : List Value} (x : WRel ρ h w) (s : Slot b ρ h id (.row cs true 0) h') {cs' : Array Value} (hv : VsRel ρ cs cs'.toList) (el : TypeId) :
    ∃ ρ' pl, ρ' id = some pl ∧ pl.blk = w.heap.size ∧ pl.off = 0 ∧ pl.n = cs.length ∧ pl.cap = cs.length ∧ pl.esz = 0 ∧ WRel ρ' h' (World.add w (.cells cs' el)) ∧
      Fr b ρ h w ρ' h' (World.add w (.cells cs' el)) ∧ ∀ j, j ≠ id → ρ' j = ρ j := by
  let pl : Pl := { blk := w.heap.size, off := 0, n := cs.length, cap := cs.length, esz := 0 }
  have hl : cs.length = cs'.size := by simpa using hv.length
  have hx : Ext ρ (ρ.put id pl) := Inj.ext_put pl s.free
  have hr : ORel (ρ.put id pl) (World.add w (.cells cs' el)) pl (.row cs true 0) := by
    refine ⟨cs', el, (0, 0), heap_add_self _ _, fun _ => rfl, rfl, rfl, Nat.le_refl _, ?_, fun _ => rfl, ?_⟩
    · show 0 + cs.length ≤ cs'.size; omega
    · show VsRel _ cs ((cs'.toList.drop 0).take cs.length)
      rw [hv.length, List.drop_zero, List.take_length]
      exact hv.mono hx
  obtain ⟨g1, g2⟩ := wrel_at x s (o := .cells cs' el) rfl rfl hr rfl
  exact ⟨_, pl, Inj.put_self _ _ _, rfl, rfl, rfl, rfl, rfl, g1, g2, fun _ h => Inj.put_ne _ _ h⟩

/-- A row that has room behind it. -/
theorem new_grown {b id : Nat} {ρ : Inj} {h h' : AHeap} {w : World} {cs : List Value} {s : Nat} (x : WRel ρ h w) (sl : Slot b ρ h id (.row cs true s) h') {cs' rest : Array Value} (hv : VsRel ρ cs cs'.toList) (el : TypeId) (hs : 0 < s) :
    ∃ ρ' pl, ρ' id = some pl ∧ pl.blk = w.heap.size ∧ pl.off = 0 ∧ pl.n = cs.length ∧ pl.cap = cs.length + rest.size ∧ pl.esz = s ∧ WRel ρ' h' (World.add w (.cells (cs' ++ rest) el)) ∧
      Fr b ρ h w ρ' h' (World.add w (.cells (cs' ++ rest) el)) := by
  let pl : Pl := { blk := w.heap.size, off := 0, n := cs.length, cap := cs.length + rest.size, esz := s }
  have hl : cs.length = cs'.size := by simpa using hv.length
  have hx : Ext ρ (ρ.put id pl) := Inj.ext_put pl sl.free
  have hr : ORel (ρ.put id pl) (World.add w (.cells (cs' ++ rest) el)) pl (.row cs true s) := by
    refine ⟨cs' ++ rest, el, (0, 0), heap_add_self _ _, fun _ => rfl, rfl, rfl, ?_, ?_, fun h => absurd h (Nat.ne_of_gt hs), ?_⟩
    · show cs.length ≤ cs.length + rest.size; omega
    · show 0 + (cs.length + rest.size) ≤ (cs' ++ rest).size
      simp; omega
    · show VsRel _ cs (((cs' ++ rest).toList.drop 0).take cs.length)
      rw [List.drop_zero, Array.toList_append, hl, ← Array.length_toList, List.take_left]
      exact hv.mono hx
  obtain ⟨g1, g2⟩ := wrel_at x sl (o := .cells (cs' ++ rest) el) rfl rfl hr rfl
  exact ⟨_, pl, Inj.put_self _ _ _, rfl, rfl, rfl, rfl, rfl, g1, g2⟩

/-- A new object that is no row. -/
theorem new_obj {b id : Nat} {ρ : Inj} {h h' : AHeap} {w : World} {ao : AObj} (x : WRel ρ h w) (s : Slot b ρ h id ao h') (o : Obj) (hu : Obj.unfrozen o = true) (hw : ao.wr = true)
    (hr : ∀ (ρ' : Inj) (w' : World) (pl : Pl), Ext ρ ρ' → pl.off = 0 → w'.heap[pl.blk]? = some o → ORel ρ' w' pl ao) :
    ∃ ρ' pl, ρ' id = some pl ∧ pl.blk = w.heap.size ∧ pl.off = 0 ∧ WRel ρ' h' (World.add w o) ∧ Fr b ρ h w ρ' h' (World.add w o) ∧ ∀ j, j ≠ id → ρ' j = ρ j := by
  let pl : Pl := { blk := w.heap.size, off := 0, n := 0, cap := 0, esz := 0 }
  obtain ⟨g1, g2⟩ := wrel_at (pl := pl) x s hu rfl (hr _ _ pl (Inj.ext_put pl s.free) rfl (heap_add_self _ _)) hw
  exact ⟨_, pl, Inj.put_self _ _ _, rfl, rfl, g1, g2, fun _ h => Inj.put_ne _ _ h⟩

theorem zeros_rel {ρ : Inj} {zs zs' : List Value} (hz : VsRel ρ zs zs') (n : Nat) (h0 : 0 < zs.length) : VsRel ρ (zerosA zs n) (((Array.range n).map (zs'.toArray[· % zs'.toArray.size]!)).toList) := by
  refine All2.of_get (by simp [zerosA]) fun i a b ha hb => ?_
  have hi : i < n := by
    rcases Nat.lt_or_ge i n with h | h
    · exact h
    · rw [zerosA, List.getElem?_eq_none (by simpa using h)] at ha
      cases ha
  have hl := hz.length
  have hm : i % zs.length < zs.length := Nat.mod_lt _ h0
  simp only [zerosA, List.getElem?_map, List.getElem?_range hi, Option.map_some, Option.some.injEq] at ha
  rw [List.getElem?_eq_getElem hm, Option.getD_some] at ha
  subst ha
  simp only [Array.toList_map, Array.toList_range, List.getElem?_map, List.getElem?_range hi, Option.map_some, Option.some.injEq] at hb
  obtain ⟨u, g1, g2⟩ := hz.get (i % zs.length) _ (List.getElem?_eq_getElem hm)
  have : zs'.toArray[i % zs'.toArray.size]! = u := by
    rw [List.size_toArray, ← hl]
    simp only [getElem!_def]
    rw [List.getElem?_toArray, g1]
  rw [← hb, this]
  exact g2

end Go.Abs

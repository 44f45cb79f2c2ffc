/-
  PriorityOperators: parts of its proof (AbsC AbsD AbsE).
-/
import Derived.Test.YtfadmmecedicjaaGreatDoorK02
set_option linter.unusedVariables false
set_option linter.unusedSimpArgs false

section
/-
  Operations: what the abstract semantics gives, the model gives.
-/
namespace Go.Abs

theorem of_bif {α : Type} {b : Bool} {x : Option α} {r : α} (h : (bif b then x else none) = some r) : b = true ∧ x = some r := by
  cases b with
  | true => exact ⟨rfl, h⟩
  | false => cases h

theorem pureRun_run {α : Type} (P : Program) : ∀ (s : Sem α) (a : α), pureRun P s = some a → ∀ w, s.run P w = .ok a w
  | .pure a, b, h, w => by simp only [pureRun, Option.some.injEq] at h; subst h; rfl
  | .program k, b, h, w => pureRun_run P (k P) b h w
  | .load _ _ _, _, h, _ | .store _ _ _ _, _, h, _ | .new _ _, _, h, _ | .shape _ _, _, h, _ | .freeze _ _ _, _, h, _ | .frozen _ _, _, h, _ | .getObj _ _, _, h, _ | .setObj _ _ _, _, h, _
  | .choose _ _, _, h, _ | .sys _ _, _, h, _ | .mark _ _, _, h, _ | .halt _, _, h, _ => by simp [pureRun] at h

structure Env.Ok (e : Env) : Prop where
  under : ∀ t d, e.under t = some d → e.P.underlying t = some d
  size : ∀ t n, e.size t = some n → ∃ i, e.P.info? t = some i ∧ i.size = n
  bytes : ∀ t n, e.bytes t = some n → ∃ i, e.P.info? t = some i ∧ i.bytes = n
  zero : ∀ t z, e.zero t = some z → ∃ i, e.P.info? t = some i ∧ i.zero = some z ∧ plain z = true
  fields : ∀ t fs, e.under t = some (.struct fs) → ∀ f ∈ fs.toList, ∃ n, e.size f.type = some n
  fn : ∀ f fn, e.fn f = some fn → e.P.funcs[f]? = some fn ∧ ∀ args w, (callFunc f args).run e.P w = .ok (.enter f args) w

def Gl (e : Env) (ρ : Inj) : Prop := (∀ g, g < e.globs → ∃ pl, ρ g = some pl ∧ pl.blk = g ∧ pl.off = 0) ∧ ∀ p ∈ e.pins, ρ p.1 = some p.2
theorem Gl.mono {e : Env} {ρ ρ' : Inj} (hx : Ext ρ ρ') (h : Gl e ρ) : Gl e ρ' := ⟨fun g hg => let ⟨pl, h1, h2⟩ := h.1 g hg; ⟨pl, hx _ _ h1, h2⟩, fun p hp => hx _ _ (h.2 p hp)⟩

section runs
variable {P : Program} {w : World}
theorem run_underlying {t : TypeId} {d : TypeDesc} (h : P.underlying t = some d) : (underlying t).run P w = .ok d w := by simp [underlying, h]
theorem run_typeInfo {t : TypeId} {i : TypeInfo} (h : P.info? t = some i) : (typeInfo t).run P w = .ok i w := by simp [typeInfo, h]
theorem run_sizeOf {t : TypeId} {i : TypeInfo} {n : Nat} (h : P.info? t = some i ∧ i.size = n) : (sizeOf t).run P w = .ok n w := by simp [sizeOf, run_typeInfo h.1, h.2]
theorem run_zeroValue {t : TypeId} {i : TypeInfo} {z : Value} (h : P.info? t = some i) (hz : i.zero = some z) : (zeroValue t).run P w = .ok z w := by simp [zeroValue, run_typeInfo h, hz]
theorem run_isAgg {t : TypeId} {d : TypeDesc} (h : P.underlying t = some d) : (isAgg t).run P w = .ok (isAggD d) w := by
  cases d <;> simp [isAgg, run_underlying h, isAggD]
end runs

variable {e : Env}
theorem Env.Ok.runUnder (he : e.Ok) {t : TypeId} {d : TypeDesc} (h : e.under t = some d) (w : World) : (underlying t).run e.P w = .ok d w := run_underlying (he.under t d h)
theorem Env.Ok.runSize (he : e.Ok) {t : TypeId} {n : Nat} (h : e.size t = some n) (w : World) : (sizeOf t).run e.P w = .ok n w := let ⟨_, h1⟩ := he.size t n h; run_sizeOf h1
theorem Env.Ok.runZero (he : e.Ok) {t : TypeId} {z : Value} (h : e.zero t = some z) (w : World) : (zeroValue t).run e.P w = .ok z w := let ⟨_, h1, h2, _⟩ := he.zero t z h; run_zeroValue h1 h2
theorem Env.Ok.runAgg (he : e.Ok) {t : TypeId} {d : TypeDesc} (h : e.under t = some d) (w : World) : (isAgg t).run e.P w = .ok (isAggD d) w := run_isAgg (he.under t d h)
theorem Env.Ok.runBytes (he : e.Ok) {t : TypeId} {n : Nat} (h : e.bytes t = some n) (w : World) : ∃ i, (typeInfo t).run e.P w = .ok i w ∧ i.bytes = n := let ⟨i, h1, h2⟩ := he.bytes t n h; ⟨i, run_typeInfo h1, h2⟩

/-! ## Operands -/
theorem opnd_rel {ρ : Inj} {t : Tr Value} {n : Nat} {a : Array Value} (hg : Gl e ρ) (ht : TRel ρ t n a) {o : Operand} {v : Value} (h : opnd e t o = some v) (ds : List Deferred) :
    VRel ρ v ((Act.mk a ds).eval o) := by
  cases o with
  | tmp i => exact (ht.2 i v h).2
  | const x =>
    simp only [opnd] at h
    cases hp : plain x <;> simp [hp] at h
    subst h
    exact plain_rel hp
  | global g =>
    simp only [opnd] at h
    cases hp : Nat.blt g e.globs <;> simp [hp] at h
    subst h
    obtain ⟨pl, h1, h2, h3⟩ := hg.1 g (Nat.le_of_ble_eq_true hp)
    have := VRel.ptr (ρ := ρ) (a := ⟨g, 0, none⟩) h1
    rw [h2, h3] at this
    exact this
  | func f =>
    simp only [opnd, Option.some.injEq] at h
    subst h
    exact .func (.func f) rfl (fun i v v' h => by simp at h) rfl (fun i v v' h => by simp at h)

theorem opnds_rel {ρ : Inj} {t : Tr Value} {n : Nat} {a : Array Value} (hg : Gl e ρ) (ht : TRel ρ t n a) (ds : List Deferred) : ∀ {os : List Operand} {vs : List Value}, opnds e t os = some vs →
    VsRel ρ vs (os.map (Act.mk a ds).eval)
  | [], vs, h => by simp only [opnds, Option.some.injEq] at h; subst h; exact .nil
  | o :: os, vs, h => by
    simp only [opnds] at h
    cases h1 : opnd e t o with
    | none => simp [h1] at h
    | some v =>
      cases h2 : opnds e t os with
      | none => simp [h1, h2] at h
      | some xs =>
        simp only [h1, h2, Option.some.injEq] at h
        subst h
        exact .cons (opnd_rel hg ht h1 ds) (opnds_rel hg ht ds h2)

inductive PRel (ρ : Inj) : List (Nat × Value) → List (Nat × Value) → Prop
  | nil : PRel ρ [] []
  | cons {i : Nat} {v v' : Value} {x y : List (Nat × Value)} : VRel ρ v v' → PRel ρ x y → PRel ρ ((i, v) :: x) ((i, v') :: y)

theorem parts_rel {ρ : Inj} {t : Tr Value} {n : Nat} {a : Array Value} (hg : Gl e ρ) (ht : TRel ρ t n a) (ds : List Deferred) : ∀ {os : List (Nat × Operand)} {vs : List (Nat × Value)}, partsA e t os = some vs →
    PRel ρ vs (os.map fun p => (p.1, (Act.mk a ds).eval p.2))
  | [], vs, h => by simp only [partsA, Option.some.injEq] at h; subst h; exact .nil
  | (i, o) :: os, vs, h => by
    simp only [partsA] at h
    cases h1 : opnd e t o with
    | none => simp [h1] at h
    | some v =>
      cases h2 : partsA e t os with
      | none => simp [h1, h2] at h
      | some xs =>
        simp only [h1, h2, Option.some.injEq] at h
        subst h
        exact .cons (opnd_rel hg ht h1 ds) (parts_rel hg ht ds h2)

/-! ## Reading cells -/
theorem addr_add (b o j : Nat) : (⟨b, o, none⟩ : Addr).add j = ⟨b, o + j, none⟩ := by unfold Addr.add; split <;> simp_all
theorem Addr.add_block (a : Addr) (n : Nat) : (a.add n).block = a.block := by unfold Addr.add; split <;> rfl
theorem Addr.add_off (a : Addr) (n : Nat) : (a.add n).off = a.off + n := by unfold Addr.add; split <;> simp_all

theorem read_rel {ρ : Inj} {h : AHeap} {w : World} (x : WRel ρ h w) {a : Addr} {pl : Pl} (hp : ρ a.block = some pl) {n : Nat} {cs : List Value} (hr : readCells h a n = some cs) :
    ∃ cs', VsRel ρ cs cs' ∧ cs'.length = n ∧ ∀ (j : Nat) (v : Value), cs'[j]? = some v → w.cell? ((⟨pl.blk, pl.off + a.off, none⟩ : Addr).add j) = some v := by
  unfold readCells at hr
  cases ho : h.get a.block with
  | none => simp [ho] at hr
  | some o =>
    cases o with
    | row rs wr esz =>
      simp only [ho] at hr
      obtain ⟨hl, hr⟩ := of_bif hr
      · cases hr
        obtain ⟨pl', g1, c, el, fz, g2, g3, g4, g5, g6, g7, g8, g9⟩ := x.obj _ _ ho
        rw [hp] at g1; cases g1
        refine ⟨(((c.toList.drop pl.off).take pl.n).drop a.off).take n, (g9.1.drop a.off).take n, ?_, ?_⟩
        · rw [← ((g9.1.drop a.off).take n).length]; exact Nat.eq_of_beq_eq_true hl
        · intro j v hv
          rw [addr_add]
          have hj : j < n := by
            rcases Nat.lt_or_ge j n with h | h
            · exact h
            · rw [List.getElem?_take, if_neg (by omega)] at hv; cases hv
          rw [List.getElem?_take, if_pos hj, List.getElem?_drop, List.getElem?_take] at hv
          split at hv
          · rw [List.getElem?_drop] at hv
            simp only [World.cell?, g2, Option.isSome_none, Bool.false_eq_true, if_false]
            rw [← hv, ← Array.getElem?_toList]
            congr 1
            omega
          · cases hv
    | _ => simp [ho] at hr

theorem load_rel (he : e.Ok) {ρ : Inj} {h : AHeap} {w : World} (x : WRel ρ h w) {a : Addr} {pl : Pl} (hp : ρ a.block = some pl) {t : TypeId} {v : Value} (hr : loadA e h t a = some v) :
    ∃ v', (loadVar t ⟨pl.blk, pl.off + a.off, none⟩).run e.P w = .ok v' w ∧ VRel ρ v v' := by
  unfold loadA at hr
  cases hd : e.under t with
  | none => simp [hd] at hr
  | some d =>
    simp only [hd] at hr
    cases ha : isAggD d with
    | true =>
      simp only [ha, cond_true] at hr
      cases hs : e.size t with
      | none => simp [hs] at hr
      | some n =>
        simp only [hs] at hr
        cases hc : readCells h a n with
        | none => simp [hc] at hr
        | some cs =>
          simp only [hc, Option.some.injEq] at hr
          subst hr
          obtain ⟨cs', g1, g2, g3⟩ := read_rel x hp hc
          refine ⟨.agg cs'.toArray, ?_, VRel.mk_agg (by simpa using g1)⟩
          have := run_loadCells_list (P := e.P) w ⟨pl.blk, pl.off + a.off, none⟩ cs' g3
          rw [g2] at this
          simp [loadVar, he.runAgg hd, ha, he.runSize hs, this]
    | false =>
      simp only [ha, cond_false] at hr
      cases hc : readCells h a 1 with
      | none => simp [hc] at hr
      | some cs =>
        obtain ⟨cs', g1, g2, g3⟩ := read_rel x hp hc
        match cs, hc, hr, g1 with
        | [u], hc, hr, g1 =>
          simp only [hc, Option.some.injEq] at hr
          subst hr
          match cs', g1 with
          | [u'], .cons g1 _ =>
            have := g3 0 u' rfl
            refine ⟨u', ?_, g1⟩
            have hz : (⟨pl.blk, pl.off + a.off, none⟩ : Addr).add 0 = ⟨pl.blk, pl.off + a.off, none⟩ := by simp [Addr.add]
            rw [hz] at this
            simp [loadVar, he.runAgg hd, ha, this]
        | [], hc, hr, _ => simp [hc] at hr
        | _ :: _ :: _, hc, hr, _ => simp [hc] at hr

/-! ## Writing cells -/
theorem VRel.oneCell {ρ : Inj} {v v' : Value} (h : VRel ρ v v') : oneCell v' = oneCell v := by cases h <;> rfl
theorem oneCell_eq (v : Value) : v.oneCell' = oneCell v := by cases v <;> rfl
theorem VsRel.oneCell {ρ : Inj} {x y : List Value} (h : VsRel ρ x y) (hx : x.all oneCell = true) : ∀ v ∈ y, v.oneCell' = true := by
  induction h with
  | nil => intro v hv; cases hv
  | cons h _ ih =>
    simp only [List.all_cons, Bool.and_eq_true] at hx
    intro v hv
    cases hv with
    | head => rw [oneCell_eq, h.oneCell]; exact hx.1
    | tail _ hv => exact ih hx.2 v hv

theorem setRow_turn (w : World) (g : Nat) (cur : Array Value) (el : TypeId) (fz : Nat × Nat) (new : Array Value) (hg : w.heap[g]? = some (.cells cur el fz)) :
    w.setRow g new = World.turn w g (.cells new el fz) := by
  obtain ⟨hlt, hv⟩ := Array.getElem?_eq_some_iff.1 hg
  unfold World.setRow World.turn
  congr 1
  apply Array.ext_getElem?
  intro i
  rw [Array.getElem?_modify, Array.getElem?_setIfInBounds]
  by_cases h : g = i
  · subst h
    rw [if_pos rfl, if_pos rfl, if_pos hlt, hg]
    rfl
  · rw [if_neg h, if_neg h]

theorem splice_len (cs : List Value) (off : Nat) (vs : List Value) (h : off + vs.length ≤ cs.length) : (splice cs off vs).length = cs.length := by
  unfold splice; simp; omega

theorem All2.splice {ρ : Inj} {cs cs' vs vs' : List Value} (h : VsRel ρ cs cs') (hv : VsRel ρ vs vs') (off : Nat) : VsRel ρ (splice cs off vs) (splice cs' off vs') := by
  unfold Go.Abs.splice
  rw [hv.length]
  exact ((h.take off).append hv).append (h.drop _)

/-- A row's segment, overwritten inside. -/
theorem seg_splice (c : List Value) (o n k : Nat) (vs : List Value) (h : k + vs.length ≤ n) (hc : o + n ≤ c.length) :
    ((c.take (o + k) ++ vs ++ c.drop (o + k + vs.length)).drop o).take n = splice ((c.drop o).take n) k vs := by
  unfold splice
  apply List.ext_getElem?
  intro i
  simp only [List.getElem?_take, List.getElem?_drop, List.getElem?_append, List.length_append, List.length_take, List.length_drop]
  have h1 : min (o + k) c.length = o + k := by omega
  have h2 : min k (min n (c.length - o)) = k := by omega
  rw [h1, h2]
  by_cases hi : i < n
  · simp only [hi, if_true]
    by_cases hk : i < k
    · have e1 : o + i < o + k + vs.length := by omega
      have e2 : o + i < o + k := by omega
      have e3 : i < k + vs.length := by omega
      simp [hk, e1, e2, e3]
    · by_cases hv : i < k + vs.length
      · have e1 : o + i < o + k + vs.length := by omega
        have e2 : ¬ o + i < o + k := by omega
        simp only [e1, e2, hk, hv, if_true, if_false]
        congr 1; omega
      · have e1 : ¬ o + i < o + k + vs.length := by omega
        simp only [e1, hv, if_false]
        have e4 : k + vs.length + (i - (k + vs.length)) < n := by omega
        rw [if_pos e4]
        congr 1; omega
  · simp only [hi, if_false]
    have hk : ¬ i < k := by omega
    have hv : ¬ i < k + vs.length := by omega
    simp only [hk, hv, if_false]
    have e4 : ¬ k + vs.length + (i - (k + vs.length)) < n := by omega
    rw [if_neg e4]

theorem write_rel (P : Program) {b : Nat} {ρ : Inj} {h h' : AHeap} {w : World} (x : WRel ρ h w) {a : Addr} {pl : Pl} (hp : ρ a.block = some pl) {vs vs' : List Value} (hv : VsRel ρ vs vs') (hr : writeCells h a vs = some h') :
    ∃ w', (storeCells ⟨pl.blk, pl.off + a.off, none⟩ vs').run P w = .ok () w' ∧ WRel ρ h' w' ∧ Fr b ρ h w ρ h' w' := by
  unfold writeCells at hr
  match vs, vs', hv with
  | [], [], _ =>
    simp only [Option.some.injEq] at hr
    subst hr
    exact ⟨w, rfl, x, Fr.refl _ _ _ _⟩
  | u :: us, u' :: us', hv =>
    simp only at hr
    cases ho : h.get a.block with
    | none => simp [ho] at hr
    | some o =>
      cases o with
      | row rs wr esz =>
        cases wr with
        | false => simp [ho] at hr
        | true =>
          simp only [ho] at hr
          obtain ⟨hb, hr⟩ := of_bif hr
          · cases hr
            rw [Bool.and_eq_true] at hb
            have hle : a.off + (u :: us).length ≤ rs.length := Nat.le_of_ble_eq_true hb.1
            obtain ⟨pl', g1, c, el, fz, g2, g3, g4, g5, g6, g7, g8, g9⟩ := x.obj _ _ ho
            rw [hp] at g1; cases g1
            have hfz := g3 rfl; subst hfz
            have hl := hv.length
            have hst := run_storeCells_at (P := P) pl.blk (pl.off + a.off) el (u' :: us') 0 c w g2 (by rw [← hl]; omega) (hv.oneCell hb.2)
            rw [setRow_turn w pl.blk c el (0, 0) _ g2] at hst
            refine ⟨_, hst, ?_⟩
            refine wrel_turn x ho rfl hp rfl ?_ rfl
            have hlt : pl.blk < w.heap.size := (Array.getElem?_eq_some_iff.1 g2).1
            have hvl : (u' :: us').length = (u :: us).length := hl.symm
            refine ⟨_, el, (0, 0), heap_turn_self w _ _ hlt, fun _ => rfl, ?_, g5, g6, ?_, g8, ?_, fun e0 => by
                have h0 := congrArg List.length e0
                rw [splice_len _ _ _ hle, List.length_nil] at h0
                simp only [List.length_cons] at hle
                omega⟩
            · rw [splice_len _ _ _ hle]; exact g4
            · simp only [List.size_toArray, List.length_append, List.length_take, List.length_drop, Array.length_toList]; omega
            · simp only [Nat.add_zero]
              rw [seg_splice c.toList pl.off pl.n a.off (u' :: us') (by omega) (by simp; omega)]
              exact All2.splice g9.1 hv _
      | _ => simp [ho] at hr

theorem VRel.cells {ρ : Inj} {v v' : Value} (h : VRel ρ v v') : VsRel ρ v.cells.toList v'.cells.toList := by
  cases h with
  | agg h1 h2 => exact vs_of h1 h2
  | bool b => exact .cons (.bool b) .nil
  | int k n => exact .cons (.int k n) .nil
  | string s => exact .cons (.string s) .nil
  | ptr0 => exact .cons .ptr0 .nil
  | ptr h => exact .cons (.ptr h) .nil
  | sl0 l k => exact .cons (.sl0 l k) .nil
  | sl h hs => exact .cons (.sl h hs) .nil
  | map0 => exact .cons .map0 .nil
  | map h => exact .cons (.map h) .nil
  | func hf h1 h2 h3 h4 => exact .cons (.func hf h1 h2 h3 h4) .nil
  | nilFunc => exact .cons .nilFunc .nil
  | iface h => exact .cons (.iface h) .nil
  | nilIface => exact .cons .nilIface .nil
  | tuple h1 h2 => exact .cons (.tuple h1 h2) .nil

theorem store_rel (he : e.Ok) {b : Nat} {ρ : Inj} {h h' : AHeap} {w : World} (x : WRel ρ h w) {a : Addr} {pl : Pl} (hp : ρ a.block = some pl) {t : TypeId} {v v' : Value} (hv : VRel ρ v v') (hr : storeA e h t a v = some h') :
    ∃ w', (storeVar t ⟨pl.blk, pl.off + a.off, none⟩ v').run e.P w = .ok () w' ∧ WRel ρ h' w' ∧ Fr b ρ h w ρ h' w' := by
  unfold storeA at hr
  cases hs : e.size t with
  | none => simp [hs] at hr
  | some n =>
    simp only [hs] at hr
    obtain ⟨hb, hr⟩ := of_bif hr
    · obtain ⟨w', g1, g2⟩ := write_rel e.P x hp hv.cells hr
      refine ⟨w', ?_, g2⟩
      have hl := hv.cells.length
      have hn := Nat.eq_of_beq_eq_true hb
      have : v'.cells.size = n := by rw [← Array.length_toList, ← hl]; exact hn
      simp [storeVar, he.runSize hs, this, g1]

end Go.Abs
end

section
/-
  Operations, more: aggregates, new objects, slices, maps.
-/
namespace Go.Abs
variable {e : Env}

/-! ## Filling cells -/
theorem foldl_set (vs : List Value) : ∀ (off k : Nat) (cs : Array Value), off + k + vs.length ≤ cs.size →
    ((vs.zipIdx k).foldl (fun cs (p : Value × Nat) => cs.setIfInBounds (off + p.2) p.1) cs).toList = splice cs.toList (off + k) vs := by
  induction vs with
  | nil =>
    intro off k cs h
    simp [splice]
  | cons v vs ih =>
    intro off k cs h
    simp only [List.zipIdx_cons, List.foldl_cons]
    have := ih off (k + 1) (cs.setIfInBounds (off + k) v) (by simp at h ⊢; omega)
    rw [this]
    have e := list_seg_step cs.toList (off + k) v vs (by simp at h ⊢; omega)
    unfold splice
    simpa [Array.toList_setIfInBounds, Nat.add_assoc, Nat.add_comm 1 vs.length] using e

theorem fill_rel {ρ : Inj} {place place' : Nat → Option (Nat × Nat)} (hpl : ∀ i x, place i = some x → place' i = some x) : ∀ {cells : List Value} {ps ps' : List (Nat × Value)} {cells' : Array Value} {cs : List Value},
    VsRel ρ cells cells'.toList → PRel ρ ps ps' → fillA place cells ps = some cs → ∃ cs' : Array Value, Instr.fill place' cells' ps' = some cs' ∧ VsRel ρ cs cs'.toList := by
  intro cells ps ps' cells' cs hc hp
  induction hp generalizing cells cells' with
  | nil =>
    intro h
    simp only [fillA, Option.some.injEq] at h
    subst h
    exact ⟨cells', rfl, hc⟩
  | @cons i v v' x y hv _ ih =>
    intro h
    simp only [fillA] at h
    cases hi : place i with
    | none => simp [hi] at h
    | some p =>
      obtain ⟨off, size⟩ := p
      simp only [hi] at h
      obtain ⟨hb, h⟩ := of_bif h
      rw [Bool.and_eq_true] at hb
      have hl := hv.cells.length
      have h1 : v.cells.toList.length = size := Nat.eq_of_beq_eq_true hb.1
      have h2 : off + size ≤ cells.length := Nat.le_of_ble_eq_true hb.2
      have h3 : cells.length = cells'.size := by simpa using hc.length
      have h4 : v'.cells.size = size := by rw [← Array.length_toList, ← hl]; exact h1
      have hf := foldl_set v'.cells.toList off 0 cells' (by simp only [Array.length_toList]; omega)
      simp only [Nat.add_zero] at hf
      have hz : v'.cells.zipIdx.foldl (fun cs (p : Value × Nat) => cs.setIfInBounds (off + p.2) p.1) cells' = (v'.cells.toList.zipIdx.foldl (fun cs (p : Value × Nat) => cs.setIfInBounds (off + p.2) p.1) cells') := by
        rw [← Array.foldl_toList, Array.toList_zipIdx]
      obtain ⟨cs', g1, g2⟩ := ih (cells := splice cells off v.cells.toList) (cells' := v'.cells.zipIdx.foldl (fun cs (p : Value × Nat) => cs.setIfInBounds (off + p.2) p.1) cells') (by
        rw [hz, hf]
        exact All2.splice hc hv.cells off) h
      refine ⟨cs', ?_, g2⟩
      rw [Instr.fill, hpl i _ hi]
      have hcond : ((v'.cells.size != size) || decide (off + v'.cells.size > cells'.size)) = false := by
        simp [h4]; omega
      simp only [ne_eq, h4, not_true_eq_false, decide_false, Bool.false_or]
      rw [if_neg (by simp; omega)]
      exact g1

/-- The places of a struct's fields, as the model reckons them. -/
theorem mapM_places (he : e.Ok) {fs : Array Field} (hf : ∀ f ∈ fs.toList, ∃ n, e.size f.type = some n) (w : World) :
    ∃ places : Array (Nat × Nat), (fs.mapM (fun (f : Field) => (do pure (f.offset, ← sizeOf f.type) : Sem (Nat × Nat)))).run e.P w = .ok places w ∧ ∀ i x, fieldPlaceA e fs i = some x → places[i]? = some x := by
  have key : ∀ (l : List Field), (∀ f ∈ l, ∃ n, e.size f.type = some n) → ∃ ps : List (Nat × Nat), (l.mapM (fun (f : Field) => (do pure (f.offset, ← sizeOf f.type) : Sem (Nat × Nat)))).run e.P w = .ok ps w ∧
      ∀ (i : Nat) (f : Field) (s : Nat), l[i]? = some f → e.size f.type = some s → ps[i]? = some (f.offset, s) := by
    intro l
    induction l with
    | nil => intro _; exact ⟨[], rfl, fun i f s h => by simp at h⟩
    | cons f l ih =>
      intro h
      obtain ⟨n, hn⟩ := h f (by simp)
      obtain ⟨ps, h1, h2⟩ := ih fun g hg => h g (by simp [hg])
      refine ⟨(f.offset, n) :: ps, by simp only [List.mapM_cons, Sem.run_bind, he.runSize hn, Result.andThen_ok, Sem.run_pure, h1], fun i g s hi hs => ?_⟩
      cases i with
      | zero => simp at hi; subst hi; rw [hn] at hs; cases hs; rfl
      | succ i => simpa using h2 i g s (by simpa using hi) hs
  obtain ⟨ps, h1, h2⟩ := key fs.toList hf
  refine ⟨ps.toArray, ?_, fun i x hx => ?_⟩
  · rw [Array.mapM_eq_mapM_toList, Sem.run_map, h1]
    rfl
  · unfold fieldPlaceA at hx
    cases hi : fs[i]? with
    | none => simp [hi] at hx
    | some f =>
      simp only [hi] at hx
      cases hs : e.size f.type with
      | none => simp [hs] at hx
      | some s =>
        simp only [hs, Option.some.injEq] at hx
        subst hx
        simpa using h2 i f s (by simpa using hi) hs

theorem Env.Ok.zeroRel (he : e.Ok) {t : TypeId} {z : Value} (h : e.zero t = some z) (ρ : Inj) : VsRel ρ z.cells.toList z.cells.toList :=
  let ⟨_, _, _, hp⟩ := he.zero t z h; (plain_rel hp).cells

theorem build_rel (he : e.Ok) {ρ : Inj} (w : World) {t : TypeId} {ps : List (Nat × Value)} {ps' : Array (Nat × Value)} {v : Value} (hp : PRel ρ ps ps'.toList) (h : buildA e t ps = some v) :
    ∃ v', (Instr.build t ps').run e.P w = .ok v' w ∧ VRel ρ v v' := by
  unfold buildA at h
  cases hz : e.zero t with
  | none => simp [hz] at h
  | some z =>
    cases hu : e.under t with
    | none => simp [hz, hu] at h
    | some d =>
      cases d with
      | struct fields =>
        simp only [hz, hu] at h
        cases hf : fillA (fieldPlaceA e fields) z.cells.toList ps with
        | none => simp [hf] at h
        | some cs =>
          simp only [hf, Option.some.injEq] at h
          subst h
          obtain ⟨places, g1, g2⟩ := mapM_places he (he.fields t fields hu) w
          obtain ⟨cs', g3, g4⟩ := fill_rel (place' := (places[·]?)) g2 (he.zeroRel hz ρ) hp hf
          refine ⟨.agg cs', ?_, VRel.mk_agg g4⟩
          simp only [Instr.build, Sem.run_bind, he.runZero hz, Result.andThen_ok, he.runUnder hu, g1, g3, Sem.run_pure]
      | array n elem =>
        simp only [hz, hu] at h
        cases hs : e.size elem with
        | none => simp [hs] at h
        | some s =>
          simp only [hs] at h
          cases hf : fillA (fun i => some (i * s, s)) z.cells.toList ps with
          | none => simp [hf] at h
          | some cs =>
            simp only [hf, Option.some.injEq] at h
            subst h
            obtain ⟨cs', g3, g4⟩ := fill_rel (place' := fun i => some (i * s, s)) (fun _ _ h => h) (he.zeroRel hz ρ) hp hf
            refine ⟨.agg cs', ?_, VRel.mk_agg g4⟩
            simp only [Instr.build, Sem.run_bind, he.runZero hz, Result.andThen_ok, he.runUnder hu, he.runSize hs, g3, Sem.run_pure]
      | _ => simp [hz, hu] at h

theorem part_rel (he : e.Ok) {ρ : Inj} (w : World) {t : TypeId} {cs : List Value} {cs' : Array Value} {off : Nat} {v : Value} (hc : VsRel ρ cs cs'.toList) (h : partA e t cs off = some v) :
    ∃ v', (part t cs' off).run e.P w = .ok v' w ∧ VRel ρ v v' := by
  unfold partA at h
  cases hd : e.under t with
  | none => simp [hd] at h
  | some d =>
    simp only [hd] at h
    cases ha : isAggD d with
    | true =>
      simp only [ha, cond_true] at h
      cases hs : e.size t with
      | none => simp [hs] at h
      | some n =>
        simp only [hs, Option.some.injEq] at h
        subst h
        refine ⟨.agg (cs'.extract off (off + n)), ?_, VRel.mk_agg ?_⟩
        · simp [part, he.runAgg hd, ha, he.runSize hs]
        · have := (hc.drop off).take n
          simpa [Array.toList_extract, List.extract_eq_take_drop] using this
    | false =>
      simp only [ha, cond_false] at h
      obtain ⟨v', g1, g2⟩ := hc.get off v h
      refine ⟨v', ?_, g2⟩
      have : cs'[off]? = some v' := by simpa using g1
      simp [part, he.runAgg hd, ha, this]

/-! ## New objects -/
theorem oref {ρ : Inj} {i : Nat} {pl : Pl} (h : ρ i = some pl) (h0 : pl.off = 0) : VRel ρ (.pointer (some ⟨i, 0, none⟩)) (.pointer (some ⟨pl.blk, 0, none⟩)) := by
  have := VRel.ptr (ρ := ρ) (a := ⟨i, 0, none⟩) h
  rw [h0] at this
  exact this

/-- A new row. -/
theorem new_row {b id : Nat} {ρ : Inj} {h h' : AHeap} {w : World} {cs : List Value} (x : WRel ρ h w) (s : Slot b ρ h id (.row cs true 0) h') {cs' : Array Value} (hv : VsRel ρ cs cs'.toList) (el : TypeId) :
    ∃ ρ' pl, ρ' id = some pl ∧ pl.blk = w.heap.size ∧ pl.off = 0 ∧ pl.n = cs.length ∧ pl.cap = cs.length ∧ pl.esz = 0 ∧ WRel ρ' h' (World.add w (.cells cs' el)) ∧
      Fr b ρ h w ρ' h' (World.add w (.cells cs' el)) ∧ ∀ j, j ≠ id → ρ' j = ρ j := by
  let pl : Pl := { blk := w.heap.size, off := 0, n := cs.length, cap := cs.length, esz := 0 }
  have hl : cs.length = cs'.size := by simpa using hv.length
  have hx : Ext ρ (ρ.put id pl) := Inj.ext_put pl s.free
  have hr : ORel (ρ.put id pl) (World.add w (.cells cs' el)) pl (.row cs true 0) := by
    refine ⟨cs', el, (0, 0), heap_add_self _ _, fun _ => rfl, rfl, rfl, Nat.le_refl _, ?_, fun _ => rfl, ?_, fun _ => trivial⟩
    · show 0 + cs.length ≤ cs'.size; omega
    · show VsRel _ cs ((cs'.toList.drop 0).take cs.length)
      rw [hv.length, List.drop_zero, List.take_length]
      exact hv.mono hx
  obtain ⟨g1, g2⟩ := wrel_at x s (o := .cells cs' el) rfl rfl hr rfl
  exact ⟨_, pl, Inj.put_self _ _ _, rfl, rfl, rfl, rfl, rfl, g1, g2, fun _ h => Inj.put_ne _ _ h⟩

/-- A row that has room behind it. -/
theorem new_grown {b id : Nat} {ρ : Inj} {h h' : AHeap} {w : World} {cs : List Value} {s : Nat} (x : WRel ρ h w) (sl : Slot b ρ h id (.row cs true s) h') {cs' rest : Array Value} (hv : VsRel ρ cs cs'.toList) (el : TypeId) (hs : 0 < s) :
    ∃ ρ' pl, ρ' id = some pl ∧ pl.blk = w.heap.size ∧ pl.off = 0 ∧ pl.n = cs.length ∧ pl.cap = cs.length + rest.size ∧ pl.esz = s ∧ WRel ρ' h' (World.add w (.cells (cs' ++ rest) el)) ∧
      Fr b ρ h w ρ' h' (World.add w (.cells (cs' ++ rest) el)) := by
  let pl : Pl := { blk := w.heap.size, off := 0, n := cs.length, cap := cs.length + rest.size, esz := s }
  have hl : cs.length = cs'.size := by simpa using hv.length
  have hx : Ext ρ (ρ.put id pl) := Inj.ext_put pl sl.free
  have hr : ORel (ρ.put id pl) (World.add w (.cells (cs' ++ rest) el)) pl (.row cs true s) := by
    refine ⟨cs' ++ rest, el, (0, 0), heap_add_self _ _, fun _ => rfl, rfl, rfl, ?_, ?_, fun h => absurd h (Nat.ne_of_gt hs), ?_, fun _ => trivial⟩
    · show cs.length ≤ cs.length + rest.size; omega
    · show 0 + (cs.length + rest.size) ≤ (cs' ++ rest).size
      simp; omega
    · show VsRel _ cs (((cs' ++ rest).toList.drop 0).take cs.length)
      rw [List.drop_zero, Array.toList_append, hl, ← Array.length_toList, List.take_left]
      exact hv.mono hx
  obtain ⟨g1, g2⟩ := wrel_at x sl (o := .cells (cs' ++ rest) el) rfl rfl hr rfl
  exact ⟨_, pl, Inj.put_self _ _ _, rfl, rfl, rfl, rfl, rfl, g1, g2⟩

/-- A new object that is no row. -/
theorem new_obj {b id : Nat} {ρ : Inj} {h h' : AHeap} {w : World} {ao : AObj} (x : WRel ρ h w) (s : Slot b ρ h id ao h') (o : Obj) (hu : Obj.unfrozen o = true) (hw : ao.wr = true)
    (hr : ∀ (ρ' : Inj) (w' : World) (pl : Pl), Ext ρ ρ' → pl.off = 0 → w'.heap[pl.blk]? = some o → ORel ρ' w' pl ao) :
    ∃ ρ' pl, ρ' id = some pl ∧ pl.blk = w.heap.size ∧ pl.off = 0 ∧ WRel ρ' h' (World.add w o) ∧ Fr b ρ h w ρ' h' (World.add w o) ∧ ∀ j, j ≠ id → ρ' j = ρ j := by
  let pl : Pl := { blk := w.heap.size, off := 0, n := 0, cap := 0, esz := 0 }
  obtain ⟨g1, g2⟩ := wrel_at (pl := pl) x s hu rfl (hr _ _ pl (Inj.ext_put pl s.free) rfl (heap_add_self _ _)) hw
  exact ⟨_, pl, Inj.put_self _ _ _, rfl, rfl, g1, g2, fun _ h => Inj.put_ne _ _ h⟩

theorem zeros_rel {ρ : Inj} {zs zs' : List Value} (hz : VsRel ρ zs zs') (n : Nat) (h0 : 0 < zs.length) : VsRel ρ (zerosA zs n) (((Array.range n).map (zs'.toArray[· % zs'.toArray.size]!)).toList) := by
  refine All2.of_get (by simp [zerosA]) fun i a b ha hb => ?_
  have hi : i < n := by
    rcases Nat.lt_or_ge i n with h | h
    · exact h
    · rw [zerosA, List.getElem?_eq_none (by simpa using h)] at ha
      cases ha
  have hl := hz.length
  have hm : i % zs.length < zs.length := Nat.mod_lt _ h0
  simp only [zerosA, List.getElem?_map, List.getElem?_range hi, Option.map_some, Option.some.injEq] at ha
  rw [List.getElem?_eq_getElem hm, Option.getD_some] at ha
  subst ha
  simp only [Array.toList_map, Array.toList_range, List.getElem?_map, List.getElem?_range hi, Option.map_some, Option.some.injEq] at hb
  obtain ⟨u, g1, g2⟩ := hz.get (i % zs.length) _ (List.getElem?_eq_getElem hm)
  have : zs'.toArray[i % zs'.toArray.size]! = u := by
    rw [List.size_toArray, ← hl]
    simp only [getElem!_def]
    rw [List.getElem?_toArray, g1]
  rw [← hb, this]
  exact g2

end Go.Abs
end

section
/-
  Operations, more: new objects, slices, append, copy.
-/
namespace Go.Abs
variable {e : Env}

def Gives (b : Nat) (P : Program) (ρ : Inj) (h : AHeap) (w : World) (s : Sem Value) (v : Value) (h' : AHeap) : Prop :=
  ∃ v' w' ρ', s.run P w = .ok v' w' ∧ VRel ρ' v v' ∧ WRel ρ' h' w' ∧ Fr b ρ h w ρ' h' w'

theorem Gives.same {b : Nat} {P : Program} {ρ : Inj} {h : AHeap} {w : World} {s : Sem Value} {v v' : Value} (x : WRel ρ h w) (hr : s.run P w = .ok v' w) (hv : VRel ρ v v') : Gives b P ρ h w s v h :=
  ⟨v', w, ρ, hr, hv, x, Fr.refl _ _ _ _⟩

theorem wrap_small {n : Int} (h0 : 0 ≤ n) (h1 : n ≤ 1099511627776) : IntKind.i64.wrap n = n := by
  have h2 : n % (2 ^ 64 : Int) = n := Int.emod_eq_of_lt h0 (by omega)
  have h3 : ¬ n ≥ (2 ^ 63 : Int) := by omega
  show (if (true && decide (n % (2 ^ 64 : Int) ≥ (2 ^ 63 : Int))) = true then n % (2 ^ 64 : Int) - 2 ^ 64 else n % (2 ^ 64 : Int)) = n
  simp only [h2, h3, decide_false, Bool.and_false, Bool.false_eq_true, if_false]

theorem of_bind {α β : Type} {x : Option α} {f : α → Option β} {r : β} (h : x.bind f = some r) : ∃ a, x = some a ∧ f a = some r := by
  cases x with
  | none => cases h
  | some a => exact ⟨a, rfl, h⟩
theorem of_i64 {v : Value} {n : Int} (h : i64Of v = some n) : v = .int .i64 n := by
  unfold i64Of at h
  split at h
  · cases h; rfl
  · cases h
theorem of_int {v : Value} {n : Int} (h : intOf v = some n) : ∃ k, v = .int k n := by
  unfold intOf at h
  split at h
  · cases h; exact ⟨_, rfl⟩
  · cases h
theorem of_addr {v : Value} {a : Addr} (h : addrA v = some a) : v = .pointer (some a) := by
  unfold addrA at h
  split at h
  · cases h; rfl
  · cases h
theorem VRel.int_l {ρ : Inj} {k : IntKind} {n : Int} {v : Value} (h : VRel ρ (.int k n) v) : v = .int k n := by cases h; rfl
theorem VRel.bool_l {ρ : Inj} {b : Bool} {v : Value} (h : VRel ρ (.bool b) v) : v = .bool b := by cases h; rfl
theorem VRel.ptr_l {ρ : Inj} {a : Addr} {v : Value} (h : VRel ρ (.pointer (some a)) v) : ∃ pl, ρ a.block = some pl ∧ v = .pointer (some ⟨pl.blk, pl.off + a.off, none⟩) := by cases h with | ptr h => exact ⟨_, h, rfl⟩

theorem run_newRow (P : Program) (w : World) (t : TypeId) (cs : Array Value) : (newRow t cs).run P w = .ok ⟨w.heap.size, 0, none⟩ (World.add w (.cells cs t)) := rfl
theorem run_newVar (P : Program) (w : World) (t : TypeId) (v : Value) : (newVar t v).run P w = .ok ⟨w.heap.size, 0, none⟩ (World.add w (.cells v.cells t)) := rfl

theorem alloc_rel (he : e.Ok) {b id n : Nat} {ρ : Inj} {h h' : AHeap} {w : World} {t : Tr Value} {a : Array Value} {ds : List Deferred} (hg : Gl e ρ) (ht : TRel ρ t n a) (x : WRel ρ h w)
    {o : Oper} {ob : AObj} {f : Nat → Value} (hA : allocA e t o.op = some (ob, f)) (s : Slot b ρ h id ob h') :
    ∃ v' w' ρ', (execOp (Act.mk a ds).eval o).run e.P w = .ok (.value v') w' ∧ VRel ρ' (f id) v' ∧ WRel ρ' h' w' ∧ Fr b ρ h w ρ' h' w' ∧ ∀ j, j ≠ id → ρ' j = ρ j := by
  obtain ⟨dst, op, ty, pos, after, guard⟩ := o
  cases op with
  | alloc elem =>
    simp only [allocA] at hA
    cases hz : e.zero elem with
    | none => simp [hz] at hA
    | some z =>
      simp only [hz, Option.some.injEq, Prod.mk.injEq] at hA
      obtain ⟨rfl, rfl⟩ := hA
      obtain ⟨ρ', pl, g1, g2, g3, _, _, _, g4, g5⟩ := new_row x s (he.zeroRel hz ρ) elem
      refine ⟨_, _, ρ', ?_, oref g1 g3, g4, g5⟩
      simp only [execOp, Instr.alloc, Sem.run_bind, he.runZero hz, Result.andThen_ok, run_newVar, Sem.run_pure, g2]
  | box elem y =>
    simp only [allocA] at hA
    cases hy : opnd e t y with
    | none => simp [hy] at hA
    | some v =>
      simp only [hy, Option.some.injEq, Prod.mk.injEq] at hA
      obtain ⟨rfl, rfl⟩ := hA
      obtain ⟨ρ', pl, g1, g2, g3, _, _, _, g4, g5⟩ := new_row x s (opnd_rel hg ht hy ds).cells elem
      refine ⟨_, _, ρ', ?_, oref g1 g3, g4, g5⟩
      simp only [execOp, Instr.box, Sem.run_bind, Result.andThen_ok, run_newVar, Sem.run_pure, g2]
  | buildSlice st len parts =>
    simp only [allocA] at hA
    cases hu : e.under st with
    | none => simp [hu] at hA
    | some d =>
      cases d with
      | slice elem =>
        simp only [hu] at hA
        cases hp : partsA e t parts.toList with
        | none => simp [hp] at hA
        | some ps =>
          simp only [hp] at hA
          cases hs : e.size elem with
          | none => simp [hs] at hA
          | some sz =>
            cases hz : e.zero elem with
            | none => simp [hs, hz] at hA
            | some z =>
              simp only [hs, hz] at hA
              obtain ⟨hb, hA⟩ := of_bif hA
              simp only [Bool.and_eq_true] at hb
              obtain ⟨⟨hb1, hb2⟩, hb3⟩ := hb
              have hb1 := Nat.le_of_ble_eq_true hb1
              have hb2 := Nat.eq_of_beq_eq_true hb2
              have hb3 : 0 < sz := Nat.le_of_ble_eq_true hb3
              cases hf : fillA (fun i => some (i * sz, sz)) (zerosA z.cells.toList (len * sz)) ps with
              | none => simp [hf] at hA
              | some cs =>
                simp only [hf, Option.some.injEq, Prod.mk.injEq] at hA
                obtain ⟨rfl, rfl⟩ := hA
                have hprel := parts_rel hg ht ds hp
                have hzr : VsRel ρ (zerosA z.cells.toList (len * sz)) (((Array.range (len * sz)).map ((if len * sz = 0 then #[] else z.cells)[· % (if len * sz = 0 then #[] else z.cells).size]!)).toList) := by
                  by_cases h0 : len * sz = 0
                  · simp only [h0, if_true]
                    simpa [zerosA] using (All2.nil : VsRel ρ [] [])
                  · simp only [h0, if_false]
                    have := zeros_rel (he.zeroRel hz ρ) (len * sz) (by omega)
                    simpa using this
                obtain ⟨cs', g6, g7⟩ := fill_rel (place' := fun i => some (i * sz, sz)) (ps' := (parts.map fun (i, y) => (i, (Act.mk a ds).eval y)).toList) (fun _ _ h => h) hzr (by simpa using hprel) hf
                obtain ⟨ρ', pl, g1, g2, g3, g4n, g4c, g4e, g4, g5⟩ := new_row x s g7 elem
                refine ⟨_, _, ρ', ?_, .sl (a := ⟨id, 0, none⟩) (c := ⟨w.heap.size, 0, none⟩) (k' := len) g1 (.inl ⟨by simp [g2, g3], .inl rfl⟩), g4, g5⟩
                have hn : ¬ len * sz > 2 ^ 24 := by omega
                simp only [execOp, Instr.buildSlice, Sem.run_bind, he.runUnder hu, Result.andThen_ok, he.runSize hs, hn, if_false, Sem.run_pure]
                by_cases h0 : len * sz = 0
                · simp only [h0, if_true, Sem.run_pure, Result.andThen_ok] at g6 ⊢
                  simp only [g6, Sem.run_bind, run_newRow, Result.andThen_ok, Sem.run_pure]
                · simp only [h0, if_false, Sem.run_bind, he.runZero hz, Sem.run_pure, Result.andThen_ok] at g6 ⊢
                  simp only [g6, Sem.run_bind, run_newRow, Result.andThen_ok, Sem.run_pure]
      | _ => simp [hu] at hA
  | makeMap mt r =>
    cases r with
    | some r => simp [allocA] at hA
    | none =>
      simp only [allocA, Option.some.injEq, Prod.mk.injEq] at hA
      obtain ⟨rfl, rfl⟩ := hA
      obtain ⟨ρ', pl, g1, g2, g3, g4, g5⟩ := new_obj x s (.map #[] 0) rfl rfl (fun ρ' w' pl _ h0 hw => ⟨h0, #[], hw, .nil⟩)
      refine ⟨_, _, ρ', ?_, VRel.map g1, g4, g5⟩
      rw [g2]
      rfl
  | makeSlice st l c =>
    simp only [allocA] at hA
    cases hu : e.under st with
    | none => simp [hu] at hA
    | some d =>
      cases d with
      | slice elem =>
        cases hl : (opnd e t l).bind i64Of with
        | none => simp [hu, hl] at hA
        | some lv =>
          cases hc : (opnd e t c).bind i64Of with
          | none => simp [hu, hl, hc] at hA
          | some cv =>
              simp only [hu, hl, hc] at hA
              obtain ⟨lv', hl, hl'⟩ := of_bind hl
              obtain ⟨cv', hc, hc'⟩ := of_bind hc
              have hl' := of_i64 hl'; subst hl'
              have hc' := of_i64 hc'; subst hc'
              cases hs : e.size elem with
              | none => simp [hs] at hA
              | some sz =>
                cases hz : e.zero elem with
                | none => simp [hs, hz] at hA
                | some z =>
                  cases hby : e.bytes elem with
                  | none => simp [hs, hz, hby] at hA
                  | some by' =>
                    simp only [hs, hz, hby] at hA
                    obtain ⟨hb, hA⟩ := of_bif hA
                    simp only [Bool.and_eq_true, decide_eq_true_eq] at hb
                    obtain ⟨⟨⟨⟨⟨hb1, hb2⟩, hb3⟩, hb4⟩, hb5⟩, hb6⟩ := hb
                    have hb4 := Nat.le_of_ble_eq_true hb4
                    have hb5 := Nat.eq_of_beq_eq_true hb5
                    have hb6 : 0 < sz := Nat.le_of_ble_eq_true hb6
                    simp only [Option.some.injEq, Prod.mk.injEq] at hA
                    obtain ⟨rfl, rfl⟩ := hA
                    have rl : VRel ρ (.int .i64 lv) ((Act.mk a ds).eval l) := opnd_rel hg ht hl ds
                    have rc : VRel ρ (.int .i64 cv) ((Act.mk a ds).eval c) := opnd_rel hg ht hc ds
                    have el := rl.int_l
                    have ec := rc.int_l
                    have hzr : VsRel ρ (zerosA z.cells.toList (cv.toNat * sz)) (((Array.range (cv.toNat * sz)).map ((if cv.toNat * sz = 0 then #[] else z.cells)[· % (if cv.toNat * sz = 0 then #[] else z.cells).size]!)).toList) := by
                      by_cases h0 : cv.toNat * sz = 0
                      · simp only [h0, if_true]
                        simpa [zerosA] using (All2.nil : VsRel ρ [] [])
                      · simp only [h0, if_false]
                        have := zeros_rel (he.zeroRel hz ρ) (cv.toNat * sz) (by omega)
                        simpa using this
                    obtain ⟨ρ', pl, g1, g2, g3, g4n, g4c, g4e, g4, g5⟩ := new_row x s hzr elem
                    refine ⟨_, _, ρ', ?_, .sl (a := ⟨id, 0, none⟩) (c := ⟨w.heap.size, 0, none⟩) (k' := cv.toNat) g1 (.inl ⟨by simp [g2, g3], .inl rfl⟩), g4, g5⟩
                    obtain ⟨i, hi1, hi2⟩ := he.runBytes hby w
                    have w1 : IntKind.i64.wrap lv = lv := wrap_small hb1 (by omega)
                    have w2 : IntKind.i64.wrap cv = cv := wrap_small (by omega) hb3
                    have hcv : (cv.toNat : Int) = cv := Int.toNat_of_nonneg (by omega)
                    have hbig : ¬ ((by' : Int) * cv > 2 ^ 48) := by
                      have := Int.ofNat_le.2 hb4
                      rw [Int.natCast_mul, hcv] at this
                      omega
                    have c1 : decide (cv < 0) = false := by simp; omega
                    have c2 : decide ((by' : Int) * cv > 2 ^ 48) = false := by simpa using hbig
                    have c3 : decide (lv < 0) = false := by simp; omega
                    have c4 : decide (lv > cv) = false := by simp; omega
                    simp only [execOp, Instr.makeSlice, Sem.run_bind, he.runUnder hu, Result.andThen_ok, el, ec, asInt, asIntOf, Sem.run_pure, hi1, hi2, w1, w2, c1, c2, c3, c4, Bool.or_false, Bool.false_eq_true, if_false, run_askRoom, he.runSize hs]
                    by_cases h0 : cv.toNat * sz = 0
                    · simp only [h0, if_true, Sem.run_pure, Result.andThen_ok, Sem.run_bind, run_newRow]
                    · simp only [h0, if_false, Sem.run_bind, he.runZero hz, Sem.run_pure, Result.andThen_ok, run_newRow]
      | _ => simp [hu] at hA
  | _ => simp [allocA] at hA

end Go.Abs
end

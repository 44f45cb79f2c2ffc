/-
  Operations: what the abstract semantics gives, the model gives.
-/
import Derived.Test.YtlilfkbnlacfgaaGreatDoorAbsB
namespace Go.Abs

theorem of_bif {α : Type} {b : Bool} {x : Option α} {r : α} (h : (bif b then x else none) = some r) : b = true ∧ x = some r := by
  cases b with
  | true => exact ⟨rfl, h⟩
  | false => cases h

theorem pureRun_run {α : Type} (P : Program) : ∀ (s : Sem α) (a : α), pureRun P s = some a → ∀ w, s.run P w = .ok a w
  | .pure a, b, h, w => by simp only [pureRun, Option.some.injEq] at h; subst h; rfl
  | .program k, b, h, w => pureRun_run P (k P) b h w
  | .load _ _ _, _, h, _ | .store _ _ _ _, _, h, _ | .new _ _, _, h, _ | .shape _ _, _, h, _ | .freeze _ _ _, _, h, _ | .frozen _ _, _, h, _ | .getObj _ _, _, h, _ | .setObj _ _ _, _, h, _
  | .choose _ _, _, h, _ | .sys _ _, _, h, _ | .mark _ _, _, h, _ | .halt _, _, h, _ => by simp [pureRun] at h

structure Env.Ok (e : Env) : Prop where
  under : ∀ t d, e.under t = some d → e.P.underlying t = some d
  size : ∀ t n, e.size t = some n → ∃ i, e.P.info? t = some i ∧ i.size = n
  bytes : ∀ t n, e.bytes t = some n → ∃ i, e.P.info? t = some i ∧ i.bytes = n
  zero : ∀ t z, e.zero t = some z → ∃ i, e.P.info? t = some i ∧ i.zero = some z ∧ plain z = true
  fields : ∀ t fs, e.under t = some (.struct fs) → ∀ f ∈ fs.toList, ∃ n, e.size f.type = some n
  fn : ∀ f fn, e.fn f = some fn → e.P.funcs[f]? = some fn ∧ ∀ args w, (callFunc f args).run e.P w = .ok (.enter f args) w

def Gl (e : Env) (ρ : Inj) : Prop := ∀ g, g < e.globs → ∃ pl, ρ g = some pl ∧ pl.blk = g ∧ pl.off = 0
theorem Gl.mono {e : Env} {ρ ρ' : Inj} (hx : Ext ρ ρ') (h : Gl e ρ) : Gl e ρ' := fun g hg => let ⟨pl, h1, h2⟩ := h g hg; ⟨pl, hx _ _ h1, h2⟩

section runs
variable {P : Program} {w : World}
theorem run_underlying {t : TypeId} {d : TypeDesc} (h : P.underlying t = some d) : (underlying t).run P w = .ok d w := by simp [underlying, h]
theorem run_typeInfo {t : TypeId} {i : TypeInfo} (h : P.info? t = some i) : (typeInfo t).run P w = .ok i w := by simp [typeInfo, h]
theorem run_sizeOf {t : TypeId} {i : TypeInfo} {n : Nat} (h : P.info? t = some i ∧ i.size = n) : (sizeOf t).run P w = .ok n w := by simp [sizeOf, run_typeInfo h.1, h.2]
theorem run_zeroValue {t : TypeId} {i : TypeInfo} {z : Value} (h : P.info? t = some i) (hz : i.zero = some z) : (zeroValue t).run P w = .ok z w := by simp [zeroValue, run_typeInfo h, hz]
theorem run_isAgg {t : TypeId} {d : TypeDesc} (h : P.underlying t = some d) : (isAgg t).run P w = .ok (isAggD d) w := by
  cases d <;> simp [isAgg, run_underlying h, isAggD]
end runs

variable {e : Env}
theorem Env.Ok.runUnder (he : e.Ok) {t : TypeId} {d : TypeDesc} (h : e.under t = some d) (w : World) : (underlying t).run e.P w = .ok d w := run_underlying (he.under t d h)
theorem Env.Ok.runSize (he : e.Ok) {t : TypeId} {n : Nat} (h : e.size t = some n) (w : World) : (sizeOf t).run e.P w = .ok n w := let ⟨_, h1⟩ := he.size t n h; run_sizeOf h1
theorem Env.Ok.runZero (he : e.Ok) {t : TypeId} {z : Value} (h : e.zero t = some z) (w : World) : (zeroValue t).run e.P w = .ok z w := let ⟨_, h1, h2, _⟩ := he.zero t z h; run_zeroValue h1 h2
theorem Env.Ok.runAgg (he : e.Ok) {t : TypeId} {d : TypeDesc} (h : e.under t = some d) (w : World) : (isAgg t).run e.P w = .ok (isAggD d) w := run_isAgg (he.under t d h)
theorem Env.Ok.runBytes (he : e.Ok) {t : TypeId} {n : Nat} (h : e.bytes t = some n) (w : World) : ∃ i, (typeInfo t).run e.P w = .ok i w ∧ i.bytes = n := let ⟨i, h1, h2⟩ := he.bytes t n h; ⟨i, run_typeInfo h1, h2⟩

/-! ## Operands -/
theorem opnd_rel {ρ : Inj} {t : Tr Value} {n : Nat} {a : Array Value} (hg : Gl e ρ) (ht : TRel ρ t n a) {o : Operand} {v : Value} (h : opnd e t o = some v) (ds : List Deferred) :
    VRel ρ v ((Act.mk a ds).eval o) := by
  cases o with
  | tmp i => exact (ht.2 i v h).2
  | const x =>
    simp only [opnd] at h
    cases hp : plain x <;> simp [hp] at h
    subst h
    exact plain_rel hp
  | global g =>
    simp only [opnd] at h
    cases hp : Nat.blt g e.globs <;> simp [hp] at h
    subst h
    obtain ⟨pl, h1, h2, h3⟩ := hg g (Nat.le_of_ble_eq_true hp)
    have := VRel.ptr (ρ := ρ) (a := ⟨g, 0, none⟩) h1
    rw [h2, h3] at this
    exact this
  | func f =>
    simp only [opnd, Option.some.injEq] at h
    subst h
    exact .func (.func f) rfl (fun i v v' h => by simp at h) rfl (fun i v v' h => by simp at h)

theorem opnds_rel {ρ : Inj} {t : Tr Value} {n : Nat} {a : Array Value} (hg : Gl e ρ) (ht : TRel ρ t n a) (ds : List Deferred) : ∀ {os : List Operand} {vs : List Value}, opnds e t os = some vs →
    VsRel ρ vs (os.map (Act.mk a ds).eval)
  | [], vs, h => by simp only [opnds, Option.some.injEq] at h; subst h; exact .nil
  | o :: os, vs, h => by
    simp only [opnds] at h
    cases h1 : opnd e t o with
    | none => simp [h1] at h
    | some v =>
      cases h2 : opnds e t os with
      | none => simp [h1, h2] at h
      | some xs =>
        simp only [h1, h2, Option.some.injEq] at h
        subst h
        exact .cons (opnd_rel hg ht h1 ds) (opnds_rel hg ht ds h2)

inductive PRel (ρ : Inj) : List (Nat × Value) → List (Nat × Value) → Prop
  | nil : PRel ρ [] []
  | cons {i : Nat} {v v' : Value} {x y : List (Nat × Value)} : VRel ρ v v' → PRel ρ x y → PRel ρ ((i, v) :: x) ((i, v') :: y)

theorem parts_rel {ρ : Inj} {t : Tr Value} {n : Nat} {a : Array Value} (hg : Gl e ρ) (ht : TRel ρ t n a) (ds : List Deferred) : ∀ {os : List (Nat × Operand)} {vs : List (Nat × Value)}, partsA e t os = some vs →
    PRel ρ vs (os.map fun p => (p.1, (Act.mk a ds).eval p.2))
  | [], vs, h => by simp only [partsA, Option.some.injEq] at h; subst h; exact .nil
  | (i, o) :: os, vs, h => by
    simp only [partsA] at h
    cases h1 : opnd e t o with
    | none => simp [h1] at h
    | some v =>
      cases h2 : partsA e t os with
      | none => simp [h1, h2] at h
      | some xs =>
        simp only [h1, h2, Option.some.injEq] at h
        subst h
        exact .cons (opnd_rel hg ht h1 ds) (parts_rel hg ht ds h2)

/-! ## Reading cells -/
theorem addr_add (b o j : Nat) : (⟨b, o, none⟩ : Addr).add j = ⟨b, o + j, none⟩ := by unfold Addr.add; split <;> simp_all
theorem Addr.add_block (a : Addr) (n : Nat) : (a.add n).block = a.block := by unfold Addr.add; split <;> rfl
theorem Addr.add_off (a : Addr) (n : Nat) : (a.add n).off = a.off + n := by unfold Addr.add; split <;> simp_all

theorem read_rel {ρ : Inj} {h : AHeap} {w : World} (x : WRel ρ h w) {a : Addr} {pl : Pl} (hp : ρ a.block = some pl) {n : Nat} {cs : List Value} (hr : readCells h a n = some cs) :
    ∃ cs', VsRel ρ cs cs' ∧ cs'.length = n ∧ ∀ (j : Nat) (v : Value), cs'[j]? = some v → w.cell? ((⟨pl.blk, pl.off + a.off, none⟩ : Addr).add j) = some v := by
  unfold readCells at hr
  cases ho : h.get a.block with
  | none => simp [ho] at hr
  | some o =>
    cases o with
    | row rs wr esz =>
      simp only [ho] at hr
      obtain ⟨hl, hr⟩ := of_bif hr
      · cases hr
        obtain ⟨pl', g1, c, el, fz, g2, g3, g4, g5, g6, g7, g8, g9⟩ := x.obj _ _ ho
        rw [hp] at g1; cases g1
        refine ⟨(((c.toList.drop pl.off).take pl.n).drop a.off).take n, (g9.drop a.off).take n, ?_, ?_⟩
        · rw [← ((g9.drop a.off).take n).length]; exact Nat.eq_of_beq_eq_true hl
        · intro j v hv
          rw [addr_add]
          have hj : j < n := by
            rcases Nat.lt_or_ge j n with h | h
            · exact h
            · rw [List.getElem?_take, if_neg (by omega)] at hv; cases hv
          rw [List.getElem?_take, if_pos hj, List.getElem?_drop, List.getElem?_take] at hv
          split at hv
          · rw [List.getElem?_drop] at hv
            simp only [World.cell?, g2, Option.isSome_none, Bool.false_eq_true, if_false]
            rw [← hv, ← Array.getElem?_toList]
            congr 1
            omega
          · cases hv
    | _ => simp [ho] at hr

theorem load_rel (he : e.Ok) {ρ : Inj} {h : AHeap} {w : World} (x : WRel ρ h w) {a : Addr} {pl : Pl} (hp : ρ a.block = some pl) {t : TypeId} {v : Value} (hr : loadA e h t a = some v) :
    ∃ v', (loadVar t ⟨pl.blk, pl.off + a.off, none⟩).run e.P w = .ok v' w ∧ VRel ρ v v' := by
  unfold loadA at hr
  cases hd : e.under t with
  | none => simp [hd] at hr
  | some d =>
    simp only [hd] at hr
    cases ha : isAggD d with
    | true =>
      simp only [ha, cond_true] at hr
      cases hs : e.size t with
      | none => simp [hs] at hr
      | some n =>
        simp only [hs] at hr
        cases hc : readCells h a n with
        | none => simp [hc] at hr
        | some cs =>
          simp only [hc, Option.some.injEq] at hr
          subst hr
          obtain ⟨cs', g1, g2, g3⟩ := read_rel x hp hc
          refine ⟨.agg cs'.toArray, ?_, VRel.mk_agg (by simpa using g1)⟩
          have := run_loadCells_list (P := e.P) w ⟨pl.blk, pl.off + a.off, none⟩ cs' g3
          rw [g2] at this
          simp [loadVar, he.runAgg hd, ha, he.runSize hs, this]
    | false =>
      simp only [ha, cond_false] at hr
      cases hc : readCells h a 1 with
      | none => simp [hc] at hr
      | some cs =>
        obtain ⟨cs', g1, g2, g3⟩ := read_rel x hp hc
        match cs, hc, hr, g1 with
        | [u], hc, hr, g1 =>
          simp only [hc, Option.some.injEq] at hr
          subst hr
          match cs', g1 with
          | [u'], .cons g1 _ =>
            have := g3 0 u' rfl
            refine ⟨u', ?_, g1⟩
            have hz : (⟨pl.blk, pl.off + a.off, none⟩ : Addr).add 0 = ⟨pl.blk, pl.off + a.off, none⟩ := by simp [Addr.add]
            rw [hz] at this
            simp [loadVar, he.runAgg hd, ha, this]
        | [], hc, hr, _ => simp [hc] at hr
        | _ :: _ :: _, hc, hr, _ => simp [hc] at hr

/-! ## Writing cells -/
theorem VRel.oneCell {ρ : Inj} {v v' : Value} (h : VRel ρ v v') : oneCell v' = oneCell v := by cases h <;> rfl
theorem oneCell_eq (v : Value) : v.oneCell' = oneCell v := by cases v <;> rfl
theorem VsRel.oneCell {ρ : Inj} {x y : List Value} (h : VsRel ρ x y) (hx : x.all oneCell = true) : ∀ v ∈ y, v.oneCell' = true := by
  induction h with
  | nil => intro v hv; cases hv
  | cons h _ ih =>
    simp only [List.all_cons, Bool.and_eq_true] at hx
    intro v hv
    cases hv with
    | head => rw [oneCell_eq, h.oneCell]; exact hx.1
    | tail _ hv => exact ih hx.2 v hv

theorem setRow_turn (w : World) (g : Nat) (cur : Array Value) (el : TypeId) (fz : Nat × Nat) (new : Array Value) (hg : w.heap[g]? = some (.cells cur el fz)) :
    w.setRow g new = World.turn w g (.cells new el fz) := by
  obtain ⟨hlt, hv⟩ := Array.getElem?_eq_some_iff.1 hg
  unfold World.setRow World.turn
  congr 1
  apply Array.ext_getElem?
  intro i
  rw [Array.getElem?_modify, Array.getElem?_setIfInBounds]
  by_cases h : g = i
  · subst h
    rw [if_pos rfl, if_pos rfl, if_pos hlt, hg]
    rfl
  · rw [if_neg h, if_neg h]

theorem splice_len (cs : List Value) (off : Nat) (vs : List Value) (h : off + vs.length ≤ cs.length) : (splice cs off vs).length = cs.length := by
  unfold splice; simp; omega

theorem All2.splice {ρ : Inj} {cs cs' vs vs' : List Value} (h : VsRel ρ cs cs') (hv : VsRel ρ vs vs') (off : Nat) : VsRel ρ (splice cs off vs) (splice cs' off vs') := by
  unfold Go.Abs.splice
  rw [hv.length]
  exact ((h.take off).append hv).append (h.drop _)

/-- A row's segment, overwritten inside. -/
theorem seg_splice (c : List Value) (o n k : Nat) (vs : List Value) (h : k + vs.length ≤ n) (hc : o + n ≤ c.length) :
    ((c.take (o + k) ++ vs ++ c.drop (o + k + vs.length)).drop o).take n = splice ((c.drop o).take n) k vs := by
  unfold splice
  apply List.ext_getElem?
  intro i
  simp only [List.getElem?_take, List.getElem?_drop, List.getElem?_append, List.length_append, List.length_take, List.length_drop]
  have h1 : min (o + k) c.length = o + k := by omega
  have h2 : min k (min n (c.length - o)) = k := by omega
  rw [h1, h2]
  by_cases hi : i < n
  · simp only [hi, if_true]
    by_cases hk : i < k
    · have e1 : o + i < o + k + vs.length := by omega
      have e2 : o + i < o + k := by omega
      have e3 : i < k + vs.length := by omega
      simp [hk, e1, e2, e3]
    · by_cases hv : i < k + vs.length
      · have e1 : o + i < o + k + vs.length := by omega
        have e2 : ¬ o + i < o + k := by omega
        simp only [e1, e2, hk, hv, if_true, if_false]
        congr 1; omega
      · have e1 : ¬ o + i < o + k + vs.length := by omega
        simp only [e1, hv, if_false]
        have e4 : k + vs.length + (i - (k + vs.length)) < n := by omega
        rw [if_pos e4]
        congr 1; omega
  · simp only [hi, if_false]
    have hk : ¬ i < k := by omega
    have hv : ¬ i < k + vs.length := by omega
    simp only [hk, hv, if_false]
    have e4 : ¬ k + vs.length + (i - (k + vs.length)) < n := by omega
    rw [if_neg e4]

theorem write_rel (P : Program) {b : Nat} {ρ : Inj} {h h' : AHeap} {w : World} (x : WRel ρ h w) {a : Addr} {pl : Pl} (hp : ρ a.block = some pl) {vs vs' : List Value} (hv : VsRel ρ vs vs') (hr : writeCells h a vs = some h') :
    ∃ w', (storeCells ⟨pl.blk, pl.off + a.off, none⟩ vs').run P w = .ok () w' ∧ WRel ρ h' w' ∧ Fr b ρ h w ρ h' w' := by
  unfold writeCells at hr
  match vs, vs', hv with
  | [], [], _ =>
    simp only [Option.some.injEq] at hr
    subst hr
    exact ⟨w, rfl, x, Fr.refl _ _ _ _⟩
  | u :: us, u' :: us', hv =>
    simp only at hr
    cases ho : h.get a.block with
    | none => simp [ho] at hr
    | some o =>
      cases o with
      | row rs wr esz =>
        cases wr with
        | false => simp [ho] at hr
        | true =>
          simp only [ho] at hr
          obtain ⟨hb, hr⟩ := of_bif hr
          · cases hr
            rw [Bool.and_eq_true] at hb
            have hle : a.off + (u :: us).length ≤ rs.length := Nat.le_of_ble_eq_true hb.1
            obtain ⟨pl', g1, c, el, fz, g2, g3, g4, g5, g6, g7, g8, g9⟩ := x.obj _ _ ho
            rw [hp] at g1; cases g1
            have hfz := g3 rfl; subst hfz
            have hl := hv.length
            have hst := run_storeCells_at (P := P) pl.blk (pl.off + a.off) el (u' :: us') 0 c w g2 (by rw [← hl]; omega) (hv.oneCell hb.2)
            rw [setRow_turn w pl.blk c el (0, 0) _ g2] at hst
            refine ⟨_, hst, ?_⟩
            refine wrel_turn x ho rfl hp rfl ?_ rfl
            have hlt : pl.blk < w.heap.size := (Array.getElem?_eq_some_iff.1 g2).1
            have hvl : (u' :: us').length = (u :: us).length := hl.symm
            refine ⟨_, el, (0, 0), heap_turn_self w _ _ hlt, fun _ => rfl, ?_, g5, g6, ?_, g8, ?_⟩
            · rw [splice_len _ _ _ hle]; exact g4
            · simp only [List.size_toArray, List.length_append, List.length_take, List.length_drop, Array.length_toList]; omega
            · simp only [Nat.add_zero]
              rw [seg_splice c.toList pl.off pl.n a.off (u' :: us') (by omega) (by simp; omega)]
              exact All2.splice g9 hv _
      | _ => simp [ho] at hr

theorem VRel.cells {ρ : Inj} {v v' : Value} (h : VRel ρ v v') : VsRel ρ v.cells.toList v'.cells.toList := by
  cases h with
  | agg h1 h2 => exact vs_of h1 h2
  | bool b => exact .cons (.bool b) .nil
  | int k n => exact .cons (.int k n) .nil
  | string s => exact .cons (.string s) .nil
  | ptr0 => exact .cons .ptr0 .nil
  | ptr h => exact .cons (.ptr h) .nil
  | sl0 l k => exact .cons (.sl0 l k) .nil
  | sl h hs => exact .cons (.sl h hs) .nil
  | map0 => exact .cons .map0 .nil
  | map h => exact .cons (.map h) .nil
  | func hf h1 h2 h3 h4 => exact .cons (.func hf h1 h2 h3 h4) .nil
  | nilFunc => exact .cons .nilFunc .nil
  | iface h => exact .cons (.iface h) .nil
  | nilIface => exact .cons .nilIface .nil
  | tuple h1 h2 => exact .cons (.tuple h1 h2) .nil

theorem store_rel (he : e.Ok) {b : Nat} {ρ : Inj} {h h' : AHeap} {w : World} (x : WRel ρ h w) {a : Addr} {pl : Pl} (hp : ρ a.block = some pl) {t : TypeId} {v v' : Value} (hv : VRel ρ v v') (hr : storeA e h t a v = some h') :
    ∃ w', (storeVar t ⟨pl.blk, pl.off + a.off, none⟩ v').run e.P w = .ok () w' ∧ WRel ρ h' w' ∧ Fr b ρ h w ρ h' w' := by
  unfold storeA at hr
  cases hs : e.size t with
  | none => simp [hs] at hr
  | some n =>
    simp only [hs] at hr
    obtain ⟨hb, hr⟩ := of_bif hr
    · obtain ⟨w', g1, g2⟩ := write_rel e.P x hp hv.cells hr
      refine ⟨w', ?_, g2⟩
      have hl := hv.cells.length
      have hn := Nat.eq_of_beq_eq_true hb
      have : v'.cells.size = n := by rw [← Array.length_toList, ← hl]; exact hn
      simp [storeVar, he.runSize hs, this, g1]

end Go.Abs

/-
  PriorityOperators: parts of its proof (AbsN AbsL6).
-/
import Derived.Test.YtfadmmecedicjaaGreatDoorK07
import Derived.Test.YtfadmmecedicjaaGreatDoorK09
set_option linter.unusedVariables false
set_option linter.unusedSimpArgs false

section
/-
  Rounds of a range over a function; the evaluation as a whole.
-/
namespace Go.Abs
variable {e : Env}

theorem bind_rel {ρ : Inj} {n : Nat} : ∀ {ps : List Tmp} {vs vs' : List Value} {t t' : Tr Value} {a : Array Value}, bindParams n ps vs t = some t' → VsRel ρ vs vs' → TRel ρ t n a →
    TRel ρ t' n ((ps.zip vs').foldl (fun tmps (p : Tmp × Value) => tmps.setIfInBounds p.1 p.2) a) ∧ ps.length = vs'.length
  | [], [], _, t, t', a, h, .nil, ht => by
    simp only [bindParams, Option.some.injEq] at h
    subst h
    exact ⟨ht, rfl⟩
  | p :: ps, v :: vs, _, t, t', a, h, .cons hv hvs, ht => by
    simp only [bindParams] at h
    obtain ⟨hb, h⟩ := of_bif h
    obtain ⟨g1, g2⟩ := bind_rel h hvs (ht.set (Nat.le_of_ble_eq_true hb) hv)
    exact ⟨g1, by simp [g2]⟩
  | [], _ :: _, _, _, _, _, h, _, _ => by simp [bindParams] at h
  | _ :: _, [], _, _, _, _, h, _, _ => by simp [bindParams] at h

theorem zip_foldl (ps : List Tmp) (vs : Array Value) (a : Array Value) : (ps.toArray.zip vs).foldl (fun tmps (p : Tmp × Value) => tmps.setIfInBounds p.1 p.2) a = (ps.zip vs.toList).foldl (fun tmps (p : Tmp × Value) => tmps.setIfInBounds p.1 p.2) a := by
  rw [← Array.foldl_toList]
  simp

theorem loop_turn {b : Nat} {ρ : Inj} {h : AHeap} {w : World} (x : WRel ρ h w) {l : Nat} {pl : Pl} (hp : ρ l = some pl) {st : LoopState} {pend : Option Code} {t : Tr Value} {n : Nat} {params : List Tmp} {asg body : Code} {dfr : Nat}
    (ho : h.get l = some (.loop st pend t n params asg body dfr)) : ∃ (fn : FuncId) (tmps : Array Value) (dpl : Pl), ρ dfr = some dpl ∧ TRel ρ t n tmps ∧
      w.heap[pl.blk]? = some (.loop { state := st, pending := pend, fn, tmps, params := params.toArray, assign := asg, body, defers := dpl.blk }) ∧
      ∀ (st' : LoopState) (pend' : Option Code), WRel ρ (h.set l (some (.loop st' pend' t n params asg body dfr))) (World.turn w pl.blk (.loop { state := st', pending := pend', fn, tmps, params := params.toArray, assign := asg, body, defers := dpl.blk })) ∧
        Fr b ρ h w ρ (h.set l (some (.loop st' pend' t n params asg body dfr))) (World.turn w pl.blk (.loop { state := st', pending := pend', fn, tmps, params := params.toArray, assign := asg, body, defers := dpl.blk })) := by
  obtain ⟨pl', g1, g2, fn, tmps, dpl, g3, g4, g5⟩ := x.obj _ _ ho
  rw [hp] at g1; cases g1
  have hlt : pl.blk < w.heap.size := (Array.getElem?_eq_some_iff.1 g5).1
  refine ⟨fn, tmps, dpl, g3, g4, g5, fun st' pend' => wrel_turn x ho rfl hp rfl ⟨g2, fn, tmps, dpl, g3, g4, heap_turn_self _ _ _ hlt⟩ rfl⟩

theorem roundFA_ok {f : EvF} (hf : EvOK e f) : RoundOK e (roundFA f) := by
  intro l args h v h' hr ρ w args' pl hg hp ha x
  unfold roundFA at hr
  split at hr
  · rename_i pend t n params asg body dfr ho
    split at hr
    · cases hr
    · rename_i t' hb
      split at hr
      · rename_i s hs
        split at hr
        · rename_i pend2 t2 n2 params2 asg2 body2 dfr2 ho2
          split at hr
          · cases hr
          · rename_i xt s2 hs2
            split at hr
            · rename_i st3 pend3 t3 n3 params3 asg3 body3 dfr3 ho3
              simp only [Option.some.injEq, Prod.mk.injEq] at hr
              obtain ⟨rfl, rfl⟩ := hr
              obtain ⟨fn, tmps, dpl, k1, k2, k3, _⟩ := loop_turn (b := 0) x hp ho
              have hgl : (Instr.getLoop pl.blk).run e.P w = .ok { state := .ready, pending := pend, fn, tmps, params := params.toArray, assign := asg, body, defers := dpl.blk } w := by
                simp only [Instr.getLoop, Sem.run_bind, getObj_run k3 (fun _ _ _ h => by cases h), Result.andThen_ok, Sem.run_pure]
              obtain ⟨b1, b2⟩ := bind_rel hb ha k2
              refine ⟨fn, (params.zip args'.toList).foldl (fun tmps (p : Tmp × Value) => tmps.setIfInBounds p.1 p.2) tmps, asg, body, ?_, fun ro n' => ?_⟩
              · have hsz : ¬ args'.size ≠ params.toArray.size := by simp; simpa using b2.symm
                have hz := zip_foldl params args' tmps
                simp only [Instr.yield, Sem.run_bind, hgl, Result.andThen_ok, hsz, if_false, Sem.run_pure]
                rw [← hz]
              · refine roundIn_of_wpIn trivial ?_
                rw [FF_in]
                have x0 : SRel e ρ { t := t', n, ds := [], h } { tmps := (params.zip args'.toList).foldl (fun tmps (p : Tmp × Value) => tmps.setIfInBounds p.1 p.2) tmps, defers := [] } w := ⟨hg, b1, .nil, x⟩
                refine hf (some l) asg _ .normal s hs ρ _ w (some pl.blk) n' _ x0 (.some hp) fun a1 w1 ρ1 x1 f1 => ?_
                obtain ⟨fn1, tmps1, dpl1, q1, q2, q3, q4⟩ := loop_turn (b := h.next) x1.m (f1.ext _ _ hp) ho2
                obtain ⟨m1, m2⟩ := q4 .busy pend2
                refine ⟨World.turn w1 pl.blk (.loop { state := .busy, pending := pend2, fn := fn1, tmps := tmps1, params := params2.toArray, assign := asg2, body := body2, defers := dpl1.blk }), ?_, ?_⟩
                · simp only [Instr.beginRound, Instr.getLoop, Sem.run_bind, getObj_run q3 (fun _ _ _ h => by cases h), Result.andThen_ok, Sem.run_pure, setObj_turn _ q3 (fun _ _ _ h => by cases h)]
                · have x2 : SRel e ρ1 { s with h := s.h.set l (some (.loop .busy pend2 t2 n2 params2 asg2 body2 dfr2)) } a1 _ := ⟨x1.g, x1.t, x1.d, m1⟩
                  refine hf (some l) body _ xt s2 hs2 ρ1 a1 _ (some pl.blk) n' _ x2 (.some (f1.ext _ _ hp)) fun a2 w2 ρ2 x3 f3 => ?_
                  have f3' : Fr h.next ρ1 _ _ ρ2 s2.h w2 := f3.mono (Nat.le_trans f1.next (Nat.le_refl _))
                  have ff : Fr h.next ρ h w ρ2 s2.h w2 := (f1.trans m2).trans f3'
                  obtain ⟨fn3, tmps3, dpl3, r1, r2, r3, r4⟩ := loop_turn (b := h.next) x3.m (ff.ext _ _ hp) ho3
                  obtain ⟨u1, u2⟩ := r4 (if (jumpOf xt).isNone then .ready else .done) (jumpOf xt)
                  have hend : (Instr.endRound pl.blk (jumpOf xt)).run e.P w2 = .ok (.bool (jumpOf xt).isNone) (World.turn w2 pl.blk (.loop { state := if (jumpOf xt).isNone then .ready else .done, pending := jumpOf xt, fn := fn3, tmps := tmps3, params := params3.toArray, assign := asg3, body := body3, defers := dpl3.blk })) := by
                    simp only [Instr.endRound, Instr.getLoop, Sem.run_bind, getObj_run r3 (fun _ _ _ h => by cases h), Result.andThen_ok, Sem.run_pure, setObj_turn _ r3 (fun _ _ _ h => by cases h)]
                  have hfin : ∃ v' ρ', Ending.returned (Value.bool (jumpOf xt).isNone) = .returned v' ∧ VRel ρ' (.bool (jumpOf xt).isNone) v' ∧ WRel ρ' (s2.h.set l (some (.loop (if (jumpOf xt).isNone then .ready else .done) (jumpOf xt) t3 n3 params3 asg3 body3 dfr3))) _ ∧ Fr h.next ρ h w ρ' (s2.h.set l (some (.loop (if (jumpOf xt).isNone then .ready else .done) (jumpOf xt) t3 n3 params3 asg3 body3 dfr3))) _ :=
                    ⟨_, ρ2, rfl, .bool _, u1, ff.trans u2⟩
                  cases xt with
                  | normal => exact ⟨_, _, hend, hfin⟩
                  | ret => exact ⟨_, _, hend, hfin⟩
                  | exit id => exact ⟨_, _, hend, hfin⟩
            · cases hr
        · cases hr
      · cases hr
  · cases hr

theorem rangeFunc_ok (he : e.Ok) {f : EvF} (hf : EvOK e f) {cf : CallF} (hcf : CallOK e cf) {ro : Option Nat} {g : Operand} {params : Array Tmp} {asg body : Code} {s s' : ASt} {xt : AEx}
    (h : rangeFuncA e f cf ro g params asg body s = some (xt, s')) {ρ : Inj} {a : Act} {w : World} {roc : Option Nat} (n : Nat) {Q : Exit → Act → World → Prop} (x : SRel e ρ s a w) (hro : RoRel ρ ro roc)
    (hQ : ∀ a' w' ρ', SRel e ρ' s' a' w' → Fr s.h.next ρ s.h w ρ' s'.h w' → Q xt.to a' w') : (Code.rangeFunc g params asg body).wpIn (FF roc) n e.P Q a w := by
  unfold rangeFuncA at h
  split at h
  · cases h
  · rename_i dfr mark h1 hm
    -- the block of the deferred calls, and the mark
    obtain ⟨ρ1, w1, dpl, mark', e1, e2, e3, e4, e5⟩ : ∃ (ρ1 : Inj) (w1 : World) (dpl : Pl) (mark' : List Deferred), ρ1 dfr = some dpl ∧ All2 (DefRel ρ1) mark mark' ∧ WRel ρ1 h1 w1 ∧ Fr s.h.next ρ s.h w ρ1 h1 w1 ∧
        (match roc with
          | some l => do pure ((← Instr.getLoop l).defers, [])
          | none => do
            let r ← newObj (.deferred (some []))
            pure (r, [{ target := .collected r, args := #[] }]) : Sem (Nat × List Deferred)).run e.P w = .ok (dpl.blk, mark') w1 := by
      cases hro with
      | none =>
        simp only [Option.some.injEq, Prod.mk.injEq] at hm
        obtain ⟨rfl, rfl, rfl⟩ := hm
        obtain ⟨ρ1, pl, g1, g2, g3, g4, g5, _⟩ := new_obj x.m (x.m.slot (.dfr true)) (.deferred (some [])) rfl rfl (fun ρ' w' pl _ h0 hw => ⟨h0, hw⟩)
        refine ⟨ρ1, _, pl, [{ target := .collected pl.blk, args := #[] }], g1, .cons (.mark g1) .nil, g4, g5, ?_⟩
        rw [g2]
        rfl
      | @some l pl hp =>
        simp only at hm
        cases ho : s.h.get l with
        | none => simp [ho] at hm
        | some o =>
          match o, ho, hm with
          | .loop st pend t n params asg body dfr', ho, hm =>
            simp only [ho, Option.some.injEq, Prod.mk.injEq] at hm
            obtain ⟨rfl, rfl, rfl⟩ := hm
            obtain ⟨fn, tmps, dpl, k1, k2, k3, _⟩ := loop_turn (b := 0) x.m hp ho
            refine ⟨ρ, w, dpl, [], k1, .nil, x.m, Fr.refl _ _ _ _, ?_⟩
            simp only [Instr.getLoop, Sem.run_bind, getObj_run k3 (fun _ _ _ h => by cases h), Result.andThen_ok, Sem.run_pure]
          | .row _ _ _, ho, hm => simp [ho] at hm
          | .map _ _, ho, hm => simp [ho] at hm
          | .mapIt _ _ _ _, ho, hm => simp [ho] at hm
          | .strIt _ _, ho, hm => simp [ho] at hm
          | .dfr _, ho, hm => simp [ho] at hm
    -- the loop's own record
    simp only at h
    have ht1 : TRel ρ1 s.t s.n a.tmps := x.t.mono e4.ext
    refine wpIn_rangeFunc fun fnid _ => ?_
    obtain ⟨ρ2, pl, g1, g2, g3, g4, g5, _⟩ := new_obj e3 (e3.slot (.loop .ready none s.t s.n params.toList asg body dfr)) (.loop { state := .ready, pending := none, fn := fnid, tmps := a.tmps, params, assign := asg, body, defers := dpl.blk }) rfl rfl
      (fun ρ' w' pl hx h0 hw => ⟨h0, fnid, a.tmps, dpl, hx _ _ e1, ht1.mono hx, by simpa using hw⟩)
    have e4' : Fr s.h.next ρ s.h w ρ2 (h1.new (.loop .ready none s.t s.n params.toList asg body dfr)) _ := e4.trans (g5.mono e4.next)
    split at h
    · rename_i fid az cap hb
      split at h
      · cases h
      · rename_i v h2 hc
        split at h
        · rename_i st pend t3 n3 params3 asg3 body3 dfr3 ho3
          cases hbusy : (st == LoopState.busy) with
          | true => simp [hbusy] at h
          | false =>
            simp only [hbusy, cond_false] at h
            obtain ⟨⟨fn, hfn⟩, hcall⟩ := hcf fid (az ++ cap) _ v h2 hc
            -- the function's value
            obtain ⟨fv, q1, q2⟩ := of_bind hb
            obtain ⟨a', c', r1, r2, r3⟩ : ∃ a' c' : Array Value, a.eval g = Value.func (.func fid) a' c' ∧ VsRel ρ2 az (a' ++ #[Value.func (.yield pl.blk) #[] #[]]).toList ∧ VsRel ρ2 cap c'.toList := by
              cases fv with
              | func fn0 first cp =>
                simp only [targetA, Option.some.injEq, Prod.mk.injEq] at q2
                obtain ⟨rfl, rfl, rfl⟩ := q2
                obtain ⟨fn', a', c', k1, k2, k3, k4⟩ := (opnd_rel x.g x.t q1 a.defers).func_l
                have := k2.func_l; subst this
                refine ⟨a', c', k1, ?_, k4.mono e4'.ext⟩
                rw [Array.toList_append]
                refine (k3.mono e4'.ext).append (.cons ?_ .nil)
                exact VRel.func (a := #[]) (a' := #[]) (c := #[]) (c' := #[]) (.yield g1) rfl (fun i v v' h => by simp at h) rfl (fun i v v' h => by simp at h)
              | _ => simp [targetA] at q2
            have hcall' := hcall ρ2 _ (a' ++ #[Value.func (.yield pl.blk) #[] #[]] ++ c') (x.g.mono e4'.ext) (by rw [Array.toList_append]; exact r2.append r3) g4
            have henter : (Instr.enterLoop fnid a.tmps params asg body (FF roc).round).run e.P w = .ok (pl.blk, mark') (World.add w1 (.loop { state := .ready, pending := none, fn := fnid, tmps := a.tmps, params, assign := asg, body, defers := dpl.blk })) := by
              have hround : (FF roc).round = roc := rfl
              rw [hround]
              cases roc with
              | none =>
                simp only [Instr.enterLoop, Sem.run_bind, run_newObj, Result.andThen_ok, Sem.run_pure, Result.ok.injEq, Prod.mk.injEq] at e5 ⊢
                obtain ⟨⟨q1, q2⟩, q3⟩ := e5
                rw [g2]
                subst q3
                exact ⟨⟨rfl, q2⟩, by rw [← q1]; rfl⟩
              | some lc =>
                simp only [Instr.enterLoop, Sem.run_bind, run_newObj, Result.andThen_ok, Sem.run_pure] at e5 ⊢
                cases hgl : (Instr.getLoop lc).run e.P w with
                | halt hh wh => rw [hgl] at e5; cases e5
                | ok lp wl =>
                  rw [hgl] at e5
                  simp only [Result.andThen_ok, Result.ok.injEq, Prod.mk.injEq] at e5 ⊢
                  obtain ⟨⟨q1, q2⟩, q3⟩ := e5
                  subst q3
                  rw [g2]
                  exact ⟨⟨rfl, q2⟩, by rw [← q1]; rfl⟩
            have hres : (resolve a.eval (rangeCall g pl.blk) 0).run e.P (World.add w1 (.loop { state := .ready, pending := none, fn := fnid, tmps := a.tmps, params, assign := asg, body, defers := dpl.blk })) =
                .ok { target := .fn (.func fid) c', args := a' ++ #[Value.func (.yield pl.blk) #[] #[]] } (World.add w1 (.loop { state := .ready, pending := none, fn := fnid, tmps := a.tmps, params, assign := asg, body, defers := dpl.blk })) := by
              have hm1 : Array.map a.eval #[Operand.const (Value.func (.yield pl.blk) #[] #[])] = #[Value.func (.yield pl.blk) #[] #[]] := by simp [Act.eval]
              simp only [resolve, rangeCall, r1, Deferred.ofValue, Sem.run_pure, hm1]
            have hinv : (invoke (.fn (.func fid) c') (a' ++ #[Value.func (.yield pl.blk) #[] #[]])).run e.P (World.add w1 (.loop { state := .ready, pending := none, fn := fnid, tmps := a.tmps, params, assign := asg, body, defers := dpl.blk })) =
                .ok (.enter fid (a' ++ #[Value.func (.yield pl.blk) #[] #[]] ++ c')) (World.add w1 (.loop { state := .ready, pending := none, fn := fnid, tmps := a.tmps, params, assign := asg, body, defers := dpl.blk })) := by
              simp only [invoke, (he.fn fid fn hfn).2]
            refine ⟨pl.blk, mark', _, _, _, fid, _, _, henter, hres, fun _ _ => trivial, hinv, FF_depth _ _, callsIn_FF (hcall'.mono ?_)⟩
            · rintro en w3 ⟨v', ρ3, rfl, u1, u2, u3⟩
              have ff : Fr s.h.next ρ s.h w ρ3 h2 w3 := e4'.trans (u3.mono (Nat.le_trans e4.next (Nat.le_succ _)))
              have hp3 : ρ3 h1.next = some pl := u3.ext _ _ g1
              obtain ⟨fn1, tmps1, dpl1, t1, t2, t3', t4⟩ := loop_turn (b := s.h.next) u2 hp3 ho3
              obtain ⟨m1, m2⟩ := t4 .exhausted pend
              have hst : (st == LoopState.busy) = true ↔ False := by rw [hbusy]; simp
              refine ⟨pend, World.turn w3 pl.blk (.loop { state := .exhausted, pending := pend, fn := fn1, tmps := tmps1, params := params3.toArray, assign := asg3, body := body3, defers := dpl1.blk }), ?_, ?_⟩
              · simp only [Instr.endLoop, Instr.getLoop, Sem.run_bind, getObj_run t3' (fun _ _ _ h => by cases h), Result.andThen_ok, Sem.run_pure, hbusy, Bool.false_eq_true, if_false, setObj_turn _ t3' (fun _ _ _ h => by cases h)]
              · have xs : SRel e ρ3 { s with h := h2.set h1.next (some (.loop .exhausted pend t3 n3 params3 asg3 body3 dfr3)), ds := mark ++ s.ds } { a with defers := mark' ++ a.defers } _ :=
                  ⟨x.g.mono ff.ext, x.t.mono ff.ext, (e2.mono fun _ _ => DefRel.mono (Ext.trans g5.ext u3.ext)).append (x.d.mono fun _ _ => DefRel.mono ff.ext), m1⟩
                have ff' := ff.trans m2
                cases pend with
                | none =>
                  simp only [Option.some.injEq, Prod.mk.injEq] at h
                  obtain ⟨rfl, rfl⟩ := h
                  exact hQ _ _ _ xs ff'
                | some c =>
                  simp only at h
                  refine hf ro c _ xt s' h ρ3 _ _ roc n Q xs (hro.mono ff.ext) fun a4 w4 ρ4 x4 f4 => hQ a4 w4 ρ4 x4 (ff'.trans (f4.mono ff'.next))
        · cases h
    · cases h

theorem evStep_ok (he : e.Ok) (hidle : Idle e) (hdraw : DrawOK e) (hmemo : MemoOK e) {f : EvF} (hf : EvOK e f) : ∀ ro c s x s', evStep e f ro c s = some (x, s') → (∀ c', c ≠ .loop c') → ∀ ρ a w roc n Q, SRel e ρ s a w → RoRel ρ ro roc →
    (∀ a' w' ρ', SRel e ρ' s' a' w' → Fr s.h.next ρ s.h w ρ' s'.h w' → Q x.to a' w') → c.wpIn (FF roc) n e.P Q a w := by
  intro ro c s xt s' h hnl ρ a w roc n Q x hro hQ
  have hcf := callM_ok hmemo (callFA_ok he hidle hf)
  have hrf := roundFA_ok hf
  cases c with
  | skip =>
    simp only [evStep, Option.some.injEq, Prod.mk.injEq] at h
    obtain ⟨rfl, rfl⟩ := h
    exact wpIn_skip (hQ a w ρ x (Fr.refl _ _ _ _))
  | label l =>
    simp only [evStep, Option.some.injEq, Prod.mk.injEq] at h
    obtain ⟨rfl, rfl⟩ := h
    exact wpIn_label (hQ a w ρ x (Fr.refl _ _ _ _))
  | exit id =>
    simp only [evStep, Option.some.injEq, Prod.mk.injEq] at h
    obtain ⟨rfl, rfl⟩ := h
    exact wpIn_exit (hQ a w ρ x (Fr.refl _ _ _ _))
  | ret =>
    simp only [evStep, Option.some.injEq, Prod.mk.injEq] at h
    obtain ⟨rfl, rfl⟩ := h
    exact wpIn_ret (hQ a w ρ x (Fr.refl _ _ _ _))
  | scope c =>
    simp only [evStep] at h
    refine wpIn_scope (hf ro c s xt s' h ρ a w roc n _ x hro fun a' w' ρ' x' f' => ?_)
    have := hQ a' w' ρ' x' f'
    cases xt <;> exact this
  | region id ops draw =>
    simp only [evStep] at h
    obtain ⟨s1, h1, h2⟩ := of_map h
    cases h2
    cases draw with
    | true => exact hdraw _ _ hcf hrf ro ops s _ h1 ρ a w roc n Q id x hro hQ
    | false =>
      refine wpIn_region ?_
      have := ops_wp he hcf hrf ops n Q 0 s _ ρ a w (by simpa [regionA] using h1) x hro hQ
      simpa using this
  | seq p q =>
    simp only [evStep] at h
    cases hp : f ro p s with
    | none => simp [hp] at h
    | some r =>
      obtain ⟨x1, s1⟩ := r
      refine wpIn_seq (hf ro p s x1 s1 hp ρ a w roc n _ x hro fun a1 w1 ρ1 q1 f1 => ?_)
      cases x1 with
      | normal =>
        simp only [hp] at h
        exact hf ro q s1 xt s' h ρ1 a1 w1 roc n Q q1 (hro.mono f1.ext) fun a2 w2 ρ2 q2 f2 => hQ a2 w2 ρ2 q2 (f1.trans (f2.mono f1.next))
      | exit id =>
        simp only [hp, Option.some.injEq, Prod.mk.injEq] at h
        obtain ⟨rfl, rfl⟩ := h
        exact hQ a1 w1 ρ1 q1 f1
      | ret =>
        simp only [hp, Option.some.injEq, Prod.mk.injEq] at h
        obtain ⟨rfl, rfl⟩ := h
        exact hQ a1 w1 ρ1 q1 f1
  | cond c p q =>
    simp only [evStep] at h
    split at h
    · rename_i hc
      exact wpIn_cond_true (opnd_rel x.g x.t hc a.defers).bool_l (hf ro p s xt s' h ρ a w roc n Q x hro hQ)
    · rename_i hc
      exact wpIn_cond_false (opnd_rel x.g x.t hc a.defers).bool_l (hf ro q s xt s' h ρ a w roc n Q x hro hQ)
    · cases h
  | block id c =>
    simp only [evStep] at h
    cases hp : f ro c s with
    | none => simp [hp] at h
    | some r =>
      obtain ⟨x1, s1⟩ := r
      refine wpIn_block (hf ro c s x1 s1 hp ρ a w roc n _ x hro fun a1 w1 ρ1 q1 f1 => ?_)
      cases x1 with
      | normal =>
        simp only [hp, Option.some.injEq, Prod.mk.injEq] at h
        obtain ⟨rfl, rfl⟩ := h
        exact hQ a1 w1 ρ1 q1 f1
      | ret =>
        simp only [hp, Option.some.injEq, Prod.mk.injEq] at h
        obtain ⟨rfl, rfl⟩ := h
        exact hQ a1 w1 ρ1 q1 f1
      | exit id' =>
        simp only [hp] at h
        cases hid : Nat.beq id' id with
        | true =>
          simp only [hid, cond_true, Option.some.injEq, Prod.mk.injEq] at h
          obtain ⟨rfl, rfl⟩ := h
          have := Nat.eq_of_beq_eq_true hid
          subst this
          show Exit.inBlock _ Q (.exit id') a1 w1
          simp only [Exit.inBlock, if_true]
          exact hQ a1 w1 ρ1 q1 f1
        | false =>
          simp only [hid, cond_false, Option.some.injEq, Prod.mk.injEq] at h
          obtain ⟨rfl, rfl⟩ := h
          have hne := Nat.ne_of_beq_eq_false hid
          show Exit.inBlock _ Q (.exit id') a1 w1
          simp only [Exit.inBlock, hne, if_false]
          exact hQ a1 w1 ρ1 q1 f1
  | rangeFunc g params asg body =>
    simp only [evStep] at h
    exact rangeFunc_ok he hf hcf h n x hro hQ
  | loop c => exact absurd rfl (hnl c)
  | _ => simp [evStep] at h

theorem ev_all (he : e.Ok) (hidle : Idle e) (hdraw : DrawOK e) (hmemo : MemoOK e) : ∀ N k, k ≤ N → EvOK e (ev e k)
  | 0, k, hk => by
    rw [Nat.le_zero.1 hk]
    intro ro c s x s' h
    simp [ev] at h
  | N + 1, k, hk => by
    have ih := ev_all he hidle hdraw hmemo N
    rcases Nat.lt_or_ge k (N + 1) with hlt | hge
    · exact ih k (Nat.le_of_lt_succ hlt)
    have hk : k = N + 1 := Nat.le_antisymm hk hge
    subst hk
    intro ro c s xt s' h ρ a w roc n Q x hro hQ
    by_cases hl : ∃ c', c = .loop c'
    · obtain ⟨c, rfl⟩ := hl
      have key : ∀ m, m ≤ N + 1 → ∀ (s : ASt) (ρ : Inj) (a : Act) (w : World), ev e m ro (.loop c) s = some (xt, s') → SRel e ρ s a w → RoRel ρ ro roc →
          (∀ a' w' ρ', SRel e ρ' s' a' w' → Fr s.h.next ρ s.h w ρ' s'.h w' → Q xt.to a' w') → c.roundsIn (FF roc) n e.P Q m a w := by
        intro m
        induction m with
        | zero => intro _ s ρ a w h; simp [ev] at h
        | succ m ihm =>
          intro hm s ρ a w h x hro hQ
          simp only [ev, evStep] at h
          rw [roundsIn_succ]
          cases hp : ev e m ro c s with
          | none => simp [hp] at h
          | some r =>
            obtain ⟨x1, s1⟩ := r
            refine ih m (by omega) ro c s x1 s1 hp ρ a w roc n _ x hro fun a1 w1 ρ1 q1 f1 => ?_
            cases x1 with
            | normal =>
              simp only [hp] at h
              exact ihm (by omega) s1 ρ1 a1 w1 h q1 (hro.mono f1.ext) fun a2 w2 ρ2 q2 f2 => hQ a2 w2 ρ2 q2 (f1.trans (f2.mono f1.next))
            | exit id =>
              simp only [hp, Option.some.injEq, Prod.mk.injEq] at h
              obtain ⟨rfl, rfl⟩ := h
              exact hQ a1 w1 ρ1 q1 f1
            | ret =>
              simp only [hp, Option.some.injEq, Prod.mk.injEq] at h
              obtain ⟨rfl, rfl⟩ := h
              exact hQ a1 w1 ρ1 q1 f1
      exact wpIn_loop_rounds (N + 1) (key (N + 1) (Nat.le_refl _) s ρ a w h x hro hQ)
    · exact evStep_ok he hidle hdraw hmemo (ih N (Nat.le_refl _)) ro c s xt s' h (fun c' hc => hl ⟨c', hc⟩) ρ a w roc n Q x hro hQ

/-- THE WHOLE: what the evaluation gives, the model gives. -/
theorem call_ok (he : e.Ok) (hidle : Idle e) (hdraw : DrawOK e) (hmemo : MemoOK e) (N : Nat) : CallOK e (call e N) := callFA_ok he hidle (ev_all he hidle hdraw hmemo N N (Nat.le_refl _))

end Go.Abs
end

section
/-
  Regions that draw their order: the whole.
-/
namespace Go.Abs
variable {e : Env}

def unlisted (l : List Bool) : Nat := (l.filter (!·)).length
theorem unlisted_set : ∀ (l : List Bool) (i : Nat), l[i]? = some false → unlisted (l.set i true) + 1 = unlisted l
  | [], _, h => by simp at h
  | b :: l, 0, h => by simp at h; subst h; simp [unlisted]
  | b :: l, i + 1, h => by
    have := unlisted_set l i (by simpa using h)
    unfold unlisted at this ⊢
    rw [List.set_cons_succ, List.filter_cons, List.filter_cons]
    split
    · rw [List.length_cons, List.length_cons]; omega
    · exact this
theorem unlisted_zero {l : List Bool} (h : unlisted l = 0) {i : Nat} : l[i]? ≠ some false := by
  intro hi
  have := unlisted_set l i hi
  omega

def On (listed : Array Bool) (i : Nat) : Prop := listed.getD i false = true

theorem on_set {listed : Array Bool} {i : Nat} (hi : i < listed.size) (j : Nat) : On (listed.setIfInBounds i true) j ↔ On listed j ∨ j = i := by
  unfold On
  by_cases h : i = j
  · subst h; simp [hi]
  · rw [getD_set_ne false h]
    exact ⟨.inl, fun hh => hh.resolve_right (Ne.symm h)⟩

theorem not_on {listed : Array Bool} {i : Nat} (h : listed.getD i true = false) : ¬ On listed i ∧ listed.toList[i]? = some false := by
  rw [Array.getD_eq_getD_getElem?] at h
  cases hg : listed[i]? with
  | none => rw [hg] at h; cases h
  | some b =>
    rw [hg] at h
    have : b = false := h
    subst this
    refine ⟨fun ho => ?_, by simpa using hg⟩
    unfold On at ho
    rw [Array.getD_eq_getD_getElem?, hg] at ho
    cases ho

theorem draw_wp (he : e.Ok) {cf : CallF} {rf : RoundF} (hcf : CallOK e cf) (hrf : RoundOK e rf) {ro roc : Option Nat} {ops : Array Oper} {s0 : ASt} {base N : Nat} {xf : DSt} {ρ0 : Inj} {h0 : AHeap} {w0 : World} (hro : RoRel ρ0 ro roc)
    (G : Glob e cf rf ro ops.toList s0 base N xf) (n : Nat) (Q : Exit → Act → World → Prop)
    (hQ : ∀ ρ a w t h m inc H (S : Nat → Prop), (∀ i, i < ops.size → S i) → Inv e ops.toList s0 base N xf S ρ0 h0 w0 ρ a w t h m inc H → Q .normal a w) :
    ∀ (fuel : Nat) (listed : Array Bool) (ρ : Inj) (a : Act) (w : World) (t : Tr Value) (h : AHeap) (m inc : Nat) (H : AHeap), listed.size = ops.size → unlisted listed.toList = fuel →
      Inv e ops.toList s0 base N xf (On listed) ρ0 h0 w0 ρ a w t h m inc H → wpAnyIn (FF roc) n e.P .any ops Q fuel listed a w := by
  have all : ∀ (listed : Array Bool), listed.size = ops.size → Region.ready .any ops listed = [] → ∀ i, i < ops.size → On listed i := by
    intro listed hs hr i
    induction i using Nat.strongRecOn with
    | _ i ih =>
      intro hi
      cases hg : listed.getD i false with
      | true => exact hg
      | false =>
        exfalso
        have hmem : i ∈ Region.ready .any ops listed := by
          rw [mem_ready]
          have hlt : i < listed.size := by omega
          refine ⟨?_, ops[i], Array.getElem?_eq_getElem hi, fun x hx hb => ?_⟩
          · rw [Array.getD_eq_getD_getElem?, Array.getElem?_eq_getElem hlt] at hg ⊢
            exact hg
          · have := G.f.back i ops[i] (by simp [hi]) x (by simpa using hx) hb
            exact ih x.on this (Nat.lt_trans this hi)
        rw [hr] at hmem; cases hmem
  intro fuel
  induction fuel with
  | zero =>
    intro listed ρ a w t h m inc H hs hu I
    have hr : Region.ready .any ops listed = [] := by
      cases hr : Region.ready .any ops listed with
      | nil => rfl
      | cons i r =>
        have hmem : i ∈ Region.ready .any ops listed := by rw [hr]; exact List.mem_cons_self ..
        rw [mem_ready] at hmem
        exact absurd (not_on hmem.1).2 (unlisted_zero hu)
    exact ⟨hr, hQ ρ a w t h m inc H _ (all listed hs hr) I⟩
  | succ fuel ih =>
    intro listed ρ a w t h m inc H hs hu I
    refine ⟨fun hr => hQ ρ a w t h m inc H _ (all listed hs hr) I, fun i hmem => ?_⟩
    rw [mem_ready] at hmem
    obtain ⟨h1, o, ho, hb⟩ := hmem
    obtain ⟨hi, hl⟩ := not_on h1
    have ho' : ops.toList[i]? = some o := by simpa using ho
    have hlt : i < listed.size := by
      have := (List.getElem?_eq_some_iff.1 hl).1
      simpa using this
    obtain ⟨id, x, x', mc, incc, v, R⟩ := G.recs i o ho'
    have hm : ∀ j, ((masks ops.toList).getD i 0).testBit j = true → On listed j := fun j hj => by
      obtain ⟨y, y1, y2, y3⟩ := masks_spec ho' hj
      have hy : On listed y.on := hb y (by simpa using y1) y2
      rcases y3 with rfl | y3
      · exact hy
      · exact I.closed y.on hy j y3
    refine I.step he hcf hrf hro G R ho' hi hm (on_set hlt) rfl n fun ρ' a' w' t' h' m' inc' H' I' => ?_
    refine ih (listed.setIfInBounds i true) ρ' a' w' t' h' m' inc' H' (by simpa using hs) ?_ I'
    have := unlisted_set listed.toList i hl
    simp only [Array.toList_setIfInBounds]
    omega

theorem draw_ok (he : e.Ok) (hmix : e.P.follows .mixedOrders = true) : DrawOK e := by
  intro cf rf hcf hrf ro ops s s' hreg ρ a w roc n Q id X hro hQ
  simp only [regionA, cond_true] at hreg
  obtain ⟨hok, hreg⟩ := of_bif hreg
  have F := drawOk_facts hok
  let N := s.h.next + ((ops.toList.filter fun o => cls o.op == .alloc).length)
  let H0 : AHeap := { s.h with next := N }
  let s0 : ASt := { s with h := H0 }
  let x0 : DSt := { s := s0, pend := [], all := [], stages := [(0, H0)], snaps := [] }
  cases hd : drawOps e cf rf ro ops.toList (ops.toList.zip (masks ops.toList)) 0 s.h.next x0 with
  | none => simp only [x0, s0, H0, N] at hd; rw [hd] at hreg; cases hreg
  | some xf =>
    have hd' := hd
    simp only [x0, s0, H0, N] at hd'
    rw [hd'] at hreg
    simp only at hreg
    obtain ⟨hrd, hreg⟩ := of_bif hreg
    cases hreg
    have hget : ∀ k, H0.get k = s.h.get k := fun _ => rfl
    have pre0 : Pre s0 s.h.next N ops.toList 0 s.h.next x0 0 0 :=
      ⟨rfl, rfl, fun _ _ => rfl, ⟨[], rfl⟩, rfl, ⟨Nat.zero_le _, fun p i k _ => ⟨fun h => absurd h (Nat.not_lt_zero _), fun h => absurd h (Nat.not_lt_zero _)⟩⟩, fun p => (by simp [x0]),
        fun p hp => (by cases hp), fun p q hp => (by cases hp), fun j hj => (by simp at hj), rfl, Nat.le_refl _, rfl⟩
    obtain ⟨recs, l0, idf, mf, incf, pf⟩ := drawOps_rec F (ops.toList.length) 0 s.h.next x0 0 0 (by simp) (Nat.zero_le _) (by rw [List.drop_zero]; exact hd) pre0
    have hN : idf = N := by
      have := pf.sum
      rw [List.drop_eq_nil_of_le (Nat.le_refl _)] at this
      simpa using this
    have G : Glob e cf rf ro ops.toList s0 s.h.next N xf := by
      refine ⟨F, fun i o ho => ?_, fun d hdd => ?_, fun p hp => ?_, pf.inj, ?_⟩
      · obtain ⟨id, x, x', m, inc, v, r1, r2, r3, r4, r5⟩ := recs i o (Nat.zero_le _) ho
        exact ⟨id, x, x', m, inc, v, r1, r2, r3, r4, r5⟩
      · exact l0.t d fun j o _ ho => hdd j o ho
      · obtain ⟨_, g2, g3⟩ := pf.allk p hp
        exact ⟨g2, by rw [← hN]; exact g3⟩
      · rw [Bool.or_eq_true] at hrd
        exact hrd.imp Nat.eq_of_beq_eq_true fun h => h
    refine wpIn_region_any hmix ?_
    have m0 : WRel ρ H0 { w with drawn := w.drawn + 1 } := (X.m.sub (g := H0) (fun i o h => h) (Nat.le_add_right _ _)).draw rfl
    have f0 : Fr s.h.next ρ s.h w ρ H0 { w with drawn := w.drawn + 1 } := (fr_draw (h := s.h) (w := w) (w' := { w with drawn := w.drawn + 1 }) rfl rfl rfl s.h.next).trans (Fr.less (fun i o h => h) (Nat.le_add_right _ _))
    have noneOn : ∀ i, ¬ On (Array.replicate ops.size false) i := fun i h => by
      unfold On at h
      rw [Array.getD_eq_getD_getElem?] at h
      cases hg : (Array.replicate ops.size false)[i]? with
      | none => rw [hg] at h; cases h
      | some b =>
        rw [hg] at h
        obtain ⟨h1, h2⟩ := Array.getElem?_eq_some_iff.1 hg
        simp at h2
        subst h2; cases h
    have hfree : ∀ p ∈ xf.all, ρ p.2.1 = none := fun p hp => by
      cases hx : ρ p.2.1 with
      | none => rfl
      | some pl =>
        have h1 := X.m.dom _ _ hx
        have h2 := (G.allF p hp).1
        omega
    have I0 : Inv e ops.toList s0 s.h.next N xf (On (Array.replicate ops.size false)) ρ s.h w ρ a { w with drawn := w.drawn + 1 } s.t H0 0 0 H0 := by
      refine ⟨fun i hi => absurd hi (noneOn i), fun j o d hj => absurd hj (noneOn j), fun d _ => rfl, ⟨X.g, X.t, X.d, m0⟩, f0, ⟨Nat.zero_le _, fun p i k _ => ⟨fun h => absurd h (noneOn i), fun h => absurd h (Nat.not_lt_zero _)⟩⟩, ?_,
        fun p _ hs => absurd hs (noneOn _), fun k o h => h, fun p hp _ => ?_, rfl, Nat.le_refl _, fun p hp _ => hfree p hp, fun j hj => by simp at hj⟩
      · exact stage_of (q := (0, H0)) (tl := []) (x := x0) rfl rfl l0
      · cases hg : H0.get p.2.1 with
        | none => rfl
        | some ob =>
          obtain ⟨pl, g1, _⟩ := X.m.obj _ _ (show s.h.get p.2.1 = some ob from hg)
          rw [hfree p hp] at g1; cases g1
    refine draw_wp he hcf hrf hro G n Q ?_ ops.size _ ρ a _ s.t H0 0 0 H0 (by simp) ?_ I0
    · intro ρ' a' w' t' h' m' inc' H' S hall I
      have e1 : m' = mf := I.eff.uniq pf.eff fun p i k hp => by
        obtain ⟨o, q1, _⟩ := effs_get hp
        have hl := (List.getElem?_eq_some_iff.1 q1).1
        exact ⟨fun _ => hl, fun _ => hall i (by simpa using hl)⟩
      subst e1
      obtain ⟨tl, hst⟩ := pf.stage
      have hs1 := stage_of hst pf.len (Link.refl ops.toList ops.toList.length xf)
      rw [I.stage] at hs1
      cases hs1
      -- the end of the run
      have hsub : ∀ k ob, (addAll xf.s.h xf.pend).get k = some ob → h'.get k = some ob := fun k ob hk => by
        rcases addAll_or (fun p q hp hq => pf.inj p q ((pf.pend p).1 hp).1 ((pf.pend q).1 hq).1) hk with ⟨p, hp, rfl, rfl⟩ | hk
        · obtain ⟨g1, g2⟩ := (pf.pend p).1 hp
          exact I.m1 p g1 (hall p.1 (by have := (pf.allk p g1).1; simpa using this)) g2
        · exact I.m3 k ob hk
      have hnx : h'.next ≤ (addAll xf.s.h xf.pend).next := by rw [addAll_next]; exact Nat.le_of_eq I.m5
      have ht : ∀ d, xf.s.t.get d = t'.get d := fun d => by
        by_cases hw : ∃ (j : Nat) (o : Oper), ops.toList[j]? = some o ∧ o.dst = some d
        · obtain ⟨j, o, hj, hjd⟩ := hw
          exact (I.t1 j o d (hall j (by have := (List.getElem?_eq_some_iff.1 hj).1; simpa using this)) hj hjd).symm
        · rw [G.t0 d fun j o hj hjd => hw ⟨j, o, hj, hjd⟩, I.t2 d fun j o _ hj hjd => hw ⟨j, o, hj, hjd⟩]
      refine hQ a' w' ρ' ⟨I.rel.g, ?_, ?_, I.rel.m.sub hsub hnx⟩ (I.fr.trans (Fr.less hsub hnx))
      · refine ⟨?_, fun d v hv => ?_⟩
        · show a'.tmps.size = xf.s.n
          rw [pf.n]; exact I.rel.t.1
        · show d < xf.s.n ∧ _
          rw [pf.n]
          exact I.rel.t.2 d v (by rw [← hv]; exact (ht d).symm)
      · show All2 _ xf.s.ds _
        rw [pf.ds]; exact I.rel.d
    · simp [unlisted]

/-- The whole. -/
theorem sound (he : e.Ok) (hmix : e.P.follows .mixedOrders = true) (hidle : Idle e) (hmemo : MemoOK e) (N : Nat) : CallOK e (call e N) := call_ok he hidle (draw_ok he hmix) hmemo N

end Go.Abs
end

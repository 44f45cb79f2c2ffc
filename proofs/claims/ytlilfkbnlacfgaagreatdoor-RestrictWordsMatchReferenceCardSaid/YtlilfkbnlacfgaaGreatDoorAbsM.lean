/-
  Code, rounds, calls.
-/
import Derived.Test.YtlilfkbnlacfgaaGreatDoorAbsK
import Derived.LoopNIn
namespace Go.Abs
variable {e : Env}

def AEx.to : AEx → Exit
  | .normal => .normal
  | .exit id => .exit id
  | .ret => .ret

def EvOK (e : Env) (f : EvF) : Prop := ∀ ro c s x s', f ro c s = some (x, s') → ∀ ρ a w roc n Q, SRel e ρ s a w → RoRel ρ ro roc →
  (∀ a' w' ρ', SRel e ρ' s' a' w' → Fr s.h.next ρ s.h w ρ' s'.h w' → Q x.to a' w') → c.wpIn (FF roc) n e.P Q a w

/-- What is asked of the regions that draw their order. -/
def DrawOK (e : Env) : Prop := ∀ cf rf, CallOK e cf → RoundOK e rf → ∀ ro (ops : Array Oper) s s', regionA e cf rf ro ops.toList true s = some s' → ∀ ρ a w roc n Q id, SRel e ρ s a w → RoRel ρ ro roc →
  (∀ a' w' ρ', SRel e ρ' s' a' w' → Fr s.h.next ρ s.h w ρ' s'.h w' → Q .normal a' w') → (Code.region id ops true).wpIn (FF roc) n e.P Q a w

theorem stepR_scope {P : Program} {b : Frame} {a : Act} {k : List Item} {cs : List Frame} {w : World} {c : Code} : step P (lone (b.atR a (.code (.scope c) :: k)) cs w) = .next (lone (b.atR a (.code c :: .inScope c :: k)) cs w) :=
  step_lone_go (by simp [stepG, stepG.exec, Frame.atR])
theorem stepR_inScope {P : Program} {b : Frame} {a : Act} {k : List Item} {cs : List Frame} {w : World} {c : Code} : step P (lone (b.atR a (.inScope c :: k)) cs w) = .next (lone (b.atR a k) cs w) :=
  step_lone_go (by simp [stepG, stepG.exec, Frame.atR])
def noGoto (Q : Exit → Act → World → Prop) : Exit → Act → World → Prop
  | .goto _, _, _ => False
  | e, a, w => Q e a w

theorem wpIn_scope {F : Fence} {n : Nat} {P : Program} {c : Code} {Q : Exit → Act → World → Prop} {a : Act} {w : World} (h : c.wpIn F n P (noGoto Q) a w) : (Code.scope c).wpIn F n P Q a w := by
  intro b k cs hro hb hr
  have h0 : (lone (b.atR a (.code (.scope c) :: k)) cs w).fenced P F := fenced_calm hb hr rfl
  have h1 : StepsIn (Machine.fenced P F) P (lone (b.atR a (.code (.scope c) :: k)) cs w) (lone (b.atR a (.code c :: .inScope c :: k)) cs w) := .one h0 stepR_scope
  obtain ⟨e, a₁, w₁, hq, harr⟩ := h b (.inScope c :: k) cs hro hb hr
  cases e with
  | normal => exact ⟨.normal, a₁, w₁, hq, StepsIn.trans h1 (StepsIn.trans harr (.one (fenced_calm hb hr rfl) stepR_inScope))⟩
  | exit id => exact ⟨.exit id, a₁, w₁, hq, fun k' hk => h1.trans (harr.1 k' (by simp [exitTo, hk])), fun hr' hk => let ⟨k₁, q1, q2⟩ := harr.2 hr' (by simp [exitTo, hk]); ⟨k₁, q1, h1.trans q2⟩⟩
  | goto l => exact hq.elim
  | ret => exact ⟨.ret, a₁, w₁, hq, ArrivesIn.of_steps (e := .ret) (k := k) h1 harr⟩
  | panic ch => exact ⟨.panic ch, a₁, w₁, hq, ArrivesIn.of_steps (e := .panic ch) (k := k) h1 harr⟩
  | outgrown => exact ⟨.outgrown, a₁, w₁, hq, ArrivesIn.of_steps (e := .outgrown) (k := k) h1 harr⟩

/-! ## Leaving a function -/
def Idle (e : Env) : Prop := ∀ g, e.idle g = true → ∀ (args : Array Value) (w : World) (n : Nat), (∃ args', (callFunc g args).run e.P w = .ok (.enter g args') w ∧ CallsDIn Fence.wide n e.P g args' .returning w fun en u' w' => (∃ v, en = .returned v) ∧ u' = .returning ∧ w' = w)

theorem ofList_get : ∀ (l : List Value) (i : Nat) (t : Tr Value) (j : Nat), (Tr.ofList l i t).get j = if i ≤ j ∧ j < i + l.length then l[j - i]? else t.get j
  | [], i, t, j => by
    simp only [Tr.ofList, List.length_nil, Nat.add_zero]
    rw [if_neg (by omega)]
  | a :: l, i, t, j => by
    simp only [Tr.ofList, ofList_get l (i + 1), Tr.get_set, List.length_cons]
    by_cases h1 : i + 1 ≤ j ∧ j < i + 1 + l.length
    · rw [if_pos h1, if_pos (by omega)]
      have : j - i = (j - (i + 1)) + 1 := by omega
      rw [this]; rfl
    · rw [if_neg h1]
      by_cases h2 : j = i
      · subst h2
        rw [if_pos rfl, if_pos (by omega)]; simp
      · rw [if_neg h2, if_neg (by omega)]

theorem enter_rel {ρ : Inj} {args : List Value} {args' : Array Value} (h : VsRel ρ args args'.toList) (n : Nat) : TRel ρ (enterT args) (args.length + (n - args.length)) (args' ++ Array.replicate (n - args'.size) undef) := by
  have hl : args.length = args'.size := by simpa using h.length
  refine ⟨by simp; omega, fun i v hv => ?_⟩
  rw [enterT, ofList_get] at hv
  split at hv
  · rename_i hc
    simp only [Nat.sub_zero] at hv
    obtain ⟨v', h1, h2⟩ := h.get i v hv
    refine ⟨by omega, ?_⟩
    have hi : i < args'.size := by omega
    have : (args' ++ Array.replicate (n - args'.size) undef).getD i undef = v' := by
      rw [Array.getD_eq_getD_getElem?, Array.getElem?_append_left hi]
      have : args'[i]? = some v' := by simpa using h1
      rw [this]; rfl
    rw [this]; exact h2
  · cases hv

def resOne (tmps : Array Value) : ResultVar → Sem Value
  | .tmp t => pure (tmps.getD t undef)
  | .cell ad t => do loadVar t (← asAddr (tmps.getD ad undef))

theorem results_eq (fn : Func) (tmps : Array Value) : results fn tmps = (do
    let vs ← fn.results.mapM (resOne tmps)
    pure (if h : vs.size = 1 then vs[0] else .tuple vs)) := rfl

theorem results_rel (he : e.Ok) {ρ : Inj} {s : ASt} {a : Act} {w : World} (x : SRel e ρ s a w) : ∀ {rs : List ResultVar} {vs : List Value}, resultsA e s rs = some vs →
    ∃ vs', (rs.mapM (resOne a.tmps)).run e.P w = .ok vs' w ∧ VsRel ρ vs vs'
  | [], vs, h => by
    simp only [resultsA, Option.some.injEq] at h
    subst h
    exact ⟨[], rfl, .nil⟩
  | r :: rs, vs, h => by
    simp only [resultsA] at h
    split at h
    · rename_i v vs1 h1 h2
      cases h
      obtain ⟨vs', g1, g2⟩ := results_rel he x h2
      cases r with
      | tmp t =>
        simp only at h1
        exact ⟨a.tmps.getD t undef :: vs', by simp only [List.mapM_cons, resOne, Sem.run_bind, Sem.run_pure, Result.andThen_ok, g1], .cons (x.t.2 t v h1).2 g2⟩
      | cell ad t =>
        simp only at h1
        cases hb : (s.t.get ad).bind addrA with
        | none => simp [hb] at h1
        | some adr =>
          simp only [hb] at h1
          obtain ⟨u, k1, k2⟩ := of_bind hb
          have := of_addr k2; subst this
          obtain ⟨pl, q1, q2⟩ := ((x.t.2 ad _ k1).2).ptr_l
          obtain ⟨v', l1, l2⟩ := load_rel he x.m q1 h1
          have hone : (resOne a.tmps (.cell ad t)).run e.P w = .ok v' w := by simp only [resOne, Sem.run_bind, q2, asAddr, Sem.run_pure, Result.andThen_ok, l1]
          exact ⟨v' :: vs', by simp only [List.mapM_cons, Sem.run_bind, hone, Result.andThen_ok, Sem.run_pure, g1], .cons l2 g2⟩
    · cases h

theorem leave_rel (he : e.Ok) (hidle : Idle e) {fn : Func} {tmps : Array Value} {R : Ending → World → Prop} (n : Nat) : ∀ {ds : List Deferred} {h h' : AHeap} {ds' : List Deferred} {ρ : Inj} {w : World}, leaveA e ds h = some h' → All2 (DefRel ρ) ds ds' → WRel ρ h w →
    (∀ w', WRel ρ h' w' → Fr h.next ρ h w ρ h' w' → ∃ v, (results fn tmps).run e.P w' = .ok v w' ∧ R (.returned v) w') → LeavesInM Fence.wide n e.P fn tmps R ds' .returning w := by
  intro ds
  induction ds with
  | nil =>
    intro h h' ds' ρ w hl hd x hR
    cases hd
    simp only [leaveA, Option.some.injEq] at hl
    subst hl
    exact hR w x (Fr.refl _ _ _ _)
  | cons d ds ih =>
    intro h h' ds' ρ w hl hd x hR
    cases hd with
    | @cons _ d' _ ds2 h1 h2 =>
      cases h1 with
      | @mark r pl hp =>
        simp only [leaveA] at hl
        cases ho : h.get r with
        | none => simp [ho] at hl
        | some o =>
          match o, ho, hl with
          | .dfr true, ho, hl =>
            simp only [ho] at hl
            obtain ⟨pl', g1, g2, g3⟩ := x.obj _ _ ho
            rw [hp] at g1; cases g1
            have hlt : pl.blk < w.heap.size := (Array.getElem?_eq_some_iff.1 g3).1
            obtain ⟨k1, k2⟩ := wrel_turn (b := h.next) (o := .deferred none) (ao' := .dfr false) x ho rfl hp rfl ⟨g2, heap_turn_self _ _ _ hlt⟩ rfl
            refine ⟨by simp, .inl ⟨pl.blk, World.turn w pl.blk (.deferred none), rfl, ?_, ?_⟩⟩
            · have hgo := getObj_run (P := e.P) g3 (fun _ _ _ h => by cases h)
              simp only [Instr.takeDeferred, Sem.run_bind, hgo, if_true, Result.andThen_ok, setObj_turn _ g3 (fun _ _ _ h => by cases h), Sem.run_pure]
            · refine ih hl h2 k1 fun w' m f => hR w' m ?_
              exact k2.trans (f.mono (Nat.le_refl _))
          | .dfr false, ho, hl => simp [ho] at hl
          | .row _ _ _, ho, hl => simp [ho] at hl
          | .map _ _, ho, hl => simp [ho] at hl
          | .mapIt _ _ _ _, ho, hl => simp [ho] at hl
          | .strIt _ _, ho, hl => simp [ho] at hl
          | .loop _ _ _ _ _ _ _ _, ho, hl => simp [ho] at hl
      | @fn g cap cap' args args' hc ha =>
        simp only [leaveA] at hl
        obtain ⟨hi, hl⟩ := of_bif hl
        obtain ⟨args2, q1, q2⟩ := hidle g hi (args' ++ cap') w (n - 1)
        refine ⟨by simp, .inr ⟨fun h => by simp [Fence.wide] at h, .func g, cap', g, args2, rfl, ?_, fun _ _ => trivial, ?_⟩⟩
        · simp only [invoke, q1]
        · refine q2.mono ?_
          rintro en u' w' ⟨⟨v, rfl⟩, rfl, rfl⟩
          exact ih hl h2 x hR

theorem callFA_ok (he : e.Ok) (hidle : Idle e) {f : EvF} (hf : EvOK e f) : CallOK e (callFA e f) := by
  intro g args h v h' hc
  unfold callFA at hc
  cases hfn : e.fn g with
  | none => simp [hfn] at hc
  | some fn =>
    refine ⟨⟨fn, rfl⟩, fun ρ w args' hg ha x => ?_⟩
    simp only [hfn] at hc
    cases hb : fn.body with
    | none => simp [hb] at hc
    | some c =>
      simp only [hb] at hc
      cases hev : f none c { t := enterT args, n := args.length + (fn.ntmps - args.length), ds := [], h } with
      | none => simp [hev] at hc
      | some r =>
        obtain ⟨xt, s⟩ := r
        have hl : args.length = args'.size := by simpa using ha.length
        have hs0 : SRel e ρ { t := enterT args, n := args.length + (fn.ntmps - args.length), ds := [], h } { tmps := args' ++ Array.replicate (fn.ntmps - args'.size) undef, defers := [] } w :=
          ⟨hg, enter_rel ha fn.ntmps, .nil, x⟩
        -- the way out is the same, normal or by a return
        have out : ∀ (hc : (match leaveA e s.ds s.h with
            | none => none
            | some h => match resultsA e { s with h } fn.results.toList with
              | some [v] => some (v, h)
              | some vs => some (.tuple vs.toArray, h)
              | none => none) = some (v, h')), ∀ a' w' ρ', SRel e ρ' s a' w' → Fr h.next ρ h w ρ' s.h w' →
            LeavesInM Fence.wide 0 e.P fn a'.tmps (fun en w' => ∃ v' ρ', en = .returned v' ∧ VRel ρ' v v' ∧ WRel ρ' h' w' ∧ Fr h.next ρ h w ρ' h' w') a'.defers .returning w' := by
          intro hc a' w' ρ' x' f'
          cases hlv : leaveA e s.ds s.h with
          | none => simp [hlv] at hc
          | some h2 =>
            simp only [hlv] at hc
            refine leave_rel he hidle 0 hlv x'.d x'.m fun w2 m2 f2 => ?_
            have x2 : SRel e ρ' { s with h := h2 } a' w2 := ⟨x'.g, x'.t, x'.d, m2⟩
            cases hrs : resultsA e { s with h := h2 } fn.results.toList with
            | none => simp [hrs] at hc
            | some vs =>
              simp only [hrs] at hc
              obtain ⟨vs', q1, q2⟩ := results_rel he x2 hrs
              have hm : (fn.results.mapM (resOne a'.tmps)).run e.P w2 = .ok vs'.toArray w2 := by
                rw [Array.mapM_eq_mapM_toList, Sem.run_map, q1]
                rfl
              have ffin : Fr h.next ρ h w ρ' h2 w2 := f'.trans (f2.mono f'.next)
              have hres : (results fn a'.tmps).run e.P w2 = .ok (if h : vs'.toArray.size = 1 then vs'.toArray[0] else .tuple vs'.toArray) w2 := by
                rw [results_eq, Sem.run_bind, hm]
                rfl
              refine ⟨_, hres, _, ρ', rfl, ?_, ?_, ?_⟩
              · match vs, vs', q2, hc with
                | [u], [u'], .cons hu _, hc =>
                  cases hc
                  simpa using hu
                | [], [], _, hc =>
                  cases hc
                  exact VRel.tuple_iff.2 .nil
                | _ :: _ :: _, _ :: _ :: _, q2, hc =>
                  cases hc
                  rw [dif_neg (by simp)]
                  exact VRel.tuple_iff.2 (by simpa using q2)
              · have : h' = h2 := by split at hc <;> cases hc <;> rfl
                rw [this]; exact m2
              · have : h' = h2 := by split at hc <;> cases hc <;> rfl
                rw [this]; exact ffin
        simp only [hev] at hc
        rw [← callsIn_wide (n := 0)]
        refine callsIn_of_wp_marks (he.fn g fn hfn).1 hb trivial ?_
        have hwp := hf none c _ xt s hev ρ _ w none 0 (bodyPostM Fence.wide 0 e.P fn fun en w' => ∃ v' ρ', en = .returned v' ∧ VRel ρ' v v' ∧ WRel ρ' h' w' ∧ Fr h.next ρ h w ρ' h' w') hs0 .none
        refine hwp fun a' w' ρ' x' f' => ?_
        cases xt with
        | normal => exact out hc a' w' ρ' x' f'
        | ret => exact out hc a' w' ρ' x' f'
        | exit id => cases hc

/-! ## Calls whose value is known -/
structure Keeps (w w' : World) : Prop where
  os : w'.os = w.os
  output : w'.output = w.output
  size : w.heap.size ≤ w'.heap.size
  frozen : ∀ a, w'.frozen? a = w.frozen? a
  heap : ∀ k, k < w.heap.size → w'.heap[k]? = w.heap[k]?

def MemoOK (e : Env) : Prop := ∀ f args h v, e.memo f args h = some v → plain v = true ∧ (∃ fn, e.fn f = some fn) ∧ ∀ ρ w (args' : Array Value), Gl e ρ → VsRel ρ args args'.toList → WRel ρ h w →
  Calls e.P f args' w fun en w' => en = .returned v ∧ Keeps w w'

theorem WRel.keeps {ρ : Inj} {h : AHeap} {w w' : World} (x : WRel ρ h w) (k : Keeps w w') (b : Nat) : WRel ρ h w' ∧ Fr b ρ h w ρ h w' :=
  ⟨⟨x.dom, fun i o ho => let ⟨pl, h1, h2⟩ := x.obj i o ho; ⟨pl, h1, h2.mono (Ext.refl _) (k.heap _ h2.lt)⟩, x.sep⟩,
    ⟨Ext.refl _, k.os, k.output, k.size, k.frozen, fun j hj _ => k.heap j hj, fun i o pl h1 h2 h3 => .inl ⟨i, o, pl, h1, h2, h3, rfl⟩, fun _ _ h _ => h, fun _ h h' => absurd h h', fun _ o h _ => ⟨o, h⟩, Nat.le_refl _⟩⟩

theorem callM_ok (hm : MemoOK e) {cf : CallF} (hc : CallOK e cf) : CallOK e (callM e cf) := by
  intro f args h v h' hr
  unfold callM at hr
  cases hx : e.memo f args h with
  | none => rw [hx] at hr; exact hc f args h v h' hr
  | some u =>
    rw [hx] at hr
    cases hr
    obtain ⟨h1, h2, h3⟩ := hm f args h _ hx
    refine ⟨h2, fun ρ w args' hg ha x => (h3 ρ w args' hg ha x).mono ?_⟩
    rintro en w' ⟨rfl, hk⟩
    obtain ⟨q1, q2⟩ := x.keeps hk h.next
    exact ⟨_, ρ, rfl, plain_rel h1, q1, q2⟩

end Go.Abs

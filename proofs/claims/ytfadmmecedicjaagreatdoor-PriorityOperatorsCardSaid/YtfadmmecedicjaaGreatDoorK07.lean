/-
  PriorityOperators: parts of its proof (AbsM Rw Pr1 Pr3 AbsL1 Close).
-/
import Derived.LoopNIn
import Derived.WalkKit
import Derived.ProofKit
import Derived.Lib.SliceRun
import Derived.Test.YtfadmmecedicjaaGreatDoorProg
import Derived.Laws.ResultCell
import Derived.Carry
import Derived.OpenShut
import Derived.ChangeSame
import Derived.Deep.DeepHandedRow
import Derived.Test.YtfadmmecedicjaaGreatDoorK06
set_option linter.unusedVariables false
set_option linter.unusedSimpArgs false

section
/-
  Code, rounds, calls.
-/
namespace Go.Abs
variable {e : Env}

def AEx.to : AEx → Exit
  | .normal => .normal
  | .exit id => .exit id
  | .ret => .ret

def EvOK (e : Env) (f : EvF) : Prop := ∀ ro c s x s', f ro c s = some (x, s') → ∀ ρ a w roc n Q, SRel e ρ s a w → RoRel ρ ro roc →
  (∀ a' w' ρ', SRel e ρ' s' a' w' → Fr s.h.next ρ s.h w ρ' s'.h w' → Q x.to a' w') → c.wpIn (FF roc) n e.P Q a w

/-- What is asked of the regions that draw their order. -/
def DrawOK (e : Env) : Prop := ∀ cf rf, CallOK e cf → RoundOK e rf → ∀ ro (ops : Array Oper) s s', regionA e cf rf ro ops.toList true s = some s' → ∀ ρ a w roc n Q id, SRel e ρ s a w → RoRel ρ ro roc →
  (∀ a' w' ρ', SRel e ρ' s' a' w' → Fr s.h.next ρ s.h w ρ' s'.h w' → Q .normal a' w') → (Code.region id ops true).wpIn (FF roc) n e.P Q a w

theorem stepR_scope {P : Program} {b : Frame} {a : Act} {k : List Item} {cs : List Frame} {w : World} {c : Code} : step P (lone (b.atR a (.code (.scope c) :: k)) cs w) = .next (lone (b.atR a (.code c :: .inScope c :: k)) cs w) :=
  step_lone_go (by simp [stepG, stepG.exec, Frame.atR])
theorem stepR_inScope {P : Program} {b : Frame} {a : Act} {k : List Item} {cs : List Frame} {w : World} {c : Code} : step P (lone (b.atR a (.inScope c :: k)) cs w) = .next (lone (b.atR a k) cs w) :=
  step_lone_go (by simp [stepG, stepG.exec, Frame.atR])
def noGoto (Q : Exit → Act → World → Prop) : Exit → Act → World → Prop
  | .goto _, _, _ => False
  | e, a, w => Q e a w

theorem wpIn_scope {F : Fence} {n : Nat} {P : Program} {c : Code} {Q : Exit → Act → World → Prop} {a : Act} {w : World} (h : c.wpIn F n P (noGoto Q) a w) : (Code.scope c).wpIn F n P Q a w := by
  intro b k cs hro hb hr
  have h0 : (lone (b.atR a (.code (.scope c) :: k)) cs w).fenced P F := fenced_calm hb hr rfl
  have h1 : StepsIn (Machine.fenced P F) P (lone (b.atR a (.code (.scope c) :: k)) cs w) (lone (b.atR a (.code c :: .inScope c :: k)) cs w) := .one h0 stepR_scope
  obtain ⟨e, a₁, w₁, hq, harr⟩ := h b (.inScope c :: k) cs hro hb hr
  cases e with
  | normal => exact ⟨.normal, a₁, w₁, hq, StepsIn.trans h1 (StepsIn.trans harr (.one (fenced_calm hb hr rfl) stepR_inScope))⟩
  | exit id => exact ⟨.exit id, a₁, w₁, hq, fun k' hk => h1.trans (harr.1 k' (by simp [exitTo, hk])), fun hr' hk => let ⟨k₁, q1, q2⟩ := harr.2 hr' (by simp [exitTo, hk]); ⟨k₁, q1, h1.trans q2⟩⟩
  | goto l => exact hq.elim
  | ret => exact ⟨.ret, a₁, w₁, hq, ArrivesIn.of_steps (e := .ret) (k := k) h1 harr⟩
  | panic ch => exact ⟨.panic ch, a₁, w₁, hq, ArrivesIn.of_steps (e := .panic ch) (k := k) h1 harr⟩
  | outgrown => exact ⟨.outgrown, a₁, w₁, hq, ArrivesIn.of_steps (e := .outgrown) (k := k) h1 harr⟩

/-! ## Leaving a function -/
def Idle (e : Env) : Prop := ∀ g, e.idle g = true → ∀ (args : Array Value) (w : World) (n : Nat), (∃ args', (callFunc g args).run e.P w = .ok (.enter g args') w ∧ CallsDIn Fence.wide n e.P g args' .returning w fun en u' w' => (∃ v, en = .returned v) ∧ u' = .returning ∧ w' = w)

theorem ofList_get : ∀ (l : List Value) (i : Nat) (t : Tr Value) (j : Nat), (Tr.ofList l i t).get j = if i ≤ j ∧ j < i + l.length then l[j - i]? else t.get j
  | [], i, t, j => by
    simp only [Tr.ofList, List.length_nil, Nat.add_zero]
    rw [if_neg (by omega)]
  | a :: l, i, t, j => by
    simp only [Tr.ofList, ofList_get l (i + 1), Tr.get_set, List.length_cons]
    by_cases h1 : i + 1 ≤ j ∧ j < i + 1 + l.length
    · rw [if_pos h1, if_pos (by omega)]
      have : j - i = (j - (i + 1)) + 1 := by omega
      rw [this]; rfl
    · rw [if_neg h1]
      by_cases h2 : j = i
      · subst h2
        rw [if_pos rfl, if_pos (by omega)]; simp
      · rw [if_neg h2, if_neg (by omega)]

theorem enter_rel {ρ : Inj} {args : List Value} {args' : Array Value} (h : VsRel ρ args args'.toList) (n : Nat) : TRel ρ (enterT args) (args.length + (n - args.length)) (args' ++ Array.replicate (n - args'.size) undef) := by
  have hl : args.length = args'.size := by simpa using h.length
  refine ⟨by simp; omega, fun i v hv => ?_⟩
  rw [enterT, ofList_get] at hv
  split at hv
  · rename_i hc
    simp only [Nat.sub_zero] at hv
    obtain ⟨v', h1, h2⟩ := h.get i v hv
    refine ⟨by omega, ?_⟩
    have hi : i < args'.size := by omega
    have : (args' ++ Array.replicate (n - args'.size) undef).getD i undef = v' := by
      rw [Array.getD_eq_getD_getElem?, Array.getElem?_append_left hi]
      have : args'[i]? = some v' := by simpa using h1
      rw [this]; rfl
    rw [this]; exact h2
  · rw [Tr.get_nil] at hv; cases hv

def resOne (tmps : Array Value) : ResultVar → Sem Value
  | .tmp t => pure (tmps.getD t undef)
  | .cell ad t => do loadVar t (← asAddr (tmps.getD ad undef))

theorem results_eq (fn : Func) (tmps : Array Value) : results fn tmps = (do
    let vs ← fn.results.mapM (resOne tmps)
    pure (if h : vs.size = 1 then vs[0] else .tuple vs)) := rfl

theorem results_rel (he : e.Ok) {ρ : Inj} {s : ASt} {a : Act} {w : World} (x : SRel e ρ s a w) : ∀ {rs : List ResultVar} {vs : List Value}, resultsA e s rs = some vs →
    ∃ vs', (rs.mapM (resOne a.tmps)).run e.P w = .ok vs' w ∧ VsRel ρ vs vs'
  | [], vs, h => by
    simp only [resultsA, Option.some.injEq] at h
    subst h
    exact ⟨[], rfl, .nil⟩
  | r :: rs, vs, h => by
    simp only [resultsA] at h
    split at h
    · rename_i v vs1 h1 h2
      cases h
      obtain ⟨vs', g1, g2⟩ := results_rel he x h2
      cases r with
      | tmp t =>
        simp only at h1
        exact ⟨a.tmps.getD t undef :: vs', by simp only [List.mapM_cons, resOne, Sem.run_bind, Sem.run_pure, Result.andThen_ok, g1], .cons (x.t.2 t v h1).2 g2⟩
      | cell ad t =>
        simp only at h1
        cases hb : (s.t.get ad).bind addrA with
        | none => simp [hb] at h1
        | some adr =>
          simp only [hb] at h1
          obtain ⟨u, k1, k2⟩ := of_bind hb
          have := of_addr k2; subst this
          obtain ⟨pl, q1, q2⟩ := ((x.t.2 ad _ k1).2).ptr_l
          obtain ⟨v', l1, l2⟩ := load_rel he x.m q1 h1
          have hone : (resOne a.tmps (.cell ad t)).run e.P w = .ok v' w := by simp only [resOne, Sem.run_bind, q2, asAddr, Sem.run_pure, Result.andThen_ok, l1]
          exact ⟨v' :: vs', by simp only [List.mapM_cons, Sem.run_bind, hone, Result.andThen_ok, Sem.run_pure, g1], .cons l2 g2⟩
    · cases h

theorem leave_rel (he : e.Ok) (hidle : Idle e) {fn : Func} {tmps : Array Value} {R : Ending → World → Prop} (n : Nat) : ∀ {ds : List Deferred} {h h' : AHeap} {ds' : List Deferred} {ρ : Inj} {w : World}, leaveA e ds h = some h' → All2 (DefRel ρ) ds ds' → WRel ρ h w →
    (∀ w', WRel ρ h' w' → Fr h.next ρ h w ρ h' w' → ∃ v, (results fn tmps).run e.P w' = .ok v w' ∧ R (.returned v) w') → LeavesInM Fence.wide n e.P fn tmps R ds' .returning w := by
  intro ds
  induction ds with
  | nil =>
    intro h h' ds' ρ w hl hd x hR
    cases hd
    simp only [leaveA, Option.some.injEq] at hl
    subst hl
    exact hR w x (Fr.refl _ _ _ _)
  | cons d ds ih =>
    intro h h' ds' ρ w hl hd x hR
    cases hd with
    | @cons _ d' _ ds2 h1 h2 =>
      cases h1 with
      | @mark r pl hp =>
        simp only [leaveA] at hl
        cases ho : h.get r with
        | none => simp [ho] at hl
        | some o =>
          match o, ho, hl with
          | .dfr true, ho, hl =>
            simp only [ho] at hl
            obtain ⟨pl', g1, g2, g3⟩ := x.obj _ _ ho
            rw [hp] at g1; cases g1
            have hlt : pl.blk < w.heap.size := (Array.getElem?_eq_some_iff.1 g3).1
            obtain ⟨k1, k2⟩ := wrel_turn (b := h.next) (o := .deferred none) (ao' := .dfr false) x ho rfl hp rfl ⟨g2, heap_turn_self _ _ _ hlt⟩ rfl
            refine ⟨by simp, .inl ⟨pl.blk, World.turn w pl.blk (.deferred none), rfl, ?_, ?_⟩⟩
            · have hgo := getObj_run (P := e.P) g3 (fun _ _ _ h => by cases h)
              simp only [Instr.takeDeferred, Sem.run_bind, hgo, if_true, Result.andThen_ok, setObj_turn _ g3 (fun _ _ _ h => by cases h), Sem.run_pure]
            · refine ih hl h2 k1 fun w' m f => hR w' m ?_
              exact k2.trans (f.mono (Nat.le_refl _))
          | .dfr false, ho, hl => simp [ho] at hl
          | .row _ _ _, ho, hl => simp [ho] at hl
          | .map _ _, ho, hl => simp [ho] at hl
          | .mapIt _ _ _ _, ho, hl => simp [ho] at hl
          | .strIt _ _, ho, hl => simp [ho] at hl
          | .loop _ _ _ _ _ _ _ _, ho, hl => simp [ho] at hl
      | @fn g cap cap' args args' hc ha =>
        simp only [leaveA] at hl
        obtain ⟨hi, hl⟩ := of_bif hl
        obtain ⟨args2, q1, q2⟩ := hidle g hi (args' ++ cap') w (n - 1)
        refine ⟨by simp, .inr ⟨fun h => by simp [Fence.wide] at h, .func g, cap', g, args2, rfl, ?_, fun _ _ => trivial, ?_⟩⟩
        · simp only [invoke, q1]
        · refine q2.mono ?_
          rintro en u' w' ⟨⟨v, rfl⟩, rfl, rfl⟩
          exact ih hl h2 x hR

theorem callFA_ok (he : e.Ok) (hidle : Idle e) {f : EvF} (hf : EvOK e f) : CallOK e (callFA e f) := by
  intro g args h v h' hc
  unfold callFA at hc
  cases hfn : e.fn g with
  | none => simp [hfn] at hc
  | some fn =>
    refine ⟨⟨fn, rfl⟩, fun ρ w args' hg ha x => ?_⟩
    simp only [hfn] at hc
    cases hb : fn.body with
    | none => simp [hb] at hc
    | some c =>
      simp only [hb] at hc
      cases hev : f none c { t := enterT args, n := args.length + (fn.ntmps - args.length), ds := [], h } with
      | none => simp [hev] at hc
      | some r =>
        obtain ⟨xt, s⟩ := r
        have hl : args.length = args'.size := by simpa using ha.length
        have hs0 : SRel e ρ { t := enterT args, n := args.length + (fn.ntmps - args.length), ds := [], h } { tmps := args' ++ Array.replicate (fn.ntmps - args'.size) undef, defers := [] } w :=
          ⟨hg, enter_rel ha fn.ntmps, .nil, x⟩
        -- the way out is the same, normal or by a return
        have out : ∀ (hc : (match leaveA e s.ds s.h with
            | none => none
            | some h => match resultsA e { s with h } fn.results.toList with
              | some [v] => some (v, h)
              | some vs => some (.tuple vs.toArray, h)
              | none => none) = some (v, h')), ∀ a' w' ρ', SRel e ρ' s a' w' → Fr h.next ρ h w ρ' s.h w' →
            LeavesInM Fence.wide 0 e.P fn a'.tmps (fun en w' => ∃ v' ρ', en = .returned v' ∧ VRel ρ' v v' ∧ WRel ρ' h' w' ∧ Fr h.next ρ h w ρ' h' w') a'.defers .returning w' := by
          intro hc a' w' ρ' x' f'
          cases hlv : leaveA e s.ds s.h with
          | none => simp [hlv] at hc
          | some h2 =>
            simp only [hlv] at hc
            refine leave_rel he hidle 0 hlv x'.d x'.m fun w2 m2 f2 => ?_
            have x2 : SRel e ρ' { s with h := h2 } a' w2 := ⟨x'.g, x'.t, x'.d, m2⟩
            cases hrs : resultsA e { s with h := h2 } fn.results.toList with
            | none => simp [hrs] at hc
            | some vs =>
              simp only [hrs] at hc
              obtain ⟨vs', q1, q2⟩ := results_rel he x2 hrs
              have hm : (fn.results.mapM (resOne a'.tmps)).run e.P w2 = .ok vs'.toArray w2 := by
                rw [Array.mapM_eq_mapM_toList, Sem.run_map, q1]
                rfl
              have ffin : Fr h.next ρ h w ρ' h2 w2 := f'.trans (f2.mono f'.next)
              have hres : (results fn a'.tmps).run e.P w2 = .ok (if h : vs'.toArray.size = 1 then vs'.toArray[0] else .tuple vs'.toArray) w2 := by
                rw [results_eq, Sem.run_bind, hm]
                rfl
              refine ⟨_, hres, _, ρ', rfl, ?_, ?_, ?_⟩
              · match vs, vs', q2, hc with
                | [u], [u'], .cons hu _, hc =>
                  cases hc
                  simpa using hu
                | [], [], _, hc =>
                  cases hc
                  exact VRel.tuple_iff.2 .nil
                | _ :: _ :: _, _ :: _ :: _, q2, hc =>
                  cases hc
                  rw [dif_neg (by simp)]
                  exact VRel.tuple_iff.2 (by simpa using q2)
              · have : h' = h2 := by split at hc <;> cases hc <;> rfl
                rw [this]; exact m2
              · have : h' = h2 := by split at hc <;> cases hc <;> rfl
                rw [this]; exact ffin
        simp only [hev] at hc
        rw [← callsIn_wide (n := 0)]
        refine callsIn_of_wp_marks (he.fn g fn hfn).1 hb trivial ?_
        have hwp := hf none c _ xt s hev ρ _ w none 0 (bodyPostM Fence.wide 0 e.P fn fun en w' => ∃ v' ρ', en = .returned v' ∧ VRel ρ' v v' ∧ WRel ρ' h' w' ∧ Fr h.next ρ h w ρ' h' w') hs0 .none
        refine hwp fun a' w' ρ' x' f' => ?_
        cases xt with
        | normal => exact out hc a' w' ρ' x' f'
        | ret => exact out hc a' w' ρ' x' f'
        | exit id => cases hc

/-! ## Calls whose value is known -/
structure Keeps (w w' : World) : Prop where
  os : w'.os = w.os
  output : w'.output = w.output
  size : w.heap.size ≤ w'.heap.size
  frozen : ∀ a, a.block < w.heap.size → w'.frozen? a = w.frozen? a
  heap : ∀ k, k < w.heap.size → w'.heap[k]? = w.heap[k]?

/-- What is known ahead of some calls holds. -/
def MemoOK (e : Env) : Prop := CallOK e e.memo

theorem WRel.keeps {ρ : Inj} {h : AHeap} {w w' : World} (x : WRel ρ h w) (k : Keeps w w') (b : Nat) : WRel ρ h w' ∧ Fr b ρ h w ρ h w' :=
  ⟨⟨x.dom, fun i o ho => let ⟨pl, h1, h2⟩ := x.obj i o ho; ⟨pl, h1, h2.mono (Ext.refl _) (k.heap _ h2.lt)⟩, x.sep⟩,
    ⟨Ext.refl _, k.os, k.output, k.size, k.frozen, fun j hj _ => k.heap j hj, fun i o pl h1 h2 h3 => .inl ⟨i, o, pl, h1, h2, h3, rfl⟩, fun _ _ h _ => h, fun _ h h' => absurd h h', fun _ o h _ => ⟨o, h⟩, Nat.le_refl _⟩⟩

theorem callM_ok (hm : MemoOK e) {cf : CallF} (hc : CallOK e cf) : CallOK e (callM e cf) := by
  intro f args h v h' hr
  unfold callM at hr
  cases hx : e.memo f args h with
  | none => rw [hx] at hr; exact hc f args h v h' hr
  | some u =>
    rw [hx] at hr
    cases hr
    exact hm f args h _ _ hx

end Go.Abs
end

section
/-
  Rows of structs in a world, by their cells; what is kept of them.
-/
namespace Go.Abs
open Go.RowKit

theorem Keeps.refl (w : World) : Keeps w w := ⟨rfl, rfl, Nat.le_refl _, fun _ _ => rfl, fun _ _ => rfl⟩
theorem Keeps.trans {a b c : World} (h : Keeps a b) (k : Keeps b c) : Keeps a c :=
  ⟨k.os.trans h.os, k.output.trans h.output, Nat.le_trans h.size k.size, fun x hx => (k.frozen x (Nat.lt_of_lt_of_le hx h.size)).trans (h.frozen x hx), fun i hi => (k.heap i (Nat.lt_of_lt_of_le hi h.size)).trans (h.heap i hi)⟩
theorem Keeps.drew {a w : World} (h : Keeps a w) : Keeps a w.drew := ⟨h.os, h.output, h.size, h.frozen, h.heap⟩
theorem Keeps.alloc {a w : World} (h : Keeps a w) (c : Array Value) (t : TypeId) : Keeps a (w.alloc (.cells c t)) :=
  h.trans ⟨rfl, rfl, by show w.heap.size ≤ (w.heap.push _).size; simp, fun x _ => frozen?_alloc_cells w c t x, fun k hk => Below.heap_alloc w _ k hk⟩
theorem Keeps.setCell {a w : World} (h : Keeps a w) {p : Addr} (hp : a.heap.size ≤ p.block) (u : Value) : Keeps a (w.setCell p u) :=
  ⟨h.os, h.output, by simpa [World.setCell] using h.size, fun x hx => (World.frozen?_setCell _ _ _ _).trans (h.frozen x hx), fun k hk => (Below.heap_setCell w p u k (by omega)).trans (h.heap k hk)⟩
theorem Keeps.cell {w w' : World} (h : Keeps w w') {p : Addr} (hp : p.block < w.heap.size) : w'.cell? p = w.cell? p := World.cell?_of_block (w := w) (h.heap p.block hp)
theorem lt_of_cell {w : World} {a : Addr} {v : Value} (h : w.cell? a = some v) : a.block < w.heap.size := by
  rcases Nat.lt_or_ge a.block w.heap.size with h1 | h1
  · exact h1
  · have : w.heap[a.block]? = none := by simp [h1]
    simp [World.cell?, this] at h
theorem Keeps.cell_some {w w' : World} (h : Keeps w w') {p : Addr} {v : Value} (hp : w.cell? p = some v) : w'.cell? p = some v := by rw [h.cell (lt_of_cell hp)]; exact hp

/-- Structs of k cells each, one behind the other. -/
def RowK (k : Nat) (w : World) (b off : Nat) (cs : List (List Value)) : Prop := ∀ (j : Nat) c, cs[j]? = some c → ∀ (i : Nat) v, c[i]? = some v → w.cell? ⟨b, off + j * k + i, none⟩ = some v
/-- A slice of them. -/
def SliceAt (k : Nat) (w : World) (v : Value) (cs : List (List Value)) : Prop :=
  (cs = [] ∧ ∃ a c, v = .slice a 0 c) ∨ ∃ b off c, v = .slice (some ⟨b, off, none⟩) cs.length c ∧ cs.length ≤ c ∧ RowK k w b off cs
theorem RowK.keep {k : Nat} {w w' : World} {b off : Nat} {cs : List (List Value)} (h : RowK k w b off cs) (hk : Keeps w w') : RowK k w' b off cs := fun j c hj i v hi => hk.cell_some (h j c hj i v hi)
theorem SliceAt.keep {k : Nat} {w w' : World} {v : Value} {cs : List (List Value)} (h : SliceAt k w v cs) (hk : Keeps w w') : SliceAt k w' v cs := by
  rcases h with h | ⟨b, off, c, h1, h0, h2⟩
  · exact .inl h
  · exact .inr ⟨b, off, c, h1, h0, h2.keep hk⟩
theorem SliceAt.form {k : Nat} {w : World} {v : Value} {cs : List (List Value)} (h : SliceAt k w v cs) : ∃ a c, v = .slice a cs.length c := by
  rcases h with ⟨rfl, a, c, h⟩ | ⟨b, off, c, h, _, _⟩
  · exact ⟨a, c, h⟩
  · exact ⟨_, c, h⟩
/-- Where there is an element, there are its cells. -/
theorem SliceAt.at {k : Nat} {w : World} {v : Value} {cs : List (List Value)} (h : SliceAt k w v cs) {j : Nat} {c : List Value} (hj : cs[j]? = some c) :
    ∃ b off cap, v = .slice (some ⟨b, off, none⟩) cs.length cap ∧ ∀ (i : Nat) u, c[i]? = some u → w.cell? ⟨b, off + j * k + i, none⟩ = some u := by
  rcases h with ⟨rfl, _⟩ | ⟨b, off, cap, h1, _, h2⟩
  · cases hj
  · exact ⟨b, off, cap, h1, h2 j c hj⟩


/-- A slice without its first element. -/
theorem SliceAt.tail {k : Nat} (hk : 0 < k) {w : World} {b off c n : Nat} {x : List Value} {xs : List (List Value)} (h : SliceAt k w (.slice (some ⟨b, off, none⟩) n c) (x :: xs)) :
    n = xs.length + 1 ∧ (c = 1 → SliceAt k w (.slice (some ⟨b, off, none⟩) xs.length 0) xs) ∧ (¬ c = 1 → SliceAt k w (.slice (some ⟨b, off + k, none⟩) xs.length (c - 1)) xs) := by
  rcases h with ⟨h, _⟩ | ⟨b', off', c', h1, h2, h3⟩
  · cases h
  · cases h1
    simp only [List.length_cons] at h2
    refine ⟨rfl, fun hc => .inl ?_, fun hc => .inr ⟨b, off + k, c - 1, rfl, by omega, fun j y hj i v hi => ?_⟩⟩
    · have : xs = [] := List.eq_nil_of_length_eq_zero (by omega)
      exact ⟨this, _, _, by rw [this]; rfl⟩
    · have := h3 (j + 1) y (by simpa using hj) i v hi
      rw [show off + k + j * k + i = off + (j + 1) * k + i by rw [Nat.add_mul]; omega]
      exact this

/-! ## Old memory alone -/
/-- What was there is as it was; of new blocks nothing is said. -/
structure Old (w w' : World) : Prop where
  os : w'.os = w.os
  output : w'.output = w.output
  size : w.heap.size ≤ w'.heap.size
  heap : ∀ k, k < w.heap.size → w'.heap[k]? = w.heap[k]?
theorem Keeps.old {w w' : World} (h : Keeps w w') : Old w w' := ⟨h.os, h.output, h.size, h.heap⟩
theorem Old.keeps {w w' : World} (h : Old w w') : Keeps w w' := ⟨h.os, h.output, h.size, fun a ha => World.frozen?_of_block (w := w) (h.heap a.block ha), h.heap⟩
theorem Old.refl (w : World) : Old w w := ⟨rfl, rfl, Nat.le_refl _, fun _ _ => rfl⟩
theorem Old.trans {a b c : World} (h : Old a b) (k : Old b c) : Old a c :=
  ⟨k.os.trans h.os, k.output.trans h.output, Nat.le_trans h.size k.size, fun i hi => (k.heap i (Nat.lt_of_lt_of_le hi h.size)).trans (h.heap i hi)⟩
theorem Old.drew {a w : World} (h : Old a w) : Old a w.drew := ⟨h.os, h.output, h.size, h.heap⟩
theorem Old.alloc {a w : World} (h : Old a w) (o : Obj) : Old a (w.alloc o) :=
  h.trans ⟨rfl, rfl, by show w.heap.size ≤ (w.heap.push _).size; simp, fun k hk => Below.heap_alloc w _ k hk⟩
theorem Old.setCell {a w : World} (h : Old a w) {p : Addr} (hp : a.heap.size ≤ p.block) (u : Value) : Old a (w.setCell p u) :=
  ⟨h.os, h.output, by simpa [World.setCell] using h.size, fun k hk => (Below.heap_setCell w p u k (by omega)).trans (h.heap k hk)⟩
theorem Old.grown {a w w' : World} {row : Option Nat} (h : Old a w) (hg : w.grownBy w' row) (hr : ∀ k, row = some k → a.heap.size ≤ k) : Old a w' :=
  ⟨hg.os.trans h.os, hg.output.trans h.output, Nat.le_trans h.size hg.size, fun k hk => (hg.block k (Nat.lt_of_lt_of_le hk h.size) (fun e => by have := hr k e.symm; omega)).trans (h.heap k hk)⟩
theorem Old.cell {w w' : World} (h : Old w w') {p : Addr} (hp : p.block < w.heap.size) : w'.cell? p = w.cell? p := World.cell?_of_block (w := w) (h.heap p.block hp)
theorem Old.cell_some {w w' : World} (h : Old w w') {p : Addr} {v : Value} (hp : w.cell? p = some v) : w'.cell? p = some v := by rw [h.cell (lt_of_cell hp)]; exact hp
theorem Old.frozen {w w' : World} (h : Old w w') {p : Addr} (hp : p.block < w.heap.size) : w'.frozen? p = w.frozen? p := World.frozen?_of_block (w := w) (h.heap p.block hp)
theorem RowK.old {k : Nat} {w w' : World} {b off : Nat} {cs : List (List Value)} (h : RowK k w b off cs) (hk : Old w w') : RowK k w' b off cs := fun j c hj i v hi => hk.cell_some (h j c hj i v hi)
theorem SliceAt.old {k : Nat} {w w' : World} {v : Value} {cs : List (List Value)} (h : SliceAt k w v cs) (hk : Old w w') : SliceAt k w' v cs := by
  rcases h with h | ⟨b, off, c, h1, h0, h2⟩
  · exact .inl h
  · exact .inr ⟨b, off, c, h1, h0, h2.old hk⟩

end Go.Abs
end

section
/-
  tree.symbol; the closure that reads a tree's node.
-/
namespace Go.Pri
open Go Go.Abs Go.Proofs Go.RowKit Go.Lib

theorem results_cell1 {fn : Func} {p : Tmp} {ty : TypeId} (h : fn.results = #[.cell p ty]) (tmps : Array Value) (P : Program) (w : World) :
    (results fn tmps).run P w = ((asAddr (tmps.getD p undef)).run P w).andThen fun a w₁ => (loadVar ty a).run P w₁ := by
  simp only [results, h]
  simp [Sem.run_bind, Result.andThen]
  try (split <;> rfl)

set_option maxHeartbeats 1000000 in
theorem sym77 (c0 c1 c2 c3 c4 c5 c6 c7 c8 : Value) (ps : List (List Value)) (p tok : Int) (w : World) (hp : SliceAt 13 w c5 ps)
    (left : Int) (hl : 0 ≤ p → ∃ c, ps[p.toNat]? = some c ∧ c[1]? = some (.int .i64 left)) :
    Calls Tryz.prog 77 #[.agg #[c0, c1, c2, c3, c4, c5, c6, c7, c8], .int .i64 p, .int .i64 tok] w fun e w' =>
      e = .returned (if p < 0 then .agg #[.bool true, .int .i64 tok] else .agg #[.bool false, .int .i64 left]) ∧ Keeps w w' := by
  by_cases h : p < 0
  · rw [if_pos h]
    clear hl
    obtain ⟨a, c, rfl⟩ := hp.form
    clear hp
    go_enter Tryz.func77, Tryz.ntmps77
    go_wp2
    refine bodyPost_ret (v := .agg #[.bool true, .int .i64 tok]) ?_ rfl ⟨rfl, ((Keeps.refl w).alloc _ _).alloc _ _⟩
    rw [results_cell1 Tryz.results77]
    simp [go_sem]
  · rw [if_neg h]
    obtain ⟨c, hc, h1⟩ := hl (by omega)
    obtain ⟨b, off, cap, rfl, hcell⟩ := hp.at hc
    have k1 := hcell 1 _ h1
    have hlt : p.toNat < ps.length := (List.getElem?_eq_some_iff.1 hc).1
    have hb := lt_of_cell k1
    simp only at hb
    have n0 : b ≠ w.heap.size := by omega
    have n1 : b ≠ w.heap.size + 1 := by omega
    clear hp hl hcell
    go_enter Tryz.func77, Tryz.ntmps77
    go_wp2
    refine bodyPost_ret (v := .agg #[.bool false, .int .i64 left]) ?_ rfl ⟨rfl, ((Keeps.refl w).alloc _ _).alloc _ _⟩
    rw [results_cell1 Tryz.results77]
    simp [go_sem]
end Go.Pri
end

section
/-
  The ends of a tree's nodes: the machine, by itself.
-/
namespace Go.Pri
open Go Go.Abs

structure Nd where
  p : Int
  tok : Int
  fr : Int
  to : Int
abbrev Sym : Type := Bool × Int
def encN (x : Nd) : List Value := [.int .i64 x.p, .int .i64 x.tok, .int .i64 x.fr, .int .i64 x.to]
def encS (s : Sym) : List Value := [.bool s.1, .int .i64 s.2]
/-- A production: its nonterminal, its symbols. -/
abbrev Prod' : Type := Int × List Sym

def symOf (ps : List Prod') (x : Nd) : Sym := if x.p < 0 then (true, x.tok) else (false, ((ps[x.p.toNat]?).map (·.1)).getD 0)
def rightsOf (ps : List Prod') (x : Nd) : List Sym := if x.p < 0 then [] else ((ps[x.p.toNat]?).map (·.2)).getD []

abbrev Stk : Type := List (Nat × List Sym)
def settle (i : Nat) : Stk → List Int → Stk × List Int
  | [], out => ([], out)
  | (k, []) :: S, out => settle i S (out.set k (i + 1))
  | (k, r :: rs) :: S, out => ((k, r :: rs) :: S, out)
/-- The stack ahead of a node's push. -/
def ahead (ps : List Prod') (i : Nat) (x : Nd) : Stk → Option Stk
  | [] => if i = 0 then some [] else none
  | (_, []) :: _ => none
  | (k, r :: rs) :: S => if symOf ps x = r then some ((k, rs) :: S) else none
def stepE (ps : List Prod') (i : Nat) (x : Nd) (s : Stk × List Int) : Option (Stk × List Int) :=
  match ahead ps i x s.1 with
  | none => none
  | some S => some (settle i ((i, rightsOf ps x) :: S) s.2)
def runE (ps : List Prod') : List Nd → Nat → Stk × List Int → Option (Stk × List Int)
  | [], _, s => some s
  | x :: r, i, s => match stepE ps i x s with
    | none => none
    | some s => runE ps r (i + 1) s

theorem runE_step {ps : List Prod'} : ∀ {l : List Nd} {i : Nat} {s : Stk × List Int} {j : Nat} {x : Nd} {s' : Stk × List Int}, runE ps (l.take j) i s = some s' → l[j]? = some x → runE ps (l.take (j + 1)) i s = stepE ps (i + j) x s'
  | [], i, s, j, x, s', h, hx => by cases hx
  | y :: l, i, s, 0, x, s', h, hx => by
    simp only [List.take_zero, runE, Option.some.injEq] at h
    simp only [List.getElem?_cons_zero, Option.some.injEq] at hx
    subst h; subst hx
    simp only [Nat.zero_add, List.take_succ_cons, List.take_zero, runE, Nat.add_zero]
    cases stepE ps i y s <;> rfl
  | y :: l, i, s, j + 1, x, s', h, hx => by
    simp only [List.take_succ_cons, runE] at h ⊢
    cases hs : stepE ps i y s with
    | none => rw [hs] at h; cases h
    | some s1 =>
      rw [hs] at h
      have := runE_step (l := l) (i := i + 1) h (by simpa using hx)
      simp only at this ⊢
      rw [this]
      congr 1
      omega
/-- A run that ends well has a well defined state at each place. -/
theorem runE_prefix {ps : List Prod'} : ∀ {l : List Nd} {i : Nat} {s s' : Stk × List Int} (j : Nat), runE ps l i s = some s' → ∃ s1, runE ps (l.take j) i s = some s1
  | [], i, s, s', j, h => ⟨s, by simp [runE]⟩
  | y :: l, i, s, s', 0, h => ⟨s, by simp [runE]⟩
  | y :: l, i, s, s', j + 1, h => by
    simp only [List.take_succ_cons, runE] at h ⊢
    cases hs : stepE ps i y s with
    | none => rw [hs] at h; cases h
    | some s1 =>
      rw [hs] at h
      exact runE_prefix j h
end Go.Pri
end

section
/-
  An operation looks at its own slots alone; what reads, lays nothing.
-/
namespace Go.Abs
variable {e : Env}

def Same (t t' : Tr Value) (xs : List Operand) : Prop := ∀ d, Operand.tmp d ∈ xs → t.get d = t'.get d
theorem Same.sub {t t' : Tr Value} {xs ys : List Operand} (h : Same t t' ys) (hs : ∀ x ∈ xs, x ∈ ys) : Same t t' xs := fun d hd => h d (hs _ hd)

theorem opnd_congr {t t' : Tr Value} {o : Operand} {xs : List Operand} (h : Same t t' xs) (ho : o ∈ xs) : opnd e t o = opnd e t' o := by
  cases o with
  | tmp i => exact h i ho
  | _ => rfl

theorem opnds_congr {t t' : Tr Value} : ∀ {xs : List Operand}, Same t t' xs → opnds e t xs = opnds e t' xs
  | [], _ => rfl
  | o :: r, h => by
    simp only [opnds, opnd_congr (e := e) h (List.mem_cons_self ..), opnds_congr (xs := r) (h.sub fun x hx => List.mem_cons_of_mem _ hx)]

theorem partsA_congr {t t' : Tr Value} : ∀ {xs : List (Nat × Operand)}, Same t t' (xs.map (·.2)) → partsA e t xs = partsA e t' xs
  | [], _ => rfl
  | (i, o) :: r, h => by
    have h1 : Same t t' (o :: r.map (·.2)) := h
    simp only [partsA, opnd_congr (e := e) h1 (List.mem_cons_self ..), partsA_congr (xs := r) (h1.sub fun x hx => List.mem_cons_of_mem _ hx)]

theorem allocA_congr {t t' : Tr Value} {op : Op} (h : Same t t' op.operands.toList) : allocA e t op = allocA e t' op := by
  cases op with
  | box ty x => simp only [allocA, opnd_congr (e := e) h (o := x) (by simp [Op.operands])]
  | buildSlice st len parts =>
    have : Same t t' (parts.toList.map (·.2)) := h.sub fun x hx => by simpa [Op.operands] using hx
    simp only [allocA, partsA_congr (e := e) this]
  | makeSlice st l c => simp only [allocA, opnd_congr (e := e) h (o := l) (by simp [Op.operands]), opnd_congr (e := e) h (o := c) (by simp [Op.operands])]
  | makeMap t r => cases r <;> rfl
  | _ => rfl

theorem opA_congr {h : AHeap} {t t' : Tr Value} {op : Op} (hs : Same t t' op.operands.toList) : opA e h t op = opA e h t' op := by
  have O : ∀ o, o ∈ op.operands.toList → opnd e t o = opnd e t' o := fun o ho => opnd_congr hs ho
  have A := allocA_congr (e := e) hs
  cases op with
  | move x => simp only [opA, O x (by simp [Op.operands])]
  | assign x => simp only [opA, O x (by simp [Op.operands])]
  | pick c a b => simp only [opA, O c (by simp [Op.operands]), O a (by simp [Op.operands]), O b (by simp [Op.operands])]
  | build ty parts =>
    have : Same t t' (parts.toList.map (·.2)) := hs.sub fun x hx => by simpa [Op.operands] using hx
    simp only [opA, partsA_congr (e := e) this]
  | load ty a => simp only [opA, O a (by simp [Op.operands])]
  | store ty a x => simp only [opA, O a (by simp [Op.operands]), O x (by simp [Op.operands])]
  | nilCheck x => simp only [opA, O x (by simp [Op.operands])]
  | binOp op ty x y cp => simp only [opA, O x (by simp [Op.operands]), O y (by simp [Op.operands])]
  | unOp op ty x => simp only [opA, O x (by simp [Op.operands])]
  | convert s d x => simp only [opA, O x (by simp [Op.operands])]
  | makeInterface ty x => simp only [opA, O x (by simp [Op.operands])]
  | makeFunc fn first cap =>
    have h1 : Same t t' first.toList := hs.sub fun x hx => by simp [Op.operands]; exact .inl (by simpa using hx)
    have h2 : Same t t' cap.toList := hs.sub fun x hx => by simp [Op.operands]; exact .inr (by simpa using hx)
    cases fn <;> simp only [opA, opnds_congr (e := e) h1, opnds_congr (e := e) h2]
  | slice ty x lo hi mx =>
    have hx := O x (by simp [Op.operands])
    have hl : ∀ o, lo = some o → opnd e t o = opnd e t' o := fun o ho => O o (by simp [Op.operands, ho])
    have hh : ∀ o, hi = some o → opnd e t o = opnd e t' o := fun o ho => O o (by simp [Op.operands, ho])
    have hm : ∀ o, mx = some o → opnd e t o = opnd e t' o := fun o ho => O o (by simp [Op.operands, ho])
    simp only [opA, hx]
    cases lo <;> cases hi <;> cases mx <;> simp_all
  | fieldAddr s x f => simp only [opA, O x (by simp [Op.operands])]
  | field ty x f => simp only [opA, O x (by simp [Op.operands])]
  | indexAddr ty x ix => simp only [opA, O x (by simp [Op.operands]), O ix (by simp [Op.operands])]
  | index ty x ix => simp only [opA, O x (by simp [Op.operands]), O ix (by simp [Op.operands])]
  | lookup ty m k ok => simp only [opA, O m (by simp [Op.operands]), O k (by simp [Op.operands])]
  | mapUpdate ty m k v => simp only [opA, O m (by simp [Op.operands]), O k (by simp [Op.operands]), O v (by simp [Op.operands])]
  | insert ty m k v => simp only [opA, O m (by simp [Op.operands]), O k (by simp [Op.operands]), O v (by simp [Op.operands])]
  | range ty x => simp only [opA, O x (by simp [Op.operands])]
  | next it s => simp only [opA, O it (by simp [Op.operands])]
  | entry it => simp only [opA, O it (by simp [Op.operands])]
  | extract x i => simp only [opA, O x (by simp [Op.operands])]
  | call c =>
    have h1 : Same t t' c.args.toList := hs.sub fun x hx => by simp [Op.operands, Call.operands]; right; simpa using hx
    simp only [opA, callA, opnds_congr (e := e) h1]
    cases hc : c.callee with
    | value f =>
      have h2 : opnd e t f = opnd e t' f := O f (by simp [Op.operands, Call.operands, hc])
      simp only [h2]
    | _ => rfl
  | defer c =>
    have h1 : Same t t' c.args.toList := hs.sub fun x hx => by simp [Op.operands, Call.operands]; right; simpa using hx
    simp only [opA, opnds_congr (e := e) h1]
    cases hc : c.callee with
    | value f =>
      have h2 : opnd e t f = opnd e t' f := O f (by simp [Op.operands, Call.operands, hc])
      cases opnds e t' c.args.toList with
      | none => rfl
      | some args => simp only [h2]
    | _ => rfl
  | alloc _ => simp only [opA, A]
  | box _ _ => simp only [opA, A]
  | buildSlice _ _ _ => simp only [opA, A]
  | makeMap _ _ => simp only [opA, A]
  | makeSlice _ _ _ => simp only [opA, A]
  | _ => rfl

theorem map_val {h h' : AHeap} {x : Option Value} {v : Value} (hr : (x.map fun v => AR.val v h) = some (.val v h')) : h' = h := by
  obtain ⟨_, _, h2⟩ := of_map hr
  cases h2; rfl

/-- What reads lays nothing. -/
theorem read_heap {h h' : AHeap} {t : Tr Value} {op : Op} {v : Value} (hc : cls op = .read) (hr : opA e h t op = some (.val v h')) : h' = h := by
  cases op with
  | load ty a =>
    simp only [opA] at hr
    split at hr
    · cases hr
    · exact map_val hr
  | lookup ty m k ok =>
    simp only [opA] at hr
    split at hr
    · exact map_val hr
    · cases hr
  | entry it =>
    simp only [opA] at hr
    split at hr
    · cases hr
    · exact map_val hr
  | slice ty x lo hi mx =>
    simp only [opA] at hr
    split at hr
    · exact map_val hr
    · cases hr
  | call c =>
    simp only [cls] at hc
    simp only [opA, callA] at hr
    split at hr
    · cases hr
    · rename_i args _
      cases hcal : c.callee with
      | builtin b =>
        simp only [hcal] at hc hr
        split at hr
        · cases hc
        · cases hc
        · split at hr
          · cases hr
          · exact map_val hr
        · split at hr
          · cases hr
          · exact map_val hr
        · cases hp : args.all plain with
          | true => rw [hp] at hr; exact map_val hr
          | false => rw [hp] at hr; cases hr
        · cases hp : args.all plain with
          | true => rw [hp] at hr; exact map_val hr
          | false => rw [hp] at hr; cases hr
        · cases hr
      | value f => simp [hcal] at hc
      | invoke _ _ => simp [hcal] at hc
  | _ => simp [cls] at hc

/-- What looks at no memory. -/
theorem pure_heap {h h' : AHeap} {t : Tr Value} {op : Op} {v : Value} (hc : cls op = .pure) (hr : opA e h t op = some (.val v h')) (g : AHeap) : opA e g t op = some (.val v g) := by
  have M : ∀ {x : Option Value}, (x.map fun v => AR.val v h) = some (.val v h') → (x.map fun v => AR.val v g) = some (.val v g) := fun {x} hx => by
    obtain ⟨u, h1, h2⟩ := of_map hx
    cases h2; rw [h1]; rfl
  cases op with
  | move x => simp only [opA] at hr ⊢; exact M hr
  | assign x => simp only [opA] at hr ⊢; exact M hr
  | pick c a b =>
    simp only [opA] at hr ⊢
    split at hr
    · exact M hr
    · exact M hr
    · cases hr
  | build ty parts =>
    simp only [opA] at hr ⊢
    split at hr
    · cases hr
    · exact M hr
  | nilCheck x =>
    simp only [opA] at hr ⊢
    split at hr
    · cases hr; rfl
    · cases hr; rfl
    · cases hr
  | binOp op ty x y cp =>
    simp only [opA] at hr ⊢
    split at hr
    · exact M hr
    · cases hr
  | unOp op ty x =>
    simp only [opA] at hr ⊢
    split at hr
    · rename_i a _
      cases hp : plain a with
      | true => rw [hp] at hr; exact M hr
      | false => rw [hp] at hr; cases hr
    · cases hr
  | convert s d x =>
    simp only [opA] at hr ⊢
    split at hr
    · rename_i a _
      cases hp : plain a with
      | true => rw [hp] at hr; exact M hr
      | false => rw [hp] at hr; cases hr
    · cases hr
  | makeInterface ty x =>
    simp only [opA] at hr ⊢
    split at hr
    · cases hr
    · cases hr; rfl
    · cases hr
  | makeFunc fn first cap =>
    cases fn with
    | func f =>
      simp only [opA] at hr ⊢
      split at hr
      · cases hr; rfl
      · cases hr
    | _ => simp [opA] at hr
  | fieldAddr s x f =>
    simp only [opA] at hr ⊢
    split at hr
    · split at hr
      · rename_i hb _ size _
        cases hp : Nat.blt 0 size with
        | true => rw [hp] at hr; cases hr; rfl
        | false => rw [hp] at hr; cases hr
      · cases hr
    · cases hr
  | field ty x f =>
    simp only [opA] at hr ⊢
    split at hr
    · split at hr
      · cases hr
      · exact M hr
    · cases hr
  | indexAddr ty x ix =>
    simp only [opA] at hr ⊢
    split at hr
    · rename_i i len elem _ _ _
      split at hr
      · cases hr
      · cases hp : (decide (0 ≤ i) && decide (i < (len : Int))) with
        | true => rw [hp] at hr; cases hr; rfl
        | false => rw [hp] at hr; cases hr
    · rename_i len _ i elem _ _ _
      split at hr
      · cases hr
      · cases hp : (decide (0 ≤ i) && decide (i < (len : Int))) with
        | true => rw [hp] at hr; cases hr; rfl
        | false => rw [hp] at hr; cases hr
    · cases hr
  | index ty x ix =>
    simp only [opA] at hr ⊢
    split at hr
    · rename_i i len elem _ _ _
      split at hr
      · cases hr
      · cases hp : (decide (0 ≤ i) && decide (i < (len : Int))) with
        | true => rw [hp] at hr; exact M hr
        | false => rw [hp] at hr; cases hr
    · exact M hr
    · cases hr
  | extract x i =>
    simp only [opA] at hr ⊢
    split at hr
    · exact M hr
    · cases hr
  | call c =>
    simp only [cls] at hc
    split at hc <;> cases hc
  | _ => simp [cls] at hc

/-! ## The same values -/
theorem eqVN_eq : ∀ (n : Nat) (a b : Value), eqVN n a b = true → a = b
  | 0, _, _, h => by simp [eqVN] at h
  | n + 1, a, b, h => by
    have L : ∀ x y : List Value, eqVN.eqLN n x y = true → x = y := by
      intro x
      induction x with
      | nil => intro y hy; cases y <;> simp_all [eqVN.eqLN]
      | cons a x ih =>
        intro y hy
        cases y with
        | nil => simp [eqVN.eqLN] at hy
        | cons b y =>
          simp only [eqVN.eqLN, Bool.and_eq_true] at hy
          rw [eqVN_eq n a b hy.1, ih y hy.2]
    have A : ∀ x y : Array Value, eqVN.eqLN n x.toList y.toList = true → x = y := fun x y hxy => Array.toList_inj.1 (L _ _ hxy)
    cases a <;> cases b <;> simp only [eqVN, Bool.and_eq_true, decide_eq_true_eq, beq_iff_eq, Bool.false_eq_true, reduceCtorEq] at h <;> first
      | (subst h; rfl)
      | (obtain ⟨h1, h2⟩ := h; subst h1; subst h2; rfl)
      | (obtain ⟨⟨h1, h2⟩, h3⟩ := h; subst h1; rw [Nat.eq_of_beq_eq_true h2, Nat.eq_of_beq_eq_true h3])
      | (obtain ⟨h1, h2⟩ := h; subst h1; rw [eqVN_eq n _ _ h2])
      | (rw [A _ _ h])
      | (obtain ⟨⟨h1, h2⟩, h3⟩ := h; subst h1; rw [A _ _ h2, A _ _ h3])
      | rfl

end Go.Abs
end

section
/-
  A law that only lays new blocks: its row's end, in one term.
-/
namespace Go.Abs
open Go.ChangeShapes Go.WideShapes Go.ChangeAt Go.RowKit

theorem Keeps.same {W w' : World} (h : Keeps W w') {p : MemPlace} (hp : p.block < W.heap.size) : W.sameAt w' p := by
  cases p with
  | cell b o => exact World.cell?_of_block (w := W) (h.heap b hp)
  | map b => exact h.heap b hp
theorem Keeps.frame {W w' : World} (h : Keeps W w') (may : MemPlace → Prop) : W.keptBut w' may := by
  refine ⟨h.os, h.output, fun i hi => ?_⟩
  rw [h.heap i hi]
  split <;> simp_all

section
variable {H : Type} {enc : TypeId × Value → H} {P : Program}
theorem all_stays (hl : laidOutB P = true) {W W' : World} (hk : Keeps W W') {sp : Nat → Bool} : ∀ {ts : List TypeId} {vs : List Value} {ds : List (DataW H)} {ps : List MemPlace}, (∀ t ∈ ts, P.readableRec t = true ∧ t < P.types.size) →
    DataW.TrodAll enc P W 0 (fun _ => true) true ts vs ds ps → (∀ x ∈ ps, x.block < W.heap.size) → (∀ x ∈ ps, sp x.block = true) → DataW.TrodAll enc P W' 0 sp true ts vs ds ps
  | [], [], [], _, _, h, _, _ => h
  | [], [], _ :: _, _, _, h, _, _ => h.elim
  | [], _ :: _, _, _, _, h, _, _ => by cases h
  | _ :: _, [], _, _, _, h, _, _ => by cases h
  | _ :: _, _ :: _, [], _, _, h, _, _ => by cases h
  | t :: ts, v :: vs, d :: ds, ps, hT, ⟨p, q, h1, h2, e⟩, hlt, hsp => by
    have ht := hT t (List.mem_cons_self ..)
    refine ⟨p, q, WideElems.Trod_stays hl ht.1 ht.2 h1 (fun x hx => hk.same (hlt x (by rw [e]; simp [hx]))) (fun x hx => hsp x (by rw [e]; simp [hx])), ?_, e⟩
    exact all_stays hl hk (fun u hu => hT u (List.mem_cons_of_mem _ hu)) h2 (fun x hx => hlt x (by rw [e]; simp [hx])) (fun x hx => hsp x (by rw [e]; simp [hx]))

/-- THE ROW's END: true; every argument reads as it did. -/
theorem post_law {f : Func} {s : ChangeSpec} {apart fresh handsOn again : Bool} {W W' : World} {args : Array Value} {ds gs : List (DataW H)} {before : List MemPlace} {tb : TypeId}
    (hW : DataW.Whole enc P f.params.toList s.vars apart W args.toList ds gs before) (hvars : s.vars = [])
    (hr : (s.fn H (ds ++ gs)).results = [.lit (.bool true)]) (ha : (s.fn H (ds ++ gs)).args = ds) (hv : (s.fn H (ds ++ gs)).vars = [])
    (hl : laidOutB P = true) (hT : ∀ t ∈ f.params.toList, P.readableRec t = true ∧ t < P.types.size) (hres : f.resultTypes = #[tb]) (hb : P.underlying tb = some .bool) (hk : Keeps W W') :
    s.post enc P f apart fresh handsOn again W args (.bool true) W' := by
  have hW' := hW
  obtain ⟨p, q, hA, hV, e, hfz, hnd⟩ := hW
  rw [hvars] at hV
  obtain ⟨rfl, rfl⟩ := trodVars_none hV
  rw [List.append_nil] at e
  subst e
  have hlt : ∀ x ∈ before, x.block < W.heap.size := fun x hx => hW'.lt x hx
  have hargs : ∀ sp : Nat → Bool, (∀ x ∈ before, sp x.block = true) → DataW.TrodAll enc P W' 0 sp true f.params.toList args.toList (s.fn H (ds ++ [])).args before := fun sp hsp => by
    rw [ha]
    exact all_stays hl hk hT hA hlt hsp
  have hvs : ∀ sp : Nat → Bool, DataW.TrodVars enc P W' sp s.vars (s.fn H (ds ++ [])).vars [] := fun sp => by
    rw [hv, hvars]
    rfl
  have hr' : ∀ (b : Nat) (sp : Nat → Bool) (hd : Bool), DataW.TrodAll enc P W' b sp hd f.resultTypes.toList (Value.resultList f.resultTypes.size (.bool true)) (s.fn H (ds ++ [])).results [] := fun b sp hd => by
    rw [hr, hres]
    exact trodAll_cons_mk (shut_bool hb _) trodAll_mk0
  have hin : ∀ x ∈ before, (fun b => decide (b < W.heap.size)) x.block = true := fun x hx => by simpa using hlt x hx
  refine ⟨ds, [], before, [], before, [], hW', hr' _ _ _, hargs _ hin, hvs _, hk.frame _, fun _ => ⟨ok_one hres rfl (okWide_bool_mk hb _), _, _, [] ++ before ++ [],
    ⟨[] ++ before, [], trodAll_append (hargs _ (fun _ _ => rfl)) (hr' _ _ _), hvs _, rfl, fun b off hp => ?_, fun hd => ?_⟩, fun x hx _ => by simpa using hx⟩⟩
  · have hp' : MemPlace.cell b off ∈ before := by simpa using hp
    exact (hk.frozen _ (hlt _ hp')).trans (hfz b off (by simpa using hp'))
  · simpa using hnd hd
end
end Go.Abs
end

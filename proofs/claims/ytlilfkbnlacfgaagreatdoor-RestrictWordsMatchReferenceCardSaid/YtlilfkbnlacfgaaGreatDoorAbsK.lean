/-
  Steps of a region in the order of the text.
-/
import Derived.Test.YtlilfkbnlacfgaaGreatDoorAbsJ
import Derived.RangeFuncLeaves
namespace Go.Abs
variable {e : Env}

def FF (ro : Option Nat) : Fence := { Fence.wide with round := ro }
theorem FF_room (ro : Option Nat) (n : Nat) : (FF ro).room n := fun _ h => by simp [FF, Fence.wide] at h
theorem FF_depth (ro : Option Nat) (n : Nat) : (FF ro).depth.isSome = true → 1 ≤ n := fun h => by simp [FF, Fence.wide] at h
theorem FF_fn (ro : Option Nat) (f : FuncId) : (FF ro).fn f := trivial
theorem FF_in (ro : Option Nat) (l : Nat) : (FF ro).inRound l = FF (some l) := rfl
theorem callsIn_FF {ro : Option Nat} {n : Nat} {P : Program} {f : FuncId} {args : Array Value} {w : World} {R : Ending → World → Prop} (h : Calls P f args w R) : CallsIn (FF ro) n P f args w R := by
  have := callsIn_wide (n := n).2 h
  exact this

inductive DefRel (ρ : Inj) : Deferred → Deferred → Prop
  | fn {g : FuncId} {cap cap' args args' : Array Value} : VsRel ρ cap.toList cap'.toList → VsRel ρ args.toList args'.toList → DefRel ρ { target := .fn (.func g) cap, args } { target := .fn (.func g) cap', args := args' }
  | mark {r : Nat} {pl : Pl} : ρ r = some pl → DefRel ρ { target := .collected r, args := #[] } { target := .collected pl.blk, args := #[] }
theorem DefRel.mono {ρ ρ' : Inj} (hx : Ext ρ ρ') {d d' : Deferred} (h : DefRel ρ d d') : DefRel ρ' d d' := by
  cases h with
  | fn h1 h2 => exact .fn (h1.mono hx) (h2.mono hx)
  | mark h => exact .mark (hx _ _ h)

structure SRel (e : Env) (ρ : Inj) (s : ASt) (a : Act) (w : World) : Prop where
  g : Gl e ρ
  t : TRel ρ s.t s.n a.tmps
  d : All2 (DefRel ρ) s.ds a.defers
  m : WRel ρ s.h w

inductive RoRel (ρ : Inj) : Option Nat → Option Nat → Prop
  | none : RoRel ρ none none
  | some {l : Nat} {pl : Pl} : ρ l = some pl → RoRel ρ (some l) (some pl.blk)
theorem RoRel.mono {ρ ρ' : Inj} (hx : Ext ρ ρ') {a b : Option Nat} (h : RoRel ρ a b) : RoRel ρ' a b := by
  cases h with
  | none => exact .none
  | some h => exact .some (hx _ _ h)

def CallOK (e : Env) (cf : CallF) : Prop := ∀ f args h v h', cf f args h = some (v, h') → (∃ fn, e.fn f = some fn) ∧ ∀ ρ w (args' : Array Value), Gl e ρ → VsRel ρ args args'.toList → WRel ρ h w →
  Calls e.P f args' w fun en w' => ∃ v' ρ', en = .returned v' ∧ VRel ρ' v v' ∧ WRel ρ' h' w' ∧ Fr h.next ρ h w ρ' h' w'

def RoundOK (e : Env) (rf : RoundF) : Prop := ∀ l args h v h', rf l args h = some (v, h') → ∀ ρ w (args' : Array Value) pl, Gl e ρ → ρ l = some pl → VsRel ρ args args'.toList → WRel ρ h w →
  ∃ fn tmps assign body, (Instr.yield pl.blk args').run e.P w = .ok (.round pl.blk fn tmps assign body) w ∧
    ∀ ro n, RoundIn (FF ro) n e.P pl.blk fn tmps assign body w fun en w' => ∃ v' ρ', en = .returned v' ∧ VRel ρ' v v' ∧ WRel ρ' h' w' ∧ Fr h.next ρ h w ρ' h' w'

theorem TRel.set {ρ : Inj} {t : Tr Value} {n : Nat} {a : Array Value} (h : TRel ρ t n a) {d : Nat} (hd : d < n) {v v' : Value} (hv : VRel ρ v v') : TRel ρ (t.set d (some v)) n (a.setIfInBounds d v') := by
  refine ⟨by simpa using h.1, fun i u hu => ?_⟩
  rw [Tr.get_set] at hu
  by_cases hi : i = d
  · rw [if_pos hi] at hu; cases hu; subst hi
    refine ⟨hd, ?_⟩
    have : i < a.size := by rw [h.1]; exact hd
    simp only [Array.getD_eq_getD_getElem?, Array.getElem?_setIfInBounds, if_true, this, Option.getD_some]
    exact hv
  · rw [if_neg hi] at hu
    obtain ⟨h1, h2⟩ := h.2 i u hu
    refine ⟨h1, ?_⟩
    simp only [Array.getD_eq_getD_getElem?, Array.getElem?_setIfInBounds, Ne.symm hi, if_false] at h2 ⊢
    exact h2

theorem put_rel {ρ : Inj} {s s' : ASt} {a : Act} {w : World} (x : SRel e ρ s a w) {dst : Option Tmp} {v v' : Value} (hp : putA s dst v = some s') (hv : VRel ρ v v') : SRel e ρ s' (a.put dst v') w ∧ s'.h = s.h := by
  cases dst with
  | none =>
    simp only [putA_def, Option.some.injEq] at hp
    subst hp
    exact ⟨x, rfl⟩
  | some d =>
    simp only [putA_def] at hp
    obtain ⟨hb, hp⟩ := of_bif hp
    cases hp
    exact ⟨⟨x.g, x.t.set (Nat.le_of_ble_eq_true hb) hv, x.d, x.m⟩, rfl⟩

theorem undef_rel (ρ : Inj) : VRel ρ undef undef := VRel.tuple_iff.2 .nil

theorem SRel.with {ρ ρ' : Inj} {s : ASt} {a : Act} {w w' : World} {h' : AHeap} {b : Nat} (x : SRel e ρ s a w) (m : WRel ρ' h' w') (f : Fr b ρ s.h w ρ' h' w') : SRel e ρ' { s with h := h' } a w' :=
  ⟨x.g.mono f.ext, x.t.mono f.ext, x.d.mono fun _ _ => DefRel.mono f.ext, m⟩

theorem defer_only {h : AHeap} {t : Tr Value} {c : Call} {r : AR} (hr : opA e h t (.defer c) = some r) : ∃ f args cap h', r = .defer f args cap h' := by
  simp only [opA] at hr
  split at hr
  · split at hr
    · cases hr; exact ⟨_, _, _, _, rfl⟩
    · cases hr
  · cases hr

theorem step_wp (he : e.Ok) {cf : CallF} {rf : RoundF} (hcf : CallOK e cf) (hrf : RoundOK e rf) {ro roc : Option Nat} {o : Oper} {s s' : ASt} (h : stepA e cf rf ro o s = some s') {ρ : Inj} {a : Act} {w : World} (x : SRel e ρ s a w)
    (hro : RoRel ρ ro roc) (n : Nat) {next : Act → World → Prop} {Q : Exit → Act → World → Prop} (hnext : ∀ a' w' ρ', SRel e ρ' s' a' w' → Fr s.h.next ρ s.h w ρ' s'.h w' → next a' w') :
    o.wpIn (FF roc) n e.P a w next Q := by
  rw [stepA_def] at h
  cases hr : opA e s.h s.t o.op with
  | none => simp [hr] at h
  | some r =>
    have key := op_rel he (ds := a.defers) x.g x.t x.m hr
    have ha : (Act.mk a.tmps a.defers) = a := rfl
    rw [ha] at key
    have hsem : (∀ f args cap h', r ≠ .defer f args cap h') → Oper.semAt (FF roc).round a.eval o = execOp a.eval o := fun hne => by
      refine Oper.semAt_eq _ _ _ fun c hc => ?_
      rw [hc] at hr
      obtain ⟨f, args, cap, h', hrr⟩ := defer_only hr
      exact hne f args cap h' hrr
    simp only [hr] at h
    refine ⟨fun f _ => trivial, ?_⟩
    cases r with
    | val v h1 =>
      obtain ⟨v', w', ρ', k1, k2, k3, k4⟩ := key
      rw [hsem (fun _ _ _ _ h => by cases h), k1, Oper.uponIn_value]
      obtain ⟨p1, p2⟩ := put_rel (x.with k3 k4) h k2
      exact hnext _ _ _ p1 (by rw [p2]; exact k4)
    | skip h1 =>
      obtain ⟨w', ρ', k1, k3, k4⟩ := key
      rw [hsem (fun _ _ _ _ h => by cases h), k1, Oper.uponIn_skip]
      obtain ⟨p1, p2⟩ := put_rel (x.with k3 k4) h (undef_rel _)
      exact hnext _ _ _ p1 (by rw [p2]; exact k4)
    | enter f args h1 =>
      obtain ⟨rfl, args', k1, k2⟩ := key
      simp only at h
      cases hc : cf f args s.h with
      | none => simp [hc] at h
      | some r2 =>
        obtain ⟨v, h2⟩ := r2
        simp only [hc] at h
        obtain ⟨⟨fn, hfn⟩, hcall⟩ := hcf f args s.h v h2 hc
        rw [hsem (fun _ _ _ _ h => by cases h), k2 fn hfn, Oper.uponIn_enter]
        refine ⟨FF_depth _ _, callsIn_FF ((hcall ρ w args' x.g k1 x.m).mono ?_)⟩
        rintro en w' ⟨v', ρ', rfl, q1, q2, q3⟩
        obtain ⟨p1, p2⟩ := put_rel (x.with q2 q3) h q1
        exact hnext _ _ _ p1 (by rw [p2]; exact q3)
    | round l args h1 =>
      obtain ⟨rfl, pl, args', hp, k1, k2⟩ := key
      simp only at h
      cases hc : rf l args s.h with
      | none => simp [hc] at h
      | some r2 =>
        obtain ⟨v, h2⟩ := r2
        simp only [hc] at h
        obtain ⟨fn, tmps, assign, body, g1, g2⟩ := hrf l args s.h v h2 hc ρ w args' pl x.g hp k1 x.m
        rw [hsem (fun _ _ _ _ h => by cases h), k2, g1, Oper.uponIn_round]
        refine ⟨FF_depth _ _, (g2 roc (n - 1)).mono ?_⟩
        rintro en w' ⟨v', ρ', rfl, q1, q2, q3⟩
        obtain ⟨p1, p2⟩ := put_rel (x.with q2 q3) h q1
        exact hnext _ _ _ p1 (by rw [p2]; exact q3)
    | defer f args cap h1 =>
      obtain ⟨rfl, args', cap', k1, k2, k3⟩ := key
      cases hro with
      | some _ => simp at h
      | none =>
        simp only at h
        have : Oper.semAt (FF none).round a.eval o = execOp a.eval o := Oper.semAt_none _ _
        rw [this, k3, Oper.uponIn_defer]
        have x' : SRel e ρ { s with ds := { target := .fn (.func f) cap.toArray, args := args.toArray } :: s.ds } { a with defers := { target := .fn (.func f) cap', args := args' } :: a.defers } w :=
          ⟨x.g, x.t, .cons (.fn (by simpa using k2) (by simpa using k1)) x.d, x.m⟩
        obtain ⟨p1, p2⟩ := put_rel x' h (undef_rel _)
        exact hnext _ _ _ p1 (by rw [p2]; exact Fr.refl _ _ _ _)

theorem wanted_rel {ops : Array Oper} {s : ASt} {o : Oper} {b : Bool} (h : wantedA ops.toList s o = some b) {ρ : Inj} {a : Act} {w : World} (x : SRel e ρ s a w) : Region.wanted o (yielded ops a.tmps) = b := by
  unfold wantedA at h
  unfold Region.wanted
  cases hg : o.guard with
  | none => simp only [hg, Option.some.injEq] at h; exact h
  | some jw =>
    obtain ⟨j, want⟩ := jw
    simp only [hg] at h ⊢
    have hj : ops.toList[j]? = ops[j]? := by simp
    rw [hj] at h
    cases hd : (ops[j]?).bind (·.dst) with
    | none => simp [hd] at h
    | some d =>
      simp only [hd] at h
      cases ht : s.t.get d with
      | none => simp [ht] at h
      | some v =>
        obtain ⟨k1, k2⟩ := x.t.2 d v ht
        have hsz : d < a.tmps.size := by rw [x.t.1]; exact k1
        have hget : a.tmps[d]? = some (a.tmps.getD d undef) := by
          rw [Array.getD_eq_getD_getElem?, Array.getElem?_eq_getElem hsz]; rfl
        unfold yielded
        rw [hd]
        simp only [Option.bind_some, hget]
        generalize a.tmps.getD d undef = u at k2
        simp only [ht] at h
        cases v with
        | bool q =>
          have := k2.bool_l; subst this
          simp only [Option.some.injEq] at h
          rw [← h]
          cases q <;> cases want <;> rfl
        | tuple vs =>
          obtain ⟨vs', rfl, _⟩ := k2.tuple_l
          simp only [Option.some.injEq] at h
          rw [← h]
          rfl
        | _ => cases h

theorem ops_wp (he : e.Ok) {cf : CallF} {rf : RoundF} (hcf : CallOK e cf) (hrf : RoundOK e rf) {ro roc : Option Nat} (ops : Array Oper) (n : Nat) (Q : Exit → Act → World → Prop) :
    ∀ (k : Nat) (s s' : ASt) (ρ : Inj) (a : Act) (w : World), opsA e cf rf ro ops.toList (ops.toList.drop k) s = some s' → SRel e ρ s a w → RoRel ρ ro roc →
      (∀ a' w' ρ', SRel e ρ' s' a' w' → Fr s.h.next ρ s.h w ρ' s'.h w' → Q .normal a' w') → wpOpsIn (FF roc) n e.P ops Q ((List.range ops.size).drop k) a w := by
  intro k
  generalize hl : ops.toList.drop k = l
  induction l generalizing k with
  | nil =>
    intro s s' ρ a w h x _ hQ
    have hk : ops.size ≤ k := by
      have := congrArg List.length hl
      simp at this
      omega
    rw [List.drop_eq_nil_of_le (by simpa using hk)]
    simp only [opsA, Option.some.injEq] at h
    subst h
    exact hQ a w ρ x (Fr.refl _ _ _ _)
  | cons o r ih =>
    intro s s' ρ a w h x hro hQ
    have hk : k < ops.size := by
      rcases Nat.lt_or_ge k ops.size with h | h
      · exact h
      · rw [List.drop_eq_nil_of_le (by simpa using h)] at hl; cases hl
    have hko : ops[k]? = some o := by
      have : (ops.toList.drop k)[0]? = some o := by rw [hl]; rfl
      simpa [List.getElem?_drop] using this
    have hr : ops.toList.drop (k + 1) = r := by rw [← List.drop_drop, hl]; rfl
    have hrange : (List.range ops.size).drop k = k :: (List.range ops.size).drop (k + 1) := by
      rw [List.drop_eq_getElem_cons (by simpa using hk)]; simp
    rw [hrange]
    simp only [opsA] at h
    simp only [wpOpsIn, hko]
    cases hw : wantedA ops.toList s o with
    | none => simp [hw] at h
    | some b =>
      rw [wanted_rel hw x]
      cases b with
      | true =>
        simp only [hw] at h
        cases hs : stepA e cf rf ro o s with
        | none => simp [hs] at h
        | some s1 =>
          simp only [hs] at h
          rw [if_pos rfl]
          refine step_wp he hcf hrf hs x hro n fun a1 w1 ρ1 x1 f1 => ?_
          refine ih (k + 1) hr s1 s' ρ1 a1 w1 h x1 (hro.mono f1.ext) fun a2 w2 ρ2 x2 f2 => ?_
          exact hQ a2 w2 ρ2 x2 (f1.trans (f2.mono f1.next))
      | false =>
        simp only [hw] at h
        cases hs : putA s o.dst undef with
        | none => simp [hs] at h
        | some s1 =>
          simp only [hs] at h
          rw [if_neg (by simp)]
          refine ⟨fun f _ => trivial, ?_⟩
          obtain ⟨p1, p2⟩ := put_rel x hs (undef_rel _)
          refine ih (k + 1) hr s1 s' ρ _ w h p1 hro fun a2 w2 ρ2 x2 f2 => ?_
          rw [p2] at f2
          exact hQ a2 w2 ρ2 x2 f2

end Go.Abs

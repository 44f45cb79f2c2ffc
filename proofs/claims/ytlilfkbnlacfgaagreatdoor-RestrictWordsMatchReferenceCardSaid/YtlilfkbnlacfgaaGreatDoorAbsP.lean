/-
  What is known of a program, off its tables; calls known ahead.
-/
import Derived.Test.YtlilfkbnlacfgaaGreatDoorAbsL6
namespace Go.Abs

theorem ofList_get' {α : Type} : ∀ (l : List α) (i : Nat) (t : Tr α) (j : Nat), (Tr.ofList l i t).get j = if i ≤ j ∧ j < i + l.length then l[j - i]? else t.get j
  | [], i, t, j => by
    simp only [Tr.ofList, List.length_nil, Nat.add_zero]
    rw [if_neg (by omega)]
  | a :: l, i, t, j => by
    simp only [Tr.ofList, ofList_get' l (i + 1), Tr.get_set, List.length_cons]
    by_cases h1 : i + 1 ≤ j ∧ j < i + 1 + l.length
    · rw [if_pos h1, if_pos (by omega)]
      have : j - i = (j - (i + 1)) + 1 := by omega
      rw [this]; rfl
    · rw [if_neg h1]
      by_cases h2 : j = i
      · subst h2
        rw [if_pos rfl, if_pos (by omega)]; simp
      · rw [if_neg h2, if_neg (by omega)]

theorem table_get {α : Type} (a : Array α) (j : Nat) : (Tr.ofList a.toList 0 .nil).get j = a[j]? := by
  rw [ofList_get']
  by_cases h : 0 ≤ j ∧ j < 0 + a.toList.length
  · rw [if_pos h]; simp
  · rw [if_neg h, Tr.get_nil]
    have : a.size ≤ j := by simp at h; omega
    simp [this]

/-- The program's own tables, as tries. -/
noncomputable def tabUnder (tt : Tr TypeInfo) (t : Nat) : Option TypeDesc :=
  match tt.get t with
  | none => none
  | some i => match i.desc with
    | .named _ u => match tt.get u with
      | none => none
      | some j => some j.desc
    | d => some d
noncomputable def tabSize (tt : Tr TypeInfo) (t : Nat) : Option Nat :=
  match tt.get t with
  | none => none
  | some i => some i.size
noncomputable def tabBytes (tt : Tr TypeInfo) (t : Nat) : Option Nat :=
  match tt.get t with
  | none => none
  | some i => some i.bytes
noncomputable def tabZero (tt : Tr TypeInfo) (t : Nat) : Option Value :=
  match tt.get t with
  | none => none
  | some i => match i.zero with
    | none => none
    | some z => bif plain z then some z else none
noncomputable def tabFn (ft : Tr Func) (f : Nat) : Option Func :=
  match ft.get f with
  | none => none
  | some fn => match fn.body with
    | none => none
    | some _ => some fn

noncomputable def envOf (P : Program) (tt : Tr TypeInfo) (ft : Tr Func) (idle : Nat → Bool) (globs : Nat) (memo : Nat → List Value → AHeap → Option Value) : Env :=
  { P, under := tabUnder tt, size := tabSize tt, bytes := tabBytes tt, zero := tabZero tt, fn := tabFn ft, idle, globs, memo }

/-- What is looked over once: a struct's fields have sizes; no function bears the one name that is not called. -/
noncomputable def fieldsOk (tt : Tr TypeInfo) (l : List TypeInfo) : Bool :=
  l.all fun i => match i.desc with
    | .struct fs => fs.toList.all fun f => (tt.get f.type).isSome
    | _ => true
def namesOk (l : List Func) : Bool := l.all fun fn => !(fn.name == "runtime.NumGoroutine")

theorem envOf_ok {P : Program} {tt : Tr TypeInfo} {ft : Tr Func} (idle : Nat → Bool) (globs : Nat) (memo : Nat → List Value → AHeap → Option Value) (ht : tt = Tr.ofList P.types.toList 0 .nil) (hf : ft = Tr.ofList P.funcs.toList 0 .nil)
    (hfields : fieldsOk tt P.types.toList = true) (hnames : namesOk P.funcs.toList = true) : (envOf P tt ft idle globs memo).Ok := by
  have gi : ∀ t i, tt.get t = some i → P.types[t]? = some i := fun t i h => by rw [ht, table_get] at h; exact h
  have inf : ∀ t i, tt.get t = some i → P.info? t = some i := fun t i h => by
    have h1 := gi t i h
    have hl := (Array.getElem?_eq_some_iff.1 h1).1
    show P.toTables.info? t = some i
    unfold Tables.info?
    rw [if_pos hl]; exact h1
  have gf : ∀ f fn, ft.get f = some fn → P.funcs[f]? = some fn := fun f fn h => by rw [hf, table_get] at h; exact h
  refine ⟨fun t d h => ?_, fun t n h => ?_, fun t n h => ?_, fun t z h => ?_, fun t fs h f hfm => ?_, fun f fn h => ?_⟩
  · show P.underlying t = some d
    simp only [envOf, tabUnder] at h
    unfold Program.underlying
    cases hi : tt.get t with
    | none => simp [hi] at h
    | some i =>
      simp only [hi] at h
      rw [inf t i hi]
      obtain ⟨desc, sz, bt, zv, nm⟩ := i
      simp only at h
      split at h
      · rename_i u hd
        split at h
        · cases h
        · rename_i j hj
          cases h
          simp [inf _ _ hj]
      · rename_i hd
        cases h
        split
        · rename_i u _ heq
          exact absurd (by cases heq; rfl) (hd _ _)
        · rename_i j heq; cases heq; rfl
        · rename_i heq; cases heq
  · simp only [envOf, tabSize] at h
    cases hi : tt.get t with
    | none => simp [hi] at h
    | some i => simp only [hi, Option.some.injEq] at h; exact ⟨i, inf t i hi, h⟩
  · simp only [envOf, tabBytes] at h
    cases hi : tt.get t with
    | none => simp [hi] at h
    | some i => simp only [hi, Option.some.injEq] at h; exact ⟨i, inf t i hi, h⟩
  · simp only [envOf, tabZero] at h
    cases hi : tt.get t with
    | none => simp [hi] at h
    | some i =>
      simp only [hi] at h
      cases hz : i.zero with
      | none => simp [hz] at h
      | some z' =>
        simp only [hz] at h
        obtain ⟨h1, h2⟩ := of_bif h
        cases h2
        exact ⟨i, inf t i hi, hz, h1⟩
  · simp only [envOf, tabUnder] at h
    have key : ∀ k i, tt.get k = some i → i.desc = .struct fs → ∃ n, tabSize tt f.type = some n := fun k i hk hd => by
      have hm : i ∈ P.types.toList := by
        have := gi k i hk
        exact List.mem_of_getElem? (i := k) (by simpa using this)
      have := List.all_eq_true.1 hfields i hm
      rw [hd] at this
      have := List.all_eq_true.1 this f hfm
      cases hx : tt.get f.type with
      | none => rw [hx] at this; cases this
      | some j => exact ⟨j.size, by simp only [tabSize, hx]⟩
    cases hi : tt.get t with
    | none => simp [hi] at h
    | some i =>
      simp only [hi] at h
      split at h
      · split at h
        · cases h
        · rename_i j hj
          simp only [Option.some.injEq] at h
          exact key _ j hj h
      · simp only [Option.some.injEq] at h
        exact key t i hi h
  · simp only [envOf, tabFn] at h
    cases hi : ft.get f with
    | none => simp [hi] at h
    | some g =>
      simp only [hi] at h
      cases hb : g.body with
      | none => simp [hb] at h
      | some c =>
        simp only [hb, Option.some.injEq] at h
        subst h
        refine ⟨gf f g hi, fun args w => ?_⟩
        have hm : g ∈ P.funcs.toList := List.mem_of_getElem? (i := f) (by simpa using gf f g hi)
        have hn := List.all_eq_true.1 hnames g hm
        simp only [Bool.not_eq_true'] at hn
        simp only [callFunc, Sem.run_bind, run_program, Result.andThen_ok, envOf, gf f g hi, hn, hb]
        rfl

/-! ## Calls known ahead -/
structure Known where
  f : Nat
  args : List Value
  rows : List (Nat × List Value × Nat)
  res : Value
  top : Nat

noncomputable def rowsAt (h : AHeap) : List (Nat × List Value × Nat) → Bool
  | [] => true
  | (i, cs, esz) :: r => match h.get i with
    | some (.row cs' _ esz') => Nat.beq esz' esz && (eqVN.eqLN 6 cs' cs && rowsAt h r)
    | _ => false

noncomputable def knownAt (k : Known) (f : Nat) (args : List Value) (h : AHeap) : Bool :=
  Nat.beq f k.f && (eqVN.eqLN 6 args k.args && (Nat.ble h.next k.top && rowsAt h k.rows))

noncomputable def memoOf : List Known → Nat → List Value → AHeap → Option Value
  | [], _, _, _ => none
  | k :: r, f, args, h => bif Nat.beq f k.f then (bif knownAt k f args h then some k.res else memoOf r f args h) else memoOf r f args h

noncomputable def rowsMap : List (Nat × List Value × Nat) → Tr AObj
  | [] => .nil
  | (i, cs, esz) :: r => (rowsMap r).set i (some (.row cs false esz))
noncomputable def knownHeap (k : Known) : AHeap := { m := rowsMap k.rows, next := k.top }

theorem eqLN_eq : ∀ (n : Nat) (x y : List Value), eqVN.eqLN n x y = true → x = y := by
  intro n x
  induction x with
  | nil => intro y hy; cases y <;> simp_all [eqVN.eqLN]
  | cons a x ih =>
    intro y hy
    cases y with
    | nil => simp [eqVN.eqLN] at hy
    | cons b y =>
      simp only [eqVN.eqLN, Bool.and_eq_true] at hy
      rw [eqVN_eq n a b hy.1, ih y hy.2]

theorem rowsMap_get : ∀ (l : List (Nat × List Value × Nat)) (j : Nat) (o : AObj), (rowsMap l).get j = some o → ∃ cs esz, (j, cs, esz) ∈ l ∧ o = .row cs false esz
  | [], j, o, h => by cases h
  | (i, cs, esz) :: r, j, o, h => by
    simp only [rowsMap, Tr.get_set] at h
    by_cases e : j = i
    · rw [if_pos e] at h; cases h; subst e
      exact ⟨cs, esz, List.mem_cons_self .., rfl⟩
    · rw [if_neg e] at h
      obtain ⟨cs', esz', h1, h2⟩ := rowsMap_get r j o h
      exact ⟨cs', esz', List.mem_cons_of_mem _ h1, h2⟩

theorem rowsAt_mem {h : AHeap} : ∀ {l : List (Nat × List Value × Nat)}, rowsAt h l = true → ∀ i cs esz, (i, cs, esz) ∈ l → ∃ wr, h.get i = some (.row cs wr esz)
  | [], _, _, _, _, hm => by cases hm
  | (j, cs0, esz0) :: r, hl, i, cs, esz, hm => by
    simp only [rowsAt] at hl
    split at hl
    · rename_i cs' wr esz' hg
      simp only [Bool.and_eq_true] at hl
      rcases List.mem_cons.1 hm with he | hm
      · cases he
        rw [eqLN_eq _ _ _ hl.2.1, Nat.eq_of_beq_eq_true hl.1] at hg
        exact ⟨wr, hg⟩
      · exact rowsAt_mem hl.2.2 i cs esz hm
    · cases hl

theorem known_rel {k : Known} {ρ : Inj} {h : AHeap} {w : World} (x : WRel ρ h w) (hr : rowsAt h k.rows = true) (hn : h.next ≤ k.top) : WRel ρ (knownHeap k) w := by
  have ro : ∀ i o, (knownHeap k).get i = some o → ∃ cs esz, o = .row cs false esz ∧ ∃ wr, h.get i = some (.row cs wr esz) := fun i o ho => by
    obtain ⟨cs, esz, h1, h2⟩ := rowsMap_get _ _ _ ho
    exact ⟨cs, esz, h2, rowsAt_mem hr i cs esz h1⟩
  refine ⟨fun i pl h => Nat.lt_of_lt_of_le (x.dom i pl h) hn, fun i o ho => ?_, fun i j o p pi pj hij h1 h2 => ?_⟩
  · obtain ⟨cs, esz, rfl, wr, hg⟩ := ro i o ho
    obtain ⟨pl, g1, c, el, fz, g2, g3, g4⟩ := x.obj i _ hg
    exact ⟨pl, g1, c, el, fz, g2, fun h => (by cases h), g4⟩
  · obtain ⟨cs, esz, rfl, _⟩ := ro i o h1
    cases h2

/-- One call, run once on what it reads, is known wherever that lies. -/
theorem known_ok {e e0 : Env} {cf : CallF} (hcf : CallOK e0 cf) (hP : e0.P = e.P) (hfn : e0.fn = e.fn) (hgl : e0.globs = e.globs) {k : Known} {h' : AHeap} (hk : cf k.f k.args (knownHeap k) = some (k.res, h')) (hp : plain k.res = true)
    {f : Nat} {args : List Value} {h : AHeap} (ha : knownAt k f args h = true) : plain k.res = true ∧ (∃ fn, e.fn f = some fn) ∧ ∀ ρ w (args' : Array Value), Gl e ρ → VsRel ρ args args'.toList → WRel ρ h w →
      Calls e.P f args' w fun en w' => en = .returned k.res ∧ Keeps w w' := by
  simp only [knownAt, Bool.and_eq_true] at ha
  obtain ⟨h1, h2, h3, h4⟩ := ha
  have h1 := Nat.eq_of_beq_eq_true h1
  have h2 := eqLN_eq _ _ _ h2
  subst h1; subst h2
  obtain ⟨q1, q2⟩ := hcf _ _ _ _ _ hk
  refine ⟨hp, by rw [← hfn]; exact q1, fun ρ w args' hg hv x => ?_⟩
  have hg0 : Gl e0 ρ := fun g hlt => hg g (by rw [← hgl]; exact hlt)
  rw [← hP]
  refine (q2 ρ w args' hg0 hv (known_rel x h4 (Nat.le_of_ble_eq_true h3))).mono ?_
  rintro en w' ⟨v', ρ', rfl, r1, r2, r3⟩
  refine ⟨by rw [plain_eq hp r1], r3.os, r3.output, r3.size, r3.frozen, fun j hj => r3.kept j hj ?_⟩
  rintro ⟨i, o, pl, g1, g2, _, _⟩
  obtain ⟨cs, esz, _, rfl⟩ := rowsMap_get _ _ _ g1
  cases g2

theorem memo_nil (P : Program) (tt : Tr TypeInfo) (ft : Tr Func) (idle : Nat → Bool) (globs : Nat) : MemoOK (envOf P tt ft idle globs fun _ _ _ => none) := fun _ _ _ _ h => by cases h

theorem memo_ok {e : Env} : ∀ (ks : List Known), e.memo = memoOf ks → (∀ k ∈ ks, ∀ f args h, knownAt k f args h = true → plain k.res = true ∧ (∃ fn, e.fn f = some fn) ∧ ∀ ρ w (args' : Array Value), Gl e ρ → VsRel ρ args args'.toList → WRel ρ h w →
      Calls e.P f args' w fun en w' => en = .returned k.res ∧ Keeps w w') → MemoOK e := by
  intro ks hm hk f args h v hv
  rw [hm] at hv
  clear hm
  induction ks with
  | nil => cases hv
  | cons k r ih =>
    simp only [memoOf] at hv
    cases hb : Nat.beq f k.f with
    | true =>
      simp only [hb, cond_true] at hv
      cases ha : knownAt k f args h with
      | true =>
        simp only [ha, cond_true, Option.some.injEq] at hv
        subst hv
        exact hk k (List.mem_cons_self ..) f args h ha
      | false =>
        simp only [ha, cond_false] at hv
        exact ih (fun k' hk' => hk k' (List.mem_cons_of_mem _ hk')) hv
    | false =>
      simp only [hb, cond_false] at hv
      exact ih (fun k' hk' => hk k' (List.mem_cons_of_mem _ hk')) hv

end Go.Abs

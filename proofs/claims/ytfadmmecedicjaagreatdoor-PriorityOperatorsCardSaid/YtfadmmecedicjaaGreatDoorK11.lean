/-
  PriorityOperators: parts of its proof (AbsP Cl0 Cl1).
-/
import Derived.Test.YtfadmmecedicjaaGreatDoorProg
import Derived.KernelRfl
import Derived.RecoverIn
import Derived.RangeFuncNested
import Derived.RangeFuncLeaves
import Derived.Shelf.Abstract
import Derived.Test.YtfadmmecedicjaaGreatDoorK07
import Derived.Test.YtfadmmecedicjaaGreatDoorK10
set_option linter.unusedVariables false
set_option linter.unusedSimpArgs false

section
/-
  What is known of a program, off its tables; calls known ahead.
-/
namespace Go.Abs

theorem ofList_get' {α : Type} : ∀ (l : List α) (i : Nat) (t : Tr α) (j : Nat), (Tr.ofList l i t).get j = if i ≤ j ∧ j < i + l.length then l[j - i]? else t.get j
  | [], i, t, j => by
    simp only [Tr.ofList, List.length_nil, Nat.add_zero]
    rw [if_neg (by omega)]
  | a :: l, i, t, j => by
    simp only [Tr.ofList, ofList_get' l (i + 1), Tr.get_set, List.length_cons]
    by_cases h1 : i + 1 ≤ j ∧ j < i + 1 + l.length
    · rw [if_pos h1, if_pos (by omega)]
      have : j - i = (j - (i + 1)) + 1 := by omega
      rw [this]; rfl
    · rw [if_neg h1]
      by_cases h2 : j = i
      · subst h2
        rw [if_pos rfl, if_pos (by omega)]; simp
      · rw [if_neg h2, if_neg (by omega)]

theorem table_get {α : Type} (a : Array α) (j : Nat) : (Tr.ofList a.toList 0 .nil).get j = a[j]? := by
  rw [ofList_get']
  by_cases h : 0 ≤ j ∧ j < 0 + a.toList.length
  · rw [if_pos h]; simp
  · rw [if_neg h, Tr.get_nil]
    have : a.size ≤ j := by simp at h; omega
    simp [this]

/-- The program's own tables, as tries. -/
noncomputable def tabUnder (tt : Tr TypeInfo) (t : Nat) : Option TypeDesc :=
  match tt.get t with
  | none => none
  | some i => match i.desc with
    | .named _ u => match tt.get u with
      | none => none
      | some j => some j.desc
    | d => some d
noncomputable def tabSize (tt : Tr TypeInfo) (t : Nat) : Option Nat :=
  match tt.get t with
  | none => none
  | some i => some i.size
noncomputable def tabBytes (tt : Tr TypeInfo) (t : Nat) : Option Nat :=
  match tt.get t with
  | none => none
  | some i => some i.bytes
noncomputable def tabZero (tt : Tr TypeInfo) (t : Nat) : Option Value :=
  match tt.get t with
  | none => none
  | some i => match i.zero with
    | none => none
    | some z => bif plain z then some z else none
noncomputable def tabFn (ft : Tr Func) (f : Nat) : Option Func :=
  match ft.get f with
  | none => none
  | some fn => match fn.body with
    | none => none
    | some _ => some fn

noncomputable def envOf (P : Program) (tt : Tr TypeInfo) (ft : Tr Func) (idle : Nat → Bool) (globs : Nat) (memo : Nat → List Value → AHeap → Option (Value × AHeap)) : Env :=
  { P, under := tabUnder tt, size := tabSize tt, bytes := tabBytes tt, zero := tabZero tt, fn := tabFn ft, idle, globs, memo }

/-- What is looked over once: a struct's fields have sizes; no function bears the one name that is not called. -/
noncomputable def fieldsOk (tt : Tr TypeInfo) (l : List TypeInfo) : Bool :=
  l.all fun i => match i.desc with
    | .struct fs => fs.toList.all fun f => (tt.get f.type).isSome
    | _ => true
def namesOk (l : List Func) : Bool := l.all fun fn => !(fn.name == "runtime.NumGoroutine")

theorem envOf_ok {P : Program} {tt : Tr TypeInfo} {ft : Tr Func} (idle : Nat → Bool) (globs : Nat) (memo : Nat → List Value → AHeap → Option (Value × AHeap)) (ht : tt = Tr.ofList P.types.toList 0 .nil) (hf : ft = Tr.ofList P.funcs.toList 0 .nil)
    (hfields : fieldsOk tt P.types.toList = true) (hnames : namesOk P.funcs.toList = true) : (envOf P tt ft idle globs memo).Ok := by
  have gi : ∀ t i, tt.get t = some i → P.types[t]? = some i := fun t i h => by rw [ht, table_get] at h; exact h
  have inf : ∀ t i, tt.get t = some i → P.info? t = some i := fun t i h => by
    have h1 := gi t i h
    have hl := (Array.getElem?_eq_some_iff.1 h1).1
    show P.toTables.info? t = some i
    unfold Tables.info?
    rw [if_pos hl]; exact h1
  have gf : ∀ f fn, ft.get f = some fn → P.funcs[f]? = some fn := fun f fn h => by rw [hf, table_get] at h; exact h
  refine ⟨fun t d h => ?_, fun t n h => ?_, fun t n h => ?_, fun t z h => ?_, fun t fs h f hfm => ?_, fun f fn h => ?_⟩
  · show P.underlying t = some d
    simp only [envOf, tabUnder] at h
    unfold Program.underlying
    cases hi : tt.get t with
    | none => simp [hi] at h
    | some i =>
      simp only [hi] at h
      rw [inf t i hi]
      obtain ⟨desc, sz, bt, zv, nm⟩ := i
      simp only at h
      split at h
      · rename_i u hd
        split at h
        · cases h
        · rename_i j hj
          cases h
          simp [inf _ _ hj]
      · rename_i hd
        cases h
        split
        · rename_i u _ heq
          exact absurd (by cases heq; rfl) (hd _ _)
        · rename_i j heq; cases heq; rfl
        · rename_i heq; cases heq
  · simp only [envOf, tabSize] at h
    cases hi : tt.get t with
    | none => simp [hi] at h
    | some i => simp only [hi, Option.some.injEq] at h; exact ⟨i, inf t i hi, h⟩
  · simp only [envOf, tabBytes] at h
    cases hi : tt.get t with
    | none => simp [hi] at h
    | some i => simp only [hi, Option.some.injEq] at h; exact ⟨i, inf t i hi, h⟩
  · simp only [envOf, tabZero] at h
    cases hi : tt.get t with
    | none => simp [hi] at h
    | some i =>
      simp only [hi] at h
      cases hz : i.zero with
      | none => simp [hz] at h
      | some z' =>
        simp only [hz] at h
        obtain ⟨h1, h2⟩ := of_bif h
        cases h2
        exact ⟨i, inf t i hi, hz, h1⟩
  · simp only [envOf, tabUnder] at h
    have key : ∀ k i, tt.get k = some i → i.desc = .struct fs → ∃ n, tabSize tt f.type = some n := fun k i hk hd => by
      have hm : i ∈ P.types.toList := by
        have := gi k i hk
        exact List.mem_of_getElem? (i := k) (by simpa using this)
      have := List.all_eq_true.1 hfields i hm
      rw [hd] at this
      have := List.all_eq_true.1 this f hfm
      cases hx : tt.get f.type with
      | none => rw [hx] at this; cases this
      | some j => exact ⟨j.size, by simp only [tabSize, hx]⟩
    cases hi : tt.get t with
    | none => simp [hi] at h
    | some i =>
      simp only [hi] at h
      split at h
      · split at h
        · cases h
        · rename_i j hj
          simp only [Option.some.injEq] at h
          exact key _ j hj h
      · simp only [Option.some.injEq] at h
        exact key t i hi h
  · simp only [envOf, tabFn] at h
    cases hi : ft.get f with
    | none => simp [hi] at h
    | some g =>
      simp only [hi] at h
      cases hb : g.body with
      | none => simp [hb] at h
      | some c =>
        simp only [hb, Option.some.injEq] at h
        subst h
        refine ⟨gf f g hi, fun args w => ?_⟩
        have hm : g ∈ P.funcs.toList := List.mem_of_getElem? (i := f) (by simpa using gf f g hi)
        have hn := List.all_eq_true.1 hnames g hm
        simp only [Bool.not_eq_true'] at hn
        simp only [callFunc, Sem.run_bind, run_program, Result.andThen_ok, envOf, gf f g hi, hn, hb]
        rfl

/-! ## Calls known ahead -/
structure Known where
  f : Nat
  args : List Value
  rows : List (Nat × List Value × Nat)
  res : Value
  top : Nat

noncomputable def rowsAt (h : AHeap) : List (Nat × List Value × Nat) → Bool
  | [] => true
  | (i, cs, esz) :: r => match h.get i with
    | some (.row cs' _ esz') => Nat.beq esz' esz && (eqVN.eqLN 6 cs' cs && rowsAt h r)
    | _ => false

noncomputable def knownAt (k : Known) (f : Nat) (args : List Value) (h : AHeap) : Bool :=
  Nat.beq f k.f && (eqVN.eqLN 6 args k.args && (Nat.ble h.next k.top && rowsAt h k.rows))

noncomputable def memoOf : List Known → Nat → List Value → AHeap → Option (Value × AHeap)
  | [], _, _, _ => none
  | k :: r, f, args, h => bif Nat.beq f k.f then (bif knownAt k f args h then some (k.res, h) else memoOf r f args h) else memoOf r f args h

noncomputable def rowsMap : List (Nat × List Value × Nat) → Tr AObj
  | [] => .nil
  | (i, cs, esz) :: r => (rowsMap r).set i (some (.row cs false esz))
noncomputable def knownHeap (k : Known) : AHeap := { m := rowsMap k.rows, next := k.top }

theorem eqLN_eq : ∀ (n : Nat) (x y : List Value), eqVN.eqLN n x y = true → x = y := by
  intro n x
  induction x with
  | nil => intro y hy; cases y <;> simp_all [eqVN.eqLN]
  | cons a x ih =>
    intro y hy
    cases y with
    | nil => simp [eqVN.eqLN] at hy
    | cons b y =>
      simp only [eqVN.eqLN, Bool.and_eq_true] at hy
      rw [eqVN_eq n a b hy.1, ih y hy.2]

theorem rowsMap_get : ∀ (l : List (Nat × List Value × Nat)) (j : Nat) (o : AObj), (rowsMap l).get j = some o → ∃ cs esz, (j, cs, esz) ∈ l ∧ o = .row cs false esz
  | [], j, o, h => by rw [show (rowsMap []).get j = none from Tr.get_nil j] at h; cases h
  | (i, cs, esz) :: r, j, o, h => by
    simp only [rowsMap, Tr.get_set] at h
    by_cases e : j = i
    · rw [if_pos e] at h; cases h; subst e
      exact ⟨cs, esz, List.mem_cons_self .., rfl⟩
    · rw [if_neg e] at h
      obtain ⟨cs', esz', h1, h2⟩ := rowsMap_get r j o h
      exact ⟨cs', esz', List.mem_cons_of_mem _ h1, h2⟩

theorem rowsAt_mem {h : AHeap} : ∀ {l : List (Nat × List Value × Nat)}, rowsAt h l = true → ∀ i cs esz, (i, cs, esz) ∈ l → ∃ wr, h.get i = some (.row cs wr esz)
  | [], _, _, _, _, hm => by cases hm
  | (j, cs0, esz0) :: r, hl, i, cs, esz, hm => by
    simp only [rowsAt] at hl
    split at hl
    · rename_i cs' wr esz' hg
      simp only [Bool.and_eq_true] at hl
      rcases List.mem_cons.1 hm with he | hm
      · cases he
        rw [eqLN_eq _ _ _ hl.2.1, Nat.eq_of_beq_eq_true hl.1] at hg
        exact ⟨wr, hg⟩
      · exact rowsAt_mem hl.2.2 i cs esz hm
    · cases hl

theorem known_rel {k : Known} {ρ : Inj} {h : AHeap} {w : World} (x : WRel ρ h w) (hr : rowsAt h k.rows = true) (hn : h.next ≤ k.top) : WRel ρ (knownHeap k) w := by
  have ro : ∀ i o, (knownHeap k).get i = some o → ∃ cs esz, o = .row cs false esz ∧ ∃ wr, h.get i = some (.row cs wr esz) := fun i o ho => by
    obtain ⟨cs, esz, h1, h2⟩ := rowsMap_get _ _ _ ho
    exact ⟨cs, esz, h2, rowsAt_mem hr i cs esz h1⟩
  refine ⟨fun i pl h => Nat.lt_of_lt_of_le (x.dom i pl h) hn, fun i o ho => ?_, fun i j o p pi pj hij h1 h2 => ?_⟩
  · obtain ⟨cs, esz, rfl, wr, hg⟩ := ro i o ho
    obtain ⟨pl, g1, c, el, fz, g2, g3, g4⟩ := x.obj i _ hg
    exact ⟨pl, g1, c, el, fz, g2, fun h => (by cases h), g4⟩
  · obtain ⟨cs, esz, rfl, _⟩ := ro i o h1
    cases h2

/-- One call, run once on what it reads, is known wherever that lies. -/
theorem known_ok {e e0 : Env} {cf : CallF} (hcf : CallOK e0 cf) (hP : e0.P = e.P) (hfn : e0.fn = e.fn) (hgl : e0.globs = e.globs) (hpi : e0.pins = e.pins) {k : Known} {h' : AHeap} (hk : cf k.f k.args (knownHeap k) = some (k.res, h')) (hp : plain k.res = true)
    {f : Nat} {args : List Value} {h : AHeap} (ha : knownAt k f args h = true) : plain k.res = true ∧ (∃ fn, e.fn f = some fn) ∧ ∀ ρ w (args' : Array Value), Gl e ρ → VsRel ρ args args'.toList → WRel ρ h w →
      Calls e.P f args' w fun en w' => en = .returned k.res ∧ Keeps w w' := by
  simp only [knownAt, Bool.and_eq_true] at ha
  obtain ⟨h1, h2, h3, h4⟩ := ha
  have h1 := Nat.eq_of_beq_eq_true h1
  have h2 := eqLN_eq _ _ _ h2
  subst h1; subst h2
  obtain ⟨q1, q2⟩ := hcf _ _ _ _ _ hk
  refine ⟨hp, by rw [← hfn]; exact q1, fun ρ w args' hg hv x => ?_⟩
  have hg0 : Gl e0 ρ := ⟨fun g hlt => hg.1 g (by rw [← hgl]; exact hlt), fun p hp => hg.2 p (by rw [← hpi]; exact hp)⟩
  rw [← hP]
  refine (q2 ρ w args' hg0 hv (known_rel x h4 (Nat.le_of_ble_eq_true h3))).mono ?_
  rintro en w' ⟨v', ρ', rfl, r1, r2, r3⟩
  refine ⟨by rw [plain_eq hp r1], r3.os, r3.output, r3.size, r3.frozen, fun j hj => r3.kept j hj ?_⟩
  rintro ⟨i, o, pl, g1, g2, _, _⟩
  obtain ⟨cs, esz, _, rfl⟩ := rowsMap_get _ _ _ g1
  cases g2

theorem memo_nil (P : Program) (tt : Tr TypeInfo) (ft : Tr Func) (idle : Nat → Bool) (globs : Nat) : MemoOK (envOf P tt ft idle globs fun _ _ _ => none) := fun _ _ _ _ _ h => by cases h

theorem memo_ok {e : Env} : ∀ (ks : List Known), e.memo = memoOf ks → (∀ k ∈ ks, ∀ f args h, knownAt k f args h = true → plain k.res = true ∧ (∃ fn, e.fn f = some fn) ∧ ∀ ρ w (args' : Array Value), Gl e ρ → VsRel ρ args args'.toList → WRel ρ h w →
      Calls e.P f args' w fun en w' => en = .returned k.res ∧ Keeps w w') → MemoOK e := by
  intro ks hm hk f args h v h' hv
  rw [hm] at hv
  clear hm
  induction ks with
  | nil => cases hv
  | cons k r ih =>
    simp only [memoOf] at hv
    cases hb : Nat.beq f k.f with
    | true =>
      simp only [hb, cond_true] at hv
      cases ha : knownAt k f args h with
      | true =>
        simp only [ha, cond_true, Option.some.injEq, Prod.mk.injEq] at hv
        obtain ⟨rfl, rfl⟩ := hv
        obtain ⟨h1, h2, h3⟩ := hk k (List.mem_cons_self ..) f args h ha
        refine ⟨h2, fun ρ w args' hg ha x => (h3 ρ w args' hg ha x).mono ?_⟩
        rintro en w' ⟨rfl, hk⟩
        obtain ⟨q1, q2⟩ := x.keeps hk h.next
        exact ⟨_, ρ, rfl, plain_rel h1, q1, q2⟩
      | false =>
        simp only [ha, cond_false] at hv
        exact ih (fun k' hk' => hk k' (List.mem_cons_of_mem _ hk')) hv
    | false =>
      simp only [hb, cond_false] at hv
      exact ih (fun k' hk' => hk k' (List.mem_cons_of_mem _ hk')) hv

end Go.Abs
end

section
/-
  Closed calls of this seat, run by the kernel: the environment, and how such a call holds of a world.
-/
open Go Go.Abs Go.Proofs
namespace Go.Pri
noncomputable def tt : Tr TypeInfo := Tr.ofList Tryz.prog.types.toList 0 .nil
noncomputable def ft : Tr Func := Tr.ofList Tryz.prog.funcs.toList 0 .nil
noncomputable def idle (g : Nat) : Bool := Nat.beq g 67
noncomputable def table : List Value := ([0,1,56,2,57,49,28,3,61,58,42,50,38,29,17,4,62,47,59,36,45,43,51,22,53,39,33,30,24,18,12,5,63,55,48,27,60,41,37,16,46,35,44,21,52,32,23,11,54,26,40,15,34,20,31,10,25,14,19,9,13,8,7,6] : List Nat).map fun (n : Nat) => Value.int .u8 n
set_option maxRecDepth 100000
noncomputable def envM (ks : List Known) : Env := envOf Tryz.prog tt ft idle 1 (memoOf ks)
noncomputable def gives (v : Value) : Option (Value × AHeap) → Bool
  | some (v', _) => eqVN 2 v' v
  | none => false
theorem idle67 (ks : List Known) : Idle (envM ks) := by
  intro g hg args w n
  obtain rfl : g = 67 := Nat.eq_of_beq_eq_true hg
  refine ⟨args, enters_of Tryz.func67 (by kernel_rfl) rfl args w, ?_⟩
  have hne : Sem.run Tryz.prog (binOp BinOp.neq 20 Value.nilIface Value.nilIface) w = .ok (.bool false) w := by simp [go_sem, Tryz.underlying20]
  show CallsDIn Fence.wide n Tryz.prog 67 args .returning w _
  refine callsDIn_of_wpSIn Tryz.func67 rfl trivial fun c₀ cs hu => ?_
  have hT : 17 ≤ (args ++ Array.replicate (Tryz.f67.ntmps - args.size) undef).size := by
    have : Tryz.f67.ntmps = 17 := Tryz.ntmps67
    simp [this]; omega
  generalize (args ++ Array.replicate (Tryz.f67.ntmps - args.size) undef) = T at hT ⊢
  have t4 : 4 < T.size := by omega
  have t1 : 1 < T.size := by omega
  have t5 : 5 < T.size := by omega
  have t6 : 6 < T.size := by omega
  apply wpSIn_seq
  apply wpSIn_region
  simp [wpOpsSIn, go_sem, recoverD, hu, Exit.thenS, t4, t1]
  apply wpSIn_seq
  apply wpSIn_region
  simp [wpOpsSIn, go_sem, Exit.thenS, t4, t1, t5, t6, hne]
  refine wpSIn_cond (t := false) (by simp [Act.eval, t6]) ?_
  simp only [Bool.false_eq_true, if_false]
  refine wpSIn_of_wpIn rfl (wpIn_skip ?_)
  cases c₀
  simp_all [bodyPostS, results, Tryz.results67]

theorem fields_ok : fieldsOk tt Tryz.prog.types.toList = true := by kernel_rfl
theorem names_ok : namesOk Tryz.prog.funcs.toList = true := by kernel_rfl
theorem mix_ok : Tryz.prog.follows .mixedOrders = true := by kernel_rfl
theorem env_ok (ks : List Known) : (envM ks).Ok := envOf_ok idle 1 (memoOf ks) rfl rfl fields_ok names_ok

theorem gives_some {v : Value} {x : Option (Value × AHeap)} (h : gives v x = true) : ∃ h', x = some (v, h') := by
  rcases x with _ | ⟨v', h'⟩
  · cases h
  · exact ⟨h', by rw [eqVN_eq 2 v' v h]⟩

/-- One call known: what it hands back, wherever what it reads lies. -/
def Good (k : Known) : Prop := ∀ f args h, knownAt k f args h = true → plain k.res = true ∧ (∃ fn, (envM []).fn f = some fn) ∧ ∀ ρ w (args' : Array Value), Gl (envM []) ρ → VsRel ρ args args'.toList → WRel ρ h w →
    Calls (envM []).P f args' w fun en w' => en = .returned k.res ∧ Keeps w w'

theorem memo_good {ms : List Known} (hm : ∀ k ∈ ms, Good k) : MemoOK (envM ms) := memo_ok ms rfl hm
theorem good_of {ms : List Known} (hm : ∀ k ∈ ms, Good k) {k : Known} (hk : gives k.res (call (envM ms) 200 k.f k.args (knownHeap k)) = true) (hp : plain k.res = true) : Good k := by
  obtain ⟨h', hh⟩ := gives_some hk
  have hc : CallOK (envM ms) (call (envM ms) 200) := sound (env_ok ms) mix_ok (idle67 ms) (memo_good hm) 200
  exact fun f args h ha => known_ok (e := envM []) hc rfl rfl rfl rfl hh hp ha

theorem vs_ints (ρ : Inj) : ∀ l : List Nat, VsRel ρ (l.map fun (n : Nat) => Value.int .u8 n) (l.map fun (n : Nat) => Value.int .u8 n)
  | [] => .nil
  | n :: l => .cons (.int _ _) (vs_ints ρ l)


/-- The table lies where the program's one variable lies. -/
def TabAt (w : World) : Prop := ∃ el fz, w.heap[0]? = some (.cells table.toArray el fz)
theorem TabAt.old {w w' : World} (h : TabAt w) (ho : Old w w') : TabAt w' := by
  obtain ⟨el, fz, h1⟩ := h
  exact ⟨el, fz, (ho.heap 0 (Array.getElem?_eq_some_iff.1 h1).1).trans h1⟩

/-- A row of memory that a closed call reads: its number there, its cells there; its place in the world. -/
structure Rd where
  id : Nat
  cs : List Value
  esz : Nat
  pl : Pl
def rdMap (l : List Rd) : Inj := fun i => (l.find? fun r => r.id == i).map (·.pl)
def RdAt (ρ : Inj) (w : World) (r : Rd) : Prop := ORel ρ w r.pl (.row r.cs false r.esz)

theorem rowsMap_find : ∀ (l : List Rd) (i : Nat) (o : AObj), (rowsMap (l.map fun r => (r.id, r.cs, r.esz))).get i = some o → ∃ r, l.find? (fun r => r.id == i) = some r ∧ o = .row r.cs false r.esz
  | [], i, o, h => by
    have : (Tr.nil : Tr AObj).get i = some o := h
    rw [Tr.get_nil] at this; cases this
  | r :: l, i, o, h => by
    have h : ((rowsMap (l.map fun r => (r.id, r.cs, r.esz))).set r.id (some (.row r.cs false r.esz))).get i = some o := h
    rw [Tr.get_set] at h
    by_cases e : i = r.id
    · rw [if_pos e] at h
      cases h
      exact ⟨r, by simp [e], rfl⟩
    · rw [if_neg e] at h
      obtain ⟨r', h1, h2⟩ := rowsMap_find l i o h
      refine ⟨r', ?_, h2⟩
      rw [List.find?_cons_of_neg (by simpa using fun e' => e e'.symm)]
      exact h1

theorem rd_find {l : List Rd} {i : Nat} {r : Rd} (h : l.find? (fun r => r.id == i) = some r) : r ∈ l ∧ r.id = i := ⟨List.mem_of_find?_eq_some h, by simpa using List.find?_some h⟩

/-- **A CLOSED CALL, AT A WORLD THAT HOLDS WHAT IT READS.** -/
theorem Good.call {k : Known} (hk : Good k) (l : List Rd) (hl : l.map (fun r => (r.id, r.cs, r.esz)) = k.rows) (h0 : ∃ r, l.find? (fun r => r.id == 0) = some r ∧ r.pl.blk = 0 ∧ r.pl.off = 0)
    (htop : ∀ r ∈ l, r.id < k.top) (hself : knownAt k k.f k.args (knownHeap k) = true) {w : World} (hr : ∀ r ∈ l, RdAt (rdMap l) w r) {args : Array Value} (ha : VsRel (rdMap l) k.args args.toList) :
    Calls Tryz.prog k.f args w fun en w' => en = .returned k.res ∧ Keeps w w' := by
  obtain ⟨_, _, h3⟩ := hk k.f k.args (knownHeap k) hself
  refine h3 (rdMap l) w args ⟨fun g hg => ?_, fun p hp => by cases hp⟩ ha ⟨fun i pl h => ?_, fun i o h => ?_, fun i j o p pi pj hij h1 h2 => ?_⟩
  · have hg : g < 1 := hg
    obtain rfl : g = 0 := by omega
    obtain ⟨r, h1, h2, h3⟩ := h0
    exact ⟨r.pl, by simp [rdMap, h1], h2, h3⟩
  · simp only [rdMap, Option.map_eq_some_iff] at h
    obtain ⟨r, h1, rfl⟩ := h
    obtain ⟨h2, rfl⟩ := rd_find h1
    exact htop r h2
  · have h : (rowsMap k.rows).get i = some o := h
    rw [← hl] at h
    obtain ⟨r, h1, rfl⟩ := rowsMap_find l i o h
    exact ⟨r.pl, by simp [rdMap, h1], hr r (rd_find h1).1⟩
  · have h1 : (rowsMap k.rows).get i = some o := h1
    rw [← hl] at h1
    obtain ⟨r, _, rfl⟩ := rowsMap_find l i o h1
    cases h2

noncomputable def tabRd : Rd := ⟨0, table, 0, { blk := 0, off := 0, n := 64, cap := 64, esz := 0 }⟩
theorem tabRd_at {ρ : Inj} {w : World} (ht : TabAt w) : RdAt ρ w tabRd := by
  obtain ⟨el, fz, h⟩ := ht
  refine ⟨table.toArray, el, fz, h, fun h => (by cases h), rfl, rfl, Nat.le_refl _, Nat.le_refl _, fun _ => rfl, ?_⟩
  refine ⟨?_, fun h => (by cases h)⟩
  have e : (table.toArray.toList.drop 0).take 64 = table := List.take_of_length_le (l := table) (Nat.le_refl 64)
  show VsRel ρ table ((table.toArray.toList.drop 0).take 64)
  rw [e]
  unfold table
  exact vs_ints _ _

/-- One whose arguments name no row. -/
theorem Good.plain {k : Known} (hk : Good k) (hl : k.rows = [(0, table, 0)]) (htop : 0 < k.top) (hself : knownAt k k.f k.args (knownHeap k) = true) {w : World} (ht : TabAt w) (ha : ∀ ρ : Inj, VsRel ρ k.args k.args) :
    Calls Tryz.prog k.f k.args.toArray w fun en w' => en = .returned k.res ∧ Keeps w w' :=
  hk.call [tabRd] (by rw [hl]; rfl) ⟨tabRd, rfl, rfl, rfl⟩ (fun r hr => by simp at hr; subst hr; exact htop) hself (fun r hr => by simp at hr; subst hr; exact tabRd_at ht) (by simpa using ha _)

/-! ## The diagram of all configurations -/
def dTrue : Value := .agg #[.slice none 0 0, .int .i64 1]
noncomputable def k36 (c : Int) : Known := { f := 36, args := [dTrue, .int .u64 c], rows := [(0, table, 0)], res := .bool true, top := 1 }
theorem r36 (c : Int) : gives (k36 c).res (call (envM []) 200 (k36 c).f (k36 c).args (knownHeap (k36 c))) = true := by kernel_rfl
end Go.Pri
end

section
/-
  And of the diagram of all configurations with itself; Clone of no branches: closed.
-/
open Go Go.Abs Go.Proofs
namespace Go.Pri
set_option maxRecDepth 100000
noncomputable def gives6 (v : Value) : Option (Value × AHeap) → Bool
  | some (v', _) => eqVN 6 v' v
  | none => false
theorem gives6_some {v : Value} {x : Option (Value × AHeap)} (h : gives6 v x = true) : ∃ h', x = some (v, h') := by
  rcases x with _ | ⟨v', h'⟩
  · cases h
  · exact ⟨h', by rw [eqVN_eq 6 v' v h]⟩
theorem good_of6 {ms : List Known} (hm : ∀ k ∈ ms, Good k) {k : Known} (hk : gives6 k.res (call (envM ms) 200 k.f k.args (knownHeap k)) = true) (hp : plain k.res = true) : Good k := by
  obtain ⟨h', hh⟩ := gives6_some hk
  have hc : CallOK (envM ms) (call (envM ms) 200) := sound (env_ok ms) mix_ok (idle67 ms) (memo_good hm) 200
  exact fun f args h ha => known_ok (e := envM []) hc rfl rfl rfl rfl hh hp ha

noncomputable def k69 : Known := { f := 69, args := [dTrue, dTrue], rows := [(0, table, 0)], res := .tuple #[dTrue, .int .i64 0], top := 1 }
theorem r69 : gives6 k69.res (call (envM []) 200 k69.f k69.args (knownHeap k69)) = true := by kernel_rfl
theorem self69 : knownAt k69 69 k69.args (knownHeap k69) = true := by kernel_rfl
theorem vsTrue (ρ : Inj) : VRel ρ dTrue dTrue := by
  refine .agg rfl fun i v v' h1 h2 => ?_
  rw [h1] at h2
  cases h2
  match i, h1 with
  | 0, h1 => cases h1; exact .sl0 _ _
  | 1, h1 => cases h1; exact .int _ _
  | k + 2, h1 => cases h1
theorem and69 {w : World} (ht : TabAt w) : Calls Tryz.prog 69 #[.agg #[.slice none 0 0, .int .i64 1], .agg #[.slice none 0 0, .int .i64 1]] w fun en w' => en = .returned (.tuple #[.agg #[.slice none 0 0, .int .i64 1], .int .i64 0]) ∧ Keeps w w' := by
  have hg : Good k69 := good_of6 (ms := []) (fun _ h => by cases h) r69 rfl
  exact hg.plain rfl (by decide) self69 ht (fun ρ => .cons (vsTrue ρ) (.cons (vsTrue ρ) .nil))
end Go.Pri
end

/-
  PriorityOperators: parts of its proof (AbsL4 AbsL5 Ho).
-/
import Derived.OrdersHeld
import Derived.Test.YtfadmmecedicjaaGreatDoorK07
import Derived.Test.YtfadmmecedicjaaGreatDoorK08
set_option linter.unusedVariables false
set_option linter.unusedSimpArgs false

section
/-
  Regions that draw their order: whatever the order, the run's end.
-/
namespace Go.Abs
variable {e : Env}

/-! ## Memory laid over memory -/
theorem addPend_next (h : AHeap) (m : Nat) : ∀ L : Pend, (addPend h m L).next = h.next
  | [] => rfl
  | (i, id, o) :: r => by
    simp only [addPend]
    cases m.testBit i with
    | true => exact addPend_next h m r
    | false => exact addPend_next h m r
theorem addPend_get {h : AHeap} {m : Nat} : ∀ {L : Pend} {k : Nat} {o : AObj}, (addPend h m L).get k = some o → (∃ p ∈ L, m.testBit p.1 = true ∧ p.2.1 = k ∧ p.2.2 = o) ∨ h.get k = some o
  | [], k, o, hk => .inr hk
  | (i, id, ob) :: r, k, o, hk => by
    simp only [addPend] at hk
    have tail : (addPend h m r).get k = some o → (∃ p ∈ (i, id, ob) :: r, m.testBit p.1 = true ∧ p.2.1 = k ∧ p.2.2 = o) ∨ h.get k = some o := fun ht => by
      rcases addPend_get ht with ⟨p, h1, h2⟩ | h1
      · exact .inl ⟨p, List.mem_cons_of_mem _ h1, h2⟩
      · exact .inr h1
    cases hb : m.testBit i with
    | true =>
      simp only [hb, cond_true, AHeap.get_set] at hk
      by_cases hkid : k = id
      · rw [if_pos hkid] at hk; cases hk
        exact .inl ⟨(i, id, ob), List.mem_cons_self .., hb, hkid.symm, rfl⟩
      · rw [if_neg hkid] at hk; exact tail hk
    | false => simp only [hb, cond_false] at hk; exact tail hk

theorem addAll_next (h : AHeap) : ∀ L : Pend, (addAll h L).next = h.next
  | [] => rfl
  | (_, _, _) :: r => addAll_next h r
theorem addAll_in {h : AHeap} : ∀ {L : Pend}, (∀ p q, p ∈ L → q ∈ L → p.2.1 = q.2.1 → p = q) → ∀ p ∈ L, (addAll h L).get p.2.1 = some p.2.2
  | [], _, p, hp => by cases hp
  | (i, id, o) :: r, hi, p, hp => by
    simp only [addAll, AHeap.get_set]
    by_cases hk : p.2.1 = id
    · have := hi p (i, id, o) hp (List.mem_cons_self ..) hk
      subst this; simp
    · rw [if_neg hk]
      rcases List.mem_cons.1 hp with rfl | hp'
      · exact absurd rfl hk
      · exact addAll_in (fun p q h1 h2 => hi p q (List.mem_cons_of_mem _ h1) (List.mem_cons_of_mem _ h2)) p hp'
theorem addAll_out {h : AHeap} {k : Nat} : ∀ {L : Pend}, (∀ p ∈ L, p.2.1 ≠ k) → (addAll h L).get k = h.get k
  | [], _ => rfl
  | (i, id, o) :: r, hk => by
    simp only [addAll, AHeap.get_set]
    rw [if_neg (fun e => hk (i, id, o) (List.mem_cons_self ..) e.symm)]
    exact addAll_out fun p hp => hk p (List.mem_cons_of_mem _ hp)
theorem addAll_or {h : AHeap} {L : Pend} (hi : ∀ p q, p ∈ L → q ∈ L → p.2.1 = q.2.1 → p = q) {k : Nat} {o : AObj} (hk : (addAll h L).get k = some o) : (∃ p ∈ L, p.2.1 = k ∧ p.2.2 = o) ∨ h.get k = some o := by
  by_cases hx : ∃ p ∈ L, p.2.1 = k
  · obtain ⟨p, hp, rfl⟩ := hx
    rw [addAll_in hi p hp] at hk; cases hk
    exact .inl ⟨p, hp, rfl, rfl⟩
  · rw [addAll_out fun p hp e => hx ⟨p, hp, e⟩] at hk
    exact .inr hk

/-- Less memory, nothing else. -/
theorem Fr.less {b : Nat} {ρ : Inj} {h g : AHeap} {w : World} (hs : ∀ i o, g.get i = some o → h.get i = some o) (hn : h.next ≤ g.next) : Fr b ρ h w ρ g w :=
  ⟨Ext.refl _, rfl, rfl, Nat.le_refl _, fun _ _ => rfl, fun _ _ _ => rfl, fun j o pl h1 h2 h3 => .inl ⟨j, o, pl, hs j o h1, h2, h3, rfl⟩,
    fun j o h1 _ => hs j o h1, fun _ h h' => absurd h h', fun j o h1 _ => ⟨o, hs j o h1⟩, hn⟩

theorem EffAt.uniq {ops : List Oper} {S S' : Nat → Prop} {m m' : Nat} (h : EffAt ops S m) (h' : EffAt ops S' m') (hS : ∀ (p i k : Nat), (effs ops)[p]? = some (i, k) → (S i ↔ S' i)) : m = m' := by
  rcases Nat.lt_trichotomy m m' with hl | rfl | hl
  · exfalso
    have hq := List.getElem?_eq_getElem (Nat.lt_of_lt_of_le hl h'.1)
    generalize (effs ops)[m]'(Nat.lt_of_lt_of_le hl h'.1) = jk at hq
    obtain ⟨j, k⟩ := jk
    have := (h.2 _ _ _ hq).1 ((hS _ _ _ hq).2 ((h'.2 _ _ _ hq).2 hl))
    omega
  · rfl
  · exfalso
    have hq := List.getElem?_eq_getElem (Nat.lt_of_lt_of_le hl h.1)
    generalize (effs ops)[m']'(Nat.lt_of_lt_of_le hl h.1) = jk at hq
    obtain ⟨j, k⟩ := jk
    have := (h'.2 _ _ _ hq).1 ((hS _ _ _ hq).1 ((h.2 _ _ _ hq).2 hl))
    omega

/-! ## The run taken as a whole -/
structure Rec (e : Env) (cf : CallF) (rf : RoundF) (ro : Option Nat) (ops : List Oper) (s0 : ASt) (base N : Nat) (xf : DSt) (i : Nat) (o : Oper) (id : Nat) (x x' : DSt) (m inc : Nat) (v : Value) : Prop where
  pre : Pre s0 base N ops i id x m inc
  step : Step x x' o v
  did : Did e cf rf ro ops i id ((masks ops).getD i 0) o x x' inc v
  l : Link ops i x xf
  l' : Link ops (i + 1) x' xf

structure Glob (e : Env) (cf : CallF) (rf : RoundF) (ro : Option Nat) (ops : List Oper) (s0 : ASt) (base N : Nat) (xf : DSt) : Prop where
  f : DrawFacts ops (masks ops)
  recs : ∀ (i : Nat) (o : Oper), ops[i]? = some o → ∃ id x x' m inc v, Rec e cf rf ro ops s0 base N xf i o id x x' m inc v
  t0 : ∀ d, (∀ (j : Nat) (o : Oper), ops[j]? = some o → o.dst ≠ some d) → xf.s.t.get d = s0.t.get d
  allF : ∀ p ∈ xf.all, base ≤ p.2.1 ∧ p.2.1 < N
  inj : ∀ p q, p ∈ xf.all → q ∈ xf.all → p.2.1 = q.2.1 → p = q
  readers : (effs ops).length = 0 ∨ readersOk e ops xf xf.stages.reverse (effs ops) (ops.zip (masks ops)) xf.snaps.reverse 0 = true

structure Inv (e : Env) (ops : List Oper) (s0 : ASt) (base N : Nat) (xf : DSt) (S : Nat → Prop) (ρ0 : Inj) (h0 : AHeap) (w0 : World) (ρ : Inj) (a : Act) (w : World) (t : Tr Value) (h : AHeap) (m inc : Nat) (H : AHeap) : Prop where
  closed : ∀ i, S i → ∀ j, ((masks ops).getD i 0).testBit j = true → S j
  t1 : ∀ (j : Nat) (o : Oper) (d : Tmp), S j → ops[j]? = some o → o.dst = some d → t.get d = xf.s.t.get d
  t2 : ∀ d, (∀ (j : Nat) (o : Oper), S j → ops[j]? = some o → o.dst ≠ some d) → t.get d = s0.t.get d
  rel : SRel e ρ { t, n := s0.n, ds := s0.ds, h } a w
  fr : Fr base ρ0 h0 w0 ρ h w
  eff : EffAt ops S m
  stage : xf.stages.reverse[m]? = some (inc, H)
  m1 : ∀ p ∈ xf.all, S p.1 → inc.testBit p.1 = false → h.get p.2.1 = some p.2.2
  m3 : ∀ k o, H.get k = some o → h.get k = some o
  m4 : ∀ p ∈ xf.all, inc.testBit p.1 = false → H.get p.2.1 = none
  m5 : h.next = H.next
  m5' : N ≤ H.next
  m6 : ∀ p ∈ xf.all, ¬ S p.1 → ρ p.2.1 = none
  m7 : ∀ j, inc.testBit j = true → S j

theorem stage_of {ops : List Oper} {k : Nat} {x xf : DSt} {q : Nat × AHeap} {tl : List (Nat × AHeap)} {m : Nat} (hs : x.stages = q :: tl) (hl : x.stages.length = m + 1) (l : Link ops k x xf) : xf.stages.reverse[m]? = some q := by
  obtain ⟨l, hl'⟩ := l.stages
  rw [hl', hs]
  rw [hs] at hl
  simp only [List.length_cons] at hl
  rw [List.reverse_append, List.reverse_cons, List.append_assoc, List.getElem?_append_right (by simp; omega)]
  have : m - tl.reverse.length = 0 := by simp; omega
  rw [this]; rfl

section
variable {cf : CallF} {rf : RoundF} {ro : Option Nat} {ops : List Oper} {s0 : ASt} {base N : Nat} {xf : DSt} {S : Nat → Prop} {ρ0 : Inj} {h0 : AHeap} {w0 : World} {ρ : Inj} {a : Act} {w : World} {t : Tr Value} {h : AHeap} {m inc : Nat} {H : AHeap}
variable {i : Nat} {o : Oper} {id : Nat} {x x' : DSt} {mc incc : Nat} {v : Value}

/-- The slots an operation looks at. -/
theorem Inv.same (I : Inv e ops s0 base N xf S ρ0 h0 w0 ρ a w t h m inc H) (G : Glob e cf rf ro ops s0 base N xf) (R : Rec e cf rf ro ops s0 base N xf i o id x x' mc incc v) (ho : ops[i]? = some o) (hi : ¬ S i)
    (hm : ∀ j, ((masks ops).getD i 0).testBit j = true → S j) : Same t x.s.t o.op.operands.toList := by
  intro d hd
  by_cases hw : ∃ (j : Nat) (p : Oper), ops[j]? = some p ∧ p.dst = some d
  · obtain ⟨j, p, hj, hpd⟩ := hw
    obtain ⟨u1, u2, u3⟩ := G.f.use j p i o d hj ho hpd hd
    rcases Nat.lt_or_gt_of_ne u1 with hl | hl
    · rw [I.t1 j p d (hm j (u2 hl)) hj hpd]
      refine R.l.t d fun k q hk hq hqd => ?_
      have := G.f.once j p k q d hj hq hpd hqd
      omega
    · have hnS : ¬ S j := fun hS => hi (I.closed j hS i (u3 hl))
      rw [I.t2 d fun k q hS hq hqd => hnS (G.f.once k q j p d hq hj hqd hpd ▸ hS)]
      refine (R.pre.t d fun k q hk hq hqd => ?_).symm
      have := G.f.once j p k q d hj hq hpd hqd
      omega
  · rw [I.t2 d fun j p _ hj hpd => hw ⟨j, p, hj, hpd⟩]
    exact (R.pre.t d fun j p _ hj hpd => hw ⟨j, p, hj, hpd⟩).symm

theorem Inv.wanted (I : Inv e ops s0 base N xf S ρ0 h0 w0 ρ a w t h m inc H) (G : Glob e cf rf ro ops s0 base N xf) (R : Rec e cf rf ro ops s0 base N xf i o id x x' mc incc v) (ho : ops[i]? = some o)
    (hm : ∀ j, ((masks ops).getD i 0).testBit j = true → S j) : wantedA ops { t, n := s0.n, ds := s0.ds, h } o = wantedA ops x.s o := by
  unfold wantedA
  cases hg : o.guard with
  | none => rfl
  | some jw =>
    obtain ⟨j, want⟩ := jw
    simp only
    cases hd : (ops[j]?).bind (·.dst) with
    | none => rfl
    | some d =>
      obtain ⟨p, hj, hpd⟩ := of_bind hd
      have hb := G.f.guard i o j want ho hg
      have hji := mask_lt G.f i o j ho hb
      have e1 : t.get d = xf.s.t.get d := I.t1 j p d (hm j hb) hj hpd
      have e2 : xf.s.t.get d = x.s.t.get d := R.l.t d fun k q hk hq hqd => by
        have := G.f.once j p k q d hj hq hpd hqd
        omega
      simp only [e1, e2]

/-- One operation more. -/
theorem Inv.next (I : Inv e ops s0 base N xf S ρ0 h0 w0 ρ a w t h m inc H) (G : Glob e cf rf ro ops s0 base N xf) (R : Rec e cf rf ro ops s0 base N xf i o id x x' mc incc v) (ho : ops[i]? = some o) (hi : ¬ S i)
    (hm : ∀ j, ((masks ops).getD i 0).testBit j = true → S j) {S' : Nat → Prop} (hS : ∀ j, S' j ↔ S j ∨ j = i) {ρ' : Inj} {a' : Act} {w' : World} {h' : AHeap} {m' inc' : Nat} {H' : AHeap}
    (rel : SRel e ρ' { t := setT t o.dst v, n := s0.n, ds := s0.ds, h := h' } a' w') (fr : Fr base ρ h w ρ' h' w') (fresh : ∀ p ∈ xf.all, p.1 ≠ i → ρ p.2.1 = none → ρ' p.2.1 = none)
    (eff : EffAt ops S' m') (stage : xf.stages.reverse[m']? = some (inc', H')) (m1 : ∀ p ∈ xf.all, S' p.1 → inc'.testBit p.1 = false → h'.get p.2.1 = some p.2.2)
    (m3 : ∀ k o, H'.get k = some o → h'.get k = some o) (m4 : ∀ p ∈ xf.all, inc'.testBit p.1 = false → H'.get p.2.1 = none) (m5 : h'.next = H'.next) (m5' : N ≤ H'.next) (m7 : ∀ j, inc'.testBit j = true → S' j) :
    Inv e ops s0 base N xf S' ρ0 h0 w0 ρ' a' w' (setT t o.dst v) h' m' inc' H' := by
  refine ⟨fun k hk j hj => ?_, fun j p d hj hp hd => ?_, fun d hd => ?_, rel, I.fr.trans fr, eff, stage, m1, m3, m4, m5, m5', fun p hp hn => ?_, m7⟩
  · rw [hS] at hk ⊢
    rcases hk with hk | rfl
    · exact .inl (I.closed k hk j hj)
    · exact .inl (hm j hj)
  · rw [setT_get]
    by_cases hod : o.dst = some d
    · rw [if_pos hod, R.l'.t d fun k q hk hq hqd => by
        have := G.f.once i o k q d ho hq hod hqd
        omega, R.step.t, setT_get, if_pos hod]
    · rw [if_neg hod]
      rcases (hS j).1 hj with hj' | rfl
      · exact I.t1 j p d hj' hp hd
      · rw [ho] at hp; cases hp; exact absurd hd hod
  · rw [setT_get, if_neg (hd i o ((hS i).2 (.inr rfl)) ho)]
    exact I.t2 d fun j p hj hp => hd j p ((hS j).2 (.inl hj)) hp
  · have h1 : ¬ S p.1 := fun hs => hn ((hS _).2 (.inl hs))
    have h2 : p.1 ≠ i := fun hs => hn ((hS _).2 (.inr hs))
    exact fresh p hp h2 (I.m6 p hp h1)

end

end Go.Abs
end

section
/-
  Regions that draw their order: the step.
-/
namespace Go.Abs
variable {e : Env}

theorem readersOk_at {ops : List Oper} {x : DSt} {stages : List (Nat × AHeap)} {ef : List (Nat × Nat)} : ∀ (oms : List (Oper × Nat)) (ts : List (Tr Value)) (k : Nat), readersOk e ops x stages ef oms ts k = true →
    ∀ (j : Nat) (o : Oper) (m : Nat), oms[j]? = some (o, m) → ∃ t, ts[j]? = some t ∧ (cls o.op = .read → wantedA ops { x.s with t } o = some true → readerOk e x stages ef (k + j) m o t = true)
  | [], _, _, _, j, o, m, hj => by simp at hj
  | (o0, m0) :: r, [], _, h, _, _, _, _ => by simp [readersOk] at h
  | (o0, m0) :: r, t :: ts, k, h, j, o, m, hj => by
    simp only [readersOk, Bool.and_eq_true] at h
    cases j with
    | zero =>
      simp only [List.getElem?_cons_zero, Option.some.injEq, Prod.mk.injEq] at hj
      obtain ⟨rfl, rfl⟩ := hj
      refine ⟨t, rfl, fun hc hw => ?_⟩
      have h1 := h.1
      rw [hc, hw] at h1
      simpa using h1
    | succ j =>
      obtain ⟨t', h1, h2⟩ := readersOk_at r ts (k + 1) h.2 j o m (by simpa using hj)
      exact ⟨t', by simpa using h1, fun hc hw => by have := h2 hc hw; rwa [show k + 1 + j = k + (j + 1) by omega] at this⟩

section
variable {cf : CallF} {rf : RoundF} {ro roc : Option Nat} {ops : List Oper} {s0 : ASt} {base N : Nat} {xf : DSt} {S : Nat → Prop} {ρ0 : Inj} {h0 : AHeap} {w0 : World} {ρ : Inj} {a : Act} {w : World} {t : Tr Value} {h : AHeap} {m inc : Nat} {H : AHeap}
variable {i : Nat} {o : Oper} {id : Nat} {x x' : DSt} {mc incc : Nat} {v : Value}

theorem Rec.snap (R : Rec e cf rf ro ops s0 base N xf i o id x x' mc incc v) : xf.snaps.reverse[i]? = some x.s.t := by
  obtain ⟨l, hl⟩ := R.l'.snaps
  rw [hl, R.step.snaps, List.reverse_append, List.reverse_cons, List.append_assoc, List.getElem?_append_right (by simp [R.pre.snaps])]
  simp [R.pre.snaps]

theorem Rec.val (R : Rec e cf rf ro ops s0 base N xf i o id x x' mc incc v) (G : Glob e cf rf ro ops s0 base N xf) (ho : ops[i]? = some o) {d : Tmp} (hd : o.dst = some d) : xf.s.t.get d = some v := by
  rw [R.l'.t d fun k q hk hq hqd => by
    have := G.f.once i o k q d ho hq hd hqd
    omega, R.step.t, setT_get, if_pos hd]

theorem Rec.stage (R : Rec e cf rf ro ops s0 base N xf i o id x x' mc incc v) : xf.stages.reverse[mc]? = some (incc, x.s.h) := by
  obtain ⟨tl, hst⟩ := R.pre.stage
  exact stage_of hst R.pre.len R.l

theorem Rec.stage' (R : Rec e cf rf ro ops s0 base N xf i o id x x' mc incc v) {q : Nat × AHeap} (hs : x'.stages = q :: x.stages) : xf.stages.reverse[mc + 1]? = some q :=
  stage_of hs (by rw [hs, List.length_cons, R.pre.len]) R.l'

/-- Both runs stand at the same acting operation. -/
theorem Inv.at (I : Inv e ops s0 base N xf S ρ0 h0 w0 ρ a w t h m inc H) (G : Glob e cf rf ro ops s0 base N xf) (R : Rec e cf rf ro ops s0 base N xf i o id x x' mc incc v) (ho : ops[i]? = some o) (hi : ¬ S i)
    (hm : ∀ j, ((masks ops).getD i 0).testBit j = true → S j) (hc : cls o.op = .effect) : mc = m ∧ incc = inc ∧ x.s.h = H := by
  have h1 : m = mc := I.eff.uniq R.pre.eff fun p j k hp => by
    obtain ⟨q, q1, q2, q3⟩ := effs_get hp
    constructor
    · intro hS
      rcases Nat.lt_trichotomy j i with hl | rfl | hl
      · exact hl
      · exact absurd hS hi
      · exact absurd (I.closed j hS i (G.f.effs i o j q ho q1 hc q3 hl)) hi
    · intro hl
      exact hm j (G.f.effs j q i o q1 ho q3 hc hl)
  subst h1
  have := R.stage
  rw [I.stage] at this
  cases this
  exact ⟨rfl, rfl, rfl⟩

/-- What a reading gives, wherever it stands. -/
theorem Inv.read (I : Inv e ops s0 base N xf S ρ0 h0 w0 ρ a w t h m inc H) (G : Glob e cf rf ro ops s0 base N xf) (R : Rec e cf rf ro ops s0 base N xf i o id x x' mc incc v) (ho : ops[i]? = some o) (hi : ¬ S i)
    (hm : ∀ j, ((masks ops).getD i 0).testBit j = true → S j) (hc : cls o.op = .read) (hw : wantedA ops x.s o = some true) {h1 : AHeap} (hr : opA e (addPend x.s.h ((masks ops).getD i 0) x.pend) x.s.t o.op = some (.val v h1)) :
    ∃ L h2, (∀ p ∈ L, p ∈ xf.all ∧ inc.testBit p.1 = false) ∧ opA e (addPend H ((masks ops).getD i 0) L) x.s.t o.op = some (.val v h2) := by
  have same : mc = m → ∃ L h2, (∀ p ∈ L, p ∈ xf.all ∧ inc.testBit p.1 = false) ∧ opA e (addPend H ((masks ops).getD i 0) L) x.s.t o.op = some (.val v h2) := fun e1 => by
    subst e1
    have := R.stage
    rw [I.stage] at this
    cases this
    refine ⟨x.pend, h1, fun p hp => ?_, hr⟩
    obtain ⟨q1, q2⟩ := (R.pre.pend p).1 hp
    obtain ⟨l, hl, _⟩ := R.l.all
    exact ⟨by rw [hl]; exact List.mem_append_right _ q1, q2⟩
  rcases G.readers with h3 | h3
  · have e1 := I.eff.1
    have e2 := R.pre.eff.1
    exact same (by omega)
  · obtain ⟨T, t1, t2⟩ := readersOk_at _ _ _ h3 i o _ (zip_get ho)
    rw [R.snap] at t1; cases t1
    have t3 := t2 hc hw
    rw [Nat.zero_add] at t3
    unfold readerOk at t3
    have lo : ∀ {S' : Nat → Prop} {m' : Nat}, EffAt ops S' m' → (∀ j, ((masks ops).getD i 0).testBit j = true → S' j) → ((effs ops).filter fun p => ((masks ops).getD i 0).testBit p.1).length ≤ m' := fun {S' m'} hE hS' => by
      refine filter_le _ _ _ fun q a hq hf => ?_
      obtain ⟨j, k⟩ := a
      exact (hE.2 _ _ _ hq).1 (hS' j hf)
    have hi' : ∀ {S' : Nat → Prop} {m' : Nat}, EffAt ops S' m' → ¬ S' i → (∀ k, S' k → ∀ j, ((masks ops).getD k 0).testBit j = true → S' j) → m' ≤ ((effs ops).filter fun p => !p.2.testBit i).length := fun {S' m'} hE hS' hcl => by
      refine le_filter _ _ _ hE.1 fun q a hq hf => ?_
      obtain ⟨j, k⟩ := a
      obtain ⟨o', q1, q2, q3⟩ := effs_get hf
      simp only [q2, Bool.not_eq_true']
      cases hb : ((masks ops).getD j 0).testBit i with
      | false => rfl
      | true => exact absurd (hcl j ((hE.2 _ _ _ hf).2 hq) i hb) hS'
    have l1 := lo I.eff hm
    have l2 := hi' I.eff hi I.closed
    have l3 := lo R.pre.eff fun j hj => mask_lt G.f i o j ho hj
    have hn : i < ops.length := (List.getElem?_eq_some_iff.1 ho).1
    have l4 := hi' R.pre.eff (Nat.lt_irrefl _) fun k hk j hj => Nat.lt_trans (mask_lt G.f k _ j (List.getElem?_eq_getElem (Nat.lt_trans hk hn)) hj) hk
    simp only at t3
    generalize ((effs ops).filter fun p => ((masks ops).getD i 0).testBit p.1).length = lo2 at *
    generalize ((effs ops).filter fun p => !p.2.testBit i).length = hi2 at *
    cases hb : Nat.ble hi2 lo2 with
    | true =>
      have := Nat.le_of_ble_eq_true hb
      exact same (by omega)
    | false =>
      have hlt : lo2 < hi2 := by
        rcases Nat.lt_or_ge lo2 hi2 with h5 | h5
        · exact h5
        · rw [Nat.ble_eq_true_of_le h5] at hb; cases hb
      simp only [hb, cond_false] at t3
      cases hd : o.dst with
      | none => simp [hd] at t3
      | some d =>
        simp only [hd, R.val G ho hd, List.all_eq_true] at t3
        have hmem : (inc, H) ∈ (xf.stages.reverse.drop lo2).take (hi2 + 1 - lo2) := by
          refine List.mem_of_getElem? (i := m - lo2) ?_
          rw [List.getElem?_take, if_pos (by omega), List.getElem?_drop, show lo2 + (m - lo2) = m by omega]
          exact I.stage
        have t4 := t3 _ hmem
        simp only at t4
        cases hop : opA e (addPend H ((masks ops).getD i 0) (xf.all.filter fun p => !inc.testBit p.1)) x.s.t o.op with
        | none => rw [hop] at t4; cases t4
        | some r =>
          cases r with
          | val v' h2 =>
            simp only [hop] at t4
            have := eqVN_eq _ _ _ t4
            subst this
            refine ⟨_, h2, fun p hp => ?_, hop⟩
            rw [List.mem_filter] at hp
            exact ⟨hp.1, by simpa using hp.2⟩
          | _ => rw [hop] at t4; cases t4

theorem Inv.sub (I : Inv e ops s0 base N xf S ρ0 h0 w0 ρ a w t h m inc H) {mk : Nat} (hm : ∀ j, mk.testBit j = true → S j) {L : Pend} (hL : ∀ p ∈ L, p ∈ xf.all ∧ inc.testBit p.1 = false) : ∀ k o, (addPend H mk L).get k = some o → h.get k = some o := by
  intro k o hk
  rcases addPend_get hk with ⟨p, h1, h2, h3, h4⟩ | h1
  · subst h3; subst h4
    exact I.m1 p (hL p h1).1 (hm _ h2) (hL p h1).2
  · exact I.m3 k o h1

theorem stepA_val {s : ASt} {h' : AHeap} (hr : opA e s.h s.t o.op = some (.val v h')) (hl : ∀ d, o.dst = some d → d < s.n) : stepA e cf rf ro o s = some { s with t := setT s.t o.dst v, h := h' } := by
  simp only [stepA_def, hr]
  exact putA_of (s := { s with h := h' }) v hl

theorem cls_bad_defer {c : Call} (h : o.op = .defer c) : cls o.op = .bad := by rw [h]; rfl

/-- The step. -/
theorem Inv.step (he : e.Ok) (hcf : CallOK e cf) (hrf : RoundOK e rf) (hro : RoRel ρ0 ro roc) (I : Inv e ops s0 base N xf S ρ0 h0 w0 ρ a w t h m inc H) (G : Glob e cf rf ro ops s0 base N xf)
    (R : Rec e cf rf ro ops s0 base N xf i o id x x' mc incc v) (ho : ops[i]? = some o) (hi : ¬ S i) (hm : ∀ j, ((masks ops).getD i 0).testBit j = true → S j) {S' : Nat → Prop} (hS : ∀ j, S' j ↔ S j ∨ j = i)
    {opsA : Array Oper} (hops : opsA.toList = ops) (n : Nat) {Q : Exit → Act → World → Prop} {K : Act → World → Prop}
    (hK : ∀ ρ' a' w' t' h' m' inc' H', Inv e ops s0 base N xf S' ρ0 h0 w0 ρ' a' w' t' h' m' inc' H' → K a' w') : wpOpIn (FF roc) n e.P opsA Q i K a w := by
  have hio : opsA[i]? = some o := by rw [← hops] at ho; simpa using ho
  have hlt : ∀ d, o.dst = some d → d < s0.n := fun d hd => by rw [← R.pre.n]; exact R.step.lt d hd
  have hsame := I.same G R ho hi hm
  have hro' : RoRel ρ ro roc := hro.mono I.fr.ext
  have fresh0 : ∀ {ρ' : Inj} {h' : AHeap} {w' : World} {g : AHeap} {b : Nat}, N ≤ b → Fr b ρ g w ρ' h' w' → ∀ p ∈ xf.all, p.1 ≠ i → ρ p.2.1 = none → ρ' p.2.1 = none := fun {ρ' h' w' g b} hb hf p hp _ hn => by
    cases hx : ρ' p.2.1 with
    | none => rfl
    | some pl =>
      have h1 := hf.ids _ hn (by rw [hx]; exact fun h => by cases h)
      have h2 := (G.allF p hp).2
      omega
  have baseN : base ≤ N := by
    have h1 := R.pre.ge
    have h2 := R.pre.sum
    omega
  unfold wpOpIn
  simp only [hio]
  have W := I.wanted G R ho hm
  rw [← hops] at W
  -- what is not acting leaves the memory's stage
  have m1k : S i → ∀ p ∈ xf.all, S p.1 → inc.testBit p.1 = false → h.get p.2.1 = some p.2.2 := fun _ => I.m1
  have notIn : ∀ p ∈ xf.all, p.1 = i → cls o.op ≠ .alloc → False := fun p hp e1 hc => by
    -- an object of a place that lays none
    obtain ⟨l, hl, hlk⟩ := R.l'.all
    rw [hl, List.mem_append] at hp
    rcases hp with hp | hp
    · have := hlk p hp; omega
    · have hall : x'.all = x.all := by
        cases R.did with
        | skip _ _ _ h2 _ _ _ => exact h2
        | pure _ _ _ _ _ h2 _ _ => exact h2
        | read _ _ _ _ _ h2 _ _ => exact h2
        | alloc _ _ _ hcc _ _ _ _ _ _ => exact absurd hcc hc
        | effect _ _ _ _ _ _ _ _ h2 _ => exact h2
      rw [hall] at hp
      have := (R.pre.allk p hp).1
      omega
  cases R.did with
  | skip hw hv h1 h2 h3 h4 h5 =>
    subst hv
    have hall : ∀ p ∈ xf.all, p.1 ≠ i := fun p hp e1 => by
      obtain ⟨l, hl, hlk⟩ := R.l'.all
      rw [hl, List.mem_append] at hp
      rcases hp with hp | hp
      · have := hlk p hp; omega
      · rw [h2] at hp
        have := (R.pre.allk p hp).1
        omega
    rw [hops] at W
    rw [hw, ← hops] at W
    rw [wanted_rel W I.rel, if_neg (by simp)]
    refine ⟨fun f _ => trivial, ?_⟩
    obtain ⟨p1, _⟩ := put_rel I.rel (putA_of undef hlt) (undef_rel ρ)
    have m1' : ∀ p ∈ xf.all, S' p.1 → inc.testBit p.1 = false → h.get p.2.1 = some p.2.2 := fun p hp hs hb => I.m1 p hp (((hS _).1 hs).resolve_right (hall p hp)) hb
    have m7' : ∀ j, inc.testBit j = true → S' j := fun j hj => (hS j).2 (.inl (I.m7 j hj))
    by_cases hc : cls o.op = .effect
    · obtain ⟨q1, q2, q3⟩ := I.at G R ho hi hm hc
      subst q1; subst q2; subst q3
      exact hK _ _ _ _ _ _ _ _ (I.next G R ho hi hm hS p1 (Fr.refl _ _ _ _) (fun _ _ _ hn => hn) (I.eff.more G.f ho hc hi hm hS).1 (R.stage' (h4 hc)) m1' I.m3 I.m4 I.m5 I.m5' m7')
    · exact hK _ _ _ _ _ _ _ _ (I.next G R ho hi hm hS p1 (Fr.refl _ _ _ _) (fun _ _ _ hn => hn) (I.eff.same ho hc hS) I.stage m1' I.m3 I.m4 I.m5 I.m5' m7')
  | pure hh hw hc hr h1 h2 h3 h4 =>
    rw [hops] at W
    rw [hw, ← hops] at W
    rw [wanted_rel W I.rel, if_pos rfl]
    have hne : cls o.op ≠ .alloc := by rw [hc]; decide
    have hop : opA e h t o.op = some (.val v h) := by rw [opA_congr hsame]; exact pure_heap hc hr h
    refine step_wp he hcf hrf (stepA_val (s := { t, n := s0.n, ds := s0.ds, h }) hop hlt) I.rel hro' n fun a1 w1 ρ1 x1 f1 => ?_
    have hNb : N ≤ h.next := by rw [I.m5]; exact I.m5'
    refine hK _ _ _ _ _ _ _ _ (I.next G R ho hi hm hS x1 (f1.mono (Nat.le_trans baseN hNb)) (fresh0 hNb f1) (I.eff.same ho (by rw [hc]; decide) hS) I.stage ?_ I.m3 I.m4 I.m5 I.m5' fun j hj => (hS j).2 (.inl (I.m7 j hj)))
    exact fun p hp hs hb => I.m1 p hp (((hS _).1 hs).resolve_right fun e1 => notIn p hp e1 hne) hb
  | read hh hw hc hr h1 h2 h3 h4 =>
    obtain ⟨L, hh2, hL, hop⟩ := I.read G R ho hi hm hc hw hr
    rw [hops] at W
    rw [hw, ← hops] at W
    rw [wanted_rel W I.rel, if_pos rfl]
    have hne : cls o.op ≠ .alloc := by rw [hc]; decide
    have hsub := I.sub hm hL
    have hgn : (addPend H ((masks ops).getD i 0) L).next = h.next := by rw [addPend_next, I.m5]
    have hh2' := read_heap hc hop
    subst hh2'
    rw [← opA_congr hsame] at hop
    have rel : SRel e ρ { t, n := s0.n, ds := s0.ds, h := addPend H ((masks ops).getD i 0) L } a w := ⟨I.rel.g, I.rel.t, I.rel.d, I.rel.m.sub hsub (Nat.le_of_eq hgn.symm)⟩
    refine step_wp he hcf hrf (stepA_val (s := { t, n := s0.n, ds := s0.ds, h := addPend H ((masks ops).getD i 0) L }) hop hlt) rel hro' n fun a1 w1 ρ1 x1 f1 => ?_
    have hNb : N ≤ (addPend H ((masks ops).getD i 0) L).next := by rw [addPend_next]; exact I.m5'
    have f2 : Fr base ρ (addPend H ((masks ops).getD i 0) L) w ρ1 (addPend H ((masks ops).getD i 0) L) w1 := f1.mono (Nat.le_trans baseN hNb)
    obtain ⟨y1, y2⟩ := WRel.extend (u' := h) I.rel.m hsub x1.m f2 (fun k ob hk => by
      cases hg : (addPend H ((masks ops).getD i 0) L).get k with
      | none => exact .inr ⟨hk, rfl⟩
      | some ob2 =>
        have := hsub k ob2 hg
        have hk' : h.get k = some ob := hk
        rw [hk'] at this; cases this
        exact .inl rfl) (Nat.le_refl _) (Nat.le_of_eq hgn)
    refine hK _ _ _ _ _ _ _ _ (I.next G R ho hi hm hS (h' := h) ⟨x1.g, x1.t, x1.d, y1⟩ y2 (fresh0 hNb f1) (I.eff.same ho (by rw [hc]; decide) hS) I.stage ?_ I.m3 I.m4 I.m5 I.m5' fun j hj => (hS j).2 (.inl (I.m7 j hj)))
    exact fun p hp hs hb => I.m1 p hp (((hS _).1 hs).resolve_right fun e1 => notIn p hp e1 hne) hb
  | alloc ob f hw hc hr hv h1 h2 h3 h4 =>
    subst hv
    rw [hops] at W
    rw [hw, ← hops] at W
    rw [wanted_rel W I.rel, if_pos rfl]
    have hin : (i, id, ob) ∈ xf.all := by
      obtain ⟨l, hl, _⟩ := R.l'.all
      rw [hl, h2]
      exact List.mem_append_right _ (List.mem_cons_self ..)
    have hid := G.allF _ hin
    have hinc : inc.testBit i = false := by
      cases hb : inc.testBit i with
      | false => rfl
      | true => exact absurd (I.m7 i hb) hi
    have hmine : ∀ p ∈ xf.all, p.2.1 = id → p = (i, id, ob) := fun p hp e1 => G.inj p _ hp hin e1
    have slot : Slot base ρ h id ob (h.set id (some ob)) :=
      ⟨I.m6 _ hin hi, hid.1, fun j => AHeap.get_set _ _ _ _, Nat.le_refl _, Nat.lt_of_lt_of_le hid.2 (by rw [AHeap.next_set, I.m5]; exact I.m5')⟩
    rw [← allocA_congr hsame] at hr
    obtain ⟨v', w1, ρ1, k1, k2, k3, k4, k5⟩ := alloc_rel he (ds := a.defers) I.rel.g I.rel.t I.rel.m hr slot
    have hsem : Oper.semAt (FF roc).round a.eval o = execOp a.eval o := Oper.semAt_eq _ _ _ fun c hcc => by
      rw [cls_bad_defer hcc] at hc; cases hc
    refine ⟨fun f _ => trivial, ?_⟩
    have ha : (Act.mk a.tmps a.defers) = a := rfl
    rw [ha] at k1
    rw [hsem, k1, Oper.uponIn_value]
    have rel : SRel e ρ1 { t, n := s0.n, ds := s0.ds, h := h.set id (some ob) } a w1 := ⟨I.rel.g.mono k4.ext, I.rel.t.mono k4.ext, I.rel.d.mono fun _ _ => DefRel.mono k4.ext, k3⟩
    obtain ⟨p1, _⟩ := put_rel rel (putA_of (f id) hlt) k2
    refine hK _ _ _ _ _ _ _ _ (I.next G R ho hi hm hS p1 k4 (fun p hp hpi hn => ?_) (I.eff.same ho (by rw [hc]; decide) hS) I.stage (fun p hp hs hb => ?_) (fun k ob2 hk => ?_) I.m4 ?_ I.m5' fun j hj => (hS j).2 (.inl (I.m7 j hj)))
    · rw [k5 _ fun e1 => hpi (by rw [hmine p hp e1])]; exact hn
    · rw [AHeap.get_set]
      by_cases e1 : p.2.1 = id
      · rw [if_pos e1, hmine p hp e1]
      · rw [if_neg e1]
        refine I.m1 p hp (((hS _).1 hs).resolve_right fun e2 => ?_) hb
        -- two objects of one place
        obtain ⟨l, hl, hlk⟩ := R.l'.all
        rw [hl, List.mem_append] at hp
        rcases hp with hp | hp
        · have := hlk p hp; omega
        · rw [h2, List.mem_cons] at hp
          rcases hp with rfl | hp
          · exact e1 rfl
          · have := (R.pre.allk p hp).1
            omega
    · rw [AHeap.get_set]
      by_cases e1 : k = id
      · rw [e1, I.m4 _ hin hinc] at hk; cases hk
      · rw [if_neg e1]; exact I.m3 k ob2 hk
    · rw [AHeap.next_set]; exact I.m5
  | effect s1 hw hc hr ht hh hcg h1 h2 h3 =>
    obtain ⟨q1, q2, q3⟩ := I.at G R ho hi hm hc
    subst q1; subst q2; subst q3
    rw [hops] at W
    rw [hw, ← hops] at W
    rw [wanted_rel W I.rel, if_pos rfl]
    have hne : cls o.op ≠ .alloc := by rw [hc]; decide
    have hL : ∀ p ∈ x.pend, p ∈ xf.all ∧ incc.testBit p.1 = false := fun p hp => by
      obtain ⟨q1, q2⟩ := (R.pre.pend p).1 hp
      obtain ⟨l, hl, _⟩ := R.l.all
      exact ⟨by rw [hl]; exact List.mem_append_right _ q1, q2⟩
    have hsub := I.sub hm hL
    have hgn : (addPend x.s.h ((masks ops).getD i 0) x.pend).next = h.next := by rw [addPend_next, I.m5]
    have hst : stepA e cf rf ro o { t, n := x.s.n, ds := x.s.ds, h := addPend x.s.h ((masks ops).getD i 0) x.pend } = some { t := setT t o.dst v, n := x.s.n, ds := x.s.ds, h := x'.s.h } := hcg t hsame
    rw [R.pre.n, R.pre.ds] at hst
    have rel : SRel e ρ { t, n := s0.n, ds := s0.ds, h := addPend x.s.h ((masks ops).getD i 0) x.pend } a w := ⟨I.rel.g, I.rel.t, I.rel.d, I.rel.m.sub hsub (Nat.le_of_eq hgn.symm)⟩
    refine step_wp he hcf hrf hst rel hro' n fun a1 w1 ρ1 x1 f1 => ?_
    have hNb : N ≤ (addPend x.s.h ((masks ops).getD i 0) x.pend).next := by rw [addPend_next]; exact I.m5'
    have f2 : Fr base ρ (addPend x.s.h ((masks ops).getD i 0) x.pend) w ρ1 x'.s.h w1 := f1.mono (Nat.le_trans baseN hNb)
    have hor : ∀ j, (Nat.lor incc ((masks ops).getD i 0)).testBit j = (incc.testBit j || ((masks ops).getD i 0).testBit j) := fun j => Nat.testBit_or _ _ _
    -- what no acting operation has taken in stands in no stage
    have gnone : ∀ p ∈ xf.all, (Nat.lor incc ((masks ops).getD i 0)).testBit p.1 = false → (addPend x.s.h ((masks ops).getD i 0) x.pend).get p.2.1 = none := fun p hp hb => by
      rw [hor, Bool.or_eq_false_iff] at hb
      cases hg : (addPend x.s.h ((masks ops).getD i 0) x.pend).get p.2.1 with
      | none => rfl
      | some ob =>
        rcases addPend_get hg with ⟨q, g1, g2, g3, g4⟩ | g1
        · have := G.inj q p (hL q g1).1 hp g3
          subst this
          rw [hb.2] at g2; cases g2
        · rw [I.m4 p hp hb.1] at g1; cases g1
    have g'none : ∀ p ∈ xf.all, (Nat.lor incc ((masks ops).getD i 0)).testBit p.1 = false → x'.s.h.get p.2.1 = none := fun p hp hb => by
      cases hg : x'.s.h.get p.2.1 with
      | none => rfl
      | some ob =>
        obtain ⟨ob2, h5⟩ := f1.old _ _ hg (Nat.lt_of_lt_of_le (G.allF p hp).2 hNb)
        rw [gnone p hp hb] at h5; cases h5
    classical
    let L2 := xf.all.filter fun p => decide (S' p.1 ∧ (Nat.lor incc ((masks ops).getD i 0)).testBit p.1 = false)
    have hL2 : ∀ p, p ∈ L2 ↔ p ∈ xf.all ∧ S' p.1 ∧ (Nat.lor incc ((masks ops).getD i 0)).testBit p.1 = false := fun p => by
      simp only [L2, List.mem_filter, decide_eq_true_eq]
    have hinj2 : ∀ p q, p ∈ L2 → q ∈ L2 → p.2.1 = q.2.1 → p = q := fun p q hp hq => G.inj p q ((hL2 p).1 hp).1 ((hL2 q).1 hq).1
    obtain ⟨y1, y2⟩ := WRel.extend (u' := addAll x'.s.h L2) I.rel.m hsub x1.m f2 (fun k ob hk => by
      rcases addAll_or hinj2 hk with ⟨p, hp, rfl, rfl⟩ | hk
      · obtain ⟨g1, g2, g3⟩ := (hL2 p).1 hp
        refine .inr ⟨?_, gnone p g1 g3⟩
        have g4 : incc.testBit p.1 = false := by rw [hor, Bool.or_eq_false_iff] at g3; exact g3.1
        exact I.m1 p g1 (((hS _).1 g2).resolve_right fun e1 => notIn p g1 e1 hne) g4
      · exact .inl hk) (by
        rw [addAll_next]
        show h.next ≤ x'.s.h.next
        rw [← hgn]; exact f1.next) (by rw [addAll_next]; exact Nat.le_refl _)
    have hnext : N ≤ x'.s.h.next := Nat.le_trans hNb f1.next
    refine hK _ _ _ _ _ _ _ _ (I.next G R ho hi hm hS (h' := addAll x'.s.h L2) ⟨x1.g, x1.t, x1.d, y1⟩ y2 (fresh0 hNb f1) (I.eff.more G.f ho hc hi hm hS).1 (R.stage' h3) (fun p hp hs hb => ?_) (fun k ob hk => ?_) (fun p hp hb => g'none p hp hb) (addAll_next _ _) hnext fun j hj => ?_)
    · exact addAll_in hinj2 p ((hL2 p).2 ⟨hp, hs, hb⟩)
    · by_cases hx : ∃ p ∈ L2, p.2.1 = k
      · obtain ⟨p, hp, rfl⟩ := hx
        obtain ⟨g1, g2, g3⟩ := (hL2 p).1 hp
        rw [g'none p g1 g3] at hk; cases hk
      · rw [addAll_out fun p hp e1 => hx ⟨p, hp, e1⟩]; exact hk
    · rw [hor, Bool.or_eq_true] at hj
      rcases hj with hj | hj
      · exact (hS j).2 (.inl (I.m7 j hj))
      · exact (hS j).2 (.inl (hm j hj))

end
end Go.Abs
end

section
/-
  A region that draws its order, all of whose operations but the last lay new memory alone: what is read may be taken first.
-/
namespace Go.Abs
open Go
section
variable {P : Program} {ops : Array Oper} {Q : Exit → Act → World → Prop} {md : Region.Mode} {R : World → World → Prop}

/-- Whatever order is picked; what was there stays, but at the last operation. -/
def wpAnyO (P : Program) (md : Region.Mode) (ops : Array Oper) (Q : Exit → Act → World → Prop) (R : World → World → Prop) (last : Nat) : Nat → Array Bool → Act → World → Prop
  | 0, listed, a, w => Region.ready md ops listed = [] ∧ Q .normal a w
  | fuel + 1, listed, a, w =>
    (Region.ready md ops listed = [] → Q .normal a w) ∧
    ∀ i ∈ Region.ready md ops listed, wpOp P ops Q i (fun a' w' => (i ≠ last → R w w') ∧ wpAnyO P md ops Q R last fuel (listed.setIfInBounds i true) a' w') a w

theorem wpAny_of_O {last : Nat} : ∀ (fuel : Nat) (listed : Array Bool) (a : Act) (w : World), wpAnyO P md ops Q R last fuel listed a w → wpAny P md ops Q fuel listed a w
  | 0, _, _, _, h => h
  | fuel + 1, _, _, _, h => ⟨h.1, fun i hi => wpOp_mono (fun a' w' h' => wpAny_of_O fuel _ a' w' h'.2) (h.2 i hi)⟩

/-- The last operation waits for every other one. -/
def lastB (md : Region.Mode) (ops : Array Oper) (last : Nat) : Bool :=
  match ops[last]? with
  | some ol => (List.range ops.size).all fun i => Nat.beq i last || ol.after.any fun e => Region.binds md e && e.on == i
  | none => false
theorem lastB_spec {last i : Nat} {listed : Array Bool} (h : lastB md ops last = true) (hi : i < ops.size) (hne : i ≠ last) (hun : listed.getD i false = false) : last ∉ Region.ready md ops listed := by
  intro hl
  obtain ⟨_, ol, hol, hall⟩ := mem_ready.1 hl
  simp only [lastB, hol, List.all_eq_true, List.mem_range, Bool.or_eq_true] at h
  rcases h i hi with h1 | h1
  · exact hne (Nat.eq_of_beq_eq_true h1)
  · obtain ⟨e, he, hb⟩ := Array.any_eq_true'.1 h1
    simp only [Bool.and_eq_true, beq_iff_eq] at hb
    have := hall e he hb.1
    rw [hb.2, hun] at this
    cases this

theorem YieldsIf.old {o : Oper} {v : Value} {a : Act} {w w' : World} (ht : ∀ a b c, R a b → R b c → R a c) (h : YieldsIf P ops (R w) o v a) (ho : R w w') : YieldsIf P ops (R w') o v a :=
  h.imp (fun ⟨hw, hv⟩ => ⟨hw, fun x hx => hv x (ht _ _ _ ho hx)⟩) id

theorem wpAnyO_first (hrf : ∀ w, R w w) (htr : ∀ a b c, R a b → R b c → R a c) {last i : Nat} {oi : Oper} {v : Value} (hi : ops[i]? = some oi) (hsel : ∀ (j : Nat) (o : Oper) cs b, ops[j]? = some o → o.op ≠ .select cs b)
    (hQ : ∀ c a w, Q (.panic c) (a.put oi.dst v) w → Q (.panic c) a w) (hl : lastB md ops last = true) (hil : i ≠ last) :
    ∀ (fuel : Nat) (listed : Array Bool) (a : Act) (w : World),
      (∀ j oj, ops[j]? = some oj → j ≠ i → listed.getD j true = false → (∀ e ∈ oj.after, Region.binds md e = true → e.on ≠ i) → oi.apart ops oj = true) →
      i ∈ Region.ready md ops listed → YieldsIf P ops (R w) oi v a →
      wpAnyO P md ops Q R last fuel (listed.setIfInBounds i true) (a.put oi.dst v) w → wpAnyO P md ops Q R last (fuel + 1) listed a w := by
  intro fuel
  induction fuel with
  | zero =>
    intro listed a w _ hr hy H
    refine ⟨fun h => (by rw [h] at hr; cases hr), fun j hj => ?_⟩
    by_cases hji : j = i
    · subst hji; exact hy.wpOp hi (hrf w) ⟨fun _ => hrf w, H⟩
    · have := ready_mono hj hji
      rw [H.1] at this
      cases this
  | succ fuel ih =>
    intro listed a w hfree hr hy H
    refine ⟨fun h => (by rw [h] at hr; cases hr), fun j hj => ?_⟩
    by_cases hji : j = i
    · subst hji; exact hy.wpOp hi (hrf w) ⟨fun _ => hrf w, H⟩
    · have h1 := H.2 j (ready_mono hj hji)
      obtain ⟨hjun, oj, hoj, hall⟩ := mem_ready.1 hj
      have hun0 : listed.getD i false = false := by
        have h0 := (mem_ready.1 hr).1
        rcases Nat.lt_or_ge i listed.size with h' | h'
        · simp [h'] at h0 ⊢; exact h0
        · simp [Array.getElem?_eq_none h'] at h0
      have hjl : j ≠ last := fun e => by
        subst e
        exact lastB_spec hl (Array.getElem?_eq_some_iff.1 hi).1 hil hun0 hj
      have hnot : ∀ e ∈ oj.after, Region.binds md e = true → e.on ≠ i := fun e he hb heq => by
        have h1 := hall e he hb
        rw [heq, hun0] at h1
        cases h1
      have h2 := wpOp_putIf hoj (hfree j oj hoj hji hjun hnot) (fun cs b => hsel i oi cs b hi) (fun cs b => hsel j oj cs b hoj) hQ hy h1
      have hfree' : ∀ k ok, ops[k]? = some ok → k ≠ i → (listed.setIfInBounds j true).getD k true = false →
          (∀ e ∈ ok.after, Region.binds md e = true → e.on ≠ i) → oi.apart ops ok = true := fun k ok hk hki hun hno => by
        refine hfree k ok hk hki ?_ hno
        by_cases hjk : j = k
        · subst hjk; exact hjun
        · rw [getD_set_ne true hjk] at hun; exact hun
      refine wpOp_mono (fun a' w' h3 => ⟨h3.2.1, ih (listed.setIfInBounds j true) a' w' hfree' (ready_mono hr (Ne.symm hji)) (YieldsIf.old htr h3.1 (h3.2.1 hjl)) ?_⟩) h2
      rw [Array.setIfInBounds_comm _ _ hji]
      exact h3.2.2

theorem wpAnyO_take (hrf : ∀ w, R w w) (htr : ∀ a b c, R a b → R b c → R a c) {last i : Nat} {oi : Oper} {v : Value} {fuel : Nat} {listed : Array Bool} {a : Act} {w : World} (hi : ops[i]? = some oi)
    (hs : (Region.noSelect ops && (lastB md ops last && (Region.free md ops listed i && ((Region.ready md ops listed).contains i && !(i == last))))) = true)
    (hQ : ∀ c a w, Q (.panic c) (a.put oi.dst v) w → Q (.panic c) a w) (hy : YieldsIf P ops (R w) oi v a)
    (h : wpAnyO P md ops Q R last fuel (listed.setIfInBounds i true) (a.put oi.dst v) w) : wpAnyO P md ops Q R last (fuel + 1) listed a w := by
  simp only [Bool.and_eq_true, Bool.not_eq_true', beq_eq_false_iff_ne] at hs
  obtain ⟨h1, h2, h3, h4, h5⟩ := hs
  exact wpAnyO_first hrf htr hi (Region.noSelect_spec h1) hQ h2 h5 fuel listed a w (Region.free_spec hi h3) (by simpa using h4) hy h

/-- One comes up. -/
theorem wpOp_stepO {i last : Nat} {o : Oper} {fuel : Nat} {listed : Array Bool} {a : Act} {w : World} (ho : ops[i]? = some o)
    (h : ∀ K' : Act → World → Prop, (∀ a' w', (i ≠ last → R w w') → wpAnyO P md ops Q R last fuel (listed.setIfInBounds i true) a' w' → K' a' w') → if Region.wanted o (yielded ops a.tmps) = true then Oper.wp P o a w K' Q else K' (a.put o.dst undef) w) :
    wpOp P ops Q i (fun a' w' => (i ≠ last → R w w') ∧ wpAnyO P md ops Q R last fuel (listed.setIfInBounds i true) a' w') a w := by
  have := h (fun a' w' => (i ≠ last → R w w') ∧ wpAnyO P md ops Q R last fuel (listed.setIfInBounds i true) a' w') fun a' w' h1 h2 => ⟨h1, h2⟩
  unfold wpOp
  rw [ho]
  show if Region.wanted o (yielded ops a.tmps) = true then _ else _
  split
  · rename_i hw; rw [if_pos hw] at this; exact .inl this
  · rename_i hw; rw [if_neg hw] at this; exact this
theorem wpAnyO_one {i last : Nat} {o : Oper} {fuel : Nat} {listed : Array Bool} {a : Act} {w : World} (hr : Region.ready md ops listed = [i]) (ho : ops[i]? = some o)
    (h : ∀ K' : Act → World → Prop, (∀ a' w', (i ≠ last → R w w') → wpAnyO P md ops Q R last fuel (listed.setIfInBounds i true) a' w' → K' a' w') → if Region.wanted o (yielded ops a.tmps) = true then Oper.wp P o a w K' Q else K' (a.put o.dst undef) w) :
    wpAnyO P md ops Q R last (fuel + 1) listed a w :=
  ⟨fun h0 => (by rw [hr] at h0; cases h0), fun j hj => by rw [hr] at hj; rw [List.mem_singleton.1 hj]; exact wpOp_stepO ho h⟩
theorem wpAnyO_two {i j last : Nat} {o o' : Oper} {fuel : Nat} {listed : Array Bool} {a : Act} {w : World} (hr : Region.ready md ops listed = [i, j]) (ho : ops[i]? = some o) (ho' : ops[j]? = some o')
    (h : ∀ K' : Act → World → Prop, (∀ a' w', (i ≠ last → R w w') → wpAnyO P md ops Q R last fuel (listed.setIfInBounds i true) a' w' → K' a' w') → if Region.wanted o (yielded ops a.tmps) = true then Oper.wp P o a w K' Q else K' (a.put o.dst undef) w)
    (h' : ∀ K' : Act → World → Prop, (∀ a' w', (j ≠ last → R w w') → wpAnyO P md ops Q R last fuel (listed.setIfInBounds j true) a' w' → K' a' w') → if Region.wanted o' (yielded ops a.tmps) = true then Oper.wp P o' a w K' Q else K' (a.put o'.dst undef) w) :
    wpAnyO P md ops Q R last (fuel + 1) listed a w :=
  ⟨fun h0 => (by rw [hr] at h0; cases h0), fun k hk => by
    rw [hr] at hk
    rcases List.mem_cons.1 hk with rfl | hk
    · exact wpOp_stepO ho h
    · rw [List.mem_singleton.1 hk]; exact wpOp_stepO ho' h'⟩
theorem wpAnyO_done {last : Nat} {listed : Array Bool} {a : Act} {w : World} (hr : Region.ready md ops listed = []) (h : Q .normal a w) : ∀ fuel, wpAnyO P md ops Q R last fuel listed a w
  | 0 => ⟨hr, h⟩
  | _ + 1 => ⟨fun _ => h, by rw [hr]; simp⟩
theorem wp_region_O (R : World → World → Prop) {id : Nat} {a : Act} {w : World} (last : Nat) (hm : P.follows .mixedOrders = true)
    (h : wpAnyO P .any ops Q R last ops.size (Array.replicate ops.size false) a w.drew) : (Code.region id ops true).wp P Q a w :=
  wp_region_any hm (wpAny_of_O _ _ _ _ h)
end
end Go.Abs
end

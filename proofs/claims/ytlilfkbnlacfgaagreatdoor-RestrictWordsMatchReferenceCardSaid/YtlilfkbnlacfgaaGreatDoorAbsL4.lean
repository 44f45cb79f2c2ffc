/-
  Regions that draw their order: whatever the order, the run's end.
-/
import Derived.Test.YtlilfkbnlacfgaaGreatDoorAbsL3
namespace Go.Abs
variable {e : Env}

/-! ## Memory laid over memory -/
theorem addPend_next (h : AHeap) (m : Nat) : ∀ L : Pend, (addPend h m L).next = h.next
  | [] => rfl
  | (i, id, o) :: r => by
    simp only [addPend]
    cases m.testBit i with
    | true => exact addPend_next h m r
    | false => exact addPend_next h m r
theorem addPend_get {h : AHeap} {m : Nat} : ∀ {L : Pend} {k : Nat} {o : AObj}, (addPend h m L).get k = some o → (∃ p ∈ L, m.testBit p.1 = true ∧ p.2.1 = k ∧ p.2.2 = o) ∨ h.get k = some o
  | [], k, o, hk => .inr hk
  | (i, id, ob) :: r, k, o, hk => by
    simp only [addPend] at hk
    have tail : (addPend h m r).get k = some o → (∃ p ∈ (i, id, ob) :: r, m.testBit p.1 = true ∧ p.2.1 = k ∧ p.2.2 = o) ∨ h.get k = some o := fun ht => by
      rcases addPend_get ht with ⟨p, h1, h2⟩ | h1
      · exact .inl ⟨p, List.mem_cons_of_mem _ h1, h2⟩
      · exact .inr h1
    cases hb : m.testBit i with
    | true =>
      simp only [hb, cond_true, AHeap.get_set] at hk
      by_cases hkid : k = id
      · rw [if_pos hkid] at hk; cases hk
        exact .inl ⟨(i, id, ob), List.mem_cons_self .., hb, hkid.symm, rfl⟩
      · rw [if_neg hkid] at hk; exact tail hk
    | false => simp only [hb, cond_false] at hk; exact tail hk

theorem addAll_next (h : AHeap) : ∀ L : Pend, (addAll h L).next = h.next
  | [] => rfl
  | (_, _, _) :: r => addAll_next h r
theorem addAll_in {h : AHeap} : ∀ {L : Pend}, (∀ p q, p ∈ L → q ∈ L → p.2.1 = q.2.1 → p = q) → ∀ p ∈ L, (addAll h L).get p.2.1 = some p.2.2
  | [], _, p, hp => by cases hp
  | (i, id, o) :: r, hi, p, hp => by
    simp only [addAll, AHeap.get_set]
    by_cases hk : p.2.1 = id
    · have := hi p (i, id, o) hp (List.mem_cons_self ..) hk
      subst this; simp
    · rw [if_neg hk]
      rcases List.mem_cons.1 hp with rfl | hp'
      · exact absurd rfl hk
      · exact addAll_in (fun p q h1 h2 => hi p q (List.mem_cons_of_mem _ h1) (List.mem_cons_of_mem _ h2)) p hp'
theorem addAll_out {h : AHeap} {k : Nat} : ∀ {L : Pend}, (∀ p ∈ L, p.2.1 ≠ k) → (addAll h L).get k = h.get k
  | [], _ => rfl
  | (i, id, o) :: r, hk => by
    simp only [addAll, AHeap.get_set]
    rw [if_neg (fun e => hk (i, id, o) (List.mem_cons_self ..) e.symm)]
    exact addAll_out fun p hp => hk p (List.mem_cons_of_mem _ hp)
theorem addAll_or {h : AHeap} {L : Pend} (hi : ∀ p q, p ∈ L → q ∈ L → p.2.1 = q.2.1 → p = q) {k : Nat} {o : AObj} (hk : (addAll h L).get k = some o) : (∃ p ∈ L, p.2.1 = k ∧ p.2.2 = o) ∨ h.get k = some o := by
  by_cases hx : ∃ p ∈ L, p.2.1 = k
  · obtain ⟨p, hp, rfl⟩ := hx
    rw [addAll_in hi p hp] at hk; cases hk
    exact .inl ⟨p, hp, rfl, rfl⟩
  · rw [addAll_out fun p hp e => hx ⟨p, hp, e⟩] at hk
    exact .inr hk

/-- Less memory, nothing else. -/
theorem Fr.less {b : Nat} {ρ : Inj} {h g : AHeap} {w : World} (hs : ∀ i o, g.get i = some o → h.get i = some o) (hn : h.next ≤ g.next) : Fr b ρ h w ρ g w :=
  ⟨Ext.refl _, rfl, rfl, Nat.le_refl _, fun _ => rfl, fun _ _ _ => rfl, fun j o pl h1 h2 h3 => .inl ⟨j, o, pl, hs j o h1, h2, h3, rfl⟩,
    fun j o h1 _ => hs j o h1, fun _ h h' => absurd h h', fun j o h1 _ => ⟨o, hs j o h1⟩, hn⟩

theorem EffAt.uniq {ops : List Oper} {S S' : Nat → Prop} {m m' : Nat} (h : EffAt ops S m) (h' : EffAt ops S' m') (hS : ∀ (p i k : Nat), (effs ops)[p]? = some (i, k) → (S i ↔ S' i)) : m = m' := by
  rcases Nat.lt_trichotomy m m' with hl | rfl | hl
  · exfalso
    have hq := List.getElem?_eq_getElem (Nat.lt_of_lt_of_le hl h'.1)
    generalize (effs ops)[m]'(Nat.lt_of_lt_of_le hl h'.1) = jk at hq
    obtain ⟨j, k⟩ := jk
    have := (h.2 _ _ _ hq).1 ((hS _ _ _ hq).2 ((h'.2 _ _ _ hq).2 hl))
    omega
  · rfl
  · exfalso
    have hq := List.getElem?_eq_getElem (Nat.lt_of_lt_of_le hl h.1)
    generalize (effs ops)[m']'(Nat.lt_of_lt_of_le hl h.1) = jk at hq
    obtain ⟨j, k⟩ := jk
    have := (h'.2 _ _ _ hq).1 ((hS _ _ _ hq).1 ((h.2 _ _ _ hq).2 hl))
    omega

/-! ## The run taken as a whole -/
structure Rec (e : Env) (cf : CallF) (rf : RoundF) (ro : Option Nat) (ops : List Oper) (s0 : ASt) (base N : Nat) (xf : DSt) (i : Nat) (o : Oper) (id : Nat) (x x' : DSt) (m inc : Nat) (v : Value) : Prop where
  pre : Pre s0 base N ops i id x m inc
  step : Step x x' o v
  did : Did e cf rf ro ops i id ((masks ops).getD i 0) o x x' inc v
  l : Link ops i x xf
  l' : Link ops (i + 1) x' xf

structure Glob (e : Env) (cf : CallF) (rf : RoundF) (ro : Option Nat) (ops : List Oper) (s0 : ASt) (base N : Nat) (xf : DSt) : Prop where
  f : DrawFacts ops (masks ops)
  recs : ∀ (i : Nat) (o : Oper), ops[i]? = some o → ∃ id x x' m inc v, Rec e cf rf ro ops s0 base N xf i o id x x' m inc v
  t0 : ∀ d, (∀ (j : Nat) (o : Oper), ops[j]? = some o → o.dst ≠ some d) → xf.s.t.get d = s0.t.get d
  allF : ∀ p ∈ xf.all, base ≤ p.2.1 ∧ p.2.1 < N
  inj : ∀ p q, p ∈ xf.all → q ∈ xf.all → p.2.1 = q.2.1 → p = q
  readers : (effs ops).length = 0 ∨ readersOk e ops xf xf.stages.reverse (effs ops) (ops.zip (masks ops)) xf.snaps.reverse 0 = true

structure Inv (e : Env) (ops : List Oper) (s0 : ASt) (base N : Nat) (xf : DSt) (S : Nat → Prop) (ρ0 : Inj) (h0 : AHeap) (w0 : World) (ρ : Inj) (a : Act) (w : World) (t : Tr Value) (h : AHeap) (m inc : Nat) (H : AHeap) : Prop where
  closed : ∀ i, S i → ∀ j, ((masks ops).getD i 0).testBit j = true → S j
  t1 : ∀ (j : Nat) (o : Oper) (d : Tmp), S j → ops[j]? = some o → o.dst = some d → t.get d = xf.s.t.get d
  t2 : ∀ d, (∀ (j : Nat) (o : Oper), S j → ops[j]? = some o → o.dst ≠ some d) → t.get d = s0.t.get d
  rel : SRel e ρ { t, n := s0.n, ds := s0.ds, h } a w
  fr : Fr base ρ0 h0 w0 ρ h w
  eff : EffAt ops S m
  stage : xf.stages.reverse[m]? = some (inc, H)
  m1 : ∀ p ∈ xf.all, S p.1 → inc.testBit p.1 = false → h.get p.2.1 = some p.2.2
  m3 : ∀ k o, H.get k = some o → h.get k = some o
  m4 : ∀ p ∈ xf.all, inc.testBit p.1 = false → H.get p.2.1 = none
  m5 : h.next = H.next
  m5' : N ≤ H.next
  m6 : ∀ p ∈ xf.all, ¬ S p.1 → ρ p.2.1 = none
  m7 : ∀ j, inc.testBit j = true → S j

theorem stage_of {ops : List Oper} {k : Nat} {x xf : DSt} {q : Nat × AHeap} {tl : List (Nat × AHeap)} {m : Nat} (hs : x.stages = q :: tl) (hl : x.stages.length = m + 1) (l : Link ops k x xf) : xf.stages.reverse[m]? = some q := by
  obtain ⟨l, hl'⟩ := l.stages
  rw [hl', hs]
  rw [hs] at hl
  simp only [List.length_cons] at hl
  rw [List.reverse_append, List.reverse_cons, List.append_assoc, List.getElem?_append_right (by simp; omega)]
  have : m - tl.reverse.length = 0 := by simp; omega
  rw [this]; rfl

section
variable {cf : CallF} {rf : RoundF} {ro : Option Nat} {ops : List Oper} {s0 : ASt} {base N : Nat} {xf : DSt} {S : Nat → Prop} {ρ0 : Inj} {h0 : AHeap} {w0 : World} {ρ : Inj} {a : Act} {w : World} {t : Tr Value} {h : AHeap} {m inc : Nat} {H : AHeap}
variable {i : Nat} {o : Oper} {id : Nat} {x x' : DSt} {mc incc : Nat} {v : Value}

/-- The slots an operation looks at. -/
theorem Inv.same (I : Inv e ops s0 base N xf S ρ0 h0 w0 ρ a w t h m inc H) (G : Glob e cf rf ro ops s0 base N xf) (R : Rec e cf rf ro ops s0 base N xf i o id x x' mc incc v) (ho : ops[i]? = some o) (hi : ¬ S i)
    (hm : ∀ j, ((masks ops).getD i 0).testBit j = true → S j) : Same t x.s.t o.op.operands.toList := by
  intro d hd
  by_cases hw : ∃ (j : Nat) (p : Oper), ops[j]? = some p ∧ p.dst = some d
  · obtain ⟨j, p, hj, hpd⟩ := hw
    obtain ⟨u1, u2, u3⟩ := G.f.use j p i o d hj ho hpd hd
    rcases Nat.lt_or_gt_of_ne u1 with hl | hl
    · rw [I.t1 j p d (hm j (u2 hl)) hj hpd]
      refine R.l.t d fun k q hk hq hqd => ?_
      have := G.f.once j p k q d hj hq hpd hqd
      omega
    · have hnS : ¬ S j := fun hS => hi (I.closed j hS i (u3 hl))
      rw [I.t2 d fun k q hS hq hqd => hnS (G.f.once k q j p d hq hj hqd hpd ▸ hS)]
      refine (R.pre.t d fun k q hk hq hqd => ?_).symm
      have := G.f.once j p k q d hj hq hpd hqd
      omega
  · rw [I.t2 d fun j p _ hj hpd => hw ⟨j, p, hj, hpd⟩]
    exact (R.pre.t d fun j p _ hj hpd => hw ⟨j, p, hj, hpd⟩).symm

theorem Inv.wanted (I : Inv e ops s0 base N xf S ρ0 h0 w0 ρ a w t h m inc H) (G : Glob e cf rf ro ops s0 base N xf) (R : Rec e cf rf ro ops s0 base N xf i o id x x' mc incc v) (ho : ops[i]? = some o)
    (hm : ∀ j, ((masks ops).getD i 0).testBit j = true → S j) : wantedA ops { t, n := s0.n, ds := s0.ds, h } o = wantedA ops x.s o := by
  unfold wantedA
  cases hg : o.guard with
  | none => rfl
  | some jw =>
    obtain ⟨j, want⟩ := jw
    simp only
    cases hd : (ops[j]?).bind (·.dst) with
    | none => rfl
    | some d =>
      obtain ⟨p, hj, hpd⟩ := of_bind hd
      have hb := G.f.guard i o j want ho hg
      have hji := mask_lt G.f i o j ho hb
      have e1 : t.get d = xf.s.t.get d := I.t1 j p d (hm j hb) hj hpd
      have e2 : xf.s.t.get d = x.s.t.get d := R.l.t d fun k q hk hq hqd => by
        have := G.f.once j p k q d hj hq hpd hqd
        omega
      simp only [e1, e2]

/-- One operation more. -/
theorem Inv.next (I : Inv e ops s0 base N xf S ρ0 h0 w0 ρ a w t h m inc H) (G : Glob e cf rf ro ops s0 base N xf) (R : Rec e cf rf ro ops s0 base N xf i o id x x' mc incc v) (ho : ops[i]? = some o) (hi : ¬ S i)
    (hm : ∀ j, ((masks ops).getD i 0).testBit j = true → S j) {S' : Nat → Prop} (hS : ∀ j, S' j ↔ S j ∨ j = i) {ρ' : Inj} {a' : Act} {w' : World} {h' : AHeap} {m' inc' : Nat} {H' : AHeap}
    (rel : SRel e ρ' { t := setT t o.dst v, n := s0.n, ds := s0.ds, h := h' } a' w') (fr : Fr base ρ h w ρ' h' w') (fresh : ∀ p ∈ xf.all, p.1 ≠ i → ρ p.2.1 = none → ρ' p.2.1 = none)
    (eff : EffAt ops S' m') (stage : xf.stages.reverse[m']? = some (inc', H')) (m1 : ∀ p ∈ xf.all, S' p.1 → inc'.testBit p.1 = false → h'.get p.2.1 = some p.2.2)
    (m3 : ∀ k o, H'.get k = some o → h'.get k = some o) (m4 : ∀ p ∈ xf.all, inc'.testBit p.1 = false → H'.get p.2.1 = none) (m5 : h'.next = H'.next) (m5' : N ≤ H'.next) (m7 : ∀ j, inc'.testBit j = true → S' j) :
    Inv e ops s0 base N xf S' ρ0 h0 w0 ρ' a' w' (setT t o.dst v) h' m' inc' H' := by
  refine ⟨fun k hk j hj => ?_, fun j p d hj hp hd => ?_, fun d hd => ?_, rel, I.fr.trans fr, eff, stage, m1, m3, m4, m5, m5', fun p hp hn => ?_, m7⟩
  · rw [hS] at hk ⊢
    rcases hk with hk | rfl
    · exact .inl (I.closed k hk j hj)
    · exact .inl (hm j hj)
  · rw [setT_get]
    by_cases hod : o.dst = some d
    · rw [if_pos hod, R.l'.t d fun k q hk hq hqd => by
        have := G.f.once i o k q d ho hq hod hqd
        omega, R.step.t, setT_get, if_pos hod]
    · rw [if_neg hod]
      rcases (hS j).1 hj with hj' | rfl
      · exact I.t1 j p d hj' hp hd
      · rw [ho] at hp; cases hp; exact absurd hd hod
  · rw [setT_get, if_neg (hd i o ((hS i).2 (.inr rfl)) ho)]
    exact I.t2 d fun j p hj hp => hd j p ((hS j).2 (.inl hj)) hp
  · have h1 : ¬ S p.1 := fun hs => hn ((hS _).2 (.inl hs))
    have h2 : p.1 ≠ i := fun hs => hn ((hS _).2 (.inr hs))
    exact fresh p hp h2 (I.m6 p hp h1)

end

end Go.Abs

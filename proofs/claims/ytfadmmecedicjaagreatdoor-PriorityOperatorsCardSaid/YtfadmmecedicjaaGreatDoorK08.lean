/-
  PriorityOperators: parts of its proof (AbsL2 AbsL3).
-/
import Derived.OrdersIn
import Derived.Test.YtfadmmecedicjaaGreatDoorK07
set_option linter.unusedVariables false
set_option linter.unusedSimpArgs false

section
/-
  Regions that draw their order: what the check on the text gives.
-/
namespace Go.Abs

theorem masksFrom_length : ∀ (ops : List Oper) (acc : List Nat), (masksFrom ops acc).length = acc.length + ops.length
  | [], acc => by simp [masksFrom]
  | o :: r, acc => by
    simp only [masksFrom, masksFrom_length r, List.length_cons]
    omega

theorem masksFrom_old : ∀ (ops : List Oper) (acc : List Nat) (i : Nat), i < acc.length → (masksFrom ops acc).getD i 0 = acc.reverse.getD i 0
  | [], acc, i, h => by simp [masksFrom]
  | o :: r, acc, i, h => by
    simp only [masksFrom]
    rw [masksFrom_old r _ i (by simp; omega)]
    simp only [List.reverse_cons, List.getD_eq_getElem?_getD]
    rw [List.getElem?_append_left (by simpa using h)]

theorem fold_mask (look : Nat → Nat) (j : Nat) : ∀ (l : List Edge) (s : Nat), (l.foldl (fun s x => bif Region.binds .any x then Nat.lor s (Nat.lor (2 ^ x.on) (look x.on)) else s) s).testBit j = true →
    s.testBit j = true ∨ ∃ x ∈ l, Region.binds .any x = true ∧ (j = x.on ∨ (look x.on).testBit j = true)
  | [], s, h => .inl h
  | x :: l, s, h => by
    rcases fold_mask look j l _ h with h1 | ⟨y, h1, h2⟩
    · cases hb : Region.binds .any x with
      | true =>
        simp only [hb, cond_true] at h1
        have h1' : (s ||| (2 ^ x.on ||| look x.on)).testBit j = true := h1
        rw [Nat.testBit_or, Nat.testBit_or, Bool.or_eq_true, Bool.or_eq_true] at h1'
        rcases h1' with h2 | h2 | h2
        · exact .inl h2
        · rw [Nat.testBit_two_pow] at h2
          exact .inr ⟨x, List.mem_cons_self .., hb, .inl (by simpa using (of_decide_eq_true h2).symm)⟩
        · exact .inr ⟨x, List.mem_cons_self .., hb, .inr h2⟩
      | false => simp only [hb, cond_false] at h1; exact .inl h1
    · exact .inr ⟨y, List.mem_cons_of_mem _ h1, h2⟩

theorem masksFrom_spec : ∀ (ops : List Oper) (acc : List Nat) (k : Nat) (o : Oper) (j : Nat), ops[k]? = some o → ((masksFrom ops acc).getD (acc.length + k) 0).testBit j = true →
    ∃ x ∈ o.after.toList, Region.binds .any x = true ∧ (j = x.on ∨ ((masksFrom ops acc).getD x.on 0).testBit j = true)
  | [], _, _, _, _, h, _ => by simp at h
  | o :: r, acc, 0, o', j, h, hj => by
    simp at h; subst h
    simp only [masksFrom, Nat.add_zero] at hj ⊢
    rw [masksFrom_old r _ _ (by simp)] at hj
    simp only [List.reverse_cons, List.getD_eq_getElem?_getD] at hj
    rw [List.getElem?_append_right (by simp)] at hj
    simp only [List.length_reverse, Nat.sub_self, List.getElem?_cons_zero, Option.getD_some] at hj
    rcases fold_mask (fun i => acc.reverse[i]?.getD 0) j _ _ hj with h1 | ⟨x, h1, h2, h3⟩
    · simp at h1
    · refine ⟨x, h1, h2, h3.imp id fun h4 => ?_⟩
      by_cases hl : x.on < acc.length
      · rw [masksFrom_old r _ _ (by simp; omega)]
        simp only [List.reverse_cons, List.getD_eq_getElem?_getD]
        rw [List.getElem?_append_left (by simpa using hl)]
        simpa [List.getD_eq_getElem?_getD] using h4
      · rw [List.getElem?_eq_none (by simpa using hl)] at h4
        simp at h4
  | o :: r, acc, k + 1, o', j, h, hj => by
    simp at h
    simp only [masksFrom] at hj ⊢
    refine masksFrom_spec r _ k o' j h ?_
    simp only [List.length_cons]
    rw [show acc.length + 1 + k = acc.length + (k + 1) by omega]
    exact hj

theorem masks_spec {ops : List Oper} {i j : Nat} {o : Oper} (ho : ops[i]? = some o) (h : ((masks ops).getD i 0).testBit j = true) :
    ∃ x ∈ o.after.toList, Region.binds .any x = true ∧ (j = x.on ∨ ((masks ops).getD x.on 0).testBit j = true) := by
  have := masksFrom_spec ops [] i o j ho (by simpa [masks] using h)
  simpa [masks] using this

theorem masks_length (ops : List Oper) : (masks ops).length = ops.length := by simp [masks, masksFrom_length]

/-! ## What the check gives -/
theorem mem_zipIdx_of {α : Type} {l : List α} {i : Nat} {a : α} (h : l[i]? = some a) : (a, i) ∈ l.zipIdx := by
  rw [List.mem_zipIdx_iff_getElem?]; exact h

structure DrawFacts (ops : List Oper) (ms : List Nat) : Prop where
  back : ∀ (i : Nat) (o : Oper), ops[i]? = some o → ∀ x ∈ o.after.toList, Region.binds .any x = true → x.on < i
  guard : ∀ (i : Nat) (o : Oper) (j : Nat) (b : Bool), ops[i]? = some o → o.guard = some (j, b) → (ms.getD i 0).testBit j = true
  once : ∀ (i : Nat) (o : Oper) (j : Nat) (p : Oper) (d : Tmp), ops[i]? = some o → ops[j]? = some p → o.dst = some d → p.dst = some d → i = j
  use : ∀ (i : Nat) (o : Oper) (j : Nat) (p : Oper) (d : Tmp), ops[i]? = some o → ops[j]? = some p → o.dst = some d → Operand.tmp d ∈ p.op.operands.toList → i ≠ j ∧ (i < j → (ms.getD j 0).testBit i = true) ∧ (j < i → (ms.getD i 0).testBit j = true)
  effs : ∀ (i : Nat) (o : Oper) (j : Nat) (p : Oper), ops[i]? = some o → ops[j]? = some p → cls o.op = .effect → cls p.op = .effect → i < j → (ms.getD j 0).testBit i = true

theorem mem_tmpsOf {o : Oper} {d : Tmp} (h : Operand.tmp d ∈ o.op.operands.toList) : (tmpsOf o).contains d = true := by
  simp only [tmpsOf, List.contains_eq_mem, decide_eq_true_eq, List.mem_filterMap]
  exact ⟨_, h, rfl⟩

theorem drawOk_facts {ops : List Oper} {ms : List Nat} (h : drawOk ops ms = true) : DrawFacts ops ms := by
  simp only [drawOk, Bool.and_eq_true, List.all_eq_true] at h
  obtain ⟨⟨⟨⟨h1, h2⟩, h3⟩, h4⟩, h5⟩ := h
  refine ⟨fun i o ho x hx hb => ?_, fun i o j b ho hg => ?_, fun i o j p d ho hp hd hd' => ?_, fun i o j p d ho hp hd hu => ?_, fun i o j p ho hp hc hc' hij => ?_⟩
  · have := h1 (o, i) (mem_zipIdx_of ho) x hx
    simp only [hb, Bool.not_true, Bool.false_or] at this
    exact Nat.le_of_ble_eq_true this
  · have := h2 (o, i) (mem_zipIdx_of ho)
    simp only [hg] at this
    exact this
  · have := h3 (o, i) (mem_zipIdx_of ho)
    simp only [hd, List.all_eq_true] at this
    have := this (p, j) (mem_zipIdx_of hp)
    simp only [hd', Bool.or_eq_true, Bool.and_eq_true] at this
    rcases this with h | ⟨h, _⟩
    · exact Nat.eq_of_beq_eq_true h
    · simp at h
  · have h6 : i ≠ j := fun e => by
      subst e
      rw [ho] at hp; cases hp
      have := h4 (o, i) (mem_zipIdx_of ho)
      simp only [hd] at this
      rw [mem_tmpsOf hu] at this
      cases this
    have := h3 (o, i) (mem_zipIdx_of ho)
    simp only [hd, List.all_eq_true] at this
    have := this (p, j) (mem_zipIdx_of hp)
    simp only [Bool.or_eq_true, Bool.and_eq_true, mem_tmpsOf hu, Bool.not_true, Bool.false_eq_true, false_or] at this
    rcases this with h | ⟨_, h⟩
    · exact absurd (Nat.eq_of_beq_eq_true h) h6
    · refine ⟨h6, fun hl => ?_, fun hl => ?_⟩
      · have hb : Nat.blt i j = true := Nat.ble_eq_true_of_le hl
        rw [hb] at h; exact h
      · have hb : Nat.blt i j = false := by
          cases hc : Nat.blt i j with
          | false => rfl
          | true => have : i < j := Nat.le_of_ble_eq_true hc; omega
        rw [hb] at h; exact h
  · have m1 : (o, i) ∈ ops.zipIdx.filter fun (o, i) => cls o.op == .effect := List.mem_filter.2 ⟨mem_zipIdx_of ho, by simp [hc]⟩
    have m2 : (p, j) ∈ ops.zipIdx.filter fun (o, i) => cls o.op == .effect := List.mem_filter.2 ⟨mem_zipIdx_of hp, by simp [hc']⟩
    have := h5 _ m1 _ m2
    have hb : Nat.blt i j = true := Nat.ble_eq_true_of_le hij
    simp only [hb, Bool.not_true, Bool.false_or] at this
    exact this

/-- What must come before an operation has a smaller place. -/
theorem mask_lt {ops : List Oper} (f : DrawFacts ops (masks ops)) : ∀ (i : Nat) (o : Oper) (j : Nat), ops[i]? = some o → ((masks ops).getD i 0).testBit j = true → j < i := by
  intro i
  induction i using Nat.strongRecOn with
  | _ i ih =>
    intro o j ho h
    obtain ⟨x, h1, h2, h3⟩ := masks_spec ho h
    have hx := f.back i o ho x h1 h2
    rcases h3 with rfl | h3
    · exact hx
    · have hlt : x.on < ops.length := Nat.lt_trans hx (List.getElem?_eq_some_iff.1 ho).1
      exact Nat.lt_trans (ih x.on hx _ j (List.getElem?_eq_getElem hlt) h3) hx

/-! ## The acting operations -/
theorem effsOf_get : ∀ (l : List (Oper × Nat)) (b p i m : Nat), (effsOf l b)[p]? = some (i, m) → b ≤ i ∧ ∃ o, l[i - b]? = some (o, m) ∧ cls o.op = .effect
  | [], _, _, _, _, h => by simp [effsOf] at h
  | (o, m0) :: r, b, p, i, m, h => by
    simp only [effsOf] at h
    have next : ∀ q, (effsOf r (b + 1))[q]? = some (i, m) → b ≤ i ∧ ∃ o', ((o, m0) :: r)[i - b]? = some (o', m) ∧ cls o'.op = .effect := fun q hq => by
      obtain ⟨h1, o', h2, h3⟩ := effsOf_get r (b + 1) q i m hq
      refine ⟨by omega, o', ?_, h3⟩
      have : i - b = (i - (b + 1)) + 1 := by omega
      rw [this]; simpa using h2
    cases hc : cls o.op == .effect with
    | true =>
      rw [hc] at h
      cases p with
      | zero =>
        simp only [cond_true, List.getElem?_cons_zero, Option.some.injEq, Prod.mk.injEq] at h
        obtain ⟨rfl, rfl⟩ := h
        exact ⟨Nat.le_refl _, o, by simp, by simpa using hc⟩
      | succ p => exact next p (by simpa using h)
    | false => rw [hc] at h; exact next p h

theorem effsOf_mem : ∀ (l : List (Oper × Nat)) (b k : Nat) (o : Oper) (m : Nat), l[k]? = some (o, m) → cls o.op = .effect → ∃ p : Nat, (effsOf l b)[p]? = some (b + k, m)
  | [], _, _, _, _, h, _ => by simp at h
  | (o, m0) :: r, b, 0, o', m, h, hc => by
    simp at h; obtain ⟨rfl, rfl⟩ := h
    refine ⟨0, ?_⟩
    simp [effsOf, hc]
  | (o, m0) :: r, b, k + 1, o', m, h, hc => by
    simp at h
    obtain ⟨p, hp⟩ := effsOf_mem r (b + 1) k o' m h hc
    have e : b + 1 + k = b + (k + 1) := by omega
    rw [e] at hp
    simp only [effsOf]
    cases hc : cls o.op == .effect with
    | true => exact ⟨p + 1, by simpa using hp⟩
    | false => exact ⟨p, by simpa using hp⟩

theorem effsOf_mono : ∀ (l : List (Oper × Nat)) (b p q i m j k : Nat), (effsOf l b)[p]? = some (i, m) → (effsOf l b)[q]? = some (j, k) → p < q → i < j
  | [], _, _, _, _, _, _, _, h, _, _ => by simp [effsOf] at h
  | (o, m0) :: r, b, p, q, i, m, j, k, h, h', hpq => by
    simp only [effsOf] at h h'
    cases hc : cls o.op == .effect with
    | true =>
      simp only [hc, cond_true] at h h'
      obtain ⟨q, rfl⟩ : ∃ q', q = q' + 1 := ⟨q - 1, by omega⟩
      simp only [List.getElem?_cons_succ] at h'
      cases p with
      | zero =>
        simp only [List.getElem?_cons_zero, Option.some.injEq, Prod.mk.injEq] at h
        have := (effsOf_get r (b + 1) q j k h').1
        omega
      | succ p => exact effsOf_mono r (b + 1) p q i m j k (by simpa using h) h' (by omega)
    | false =>
      simp only [hc, cond_false] at h h'
      exact effsOf_mono r (b + 1) p q i m j k h h' hpq

/-- How many of a list answer, where those that answer stand in front. -/
theorem filter_le {α : Type} (f : α → Bool) : ∀ (l : List α) (m : Nat), (∀ q a, l[q]? = some a → f a = true → q < m) → (l.filter f).length ≤ m
  | [], m, _ => by simp
  | a :: l, m, h => by
    cases m with
    | zero =>
      have : (a :: l).filter f = [] := by
        rw [List.filter_eq_nil_iff]
        intro x hx hf
        obtain ⟨q, hq⟩ := List.getElem?_of_mem hx
        exact absurd (h q x hq hf) (Nat.not_lt_zero _)
      rw [this]; simp
    | succ m =>
      have ih := filter_le f l m fun q x hq hf => by
        have := h (q + 1) x (by simpa using hq) hf
        omega
      rw [List.filter_cons]
      split
      · simp; omega
      · omega

theorem le_filter {α : Type} (f : α → Bool) : ∀ (l : List α) (m : Nat), m ≤ l.length → (∀ q a, q < m → l[q]? = some a → f a = true) → m ≤ (l.filter f).length
  | [], m, hm, _ => by simpa using hm
  | a :: l, m, hm, h => by
    cases m with
    | zero => exact Nat.zero_le _
    | succ m =>
      have hf := h 0 a (by omega) rfl
      rw [List.filter_cons, if_pos hf]
      simp only [List.length_cons]
      exact Nat.succ_le_succ (le_filter f l m (by simpa using hm) fun q x hq hx => h (q + 1) x (by omega) (by simpa using hx))

end Go.Abs
end

section
/-
  Regions that draw their order: the run in the order of the text.
-/
namespace Go.Abs
variable {e : Env}

noncomputable def setT (t : Tr Value) (dst : Option Tmp) (v : Value) : Tr Value :=
  match dst with
  | none => t
  | some d => t.set d (some v)

theorem putA_some {s s' : ASt} {dst : Option Tmp} {v : Value} (h : putA s dst v = some s') : s' = { s with t := setT s.t dst v } ∧ ∀ d, dst = some d → d < s.n := by
  cases dst with
  | none => simp only [putA_def, Option.some.injEq] at h; subst h; exact ⟨rfl, fun _ h => by cases h⟩
  | some d =>
    simp only [putA_def] at h
    obtain ⟨h1, h2⟩ := of_bif h
    cases h2
    exact ⟨rfl, fun d' h => by cases h; exact Nat.le_of_ble_eq_true h1⟩
theorem putA_of {s : ASt} {dst : Option Tmp} (v : Value) (h : ∀ d, dst = some d → d < s.n) : putA s dst v = some { s with t := setT s.t dst v } := by
  cases dst with
  | none => rfl
  | some d =>
    have hb : Nat.blt d s.n = true := Nat.ble_eq_true_of_le (h d rfl)
    simp only [putA_def, hb, cond_true]; rfl

theorem effect_no_defer {h : AHeap} {t : Tr Value} {op : Op} (hc : cls op = .effect) {f : FuncId} {az cap : List Value} {h' : AHeap} : opA e h t op ≠ some (.defer f az cap h') := by
  intro hr
  cases op with
  | store ty a x =>
    simp only [opA] at hr
    split at hr
    · obtain ⟨_, _, h2⟩ := of_map hr; cases h2
    · cases hr
  | mapUpdate ty m k v =>
    simp only [opA] at hr
    split at hr
    · obtain ⟨_, _, h2⟩ := of_map hr; cases h2
    · cases hr
  | insert ty m k v =>
    simp only [opA] at hr
    split at hr
    · obtain ⟨_, _, h2⟩ := of_map hr; cases h2
    · cases hr
  | range ty x =>
    simp only [opA] at hr
    split at hr
    · cases hr
    · cases hr
    · split at hr <;> cases hr
    · cases hr
  | next it s =>
    simp only [opA] at hr
    split at hr
    · cases hr
    · obtain ⟨_, _, h2⟩ := of_map hr; cases h2
  | call c =>
    simp only [opA, callA] at hr
    split at hr
    · cases hr
    · split at hr
      · split at hr
        · cases hr
        · split at hr <;> cases hr
      · cases hr
      · split at hr
        · obtain ⟨_, _, h2⟩ := of_map hr; cases h2
        · obtain ⟨_, _, h2⟩ := of_map hr; cases h2
        · split at hr
          · cases hr
          · obtain ⟨_, _, h2⟩ := of_map hr; cases h2
        · split at hr
          · cases hr
          · obtain ⟨_, _, h2⟩ := of_map hr; cases h2
        · rename_i args _ _ _ _ _
          cases hp : args.all plain with
          | true => rw [hp] at hr; obtain ⟨_, _, h2⟩ := of_map hr; cases h2
          | false => rw [hp] at hr; cases hr
        · rename_i args _ _ _ _ _
          cases hp : args.all plain with
          | true => rw [hp] at hr; obtain ⟨_, _, h2⟩ := of_map hr; cases h2
          | false => rw [hp] at hr; cases hr
        · cases hr
  | _ => simp [cls] at hc

/-- A step, and what of the slots it looks at. -/
theorem stepA_slots {cf : CallF} {rf : RoundF} {ro : Option Nat} {o : Oper} {s s' : ASt} (hc : ∀ f az cap h', opA e s.h s.t o.op ≠ some (.defer f az cap h')) (h : stepA e cf rf ro o s = some s') :
    ∃ v, s' = { s with t := setT s.t o.dst v, h := s'.h } ∧ (∀ d, o.dst = some d → d < s.n) ∧
      ∀ t2, Same t2 s.t o.op.operands.toList → stepA e cf rf ro o { s with t := t2 } = some { s with t := setT t2 o.dst v, h := s'.h } := by
  simp only [stepA_def] at h ⊢
  cases hr : opA e s.h s.t o.op with
  | none => simp [hr] at h
  | some r =>
    have hcg : ∀ t2, Same t2 s.t o.op.operands.toList → opA e s.h t2 o.op = some r := fun t2 h2 => by rw [opA_congr h2, hr]
    simp only [hr] at h
    have fin : ∀ (h1 : AHeap) (v : Value), putA { s with h := h1 } o.dst v = some s' → s' = { s with t := setT s.t o.dst v, h := s'.h } ∧ (∀ d, o.dst = some d → d < s.n) ∧
        ∀ t2 : Tr Value, putA { s with h := h1, t := t2 } o.dst v = some { s with t := setT t2 o.dst v, h := s'.h } := fun h1 v hp => by
      obtain ⟨q1, q2⟩ := putA_some hp
      subst q1
      exact ⟨rfl, q2, fun t2 => putA_of v q2⟩
    cases r with
    | val v h1 =>
      obtain ⟨q1, q2, q3⟩ := fin h1 v h
      refine ⟨v, q1, q2, fun t2 h2 => ?_⟩
      simp only [hcg t2 h2]; exact q3 t2
    | skip h1 =>
      obtain ⟨q1, q2, q3⟩ := fin h1 undef h
      refine ⟨undef, q1, q2, fun t2 h2 => ?_⟩
      simp only [hcg t2 h2]; exact q3 t2
    | enter f args h1 =>
      simp only at h
      cases hcf : cf f args h1 with
      | none => simp [hcf] at h
      | some r2 =>
        simp only [hcf] at h
        obtain ⟨q1, q2, q3⟩ := fin r2.2 r2.1 h
        refine ⟨r2.1, q1, q2, fun t2 h2 => ?_⟩
        simp only [hcg t2 h2, hcf]; exact q3 t2
    | round l args h1 =>
      simp only at h
      cases hcf : rf l args h1 with
      | none => simp [hcf] at h
      | some r2 =>
        simp only [hcf] at h
        obtain ⟨q1, q2, q3⟩ := fin r2.2 r2.1 h
        refine ⟨r2.1, q1, q2, fun t2 h2 => ?_⟩
        simp only [hcg t2 h2, hcf]; exact q3 t2
    | defer f az cap h1 => exact absurd hr (hc f az cap h1)

/-- What one operation of the run did. -/
inductive Did (e : Env) (cf : CallF) (rf : RoundF) (ro : Option Nat) (ops : List Oper) (i id m : Nat) (o : Oper) (x x' : DSt) (inc : Nat) (v : Value) : Prop
  | skip : wantedA ops x.s o = some false → v = undef → x'.pend = x.pend → x'.all = x.all → x'.s.h = x.s.h → (cls o.op = .effect → x'.stages = (inc, x.s.h) :: x.stages) → (cls o.op ≠ .effect → x'.stages = x.stages) → Did e cf rf ro ops i id m o x x' inc v
  | pure (h1 : AHeap) : wantedA ops x.s o = some true → cls o.op = .pure → opA e x.s.h x.s.t o.op = some (.val v h1) → x'.pend = x.pend → x'.all = x.all → x'.s.h = x.s.h → x'.stages = x.stages → Did e cf rf ro ops i id m o x x' inc v
  | read (h1 : AHeap) : wantedA ops x.s o = some true → cls o.op = .read → opA e (addPend x.s.h m x.pend) x.s.t o.op = some (.val v h1) → x'.pend = x.pend → x'.all = x.all → x'.s.h = x.s.h → x'.stages = x.stages → Did e cf rf ro ops i id m o x x' inc v
  | alloc (ob : AObj) (f : Nat → Value) : wantedA ops x.s o = some true → cls o.op = .alloc → allocA e x.s.t o.op = some (ob, f) → v = f id → x'.pend = (i, id, ob) :: x.pend → x'.all = (i, id, ob) :: x.all → x'.s.h = x.s.h → x'.stages = x.stages → Did e cf rf ro ops i id m o x x' inc v
  | effect (s1 : ASt) : wantedA ops x.s o = some true → cls o.op = .effect → stepA e cf rf ro o { x.s with h := addPend x.s.h m x.pend } = some s1 → s1.t = setT x.s.t o.dst v → s1.h = x'.s.h →
      (∀ t2, Same t2 x.s.t o.op.operands.toList → stepA e cf rf ro o { x.s with t := t2, h := addPend x.s.h m x.pend } = some { x.s with t := setT t2 o.dst v, h := x'.s.h }) →
      x'.pend = x.pend.filter (fun p => !m.testBit p.1) → x'.all = x.all → x'.stages = (Nat.lor inc m, x'.s.h) :: x.stages → Did e cf rf ro ops i id m o x x' inc v

structure Step (x x' : DSt) (o : Oper) (v : Value) : Prop where
  t : x'.s.t = setT x.s.t o.dst v
  lt : ∀ d, o.dst = some d → d < x.s.n
  n : x'.s.n = x.s.n
  ds : x'.s.ds = x.s.ds
  snaps : x'.snaps = x.s.t :: x.snaps

theorem drawStep_did {cf : CallF} {rf : RoundF} {ro : Option Nat} {ops : List Oper} {i id m : Nat} {o : Oper} {x x' : DSt} {inc : Nat} {tl : List (Nat × AHeap)} (hst : x.stages = (inc, x.s.h) :: tl)
    (h : drawStep e cf rf ro ops i id m o { x with snaps := x.s.t :: x.snaps } = some x') : ∃ v, Step x x' o v ∧ Did e cf rf ro ops i id m o x x' inc v := by
  have hinc : (x.stages.head?.map (·.1)).getD 0 = inc := by rw [hst]; rfl
  unfold drawStep at h
  simp only [hinc] at h
  cases hw : wantedA ops x.s o with
  | none => simp [hw] at h
  | some b =>
    cases b with
    | false =>
      simp only [hw] at h
      cases hp : putA x.s o.dst undef with
      | none => simp [hp] at h
      | some s1 =>
        simp only [hp] at h
        obtain ⟨q1, q2⟩ := putA_some hp
        subst q1
        split at h
        · rename_i hc
          cases h
          exact ⟨undef, ⟨rfl, q2, rfl, rfl, rfl⟩, .skip hw rfl rfl rfl rfl (fun _ => rfl) fun hn => absurd hc hn⟩
        · cases h
        · rename_i hc _
          cases h
          exact ⟨undef, ⟨rfl, q2, rfl, rfl, rfl⟩, .skip hw rfl rfl rfl rfl (fun hn => absurd hn hc) fun _ => rfl⟩
    | true =>
      simp only [hw] at h
      split at h
      · rename_i hc
        split at h
        · rename_i v h1 hr
          obtain ⟨s1, hp, rfl⟩ := of_map h
          obtain ⟨q1, q2⟩ := putA_some hp
          subst q1
          exact ⟨v, ⟨rfl, q2, rfl, rfl, rfl⟩, .pure h1 hw hc hr rfl rfl rfl rfl⟩
        · cases h
      · rename_i hc
        split at h
        · rename_i v h1 hr
          obtain ⟨s1, hp, rfl⟩ := of_map h
          obtain ⟨q1, q2⟩ := putA_some hp
          subst q1
          exact ⟨v, ⟨rfl, q2, rfl, rfl, rfl⟩, .read h1 hw hc hr rfl rfl rfl rfl⟩
        · cases h
      · rename_i hc
        split at h
        · cases h
        · rename_i ob f hr
          obtain ⟨s1, hp, rfl⟩ := of_map h
          obtain ⟨q1, q2⟩ := putA_some hp
          subst q1
          exact ⟨f id, ⟨rfl, q2, rfl, rfl, rfl⟩, .alloc ob f hw hc hr rfl rfl rfl rfl rfl⟩
      · rename_i hc
        split at h
        · cases h
        · rename_i s1 hr
          obtain ⟨v, q1, q2, q3⟩ := stepA_slots (fun _ _ _ _ => effect_no_defer hc) hr
          cases h
          have e1 : s1.t = setT x.s.t o.dst v := by rw [q1]
          have e2 : s1.n = x.s.n := by rw [q1]
          have e3 : s1.ds = x.s.ds := by rw [q1]
          exact ⟨v, ⟨e1, q2, e2, e3, rfl⟩, .effect s1 hw hc hr e1 rfl q3 rfl rfl rfl⟩
      · cases h

theorem setT_get (t : Tr Value) (dst : Option Tmp) (v : Value) (d : Tmp) : (setT t dst v).get d = if dst = some d then some v else t.get d := by
  cases dst with
  | none => simp [setT]
  | some d' =>
    simp only [setT, Tr.get_set, Option.some.injEq]
    by_cases h : d = d'
    · subst h; simp
    · rw [if_neg h, if_neg (Ne.symm h)]

/-! ## The invariant of the run -/
abbrev effs (ops : List Oper) : List (Nat × Nat) := effsOf (ops.zip (masks ops)) 0
def isAlloc (o : Oper) : Bool := cls o.op == .alloc

/-- The first acting operations, so many, are those done. -/
def EffAt (ops : List Oper) (S : Nat → Prop) (m : Nat) : Prop := m ≤ (effs ops).length ∧ ∀ (p i k : Nat), (effs ops)[p]? = some (i, k) → (S i ↔ p < m)

theorem effs_get {ops : List Oper} {p i k : Nat} (h : (effs ops)[p]? = some (i, k)) : ∃ o, ops[i]? = some o ∧ k = (masks ops).getD i 0 ∧ cls o.op = .effect := by
  obtain ⟨_, o, h1, h2⟩ := effsOf_get _ _ _ _ _ h
  simp only [Nat.sub_zero] at h1
  rw [List.getElem?_zip_eq_some] at h1
  exact ⟨o, h1.1, by rw [List.getD_eq_getElem?_getD, h1.2]; rfl, h2⟩
theorem zip_get {ops : List Oper} {i : Nat} {o : Oper} (h : ops[i]? = some o) : (ops.zip (masks ops))[i]? = some (o, (masks ops).getD i 0) := by
  rw [List.getElem?_zip_eq_some]
  refine ⟨h, ?_⟩
  have : i < (masks ops).length := by rw [masks_length]; exact (List.getElem?_eq_some_iff.1 h).1
  rw [List.getD_eq_getElem?_getD, List.getElem?_eq_getElem this]; rfl
theorem effs_mem {ops : List Oper} {i : Nat} {o : Oper} (h : ops[i]? = some o) (hc : cls o.op = .effect) : ∃ p : Nat, (effs ops)[p]? = some (i, (masks ops).getD i 0) := by
  have := effsOf_mem (ops.zip (masks ops)) 0 i o _ (zip_get h) hc
  simpa using this

/-- One acting operation more. -/
theorem EffAt.more {ops : List Oper} {S S' : Nat → Prop} {m i : Nat} (h : EffAt ops S m) (f : DrawFacts ops (masks ops)) {o : Oper} (ho : ops[i]? = some o) (hc : cls o.op = .effect) (hi : ¬ S i)
    (hm : ∀ j, ((masks ops).getD i 0).testBit j = true → S j) (hS : ∀ j, S' j ↔ S j ∨ j = i) : EffAt ops S' (m + 1) ∧ (effs ops)[m]? = some (i, (masks ops).getD i 0) := by
  obtain ⟨p, hp⟩ := effs_mem ho hc
  have h1 : ¬ p < m := fun hl => hi ((h.2 p _ _ hp).2 hl)
  have hlt := (List.getElem?_eq_some_iff.1 hp).1
  have h2 : p = m := by
    rcases Nat.lt_trichotomy p m with hl | rfl | hl
    · exact absurd hl h1
    · rfl
    · exfalso
      have hq := List.getElem?_eq_getElem (Nat.lt_trans hl hlt)
      generalize (effs ops)[m]'(Nat.lt_trans hl hlt) = jk at hq
      obtain ⟨j, k⟩ := jk
      have hji := effsOf_mono _ _ _ _ _ _ _ _ hq hp hl
      obtain ⟨o', q1, q2, q3⟩ := effs_get hq
      have := (h.2 m _ _ hq).1 (hm j (f.effs j o' i o q1 ho q3 hc hji))
      omega
  subst h2
  refine ⟨⟨by omega, fun q j k hq => ?_⟩, hp⟩
  rw [hS, h.2 q j k hq]
  constructor
  · rintro (hl | rfl)
    · omega
    · rcases Nat.lt_trichotomy q p with hl | rfl | hl
      · omega
      · omega
      · have := effsOf_mono _ _ _ _ _ _ _ _ hp hq hl; omega
  · intro hl
    rcases Nat.lt_or_ge q p with hl' | hl'
    · exact .inl hl'
    · have : q = p := by omega
      subst this
      rw [hp] at hq; cases hq
      exact .inr rfl
theorem EffAt.same {ops : List Oper} {S S' : Nat → Prop} {m i : Nat} (h : EffAt ops S m) {o : Oper} (ho : ops[i]? = some o) (hc : cls o.op ≠ .effect) (hS : ∀ j, S' j ↔ S j ∨ j = i) : EffAt ops S' m := by
  refine ⟨h.1, fun q j k hq => ?_⟩
  rw [hS, ← h.2 q j k hq]
  constructor
  · rintro (hl | rfl)
    · exact hl
    · obtain ⟨o', q1, q2, q3⟩ := effs_get hq
      rw [ho] at q1; cases q1
      exact absurd q3 hc
  · exact .inl

structure Pre (s0 : ASt) (base N : Nat) (ops : List Oper) (k id : Nat) (x : DSt) (m inc : Nat) : Prop where
  n : x.s.n = s0.n
  ds : x.s.ds = s0.ds
  t : ∀ d, (∀ (j : Nat) (o : Oper), j < k → ops[j]? = some o → o.dst ≠ some d) → x.s.t.get d = s0.t.get d
  stage : ∃ tl, x.stages = (inc, x.s.h) :: tl
  len : x.stages.length = m + 1
  eff : EffAt ops (· < k) m
  pend : ∀ p, p ∈ x.pend ↔ p ∈ x.all ∧ inc.testBit p.1 = false
  allk : ∀ p ∈ x.all, p.1 < k ∧ base ≤ p.2.1 ∧ p.2.1 < id
  inj : ∀ p q, p ∈ x.all → q ∈ x.all → p.2.1 = q.2.1 → p = q
  incLt : ∀ j, inc.testBit j = true → j < k
  snaps : x.snaps.length = k
  ge : base ≤ id
  sum : id + ((ops.drop k).filter isAlloc).length = N

structure Link (ops : List Oper) (k : Nat) (x xf : DSt) : Prop where
  t : ∀ d, (∀ (j : Nat) (o : Oper), k ≤ j → ops[j]? = some o → o.dst ≠ some d) → xf.s.t.get d = x.s.t.get d
  stages : ∃ l, xf.stages = l ++ x.stages
  all : ∃ l, xf.all = l ++ x.all ∧ ∀ p ∈ l, k ≤ p.1
  snaps : ∃ l, xf.snaps = l ++ x.snaps

theorem Link.refl (ops : List Oper) (k : Nat) (x : DSt) : Link ops k x x := ⟨fun _ _ => rfl, ⟨[], rfl⟩, ⟨[], rfl, by simp⟩, ⟨[], rfl⟩⟩

theorem step_pre {cf : CallF} {rf : RoundF} {ro : Option Nat} {s0 : ASt} {base N : Nat} {ops : List Oper} (f : DrawFacts ops (masks ops)) {k id m inc : Nat} {x x' : DSt} {o : Oper} {v : Value} (ho : ops[k]? = some o) (hp : Pre s0 base N ops k id x m inc)
    (hs : Step x x' o v) (hd : Did e cf rf ro ops k id ((masks ops).getD k 0) o x x' inc v) :
    (∃ m' inc', Pre s0 base N ops (k + 1) (nextId o id) x' m' inc') ∧ (∀ xf, Link ops (k + 1) x' xf → Link ops k x xf) := by
  have hdrop : ops.drop k = o :: ops.drop (k + 1) := by
    obtain ⟨hl, rfl⟩ := List.getElem?_eq_some_iff.1 ho
    exact List.drop_eq_getElem_cons hl
  have hmask : ∀ j, ((masks ops).getD k 0).testBit j = true → j < k := fun j => mask_lt f k o j ho
  have hS : ∀ j, j < k + 1 ↔ j < k ∨ j = k := fun j => by omega
  have base1 : x'.s.n = s0.n := hs.n.trans hp.n
  have base2 : x'.s.ds = s0.ds := hs.ds.trans hp.ds
  have base3 : ∀ d, (∀ (j : Nat) (o : Oper), j < k + 1 → ops[j]? = some o → o.dst ≠ some d) → x'.s.t.get d = s0.t.get d := fun d hd => by
    rw [hs.t, setT_get, if_neg (hd k o (by omega) ho)]
    exact hp.t d fun j o' hj => hd j o' (by omega)
  have base4 : x'.snaps.length = k + 1 := by rw [hs.snaps]; simp [hp.snaps]
  have lt : ∀ xf, Link ops (k + 1) x' xf → ∀ d, (∀ (j : Nat) (o : Oper), k ≤ j → ops[j]? = some o → o.dst ≠ some d) → xf.s.t.get d = x.s.t.get d := fun xf hl d hd => by
    rw [hl.t d fun j o' hj => hd j o' (by omega), hs.t, setT_get, if_neg (hd k o (Nat.le_refl _) ho)]
  have ls : ∀ xf, Link ops (k + 1) x' xf → ∃ l, xf.snaps = l ++ x.snaps := fun xf hl => by
    obtain ⟨l, hl⟩ := hl.snaps
    exact ⟨l ++ [x.s.t], by rw [hl, hs.snaps]; simp⟩
  -- the two ways of 'all', the two ways of 'stages'
  have noAlloc : cls o.op ≠ .alloc → nextId o id + ((ops.drop (k + 1)).filter isAlloc).length = N := fun hc => by
    have h1 : isAlloc o = false := by simp [isAlloc, hc]
    have := hp.sum
    rw [hdrop, List.filter_cons, h1] at this
    have h2 : (cls o.op == Cls.alloc) = false := h1
    simpa [nextId, h2] using this
  have yesAlloc : cls o.op = .alloc → nextId o id = id + 1 ∧ id + 1 + ((ops.drop (k + 1)).filter isAlloc).length = N := fun hc => by
    have h1 : isAlloc o = true := by simp [isAlloc, hc]
    have := hp.sum
    rw [hdrop, List.filter_cons, h1] at this
    refine ⟨by simp [nextId, hc], ?_⟩
    simp only [if_true, List.length_cons] at this
    omega
  have sum : nextId o id + ((ops.drop (k + 1)).filter isAlloc).length = N := by
    by_cases hc : cls o.op = .alloc
    · obtain ⟨h1, h2⟩ := yesAlloc hc; omega
    · exact noAlloc hc
  have idle : id ≤ nextId o id := by
    by_cases hc : cls o.op = .alloc
    · have := (yesAlloc hc).1; omega
    · have h2 : (cls o.op == Cls.alloc) = false := by simp [hc]
      simp [nextId, h2]
  have sameAll : x'.all = x.all → (∀ p ∈ x'.all, p.1 < k + 1 ∧ base ≤ p.2.1 ∧ p.2.1 < nextId o id) ∧ (∀ p q, p ∈ x'.all → q ∈ x'.all → p.2.1 = q.2.1 → p = q) ∧ (∀ xf, Link ops (k + 1) x' xf → ∃ l, xf.all = l ++ x.all ∧ ∀ p ∈ l, k ≤ p.1) := fun ha => by
    rw [ha]
    refine ⟨fun p hp' => ?_, hp.inj, fun xf hl => ?_⟩
    · obtain ⟨h1, h2, h3⟩ := hp.allk p hp'
      exact ⟨by omega, h2, by omega⟩
    · obtain ⟨l, h1, h2⟩ := hl.all
      exact ⟨l, by rw [h1, ha], fun p hp' => Nat.le_of_succ_le (h2 p hp')⟩
  obtain ⟨tl, hst⟩ := hp.stage
  have quiet : x'.pend = x.pend → x'.all = x.all → x'.s.h = x.s.h → x'.stages = x.stages → cls o.op ≠ .effect →
      (∃ m' inc', Pre s0 base N ops (k + 1) (nextId o id) x' m' inc') ∧ (∀ xf, Link ops (k + 1) x' xf → Link ops k x xf) := fun h1 h2 h3 h4 h5 => by
    obtain ⟨a1, a2, a3⟩ := sameAll h2
    refine ⟨⟨m, inc, base1, base2, base3, ⟨tl, by rw [h4, h3, hst]⟩, by rw [h4]; exact hp.len, hp.eff.same ho h5 hS, by rw [h1, h2]; exact hp.pend, a1, a2, fun j hj => Nat.lt_succ_of_lt (hp.incLt j hj), base4, Nat.le_trans hp.ge idle, sum⟩, fun xf hl => ?_⟩
    exact ⟨lt xf hl, by obtain ⟨l, hl⟩ := hl.stages; exact ⟨l, by rw [hl, h4]⟩, a3 xf hl, ls xf hl⟩
  cases hd with
  | skip hw hv h1 h2 h3 h4 h5 =>
    by_cases hc : cls o.op = .effect
    · obtain ⟨a1, a2, a3⟩ := sameAll h2
      refine ⟨⟨m + 1, inc, base1, base2, base3, ⟨x.stages, by rw [h4 hc, h3]⟩, by rw [h4 hc, List.length_cons, hp.len], (hp.eff.more f ho hc (Nat.lt_irrefl _) hmask hS).1, by rw [h1, h2]; exact hp.pend, a1, a2, fun j hj => Nat.lt_succ_of_lt (hp.incLt j hj), base4, Nat.le_trans hp.ge idle, sum⟩, fun xf hl => ?_⟩
      exact ⟨lt xf hl, by obtain ⟨l, hl⟩ := hl.stages; exact ⟨l ++ [(inc, x.s.h)], by rw [hl, h4 hc]; simp⟩, a3 xf hl, ls xf hl⟩
    · exact quiet h1 h2 h3 (h5 hc) hc
  | pure hh hw hc hr h1 h2 h3 h4 => exact quiet h1 h2 h3 h4 (by rw [hc]; decide)
  | read hh hw hc hr h1 h2 h3 h4 => exact quiet h1 h2 h3 h4 (by rw [hc]; decide)
  | alloc ob g hw hc hr hv h1 h2 h3 h4 =>
    obtain ⟨y1, y2⟩ := yesAlloc hc
    refine ⟨⟨m, inc, base1, base2, base3, ⟨tl, by rw [h4, h3, hst]⟩, by rw [h4]; exact hp.len, hp.eff.same ho (by rw [hc]; decide) hS, fun p => ?_, fun p hp' => ?_, fun p q h5 h6 h7 => ?_, fun j hj => Nat.lt_succ_of_lt (hp.incLt j hj), base4, Nat.le_trans hp.ge idle, sum⟩, fun xf hl => ?_⟩
    · rw [h1, h2, List.mem_cons, List.mem_cons, hp.pend]
      constructor
      · rintro (rfl | ⟨h5, h6⟩)
        · refine ⟨.inl rfl, ?_⟩
          cases hb : inc.testBit k with
          | false => rfl
          | true => exact absurd (hp.incLt k hb) (Nat.lt_irrefl _)
        · exact ⟨.inr h5, h6⟩
      · rintro ⟨rfl | h5, h6⟩
        · exact .inl rfl
        · exact .inr ⟨h5, h6⟩
    · rw [h2, List.mem_cons] at hp'
      rcases hp' with rfl | hp'
      · exact ⟨Nat.lt_succ_self _, hp.ge, by rw [y1]; exact Nat.lt_succ_self _⟩
      · obtain ⟨g1, g2, g3⟩ := hp.allk p hp'
        exact ⟨by omega, g2, by omega⟩
    · rw [h2, List.mem_cons] at h5 h6
      rcases h5 with rfl | h5 <;> rcases h6 with rfl | h6
      · rfl
      · have := (hp.allk q h6).2.2; simp only at h7; omega
      · have := (hp.allk p h5).2.2; simp only at h7; omega
      · exact hp.inj p q h5 h6 h7
    · refine ⟨lt xf hl, by obtain ⟨l, hl⟩ := hl.stages; exact ⟨l, by rw [hl, h4]⟩, ?_, ls xf hl⟩
      obtain ⟨l, g1, g2⟩ := hl.all
      refine ⟨l ++ [(k, id, ob)], by rw [g1, h2]; simp, fun p hp' => ?_⟩
      rcases List.mem_append.1 hp' with h5 | h5
      · exact Nat.le_of_succ_le (g2 p h5)
      · simp at h5; subst h5; exact Nat.le_refl _
  | effect s1 hw hc hr ht hh hcg h1 h2 h3 =>
    obtain ⟨a1, a2, a3⟩ := sameAll h2
    have hor : ∀ j, (Nat.lor inc ((masks ops).getD k 0)).testBit j = (inc.testBit j || ((masks ops).getD k 0).testBit j) := fun j => Nat.testBit_or _ _ _
    refine ⟨⟨m + 1, Nat.lor inc ((masks ops).getD k 0), base1, base2, base3, ⟨x.stages, h3⟩, by rw [h3, List.length_cons, hp.len], (hp.eff.more f ho hc (Nat.lt_irrefl _) hmask hS).1, fun p => ?_, a1, a2, fun j hj => ?_, base4, Nat.le_trans hp.ge idle, sum⟩, fun xf hl => ?_⟩
    · rw [h1, h2, List.mem_filter, hp.pend, hor]
      simp only [Bool.not_eq_true', Bool.or_eq_false_iff, and_assoc]
    · rw [hor, Bool.or_eq_true] at hj
      rcases hj with hj | hj
      · exact Nat.lt_succ_of_lt (hp.incLt j hj)
      · exact Nat.lt_succ_of_lt (hmask j hj)
    · exact ⟨lt xf hl, by obtain ⟨l, hl⟩ := hl.stages; exact ⟨l ++ [(Nat.lor inc ((masks ops).getD k 0), x'.s.h)], by rw [hl, h3]; simp⟩, a3 xf hl, ls xf hl⟩

theorem drawOps_rec {cf : CallF} {rf : RoundF} {ro : Option Nat} {s0 : ASt} {base N : Nat} {ops : List Oper} (f : DrawFacts ops (masks ops)) {xf : DSt} : ∀ (q k id : Nat) (x : DSt) (m inc : Nat), q = ops.length - k → k ≤ ops.length →
    drawOps e cf rf ro ops ((ops.zip (masks ops)).drop k) k id x = some xf → Pre s0 base N ops k id x m inc →
    (∀ (i : Nat) (o : Oper), k ≤ i → ops[i]? = some o → ∃ id x x' m inc v, Pre s0 base N ops i id x m inc ∧ Step x x' o v ∧ Did e cf rf ro ops i id ((masks ops).getD i 0) o x x' inc v ∧ Link ops i x xf ∧ Link ops (i + 1) x' xf) ∧
      Link ops k x xf ∧ ∃ id m inc, Pre s0 base N ops ops.length id xf m inc := by
  intro q
  induction q with
  | zero =>
    intro k id x m inc hq hk h hp
    have : k = ops.length := by omega
    subst this
    rw [List.drop_eq_nil_of_le (by rw [List.length_zip, masks_length]; simp)] at h
    simp only [drawOps, Option.some.injEq] at h
    subst h
    exact ⟨fun i o hi ho => absurd (List.getElem?_eq_some_iff.1 ho).1 (by omega), Link.refl _ _ _, id, m, inc, hp⟩
  | succ q ih =>
    intro k id x m inc hq hk h hp
    have hlt : k < ops.length := by omega
    have ho : ops[k]? = some ops[k] := List.getElem?_eq_getElem hlt
    have hd : (ops.zip (masks ops)).drop k = (ops[k], (masks ops).getD k 0) :: (ops.zip (masks ops)).drop (k + 1) := by
      have hz := zip_get ho
      obtain ⟨hl, he⟩ := List.getElem?_eq_some_iff.1 hz
      rw [List.drop_eq_getElem_cons hl, he]
    rw [hd] at h
    simp only [drawOps] at h
    cases hs : drawStep e cf rf ro ops k id ((masks ops).getD k 0) ops[k] { x with snaps := x.s.t :: x.snaps } with
    | none => rw [hs] at h; cases h
    | some x' =>
      simp only [hs] at h
      obtain ⟨tl, hst⟩ := hp.stage
      obtain ⟨v, s1, s2⟩ := drawStep_did hst hs
      obtain ⟨⟨m', inc', p1⟩, p2⟩ := step_pre f ho hp s1 s2
      obtain ⟨r1, r2, r3⟩ := ih (k + 1) _ x' m' inc' (by omega) (by omega) h p1
      refine ⟨fun i o hi hio => ?_, p2 xf r2, r3⟩
      rcases Nat.eq_or_lt_of_le hi with rfl | hi
      · rw [ho] at hio; cases hio
        exact ⟨id, x, x', m, inc, v, hp, s1, s2, p2 xf r2, r2⟩
      · exact r1 i o hi hio

end Go.Abs
end

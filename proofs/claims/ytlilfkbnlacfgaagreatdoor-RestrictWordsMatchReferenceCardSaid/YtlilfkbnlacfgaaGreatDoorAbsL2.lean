/-
  Regions that draw their order: what the check on the text gives.
-/
import Derived.Test.YtlilfkbnlacfgaaGreatDoorAbsL1
import Derived.OrdersIn
namespace Go.Abs

theorem masksFrom_length : ∀ (ops : List Oper) (acc : List Nat), (masksFrom ops acc).length = acc.length + ops.length
  | [], acc => by simp [masksFrom]
  | o :: r, acc => by
    simp only [masksFrom, masksFrom_length r, List.length_cons]
    omega

theorem masksFrom_old : ∀ (ops : List Oper) (acc : List Nat) (i : Nat), i < acc.length → (masksFrom ops acc).getD i 0 = acc.reverse.getD i 0
  | [], acc, i, h => by simp [masksFrom]
  | o :: r, acc, i, h => by
    simp only [masksFrom]
    rw [masksFrom_old r _ i (by simp; omega)]
    simp only [List.reverse_cons, List.getD_eq_getElem?_getD]
    rw [List.getElem?_append_left (by simpa using h)]

theorem fold_mask (look : Nat → Nat) (j : Nat) : ∀ (l : List Edge) (s : Nat), (l.foldl (fun s x => bif Region.binds .any x then Nat.lor s (Nat.lor (2 ^ x.on) (look x.on)) else s) s).testBit j = true →
    s.testBit j = true ∨ ∃ x ∈ l, Region.binds .any x = true ∧ (j = x.on ∨ (look x.on).testBit j = true)
  | [], s, h => .inl h
  | x :: l, s, h => by
    rcases fold_mask look j l _ h with h1 | ⟨y, h1, h2⟩
    · cases hb : Region.binds .any x with
      | true =>
        simp only [hb, cond_true] at h1
        have h1' : (s ||| (2 ^ x.on ||| look x.on)).testBit j = true := h1
        rw [Nat.testBit_or, Nat.testBit_or, Bool.or_eq_true, Bool.or_eq_true] at h1'
        rcases h1' with h2 | h2 | h2
        · exact .inl h2
        · rw [Nat.testBit_two_pow] at h2
          exact .inr ⟨x, List.mem_cons_self .., hb, .inl (by simpa using (of_decide_eq_true h2).symm)⟩
        · exact .inr ⟨x, List.mem_cons_self .., hb, .inr h2⟩
      | false => simp only [hb, cond_false] at h1; exact .inl h1
    · exact .inr ⟨y, List.mem_cons_of_mem _ h1, h2⟩

theorem masksFrom_spec : ∀ (ops : List Oper) (acc : List Nat) (k : Nat) (o : Oper) (j : Nat), ops[k]? = some o → ((masksFrom ops acc).getD (acc.length + k) 0).testBit j = true →
    ∃ x ∈ o.after.toList, Region.binds .any x = true ∧ (j = x.on ∨ ((masksFrom ops acc).getD x.on 0).testBit j = true)
  | [], _, _, _, _, h, _ => by simp at h
  | o :: r, acc, 0, o', j, h, hj => by
    simp at h; subst h
    simp only [masksFrom, Nat.add_zero] at hj ⊢
    rw [masksFrom_old r _ _ (by simp)] at hj
    simp only [List.reverse_cons, List.getD_eq_getElem?_getD] at hj
    rw [List.getElem?_append_right (by simp)] at hj
    simp only [List.length_reverse, Nat.sub_self, List.getElem?_cons_zero, Option.getD_some] at hj
    rcases fold_mask (fun i => acc.reverse[i]?.getD 0) j _ _ hj with h1 | ⟨x, h1, h2, h3⟩
    · simp at h1
    · refine ⟨x, h1, h2, h3.imp id fun h4 => ?_⟩
      by_cases hl : x.on < acc.length
      · rw [masksFrom_old r _ _ (by simp; omega)]
        simp only [List.reverse_cons, List.getD_eq_getElem?_getD]
        rw [List.getElem?_append_left (by simpa using hl)]
        simpa [List.getD_eq_getElem?_getD] using h4
      · rw [List.getElem?_eq_none (by simpa using hl)] at h4
        simp at h4
  | o :: r, acc, k + 1, o', j, h, hj => by
    simp at h
    simp only [masksFrom] at hj ⊢
    refine masksFrom_spec r _ k o' j h ?_
    simp only [List.length_cons]
    rw [show acc.length + 1 + k = acc.length + (k + 1) by omega]
    exact hj

theorem masks_spec {ops : List Oper} {i j : Nat} {o : Oper} (ho : ops[i]? = some o) (h : ((masks ops).getD i 0).testBit j = true) :
    ∃ x ∈ o.after.toList, Region.binds .any x = true ∧ (j = x.on ∨ ((masks ops).getD x.on 0).testBit j = true) := by
  have := masksFrom_spec ops [] i o j ho (by simpa [masks] using h)
  simpa [masks] using this

theorem masks_length (ops : List Oper) : (masks ops).length = ops.length := by simp [masks, masksFrom_length]

/-! ## What the check gives -/
theorem mem_zipIdx_of {α : Type} {l : List α} {i : Nat} {a : α} (h : l[i]? = some a) : (a, i) ∈ l.zipIdx := by
  rw [List.mem_zipIdx_iff_getElem?]; exact h

structure DrawFacts (ops : List Oper) (ms : List Nat) : Prop where
  back : ∀ (i : Nat) (o : Oper), ops[i]? = some o → ∀ x ∈ o.after.toList, Region.binds .any x = true → x.on < i
  guard : ∀ (i : Nat) (o : Oper) (j : Nat) (b : Bool), ops[i]? = some o → o.guard = some (j, b) → (ms.getD i 0).testBit j = true
  once : ∀ (i : Nat) (o : Oper) (j : Nat) (p : Oper) (d : Tmp), ops[i]? = some o → ops[j]? = some p → o.dst = some d → p.dst = some d → i = j
  use : ∀ (i : Nat) (o : Oper) (j : Nat) (p : Oper) (d : Tmp), ops[i]? = some o → ops[j]? = some p → o.dst = some d → Operand.tmp d ∈ p.op.operands.toList → i ≠ j ∧ (i < j → (ms.getD j 0).testBit i = true) ∧ (j < i → (ms.getD i 0).testBit j = true)
  effs : ∀ (i : Nat) (o : Oper) (j : Nat) (p : Oper), ops[i]? = some o → ops[j]? = some p → cls o.op = .effect → cls p.op = .effect → i < j → (ms.getD j 0).testBit i = true

theorem mem_tmpsOf {o : Oper} {d : Tmp} (h : Operand.tmp d ∈ o.op.operands.toList) : (tmpsOf o).contains d = true := by
  simp only [tmpsOf, List.contains_eq_mem, decide_eq_true_eq, List.mem_filterMap]
  exact ⟨_, h, rfl⟩

theorem drawOk_facts {ops : List Oper} {ms : List Nat} (h : drawOk ops ms = true) : DrawFacts ops ms := by
  simp only [drawOk, Bool.and_eq_true, List.all_eq_true] at h
  obtain ⟨⟨⟨⟨h1, h2⟩, h3⟩, h4⟩, h5⟩ := h
  refine ⟨fun i o ho x hx hb => ?_, fun i o j b ho hg => ?_, fun i o j p d ho hp hd hd' => ?_, fun i o j p d ho hp hd hu => ?_, fun i o j p ho hp hc hc' hij => ?_⟩
  · have := h1 (o, i) (mem_zipIdx_of ho) x hx
    simp only [hb, Bool.not_true, Bool.false_or] at this
    exact Nat.le_of_ble_eq_true this
  · have := h2 (o, i) (mem_zipIdx_of ho)
    simp only [hg] at this
    exact this
  · have := h3 (o, i) (mem_zipIdx_of ho)
    simp only [hd, List.all_eq_true] at this
    have := this (p, j) (mem_zipIdx_of hp)
    simp only [hd', Bool.or_eq_true, Bool.and_eq_true] at this
    rcases this with h | ⟨h, _⟩
    · exact Nat.eq_of_beq_eq_true h
    · simp at h
  · have h6 : i ≠ j := fun e => by
      subst e
      rw [ho] at hp; cases hp
      have := h4 (o, i) (mem_zipIdx_of ho)
      simp only [hd] at this
      rw [mem_tmpsOf hu] at this
      cases this
    have := h3 (o, i) (mem_zipIdx_of ho)
    simp only [hd, List.all_eq_true] at this
    have := this (p, j) (mem_zipIdx_of hp)
    simp only [Bool.or_eq_true, Bool.and_eq_true, mem_tmpsOf hu, Bool.not_true, Bool.false_eq_true, false_or] at this
    rcases this with h | ⟨_, h⟩
    · exact absurd (Nat.eq_of_beq_eq_true h) h6
    · refine ⟨h6, fun hl => ?_, fun hl => ?_⟩
      · have hb : Nat.blt i j = true := Nat.ble_eq_true_of_le hl
        rw [hb] at h; exact h
      · have hb : Nat.blt i j = false := by
          cases hc : Nat.blt i j with
          | false => rfl
          | true => have : i < j := Nat.le_of_ble_eq_true hc; omega
        rw [hb] at h; exact h
  · have m1 : (o, i) ∈ ops.zipIdx.filter fun (o, i) => cls o.op == .effect := List.mem_filter.2 ⟨mem_zipIdx_of ho, by simp [hc]⟩
    have m2 : (p, j) ∈ ops.zipIdx.filter fun (o, i) => cls o.op == .effect := List.mem_filter.2 ⟨mem_zipIdx_of hp, by simp [hc']⟩
    have := h5 _ m1 _ m2
    have hb : Nat.blt i j = true := Nat.ble_eq_true_of_le hij
    simp only [hb, Bool.not_true, Bool.false_or] at this
    exact this

/-- What must come before an operation has a smaller place. -/
theorem mask_lt {ops : List Oper} (f : DrawFacts ops (masks ops)) : ∀ (i : Nat) (o : Oper) (j : Nat), ops[i]? = some o → ((masks ops).getD i 0).testBit j = true → j < i := by
  intro i
  induction i using Nat.strongRecOn with
  | _ i ih =>
    intro o j ho h
    obtain ⟨x, h1, h2, h3⟩ := masks_spec ho h
    have hx := f.back i o ho x h1 h2
    rcases h3 with rfl | h3
    · exact hx
    · have hlt : x.on < ops.length := Nat.lt_trans hx (List.getElem?_eq_some_iff.1 ho).1
      exact Nat.lt_trans (ih x.on hx _ j (List.getElem?_eq_getElem hlt) h3) hx

/-! ## The acting operations -/
theorem effsOf_get : ∀ (l : List (Oper × Nat)) (b p i m : Nat), (effsOf l b)[p]? = some (i, m) → b ≤ i ∧ ∃ o, l[i - b]? = some (o, m) ∧ cls o.op = .effect
  | [], _, _, _, _, h => by simp [effsOf] at h
  | (o, m0) :: r, b, p, i, m, h => by
    simp only [effsOf] at h
    have next : ∀ q, (effsOf r (b + 1))[q]? = some (i, m) → b ≤ i ∧ ∃ o', ((o, m0) :: r)[i - b]? = some (o', m) ∧ cls o'.op = .effect := fun q hq => by
      obtain ⟨h1, o', h2, h3⟩ := effsOf_get r (b + 1) q i m hq
      refine ⟨by omega, o', ?_, h3⟩
      have : i - b = (i - (b + 1)) + 1 := by omega
      rw [this]; simpa using h2
    cases hc : cls o.op == .effect with
    | true =>
      rw [hc] at h
      cases p with
      | zero =>
        simp only [cond_true, List.getElem?_cons_zero, Option.some.injEq, Prod.mk.injEq] at h
        obtain ⟨rfl, rfl⟩ := h
        exact ⟨Nat.le_refl _, o, by simp, by simpa using hc⟩
      | succ p => exact next p (by simpa using h)
    | false => rw [hc] at h; exact next p h

theorem effsOf_mem : ∀ (l : List (Oper × Nat)) (b k : Nat) (o : Oper) (m : Nat), l[k]? = some (o, m) → cls o.op = .effect → ∃ p : Nat, (effsOf l b)[p]? = some (b + k, m)
  | [], _, _, _, _, h, _ => by simp at h
  | (o, m0) :: r, b, 0, o', m, h, hc => by
    simp at h; obtain ⟨rfl, rfl⟩ := h
    refine ⟨0, ?_⟩
    simp [effsOf, hc]
  | (o, m0) :: r, b, k + 1, o', m, h, hc => by
    simp at h
    obtain ⟨p, hp⟩ := effsOf_mem r (b + 1) k o' m h hc
    have e : b + 1 + k = b + (k + 1) := by omega
    rw [e] at hp
    simp only [effsOf]
    cases hc : cls o.op == .effect with
    | true => exact ⟨p + 1, by simpa using hp⟩
    | false => exact ⟨p, by simpa using hp⟩

theorem effsOf_mono : ∀ (l : List (Oper × Nat)) (b p q i m j k : Nat), (effsOf l b)[p]? = some (i, m) → (effsOf l b)[q]? = some (j, k) → p < q → i < j
  | [], _, _, _, _, _, _, _, h, _, _ => by simp [effsOf] at h
  | (o, m0) :: r, b, p, q, i, m, j, k, h, h', hpq => by
    simp only [effsOf] at h h'
    cases hc : cls o.op == .effect with
    | true =>
      simp only [hc, cond_true] at h h'
      obtain ⟨q, rfl⟩ : ∃ q', q = q' + 1 := ⟨q - 1, by omega⟩
      simp only [List.getElem?_cons_succ] at h'
      cases p with
      | zero =>
        simp only [List.getElem?_cons_zero, Option.some.injEq, Prod.mk.injEq] at h
        have := (effsOf_get r (b + 1) q j k h').1
        omega
      | succ p => exact effsOf_mono r (b + 1) p q i m j k (by simpa using h) h' (by omega)
    | false =>
      simp only [hc, cond_false] at h h'
      exact effsOf_mono r (b + 1) p q i m j k h h' hpq

/-- How many of a list answer, where those that answer stand in front. -/
theorem filter_le {α : Type} (f : α → Bool) : ∀ (l : List α) (m : Nat), (∀ q a, l[q]? = some a → f a = true → q < m) → (l.filter f).length ≤ m
  | [], m, _ => by simp
  | a :: l, m, h => by
    cases m with
    | zero =>
      have : (a :: l).filter f = [] := by
        rw [List.filter_eq_nil_iff]
        intro x hx hf
        obtain ⟨q, hq⟩ := List.getElem?_of_mem hx
        exact absurd (h q x hq hf) (Nat.not_lt_zero _)
      rw [this]; simp
    | succ m =>
      have ih := filter_le f l m fun q x hq hf => by
        have := h (q + 1) x (by simpa using hq) hf
        omega
      rw [List.filter_cons]
      split
      · simp; omega
      · omega

theorem le_filter {α : Type} (f : α → Bool) : ∀ (l : List α) (m : Nat), m ≤ l.length → (∀ q a, q < m → l[q]? = some a → f a = true) → m ≤ (l.filter f).length
  | [], m, hm, _ => by simpa using hm
  | a :: l, m, hm, h => by
    cases m with
    | zero => exact Nat.zero_le _
    | succ m =>
      have hf := h 0 a (by omega) rfl
      rw [List.filter_cons, if_pos hf]
      simp only [List.length_cons]
      exact Nat.succ_le_succ (le_filter f l m (by simpa using hm) fun q x hq hx => h (q + 1) x (by omega) (by simpa using hx))

end Go.Abs

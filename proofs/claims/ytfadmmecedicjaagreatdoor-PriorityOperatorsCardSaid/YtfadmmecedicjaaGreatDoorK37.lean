/-
  PriorityOperators: parts of its proof (Cb3 Cb4 Cb5 Sn).
-/
import Derived.Test.YtfadmmecedicjaaGreatDoorK25
import Derived.Test.YtfadmmecedicjaaGreatDoorK32
import Derived.Test.YtfadmmecedicjaaGreatDoorK36
set_option linter.unusedVariables false
set_option linter.unusedSimpArgs false

section
/-
  Which filters the levels give; when a tree of an expression violates none.
-/
namespace Go.Pri
open Go Go.Abs

/-! ## The filters -/
theorem heldAt_iff (L : Nat → Int) (k : Nat) : ∀ (i p : Nat), p ∈ heldAt L k i ↔ 1 ≤ p ∧ p ≤ i ∧ L (p - 1) % 3 = (k : Int)
  | 0, p => by
    simp only [heldAt, List.not_mem_nil, false_iff]
    omega
  | i + 1, p => by
    simp only [heldAt, List.mem_append, heldAt_iff L k i p]
    by_cases h : L i % 3 = (k : Int)
    · rw [if_pos h, List.mem_singleton]
      constructor
      · rintro (⟨h1, h2, h3⟩ | rfl)
        · exact ⟨h1, by omega, h3⟩
        · exact ⟨by omega, by omega, by simpa using h⟩
      · rintro ⟨h1, h2, h3⟩
        rcases Nat.lt_or_ge i p with h4 | h4
        · exact .inr (by omega)
        · exact .inl ⟨h1, h4, h3⟩
    · rw [if_neg h]
      constructor
      · rintro (⟨h1, h2, h3⟩ | h1)
        · exact ⟨h1, by omega, h3⟩
        · cases h1
      · rintro ⟨h1, h2, h3⟩
        rcases Nat.lt_or_ge i p with h4 | h4
        · obtain rfl : p = i + 1 := by omega
          rw [Nat.add_sub_cancel] at h3
          exact absurd h3 h
        · exact .inl ⟨h1, h4, h3⟩
theorem mem_rules_snoc {x : Fil} {c : Lv} : ∀ {l : List Lv}, x ∈ rulesAll (l ++ [c]) ↔ x ∈ rulesAll l ∨ (∃ a ∈ l, x ∈ pairOf a c true true) ∨ x ∈ pairOf c c (firstOf c.2) (lastOf c.2)
  | [] => by simp [rulesAll]
  | a :: l => by
    simp only [List.cons_append, rulesAll, List.mem_append, List.mem_flatMap, mem_rules_snoc (l := l), List.mem_cons, List.not_mem_nil, or_false]
    constructor
    · rintro (h | ⟨b, hb | rfl, h⟩ | h | ⟨b, hb, h⟩ | h)
      · exact .inl (.inl h)
      · exact .inl (.inr (.inl ⟨b, hb, h⟩))
      · exact .inr (.inl ⟨a, .inl rfl, h⟩)
      · exact .inl (.inr (.inr h))
      · exact .inr (.inl ⟨b, .inr hb, h⟩)
      · exact .inr (.inr h)
    · rintro ((h | ⟨b, hb, h⟩ | h) | ⟨b, rfl | hb, h⟩ | h)
      · exact .inl h
      · exact .inr (.inl ⟨b, .inl hb, h⟩)
      · exact .inr (.inr (.inl h))
      · exact .inr (.inl ⟨c, .inr rfl, h⟩)
      · exact .inr (.inr (.inr (.inl ⟨b, hb, h⟩)))
      · exact .inr (.inr (.inr (.inr h)))
theorem lvAll_of {n : Nat} {L S : Nat → Int} {a : Lv} : ∀ {k : Nat}, a ∈ lvAll n L S k → ∃ j, j < k ∧ a = (heldAt L j n, 1 + S j % 3)
  | k + 1, h => by
    simp only [lvAll, List.mem_append] at h
    rcases h with h | h
    · obtain ⟨j, h1, h2⟩ := lvAll_of h
      exact ⟨j, by omega, h2⟩
    · split at h
      · cases h
      · exact ⟨k, by omega, List.mem_singleton.1 h⟩
theorem lvAll_mem {n : Nat} {L S : Nat → Int} {j : Nat} (hne : heldAt L j n ≠ []) : ∀ {k : Nat}, j < k → (heldAt L j n, 1 + S j % 3) ∈ lvAll n L S k
  | k + 1, h => by
    simp only [lvAll, List.mem_append]
    by_cases e : j = k
    · subst e
      exact .inr (by rw [if_neg hne]; exact List.mem_singleton.2 rfl)
    · exact .inl (lvAll_mem hne (by omega))
theorem first_iff {s : Int} : firstOf (1 + s % 3) = true ↔ s % 3 ≠ 0 := by
  simp only [firstOf, Bool.or_eq_true, beq_iff_eq]
  omega
theorem last_iff {s : Int} : lastOf (1 + s % 3) = true ↔ s % 3 ≠ 1 := by
  simp only [lastOf, Bool.or_eq_true, beq_iff_eq]
  omega
theorem mem_rulesLv {n : Nat} {L S : Nat → Int} {x : Fil} : ∀ {k : Nat}, x ∈ rulesAll (lvAll n L S k) ↔ ∃ i j, i ≤ j ∧ j < k ∧ ∃ p ∈ heldAt L i n, ∃ q ∈ heldAt L j n, ((i = j → S i % 3 ≠ 0) ∧ x = Fil.mk p 0 q) ∨ ((i = j → S i % 3 ≠ 1) ∧ x = Fil.mk p 2 q)
  | 0 => by
    simp only [lvAll, rulesAll, List.not_mem_nil, false_iff]
    rintro ⟨i, j, _, h, _⟩
    omega
  | k + 1 => by
    have ih := mem_rulesLv (n := n) (L := L) (S := S) (x := x) (k := k)
    simp only [lvAll]
    by_cases hne : heldAt L k n = []
    · rw [if_pos hne, List.append_nil, ih]
      constructor
      · rintro ⟨i, j, h1, h2, h3⟩
        exact ⟨i, j, h1, by omega, h3⟩
      · rintro ⟨i, j, h1, h2, p, hp, q, hq, h⟩
        refine ⟨i, j, h1, ?_, p, hp, q, hq, h⟩
        rcases Nat.lt_or_ge j k with h4 | h4
        · exact h4
        · obtain rfl : j = k := by omega
          rw [hne] at hq
          cases hq
    · rw [if_neg hne, mem_rules_snoc, ih]
      constructor
      · rintro (⟨i, j, h1, h2, h3⟩ | ⟨a, ha, h⟩ | h)
        · exact ⟨i, j, h1, by omega, h3⟩
        · obtain ⟨i, hi, rfl⟩ := lvAll_of ha
          rw [mem_pairOf] at h
          obtain ⟨p, hp, q, hq, h⟩ := h
          refine ⟨i, k, by omega, by omega, p, hp, q, hq, ?_⟩
          rcases h with ⟨_, h⟩ | ⟨_, h⟩
          · exact .inl ⟨by omega, h⟩
          · exact .inr ⟨by omega, h⟩
        · rw [mem_pairOf] at h
          obtain ⟨p, hp, q, hq, h⟩ := h
          refine ⟨k, k, by omega, by omega, p, hp, q, hq, ?_⟩
          rcases h with ⟨h', h⟩ | ⟨h', h⟩
          · exact .inl ⟨fun _ => first_iff.1 h', h⟩
          · exact .inr ⟨fun _ => last_iff.1 h', h⟩
      · rintro ⟨i, j, h1, h2, p, hp, q, hq, h⟩
        rcases Nat.lt_or_ge j k with h4 | h4
        · exact .inl ⟨i, j, h1, h4, p, hp, q, hq, h⟩
        · obtain rfl : j = k := by omega
          by_cases e : i = j
          · subst e
            refine .inr (.inr (mem_pairOf.2 ⟨p, hp, q, hq, ?_⟩))
            rcases h with ⟨h', h⟩ | ⟨h', h⟩
            · exact .inl ⟨first_iff.2 (h' rfl), h⟩
            · exact .inr ⟨last_iff.2 (h' rfl), h⟩
          · refine .inr (.inl ⟨_, lvAll_mem (List.ne_nil_of_mem hp) (by omega : i < j), mem_pairOf.2 ⟨p, hp, q, hq, ?_⟩⟩)
            rcases h with ⟨_, h⟩ | ⟨_, h⟩
            · exact .inl ⟨rfl, h⟩
            · exact .inr ⟨rfl, h⟩
/-- The filters of two operators. -/
theorem rule_zero {n : Nat} {L S : Nat → Int} {o o' : Nat} (ho : o < n) (ho' : o' < n) : (⟨1 + (o : Nat), 0, 1 + (o' : Nat)⟩ : Fil) ∈ rulesF (lvAll n L S 3) ↔ (L o % 3).toNat < (L o' % 3).toNat ∨ ((L o % 3).toNat = (L o' % 3).toNat ∧ S (L o % 3).toNat % 3 ≠ 0) := by
  rw [(rulesF_perm _).mem_iff, mem_rulesLv]
  constructor
  · rintro ⟨i, j, h1, h2, p, hp, q, hq, ⟨h3, h⟩ | ⟨h3, h⟩⟩
    · rw [heldAt_iff] at hp hq
      simp only [Fil.mk.injEq, true_and] at h
      obtain rfl : p = o + 1 := by omega
      obtain rfl : q = o' + 1 := by omega
      simp only [Nat.add_sub_cancel] at hp hq
      have e1 : (L o % 3).toNat = i := by omega
      have e2 : (L o' % 3).toNat = j := by omega
      rw [e1, e2]
      by_cases e : i = j
      · exact .inr ⟨e, h3 e⟩
      · exact .inl (by omega)
    · simp only [Fil.mk.injEq] at h
      omega
  · intro h
    refine ⟨(L o % 3).toNat, (L o' % 3).toNat, by omega, by omega, o + 1, ?_, o' + 1, ?_, .inl ⟨fun e => ?_, ?_⟩⟩
    · rw [heldAt_iff, Nat.add_sub_cancel]; omega
    · rw [heldAt_iff, Nat.add_sub_cancel]; omega
    · rcases h with h | h
      · omega
      · exact h.2
    · simp only [Fil.mk.injEq, true_and]; omega
theorem rule_two {n : Nat} {L S : Nat → Int} {o o' : Nat} (ho : o < n) (ho' : o' < n) : (⟨1 + (o : Nat), 2, 1 + (o' : Nat)⟩ : Fil) ∈ rulesF (lvAll n L S 3) ↔ (L o % 3).toNat < (L o' % 3).toNat ∨ ((L o % 3).toNat = (L o' % 3).toNat ∧ S (L o % 3).toNat % 3 ≠ 1) := by
  rw [(rulesF_perm _).mem_iff, mem_rulesLv]
  constructor
  · rintro ⟨i, j, h1, h2, p, hp, q, hq, ⟨h3, h⟩ | ⟨h3, h⟩⟩
    · simp only [Fil.mk.injEq] at h
      omega
    · rw [heldAt_iff] at hp hq
      simp only [Fil.mk.injEq, true_and] at h
      obtain rfl : p = o + 1 := by omega
      obtain rfl : q = o' + 1 := by omega
      simp only [Nat.add_sub_cancel] at hp hq
      have e1 : (L o % 3).toNat = i := by omega
      have e2 : (L o' % 3).toNat = j := by omega
      rw [e1, e2]
      by_cases e : i = j
      · exact .inr ⟨e, h3 e⟩
      · exact .inl (by omega)
  · intro h
    refine ⟨(L o % 3).toNat, (L o' % 3).toNat, by omega, by omega, o + 1, ?_, o' + 1, ?_, .inr ⟨fun e => ?_, ?_⟩⟩
    · rw [heldAt_iff, Nat.add_sub_cancel]; omega
    · rw [heldAt_iff, Nat.add_sub_cancel]; omega
    · rcases h with h | h
      · omega
      · exact h.2
    · simp only [Fil.mk.injEq, true_and]; omega
/-- What every filter is like. -/
theorem rule_like {n : Nat} {L S : Nat → Int} {x : Fil} (h : x ∈ rulesF (lvAll n L S 3)) : (∃ p q : Nat, x.par = 1 + (p : Int) ∧ x.child = 1 + (q : Int) ∧ p < n ∧ q < n) ∧ (x.pos = 0 ∨ x.pos = 2) := by
  rw [(rulesF_perm _).mem_iff, mem_rulesLv] at h
  obtain ⟨i, j, h1, h2, p, hp, q, hq, h⟩ := h
  rw [heldAt_iff] at hp hq
  rcases h with ⟨_, rfl⟩ | ⟨_, rfl⟩
  · exact ⟨⟨p - 1, q - 1, by simp only; omega, by simp only; omega, by omega, by omega⟩, .inl rfl⟩
  · exact ⟨⟨p - 1, q - 1, by simp only; omega, by simp only; omega, by omega, by omega⟩, .inr rfl⟩

/-! ## The violations -/
theorem mem_rulesTo {F : List Fil} {j : Nat} {f : Fil} (h : F[j]? = some f) : ∀ {n : Nat}, j < n → (j : Int) ∈ rulesTo F n f.par
  | n + 1, hj => by
    simp only [rulesTo]
    by_cases e : j = n
    · subst e
      simp only [h, if_true]
      simp
    · have ih := mem_rulesTo h (n := n) (by omega)
      split
      · exact ih
      · split
        · exact List.mem_append_left _ ih
        · exact ih
theorem rulesTo_nodup (F : List Fil) (p : Int) : ∀ n, (rulesTo F n p).Nodup
  | 0 => List.nodup_nil
  | n + 1 => by
    have ih := rulesTo_nodup F p n
    simp only [rulesTo]
    split
    · exact ih
    · split
      · refine List.nodup_append.2 ⟨ih, by simp, ?_⟩
        intro a ha b hb
        have := rulesTo_mem ha
        rw [List.mem_singleton] at hb
        omega
      · exact ih
/-- A node breaks a filter. -/
def Breaks (l : List Nd) (K : List (List Int)) (F : List Fil) (i : Nat) : Prop := ∃ x f ks c y, l[i]? = some x ∧ f ∈ F ∧ f.par = x.p ∧ K[i]? = some ks ∧ ks[f.pos.toNat]? = some c ∧ l[c.toNat]? = some y ∧ y.p = f.child
theorem vio_true {l : List Nd} {K : List (List Int)} {F : List Fil} {i : Nat} {k : Int} : vio l K F i k = true ↔ ∃ f ks c y, F[k.toNat]? = some f ∧ K[i]? = some ks ∧ ks[f.pos.toNat]? = some c ∧ l[c.toNat]? = some y ∧ y.p = f.child := by
  unfold vio
  constructor
  · intro h
    split at h
    · cases h
    · rename_i f hf
      split at h
      · cases h
      · rename_i ks hks
        split at h
        · cases h
        · rename_i c hc
          split at h
          · cases h
          · rename_i y hy
            exact ⟨f, ks, c, y, hf, hks, hc, hy, by simpa using h⟩
  · rintro ⟨f, ks, c, y, h1, h2, h3, h4, h5⟩
    simp only [h1, h2, h3, h4, h5, beq_self_eq_true]
theorem viol_nil {l : List Nd} {K : List (List Int)} {F : List Fil} : ∀ {N : Nat}, violTo l K F N = [] ↔ ∀ i, i < N → ¬ Breaks l K F i
  | 0 => by simp [violTo]
  | N + 1 => by
    have ih := viol_nil (l := l) (K := K) (F := F) (N := N)
    have hstep : violTo l K F (N + 1) = [] ↔ violTo l K F N = [] ∧ ¬ Breaks l K F N := by
      simp only [violTo]
      split
      · rename_i hx
        refine ⟨fun h => ⟨h, ?_⟩, fun h => h.1⟩
        rintro ⟨x, f, ks, c, y, h1, _⟩
        rw [hx] at h1
        cases h1
      · rename_i x hx
        rw [List.append_eq_nil_iff]
        refine and_congr_right fun _ => ?_
        simp only [violAt, List.map_eq_nil_iff, List.filter_eq_nil_iff]
        constructor
        · rintro h ⟨x', f, ks, c, y, h1, h2, h3, h4, h5, h6, h7⟩
          rw [hx] at h1
          cases h1
          obtain ⟨j, hj⟩ := List.getElem?_of_mem h2
          refine h j ?_ (vio_true.2 ⟨f, ks, c, y, by simpa using hj, h4, h5, h6, h7⟩)
          rw [← h3]
          exact mem_rulesTo hj (List.getElem?_eq_some_iff.1 hj).1
        · intro h k hk hv
          obtain ⟨f, ks, c, y, h1, h2, h3, h4, h5⟩ := vio_true.1 hv
          obtain ⟨_, _, f', h6, h7⟩ := rulesTo_mem hk
          rw [h1] at h6
          cases h6
          exact h ⟨x, f, ks, c, y, hx, List.mem_of_getElem? h1, h7, h2, h3, h4, h5⟩
    rw [hstep, ih]
    constructor
    · rintro ⟨h1, h2⟩ i hi
      by_cases e : i = N
      · subst e; exact h2
      · exact h1 i (by omega)
    · exact fun h => ⟨fun i hi => h i (by omega), h N (by omega)⟩

/-- The root's production. -/
def ET.rootP (ops : List Nat) : ET → Int
  | .leaf => 0
  | .bin k _ _ => 1 + (ops.getD k 0 : Nat)
theorem ET.lies_rootP {ops : List Nat} {l : List Nd} {out : List Int} {K : List (List Int)} : ∀ {T : ET} {i f t : Nat}, T.lies ops l out K i f t → ∃ x, l[i]? = some x ∧ x.p = T.rootP ops
  | .leaf, i, f, t, h => ⟨_, h.1, rfl⟩
  | .bin .., i, f, t, h => ⟨_, h.1, rfl⟩
/-- No node breaks a filter. -/
def ET.good (ops : List Nat) (F : List Fil) : ET → Prop
  | .leaf => True
  | .bin k a b => ⟨1 + (ops.getD k 0 : Nat), 0, a.rootP ops⟩ ∉ F ∧ ⟨1 + (ops.getD k 0 : Nat), 2, b.rootP ops⟩ ∉ F ∧ a.good ops F ∧ b.good ops F

theorem ET.good_holds {ops : List Nat} {l : List Nd} {out : List Int} {K : List (List Int)} {F : List Fil} (hF : ∀ f ∈ F, 1 ≤ f.par ∧ (f.pos = 0 ∨ f.pos = 2)) : ∀ {T : ET} {i f t : Nat}, T.lies ops l out K i f t → T.good ops F → ∀ j, i ≤ j → j < i + T.size → ¬ Breaks l K F j
  | .leaf, i, f, t, h, hg, j, h1, h2 => by
    simp only [ET.size] at h2
    rintro ⟨x, fl, ks, c, y, e1, e2, e3, _⟩
    have hf := (hF fl e2).1
    obtain ⟨h3, h4, _⟩ := h
    by_cases hj : j = i
    · subst hj
      rw [h3] at e1
      cases e1
      simp only at e3
      omega
    · obtain rfl : j = i + 1 := by omega
      rw [h4] at e1
      cases e1
      simp only at e3
      omega
  | .bin k a b, i, f, t, h, hg, j, h1, h2 => by
    simp only [ET.size] at h2
    obtain ⟨g1, g2, ga, gb⟩ := hg
    obtain ⟨a1, a2, a3, a4, a5, a6, a7, a8⟩ := h
    obtain ⟨xa, ra, pa⟩ := ET.lies_rootP a4
    obtain ⟨xb, rb, pb⟩ := ET.lies_rootP a8
    by_cases hj : j = i
    · subst hj
      rintro ⟨x, fl, ks, c, y, e1, e2, e3, e4, e5, e6, e7⟩
      rw [a1] at e1
      cases e1
      rw [a3] at e4
      cases e4
      obtain ⟨fp, fo, fc⟩ := fl
      simp only at e3 e5 e7
      rcases (hF _ e2).2 with hp | hp
      · simp only at hp
        subst hp
        simp only [Int.toNat_zero, List.getElem?_cons_zero, Option.some.injEq] at e5
        subst e5
        rw [nat_in (i := j + 1) (N := 0) (show (j : Int) + 1 = ((j + 1 : Nat) : Int) by omega), ra] at e6
        cases e6
        refine g1 ?_
        rw [← pa, e7, ← e3]
        exact e2
      · simp only at hp
        subst hp
        rw [show (2 : Int).toNat = 2 from rfl] at e5
        simp only [List.getElem?_cons_succ, List.getElem?_cons_zero, Option.some.injEq] at e5
        subst e5
        rw [nat_in (i := j + 1 + a.size + 1) (N := 0) (show ((j + 1 + a.size : Nat) : Int) + 1 = ((j + 1 + a.size + 1 : Nat) : Int) by omega), rb] at e6
        cases e6
        refine g2 ?_
        rw [← pb, e7, ← e3]
        exact e2
    · by_cases hja : j < i + 1 + a.size
      · exact good_holds hF a4 ga j (by omega) hja
      · by_cases hjt : j = i + 1 + a.size
        · subst hjt
          rintro ⟨x, fl, ks, c, y, e1, e2, e3, _⟩
          have hf := (hF fl e2).1
          rw [a5] at e1
          cases e1
          simp only at e3
          omega
        · exact good_holds hF a8 gb j (by omega) (by omega)
theorem ET.holds_good {ops : List Nat} {l : List Nd} {out : List Int} {K : List (List Int)} {F : List Fil} : ∀ {T : ET} {i f t : Nat}, T.lies ops l out K i f t → (∀ j, i ≤ j → j < i + T.size → ¬ Breaks l K F j) → T.good ops F
  | .leaf, i, f, t, h, hb => trivial
  | .bin k a b, i, f, t, h, hb => by
    simp only [ET.size] at hb
    obtain ⟨a1, a2, a3, a4, a5, a6, a7, a8⟩ := h
    obtain ⟨xa, ra, pa⟩ := ET.lies_rootP a4
    obtain ⟨xb, rb, pb⟩ := ET.lies_rootP a8
    refine ⟨fun h => hb i (Nat.le_refl _) (by omega) ⟨_, _, _, _, _, a1, h, rfl, a3, rfl, ?_, pa⟩, fun h => hb i (Nat.le_refl _) (by omega) ⟨_, _, _, _, _, a1, h, rfl, a3, rfl, ?_, pb⟩, holds_good a4 fun j h1 h2 => hb j (by omega) (by omega), holds_good a8 fun j h1 h2 => hb j (by omega) (by omega)⟩
    · rw [nat_in (i := i + 1) (N := 0) (show (i : Int) + 1 = ((i + 1 : Nat) : Int) by omega)]
      exact ra
    · rw [nat_in (i := i + 1 + a.size + 1) (N := 0) (show ((i + 1 + a.size : Nat) : Int) + 1 = ((i + 1 + a.size + 1 : Nat) : Int) by omega)]
      exact rb
theorem ET.viol_good {ops : List Nat} {F : List Fil} (hF : ∀ f ∈ F, 1 ≤ f.par ∧ (f.pos = 0 ∨ f.pos = 2)) (T : ET) (f t : Nat) : (violTo (T.nodes ops f t) (T.kids 0) F (T.nodes ops f t).length).length = 0 ↔ T.good ops F := by
  have hl := ET.lies_whole ops T f t
  rw [List.length_eq_zero_iff, viol_nil, ET.nodes_len]
  constructor
  · exact fun h => ET.holds_good hl fun j _ h2 => h j (by omega)
  · exact fun h j hj => ET.good_holds hF hl h j (Nat.zero_le _) (by omega)
end Go.Pri
end

section
/-
  The only tree without a violation is the grouped one.
-/
namespace Go.Pri
open Go Go.Abs

/-- The root may stand left below operator k. -/
def okL (v : Nat → Nat) (S : Nat → Int) (k : Nat) : ET → Prop
  | .leaf => True
  | .bin k' _ _ => v k' ≤ v k ∧ (v k' = v k → S (v k) % 3 = 0)
/-- The root may stand right below operator k. -/
def okR (v : Nat → Nat) (S : Nat → Int) (k : Nat) : ET → Prop
  | .leaf => True
  | .bin k' _ _ => v k' ≤ v k ∧ (v k' = v k → S (v k) % 3 = 1)
def ET.fine (v : Nat → Nat) (S : Nat → Int) : ET → Prop
  | .leaf => True
  | .bin k a b => okL v S k a ∧ okR v S k b ∧ a.fine v S ∧ b.fine v S

theorem ET.good_fine {n : Nat} {L S : Nat → Int} {ops : List Nat} : ∀ {T : ET} {f t : Nat}, T.over f t → (∀ k, f ≤ k → k < t → ops.getD k 0 < n) → (T.good ops (rulesF (lvAll n L S 3)) ↔ T.fine (lvK L ops) S)
  | .leaf, f, t, _, _ => Iff.rfl
  | .bin k a b, f, t, ho, hn => by
    obtain ⟨h1, h2, ha, hb⟩ := ho
    have iha := good_fine (S := S) (L := L) ha fun j e1 e2 => hn j e1 (by omega)
    have ihb := good_fine (S := S) (L := L) hb fun j e1 e2 => hn j (by omega) e2
    have hk := hn k h1 h2
    have eL : (⟨1 + (ops.getD k 0 : Nat), 0, a.rootP ops⟩ ∉ rulesF (lvAll n L S 3)) ↔ okL (lvK L ops) S k a := by
      match a, ha with
      | .leaf, ha =>
        refine ⟨fun _ => trivial, fun _ h => ?_⟩
        obtain ⟨⟨p, q, _, e, _⟩, _⟩ := rule_like h
        simp only [ET.rootP] at e
        omega
      | .bin k' _ _, ha =>
        have hk' := hn k' ha.1 (by have := ha.2.1; omega)
        simp only [ET.rootP, rule_zero hk hk', okL, lvK]
        omega
    have eR : (⟨1 + (ops.getD k 0 : Nat), 2, b.rootP ops⟩ ∉ rulesF (lvAll n L S 3)) ↔ okR (lvK L ops) S k b := by
      match b, hb with
      | .leaf, hb =>
        refine ⟨fun _ => trivial, fun _ h => ?_⟩
        obtain ⟨⟨p, q, _, e, _⟩, _⟩ := rule_like h
        simp only [ET.rootP] at e
        omega
      | .bin k' _ _, hb =>
        have hk' := hn k' (by have := hb.1; omega) hb.2.1
        simp only [ET.rootP, rule_two hk hk', okR, lvK]
        omega
    exact and_congr eL (and_congr eR (and_congr iha ihb))

/-- The level at the root. -/
def ET.top (v : Nat → Nat) : ET → Nat
  | .leaf => 0
  | .bin k _ _ => v k
theorem okL.top {v : Nat → Nat} {S : Nat → Int} {k : Nat} : ∀ {a : ET}, okL v S k a → a.top v ≤ v k
  | .leaf, _ => Nat.zero_le _
  | .bin .., h => h.1
theorem okR.top {v : Nat → Nat} {S : Nat → Int} {k : Nat} : ∀ {a : ET}, okR v S k a → a.top v ≤ v k
  | .leaf, _ => Nat.zero_le _
  | .bin .., h => h.1
theorem ET.fine_max {v : Nat → Nat} {S : Nat → Int} : ∀ {T : ET} {f t : Nat}, T.over f t → T.fine v S → ∀ j, f ≤ j → j < t → v j ≤ T.top v
  | .leaf, f, t, ho, hg, j, h1, h2 => by
    simp only [ET.over] at ho
    omega
  | .bin k a b, f, t, ho, hg, j, h1, h2 => by
    obtain ⟨o1, o2, oa, ob⟩ := ho
    obtain ⟨gl, gr, ga, gb⟩ := hg
    rcases Nat.lt_trichotomy j k with h | rfl | h
    · exact Nat.le_trans (fine_max oa ga j h1 h) gl.top
    · exact Nat.le_refl _
    · exact Nat.le_trans (fine_max ob gb j h h2) gr.top
theorem ET.fine_left {v : Nat → Nat} {S : Nat → Int} {k : Nat} {a b : ET} {f t : Nat} (ho : (ET.bin k a b).over f t) (hg : (ET.bin k a b).fine v S) (hs : S (v k) % 3 ≠ 0) : ∀ j, f ≤ j → j < k → v j < v k := fun j h1 h2 => by
  obtain ⟨o1, o2, oa, ob⟩ := ho
  obtain ⟨gl, gr, ga, gb⟩ := hg
  match a, oa, gl, ga with
  | .leaf, oa, gl, ga => simp only [ET.over] at oa; omega
  | .bin k' x y, oa, gl, ga =>
    have : v j ≤ v k' := ET.fine_max oa ga j h1 h2
    obtain ⟨e1, e2⟩ := gl
    rcases Nat.lt_or_ge (v k') (v k) with h | h
    · omega
    · exact absurd (e2 (by omega)) hs
theorem ET.fine_right {v : Nat → Nat} {S : Nat → Int} {k : Nat} {a b : ET} {f t : Nat} (ho : (ET.bin k a b).over f t) (hg : (ET.bin k a b).fine v S) (hs : S (v k) % 3 ≠ 1) : ∀ j, k < j → j < t → v j < v k := fun j h1 h2 => by
  obtain ⟨o1, o2, oa, ob⟩ := ho
  obtain ⟨gl, gr, ga, gb⟩ := hg
  match b, ob, gr, gb with
  | .leaf, ob, gr, gb => simp only [ET.over] at ob; omega
  | .bin k' x y, ob, gr, gb =>
    have : v j ≤ v k' := ET.fine_max ob gb j h1 h2
    obtain ⟨e1, e2⟩ := gr
    rcases Nat.lt_or_ge (v k') (v k) with h | h
    · omega
    · exact absurd (e2 (by omega)) hs

/-- What the choice of the root gives. -/
structure RootOK (L S : Nat → Int) (ops : List Nat) (f j : Nat) (s : Nat × Nat) : Prop where
  max : ∀ k, f ≤ k → k < f + j → lvK L ops k ≤ lvK L ops s.1
  last : S (lvK L ops s.1) % 3 = 0 → ∀ k, f ≤ k → k < f + j → lvK L ops k = lvK L ops s.1 → k ≤ s.1
  first : S (lvK L ops s.1) % 3 ≠ 0 → ∀ k, f ≤ k → k < f + j → lvK L ops k = lvK L ops s.1 → s.1 ≤ k
  one : 0 < j → s.1 < f + j ∧ 1 ≤ s.2 ∧ (s.2 = 1 ↔ ∀ k, f ≤ k → k < f + j → lvK L ops k = lvK L ops s.1 → k = s.1)
theorem root_ok (L S : Nat → Int) (ops : List Nat) (f : Nat) : ∀ j, RootOK L S ops f j (rootTo L S ops f j)
  | 0 => ⟨fun k h1 h2 => by omega, fun _ k h1 h2 => by omega, fun _ k h1 h2 => by omega, fun h => by omega⟩
  | j + 1 => by
    have ih := root_ok L S ops f j
    have hin := (rootTo_in L S ops f j).1
    have h0 : j = 0 → rootTo L S ops f j = (f, 0) := by rintro rfl; rfl
    simp only [rootTo]
    generalize rootTo L S ops f j = s at *
    obtain ⟨r, c⟩ := s
    obtain ⟨m1, m2, m3, m4⟩ := ih
    simp only at *
    by_cases hlt : lvK L ops r < lvK L ops (f + j)
    · rw [if_pos hlt]
      have hm : ∀ k, f ≤ k → k < f + (j + 1) → lvK L ops k = lvK L ops (f + j) → k = f + j := fun k h1 h2 h3 => by
        by_cases e : k = f + j
        · exact e
        · have := m1 k h1 (by omega)
          omega
      refine ⟨fun k h1 h2 => ?_, fun _ k h1 h2 h3 => ?_, fun _ k h1 h2 h3 => ?_, fun _ => ⟨by simp only; omega, Nat.le_refl _, fun _ => hm, fun _ => rfl⟩⟩
      · by_cases e : k = f + j
        · subst e; exact Nat.le_refl _
        · have := m1 k h1 (by omega)
          simp only; omega
      · have := hm k h1 h2 h3
        simp only; omega
      · have := hm k h1 h2 h3
        simp only; omega
    · rw [if_neg hlt]
      by_cases heq : lvK L ops (f + j) = lvK L ops r
      · rw [if_pos heq]
        by_cases hj : j = 0
        · subst hj
          have e := h0 rfl
          simp only [Prod.mk.injEq] at e
          obtain ⟨rfl, rfl⟩ := e
          simp only [Nat.add_zero, ite_self]
          have hk : ∀ k, r ≤ k → k < r + 1 → k = r := fun k _ _ => by omega
          exact ⟨fun k h1 h2 => by rw [hk k h1 h2]; exact Nat.le_refl _, fun _ k h1 h2 _ => by rw [hk k h1 h2]; exact Nat.le_refl _, fun _ k h1 h2 _ => by rw [hk k h1 h2]; exact Nat.le_refl _, fun _ => ⟨by simp only; omega, Nat.le_refl _, fun _ k h1 h2 _ => hk k h1 h2, fun _ => rfl⟩⟩
        · obtain ⟨q1, q2, q3⟩ := m4 (by omega)
          by_cases hs : S (lvK L ops (f + j)) % 3 = 0
          · rw [if_pos hs]
            refine ⟨fun k h1 h2 => ?_, fun _ k h1 h2 h3 => ?_, fun h => absurd hs h, fun _ => ⟨by simp only; omega, by simp only; omega, fun h => ?_, fun h => ?_⟩⟩
            · by_cases e : k = f + j
              · subst e; exact Nat.le_refl _
              · have := m1 k h1 (by omega)
                simp only; omega
            · simp only; omega
            · simp only at h; omega
            · have := h r hin (by omega) heq.symm
              simp only at this; omega
          · rw [if_neg hs]
            rw [heq] at hs
            refine ⟨fun k h1 h2 => ?_, fun h => absurd h hs, fun _ k h1 h2 h3 => ?_, fun _ => ⟨by simp only; omega, by simp only; omega, fun h => ?_, fun h => ?_⟩⟩
            · by_cases e : k = f + j
              · subst e; simp only; omega
              · exact m1 k h1 (by omega)
            · by_cases e : k = f + j
              · simp only; omega
              · exact m3 hs k h1 (by omega) h3
            · simp only at h; omega
            · have := h (f + j) (by omega) (by omega) heq
              simp only at this; omega
      · rw [if_neg heq]
        have hj : 0 < j := by
          rcases Nat.eq_zero_or_pos j with e | e
          · exfalso
            have e2 := h0 e
            subst e
            simp only [Prod.mk.injEq] at e2
            obtain ⟨rfl, _⟩ := e2
            exact heq rfl
          · exact e
        obtain ⟨q1, q2, q3⟩ := m4 hj
        have hk : ∀ k, f ≤ k → k < f + (j + 1) → lvK L ops k = lvK L ops r → k < f + j := fun k h1 h2 h3 => by
          by_cases e : k = f + j
          · subst e; exact absurd h3 heq
          · omega
        refine ⟨fun k h1 h2 => ?_, fun h k h1 h2 h3 => m2 h k h1 (hk k h1 h2 h3) h3, fun h k h1 h2 h3 => m3 h k h1 (hk k h1 h2 h3) h3, fun _ => ⟨by simp only; omega, q2, fun h k h1 h2 h3 => q3.1 h k h1 (hk k h1 h2 h3) h3, fun h => q3.2 fun k h1 h2 h3 => h k h1 (by omega) h3⟩⟩
        by_cases e : k = f + j
        · subst e; simp only; omega
        · exact m1 k h1 (by omega)

/-- The grouped tree. -/
def gT (L S : Nat → Int) (ops : List Nat) : Nat → Nat → Nat → ET
  | 0, _, _ => .leaf
  | _ + 1, 0, _ => .leaf
  | n + 1, d + 1, f => .bin (rootTo L S ops f (d + 1)).1 (gT L S ops n ((rootTo L S ops f (d + 1)).1 - f) f) (gT L S ops n (f + (d + 1) - ((rootTo L S ops f (d + 1)).1 + 1)) ((rootTo L S ops f (d + 1)).1 + 1))
theorem gT_over (L S : Nat → Int) (ops : List Nat) : ∀ {n d f : Nat}, d ≤ n → (gT L S ops n d f).over f (f + d)
  | 0, d, f, h => by
    obtain rfl : d = 0 := by omega
    rfl
  | n + 1, 0, f, _ => rfl
  | n + 1, d + 1, f, h => by
    have hr := rootTo_in L S ops f (d + 1)
    simp only [gT]
    generalize rootTo L S ops f (d + 1) = s at *
    have h1 := gT_over L S ops (n := n) (d := s.1 - f) (f := f) (by omega)
    have h2 := gT_over L S ops (n := n) (d := f + (d + 1) - (s.1 + 1)) (f := s.1 + 1) (by omega)
    rw [show f + (s.1 - f) = s.1 by omega] at h1
    rw [show s.1 + 1 + (f + (d + 1) - (s.1 + 1)) = f + (d + 1) by omega] at h2
    exact ⟨hr.1, by omega, h1, h2⟩
theorem group_gT (L S : Nat → Int) (ops : List Nat) : ∀ {n d f : Nat}, d ≤ n → (groupN L S ops n d f).1 = (gT L S ops n d f).nodes ops f (f + d)
  | 0, d, f, h => by
    obtain rfl : d = 0 := by omega
    rfl
  | n + 1, 0, f, _ => rfl
  | n + 1, d + 1, f, h => by
    have hr := rootTo_in L S ops f (d + 1)
    simp only [gT, groupN, ET.nodes]
    generalize rootTo L S ops f (d + 1) = s at *
    have h1 := group_gT L S ops (n := n) (d := s.1 - f) (f := f) (by omega)
    have h2 := group_gT L S ops (n := n) (d := f + (d + 1) - (s.1 + 1)) (f := s.1 + 1) (by omega)
    rw [show f + (s.1 - f) = s.1 by omega] at h1
    rw [show s.1 + 1 + (f + (d + 1) - (s.1 + 1)) = f + (d + 1) by omega] at h2
    rw [h1, h2]

theorem ET.fine_grouped (L S : Nat → Int) (ops : List Nat) : ∀ {n d f : Nat} {T : ET}, d ≤ n → T.over f (f + d) → (T.fine (lvK L ops) S ↔ (groupN L S ops n d f).2 = true ∧ T = gT L S ops n d f)
  | 0, d, f, T, h, ho => by
    obtain rfl : d = 0 := by omega
    match T, ho with
    | .leaf, ho => exact ⟨fun _ => ⟨rfl, rfl⟩, fun _ => trivial⟩
    | .bin k a b, ho => exact absurd ho.2.1 (by have := ho.1; omega)
  | n + 1, 0, f, T, h, ho => by
    match T, ho with
    | .leaf, ho => exact ⟨fun _ => ⟨rfl, rfl⟩, fun _ => trivial⟩
    | .bin k a b, ho => exact absurd ho.2.1 (by have := ho.1; omega)
  | n + 1, d + 1, f, T, h, ho => by
    match T, ho with
    | .leaf, ho => simp only [ET.over] at ho; omega
    | .bin k a b, ho =>
      have hr := root_ok L S ops f (d + 1)
      have hin := rootTo_in L S ops f (d + 1)
      simp only [gT, groupN]
      generalize rootTo L S ops f (d + 1) = s at *
      obtain ⟨r, c⟩ := s
      obtain ⟨m1, m2, m3, m4⟩ := hr
      obtain ⟨q1, q2, q3⟩ := m4 (by omega)
      simp only at *
      simp only [ET.bin.injEq, Bool.and_eq_true, Bool.or_eq_true, Bool.not_eq_true', decide_eq_false_iff_not, decide_eq_true_eq]
      obtain ⟨hk1, hk2, hoa, hob⟩ := ho
      have hrk : k = r → ((a.fine (lvK L ops) S ↔ (groupN L S ops n (r - f) f).2 = true ∧ a = gT L S ops n (r - f) f) ∧ (b.fine (lvK L ops) S ↔ (groupN L S ops n (f + (d + 1) - (r + 1)) (r + 1)).2 = true ∧ b = gT L S ops n (f + (d + 1) - (r + 1)) (r + 1))) := by
        rintro rfl
        refine ⟨fine_grouped L S ops (by omega) ?_, fine_grouped L S ops (by omega) ?_⟩
        · rw [show f + (k - f) = k by omega]; exact hoa
        · rw [show k + 1 + (f + (d + 1) - (k + 1)) = f + (d + 1) by omega]; exact hob
      constructor
      · intro hg
        have x1 : lvK L ops r ≤ lvK L ops k := ET.fine_max (T := .bin k a b) (f := f) (t := f + (d + 1)) ⟨hk1, hk2, hoa, hob⟩ hg r hin.1 q1
        have x2 := m1 k hk1 hk2
        have hv : lvK L ops r = lvK L ops k := Nat.le_antisymm x1 x2
        have xl := ET.fine_left (f := f) (t := f + (d + 1)) ⟨hk1, hk2, hoa, hob⟩ hg
        have xr := ET.fine_right (f := f) (t := f + (d + 1)) ⟨hk1, hk2, hoa, hob⟩ hg
        have hkr : k = r := by
          by_cases hs : S (lvK L ops k) % 3 = 0
          · have := m2 (by rw [hv]; exact hs) k hk1 hk2 hv.symm
            rcases Nat.lt_or_ge k r with h4 | h4
            · have := xr (by omega) r h4 q1; omega
            · omega
          · have := m3 (by rw [hv]; exact hs) k hk1 hk2 hv.symm
            rcases Nat.lt_or_ge r k with h4 | h4
            · have := xl hs r hin.1 h4; omega
            · omega
        obtain ⟨ia, ib⟩ := hrk hkr
        subst hkr
        obtain ⟨_, _, ga, gb⟩ := hg
        obtain ⟨a1, a2⟩ := ia.1 ga
        obtain ⟨b1, b2⟩ := ib.1 gb
        refine ⟨⟨⟨a1, b1⟩, ?_⟩, rfl, a2, b2⟩
        by_cases hs : S (lvK L ops k) % 3 = 2
        · refine .inr (q3.2 fun j j1 j2 j3 => ?_)
          rcases Nat.lt_trichotomy j k with h4 | h4 | h4
          · have := xl (by omega) j j1 h4; omega
          · exact h4
          · have := xr (by omega) j h4 j2; omega
        · exact .inl hs
      · rintro ⟨⟨⟨a1, b1⟩, hs⟩, rfl, a2, b2⟩
        obtain ⟨ia, ib⟩ := hrk rfl
        refine ⟨?_, ?_, ia.2 ⟨a1, a2⟩, ib.2 ⟨b1, b2⟩⟩
        · clear a2 ia ib hrk
          match a, hoa with
          | .leaf, _ => trivial
          | .bin k' x y, hoa =>
            have g1 := hoa.1
            have g2 := hoa.2.1
            refine ⟨m1 k' g1 (by omega), fun e => ?_⟩
            by_cases h0 : S (lvK L ops k) % 3 = 0
            · exact h0
            · have := m3 h0 k' g1 (by omega) e
              omega
        · clear b2 ia ib hrk
          match b, hob with
          | .leaf, _ => trivial
          | .bin k' x y, hob =>
            have g1 := hob.1
            have g2 := hob.2.1
            refine ⟨m1 k' (by omega) g2, fun e => ?_⟩
            by_cases h0 : S (lvK L ops k) % 3 = 0
            · have := m2 h0 k' (by omega) g2 e
              omega
            · by_cases h2 : S (lvK L ops k) % 3 = 2
              · rcases hs with hs | hs
                · exact absurd h2 hs
                · have := q3.1 hs k' (by omega) g2 e
                  omega
              · omega
end Go.Pri
end

section
/-
  What the law asks of the trees of an expression holds.
-/
namespace Go.Pri
open Go Go.Abs

/-! ## Few violations -/
theorem two_most {α : Type} (q : α → Bool) : ∀ (l : List α), l.Nodup → (∀ a ∈ l, ∀ b ∈ l, q a = q b → a = b) → l.length ≤ 2
  | [], _, _ => by simp
  | [_], _, _ => by simp
  | [_, _], _, _ => by simp
  | a :: b :: c :: r, hn, h => by
    exfalso
    simp only [List.nodup_cons, List.mem_cons, not_or] at hn
    obtain ⟨⟨h1, h2, _⟩, ⟨h3, _⟩, _⟩ := hn
    have e1 := h a (by simp) b (by simp)
    have e2 := h a (by simp) c (by simp)
    have e3 := h b (by simp) c (by simp)
    cases qa : q a <;> cases qb : q b <;> cases qc : q c <;> simp_all

/-- A tree's operators. -/
def ET.bins : ET → Nat
  | .leaf => 0
  | .bin _ a b => a.bins + b.bins + 1
theorem ET.size_bins : ∀ (T : ET), T.size = 4 * T.bins + 2
  | .leaf => rfl
  | .bin _ a b => by simp only [ET.size, ET.bins, size_bins a, size_bins b]; omega
theorem ET.over_bins : ∀ {T : ET} {f t : Nat}, T.over f t → t = f + T.bins
  | .leaf, f, t, h => h.symm
  | .bin k a b, f, t, h => by
    have h1 := over_bins h.2.2.1
    have h2 := over_bins h.2.2.2
    simp only [ET.bins]
    omega
def opsIn (l : List Nd) : Nat := (l.filter fun x => decide (1 ≤ x.p)).length
theorem ET.ops_bins (ops : List Nat) : ∀ (T : ET) (f t : Nat), opsIn (T.nodes ops f t) = T.bins
  | .leaf, f, t => rfl
  | .bin k a b, f, t => by
    have h1 := ops_bins ops a f k
    have h2 := ops_bins ops b (k + 1) t
    unfold opsIn at *
    have e1 : decide ((1 : Int) ≤ 1 + (ops.getD k 0 : Nat)) = true := by
      rw [decide_eq_true_iff]; omega
    have e2 : decide ((1 : Int) ≤ -1) = false := rfl
    simp only [ET.nodes, joinT, List.cons_append, List.filter_cons, List.filter_append, e1, e2, if_true, List.length_cons, List.length_append, h1, h2, ET.bins]
    simp
    omega

theorem viol_few {l : List Nd} {K : List (List Int)} {F : List Fil} (hn : F.Nodup) (hF : ∀ f ∈ F, 1 ≤ f.par ∧ (f.pos = 0 ∨ f.pos = 2)) : ∀ N, (violTo l K F N).length ≤ 2 * opsIn (l.take N)
  | 0 => by simp [violTo]
  | N + 1 => by
    have ih := viol_few (l := l) (K := K) hn hF N
    simp only [violTo]
    cases hx : l[N]? with
    | none =>
      simp only
      rw [List.take_of_length_le (by have := List.getElem?_eq_none_iff.1 hx; omega)] at ih ⊢
      exact ih
    | some x =>
      simp only
      have e : opsIn (l.take (N + 1)) = opsIn (l.take N) + if 1 ≤ x.p then 1 else 0 := by
        unfold opsIn
        rw [List.take_add_one, hx, List.filter_append, List.length_append]
        by_cases h : 1 ≤ x.p
        · simp [h]
        · simp [h]
      have hv : (violAt l K F N (rulesTo F F.length x.p)).length ≤ 2 * if 1 ≤ x.p then 1 else 0 := by
        by_cases h : 1 ≤ x.p
        · rw [if_pos h]
          simp only [violAt, List.length_map]
          refine two_most (fun k => match F[k.toNat]? with | none => false | some f => decide (f.pos = 0)) _ ((rulesTo_nodup F _ _).filter _) fun a ha b hb hab => ?_
          obtain ⟨ha1, ha2⟩ := List.mem_filter.1 ha
          obtain ⟨hb1, hb2⟩ := List.mem_filter.1 hb
          obtain ⟨fa, ka, ca, ya, a1, a2, a3, a4, a5⟩ := vio_true.1 ha2
          obtain ⟨fb, kb, cb, yb, b1, b2, b3, b4, b5⟩ := vio_true.1 hb2
          obtain ⟨a6, a7, fa', a8, a9⟩ := rulesTo_mem ha1
          obtain ⟨b6, b7, fb', b8, b9⟩ := rulesTo_mem hb1
          rw [a1] at a8
          cases a8
          rw [b1] at b8
          cases b8
          simp only [a1, b1] at hab
          have hpa := (hF fa (List.mem_of_getElem? a1)).2
          have hpb := (hF fb (List.mem_of_getElem? b1)).2
          have hpos : fa.pos = fb.pos := by
            rcases hpa with e1 | e1 <;> rcases hpb with e2 | e2
            · rw [e1, e2]
            · rw [e1, e2] at hab; cases hab
            · rw [e1, e2] at hab; cases hab
            · rw [e1, e2]
          rw [a2] at b2
          cases b2
          rw [hpos] at a3
          rw [a3] at b3
          cases b3
          rw [a4] at b4
          cases b4
          have hf : fa = fb := by
            obtain ⟨p1, p2, p3⟩ := fa
            obtain ⟨r1, r2, r3⟩ := fb
            simp only at *
            rw [hpos, show p1 = r1 by omega, show p3 = r3 by omega]
          rw [hf] at a1
          obtain ⟨la, ea⟩ := List.getElem?_eq_some_iff.1 a1
          obtain ⟨lb, eb⟩ := List.getElem?_eq_some_iff.1 b1
          have hpw := List.pairwise_iff_getElem.1 hn
          rcases Nat.lt_trichotomy a.toNat b.toNat with h1 | h1 | h1
          · exact absurd (ea.trans eb.symm) (hpw _ _ la lb h1)
          · omega
          · exact absurd (eb.trans ea.symm) (hpw _ _ lb la h1)
        · rw [if_neg h]
          have : rulesTo F F.length x.p = [] := by
            refine List.eq_nil_iff_forall_not_mem.2 fun k hk => ?_
            obtain ⟨_, _, f, h1, h2⟩ := rulesTo_mem hk
            have := (hF f (List.mem_of_getElem? h1)).1
            omega
          rw [this]
          simp [violAt]
      rw [List.length_append, e]
      omega

theorem pack_all {n d : Nat} {L S : Nat → Int} {ops : List Nat} {gt : List Nd} {flag : Bool} {T : List (List Nd)} {F : List Fil} (h1 : 1 ≤ n) (h4 : n ≤ 4) (hd : d ≤ 5) (hops : ∀ k, k < d → ops.getD k 0 < n)
    (hGr : groupN L S ops 5 d 0 = (gt, flag)) (hTr : treesN ops 5 d 0 = T) (hF : rulesF (lvAll n L S 3) = F) : ∀ l ∈ T, Pack n F l gt flag := by
  intro l hl
  have hok := lvOK_all L S h1 h4
  subst hTr
  obtain ⟨A, hA, rfl⟩ := trees_over ops hd hl
  rw [Nat.zero_add] at *
  have hG0 := gT_over L S ops (n := 5) (d := d) (f := 0) hd
  have hGe := group_gT L S ops (n := 5) (d := d) (f := 0) hd
  have hgood := A.fine_grouped L S ops (n := 5) (d := d) (f := 0) hd (by rw [Nat.zero_add]; exact hA)
  rw [Nat.zero_add] at hG0 hGe
  rw [hGr] at hGe hgood
  simp only at hGe hgood
  subst hGe
  have hFl : ∀ f ∈ F, 1 ≤ f.par ∧ (f.pos = 0 ∨ f.pos = 2) := fun f hf => by
    rw [← hF] at hf
    obtain ⟨⟨p, q, e1, _⟩, e2⟩ := rule_like hf
    exact ⟨by omega, e2⟩
  have hFn : F.Nodup := by
    rw [← hF]
    exact (rulesF_perm _).symm.nodup (rules_nodup hok.nodup)
  have hAs := A.size_bins
  have hAb := ET.over_bins hA
  have hGs := (gT L S ops 5 d 0).size_bins
  have hGb := ET.over_bins hG0
  have hops' : ∀ k, 0 ≤ k → k < d → ops.getD k 0 < n := fun k _ hk => hops k hk
  have htA := ET.tree (n := n) hA hops (by omega)
  have htG := ET.tree (n := n) hG0 hops (by omega)
  have hfew := viol_few (l := A.nodes ops 0 d) (K := kidsK (psOf n) (A.nodes ops 0 d)) hFn hFl (A.nodes ops 0 d).length
  rw [List.take_of_length_le (Nat.le_refl _), ET.ops_bins] at hfew
  refine ⟨⟨A.outs 0, (gT L S ops 5 d 0).outs 0, kN (A.kids 0), kN ((gT L S ops 5 d 0).kids 0), htA, htG.sh, ET.ordP hA hG0 (by omega) (by omega), ?_⟩, ?_, ?_, by omega⟩
  · rw [kidsK_tree hA hops', Bool.eq_iff_iff, Bool.and_eq_true, decide_eq_true_eq, decide_eq_true_eq, ET.viol_good hFl, ET.ord_iff, ← hF, ET.good_fine hA hops']
    exact hgood
  · intro i x f hx hf hp
    rw [kidsK_tree hA hops']
    have hil := (List.getElem?_eq_some_iff.1 hx).1
    rw [ET.nodes_len] at hil
    obtain ⟨g1, g2⟩ := hFl f hf
    rcases ET.lies_sub (ET.lies_whole ops A 0 d) hA (Nat.zero_le i) (by omega) with ⟨T', f', t', e1, e2, e3, e4, e5⟩ | ⟨z, x', e1, e2, e3, e4, _⟩
    · match T', e1, e5 with
      | .leaf, e1, e5 =>
        have := e5.1
        rw [hx] at this
        cases this
        simp only at hp
        omega
      | .bin k a b, e1, e5 =>
        obtain ⟨a1, a2, a3, a4, a5, a6, a7, a8⟩ := e5
        obtain ⟨xa, ra, _⟩ := ET.lies_rootP a4
        obtain ⟨xb, rb, _⟩ := ET.lies_rootP a8
        rcases g2 with g2 | g2
        · refine ⟨_, (i : Int) + 1, xa, a3, by omega, by rw [g2]; rfl, by omega, ?_⟩
          rw [nat_in (i := i + 1) (N := 0) (show (i : Int) + 1 = ((i + 1 : Nat) : Int) by omega)]
          exact ra
        · refine ⟨_, ((i + 1 + a.size : Nat) : Int) + 1, xb, a3, by omega, by rw [g2]; rfl, by omega, ?_⟩
          rw [nat_in (i := i + 1 + a.size + 1) (N := 0) (show ((i + 1 + a.size : Nat) : Int) + 1 = ((i + 1 + a.size + 1 : Nat) : Int) by omega)]
          exact rb
    · rw [hx] at e1
      cases e1
      simp only at hp
      omega
  · intro x hx
    rcases htA.sh.ok x hx with h | h
    · rw [h.1]
      decide
    · obtain ⟨h2, h3, _⟩ := h
      rw [psOf_len] at h3
      obtain ⟨p, hp⟩ : ∃ p : Nat, x.p = p := ⟨x.p.toNat, by omega⟩
      rw [hp]
      exact wf64 (by omega)
end Go.Pri
end

section
/-
  What the sanity check looks at.
-/
namespace Go.Pri
open Go Go.Abs

def F4 : List Fil := [⟨1, 2, 1⟩, ⟨2, 0, 1⟩, ⟨2, 2, 1⟩, ⟨2, 2, 2⟩]
def A0 : ET := .bin 0 .leaf (.bin 1 .leaf .leaf)
def A1 : ET := .bin 1 (.bin 0 .leaf .leaf) .leaf
theorem sane_trees : treesN [0, 1] 5 2 0 = [A0.nodes [0, 1] 0 2, A1.nodes [0, 1] 0 2] := by rfl
theorem over0 : A0.over 0 2 := ⟨by decide, by decide, rfl, by decide, by decide, rfl, rfl⟩
theorem over1 : A1.over 0 2 := ⟨by decide, by decide, ⟨by decide, by decide, rfl, rfl⟩, rfl⟩
theorem sane_ops : ∀ k, k < 2 → ([0, 1] : List Nat).getD k 0 < 2
  | 0, _ => by decide
  | 1, _ => by decide
  | k + 2, h => by omega
theorem sane_lv : lvAll 2 (lvN 1 0 0 0) (asN 0 0 0) 3 = [([2], 1), ([1], 1)] := by
  have h1 : heldAt (lvN 1 0 0 0) 0 2 = [2] := by rfl
  have h2 : heldAt (lvN 1 0 0 0) 1 2 = [1] := by rfl
  have h3 : heldAt (lvN 1 0 0 0) 2 2 = [] := by rfl
  simp only [lvAll, h1, h2, h3]
  rfl
theorem sane_rules : rulesF (lvAll 2 (lvN 1 0 0 0) (asN 0 0 0) 3) = F4 := by
  have h5 : rulesAll [([2], 1), ([1], 1)] = [⟨2, 2, 2⟩, ⟨2, 0, 1⟩, ⟨2, 2, 1⟩, ⟨1, 2, 1⟩] := by rfl
  unfold rulesF
  rw [sane_lv, h5]
  simp [List.mergeSort, List.MergeSort.Internal.splitInTwo, List.merge, ltF, F4]
theorem sane_group : ∃ gt flag, groupN (lvN 1 0 0 0) (asN 0 0 0) [0, 1] 5 2 0 = (gt, flag) := ⟨_, _, rfl⟩
theorem sane_kids0 : kidsK (psOf 2) (A0.nodes [0, 1] 0 2) = A0.kids 0 := kidsK_tree over0 fun k _ h => sane_ops k h
theorem sane_kids1 : kidsK (psOf 2) (A1.nodes [0, 1] 0 2) = A1.kids 0 := kidsK_tree over1 fun k _ h => sane_ops k h
theorem sane_viol0 : violTo (A0.nodes [0, 1] 0 2) (kidsK (psOf 2) (A0.nodes [0, 1] 0 2)) F4 (A0.nodes [0, 1] 0 2).length = [] := by
  rw [sane_kids0]
  rfl
theorem sane_viol1 : violTo (A1.nodes [0, 1] 0 2) (kidsK (psOf 2) (A1.nodes [0, 1] 0 2)) F4 (A1.nodes [0, 1] 0 2).length = [(0, 1)] := by
  rw [sane_kids1]
  rfl
theorem sane_spine : SpineN (A0.nodes [0, 1] 0 2) (kidsK (psOf 2) (A0.nodes [0, 1] 0 2)) 0 3 := by
  rw [sane_kids0]
  refine .step (k := 4) rfl (by decide) rfl (by decide) rfl ?_
  refine .step (k := 8) rfl (by decide) rfl (by decide) rfl ?_
  refine .step (k := 9) rfl (by decide) rfl (by decide) rfl ?_
  exact .stop rfl (by decide)
theorem sane_isKids : IsKids (A0.outs 0) 10 1 [1, 3, 4] := by
  obtain ⟨x, ks, sf, h1, h2, h3, _⟩ := ET.lies_kids (ET.lies_whole [0, 1] A0 0 2) over0
  have : ks = [1, 3, 4] := by
    have h4 : (A0.kids 0)[0]? = some [1, 3, 4] := rfl
    rw [h2] at h4
    exact Option.some.inj h4
  subst this
  exact h3
theorem sane_tree0 : TreeOK (psOf 2) 11 0 (A0.nodes [0, 1] 0 2) (A0.outs 0) := ET.tree over0 sane_ops (by decide)
theorem sane_tree1 : TreeOK (psOf 2) 11 0 (A1.nodes [0, 1] 0 2) (A1.outs 0) := ET.tree over1 sane_ops (by decide)
theorem sane_pack : ∃ gt flag, ∀ l ∈ [A0.nodes [0, 1] 0 2, A1.nodes [0, 1] 0 2], Pack 2 F4 l gt flag := by
  obtain ⟨gt, flag, h⟩ := sane_group
  exact ⟨gt, flag, pack_all (by decide) (by decide) (by decide) sane_ops h sane_trees sane_rules⟩
end Go.Pri
end

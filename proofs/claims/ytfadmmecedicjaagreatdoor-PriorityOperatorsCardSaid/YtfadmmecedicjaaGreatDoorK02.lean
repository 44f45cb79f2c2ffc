/-
  PriorityOperators: parts of its proof (AbsB).
-/
import Derived.Laws.Sem
import Derived.Laws.Cells
import Derived.Laws.CopyRow
import Derived.Test.YtfadmmecedicjaaGreatDoorK01
set_option linter.unusedVariables false
set_option linter.unusedSimpArgs false

section
/-
  How an abstract memory stands to a world: places, values, objects; what a step may turn.
-/
namespace Go.Abs

/-! ## The map from numbers -/
theorem getP_nil {α : Type} : ∀ p : List D4, getP p (Od.nil : Od α) = none
  | [] => rfl
  | _ :: _ => rfl

theorem getP_putP_self {α : Type} (x : Option α) : ∀ (p : List D4) (t : Od α), getP p (putP p x t) = x
  | [], t => by cases t <;> rfl
  | y :: p, t => by
    cases t <;> cases y <;> exact getP_putP_self x p _
theorem getP_putP_ne {α : Type} (x : Option α) : ∀ (p q : List D4) (t : Od α), q ≠ p → getP q (putP p x t) = getP q t
  | [], [], _, h => absurd rfl h
  | [], z :: q, t, _ => by cases t <;> cases z <;> first | rfl | exact getP_nil q
  | y :: p, [], t, _ => by cases t <;> cases y <;> rfl
  | y :: p, z :: q, t, h => by
    have h' : y = z → q ≠ p := fun e1 e2 => h (by rw [e1, e2])
    cases t with
    | nil => cases y <;> cases z <;> first | exact getP_nil q | exact (getP_putP_ne x p q .nil (h' rfl)).trans (getP_nil q)
    | node v a b c d => cases y <;> cases z <;> first | rfl | exact getP_putP_ne x p q _ (h' rfl)

theorem digit_inj {i j : Nat} (h : digit i = digit j) : i % 4 = j % 4 := by
  have e : ∀ k, k < 4 → (k = 0 ∨ k = 1 ∨ k = 2 ∨ k = 3) := fun k hk => by omega
  have hd : ∀ k m, k % 4 = m → digit k = Nat.rec (motive := fun _ => D4) .a (fun k _ => Nat.rec (motive := fun _ => D4) .b (fun k _ => Nat.rec (motive := fun _ => D4) .c (fun _ _ => .d) k) k) m := fun k m hm => by
    unfold digit
    rw [show Nat.mod k 4 = m from hm]
  rcases e (i % 4) (by omega) with h1 | h1 | h1 | h1 <;> rcases e (j % 4) (by omega) with h2 | h2 | h2 | h2 <;> first | omega | (rw [hd i _ h1, hd j _ h2] at h; cases h)

theorem pathF_inj : ∀ (n m i j : Nat), i ≤ n → j ≤ m → pathF n i = pathF m j → i = j
  | 0, 0, i, j, h1, h2, _ => by omega
  | 0, m + 1, i, j, h1, h2, h => by
    obtain rfl : i = 0 := by omega
    cases j with
    | zero => rfl
    | succ j => cases h
  | n + 1, 0, i, j, h1, h2, h => by
    obtain rfl : j = 0 := by omega
    cases i with
    | zero => rfl
    | succ i => cases h
  | n + 1, m + 1, i, j, h1, h2, h => by
    cases i with
    | zero =>
      cases j with
      | zero => rfl
      | succ j => cases h
    | succ i =>
      cases j with
      | zero => cases h
      | succ j =>
        have h : digit i :: pathF n (Nat.div i 4) = digit j :: pathF m (Nat.div j 4) := h
        injection h with h3 h4
        have q1 := digit_inj h3
        have q2 := pathF_inj n m (Nat.div i 4) (Nat.div j 4) (by show i / 4 ≤ n; omega) (by show j / 4 ≤ m; omega) h4
        have q2 : i / 4 = j / 4 := q2
        omega
theorem path_eq (i : Nat) : path i = pathF i i := by cases i <;> rfl
theorem path_inj {i j : Nat} (h : path i = path j) : i = j := by
  rw [path_eq, path_eq] at h
  exact pathF_inj i j i j (Nat.le_refl _) (Nat.le_refl _) h


theorem get_def {α : Type} (t : Tr α) (i : Nat) : t.get i = (selS i).run t := by cases i <;> rfl
theorem set_def {α : Type} (t : Tr α) (i : Nat) (x : Option α) : t.set i x = (updS i).run x t := by cases i <;> rfl

theorem sel_all {α : Type} (x : α) (d : Nat) : (selD d).run (V16.all x) = x := by
  match d with
  | 0 => rfl
  | 1 => rfl
  | 2 => rfl
  | 3 => rfl
  | 4 => rfl
  | 5 => rfl
  | 6 => rfl
  | 7 => rfl
  | 8 => rfl
  | 9 => rfl
  | 10 => rfl
  | 11 => rfl
  | 12 => rfl
  | 13 => rfl
  | 14 => rfl
  | _ + 15 => rfl
theorem sel_upd0 {α : Type} (x : α) (v : V16 α) (d : Nat) (h : d < 16) : (selD d).run ((updD 0).run x v) = if d = 0 then x else (selD d).run v := by
  match d, h with
  | 0, _ => rfl
  | 1, _ => rfl
  | 2, _ => rfl
  | 3, _ => rfl
  | 4, _ => rfl
  | 5, _ => rfl
  | 6, _ => rfl
  | 7, _ => rfl
  | 8, _ => rfl
  | 9, _ => rfl
  | 10, _ => rfl
  | 11, _ => rfl
  | 12, _ => rfl
  | 13, _ => rfl
  | 14, _ => rfl
  | 15, _ => rfl
  | n + 16, h => omega
theorem sel_upd1 {α : Type} (x : α) (v : V16 α) (d : Nat) (h : d < 16) : (selD d).run ((updD 1).run x v) = if d = 1 then x else (selD d).run v := by
  match d, h with
  | 0, _ => rfl
  | 1, _ => rfl
  | 2, _ => rfl
  | 3, _ => rfl
  | 4, _ => rfl
  | 5, _ => rfl
  | 6, _ => rfl
  | 7, _ => rfl
  | 8, _ => rfl
  | 9, _ => rfl
  | 10, _ => rfl
  | 11, _ => rfl
  | 12, _ => rfl
  | 13, _ => rfl
  | 14, _ => rfl
  | 15, _ => rfl
  | n + 16, h => omega
theorem sel_upd2 {α : Type} (x : α) (v : V16 α) (d : Nat) (h : d < 16) : (selD d).run ((updD 2).run x v) = if d = 2 then x else (selD d).run v := by
  match d, h with
  | 0, _ => rfl
  | 1, _ => rfl
  | 2, _ => rfl
  | 3, _ => rfl
  | 4, _ => rfl
  | 5, _ => rfl
  | 6, _ => rfl
  | 7, _ => rfl
  | 8, _ => rfl
  | 9, _ => rfl
  | 10, _ => rfl
  | 11, _ => rfl
  | 12, _ => rfl
  | 13, _ => rfl
  | 14, _ => rfl
  | 15, _ => rfl
  | n + 16, h => omega
theorem sel_upd3 {α : Type} (x : α) (v : V16 α) (d : Nat) (h : d < 16) : (selD d).run ((updD 3).run x v) = if d = 3 then x else (selD d).run v := by
  match d, h with
  | 0, _ => rfl
  | 1, _ => rfl
  | 2, _ => rfl
  | 3, _ => rfl
  | 4, _ => rfl
  | 5, _ => rfl
  | 6, _ => rfl
  | 7, _ => rfl
  | 8, _ => rfl
  | 9, _ => rfl
  | 10, _ => rfl
  | 11, _ => rfl
  | 12, _ => rfl
  | 13, _ => rfl
  | 14, _ => rfl
  | 15, _ => rfl
  | n + 16, h => omega
theorem sel_upd4 {α : Type} (x : α) (v : V16 α) (d : Nat) (h : d < 16) : (selD d).run ((updD 4).run x v) = if d = 4 then x else (selD d).run v := by
  match d, h with
  | 0, _ => rfl
  | 1, _ => rfl
  | 2, _ => rfl
  | 3, _ => rfl
  | 4, _ => rfl
  | 5, _ => rfl
  | 6, _ => rfl
  | 7, _ => rfl
  | 8, _ => rfl
  | 9, _ => rfl
  | 10, _ => rfl
  | 11, _ => rfl
  | 12, _ => rfl
  | 13, _ => rfl
  | 14, _ => rfl
  | 15, _ => rfl
  | n + 16, h => omega
theorem sel_upd5 {α : Type} (x : α) (v : V16 α) (d : Nat) (h : d < 16) : (selD d).run ((updD 5).run x v) = if d = 5 then x else (selD d).run v := by
  match d, h with
  | 0, _ => rfl
  | 1, _ => rfl
  | 2, _ => rfl
  | 3, _ => rfl
  | 4, _ => rfl
  | 5, _ => rfl
  | 6, _ => rfl
  | 7, _ => rfl
  | 8, _ => rfl
  | 9, _ => rfl
  | 10, _ => rfl
  | 11, _ => rfl
  | 12, _ => rfl
  | 13, _ => rfl
  | 14, _ => rfl
  | 15, _ => rfl
  | n + 16, h => omega
theorem sel_upd6 {α : Type} (x : α) (v : V16 α) (d : Nat) (h : d < 16) : (selD d).run ((updD 6).run x v) = if d = 6 then x else (selD d).run v := by
  match d, h with
  | 0, _ => rfl
  | 1, _ => rfl
  | 2, _ => rfl
  | 3, _ => rfl
  | 4, _ => rfl
  | 5, _ => rfl
  | 6, _ => rfl
  | 7, _ => rfl
  | 8, _ => rfl
  | 9, _ => rfl
  | 10, _ => rfl
  | 11, _ => rfl
  | 12, _ => rfl
  | 13, _ => rfl
  | 14, _ => rfl
  | 15, _ => rfl
  | n + 16, h => omega
theorem sel_upd7 {α : Type} (x : α) (v : V16 α) (d : Nat) (h : d < 16) : (selD d).run ((updD 7).run x v) = if d = 7 then x else (selD d).run v := by
  match d, h with
  | 0, _ => rfl
  | 1, _ => rfl
  | 2, _ => rfl
  | 3, _ => rfl
  | 4, _ => rfl
  | 5, _ => rfl
  | 6, _ => rfl
  | 7, _ => rfl
  | 8, _ => rfl
  | 9, _ => rfl
  | 10, _ => rfl
  | 11, _ => rfl
  | 12, _ => rfl
  | 13, _ => rfl
  | 14, _ => rfl
  | 15, _ => rfl
  | n + 16, h => omega
theorem sel_upd8 {α : Type} (x : α) (v : V16 α) (d : Nat) (h : d < 16) : (selD d).run ((updD 8).run x v) = if d = 8 then x else (selD d).run v := by
  match d, h with
  | 0, _ => rfl
  | 1, _ => rfl
  | 2, _ => rfl
  | 3, _ => rfl
  | 4, _ => rfl
  | 5, _ => rfl
  | 6, _ => rfl
  | 7, _ => rfl
  | 8, _ => rfl
  | 9, _ => rfl
  | 10, _ => rfl
  | 11, _ => rfl
  | 12, _ => rfl
  | 13, _ => rfl
  | 14, _ => rfl
  | 15, _ => rfl
  | n + 16, h => omega
theorem sel_upd9 {α : Type} (x : α) (v : V16 α) (d : Nat) (h : d < 16) : (selD d).run ((updD 9).run x v) = if d = 9 then x else (selD d).run v := by
  match d, h with
  | 0, _ => rfl
  | 1, _ => rfl
  | 2, _ => rfl
  | 3, _ => rfl
  | 4, _ => rfl
  | 5, _ => rfl
  | 6, _ => rfl
  | 7, _ => rfl
  | 8, _ => rfl
  | 9, _ => rfl
  | 10, _ => rfl
  | 11, _ => rfl
  | 12, _ => rfl
  | 13, _ => rfl
  | 14, _ => rfl
  | 15, _ => rfl
  | n + 16, h => omega
theorem sel_upd10 {α : Type} (x : α) (v : V16 α) (d : Nat) (h : d < 16) : (selD d).run ((updD 10).run x v) = if d = 10 then x else (selD d).run v := by
  match d, h with
  | 0, _ => rfl
  | 1, _ => rfl
  | 2, _ => rfl
  | 3, _ => rfl
  | 4, _ => rfl
  | 5, _ => rfl
  | 6, _ => rfl
  | 7, _ => rfl
  | 8, _ => rfl
  | 9, _ => rfl
  | 10, _ => rfl
  | 11, _ => rfl
  | 12, _ => rfl
  | 13, _ => rfl
  | 14, _ => rfl
  | 15, _ => rfl
  | n + 16, h => omega
theorem sel_upd11 {α : Type} (x : α) (v : V16 α) (d : Nat) (h : d < 16) : (selD d).run ((updD 11).run x v) = if d = 11 then x else (selD d).run v := by
  match d, h with
  | 0, _ => rfl
  | 1, _ => rfl
  | 2, _ => rfl
  | 3, _ => rfl
  | 4, _ => rfl
  | 5, _ => rfl
  | 6, _ => rfl
  | 7, _ => rfl
  | 8, _ => rfl
  | 9, _ => rfl
  | 10, _ => rfl
  | 11, _ => rfl
  | 12, _ => rfl
  | 13, _ => rfl
  | 14, _ => rfl
  | 15, _ => rfl
  | n + 16, h => omega
theorem sel_upd12 {α : Type} (x : α) (v : V16 α) (d : Nat) (h : d < 16) : (selD d).run ((updD 12).run x v) = if d = 12 then x else (selD d).run v := by
  match d, h with
  | 0, _ => rfl
  | 1, _ => rfl
  | 2, _ => rfl
  | 3, _ => rfl
  | 4, _ => rfl
  | 5, _ => rfl
  | 6, _ => rfl
  | 7, _ => rfl
  | 8, _ => rfl
  | 9, _ => rfl
  | 10, _ => rfl
  | 11, _ => rfl
  | 12, _ => rfl
  | 13, _ => rfl
  | 14, _ => rfl
  | 15, _ => rfl
  | n + 16, h => omega
theorem sel_upd13 {α : Type} (x : α) (v : V16 α) (d : Nat) (h : d < 16) : (selD d).run ((updD 13).run x v) = if d = 13 then x else (selD d).run v := by
  match d, h with
  | 0, _ => rfl
  | 1, _ => rfl
  | 2, _ => rfl
  | 3, _ => rfl
  | 4, _ => rfl
  | 5, _ => rfl
  | 6, _ => rfl
  | 7, _ => rfl
  | 8, _ => rfl
  | 9, _ => rfl
  | 10, _ => rfl
  | 11, _ => rfl
  | 12, _ => rfl
  | 13, _ => rfl
  | 14, _ => rfl
  | 15, _ => rfl
  | n + 16, h => omega
theorem sel_upd14 {α : Type} (x : α) (v : V16 α) (d : Nat) (h : d < 16) : (selD d).run ((updD 14).run x v) = if d = 14 then x else (selD d).run v := by
  match d, h with
  | 0, _ => rfl
  | 1, _ => rfl
  | 2, _ => rfl
  | 3, _ => rfl
  | 4, _ => rfl
  | 5, _ => rfl
  | 6, _ => rfl
  | 7, _ => rfl
  | 8, _ => rfl
  | 9, _ => rfl
  | 10, _ => rfl
  | 11, _ => rfl
  | 12, _ => rfl
  | 13, _ => rfl
  | 14, _ => rfl
  | 15, _ => rfl
  | n + 16, h => omega
theorem sel_upd15 {α : Type} (x : α) (v : V16 α) (d : Nat) (h : d < 16) : (selD d).run ((updD 15).run x v) = if d = 15 then x else (selD d).run v := by
  match d, h with
  | 0, _ => rfl
  | 1, _ => rfl
  | 2, _ => rfl
  | 3, _ => rfl
  | 4, _ => rfl
  | 5, _ => rfl
  | 6, _ => rfl
  | 7, _ => rfl
  | 8, _ => rfl
  | 9, _ => rfl
  | 10, _ => rfl
  | 11, _ => rfl
  | 12, _ => rfl
  | 13, _ => rfl
  | 14, _ => rfl
  | 15, _ => rfl
  | n + 16, h => omega
theorem sel_upd {α : Type} (x : α) (v : V16 α) (d e : Nat) (h : d < 16) (h' : e < 16) : (selD d).run ((updD e).run x v) = if d = e then x else (selD d).run v := by
  match e, h' with
  | 0, _ => exact sel_upd0 x v d h
  | 1, _ => exact sel_upd1 x v d h
  | 2, _ => exact sel_upd2 x v d h
  | 3, _ => exact sel_upd3 x v d h
  | 4, _ => exact sel_upd4 x v d h
  | 5, _ => exact sel_upd5 x v d h
  | 6, _ => exact sel_upd6 x v d h
  | 7, _ => exact sel_upd7 x v d h
  | 8, _ => exact sel_upd8 x v d h
  | 9, _ => exact sel_upd9 x v d h
  | 10, _ => exact sel_upd10 x v d h
  | 11, _ => exact sel_upd11 x v d h
  | 12, _ => exact sel_upd12 x v d h
  | 13, _ => exact sel_upd13 x v d h
  | 14, _ => exact sel_upd14 x v d h
  | 15, _ => exact sel_upd15 x v d h
  | n + 16, h => omega

theorem blt_t {i n : Nat} (h : i < n) : Nat.blt i n = true := Nat.blt_eq.mpr h
theorem blt_f {i n : Nat} (h : ¬ i < n) : Nat.blt i n = false := by rw [Bool.eq_false_iff]; exact fun e => h (Nat.blt_eq.mp e)

theorem selS_small {α : Type} {i : Nat} (h : i < 256) (t : Tr α) : (selS i).run t = (selD (i % 16)).run ((selD (i / 16)).run t.small) := by
  unfold selS
  rw [blt_t h]; rfl
theorem selS_mid {α : Type} {i : Nat} (h : ¬ i < 256) (h2 : i < 65536) (t : Tr α) : (selS i).run t = (selD (i % 16)).run ((selD (i / 16 % 16)).run ((selD (i / 256 % 16)).run ((selD (i / 4096)).run t.mid))) := by
  unfold selS
  rw [blt_f h, blt_t h2]; rfl
theorem selS_over {α : Type} {i : Nat} (h : ¬ i < 65536) (t : Tr α) : (selS i).run t = getP (path i) t.over := by
  unfold selS
  rw [blt_f (show ¬ i < 256 by omega), blt_f h]
theorem updS_small {α : Type} {i : Nat} (h : i < 256) (x : Option α) (t : Tr α) : (updS i).run x t = { t with small := (updD (i / 16)).run ((updD (i % 16)).run x ((selD (i / 16)).run t.small)) t.small } := by
  unfold updS
  rw [blt_t h]; rfl
theorem updS_mid {α : Type} {i : Nat} (h : ¬ i < 256) (h2 : i < 65536) (x : Option α) (t : Tr α) : (updS i).run x t = { t with mid := (updD (i / 4096)).run ((updD (i / 256 % 16)).run ((updD (i / 16 % 16)).run ((updD (i % 16)).run x
    ((selD (i / 16 % 16)).run ((selD (i / 256 % 16)).run ((selD (i / 4096)).run t.mid)))) ((selD (i / 256 % 16)).run ((selD (i / 4096)).run t.mid))) ((selD (i / 4096)).run t.mid)) t.mid } := by
  unfold updS
  rw [blt_f h, blt_t h2]; rfl
theorem updS_over {α : Type} {i : Nat} (h : ¬ i < 65536) (x : Option α) (t : Tr α) : (updS i).run x t = { t with over := putP (path i) x t.over } := by
  unfold updS
  rw [blt_f (show ¬ i < 256 by omega), blt_f h]

theorem Tr.get_nil {α : Type} (i : Nat) : (Tr.nil : Tr α).get i = none := by
  rw [get_def]
  by_cases h : i < 256
  · rw [selS_small h]
    show (selD (i % 16)).run ((selD (i / 16)).run (V16.all (V16.all none))) = none
    rw [sel_all, sel_all]
  · by_cases h2 : i < 65536
    · rw [selS_mid h h2]
      show (selD (i % 16)).run ((selD (i / 16 % 16)).run ((selD (i / 256 % 16)).run ((selD (i / 4096)).run (V16.all (V16.all (V16.all (V16.all none))))))) = none
      rw [sel_all, sel_all, sel_all, sel_all]
    · rw [selS_over h2]
      exact getP_nil _

theorem Tr.get_set {α : Type} (t : Tr α) (i j : Nat) (x : Option α) : (t.set i x).get j = if j = i then x else t.get j := by
  rw [set_def, get_def, get_def]
  by_cases hi : i < 256
  · rw [updS_small hi]
    by_cases hj : j < 256
    · rw [selS_small hj, selS_small hj]
      simp only
      rw [sel_upd _ _ _ _ (by omega) (by omega)]
      by_cases e : j / 16 = i / 16
      · rw [if_pos e, sel_upd _ _ _ _ (by omega) (by omega), e]
        by_cases e2 : j % 16 = i % 16
        · rw [if_pos e2, if_pos (by omega)]
        · rw [if_neg e2, if_neg (fun e3 => e2 (by rw [e3]))]
      · rw [if_neg e, if_neg (fun e3 => e (by rw [e3]))]
    · rw [if_neg (by omega)]
      by_cases hj2 : j < 65536
      · rw [selS_mid hj hj2, selS_mid hj hj2]
      · rw [selS_over hj2, selS_over hj2]
  · by_cases hi2 : i < 65536
    · rw [updS_mid hi hi2]
      by_cases hj : j < 256
      · rw [if_neg (by omega), selS_small hj, selS_small hj]
      · by_cases hj2 : j < 65536
        · rw [selS_mid hj hj2, selS_mid hj hj2]
          simp only
          rw [sel_upd _ _ _ _ (by omega) (by omega)]
          by_cases e : j / 4096 = i / 4096
          · rw [if_pos e, e, sel_upd _ _ _ _ (by omega) (by omega)]
            by_cases e2 : j / 256 % 16 = i / 256 % 16
            · rw [if_pos e2, e2, sel_upd _ _ _ _ (by omega) (by omega)]
              by_cases e3 : j / 16 % 16 = i / 16 % 16
              · rw [if_pos e3, e3, sel_upd _ _ _ _ (by omega) (by omega)]
                by_cases e4 : j % 16 = i % 16
                · rw [if_pos e4, if_pos (by omega)]
                · rw [if_neg e4, if_neg (fun q => e4 (by rw [q]))]
              · rw [if_neg e3, if_neg (fun q => e3 (by rw [q]))]
            · rw [if_neg e2, if_neg (fun q => e2 (by rw [q]))]
          · rw [if_neg e, if_neg (fun q => e (by rw [q]))]
        · rw [if_neg (by omega), selS_over hj2, selS_over hj2]
    · rw [updS_over hi2]
      by_cases hj : j < 256
      · rw [if_neg (by omega), selS_small hj, selS_small hj]
      · by_cases hj2 : j < 65536
        · rw [if_neg (by omega), selS_mid hj hj2, selS_mid hj hj2]
        · rw [selS_over hj2, selS_over hj2]
          simp only
          by_cases h : j = i
          · subst h; rw [if_pos rfl]; exact getP_putP_self x _ _
          · rw [if_neg h]; exact getP_putP_ne x _ _ _ (fun e => h (path_inj e))

theorem AHeap.get_set (h : AHeap) (i j : Nat) (o : Option AObj) : (h.set i o).get j = if j = i then o else h.get j := Tr.get_set _ _ _ _
theorem AHeap.get_new (h : AHeap) (j : Nat) (o : AObj) : (h.new o).get j = if j = h.next then some o else h.get j := Tr.get_set _ _ _ _
theorem AHeap.next_set (h : AHeap) (i : Nat) (o : Option AObj) : (h.set i o).next = h.next := rfl
theorem AHeap.next_new (h : AHeap) (o : AObj) : (h.new o).next = h.next + 1 := rfl

/-! ## Lists in step -/
inductive All2 {α β : Type} (R : α → β → Prop) : List α → List β → Prop
  | nil : All2 R [] []
  | cons {a b x y} : R a b → All2 R x y → All2 R (a :: x) (b :: y)

theorem All2.length {α β : Type} {R : α → β → Prop} {x : List α} {y : List β} (h : All2 R x y) : x.length = y.length := by
  induction h with
  | nil => rfl
  | cons _ _ ih => simp [ih]
theorem All2.mono {α β : Type} {R S : α → β → Prop} {x : List α} {y : List β} (h : All2 R x y) (hr : ∀ a b, R a b → S a b) : All2 S x y := by
  induction h with
  | nil => exact .nil
  | cons h _ ih => exact .cons (hr _ _ h) ih
theorem All2.append {α β : Type} {R : α → β → Prop} {x x' : List α} {y y' : List β} (h : All2 R x y) (h' : All2 R x' y') : All2 R (x ++ x') (y ++ y') := by
  induction h with
  | nil => exact h'
  | cons h _ ih => exact .cons h ih
theorem All2.get {α β : Type} {R : α → β → Prop} {x : List α} {y : List β} (h : All2 R x y) : ∀ (i : Nat) (a : α), x[i]? = some a → ∃ b, y[i]? = some b ∧ R a b := by
  induction h with
  | nil => intro i a h; simp at h
  | cons h _ ih =>
    intro i a hi
    cases i with
    | zero => simp at hi; subst hi; exact ⟨_, rfl, h⟩
    | succ i => simpa using ih i a (by simpa using hi)
theorem All2.of_get {α β : Type} {R : α → β → Prop} : ∀ {x : List α} {y : List β}, x.length = y.length → (∀ (i : Nat) (a : α) (b : β), x[i]? = some a → y[i]? = some b → R a b) → All2 R x y
  | [], [], _, _ => .nil
  | [], _ :: _, h, _ => by simp at h
  | _ :: _, [], h, _ => by simp at h
  | a :: x, b :: y, h, hr => .cons (hr 0 a b rfl rfl) (All2.of_get (by simpa using h) fun i c d hc hd => hr (i + 1) c d (by simpa using hc) (by simpa using hd))
theorem All2.drop {α β : Type} {R : α → β → Prop} {x : List α} {y : List β} (h : All2 R x y) (n : Nat) : All2 R (x.drop n) (y.drop n) := by
  induction h generalizing n with
  | nil => simpa using All2.nil
  | cons h t ih => cases n with
    | zero => exact .cons h t
    | succ n => simpa using ih n
theorem All2.take {α β : Type} {R : α → β → Prop} {x : List α} {y : List β} (h : All2 R x y) (n : Nat) : All2 R (x.take n) (y.take n) := by
  induction h generalizing n with
  | nil => simpa using All2.nil
  | cons h t ih => cases n with
    | zero => exact .nil
    | succ n => simpa using All2.cons h (ih n)

/-! ## Places and values -/
abbrev Inj := Nat → Option Pl

def SlRel (pl : Pl) (a : Addr) (len cap : Nat) (c : Addr) (cap' : Nat) : Prop :=
  (c = ⟨pl.blk, pl.off + a.off, none⟩ ∧ (cap' = cap ∨ (0 < pl.esz ∧ a.off + cap * pl.esz = pl.n ∧ a.off + cap' * pl.esz = pl.cap ∧ cap ≤ cap'))) ∨ (len = 0 ∧ cap = 0 ∧ cap' = 0)

inductive FnRel (ρ : Inj) : Fn → Fn → Prop
  | func (f : FuncId) : FnRel ρ (.func f) (.func f)
  | yield {l : Nat} {pl : Pl} : ρ l = some pl → FnRel ρ (.yield l) (.yield pl.blk)

inductive VRel (ρ : Inj) : Value → Value → Prop
  | bool (b : Bool) : VRel ρ (.bool b) (.bool b)
  | int (k : IntKind) (n : Int) : VRel ρ (.int k n) (.int k n)
  | string (s : ByteArray) : VRel ρ (.string s) (.string s)
  | ptr0 : VRel ρ (.pointer none) (.pointer none)
  | ptr {a : Addr} {pl : Pl} : ρ a.block = some pl → VRel ρ (.pointer (some a)) (.pointer (some ⟨pl.blk, pl.off + a.off, none⟩))
  | sl0 (l k : Nat) : VRel ρ (.slice none l k) (.slice none l k)
  | sl {a c : Addr} {l k k' : Nat} {pl : Pl} : ρ a.block = some pl → SlRel pl a l k c k' → VRel ρ (.slice (some a) l k) (.slice (some c) l k')
  | map0 : VRel ρ (.map none) (.map none)
  | map {r : Nat} {pl : Pl} : ρ r = some pl → VRel ρ (.map (some r)) (.map (some pl.blk))
  | func {fn fn' : Fn} {a a' c c' : Array Value} : FnRel ρ fn fn' → a.size = a'.size → (∀ (i : Nat) (v v' : Value), a[i]? = some v → a'[i]? = some v' → VRel ρ v v') → c.size = c'.size →
      (∀ (i : Nat) (v v' : Value), c[i]? = some v → c'[i]? = some v' → VRel ρ v v') → VRel ρ (.func fn a c) (.func fn' a' c')
  | nilFunc : VRel ρ .nilFunc .nilFunc
  | iface {t : TypeId} {v v' : Value} : VRel ρ v v' → VRel ρ (.iface t v) (.iface t v')
  | nilIface : VRel ρ .nilIface .nilIface
  | agg {a a' : Array Value} : a.size = a'.size → (∀ (i : Nat) (v v' : Value), a[i]? = some v → a'[i]? = some v' → VRel ρ v v') → VRel ρ (.agg a) (.agg a')
  | tuple {a a' : Array Value} : a.size = a'.size → (∀ (i : Nat) (v v' : Value), a[i]? = some v → a'[i]? = some v' → VRel ρ v v') → VRel ρ (.tuple a) (.tuple a')

def Ext (ρ ρ' : Inj) : Prop := ∀ i pl, ρ i = some pl → ρ' i = some pl
theorem Ext.refl (ρ : Inj) : Ext ρ ρ := fun _ _ h => h
theorem Ext.trans {ρ ρ' ρ'' : Inj} (h : Ext ρ ρ') (h' : Ext ρ' ρ'') : Ext ρ ρ'' := fun i pl x => h' i pl (h i pl x)

theorem FnRel.mono {ρ ρ' : Inj} (hx : Ext ρ ρ') {f g : Fn} (h : FnRel ρ f g) : FnRel ρ' f g := by
  cases h with
  | func f => exact .func f
  | yield h => exact .yield (hx _ _ h)
theorem VRel.mono {ρ ρ' : Inj} (hx : Ext ρ ρ') {v v' : Value} (h : VRel ρ v v') : VRel ρ' v v' := by
  induction h with
  | bool b => exact .bool b
  | int k n => exact .int k n
  | string s => exact .string s
  | ptr0 => exact .ptr0
  | ptr h => exact .ptr (hx _ _ h)
  | sl0 l k => exact .sl0 l k
  | sl h hs => exact .sl (hx _ _ h) hs
  | map0 => exact .map0
  | map h => exact .map (hx _ _ h)
  | func hf h1 _ h2 _ ih1 ih2 => exact .func (hf.mono hx) h1 ih1 h2 ih2
  | nilFunc => exact .nilFunc
  | iface _ ih => exact .iface ih
  | nilIface => exact .nilIface
  | agg h1 _ ih => exact .agg h1 ih
  | tuple h1 _ ih => exact .tuple h1 ih

abbrev VsRel (ρ : Inj) := All2 (VRel ρ)
theorem VsRel.mono {ρ ρ' : Inj} (hx : Ext ρ ρ') {x y : List Value} (h : VsRel ρ x y) : VsRel ρ' x y := All2.mono h fun _ _ => VRel.mono hx

theorem vs_of {ρ : Inj} {a a' : Array Value} (h : a.size = a'.size) (hr : ∀ (i : Nat) (v v' : Value), a[i]? = some v → a'[i]? = some v' → VRel ρ v v') : VsRel ρ a.toList a'.toList :=
  All2.of_get (by simpa using h) fun i v v' hv hv' => hr i v v' (by simpa using hv) (by simpa using hv')
theorem of_vs {ρ : Inj} {a a' : Array Value} (h : VsRel ρ a.toList a'.toList) : a.size = a'.size ∧ ∀ (i : Nat) (v v' : Value), a[i]? = some v → a'[i]? = some v' → VRel ρ v v' := by
  refine ⟨by simpa using h.length, fun i v v' hv hv' => ?_⟩
  obtain ⟨b, hb, hr⟩ := h.get i v (by simpa using hv)
  have : a'[i]? = some b := by simpa using hb
  rw [this] at hv'; cases hv'; exact hr
theorem VRel.agg_iff {ρ : Inj} {a a' : Array Value} : VRel ρ (.agg a) (.agg a') ↔ VsRel ρ a.toList a'.toList :=
  ⟨fun h => by cases h with | agg h1 h2 => exact vs_of h1 h2, fun h => .agg (of_vs h).1 (of_vs h).2⟩
theorem VRel.tuple_iff {ρ : Inj} {a a' : Array Value} : VRel ρ (.tuple a) (.tuple a') ↔ VsRel ρ a.toList a'.toList :=
  ⟨fun h => by cases h with | tuple h1 h2 => exact vs_of h1 h2, fun h => .tuple (of_vs h).1 (of_vs h).2⟩
theorem VRel.agg_l {ρ : Inj} {a : Array Value} {v' : Value} (h : VRel ρ (.agg a) v') : ∃ a', v' = .agg a' ∧ VsRel ρ a.toList a'.toList := by
  cases h with | agg h1 h2 => exact ⟨_, rfl, vs_of h1 h2⟩
theorem VRel.tuple_l {ρ : Inj} {a : Array Value} {v' : Value} (h : VRel ρ (.tuple a) v') : ∃ a', v' = .tuple a' ∧ VsRel ρ a.toList a'.toList := by
  cases h with | tuple h1 h2 => exact ⟨_, rfl, vs_of h1 h2⟩
theorem VRel.mk_agg {ρ : Inj} {l : List Value} {a' : Array Value} (h : VsRel ρ l a'.toList) : VRel ρ (.agg l.toArray) (.agg a') := VRel.agg_iff.2 (by simpa using h)

/-! ## Plain values -/
theorem plainN_rel {ρ : Inj} : ∀ (n : Nat) (v : Value), plainN n v = true → VRel ρ v v
  | 0, _, h => by simp [plainN] at h
  | n + 1, v, h => by
    have arr : ∀ a : Array Value, a.toList.all (plainN n) = true → ∀ (i : Nat) (v v' : Value), a[i]? = some v → a[i]? = some v' → VRel ρ v v' := fun a ha i v v' hv hv' => by
      rw [hv] at hv'; cases hv'
      exact plainN_rel n v (List.all_eq_true.1 ha v (by
        have : a.toList[i]? = some v := by simpa using hv
        exact List.mem_of_getElem? this))
    cases v with
    | bool b => exact .bool b
    | int k n => exact .int k n
    | string s => exact .string s
    | pointer a => cases a with
      | none => exact .ptr0
      | some a => simp [plainN] at h
    | slice a l k => cases a with
      | none => exact .sl0 l k
      | some a => simp [plainN] at h
    | map r => cases r with
      | none => exact .map0
      | some a => simp [plainN] at h
    | nilFunc => exact .nilFunc
    | nilIface => exact .nilIface
    | iface t v => exact .iface (plainN_rel n v (by simpa [plainN] using h))
    | agg a => exact .agg rfl (arr a (by simpa [plainN] using h))
    | tuple a => exact .tuple rfl (arr a (by simpa [plainN] using h))
    | _ => simp [plainN] at h
theorem plain_rel {ρ : Inj} {v : Value} (h : plain v = true) : VRel ρ v v := plainN_rel 6 v h

theorem plainN_eq {ρ : Inj} : ∀ (n : Nat) (v v' : Value), plainN n v = true → VRel ρ v v' → v' = v
  | 0, _, _, h, _ => by simp [plainN] at h
  | n + 1, v, v', h, hr => by
    have arr : ∀ a a' : Array Value, a.toList.all (plainN n) = true → a.size = a'.size → (∀ (i : Nat) (v v' : Value), a[i]? = some v → a'[i]? = some v' → VRel ρ v v') → a' = a := fun a a' ha hs hv => by
      apply Array.ext (by omega)
      intro i h1 h2
      exact plainN_eq n _ _ (List.all_eq_true.1 ha a[i] (by simp)) (hv i _ _ (Array.getElem?_eq_getElem h2) (Array.getElem?_eq_getElem h1))
    cases hr with
    | iface hv => rw [plainN_eq n _ _ (by simpa [plainN] using h) hv]
    | agg hs hv => rw [arr _ _ (by simpa [plainN] using h) hs hv]
    | tuple hs hv => rw [arr _ _ (by simpa [plainN] using h) hs hv]
    | ptr _ => simp [plainN] at h
    | sl _ _ => simp [plainN] at h
    | map _ => simp [plainN] at h
    | func _ _ _ _ _ => simp [plainN] at h
    | _ => rfl
theorem plain_eq {ρ : Inj} {v v' : Value} (h : plain v = true) (hr : VRel ρ v v') : v' = v := plainN_eq 6 v v' h hr

/-! ## Objects -/
def AObj.wr : AObj → Bool
  | .row _ wr _ => wr
  | _ => true

structure EntRel (ρ : Inj) (x y : MapEntry) : Prop where
  key : y.key = x.key
  plain : plain x.key = true
  val : VRel ρ x.val y.val
  born : y.born = x.born

/-- The slots of a frame. -/
def TRel (ρ : Inj) (t : Tr Value) (n : Nat) (a : Array Value) : Prop := a.size = n ∧ ∀ i v, t.get i = some v → i < n ∧ VRel ρ v (a.getD i undef)

def ORel (ρ : Inj) (w : World) (pl : Pl) : AObj → Prop
  | .row cs wr esz => ∃ c el fz, w.heap[pl.blk]? = some (.cells c el fz) ∧ (wr = true → fz = (0, 0)) ∧ pl.n = cs.length ∧ pl.esz = esz ∧ pl.n ≤ pl.cap ∧ pl.off + pl.cap ≤ c.size ∧ (esz = 0 → pl.cap = pl.n) ∧
      VsRel ρ cs ((c.toList.drop pl.off).take pl.n) ∧ (cs = [] → pl.pin (.cells c el fz))
  | .map es clock => pl.off = 0 ∧ ∃ es', w.heap[pl.blk]? = some (.map es' clock) ∧ All2 (EntRel ρ) es es'.toList
  | .mapIt m since seen last => pl.off = 0 ∧ ∃ m', w.heap[pl.blk]? = some (.mapIter m' since seen.toArray last) ∧ VRel ρ (.map m) (.map m')
  | .strIt s pos => pl.off = 0 ∧ w.heap[pl.blk]? = some (.stringIter s pos)
  | .loop st pend t n params asg body dfr => pl.off = 0 ∧ ∃ fn tmps dpl, ρ dfr = some dpl ∧ TRel ρ t n tmps ∧
      w.heap[pl.blk]? = some (.loop { state := st, pending := pend, fn, tmps, params := params.toArray, assign := asg, body, defers := dpl.blk })
  | .dfr empty => pl.off = 0 ∧ w.heap[pl.blk]? = some (.deferred (if empty then some [] else none))

theorem EntRel.mono {ρ ρ' : Inj} (hx : Ext ρ ρ') {x y : MapEntry} (h : EntRel ρ x y) : EntRel ρ' x y := ⟨h.key, h.plain, h.val.mono hx, h.born⟩
theorem TRel.mono {ρ ρ' : Inj} (hx : Ext ρ ρ') {t : Tr Value} {n : Nat} {a : Array Value} (h : TRel ρ t n a) : TRel ρ' t n a := ⟨h.1, fun i v hv => ⟨(h.2 i v hv).1, (h.2 i v hv).2.mono hx⟩⟩

/-- An object's word depends on its block alone. -/
theorem ORel.mono {ρ ρ' : Inj} {w w' : World} {pl : Pl} {o : AObj} (hx : Ext ρ ρ') (hw : w'.heap[pl.blk]? = w.heap[pl.blk]?) (h : ORel ρ w pl o) : ORel ρ' w' pl o := by
  cases o with
  | row cs wr esz =>
    obtain ⟨c, el, fz, h1, h2, h3, h4, h5, h6, h7, h8⟩ := h
    exact ⟨c, el, fz, hw ▸ h1, h2, h3, h4, h5, h6, h7, h8.1.mono hx, h8.2⟩
  | map es clock => obtain ⟨h0, es', h1, h2⟩ := h; exact ⟨h0, es', hw ▸ h1, h2.mono fun _ _ => EntRel.mono hx⟩
  | mapIt m since seen last => obtain ⟨h0, m', h1, h2⟩ := h; exact ⟨h0, m', hw ▸ h1, h2.mono hx⟩
  | strIt s pos => exact ⟨h.1, hw ▸ h.2⟩
  | loop st pend t n params asg body dfr =>
    obtain ⟨h0, fn, tmps, dpl, h1, h2, h3⟩ := h
    exact ⟨h0, fn, tmps, dpl, hx _ _ h1, h2.mono hx, hw ▸ h3⟩
  | dfr e => exact ⟨h.1, hw ▸ h.2⟩

theorem ORel.lt {ρ : Inj} {w : World} {pl : Pl} {o : AObj} (h : ORel ρ w pl o) : pl.blk < w.heap.size := by
  have key : ∀ {x : Obj}, w.heap[pl.blk]? = some x → pl.blk < w.heap.size := fun hx => (Array.getElem?_eq_some_iff.1 hx).1
  cases o with
  | row cs wr esz => obtain ⟨c, el, fz, h1, _⟩ := h; exact key h1
  | map es clock => obtain ⟨_, es', h1, _⟩ := h; exact key h1
  | mapIt m since seen last => obtain ⟨_, m', h1, _⟩ := h; exact key h1
  | strIt s pos => exact key h.2
  | loop st pend t n params asg body dfr => obtain ⟨_, fn, tmps, dpl, _, _, h3⟩ := h; exact key h3
  | dfr e => exact key h.2

/-! ## Memory -/
structure WRel (ρ : Inj) (h : AHeap) (w : World) : Prop where
  dom : ∀ i pl, ρ i = some pl → i < h.next
  obj : ∀ i o, h.get i = some o → ∃ pl, ρ i = some pl ∧ ORel ρ w pl o
  sep : ∀ i j o p pi pj, i ≠ j → h.get i = some o → o.wr = true → h.get j = some p → ρ i = some pi → ρ j = some pj → pi.blk ≠ pj.blk

def Host (ρ : Inj) (h : AHeap) (b : Nat) : Prop := ∃ i o pl, h.get i = some o ∧ o.wr = true ∧ ρ i = some pl ∧ pl.blk = b

/-- What a step may turn: 'b': every number that it gives is b or more. -/
structure Fr (b : Nat) (ρ : Inj) (h : AHeap) (w : World) (ρ' : Inj) (h' : AHeap) (w' : World) : Prop where
  ext : Ext ρ ρ'
  os : w'.os = w.os
  output : w'.output = w.output
  size : w.heap.size ≤ w'.heap.size
  frozen : ∀ a, a.block < w.heap.size → w'.frozen? a = w.frozen? a
  kept : ∀ k, k < w.heap.size → ¬ Host ρ h k → w'.heap[k]? = w.heap[k]?
  new : ∀ i o pl, h'.get i = some o → o.wr = true → ρ' i = some pl → Host ρ h pl.blk ∨ w.heap.size ≤ pl.blk
  ro : ∀ i o, h'.get i = some o → o.wr = false → h.get i = some o
  ids : ∀ i, ρ i = none → ρ' i ≠ none → b ≤ i
  old : ∀ i o, h'.get i = some o → i < b → ∃ p, h.get i = some p
  next : h.next ≤ h'.next

theorem Fr.refl (b : Nat) (ρ : Inj) (h : AHeap) (w : World) : Fr b ρ h w ρ h w :=
  ⟨Ext.refl _, rfl, rfl, Nat.le_refl _, fun _ _ => rfl, fun _ _ _ => rfl, fun i o pl h1 h2 h3 => .inl ⟨i, o, pl, h1, h2, h3, rfl⟩, fun _ _ h _ => h, fun _ h h' => absurd h h', fun _ o h _ => ⟨o, h⟩, Nat.le_refl _⟩

theorem Fr.mono {b b' : Nat} {ρ ρ' : Inj} {h h' : AHeap} {w w' : World} (x : Fr b ρ h w ρ' h' w') (hb : b' ≤ b) : Fr b' ρ h w ρ' h' w' :=
  ⟨x.ext, x.os, x.output, x.size, x.frozen, x.kept, x.new, x.ro, fun i h1 h2 => Nat.le_trans hb (x.ids i h1 h2), fun i o h1 h2 => x.old i o h1 (Nat.lt_of_lt_of_le h2 hb), x.next⟩

theorem Fr.trans {b : Nat} {ρ ρ' ρ'' : Inj} {h h' h'' : AHeap} {w w' w'' : World} (x : Fr b ρ h w ρ' h' w') (y : Fr b ρ' h' w' ρ'' h'' w'') : Fr b ρ h w ρ'' h'' w'' := by
  refine ⟨x.ext.trans y.ext, y.os.trans x.os, y.output.trans x.output, Nat.le_trans x.size y.size, fun a ha => (y.frozen a (Nat.lt_of_lt_of_le ha x.size)).trans (x.frozen a ha), ?_, ?_, ?_, ?_, fun i o h1 h2 => let ⟨p, hp⟩ := y.old i o h1 h2; x.old i p hp h2, Nat.le_trans x.next y.next⟩
  · intro k hb hh
    rw [y.kept k (Nat.lt_of_lt_of_le hb x.size) ?_, x.kept k hb hh]
    rintro ⟨i, o, pl, h1, h2, h3, rfl⟩
    rcases x.new i o pl h1 h2 h3 with h4 | h4
    · exact hh h4
    · omega
  · intro i o pl h1 h2 h3
    rcases y.new i o pl h1 h2 h3 with ⟨j, p, pj, g1, g2, g3, g4⟩ | h4
    · rw [← g4]; exact x.new j p pj g1 g2 g3
    · exact .inr (Nat.le_trans x.size h4)
  · intro i o h1 h2
    exact x.ro i o (y.ro i o h1 h2) h2
  · intro i h1 h2
    by_cases h3 : ρ' i = none
    · exact y.ids i h3 h2
    · exact x.ids i h1 h3

/-- A part of a memory. -/
theorem WRel.sub {ρ : Inj} {h g : AHeap} {w : World} (x : WRel ρ h w) (hs : ∀ i o, g.get i = some o → h.get i = some o) (hn : h.next ≤ g.next) : WRel ρ g w :=
  ⟨fun i pl hp => Nat.lt_of_lt_of_le (x.dom i pl hp) hn, fun i o ho => x.obj i o (hs i o ho), fun i j o p pi pj hij h1 h2 h3 => x.sep i j o p pi pj hij (hs i o h1) h2 (hs j p h3)⟩

/-- Only draws were made. -/
theorem fr_draw {ρ : Inj} {h : AHeap} {w w' : World} (hh : w'.heap = w.heap) (ho : w'.os = w.os) (hu : w'.output = w.output) (b : Nat) : Fr b ρ h w ρ h w' :=
  ⟨Ext.refl _, ho, hu, by rw [hh]; exact Nat.le_refl _, fun a _ => by simp [World.frozen?, hh], fun _ _ _ => by rw [hh], fun i o pl h1 h2 h3 => .inl ⟨i, o, pl, h1, h2, h3, rfl⟩, fun _ _ h _ => h, fun _ h h' => absurd h h', fun _ o h _ => ⟨o, h⟩, Nat.le_refl _⟩
theorem WRel.draw {ρ : Inj} {h : AHeap} {w w' : World} (x : WRel ρ h w) (hh : w'.heap = w.heap) : WRel ρ h w' :=
  ⟨x.dom, fun i o ho => let ⟨pl, h1, h2⟩ := x.obj i o ho; ⟨pl, h1, h2.mono (Ext.refl _) (by rw [hh])⟩, x.sep⟩

def Inj.put (ρ : Inj) (i : Nat) (pl : Pl) : Inj := fun j => if j = i then some pl else ρ j
theorem Inj.put_self (ρ : Inj) (i : Nat) (pl : Pl) : ρ.put i pl i = some pl := by simp [Inj.put]
theorem Inj.put_ne (ρ : Inj) {i j : Nat} (pl : Pl) (h : j ≠ i) : ρ.put i pl j = ρ j := by simp [Inj.put, h]
theorem Inj.ext_put {ρ : Inj} {i : Nat} (pl : Pl) (h : ρ i = none) : Ext ρ (ρ.put i pl) := fun j p hj => by
  have : j ≠ i := fun e => by rw [e, h] at hj; cases hj
  rw [Inj.put_ne _ _ this]; exact hj
theorem WRel.fresh {ρ : Inj} {h : AHeap} {w : World} (x : WRel ρ h w) : ρ h.next = none := by
  cases e : ρ h.next with
  | none => rfl
  | some pl => exact absurd (x.dom _ _ e) (Nat.lt_irrefl _)

/-- The world with one block more. -/
def World.add (w : World) (o : Obj) : World := { w with heap := w.heap.push o }
theorem heap_add_self (w : World) (o : Obj) : (World.add w o).heap[w.heap.size]? = some o := by
  show (w.heap.push o)[w.heap.size]? = some o
  rw [Array.getElem?_push, if_pos rfl]
theorem heap_add_old (w : World) (o : Obj) {b : Nat} (hb : b < w.heap.size) : (World.add w o).heap[b]? = w.heap[b]? := by
  show (w.heap.push o)[b]? = _
  rw [Array.getElem?_push, if_neg (Nat.ne_of_lt hb)]
theorem size_add (w : World) (o : Obj) : (World.add w o).heap.size = w.heap.size + 1 := by
  show (w.heap.push o).size = _
  simp

def Obj.unfrozen : Obj → Bool
  | .cells _ _ fz => fz == (0, 0)
  | _ => true

theorem frozen_add (w : World) (o : Obj) (ho : Obj.unfrozen o = true) (a : Addr) : (World.add w o).frozen? a = w.frozen? a := by
  by_cases h : a.block < w.heap.size
  · simp only [World.frozen?, heap_add_old w o h]
  · have e2 : w.heap[a.block]? = none := by simp; omega
    by_cases h' : a.block = w.heap.size
    · have e1 : (World.add w o).heap[a.block]? = some o := by rw [h']; exact heap_add_self w o
      simp only [World.frozen?, e1, e2]
      cases o <;> simp_all [Obj.unfrozen]
    · have e1 : (World.add w o).heap[a.block]? = none := by rw [Array.getElem?_eq_none_iff, size_add]; omega
      simp only [World.frozen?, e1, e2]

/-- A number that is free, and the memory with an object at it. -/
structure Slot (b : Nat) (ρ : Inj) (h : AHeap) (id : Nat) (ao : AObj) (h' : AHeap) : Prop where
  free : ρ id = none
  ge : b ≤ id
  get : ∀ j, h'.get j = if j = id then some ao else h.get j
  next : h.next ≤ h'.next
  lt : id < h'.next

theorem WRel.slot {ρ : Inj} {h : AHeap} {w : World} (x : WRel ρ h w) (ao : AObj) : Slot h.next ρ h h.next ao (h.new ao) :=
  ⟨x.fresh, Nat.le_refl _, fun j => AHeap.get_new _ _ _, Nat.le_succ _, Nat.lt_succ_self _⟩

/-- A new object. -/
theorem wrel_at {b id : Nat} {ρ : Inj} {h h' : AHeap} {w : World} {ao : AObj} {o : Obj} {pl : Pl} (x : WRel ρ h w) (s : Slot b ρ h id ao h') (hu : Obj.unfrozen o = true) (hb : pl.blk = w.heap.size)
    (hr : ORel (ρ.put id pl) (World.add w o) pl ao) (hw : ao.wr = true) : WRel (ρ.put id pl) h' (World.add w o) ∧ Fr b ρ h w (ρ.put id pl) h' (World.add w o) := by
  have hext : Ext ρ (ρ.put id pl) := Inj.ext_put pl s.free
  refine ⟨⟨?_, ?_, ?_⟩, ⟨hext, rfl, rfl, by rw [size_add]; omega, fun a _ => frozen_add w o hu a, fun b hb' _ => heap_add_old w o hb', ?_, ?_, ?_, ?_, s.next⟩⟩
  · intro i p hp
    by_cases e : i = id
    · rw [e]; exact s.lt
    · rw [Inj.put_ne _ _ e] at hp
      exact Nat.lt_of_lt_of_le (x.dom i p hp) s.next
  · intro i o' ho'
    rw [s.get] at ho'
    by_cases e : i = id
    · rw [if_pos e] at ho'; cases ho'; subst e
      exact ⟨pl, Inj.put_self _ _ _, hr⟩
    · rw [if_neg e] at ho'
      obtain ⟨pi, h1, h2⟩ := x.obj i o' ho'
      exact ⟨pi, hext _ _ h1, h2.mono hext (heap_add_old w o h2.lt)⟩
  · intro i j o' p pi pj hij h1 h2 h3 h4 h5
    rw [s.get] at h1 h3
    by_cases ei : i = id
    · by_cases ej : j = id
      · exact absurd (ei.trans ej.symm) hij
      · rw [if_neg ej] at h3
        rw [ei, Inj.put_self] at h4; cases h4
        rw [Inj.put_ne _ _ ej] at h5
        obtain ⟨pj', g1, g2⟩ := x.obj j p h3
        rw [g1] at h5; cases h5
        have := g2.lt
        omega
    · rw [if_neg ei] at h1
      rw [Inj.put_ne _ _ ei] at h4
      obtain ⟨pi', g1, g2⟩ := x.obj i o' h1
      rw [g1] at h4; cases h4
      by_cases ej : j = id
      · rw [ej, Inj.put_self] at h5; cases h5
        have := g2.lt
        omega
      · rw [if_neg ej] at h3
        rw [Inj.put_ne _ _ ej] at h5
        exact x.sep i j o' p pi pj hij h1 h2 h3 g1 h5
  · intro i o' p h1 h2 h3
    rw [s.get] at h1
    by_cases e : i = id
    · rw [e, Inj.put_self] at h3; cases h3
      exact .inr (Nat.le_of_eq hb.symm)
    · rw [if_neg e] at h1
      rw [Inj.put_ne _ _ e] at h3
      exact .inl ⟨i, o', p, h1, h2, h3, rfl⟩
  · intro i o' h1 h2
    rw [s.get] at h1
    by_cases e : i = id
    · rw [if_pos e] at h1; cases h1; rw [hw] at h2; cases h2
    · rw [if_neg e] at h1; exact h1
  · intro i h1 h2
    by_cases e : i = id
    · rw [e]; exact s.ge
    · rw [Inj.put_ne _ _ e] at h2; exact absurd h1 h2
  · intro i o' h1 h2
    rw [s.get, if_neg (Nat.ne_of_lt (Nat.lt_of_lt_of_le h2 s.ge))] at h1
    exact ⟨o', h1⟩

/-- The world with one block turned. -/
def World.turn (w : World) (b : Nat) (o : Obj) : World := { w with heap := w.heap.setIfInBounds b o }
theorem heap_turn_self (w : World) (b : Nat) (o : Obj) (hb : b < w.heap.size) : (World.turn w b o).heap[b]? = some o := by
  simp [World.turn, hb]
theorem heap_turn_ne (w : World) {b c : Nat} (o : Obj) (h : c ≠ b) : (World.turn w b o).heap[c]? = w.heap[c]? := by
  simp [World.turn, Array.getElem?_setIfInBounds, Ne.symm h]

theorem frozen_turn (w : World) (b : Nat) (o p : Obj) (hp : w.heap[b]? = some p) (h1 : Obj.unfrozen o = true) (h2 : Obj.unfrozen p = true) (a : Addr) :
    (World.turn w b o).frozen? a = w.frozen? a := by
  by_cases e : a.block = b
  · have hb : b < w.heap.size := (Array.getElem?_eq_some_iff.1 hp).1
    simp only [World.frozen?, e, heap_turn_self w b o hb, hp]
    cases o <;> cases p <;> simp_all [Obj.unfrozen]
  · simp only [World.frozen?, heap_turn_ne w o e]

theorem ORel.unfrozen {ρ : Inj} {w : World} {pl : Pl} {o : AObj} (h : ORel ρ w pl o) (hw : o.wr = true) : ∃ p, w.heap[pl.blk]? = some p ∧ Obj.unfrozen p = true := by
  cases o with
  | row cs wr esz =>
    obtain ⟨c, el, fz, h1, h2, _⟩ := h
    exact ⟨_, h1, by simp [Obj.unfrozen, h2 hw]⟩
  | map es clock => obtain ⟨_, es', h1, _⟩ := h; exact ⟨_, h1, rfl⟩
  | mapIt m since seen last => obtain ⟨_, m', h1, _⟩ := h; exact ⟨_, h1, rfl⟩
  | strIt s pos => exact ⟨_, h.2, rfl⟩
  | loop st pend t n params asg body dfr => obtain ⟨_, fn, tmps, dpl, _, _, h3⟩ := h; exact ⟨_, h3, rfl⟩
  | dfr e => exact ⟨_, h.2, rfl⟩

/-- An object turned in its place. -/
theorem wrel_turn {b : Nat} {ρ : Inj} {h : AHeap} {w : World} {i : Nat} {ao ao' : AObj} {o : Obj} {pl : Pl} (x : WRel ρ h w) (hi : h.get i = some ao) (hw : ao.wr = true) (hp : ρ i = some pl)
    (hu : Obj.unfrozen o = true) (hr : ORel ρ (World.turn w pl.blk o) pl ao') (hw' : ao'.wr = true) :
    WRel ρ (h.set i (some ao')) (World.turn w pl.blk o) ∧ Fr b ρ h w ρ (h.set i (some ao')) (World.turn w pl.blk o) := by
  obtain ⟨pl', e1, e2⟩ := x.obj i ao hi
  rw [hp] at e1; cases e1
  obtain ⟨p, hpb, hpu⟩ := e2.unfrozen hw
  refine ⟨⟨x.dom, ?_, ?_⟩, ⟨Ext.refl _, rfl, rfl, by simp [World.turn], fun a _ => frozen_turn w _ o p hpb hu hpu a, ?_, ?_, ?_, fun _ h h' => absurd h h', ?_, Nat.le_refl _⟩⟩
  · intro j q hj
    rw [AHeap.get_set] at hj
    by_cases e : j = i
    · rw [if_pos e] at hj; cases hj; subst e
      exact ⟨pl, hp, hr⟩
    · rw [if_neg e] at hj
      obtain ⟨pj, g1, g2⟩ := x.obj j q hj
      exact ⟨pj, g1, g2.mono (Ext.refl _) (heap_turn_ne w o (Ne.symm (x.sep i j ao q pl pj (Ne.symm e) hi hw hj hp g1)))⟩
  · intro j k q r pj pk hjk h1 h2 h3 h4 h5
    rw [AHeap.get_set] at h1 h3
    by_cases ej : j = i
    · by_cases ek : k = i
      · exact absurd (ej.trans ek.symm) hjk
      · rw [if_neg ek] at h3
        subst ej
        exact x.sep _ _ ao r pj pk hjk hi hw h3 h4 h5
    · rw [if_neg ej] at h1
      by_cases ek : k = i
      · subst ek
        exact x.sep _ _ q ao pj pk hjk h1 h2 hi h4 h5
      · rw [if_neg ek] at h3
        exact x.sep j k q r pj pk hjk h1 h2 h3 h4 h5
  · intro b _ hh
    refine heap_turn_ne w o fun e => hh ⟨i, ao, pl, hi, hw, hp, e.symm⟩
  · intro j q pj h1 h2 h3
    rw [AHeap.get_set] at h1
    by_cases e : j = i
    · subst e; rw [hp] at h3; cases h3
      exact .inl ⟨_, ao, pl, hi, hw, hp, rfl⟩
    · rw [if_neg e] at h1
      exact .inl ⟨j, q, pj, h1, h2, h3, rfl⟩
  · intro j q h1 h2
    rw [AHeap.get_set] at h1
    by_cases e : j = i
    · rw [if_pos e] at h1; cases h1; rw [hw'] at h2; cases h2
    · rw [if_neg e] at h1; exact h1
  · intro j q h1 _
    rw [AHeap.get_set] at h1
    by_cases e : j = i
    · subst e; exact ⟨ao, hi⟩
    · rw [if_neg e] at h1; exact ⟨q, h1⟩

/-- An object given up, its block (if it is one that may be written) the home of a new one. -/
theorem wrel_move {ρ : Inj} {h : AHeap} {w : World} {i : Nat} {ao ao' : AObj} {o : Obj} {pl pl' : Pl} (x : WRel ρ h w) (hi : h.get i = some ao) (hw : ao.wr = true) (hp : ρ i = some pl)
    (hu : Obj.unfrozen o = true) (hb : pl'.blk = pl.blk) (hr : ORel (ρ.put h.next pl') (World.turn w pl.blk o) pl' ao') (hw' : ao'.wr = true) :
    WRel (ρ.put h.next pl') ((h.set i none).new ao') (World.turn w pl.blk o) ∧ Fr h.next ρ h w (ρ.put h.next pl') ((h.set i none).new ao') (World.turn w pl.blk o) := by
  obtain ⟨pl0, e1, e2⟩ := x.obj i ao hi
  rw [hp] at e1; cases e1
  obtain ⟨p, hpb, hpu⟩ := e2.unfrozen hw
  have hext : Ext ρ (ρ.put h.next pl') := Inj.ext_put pl' x.fresh
  have hget : ∀ j, ((h.set i none).new ao').get j = if j = h.next then some ao' else if j = i then none else h.get j := fun j => by rw [AHeap.get_new, AHeap.get_set]; rfl
  have hold : ∀ j o', h.get j = some o' → j ≠ h.next := fun j o' ho' e => by
    obtain ⟨pi, h1, _⟩ := x.obj j o' ho'
    rw [e, x.fresh] at h1; cases h1
  refine ⟨⟨?_, ?_, ?_⟩, ⟨hext, rfl, rfl, by simp [World.turn], fun a _ => frozen_turn w _ o p hpb hu hpu a, ?_, ?_, ?_, ?_, ?_, Nat.le_succ _⟩⟩
  · intro j q hj
    by_cases e : j = h.next
    · rw [e]; exact Nat.lt_succ_self _
    · rw [Inj.put_ne _ _ e] at hj
      exact Nat.lt_succ_of_lt (x.dom j q hj)
  · intro j q hj
    rw [hget] at hj
    by_cases e : j = h.next
    · rw [if_pos e] at hj; cases hj; subst e
      exact ⟨pl', Inj.put_self _ _ _, hr⟩
    · rw [if_neg e] at hj
      by_cases e' : j = i
      · rw [if_pos e'] at hj; cases hj
      · rw [if_neg e'] at hj
        obtain ⟨pj, g1, g2⟩ := x.obj j q hj
        exact ⟨pj, hext _ _ g1, g2.mono hext (heap_turn_ne w o (Ne.symm (x.sep i j ao q pl pj (Ne.symm e') hi hw hj hp g1)))⟩
  · intro j k q r pj pk hjk h1 h2 h3 h4 h5
    rw [hget] at h1 h3
    by_cases ej : j = h.next
    · by_cases ek : k = h.next
      · exact absurd (ej.trans ek.symm) hjk
      · rw [if_neg ek] at h3
        by_cases ek' : k = i
        · rw [if_pos ek'] at h3; cases h3
        · rw [if_neg ek'] at h3
          rw [ej, Inj.put_self] at h4; cases h4
          rw [Inj.put_ne _ _ ek] at h5
          rw [hb]
          exact x.sep i k ao r pl pk (Ne.symm ek') hi hw h3 hp h5
    · rw [if_neg ej] at h1
      by_cases ej' : j = i
      · rw [if_pos ej'] at h1; cases h1
      · rw [if_neg ej'] at h1
        rw [Inj.put_ne _ _ ej] at h4
        by_cases ek : k = h.next
        · rw [ek, Inj.put_self] at h5; cases h5
          rw [hb]
          exact x.sep j i q ao pj pl ej' h1 h2 hi h4 hp
        · rw [if_neg ek] at h3
          by_cases ek' : k = i
          · rw [if_pos ek'] at h3; cases h3
          · rw [if_neg ek'] at h3
            rw [Inj.put_ne _ _ ek] at h5
            exact x.sep j k q r pj pk hjk h1 h2 h3 h4 h5
  · intro b _ hh
    exact heap_turn_ne w o fun e => hh ⟨i, ao, pl, hi, hw, hp, e.symm⟩
  · intro j q pj h1 h2 h3
    rw [hget] at h1
    by_cases e : j = h.next
    · rw [e, Inj.put_self] at h3; cases h3
      exact .inl ⟨i, ao, pl, hi, hw, hp, hb.symm⟩
    · rw [if_neg e] at h1
      by_cases e' : j = i
      · rw [if_pos e'] at h1; cases h1
      · rw [if_neg e'] at h1
        rw [Inj.put_ne _ _ e] at h3
        exact .inl ⟨j, q, pj, h1, h2, h3, rfl⟩
  · intro j q h1 h2
    rw [hget] at h1
    by_cases e : j = h.next
    · rw [if_pos e] at h1; cases h1; rw [hw'] at h2; cases h2
    · rw [if_neg e] at h1
      by_cases e' : j = i
      · rw [if_pos e'] at h1; cases h1
      · rw [if_neg e'] at h1; exact h1
  · intro j h1 h2
    by_cases e : j = h.next
    · exact Nat.le_of_eq e.symm
    · rw [Inj.put_ne _ _ e] at h2; exact absurd h1 h2
  · intro j q h1 h2
    rw [hget, if_neg (Nat.ne_of_lt h2)] at h1
    by_cases e' : j = i
    · subst e'; exact ⟨ao, hi⟩
    · rw [if_neg e'] at h1; exact ⟨q, h1⟩

/-- An object given up, nothing else. -/
theorem WRel.kill {ρ : Inj} {h : AHeap} {w : World} (x : WRel ρ h w) (i b : Nat) : WRel ρ (h.set i none) w ∧ Fr b ρ h w ρ (h.set i none) w := by
  have hs : ∀ j o, (h.set i none).get j = some o → h.get j = some o := fun j o hj => by
    rw [AHeap.get_set] at hj
    by_cases e : j = i
    · rw [if_pos e] at hj; cases hj
    · rw [if_neg e] at hj; exact hj
  exact ⟨x.sub hs (Nat.le_refl _), ⟨Ext.refl _, rfl, rfl, Nat.le_refl _, fun _ _ => rfl, fun _ _ _ => rfl, fun j o pl h1 h2 h3 => .inl ⟨j, o, pl, hs j o h1, h2, h3, rfl⟩,
    fun j o h1 _ => hs j o h1, fun _ h h' => absurd h h', fun j o h1 _ => ⟨o, hs j o h1⟩, Nat.le_refl _⟩⟩


/-- A step over a part of a memory, seen over the whole: what stands aside stays. -/
theorem WRel.extend {b : Nat} {ρ ρ' : Inj} {u g g' u' : AHeap} {w w' : World} (x : WRel ρ u w) (hs : ∀ i o, g.get i = some o → u.get i = some o) (y : WRel ρ' g' w') (f : Fr b ρ g w ρ' g' w')
    (hu : ∀ i o, u'.get i = some o → g'.get i = some o ∨ (u.get i = some o ∧ g.get i = none)) (hn : u.next ≤ u'.next) (hn' : g'.next ≤ u'.next) : WRel ρ' u' w' ∧ Fr b ρ u w ρ' u' w' := by
  have host : ∀ {k}, Host ρ g k → Host ρ u k := fun ⟨i, o, pl, h1, h2, h3, h4⟩ => ⟨i, o, pl, hs i o h1, h2, h3, h4⟩
  -- what stands aside keeps its block
  have aside : ∀ {i o pl}, u.get i = some o → g.get i = none → ρ i = some pl → ¬ Host ρ g pl.blk := fun {i o pl} h1 h2 h3 ⟨j, p, pj, g1, g2, g3, g4⟩ => by
    have hij : j ≠ i := fun e => by rw [e, h2] at g1; cases g1
    exact x.sep j i p o pj pl hij (hs j p g1) g2 h1 g3 h3 g4
  have key : ∀ {i o pl j p pj}, u.get i = some o → g.get i = none → ρ i = some pl → g'.get j = some p → p.wr = true → ρ' j = some pj → pj.blk ≠ pl.blk := fun {i o pl j p pj} h1 h2 h3 h4 h5 h6 e => by
    rcases f.new j p pj h4 h5 h6 with h7 | h7
    · rw [e] at h7; exact aside h1 h2 h3 h7
    · obtain ⟨pl', q1, q2⟩ := x.obj i o h1
      rw [h3] at q1; cases q1
      have := q2.lt
      omega
  refine ⟨⟨fun i pl h => Nat.lt_of_lt_of_le (y.dom i pl h) hn', fun i o h => ?_, fun i j o p pi pj hij h1 h2 h3 h4 h5 => ?_⟩,
    ⟨f.ext, f.os, f.output, f.size, f.frozen, fun k hk hh => f.kept k hk fun h => hh (host h), fun i o pl h1 h2 h3 => ?_, fun i o h1 h2 => ?_, f.ids, fun i o h1 h2 => ?_, hn⟩⟩
  · rcases hu i o h with h | ⟨h1, h2⟩
    · exact y.obj i o h
    · obtain ⟨pl, q1, q2⟩ := x.obj i o h1
      exact ⟨pl, f.ext _ _ q1, q2.mono f.ext (f.kept _ q2.lt (aside h1 h2 q1))⟩
  · rcases hu i o h1 with a1 | ⟨a1, a2⟩
    · rcases hu j p h3 with b1 | ⟨b1, b2⟩
      · exact y.sep i j o p pi pj hij a1 h2 b1 h4 h5
      · obtain ⟨pl, q1, q2⟩ := x.obj j p b1
        rw [f.ext _ _ q1] at h5; cases h5
        exact key b1 b2 q1 a1 h2 h4
    · obtain ⟨pl, q1, q2⟩ := x.obj i o a1
      rw [f.ext _ _ q1] at h4; cases h4
      rcases hu j p h3 with b1 | ⟨b1, b2⟩
      · cases hw : p.wr with
        | true => exact Ne.symm (key a1 a2 q1 b1 hw h5)
        | false =>
          have hg := f.ro j p b1 hw
          obtain ⟨pl', r1, r2⟩ := x.obj j p (hs j p hg)
          rw [f.ext _ _ r1] at h5; cases h5
          exact x.sep i j o p _ _ hij a1 h2 (hs j p hg) q1 r1
      · obtain ⟨pl', r1, r2⟩ := x.obj j p b1
        rw [f.ext _ _ r1] at h5; cases h5
        exact x.sep i j o p _ _ hij a1 h2 b1 q1 r1
  · rcases hu i o h1 with a1 | ⟨a1, a2⟩
    · exact (f.new i o pl a1 h2 h3).imp host id
    · obtain ⟨pl', q1, q2⟩ := x.obj i o a1
      rw [f.ext _ _ q1] at h3; cases h3
      exact .inl ⟨i, o, _, a1, h2, q1, rfl⟩
  · rcases hu i o h1 with a1 | ⟨a1, a2⟩
    · exact hs _ _ (f.ro i o a1 h2)
    · exact a1
  · rcases hu i o h1 with a1 | ⟨a1, a2⟩
    · obtain ⟨p, hp⟩ := f.old i o a1 h2
      exact ⟨p, hs _ _ hp⟩
    · exact ⟨o, a1⟩

end Go.Abs
end

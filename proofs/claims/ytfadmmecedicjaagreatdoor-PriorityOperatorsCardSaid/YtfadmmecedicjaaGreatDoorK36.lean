/-
  PriorityOperators: parts of its proof (Tr4 Cb1 Cb2).
-/
import Derived.Test.YtfadmmecedicjaaGreatDoorK20
import Derived.Test.YtfadmmecedicjaaGreatDoorK24
import Derived.Test.YtfadmmecedicjaaGreatDoorK32
import Derived.Test.YtfadmmecedicjaaGreatDoorK35
set_option linter.unusedVariables false
set_option linter.unusedSimpArgs false

section
/-
  Grouped: walked.
-/
namespace Go.Pri
open Go Go.Abs Go.Proofs Go.RowKit Go.Lib Go.Maps
set_option maxRecDepth 100000
set_option maxHeartbeats 8000000

/-! ## Plain -/
/-- The level of operator k of an expression. -/
def lvK (L : Nat → Int) (ops : List Nat) (k : Nat) : Nat := (L (ops.getD k 0) % 3).toNat
/-- The root so far, and how many of its level there are. -/
def rootTo (L S : Nat → Int) (ops : List Nat) (f : Nat) : Nat → Nat × Nat
  | 0 => (f, 0)
  | j + 1 => let s := rootTo L S ops f j
    if lvK L ops s.1 < lvK L ops (f + j) then (f + j, 1) else if lvK L ops (f + j) = lvK L ops s.1 then (if S (lvK L ops (f + j)) % 3 = 0 then f + j else s.1, s.2 + 1) else s
def groupN (L S : Nat → Int) (ops : List Nat) : Nat → Nat → Nat → List Nd × Bool
  | 0, _, f => (leafT f, true)
  | _ + 1, 0, f => (leafT f, true)
  | n + 1, d + 1, f => let s := rootTo L S ops f (d + 1)
    let a := groupN L S ops n (s.1 - f) f
    let b := groupN L S ops n (f + (d + 1) - (s.1 + 1)) (s.1 + 1)
    (joinT ops f s.1 (f + (d + 1)) a.1 b.1, a.2 && b.2 && (!(decide (S (lvK L ops s.1) % 3 = 2)) || decide (s.2 = 1)))
theorem rootTo_in (L S : Nat → Int) (ops : List Nat) (f : Nat) : ∀ j, f ≤ (rootTo L S ops f j).1 ∧ (rootTo L S ops f j).1 ≤ f + (j - 1) ∧ (rootTo L S ops f j).2 ≤ j
  | 0 => by simp [rootTo]
  | j + 1 => by
    have ih := rootTo_in L S ops f j
    simp only [rootTo]
    split
    · simp
    · split
      · simp only
        split <;> omega
      · omega
theorem groupN_len (L S : Nat → Int) (ops : List Nat) : ∀ {n d f : Nat}, d ≤ n → (groupN L S ops n d f).1.length = 4 * d + 2
  | 0, d, f, h => by
    obtain rfl : d = 0 := by omega
    rfl
  | n + 1, 0, f, _ => rfl
  | n + 1, d + 1, f, h => by
    have hr := rootTo_in L S ops f (d + 1)
    simp only [groupN]
    rw [joinT_len, groupN_len L S ops (n := n) (by omega), groupN_len L S ops (n := n) (by omega)]
    omega

theorem group_leaf (ov xv : Value) (f : Nat) (w : World) (hf : f ≤ 100) (hx : ∃ xs : List Value, xv = .agg xs.toArray ∧ xs.length = 8) (hx1 : ∃ a b c d e f g h : Int, xv = .agg #[.int .u8 a, .int .u8 b, .int .u8 c, .int .u8 d, .int .u8 e, .int .u8 f, .int .u8 g, .int .u8 h]) :
    Calls Tryz.prog 7 #[xv, ov, .int .i64 f, .int .i64 f] w fun e w' => ∃ v, e = .returned (.tuple #[v, .bool true]) ∧ Old w w' ∧ TreeAt w' v (leafT f) := by
  obtain ⟨x0, x1, x2, x3, x4, x5, x6, x7, rfl⟩ := hx1
  clear hx
  have hO1 : Old w (w.alloc (.cells #[.int .u8 x0, .int .u8 x1, .int .u8 x2, .int .u8 x3, .int .u8 x4, .int .u8 x5, .int .u8 x6, .int .u8 x7] 25)) := (Old.refl w).alloc _
  have hl := leaf8 ov f (w.alloc (.cells #[.int .u8 x0, .int .u8 x1, .int .u8 x2, .int .u8 x3, .int .u8 x4, .int .u8 x5, .int .u8 x6, .int .u8 x7] 25)) hf
  replace hl : Aside _ := hl
  go_enter Tryz.func7, Tryz.ntmps7
  go_wp2_with (go_at_call 8; refine Calls.mono hl.out ?_; rintro e w2 ⟨v, b, rfl, hO2, hT, _⟩; obtain ⟨bx, cx, hA, hc⟩ := hT.cell (i := 0) rfl; have f0 := hc w2 rfl; obtain ⟨cap, _, _, hv, _⟩ := hT; subst hv; replace hA : Aside _ := hA; replace hc : Aside _ := hc; replace hO2 : Aside _ := hO2)
  go_ret2
  exact ⟨_, rfl, hO1.trans hO2.out, hA.out⟩
end Go.Pri
end

section
/-
  The trees of an expression, as the machines of the tree's ends and kids take them.
-/
namespace Go.Pri
open Go Go.Abs

/-- A tree of an expression, without its places. -/
inductive ET where
  | leaf : ET
  | bin : Nat → ET → ET → ET
def ET.size : ET → Nat
  | .leaf => 2
  | .bin _ a b => a.size + b.size + 2
def ET.nodes (ops : List Nat) : ET → Nat → Nat → List Nd
  | .leaf, f, _ => leafT f
  | .bin k a b, f, t => joinT ops f k t (a.nodes ops f k) (b.nodes ops (k + 1) t)
/-- It is one of the expression from f to t. -/
def ET.over : ET → Nat → Nat → Prop
  | .leaf, f, t => f = t
  | .bin k a b, f, t => f ≤ k ∧ k < t ∧ a.over f k ∧ b.over (k + 1) t
def ET.outs : ET → Nat → List Int
  | .leaf, i => [(i : Int) + 2, (i : Int) + 2]
  | .bin _ a b, i => ((i + (a.size + b.size + 2) : Nat) : Int) :: (a.outs (i + 1) ++ (((i + 1 + a.size : Nat) : Int) + 1) :: b.outs (i + 1 + a.size + 1))
def ET.kids : ET → Nat → List (List Int)
  | .leaf, i => [[(i : Int) + 1], []]
  | .bin _ a b, i => [(i : Int) + 1, ((i + 1 + a.size : Nat) : Int), ((i + 1 + a.size : Nat) : Int) + 1] :: (a.kids (i + 1) ++ [] :: b.kids (i + 1 + a.size + 1))

theorem ET.nodes_len (ops : List Nat) : ∀ (T : ET) (f t : Nat), (T.nodes ops f t).length = T.size
  | .leaf, _, _ => rfl
  | .bin k a b, f, t => by
    simp only [ET.nodes, joinT_len, ET.size, nodes_len ops a, nodes_len ops b]
theorem ET.outs_len : ∀ (T : ET) (i : Nat), (T.outs i).length = T.size
  | .leaf, _ => rfl
  | .bin k a b, i => by
    simp only [ET.outs, ET.size, List.length_cons, List.length_append, outs_len a, outs_len b]; omega
theorem ET.kids_len : ∀ (T : ET) (i : Nat), (T.kids i).length = T.size
  | .leaf, _ => rfl
  | .bin k a b, i => by
    simp only [ET.kids, ET.size, List.length_cons, List.length_append, kids_len a, kids_len b]; omega
theorem ET.size_two : ∀ (T : ET), 2 ≤ T.size
  | .leaf => Nat.le_refl _
  | .bin _ a b => by simp only [ET.size]; omega

theorem trees_over (ops : List Nat) : ∀ {n d f : Nat} {l : List Nd}, d ≤ n → l ∈ treesN ops n d f → ∃ T : ET, T.over f (f + d) ∧ l = T.nodes ops f (f + d)
  | 0, d, f, l, hd, h => by
    obtain rfl : d = 0 := by omega
    simp only [treesN, List.mem_singleton] at h
    exact ⟨.leaf, rfl, h⟩
  | n + 1, 0, f, l, hd, h => by
    simp only [treesN, List.mem_singleton] at h
    exact ⟨.leaf, rfl, h⟩
  | n + 1, d + 1, f, l, hd, h => by
    simp only [treesN, treesTo, rowJ, List.mem_flatMap, List.mem_map, List.mem_range] at h
    obtain ⟨j, hj, a, ha, b, hb, rfl⟩ := h
    obtain ⟨A, hA, rfl⟩ := trees_over ops (n := n) (by omega) ha
    obtain ⟨B, hB, rfl⟩ := trees_over ops (n := n) (by omega) hb
    have e1 : f + (f + j - f) = f + j := by omega
    have e2 : f + j + 1 + (f + (d + 1) - (f + j + 1)) = f + (d + 1) := by omega
    rw [e1] at hA
    rw [e2] at hB
    exact ⟨.bin (f + j) A B, ⟨by omega, by omega, hA, hB⟩, by rw [e1, e2]; rfl⟩

/-! ## The machine of the ends -/
theorem set_mid {α : Type} {pre post : List α} {i : Nat} (h : pre.length = i) (x v : α) : (pre ++ x :: post).set i v = pre ++ v :: post := by
  subst h
  simp
theorem set_mid2 {α : Type} {pre post : List α} {i : Nat} (h : pre.length = i) (x y v : α) : (pre ++ x :: y :: post).set (i + 1) v = pre ++ x :: v :: post := by
  subst h
  simp
theorem rep_add {α : Type} (a b : Nat) (x : α) : List.replicate (a + b + 2) x = x :: (List.replicate a x ++ x :: List.replicate b x) := by
  have e : a + b + 2 = (a + (b + 1)) + 1 := by omega
  rw [e, List.replicate_succ, ← List.replicate_append_replicate, List.replicate_succ]

theorem tok_eq (o : Nat) : tokC o = opTok o := by
  unfold tokC opTok
  split <;> simp
theorem psOf_op {n o : Nat} (h : o < n) : (psOf n)[1 + o]? = some (0, [(false, 0), (true, opTok o), (false, 0)]) := by
  rw [Nat.add_comm 1 o]
  simp only [psOf, List.getElem?_cons_succ, List.getElem?_map]
  rw [List.getElem?_range h, ← tok_eq]
  rfl
theorem psOf_left {n j : Nat} : (((psOf n)[j]?).map (·.1)).getD 0 = 0 := by
  match j with
  | 0 => rfl
  | j + 1 =>
    simp only [psOf, List.getElem?_cons_succ, List.getElem?_map]
    cases (List.range n)[j]? <;> rfl
theorem sym_inner {n : Nat} {x : Nd} (h : 0 ≤ x.p) : symOf (psOf n) x = (false, 0) := by
  unfold symOf
  rw [if_neg (by omega), psOf_left]
theorem rights_leaf (n : Nat) (x y : Int) : rightsOf (psOf n) ⟨0, -1, x, y⟩ = [(true, 0)] := rfl
theorem rights_tok (n : Nat) (z x y : Int) : rightsOf (psOf n) ⟨-1, z, x, y⟩ = [] := rfl
theorem sym_tok (n : Nat) (z x y : Int) : symOf (psOf n) ⟨-1, z, x, y⟩ = (true, z) := rfl
theorem rights_op {n o : Nat} (h : o < n) (x y : Int) : rightsOf (psOf n) ⟨1 + (o : Nat), -1, x, y⟩ = [(false, 0), (true, opTok o), (false, 0)] := by
  unfold rightsOf
  simp only
  rw [if_neg (by omega), show ((1 : Int) + (o : Nat)).toNat = 1 + o by omega, psOf_op h]
  rfl

theorem runE_cons {ps : List Prod'} {x : Nd} {r : List Nd} {i : Nat} {S S' : Stk} {out : List Int} (h : ahead ps i x S = some S') : runE ps (x :: r) i (S, out) = runE ps r (i + 1) (settle i ((i, rightsOf ps x) :: S') out) := by
  simp only [runE, stepE, h]
theorem ahead_cons {ps : List Prod'} {x : Nd} {i k : Nat} {y : Sym} {rs : List Sym} {S : Stk} (h : symOf ps x = y) : ahead ps i x ((k, y :: rs) :: S) = some ((k, rs) :: S) := by
  simp only [ahead, h, if_true]

theorem runE_seg (n : Nat) (ops : List Nat) : ∀ (T : ET) (f t i : Nat) (S S' : Stk) (pre post : List Int) (r : List Nd), T.over f t → (∀ k, f ≤ k → k < t → ops.getD k 0 < n) → pre.length = i →
    (∀ x, symOf (psOf n) x = (false, 0) → ahead (psOf n) i x S = some S') →
    runE (psOf n) (T.nodes ops f t ++ r) i (S, pre ++ (List.replicate T.size 0 ++ post)) = runE (psOf n) r (i + T.size) (settle (i + T.size - 1) S' (pre ++ (T.outs i ++ post)))
  | .leaf, f, t, i, S, S', pre, post, r, _, _, hi, hS => by
    have h1 := hS ⟨0, -1, 2 * (f : Int), 2 * (f : Int) + 1⟩ rfl
    simp only [ET.nodes, leafT, List.cons_append, List.nil_append, ET.size, ET.outs, List.replicate_succ, List.replicate_zero]
    rw [runE_cons h1, rights_leaf]
    simp only [settle]
    rw [runE_cons (ahead_cons (sym_tok _ _ _ _)), rights_tok]
    simp only [settle]
    rw [set_mid2 hi, set_mid hi]
    have e : ((i + 1 : Nat) : Int) + 1 = (i : Int) + 2 := by omega
    have e2 : i + 2 - 1 = i + 1 := by omega
    rw [e, e2]
  | .bin k a b, f, t, i, S, S', pre, post, r, ho, hops, hi, hS => by
    obtain ⟨hk1, hk2, ha, hb⟩ := ho
    have hok := hops k hk1 hk2
    have h1 := hS ⟨1 + (ops.getD k 0 : Nat), -1, 2 * (f : Int), 2 * (t : Int) + 1⟩ (sym_inner (by simp only; omega))
    have iha := runE_seg n ops a f k (i + 1) ((i, [(false, 0), (true, opTok (ops.getD k 0)), (false, 0)]) :: S') ((i, [(true, opTok (ops.getD k 0)), (false, 0)]) :: S') (pre ++ [0]) (0 :: (List.replicate b.size 0 ++ post)) (⟨-1, opTok (ops.getD k 0), 2 * (k : Int) + 1, 2 * (k : Int) + 2⟩ :: (b.nodes ops (k + 1) t ++ r)) ha
      (fun j h1 h2 => hops j h1 (by omega)) (by simp [hi]) (fun x hx => by simp only [ahead, hx, if_true])
    have ihb := runE_seg n ops b (k + 1) t (i + 1 + a.size + 1) ((i, [(false, 0)]) :: S') ((i, []) :: S') (pre ++ 0 :: (a.outs (i + 1) ++ [((i + 1 + a.size : Nat) : Int) + 1])) post r hb
      (fun j h1 h2 => hops j (by omega) h2) (by simp [hi, ET.outs_len]; omega) (fun x hx => by simp only [ahead, hx, if_true])
    simp only [List.append_assoc, List.cons_append, List.nil_append] at iha ihb
    simp only [ET.nodes, joinT, List.cons_append, List.append_assoc, ET.size, rep_add]
    rw [runE_cons h1, rights_op hok]
    simp only [settle]
    rw [iha]
    simp only [settle]
    rw [runE_cons (ahead_cons (sym_tok _ _ _ _)), rights_tok]
    simp only [settle]
    have e3 : ∀ v : Int, (pre ++ 0 :: (a.outs (i + 1) ++ 0 :: (List.replicate b.size 0 ++ post))).set (i + 1 + a.size) v = pre ++ 0 :: (a.outs (i + 1) ++ v :: (List.replicate b.size 0 ++ post)) := fun v => by
      have := set_mid (pre := pre ++ 0 :: a.outs (i + 1)) (post := List.replicate b.size 0 ++ post) (i := i + 1 + a.size) (by simp [hi, ET.outs_len]; omega) (0 : Int) v
      simpa using this
    rw [e3, ihb]
    simp only [settle]
    have e4 : i + 1 + a.size + 1 + b.size - 1 = i + (a.size + b.size + 2) - 1 := by omega
    have e5 : i + 1 + a.size + 1 + b.size = i + (a.size + b.size + 2) := by omega
    have e6 : ((i + (a.size + b.size + 2) - 1 : Nat) : Int) + 1 = ((i + (a.size + b.size + 2) : Nat) : Int) := by omega
    rw [set_mid hi, e4, e5, e6]
    simp only [ET.outs, List.cons_append, List.append_assoc]

theorem runE_tree {n : Nat} {ops : List Nat} {T : ET} {f t : Nat} (h : T.over f t) (hops : ∀ k, f ≤ k → k < t → ops.getD k 0 < n) :
    runE (psOf n) (T.nodes ops f t) 0 ([], List.replicate (T.nodes ops f t).length 0) = some ([], T.outs 0) := by
  have := runE_seg n ops T f t 0 [] [] [] [] [] h hops rfl (fun x _ => by simp [ahead])
  simp only [List.append_nil, List.nil_append] at this
  rw [ET.nodes_len, this]
  rfl

/-! ## The machine of the kids -/
theorem rlen_at {ps : List Prod'} {l : List Nd} {u : Nat} {x : Nd} (h : l[u]? = some x) : rlen ps l u = (rightsOf ps x).length := by
  simp only [rlen, h]
theorem get_mid {α : Type} {pre post : List α} {i : Nat} (h : pre.length = i) (x : α) : (pre ++ x :: post)[i]? = some x := by
  subst h
  simp
theorem kidOf_pre {i : Nat} {S : List Nat} {pre post : List (List Int)} (h : ∀ u ∈ S, u < pre.length) : kidOf i S (pre ++ post) = kidOf i S pre ++ post := by
  match S, h with
  | [], _ => rfl
  | u :: S, h =>
    have hu := h u (by simp)
    simp only [kidOf]
    rw [List.getElem?_append_left hu, List.set_append_left _ _ hu]
theorem kidOf_len (i : Nat) (S : List Nat) (K : List (List Int)) : (kidOf i S K).length = K.length := by
  cases S <;> simp [kidOf]

theorem kidOf_step {u i : Nat} {S : List Nat} {P Z : List (List Int)} {ks : List Int} (h : P.length = u) : kidOf i (u :: S) (P ++ ks :: Z) = P ++ (ks ++ [(i : Int)]) :: Z := by
  rw [show kidOf i (u :: S) (P ++ ks :: Z) = (P ++ ks :: Z).set u (((P ++ ks :: Z)[u]?).getD [] ++ [(i : Int)]) from rfl, get_mid h, set_mid h]
  rfl

theorem runK_seg (n : Nat) (ops : List Nat) (l : List Nd) : ∀ (T : ET) (f t i : Nat) (S : List Nat) (pre post : List (List Int)) (lp lq r : List Nd), T.over f t → (∀ k, f ≤ k → k < t → ops.getD k 0 < n) → pre.length = i →
    l = lp ++ (T.nodes ops f t ++ lq) → lp.length = i → (∀ u ∈ S, u < i) →
    runK (psOf n) l (T.nodes ops f t ++ r) i (S, pre ++ (List.replicate T.size [] ++ post)) = runK (psOf n) l r (i + T.size) (settleK (psOf n) l (kidOf i S pre ++ (T.kids i ++ post)) S, kidOf i S pre ++ (T.kids i ++ post))
  | .leaf, f, t, i, S, pre, post, lp, lq, r, _, _, hi, hl, hlp, hS => by
    have hr : rlen (psOf n) l i = 1 := by
      rw [rlen_at (x := ⟨0, -1, 2 * (f : Int), 2 * (f : Int) + 1⟩) (by rw [hl]; exact get_mid hlp _), rights_leaf]
      rfl
    simp only [ET.nodes, leafT, List.cons_append, List.nil_append, runK, stepK, ET.size, ET.kids, List.replicate_succ, List.replicate_zero, Int.le_refl, if_true]
    rw [kidOf_pre (by rw [hi]; exact hS)]
    have hlen : (kidOf i S pre).length = i := by rw [kidOf_len, hi]
    have h1 : settleK (psOf n) l (kidOf i S pre ++ [] :: [] :: post) (i :: S) = i :: S := by
      simp only [settleK, get_mid hlen, hr]
      simp
    rw [h1]
    have h2 : kidOf (i + 1) (i :: S) (kidOf i S pre ++ [] :: [] :: post) = kidOf i S pre ++ [(i : Int) + 1] :: [] :: post := kidOf_step hlen
    rw [h2]
    have h3 : settleK (psOf n) l (kidOf i S pre ++ [(i : Int) + 1] :: [] :: post) (if (0 : Int) ≤ -1 then (i + 1) :: i :: S else i :: S) = settleK (psOf n) l (kidOf i S pre ++ [(i : Int) + 1] :: [] :: post) S := by
      rw [if_neg (by omega)]
      conv => lhs; unfold settleK
      simp only [get_mid hlen, hr]
      simp
    rw [h3]
  | .bin k a b, f, t, i, S, pre, post, lp, lq, r, ho, hops, hi, hl, hlp, hS => by
    obtain ⟨hk1, hk2, ha, hb⟩ := ho
    have hok := hops k hk1 hk2
    simp only [ET.nodes, joinT, List.cons_append, List.append_assoc] at hl
    have hr : rlen (psOf n) l i = 3 := by
      rw [rlen_at (x := ⟨1 + (ops.getD k 0 : Nat), -1, 2 * (f : Int), 2 * (t : Int) + 1⟩) (by rw [hl]; exact get_mid hlp _), rights_op hok]
      rfl
    have hlen : (kidOf i S pre).length = i := by rw [kidOf_len, hi]
    have iha := runK_seg n ops l a f k (i + 1) (i :: S) (kidOf i S pre ++ [[]]) ([] :: (List.replicate b.size [] ++ post)) (lp ++ [⟨1 + (ops.getD k 0 : Nat), -1, 2 * (f : Int), 2 * (t : Int) + 1⟩]) (⟨-1, opTok (ops.getD k 0), 2 * (k : Int) + 1, 2 * (k : Int) + 2⟩ :: (b.nodes ops (k + 1) t ++ lq)) (⟨-1, opTok (ops.getD k 0), 2 * (k : Int) + 1, 2 * (k : Int) + 2⟩ :: (b.nodes ops (k + 1) t ++ r)) ha
      (fun j h1 h2 => hops j h1 (by omega)) (by simp [hlen]) (by rw [hl]; simp) (by simp [hlp]) (fun u hu => by rcases List.mem_cons.1 hu with rfl | hu; omega; have := hS u hu; omega)
    have hka : kidOf (i + 1) (i :: S) (kidOf i S pre ++ [[]]) = kidOf i S pre ++ [[(i : Int) + 1]] := kidOf_step hlen
    rw [hka] at iha
    have ihb := runK_seg n ops l b (k + 1) t (i + 1 + a.size + 1) (i :: S) (kidOf i S pre ++ [(i : Int) + 1, ((i + 1 + a.size : Nat) : Int)] :: (a.kids (i + 1) ++ [[]])) post (lp ++ ⟨1 + (ops.getD k 0 : Nat), -1, 2 * (f : Int), 2 * (t : Int) + 1⟩ :: (a.nodes ops f k ++ [⟨-1, opTok (ops.getD k 0), 2 * (k : Int) + 1, 2 * (k : Int) + 2⟩])) lq r hb
      (fun j h1 h2 => hops j (by omega) h2) (by simp [hlen, ET.kids_len]; omega) (by rw [hl]; simp) (by simp [hlp, ET.nodes_len]; omega) (fun u hu => by rcases List.mem_cons.1 hu with rfl | hu; omega; have := hS u hu; omega)
    have hkb : kidOf (i + 1 + a.size + 1) (i :: S) (kidOf i S pre ++ [(i : Int) + 1, ((i + 1 + a.size : Nat) : Int)] :: (a.kids (i + 1) ++ [[]])) = kidOf i S pre ++ [(i : Int) + 1, ((i + 1 + a.size : Nat) : Int), ((i + 1 + a.size : Nat) : Int) + 1] :: (a.kids (i + 1) ++ [[]]) := kidOf_step hlen
    rw [hkb] at ihb
    simp only [List.append_assoc, List.cons_append, List.nil_append] at iha ihb
    have hp0 : (0 : Int) ≤ 1 + (ops.getD k 0 : Nat) := by omega
    simp only [ET.nodes, joinT, List.cons_append, List.append_assoc, runK, stepK, ET.size, rep_add, if_pos hp0]
    rw [kidOf_pre (by rw [hi]; exact hS)]
    have h1 : ∀ Z, settleK (psOf n) l (kidOf i S pre ++ [] :: Z) (i :: S) = i :: S := fun Z => by
      simp only [settleK, get_mid hlen, hr]
      simp
    rw [h1, iha]
    have h2 : ∀ Z, settleK (psOf n) l (kidOf i S pre ++ [(i : Int) + 1] :: Z) (i :: S) = i :: S := fun Z => by
      simp only [settleK, get_mid hlen, hr]
      simp
    rw [h2]
    simp only [runK, stepK]
    have h3 : ∀ Z, kidOf (i + 1 + a.size) (i :: S) (kidOf i S pre ++ [(i : Int) + 1] :: Z) = kidOf i S pre ++ [(i : Int) + 1, ((i + 1 + a.size : Nat) : Int)] :: Z := fun Z => kidOf_step hlen
    rw [h3, if_neg (by omega : ¬ (0 : Int) ≤ -1)]
    have h4 : ∀ Z, settleK (psOf n) l (kidOf i S pre ++ [(i : Int) + 1, ((i + 1 + a.size : Nat) : Int)] :: Z) (i :: S) = i :: S := fun Z => by
      simp only [settleK, get_mid hlen, hr]
      simp
    rw [h4, ihb]
    have h5 : ∀ Z, settleK (psOf n) l (kidOf i S pre ++ [(i : Int) + 1, ((i + 1 + a.size : Nat) : Int), ((i + 1 + a.size : Nat) : Int) + 1] :: Z) (i :: S) = settleK (psOf n) l (kidOf i S pre ++ [(i : Int) + 1, ((i + 1 + a.size : Nat) : Int), ((i + 1 + a.size : Nat) : Int) + 1] :: Z) S := fun Z => by
      conv => lhs; unfold settleK
      simp only [get_mid hlen, hr]
      simp
    have e5 : i + 1 + a.size + 1 + b.size = i + (a.size + b.size + 2) := by omega
    rw [h5, e5]
    simp only [ET.kids, List.cons_append, List.append_assoc]

theorem kidsK_tree {n : Nat} {ops : List Nat} {T : ET} {f t : Nat} (h : T.over f t) (hops : ∀ k, f ≤ k → k < t → ops.getD k 0 < n) : kidsK (psOf n) (T.nodes ops f t) = T.kids 0 := by
  have := runK_seg n ops (T.nodes ops f t) T f t 0 [] [] [] [] [] [] h hops rfl (by simp) rfl (by simp)
  simp only [List.append_nil, List.nil_append] at this
  unfold kidsK
  rw [ET.nodes_len, this]
  rfl
end Go.Pri
end

section
/-
  The trees of an expression: they are trees of the grammar; when two of them are equal.
-/
namespace Go.Pri
open Go Go.Abs

/-- At place i of the list lies T, from f to t. -/
def ET.lies (ops : List Nat) (l : List Nd) (out : List Int) (K : List (List Int)) : ET → Nat → Nat → Nat → Prop
  | .leaf, i, f, _ => l[i]? = some ⟨0, -1, 2 * (f : Int), 2 * (f : Int) + 1⟩ ∧ l[i + 1]? = some ⟨-1, 0, 2 * (f : Int), 2 * (f : Int) + 1⟩ ∧ out[i]? = some ((i : Int) + 2) ∧ out[i + 1]? = some ((i : Int) + 2) ∧ K[i]? = some [(i : Int) + 1] ∧ K[i + 1]? = some []
  | .bin k a b, i, f, t => l[i]? = some ⟨1 + (ops.getD k 0 : Nat), -1, 2 * (f : Int), 2 * (t : Int) + 1⟩ ∧ out[i]? = some ((i + (a.size + b.size + 2) : Nat) : Int) ∧ K[i]? = some [(i : Int) + 1, ((i + 1 + a.size : Nat) : Int), ((i + 1 + a.size : Nat) : Int) + 1] ∧
      a.lies ops l out K (i + 1) f k ∧ l[i + 1 + a.size]? = some ⟨-1, opTok (ops.getD k 0), 2 * (k : Int) + 1, 2 * (k : Int) + 2⟩ ∧ out[i + 1 + a.size]? = some (((i + 1 + a.size : Nat) : Int) + 1) ∧ K[i + 1 + a.size]? = some [] ∧ b.lies ops l out K (i + 1 + a.size + 1) (k + 1) t

theorem get_mid2 {α : Type} {pre post : List α} {i : Nat} (h : pre.length = i) (x y : α) : (pre ++ x :: y :: post)[i + 1]? = some y := by
  subst h
  simp

theorem ET.lies_of {ops : List Nat} {l : List Nd} {out : List Int} {K : List (List Int)} : ∀ (T : ET) (i f t : Nat) (lp lq : List Nd) (op oq : List Int) (kp kq : List (List Int)), l = lp ++ (T.nodes ops f t ++ lq) → lp.length = i → out = op ++ (T.outs i ++ oq) → op.length = i → K = kp ++ (T.kids i ++ kq) → kp.length = i → T.lies ops l out K i f t
  | .leaf, i, f, t, lp, lq, op, oq, kp, kq, hl, h1, ho, h2, hk, h3 => by
    simp only [ET.nodes, leafT, ET.outs, ET.kids, List.cons_append, List.nil_append] at hl ho hk
    subst hl; subst ho; subst hk
    exact ⟨get_mid h1 _, get_mid2 h1 _ _, get_mid h2 _, get_mid2 h2 _ _, get_mid h3 _, get_mid2 h3 _ _⟩
  | .bin k a b, i, f, t, lp, lq, op, oq, kp, kq, hl, h1, ho, h2, hk, h3 => by
    simp only [ET.nodes, joinT, ET.outs, ET.kids, List.cons_append, List.append_assoc] at hl ho hk
    refine ⟨by rw [hl]; exact get_mid h1 _, by rw [ho]; exact get_mid h2 _, by rw [hk]; exact get_mid h3 _, ?_, ?_, ?_, ?_, ?_⟩
    · exact lies_of a (i + 1) f k (lp ++ [⟨1 + (ops.getD k 0 : Nat), -1, 2 * (f : Int), 2 * (t : Int) + 1⟩]) (⟨-1, opTok (ops.getD k 0), 2 * (k : Int) + 1, 2 * (k : Int) + 2⟩ :: (b.nodes ops (k + 1) t ++ lq)) (op ++ [((i + (a.size + b.size + 2) : Nat) : Int)]) ((((i + 1 + a.size : Nat) : Int) + 1) :: (b.outs (i + 1 + a.size + 1) ++ oq)) (kp ++ [[(i : Int) + 1, ((i + 1 + a.size : Nat) : Int), ((i + 1 + a.size : Nat) : Int) + 1]]) ([] :: (b.kids (i + 1 + a.size + 1) ++ kq))
        (by rw [hl]; simp only [List.append_assoc, List.cons_append, List.nil_append]) (by simp [h1]) (by rw [ho]; simp only [List.append_assoc, List.cons_append, List.nil_append]) (by simp [h2]) (by rw [hk]; simp only [List.append_assoc, List.cons_append, List.nil_append]) (by simp [h3])
    · have := get_mid (pre := lp ++ ⟨1 + (ops.getD k 0 : Nat), -1, 2 * (f : Int), 2 * (t : Int) + 1⟩ :: a.nodes ops f k) (post := b.nodes ops (k + 1) t ++ lq) (i := i + 1 + a.size) (by simp [h1, ET.nodes_len]; omega) (⟨-1, opTok (ops.getD k 0), 2 * (k : Int) + 1, 2 * (k : Int) + 2⟩ : Nd)
      rw [hl]
      simpa only [List.append_assoc, List.cons_append] using this
    · have := get_mid (pre := op ++ ((i + (a.size + b.size + 2) : Nat) : Int) :: a.outs (i + 1)) (post := b.outs (i + 1 + a.size + 1) ++ oq) (i := i + 1 + a.size) (by simp [h2, ET.outs_len]; omega) (((i + 1 + a.size : Nat) : Int) + 1)
      rw [ho]
      simpa only [List.append_assoc, List.cons_append] using this
    · have := get_mid (pre := kp ++ [(i : Int) + 1, ((i + 1 + a.size : Nat) : Int), ((i + 1 + a.size : Nat) : Int) + 1] :: a.kids (i + 1)) (post := b.kids (i + 1 + a.size + 1) ++ kq) (i := i + 1 + a.size) (by simp [h3, ET.kids_len]; omega) []
      rw [hk]
      simpa only [List.append_assoc, List.cons_append] using this
    · exact lies_of b (i + 1 + a.size + 1) (k + 1) t (lp ++ ⟨1 + (ops.getD k 0 : Nat), -1, 2 * (f : Int), 2 * (t : Int) + 1⟩ :: (a.nodes ops f k ++ [⟨-1, opTok (ops.getD k 0), 2 * (k : Int) + 1, 2 * (k : Int) + 2⟩])) lq (op ++ ((i + (a.size + b.size + 2) : Nat) : Int) :: (a.outs (i + 1) ++ [((i + 1 + a.size : Nat) : Int) + 1])) oq (kp ++ [(i : Int) + 1, ((i + 1 + a.size : Nat) : Int), ((i + 1 + a.size : Nat) : Int) + 1] :: (a.kids (i + 1) ++ [[]])) kq
        (by rw [hl]; simp only [List.append_assoc, List.cons_append, List.nil_append]) (by simp [h1, ET.nodes_len]; omega) (by rw [ho]; simp only [List.append_assoc, List.cons_append, List.nil_append]) (by simp [h2, ET.outs_len]; omega) (by rw [hk]; simp only [List.append_assoc, List.cons_append, List.nil_append]) (by simp [h3, ET.kids_len]; omega)

theorem ET.lies_whole (ops : List Nat) (T : ET) (f t : Nat) : T.lies ops (T.nodes ops f t) (T.outs 0) (T.kids 0) 0 f t :=
  ET.lies_of T 0 f t [] [] [] [] [] [] (by simp) rfl (by simp) rfl (by simp) rfl

theorem opTok_in (o : Nat) : 0 ≤ opTok o ∧ opTok o < 11 := by
  unfold opTok
  split <;> omega

/-- What lies at a place of a tree. -/
theorem ET.lies_sub {ops : List Nat} {l : List Nd} {out : List Int} {K : List (List Int)} : ∀ {T : ET} {i f t j : Nat}, T.lies ops l out K i f t → T.over f t → i ≤ j → j < i + T.size →
    (∃ (T' : ET) (f' t' : Nat), T'.over f' t' ∧ f ≤ f' ∧ t' ≤ t ∧ j + T'.size ≤ i + T.size ∧ T'.lies ops l out K j f' t') ∨ (∃ z x, l[j]? = some ⟨-1, z, x, x + 1⟩ ∧ 0 ≤ z ∧ z < 11 ∧ 0 ≤ x ∧ out[j]? = some ((j : Int) + 1) ∧ K[j]? = some [])
  | .leaf, i, f, t, j, h, ho, h1, h2 => by
    simp only [ET.size] at h2
    by_cases hj : j = i
    · subst hj
      exact .inl ⟨.leaf, f, t, ho, Nat.le_refl _, Nat.le_refl _, Nat.le_refl _, h⟩
    · obtain rfl : j = i + 1 := by omega
      obtain ⟨_, h4, _, h6, _, h8⟩ := h
      exact .inr ⟨0, _, h4, by omega, by omega, by omega, by rw [h6, show ((i + 1 : Nat) : Int) + 1 = (i : Int) + 2 by omega], h8⟩
  | .bin k a b, i, f, t, j, h, ho, h1, h2 => by
    simp only [ET.size] at h2
    by_cases hj : j = i
    · subst hj
      exact .inl ⟨_, f, t, ho, Nat.le_refl _, Nat.le_refl _, Nat.le_refl _, h⟩
    · obtain ⟨ho1, ho2, hoa, hob⟩ := ho
      obtain ⟨_, _, _, ha, h5, h6, h7, hb⟩ := h
      by_cases hja : j < i + 1 + a.size
      · rcases lies_sub ha hoa (by omega) hja with ⟨T', f', t', e1, e2, e3, e4, e5⟩ | h
        · exact .inl ⟨T', f', t', e1, e2, by omega, by simp only [ET.size]; omega, e5⟩
        · exact .inr h
      · by_cases hjt : j = i + 1 + a.size
        · subst hjt
          have := opTok_in (ops.getD k 0)
          exact .inr ⟨opTok (ops.getD k 0), 2 * (k : Int) + 1, by rw [h5, show 2 * (k : Int) + 1 + 1 = 2 * (k : Int) + 2 by omega], this.1, this.2, by omega, h6, h7⟩
        · rcases lies_sub (j := j) hb hob (by omega) (by omega) with ⟨T', f', t', e1, e2, e3, e4, e5⟩ | h
          · exact .inl ⟨T', f', t', e1, by omega, e3, by simp only [ET.size]; omega, e5⟩
          · exact .inr h
theorem ET.lies_root {ops : List Nat} {l : List Nd} {out : List Int} {K : List (List Int)} : ∀ {T : ET} {i f t : Nat}, T.lies ops l out K i f t → T.over f t → ∃ x, l[i]? = some x ∧ 0 ≤ x.p ∧ x.tok = -1 ∧ x.fr = 2 * (f : Int) ∧ x.to = 2 * (t : Int) + 1 ∧ out[i]? = some ((i + T.size : Nat) : Int) ∧ f ≤ t
  | .leaf, i, f, t, h, ho => by
    obtain rfl : f = t := ho
    obtain ⟨h1, _, h2, _⟩ := h
    exact ⟨_, h1, Int.le_refl _, rfl, rfl, rfl, by rw [h2]; rfl, Nat.le_refl _⟩
  | .bin k a b, i, f, t, h, ho => by
    obtain ⟨ho1, ho2, hoa, hob⟩ := ho
    obtain ⟨h1, h2, _⟩ := h
    exact ⟨_, h1, by simp only; omega, rfl, rfl, rfl, h2, by omega⟩

theorem nat_in {i N : Nat} {x : Int} (h : x = (i : Int)) : x.toNat = i := by omega

theorem stepC_at {l : List Nd} {s : Int × Bool} {k : Int} {x : Nd} (h : l[k.toNat]? = some x) (e : x.fr = s.1) : stepC l s k = some (x.to, decide (0 ≤ x.p)) := by
  simp only [stepC, h, e]
  simp

/-- The nodes in detail: each one's end, its kids, how its kids follow one another. -/
theorem ET.lies_kids {ops : List Nat} {l : List Nd} {out : List Int} {K : List (List Int)} {T : ET} {i f t : Nat} (h : T.lies ops l out K i f t) (ho : T.over f t) : ∃ x ks sf, l[i]? = some x ∧ K[i]? = some ks ∧
    IsKids out ((i + T.size : Nat) : Int) (i + 1) ks ∧ runC l (x.fr, true) ks = some sf ∧ (if sf.2 then sf.1 = x.to else sf.1 ≤ x.to) ∧ (∀ k ∈ ks, ∃ c : Nat, k = c ∧ i < c ∧ c < i + T.size) ∧ ks.length = if x.p = 0 then 1 else 3 := by
  match T, h, ho with
  | .leaf, h, ho =>
    obtain ⟨h1, h2, h3, h4, h5, h6⟩ := h
    refine ⟨_, _, (2 * (f : Int) + 1, false), h1, h5, ?_, ?_, ?_, ?_, ?_⟩
    · refine ⟨rfl, by simp only [ET.size]; omega, by omega, (i : Int) + 2, by rw [nat_in (i := i + 1) (N := 0) (by omega)]; exact h4, by omega, ?_⟩
      simp only [IsKids, ET.size]
      omega
    · simp only [runC, stepC, nat_in (i := i + 1) (N := 0) (show (i : Int) + 1 = ((i + 1 : Nat) : Int) by omega), h2]
      simp
    · simp
    · exact fun k hk => ⟨i + 1, by rw [List.mem_singleton.1 hk]; omega, by omega, by simp only [ET.size]; omega⟩
    · simp
  | .bin k a b, h, ho =>
    obtain ⟨ho1, ho2, hoa, hob⟩ := ho
    obtain ⟨h1, h2, h3, ha, h5, h6, h7, hb⟩ := h
    obtain ⟨xa, ea1, ea2, _, ea3, ea4, ea5, _⟩ := ET.lies_root ha hoa
    obtain ⟨xb, eb1, eb2, _, eb3, eb4, eb5, _⟩ := ET.lies_root hb hob
    have n1 := nat_in (i := i + 1) (N := 0) (show (i : Int) + 1 = ((i + 1 : Nat) : Int) by omega)
    have n2 := nat_in (i := i + 1 + a.size) (N := 0) (x := ((i + 1 + a.size : Nat) : Int)) rfl
    have n3 := nat_in (i := i + 1 + a.size + 1) (N := 0) (show ((i + 1 + a.size : Nat) : Int) + 1 = ((i + 1 + a.size + 1 : Nat) : Int) by omega)
    have ha2 := a.size_two
    have hb2 := b.size_two
    refine ⟨_, _, (2 * (t : Int) + 1, true), h1, h3, ?_, ?_, ?_, ?_, ?_⟩
    · refine ⟨rfl, by simp only [ET.size]; omega, by omega, ((i + 1 + a.size : Nat) : Int), by rw [n1]; exact ea5, by omega, ?_⟩
      refine ⟨rfl, by simp only [ET.size]; omega, by omega, ((i + 1 + a.size : Nat) : Int) + 1, by rw [n2]; exact h6, by omega, ?_⟩
      refine ⟨rfl, by simp only [ET.size]; omega, by omega, ((i + 1 + a.size + 1 + b.size : Nat) : Int), by rw [n3]; exact eb5, by omega, ?_⟩
      simp only [IsKids, ET.size]
      omega
    · have q1 : stepC l (2 * (f : Int), true) ((i : Int) + 1) = some (2 * (k : Int) + 1, true) := by rw [stepC_at (by rw [n1]; exact ea1) ea3, ea4, decide_eq_true ea2]
      have q2 : stepC l (2 * (k : Int) + 1, true) ((i + 1 + a.size : Nat) : Int) = some (2 * (k : Int) + 2, false) := by rw [stepC_at (by rw [n2]; exact h5) rfl]; rfl
      have q3 : stepC l (2 * (k : Int) + 2, false) (((i + 1 + a.size : Nat) : Int) + 1) = some (2 * (t : Int) + 1, true) := by rw [stepC_at (by rw [n3]; exact eb1) (by rw [eb3]; simp only; omega), eb4, decide_eq_true eb2]
      simp only [runC, q1, q2, q3]
    · simp
    · intro c hc
      simp only [List.mem_cons, List.not_mem_nil, or_false] at hc
      simp only [ET.size]
      rcases hc with rfl | rfl | rfl
      · exact ⟨i + 1, by omega, by omega, by omega⟩
      · exact ⟨i + 1 + a.size, rfl, by omega, by omega⟩
      · exact ⟨i + 1 + a.size + 1, by omega, by omega, by omega⟩
    · rw [if_neg (by simp only; omega)]
      rfl

theorem ET.tree {n : Nat} {ops : List Nat} {T : ET} {t : Nat} (ho : T.over 0 t) (hops : ∀ k, k < t → ops.getD k 0 < n) (hs : T.size ≤ 1000) : TreeOK (psOf n) 11 0 (T.nodes ops 0 t) (T.outs 0) := by
  have hL := ET.lies_whole ops T 0 t
  have hlen := ET.nodes_len ops T 0 t
  have h2 := T.size_two
  refine ⟨⟨fun x hx => ?_, by omega, by omega, runE_tree ho fun k _ hk => hops k hk⟩, ?_, fun i x hi hp => ?_⟩
  · obtain ⟨j, hj⟩ := List.getElem?_of_mem hx
    have hjl := (List.getElem?_eq_some_iff.1 hj).1
    rcases ET.lies_sub hL ho (Nat.zero_le j) (by omega) with ⟨T', f', t', e1, e2, e3, e4, e5⟩ | ⟨z, x', e1, e2, e3, e4, _⟩
    · obtain ⟨y, g1, g2, g3, g4, g5, g6, g7⟩ := ET.lies_root e5 e1
      rw [hj] at g1
      cases g1
      refine .inr ⟨g2, ?_, g3, by rw [g4]; omega, by rw [g4, g5]; omega⟩
      rw [psOf_len]
      match T', e1, e5 with
      | .leaf, e1, e5 =>
        have := e5.1
        rw [hj] at this
        cases this
        simp only; omega
      | .bin k a b, e1, e5 =>
        have := e5.1
        rw [hj] at this
        cases this
        have := hops k (by have := e1.2.1; omega)
        simp only; omega
    · rw [hj] at e1
      cases e1
      exact .inl ⟨rfl, e2, e3, e4, by simp only; omega⟩
  · match T, ho, hL with
    | .leaf, ho, hL => exact ⟨_, _, hL.1, Int.le_refl _, rfl, rfl⟩
    | .bin k a b, ho, hL =>
      refine ⟨_, (0, [(false, 0), (true, opTok (ops.getD k 0)), (false, 0)]), hL.1, by simp only; omega, ?_, rfl⟩
      · simp only
        rw [show ((1 : Int) + (ops.getD k 0 : Nat)).toNat = 1 + ops.getD k 0 by omega]
        exact psOf_op (hops k ho.2.1)
  · have hil := (List.getElem?_eq_some_iff.1 hi).1
    rcases ET.lies_sub hL ho (Nat.zero_le i) (by omega) with ⟨T', f', t', e1, e2, e3, e4, e5⟩ | ⟨z, x', e1, e2, e3, e4, _⟩
    · obtain ⟨y, ks, sf, g1, g2, g3, g4, g5, _⟩ := ET.lies_kids e5 e1
      obtain ⟨_, _, _, _, _, _, g6, _⟩ := ET.lies_root e5 e1
      rw [hi] at g1
      cases g1
      exact ⟨_, ks, sf, g6, g3, g4, g5⟩
    · rw [hi] at e1
      cases e1
      simp only at hp
      omega

/-! ## Order -/
/-- A node's kids, as places. -/
def kN (K : List (List Int)) (i : Nat) : List Nat := ((K[i]?).getD []).map Int.toNat
theorem kN_at {K : List (List Int)} {i : Nat} {ks : List Int} (h : K[i]? = some ks) : kN K i = ks.map Int.toNat := by simp [kN, h]

theorem kN_ok {ops : List Nat} {T : ET} {t : Nat} (ho : T.over 0 t) : ∀ i, i < (T.nodes ops 0 t).length → (∃ stop, (T.outs 0)[i]? = some stop ∧ IsKids (T.outs 0) stop (i + 1) ((kN (T.kids 0) i).map fun k : Nat => (k : Int))) ∧ (∀ k ∈ kN (T.kids 0) i, i < k ∧ k < (T.nodes ops 0 t).length) ∧ (kN (T.kids 0) i).length ≤ 1000 := by
  intro i hi
  rw [ET.nodes_len] at *
  rcases ET.lies_sub (ET.lies_whole ops T 0 t) ho (Nat.zero_le i) (by omega) with ⟨T', f', t', e1, e2, e3, e4, e5⟩ | ⟨z, x', e1, e2, e3, e4, e5, e6⟩
  · obtain ⟨y, ks, sf, g1, g2, g3, g4, g5, g7, g8⟩ := ET.lies_kids e5 e1
    obtain ⟨_, _, _, _, _, _, g6, _⟩ := ET.lies_root e5 e1
    rw [kN_at g2]
    have he : (ks.map Int.toNat).map (fun k : Nat => (k : Int)) = ks := by
      rw [List.map_map]
      conv => rhs; rw [← List.map_id ks]
      refine List.map_congr_left fun k hk => ?_
      obtain ⟨c, rfl, _⟩ := g7 k hk
      simp
    refine ⟨⟨_, g6, by rw [he]; exact g3⟩, fun k hk => ?_, ?_⟩
    · obtain ⟨k', hk', rfl⟩ := List.mem_map.1 hk
      obtain ⟨c, rfl, h1, h2⟩ := g7 k' hk'
      simp only [Int.toNat_natCast]
      omega
    · rw [List.length_map, g8]
      split <;> omega
  · rw [kN_at e6]
    refine ⟨⟨_, e5, ?_⟩, by simp, by simp⟩
    simp [IsKids]
theorem kN_len {ops : List Nat} {T : ET} {t i : Nat} {x : Nd} (ho : T.over 0 t) (hx : (T.nodes ops 0 t)[i]? = some x) : (kN (T.kids 0) i).length = if x.p = 0 then 1 else if x.p < 0 then 0 else 3 := by
  have hi := (List.getElem?_eq_some_iff.1 hx).1
  rw [ET.nodes_len] at hi
  rcases ET.lies_sub (ET.lies_whole ops T 0 t) ho (Nat.zero_le i) (by omega) with ⟨T', f', t', e1, e2, e3, e4, e5⟩ | ⟨z, x', e1, e2, e3, e4, e5, e6⟩
  · obtain ⟨y, ks, sf, g1, g2, g3, g4, g5, g7, g8⟩ := ET.lies_kids e5 e1
    obtain ⟨y', g6, g9, _⟩ := ET.lies_root e5 e1
    rw [hx] at g1 g6
    cases g1; cases g6
    rw [kN_at g2, List.length_map, g8]
    split
    · rfl
    · rw [if_neg (by omega)]
  · rw [hx] at e1
    cases e1
    rw [kN_at e6]
    rfl
theorem ET.ordP {ops : List Nat} {T G : ET} {t : Nat} (hT : T.over 0 t) (hG : G.over 0 t) (h1 : T.size ≤ 1000) (h2 : G.size ≤ 1000) : OrdP (T.nodes ops 0 t) (G.nodes ops 0 t) (T.outs 0) (G.outs 0) (kN (T.kids 0)) (kN (G.kids 0)) :=
  ⟨by rw [ET.outs_len, ET.nodes_len], by rw [ET.outs_len, ET.nodes_len], kN_ok hT, kN_ok hG, fun i j x y hx hy hp => by rw [kN_len hT hx, kN_len hG hy, hp], by rw [ET.nodes_len, ET.nodes_len]; exact ⟨h1, h2⟩⟩

theorem posC_zero (x y : Nd) : posC x y = 0 ↔ x.tok = y.tok ∧ x.fr = y.fr ∧ x.to = y.to := by
  simp only [posC, firstNZ_iff, List.mem_cons, List.not_mem_nil, or_false, forall_eq_or_imp, forall_eq, cmpI_zero']
theorem ordN_zero {la lb : List Nd} {KA KB : Nat → List Nat} {N i j : Nat} {x y : Nd} (hx : la[i]? = some x) (hy : lb[j]? = some y) :
    ordN la lb KA KB (N + 1) i j = 0 ↔ x = y ∧ (∀ z ∈ (KA i).zip (KB j), posZ la lb z.1 z.2 = 0) ∧ ∀ z ∈ (KA i).zip (KB j), ordN la lb KA KB N z.1 z.2 = 0 := by
  have e1 : firstNZ (((KA i).zip (KB j)).map fun z => posZ la lb z.1 z.2) = 0 ↔ ∀ z ∈ (KA i).zip (KB j), posZ la lb z.1 z.2 = 0 := by
    rw [firstNZ_iff]; simp only [List.mem_map, forall_exists_index, and_imp, forall_apply_eq_imp_iff₂]
  have e2 : firstNZ (((KA i).zip (KB j)).map fun z => ordN la lb KA KB N z.1 z.2) = 0 ↔ ∀ z ∈ (KA i).zip (KB j), ordN la lb KA KB N z.1 z.2 = 0 := by
    rw [firstNZ_iff]; simp only [List.mem_map, forall_exists_index, and_imp, forall_apply_eq_imp_iff₂]
  rw [← e1, ← e2, ← headC_zero]
  simp only [ordN, hx, hy]
  by_cases h : headC x y = 0
  · rw [if_pos h]
    by_cases h2 : firstNZ (((KA i).zip (KB j)).map fun z => posZ la lb z.1 z.2) = 0
    · rw [if_pos h2]; simp [h, h2]
    · rw [if_neg h2]; simp [h2]
  · rw [if_neg h]; simp [h]
theorem posZ_same {la lb : List Nd} {i j : Nat} {x : Nd} (hx : la[i]? = some x) (hy : lb[j]? = some x) : posZ la lb i j = 0 := by
  simp only [posZ, hx, hy]
  rw [posC_zero]
  exact ⟨rfl, rfl, rfl⟩

theorem ET.ord_same {ops : List Nat} {la lb : List Nd} {oa ob : List Int} {KA KB : List (List Int)} : ∀ (T : ET) (i j f t N : Nat), T.lies ops la oa KA i f t → T.lies ops lb ob KB j f t → ordN la lb (kN KA) (kN KB) N i j = 0
  | T, i, j, f, t, 0, _, _ => rfl
  | .leaf, i, j, f, t, N + 1, ha, hb => by
    obtain ⟨a1, a2, _, _, a5, a6⟩ := ha
    obtain ⟨b1, b2, _, _, b5, b6⟩ := hb
    rw [ordN_zero a1 b1, kN_at a5, kN_at b5]
    simp only [List.map_cons, List.map_nil, List.zip_cons_cons, List.zip_nil_left, List.mem_singleton, forall_eq, nat_in (i := i + 1) (N := 0) (show (i : Int) + 1 = ((i + 1 : Nat) : Int) by omega), nat_in (i := j + 1) (N := 0) (show (j : Int) + 1 = ((j + 1 : Nat) : Int) by omega), true_and]
    refine ⟨posZ_same a2 b2, ?_⟩
    match N with
    | 0 => rfl
    | N + 1 =>
      rw [ordN_zero a2 b2, kN_at a6, kN_at b6]
      simp
  | .bin k a b, i, j, f, t, N + 1, ha, hb => by
    obtain ⟨a1, a2, a3, a4, a5, a6, a7, a8⟩ := ha
    obtain ⟨b1, b2, b3, b4, b5, b6, b7, b8⟩ := hb
    have iha := ord_same a (i + 1) (j + 1) f k N a4 b4
    have ihb := ord_same b (i + 1 + a.size + 1) (j + 1 + a.size + 1) (k + 1) t N a8 b8
    rw [ordN_zero a1 b1, kN_at a3, kN_at b3]
    simp only [List.map_cons, List.map_nil, List.zip_cons_cons, List.zip_nil_left, List.mem_cons, List.not_mem_nil, or_false, forall_eq_or_imp, forall_eq, nat_in (i := i + 1) (N := 0) (show (i : Int) + 1 = ((i + 1 : Nat) : Int) by omega), nat_in (i := j + 1) (N := 0) (show (j : Int) + 1 = ((j + 1 : Nat) : Int) by omega), true_and, Int.toNat_natCast,
      nat_in (i := i + 1 + a.size + 1) (N := 0) (show ((i + 1 + a.size : Nat) : Int) + 1 = ((i + 1 + a.size + 1 : Nat) : Int) by omega), nat_in (i := j + 1 + a.size + 1) (N := 0) (show ((j + 1 + a.size : Nat) : Int) + 1 = ((j + 1 + a.size + 1 : Nat) : Int) by omega)]
    have root : ∀ {T : ET} {p q f t : Nat}, T.lies ops la oa KA p f t → T.lies ops lb ob KB q f t → posZ la lb p q = 0 := fun {T p q f t} h1 h2 => by
      match T, h1, h2 with
      | .leaf, h1, h2 => exact posZ_same h1.1 h2.1
      | .bin .., h1, h2 => exact posZ_same h1.1 h2.1
    refine ⟨⟨root a4 b4, posZ_same a5 b5, root a8 b8⟩, iha, ?_, ihb⟩
    match N with
    | 0 => rfl
    | N + 1 =>
      rw [ordN_zero a5 b5, kN_at a7, kN_at b7]
      simp

theorem ET.ord_eq {ops : List Nat} {la lb : List Nd} {oa ob : List Int} {KA KB : List (List Int)} : ∀ (T T' : ET) (i j f t f' t' N : Nat), T.lies ops la oa KA i f t → T'.lies ops lb ob KB j f' t' → T.size ≤ N → ordN la lb (kN KA) (kN KB) N i j = 0 → T = T'
  | T, T', i, j, f, t, f', t', 0, _, _, h, _ => by have := T.size_two; omega
  | .leaf, .leaf, i, j, f, t, f', t', N + 1, ha, hb, hN, h => rfl
  | .leaf, .bin k a b, i, j, f, t, f', t', N + 1, ha, hb, hN, h => by
    rw [ordN_zero ha.1 hb.1] at h
    have := congrArg Nd.p h.1
    simp only at this
    omega
  | .bin k a b, .leaf, i, j, f, t, f', t', N + 1, ha, hb, hN, h => by
    rw [ordN_zero ha.1 hb.1] at h
    have := congrArg Nd.p h.1
    simp only at this
    omega
  | .bin k a b, .bin k' a' b', i, j, f, t, f', t', N + 1, ha, hb, hN, h => by
    obtain ⟨a1, a2, a3, a4, a5, a6, a7, a8⟩ := ha
    obtain ⟨b1, b2, b3, b4, b5, b6, b7, b8⟩ := hb
    simp only [ET.size] at hN
    rw [ordN_zero a1 b1, kN_at a3, kN_at b3] at h
    simp only [List.map_cons, List.map_nil, List.zip_cons_cons, List.zip_nil_left, List.mem_cons, List.not_mem_nil, or_false, forall_eq_or_imp, forall_eq, nat_in (i := i + 1) (N := 0) (show (i : Int) + 1 = ((i + 1 : Nat) : Int) by omega), nat_in (i := j + 1) (N := 0) (show (j : Int) + 1 = ((j + 1 : Nat) : Int) by omega), true_and, Int.toNat_natCast,
      nat_in (i := i + 1 + a.size + 1) (N := 0) (show ((i + 1 + a.size : Nat) : Int) + 1 = ((i + 1 + a.size + 1 : Nat) : Int) by omega), nat_in (i := j + 1 + a'.size + 1) (N := 0) (show ((j + 1 + a'.size : Nat) : Int) + 1 = ((j + 1 + a'.size + 1 : Nat) : Int) by omega)] at h
    obtain ⟨_, ⟨_, hk, _⟩, h1, _, h2⟩ := h
    simp only [posZ, a5, b5] at hk
    rw [posC_zero] at hk
    have hkk : k = k' := by have := hk.2.1; simp only at this; omega
    have := ord_eq a a' (i + 1) (j + 1) f k f' k' N a4 b4 (by omega) h1
    have := ord_eq b b' (i + 1 + a.size + 1) (j + 1 + a'.size + 1) (k + 1) t (k' + 1) t' N a8 b8 (by omega) h2
    subst_vars
    rfl
theorem ET.ord_iff {ops : List Nat} {T G : ET} {t : Nat} : ordN (T.nodes ops 0 t) (G.nodes ops 0 t) (kN (T.kids 0)) (kN (G.kids 0)) (T.nodes ops 0 t).length 0 0 = 0 ↔ T = G := by
  constructor
  · exact fun h => ET.ord_eq T G 0 0 0 t 0 t _ (ET.lies_whole ops T 0 t) (ET.lies_whole ops G 0 t) (by rw [ET.nodes_len]; exact Nat.le_refl _) h
  · rintro rfl
    exact ET.ord_same T 0 0 0 t _ (ET.lies_whole ops T 0 t) (ET.lies_whole ops T 0 t)
end Go.Pri
end

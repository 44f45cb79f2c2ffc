/-
  PriorityOperators: parts of its proof (Tr0 Wn Pr26 Va6 Sp).
-/
import Derived.Shelf.SlSortCmp.WholeK
import Derived.Test.YtfadmmecedicjaaGreatDoorK07
import Derived.Test.YtfadmmecedicjaaGreatDoorK09
import Derived.Test.YtfadmmecedicjaaGreatDoorK20
import Derived.Test.YtfadmmecedicjaaGreatDoorK23
import Derived.Test.YtfadmmecedicjaaGreatDoorK24
set_option linter.unusedVariables false
set_option linter.unusedSimpArgs false

section
/-
  Trees of operators: nodes put together.
-/
namespace Go.Pri
open Go Go.Abs Go.Proofs Go.RowKit Go.Lib Go.Maps
set_option maxRecDepth 100000

theorem info79 : (Tryz.prog.info? 79).map (fun i => (i.zero, i.size, i.bytes)) = some (some (.agg #[.int .i64 0, .int .i64 0, .int .i64 0, .int .i64 0]), 4, 32) := by kernel_rfl
theorem info42 : (Tryz.prog.info? 42).map (fun i => (i.zero, i.size, i.bytes)) = some (some (.slice none 0 0), 1, 24) := by kernel_rfl

def cellsN (l : List Nd) : List Value := l.flatMap encN
theorem cellsN_len (l : List Nd) : (cellsN l).length = l.length * 4 := by
  induction l with
  | nil => rfl
  | cons a l ih => simp [cellsN, encN] at ih ⊢; omega
theorem cellsN_append (l r : List Nd) : cellsN (l ++ r) = cellsN l ++ cellsN r := by simp [cellsN]
theorem cellsN_at : ∀ (V : List Nd) (j : Nat) (x : Nd) (i : Nat) (u : Value), V[j]? = some x → (encN x)[i]? = some u → (cellsN V)[j * 4 + i]? = some u
  | [], j, x, i, u, h, _ => by cases h
  | y :: V, 0, x, i, u, h, h2 => by
    simp only [List.getElem?_cons_zero, Option.some.injEq] at h
    subst h
    have hi : i < (encN y).length := (List.getElem?_eq_some_iff.1 h2).1
    simp only [Nat.zero_mul, Nat.zero_add, cellsN, List.flatMap_cons]
    rw [List.getElem?_append_left hi]
    exact h2
  | y :: V, j + 1, x, i, u, h, h2 => by
    have ih := cellsN_at V j x i u (by simpa using h) h2
    simp only [cellsN, List.flatMap_cons]
    rw [List.getElem?_append_right (by simp [encN]; omega)]
    have e : (j + 1) * 4 + i - (encN y).length = j * 4 + i := by simp [encN]; omega
    rw [e]
    exact ih
theorem cellsN_of : ∀ (V : List Nd) (t : Nat) (u : Value), (cellsN V)[t]? = some u → ∃ x, V[t / 4]? = some x ∧ (encN x)[t % 4]? = some u
  | [], t, u, h => by simp [cellsN] at h
  | y :: V, t, u, h => by
    simp only [cellsN, List.flatMap_cons] at h
    rcases Nat.lt_or_ge t 4 with ht | ht
    · rw [List.getElem?_append_left (by simpa [encN] using ht)] at h
      exact ⟨y, by rw [Nat.div_eq_of_lt ht]; rfl, by rw [Nat.mod_eq_of_lt ht]; exact h⟩
    · rw [List.getElem?_append_right (by simpa [encN] using ht)] at h
      obtain ⟨x, h1, h2⟩ := cellsN_of V (t - 4) u (by simpa [encN, cellsN] using h)
      refine ⟨x, ?_, ?_⟩
      · have : t / 4 = (t - 4) / 4 + 1 := by omega
        rw [this, List.getElem?_cons_succ]; exact h1
      · have : t % 4 = (t - 4) % 4 := by omega
        rw [this]; exact h2
theorem own_nodes {w : World} {base : Nat} {v : Value} {V : List Nd} (h : w.ownsRow base 79 4 v V.length (cellsN V)) : SliceAt 4 w v (V.map encN) := by
  rcases h.2 with ⟨rfl, hx⟩ | ⟨g, cap, cur, rfl, _, h1, h2, _, _, h3⟩
  · have : V = [] := List.eq_nil_of_length_eq_zero hx
    subst this
    exact .inl ⟨rfl, none, 0, rfl⟩
  · refine .inr ⟨g, 0, cap, by simp, by simpa using h2, fun j c hj i u hi => ?_⟩
    simp only [List.getElem?_map, Option.map_eq_some_iff] at hj
    obtain ⟨x, hx, rfl⟩ := hj
    have hf := cellsN_at V j x i u hx hi
    rw [← h3, List.getElem?_take] at hf
    split at hf
    · rw [Nat.zero_add]
      have : cur[j * 4 + i]? = some u := by simpa using hf
      simp only [World.cell?, h1]
      exact this
    · cases hf
theorem nodes_cells {w : World} {b off : Nat} {V : List Nd} (h : RowK 4 w b off (V.map encN)) : ∀ (t : Nat) u, (cellsN V)[t]? = some u → w.cell? ⟨b, off + t, none⟩ = some u := fun t u ht => by
  obtain ⟨x, h1, h2⟩ := cellsN_of V t u ht
  have := h (t / 4) (encN x) (by simp [h1]) (t % 4) u h2
  have e : off + t / 4 * 4 + t % 4 = off + t := by omega
  rwa [e] at this
theorem node_one (l : List Nd) : ∀ u ∈ cellsN l, u.oneCell' = true := by
  intro u hu
  simp only [cellsN, List.mem_flatMap, encN, List.mem_cons, List.not_mem_nil, or_false] at hu
  obtain ⟨x, _, rfl | rfl | rfl | rfl⟩ := hu <;> rfl

theorem not_row' {W : World} {B : Nat} {c : Array Value} {t e : TypeId} {fz : Nat × Nat} (h : W.heap[B]? = some (.cells c t fz)) (hte : t ≠ e) {base size k : Nat} {v : Value} {xs : List Value} (hr : W.ownsRow base e size v k xs) : some B ≠ v.ownBlock := by
  rcases hr.2 with ⟨rfl, _⟩ | ⟨g, cap, cur, rfl, _, hg, _⟩
  · simp [Value.ownBlock]
  · intro e'
    simp only [Value.ownBlock, Option.some.injEq] at e'
    subst e'
    rw [h] at hg
    cases hg
    exact hte rfl
theorem cells_at' {w : World} {b t : Nat} {cs : Array Value} {f : Nat × Nat} (h : w.heap[b]? = some (.cells cs t f)) {i : Nat} {v : Value} (hi : cs[i]? = some v) : w.cell? ⟨b, i, none⟩ = some v := by
  simp only [World.cell?, h]
  exact hi
theorem wf_wrap {m : Int} (h : 0 ≤ m) (h2 : m ≤ 1000) : IntKind.i64.wrap m = m := by
  simp [IntKind.wrap, IntKind.bits]; omega

/-- Nodes put behind the others. -/
theorem pushN {ops : Array Oper} {rest : List Oper} {o : Oper} {a : Act} {Q : Exit → Act → World → Prop} (s x : Operand) (W : World) (base : Nat) (v xv : Value) (V l : List Nd)
    (hgd : o.guard = none) (ho : o.op = .call { callee := .builtin .append, args := #[s, x], argTypes := #[42, 42] })
    (hown : W.ownsRow base 79 4 v V.length (cellsN V)) (hb : base ≤ W.heap.size) (hn : V.length + l.length ≤ 5000)
    (hs : a.eval s = v) (hx : a.eval x = xv) (hl : SliceAt 4 W xv (l.map encN)) (h0 : 0 < l.length)
    (h : ∀ v' w', w'.ownsRow base 79 4 v' (V ++ l).length (cellsN (V ++ l)) → W.grownBy w' v.ownBlock → wpList Tryz.prog ops Q rest (a.put o.dst v') w') : wpList Tryz.prog ops Q (o :: rest) a W := by
  obtain ⟨i6, hi6, hz6, hs6, hb6⟩ := info_parts info79
  rcases hl with ⟨hl, _⟩ | ⟨b, off, cap, hxv, _, hrow⟩
  · have : l = [] := by simpa using hl
    subst this
    simp at h0
  · rw [List.length_map] at hxv
    refine wpList_append_own _ hgd s x 42 ho base 79 i6 _ 4 32 Tryz.underlying42 hi6 hz6 hs6 hb6 rfl (by decide) v V.length (cellsN V) hs hown ⟨b, off, none⟩ l.length cap (cellsN l) (hx.trans hxv) (cellsN_len l) ?_ (node_one l) ?_ ?_ hb ?_
    · intro j u hj
      have := nodes_cells hrow j u hj
      cases j <;> simpa [Addr.add] using this
    · unfold maxLen; omega
    · omega
    · intro v' w' h1 h2 _
      refine h v' w' ?_ h2
      rw [cellsN_append, List.length_append]
      exact h1
/-- One, at a step of a draw. -/
theorem stepN {ops : Array Oper} {o : Oper} {a : Act} {K : Act → World → Prop} {Q : Exit → Act → World → Prop} {E : Prop} (s x : Operand) (W : World) (base : Nat) (v : Value) (V : List Nd) (y : Nd) (b : Nat)
    (hgd : o.guard = none) (ho : o.op = .call { callee := .builtin .append, args := #[s, x], argTypes := #[42, 42] })
    (hown : W.ownsRow base 79 4 v V.length (cellsN V)) (hb : base ≤ W.heap.size) (hn : V.length ≤ 4000)
    (hs : a.eval s = v) (hx : a.eval x = .slice (some ⟨b, 0, none⟩) 1 1) (m : ∀ (i : Nat) u, (encN y)[i]? = some u → W.cell? ⟨b, i, none⟩ = some u)
    (h : ∀ v' w', w'.ownsRow base 79 4 v' (V ++ [y]).length (cellsN (V ++ [y])) → W.grownBy w' v.ownBlock → K (a.put o.dst v') w') :
    if Region.wanted o (yielded ops a.tmps) = true then Oper.wp Tryz.prog o a W K Q else E := by
  obtain ⟨i6, hi6, hz6, hs6, hb6⟩ := info_parts info79
  refine step_append_lies _ hgd s x 42 ho base 79 i6 _ 4 32 Tryz.underlying42 hi6 hz6 hs6 hb6 rfl (by decide) v V.length (cellsN V) hs hown ⟨b, 0, none⟩ 1 1 (encN y) hx rfl ?_ ?_ (by decide) ?_ ?_ hb _ rfl ?_
  · intro j u hj
    have := m j u hj
    cases j <;> simpa [Addr.add] using this
  · intro u hu
    exact node_one [y] u (by simpa [cellsN] using hu)
  · unfold maxLen; omega
  · omega
  · intro g cap w' h1 h2 h3 _
    refine h _ w' ?_ h2
    rw [cellsN_append, List.length_append]
    simpa [cellsN] using h1

/-- A tree put behind the others, at a step of a draw. -/
theorem stepT {ops : Array Oper} {o : Oper} {a : Act} {K : Act → World → Prop} {Q : Exit → Act → World → Prop} {E : Prop} (s x : Operand) (W : World) (base : Nat) (v tv : Value) (n : Nat) (xs : List Value) (b : Nat)
    (hgd : o.guard = none) (ho : o.op = .call { callee := .builtin .append, args := #[s, x], argTypes := #[45, 45] })
    (hown : W.ownsRow base 42 1 v n xs) (hb : base ≤ W.heap.size) (hn : n ≤ 100000) (htv : tv.oneCell' = true)
    (hs : a.eval s = v) (hx : a.eval x = .slice (some ⟨b, 0, none⟩) 1 1) (m : W.cell? ⟨b, 0, none⟩ = some tv)
    (h : ∀ g cap w', w'.ownsRow base 42 1 (.slice (some ⟨g, 0, none⟩) (n + 1) cap) (n + 1) (xs ++ [tv]) → W.grownBy w' v.ownBlock → (v.ownBlock = some g ∨ g = W.heap.size) → K (a.put o.dst (.slice (some ⟨g, 0, none⟩) (n + 1) cap)) w') :
    if Region.wanted o (yielded ops a.tmps) = true then Oper.wp Tryz.prog o a W K Q else E := by
  obtain ⟨i6, hi6, hz6, hs6, hb6⟩ := info_parts info42
  refine step_append_lies _ hgd s x 45 ho base 42 i6 _ 1 24 Tryz.underlying45 hi6 hz6 hs6 hb6 rfl (by decide) v n xs hs hown ⟨b, 0, none⟩ 1 1 [tv] hx rfl ?_ ?_ (by decide) ?_ ?_ hb _ rfl ?_
  · intro j u hj
    match j, hj with
    | 0, hj => simp at hj; subst hj; simpa [Addr.add] using m
    | j + 1, hj => simp at hj
  · intro u hu
    simp at hu
    subst hu
    exact htv
  · unfold maxLen; omega
  · omega
  · intro g cap w' h1 h2 h3 _
    exact h g cap w' h1 h2 h3
end Go.Pri
end

section
/-
  A step through a region that draws its order, where no operation is the last.
-/
namespace Go.Pri
open Go Go.Abs Go.Proofs Go.RowKit Go.Lib
theorem wpAnyO_firstN {P : Program} {ops : Array Oper} {Q : Exit → Act → World → Prop} {md : Region.Mode} {R : World → World → Prop} (hrf : ∀ w, R w w) (htr : ∀ a b c, R a b → R b c → R a c) {last i : Nat} {oi : Oper} {v : Value} (hi : ops[i]? = some oi) (hsel : ∀ (j : Nat) (o : Oper) cs b, ops[j]? = some o → o.op ≠ .select cs b)
    (hQ : ∀ c a w, Q (.panic c) (a.put oi.dst v) w → Q (.panic c) a w) (hl : ops.size ≤ last) :
    ∀ (fuel : Nat) (listed : Array Bool) (a : Act) (w : World),
      (∀ j oj, ops[j]? = some oj → j ≠ i → listed.getD j true = false → (∀ e ∈ oj.after, Region.binds md e = true → e.on ≠ i) → oi.apart ops oj = true) →
      i ∈ Region.ready md ops listed → YieldsIf P ops (R w) oi v a →
      wpAnyO P md ops Q R last fuel (listed.setIfInBounds i true) (a.put oi.dst v) w → wpAnyO P md ops Q R last (fuel + 1) listed a w := by
  intro fuel
  induction fuel with
  | zero =>
    intro listed a w _ hr hy H
    refine ⟨fun h => (by rw [h] at hr; cases hr), fun j hj => ?_⟩
    by_cases hji : j = i
    · subst hji; exact hy.wpOp hi (hrf w) ⟨fun _ => hrf w, H⟩
    · have := ready_mono hj hji
      rw [H.1] at this
      cases this
  | succ fuel ih =>
    intro listed a w hfree hr hy H
    refine ⟨fun h => (by rw [h] at hr; cases hr), fun j hj => ?_⟩
    by_cases hji : j = i
    · subst hji; exact hy.wpOp hi (hrf w) ⟨fun _ => hrf w, H⟩
    · have h1 := H.2 j (ready_mono hj hji)
      obtain ⟨hjun, oj, hoj, hall⟩ := mem_ready.1 hj
      have hun0 : listed.getD i false = false := by
        have h0 := (mem_ready.1 hr).1
        rcases Nat.lt_or_ge i listed.size with h' | h'
        · simp [h'] at h0 ⊢; exact h0
        · simp [Array.getElem?_eq_none h'] at h0
      have hjl : j ≠ last := fun e => by
        have := (Array.getElem?_eq_some_iff.1 hoj).1
        omega
      have hnot : ∀ e ∈ oj.after, Region.binds md e = true → e.on ≠ i := fun e he hb heq => by
        have h1 := hall e he hb
        rw [heq, hun0] at h1
        cases h1
      have h2 := wpOp_putIf hoj (hfree j oj hoj hji hjun hnot) (fun cs b => hsel i oi cs b hi) (fun cs b => hsel j oj cs b hoj) hQ hy h1
      have hfree' : ∀ k ok, ops[k]? = some ok → k ≠ i → (listed.setIfInBounds j true).getD k true = false →
          (∀ e ∈ ok.after, Region.binds md e = true → e.on ≠ i) → oi.apart ops ok = true := fun k ok hk hki hun hno => by
        refine hfree k ok hk hki ?_ hno
        by_cases hjk : j = k
        · subst hjk; exact hjun
        · rw [getD_set_ne true hjk] at hun; exact hun
      refine wpOp_mono (fun a' w' h3 => ⟨h3.2.1, ih (listed.setIfInBounds j true) a' w' hfree' (ready_mono hr (Ne.symm hji)) (YieldsIf.old htr h3.1 (h3.2.1 hjl)) ?_⟩) h2
      rw [Array.setIfInBounds_comm _ _ hji]
      exact h3.2.2

/-- As wpAnyO_take, where no operation is the last. -/
theorem wpAnyO_takeN {P : Program} {ops : Array Oper} {Q : Exit → Act → World → Prop} {md : Region.Mode} {R : World → World → Prop} (hrf : ∀ w, R w w) (htr : ∀ a b c, R a b → R b c → R a c) {last i : Nat} {oi : Oper} {v : Value} {fuel : Nat} {listed : Array Bool} {a : Act} {w : World} (hi : ops[i]? = some oi)
    (hs : (Region.noSelect ops && (Nat.ble ops.size last && (Region.free md ops listed i && (Region.ready md ops listed).contains i))) = true)
    (hQ : ∀ c a w, Q (.panic c) (a.put oi.dst v) w → Q (.panic c) a w) (hy : YieldsIf P ops (R w) oi v a)
    (h : wpAnyO P md ops Q R last fuel (listed.setIfInBounds i true) (a.put oi.dst v) w) : wpAnyO P md ops Q R last (fuel + 1) listed a w := by
  simp only [Bool.and_eq_true] at hs
  obtain ⟨h1, h2, h3, h4⟩ := hs
  exact wpAnyO_firstN hrf htr hi (Region.noSelect_spec h1) hQ (Nat.le_of_ble_eq_true h2) fuel listed a w (Region.free_spec hi h3) (by simpa using h4) hy h

/-- A row of numbers, as the slices see it. -/
theorem own_ints {w : World} {base : Nat} {v : Value} {V : List Int} (h : w.ownsRow base 3 1 v V.length (V.map (Value.int .i64))) : SliceAt 1 w v (V.map fun x => [.int .i64 x]) := by
  rcases h.2 with ⟨h1, h2⟩ | ⟨g, cap, cur, h1, _, h2, h3, _, _, h4⟩
  · have : V = [] := List.eq_nil_of_length_eq_zero h2
    subst this
    exact .inl ⟨rfl, none, 0, h1⟩
  · refine .inr ⟨g, 0, cap, by simpa using h1, by simpa using h3, fun j d hj i u hi => ?_⟩
    simp only [List.getElem?_map, Option.map_eq_some_iff] at hj
    obtain ⟨x, hx, rfl⟩ := hj
    match i, hi with
    | 0, hi =>
      simp at hi
      subst hi
      refine cells_at' h2 ?_
      have hf : (V.map (Value.int .i64))[j]? = some (.int .i64 x) := by simp [hx]
      rw [← h4, List.getElem?_take] at hf
      split at hf
      · simpa using hf
      · cases hf
    | i + 1, hi => simp at hi
end Go.Pri
end

section
/-
  The sort of the rules: the contract.
-/
namespace Go.Pri
open Go Go.Abs Go.Proofs Go.RowKit Go.Lib Go.Shelf

-- printed by lay-plain.mjs
def Tryz.sortF_ren : Go.Shelf.Ren := ⟨fun | 6 => 31 | 15 => 56 | 14 => 55 | 28 => 89 | 29 => 90 | 20 => 81 | 21 => 82 | 22 => 83 | 23 => 84 | 24 => 85 | 25 => 86 | 26 => 87 | 27 => 88 | 46 => 112 | 47 => 113 | 48 => 114 | 49 => 115 | 50 => 116 | 57 => 139 | n => n, fun | 22 => 35 | 24 => 59 | 25 => 101 | 3 => 3 | 39 => 133 | 0 => 0 | 53 => 179 | 55 => 49 | 4 => 4 | 46 => 172 | 45 => 171 | 50 => 176 | 5 => 5 | 9 => 9 | 66 => 202 | 70 => 206 | 76 => 230 | 77 => 227 | n => n, fun | n => n⟩
theorem Tryz.sortF : Go.Proofs.SlLaysF0.n6 Tryz.prog Tryz.sortF_ren := {
  mixed := by kernel_rfl
  f6 := ⟨Tryz.f31.name, by decide, Tryz.func31.trans (congrArg some (by kernel_rfl))⟩
  f14 := ⟨Tryz.f55.name, by decide, Tryz.func55.trans (congrArg some (by kernel_rfl))⟩
  f15 := Tryz.func56.trans (congrArg some (by kernel_rfl))
  f20 := ⟨Tryz.f81.name, by decide, Tryz.func81.trans (congrArg some (by kernel_rfl))⟩
  f21 := ⟨Tryz.f82.name, by decide, Tryz.func82.trans (congrArg some (by kernel_rfl))⟩
  f22 := ⟨Tryz.f83.name, by decide, Tryz.func83.trans (congrArg some (by kernel_rfl))⟩
  f23 := ⟨Tryz.f84.name, by decide, Tryz.func84.trans (congrArg some (by kernel_rfl))⟩
  f24 := ⟨Tryz.f85.name, by decide, Tryz.func85.trans (congrArg some (by kernel_rfl))⟩
  f25 := ⟨Tryz.f86.name, by decide, Tryz.func86.trans (congrArg some (by kernel_rfl))⟩
  f26 := ⟨Tryz.f87.name, by decide, Tryz.func87.trans (congrArg some (by kernel_rfl))⟩
  f27 := ⟨Tryz.f88.name, by decide, Tryz.func88.trans (congrArg some (by kernel_rfl))⟩
  f28 := Tryz.func89.trans (congrArg some (by kernel_rfl))
  f29 := Tryz.func90.trans (congrArg some (by kernel_rfl))
  f46 := ⟨Tryz.f112.name, by decide, Tryz.func112.trans (congrArg some (by kernel_rfl))⟩
  f47 := Tryz.func113.trans (congrArg some (by kernel_rfl))
  f48 := Tryz.func114.trans (congrArg some (by kernel_rfl))
  f49 := ⟨Tryz.f115.name, by decide, Tryz.func115.trans (congrArg some (by kernel_rfl))⟩
  f50 := ⟨Tryz.f116.name, by decide, Tryz.func116.trans (congrArg some (by kernel_rfl))⟩
  f57 := ⟨Tryz.f139.name, by decide, Tryz.func139.trans (congrArg some (by kernel_rfl))⟩
  t0 := Tryz.underlying0
  a0 := Tryz.isAgg0
  z0 := Tryz.sizeOf0
  v0 := Tryz.zeroValue0
  t3 := Tryz.underlying3
  a3 := Tryz.isAgg3
  z3 := Tryz.sizeOf3
  v3 := Tryz.zeroValue3
  t4 := Tryz.underlying4
  a4 := Tryz.isAgg4
  z4 := Tryz.sizeOf4
  v4 := Tryz.zeroValue4
  t5 := Tryz.underlying5
  a5 := Tryz.isAgg5
  z5 := Tryz.sizeOf5
  v5 := Tryz.zeroValue5
  t9 := Tryz.underlying9
  a9 := Tryz.isAgg9
  z9 := Tryz.sizeOf9
  v9 := Tryz.zeroValue9
  t22 := Tryz.underlying35
  a22 := Tryz.isAgg35
  z22 := Tryz.sizeOf35
  v22 := Tryz.zeroValue35
  t25 := Tryz.underlying101
  a25 := Tryz.isAgg101
  z25 := Tryz.sizeOf101
  v25 := Tryz.zeroValue101
  t39 := Tryz.underlying133
  a39 := Tryz.isAgg133
  z39 := Tryz.sizeOf133
  v39 := Tryz.zeroValue133
  t45 := Tryz.underlying171
  a45 := Tryz.isAgg171
  z45 := Tryz.sizeOf171
  v45 := Tryz.zeroValue171
  t46 := Tryz.underlying172
  a46 := Tryz.isAgg172
  z46 := Tryz.sizeOf172
  v46 := Tryz.zeroValue172
  t50 := Tryz.underlying176
  a50 := Tryz.isAgg176
  z50 := Tryz.sizeOf176
  v50 := Tryz.zeroValue176
  t53 := Tryz.underlying179
  a53 := Tryz.isAgg179
  z53 := Tryz.sizeOf179
  v53 := Tryz.zeroValue179
  t55 := Tryz.underlying49
  a55 := Tryz.isAgg49
  z55 := Tryz.sizeOf49
  v55 := Tryz.zeroValue49
  t66 := Tryz.underlying202
  a66 := Tryz.isAgg202
  z66 := Tryz.sizeOf202
  v66 := Tryz.zeroValue202
  t70 := Tryz.underlying206
  a70 := Tryz.isAgg206
  z70 := Tryz.sizeOf206
  v70 := Tryz.zeroValue206
  t76 := Tryz.underlying230
  a76 := Tryz.isAgg230
  z76 := Tryz.sizeOf230
  v76 := Tryz.zeroValue230
  t77 := Tryz.underlying227
  a77 := Tryz.isAgg227
  z77 := Tryz.sizeOf227
  v77 := Tryz.zeroValue227 }

theorem sortAt (L F : List Fil) (hne : L ≠ []) (hp : F.Perm L) (hs : SortedF F) (hlen : L.length ≤ 5000) : SortAt L F := by
  intro w base v F' hF' hown
  have hl' : F'.length = L.length := hF'.length_eq
  have hpos : 0 < F'.length := by
    rw [hl']
    exact List.length_pos_iff.2 hne
  obtain ⟨g, cap, rfl, hbg, hgl⟩ := own_some hown hpos
  have eg : ∀ args w, (callFunc 32 args).run Tryz.prog w = .ok (.enter 32 args) w := enters_of Tryz.func32 (by kernel_rfl) rfl
  have hcon := AnyQ.slices_SortFunc Tryz.sortF 9 Tryz.isAgg59 Tryz.sizeOf59 encF (fun _ => rfl) (fun x v hv => by simp [encF] at hv; rcases hv with rfl | rfl | rfl | rfl | rfl | rfl | rfl | rfl | rfl <;> rfl) cfF swoF 32 #[] g 0 cap F'.toArray w eg
    (fun _ _ _ _ x y => cmp32 x y _) (own_holdsK (n := F'.length) (by simp) (by simpa using hown)) hgl (by simp; omega)
  refine Calls.mono hcon ?_
  rintro e w' ⟨rfl, d', n, os, h1, h2, rfl⟩
  have hsz : d'.size = F'.toArray.size := h1.1
  have hd : d'.toList = F := by
    refine sorted_unique (((perm_in h1).trans (by simpa using hF')).trans hp.symm) (sorted_in (by rw [hsz]; exact h2)) hs
  have := own_sortK (n := F'.length) (m := n) (os := os) (d := F'.toArray) (d' := d') (by simp) hsz (by simpa using hown)
  rw [hd] at this
  refine ⟨⟨_, rfl⟩, ?_, fun a ha ho => old_sortK _ ho (Nat.le_trans ha hbg)⟩
  have hFl : F.length = F'.length := by rw [hl', hp.length_eq]
  rw [hFl]
  simpa using this
end Go.Pri
end

section
/-
  The rules of operators in levels: plain.
-/
namespace Go.Pri
open Go Go.Abs Go.Proofs

theorem mem_newOf {p q : Nat} {b c : Bool} {x : Fil} : x ∈ newOf p q b c ↔ (b = true ∧ x = Fil.mk p 0 q) ∨ (c = true ∧ x = Fil.mk p 2 q) := by
  unfold newOf
  cases b <;> cases c <;> simp
theorem mem_pairOf {a b : Lv} {f l : Bool} {x : Fil} : x ∈ pairOf a b f l ↔ ∃ p ∈ a.1, ∃ q ∈ b.1, (f = true ∧ x = Fil.mk p 0 q) ∨ (l = true ∧ x = Fil.mk p 2 q) := by
  simp only [pairOf, List.mem_flatMap, mem_newOf]
theorem newOf_len (p q : Nat) (f l : Bool) : (newOf p q f l).length ≤ 2 := by
  unfold newOf
  cases f <;> cases l <;> simp
theorem newOf_nodup (p q : Nat) (f l : Bool) : (newOf p q f l).Nodup := by
  unfold newOf
  cases f <;> cases l <;> simp
theorem pairOf_len {a b : Lv} {f l : Bool} {k : Nat} (ha : a.1.length ≤ k) (hb : b.1.length ≤ k) : (pairOf a b f l).length ≤ k * (k * 2) := by
  have h1 : ∀ p ∈ a.1, (b.1.flatMap fun q => newOf p q f l).length ≤ k * 2 := fun p _ => by
    have : ∀ l2 : List Nat, (l2.flatMap fun q => newOf p q f l).length ≤ l2.length * 2 := fun l2 => by
      induction l2 with
      | nil => simp
      | cons q l2 ih =>
        have := newOf_len p q f l
        simp only [List.flatMap_cons, List.length_append, List.length_cons]
        omega
    exact Nat.le_trans (this b.1) (Nat.mul_le_mul_right _ hb)
  have h2 : ∀ l1 : List Nat, (∀ p ∈ l1, (b.1.flatMap fun q => newOf p q f l).length ≤ k * 2) → (l1.flatMap fun p => b.1.flatMap fun q => newOf p q f l).length ≤ l1.length * (k * 2) := fun l1 => by
    induction l1 with
    | nil => simp
    | cons p l1 ih =>
      intro h
      have e1 := h p (List.mem_cons_self ..)
      have e2 := ih fun q hq => h q (List.mem_cons_of_mem _ hq)
      simp only [List.flatMap_cons, List.length_append, List.length_cons, Nat.succ_mul]
      omega
  exact Nat.le_trans (h2 a.1 h1) (Nat.mul_le_mul_right _ ha)
theorem pairOf_nodup {a b : Lv} {f l : Bool} (ha : a.1.Nodup) (hb : b.1.Nodup) : (pairOf a b f l).Nodup := by
  unfold pairOf List.Nodup
  rw [List.pairwise_flatMap]
  refine ⟨fun p _ => ?_, ?_⟩
  · rw [List.pairwise_flatMap]
    refine ⟨fun q _ => newOf_nodup p q f l, List.Pairwise.imp ?_ hb⟩
    intro q q' hne x hx y hy e
    subst e
    rw [mem_newOf] at hx hy
    rcases hx with ⟨_, rfl⟩ | ⟨_, rfl⟩ <;> rcases hy with ⟨_, h⟩ | ⟨_, h⟩ <;> simp at h <;> omega
  · refine List.Pairwise.imp ?_ ha
    intro p p' hne x hx y hy e
    subst e
    rw [List.mem_flatMap] at hx hy
    obtain ⟨q, _, hx⟩ := hx
    obtain ⟨q', _, hy⟩ := hy
    rw [mem_newOf] at hx hy
    rcases hx with ⟨_, rfl⟩ | ⟨_, rfl⟩ <;> rcases hy with ⟨_, h⟩ | ⟨_, h⟩ <;> simp at h <;> omega

/-- What is a rule. -/
theorem mem_rules : ∀ {lv : List Lv} {x : Fil}, x ∈ rulesAll lv → ∃ a ∈ lv, ∃ b ∈ lv, ∃ p ∈ a.1, ∃ q ∈ b.1, x = Fil.mk p 0 q ∨ x = Fil.mk p 2 q
  | a :: r, x, h => by
    simp only [rulesAll, List.mem_append, List.mem_flatMap, mem_pairOf] at h
    rcases h with ⟨p, hp, q, hq, h⟩ | ⟨b, hb, p, hp, q, hq, h⟩ | h
    · exact ⟨a, by simp, a, by simp, p, hp, q, hq, by rcases h with h | h; exact .inl h.2; exact .inr h.2⟩
    · exact ⟨a, by simp, b, by simp [hb], p, hp, q, hq, by rcases h with h | h; exact .inl h.2; exact .inr h.2⟩
    · obtain ⟨a', ha, b', hb, p, hp, q, hq, h⟩ := mem_rules h
      exact ⟨a', by simp [ha], b', by simp [hb], p, hp, q, hq, h⟩

theorem rules_len {k : Nat} : ∀ {lv : List Lv}, (∀ a ∈ lv, a.1.length ≤ k) → (rulesAll lv).length ≤ lv.length * (lv.length * (k * (k * 2)))
  | [], _ => by simp [rulesAll]
  | a :: r, h => by
    have ih := rules_len (k := k) (lv := r) fun b hb => h b (List.mem_cons_of_mem _ hb)
    have h1 := pairOf_len (a := a) (b := a) (f := firstOf a.2) (l := lastOf a.2) (h a (by simp)) (h a (by simp))
    have h2 : ∀ l2 : List Lv, (∀ b ∈ l2, b.1.length ≤ k) → (l2.flatMap fun b => pairOf a b true true).length ≤ l2.length * (k * (k * 2)) := fun l2 => by
      induction l2 with
      | nil => simp
      | cons b l2 ih =>
        intro hl
        have e1 := pairOf_len (a := a) (b := b) (f := true) (l := true) (h a (by simp)) (hl b (by simp))
        have e2 := ih fun c hc => hl c (List.mem_cons_of_mem _ hc)
        simp only [List.flatMap_cons, List.length_append, List.length_cons, Nat.succ_mul]
        omega
    have h3 := h2 r fun b hb => h b (List.mem_cons_of_mem _ hb)
    generalize k * (k * 2) = m at *
    simp only [rulesAll, List.length_append, List.length_cons, Nat.succ_mul, Nat.mul_succ]
    have h4 : r.length * m + (r.length * (r.length * m)) ≤ r.length * (r.length * m + m) + r.length * m := by
      rw [Nat.mul_add]; omega
    have h5 : r.length * (r.length * m + m) = r.length * (r.length * m) + r.length * m := Nat.mul_add _ _ _
    omega

theorem rules_nodup : ∀ {lv : List Lv}, (lv.flatMap (·.1)).Nodup → (rulesAll lv).Nodup
  | [], _ => by simp [rulesAll]
  | a :: r, h => by
    simp only [List.flatMap_cons, List.nodup_append] at h
    obtain ⟨h1, h2, h3⟩ := h
    have hr := rules_nodup h2
    have hsub : ∀ {b : Lv}, b ∈ r → b.1.Nodup := fun {b} hb => by
      have h2' := h2
      unfold List.Nodup at h2'
      rw [List.pairwise_flatMap] at h2'
      exact h2'.1 b hb
    have hda : ∀ {b : Lv} {p : Nat}, b ∈ r → p ∈ b.1 → p ∉ a.1 := fun {b p} hb hp ha => h3 p ha p (List.mem_flatMap.2 ⟨b, hb, hp⟩) rfl
    have hne : ∀ (p q i j : Nat) (x y : Int), Fil.mk p x q = Fil.mk i y j → p = i ∧ q = j := fun p q i j x y e => by
      simp only [Fil.mk.injEq] at e
      omega
    simp only [rulesAll, List.nodup_append]
    refine ⟨pairOf_nodup h1 h1, ⟨?_, hr, ?_⟩, ?_⟩
    · unfold List.Nodup
      rw [List.pairwise_flatMap]
      refine ⟨fun b hb => pairOf_nodup h1 (hsub hb), ?_⟩
      have h2' := h2
      unfold List.Nodup at h2'
      rw [List.pairwise_flatMap] at h2'
      refine List.Pairwise.imp ?_ h2'.2
      intro b b' hd x hx y hy e
      subst e
      rw [mem_pairOf] at hx hy
      obtain ⟨p, _, q, hq, hx⟩ := hx
      obtain ⟨p', _, q', hq', hy⟩ := hy
      have : q = q' := by rcases hx with ⟨_, rfl⟩ | ⟨_, rfl⟩ <;> rcases hy with ⟨_, hy⟩ | ⟨_, hy⟩ <;> exact (hne _ _ _ _ _ _ hy).2
      exact hd q hq q' hq' this
    · intro x hx y hy e
      subst e
      rw [List.mem_flatMap] at hx
      obtain ⟨b, hb, hx⟩ := hx
      rw [mem_pairOf] at hx
      obtain ⟨p, hp, q, hq, hx⟩ := hx
      obtain ⟨a', ha', b', hb', p', hp', q', hq', hy⟩ := mem_rules hy
      have : p = p' := by rcases hx with ⟨_, rfl⟩ | ⟨_, rfl⟩ <;> rcases hy with hy | hy <;> exact (hne _ _ _ _ _ _ hy).1
      subst this
      exact hda ha' hp' hp
    · intro x hx y hy e
      subst e
      rw [mem_pairOf] at hx
      obtain ⟨p, hp, q, hq, hx⟩ := hx
      rw [List.mem_append] at hy
      rcases hy with hy | hy
      · rw [List.mem_flatMap] at hy
        obtain ⟨b, hb, hy⟩ := hy
        rw [mem_pairOf] at hy
        obtain ⟨p', hp', q', hq', hy⟩ := hy
        have : q = q' := by rcases hx with ⟨_, rfl⟩ | ⟨_, rfl⟩ <;> rcases hy with ⟨_, hy⟩ | ⟨_, hy⟩ <;> exact (hne _ _ _ _ _ _ hy).2
        subst this
        exact hda hb hq' hq
      · obtain ⟨a', ha', b', hb', p', hp', q', hq', hy⟩ := mem_rules hy
        have : p = p' := by rcases hx with ⟨_, rfl⟩ | ⟨_, rfl⟩ <;> rcases hy with hy | hy <;> exact (hne _ _ _ _ _ _ hy).1
        subst this
        exact hda ha' hp' hp

/-- The rules in order. -/
def rulesF (lv : List Lv) : List Fil := (rulesAll lv).mergeSort fun a b => !ltF b a
theorem rulesF_perm (lv : List Lv) : (rulesF lv).Perm (rulesAll lv) := List.mergeSort_perm _ _
theorem rulesF_sorted (lv : List Lv) : SortedF (rulesF lv) := by
  have h := List.pairwise_mergeSort (le := fun a b : Fil => !ltF b a) (fun a b c h1 h2 => by
    simp only [ltF, Bool.not_eq_true', decide_eq_false_iff_not] at *
    omega) (fun a b => by
    simp only [ltF, Bool.or_eq_true, Bool.not_eq_true', decide_eq_false_iff_not]
    omega) (rulesAll lv)
  exact List.Pairwise.imp (fun h => by simpa using h) h
end Go.Pri
end

section
/-
  Kids and the spine: walked.
-/
namespace Go.Pri
open Go Go.Abs Go.Proofs Go.RowKit Go.Lib
set_option maxRecDepth 100000
set_option maxHeartbeats 4000000

theorem Old.drewN {a w : World} (h : Old a w) (n : Nat) : Old a (w.drewN n) := ⟨h.os, h.output, h.size, h.heap⟩

theorem kids41 (a0 : Option Addr) (cap0 : Nat) (c3 c4 c5 c6 c7 c8 tv : Value) (nt : Nat) (ps : List Prod') (l : List Nd) (out : List Int) (i : Nat) (stop : Int) (ks : List Int) (w : World)
    (hv : Valid w (.agg #[.slice a0 2 cap0, .slice none 0 0, .int .i64 1, c3, c4, c5, c6, c7, c8])) (hg : GramAt w c3 c5 nt ps) (hs : Shaped ps nt l out) (ht : SliceAt 4 w tv (l.map encN))
    (hlen : out.length = l.length) (hi : i < l.length) (hst : out[i]? = some stop) (hk : IsKids out stop (i + 1) ks) (hkl : ks.length ≤ 2000000) :
    Calls Tryz.prog 41 #[.agg #[.slice a0 2 cap0, .slice none 0 0, .int .i64 1, c3, c4, c5, c6, c7, c8], tv, .int .i64 i] w fun e w' => ∃ v, e = .returned (.tuple #[v, .bool true]) ∧ Old w w' := by
  obtain ⟨a3, cap3, rfl⟩ : ∃ a3 cap3, c3 = .slice a3 nt cap3 := by
    obtain ⟨ts, h1, h2, _⟩ := hg.toks
    obtain ⟨a, c, h⟩ := h1.form
    exact ⟨a, c, by rw [h, h2]⟩
  have hO : Old w (w.alloc (.cells #[.slice a0 2 cap0, .slice none 0 0, .int .i64 1, .slice a3 nt cap3, c4, c5, c6, c7, c8] 37)) := (Old.refl w).alloc _
  have hbox : ∀ X, Old (w.alloc (.cells #[.slice a0 2 cap0, .slice none 0 0, .int .i64 1, .slice a3 nt cap3, c4, c5, c6, c7, c8] 37)) X → ∀ (i : Nat) v, (#[.slice a0 2 cap0, .slice none 0 0, .int .i64 1, .slice a3 nt cap3, c4, c5, c6, c7, c8] : Array Value)[i]? = some v → X.cell? ⟨w.heap.size, i, none⟩ = some v := fun X h i v hi => by
    refine h.cell_some ?_
    simp [hi]
  have hfact := hv.facts _ hO
  have hpr := hg.prodsAt
  have hle := hs.le
  have hea := fun (X : World) (hX : Old w X) => treeEnds21 (.slice a0 2 cap0) (.slice none 0 0) (.int .i64 1) (.slice a3 nt cap3) c4 c5 c6 c7 c8 tv a3 nt cap3 rfl ps l out X (ht.old hX) (hpr.old hX) hs
  have hcol := fun (b : Nat) (X : World) (h : NumsAt X b out) => collect26 b (X.heap.size) (X.heap.size + 1) l.length l.length i out ks stop ((X.alloc (.cells #[.slice (some ⟨b, 0, none⟩) l.length l.length] 39)).alloc (.cells #[.int .i64 i] 3)) (by simp) (by simp) (h.old (((Old.refl X).alloc _).alloc _)) hlen hle hi hst hk hkl
  have i0 : (0 : Int) ≤ i := by omega
  have i1 : (i : Int) < l.length := by omega
  replace hfact : Aside _ := hfact
  replace hea : Aside _ := hea
  replace hcol : Aside _ := hcol
  replace hO : Aside _ := hO
  obtain ⟨a, c, hva⟩ := ht.form
  rw [List.length_map] at hva
  subst hva
  have hb0 := hbox _ (Old.refl _)
  have g0 := hb0 0 _ rfl
  have g1 := hb0 1 _ rfl
  have g2 := hb0 2 _ rfl
  have g3 := hb0 3 _ rfl
  have g4 := hb0 4 _ rfl
  have g5 := hb0 5 _ rfl
  have g6 := hb0 6 _ rfl
  have g7 := hb0 7 _ rfl
  have g8 := hb0 8 _ rfl
  clear hb0
  replace hbox : Aside _ := hbox
  clear hv hg hpr ht hs hlen hst hk hkl
  go_enter Tryz.func41, Tryz.ntmps41
  go_wp2_with (first
    | (go_at_call 20; refine Calls.mono hfact.out ?_; rintro e w2 ⟨rfl, hk2⟩; have hb2 := hbox.out _ hk2; have f0 := hb2 0 _ rfl; have f1 := hb2 1 _ rfl; have f2 := hb2 2 _ rfl; have f3 := hb2 3 _ rfl; have f4 := hb2 4 _ rfl; have f5 := hb2 5 _ rfl; have f6 := hb2 6 _ rfl; have f7 := hb2 7 _ rfl; have f8 := hb2 8 _ rfl; clear hb2; replace hk2 : Aside _ := hk2)
    | (go_at_call 21; refine Calls.mono (hea.out _ (hO.out.trans hk2.out)) ?_; rintro e w3 ⟨b, rfl, hr3, _, hk3⟩; have hn3 := NumsAt.of hr3; replace hn3 : Aside _ := hn3; replace hk3 : Aside _ := hk3; clear hr3)
    | (go_at_call 27; refine Calls.mono (kids27 _ _ _ _ _) ?_; rintro e w4 ⟨rfl, rfl⟩)
    | (go_at_call 26; refine Calls.mono (hcol.out b w3 hn3.out) ?_; rintro e w5 ⟨v, rfl, hk5, _⟩))
  go_ret2
  exact ⟨v, rfl, hO.out.trans (hk2.out.trans (hk3.out.trans ((((Old.refl _).alloc _).alloc _).trans hk5)))⟩

/-- The way down the last kids. -/
inductive SpineN (l : List Nd) (K : List (List Int)) : Nat → Nat → Prop
  | stop {i x} : l[i]? = some x → x.p < 0 → SpineN l K i 0
  | step {i x ks} {k n : Nat} : l[i]? = some x → 0 ≤ x.p → K[i]? = some ks → 0 < ks.length → ks[ks.length - 1]? = some (k : Int) → SpineN l K k n → SpineN l K i (n + 1)

theorem spine42 (kb : Nat) (tv : Value) (l : List Nd) (K : List (List Int)) (i N : Nat) (w : World) (hK : KidsAt w kb K) (hKl : K.length = l.length) (ht : SliceAt 4 w tv (l.map encN)) (hle : l.length ≤ 2000000) (hks : ∀ ks ∈ K, ks.length ≤ 2000000) (hN : N ≤ 2000000) (hsp : SpineN l K i N) :
    Calls Tryz.prog 42 #[.slice (some ⟨kb, 0, none⟩) l.length l.length, tv, .int .i64 i] w fun e w' => ∃ a c, e = .returned (.slice a N c) ∧ Old w w' := by
  obtain ⟨i6, hi6, hz6, hs6, hb6⟩ := info_parts info3
  obtain ⟨at', ct, hva⟩ := ht.form
  rw [List.length_map] at hva
  subst hva
  replace hK : Aside _ := hK
  replace ht : Aside _ := ht
  replace hks : Aside _ := hks
  replace hsp : Aside _ := hsp
  go_enter Tryz.func42, Tryz.ntmps42
  go_wp2
  go_loopg [2, 7] N (fun gg s2 s7 wr => ∃ (j m : Nat) (V : List Value), s2 = .int .i64 j ∧ m ≤ gg ∧ Aside (SpineN l K j m) ∧ V.length + m = N ∧ Aside (wr.ownsRow w.heap.size 3 1 s7 V.length V) ∧ Aside (Old w wr))
  case atStart => exact ⟨i, N, [], rfl, by omega, hsp, by simp, World.ownsRow_nil _ _ _ _, Old.refl w⟩
  case round =>
    obtain ⟨j, m, V, rfl, hmg, hS, hVm, hown, hO⟩ := hrel
    obtain ⟨a7, c7, rfl⟩ := own_form hown.out
    obtain ⟨x, hx, hcase⟩ : ∃ x, l[j]? = some x ∧ ((x.p < 0 ∧ m = 0) ∨ (0 ≤ x.p ∧ ∃ ks k n, K[j]? = some ks ∧ 0 < ks.length ∧ ks[ks.length - 1]? = some ((k : Nat) : Int) ∧ SpineN l K k n ∧ m = n + 1)) := by
      cases hS.out with
      | stop h1 h2 => exact ⟨_, h1, .inl ⟨h2, rfl⟩⟩
      | step h1 h2 h3 h4 h5 h6 => exact ⟨_, h1, .inr ⟨h2, _, _, _, h3, h4, h5, h6, rfl⟩⟩
    have hjl := (List.getElem?_eq_some_iff.1 hx).1
    have j1 : (j : Int) < l.length := by omega
    obtain ⟨bt, ot, ctt, het, hct⟩ := (SliceAt.old (w := w) ht.out hO.out).at (j := j) (c := encN x) (by simp [hx])
    rw [List.length_map] at het
    cases het
    have n0 := hct 0 _ rfl
    simp only [Nat.add_zero] at n0
    clear hct
    rcases hcase with ⟨hp, rfl⟩ | ⟨hp, ks, k, n, hKj, hk0, hkl, hS', rfl⟩
    · have hp' : ¬ 0 ≤ x.p := by omega
      have hVN : V.length = N := by omega
      clear hS hVm hx
      subst hVN
      go_wp2
      go_ret
      exact ⟨⟨a7, c7, rfl⟩, hO.out⟩
    · obtain ⟨kv, hkv, hkS⟩ := KidsAt.old (w := w) hK.out hO.out j ks hKj
      obtain ⟨bk, ok, ck, hek, hck⟩ := hkS.at (j := ks.length - 1) (c := [.int .i64 k]) (by rw [List.getElem?_map, hkl]; rfl)
      rw [List.length_map] at hek
      subst hek
      have hksl : ks.length ≤ 2000000 := hks.out _ (List.mem_of_getElem? hKj)
      have k0 := hck 0 _ rfl
      simp only [Nat.mul_one, Nat.add_zero] at k0
      have hn1 : ((ks.length : Nat) : Int) - 1 = ((ks.length - 1 : Nat) : Int) := by omega
      have hkn : (ks.length - 1 : Nat) < ks.length := by omega
      have hkz : ¬ ((ks.length : Nat) : Int) = 0 := by omega
      have hVl : V.length ≤ 2000000 := by omega
      have hsz : w.heap.size ≤ (wr.alloc (.cells #[.int .i64 j] 3)).heap.size := by have := hO.out.size; simp; omega
      have hoA : Old wr (wr.alloc (.cells #[.int .i64 j] 3)) := (Old.refl wr).alloc _
      have hownA := own_old hown.out hoA
      have hnA : (wr.alloc (.cells #[.int .i64 j] 3)).cell? ⟨wr.heap.size, 0, none⟩ = some (.int .i64 j) := by simp
      have hOA := hO.out.trans hoA
      have hnodeA := (SliceAt.old (w := w) ht.out hOA)
      have hkidA := hkv
      replace hownA : Aside _ := hownA
      replace hoA : Aside _ := hoA
      replace hOA : Aside _ := hOA
      replace hS' : Aside _ := hS'
      replace hkS : Aside _ := hkS
      clear hck hS hnodeA hkidA
      go_wp2_with (at_builtin; refine push3 (.tmp 14) (.tmp 16) (wr.alloc (.cells #[.int .i64 j] 3)) w.heap.size (.slice a7 V.length c7) V.length V j wr.heap.size rfl rfl hownA.out hsz hVl rfl rfl hnA ?_; intro v' w4 hown4 hgrow4 _; obtain ⟨g', cap', rfl⟩ := ownsRow_succ hown4; have hO4 : Old w w4 := hOA.out.grown hgrow4 (fun k hk => (World.ownsRow.lt (w := wr.alloc (.cells #[.int .i64 j] 3)) (base := w.heap.size) hownA.out k hk).1); obtain ⟨kv2, hkv2, hkS2⟩ := KidsAt.old (w := w) hK.out hO4 j ks hKj; obtain ⟨bk2, ok2, ck2, hek2, hck2⟩ := hkS2.at (j := ks.length - 1) (c := [.int .i64 k]) (by rw [List.getElem?_map, hkl]; rfl); rw [List.length_map] at hek2; subst hek2; have k02 := hck2 0 _ rfl; simp only [Nat.mul_one, Nat.add_zero] at k02; clear hck2; replace hown4 : Aside _ := hown4; replace hO4 : Aside _ := hO4; replace hkS2 : Aside _ := hkS2; replace hgrow4 : Aside _ := hgrow4)
      go_quiet (fail)
      go_wp2
      go_roundg n
      case measure => omega
      case rel => exact ⟨k, n, V ++ [.int .i64 j], by go_num, by omega, hS', by simp; omega, (by rw [List.length_append]; exact own_old hown4.out (Old.drewN (Old.refl _) nq)), hO4.out.trans (Old.drewN (Old.refl _) nq)⟩

theorem spine13 (a0 : Option Addr) (cap0 : Nat) (c3 c4 c5 c6 c7 c8 tv : Value) (nt : Nat) (ps : List Prod') (l : List Nd) (out : List Int) (stop : Int) (ks : List Int) (N : Nat) (w : World)
    (hv : Valid w (.agg #[.slice a0 2 cap0, .slice none 0 0, .int .i64 1, c3, c4, c5, c6, c7, c8])) (hg : GramAt w c3 c5 nt ps) (hs : Shaped ps nt l out) (ht : SliceAt 4 w tv (l.map encN))
    (hlen : out.length = l.length) (hst : out[0]? = some stop) (hk : IsKids out stop 1 ks) (hkl : ks.length ≤ 2000000)
    (hKl : (kidsK ps l).length = l.length) (hks : ∀ ks ∈ kidsK ps l, ks.length ≤ 2000000) (hN : N ≤ 2000000) (hsp : SpineN l (kidsK ps l) 0 N) :
    Calls Tryz.prog 13 #[.agg #[.slice a0 2 cap0, .slice none 0 0, .int .i64 1, c3, c4, c5, c6, c7, c8], tv, .int .i64 0] w fun e w' => ∃ a c, e = .returned (.slice a N c) ∧ Old w w' := by
  have hO : Old w (w.alloc (.cells #[.slice a0 2 cap0, .slice none 0 0, .int .i64 1, c3, c4, c5, c6, c7, c8] 37)) := (Old.refl w).alloc _
  have hbox : ∀ X, Old (w.alloc (.cells #[.slice a0 2 cap0, .slice none 0 0, .int .i64 1, c3, c4, c5, c6, c7, c8] 37)) X → ∀ (i : Nat) v, (#[.slice a0 2 cap0, .slice none 0 0, .int .i64 1, c3, c4, c5, c6, c7, c8] : Array Value)[i]? = some v → X.cell? ⟨w.heap.size, i, none⟩ = some v := fun X h i v hi => by
    refine h.cell_some ?_
    simp [hi]
  have h41 := kids41 a0 cap0 c3 c4 c5 c6 c7 c8 tv nt ps l out 0 stop ks _ (hv.old hO) (hg.old hO) hs (ht.old hO) hlen hs.pos hst hk hkl
  have h37 := fun (X : World) (hX : Old w X) => kids37 (.slice a0 2 cap0) (.slice none 0 0) (.int .i64 1) c3 c4 c5 c6 c7 c8 tv nt ps l X (ht.old hX) (hg.old hX) hs.ok hs.pos hs.le
  have h42 := fun (kb : Nat) (X : World) (hX : Old w X) (h : KidsAt X kb (kidsK ps l)) => spine42 kb tv l (kidsK ps l) 0 N X h hKl (ht.old hX) hs.le hks hN hsp
  replace h41 : Aside _ := h41
  replace h37 : Aside _ := h37
  replace h42 : Aside _ := h42
  replace hO : Aside _ := hO
  obtain ⟨a, c, hva⟩ := ht.form
  rw [List.length_map] at hva
  subst hva
  have hb0 := hbox _ (Old.refl _)
  have g0 := hb0 0 _ rfl
  have g1 := hb0 1 _ rfl
  have g2 := hb0 2 _ rfl
  have g3 := hb0 3 _ rfl
  have g4 := hb0 4 _ rfl
  have g5 := hb0 5 _ rfl
  have g6 := hb0 6 _ rfl
  have g7 := hb0 7 _ rfl
  have g8 := hb0 8 _ rfl
  clear hb0
  replace hbox : Aside _ := hbox
  clear hv hg ht hs hlen hst hk hkl hKl hks hN hsp
  go_enter Tryz.func13, Tryz.ntmps13
  go_wp2_with (first
    | (go_at_call 41; refine Calls.mono h41.out ?_; rintro e w2 ⟨v1, rfl, hk2⟩; have hb2 := hbox.out _ hk2; have f0 := hb2 0 _ rfl; have f1 := hb2 1 _ rfl; have f2 := hb2 2 _ rfl; have f3 := hb2 3 _ rfl; have f4 := hb2 4 _ rfl; have f5 := hb2 5 _ rfl; have f6 := hb2 6 _ rfl; have f7 := hb2 7 _ rfl; have f8 := hb2 8 _ rfl; clear hb2; replace hk2 : Aside _ := hk2)
    | (go_at_call 37; refine Calls.mono (h37.out _ (hO.out.trans hk2.out)) ?_; rintro e w3 ⟨kb, rfl, hr3, hk3⟩; replace hk3 : Aside _ := hk3; replace hr3 : Aside _ := hr3)
    | (go_at_call 42; refine Calls.mono (h42.out _ _ (hO.out.trans (hk2.out.trans hk3.out)) hr3.out) ?_; rintro e w4 ⟨a4, c4', rfl, hk4⟩))
  go_ret
  exact ⟨a4, c4', rfl, hO.out.trans (hk2.out.trans (hk3.out.trans hk4))⟩
end Go.Pri
end

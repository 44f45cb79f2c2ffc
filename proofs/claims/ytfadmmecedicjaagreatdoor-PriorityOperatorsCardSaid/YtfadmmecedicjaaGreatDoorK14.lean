/-
  PriorityOperators: parts of its proof (Pr5 Pr6).
-/
import Derived.RangeFuncNested
import Derived.RangeFuncBound
import Derived.RangeFuncCalls
import Derived.RangeFuncLeaves
import Derived.Shelf.Abstract
import Derived.Shelf.RegionOpen
import Derived.OwnWalkIn
import Derived.TacticsInMore
import Derived.LoopNIn
import Derived.LoopIn
import Derived.Test.YtfadmmecedicjaaGreatDoorK13
set_option linter.unusedVariables false
set_option linter.unusedSimpArgs false

section
/-
  treeEnds, walked.
-/
namespace Go.Pri
open Go Go.Abs Go.Proofs Go.RowKit Go.Lib

/-- A tree, as the ends' machine takes it. -/
structure Shaped (ps : List Prod') (nt : Nat) (l : List Nd) (out : List Int) : Prop where
  ok : ∀ x ∈ l, okNd nt ps.length x
  pos : 0 < l.length
  le : l.length ≤ 2000000
  run : runE ps l 0 ([], List.replicate l.length 0) = some ([], out)

theorem ProdsAt.old {w w' : World} {v : Value} {ps : List Prod'} (h : ProdsAt w v ps) (ho : Old w w') : ProdsAt w' v ps := by
  obtain ⟨cs, h1, h2, h3⟩ := h
  refine ⟨cs, h1.old ho, h2, ?_⟩
  intro j q hj
  obtain ⟨c, rv, e1, e2, e3, e4⟩ := h3 j q hj
  exact ⟨c, rv, e1, e2, e3, e4.old ho⟩

set_option maxHeartbeats 1000000 in
theorem treeEnds21 (c0 c1 c2 c3 c4 c5 c6 c7 c8 tv : Value) (a1 : Option Addr) (nt cap1 : Nat) (h3 : c3 = .slice a1 nt cap1)
    (ps : List Prod') (l : List Nd) (out : List Int) (w : World)
    (hs : SliceAt 4 w tv (l.map encN)) (hp : ProdsAt w c5 ps) (hsh : Shaped ps nt l out) :
    Calls Tryz.prog 21 #[.agg #[c0, c1, c2, c3, c4, c5, c6, c7, c8], tv] w fun e w' =>
      ∃ b, e = .returned (.slice (some ⟨b, 0, none⟩) l.length l.length) ∧ RowK 1 w' b 0 (out.map fun n => [.int .i64 n]) ∧ out.length = l.length ∧ Old w w' := by
  obtain ⟨a, c, rfl⟩ := hs.form
  simp only [List.length_map] at hs ⊢
  subst h3
  have hO : Old w ((w.alloc (.cells #[c0, c1, c2, .slice a1 nt cap1, c4, c5, c6, c7, c8] 37)).alloc (.cells #[.slice a l.length c] 42)) := ((Old.refl w).alloc _).alloc _
  have hc := ends48 c0 c1 c2 (.slice a1 nt cap1) c4 c5 c6 c7 c8 (.slice a l.length c) (w.heap.size + 1) w.heap.size a1 nt cap1 rfl ps l out _ (by simp) (by simp) (by simp) (hs.old hO) (hp.old hO) hsh.ok hsh.pos hsh.le hsh.run
  have hc : Aside _ := hc
  clear hs hp hsh
  go_enter Tryz.func21, Tryz.ntmps21
  go_wp2_with (first
    | (go_at_call 48; refine Calls.mono hc.out ?_; rintro e w2 ⟨b, rfl, hr1, hr2, hr3⟩))
  all_goals go_ret
  all_goals exact ⟨b, rfl, hr1, hr2, hO.trans hr3⟩
end Go.Pri
end

section
/-
  The children of a node, one after the other.
-/
namespace Go.Pri
open Go Go.Abs Go.Proofs Go.RowKit Go.Lib Go.Shelf
attribute [local go_sem] Oper.semAt_some

/-- The children from k on, up to a bound: each one's end is the next one. -/
def IsKids (out : List Int) (stop : Int) : Int → List Int → Prop
  | k, [] => ¬ k < stop
  | k, x :: r => x = k ∧ k < stop ∧ 0 ≤ k ∧ ∃ m, out[k.toNat]? = some m ∧ k < m ∧ IsKids out stop m r

/-- The numbers of a row of a block. -/
def NumsAt (w : World) (b : Nat) (out : List Int) : Prop := ∀ (j : Nat) v, out[j]? = some v → w.cell? ⟨b, j, none⟩ = some (.int .i64 v)
theorem NumsAt.of {w : World} {b : Nat} {out : List Int} (h : RowK 1 w b 0 (out.map fun n => [.int .i64 n])) : NumsAt w b out := fun j v hj => by
  have := h j [.int .i64 v] (by simp [hj]) 0 _ rfl
  simpa using this
theorem NumsAt.old {w w' : World} {b : Nat} {out : List Int} (h : NumsAt w b out) (ho : Old w w') : NumsAt w' b out := fun j v hj => ho.cell_some (h j v hj)

/-- What an iterator over children reads between two rounds stays. -/
structure Kept3 (b Be Bi : Nat) (A B : World) : Prop where
  b : B.heap[b]? = A.heap[b]?
  e : B.heap[Be]? = A.heap[Be]?
  i : B.heap[Bi]? = A.heap[Bi]?
theorem Kept3.refl (b Be Bi : Nat) (A : World) : Kept3 b Be Bi A A := ⟨rfl, rfl, rfl⟩
theorem Kept3.trans {b Be Bi : Nat} {A B C : World} (h : Kept3 b Be Bi A B) (k : Kept3 b Be Bi B C) : Kept3 b Be Bi A C := ⟨k.b.trans h.b, k.e.trans h.e, k.i.trans h.i⟩

set_option maxRecDepth 100000 in
set_option maxHeartbeats 2000000 in
theorem kids51_in {α : Type} (enc : α → Int) (F : Fence) (n : Nat) (h51 : F.fn 51) (hro : F.round = none) (hn : 1 ≤ n) (l b Be Bi : Nat) (i : Nat) (m cap : Nat) (out : List Int) (xs : List α) (stop : Int) (hm : out.length = m) (hst : out[i]? = some stop) (hb : m ≤ 2000000) (hi : i < m)
    (J Jx : List α → World → Prop)
    (hY : Aside (∀ pre x W, J pre W → pre.length < xs.length → YieldAt F (n - 1) Tryz.prog l #[.int .i64 (enc x)] W fun e W' =>
      (e = .returned (.bool true) ∧ J (pre ++ [x]) W' ∧ Kept3 b Be Bi W W') ∨ (e = .returned (.bool false) ∧ Jx (pre ++ [x]) W')))
    (W : World) (hBi : W.cell? ⟨Bi, 0, none⟩ = some (.int .i64 i)) (hBe : W.cell? ⟨Be, 0, none⟩ = some (.slice (some ⟨b, 0, none⟩) m cap))
    (hL : Aside (NumsAt W b out)) (hk : Aside (IsKids out stop (i + 1) (xs.map enc))) (h0 : Aside (J [] W)) :
    CallsIn F n Tryz.prog 51 #[.func (.yield l) #[] #[], .pointer (some ⟨Bi, 0, none⟩), .pointer (some ⟨Be, 0, none⟩)] W fun e W' => (∃ v, e = .returned v) ∧
      ((∃ ys, ys = xs ∧ J ys W') ∨ (∃ pre, pre <+: xs ∧ Jx pre W')) := by
  refine callsIn_of_wp Tryz.func51 rfl h51 ?_ hro
  simp only [Tryz.ntmps51, List.size_toArray, List.length_cons, List.length_nil, Nat.reduceAdd, Nat.reduceSub, Array.replicate_succ, Array.replicate_zero, List.push_toArray, List.append_toArray, List.nil_append, List.cons_append]
  gi_wp2
  gi_loopw [4] (fun p wr => ∃ (pre rest : List α) (k : Int), p = .int .i64 k ∧ Aside (xs = pre ++ rest) ∧ Aside (IsKids out stop k (rest.map enc)) ∧ Aside (J pre wr) ∧ Aside (Kept3 b Be Bi W wr))
    (fun p wr => (stop - Go.RowKit.intOf p).toNat)
  case atStart =>
    exact ⟨[], xs, _, by go_num, rfl, hk.out, h0.out, Kept3.refl ..⟩
  case round =>
    obtain ⟨pre, rest, k, rfl, hx, hl, hJs, hK⟩ := hrel
    have hBi2 : wr.cell? ⟨Bi, 0, none⟩ = some (.int .i64 i) := (World.cell?_of_block (w := W) hK.out.i).trans hBi
    have hBe2 : wr.cell? ⟨Be, 0, none⟩ = some (.slice (some ⟨b, 0, none⟩) m cap) := (World.cell?_of_block (w := W) hK.out.e).trans hBe
    have hs2 : wr.cell? ⟨b, i, none⟩ = some (.int .i64 stop) := (World.cell?_of_block (w := W) hK.out.b).trans (hL.out i stop hst)
    have hi2 : (i : Int) < m := by omega
    cases rest with
    | nil =>
      have hlt : ¬ k < stop := hl.out
      have hlt' : (stop ≤ k) := by omega
      gi_wp2
      go_end0
      exact ⟨⟨_, rfl⟩, .inl (by rw [show xs = pre by simpa using hx.out]; exact hJs.out)⟩
    | cons x rest =>
      obtain ⟨hxk, hks, hk0, m2, hm2, hkm, hl2⟩ := hl.out
      subst hxk
      have hl2 : Aside _ := hl2
      obtain ⟨fn, tmps, assign, body, hy, hR⟩ := hY.out pre x wr hJs.out (by rw [hx.out]; simp)
      clear hl
      gi_wp2
      refine hR.mono ?_
      rintro e W3 (⟨rfl, hJ3, hk3⟩ | ⟨rfl, hJx3⟩)
      · have hK3 : Kept3 b Be Bi W W3 := hK.out.trans hk3
        have hBe3 : W3.cell? ⟨Be, 0, none⟩ = some (.slice (some ⟨b, 0, none⟩) m cap) := (World.cell?_of_block (w := W) hK3.e).trans hBe
        have hs3 : W3.cell? ⟨b, (enc x).toNat, none⟩ = some (.int .i64 m2) := (World.cell?_of_block (w := W) hK3.b).trans (hL.out _ m2 hm2)
        have hx2 : (enc x : Int) < m := by have := (List.getElem?_eq_some_iff.1 hm2).1; omega
        have hJ3 : Aside _ := hJ3
        have hx3 : xs = pre ++ [x] ++ rest := by rw [hx.out]; simp
        have hx3 : Aside _ := hx3
        clear hY hR
        gi_wp2
        go_roundw
        case rel => exact ⟨pre ++ [x], rest, m2, rfl, hx3, hl2, hJ3, hK3⟩
        case measure => simp only [Go.RowKit.intOf]; omega
      · gi_wp2
        refine bodyPost_ret (results_none rfl _ _ _) rfl ?_
        exact ⟨⟨_, rfl⟩, .inr ⟨pre ++ [x], ⟨rest, by rw [hx.out]; simp⟩, hJx3⟩⟩

/-- **kids(ends, i)**: what it was given is boxed; the function value holds the boxes. -/
theorem kids27_in (F : Fence) (n : Nat) (h27 : F.fn 27) (hro : F.round = none) (a : Option Addr) (m cap : Nat) (i : Int) (w : World) :
    CallsIn F n Tryz.prog 27 #[.slice a m cap, .int .i64 i] w fun e w' => e = .returned (.func (.func 51) #[] #[.pointer (some ⟨w.heap.size + 1, 0, none⟩), .pointer (some ⟨w.heap.size, 0, none⟩)]) ∧ w' = (w.alloc (.cells #[.slice a m cap] 39)).alloc (.cells #[.int .i64 i] 3) := by
  refine callsIn_of_wp Tryz.func27 rfl h27 ?_ hro
  simp only [Tryz.ntmps27, List.size_toArray, List.length_cons, List.length_nil, Nat.reduceAdd, Nat.reduceSub, Array.replicate_succ, Array.replicate_zero, List.push_toArray, List.append_toArray, List.nil_append, List.cons_append]
  gi_wp2
  go_ret
  exact ⟨rfl, rfl⟩

theorem kids_stops {α : Type} (enc : α → Int) (F : Fence) (n : Nat) (h51 : F.fn 51) (hro : F.round = none) (hn : 1 ≤ n) (b Be Bi : Nat) (i : Nat) (m cap : Nat) (out : List Int) (xs : List α) (stop : Int) (hm : out.length = m) (hst : out[i]? = some stop) (hb : m ≤ 2000000) (hi : i < m)
    (w : World) (hBi : w.cell? ⟨Bi, 0, none⟩ = some (.int .i64 i)) (hBe : w.cell? ⟨Be, 0, none⟩ = some (.slice (some ⟨b, 0, none⟩) m cap))
    (hL : NumsAt w b out) (hk : IsKids out stop (i + 1) (xs.map enc)) :
    SeqStopsK F n Tryz.prog 51 #[.pointer (some ⟨Bi, 0, none⟩), .pointer (some ⟨Be, 0, none⟩)] (fun x : α => #[Value.int .i64 (enc x)]) (Kept3 b Be Bi) (fun ys => ys = xs) (fun pre => pre <+: xs) xs.length w := fun l J Jx W hW _ _ hY h0 =>
  kids51_in enc F n h51 hro hn l b Be Bi i m cap out xs stop hm hst hb hi J Jx hY W ((hW.cell (p := ⟨Bi, 0, none⟩) (lt_of_cell hBi)).trans hBi) ((hW.cell (p := ⟨Be, 0, none⟩) (lt_of_cell hBe)).trans hBe)
    (fun j v hj => by have := hL j v hj; exact (hW.cell (p := ⟨b, j, none⟩) (lt_of_cell this)).trans this) hk h0
end Go.Pri
end

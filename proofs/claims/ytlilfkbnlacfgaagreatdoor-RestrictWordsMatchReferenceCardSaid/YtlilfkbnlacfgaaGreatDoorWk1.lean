/-
  The small functions that find a gap's number, walked: what they hand back, for whatever words.
-/
import Derived.Test.YtlilfkbnlacfgaaGreatDoorAbsM
import Derived.Test.YtlilfkbnlacfgaaGreatDoorProg
import Derived.Lib.SliceRun
import Derived.Shelf.Abstract
import Derived.WalkKit
import Derived.ProofKit
import Derived.Deep.LoopGhost
import Derived.Deep.Draws
namespace Go.Abs
open Go.Proofs Go.RowKit

/-! ## What is kept -/
theorem Keeps.refl (w : World) : Keeps w w := ⟨rfl, rfl, Nat.le_refl _, fun _ => rfl, fun _ _ => rfl⟩
theorem Keeps.trans {a b c : World} (h : Keeps a b) (k : Keeps b c) : Keeps a c :=
  ⟨k.os.trans h.os, k.output.trans h.output, Nat.le_trans h.size k.size, fun x => (k.frozen x).trans (h.frozen x), fun i hi => (k.heap i (Nat.lt_of_lt_of_le hi h.size)).trans (h.heap i hi)⟩
theorem Keeps.drew {a w : World} (h : Keeps a w) : Keeps a w.drew := ⟨h.os, h.output, h.size, h.frozen, h.heap⟩
theorem Keeps.alloc {a w : World} (h : Keeps a w) (c : Array Value) (t : TypeId) : Keeps a (w.alloc (.cells c t)) :=
  h.trans ⟨rfl, rfl, by show w.heap.size ≤ (w.heap.push _).size; simp, fun x => frozen?_alloc_cells w c t x, fun k hk => Below.heap_alloc w _ k hk⟩
theorem Keeps.cell {w w' : World} (h : Keeps w w') {p : Addr} (hp : p.block < w.heap.size) : w'.cell? p = w.cell? p := World.cell?_of_block (w := w) (h.heap p.block hp)
theorem Keeps.grown {W w' : World} (h : Keeps W w') : Grown W w' := by
  refine ⟨⟨h.os, h.output, fun i hi => ?_⟩, h.frozen, h.size⟩
  rw [h.heap i hi]
  cases W.heap[i]? with
  | none => rfl
  | some o => cases o <;> simp
end Go.Abs

namespace Go.W14
open Go Go.Abs Go.Proofs Go.RowKit Go.Lib
theorem lt_of_cell {w : World} {a : Addr} {v : Value} (h : w.cell? a = some v) : a.block < w.heap.size := by
  rcases Nat.lt_or_ge a.block w.heap.size with h1 | h1
  · exact h1
  · have : w.heap[a.block]? = none := by simp [h1]
    simp [World.cell?, this] at h

/-! ## The plain side -/
abbrev Wd : Type := Int × Value × Value × Value × Value
def enc (x : Wd) : List Value := [.int .i64 x.1, x.2.1, x.2.2.1, x.2.2.2.1, x.2.2.2.2]
def firstAt (at_ : Int) : List Wd → Nat
  | [] => 0
  | x :: r => if x.1 = at_ then 0 else firstAt at_ r + 1
theorem firstAt_le (at_ : Int) : ∀ zs, firstAt at_ zs ≤ zs.length
  | [] => Nat.le_refl _
  | x :: r => by
    have := firstAt_le at_ r
    simp only [firstAt, List.length_cons]; split <;> omega
theorem firstAt_hit (at_ : Int) : ∀ (zs : List Wd) (k : Nat), k < zs.length → zs[k]!.1 = at_ → (∀ j, j < k → zs[j]!.1 ≠ at_) → firstAt at_ zs = k
  | [], k, h, _, _ => absurd h (Nat.not_lt_zero _)
  | x :: r, 0, _, h, _ => by simp at h; simp [firstAt, h]
  | x :: r, k + 1, hl, h, hj => by
    have h0 := hj 0 (Nat.zero_lt_succ _)
    simp at h0
    simp only [firstAt, if_neg h0]
    rw [firstAt_hit at_ r k (by simpa using hl) (by simpa using h) (fun j hjk => by simpa using hj (j + 1) (by omega))]
theorem firstAt_miss (at_ : Int) : ∀ (zs : List Wd), (∀ j, j < zs.length → zs[j]!.1 ≠ at_) → firstAt at_ zs = zs.length
  | [], _ => rfl
  | x :: r, hj => by
    have h0 := hj 0 (by simp)
    simp at h0
    simp only [firstAt, if_neg h0, List.length_cons]
    rw [firstAt_miss at_ r (fun j hjk => by simpa using hj (j + 1) (by simpa using hjk))]
def idx (at_ : Int) (zs : List Wd) : Int := if firstAt at_ zs < zs.length then (firstAt at_ zs : Int) else -1

/-- The words lie in a row. -/
def Row (w : World) (b off : Nat) (zs : List Wd) : Prop := ∀ j, j < zs.length → ∀ i v, (enc zs[j]!)[i]? = some v → w.cell? ⟨b, off + j * 5 + i, none⟩ = some v
theorem Row.keep {w w' : World} {b off : Nat} {zs : List Wd} (h : Row w b off zs) (hk : Keeps w w') : Row w' b off zs := fun j hj i v hi => by
  have := h j hj i v hi
  rw [hk.cell (lt_of_cell this)]; exact this

theorem load_row (W : World) (a : Addr) (cs : List Value) (k : Nat) (hk : cs.length = k) (h : ∀ j v, cs[j]? = some v → W.cell? (a.add j) = some v) :
    Sem.run Tryz.prog (loadCellsFrom a 0 k #[]) W = .ok cs.toArray W := by
  have := run_loadCells_list (P := Tryz.prog) (w := W) a cs h
  rw [hk] at this
  simpa [loadCells] using this

/-- The closure: is this word's first byte there? -/
theorem is31 (at_ : Int) (B : Nat) (x : Wd) (w : World) (hcell : w.cell? ⟨B, 0, none⟩ = some (.int .i64 at_)) :
    Calls Tryz.prog 31 #[.agg (enc x).toArray, .pointer (some ⟨B, 0, none⟩)] w fun e w' => e = .returned (.bool (decide (x.1 = at_))) ∧ Keeps w w' := by
  have hB := lt_of_cell hcell
  have hne : B ≠ w.heap.size := by simp at hB; omega
  obtain ⟨x0, x1, x2, x3, x4⟩ := x
  show Calls Tryz.prog 31 #[.agg #[.int .i64 x0, x1, x2, x3, x4], .pointer (some ⟨B, 0, none⟩)] w _
  go_enter Tryz.func31, Tryz.ntmps31
  go_wp2
  have hb : (x0 == at_) = decide (x0 = at_) := by rw [Bool.eq_iff_iff]; simp
  all_goals (go_ret; exact ⟨by rw [← hb]; rfl, (Keeps.refl w).alloc _ _⟩)

set_option maxHeartbeats 2000000 in
/-- slices.IndexFunc over the words. -/
theorem at30 (at_ : Int) (B0 b off c : Nat) (zs : List Wd) (w : World) (hcell : w.cell? ⟨B0, 0, none⟩ = some (.int .i64 at_)) (hbig : zs.length ≤ 9223372036854775807) (hc : Row w b off zs) :
    Calls Tryz.prog 30 #[.slice (some ⟨b, off, none⟩) zs.length c, .func (.func 31) #[] #[.pointer (some ⟨B0, 0, none⟩)]] w fun e w' => e = .returned (.int .i64 (idx at_ zs)) ∧ Keeps w w' := by
  generalize hn : zs.length = n at hbig ⊢
  have eg : ∀ args w, (callFunc 31 args).run Tryz.prog w = .ok (.enter 31 args) w := enters_of Tryz.func31 (by kernel_rfl) rfl
  have hrow : ∀ (W : World), Keeps w W → ∀ j, j < n → W.cell? ⟨b, off + j * 5, none⟩ = some (.int .i64 zs[j]!.1) ∧ W.cell? ⟨b, off + j * 5 + 1, none⟩ = some zs[j]!.2.1 ∧
      W.cell? ⟨b, off + j * 5 + 2, none⟩ = some zs[j]!.2.2.1 ∧ W.cell? ⟨b, off + j * 5 + 3, none⟩ = some zs[j]!.2.2.2.1 ∧ W.cell? ⟨b, off + j * 5 + 4, none⟩ = some zs[j]!.2.2.2.2 := fun W hW j hj =>
    have k := hc.keep hW j (by omega)
    ⟨k 0 _ rfl, k 1 _ rfl, k 2 _ rfl, k 3 _ rfl, k 4 _ rfl⟩
  have hp : ∀ (W : World) (x : Wd), Keeps w W → Calls Tryz.prog 31 #[.agg (enc x).toArray, .pointer (some ⟨B0, 0, none⟩)] W fun e w' => e = .returned (.bool (decide (x.1 = at_))) ∧ Keeps w w' := fun W x hW =>
    (is31 at_ B0 x W (by rw [hW.cell (lt_of_cell hcell)]; exact hcell)).mono fun e w' ⟨h1, h2⟩ => ⟨h1, hW.trans h2⟩
  clear hc hcell
  go_enter Tryz.func30, Tryz.ntmps30
  go_wp2
  go_loopg [5, 8] n (fun gg _ s8 wr => ∃ kk : Nat, kk ≤ n ∧ n - kk ≤ gg ∧ s8 = .int .i64 kk ∧ Aside (Keeps w wr) ∧ Aside (∀ j, j < kk → zs[j]!.1 ≠ at_))
  case atStart => exact ⟨0, Nat.zero_le _, by omega, rfl, Keeps.refl w, fun j hj => absurd hj (Nat.not_lt_zero _)⟩
  case round =>
    obtain ⟨kk, hkk, hg, rfl, BW, A⟩ := hrel
    by_cases hlt : kk < n
    · have hltz : (kk : Int) < (n : Int) := by omega
      obtain ⟨l0, l1, l2, l3, l4⟩ := hrow wr BW.out kk (by omega)
      have hcall := hp wr zs[kk]! BW.out
      clear hrow hp
      generalize hy : zs[kk]! = y at l0 l1 l2 l3 l4 hcall
      have B : Aside (zs[kk]! = y) := hy
      clear hy
      have hcall : Calls Tryz.prog 31 #[.agg #[.int .i64 y.1, y.2.1, y.2.2.1, y.2.2.2.1, y.2.2.2.2], .pointer (some ⟨B0, 0, none⟩)] wr _ := hcall
      by_cases hq : y.1 = at_
      · simp only [hq, decide_true] at hcall
        go_wp2_with (go_at_fn 31; refine hcall.mono ?_; rintro e w' ⟨rfl, hb'⟩)
        go_ret
        refine ⟨?_, hb'⟩
        have := firstAt_hit at_ zs kk (by omega) (by rw [B.out]; exact hq) A.out
        simp only [idx, this, hn, if_pos hlt]
        rfl
      · simp only [hq, decide_false] at hcall
        go_wp2_with (go_at_fn 31; refine hcall.mono ?_; rintro e w' ⟨rfl, hb'⟩)
        go_roundg (n - (kk + 1))
        case measure => omega
        case rel =>
          refine ⟨kk + 1, by omega, by omega, by go_num, hb', (show Aside _ from fun j hj => ?_)⟩
          by_cases e : j = kk
          · subst e
            rw [B.out]; exact hq
          · exact A.out j (by omega)
    · have hltz : ¬ (kk : Int) < (n : Int) := by omega
      have : kk = n := by omega
      subst this
      go_wp2
      go_ret
      refine ⟨?_, BW.out⟩
      have := firstAt_miss at_ zs (fun j hj => A.out j (by omega))
      simp only [idx, this, Nat.lt_irrefl, if_false]
      rfl

end Go.W14

/-
  PriorityOperators: parts of its proof (Sa1).
-/
import Derived.Test.YtfadmmecedicjaaGreatDoorK25
import Derived.Test.YtfadmmecedicjaaGreatDoorK34
import Derived.Test.YtfadmmecedicjaaGreatDoorK37
import Derived.Test.YtfadmmecedicjaaGreatDoorK38
set_option linter.unusedVariables false
set_option linter.unusedSimpArgs false

section
/-
  The sanity check: walked.
-/
namespace Go.Pri
open Go Go.Abs Go.Proofs Go.RowKit Go.Lib
set_option maxRecDepth 100000
set_option maxHeartbeats 4000000

theorem gram_sane (w : World) (htab : TabAt w) : Calls Tryz.prog 5 #[.agg #[.int .u8 1, .int .u8 1, .int .u8 0, .int .u8 0, .int .u8 0, .int .u8 0, .int .u8 0, .int .u8 0]] w fun e w' => ∃ a0 k0 a3 k3 a4 n4 k4 a5 n5 k5 a7 n7 k7,
    e = .returned (.agg #[.slice a0 2 k0, .slice none 0 0, .int .i64 1, .slice a3 11 k3, .slice a4 n4 k4, .slice a5 n5 k5, .int .i64 0, .slice a7 n7 k7, .slice none 0 0]) ∧ Old w w' ∧ Valid w' (.agg #[.slice a0 2 k0, .slice none 0 0, .int .i64 1, .slice a3 11 k3, .slice a4 n4 k4, .slice a5 n5 k5, .int .i64 0, .slice a7 n7 k7, .slice none 0 0]) ∧ ConfAt w' (.agg #[.slice a0 2 k0, .slice none 0 0, .int .i64 1, .slice a3 11 k3, .slice a4 n4 k4, .slice a5 n5 k5, .int .i64 0, .slice a7 n7 k7, .slice none 0 0]) F4 ∧ GramAt w' (.slice a3 11 k3) (.slice a5 n5 k5) 11 (psOf 2) := by
  refine Calls.mono (grammar5 1 1 0 0 0 0 0 0 w (by decide) (fun i => by unfold lvN; split <;> decide) (fun k => by unfold asN; split <;> decide) htab) ?_
  rintro e w3 ⟨gv, rfl, hk3, hG3⟩
  have e2 : ((1 : Int) + 1 % 4).toNat = 2 := by decide
  rw [e2, sane_lv] at hG3
  obtain ⟨hlv, a0, k0, c3, c4, c5, c7, rfl, hV3, hC3, hG3, ⟨a4, n4, k4, rfl⟩, ⟨a7, n7, k7, rfl⟩⟩ := hG3
  obtain ⟨a3, k3, rfl⟩ : ∃ a3 k3, c3 = .slice a3 11 k3 := (by obtain ⟨ts, h1, h2, _⟩ := hG3.toks; obtain ⟨a, c, h⟩ := h1.form; exact ⟨a, c, by rw [h, h2]⟩)
  obtain ⟨a5, n5, k5, rfl⟩ : ∃ a5 n5 k5, c5 = .slice a5 n5 k5 := (by obtain ⟨ts, h1, _⟩ := hG3.prods; obtain ⟨a, c, h⟩ := h1.form; exact ⟨a, _, c, h⟩)
  exact ⟨a0, k0, a3, k3, a4, n4, k4, a5, n5, k5, a7, n7, k7, rfl, hk3, hV3, by rw [← sane_rules, sane_lv]; exact hC3, hG3⟩

theorem rows_sane (w : World) : opsAt (w.alloc (.cells #[.int .i64 0, .int .i64 1] 3)) (.slice (some ⟨w.heap.size, 0, none⟩) 2 2) [0, 1] :=
  own_ints (V := [0, 1]) (World.ownsRow_lit (base := w.heap.size) (e := 3) (size := 1) w #[.int .i64 0, .int .i64 1] 2 (Nat.le_refl _) (by decide) rfl)
theorem trees_sane (w : World) : Calls Tryz.prog 8 #[.slice (some ⟨w.heap.size, 0, none⟩) 2 2, .int .i64 0, .int .i64 2] (w.alloc (.cells #[.int .i64 0, .int .i64 1] 3)) fun e w' => ∃ b cap, e = .returned (.slice (some ⟨b, 0, none⟩) 2 cap) ∧ Old (w.alloc (.cells #[.int .i64 0, .int .i64 1] 3)) w' ∧ b < w'.heap.size ∧
    ∃ b0 c0 b1 c1, SliceAt 4 w' (.slice (some ⟨b0, 0, none⟩) 10 c0) ((A0.nodes [0, 1] 0 2).map encN) ∧ SliceAt 4 w' (.slice (some ⟨b1, 0, none⟩) 10 c1) ((A1.nodes [0, 1] 0 2).map encN) ∧
      ∀ X : World, X.heap[b]? = w'.heap[b]? → X.cell? ⟨b, 0, none⟩ = some (.slice (some ⟨b0, 0, none⟩) 10 c0) ∧ X.cell? ⟨b, 1, none⟩ = some (.slice (some ⟨b1, 0, none⟩) 10 c1) := by
  refine Calls.mono (trees8 (.slice (some ⟨w.heap.size, 0, none⟩) 2 2) [0, 1] (by decide) (by decide) 5 0 2 _ (by simp) (by omega) (by omega) (by omega) (by decide) (rows_sane w)) ?_
  rintro e w5 ⟨v, b, rfl, hk, hTs, _⟩
  rw [show (2 : Nat) - 0 = 2 from rfl, sane_trees] at hTs
  obtain ⟨b0, c0, hT0, hc0⟩ := TreesIn.cell hTs (i := 0) rfl
  obtain ⟨b1, c1, hT1, hc1⟩ := TreesIn.cell hTs (i := 1) rfl
  obtain ⟨cap, cur, _, hv, hcur, _⟩ := hTs
  subst hv
  exact ⟨b, cap, rfl, hk, (Array.getElem?_eq_some_iff.1 hcur).1, b0, c0, b1, c1, hT0.slice, hT1.slice, fun X hX => ⟨hc0 X hX, hc1 X hX⟩⟩

theorem viol_sane (a0 : Option Addr) (k0 : Nat) (c3 c4 c5 c7 c8 tv : Value) (T : ET) (V : List (Nat × Int)) (w : World) (htab : TabAt w) (hs : SliceAt 4 w tv ((T.nodes [0, 1] 0 2).map encN)) (hg : GramAt w c3 c5 11 (psOf 2))
    (hv : Valid w (.agg #[.slice a0 2 k0, .slice none 0 0, .int .i64 1, c3, c4, c5, .int .i64 0, c7, c8])) (hf : ConfAt w (.agg #[.slice a0 2 k0, .slice none 0 0, .int .i64 1, c3, c4, c5, .int .i64 0, c7, c8]) F4)
    (hT : T = A0 ∨ T = A1) (hV : violTo (T.nodes [0, 1] 0 2) (kidsK (psOf 2) (T.nodes [0, 1] 0 2)) F4 (T.nodes [0, 1] 0 2).length = V) :
    (Calls Tryz.prog 12 #[.agg #[.slice a0 2 k0, .slice none 0 0, .int .i64 1, c3, c4, c5, .int .i64 0, c7, c8], .int .u64 0, tv] w fun e w' => ∃ v, e = .returned (.tuple #[v, .int .i64 0]) ∧ SliceAt 3 w' v (V.map encV) ∧ Old w w') ∧
    (Calls Tryz.prog 10 #[.agg #[.slice a0 2 k0, .slice none 0 0, .int .i64 1, c3, c4, c5, .int .i64 0, c7, c8], .int .u64 0, tv] w fun e w' => e = .returned (.bool (decide (V.length = 0))) ∧ Old w w') := by
  obtain ⟨gt, flag, hp⟩ := sane_pack
  have hp := hp (T.nodes [0, 1] 0 2) (by rcases hT with rfl | rfl <;> simp)
  obtain ⟨out, _, _, _, htk, _⟩ := hp.tree
  have h12 := viol12 a0 k0 c3 c4 c5 c7 c8 tv 0 11 (psOf 2) (T.nodes [0, 1] 0 2) out F4 0 w (.inl rfl) htab hs hg htk hv hp.kids hp.wf hp.few hf (by decide) (by decide)
  have h10 := survives10 a0 k0 c3 c4 c5 c7 c8 tv 0 11 (psOf 2) (T.nodes [0, 1] 0 2) out F4 0 w (.inl rfl) htab hs hg htk hv hp.kids hp.wf hp.few hf (by decide) (by decide)
  rw [hV] at h10
  change Calls _ _ _ _ (fun e w' => ∃ v, e = .returned (.tuple #[v, .int .i64 0]) ∧ SliceAt 3 w' v ((violTo (T.nodes [0, 1] 0 2) (kidsK (psOf 2) (T.nodes [0, 1] 0 2)) F4 (T.nodes [0, 1] 0 2).length).map encV) ∧ Old w w') at h12
  rw [hV] at h12
  exact ⟨h12, h10⟩
theorem spine_sane (a0 : Option Addr) (k0 : Nat) (c3 c4 c5 c7 c8 tv : Value) (w : World) (hs : SliceAt 4 w tv ((A0.nodes [0, 1] 0 2).map encN)) (hg : GramAt w c3 c5 11 (psOf 2))
    (hv : Valid w (.agg #[.slice a0 2 k0, .slice none 0 0, .int .i64 1, c3, c4, c5, .int .i64 0, c7, c8])) :
    Calls Tryz.prog 13 #[.agg #[.slice a0 2 k0, .slice none 0 0, .int .i64 1, c3, c4, c5, .int .i64 0, c7, c8], tv, .int .i64 0] w fun e w' => ∃ a c, e = .returned (.slice a 3 c) ∧ Old w w' :=
  spine13 a0 k0 c3 c4 c5 (.int .i64 0) c7 c8 tv 11 (psOf 2) (A0.nodes [0, 1] 0 2) (A0.outs 0) 10 [1, 3, 4] 3 w hv hg sane_tree0.sh hs rfl rfl sane_isKids (by decide) (by rw [sane_kids0]; rfl) (by rw [sane_kids0]; decide) (by decide) sane_spine
end Go.Pri
end

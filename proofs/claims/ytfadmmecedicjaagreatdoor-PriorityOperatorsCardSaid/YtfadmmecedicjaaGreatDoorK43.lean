/-
  PriorityOperators: parts of its proof (Fpo).
-/
import Derived.Test.YtfadmmecedicjaaGreatDoorCards
import Derived.Test.YtfadmmecedicjaaGreatDoorTie
import Derived.WalkKit
import Derived.ProofKit
import Derived.OpenShut
import Derived.Deep.Slices
import Derived.Deep.DeepHandedRow
import Derived.Lib.SmallJoins
import Derived.Lib.LaidTab
import Derived.Laws.IdiomArrays
import Derived.Deep.Strs
import Derived.Test.YtfadmmecedicjaaGreatDoorK07
import Derived.Test.YtfadmmecedicjaaGreatDoorK42
set_option linter.unusedVariables false
set_option linter.unusedSimpArgs false

section
/-
  PriorityOperators, its tied card: for all operators and all expressions the call returns true and leaves its arguments as they read; the table math/bits.deBruijn64tab starts as the program's text lays it.
-/
namespace Go.Proofs.YtfadmmecedicjaaGreatDoor.ops
open Go.ChangeShapes Go.WideShapes Go.ChangeAt Go.RowKit Go.Joins Go.Abs Go.Pri

theorem own : ownKnob Tryz.prog.godebug = none := by kernel_rfl
theorem laidOut : laidOutB Tryz.prog = true := by kernel_rfl
theorem gTab : Tryz.prog.globalNamed "math/bits.deBruijn64tab" = some 0 := by kernel_rfl
theorem gTabType : (Tryz.prog.globals[0]?).map (·.type) = some 260 := by kernel_rfl
theorem cellsTab : Tryz.prog.cellsOf 260 = 64 := by kernel_rfl
theorem cells5 : Tryz.prog.cellsOf 5 = 1 := by kernel_rfl
theorem cells22 : Tryz.prog.cellsOf 22 = 4 := by kernel_rfl
theorem cells23 : Tryz.prog.cellsOf 23 = 3 := by kernel_rfl
theorem cells25 : Tryz.prog.cellsOf 25 = 8 := by kernel_rfl

theorem readable : ∀ t ∈ Tryz.f3.params.toList, Tryz.prog.readableRec t = true ∧ t < Tryz.prog.types.size := by
  rw [Tryz.params3]
  intro t ht
  have ht : t ∈ [25, 26] := ht
  simp only [List.mem_cons, List.not_mem_nil, or_false] at ht
  rcases ht with rfl | rfl
  all_goals exact ⟨by kernel_rfl, of_decide_eq_true (by kernel_rfl)⟩
def tabInts : List Int := [0,1,56,2,57,49,28,3,61,58,42,50,38,29,17,4,62,47,59,36,45,43,51,22,53,39,33,30,24,18,12,5,63,55,48,27,60,41,37,16,46,35,44,21,52,32,23,11,54,26,40,15,34,20,31,10,25,14,19,9,13,8,7,6]

/-- WHAT THE ROW's LIST GIVES: the table's cells hold its numbers. -/
theorem table_at {W : World} (h : laidMetH Tryz.prog Rows.priorityOperatorsRow.laid W) : TabAt W := by
  have ht : Lib.TabIs Tryz.prog W "math/bits.deBruijn64tab" .u8 tabInts := Lib.tabIs_of_head (rest := []) gTab gTabType Tryz.underlying260 Tryz.underlying5 cells5 cellsTab h
  unfold Lib.TabIs World.var? at ht
  rw [gTab] at ht
  simp only [Option.bind_some] at ht
  split at ht
  · rename_i cs el fz hg
    refine ⟨el, fz, ?_⟩
    rw [hg]
    obtain rfl := Option.some.inj ht
    rfl
  · cases ht

theorem u8_range {z : Int} (h : (Lit.int .u8 z).wf = true) : 0 ≤ z ∧ z ≤ 255 := by
  simp only [Lit.wf, Bool.and_eq_true, decide_eq_true_eq] at h
  have h1 : IntKind.u8.min = 0 := rfl
  have h2 : IntKind.u8.max = 255 := rfl
  omega

section
variable {H : Type} {enc : TypeId × Value → H}

/-- A byte, off its reading. -/
theorem byte_of {W : World} {n : Nat} {c : Value} {y : DataW H × List MemPlace} (h : DataW.trod enc Tryz.prog W 0 (fun _ => true) true n 5 [c] = some y) : ∃ z, c = .int .u8 z ∧ 0 ≤ z ∧ z ≤ 255 := by
  obtain ⟨z, e, _, hw⟩ := DataW.trod_int Tryz.underlying5 h
  exact ⟨z, List.singleton_inj.1 e, u8_range hw⟩

/-- The bytes of the expression, off its reading. -/
theorem bytes_of {W : World} {n : Nat} {v : Value} {y : DataW H × List MemPlace} (h : DataW.trod enc Tryz.prog W 0 (fun _ => true) true n 26 [v] = some y) : ∃ bs : List Int, SliceAt 1 W v (bs.map fun b => [.int .u8 b]) ∧ ∀ b ∈ bs, 0 ≤ b ∧ b ≤ 255 := by
  rcases Deep.open_slice1 Tryz.underlying26 cells5 h with ⟨h1, _⟩ | ⟨a, len, cap, m, k, V, D, Pl, h1, _, hl, _, hm, _, hel⟩
  · obtain rfl : v = _ := List.singleton_inj.1 h1
    exact ⟨[], .inl ⟨rfl, none, 0, rfl⟩, fun b hb => by cases hb⟩
  · obtain rfl : v = _ := List.singleton_inj.1 h1
    simp only [if_true] at hm
    subst hm
    have each : ∀ i, i < len → ∃ z : Int, W.cell? (a.add i) = some (.int .u8 z) ∧ 0 ≤ z ∧ z ≤ 255 := fun i hi => by
      obtain ⟨hc, ht⟩ := hel i (by omega)
      obtain ⟨z, e, hz⟩ := byte_of ht
      exact ⟨z, by rw [hc, e], hz⟩
    obtain ⟨f, hf⟩ := Deep.choose_lt each
    refine ⟨(List.range len).map f, ?_, fun b hb => ?_⟩
    · rcases Nat.eq_zero_or_pos len with rfl | hpos
      · exact .inl ⟨rfl, _, _, rfl⟩
      · have h0 := (hf 0 hpos).1
        obtain ⟨b, off, sp⟩ := a
        obtain rfl : sp = none := by
          simp only [World.cell?, Addr.add, if_true] at h0
          split at h0
          · cases sp with
            | none => rfl
            | some s => simp at h0
          · cases h0
        refine .inr ⟨b, off, m, by simp, by simpa using hl, fun j c hj i u hu => ?_⟩
        have hjl : j < len := by
          have := (List.getElem?_eq_some_iff.1 hj).1
          simpa using this
        have hc : c = [.int .u8 (f j)] := by
          simp [hjl] at hj
          exact hj.symm
        subst hc
        match i, hu with
        | 0, hu =>
          simp only [List.getElem?_cons_zero, Option.some.injEq] at hu
          subst hu
          have := (hf j hjl).1
          rw [Addr.add_lit] at this
          simpa using this
        | i + 1, hu => simp at hu
    · obtain ⟨i, hi, rfl⟩ := List.mem_map.1 hb
      exact (hf i (List.mem_range.1 hi)).2

set_option maxRecDepth 100000 in
/-- The operators, off their reading. -/
theorem ops_of {W : World} {base : Nat} {v : Value} {d : DataW H} {p : List MemPlace} (hv : Value.okWide Tryz.prog W .any base 25 v) (h : DataW.Trod enc Tryz.prog W 0 (fun _ => true) true 25 v d p) :
    ∃ m l0 l1 l2 l3 s0 s1 s2 : Int, v = .agg #[.int .u8 m, .int .u8 l0, .int .u8 l1, .int .u8 l2, .int .u8 l3, .int .u8 s0, .int .u8 s1, .int .u8 s2] ∧ (0 ≤ m ∧ m ≤ 255) ∧ (∀ i, 0 ≤ lvN l0 l1 l2 l3 i ∧ lvN l0 l1 l2 l3 i ≤ 255) ∧ (∀ k, 0 ≤ asN s0 s1 s2 k ∧ asN s0 s1 s2 k ≤ 255) := by
  obtain ⟨cs, rfl, hsz⟩ := okWide_struct Tryz.underlying25 hv
  rw [cells25] at hsz
  obtain ⟨ls⟩ := cs
  obtain ⟨c0, c1, c2, c3, c4, c5, c6, c7, rfl⟩ : ∃ c0 c1 c2 c3 c4 c5 c6 c7, ls = [c0, c1, c2, c3, c4, c5, c6, c7] := by
    match ls, hsz with
    | [c0, c1, c2, c3, c4, c5, c6, c7], _ => exact ⟨_, _, _, _, _, _, _, _, rfl⟩
  obtain ⟨fuel, hf⟩ := h
  obtain ⟨y0, y1, y2, n, _, _, h0, h1, h2⟩ := Deep.trod_struct3 Tryz.underlying25 hf
  simp only [cells5, cells22, cells23, Value.cells] at h0 h1 h2
  have h0 : DataW.trod enc Tryz.prog W 0 (fun _ => true) true n 5 [c0] = some y0 := h0
  have h1 : DataW.trod enc Tryz.prog W 0 (fun _ => true) true n 22 [c1, c2, c3, c4] = some y1 := h1
  have h2 : DataW.trod enc Tryz.prog W 0 (fun _ => true) true n 23 [c5, c6, c7] = some y2 := h2
  obtain ⟨_, _, _, _, _, _, a1, a2, a3, a4⟩ := trod_array4 Tryz.underlying22 cells5 h1
  obtain ⟨_, _, _, _, _, b1, b2, b3⟩ := trod_array3 Tryz.underlying23 cells5 h2
  obtain ⟨m, rfl, r0⟩ := byte_of h0
  obtain ⟨l0, rfl, r1⟩ := byte_of a1
  obtain ⟨l1, rfl, r2⟩ := byte_of a2
  obtain ⟨l2, rfl, r3⟩ := byte_of a3
  obtain ⟨l3, rfl, r4⟩ := byte_of a4
  obtain ⟨s0, rfl, r5⟩ := byte_of b1
  obtain ⟨s1, rfl, r6⟩ := byte_of b2
  obtain ⟨s2, rfl, r7⟩ := byte_of b3
  refine ⟨m, l0, l1, l2, l3, s0, s1, s2, rfl, r0, fun i => ?_, fun k => ?_⟩
  · unfold lvN
    split <;> assumption
  · unfold asN
    split <;> assumption

set_option maxRecDepth 100000 in
/-- WHAT THE WALK GIVES, FOR EVERY ARGUMENT AND EVERY WORLD THAT HOLDS THE TABLE. -/
theorem contract (enc : TypeId × Value → H) (W : World) (base : Nat) (args : Array Value) (ds gs : List (DataW H)) (before : List MemPlace)
    (hval : ∀ (j : Nat) t v, Tryz.f3.params[j]? = some t → args[j]? = some v → Value.okWide Tryz.prog W .any base t v)
    (hW : DataW.Whole enc Tryz.prog Tryz.f3.params.toList Rows.priorityOperatorsSpec.vars false W args.toList ds gs before) (hL : laidMetH Tryz.prog Rows.priorityOperatorsRow.laid W) :
    Calls Tryz.prog 3 args W fun e W' => ∃ v, e = .returned v ∧ Rows.priorityOperatorsSpec.post enc Tryz.prog Tryz.f3 false true false false W args v W' := by
  have hW' := hW
  obtain ⟨p, q, hA0, hV, rfl, hfz, hnd⟩ := hW
  have hA : DataW.TrodAll enc Tryz.prog W 0 (fun _ => true) true Tryz.f3.params.toList args.toList ds p := hA0
  rw [Tryz.params3] at hA hval
  obtain ⟨v0, vs0, d0, ds0, p0, q0, hargs, rfl, rfl, h0, r0⟩ := trodAll_cons hA
  obtain ⟨v1, vs1, d1, ds1, p1, q1, rfl, rfl, rfl, h1, r1⟩ := trodAll_cons r0
  obtain ⟨rfl, rfl, rfl⟩ := trodAll_nil r1
  obtain rfl : args = #[v0, v1] := by cases args; simp_all
  obtain ⟨rfl, rfl⟩ := trodVars_none hV
  have w0 := hval 0 25 v0 rfl rfl
  have w1 := hval 1 26 v1 rfl rfl
  clear hval
  obtain ⟨m, l0, l1, l2, l3, s0, s1, s2, rfl, hm, hL4, hS3⟩ := ops_of w0 h0
  obtain ⟨fuel, hf⟩ := h1
  have hb : ∃ bs : List Int, SliceAt 1 W v1 (bs.map fun b => [.int .u8 b]) ∧ ∀ b ∈ bs, 0 ≤ b ∧ b ≤ 255 := by
    obtain ⟨a, len, cap, rfl⟩ := okWide_slice Tryz.underlying26 w1
    exact bytes_of hf
  obtain ⟨bs, hbs, hbr⟩ := hb
  refine (law m l0 l1 l2 l3 s0 s1 s2 bs v1 W hm hL4 hS3 (table_at hL) hbs hbr).mono fun e W' ⟨he, hk⟩ => ?_
  subst he
  exact ⟨_, rfl, post_law (tb := 4) hW' rfl rfl rfl rfl laidOut readable (by kernel_rfl) Tryz.underlying4 hk.keeps⟩
end

/-- A WORLD FOR THE WITNESS: the settled one, the table (block 0) holding what its initialiser lays. -/
noncomputable def laidWorld (os : Os) : World :=
  { World.holding Tryz.prog os ⟨#[], #[], []⟩ with heap := (World.holding Tryz.prog os ⟨#[], #[], []⟩).heap.modify 0 fun
      | .cells _ t frozen => .cells (tabInts.map fun z => Value.int .u8 z).toArray t frozen
      | o => o }
def wArgs : Array Value := #[.agg #[.int .u8 0, .int .u8 0, .int .u8 0, .int .u8 0, .int .u8 0, .int .u8 0, .int .u8 0, .int .u8 0], .slice none 0 0]
def wData {H : Type} : List (DataW H) := [.agg [.lit (.int .u8 0), .agg [.lit (.int .u8 0), .lit (.int .u8 0), .lit (.int .u8 0), .lit (.int .u8 0)], .agg [.lit (.int .u8 0), .lit (.int .u8 0), .lit (.int .u8 0)]], .nil]
theorem laid_met (os : Os) : laidMet Tryz.prog Rows.priorityOperatorsRow.laid ((laidWorld os).forCall (fun _ _ => 0) ⟨#[], wArgs, []⟩).memory :=
  laidMet_of_run' 8 (by kernel_rfl) (by kernel_rfl)
theorem reads (os : Os) {H : Type} (enc : TypeId × Value → H) : ∃ places, DataW.whole enc Tryz.prog ((laidWorld os).forCall (fun _ _ => 0) ⟨#[], wArgs, []⟩).memory Tryz.f3.params.toList Rows.priorityOperatorsSpec.vars false wArgs.toList 8 = some (wData, [], places) :=
  ⟨[], by kernel_rfl⟩

set_option maxRecDepth 100000 in
/-- THE FIRST FORM's STEP. -/
theorem lifted (os : Os) (started : os.Started) (H : Type) (enc : TypeId × Value → H) (F : Stop.Interp) :
    ReturnsInHanded {} Tryz.checked os 3 .any ((OpenSpec.ofChange Rows.priorityOperatorsSpec).preRow enc Tryz.prog Tryz.f3 Rows.priorityOperatorsRow.domain false Rows.priorityOperatorsRow.laid) (((OpenSpec.ofChange Rows.priorityOperatorsSpec).at F).post enc Tryz.prog Tryz.f3 false true false false) := by
  obtain ⟨places, hx⟩ := reads os enc
  refine returnsInHanded_of_row (C := Tryz.checked) (s := OpenSpec.ofChange Rows.priorityOperatorsSpec) own started (by kernel_rfl) Tryz.func3
    (witness_row_at (enc := enc) (C := Tryz.checked) false (laidWorld os) wArgs rfl (by kernel_rfl) (by kernel_rfl) (by kernel_rfl)
      (OpenSpec.preRow_of_cond 8 hx (by kernel_rfl) (fun k hk => by cases hk) (by kernel_rfl) (laid_met os))) ?_
  intro W base args ds gs before hval hW _ _ _ hL _ _
  exact contract enc W base args ds gs before hval hW hL

theorem said : Rows.PriorityOperatorsSaid :=
  OpenClaim.holds_of_cond 3 Tryz.f3 rfl rfl rfl rfl rfl rfl rfl ⟨rfl, rfl, rfl, rfl, rfl⟩ rfl rfl rfl rfl rfl (by kernel_rfl) Tryz.func3 (by kernel_rfl)
    (of_decide_eq_true (by kernel_rfl)) (by unfold Func.isWrapper; first | (rw [if_pos (by decide +kernel)]; kernel_rfl) | (rw [if_neg (by decide +kernel)]; exact ⟨rfl, rfl⟩))
    (fun os started H enc _ F => by rw [OpenClaim.pre_eq_preRow]; exact lifted os started H enc F)

/-- No parameter wants a stand-in; the program's own looks are off: what the card asks. -/
theorem plain (f : FuncId) (fn : Func) (hf : Tryz.pinned.checked.prog.funcNamed "koine/koinelaw13.PriorityOperators" = some f) (hfn : Tryz.pinned.checked.prog.funcs[f]? = some fn) :
    true = Tryz.pinned.checked.prog.looks [] ∧ ∀ (j : Nat) t, fn.params[j]? = some t → Tryz.pinned.checked.prog.wantsStandIn t = false := by
  obtain rfl : f = 3 := Option.some.inj ((show Tryz.prog.funcNamed "koine/koinelaw13.PriorityOperators" = some 3 by kernel_rfl).symm.trans hf) |>.symm
  obtain rfl : fn = Tryz.f3 := (Option.some.inj (Tryz.func3.symm.trans hfn)).symm
  refine ⟨by kernel_rfl, fun j t ht => ?_⟩
  rw [Tryz.params3] at ht
  have hm : t ∈ [25, 26] := by simpa using Array.mem_of_getElem? ht
  simp only [List.mem_cons, List.not_mem_nil, or_false] at hm
  rcases hm with rfl | rfl
  · exact (show Tryz.prog.wantsStandIn 25 = false by kernel_rfl)
  · exact (show Tryz.prog.wantsStandIn 26 = false by kernel_rfl)

/-- THE CARD. -/
theorem card : Rows.PriorityOperatorsCardSaid :=
  Claim7.holds_tied_plain_at .later [] _ _ _ _ said (fun _ h => by cases h) (by kernel_rfl) (fun _ h => by cases h) priorityOperators_row_tie rfl ⟨rfl, rfl⟩ (by kernel_rfl) rfl plain (by kernel_rfl)
#print axioms card
end Go.Proofs.YtfadmmecedicjaaGreatDoor.ops
end

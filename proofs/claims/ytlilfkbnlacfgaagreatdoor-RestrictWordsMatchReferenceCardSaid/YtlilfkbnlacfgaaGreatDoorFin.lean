/-
  RestrictWordsMatchReference, its tied card: for every plain text and all offsets the call returns true and leaves its arguments as they read; the table math/bits.deBruijn64tab starts as the program's text lays it.
-/
import Derived.Test.YtlilfkbnlacfgaaGreatDoorWk4
import Derived.Test.YtlilfkbnlacfgaaGreatDoorClose
import Derived.Test.YtlilfkbnlacfgaaGreatDoorCards
import Derived.Test.YtlilfkbnlacfgaaGreatDoorTie
import Derived.WalkKit
import Derived.ProofKit
import Derived.OpenShut
import Derived.Deep.Slices
import Derived.Deep.DeepHandedRow
import Derived.Lib.SmallJoins
import Derived.Lib.LaidTab
namespace Go.Proofs.YtlilfkbnlacfgaaGreatDoor.words
open Go.ChangeShapes Go.WideShapes Go.ChangeAt Go.RowKit Go.Joins Go.Abs Go.W14

theorem own : ownKnob Tryz.prog.godebug = none := by kernel_rfl
theorem laidOut : laidOutB Tryz.prog = true := by kernel_rfl
theorem gTab : Tryz.prog.globalNamed "math/bits.deBruijn64tab" = some 0 := by kernel_rfl
theorem gTabType : (Tryz.prog.globals[0]?).map (·.type) = some 263 := by kernel_rfl
theorem cells263 : Tryz.prog.cellsOf 263 = 64 := by kernel_rfl
theorem cells5 : Tryz.prog.cellsOf 5 = 1 := by kernel_rfl
theorem cells24 : Tryz.prog.cellsOf 24 = 4 := by kernel_rfl
theorem cells47 : Tryz.prog.cellsOf 47 = 5 := by kernel_rfl
theorem cells3 : Tryz.prog.cellsOf 3 = 1 := by kernel_rfl

theorem readable : ∀ t ∈ Tryz.f3.params.toList, Tryz.prog.readableRec t = true ∧ t < Tryz.prog.types.size := by
  rw [Tryz.params3]
  intro t ht
  have ht : t ∈ [24, 3, 3] := ht
  simp only [List.mem_cons, List.not_mem_nil, or_false] at ht
  rcases ht with rfl | rfl | rfl
  all_goals exact ⟨by kernel_rfl, of_decide_eq_true (by kernel_rfl)⟩
def tabInts : List Int := [0,1,56,2,57,49,28,3,61,58,42,50,38,29,17,4,62,47,59,36,45,43,51,22,53,39,33,30,24,18,12,5,63,55,48,27,60,41,37,16,46,35,44,21,52,32,23,11,54,26,40,15,34,20,31,10,25,14,19,9,13,8,7,6]

/-- WHAT THE ROW's LIST GIVES: the table's cells hold its numbers. -/
theorem table_at {W : World} (h : laidMetH Tryz.prog Rows.restrictWordsMatchReferenceRow.laid W) : ∃ (el : TypeId) (fz : Nat × Nat), W.heap[0]? = some (.cells table.toArray el fz) := by
  have ht : Lib.TabIs Tryz.prog W "math/bits.deBruijn64tab" .u8 tabInts := Lib.tabIs_of_head (rest := []) gTab gTabType Tryz.underlying263 Tryz.underlying5 cells5 cells263 h
  unfold Lib.TabIs World.var? at ht
  rw [gTab] at ht
  simp only [Option.bind_some] at ht
  split at ht
  · rename_i cs el fz hg
    refine ⟨el, fz, ?_⟩
    rw [hg]
    obtain rfl := Option.some.inj ht
    rfl
  · cases ht

section
variable {H : Type} {enc : TypeId × Value → H}

/-- The words of a plain text, off its reading. -/
theorem words_of {W : World} {n : Nat} {v : Value} {y : DataW H × List MemPlace} (h : DataW.trod enc Tryz.prog W 0 (fun _ => true) true n 22 [v] = some y) : ∃ zs, WordsAt W v zs := by
  rcases Deep.open_slice Tryz.underlying22 h with ⟨h1, _⟩ | ⟨a, len, cap, m, k, D, Pl, h1, _, hl, _, hm, _, hel⟩
  · obtain rfl : v = _ := List.singleton_inj.1 h1
    exact ⟨[], .inl ⟨rfl, none, 0, rfl⟩⟩
  · obtain rfl : v = _ := List.singleton_inj.1 h1
    simp only [if_true] at hm
    subst hm
    rw [cells47] at hel
    have each : ∀ i, i < len → ∃ x : Wd, ∀ j u, (Go.W14.enc x)[j]? = some u → W.cell? ((a.add (i * 5)).add j) = some u := fun i hi => by
      obtain ⟨cs', hc, ht⟩ := hel i (by omega)
      obtain ⟨_, h5, hget⟩ := World.cells?_some hc
      obtain ⟨c0, c1, c2, c3, c4, rfl⟩ : ∃ c0 c1 c2 c3 c4, cs' = [c0, c1, c2, c3, c4] := by
        match cs', h5 with
        | [c0, c1, c2, c3, c4], _ => exact ⟨_, _, _, _, _, rfl⟩
      obtain ⟨xs, n', _, _, _, hxs, hf⟩ := DataW.trod_struct Tryz.underlying47 ht
      have h0 : DataW.trod enc Tryz.prog W 0 (fun _ => true) true n' 3 (([c0, c1, c2, c3, c4].drop 0).take (Tryz.prog.cellsOf 3)) = xs[0]? := hf 0 _ rfl
      rw [cells3] at h0
      obtain ⟨y0, hy0⟩ : ∃ y0, xs[0]? = some y0 := by
        have : 0 < xs.length := by rw [hxs]; decide
        exact ⟨_, List.getElem?_eq_getElem this⟩
      rw [hy0] at h0
      obtain ⟨F, e0, _, _⟩ := DataW.trod_int Tryz.underlying3 h0
      simp at e0
      subst e0
      refine ⟨(F, c1, c2, c3, c4), fun j u hj => ?_⟩
      have hj5 : j < 5 := by
        have := (List.getElem?_eq_some_iff.1 hj).1
        simpa [Go.W14.enc] using this
      rw [hget j hj5]
      exact hj
    obtain ⟨f, hf⟩ := Deep.choose_lt each
    refine ⟨(List.range len).map f, ?_⟩
    rcases Nat.eq_zero_or_pos len with rfl | hpos
    · exact .inl ⟨rfl, _, _, rfl⟩
    · have h0 := hf 0 hpos 0 _ rfl
      obtain ⟨b, off, sp⟩ := a
      obtain rfl : sp = none := by
        simp only [World.cell?, Addr.add, Nat.zero_mul, if_true] at h0
        split at h0
        · cases sp with
          | none => rfl
          | some s => simp at h0
        · cases h0
      refine .inr ⟨b, off, m, by simp, fun j hj i u hu => ?_⟩
      have hj : j < len := by simpa using hj
      have e : ((List.range len).map f)[j]! = f j := by simp [hj]
      rw [e] at hu
      have := hf j hj i u hu
      rwa [Addr.add_lit, Addr.add_lit] at this

set_option maxRecDepth 100000 in
/-- WHAT THE WALK GIVES, FOR EVERY ARGUMENT AND EVERY WORLD THAT HOLDS THE TABLE. -/
theorem contract (enc : TypeId × Value → H) (W : World) (base : Nat) (args : Array Value) (ds gs : List (DataW H)) (before : List MemPlace)
    (hval : ∀ (j : Nat) t v, Tryz.f3.params[j]? = some t → args[j]? = some v → Value.okWide Tryz.prog W .any base t v)
    (hW : DataW.Whole enc Tryz.prog Tryz.f3.params.toList Rows.restrictWordsMatchReferenceSpec.vars false W args.toList ds gs before) (hL : laidMetH Tryz.prog Rows.restrictWordsMatchReferenceRow.laid W) :
    Calls Tryz.prog 3 args W fun e W' => ∃ v, e = .returned v ∧ Rows.restrictWordsMatchReferenceSpec.post enc Tryz.prog Tryz.f3 false true false false W args v W' := by
  have hW' := hW
  obtain ⟨p, q, hA0, hV, rfl, hfz, hnd⟩ := hW
  have hA : DataW.TrodAll enc Tryz.prog W 0 (fun _ => true) true Tryz.f3.params.toList args.toList ds p := hA0
  rw [Tryz.params3] at hA hval
  obtain ⟨v0, vs0, d0, ds0, p0, q0, hargs, rfl, rfl, h0, r0⟩ := trodAll_cons hA
  obtain ⟨v1, vs1, d1, ds1, p1, q1, rfl, rfl, rfl, h1, r1⟩ := trodAll_cons r0
  obtain ⟨v2, vs2, d2, ds2, p2, q2, rfl, rfl, rfl, h2, r2⟩ := trodAll_cons r1
  obtain ⟨rfl, rfl, rfl⟩ := trodAll_nil r2
  obtain rfl : args = #[v0, v1, v2] := by cases args; simp_all
  obtain ⟨rfl, rfl⟩ := trodVars_none hV
  have w0 := hval 0 24 v0 rfl rfl
  have w1 := hval 1 3 v1 rfl rfl
  have w2 := hval 2 3 v2 rfl rfl
  clear hval
  obtain ⟨c0, c1, c2, c3, y0, y1, y2, y3, n, rfl, rfl, rfl, k0, k1, k2, k3⟩ := open_agg4 Tryz.underlying24 (by kernel_rfl) cells24 w0 h0
  obtain ⟨fr, rfl, rfl, _, _⟩ := open_int Tryz.underlying3 w1 h1
  obtain ⟨to, rfl, rfl, _, _⟩ := open_int Tryz.underlying3 w2 h2
  obtain ⟨zs, hz⟩ := words_of k0
  obtain ⟨en, e2, _, _⟩ := DataW.trod_int Tryz.underlying3 k2
  obtain rfl : c2 = _ := List.singleton_inj.1 e2
  obtain ⟨el, fz, ht⟩ := table_at hL
  refine (law3 fr to en c0 c1 c3 zs W el fz ht hz).mono fun e W' ⟨he, hk⟩ => ?_
  subst he
  exact ⟨_, rfl, post_law (tb := 4) hW' rfl rfl rfl rfl laidOut readable (by kernel_rfl) Tryz.underlying4 hk⟩
end

/-- A WORLD FOR THE WITNESS: the settled one, the table (block 0) holding what its initialiser lays. -/
noncomputable def laidWorld (os : Os) : World :=
  { World.holding Tryz.prog os ⟨#[], #[], []⟩ with heap := (World.holding Tryz.prog os ⟨#[], #[], []⟩).heap.modify 0 fun
      | .cells _ t frozen => .cells (tabInts.map fun z => Value.int .u8 z).toArray t frozen
      | o => o }
def wArgs : Array Value := #[.agg #[.slice none 0 0, .slice none 0 0, .int .i64 0, .int .i64 0], .int .i64 0, .int .i64 0]
def wData {H : Type} : List (DataW H) := [.agg [.nil, .nil, .lit (.int .i64 0), .lit (.int .i64 0)], .lit (.int .i64 0), .lit (.int .i64 0)]
theorem laid_met (os : Os) : laidMet Tryz.prog Rows.restrictWordsMatchReferenceRow.laid ((laidWorld os).forCall (fun _ _ => 0) ⟨#[], wArgs, []⟩).memory :=
  laidMet_of_run' 8 (by kernel_rfl) (by kernel_rfl)
theorem reads (os : Os) {H : Type} (enc : TypeId × Value → H) : ∃ places, DataW.whole enc Tryz.prog ((laidWorld os).forCall (fun _ _ => 0) ⟨#[], wArgs, []⟩).memory Tryz.f3.params.toList Rows.restrictWordsMatchReferenceSpec.vars false wArgs.toList 8 = some (wData, [], places) :=
  ⟨[], by kernel_rfl⟩

set_option maxRecDepth 100000 in
/-- THE FIRST FORM's STEP. -/
theorem lifted (os : Os) (started : os.Started) (H : Type) (enc : TypeId × Value → H) (F : Stop.Interp) :
    ReturnsInHanded {} Tryz.checked os 3 .any ((OpenSpec.ofChange Rows.restrictWordsMatchReferenceSpec).preRow enc Tryz.prog Tryz.f3 Rows.restrictWordsMatchReferenceRow.domain false Rows.restrictWordsMatchReferenceRow.laid) (((OpenSpec.ofChange Rows.restrictWordsMatchReferenceSpec).at F).post enc Tryz.prog Tryz.f3 false true false false) := by
  obtain ⟨places, hx⟩ := reads os enc
  refine returnsInHanded_of_row (C := Tryz.checked) (s := OpenSpec.ofChange Rows.restrictWordsMatchReferenceSpec) own started (by kernel_rfl) Tryz.func3
    (witness_row_at (enc := enc) (C := Tryz.checked) false (laidWorld os) wArgs rfl (by kernel_rfl) (by kernel_rfl) (by kernel_rfl)
      (OpenSpec.preRow_of_cond 8 hx (by kernel_rfl) (fun k hk => by cases hk) (by kernel_rfl) (laid_met os))) ?_
  intro W base args ds gs before hval hW _ _ _ hL _ _
  exact contract enc W base args ds gs before hval hW hL

theorem said : Rows.RestrictWordsMatchReferenceSaid :=
  OpenClaim.holds_of_cond 3 Tryz.f3 rfl rfl rfl rfl rfl rfl rfl ⟨rfl, rfl, rfl, rfl, rfl⟩ rfl rfl rfl rfl rfl (by kernel_rfl) Tryz.func3 (by kernel_rfl)
    (of_decide_eq_true (by kernel_rfl)) (by unfold Func.isWrapper; first | (rw [if_pos (by decide +kernel)]; kernel_rfl) | (rw [if_neg (by decide +kernel)]; exact ⟨rfl, rfl⟩))
    (fun os started H enc _ F => by rw [OpenClaim.pre_eq_preRow]; exact lifted os started H enc F)

/-- No parameter wants a stand-in; the program's own looks are off: what the card asks. -/
theorem plain (f : FuncId) (fn : Func) (hf : Tryz.pinned.checked.prog.funcNamed "koine/koinelaw14.RestrictWordsMatchReference" = some f) (hfn : Tryz.pinned.checked.prog.funcs[f]? = some fn) :
    true = Tryz.pinned.checked.prog.looks [] ∧ ∀ (j : Nat) t, fn.params[j]? = some t → Tryz.pinned.checked.prog.wantsStandIn t = false := by
  obtain rfl : f = 3 := Option.some.inj ((show Tryz.prog.funcNamed "koine/koinelaw14.RestrictWordsMatchReference" = some 3 by kernel_rfl).symm.trans hf) |>.symm
  obtain rfl : fn = Tryz.f3 := (Option.some.inj (Tryz.func3.symm.trans hfn)).symm
  refine ⟨by kernel_rfl, fun j t ht => ?_⟩
  rw [Tryz.params3] at ht
  have hm : t ∈ [24, 3, 3] := by simpa using Array.mem_of_getElem? ht
  simp only [List.mem_cons, List.not_mem_nil, or_false] at hm
  rcases hm with rfl | rfl | rfl
  · exact (show Tryz.prog.wantsStandIn 24 = false by kernel_rfl)
  · exact (show Tryz.prog.wantsStandIn 3 = false by kernel_rfl)
  · exact (show Tryz.prog.wantsStandIn 3 = false by kernel_rfl)

/-- THE CARD. -/
theorem card : Rows.RestrictWordsMatchReferenceCardSaid :=
  Claim7.holds_tied_plain_at .later [] _ _ _ _ said (fun _ h => by cases h) (by kernel_rfl) (fun _ h => by cases h) restrictWordsMatchReference_row_tie rfl ⟨rfl, rfl⟩ (by kernel_rfl) rfl plain (by kernel_rfl)
#print axioms card
end Go.Proofs.YtlilfkbnlacfgaaGreatDoor.words

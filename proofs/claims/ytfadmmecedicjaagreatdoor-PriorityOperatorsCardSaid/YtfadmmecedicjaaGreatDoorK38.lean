/-
  PriorityOperators: parts of its proof (Tr5).
-/
import Derived.Test.YtfadmmecedicjaaGreatDoorK36
set_option linter.unusedVariables false
set_option linter.unusedSimpArgs false

section
/-
  Grouped: walked.
-/
namespace Go.Pri
open Go Go.Abs Go.Proofs Go.RowKit Go.Lib Go.Maps
set_option maxRecDepth 100000
set_option maxHeartbeats 8000000

theorem tmod3 {x : Int} {q : Nat} (h : 0 ≤ x) (hq : q = (x % 3).toNat) : x.tmod 3 = (q : Int) := by
  rw [Int.tmod_eq_emod_of_nonneg h, hq]; omega
theorem wrap8 {m : Int} (h : 0 ≤ m ∧ m ≤ 255) : IntKind.u8.wrap m = m := by
  simp [IntKind.wrap, IntKind.bits, IntKind.signed]; omega

theorem grouped7 (ov : Value) (ops : List Nat) (m l0 l1 l2 l3 s0 s1 s2 : Int) (hL : ∀ i, 0 ≤ lvN l0 l1 l2 l3 i ∧ lvN l0 l1 l2 l3 i ≤ 255) (hS : ∀ k, 0 ≤ asN s0 s1 s2 k ∧ asN s0 s1 s2 k ≤ 255) (hol : ops.length ≤ 5) (ho4 : ∀ o ∈ ops, o < 4) :
    ∀ (n f t : Nat) (w : World), n ≤ 5 → f ≤ t → t - f ≤ n → t ≤ ops.length → opsAt w ov ops →
    Calls Tryz.prog 7 #[.agg #[.int .u8 m, .int .u8 l0, .int .u8 l1, .int .u8 l2, .int .u8 l3, .int .u8 s0, .int .u8 s1, .int .u8 s2], ov, .int .i64 f, .int .i64 t] w fun e w' =>
      ∃ v, e = .returned (.tuple #[v, .bool (groupN (lvN l0 l1 l2 l3) (asN s0 s1 s2) ops n (t - f) f).2]) ∧ Old w w' ∧ TreeAt w' v (groupN (lvN l0 l1 l2 l3) (asN s0 s1 s2) ops n (t - f) f).1 := by
  intro n
  induction n with
  | zero =>
    intro f t w hn hft hd ht ho
    have e : t = f := by omega
    subst e
    have := group_leaf ov (.agg #[.int .u8 m, .int .u8 l0, .int .u8 l1, .int .u8 l2, .int .u8 l3, .int .u8 s0, .int .u8 s1, .int .u8 s2]) t w (by omega) ⟨[.int .u8 m, .int .u8 l0, .int .u8 l1, .int .u8 l2, .int .u8 l3, .int .u8 s0, .int .u8 s1, .int .u8 s2], rfl, rfl⟩ ⟨m, l0, l1, l2, l3, s0, s1, s2, rfl⟩
    simpa [groupN] using this
  | succ n ih =>
    intro f t w hn hft hd ht ho
    by_cases hz : t = f
    · subst hz
      have := group_leaf ov (.agg #[.int .u8 m, .int .u8 l0, .int .u8 l1, .int .u8 l2, .int .u8 l3, .int .u8 s0, .int .u8 s1, .int .u8 s2]) t w (by omega) ⟨[.int .u8 m, .int .u8 l0, .int .u8 l1, .int .u8 l2, .int .u8 l3, .int .u8 s0, .int .u8 s1, .int .u8 s2], rfl, rfl⟩ ⟨m, l0, l1, l2, l3, s0, s1, s2, rfl⟩
      simpa [groupN] using this
    have hlt : f < t := by omega
    have hne : ¬ (f : Int) = t := by omega
    obtain ⟨d, hdd⟩ : ∃ d, t - f = d + 1 := ⟨t - f - 1, by omega⟩
    have htd : f + (d + 1) = t := by omega
    generalize hLg : lvN l0 l1 l2 l3 = L at *
    generalize hSg : asN s0 s1 s2 = S at *
    have hO1 : Old w (w.alloc (.cells #[.int .u8 m, .int .u8 l0, .int .u8 l1, .int .u8 l2, .int .u8 l3, .int .u8 s0, .int .u8 s1, .int .u8 s2] 25)) := (Old.refl w).alloc _
    have hN1 := World.alloc_heap_new w (.cells #[.int .u8 m, .int .u8 l0, .int .u8 l1, .int .u8 l2, .int .u8 l3, .int .u8 s0, .int .u8 s1, .int .u8 s2] 25)
    have hrec := fun (f' t' : Nat) (W : World) (h1 : f' ≤ t') (h2 : t' - f' ≤ n) (h3 : t' ≤ t) (h4 : Old w W) => ih f' t' W (by omega) h1 h2 (by omega) (ho.old h4)
    have hxb : ∀ X, Old (w.alloc (.cells #[.int .u8 m, .int .u8 l0, .int .u8 l1, .int .u8 l2, .int .u8 l3, .int .u8 s0, .int .u8 s1, .int .u8 s2] 25)) X → X.heap[w.heap.size]? = some (.cells #[.int .u8 m, .int .u8 l0, .int .u8 l1, .int .u8 l2, .int .u8 l3, .int .u8 s0, .int .u8 s1, .int .u8 s2] 25 (0, 0)) := fun X hX => (hX.heap _ (Array.getElem?_eq_some_iff.1 hN1).1).trans hN1
    -- what an operator's reads give
    have hread : ∀ (k : Nat) (X : World), k < ops.length → Old (w.alloc (.cells #[.int .u8 m, .int .u8 l0, .int .u8 l1, .int .u8 l2, .int .u8 l3, .int .u8 s0, .int .u8 s1, .int .u8 s2] 25)) X → ∃ o b oo cap, ops[k]? = some o ∧ o < 4 ∧ ov = .slice (some ⟨b, oo, none⟩) ops.length cap ∧ X.cell? ⟨b, oo + k, none⟩ = some (.int .i64 (o : Nat)) ∧
        X.cell? ⟨w.heap.size, 1 + o, none⟩ = some (.int .u8 (L o)) ∧ (L o).tmod 3 = (lvK L ops k : Int) ∧ IntKind.i64.wrap (L o) = L o ∧ lvK L ops k < 3 ∧ X.cell? ⟨w.heap.size, 5 + lvK L ops k, none⟩ = some (.int .u8 (S (lvK L ops k))) := fun k X hk hX => by
      obtain ⟨o, hok⟩ : ∃ o, ops[k]? = some o := ⟨_, List.getElem?_eq_getElem hk⟩
      obtain ⟨b, oo, cap, h1, h2⟩ := SliceAt.at (w := w) ho (j := k) (c := [.int .i64 (o : Nat)]) (by simp [hok])
      have hc := (hO1.trans hX).cell_some (h2 0 _ rfl)
      have ho4' := ho4 o (List.mem_of_getElem? hok)
      have hlk : lvK L ops k = (L o % 3).toNat := by simp [lvK, List.getD, hok]
      have hlt3 : lvK L ops k < 3 := by rw [hlk]; omega
      refine ⟨o, b, oo, cap, hok, ho4', by simpa using h1, by simpa using hc, ?_, tmod3 (hL o).1 hlk, wrap64 (hL o), hlt3, ?_⟩
      · rw [← hLg]; exact box_lv (hxb X hX) ho4'
      · rw [← hSg]; exact box_as (hxb X hX) hlt3
    have hroot := rootTo_in L S ops f
    obtain ⟨_, ob, oo, ocap, _, _, hov, _⟩ := hread f _ (by omega) (Old.refl _)
    subst hov
    have hO11 : Old (w.alloc (.cells #[.int .u8 m, .int .u8 l0, .int .u8 l1, .int .u8 l2, .int .u8 l3, .int .u8 s0, .int .u8 s1, .int .u8 s2] 25)) (w.alloc (.cells #[.int .u8 m, .int .u8 l0, .int .u8 l1, .int .u8 l2, .int .u8 l3, .int .u8 s0, .int .u8 s1, .int .u8 s2] 25)) := Old.refl _
    have hbf : ((f : Int) == (t : Int)) = false := by simp; omega
    clear ih
    replace hrec : Aside _ := hrec
    replace hxb : Aside _ := hxb
    replace hread : Aside _ := hread
    replace hroot : Aside _ := hroot
    replace ho : Aside _ := ho
    replace ho4 : Aside _ := ho4
    replace hL : Aside _ := hL
    replace hS : Aside _ := hS
    replace hN1 : Aside _ := hN1
    replace hO1 : Aside _ := hO1
    replace hO11 : Aside _ := hO11
    replace hdd : Aside _ := hdd
    replace hLg : Aside _ := hLg
    replace hSg : Aside _ := hSg
    go_enter Tryz.func7, Tryz.ntmps7
    go_wp2
    generalize hW1 : w.alloc (.cells #[.int .u8 m, .int .u8 l0, .int .u8 l1, .int .u8 l2, .int .u8 l3, .int .u8 s0, .int .u8 s1, .int .u8 s2] 25) = W1 at *
    (try simp only [hbf])
    go_loopg [10, 11, 12] (t - f) (fun gg s10 s11 s12 wr => ∃ j : Nat, s12 = .int .i64 ((f + j : Nat) : Int) ∧ t - f - j ≤ gg ∧ j ≤ t - f ∧ s10 = .int .i64 ((rootTo L S ops f j).1 : Nat) ∧ s11 = .int .i64 ((rootTo L S ops f j).2 : Nat) ∧ Aside (wr = W1))
    case atStart => exact ⟨0, rfl, by omega, by omega, rfl, rfl, rfl⟩
    case round =>
    obtain ⟨j, rfl, hgj, hjl, rfl, rfl, hwr⟩ := hrel
    obtain rfl := hwr.out
    have hrj := hroot.out j
    have hrs : rootTo L S ops f (j + 1) = (if lvK L ops (rootTo L S ops f j).1 < lvK L ops (f + j) then (f + j, 1) else if lvK L ops (f + j) = lvK L ops (rootTo L S ops f j).1 then (if S (lvK L ops (f + j)) % 3 = 0 then f + j else (rootTo L S ops f j).1, (rootTo L S ops f j).2 + 1) else rootTo L S ops f j) := rfl
    replace hrs : Aside _ := hrs
    generalize hrm : rootTo L S ops f j = rm at *
    replace hrm : Aside _ := hrm
    obtain ⟨r, mny⟩ := rm
    simp only at hrj
    by_cases hj : j < t - f
    · have hj' : ((f + j : Nat) : Int) < t := by omega
      have hj'' : (f : Int) + j < t := by omega
      obtain ⟨o, ob', oo', ocap', hok, ho4k, hov', c1, c2, c3, c4, c5, c6⟩ := hread.out (f + j) wr (by omega) hO11.out
      obtain ⟨o2, ob2, oo2, ocap2, hok2, ho4k2, hov2, d1, d2, d3, d4, d5, d6⟩ := hread.out r wr (by omega) hO11.out
      cases hov'
      cases hov2
      generalize hqk : lvK L ops (f + j) = qk at *
      generalize hqr : lvK L ops r = qr at *
      have i0 : (0 : Int) ≤ (f : Int) + j := by omega
      have i1 : (f : Int) + j < ops.length := by omega
      have i2 : (0 : Int) ≤ r := by omega
      have i3 : (r : Int) < ops.length := by omega
      have i4 : (0 : Int) ≤ o := by omega
      have i5 : (o : Int) < 4 := by omega
      have i6 : (0 : Int) ≤ o2 := by omega
      have i7 : (o2 : Int) < 4 := by omega
      have i8 : (0 : Int) ≤ qk := by omega
      have i9 : (qk : Int) < 3 := by omega
      have wk : IntKind.i64.wrap ((f : Int) + j + 1) = (f : Int) + j + 1 := wf_wrap (by omega) (by omega)
      have hsk := hS.out qk
      have hst : (S qk).tmod 3 = S qk % 3 := Int.tmod_eq_emod_of_nonneg hsk.1
      have hsw : IntKind.u8.wrap (S qk % 3) = S qk % 3 := wrap8 (by omega)
      replace hok : Aside _ := hok
      replace hok2 : Aside _ := hok2
      replace hqk : Aside _ := hqk
      replace hqr : Aside _ := hqr
      by_cases h1 : qr < qk
      · have h1' : (qr : Int) < qk := by omega
        go_wp2
        go_roundg (t - f - (j + 1))
        case measure => omega
        case rel => exact ⟨j + 1, by simp only [Value.int.injEq, true_and]; omega, by omega, by omega, by rw [hrs.out, if_pos h1]; simp, by rw [hrs.out, if_pos h1]; rfl, rfl⟩
      · by_cases h2 : qk = qr
        · subst h2
          by_cases h3 : S qk % 3 = 0
          · go_wp2
            go_roundg (t - f - (j + 1))
            case measure => omega
            case rel => exact ⟨j + 1, by simp only [Value.int.injEq, true_and]; omega, by omega, by omega, by rw [hrs.out]; simp [h3], by rw [hrs.out]; simp, rfl⟩
          · go_wp2
            go_roundg (t - f - (j + 1))
            case measure => omega
            case rel => exact ⟨j + 1, by simp only [Value.int.injEq, true_and]; omega, by omega, by omega, by rw [hrs.out]; simp [h3], by rw [hrs.out]; simp, rfl⟩
        · have h1' : ¬ (qr : Int) < qk := by omega
          have h2' : ¬ (qk : Int) = qr := by omega
          go_wp2
          go_roundg (t - f - (j + 1))
          case measure => omega
          case rel => exact ⟨j + 1, by simp only [Value.int.injEq, true_and]; omega, by omega, by omega, by rw [hrs.out, if_neg h1, if_neg h2], by rw [hrs.out, if_neg h1, if_neg h2], rfl⟩
    · have hje : j = d + 1 := by have := hdd.out; omega
      subst hje
      simp only [htd]
      have hr1 := hrec.out f r wr (by omega) (by omega) (by omega) (hO1.out.trans hO11.out)
      have hg : groupN L S ops (n + 1) (t - f) f = (joinT ops f r t (groupN L S ops n (r - f) f).1 (groupN L S ops n (t - (r + 1)) (r + 1)).1, (groupN L S ops n (r - f) f).2 && (groupN L S ops n (t - (r + 1)) (r + 1)).2 && (!(decide (S (lvK L ops r) % 3 = 2)) || decide (mny = 1))) := by
        rw [hdd.out]
        simp only [groupN, hrm.out, htd]
      have hxh := hxb.out wr hO11.out
      have x0 := cells_at' hxh (i := 0) rfl
      have x1 := cells_at' hxh (i := 1) rfl
      have x2 := cells_at' hxh (i := 2) rfl
      have x3 := cells_at' hxh (i := 3) rfl
      have x4 := cells_at' hxh (i := 4) rfl
      have x5 := cells_at' hxh (i := 5) rfl
      have x6 := cells_at' hxh (i := 6) rfl
      have x7 := cells_at' hxh (i := 7) rfl
      have wr1 : IntKind.i64.wrap ((r : Int) + 1) = (r : Int) + 1 := wf_wrap (by omega) (by omega)
      have hA0 : (groupN L S ops n (r - f) f).1.length = 4 * (r - f) + 2 := groupN_len L S ops (by omega)
      have hB0 : (groupN L S ops n (t - (r + 1)) (r + 1)).1.length = 4 * (t - (r + 1)) + 2 := groupN_len L S ops (by omega)
      generalize hGA : groupN L S ops n (r - f) f = GA at *
      generalize hGB : groupN L S ops n (t - (r + 1)) (r + 1) = GB at *
      replace hg : Aside _ := hg
      replace hr1 : Aside _ := hr1
      replace hGB : Aside _ := hGB
      replace hGA : Aside _ := hGA
      replace hA0 : Aside _ := hA0
      replace hB0 : Aside _ := hB0
      clear hxh
      go_wp2_with (first
        | (go_at_call 7; refine Calls.mono hr1.out ?_; rintro e w2 ⟨va, rfl, hO2, hTA⟩; have hOW2 : Old wr w2 := hO2; have hxh := hxb.out w2 (hO11.out.trans hO2); have x0' := cells_at' hxh (i := 0) rfl; have x1' := cells_at' hxh (i := 1) rfl; have x2' := cells_at' hxh (i := 2) rfl; have x3' := cells_at' hxh (i := 3) rfl; have x4' := cells_at' hxh (i := 4) rfl; have x5' := cells_at' hxh (i := 5) rfl; have x6' := cells_at' hxh (i := 6) rfl; have x7' := cells_at' hxh (i := 7) rfl; have hr2 := hrec.out (r + 1) t w2 (by omega) (by omega) (by omega) (hO1.out.trans (hO11.out.trans hO2)); replace hr2 : Aside _ := hr2; replace hTA : Aside _ := hTA; replace hOW2 : Aside _ := hOW2; clear hr1 hxh hO2)
        | (go_at_call 7; refine Calls.mono hr2.out ?_; rw [hGB.out]; rintro e w3 ⟨vb, rfl, hO3, hTB⟩; have hO13 : Old wr w3 := hOW2.out.trans hO3; obtain ⟨o2, ob2, oo2, ocap2, hok2, ho4k2, hov2, d1, d2, d3, d4, d5, d6⟩ := hread.out r w3 (by omega) (hO11.out.trans hO13); cases hov2; have hTA3 := TreeAt.old (w := w2) hTA.out hO3; have hjo := joined19 (.slice (some ⟨ob, oo, none⟩) ops.length ocap) va vb ops f r t o2 GA.1 GB.1 w3 (SliceAt.old (w := w) ho.out ((hO1.out.trans hO11.out).trans hO13)) hok2 ho4k2 (by omega) (by omega) (by omega) (by omega) hTA3.slice hTB.slice (by have := hA0.out; omega) (by have := hB0.out; omega) (by have := hA0.out; omega) (by have := hB0.out; omega); have i2 : (0 : Int) ≤ r := (by omega); have i3 : (r : Int) < ops.length := (by omega); have i6 : (0 : Int) ≤ o2 := (by omega); have i7 : (o2 : Int) < 4 := (by omega); replace hjo : Aside _ := hjo; replace hok2 : Aside _ := hok2; replace hO13 : Aside _ := hO13; clear hr2 hTA3 hO3))
      have hst := hS.out (lvK L ops r)
      have hsm : (S (lvK L ops r)).tmod 3 = S (lvK L ops r) % 3 := Int.tmod_eq_emod_of_nonneg hst.1
      obtain ⟨ga, ba⟩ := GA
      obtain ⟨gb, bb⟩ := GB
      simp only at hjo hTA hTB
      generalize hsq : S (lvK L ops r) % 3 = sq at *
      have e2 : (sq == 2) = decide (sq = 2) := rfl
      have e1 : ((mny : Int) == 1) = decide (mny = 1) := by
        by_cases h : mny = 1
        · subst h; rfl
        · have : ¬ (mny : Int) = 1 := by omega
          simp [h, this]
      replace hst : Aside _ := hst
      replace hsq : Aside _ := hsq
      clear d1 d2 d3 d4 d5 d6
      cases ba <;> cases bb <;> by_cases hnv : sq = 2 <;> by_cases hm1 : mny = 1
      all_goals (
        simp only [hnv, decide_true, decide_false] at e2
        simp only [hm1, decide_true, decide_false] at e1)
      all_goals (
        go_wp2_with (go_at_call 19; refine Calls.mono hjo.out ?_; rintro e w4 ⟨v, rfl, hO4, hT⟩; replace hO4 : Aside _ := hO4; replace hT : Aside _ := hT))
      all_goals go_ret2
      all_goals (
        rw [hg.out]
        refine ⟨v, by simp [hnv, hm1], (hO1.out.trans hO11.out).trans (hO13.out.trans hO4.out), hT.out⟩)
end Go.Pri
end

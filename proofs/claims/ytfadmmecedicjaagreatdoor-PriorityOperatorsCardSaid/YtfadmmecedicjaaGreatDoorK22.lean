/-
  PriorityOperators: parts of its proof (Pr21).
-/
import Derived.Test.YtfadmmecedicjaaGreatDoorK21
set_option linter.unusedVariables false
set_option linter.unusedSimpArgs false

section
/-
  The collector's levels, of operators: walked.
-/
namespace Go.Pri
open Go Go.Abs Go.Proofs Go.RowKit Go.Lib Go.Maps

/-- A level: its productions, its associativity. -/
abbrev Lv : Type := List Nat × Int
def firstOf (a : Int) : Bool := a == 2 || a == 3
def lastOf (a : Int) : Bool := a == 1 || a == 3
def pairOf (a b : Lv) (f l : Bool) : List Fil := a.1.flatMap fun p => b.1.flatMap fun q => newOf p q f l
def rulesAll : List Lv → List Fil
  | [] => []
  | a :: r => pairOf a a (firstOf a.2) (lastOf a.2) ++ ((r.flatMap fun b => pairOf a b true true) ++ rulesAll r)

/-- The levels in memory. -/
def LvAt (w : World) (c7 : Value) (lv : List Lv) : Prop := ∃ cs : List (List Value), SliceAt 4 w c7 cs ∧ cs.length = lv.length ∧
  ∀ (i : Nat) a, lv[i]? = some a → ∃ pv, cs[i]? = some [pv, .int .i64 a.2, .slice none 0 0, .int .i64 1] ∧ SliceAt 1 w pv (a.1.map fun p => [.int .i64 (p : Nat)])
theorem LvAt.old {w w' : World} {c7 : Value} {lv : List Lv} (h : LvAt w c7 lv) (ho : Old w w') : LvAt w' c7 lv := by
  obtain ⟨cs, h1, h2, h3⟩ := h
  refine ⟨cs, h1.old ho, h2, fun i a hi => ?_⟩
  obtain ⟨pv, e1, e2⟩ := h3 i a hi
  exact ⟨pv, e1, e2.old ho⟩
/-- One level's cells. -/
theorem LvAt.cells {w : World} {c7 : Value} {lv : List Lv} (h : LvAt w c7 lv) {i : Nat} {a : Lv} (hi : lv[i]? = some a) :
    ∃ b7 o7 cap7 ap cp, c7 = .slice (some ⟨b7, o7, none⟩) lv.length cap7 ∧ lv.length ≤ cap7 ∧ w.cell? ⟨b7, o7 + i * 4, none⟩ = some (.slice ap a.1.length cp) ∧ w.cell? ⟨b7, o7 + i * 4 + 1, none⟩ = some (.int .i64 a.2) ∧ w.cell? ⟨b7, o7 + i * 4 + 2, none⟩ = some (.slice none 0 0) ∧
      w.cell? ⟨b7, o7 + i * 4 + 3, none⟩ = some (.int .i64 1) ∧ ∀ (j : Nat) p, a.1[j]? = some p → ∃ bp op, ap = some ⟨bp, op, none⟩ ∧ w.cell? ⟨bp, op + j, none⟩ = some (.int .i64 (p : Nat)) := by
  obtain ⟨cs, h1, h2, h3⟩ := h
  obtain ⟨pv, e1, e2⟩ := h3 i a hi
  obtain ⟨ap, cp, hpv⟩ := e2.form
  rw [List.length_map] at hpv
  rcases h1 with ⟨h, _⟩ | ⟨b7, o7, cap7, h4, h5, h6⟩
  · rw [h] at e1; cases e1
  · have hc := h6 i _ e1
    refine ⟨b7, o7, cap7, ap, cp, by rw [h4, h2], by omega, ?_, hc 1 _ rfl, hc 2 _ rfl, hc 3 _ rfl, fun j p hj => ?_⟩
    · have := hc 0 _ rfl
      rw [hpv] at this
      simpa using this
    · obtain ⟨bp, op, cap, h7, h8⟩ := e2.at (j := j) (c := [.int .i64 (p : Nat)]) (by simp [hj])
      rw [hpv] at h7
      simp only [Value.slice.injEq] at h7
      refine ⟨bp, op, h7.1, ?_⟩
      simpa using h8 0 _ rfl

theorem drop_at {α : Type} {l : List α} {i : Nat} {a : α} (h : l[i]? = some a) : l.drop i = a :: l.drop (i + 1) := by
  obtain ⟨hl, rfl⟩ := List.getElem?_eq_some_iff.1 h
  exact List.drop_eq_getElem_cons hl

/-- The rules still to come in a level's round. -/
def restJ (lv : List Lv) (i : Nat) (ap : List Nat) (asc : Int) (j : Nat) : List Fil :=
  (if j = 0 then pairOf (ap, asc) (ap, asc) (firstOf asc) (lastOf asc) ++ ((lv.drop (i + 1)).flatMap fun b => pairOf (ap, asc) b true true) else (lv.drop (i + j)).flatMap fun b => pairOf (ap, asc) b true true) ++ rulesAll (lv.drop (i + 1))
theorem rulesAll_at {lv : List Lv} {i : Nat} {a : Lv} (h : lv[i]? = some a) : rulesAll (lv.drop i) = restJ lv i a.1 a.2 0 := by
  rw [drop_at h]
  simp [rulesAll, restJ]
theorem restJ_zero (lv : List Lv) (i : Nat) (ap : List Nat) (asc : Int) : restJ lv i ap asc 0 = pairOf (ap, asc) (ap, asc) (firstOf asc) (lastOf asc) ++ restJ lv i ap asc 1 := by
  simp [restJ]
theorem restJ_succ {lv : List Lv} {i j : Nat} {b : Lv} (ap : List Nat) (asc : Int) (hj : j ≠ 0) (h : lv[i + j]? = some b) : restJ lv i ap asc j = pairOf (ap, asc) b true true ++ restJ lv i ap asc (j + 1) := by
  simp only [restJ, if_neg hj, if_neg (Nat.succ_ne_zero j), drop_at h, List.flatMap_cons, List.append_assoc]
  rfl
theorem restJ_end {lv : List Lv} {i j : Nat} (ap : List Nat) (asc : Int) (hj : j ≠ 0) (h : lv.length ≤ i + j) : restJ lv i ap asc j = rulesAll (lv.drop (i + 1)) := by
  simp [restJ, if_neg hj, List.drop_eq_nil_of_le h]

theorem fresh_of {T L N R : List Fil} (h : T = L ++ (N ++ R)) (hn : T.Nodup) : ∀ x ∈ N, x ∉ L := fun x hx hL => by
  subst h
  exact (List.nodup_append.1 hn).2.2 x hL x (List.mem_append_left _ hx) rfl
theorem len_of {T L N : List Fil} (h : T = L ++ N) {n : Nat} (hn : T.length ≤ n) : L.length ≤ n := by
  subst h
  simp at hn
  omega

set_option maxRecDepth 100000 in
set_option maxHeartbeats 16000000 in
theorem levels29 (C M : Nat) (g : List Value) (c3 c5 c7 : Value) (nt : Nat) (ps : List Prod') (lv : List Lv) (wg w : World) (htab : TabAt w) (hM0 : M ≠ 0) (hc : CollAt w C M g)
    (hg1 : g[1]? = some (.slice none 0 0)) (hg2 : g[2]? = some (.int .i64 1)) (hg5 : g[5]? = some c5) (hg7 : g[7]? = some c7) (hgr : GramAt wg c3 c5 nt ps) (hlv : LvAt wg c7 lv) (hl7 : c7 = .slice none 0 0 → lv = []) (hwg : Old wg w) (hMg : wg.heap.size ≤ M) (hMw : M < w.heap.size)
    (hop : ∀ a ∈ lv, ∀ p ∈ a.1, IsOp ps p ∧ p ≤ 100) (has : ∀ a ∈ lv, a.2 = 1 ∨ a.2 = 2 ∨ a.2 = 3) (hs : SetsAt w M []) (hnd : (rulesAll lv).Nodup) (hlen : (rulesAll lv).length ≤ 4000) (hlvl : lv.length ≤ 100) (hpl : ∀ a ∈ lv, a.1.length ≤ 100) :
    Calls Tryz.prog 29 #[.pointer (some ⟨C, 0, none⟩)] w fun e w' =>
      (∃ u, e = .returned u) ∧ SetsAt w' M (rulesAll lv) ∧ OldBut M w w' := by
  obtain ⟨a7, cap7, rfl⟩ : ∃ a7 cap7, c7 = .slice a7 lv.length cap7 := by
    obtain ⟨cs, h1, h2, _⟩ := hlv
    obtain ⟨a, c, h⟩ := h1.form
    exact ⟨a, c, by rw [h, h2]⟩
  have hF : ∀ W, OldBut M w W → Old wg W ∧ CollAt W C M g ∧ TabAt W := fun W h => ⟨OldBut.oldOf hwg hMg h, hc.but h, htab.but hM0 h⟩
  have k7 := hc.g 7 _ hg7 (by omega)
  have hcall := fun (W : World) (h : OldBut M w W) (p q : Nat) (f l : Bool) (L : List Fil) (hp : IsOp ps p) (hq : IsOp ps q) (h1 : p ≤ 100) (h2 : q ≤ 100) (h3 : SetsAt W M L) (h4 : L.length ≤ 4000) (h5 : ∀ x ∈ newOf p q f l, x ∉ L) =>
    compete54 C M g c3 c5 nt ps p q f l L wg W (hF W h).2.2 hM0 (hF W h).2.1 hg1 hg2 hg5 hgr (hF W h).1 hMg (Nat.lt_of_lt_of_le hMw h.size) hp hq h1 h2 h3 h4 h5
  replace hF : Aside _ := hF
  replace hcall : Aside _ := hcall
  replace hlv : Aside _ := hlv
  replace hop : Aside _ := hop
  replace hnd : Aside _ := hnd
  replace hpl : Aside _ := hpl
  replace hs : Aside _ := hs
  clear hgr hc htab hwg hl7
  go_enter Tryz.func29, Tryz.ntmps29
  go_wp2
  go_loopg [19] lv.length (fun gg s wr => ∃ (i : Nat) (L : List Fil), s = .int .i64 i ∧ lv.length - i ≤ gg ∧ i ≤ lv.length ∧ Aside (rulesAll lv = L ++ rulesAll (lv.drop i)) ∧ Aside (SetsAt wr M L) ∧ Aside (OldBut M w wr))
  case atStart => exact ⟨0, [], rfl, by omega, by omega, (show Aside (rulesAll lv = [] ++ rulesAll (lv.drop 0)) from by simp [Aside]), hs, OldBut.refl M w⟩
  case round =>
    obtain ⟨i, L, rfl, hgi, hil, hLe, hLs, hO⟩ := hrel
    by_cases hlt : i < lv.length
    · have hlt' : (i : Int) < lv.length := by omega
      obtain ⟨⟨ap', as'⟩, hai⟩ : ∃ a, lv[i]? = some a := ⟨_, List.getElem?_eq_getElem hlt⟩
      obtain ⟨hOg, hCo, hTa⟩ := hF.out wr hO.out
      obtain ⟨b7, o7, cap7', aa, ca, hce, hcap, y0, y1, y2, y3, hpa⟩ := LvAt.cells hlv.out hai
      cases hce
      simp only at y0 y1 hpa
      have y0 := hOg.cell_some y0
      have y1 := hOg.cell_some y1
      have y2 := hOg.cell_some y2
      have y3 := hOg.cell_some y3
      have hO1 : Old wr (wr.alloc (.cells #[.slice aa ap'.length ca, .int .i64 as', .slice none 0 0, .int .i64 1] 76)) := (Old.refl wr).alloc _
      have k7a := hCo.g 7 _ hg7 (by omega)
      have k7b := hO1.cell_some k7a
      have hic : ¬ cap7 = i := by omega
      have hicap : (i : Int) ≤ cap7 := by omega
      have hB1 : OldBut M w (wr.alloc (.cells #[.slice aa ap'.length ca, .int .i64 as', .slice none 0 0, .int .i64 1] 76)) := hO.out.trans hO1.but
      have hS1 := SetsAt.old (w := wr) (M := M) hLs.out hO1
      have has' := has _ (List.mem_of_getElem? hai)
      simp only at has'
      have ha100 : ap'.length ≤ 100 := hpl.out _ (List.mem_of_getElem? hai)
      have hLe1 : rulesAll lv = L ++ restJ lv i ap' as' 0 := by rw [hLe.out, rulesAll_at hai]
      have e0 : (wr.alloc (.cells #[.slice aa ap'.length ca, .int .i64 as', .slice none 0 0, .int .i64 1] 76)).cell? ⟨wr.heap.size, 0, none⟩ = some (.slice aa ap'.length ca) := by simp
      have e1 : (wr.alloc (.cells #[.slice aa ap'.length ca, .int .i64 as', .slice none 0 0, .int .i64 1] 76)).cell? ⟨wr.heap.size, 1, none⟩ = some (.int .i64 as') := by simp
      have e2 : (wr.alloc (.cells #[.slice aa ap'.length ca, .int .i64 as', .slice none 0 0, .int .i64 1] 76)).cell? ⟨wr.heap.size, 2, none⟩ = some (.slice none 0 0) := by simp
      have e3 : (wr.alloc (.cells #[.slice aa ap'.length ca, .int .i64 as', .slice none 0 0, .int .i64 1] 76)).cell? ⟨wr.heap.size, 3, none⟩ = some (.int .i64 1) := by simp
      have hM3 : M < wr.heap.size := Nat.lt_of_lt_of_le hMw hO.out.size
      replace hB1 : Aside _ := hB1
      replace hpa : Aside _ := hpa
      replace hai : Aside _ := hai
      replace hS1 : Aside _ := hS1
      replace hLe1 : Aside _ := hLe1
      clear hLe hLs hCo hTa hOg hO
      go_wp2
      generalize hW1 : wr.alloc (.cells #[.slice aa ap'.length ca, .int .i64 as', .slice none 0 0, .int .i64 1] 76) = W1 at *
      clear hW1 hO1 y0 y1 y2 y3 k7a k7b
      generalize hn3 : wr.heap.size = n3 at *
      clear hn3
      go_loopg [32] (lv.length - i) (fun gg s wr2 => ∃ (j : Nat) (L2 : List Fil), s = .int .i64 j ∧ lv.length - i - j ≤ gg ∧ j ≤ lv.length - i ∧ Aside (rulesAll lv = L2 ++ restJ lv i ap' as' j) ∧ Aside (SetsAt wr2 M L2) ∧ Aside (OldBut M W1 wr2))
      case atStart => exact ⟨0, L, rfl, by omega, by omega, hLe1, hS1, OldBut.refl M _⟩
      case round =>
        obtain ⟨j, L2, rfl, hgj, hjl, hR2, hS2, hB2⟩ := hrel
        by_cases hlj : j < lv.length - i
        · have hlj' : (j : Int) < ((lv.length - i : Nat) : Int) := by omega
          obtain ⟨⟨bp', bs'⟩, hbi⟩ : ∃ b, lv[i + j]? = some b := ⟨_, List.getElem?_eq_getElem (by omega)⟩
          have hb100 : bp'.length ≤ 100 := hpl.out _ (List.mem_of_getElem? hbi)
          have hBw := hB1.out.trans hB2.out
          obtain ⟨hOg2, hCo2, hTa2⟩ := hF.out wr hBw
          obtain ⟨b7', o7', cap7'', ab, cb, hce, _, y0, y1, y2, y3, hqa⟩ := LvAt.cells hlv.out hbi
          cases hce
          simp only at y0 y1 hqa
          have ea : o7 + (i + j) * 4 = o7 + i * 4 + j * 4 := by omega
          rw [ea] at y0 y1 y2 y3
          have y0 := hOg2.cell_some y0
          have y1 := hOg2.cell_some y1
          have y2 := hOg2.cell_some y2
          have y3 := hOg2.cell_some y3
          have hO5 : Old wr (wr.alloc (.cells #[.slice ab bp'.length cb, .int .i64 bs', .slice none 0 0, .int .i64 1] 76)) := (Old.refl wr).alloc _
          have c2 := hO5.cell_some (hB2.out.cell_some (by simp only; omega) e2)
          have c3 := hO5.cell_some (hB2.out.cell_some (by simp only; omega) e3)
          have hCo5 := CollAt.but hCo2 hO5.but
          have hand := and52 C (wr.alloc (.cells #[.slice ab bp'.length cb, .int .i64 bs', .slice none 0 0, .int .i64 1] 76)) (hTa2.old hO5) hCo5.large (hCo5.fz 10)
          have hS5 := SetsAt.old (w := wr) (M := M) hS2.out hO5
          have hM5 : M < wr.heap.size := Nat.lt_of_lt_of_le hMw hBw.size
          have p0 : (wr.alloc (.cells #[.slice ab bp'.length cb, .int .i64 bs', .slice none 0 0, .int .i64 1] 76)).cell? ⟨wr.heap.size, 0, none⟩ = some (.slice ab bp'.length cb) := by simp
          replace hand : Aside _ := hand
          replace hqa : Aside _ := hqa
          replace hbi : Aside _ := hbi
          replace hO5 : Aside _ := hO5
          replace hS5 : Aside _ := hS5
          clear hOg2 hCo2 hTa2 hCo5
          by_cases hj0 : j = 0
          · subst hj0
            have hbe : bp' = ap' ∧ bs' = as' := by
              have h1 := hbi.out
              rw [Nat.add_zero, hai.out] at h1
              simp only [Option.some.injEq, Prod.mk.injEq] at h1
              exact ⟨h1.1.symm, h1.2.symm⟩
            simp only [Nat.zero_mul, Nat.add_zero] at y0 y1 y2 y3
            have hjb : (((0 : Nat) : Int) == 0) = true := rfl
            rcases has' with ha1 | ha2 | ha3
            · have hR2c : rulesAll lv = L2 ++ (pairOf (ap', as') (bp', bs') false true ++ restJ lv i ap' as' (0 + 1)) := by
                rw [hR2.out, restJ_zero, hbe.1, hbe.2, ha1]; rfl
              replace hR2c : Aside _ := hR2c
              subst ha1
              clear hbe
              have d0 := e0
              go_wp2_with (go_at_call 52; refine Calls.mono hand.out ?_; rintro e w3 ⟨rfl, hk3⟩; have hO6 := hk3.alloc (.cells #[.slice none 0 0, .int .i64 1] 31); have q0 := hO6.cell_some p0; have hM6 : M < w3.heap.size := Nat.lt_of_lt_of_le (Nat.lt_of_lt_of_le hM5 hO5.out.size) hk3.size; have f0 := hO6.cell_some (hO5.out.cell_some (hB2.out.cell_some (by simp only; omega) e0)); have f1 := hO6.cell_some (hO5.out.cell_some (hB2.out.cell_some (by simp only; omega) e1)))
              (try simp only [hjb])
              have q1 : (w3.alloc (.cells #[.slice none 0 0, .int .i64 1] 31)).cell? ⟨w3.heap.size, 0, none⟩ = some (.slice none 0 0) := by simp
              have q2 : (w3.alloc (.cells #[.slice none 0 0, .int .i64 1] 31)).cell? ⟨w3.heap.size, 1, none⟩ = some (.int .i64 1) := by simp
              have hBW1 : OldBut M W1 (w3.alloc (.cells #[.slice none 0 0, .int .i64 1] 31)) := hB2.out.trans ((hO5.out.trans hO6).but)
              have hBW : OldBut M w (w3.alloc (.cells #[.slice none 0 0, .int .i64 1] 31)) := hB1.out.trans hBW1
              have hS3w := SetsAt.old (M := M) (L := L2) hS5.out hO6
              generalize w3.alloc (.cells #[.slice none 0 0, .int .i64 1] 31) = W3 at *
              generalize hn5 : wr.heap.size = n5 at *
              generalize hn6 : w3.heap.size = n6 at *
              replace hBW1 : Aside _ := hBW1
              replace hBW : Aside _ := hBW
              replace hS3w : Aside _ := hS3w
              clear hn5 hn6 hO6 hk3 hO5 hB2 hS5 hand p0 c2 c3 y0 y1 y2 y3 d0 hR2 hS2
              go_loopg [64] ap'.length (fun gg s wr => ∃ (ip : Nat) (L3 : List Fil), s = .int .i64 ip ∧ ap'.length - ip ≤ gg ∧ ip ≤ ap'.length ∧ Aside (rulesAll lv = L3 ++ (((ap'.drop ip).flatMap fun p => bp'.flatMap fun q => newOf p q false true) ++ restJ lv i ap' 1 (0 + 1))) ∧ Aside (SetsAt wr M L3) ∧ Aside (OldBut M W3 wr))
              case atStart => exact ⟨0, L2, rfl, by omega, by omega, (show Aside (rulesAll lv = L2 ++ (((ap'.drop 0).flatMap fun p => bp'.flatMap fun q => newOf p q false true) ++ restJ lv i ap' 1 (0 + 1))) from by simpa [Aside, pairOf] using hR2c.out), hS3w, OldBut.refl M W3⟩
              case round =>
                obtain ⟨ip, L3, rfl, hgp, hip, hP3, hS3, hB3⟩ := hrel
                by_cases hlp : ip < ap'.length
                · have hlp' : (ip : Int) < ap'.length := by omega
                  obtain ⟨p, hpp⟩ : ∃ p, ap'[ip]? = some p := ⟨_, List.getElem?_eq_getElem hlp⟩
                  have hW := hBW.out.trans hB3.out
                  obtain ⟨hOg4, hCo4, hTa4⟩ := hF.out wr hW
                  obtain ⟨bpp, opp, haa, hpc⟩ := hpa.out ip p hpp
                  have hpc4 := hOg4.cell_some hpc
                  subst haa
                  obtain ⟨hopp, hp100⟩ := hop.out _ (List.mem_of_getElem? hai.out) p (List.mem_of_getElem? hpp)
                  have v0 := hB3.out.cell_some (by simp only; omega) q0
                  have hPd : rulesAll lv = L3 ++ (((bp'.flatMap fun q => newOf p q false true)) ++ (((ap'.drop (ip + 1)).flatMap fun p => bp'.flatMap fun q => newOf p q false true) ++ restJ lv i ap' 1 (0 + 1))) := by
                    rw [hP3.out, drop_at hpp, List.flatMap_cons, List.append_assoc]
                  replace hPd : Aside _ := hPd
                  clear hP3 hpc
                  go_wp2
                  go_loopg [71] bp'.length (fun gg s wr => ∃ (iq : Nat) (L4 : List Fil), s = .int .i64 iq ∧ bp'.length - iq ≤ gg ∧ iq ≤ bp'.length ∧ Aside (rulesAll lv = L4 ++ (((bp'.drop iq).flatMap fun q => newOf p q false true) ++ (((ap'.drop (ip + 1)).flatMap fun p => bp'.flatMap fun q => newOf p q false true) ++ restJ lv i ap' 1 (0 + 1)))) ∧ Aside (SetsAt wr M L4) ∧ Aside (OldBut M W3 wr))
                  case atStart => exact ⟨0, L3, rfl, by omega, by omega, (show Aside (rulesAll lv = L3 ++ (((bp'.drop 0).flatMap fun q => newOf p q false true) ++ (((ap'.drop (ip + 1)).flatMap fun p => bp'.flatMap fun q => newOf p q false true) ++ restJ lv i ap' 1 (0 + 1)))) from by simpa [Aside] using hPd.out), hS3, hB3⟩
                  case round =>
                    obtain ⟨iq, L4, rfl, hgq, hiq, hP4, hS4, hB4⟩ := hrel
                    by_cases hlq : iq < bp'.length
                    · have hlq' : (iq : Int) < bp'.length := by omega
                      obtain ⟨q, hqq⟩ : ∃ q, bp'[iq]? = some q := ⟨_, List.getElem?_eq_getElem hlq⟩
                      have hW4 := hBW.out.trans hB4.out
                      obtain ⟨hOg5, _, _⟩ := hF.out wr hW4
                      obtain ⟨bqq, oqq, hab, hqc⟩ := hqa.out iq q hqq
                      have hqc4 := hOg5.cell_some hqc
                      subst hab
                      obtain ⟨hoqq, hq100⟩ := hop.out _ (List.mem_of_getElem? hbi.out) q (List.mem_of_getElem? hqq)
                      have u0 := hB4.out.cell_some (by simp only; omega) q1
                      have u1 := hB4.out.cell_some (by simp only; omega) q2
                      have hQd : rulesAll lv = L4 ++ (newOf p q false true ++ (((bp'.drop (iq + 1)).flatMap fun q => newOf p q false true) ++ (((ap'.drop (ip + 1)).flatMap fun p => bp'.flatMap fun q => newOf p q false true) ++ restJ lv i ap' 1 (0 + 1)))) := by
                        rw [hP4.out, drop_at hqq, List.flatMap_cons, List.append_assoc]
                      have hcc := hcall.out wr hW4 p q false true L4 hopp hoqq hp100 hq100 hS4.out (len_of hP4.out hlen) (fresh_of hQd hnd.out)
                      have hQe : rulesAll lv = (L4 ++ newOf p q false true) ++ (((bp'.drop (iq + 1)).flatMap fun q => newOf p q false true) ++ (((ap'.drop (ip + 1)).flatMap fun p => bp'.flatMap fun q => newOf p q false true) ++ restJ lv i ap' 1 (0 + 1))) := by rw [hQd]; simp only [List.append_assoc]
                      replace hcc : Aside _ := hcc
                      replace hQe : Aside _ := hQe
                      clear hQd hqc
                      go_wp2_with (go_at_call 54; refine Calls.mono hcc.out ?_; rintro e w9 ⟨⟨u, rfl⟩, hs9, ho9⟩)
                      go_roundg (bp'.length - (iq + 1))
                      case measure => omega
                      case rel => exact ⟨iq + 1, _, by go_num, by omega, by omega, hQe, hs9, hB4.out.trans ho9⟩
                    · have hqn : iq = bp'.length := by omega
                      subst hqn
                      have hPe : rulesAll lv = L4 ++ (((ap'.drop (ip + 1)).flatMap fun p => bp'.flatMap fun q => newOf p q false true) ++ restJ lv i ap' 1 (0 + 1)) := by rw [hP4.out]; simp
                      replace hPe : Aside _ := hPe
                      clear hP4
                      go_wp2
                      go_roundg (ap'.length - (ip + 1))
                      case measure => omega
                      case rel => exact ⟨ip + 1, L4, by go_num, by omega, by omega, hPe, hS4, hB4⟩
                · have hpn : ip = ap'.length := by omega
                  subst hpn
                  have hJe : rulesAll lv = L3 ++ restJ lv i ap' 1 (0 + 1) := by rw [hP3.out]; simp
                  replace hJe : Aside _ := hJe
                  clear hP3
                  go_wp2
                  go_roundg (lv.length - i - (0 + 1))
                  case measure => omega
                  case rel => exact ⟨0 + 1, L3, by go_num, by omega, by omega, hJe, hS3, hBW1.out.trans hB3.out⟩
            · have hR2c : rulesAll lv = L2 ++ (pairOf (ap', as') (bp', bs') true false ++ restJ lv i ap' as' (0 + 1)) := by
                rw [hR2.out, restJ_zero, hbe.1, hbe.2, ha2]; rfl
              replace hR2c : Aside _ := hR2c
              subst ha2
              clear hbe
              have d0 := e0
              go_wp2_with (go_at_call 52; refine Calls.mono hand.out ?_; rintro e w3 ⟨rfl, hk3⟩; have hO6 := hk3.alloc (.cells #[.slice none 0 0, .int .i64 1] 31); have q0 := hO6.cell_some p0; have hM6 : M < w3.heap.size := Nat.lt_of_lt_of_le (Nat.lt_of_lt_of_le hM5 hO5.out.size) hk3.size; have f0 := hO6.cell_some (hO5.out.cell_some (hB2.out.cell_some (by simp only; omega) e0)); have f1 := hO6.cell_some (hO5.out.cell_some (hB2.out.cell_some (by simp only; omega) e1)))
              (try simp only [hjb])
              have q1 : (w3.alloc (.cells #[.slice none 0 0, .int .i64 1] 31)).cell? ⟨w3.heap.size, 0, none⟩ = some (.slice none 0 0) := by simp
              have q2 : (w3.alloc (.cells #[.slice none 0 0, .int .i64 1] 31)).cell? ⟨w3.heap.size, 1, none⟩ = some (.int .i64 1) := by simp
              have hBW1 : OldBut M W1 (w3.alloc (.cells #[.slice none 0 0, .int .i64 1] 31)) := hB2.out.trans ((hO5.out.trans hO6).but)
              have hBW : OldBut M w (w3.alloc (.cells #[.slice none 0 0, .int .i64 1] 31)) := hB1.out.trans hBW1
              have hS3w := SetsAt.old (M := M) (L := L2) hS5.out hO6
              generalize w3.alloc (.cells #[.slice none 0 0, .int .i64 1] 31) = W3 at *
              generalize hn5 : wr.heap.size = n5 at *
              generalize hn6 : w3.heap.size = n6 at *
              replace hBW1 : Aside _ := hBW1
              replace hBW : Aside _ := hBW
              replace hS3w : Aside _ := hS3w
              clear hn5 hn6 hO6 hk3 hO5 hB2 hS5 hand p0 c2 c3 y0 y1 y2 y3 d0 hR2 hS2
              go_loopg [64] ap'.length (fun gg s wr => ∃ (ip : Nat) (L3 : List Fil), s = .int .i64 ip ∧ ap'.length - ip ≤ gg ∧ ip ≤ ap'.length ∧ Aside (rulesAll lv = L3 ++ (((ap'.drop ip).flatMap fun p => bp'.flatMap fun q => newOf p q true false) ++ restJ lv i ap' 2 (0 + 1))) ∧ Aside (SetsAt wr M L3) ∧ Aside (OldBut M W3 wr))
              case atStart => exact ⟨0, L2, rfl, by omega, by omega, (show Aside (rulesAll lv = L2 ++ (((ap'.drop 0).flatMap fun p => bp'.flatMap fun q => newOf p q true false) ++ restJ lv i ap' 2 (0 + 1))) from by simpa [Aside, pairOf] using hR2c.out), hS3w, OldBut.refl M W3⟩
              case round =>
                obtain ⟨ip, L3, rfl, hgp, hip, hP3, hS3, hB3⟩ := hrel
                by_cases hlp : ip < ap'.length
                · have hlp' : (ip : Int) < ap'.length := by omega
                  obtain ⟨p, hpp⟩ : ∃ p, ap'[ip]? = some p := ⟨_, List.getElem?_eq_getElem hlp⟩
                  have hW := hBW.out.trans hB3.out
                  obtain ⟨hOg4, hCo4, hTa4⟩ := hF.out wr hW
                  obtain ⟨bpp, opp, haa, hpc⟩ := hpa.out ip p hpp
                  have hpc4 := hOg4.cell_some hpc
                  subst haa
                  obtain ⟨hopp, hp100⟩ := hop.out _ (List.mem_of_getElem? hai.out) p (List.mem_of_getElem? hpp)
                  have v0 := hB3.out.cell_some (by simp only; omega) q0
                  have hPd : rulesAll lv = L3 ++ (((bp'.flatMap fun q => newOf p q true false)) ++ (((ap'.drop (ip + 1)).flatMap fun p => bp'.flatMap fun q => newOf p q true false) ++ restJ lv i ap' 2 (0 + 1))) := by
                    rw [hP3.out, drop_at hpp, List.flatMap_cons, List.append_assoc]
                  replace hPd : Aside _ := hPd
                  clear hP3 hpc
                  go_wp2
                  go_loopg [71] bp'.length (fun gg s wr => ∃ (iq : Nat) (L4 : List Fil), s = .int .i64 iq ∧ bp'.length - iq ≤ gg ∧ iq ≤ bp'.length ∧ Aside (rulesAll lv = L4 ++ (((bp'.drop iq).flatMap fun q => newOf p q true false) ++ (((ap'.drop (ip + 1)).flatMap fun p => bp'.flatMap fun q => newOf p q true false) ++ restJ lv i ap' 2 (0 + 1)))) ∧ Aside (SetsAt wr M L4) ∧ Aside (OldBut M W3 wr))
                  case atStart => exact ⟨0, L3, rfl, by omega, by omega, (show Aside (rulesAll lv = L3 ++ (((bp'.drop 0).flatMap fun q => newOf p q true false) ++ (((ap'.drop (ip + 1)).flatMap fun p => bp'.flatMap fun q => newOf p q true false) ++ restJ lv i ap' 2 (0 + 1)))) from by simpa [Aside] using hPd.out), hS3, hB3⟩
                  case round =>
                    obtain ⟨iq, L4, rfl, hgq, hiq, hP4, hS4, hB4⟩ := hrel
                    by_cases hlq : iq < bp'.length
                    · have hlq' : (iq : Int) < bp'.length := by omega
                      obtain ⟨q, hqq⟩ : ∃ q, bp'[iq]? = some q := ⟨_, List.getElem?_eq_getElem hlq⟩
                      have hW4 := hBW.out.trans hB4.out
                      obtain ⟨hOg5, _, _⟩ := hF.out wr hW4
                      obtain ⟨bqq, oqq, hab, hqc⟩ := hqa.out iq q hqq
                      have hqc4 := hOg5.cell_some hqc
                      subst hab
                      obtain ⟨hoqq, hq100⟩ := hop.out _ (List.mem_of_getElem? hbi.out) q (List.mem_of_getElem? hqq)
                      have u0 := hB4.out.cell_some (by simp only; omega) q1
                      have u1 := hB4.out.cell_some (by simp only; omega) q2
                      have hQd : rulesAll lv = L4 ++ (newOf p q true false ++ (((bp'.drop (iq + 1)).flatMap fun q => newOf p q true false) ++ (((ap'.drop (ip + 1)).flatMap fun p => bp'.flatMap fun q => newOf p q true false) ++ restJ lv i ap' 2 (0 + 1)))) := by
                        rw [hP4.out, drop_at hqq, List.flatMap_cons, List.append_assoc]
                      have hcc := hcall.out wr hW4 p q true false L4 hopp hoqq hp100 hq100 hS4.out (len_of hP4.out hlen) (fresh_of hQd hnd.out)
                      have hQe : rulesAll lv = (L4 ++ newOf p q true false) ++ (((bp'.drop (iq + 1)).flatMap fun q => newOf p q true false) ++ (((ap'.drop (ip + 1)).flatMap fun p => bp'.flatMap fun q => newOf p q true false) ++ restJ lv i ap' 2 (0 + 1))) := by rw [hQd]; simp only [List.append_assoc]
                      replace hcc : Aside _ := hcc
                      replace hQe : Aside _ := hQe
                      clear hQd hqc
                      go_wp2_with (go_at_call 54; refine Calls.mono hcc.out ?_; rintro e w9 ⟨⟨u, rfl⟩, hs9, ho9⟩)
                      go_roundg (bp'.length - (iq + 1))
                      case measure => omega
                      case rel => exact ⟨iq + 1, _, by go_num, by omega, by omega, hQe, hs9, hB4.out.trans ho9⟩
                    · have hqn : iq = bp'.length := by omega
                      subst hqn
                      have hPe : rulesAll lv = L4 ++ (((ap'.drop (ip + 1)).flatMap fun p => bp'.flatMap fun q => newOf p q true false) ++ restJ lv i ap' 2 (0 + 1)) := by rw [hP4.out]; simp
                      replace hPe : Aside _ := hPe
                      clear hP4
                      go_wp2
                      go_roundg (ap'.length - (ip + 1))
                      case measure => omega
                      case rel => exact ⟨ip + 1, L4, by go_num, by omega, by omega, hPe, hS4, hB4⟩
                · have hpn : ip = ap'.length := by omega
                  subst hpn
                  have hJe : rulesAll lv = L3 ++ restJ lv i ap' 2 (0 + 1) := by rw [hP3.out]; simp
                  replace hJe : Aside _ := hJe
                  clear hP3
                  go_wp2
                  go_roundg (lv.length - i - (0 + 1))
                  case measure => omega
                  case rel => exact ⟨0 + 1, L3, by go_num, by omega, by omega, hJe, hS3, hBW1.out.trans hB3.out⟩
            · have hR2c : rulesAll lv = L2 ++ (pairOf (ap', as') (bp', bs') true true ++ restJ lv i ap' as' (0 + 1)) := by
                rw [hR2.out, restJ_zero, hbe.1, hbe.2, ha3]; rfl
              replace hR2c : Aside _ := hR2c
              subst ha3
              clear hbe
              have d0 := e0
              go_wp2_with (go_at_call 52; refine Calls.mono hand.out ?_; rintro e w3 ⟨rfl, hk3⟩; have hO6 := hk3.alloc (.cells #[.slice none 0 0, .int .i64 1] 31); have q0 := hO6.cell_some p0; have hM6 : M < w3.heap.size := Nat.lt_of_lt_of_le (Nat.lt_of_lt_of_le hM5 hO5.out.size) hk3.size; have f0 := hO6.cell_some (hO5.out.cell_some (hB2.out.cell_some (by simp only; omega) e0)); have f1 := hO6.cell_some (hO5.out.cell_some (hB2.out.cell_some (by simp only; omega) e1)))
              (try simp only [hjb])
              have q1 : (w3.alloc (.cells #[.slice none 0 0, .int .i64 1] 31)).cell? ⟨w3.heap.size, 0, none⟩ = some (.slice none 0 0) := by simp
              have q2 : (w3.alloc (.cells #[.slice none 0 0, .int .i64 1] 31)).cell? ⟨w3.heap.size, 1, none⟩ = some (.int .i64 1) := by simp
              have hBW1 : OldBut M W1 (w3.alloc (.cells #[.slice none 0 0, .int .i64 1] 31)) := hB2.out.trans ((hO5.out.trans hO6).but)
              have hBW : OldBut M w (w3.alloc (.cells #[.slice none 0 0, .int .i64 1] 31)) := hB1.out.trans hBW1
              have hS3w := SetsAt.old (M := M) (L := L2) hS5.out hO6
              generalize w3.alloc (.cells #[.slice none 0 0, .int .i64 1] 31) = W3 at *
              generalize hn5 : wr.heap.size = n5 at *
              generalize hn6 : w3.heap.size = n6 at *
              replace hBW1 : Aside _ := hBW1
              replace hBW : Aside _ := hBW
              replace hS3w : Aside _ := hS3w
              clear hn5 hn6 hO6 hk3 hO5 hB2 hS5 hand p0 c2 c3 y0 y1 y2 y3 d0 hR2 hS2
              go_loopg [64] ap'.length (fun gg s wr => ∃ (ip : Nat) (L3 : List Fil), s = .int .i64 ip ∧ ap'.length - ip ≤ gg ∧ ip ≤ ap'.length ∧ Aside (rulesAll lv = L3 ++ (((ap'.drop ip).flatMap fun p => bp'.flatMap fun q => newOf p q true true) ++ restJ lv i ap' 3 (0 + 1))) ∧ Aside (SetsAt wr M L3) ∧ Aside (OldBut M W3 wr))
              case atStart => exact ⟨0, L2, rfl, by omega, by omega, (show Aside (rulesAll lv = L2 ++ (((ap'.drop 0).flatMap fun p => bp'.flatMap fun q => newOf p q true true) ++ restJ lv i ap' 3 (0 + 1))) from by simpa [Aside, pairOf] using hR2c.out), hS3w, OldBut.refl M W3⟩
              case round =>
                obtain ⟨ip, L3, rfl, hgp, hip, hP3, hS3, hB3⟩ := hrel
                by_cases hlp : ip < ap'.length
                · have hlp' : (ip : Int) < ap'.length := by omega
                  obtain ⟨p, hpp⟩ : ∃ p, ap'[ip]? = some p := ⟨_, List.getElem?_eq_getElem hlp⟩
                  have hW := hBW.out.trans hB3.out
                  obtain ⟨hOg4, hCo4, hTa4⟩ := hF.out wr hW
                  obtain ⟨bpp, opp, haa, hpc⟩ := hpa.out ip p hpp
                  have hpc4 := hOg4.cell_some hpc
                  subst haa
                  obtain ⟨hopp, hp100⟩ := hop.out _ (List.mem_of_getElem? hai.out) p (List.mem_of_getElem? hpp)
                  have v0 := hB3.out.cell_some (by simp only; omega) q0
                  have hPd : rulesAll lv = L3 ++ (((bp'.flatMap fun q => newOf p q true true)) ++ (((ap'.drop (ip + 1)).flatMap fun p => bp'.flatMap fun q => newOf p q true true) ++ restJ lv i ap' 3 (0 + 1))) := by
                    rw [hP3.out, drop_at hpp, List.flatMap_cons, List.append_assoc]
                  replace hPd : Aside _ := hPd
                  clear hP3 hpc
                  go_wp2
                  go_loopg [71] bp'.length (fun gg s wr => ∃ (iq : Nat) (L4 : List Fil), s = .int .i64 iq ∧ bp'.length - iq ≤ gg ∧ iq ≤ bp'.length ∧ Aside (rulesAll lv = L4 ++ (((bp'.drop iq).flatMap fun q => newOf p q true true) ++ (((ap'.drop (ip + 1)).flatMap fun p => bp'.flatMap fun q => newOf p q true true) ++ restJ lv i ap' 3 (0 + 1)))) ∧ Aside (SetsAt wr M L4) ∧ Aside (OldBut M W3 wr))
                  case atStart => exact ⟨0, L3, rfl, by omega, by omega, (show Aside (rulesAll lv = L3 ++ (((bp'.drop 0).flatMap fun q => newOf p q true true) ++ (((ap'.drop (ip + 1)).flatMap fun p => bp'.flatMap fun q => newOf p q true true) ++ restJ lv i ap' 3 (0 + 1)))) from by simpa [Aside] using hPd.out), hS3, hB3⟩
                  case round =>
                    obtain ⟨iq, L4, rfl, hgq, hiq, hP4, hS4, hB4⟩ := hrel
                    by_cases hlq : iq < bp'.length
                    · have hlq' : (iq : Int) < bp'.length := by omega
                      obtain ⟨q, hqq⟩ : ∃ q, bp'[iq]? = some q := ⟨_, List.getElem?_eq_getElem hlq⟩
                      have hW4 := hBW.out.trans hB4.out
                      obtain ⟨hOg5, _, _⟩ := hF.out wr hW4
                      obtain ⟨bqq, oqq, hab, hqc⟩ := hqa.out iq q hqq
                      have hqc4 := hOg5.cell_some hqc
                      subst hab
                      obtain ⟨hoqq, hq100⟩ := hop.out _ (List.mem_of_getElem? hbi.out) q (List.mem_of_getElem? hqq)
                      have u0 := hB4.out.cell_some (by simp only; omega) q1
                      have u1 := hB4.out.cell_some (by simp only; omega) q2
                      have hQd : rulesAll lv = L4 ++ (newOf p q true true ++ (((bp'.drop (iq + 1)).flatMap fun q => newOf p q true true) ++ (((ap'.drop (ip + 1)).flatMap fun p => bp'.flatMap fun q => newOf p q true true) ++ restJ lv i ap' 3 (0 + 1)))) := by
                        rw [hP4.out, drop_at hqq, List.flatMap_cons, List.append_assoc]
                      have hcc := hcall.out wr hW4 p q true true L4 hopp hoqq hp100 hq100 hS4.out (len_of hP4.out hlen) (fresh_of hQd hnd.out)
                      have hQe : rulesAll lv = (L4 ++ newOf p q true true) ++ (((bp'.drop (iq + 1)).flatMap fun q => newOf p q true true) ++ (((ap'.drop (ip + 1)).flatMap fun p => bp'.flatMap fun q => newOf p q true true) ++ restJ lv i ap' 3 (0 + 1))) := by rw [hQd]; simp only [List.append_assoc]
                      replace hcc : Aside _ := hcc
                      replace hQe : Aside _ := hQe
                      clear hQd hqc
                      go_wp2_with (go_at_call 54; refine Calls.mono hcc.out ?_; rintro e w9 ⟨⟨u, rfl⟩, hs9, ho9⟩)
                      go_roundg (bp'.length - (iq + 1))
                      case measure => omega
                      case rel => exact ⟨iq + 1, _, by go_num, by omega, by omega, hQe, hs9, hB4.out.trans ho9⟩
                    · have hqn : iq = bp'.length := by omega
                      subst hqn
                      have hPe : rulesAll lv = L4 ++ (((ap'.drop (ip + 1)).flatMap fun p => bp'.flatMap fun q => newOf p q true true) ++ restJ lv i ap' 3 (0 + 1)) := by rw [hP4.out]; simp
                      replace hPe : Aside _ := hPe
                      clear hP4
                      go_wp2
                      go_roundg (ap'.length - (ip + 1))
                      case measure => omega
                      case rel => exact ⟨ip + 1, L4, by go_num, by omega, by omega, hPe, hS4, hB4⟩
                · have hpn : ip = ap'.length := by omega
                  subst hpn
                  have hJe : rulesAll lv = L3 ++ restJ lv i ap' 3 (0 + 1) := by rw [hP3.out]; simp
                  replace hJe : Aside _ := hJe
                  clear hP3
                  go_wp2
                  go_roundg (lv.length - i - (0 + 1))
                  case measure => omega
                  case rel => exact ⟨0 + 1, L3, by go_num, by omega, by omega, hJe, hS3, hBW1.out.trans hB3.out⟩
          · have hR2c : rulesAll lv = L2 ++ (pairOf (ap', as') (bp', bs') true true ++ restJ lv i ap' as' (j + 1)) := by
              rw [hR2.out, restJ_succ ap' as' hj0 hbi.out]
            have hjn : ¬ (j : Int) = 0 := by omega
            have hjb : ((j : Int) == 0) = false := by simpa using hjn
            replace hR2c : Aside _ := hR2c
            clear has'
            have d0 := e0
            go_wp2_with (go_at_call 52; refine Calls.mono hand.out ?_; rintro e w3 ⟨rfl, hk3⟩; have hO6 := hk3.alloc (.cells #[.slice none 0 0, .int .i64 1] 31); have q0 := hO6.cell_some p0; have hM6 : M < w3.heap.size := Nat.lt_of_lt_of_le (Nat.lt_of_lt_of_le hM5 hO5.out.size) hk3.size; have f0 := hO6.cell_some (hO5.out.cell_some (hB2.out.cell_some (by simp only; omega) e0)); have f1 := hO6.cell_some (hO5.out.cell_some (hB2.out.cell_some (by simp only; omega) e1)))
            (try simp only [hjb])
            have q1 : (w3.alloc (.cells #[.slice none 0 0, .int .i64 1] 31)).cell? ⟨w3.heap.size, 0, none⟩ = some (.slice none 0 0) := by simp
            have q2 : (w3.alloc (.cells #[.slice none 0 0, .int .i64 1] 31)).cell? ⟨w3.heap.size, 1, none⟩ = some (.int .i64 1) := by simp
            have hBW1 : OldBut M W1 (w3.alloc (.cells #[.slice none 0 0, .int .i64 1] 31)) := hB2.out.trans ((hO5.out.trans hO6).but)
            have hBW : OldBut M w (w3.alloc (.cells #[.slice none 0 0, .int .i64 1] 31)) := hB1.out.trans hBW1
            have hS3w := SetsAt.old (M := M) (L := L2) hS5.out hO6
            generalize w3.alloc (.cells #[.slice none 0 0, .int .i64 1] 31) = W3 at *
            generalize hn5 : wr.heap.size = n5 at *
            generalize hn6 : w3.heap.size = n6 at *
            replace hBW1 : Aside _ := hBW1
            replace hBW : Aside _ := hBW
            replace hS3w : Aside _ := hS3w
            clear hn5 hn6 hO6 hk3 hO5 hB2 hS5 hand p0 c2 c3 y0 y1 y2 y3 d0 hR2 hS2
            go_loopg [64] ap'.length (fun gg s wr => ∃ (ip : Nat) (L3 : List Fil), s = .int .i64 ip ∧ ap'.length - ip ≤ gg ∧ ip ≤ ap'.length ∧ Aside (rulesAll lv = L3 ++ (((ap'.drop ip).flatMap fun p => bp'.flatMap fun q => newOf p q true true) ++ restJ lv i ap' as' (j + 1))) ∧ Aside (SetsAt wr M L3) ∧ Aside (OldBut M W3 wr))
            case atStart => exact ⟨0, L2, rfl, by omega, by omega, (show Aside (rulesAll lv = L2 ++ (((ap'.drop 0).flatMap fun p => bp'.flatMap fun q => newOf p q true true) ++ restJ lv i ap' as' (j + 1))) from by simpa [Aside, pairOf] using hR2c.out), hS3w, OldBut.refl M W3⟩
            case round =>
              obtain ⟨ip, L3, rfl, hgp, hip, hP3, hS3, hB3⟩ := hrel
              by_cases hlp : ip < ap'.length
              · have hlp' : (ip : Int) < ap'.length := by omega
                obtain ⟨p, hpp⟩ : ∃ p, ap'[ip]? = some p := ⟨_, List.getElem?_eq_getElem hlp⟩
                have hW := hBW.out.trans hB3.out
                obtain ⟨hOg4, hCo4, hTa4⟩ := hF.out wr hW
                obtain ⟨bpp, opp, haa, hpc⟩ := hpa.out ip p hpp
                have hpc4 := hOg4.cell_some hpc
                subst haa
                obtain ⟨hopp, hp100⟩ := hop.out _ (List.mem_of_getElem? hai.out) p (List.mem_of_getElem? hpp)
                have v0 := hB3.out.cell_some (by simp only; omega) q0
                have hPd : rulesAll lv = L3 ++ (((bp'.flatMap fun q => newOf p q true true)) ++ (((ap'.drop (ip + 1)).flatMap fun p => bp'.flatMap fun q => newOf p q true true) ++ restJ lv i ap' as' (j + 1))) := by
                  rw [hP3.out, drop_at hpp, List.flatMap_cons, List.append_assoc]
                replace hPd : Aside _ := hPd
                clear hP3 hpc
                go_wp2
                go_loopg [71] bp'.length (fun gg s wr => ∃ (iq : Nat) (L4 : List Fil), s = .int .i64 iq ∧ bp'.length - iq ≤ gg ∧ iq ≤ bp'.length ∧ Aside (rulesAll lv = L4 ++ (((bp'.drop iq).flatMap fun q => newOf p q true true) ++ (((ap'.drop (ip + 1)).flatMap fun p => bp'.flatMap fun q => newOf p q true true) ++ restJ lv i ap' as' (j + 1)))) ∧ Aside (SetsAt wr M L4) ∧ Aside (OldBut M W3 wr))
                case atStart => exact ⟨0, L3, rfl, by omega, by omega, (show Aside (rulesAll lv = L3 ++ (((bp'.drop 0).flatMap fun q => newOf p q true true) ++ (((ap'.drop (ip + 1)).flatMap fun p => bp'.flatMap fun q => newOf p q true true) ++ restJ lv i ap' as' (j + 1)))) from by simpa [Aside] using hPd.out), hS3, hB3⟩
                case round =>
                  obtain ⟨iq, L4, rfl, hgq, hiq, hP4, hS4, hB4⟩ := hrel
                  by_cases hlq : iq < bp'.length
                  · have hlq' : (iq : Int) < bp'.length := by omega
                    obtain ⟨q, hqq⟩ : ∃ q, bp'[iq]? = some q := ⟨_, List.getElem?_eq_getElem hlq⟩
                    have hW4 := hBW.out.trans hB4.out
                    obtain ⟨hOg5, _, _⟩ := hF.out wr hW4
                    obtain ⟨bqq, oqq, hab, hqc⟩ := hqa.out iq q hqq
                    have hqc4 := hOg5.cell_some hqc
                    subst hab
                    obtain ⟨hoqq, hq100⟩ := hop.out _ (List.mem_of_getElem? hbi.out) q (List.mem_of_getElem? hqq)
                    have u0 := hB4.out.cell_some (by simp only; omega) q1
                    have u1 := hB4.out.cell_some (by simp only; omega) q2
                    have hQd : rulesAll lv = L4 ++ (newOf p q true true ++ (((bp'.drop (iq + 1)).flatMap fun q => newOf p q true true) ++ (((ap'.drop (ip + 1)).flatMap fun p => bp'.flatMap fun q => newOf p q true true) ++ restJ lv i ap' as' (j + 1)))) := by
                      rw [hP4.out, drop_at hqq, List.flatMap_cons, List.append_assoc]
                    have hcc := hcall.out wr hW4 p q true true L4 hopp hoqq hp100 hq100 hS4.out (len_of hP4.out hlen) (fresh_of hQd hnd.out)
                    have hQe : rulesAll lv = (L4 ++ newOf p q true true) ++ (((bp'.drop (iq + 1)).flatMap fun q => newOf p q true true) ++ (((ap'.drop (ip + 1)).flatMap fun p => bp'.flatMap fun q => newOf p q true true) ++ restJ lv i ap' as' (j + 1))) := by rw [hQd]; simp only [List.append_assoc]
                    replace hcc : Aside _ := hcc
                    replace hQe : Aside _ := hQe
                    clear hQd hqc
                    go_wp2_with (go_at_call 54; refine Calls.mono hcc.out ?_; rintro e w9 ⟨⟨u, rfl⟩, hs9, ho9⟩)
                    go_roundg (bp'.length - (iq + 1))
                    case measure => omega
                    case rel => exact ⟨iq + 1, _, by go_num, by omega, by omega, hQe, hs9, hB4.out.trans ho9⟩
                  · have hqn : iq = bp'.length := by omega
                    subst hqn
                    have hPe : rulesAll lv = L4 ++ (((ap'.drop (ip + 1)).flatMap fun p => bp'.flatMap fun q => newOf p q true true) ++ restJ lv i ap' as' (j + 1)) := by rw [hP4.out]; simp
                    replace hPe : Aside _ := hPe
                    clear hP4
                    go_wp2
                    go_roundg (ap'.length - (ip + 1))
                    case measure => omega
                    case rel => exact ⟨ip + 1, L4, by go_num, by omega, by omega, hPe, hS4, hB4⟩
              · have hpn : ip = ap'.length := by omega
                subst hpn
                have hJe : rulesAll lv = L3 ++ restJ lv i ap' as' (j + 1) := by rw [hP3.out]; simp
                replace hJe : Aside _ := hJe
                clear hP3
                go_wp2
                go_roundg (lv.length - i - (j + 1))
                case measure => omega
                case rel => exact ⟨j + 1, L3, by go_num, by omega, by omega, hJe, hS3, hBW1.out.trans hB3.out⟩
        · have hjn : j = lv.length - i := by omega
          have hLn : rulesAll lv = L2 ++ rulesAll (lv.drop (i + 1)) := by
            rw [hR2.out, restJ_end ap' as' (by omega) (by omega)]
          have hjl2 : ((lv.length - i : Nat) : Int) ≤ j := by omega
          replace hLn : Aside _ := hLn
          clear hR2
          go_wp2
          go_roundg (lv.length - (i + 1))
          case measure => omega
          case rel => exact ⟨i + 1, L2, by go_num, by omega, by omega, hLn, hS2, hB1.out.trans hB2.out⟩
    · have hin : i = lv.length := by omega
      subst hin
      have hfin : SetsAt wr M (rulesAll lv) ∧ OldBut M w wr := ⟨by
        have h1 := hLe.out
        rw [List.drop_of_length_le (Nat.le_refl _)] at h1
        have : rulesAll lv = L := by rw [h1]; simp [rulesAll]
        rw [this]
        exact hLs.out, hO.out⟩
      replace hfin : Aside _ := hfin
      clear hLe hLs hO
      go_wp2
      go_end0
      exact ⟨⟨_, rfl⟩, hfin.out.1, hfin.out.2⟩
end Go.Pri
end

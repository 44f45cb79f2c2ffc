/-
  PriorityOperators: parts of its proof (Co3 Pr27 Va0 Va1 Gr1 Pr25).
-/
import Derived.Shelf.SlSortCmp.InsertionK
import Derived.Shelf.Lay
import Derived.Ground.SlsfProg
import Derived.Test.YtfadmmecedicjaaGreatDoorK11
import Derived.Test.YtfadmmecedicjaaGreatDoorK16
import Derived.Test.YtfadmmecedicjaaGreatDoorK22
import Derived.Test.YtfadmmecedicjaaGreatDoorK23
set_option linter.unusedVariables false
set_option linter.unusedSimpArgs false

section
/-
  The order of trees: plain, and what its closure reads.
-/
namespace Go.Pri
open Go Go.Abs Go.Proofs Go.RowKit Go.Lib

def posZ (la lb : List Nd) (k l : Nat) : Int := match la[k]?, lb[l]? with
  | some x, some y => posC x y
  | _, _ => 0
def headC (x y : Nd) : Int := firstNZ [cmpI x.tok y.tok, cmpI x.p y.p, posC x y]
def ordN (la lb : List Nd) (KA KB : Nat → List Nat) : Nat → Nat → Nat → Int
  | 0, _, _ => 0
  | N + 1, i, j => match la[i]?, lb[j]? with
    | some x, some y => if headC x y = 0 then
        (if firstNZ (((KA i).zip (KB j)).map fun z => posZ la lb z.1 z.2) = 0 then firstNZ (((KA i).zip (KB j)).map fun z => ordN la lb KA KB N z.1 z.2) else firstNZ (((KA i).zip (KB j)).map fun z => posZ la lb z.1 z.2))
      else headC x y
    | _, _ => 0

/-- What the closure reads. -/
structure OrdM (w : World) (Ba Bb Bx By Bo bx by' : Nat) (tva tvb : Value) (la lb : List Nd) (outa outb : List Int) : Prop where
  a : w.cell? ⟨Ba, 0, none⟩ = some tva
  b : w.cell? ⟨Bb, 0, none⟩ = some tvb
  x : w.cell? ⟨Bx, 0, none⟩ = some (.slice (some ⟨bx, 0, none⟩) la.length la.length)
  y : w.cell? ⟨By, 0, none⟩ = some (.slice (some ⟨by', 0, none⟩) lb.length lb.length)
  o : w.cell? ⟨Bo, 0, none⟩ = some (.func (.func 22) #[] #[.pointer (some ⟨Ba, 0, none⟩), .pointer (some ⟨Bb, 0, none⟩), .pointer (some ⟨Bx, 0, none⟩), .pointer (some ⟨By, 0, none⟩), .pointer (some ⟨Bo, 0, none⟩)])
  sa : SliceAt 4 w tva (la.map encN)
  sb : SliceAt 4 w tvb (lb.map encN)
  na : NumsAt w bx outa
  nb : NumsAt w by' outb
theorem OrdM.old {w w' : World} {Ba Bb Bx By Bo bx by' : Nat} {tva tvb : Value} {la lb : List Nd} {outa outb : List Int} (h : OrdM w Ba Bb Bx By Bo bx by' tva tvb la lb outa outb) (ho : Old w w') : OrdM w' Ba Bb Bx By Bo bx by' tva tvb la lb outa outb :=
  ⟨ho.cell_some h.a, ho.cell_some h.b, ho.cell_some h.x, ho.cell_some h.y, ho.cell_some h.o, h.sa.old ho, h.sb.old ho, h.na.old ho, h.nb.old ho⟩

/-- What the trees are. -/
structure OrdP (la lb : List Nd) (outa outb : List Int) (KA KB : Nat → List Nat) : Prop where
  lena : outa.length = la.length
  lenb : outb.length = lb.length
  ka : ∀ i, i < la.length → (∃ stop, outa[i]? = some stop ∧ IsKids outa stop (i + 1) ((KA i).map fun k : Nat => (k : Int))) ∧ (∀ k ∈ KA i, i < k ∧ k < la.length) ∧ (KA i).length ≤ 1000
  kb : ∀ i, i < lb.length → (∃ stop, outb[i]? = some stop ∧ IsKids outb stop (i + 1) ((KB i).map fun k : Nat => (k : Int))) ∧ (∀ k ∈ KB i, i < k ∧ k < lb.length) ∧ (KB i).length ≤ 1000
  fit : ∀ (i j : Nat) x y, la[i]? = some x → lb[j]? = some y → x.p = y.p → (KA i).length = (KB j).length
  small : la.length ≤ 1000 ∧ lb.length ≤ 1000

theorem own_intcell {w : World} {base : Nat} {v : Value} {ks : List Int} (h : w.ownsRow base 3 1 v ks.length (ks.map (Value.int .i64))) {n : Nat} {k : Int} (hk : ks[n]? = some k) : ∃ g cap, v = .slice (some ⟨g, 0, none⟩) ks.length cap ∧ w.cell? ⟨g, n, none⟩ = some (.int .i64 k) := by
  have hl := (List.getElem?_eq_some_iff.1 hk).1
  rcases h.2 with ⟨_, hx⟩ | ⟨g, cap, cur, hv, _, h1, _, _, _, h2⟩
  · omega
  · refine ⟨g, cap, hv, ?_⟩
    have h3 : (ks.map (Value.int .i64))[n]? = some (.int .i64 k) := by simp [hk]
    rw [← h2, List.getElem?_take, Nat.mul_one, if_pos hl] at h3
    simp only [World.cell?, h1]
    simpa using h3
theorem cmpI_zero' (x y : Int) : cmpI x y = 0 ↔ x = y := by
  unfold cmpI
  constructor
  · intro h
    split at h
    · cases h
    · split at h
      · cases h
      · omega
  · intro h
    subst h
    simp
theorem headC_zero (x y : Nd) : headC x y = 0 ↔ x = y := by
  obtain ⟨a, b, c, d⟩ := x
  obtain ⟨a', b', c', d'⟩ := y
  simp only [headC, posC, firstNZ_iff, List.mem_cons, List.not_mem_nil, or_false, forall_eq_or_imp, forall_eq, cmpI_zero', Nd.mk.injEq]
  constructor
  · rintro ⟨h1, h2, _, h3, h4⟩
    exact ⟨h2, h1, h3, h4⟩
  · rintro ⟨h1, h2, h3, h4⟩
    exact ⟨h2, h1, h2, h3, h4⟩
end Go.Pri
end

section
/-
  checkLevels, of levels that hold each operator once: walked.
-/
namespace Go.Pri
open Go Go.Abs Go.Proofs Go.RowKit Go.Lib Go.Maps

set_option maxRecDepth 100000 in
noncomputable def k121 : Known := { f := 121, args := [dTrue, .int .i64 2], rows := [(0, table, 0)], res := .bool true, top := 1 }
set_option maxRecDepth 100000 in
theorem r121 : gives6 k121.res (call (envM []) 200 k121.f k121.args (knownHeap k121)) = true := by kernel_rfl
set_option maxRecDepth 100000 in
theorem self121 : knownAt k121 121 k121.args (knownHeap k121) = true := by kernel_rfl
theorem fits121 {w : World} (ht : TabAt w) : Calls Tryz.prog 121 #[.agg #[.slice none 0 0, .int .i64 1], .int .i64 2] w fun en w' => en = .returned (.bool true) ∧ Keeps w w' := by
  have hg : Good k121 := good_of6 (ms := []) (fun _ h => by cases h) r121 rfl
  exact hg.plain rfl (by decide) self121 ht (fun ρ => .cons (vsTrue ρ) (.cons (.int _ _) .nil))

theorem keyed3 : Keyed Tryz.prog 3 := int_keyed Tryz.underlying3
def RB (v : Value) : Option (DatU × List MemPlace) := match v with
  | .bool b => some (.lit (.bool b), [])
  | _ => none
theorem RB_form {v : Value} {b : Bool} {ps : List MemPlace} (h : RB v = some (.lit (.bool b), ps)) : v = .bool b := by
  cases v <;> simp [RB] at h
  rw [h.1]

/-- A set of numbers in a map. -/
def NumSet (w : World) (M : Nat) (S : List Nat) : Prop := ∃ D : DatU, w.ownsMap Tryz.prog 3 RB M S.length D ∧ IsMap D ∧ ∀ p : Nat, D.atKey (.int .i64 (p : Nat)) (.lit (.bool false)) = .lit (.bool (decide (p ∈ S)))
theorem numset_old {w W : World} {M n : Nat} {D : DatU} (h : w.ownsMap Tryz.prog 3 RB M n D) (ho : Old w W) : W.ownsMap Tryz.prog 3 RB M n D := by
  obtain ⟨es, clock, h1, h2⟩ := h
  exact ⟨es, clock, (ho.heap M (Array.getElem?_eq_some_iff.1 h1).1).trans h1, h2⟩
theorem NumSet.old {w W : World} {M : Nat} {S : List Nat} (h : NumSet w M S) (ho : Old w W) : NumSet W M S := by
  obtain ⟨D, h1, h2⟩ := h
  exact ⟨D, numset_old h1 ho, h2⟩
theorem numset_made (w : World) : NumSet (w.alloc (.map #[] 0)) w.heap.size [] :=
  ⟨.map [], World.ownsMap_made w _ _ _, isMap_empty, fun p => by simp [DataW.atKey]⟩
theorem wf64 {p : Nat} (h : p ≤ 100) : (Lit.int .i64 (p : Int)).wf = true := wf_nat (by omega)

theorem NumSet.look {w : World} {M : Nat} {S : List Nat} (h : NumSet w M S) {p : Nat} (hp : p ≤ 100) : (Instr.lookup 217 (.map (some M)) (.int .i64 (p : Nat)) false).run Tryz.prog w = .ok (.bool (decide (p ∈ S))) w := by
  obtain ⟨D, h1, h2, h3⟩ := h
  have hz : (zeroValue 4).run Tryz.prog w = .ok (.bool false) w := Tryz.zeroValue4 w
  obtain ⟨v, ps, hr, hv⟩ := h1.lookup keyed3 Tryz.underlying217 hz (zd := .lit (.bool false)) (zp := []) rfl (keyOf_int_mk Tryz.underlying3 (wf64 hp))
  rw [h3 p] at hv
  rw [RB_form hv] at hr
  exact hr
theorem NumSet.put {w : World} {M : Nat} {S : List Nat} (h : NumSet w M S) {p : Nat} (hp : p ≤ 100) (hn : S.length ≤ 5000) : ∃ w', (Instr.mapUpdate 217 (.map (some M)) (.int .i64 (p : Nat)) (.bool true)).run Tryz.prog w = .ok () w' ∧ NumSet w' M (S ++ [p]) ∧ w.grownBy w' (some M) := by
  obtain ⟨D, h1, h2, h3⟩ := h
  have hk := keyOf_int_mk (P := Tryz.prog) Tryz.underlying3 (wf64 hp)
  obtain ⟨w', hr, hm, hg⟩ := h1.update keyed3 Tryz.underlying217 (by unfold maxLen; omega) hk (val := .bool true) (d := .lit (.bool true)) (ps := []) rfl
  refine ⟨w', hr, ⟨_, by simpa using hm, h2.put _ _, fun q => ?_⟩, hg⟩
  by_cases e : q = p
  · subst e
    rw [atKey_put_same h2 (keyed3.key hk)]
    simp
  · rw [atKey_put_other (fun e2 => e (by simp at e2; omega)), h3 q]
    simp [e]

/-- What the levels hold, ahead of one. -/
def heldTo (lv : List Lv) (i : Nat) : List Nat := (lv.take i).flatMap (·.1)
theorem heldTo_succ {lv : List Lv} {i : Nat} {a : Lv} (h : lv[i]? = some a) : heldTo lv (i + 1) = heldTo lv i ++ a.1 := by
  simp [heldTo, List.take_add_one, h]
theorem held_new {lv : List Lv} {i j p : Nat} {a : Lv} (hi : lv[i]? = some a) (hj : a.1[j]? = some p) (hn : (lv.flatMap (·.1)).Nodup) : p ∉ heldTo lv i ++ a.1.take j := by
  have e : lv.flatMap (·.1) = heldTo lv i ++ (a.1 ++ (lv.drop (i + 1)).flatMap (·.1)) := by
    have h := congrArg (fun l : List Lv => l.flatMap (·.1)) (List.take_append_drop i lv)
    rw [← h, drop_at hi]
    simp [heldTo]
  rw [e, ← List.append_assoc, List.nodup_append] at hn
  have h1 := hn.1
  have e2 : a.1 = a.1.take j ++ (p :: a.1.drop (j + 1)) := by
    conv => lhs; rw [← List.take_append_drop j a.1, drop_at hj]
  rw [e2, ← List.append_assoc, List.nodup_append] at h1
  intro hp
  exact h1.2.2 p hp p (by simp) rfl

set_option maxRecDepth 100000 in
set_option maxHeartbeats 8000000 in
theorem levels96 (a0 a5 a7 : Option Addr) (cap0 cap5 cap7 k7 np : Nat) (c3 c4 c6 c8 : Value) (lv : List Lv) (w : World) (htab : TabAt w) (hlv : LvAt w (.slice a7 lv.length cap7) lv) (has : ∀ a ∈ lv, 0 ≤ a.2 ∧ a.2 ≤ 3) (hp : ∀ a ∈ lv, ∀ p ∈ a.1, p < np) (hnp : np ≤ 100)
    (hnd : (lv.flatMap (·.1)).Nodup) (hlvl : lv.length ≤ 100) (hpl : ∀ a ∈ lv, a.1.length ≤ 100) (hto : (lv.flatMap (·.1)).length ≤ 1000) :
    Calls Tryz.prog 96 #[.agg #[.slice a0 2 cap0, .slice none 0 0, .int .i64 1, c3, c4, .slice a5 np cap5, c6, .slice a7 lv.length k7, c8]] w fun e w' => e = .returned (.int .i64 0) ∧ Old w w' := by
  have hA : Old w (w.alloc (.cells #[.slice a0 2 cap0, .slice none 0 0, .int .i64 1, c3, c4, .slice a5 np cap5, c6, .slice a7 lv.length k7, c8] 37)) := (Old.refl w).alloc _
  have hB : Old w ((w.alloc (.cells #[.slice a0 2 cap0, .slice none 0 0, .int .i64 1, c3, c4, .slice a5 np cap5, c6, .slice a7 lv.length k7, c8] 37)).alloc (.map #[] 0)) := hA.alloc _
  have hset := numset_made (w.alloc (.cells #[.slice a0 2 cap0, .slice none 0 0, .int .i64 1, c3, c4, .slice a5 np cap5, c6, .slice a7 lv.length k7, c8] 37))
  rw [World.size_alloc] at hset
  have hbx : ∀ W, OldBut (w.heap.size + 1) ((w.alloc (.cells #[.slice a0 2 cap0, .slice none 0 0, .int .i64 1, c3, c4, .slice a5 np cap5, c6, .slice a7 lv.length k7, c8] 37)).alloc (.map #[] 0)) W →
      W.cell? ⟨w.heap.size, 0, none⟩ = some (.slice a0 2 cap0) ∧ W.cell? ⟨w.heap.size, 5, none⟩ = some (.slice a5 np cap5) ∧ W.cell? ⟨w.heap.size, 7, none⟩ = some (.slice a7 lv.length k7) ∧ Old w W ∧ TabAt W := fun W h => by
    refine ⟨h.cell_some (by simp) (by simp), h.cell_some (by simp) (by simp), h.cell_some (by simp) (by simp), OldBut.oldOf hB (by omega) h, htab.old (OldBut.oldOf hB (by omega) h)⟩
  have b0 := (hbx _ (OldBut.refl _ _)).2.2.1
  have hszW : ((w.alloc (.cells #[.slice a0 2 cap0, .slice none 0 0, .int .i64 1, c3, c4, .slice a5 np cap5, c6, .slice a7 lv.length k7, c8] 37)).alloc (.map #[] 0)).heap.size = w.heap.size + 2 := by simp
  replace hbx : Aside _ := hbx
  replace hlv : Aside _ := hlv
  replace hset : Aside _ := hset
  replace has : Aside _ := has
  replace hp : Aside _ := hp
  replace hnd : Aside _ := hnd
  replace hpl : Aside _ := hpl
  replace hto : Aside _ := hto
  clear hA hB htab
  have hmm := @run_makeMap Tryz.prog
  go_enter Tryz.func96, Tryz.ntmps96
  go_wp2
  generalize hW0 : (w.alloc (.cells #[.slice a0 2 cap0, .slice none 0 0, .int .i64 1, c3, c4, .slice a5 np cap5, c6, .slice a7 lv.length k7, c8] 37)).alloc (.map #[] 0) = W0 at *
  clear hW0 hmm
  go_loopg [12] lv.length (fun gg s wr => ∃ i : Nat, s = .int .i64 i ∧ lv.length - i ≤ gg ∧ i ≤ lv.length ∧ Aside (NumSet wr (w.heap.size + 1) (heldTo lv i)) ∧ Aside (OldBut (w.heap.size + 1) W0 wr))
  case atStart => exact ⟨0, rfl, by omega, by omega, hset, OldBut.refl _ _⟩
  case round =>
    obtain ⟨i, rfl, hgi, hil, hS, hO⟩ := hrel
    by_cases hlt : i < lv.length
    · have hlt' : (i : Int) < lv.length := by omega
      obtain ⟨⟨ap', as'⟩, hai⟩ : ∃ a, lv[i]? = some a := ⟨_, List.getElem?_eq_getElem hlt⟩
      obtain ⟨x0, x5, x7, hOw, hTa⟩ := hbx.out wr hO.out
      obtain ⟨b7, o7, cap7', aa, ca, hce, hcap, y0, y1, y2, y3, hpa⟩ := LvAt.cells hlv.out hai
      cases hce
      simp only at y0 y1 hpa
      have y0 := hOw.cell_some y0
      have y1 := hOw.cell_some y1
      have y2 := hOw.cell_some y2
      have y3 := hOw.cell_some y3
      have has' := has.out _ (List.mem_of_getElem? hai)
      simp only at has'
      have ha1 : ¬ as' < 0 := by omega
      have ha2 : ¬ as' > 3 := by omega
      have ha3 : ¬ 3 < as' := by omega
      have ha100 : ap'.length ≤ 100 := hpl.out _ (List.mem_of_getElem? hai)
      have hO1 : Old wr (wr.alloc (.cells #[.slice aa ap'.length ca, .int .i64 as', .slice none 0 0, .int .i64 1] 76)) := (Old.refl wr).alloc _
      have x0' := hO1.cell_some x0
      have e1 : (wr.alloc (.cells #[.slice aa ap'.length ca, .int .i64 as', .slice none 0 0, .int .i64 1] 76)).cell? ⟨wr.heap.size, 1, none⟩ = some (.int .i64 as') := by simp
      have e2 : (wr.alloc (.cells #[.slice aa ap'.length ca, .int .i64 as', .slice none 0 0, .int .i64 1] 76)).cell? ⟨wr.heap.size, 2, none⟩ = some (.slice none 0 0) := by simp
      have e3 : (wr.alloc (.cells #[.slice aa ap'.length ca, .int .i64 as', .slice none 0 0, .int .i64 1] 76)).cell? ⟨wr.heap.size, 3, none⟩ = some (.int .i64 1) := by simp
      have e0 : (wr.alloc (.cells #[.slice aa ap'.length ca, .int .i64 as', .slice none 0 0, .int .i64 1] 76)).cell? ⟨wr.heap.size, 0, none⟩ = some (.slice aa ap'.length ca) := by simp
      have hfit := fits121 (hTa.old hO1)
      replace hfit : Aside _ := hfit
      replace hpa : Aside _ := hpa
      replace hai : Aside _ := hai
      clear hOw hTa has'
      go_wp2_with (go_at_call 121; refine Calls.mono hfit.out ?_; rintro e w3 ⟨rfl, hk3⟩; have hO3 := hO1.trans hk3.old; have e0' := hk3.cell_some e0)
      have hB3 : OldBut (w.heap.size + 1) W0 w3 := hO.out.trans hO3.but
      have hS3 := NumSet.old hS.out hO3
      replace hB3 : Aside _ := hB3
      replace hS3 : Aside _ := hS3
      clear hO3 hO1 hk3 hfit y0 y1 y2 y3 x0 x5 x7 x0' e0 e1 e2 e3 hS hO
      generalize wr.heap.size = n3 at *
      go_loopg [36] ap'.length (fun gg s wr => ∃ j : Nat, s = .int .i64 j ∧ ap'.length - j ≤ gg ∧ j ≤ ap'.length ∧ Aside (NumSet wr (w.heap.size + 1) (heldTo lv i ++ ap'.take j)) ∧ Aside (OldBut (w.heap.size + 1) W0 wr))
      case atStart => exact ⟨0, rfl, by omega, by omega, (by rw [List.take_zero, List.append_nil]; exact hS3), hB3⟩
      case round =>
        obtain ⟨j, rfl, hgj, hjl, hS4, hO4⟩ := hrel
        by_cases hlj : j < ap'.length
        · have hlj' : (j : Int) < ap'.length := by omega
          obtain ⟨q, hqq⟩ : ∃ q, ap'[j]? = some q := ⟨_, List.getElem?_eq_getElem hlj⟩
          obtain ⟨x0, x5, x7, hOw, hTa⟩ := hbx.out wr hO4.out
          obtain ⟨bp, op, haa, hpc⟩ := hpa.out j q hqq
          have hpc4 := hOw.cell_some hpc
          subst haa
          have hq := hp.out _ (List.mem_of_getElem? hai.out) q (List.mem_of_getElem? hqq)
          have hq1 : ¬ (q : Int) < 0 := by omega
          have hq2 : ¬ (q : Int) ≥ np := by omega
          have hq3 : ¬ (np : Int) ≤ q := by omega
          have hlook := NumSet.look hS4.out (p := q) (by omega)
          have hnew : decide (q ∈ heldTo lv i ++ ap'.take j) = false := decide_eq_false (held_new hai.out hqq hnd.out)
          rw [hnew] at hlook
          have hle : (heldTo lv i ++ ap'.take j).length ≤ 5000 := by
            have h1 : (heldTo lv i).length ≤ 1000 := by
              refine Nat.le_trans ?_ hto.out
              have h := congrArg (fun l : List Lv => (l.flatMap (·.1)).length) (List.take_append_drop i lv)
              simp only [List.flatMap_append, List.length_append] at h
              simp only [heldTo]
              omega
            have h2 : (ap'.take j).length ≤ 100 := by simp; omega
            simp only [List.length_append]
            omega
          obtain ⟨w5, hup, hS5, hg5⟩ := NumSet.put hS4.out (p := q) (by omega) hle
          have hB5 : OldBut (w.heap.size + 1) W0 w5 := hO4.out.grown hg5 (fun k hk => by cases hk; exact .inr rfl)
          have hS6 : NumSet w5 (w.heap.size + 1) (heldTo lv i ++ ap'.take (j + 1)) := by
            rw [List.take_add_one, hqq]
            simpa using hS5
          replace hB5 : Aside _ := hB5
          replace hS6 : Aside _ := hS6
          clear hOw hTa hS5 hg5 hS4 hO4 hpc
          go_wp2
          go_roundg (ap'.length - (j + 1))
          case measure => omega
          case rel => exact ⟨j + 1, by go_num, by omega, by omega, hS6, hB5⟩
        · have hjn : j = ap'.length := by omega
          subst hjn
          have hS6 : NumSet wr (w.heap.size + 1) (heldTo lv (i + 1)) := by
            have := hS4.out
            rwa [List.take_of_length_le (Nat.le_refl _), ← show heldTo lv (i + 1) = heldTo lv i ++ ap' from heldTo_succ hai.out] at this
          replace hS6 : Aside _ := hS6
          clear hS4
          go_wp2
          go_roundg (lv.length - (i + 1))
          case measure => omega
          case rel => exact ⟨i + 1, by go_num, by omega, by omega, hS6, hO4⟩
    · have hin : i = lv.length := by omega
      subst hin
      obtain ⟨x0, x5, x7, hOw, hTa⟩ := hbx.out wr hO.out
      replace hOw : Aside _ := hOw
      clear hS hTa
      go_wp2
      go_ret
      exact ⟨rfl, hOw.out⟩
end Go.Pri
end

section
/-
  The grammars of the operators as the closed calls see them; the environment with pinned objects.
-/
open Go Go.Abs Go.Proofs
namespace Go.Pri
set_option maxRecDepth 100000

noncomputable def rowE : List Value := [.string ⟨#[69]⟩]
noncomputable def rowC : List Value := [.string ⟨#[65]⟩, .string ⟨#[66]⟩]
noncomputable def rowP1 : List Value := [.int .i64 1, .int .i64 97, .int .i64 122, .int .i64 0, .int .i64 0, .int .i64 1, .int .i64 97, .int .i64 122, .int .i64 0, .int .i64 0, .int .i64 4, .int .i64 0, .int .i64 0, .int .i64 1, .int .i64 0, .int .i64 2, .int .i64 0, .int .i64 0, .int .i64 0, .int .i64 2]
noncomputable def rowP2 : List Value := [.int .i64 1, .int .i64 9, .int .i64 10, .int .i64 0, .int .i64 0, .int .i64 1, .int .i64 32, .int .i64 32, .int .i64 0, .int .i64 0, .int .i64 3, .int .i64 0, .int .i64 0, .int .i64 0, .int .i64 1, .int .i64 1, .int .i64 9, .int .i64 10, .int .i64 0, .int .i64 0, .int .i64 1, .int .i64 32, .int .i64 32, .int .i64 0, .int .i64 0, .int .i64 3, .int .i64 0, .int .i64 0, .int .i64 3, .int .i64 4, .int .i64 4, .int .i64 0, .int .i64 0, .int .i64 5, .int .i64 0, .int .i64 2, .int .i64 0, .int .i64 0, .int .i64 2, .int .i64 6]
noncomputable def rowP3 : List Value := [.int .i64 1, .int .i64 37, .int .i64 37, .int .i64 0, .int .i64 0, .int .i64 1, .int .i64 97, .int .i64 122, .int .i64 0, .int .i64 0, .int .i64 1, .int .i64 32, .int .i64 32, .int .i64 0, .int .i64 0, .int .i64 3, .int .i64 0, .int .i64 0, .int .i64 1, .int .i64 2, .int .i64 4, .int .i64 0, .int .i64 0, .int .i64 3, .int .i64 0, .int .i64 2, .int .i64 0, .int .i64 0, .int .i64 0, .int .i64 4]
noncomputable def rowT : List Value := [.string ⟨#[105, 100]⟩, .int .i64 0, .string ⟨#[]⟩, .slice (some ⟨13, 0, none⟩) 4 4, .string ⟨#[120]⟩, .slice none 0 0, .int .i64 1, .string ⟨#[43]⟩, .int .i64 0, .string ⟨#[43]⟩, .slice none 0 0, .string ⟨#[]⟩, .slice none 0 0, .int .i64 1, .string ⟨#[42]⟩, .int .i64 0, .string ⟨#[42]⟩, .slice none 0 0, .string ⟨#[]⟩, .slice none 0 0, .int .i64 1, .string ⟨#[40]⟩, .int .i64 0, .string ⟨#[40]⟩, .slice none 0 0, .string ⟨#[]⟩, .slice none 0 0, .int .i64 1, .string ⟨#[41]⟩, .int .i64 0, .string ⟨#[41]⟩, .slice none 0 0, .string ⟨#[]⟩, .slice none 0 0, .int .i64 1, .string ⟨#[105, 102]⟩, .int .i64 0, .string ⟨#[105, 102]⟩, .slice none 0 0, .string ⟨#[]⟩, .slice none 0 0, .int .i64 1, .string ⟨#[101, 108, 115, 101]⟩, .int .i64 0, .string ⟨#[101, 108, 115, 101]⟩, .slice none 0 0, .string ⟨#[]⟩, .slice none 0 0, .int .i64 1, .string ⟨#[59]⟩, .int .i64 0, .string ⟨#[59]⟩, .slice none 0 0, .string ⟨#[]⟩, .slice none 0 0, .int .i64 1, .string ⟨#[94]⟩, .int .i64 0, .string ⟨#[94]⟩, .slice none 0 0, .string ⟨#[]⟩, .slice none 0 0, .int .i64 1, .string ⟨#[115, 112, 97, 99, 101]⟩, .int .i64 1, .string ⟨#[]⟩, .slice (some ⟨39, 0, none⟩) 8 8, .string ⟨#[]⟩, .slice none 0 0, .int .i64 1, .string ⟨#[114, 101, 109, 97, 114, 107]⟩, .int .i64 2, .string ⟨#[]⟩, .slice (some ⟨46, 0, none⟩) 6 6, .string ⟨#[]⟩, .slice none 0 0, .int .i64 1]

noncomputable def tokC (i : Nat) : Int := match i with | 0 => 1 | 1 => 2 | 2 => 8 | _ => 7
noncomputable def nameC (i : Nat) : Value := match i with | 0 => .string ⟨#[97, 100, 100]⟩ | 1 => .string ⟨#[109, 117, 108]⟩ | 2 => .string ⟨#[112, 111, 119]⟩ | _ => .string ⟨#[115, 101, 113]⟩
noncomputable def nameO : Value := .string ⟨#[111, 112, 101, 114, 97, 110, 100]⟩
noncomputable def prodC (name : Value) (id len : Nat) : List Value := [name, .int .i64 0, .slice (some ⟨id, 0, none⟩) len len, .slice none 0 0, .int .i64 1, .bool false, .int .i64 0, .slice none 0 0, .bool false, .int .i64 0, .int .i64 0, .int .i64 0, .int .i64 0]
noncomputable def rightO : List Value := [.bool true, .int .i64 0]
noncomputable def rightC (i : Nat) : List Value := [.bool false, .int .i64 0, .bool true, .int .i64 (tokC i), .bool false, .int .i64 0]
noncomputable def prodsC : Nat → List Value
  | 0 => prodC nameO 100 1
  | n + 1 => prodsC n ++ prodC (nameC n) (101 + n) 3
noncomputable def rightsC : Nat → List (Nat × List Value × Nat)
  | 0 => []
  | n + 1 => rightsC n ++ [(101 + n, rightC n, 0)]
/-- The rows of the grammar with n operators; its levels' rows are pinned. -/
noncomputable def rowsG (n : Nat) : List (Nat × List Value × Nat) :=
  [(0, table, 0), (1, rowE, 0), (5, rowC, 0), (13, rowP1, 0), (39, rowP2, 0), (46, rowP3, 0), (50, rowT, 7), (100, rightO, 0)] ++ (rightsC n ++ [(110, prodsC n, 13), (120, [], 4), (121, [], 0), (122, [], 0), (123, [], 0), (124, [], 0)])
noncomputable def gA (n nl : Nat) : Value := .agg #[.slice (some ⟨5, 0, none⟩) 2 2, .slice none 0 0, .int .i64 1, .slice (some ⟨50, 0, none⟩) 11 11, .slice (some ⟨1, 0, none⟩) 1 1, .slice (some ⟨110, 0, none⟩) (n + 1) (n + 1), .int .i64 0,
  .slice (some ⟨120, 0, none⟩) nl 0, .slice none 0 0]

noncomputable def k96 (n nl : Nat) : Known := { f := 96, args := [gA n nl], rows := rowsG n, res := .int .i64 0, top := 20000 }
noncomputable def k57 (n nl : Nat) : Known := { f := 57, args := [gA n nl], rows := rowsG n, res := .int .i64 0, top := 6000 }
noncomputable def k20 (n nl : Nat) : Known := { f := 20, args := [gA n nl], rows := rowsG n, res := .int .i64 0, top := 200 }

noncomputable def envP (ps : List (Nat × Pl)) (ms : List Known) : Env := { envM ms with pins := ps }
end Go.Pri
end

section
/-
  Both checks accept the grammars of the operators: the closed calls, run by the kernel, the levels' memory pinned.
-/
open Go Go.Abs Go.Proofs Go.RowKit
namespace Go.Pri

theorem env_okP (ps : List (Nat × Pl)) (ms : List Known) : (envP ps ms).Ok := let h := env_ok ms; ⟨h.under, h.size, h.bytes, h.zero, h.fields, h.fn⟩
theorem idleP (ps : List (Nat × Pl)) (ms : List Known) : Idle (envP ps ms) := fun g hg => idle67 ms g hg
def GoodP (ps : List (Nat × Pl)) (k : Known) : Prop := ∀ f args h, knownAt k f args h = true → plain k.res = true ∧ (∃ fn, (envP ps []).fn f = some fn) ∧ ∀ ρ w (args' : Array Value), Gl (envP ps []) ρ → VsRel ρ args args'.toList → WRel ρ h w →
    Calls (envP ps []).P f args' w fun en w' => en = .returned k.res ∧ Keeps w w'
theorem memo_goodP {ps : List (Nat × Pl)} {ms : List Known} (hm : ∀ k ∈ ms, GoodP ps k) : MemoOK (envP ps ms) := memo_ok ms rfl hm
theorem good_ofP {ps : List (Nat × Pl)} {ms : List Known} (hm : ∀ k ∈ ms, GoodP ps k) {k : Known} (hk : gives6 k.res (call (envP ps ms) 200 k.f k.args (knownHeap k)) = true) (hp : plain k.res = true) : GoodP ps k := by
  obtain ⟨h', hh⟩ := gives6_some hk
  have hc : CallOK (envP ps ms) (call (envP ps ms) 200) := sound (env_okP ps ms) mix_ok (idleP ps ms) (memo_goodP hm) 200
  exact fun f args h ha => known_ok (e := envP ps []) hc rfl rfl rfl rfl hh hp ha

theorem GoodP.call {ps : List (Nat × Pl)} {k : Known} (hk : GoodP ps k) {ρ : Inj} {w : World} (h0 : ∃ pl, ρ 0 = some pl ∧ pl.blk = 0 ∧ pl.off = 0) (hps : ∀ p ∈ ps, ρ p.1 = some p.2) (htop : ∀ i pl, ρ i = some pl → i < k.top)
    (hself : knownAt k k.f k.args (knownHeap k) = true) (hr : ∀ i cs esz, (i, cs, esz) ∈ k.rows → ∃ pl, ρ i = some pl ∧ ORel ρ w pl (.row cs false esz)) {args : Array Value} (ha : VsRel ρ k.args args.toList) :
    Calls Tryz.prog k.f args w fun en w' => en = .returned k.res ∧ Keeps w w' := by
  obtain ⟨_, _, h3⟩ := hk k.f k.args (knownHeap k) hself
  refine h3 ρ w args ⟨fun g hg => ?_, hps⟩ ha ⟨htop, fun i o h => ?_, fun i j o p pi pj hij h1 h2 => ?_⟩
  · have hg : g < 1 := hg
    obtain rfl : g = 0 := by omega
    exact h0
  · obtain ⟨cs, esz, h1, rfl⟩ := rowsMap_get _ _ _ h
    exact hr i cs esz h1
  · obtain ⟨cs, esz, _, rfl⟩ := rowsMap_get _ _ _ h1
    cases h2

/-- The levels, and where they lie. -/
structure LvW (w : World) (c7 : Value) (lv : List Lv) (b7 cap b0 b1 b2 : Nat) : Prop where
  val : c7 = .slice (some ⟨b7, 0, none⟩) lv.length cap
  lv : ∀ w' : World, (∀ b ∈ [b7, b0, b1, b2], w'.heap[b]? = w.heap[b]?) → LvAt w' c7 lv
  o7 : ∃ c el fz, w.heap[b7]? = some (.cells c el fz) ∧ cap * 4 ≤ c.size
  os : ∀ b ∈ [b0, b1, b2], ∃ c el fz, w.heap[b]? = some (.cells c el fz)

def pin0 (w : World) (b : Nat) : Pl := { blk := b, off := 0, n := 0, cap := 0, esz := 0, pin := fun o => w.heap[b]? = some o }
def pin7 (w : World) (b cap : Nat) : Pl := { blk := b, off := 0, n := 0, cap := cap * 4, esz := 4, pin := fun o => w.heap[b]? = some o }
def pinsOf (w : World) (b7 cap b0 b1 b2 : Nat) : List (Nat × Pl) := [(120, pin7 w b7 cap), (121, pin0 w b0), (122, pin0 w b1), (123, pin0 w b2), (124, pin0 w 0)]

set_option maxRecDepth 100000 in
theorem fn96 (ps : List (Nat × Pl)) : ∃ fn, (envP ps []).fn 96 = some fn := by
  have h : ((envM []).fn 96).isSome = true := by kernel_rfl
  exact Option.isSome_iff_exists.1 h

theorem vs_one {ρ : Inj} {v : Value} {l : List Value} (h : VsRel ρ [v] l) : ∃ v', l = [v'] ∧ VRel ρ v v' := by
  cases h with
  | cons h1 h2 => cases h2; exact ⟨_, rfl, h1⟩

/-- What a grammar's value is, off the relation. -/
theorem gA_inv {ρ : Inj} {n nl : Nat} {g : Value} {p7 : Pl} (h : VRel ρ (gA n nl) g) (hnl : 0 < nl) (h7 : ρ 120 = some p7) (ho : p7.off = 0) :
    ∃ a0 k0 c3 c4 a5 k5 k7, g = .agg #[.slice a0 2 k0, .slice none 0 0, .int .i64 1, c3, c4, .slice a5 (n + 1) k5, .int .i64 0, .slice (some ⟨p7.blk, 0, none⟩) nl k7, .slice none 0 0] := by
  unfold gA at h
  cases h with
  | @agg a a' hs hh =>
    obtain ⟨l⟩ := a'
    match l, hs with
    | [x0, x1, x2, x3, x4, x5, x6, x7, x8], _ =>
      have e0 := hh 0 _ _ rfl rfl
      have e1 := hh 1 _ _ rfl rfl
      have e2 := hh 2 _ _ rfl rfl
      have e5 := hh 5 _ _ rfl rfl
      have e6 := hh 6 _ _ rfl rfl
      have e7 := hh 7 _ _ rfl rfl
      have e8 := hh 8 _ _ rfl rfl
      cases e1; cases e2; cases e6; cases e8
      cases e0 with
      | @sl _ c0 _ _ k0 _ _ _ =>
      cases e5 with
      | @sl _ c5 _ _ k5 _ _ _ =>
      cases e7 with
      | @sl _ c7 _ _ k7 pl hp hsl =>
        rw [h7] at hp
        cases hp
        rcases hsl with ⟨rfl, _⟩ | ⟨h, _⟩
        · exact ⟨some c0, k0, x3, x4, some c5, k5, k7, by rw [ho]; rfl⟩
        · omega

theorem good96 {w1 : World} {c7 : Value} {lv : List Lv} {b7 cap b0 b1 b2 n : Nat} (hT : TabAt w1) (hlv : LvW w1 c7 lv b7 cap b0 b1 b2) (has : ∀ a ∈ lv, 0 ≤ a.2 ∧ a.2 ≤ 3) (hp : ∀ a ∈ lv, ∀ p ∈ a.1, p < n + 1) (hn : n ≤ 4) (h0 : 0 < lv.length)
    (hnd : (lv.flatMap (·.1)).Nodup) (hlvl : lv.length ≤ 100) (hpl : ∀ a ∈ lv, a.1.length ≤ 100) (hto : (lv.flatMap (·.1)).length ≤ 1000) : GoodP (pinsOf w1 b7 cap b0 b1 b2) (k96 n lv.length) := by
  intro f args h ha
  simp only [knownAt, Bool.and_eq_true] at ha
  obtain ⟨h1, h2, _, h4⟩ := ha
  have h1 := Nat.eq_of_beq_eq_true h1
  have h2 := eqLN_eq _ _ _ h2
  subst h1; subst h2
  refine ⟨rfl, fn96 _, fun ρ w args' hg hv x => ?_⟩
  have hpin : ∀ (i b : Nat) (pl : Pl) (esz : Nat), (i, pl) ∈ pinsOf w1 b7 cap b0 b1 b2 → (i, ([] : List Value), esz) ∈ rowsG n → pl.blk = b → pl.pin = (fun o => w1.heap[b]? = some o) → w.heap[b]? = w1.heap[b]? := fun i b pl esz e1 e2 e3 e4 => by
    obtain ⟨wr, e5⟩ := rowsAt_mem (l := rowsG n) h4 i [] esz e2
    obtain ⟨pl', e6, c, el, fz, e7, _, _, _, _, _, _, _, e8⟩ := x.obj i _ e5
    rw [hg.2 (i, pl) e1] at e6
    cases e6
    have := e8 rfl
    rw [e4] at this
    rw [← e3, e7, e3]
    exact this.symm
  have m1 : w.heap[b7]? = w1.heap[b7]? := hpin 120 b7 (pin7 w1 b7 cap) 4 (by simp [pinsOf]) (by simp [rowsG]) rfl rfl
  have m2 : w.heap[b0]? = w1.heap[b0]? := hpin 121 b0 (pin0 w1 b0) 0 (by simp [pinsOf]) (by simp [rowsG]) rfl rfl
  have m3 : w.heap[b1]? = w1.heap[b1]? := hpin 122 b1 (pin0 w1 b1) 0 (by simp [pinsOf]) (by simp [rowsG]) rfl rfl
  have m4 : w.heap[b2]? = w1.heap[b2]? := hpin 123 b2 (pin0 w1 b2) 0 (by simp [pinsOf]) (by simp [rowsG]) rfl rfl
  have m5 : w.heap[0]? = w1.heap[0]? := hpin 124 0 (pin0 w1 0) 0 (by simp [pinsOf]) (by simp [rowsG]) rfl rfl
  have hT' : TabAt w := by
    obtain ⟨el, fz, h⟩ := hT
    exact ⟨el, fz, m5.trans h⟩
  have hL := hlv.lv w (by simp [m1, m2, m3, m4])
  rw [hlv.val] at hL
  obtain ⟨g', hg', hv'⟩ := vs_one hv
  obtain ⟨a0, k0, c3, c4, a5, k5, k7, rfl⟩ := gA_inv hv' h0 (hg.2 (120, pin7 w1 b7 cap) (show (120, pin7 w1 b7 cap) ∈ pinsOf w1 b7 cap b0 b1 b2 by simp [pinsOf])) rfl
  have e : args' = #[.agg #[.slice a0 2 k0, .slice none 0 0, .int .i64 1, c3, c4, .slice a5 (n + 1) k5, .int .i64 0, .slice (some ⟨b7, 0, none⟩) lv.length k7, .slice none 0 0]] := by
    apply Array.ext'
    rw [hg']
    rfl
  rw [e]
  refine (levels96 a0 a5 _ k0 k5 cap k7 (n + 1) c3 c4 _ _ lv w hT' hL has hp (by omega) hnd hlvl hpl hto).mono ?_
  rintro en w' ⟨rfl, ho⟩
  exact ⟨rfl, ho.keeps⟩

/-- Which grammars there are. -/
def Few (n nl : Nat) : Prop := (n = 1 ∧ nl = 1) ∨ (n = 2 ∧ (nl = 1 ∨ nl = 2)) ∨ (n = 3 ∧ (nl = 1 ∨ nl = 2 ∨ nl = 3)) ∨ (n = 4 ∧ (nl = 1 ∨ nl = 2 ∨ nl = 3))
end Go.Pri
end

section
/-
  Bare, a closed call: what it lays. The small makers: walked.
-/
open Go Go.Abs Go.Proofs Go.RowKit
namespace Go.Pri
set_option maxRecDepth 100000

noncomputable def gBare : Value := .agg #[.slice (some ⟨5, 0, none⟩) 2 2, .slice none 0 0, .int .i64 1, .slice (some ⟨50, 0, none⟩) 11 11, .slice (some ⟨1, 0, none⟩) 1 1, .slice none 0 0, .int .i64 0, .slice none 0 0, .slice none 0 0]
noncomputable def rowsB : List (Nat × List Value × Nat) := [(0, table, 0), (1, rowE, 0), (5, rowC, 0), (13, rowP1, 0), (39, rowP2, 0), (46, rowP3, 0), (50, rowT, 7)]
noncomputable def rowsWr (h : AHeap) : List Nat → Bool
  | [] => true
  | i :: r => match h.get i with
    | some (.row _ true _) => rowsWr h r
    | _ => false
theorem rowsWr_mem {h : AHeap} : ∀ {l : List Nat}, rowsWr h l = true → ∀ i ∈ l, ∃ cs esz, h.get i = some (.row cs true esz)
  | [], _, _, hm => by cases hm
  | j :: r, hl, i, hm => by
    simp only [rowsWr] at hl
    split at hl
    · rename_i cs esz hg
      rcases List.mem_cons.1 hm with he | hm
      · cases he; exact ⟨cs, esz, hg⟩
      · exact rowsWr_mem hl i hm
    · cases hl
noncomputable def heapB : AHeap := { m := rowsMap [(0, table, 0), (1, rowE, 0)], next := 2 }
noncomputable def checkB : Option (Value × AHeap) → Bool
  | some (v, h') => eqVN 6 v gBare && (Nat.ble h'.next 100 && (rowsWr h' [5, 13, 39, 46, 50] && rowsAt h' rowsB))
  | none => false
theorem bare_run : checkB (call (envM []) 200 14 [.slice (some ⟨1, 0, none⟩) 1 1] heapB) = true := by kernel_rfl

theorem bare14 (b el : Nat) (w : World) (htab : TabAt w) (hb : w.heap[b]? = some (.cells #[.string ⟨#[69]⟩] el (0, 0))) :
    Calls Tryz.prog 14 #[.slice (some ⟨b, 0, none⟩) 1 1] w fun e w' => ∃ g ρ, e = .returned g ∧ VRel ρ gBare g ∧ (∀ i pl, ρ i = some pl → i < 100) ∧ (∃ pl, ρ 0 = some pl ∧ pl.blk = 0 ∧ pl.off = 0) ∧
      (∀ i cs esz, (i, cs, esz) ∈ rowsB → ∃ pl, ρ i = some pl ∧ ORel ρ w' pl (.row cs false esz) ∧ (pl.blk = 0 ∨ b ≤ pl.blk)) ∧ Old w w' := by
  have hr := bare_run
  cases hx : call (envM []) 200 14 [.slice (some ⟨1, 0, none⟩) 1 1] heapB with
  | none => rw [hx] at hr; cases hr
  | some p =>
    obtain ⟨v, h'⟩ := p
    rw [hx] at hr
    simp only [checkB, Bool.and_eq_true] at hr
    obtain ⟨h1, h2, h4, h3⟩ := hr
    have h1 := eqVN_eq 6 v gBare h1
    subst h1
    have hc : CallOK (envM []) (call (envM []) 200) := sound (env_ok []) mix_ok (idle67 []) (memo_good fun _ h => by cases h) 200
    obtain ⟨_, hc⟩ := hc _ _ _ _ _ hx
    let ρ : Inj := fun i => if i = 0 then some { blk := 0, off := 0, n := 64, cap := 64, esz := 0 } else if i = 1 then some { blk := b, off := 0, n := 1, cap := 1, esz := 0 } else none
    have hW : WRel ρ heapB w := by
      refine ⟨fun i pl h => ?_, fun i o h => ?_, fun i j o p pi pj hij h1 h2 => ?_⟩
      · show i < 2
        by_cases e : i = 0
        · omega
        · by_cases e1 : i = 1
          · omega
          · simp [ρ, e, e1] at h
      · obtain ⟨cs, esz, h1, rfl⟩ := rowsMap_get _ _ _ h
        simp only [List.mem_cons, List.not_mem_nil, or_false, Prod.mk.injEq] at h1
        rcases h1 with ⟨rfl, rfl, rfl⟩ | ⟨rfl, rfl, rfl⟩
        · exact ⟨_, rfl, tabRd_at htab⟩
        · refine ⟨_, rfl, _, _, _, hb, fun h => (by cases h), rfl, rfl, Nat.le_refl _, by simp, fun _ => rfl, ?_, fun h => (by cases h)⟩
          exact .cons (.string _) .nil
      · obtain ⟨cs, esz, _, rfl⟩ := rowsMap_get _ _ _ h1
        cases h2
    refine (hc ρ w #[.slice (some ⟨b, 0, none⟩) 1 1] ⟨fun g hg => ?_, fun p hp => by cases hp⟩ (.cons (.sl (pl := { blk := b, off := 0, n := 1, cap := 1, esz := 0 }) rfl (.inl ⟨rfl, .inl rfl⟩)) .nil) hW).mono ?_
    · have hg : g < 1 := hg
      obtain rfl : g = 0 := by omega
      exact ⟨_, rfl, rfl, rfl⟩
    · rintro en w' ⟨v', ρ', rfl, r1, r2, r3⟩
      have hkept : ∀ k, k < w.heap.size → w'.heap[k]? = w.heap[k]? := fun k hk => r3.kept k hk (by
        rintro ⟨i, o, pl, g1, g2, _, _⟩
        obtain ⟨cs, esz, _, rfl⟩ := rowsMap_get _ _ _ g1
        cases g2)
      refine ⟨v', ρ', rfl, r1, fun i pl hi => Nat.lt_of_lt_of_le (r2.dom i pl hi) (Nat.le_of_ble_eq_true h2), ⟨_, r3.ext 0 _ rfl, rfl, rfl⟩, fun i cs esz hi => ?_, ⟨r3.os, r3.output, r3.size, hkept⟩⟩
      obtain ⟨wr, e5⟩ := rowsAt_mem h3 i cs esz hi
      obtain ⟨pl, e6, c, el', fz, e7, _, e8⟩ := r2.obj i _ e5
      refine ⟨pl, e6, ⟨c, el', fz, e7, fun h => (by cases h), e8⟩, ?_⟩
      have hids : i = 0 ∨ i = 1 ∨ i ∈ [5, 13, 39, 46, 50] := by
        simp only [rowsB, List.mem_cons, List.not_mem_nil, or_false, Prod.mk.injEq] at hi
        simp only [List.mem_cons, List.not_mem_nil, or_false]
        rcases hi with h | h | h | h | h | h | h <;> omega
      rcases hids with rfl | rfl | hids
      · have := r3.ext 0 _ rfl
        rw [this] at e6
        cases e6
        exact .inl rfl
      · have := r3.ext 1 _ rfl
        rw [this] at e6
        cases e6
        exact .inr (Nat.le_refl _)
      · obtain ⟨cs', esz', e9⟩ := rowsWr_mem h4 i hids
        have hlt : b < w.heap.size := (Array.getElem?_eq_some_iff.1 hb).1
        rcases r3.new i _ pl e9 rfl e6 with hh | hh
        · obtain ⟨i', o', pl', g1, g2, _⟩ := hh
          obtain ⟨cs2, esz2, _, rfl⟩ := rowsMap_get _ _ _ g1
          cases g2
        · exact .inr (by omega)

/-! ## Small makers -/
theorem const15 (w : World) : Calls Tryz.prog 15 #[.bool true] w fun e w' => e = .returned (.agg #[.slice none 0 0, .int .i64 1]) ∧ Old w w' := by
  go_enter Tryz.func15, Tryz.ntmps15
  go_wp2
  refine bodyPost_ret (v := .agg #[.slice none 0 0, .int .i64 1]) ?_ rfl ⟨rfl, ?_⟩
  · rw [results_cell1 Tryz.results15]
    simp [go_sem]
  · exact (Old.refl w).alloc _
theorem tok16 (i : Int) (w : World) : Calls Tryz.prog 16 #[.int .i64 i] w fun e w' => e = .returned (.agg #[.bool true, .int .i64 i]) ∧ Old w w' := by
  go_enter Tryz.func16, Tryz.ntmps16
  go_wp2
  refine bodyPost_ret (v := .agg #[.bool true, .int .i64 i]) ?_ rfl ⟨rfl, ?_⟩
  · rw [results_cell1 Tryz.results16]
    simp [go_sem]
  · exact (Old.refl w).alloc _
theorem non17 (i : Int) (w : World) : Calls Tryz.prog 17 #[.int .i64 i] w fun e w' => e = .returned (.agg #[.bool false, .int .i64 i]) ∧ Old w w' := by
  go_enter Tryz.func17, Tryz.ntmps17
  go_wp2
  refine bodyPost_ret (v := .agg #[.bool false, .int .i64 i]) ?_ rfl ⟨rfl, ?_⟩
  · rw [results_cell1 Tryz.results17]
    simp [go_sem]
  · exact (Old.refl w).alloc _
theorem toks18 (w : World) : Calls Tryz.prog 18 #[] w fun e w' => e = .returned (.slice (some ⟨w.heap.size, 0, none⟩) 4 4) ∧ w' = w.alloc (.cells #[.int .i64 1, .int .i64 2, .int .i64 8, .int .i64 7] 3) := by
  go_enter Tryz.func18, Tryz.ntmps18
  go_wp2
  go_ret
  exact ⟨rfl, rfl⟩
theorem num6 (m l0 l1 l2 l3 s0 s1 s2 : Int) (hm : 0 ≤ m ∧ m ≤ 255) (w : World) : Calls Tryz.prog 6 #[.agg #[.int .u8 m, .int .u8 l0, .int .u8 l1, .int .u8 l2, .int .u8 l3, .int .u8 s0, .int .u8 s1, .int .u8 s2]] w fun e w' =>
    e = .returned (.int .i64 (1 + m % 4)) ∧ Old w w' := by
  have hw : IntKind.i64.wrap m = m := by
    simp [IntKind.wrap, IntKind.bits]; omega
  go_enter Tryz.func6, Tryz.ntmps6
  go_wp2
  go_ret
  exact ⟨rfl, (Old.refl w).alloc _⟩
end Go.Pri
end

section
/-
  The sort of the rules: the shelf's word on slices.SortFunc turned to the rules.
-/
namespace Go.Pri
open Go Go.Abs Go.Proofs Go.RowKit Go.Lib
open Go.Sort (flatK get_flatK HoldsK putRowK)

def ltF (f g : Fil) : Bool := decide (f.par < g.par ∨ f.par = g.par ∧ (f.pos < g.pos ∨ f.pos = g.pos ∧ f.child < g.child))
theorem cmpI_lt (x y : Int) : cmpI x y < 0 ↔ x < y := by
  unfold cmpI
  split
  · simp_all
  · split <;> simp_all
theorem cmpI_zero (x y : Int) : cmpI x y = 0 ↔ x = y := by
  unfold cmpI
  split
  · simp; omega
  · split
    · simp; omega
    · simp; omega
theorem cfF_lt (f g : Fil) : ltOf cfF f g = ltF f g := by
  unfold ltOf cfF ltF
  apply decide_eq_decide.2
  simp only [lexC, cmpI_zero]
  split
  · split
    · rename_i h
      simp only [h, Int.lt_irrefl, true_and, false_or]
      split
      · rename_i h2
        simp only [h2, Int.lt_irrefl, true_and, false_or]
        split
        · rename_i h3
          simp [h3]
        · exact cmpI_lt _ _
      · rename_i h2
        simp only [h2, false_and, or_false]
        exact cmpI_lt _ _
    · rename_i h
      simp only [h, false_and, or_false]
      exact cmpI_lt _ _
  · rename_i h
    exact absurd trivial h
theorem swoF : Go.Sort.SWO (ltOf cfF) := {
  irrefl := fun x => by rw [cfF_lt]; simp [ltF]
  trans := fun x y z h1 h2 => by rw [cfF_lt] at *; simp only [ltF, decide_eq_true_eq] at *; omega
  ntrans := fun x y z h1 h2 => by rw [cfF_lt] at *; simp only [ltF, decide_eq_false_iff_not] at *; omega }
theorem ltF_anti {f g : Fil} (h1 : ltF f g = false) (h2 : ltF g f = false) : f = g := by
  obtain ⟨a, b, c⟩ := f
  obtain ⟨a', b', c'⟩ := g
  simp only [ltF, decide_eq_false_iff_not] at h1 h2
  have : a = a' ∧ b = b' ∧ c = c' := by omega
  obtain ⟨rfl, rfl, rfl⟩ := this
  rfl

/-- Sorted, no two the wrong way round. -/
def SortedF (F : List Fil) : Prop := F.Pairwise fun a b => ltF b a = false
theorem sorted_unique {F G : List Fil} (h : F.Perm G) (h1 : SortedF F) (h2 : SortedF G) : F = G :=
  List.Perm.eq_of_pairwise (fun a b _ _ ha hb => ltF_anti hb ha) h1 h2 h

instance : Inhabited Fil := ⟨⟨0, 0, 0⟩⟩

theorem sorted_in {d : Array Fil} (h : Go.Sort.SortedIn (ltOf cfF) 0 d.size d) : SortedF d.toList := by
  unfold SortedF
  rw [List.pairwise_iff_getElem]
  intro i j hi hj hij
  have := h i j (Nat.zero_le _) hij (by simpa using hj)
  rw [cfF_lt] at this
  simp only [Array.length_toList] at hi hj
  rw [getElem!_pos d i hi, getElem!_pos d j hj] at this
  simpa using this
theorem perm_in {d d' : Array Fil} (h : Go.Sort.PermIn 0 d.size d d') : d'.toList.Perm d.toList := by
  obtain ⟨h1, _, h3⟩ := h
  have e1 : d'.extract 0 d.size = d' := by rw [← h1]; simp
  have e2 : d.extract 0 d.size = d := by simp
  rwa [e1, e2] at h3

theorem encF_len (f : Fil) : (encF f).length = 9 := rfl
theorem flat_at (d : Array Fil) (t : Nat) (ht : t < d.size * 9) : (cellsF d.toList)[t]? = some (flatK encF 9 d)[t]! := by
  rw [get_flatK _ _ _ t ht]
  have hj : t / 9 < d.size := by omega
  have := cellsF_at d.toList (t / 9) d[t / 9] (t % 9) (encF d[t / 9])[t % 9]! (by simp [hj]) (by
    rw [List.getElem?_eq_getElem (by rw [encF_len]; omega), getElem!_pos (encF d[t / 9]) (t % 9) (by rw [encF_len]; omega)])
  rw [show t / 9 * 9 + t % 9 = t by omega] at this
  rw [this, getElem!_pos d (t / 9) hj]
theorem own_holdsK {w : World} {base g cap n : Nat} {d : Array Fil} (hn : n = d.size) (h : w.ownsRow base 59 9 (.slice (some ⟨g, 0, none⟩) n cap) n (cellsF d.toList)) : HoldsK encF 9 w g 0 d := by
  subst hn
  intro t ht
  have ht' : t < d.size * 9 := by simpa using ht
  have h1 := h.cellAt t (by omega)
  rw [flat_at d t ht'] at h1
  refine ⟨by simpa using h1, ?_⟩
  obtain ⟨_, ⟨h, _⟩ | ⟨g', cap', cur, h2, _, h3, _⟩⟩ := h
  · cases h
  · cases h2
    simp [World.frozen?, h3]

theorem heap_sortK {w : World} {g n : Nat} {os : Array Obj} {cur : Array Value} {e : TypeId} {fr : Nat × Nat} (d : Array Fil) (hb : w.heap[g]? = some (.cells cur e fr)) :
    (sortWorldK encF 9 w g 0 n d os).heap[g]? = some (.cells (Go.Sort.putCells id 0 (flatK encF 9 d) cur) e fr) := by
  have hg : g < w.heap.size := (Array.getElem?_eq_some_iff.1 hb).1
  unfold sortWorldK putRowK
  rw [Go.Sort.heap_grow_old _ _ (by simpa using hg)]
  simp [Go.Sort.putRow, Go.Sort.mapBlock, Go.Sort.ahead, Array.getElem?_modify, hb, Go.Sort.onCells]
theorem old_sortK {a w : World} {g n : Nat} {os : Array Obj} (d : Array Fil) (h : Old a w) (hg : a.heap.size ≤ g) : Old a (sortWorldK encF 9 w g 0 n d os) := by
  refine ⟨h.os, h.output, ?_, fun k hk => ?_⟩
  · have := h.size
    unfold sortWorldK putRowK
    simp
    omega
  · have hk' : k < w.heap.size := Nat.lt_of_lt_of_le hk h.size
    unfold sortWorldK putRowK
    rw [Go.Sort.heap_grow_old _ _ (by simpa using hk')]
    have : g ≠ k := by omega
    simp [Go.Sort.putRow, Go.Sort.mapBlock, Go.Sort.ahead, Array.getElem?_modify, this]
    rw [← h.heap k hk]
theorem own_sortK {w : World} {base g cap n m : Nat} {os : Array Obj} {d d' : Array Fil} (hn : n = d.size) (hs : d'.size = d.size) (h : w.ownsRow base 59 9 (.slice (some ⟨g, 0, none⟩) n cap) n (cellsF d.toList)) :
    (sortWorldK encF 9 w g 0 m d' os).ownsRow base 59 9 (.slice (some ⟨g, 0, none⟩) n cap) n (cellsF d'.toList) := by
  subst hn
  obtain ⟨_, ⟨h, _⟩ | ⟨g', cap', cur, h2, hb, h3, h4, h5, h6, h7⟩⟩ := h
  · cases h
  · cases h2
    refine ⟨by rw [cellsF_len]; simp [hs], .inr ⟨g, cap, _, rfl, hb, heap_sortK d' h3, h4, h5, by simp [Go.Sort.putCells, h6], ?_⟩⟩
    apply List.ext_getElem?
    intro t
    by_cases ht : t < d.size * 9
    · rw [List.getElem?_take_of_lt ht, flat_at d' t (by rw [hs]; exact ht), Array.getElem?_toList]
      have : t < cap * 9 := Nat.lt_of_lt_of_le ht (Nat.mul_le_mul_right 9 h4)
      simp [Go.Sort.putCells, h6, this, hs, ht]
    · rw [List.getElem?_take_eq_none (by omega), List.getElem?_eq_none (by rw [cellsF_len]; simp [hs]; omega)]
end Go.Pri
end

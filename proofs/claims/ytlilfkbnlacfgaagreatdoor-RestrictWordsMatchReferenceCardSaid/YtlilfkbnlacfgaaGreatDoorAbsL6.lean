/-
  Regions that draw their order: the whole.
-/
import Derived.Test.YtlilfkbnlacfgaaGreatDoorAbsL5
import Derived.Test.YtlilfkbnlacfgaaGreatDoorAbsN
namespace Go.Abs
variable {e : Env}

def unlisted (l : List Bool) : Nat := (l.filter (!·)).length
theorem unlisted_set : ∀ (l : List Bool) (i : Nat), l[i]? = some false → unlisted (l.set i true) + 1 = unlisted l
  | [], _, h => by simp at h
  | b :: l, 0, h => by simp at h; subst h; simp [unlisted]
  | b :: l, i + 1, h => by
    have := unlisted_set l i (by simpa using h)
    unfold unlisted at this ⊢
    rw [List.set_cons_succ, List.filter_cons, List.filter_cons]
    split
    · rw [List.length_cons, List.length_cons]; omega
    · exact this
theorem unlisted_zero {l : List Bool} (h : unlisted l = 0) {i : Nat} : l[i]? ≠ some false := by
  intro hi
  have := unlisted_set l i hi
  omega

def On (listed : Array Bool) (i : Nat) : Prop := listed.getD i false = true

theorem on_set {listed : Array Bool} {i : Nat} (hi : i < listed.size) (j : Nat) : On (listed.setIfInBounds i true) j ↔ On listed j ∨ j = i := by
  unfold On
  by_cases h : i = j
  · subst h; simp [hi]
  · rw [getD_set_ne false h]
    exact ⟨.inl, fun hh => hh.resolve_right (Ne.symm h)⟩

theorem not_on {listed : Array Bool} {i : Nat} (h : listed.getD i true = false) : ¬ On listed i ∧ listed.toList[i]? = some false := by
  rw [Array.getD_eq_getD_getElem?] at h
  cases hg : listed[i]? with
  | none => rw [hg] at h; cases h
  | some b =>
    rw [hg] at h
    have : b = false := h
    subst this
    refine ⟨fun ho => ?_, by simpa using hg⟩
    unfold On at ho
    rw [Array.getD_eq_getD_getElem?, hg] at ho
    cases ho

theorem draw_wp (he : e.Ok) {cf : CallF} {rf : RoundF} (hcf : CallOK e cf) (hrf : RoundOK e rf) {ro roc : Option Nat} {ops : Array Oper} {s0 : ASt} {base N : Nat} {xf : DSt} {ρ0 : Inj} {h0 : AHeap} {w0 : World} (hro : RoRel ρ0 ro roc)
    (G : Glob e cf rf ro ops.toList s0 base N xf) (n : Nat) (Q : Exit → Act → World → Prop)
    (hQ : ∀ ρ a w t h m inc H (S : Nat → Prop), (∀ i, i < ops.size → S i) → Inv e ops.toList s0 base N xf S ρ0 h0 w0 ρ a w t h m inc H → Q .normal a w) :
    ∀ (fuel : Nat) (listed : Array Bool) (ρ : Inj) (a : Act) (w : World) (t : Tr Value) (h : AHeap) (m inc : Nat) (H : AHeap), listed.size = ops.size → unlisted listed.toList = fuel →
      Inv e ops.toList s0 base N xf (On listed) ρ0 h0 w0 ρ a w t h m inc H → wpAnyIn (FF roc) n e.P .any ops Q fuel listed a w := by
  have all : ∀ (listed : Array Bool), listed.size = ops.size → Region.ready .any ops listed = [] → ∀ i, i < ops.size → On listed i := by
    intro listed hs hr i
    induction i using Nat.strongRecOn with
    | _ i ih =>
      intro hi
      cases hg : listed.getD i false with
      | true => exact hg
      | false =>
        exfalso
        have hmem : i ∈ Region.ready .any ops listed := by
          rw [mem_ready]
          have hlt : i < listed.size := by omega
          refine ⟨?_, ops[i], Array.getElem?_eq_getElem hi, fun x hx hb => ?_⟩
          · rw [Array.getD_eq_getD_getElem?, Array.getElem?_eq_getElem hlt] at hg ⊢
            exact hg
          · have := G.f.back i ops[i] (by simp [hi]) x (by simpa using hx) hb
            exact ih x.on this (Nat.lt_trans this hi)
        rw [hr] at hmem; cases hmem
  intro fuel
  induction fuel with
  | zero =>
    intro listed ρ a w t h m inc H hs hu I
    have hr : Region.ready .any ops listed = [] := by
      cases hr : Region.ready .any ops listed with
      | nil => rfl
      | cons i r =>
        have hmem : i ∈ Region.ready .any ops listed := by rw [hr]; exact List.mem_cons_self ..
        rw [mem_ready] at hmem
        exact absurd (not_on hmem.1).2 (unlisted_zero hu)
    exact ⟨hr, hQ ρ a w t h m inc H _ (all listed hs hr) I⟩
  | succ fuel ih =>
    intro listed ρ a w t h m inc H hs hu I
    refine ⟨fun hr => hQ ρ a w t h m inc H _ (all listed hs hr) I, fun i hmem => ?_⟩
    rw [mem_ready] at hmem
    obtain ⟨h1, o, ho, hb⟩ := hmem
    obtain ⟨hi, hl⟩ := not_on h1
    have ho' : ops.toList[i]? = some o := by simpa using ho
    have hlt : i < listed.size := by
      have := (List.getElem?_eq_some_iff.1 hl).1
      simpa using this
    obtain ⟨id, x, x', mc, incc, v, R⟩ := G.recs i o ho'
    have hm : ∀ j, ((masks ops.toList).getD i 0).testBit j = true → On listed j := fun j hj => by
      obtain ⟨y, y1, y2, y3⟩ := masks_spec ho' hj
      have hy : On listed y.on := hb y (by simpa using y1) y2
      rcases y3 with rfl | y3
      · exact hy
      · exact I.closed y.on hy j y3
    refine I.step he hcf hrf hro G R ho' hi hm (on_set hlt) rfl n fun ρ' a' w' t' h' m' inc' H' I' => ?_
    refine ih (listed.setIfInBounds i true) ρ' a' w' t' h' m' inc' H' (by simpa using hs) ?_ I'
    have := unlisted_set listed.toList i hl
    simp only [Array.toList_setIfInBounds]
    omega

theorem draw_ok (he : e.Ok) (hmix : e.P.follows .mixedOrders = true) : DrawOK e := by
  intro cf rf hcf hrf ro ops s s' hreg ρ a w roc n Q id X hro hQ
  simp only [regionA, cond_true] at hreg
  obtain ⟨hok, hreg⟩ := of_bif hreg
  have F := drawOk_facts hok
  let N := s.h.next + ((ops.toList.filter fun o => cls o.op == .alloc).length)
  let H0 : AHeap := { s.h with next := N }
  let s0 : ASt := { s with h := H0 }
  let x0 : DSt := { s := s0, pend := [], all := [], stages := [(0, H0)], snaps := [] }
  cases hd : drawOps e cf rf ro ops.toList (ops.toList.zip (masks ops.toList)) 0 s.h.next x0 with
  | none => simp only [x0, s0, H0, N] at hd; rw [hd] at hreg; cases hreg
  | some xf =>
    have hd' := hd
    simp only [x0, s0, H0, N] at hd'
    rw [hd'] at hreg
    simp only at hreg
    obtain ⟨hrd, hreg⟩ := of_bif hreg
    cases hreg
    have hget : ∀ k, H0.get k = s.h.get k := fun _ => rfl
    have pre0 : Pre s0 s.h.next N ops.toList 0 s.h.next x0 0 0 :=
      ⟨rfl, rfl, fun _ _ => rfl, ⟨[], rfl⟩, rfl, ⟨Nat.zero_le _, fun p i k _ => ⟨fun h => absurd h (Nat.not_lt_zero _), fun h => absurd h (Nat.not_lt_zero _)⟩⟩, fun p => (by simp [x0]),
        fun p hp => (by cases hp), fun p q hp => (by cases hp), fun j hj => (by simp at hj), rfl, Nat.le_refl _, rfl⟩
    obtain ⟨recs, l0, idf, mf, incf, pf⟩ := drawOps_rec F (ops.toList.length) 0 s.h.next x0 0 0 (by simp) (Nat.zero_le _) (by rw [List.drop_zero]; exact hd) pre0
    have hN : idf = N := by
      have := pf.sum
      rw [List.drop_eq_nil_of_le (Nat.le_refl _)] at this
      simpa using this
    have G : Glob e cf rf ro ops.toList s0 s.h.next N xf := by
      refine ⟨F, fun i o ho => ?_, fun d hdd => ?_, fun p hp => ?_, pf.inj, ?_⟩
      · obtain ⟨id, x, x', m, inc, v, r1, r2, r3, r4, r5⟩ := recs i o (Nat.zero_le _) ho
        exact ⟨id, x, x', m, inc, v, r1, r2, r3, r4, r5⟩
      · exact l0.t d fun j o _ ho => hdd j o ho
      · obtain ⟨_, g2, g3⟩ := pf.allk p hp
        exact ⟨g2, by rw [← hN]; exact g3⟩
      · rw [Bool.or_eq_true] at hrd
        exact hrd.imp Nat.eq_of_beq_eq_true fun h => h
    refine wpIn_region_any hmix ?_
    have m0 : WRel ρ H0 { w with drawn := w.drawn + 1 } := (X.m.sub (g := H0) (fun i o h => h) (Nat.le_add_right _ _)).draw rfl
    have f0 : Fr s.h.next ρ s.h w ρ H0 { w with drawn := w.drawn + 1 } := (fr_draw (h := s.h) (w := w) (w' := { w with drawn := w.drawn + 1 }) rfl rfl rfl s.h.next).trans (Fr.less (fun i o h => h) (Nat.le_add_right _ _))
    have noneOn : ∀ i, ¬ On (Array.replicate ops.size false) i := fun i h => by
      unfold On at h
      rw [Array.getD_eq_getD_getElem?] at h
      cases hg : (Array.replicate ops.size false)[i]? with
      | none => rw [hg] at h; cases h
      | some b =>
        rw [hg] at h
        obtain ⟨h1, h2⟩ := Array.getElem?_eq_some_iff.1 hg
        simp at h2
        subst h2; cases h
    have hfree : ∀ p ∈ xf.all, ρ p.2.1 = none := fun p hp => by
      cases hx : ρ p.2.1 with
      | none => rfl
      | some pl =>
        have h1 := X.m.dom _ _ hx
        have h2 := (G.allF p hp).1
        omega
    have I0 : Inv e ops.toList s0 s.h.next N xf (On (Array.replicate ops.size false)) ρ s.h w ρ a { w with drawn := w.drawn + 1 } s.t H0 0 0 H0 := by
      refine ⟨fun i hi => absurd hi (noneOn i), fun j o d hj => absurd hj (noneOn j), fun d _ => rfl, ⟨X.g, X.t, X.d, m0⟩, f0, ⟨Nat.zero_le _, fun p i k _ => ⟨fun h => absurd h (noneOn i), fun h => absurd h (Nat.not_lt_zero _)⟩⟩, ?_,
        fun p _ hs => absurd hs (noneOn _), fun k o h => h, fun p hp _ => ?_, rfl, Nat.le_refl _, fun p hp _ => hfree p hp, fun j hj => by simp at hj⟩
      · exact stage_of (q := (0, H0)) (tl := []) (x := x0) rfl rfl l0
      · cases hg : H0.get p.2.1 with
        | none => rfl
        | some ob =>
          obtain ⟨pl, g1, _⟩ := X.m.obj _ _ (show s.h.get p.2.1 = some ob from hg)
          rw [hfree p hp] at g1; cases g1
    refine draw_wp he hcf hrf hro G n Q ?_ ops.size _ ρ a _ s.t H0 0 0 H0 (by simp) ?_ I0
    · intro ρ' a' w' t' h' m' inc' H' S hall I
      have e1 : m' = mf := I.eff.uniq pf.eff fun p i k hp => by
        obtain ⟨o, q1, _⟩ := effs_get hp
        have hl := (List.getElem?_eq_some_iff.1 q1).1
        exact ⟨fun _ => hl, fun _ => hall i (by simpa using hl)⟩
      subst e1
      obtain ⟨tl, hst⟩ := pf.stage
      have hs1 := stage_of hst pf.len (Link.refl ops.toList ops.toList.length xf)
      rw [I.stage] at hs1
      cases hs1
      -- the end of the run
      have hsub : ∀ k ob, (addAll xf.s.h xf.pend).get k = some ob → h'.get k = some ob := fun k ob hk => by
        rcases addAll_or (fun p q hp hq => pf.inj p q ((pf.pend p).1 hp).1 ((pf.pend q).1 hq).1) hk with ⟨p, hp, rfl, rfl⟩ | hk
        · obtain ⟨g1, g2⟩ := (pf.pend p).1 hp
          exact I.m1 p g1 (hall p.1 (by have := (pf.allk p g1).1; simpa using this)) g2
        · exact I.m3 k ob hk
      have hnx : h'.next ≤ (addAll xf.s.h xf.pend).next := by rw [addAll_next]; exact Nat.le_of_eq I.m5
      have ht : ∀ d, xf.s.t.get d = t'.get d := fun d => by
        by_cases hw : ∃ (j : Nat) (o : Oper), ops.toList[j]? = some o ∧ o.dst = some d
        · obtain ⟨j, o, hj, hjd⟩ := hw
          exact (I.t1 j o d (hall j (by have := (List.getElem?_eq_some_iff.1 hj).1; simpa using this)) hj hjd).symm
        · rw [G.t0 d fun j o hj hjd => hw ⟨j, o, hj, hjd⟩, I.t2 d fun j o _ hj hjd => hw ⟨j, o, hj, hjd⟩]
      refine hQ a' w' ρ' ⟨I.rel.g, ?_, ?_, I.rel.m.sub hsub hnx⟩ (I.fr.trans (Fr.less hsub hnx))
      · refine ⟨?_, fun d v hv => ?_⟩
        · show a'.tmps.size = xf.s.n
          rw [pf.n]; exact I.rel.t.1
        · show d < xf.s.n ∧ _
          rw [pf.n]
          exact I.rel.t.2 d v (by rw [← hv]; exact (ht d).symm)
      · show All2 _ xf.s.ds _
        rw [pf.ds]; exact I.rel.d
    · simp [unlisted]

/-- The whole. -/
theorem sound (he : e.Ok) (hmix : e.P.follows .mixedOrders = true) (hidle : Idle e) (hmemo : MemoOK e) (N : Nat) : CallOK e (call e N) := call_ok he hidle (draw_ok he hmix) hmemo N

end Go.Abs

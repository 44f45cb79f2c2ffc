/-
  PriorityOperators: parts of its proof (AbsF).
-/
import Derived.Test.YtfadmmecedicjaaGreatDoorK03
set_option linter.unusedVariables false
set_option linter.unusedSimpArgs false

section
/-
  Operations, more: slices, append, copy.
-/
namespace Go.Abs
variable {e : Env}

theorem plainRun_rel {P : Program} {s : Sem Value} {r : Value} (h : plainRun P s = some r) (w : World) {ρ : Inj} : s.run P w = .ok r w ∧ VRel ρ r r := by
  unfold plainRun at h
  cases hp : pureRun P s with
  | none => simp [hp] at h
  | some v =>
    simp only [hp] at h
    obtain ⟨hb, h⟩ := of_bif h
    cases h
    exact ⟨pureRun_run P s _ hp w, plain_rel hb⟩

inductive ORl (ρ : Inj) : Option Value → Option Value → Prop
  | none : ORl ρ none none
  | some {v v' : Value} : VRel ρ v v' → ORl ρ (some v) (some v')

theorem bound_rel (P : Program) {ρ : Inj} {v v' : Value} (hv : VRel ρ v v') {most most' d r : Nat} (h : boundA (some v) most d = some r) (hm : most ≤ most') (code : BoundsCode) (w : World) :
    (Instr.sliceBound v' most' code).run P w = .ok r w ∧ r ≤ most := by
  unfold boundA at h
  cases hi : intOf v with
  | none => simp [hi] at h
  | some i =>
    simp only [hi] at h
    obtain ⟨hb, h⟩ := of_bif h
    cases h
    obtain ⟨k, rfl⟩ := of_int hi
    have := hv.int_l; subst this
    simp only [Bool.and_eq_true, decide_eq_true_eq] at hb
    have hc : 0 ≤ i ∧ i ≤ (most' : Int) := ⟨hb.1, by omega⟩
    refine ⟨?_, by omega⟩
    simp only [Instr.sliceBound, asIntOf, Sem.run_bind, Sem.run_pure, Result.andThen_ok, hc, and_self, if_true]

theorem bounds_rel (P : Program) {ρ : Inj} {lo lo' hi hi' mx mx' : Option Value} (hlo : ORl ρ lo lo') (hhi : ORl ρ hi hi') (hmx : ORl ρ mx mx') {len cap cap' m h l : Nat} (hcap : cap ≤ cap')
    (h1 : boundA mx cap cap = some m) (h2 : boundA hi m len = some h) (h3 : boundA lo h 0 = some l) (h4 : (mx.isNone || hi.isSome) = true) (b : Bool) (w : World) :
    ∃ m', (Instr.sliceBounds b len cap' lo' hi' mx').run P w = .ok (l, h, m') w ∧ (mx = none → m = cap ∧ m' = cap') ∧ (mx ≠ none → m' = m) ∧ l ≤ h ∧ m ≤ m' := by
  cases hmx with
  | none =>
    simp only [boundA, Option.some.injEq] at h1
    subst h1
    refine ⟨cap', ?_, fun _ => ⟨rfl, rfl⟩, fun h => absurd rfl h, ?_, hcap⟩
    · cases hhi with
      | none =>
        simp only [boundA, Option.some.injEq] at h2
        subst h2
        cases hlo with
        | none =>
          simp only [boundA, Option.some.injEq] at h3
          subst h3
          rfl
        | some hv =>
          have := (bound_rel P hv h3 (Nat.le_refl _) .sliceB w).1
          simp only [Instr.sliceBounds, Sem.run_bind, Sem.run_pure, Result.andThen_ok, Option.isSome_none, Bool.false_eq_true, if_false, this]
      | some hv =>
        have g := (bound_rel P hv h2 hcap (if b then .sliceAcap else .sliceAlen) w).1
        cases hlo with
        | none =>
          simp only [boundA, Option.some.injEq] at h3
          subst h3
          simp only [Instr.sliceBounds, Sem.run_bind, Sem.run_pure, Result.andThen_ok, g]
        | some hv2 =>
          have := (bound_rel P hv2 h3 (Nat.le_refl _) .sliceB w).1
          simp only [Instr.sliceBounds, Sem.run_bind, Sem.run_pure, Result.andThen_ok, Option.isSome_none, Bool.false_eq_true, if_false, g, this]
    · cases hlo with
      | none => simp only [boundA, Option.some.injEq] at h3; omega
      | some hv => exact (bound_rel P hv h3 (Nat.le_refl _) .sliceB w).2
  | some hm =>
    have g0 := (bound_rel P hm h1 hcap (if b then .slice3Acap else .slice3Alen) w).1
    refine ⟨m, ?_, (fun h => by cases h), fun _ => rfl, ?_, Nat.le_refl _⟩
    · cases hhi with
      | none => simp at h4
      | some hv =>
        have g := (bound_rel P hv h2 (Nat.le_refl _) .slice3B w).1
        cases hlo with
        | none =>
          simp only [boundA, Option.some.injEq] at h3
          subst h3
          simp only [Instr.sliceBounds, Sem.run_bind, Sem.run_pure, Result.andThen_ok, g0, g]
        | some hv2 =>
          have := (bound_rel P hv2 h3 (Nat.le_refl _) .slice3C w).1
          simp only [Instr.sliceBounds, Sem.run_bind, Sem.run_pure, Result.andThen_ok, Option.isSome_some, if_true, g0, g, this]
    · cases hlo with
      | none => simp only [boundA, Option.some.injEq] at h3; omega
      | some hv => exact (bound_rel P hv h3 (Nat.le_refl _) .sliceB w).2

theorem bound_le {v : Option Value} {most d r : Nat} (h : boundA v most d = some r) (hd : d ≤ most) : r ≤ most := by
  unfold boundA at h
  split at h
  · cases h; exact hd
  · split at h
    · cases h
    · obtain ⟨hb, h⟩ := of_bif h
      cases h
      simp only [Bool.and_eq_true, decide_eq_true_eq] at hb
      omega

theorem sized_esz {ρ : Inj} {h : AHeap} {w : World} (x : WRel ρ h w) {a : Addr} {pl : Pl} (hp : ρ a.block = some pl) {s : Nat} (hs : sizedRow h a s = true) : pl.esz = 0 ∨ pl.esz = s := by
  unfold sizedRow at hs
  cases ho : h.get a.block with
  | none => simp [ho] at hs
  | some o =>
    cases o with
    | row rs wr esz =>
      obtain ⟨pl', g1, c, el, fz, g2, g3, g4, g5, _⟩ := x.obj _ _ ho
      rw [hp] at g1; cases g1
      simp only [ho, Bool.or_eq_true] at hs
      rcases hs with hs | hs
      · exact .inl (g5.trans (Nat.eq_of_beq_eq_true hs))
      · exact .inr (g5.trans (Nat.eq_of_beq_eq_true hs))
    | _ => simp [ho] at hs

theorem slice_rel (he : e.Ok) {ρ : Inj} {h : AHeap} {w : World} (x : WRel ρ h w) {t : TypeId} {v v' : Value} {lo lo' hi hi' mx mx' : Option Value} (hv : VRel ρ v v') (hlo : ORl ρ lo lo') (hhi : ORl ρ hi hi') (hmx : ORl ρ mx mx')
    {r : Value} (hr : sliceA e h t v lo hi mx = some r) : ∃ r', (Instr.sliceAt t v' lo' hi' mx').run e.P w = .ok r' w ∧ VRel ρ r r' := by
  unfold sliceA at hr
  cases hu : e.under t with
  | none => simp [hu] at hr
  | some d =>
    cases hv with
    | string s =>
      cases d with
      | string =>
        simp only [hu] at hr
        obtain ⟨hb, hr⟩ := of_bif hr
        simp only [Bool.and_eq_true] at hb
        have hsame : ∀ {y y' : Option Value}, ORl ρ y y' → optPlain y = true → y' = y := fun hy hz => by
          cases hy with
          | none => rfl
          | some hv => rw [plain_eq hz hv]
        rw [hsame hlo hb.1, hsame hhi hb.2.1, hsame hmx hb.2.2]
        exact ⟨r, plainRun_rel hr w⟩
      | _ => simp [hu] at hr
    | sl0 len cap =>
      cases d with
      | slice elem =>
        simp only [hu] at hr
        cases hs : e.size elem with
        | none => simp [hs] at hr
        | some s =>
          cases hm : boundA mx cap cap with
          | none => simp [hs, hm] at hr
          | some m =>
            simp only [hs, hm] at hr
            cases hh : boundA hi m len with
            | none => simp [hh] at hr
            | some hh' =>
              simp only [hh] at hr
              obtain ⟨hb, hr⟩ := of_bif hr
              rw [Bool.and_eq_true] at hb
              cases hl : boundA lo hh' 0 with
              | none => simp [hl] at hr
              | some l =>
                simp only [hl, Option.some.injEq] at hr
                subst hr
                obtain ⟨m', g1, g2, g3, g4, g5⟩ := bounds_rel e.P hlo hhi hmx (Nat.le_refl cap) hm hh hl hb.2 true w
                have hmm : m' = m := by
                  by_cases h0 : mx = none
                  · rw [(g2 h0).1, (g2 h0).2]
                  · exact g3 h0
                subst hmm
                refine ⟨_, ?_, .sl0 _ _⟩
                simp only [Instr.sliceAt, Instr.slice, Sem.run_bind, he.runUnder hu, Result.andThen_ok, g1, he.runSize hs, Sem.run_pure, Option.map_none, ite_self]
      | _ => simp [hu] at hr
    | @sl a c len cap cap' pl hp hsl =>
      cases d with
      | slice elem =>
        simp only [hu] at hr
        cases hs : e.size elem with
        | none => simp [hs] at hr
        | some s =>
          cases hm : boundA mx cap cap with
          | none => simp [hs, hm] at hr
          | some m =>
            simp only [hs, hm] at hr
            cases hh : boundA hi m len with
            | none => simp [hh] at hr
            | some hh' =>
              simp only [hh] at hr
              obtain ⟨hb, hr⟩ := of_bif hr
              rw [Bool.and_eq_true] at hb
              have hhm : hh' ≤ m := Nat.le_of_ble_eq_true hb.1
              cases hl : boundA lo hh' 0 with
              | none => simp [hl] at hr
              | some l =>
                simp only [hl] at hr
                obtain ⟨hz, hr⟩ := of_bif hr
                cases hr
                have hcap : cap ≤ cap' := by
                  rcases hsl with ⟨_, h1 | h1⟩ | h1 <;> omega
                obtain ⟨m', g1, g2, g3, g4, g5⟩ := bounds_rel e.P hlo hhi hmx hcap hm hh hl hb.2 true w
                have hmcap : m ≤ cap := bound_le hm (Nat.le_refl _)
                refine ⟨.slice (some (if m' = l then c else c.add (l * s))) (hh' - l) (m' - l), ?_, .sl (pl := pl) (by rw [Addr.add_block]; exact hp) ?_⟩
                · simp only [Instr.sliceAt, Instr.slice, Sem.run_bind, he.runUnder hu, Result.andThen_ok, g1, he.runSize hs, Sem.run_pure, Option.map_some]
                  split <;> rfl
                · have hesz := sized_esz x hp hz
                  unfold SlRel
                  rcases hsl with ⟨hc, hcc⟩ | ⟨h01, h02, h03⟩
                  · by_cases hml : m' = l
                    · right
                      have : m = l := by omega
                      omega
                    · left
                      rw [if_neg hml]
                      refine ⟨?_, ?_⟩
                      · rw [hc, addr_add, Addr.add_off]; simp only [Addr.mk.injEq, true_and, and_true]; omega
                      · by_cases hmn : mx = none
                        · obtain ⟨e1, e2⟩ := g2 hmn
                          rcases hcc with hcc | ⟨k1, k2, k3, k4⟩
                          · left; omega
                          · right
                            have hes : pl.esz = s := by omega
                            rw [hes] at k1 k2 k3
                            rw [Addr.add_off, hes]
                            subst e1; subst e2
                            have q1 : l * s + (m - l) * s = m * s := by rw [← Nat.add_mul]; congr 1; omega
                            have q2 : l * s + (m' - l) * s = m' * s := by rw [← Nat.add_mul]; congr 1; omega
                            refine ⟨by omega, by omega, by omega, by omega⟩
                        · left
                          rw [g3 hmn]
                  · right
                    have : m = 0 := by omega
                    have hmm : m' = 0 := by
                      by_cases hmn : mx = none
                      · rw [(g2 hmn).2]; exact h03
                      · rw [g3 hmn]; omega
                    omega
      | _ => simp [hu] at hr
    | @ptr a pl hp =>
      cases d with
      | array n elem =>
        simp only [hu] at hr
        cases hs : e.size elem with
        | none => simp [hs] at hr
        | some s =>
          cases hmx with
          | some _ => simp [hs] at hr
          | none =>
            simp only [hs] at hr
            cases hh : boundA hi n n with
            | none => simp [hh] at hr
            | some hh' =>
              simp only [hh] at hr
              cases hl : boundA lo hh' 0 with
              | none => simp [hl] at hr
              | some l =>
                simp only [hl, Option.some.injEq] at hr
                subst hr
                obtain ⟨m', g1, g2, g3, g4, g5⟩ := bounds_rel e.P hlo hhi (.none (ρ := ρ)) (Nat.le_refl n) (m := n) rfl hh hl rfl false w
                obtain ⟨_, rfl⟩ := g2 rfl
                have hhn : hh' ≤ m' := bound_le hh (Nat.le_refl _)
                refine ⟨.slice (some (if m' = l then (⟨pl.blk, pl.off + a.off, none⟩ : Addr) else (⟨pl.blk, pl.off + a.off, none⟩ : Addr).add (l * s))) (hh' - l) (m' - l), ?_, ?_⟩
                · simp only [Instr.sliceAt, Sem.run_bind, he.runUnder hu, Result.andThen_ok, Instr.sureAddr, Sem.run_pure, g1, he.runSize hs]
                · by_cases hml : m' = l
                  · rw [if_pos hml, if_pos hml]
                    exact .sl hp (.inr (by omega))
                  · rw [if_neg hml, if_neg hml]
                    refine .sl (pl := pl) (by rw [Addr.add_block]; exact hp) (.inl ⟨?_, .inl rfl⟩)
                    rw [addr_add, Addr.add_off]; simp only [Addr.mk.injEq, true_and, and_true]; omega
      | _ => simp [hu] at hr
    | _ => cases d <;> simp [hu] at hr


/-! ## len, cap -/
theorem len_rel (he : e.Ok) {ρ : Inj} {h : AHeap} {w : World} (x : WRel ρ h w) {t : TypeId} {v v' r : Value} (hv : VRel ρ v v') (hr : lenA e h t v = some r) (ats : Array TypeId) (hat : ats[0]? = some t) (ty : TypeId) :
    ∃ r', (Builtin.len_ ats ty #[v']).run e.P w = .ok r' w ∧ VRel ρ r r' := by
  unfold lenA at hr
  cases hu : e.under t with
  | none => simp [hu] at hr
  | some d =>
    simp only [hu] at hr
    have h0 : (#[v'] : Array Value)[0]? = some v' := rfl
    cases d with
    | array n el =>
      simp only [Option.some.injEq] at hr
      subst hr
      exact ⟨_, by simp only [Builtin.len_, hat, h0, Sem.run_bind, he.runUnder hu, Result.andThen_ok, Sem.run_pure, goInt], .int _ _⟩
    | pointer arr =>
      simp only at hr
      cases ha : e.under arr with
      | none => simp [ha] at hr
      | some da =>
        cases da with
        | array n el =>
          simp only [ha, Option.some.injEq] at hr
          subst hr
          exact ⟨_, by simp only [Builtin.len_, hat, h0, Sem.run_bind, he.runUnder hu, he.runUnder ha, Result.andThen_ok, Sem.run_pure, goInt], .int _ _⟩
        | _ => simp [ha] at hr
    | string =>
      cases hv with
      | string s =>
        simp only [Option.some.injEq] at hr
        subst hr
        exact ⟨_, by simp only [Builtin.len_, hat, h0, Sem.run_bind, he.runUnder hu, Result.andThen_ok, Sem.run_pure, goInt], .int _ _⟩
      | _ => simp at hr
    | slice el =>
      cases hv with
      | sl0 l k =>
        simp only [Option.some.injEq] at hr
        subst hr
        exact ⟨_, by simp only [Builtin.len_, hat, h0, Sem.run_bind, he.runUnder hu, Result.andThen_ok, Sem.run_pure, goInt], .int _ _⟩
      | sl hp hs =>
        simp only [Option.some.injEq] at hr
        subst hr
        exact ⟨_, by simp only [Builtin.len_, hat, h0, Sem.run_bind, he.runUnder hu, Result.andThen_ok, Sem.run_pure, goInt], .int _ _⟩
      | _ => simp at hr
    | map k el =>
      cases hv with
      | map0 =>
        simp only [Option.some.injEq] at hr
        subst hr
        exact ⟨_, by simp only [Builtin.len_, hat, h0, Sem.run_bind, he.runUnder hu, Result.andThen_ok, Sem.run_pure, goInt], .int _ _⟩
      | @map i pl hp =>
        simp only at hr
        cases ho : h.get i with
        | none => simp [ho] at hr
        | some o =>
          cases o with
          | map es clock =>
            simp only [ho, Option.some.injEq] at hr
            subst hr
            obtain ⟨pl', g1, g2, es', g3, g4⟩ := x.obj _ _ ho
            rw [hp] at g1; cases g1
            have hl : es.length = es'.size := by simpa using g4.length
            refine ⟨.int .i64 es.length, ?_, .int _ _⟩
            have hgo : (getObj pl.blk).run e.P w = .ok (.map es' clock) w := by simp only [getObj, Sem.run, g3]
            simp only [Builtin.len_, hat, h0, Sem.run_bind, he.runUnder hu, Result.andThen_ok, hgo, Sem.run_pure, goInt, hl]
          | _ => simp [ho] at hr
      | _ => simp at hr
    | _ => simp at hr

theorem cap_rel (he : e.Ok) {ρ : Inj} {h : AHeap} {w : World} (x : WRel ρ h w) {t : TypeId} {v v' r : Value} (hv : VRel ρ v v') (hr : capA e h t v = some r) (ats : Array TypeId) (hat : ats[0]? = some t) (ty : TypeId) :
    ∃ r', (Builtin.cap_ ats ty #[v']).run e.P w = .ok r' w ∧ VRel ρ r r' := by
  unfold capA at hr
  cases hu : e.under t with
  | none => simp [hu] at hr
  | some d =>
    have h0 : (#[v'] : Array Value)[0]? = some v' := rfl
    cases d with
    | slice el =>
      cases hv with
      | sl0 l k =>
        simp only [hu, Option.some.injEq] at hr
        subst hr
        exact ⟨_, by simp only [Builtin.cap_, hat, h0, Sem.run_bind, he.runUnder hu, Result.andThen_ok, Sem.run_pure, goInt], .int _ _⟩
      | @sl a c l k k' pl hp hs =>
        simp only [hu] at hr
        cases ho : h.get a.block with
        | none => simp [ho] at hr
        | some o =>
          cases o with
          | row rs wr esz =>
            simp only [ho] at hr
            cases hz : e.size el with
            | none => simp [hz] at hr
            | some s =>
              simp only [hz] at hr
              obtain ⟨hb, hr⟩ := of_bif hr
              cases hr
              obtain ⟨pl', g1, c', elt, fz, g2, g3, g4, g5, g6, g7, g8, g9⟩ := x.obj _ _ ho
              rw [hp] at g1; cases g1
              have : k' = k := by
                simp only [Bool.or_eq_true, Bool.and_eq_true] at hb
                rcases hs with ⟨_, h1 | ⟨h1, h2, h3, h4⟩⟩ | ⟨h1, h2, h3⟩
                · exact h1
                · rcases hb with hb | ⟨hb, hb'⟩
                  · have := Nat.eq_of_beq_eq_true hb; omega
                  · have := Nat.eq_of_beq_eq_true hb
                    have hb' : a.off + k * s < rs.length := Nat.le_of_ble_eq_true hb'
                    rw [g5, this, g4] at h2
                    omega
                · omega
              subst this
              exact ⟨_, by simp only [Builtin.cap_, hat, h0, Sem.run_bind, he.runUnder hu, Result.andThen_ok, Sem.run_pure, goInt], .int _ _⟩
          | _ => simp [ho] at hr
      | _ => simp [hu] at hr
    | _ => simp [hu] at hr

/-! ## append, copy -/
theorem first_rel {ρ : Inj} {h : AHeap} {w : World} (P : Program) (x : WRel ρ h w) {v v' : Value} (hv : VRel ρ v v') {s n : Nat} {cs : List Value} (hr : firstA h s n v = some cs) (hn : ∀ l, lenOfA v = some l → n ≤ l) :
    ∃ cs', (∀ w', w'.heap = w.heap → (Builtin.firstCells s n v').run P w' = .ok cs' w') ∧ VsRel ρ cs cs'.toList := by
  cases hv with
  | sl0 l k =>
    simp only [firstA, Option.some.injEq] at hr
    subst hr
    exact ⟨#[], fun _ _ => rfl, .nil⟩
  | @sl a c l k k' pl hp hs =>
    simp only [firstA] at hr
    obtain ⟨cs', g1, g2, g3⟩ := read_rel x hp hr
    refine ⟨cs'.toArray, fun w' hw => ?_, by simpa using g1⟩
    have hnl := hn l rfl
    rcases hs with ⟨hc, _⟩ | ⟨h1, _, _⟩
    · have := run_loadCells_list (P := P) w' _ cs' (fun j v hj => by have := g3 j v hj; simpa only [World.cell?, hw] using this)
      rw [g2, ← hc] at this
      simpa only [Builtin.firstCells] using this
    · have h0 : n * s = 0 := by have : n = 0 := by omega
                                rw [this, Nat.zero_mul]
      have h00 : cs' = [] := List.eq_nil_of_length_eq_zero (g2.trans h0)
      subst h00
      simp only [Builtin.firstCells, h0]
      rfl
  | string b =>
    simp only [firstA, Option.some.injEq] at hr
    subst hr
    refine ⟨(b.extract 0 n).data.map fun b => .int .u8 b.toNat, fun _ _ => rfl, ?_⟩
    rw [Array.toList_map]
    refine All2.of_get rfl fun i y z ha hb => ?_
    rw [ha] at hb; cases hb
    rw [List.getElem?_map] at ha
    cases hx : ((b.extract 0 n).data.toList)[i]? with
    | none => rw [hx] at ha; cases ha
    | some u => rw [hx] at ha; cases ha; exact .int _ _
  | _ => simp [firstA] at hr


theorem lenOf_rel (P : Program) {ρ : Inj} {v v' : Value} (hv : VRel ρ v v') {n : Nat} (h : lenOfA v = some n) (w : World) : (Builtin.lenOf v').run P w = .ok n w := by
  cases hv <;> simp only [lenOfA, Option.some.injEq] at h <;> first | (subst h; rfl) | cases h

theorem zeroCells_rel {ρ : Inj} {zs : Array Value} (hz : VsRel ρ zs.toList zs.toList) {n sz : Nat} (hs : zs.toList.length = sz) (h0 : 0 < sz) : VsRel ρ (zerosA zs.toList (n * sz)) (Builtin.zeroCells zs n).toList := by
  have := zeros_rel hz (n * sz) (by omega)
  have e1 : zs.size = sz := by simpa using hs
  simpa [Builtin.zeroCells, e1] using this

theorem growBy_le : ∀ (r newLen c : Nat), Builtin.growBy newLen r c ≤ c * 2 ^ r + 400 * 2 ^ r
  | 0, _, c => by simp [Builtin.growBy]
  | r + 1, newLen, c => by
    unfold Builtin.growBy
    split
    · have : 0 < 2 ^ r := Nat.two_pow_pos r
      rw [Nat.pow_succ]
      have : c ≤ c * (2 ^ r * 2) := Nat.le_mul_of_pos_right _ (by omega)
      omega
    · refine Nat.le_trans (growBy_le r newLen _) ?_
      have h1 : c + (c + 768) / 4 ≤ 2 * c + 192 := by omega
      have h2 := Nat.mul_le_mul_right (2 ^ r) h1
      rw [Nat.pow_succ]
      have e1 : c * (2 ^ r * 2) = 2 * (c * 2 ^ r) := by rw [Nat.mul_comm (2 ^ r) 2, Nat.mul_left_comm]
      have e2 : (2 * c + 192) * 2 ^ r = 2 * (c * 2 ^ r) + 192 * 2 ^ r := by rw [Nat.add_mul, Nat.mul_assoc]
      omega

theorem nextcap_le {need cap : Nat} (h : cap < need) : Builtin.nextslicecap need cap ≤ need * 16 + 6400 := by
  unfold Builtin.nextslicecap
  split
  · omega
  · split
    · omega
    · have := growBy_le 4 need cap
      omega

/-- What is appended, and how much. -/
theorem appended_rel (he : e.Ok) {ρ : Inj} {h : AHeap} {w : World} (x : WRel ρ h w) {xv xv' : Value} (hv : VRel ρ xv xv') {z : Value} {elem : TypeId} {sz b n : Nat} {new : List Value} {made : Bool}
    (hz : e.zero elem = some z) (hs : e.size elem = some sz) (hb : e.bytes elem = some b) (hzs : z.cells.toList.length = sz) (h0 : 0 < sz)
    (hn : appendN made b xv = some n) (hnew : appendNew h made z.cells.toList n sz xv = some new) :
    (made = true → ∃ l, xv' = .int .i64 l ∧ IntKind.i64.wrap l = l ∧ ¬ l < 0 ∧ ¬ l * (b : Int) > 2 ^ 48 ∧ l.toNat = n) ∧ (made = false → ∀ w', (Builtin.lenOf xv').run e.P w' = .ok n w') ∧
    ∃ new' : Array Value, VsRel ρ new new'.toList ∧ ∀ w', w'.heap = w.heap → (if !made then Builtin.firstCells sz n xv' else if n * sz = 0 then pure #[] else do pure (Builtin.zeroCells (← zeroValue elem).cells n) : Sem (Array Value)).run e.P w' = .ok new' w' := by
  unfold appendN at hn
  unfold appendNew at hnew
  cases made with
  | true =>
    simp only [cond_true] at hn hnew
    cases hi : i64Of xv with
    | none => simp [hi] at hn
    | some l =>
      simp only [hi] at hn
      obtain ⟨hc, hn⟩ := of_bif hn
      cases hn
      simp only [Bool.and_eq_true, decide_eq_true_eq] at hc
      obtain ⟨⟨c1, c2⟩, c3⟩ := hc
      have c3 := Nat.le_of_ble_eq_true c3
      have hx := of_i64 hi
      subst hx
      have hx := hv.int_l
      subst hx
      cases hnew
      refine ⟨fun _ => ?_, (fun h => by cases h), ?_⟩
      · have hw : IntKind.i64.wrap l = l := wrap_small c1 c2
        have g1 : ¬ l < 0 := by omega
        have hl : (l.toNat : Int) = l := Int.toNat_of_nonneg c1
        have g2 : ¬ l * (b : Int) > 2 ^ 48 := by
          have := Int.ofNat_le.2 c3
          rw [Int.natCast_mul, hl, Int.mul_comm] at this
          omega
        exact ⟨l, rfl, hw, g1, g2, rfl⟩
      · by_cases hz0 : l.toNat * sz = 0
        · refine ⟨#[], ?_, fun w' _ => ?_⟩
          · rw [hz0]; exact .nil
          · simp only [Bool.not_true, Bool.false_eq_true, if_false, hz0, if_true]
            rfl
        · refine ⟨Builtin.zeroCells z.cells l.toNat, zeroCells_rel (he.zeroRel hz ρ) hzs h0, fun w' _ => ?_⟩
          simp only [Bool.not_true, Bool.false_eq_true, if_false, hz0, Sem.run_bind, he.runZero hz, Result.andThen_ok, Sem.run_pure]
  | false =>
    simp only [cond_false] at hn hnew
    refine ⟨(fun h => by cases h), fun _ w' => lenOf_rel e.P hv hn w', ?_⟩
    · obtain ⟨cs', g1, g2⟩ := first_rel e.P x hv hnew (fun l hl => by rw [hn] at hl; cases hl; exact Nat.le_refl _)
      refine ⟨cs', g2, fun w' hw => ?_⟩
      simp only [Bool.not_false, if_true]
      exact g1 w' hw


theorem VRel.sl_some {ρ : Inj} {a : Addr} {l k : Nat} {v : Value} (h : VRel ρ (.slice (some a) l k) v) : ∃ c k' pl, v = .slice (some c) l k' ∧ ρ a.block = some pl ∧ SlRel pl a l k c k' := by
  cases h with | sl h1 h2 => exact ⟨_, _, _, rfl, h1, h2⟩
theorem VRel.sl_none {ρ : Inj} {l k : Nat} {v : Value} (h : VRel ρ (.slice none l k) v) : v = .slice none l k := by
  cases h; rfl

/-- The part of 'append' that lays a new array. -/
theorem grow_rel (he : e.Ok) {ρ ρ0 : Inj} {h : AHeap} {w : World} (x : WRel ρ h w) {elem : TypeId} {z : Value} {sz : Nat} {need : Nat} {old new : List Value} {old' new' : Array Value} (_hx0 : Ext ρ0 ρ)
    (hzs : z.cells.toList.length = sz) (h0 : 0 < sz) (ho : VsRel ρ old old'.toList) (hn : VsRel ρ new new'.toList) (hl : old.length + new.length = need * sz) (newCap : Nat) (hc : need ≤ newCap) :
    ∃ ρ', VRel ρ' (.slice (some ⟨h.next, 0, none⟩) need need) (.slice (some ⟨w.heap.size, 0, none⟩) need newCap) ∧
      WRel ρ' (h.new (.row (old ++ new) true sz)) (World.add w (.cells (old' ++ new' ++ Builtin.zeroCells z.cells (newCap - need)) elem)) ∧
      Fr h.next ρ h w ρ' (h.new (.row (old ++ new) true sz)) (World.add w (.cells (old' ++ new' ++ Builtin.zeroCells z.cells (newCap - need)) elem)) := by
  have hv : VsRel ρ (old ++ new) (old' ++ new').toList := by rw [Array.toList_append]; exact ho.append hn
  obtain ⟨ρ', pl, g1, g2, g3, g4, g5, g6, g7, g8⟩ := new_grown (rest := Builtin.zeroCells z.cells (newCap - need)) x (x.slot _) hv elem h0
  refine ⟨ρ', .sl (a := ⟨h.next, 0, none⟩) g1 (.inl ⟨by simp [g2, g3], .inr ⟨by omega, ?_, ?_, hc⟩⟩), g7, g8⟩
  · rw [g4, g6, List.length_append, hl]; simp
  · rw [g5, g6, List.length_append, hl]
    have e1 : z.cells.size = sz := by simpa using hzs
    have e2 : (Builtin.zeroCells z.cells (newCap - need)).size = (newCap - need) * sz := by simp [Builtin.zeroCells, e1]
    rw [e2, ← Nat.add_mul]
    simp only [Nat.zero_add]
    congr 1
    omega

theorem setRow_run (P : Program) (w : World) (blk off : Nat) (c : Array Value) (el : TypeId) (vs : List Value) (hg : w.heap[blk]? = some (.cells c el (0, 0))) (hl : off + vs.length ≤ c.size) (h1 : ∀ v ∈ vs, v.oneCell' = true) :
    (storeCells ⟨blk, off, none⟩ vs).run P w = .ok () (World.turn w blk (.cells (c.toList.take off ++ vs ++ c.toList.drop (off + vs.length)).toArray el (0, 0))) := by
  have := run_storeCells_at (P := P) blk off el vs 0 c w hg (by omega) h1
  rw [setRow_turn w blk c el (0, 0) _ hg] at this
  simpa using this

theorem appendTo_rel (he : e.Ok) {ρ : Inj} {h h' : AHeap} {w : World} (x : WRel ρ h w) {base : Option Addr} {len cap sz b n : Nat} {new : List Value} {new' : Array Value} {s' r : Value} {elem : TypeId} {z : Value}
    (hs : VRel ρ (.slice base len cap) s') (hnr : VsRel ρ new new'.toList) (hr : appendTo h base len cap sz b n new = some (r, h')) (h0 : 0 < sz) (hzs : z.cells.toList.length = sz) (hnl : new.length = n * sz)
    (hz : e.zero elem = some z) (hby : e.bytes elem = some b) (hsz : e.size elem = some sz) (zb : Bool) (xv' : Value) (appended : Sem (Array Value)) (hap : ∀ w', w'.heap = w.heap → appended.run e.P w' = .ok new' w') :
    Gives h.next e.P ρ h w (match s' with
      | .slice base sLen sCap => do
        let need := sLen + n
        if need ≤ sCap then
          let new ← appended
          if let some a := base then storeCells (a.add (sLen * sz)) new.toList
          pure (.slice base need sCap)
        else
          if (need : Int) > IntKind.i64.max ∧ (zb ∨ (← typeInfo elem).bytes = 0) then runtimePanic (.error "growslice: len out of range")
          if Builtin.nextslicecap need sCap * (← typeInfo elem).bytes > 2 ^ 48 then (if zb then runtimePanic (.error "growslice: len out of range") else do
            if !(← Builtin.mayShare sz sLen n base xv') then mark .noRoom
            unsupported (.resourceLimit "append: a slice or a string whose bytes no memory bears"))
          let newCap ← choose (.appendCap need sCap elem)
          askRoom (newCap * (← typeInfo elem).bytes)
          let old ← Builtin.firstCells sz sLen s'
          let new ← appended
          let rest := Builtin.zeroCells (← zeroValue elem).cells (newCap - need)
          pure (.slice (some (← newRow elem (old ++ new ++ rest))) need newCap)
      | _ => stuck "") r h' := by
  -- growing, whatever the memory is that the new row is laid in
  have grow : ∀ (base' : Option Addr) (cap' : Nat) (h1 : AHeap) (x1 : WRel ρ h1 w) (old : List Value), s' = .slice base' len cap' → ¬ len + n ≤ cap' → (len + n) * (b + 1) ≤ 1073741824 → old.length = len * sz →
      (∃ old' : Array Value, VsRel ρ old old'.toList ∧ ∀ w', w'.heap = w.heap → (Builtin.firstCells sz len s').run e.P w' = .ok old' w') →
      ∃ v' w' ρ', (do
          if ((len + n : Nat) : Int) > IntKind.i64.max ∧ (zb ∨ (← typeInfo elem).bytes = 0) then runtimePanic (.error "growslice: len out of range")
          if Builtin.nextslicecap (len + n) cap' * (← typeInfo elem).bytes > 2 ^ 48 then (if zb then runtimePanic (.error "growslice: len out of range") else do
            if !(← Builtin.mayShare sz len n base' xv') then mark .noRoom
            unsupported (.resourceLimit "append: a slice or a string whose bytes no memory bears"))
          let newCap ← choose (.appendCap (len + n) cap' elem)
          askRoom (newCap * (← typeInfo elem).bytes)
          let old ← Builtin.firstCells sz len s'
          let new ← appended
          let rest := Builtin.zeroCells (← zeroValue elem).cells (newCap - (len + n))
          pure (.slice (some (← newRow elem (old ++ new ++ rest))) (len + n) newCap) : Sem Value).run e.P w = .ok v' w' ∧
        VRel ρ' (.slice (some ⟨h1.next, 0, none⟩) (len + n) (len + n)) v' ∧ WRel ρ' (h1.new (.row (old ++ new) true sz)) w' ∧ Fr h1.next ρ h1 w ρ' (h1.new (.row (old ++ new) true sz)) w' := by
    intro base' cap' h1 x1 old hs' hn hlim hol ⟨old', ho1, ho2⟩
    obtain ⟨i, hi1, hi2⟩ := he.bytes elem b hby
    have hlim' : len + n ≤ 1073741824 := Nat.le_trans (Nat.le_mul_of_pos_right _ (Nat.succ_pos b)) hlim
    have c1 : ¬ (((len + n : Nat) : Int) > IntKind.i64.max ∧ (zb = true ∨ b = 0)) := by
      intro hc
      have : (9223372036854775807 : Int) < ((len + n : Nat) : Int) := hc.1
      omega
    have hnc := nextcap_le (need := len + n) (cap := cap') (by omega)
    have c2 : ¬ Builtin.nextslicecap (len + n) cap' * b > 2 ^ 48 := by
      have g1 := Nat.mul_le_mul_right b hnc
      have g2 : ((len + n) * 16 + 6400) * b ≤ 16 * ((len + n) * (b + 1)) + 6400 * b := by
        rw [Nat.add_mul, Nat.mul_add, Nat.mul_comm (len + n) 16, Nat.mul_assoc]
        omega
      have g3 : b ≤ (len + n) * (b + 1) := by
        have : 1 * (b + 1) ≤ (len + n) * (b + 1) := Nat.mul_le_mul_right _ (by omega)
        omega
      omega
    have hcap : ∀ t, len + n ≤ (Question.appendCap (len + n) cap' elem).cut t := fun t => Nat.le_add_right _ _
    let w1 : World := { w with drawn := w.drawn + 1 }
    have x2 : WRel ρ h1 w1 := x1.draw rfl
    obtain ⟨ρ', k1, k2, k3⟩ := grow_rel (ρ0 := ρ) he x2 (Ext.refl _) hzs h0 ho1 hnr (need := len + n) (by rw [hol, hnl, ← Nat.add_mul]) ((Question.appendCap (len + n) cap' elem).cut (w.tape w.drawn (.appendCap (len + n) cap' elem))) (hcap _) (elem := elem)
    refine ⟨_, _, ρ', ?_, k1, k2, (fr_draw (w := w) (w' := w1) rfl rfl rfl _).trans k3⟩
    have hq : (Question.appendCap (len + n) cap' elem).forced = false := rfl
    simp only [Sem.run_bind, run_typeInfo hi1, Result.andThen_ok, hi2, c1, if_false, c2, run_choose, hq, Bool.false_eq_true, run_askRoom, ho2 ⟨w.heap, w.tape, w.drawn + 1, w.os, w.output⟩ rfl, hap ⟨w.heap, w.tape, w.drawn + 1, w.os, w.output⟩ rfl, he.runZero hz, run_newRow, Sem.run_pure, Sem.run_ite]
    rfl
  unfold appendTo at hr
  cases hle : Nat.ble (len + n) cap with
  | true =>
    have hle' : len + n ≤ cap := Nat.le_of_ble_eq_true hle
    simp only [hle, cond_true] at hr
    cases base with
    | none =>
      simp only at hr
      obtain ⟨hn0, hr⟩ := of_bif hr
      cases hr
      have := hs.sl_none; subst this
      refine Gives.same x (v' := .slice none (len + n) cap) ?_ (.sl0 _ _)
      simp only [hle', if_true, Sem.run_bind, hap w rfl, Result.andThen_ok, Sem.run_pure]
    | some a =>
      simp only at hr
      obtain ⟨c, cap', pl, rfl, hp, hsl⟩ := hs.sl_some
      cases hw : writeCells h (a.add (len * sz)) new with
      | none => simp [hw] at hr
      | some h1 =>
        simp only [hw, Option.some.injEq, Prod.mk.injEq] at hr
        obtain ⟨rfl, rfl⟩ := hr
        have hcc : len + n ≤ cap' := by rcases hsl with ⟨_, h1 | h1⟩ | h1 <;> omega
        rcases hsl with ⟨hc, hc2⟩ | ⟨k1, k2, k3⟩
        · obtain ⟨w', g1, g2, g3⟩ := write_rel e.P (b := h.next) x (a := a.add (len * sz)) (pl := pl) (by rw [Addr.add_block]; exact hp) hnr hw
          refine ⟨.slice (some c) (len + n) cap', w', ρ, ?_, .sl (g3.ext _ _ hp) (.inl ⟨hc, hc2⟩), g2, g3⟩
          have hca : c.add (len * sz) = ⟨pl.blk, pl.off + (a.add (len * sz)).off, none⟩ := by rw [hc, addr_add, Addr.add_off, Nat.add_assoc]
          simp only [hcc, if_true, Sem.run_bind, hap w rfl, Result.andThen_ok, hca, g1, Sem.run_pure]
        · have hn0 : n = 0 := by omega
          have hl0 : len = 0 := by omega
          have hnn : new = [] := List.eq_nil_of_length_eq_zero (by rw [hnl, hn0, Nat.zero_mul])
          subst hnn
          have hnn' : new'.toList = [] := List.eq_nil_of_length_eq_zero (by rw [← hnr.length]; rfl)
          simp only [writeCells, Option.some.injEq] at hw
          subst hw
          refine Gives.same x (v' := .slice (some c) (len + n) cap') ?_ (.sl hp (.inr ⟨by omega, k2, k3⟩))
          simp only [hcc, if_true, Sem.run_bind, hap w rfl, Result.andThen_ok, hnn', storeCells, Sem.run_pure]
  | false =>
    have hle' : ¬ len + n ≤ cap := fun h => by rw [Nat.ble_eq_true_of_le h] at hle; cases hle
    simp only [hle, cond_false] at hr
    obtain ⟨hlim, hr⟩ := of_bif hr
    have hlim := Nat.le_of_ble_eq_true hlim
    cases base with
    | none =>
      simp only at hr
      obtain ⟨hb, hr⟩ := of_bif hr
      cases hr
      rw [Bool.and_eq_true] at hb
      have hl0 : len = 0 := Nat.eq_of_beq_eq_true hb.1
      have hc0 : cap = 0 := Nat.eq_of_beq_eq_true hb.2
      have := hs.sl_none; subst this
      obtain ⟨v', w', ρ', k1, k2, k3, k4⟩ := grow none cap h x [] rfl hle' hlim (by rw [hl0, Nat.zero_mul]; rfl) ⟨#[], .nil, fun _ _ => rfl⟩
      refine ⟨v', w', ρ', ?_, k2, k3, k4⟩
      simp only [hle', if_false]
      exact k1
    | some a =>
      simp only at hr
      obtain ⟨c, cap', pl, rfl, hp, hsl⟩ := hs.sl_some
      cases ho : readCells h a (len * sz) with
      | none => simp [ho] at hr
      | some old =>
        cases hg : h.get a.block with
        | none => simp [ho, hg] at hr
        | some o =>
          cases o with
          | row rs wr esz =>
            simp only [ho, hg] at hr
            have hfo : firstA h sz len (.slice (some a) len cap) = some old := ho
            obtain ⟨old', f1, f2⟩ := first_rel e.P x hs hfo (fun l hl => by cases hl; exact Nat.le_refl _)
            have hol : old.length = len * sz := by
              obtain ⟨cs', q1, q2, _⟩ := read_rel x hp ho
              rw [q1.length]; exact q2
            obtain ⟨pl', g1, cc, el, fz, g2, g3, g4, g5, g6, g7, g8, g9⟩ := x.obj _ _ hg
            rw [hp] at g1; cases g1
            cases hcase : Nat.beq esz 0 || (Nat.beq esz sz && Nat.blt (a.off + cap * sz) rs.length) with
            | true =>
              simp only [hcase, cond_true, Option.some.injEq, Prod.mk.injEq] at hr
              obtain ⟨rfl, rfl⟩ := hr
              have hncap : ¬ len + n ≤ cap' := by
                simp only [Bool.or_eq_true, Bool.and_eq_true] at hcase
                rcases hsl with ⟨_, h1 | ⟨h1, h2, h3, h4⟩⟩ | ⟨h1, h2, h3⟩
                · omega
                · rcases hcase with hb | ⟨hb, hb'⟩
                  · have := Nat.eq_of_beq_eq_true hb; omega
                  · have := Nat.eq_of_beq_eq_true hb
                    have hb' : a.off + cap * sz < rs.length := Nat.le_of_ble_eq_true hb'
                    rw [g5, this, g4] at h2
                    omega
                · omega
              obtain ⟨v', w', ρ', k1, k2, k3, k4⟩ := grow (some c) cap' h x old rfl hncap hlim hol ⟨old', f2, f1⟩
              refine ⟨v', w', ρ', ?_, k2, k3, k4⟩
              simp only [hncap, if_false]
              exact k1
            | false =>
              simp only [hcase, cond_false] at hr
              obtain ⟨hb, hr⟩ := of_bif hr
              simp only [Option.some.injEq, Prod.mk.injEq] at hr
              obtain ⟨rfl, rfl⟩ := hr
              simp only [Bool.and_eq_true] at hb
              obtain ⟨⟨hwr, hes⟩, hone⟩ := hb
              have hes := Nat.eq_of_beq_eq_true hes
              subst hwr
              have hfz := g3 rfl
              subst hfz
              by_cases hfit : len + n ≤ cap'
              · -- there is room behind the row: its block is the new row's
                have hd : c = ⟨pl.blk, pl.off + a.off, none⟩ ∧ 0 < pl.esz ∧ a.off + cap * pl.esz = pl.n ∧ a.off + cap' * pl.esz = pl.cap := by
                  rcases hsl with ⟨hc, h1 | ⟨h1, h2, h3, h4⟩⟩ | ⟨h1, h2, h3⟩
                  · omega
                  · exact ⟨hc, h1, h2, h3⟩
                  · omega
                obtain ⟨hc, hd1, hd2, hd3⟩ := hd
                have hpe : pl.esz = sz := g5.trans hes
                rw [hpe] at hd1 hd2 hd3
                have hq : (len + n) * sz ≤ cap' * sz := Nat.mul_le_mul_right _ hfit
                have hq1 : (len + n) * sz = len * sz + n * sz := Nat.add_mul _ _ _
                have hnl' : new'.toList.length = n * sz := by rw [← hnr.length]; exact hnl
                have hst := setRow_run e.P w pl.blk (pl.off + a.off + len * sz) cc el new'.toList g2 (by rw [hnl']; omega) (hnr.oneCell hone)
                let pl' : Pl := { blk := pl.blk, off := pl.off + a.off, n := (len + n) * sz, cap := pl.cap - a.off, esz := sz }
                have hr : ORel (ρ.put h.next pl') (World.turn w pl.blk (.cells (cc.toList.take (pl.off + a.off + len * sz) ++ new'.toList ++ cc.toList.drop (pl.off + a.off + len * sz + new'.toList.length)).toArray el (0, 0))) pl' (.row (old ++ new) true sz) := by
                  have hlt : pl.blk < w.heap.size := (Array.getElem?_eq_some_iff.1 g2).1
                  refine ⟨_, el, (0, 0), heap_turn_self w _ _ hlt, fun _ => rfl, ?_, rfl, ?_, ?_, fun h => absurd h (by omega), ?_, fun _ => trivial⟩
                  · show (len + n) * sz = (old ++ new).length
                    rw [List.length_append, hol, hnl, hq1]
                  · show (len + n) * sz ≤ pl.cap - a.off
                    omega
                  · show pl.off + a.off + (pl.cap - a.off) ≤ _
                    simp only [List.size_toArray, List.length_append, List.length_take, List.length_drop, Array.length_toList]
                    simp only [Array.length_toList] at hnl'
                    omega
                  · show VsRel _ (old ++ new) ((_ : List Value).take ((len + n) * sz))
                    simp only
                    have hcs : pl.off + a.off + (len + n) * sz ≤ cc.toList.length := by rw [Array.length_toList]; omega
                    rw [seg_splice cc.toList (pl.off + a.off) ((len + n) * sz) (len * sz) new'.toList (by rw [hnl']; omega) hcs]
                    obtain ⟨cs', q1, q2, q3⟩ := read_rel x hp ho
                    have hseg : cs' = (cc.toList.drop (pl.off + a.off)).take (len * sz) := by
                      apply List.ext_getElem?
                      intro i
                      rcases Nat.lt_or_ge i (len * sz) with hi | hi
                      · have hci := q3 i cs'[i] (List.getElem?_eq_getElem (by omega))
                        rw [addr_add] at hci
                        simp only [World.cell?, g2, Option.isSome_none, Bool.false_eq_true, if_false] at hci
                        rw [List.getElem?_take, if_pos hi, List.getElem?_drop, List.getElem?_eq_getElem (by omega : i < cs'.length), ← hci, Array.getElem?_toList]
                      · rw [List.getElem?_eq_none (by omega), List.getElem?_take, if_neg (by omega)]
                    have hfin : splice ((cc.toList.drop (pl.off + a.off)).take ((len + n) * sz)) (len * sz) new'.toList = cs' ++ new'.toList := by
                      unfold splice
                      rw [List.take_take, Nat.min_eq_left (by omega), ← hseg, hnl', ← hq1, List.drop_take, Nat.sub_self, List.take_zero, List.append_nil]
                    rw [hfin]
                    exact (q1.append hnr).mono fun _ _ => VRel.mono (Inj.ext_put pl' x.fresh)
                obtain ⟨m1, m2⟩ := wrel_move (pl' := pl') x hg rfl hp rfl rfl hr rfl
                refine ⟨.slice (some c) (len + n) cap', _, _, ?_, .sl (a := ⟨h.next, 0, none⟩) (pl := pl') (Inj.put_self _ _ _) (.inl ⟨hc, .inr ⟨h0, ?_, ?_, hfit⟩⟩), m1, m2⟩
                · have hca : c.add (len * sz) = ⟨pl.blk, pl.off + a.off + len * sz, none⟩ := by rw [hc, addr_add]
                  simp only [hfit, if_true, Sem.run_bind, hap w rfl, Result.andThen_ok, hca, hst, Sem.run_pure]
                · show 0 + (len + n) * sz = (len + n) * sz; omega
                · show 0 + cap' * sz = pl.cap - a.off; omega
              · obtain ⟨x1, fr1⟩ := x.kill a.block h.next
                obtain ⟨v', w', ρ', k1, k2, k3, k4⟩ := grow (some c) cap' (h.set a.block none) x1 old rfl hfit hlim hol ⟨old', f2, f1⟩
                refine ⟨v', w', ρ', ?_, k2, k3, fr1.trans k4⟩
                simp only [hfit, if_false]
                exact k1
          | _ => simp [ho, hg] at hr

end Go.Abs
end

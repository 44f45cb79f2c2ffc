/-
  Operations, more: append and copy as the model writes them; comparisons; maps; iterators.
-/
import Derived.Test.YtlilfkbnlacfgaaGreatDoorAbsF
namespace Go.Abs
variable {e : Env}

theorem isInt_run (d : TypeDesc) : (match d with | .int _ => true | _ => false : Bool) = isIntD d := by cases d <;> rfl

theorem append_rel (he : e.Ok) {ρ : Inj} {h h' : AHeap} {w : World} (x : WRel ρ h w) {ats : Array TypeId} {s s' xv xv' r : Value} (hs : VRel ρ s s') (hx : VRel ρ xv xv')
    (hr : appendA e h ats s xv = some (r, h')) (ty : TypeId) : Gives h.next e.P ρ h w (Builtin.append_ ats ty #[s', xv']) r h' := by
  unfold appendA at hr
  cases ha0 : ats[0]? with
  | none => simp [ha0] at hr
  | some st =>
  cases ha1 : ats[1]? with
  | none => simp [ha0, ha1] at hr
  | some xt =>
  have hsl : ∃ base len cap, s = .slice base len cap := by
    cases s <;> simp [ha0, ha1] at hr
    exact ⟨_, _, _, rfl⟩
  obtain ⟨base, len, cap, rfl⟩ := hsl
  simp only [ha0, ha1] at hr
  cases hu : e.under st with
  | none => simp [hu] at hr
  | some d =>
  cases d with
  | slice elem =>
    cases hxu : e.under xt with
    | none => simp [hu, hxu] at hr
    | some xd =>
    simp only [hu, hxu] at hr
    cases hsz : e.size elem with
    | none => simp [hsz] at hr
    | some sz =>
    cases hz : e.zero elem with
    | none => simp [hsz, hz] at hr
    | some z =>
    cases hby : e.bytes elem with
    | none => simp [hsz, hz, hby] at hr
    | some by' =>
    simp only [hsz, hz, hby] at hr
    cases hn : appendN (isIntD xd) by' xv with
    | none => simp [hn] at hr
    | some n =>
    simp only [hn] at hr
    cases hnew : appendNew h (isIntD xd) z.cells.toList n sz xv with
    | none => simp [hnew] at hr
    | some new =>
    simp only [hnew] at hr
    obtain ⟨hb, hr⟩ := of_bif hr
    simp only [Bool.and_eq_true] at hb
    obtain ⟨⟨hb1, hb2⟩, hb3⟩ := hb
    have h0 : 0 < sz := Nat.le_of_ble_eq_true hb1
    have hzs : z.cells.toList.length = sz := Nat.eq_of_beq_eq_true hb2
    have hnl : new.length = n * sz := Nat.eq_of_beq_eq_true hb3
    obtain ⟨kn1, kn2, new', hnr, knew⟩ := appended_rel he x hx hz hsz hby hzs h0 hn hnew
    have key := appendTo_rel he x hs hnr hr h0 hzs hnl hz hby hsz (isIntD xd) xv' _ knew
    obtain ⟨v', w', ρ', k1, k2⟩ := key
    refine ⟨v', w', ρ', ?_, k2⟩
    have hi0 : (#[s', xv'] : Array Value)[0]? = some s' := rfl
    have hi1 : (#[s', xv'] : Array Value)[1]? = some xv' := rfl
    obtain ⟨base', cap', rfl⟩ : ∃ base' cap', s' = .slice base' len cap' := by
      cases hs with
      | sl0 l k => exact ⟨_, _, rfl⟩
      | sl _ _ => exact ⟨_, _, rfl⟩
    obtain ⟨i, hi3, hi4⟩ := he.bytes elem by' hby
    cases xd with
    | int k =>
      obtain ⟨l, rfl, q1, q2, q3, q4⟩ := kn1 rfl
      have hi1 : (#[Value.slice base' len cap', .int .i64 l] : Array Value)[1]? = some (.int .i64 l) := rfl
      have hi0 : (#[Value.slice base' len cap', .int .i64 l] : Array Value)[0]? = some (.slice base' len cap') := rfl
      simp only [Builtin.append_, ha0, ha1, hi0, hi1, Sem.run_bind, he.runUnder hu, he.runUnder hxu, Result.andThen_ok, he.runSize hsz, Sem.run_pure, if_true, Bool.not_true, Bool.false_eq_true, if_false, asInt, asIntOf, q1, q2, run_typeInfo hi3, hi4, q3, q4]
      simp only [isIntD, Bool.not_true, Bool.false_eq_true, if_true, if_false] at k1 ⊢
      exact k1
    | _ =>
      simp only [Builtin.append_, ha0, ha1, hi0, hi1, Sem.run_bind, he.runUnder hu, he.runUnder hxu, Result.andThen_ok, he.runSize hsz, Sem.run_pure, Bool.not_false, if_true, Bool.false_eq_true, if_false, kn2 rfl w]
      simp only [isIntD, Bool.not_false, Bool.false_eq_true, if_true, if_false] at k1 ⊢
      exact k1
  | _ => simp [hu] at hr

theorem copy_rel (he : e.Ok) {ρ : Inj} {h h' : AHeap} {w : World} (x : WRel ρ h w) {ats : Array TypeId} {d d' xv xv' r : Value} (hd : VRel ρ d d') (hx : VRel ρ xv xv')
    (hr : copyA e h ats d xv = some (r, h')) (ty : TypeId) : Gives h.next e.P ρ h w (Builtin.copy_ ats ty #[d', xv']) r h' := by
  unfold copyA at hr
  cases ha0 : ats[0]? with
  | none => simp [ha0] at hr
  | some dt =>
  have hsl : ∃ base len cap, d = .slice base len cap := by
    cases d <;> simp [ha0] at hr
    exact ⟨_, _, _, rfl⟩
  obtain ⟨base, len, cap, rfl⟩ := hsl
  simp only [ha0] at hr
  cases hu : e.under dt with
  | none => simp [hu] at hr
  | some td =>
  cases td with
  | slice elem =>
    cases hl : lenOfA xv with
    | none => simp [hu, hl] at hr
    | some xl =>
    simp only [hu, hl] at hr
    cases hsz : e.size elem with
    | none => simp [hsz] at hr
    | some sz =>
    simp only [hsz] at hr
    cases hf : firstA h sz (Nat.min xl len) xv with
    | none => simp [hf] at hr
    | some cs =>
    simp only [hf] at hr
    obtain ⟨hb, hr⟩ := of_bif hr
    have hcl := Nat.eq_of_beq_eq_true hb
    obtain ⟨cs', g1, g2⟩ := first_rel e.P x hx hf (fun l hl' => by rw [hl] at hl'; cases hl'; exact Nat.min_le_left _ _)
    have hi0 : (#[d', xv'] : Array Value)[0]? = some d' := rfl
    have hi1 : (#[d', xv'] : Array Value)[1]? = some xv' := rfl
    have hln := lenOf_rel e.P hx hl w
    cases base with
    | none =>
      simp only [Option.some.injEq, Prod.mk.injEq] at hr
      obtain ⟨rfl, rfl⟩ := hr
      have := hd.sl_none; subst this
      refine Gives.same x (v' := .int .i64 (Nat.min xl len : Nat)) ?_ (.int _ _)
      simp only [Builtin.copy_, ha0, hi0, hi1, Sem.run_bind, he.runUnder hu, Result.andThen_ok, hln, he.runSize hsz, g1 w rfl, Sem.run_pure, goInt]
    | some a =>
      simp only at hr
      cases hw : writeCells h a cs with
      | none => simp [hw] at hr
      | some h1 =>
        simp only [hw, Option.some.injEq, Prod.mk.injEq] at hr
        obtain ⟨rfl, rfl⟩ := hr
        obtain ⟨c, cap', pl, rfl, hp, hsl⟩ := hd.sl_some
        rcases hsl with ⟨hc, _⟩ | ⟨k1, _, _⟩
        · obtain ⟨w', q1, q2, q3⟩ := write_rel e.P (b := h.next) x hp g2 hw
          refine ⟨.int .i64 (Nat.min xl len : Nat), w', ρ, ?_, .int _ _, q2, q3⟩
          rw [← hc] at q1
          simp only [Builtin.copy_, ha0, hi0, hi1, Sem.run_bind, he.runUnder hu, Result.andThen_ok, hln, he.runSize hsz, g1 w rfl, q1, Sem.run_pure, goInt]
        · have h0 : Nat.min xl len = 0 := by rw [k1]; exact Nat.min_zero _
          rw [h0, Nat.zero_mul] at hcl
          have hn : cs = [] := List.eq_nil_of_length_eq_zero hcl
          subst hn
          simp only [writeCells, Option.some.injEq] at hw
          subst hw
          have hn' : cs'.toList = [] := List.eq_nil_of_length_eq_zero (by rw [← g2.length]; rfl)
          refine Gives.same x (v' := .int .i64 (Nat.min xl len : Nat)) ?_ (.int _ _)
          simp only [Builtin.copy_, ha0, hi0, hi1, Sem.run_bind, he.runUnder hu, Result.andThen_ok, hln, he.runSize hsz, g1 w rfl, hn', storeCells, Sem.run_pure, goInt]
  | _ => simp [hu] at hr

end Go.Abs

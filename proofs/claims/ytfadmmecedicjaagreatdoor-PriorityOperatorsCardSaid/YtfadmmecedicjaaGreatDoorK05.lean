/-
  PriorityOperators: parts of its proof (AbsG AbsH AbsI).
-/
import Derived.CallsIn
import Derived.Test.YtfadmmecedicjaaGreatDoorK04
set_option linter.unusedVariables false
set_option linter.unusedSimpArgs false

section
/-
  Operations, more: append and copy as the model writes them; comparisons; maps; iterators.
-/
namespace Go.Abs
variable {e : Env}

theorem isInt_run (d : TypeDesc) : (match d with | .int _ => true | _ => false : Bool) = isIntD d := by cases d <;> rfl

theorem append_rel (he : e.Ok) {ρ : Inj} {h h' : AHeap} {w : World} (x : WRel ρ h w) {ats : Array TypeId} {s s' xv xv' r : Value} (hs : VRel ρ s s') (hx : VRel ρ xv xv')
    (hr : appendA e h ats s xv = some (r, h')) (ty : TypeId) : Gives h.next e.P ρ h w (Builtin.append_ ats ty #[s', xv']) r h' := by
  unfold appendA at hr
  cases ha0 : ats[0]? with
  | none => simp [ha0] at hr
  | some st =>
  cases ha1 : ats[1]? with
  | none => simp [ha0, ha1] at hr
  | some xt =>
  have hsl : ∃ base len cap, s = .slice base len cap := by
    cases s <;> simp [ha0, ha1] at hr
    exact ⟨_, _, _, rfl⟩
  obtain ⟨base, len, cap, rfl⟩ := hsl
  simp only [ha0, ha1] at hr
  cases hu : e.under st with
  | none => simp [hu] at hr
  | some d =>
  cases d with
  | slice elem =>
    cases hxu : e.under xt with
    | none => simp [hu, hxu] at hr
    | some xd =>
    simp only [hu, hxu] at hr
    cases hsz : e.size elem with
    | none => simp [hsz] at hr
    | some sz =>
    cases hz : e.zero elem with
    | none => simp [hsz, hz] at hr
    | some z =>
    cases hby : e.bytes elem with
    | none => simp [hsz, hz, hby] at hr
    | some by' =>
    simp only [hsz, hz, hby] at hr
    cases hn : appendN (isIntD xd) by' xv with
    | none => simp [hn] at hr
    | some n =>
    simp only [hn] at hr
    cases hnew : appendNew h (isIntD xd) z.cells.toList n sz xv with
    | none => simp [hnew] at hr
    | some new =>
    simp only [hnew] at hr
    obtain ⟨hb, hr⟩ := of_bif hr
    simp only [Bool.and_eq_true] at hb
    obtain ⟨⟨hb1, hb2⟩, hb3⟩ := hb
    have h0 : 0 < sz := Nat.le_of_ble_eq_true hb1
    have hzs : z.cells.toList.length = sz := Nat.eq_of_beq_eq_true hb2
    have hnl : new.length = n * sz := Nat.eq_of_beq_eq_true hb3
    obtain ⟨kn1, kn2, new', hnr, knew⟩ := appended_rel he x hx hz hsz hby hzs h0 hn hnew
    have key := appendTo_rel he x hs hnr hr h0 hzs hnl hz hby hsz (isIntD xd) xv' _ knew
    obtain ⟨v', w', ρ', k1, k2⟩ := key
    refine ⟨v', w', ρ', ?_, k2⟩
    have hi0 : (#[s', xv'] : Array Value)[0]? = some s' := rfl
    have hi1 : (#[s', xv'] : Array Value)[1]? = some xv' := rfl
    obtain ⟨base', cap', rfl⟩ : ∃ base' cap', s' = .slice base' len cap' := by
      cases hs with
      | sl0 l k => exact ⟨_, _, rfl⟩
      | sl _ _ => exact ⟨_, _, rfl⟩
    obtain ⟨i, hi3, hi4⟩ := he.bytes elem by' hby
    cases xd with
    | int k =>
      obtain ⟨l, rfl, q1, q2, q3, q4⟩ := kn1 rfl
      have hi1 : (#[Value.slice base' len cap', .int .i64 l] : Array Value)[1]? = some (.int .i64 l) := rfl
      have hi0 : (#[Value.slice base' len cap', .int .i64 l] : Array Value)[0]? = some (.slice base' len cap') := rfl
      simp only [Builtin.append_, ha0, ha1, hi0, hi1, Sem.run_bind, he.runUnder hu, he.runUnder hxu, Result.andThen_ok, he.runSize hsz, Sem.run_pure, if_true, Bool.not_true, Bool.false_eq_true, if_false, asInt, asIntOf, q1, q2, run_typeInfo hi3, hi4, q3, q4]
      simp only [isIntD, Bool.not_true, Bool.false_eq_true, if_true, if_false] at k1 ⊢
      exact k1
    | _ =>
      simp only [Builtin.append_, ha0, ha1, hi0, hi1, Sem.run_bind, he.runUnder hu, he.runUnder hxu, Result.andThen_ok, he.runSize hsz, Sem.run_pure, Bool.not_false, if_true, Bool.false_eq_true, if_false, kn2 rfl w]
      simp only [isIntD, Bool.not_false, Bool.false_eq_true, if_true, if_false] at k1 ⊢
      exact k1
  | _ => simp [hu] at hr

theorem copy_rel (he : e.Ok) {ρ : Inj} {h h' : AHeap} {w : World} (x : WRel ρ h w) {ats : Array TypeId} {d d' xv xv' r : Value} (hd : VRel ρ d d') (hx : VRel ρ xv xv')
    (hr : copyA e h ats d xv = some (r, h')) (ty : TypeId) : Gives h.next e.P ρ h w (Builtin.copy_ ats ty #[d', xv']) r h' := by
  unfold copyA at hr
  cases ha0 : ats[0]? with
  | none => simp [ha0] at hr
  | some dt =>
  have hsl : ∃ base len cap, d = .slice base len cap := by
    cases d <;> simp [ha0] at hr
    exact ⟨_, _, _, rfl⟩
  obtain ⟨base, len, cap, rfl⟩ := hsl
  simp only [ha0] at hr
  cases hu : e.under dt with
  | none => simp [hu] at hr
  | some td =>
  cases td with
  | slice elem =>
    cases hl : lenOfA xv with
    | none => simp [hu, hl] at hr
    | some xl =>
    simp only [hu, hl] at hr
    cases hsz : e.size elem with
    | none => simp [hsz] at hr
    | some sz =>
    simp only [hsz] at hr
    cases hf : firstA h sz (Nat.min xl len) xv with
    | none => simp [hf] at hr
    | some cs =>
    simp only [hf] at hr
    obtain ⟨hb, hr⟩ := of_bif hr
    have hcl := Nat.eq_of_beq_eq_true hb
    obtain ⟨cs', g1, g2⟩ := first_rel e.P x hx hf (fun l hl' => by rw [hl] at hl'; cases hl'; exact Nat.min_le_left _ _)
    have hi0 : (#[d', xv'] : Array Value)[0]? = some d' := rfl
    have hi1 : (#[d', xv'] : Array Value)[1]? = some xv' := rfl
    have hln := lenOf_rel e.P hx hl w
    cases base with
    | none =>
      simp only [Option.some.injEq, Prod.mk.injEq] at hr
      obtain ⟨rfl, rfl⟩ := hr
      have := hd.sl_none; subst this
      refine Gives.same x (v' := .int .i64 (Nat.min xl len : Nat)) ?_ (.int _ _)
      simp only [Builtin.copy_, ha0, hi0, hi1, Sem.run_bind, he.runUnder hu, Result.andThen_ok, hln, he.runSize hsz, g1 w rfl, Sem.run_pure, goInt]
    | some a =>
      simp only at hr
      cases hw : writeCells h a cs with
      | none => simp [hw] at hr
      | some h1 =>
        simp only [hw, Option.some.injEq, Prod.mk.injEq] at hr
        obtain ⟨rfl, rfl⟩ := hr
        obtain ⟨c, cap', pl, rfl, hp, hsl⟩ := hd.sl_some
        rcases hsl with ⟨hc, _⟩ | ⟨k1, _, _⟩
        · obtain ⟨w', q1, q2, q3⟩ := write_rel e.P (b := h.next) x hp g2 hw
          refine ⟨.int .i64 (Nat.min xl len : Nat), w', ρ, ?_, .int _ _, q2, q3⟩
          rw [← hc] at q1
          simp only [Builtin.copy_, ha0, hi0, hi1, Sem.run_bind, he.runUnder hu, Result.andThen_ok, hln, he.runSize hsz, g1 w rfl, q1, Sem.run_pure, goInt]
        · have h0 : Nat.min xl len = 0 := by rw [k1]; exact Nat.min_zero _
          rw [h0, Nat.zero_mul] at hcl
          have hn : cs = [] := List.eq_nil_of_length_eq_zero hcl
          subst hn
          simp only [writeCells, Option.some.injEq] at hw
          subst hw
          have hn' : cs'.toList = [] := List.eq_nil_of_length_eq_zero (by rw [← g2.length]; rfl)
          refine Gives.same x (v' := .int .i64 (Nat.min xl len : Nat)) ?_ (.int _ _)
          simp only [Builtin.copy_, ha0, hi0, hi1, Sem.run_bind, he.runUnder hu, Result.andThen_ok, hln, he.runSize hsz, g1 w rfl, hn', storeCells, Sem.run_pure, goInt]
  | _ => simp [hu] at hr

end Go.Abs
end

section
/-
  Operations, more: comparisons; maps; iterators.
-/
namespace Go.Abs
variable {e : Env}

/-! ## Comparisons -/
theorem nilKind_rel {ρ : Inj} {d : TypeDesc} {a a' : Value} (ha : VRel ρ a a') : nilKind d a' = nilKind d a := by
  cases ha <;> cases d <;> rfl

def Nilable (v : Value) : Prop := match v with
  | .pointer _ | .slice _ _ _ | .map _ | .nilFunc | .func _ _ _ | .nilIface | .iface _ _ => True
  | _ => False
theorem nilKind_some {d : TypeDesc} {a : Value} {b : Bool} (h : nilKind d a = some b) : Nilable a := by
  cases d <;> simp only [nilKind] at h <;> first | cases h | (cases a <;> first | trivial | cases h)

theorem equal_nil {P : Program} {t : TypeId} {d : TypeDesc} (hu : P.underlying t = some d) {a b : Value} {q : Bool} (h1 : nilKind d a = some q) (h2 : nilKind d b = some !q) (w : World) (n : Nat) :
    (Op.equalIn (n + 1) t a b).run P w = .ok false w := by
  have hr := run_underlying (w := w) hu
  cases d with
  | pointer el =>
    cases a with
    | pointer a =>
      cases b with
      | pointer b => cases a <;> cases b <;> cases q <;> simp [nilKind] at h1 h2 <;> simp only [Op.equalIn, Sem.run_bind, hr, Result.andThen_ok, Sem.run_pure, Option.isNone_some]
      | _ => simp [nilKind] at h2
    | _ => simp [nilKind] at h1
  | slice el =>
    cases a with
    | slice a l k =>
      cases b with
      | slice b m j => cases a <;> cases b <;> cases q <;> simp [nilKind] at h1 h2 <;> simp only [Op.equalIn, Sem.run_bind, hr, Result.andThen_ok, Sem.run_pure, Option.isNone_some]
      | _ => simp [nilKind] at h2
    | _ => simp [nilKind] at h1
  | map k el =>
    cases a with
    | map a =>
      cases b with
      | map b => cases a <;> cases b <;> cases q <;> simp [nilKind] at h1 h2 <;> simp only [Op.equalIn, Sem.run_bind, hr, Result.andThen_ok, Sem.run_pure, Option.isNone_some]
      | _ => simp [nilKind] at h2
    | _ => simp [nilKind] at h1
  | func ps rs v =>
    cases a <;> simp only [nilKind] at h1 <;> first | (cases h1; done) | skip
    all_goals cases b <;> simp only [nilKind] at h2 <;> first | (cases h2; done) | skip
    all_goals cases q <;> first | (cases h1; done) | (cases h2; done) | skip
    all_goals simp only [Op.equalIn, Sem.run_bind, hr, Result.andThen_ok, Sem.run_pure]
  | interface ms =>
    cases a <;> simp only [nilKind] at h1 <;> first | (cases h1; done) | skip
    all_goals cases b <;> simp only [nilKind] at h2 <;> first | (cases h2; done) | skip
    all_goals cases q <;> first | (cases h1; done) | (cases h2; done) | skip
    all_goals simp only [Op.equalIn, Sem.run_bind, hr, Result.andThen_ok, Sem.run_pure]
  | _ => cases h1

theorem eq_nil_run {P : Program} {t : TypeId} {d : TypeDesc} (hu : P.underlying t = some d) {a b : Value} (h : nilEq d a b = true) (w : World) (x y : Operand) (op : BinOp) (hop : op = .eql ∨ op = .neq) :
    (do eqGuard op t x y a b; binOp op t a b : Sem Value).run P w = .ok (.bool (op == .neq)) w := by
  obtain ⟨q, h1, h2⟩ : ∃ q, nilKind d a = some q ∧ nilKind d b = some !q := by
    unfold nilEq at h
    split at h
    · rename_i g1 g2; exact ⟨true, g1, g2⟩
    · rename_i g1 g2; exact ⟨false, g1, g2⟩
    · cases h
  have heq : (Op.equal t a b).run P w = .ok false w := equal_nil hu h1 h2 w 9999
  have na := nilKind_some h1
  have nb := nilKind_some h2
  have hg : (eqGuard op t x y a b).run P w = .ok () w := by
    rcases hop with rfl | rfl
    all_goals
      cases a <;> first | exact na.elim | skip
      all_goals cases b <;> first | exact nb.elim | skip
      all_goals first | rfl | skip
      all_goals
        exfalso
        cases d <;> simp only [nilKind] at h1 h2 <;> first | (cases h1; done) | (cases h1; cases h2)
  have hb : (binOp op t a b).run P w = .ok (.bool (op == .neq)) w := by
    rcases hop with rfl | rfl
    all_goals
      cases a <;> first | exact na.elim | skip
      all_goals cases b <;> first | exact nb.elim | skip
      all_goals
        simp only [binOp, Sem.run_bind, heq, Result.andThen_ok, Sem.run_pure]
        rfl
  simp only [Sem.run_bind, hg, Result.andThen_ok, hb]

theorem guard_plain (P : Program) (w : World) (op : BinOp) (t : TypeId) (x y : Operand) (k j : IntKind) (m n : Int) : (eqGuard op t x y (.int k m) (.int j n)).run P w = .ok () w := by
  cases op <;> rfl

theorem intBin_rel {P : Program} {op : BinOp} {k : IntKind} {m n : Int} {r : Value} (h : intBin op k m n = some r) (t : TypeId) (w : World) (ρ : Inj) :
    (binOp op t (.int k m) (.int k n)).run P w = .ok r w ∧ VRel ρ r r := by
  unfold intBin at h
  cases op <;> cases h
  all_goals refine ⟨?_, by first | exact .int _ _ | exact .bool _⟩
  all_goals simp only [binOp, ne_eq, not_true_eq_false, if_false, Op.intArith, Op.intCmp, Sem.run_pure]
  all_goals first | rfl | (congr 2; done) | (congr 2; simp only [bne, beq_eq_decide])

theorem bin_rel (he : e.Ok) {ρ : Inj} (w : World) {op : BinOp} {t : TypeId} {x y : Operand} {a a' b b' r : Value} (ha : VRel ρ a a') (hb : VRel ρ b b') (hr : binA e op t x y a b = some r) :
    ∃ r', (do eqGuard op t x y a' b'; binOp op t a' b' : Sem Value).run e.P w = .ok r' w ∧ VRel ρ r r' := by
  unfold binA at hr
  split at hr
  · rename_i v hv
    cases hr
    split at hv
    · rename_i k n k' m
      obtain ⟨hk, hv'⟩ := of_bif hv
      rw [decide_eq_true_eq] at hk
      subst hk
      have := ha.int_l; subst this
      have := hb.int_l; subst this
      obtain ⟨g1, g2⟩ := intBin_rel (P := e.P) hv' t w ρ
      exact ⟨r, by simp only [Sem.run_bind, guard_plain, Result.andThen_ok, g1], g2⟩
    · cases hv
  · cases hp : plain a && plain b with
    | true =>
      simp only [hp, cond_true] at hr
      rw [Bool.and_eq_true] at hp
      have := plain_eq hp.1 ha; subst this
      have := plain_eq hp.2 hb; subst this
      exact ⟨r, plainRun_rel hr w⟩
    | false =>
      simp only [hp, cond_false] at hr
      cases hu : e.under t with
      | none => simp [hu] at hr
      | some d =>
        simp only [hu] at hr
        obtain ⟨hn, hr⟩ := of_bif hr
        have hn' : nilEq d a' b' = true := by
          unfold nilEq at hn ⊢
          rw [nilKind_rel ha, nilKind_rel hb]
          exact hn
        cases op <;> simp only at hr <;> first | (cases hr; done) | skip
        · cases hr
          exact ⟨_, eq_nil_run (he.under t d hu) hn' w x y .eql (.inl rfl), .bool _⟩
        · cases hr
          exact ⟨_, eq_nil_run (he.under t d hu) hn' w x y .neq (.inr rfl), .bool _⟩

/-! ## Maps -/
theorem getObj_map {P : Program} {w : World} {r : Nat} {es : Array MapEntry} {c : Nat} (h : w.heap[r]? = some (.map es c)) : (getObj r).run P w = .ok (.map es c) w := by simp only [getObj, Sem.run, h]
theorem setObj_turn {P : Program} {w : World} {r : Nat} {o : Obj} (p : Obj) (h : w.heap[r]? = some p) (hp : ∀ c t f, p ≠ .cells c t f) : (setObj r o).run P w = .ok () (World.turn w r o) := by
  unfold setObj
  simp only [Sem.run, h]
  cases p with
  | cells c t f => exact absurd rfl (hp c t f)
  | _ => rfl

theorem findNow_spec {kd : TypeDesc} {k : Value} (P : Program) (kt : TypeId) (ρ : Inj) : ∀ {es es' : List MapEntry} {i : Nat} {r : Option (Nat × Value)}, All2 (EntRel ρ) es es' → findA P kt k es i = some r →
    (∀ x, keyEqA P kt k x ≠ none → Instr.sameNow kd k x = keyEqA P kt k x) →
    ∃ r', Instr.findNow kd k es' i = some r' ∧ r'.map (·.1) = r.map (·.1) ∧ ∀ j v, r = some (j, v) → ∃ v', r' = some (j, v') ∧ VRel ρ v v'
  | [], _, i, r, .nil, h, _ => by
    simp only [findA, Option.some.injEq] at h
    subst h
    exact ⟨none, rfl, rfl, fun j v h => by cases h⟩
  | x :: es, _, i, r, .cons (b := y) hx ht, h, hk => by
    simp only [findA] at h
    cases hq : keyEqA P kt k x.key with
    | none => simp [hq] at h
    | some q =>
      have hn : Instr.sameNow kd k y.key = some q := by
        rw [hx.key, hk x.key (by rw [hq]; simp), hq]
      cases q with
      | true =>
        simp only [hq, Option.some.injEq] at h
        subst h
        refine ⟨some (i, y.val), by simp only [Instr.findNow, hn], rfl, fun j v h => ?_⟩
        cases h
        exact ⟨y.val, rfl, hx.val⟩
      | false =>
        simp only [hq] at h
        obtain ⟨r', g1, g2, g3⟩ := findNow_spec P kt ρ ht h hk
        exact ⟨r', by simp only [Instr.findNow, hn, g1], g2, g3⟩

theorem findAsk_spec {P : Program} {kt : TypeId} {cs : Array Value} (ρ : Inj) (w : World) : ∀ {es es' : List MapEntry} {i : Nat} {r : Option (Nat × Value)}, All2 (EntRel ρ) es es' → findA P kt (.agg cs) es i = some r →
    ∃ r', (Instr.findAsking kt (.agg cs) es' i).run P w = .ok r' w ∧ r'.map (·.1) = r.map (·.1) ∧ ∀ j v, r = some (j, v) → ∃ v', r' = some (j, v') ∧ VRel ρ v v'
  | [], _, i, r, .nil, h => by
    simp only [findA, Option.some.injEq] at h
    subst h
    exact ⟨none, rfl, rfl, fun j v h => by cases h⟩
  | x :: es, _, i, r, .cons (b := y) hx ht, h => by
    simp only [findA] at h
    cases hq : keyEqA P kt (.agg cs) x.key with
    | none => simp [hq] at h
    | some q =>
      have hn : (Op.equal kt (.agg cs) y.key).run P w = .ok q w := by
        rw [hx.key]
        exact pureRun_run P _ _ (by simpa only [keyEqA] using hq) w
      cases q with
      | true =>
        simp only [hq, Option.some.injEq] at h
        subst h
        refine ⟨some (i, y.val), by simp only [Instr.findAsking, Sem.run_bind, hn, Result.andThen_ok, if_true, Sem.run_pure], rfl, fun j v h => ?_⟩
        cases h
        exact ⟨y.val, rfl, hx.val⟩
      | false =>
        simp only [hq] at h
        obtain ⟨r', g1, g2, g3⟩ := findAsk_spec ρ w ht h
        exact ⟨r', by simp only [Instr.findAsking, Sem.run_bind, hn, Result.andThen_ok, Bool.false_eq_true, if_false, g1], g2, g3⟩

theorem find_rel (he : e.Ok) {ρ : Inj} (w : World) {kt : TypeId} {kd : TypeDesc} (hu : e.under kt = some kd) {k : Value} (hk : keyKind kd k = true) {es es' : List MapEntry} {r : Option (Nat × Value)} (h2 : All2 (EntRel ρ) es es')
    (hr : findA e.P kt k es 0 = some r) : ∃ r', (Instr.findKey kt k es').run e.P w = .ok r' w ∧ r'.map (·.1) = r.map (·.1) ∧ ∀ j v, r = some (j, v) → ∃ v', r' = some (j, v') ∧ VRel ρ v v' := by
  have now : (∀ x, keyEqA e.P kt k x ≠ none → Instr.sameNow kd k x = keyEqA e.P kt k x) → ∃ r', (Instr.findKey kt k es').run e.P w = .ok r' w ∧ r'.map (·.1) = r.map (·.1) ∧ ∀ j v, r = some (j, v) → ∃ v', r' = some (j, v') ∧ VRel ρ v v' := fun hs => by
    obtain ⟨r', g1, g2, g3⟩ := findNow_spec (kd := kd) e.P kt ρ h2 hr hs
    exact ⟨r', by simp only [Instr.findKey, Sem.run_bind, he.runUnder hu, Result.andThen_ok, g1, Sem.run_pure], g2, g3⟩
  have ask : ∀ cs, k = .agg cs → (∀ x, Instr.sameNow kd (.agg cs) x = none) → ∃ r', (Instr.findKey kt k es').run e.P w = .ok r' w ∧ r'.map (·.1) = r.map (·.1) ∧ ∀ j v, r = some (j, v) → ∃ v', r' = some (j, v') ∧ VRel ρ v v' := fun cs hkc hs => by
    subst hkc
    cases h2 with
    | nil =>
      simp only [findA, Option.some.injEq] at hr
      subst hr
      exact ⟨none, by simp only [Instr.findKey, Sem.run_bind, he.runUnder hu, Result.andThen_ok, Instr.findNow, Sem.run_pure], rfl, fun j v h => by cases h⟩
    | @cons x y xs ys hx ht =>
      obtain ⟨r', g1, g2, g3⟩ := findAsk_spec ρ w (.cons hx ht) hr
      refine ⟨r', ?_, g2, g3⟩
      simp only [Instr.findKey, Sem.run_bind, he.runUnder hu, Result.andThen_ok, Instr.findNow, hs, g1]
  cases k with
  | int j a =>
    cases kd <;> first | (cases hk; done) | skip
    refine now fun x hx => ?_
    cases x with
    | int j' b =>
      simp only [keyEqA, Instr.sameNow]
      by_cases hj : j = j' <;> simp [hj]
    | _ => exact absurd rfl hx
  | string a =>
    cases kd <;> first | (cases hk; done) | skip
    refine now fun x hx => ?_
    cases x with
    | string b => rfl
    | _ => exact absurd rfl hx
  | bool a =>
    cases kd <;> first | (cases hk; done) | skip
    refine now fun x hx => ?_
    cases x with
    | bool b => rfl
    | _ => exact absurd rfl hx
  | agg cs =>
    cases kd <;> first | (cases hk; done) | skip
    · exact ask cs rfl fun x => rfl
    · exact ask cs rfl fun x => rfl
  | _ => cases kd <;> cases hk

theorem VRel.map_some {ρ : Inj} {i : Nat} {v : Value} (h : VRel ρ (.map (some i)) v) : ∃ pl, ρ i = some pl ∧ v = .map (some pl.blk) := by cases h with | map h => exact ⟨_, h, rfl⟩
theorem VRel.map_none {ρ : Inj} {v : Value} (h : VRel ρ (.map none) v) : v = .map none := by cases h; rfl

theorem isEmpty_rel {ρ : Inj} {es : List MapEntry} {es' : Array MapEntry} (h : All2 (EntRel ρ) es es'.toList) : es'.isEmpty = es.isEmpty := by
  have := h.length
  cases es with
  | nil => simp at this ⊢; exact Array.eq_empty_of_size_eq_zero this.symm
  | cons x xs => simp at this ⊢; intro h0; rw [h0] at this; simp at this

theorem lookup_rel (he : e.Ok) {ρ : Inj} {h : AHeap} {w : World} (x : WRel ρ h w) {t : TypeId} {m m' k k' r : Value} {ok : Bool} (hm : VRel ρ m m') (hk : VRel ρ k k') (hr : lookupA e h t m k ok = some r) :
    ∃ r', (Instr.lookup t m' k' ok).run e.P w = .ok r' w ∧ VRel ρ r r' := by
  unfold lookupA at hr
  cases hu : e.under t with
  | none => simp [hu] at hr
  | some d =>
  cases d with
  | map kt et =>
    simp only [hu] at hr
    -- the entries
    have hes : ∀ es, (match m with | .map none => some [] | .map (some r) => (match h.get r with | some (.map es _) => some es | _ => none) | _ => none : Option (List MapEntry)) = some es →
        ∃ es' : Array MapEntry, All2 (EntRel ρ) es es'.toList ∧ ((m' = .map none ∧ es' = #[]) ∨ ∃ r c, m' = .map (some r) ∧ w.heap[r]? = some (.map es' c)) := by
      intro es h1
      cases m with
      | map q =>
        cases q with
        | none =>
          have := hm.map_none; subst this
          cases h1
          exact ⟨#[], .nil, .inl ⟨rfl, rfl⟩⟩
        | some i =>
          obtain ⟨pl, hp, rfl⟩ := hm.map_some
          simp only at h1
          cases ho : h.get i with
          | none => simp [ho] at h1
          | some o =>
            cases o with
            | map es0 clock =>
              simp only [ho, Option.some.injEq] at h1
              subst h1
              obtain ⟨pl', g1, g2, es', g3, g4⟩ := x.obj _ _ ho
              rw [hp] at g1; cases g1
              exact ⟨es', g4, .inr ⟨_, _, rfl, g3⟩⟩
            | _ => simp [ho] at h1
      | _ => cases h1
    split at hr
    · cases hr
    · rename_i es hes'
      obtain ⟨es', g1, g2⟩ := hes es hes'
      cases hku : e.under kt with
      | none => simp [hku] at hr
      | some kd =>
        simp only [hku] at hr
        obtain ⟨hb, hr⟩ := of_bif hr
        rw [Bool.and_eq_true] at hb
        have := plain_eq hb.1 hk; subst this
        cases hc : pureRun e.P (Instr.checkKey es.isEmpty 10000 kt k') with
        | none => simp [hc] at hr
        | some u =>
          simp only [hc] at hr
          have hck := pureRun_run e.P _ _ hc w
          rw [← isEmpty_rel g1] at hck
          cases hf : findA e.P kt k' es 0 with
          | none => simp [hf] at hr
          | some q =>
            simp only [hf] at hr
            obtain ⟨q', f1, f2, f3⟩ := find_rel he w hku hb.2 g1 hf
            cases q with
            | some jv =>
              obtain ⟨j, v⟩ := jv
              obtain ⟨v', f4, f5⟩ := f3 j v rfl
              subst f4
              simp only [Option.some.injEq] at hr
              subst hr
              refine ⟨if ok then .tuple #[v', .bool true] else v', ?_, ?_⟩
              · rcases g2 with ⟨rfl, rfl⟩ | ⟨r, c, rfl, hgo⟩
                · simp only [Instr.lookup, Sem.run_bind, he.runUnder hu, Result.andThen_ok, hck, f1, Sem.run_pure]
                · simp only [Instr.lookup, Sem.run_bind, he.runUnder hu, Result.andThen_ok, getObj_map hgo, hck, f1, Sem.run_pure]
              · cases ok with
                | true => exact VRel.tuple_iff.2 (.cons f5 (.cons (.bool _) .nil))
                | false => exact f5
            | none =>
              have : q' = none := by cases q' <;> simp at f2 ⊢
              subst this
              simp only at hr
              cases hz : e.zero et with
              | none => simp [hz] at hr
              | some z =>
                simp only [hz] at hr
                obtain ⟨hpz, hr⟩ := of_bif hr
                cases hr
                refine ⟨if ok then .tuple #[z, .bool false] else z, ?_, ?_⟩
                · rcases g2 with ⟨rfl, rfl⟩ | ⟨r, c, rfl, hgo⟩
                  · simp only [Instr.lookup, Sem.run_bind, he.runUnder hu, Result.andThen_ok, hck, f1, he.runZero hz, Sem.run_pure]
                  · simp only [Instr.lookup, Sem.run_bind, he.runUnder hu, Result.andThen_ok, getObj_map hgo, hck, f1, he.runZero hz, Sem.run_pure]
                · cases ok with
                  | true => exact VRel.tuple_iff.2 (.cons (plain_rel hpz) (.cons (.bool _) .nil))
                  | false => exact plain_rel hpz
  | _ => simp [hu] at hr

theorem All2.modify {ρ : Inj} {es es' : List MapEntry} (h : All2 (EntRel ρ) es es') (i : Nat) (f g : MapEntry → MapEntry) (hfg : ∀ a b, EntRel ρ a b → EntRel ρ (f a) (g b)) : All2 (EntRel ρ) (es.modify i f) (es'.modify i g) := by
  induction h generalizing i with
  | nil => simpa using All2.nil
  | cons h t ih =>
    cases i with
    | zero => simpa using All2.cons (hfg _ _ h) t
    | succ i => simpa using All2.cons h (ih i)

theorem update_rel (he : e.Ok) {b : Nat} {ρ : Inj} {h h' : AHeap} {w : World} (x : WRel ρ h w) {t : TypeId} {m m' k k' v v' : Value} (hm : VRel ρ m m') (hk : VRel ρ k k') (hv : VRel ρ v v') (hr : updateA e h t m k v = some h') :
    ∃ w', (Instr.mapUpdate t m' k' v').run e.P w = .ok () w' ∧ WRel ρ h' w' ∧ Fr b ρ h w ρ h' w' := by
  unfold updateA at hr
  cases hu : e.under t with
  | none => simp [hu] at hr
  | some d =>
  cases d with
  | map kt et =>
    cases m with
    | map q =>
      cases q with
      | none => simp [hu] at hr
      | some i =>
        obtain ⟨pl, hp, rfl⟩ := hm.map_some
        simp only [hu] at hr
        cases ho : h.get i with
        | none => simp [ho] at hr
        | some o =>
          cases o with
          | map es clock =>
            simp only [ho] at hr
            obtain ⟨pl', g1, g2, es', g3, g4⟩ := x.obj _ _ ho
            rw [hp] at g1; cases g1
            cases hku : e.under kt with
            | none => simp [hku] at hr
            | some kd =>
              simp only [hku] at hr
              obtain ⟨hb, hr⟩ := of_bif hr
              rw [Bool.and_eq_true] at hb
              have := plain_eq hb.1 hk; subst this
              cases hc : pureRun e.P (Instr.checkKey false 10000 kt k') with
              | none => simp [hc] at hr
              | some u =>
                simp only [hc] at hr
                have hck := pureRun_run e.P _ _ hc w
                cases hf : findA e.P kt k' es 0 with
                | none => simp [hf] at hr
                | some q =>
                  simp only [hf] at hr
                  obtain ⟨q', f1, f2, f3⟩ := find_rel he w hku hb.2 g4 hf
                  have hset : ∀ o, (setObj pl.blk o).run e.P w = .ok () (World.turn w pl.blk o) := fun o => setObj_turn _ g3 (fun _ _ _ h => by cases h)
                  have hlt : pl.blk < w.heap.size := (Array.getElem?_eq_some_iff.1 g3).1
                  cases q with
                  | some jv =>
                    obtain ⟨j, u⟩ := jv
                    obtain ⟨u', f4, f5⟩ := f3 j u rfl
                    subst f4
                    simp only at hr
                    obtain ⟨hsb, hr⟩ := of_bif hr
                    cases hr
                    have hkey : ((es'[j]?).map (·.key)).getD k' = ((es[j]?).map (·.key)).getD k' := by
                      cases hj : es[j]? with
                      | none =>
                        have : es'[j]? = none := by
                          rw [List.getElem?_eq_none_iff] at hj
                          have := g4.length
                          simp at this ⊢; omega
                        rw [this]
                      | some a =>
                        obtain ⟨c, hc1, hc2⟩ := g4.get j a hj
                        have : es'[j]? = some c := by simpa using hc1
                        rw [this]
                        simp [hc2.key]
                    refine ⟨World.turn w pl.blk (.map (es'.modify j fun x => { x with key := k', val := v' }) clock), ?_, wrel_turn x ho rfl hp rfl ⟨g2, _, heap_turn_self _ _ _ hlt, ?_⟩ rfl⟩
                    · simp only [Instr.mapUpdate, Sem.run_bind, he.runUnder hu, Result.andThen_ok, getObj_map g3, hck, f1, Instr.keyThatStays, hkey, hsb, if_true, Sem.run_pure, hset]
                    · rw [Array.toList_modify]
                      exact g4.modify j _ _ fun a c hac => ⟨rfl, hb.1, hv, hac.born⟩
                  | none =>
                    have : q' = none := by cases q' <;> simp at f2 ⊢
                    subst this
                    simp only [Option.some.injEq] at hr
                    subst hr
                    refine ⟨World.turn w pl.blk (.map (es'.push { key := k', val := v', born := clock }) (clock + 1)), ?_, wrel_turn x ho rfl hp rfl ⟨g2, _, heap_turn_self _ _ _ hlt, ?_⟩ rfl⟩
                    · simp only [Instr.mapUpdate, Sem.run_bind, he.runUnder hu, Result.andThen_ok, getObj_map g3, hck, f1, hset]
                    · rw [Array.toList_push]
                      exact g4.append (.cons ⟨rfl, hb.1, hv, rfl⟩ .nil)
          | _ => simp [ho] at hr
    | _ => simp [hu] at hr
  | _ => simp [hu] at hr

end Go.Abs
end

section
/-
  Iterators; every operation.
-/
namespace Go.Abs
variable {e : Env}

theorem All2.filter {ρ : Inj} {es es' : List MapEntry} (h : All2 (EntRel ρ) es es') (p q : MapEntry → Bool) (hpq : ∀ a b, EntRel ρ a b → q b = p a) : All2 (EntRel ρ) (es.filter p) (es'.filter q) := by
  induction h with
  | nil => exact .nil
  | cons h t ih =>
    simp only [List.filter_cons, hpq _ _ h]
    split
    · exact .cons h ih
    · exact ih
theorem All2.all {ρ : Inj} {es es' : List MapEntry} (h : All2 (EntRel ρ) es es') (p q : MapEntry → Bool) (hpq : ∀ a b, EntRel ρ a b → q b = p a) : es'.all q = es.all p := by
  induction h with
  | nil => rfl
  | cons h t ih => simp only [List.all_cons, hpq _ _ h, ih]
theorem All2.find {ρ : Inj} {es es' : List MapEntry} (h : All2 (EntRel ρ) es es') (p q : MapEntry → Bool) (hpq : ∀ a b, EntRel ρ a b → q b = p a) {x : MapEntry} (hx : es.find? p = some x) : ∃ y, es'.find? q = some y ∧ EntRel ρ x y := by
  induction h with
  | nil => cases hx
  | cons h t ih =>
    simp only [List.find?_cons, hpq _ _ h] at hx ⊢
    split at hx
    · cases hx; exact ⟨_, rfl, h⟩
    · exact ih hx

theorem setObj_iter {P : Program} {w : World} {r : Nat} {o : Obj} (p : Obj) (h : w.heap[r]? = some p) (hp : ∀ c t f, p ≠ .cells c t f) : (setObj r o).run P w = .ok () (World.turn w r o) := setObj_turn p h hp
theorem getObj_run {P : Program} {w : World} {r : Nat} {o : Obj} (h : w.heap[r]? = some o) (hp : ∀ c t f, o ≠ .cells c t f) : (getObj r).run P w = .ok o w := by
  cases o with
  | cells c t f => exact absurd rfl (hp c t f)
  | _ => simp only [getObj, Sem.run, h]

theorem choose_one (P : Program) (w : World) : (choose (.mapNext 1)).run P w = .ok 0 w := by
  simp only [run_choose]
  rfl

theorem next_rel {b : Nat} (P : Program) {ρ : Inj} {h h' : AHeap} {w : World} (x : WRel ρ h w) {it it' r : Value} {s : Bool} (hi : VRel ρ it it') (hr : nextA h it s = some (r, h')) (ty : TypeId) :
    Gives b P ρ h w (Instr.next it' s ty) r h' := by
  unfold nextA at hr
  split at hr
  · rename_i i
    obtain ⟨pl, hp, rfl⟩ := hi.ptr_l
    split at hr
    · -- a string
      rename_i str pos ho
      obtain ⟨pl', g1, g2, g3⟩ := x.obj _ _ ho
      rw [hp] at g1; cases g1
      have hgo := getObj_run (P := P) g3 (fun _ _ _ h => by cases h)
      have hlt : pl.blk < w.heap.size := (Array.getElem?_eq_some_iff.1 g3).1
      have hz : pl.off + 0 = 0 := by rw [g2]
      cases hpos : Nat.blt pos str.size with
      | true =>
        have hpos' : pos < str.size := Nat.le_of_ble_eq_true hpos
        simp only [hpos, cond_true, Option.some.injEq, Prod.mk.injEq] at hr
        obtain ⟨rfl, rfl⟩ := hr
        obtain ⟨k1, k2⟩ := wrel_turn (b := b) (o := .stringIter str (pos + (Utf8.decode str pos).2)) (ao' := .strIt str (pos + (Utf8.decode str pos).2)) x ho rfl hp rfl ⟨g2, heap_turn_self _ _ _ hlt⟩ rfl
        refine ⟨.tuple #[.bool true, .int .i64 pos, .int .i32 (Utf8.decode str pos).1], _, ρ, ?_, VRel.tuple_iff.2 (.cons (.bool _) (.cons (.int _ _) (.cons (.int _ _) .nil))), k1, k2⟩
        simp only [Instr.next, hz, Sem.run_bind, hgo, Result.andThen_ok, hpos', if_true, setObj_turn _ g3 (fun _ _ _ h => by cases h), Sem.run_pure, goInt]
      | false =>
        have hpos' : ¬ pos < str.size := fun hc => by rw [show Nat.blt pos str.size = true from Nat.ble_eq_true_of_le hc] at hpos; cases hpos
        simp only [hpos, cond_false, Option.some.injEq, Prod.mk.injEq] at hr
        obtain ⟨rfl, rfl⟩ := hr
        refine Gives.same x (v' := .tuple #[.bool false]) ?_ (VRel.tuple_iff.2 (.cons (.bool _) .nil))
        simp only [Instr.next, hz, Sem.run_bind, hgo, Result.andThen_ok, hpos', if_false, Sem.run_pure]
    · -- a map that is nil
      rename_i since seen last ho
      cases hr
      obtain ⟨pl', g1, g2, m', g3, g4⟩ := x.obj _ _ ho
      rw [hp] at g1; cases g1
      have hm : m' = none := by have := g4.map_none; cases this; rfl
      subst hm
      have hgo := getObj_run (P := P) g3 (fun _ _ _ h => by cases h)
      have hz : pl.off + 0 = 0 := by rw [g2]
      refine Gives.same x (v' := .tuple #[.bool false]) ?_ (VRel.tuple_iff.2 (.cons (.bool _) .nil))
      simp only [Instr.next, hz, Sem.run_bind, hgo, Result.andThen_ok, Sem.run_pure]
    · -- a map
      rename_i m since seen last ho
      obtain ⟨pl', g1, g2, m', g3, g4⟩ := x.obj _ _ ho
      rw [hp] at g1; cases g1
      obtain ⟨plm, hpm, hm⟩ := g4.map_some
      cases hm
      have hgo := getObj_run (P := P) g3 (fun _ _ _ h => by cases h)
      have hz : pl.off + 0 = 0 := by rw [g2]
      have hlt : pl.blk < w.heap.size := (Array.getElem?_eq_some_iff.1 g3).1
      cases hmo : h.get m with
      | none => simp [hmo] at hr
      | some o =>
        cases o with
        | map es clock =>
          simp only [hmo] at hr
          obtain ⟨pl', q1, q2, es', q3, q4⟩ := x.obj _ _ hmo
          rw [hpm] at q1; cases q1
          have hgm := getObj_map (P := P) q3
          have hcond : (!seen.toArray.isEmpty && !es'.isEmpty && es'.all fun x => decide (x.born ≥ last)) = (!seen.isEmpty && !es.isEmpty && es.all fun x => Nat.ble last x.born) := by
            rw [isEmpty_rel q4, ← Array.all_toList]
            have : es'.toList.all (fun x => decide (x.born ≥ last)) = es.all fun x => Nat.ble last x.born := All2.all q4 _ _ fun a c hac => by
              rw [hac.born]
              by_cases hc : last ≤ a.born
              · rw [Nat.ble_eq_true_of_le hc]; simpa using hc
              · have : Nat.ble last a.born = false := by
                  cases hcc : Nat.ble last a.born with
                  | true => exact absurd (Nat.le_of_ble_eq_true hcc) hc
                  | false => rfl
                rw [this]; simpa using hc
            rw [this]
            simp
          generalize hC : (!seen.isEmpty && !es.isEmpty && es.all fun x => Nat.ble last x.born) = C at hr hcond
          cases C with
          | true => cases hr
          | false =>
            simp only [cond_false] at hr
            have hleft := All2.filter q4 (fun x => !seen.contains x.born) (fun x => !seen.contains x.born) fun a c hac => by simp only [hac.born]
            have hold := All2.filter hleft (fun x => decide (x.born < since)) (fun x => decide (x.born < since)) fun a c hac => by simp only [hac.born]
            have hnew := All2.filter hleft (fun x => decide (x.born ≥ since)) (fun x => decide (x.born ≥ since)) fun a c hac => by simp only [hac.born]
            have e1 : ((es'.filter fun x => !seen.toArray.contains x.born).filter fun x => decide (x.born < since)).toList = (es'.toList.filter fun x => !seen.contains x.born).filter fun x => decide (x.born < since) := by
              simp
            have e2 : ((es'.filter fun x => !seen.toArray.contains x.born).filter fun x => decide (x.born ≥ since)).toList = (es'.toList.filter fun x => !seen.contains x.born).filter fun x => decide (x.born ≥ since) := by
              simp
            rw [← e1] at hold
            rw [← e2] at hnew
            generalize hO : ((es'.filter fun x => !seen.toArray.contains x.born).filter fun x => decide (x.born < since)) = O at hold
            generalize hN : ((es'.filter fun x => !seen.toArray.contains x.born).filter fun x => decide (x.born ≥ since)) = N at hnew
            generalize hO1 : ((es.filter fun x => !seen.contains x.born).filter fun x => decide (x.born < since)) = O1 at hold hr
            generalize hN1 : ((es.filter fun x => !seen.contains x.born).filter fun x => decide (x.born ≥ since)) = N1 at hnew hr
            split at hr
            · simp only [Option.some.injEq, Prod.mk.injEq] at hr
              obtain ⟨rfl, rfl⟩ := hr
              have hO0 : O = #[] := by have := hold.length; apply Array.eq_empty_of_size_eq_zero; simpa using this.symm
              have hN0 : N = #[] := by have := hnew.length; apply Array.eq_empty_of_size_eq_zero; simpa using this.symm
              subst hO0; subst hN0
              refine Gives.same x (v' := .tuple #[.bool false]) ?_ (VRel.tuple_iff.2 (.cons (.bool _) .nil))
              simp only [Instr.next, hz, Sem.run_bind, hgo, Result.andThen_ok, hgm, hcond, Bool.false_eq_true, if_false, hO, hN]
              have hcand : ((if (#[] : Array MapEntry).isEmpty = true then #[none] else #[]) ++ Array.map some (#[] ++ #[] : Array MapEntry)) = #[none] := by simp
              have h1 : (#[none] : Array (Option MapEntry)).size = 1 := rfl
              have h0 : (#[none] : Array (Option MapEntry))[0]? = some none := rfl
              simp only [hcand, h1, choose_one, Result.andThen_ok, h0, Sem.run_pure]
            · rename_i y
              simp only [Option.some.injEq, Prod.mk.injEq] at hr
              obtain ⟨rfl, rfl⟩ := hr
              obtain ⟨y', hO0, hyy⟩ : ∃ y', O = #[y'] ∧ EntRel ρ y y' := by
                cases hOl : O.toList with
                | nil => rw [hOl] at hold; cases hold
                | cons y' ys =>
                  rw [hOl] at hold
                  cases hold with
                  | cons hy ht =>
                    cases ht
                    exact ⟨y', by rw [← Array.toArray_toList (xs := O), hOl], hy⟩
              have hN0 : N = #[] := by have := hnew.length; apply Array.eq_empty_of_size_eq_zero; simpa using this.symm
              subst hO0; subst hN0
              obtain ⟨k1, k2⟩ := wrel_turn (b := b) (o := .mapIter (some plm.blk) since (seen.toArray.push y'.born) clock) (ao' := .mapIt (some m) since (seen ++ [y.born]) clock) x ho rfl hp rfl
                ⟨g2, some plm.blk, by rw [heap_turn_self _ _ _ hlt, hyy.born]; simp, .map hpm⟩ rfl
              refine ⟨.tuple #[.bool true, y'.key, y'.val], _, ρ, ?_, VRel.tuple_iff.2 (.cons (.bool _) (.cons (by rw [hyy.key]; exact plain_rel hyy.plain) (.cons hyy.val .nil))), k1, k2⟩
              simp only [Instr.next, hz, Sem.run_bind, hgo, Result.andThen_ok, hgm, hcond, Bool.false_eq_true, if_false, hO, hN]
              have hcand : ((if (#[y'] : Array MapEntry).isEmpty = true then #[none] else #[]) ++ Array.map some (#[y'] ++ #[] : Array MapEntry)) = #[some y'] := by simp
              have h1 : (#[some y'] : Array (Option MapEntry)).size = 1 := rfl
              have h0 : (#[some y'] : Array (Option MapEntry))[0]? = some (some y') := rfl
              simp only [hcand, h1, choose_one, Result.andThen_ok, h0, Sem.run_bind, setObj_turn _ g3 (fun _ _ _ h => by cases h), Sem.run_pure]
            · cases hr
        | _ => simp [hmo] at hr
    · cases hr
  · cases hr

theorem entry_rel (P : Program) {ρ : Inj} {h : AHeap} {w : World} (x : WRel ρ h w) {it it' r : Value} (hi : VRel ρ it it') (hr : entryA h it = some r) :
    ∃ r', (Instr.entry it').run P w = .ok r' w ∧ VRel ρ r r' := by
  unfold entryA at hr
  split at hr
  · rename_i i
    obtain ⟨pl, hp, rfl⟩ := hi.ptr_l
    split at hr
    · rename_i m since seen stepped ho
      obtain ⟨pl', g1, g2, m', g3, g4⟩ := x.obj _ _ ho
      rw [hp] at g1; cases g1
      obtain ⟨plm, hpm, hm⟩ := g4.map_some
      cases hm
      have hgo := getObj_run (P := P) g3 (fun _ _ _ h => by cases h)
      have hz : pl.off + 0 = 0 := by rw [g2]
      cases hl : seen.getLast? with
      | none => simp [hl] at hr
      | some stamp =>
        cases hmo : h.get m with
        | none => simp [hl, hmo] at hr
        | some o =>
          cases o with
          | map es clock =>
            simp only [hl, hmo] at hr
            obtain ⟨pl', q1, q2, es', q3, q4⟩ := x.obj _ _ hmo
            rw [hpm] at q1; cases q1
            obtain ⟨hc, hr2⟩ := of_bif hr
            clear hr
            have hc := Nat.eq_of_beq_eq_true hc
            subst hc
            cases hf : es.find? fun x => x.born == stamp with
            | none => simp [hf] at hr2
            | some y =>
              simp only [hf, Option.some.injEq] at hr2
              subst hr2
              obtain ⟨y', k1, k2⟩ := All2.find q4 _ (fun x => x.born == stamp) (fun a c hac => by simp only [hac.born]) hf
              refine ⟨.tuple #[y'.key, y'.val], ?_, VRel.tuple_iff.2 (.cons (by rw [k2.key]; exact plain_rel k2.plain) (.cons k2.val .nil))⟩
              have hb : seen.toArray.back? = some stamp := by simpa using hl
              have hff : es'.find? (fun x => x.born == stamp) = some y' := by rw [← Array.find?_toList]; exact k1
              simp only [Instr.entry, hz, Sem.run_bind, hgo, Result.andThen_ok, hb, getObj_map q3, bne_self_eq_false, Bool.false_eq_true, if_false, hff, Sem.run_pure]
          | _ => simp [hl, hmo] at hr
    · cases hr
  · cases hr

end Go.Abs
end

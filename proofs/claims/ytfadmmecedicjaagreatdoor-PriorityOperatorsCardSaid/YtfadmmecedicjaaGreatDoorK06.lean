/-
  PriorityOperators: parts of its proof (AbsJ AbsK).
-/
import Derived.RangeFuncLeaves
import Derived.Test.YtfadmmecedicjaaGreatDoorK05
set_option linter.unusedVariables false
set_option linter.unusedSimpArgs false

section
/-
  Every operation.
-/
namespace Go.Abs
variable {e : Env}

theorem of_map {α β : Type} {x : Option α} {f : α → β} {r : β} (h : x.map f = some r) : ∃ a, x = some a ∧ f a = r := by
  cases x with
  | none => cases h
  | some a => exact ⟨a, rfl, Option.some.inj h⟩

def OpOK (e : Env) (ρ : Inj) (h : AHeap) (w : World) (s : Sem Next) : AR → Prop
  | .val v h' => ∃ v' w' ρ', s.run e.P w = .ok (.value v') w' ∧ VRel ρ' v v' ∧ WRel ρ' h' w' ∧ Fr h.next ρ h w ρ' h' w'
  | .skip h' => ∃ w' ρ', s.run e.P w = .ok .skip w' ∧ WRel ρ' h' w' ∧ Fr h.next ρ h w ρ' h' w'
  | .enter f args h' => h' = h ∧ ∃ args' : Array Value, VsRel ρ args args'.toList ∧ ∀ fn, e.fn f = some fn → s.run e.P w = .ok (.enter f args') w
  | .round l args h' => h' = h ∧ ∃ (pl : Pl) (args' : Array Value), ρ l = some pl ∧ VsRel ρ args args'.toList ∧ s.run e.P w = (Instr.yield pl.blk args').run e.P w
  | .defer f args cap h' => h' = h ∧ ∃ args' cap' : Array Value, VsRel ρ args args'.toList ∧ VsRel ρ cap cap'.toList ∧ s.run e.P w = .ok (.defer { target := .fn (.func f) cap', args := args' }) w

theorem OpOK.same {ρ : Inj} {h : AHeap} {w : World} {s : Sem Next} {v v' : Value} (x : WRel ρ h w) (hr : s.run e.P w = .ok (.value v') w) (hv : VRel ρ v v') : OpOK e ρ h w s (.val v h) :=
  ⟨v', w, ρ, hr, hv, x, Fr.refl _ _ _ _⟩
theorem OpOK.gives {ρ : Inj} {h h' : AHeap} {w : World} {s : Sem Value} {v : Value} (g : Gives h.next e.P ρ h w s v h') : OpOK e ρ h w (do pure (.value (← s))) (.val v h') := by
  obtain ⟨v', w', ρ', g1, g2⟩ := g
  exact ⟨v', w', ρ', by simp only [Sem.run_bind, g1, Result.andThen_ok, Sem.run_pure], g2⟩

theorem VRel.func_l {ρ : Inj} {fn : Fn} {a c : Array Value} {v : Value} (h : VRel ρ (.func fn a c) v) : ∃ fn' a' c', v = .func fn' a' c' ∧ FnRel ρ fn fn' ∧ VsRel ρ a.toList a'.toList ∧ VsRel ρ c.toList c'.toList := by
  cases h with | func hf h1 h2 h3 h4 => exact ⟨_, _, _, rfl, hf, vs_of h1 h2, vs_of h3 h4⟩
theorem FnRel.func_l {ρ : Inj} {f : FuncId} {g : Fn} (h : FnRel ρ (.func f) g) : g = .func f := by cases h; rfl
theorem FnRel.yield_l {ρ : Inj} {l : Nat} {g : Fn} (h : FnRel ρ (.yield l) g) : ∃ pl, ρ l = some pl ∧ g = .yield pl.blk := by cases h with | yield h => exact ⟨_, h, rfl⟩

theorem map_args {ρ : Inj} {vs : List Value} {args : Array Operand} {f : Operand → Value} (h : VsRel ρ vs (args.toList.map f)) : VsRel ρ vs (args.map f).toList := by rwa [Array.toList_map]

theorem two_args {ρ : Inj} {a b : Value} {xs : Array Value} (h : VsRel ρ [a, b] xs.toList) : ∃ a' b', xs = #[a', b'] ∧ VRel ρ a a' ∧ VRel ρ b b' := by
  cases hx : xs.toList with
  | nil => rw [hx] at h; cases h
  | cons a' t =>
    rw [hx] at h
    cases h with
    | cons ha ht =>
      cases ht with
      | @cons _ b' _ y hb hn =>
        cases hn
        exact ⟨a', b', by rw [← Array.toArray_toList (xs := xs), hx], ha, hb⟩
theorem one_arg {ρ : Inj} {a : Value} {xs : Array Value} (h : VsRel ρ [a] xs.toList) : ∃ a', xs = #[a'] ∧ VRel ρ a a' := by
  cases hx : xs.toList with
  | nil => rw [hx] at h; cases h
  | cons a' t =>
    rw [hx] at h
    cases h with
    | cons ha ht =>
      cases ht
      exact ⟨a', by rw [← Array.toArray_toList (xs := xs), hx], ha⟩

theorem plains_eq {ρ : Inj} {vs : List Value} {xs : Array Value} (h : VsRel ρ vs xs.toList) (hp : vs.all plain = true) : xs = vs.toArray := by
  have : xs.toList = vs := by
    generalize xs.toList = l at h
    induction h with
    | nil => rfl
    | cons ha _ ih =>
      simp only [List.all_cons, Bool.and_eq_true] at hp
      rw [plain_eq hp.1 ha, ih hp.2]
  rw [← this]

theorem call_rel (he : e.Ok) {n : Nat} {ρ : Inj} {h : AHeap} {w : World} {t : Tr Value} {a : Array Value} {ds : List Deferred} (hg : Gl e ρ) (ht : TRel ρ t n a) (x : WRel ρ h w)
    {c : Call} {r : AR} (hr : callA e h t c = some r) (ty : TypeId) : OpOK e ρ h w (do let d ← resolve (Act.mk a ds).eval c ty; invoke d.target d.args) r := by
  unfold callA at hr
  cases ha : opnds e t c.args.toList with
  | none => simp [ha] at hr
  | some args =>
    simp only [ha] at hr
    have hargs := map_args (opnds_rel hg ht ds ha)
    cases hc : c.callee with
    | invoke r m => simp [hc] at hr
    | value f =>
      simp only [hc] at hr
      cases hf : opnd e t f with
      | none => simp [hf] at hr
      | some fv =>
        simp only [hf] at hr
        have hfv := opnd_rel hg ht hf ds
        cases fv with
        | func fn first cap =>
          obtain ⟨fn', a', c', e1, e2, e3, e4⟩ := hfv.func_l
          simp only [targetA] at hr
          have hres : (resolve (Act.mk a ds).eval c ty).run e.P w = .ok { target := .fn fn' c', args := a' ++ c.args.map (Act.mk a ds).eval } w := by
            simp only [resolve, hc, Deferred.ofValue, e1, Sem.run_pure]
          cases fn with
          | func g =>
            have := e2.func_l; subst this
            simp only [Option.some.injEq] at hr
            subst hr
            refine ⟨rfl, a' ++ c.args.map (Act.mk a ds).eval ++ c', ?_, fun fn hfn => ?_⟩
            · rw [Array.toList_append, Array.toList_append]
              exact (e3.append hargs).append e4
            · simp only [Sem.run_bind, hres, Result.andThen_ok, invoke, (he.fn g fn hfn).2]
          | yield l =>
            obtain ⟨pl, hp, rfl⟩ := e2.yield_l
            simp only [Option.some.injEq] at hr
            subst hr
            refine ⟨rfl, pl, a' ++ c.args.map (Act.mk a ds).eval, hp, ?_, ?_⟩
            · rw [Array.toList_append]
              exact e3.append hargs
            · simp only [Sem.run_bind, hres, Result.andThen_ok, invoke]
          | _ => cases hr
        | _ => simp [targetA] at hr
    | builtin b =>
      simp only [hc] at hr
      have hres : (resolve (Act.mk a ds).eval c ty).run e.P w = .ok { target := .builtin b c.argTypes ty (c.args.map fun | .const _ => true | _ => false), args := c.args.map (Act.mk a ds).eval } w := by
        simp only [resolve, hc, Sem.run_pure]
        rfl
      have step : ∀ {s : Sem Value} {v : Value} {h' : AHeap}, builtin b c.argTypes ty (c.args.map fun | .const _ => true | _ => false) (c.args.map (Act.mk a ds).eval) = (do pure (.value (← s))) → Gives h.next e.P ρ h w s v h' →
          OpOK e ρ h w (do let d ← resolve (Act.mk a ds).eval c ty; invoke d.target d.args) (.val v h') := fun hb hgv => by
        obtain ⟨v', w', ρ', g1, g2⟩ := OpOK.gives hgv
        refine ⟨v', w', ρ', ?_, g2⟩
        simp only [Sem.run_bind, hres, Result.andThen_ok, invoke, hb]
        simpa only [Sem.run_bind] using g1
      split at hr
      · rename_i s y
        obtain ⟨⟨r1, r2⟩, h1, rfl⟩ := of_map hr
        obtain ⟨s', y', e1, e2, e3⟩ := two_args hargs
        refine step (s := Builtin.append_ c.argTypes ty (c.args.map (Act.mk a ds).eval)) rfl ?_
        rw [e1]
        exact append_rel he x e2 e3 h1 ty
      · rename_i s y
        obtain ⟨⟨r1, r2⟩, h1, rfl⟩ := of_map hr
        obtain ⟨s', y', e1, e2, e3⟩ := two_args hargs
        refine step (s := Builtin.copy_ c.argTypes ty (c.args.map (Act.mk a ds).eval)) rfl ?_
        rw [e1]
        exact copy_rel he x e2 e3 h1 ty
      · rename_i y
        cases hat : c.argTypes[0]? with
        | none => simp [hat] at hr
        | some ty0 =>
          simp only [hat] at hr
          obtain ⟨r1, h1, rfl⟩ := of_map hr
          obtain ⟨y', e1, e2⟩ := one_arg hargs
          refine step (s := Builtin.len_ c.argTypes ty (c.args.map (Act.mk a ds).eval)) rfl ?_
          rw [e1]
          obtain ⟨r', k1, k2⟩ := len_rel he x e2 h1 c.argTypes hat ty
          exact Gives.same x k1 k2
      · rename_i y
        cases hat : c.argTypes[0]? with
        | none => simp [hat] at hr
        | some ty0 =>
          simp only [hat] at hr
          obtain ⟨r1, h1, rfl⟩ := of_map hr
          obtain ⟨y', e1, e2⟩ := one_arg hargs
          refine step (s := Builtin.cap_ c.argTypes ty (c.args.map (Act.mk a ds).eval)) rfl ?_
          rw [e1]
          obtain ⟨r', k1, k2⟩ := cap_rel he x e2 h1 c.argTypes hat ty
          exact Gives.same x k1 k2
      · obtain ⟨hp, hr⟩ := of_bif hr
        obtain ⟨r1, h1, rfl⟩ := of_map hr
        refine step (s := Builtin.min_ c.argTypes ty (c.args.map (Act.mk a ds).eval)) rfl ?_
        rw [plains_eq hargs hp]
        obtain ⟨k1, k2⟩ := plainRun_rel (ρ := ρ) h1 w
        exact Gives.same x k1 k2
      · obtain ⟨hp, hr⟩ := of_bif hr
        obtain ⟨r1, h1, rfl⟩ := of_map hr
        refine step (s := Builtin.max_ c.argTypes ty (c.args.map (Act.mk a ds).eval)) rfl ?_
        rw [plains_eq hargs hp]
        obtain ⟨k1, k2⟩ := plainRun_rel (ρ := ρ) h1 w
        exact Gives.same x k1 k2
      · cases hr

theorem opt_rel {ρ : Inj} {t : Tr Value} {n : Nat} {a : Array Value} (hg : Gl e ρ) (ht : TRel ρ t n a) (ds : List Deferred) {o : Option Operand} {v : Option Value}
    (h : (match o with | none => some none | some o => (opnd e t o).map some) = some v) : ORl ρ v (o.map (Act.mk a ds).eval) := by
  cases o with
  | none => cases h; exact .none
  | some o =>
    obtain ⟨u, h1, rfl⟩ := of_map h
    exact .some (opnd_rel hg ht h1 ds)


theorem op_rel (he : e.Ok) {n : Nat} {ρ : Inj} {h : AHeap} {w : World} {t : Tr Value} {a : Array Value} {ds : List Deferred} (hg : Gl e ρ) (ht : TRel ρ t n a) (x : WRel ρ h w)
    {o : Oper} {r : AR} (hr : opA e h t o.op = some r) : OpOK e ρ h w (execOp (Act.mk a ds).eval o) r := by
  have V : ∀ {y : Operand} {v : Value}, opnd e t y = some v → VRel ρ v ((Act.mk a ds).eval y) := fun hy => opnd_rel hg ht hy ds
  have al : ∀ {ob : AObj} {f : Nat → Value}, allocA e t o.op = some (ob, f) → OpOK e ρ h w (execOp (Act.mk a ds).eval o) (.val (f h.next) (h.new ob)) := fun hA => by
    obtain ⟨v', w', ρ', g1, g2, g3, g4, _⟩ := alloc_rel he (b := h.next) hg ht x (ds := ds) hA (x.slot _)
    exact ⟨v', w', ρ', g1, g2, g3, g4⟩
  obtain ⟨dst, op, ty, pos, after, guard⟩ := o
  simp only at hr al
  cases op with
  | move y =>
    obtain ⟨v, h1, rfl⟩ := of_map (by simpa only [opA] using hr)
    exact OpOK.same x rfl (V h1)
  | assign y =>
    obtain ⟨v, h1, rfl⟩ := of_map (by simpa only [opA] using hr)
    exact OpOK.same x rfl (V h1)
  | pick c p q =>
    simp only [opA] at hr
    split at hr
    · rename_i hc
      obtain ⟨v, h1, rfl⟩ := of_map hr
      have := (V hc).bool_l
      refine OpOK.same x ?_ (V h1)
      simp only [execOp, this, asBool, Sem.run_bind, Sem.run_pure, Result.andThen_ok, if_true]
    · rename_i hc
      obtain ⟨v, h1, rfl⟩ := of_map hr
      have := (V hc).bool_l
      refine OpOK.same x ?_ (V h1)
      simp only [execOp, this, asBool, Sem.run_bind, Sem.run_pure, Result.andThen_ok, Bool.false_eq_true, if_false]
    · cases hr
  | alloc elem =>
    simp only [opA] at hr
    split at hr
    · cases hr
    · rename_i ob f hA
      cases hr
      exact al hA
  | box elem y =>
    simp only [opA] at hr
    split at hr
    · cases hr
    · rename_i ob f hA
      cases hr
      exact al hA
  | buildSlice st len parts =>
    simp only [opA] at hr
    split at hr
    · cases hr
    · rename_i ob f hA
      cases hr
      exact al hA
  | makeMap mt r =>
    simp only [opA] at hr
    split at hr
    · cases hr
    · rename_i ob f hA
      cases hr
      exact al hA
  | makeSlice st l c =>
    simp only [opA] at hr
    split at hr
    · cases hr
    · rename_i ob f hA
      cases hr
      exact al hA
  | build bt parts =>
    simp only [opA] at hr
    split at hr
    · cases hr
    · rename_i ps hp
      obtain ⟨v, h1, rfl⟩ := of_map hr
      have hprel := parts_rel hg ht ds hp
      obtain ⟨v', k1, k2⟩ := build_rel he w (ps' := parts.map fun (i, y) => (i, (Act.mk a ds).eval y)) (by simpa using hprel) h1
      refine OpOK.same x ?_ k2
      simp only [execOp, Sem.run_bind, k1, Result.andThen_ok, Sem.run_pure]
  | load lt y =>
    simp only [opA] at hr
    split at hr
    · cases hr
    · rename_i ad hp
      obtain ⟨v, h1, rfl⟩ := of_map hr
      obtain ⟨u, hu1, hu2⟩ := of_bind hp
      have := of_addr hu2; subst this
      obtain ⟨pl, q1, q2⟩ := (V hu1).ptr_l
      obtain ⟨v', k1, k2⟩ := load_rel he x q1 h1
      refine OpOK.same x ?_ k2
      simp only [execOp, Instr.loadAt, Instr.sureAddr, q2, Sem.run_bind, Sem.run_pure, Result.andThen_ok, k1]
  | store lt y z =>
    simp only [opA] at hr
    split at hr
    · rename_i ad v hp hv
      obtain ⟨h', h1, rfl⟩ := of_map hr
      obtain ⟨u, hu1, hu2⟩ := of_bind hp
      have := of_addr hu2; subst this
      obtain ⟨pl, q1, q2⟩ := (V hu1).ptr_l
      obtain ⟨w', k1, k2, k3⟩ := store_rel he (b := h.next) x q1 (V hv) h1
      refine ⟨w', ρ, ?_, k2, k3⟩
      simp only [execOp, Instr.storeAt, Instr.sureAddr, q2, Sem.run_bind, Sem.run_pure, Result.andThen_ok, k1]
    · cases hr
  | nilCheck y =>
    simp only [opA] at hr
    split at hr
    · rename_i ad hp
      cases hr
      obtain ⟨pl, q1, q2⟩ := (V hp).ptr_l
      refine OpOK.same x ?_ (V hp)
      simp only [execOp, q2, Sem.run_pure]
    · rename_i f p q hp
      cases hr
      obtain ⟨fn', a', c', e1, e2, e3, e4⟩ := (V hp).func_l
      have := e2.func_l; subst this
      refine OpOK.same x ?_ (V hp)
      simp only [execOp, e1, Sem.run_pure]
    · cases hr
  | binOp bo bt y z yt =>
    simp only [opA] at hr
    split at hr
    · rename_i p q hp hq
      obtain ⟨v, h1, rfl⟩ := of_map hr
      obtain ⟨v', k1, k2⟩ := bin_rel he w (V hp) (V hq) h1
      refine OpOK.same x ?_ k2
      simp only [execOp]
      rw [Sem.run_bind, k1]
      rfl
    · cases hr
  | unOp uo ut y =>
    simp only [opA] at hr
    split at hr
    · rename_i p hp
      obtain ⟨hpl, hr⟩ := of_bif hr
      obtain ⟨v, h1, rfl⟩ := of_map hr
      obtain ⟨k1, k2⟩ := plainRun_rel (ρ := ρ) h1 w
      rw [← plain_eq hpl (V hp)] at k1
      refine OpOK.same x ?_ k2
      simp only [execOp, Sem.run_bind, k1, Result.andThen_ok, Sem.run_pure]
    · cases hr
  | convert cs cd y =>
    simp only [opA] at hr
    split at hr
    · rename_i p hp
      obtain ⟨hpl, hr⟩ := of_bif hr
      obtain ⟨v, h1, rfl⟩ := of_map hr
      obtain ⟨k1, k2⟩ := plainRun_rel (ρ := ρ) h1 w
      rw [← plain_eq hpl (V hp)] at k1
      refine OpOK.same x ?_ k2
      simp only [execOp, Sem.run_bind, k1, Result.andThen_ok, Sem.run_pure]
    · cases hr
  | makeInterface it y =>
    simp only [opA] at hr
    split at hr
    · cases hr
    · rename_i v d hni hp hu
      cases hr
      refine OpOK.same x (v' := .iface it ((Act.mk a ds).eval y)) ?_ (.iface (V hp))
      cases d with
      | interface ms => exact (hni ms rfl).elim
      | _ => simp only [execOp, Instr.makeInterface, Sem.run_bind, he.runUnder hu, Result.andThen_ok, Sem.run_pure]
    · cases hr
  | makeFunc fn first cap =>
    cases fn with
    | func f =>
      simp only [opA] at hr
      split at hr
      · rename_i p q hp hq
        cases hr
        have k1 := map_args (opnds_rel hg ht ds hp)
        have k2 := map_args (opnds_rel hg ht ds hq)
        refine OpOK.same x (v' := .func (.func f) (first.map (Act.mk a ds).eval) (cap.map (Act.mk a ds).eval)) ?_ ?_
        · simp only [execOp, Instr.makeFunc, Sem.run_bind, Sem.run_pure, Result.andThen_ok]
        · have g1 := of_vs (a := p.toArray) (a' := first.map (Act.mk a ds).eval) (by simpa using k1)
          have g2 := of_vs (a := q.toArray) (a' := cap.map (Act.mk a ds).eval) (by simpa using k2)
          exact .func (.func f) g1.1 g1.2 g2.1 g2.2
      · cases hr
    | _ => simp [opA] at hr
  | slice st y lo hi mx =>
    simp only [opA] at hr
    split at hr
    · rename_i p l hh m hp hl hhi hm
      obtain ⟨v, h1, rfl⟩ := of_map hr
      obtain ⟨v', k1, k2⟩ := slice_rel he x (V hp) (opt_rel hg ht ds hl) (opt_rel hg ht ds hhi) (opt_rel hg ht ds hm) h1
      refine OpOK.same x ?_ k2
      simp only [execOp, Sem.run_bind, k1, Result.andThen_ok, Sem.run_pure]
    · cases hr
  | fieldAddr st y f =>
    simp only [opA] at hr
    split at hr
    · rename_i ad fields hp hu
      split at hr
      · rename_i off size hf
        obtain ⟨hs, hr⟩ := of_bif hr
        cases hr
        obtain ⟨u, hu1, hu2⟩ := of_bind hp
        have := of_addr hu2; subst this
        obtain ⟨pl, q1, q2⟩ := (V hu1).ptr_l
        unfold fieldPlaceA at hf
        cases hfi : fields[f]? with
        | none => simp [hfi] at hf
        | some fd =>
          simp only [hfi] at hf
          cases hsz : e.size fd.type with
          | none => simp [hsz] at hf
          | some s =>
            simp only [hsz, Option.some.injEq, Prod.mk.injEq] at hf
            obtain ⟨rfl, rfl⟩ := hf
            have h0 : ¬ s = 0 := by have : 0 < s := Nat.le_of_ble_eq_true hs; omega
            refine OpOK.same x (v' := .pointer (some ⟨pl.blk, pl.off + (ad.add fd.offset).off, none⟩)) ?_ (.ptr (by rw [Addr.add_block]; exact q1))
            simp only [execOp, Instr.fieldAt, Sem.run_bind, he.runUnder hu, Result.andThen_ok, hfi, Instr.sureAddr, q2, Sem.run_pure, fieldPlace, he.runSize hsz, h0, if_false, addr_add, Addr.add_off, Nat.add_assoc]
      · cases hr
    · cases hr
  | field ft y f =>
    simp only [opA] at hr
    split at hr
    · rename_i cs fields hp hu
      cases hfi : fields[f]? with
      | none => simp [hfi] at hr
      | some fd =>
        simp only [hfi] at hr
        obtain ⟨v, h1, rfl⟩ := of_map hr
        obtain ⟨cs', q1, q2⟩ := (V hp).agg_l
        obtain ⟨v', k1, k2⟩ := part_rel he w q2 h1
        refine OpOK.same x ?_ k2
        simp only [execOp, Instr.field, Sem.run_bind, he.runUnder hu, Result.andThen_ok, hfi, q1, asAgg, Sem.run_pure, k1]
    · cases hr
  | indexAddr it y ix =>
    simp only [opA] at hr
    split at hr
    · rename_i ad i len elem hp hi hu
      split at hr
      · cases hr
      · rename_i s hs
        obtain ⟨hb, hr⟩ := of_bif hr
        cases hr
        simp only [Bool.and_eq_true, decide_eq_true_eq] at hb
        obtain ⟨pl, q1, q2⟩ := (V hp).ptr_l
        obtain ⟨u, hu1, hu2⟩ := of_bind hi
        obtain ⟨k, rfl⟩ := of_int hu2
        have hix := (V hu1).int_l
        refine OpOK.same x (v' := .pointer (some ⟨pl.blk, pl.off + (ad.add (i.toNat * s)).off, none⟩)) ?_ (.ptr (by rw [Addr.add_block]; exact q1))
        simp only [execOp, Instr.indexAt, hix, asIntOf, Sem.run_bind, Sem.run_pure, Result.andThen_ok, he.runUnder hu, q2, Instr.sureAddr, hb, and_self, if_true, he.runSize hs, addr_add, Addr.add_off, Nat.add_assoc]
    · rename_i ad len cap i elem hp hi hu
      split at hr
      · cases hr
      · rename_i s hs
        obtain ⟨hb, hr⟩ := of_bif hr
        cases hr
        simp only [Bool.and_eq_true, decide_eq_true_eq] at hb
        obtain ⟨c, cap', pl, q1, q2, q3⟩ := (V hp).sl_some
        obtain ⟨u, hu1, hu2⟩ := of_bind hi
        obtain ⟨k, rfl⟩ := of_int hu2
        have hix := (V hu1).int_l
        have hc : c = ⟨pl.blk, pl.off + ad.off, none⟩ := by
          rcases q3 with ⟨h1, _⟩ | ⟨h1, _, _⟩
          · exact h1
          · omega
        refine OpOK.same x (v' := .pointer (some ⟨pl.blk, pl.off + (ad.add (i.toNat * s)).off, none⟩)) ?_ (.ptr (by rw [Addr.add_block]; exact q2))
        simp only [execOp, Instr.indexAt, hix, asIntOf, Sem.run_bind, Sem.run_pure, Result.andThen_ok, he.runUnder hu, q1, hc, hb, and_self, if_true, he.runSize hs, addr_add, Addr.add_off, Nat.add_assoc]
    · cases hr
  | index it y ix =>
    simp only [opA] at hr
    split at hr
    · rename_i cs k i len elem hp hi hu
      split at hr
      · cases hr
      · rename_i s hs
        obtain ⟨hb, hr⟩ := of_bif hr
        simp only [Bool.and_eq_true, decide_eq_true_eq] at hb
        obtain ⟨v, h1, rfl⟩ := of_map hr
        obtain ⟨cs', q1, q2⟩ := (V hp).agg_l
        have hix := (V hi).int_l
        obtain ⟨v', k1, k2⟩ := part_rel he w q2 h1
        refine OpOK.same x ?_ k2
        simp only [execOp, Instr.index, hix, asIntOf, Sem.run_bind, Sem.run_pure, Result.andThen_ok, he.runUnder hu, q1, hb, and_self, if_true, he.runSize hs, k1]
    · rename_i s k i hp hi hu
      obtain ⟨v, h1, rfl⟩ := of_map hr
      have hix := (V hi).int_l
      have hst : (Act.mk a ds).eval y = .string s := by have := V hp; cases hh : (Act.mk a ds).eval y <;> rw [hh] at this <;> cases this <;> rfl
      obtain ⟨k1, k2⟩ := plainRun_rel (ρ := ρ) h1 w
      refine OpOK.same x ?_ k2
      simp only [execOp, hix, hst, Sem.run_bind, k1, Result.andThen_ok, Sem.run_pure]
    · cases hr
  | lookup mt m k ok =>
    simp only [opA] at hr
    split at hr
    · rename_i p q hp hq
      obtain ⟨v, h1, rfl⟩ := of_map hr
      obtain ⟨v', k1, k2⟩ := lookup_rel he x (V hp) (V hq) h1
      refine OpOK.same x ?_ k2
      simp only [execOp, Sem.run_bind, k1, Result.andThen_ok, Sem.run_pure]
    · cases hr
  | mapUpdate mt m k v =>
    simp only [opA] at hr
    split at hr
    · rename_i p q z hp hq hz
      obtain ⟨h', h1, rfl⟩ := of_map hr
      obtain ⟨w', k1, k2, k3⟩ := update_rel he (b := h.next) x (V hp) (V hq) (V hz) h1
      refine ⟨w', ρ, ?_, k2, k3⟩
      simp only [execOp, Sem.run_bind, k1, Result.andThen_ok, Sem.run_pure]
    · cases hr
  | insert mt m k v =>
    simp only [opA] at hr
    split at hr
    · rename_i p q z hp hq hz
      obtain ⟨h', h1, rfl⟩ := of_map hr
      obtain ⟨w', k1, k2, k3⟩ := update_rel he (b := h.next) x (V hp) (V hq) (V hz) h1
      refine ⟨w', ρ, ?_, k2, k3⟩
      simp only [execOp, Sem.run_bind, k1, Result.andThen_ok, Sem.run_pure]
    · cases hr
  | range rt y =>
    simp only [opA] at hr
    split at hr
    · rename_i s hp hu
      cases hr
      have hst : (Act.mk a ds).eval y = .string s := by have := V hp; cases hh : (Act.mk a ds).eval y <;> rw [hh] at this <;> cases this <;> rfl
      obtain ⟨ρ', pl, g1, g2, g3, g4, g5, _⟩ := new_obj x (x.slot (.strIt s 0)) (.stringIter s 0) rfl rfl (fun ρ' w' pl _ h0 hw => ⟨h0, hw⟩)
      refine ⟨_, _, ρ', ?_, oref g1 g3, g4, g5⟩
      simp only [execOp, Instr.range, hst, Sem.run_bind, he.runUnder hu, Sem.run_pure, Result.andThen_ok, run_newObj, g2]
      rfl
    · rename_i ek ev hp hu
      cases hr
      have hm := (V hp).map_none
      obtain ⟨ρ', pl, g1, g2, g3, g4, g5, _⟩ := new_obj x (x.slot (.mapIt none 0 [] 0)) (.mapIter none 0 #[] 0) rfl rfl (fun ρ' w' pl _ h0 hw => ⟨h0, none, hw, .map0⟩)
      refine ⟨_, _, ρ', ?_, oref g1 g3, g4, g5⟩
      simp only [execOp, Instr.range, hm, Sem.run_bind, he.runUnder hu, Sem.run_pure, Result.andThen_ok, run_newObj, g2]
      rfl
    · rename_i m ek ev hp hu
      split at hr
      · rename_i es clock ho
        cases hr
        obtain ⟨plm, q1, q2⟩ := (V hp).map_some
        obtain ⟨pl', r1, r2, es', r3, r4⟩ := x.obj _ _ ho
        rw [q1] at r1; cases r1
        obtain ⟨ρ', pl, g1, g2, g3, g4, g5, _⟩ := new_obj x (x.slot (.mapIt (some m) clock [] clock)) (.mapIter (some plm.blk) clock #[] clock) rfl rfl (fun ρ' w' pl hx h0 hw => ⟨h0, some plm.blk, hw, .map (hx _ _ q1)⟩)
        refine ⟨_, _, ρ', ?_, oref g1 g3, g4, g5⟩
        simp only [execOp, Instr.range, q2, Sem.run_bind, he.runUnder hu, getObj_map r3, Sem.run_pure, Result.andThen_ok, run_newObj, g2]
        rfl
      · cases hr
    · cases hr
  | next it s =>
    simp only [opA] at hr
    split at hr
    · cases hr
    · rename_i v hp
      obtain ⟨⟨r1, h1⟩, q1, rfl⟩ := of_map hr
      exact OpOK.gives (next_rel e.P x (V hp) q1 ty)
  | entry it =>
    simp only [opA] at hr
    split at hr
    · cases hr
    · rename_i v hp
      obtain ⟨r1, q1, rfl⟩ := of_map hr
      obtain ⟨v', k1, k2⟩ := entry_rel e.P x (V hp) q1
      refine OpOK.same x ?_ k2
      simp only [execOp, Sem.run_bind, k1, Result.andThen_ok, Sem.run_pure]
  | extract y i =>
    simp only [opA] at hr
    split at hr
    · rename_i vs hp
      obtain ⟨v, h1, rfl⟩ := of_map hr
      obtain ⟨vs', q1, q2⟩ := (V hp).tuple_l
      obtain ⟨v', k1, k2⟩ := q2.get i v (by simpa using h1)
      refine OpOK.same x ?_ k2
      have : vs'[i]? = some v' := by simpa using k1
      simp only [execOp, q1, Instr.extract, this, Sem.run_bind, Sem.run_pure, Result.andThen_ok]
    · cases hr
  | call c =>
    exact call_rel he hg ht x (by simpa only [opA] using hr) ty
  | defer c =>
    simp only [opA] at hr
    split at hr
    · rename_i f args hc ha
      split at hr
      · rename_i g az cap hf
        cases hr
        obtain ⟨fv, k1, k2⟩ := of_bind hf
        have hargs := map_args (opnds_rel hg ht ds ha)
        cases fv with
        | func fn first cp =>
          simp only [targetA, Option.some.injEq, Prod.mk.injEq] at k2
          obtain ⟨rfl, rfl, rfl⟩ := k2
          obtain ⟨fn', a', c', e1, e2, e3, e4⟩ := (V k1).func_l
          have := e2.func_l; subst this
          refine ⟨rfl, a' ++ c.args.map (Act.mk a ds).eval, c', ?_, e4, ?_⟩
          · rw [Array.toList_append]
            exact e3.append hargs
          · simp only [execOp, resolve, hc, Deferred.ofValue, e1, Sem.run_bind, Sem.run_pure, Result.andThen_ok]
        | _ => simp [targetA] at k2
      · cases hr
    · cases hr
  | _ => simp [opA] at hr

end Go.Abs
end

section
/-
  Steps of a region in the order of the text.
-/
namespace Go.Abs
variable {e : Env}

def FF (ro : Option Nat) : Fence := { Fence.wide with round := ro }
theorem FF_room (ro : Option Nat) (n : Nat) : (FF ro).room n := fun _ h => by simp [FF, Fence.wide] at h
theorem FF_depth (ro : Option Nat) (n : Nat) : (FF ro).depth.isSome = true → 1 ≤ n := fun h => by simp [FF, Fence.wide] at h
theorem FF_fn (ro : Option Nat) (f : FuncId) : (FF ro).fn f := trivial
theorem FF_in (ro : Option Nat) (l : Nat) : (FF ro).inRound l = FF (some l) := rfl
theorem callsIn_FF {ro : Option Nat} {n : Nat} {P : Program} {f : FuncId} {args : Array Value} {w : World} {R : Ending → World → Prop} (h : Calls P f args w R) : CallsIn (FF ro) n P f args w R := by
  have := callsIn_wide (n := n).2 h
  exact this

inductive DefRel (ρ : Inj) : Deferred → Deferred → Prop
  | fn {g : FuncId} {cap cap' args args' : Array Value} : VsRel ρ cap.toList cap'.toList → VsRel ρ args.toList args'.toList → DefRel ρ { target := .fn (.func g) cap, args } { target := .fn (.func g) cap', args := args' }
  | mark {r : Nat} {pl : Pl} : ρ r = some pl → DefRel ρ { target := .collected r, args := #[] } { target := .collected pl.blk, args := #[] }
theorem DefRel.mono {ρ ρ' : Inj} (hx : Ext ρ ρ') {d d' : Deferred} (h : DefRel ρ d d') : DefRel ρ' d d' := by
  cases h with
  | fn h1 h2 => exact .fn (h1.mono hx) (h2.mono hx)
  | mark h => exact .mark (hx _ _ h)

structure SRel (e : Env) (ρ : Inj) (s : ASt) (a : Act) (w : World) : Prop where
  g : Gl e ρ
  t : TRel ρ s.t s.n a.tmps
  d : All2 (DefRel ρ) s.ds a.defers
  m : WRel ρ s.h w

inductive RoRel (ρ : Inj) : Option Nat → Option Nat → Prop
  | none : RoRel ρ none none
  | some {l : Nat} {pl : Pl} : ρ l = some pl → RoRel ρ (some l) (some pl.blk)
theorem RoRel.mono {ρ ρ' : Inj} (hx : Ext ρ ρ') {a b : Option Nat} (h : RoRel ρ a b) : RoRel ρ' a b := by
  cases h with
  | none => exact .none
  | some h => exact .some (hx _ _ h)

def CallOK (e : Env) (cf : CallF) : Prop := ∀ f args h v h', cf f args h = some (v, h') → (∃ fn, e.fn f = some fn) ∧ ∀ ρ w (args' : Array Value), Gl e ρ → VsRel ρ args args'.toList → WRel ρ h w →
  Calls e.P f args' w fun en w' => ∃ v' ρ', en = .returned v' ∧ VRel ρ' v v' ∧ WRel ρ' h' w' ∧ Fr h.next ρ h w ρ' h' w'

def RoundOK (e : Env) (rf : RoundF) : Prop := ∀ l args h v h', rf l args h = some (v, h') → ∀ ρ w (args' : Array Value) pl, Gl e ρ → ρ l = some pl → VsRel ρ args args'.toList → WRel ρ h w →
  ∃ fn tmps assign body, (Instr.yield pl.blk args').run e.P w = .ok (.round pl.blk fn tmps assign body) w ∧
    ∀ ro n, RoundIn (FF ro) n e.P pl.blk fn tmps assign body w fun en w' => ∃ v' ρ', en = .returned v' ∧ VRel ρ' v v' ∧ WRel ρ' h' w' ∧ Fr h.next ρ h w ρ' h' w'

theorem TRel.set {ρ : Inj} {t : Tr Value} {n : Nat} {a : Array Value} (h : TRel ρ t n a) {d : Nat} (hd : d < n) {v v' : Value} (hv : VRel ρ v v') : TRel ρ (t.set d (some v)) n (a.setIfInBounds d v') := by
  refine ⟨by simpa using h.1, fun i u hu => ?_⟩
  rw [Tr.get_set] at hu
  by_cases hi : i = d
  · rw [if_pos hi] at hu; cases hu; subst hi
    refine ⟨hd, ?_⟩
    have : i < a.size := by rw [h.1]; exact hd
    simp only [Array.getD_eq_getD_getElem?, Array.getElem?_setIfInBounds, if_true, this, Option.getD_some]
    exact hv
  · rw [if_neg hi] at hu
    obtain ⟨h1, h2⟩ := h.2 i u hu
    refine ⟨h1, ?_⟩
    simp only [Array.getD_eq_getD_getElem?, Array.getElem?_setIfInBounds, Ne.symm hi, if_false] at h2 ⊢
    exact h2

theorem put_rel {ρ : Inj} {s s' : ASt} {a : Act} {w : World} (x : SRel e ρ s a w) {dst : Option Tmp} {v v' : Value} (hp : putA s dst v = some s') (hv : VRel ρ v v') : SRel e ρ s' (a.put dst v') w ∧ s'.h = s.h := by
  cases dst with
  | none =>
    simp only [putA_def, Option.some.injEq] at hp
    subst hp
    exact ⟨x, rfl⟩
  | some d =>
    simp only [putA_def] at hp
    obtain ⟨hb, hp⟩ := of_bif hp
    cases hp
    exact ⟨⟨x.g, x.t.set (Nat.le_of_ble_eq_true hb) hv, x.d, x.m⟩, rfl⟩

theorem undef_rel (ρ : Inj) : VRel ρ undef undef := VRel.tuple_iff.2 .nil

theorem SRel.with {ρ ρ' : Inj} {s : ASt} {a : Act} {w w' : World} {h' : AHeap} {b : Nat} (x : SRel e ρ s a w) (m : WRel ρ' h' w') (f : Fr b ρ s.h w ρ' h' w') : SRel e ρ' { s with h := h' } a w' :=
  ⟨x.g.mono f.ext, x.t.mono f.ext, x.d.mono fun _ _ => DefRel.mono f.ext, m⟩

theorem defer_only {h : AHeap} {t : Tr Value} {c : Call} {r : AR} (hr : opA e h t (.defer c) = some r) : ∃ f args cap h', r = .defer f args cap h' := by
  simp only [opA] at hr
  split at hr
  · split at hr
    · cases hr; exact ⟨_, _, _, _, rfl⟩
    · cases hr
  · cases hr

theorem step_wp (he : e.Ok) {cf : CallF} {rf : RoundF} (hcf : CallOK e cf) (hrf : RoundOK e rf) {ro roc : Option Nat} {o : Oper} {s s' : ASt} (h : stepA e cf rf ro o s = some s') {ρ : Inj} {a : Act} {w : World} (x : SRel e ρ s a w)
    (hro : RoRel ρ ro roc) (n : Nat) {next : Act → World → Prop} {Q : Exit → Act → World → Prop} (hnext : ∀ a' w' ρ', SRel e ρ' s' a' w' → Fr s.h.next ρ s.h w ρ' s'.h w' → next a' w') :
    o.wpIn (FF roc) n e.P a w next Q := by
  rw [stepA_def] at h
  cases hr : opA e s.h s.t o.op with
  | none => simp [hr] at h
  | some r =>
    have key := op_rel he (ds := a.defers) x.g x.t x.m hr
    have ha : (Act.mk a.tmps a.defers) = a := rfl
    rw [ha] at key
    have hsem : (∀ f args cap h', r ≠ .defer f args cap h') → Oper.semAt (FF roc).round a.eval o = execOp a.eval o := fun hne => by
      refine Oper.semAt_eq _ _ _ fun c hc => ?_
      rw [hc] at hr
      obtain ⟨f, args, cap, h', hrr⟩ := defer_only hr
      exact hne f args cap h' hrr
    simp only [hr] at h
    refine ⟨fun f _ => trivial, ?_⟩
    cases r with
    | val v h1 =>
      obtain ⟨v', w', ρ', k1, k2, k3, k4⟩ := key
      rw [hsem (fun _ _ _ _ h => by cases h), k1, Oper.uponIn_value]
      obtain ⟨p1, p2⟩ := put_rel (x.with k3 k4) h k2
      exact hnext _ _ _ p1 (by rw [p2]; exact k4)
    | skip h1 =>
      obtain ⟨w', ρ', k1, k3, k4⟩ := key
      rw [hsem (fun _ _ _ _ h => by cases h), k1, Oper.uponIn_skip]
      obtain ⟨p1, p2⟩ := put_rel (x.with k3 k4) h (undef_rel _)
      exact hnext _ _ _ p1 (by rw [p2]; exact k4)
    | enter f args h1 =>
      obtain ⟨rfl, args', k1, k2⟩ := key
      simp only at h
      cases hc : cf f args s.h with
      | none => simp [hc] at h
      | some r2 =>
        obtain ⟨v, h2⟩ := r2
        simp only [hc] at h
        obtain ⟨⟨fn, hfn⟩, hcall⟩ := hcf f args s.h v h2 hc
        rw [hsem (fun _ _ _ _ h => by cases h), k2 fn hfn, Oper.uponIn_enter]
        refine ⟨FF_depth _ _, callsIn_FF ((hcall ρ w args' x.g k1 x.m).mono ?_)⟩
        rintro en w' ⟨v', ρ', rfl, q1, q2, q3⟩
        obtain ⟨p1, p2⟩ := put_rel (x.with q2 q3) h q1
        exact hnext _ _ _ p1 (by rw [p2]; exact q3)
    | round l args h1 =>
      obtain ⟨rfl, pl, args', hp, k1, k2⟩ := key
      simp only at h
      cases hc : rf l args s.h with
      | none => simp [hc] at h
      | some r2 =>
        obtain ⟨v, h2⟩ := r2
        simp only [hc] at h
        obtain ⟨fn, tmps, assign, body, g1, g2⟩ := hrf l args s.h v h2 hc ρ w args' pl x.g hp k1 x.m
        rw [hsem (fun _ _ _ _ h => by cases h), k2, g1, Oper.uponIn_round]
        refine ⟨FF_depth _ _, (g2 roc (n - 1)).mono ?_⟩
        rintro en w' ⟨v', ρ', rfl, q1, q2, q3⟩
        obtain ⟨p1, p2⟩ := put_rel (x.with q2 q3) h q1
        exact hnext _ _ _ p1 (by rw [p2]; exact q3)
    | defer f args cap h1 =>
      obtain ⟨rfl, args', cap', k1, k2, k3⟩ := key
      cases hro with
      | some _ => simp at h
      | none =>
        simp only at h
        have : Oper.semAt (FF none).round a.eval o = execOp a.eval o := Oper.semAt_none _ _
        rw [this, k3, Oper.uponIn_defer]
        have x' : SRel e ρ { s with ds := { target := .fn (.func f) cap.toArray, args := args.toArray } :: s.ds } { a with defers := { target := .fn (.func f) cap', args := args' } :: a.defers } w :=
          ⟨x.g, x.t, .cons (.fn (by simpa using k2) (by simpa using k1)) x.d, x.m⟩
        obtain ⟨p1, p2⟩ := put_rel x' h (undef_rel _)
        exact hnext _ _ _ p1 (by rw [p2]; exact Fr.refl _ _ _ _)

theorem wanted_rel {ops : Array Oper} {s : ASt} {o : Oper} {b : Bool} (h : wantedA ops.toList s o = some b) {ρ : Inj} {a : Act} {w : World} (x : SRel e ρ s a w) : Region.wanted o (yielded ops a.tmps) = b := by
  unfold wantedA at h
  unfold Region.wanted
  cases hg : o.guard with
  | none => simp only [hg, Option.some.injEq] at h; exact h
  | some jw =>
    obtain ⟨j, want⟩ := jw
    simp only [hg] at h ⊢
    have hj : ops.toList[j]? = ops[j]? := by simp
    rw [hj] at h
    cases hd : (ops[j]?).bind (·.dst) with
    | none => simp [hd] at h
    | some d =>
      simp only [hd] at h
      cases ht : s.t.get d with
      | none => simp [ht] at h
      | some v =>
        obtain ⟨k1, k2⟩ := x.t.2 d v ht
        have hsz : d < a.tmps.size := by rw [x.t.1]; exact k1
        have hget : a.tmps[d]? = some (a.tmps.getD d undef) := by
          rw [Array.getD_eq_getD_getElem?, Array.getElem?_eq_getElem hsz]; rfl
        unfold yielded
        rw [hd]
        simp only [Option.bind_some, hget]
        generalize a.tmps.getD d undef = u at k2
        simp only [ht] at h
        cases v with
        | bool q =>
          have := k2.bool_l; subst this
          simp only [Option.some.injEq] at h
          rw [← h]
          cases q <;> cases want <;> rfl
        | tuple vs =>
          obtain ⟨vs', rfl, _⟩ := k2.tuple_l
          simp only [Option.some.injEq] at h
          rw [← h]
          rfl
        | _ => cases h

theorem ops_wp (he : e.Ok) {cf : CallF} {rf : RoundF} (hcf : CallOK e cf) (hrf : RoundOK e rf) {ro roc : Option Nat} (ops : Array Oper) (n : Nat) (Q : Exit → Act → World → Prop) :
    ∀ (k : Nat) (s s' : ASt) (ρ : Inj) (a : Act) (w : World), opsA e cf rf ro ops.toList (ops.toList.drop k) s = some s' → SRel e ρ s a w → RoRel ρ ro roc →
      (∀ a' w' ρ', SRel e ρ' s' a' w' → Fr s.h.next ρ s.h w ρ' s'.h w' → Q .normal a' w') → wpOpsIn (FF roc) n e.P ops Q ((List.range ops.size).drop k) a w := by
  intro k
  generalize hl : ops.toList.drop k = l
  induction l generalizing k with
  | nil =>
    intro s s' ρ a w h x _ hQ
    have hk : ops.size ≤ k := by
      have := congrArg List.length hl
      simp at this
      omega
    rw [List.drop_eq_nil_of_le (by simpa using hk)]
    simp only [opsA, Option.some.injEq] at h
    subst h
    exact hQ a w ρ x (Fr.refl _ _ _ _)
  | cons o r ih =>
    intro s s' ρ a w h x hro hQ
    have hk : k < ops.size := by
      rcases Nat.lt_or_ge k ops.size with h | h
      · exact h
      · rw [List.drop_eq_nil_of_le (by simpa using h)] at hl; cases hl
    have hko : ops[k]? = some o := by
      have : (ops.toList.drop k)[0]? = some o := by rw [hl]; rfl
      simpa [List.getElem?_drop] using this
    have hr : ops.toList.drop (k + 1) = r := by rw [← List.drop_drop, hl]; rfl
    have hrange : (List.range ops.size).drop k = k :: (List.range ops.size).drop (k + 1) := by
      rw [List.drop_eq_getElem_cons (by simpa using hk)]; simp
    rw [hrange]
    simp only [opsA] at h
    simp only [wpOpsIn, hko]
    cases hw : wantedA ops.toList s o with
    | none => simp [hw] at h
    | some b =>
      rw [wanted_rel hw x]
      cases b with
      | true =>
        simp only [hw] at h
        cases hs : stepA e cf rf ro o s with
        | none => simp [hs] at h
        | some s1 =>
          simp only [hs] at h
          rw [if_pos rfl]
          refine step_wp he hcf hrf hs x hro n fun a1 w1 ρ1 x1 f1 => ?_
          refine ih (k + 1) hr s1 s' ρ1 a1 w1 h x1 (hro.mono f1.ext) fun a2 w2 ρ2 x2 f2 => ?_
          exact hQ a2 w2 ρ2 x2 (f1.trans (f2.mono f1.next))
      | false =>
        simp only [hw] at h
        cases hs : putA s o.dst undef with
        | none => simp [hs] at h
        | some s1 =>
          simp only [hs] at h
          rw [if_neg (by simp)]
          refine ⟨fun f _ => trivial, ?_⟩
          obtain ⟨p1, p2⟩ := put_rel x hs (undef_rel _)
          refine ih (k + 1) hr s1 s' ρ _ w h p1 hro fun a2 w2 ρ2 x2 f2 => ?_
          rw [p2] at f2
          exact hQ a2 w2 ρ2 x2 f2

end Go.Abs
end

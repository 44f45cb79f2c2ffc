/-
  Every operation.
-/
import Derived.Test.YtlilfkbnlacfgaaGreatDoorAbsI
namespace Go.Abs
variable {e : Env}

theorem of_map {α β : Type} {x : Option α} {f : α → β} {r : β} (h : x.map f = some r) : ∃ a, x = some a ∧ f a = r := by
  cases x with
  | none => cases h
  | some a => exact ⟨a, rfl, Option.some.inj h⟩

def OpOK (e : Env) (ρ : Inj) (h : AHeap) (w : World) (s : Sem Next) : AR → Prop
  | .val v h' => ∃ v' w' ρ', s.run e.P w = .ok (.value v') w' ∧ VRel ρ' v v' ∧ WRel ρ' h' w' ∧ Fr h.next ρ h w ρ' h' w'
  | .skip h' => ∃ w' ρ', s.run e.P w = .ok .skip w' ∧ WRel ρ' h' w' ∧ Fr h.next ρ h w ρ' h' w'
  | .enter f args h' => h' = h ∧ ∃ args' : Array Value, VsRel ρ args args'.toList ∧ ∀ fn, e.fn f = some fn → s.run e.P w = .ok (.enter f args') w
  | .round l args h' => h' = h ∧ ∃ (pl : Pl) (args' : Array Value), ρ l = some pl ∧ VsRel ρ args args'.toList ∧ s.run e.P w = (Instr.yield pl.blk args').run e.P w
  | .defer f args cap h' => h' = h ∧ ∃ args' cap' : Array Value, VsRel ρ args args'.toList ∧ VsRel ρ cap cap'.toList ∧ s.run e.P w = .ok (.defer { target := .fn (.func f) cap', args := args' }) w

theorem OpOK.same {ρ : Inj} {h : AHeap} {w : World} {s : Sem Next} {v v' : Value} (x : WRel ρ h w) (hr : s.run e.P w = .ok (.value v') w) (hv : VRel ρ v v') : OpOK e ρ h w s (.val v h) :=
  ⟨v', w, ρ, hr, hv, x, Fr.refl _ _ _ _⟩
theorem OpOK.gives {ρ : Inj} {h h' : AHeap} {w : World} {s : Sem Value} {v : Value} (g : Gives h.next e.P ρ h w s v h') : OpOK e ρ h w (do pure (.value (← s))) (.val v h') := by
  obtain ⟨v', w', ρ', g1, g2⟩ := g
  exact ⟨v', w', ρ', by simp only [Sem.run_bind, g1, Result.andThen_ok, Sem.run_pure], g2⟩

theorem VRel.func_l {ρ : Inj} {fn : Fn} {a c : Array Value} {v : Value} (h : VRel ρ (.func fn a c) v) : ∃ fn' a' c', v = .func fn' a' c' ∧ FnRel ρ fn fn' ∧ VsRel ρ a.toList a'.toList ∧ VsRel ρ c.toList c'.toList := by
  cases h with | func hf h1 h2 h3 h4 => exact ⟨_, _, _, rfl, hf, vs_of h1 h2, vs_of h3 h4⟩
theorem FnRel.func_l {ρ : Inj} {f : FuncId} {g : Fn} (h : FnRel ρ (.func f) g) : g = .func f := by cases h; rfl
theorem FnRel.yield_l {ρ : Inj} {l : Nat} {g : Fn} (h : FnRel ρ (.yield l) g) : ∃ pl, ρ l = some pl ∧ g = .yield pl.blk := by cases h with | yield h => exact ⟨_, h, rfl⟩

theorem map_args {ρ : Inj} {vs : List Value} {args : Array Operand} {f : Operand → Value} (h : VsRel ρ vs (args.toList.map f)) : VsRel ρ vs (args.map f).toList := by rwa [Array.toList_map]

theorem two_args {ρ : Inj} {a b : Value} {xs : Array Value} (h : VsRel ρ [a, b] xs.toList) : ∃ a' b', xs = #[a', b'] ∧ VRel ρ a a' ∧ VRel ρ b b' := by
  cases hx : xs.toList with
  | nil => rw [hx] at h; cases h
  | cons a' t =>
    rw [hx] at h
    cases h with
    | cons ha ht =>
      cases ht with
      | @cons _ b' _ y hb hn =>
        cases hn
        exact ⟨a', b', by rw [← Array.toArray_toList (xs := xs), hx], ha, hb⟩
theorem one_arg {ρ : Inj} {a : Value} {xs : Array Value} (h : VsRel ρ [a] xs.toList) : ∃ a', xs = #[a'] ∧ VRel ρ a a' := by
  cases hx : xs.toList with
  | nil => rw [hx] at h; cases h
  | cons a' t =>
    rw [hx] at h
    cases h with
    | cons ha ht =>
      cases ht
      exact ⟨a', by rw [← Array.toArray_toList (xs := xs), hx], ha⟩

theorem plains_eq {ρ : Inj} {vs : List Value} {xs : Array Value} (h : VsRel ρ vs xs.toList) (hp : vs.all plain = true) : xs = vs.toArray := by
  have : xs.toList = vs := by
    generalize xs.toList = l at h
    induction h with
    | nil => rfl
    | cons ha _ ih =>
      simp only [List.all_cons, Bool.and_eq_true] at hp
      rw [plain_eq hp.1 ha, ih hp.2]
  rw [← this]

theorem call_rel (he : e.Ok) {n : Nat} {ρ : Inj} {h : AHeap} {w : World} {t : Tr Value} {a : Array Value} {ds : List Deferred} (hg : Gl e ρ) (ht : TRel ρ t n a) (x : WRel ρ h w)
    {c : Call} {r : AR} (hr : callA e h t c = some r) (ty : TypeId) : OpOK e ρ h w (do let d ← resolve (Act.mk a ds).eval c ty; invoke d.target d.args) r := by
  unfold callA at hr
  cases ha : opnds e t c.args.toList with
  | none => simp [ha] at hr
  | some args =>
    simp only [ha] at hr
    have hargs := map_args (opnds_rel hg ht ds ha)
    cases hc : c.callee with
    | invoke r m => simp [hc] at hr
    | value f =>
      simp only [hc] at hr
      cases hf : opnd e t f with
      | none => simp [hf] at hr
      | some fv =>
        simp only [hf] at hr
        have hfv := opnd_rel hg ht hf ds
        cases fv with
        | func fn first cap =>
          obtain ⟨fn', a', c', e1, e2, e3, e4⟩ := hfv.func_l
          simp only [targetA] at hr
          have hres : (resolve (Act.mk a ds).eval c ty).run e.P w = .ok { target := .fn fn' c', args := a' ++ c.args.map (Act.mk a ds).eval } w := by
            simp only [resolve, hc, Deferred.ofValue, e1, Sem.run_pure]
          cases fn with
          | func g =>
            have := e2.func_l; subst this
            simp only [Option.some.injEq] at hr
            subst hr
            refine ⟨rfl, a' ++ c.args.map (Act.mk a ds).eval ++ c', ?_, fun fn hfn => ?_⟩
            · rw [Array.toList_append, Array.toList_append]
              exact (e3.append hargs).append e4
            · simp only [Sem.run_bind, hres, Result.andThen_ok, invoke, (he.fn g fn hfn).2]
          | yield l =>
            obtain ⟨pl, hp, rfl⟩ := e2.yield_l
            simp only [Option.some.injEq] at hr
            subst hr
            refine ⟨rfl, pl, a' ++ c.args.map (Act.mk a ds).eval, hp, ?_, ?_⟩
            · rw [Array.toList_append]
              exact e3.append hargs
            · simp only [Sem.run_bind, hres, Result.andThen_ok, invoke]
          | _ => cases hr
        | _ => simp [targetA] at hr
    | builtin b =>
      simp only [hc] at hr
      have hres : (resolve (Act.mk a ds).eval c ty).run e.P w = .ok { target := .builtin b c.argTypes ty (c.args.map fun | .const _ => true | _ => false), args := c.args.map (Act.mk a ds).eval } w := by
        simp only [resolve, hc, Sem.run_pure]
        rfl
      have step : ∀ {s : Sem Value} {v : Value} {h' : AHeap}, builtin b c.argTypes ty (c.args.map fun | .const _ => true | _ => false) (c.args.map (Act.mk a ds).eval) = (do pure (.value (← s))) → Gives h.next e.P ρ h w s v h' →
          OpOK e ρ h w (do let d ← resolve (Act.mk a ds).eval c ty; invoke d.target d.args) (.val v h') := fun hb hgv => by
        obtain ⟨v', w', ρ', g1, g2⟩ := OpOK.gives hgv
        refine ⟨v', w', ρ', ?_, g2⟩
        simp only [Sem.run_bind, hres, Result.andThen_ok, invoke, hb]
        simpa only [Sem.run_bind] using g1
      split at hr
      · rename_i s y
        obtain ⟨⟨r1, r2⟩, h1, rfl⟩ := of_map hr
        obtain ⟨s', y', e1, e2, e3⟩ := two_args hargs
        refine step (s := Builtin.append_ c.argTypes ty (c.args.map (Act.mk a ds).eval)) rfl ?_
        rw [e1]
        exact append_rel he x e2 e3 h1 ty
      · rename_i s y
        obtain ⟨⟨r1, r2⟩, h1, rfl⟩ := of_map hr
        obtain ⟨s', y', e1, e2, e3⟩ := two_args hargs
        refine step (s := Builtin.copy_ c.argTypes ty (c.args.map (Act.mk a ds).eval)) rfl ?_
        rw [e1]
        exact copy_rel he x e2 e3 h1 ty
      · rename_i y
        cases hat : c.argTypes[0]? with
        | none => simp [hat] at hr
        | some ty0 =>
          simp only [hat] at hr
          obtain ⟨r1, h1, rfl⟩ := of_map hr
          obtain ⟨y', e1, e2⟩ := one_arg hargs
          refine step (s := Builtin.len_ c.argTypes ty (c.args.map (Act.mk a ds).eval)) rfl ?_
          rw [e1]
          obtain ⟨r', k1, k2⟩ := len_rel he x e2 h1 c.argTypes hat ty
          exact Gives.same x k1 k2
      · rename_i y
        cases hat : c.argTypes[0]? with
        | none => simp [hat] at hr
        | some ty0 =>
          simp only [hat] at hr
          obtain ⟨r1, h1, rfl⟩ := of_map hr
          obtain ⟨y', e1, e2⟩ := one_arg hargs
          refine step (s := Builtin.cap_ c.argTypes ty (c.args.map (Act.mk a ds).eval)) rfl ?_
          rw [e1]
          obtain ⟨r', k1, k2⟩ := cap_rel he x e2 h1 c.argTypes hat ty
          exact Gives.same x k1 k2
      · obtain ⟨hp, hr⟩ := of_bif hr
        obtain ⟨r1, h1, rfl⟩ := of_map hr
        refine step (s := Builtin.min_ c.argTypes ty (c.args.map (Act.mk a ds).eval)) rfl ?_
        rw [plains_eq hargs hp]
        obtain ⟨k1, k2⟩ := plainRun_rel (ρ := ρ) h1 w
        exact Gives.same x k1 k2
      · obtain ⟨hp, hr⟩ := of_bif hr
        obtain ⟨r1, h1, rfl⟩ := of_map hr
        refine step (s := Builtin.max_ c.argTypes ty (c.args.map (Act.mk a ds).eval)) rfl ?_
        rw [plains_eq hargs hp]
        obtain ⟨k1, k2⟩ := plainRun_rel (ρ := ρ) h1 w
        exact Gives.same x k1 k2
      · cases hr

theorem opt_rel {ρ : Inj} {t : Tr Value} {n : Nat} {a : Array Value} (hg : Gl e ρ) (ht : TRel ρ t n a) (ds : List Deferred) {o : Option Operand} {v : Option Value}
    (h : (match o with | none => some none | some o => (opnd e t o).map some) = some v) : ORl ρ v (o.map (Act.mk a ds).eval) := by
  cases o with
  | none => cases h; exact .none
  | some o =>
    obtain ⟨u, h1, rfl⟩ := of_map h
    exact .some (opnd_rel hg ht h1 ds)


theorem op_rel (he : e.Ok) {n : Nat} {ρ : Inj} {h : AHeap} {w : World} {t : Tr Value} {a : Array Value} {ds : List Deferred} (hg : Gl e ρ) (ht : TRel ρ t n a) (x : WRel ρ h w)
    {o : Oper} {r : AR} (hr : opA e h t o.op = some r) : OpOK e ρ h w (execOp (Act.mk a ds).eval o) r := by
  have V : ∀ {y : Operand} {v : Value}, opnd e t y = some v → VRel ρ v ((Act.mk a ds).eval y) := fun hy => opnd_rel hg ht hy ds
  have al : ∀ {ob : AObj} {f : Nat → Value}, allocA e t o.op = some (ob, f) → OpOK e ρ h w (execOp (Act.mk a ds).eval o) (.val (f h.next) (h.new ob)) := fun hA => by
    obtain ⟨v', w', ρ', g1, g2, g3, g4, _⟩ := alloc_rel he (b := h.next) hg ht x (ds := ds) hA (x.slot _)
    exact ⟨v', w', ρ', g1, g2, g3, g4⟩
  obtain ⟨dst, op, ty, pos, after, guard⟩ := o
  simp only at hr al
  cases op with
  | move y =>
    obtain ⟨v, h1, rfl⟩ := of_map (by simpa only [opA] using hr)
    exact OpOK.same x rfl (V h1)
  | assign y =>
    obtain ⟨v, h1, rfl⟩ := of_map (by simpa only [opA] using hr)
    exact OpOK.same x rfl (V h1)
  | pick c p q =>
    simp only [opA] at hr
    split at hr
    · rename_i hc
      obtain ⟨v, h1, rfl⟩ := of_map hr
      have := (V hc).bool_l
      refine OpOK.same x ?_ (V h1)
      simp only [execOp, this, asBool, Sem.run_bind, Sem.run_pure, Result.andThen_ok, if_true]
    · rename_i hc
      obtain ⟨v, h1, rfl⟩ := of_map hr
      have := (V hc).bool_l
      refine OpOK.same x ?_ (V h1)
      simp only [execOp, this, asBool, Sem.run_bind, Sem.run_pure, Result.andThen_ok, Bool.false_eq_true, if_false]
    · cases hr
  | alloc elem =>
    simp only [opA] at hr
    split at hr
    · cases hr
    · rename_i ob f hA
      cases hr
      exact al hA
  | box elem y =>
    simp only [opA] at hr
    split at hr
    · cases hr
    · rename_i ob f hA
      cases hr
      exact al hA
  | buildSlice st len parts =>
    simp only [opA] at hr
    split at hr
    · cases hr
    · rename_i ob f hA
      cases hr
      exact al hA
  | makeMap mt r =>
    simp only [opA] at hr
    split at hr
    · cases hr
    · rename_i ob f hA
      cases hr
      exact al hA
  | makeSlice st l c =>
    simp only [opA] at hr
    split at hr
    · cases hr
    · rename_i ob f hA
      cases hr
      exact al hA
  | build bt parts =>
    simp only [opA] at hr
    split at hr
    · cases hr
    · rename_i ps hp
      obtain ⟨v, h1, rfl⟩ := of_map hr
      have hprel := parts_rel hg ht ds hp
      obtain ⟨v', k1, k2⟩ := build_rel he w (ps' := parts.map fun (i, y) => (i, (Act.mk a ds).eval y)) (by simpa using hprel) h1
      refine OpOK.same x ?_ k2
      simp only [execOp, Sem.run_bind, k1, Result.andThen_ok, Sem.run_pure]
  | load lt y =>
    simp only [opA] at hr
    split at hr
    · cases hr
    · rename_i ad hp
      obtain ⟨v, h1, rfl⟩ := of_map hr
      obtain ⟨u, hu1, hu2⟩ := of_bind hp
      have := of_addr hu2; subst this
      obtain ⟨pl, q1, q2⟩ := (V hu1).ptr_l
      obtain ⟨v', k1, k2⟩ := load_rel he x q1 h1
      refine OpOK.same x ?_ k2
      simp only [execOp, Instr.loadAt, Instr.sureAddr, q2, Sem.run_bind, Sem.run_pure, Result.andThen_ok, k1]
  | store lt y z =>
    simp only [opA] at hr
    split at hr
    · rename_i ad v hp hv
      obtain ⟨h', h1, rfl⟩ := of_map hr
      obtain ⟨u, hu1, hu2⟩ := of_bind hp
      have := of_addr hu2; subst this
      obtain ⟨pl, q1, q2⟩ := (V hu1).ptr_l
      obtain ⟨w', k1, k2, k3⟩ := store_rel he (b := h.next) x q1 (V hv) h1
      refine ⟨w', ρ, ?_, k2, k3⟩
      simp only [execOp, Instr.storeAt, Instr.sureAddr, q2, Sem.run_bind, Sem.run_pure, Result.andThen_ok, k1]
    · cases hr
  | nilCheck y =>
    simp only [opA] at hr
    split at hr
    · rename_i ad hp
      cases hr
      obtain ⟨pl, q1, q2⟩ := (V hp).ptr_l
      refine OpOK.same x ?_ (V hp)
      simp only [execOp, q2, Sem.run_pure]
    · rename_i f p q hp
      cases hr
      obtain ⟨fn', a', c', e1, e2, e3, e4⟩ := (V hp).func_l
      have := e2.func_l; subst this
      refine OpOK.same x ?_ (V hp)
      simp only [execOp, e1, Sem.run_pure]
    · cases hr
  | binOp bo bt y z yt =>
    simp only [opA] at hr
    split at hr
    · rename_i p q hp hq
      obtain ⟨v, h1, rfl⟩ := of_map hr
      obtain ⟨v', k1, k2⟩ := bin_rel he w (V hp) (V hq) h1
      refine OpOK.same x ?_ k2
      simp only [execOp]
      rw [Sem.run_bind, k1]
      rfl
    · cases hr
  | unOp uo ut y =>
    simp only [opA] at hr
    split at hr
    · rename_i p hp
      obtain ⟨hpl, hr⟩ := of_bif hr
      obtain ⟨v, h1, rfl⟩ := of_map hr
      obtain ⟨k1, k2⟩ := plainRun_rel (ρ := ρ) h1 w
      rw [← plain_eq hpl (V hp)] at k1
      refine OpOK.same x ?_ k2
      simp only [execOp, Sem.run_bind, k1, Result.andThen_ok, Sem.run_pure]
    · cases hr
  | convert cs cd y =>
    simp only [opA] at hr
    split at hr
    · rename_i p hp
      obtain ⟨hpl, hr⟩ := of_bif hr
      obtain ⟨v, h1, rfl⟩ := of_map hr
      obtain ⟨k1, k2⟩ := plainRun_rel (ρ := ρ) h1 w
      rw [← plain_eq hpl (V hp)] at k1
      refine OpOK.same x ?_ k2
      simp only [execOp, Sem.run_bind, k1, Result.andThen_ok, Sem.run_pure]
    · cases hr
  | makeInterface it y =>
    simp only [opA] at hr
    split at hr
    · cases hr
    · rename_i v d hni hp hu
      cases hr
      refine OpOK.same x (v' := .iface it ((Act.mk a ds).eval y)) ?_ (.iface (V hp))
      cases d with
      | interface ms => exact (hni ms rfl).elim
      | _ => simp only [execOp, Instr.makeInterface, Sem.run_bind, he.runUnder hu, Result.andThen_ok, Sem.run_pure]
    · cases hr
  | makeFunc fn first cap =>
    cases fn with
    | func f =>
      simp only [opA] at hr
      split at hr
      · rename_i p q hp hq
        cases hr
        have k1 := map_args (opnds_rel hg ht ds hp)
        have k2 := map_args (opnds_rel hg ht ds hq)
        refine OpOK.same x (v' := .func (.func f) (first.map (Act.mk a ds).eval) (cap.map (Act.mk a ds).eval)) ?_ ?_
        · simp only [execOp, Instr.makeFunc, Sem.run_bind, Sem.run_pure, Result.andThen_ok]
        · have g1 := of_vs (a := p.toArray) (a' := first.map (Act.mk a ds).eval) (by simpa using k1)
          have g2 := of_vs (a := q.toArray) (a' := cap.map (Act.mk a ds).eval) (by simpa using k2)
          exact .func (.func f) g1.1 g1.2 g2.1 g2.2
      · cases hr
    | _ => simp [opA] at hr
  | slice st y lo hi mx =>
    simp only [opA] at hr
    split at hr
    · rename_i p l hh m hp hl hhi hm
      obtain ⟨v, h1, rfl⟩ := of_map hr
      obtain ⟨v', k1, k2⟩ := slice_rel he x (V hp) (opt_rel hg ht ds hl) (opt_rel hg ht ds hhi) (opt_rel hg ht ds hm) h1
      refine OpOK.same x ?_ k2
      simp only [execOp, Sem.run_bind, k1, Result.andThen_ok, Sem.run_pure]
    · cases hr
  | fieldAddr st y f =>
    simp only [opA] at hr
    split at hr
    · rename_i ad fields hp hu
      split at hr
      · rename_i off size hf
        obtain ⟨hs, hr⟩ := of_bif hr
        cases hr
        obtain ⟨u, hu1, hu2⟩ := of_bind hp
        have := of_addr hu2; subst this
        obtain ⟨pl, q1, q2⟩ := (V hu1).ptr_l
        unfold fieldPlaceA at hf
        cases hfi : fields[f]? with
        | none => simp [hfi] at hf
        | some fd =>
          simp only [hfi] at hf
          cases hsz : e.size fd.type with
          | none => simp [hsz] at hf
          | some s =>
            simp only [hsz, Option.some.injEq, Prod.mk.injEq] at hf
            obtain ⟨rfl, rfl⟩ := hf
            have h0 : ¬ s = 0 := by have : 0 < s := Nat.le_of_ble_eq_true hs; omega
            refine OpOK.same x (v' := .pointer (some ⟨pl.blk, pl.off + (ad.add fd.offset).off, none⟩)) ?_ (.ptr (by rw [Addr.add_block]; exact q1))
            simp only [execOp, Instr.fieldAt, Sem.run_bind, he.runUnder hu, Result.andThen_ok, hfi, Instr.sureAddr, q2, Sem.run_pure, fieldPlace, he.runSize hsz, h0, if_false, addr_add, Addr.add_off, Nat.add_assoc]
      · cases hr
    · cases hr
  | field ft y f =>
    simp only [opA] at hr
    split at hr
    · rename_i cs fields hp hu
      cases hfi : fields[f]? with
      | none => simp [hfi] at hr
      | some fd =>
        simp only [hfi] at hr
        obtain ⟨v, h1, rfl⟩ := of_map hr
        obtain ⟨cs', q1, q2⟩ := (V hp).agg_l
        obtain ⟨v', k1, k2⟩ := part_rel he w q2 h1
        refine OpOK.same x ?_ k2
        simp only [execOp, Instr.field, Sem.run_bind, he.runUnder hu, Result.andThen_ok, hfi, q1, asAgg, Sem.run_pure, k1]
    · cases hr
  | indexAddr it y ix =>
    simp only [opA] at hr
    split at hr
    · rename_i ad i len elem hp hi hu
      split at hr
      · cases hr
      · rename_i s hs
        obtain ⟨hb, hr⟩ := of_bif hr
        cases hr
        simp only [Bool.and_eq_true, decide_eq_true_eq] at hb
        obtain ⟨pl, q1, q2⟩ := (V hp).ptr_l
        obtain ⟨u, hu1, hu2⟩ := of_bind hi
        obtain ⟨k, rfl⟩ := of_int hu2
        have hix := (V hu1).int_l
        refine OpOK.same x (v' := .pointer (some ⟨pl.blk, pl.off + (ad.add (i.toNat * s)).off, none⟩)) ?_ (.ptr (by rw [Addr.add_block]; exact q1))
        simp only [execOp, Instr.indexAt, hix, asIntOf, Sem.run_bind, Sem.run_pure, Result.andThen_ok, he.runUnder hu, q2, Instr.sureAddr, hb, and_self, if_true, he.runSize hs, addr_add, Addr.add_off, Nat.add_assoc]
    · rename_i ad len cap i elem hp hi hu
      split at hr
      · cases hr
      · rename_i s hs
        obtain ⟨hb, hr⟩ := of_bif hr
        cases hr
        simp only [Bool.and_eq_true, decide_eq_true_eq] at hb
        obtain ⟨c, cap', pl, q1, q2, q3⟩ := (V hp).sl_some
        obtain ⟨u, hu1, hu2⟩ := of_bind hi
        obtain ⟨k, rfl⟩ := of_int hu2
        have hix := (V hu1).int_l
        have hc : c = ⟨pl.blk, pl.off + ad.off, none⟩ := by
          rcases q3 with ⟨h1, _⟩ | ⟨h1, _, _⟩
          · exact h1
          · omega
        refine OpOK.same x (v' := .pointer (some ⟨pl.blk, pl.off + (ad.add (i.toNat * s)).off, none⟩)) ?_ (.ptr (by rw [Addr.add_block]; exact q2))
        simp only [execOp, Instr.indexAt, hix, asIntOf, Sem.run_bind, Sem.run_pure, Result.andThen_ok, he.runUnder hu, q1, hc, hb, and_self, if_true, he.runSize hs, addr_add, Addr.add_off, Nat.add_assoc]
    · cases hr
  | index it y ix =>
    simp only [opA] at hr
    split at hr
    · rename_i cs k i len elem hp hi hu
      split at hr
      · cases hr
      · rename_i s hs
        obtain ⟨hb, hr⟩ := of_bif hr
        simp only [Bool.and_eq_true, decide_eq_true_eq] at hb
        obtain ⟨v, h1, rfl⟩ := of_map hr
        obtain ⟨cs', q1, q2⟩ := (V hp).agg_l
        have hix := (V hi).int_l
        obtain ⟨v', k1, k2⟩ := part_rel he w q2 h1
        refine OpOK.same x ?_ k2
        simp only [execOp, Instr.index, hix, asIntOf, Sem.run_bind, Sem.run_pure, Result.andThen_ok, he.runUnder hu, q1, hb, and_self, if_true, he.runSize hs, k1]
    · rename_i s k i hp hi hu
      obtain ⟨v, h1, rfl⟩ := of_map hr
      have hix := (V hi).int_l
      have hst : (Act.mk a ds).eval y = .string s := by have := V hp; cases hh : (Act.mk a ds).eval y <;> rw [hh] at this <;> cases this <;> rfl
      obtain ⟨k1, k2⟩ := plainRun_rel (ρ := ρ) h1 w
      refine OpOK.same x ?_ k2
      simp only [execOp, hix, hst, Sem.run_bind, k1, Result.andThen_ok, Sem.run_pure]
    · cases hr
  | lookup mt m k ok =>
    simp only [opA] at hr
    split at hr
    · rename_i p q hp hq
      obtain ⟨v, h1, rfl⟩ := of_map hr
      obtain ⟨v', k1, k2⟩ := lookup_rel he x (V hp) (V hq) h1
      refine OpOK.same x ?_ k2
      simp only [execOp, Sem.run_bind, k1, Result.andThen_ok, Sem.run_pure]
    · cases hr
  | mapUpdate mt m k v =>
    simp only [opA] at hr
    split at hr
    · rename_i p q z hp hq hz
      obtain ⟨h', h1, rfl⟩ := of_map hr
      obtain ⟨w', k1, k2, k3⟩ := update_rel he (b := h.next) x (V hp) (V hq) (V hz) h1
      refine ⟨w', ρ, ?_, k2, k3⟩
      simp only [execOp, Sem.run_bind, k1, Result.andThen_ok, Sem.run_pure]
    · cases hr
  | insert mt m k v =>
    simp only [opA] at hr
    split at hr
    · rename_i p q z hp hq hz
      obtain ⟨h', h1, rfl⟩ := of_map hr
      obtain ⟨w', k1, k2, k3⟩ := update_rel he (b := h.next) x (V hp) (V hq) (V hz) h1
      refine ⟨w', ρ, ?_, k2, k3⟩
      simp only [execOp, Sem.run_bind, k1, Result.andThen_ok, Sem.run_pure]
    · cases hr
  | range rt y =>
    simp only [opA] at hr
    split at hr
    · rename_i s hp hu
      cases hr
      have hst : (Act.mk a ds).eval y = .string s := by have := V hp; cases hh : (Act.mk a ds).eval y <;> rw [hh] at this <;> cases this <;> rfl
      obtain ⟨ρ', pl, g1, g2, g3, g4, g5, _⟩ := new_obj x (x.slot (.strIt s 0)) (.stringIter s 0) rfl rfl (fun ρ' w' pl _ h0 hw => ⟨h0, hw⟩)
      refine ⟨_, _, ρ', ?_, oref g1 g3, g4, g5⟩
      simp only [execOp, Instr.range, hst, Sem.run_bind, he.runUnder hu, Sem.run_pure, Result.andThen_ok, run_newObj, g2]
      rfl
    · rename_i ek ev hp hu
      cases hr
      have hm := (V hp).map_none
      obtain ⟨ρ', pl, g1, g2, g3, g4, g5, _⟩ := new_obj x (x.slot (.mapIt none 0 [] 0)) (.mapIter none 0 #[] 0) rfl rfl (fun ρ' w' pl _ h0 hw => ⟨h0, none, hw, .map0⟩)
      refine ⟨_, _, ρ', ?_, oref g1 g3, g4, g5⟩
      simp only [execOp, Instr.range, hm, Sem.run_bind, he.runUnder hu, Sem.run_pure, Result.andThen_ok, run_newObj, g2]
      rfl
    · rename_i m ek ev hp hu
      split at hr
      · rename_i es clock ho
        cases hr
        obtain ⟨plm, q1, q2⟩ := (V hp).map_some
        obtain ⟨pl', r1, r2, es', r3, r4⟩ := x.obj _ _ ho
        rw [q1] at r1; cases r1
        obtain ⟨ρ', pl, g1, g2, g3, g4, g5, _⟩ := new_obj x (x.slot (.mapIt (some m) clock [] clock)) (.mapIter (some plm.blk) clock #[] clock) rfl rfl (fun ρ' w' pl hx h0 hw => ⟨h0, some plm.blk, hw, .map (hx _ _ q1)⟩)
        refine ⟨_, _, ρ', ?_, oref g1 g3, g4, g5⟩
        simp only [execOp, Instr.range, q2, Sem.run_bind, he.runUnder hu, getObj_map r3, Sem.run_pure, Result.andThen_ok, run_newObj, g2]
        rfl
      · cases hr
    · cases hr
  | next it s =>
    simp only [opA] at hr
    split at hr
    · cases hr
    · rename_i v hp
      obtain ⟨⟨r1, h1⟩, q1, rfl⟩ := of_map hr
      exact OpOK.gives (next_rel e.P x (V hp) q1 ty)
  | entry it =>
    simp only [opA] at hr
    split at hr
    · cases hr
    · rename_i v hp
      obtain ⟨r1, q1, rfl⟩ := of_map hr
      obtain ⟨v', k1, k2⟩ := entry_rel e.P x (V hp) q1
      refine OpOK.same x ?_ k2
      simp only [execOp, Sem.run_bind, k1, Result.andThen_ok, Sem.run_pure]
  | extract y i =>
    simp only [opA] at hr
    split at hr
    · rename_i vs hp
      obtain ⟨v, h1, rfl⟩ := of_map hr
      obtain ⟨vs', q1, q2⟩ := (V hp).tuple_l
      obtain ⟨v', k1, k2⟩ := q2.get i v (by simpa using h1)
      refine OpOK.same x ?_ k2
      have : vs'[i]? = some v' := by simpa using k1
      simp only [execOp, q1, Instr.extract, this, Sem.run_bind, Sem.run_pure, Result.andThen_ok]
    · cases hr
  | call c =>
    exact call_rel he hg ht x (by simpa only [opA] using hr) ty
  | defer c =>
    simp only [opA] at hr
    split at hr
    · rename_i f args hc ha
      split at hr
      · rename_i g as cap hf
        cases hr
        obtain ⟨fv, k1, k2⟩ := of_bind hf
        have hargs := map_args (opnds_rel hg ht ds ha)
        cases fv with
        | func fn first cp =>
          simp only [targetA, Option.some.injEq, Prod.mk.injEq] at k2
          obtain ⟨rfl, rfl, rfl⟩ := k2
          obtain ⟨fn', a', c', e1, e2, e3, e4⟩ := (V k1).func_l
          have := e2.func_l; subst this
          refine ⟨rfl, a' ++ c.args.map (Act.mk a ds).eval, c', ?_, e4, ?_⟩
          · rw [Array.toList_append]
            exact e3.append hargs
          · simp only [execOp, resolve, hc, Deferred.ofValue, e1, Sem.run_bind, Sem.run_pure, Result.andThen_ok]
        | _ => simp [targetA] at k2
      · cases hr
    · cases hr
  | _ => simp [opA] at hr

end Go.Abs

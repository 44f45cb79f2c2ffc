/- SpacingSuffixes: parts of its proof (AbsJ AbsK AbsM AbsN Close). -/
import Derived.Laws.BytesString
import Derived.RangeFuncLeaves
import Derived.LoopNIn
import Derived.Carry
import Derived.ProofKit
import Derived.OpenShut
import Derived.ChangeSame
import Derived.Deep.DeepHandedRow
import Derived.Test.YtaheljlbchkpcaaGreatDoorK05
set_option linter.unusedVariables false
set_option linter.unusedSimpArgs false
noncomputable section
namespace Go.aw
variable {e:Env}
theorem of_map{α β:Type}{x:Option α}{f:α->β}{r:β}(h:x.map f=some r):∃a,x=some a/\f a=r:=by
 cases x with
 |none=>cases h
 |some a=>exact⟨a,rfl,Option.some.inj h⟩
def ed(e:Env)(ρ:ay)(h:aa)(w:World)(s:Sem Next):AR->Prop
 |.val v h'=>∃v' w' af,s.run e.P w=.ok (.value v') w'/\aK af v v'/\bm af h' w'/\Fr h.next ρ h w af h' w'
 |.skip h'=>∃w' af,s.run e.P w=.ok .skip w'/\bm af h' w'/\Fr h.next ρ h w af h' w'
 |.enter f args h'=>h'=h/\∃ae:Array Value,bJ ρ args ae.toList/\∀fn,e.fn f=some fn->s.run e.P w=.ok (.enter f ae) w
 |.round l args h'=>h'=h/\∃(pl:Pl) (ae:Array Value),ρ l=some pl/\bJ ρ args ae.toList/\s.run e.P w=(Instr.yield pl.aW ae).run e.P w
 |.defer f args cap h'=>h'=h/\∃ae aB:Array Value,bJ ρ args ae.toList/\bJ ρ cap aB.toList/\s.run e.P w=.ok (.defer {target:=.fn (.func f) aB,args:=ae}) w
theorem ed.same{ρ:ay}{h:aa}{w:World}{s:Sem Next}{v v':Value}(x:bm ρ h w)(hr:s.run e.P w=.ok (.value v') w)(hv:aK ρ v v'):ed e ρ h w s (.val v h):=
 ⟨v',w,ρ,hr,hv,x,Fr.refl _ _ _ _⟩
theorem ed.gives{ρ:ay}{h h':aa}{w:World}{s:Sem Value}{v:Value}(g:gY h.next e.P ρ h w s v h'):ed e ρ h w (do pure (.value (<-s))) (.val v h'):=by
 obtain⟨v',w',af,g1,g2⟩:=g;exact⟨v',w',af,by simp only[Sem.run_bind,g1,Result.andThen_ok,Sem.run_pure],g2⟩
theorem aK.sE{ρ:ay}{fn:Fn}{a c:Array Value}{v:Value}(h:aK ρ (.func fn a c) v):∃aI a' c',v=.func aI a' c'/\kJ ρ fn aI/\bJ ρ a.toList a'.toList/\bJ ρ c.toList c'.toList:=by
 cases h with|func hf h1 h2 h3 h4=>exact⟨_,_,_,rfl,hf,sx h1 h2,sx h3 h4⟩
theorem kJ.sE{ρ:ay}{f:FuncId}{g:Fn}(h:kJ ρ (.func f) g):g=.func f:=by cases h;rfl
theorem kJ.MF{ρ:ay}{l:Nat}{g:Fn}(h:kJ ρ (.yield l) g):∃pl,ρ l=some pl/\g=.yield pl.aW:=by cases h with|yield h=>exact⟨_,h,rfl⟩
theorem ye{ρ:ay}{vs:List Value}{args:Array Operand}{f:Operand->Value}(h:bJ ρ vs (args.toList.map f)):bJ ρ vs (args.map f).toList:=by rwa[Array.toList_map]
theorem ER{ρ:ay}{a b:Value}{xs:Array Value}(h:bJ ρ [a,b] xs.toList):∃a' b',xs=#[a',b']/\aK ρ a a'/\aK ρ b b':=by
 cases hx:xs.toList with
 |nil=>rw[hx]at h;cases h
 |cons a' t=>
  rw[hx]at h;cases h with
  |cons ha ht=>
   cases ht with
   | @cons _ b' _ y hb hn=>
    cases hn;exact⟨a',b',by rw[<-Array.toArray_toList (xs:=xs),hx],ha,hb⟩
theorem ES{ρ:ay}{a:Value}{xs:Array Value}(h:bJ ρ [a] xs.toList):∃a',xs=#[a']/\aK ρ a a':=by
 cases hx:xs.toList with
 |nil=>rw[hx]at h;cases h
 |cons a' t=>
  rw[hx]at h;cases h with
  |cons ha ht=>
   cases ht;exact⟨a',by rw[<-Array.toArray_toList (xs:=xs),hx],ha⟩
theorem ET{ρ:ay}{vs:List Value}{xs:Array Value}(h:bJ ρ vs xs.toList)(hp:vs.all plain=true):xs=vs.toArray:=by
 have:xs.toList=vs:=by
  generalize xs.toList=l at h
  induction h with
  |nil=>rfl
  |cons ha _ ih=>
   simp only[List.all_cons,Bool.and_eq_true]at hp;rw[qJ hp.1 ha,ih hp.2]
 rw[<-this]
theorem MG(he:e.Ok){n:Nat}{ρ:ay}{h:aa}{w:World}{t:Tr Value}{a:Array Value}{ds:List Deferred}(hg:Gl e ρ)(ht:kc ρ t n a)(x:bm ρ h w)
 {c:Call} {r:AR} (hr:mw e h t c=some r) (ty:TypeId):ed e ρ h w (do let d<-resolve (Act.mk a ds).eval c ty;invoke d.target d.args) r:=by
 unfold mw at hr;cases ha:df e t c.args.toList with
 |none=>simp[ha]at hr
 |some args=>
  simp only[ha]at hr;have ab:=ye (wc hg ht ds ha);cases hc:c.callee with
  |invoke r m=>simp[hc]at hr
  |value f=>
   simp only[hc]at hr;cases hf:au e t f with
   |none=>simp[hf]at hr
   |some fv=>
    simp only[hf]at hr;have aR:=kM hg ht hf ds;cases fv with
    |func fn first cap=>
     obtain⟨aI,a',c',e1,e2,e3,e4⟩:=aR.sE;simp only[oh]at hr;have ai:(resolve (Act.mk a ds).eval c ty).run e.P w=.ok {target:=.fn aI c',args:=a'++c.args.map (Act.mk a ds).eval} w:=by
      simp only[resolve,hc,Deferred.ofValue,e1,Sem.run_pure]
     cases fn with
     |func g=>
      have:=e2.sE;subst this;simp only[Option.some.injEq]at hr;subst hr;refine⟨rfl,a'++c.args.map (Act.mk a ds).eval++c', ?_,λfn aS=> ?_⟩
      . rw[Array.toList_append,Array.toList_append];exact(e3.append ab).append e4
      . simp only[Sem.run_bind,ai,Result.andThen_ok,invoke,(he.fn g fn aS).2]
     |yield l=>
      obtain⟨pl,hp,rfl⟩:=e2.MF;simp only[Option.some.injEq]at hr;subst hr;refine⟨rfl,pl,a'++c.args.map (Act.mk a ds).eval,hp, ?_, ?_⟩
      . rw[Array.toList_append];exact e3.append ab
      . simp only[Sem.run_bind,ai,Result.andThen_ok,invoke]
     |_=>cases hr
    |_=>simp[oh]at hr
  |builtin b=>
   simp only[hc]at hr;have ai:(resolve (Act.mk a ds).eval c ty).run e.P w=.ok {target:=.builtin b c.argTypes ty (c.args.map λ|.const _=>true|_=>false),args:=c.args.map (Act.mk a ds).eval} w:=by
    simp only[resolve,hc,Sem.run_pure];rfl
   have step:∀{s:Sem Value} {v:Value} {h':aa},builtin b c.argTypes ty (c.args.map λ|.const _=>true|_=>false) (c.args.map (Act.mk a ds).eval)=(do pure (.value (<-s)))->gY h.next e.P ρ h w s v h'->
    ed e ρ h w (do let d<-resolve (Act.mk a ds).eval c ty;invoke d.target d.args) (.val v h'):=λhb aT=>by
    obtain⟨v',w',af,g1,g2⟩:=ed.gives aT;refine⟨v',w',af, ?_,g2⟩;simp only[Sem.run_bind,ai,Result.andThen_ok,invoke,hb];simpa only[Sem.run_bind]using g1
   split at hr
   . rename_i s y;obtain⟨⟨r1,r2⟩,h1,rfl⟩:=of_map hr;obtain⟨s',y',e1,e2,e3⟩:=ER ab;refine step (s:=Builtin.append_ c.argTypes ty (c.args.map (Act.mk a ds).eval)) rfl ?_;rw[e1];exact Mv he x e2 e3 h1 ty
   . rename_i s y;obtain⟨⟨r1,r2⟩,h1,rfl⟩:=of_map hr;obtain⟨s',y',e1,e2,e3⟩:=ER ab;refine step (s:=Builtin.copy_ c.argTypes ty (c.args.map (Act.mk a ds).eval)) rfl ?_;rw[e1];exact Mw he x e2 e3 h1 ty
   . rename_i y;cases aD:c.argTypes[0]? with
     |none=>simp[aD]at hr
     |some aU=>
      simp only[aD]at hr;obtain⟨r1,h1,rfl⟩:=of_map hr;obtain⟨y',e1,e2⟩:=ES ab;refine step (s:=Builtin.len_ c.argTypes ty (c.args.map (Act.mk a ds).eval)) rfl ?_;rw[e1];obtain⟨r',k1,k2⟩:=Mn he x e2 h1 c.argTypes aD ty;exact gY.same x k1 k2
   . rename_i y;cases aD:c.argTypes[0]? with
     |none=>simp[aD]at hr
     |some aU=>
      simp only[aD]at hr;obtain⟨r1,h1,rfl⟩:=of_map hr;obtain⟨y',e1,e2⟩:=ES ab;refine step (s:=Builtin.cap_ c.argTypes ty (c.args.map (Act.mk a ds).eval)) rfl ?_;rw[e1];obtain⟨r',k1,k2⟩:=Mo he x e2 h1 c.argTypes aD ty;exact gY.same x k1 k2
   . obtain⟨hp,hr⟩:=ca hr;obtain⟨r1,h1,rfl⟩:=of_map hr;refine step (s:=Builtin.min_ c.argTypes ty (c.args.map (Act.mk a ds).eval)) rfl ?_;rw[ET ab hp];obtain⟨k1,k2⟩:=sC (ρ:=ρ) h1 w;exact gY.same x k1 k2
   . obtain⟨hp,hr⟩:=ca hr;obtain⟨r1,h1,rfl⟩:=of_map hr;refine step (s:=Builtin.max_ c.argTypes ty (c.args.map (Act.mk a ds).eval)) rfl ?_;rw[ET ab hp];obtain⟨k1,k2⟩:=sC (ρ:=ρ) h1 w;exact gY.same x k1 k2
   . cases hr
theorem AF{ρ:ay}{t:Tr Value}{n:Nat}{a:Array Value}(hg:Gl e ρ)(ht:kc ρ t n a)(ds:List Deferred){o:Option Operand}{v:Option Value}
 (h:(match o with|none=>some none|some o=>(au e t o).map some)=some v):oo ρ v (o.map (Act.mk a ds).eval):=by
 cases o with
 |none=>cases h;exact .none
 |some o=>
  obtain⟨u,h1,rfl⟩:=of_map h;exact .some (kM hg ht h1 ds)
theorem EU{ρ:ay}:∀{cs cs':List Value} {ns:List Int},bJ ρ cs cs'->si cs=some ns->cs'=ns.map (Value.int .u8)
 |[],_,ns,.nil,h=>by simp only[si,Option.some.injEq]at h;subst h;rfl
 |c::cs,_,ns,.cons h1 h2,h=>by
  match c,h1,h with
  |.int .u8 n,h1,h=>
   simp only[si,Option.map_eq_some_iff]at h;obtain⟨r,h3,rfl⟩:=h;have:=h1.nf;subst this;rw[EU h2 h3];rfl
theorem MH(he:e.Ok){ρ:ay}{h:aa}{w:World}(x:bm ρ h w){s d:TypeId}{v v' u:Value}(hv:aK ρ v v')(hb:pB e h s d v=some u):(convert s d v').run e.P w=.ok u w/\aK ρ u u:=by
 unfold pB at hb
 split at hb
 . rename_i a len cap el hu hd
   split at hb
   . rename_i aV
     split at hb
     . rename_i cs hc;simp only[Option.map_eq_some_iff]at hb;obtain⟨ns,h1,rfl⟩:=hb;refine⟨?_,.string _⟩;cases hv with
       | @sl _ c _ _ k' pl hp hs=>
        obtain⟨cs',g1,g2,g3⟩:=uu x hp hc;have e1:=EU g1 h1;have hl:(loadCells c len).run e.P w=.ok (ns.map (Value.int .u8)).toArray w:=by
         rcases hs with⟨aX,_⟩|⟨h1,_,_⟩
         . have:=run_loadCells_list (P:=e.P) w _ cs' g3;rw[g2,<-aX,e1]at this;exact this
         . have aY:cs'=[]:=List.eq_nil_of_length_eq_zero (g2.trans h1);rw[aY]at e1;rw[<-e1,h1];rfl
        rw[run_convert_bytes_string w s d el (some c) len k' (he.under s _ hu) (he.under el _ aV) (he.under d _ hd),run_bytesToString w c len k' ns hl];rfl
     . cases hb
   . cases hb
 . cases hb
theorem EV(he:e.Ok){n:Nat}{ρ:ay}{h:aa}{w:World}{t:Tr Value}{a:Array Value}{ds:List Deferred}(hg:Gl e ρ)(ht:kc ρ t n a)(x:bm ρ h w)
 {o:Oper} {r:AR} (hr:aL e h t o.op=some r):ed e ρ h w (execOp (Act.mk a ds).eval o) r:=by
 have V:∀{y:Operand} {v:Value},au e t y=some v->aK ρ v ((Act.mk a ds).eval y):=λhy=>kM hg ht hy ds;have al:∀{ob:bK} {f:Nat->Value},cU e t o.op=some (ob,f)->ed e ρ h w (execOp (Act.mk a ds).eval o) (.val (f h.next) (h.new ob)):=λhA=>by
  obtain⟨v',w',af,g1,g2,g3,g4,_⟩:=ED he (b:=h.next) hg ht x (ds:=ds) hA (x.slot _);exact⟨v',w',af,g1,g2,g3,g4⟩
 obtain⟨dst,op,ty,pos,after,guard⟩:=o;simp only at hr al;cases op with
 |move y=>
  obtain⟨v,h1,rfl⟩:=of_map (by simpa only[aL]using hr);exact ed.same x rfl (V h1)
 |assign y=>
  obtain⟨v,h1,rfl⟩:=of_map (by simpa only[aL]using hr);exact ed.same x rfl (V h1)
 |pick c p q=>
  simp only[aL]at hr
  split at hr
  . rename_i hc;obtain⟨v,h1,rfl⟩:=of_map hr;have:=(V hc).pH;refine ed.same x ?_ (V h1);simp only[execOp,this,asBool,Sem.run_bind,Sem.run_pure,Result.andThen_ok,if_true]
  . rename_i hc;obtain⟨v,h1,rfl⟩:=of_map hr;have:=(V hc).pH;refine ed.same x ?_ (V h1);simp only[execOp,this,asBool,Sem.run_bind,Sem.run_pure,Result.andThen_ok,Bool.false_eq_true,if_false]
  . cases hr
 |alloc elem=>
  simp only[aL]at hr
  split at hr
  . cases hr
  . rename_i ob f hA;cases hr;exact al hA
 |box elem y=>
  simp only[aL]at hr
  split at hr
  . cases hr
  . rename_i ob f hA;cases hr;exact al hA
 |buildSlice st len parts=>
  simp only[aL]at hr
  split at hr
  . cases hr
  . rename_i ob f hA;cases hr;exact al hA
 |makeMap mt r=>
  simp only[aL]at hr
  split at hr
  . cases hr
  . rename_i ob f hA;cases hr;exact al hA
 |makeSlice st l c=>
  simp only[aL]at hr
  split at hr
  . cases hr
  . rename_i ob f hA;cases hr;exact al hA
 |build bt parts=>
  simp only[aL]at hr
  split at hr
  . cases hr
  . rename_i ps hp;obtain⟨v,h1,rfl⟩:=of_map hr;have aJ:=Aw hg ht ds hp;obtain⟨v',k1,k2⟩:=Mj he w (ps':=parts.map λ(i,y)=>(i,(Act.mk a ds).eval y)) (by simpa using aJ) h1;refine ed.same x ?_ k2;simp only[execOp,Sem.run_bind,k1,Result.andThen_ok,Sem.run_pure]
 |load lt y=>
  simp only[aL]at hr
  split at hr
  . cases hr
  . rename_i ad hp;obtain⟨v,h1,rfl⟩:=of_map hr;obtain⟨u,ao,av⟩:=oj hp;have:=wg av;subst this;obtain⟨pl,q1,q2⟩:=(V ao).pI;obtain⟨v',k1,k2⟩:=Ex he x q1 h1;refine ed.same x ?_ k2;simp only[execOp,Instr.loadAt,Instr.sureAddr,q2,Sem.run_bind,Sem.run_pure,Result.andThen_ok,k1]
 |store lt y z=>
  simp only[aL]at hr
  split at hr
  . rename_i ad v hp hv;obtain⟨h',h1,rfl⟩:=of_map hr;obtain⟨u,ao,av⟩:=oj hp;have:=wg av;subst this;obtain⟨pl,q1,q2⟩:=(V ao).pI;obtain⟨w',k1,k2,k3⟩:=Mg he (b:=h.next) x q1 (V hv) h1;refine⟨w',ρ, ?_,k2,k3⟩;simp only[execOp,Instr.storeAt,Instr.sureAddr,q2,Sem.run_bind,Sem.run_pure,Result.andThen_ok,k1]
  . cases hr
 |nilCheck y=>
  simp only[aL]at hr
  split at hr
  . rename_i ad hp;cases hr;obtain⟨pl,q1,q2⟩:=(V hp).pI;refine ed.same x ?_ (V hp);simp only[execOp,q2,Sem.run_pure]
  . rename_i f p q hp;cases hr;obtain⟨aI,a',c',e1,e2,e3,e4⟩:=(V hp).sE;have:=e2.sE;subst this;refine ed.same x ?_ (V hp);simp only[execOp,e1,Sem.run_pure]
  . cases hr
 |binOp bo bt y z yt=>
  simp only[aL]at hr
  split at hr
  . rename_i p q hp hq;obtain⟨v,h1,rfl⟩:=of_map hr;obtain⟨v',k1,k2⟩:=MB he w (V hp) (V hq) h1;refine ed.same x ?_ k2;simp only[execOp];rw[Sem.run_bind,k1];rfl
  . cases hr
 |unOp uo ut y=>
  simp only[aL]at hr
  split at hr
  . rename_i p hp;obtain⟨aM,hr⟩:=ca hr;obtain⟨v,h1,rfl⟩:=of_map hr;obtain⟨k1,k2⟩:=sC (ρ:=ρ) h1 w;rw[<-qJ aM (V hp)]at k1;refine ed.same x ?_ k2;simp only[execOp,Sem.run_bind,k1,Result.andThen_ok,Sem.run_pure]
  . cases hr
 |convert cs cd y=>
  simp only[aL]at hr
  split at hr
  . rename_i p hp;cases aM:plain p with
    |true=>
     rw[aM]at hr;obtain⟨v,h1,rfl⟩:=of_map hr;obtain⟨k1,k2⟩:=sC (ρ:=ρ) h1 w;rw[<-qJ aM (V hp)]at k1;refine ed.same x ?_ k2;simp only[execOp,Sem.run_bind,k1,Result.andThen_ok,Sem.run_pure]
    |false=>
     rw[aM]at hr;obtain⟨v,h1,rfl⟩:=of_map hr;obtain⟨k1,k2⟩:=MH he x (V hp) h1;refine ed.same x ?_ k2;simp only[execOp,Sem.run_bind,k1,Result.andThen_ok,Sem.run_pure]
  . cases hr
 |makeInterface it y=>
  simp only[aL]at hr
  split at hr
  . cases hr
  . rename_i v d aZ hp hu;cases hr;refine ed.same x (v':=.iface it ((Act.mk a ds).eval y)) ?_ (.iface (V hp));cases d with
    |interface ms=>exact(aZ ms rfl).elim
    |_=>simp only[execOp,Instr.makeInterface,Sem.run_bind,he.dA hu,Result.andThen_ok,Sem.run_pure]
  . cases hr
 |makeFunc fn first cap=>
  cases fn with
  |func f=>
   simp only[aL]at hr
   split at hr
   . rename_i p q hp hq;cases hr;have k1:=ye (wc hg ht ds hp);have k2:=ye (wc hg ht ds hq);refine ed.same x (v':=.func (.func f) (first.map (Act.mk a ds).eval) (cap.map (Act.mk a ds).eval)) ?_ ?_
     . simp only[execOp,Instr.makeFunc,Sem.run_bind,Sem.run_pure,Result.andThen_ok]
     . have g1:=um (a:=p.toArray) (a':=first.map (Act.mk a ds).eval) (by simpa using k1);have g2:=um (a:=q.toArray) (a':=cap.map (Act.mk a ds).eval) (by simpa using k2);exact .func (.func f) g1.1 g1.2 g2.1 g2.2
   . cases hr
  |_=>simp[aL]at hr
 |slice st y lo hi mx=>
  simp only[aL]at hr
  split at hr
  . rename_i p l hh m hp hl bb hm;obtain⟨v,h1,rfl⟩:=of_map hr;obtain⟨v',k1,k2⟩:=Mm he x (V hp) (AF hg ht ds hl) (AF hg ht ds bb) (AF hg ht ds hm) h1;refine ed.same x ?_ k2;simp only[execOp,Sem.run_bind,k1,Result.andThen_ok,Sem.run_pure]
  . cases hr
 |fieldAddr st y f=>
  simp only[aL]at hr
  split at hr
  . rename_i ad fields hp hu
    split at hr
    . rename_i off size hf;obtain⟨hs,hr⟩:=ca hr;cases hr;obtain⟨u,ao,av⟩:=oj hp;have:=wg av;subst this;obtain⟨pl,q1,q2⟩:=(V ao).pI;unfold kH at hf;cases aE:fields[f]? with
      |none=>simp[aE]at hf
      |some fd=>
       simp only[aE]at hf;cases aN:e.size fd.type with
       |none=>simp[aN]at hf
       |some s=>
        simp only[aN,Option.some.injEq,Prod.mk.injEq]at hf;obtain⟨rfl,rfl⟩:=hf;have h0:¬s=0:=by have:0<s:=Nat.le_of_ble_eq_true hs;omega
        refine ed.same x (v':=.pointer (some ⟨pl.aW,pl.off+(ad.add fd.offset).off,none⟩)) ?_ (.ptr (by rw[Addr.ur];exact q1));simp only[execOp,Instr.fieldAt,Sem.run_bind,he.dA hu,Result.andThen_ok,aE,Instr.sureAddr,q2,Sem.run_pure,fieldPlace,he.iN aN,h0,if_false,pG,Addr.sB,Nat.add_assoc]
    . cases hr
  . cases hr
 |field ft y f=>
  simp only[aL]at hr
  split at hr
  . rename_i cs fields hp hu;cases aE:fields[f]? with
    |none=>simp[aE]at hr
    |some fd=>
     simp only[aE]at hr;obtain⟨v,h1,rfl⟩:=of_map hr;obtain⟨cs',q1,q2⟩:=(V hp).qI;obtain⟨v',k1,k2⟩:=EB he w q2 h1;refine ed.same x ?_ k2;simp only[execOp,Instr.field,Sem.run_bind,he.dA hu,Result.andThen_ok,aE,q1,asAgg,Sem.run_pure,k1]
  . cases hr
 |indexAddr it y ix=>
  simp only[aL]at hr
  split at hr
  . rename_i ad i len elem hp hi hu
    split at hr
    . cases hr
    . rename_i s hs;obtain⟨hb,hr⟩:=ca hr;cases hr;simp only[Bool.and_eq_true,decide_eq_true_eq]at hb;obtain⟨pl,q1,q2⟩:=(V hp).pI;obtain⟨u,ao,av⟩:=oj hi;obtain⟨k,rfl⟩:=of_int av;have aF:=(V ao).nf;refine ed.same x (v':=.pointer (some ⟨pl.aW,pl.off+(ad.add (i.toNat*s)).off,none⟩)) ?_ (.ptr (by rw[Addr.ur];exact q1));simp only[execOp,Instr.indexAt,aF,asIntOf,Sem.run_bind,Sem.run_pure,Result.andThen_ok,he.dA hu,q2,Instr.sureAddr,hb,and_self,if_true,he.iN hs,pG,Addr.sB,Nat.add_assoc]
  . rename_i ad len cap i elem hp hi hu
    split at hr
    . cases hr
    . rename_i s hs;obtain⟨hb,hr⟩:=ca hr;cases hr;simp only[Bool.and_eq_true,decide_eq_true_eq]at hb;obtain⟨c,aB,pl,q1,q2,q3⟩:=(V hp).yc;obtain⟨u,ao,av⟩:=oj hi;obtain⟨k,rfl⟩:=of_int av;have aF:=(V ao).nf;have hc:c=⟨pl.aW,pl.off+ad.off,none⟩:=by
       rcases q3 with⟨h1,_⟩|⟨h1,_,_⟩
       . exact h1
       . omega
      refine ed.same x (v':=.pointer (some ⟨pl.aW,pl.off+(ad.add (i.toNat*s)).off,none⟩)) ?_ (.ptr (by rw[Addr.ur];exact q2));simp only[execOp,Instr.indexAt,aF,asIntOf,Sem.run_bind,Sem.run_pure,Result.andThen_ok,he.dA hu,q1,hc,hb,and_self,if_true,he.iN hs,pG,Addr.sB,Nat.add_assoc]
  . cases hr
 |index it y ix=>
  simp only[aL]at hr
  split at hr
  . rename_i cs k i len elem hp hi hu
    split at hr
    . cases hr
    . rename_i s hs;obtain⟨hb,hr⟩:=ca hr;simp only[Bool.and_eq_true,decide_eq_true_eq]at hb;obtain⟨v,h1,rfl⟩:=of_map hr;obtain⟨cs',q1,q2⟩:=(V hp).qI;have aF:=(V hi).nf;obtain⟨v',k1,k2⟩:=EB he w q2 h1;refine ed.same x ?_ k2;simp only[execOp,Instr.index,aF,asIntOf,Sem.run_bind,Sem.run_pure,Result.andThen_ok,he.dA hu,q1,hb,and_self,if_true,he.iN hs,k1]
  . rename_i s k i hp hi hu;obtain⟨v,h1,rfl⟩:=of_map hr;have aF:=(V hi).nf;have aO:(Act.mk a ds).eval y=.string s:=by have:=V hp;cases hh:(Act.mk a ds).eval y<;>rw[hh]at this<;>cases this<;>rfl
    obtain⟨k1,k2⟩:=sC (ρ:=ρ) h1 w;refine ed.same x ?_ k2;simp only[execOp,aF,aO,Sem.run_bind,k1,Result.andThen_ok,Sem.run_pure]
  . cases hr
 |lookup mt m k ok=>
  simp only[aL]at hr
  split at hr
  . rename_i p q hp hq;obtain⟨v,h1,rfl⟩:=of_map hr;obtain⟨v',k1,k2⟩:=MC he x (V hp) (V hq) h1;refine ed.same x ?_ k2;simp only[execOp,Sem.run_bind,k1,Result.andThen_ok,Sem.run_pure]
  . cases hr
 |mapUpdate mt m k v=>
  simp only[aL]at hr
  split at hr
  . rename_i p q z hp hq hz;obtain⟨h',h1,rfl⟩:=of_map hr;obtain⟨w',k1,k2,k3⟩:=EO he (b:=h.next) x (V hp) (V hq) (V hz) h1;refine⟨w',ρ, ?_,k2,k3⟩;simp only[execOp,Sem.run_bind,k1,Result.andThen_ok,Sem.run_pure]
  . cases hr
 |insert mt m k v=>
  simp only[aL]at hr
  split at hr
  . rename_i p q z hp hq hz;obtain⟨h',h1,rfl⟩:=of_map hr;obtain⟨w',k1,k2,k3⟩:=EO he (b:=h.next) x (V hp) (V hq) (V hz) h1;refine⟨w',ρ, ?_,k2,k3⟩;simp only[execOp,Sem.run_bind,k1,Result.andThen_ok,Sem.run_pure]
  . cases hr
 |range rt y=>
  simp only[aL]at hr
  split at hr
  . rename_i s hp hu;cases hr;have aO:(Act.mk a ds).eval y=.string s:=by have:=V hp;cases hh:(Act.mk a ds).eval y<;>rw[hh]at this<;>cases this<;>rfl
    obtain⟨af,pl,g1,g2,g3,g4,g5,_⟩:=yb x (x.slot (.e8 s 0)) (.stringIter s 0) rfl rfl (λaf w' pl _ h0 hw=>⟨h0,hw⟩);refine⟨_,_,af, ?_,we g1 g3,g4,g5⟩;simp only[execOp,Instr.range,aO,Sem.run_bind,he.dA hu,Sem.run_pure,Result.andThen_ok,run_newObj,g2];rfl
  . rename_i ek ev hp hu;cases hr;have hm:=(V hp).map_none;obtain⟨af,pl,g1,g2,g3,g4,g5,_⟩:=yb x (x.slot (.cD none 0 [] 0)) (.mapIter none 0 #[] 0) rfl rfl (λaf w' pl _ h0 hw=>⟨h0,none,hw,.pD⟩);refine⟨_,_,af, ?_,we g1 g3,g4,g5⟩;simp only[execOp,Instr.range,hm,Sem.run_bind,he.dA hu,Sem.run_pure,Result.andThen_ok,run_newObj,g2];rfl
  . rename_i m ek ev hp hu
    split at hr
    . rename_i es clock ho;cases hr;obtain⟨aQ,q1,q2⟩:=(V hp).map_some;obtain⟨pl',r1,r2,bf,r3,r4⟩:=x.obj _ _ ho;rw[q1]at r1;cases r1;obtain⟨af,pl,g1,g2,g3,g4,g5,_⟩:=yb x (x.slot (.cD (some m) clock [] clock)) (.mapIter (some aQ.aW) clock #[] clock) rfl rfl (λaf w' pl hx h0 hw=>⟨h0,some aQ.aW,hw,.map (hx _ _ q1)⟩);refine⟨_,_,af, ?_,we g1 g3,g4,g5⟩;simp only[execOp,Instr.range,q2,Sem.run_bind,he.dA hu,sD r3,Sem.run_pure,Result.andThen_ok,run_newObj,g2];rfl
    . cases hr
  . cases hr
 |next it s=>
  simp only[aL]at hr
  split at hr
  . cases hr
  . rename_i v hp;obtain⟨⟨r1,h1⟩,q1,rfl⟩:=of_map hr;exact ed.gives (MD e.P x (V hp) q1 ty)
 |entry it=>
  simp only[aL]at hr
  split at hr
  . cases hr
  . rename_i v hp;obtain⟨r1,q1,rfl⟩:=of_map hr;obtain⟨v',k1,k2⟩:=ME e.P x (V hp) q1;refine ed.same x ?_ k2;simp only[execOp,Sem.run_bind,k1,Result.andThen_ok,Sem.run_pure]
 |extract y i=>
  simp only[aL]at hr
  split at hr
  . rename_i vs hp;obtain⟨v,h1,rfl⟩:=of_map hr;obtain⟨bc,q1,q2⟩:=(V hp).Et;obtain⟨v',k1,k2⟩:=q2.get i v (by simpa using h1);refine ed.same x ?_ k2;have:bc[i]? =some v':=by simpa using k1
    simp only[execOp,q1,Instr.extract,this,Sem.run_bind,Sem.run_pure,Result.andThen_ok]
  . cases hr
 |call c=>
  exact MG he hg ht x (by simpa only[aL]using hr) ty
 |defer c=>
  simp only[aL]at hr
  split at hr
  . rename_i f args hc ha
    split at hr
    . rename_i g az cap hf;cases hr;obtain⟨fv,k1,k2⟩:=oj hf;have ab:=ye (wc hg ht ds ha);cases fv with
      |func fn first cp=>
       simp only[oh,Option.some.injEq,Prod.mk.injEq]at k2;obtain⟨rfl,rfl,rfl⟩:=k2;obtain⟨aI,a',c',e1,e2,e3,e4⟩:=(V k1).sE;have:=e2.sE;subst this;refine⟨rfl,a'++c.args.map (Act.mk a ds).eval,c', ?_,e4, ?_⟩
       . rw[Array.toList_append];exact e3.append ab
       . simp only[execOp,resolve,hc,Deferred.ofValue,e1,Sem.run_bind,Sem.run_pure,Result.andThen_ok]
      |_=>simp[oh]at k2
    . cases hr
  . cases hr
 |_=>simp[aL]at hr
end Go.aw
end
noncomputable section
namespace Go.aw
variable {e:Env}
def FF(ro:Option Nat):Fence:={Fence.wide with round:=ro}
theorem AG(ro:Option Nat)(n:Nat):(FF ro).depth.isSome=true->1<=n:=λh=>by simp[FF,Fence.wide]at h
theorem EW{ro:Option Nat}{n:Nat}{P:Program}{f:FuncId}{args:Array Value}{w:World}{R:Ending->World->Prop}(h:Calls P f args w R):CallsIn (FF ro) n P f args w R:=by
 have:=callsIn_wide (n:=n).2 h;exact this
inductive pJ(ρ:ay):Deferred->Deferred->Prop
 |fn {g:FuncId} {cap af args ab:Array Value}:bJ ρ cap.toList af.toList->bJ ρ args.toList ab.toList->pJ ρ {target:=.fn (.func g) cap,args} {target:=.fn (.func g) af,args:=ab}
 |mark {r:Nat} {pl:Pl}:ρ r=some pl->pJ ρ {target:=.collected r,args:=#[]} {target:=.collected pl.aW,args:=#[]}
theorem pJ.mono{ρ ad:ay}(hx:Ext ρ ad){d d':Deferred}(h:pJ ρ d d'):pJ ad d d':=by
 cases h with
 |fn h1 h2=>exact .fn (h1.mono hx) (h2.mono hx)
 |mark h=>exact .mark (hx _ _ h)
structure dw(e:Env)(ρ:ay)(s:aE)(a:Act)(w:World):Prop where
 g:Gl e ρ
 t:kc ρ s.t s.n a.tmps
 d:aP (pJ ρ) s.ds a.defers
 m:bm ρ s.h w
inductive iy(ρ:ay):Option Nat->Option Nat->Prop
 |none:iy ρ none none
 |some {l:Nat} {pl:Pl}:ρ l=some pl->iy ρ (some l) (some pl.aW)
theorem iy.mono{ρ ad:ay}(hx:Ext ρ ad){a b:Option Nat}(h:iy ρ a b):iy ad a b:=by
 cases h with
 |none=>exact .none
 |some h=>exact .some (hx _ _ h)
def oq(e:Env)(cf:ff):Prop:=∀f args h v h',cf f args h=some (v,h')->(∃fn,e.fn f=some fn)/\∀ρ w (ab:Array Value),Gl e ρ->bJ ρ args ab.toList->bm ρ h w->
 Calls e.P f ab w λen w'=>∃v' ad,en=.returned v'/\aK ad v v'/\bm ad h' w'/\Fr h.next ρ h w ad h' w'
def wj(e:Env)(rf:gW):Prop:=∀l args h v h',rf l args h=some (v,h')->∀ρ w (ab:Array Value) pl,Gl e ρ->ρ l=some pl->bJ ρ args ab.toList->bm ρ h w->
 ∃fn tmps assign body,(Instr.yield pl.aW ab).run e.P w=.ok (.round pl.aW fn tmps assign body) w/\
  ∀ro n,RoundIn (FF ro) n e.P pl.aW fn tmps assign body w λen w'=>∃v' ad,en=.returned v'/\aK ad v v'/\bm ad h' w'/\Fr h.next ρ h w ad h' w'
theorem kc.set{ρ:ay}{t:Tr Value}{n:Nat}{a:Array Value}(h:kc ρ t n a){d:Nat}(hd:d<n){v v':Value}(hv:aK ρ v v'):kc ρ (t.set d (some v)) n (a.setIfInBounds d v'):=by
 refine⟨by simpa using h.1,λi u hu=> ?_⟩;rw[Tr.bw]at hu;by_cases hi:i=d
 . rw[if_pos hi]at hu;cases hu;subst hi;refine⟨hd, ?_⟩;have:i<a.size:=by rw[h.1];exact hd
   simp only[Array.getD_eq_getD_getElem?,Array.getElem?_setIfInBounds,if_true,this,Option.getD_some];exact hv
 . rw[if_neg hi]at hu;obtain⟨h1,h2⟩:=h.2 i u hu;refine⟨h1, ?_⟩;simp only[Array.getD_eq_getD_getElem?,Array.getElem?_setIfInBounds,Ne.symm hi,if_false]at h2⊢;exact h2
theorem ng{ρ:ay}{s s':aE}{a:Act}{w:World}(x:dw e ρ s a w){dst:Option Tmp}{v v':Value}(hp:fN s dst v=some s')(hv:aK ρ v v'):dw e ρ s' (a.put dst v') w/\s'.h=s.h:=by
 cases dst with
 |none=>
  simp only[sj,Option.some.injEq]at hp;subst hp;exact⟨x,rfl⟩
 |some d=>
  simp only[sj]at hp;obtain⟨hb,hp⟩:=ca hp;cases hp;exact⟨⟨x.g,x.t.set (Nat.le_of_ble_eq_true hb) hv,x.d,x.m⟩,rfl⟩
theorem wk(ρ:ay):aK ρ undef undef:=aK.kL.2 .nil
theorem dw.with{ρ ad:ay}{s:aE}{a:Act}{w w':World}{h':aa}{b:Nat}(x:dw e ρ s a w)(m:bm ad h' w')(f:Fr b ρ s.h w ad h' w'):dw e ad {s with h:=h'} a w':=
 ⟨x.g.mono f.ext,x.t.mono f.ext,x.d.mono λ_ _=>pJ.mono f.ext,m⟩
theorem MJ{h:aa}{t:Tr Value}{c:Call}{r:AR}(hr:aL e h t (.defer c)=some r):∃f args cap h',r=.defer f args cap h':=by
 simp only[aL]at hr
 split at hr
 . split at hr
   . cases hr;exact⟨_,_,_,_,rfl⟩
   . cases hr
 . cases hr
theorem wm(he:e.Ok){cf:ff}{rf:gW}(az:oq e cf)(aB:wj e rf){ro au:Option Nat}{o:Oper}{s s':aE}(h:m9 e cf rf ro o s=some s'){ρ:ay}{a:Act}{w:World}(x:dw e ρ s a w)
 (aD:iy ρ ro au) (n:Nat) {next:Act->World->Prop} {Q:Exit->Act->World->Prop} (ae:∀a' w' ad,dw e ad s' a' w'->Fr s.h.next ρ s.h w ad s'.h w'->next a' w'):
 o.wpIn (FF au) n e.P a w next Q:=by
 rw[x4]at h;cases hr:aL e s.h s.t o.op with
 |none=>simp[hr]at h
 |some r=>
  have key:=EV he (ds:=a.defers) x.g x.t x.m hr;have ha:(Act.mk a.tmps a.defers)=a:=rfl;rw[ha]at key;have ai:(∀f args cap h',r≠.defer f args cap h')->Oper.semAt (FF au).round a.eval o=execOp a.eval o:=λaF=>by
   refine Oper.semAt_eq _ _ _ λc hc=> ?_;rw[hc]at hr;obtain⟨f,args,cap,h',aI⟩:=MJ hr;exact aF f args cap h' aI
  simp only[hr]at h;refine⟨λf _=>trivial, ?_⟩;cases r with
  |val v h1=>
   obtain⟨v',w',ad,k1,k2,k3,k4⟩:=key;rw[ai (λ_ _ _ _ h=>by cases h),k1,Oper.uponIn_value];obtain⟨p1,p2⟩:=ng (x.with k3 k4) h k2;exact ae _ _ _ p1 (by rw[p2];exact k4)
  |skip h1=>
   obtain⟨w',ad,k1,k3,k4⟩:=key;rw[ai (λ_ _ _ _ h=>by cases h),k1,Oper.uponIn_skip];obtain⟨p1,p2⟩:=ng (x.with k3 k4) h (wk _);exact ae _ _ _ p1 (by rw[p2];exact k4)
  |enter f args h1=>
   obtain⟨rfl,ab,k1,k2⟩:=key;simp only at h;cases hc:cf f args s.h with
   |none=>simp[hc]at h
   |some r2=>
    obtain⟨v,h2⟩:=r2;simp only[hc]at h;obtain⟨⟨fn,aJ⟩,ao⟩:=az f args s.h v h2 hc;rw[ai (λ_ _ _ _ h=>by cases h),k2 fn aJ,Oper.uponIn_enter];refine⟨AG _ _,EW ((ao ρ w ab x.g k1 x.m).mono ?_)⟩;rintro en w' ⟨v',ad,rfl,q1,q2,q3⟩;obtain⟨p1,p2⟩:=ng (x.with q2 q3) h q1;exact ae _ _ _ p1 (by rw[p2];exact q3)
  |round l args h1=>
   obtain⟨rfl,pl,ab,hp,k1,k2⟩:=key;simp only at h;cases hc:rf l args s.h with
   |none=>simp[hc]at h
   |some r2=>
    obtain⟨v,h2⟩:=r2;simp only[hc]at h;obtain⟨fn,tmps,assign,body,g1,g2⟩:=aB l args s.h v h2 hc ρ w ab pl x.g hp k1 x.m;rw[ai (λ_ _ _ _ h=>by cases h),k2,g1,Oper.uponIn_round];refine⟨AG _ _,(g2 au (n-1)).mono ?_⟩;rintro en w' ⟨v',ad,rfl,q1,q2,q3⟩;obtain⟨p1,p2⟩:=ng (x.with q2 q3) h q1;exact ae _ _ _ p1 (by rw[p2];exact q3)
  |defer f args cap h1=>
   obtain⟨rfl,ab,af,k1,k2,k3⟩:=key;cases aD with
   |some _=>simp at h
   |none=>
    simp only at h;have:Oper.semAt (FF none).round a.eval o=execOp a.eval o:=Oper.semAt_none _ _;rw[this,k3,Oper.uponIn_defer];have x':dw e ρ {s with ds:={target:=.fn (.func f) cap.toArray,args:=args.toArray}::s.ds} {a with defers:={target:=.fn (.func f) af,args:=ab}::a.defers} w:=
     ⟨x.g,x.t,.cons (.fn (by simpa using k2) (by simpa using k1)) x.d,x.m⟩
    obtain⟨p1,p2⟩:=ng x' h (wk _);exact ae _ _ _ p1 (by rw[p2];exact Fr.refl _ _ _ _)
theorem pK{ops:Array Oper}{s:aE}{o:Oper}{b:Bool}(h:cY ops.toList s o=some b){ρ:ay}{a:Act}{w:World}(x:dw e ρ s a w):Region.wanted o (yielded ops a.tmps)=b:=by
 unfold cY at h;unfold Region.wanted;cases hg:o.guard with
 |none=>simp only[hg,Option.some.injEq]at h;exact h
 |some jw=>
  obtain⟨j,want⟩:=jw;simp only[hg]at h⊢;have hj:ops.toList[j]? =ops[j]? :=by simp
  rw[hj]at h;cases hd:(ops[j]?).bind (·.dst)with
  |none=>simp[hd]at h
  |some d=>
   simp only[hd]at h;cases ht:s.t.get d with
   |none=>simp[ht]at h
   |some v=>
    obtain⟨k1,k2⟩:=x.t.2 d v ht;have aM:d<a.tmps.size:=by rw[x.t.1];exact k1
    have av:a.tmps[d]? =some (a.tmps.getD d undef):=by
     rw[Array.getD_eq_getD_getElem?,Array.getElem?_eq_getElem aM];rfl
    unfold yielded;rw[hd];simp only[Option.bind_some,av];generalize a.tmps.getD d undef=u at k2;simp only[ht]at h;cases v with
    |bool q=>
     have:=k2.pH;subst this;simp only[Option.some.injEq]at h;rw[<-h];cases q<;>cases want<;>rfl
    |tuple vs=>
     obtain⟨aN,rfl,_⟩:=k2.Et;simp only[Option.some.injEq]at h;rw[<-h];rfl
    |_=>cases h
end Go.aw
end
noncomputable section
namespace Go.aw
variable {e:Env}
def bn.to:bn->Exit
 |.normal=>.normal
 |.exit id=>.exit id
 |.ret=>.ret
def EX(e:Env)(f:pC):Prop:=∀ro c s x s',f ro c s=some (x,s')->∀ρ a w aR n Q,dw e ρ s a w->iy ρ ro aR->
 (∀a' w' ae,dw e ae s' a' w'->Fr s.h.next ρ s.h w ae s'.h w'->Q x.to a' w')->c.wpIn (FF aR) n e.P Q a w
theorem MK{P:Program}{b:Frame}{a:Act}{k:List Item}{cs:List Frame}{w:World}{c:Code}:step P (lone (b.atR a (.code (.scope c)::k)) cs w)=.next (lone (b.atR a (.code c::.inScope c::k)) cs w):=
 step_lone_go (by simp[stepG,stepG.exec,Frame.atR])
theorem ML{P:Program}{b:Frame}{a:Act}{k:List Item}{cs:List Frame}{w:World}{c:Code}:step P (lone (b.atR a (.inScope c::k)) cs w)=.next (lone (b.atR a k) cs w):=
 step_lone_go (by simp[stepG,stepG.exec,Frame.atR])
def noGoto(Q:Exit->Act->World->Prop):Exit->Act->World->Prop
 |.goto _,_,_=>False
 |e,a,w=>Q e a w
theorem AH{F:Fence}{n:Nat}{P:Program}{c:Code}{Q:Exit->Act->World->Prop}{a:Act}{w:World}(h:c.wpIn F n P (noGoto Q) a w):(Code.scope c).wpIn F n P Q a w:=by
 intro b k cs aS hb hr;have h0:(lone (b.atR a (.code (.scope c)::k)) cs w).fenced P F:=fenced_calm hb hr rfl;have h1:StepsIn (Machine.fenced P F) P (lone (b.atR a (.code (.scope c)::k)) cs w) (lone (b.atR a (.code c::.inScope c::k)) cs w):=.one h0 MK;obtain⟨e,ai,ao,hq,af⟩:=h b (.inScope c::k) cs aS hb hr;cases e with
 |normal=>exact⟨.normal,ai,ao,hq,StepsIn.trans h1 (StepsIn.trans af (.one (fenced_calm hb hr rfl) ML))⟩
 |exit id=>exact⟨.exit id,ai,ao,hq,λk' hk=>h1.trans (af.1 k' (by simp[exitTo,hk])),λaT hk=>let⟨k₁,q1,q2⟩:=af.2 aT (by simp[exitTo,hk]);⟨k₁,q1,h1.trans q2⟩⟩
 |goto l=>exact hq.elim
 |ret=>exact⟨.ret,ai,ao,hq,ArrivesIn.of_steps (e:=.ret) (k:=k) h1 af⟩
 |panic ch=>exact⟨.panic ch,ai,ao,hq,ArrivesIn.of_steps (e:=.panic ch) (k:=k) h1 af⟩
 |outgrown=>exact⟨.outgrown,ai,ao,hq,ArrivesIn.of_steps (e:=.outgrown) (k:=k) h1 af⟩
def Idle(e:Env):Prop:=∀g,e.idle g=true->∀(args:Array Value) (w:World) (n:Nat),(∃ab,(callFunc g args).run e.P w=.ok (.enter g ab) w/\CallsDIn Fence.wide n e.P g ab .returning w λen u' w'=>(∃v,en=.returned v)/\u'=.returning/\w'=w)
theorem EY:∀(l:List Value) (i:Nat) (t:Tr Value) (j:Nat),(Tr.ofList l i t).get j=if i<=j/\j<i+l.length then l[j-i]? else t.get j
 |[],i,t,j=>by
  simp only[Tr.ofList,List.length_nil,Nat.add_zero];rw[if_neg (by omega)]
 |a::l,i,t,j=>by
  simp only[Tr.ofList,EY l (i+1),Tr.bw,List.length_cons];by_cases h1:i+1<=j/\j<i+1+l.length
  . rw[if_pos h1,if_pos (by omega)];have:j-i=(j-(i+1))+1:=by omega
    rw[this];rfl
  . rw[if_neg h1];by_cases h2:j=i
    . subst h2;rw[if_pos rfl,if_pos (by omega)];simp
    . rw[if_neg h2,if_neg (by omega)]
theorem EZ{ρ:ay}{args:List Value}{ab:Array Value}(h:bJ ρ args ab.toList)(n:Nat):kc ρ (gX args) (args.length+(n-args.length)) (ab++Array.replicate (n-ab.size) undef):=by
 have hl:args.length=ab.size:=by simpa using h.length
 refine⟨by simp;omega,λi v hv=> ?_⟩;rw[gX,EY]at hv
 split at hv
 . rename_i hc;simp only[Nat.sub_zero]at hv;obtain⟨v',h1,h2⟩:=h.get i v hv;refine⟨by omega, ?_⟩;have hi:i<ab.size:=by omega
   have:(ab++Array.replicate (n-ab.size) undef).getD i undef=v':=by
    rw[Array.getD_eq_getD_getElem?,Array.getElem?_append_left hi];have:ab[i]? =some v':=by simpa using h1
    rw[this];rfl
   rw[this];exact h2
 . rw[Tr.get_nil]at hv;cases hv
def sF(tmps:Array Value):ResultVar->Sem Value
 |.tmp t=>pure (tmps.getD t undef)
 |.cell ad t=>do loadVar t (<-asAddr (tmps.getD ad undef))
theorem E0(fn:Func)(tmps:Array Value):results fn tmps=(do
 let vs<-fn.results.mapM (sF tmps)
 pure (if h:vs.size=1 then vs[0]else .tuple vs)):=rfl
theorem AI(he:e.Ok){ρ:ay}{s:aE}{a:Act}{w:World}(x:dw e ρ s a w):∀{rs:List ResultVar} {vs:List Value},iv e s rs=some vs->
 ∃au,(rs.mapM (sF a.tmps)).run e.P w=.ok au w/\bJ ρ vs au
 |[],vs,h=>by
  simp only[iv,Option.some.injEq]at h;subst h;exact⟨[],rfl,.nil⟩
 |r::rs,vs,h=>by
  simp only[iv]at h
  split at h
  . rename_i v aZ h1 h2;cases h;obtain⟨au,g1,g2⟩:=AI he x h2;cases r with
    |tmp t=>
     simp only at h1;exact⟨a.tmps.getD t undef::au,by simp only[List.mapM_cons,sF,Sem.run_bind,Sem.run_pure,Result.andThen_ok,g1],.cons (x.t.2 t v h1).2 g2⟩
    |cell ad t=>
     simp only at h1;cases hb:(s.t.get ad).bind iL with
     |none=>simp[hb]at h1
     |some bb=>
      simp only[hb]at h1;obtain⟨u,k1,k2⟩:=oj hb;have:=wg k2;subst this;obtain⟨pl,q1,q2⟩:=((x.t.2 ad _ k1).2).pI;obtain⟨v',l1,l2⟩:=Ex he x.m q1 h1;have aF:(sF a.tmps (.cell ad t)).run e.P w=.ok v' w:=by simp only[sF,Sem.run_bind,q2,asAddr,Sem.run_pure,Result.andThen_ok,l1]
      exact⟨v'::au,by simp only[List.mapM_cons,Sem.run_bind,aF,Result.andThen_ok,Sem.run_pure,g1],.cons l2 g2⟩
  . cases h
theorem E1(he:e.Ok)(av:Idle e){fn:Func}{tmps:Array Value}{R:Ending->World->Prop}(n:Nat):∀{ds:List Deferred} {h h':aa} {aD:List Deferred} {ρ:ay} {w:World},lu e ds h=some h'->aP (pJ ρ) ds aD->bm ρ h w->
 (∀w',bm ρ h' w'->Fr h.next ρ h w ρ h' w'->∃v,(results fn tmps).run e.P w'=.ok v w'/\R (.returned v) w')->LeavesInM Fence.wide n e.P fn tmps R aD .returning w:=by
 intro ds
 induction ds with
 |nil=>
  intro h h' aD ρ w hl hd x hR;cases hd;simp only[lu,Option.some.injEq]at hl;subst hl;exact hR w x (Fr.refl _ _ _ _)
 |cons d ds ih=>
  intro h h' aD ρ w hl hd x hR;cases hd with
  | @cons _ d' _ bc h1 h2=>
   cases h1 with
   | @mark r pl hp=>
    simp only[lu]at hl;cases ho:h.get r with
    |none=>simp[ho]at hl
    |some o=>
     match o,ho,hl with
     |.fT true,ho,hl=>
      simp only[ho]at hl;obtain⟨pl',g1,g2,g3⟩:=x.obj _ _ ho;rw[hp]at g1;cases g1;have aU:pl.aW<w.heap.size:=(Array.getElem?_eq_some_iff.1 g3).1;obtain⟨k1,k2⟩:=sA (b:=h.next) (o:=.deferred none) (ao':=.fT false) x ho rfl hp rfl ⟨g2,pE _ _ _ aU⟩ rfl;refine⟨by simp,.inl ⟨pl.aW,World.gD w pl.aW (.deferred none),rfl, ?_, ?_⟩⟩
      . have aV:=wi (P:=e.P) g3 (λ_ _ _ h=>by cases h);simp only[Instr.takeDeferred,Sem.run_bind,aV,if_true,Result.andThen_ok,yd _ g3 (λ_ _ _ h=>by cases h),Sem.run_pure]
      . refine ih hl h2 k1 λw' m f=>hR w' m ?_;exact k2.trans (f.mono (Nat.le_refl _))
     |.fT false,ho,hl=>simp[ho]at hl
     |.row _ _ _,ho,hl=>simp[ho]at hl
     |.map _ _,ho,hl=>simp[ho]at hl
     |.cD _ _ _ _,ho,hl=>simp[ho]at hl
     |.e8 _ _,ho,hl=>simp[ho]at hl
     |.loop _ _ _ _ _ _ _ _,ho,hl=>simp[ho]at hl
   | @fn g cap az args ab hc ha=>
    simp only[lu]at hl;obtain⟨hi,hl⟩:=ca hl;obtain⟨aB,q1,q2⟩:=av g hi (ab++az) w (n-1);refine⟨by simp,.inr ⟨λh=>by simp[Fence.wide]at h,.func g,az,g,aB,rfl, ?_,λ_ _=>trivial, ?_⟩⟩
    . simp only[invoke,q1]
    . refine q2.mono ?_;rintro en u' w' ⟨⟨v,rfl⟩,rfl,rfl⟩;exact ih hl h2 x hR
theorem AJ(he:e.Ok)(av:Idle e){f:pC}(hf:EX e f):oq e (qH e f):=by
 intro g args h v h' hc;unfold qH at hc;cases aI:e.fn g with
 |none=>simp[aI]at hc
 |some fn=>
  refine⟨⟨fn,rfl⟩,λρ w ab hg ha x=> ?_⟩;simp only[aI]at hc;cases hb:fn.body with
  |none=>simp[hb]at hc
  |some c=>
   simp only[hb]at hc;cases aJ:f none c {t:=gX args,n:=args.length+(fn.ntmps-args.length),ds:=[],h}with
   |none=>simp[aJ]at hc
   |some r=>
    obtain⟨xt,s⟩:=r;have hl:args.length=ab.size:=by simpa using ha.length
    have aX:dw e ρ {t:=gX args,n:=args.length+(fn.ntmps-args.length),ds:=[],h} {tmps:=ab++Array.replicate (fn.ntmps-ab.size) undef,defers:=[]} w:=
     ⟨hg,EZ ha fn.ntmps,.nil,x⟩
    have out:∀(hc:(match lu e s.ds s.h with
     |none=>none
     |some h=>match iv e {s with h} fn.results.toList with
      |some [v]=>some (v,h)
      |some vs=>some (.tuple vs.toArray,h)
      |none=>none)=some (v,h')),∀a' w' ae,dw e ae s a' w'->Fr h.next ρ h w ae s.h w'->
     LeavesInM Fence.wide 0 e.P fn a'.tmps (λen w'=>∃v' ae,en=.returned v'/\aK ae v v'/\bm ae h' w'/\Fr h.next ρ h w ae h' w') a'.defers .returning w':=by
     intro hc a' w' ae x' f';cases aL:lu e s.ds s.h with
     |none=>simp[aL]at hc
     |some h2=>
      simp only[aL]at hc;refine E1 he av 0 aL x'.d x'.m λw2 m2 f2=> ?_;have x2:dw e ae {s with h:=h2} a' w2:=⟨x'.g,x'.t,x'.d,m2⟩;cases aN:iv e {s with h:=h2} fn.results.toList with
      |none=>simp[aN]at hc
      |some vs=>
       simp only[aN]at hc;obtain⟨au,q1,q2⟩:=AI he x2 aN;have hm:(fn.results.mapM (sF a'.tmps)).run e.P w2=.ok au.toArray w2:=by
        rw[Array.mapM_eq_mapM_toList,Sem.run_map,q1];rfl
       have aO:Fr h.next ρ h w ae h2 w2:=f'.trans (f2.mono f'.next);have aQ:(results fn a'.tmps).run e.P w2=.ok (if h:au.toArray.size=1 then au.toArray[0]else .tuple au.toArray) w2:=by
        rw[E0,Sem.run_bind,hm];rfl
       refine⟨_,aQ,_,ae,rfl, ?_, ?_, ?_⟩
       . match vs,au,q2,hc with
         |[u],[u'],.cons hu _,hc=>
          cases hc;simpa using hu
         |[],[],_,hc=>
          cases hc;exact aK.kL.2 .nil
         |_::_::_,_::_::_,q2,hc=>
          cases hc;rw[dif_neg (by simp)];exact aK.kL.2 (by simpa using q2)
       . have:h'=h2:=by split at hc<;>cases hc<;>rfl
         rw[this];exact m2
       . have:h'=h2:=by split at hc<;>cases hc<;>rfl
         rw[this];exact aO
    simp only[aJ]at hc;rw[<-callsIn_wide (n:=0)];refine callsIn_of_wp_marks (he.fn g fn aI).1 hb trivial ?_;have aY:=hf none c _ xt s aJ ρ _ w none 0 (bodyPostM Fence.wide 0 e.P fn λen w'=>∃v' ae,en=.returned v'/\aK ae v v'/\bm ae h' w'/\Fr h.next ρ h w ae h' w') aX .none;refine aY λa' w' ae x' f'=> ?_;cases xt with
    |normal=>exact out hc a' w' ae x' f'
    |ret=>exact out hc a' w' ae x' f'
    |exit id=>cases hc
structure sG(w w':World):Prop where
 os:w'.os=w.os
 output:w'.output=w.output
 size:w.heap.size<=w'.heap.size
 frozen:∀a,a.block<w.heap.size->w'.frozen? a=w.frozen? a
 heap:∀k,k<w.heap.size->w'.heap[k]? =w.heap[k]?
end Go.aw
end
noncomputable section
namespace Go.aw
variable {e:Env}
end Go.aw
end
noncomputable section
namespace Go.aw
open Go.ChangeShapes Go.WideShapes Go.ChangeAt Go.RowKit
theorem sG.same{W w':World}(h:sG W w'){p:MemPlace}(hp:p.block<W.heap.size):W.sameAt w' p:=by
 cases p with
 |cell b o=>exact World.cell?_of_block (w:=W) (h.heap b hp)
 |map b=>exact h.heap b hp
theorem sG.frame{W w':World}(h:sG W w')(may:MemPlace->Prop):W.keptBut w' may:=by
 refine⟨h.os,h.output,λi hi=> ?_⟩;rw[h.heap i hi]
 split<;>simp_all
section
variable {H:Type} {enc:TypeId×Value->H} {P:Program}
theorem K8(hl:laidOutB P=true){W W':World}(hk:sG W W'){sp:Nat->Bool}:∀{ts:List TypeId} {vs:List Value} {ds:List (DataW H)} {ps:List MemPlace},(∀t∈ts,P.readableRec t=true/\t<P.types.size)->
 DataW.TrodAll enc P W 0 (λ_=>true) true ts vs ds ps->(∀x∈ps,x.block<W.heap.size)->(∀x∈ps,sp x.block=true)->DataW.TrodAll enc P W' 0 sp true ts vs ds ps
 |[],[],[],_,_,h,_,_=>h
 |[],[],_::_,_,_,h,_,_=>h.elim
 |[],_::_,_,_,_,h,_,_=>by cases h
 |_::_,[],_,_,_,h,_,_=>by cases h
 |_::_,_::_,[],_,_,h,_,_=>by cases h
 |t::ts,v::vs,d::ds,ps,hT,⟨p,q,h1,h2,e⟩,ad,af=>by
  have ht:=hT t (List.mem_cons_self ..);refine⟨p,q,WideElems.Trod_stays hl ht.1 ht.2 h1 (λx hx=>hk.same (ad x (by rw[e];simp[hx]))) (λx hx=>af x (by rw[e];simp[hx])), ?_,e⟩;exact K8 hl hk (λu hu=>hT u (List.mem_cons_of_mem _ hu)) h2 (λx hx=>ad x (by rw[e];simp[hx])) (λx hx=>af x (by rw[e];simp[hx]))
theorem af7{f:Func}{s:ChangeSpec}{apart fresh handsOn again:Bool}{W W':World}{args:Array Value}{ds gs:List (DataW H)}{before:List MemPlace}{tb:TypeId}
 (hW:DataW.Whole enc P f.params.toList s.vars apart W args.toList ds gs before) (aa:s.vars=[])
 (hr:(s.fn H (ds++gs)).results=[.lit (.bool true)]) (ha:(s.fn H (ds++gs)).args=ds) (hv:(s.fn H (ds++gs)).vars=[])
 (hl:laidOutB P=true) (hT:∀t∈f.params.toList,P.readableRec t=true/\t<P.types.size) (ae:f.resultTypes=#[tb]) (hb:P.underlying tb=some .bool) (hk:sG W W'):
 s.post enc P f apart fresh handsOn again W args (.bool true) W':=by
 have ai:=hW;obtain⟨p,q,hA,hV,e,ay,az⟩:=hW;rw[aa]at hV;obtain⟨rfl,rfl⟩:=trodVars_none hV;rw[List.append_nil]at e;subst e;have ad:∀x∈before,x.block<W.heap.size:=λx hx=>ai.lt x hx;have ab:∀sp:Nat->Bool,(∀x∈before,sp x.block=true)->DataW.TrodAll enc P W' 0 sp true f.params.toList args.toList (s.fn H (ds++[])).args before:=λsp af=>by
  rw[ha];exact K8 hl hk hT hA ad af
 have ao:∀sp:Nat->Bool,DataW.TrodVars enc P W' sp s.vars (s.fn H (ds++[])).vars []:=λsp=>by
  rw[hv,aa];rfl
 have au:∀(b:Nat) (sp:Nat->Bool) (hd:Bool),DataW.TrodAll enc P W' b sp hd f.resultTypes.toList (Value.resultList f.resultTypes.size (.bool true)) (s.fn H (ds++[])).results []:=λb sp hd=>by
  rw[hr,ae];exact trodAll_cons_mk (shut_bool hb _) trodAll_mk0
 have aB:∀x∈before,(λb=>decide (b<W.heap.size)) x.block=true:=λx hx=>by simpa using ad x hx
 refine⟨ds,[],before,[],before,[],ai,au _ _ _,ab _ aB,ao _,hk.frame _,λ_=>⟨ok_one ae rfl (okWide_bool_mk hb _),_,_,[]++before++[],
  ⟨[]++before,[],trodAll_append (ab _ (λ_ _=>rfl)) (au _ _ _),ao _,rfl,λb off hp=> ?_,λhd=> ?_⟩,λx hx _=>by simpa using hx⟩⟩
 . have av:MemPlace.cell b off∈before:=by simpa using hp
   exact(hk.frozen _ (ad _ av)).trans (ay b off (by simpa using av))
 . simpa using az hd
end
end Go.aw
end

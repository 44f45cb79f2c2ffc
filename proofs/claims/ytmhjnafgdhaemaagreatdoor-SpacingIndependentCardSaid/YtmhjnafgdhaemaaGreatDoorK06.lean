/- SpacingIndependent: parts of its proof. -/
import Derived.RangeFuncLeaves
import Derived.LoopNIn
import Derived.OrdersIn
import Derived.Carry
import Derived.ProofKit
import Derived.OpenShut
import Derived.ChangeSame
import Derived.Deep.DeepHandedRow
import Derived.Test.YtmhjnafgdhaemaaGreatDoorK05
open Option.some renaming injEq->qe
open List renaming mem_cons_self->xS,length_cons->GP,mem_cons_of_mem->PO,getD_eq_getElem?_getD->PX,reverse_cons->W2,getElem?_cons_zero->W9,all_eq_true->Zj,mapM_cons->Z4,getElem?_append_left->abR,mem_filter->adS,filter_cons->adU
open Nat renaming blt->DE,le_of_ble_eq_true->TF,eq_of_beq_eq_true->ab8,ble_eq_true_of_le->adr
open Array renaming getD_eq_getD_getElem?->Er,replicate->VK,getElem?_setIfInBounds->ZJ
open Bool renaming or_eq_true->Qc,and_eq_true->Xw,not_true->Zr
open Option renaming getD_some->ZL
open Prod.mk renaming injEq->adT
set_option linter.all false
set_option maxRecDepth 100000
noncomputable section
namespace Go.au
variable {e:Env}
def FF(ro:Option Nat):Fence:={Fence.wide with round:=ro}
theorem zd(ro:Option Nat)(n:Nat):(FF ro).depth.isSome=true->1<=n:=λh=>by simp[FF,Fence.wide]at h
theorem Dy{ro:Option Nat}{n:Nat}{P:Program}{f:FuncId}{args:Array Value}{w:World}{R:Ending->World->Prop}(h:Calls P f args w R):CallsIn (FF ro) n P f args w R:=by
 have:=callsIn_wide (n:=n).2 h;exact this
inductive ot(ρ:aA):Deferred->Deferred->Prop
 |fn {g:FuncId} {cap af args ab:Array Value}:bE ρ cap.toList af.toList->bE ρ args.toList ab.toList->ot ρ {target:=.fn (.func g) cap,args} {target:=.fn (.func g) af,args:=ab}
 |mark {r:Nat} {pl:Pl}:ρ r=some pl->ot ρ {target:=.collected r,args:=#[]} {target:=.collected pl.aV,args:=#[]}
theorem ot.mono{ρ ad:aA}(hx:Ext ρ ad){d d':Deferred}(h:ot ρ d d'):ot ad d d':=by
 cases h with
 |fn h1 h2=>exact .fn (h1.mono hx) (h2.mono hx)
 |mark h=>exact .mark (hx _ _ h)
structure cX(e:Env)(ρ:aA)(s:aE)(a:Act)(w:World):Prop where
 g:Gl e ρ
 t:jC ρ s.t s.n a.tmps
 d:aO (ot ρ) s.ds a.defers
 m:bh ρ s.h w
inductive gN(ρ:aA):Option Nat->Option Nat->Prop
 |none:gN ρ none none
 |some {l:Nat} {pl:Pl}:ρ l=some pl->gN ρ (some l) (some pl.aV)
theorem gN.mono{ρ ad:aA}(hx:Ext ρ ad){a b:Option Nat}(h:gN ρ a b):gN ad a b:=by
 cases h with
 |none=>exact .none
 |some h=>exact .some (hx _ _ h)
def ng(e:Env)(cf:eE):Prop:=∀f args h v h',cf f args h=some (v,h')->(∃fn,e.fn f=some fn)/\∀ρ w (ab:Array Value),Gl e ρ->bE ρ args ab.toList->bh ρ h w->
 Calls e.P f ab w λen w'=>∃v' ad,en=.returned v'/\aJ ad v v'/\bh ad h' w'/\Fr h.next ρ h w ad h' w'
def uq(e:Env)(rf:gk):Prop:=∀l args h v h',rf l args h=some (v,h')->∀ρ w (ab:Array Value) pl,Gl e ρ->ρ l=some pl->bE ρ args ab.toList->bh ρ h w->
 ∃fn tmps assign body,(Instr.yield pl.aV ab).run e.P w=.ok (.round pl.aV fn tmps assign body) w/\
  ∀ro n,RoundIn (FF ro) n e.P pl.aV fn tmps assign body w λen w'=>∃v' ad,en=.returned v'/\aJ ad v v'/\bh ad h' w'/\Fr h.next ρ h w ad h' w'
theorem jC.set{ρ:aA}{t:Tr Value}{n:Nat}{a:Array Value}(h:jC ρ t n a){d:Nat}(hd:d<n){v v':Value}(hv:aJ ρ v v'):jC ρ (t.set d (some v)) n (a.setIfInBounds d v'):=by
 refine⟨by simpa using h.1,λi u hu=> ?_⟩;rw[Tr.bn]at hu;by_cases hi:i=d
 . rw[if_pos hi]at hu;cases hu;subst hi;refine⟨hd, ?_⟩;have:i<a.size:=by rw[h.1];exact hd
   simp only[Er,ZJ,if_true,this,ZL];exact hv
 . rw[if_neg hi]at hu;obtain⟨h1,h2⟩:=h.2 i u hu;refine⟨h1, ?_⟩;simp only[Er,ZJ,Ne.symm hi,if_false]at h2⊢;exact h2
theorem mh{ρ:aA}{s s':aE}{a:Act}{w:World}(x:cX e ρ s a w){dst:Option Tmp}{v v':Value}(hp:eZ s dst v=some s')(hv:aJ ρ v v'):cX e ρ s' (a.put dst v') w/\s'.h=s.h:=by
 cases dst with
 |none=>
  simp only[qD,qe]at hp;subst hp;exact⟨x,rfl⟩
 |some d=>
  simp only[qD]at hp;obtain⟨hb,hp⟩:=bU hp;cases hp;exact⟨⟨x.g,x.t.set (TF hb) hv,x.d,x.m⟩,rfl⟩
theorem ur(ρ:aA):aJ ρ undef undef:=aJ.j0.2 .nil
theorem cX.with{ρ ad:aA}{s:aE}{a:Act}{w w':World}{h':aa}{b:Nat}(x:cX e ρ s a w)(m:bh ad h' w')(f:Fr b ρ s.h w ad h' w'):cX e ad {s with h:=h'} a w':=
 ⟨x.g.mono f.ext,x.t.mono f.ext,x.d.mono λ_ _=>ot.mono f.ext,m⟩
theorem Lu{h:aa}{t:Tr Value}{c:Call}{r:AR}(hr:aK e h t (.defer c)=some r):∃f args cap h',r=.defer f args cap h':=by
 simp only[aK]at hr
 split at hr
 . split at hr
   . cases hr;exact⟨_,_,_,_,rfl⟩
   . cases hr
 . cases hr
theorem uu(he:e.Ok){cf:eE}{rf:gk}(az:ng e cf)(aB:uq e rf){ro av:Option Nat}{o:Oper}{s s':aE}(h:ma e cf rf ro o s=some s'){ρ:aA}{a:Act}{w:World}(x:cX e ρ s a w)
 (aC:gN ρ ro av) (n:Nat) {next:Act->World->Prop} {Q:Exit->Act->World->Prop} (ae:∀a' w' ad,cX e ad s' a' w'->Fr s.h.next ρ s.h w ad s'.h w'->next a' w'):
 o.wpIn (FF av) n e.P a w next Q:=by
 rw[wi]at h;cases hr:aK e s.h s.t o.op with
 |none=>simp[hr]at h
 |some r=>
  have key:=Dx he (ds:=a.defers) x.g x.t x.m hr;have ha:(Act.mk a.tmps a.defers)=a:=rfl;rw[ha]at key;have ai:(∀f args cap h',r≠.defer f args cap h')->Oper.semAt (FF av).round a.eval o=execOp a.eval o:=λaD=>by
   refine Oper.semAt_eq _ _ _ λc hc=> ?_;rw[hc]at hr;obtain⟨f,args,cap,h',aF⟩:=Lu hr;exact aD f args cap h' aF
  simp only[hr]at h;refine⟨λf _=>trivial, ?_⟩;cases r with
  |val v h1=>
   obtain⟨v',w',ad,k1,k2,k3,k4⟩:=key;rw[ai (λ_ _ _ _ h=>by cases h),k1,Oper.uponIn_value];obtain⟨p1,p2⟩:=mh (x.with k3 k4) h k2;exact ae _ _ _ p1 (by rw[p2];exact k4)
  |skip h1=>
   obtain⟨w',ad,k1,k3,k4⟩:=key;rw[ai (λ_ _ _ _ h=>by cases h),k1,Oper.uponIn_skip];obtain⟨p1,p2⟩:=mh (x.with k3 k4) h (ur _);exact ae _ _ _ p1 (by rw[p2];exact k4)
  |enter f args h1=>
   obtain⟨rfl,ab,k1,k2⟩:=key;simp only at h;cases hc:cf f args s.h with
   |none=>simp[hc]at h
   |some r2=>
    obtain⟨v,h2⟩:=r2;simp only[hc]at h;obtain⟨⟨fn,aI⟩,ao⟩:=az f args s.h v h2 hc;rw[ai (λ_ _ _ _ h=>by cases h),k2 fn aI,Oper.uponIn_enter];refine⟨zd _ _,Dy ((ao ρ w ab x.g k1 x.m).mono ?_)⟩;rintro en w' ⟨v',ad,rfl,q1,q2,q3⟩;obtain⟨p1,p2⟩:=mh (x.with q2 q3) h q1;exact ae _ _ _ p1 (by rw[p2];exact q3)
  |round l args h1=>
   obtain⟨rfl,pl,ab,hp,k1,k2⟩:=key;simp only at h;cases hc:rf l args s.h with
   |none=>simp[hc]at h
   |some r2=>
    obtain⟨v,h2⟩:=r2;simp only[hc]at h;obtain⟨fn,tmps,assign,body,g1,g2⟩:=aB l args s.h v h2 hc ρ w ab pl x.g hp k1 x.m;rw[ai (λ_ _ _ _ h=>by cases h),k2,g1,Oper.uponIn_round];refine⟨zd _ _,(g2 av (n-1)).mono ?_⟩;rintro en w' ⟨v',ad,rfl,q1,q2,q3⟩;obtain⟨p1,p2⟩:=mh (x.with q2 q3) h q1;exact ae _ _ _ p1 (by rw[p2];exact q3)
  |defer f args cap h1=>
   obtain⟨rfl,ab,af,k1,k2,k3⟩:=key;cases aC with
   |some _=>simp at h
   |none=>
    simp only at h;have:Oper.semAt (FF none).round a.eval o=execOp a.eval o:=Oper.semAt_none _ _;rw[this,k3,Oper.uponIn_defer];have x':cX e ρ {s with ds:={target:=.fn (.func f) cap.toArray,args:=args.toArray}::s.ds} {a with defers:={target:=.fn (.func f) af,args:=ab}::a.defers} w:=
     ⟨x.g,x.t,.cons (.fn (by simpa using k2) (by simpa using k1)) x.d,x.m⟩
    obtain⟨p1,p2⟩:=mh x' h (ur _);exact ae _ _ _ p1 (by rw[p2];exact Fr.refl _ _ _ _)
theorem ou{ops:Array Oper}{s:aE}{o:Oper}{b:Bool}(h:cH ops.toList s o=some b){ρ:aA}{a:Act}{w:World}(x:cX e ρ s a w):Region.wanted o (yielded ops a.tmps)=b:=by
 unfold cH at h;unfold Region.wanted;cases hg:o.guard with
 |none=>simp only[hg,qe]at h;exact h
 |some jw=>
  obtain⟨j,want⟩:=jw;simp only[hg]at h⊢;have hj:ops.toList[j]? =ops[j]? :=by simp
  rw[hj]at h;cases hd:(ops[j]?).bind (·.dst)with
  |none=>simp[hd]at h
  |some d=>
   simp only[hd]at h;cases ht:s.t.get d with
   |none=>simp[ht]at h
   |some v=>
    obtain⟨k1,k2⟩:=x.t.2 d v ht;have aL:d<a.tmps.size:=by rw[x.t.1];exact k1
    have aw:a.tmps[d]? =some (a.tmps.getD d undef):=by
     rw[Er,Array.getElem?_eq_getElem aL];rfl
    unfold yielded;rw[hd];simp only[Option.bind_some,aw];generalize a.tmps.getD d undef=u at k2;simp only[ht]at h;cases v with
    |bool q=>
     have:=k2.oo;subst this;simp only[qe]at h;rw[<-h];cases q<;>cases want<;>rfl
    |tuple vs=>
     obtain⟨aM,rfl,_⟩:=k2.C5;simp only[qe]at h;rw[<-h];rfl
    |_=>cases h
end Go.au
end
noncomputable section
namespace Go.au
variable {e:Env}
def bk.to:bk->Exit
 |.normal=>.normal
 |.exit id=>.exit id
 |.ret=>.ret
def Dz(e:Env)(f:oe):Prop:=∀ro c s x s',f ro c s=some (x,s')->∀ρ a w aP n Q,cX e ρ s a w->gN ρ ro aP->
 (∀a' w' ae,cX e ae s' a' w'->Fr s.h.next ρ s.h w ae s'.h w'->Q x.to a' w')->c.wpIn (FF aP) n e.P Q a w
theorem Lv{P:Program}{b:Frame}{a:Act}{k:List Item}{cs:List Frame}{w:World}{c:Code}:step P (lone (b.atR a (.code (.scope c)::k)) cs w)=.next (lone (b.atR a (.code c::.inScope c::k)) cs w):=
 step_lone_go (by simp[stepG,stepG.exec,Frame.atR])
theorem Lw{P:Program}{b:Frame}{a:Act}{k:List Item}{cs:List Frame}{w:World}{c:Code}:step P (lone (b.atR a (.inScope c::k)) cs w)=.next (lone (b.atR a k) cs w):=
 step_lone_go (by simp[stepG,stepG.exec,Frame.atR])
def noGoto(Q:Exit->Act->World->Prop):Exit->Act->World->Prop
 |.goto _,_,_=>False
 |e,a,w=>Q e a w
theorem ze{F:Fence}{n:Nat}{P:Program}{c:Code}{Q:Exit->Act->World->Prop}{a:Act}{w:World}(h:c.wpIn F n P (noGoto Q) a w):(Code.scope c).wpIn F n P Q a w:=by
 intro b k cs aQ hb hr;have h0:(lone (b.atR a (.code (.scope c)::k)) cs w).fenced P F:=fenced_calm hb hr rfl;have h1:StepsIn (Machine.fenced P F) P (lone (b.atR a (.code (.scope c)::k)) cs w) (lone (b.atR a (.code c::.inScope c::k)) cs w):=.one h0 Lv;obtain⟨e,ai,ao,hq,af⟩:=h b (.inScope c::k) cs aQ hb hr;cases e with
 |normal=>exact⟨.normal,ai,ao,hq,StepsIn.trans h1 (StepsIn.trans af (.one (fenced_calm hb hr rfl) Lw))⟩
 |exit id=>exact⟨.exit id,ai,ao,hq,λk' hk=>h1.trans (af.1 k' (by simp[exitTo,hk])),λaR hk=>let⟨k₁,q1,q2⟩:=af.2 aR (by simp[exitTo,hk]);⟨k₁,q1,h1.trans q2⟩⟩
 |goto l=>exact hq.elim
 |ret=>exact⟨.ret,ai,ao,hq,ArrivesIn.of_steps (e:=.ret) (k:=k) h1 af⟩
 |panic ch=>exact⟨.panic ch,ai,ao,hq,ArrivesIn.of_steps (e:=.panic ch) (k:=k) h1 af⟩
 |outgrown=>exact⟨.outgrown,ai,ao,hq,ArrivesIn.of_steps (e:=.outgrown) (k:=k) h1 af⟩
def Idle(e:Env):Prop:=∀g,e.idle g=true->∀(args:Array Value) (w:World) (n:Nat),(∃ab,(callFunc g args).run e.P w=.ok (.enter g ab) w/\CallsDIn Fence.wide n e.P g ab .returning w λen u' w'=>(∃v,en=.returned v)/\u'=.returning/\w'=w)
theorem DA:∀(l:List Value) (i:Nat) (t:Tr Value) (j:Nat),(Tr.ofList l i t).get j=if i<=j/\j<i+l.length then l[j-i]? else t.get j
 |[],i,t,j=>by
  simp only[Tr.ofList,List.length_nil,Nat.add_zero];rw[if_neg (by omega)]
 |a::l,i,t,j=>by
  simp only[Tr.ofList,DA l (i+1),Tr.bn,GP];by_cases h1:i+1<=j/\j<i+1+l.length
  . rw[if_pos h1,if_pos (by omega)];have:j-i=(j-(i+1))+1:=by omega
    rw[this];rfl
  . rw[if_neg h1];by_cases h2:j=i
    . subst h2;rw[if_pos rfl,if_pos (by omega)];simp
    . rw[if_neg h2,if_neg (by omega)]
theorem DB{ρ:aA}{args:List Value}{ab:Array Value}(h:bE ρ args ab.toList)(n:Nat):jC ρ (gl args) (args.length+(n-args.length)) (ab++VK (n-ab.size) undef):=by
 have hl:args.length=ab.size:=by simpa using h.length
 refine⟨by simp;omega,λi v hv=> ?_⟩;rw[gl,DA]at hv
 split at hv
 . rename_i hc;simp only[Nat.sub_zero]at hv;obtain⟨v',h1,h2⟩:=h.get i v hv;refine⟨by omega, ?_⟩;have hi:i<ab.size:=by omega
   have:(ab++VK (n-ab.size) undef).getD i undef=v':=by
    rw[Er,Array.getElem?_append_left hi];have:ab[i]? =some v':=by simpa using h1
    rw[this];rfl
   rw[this];exact h2
 . rw[Tr.get_nil]at hv;cases hv
def qS(tmps:Array Value):ResultVar->Sem Value
 |.tmp t=>pure (tmps.getD t undef)
 |.cell ad t=>do loadVar t (<-asAddr (tmps.getD ad undef))
theorem DC(fn:Func)(tmps:Array Value):results fn tmps=(do
 let vs<-fn.results.mapM (qS tmps)
 pure (if h:vs.size=1 then vs[0]else .tuple vs)):=rfl
theorem zf(he:e.Ok){ρ:aA}{s:aE}{a:Act}{w:World}(x:cX e ρ s a w):∀{rs:List ResultVar} {vs:List Value},gL e s rs=some vs->
 ∃av,(rs.mapM (qS a.tmps)).run e.P w=.ok av w/\bE ρ vs av
 |[],vs,h=>by
  simp only[gL,qe]at h;subst h;exact⟨[],rfl,.nil⟩
 |r::rs,vs,h=>by
  simp only[gL]at h
  split at h
  . rename_i v aX h1 h2;cases h;obtain⟨av,g1,g2⟩:=zf he x h2;cases r with
    |tmp t=>
     simp only at h1;exact⟨a.tmps.getD t undef::av,by simp only[Z4,qS,Sem.run_bind,Sem.run_pure,Result.andThen_ok,g1],.cons (x.t.2 t v h1).2 g2⟩
    |cell ad t=>
     simp only at h1;cases hb:(s.t.get ad).bind gX with
     |none=>simp[hb]at h1
     |some aZ=>
      simp only[hb]at h1;obtain⟨u,k1,k2⟩:=nc hb;have:=uj k2;subst this;obtain⟨pl,q1,q2⟩:=((x.t.2 ad _ k1).2).oq;obtain⟨v',l1,l2⟩:=C9 he x.m q1 h1;have aD:(qS a.tmps (.cell ad t)).run e.P w=.ok v' w:=by simp only[qS,Sem.run_bind,q2,asAddr,Sem.run_pure,Result.andThen_ok,l1]
      exact⟨v'::av,by simp only[Z4,Sem.run_bind,aD,Result.andThen_ok,Sem.run_pure,g1],.cons l2 g2⟩
  . cases h
theorem DD(he:e.Ok)(aw:Idle e){fn:Func}{tmps:Array Value}{R:Ending->World->Prop}(n:Nat):∀{ds:List Deferred} {h h':aa} {aC:List Deferred} {ρ:aA} {w:World},kD e ds h=some h'->aO (ot ρ) ds aC->bh ρ h w->
 (∀w',bh ρ h' w'->Fr h.next ρ h w ρ h' w'->∃v,(results fn tmps).run e.P w'=.ok v w'/\R (.returned v) w')->LeavesInM Fence.wide n e.P fn tmps R aC .returning w:=by
 intro ds
 induction ds with
 |nil=>
  intro h h' aC ρ w hl hd x hR;cases hd;simp only[kD,qe]at hl;subst hl;exact hR w x (Fr.refl _ _ _ _)
 |cons d ds ih=>
  intro h h' aC ρ w hl hd x hR;cases hd with
  | @cons _ d' _ bb h1 h2=>
   cases h1 with
   | @mark r pl hp=>
    simp only[kD]at hl;cases ho:h.get r with
    |none=>simp[ho]at hl
    |some o=>
     match o,ho,hl with
     |.fj true,ho,hl=>
      simp only[ho]at hl;obtain⟨pl',g1,g2,g3⟩:=x.obj _ _ ho;rw[hp]at g1;cases g1;have aS:pl.aV<w.heap.size:=(Array.getElem?_eq_some_iff.1 g3).1;obtain⟨k1,k2⟩:=qN (b:=h.next) (o:=.deferred none) (ao':=.fj false) x ho rfl hp rfl ⟨g2,oh _ _ _ aS⟩ rfl;refine⟨by simp,.inl ⟨pl.aV,World.fO w pl.aV (.deferred none),rfl, ?_, ?_⟩⟩
      . have aT:=um (P:=e.P) g3 (λ_ _ _ h=>by cases h);simp only[Instr.takeDeferred,Sem.run_bind,aT,if_true,Result.andThen_ok,wy _ g3 (λ_ _ _ h=>by cases h),Sem.run_pure]
      . refine ih hl h2 k1 λw' m f=>hR w' m ?_;exact k2.trans (f.mono (Nat.le_refl _))
     |.fj false,ho,hl=>simp[ho]at hl
     |.row _ _ _,ho,hl=>simp[ho]at hl
     |.map _ _,ho,hl=>simp[ho]at hl
     |.cj _ _ _ _,ho,hl=>simp[ho]at hl
     |.eC _ _,ho,hl=>simp[ho]at hl
     |.loop _ _ _ _ _ _ _ _,ho,hl=>simp[ho]at hl
   | @fn g cap az args ab hc ha=>
    simp only[kD]at hl;obtain⟨hi,hl⟩:=bU hl;obtain⟨aB,q1,q2⟩:=aw g hi (ab++az) w (n-1);refine⟨by simp,.inr ⟨λh=>by simp[Fence.wide]at h,.func g,az,g,aB,rfl, ?_,λ_ _=>trivial, ?_⟩⟩
    . simp only[invoke,q1]
    . refine q2.mono ?_;rintro en u' w' ⟨⟨v,rfl⟩,rfl,rfl⟩;exact ih hl h2 x hR
theorem zg(he:e.Ok)(aw:Idle e){f:oe}(hf:Dz e f):ng e (pC e f):=by
 intro g args h v h' hc;unfold pC at hc;cases aF:e.fn g with
 |none=>simp[aF]at hc
 |some fn=>
  refine⟨⟨fn,rfl⟩,λρ w ab hg ha x=> ?_⟩;simp only[aF]at hc;cases hb:fn.body with
  |none=>simp[hb]at hc
  |some c=>
   simp only[hb]at hc;cases aI:f none c {t:=gl args,n:=args.length+(fn.ntmps-args.length),ds:=[],h}with
   |none=>simp[aI]at hc
   |some r=>
    obtain⟨xt,s⟩:=r;have hl:args.length=ab.size:=by simpa using ha.length
    have aU:cX e ρ {t:=gl args,n:=args.length+(fn.ntmps-args.length),ds:=[],h} {tmps:=ab++VK (fn.ntmps-ab.size) undef,defers:=[]} w:=
     ⟨hg,DB ha fn.ntmps,.nil,x⟩
    have out:∀(hc:(match kD e s.ds s.h with
     |none=>none
     |some h=>match gL e {s with h} fn.results.toList with
      |some [v]=>some (v,h)
      |some vs=>some (.tuple vs.toArray,h)
      |none=>none)=some (v,h')),∀a' w' ae,cX e ae s a' w'->Fr h.next ρ h w ae s.h w'->
     LeavesInM Fence.wide 0 e.P fn a'.tmps (λen w'=>∃v' ae,en=.returned v'/\aJ ae v v'/\bh ae h' w'/\Fr h.next ρ h w ae h' w') a'.defers .returning w':=by
     intro hc a' w' ae x' f';cases aK:kD e s.ds s.h with
     |none=>simp[aK]at hc
     |some h2=>
      simp only[aK]at hc;refine DD he aw 0 aK x'.d x'.m λw2 m2 f2=> ?_;have x2:cX e ae {s with h:=h2} a' w2:=⟨x'.g,x'.t,x'.d,m2⟩;cases aL:gL e {s with h:=h2} fn.results.toList with
      |none=>simp[aL]at hc
      |some vs=>
       simp only[aL]at hc;obtain⟨av,q1,q2⟩:=zf he x2 aL;have hm:(fn.results.mapM (qS a'.tmps)).run e.P w2=.ok av.toArray w2:=by
        rw[Array.mapM_eq_mapM_toList,Sem.run_map,q1];rfl
       have aM:Fr h.next ρ h w ae h2 w2:=f'.trans (f2.mono f'.next);have aN:(results fn a'.tmps).run e.P w2=.ok (if h:av.toArray.size=1 then av.toArray[0]else .tuple av.toArray) w2:=by
        rw[DC,Sem.run_bind,hm];rfl
       refine⟨_,aN,_,ae,rfl, ?_, ?_, ?_⟩
       . match vs,av,q2,hc with
         |[u],[u'],.cons hu _,hc=>
          cases hc;simpa using hu
         |[],[],_,hc=>
          cases hc;exact aJ.j0.2 .nil
         |_::_::_,_::_::_,q2,hc=>
          cases hc;rw[dif_neg (by simp)];exact aJ.j0.2 (by simpa using q2)
       . have:h'=h2:=by split at hc<;>cases hc<;>rfl
         rw[this];exact m2
       . have:h'=h2:=by split at hc<;>cases hc<;>rfl
         rw[this];exact aM
    simp only[aI]at hc;rw[<-callsIn_wide (n:=0)];refine callsIn_of_wp_marks (he.fn g fn aF).1 hb trivial ?_;have aW:=hf none c _ xt s aI ρ _ w none 0 (bodyPostM Fence.wide 0 e.P fn λen w'=>∃v' ae,en=.returned v'/\aJ ae v v'/\bh ae h' w'/\Fr h.next ρ h w ae h' w') aU .none;refine aW λa' w' ae x' f'=> ?_;cases xt with
    |normal=>exact out hc a' w' ae x' f'
    |ret=>exact out hc a' w' ae x' f'
    |exit id=>cases hc
structure qT(w w':World):Prop where
 os:w'.os=w.os
 output:w'.output=w.output
 size:w.heap.size<=w'.heap.size
 frozen:∀a,a.block<w.heap.size->w'.frozen? a=w.frozen? a
 heap:∀k,k<w.heap.size->w'.heap[k]? =w.heap[k]?
end Go.au
end
noncomputable section
namespace Go.au
variable {e:Env}
def Same(t t':Tr Value)(xs:List Operand):Prop:=∀d,Operand.tmp d∈xs->t.get d=t'.get d
theorem Same.sub{t t':Tr Value}{xs ys:List Operand}(h:Same t t' ys)(hs:∀x∈xs,x∈ys):Same t t' xs:=λd hd=>h d (hs _ hd)
theorem sB{t t':Tr Value}{o:Operand}{xs:List Operand}(h:Same t t' xs)(ho:o∈xs):aw e t o=aw e t' o:=by
 cases o with
 |tmp i=>exact h i ho
 |_=>rfl
theorem uv{t t':Tr Value}:∀{xs:List Operand},Same t t' xs->cR e t xs=cR e t' xs
 |[],_=>rfl
 |o::r,h=>by
  simp only[cR,sB (e:=e) h (xS ..),uv (xs:=r) (h.sub λx hx=>PO _ hx)]
theorem zh{t t':Tr Value}:∀{xs:List (Nat×Operand)},Same t t' (xs.map (·.2))->eY e t xs=eY e t' xs
 |[],_=>rfl
 |(i,o)::r,h=>by
  have h1:Same t t' (o::r.map (·.2)):=h;simp only[eY,sB (e:=e) h1 (xS ..),zh (xs:=r) (h1.sub λx hx=>PO _ hx)]
theorem DF{t t':Tr Value}{op:Op}(h:Same t t' op.operands.toList):cF e t op=cF e t' op:=by
 cases op with
 |box ty x=>simp only[cF,sB (e:=e) h (o:=x) (by simp[Op.operands])]
 |buildSlice st len parts=>
  have:Same t t' (parts.toList.map (·.2)):=h.sub λx hx=>by simpa[Op.operands]using hx
  simp only[cF,zh (e:=e) this]
 |makeSlice st l c=>simp only[cF,sB (e:=e) h (o:=l) (by simp[Op.operands]),sB (e:=e) h (o:=c) (by simp[Op.operands])]
 |makeMap t r=>cases r<;>rfl
 |_=>rfl
theorem zi{h:aa}{t t':Tr Value}{op:Op}(hs:Same t t' op.operands.toList):aK e h t op=aK e h t' op:=by
 have O:∀o,o∈op.operands.toList->aw e t o=aw e t' o:=λo ho=>sB hs ho;have A:=DF (e:=e) hs;cases op with
 |move x=>simp only[aK,O x (by simp[Op.operands])]
 |assign x=>simp only[aK,O x (by simp[Op.operands])]
 |pick c a b=>simp only[aK,O c (by simp[Op.operands]),O a (by simp[Op.operands]),O b (by simp[Op.operands])]
 |build ty parts=>
  have:Same t t' (parts.toList.map (·.2)):=hs.sub λx hx=>by simpa[Op.operands]using hx
  simp only[aK,zh (e:=e) this]
 |load ty a=>simp only[aK,O a (by simp[Op.operands])]
 |store ty a x=>simp only[aK,O a (by simp[Op.operands]),O x (by simp[Op.operands])]
 |nilCheck x=>simp only[aK,O x (by simp[Op.operands])]
 |binOp op ty x y cp=>simp only[aK,O x (by simp[Op.operands]),O y (by simp[Op.operands])]
 |unOp op ty x=>simp only[aK,O x (by simp[Op.operands])]
 |convert s d x=>simp only[aK,O x (by simp[Op.operands])]
 |makeInterface ty x=>simp only[aK,O x (by simp[Op.operands])]
 |makeFunc fn first cap=>
  have h1:Same t t' first.toList:=hs.sub λx hx=>by simp[Op.operands];exact .inl (by simpa using hx)
  have h2:Same t t' cap.toList:=hs.sub λx hx=>by simp[Op.operands];exact .inr (by simpa using hx)
  cases fn<;>simp only[aK,uv (e:=e) h1,uv (e:=e) h2]
 |slice ty x lo hi mx=>
  have hx:=O x (by simp[Op.operands]);have hl:∀o,lo=some o->aw e t o=aw e t' o:=λo ho=>O o (by simp[Op.operands,ho]);have hh:∀o,hi=some o->aw e t o=aw e t' o:=λo ho=>O o (by simp[Op.operands,ho]);have hm:∀o,mx=some o->aw e t o=aw e t' o:=λo ho=>O o (by simp[Op.operands,ho]);simp only[aK,hx];cases lo<;>cases hi<;>cases mx<;>simp_all
 |fieldAddr s x f=>simp only[aK,O x (by simp[Op.operands])]
 |field ty x f=>simp only[aK,O x (by simp[Op.operands])]
 |indexAddr ty x ix=>simp only[aK,O x (by simp[Op.operands]),O ix (by simp[Op.operands])]
 |index ty x ix=>simp only[aK,O x (by simp[Op.operands]),O ix (by simp[Op.operands])]
 |lookup ty m k ok=>simp only[aK,O m (by simp[Op.operands]),O k (by simp[Op.operands])]
 |mapUpdate ty m k v=>simp only[aK,O m (by simp[Op.operands]),O k (by simp[Op.operands]),O v (by simp[Op.operands])]
 |insert ty m k v=>simp only[aK,O m (by simp[Op.operands]),O k (by simp[Op.operands]),O v (by simp[Op.operands])]
 |range ty x=>simp only[aK,O x (by simp[Op.operands])]
 |next it s=>simp only[aK,O it (by simp[Op.operands])]
 |entry it=>simp only[aK,O it (by simp[Op.operands])]
 |extract x i=>simp only[aK,O x (by simp[Op.operands])]
 |call c=>
  have h1:Same t t' c.args.toList:=hs.sub λx hx=>by simp[Op.operands,Call.operands];right;simpa using hx
  simp only[aK,lz,uv (e:=e) h1];cases hc:c.callee with
  |value f=>
   have h2:aw e t f=aw e t' f:=O f (by simp[Op.operands,Call.operands,hc]);simp only[h2]
  |_=>rfl
 |defer c=>
  have h1:Same t t' c.args.toList:=hs.sub λx hx=>by simp[Op.operands,Call.operands];right;simpa using hx
  simp only[aK,uv (e:=e) h1];cases hc:c.callee with
  |value f=>
   have h2:aw e t f=aw e t' f:=O f (by simp[Op.operands,Call.operands,hc]);cases cR e t' c.args.toList with
   |none=>rfl
   |some args=>simp only[h2]
  |_=>rfl
 |alloc _=>simp only[aK,A]
 |box _ _=>simp only[aK,A]
 |buildSlice _ _ _=>simp only[aK,A]
 |makeMap _ _=>simp only[aK,A]
 |makeSlice _ _ _=>simp only[aK,A]
 |_=>rfl
theorem nh{h h':aa}{x:Option Value}{v:Value}(hr:(x.map λv=>AR.val v h)=some (.val v h')):h'=h:=by
 obtain⟨_,_,h2⟩:=of_map hr;cases h2;rfl
theorem Lx{h h':aa}{t:Tr Value}{op:Op}{v:Value}(hc:cls op=.read)(hr:aK e h t op=some (.val v h')):h'=h:=by
 cases op with
 |load ty a=>
  simp only[aK]at hr
  split at hr
  . cases hr
  . exact nh hr
 |lookup ty m k ok=>
  simp only[aK]at hr
  split at hr
  . exact nh hr
  . cases hr
 |entry it=>
  simp only[aK]at hr
  split at hr
  . cases hr
  . exact nh hr
 |convert s d x=>
  simp only[aK]at hr
  split at hr
  . rename_i a _;cases hp:plain a with
    |true=>rw[hp]at hr;exact nh hr
    |false=>rw[hp]at hr;exact nh hr
  . cases hr
 |slice ty x lo hi mx=>
  simp only[aK]at hr
  split at hr
  . exact nh hr
  . cases hr
 |call c=>
  simp only[cls]at hc;simp only[aK,lz]at hr
  split at hr
  . cases hr
  . rename_i args _;cases ab:c.callee with
    |builtin b=>
     simp only[ab]at hc hr
     split at hr
     . cases hc
     . cases hc
     . split at hr
       . cases hr
       . exact nh hr
     . split at hr
       . cases hr
       . exact nh hr
     . cases hp:args.all plain with
       |true=>rw[hp]at hr;exact nh hr
       |false=>rw[hp]at hr;cases hr
     . cases hp:args.all plain with
       |true=>rw[hp]at hr;exact nh hr
       |false=>rw[hp]at hr;cases hr
     . cases hr
    |value f=>simp[ab]at hc
    |invoke _ _=>simp[ab]at hc
 |_=>simp[cls]at hc
theorem Ly{h h':aa}{t:Tr Value}{op:Op}{v:Value}(hc:cls op=.pure)(hr:aK e h t op=some (.val v h'))(g:aa):aK e g t op=some (.val v g):=by
 have M:∀{x:Option Value},(x.map λv=>AR.val v h)=some (.val v h')->(x.map λv=>AR.val v g)=some (.val v g):=λ{x} hx=>by
  obtain⟨u,h1,h2⟩:=of_map hx;cases h2;rw[h1];rfl
 cases op with
 |move x=>simp only[aK]at hr⊢;exact M hr
 |assign x=>simp only[aK]at hr⊢;exact M hr
 |pick c a b=>
  simp only[aK]at hr⊢
  split at hr
  . exact M hr
  . exact M hr
  . cases hr
 |build ty parts=>
  simp only[aK]at hr⊢
  split at hr
  . cases hr
  . exact M hr
 |nilCheck x=>
  simp only[aK]at hr⊢
  split at hr
  . cases hr;rfl
  . cases hr;rfl
  . cases hr
 |binOp op ty x y cp=>
  simp only[aK]at hr⊢
  split at hr
  . exact M hr
  . cases hr
 |unOp op ty x=>
  simp only[aK]at hr⊢
  split at hr
  . rename_i a _;cases hp:plain a with
    |true=>rw[hp]at hr;exact M hr
    |false=>rw[hp]at hr;cases hr
  . cases hr
 |convert s d x=>cases hc
 |makeInterface ty x=>
  simp only[aK]at hr⊢
  split at hr
  . cases hr
  . cases hr;rfl
  . cases hr
 |makeFunc fn first cap=>
  cases fn with
  |func f=>
   simp only[aK]at hr⊢
   split at hr
   . cases hr;rfl
   . cases hr
  |_=>simp[aK]at hr
 |fieldAddr s x f=>
  simp only[aK]at hr⊢
  split at hr
  . split at hr
    . rename_i hb _ size _;cases hp:DE 0 size with
      |true=>rw[hp]at hr;cases hr;rfl
      |false=>rw[hp]at hr;cases hr
    . cases hr
  . cases hr
 |field ty x f=>
  simp only[aK]at hr⊢
  split at hr
  . split at hr
    . cases hr
    . exact M hr
  . cases hr
 |indexAddr ty x ix=>
  simp only[aK]at hr⊢
  split at hr
  . rename_i i len elem _ _ _
    split at hr
    . cases hr
    . cases hp:(decide (0<=i)&&decide (i<(len:Int)))with
      |true=>rw[hp]at hr;cases hr;rfl
      |false=>rw[hp]at hr;cases hr
  . rename_i len _ i elem _ _ _
    split at hr
    . cases hr
    . cases hp:(decide (0<=i)&&decide (i<(len:Int)))with
      |true=>rw[hp]at hr;cases hr;rfl
      |false=>rw[hp]at hr;cases hr
  . cases hr
 |index ty x ix=>
  simp only[aK]at hr⊢
  split at hr
  . rename_i i len elem _ _ _
    split at hr
    . cases hr
    . cases hp:(decide (0<=i)&&decide (i<(len:Int)))with
      |true=>rw[hp]at hr;exact M hr
      |false=>rw[hp]at hr;cases hr
  . exact M hr
  . cases hr
 |extract x i=>
  simp only[aK]at hr⊢
  split at hr
  . exact M hr
  . cases hr
 |call c=>
  simp only[cls]at hc
  split at hc<;>cases hc
 |_=>simp[cls]at hc
end Go.au
end
noncomputable section
namespace Go.au
theorem DG:∀(ops:List Oper) (acc:List Nat),(lA ops acc).length=acc.length+ops.length
 |[],acc=>by simp[lA]
 |o::r,acc=>by
  simp only[lA,DG r,GP];omega
theorem zj:∀(ops:List Oper) (acc:List Nat) (i:Nat),i<acc.length->(lA ops acc).getD i 0=acc.reverse.getD i 0
 |[],acc,i,h=>by simp[lA]
 |o::r,acc,i,h=>by
  simp only[lA];rw[zj r _ i (by simp;omega)];simp only[W2,PX];rw[abR (by simpa using h)]
theorem DH(look:Nat->Nat)(j:Nat):∀(l:List Edge) (s:Nat),(l.foldl (λs x=>bif Region.binds .any x then Nat.lor s (Nat.lor (2^x.on) (look x.on))else s) s).testBit j=true->
 s.testBit j=true\/∃x∈l,Region.binds .any x=true/\(j=x.on\/(look x.on).testBit j=true)
 |[],s,h=>.inl h
 |x::l,s,h=>by
  rcases DH look j l _ h with h1|⟨y,h1,h2⟩
  . cases hb:Region.binds .any x with
    |true=>
     simp only[hb,cond_true]at h1;have aa:(s|||(2^x.on|||look x.on)).testBit j=true:=h1;rw[Nat.testBit_or,Nat.testBit_or,Qc,Qc]at aa;rcases aa with h2|h2|h2
     . exact .inl h2
     . rw[Nat.testBit_two_pow]at h2;exact .inr ⟨x,xS ..,hb,.inl (by simpa using (of_decide_eq_true h2).symm)⟩
     . exact .inr ⟨x,xS ..,hb,.inr h2⟩
    |false=>simp only[hb,cond_false]at h1;exact .inl h1
  . exact .inr ⟨y,PO _ h1,h2⟩
theorem DJ:∀(ops:List Oper) (acc:List Nat) (k:Nat) (o:Oper) (j:Nat),ops[k]? =some o->((lA ops acc).getD (acc.length+k) 0).testBit j=true->
 ∃x∈o.after.toList,Region.binds .any x=true/\(j=x.on\/((lA ops acc).getD x.on 0).testBit j=true)
 |[],_,_,_,_,h,_=>by simp at h
 |o::r,acc,0,o',j,h,hj=>by
  simp at h;subst h;simp only[lA,Nat.add_zero]at hj⊢;rw[zj r _ _ (by simp)]at hj;simp only[W2,PX]at hj;rw[List.getElem?_append_right (by simp)]at hj;simp only[List.length_reverse,Nat.sub_self,W9,ZL]at hj;rcases DH (λi=>acc.reverse[i]?.getD 0) j _ _ hj with h1|⟨x,h1,h2,h3⟩
  . simp at h1
  . refine⟨x,h1,h2,h3.imp id λh4=> ?_⟩;by_cases hl:x.on<acc.length
    . rw[zj r _ _ (by simp;omega)];simp only[W2,PX];rw[abR (by simpa using hl)];simpa[PX]using h4
    . rw[List.getElem?_eq_none (by simpa using hl)]at h4;simp at h4
 |o::r,acc,k+1,o',j,h,hj=>by
  simp at h;simp only[lA]at hj⊢;refine DJ r _ k o' j h ?_;simp only[GP];rw[show acc.length+1+k=acc.length+(k+1) by omega];exact hj
theorem DK{ops:List Oper}{i j:Nat}{o:Oper}(ho:ops[i]? =some o)(h:((bf ops).getD i 0).testBit j=true):
 ∃x∈o.after.toList,Region.binds .any x=true/\(j=x.on\/((bf ops).getD x.on 0).testBit j=true):=by
 have:=DJ ops [] i o j ho (by simpa[bf]using h);simpa[bf]using this
theorem wA(ops:List Oper):(bf ops).length=ops.length:=by simp[bf,DG]
theorem ov{α:Type}{l:List α}{i:Nat}{a:α}(h:l[i]? =some a):(a,i)∈l.zipIdx:=by
 rw[List.mem_zipIdx_iff_getElem?];exact h
structure sC(ops:List Oper)(ms:List Nat):Prop where
 back:∀(i:Nat) (o:Oper),ops[i]? =some o->∀x∈o.after.toList,Region.binds .any x=true->x.on<i
 guard:∀(i:Nat) (o:Oper) (j:Nat) (b:Bool),ops[i]? =some o->o.guard=some (j,b)->(ms.getD i 0).testBit j=true
 once:∀(i:Nat) (o:Oper) (j:Nat) (p:Oper) (d:Tmp),ops[i]? =some o->ops[j]? =some p->o.dst=some d->p.dst=some d->i=j
 use:∀(i:Nat) (o:Oper) (j:Nat) (p:Oper) (d:Tmp),ops[i]? =some o->ops[j]? =some p->o.dst=some d->Operand.tmp d∈p.op.operands.toList->i≠j/\(i<j->(ms.getD j 0).testBit i=true)/\(j<i->(ms.getD i 0).testBit j=true)
 cN:∀(i:Nat) (o:Oper) (j:Nat) (p:Oper),ops[i]? =some o->ops[j]? =some p->cls o.op=.effect->cls p.op=.effect->i<j->(ms.getD j 0).testBit i=true
theorem DL{o:Oper}{d:Tmp}(h:Operand.tmp d∈o.op.operands.toList):(tmpsOf o).contains d=true:=by
 simp only[tmpsOf,List.contains_eq_mem,decide_eq_true_eq,List.mem_filterMap];exact⟨_,h,rfl⟩
theorem Lz{ops:List Oper}{ms:List Nat}(h:pB ops ms=true):sC ops ms:=by
 simp only[pB,Xw,Zj]at h;obtain⟨⟨⟨⟨h1,h2⟩,h3⟩,h4⟩,h5⟩:=h;refine⟨λi o ho x hx hb=> ?_,λi o j b ho hg=> ?_,λi o j p d ho hp hd ab=> ?_,λi o j p d ho hp hd hu=> ?_,λi o j p ho hp hc ad ae=> ?_⟩
 . have:=h1 (o,i) (ov ho) x hx;simp only[hb,Zr,Bool.false_or]at this;exact TF this
 . have:=h2 (o,i) (ov ho);simp only[hg]at this;exact this
 . have:=h3 (o,i) (ov ho);simp only[hd,Zj]at this;have:=this (p,j) (ov hp);simp only[ab,Qc,Xw]at this;rcases this with h|⟨h,_⟩
   . exact ab8 h
   . simp at h
 . have h6:i≠j:=λe=>by
    subst e;rw[ho]at hp;cases hp;have:=h4 (o,i) (ov ho);simp only[hd]at this;rw[DL hu]at this;cases this
   have:=h3 (o,i) (ov ho);simp only[hd,Zj]at this;have:=this (p,j) (ov hp);simp only[Qc,Xw,DL hu,Zr,Bool.false_eq_true,false_or]at this;rcases this with h|⟨_,h⟩
   . exact absurd (ab8 h) h6
   . refine⟨h6,λhl=> ?_,λhl=> ?_⟩
     . have hb:DE i j=true:=adr hl;rw[hb]at h;exact h
     . have hb:DE i j=false:=by
        cases hc:DE i j with
        |false=>rfl
        |true=>have:i<j:=TF hc;omega
       rw[hb]at h;exact h
 . have m1:(o,i)∈ops.zipIdx.filter λ(o,i)=>cls o.op==.effect:=adS.2 ⟨ov ho,by simp[hc]⟩;have m2:(p,j)∈ops.zipIdx.filter λ(o,i)=>cls o.op==.effect:=adS.2 ⟨ov hp,by simp[ad]⟩;have:=h5 _ m1 _ m2;have hb:DE i j=true:=adr ae;simp only[hb,Zr,Bool.false_or]at this;exact this
theorem wB{ops:List Oper}(f:sC ops (bf ops)):∀(i:Nat) (o:Oper) (j:Nat),ops[i]? =some o->((bf ops).getD i 0).testBit j=true->j<i:=by
 intro i
 induction i using Nat.strongRecOn with
 |_ i ih=>
  intro o j ho h;obtain⟨x,h1,h2,h3⟩:=DK ho h;have hx:=f.back i o ho x h1 h2;rcases h3 with rfl|h3
  . exact hx
  . have af:x.on<ops.length:=Nat.lt_trans hx (List.getElem?_eq_some_iff.1 ho).1;exact Nat.lt_trans (ih x.on hx _ j (List.getElem?_eq_getElem af) h3) hx
theorem zk:∀(l:List (Oper×Nat)) (b p i m:Nat),(jB l b)[p]? =some (i,m)->b<=i/\∃o,l[i-b]? =some (o,m)/\cls o.op=.effect
 |[],_,_,_,_,h=>by simp[jB]at h
 |(o,m0)::r,b,p,i,m,h=>by
  simp only[jB]at h;have next:∀q,(jB r (b+1))[q]? =some (i,m)->b<=i/\∃o',((o,m0)::r)[i-b]? =some (o',m)/\cls o'.op=.effect:=λq hq=>by
   obtain⟨h1,o',h2,h3⟩:=zk r (b+1) q i m hq;refine⟨by omega,o', ?_,h3⟩;have:i-b=(i-(b+1))+1:=by omega
   rw[this];simpa using h2
  cases hc:cls o.op==.effect with
  |true=>
   rw[hc]at h;cases p with
   |zero=>
    simp only[cond_true,W9,qe,adT]at h;obtain⟨rfl,rfl⟩:=h;exact⟨Nat.le_refl _,o,by simp,by simpa using hc⟩
   |succ p=>exact next p (by simpa using h)
  |false=>rw[hc]at h;exact next p h
theorem DM:∀(l:List (Oper×Nat)) (b k:Nat) (o:Oper) (m:Nat),l[k]? =some (o,m)->cls o.op=.effect->∃p:Nat,(jB l b)[p]? =some (b+k,m)
 |[],_,_,_,_,h,_=>by simp at h
 |(o,m0)::r,b,0,o',m,h,hc=>by
  simp at h;obtain⟨rfl,rfl⟩:=h;refine⟨0, ?_⟩;simp[jB,hc]
 |(o,m0)::r,b,k+1,o',m,h,hc=>by
  simp at h;obtain⟨p,hp⟩:=DM r (b+1) k o' m h hc;have e:b+1+k=b+(k+1):=by omega
  rw[e]at hp;simp only[jB];cases hc:cls o.op==.effect with
  |true=>exact⟨p+1,by simpa using hp⟩
  |false=>exact⟨p,by simpa using hp⟩
theorem wC:∀(l:List (Oper×Nat)) (b p q i m j k:Nat),(jB l b)[p]? =some (i,m)->(jB l b)[q]? =some (j,k)->p<q->i<j
 |[],_,_,_,_,_,_,_,h,_,_=>by simp[jB]at h
 |(o,m0)::r,b,p,q,i,m,j,k,h,h',ai=>by
  simp only[jB]at h h';cases hc:cls o.op==.effect with
  |true=>
   simp only[hc,cond_true]at h h';obtain⟨q,rfl⟩:∃q',q=q'+1:=⟨q-1,by omega⟩;simp only[List.getElem?_cons_succ]at h';cases p with
   |zero=>
    simp only[W9,qe,adT]at h;have:=(zk r (b+1) q j k h').1;omega
   |succ p=>exact wC r (b+1) p q i m j k (by simpa using h) h' (by omega)
  |false=>
   simp only[hc,cond_false]at h h';exact wC r (b+1) p q i m j k h h' ai
theorem filter_le{α:Type}(f:α->Bool):∀(l:List α) (m:Nat),(∀q a,l[q]? =some a->f a=true->q<m)->(l.filter f).length<=m
 |[],m,_=>by simp
 |a::l,m,h=>by
  cases m with
  |zero=>
   have:(a::l).filter f=[]:=by
    rw[List.filter_eq_nil_iff];intro x hx hf;obtain⟨q,hq⟩:=List.getElem?_of_mem hx;exact absurd (h q x hq hf) (Nat.not_lt_zero _)
   rw[this];simp
  |succ m=>
   have ih:=filter_le f l m λq x hq hf=>by
    have:=h (q+1) x (by simpa using hq) hf;omega
   rw[adU]
   split
   . simp;omega
   . omega
theorem le_filter{α:Type}(f:α->Bool):∀(l:List α) (m:Nat),m<=l.length->(∀q a,q<m->l[q]? =some a->f a=true)->m<=(l.filter f).length
 |[],m,hm,_=>by simpa using hm
 |a::l,m,hm,h=>by
  cases m with
  |zero=>exact Nat.zero_le _
  |succ m=>
   have hf:=h 0 a (by omega) rfl;rw[adU,if_pos hf];simp only[GP];exact Nat.succ_le_succ (le_filter f l m (by simpa using hm) λq x hq hx=>h (q+1) x (by omega) (by simpa using hx))
variable {e:Env}
end Go.au
end
noncomputable section
namespace Go.au
open Go.ChangeShapes Go.WideShapes Go.ChangeAt Go.RowKit
theorem qT.same{W w':World}(h:qT W w'){p:MemPlace}(hp:p.block<W.heap.size):W.sameAt w' p:=by
 cases p with
 |cell b o=>exact World.cell?_of_block (w:=W) (h.heap b hp)
 |map b=>exact h.heap b hp
theorem qT.frame{W w':World}(h:qT W w')(may:MemPlace->Prop):W.keptBut w' may:=by
 refine⟨h.os,h.output,λi hi=> ?_⟩;rw[h.heap i hi]
 split<;>simp_all
section
variable {H:Type} {enc:TypeId×Value->H} {P:Program}
theorem JJ(hl:laidOutB P=true){W W':World}(hk:qT W W'){sp:Nat->Bool}:∀{ts:List TypeId} {vs:List Value} {ds:List (DataW H)} {ps:List MemPlace},(∀t∈ts,P.readableRec t=true/\t<P.types.size)->
 DataW.TrodAll enc P W 0 (λ_=>true) true ts vs ds ps->(∀x∈ps,x.block<W.heap.size)->(∀x∈ps,sp x.block=true)->DataW.TrodAll enc P W' 0 sp true ts vs ds ps
 |[],[],[],_,_,h,_,_=>h
 |[],[],_::_,_,_,h,_,_=>h.elim
 |[],_::_,_,_,_,h,_,_=>by cases h
 |_::_,[],_,_,_,h,_,_=>by cases h
 |_::_,_::_,[],_,_,h,_,_=>by cases h
 |t::ts,v::vs,d::ds,ps,hT,⟨p,q,h1,h2,e⟩,ad,af=>by
  have ht:=hT t (xS ..);refine⟨p,q,WideElems.Trod_stays hl ht.1 ht.2 h1 (λx hx=>hk.same (ad x (by rw[e];simp[hx]))) (λx hx=>af x (by rw[e];simp[hx])), ?_,e⟩;exact JJ hl hk (λu hu=>hT u (PO _ hu)) h2 (λx hx=>ad x (by rw[e];simp[hx])) (λx hx=>af x (by rw[e];simp[hx]))
theorem adL{f:Func}{s:ChangeSpec}{apart fresh handsOn again:Bool}{W W':World}{args:Array Value}{ds gs:List (DataW H)}{before:List MemPlace}{tb:TypeId}
 (hW:DataW.Whole enc P f.params.toList s.vars apart W args.toList ds gs before) (aa:s.vars=[])
 (hr:(s.fn H (ds++gs)).results=[.lit (.bool true)]) (ha:(s.fn H (ds++gs)).args=ds) (hv:(s.fn H (ds++gs)).vars=[])
 (hl:laidOutB P=true) (hT:∀t∈f.params.toList,P.readableRec t=true/\t<P.types.size) (ae:f.resultTypes=#[tb]) (hb:P.underlying tb=some .bool) (hk:qT W W'):
 s.post enc P f apart fresh handsOn again W args (.bool true) W':=by
 have ai:=hW;obtain⟨p,q,hA,hV,e,az,aA⟩:=hW;rw[aa]at hV;obtain⟨rfl,rfl⟩:=trodVars_none hV;rw[List.append_nil]at e;subst e;have ad:∀x∈before,x.block<W.heap.size:=λx hx=>ai.lt x hx;have ab:∀sp:Nat->Bool,(∀x∈before,sp x.block=true)->DataW.TrodAll enc P W' 0 sp true f.params.toList args.toList (s.fn H (ds++[])).args before:=λsp af=>by
  rw[ha];exact JJ hl hk hT hA ad af
 have ao:∀sp:Nat->Bool,DataW.TrodVars enc P W' sp s.vars (s.fn H (ds++[])).vars []:=λsp=>by
  rw[hv,aa];rfl
 have av:∀(b:Nat) (sp:Nat->Bool) (hd:Bool),DataW.TrodAll enc P W' b sp hd f.resultTypes.toList (Value.resultList f.resultTypes.size (.bool true)) (s.fn H (ds++[])).results []:=λb sp hd=>by
  rw[hr,ae];exact trodAll_cons_mk (shut_bool hb _) trodAll_mk0
 have aB:∀x∈before,(λb=>decide (b<W.heap.size)) x.block=true:=λx hx=>by simpa using ad x hx
 refine⟨ds,[],before,[],before,[],ai,av _ _ _,ab _ aB,ao _,hk.frame _,λ_=>⟨ok_one ae rfl (okWide_bool_mk hb _),_,_,[]++before++[],
  ⟨[]++before,[],trodAll_append (ab _ (λ_ _=>rfl)) (av _ _ _),ao _,rfl,λb off hp=> ?_,λhd=> ?_⟩,λx hx _=>by simpa using hx⟩⟩
 . have aw:MemPlace.cell b off∈before:=by simpa using hp
   exact(hk.frozen _ (ad _ aw)).trans (az b off (by simpa using aw))
 . simpa using aA hd
end
end Go.au
end

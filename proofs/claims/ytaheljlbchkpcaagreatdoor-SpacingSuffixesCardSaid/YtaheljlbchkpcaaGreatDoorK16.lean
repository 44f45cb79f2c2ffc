/- SpacingSuffixes: parts of its proof (DvD). -/
import Derived.Test.YtaheljlbchkpcaaGreatDoorK15
set_option linter.unusedVariables false
set_option linter.unusedSimpArgs false
noncomputable section
namespace Go.aw
variable {e:Env} {G:Nat->Prop} {h:aa} {dh:ab} {t:Tr Value} {dt:Tr DV} {R:Rows} {aj:Bool}
abbrev dj:DV:=.v undef
theorem rn:Rel R undef dj:=.v _
abbrev cF:Type:=DV->List FuncId->ab->List Nat->Prop
def nv(G:Nat->Prop)(h:aa)(dh:ab)(K:DV->ab->List Nat->Prop)(v:Value)(h':aa):Prop:=
 ∃d ad G' T,bM G' h' ad/\Kp G h dh G' h' ad/\Rel (aI h' G') v d/\(∀i,i<h.next->i∉T->h'.get i=h.get i/\ad.get i=dh.get i)/\K d ad T
def wM(G:Nat->Prop)(h:aa)(dh:ab)(K:cF)(v:Value)(aJ:List Deferred)(h':aa):Prop:=
 ∃d aF ad G' T,bM G' h' ad/\Kp G h dh G' h' ad/\Rel (aI h' G') v d/\aP sX aJ aF/\(∀i,i<h.next->i∉T->h'.get i=h.get i/\ad.get i=dh.get i)/\K d aF ad T
def c8(e:Env)(aj:Bool)(f:FuncId)(aD:List DV)(dh:ab)(K:DV->ab->List Nat->Prop):Prop:=
 ∀G h args,bM G h dh->cw (aI h G) args aD->match aj with
  |true=>∃v h',bS e f args h v h'/\nv G h dh K v h'
  |false=>fO e f args h (nv G h dh K)
def jM:Option DV->Option (List DV)->Option (FuncId×List DV)
 |some (.fn f a c),some args=>some (f,a++args++c)
 |_,_=>none
theorem R5(ht:TD R t dt){f:Operand}{l:List Operand}{p:FuncId×List DV}(hd:jM (aB e dt f) (cO e dt l)=some p):∃args,qQ (au e t f) (df e t l)=some (p.1,args)/\cw R args p.2:=by
 unfold jM at hd
 split at hd
 . rename_i g a c args h1 h2;cases hd;obtain⟨v,h3,h4⟩:=fx ht h1;obtain⟨vs,h5,h6⟩:=oF ht h2;obtain⟨a',c',rfl,h7,h8⟩:=h4.wI;exact⟨(a'.toList++vs)++c'.toList,by rw[h3,h5];rfl,aP.append (aP.append h7 h6) h8⟩
 . cases hd
def cr(e:Env)(aj:Bool)(op:Op)(t:Tr DV)(dd:List FuncId)(h:ab)(K:cF):Prop:=
 match op with
 |.alloc ty=>aG (dY e t (.alloc ty)) λp=>K (p.2 h.next) dd (h.new p.1) []
 |.box ty x=>aG (dY e t (.box ty x)) λp=>K (p.2 h.next) dd (h.new p.1) []
 |.buildSlice ty n ps=>aG (dY e t (.buildSlice ty n ps)) λp=>K (p.2 h.next) dd (h.new p.1) []
 |.makeMap ty n=>aG (dY e t (.makeMap ty n)) λp=>K (p.2 h.next) dd (h.new p.1) []
 |.makeSlice ty l c=>aG (dY e t (.makeSlice ty l c)) λp=>K (p.2 h.next) dd (h.new p.1) []
 |.store ty a x=>aG (ma e h ty (aB e t a) (aB e t x)) λp=>K dj dd p.1 [p.2]
 |.mapUpdate ty m k v=>aG (jL e h ty (aB e t m) (aB e t k) (aB e t v)) λp=>K dj dd p.1 [p.2]
 |.insert ty m k v=>aG (jL e h ty (aB e t m) (aB e t k) (aB e t v)) λp=>K dj dd p.1 [p.2]
 |.range ty x=>aG ((aB e t x).bind (mb e h ty)) λo=>K (.v (.pointer (some ⟨h.next,0,none⟩))) dd (h.new o) []
 |.next it s=>match aj with
  |true=>aG ((aB e t it).bind (kV h · s)) λp=>K p.1 dd p.2.1 [p.2.2]
  |false=>(aG ((aB e t it).bind (kV h · s)) λp=>K p.1 dd p.2.1 [p.2.2])\/(s=false/\aG (aB e t it) λd=>yR h d λv h r=>K v dd h [r])
 |.entry it=>aG ((aB e t it).bind (uL h)) λv=>K v dd h []
 |.defer c=>match c.callee with
  |.value f=>aG (jM (aB e t f) (cO e t c.args.toList)) λp=>K dj (p.1::dd) h []
  |_=>False
 |.call c=>match c.callee with
  |.value f=>aG (jM (aB e t f) (cO e t c.args.toList)) λp=>c8 e aj p.1 p.2 h λv h' T=>K v dd h' T
  |.builtin .append=>aG (kU e h c.argTypes (cO e t c.args.toList)) λp=>K p.1 dd p.2.1 p.2.2
  |_=>aG (aT e h t (.call c)) λv=>K v dd h []
 |op=>aG (aT e h t op) λv=>K v dd h []
theorem rp(ht:TD R t dt)(o:Operand):∀d,aB e dt o=some d->∃u,au e t o=some u/\Rel R u d:=λd hd=>fx ht hd
def iR(e:Env)(aj:Bool)(op:Op)(t:Tr Value)(ds:List Deferred)(h:aa)(K:Kt):Prop:=match aj with
 |true=>bG e none op t ds h K
 |false=>jH e none op t ds h K
theorem iR.of{op:Op}{ds:List Deferred}{K:Kt}(hs:bG e none op t ds h K)(hc:∀c f,op=.call c->c.callee≠.value f):iR e aj op t ds h K:=by
 cases aj with
 |true=>exact hs
 |false=>
  show jH e none op t ds h K;cases op with
  |call c=>
   unfold jH;simp only
   split
   . rename_i f hf;exact absurd hf (hc c f rfl)
   . exact hs
  |next it s=>exact .inl hs
  |_=>exact hs
theorem cr.x(x:bM G h dh)(ht:TD (aI h G) t dt){ds:List Deferred}{dd:List FuncId}(av:aP sX ds dd){op:Op}{K:cF}(hs:cr e aj op dt dd dh K):iR e aj op t ds h (wM G h dh K):=by
 have val:∀{d:DV},aT e dh dt op=some d->K d dd dh []->∃v,bD e h t op=some v/\wM G h dh K v ds h:=λhv hk=>by
  obtain⟨v,h1,h2⟩:=yQ x ht hv;exact⟨v,h1,_,dd,dh,G,[],x,Kp.refl _ _ _,h2,av,λ_ _ _=>⟨rfl,rfl⟩,hk⟩
 have alloc:∀{p:bF×(Nat->DV)},dY e dt op=some p->K (p.2 dh.next) dd (dh.new p.1) []->∃p:bK×(Nat->Value),cU e t op=some p/\wM G h dh K (p.2 h.next) ds (h.new p.1):=λ{p} hv hk=>by
  obtain⟨o,f⟩:=p;obtain⟨ao,af,h1,h2,h3⟩:=Ge ht hv;obtain⟨k1,k2⟩:=x.new h2;refine⟨(ao,af),h1,_,dd,_,G,[],k1,k2, ?_,av,λi hi _=>⟨bI _ _ _ (by omega),by rw[ab.dT,if_neg (by have:=x.next;omega)]⟩,hk⟩;rw[x.next];exact h3 _ _
 cases op with
 |alloc ty=>obtain⟨p,h1,h2⟩:=hs;exact iR.of (alloc h1 h2) (λc f hc=>by cases hc)
 |box ty o=>obtain⟨p,h1,h2⟩:=hs;exact iR.of (alloc h1 h2) (λc f hc=>by cases hc)
 |buildSlice ty n ps=>obtain⟨p,h1,h2⟩:=hs;exact iR.of (alloc h1 h2) (λc f hc=>by cases hc)
 |makeMap ty n=>obtain⟨p,h1,h2⟩:=hs;exact iR.of (alloc h1 h2) (λc f hc=>by cases hc)
 |makeSlice ty l c=>obtain⟨p,h1,h2⟩:=hs;exact iR.of (alloc h1 h2) (λc f hc=>by cases hc)
 |store ty a o=>
  obtain⟨⟨ad,b⟩,h1,h2⟩:=hs;obtain⟨h',k1,k2,k3,k4⟩:=RW x (rp ht a) (rp ht o) h1;exact iR.of ⟨h',k1,dj,dd,ad,G,[b],k2,k3,rn,av,λi _ hi=>k4 i (by simpa using hi),h2⟩ (λc f hc=>by cases hc)
 |mapUpdate ty m k v=>
  obtain⟨⟨ad,b⟩,h1,h2⟩:=hs;obtain⟨h',k1,k2,k3,k4⟩:=Gg x (rp ht m) (rp ht k) (rp ht v) h1;exact iR.of ⟨h',k1,dj,dd,ad,G,[b],k2,k3,rn,av,λi _ hi=>k4 i (by simpa using hi),h2⟩ (λc f hc=>by cases hc)
 |insert ty m k v=>
  obtain⟨⟨ad,b⟩,h1,h2⟩:=hs;obtain⟨h',k1,k2,k3,k4⟩:=Gg x (rp ht m) (rp ht k) (rp ht v) h1;exact iR.of ⟨h',k1,dj,dd,ad,G,[b],k2,k3,rn,av,λi _ hi=>k4 i (by simpa using hi),h2⟩ (λc f hc=>by cases hc)
 |range ty o=>
  obtain⟨ob,h1,h2⟩:=hs;obtain⟨d,h3,h4⟩:=Option.bind_eq_some_iff.1 h1;obtain⟨v,h5,h6⟩:=fx ht h3;obtain⟨ao,h7,h8⟩:=R0 x h6 h4;obtain⟨k1,k2⟩:=x.new h8;refine iR.of ⟨ao,by rw[h5];exact h7,_,dd,_,G,[],k1,k2,by rw[x.next];exact .v _,av,λi hi _=>⟨bI _ _ _ (by omega),by rw[ab.dT,if_neg (by have:=x.next;omega)]⟩,h2⟩ (λc f hc=>by cases hc)
 |next it s=>
  have one:(aG ((aB e dt it).bind (kV dh · s)) λp=>K p.1 dd p.2.1 [p.2.2])->iR e aj (.next it s) t ds h (wM G h dh K):=λhs=>by
   obtain⟨⟨d,ad,b⟩,h1,h2⟩:=hs;obtain⟨aQ,h3,h4⟩:=Option.bind_eq_some_iff.1 h1;obtain⟨v,h5,h6⟩:=fx ht h3;obtain⟨u,h',k1,k2,k3,k4,k5⟩:=R3 x h6 h4;exact iR.of ⟨(u,h'),by rw[h5];exact k1,d,dd,ad,G,[b],k3,k4,k2,av,λi _ hi=>k5 i (by simpa using hi),h2⟩ (λc f hc=>by cases hc)
  cases aj with
  |true=>exact one hs
  |false=>
   rcases hs with hs|⟨rfl,d,h1,h2⟩
   . exact one hs
   . obtain⟨v,h3,h4⟩:=fx ht h1;refine .inr ⟨rfl,v,h3, ?_⟩;obtain⟨r,m,since,seen,last,es,clock,q1,q2,q3,q4,q5,q6,q7⟩:=h2.ok x h4;have post:∀u h',(∃d ad b,bM G h' ad/\Kp G h dh G h' ad/\Rel (aI h' G) u d/\(∀i,i≠b->h'.get i=h.get i/\ad.get i=dh.get i)/\K d dd ad [b])->wM G h dh K u ds h':=λu h' ⟨d,ad,b,p1,p2,p3,p4,p5⟩=>
      ⟨d,dd,ad,G,[b],p1,p2,p3,av,λi _ hi=>p4 i (by simpa using hi),p5⟩
     exact⟨r,m,since,seen,last,es,clock,q1,q2,q3,q4,q5,λha=>post _ _ (q6 ha),λy hy hn=>post _ _ (q7 y hy hn)⟩
 |entry it=>
  obtain⟨d,h1,h2⟩:=hs;obtain⟨aQ,h3,h4⟩:=Option.bind_eq_some_iff.1 h1;obtain⟨v,h5,h6⟩:=fx ht h3;obtain⟨u,k1,k2⟩:=R4 x h6 h4;exact iR.of ⟨u,by rw[h5];exact k1,d,dd,dh,G,[],x,Kp.refl _ _ _,k2,av,λ_ _ _=>⟨rfl,rfl⟩,h2⟩ (λc f hc=>by cases hc)
 |defer c=>
  refine iR.of ?_ (λc f hc=>by cases hc);simp only[cr]at hs
  split at hs
  . rename_i f hf;simp only[bG,hf];obtain⟨p,h1,h2⟩:=hs;unfold jM at h1
    split at h1
    . rename_i g a cp args h3 h4;cases h1;obtain⟨v,h5,h6⟩:=fx ht h3;obtain⟨vs,h7,h8⟩:=oF ht h4;obtain⟨a',c',rfl,h9,aX⟩:=h6.wI;refine⟨trivial,vs,h7,_,by rw[h5];rfl, ?_⟩;exact⟨dj,g::dd,dh,G,[],x,Kp.refl _ _ _,rn,.cons ⟨_,_,rfl⟩ av,λ_ _ _=>⟨rfl,rfl⟩,h2⟩
    . cases h1
  . cases hs
 |call c=>
  simp only[cr]at hs
  split at hs
  . rename_i f hf;obtain⟨p,h1,h2⟩:=hs;obtain⟨args,h3,h4⟩:=R5 ht h1;have h5:=h2 G h args x h4;cases aj with
    |true=>
     obtain⟨v,h',h6,d,ad,G',T,k1,k2,k3,k4,k5⟩:=h5;show bG e none (.call c) t ds h _;simp only[bG,hf];exact⟨_,h3,v,h',h6,d,dd,ad,G',T,k1,k2,k3,av,k4,k5⟩
    |false=>
     show jH e none (.call c) t ds h _;simp only[jH,hf];exact⟨_,h3,h5.mono λv h' ⟨d,ad,G',T,k1,k2,k3,k4,k5⟩=>⟨d,dd,ad,G',T,k1,k2,k3,av,k4,k5⟩⟩
  . rename_i hf;refine iR.of ?_ (λc' f hc hv=>by cases hc;rw[hf]at hv;cases hv);obtain⟨⟨d,ad,T⟩,h1,h2⟩:=hs;obtain⟨v,h',k1,k2,k3,k4,k5⟩:=RZ x (λl hl=>oF ht hl) h1;simp only[bG,hf];exact⟨(v,h'),k1,d,dd,ad,G,T,k3,k4,k2,av,k5,h2⟩
  . rename_i aO aR;obtain⟨d,h1,h2⟩:=hs;refine iR.of ?_ (λc' f hc hv=>by cases hc;exact aO f hv);obtain⟨v,h3,h4⟩:=val h1 h2;simp only[bG]
    split
    . rename_i f hf;exact absurd hf (aO f)
    . rename_i hf;exact absurd hf aR
    . rename_i hf;simp[aT,hf]at h1
    . exact⟨v,h3,h4⟩
 |_=>obtain⟨d,h1,h2⟩:=hs;exact iR.of (val h1 h2) (λc f hc=>by cases hc)
def cJ(dst:Option Tmp)(v:DV)(t:Tr DV):Tr DV:=match dst with|none=>t|some d=>t.set d (some v)
theorem TD.put(ht:TD R t dt)(dst:Option Tmp){v:Value}{d:DV}(hv:Rel R v d):TD R (bH dst v t) (cJ dst d dt):=by
 cases dst with
 |none=>exact ht
 |some k=>
  refine⟨ht.tb,λi u hu=> ?_⟩;simp only[cJ,Tr.bw]at hu;simp only[bH,Tr.bw]
  split at hu
  . rename_i hi;cases hu;exact⟨v,by rw[if_pos hi],hv⟩
  . rename_i hi;rw[if_neg hi];exact ht i u hu
theorem TD.mono{R':Rows}(hR:∀i r,R i=some r->R' i=some r)(ht:TD R t dt):TD R' t dt:=⟨ht.tb.mono hR,λi v hv=>let⟨u,h1,h2⟩:=ht i v hv;⟨u,h1,h2.mono hR⟩⟩
def iS(ops:List Oper)(t:Tr DV)(o:Oper):Option Bool:=
 match o.guard with
 |none=>some true
 |some (j,want)=>match(ops[j]?).bind (·.dst)with
  |none=>none
  |some d=>match t.get d with
   |some (.v (.bool b))=>some (b==want)
   |some (.v (.tuple _))=>some false
   |some (.bg _)=>some false
   |_=>none
theorem BN(ht:TD R t dt){ops:List Oper}{o:Oper}{b:Bool}{n:Nat}{ds:List Deferred}(hd:iS ops dt o=some b):cY ops ⟨t,n,ds,h⟩ o=some b:=by
 unfold iS at hd;unfold cY
 split at hd
 . rename_i hg;rw[hg];exact hd
 . rename_i j w hg;rw[hg];simp only
   split at hd
   . cases hd
   . rename_i d aS;simp only[aS]
     split at hd
     . rename_i q hq;obtain⟨u,h1,h2⟩:=ht d _ hq;have:=h2.cW;subst this;simp only[h1];exact hd
     . rename_i q hq;obtain⟨u,h1,h2⟩:=ht d _ hq;have:=h2.cW;subst this;simp only[h1];exact hd
     . rename_i q hq;obtain⟨u,h1,h2⟩:=ht d _ hq;obtain⟨a,rfl,_⟩:=h2.BB;simp only[h1];exact hd
     . cases hd
def fj(e:Env)(aj:Bool)(ops:List Oper):List Oper->Tr DV->Nat->List FuncId->ab->(DS->Prop)->Prop
 |[],t,n,dd,h,K=>K ⟨t,n,dd,h⟩
 |o::r,t,n,dd,h,K=>dB o.dst n/\aG (iS ops t o) λw=>match w with
  |true=>cr e aj o.op t dd h λv dd h _=>fj e aj ops r (cJ o.dst v t) n dd h K
  |false=>fj e aj ops r (cJ o.dst dj t) n dd h K
def ny(G:Nat->Prop)(h:aa)(dh:ab)(K:DS->Prop)(s':aE):Prop:=∃d' G',SD G' s' d'/\Kp G h dh G' s'.h d'.h/\K d'
theorem bG.mono{op:Op}{ds:List Deferred}{K K':Kt}(hk:∀v ds h,K v ds h->K' v ds h)(hs:bG e none op t ds h K):bG e none op t ds h K':=by
 cases op with
 |alloc ty=>obtain⟨p,h1,h2⟩:=hs;exact⟨p,h1,hk _ _ _ h2⟩
 |box ty x=>obtain⟨p,h1,h2⟩:=hs;exact⟨p,h1,hk _ _ _ h2⟩
 |buildSlice ty n ps=>obtain⟨p,h1,h2⟩:=hs;exact⟨p,h1,hk _ _ _ h2⟩
 |makeMap ty n=>obtain⟨p,h1,h2⟩:=hs;exact⟨p,h1,hk _ _ _ h2⟩
 |makeSlice ty l c=>obtain⟨p,h1,h2⟩:=hs;exact⟨p,h1,hk _ _ _ h2⟩
 |store ty a o=>obtain⟨p,h1,h2⟩:=hs;exact⟨p,h1,hk _ _ _ h2⟩
 |mapUpdate ty m k v=>obtain⟨p,h1,h2⟩:=hs;exact⟨p,h1,hk _ _ _ h2⟩
 |insert ty m k v=>obtain⟨p,h1,h2⟩:=hs;exact⟨p,h1,hk _ _ _ h2⟩
 |range ty o=>obtain⟨p,h1,h2⟩:=hs;exact⟨p,h1,hk _ _ _ h2⟩
 |next it s=>obtain⟨p,h1,h2⟩:=hs;exact⟨p,h1,hk _ _ _ h2⟩
 |entry it=>obtain⟨p,h1,h2⟩:=hs;exact⟨p,h1,hk _ _ _ h2⟩
 |defer c=>
  simp only[bG]at hs⊢
  split at hs
  . obtain⟨h0,a,h1,x,h2,h3⟩:=hs;refine⟨h0,a,h1,x,h2, ?_⟩
    split at h3
    . exact hk _ _ _ h3
    . exact h3.elim
  . exact hs
 |call c=>
  simp only[bG]at hs⊢
  split at hs
  . obtain⟨p,h1,v,h',h2,h3⟩:=hs;exact⟨p,h1,v,h',h2,hk _ _ _ h3⟩
  . obtain⟨p,h1,h2⟩:=hs;exact⟨p,h1,hk _ _ _ h2⟩
  . obtain⟨p,h1,h2⟩:=hs;exact⟨p,h1,hk _ _ _ h2⟩
  . obtain⟨p,h1,h2⟩:=hs;exact⟨p,h1,hk _ _ _ h2⟩
 |_=>obtain⟨p,h1,h2⟩:=hs;exact⟨p,h1,hk _ _ _ h2⟩
theorem jH.mono{op:Op}{ds:List Deferred}{K K':Kt}(hk:∀v ds h,K v ds h->K' v ds h)(hs:jH e none op t ds h K):jH e none op t ds h K':=by
 cases op with
 |call c=>
  simp only[jH]at hs⊢
  split at hs
  . obtain⟨p,h1,h2⟩:=hs;exact⟨p,h1,h2.mono λv h'=>hk v ds h'⟩
  . exact bG.mono hk hs
 |next it s=>
  simp only[jH]at hs⊢;rcases hs with hs|⟨rfl,v,hv,r,m,since,seen,last,es,clock,q1,q2,q3,q4,q5,q6,q7⟩
  . exact .inl (bG.mono hk hs)
  . exact .inr ⟨rfl,v,hv,r,m,since,seen,last,es,clock,q1,q2,q3,q4,q5,λha=>hk _ _ _ (q6 ha),λy hy hn=>hk _ _ _ (q7 y hy hn)⟩
 |_=>simp only[jH]at hs⊢;exact bG.mono hk hs
theorem fj.BO{ops:List Oper}{n:Nat}{K:DS->Prop}:∀{l:List Oper} {G:Nat->Prop} {t:Tr Value} {dt:Tr DV} {ds:List Deferred} {dd:List FuncId} {h:aa} {dh:ab},bM G h dh->TD (aI h G) t dt->aP sX ds dd->fj e false ops l dt n dd dh K->oE e none ops l t n ds h (ny G h dh K)
 |[],G,t,dt,ds,dd,h,dh,x,ht,av,hs=>⟨⟨dt,n,dd,dh⟩,G,⟨rfl,ht,av,x⟩,Kp.refl _ _ _,hs⟩
 |o::r,G,t,dt,ds,dd,h,dh,x,ht,av,hs=>by
  obtain⟨h1,w,h2,h3⟩:=hs;simp only[oE];rw[BN ht h2];refine⟨h1, ?_⟩;have post:∀{G':Nat->Prop} {h':aa} {ad:ab},Kp G h dh G' h' ad->∀(s':aE),ny G' h' ad K s'->ny G h dh K s':=λk _ ⟨d',G2,q1,q2,q3⟩=>⟨d',G2,q1,k.trans q2,q3⟩;have mono:∀{l:List Oper} {t:Tr Value} {ds:List Deferred} {h:aa} {A B:aE->Prop},(∀s,A s->B s)->oE e none ops l t n ds h A->oE e none ops l t n ds h B:=by
   intro l
   induction l with
   |nil=>exactλaz hs=>az _ hs
   |cons o r ih=>
    intro t ds h A B az hs;simp only[oE]at hs⊢;refine⟨hs.1, ?_⟩;have hs:=hs.2
    split at hs
    . exact hs
    . exact jH.mono (λv ds h=>ih az) hs
    . exact ih az hs
  cases w with
  |true=>exact jH.mono (λv aJ h' ⟨d,aF,ad,G',T,k1,k2,k3,k4,_,k5⟩=>mono (post k2) (fj.BO k1 ((ht.mono (k2.aI x)).put o.dst k3) k4 k5)) (cr.x (aj:=false) x ht av h3)
  |false=>exact fj.BO x (ht.put o.dst rn) av h3
theorem fj.BP{ops:List Oper}{n:Nat}{K:DS->Prop}:∀{l:List Oper} {G:Nat->Prop} {t:Tr Value} {dt:Tr DV} {ds:List Deferred} {dd:List FuncId} {h:aa} {dh:ab},bM G h dh->TD (aI h G) t dt->aP sX ds dd->fj e true ops l dt n dd dh K->iO e none ops l ⟨t,n,ds,h⟩ (ny G h dh K)
 |[],G,t,dt,ds,dd,h,dh,x,ht,av,hs=>⟨⟨dt,n,dd,dh⟩,G,⟨rfl,ht,av,x⟩,Kp.refl _ _ _,hs⟩
 |o::r,G,t,dt,ds,dd,h,dh,x,ht,av,hs=>by
  obtain⟨h1,w,h2,h3⟩:=hs;simp only[iO];rw[BN ht h2];have post:∀{G':Nat->Prop} {h':aa} {ad:ab},Kp G h dh G' h' ad->∀(s':aE),ny G' h' ad K s'->ny G h dh K s':=λk _ ⟨d',G2,q1,q2,q3⟩=>⟨d',G2,q1,k.trans q2,q3⟩;have mono:∀{l:List Oper} {s:aE} {A B:aE->Prop},(∀s,A s->B s)->iO e none ops l s A->iO e none ops l s B:=by
   intro l
   induction l with
   |nil=>exactλaz hs=>az _ hs
   |cons o r ih=>
    intro s A B az h;simp only[iO]at h⊢
    split at h
    . exact h
    . unfold mz at h⊢
      split at h
      . exact h
      . exact⟨_,h.choose_spec.1,ih az h.choose_spec.2⟩
      . exact⟨_,h.choose_spec.1,ih az h.choose_spec.2⟩
      . obtain⟨v,h',h1,s',h2,h3⟩:=h;exact⟨v,h',h1,s',h2,ih az h3⟩
      . exact h
      . exact⟨h.1,_,h.2.choose_spec.1,ih az h.2.choose_spec.2⟩
    . exact⟨_,h.choose_spec.1,ih az h.choose_spec.2⟩
  cases w with
  |true=>
   have:=cr.x (aj:=true) x ht av h3;exact bG.yr this h1 λv aJ h' ⟨d,aF,ad,G',T,k1,k2,k3,k4,_,k5⟩=>mono (post k2) (fj.BP k1 ((ht.mono (k2.aI x)).put o.dst k3) k4 k5)
  |false=>exact⟨_,sN (s:=⟨t,n,ds,h⟩) h1,fj.BP x (ht.put o.dst rn) av h3⟩
def WQ(e:Env)(aj:Bool)(c:Code)(s:aE)(K:bn->aE->Prop):Prop:=match aj with
 |true=>∃x s',ov e none c s x s'/\K x s'
 |false=>WR e none c s K
def mE(G:Nat->Prop)(h:aa)(dh:ab)(K:bn->DS->Prop)(x:bn)(s':aE):Prop:=∃d' G',SD G' s' d'/\Kp G h dh G' s'.h d'.h/\K x d'
def WD(e:Env)(aj:Bool)(c:Code)(d:DS)(K:bn->DS->Prop):Prop:=∀G s,SD G s d->WQ e aj c s (mE G s.h d.h K)
def RD(e:Env)(aj:Bool):Code->DS->(bn->DS->Prop)->Prop
 |.skip,s,K=>K .normal s
 |.label _,s,K=>K .normal s
 |.scope c,s,K=>RD e aj c s K
 |.exit id,s,K=>K (.exit id) s
 |.ret,s,K=>K .ret s
 |.region _ ops true,s,K=>∀G r,SD G r s->mA e none ops.toList r (ny G r.h s.h (K .normal))
 |.region _ ops false,s,K=>fj e aj ops.toList ops.toList s.t s.n s.dd s.h (K .normal)
 |.seq a b,s,K=>RD e aj a s λx s1=>match x with|.normal=>RD e aj b s1 K|.exit i=>K (.exit i) s1|.ret=>K .ret s1
 |.cond c a b,s,K=>aG (aB e s.t c) λv=>match v with|.v (.bool v)=>(v=true->RD e aj a s K)/\(v=false->RD e aj b s K)|_=>False
 |.block id c,s,K=>RD e aj c s λx s1=>match x with|.normal=>K .normal s1|.exit i=>if i=id then K .normal s1 else K (.exit i) s1|.ret=>K .ret s1
 |.loop c,s,K=>WD e aj (.loop c) s K
 |_,_,_=>False
theorem mE.up{G G':Nat->Prop}{h h':aa}{dh ad:ab}{K:bn->DS->Prop}{x:bn}{s:aE}(k:Kp G h dh G' h' ad)(hp:mE G' h' ad K x s):mE G h dh K x s:=let⟨d,G2,q1,q2,q3⟩:=hp;⟨d,G2,q1,k.trans q2,q3⟩
theorem WQ.mono{c:Code}{s:aE}{K K':bn->aE->Prop}(h:WQ e aj c s K)(hk:∀x s,K x s->K' x s):WQ e aj c s K':=by
 cases aj with
 |true=>obtain⟨x,s',h1,h2⟩:=h;exact⟨x,s',h1,hk _ _ h2⟩
 |false=>exact WR.mono h hk
theorem WQ.seq{p q:Code}{s:aE}{K:bn->aE->Prop}(h:WQ e aj p s λx s1=>match x with|.normal=>WQ e aj q s1 K|x=>K x s1):WQ e aj (.seq p q) s K:=by
 cases aj with
 |false=>exact WR.seq h
 |true=>
  obtain⟨x,s1,h1,h2⟩:=h;cases x with
  |normal=>
   obtain⟨x2,s2,h3,h4⟩:=h2;exact⟨x2,s2,λρ a w ae n Q X ai hQ=>wpIn_seq (h1 ρ a w ae n _ X ai λa1 w1 ay q1 f1=>h3 ay a1 w1 ae n Q q1 (ai.mono f1.ext) λa2 w2 aU q2 f2=>hQ a2 w2 aU q2 (f1.trans (f2.mono f1.next))),h4⟩
  |exit i=>exact⟨_,s1,λρ a w ae n Q X ai hQ=>wpIn_seq (h1 ρ a w ae n _ X ai λa1 w1 ay q1 f1=>hQ a1 w1 ay q1 f1),h2⟩
  |ret=>exact⟨_,s1,λρ a w ae n Q X ai hQ=>wpIn_seq (h1 ρ a w ae n _ X ai λa1 w1 ay q1 f1=>hQ a1 w1 ay q1 f1),h2⟩
theorem WQ.cond{c:Operand}{p q:Code}{s:aE}{K:bn->aE->Prop}(v:Bool)(hv:au e s.t c=some (.bool v))(ht:v=true->WQ e aj p s K)(hf:v=false->WQ e aj q s K):WQ e aj (.cond c p q) s K:=by
 cases aj with
 |false=>exact WR.cond v hv ht hf
 |true=>
  cases v with
  |true=>
   obtain⟨x,s1,h1,h2⟩:=ht rfl;exact⟨x,s1,λρ a w ae n Q X ai hQ=>wpIn_cond_true (kM X.g X.t hv a.defers).pH (h1 ρ a w ae n Q X ai hQ),h2⟩
  |false=>
   obtain⟨x,s1,h1,h2⟩:=hf rfl;exact⟨x,s1,λρ a w ae n Q X ai hQ=>wpIn_cond_false (kM X.g X.t hv a.defers).pH (h1 ρ a w ae n Q X ai hQ),h2⟩
theorem WQ.block{id:Nat}{c:Code}{s:aE}{K:bn->aE->Prop}(h:WQ e aj c s λx s1=>match x with|.exit i=>if i=id then K .normal s1 else K (.exit i) s1|x=>K x s1):WQ e aj (.block id c) s K:=by
 cases aj with
 |false=>exact WR.block h
 |true=>
  obtain⟨x,s1,h1,h2⟩:=h;cases x with
  |normal=>exact⟨.normal,s1,λρ a w ae n Q X ai hQ=>wpIn_block (h1 ρ a w ae n _ X ai λa1 w1 ay q1 f1=>hQ a1 w1 ay q1 f1),h2⟩
  |ret=>exact⟨.ret,s1,λρ a w ae n Q X ai hQ=>wpIn_block (h1 ρ a w ae n _ X ai λa1 w1 ay q1 f1=>hQ a1 w1 ay q1 f1),h2⟩
  |exit i=>
   by_cases aL:i=id
   . subst aL;simp only[if_true]at h2;refine⟨.normal,s1,λρ a w ae n Q X ai hQ=>wpIn_block (h1 ρ a w ae n _ X ai λa1 w1 ay q1 f1=> ?_),h2⟩;show Exit.inBlock _ Q (.exit i) a1 w1;simp only[Exit.inBlock,if_true];exact hQ a1 w1 ay q1 f1
   . simp only[aL,if_false]at h2;refine⟨.exit i,s1,λρ a w ae n Q X ai hQ=>wpIn_block (h1 ρ a w ae n _ X ai λa1 w1 ay q1 f1=> ?_),h2⟩;show Exit.inBlock _ Q (.exit i) a1 w1;simp only[Exit.inBlock,aL,if_false];exact hQ a1 w1 ay q1 f1
theorem WQ.loop{c:Code}{K:bn->aE->Prop}(I:Nat->aE->Prop)(hI:∀j s,I j s->WQ e aj c s λx s1=>match x with|.normal=>∃j',j'<j/\I j' s1|x=>K x s1)(j:Nat)(s:aE)(hs:I j s):WQ e aj (.loop c) s K:=by
 cases aj with
 |false=>exact WR.loop I hI j s hs
 |true=>
  have key:∀(j:Nat) (s:aE),I j s->∃k x s',ow e none c x s' k s/\K x s':=by
   intro j
   induction j using Nat.strongRecOn with
   |_ j ih=>
    intro s hs;obtain⟨x,s1,h1,h2⟩:=hI j s hs;cases x with
    |normal=>
     obtain⟨j',hj,h3⟩:=h2;obtain⟨k,x,s',h4,h5⟩:=ih j' hj s1 h3;exact⟨k+1,x,s',⟨s1,h1,h4⟩,h5⟩
    |exit i=>exact⟨0,_,s1,⟨h1,by simp⟩,h2⟩
    |ret=>exact⟨0,_,s1,⟨h1,by simp⟩,h2⟩
  obtain⟨k,x,s',h1,h2⟩:=key j s hs;exact⟨x,s',h1.runs k s,h2⟩
theorem RD.wd(he:e.Ok)(aC:e.P.follows .mixedOrders=true):∀(c:Code) (d:DS) (K:bn->DS->Prop),RD e aj c d K->WD e aj c d K:=by
 intro c;have one:∀{c:Code} {s:aE} {x:bn} {K:bn->aE->Prop},ov e none c s x s->K x s->WQ e aj c s K:=λh hk=>by
  cases aj with
  |true=>exact⟨_,_,h,hk⟩
  |false=>exact h.wr hk
 induction c with
 |skip=>exactλd K h G s hs=>one (x:=.normal) (λρ a w ae n Q X ai hQ=>wpIn_skip (hQ a w ρ X (Fr.refl _ _ _ _))) ⟨d,G,hs,Kp.refl _ _ _,h⟩
 |label l=>exactλd K h G s hs=>one (x:=.normal) (λρ a w ae n Q X ai hQ=>wpIn_label (hQ a w ρ X (Fr.refl _ _ _ _))) ⟨d,G,hs,Kp.refl _ _ _,h⟩
 |scope c ih=>
  intro d K h G s hs;have h1:=ih d K h G s hs;cases aj with
  |true=>
   obtain⟨x,s',h2,h3⟩:=h1;refine⟨x,s',λρ a w ae n Q X ai hQ=>AH (h2 ρ a w ae n _ X ai λa' w' aV x' f'=> ?_),h3⟩;have:=hQ a' w' aV x' f';cases x<;>exact this
  |false=>
   intro ρ a w ae n Q X ai hQ;refine AH (h1 ρ a w ae n _ X ai λx s1 a1 w1 ay k q1 f1=> ?_);have:=hQ x s1 a1 w1 ay k q1 f1;cases x<;>exact this
 |exit id=>exactλd K h G s hs=>one (x:=.exit id) (λρ a w ae n Q X ai hQ=>wpIn_exit (hQ a w ρ X (Fr.refl _ _ _ _))) ⟨d,G,hs,Kp.refl _ _ _,h⟩
 |ret=>exactλd K h G s hs=>one (x:=.ret) (λρ a w ae n Q X ai hQ=>wpIn_ret (hQ a w ρ X (Fr.refl _ _ _ _))) ⟨d,G,hs,Kp.refl _ _ _,h⟩
 |region id ops draw=>
  intro d K h G s hs;cases draw with
  |true=>
   have h1:mA e none ops.toList s (mE G s.h d.h K .normal):=h G s hs;cases aj with
   |true=>
    obtain⟨x,s',h2,h3⟩:=RQ.runs he aC (.region id ops true) s (mE G s.h d.h K) h1;exact⟨x,s',h2,h3⟩
   |false=>exact WR.draw he aC h1
  |false=>
   obtain⟨t,n,ds,hh⟩:=s;obtain⟨q1,q2,q3,q4⟩:=hs;simp only at q1 q2 q3 q4;subst q1;cases aj with
   |true=>
    have h1:=fj.BP (l:=ops.toList) q4 ⟨q4.fF,q2⟩ q3 h;obtain⟨x,s',h2,h3⟩:=RQ.runs he aC (.region id ops false) ⟨t,d.n,ds,hh⟩ (λx s'=>x=.normal/\ny G hh d.h (K .normal) s') (by
     show iO e none ops.toList ops.toList _ _;simpa using h1)
    obtain⟨rfl,h3⟩:=h3;exact⟨_,s',h2,h3⟩
   |false=>exact WR.ops he (fj.BO (l:=ops.toList) q4 ⟨q4.fF,q2⟩ q3 h)
 |seq a b aM aN=>
  intro d K h G s hs;refine WQ.seq ((aM d _ h G s hs).mono λx s1 ⟨d1,G1,q1,q2,q3⟩=> ?_);cases x with
  |normal=>exact(aN d1 K q3 G1 s1 q1).mono λx s2=>mE.up q2
  |exit i=>exact⟨d1,G1,q1,q2,q3⟩
  |ret=>exact⟨d1,G1,q1,q2,q3⟩
 |cond c a b aM aN=>
  intro d K h G s hs;obtain⟨v,h1,h2⟩:=h
  split at h2
  . rename_i v;obtain⟨u,h3,h4⟩:=fx hs.td h1;have:=h4.cW;subst this;exact WQ.cond v h3 (λhv=>aM d K (h2.1 hv) G s hs) (λhv=>aN d K (h2.2 hv) G s hs)
  . exact h2.elim
 |block id c ih=>
  intro d K h G s hs;refine WQ.block ((ih d _ h G s hs).mono λx s1 ⟨d1,G1,q1,q2,q3⟩=> ?_);cases x with
  |normal=>exact⟨d1,G1,q1,q2,q3⟩
  |ret=>exact⟨d1,G1,q1,q2,q3⟩
  |exit i=>
   simp only at q3⊢
   split
   . rename_i hi;rw[if_pos hi]at q3;exact⟨d1,G1,q1,q2,q3⟩
   . rename_i hi;rw[if_neg hi]at q3;exact⟨d1,G1,q1,q2,q3⟩
 |loop c ih=>exactλd K h=>h
 |_=>exactλd K h=>h.elim
end Go.aw
end

/- SpacingIndependent: parts of its proof. -/
import Derived.Test.YtmhjnafgdhaemaaGreatDoorK13
open Option renaming bind_eq_some_iff->qe
open List renaming getElem?_eq_some_iff->xS,getElem?_eq_getElem->DE
set_option linter.all false
set_option maxRecDepth 100000
noncomputable section
namespace Go.au
variable {e:Env} {G:Nat->Prop} {h:aa} {dh:ab} {t:Tr Value} {dt:Tr DV} {R:Rows} {aj:Bool}
abbrev cP:DV:=.v undef
theorem p6:Rel R undef cP:=.v _
abbrev ck:Type:=DV->List FuncId->ab->List Nat->Prop
def my(G:Nat->Prop)(h:aa)(dh:ab)(K:DV->ab->List Nat->Prop)(v:Value)(h':aa):Prop:=
 ∃d ad G' T,bH G' h' ad/\Kp G h dh G' h' ad/\Rel (aI h' G') v d/\(∀i,i<h.next->i∉T->h'.get i=h.get i/\ad.get i=dh.get i)/\K d ad T
def uO(G:Nat->Prop)(h:aa)(dh:ab)(K:ck)(v:Value)(aK:List Deferred)(h':aa):Prop:=
 ∃d aF ad G' T,bH G' h' ad/\Kp G h dh G' h' ad/\Rel (aI h' G') v d/\aO rz aK aF/\(∀i,i<h.next->i∉T->h'.get i=h.get i/\ad.get i=dh.get i)/\K d aF ad T
def cJ(e:Env)(aj:Bool)(f:FuncId)(aD:List DV)(dh:ab)(K:DV->ab->List Nat->Prop):Prop:=
 ∀G h args,bH G h dh->b8 (aI h G) args aD->match aj with
  |true=>∃v h',bK e f args h v h'/\my G h dh K v h'
  |false=>e8 e f args h (my G h dh K)
def jc:Option DV->Option (List DV)->Option (FuncId×List DV)
 |some (.fn f a c),some args=>some (f,a++args++c)
 |_,_=>none
theorem QK(ht:TD R t dt){f:Operand}{l:List Operand}{p:FuncId×List DV}(hd:jc (aB e dt f) (cz e dt l)=some p):∃args,pL (aw e t f) (cR e t l)=some (p.1,args)/\b8 R args p.2:=by
 unfold jc at hd
 split at hd
 . rename_i g a c args h1 h2;cases hd;obtain⟨v,h3,h4⟩:=eP ht h1;obtain⟨vs,h5,h6⟩:=nA ht h2;obtain⟨a',c',rfl,h7,h8⟩:=h4.uK;exact⟨(a'.toList++vs)++c'.toList,by rw[h3,h5];rfl,aO.append (aO.append h7 h6) h8⟩
 . cases hd
def bY(e:Env)(aj:Bool)(op:Op)(t:Tr DV)(dd:List FuncId)(h:ab)(K:ck):Prop:=
 match op with
 |.alloc ty=>aG (dH e t (.alloc ty)) λp=>K (p.2 h.next) dd (h.new p.1) []
 |.box ty x=>aG (dH e t (.box ty x)) λp=>K (p.2 h.next) dd (h.new p.1) []
 |.buildSlice ty n ps=>aG (dH e t (.buildSlice ty n ps)) λp=>K (p.2 h.next) dd (h.new p.1) []
 |.makeMap ty n=>aG (dH e t (.makeMap ty n)) λp=>K (p.2 h.next) dd (h.new p.1) []
 |.makeSlice ty l c=>aG (dH e t (.makeSlice ty l c)) λp=>K (p.2 h.next) dd (h.new p.1) []
 |.store ty a x=>aG (kY e h ty (aB e t a) (aB e t x)) λp=>K cP dd p.1 [p.2]
 |.mapUpdate ty m k v=>aG (ja e h ty (aB e t m) (aB e t k) (aB e t v)) λp=>K cP dd p.1 [p.2]
 |.insert ty m k v=>aG (ja e h ty (aB e t m) (aB e t k) (aB e t v)) λp=>K cP dd p.1 [p.2]
 |.range ty x=>aG ((aB e t x).bind (kZ e h ty)) λo=>K (.v (.pointer (some ⟨h.next,0,none⟩))) dd (h.new o) []
 |.next it s=>match aj with
  |true=>aG ((aB e t it).bind (kh h · s)) λp=>K p.1 dd p.2.1 [p.2.2]
  |false=>(aG ((aB e t it).bind (kh h · s)) λp=>K p.1 dd p.2.1 [p.2.2])\/(s=false/\aG (aB e t it) λd=>xn h d λv h r=>K v dd h [r])
 |.entry it=>aG ((aB e t it).bind (sQ h)) λv=>K v dd h []
 |.defer c=>match c.callee with
  |.value f=>aG (jc (aB e t f) (cz e t c.args.toList)) λp=>K cP (p.1::dd) h []
  |_=>False
 |.call c=>match c.callee with
  |.value f=>aG (jc (aB e t f) (cz e t c.args.toList)) λp=>cJ e aj p.1 p.2 h λv h' T=>K v dd h' T
  |.builtin .append=>aG (jb e h c.argTypes (cz e t c.args.toList)) λp=>K p.1 dd p.2.1 p.2.2
  |_=>aG (aS e h t (.call c)) λv=>K v dd h []
 |op=>aG (aS e h t op) λv=>K v dd h []
theorem p7(ht:TD R t dt)(o:Operand):∀d,aB e dt o=some d->∃u,aw e t o=some u/\Rel R u d:=λd hd=>eP ht hd
def ib(e:Env)(aj:Bool)(op:Op)(t:Tr Value)(ds:List Deferred)(h:aa)(K:Kt):Prop:=match aj with
 |true=>bA e none op t ds h K
 |false=>iU e none op t ds h K
theorem ib.of{op:Op}{ds:List Deferred}{K:Kt}(hs:bA e none op t ds h K)(hc:∀c f,op=.call c->c.callee≠.value f):ib e aj op t ds h K:=by
 cases aj with
 |true=>exact hs
 |false=>
  show iU e none op t ds h K;cases op with
  |call c=>
   unfold iU;simp only
   split
   . rename_i f hf;exact absurd hf (hc c f rfl)
   . exact hs
  |next it s=>exact .inl hs
  |_=>exact hs
theorem bY.x(x:bH G h dh)(ht:TD (aI h G) t dt){ds:List Deferred}{dd:List FuncId}(av:aO rz ds dd){op:Op}{K:ck}(hs:bY e aj op dt dd dh K):ib e aj op t ds h (uO G h dh K):=by
 have val:∀{d:DV},aS e dh dt op=some d->K d dd dh []->∃v,bu e h t op=some v/\uO G h dh K v ds h:=λhv hk=>by
  obtain⟨v,h1,h2⟩:=xm x ht hv;exact⟨v,h1,_,dd,dh,G,[],x,Kp.refl _ _ _,h2,av,λ_ _ _=>⟨rfl,rfl⟩,hk⟩
 have alloc:∀{p:bx×(Nat->DV)},dH e dt op=some p->K (p.2 dh.next) dd (dh.new p.1) []->∃p:bF×(Nat->Value),cF e t op=some p/\uO G h dh K (p.2 h.next) ds (h.new p.1):=λ{p} hv hk=>by
  obtain⟨o,f⟩:=p;obtain⟨ao,af,h1,h2,h3⟩:=EN ht hv;obtain⟨k1,k2⟩:=x.new h2;refine⟨(ao,af),h1,_,dd,_,G,[],k1,k2, ?_,av,λi hi _=>⟨bD _ _ _ (by omega),by rw[ab.di,if_neg (by have:=x.next;omega)]⟩,hk⟩;rw[x.next];exact h3 _ _
 cases op with
 |alloc ty=>obtain⟨p,h1,h2⟩:=hs;exact ib.of (alloc h1 h2) (λc f hc=>by cases hc)
 |box ty o=>obtain⟨p,h1,h2⟩:=hs;exact ib.of (alloc h1 h2) (λc f hc=>by cases hc)
 |buildSlice ty n ps=>obtain⟨p,h1,h2⟩:=hs;exact ib.of (alloc h1 h2) (λc f hc=>by cases hc)
 |makeMap ty n=>obtain⟨p,h1,h2⟩:=hs;exact ib.of (alloc h1 h2) (λc f hc=>by cases hc)
 |makeSlice ty l c=>obtain⟨p,h1,h2⟩:=hs;exact ib.of (alloc h1 h2) (λc f hc=>by cases hc)
 |store ty a o=>
  obtain⟨⟨ad,b⟩,h1,h2⟩:=hs;obtain⟨h',k1,k2,k3,k4⟩:=QD x (p7 ht a) (p7 ht o) h1;exact ib.of ⟨h',k1,cP,dd,ad,G,[b],k2,k3,p6,av,λi _ hi=>k4 i (by simpa using hi),h2⟩ (λc f hc=>by cases hc)
 |mapUpdate ty m k v=>
  obtain⟨⟨ad,b⟩,h1,h2⟩:=hs;obtain⟨h',k1,k2,k3,k4⟩:=EP x (p7 ht m) (p7 ht k) (p7 ht v) h1;exact ib.of ⟨h',k1,cP,dd,ad,G,[b],k2,k3,p6,av,λi _ hi=>k4 i (by simpa using hi),h2⟩ (λc f hc=>by cases hc)
 |insert ty m k v=>
  obtain⟨⟨ad,b⟩,h1,h2⟩:=hs;obtain⟨h',k1,k2,k3,k4⟩:=EP x (p7 ht m) (p7 ht k) (p7 ht v) h1;exact ib.of ⟨h',k1,cP,dd,ad,G,[b],k2,k3,p6,av,λi _ hi=>k4 i (by simpa using hi),h2⟩ (λc f hc=>by cases hc)
 |range ty o=>
  obtain⟨ob,h1,h2⟩:=hs;obtain⟨d,h3,h4⟩:=qe.1 h1;obtain⟨v,h5,h6⟩:=eP ht h3;obtain⟨ao,h7,h8⟩:=QH x h6 h4;obtain⟨k1,k2⟩:=x.new h8;refine ib.of ⟨ao,by rw[h5];exact h7,_,dd,_,G,[],k1,k2,by rw[x.next];exact .v _,av,λi hi _=>⟨bD _ _ _ (by omega),by rw[ab.di,if_neg (by have:=x.next;omega)]⟩,h2⟩ (λc f hc=>by cases hc)
 |next it s=>
  have one:(aG ((aB e dt it).bind (kh dh · s)) λp=>K p.1 dd p.2.1 [p.2.2])->ib e aj (.next it s) t ds h (uO G h dh K):=λhs=>by
   obtain⟨⟨d,ad,b⟩,h1,h2⟩:=hs;obtain⟨aQ,h3,h4⟩:=qe.1 h1;obtain⟨v,h5,h6⟩:=eP ht h3;obtain⟨u,h',k1,k2,k3,k4,k5⟩:=QI x h6 h4;exact ib.of ⟨(u,h'),by rw[h5];exact k1,d,dd,ad,G,[b],k3,k4,k2,av,λi _ hi=>k5 i (by simpa using hi),h2⟩ (λc f hc=>by cases hc)
  cases aj with
  |true=>exact one hs
  |false=>
   rcases hs with hs|⟨rfl,d,h1,h2⟩
   . exact one hs
   . obtain⟨v,h3,h4⟩:=eP ht h1;refine .inr ⟨rfl,v,h3, ?_⟩;obtain⟨r,m,since,seen,last,es,clock,q1,q2,q3,q4,q5,q6,q7⟩:=h2.ok x h4;have post:∀u h',(∃d ad b,bH G h' ad/\Kp G h dh G h' ad/\Rel (aI h' G) u d/\(∀i,i≠b->h'.get i=h.get i/\ad.get i=dh.get i)/\K d dd ad [b])->uO G h dh K u ds h':=λu h' ⟨d,ad,b,p1,p2,p3,p4,p5⟩=>
      ⟨d,dd,ad,G,[b],p1,p2,p3,av,λi _ hi=>p4 i (by simpa using hi),p5⟩
     exact⟨r,m,since,seen,last,es,clock,q1,q2,q3,q4,q5,λha=>post _ _ (q6 ha),λy hy hn=>post _ _ (q7 y hy hn)⟩
 |entry it=>
  obtain⟨d,h1,h2⟩:=hs;obtain⟨aQ,h3,h4⟩:=qe.1 h1;obtain⟨v,h5,h6⟩:=eP ht h3;obtain⟨u,k1,k2⟩:=QJ x h6 h4;exact ib.of ⟨u,by rw[h5];exact k1,d,dd,dh,G,[],x,Kp.refl _ _ _,k2,av,λ_ _ _=>⟨rfl,rfl⟩,h2⟩ (λc f hc=>by cases hc)
 |defer c=>
  refine ib.of ?_ (λc f hc=>by cases hc);simp only[bY]at hs
  split at hs
  . rename_i f hf;simp only[bA,hf];obtain⟨p,h1,h2⟩:=hs;unfold jc at h1
    split at h1
    . rename_i g a cp args h3 h4;cases h1;obtain⟨v,h5,h6⟩:=eP ht h3;obtain⟨vs,h7,h8⟩:=nA ht h4;obtain⟨a',c',rfl,h9,aX⟩:=h6.uK;refine⟨trivial,vs,h7,_,by rw[h5];rfl, ?_⟩;exact⟨cP,g::dd,dh,G,[],x,Kp.refl _ _ _,p6,.cons ⟨_,_,rfl⟩ av,λ_ _ _=>⟨rfl,rfl⟩,h2⟩
    . cases h1
  . cases hs
 |call c=>
  simp only[bY]at hs
  split at hs
  . rename_i f hf;obtain⟨p,h1,h2⟩:=hs;obtain⟨args,h3,h4⟩:=QK ht h1;have h5:=h2 G h args x h4;cases aj with
    |true=>
     obtain⟨v,h',h6,d,ad,G',T,k1,k2,k3,k4,k5⟩:=h5;show bA e none (.call c) t ds h _;simp only[bA,hf];exact⟨_,h3,v,h',h6,d,dd,ad,G',T,k1,k2,k3,av,k4,k5⟩
    |false=>
     show iU e none (.call c) t ds h _;simp only[iU,hf];exact⟨_,h3,h5.mono λv h' ⟨d,ad,G',T,k1,k2,k3,k4,k5⟩=>⟨d,dd,ad,G',T,k1,k2,k3,av,k4,k5⟩⟩
  . rename_i hf;refine ib.of ?_ (λc' f hc hv=>by cases hc;rw[hf]at hv;cases hv);obtain⟨⟨d,ad,T⟩,h1,h2⟩:=hs;obtain⟨v,h',k1,k2,k3,k4,k5⟩:=QG x (λl hl=>nA ht hl) h1;simp only[bA,hf];exact⟨(v,h'),k1,d,dd,ad,G,T,k3,k4,k2,av,k5,h2⟩
  . rename_i aP aR;obtain⟨d,h1,h2⟩:=hs;refine ib.of ?_ (λc' f hc hv=>by cases hc;exact aP f hv);obtain⟨v,h3,h4⟩:=val h1 h2;simp only[bA]
    split
    . rename_i f hf;exact absurd hf (aP f)
    . rename_i hf;exact absurd hf aR
    . rename_i hf;simp[aS,hf]at h1
    . exact⟨v,h3,h4⟩
 |_=>obtain⟨d,h1,h2⟩:=hs;exact ib.of (val h1 h2) (λc f hc=>by cases hc)
def cq(dst:Option Tmp)(v:DV)(t:Tr DV):Tr DV:=match dst with|none=>t|some d=>t.set d (some v)
theorem TD.put(ht:TD R t dt)(dst:Option Tmp){v:Value}{d:DV}(hv:Rel R v d):TD R (bB dst v t) (cq dst d dt):=by
 cases dst with
 |none=>exact ht
 |some k=>
  refine⟨ht.tb,λi u hu=> ?_⟩;simp only[cq,Tr.bn]at hu;simp only[bB,Tr.bn]
  split at hu
  . rename_i hi;cases hu;exact⟨v,by rw[if_pos hi],hv⟩
  . rename_i hi;rw[if_neg hi];exact ht i u hu
theorem TD.mono{R':Rows}(hR:∀i r,R i=some r->R' i=some r)(ht:TD R t dt):TD R' t dt:=⟨ht.tb.mono hR,λi v hv=>let⟨u,h1,h2⟩:=ht i v hv;⟨u,h1,h2.mono hR⟩⟩
def ic(ops:List Oper)(t:Tr DV)(o:Oper):Option Bool:=
 match o.guard with
 |none=>some true
 |some (j,want)=>match(ops[j]?).bind (·.dst)with
  |none=>none
  |some d=>match t.get d with
   |some (.v (.bool b))=>some (b==want)
   |some (.v (.tuple _))=>some false
   |some (.bb _)=>some false
   |_=>none
theorem Ag(ht:TD R t dt){ops:List Oper}{o:Oper}{b:Bool}{n:Nat}{ds:List Deferred}(hd:ic ops dt o=some b):cH ops ⟨t,n,ds,h⟩ o=some b:=by
 unfold ic at hd;unfold cH
 split at hd
 . rename_i hg;rw[hg];exact hd
 . rename_i j w hg;rw[hg];simp only
   split at hd
   . cases hd
   . rename_i d aT;simp only[aT]
     split at hd
     . rename_i q hq;obtain⟨u,h1,h2⟩:=ht d _ hq;have:=h2.cG;subst this;simp only[h1];exact hd
     . rename_i q hq;obtain⟨u,h1,h2⟩:=ht d _ hq;have:=h2.cG;subst this;simp only[h1];exact hd
     . rename_i q hq;obtain⟨u,h1,h2⟩:=ht d _ hq;obtain⟨a,rfl,_⟩:=h2.zU;simp only[h1];exact hd
     . cases hd
def eI(e:Env)(aj:Bool)(ops:List Oper):List Oper->Tr DV->Nat->List FuncId->ab->(DS->Prop)->Prop
 |[],t,n,dd,h,K=>K ⟨t,n,dd,h⟩
 |o::r,t,n,dd,h,K=>c9 o.dst n/\aG (ic ops t o) λw=>match w with
  |true=>bY e aj o.op t dd h λv dd h _=>eI e aj ops r (cq o.dst v t) n dd h K
  |false=>eI e aj ops r (cq o.dst cP t) n dd h K
def mz(G:Nat->Prop)(h:aa)(dh:ab)(K:DS->Prop)(s':aE):Prop:=∃d' G',SD G' s' d'/\Kp G h dh G' s'.h d'.h/\K d'
theorem bA.mono{op:Op}{ds:List Deferred}{K K':Kt}(hk:∀v ds h,K v ds h->K' v ds h)(hs:bA e none op t ds h K):bA e none op t ds h K':=by
 cases op with
 |alloc ty=>obtain⟨p,h1,h2⟩:=hs;exact⟨p,h1,hk _ _ _ h2⟩
 |box ty x=>obtain⟨p,h1,h2⟩:=hs;exact⟨p,h1,hk _ _ _ h2⟩
 |buildSlice ty n ps=>obtain⟨p,h1,h2⟩:=hs;exact⟨p,h1,hk _ _ _ h2⟩
 |makeMap ty n=>obtain⟨p,h1,h2⟩:=hs;exact⟨p,h1,hk _ _ _ h2⟩
 |makeSlice ty l c=>obtain⟨p,h1,h2⟩:=hs;exact⟨p,h1,hk _ _ _ h2⟩
 |store ty a o=>obtain⟨p,h1,h2⟩:=hs;exact⟨p,h1,hk _ _ _ h2⟩
 |mapUpdate ty m k v=>obtain⟨p,h1,h2⟩:=hs;exact⟨p,h1,hk _ _ _ h2⟩
 |insert ty m k v=>obtain⟨p,h1,h2⟩:=hs;exact⟨p,h1,hk _ _ _ h2⟩
 |range ty o=>obtain⟨p,h1,h2⟩:=hs;exact⟨p,h1,hk _ _ _ h2⟩
 |next it s=>obtain⟨p,h1,h2⟩:=hs;exact⟨p,h1,hk _ _ _ h2⟩
 |entry it=>obtain⟨p,h1,h2⟩:=hs;exact⟨p,h1,hk _ _ _ h2⟩
 |defer c=>
  simp only[bA]at hs⊢
  split at hs
  . obtain⟨h0,a,h1,x,h2,h3⟩:=hs;refine⟨h0,a,h1,x,h2, ?_⟩
    split at h3
    . exact hk _ _ _ h3
    . exact h3.elim
  . exact hs
 |call c=>
  simp only[bA]at hs⊢
  split at hs
  . obtain⟨p,h1,v,h',h2,h3⟩:=hs;exact⟨p,h1,v,h',h2,hk _ _ _ h3⟩
  . obtain⟨p,h1,h2⟩:=hs;exact⟨p,h1,hk _ _ _ h2⟩
  . obtain⟨p,h1,h2⟩:=hs;exact⟨p,h1,hk _ _ _ h2⟩
  . obtain⟨p,h1,h2⟩:=hs;exact⟨p,h1,hk _ _ _ h2⟩
 |_=>obtain⟨p,h1,h2⟩:=hs;exact⟨p,h1,hk _ _ _ h2⟩
theorem iU.mono{op:Op}{ds:List Deferred}{K K':Kt}(hk:∀v ds h,K v ds h->K' v ds h)(hs:iU e none op t ds h K):iU e none op t ds h K':=by
 cases op with
 |call c=>
  simp only[iU]at hs⊢
  split at hs
  . obtain⟨p,h1,h2⟩:=hs;exact⟨p,h1,h2.mono λv h'=>hk v ds h'⟩
  . exact bA.mono hk hs
 |next it s=>
  simp only[iU]at hs⊢;rcases hs with hs|⟨rfl,v,hv,r,m,since,seen,last,es,clock,q1,q2,q3,q4,q5,q6,q7⟩
  . exact .inl (bA.mono hk hs)
  . exact .inr ⟨rfl,v,hv,r,m,since,seen,last,es,clock,q1,q2,q3,q4,q5,λha=>hk _ _ _ (q6 ha),λy hy hn=>hk _ _ _ (q7 y hy hn)⟩
 |_=>simp only[iU]at hs⊢;exact bA.mono hk hs
theorem eI.Ah{ops:List Oper}{n:Nat}{K:DS->Prop}:∀{l:List Oper} {G:Nat->Prop} {t:Tr Value} {dt:Tr DV} {ds:List Deferred} {dd:List FuncId} {h:aa} {dh:ab},bH G h dh->TD (aI h G) t dt->aO rz ds dd->eI e false ops l dt n dd dh K->nz e none ops l t n ds h (mz G h dh K)
 |[],G,t,dt,ds,dd,h,dh,x,ht,av,hs=>⟨⟨dt,n,dd,dh⟩,G,⟨rfl,ht,av,x⟩,Kp.refl _ _ _,hs⟩
 |o::r,G,t,dt,ds,dd,h,dh,x,ht,av,hs=>by
  obtain⟨h1,w,h2,h3⟩:=hs;simp only[nz];rw[Ag ht h2];refine⟨h1, ?_⟩;have post:∀{G':Nat->Prop} {h':aa} {ad:ab},Kp G h dh G' h' ad->∀(s':aE),mz G' h' ad K s'->mz G h dh K s':=λk _ ⟨d',G2,q1,q2,q3⟩=>⟨d',G2,q1,k.trans q2,q3⟩;have mono:∀{l:List Oper} {t:Tr Value} {ds:List Deferred} {h:aa} {A B:aE->Prop},(∀s,A s->B s)->nz e none ops l t n ds h A->nz e none ops l t n ds h B:=by
   intro l
   induction l with
   |nil=>exactλaA hs=>aA _ hs
   |cons o r ih=>
    intro t ds h A B aA hs;simp only[nz]at hs⊢;refine⟨hs.1, ?_⟩;have hs:=hs.2
    split at hs
    . exact hs
    . exact iU.mono (λv ds h=>ih aA) hs
    . exact ih aA hs
  cases w with
  |true=>exact iU.mono (λv aK h' ⟨d,aF,ad,G',T,k1,k2,k3,k4,_,k5⟩=>mono (post k2) (eI.Ah k1 ((ht.mono (k2.aI x)).put o.dst k3) k4 k5)) (bY.x (aj:=false) x ht av h3)
  |false=>exact eI.Ah x (ht.put o.dst p6) av h3
theorem eI.Ai{ops:List Oper}{n:Nat}{K:DS->Prop}:∀{l:List Oper} {G:Nat->Prop} {t:Tr Value} {dt:Tr DV} {ds:List Deferred} {dd:List FuncId} {h:aa} {dh:ab},bH G h dh->TD (aI h G) t dt->aO rz ds dd->eI e true ops l dt n dd dh K->hD e none ops l ⟨t,n,ds,h⟩ (mz G h dh K)
 |[],G,t,dt,ds,dd,h,dh,x,ht,av,hs=>⟨⟨dt,n,dd,dh⟩,G,⟨rfl,ht,av,x⟩,Kp.refl _ _ _,hs⟩
 |o::r,G,t,dt,ds,dd,h,dh,x,ht,av,hs=>by
  obtain⟨h1,w,h2,h3⟩:=hs;simp only[hD];rw[Ag ht h2];have post:∀{G':Nat->Prop} {h':aa} {ad:ab},Kp G h dh G' h' ad->∀(s':aE),mz G' h' ad K s'->mz G h dh K s':=λk _ ⟨d',G2,q1,q2,q3⟩=>⟨d',G2,q1,k.trans q2,q3⟩;have mono:∀{l:List Oper} {s:aE} {A B:aE->Prop},(∀s,A s->B s)->hD e none ops l s A->hD e none ops l s B:=by
   intro l
   induction l with
   |nil=>exactλaA hs=>aA _ hs
   |cons o r ih=>
    intro s A B aA h;simp only[hD]at h⊢
    split at h
    . exact h
    . unfold lC at h⊢
      split at h
      . exact h
      . exact⟨_,h.choose_spec.1,ih aA h.choose_spec.2⟩
      . exact⟨_,h.choose_spec.1,ih aA h.choose_spec.2⟩
      . obtain⟨v,h',h1,s',h2,h3⟩:=h;exact⟨v,h',h1,s',h2,ih aA h3⟩
      . exact h
      . exact⟨h.1,_,h.2.choose_spec.1,ih aA h.2.choose_spec.2⟩
    . exact⟨_,h.choose_spec.1,ih aA h.choose_spec.2⟩
  cases w with
  |true=>
   have:=bY.x (aj:=true) x ht av h3;exact bA.wM this h1 λv aK h' ⟨d,aF,ad,G',T,k1,k2,k3,k4,_,k5⟩=>mono (post k2) (eI.Ai k1 ((ht.mono (k2.aI x)).put o.dst k3) k4 k5)
  |false=>exact⟨_,q9 (s:=⟨t,n,ds,h⟩) h1,eI.Ai x (ht.put o.dst p6) av h3⟩
def WQ(e:Env)(aj:Bool)(c:Code)(s:aE)(K:bk->aE->Prop):Prop:=match aj with
 |true=>∃x s',nj e none c s x s'/\K x s'
 |false=>WR e none c s K
def lI(G:Nat->Prop)(h:aa)(dh:ab)(K:bk->DS->Prop)(x:bk)(s':aE):Prop:=∃d' G',SD G' s' d'/\Kp G h dh G' s'.h d'.h/\K x d'
def WD(e:Env)(aj:Bool)(c:Code)(d:DS)(K:bk->DS->Prop):Prop:=∀G s,SD G s d->WQ e aj c s (lI G s.h d.h K)
def RD(e:Env)(aj:Bool):Code->DS->(bk->DS->Prop)->Prop
 |.skip,s,K=>K .normal s
 |.label _,s,K=>K .normal s
 |.scope c,s,K=>RD e aj c s K
 |.exit id,s,K=>K (.exit id) s
 |.ret,s,K=>K .ret s
 |.region _ ops true,s,K=>∀G r,SD G r s->lD e none ops.toList r (mz G r.h s.h (K .normal))
 |.region _ ops false,s,K=>eI e aj ops.toList ops.toList s.t s.n s.dd s.h (K .normal)
 |.seq a b,s,K=>RD e aj a s λx s1=>match x with|.normal=>RD e aj b s1 K|.exit i=>K (.exit i) s1|.ret=>K .ret s1
 |.cond c a b,s,K=>aG (aB e s.t c) λv=>match v with|.v (.bool v)=>(v=true->RD e aj a s K)/\(v=false->RD e aj b s K)|_=>False
 |.block id c,s,K=>RD e aj c s λx s1=>match x with|.normal=>K .normal s1|.exit i=>if i=id then K .normal s1 else K (.exit i) s1|.ret=>K .ret s1
 |.loop c,s,K=>WD e aj (.loop c) s K
 |_,_,_=>False
theorem lI.up{G G':Nat->Prop}{h h':aa}{dh ad:ab}{K:bk->DS->Prop}{x:bk}{s:aE}(k:Kp G h dh G' h' ad)(hp:lI G' h' ad K x s):lI G h dh K x s:=let⟨d,G2,q1,q2,q3⟩:=hp;⟨d,G2,q1,k.trans q2,q3⟩
theorem WQ.mono{c:Code}{s:aE}{K K':bk->aE->Prop}(h:WQ e aj c s K)(hk:∀x s,K x s->K' x s):WQ e aj c s K':=by
 cases aj with
 |true=>obtain⟨x,s',h1,h2⟩:=h;exact⟨x,s',h1,hk _ _ h2⟩
 |false=>exact WR.mono h hk
theorem WQ.seq{p q:Code}{s:aE}{K:bk->aE->Prop}(h:WQ e aj p s λx s1=>match x with|.normal=>WQ e aj q s1 K|x=>K x s1):WQ e aj (.seq p q) s K:=by
 cases aj with
 |false=>exact WR.seq h
 |true=>
  obtain⟨x,s1,h1,h2⟩:=h;cases x with
  |normal=>
   obtain⟨x2,s2,h3,h4⟩:=h2;exact⟨x2,s2,λρ a w ae n Q X ai hQ=>wpIn_seq (h1 ρ a w ae n _ X ai λa1 w1 az q1 f1=>h3 az a1 w1 ae n Q q1 (ai.mono f1.ext) λa2 w2 aU q2 f2=>hQ a2 w2 aU q2 (f1.trans (f2.mono f1.next))),h4⟩
  |exit i=>exact⟨_,s1,λρ a w ae n Q X ai hQ=>wpIn_seq (h1 ρ a w ae n _ X ai λa1 w1 az q1 f1=>hQ a1 w1 az q1 f1),h2⟩
  |ret=>exact⟨_,s1,λρ a w ae n Q X ai hQ=>wpIn_seq (h1 ρ a w ae n _ X ai λa1 w1 az q1 f1=>hQ a1 w1 az q1 f1),h2⟩
theorem WQ.cond{c:Operand}{p q:Code}{s:aE}{K:bk->aE->Prop}(v:Bool)(hv:aw e s.t c=some (.bool v))(ht:v=true->WQ e aj p s K)(hf:v=false->WQ e aj q s K):WQ e aj (.cond c p q) s K:=by
 cases aj with
 |false=>exact WR.cond v hv ht hf
 |true=>
  cases v with
  |true=>
   obtain⟨x,s1,h1,h2⟩:=ht rfl;exact⟨x,s1,λρ a w ae n Q X ai hQ=>wpIn_cond_true (j5 X.g X.t hv a.defers).oo (h1 ρ a w ae n Q X ai hQ),h2⟩
  |false=>
   obtain⟨x,s1,h1,h2⟩:=hf rfl;exact⟨x,s1,λρ a w ae n Q X ai hQ=>wpIn_cond_false (j5 X.g X.t hv a.defers).oo (h1 ρ a w ae n Q X ai hQ),h2⟩
theorem WQ.block{id:Nat}{c:Code}{s:aE}{K:bk->aE->Prop}(h:WQ e aj c s λx s1=>match x with|.exit i=>if i=id then K .normal s1 else K (.exit i) s1|x=>K x s1):WQ e aj (.block id c) s K:=by
 cases aj with
 |false=>exact WR.block h
 |true=>
  obtain⟨x,s1,h1,h2⟩:=h;cases x with
  |normal=>exact⟨.normal,s1,λρ a w ae n Q X ai hQ=>wpIn_block (h1 ρ a w ae n _ X ai λa1 w1 az q1 f1=>hQ a1 w1 az q1 f1),h2⟩
  |ret=>exact⟨.ret,s1,λρ a w ae n Q X ai hQ=>wpIn_block (h1 ρ a w ae n _ X ai λa1 w1 az q1 f1=>hQ a1 w1 az q1 f1),h2⟩
  |exit i=>
   by_cases aL:i=id
   . subst aL;simp only[if_true]at h2;refine⟨.normal,s1,λρ a w ae n Q X ai hQ=>wpIn_block (h1 ρ a w ae n _ X ai λa1 w1 az q1 f1=> ?_),h2⟩;show Exit.inBlock _ Q (.exit i) a1 w1;simp only[Exit.inBlock,if_true];exact hQ a1 w1 az q1 f1
   . simp only[aL,if_false]at h2;refine⟨.exit i,s1,λρ a w ae n Q X ai hQ=>wpIn_block (h1 ρ a w ae n _ X ai λa1 w1 az q1 f1=> ?_),h2⟩;show Exit.inBlock _ Q (.exit i) a1 w1;simp only[Exit.inBlock,aL,if_false];exact hQ a1 w1 az q1 f1
theorem WQ.loop{c:Code}{K:bk->aE->Prop}(I:Nat->aE->Prop)(hI:∀j s,I j s->WQ e aj c s λx s1=>match x with|.normal=>∃j',j'<j/\I j' s1|x=>K x s1)(j:Nat)(s:aE)(hs:I j s):WQ e aj (.loop c) s K:=by
 cases aj with
 |false=>exact WR.loop I hI j s hs
 |true=>
  have key:∀(j:Nat) (s:aE),I j s->∃k x s',nk e none c x s' k s/\K x s':=by
   intro j
   induction j using Nat.strongRecOn with
   |_ j ih=>
    intro s hs;obtain⟨x,s1,h1,h2⟩:=hI j s hs;cases x with
    |normal=>
     obtain⟨j',hj,h3⟩:=h2;obtain⟨k,x,s',h4,h5⟩:=ih j' hj s1 h3;exact⟨k+1,x,s',⟨s1,h1,h4⟩,h5⟩
    |exit i=>exact⟨0,_,s1,⟨h1,by simp⟩,h2⟩
    |ret=>exact⟨0,_,s1,⟨h1,by simp⟩,h2⟩
  obtain⟨k,x,s',h1,h2⟩:=key j s hs;exact⟨x,s',h1.runs k s,h2⟩
theorem RD.wd(he:e.Ok)(aC:e.P.follows .mixedOrders=true):∀(c:Code) (d:DS) (K:bk->DS->Prop),RD e aj c d K->WD e aj c d K:=by
 intro c;have one:∀{c:Code} {s:aE} {x:bk} {K:bk->aE->Prop},nj e none c s x s->K x s->WQ e aj c s K:=λh hk=>by
  cases aj with
  |true=>exact⟨_,_,h,hk⟩
  |false=>exact h.wr hk
 induction c with
 |skip=>exactλd K h G s hs=>one (x:=.normal) (λρ a w ae n Q X ai hQ=>wpIn_skip (hQ a w ρ X (Fr.refl _ _ _ _))) ⟨d,G,hs,Kp.refl _ _ _,h⟩
 |label l=>exactλd K h G s hs=>one (x:=.normal) (λρ a w ae n Q X ai hQ=>wpIn_label (hQ a w ρ X (Fr.refl _ _ _ _))) ⟨d,G,hs,Kp.refl _ _ _,h⟩
 |scope c ih=>
  intro d K h G s hs;have h1:=ih d K h G s hs;cases aj with
  |true=>
   obtain⟨x,s',h2,h3⟩:=h1;refine⟨x,s',λρ a w ae n Q X ai hQ=>ze (h2 ρ a w ae n _ X ai λa' w' aW x' f'=> ?_),h3⟩;have:=hQ a' w' aW x' f';cases x<;>exact this
  |false=>
   intro ρ a w ae n Q X ai hQ;refine ze (h1 ρ a w ae n _ X ai λx s1 a1 w1 az k q1 f1=> ?_);have:=hQ x s1 a1 w1 az k q1 f1;cases x<;>exact this
 |exit id=>exactλd K h G s hs=>one (x:=.exit id) (λρ a w ae n Q X ai hQ=>wpIn_exit (hQ a w ρ X (Fr.refl _ _ _ _))) ⟨d,G,hs,Kp.refl _ _ _,h⟩
 |ret=>exactλd K h G s hs=>one (x:=.ret) (λρ a w ae n Q X ai hQ=>wpIn_ret (hQ a w ρ X (Fr.refl _ _ _ _))) ⟨d,G,hs,Kp.refl _ _ _,h⟩
 |region id ops draw=>
  intro d K h G s hs;cases draw with
  |true=>
   have h1:lD e none ops.toList s (lI G s.h d.h K .normal):=h G s hs;cases aj with
   |true=>
    obtain⟨x,s',h2,h3⟩:=RQ.runs he aC (.region id ops true) s (lI G s.h d.h K) h1;exact⟨x,s',h2,h3⟩
   |false=>exact WR.draw he aC h1
  |false=>
   obtain⟨t,n,ds,hh⟩:=s;obtain⟨q1,q2,q3,q4⟩:=hs;simp only at q1 q2 q3 q4;subst q1;cases aj with
   |true=>
    have h1:=eI.Ai (l:=ops.toList) q4 ⟨q4.eU,q2⟩ q3 h;obtain⟨x,s',h2,h3⟩:=RQ.runs he aC (.region id ops false) ⟨t,d.n,ds,hh⟩ (λx s'=>x=.normal/\mz G hh d.h (K .normal) s') (by
     show hD e none ops.toList ops.toList _ _;simpa using h1)
    obtain⟨rfl,h3⟩:=h3;exact⟨_,s',h2,h3⟩
   |false=>exact WR.ops he (eI.Ah (l:=ops.toList) q4 ⟨q4.eU,q2⟩ q3 h)
 |seq a b aM aN=>
  intro d K h G s hs;refine WQ.seq ((aM d _ h G s hs).mono λx s1 ⟨d1,G1,q1,q2,q3⟩=> ?_);cases x with
  |normal=>exact(aN d1 K q3 G1 s1 q1).mono λx s2=>lI.up q2
  |exit i=>exact⟨d1,G1,q1,q2,q3⟩
  |ret=>exact⟨d1,G1,q1,q2,q3⟩
 |cond c a b aM aN=>
  intro d K h G s hs;obtain⟨v,h1,h2⟩:=h
  split at h2
  . rename_i v;obtain⟨u,h3,h4⟩:=eP hs.td h1;have:=h4.cG;subst this;exact WQ.cond v h3 (λhv=>aM d K (h2.1 hv) G s hs) (λhv=>aN d K (h2.2 hv) G s hs)
  . exact h2.elim
 |block id c ih=>
  intro d K h G s hs;refine WQ.block ((ih d _ h G s hs).mono λx s1 ⟨d1,G1,q1,q2,q3⟩=> ?_);cases x with
  |normal=>exact⟨d1,G1,q1,q2,q3⟩
  |ret=>exact⟨d1,G1,q1,q2,q3⟩
  |exit i=>
   simp only at q3⊢
   split
   . rename_i hi;rw[if_pos hi]at q3;exact⟨d1,G1,q1,q2,q3⟩
   . rename_i hi;rw[if_neg hi]at q3;exact⟨d1,G1,q1,q2,q3⟩
 |loop c ih=>exactλd K h=>h
 |_=>exactλd K h=>h.elim
end Go.au
end
noncomputable section
namespace Go.au
variable {e:Env} {G:Nat->Prop} {h:aa} {dh:ab} {t:Tr Value} {dt:Tr DV} {R:Rows} {aj:Bool}
abbrev eR:=Nat->Option (List DV×Nat)
inductive Fz(S:eR):DV->DV->Prop
 |refl (d:DV):Fz S d d
 |agg {a l:List DV}:a.length=l.length->(∀(i:Nat) (v d:DV),a[i]? =some v->l[i]? =some d->Fz S v d)->Fz S (.agg a) (.agg l)
 |bb {a l:List DV}:a.length=l.length->(∀(i:Nat) (v d:DV),a[i]? =some v->l[i]? =some d->Fz S v d)->Fz S (.bb a) (.bb l)
 |fn {f:FuncId} {a c a' c':List DV}:a.length=a'.length->(∀(i:Nat) (v d:DV),a[i]? =some v->a'[i]? =some d->Fz S v d)->c.length=c'.length->(∀(i:Nat) (v d:DV),c[i]? =some v->c'[i]? =some d->Fz S v d)->Fz S (.fn f a c) (.fn f a' c')
 |nil {c k:Nat}:0<k->Fz S (.v (.slice none 0 c)) (.sl k [])
 |sl {b o c k ah n:Nat} {cs:List DV} {xs:List (List DV)}:S b=some (cs,ah)->(ah=0\/ah=k)->0<k->n=xs.length->n<=c->(∀x∈xs,x.length=k)->o+xs.length*k<=cs.length->
  (∀(j:Nat) (x:List DV) (i:Nat) (v d:DV),xs[j]? =some x->x[i]? =some d->cs[o+j*k+i]? =some v->Fz S v d)->Fz S (.v (.slice (some ⟨b,o,none⟩) n c)) (.sl k xs)
 |ptr {b o off ah:Nat} {cs:List DV} {xs:List DV}:S b=some (cs,ah)->o+xs.length<=cs.length->(∀(i:Nat) (v d:DV),xs[i]? =some d->cs[o+i]? =some v->Fz S v d)->Fz S (.v (.pointer (some ⟨b,o+off,none⟩))) (.ptr xs off)
 |sub {k:Nat} {xs ys:List (List DV)}:xs.length=ys.length->(∀(j:Nat) (x y:List DV),xs[j]? =some x->ys[j]? =some y->x.length=y.length)->(∀(j:Nat) (x y:List DV) (i:Nat) (v d:DV),xs[j]? =some x->ys[j]? =some y->x[i]? =some v->y[i]? =some d->Fz S v d)->Fz S (.sl k xs) (.sl k ys)
abbrev cA(S:eR):List DV->List DV->Prop:=aO (Fz S)
theorem Fz.dG{S:eR}{a l:List DV}(h:cA S a l):Fz S (.agg a) (.agg l):=.agg h.length λi v d h1 h2=>by
 obtain⟨d',h3,h4⟩:=h.get i v h1;rw[h2]at h3;cases h3;exact h4
theorem Fz.jG{S:eR}{a l:List DV}(h:cA S a l):Fz S (.bb a) (.bb l):=.bb h.length λi v d h1 h2=>by
 obtain⟨d',h3,h4⟩:=h.get i v h1;rw[h2]at h3;cases h3;exact h4
theorem cA.refl{S:eR}:∀(l:List DV),cA S l l
 |[]=>.nil
 |d::l=>aO.cons (Fz.refl d) (cA.refl l)
theorem Fz.mono{S S':eR}(hS:∀i r,S i=some r->S' i=some r){a b:DV}(h:Fz S a b):Fz S' a b:=by
 induction h with
 |refl d=>exact .refl d
 |agg h1 _ ih=>exact .agg h1 ih
 |bb h1 _ ih=>exact .bb h1 ih
 |fn h1 _ h3 _ aA aB=>exact .fn h1 aA h3 aB
 |nil h=>exact .nil h
 |sl h1 h2 h3 h4 h5 h6 h7 _ ih=>exact .sl (hS _ _ h1) h2 h3 h4 h5 h6 h7 ih
 |ptr h1 h2 _ ih=>exact .ptr (hS _ _ h1) h2 ih
 |sub h1 h2 _ ih=>exact .sub h1 h2 ih
theorem Rel.fz{S:eR}{G':Nat->Prop}(x:bH G h dh)(hS:∀i cs ah,S i=some (cs,ah)->G' i/\∃wr,dh.get i=some (.row cs wr ah))(hG:∀i,G i->G' i){d d':DV}(hf:Fz S d d'):∀{v:Value},Rel (aI h G) v d->Rel (aI h G') v d':=by
 have hm:∀i r,aI h G i=some r->aI h G' i=some r:=iz λi hg=>⟨hG i hg,rfl⟩;have row:∀{b:Nat} {cs:List DV} {ah:Nat},S b=some (cs,ah)->∃aw,aI h G' b=some (aw,ah)/\b8 (aI h G) aw cs:=λhb=>by
  obtain⟨h1,wr,h2⟩:=hS _ _ _ hb;obtain⟨_,ao,h3,h4⟩:=x.obj _ _ h2;cases h4 with
  |row h4=>exact⟨_,ry h1 h3,h4⟩
 induction hf with
 |refl d=>exactλhv=>hv.mono hm
 |agg h1 _ ih=>
  intro v hv;obtain⟨a,rfl,hr⟩:=hv.pD;refine .agg (by rw[hr.length,h1]) λi u d h2 h3=> ?_;obtain⟨c,h4,h5⟩:=hr.get i u h2;exact ih i c d h4 h3 h5
 |bb h1 _ ih=>
  intro v hv;obtain⟨a,rfl,hr⟩:=hv.zU;refine .bb (by rw[hr.length,h1]) λi u d h2 h3=> ?_;obtain⟨c,h4,h5⟩:=hr.get i u h2;exact ih i c d h4 h3 h5
 |fn h1 _ h3 _ aA aB=>
  intro v hv;obtain⟨a,c,rfl,aF,aK⟩:=hv.uK;refine .fn (by rw[aF.length,h1]) (λi u d h2 h3=> ?_) (by rw[aK.length,h3]) (λi u d h2 h3=> ?_)
  . obtain⟨c,h4,h5⟩:=aF.get i u h2;exact aA i c d h4 h3 h5
  . obtain⟨c,h4,h5⟩:=aK.get i u h2;exact aB i c d h4 h3 h5
 |nil hk=>
  intro v hv;have:=hv.cG;subst this;exact .j9 hk
 |sl h1 h2 h3 h4 h5 h6 h7 _ ih=>
  intro v hv;have:=hv.cG;subst this;obtain⟨aw,q1,q2⟩:=row h1;subst h4;refine .sl q1 h2 h3 h5 h6 (by rw[q2.length];exact h7) λj y i u d e1 e2 e3=> ?_;obtain⟨c,e4,e5⟩:=q2.get _ u e3;exact ih j y i c d e1 e2 e4 e5
 |ptr h1 h2 _ ih=>
  intro v hv;have:=hv.cG;subst this;obtain⟨aw,q1,q2⟩:=row h1;refine .ptr q1 (by rw[q2.length];exact h2) λi u d e2 e3=> ?_;obtain⟨c,e4,e5⟩:=q2.get _ u e3;exact ih i c d e2 e4 e5
 | @sub k xs ys h1 h2 _ ih=>
  intro v hv;cases hv with
  |j9 hk=>
   have:ys=[]:=List.eq_nil_of_length_eq_zero (by rw[<-h1];rfl);subst this;exact .j9 hk
  | @sl b o c _ ah cs _ q1 q2 q3 q4 q5 q6 q7=>
   have hlen:xs.length=ys.length:=h1;rw[h1]at q4 q6⊢;refine .sl (hm _ _ q1) q2 q3 q4 (λy hy=> ?_) q6 λj y i u d e1 e2 e3=> ?_
   . obtain⟨j,hj⟩:=List.getElem?_of_mem hy;have aM:=(xS.1 hj).1;have hx:xs[j]? =some xs[j]:=DE (by omega);rw[<-h2 j _ y hx hj];exact q5 _ (List.mem_of_getElem? hx)
   . have aM:=(xS.1 e1).1;have hx:xs[j]? =some xs[j]:=DE (by omega);have e4:=h2 j _ y hx e1;have aS:=(xS.1 e2).1;have aL:(xs[j])[i]? =some (xs[j])[i]:=DE (by omega);exact ih j _ y i _ d hx e1 aL e2 (q7 j _ i u _ hx aL e3)
theorem b8.fz{S:eR}{G':Nat->Prop}(x:bH G h dh)(hS:∀i cs ah,S i=some (cs,ah)->G' i/\∃wr,dh.get i=some (.row cs wr ah))(hG:∀i,G i->G' i):∀{l l':List DV} {vs:List Value},cA S l l'->b8 (aI h G) vs l->b8 (aI h G') vs l'
 |_,_,_,.nil,.nil=>.nil
 |_,_,_,.cons h1 h2,.cons h3 h4=>.cons (Rel.fz x hS hG h1 h3) (b8.fz x hS hG h2 h4)
def rowsOf(dh:ab)(l:List Nat):eR:=λi=>if i∈l then match dh.get i with|some (.row cs _ ah)=>some (cs,ah)|_=>none else none
def fA(dh:ab):List Nat->ab
 |[]=>dh
 |i::l=>(fA dh l).set i none
theorem mA(dh:ab)(i:Nat):∀(l:List Nat),(fA dh l).get i=if i∈l then none else dh.get i
 |[]=>by simp[fA]
 |j::l=>by
  simp only[fA,ab.bn,mA dh i l,List.mem_cons];by_cases h1:i=j<;>by_cases h2:i∈l<;>simp[h1,h2]
theorem uP(dh:ab):∀(l:List Nat),(fA dh l).next=dh.next
 |[]=>rfl
 |_::l=>uP dh l
theorem uQ{dh:ab}{l:List Nat}{i:Nat}{cs:List DV}{ah:Nat}(h:rowsOf dh l i=some (cs,ah)):i∈l/\∃wr,dh.get i=some (.row cs wr ah):=by
 unfold rowsOf at h
 split at h
 . rename_i hi
   split at h
   . rename_i cs' wr av hg;cases h;exact⟨hi,wr,hg⟩
   . cases h
 . cases h
theorem gr{dh:ab}{l:List Nat}{i:Nat}{cs:List DV}{wr:Bool}{ah:Nat}(hi:i∈l)(hg:dh.get i=some (.row cs wr ah)):rowsOf dh l i=some (cs,ah):=by
 unfold rowsOf;rw[if_pos hi,hg]
theorem bH.drop(x:bH G h dh)(l:List Nat)(hl:∀i∈l,(dh.get i).isSome=true):bH (λi=>G i\/i∈l) h (fA dh l)/\Kp G h dh (λi=>G i\/i∈l) h (fA dh l):=by
 have hm:∀i r,aI h G i=some r->aI h (λi=>G i\/i∈l) i=some r:=iz λi hg=>⟨.inl hg,rfl⟩;refine⟨⟨x.eU.mono hm,by rw[uP];exact x.next,λi o ho=> ?_,λi hi=> ?_⟩,⟨Nat.le_refl _,λi _ hd=>⟨rfl, ?_⟩,λi hg=>.inl hg,λi _ hg=> ?_⟩⟩
 . rw[mA]at ho
   split at ho
   . cases ho
   . obtain⟨h1,ao,h2,h3⟩:=x.obj i o ho;exact⟨h1,ao,h2,h3.mono hm⟩
 . rw[mA];rcases hi with hi|hi
   . refine⟨(x.still i hi).1, ?_⟩
     split
     . rfl
     . exact(x.still i hi).2
   . rw[if_pos hi];obtain⟨o,ho⟩:=Option.isSome_iff_exists.1 (hl i hi);exact⟨(x.obj i o ho).1,rfl⟩
 . rw[mA];split
   . rfl
   . exact hd
 . rcases hg with hg|hg
   . exact .inl hg
   . exact .inr (hl i hg)
def ax(d d':DS):Prop:=∀G s,SD G s d->∃G',SD G' s d'/\Kp G s.h d.h G' s.h d'.h
theorem ax.refl(d:DS):ax d d:=λG s h=>⟨G,h,Kp.refl _ _ _⟩
theorem ax.trans{a b c:DS}(h1:ax a b)(h2:ax b c):ax a c:=λG s h=>let⟨G1,q1,q2⟩:=h1 G s h;let⟨G2,q3,q4⟩:=h2 G1 s q1;⟨G2,q3,q2.trans q4⟩
theorem ax.of{t t':Tr DV}{n:Nat}{dd:List FuncId}{dh ae:ab}(l:List Nat)(hl:∀i∈l,(dh.get i).isSome=true)(hn:ae.next=dh.next)
 (ht:∀i v,t'.get i=some v->∃u,t.get i=some u/\Fz (rowsOf dh l) u v) (hh:∀i o,ae.get i=some o->i∉l/\(dh.get i=some o\/∃cs cs' wr ah,dh.get i=some (.row cs wr ah)/\o=.row cs' wr ah/\cA (rowsOf dh l) cs cs')):ax ⟨t,n,dd,dh⟩ ⟨t',n,dd,ae⟩:=by
 intro G s ⟨q1,q2,q3,q4⟩;obtain⟨k1,k2⟩:=q4.drop l hl;have hS:∀i cs ah,rowsOf dh l i=some (cs,ah)->(G i\/i∈l)/\∃wr,dh.get i=some (.row cs wr ah):=λi cs ah hr=>by
  obtain⟨h1,h2⟩:=uQ hr;exact⟨.inr h1,h2⟩
 have hm:∀i r,aI s.h G i=some r->aI s.h (λi=>G i\/i∈l) i=some r:=iz λi hg=>⟨.inl hg,rfl⟩;refine⟨λi=>G i\/i∈l,⟨q1,λi v hv=> ?_,q3,⟨k1.eU, ?_,λi o ho=> ?_,λi hi=>⟨(k1.still i hi).1, ?_⟩⟩⟩,⟨Nat.le_refl _,λi hi hd=>⟨rfl, ?_⟩,k2.up,k2.aY⟩⟩
 . obtain⟨u,h1,h2⟩:=ht i v hv;obtain⟨w,h3,h4⟩:=q2 i u h1;exact⟨w,h3,Rel.fz q4 hS (λi hg=>.inl hg) h2 h4⟩
 . show s.h.next=ae.next;rw[hn];exact q4.next
 . obtain⟨h1,h2⟩:=hh i o ho;rcases h2 with h2|⟨cs,cs',wr,ah,h2,rfl,h3⟩
   . obtain⟨h4,ao,h5,h6⟩:=q4.obj i o h2;exact⟨h4,ao,h5,h6.mono hm⟩
   . obtain⟨h4,ao,h5,h6⟩:=q4.obj i _ h2;cases h6 with
     |row h6=>exact⟨h4,_,h5,.row (b8.fz q4 hS (λi hg=>.inl hg) h3 h6)⟩
 . cases hd:ae.get i with
   |none=>rfl
   |some o=>
    obtain⟨h1,h2⟩:=hh i o hd;have:(fA dh l).get i=none:=(k1.still i hi).2;rw[mA,if_neg h1]at this;rcases h2 with h2|⟨_,_,_,_,h2,_⟩<;>rw[this]at h2<;>cases h2
 . cases aN:ae.get i with
   |none=>rfl
   |some o=>
    obtain⟨h1,h2⟩:=hh i o aN;have hd:dh.get i=none:=hd;rcases h2 with h2|⟨_,_,_,_,h2,_⟩<;>rw[hd]at h2<;>cases h2
theorem ax.forget{t t':Tr DV}{n:Nat}{dd:List FuncId}{dh ae:ab}(hn:ae.next=dh.next)(ht:∀i v,t'.get i=some v->t.get i=some v)(hh:∀i o,ae.get i=some o->dh.get i=some o):ax ⟨t,n,dd,dh⟩ ⟨t',n,dd,ae⟩:=
 ax.of [] (λi hi=>by cases hi) hn (λi v hv=>⟨v,ht i v hv,.refl v⟩) λi o ho=>⟨by simp,.inl (hh i o ho)⟩
def KI(I:Nat->DS->Prop)(j:Nat)(K:bk->DS->Prop):bk->DS->Prop:=λx s1=>match x with|.normal=>∃j',j'<j/\∃d',ax s1 d'/\I j' d'|x=>K x s1
theorem WD.loop(he:e.Ok)(ai:e.P.follows .mixedOrders=true){c:Code}{K:bk->DS->Prop}(I:Nat->DS->Prop)(hI:∀j d,I j d->RD e aj c d (KI I j K))(j:Nat)(d:DS)(hw:∃d',ax d d'/\I j d'):WD e aj (.loop c) d K:=by
 intro G s hs;obtain⟨d',h1,h2⟩:=hw;obtain⟨G1,h3,h4⟩:=h1 G s hs;refine(WQ.loop (λj s1=>∃d1 G2,SD G2 s1 d1/\Kp G s.h d.h G2 s1.h d1.h/\I j d1) (λj s1 ⟨d1,G2,q1,q2,q3⟩=> ?_) j s ⟨d',G1,h3,h4,h2⟩);refine(RD.wd he ai c d1 _ (hI j d1 q3) G2 s1 q1).mono λx s2 ⟨d2,G3,r1,r2,r3⟩=> ?_;cases x with
 |normal=>
  obtain⟨j',hj,d3,r4,r5⟩:=r3;obtain⟨G4,r6,r7⟩:=r4 G3 s2 r1;exact⟨j',hj,d3,G4,r6,q2.trans (r2.trans r7),r5⟩
 |exit i=>exact⟨d2,G3,r1,q2.trans r2,r3⟩
 |ret=>exact⟨d2,G3,r1,q2.trans r2,r3⟩
def rC(G:Nat->Prop)(h h':aa):Nat->Prop:=λi=>G i\/(h.next<=i/\i<h'.next)
def p8(G:Nat->Prop)(h:aa)(dv:DV)(v:Value)(h':aa):Prop:=h.next<=h'.next/\(∀i,i<h.next->h'.get i=h.get i)/\Rel (aI h' (rC G h h')) v dv
def QL(G:Nat->Prop)(h:aa):Prop:=(∀i,G i->i<h.next)/\oG (aI h G)
def ay(e:Env)(aj:Bool)(f:FuncId)(ad:List DV)(dv:DV):Prop:=∀G h args,QL G h->b8 (aI h G) args ad->match aj with
 |true=>∃v h',bK e f args h v h'/\p8 G h dv v h'
 |false=>e8 e f args h (p8 G h dv)
abbrev QM(e:Env):=ay e true
theorem ay.any{f:FuncId}{ad:List DV}{dv:DV}(hf:QM e f ad dv):ay e aj f ad dv:=by
 intro G h args hG ha;obtain⟨v,h',h1,h2⟩:=hf G h args hG ha;cases aj with
 |true=>exact⟨v,h',h1,h2⟩
 |false=>exact h1.k h2
theorem p8.c{f:FuncId}{dv:DV}(x:bH G h dh)(l:List Nat)(hl:∀i∈l,(dh.get i).isSome=true){v:Value}{h':aa}(hp:p8 (λi=>G i\/i∈l) h dv v h'){K:DV->ab->List Nat->Prop}(hk:∀N,dh.next<=N->K dv ((fA dh l).up N) l):my G h dh K v h':=by
 obtain⟨p1,p2,p3⟩:=hp;obtain⟨k1,k2⟩:=x.drop l hl;have aP:∀i,(G i\/i∈l)->i<h.next:=λi hi=>(k1.still i hi).1;have hm:∀i r,aI h (λi=>G i\/i∈l) i=some r->aI h' (rC (λi=>G i\/i∈l) h h') i=some r:=iz λi hg=>⟨.inl hg,p2 i (aP i hg)⟩;refine⟨dv,(fA dh l).up h'.next,rC (λi=>G i\/i∈l) h h',l,⟨k1.eU.mono hm,rfl,λi o ho=> ?_,λi hi=> ?_⟩,⟨p1,λi hi hd=>⟨p2 i hi, ?_⟩,λi hg=>.inl (.inl hg),λi hi hg=> ?_⟩,p3,λi hi hl=>⟨p2 i hi,by rw[ab.sN,mA,if_neg hl]⟩,hk _ (by rw[<-x.next];exact p1)⟩
 . rw[ab.sN]at ho;obtain⟨h1,ao,h2,h3⟩:=k1.obj i o ho;exact⟨by omega,ao,by rw[p2 i h1];exact h2,h3.mono hm⟩
 . rw[ab.sN];rcases hi with hi|hi
   . obtain⟨h1,h2⟩:=k1.still i hi;exact⟨by omega,h2⟩
   . refine⟨hi.2, ?_⟩;cases hd:(fA dh l).get i with
     |none=>rfl
     |some o=>have:=(k1.obj i o hd).1;omega
 . rw[ab.sN,mA]
   split
   . rfl
   . exact hd
 . rcases hg with(hg|hg)|hg
   . exact .inl hg
   . exact .inr (hl i hg)
   . omega
theorem cJ.fz{f:FuncId}{ad dargs':List DV}{dv:DV}{K:DV->ab->List Nat->Prop}(hf:ay e aj f dargs' dv)(l:List Nat)(hl:∀i∈l,(dh.get i).isSome=true)(hz:cA (rowsOf dh l) ad dargs')(hk:∀N,dh.next<=N->K dv ((fA dh l).up N) l):cJ e aj f ad dh K:=by
 intro G h args x ha;obtain⟨k1,k2⟩:=x.drop l hl;have aC:b8 (aI h (λi=>G i\/i∈l)) args dargs':=b8.fz x (λi cs ah hr=>⟨.inr (uQ hr).1,(uQ hr).2⟩) (λi hg=>.inl hg) hz ha;have:=hf (λi=>G i\/i∈l) h args ⟨λi hi=>(k1.still i hi).1,k1.eU⟩ aC;cases aj with
 |true=>obtain⟨v,h',h1,h2⟩:=this;exact⟨v,h',h1,h2.c (f:=f) x l hl hk⟩
 |false=>exact e8.mono this λv h' h2=>h2.c (f:=f) x l hl hk
theorem cJ.of{f:FuncId}{ad:List DV}{dv:DV}{K:DV->ab->List Nat->Prop}(hf:ay e aj f ad dv)(hk:∀N,dh.next<=N->K dv (dh.up N) []):cJ e aj f ad dh K:=
 cJ.fz hf [] (λi hi=>by cases hi) (cA.refl _) hk
def allRows(dh:ab):eR:=λi=>match dh.get i with|some (.row cs _ ah)=>some (cs,ah)|_=>none
theorem cJ.plain{f:FuncId}{ad dargs':List DV}{u:Value}{K:DV->ab->List Nat->Prop}(hf:ay e aj f dargs' (.v u))(hz:cA (allRows dh) ad dargs')(hk:∀N,dh.next<=N->K (.v u) (dh.up N) []):cJ e aj f ad dh K:=by
 intro G h args x ha;have aC:b8 (aI h (λi=>i<h.next)) args dargs':=b8.fz x (λi cs ah hr=>by
  unfold allRows at hr
  split at hr
  . rename_i cs' wr av hg;cases hr;exact⟨(x.obj _ _ hg).1,wr,hg⟩
  . cases hr) (λi hg=>(x.still i hg).1) hz ha
 have post:∀v h',p8 (λi=>i<h.next) h (.v u) v h'->my G h dh K v h':=λv h' ⟨p1,p2,p3⟩=>by
  have hm:∀i r,aI h G i=some r->aI h' G i=some r:=iz λi hg=>⟨hg,p2 i (x.still i hg).1⟩;refine⟨.v u,dh.up h'.next,G,[],⟨x.eU.mono hm,rfl,λi o ho=> ?_,λi hi=> ?_⟩,⟨p1,λi hi hd=>⟨p2 i hi,hd⟩,λi hg=>hg,λi hi hg=>.inl hg⟩,by rw[p3.cG];exact .v _,λi hi _=>⟨p2 i hi,rfl⟩,hk _ (by rw[<-x.next];exact p1)⟩
  . obtain⟨h1,ao,h2,h3⟩:=x.obj i o ho;exact⟨by omega,ao,by rw[p2 i h1];exact h2,h3.mono hm⟩
  . obtain⟨h1,h2⟩:=x.still i hi;exact⟨by omega,h2⟩
 have:=hf (λi=>i<h.next) h args ⟨λi hi=>hi,x.eU.mono (iz λi hg=>⟨(x.still i hg).1,rfl⟩)⟩ aC;cases aj with
 |true=>obtain⟨v,h',h1,h2⟩:=this;exact⟨v,h',h1,post v h' h2⟩
 |false=>exact e8.mono this post
def fJ(e:Env)(s:DS):List ResultVar->Option (List DV)
 |[]=>some []
 |r::rs=>match(match r with
  |.tmp t=>s.t.get t
  |.cell a t=>(s.t.get a).bind (iA e s.h t)),fJ e s rs with
  |some v,some vs=>some (v::vs)
  |_,_=>none
theorem Aj{s:aE}{d:DS}(hs:SD G s d):∀{rs:List ResultVar} {l:List DV},fJ e d rs=some l->∃vs,gL e s rs=some vs/\b8 (aI s.h G) vs l
 |[],l,h=>by simp only[fJ,Option.some.injEq]at h;subst h;exact⟨[],rfl,.nil⟩
 |r::rs,l,h=>by
  simp only[fJ]at h
  split at h
  . rename_i v vs h1 h2;cases h;obtain⟨ws,h3,h4⟩:=Aj hs h2;cases r with
    |tmp t=>
     obtain⟨u,h5,h6⟩:=hs.t t v h1;exact⟨u::ws,by rw[Eh,h5,zK,h3];rfl,.cons h6 h4⟩
    |cell a t=>
     obtain⟨p,h5,h6⟩:=qe.1 h1;obtain⟨u,h7,h8⟩:=hs.t a p h5;obtain⟨w,h9,aQ⟩:=EA hs.h h8 h6;exact⟨w::ws,by rw[Ei,h7,Option.bind_some,h9,zK,h3];rfl,.cons aQ h4⟩
  . cases h
def jI:List DV->DV
 |[v]=>v
 |vs=>.bb vs
theorem EU{vs:List Value}{l:List DV}(h:b8 R vs l):Rel R (jE vs) (jI l):=by
 match vs,l,h with
 |[],[],_=>exact Rel.jG .nil
 |[v],[d],.cons h1 .nil=>exact h1
 |v::w::vs,d::c::l,h=>exact Rel.jG h
def ie(args:List DV):Tr DV:=Tr.ofList args 0 .nil
def jd(e:Env)(rs:List ResultVar)(K:DV->ab->Prop)(x:bk)(s:DS):Prop:=(∀i,x≠.exit i)/\(∀g∈s.dd,e.idle g=true)/\aG (fJ e s rs) λl=>K (jI l) s.h
theorem Ak{h:aa}:∀{ds:List Deferred} {dd:List FuncId},aO rz ds dd->(∀g∈dd,e.idle g=true)->kD e ds h=some h
 |_,_,.nil,_=>rfl
 |_,_,.cons (b:=g) ⟨cap,args,h1⟩ h2,hi=>by
  subst h1;simp only[kD,hi g (by simp),cond_true];exact Ak h2 λg hg=>hi g (List.mem_cons_of_mem _ hg)
theorem EV:∀{args:List Value} {ad:List DV} {i:Nat} {t:Tr Value} {dt:Tr DV},b8 R args ad->TD R t dt->TD R (Tr.ofList args i t) (Tr.ofList ad i dt)
 |_,_,_,_,_,.nil,ht=>ht
 |_,_,i,_,_,.cons h1 h2,ht=>by simp only[Tr.ofList];exact EV h2 (TD.put ht (some i) h1)
theorem EW{args:List Value}{ad:List DV}(aR:oG R)(h:b8 R args ad):TD R (gl args) (ie ad):=EV h ⟨aR,λi v hv=>by rw[Tr.get_nil]at hv;cases hv⟩
theorem cJ.body(he:e.Ok)(ai:e.P.follows .mixedOrders=true)(af:Idle e){f:FuncId}{fn:Func}{c:Code}{ad:List DV}{K:DV->ab->Prop}(az:e.fn f=some fn)(hb:fn.body=some c){n:Nat}(hn:fn.ntmps=n){rs:List ResultVar}(aD:fn.results=rs.toArray)
 (hq:RD e aj c ⟨ie ad,ad.length+(n-ad.length),[],dh⟩ (jd e rs K)) (G:Nat->Prop) (h:aa) (args:List Value) (x:bH G h dh) (ha:b8 (aI h G) args ad):
 match aj with
 |true=>∃v h',bK e f args h v h'/\∃d ae G',bH G' h' ae/\Kp G h dh G' h' ae/\Rel (aI h' G') v d/\K d ae
 |false=>e8 e f args h λv h'=>∃d ae G',bH G' h' ae/\Kp G h dh G' h' ae/\Rel (aI h' G') v d/\K d ae:=by
 subst hn;have hlen:args.length=ad.length:=ha.length;have hs:SD G ⟨gl args,args.length+(fn.ntmps-args.length),[],h⟩ ⟨ie ad,ad.length+(fn.ntmps-ad.length),[],dh⟩:=⟨by simp only[hlen],(EW x.eU ha).all,.nil,x⟩;have key:=RD.wd he ai c _ _ hq G _ hs;have fin:∀x s',lI G h dh (jd e rs K) x s'->oA e fn.results.toList (λv h'=>∃d ae G',bH G' h' ae/\Kp G h dh G' h' ae/\Rel (aI h' G') v d/\K d ae) x s':=by
  rintro x s' ⟨d',G',q1,q2,q3,q4,l,q5,q6⟩;obtain⟨vs,q7,q8⟩:=Aj q1 q5;refine⟨q3,s'.h,vs,Ak q1.dd q4,by rw[aD];exact q7,jI l,d'.h,G',q1.h,q2,EU q8,q6⟩
 cases aj with
 |false=>exact e8.of he af az hb (WR.mono key fin)
 |true=>
  obtain⟨x,s',h1,h2⟩:=key;obtain⟨h3,h4,vs,h5,h6,h7⟩:=fin x s' h2;refine⟨jE vs,h4, ?_,h7⟩;have:=zg he af (zt h1) f args h (jE vs) h4 (by
   unfold pC;simp only[az,hb];have:pI c {t:=gl args,n:=args.length+(fn.ntmps-args.length),ds:=[],h} x s' none c {t:=gl args,n:=args.length+(fn.ntmps-args.length),ds:=[],h}=some (x,s'):=by
    unfold pI;rw[if_pos ⟨rfl,rfl,rfl⟩]
   rw[this];cases x with
   |exit i=>exact absurd rfl (h3 i)
   |normal=>
    simp only[h5,h6]
    match vs with
    |[]=>rfl
    |[v]=>rfl
    |_::_::_=>rfl
   |ret=>
    simp only[h5,h6]
    match vs with
    |[]=>rfl
    |[v]=>rfl
    |_::_::_=>rfl)
  exact this
theorem ay.of(he:e.Ok)(ai:e.P.follows .mixedOrders=true)(af:Idle e){f:FuncId}{fn:Func}{c:Code}{ad:List DV}{dv:DV}(az:e.fn f=some fn)(hb:fn.body=some c){n:Nat}(hn:fn.ntmps=n){rs:List ResultVar}(aD:fn.results=rs.toArray)
 (hq:∀N,RD e aj c ⟨ie ad,ad.length+(n-ad.length),[],ab.none N⟩ (jd e rs λd h=>Fz (allRows h) d dv)):ay e aj f ad dv:=by
 intro G h args hG ha;have x:bH G h (ab.none h.next):=⟨hG.2,rfl,λi o ho=>(by rw[ab.get_none]at ho;cases ho),λi hi=>⟨hG.1 i hi,ab.get_none _ _⟩⟩;have key:=cJ.body he ai af az hb hn aD (hq h.next) G h args x ha;have fin:∀v h',(∃d ae G',bH G' h' ae/\Kp G h (ab.none h.next) G' h' ae/\Rel (aI h' G') v d/\Fz (allRows ae) d dv)->p8 G h dv v h':=by
  rintro v h' ⟨d,ae,G',q1,q2,q3,q4⟩;refine⟨q2.next,λi hi=>(q2.same i hi (ab.get_none _ _)).1,Rel.fz (G':=rC G h h') q1 (λi cs ah hr=> ?_) (λi hg=> ?_) q4 q3⟩
  . unfold allRows at hr
    split at hr
    . rename_i cs' wr av hg;cases hr;refine⟨.inr ⟨?_,(q1.obj _ _ hg).1⟩,wr,hg⟩;rcases Nat.lt_or_ge i h.next with hi|hi
      . rw[(q2.same i hi (ab.get_none _ _)).2]at hg;cases hg
      . exact hi
    . cases hr
  . rcases Nat.lt_or_ge i h.next with hi|hi
    . rcases q2.aY i hi hg with h1|h1
      . exact .inl h1
      . rw[ab.get_none]at h1;cases h1
    . exact .inr ⟨hi,(q1.still i hg).1⟩
 cases aj with
 |true=>obtain⟨v,h',h1,h2⟩:=key;exact⟨v,h',h1,fin v h' h2⟩
 |false=>exact e8.mono key fin
end Go.au
end

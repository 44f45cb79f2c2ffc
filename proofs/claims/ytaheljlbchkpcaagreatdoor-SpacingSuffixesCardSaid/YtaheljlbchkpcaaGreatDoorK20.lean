/- SpacingSuffixes: parts of its proof (DvF Dm1 Dg3 Dg4). -/
import Derived.Test.YtaheljlbchkpcaaGreatDoorK18
import Derived.Test.YtaheljlbchkpcaaGreatDoorK19
set_option linter.unusedVariables false
set_option linter.unusedSimpArgs false
noncomputable section
namespace Go.aw
variable {e:Env} {G:Nat->Prop} {h:aa} {dh:ab} {t:Tr Value} {dt:Tr DV} {R:Rows}
def kq:Operand->List Tmp
 |.tmp t=>[t]
 |_=>[]
def y7:Option Operand->List Tmp
 |none=>[]
 |some o=>kq o
def slotsOf:Op->List Tmp
 |.move x|.assign x|.load _ x|.nilCheck x|.unOp _ _ x|.convert _ _ x|.makeInterface _ x|.fieldAddr _ x _|.field _ x _|.extract x _=>kq x
 |.pick c a b=>kq c++kq a++kq b
 |.build _ ps=>ps.toList.flatMap λp=>kq p.2
 |.makeFunc _ a c=>a.toList.flatMap kq++c.toList.flatMap kq
 |.slice _ x l h m=>kq x++y7 l++y7 h++y7 m
 |.binOp _ _ a b _|.indexAddr _ a b|.index _ a b|.lookup _ a b _=>kq a++kq b
 |.call c=>c.args.toList.flatMap kq
 |_=>[]
theorem fg{t1 t2:Tr DV}{o:Operand}(h:∀s∈kq o,t1.get s=t2.get s):aB e t1 o=aB e t2 o:=by
 cases o with
 |tmp i=>exact h i (by simp[kq])
 |_=>rfl
theorem wT{t1 t2:Tr DV}:∀{l:List Operand},(∀s∈l.flatMap kq,t1.get s=t2.get s)->cO e t1 l=cO e t2 l
 |[],_=>rfl
 |o::r,h=>by
  simp only[List.flatMap_cons,List.mem_append]at h;simp only[cO,fg (e:=e) λs hs=>h s (.inl hs),wT λs hs=>h s (.inr hs)]
theorem GO{t1 t2:Tr DV}:∀{l:List (Nat×Operand)},(∀s∈l.flatMap (λp=>kq p.2),t1.get s=t2.get s)->fY e t1 l=fY e t2 l
 |[],_=>rfl
 |(i,o)::r,h=>by
  simp only[List.flatMap_cons,List.mem_append]at h;simp only[fY,fg (e:=e) λs hs=>h s (.inl hs),GO λs hs=>h s (.inr hs)]
theorem Ck{t1 t2:Tr DV}{o:Option Operand}(h:∀s∈y7 o,t1.get s=t2.get s):eM e t1 o=eM e t2 o:=by
 cases o with
 |none=>rfl
 |some o=>simp only[eM,fg (e:=e) h]
theorem Xs{t1 t2:Tr DV}{op:Op}(h:∀s∈slotsOf op,t1.get s=t2.get s):aT e dh t1 op=aT e dh t2 op:=by
 cases op with
 |move x=>exact fg h
 |assign x=>exact fg h
 |pick c a b=>
  simp only[slotsOf,List.mem_append]at h;simp only[aT,fg (e:=e) (o:=c) λs hs=>h s (.inl (.inl hs)),fg (e:=e) (o:=a) λs hs=>h s (.inl (.inr hs)),fg (e:=e) (o:=b) λs hs=>h s (.inr hs)]
 |build ty ps=>simp only[aT,GO (e:=e) h]
 |load ty a=>simp only[aT,fg (e:=e) (o:=a) h]
 |nilCheck a=>simp only[aT,fg (e:=e) (o:=a) h]
 |unOp op z a=>simp only[aT,fg (e:=e) (o:=a) h]
 |convert s d a=>simp only[aT,fg (e:=e) (o:=a) h]
 |makeInterface ty a=>simp only[aT,fg (e:=e) (o:=a) h]
 |fieldAddr s a f=>simp only[aT,fg (e:=e) (o:=a) h]
 |field s a f=>simp only[aT,fg (e:=e) (o:=a) h]
 |extract a i=>simp only[aT,fg (e:=e) (o:=a) h]
 |makeFunc fn a c=>
  simp only[slotsOf,List.mem_append]at h;cases fn with
  |func f=>simp only[aT,wT (e:=e) (l:=a.toList) λs hs=>h s (.inl hs),wT (e:=e) (l:=c.toList) λs hs=>h s (.inr hs)]
  |_=>rfl
 |slice ty x l hi m=>
  simp only[slotsOf,List.mem_append]at h;simp only[aT,fg (e:=e) (o:=x) λs hs=>h s (.inl (.inl (.inl hs))),Ck (e:=e) (o:=l) λs hs=>h s (.inl (.inl (.inr hs))),Ck (e:=e) (o:=hi) λs hs=>h s (.inl (.inr hs)),Ck (e:=e) (o:=m) λs hs=>h s (.inr hs)]
 |binOp op ty a b z=>
  simp only[slotsOf,List.mem_append]at h;simp only[aT,fg (e:=e) (o:=a) λs hs=>h s (.inl hs),fg (e:=e) (o:=b) λs hs=>h s (.inr hs)]
 |indexAddr ty a b=>
  simp only[slotsOf,List.mem_append]at h;simp only[aT,fg (e:=e) (o:=a) λs hs=>h s (.inl hs),fg (e:=e) (o:=b) λs hs=>h s (.inr hs)]
 |index ty a b=>
  simp only[slotsOf,List.mem_append]at h;simp only[aT,fg (e:=e) (o:=a) λs hs=>h s (.inl hs),fg (e:=e) (o:=b) λs hs=>h s (.inr hs)]
 |lookup ty a b ok=>
  simp only[slotsOf,List.mem_append]at h;simp only[aT,fg (e:=e) (o:=a) λs hs=>h s (.inl hs),fg (e:=e) (o:=b) λs hs=>h s (.inr hs)]
 |call c=>simp only[aT,wT (e:=e) (l:=c.args.toList) h]
 |_=>rfl
def nA:Option Value->Option Nat
 |some (.pointer (some a))=>some a.block
 |some (.slice (some a) _ _)=>some a.block
 |some (.map (some r))=>some r
 |_=>none
def jO:Option DV->Option Nat
 |some (.v v)=>nA (some v)
 |_=>none
def iU(e:Env)(t:Tr Value):Op->Option Nat
 |.load _ a=>nA (au e t a)
 |.lookup _ m _ _=>nA (au e t m)
 |.slice _ x _ _ _=>nA (au e t x)
 |.convert _ _ x=>nA (au e t x)
 |.call c=>match df e t c.args.toList with|some [x]=>nA (some x)|_=>none
 |_=>none
def dN(e:Env)(t:Tr DV):Op->Option Nat
 |.load _ a=>jO (aB e t a)
 |.lookup _ m _ _=>jO (aB e t m)
 |.slice _ x _ _ _=>jO (aB e t x)
 |.convert _ _ x=>jO (aB e t x)
 |.call c=>match cO e t c.args.toList with|some [x]=>jO (some x)|_=>none
 |_=>none
theorem Xt{h1 h2:aa}{op:Op}(hc:cls op=.pure):bD e h1 t op=bD e h2 t op:=by
 cases op with
 |load ty a=>cases hc
 |lookup ty m k ok=>cases hc
 |slice ty x lo hi mx=>cases hc
 |convert s d x=>cases hc
 |call c=>
  simp only[cls]at hc
  split at hc<;>cases hc
 |makeFunc fn a c=>cases fn<;>rfl
 |_=>rfl
theorem Xu{h1 h2:ab}{op:Op}(hc:cls op=.pure):aT e h1 dt op=aT e h2 dt op:=by
 cases op with
 |load ty a=>cases hc
 |lookup ty m k ok=>cases hc
 |slice ty x lo hi mx=>cases hc
 |convert s d x=>cases hc
 |call c=>
  simp only[cls]at hc
  split at hc<;>cases hc
 |makeFunc fn a c=>cases fn<;>rfl
 |_=>rfl
theorem Xv{h1 h2:aa}{ty:TypeId}{x:Value}(hb:∀b,nA (some x)=some b->h1.get b=h2.get b):fU e h1 ty x=fU e h2 ty x:=by
 unfold fU
 split<;>first|rfl|skip
 rename_i r _;rw[hb r rfl]
theorem Xw{h1 h2:aa}{ty:TypeId}{x:Value}{lo hi mx:Option Value}(hb:∀a l c,x=.slice (some a) l c->h1.get a.block=h2.get a.block):j8 e h1 ty x lo hi mx=j8 e h2 ty x lo hi mx:=by
 unfold j8
 split
 . rename_i elem base len cap _;cases base with
   |none=>rfl
   |some a=>
    have e2:∀s,mZ h1 a s=mZ h2 a s:=λs=>by unfold mZ;rw[hb a len cap rfl]
    simp only[e2]
 . rfl
 . rfl
 . rfl
theorem Xx{h1 h2:aa}{ty:TypeId}{x:Value}(hb:∀a l c,x=.slice (some a) l c->h1.get a.block=h2.get a.block):sf e h1 ty x=sf e h2 ty x:=by
 unfold sf
 split
 . rfl
 . rw[hb _ _ _ rfl]
 . rfl
theorem Xy{h1 h2:aa}{op:Op}(hb:∀b,iU e t op=some b->h1.get b=h2.get b):bD e h1 t op=bD e h2 t op:=by
 cases op with
 |load ty a=>
  simp only[bD];cases ha:au e t a with
  |none=>rfl
  |some v=>
   simp only[Option.bind_some,nk];cases hv:iL v with
   |none=>rfl
   |some ad=>
    have:=wg hv;subst this;have e1:=hb ad.block (by simp only[iU,ha];rfl);simp only[iJ,gm,e1]
 |lookup ty m k ok=>
  simp only[bD];cases ha:au e t m with
  |none=>rfl
  |some v=>
   cases hk:au e t k with
   |none=>rfl
   |some w=>
    simp only[uA];cases v with
    |map r=>
     cases r with
     |none=>rw[lookup_nil,lookup_nil]
     |some r=>rw[yE,yE,hb r (by simp only[iU,ha];rfl)]
    |_=>simp only[oz,qC]
 |slice ty x lo hi mx=>
  simp only[bD];cases ha:au e t x with
  |none=>rfl
  |some v=>
   cases iP e t lo with
   |none=>rfl
   |some lo=>
    cases iP e t hi with
    |none=>rfl
    |some hi=>
     cases iP e t mx with
     |none=>rfl
     |some mx=>exact Xw λa l c hv=>hb a.block (by simp only[iU,ha,hv];rfl)
 |convert s d x=>
  simp only[bD];cases ha:au e t x with
  |none=>rfl
  |some v=>
   simp only[Option.bind_some,pR];have:pB e h1 s d v=pB e h2 s d v:=by
    unfold pB
    split
    . rename_i a len _ el _ _;have e1:=hb a.block (by simp only[iU,ha];rfl);simp only[gm,e1]
    . rfl
   rw[this]
 |call c=>
  simp only[bD]
  split
  . split
    . rename_i x hx;simp only[wB]
      split
      . rfl
      . exact Xv λb h'=>hb b (by simp only[iU,hx];exact h')
    . rfl
  . split
    . rename_i x hx;simp only[AZ]
      split
      . rfl
      . exact Xx λa l c hv=>hb a.block (by simp only[iU,hx,hv];rfl)
    . rfl
  . rfl
  . rfl
  . rfl
 |makeFunc fn a c=>cases fn<;>rfl
 |_=>rfl
theorem Xz{h1 h2:ab}{op:Op}(hb:∀b,dN e dt op=some b->h1.get b=h2.get b):aT e h1 dt op=aT e h2 dt op:=by
 cases op with
 |load ty a=>
  simp only[aT];cases ha:aB e dt a with
  |none=>rfl
  |some d=>
   simp only[Option.bind_some];unfold jl
   split
   . rename_i b o;rw[hb b (by simp only[dN,ha];rfl)]
   . rfl
   . rfl
 |lookup ty m k ok=>
  simp only[aT];cases ha:aB e dt m with
  |none=>rfl
  |some d=>
   cases hk:aB e dt k with
   |none=>rfl
   |some w=>
    simp only[Gt];unfold lF
    split
    . rfl
    . rename_i r k' _;rw[hb r (by simp only[dN,ha];rfl)]
    . rfl
 |slice ty x lo hi mx=>
  simp only[aT];cases ha:aB e dt x with
  |none=>rfl
  |some d=>
   unfold dX
   split
   . rfl
   . split
     . unfold kl
       split
       . rfl
       . rfl
       . rename_i b o len cap s hs _ heq;cases heq;rw[hb b (by simp only[dN,ha];rfl)]
       . rfl
     . rfl
   . rfl
 |convert s d x=>
  simp only[aT];cases ha:aB e dt x with
  |none=>rfl
  |some c=>
   simp only[Option.bind_some];unfold nr
   split
   . have:gu h1 1 c=gu h2 1 c:=by
      unfold gu
      split
      . rfl
      . rfl
      . rename_i b o n _;rw[hb b (by simp only[dN,ha];rfl)]
      . rfl
     rw[this]
   . rfl
 |call c=>
  simp only[aT]
  split
  . unfold pY
    split
    . rename_i x hx
      split
      . rfl
      . unfold iz
        split
        . rfl
        . rfl
        . rfl
        . rfl
        . rename_i r;rw[hb r (by simp only[dN,hx];rfl)]
        . rfl
    . rfl
  . rfl
  . rfl
  . rfl
 |makeFunc fn a c=>cases fn<;>rfl
 |_=>rfl
theorem wU{v:Value}{d:DV}(hv:Rel R v d){b:Nat}(hb:nA (some v)=some b):jO (some d)=some b\/∃r,R b=some r:=by
 cases hv with
 |v x=>exact .inl hb
 |sl h1 _ _ _ _ _ _=>simp only[nA,Option.some.injEq]at hb;subst hb;exact .inr ⟨_,h1⟩
 |ptr h1 _ _=>simp only[nA,Option.some.injEq]at hb;subst hb;exact .inr ⟨_,h1⟩
 |_=>cases hb
theorem XA(ht:TD R t dt){op:Op}{d:DV}(hd:aT e dh dt op=some d){b:Nat}(hb:iU e t op=some b):dN e dt op=some b\/∃r,R b=some r:=by
 cases op with
 |load ty a=>
  obtain⟨c,h1,_⟩:=Option.bind_eq_some_iff.1 hd;obtain⟨v,h2,h3⟩:=fx ht h1;simp only[iU,h2]at hb;simp only[dN,h1];exact wU h3 hb
 |lookup ty m k ok=>
  simp only[aT,gK]at hd
  split at hd
  . rename_i x y h1 _;obtain⟨v,h2,h3⟩:=fx ht h1;simp only[iU,h2]at hb;simp only[dN,h1];exact wU h3 hb
  . cases hd
 |slice ty x lo hi mx=>
  simp only[aT]at hd;cases h1:aB e dt x with
  |none=>rw[h1]at hd;simp[dX]at hd
  |some c=>
   obtain⟨v,h2,h3⟩:=fx ht h1;simp only[iU,h2]at hb;simp only[dN,h1];exact wU h3 hb
 |convert s d x=>
  obtain⟨c,h1,_⟩:=Option.bind_eq_some_iff.1 hd;obtain⟨v,h2,h3⟩:=fx ht h1;simp only[iU,h2]at hb;simp only[dN,h1];exact wU h3 hb
 |call c=>
  have:∃l,cO e dt c.args.toList=some l:=by
   simp only[aT]at hd;cases hl:cO e dt c.args.toList with
   |some l=>exact⟨l,rfl⟩
   |none=>rw[hl]at hd;split at hd<;>simp[pY]at hd
  obtain⟨l,h1⟩:=this;obtain⟨vs,h2,h3⟩:=oF ht h1;simp only[iU,h2]at hb;simp only[dN,h1];cases h3 with
  |nil=>cases hb
  |cons h4 h5=>
   cases h5 with
   |nil=>exact wU h4 hb
   |cons _ _=>cases hb
 |_=>cases hb
abbrev fB:=List (Nat×Nat×bF)
def fP(h:ab)(m:Nat):fB->ab
 |[]=>h
 |(i,id,o)::r=>if m.testBit i=true then(fP h m r).set id (some o)else fP h m r
def mH(h:ab):fB->ab
 |[]=>h
 |(_,id,o)::r=>(mH h r).set id (some o)
def jn(m:Nat)(l:fB):fB:=l.filter λq=> !m.testBit q.1
structure p6(R:Rows)(x:Nat×Nat×bK)(y:Nat×Nat×bF):Prop where
 i:x.1=y.1
 id:x.2.1=y.2.1
 o:jI R x.2.2 y.2.2
theorem bM.put(x:bM G h dh){id:Nat}(h1:id<h.next)(h2:¬G id){ao:bK}{o:bF}(hr:jI (aI h G) ao o):bM G (h.set id (some ao)) (dh.set id (some o))/\∀i r,aI h G i=some r->aI (h.set id (some ao)) G i=some r:=by
 have hm:∀i r,aI h G i=some r->aI (h.set id (some ao)) G i=some r:=jj λi hg=>⟨hg,bq _ _ _ _ (λhe:i=id=>h2 (he▸hg))⟩;refine⟨⟨x.fF.mono hm,by rw[aa.aS,ab.aS,x.next],λj p hp=> ?_,λj hg=> ?_⟩,hm⟩
 . rw[ab.bw]at hp
   split at hp
   . rename_i hj;cases hp;subst hj;exact⟨h1,ao,eD _ _ _,hr.mono hm⟩
   . rename_i hj;obtain⟨q1,ao',q2,q3⟩:=x.obj j p hp;exact⟨q1,ao',by rw[bq _ _ _ _ hj];exact q2,q3.mono hm⟩
 . obtain⟨q1,q2⟩:=x.still j hg;exact⟨q1,by rw[ab.bw,if_neg (λhe:j=id=>h2 (he▸hg))];exact q2⟩
theorem Kp.put{G0:Nat->Prop}{h0:aa}{d0:ab}(k:Kp G0 h0 d0 G h dh){id:Nat}(aY:h0.next<=id)(ao:Option bK)(o:Option bF):Kp G0 h0 d0 G (h.set id ao) (dh.set id o):=
 ⟨k.next,λi hi hd=>by rw[bq _ _ _ _ (by omega),ab.bw,if_neg (by omega)];exact k.same i hi hd,k.up,k.ba⟩
theorem GP{G0:Nat->Prop}{h0:aa}{d0:ab}(m:Nat)(x:bM G h dh)(k:Kp G0 h0 d0 G h dh):∀{p:dz} {dp:fB},aP (p6 (aI h G)) p dp->(∀q∈dp,h0.next<=q.2.1/\q.2.1<h.next/\¬G q.2.1)->
 bM G (cg h m p) (fP dh m dp)/\Kp G0 h0 d0 G (cg h m p) (fP dh m dp)/\(∀i r,aI h G i=some r->aI (cg h m p) G i=some r)/\(cg h m p).next=h.next
 |_,_,.nil,_=>⟨x,k,λ_ _ h=>h,rfl⟩
 |(i,id,ao)::p,(j,aL,o)::dp,.cons ⟨h1,h2,h3⟩ h4,hq=>by
  simp only at h1 h2 h3;subst h1 h2;obtain⟨q1,q2,q3⟩:=hq (i,id,o) (by simp);obtain⟨k1,k2,k3,k4⟩:=GP m x k h4 λq ay=>hq q (List.mem_cons_of_mem _ ay);rw[Bt];simp only[fP]
  split
  . obtain⟨r1,r2⟩:=k1.put (id:=id) (by rw[k4];exact q2) q3 (h3.mono k3);exact⟨r1,k2.put q1 _ _,λa r hr=>r2 a r (k3 a r hr),by rw[aa.aS];exact k4⟩
  . exact⟨k1,k2,k3,k4⟩
theorem GQ{G0:Nat->Prop}{h0:aa}{d0:ab}(x:bM G h dh)(k:Kp G0 h0 d0 G h dh):∀{p:dz} {dp:fB},aP (p6 (aI h G)) p dp->(∀q∈dp,h0.next<=q.2.1/\q.2.1<h.next/\¬G q.2.1)->
 bM G (fw h p) (mH dh dp)/\Kp G0 h0 d0 G (fw h p) (mH dh dp)/\(∀i r,aI h G i=some r->aI (fw h p) G i=some r)/\(fw h p).next=h.next
 |_,_,.nil,_=>⟨x,k,λ_ _ h=>h,rfl⟩
 |(i,id,ao)::p,(j,aL,o)::dp,.cons ⟨h1,h2,h3⟩ h4,hq=>by
  simp only at h1 h2 h3;subst h1 h2;obtain⟨q1,q2,q3⟩:=hq (i,id,o) (by simp);obtain⟨k1,k2,k3,k4⟩:=GQ x k h4 λq ay=>hq q (List.mem_cons_of_mem _ ay);rw[FP];simp only[mH];obtain⟨r1,r2⟩:=k1.put (id:=id) (by rw[k4];exact q2) q3 (h3.mono k3);exact⟨r1,k2.put q1 _ _,λa r hr=>r2 a r (k3 a r hr),by rw[aa.aS];exact k4⟩
theorem y8(h:aa)(m b:Nat):∀(p:dz),(∀q∈p,q.2.1≠b)->(cg h m p).get b=h.get b
 |[],_=>rfl
 |(i,id,o)::p,hq=>by
  rw[Bt];have ih:=y8 h m b p λq ay=>hq q (List.mem_cons_of_mem _ ay)
  split
  . rw[bq _ _ _ _ (Ne.symm (hq (i,id,o) (by simp)))];exact ih
  . exact ih
theorem y9(h:ab)(m b:Nat):∀(p:fB),(∀q∈p,m.testBit q.1=true->q.2.1≠b)->(fP h m p).get b=h.get b
 |[],_=>rfl
 |(i,id,o)::p,hq=>by
  simp only[fP];have ih:=y9 h m b p λq ay=>hq q (List.mem_cons_of_mem _ ay)
  split
  . rename_i hm;rw[ab.bw,if_neg (Ne.symm (hq (i,id,o) (by simp) hm))];exact ih
  . exact ih
structure PJ where
 c:ug
 m:Nat
 dy:Option (Nat×Nat)
 ba:Bool
def PJ.pi(p:PJ):PI:=⟨p.c,p.m,p.dy⟩
def writes(ops:List Oper)(pl:List PJ)(s:Tmp):Bool:=(ops.zip pl).all λq=>match q.1.dst with|some d=> !Nat.beq d s||q.2.ba|none=>true
def ta(ops:List Oper)(pl:List PJ)(o:Oper)(p:PJ):Bool:=
 (!p.ba||match p.c with|.alloc=>true|.pure|.read=>(slotsOf o.op).all (writes ops pl)|_=>false)&&(match p.dy with|none=>true|some _=>p.ba&&o.dst.isSome&&decide (p.c=.read))
def wV(ops:List Oper)(pl:List PJ):Bool:=sO ops true (pl.map PJ.pi)&&(ops.zip pl).all λq=>ta ops pl q.1 q.2
def te(N0:Nat)(T:List Nat):Option Nat->Prop
 |none=>True
 |some b=>b<N0/\b∉T
def kW(dy:Option (Nat×Nat))(b:Option Nat)(L:List (Nat×Nat)):List (Nat×Nat):=match dy,b with
 |some x,some b=>(b,x.1+x.2-1)::L
 |_,_=>L
def dq(e:Env)(ops:List Oper)(N0:Nat):List Oper->List PJ->Nat->Nat->Nat->Tr DV->Nat->List FuncId->ab->fB->List Nat->List (Nat×Nat)->(DS->Prop)->Prop
 |[],_,_,_,_,t,n,dd,h,an,_,_,K=>K ⟨t,n,dd,mH h an⟩
 |_::_,[],_,_,_,_,_,_,_,_,_,_,_=>False
 |o::r,p::pl,i,id,c,t,n,dd,h,an,T,L,K=>dB o.dst n/\aG (iS ops t o) λw=>match w with
  |true=>match p.c with
   |.pure=>aG (aT e h t o.op) λv=>dq e ops N0 r pl (i+1) id c (cJ o.dst v t) n dd h an T L K
   |.read=>aG (aT e (fP h p.m an) t o.op) λv=>(p.ba=true->te N0 T (dN e t o.op))/\dq e ops N0 r pl (i+1) id c (cJ o.dst v t) n dd h an T (kW p.dy (dN e t o.op) L) K
   |.alloc=>aG (dY e t o.op) λq=>dq e ops N0 r pl (i+1) (id+1) c (cJ o.dst (q.2 id) t) n dd h ((i,id,q.1)::an) T L K
   |.effect=>cr e true o.op t dd (fP h p.m an) λv dd h T'=>(∀q∈L,c+1<=q.2->q.1∉T')/\dq e ops N0 r pl (i+1) id (c+1) (cJ o.dst v t) n dd h (jn p.m an) (T'++T) L K
   |.bad=>False
  |false=>match p.c with
   |.alloc=>dq e ops N0 r pl (i+1) (id+1) c (cJ o.dst dj t) n dd h an T L K
   |.effect=>dq e ops N0 r pl (i+1) id (c+1) (cJ o.dst dj t) n dd h an T L K
   |.bad=>False
   |_=>dq e ops N0 r pl (i+1) id c (cJ o.dst dj t) n dd h an T L K
def rz(e:Env)(ops:List Oper)(pl:List PJ)(G0:Nat->Prop)(h0:aa)(L:List (Nat×Nat))(tc:Tr Value)(k:Nat)(tk:Tr Value):Prop:=
 ∀o p,ops[k]? =some o->pl[k]? =some p->p.dy≠none->cY ops ⟨tk,0,[],{m:=.nil,next:=0}⟩ o=some false\/(cY ops ⟨tk,0,[],{m:=.nil,next:=0}⟩ o=some true/\∃d v,o.dst=some d/\tc.get d=some v/\
  (∀b,iU e tk o.op=some b->G0 b\/∃x,p.dy=some x/\(b,x.1+x.2-1)∈L)/\∀g,(∀b,iU e tk o.op=some b->g.get b=h0.get b)->bD e g tk o.op=some v)
structure DI(e:Env)(ops:List Oper)(ae:List PJ)(G0:Nat->Prop)(h0:aa)(d0:ab)(na:Nat)(i id c:Nat)(t:Tr Value)(dt:Tr DV)(G:Nat->Prop)(h:aa)(dh:ab)(an all:dz)(dp:fB)(st:List (Nat×aa))(sn:List (Tr Value))(T:List Nat)(L:List (Nat×Nat)):Prop where
 x:bM G h dh
 k:Kp G0 h0 d0 G h dh
 nx:h0.next+na<=h.next
 lo:h0.next<=id
 pe:aP (p6 (aI h G)) an dp
 pid:∀q∈dp,h0.next<=q.2.1/\q.2.1<id/\q.2.1<h.next/\dh.get q.2.1=none/\¬G q.2.1
 pw:∀q∈dp,∀q'∈dp,q.2.1=q'.2.1->q.1=q'.1
 res:∀j,id<=j->j<h0.next+na->dh.get j=none/\¬G j
 al:∀q∈all,h0.next<=q.2.1
 ht:TD (aI h G) t dt
 tO:∀s d,(∀k o p,k<i->ops[k]? =some o->ae[k]? =some p->o.dst=some s->p.ba=true)->dt.get s=some d->∃u,t.get s=some u/\Rel (aI h0 G0) u d
 ag:∀b,b<h0.next->b∉T->h.get b=h0.get b/\dh.get b=d0.get b
 ls:∀y∈L,∀(j:Nat) z,st.reverse[j]? =some z->j<=y.2->z.2.get y.1=h0.get y.1
 hd:∃m r,st=(m,h)::r
 sl:st.length=c+1
 st:∀q∈st,∀b,b<h0.next->(b∉T\/G0 b)->q.2.get b=h0.get b
 LT:∀x∈L,x.1<h0.next
 rd:∀k tk,sn.reverse[k]? =some tk->rz e ops ae G0 h0 L t k tk
 sn:sn.length=i
theorem XB{t1 t2:Tr DV}{op:Op}(h:∀s∈slotsOf op,t1.get s=t2.get s):dN e t1 op=dN e t2 op:=by
 cases op with
 |load ty a=>simp only[dN,fg (e:=e) (o:=a) h]
 |convert s d a=>simp only[dN,fg (e:=e) (o:=a) h]
 |lookup ty a b ok=>
  simp only[slotsOf,List.mem_append]at h;simp only[dN,fg (e:=e) (o:=a) λs hs=>h s (.inl hs)]
 |slice ty x l hi m=>
  simp only[slotsOf,List.mem_append]at h;simp only[dN,fg (e:=e) (o:=x) λs hs=>h s (.inl (.inl (.inl hs)))]
 |call c=>simp only[dN,wT (e:=e) (l:=c.args.toList) h]
 |_=>rfl
def tg(dt:Tr DV):List Tmp->Tr DV
 |[]=>.nil
 |s::l=>(tg dt l).set s (dt.get s)
theorem Cl(dt:Tr DV)(s:Tmp):∀(l:List Tmp),(tg dt l).get s=if s∈l then dt.get s else none
 |[]=>by simp[tg,Tr.get_nil]
 |a::l=>by
  simp only[tg,Tr.bw,Cl dt s l,List.mem_cons];by_cases h1:s=a
  . subst h1;simp
  . simp[h1]
theorem XC{ops:List Oper}{pl:List PJ}{s:Tmp}(hw:writes ops pl s=true){k:Nat}{o:Oper}{p:PJ}(ho:ops[k]? =some o)(hp:pl[k]? =some p)(hd:o.dst=some s):p.ba=true:=by
 have hz:(o,p)∈ops.zip pl:=by
  refine List.mem_of_getElem? (i:=k) ?_;rw[List.getElem?_zip_eq_some];exact⟨ho,hp⟩
 have:=List.all_eq_true.1 hw _ hz;simp only[hd,Nat.beq_refl,Bool.not_true,Bool.false_or]at this;exact this
section
variable {ops:List Oper} {ae:List PJ} {G0:Nat->Prop} {h0:aa} {d0:ab} {na i id c:Nat} {an all:dz} {dp:fB} {st:List (Nat×aa)} {sn:List (Tr Value)} {T:List Nat} {L:List (Nat×Nat)}
theorem DI.ba(q:DI e ops ae G0 h0 d0 na i id c t dt G h dh an all dp st sn T L)(x0:bM G0 h0 d0){op:Op}{m:Nat}(hs:(slotsOf op).all (writes ops ae)=true){d:DV}(hd:aT e (fP dh m dp) dt op=some d)(hc:te h0.next T (dN e dt op)):
 ∃u,bD e h0 t op=some u/\Rel (aI h0 G0) u d/\(∀b,iU e t op=some b->(dN e dt op=some b/\b<h0.next/\b∉T)\/G0 b)/\∀g,(∀b,iU e t op=some b->g.get b=h0.get b)->bD e g t op=some u:=by
 have af:∀s∈slotsOf op,(tg dt (slotsOf op)).get s=dt.get s:=λs hs=>by rw[Cl,if_pos hs]
 have ht:TD (aI h0 G0) t (tg dt (slotsOf op)):=⟨x0.fF,λs v hv=>by
  rw[Cl]at hv
  split at hv
  . rename_i hm;exact q.tO s v (λk o p _ ho hp aM=>XC (List.all_eq_true.1 hs s hm) ho hp aM) hv
  . cases hv⟩
 have av:∀b,dN e dt op=some b->b<h0.next/\b∉T:=λb hb=>by rw[hb]at hc;exact hc
 have aF:aT e d0 (tg dt (slotsOf op)) op=some d:=by
  rw[Xs af,<-hd];refine Xz λb hb=> ?_;obtain⟨h1,h2⟩:=av b hb;rw[y9 _ _ _ _ λy hy _ he=>by have:=(q.pid y hy).1;omega];exact((q.ag b h1 h2).2).symm
 obtain⟨u,h1,h2⟩:=yQ x0 ht aF;refine⟨u,h1,h2,λb hb=> ?_,λg hg=> ?_⟩
 . rcases XA ht aF hb with h3|⟨r,h3⟩
   . rw[XB af]at h3;exact .inl ⟨h3,av b h3⟩
   . exact .inr (qX h3).1
 . rw[<-h1];exact Xy hg
theorem rz.mono{L':List (Nat×Nat)}{tc aJ:Tr Value}{k:Nat}{tk:Tr Value}(hL:∀b∈L,b∈L')(ht:∀o d,ops[k]? =some o->o.dst=some d->aJ.get d=tc.get d)(h:rz e ops ae G0 h0 L tc k tk):rz e ops ae G0 h0 L' aJ k tk:=λo p ho hp aN=>by
 rcases h o p ho hp aN with h1|⟨h1,d,v,h2,h3,h4,h5⟩
 . exact .inl h1
 . exact .inr ⟨h1,d,v,h2,by rw[ht o d ho h2];exact h3,λb hb=>(h4 b hb).imp (λz=>z) λ⟨z,z1,z2⟩=>⟨z,z1,hL _ z2⟩,h5⟩
theorem XD{o:Oper}{p:PI}{r:List Oper}{pl:List PI}{n:Nat}{ds:List Deferred}{K:cH->Prop}{w:Bool}(az:dB o.dst n)(hw:cY ops ⟨t,n,ds,h⟩ o=some w)
 (hk:match w,p.c with
  |true,.pure=>aG (bD e h t o.op) λv=>cq e none ops r pl (i+1) id (bH o.dst v t) n ds h an all st (t::sn) K
  |true,.read=>aG (bD e (cg h p.m an) t o.op) λv=>cq e none ops r pl (i+1) id (bH o.dst v t) n ds h an all st (t::sn) K
  |true,.alloc=>aG (cU e t o.op) λq=>cq e none ops r pl (i+1) (id+1) (bH o.dst (q.2 id) t) n ds h ((i,id,q.1)::an) ((i,id,q.1)::all) st (t::sn) K
  |true,.effect=>bG e none o.op t ds (cg h p.m an) λv ds h=>cq e none ops r pl (i+1) id (bH o.dst v t) n ds h (an.filter λq=> !p.m.testBit q.1) all ((Nat.lor ((st.head?.map (·.1)).getD 0) p.m,h)::st) (t::sn) K
  |true,.bad=>False
  |false,.effect=>cq e none ops r pl (i+1) id (bH o.dst undef t) n ds h an all (((st.head?.map (·.1)).getD 0,h)::st) (t::sn) K
  |false,.alloc=>cq e none ops r pl (i+1) (id+1) (bH o.dst undef t) n ds h an all st (t::sn) K
  |false,.bad=>False
  |false,_=>cq e none ops r pl (i+1) id (bH o.dst undef t) n ds h an all st (t::sn) K):
 cq e none ops (o::r) (p::pl) i id t n ds h an all st sn K:=by
 obtain⟨c,m,dy⟩:=p;refine⟨az, ?_⟩;unfold cY at hw;cases hg:o.guard with
 |none=>
  rw[hg]at hw;simp only[Option.some.injEq]at hw;subst hw;cases c<;>exact hk
 |some jw=>
  obtain⟨j,want⟩:=jw;rw[hg]at hw;simp only at hw⊢;cases hd:(ops[j]?).bind (·.dst)with
  |none=>simp[hd]at hw
  |some d=>
   simp only[hd]at hw;refine⟨d,rfl, ?_⟩;cases ht:t.get d with
   |none=>simp[ht]at hw
   |some g=>
    refine⟨g,ht, ?_⟩;cases g with
    |bool b=>
     simp only[ht,Option.some.injEq]at hw;refine⟨λhb=> ?_,λhb=> ?_⟩
     . have:w=true:=by rw[<-hw,hb];simp
       subst this;cases c<;>exact hk
     . have:w=false:=by rw[<-hw,hb];cases want<;>rfl
       subst this;cases c<;>exact hk
    |tuple vs=>
     simp only[ht,Option.some.injEq]at hw;subst hw;cases c<;>exact hk
    |_=>simp[ht]at hw
theorem Cm(m:Nat):∀{p:dz} {dp:fB},aP (p6 R) p dp->aP (p6 R) (p.filter λq=> !m.testBit q.1) (jn m dp)
 |_,_,.nil=>.nil
 |_,_,.cons (a:=a) (b:=b) h1 h2=>by
  simp only[jn,List.filter_cons,h1.i]
  split
  . exact .cons h1 (Cm m h2)
  . exact Cm m h2
theorem p6.mono{R':Rows}(hR:∀i r,R i=some r->R' i=some r){x:Nat×Nat×bK}{y:Nat×Nat×bF}(h:p6 R x y):p6 R' x y:=⟨h.i,h.id,h.o.mono hR⟩
def Cn(ops:List Oper):Prop:=∀(j k:Nat) o p d,ops[j]? =some o->ops[k]? =some p->j≠k->o.dst=some d->p.dst≠some d
theorem XE{ms:List Nat}(h:qG ops ms=true):Cn ops:=by
 intro j k o p d ho hp aO hd aE;simp only[qG,Bool.and_eq_true,List.all_eq_true]at h;obtain⟨⟨⟨⟨_,_⟩,h3⟩,_⟩,_⟩:=h;have m1:(o,j)∈ops.zipIdx:=by rw[List.mem_zipIdx_iff_getElem?];simpa using ho
 have m2:(p,k)∈ops.zipIdx:=by rw[List.mem_zipIdx_iff_getElem?];simpa using hp
 have:=h3 _ m1;simp only[hd]at this;have:=List.all_eq_true.1 this _ m2;have hb:Nat.beq j k=false:=by
  cases hb:Nat.beq j k with
  |false=>rfl
  |true=>exact absurd (Nat.eq_of_beq_eq_true hb) aO
 simp only[hb,aE,Nat.beq_refl,Bool.not_true,Bool.false_and,Bool.or_self]at this;cases this
theorem Co{α:Type}{l:List α}{a x:α}{k:Nat}(h:(l++[a])[k]? =some x):l[k]? =some x\/(k=l.length/\x=a):=by
 rcases Nat.lt_or_ge k l.length with hk|hk
 . rw[List.getElem?_append_left hk]at h;exact .inl h
 . rw[List.getElem?_append_right hk]at h;have:k-l.length=0:=by
    rcases Nat.eq_zero_or_pos (k-l.length)with h0|h0
    . exact h0
    . rw[List.getElem?_eq_none (by simp;omega)]at h;cases h
   rw[this]at h;simp only[List.getElem?_cons_zero,Option.some.injEq]at h;exact .inr ⟨by omega,h.symm⟩
theorem DI.next(q:DI e ops ae G0 h0 d0 na i id c t dt G h dh an all dp st sn T L)(aD:Cn ops){o:Oper}{p:PJ}(ho:ops[i]? =some o)(hp:ae[i]? =some p){u:Value}{d:DV}(hr:Rel (aI h G) u d)(hold:p.ba=true->Rel (aI h0 G0) u d)
 {L':List (Nat×Nat)} (hL:∀b∈L,b∈L') (aQ:∀x∈L',x.1<h0.next) (aR:∀y∈L',∀(j:Nat) z,st.reverse[j]? =some z->j<=y.2->z.2.get y.1=h0.get y.1) (aU:rz e ops ae G0 h0 L' (bH o.dst u t) i t):
 DI e ops ae G0 h0 d0 na (i+1) id c (bH o.dst u t) (cJ o.dst d dt) G h dh an all dp st (t::sn) T L' where
 x:=q.x
 k:=q.k
 nx:=q.nx
 lo:=q.lo
 pe:=q.pe
 pid:=q.pid
 pw:=q.pw
 res:=q.res
 al:=q.al
 ht:=q.ht.put o.dst hr
 tO:=by
  intro s c hs hc;have rest:dt.get s=some c->∃w,t.get s=some w/\Rel (aI h0 G0) w c:=λhc=>q.tO s c (λk o p hk=>hs k o p (by omega)) hc;cases ai:o.dst with
  |none=>rw[ai]at hc;exact rest hc
  |some s'=>
   rw[ai]at hc;simp only[cJ,Tr.bw]at hc;simp only[bH,Tr.bw]
   split at hc
   . rename_i he;cases hc;exact⟨u,by rw[if_pos he],hold (hs i o p (by omega) ho hp (by rw[ai,he]))⟩
   . rename_i he;rw[if_neg he];exact rest hc
 ag:=q.ag
 st:=q.st
 LT:=aQ
 ls:=aR
 hd:=q.hd
 sl:=q.sl
 rd:=by
  intro k tk hk;rw[List.reverse_cons]at hk;rcases Co hk with h1|⟨h1,rfl⟩
  . have aZ:k<i:=by
     have:=(List.getElem?_eq_some_iff.1 h1).1;rw[List.length_reverse,q.sn]at this;exact this
    refine(q.rd k tk h1).mono hL λo' d' aV aE=> ?_;cases ai:o.dst with
    |none=>rfl
    |some s'=>
     have:d'≠s':=λhe=>aD k i o' o d' aV ho (by omega) aE (by rw[ai,he]);simp only[bH,Tr.bw,if_neg this]
  . rw[List.length_reverse,q.sn]at h1;subst h1;exact aU
 sn:=by simp[q.sn]
end
end Go.aw
end
noncomputable section
namespace Go.Sp
abbrev dx:Type:=Nat->Bool
def db(ρ:dx)(v:Nat)(b:Bool):dx:=λw=>if w=v then b else ρ w
def nL(N:List Br):Nat->Nat->dx->Bool
 |0,n,_=>n==1
 |f+1,n,ρ=>if n<2 then n==1 else match N[n-2]? with
  |none=>false
  |some (v,l,u)=>nL N f (if ρ v then u else l) ρ
def tb(N:List Br)(n:Nat)(ρ:dx):Bool:=nL N n n ρ
structure eG(N:List Br):Prop where
 ok:∀(k:Nat) x,N[k]? =some x->x.1<64/\x.2.1<k+2/\x.2.2<k+2/\x.2.1≠x.2.2/\x.1<b8 N x.2.1/\x.1<b8 N x.2.2
 nd:N.Nodup
theorem Di{N:List Br}(h:eG N):∀(f g n:Nat) (ρ:dx),n<=f->n<=g->nL N f n ρ=nL N g n ρ
 |0,g,n,ρ,hf,_=>by
  obtain rfl:n=0:=Nat.le_zero.1 hf;cases g<;>simp[nL]
 |f+1,0,n,ρ,_,hg=>by
  obtain rfl:n=0:=Nat.le_zero.1 hg;simp[nL]
 |f+1,g+1,n,ρ,hf,hg=>by
  simp only[nL]
  split
  . rfl
  . rename_i hn;cases hx:N[n-2]? with
    |none=>rfl
    |some x=>
     obtain⟨v,l,u⟩:=x;obtain⟨_,h1,h2,_⟩:=h.ok _ _ hx;simp only at h1 h2;simp only;apply Di h
     . split<;>omega
     . split<;>omega
theorem acx(N:List Br)(ρ:dx):tb N 0 ρ=false:=rfl
theorem acy(N:List Br)(ρ:dx):tb N 1 ρ=true:=rfl
theorem oT{N:List Br}{n:Nat}(hn:n<2)(ρ:dx):tb N n ρ=decide (n=1):=by
 match n,hn with
 |0,_=>rfl
 |1,_=>rfl
theorem k9{N:List Br}(h:eG N){n:Nat}(hn:2<=n){v l u:Nat}(hx:N[n-2]? =some (v,l,u))(ρ:dx):tb N n ρ=if ρ v then tb N u ρ else tb N l ρ:=by
 obtain⟨_,h1,h2,_⟩:=h.ok _ _ hx;simp only at h1 h2;unfold tb;obtain⟨m,rfl⟩:∃m,n=m+1:=⟨n-1,by omega⟩;have aw:¬m+1<2:=by omega
 rw[nL,if_neg aw,hx];simp only
 split
 . exact Di h _ _ _ _ (by omega) (Nat.le_refl _)
 . exact Di h _ _ _ _ (by omega) (Nat.le_refl _)
theorem oU{N:List Br}{n:Nat}(hn:n<2):b8 N n=64:=by simp[b8,hn]
theorem mj{N:List Br}{n:Nat}(hn:2<=n){x:Br}(hx:N[n-2]? =some x):b8 N n=x.1:=by
 have:¬n<2:=by omega
 simp[b8,this,hx]
theorem acz{N:List Br}(h:eG N):∀(n:Nat) (ρ ad:dx),n<N.length+2->(∀w,b8 N n<=w->ρ w=ad w)->tb N n ρ=tb N n ad:=by
 intro n
 induction n using Nat.strongRecOn with
 |_ n ih=>
  intro ρ ad hn ha;by_cases h2:n<2
  . rw[oT h2,oT h2]
  . obtain⟨⟨v,l,u⟩,hx⟩:∃x,N[n-2]? =some x:=⟨_,List.getElem?_eq_getElem (by omega)⟩;obtain⟨_,h3,h4,_,h5,h6⟩:=h.ok _ _ hx;simp only at h3 h4 h5 h6;have hl:b8 N n=v:=mj (by omega) hx;rw[k9 h (by omega) hx,k9 h (by omega) hx,ha v (by omega)];rw[ih u (by omega) ρ ad (by omega) λw hw=>ha w (by omega),ih l (by omega) ρ ad (by omega) λw hw=>ha w (by omega)]
theorem xA(ρ:dx)(v:Nat)(b:Bool):db ρ v b v=b:=by simp[db]
theorem acA(ρ:dx){v w:Nat}(b:Bool)(h:w≠v):db ρ v b w=ρ w:=by simp[db,h]
theorem iY{N:List Br}(h:eG N){n v:Nat}(hn:n<N.length+2)(hv:v<b8 N n)(ρ:dx)(b:Bool):tb N n (db ρ v b)=tb N n ρ:=
 acz h n _ _ hn λw hw=>acA ρ b (by omega)
theorem Dj{N:List Br}(h:eG N):∀(K n m:Nat),n<=K->m<=K->n<N.length+2->m<N.length+2->(∀ρ,tb N n ρ=tb N m ρ)->n=m:=by
 intro K
 induction K with
 |zero=>intro n m h1 h2 _ _ _;omega
 |succ K ih=>
  have key:∀n m,n<=K+1->m<=K+1->n<N.length+2->m<N.length+2->(∀ρ,tb N n ρ=tb N m ρ)->2<=n->b8 N n<b8 N m->False:=by
   intro n m hn hm ao ae ht h2 aa;obtain⟨⟨v,l,u⟩,hx⟩:∃x,N[n-2]? =some x:=⟨_,List.getElem?_eq_getElem (by omega)⟩;obtain⟨_,h3,h4,af,h5,h6⟩:=h.ok _ _ hx;simp only at h3 h4 h5 h6 af;have hl:b8 N n=v:=mj h2 hx;rw[hl]at aa;refine af (ih l u (by omega) (by omega) (by omega) (by omega) λρ=> ?_);have e0:=ht (db ρ v false);have e1:=ht (db ρ v true);rw[k9 h h2 hx,xA,iY h ae aa]at e0 e1;simp only[Bool.false_eq_true,if_false,if_true]at e0 e1;rw[iY h (by omega) h5]at e0;rw[iY h (by omega) h6]at e1;rw[e0,e1]
  intro n m hn hm ao ae ht;rcases Nat.lt_trichotomy (b8 N n) (b8 N m)with aa|heq|ai
  . by_cases h2:n<2
    . rw[oU h2]at aa;by_cases h3:m<2
      . rw[oU h3]at aa;omega
      . obtain⟨x,hx⟩:∃x,N[m-2]? =some x:=⟨_,List.getElem?_eq_getElem (by omega)⟩;have:=(h.ok _ _ hx).1;rw[mj (by omega) hx]at aa;omega
    . exact(key n m hn hm ao ae ht (by omega) aa).elim
  . by_cases h2:n<2
    . by_cases h3:m<2
      . have:=ht (λ_=>false);rw[oT h2,oT h3]at this;have:(n=1)↔(m=1):=by simpa using this
        omega
      . obtain⟨x,hx⟩:∃x,N[m-2]? =some x:=⟨_,List.getElem?_eq_getElem (by omega)⟩;have:=(h.ok _ _ hx).1;rw[oU h2,mj (by omega) hx]at heq;omega
    . by_cases h3:m<2
      . obtain⟨x,hx⟩:∃x,N[n-2]? =some x:=⟨_,List.getElem?_eq_getElem (by omega)⟩;have:=(h.ok _ _ hx).1;rw[oU h3,mj (by omega) hx]at heq;omega
      . obtain⟨⟨v,l,u⟩,hx⟩:∃x,N[n-2]? =some x:=⟨_,List.getElem?_eq_getElem (by omega)⟩;obtain⟨⟨v',l',u'⟩,ab⟩:∃x,N[m-2]? =some x:=⟨_,List.getElem?_eq_getElem (by omega)⟩;obtain⟨_,a1,a2,_,a3,a4⟩:=h.ok _ _ hx;obtain⟨_,b1,b2,_,b3,b4⟩:=h.ok _ _ ab;simp only at a1 a2 a3 a4 b1 b2 b3 b4;rw[mj (by omega) hx,mj (by omega) ab]at heq;simp only at heq;subst heq;have el:l=l':=ih l l' (by omega) (by omega) (by omega) (by omega) λρ=>by
         have e0:=ht (db ρ v false);rw[k9 h (by omega) hx,k9 h (by omega) ab,xA]at e0;simp only[Bool.false_eq_true,if_false]at e0;rwa[iY h (by omega) a3,iY h (by omega) b3]at e0
        have eu:u=u':=ih u u' (by omega) (by omega) (by omega) (by omega) λρ=>by
         have e0:=ht (db ρ v true);rw[k9 h (by omega) hx,k9 h (by omega) ab,xA]at e0;simp only[if_true]at e0;rwa[iY h (by omega) a4,iY h (by omega) b4]at e0
        subst el;subst eu;have av:n-2<N.length:=by omega
        have dS:m-2<N.length:=by omega
        have:=(List.getElem_inj (i:=n-2) (j:=m-2) h.nd (h₀:=av) (h₁:=dS)).1 (by
         rw[List.getElem?_eq_getElem av]at hx;rw[List.getElem?_eq_getElem dS]at ab;rw[Option.some.inj hx,Option.some.inj ab])
        omega
  . by_cases h2:m<2
    . rw[oU h2]at ai;by_cases h3:n<2
      . rw[oU h3]at ai;omega
      . obtain⟨x,hx⟩:∃x,N[n-2]? =some x:=⟨_,List.getElem?_eq_getElem (by omega)⟩;have:=(h.ok _ _ hx).1;rw[mj (by omega) hx]at ai;omega
    . exact(key m n hm hn ae ao (λρ=>(ht ρ).symm) (by omega) ai).elim
theorem zD{N:List Br}(x:Br){n:Nat}(hn:n<N.length+2):b8 (N++[x]) n=b8 N n:=by
 unfold b8
 split
 . rfl
 . rw[List.getElem?_append_left (by omega)]
theorem Jb{N N':List Br}(h:eG N)(hp:N<+:N'):∀(f n:Nat) (ρ:dx),n<N.length+2->nL N' f n ρ=nL N f n ρ
 |0,n,ρ,_=>rfl
 |f+1,n,ρ,hn=>by
  simp only[nL]
  split
  . rfl
  . obtain⟨r,rfl⟩:=hp;rw[List.getElem?_append_left (by omega)];cases hx:N[n-2]? with
    |none=>rfl
    |some x=>
     obtain⟨v,l,u⟩:=x;obtain⟨_,h1,h2,_⟩:=h.ok _ _ hx;simp only at h1 h2;exact Jb h ⟨r,rfl⟩ f _ ρ (by split<;>omega)
theorem zE{N N':List Br}(h:eG N)(hp:N<+:N'){n:Nat}(hn:n<N.length+2)(ρ:dx):tb N' n ρ=tb N n ρ:=Jb h hp n n ρ hn
theorem eG.snoc{N:List Br}(h:eG N){v l u:Nat}(hv:v<64)(hl:l<N.length+2)(hu:u<N.length+2)(af:l≠u)(h1:v<b8 N l)(h2:v<b8 N u)(au:(v,l,u)∉N):eG (N++[(v,l,u)]):=by
 refine⟨λk x hx=> ?_, ?_⟩
 . rcases Nat.lt_or_ge k N.length with hk|hk
   . rw[List.getElem?_append_left hk]at hx;obtain⟨a1,a2,a3,a4,a5,a6⟩:=h.ok k x hx;exact⟨a1,a2,a3,a4,by rwa[zD _ (by omega)],by rwa[zD _ (by omega)]⟩
   . have ay:k=N.length:=by
      have:=(List.getElem?_eq_some_iff.1 hx).1;simp at this;omega
     subst ay;simp at hx;subst hx;exact⟨hv,hl,hu,af,by rwa[zD _ hl],by rwa[zD _ hu]⟩
 . rw[List.nodup_append];exact⟨h.nd,by simp,λa ha b hb=>by simp at hb;subst hb;exactλe=>au (e▸ha)⟩
end Go.Sp
end
noncomputable section
open Go Go.aw Go.Proofs
namespace Go.Sp
set_option maxRecDepth 100000
theorem acB(a b c:Int):qO E [.int .i64 a,.int .i64 b,.int .i64 c]=some (.int .i64 (min (min a b) c)):=by
 have h:qO E [.int .i64 a,.int .i64 b,.int .i64 c]=e9 Tryz.prog (Builtin.min_ #[] 0 #[.int .i64 a,.int .i64 b,.int .i64 c]):=rfl;rw[h];unfold e9;have h2:bY Tryz.prog (Builtin.min_ #[] 0 #[.int .i64 a,.int .i64 b,.int .i64 c])=some (.int .i64 (min (min a b) c)):=by
  simp[Builtin.min_,Builtin.min2,mO,tz,Int.min_def]
  split<;>split<;>(try split)<;>omega
 rw[h2];rfl
theorem zF{N:List Br}(h:eG N){n v:Nat}(hn:n<N.length+2)(hv:v<64)(hd:∀(ρ:dx) w b,w<=v->tb N n (db ρ w b)=tb N n ρ):v<b8 N n:=by
 by_cases h2:n<2
 . rw[oU h2];exact hv
 . obtain⟨⟨w,l,u⟩,hx⟩:∃x,N[n-2]? =some x:=⟨_,List.getElem?_eq_getElem (by omega)⟩;obtain⟨_,h3,h4,aa,h5,h6⟩:=h.ok _ _ hx;simp only at h3 h4 h5 h6 aa;rw[mj (by omega) hx];show v<w;rcases Nat.lt_or_ge v w with h7|h7
   . exact h7
   . exfalso;refine aa (Dj h n l u (by omega) (by omega) (by omega) (by omega) λρ=> ?_);have e0:=hd ρ w false h7;have e1:=hd ρ w true h7;rw[k9 h (by omega) hx,xA]at e0 e1;simp only[Bool.false_eq_true,if_false,if_true]at e0 e1;rw[iY h (by omega) h5]at e0;rw[iY h (by omega) h6]at e1;rw[e0,e1]
end Go.Sp
end
noncomputable section
open Go Go.aw Go.Proofs
namespace Go.Sp
set_option maxRecDepth 100000
structure oV where
 sl:Value
 ns:List Br
 r:Nat
def oV.ok(h:aa)(d:oV):Prop:=kO 3 h d.sl (d.ns.map dJ)/\eG d.ns/\(∀x∈d.ns,x.1<3)/\d.ns.length<=300
theorem oV.ok.sub{h g:aa}{d:oV}(hd:d.ok h)(a:Sub h g):d.ok g:=⟨hd.1.sub a,hd.2⟩
section
variable (b:Nat) (h0:aa) (d0 d1 d2:oV) (fo:Nat) (cap:List Value) (op:Bool->Bool->Bool->Bool)
structure zG:Prop where
 b:h0.next=b
 d0:d0.ok h0
 d1:d1.ok h0
 d2:d2.ok h0
 op:∀H,Sub h0 H->∀x y z,bS E fo ([.bool x,.bool y,.bool z]++cap) H (.bool (op x y z)) H
def vn:Value:=.func (.func 176) #[] #[.pointer (some ⟨b+1,0,none⟩),.pointer (some ⟨b+7,0,none⟩),.pointer (some ⟨b,0,none⟩),.pointer (some ⟨b+8,0,none⟩),.pointer (some ⟨b+5,0,none⟩)]
structure qk(H:aa)(i:Nat)(N:List Br)(L:List ((Nat×Nat×Nat)×Nat)):Prop where
 sub:Sub h0 H
 nx:b+9<=H.next
 lB:H.get b=some (.row [d0.sl,.int .i64 d0.r,d1.sl,.int .i64 d1.r,d2.sl,.int .i64 d2.r] true 0)
 Dk:H.get (b+1)=some (.row [.func (.func fo) #[] cap.toArray] true 0)
 bC:H.get (b+5)=some (.row [.pointer (some ⟨b+4,0,none⟩)] true 0)
 nM:H.get (b+7)=some (.row [.map (some (b+6))] true 0)
 zH:H.get (b+8)=some (.row [vn b] true 0)
 xB:iq H (b+4) (b+3) i N
 ii:N≠[]->b+9<=i
 il:i<H.next
 kG:∃es clock,H.get (b+6)=some (.map es clock)/\kh oS iC es L
 jZ:eG N
 v3:∀x∈N,x.1<3
 Dl:∀x y z r,bf L (x,y,z)=some r->r<N.length+2/\∀ρ,tb N r ρ=op (tb d0.ns x ρ) (tb d1.ns y ρ) (tb d2.ns z ρ)
end
def Dm(b:Nat)(h0:aa)(d0 d1 d2:oV)(fo:Nat)(cap:List Value)(op:Bool->Bool->Bool->Bool)(H:aa)(i:Nat)(N:List Br)(x y z:Nat)(v:Value)(H':aa):Prop:=
 ∃(r i':Nat) (N':List Br) (L':List ((Nat×Nat×Nat)×Nat)),v=.int .i64 r/\qk b h0 d0 d1 d2 fo cap op H' i' N' L'/\N<+:N'/\r<N'.length+2/\(∀ρ,tb N' r ρ=op (tb d0.ns x ρ) (tb d1.ns y ρ) (tb d2.ns z ρ))/\
  (H.next<=H'.next/\∀j o,j<H.next->j≠b+3->j≠b+4->j≠b+6->j≠i->H.get j=some o->H'.get j=some o)/\(i'=i\/H.next<=i')
theorem iq.sub{h g:aa}{B M i:Nat}{N:List Br}(hb:iq h B M i N)(a:Sub h g):iq g B M i N:=by
 obtain⟨⟨sl,h1,h2⟩,⟨es,cl,h3,h4⟩,h5,h6,h7⟩:=hb;refine⟨⟨sl,a.get _ _ h6 h1, ?_⟩,⟨es,cl,a.get _ _ h7 h3,h4⟩,h5,Nat.lt_of_lt_of_le h6 a.next,Nat.lt_of_lt_of_le h7 a.next⟩;rcases h2 with h2|⟨e1,e2,e3,e4,e5⟩
 . exact .inl h2
 . exact .inr ⟨e1,e2,a.get _ _ e4 e3,Nat.lt_of_lt_of_le e4 a.next,e5⟩
theorem qk.mono{b:Nat}{h0:aa}{d0 d1 d2:oV}{fo:Nat}{cap:List Value}{op:Bool->Bool->Bool->Bool}{H G:aa}{i:Nat}{N:List Br}{L:List ((Nat×Nat×Nat)×Nat)}(I:qk b h0 d0 d1 d2 fo cap op H i N L)(a:Sub H G):qk b h0 d0 d1 d2 fo cap op G i N L:=by
 have hn:=I.nx;obtain⟨es,cl,h3,h4⟩:=I.kG;exact⟨I.sub.trans a,Nat.le_trans hn a.next,a.get _ _ (by omega) I.lB,a.get _ _ (by omega) I.Dk,a.get _ _ (by omega) I.bC,a.get _ _ (by omega) I.nM,a.get _ _ (by omega) I.zH,I.xB.sub a,I.ii,Nat.lt_of_lt_of_le I.il a.next,
  ⟨es,cl,a.get _ _ (by omega) h3,h4⟩,I.jZ,I.v3,I.Dl⟩
def mP(b:Nat):List Value:=[.pointer (some ⟨b+1,0,none⟩),.pointer (some ⟨b+7,0,none⟩),.pointer (some ⟨b,0,none⟩),.pointer (some ⟨b+8,0,none⟩),.pointer (some ⟨b+5,0,none⟩)]
section
variable {b:Nat} {h0:aa} {d0 d1 d2:oV} {fo:Nat} {cap:List Value} {op:Bool->Bool->Bool->Bool} {H:aa} {i:Nat} {N:List Br} {L:List ((Nat×Nat×Nat)×Nat)}
theorem acC(S:zG b h0 d0 d1 d2 fo cap op)(I:qk b h0 d0 d1 d2 fo cap op H i N L){x y z:Nat}(hx:x<2)(hy:y<2)(hz:z<2):
 bS E 176 (.agg #[.int .i64 x,.int .i64 y,.int .i64 z]::mP b) H (.int .i64 (if op (decide (x=1)) (decide (y=1)) (decide (z=1))then 1 else 0:Nat)) H:=by
 have r1:rd H (b+1) 0=some (.func (.func fo) #[] cap.toArray):=cZ (o:=0) I.Dk;have hn:=I.nx;have ad:(x:Int)<2:=by omega
 have ae:(y:Int)<2:=by omega
 have af:(z:Int)<2:=by omega
 refine mB Cj rfl Tryz.ntmps176 Tryz.results176 rfl ?_;simp(disch:=omega)[go_sem,mP,dU,du,ad,ae,af,r1];have one:∀n:Nat,decide ((n:Int)=1)=decide (n=1):=λn=>decide_eq_decide.2 (by omega);rw[one,one,one];refine KC.mk (S.op _ (I.sub.new _) _ _ _) ?_;cases op (decide (x=1)) (decide (y=1)) (decide (z=1))with
 |true=>
  simp(disch:=omega)[go_sem];exact(Sub.refl H).new _
 |false=>
  simp(disch:=omega)[go_sem];exact(Sub.refl H).new _
theorem acD(I:qk b h0 d0 d1 d2 fo cap op H i N L){x y z r:Nat}(hc:¬(x<2/\y<2/\z<2))(hk:bf L (x,y,z)=some r):
 bS E 176 (.agg #[.int .i64 x,.int .i64 y,.int .i64 z]::mP b) H (.int .i64 r) H:=by
 have r1:rd H (b+7) 0=some (.map (some (b+6))):=cZ (o:=0) I.nM;have hn:=I.nx;obtain⟨es,clock,hM,ai⟩:=I.kG;have ab:=yG Dc Da ai (x,y,z) true clock hk;simp only[oS,iC,cond_true]at ab;refine mB Cj rfl Tryz.ntmps176 Tryz.results176 rfl ?_;have fin:∀a o,Sub H ((H.new a).set H.next o):=λa o=>((Sub.refl H).new a).set (Nat.le_refl _) o;by_cases hx:(x:Int)<2
 . by_cases hy:(y:Int)<2
   . have hz:¬(z:Int)<2:=by omega
     simp(disch:=omega)[go_sem,mP,dU,du,bI,hx,hy,hz,r1,hM,ab];exact(Sub.refl H).new _
   . simp(disch:=omega)[go_sem,mP,dU,du,bI,hx,hy,r1,hM,ab];exact(Sub.refl H).new _
 . simp(disch:=omega)[go_sem,mP,dU,du,bI,hx,r1,hM,ab];exact(Sub.refl H).new _
end
end Go.Sp
end

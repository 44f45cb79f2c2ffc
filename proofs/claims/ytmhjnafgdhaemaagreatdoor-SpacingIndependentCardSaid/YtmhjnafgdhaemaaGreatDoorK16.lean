/- SpacingIndependent: parts of its proof. -/
import Derived.Test.YtmhjnafgdhaemaaGreatDoorK15
open List renaming mem_append->qe,filter_cons->xS,length_reverse->Er,mem_cons->GP,all_eq_true->PO,mem_cons_of_mem->Qc,mem_of_getElem?->TF,getElem?_zip_eq_some->VK,reverse_cons->W9,mem_zipIdx_iff_getElem?->Zj,length_cons->Zr,getElem?_append_right->ZL,getElem?_drop->Z4,getElem?_of_mem->abR,flatMap_cons->ab8,drop_drop->adS,mem_reverse->adT,mem_filter->adU,getD_eq_getElem?_getD->adV,length_map->adW,getElem?_map->adX
open Bool renaming and_eq_true->DE,not_true->ZJ
open Option.some renaming injEq->PX
open Nat renaming eq_of_beq_eq_true->W2
open Option renaming bind_some->Xw,bind_eq_some_iff->adr
set_option linter.all false
set_option maxRecDepth 100000
noncomputable section
namespace Go.au
variable {e:Env} {G:Nat->Prop} {h:aa} {dh:ab} {t:Tr Value} {dt:Tr DV} {R:Rows}
def jJ:Operand->List Tmp
 |.tmp t=>[t]
 |_=>[]
def xC:Option Operand->List Tmp
 |none=>[]
 |some o=>jJ o
def slotsOf:Op->List Tmp
 |.move x|.assign x|.load _ x|.nilCheck x|.unOp _ _ x|.convert _ _ x|.makeInterface _ x|.fieldAddr _ x _|.field _ x _|.extract x _=>jJ x
 |.pick c a b=>jJ c++jJ a++jJ b
 |.build _ ps=>ps.toList.flatMap λp=>jJ p.2
 |.makeFunc _ a c=>a.toList.flatMap jJ++c.toList.flatMap jJ
 |.slice _ x l h m=>jJ x++xC l++xC h++xC m
 |.binOp _ _ a b _|.indexAddr _ a b|.index _ a b|.lookup _ a b _=>jJ a++jJ b
 |.call c=>c.args.toList.flatMap jJ
 |_=>[]
theorem eF{t1 t2:Tr DV}{o:Operand}(h:∀s∈jJ o,t1.get s=t2.get s):aB e t1 o=aB e t2 o:=by
 cases o with
 |tmp i=>exact h i (by simp[jJ])
 |_=>rfl
theorem uX{t1 t2:Tr DV}:∀{l:List Operand},(∀s∈l.flatMap jJ,t1.get s=t2.get s)->cz e t1 l=cz e t2 l
 |[],_=>rfl
 |o::r,h=>by
  simp only[ab8,qe]at h;simp only[cz,eF (e:=e) λs hs=>h s (.inl hs),uX λs hs=>h s (.inr hs)]
theorem Fe{t1 t2:Tr DV}:∀{l:List (Nat×Operand)},(∀s∈l.flatMap (λp=>jJ p.2),t1.get s=t2.get s)->fw e t1 l=fw e t2 l
 |[],_=>rfl
 |(i,o)::r,h=>by
  simp only[ab8,qe]at h;simp only[fw,eF (e:=e) λs hs=>h s (.inl hs),Fe λs hs=>h s (.inr hs)]
theorem AD{t1 t2:Tr DV}{o:Option Operand}(h:∀s∈xC o,t1.get s=t2.get s):eh e t1 o=eh e t2 o:=by
 cases o with
 |none=>rfl
 |some o=>simp only[eh,eF (e:=e) h]
theorem Un{t1 t2:Tr DV}{op:Op}(h:∀s∈slotsOf op,t1.get s=t2.get s):aS e dh t1 op=aS e dh t2 op:=by
 cases op with
 |move x=>exact eF h
 |assign x=>exact eF h
 |pick c a b=>
  simp only[slotsOf,qe]at h;simp only[aS,eF (e:=e) (o:=c) λs hs=>h s (.inl (.inl hs)),eF (e:=e) (o:=a) λs hs=>h s (.inl (.inr hs)),eF (e:=e) (o:=b) λs hs=>h s (.inr hs)]
 |build ty ps=>simp only[aS,Fe (e:=e) h]
 |load ty a=>simp only[aS,eF (e:=e) (o:=a) h]
 |nilCheck a=>simp only[aS,eF (e:=e) (o:=a) h]
 |unOp op z a=>simp only[aS,eF (e:=e) (o:=a) h]
 |convert s d a=>simp only[aS,eF (e:=e) (o:=a) h]
 |makeInterface ty a=>simp only[aS,eF (e:=e) (o:=a) h]
 |fieldAddr s a f=>simp only[aS,eF (e:=e) (o:=a) h]
 |field s a f=>simp only[aS,eF (e:=e) (o:=a) h]
 |extract a i=>simp only[aS,eF (e:=e) (o:=a) h]
 |makeFunc fn a c=>
  simp only[slotsOf,qe]at h;cases fn with
  |func f=>simp only[aS,uX (e:=e) (l:=a.toList) λs hs=>h s (.inl hs),uX (e:=e) (l:=c.toList) λs hs=>h s (.inr hs)]
  |_=>rfl
 |slice ty x l hi m=>
  simp only[slotsOf,qe]at h;simp only[aS,eF (e:=e) (o:=x) λs hs=>h s (.inl (.inl (.inl hs))),AD (e:=e) (o:=l) λs hs=>h s (.inl (.inl (.inr hs))),AD (e:=e) (o:=hi) λs hs=>h s (.inl (.inr hs)),AD (e:=e) (o:=m) λs hs=>h s (.inr hs)]
 |binOp op ty a b z=>
  simp only[slotsOf,qe]at h;simp only[aS,eF (e:=e) (o:=a) λs hs=>h s (.inl hs),eF (e:=e) (o:=b) λs hs=>h s (.inr hs)]
 |indexAddr ty a b=>
  simp only[slotsOf,qe]at h;simp only[aS,eF (e:=e) (o:=a) λs hs=>h s (.inl hs),eF (e:=e) (o:=b) λs hs=>h s (.inr hs)]
 |index ty a b=>
  simp only[slotsOf,qe]at h;simp only[aS,eF (e:=e) (o:=a) λs hs=>h s (.inl hs),eF (e:=e) (o:=b) λs hs=>h s (.inr hs)]
 |lookup ty a b ok=>
  simp only[slotsOf,qe]at h;simp only[aS,eF (e:=e) (o:=a) λs hs=>h s (.inl hs),eF (e:=e) (o:=b) λs hs=>h s (.inr hs)]
 |call c=>simp only[aS,uX (e:=e) (l:=c.args.toList) h]
 |_=>rfl
def mB:Option Value->Option Nat
 |some (.pointer (some a))=>some a.block
 |some (.slice (some a) _ _)=>some a.block
 |some (.map (some r))=>some r
 |_=>none
def je:Option DV->Option Nat
 |some (.v v)=>mB (some v)
 |_=>none
def ig(e:Env)(t:Tr Value):Op->Option Nat
 |.load _ a=>mB (aw e t a)
 |.lookup _ m _ _=>mB (aw e t m)
 |.slice _ x _ _ _=>mB (aw e t x)
 |.convert _ _ x=>mB (aw e t x)
 |.call c=>match cR e t c.args.toList with|some [x]=>mB (some x)|_=>none
 |_=>none
def dA(e:Env)(t:Tr DV):Op->Option Nat
 |.load _ a=>je (aB e t a)
 |.lookup _ m _ _=>je (aB e t m)
 |.slice _ x _ _ _=>je (aB e t x)
 |.convert _ _ x=>je (aB e t x)
 |.call c=>match cz e t c.args.toList with|some [x]=>je (some x)|_=>none
 |_=>none
theorem Uo{h1 h2:aa}{op:Op}(hc:cls op=.pure):bu e h1 t op=bu e h2 t op:=by
 cases op with
 |load ty a=>cases hc
 |lookup ty m k ok=>cases hc
 |slice ty x lo hi mx=>cases hc
 |convert s d x=>cases hc
 |call c=>
  simp only[cls]at hc
  split at hc<;>cases hc
 |makeFunc fn a c=>cases fn<;>rfl
 |_=>rfl
theorem Up{h1 h2:ab}{op:Op}(hc:cls op=.pure):aS e h1 dt op=aS e h2 dt op:=by
 cases op with
 |load ty a=>cases hc
 |lookup ty m k ok=>cases hc
 |slice ty x lo hi mx=>cases hc
 |convert s d x=>cases hc
 |call c=>
  simp only[cls]at hc
  split at hc<;>cases hc
 |makeFunc fn a c=>cases fn<;>rfl
 |_=>rfl
theorem Uq{h1 h2:aa}{ty:TypeId}{x:Value}(hb:∀b,mB (some x)=some b->h1.get b=h2.get b):fk e h1 ty x=fk e h2 ty x:=by
 unfold fk
 split<;>first|rfl|skip
 rename_i r _;rw[hb r rfl]
theorem Ur{h1 h2:aa}{ty:TypeId}{x:Value}{lo hi mx:Option Value}(hb:∀a l c,x=.slice (some a) l c->h1.get a.block=h2.get a.block):jA e h1 ty x lo hi mx=jA e h2 ty x lo hi mx:=by
 unfold jA
 split
 . rename_i elem base len cap _;cases base with
   |none=>rfl
   |some a=>
    have e2:∀s,l9 h1 a s=l9 h2 a s:=λs=>by unfold l9;rw[hb a len cap rfl]
    simp only[e2]
 . rfl
 . rfl
 . rfl
theorem Us{h1 h2:aa}{ty:TypeId}{x:Value}(hb:∀a l c,x=.slice (some a) l c->h1.get a.block=h2.get a.block):qA e h1 ty x=qA e h2 ty x:=by
 unfold qA
 split
 . rfl
 . rw[hb _ _ _ rfl]
 . rfl
theorem Ut{h1 h2:aa}{op:Op}(hb:∀b,ig e t op=some b->h1.get b=h2.get b):bu e h1 t op=bu e h2 t op:=by
 cases op with
 |load ty a=>
  simp only[bu];cases ha:aw e t a with
  |none=>rfl
  |some v=>
   simp only[Xw,mm];cases hv:gX v with
   |none=>rfl
   |some ad=>
    have:=uj hv;subst this;have e1:=hb ad.block (by simp only[ig,ha];rfl);simp only[gV,fF,e1]
 |lookup ty m k ok=>
  simp only[bu];cases ha:aw e t m with
  |none=>rfl
  |some v=>
   cases hk:aw e t k with
   |none=>rfl
   |some w=>
    simp only[sF];cases v with
    |map r=>
     cases r with
     |none=>rw[lookup_nil,lookup_nil]
     |some r=>rw[wX,wX,hb r (by simp only[ig,ha];rfl)]
    |_=>simp only[nq,px]
 |slice ty x lo hi mx=>
  simp only[bu];cases ha:aw e t x with
  |none=>rfl
  |some v=>
   cases hY e t lo with
   |none=>rfl
   |some lo=>
    cases hY e t hi with
    |none=>rfl
    |some hi=>
     cases hY e t mx with
     |none=>rfl
     |some mx=>exact Ur λa l c hv=>hb a.block (by simp only[ig,ha,hv];rfl)
 |convert s d x=>
  simp only[bu];cases ha:aw e t x with
  |none=>rfl
  |some v=>
   simp only[Xw,oB];have:od e h1 s d v=od e h2 s d v:=by
    unfold od
    split
    . rename_i a len _ el _ _;have e1:=hb a.block (by simp only[ig,ha];rfl);simp only[fF,e1]
    . rfl
   rw[this]
 |call c=>
  simp only[bu]
  split
  . split
    . rename_i x hx;simp only[uD]
      split
      . rfl
      . exact Uq λb h'=>hb b (by simp only[ig,hx];exact h')
    . rfl
  . split
    . rename_i x hx;simp only[zx]
      split
      . rfl
      . exact Us λa l c hv=>hb a.block (by simp only[ig,hx,hv];rfl)
    . rfl
  . rfl
  . rfl
  . rfl
 |makeFunc fn a c=>cases fn<;>rfl
 |_=>rfl
theorem Uu{h1 h2:ab}{op:Op}(hb:∀b,dA e dt op=some b->h1.get b=h2.get b):aS e h1 dt op=aS e h2 dt op:=by
 cases op with
 |load ty a=>
  simp only[aS];cases ha:aB e dt a with
  |none=>rfl
  |some d=>
   simp only[Xw];unfold iA
   split
   . rename_i b o;rw[hb b (by simp only[dA,ha];rfl)]
   . rfl
   . rfl
 |lookup ty m k ok=>
  simp only[aS];cases ha:aB e dt m with
  |none=>rfl
  |some d=>
   cases hk:aB e dt k with
   |none=>rfl
   |some w=>
    simp only[E1];unfold kK
    split
    . rfl
    . rename_i r k' _;rw[hb r (by simp only[dA,ha];rfl)]
    . rfl
 |slice ty x lo hi mx=>
  simp only[aS];cases ha:aB e dt x with
  |none=>rfl
  |some d=>
   unfold dz
   split
   . rfl
   . split
     . unfold iZ
       split
       . rfl
       . rfl
       . rename_i b o len cap s hs _ heq;cases heq;rw[hb b (by simp only[dA,ha];rfl)]
       . rfl
     . rfl
   . rfl
 |convert s d x=>
  simp only[aS];cases ha:aB e dt x with
  |none=>rfl
  |some c=>
   simp only[Xw];unfold mv
   split
   . have:fy h1 1 c=fy h2 1 c:=by
      unfold fy
      split
      . rfl
      . rfl
      . rename_i b o n _;rw[hb b (by simp only[dA,ha];rfl)]
      . rfl
     rw[this]
   . rfl
 |call c=>
  simp only[aS]
  split
  . unfold oI
    split
    . rename_i x hx
      split
      . rfl
      . unfold gO
        split
        . rfl
        . rfl
        . rfl
        . rfl
        . rename_i r;rw[hb r (by simp only[dA,hx];rfl)]
        . rfl
    . rfl
  . rfl
  . rfl
  . rfl
 |makeFunc fn a c=>cases fn<;>rfl
 |_=>rfl
theorem uY{v:Value}{d:DV}(hv:Rel R v d){b:Nat}(hb:mB (some v)=some b):je (some d)=some b\/∃r,R b=some r:=by
 cases hv with
 |v x=>exact .inl hb
 |sl h1 _ _ _ _ _ _=>simp only[mB,PX]at hb;subst hb;exact .inr ⟨_,h1⟩
 |ptr h1 _ _=>simp only[mB,PX]at hb;subst hb;exact .inr ⟨_,h1⟩
 |_=>cases hb
theorem Uv(ht:TD R t dt){op:Op}{d:DV}(hd:aS e dh dt op=some d){b:Nat}(hb:ig e t op=some b):dA e dt op=some b\/∃r,R b=some r:=by
 cases op with
 |load ty a=>
  obtain⟨c,h1,_⟩:=adr.1 hd;obtain⟨v,h2,h3⟩:=eP ht h1;simp only[ig,h2]at hb;simp only[dA,h1];exact uY h3 hb
 |lookup ty m k ok=>
  simp only[aS,fI]at hd
  split at hd
  . rename_i x y h1 _;obtain⟨v,h2,h3⟩:=eP ht h1;simp only[ig,h2]at hb;simp only[dA,h1];exact uY h3 hb
  . cases hd
 |slice ty x lo hi mx=>
  simp only[aS]at hd;cases h1:aB e dt x with
  |none=>rw[h1]at hd;simp[dz]at hd
  |some c=>
   obtain⟨v,h2,h3⟩:=eP ht h1;simp only[ig,h2]at hb;simp only[dA,h1];exact uY h3 hb
 |convert s d x=>
  obtain⟨c,h1,_⟩:=adr.1 hd;obtain⟨v,h2,h3⟩:=eP ht h1;simp only[ig,h2]at hb;simp only[dA,h1];exact uY h3 hb
 |call c=>
  have:∃l,cz e dt c.args.toList=some l:=by
   simp only[aS]at hd;cases hl:cz e dt c.args.toList with
   |some l=>exact⟨l,rfl⟩
   |none=>rw[hl]at hd;split at hd<;>simp[oI]at hd
  obtain⟨l,h1⟩:=this;obtain⟨vs,h2,h3⟩:=nA ht h1;simp only[ig,h2]at hb;simp only[dA,h1];cases h3 with
  |nil=>cases hb
  |cons h4 h5=>
   cases h5 with
   |nil=>exact uY h4 hb
   |cons _ _=>cases hb
 |_=>cases hb
abbrev eS:=List (Nat×Nat×bx)
def ff(h:ab)(m:Nat):eS->ab
 |[]=>h
 |(i,id,o)::r=>if m.testBit i=true then(ff h m r).set id (some o)else ff h m r
def lL(h:ab):eS->ab
 |[]=>h
 |(_,id,o)::r=>(lL h r).set id (some o)
def iC(m:Nat)(l:eS):eS:=l.filter λq=> !m.testBit q.1
structure oK(R:Rows)(x:Nat×Nat×bF)(y:Nat×Nat×bx):Prop where
 i:x.1=y.1
 id:x.2.1=y.2.1
 o:iW R x.2.2 y.2.2
theorem bH.put(x:bH G h dh){id:Nat}(h1:id<h.next)(h2:¬G id){ao:bF}{o:bx}(hr:iW (aI h G) ao o):bH G (h.set id (some ao)) (dh.set id (some o))/\∀i r,aI h G i=some r->aI (h.set id (some ao)) G i=some r:=by
 have hm:∀i r,aI h G i=some r->aI (h.set id (some ao)) G i=some r:=iz λi hg=>⟨hg,bl _ _ _ _ (λhe:i=id=>h2 (he▸hg))⟩;refine⟨⟨x.eU.mono hm,by rw[aa.aR,ab.aR,x.next],λj p hp=> ?_,λj hg=> ?_⟩,hm⟩
 . rw[ab.bn]at hp
   split at hp
   . rename_i hj;cases hp;subst hj;exact⟨h1,ao,dT _ _ _,hr.mono hm⟩
   . rename_i hj;obtain⟨q1,ao',q2,q3⟩:=x.obj j p hp;exact⟨q1,ao',by rw[bl _ _ _ _ hj];exact q2,q3.mono hm⟩
 . obtain⟨q1,q2⟩:=x.still j hg;exact⟨q1,by rw[ab.bn,if_neg (λhe:j=id=>h2 (he▸hg))];exact q2⟩
theorem Kp.put{G0:Nat->Prop}{h0:aa}{d0:ab}(k:Kp G0 h0 d0 G h dh){id:Nat}(aW:h0.next<=id)(ao:Option bF)(o:Option bx):Kp G0 h0 d0 G (h.set id ao) (dh.set id o):=
 ⟨k.next,λi hi hd=>by rw[bl _ _ _ _ (by omega),ab.bn,if_neg (by omega)];exact k.same i hi hd,k.up,k.aY⟩
theorem Ff{G0:Nat->Prop}{h0:aa}{d0:ab}(m:Nat)(x:bH G h dh)(k:Kp G0 h0 d0 G h dh):∀{p:cZ} {dp:eS},aO (oK (aI h G)) p dp->(∀q∈dp,h0.next<=q.2.1/\q.2.1<h.next/\¬G q.2.1)->
 bH G (bW h m p) (ff dh m dp)/\Kp G0 h0 d0 G (bW h m p) (ff dh m dp)/\(∀i r,aI h G i=some r->aI (bW h m p) G i=some r)/\(bW h m p).next=h.next
 |_,_,.nil,_=>⟨x,k,λ_ _ h=>h,rfl⟩
 |(i,id,ao)::p,(j,aK,o)::dp,.cons ⟨h1,h2,h3⟩ h4,hq=>by
  simp only at h1 h2 h3;subst h1 h2;obtain⟨q1,q2,q3⟩:=hq (i,id,o) (by simp);obtain⟨k1,k2,k3,k4⟩:=Ff m x k h4 λq az=>hq q (Qc _ az);rw[zM];simp only[ff]
  split
  . obtain⟨r1,r2⟩:=k1.put (id:=id) (by rw[k4];exact q2) q3 (h3.mono k3);exact⟨r1,k2.put q1 _ _,λa r hr=>r2 a r (k3 a r hr),by rw[aa.aR];exact k4⟩
  . exact⟨k1,k2,k3,k4⟩
theorem Fg{G0:Nat->Prop}{h0:aa}{d0:ab}(x:bH G h dh)(k:Kp G0 h0 d0 G h dh):∀{p:cZ} {dp:eS},aO (oK (aI h G)) p dp->(∀q∈dp,h0.next<=q.2.1/\q.2.1<h.next/\¬G q.2.1)->
 bH G (eO h p) (lL dh dp)/\Kp G0 h0 d0 G (eO h p) (lL dh dp)/\(∀i r,aI h G i=some r->aI (eO h p) G i=some r)/\(eO h p).next=h.next
 |_,_,.nil,_=>⟨x,k,λ_ _ h=>h,rfl⟩
 |(i,id,ao)::p,(j,aK,o)::dp,.cons ⟨h1,h2,h3⟩ h4,hq=>by
  simp only at h1 h2 h3;subst h1 h2;obtain⟨q1,q2,q3⟩:=hq (i,id,o) (by simp);obtain⟨k1,k2,k3,k4⟩:=Fg x k h4 λq az=>hq q (Qc _ az);rw[En];simp only[lL];obtain⟨r1,r2⟩:=k1.put (id:=id) (by rw[k4];exact q2) q3 (h3.mono k3);exact⟨r1,k2.put q1 _ _,λa r hr=>r2 a r (k3 a r hr),by rw[aa.aR];exact k4⟩
theorem xD(h:aa)(m b:Nat):∀(p:cZ),(∀q∈p,q.2.1≠b)->(bW h m p).get b=h.get b
 |[],_=>rfl
 |(i,id,o)::p,hq=>by
  rw[zM];have ih:=xD h m b p λq az=>hq q (Qc _ az)
  split
  . rw[bl _ _ _ _ (Ne.symm (hq (i,id,o) (by simp)))];exact ih
  . exact ih
theorem xE(h:ab)(m b:Nat):∀(p:eS),(∀q∈p,m.testBit q.1=true->q.2.1≠b)->(ff h m p).get b=h.get b
 |[],_=>rfl
 |(i,id,o)::p,hq=>by
  simp only[ff];have ih:=xE h m b p λq az=>hq q (Qc _ az)
  split
  . rename_i hm;rw[ab.bn,if_neg (Ne.symm (hq (i,id,o) (by simp) hm))];exact ih
  . exact ih
structure PJ where
 c:sk
 m:Nat
 dy:Option (Nat×Nat)
 aY:Bool
def PJ.pi(p:PJ):PI:=⟨p.c,p.m,p.dy⟩
def writes(ops:List Oper)(pl:List PJ)(s:Tmp):Bool:=(ops.zip pl).all λq=>match q.1.dst with|some d=> !Nat.beq d s||q.2.aY|none=>true
def rE(ops:List Oper)(pl:List PJ)(o:Oper)(p:PJ):Bool:=
 (!p.aY||match p.c with|.alloc=>true|.pure|.read=>(slotsOf o.op).all (writes ops pl)|_=>false)&&(match p.dy with|none=>true|some _=>p.aY&&o.dst.isSome&&decide (p.c=.read))
def uZ(ops:List Oper)(pl:List PJ):Bool:=rh ops true (pl.map PJ.pi)&&(ops.zip pl).all λq=>rE ops pl q.1 q.2
def rF(N0:Nat)(T:List Nat):Option Nat->Prop
 |none=>True
 |some b=>b<N0/\b∉T
def ki(dy:Option (Nat×Nat))(b:Option Nat)(L:List (Nat×Nat)):List (Nat×Nat):=match dy,b with
 |some x,some b=>(b,x.1+x.2-1)::L
 |_,_=>L
def cQ(e:Env)(ops:List Oper)(N0:Nat):List Oper->List PJ->Nat->Nat->Nat->Tr DV->Nat->List FuncId->ab->eS->List Nat->List (Nat×Nat)->(DS->Prop)->Prop
 |[],_,_,_,_,t,n,dd,h,aq,_,_,K=>K ⟨t,n,dd,lL h aq⟩
 |_::_,[],_,_,_,_,_,_,_,_,_,_,_=>False
 |o::r,p::pl,i,id,c,t,n,dd,h,aq,T,L,K=>c9 o.dst n/\aG (ic ops t o) λw=>match w with
  |true=>match p.c with
   |.pure=>aG (aS e h t o.op) λv=>cQ e ops N0 r pl (i+1) id c (cq o.dst v t) n dd h aq T L K
   |.read=>aG (aS e (ff h p.m aq) t o.op) λv=>(p.aY=true->rF N0 T (dA e t o.op))/\cQ e ops N0 r pl (i+1) id c (cq o.dst v t) n dd h aq T (ki p.dy (dA e t o.op) L) K
   |.alloc=>aG (dH e t o.op) λq=>cQ e ops N0 r pl (i+1) (id+1) c (cq o.dst (q.2 id) t) n dd h ((i,id,q.1)::aq) T L K
   |.effect=>bY e true o.op t dd (ff h p.m aq) λv dd h T'=>(∀q∈L,c+1<=q.2->q.1∉T')/\cQ e ops N0 r pl (i+1) id (c+1) (cq o.dst v t) n dd h (iC p.m aq) (T'++T) L K
   |.bad=>False
  |false=>match p.c with
   |.alloc=>cQ e ops N0 r pl (i+1) (id+1) c (cq o.dst cP t) n dd h aq T L K
   |.effect=>cQ e ops N0 r pl (i+1) id (c+1) (cq o.dst cP t) n dd h aq T L K
   |.bad=>False
   |_=>cQ e ops N0 r pl (i+1) id c (cq o.dst cP t) n dd h aq T L K
def qa(e:Env)(ops:List Oper)(pl:List PJ)(G0:Nat->Prop)(h0:aa)(L:List (Nat×Nat))(tc:Tr Value)(k:Nat)(tk:Tr Value):Prop:=
 ∀o p,ops[k]? =some o->pl[k]? =some p->p.dy≠none->cH ops ⟨tk,0,[],{m:=.nil,next:=0}⟩ o=some false\/(cH ops ⟨tk,0,[],{m:=.nil,next:=0}⟩ o=some true/\∃d v,o.dst=some d/\tc.get d=some v/\
  (∀b,ig e tk o.op=some b->G0 b\/∃x,p.dy=some x/\(b,x.1+x.2-1)∈L)/\∀g,(∀b,ig e tk o.op=some b->g.get b=h0.get b)->bu e g tk o.op=some v)
structure DI(e:Env)(ops:List Oper)(ae:List PJ)(G0:Nat->Prop)(h0:aa)(d0:ab)(na:Nat)(i id c:Nat)(t:Tr Value)(dt:Tr DV)(G:Nat->Prop)(h:aa)(dh:ab)(aq all:cZ)(dp:eS)(st:List (Nat×aa))(sn:List (Tr Value))(T:List Nat)(L:List (Nat×Nat)):Prop where
 x:bH G h dh
 k:Kp G0 h0 d0 G h dh
 nx:h0.next+na<=h.next
 lo:h0.next<=id
 pe:aO (oK (aI h G)) aq dp
 pid:∀q∈dp,h0.next<=q.2.1/\q.2.1<id/\q.2.1<h.next/\dh.get q.2.1=none/\¬G q.2.1
 pw:∀q∈dp,∀q'∈dp,q.2.1=q'.2.1->q.1=q'.1
 res:∀j,id<=j->j<h0.next+na->dh.get j=none/\¬G j
 al:∀q∈all,h0.next<=q.2.1
 ht:TD (aI h G) t dt
 tO:∀s d,(∀k o p,k<i->ops[k]? =some o->ae[k]? =some p->o.dst=some s->p.aY=true)->dt.get s=some d->∃u,t.get s=some u/\Rel (aI h0 G0) u d
 ag:∀b,b<h0.next->b∉T->h.get b=h0.get b/\dh.get b=d0.get b
 ls:∀y∈L,∀(j:Nat) z,st.reverse[j]? =some z->j<=y.2->z.2.get y.1=h0.get y.1
 hd:∃m r,st=(m,h)::r
 sl:st.length=c+1
 st:∀q∈st,∀b,b<h0.next->(b∉T\/G0 b)->q.2.get b=h0.get b
 LT:∀x∈L,x.1<h0.next
 rd:∀k tk,sn.reverse[k]? =some tk->qa e ops ae G0 h0 L t k tk
 sn:sn.length=i
theorem Uw{t1 t2:Tr DV}{op:Op}(h:∀s∈slotsOf op,t1.get s=t2.get s):dA e t1 op=dA e t2 op:=by
 cases op with
 |load ty a=>simp only[dA,eF (e:=e) (o:=a) h]
 |convert s d a=>simp only[dA,eF (e:=e) (o:=a) h]
 |lookup ty a b ok=>
  simp only[slotsOf,qe]at h;simp only[dA,eF (e:=e) (o:=a) λs hs=>h s (.inl hs)]
 |slice ty x l hi m=>
  simp only[slotsOf,qe]at h;simp only[dA,eF (e:=e) (o:=x) λs hs=>h s (.inl (.inl (.inl hs)))]
 |call c=>simp only[dA,uX (e:=e) (l:=c.args.toList) h]
 |_=>rfl
def rG(dt:Tr DV):List Tmp->Tr DV
 |[]=>.nil
 |s::l=>(rG dt l).set s (dt.get s)
theorem AE(dt:Tr DV)(s:Tmp):∀(l:List Tmp),(rG dt l).get s=if s∈l then dt.get s else none
 |[]=>by simp[rG,Tr.get_nil]
 |a::l=>by
  simp only[rG,Tr.bn,AE dt s l,GP];by_cases h1:s=a
  . subst h1;simp
  . simp[h1]
theorem Ux{ops:List Oper}{pl:List PJ}{s:Tmp}(hw:writes ops pl s=true){k:Nat}{o:Oper}{p:PJ}(ho:ops[k]? =some o)(hp:pl[k]? =some p)(hd:o.dst=some s):p.aY=true:=by
 have hz:(o,p)∈ops.zip pl:=by
  refine TF (i:=k) ?_;rw[VK];exact⟨ho,hp⟩
 have:=PO.1 hw _ hz;simp only[hd,Nat.beq_refl,ZJ,Bool.false_or]at this;exact this
section
variable {ops:List Oper} {ae:List PJ} {G0:Nat->Prop} {h0:aa} {d0:ab} {na i id c:Nat} {aq all:cZ} {dp:eS} {st:List (Nat×aa)} {sn:List (Tr Value)} {T:List Nat} {L:List (Nat×Nat)}
theorem DI.aY(q:DI e ops ae G0 h0 d0 na i id c t dt G h dh aq all dp st sn T L)(x0:bH G0 h0 d0){op:Op}{m:Nat}(hs:(slotsOf op).all (writes ops ae)=true){d:DV}(hd:aS e (ff dh m dp) dt op=some d)(hc:rF h0.next T (dA e dt op)):
 ∃u,bu e h0 t op=some u/\Rel (aI h0 G0) u d/\(∀b,ig e t op=some b->(dA e dt op=some b/\b<h0.next/\b∉T)\/G0 b)/\∀g,(∀b,ig e t op=some b->g.get b=h0.get b)->bu e g t op=some u:=by
 have af:∀s∈slotsOf op,(rG dt (slotsOf op)).get s=dt.get s:=λs hs=>by rw[AE,if_pos hs]
 have ht:TD (aI h0 G0) t (rG dt (slotsOf op)):=⟨x0.eU,λs v hv=>by
  rw[AE]at hv
  split at hv
  . rename_i hm;exact q.tO s v (λk o p _ ho hp aL=>Ux (PO.1 hs s hm) ho hp aL) hv
  . cases hv⟩
 have av:∀b,dA e dt op=some b->b<h0.next/\b∉T:=λb hb=>by rw[hb]at hc;exact hc
 have aE:aS e d0 (rG dt (slotsOf op)) op=some d:=by
  rw[Un af,<-hd];refine Uu λb hb=> ?_;obtain⟨h1,h2⟩:=av b hb;rw[xE _ _ _ _ λy hy _ he=>by have:=(q.pid y hy).1;omega];exact((q.ag b h1 h2).2).symm
 obtain⟨u,h1,h2⟩:=xm x0 ht aE;refine⟨u,h1,h2,λb hb=> ?_,λg hg=> ?_⟩
 . rcases Uv ht aE hb with h3|⟨r,h3⟩
   . rw[Uw af]at h3;exact .inl ⟨h3,av b h3⟩
   . exact .inr (pS h3).1
 . rw[<-h1];exact Ut hg
theorem qa.mono{L':List (Nat×Nat)}{tc aF:Tr Value}{k:Nat}{tk:Tr Value}(hL:∀b∈L,b∈L')(ht:∀o d,ops[k]? =some o->o.dst=some d->aF.get d=tc.get d)(h:qa e ops ae G0 h0 L tc k tk):qa e ops ae G0 h0 L' aF k tk:=λo p ho hp aM=>by
 rcases h o p ho hp aM with h1|⟨h1,d,v,h2,h3,h4,h5⟩
 . exact .inl h1
 . exact .inr ⟨h1,d,v,h2,by rw[ht o d ho h2];exact h3,λb hb=>(h4 b hb).imp (λz=>z) λ⟨z,z1,z2⟩=>⟨z,z1,hL _ z2⟩,h5⟩
theorem Uy{o:Oper}{p:PI}{r:List Oper}{pl:List PI}{n:Nat}{ds:List Deferred}{K:cm->Prop}{w:Bool}(aA:c9 o.dst n)(hw:cH ops ⟨t,n,ds,h⟩ o=some w)
 (hk:match w,p.c with
  |true,.pure=>aG (bu e h t o.op) λv=>bX e none ops r pl (i+1) id (bB o.dst v t) n ds h aq all st (t::sn) K
  |true,.read=>aG (bu e (bW h p.m aq) t o.op) λv=>bX e none ops r pl (i+1) id (bB o.dst v t) n ds h aq all st (t::sn) K
  |true,.alloc=>aG (cF e t o.op) λq=>bX e none ops r pl (i+1) (id+1) (bB o.dst (q.2 id) t) n ds h ((i,id,q.1)::aq) ((i,id,q.1)::all) st (t::sn) K
  |true,.effect=>bA e none o.op t ds (bW h p.m aq) λv ds h=>bX e none ops r pl (i+1) id (bB o.dst v t) n ds h (aq.filter λq=> !p.m.testBit q.1) all ((Nat.lor ((st.head?.map (·.1)).getD 0) p.m,h)::st) (t::sn) K
  |true,.bad=>False
  |false,.effect=>bX e none ops r pl (i+1) id (bB o.dst undef t) n ds h aq all (((st.head?.map (·.1)).getD 0,h)::st) (t::sn) K
  |false,.alloc=>bX e none ops r pl (i+1) (id+1) (bB o.dst undef t) n ds h aq all st (t::sn) K
  |false,.bad=>False
  |false,_=>bX e none ops r pl (i+1) id (bB o.dst undef t) n ds h aq all st (t::sn) K):
 bX e none ops (o::r) (p::pl) i id t n ds h aq all st sn K:=by
 obtain⟨c,m,dy⟩:=p;refine⟨aA, ?_⟩;unfold cH at hw;cases hg:o.guard with
 |none=>
  rw[hg]at hw;simp only[PX]at hw;subst hw;cases c<;>exact hk
 |some jw=>
  obtain⟨j,want⟩:=jw;rw[hg]at hw;simp only at hw⊢;cases hd:(ops[j]?).bind (·.dst)with
  |none=>simp[hd]at hw
  |some d=>
   simp only[hd]at hw;refine⟨d,rfl, ?_⟩;cases ht:t.get d with
   |none=>simp[ht]at hw
   |some g=>
    refine⟨g,ht, ?_⟩;cases g with
    |bool b=>
     simp only[ht,PX]at hw;refine⟨λhb=> ?_,λhb=> ?_⟩
     . have:w=true:=by rw[<-hw,hb];simp
       subst this;cases c<;>exact hk
     . have:w=false:=by rw[<-hw,hb];cases want<;>rfl
       subst this;cases c<;>exact hk
    |tuple vs=>
     simp only[ht,PX]at hw;subst hw;cases c<;>exact hk
    |_=>simp[ht]at hw
theorem AF(m:Nat):∀{p:cZ} {dp:eS},aO (oK R) p dp->aO (oK R) (p.filter λq=> !m.testBit q.1) (iC m dp)
 |_,_,.nil=>.nil
 |_,_,.cons (a:=a) (b:=b) h1 h2=>by
  simp only[iC,xS,h1.i]
  split
  . exact .cons h1 (AF m h2)
  . exact AF m h2
theorem oK.mono{R':Rows}(hR:∀i r,R i=some r->R' i=some r){x:Nat×Nat×bF}{y:Nat×Nat×bx}(h:oK R x y):oK R' x y:=⟨h.i,h.id,h.o.mono hR⟩
def AG(ops:List Oper):Prop:=∀(j k:Nat) o p d,ops[j]? =some o->ops[k]? =some p->j≠k->o.dst=some d->p.dst≠some d
theorem Uz{ms:List Nat}(h:pB ops ms=true):AG ops:=by
 intro j k o p d ho hp aN hd aD;simp only[pB,DE,PO]at h;obtain⟨⟨⟨⟨_,_⟩,h3⟩,_⟩,_⟩:=h;have m1:(o,j)∈ops.zipIdx:=by rw[Zj];simpa using ho
 have m2:(p,k)∈ops.zipIdx:=by rw[Zj];simpa using hp
 have:=h3 _ m1;simp only[hd]at this;have:=PO.1 this _ m2;have hb:Nat.beq j k=false:=by
  cases hb:Nat.beq j k with
  |false=>rfl
  |true=>exact absurd (W2 hb) aN
 simp only[hb,aD,Nat.beq_refl,ZJ,Bool.false_and,Bool.or_self]at this;cases this
theorem AH{α:Type}{l:List α}{a x:α}{k:Nat}(h:(l++[a])[k]? =some x):l[k]? =some x\/(k=l.length/\x=a):=by
 rcases Nat.lt_or_ge k l.length with hk|hk
 . rw[List.getElem?_append_left hk]at h;exact .inl h
 . rw[ZL hk]at h;have:k-l.length=0:=by
    rcases Nat.eq_zero_or_pos (k-l.length)with h0|h0
    . exact h0
    . rw[List.getElem?_eq_none (by simp;omega)]at h;cases h
   rw[this]at h;simp only[List.getElem?_cons_zero,PX]at h;exact .inr ⟨by omega,h.symm⟩
theorem DI.next(q:DI e ops ae G0 h0 d0 na i id c t dt G h dh aq all dp st sn T L)(aC:AG ops){o:Oper}{p:PJ}(ho:ops[i]? =some o)(hp:ae[i]? =some p){u:Value}{d:DV}(hr:Rel (aI h G) u d)(hold:p.aY=true->Rel (aI h0 G0) u d)
 {L':List (Nat×Nat)} (hL:∀b∈L,b∈L') (aP:∀x∈L',x.1<h0.next) (aQ:∀y∈L',∀(j:Nat) z,st.reverse[j]? =some z->j<=y.2->z.2.get y.1=h0.get y.1) (aT:qa e ops ae G0 h0 L' (bB o.dst u t) i t):
 DI e ops ae G0 h0 d0 na (i+1) id c (bB o.dst u t) (cq o.dst d dt) G h dh aq all dp st (t::sn) T L' where
 x:=q.x
 k:=q.k
 nx:=q.nx
 lo:=q.lo
 pe:=q.pe
 pid:=q.pid
 pw:=q.pw
 res:=q.res
 al:=q.al
 ht:=q.ht.put o.dst hr
 tO:=by
  intro s c hs hc;have rest:dt.get s=some c->∃w,t.get s=some w/\Rel (aI h0 G0) w c:=λhc=>q.tO s c (λk o p hk=>hs k o p (by omega)) hc;cases ai:o.dst with
  |none=>rw[ai]at hc;exact rest hc
  |some s'=>
   rw[ai]at hc;simp only[cq,Tr.bn]at hc;simp only[bB,Tr.bn]
   split at hc
   . rename_i he;cases hc;exact⟨u,by rw[if_pos he],hold (hs i o p (by omega) ho hp (by rw[ai,he]))⟩
   . rename_i he;rw[if_neg he];exact rest hc
 ag:=q.ag
 st:=q.st
 LT:=aP
 ls:=aQ
 hd:=q.hd
 sl:=q.sl
 rd:=by
  intro k tk hk;rw[W9]at hk;rcases AH hk with h1|⟨h1,rfl⟩
  . have aX:k<i:=by
     have:=(List.getElem?_eq_some_iff.1 h1).1;rw[Er,q.sn]at this;exact this
    refine(q.rd k tk h1).mono hL λo' d' aU aD=> ?_;cases ai:o.dst with
    |none=>rfl
    |some s'=>
     have:d'≠s':=λhe=>aC k i o' o d' aU ho (by omega) aD (by rw[ai,he]);simp only[bB,Tr.bn,if_neg this]
  . rw[Er,q.sn]at h1;subst h1;exact aT
 sn:=by simp[q.sn]
end
end Go.au
end
noncomputable section
namespace Go.au
variable {e:Env}
section
variable {ops:List Oper} {aw:List PJ} {G0:Nat->Prop} {h0:aa} {d0:ab} {na:Nat}
theorem AI{o:Oper}{p:PJ}(h:rE ops aw o p=true)(hold:p.aY=true):p.c=.alloc\/((p.c=.pure\/p.c=.read)/\(slotsOf o.op).all (writes ops aw)=true):=by
 simp only[rE,hold,ZJ,Bool.false_or,DE]at h;cases hc:p.c with
 |alloc=>exact .inl rfl
 |pure=>rw[hc]at h;exact .inr ⟨.inl rfl,h.1⟩
 |read=>rw[hc]at h;exact .inr ⟨.inr rfl,h.1⟩
 |effect=>rw[hc]at h;simp at h
 |bad=>rw[hc]at h;simp at h
theorem u0{o:Oper}{p:PJ}(h:rE ops aw o p=true)(aW:p.dy≠none):p.aY=true/\(∃d,o.dst=some d)/\p.c=.read:=by
 simp only[rE,DE]at h;cases hd:p.dy with
 |none=>exact absurd hd aW
 |some x=>
  simp only[hd,DE]at h;exact⟨h.2.1.1,Option.isSome_iff_exists.1 h.2.1.2,by simpa using h.2.2⟩
theorem UA{dy:Option (Nat×Nat)}{b:Option Nat}{L:List (Nat×Nat)}:∀x∈L,x∈ki dy b L:=λx hx=>by
 unfold ki
 split
 . exact Qc _ hx
 . exact hx
theorem cQ.s(ai:AG ops)(bs:∀(k:Nat) o p,ops[k]? =some o->aw[k]? =some p->cls o.op=p.c/\rE ops aw o p=true)(x0:bH G0 h0 d0){K:DS->Prop}{n:Nat}:∀(l:List Oper) (pl:List PJ) (i id c':Nat) (t:Tr Value) (dt:Tr DV) (ds:List Deferred) (dd:List FuncId) (G:Nat->Prop) (h:aa) (dh:ab) (aq all:cZ) (dp:eS) (st:List (Nat×aa)) (sn:List (Tr Value)) (T:List Nat) (L:List (Nat×Nat)),
 i<=ops.length->l=ops.drop i->pl=aw.drop i->id+(l.filter λo=>cls o.op==.alloc).length=h0.next+na->aO rz ds dd->DI e ops aw G0 h0 d0 na i id c' t dt G h dh aq all dp st sn T L->cQ e ops h0.next l pl i id c' dt n dd dh dp T L K->
 bX e none ops l (pl.map PJ.pi) i id t n ds h aq all st sn (λx=>(∃L:List (Nat×Nat),(∀(k:Nat) tk,x.cS.reverse[k]? =some tk->qa e ops aw G0 h0 L x.s.t k tk)/\x.cS.length=ops.length/\(∀q∈x.all,h0.next<=q.2.1)/\(∀q∈x.bw,∀b,G0 b->q.2.get b=h0.get b)/\(∀y∈L,y.1<h0.next)/\(∀y∈L,∀(j:Nat) q,x.bw.reverse[j]? =some q->j<=y.2->q.2.get y.1=h0.get y.1))/\mz G0 h0 d0 K {x.s with h:=eO x.s.h x.aq}):=by
 intro l
 induction l with
 |nil=>
  intro pl i id c' t dt ds dd G h dh aq all dp st sn T L bt hl aK _ aF q hs;have hi:ops.length<=i:=by
   have:=congrArg List.length hl;simp at this;omega
  rw[El];have hlen:sn.length=ops.length:=by rw[q.sn];omega
  obtain⟨k1,k2,k3,k4⟩:=Fg q.x q.k q.pe λy hy=>⟨(q.pid y hy).1,(q.pid y hy).2.2.1,(q.pid y hy).2.2.2.2⟩;exact⟨⟨L,q.rd,hlen,q.al,λy hy b hb=>q.st y hy b (x0.still b hb).1 (.inr hb),q.LT,q.ls⟩,⟨dt,n,dd,lL dh dp⟩,G,⟨rfl,q.ht.mono k3,aF,k1⟩,k2,by simpa[cQ]using hs⟩
 |cons o r ih=>
  intro pl i id c' t dt ds dd G h dh aq all dp st sn T L bt hl aK ae aF q hs;cases pl with
  |nil=>simp[cQ]at hs
  |cons p pl=>
   have aL:i<ops.length:=by
    rcases Nat.lt_or_ge i ops.length with h1|h1
    . exact h1
    . rw[List.drop_eq_nil_of_le h1]at hl;cases hl
   have ho:ops[i]? =some o:=by
    have:(ops.drop i)[0]? =some o:=by rw[<-hl];rfl
    simpa[Z4]using this
   have hp:aw[i]? =some p:=by
    have:(aw.drop i)[0]? =some p:=by rw[<-aK];rfl
    simpa[Z4]using this
   have aM:r=ops.drop (i+1):=by rw[<-adS,<-hl];rfl
   have av:pl=aw.drop (i+1):=by rw[<-adS,<-aK];rfl
   obtain⟨hc,aN⟩:=bs i o p ho hp;obtain⟨aX,w,hw,hs⟩:=hs;have bx:∀{ds:List Deferred} {g:aa} {m:Nat},cH ops ⟨t,m,ds,g⟩ o=some w:=Ag q.ht hw;rw[List.map_cons];refine Uy aX bx ?_;have bz:∀y∈dp,h0.next<=y.2.1/\y.2.1<h.next/\¬G y.2.1:=λy hy=>⟨(q.pid y hy).1,(q.pid y hy).2.2.1,(q.pid y hy).2.2.2.2⟩;have aQ:∀b,G0 b->b<h0.next/\h.get b=h0.get b:=λb hb=>⟨(x0.still b hb).1,(q.k.same b (x0.still b hb).1 (x0.still b hb).2).1⟩;have b0:∀b,b<h0.next->(b∉T\/G0 b)->h.get b=h0.get b:=λb hb az=>by
    rcases az with h1|h1
    . exact(q.ag b hb h1).1
    . exact(aQ b h1).2
   obtain⟨kx,kk,km,kn⟩:=Ff p.m q.x q.k q.pe bz;have bm:∀b,b<h0.next->(bW h p.m aq).get b=h.get b:=λb hb=>xD _ _ _ _ λy hy he=>by
    obtain⟨j,hj⟩:=abR hy;obtain⟨y',bD,bF⟩:=q.pe.get j y hj;have:=(q.pid y' (TF bD)).1;rw[<-bF.id]at this;omega
   have bI:p.dy=none->∀{L':List (Nat×Nat)} {tc:Tr Value},qa e ops aw G0 h0 L' tc i t:=λaW L' tc o' p' aA aB aC=>by
    rw[hp]at aB;cases aB;exact absurd aW aC
   cases w with
   |true=>
    obtain⟨c,m,dy,aY⟩:=p;simp only at hs hc⊢;cases c with
    |bad=>exact hs.elim
    |pure=>
     obtain⟨v,h1,h2⟩:=hs;obtain⟨u,h3,h4⟩:=xm q.x q.ht h1;refine⟨u,h3, ?_⟩;have ad:id+(r.filter λo=>cls o.op==.alloc).length=h0.next+na:=by
      rw[xS,hc]at ae;simpa using ae
     refine ih pl (i+1) id c' _ _ ds dd G h dh aq all dp st (t::sn) T L aL aM av ad aF (q.next ai ho hp h4 (λhold=> ?_) (λ_ hb=>hb) q.LT q.ls ?_) h2
     . rcases AI aN hold with h5|⟨_,h5⟩
       . cases h5
       . have aC:aS e (ff dh 0 dp) dt o.op=some v:=by rw[<-h1];exact Up hc
         obtain⟨u',h6,h7,_,_⟩:=q.aY x0 (m:=0) h5 aC (by
          have:dA e dt o.op=none:=by
           cases aZ:o.op with
           |load ty a=>rw[aZ]at hc;cases hc
           |lookup ty m k ok=>rw[aZ]at hc;cases hc
           |slice ty x lo hi mx=>rw[aZ]at hc;cases hc
           |convert s d x=>rw[aZ]at hc;cases hc
           |call c=>rw[aZ]at hc;simp only[cls]at hc;split at hc<;>cases hc
           |_=>rfl
          rw[this];trivial)
         rw[Uo (h2:=h) hc,h3]at h6;cases h6;exact h7
     . intro o' p' aA aB aC;rw[ho]at aA;rw[hp]at aB;cases aA;cases aB;cases(u0 aN aC).2.2
    |read=>
     obtain⟨v,h1,bQ,h2⟩:=hs;have bo:TD (aI (bW h m aq) G) t dt:=q.ht.mono km;obtain⟨u,h3,h4⟩:=xm kx bo h1;refine⟨u,h3, ?_⟩;have ad:id+(r.filter λo=>cls o.op==.alloc).length=h0.next+na:=by
      rw[xS,hc]at ae;simpa using ae
     have hR:Rel (aI h G) u v:=by
      refine h4.mono λb rr hb=> ?_;obtain⟨g1,wr,g2⟩:=pS hb;refine ry (wr:=wr) g1 ?_;rw[<-g2];refine(xD _ _ _ _ λy hy he=> ?_).symm;obtain⟨j,hj⟩:=abR hy;obtain⟨y',bD,bF⟩:=q.pe.get j y hj;have:=(q.pid y' (TF bD)).2.2.2.2;rw[<-bF.id,he]at this;exact this g1
     have hold:aY=true->∃bJ:(slotsOf o.op).all (writes ops aw)=true,True:=λho=>by
      rcases AI aN ho with h5|⟨_,h5⟩
      . cases h5
      . exact⟨h5,trivial⟩
     have again:aY=true->Rel (aI h0 G0) u v/\(∀b,ig e t o.op=some b->(dA e dt o.op=some b/\b<h0.next/\b∉T)\/G0 b)/\∀g,(∀b,ig e t o.op=some b->g.get b=h0.get b)->bu e g t o.op=some u:=λho=>by
      obtain⟨h5,_⟩:=hold ho;obtain⟨u',h6,h7,h8,h9⟩:=q.aY x0 (m:=m) h5 h1 (bQ ho);have:bu e (bW h m aq) t o.op=some u':=h9 _ λb hb=>by
       rcases h8 b hb with⟨_,a1,a2⟩|a1
       . rw[bm b a1];exact(q.ag b a1 a2).1
       . rw[bm b (aQ b a1).1];exact(aQ b a1).2
      rw[h3]at this;cases this;exact⟨h7,h8,h9⟩
     have bR:∀x∈ki dy (dA e dt o.op) L,x.1<h0.next/\(x∈L\/x.1∉T):=λx hb=>by
      unfold ki at hb
      split at hb
      . rename_i z b' hz;rcases GP.1 hb with rfl|hb
        . have ho:aY=true:=(u0 aN (by simp)).1;have:=bQ ho;rw[hz]at this;exact⟨this.1,.inr this.2⟩
        . exact⟨q.LT x hb,.inl hb⟩
      . exact⟨q.LT x hb,.inl hb⟩
     have b3:∀x∈ki dy (dA e dt o.op) L,∀j y,st.reverse[j]? =some y->j<=x.2->y.2.get x.1=h0.get x.1:=λx hx j y hy hj=>by
      obtain⟨a1,a2⟩:=bR x hx;rcases a2 with a2|a2
      . exact q.ls x a2 j y hy hj
      . exact q.st y (adT.1 (TF hy)) x.1 a1 (.inl a2)
     refine ih pl (i+1) id c' _ _ ds dd G h dh aq all dp st (t::sn) T _ aL aM av ad aF (q.next ai ho hp hR (λho=>(again ho).1) UA (λx hx=>(bR x hx).1) b3 ?_) h2;intro o' p' aA aB aC;rw[ho]at aA;rw[hp]at aB;cases aA;cases aB;obtain⟨hold,⟨d,hd⟩,_⟩:=u0 aN aC;obtain⟨h7,h8,h9⟩:=again hold;refine .inr ⟨bx,d,u,hd,by rw[hd];simp[bB,Tr.bn],λb hb=> ?_,h9⟩;rcases h8 b hb with⟨a0,_,_⟩|a1
     . right;unfold ki;rw[a0];cases dy with
       |none=>exact absurd rfl aC
       |some z=>exact⟨z,rfl,by simp⟩
     . exact .inl a1
    |alloc=>
     obtain⟨⟨ob,f⟩,h1,h2⟩:=hs;obtain⟨ao,af,h3,h4,h5⟩:=EN q.ht h1;refine⟨(ao,af),h3, ?_⟩;have ad:id+1+(r.filter λo=>cls o.op==.alloc).length=h0.next+na:=by
      rw[xS,hc]at ae;simp only[beq_self_eq_true,if_true,Zr]at ae;omega
     have bL:id<h0.next+na:=by omega
     have q':=q.next ai ho hp (h5 (aI h G) id) (λ_=>h5 _ _) (λ_ hb=>hb) q.LT q.ls (λo' p' aA aB aC=>by
      rw[ho]at aA;rw[hp]at aB;cases aA;cases aB;cases(u0 aN aC).2.2)
     refine ih pl (i+1) (id+1) c' _ _ ds dd G h dh _ _ ((i,id,ob)::dp) st (t::sn) T L aL aM av ad aF {q' with lo:=(by have:=q.lo;omega),pe:=.cons ⟨rfl,rfl,h4⟩ q.pe,pid:= ?_,pw:= ?_,res:=λj hj aU=>q.res j (by omega) aU,al:= ?_} h2
     . intro y hy;rcases GP.1 hy with rfl|hy
       . have hr:=q.res id (Nat.le_refl _) bL;have:=q.nx;exact⟨q.lo,Nat.lt_succ_self _,by simp only;omega,hr.1,hr.2⟩
       . obtain⟨a1,a2,a3,a4,a5⟩:=q.pid y hy;exact⟨a1,by omega,a3,a4,a5⟩
     . intro y hy z hz he;rcases GP.1 hy with rfl|hy<;>rcases GP.1 hz with rfl|hz
       . rfl
       . have:=(q.pid z hz).2.1;simp only at he;omega
       . have:=(q.pid y hy).2.1;simp only at he;omega
       . exact q.pw y hy z hz he
     . intro y hy;rcases GP.1 hy with rfl|hy
       . exact q.lo
       . exact q.al y hy
    |effect=>
     have ad:id+(r.filter λo=>cls o.op==.alloc).length=h0.next+na:=by
      rw[xS,hc]at ae;simpa using ae
     have aP:aY=false:=by
      cases aY with
      |false=>rfl
      |true=>rcases AI aN rfl with h5|⟨h5|h5,_⟩<;>cases h5
     have bM:dy=none:=by
      cases dy with
      |none=>rfl
      |some z=>have:=(u0 aN (by simp)).1;rw[aP]at this;cases this
     have bo:TD (aI (bW h m aq) G) t dt:=q.ht.mono km;refine bA.mono ?_ (bY.x (aj:=true) kx bo aF hs);rintro u b5 h' ⟨d,b6,bN,G',T',k1,k2,k3,k4,k5,k6,k7⟩;have bS:=k2.aI kx;have b7:∀i r,aI h G i=some r->aI h' G' i=some r:=λi r hr=>bS i r (km i r hr);have bT:∀j,h0.next<=j->dh.get j=none->(∀y∈dp,m.testBit y.1=true->y.2.1≠j)->(ff dh m dp).get j=none:=λj _ hj hy=>by rw[xE _ _ _ _ hy];exact hj
     have bg:∀j,j<h.next->¬G j->(ff dh m dp).get j=none->bN.get j=none/\¬G' j:=λj hj hg hd=>by
      refine⟨(k2.same j (by rw[kn];exact hj) hd).2,λb8=> ?_⟩;rcases k2.aY j (by rw[kn];exact hj) b8 with h1|h1
      . exact hg h1
      . rw[hd]at h1;cases h1
     have aR:∀y∈iC m dp,y∈dp/\m.testBit y.1=false:=λy hy=>by
      simp only[iC,adU,Bool.not_eq_true']at hy;exact hy
     have bb:∀b,b<h0.next->(b∉T'++T\/G0 b)->h'.get b=h0.get b:=λb hb az=>by
      rcases az with h1|h1
      . simp only[qe,not_or]at h1;rw[(k5 b (by rw[kn];have:=q.nx;omega) h1.1).1,bm b hb];exact(q.ag b hb h1.2).1
      . exact((kk.trans k2).same b hb (x0.still b h1).2).1
     have b9:=kk.trans k2;have ca:h.next<=h'.next:=by rw[<-kn];exact k2.next
     have q1:DI e ops aw G0 h0 d0 na i id (c'+1) t dt G' h' bN (aq.filter λq=> !m.testBit q.1) all (iC m dp) ((Nat.lor ((st.head?.map (·.1)).getD 0) m,h')::st) sn (T'++T) L:={
      x:=k1
      k:=b9
      nx:=Nat.le_trans q.nx ca
      lo:=q.lo
      pe:=aO.mono (AF m q.pe) λ_ _=>oK.mono b7
      pid:=λy hy=>by
       obtain⟨bp,cb⟩:=aR y hy;obtain⟨a1,a2,a3,a4,a5⟩:=q.pid y bp;obtain⟨b1,b2⟩:=bg y.2.1 a3 a5 (bT _ a1 a4 λz hz bU he=>by
        have:=q.pw z hz y bp he;rw[this,cb]at bU;cases bU)
       exact⟨a1,a2,by omega,b1,b2⟩
      pw:=λy hy z hz=>q.pw y (aR y hy).1 z (aR z hz).1
      res:=λj hj aU=>by
       obtain⟨a1,a2⟩:=q.res j hj aU;have:=q.nx;have:=q.lo;exact bg j (by omega) a2 (bT _ (by omega) a1 λz hz _ he=>by have:=(q.pid z hz).2.1;omega)
      al:=q.al
      ht:=bo.mono bS
      tO:=q.tO
      ag:=λb hb az=>by
       refine⟨bb b hb (.inl az), ?_⟩;simp only[qe,not_or]at az;rw[(k5 b (by rw[kn];have:=q.nx;omega) az.1).2,xE _ _ _ _ λz hz _ he=>by have:=(q.pid z hz).1;omega];exact(q.ag b hb az.2).2
      st:=λy hy b hb az=>by
       rcases GP.1 hy with rfl|hy
       . exact bb b hb az
       . refine q.st y hy b hb (az.imp (λh1=> ?_) λh1=>h1);simp only[qe,not_or]at h1;exact h1.2
      LT:=q.LT
      ls:=λy hy j z hz hj=>by
       rw[W9]at hz;rcases AH hz with h1|⟨h1,rfl⟩
       . exact q.ls y hy j z h1 hj
       . rw[Er,q.sl]at h1;subst h1;have bp:=q.LT y hy;show h'.get y.1=h0.get y.1;rw[(k5 y.1 (by rw[kn];have:=q.nx;omega) (k6 y hy hj)).1,bm y.1 bp];obtain⟨m0,r0,bc⟩:=q.hd;have aD:st.reverse[c']? =some (m0,h):=by
          have aT:=q.sl;rw[bc]at aT⊢;rw[W9,ZL (by rw[Er];simp at aT;omega),Er];simp at aT;rw[show c'-r0.length=0 by omega];rfl
         exact q.ls y hy c' (m0,h) aD (by omega)
      hd:=⟨_,_,rfl⟩
      sl:=by rw[Zr,q.sl]
      rd:=q.rd
      sn:=q.sn}
     exact ih pl (i+1) id (c'+1) _ _ b5 b6 G' h' bN _ all (iC m dp) _ (t::sn) (T'++T) L aL aM av ad k4 (q1.next ai ho hp k3 (λho=>by rw[aP]at ho;cases ho) (λ_ hb=>hb) q1.LT q1.ls (bI bM)) k7
   |false=>
    obtain⟨c,m,dy,aY⟩:=p;simp only at hs hc⊢;have cc:∀{tc:Tr Value},qa e ops aw G0 h0 L tc i t:=λo' p' aA aB aC=>by
     rw[ho]at aA;cases aA;exact .inl bx
    have q':=q.next ai ho hp (p6 (R:=aI h G)) (λ_=>p6) (λ_ hb=>hb) q.LT q.ls cc;cases c with
    |bad=>exact hs.elim
    |pure=>
     have ad:id+(r.filter λo=>cls o.op==.alloc).length=h0.next+na:=by
      rw[xS,hc]at ae;simpa using ae
     exact ih pl (i+1) id c' _ _ ds dd G h dh aq all dp st (t::sn) T L aL aM av ad aF q' hs
    |read=>
     have ad:id+(r.filter λo=>cls o.op==.alloc).length=h0.next+na:=by
      rw[xS,hc]at ae;simpa using ae
     exact ih pl (i+1) id c' _ _ ds dd G h dh aq all dp st (t::sn) T L aL aM av ad aF q' hs
    |alloc=>
     have ad:id+1+(r.filter λo=>cls o.op==.alloc).length=h0.next+na:=by
      rw[xS,hc]at ae;simp only[beq_self_eq_true,if_true,Zr]at ae;omega
     exact ih pl (i+1) (id+1) c' _ _ ds dd G h dh aq all dp st (t::sn) T L aL aM av ad aF {q' with lo:=(by have:=q.lo;omega),pid:=λy hy=>(by obtain⟨a1,a2,a3⟩:=q.pid y hy;exact⟨a1,by omega,a3⟩),res:=λj hj aU=>q.res j (by omega) aU} hs
    |effect=>
     have ad:id+(r.filter λo=>cls o.op==.alloc).length=h0.next+na:=by
      rw[xS,hc]at ae;simpa using ae
     have bc:∀y∈((st.head?.map (·.1)).getD 0,h)::st,∀b,b<h0.next->(b∉T\/G0 b)->y.2.get b=h0.get b:=λy hy b hb az=>by
      rcases GP.1 hy with rfl|hy
      . exact b0 b hb az
      . exact q.st y hy b hb az
     have cd:∀y∈L,∀j z,(((st.head?.map (·.1)).getD 0,h)::st).reverse[j]? =some z->j<=y.2->z.2.get y.1=h0.get y.1:=λy hy j z hz hj=>by
      rw[W9]at hz;rcases AH hz with h1|⟨h1,rfl⟩
      . exact q.ls y hy j z h1 hj
      . rw[Er,q.sl]at h1;subst h1;obtain⟨m0,r0,bc⟩:=q.hd;have aD:st.reverse[c']? =some (m0,h):=by
         have aT:=q.sl;rw[bc]at aT⊢;rw[W9,ZL (by rw[Er];simp at aT;omega),Er];simp at aT;rw[show c'-r0.length=0 by omega];rfl
        exact q.ls y hy c' (m0,h) aD (by omega)
     exact ih pl (i+1) id (c'+1) _ _ ds dd G h dh aq all dp _ (t::sn) T L aL aM av ad aF {q' with st:=bc,ls:=cd,hd:=⟨_,_,rfl⟩,sl:=(by rw[Zr,q.sl])} hs
theorem Fh{tf:Tr Value}{all:cZ}{st:List (Nat×aa)}:∀{l:List Oper} {pl:List PI} {ts:List (Tr Value)},pl.length=l.length->ts.length=l.length->(∀(k:Nat) o p t,l[k]? =some o->pl[k]? =some p->ts[k]? =some t->p.dy≠none->
 cH ops ⟨t,0,[],{m:=.nil,next:=0}⟩ o=some false\/(cH ops ⟨t,0,[],{m:=.nil,next:=0}⟩ o=some true/\∃d v,o.dst=some d/\tf.get d=some v/\∀x,p.dy=some x->∀q∈(st.drop x.1).take x.2,bu e (bW q.2 p.m (all.filter λx=> !q.1.testBit x.1)) t o.op=some v))->fS e ops tf all st l pl ts
 |[],_,_,_,_,_=>by simp[fS]
 |o::r,[],_,h1,_,_=>by simp at h1
 |o::r,p::pl,[],_,h2,_=>by simp at h2
 |o::r,p::pl,t::ts,h1,h2,h=>by
  refine⟨?_,Fh (by simpa using h1) (by simpa using h2) λk o' p' t' a b c=>h (k+1) o' p' t' (by simpa using a) (by simpa using b) (by simpa using c)⟩;cases hd:p.dy with
  |none=>trivial
  |some lk=>
   obtain⟨lo,k⟩:=lk;rcases h 0 o p t rfl rfl rfl (by rw[hd];simp)with h3|⟨h3,d,v,h4,h5,h6⟩
   . simp only[h3]
   . simp only[h3,h4,h5];have:∀(l:List (Nat×aa)),(∀q∈l,q∈(st.drop lo).take k)->oF e o p.m t v all l:=by
      intro l
      induction l with
      |nil=>exactλ_=>trivial
      |cons q l ih=>exactλhl=>⟨h6 (lo,k) hd q (hl q (by simp)),ih λq' cg=>hl q' (Qc _ cg)⟩
     exact this _ λq hq=>hq
theorem UB{t:Tr Value}{n:Nat}{ds:List Deferred}{h:aa}{K:aE->Prop}{K1:cm->Prop}(pl:List PI)(aK:rh ops true pl=true)(ae:(ops.filter λo=>cls o.op==.alloc).length=na)
 (hK:∀x,K1 x->fS e ops x.s.t x.all x.bw.reverse ops pl x.cS.reverse/\K {x.s with h:=eO x.s.h x.aq})
 (hs:bX e none ops ops pl 0 h.next t n ds {h with next:=h.next+na} [] [] [(0,{h with next:=h.next+na})] [] K1):lD e none ops ⟨t,n,ds,h⟩ K:=by
 simp only[rh,DE,PO]at aK;obtain⟨⟨h1,h2⟩,h3⟩:=aK;have h2:=W2 h2;have h4:∀(k:Nat) o p,ops[k]? =some o->pl[k]? =some p->pN ops (bf ops) (cN ops) k o p=true:=λk o p ho hp=>by
  have hz:(ops.zip pl)[k]? =some (o,p):=by rw[VK];exact⟨ho,hp⟩
  exact h3 ((o,p),k) (by
   rw[Zj];simpa using hz)
 refine⟨h1, ?_⟩;rw[ae];have h5:∀(k:Nat) o p m,ops[k]? =some o->pl[k]? =some p->(bf ops)[k]? =some m->cls o.op=p.c/\m=p.m:=λk o p m ho hp hm=>by
  have:=h4 k o p ho hp;simp only[pN,DE,decide_eq_true_eq]at this;refine⟨this.1.1, ?_⟩;have e1:=W2 this.1.2;rw[<-e1,adV,hm];rfl
 refine bX.zy (λx hx=> ?_) ops pl (bf ops) 0 h.next t n ds _ [] [] _ [] (by rw[wA]) h5 hs;obtain⟨ch,cj⟩:=hK x hx;refine⟨.inr ?_,cj⟩;have:=fS.p (e:=e) (x:=x) (st:=x.bw.reverse) (ef:=cN ops) (ms:=bf ops) rfl ops pl x.cS.reverse 0 (λk o p ho hp=>by rw[Nat.zero_add];exact h4 k o p ho hp)
  (λk o m hz=>by
   rw[List.drop_zero,VK]at hz;rw[Nat.zero_add,adV,hz.2];rfl) ch
 simpa using this
theorem UC{t:Tr DV}{n:Nat}{dd:List FuncId}{dh:ab}{K:bk->DS->Prop}(pl:List PJ)(aK:uZ ops pl=true)(na:Nat)(ae:Nat.beq (ops.filter λo=>cls o.op==.alloc).length na=true)(N0:Nat)(hN:dh.next=N0)
 (hs:cQ e ops N0 ops pl 0 N0 0 t n dd (dh.up (N0+na)) [] [] [] (K .normal)):∀G r,SD G r ⟨t,n,dd,dh⟩->lD e none ops r (mz G r.h dh (K .normal)):=by
 rintro G ⟨tt,n',ds,h⟩ ⟨q1,q2,q3,q4⟩;simp only at q1 q2 q3 q4;subst q1;subst hN;have bq:=q4.next;simp only[uZ,DE]at aK;obtain⟨bZ,ck⟩:=aK;have bd:=bZ;simp only[rh,DE,PO]at bd;obtain⟨⟨hd,hlen⟩,h3⟩:=bd;have hlen:=W2 hlen;rw[adW]at hlen;have bs:∀(k:Nat) o p,ops[k]? =some o->pl[k]? =some p->cls o.op=p.c/\rE ops pl o p=true:=λk o p ho hp=>by
  have hz:(ops.zip pl)[k]? =some (o,p):=by rw[VK];exact⟨ho,hp⟩
  refine⟨?_,PO.1 ck _ (TF hz)⟩;have cl:(ops.zip (pl.map PJ.pi))[k]? =some (o,p.pi):=by rw[VK];exact⟨ho,by rw[adX,hp];rfl⟩
  have:=h3 ((o,p.pi),k) (by rw[Zj];simpa using cl);simp only[pN,DE,decide_eq_true_eq]at this;exact this.1.1
 have x1:bH G (h.bump na) (dh.up (dh.next+na)):=⟨q4.eU.mono (iz λi hg=>⟨hg,rfl⟩),by rw[bG,ab.fH,bq],λi o ho=>by obtain⟨a,b⟩:=q4.obj i o ho;exact⟨by rw[bG];omega,b⟩,λi hi=>by obtain⟨a,b⟩:=q4.still i hi;exact⟨by rw[bG];omega,b⟩⟩;have q:DI e ops pl G h dh na 0 dh.next 0 tt t G (h.bump na) (dh.up (dh.next+na)) [] [] [] [(0,h.bump na)] [] [] []:={
  x:=x1
  k:=⟨by rw[bG];omega,λi hi hd=>⟨rfl,hd⟩,λi hi=>hi,λi hi hg=>.inl hg⟩
  nx:=by rw[bG];omega
  lo:=by omega
  pe:=.nil
  pid:=λy hy=>by cases hy
  pw:=λy hy=>by cases hy
  res:=λj hj aU=>by
   refine⟨?_,λhg=> ?_⟩
   . cases cn:(dh.up (dh.next+na)).get j with
     |none=>rfl
     |some o=>have:=(q4.obj j o cn).1;omega
   . have:=(q4.still j hg).1;omega
  al:=λy hy=>by cases hy
  ht:=⟨x1.eU,q2⟩
  tO:=λs d _ hd=>q2 s d hd
  ag:=λb _ _=>⟨rfl,rfl⟩
  st:=λy hy b _ _=>by
   simp only[List.mem_singleton]at hy;subst hy;rfl
  LT:=λb hb=>by cases hb
  ls:=λb hb=>by cases hb
  hd:=⟨_,_,rfl⟩
  sl:=rfl
  rd:=λk tk hk=>by simp at hk
  sn:=rfl}
 have bl:=W2 ae;have key:=cQ.s (n:=n') (Uz hd) bs q4 ops pl 0 dh.next 0 tt t ds dd G _ _ [] [] [] _ [] [] [] (Nat.zero_le _) rfl rfl (by rw[bl,bq]) q3 q (by rw[bq];exact hs);rw[<-bq]at key;refine UB (pl.map PJ.pi) bZ bl (λx hx=> ?_) key;obtain⟨⟨L,r1,r2,r3,r4,r5,r7⟩,r6⟩:=hx;refine⟨Fh (by rw[adW,hlen]) (by rw[Er,r2]) λk o p tk ho hp cp aW=> ?_,r6⟩;rw[adX]at hp;obtain⟨pj,bO,rfl⟩:=Option.map_eq_some_iff.1 hp;rcases r1 k tk cp o pj ho bO aW with h4|⟨h4,d,v,h5,h6,h7,h8⟩
 . exact .inl h4
 . refine .inr ⟨h4,d,v,h5,h6,λxx cq y hy=>h8 _ λb hb=> ?_⟩;obtain⟨j,hj⟩:=abR hy;rw[List.getElem?_take]at hj
   split at hj
   . rename_i cu;rw[Z4]at hj;have cr:y∈x.bw:=adT.1 (TF hj);have ct:b<h.next/\y.2.get b=h.get b:=by
      rcases h7 b hb with h9|⟨z,hz,h9⟩
      . exact⟨(q4.still b h9).1,r4 y cr b h9⟩
      . have:xx=z:=by
         have bP:pj.dy=some xx:=cq;rw[bP]at hz;cases hz;rfl
        subst this;exact⟨r5 _ h9,r7 _ h9 (xx.1+j) y hj (by simp only;omega)⟩
     rw[xD _ _ _ _ λz hz he=>by
      have:=r3 z (adU.1 hz).1;omega]
     exact ct.2
   . cases hj
end
end Go.au
end

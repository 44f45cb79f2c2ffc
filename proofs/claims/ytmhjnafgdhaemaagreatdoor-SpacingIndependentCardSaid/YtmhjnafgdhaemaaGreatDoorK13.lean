/- SpacingIndependent: parts of its proof. -/
import Derived.Test.YtmhjnafgdhaemaaGreatDoorK12
open Option.some renaming injEq->qe
open Prod.mk renaming injEq->xS
open Nat renaming blt->DE,ble_eq_true_of_le->Er,beq_refl->GP,ble->PX,beq->Qc,le_of_ble_eq_true->VK
open Bool renaming and_self->PO
open List renaming eq_nil_of_length_eq_zero->TF,getElem?_eq_none_iff->W2,mem_cons_self->Xw,mem_cons_of_mem->Zj
open Option renaming map_eq_some_iff->W9
set_option linter.all false
set_option maxRecDepth 100000
noncomputable section
namespace Go.au
variable {e:Env} {G:Nat->Prop} {h:aa} {dh:ab} {t:Tr Value} {dt:Tr DV} {R:Rows}
theorem bH.new(x:bH G h dh){ao:bF}{o:bx}(hr:iW (aI h G) ao o):bH G (h.new ao) (dh.new o)/\Kp G h dh G (h.new ao) (dh.new o):=by
 have hm:∀i r,aI h G i=some r->aI (h.new ao) G i=some r:=iz λi hg=>⟨hg,bD _ _ _ (by have:=(x.still i hg).1;omega)⟩;refine⟨⟨x.eU.mono hm,by rw[aa.aX,ab.aX,x.next],λi p hp=> ?_,λi hg=> ?_⟩,⟨Nat.le_succ _,λi hi hd=> ?_,λ_ h=>h,λ_ _ h=>.inl h⟩⟩
 . rw[ab.di]at hp;by_cases hi:i=dh.next
   . rw[if_pos hi]at hp;cases hp;subst hi;refine⟨by rw[aa.aX,x.next];omega,ao,by rw[<-x.next];exact pO _ _,hr.mono hm⟩
   . rw[if_neg hi]at hp;obtain⟨h1,ao',h2,h3⟩:=x.obj i p hp;exact⟨by rw[aa.aX];omega,ao',by rw[bD _ _ _ (by omega)];exact h2,h3.mono hm⟩
 . obtain⟨h1,h2⟩:=x.still i hg;exact⟨by rw[aa.aX];omega,by rw[ab.di,if_neg (by have:=x.next;omega)];exact h2⟩
 . exact⟨bD _ _ _ (by omega),by rw[ab.di,if_neg (by have:=x.next;omega)];exact hd⟩
theorem bH.set(x:bH G h dh){i:Nat}{o0:bx}(hi:dh.get i=some o0){ao:bF}{o:bx}(hr:iW (aI h G) ao o):bH G (h.set i (some ao)) (dh.set i (some o))/\Kp G h dh G (h.set i (some ao)) (dh.set i (some o)):=by
 have aM:∀j,G j->j≠i:=λj hg e=>by subst e;rw[(x.still j hg).2]at hi;cases hi
 have hm:∀j r,aI h G j=some r->aI (h.set i (some ao)) G j=some r:=iz λj hg=>⟨hg,bl _ _ _ _ (aM j hg)⟩;refine⟨⟨x.eU.mono hm,by rw[aa.aR,ab.aR,x.next],λj p hp=> ?_,λj hg=> ?_⟩,⟨Nat.le_refl _,λj hj hd=> ?_,λ_ h=>h,λ_ _ h=>.inl h⟩⟩
 . rw[ab.bn]at hp;by_cases aF:j=i
   . rw[if_pos aF]at hp;cases hp;subst aF;exact⟨(x.obj j o0 hi).1,ao,dT _ _ _,hr.mono hm⟩
   . rw[if_neg aF]at hp;obtain⟨h1,ao',h2,h3⟩:=x.obj j p hp;exact⟨h1,ao',by rw[bl _ _ _ _ aF];exact h2,h3.mono hm⟩
 . obtain⟨h1,h2⟩:=x.still j hg;exact⟨h1,by rw[ab.bn,if_neg (aM j hg)];exact h2⟩
 . have:j≠i:=λe=>by subst e;rw[hd]at hi;cases hi
   exact⟨bl _ _ _ _ this,by rw[ab.bn,if_neg this];exact hd⟩
theorem bH.kill(x:bH G h dh){i:Nat}{o0:bx}(hi:dh.get i=some o0):bH G (h.set i none) (dh.set i none)/\Kp G h dh G (h.set i none) (dh.set i none):=by
 have aM:∀j,G j->j≠i:=λj hg e=>by subst e;rw[(x.still j hg).2]at hi;cases hi
 have hm:∀j r,aI h G j=some r->aI (h.set i none) G j=some r:=iz λj hg=>⟨hg,bl _ _ _ _ (aM j hg)⟩;refine⟨⟨x.eU.mono hm,by rw[aa.aR,ab.aR,x.next],λj p hp=> ?_,λj hg=> ?_⟩,⟨Nat.le_refl _,λj hj hd=> ?_,λ_ h=>h,λ_ _ h=>.inl h⟩⟩
 . rw[ab.bn]at hp;by_cases aF:j=i
   . rw[if_pos aF]at hp;cases hp
   . rw[if_neg aF]at hp;obtain⟨h1,ao',h2,h3⟩:=x.obj j p hp;exact⟨h1,ao',by rw[bl _ _ _ _ aF];exact h2,h3.mono hm⟩
 . obtain⟨h1,h2⟩:=x.still j hg;exact⟨h1,by rw[ab.bn,if_neg (aM j hg)];exact h2⟩
 . have:j≠i:=λe=>by subst e;rw[hd]at hi;cases hi
   exact⟨bl _ _ _ _ this,by rw[ab.bn,if_neg this];exact hd⟩
def dH(e:Env)(t:Tr DV):Op->Option (bx×(Nat->DV))
 |.alloc elem=>match e.zero elem with
  |none=>none
  |some z=>some (.row (z.cells.toList.map .v) true 0,λi=>.v (.pointer (some ⟨i,0,none⟩)))
 |.box _ x=>match aB e t x with
  |none=>none
  |some d=>if(ca d).all cO=true then some (.row (ca d) true 0,λi=>.v (.pointer (some ⟨i,0,none⟩)))else none
 |.buildSlice st len parts=>match e.under st,fw e t parts.toList with
  |some (.slice elem),some ps=>match e.size elem,e.zero elem with
   |some s,some z=>if len*s<=16777216/\z.cells.toList.length=s/\0<s then
    match jH (λi=>some (i*s,s)) ((eN z.cells.toList (len*s)).map .v) ps with
    |none=>none
    |some cs=>some (.row cs true 0,λi=>.v (.slice (some ⟨i,0,none⟩) len len))
    else none
   |_,_=>none
  |_,_=>none
 |.makeMap _ none=>some (.map [] 0,λi=>.v (.map (some i)))
 |.makeSlice st l c=>match e.under st,(aB e t l).bind exact,(aB e t c).bind exact with
  |some (.slice elem),some (.int .i64 l),some (.int .i64 c)=>match e.size elem,e.zero elem,e.bytes elem with
   |some s,some z,some b=>if 0<=l/\l<=c/\c<=1099511627776/\b*c.toNat<=1099511627776/\z.cells.toList.length=s/\0<s then
    some (.row ((eN z.cells.toList (c.toNat*s)).map .v) true 0,λi=>.v (.slice (some ⟨i,0,none⟩) l.toNat c.toNat))
    else none
   |_,_,_=>none
  |_,_,_=>none
 |_=>none
theorem EM(ht:TD R t dt){o:Operand}{v:Value}(hd:(aB e dt o).bind exact=some v):aw e t o=some v:=by
 obtain⟨d,h1,h2⟩:=Option.bind_eq_some_iff.1 hd;obtain⟨u,h3,h4⟩:=eP ht h1;rw[h3,oH h4 h2]
theorem EN(ht:TD R t dt){op:Op}{o:bx}{f:Nat->DV}(hd:dH e dt op=some (o,f)):∃ao af,cF e t op=some (ao,af)/\iW R ao o/\∀(R':Rows) (i:Nat),Rel R' (af i) (f i):=by
 unfold dH at hd;unfold cF
 split at hd
 . split at hd
   . cases hd
   . rename_i elem z hz;simp only[qe,xS]at hd;obtain⟨rfl,rfl⟩:=hd;simp only[hz];exact⟨_,_,rfl,.row (sO _),λ_ i=>.v _⟩
 . split at hd
   . cases hd
   . rename_i ty x d hx;obtain⟨v,h1,h2⟩:=eP ht hx
     split at hd
     . rename_i hc;simp only[qe,xS]at hd;obtain⟨rfl,rfl⟩:=hd;simp only[h1];exact⟨_,_,rfl,.row (zV h2 (Ae hc)),λ_ i=>.v _⟩
     . cases hd
 . rename_i st len parts
   split at hd
   . rename_i elem ps hu hp;obtain⟨vs,h1,h2⟩:=zX ht hp;simp only[hu,h1]
     split at hd
     . rename_i s z hs hz
       split at hd
       . rename_i hc
         split at hd
         . cases hd
         . rename_i cs hf;simp only[qe,xS]at hd;obtain⟨rfl,rfl⟩:=hd;obtain⟨cs',h3,h4⟩:=xj h2 (sO _) hf;have hb:DE 0 s=true:=Er hc.2.2;simp only[hs,hz,Er hc.1,hc.2.1,GP,hb,PO,cond_true,h3];exact⟨_,_,rfl,.row h4,λ_ i=>.v _⟩
       . cases hd
     . cases hd
   . cases hd
 . simp only[qe,xS]at hd;obtain⟨rfl,rfl⟩:=hd;exact⟨_,_,rfl,.map .nil,λ_ i=>.v _⟩
 . split at hd
   . rename_i st lo co elem l c hu hl hc;simp only[hu,EM ht hl,EM ht hc,Option.bind_some,oa]
     split at hd
     . rename_i s z b hs hz hb
       split at hd
       . rename_i bo;simp only[qe,xS]at hd;obtain⟨rfl,rfl⟩:=hd;obtain⟨c1,c2,c3,c4,c5,c6⟩:=bo;have aN:DE 0 s=true:=Er c6;simp only[hs,hz,hb,c1,c2,c3,decide_true,Er c4,c5,GP,aN,PO,cond_true];exact⟨_,_,rfl,.row (sO _),λ_ i=>.v _⟩
       . cases hd
     . cases hd
   . cases hd
 . cases hd
def kY(e:Env)(dh:ab)(ty:TypeId):Option DV->Option DV->Option (ab×Nat)
 |some (.v (.pointer (some ⟨b,o,none⟩))),some d=>match dh.get b,e.size ty with
  |some (.row cs true ah),some n=>if(ca d).length=n/\0<n/\o+n<=cs.length/\(ca d).all cO=true then some (dh.set b (some (.row (cs.take o++ca d++cs.drop (o+n)) true ah)),b)else none
  |_,_=>none
 |_,_=>none
theorem QD(x:bH G h dh){ty:TypeId}{p v:Option Value}{dp d:Option DV}{ad:ab}{b:Nat}(hp:∀d,dp=some d->∃u,p=some u/\Rel (aI h G) u d)(hv:∀c,d=some c->∃u,v=some u/\Rel (aI h G) u c)
 (hd:kY e dh ty dp d=some (ad,b)):∃h',pK e h ty p v=some h'/\bH G h' ad/\Kp G h dh G h' ad/\∀i,i≠b->h'.get i=h.get i/\ad.get i=dh.get i:=by
 unfold kY at hd
 split at hd
 . rename_i b' o d;obtain⟨u,rfl,h1⟩:=hp _ rfl;obtain⟨w,rfl,h2⟩:=hv _ rfl;have:=h1.cG;subst this
   split at hd
   . rename_i cs ah n hg hs
     split at hd
     . rename_i hc;obtain⟨c1,c2,c3,c4⟩:=hc;simp only[qe,xS]at hd;obtain⟨rfl,rfl⟩:=hd;obtain⟨_,ao,g1,g2⟩:=x.obj _ _ hg;cases g2 with
       | @row ai _ _ _ g2=>
        have aS:=zV h2 (Ae c4);have e1:w.cells.toList.length=n:=by rw[aS.length];exact c1
        have hw:nn h b' o w.cells.toList=some (h.set b' (some (.row (dN ai o w.cells.toList) true ah))):=Ea g1 (by rw[e1,g2.length];exact c3) (xg aS c4);refine⟨_,by rw[Eg hs e1 c2,hw], ?_⟩;have:iW (aI h G) (.row (dN ai o w.cells.toList) true ah) (.row (cs.take o++ca d++cs.drop (o+n)) true ah):=by
         refine .row ?_;unfold dN;rw[e1];exact aO.append (aO.append (aO.take g2 _) aS) (aO.drop g2 _)
        obtain⟨k1,k2⟩:=x.set hg this;exact⟨k1,k2,λi hi=>⟨bl _ _ _ _ hi,by rw[ab.bn,if_neg hi]⟩⟩
     . cases hd
   . cases hd
 . cases hd
def mw(P:Program)(kt:TypeId)(k:Value):List bq->Nat->Option (Option Nat)
 |[],_=>some none
 |x::es,i=>match jX P kt k x.key with
  |none=>none
  |some true=>some (some i)
  |some false=>mw P kt k es (i+1)
theorem Af{P:Program}{kt:TypeId}{k:Value}:∀{es:List MapEntry} {ds:List bq} {r:Option Nat} (i:Nat),aO (iy R) es ds->mw P kt k ds i=some r->∃r',fN P kt k es i=some r'/\r'.map (·.1)=r
 |[],[],r,i,.nil,h=>by simp only[mw,qe]at h;subst h;exact⟨none,rfl,rfl⟩
 |x::es,y::ds,r,i,.cons h1 h2,h=>by
  simp only[mw]at h;simp only[fN,h1.key]
  split at h
  . cases h
  . rename_i hk;cases h;exact⟨_,by rw[hk],rfl⟩
  . rename_i hk;simp only[hk];exact Af (i+1) h2 h
def kg(e:Env)(ty:TypeId)(k:Value)(d:DV)(es:List bq)(clock:Nat):Option bx:=
 match e.under ty with
 |some (.map kt _)=>match e.under kt with
  |none=>none
  |some kd=>if plain k=true/\mX kd k=true/\(bQ e.P (Instr.checkKey false 10000 kt k)).isSome=true then match mw e.P kt k es 0 with
   |none=>none
   |some (some i)=>if Instr.sameBits 10000 (((es[i]?).map (·.key)).getD k) k=true then some (.map (es.modify i λx=>{x with key:=k,val:=d}) clock)else none
   |some none=>some (.map (es++[⟨k,d,clock⟩]) (clock+1))
  else none
 |_=>none
theorem EO{k:Value}{v:Value}{d:DV}(hv:Rel R v d):∀{es:List MapEntry} {ds:List bq} (i:Nat),aO (iy R) es ds->aO (iy R) (es.modify i λx=>{x with key:=k,val:=v}) (ds.modify i λx=>{x with key:=k,val:=d})
 |_,_,i,.nil=>by cases i<;>exact .nil
 |_,_,0,.cons h1 h2=>.cons ⟨rfl,hv,h1.born⟩ h2
 |_,_,i+1,.cons h1 h2=>.cons h1 (EO hv i h2)
theorem QE{ty:TypeId}{k v:Value}{d:DV}{es:List MapEntry}{ds:List bq}{clock:Nat}{o:bx}(hr:aO (iy R) es ds)(hv:Rel R v d)(hd:kg e ty k d ds clock=some o):∃ao,nv e ty k v es clock=some ao/\iW R ao o:=by
 unfold kg at hd;unfold nv
 split at hd
 . rename_i kt et hu;simp only[hu]
   split at hd
   . cases hd
   . rename_i kd hk;simp only[hk]
     split at hd
     . rename_i hc;obtain⟨c1,c2,c3⟩:=hc;obtain⟨u,bp⟩:=Option.isSome_iff_exists.1 c3;simp only[c1,c2,PO,cond_true,bp]
       split at hd
       . cases hd
       . rename_i i hp;obtain⟨r',h1,h2⟩:=Af 0 hr hp;cases r' with
         |none=>cases h2
         |some q=>
          obtain⟨j,w⟩:=q;cases h2;simp only[h1]
          split at hd
          . rename_i hb;cases hd;have aT:(es[j]?).map (·.key)=(ds[j]?).map (·.key):=by
             cases hj:es[j]? with
             |none=>
              have:ds.length<=j:=by rw[<-hr.length];exact W2.1 hj
              rw[W2.2 this];rfl
             |some q=>
              obtain⟨q',h3,h4⟩:=hr.get j q hj;rw[h3];simp[h4.key]
            rw[<-aT]at hb;simp only[hb,cond_true];exact⟨_,rfl,.map (EO hv j hr)⟩
          . cases hd
       . rename_i hp;obtain⟨r',h1,h2⟩:=Af 0 hr hp;cases r' with
         |some q=>cases h2
         |none=>
          cases hd;simp only[h1];exact⟨_,rfl,.map (aO.append hr (.cons ⟨rfl,hv,rfl⟩ .nil))⟩
     . cases hd
 . cases hd
def ja(e:Env)(dh:ab)(ty:TypeId):Option DV->Option DV->Option DV->Option (ab×Nat)
 |some (.v (.map (some r))),some k,some d=>match dh.get r,exact k with
  |some (.map es clock),some k=>(kg e ty k d es clock).map λo=>(dh.set r (some o),r)
  |_,_=>none
 |_,_,_=>none
theorem EP(x:bH G h dh){ty:TypeId}{m k v:Option Value}{dm dk dv:Option DV}{ad:ab}{b:Nat}(hm:∀d,dm=some d->∃u,m=some u/\Rel (aI h G) u d)(hk:∀d,dk=some d->∃u,k=some u/\Rel (aI h G) u d)(hv:∀d,dv=some d->∃u,v=some u/\Rel (aI h G) u d)
 (hd:ja e dh ty dm dk dv=some (ad,b)):∃h',oE e h ty m k v=some h'/\bH G h' ad/\Kp G h dh G h' ad/\∀i,i≠b->h'.get i=h.get i/\ad.get i=dh.get i:=by
 unfold ja at hd
 split at hd
 . rename_i r k' d;obtain⟨u,rfl,h1⟩:=hm _ rfl;obtain⟨w,rfl,h2⟩:=hk _ rfl;obtain⟨z,rfl,h3⟩:=hv _ rfl;have:=h1.cG;subst this
   split at hd
   . rename_i es clock kv hg bs;simp only[W9]at hd;obtain⟨o,h4,h5⟩:=hd;simp only[xS]at h5;obtain⟨rfl,rfl⟩:=h5;obtain⟨_,ao,g1,g2⟩:=x.obj _ _ hg;cases g2 with
     | @map res _ _ g2=>
      have:=oH h2 bs;subst this;obtain⟨ao',q1,q2⟩:=QE g2 h3 h4;obtain⟨k1,k2⟩:=x.set hg q2;exact⟨_,by rw[Eo,g1,Ep,q1];rfl,k1,k2,λi hi=>⟨bl _ _ _ _ hi,by rw[ab.bn,if_neg hi]⟩⟩
   . cases hd
 . cases hd
def Env.ap(e:Env)(st:TypeId):Option (Nat×Nat):=
 match e.under st with
 |some (.slice el)=>match e.size el,e.zero el,e.bytes el with
  |some s,some z,some b=>if 0<s/\z.cells.toList.length=s then some (s,b)else none
  |_,_,_=>none
 |_=>none
def eo(dh:ab)(base:Option Addr)(len cap sz b n:Nat)(new:List DV):Option (DV×ab×List Nat):=
 if len+n<=cap then(if n=0 then some (.v (.slice base (len+n) cap),dh,[])else match base with
  |some ⟨i,o,none⟩=>match dh.get i with
   |some (.row cs true ah)=>if o+len*sz+new.length<=cs.length/\new.all cO=true then some (.v (.slice base (len+n) cap),dh.set i (some (.row (cs.take (o+len*sz)++new++cs.drop (o+len*sz+new.length)) true ah)),[i])else none
   |_=>none
  |_=>none)
 else if(len+n)*(b+1)<=1073741824 then match base with
  |none=>if len=0/\cap=0 then some (.v (.slice (some ⟨dh.next,0,none⟩) (len+n) (len+n)),dh.new (.row new true sz),[])else none
  |some ⟨i,o,none⟩=>match dh.get i with
   |some (.row cs wr ah)=>if o+len*sz<=cs.length then
    (if ah=0\/(ah=sz/\o+cap*sz<cs.length)then some (.v (.slice (some ⟨dh.next,0,none⟩) (len+n) (len+n)),dh.new (.row ((cs.drop o).take (len*sz)++new) true sz),[])
    else if wr=true/\ah=sz/\new.all cO=true then some (.v (.slice (some ⟨dh.next,0,none⟩) (len+n) (len+n)),(dh.set i none).new (.row ((cs.drop o).take (len*sz)++new) true sz),[i])else none)else none
   |_=>none
  |_=>none
 else none
def jb(e:Env)(dh:ab)(aP:Array TypeId):Option (List DV)->Option (DV×ab×List Nat)
 |some [.v (.slice base len cap),x]=>match aP[0]?,aP[1]? with
  |some st,some xt=>match e.ap st,e.elem xt with
   |some (sz,b),some _=>match fy dh sz x with
    |some (n,new)=>eo dh base len cap sz b n new
    |none=>none
   |_,_=>none
  |_,_=>none
 |_=>none
theorem QF(x:bH G h dh){base:Option Addr}{len cap sz b n:Nat}{new:List DV}{ae:List Value}(hr:b8 (aI h G) ae new)(hl:ae.length=n*sz)(hs:0<sz){d:DV}{ad:ab}{T:List Nat}(hd:eo dh base len cap sz b n new=some (d,ad,T)):
 ∃v h',pz h base len cap sz b n ae=some (v,h')/\Rel (aI h' G) v d/\bH G h' ad/\Kp G h dh G h' ad/\∀i,i<h.next->i∉T->h'.get i=h.get i/\ad.get i=dh.get i:=by
 unfold eo at hd;unfold pz
 split at hd
 . rename_i hle;simp only[Er hle,cond_true]
   split at hd
   . rename_i hn;subst hn;simp only[qe,xS]at hd;obtain⟨rfl,rfl,rfl⟩:=hd;have:ae=[]:=TF (by simpa using hl);subst this;cases base with
     |none=>exact⟨_,_,rfl,.v _,x,Kp.refl _ _ _,λ_ _ _=>⟨rfl,rfl⟩⟩
     |some a=>exact⟨_,_,rfl,.v _,x,Kp.refl _ _ _,λ_ _ _=>⟨rfl,rfl⟩⟩
   . rename_i hn
     split at hd
     . rename_i i o
       split at hd
       . rename_i cs ah hg
         split at hd
         . rename_i hc;simp only[qe,xS]at hd;obtain⟨rfl,rfl,rfl⟩:=hd;obtain⟨_,ao,g1,g2⟩:=x.obj _ _ hg;cases g2 with
           | @row ai _ _ _ g2=>
            have aU:=xg hr hc.2;have hlen:o+len*sz+ae.length<=ai.length:=by rw[hr.length,g2.length];exact hc.1
            have bt:0<n*sz:=Nat.mul_pos (by omega) hs;have bu:ae≠[]:=λe=>by subst e;simp only[List.length_nil]at hl;omega
            have hw:ly h (Addr.add ⟨i,o,none⟩ (len*sz)) ae=some (h.set i (some (.row (dN ai (o+len*sz) ae) true ah))):=by
             rw[rk];cases bg:ae with
             |nil=>exact absurd bg bu
             |cons u us=>rw[D9,<-bg];exact Ea g1 hlen aU
            simp only[hw];have:iW (aI h G) (.row (dN ai (o+len*sz) ae) true ah) (.row (cs.take (o+len*sz)++new++cs.drop (o+len*sz+new.length)) true ah):=by
             refine .row ?_;unfold dN;rw[hr.length];exact aO.append (aO.append (aO.take g2 _) hr) (aO.drop g2 _)
            obtain⟨k1,k2⟩:=x.set hg this;exact⟨_,_,rfl,.v _,k1,k2,λj _ hj=>⟨bl _ _ _ _ (by simpa using hj),by rw[ab.bn,if_neg (by simpa using hj)]⟩⟩
         . cases hd
       . cases hd
     . cases hd
 . rename_i hle;have bz:PX (len+n) cap=false:=by
    cases hb:PX (len+n) cap with
    |false=>rfl
    |true=>exact absurd (VK hb) hle
   split at hd
   . rename_i hb;simp only[bz,cond_false,Er hb,cond_true]
     split at hd
     . split at hd
       . rename_i hc;obtain⟨rfl,rfl⟩:=hc;simp only[qe,xS]at hd;obtain⟨rfl,rfl,rfl⟩:=hd;simp only[GP,PO,cond_true];obtain⟨k1,k2⟩:=x.new (ao:=.row ae true sz) (.row hr);exact⟨_,_,rfl,by rw[x.next];exact .v _,k1,k2,λi hi _=>⟨bD _ _ _ (by omega),by rw[ab.di,if_neg (by have:=x.next;omega)]⟩⟩
       . cases hd
     . rename_i i o
       split at hd
       . rename_i cs wr ah hg
         split at hd
         . rename_i hlen;obtain⟨_,ao,g1,g2⟩:=x.obj _ _ hg;cases g2 with
           | @row ai _ _ _ g2=>
            have bA:((ai.drop o).take (len*sz)).length=len*sz:=by rw[List.length_take,List.length_drop,g2.length];omega
            have bB:fF h ⟨i,o,none⟩ (len*sz)=some ((ai.drop o).take (len*sz)):=by simp only[fF,g1,bA,GP,cond_true]
            simp only[bB,g1]
            split at hd
            . rename_i hc;simp only[qe,xS]at hd;obtain⟨rfl,rfl,rfl⟩:=hd;have az:(Qc ah 0||(Qc ah sz&&DE (o+cap*sz) ai.length))=true:=by
               rcases hc with hc|⟨bG,aW⟩
               . simp[hc]
               . have:DE (o+cap*sz) ai.length=true:=Er (by rw[g2.length];exact aW);simp[bG,this]
              simp only[az,cond_true];obtain⟨k1,k2⟩:=x.new (ao:=.row ((ai.drop o).take (len*sz)++ae) true sz) (.row (aO.append (uM g2 o _) hr));exact⟨_,_,rfl,by rw[x.next];exact .v _,k1,k2,λi hi _=>⟨bD _ _ _ (by omega),by rw[ab.di,if_neg (by have:=x.next;omega)]⟩⟩
            . rename_i hc
              split at hd
              . rename_i aW;obtain⟨rfl,rfl,bI⟩:=aW;simp only[qe,xS]at hd;obtain⟨rfl,rfl,rfl⟩:=hd;have az:(Qc ah 0||(true&&DE (o+cap*ah) ai.length))=false:=by
                 have h1:Qc ah 0=false:=by
                  cases aN:Qc ah 0 with
                  |false=>rfl
                  |true=>exact absurd (.inl (Nat.eq_of_beq_eq_true aN)) hc
                 have h2:DE (o+cap*ah) ai.length=false:=by
                  cases aN:DE (o+cap*ah) ai.length with
                  |false=>rfl
                  |true=>exact absurd (.inr ⟨rfl,by rw[<-g2.length];exact VK aN⟩) hc
                 simp[h1,h2]
                simp only[az,cond_false,GP,xg hr bI,PO,cond_true];obtain⟨k1,k2⟩:=x.kill hg;have hm:∀j r,aI h G j=some r->aI (h.set i none) G j=some r:=k2.aI x;obtain⟨k3,k4⟩:=k1.new (ao:=.row ((ai.drop o).take (len*ah)++ae) true ah) (.row ((aO.append (uM g2 o _) hr).mono λ_ _=>Rel.mono hm));refine⟨_,_,rfl, ?_,k3,k2.trans k4,λj hj bk=> ?_⟩
                . rw[x.next];exact .v _
                . exact⟨by rw[bD _ _ _ (by rw[aa.aR];omega),bl _ _ _ _ (by simpa using bk)],by rw[ab.di,if_neg (by rw[ab.aR];have:=x.next;omega),ab.bn,if_neg (by simpa using bk)]⟩
              . cases hd
         . cases hd
       . cases hd
     . cases hd
   . cases hd
theorem QG(x:bH G h dh){aP:Array TypeId}{args:Option (List Value)}{aK:Option (List DV)}(ha:∀l,aK=some l->∃vs,args=some vs/\b8 (aI h G) vs l){d:DV}{ad:ab}{T:List Nat}(hd:jb e dh aP aK=some (d,ad,T)):
 ∃v h',sI e h aP args=some (v,h')/\Rel (aI h' G) v d/\bH G h' ad/\Kp G h dh G h' ad/\∀i,i<h.next->i∉T->h'.get i=h.get i/\ad.get i=dh.get i:=by
 unfold jb at hd
 split at hd
 . rename_i base len cap y;obtain⟨vs,rfl,h1⟩:=ha _ rfl;cases h1 with
   | @cons v0 _ bU _ h1 h2=>
    cases h2 with
    | @cons v1 _ bJ _ h2 h3=>
     cases h3;have:=h1.cG;subst this
     split at hd
     . rename_i st xt bL bM
       split at hd
       . rename_i sz b ss aC bN
         split at hd
         . rename_i n new aZ;unfold Env.ap at aC
           split at aC
           . rename_i el hu
             split at aC
             . rename_i s z b' h4 h5 h6
               split at aC
               . rename_i hc;simp only[qe,xS]at aC;obtain⟨rfl,rfl⟩:=aC;obtain⟨bO,bP,_⟩:=EE bN;obtain⟨xb,xc,ae,rfl,q1,q2,q3⟩:=EK x h2 aZ;obtain⟨v,h',k1,k2,k3,k4,k5⟩:=QF x q2 q3 hc.1 hd;refine⟨v,h', ?_,k2,k3,k4,k5⟩;have hb:DE 0 s=true:=Er hc.1;have hi:oc (.slice bO)=false:=rfl;simp only[sI,mY,bL,bM,hu,bP,h4,h5,h6,hi,si,cond_false,py,sj,q1,hb,hc.2,q3,GP,PO,cond_true];exact k1
               . cases aC
             . cases aC
           . cases aC
         . cases hd
       . cases hd
     . cases hd
 . cases hd
def kZ(e:Env)(dh:ab)(ty:TypeId)(x:DV):Option bx:=match x,e.under ty with
 |.v (.string s),some .string=>some (.eC s 0)
 |.v (.map none),some (.map _ _)=>some (.cj none 0 [] 0)
 |.v (.map (some m)),some (.map _ _)=>match dh.get m with
  |some (.map _ clock)=>some (.cj (some m) clock [] clock)
  |_=>none
 |_,_=>none
theorem QH(x:bH G h dh){ty:TypeId}{v:Value}{d:DV}{o:bx}(hv:Rel (aI h G) v d)(hd:kZ e dh ty d=some o):∃ao,uE e h ty v=some ao/\iW (aI h G) ao o:=by
 unfold kZ at hd;unfold uE
 split at hd
 . rename_i hu;have:=hv.cG;subst this;cases hd;exact⟨_,by simp only[hu],.eC⟩
 . rename_i hu;have:=hv.cG;subst this;cases hd;exact⟨_,by simp only[hu],.cj⟩
 . rename_i m _ _ hu;have:=hv.cG;subst this
   split at hd
   . rename_i es clock hg;cases hd;obtain⟨_,ao,g1,g2⟩:=x.obj _ _ hg;cases g2 with
     |map g2=>exact⟨_,by simp only[hu,g1],.cj⟩
   . cases hd
 . cases hd
def kh(dh:ab)(it:DV)(isString:Bool):Option (DV×ab×Nat):=
 match it with
 |.v (.pointer (some ⟨r,0,none⟩))=>match dh.get r,isString with
  |some (.eC s pos),true=>if pos<s.size then some (.bb [.v (.bool true),.v (.int .i64 pos),.v (.int .i32 (Utf8.decode s pos).1)],dh.set r (some (.eC s (pos+(Utf8.decode s pos).2))),r)else some (.bb [.v (.bool false)],dh,r)
  |some (.cj none _ _ _),false=>some (.bb [.v (.bool false)],dh,r)
  |some (.cj (some m) since seen last),false=>match dh.get m with
   |some (.map es clock)=>
    if(!seen.isEmpty&& !es.isEmpty&&es.all λx=>PX last x.born)=true then none else
    match(es.filter λx=> !seen.contains x.born).filter λx=>decide (x.born<since),(es.filter λx=> !seen.contains x.born).filter λx=>decide (x.born>=since)with
    |[],[]=>some (.bb [.v (.bool false)],dh,r)
    |[x],[]=>some (.bb [.v (.bool true),fu x.key,x.val],dh.set r (some (.cj (some m) since (seen++[x.born]) clock)),r)
    |_,_=>none
   |_=>none
  |_,_=>none
 |_=>none
theorem uN{f:MapEntry->Bool}{g:bq->Bool}(aD:∀x y,iy R x y->f x=g y):∀{es:List MapEntry} {ds:List bq},aO (iy R) es ds->aO (iy R) (es.filter f) (ds.filter g)
 |_,_,.nil=>.nil
 |_,_,.cons (a:=x) (b:=y) h1 h2=>by
  simp only[List.filter_cons,aD x y h1]
  split
  . exact .cons h1 (uN aD h2)
  . exact uN aD h2
theorem ER{f:MapEntry->Bool}{g:bq->Bool}(aD:∀x y,iy R x y->f x=g y):∀{es:List MapEntry} {ds:List bq},aO (iy R) es ds->es.all f=ds.all g
 |_,_,.nil=>rfl
 |_,_,.cons (a:=x) (b:=y) h1 h2=>by simp only[List.all_cons,aD x y h1,ER aD h2]
theorem QI(x:bH G h dh){it:Value}{aQ d:DV}{s:Bool}{ad:ab}{b:Nat}(hv:Rel (aI h G) it aQ)(hd:kh dh aQ s=some (d,ad,b)):∃v h',pA h it s=some (v,h')/\Rel (aI h' G) v d/\bH G h' ad/\Kp G h dh G h' ad/\∀i,i≠b->h'.get i=h.get i/\ad.get i=dh.get i:=by
 unfold kh at hd;unfold pA
 split at hd
 . rename_i r;have:=hv.cG;subst this
   split at hd
   . rename_i st pos hg;obtain⟨_,ao,g1,g2⟩:=x.obj _ _ hg;cases g2 with
     |eC=>
      simp only[g1]
      split at hd
      . rename_i bc;simp only[qe,xS]at hd;obtain⟨rfl,rfl,rfl⟩:=hd;have:DE pos st.size=true:=Er bc;simp only[this,cond_true];obtain⟨k1,k2⟩:=x.set hg (ao:=.eC st (pos+(Utf8.decode st pos).2)) .eC;exact⟨_,_,rfl,Rel.jG (a:=[.bool true,.int .i64 pos,.int .i32 (Utf8.decode st pos).1]) (.cons (.v _) (.cons (.v _) (.cons (.v _) .nil))),k1,k2,λi hi=>⟨bl _ _ _ _ hi,by rw[ab.bn,if_neg hi]⟩⟩
      . rename_i bc;simp only[qe,xS]at hd;obtain⟨rfl,rfl,rfl⟩:=hd;have:DE pos st.size=false:=by
         cases hb:DE pos st.size with
         |false=>rfl
         |true=>exact absurd (VK hb) bc
        simp only[this,cond_false];exact⟨_,_,rfl,Rel.jG (a:=[.bool false]) (.cons (.v _) .nil),x,Kp.refl _ _ _,λ_ _=>by simp⟩
   . rename_i hg;obtain⟨_,ao,g1,g2⟩:=x.obj _ _ hg;cases g2 with
     |cj=>
      simp only[g1];simp only[qe,xS]at hd;obtain⟨rfl,rfl,rfl⟩:=hd;exact⟨_,_,rfl,Rel.jG (a:=[.bool false]) (.cons (.v _) .nil),x,Kp.refl _ _ _,λ_ _=>⟨rfl,rfl⟩⟩
   . rename_i m since seen last hg;obtain⟨_,ao,g1,g2⟩:=x.obj _ _ hg;cases g2 with
     |cj=>
      simp only[g1]
      split at hd
      . rename_i es clock bd;obtain⟨_,bm,g3,g4⟩:=x.obj _ _ bd;cases g4 with
        | @map res _ _ g4=>
         simp only[g3]
         split at hd
         . cases hd
         . rename_i bR;have e1:res.isEmpty=es.isEmpty:=by cases g4<;>rfl
           have e2:(res.all λx=>PX last x.born)=es.all λx=>PX last x.born:=ER (λa b aE=>by rw[aE.born]) g4;have bf:(!seen.isEmpty&& !res.isEmpty&&res.all λx=>PX last x.born)=false:=by rw[e1,e2];simpa using bR
           have f0:=uN (f:=λx=> !seen.contains x.born) (g:=λx=> !seen.contains x.born) (λa b aE=>by rw[aE.born]) g4;have f1:=uN (f:=λx=>decide (x.born<since)) (g:=λx=>decide (x.born<since)) (λa b aE=>by rw[aE.born]) f0;have f2:=uN (f:=λx=>decide (x.born>=since)) (g:=λx=>decide (x.born>=since)) (λa b aE=>by rw[aE.born]) f0;simp only[bf,cond_false]
           split at hd
           . rename_i h1 h2;rw[h1]at f1;rw[h2]at f2;simp only[qe,xS]at hd;obtain⟨rfl,rfl,rfl⟩:=hd;have z1:=f1.length;have z2:=f2.length;rw[TF z1,TF z2];exact⟨_,_,rfl,Rel.jG (a:=[.bool false]) (.cons (.v _) .nil),x,Kp.refl _ _ _,λ_ _=>⟨rfl,rfl⟩⟩
           . rename_i y h1 h2;rw[h1]at f1;rw[h2]at f2;simp only[qe,xS]at hd;obtain⟨rfl,rfl,rfl⟩:=hd;have z2:=f2.length;rw[TF z2];generalize bW:(res.filter λx=> !seen.contains x.born).filter (λx=>decide (x.born<since))=fe at f1;cases f1 with
             | @cons z _ _ _ hz hn=>
              cases hn;simp only;obtain⟨k1,k2⟩:=x.set hg (ao:=.cj (some m) since (seen++[z.born]) clock) (o:=.cj (some m) since (seen++[y.born]) clock) (by rw[hz.born];exact .cj);refine⟨_,_,rfl,Rel.jG (a:=[.bool true,z.key,z.val]) (.cons (.v _) (.cons (by rw[hz.key];exact sP _) (.cons (hz.val.mono (k2.aI x)) .nil))),k1,k2,λi hi=>⟨bl _ _ _ _ hi,by rw[ab.bn,if_neg hi]⟩⟩
           . cases hd
      . cases hd
   . cases hd
 . cases hd
theorem ES{R:Rows}{f:MapEntry->Bool}{g:bq->Bool}(aD:∀x y,iy R x y->f x=g y):∀{es:List MapEntry} {ds:List bq},aO (iy R) es ds->∀{y:bq},ds.find? g=some y->∃x,es.find? f=some x/\iy R x y
 |_,_,.nil,y,h=>by cases h
 |_,_,.cons (a:=a) (b:=b) h1 h2,y,h=>by
  simp only[List.find?_cons,aD a b h1]at h⊢
  split at h
  . cases h;exact⟨a,rfl,h1⟩
  . exact ES aD h2 h
def sQ(dh:ab):DV->Option DV
 |.v (.pointer (some ⟨r,0,none⟩))=>match dh.get r with
  |some (.cj (some m) _ seen av)=>match seen.getLast?,dh.get m with
   |some aA,some (.map es clock)=>if clock=av then(es.find? λx=>x.born==aA).map λx=>.bb [fu x.key,x.val]else none
   |_,_=>none
  |_=>none
 |_=>none
theorem QJ(x:bH G h dh){it:Value}{aQ d:DV}(hv:Rel (aI h G) it aQ)(hd:sQ dh aQ=some d):∃v,qB h it=some v/\Rel (aI h G) v d:=by
 unfold sQ at hd
 split at hd
 . rename_i r;have:=hv.cG;subst this
   split at hd
   . rename_i m s seen av hg;obtain⟨_,ao,g1,g2⟩:=x.obj _ _ hg;cases g2 with
     |cj=>
      split at hd
      . rename_i aA es clock hl bd;obtain⟨_,bm,g3,g4⟩:=x.obj _ _ bd;cases g4 with
        | @map res _ _ g4=>
         split at hd
         . rename_i hc;subst hc;rw[W9]at hd;obtain⟨y,h1,rfl⟩:=hd;obtain⟨z,h2,h3⟩:=ES (f:=λx=>x.born==aA) (λa b aE=>by rw[aE.born]) g4 h1;refine⟨.tuple #[z.key,z.val],by simp only[qB,g1,hl,g3,GP,cond_true,h2],Rel.jG (a:=[z.key,z.val]) (.cons (by rw[h3.key];exact sP _) (.cons h3.val .nil))⟩
         . cases hd
      . cases hd
   . cases hd
 . cases hd
def xn(dh:ab)(d:DV)(K:DV->ab->Nat->Prop):Prop:=∃r m since seen last es clock,d=.v (.pointer (some ⟨r,0,none⟩))/\dh.get r=some (.cj (some m) since seen last)/\dh.get m=some (.map es clock)/\(∀x∈es,x.born<since)/\since<=last/\
 ((∀x∈es,seen.contains x.born=true)->K (.bb [.v (.bool false)]) dh r)/\∀x∈es,seen.contains x.born=false->K (.bb [.v (.bool true),fu x.key,x.val]) (dh.set r (some (.cj (some m) since (seen++[x.born]) clock))) r
theorem ET{R:Rows}:∀{es:List MapEntry} {ds:List bq},aO (iy R) es ds->(∀x∈es,∃y∈ds,iy R x y)/\∀y∈ds,∃x∈es,iy R x y
 |_,_,.nil=>⟨λ_ h=>(by cases h),λ_ h=>(by cases h)⟩
 |_,_,.cons (a:=a) (b:=b) h1 h2=>by
  obtain⟨h3,h4⟩:=ET h2;refine⟨λx hx=> ?_,λy hy=> ?_⟩
  . rcases List.mem_cons.1 hx with rfl|hx
    . exact⟨b,Xw,h1⟩
    . obtain⟨y,hy,hr⟩:=h3 x hx;exact⟨y,Zj _ hy,hr⟩
  . rcases List.mem_cons.1 hy with rfl|hy
    . exact⟨a,Xw,h1⟩
    . obtain⟨x,hx,hr⟩:=h4 y hy;exact⟨x,Zj _ hx,hr⟩
theorem xn.ok(x:bH G h dh){v:Value}{d:DV}(hv:Rel (aI h G) v d){K:DV->ab->Nat->Prop}(hs:xn dh d K):
 zS h v λu h'=>∃d ad b,bH G h' ad/\Kp G h dh G h' ad/\Rel (aI h' G) u d/\(∀i,i≠b->h'.get i=h.get i/\ad.get i=dh.get i)/\K d ad b:=by
 obtain⟨r,m,since,seen,last,es,clock,rfl,hr,hm,hold,bS,h0,h1⟩:=hs;have:=hv.cG;subst this;obtain⟨_,ao,g1,g2⟩:=x.obj _ _ hr;cases g2 with
 |cj=>
  obtain⟨_,bm,g3,g4⟩:=x.obj _ _ hm;cases g4 with
  | @map res _ _ g4=>
   obtain⟨m1,m2⟩:=ET g4;refine⟨r,m,since,seen,last,res,clock,rfl,g1,g3,λz hz=> ?_,bS,λha=> ?_,λz hz bT=> ?_⟩
   . obtain⟨y,hy,aL⟩:=m1 z hz;rw[aL.born];exact hold y hy
   . exact⟨_,dh,r,x,Kp.refl _ _ _,Rel.jG (a:=[.bool false]) (.cons (.v _) .nil),λ_ _=>⟨rfl,rfl⟩,h0 λy hy=>by
      obtain⟨z,hz,aL⟩:=m2 y hy;rw[<-aL.born];exact ha z hz⟩
   . obtain⟨y,hy,aL⟩:=m1 z hz;obtain⟨k1,k2⟩:=x.set hr (ao:=.cj (some m) since (seen++[z.born]) clock) (o:=.cj (some m) since (seen++[y.born]) clock) (by rw[aL.born];exact .cj);exact⟨_,_,r,k1,k2,Rel.jG (a:=[.bool true,z.key,z.val]) (.cons (.v _) (.cons (by rw[aL.key];exact sP _) (.cons (aL.val.mono (k2.aI x)) .nil))),λi hi=>⟨bl _ _ _ _ hi,by rw[ab.bn,if_neg hi]⟩,h1 y hy (by rw[<-aL.born];exact bT)⟩
end Go.au
end

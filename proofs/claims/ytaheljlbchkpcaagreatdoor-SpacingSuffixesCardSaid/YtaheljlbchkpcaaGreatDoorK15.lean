/- SpacingSuffixes: parts of its proof (DvC). -/
import Derived.Test.YtaheljlbchkpcaaGreatDoorK14
set_option linter.unusedVariables false
set_option linter.unusedSimpArgs false
noncomputable section
namespace Go.aw
variable {e:Env} {G:Nat->Prop} {h:aa} {dh:ab} {t:Tr Value} {dt:Tr DV} {R:Rows}
theorem bM.new(x:bM G h dh){ao:bK}{o:bF}(hr:jI (aI h G) ao o):bM G (h.new ao) (dh.new o)/\Kp G h dh G (h.new ao) (dh.new o):=by
 have hm:∀i r,aI h G i=some r->aI (h.new ao) G i=some r:=jj λi hg=>⟨hg,bI _ _ _ (by have:=(x.still i hg).1;omega)⟩;refine⟨⟨x.fF.mono hm,by rw[aa.aZ,ab.aZ,x.next],λi p hp=> ?_,λi hg=> ?_⟩,⟨Nat.le_succ _,λi hi hd=> ?_,λ_ h=>h,λ_ _ h=>.inl h⟩⟩
 . rw[ab.dT]at hp;by_cases hi:i=dh.next
   . rw[if_pos hi]at hp;cases hp;subst hi;refine⟨by rw[aa.aZ,x.next];omega,ao,by rw[<-x.next];exact qT _ _,hr.mono hm⟩
   . rw[if_neg hi]at hp;obtain⟨h1,ao',h2,h3⟩:=x.obj i p hp;exact⟨by rw[aa.aZ];omega,ao',by rw[bI _ _ _ (by omega)];exact h2,h3.mono hm⟩
 . obtain⟨h1,h2⟩:=x.still i hg;exact⟨by rw[aa.aZ];omega,by rw[ab.dT,if_neg (by have:=x.next;omega)];exact h2⟩
 . exact⟨bI _ _ _ (by omega),by rw[ab.dT,if_neg (by have:=x.next;omega)];exact hd⟩
theorem bM.set(x:bM G h dh){i:Nat}{o0:bF}(hi:dh.get i=some o0){ao:bK}{o:bF}(hr:jI (aI h G) ao o):bM G (h.set i (some ao)) (dh.set i (some o))/\Kp G h dh G (h.set i (some ao)) (dh.set i (some o)):=by
 have aO:∀j,G j->j≠i:=λj hg e=>by subst e;rw[(x.still j hg).2]at hi;cases hi
 have hm:∀j r,aI h G j=some r->aI (h.set i (some ao)) G j=some r:=jj λj hg=>⟨hg,bq _ _ _ _ (aO j hg)⟩;refine⟨⟨x.fF.mono hm,by rw[aa.aS,ab.aS,x.next],λj p hp=> ?_,λj hg=> ?_⟩,⟨Nat.le_refl _,λj hj hd=> ?_,λ_ h=>h,λ_ _ h=>.inl h⟩⟩
 . rw[ab.bw]at hp;by_cases aJ:j=i
   . rw[if_pos aJ]at hp;cases hp;subst aJ;exact⟨(x.obj j o0 hi).1,ao,eD _ _ _,hr.mono hm⟩
   . rw[if_neg aJ]at hp;obtain⟨h1,ao',h2,h3⟩:=x.obj j p hp;exact⟨h1,ao',by rw[bq _ _ _ _ aJ];exact h2,h3.mono hm⟩
 . obtain⟨h1,h2⟩:=x.still j hg;exact⟨h1,by rw[ab.bw,if_neg (aO j hg)];exact h2⟩
 . have:j≠i:=λe=>by subst e;rw[hd]at hi;cases hi
   exact⟨bq _ _ _ _ this,by rw[ab.bw,if_neg this];exact hd⟩
theorem bM.kill(x:bM G h dh){i:Nat}{o0:bF}(hi:dh.get i=some o0):bM G (h.set i none) (dh.set i none)/\Kp G h dh G (h.set i none) (dh.set i none):=by
 have aO:∀j,G j->j≠i:=λj hg e=>by subst e;rw[(x.still j hg).2]at hi;cases hi
 have hm:∀j r,aI h G j=some r->aI (h.set i none) G j=some r:=jj λj hg=>⟨hg,bq _ _ _ _ (aO j hg)⟩;refine⟨⟨x.fF.mono hm,by rw[aa.aS,ab.aS,x.next],λj p hp=> ?_,λj hg=> ?_⟩,⟨Nat.le_refl _,λj hj hd=> ?_,λ_ h=>h,λ_ _ h=>.inl h⟩⟩
 . rw[ab.bw]at hp;by_cases aJ:j=i
   . rw[if_pos aJ]at hp;cases hp
   . rw[if_neg aJ]at hp;obtain⟨h1,ao',h2,h3⟩:=x.obj j p hp;exact⟨h1,ao',by rw[bq _ _ _ _ aJ];exact h2,h3.mono hm⟩
 . obtain⟨h1,h2⟩:=x.still j hg;exact⟨h1,by rw[ab.bw,if_neg (aO j hg)];exact h2⟩
 . have:j≠i:=λe=>by subst e;rw[hd]at hi;cases hi
   exact⟨bq _ _ _ _ this,by rw[ab.bw,if_neg this];exact hd⟩
def dY(e:Env)(t:Tr DV):Op->Option (bF×(Nat->DV))
 |.alloc elem=>match e.zero elem with
  |none=>none
  |some z=>some (.row (z.cells.toList.map .v) true 0,λi=>.v (.pointer (some ⟨i,0,none⟩)))
 |.box _ x=>match aB e t x with
  |none=>none
  |some d=>if(cE d).all di=true then some (.row (cE d) true 0,λi=>.v (.pointer (some ⟨i,0,none⟩)))else none
 |.buildSlice st len parts=>match e.under st,fY e t parts.toList with
  |some (.slice elem),some ps=>match e.size elem,e.zero elem with
   |some s,some z=>if len*s<=16777216/\z.cells.toList.length=s/\0<s then
    match ko (λi=>some (i*s,s)) ((fu z.cells.toList (len*s)).map .v) ps with
    |none=>none
    |some cs=>some (.row cs true 0,λi=>.v (.slice (some ⟨i,0,none⟩) len len))
    else none
   |_,_=>none
  |_,_=>none
 |.makeMap _ none=>some (.map [] 0,λi=>.v (.map (some i)))
 |.makeSlice st l c=>match e.under st,(aB e t l).bind exact,(aB e t c).bind exact with
  |some (.slice elem),some (.int .i64 l),some (.int .i64 c)=>match e.size elem,e.zero elem,e.bytes elem with
   |some s,some z,some b=>if 0<=l/\l<=c/\c<=1099511627776/\b*c.toNat<=1099511627776/\z.cells.toList.length=s/\0<s then
    some (.row ((fu z.cells.toList (c.toNat*s)).map .v) true 0,λi=>.v (.slice (some ⟨i,0,none⟩) l.toNat c.toNat))
    else none
   |_,_,_=>none
  |_,_,_=>none
 |_=>none
theorem Gd(ht:TD R t dt){o:Operand}{v:Value}(hd:(aB e dt o).bind exact=some v):au e t o=some v:=by
 obtain⟨d,h1,h2⟩:=Option.bind_eq_some_iff.1 hd;obtain⟨u,h3,h4⟩:=fx ht h1;rw[h3,pX h4 h2]
theorem Ge(ht:TD R t dt){op:Op}{o:bF}{f:Nat->DV}(hd:dY e dt op=some (o,f)):∃ao af,cU e t op=some (ao,af)/\jI R ao o/\∀(R':Rows) (i:Nat),Rel R' (af i) (f i):=by
 unfold dY at hd;unfold cU
 split at hd
 . split at hd
   . cases hd
   . rename_i elem z hz;simp only[Option.some.injEq,Prod.mk.injEq]at hd;obtain⟨rfl,rfl⟩:=hd;simp only[hz];exact⟨_,_,rfl,.row (uJ _),λ_ i=>.v _⟩
 . split at hd
   . cases hd
   . rename_i ty x d hx;obtain⟨v,h1,h2⟩:=fx ht hx
     split at hd
     . rename_i hc;simp only[Option.some.injEq,Prod.mk.injEq]at hd;obtain⟨rfl,rfl⟩:=hd;simp only[h1];exact⟨_,_,rfl,.row (BC h2 (BL hc)),λ_ i=>.v _⟩
     . cases hd
 . rename_i st len parts
   split at hd
   . rename_i elem ps hu hp;obtain⟨vs,h1,h2⟩:=BE ht hp;simp only[hu,h1]
     split at hd
     . rename_i s z hs hz
       split at hd
       . rename_i hc
         split at hd
         . cases hd
         . rename_i cs hf;simp only[Option.some.injEq,Prod.mk.injEq]at hd;obtain⟨rfl,rfl⟩:=hd;obtain⟨cs',h3,h4⟩:=yO h2 (uJ _) hf;have hb:Nat.blt 0 s=true:=Nat.ble_eq_true_of_le hc.2.2;simp only[hs,hz,Nat.ble_eq_true_of_le hc.1,hc.2.1,Nat.beq_refl,hb,Bool.and_self,cond_true,h3];exact⟨_,_,rfl,.row h4,λ_ i=>.v _⟩
       . cases hd
     . cases hd
   . cases hd
 . simp only[Option.some.injEq,Prod.mk.injEq]at hd;obtain⟨rfl,rfl⟩:=hd;exact⟨_,_,rfl,.map .nil,λ_ i=>.v _⟩
 . split at hd
   . rename_i st lo co elem l c hu hl hc;simp only[hu,Gd ht hl,Gd ht hc,Option.bind_some,pz]
     split at hd
     . rename_i s z b hs hz hb
       split at hd
       . rename_i bo;simp only[Option.some.injEq,Prod.mk.injEq]at hd;obtain⟨rfl,rfl⟩:=hd;obtain⟨c1,c2,c3,c4,c5,c6⟩:=bo;have aQ:Nat.blt 0 s=true:=Nat.ble_eq_true_of_le c6;simp only[hs,hz,hb,c1,c2,c3,decide_true,Nat.ble_eq_true_of_le c4,c5,Nat.beq_refl,aQ,Bool.and_self,cond_true];exact⟨_,_,rfl,.row (uJ _),λ_ i=>.v _⟩
       . cases hd
     . cases hd
   . cases hd
 . cases hd
def ma(e:Env)(dh:ab)(ty:TypeId):Option DV->Option DV->Option (ab×Nat)
 |some (.v (.pointer (some ⟨b,o,none⟩))),some d=>match dh.get b,e.size ty with
  |some (.row cs true ah),some n=>if(cE d).length=n/\0<n/\o+n<=cs.length/\(cE d).all di=true then some (dh.set b (some (.row (cs.take o++cE d++cs.drop (o+n)) true ah)),b)else none
  |_,_=>none
 |_,_=>none
theorem RW(x:bM G h dh){ty:TypeId}{p v:Option Value}{dp d:Option DV}{ad:ab}{b:Nat}(hp:∀d,dp=some d->∃u,p=some u/\Rel (aI h G) u d)(hv:∀c,d=some c->∃u,v=some u/\Rel (aI h G) u c)
 (hd:ma e dh ty dp d=some (ad,b)):∃h',qP e h ty p v=some h'/\bM G h' ad/\Kp G h dh G h' ad/\∀i,i≠b->h'.get i=h.get i/\ad.get i=dh.get i:=by
 unfold ma at hd
 split at hd
 . rename_i b' o d;obtain⟨u,rfl,h1⟩:=hp _ rfl;obtain⟨w,rfl,h2⟩:=hv _ rfl;have:=h1.cW;subst this
   split at hd
   . rename_i cs ah n hg hs
     split at hd
     . rename_i hc;obtain⟨c1,c2,c3,c4⟩:=hc;simp only[Option.some.injEq,Prod.mk.injEq]at hd;obtain⟨rfl,rfl⟩:=hd;obtain⟨_,ao,g1,g2⟩:=x.obj _ _ hg;cases g2 with
       | @row ai _ _ _ g2=>
        have aU:=BC h2 (BL c4);have e1:w.cells.toList.length=n:=by rw[aU.length];exact c1
        have hw:ox h b' o w.cells.toList=some (h.set b' (some (.row (eo ai o w.cells.toList) true ah))):=FA g1 (by rw[e1,g2.length];exact c3) (yL aU c4);refine⟨_,by rw[FH hs e1 c2,hw], ?_⟩;have:jI (aI h G) (.row (eo ai o w.cells.toList) true ah) (.row (cs.take o++cE d++cs.drop (o+n)) true ah):=by
         refine .row ?_;unfold eo;rw[e1];exact aP.append (aP.append (aP.take g2 _) aU) (aP.drop g2 _)
        obtain⟨k1,k2⟩:=x.set hg this;exact⟨k1,k2,λi hi=>⟨bq _ _ _ _ hi,by rw[ab.bw,if_neg hi]⟩⟩
     . cases hd
   . cases hd
 . cases hd
def nu(P:Program)(kt:TypeId)(k:Value):List bA->Nat->Option (Option Nat)
 |[],_=>some none
 |x::es,i=>match kI P kt k x.key with
  |none=>none
  |some true=>some (some i)
  |some false=>nu P kt k es (i+1)
theorem BM{P:Program}{kt:TypeId}{k:Value}:∀{es:List MapEntry} {ds:List bA} {r:Option Nat} (i:Nat),aP (ji R) es ds->nu P kt k ds i=some r->∃r',gB P kt k es i=some r'/\r'.map (·.1)=r
 |[],[],r,i,.nil,h=>by simp only[nu,Option.some.injEq]at h;subst h;exact⟨none,rfl,rfl⟩
 |x::es,y::ds,r,i,.cons h1 h2,h=>by
  simp only[nu]at h;simp only[gB,h1.key]
  split at h
  . cases h
  . rename_i hk;cases h;exact⟨_,by rw[hk],rfl⟩
  . rename_i hk;simp only[hk];exact BM (i+1) h2 h
def kT(e:Env)(ty:TypeId)(k:Value)(d:DV)(es:List bA)(clock:Nat):Option bF:=
 match e.under ty with
 |some (.map kt _)=>match e.under kt with
  |none=>none
  |some kd=>if plain k=true/\oe kd k=true/\(bY e.P (Instr.checkKey false 10000 kt k)).isSome=true then match nu e.P kt k es 0 with
   |none=>none
   |some (some i)=>if Instr.sameBits 10000 (((es[i]?).map (·.key)).getD k) k=true then some (.map (es.modify i λx=>{x with key:=k,val:=d}) clock)else none
   |some none=>some (.map (es++[⟨k,d,clock⟩]) (clock+1))
  else none
 |_=>none
theorem Gf{k:Value}{v:Value}{d:DV}(hv:Rel R v d):∀{es:List MapEntry} {ds:List bA} (i:Nat),aP (ji R) es ds->aP (ji R) (es.modify i λx=>{x with key:=k,val:=v}) (ds.modify i λx=>{x with key:=k,val:=d})
 |_,_,i,.nil=>by cases i<;>exact .nil
 |_,_,0,.cons h1 h2=>.cons ⟨rfl,hv,h1.born⟩ h2
 |_,_,i+1,.cons h1 h2=>.cons h1 (Gf hv i h2)
theorem RX{ty:TypeId}{k v:Value}{d:DV}{es:List MapEntry}{ds:List bA}{clock:Nat}{o:bF}(hr:aP (ji R) es ds)(hv:Rel R v d)(hd:kT e ty k d ds clock=some o):∃ao,oC e ty k v es clock=some ao/\jI R ao o:=by
 unfold kT at hd;unfold oC
 split at hd
 . rename_i kt et hu;simp only[hu]
   split at hd
   . cases hd
   . rename_i kd hk;simp only[hk]
     split at hd
     . rename_i hc;obtain⟨c1,c2,c3⟩:=hc;obtain⟨u,bs⟩:=Option.isSome_iff_exists.1 c3;simp only[c1,c2,Bool.and_self,cond_true,bs]
       split at hd
       . cases hd
       . rename_i i hp;obtain⟨r',h1,h2⟩:=BM 0 hr hp;cases r' with
         |none=>cases h2
         |some q=>
          obtain⟨j,w⟩:=q;cases h2;simp only[h1]
          split at hd
          . rename_i hb;cases hd;have aV:(es[j]?).map (·.key)=(ds[j]?).map (·.key):=by
             cases hj:es[j]? with
             |none=>
              have:ds.length<=j:=by rw[<-hr.length];exact List.getElem?_eq_none_iff.1 hj
              rw[List.getElem?_eq_none_iff.2 this];rfl
             |some q=>
              obtain⟨q',h3,h4⟩:=hr.get j q hj;rw[h3];simp[h4.key]
            rw[<-aV]at hb;simp only[hb,cond_true];exact⟨_,rfl,.map (Gf hv j hr)⟩
          . cases hd
       . rename_i hp;obtain⟨r',h1,h2⟩:=BM 0 hr hp;cases r' with
         |some q=>cases h2
         |none=>
          cases hd;simp only[h1];exact⟨_,rfl,.map (aP.append hr (.cons ⟨rfl,hv,rfl⟩ .nil))⟩
     . cases hd
 . cases hd
def jL(e:Env)(dh:ab)(ty:TypeId):Option DV->Option DV->Option DV->Option (ab×Nat)
 |some (.v (.map (some r))),some k,some d=>match dh.get r,exact k with
  |some (.map es clock),some k=>(kT e ty k d es clock).map λo=>(dh.set r (some o),r)
  |_,_=>none
 |_,_,_=>none
theorem Gg(x:bM G h dh){ty:TypeId}{m k v:Option Value}{dm dk dv:Option DV}{ad:ab}{b:Nat}(hm:∀d,dm=some d->∃u,m=some u/\Rel (aI h G) u d)(hk:∀d,dk=some d->∃u,k=some u/\Rel (aI h G) u d)(hv:∀d,dv=some d->∃u,v=some u/\Rel (aI h G) u d)
 (hd:jL e dh ty dm dk dv=some (ad,b)):∃h',pU e h ty m k v=some h'/\bM G h' ad/\Kp G h dh G h' ad/\∀i,i≠b->h'.get i=h.get i/\ad.get i=dh.get i:=by
 unfold jL at hd
 split at hd
 . rename_i r k' d;obtain⟨u,rfl,h1⟩:=hm _ rfl;obtain⟨w,rfl,h2⟩:=hk _ rfl;obtain⟨z,rfl,h3⟩:=hv _ rfl;have:=h1.cW;subst this
   split at hd
   . rename_i es clock kv hg bt;simp only[Option.map_eq_some_iff]at hd;obtain⟨o,h4,h5⟩:=hd;simp only[Prod.mk.injEq]at h5;obtain⟨rfl,rfl⟩:=h5;obtain⟨_,ao,g1,g2⟩:=x.obj _ _ hg;cases g2 with
     | @map res _ _ g2=>
      have:=pX h2 bt;subst this;obtain⟨ao',q1,q2⟩:=RX g2 h3 h4;obtain⟨k1,k2⟩:=x.set hg q2;exact⟨_,by rw[FQ,g1,FR,q1];rfl,k1,k2,λi hi=>⟨bq _ _ _ _ hi,by rw[ab.bw,if_neg hi]⟩⟩
   . cases hd
 . cases hd
def Env.ap(e:Env)(st:TypeId):Option (Nat×Nat):=
 match e.under st with
 |some (.slice el)=>match e.size el,e.zero el,e.bytes el with
  |some s,some z,some b=>if 0<s/\z.cells.toList.length=s then some (s,b)else none
  |_,_,_=>none
 |_=>none
def eW(dh:ab)(base:Option Addr)(len cap sz b n:Nat)(new:List DV):Option (DV×ab×List Nat):=
 if len+n<=cap then(if n=0 then some (.v (.slice base (len+n) cap),dh,[])else match base with
  |some ⟨i,o,none⟩=>match dh.get i with
   |some (.row cs true ah)=>if o+len*sz+new.length<=cs.length/\new.all di=true then some (.v (.slice base (len+n) cap),dh.set i (some (.row (cs.take (o+len*sz)++new++cs.drop (o+len*sz+new.length)) true ah)),[i])else none
   |_=>none
  |_=>none)
 else if(len+n)*(b+1)<=1073741824 then match base with
  |none=>if len=0/\cap=0 then some (.v (.slice (some ⟨dh.next,0,none⟩) (len+n) (len+n)),dh.new (.row new true sz),[])else none
  |some ⟨i,o,none⟩=>match dh.get i with
   |some (.row cs wr ah)=>if o+len*sz<=cs.length then
    (if ah=0\/(ah=sz/\o+cap*sz<cs.length)then some (.v (.slice (some ⟨dh.next,0,none⟩) (len+n) (len+n)),dh.new (.row ((cs.drop o).take (len*sz)++new) true sz),[])
    else if wr=true/\ah=sz/\new.all di=true then some (.v (.slice (some ⟨dh.next,0,none⟩) (len+n) (len+n)),(dh.set i none).new (.row ((cs.drop o).take (len*sz)++new) true sz),[i])else none)else none
   |_=>none
  |_=>none
 else none
def kU(e:Env)(dh:ab)(aR:Array TypeId):Option (List DV)->Option (DV×ab×List Nat)
 |some [.v (.slice base len cap),x]=>match aR[0]?,aR[1]? with
  |some st,some xt=>match e.ap st,e.elem xt with
   |some (sz,b),some _=>match gu dh sz x with
    |some (n,new)=>eW dh base len cap sz b n new
    |none=>none
   |_,_=>none
  |_,_=>none
 |_=>none
theorem RY(x:bM G h dh){base:Option Addr}{len cap sz b n:Nat}{new:List DV}{ae:List Value}(hr:cw (aI h G) ae new)(hl:ae.length=n*sz)(hs:0<sz){d:DV}{ad:ab}{T:List Nat}(hd:eW dh base len cap sz b n new=some (d,ad,T)):
 ∃v h',qE h base len cap sz b n ae=some (v,h')/\Rel (aI h' G) v d/\bM G h' ad/\Kp G h dh G h' ad/\∀i,i<h.next->i∉T->h'.get i=h.get i/\ad.get i=dh.get i:=by
 unfold eW at hd;unfold qE
 split at hd
 . rename_i hle;simp only[Nat.ble_eq_true_of_le hle,cond_true]
   split at hd
   . rename_i hn;subst hn;simp only[Option.some.injEq,Prod.mk.injEq]at hd;obtain⟨rfl,rfl,rfl⟩:=hd;have:ae=[]:=List.eq_nil_of_length_eq_zero (by simpa using hl);subst this;cases base with
     |none=>exact⟨_,_,rfl,.v _,x,Kp.refl _ _ _,λ_ _ _=>⟨rfl,rfl⟩⟩
     |some a=>exact⟨_,_,rfl,.v _,x,Kp.refl _ _ _,λ_ _ _=>⟨rfl,rfl⟩⟩
   . rename_i hn
     split at hd
     . rename_i i o
       split at hd
       . rename_i cs ah hg
         split at hd
         . rename_i hc;simp only[Option.some.injEq,Prod.mk.injEq]at hd;obtain⟨rfl,rfl,rfl⟩:=hd;obtain⟨_,ao,g1,g2⟩:=x.obj _ _ hg;cases g2 with
           | @row ai _ _ _ g2=>
            have aX:=yL hr hc.2;have hlen:o+len*sz+ae.length<=ai.length:=by rw[hr.length,g2.length];exact hc.1
            have bu:0<n*sz:=Nat.mul_pos (by omega) hs;have bx:ae≠[]:=λe=>by subst e;simp only[List.length_nil]at hl;omega
            have hw:mv h (Addr.add ⟨i,o,none⟩ (len*sz)) ae=some (h.set i (some (.row (eo ai (o+len*sz) ae) true ah))):=by
             rw[sR];cases bk:ae with
             |nil=>exact absurd bk bx
             |cons u us=>rw[Fy,<-bk];exact FA g1 hlen aX
            simp only[hw];have:jI (aI h G) (.row (eo ai (o+len*sz) ae) true ah) (.row (cs.take (o+len*sz)++new++cs.drop (o+len*sz+new.length)) true ah):=by
             refine .row ?_;unfold eo;rw[hr.length];exact aP.append (aP.append (aP.take g2 _) hr) (aP.drop g2 _)
            obtain⟨k1,k2⟩:=x.set hg this;exact⟨_,_,rfl,.v _,k1,k2,λj _ hj=>⟨bq _ _ _ _ (by simpa using hj),by rw[ab.bw,if_neg (by simpa using hj)]⟩⟩
         . cases hd
       . cases hd
     . cases hd
 . rename_i hle;have bz:Nat.ble (len+n) cap=false:=by
    cases hb:Nat.ble (len+n) cap with
    |false=>rfl
    |true=>exact absurd (Nat.le_of_ble_eq_true hb) hle
   split at hd
   . rename_i hb;simp only[bz,cond_false,Nat.ble_eq_true_of_le hb,cond_true]
     split at hd
     . split at hd
       . rename_i hc;obtain⟨rfl,rfl⟩:=hc;simp only[Option.some.injEq,Prod.mk.injEq]at hd;obtain⟨rfl,rfl,rfl⟩:=hd;simp only[Nat.beq_refl,Bool.and_self,cond_true];obtain⟨k1,k2⟩:=x.new (ao:=.row ae true sz) (.row hr);exact⟨_,_,rfl,by rw[x.next];exact .v _,k1,k2,λi hi _=>⟨bI _ _ _ (by omega),by rw[ab.dT,if_neg (by have:=x.next;omega)]⟩⟩
       . cases hd
     . rename_i i o
       split at hd
       . rename_i cs wr ah hg
         split at hd
         . rename_i hlen;obtain⟨_,ao,g1,g2⟩:=x.obj _ _ hg;cases g2 with
           | @row ai _ _ _ g2=>
            have bB:((ai.drop o).take (len*sz)).length=len*sz:=by rw[List.length_take,List.length_drop,g2.length];omega
            have bD:gm h ⟨i,o,none⟩ (len*sz)=some ((ai.drop o).take (len*sz)):=by simp only[gm,g1,bB,Nat.beq_refl,cond_true]
            simp only[bD,g1]
            split at hd
            . rename_i hc;simp only[Option.some.injEq,Prod.mk.injEq]at hd;obtain⟨rfl,rfl,rfl⟩:=hd;have ay:(Nat.beq ah 0||(Nat.beq ah sz&&Nat.blt (o+cap*sz) ai.length))=true:=by
               rcases hc with hc|⟨bG,aY⟩
               . simp[hc]
               . have:Nat.blt (o+cap*sz) ai.length=true:=Nat.ble_eq_true_of_le (by rw[g2.length];exact aY);simp[bG,this]
              simp only[ay,cond_true];obtain⟨k1,k2⟩:=x.new (ao:=.row ((ai.drop o).take (len*sz)++ae) true sz) (.row (aP.append (wK g2 o _) hr));exact⟨_,_,rfl,by rw[x.next];exact .v _,k1,k2,λi hi _=>⟨bI _ _ _ (by omega),by rw[ab.dT,if_neg (by have:=x.next;omega)]⟩⟩
            . rename_i hc
              split at hd
              . rename_i aY;obtain⟨rfl,rfl,bH⟩:=aY;simp only[Option.some.injEq,Prod.mk.injEq]at hd;obtain⟨rfl,rfl,rfl⟩:=hd;have ay:(Nat.beq ah 0||(true&&Nat.blt (o+cap*ah) ai.length))=false:=by
                 have h1:Nat.beq ah 0=false:=by
                  cases aQ:Nat.beq ah 0 with
                  |false=>rfl
                  |true=>exact absurd (.inl (Nat.eq_of_beq_eq_true aQ)) hc
                 have h2:Nat.blt (o+cap*ah) ai.length=false:=by
                  cases aQ:Nat.blt (o+cap*ah) ai.length with
                  |false=>rfl
                  |true=>exact absurd (.inr ⟨rfl,by rw[<-g2.length];exact Nat.le_of_ble_eq_true aQ⟩) hc
                 simp[h1,h2]
                simp only[ay,cond_false,Nat.beq_refl,yL hr bH,Bool.and_self,cond_true];obtain⟨k1,k2⟩:=x.kill hg;have hm:∀j r,aI h G j=some r->aI (h.set i none) G j=some r:=k2.aI x;obtain⟨k3,k4⟩:=k1.new (ao:=.row ((ai.drop o).take (len*ah)++ae) true ah) (.row ((aP.append (wK g2 o _) hr).mono λ_ _=>Rel.mono hm));refine⟨_,_,rfl, ?_,k3,k2.trans k4,λj hj bl=> ?_⟩
                . rw[x.next];exact .v _
                . exact⟨by rw[bI _ _ _ (by rw[aa.aS];omega),bq _ _ _ _ (by simpa using bl)],by rw[ab.dT,if_neg (by rw[ab.aS];have:=x.next;omega),ab.bw,if_neg (by simpa using bl)]⟩
              . cases hd
         . cases hd
       . cases hd
     . cases hd
   . cases hd
theorem RZ(x:bM G h dh){aR:Array TypeId}{args:Option (List Value)}{aL:Option (List DV)}(ha:∀l,aL=some l->∃vs,args=some vs/\cw (aI h G) vs l){d:DV}{ad:ab}{T:List Nat}(hd:kU e dh aR aL=some (d,ad,T)):
 ∃v h',uD e h aR args=some (v,h')/\Rel (aI h' G) v d/\bM G h' ad/\Kp G h dh G h' ad/\∀i,i<h.next->i∉T->h'.get i=h.get i/\ad.get i=dh.get i:=by
 unfold kU at hd
 split at hd
 . rename_i base len cap y;obtain⟨vs,rfl,h1⟩:=ha _ rfl;cases h1 with
   | @cons v0 _ bX _ h1 h2=>
    cases h2 with
    | @cons v1 _ bL _ h2 h3=>
     cases h3;have:=h1.cW;subst this
     split at hd
     . rename_i st xt bN bO
       split at hd
       . rename_i sz b ss aD bP
         split at hd
         . rename_i n new bb;unfold Env.ap at aD
           split at aD
           . rename_i el hu
             split at aD
             . rename_i s z b' h4 h5 h6
               split at aD
               . rename_i hc;simp only[Option.some.injEq,Prod.mk.injEq]at aD;obtain⟨rfl,rfl⟩:=aD;obtain⟨bQ,bR,_⟩:=F6 bP;obtain⟨xb,xc,ae,rfl,q1,q2,q3⟩:=Gb x h2 bb;obtain⟨v,h',k1,k2,k3,k4,k5⟩:=RY x q2 q3 hc.1 hd;refine⟨v,h', ?_,k2,k3,k4,k5⟩;have hb:Nat.blt 0 s=true:=Nat.ble_eq_true_of_le hc.1;have hi:pA (.slice bQ)=false:=rfl;simp only[uD,og,bN,bO,hu,bR,h4,h5,h6,hi,ue,cond_false,qD,uf,q1,hb,hc.2,q3,Nat.beq_refl,Bool.and_self,cond_true];exact k1
               . cases aD
             . cases aD
           . cases aD
         . cases hd
       . cases hd
     . cases hd
 . cases hd
def mb(e:Env)(dh:ab)(ty:TypeId)(x:DV):Option bF:=match x,e.under ty with
 |.v (.string s),some .string=>some (.e8 s 0)
 |.v (.map none),some (.map _ _)=>some (.cD none 0 [] 0)
 |.v (.map (some m)),some (.map _ _)=>match dh.get m with
  |some (.map _ clock)=>some (.cD (some m) clock [] clock)
  |_=>none
 |_,_=>none
theorem R0(x:bM G h dh){ty:TypeId}{v:Value}{d:DV}{o:bF}(hv:Rel (aI h G) v d)(hd:mb e dh ty d=some o):∃ao,wC e h ty v=some ao/\jI (aI h G) ao o:=by
 unfold mb at hd;unfold wC
 split at hd
 . rename_i hu;have:=hv.cW;subst this;cases hd;exact⟨_,by simp only[hu],.e8⟩
 . rename_i hu;have:=hv.cW;subst this;cases hd;exact⟨_,by simp only[hu],.cD⟩
 . rename_i m _ _ hu;have:=hv.cW;subst this
   split at hd
   . rename_i es clock hg;cases hd;obtain⟨_,ao,g1,g2⟩:=x.obj _ _ hg;cases g2 with
     |map g2=>exact⟨_,by simp only[hu,g1],.cD⟩
   . cases hd
 . cases hd
def kV(dh:ab)(it:DV)(isString:Bool):Option (DV×ab×Nat):=
 match it with
 |.v (.pointer (some ⟨r,0,none⟩))=>match dh.get r,isString with
  |some (.e8 s pos),true=>if pos<s.size then some (.bg [.v (.bool true),.v (.int .i64 pos),.v (.int .i32 (Utf8.decode s pos).1)],dh.set r (some (.e8 s (pos+(Utf8.decode s pos).2))),r)else some (.bg [.v (.bool false)],dh,r)
  |some (.cD none _ _ _),false=>some (.bg [.v (.bool false)],dh,r)
  |some (.cD (some m) since seen last),false=>match dh.get m with
   |some (.map es clock)=>
    if(!seen.isEmpty&& !es.isEmpty&&es.all λx=>Nat.ble last x.born)=true then none else
    match(es.filter λx=> !seen.contains x.born).filter λx=>decide (x.born<since),(es.filter λx=> !seen.contains x.born).filter λx=>decide (x.born>=since)with
    |[],[]=>some (.bg [.v (.bool false)],dh,r)
    |[x],[]=>some (.bg [.v (.bool true),fX x.key,x.val],dh.set r (some (.cD (some m) since (seen++[x.born]) clock)),r)
    |_,_=>none
   |_=>none
  |_,_=>none
 |_=>none
theorem wL{f:MapEntry->Bool}{g:bA->Bool}(aE:∀x y,ji R x y->f x=g y):∀{es:List MapEntry} {ds:List bA},aP (ji R) es ds->aP (ji R) (es.filter f) (ds.filter g)
 |_,_,.nil=>.nil
 |_,_,.cons (a:=x) (b:=y) h1 h2=>by
  simp only[List.filter_cons,aE x y h1]
  split
  . exact .cons h1 (wL aE h2)
  . exact wL aE h2
theorem Gh{f:MapEntry->Bool}{g:bA->Bool}(aE:∀x y,ji R x y->f x=g y):∀{es:List MapEntry} {ds:List bA},aP (ji R) es ds->es.all f=ds.all g
 |_,_,.nil=>rfl
 |_,_,.cons (a:=x) (b:=y) h1 h2=>by simp only[List.all_cons,aE x y h1,Gh aE h2]
theorem R3(x:bM G h dh){it:Value}{aT d:DV}{s:Bool}{ad:ab}{b:Nat}(hv:Rel (aI h G) it aT)(hd:kV dh aT s=some (d,ad,b)):∃v h',qF h it s=some (v,h')/\Rel (aI h' G) v d/\bM G h' ad/\Kp G h dh G h' ad/\∀i,i≠b->h'.get i=h.get i/\ad.get i=dh.get i:=by
 unfold kV at hd;unfold qF
 split at hd
 . rename_i r;have:=hv.cW;subst this
   split at hd
   . rename_i st pos hg;obtain⟨_,ao,g1,g2⟩:=x.obj _ _ hg;cases g2 with
     |e8=>
      simp only[g1]
      split at hd
      . rename_i bc;simp only[Option.some.injEq,Prod.mk.injEq]at hd;obtain⟨rfl,rfl,rfl⟩:=hd;have:Nat.blt pos st.size=true:=Nat.ble_eq_true_of_le bc;simp only[this,cond_true];obtain⟨k1,k2⟩:=x.set hg (ao:=.e8 st (pos+(Utf8.decode st pos).2)) .e8;exact⟨_,_,rfl,Rel.ki (a:=[.bool true,.int .i64 pos,.int .i32 (Utf8.decode st pos).1]) (.cons (.v _) (.cons (.v _) (.cons (.v _) .nil))),k1,k2,λi hi=>⟨bq _ _ _ _ hi,by rw[ab.bw,if_neg hi]⟩⟩
      . rename_i bc;simp only[Option.some.injEq,Prod.mk.injEq]at hd;obtain⟨rfl,rfl,rfl⟩:=hd;have:Nat.blt pos st.size=false:=by
         cases hb:Nat.blt pos st.size with
         |false=>rfl
         |true=>exact absurd (Nat.le_of_ble_eq_true hb) bc
        simp only[this,cond_false];exact⟨_,_,rfl,Rel.ki (a:=[.bool false]) (.cons (.v _) .nil),x,Kp.refl _ _ _,λ_ _=>by simp⟩
   . rename_i hg;obtain⟨_,ao,g1,g2⟩:=x.obj _ _ hg;cases g2 with
     |cD=>
      simp only[g1];simp only[Option.some.injEq,Prod.mk.injEq]at hd;obtain⟨rfl,rfl,rfl⟩:=hd;exact⟨_,_,rfl,Rel.ki (a:=[.bool false]) (.cons (.v _) .nil),x,Kp.refl _ _ _,λ_ _=>⟨rfl,rfl⟩⟩
   . rename_i m since seen last hg;obtain⟨_,ao,g1,g2⟩:=x.obj _ _ hg;cases g2 with
     |cD=>
      simp only[g1]
      split at hd
      . rename_i es clock bf;obtain⟨_,bn,g3,g4⟩:=x.obj _ _ bf;cases g4 with
        | @map res _ _ g4=>
         simp only[g3]
         split at hd
         . cases hd
         . rename_i bT;have e1:res.isEmpty=es.isEmpty:=by cases g4<;>rfl
           have e2:(res.all λx=>Nat.ble last x.born)=es.all λx=>Nat.ble last x.born:=Gh (λa b aF=>by rw[aF.born]) g4;have bj:(!seen.isEmpty&& !res.isEmpty&&res.all λx=>Nat.ble last x.born)=false:=by rw[e1,e2];simpa using bT
           have f0:=wL (f:=λx=> !seen.contains x.born) (g:=λx=> !seen.contains x.born) (λa b aF=>by rw[aF.born]) g4;have f1:=wL (f:=λx=>decide (x.born<since)) (g:=λx=>decide (x.born<since)) (λa b aF=>by rw[aF.born]) f0;have f2:=wL (f:=λx=>decide (x.born>=since)) (g:=λx=>decide (x.born>=since)) (λa b aF=>by rw[aF.born]) f0;simp only[bj,cond_false]
           split at hd
           . rename_i h1 h2;rw[h1]at f1;rw[h2]at f2;simp only[Option.some.injEq,Prod.mk.injEq]at hd;obtain⟨rfl,rfl,rfl⟩:=hd;have z1:=f1.length;have z2:=f2.length;rw[List.eq_nil_of_length_eq_zero z1,List.eq_nil_of_length_eq_zero z2];exact⟨_,_,rfl,Rel.ki (a:=[.bool false]) (.cons (.v _) .nil),x,Kp.refl _ _ _,λ_ _=>⟨rfl,rfl⟩⟩
           . rename_i y h1 h2;rw[h1]at f1;rw[h2]at f2;simp only[Option.some.injEq,Prod.mk.injEq]at hd;obtain⟨rfl,rfl,rfl⟩:=hd;have z2:=f2.length;rw[List.eq_nil_of_length_eq_zero z2];generalize bZ:(res.filter λx=> !seen.contains x.born).filter (λx=>decide (x.born<since))=fe at f1;cases f1 with
             | @cons z _ _ _ hz hn=>
              cases hn;simp only;obtain⟨k1,k2⟩:=x.set hg (ao:=.cD (some m) since (seen++[z.born]) clock) (o:=.cD (some m) since (seen++[y.born]) clock) (by rw[hz.born];exact .cD);refine⟨_,_,rfl,Rel.ki (a:=[.bool true,z.key,z.val]) (.cons (.v _) (.cons (by rw[hz.key];exact uK _) (.cons (hz.val.mono (k2.aI x)) .nil))),k1,k2,λi hi=>⟨bq _ _ _ _ hi,by rw[ab.bw,if_neg hi]⟩⟩
           . cases hd
      . cases hd
   . cases hd
 . cases hd
theorem Gi{R:Rows}{f:MapEntry->Bool}{g:bA->Bool}(aE:∀x y,ji R x y->f x=g y):∀{es:List MapEntry} {ds:List bA},aP (ji R) es ds->∀{y:bA},ds.find? g=some y->∃x,es.find? f=some x/\ji R x y
 |_,_,.nil,y,h=>by cases h
 |_,_,.cons (a:=a) (b:=b) h1 h2,y,h=>by
  simp only[List.find?_cons,aE a b h1]at h⊢
  split at h
  . cases h;exact⟨a,rfl,h1⟩
  . exact Gi aE h2 h
def uL(dh:ab):DV->Option DV
 |.v (.pointer (some ⟨r,0,none⟩))=>match dh.get r with
  |some (.cD (some m) _ seen av)=>match seen.getLast?,dh.get m with
   |some az,some (.map es clock)=>if clock=av then(es.find? λx=>x.born==az).map λx=>.bg [fX x.key,x.val]else none
   |_,_=>none
  |_=>none
 |_=>none
theorem R4(x:bM G h dh){it:Value}{aT d:DV}(hv:Rel (aI h G) it aT)(hd:uL dh aT=some d):∃v,sg h it=some v/\Rel (aI h G) v d:=by
 unfold uL at hd
 split at hd
 . rename_i r;have:=hv.cW;subst this
   split at hd
   . rename_i m s seen av hg;obtain⟨_,ao,g1,g2⟩:=x.obj _ _ hg;cases g2 with
     |cD=>
      split at hd
      . rename_i az es clock hl bf;obtain⟨_,bn,g3,g4⟩:=x.obj _ _ bf;cases g4 with
        | @map res _ _ g4=>
         split at hd
         . rename_i hc;subst hc;rw[Option.map_eq_some_iff]at hd;obtain⟨y,h1,rfl⟩:=hd;obtain⟨z,h2,h3⟩:=Gi (f:=λx=>x.born==az) (λa b aF=>by rw[aF.born]) g4 h1;refine⟨.tuple #[z.key,z.val],by simp only[sg,g1,hl,g3,Nat.beq_refl,cond_true,h2],Rel.ki (a:=[z.key,z.val]) (.cons (by rw[h3.key];exact uK _) (.cons h3.val .nil))⟩
         . cases hd
      . cases hd
   . cases hd
 . cases hd
def yR(dh:ab)(d:DV)(K:DV->ab->Nat->Prop):Prop:=∃r m since seen last es clock,d=.v (.pointer (some ⟨r,0,none⟩))/\dh.get r=some (.cD (some m) since seen last)/\dh.get m=some (.map es clock)/\(∀x∈es,x.born<since)/\since<=last/\
 ((∀x∈es,seen.contains x.born=true)->K (.bg [.v (.bool false)]) dh r)/\∀x∈es,seen.contains x.born=false->K (.bg [.v (.bool true),fX x.key,x.val]) (dh.set r (some (.cD (some m) since (seen++[x.born]) clock))) r
theorem Gj{R:Rows}:∀{es:List MapEntry} {ds:List bA},aP (ji R) es ds->(∀x∈es,∃y∈ds,ji R x y)/\∀y∈ds,∃x∈es,ji R x y
 |_,_,.nil=>⟨λ_ h=>(by cases h),λ_ h=>(by cases h)⟩
 |_,_,.cons (a:=a) (b:=b) h1 h2=>by
  obtain⟨h3,h4⟩:=Gj h2;refine⟨λx hx=> ?_,λy hy=> ?_⟩
  . rcases List.mem_cons.1 hx with rfl|hx
    . exact⟨b,List.mem_cons_self,h1⟩
    . obtain⟨y,hy,hr⟩:=h3 x hx;exact⟨y,List.mem_cons_of_mem _ hy,hr⟩
  . rcases List.mem_cons.1 hy with rfl|hy
    . exact⟨a,List.mem_cons_self,h1⟩
    . obtain⟨x,hx,hr⟩:=h4 y hy;exact⟨x,List.mem_cons_of_mem _ hx,hr⟩
theorem yR.ok(x:bM G h dh){v:Value}{d:DV}(hv:Rel (aI h G) v d){K:DV->ab->Nat->Prop}(hs:yR dh d K):
 Bz h v λu h'=>∃d ad b,bM G h' ad/\Kp G h dh G h' ad/\Rel (aI h' G) u d/\(∀i,i≠b->h'.get i=h.get i/\ad.get i=dh.get i)/\K d ad b:=by
 obtain⟨r,m,since,seen,last,es,clock,rfl,hr,hm,hold,bU,h0,h1⟩:=hs;have:=hv.cW;subst this;obtain⟨_,ao,g1,g2⟩:=x.obj _ _ hr;cases g2 with
 |cD=>
  obtain⟨_,bn,g3,g4⟩:=x.obj _ _ hm;cases g4 with
  | @map res _ _ g4=>
   obtain⟨m1,m2⟩:=Gj g4;refine⟨r,m,since,seen,last,res,clock,rfl,g1,g3,λz hz=> ?_,bU,λha=> ?_,λz hz bW=> ?_⟩
   . obtain⟨y,hy,aN⟩:=m1 z hz;rw[aN.born];exact hold y hy
   . exact⟨_,dh,r,x,Kp.refl _ _ _,Rel.ki (a:=[.bool false]) (.cons (.v _) .nil),λ_ _=>⟨rfl,rfl⟩,h0 λy hy=>by
      obtain⟨z,hz,aN⟩:=m2 y hy;rw[<-aN.born];exact ha z hz⟩
   . obtain⟨y,hy,aN⟩:=m1 z hz;obtain⟨k1,k2⟩:=x.set hr (ao:=.cD (some m) since (seen++[z.born]) clock) (o:=.cD (some m) since (seen++[y.born]) clock) (by rw[aN.born];exact .cD);exact⟨_,_,r,k1,k2,Rel.ki (a:=[.bool true,z.key,z.val]) (.cons (.v _) (.cons (by rw[aN.key];exact uK _) (.cons (aN.val.mono (k2.aI x)) .nil))),λi hi=>⟨bq _ _ _ _ hi,by rw[ab.bw,if_neg hi]⟩,h1 y hy (by rw[<-aN.born];exact bW)⟩
end Go.aw
end

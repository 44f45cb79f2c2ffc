/- SpacingIndependent: parts of its proof. -/
import Derived.DataReads
import Derived.Test.YtmhjnafgdhaemaaGreatDoorK19
import Derived.Test.YtmhjnafgdhaemaaGreatDoorK20
open Nat renaming beq->qe,le_refl->DE,eq_of_beq_eq_true->Er,zero_add->PO,le_of_ble_eq_true->TF,add_mul->Xw,eq_zero_or_pos->adS,lt_of_lt_of_le->adT
open Bool renaming and_eq_true->xS
open List renaming range->GP,getElem?_eq_getElem->PX,mem_cons_of_mem->Qc,all_eq_true->VK,getElem?_take->W2,flatten_cons->W9,length_append->Zj,getElem?_map->Zr,length_map->ZL,getElem?_drop->Z4,getElem?_eq_some_iff->abR,length_take->ab8,map_congr_left->adr
open Option renaming map_eq_some_iff->ZJ
open Int renaming emod_nonneg->adU,emod_lt_of_pos->adV
set_option linter.all false
set_option maxRecDepth 100000
noncomputable section
open Go Go.au Go.Proofs
namespace Go.Sp
variable {aj:Bool}
theorem aW{f:FuncId}{fn:Func}{c:Code}{aa:List DV}{dv:DV}{n:Nat}(hn:fn.ntmps=n){rs:List ResultVar}(ad:fn.results=rs.toArray)
 (hq:∀N,RD E aj c ⟨ie aa,aa.length+(n-aa.length),[],ab.none N⟩ (jd E rs λd h=>Fz (allRows h) d dv)) (ae:E.fn f=some fn:=by kernel_rfl) (hb:fn.body=some c:=by rfl):ay E aj f aa dv:=ay.of (j6 []) kT (sM []) ae hb hn ad hq
theorem bO{c:Code}{K:bk->DS->Prop}{d:DS}(I:Nat->DS->Prop)(j:Nat)(hw:∃d',ax d d'/\I j d')(hI:∀j d,I j d->RD E aj c d (KI I j K)):WD E aj (.loop c) d K:=WD.loop (j6 []) kT I hI j d hw
theorem VL(e:Env)(ops:List Oper)(op:Op)(dst:Option Tmp)(r:List Oper)(t:Tr DV)(n:Nat)(dd:List FuncId)(h:ab)(K:DS->Prop)(w:Bool):lJ e aj ops op dst r t n dd h K w cP=eI e aj ops r (cq dst cP t) n dd h K:=E0 ..
theorem VM(h:ab):fA h []=h:=(rfl)
theorem VN(h:ab)(i:Nat)(l:List Nat):fA h (i::l)=(fA h l).set i none:=(rfl)
attribute [go_sem] sK VL VM VN
theorem VO{α:Type}{a b:Nat}{x y:α}(h:a≠b):(if a=b then x else y)=y:=if_neg h
theorem VP{α:Type}{a b:Nat}{x y:α}(h:a=b):(if a=b then x else y)=x:=if_pos h
attribute [go_sem] ab.bn ab.di VO VP
def bz:List (Nat×DV)->Tr DV
 |[]=>.nil
 |(i,v)::l=>(bz l).set i (some v)
def cw(N:Nat):List (Nat×bx)->ab
 |[]=>ab.none N
 |(i,o)::l=>(cw N l).set i (some o)
theorem Fo(i:Nat):(bz []).get i=none:=Tr.get_nil i
theorem AK(i j:Nat)(v:DV)(l:List (Nat×DV)):(bz ((i,v)::l)).get j=if j=i then some v else(bz l).get j:=Tr.bn _ _ _ _
theorem xH(N i:Nat):(cw N []).get i=none:=ab.get_none _ _
theorem u6(N i j:Nat)(o:bx)(l:List (Nat×bx)):(cw N ((i,o)::l)).get j=if j=i then some o else(cw N l).get j:=ab.bn _ _ _ _
theorem u7(N:Nat):∀(l:List (Nat×bx)),(cw N l).next=N
 |[]=>rfl
 |_::l=>u7 N l
theorem vb{t:Tr DV}:∀{l:List (Nat×DV)},(∀p∈l,t.get p.1=some p.2)->∀i v,(bz l).get i=some v->t.get i=some v
 |[],_,i,v,h=>by rw[Fo]at h;cases h
 |(j,u)::l,hl,i,v,h=>by
  rw[AK]at h
  split at h
  . rename_i hi;subst hi;cases h;exact hl (i,u) (by simp)
  . exact vb (λp hp=>hl p (Qc _ hp)) i v h
theorem AL{h:ab}{N:Nat}:∀{l:List (Nat×bx)},(∀p∈l,h.get p.1=some p.2)->∀i o,(cw N l).get i=some o->h.get i=some o
 |[],_,i,v,h=>by rw[xH]at h;cases h
 |(j,u)::l,hl,i,v,h=>by
  rw[u6]at h
  split at h
  . rename_i hi;subst hi;cases h;exact hl (i,u) (by simp)
  . exact AL (λp hp=>hl p (Qc _ hp)) i v h
def jM(t:Tr DV):List (Nat×DV)->Prop
 |[]=>True
 |p::l=>t.get p.1=some p.2/\jM t l
def oL(h:ab):List (Nat×bx)->Prop
 |[]=>True
 |p::l=>h.get p.1=some p.2/\oL h l
theorem VQ(t:Tr DV):jM t []=True:=(rfl)
theorem VR(t:Tr DV)(i:Nat)(v:DV)(l:List (Nat×DV)):jM t ((i,v)::l)=(t.get i=some v/\jM t l):=(rfl)
theorem VS(h:ab):oL h []=True:=(rfl)
theorem VT(h:ab)(i:Nat)(v:bx)(l:List (Nat×bx)):oL h ((i,v)::l)=(h.get i=some v/\oL h l):=(rfl)
theorem jM.mem{t:Tr DV}:∀{l:List (Nat×DV)},jM t l->∀p∈l,t.get p.1=some p.2
 |_::_,⟨h1,h2⟩,p,hp=>by
  rcases List.mem_cons.1 hp with rfl|hp
  . exact h1
  . exact h2.mem p hp
theorem oL.mem{t:ab}:∀{l:List (Nat×bx)},oL t l->∀p∈l,t.get p.1=some p.2
 |_::_,⟨h1,h2⟩,p,hp=>by
  rcases List.mem_cons.1 hp with rfl|hp
  . exact h1
  . exact h2.mem p hp
theorem ax.mk{t:Tr DV}{n N:Nat}{dd:List FuncId}{h:ab}{l:List (Nat×DV)}{r:List (Nat×bx)}(hN:h.next=N)(ht:jM t l)(hh:oL h r):ax ⟨t,n,dd,h⟩ ⟨bz l,n,dd,cw N r⟩:=
 ax.forget (by rw[u7,hN]) (vb ht.mem) (AL hh.mem)
attribute [go_sem] VQ VR VS VT
attribute [go_sem] Fo AK xH u6 u7
abbrev iV(n:Int):DV:=.v (.int .i64 n)
abbrev bV(b:Bool):DV:=.v (.bool b)
abbrev sV(s:ByteArray):DV:=.v (.string s)
abbrev dQ:DV:=.v (.slice none 0 0)
abbrev uV(n:Int):DV:=.v (.int .u8 n)
section
variable {S:eR}
theorem vc(d:DV):Fz S d d=True:=eq_true (.refl d)
theorem VU(l:List DV):cA S l l=True:=eq_true (cA.refl l)
theorem vd:cA S [] []=True:=eq_true .nil
theorem ve(a b:DV)(x y:List DV):cA S (a::x) (b::y)=(Fz S a b/\cA S x y):=propext ⟨λh=>by cases h with|cons h1 h2=>exact⟨h1,h2⟩,λ⟨h1,h2⟩=>.cons h1 h2⟩
theorem Fp(x y:List DV):Fz S (.agg x) (.agg y)=cA S x y:=propext ⟨λh=>by
 cases h with
 |refl _=>exact cA.refl _
 |agg h1 h2=>exact aO.qJ h1 h2,Fz.dG⟩
theorem VV(x y:List DV):Fz S (.bb x) (.bb y)=cA S x y:=propext ⟨λh=>by
 cases h with
 |refl _=>exact cA.refl _
 |bb h1 h2=>exact aO.qJ h1 h2,Fz.jG⟩
theorem VW(c k:Nat):Fz S (.v (.slice none 0 c)) (.sl (k+1) [])=True:=eq_true (.nil (Nat.succ_pos k))
theorem rH{k:Nat}:∀{xs:List (List DV)} (j i:Nat) (x:List DV) (d:DV),(∀x∈xs,x.length=k)->xs[j]? =some x->x[i]? =some d->xs.flatten[j*k+i]? =some d
 |[],j,i,x,d,_,h,_=>by simp at h
 |y::xs,0,i,x,d,hl,h,hi=>by
  simp only[List.getElem?_cons_zero,Option.some.injEq]at h;subst h;have:=(abR.1 hi).1;rw[W9,List.getElem?_append_left (by omega)];simpa using hi
 |y::xs,j+1,i,x,d,hl,h,hi=>by
  have hy:y.length=k:=hl y (by simp);rw[W9,List.getElem?_append_right (by rw[hy,Xw];omega),hy];have:=rH j i x d (λz hz=>hl z (Qc _ hz)) (by simpa using h) hi;rw[<-this];congr 1;rw[Xw];omega
theorem eW{k:Nat}:∀{xs:List (List DV)},(∀x∈xs,x.length=k)->xs.flatten.length=xs.length*k
 |[],_=>by simp
 |y::xs,h=>by
  rw[W9,Zj,h y (by simp),eW λx hx=>h x (Qc _ hx),List.length_cons,Xw];omega
theorem dU{r n c k ah:Nat}{xs:List (List DV)}(hr:S r=some (xs.flatten,ah))(he:ah=0\/ah=k)(hk:0<k)(hn:n=xs.length)(hc:n<=c)(hx:∀x∈xs,x.length=k):Fz S (.v (.slice (some ⟨r,0,none⟩) n c)) (.sl k xs):=
 .sl hr he hk hn hc hx (by rw[eW hx];omega) λj x i v d h1 h2 h3=>by
  have:=rH j i x d hx h1 h2;rw[PO,this]at h3;cases h3;exact .refl _
theorem ij{r n c k ah:Nat}{cs:List DV}{xs:List (List DV)}(hr:S r=some (cs,ah))(he:ah=0\/ah=k)(hk:0<k)(hn:n=xs.length)(hc:n<=c)(hx:∀x∈xs,x.length=k)(hz:cA S cs xs.flatten):Fz S (.v (.slice (some ⟨r,0,none⟩) n c)) (.sl k xs):=
 .sl hr he hk hn hc hx (by rw[aO.length hz,eW hx];omega) λj x i v d h1 h2 h3=>by
  have h4:=rH j i x d hx h1 h2;rw[PO]at h3;obtain⟨d',h5,h6⟩:=aO.get hz _ v h3;rw[h4]at h5;cases h5;exact h6
end
attribute [go_sem] pV vc VU vd ve Fp VV VW VC VD VE VF Fm VG sU VH VI
theorem cx{h:ab}{i:Nat}{cs:List DV}{wr:Bool}{ah:Nat}(hg:h.get i=some (.row cs wr ah)):allRows h i=some (cs,ah):=by unfold allRows;rw[hg]
theorem ko{h:ab}{i len sz b n:Nat}{cs new:List DV}{K:DV×ab×List Nat->Prop}(hg:h.get i=some (.row cs true sz))(hc:cs.length=len*sz)(hs:0<sz)(hn:0<n)(h1:new.all cO=true)(hb:(len+n)*(b+1)<=1073741824)
 (hk:K (.v (.slice (some ⟨h.next,0,none⟩) (len+n) (len+n)),(h.set i none).new (.row (cs++new) true sz),[i])):aG (eo h (some ⟨i,0,none⟩) len len sz b n new) K:=⟨_,uR h i len sz b n cs new hg hc hs hn h1 hb,hk⟩
theorem fB{h:ab}{i len sz b n:Nat}{cs new:List DV}{wr:Bool}{K:DV×ab×List Nat->Prop}(hg:h.get i=some (.row cs wr 0))(hc:cs.length=len*sz)(hn:0<n)(hb:(len+n)*(b+1)<=1073741824)
 (hk:K (.v (.slice (some ⟨h.next,0,none⟩) (len+n) (len+n)),h.new (.row (cs++new) true sz),[])):aG (eo h (some ⟨i,0,none⟩) len len sz b n new) K:=⟨_,E5 h i len sz b n cs new wr hg hc hn hb,hk⟩
theorem VX{h:ab}{sz b n:Nat}{new:List DV}{K:DV×ab×List Nat->Prop}(hn:0<n)(hb:n*(b+1)<=1073741824)(hk:K (.v (.slice (some ⟨h.next,0,none⟩) n n),h.new (.row new true sz),[])):aG (eo h none 0 0 sz b n new) K:=⟨_,rD h sz b n new hn hb,hk⟩
def gv(r:Option Nat)(n:Nat):DV:=match r with
 |none=>dQ
 |some r=>.v (.slice (some ⟨r,0,none⟩) n n)
def gh(r:Option Nat)(k:Nat)(cs:List DV):List (Nat×bx):=match r with
 |none=>[]
 |some r=>[(r,.row cs true k)]
theorem VY(n:Nat):gv none n=dQ:=(rfl)
theorem VZ(r n:Nat):gv (some r) n=.v (.slice (some ⟨r,0,none⟩) n n):=(rfl)
theorem V0(k:Nat)(cs:List DV):gh none k cs=[]:=(rfl)
theorem V1(r k:Nat)(cs:List DV):gh (some r) k cs=[(r,.row cs true k)]:=(rfl)
attribute [go_sem] VY VZ V0 V1
structure Dg where
 nodes:List (Int×Int×Int)
 root:Int
structure aL where
 kind:Int
 lo:Int
 hi:Int
 a:Int
 b:Int
structure Tok where
 name:ByteArray
 cls:Int
 lit:ByteArray
 pat:List aL
 iD:ByteArray
 cond:Dg
structure Sym where
 tok:Bool
 idx:Int
structure lM where
 kind:Int
 a:Int
 b:Int
structure Fq where
 opens:Bool
 declares:Int
 kind:Int
 vg:Int
 allowed:Int
structure aQ where
 name:ByteArray
 left:Int
 right:List Sym
 cond:Dg
 bracket:Bool
 eJ:Int
 layout:List lM
 scope:Fq
structure de where
 ak:List Int
 assoc:Int
 cond:Dg
structure bd where
 kind:Int
 parent:Int
 at_:Int
 child:Int
 left:Int
 token:Int
 ar:List Int
 cond:Dg
structure ai where
 conds:List ByteArray
 family:Dg
 ar:List Tok
 aH:List ByteArray
 ak:List aQ
 start:Int
 ba:List de
 bj:List bd
def cK(x:Int×Int×Int):List DV:=[iV x.1,iV x.2.1,iV x.2.2]
abbrev ints(l:List Int):DV:=.sl 1 (l.map λn=>[iV n])
abbrev strs(l:List ByteArray):DV:=.sl 1 (l.map λs=>[sV s])
def Dg.e(d:Dg):List DV:=[.sl 3 (d.nodes.map cK),iV d.root]
def aL.e(x:aL):List DV:=[iV x.kind,iV x.lo,iV x.hi,iV x.a,iV x.b]
def Tok.e(x:Tok):List DV:=[sV x.name,iV x.cls,sV x.lit,.sl 5 (x.pat.map aL.e),sV x.iD,.sl 3 (x.cond.nodes.map cK),iV x.cond.root]
def Sym.e(x:Sym):List DV:=[bV x.tok,iV x.idx]
def lM.e(x:lM):List DV:=[iV x.kind,iV x.a,iV x.b]
def aQ.e(x:aQ):List DV:=[sV x.name,iV x.left,.sl 2 (x.right.map Sym.e),.sl 3 (x.cond.nodes.map cK),iV x.cond.root,bV x.bracket,iV x.eJ,.sl 3 (x.layout.map lM.e),bV x.scope.opens,iV x.scope.declares,iV x.scope.kind,iV x.scope.vg,iV x.scope.allowed]
def de.e(x:de):List DV:=[ints x.ak,iV x.assoc,.sl 3 (x.cond.nodes.map cK),iV x.cond.root]
def bd.e(x:bd):List DV:=[iV x.kind,iV x.parent,iV x.at_,iV x.child,iV x.left,iV x.token,ints x.ar,.sl 3 (x.cond.nodes.map cK),iV x.cond.root]
def ai.e(x:ai):List DV:=[strs x.conds,.sl 3 (x.family.nodes.map cK),iV x.family.root,.sl 7 (x.ar.map Tok.e),strs x.aH,.sl 13 (x.ak.map aQ.e),iV x.start,.sl 4 (x.ba.map de.e),.sl 9 (x.bj.map bd.e)]
def dV:List DV:=[dQ,dQ,iV 0,dQ,dQ,dQ,iV 0,dQ,dQ]
end Go.Sp
end
noncomputable section
open Go Go.au Go.Proofs
namespace Go.Sp
def Bh:Value->Value->Bool
 |.bool a,.bool b=>a==b
 |.int j a,.int k b=>decide (j=k)&&decide (a=b)
 |.string a,.string b=>decide (a=b)
 |.pointer none,.pointer none=>true
 |.slice none l c,.slice none m d=>qe l m&&qe c d
 |.map none,.map none=>true
 |.nilFunc,.nilFunc=>true
 |.nilIface,.nilIface=>true
 |_,_=>false
theorem W3{a b:Value}(h:Bh a b=true):a=b/\iE a=true:=by
 unfold Bh at h
 split at h
 . exact⟨by rw[eq_of_beq h],rfl⟩
 . simp only[xS,decide_eq_true_eq]at h;exact⟨by rw[h.1,h.2],rfl⟩
 . simp only[decide_eq_true_eq]at h;exact⟨by rw[h],rfl⟩
 . exact⟨rfl,rfl⟩
 . simp only[xS]at h;exact⟨by rw[Er h.1,Er h.2],rfl⟩
 . exact⟨rfl,rfl⟩
 . exact⟨rfl,rfl⟩
 . exact⟨rfl,rfl⟩
 . cases h
def nK(f:DV->DV->Bool):List DV->List DV->Bool
 |[],[]=>true
 |a::x,b::y=>f a b&&nK f x y
 |_,_=>false
def tj(f:List DV->List DV->Bool):List (List DV)->List (List DV)->Bool
 |[],[]=>true
 |a::x,b::y=>f a b&&tj f x y
 |_,_=>false
def Gj(f:DV->DV->Bool)(o m c k:Nat)(xs:List (List DV)):Option bx->Bool
 |some (.row cs _ ah)=>(qe ah 0||qe ah k)&&Nat.blt 0 k&&qe m xs.length&&Nat.ble m c&&xs.all (λx=>qe x.length k)&&Nat.ble (o+m*k) cs.length&&nK f ((cs.drop o).take (m*k)) xs.flatten
 |_=>false
def Gk(f:DV->DV->Bool)(xs:List DV):Option bx->Bool
 |some (.row cs _ _)=>nK f cs xs
 |_=>false
def qf:Nat->ab->DV->DV->Bool
 |0,_,_,_=>false
 |n+1,h,d,e=>match d with
  |.v a=>match e with
   |.v b=>Bh a b
   |.sl k xs=>match a with
    |.slice none l _=>Nat.blt 0 k&&qe l 0&&xs.isEmpty
    |.slice (some ⟨b,o,none⟩) m c=>Gj (qf n h) o m c k xs (h.get b)
    |_=>false
   |.ptr xs off=>match a with
    |.pointer (some ⟨b,o,none⟩)=>qe o off&&Gk (qf n h) xs (h.get b)
    |_=>false
   |_=>false
  |.agg a=>match e with
   |.agg l=>nK (qf n h) a l
   |_=>false
  |.bb a=>match e with
   |.bb l=>nK (qf n h) a l
   |_=>false
  |.sl k xs=>match e with
   |.sl k' ys=>qe k k'&&tj (nK (qf n h)) xs ys
   |_=>false
  |_=>false
section
variable {N:Nat} {h0 h:ab} {S:eR}
theorem rM{f:DV->DV->Bool}:∀{x y:List DV},nK f x y=true->x.length=y.length/\∀(i:Nat) (v d:DV),x[i]? =some v->y[i]? =some d->f v d=true
 |[],[],_=>⟨rfl,λi v d h=>by simp at h⟩
 |a::x,b::y,h=>by
  simp only[nK,xS]at h;obtain⟨h1,h2⟩:=rM h.2;refine⟨by simp[h1],λi v d h3 h4=> ?_⟩;cases i with
  |zero=>simp at h3 h4;subst h3;subst h4;exact h.1
  |succ i=>exact h2 i v d (by simpa using h3) (by simpa using h4)
 |[],_::_,h=>by simp[nK]at h
 |_::_,[],h=>by simp[nK]at h
theorem Gm{f:List DV->List DV->Bool}:∀{x y:List (List DV)},tj f x y=true->x.length=y.length/\∀(i:Nat) (v d:List DV),x[i]? =some v->y[i]? =some d->f v d=true
 |[],[],_=>⟨rfl,λi v d h=>by simp at h⟩
 |a::x,b::y,h=>by
  simp only[tj,xS]at h;obtain⟨h1,h2⟩:=Gm h.2;refine⟨by simp[h1],λi v d h3 h4=> ?_⟩;cases i with
  |zero=>simp at h3 h4;subst h3;subst h4;exact h.1
  |succ i=>exact h2 i v d (by simpa using h3) (by simpa using h4)
 |[],_::_,h=>by simp[tj]at h
 |_::_,[],h=>by simp[tj]at h
theorem getM{f:DV->DV}{x:List DV}{i:Nat}{v:DV}(h:(x.map f)[i]? =some v):∃u,x[i]? =some u/\v=f u:=by
 rw[Zr,ZJ]at h;obtain⟨u,h1,h2⟩:=h;exact⟨u,h1,h2.symm⟩
theorem Gn(hh:HS N h0 h):∀(n:Nat) {d e:DV},qf n h0 d e=true->Fz (allRows h) (sh N d) e
 |0,_,_,hd=>by cases hd
 |n+1,d,e,hd=>by
  have ih:= @Gn hh n;unfold qf at hd
  split at hd
  . rename_i a
    split at hd
    . obtain⟨rfl,h1⟩:=W3 hd;rw[bJ,qb h1];exact .refl _
    . rename_i k xs
      split at hd
      . simp only[xS,List.isEmpty_iff]at hd;obtain⟨⟨h1,h2⟩,rfl⟩:=hd;have:=Er h2;subst this;rw[bJ];exact .nil (TF h1)
      . rename_i b o m c;unfold Gj at hd
        split at hd
        . rename_i cs wr ah hg;simp only[xS,Bool.or_eq_true,VK]at hd;obtain⟨⟨⟨⟨⟨⟨h1,h2⟩,h3⟩,h4⟩,h5⟩,h7⟩,h6⟩:=hd;have hk:0<k:=TF h2;have hm:=Er h3;have hx:∀x∈xs,x.length=k:=λx hx=>Er (h5 x hx);obtain⟨g1,g2⟩:=rM h6;rw[eW hx,ab8,List.length_drop]at g1;simp only[bJ,bM,ep];refine .sl (cx (hh.row hg)) (h1.imp Er Er) hk hm (TF h4) hx ?_ λj x i v d e1 e2 e3=> ?_
          . rw[ZL,<-hm];exact TF h7
          . obtain⟨u,e4,rfl⟩:=getM e3;have e5:=rH j i x d hx e1 e2;have hj:j*k+i<m*k:=by
             have:=(abR.1 e5).1;rw[eW hx]at this;rw[hm];exact this
            refine ih (g2 (j*k+i) u d ?_ e5);rw[W2,if_pos hj,Z4,<-Nat.add_assoc];exact e4
        . cases hd
      . cases hd
    . rename_i xs off
      split at hd
      . rename_i b o;simp only[xS]at hd;obtain⟨h1,hd⟩:=hd;have:=Er h1;subst this;unfold Gk at hd
        split at hd
        . rename_i cs wr ah hg;obtain⟨g1,g2⟩:=rM hd;simp only[bJ,bM,ep];have e:Fz (allRows h) (.v (.pointer (some ⟨b+N,0+o,none⟩))) (.ptr xs o):=.ptr (cx (hh.row hg)) (by rw[ZL];omega) λi v d e1 e2=>by
           rw[PO]at e2;obtain⟨u,e4,rfl⟩:=getM e2;exact ih (g2 i u d e4 e1)
          rwa[PO]at e
        . cases hd
      . cases hd
    . cases hd
  . split at hd
    . rename_i a l;rw[jN];obtain⟨g1,g2⟩:=rM hd;refine .agg (by simpa using g1) λi v d e1 e2=> ?_;obtain⟨u,e4,rfl⟩:=getM e1;exact ih (g2 i u d e4 e2)
    . cases hd
  . split at hd
    . rename_i a l;rw[jf];obtain⟨g1,g2⟩:=rM hd;refine .bb (by simpa using g1) λi v d e1 e2=> ?_;obtain⟨u,e4,rfl⟩:=getM e1;exact ih (g2 i u d e4 e2)
    . cases hd
  . split at hd
    . rename_i k xs k' ys;simp only[xS]at hd;have:=Er hd.1;subst this;rw[lO];obtain⟨g1,g2⟩:=Gm hd.2;refine .sub (by simpa using g1) (λj x y e1 e2=> ?_) λj x y i v d e1 e2 e3 e4=> ?_
      . rw[Zr,ZJ]at e1;obtain⟨x',e1,rfl⟩:=e1;rw[ZL];exact(rM (g2 j _ _ e1 e2)).1
      . rw[Zr,ZJ]at e1;obtain⟨x',e1,rfl⟩:=e1;obtain⟨u,e5,rfl⟩:=getM e3;exact ih ((rM (g2 j _ _ e1 e2)).2 i u d e5 e4)
    . cases hd
  . cases hd
end
def oR:Nat->DV->Bool
 |0,_=>false
 |n+1,d=>match d with
  |.v x=>iE x
  |.agg l=>l.all (oR n)
  |.bb l=>l.all (oR n)
  |.sl _ xs=>xs.all λx=>x.all (oR n)
  |.ptr xs _=>xs.all (oR n)
  |.fn _ a c=>a.all (oR n)&&c.all (oR n)
theorem rN{f:DV->DV}{p:DV->Bool}{l:List DV}(hf:∀d,p d=true->f d=d)(h:l.all p=true):l.map f=l:=by
 simp only[VK]at h;exact(adr λd hd=>hf d (h d hd)).trans (List.map_id' l)
theorem Gp{N:Nat}:∀(n:Nat) (d:DV),oR n d=true->sh N d=d
 |0,_,h=>by cases h
 |n+1,d,h=>by
  have ih:= @Gp N n;unfold oR at h
  split at h
  . rw[bJ,qb h]
  . rw[jN,rN (λd=>ih d) h]
  . rw[jf,rN (λd=>ih d) h]
  . rename_i k xs;rw[lO];congr 1;simp only[VK]at h;exact(adr λx hx=>rN (λd=>ih d) (by simpa using h x hx)).trans (List.map_id' xs)
  . rw[mD,rN (λd=>ih d) h]
  . rw[xS]at h;rw[oM,rN (λd=>ih d) h.1,rN (λd=>ih d) h.2]
def Bi(e:Env)(n:Nat)(f:FuncId)(args:List DV)(dv:DV):Bool:=args.all (oR 9)&&match nI e (nJ e n) f args ⟨.nil,0⟩with
 |some (v,h)=>qf 9 h v dv
 |none=>false
theorem W4{f:FuncId}{args:List DV}{dv:DV}(n:Nat)(h:Bi E.aT n f args dv=true):ay E true f args dv:=by
 simp only[Bi,xS]at h;obtain⟨h1,h2⟩:=h
 split at h2
 . rename_i v h' hc;have ae:∀N,args.map (sh N)=args:=λN=>rN (λd=>Gp 9 d) h1;obtain⟨fn,c,x,s,l,q1,q2,q3,q4,q5,q6,rfl,rfl⟩:=Ge hc;refine ay.of (j6 []) kT (sM []) q1 q2 rfl (rs:=fn.results.toList) (by simp) λN=> ?_;have hh:HS N (⟨.nil,0⟩:ab) (ab.none N):=by have:=HS.none (N:=N) 0;rwa[PO]at this
   obtain⟨aa,c',r1,r2,r3⟩:=xQ (N:=N) (W1 (j6 []) kT (sM []) n) hc hh;have ad:E.fn f=some aa:=r1;have e1:aa=fn:=by rw[show E.fn f=some fn from q1]at ad;cases ad;rfl
   subst e1;rw[q2]at r2;cases r2;rw[ae N]at r3;exact r3 _ λaf h3=>Gn h3 9 h2
 . cases h2
theorem bI{α:Type}{l:List α}{f:FuncId}{args:α->List DV}{res:α->DV}(h:(l.all λp=>Bi E.aT 3000 f (args p) (res p))=true):∀p∈l,ay E true f (args p) (res p):=λp hp=>W4 3000 (VK.1 h p hp)
end Go.Sp
end
noncomputable section
open Go Go.au Go.Proofs
namespace Go.Sp
def Xz(x:Int×Int×Int)(N:List (Int×Int×Int)):List (Int×Int×Int)×Int:=bif decide (x.2.1=x.2.2)then(N,x.2.1)else match N.findIdx? λy=>decide (y=x)with
 |some i=>(N,(i:Int)+2)
 |none=>(N++[x],(N.length:Int)+2)
def Bo(c:Nat):Nat->Int->Nat->Nat->List (Int×Int×Int)->List (Int×Int×Int)×Int
 |0,_,o,_,N=>(N,bif c.testBit o then 1 else 0)
 |k+1,v,o,s,N=>match Bo c k (v+1) o (2*s) N with
  |(N,l)=>match Bo c k (v+1) (o+s) (2*s) N with
   |(N,u)=>Xz (v,l,u) N
def aF(c:Nat):Dg:=match Bo c 3 0 0 1 []with
 |(N,r)=>⟨N,r⟩
def tv:Nat->List Nat
 |0=>[0,3,12,15,48,51,60,63,192,195,204,207,240,243,252,255]
 |1=>[0,15,240,255]
 |_=>[0,255]
def xv:Nat->Nat
 |0=>170
 |1=>204
 |_=>240
def XA:List (Nat×Nat):=(GP 3).flatMap λv=>(tv v).map λt=>(xv v,t)
def XB:List (Nat×Nat):=(GP 3).flatMap λv=>(tv v).map λt=>(t,255-xv v)
def gy:List (Nat×Nat):=(GP 3).flatMap λv=>(tv v).flatMap λt=>(tv v).map λs=>(xv v&&&t,s&&&(255-xv v))
def dW:List (Nat×Int):=(GP 256).map (λc=>(c,3))++((GP 16).map (λc=>(17*c,2))++((GP 4).map (λc=>(85*c,1))++(GP 2).map λc=>(255*c,0)))
theorem Bp{α:Type}{P:α->Prop}{l:List α}(n k:Nat)(hn:l.length<=n*k)(h:∀i,i<k->∀p∈(l.drop (n*i)).take n,P p):∀p∈l,P p:=λp hp=>by
 obtain⟨j,hj,rfl⟩:=List.getElem_of_mem hp;have h0:0<n:=(adS n).elim (λh=>by subst h;omega) id;have h1:=Nat.div_add_mod j n;have h2:=Nat.mod_lt j h0;refine h (j/n) ((Nat.div_lt_iff_lt_mul h0).2 (by rw[Nat.mul_comm];omega)) _ (List.mem_of_getElem? (i:=j%n) ?_);rw[W2,if_pos h2,Z4,h1,PX hj]
end Go.Sp
end
noncomputable section
open Go
namespace Go.au
def oS(h:aa):Nat->Prop:=λi=>i<h.next
structure qg(W:World)(ρ:aA)(h:aa):Prop where
 w:bh ρ h W
 ro:∀i o,h.get i=some o->o.wr=false
 z:h.get 0=some (.row iX false 0)
 r0:ρ 0=some ⟨0,0,64,64,0,λ_=>True⟩
structure kp(ρ:aA)(h:aa)(ad:aA)(h':aa):Prop where
 ext:Ext ρ ad
 next:h.next<=h'.next
 same:∀i,i<h.next->h'.get i=h.get i
theorem kp.refl(ρ:aA)(h:aa):kp ρ h ρ h:=⟨Ext.refl _,DE _,λ_ _=>rfl⟩
theorem kp.trans{ρ ad ai:aA}{h h' h2:aa}(a:kp ρ h ad h')(b:kp ad h' ai h2):kp ρ h ai h2:=
 ⟨λi p hi=>b.ext _ _ (a.ext _ _ hi),Nat.le_trans a.next b.next,λi hi=>(b.same i (adT hi a.next)).trans (a.same i hi)⟩
theorem kp.aI{ρ ad:aA}{h h':aa}(a:kp ρ h ad h'):∀i r,au.aI h (oS h) i=some r->au.aI h' (oS h') i=some r:=
 iz λi hi=>⟨adT hi a.next,a.same i hi⟩
def Rd(W:World)(v:Value)(d:DV):Prop:=∀ρ h,qg W ρ h->∃ad h' av,qg W ad h'/\kp ρ h ad h'/\aJ ad av v/\Rel (aI h' (oS h')) av d
def gw(W:World)(vs:List Value)(ds:List DV):Prop:=∀ρ h,qg W ρ h->∃ad h' ab,qg W ad h'/\kp ρ h ad h'/\bE ad ab vs/\b8 (aI h' (oS h')) ab ds
theorem Rd.int(W:World)(k:IntKind)(n:Int):Rd W (.int k n) (.v (.int k n)):=λρ h x=>⟨ρ,h,_,x,kp.refl _ _,.int k n,.v _⟩
theorem gw.nil(W:World):gw W [] []:=λρ h x=>⟨ρ,h,[],x,kp.refl _ _,.nil,.nil⟩
theorem gw.cons{W:World}{v:Value}{vs:List Value}{d:DV}{ds:List DV}(a:Rd W v d)(b:gw W vs ds):gw W (v::vs) (d::ds):=λρ h x=>by
 obtain⟨ao,h1,av,x1,g1,r1,q1⟩:=a ρ h x;obtain⟨ai,h2,ab,x2,g2,r2,q2⟩:=b ao h1 x1;exact⟨ai,h2,av::ab,x2,g1.trans g2,.cons (r1.mono g2.ext) r2,.cons (q1.mono g2.aI) q2⟩
theorem gw.append{W:World}{vs aF:List Value}{ds aK:List DV}(a:gw W vs ds)(b:gw W aF aK):gw W (vs++aF) (ds++aK):=λρ h x=>by
 obtain⟨ao,h1,av,x1,g1,r1,q1⟩:=a ρ h x;obtain⟨ai,h2,ab,x2,g2,r2,q2⟩:=b ao h1 x1;exact⟨ai,h2,av++ab,x2,g1.trans g2,aO.append (r1.mono g2.ext) r2,aO.append (q1.mono g2.aI) q2⟩
theorem Rd.agg{W:World}{vs:List Value}{ds:List DV}(a:gw W vs ds):Rd W (.agg vs.toArray) (.agg ds):=λρ h x=>by
 obtain⟨ao,h1,av,x1,g1,r1,q1⟩:=a ρ h x;refine⟨ao,h1,.agg av.toArray,x1,g1,.agg (by simpa using r1.length) λi v v' hv aB=> ?_,Rel.dG q1⟩;have hv:av[i]? =some v:=by simpa using hv
 have aB:vs[i]? =some v':=by simpa using aB
 obtain⟨b,hb,hr⟩:=r1.get i v hv;rw[aB]at hb;cases hb;exact hr
theorem qg.row{W:World}{ρ:aA}{h:aa}(x:qg W ρ h){b off:Nat}{c:Array Value}{el:TypeId}{fz:Nat×Nat}(hb:W.heap[b]? =some (.cells c el fz)){cs:List Value}(hn:off+cs.length<=c.size)(h0:cs≠[])(hv:bE ρ cs ((c.toList.drop off).take cs.length)):
 qg W (ρ.put h.next ⟨b,off,cs.length,cs.length,0,λ_=>True⟩) (h.new (.row cs false 0))/\kp ρ h (ρ.put h.next ⟨b,off,cs.length,cs.length,0,λ_=>True⟩) (h.new (.row cs false 0)):=by
 have aw:ρ h.next=none:=by
  cases hp:ρ h.next with
  |none=>rfl
  |some pl=>exact absurd (x.w.gM _ _ hp) (Nat.lt_irrefl _)
 have hx:Ext ρ (ρ.put h.next ⟨b,off,cs.length,cs.length,0,λ_=>True⟩):=aA.qM _ aw;have hold:∀i,i<h.next->(h.new (.row cs false 0)).get i=h.get i:=λi hi=>bD _ _ _ (Nat.ne_of_lt hi);have aC:(h.new (.row cs false 0)).get h.next=some (.row cs false 0):=pO _ _;have hz:0<h.next:=x.w.gM _ _ x.r0;have each:∀i o,(h.new (.row cs false 0)).get i=some o->(i=h.next/\o=.row cs false 0)\/h.get i=some o:=λi o hi=>by
  by_cases he:i=h.next
  . subst he;rw[aC]at hi;cases hi;exact .inl ⟨rfl,rfl⟩
  . rw[bD _ _ _ he]at hi;exact .inr hi
 refine⟨⟨⟨λi pl hi=> ?_,λi o hi=> ?_,λi j o p pi pj aR h1 h2=> ?_⟩,λi o hi=> ?_, ?_,hx _ _ x.r0⟩,⟨hx,Nat.le_succ _,hold⟩⟩
 . show i<h.next+1;by_cases he:i=h.next
   . omega
   . rw[aA.jD _ _ he]at hi;have:=x.w.gM _ _ hi;omega
 . rcases each i o hi with⟨rfl,rfl⟩|hi
   . exact⟨_,aA.kE _ _ _,c,el,fz,hb,λh=>(by cases h),rfl,rfl,DE _,hn,λ_=>rfl,hv.mono hx,λh=>absurd h h0⟩
   . obtain⟨pl,h1,h2⟩:=x.w.obj i o hi;exact⟨pl,hx _ _ h1,h2.mono hx rfl⟩
 . rcases each i o h1 with⟨_,rfl⟩|h1
   . cases h2
   . rw[x.ro i o h1]at h2;cases h2
 . rcases each i o hi with⟨_,rfl⟩|hi
   . rfl
   . exact x.ro i o hi
 . rw[hold 0 hz];exact x.z
theorem Rd.sl{W:World}{a:Addr}{len cap k:Nat}(hk:0<k)(hl:len<=cap){cells:List Value}(hc:cells.length=cap*k)(af:∀j,j<cap*k->W.cell? (a.add j)=cells[j]?){xs:List (List DV)}(hx:xs.length=cap)(aL:∀x∈xs,x.length=k)(hr:gw W cells xs.flatten):Rd W (.slice (some a) len cap) (.sl k (xs.take len)):=λρ h x=>by
 rcases adS cap with h0|aD
 . subst h0;obtain rfl:len=0:=by omega
   refine⟨ρ,h,.slice (some ⟨0,0,none⟩) 0 0,x,kp.refl _ _,.sl x.r0 (.inr ⟨rfl,rfl,rfl⟩), ?_⟩;have hz:0<h.next:=x.w.gM _ _ x.r0;exact Rel.sl (xs:=[]) (ah:=0) (o:=0) (ry (G:=oS h) hz x.z) (.inl rfl) hk (DE _) (λx hx=>by cases hx) (by simp) (λj x i v d h1=>by simp at h1)
 . obtain⟨ao,h1,ab,x1,g1,r1,q1⟩:=hr ρ h x;have az:ab.length=cap*k:=by rw[r1.length,hc]
   have aN:0<cap*k:=Nat.mul_pos aD hk;obtain⟨b,off,sp⟩:=a;obtain⟨c,el,fz,hb,aP⟩:∃c el fz,W.heap[b]? =some (.cells c el fz)/\sp=none:=by
    have h3:=af 0 aN;rw[PX (by omega)]at h3;simp only[World.cell?,Addr.add,if_true]at h3
    split at h3
    . rename_i c el fz hb;refine⟨c,el,fz,hb, ?_⟩;cases sp with
      |none=>rfl
      |some s=>simp at h3
    . cases h3
   subst aP;have ae:∀j,j<cap*k->c[off+j]? =cells[j]? :=λj hj=>by
    have h3:=af j hj;have e:Addr.add ⟨b,off,none⟩ j=⟨b,off+j,none⟩:=by
     unfold Addr.add
     split
     . subst_vars;rfl
     . rfl
    rw[e]at h3;simpa[World.cell?,hb]using h3
   have aS:off+cap*k<=c.size:=by
    have h3:=ae (cap*k-1) (by omega);rw[PX (by omega)]at h3;have:=(Array.getElem?_eq_some_iff.1 h3).1;omega
   have aQ:(c.toList.drop off).take ab.length=cells:=by
    rw[az];apply List.ext_getElem?;intro j;rw[W2]
    split
    . rename_i hj;rw[Z4,Array.getElem?_toList];exact ae j hj
    . rename_i hj;rw[List.getElem?_eq_none (by omega)]
   obtain⟨y1,y2⟩:=x1.row (off:=off) hb (cs:=ab) (by omega) (λh=>by rw[h]at az;simp at az;omega) (by rw[aQ];exact r1);refine⟨_,_,.slice (some ⟨h1.next,0,none⟩) len cap,y1,g1.trans y2,.sl (aA.kE _ _ _) (.inl ⟨by simp,.inl rfl⟩), ?_⟩;have aM:(xs.take len).length=len:=by rw[ab8];omega
   have aE:aI (h1.new (.row ab false 0)) (oS (h1.new (.row ab false 0))) h1.next=some (ab,0):=ry (wr:=false) (Nat.lt_succ_self _) (pO _ _);have:=Rel.sl (R:=aI (h1.new (.row ab false 0)) (oS (h1.new (.row ab false 0)))) (b:=h1.next) (o:=0) (c:=cap) (xs:=xs.take len) aE (.inl rfl) hk (by omega) (λx hx=>aL x (List.mem_of_mem_take hx)) (by rw[aM,az,PO];exact Nat.mul_le_mul_right _ hl) (λj x i v d e1 e2 e3=>by
    rw[W2]at e1
    split at e1
    . have e4:=Go.Sp.rH j i x d aL e1 e2;rw[PO]at e3;exact(q1.ru e3 e4).mono y2.aI
    . cases e1)
   rwa[aM]at this
theorem Rd.W5(W:World){k:Nat}(hk:0<k)(c:Nat):Rd W (.slice none 0 c) (.sl k []):=λρ h x=>⟨ρ,h,_,x,kp.refl _ _,.jZ 0 c,.j9 hk⟩
end Go.au
end
noncomputable section
open Go Go.au Go.Proofs
namespace Go.Sp
variable {aj:Bool}
theorem W6(i:Int):ay E aj 50 [iV i] (.agg [bV false,iV i]):=by
 refine aW Tryz.ntmps50 Tryz.results50 λN=> ?_;simp[go_sem,lK]
theorem Gq(i:Int):ay E aj 24 [iV i] (.agg [bV true,iV i]):=by
 refine aW Tryz.ntmps24 Tryz.results24 λN=> ?_;simp[go_sem,lK]
def aP(b:Bool):Dg:=⟨[],if b then 1 else 0⟩
theorem oT(b:Bool):ay E aj 13 [bV b] (.agg (aP b).e):=by
 refine aW Tryz.ntmps13 Tryz.results13 λN=> ?_;cases b<;>simp[go_sem,lK,aP,Dg.e]
def jP(s:ByteArray)(l:Int)(rv:DV)(c:Dg):List DV:=[sV s,iV l,rv,.sl 3 (c.nodes.map cK),iV c.root,bV false,iV 0,.sl 3 [],bV false,iV 0,iV 0,iV 0,iV 0]
theorem Gr(s:ByteArray)(l:Int)(rv:DV)(hr:ca rv=[rv])(ho:cO rv=true):ay E aj 23 [sV s,iV l,rv] (.agg (jP s l rv (aP true))):=by
 refine aW Tryz.ntmps23 Tryz.results23 λN=> ?_;simp[go_sem];refine an.mk (oT true) λM hM=> ?_;simp[go_sem,Dg.e,jP,hr,ho]
def iH:Fq:=⟨false,0,0,0,0⟩
def bm(s:ByteArray)(l:Int)(r:List Sym)(c:Dg):aQ:=⟨s,l,r,c,false,0,[],iH⟩
def qh(l:Int)(r:List Sym):Bool:=match r with
 |[a,b,c]=>a.tok&&c.tok&& !b.tok&&decide (b.idx=l)
 |_=>false
theorem W7(o p:Operand):cD E .neq 80 o p (.agg #[.bool false,.int .i64 0,.int .i64 0,.int .i64 0,.int .i64 0]) (.agg #[.bool false,.int .i64 0,.int .i64 0,.int .i64 0,.int .i64 0])=some (.bool false):=by kernel_rfl
theorem W8(s:ByteArray)(l:Int)(r:List Sym)(c:Dg)(b:Bool)(hr:r.length<=4):ay E aj 86 [.agg {bm s l r c with bracket:=b}.e] (bV (qh l r)):=by
 refine aW Tryz.ntmps86 Tryz.results86 λN=> ?_;by_cases h3:r.length=3
 . obtain⟨x,y,z,rfl⟩:∃x y z,r=[x,y,z]:=by
    match r,h3 with
    |[x,y,z],_=>exact⟨x,y,z,rfl⟩
   simp[go_sem,lK,aQ.e,bm,iH,iY,exact,uL,W7];refine jK [ae 0,aD 1,ae 3,ae 7,aD 15,ae 31,ae 63,aD 127,ae 255,ae 511,aD 1023,ae 2047,ae 4095,ae 8191,aD 16383,ae 32767,ae 65535,aD 131071,ae 262143,ae 524287,ae 1048575,ae 2097151,aD 4194303,ae 8388607,ae 16777215,aD 33554431,ae 2097151,aD 69206015,ae 268435455,ae 536870911,ae 1073741823] (by kernel_rfl) 0 rfl (N+1) (by simp[go_sem]) ?_;obtain⟨x1,x2⟩:=x;obtain⟨y1,y2⟩:=y;obtain⟨z1,z2⟩:=z;cases x1<;>cases z1<;>cases y1<;>simp[go_sem,lK,Sym.e,qh]
 . have af:¬(r.length:Int)=3:=by omega
   have hb:qh l r=false:=by
    match r,h3 with
    |[],_=>rfl
    |[_],_=>rfl
    |[_,_],_=>rfl
    |_::_::_::_::_,_=>rfl
   simp[go_sem,lK,aQ.e,bm,iH,af,hb]
theorem wrap_u8{x:Int}(h1:0<=x)(h2:x<256):IntKind.u8.wrap x=x:=by
 simp[IntKind.wrap,IntKind.bits,IntKind.signed];omega
theorem cT{a b:Int}(h:0<=a):a.tmod b=a%b:=Int.tmod_eq_emod_of_nonneg h
theorem jj{a b:Int}(h:0<=a):a.tdiv b=a/b:=Int.tdiv_eq_ediv_of_nonneg h
def mark(s:ByteArray)(l:Int)(r:List Sym)(c:Dg)(m:Int):aQ:=
 let n:Int:=r.length
 let k:=m/8
 let tk:=match r[(k%n).toNat]? with|some x=>x.tok|none=>false
 let p:=bm s l r c
 if n=0 then p else
 if m%8=1 then{p with eJ:=1}
 else if m%8=2 then{p with eJ:=-1}
 else if m%8=3 then{p with bracket:=qh l r}
 else if m%8=4 then{p with layout:=[⟨1+k%4,k/4%n,if k%4=0 then 0 else n-1⟩]}
 else if m%8=5 then{p with scope:=⟨true,0,0,0,0⟩}
 else if m%8=6 then(if tk then{p with scope:=⟨false,k%n+1,1+k%2,0,0⟩}else p)
 else if m%8=7 then(if tk then{p with scope:=⟨false,0,0,k%n+1,1+k%7⟩}else p)
 else p
theorem Gs(s:ByteArray)(l:Int)(r:List Sym)(c:Dg)(m:Int)(hr:r.length<=4)(h0:0<=m)(h1:m<256):ay E aj 51 [.agg (bm s l r c).e,uV m] (.agg (mark s l r c m).e):=by
 refine aW Tryz.ntmps51 Tryz.results51 λN=> ?_;by_cases hn:r.length=0
 . have:r=[]:=List.eq_nil_of_length_eq_zero hn;subst this;simp[go_sem,lK,aQ.e,bm,iH,mark]
 . have aa:¬(r.length:Int)=0:=by omega
   have ad:0<=m/8%(r.length:Int):=adU _ aa;have ai:m/8%(r.length:Int)<r.length:=adV _ (by omega);obtain⟨x,hx⟩:∃x,r[(m/8%(r.length:Int)).toNat]? =some x:=⟨_,PX (by omega)⟩;have hm:m%8=0\/m%8=1\/m%8=2\/m%8=3\/m%8=4\/m%8=5\/m%8=6\/m%8=7:=by omega
   rcases hm with hm|hm|hm|hm|hm|hm|hm|hm
   . simp(disch:=omega)[go_sem,lK,aQ.e,bm,iH,mark,aa,hn,cT,jj,wrap_u8,aC,hm]
   . simp(disch:=omega)[go_sem,lK,aQ.e,bm,iH,mark,aa,hn,cT,jj,wrap_u8,aC,hm]
   . simp(disch:=omega)[go_sem,lK,aQ.e,bm,iH,mark,aa,hn,cT,jj,wrap_u8,aC,hm]
   . simp(disch:=omega)[go_sem,aQ.e,bm,iH,mark,aa,hn,cT,jj,wrap_u8,aC,hm];refine an.mk (W8 s l r c true hr) λM hM=> ?_;simp(disch:=omega)[go_sem,aQ.e,bm,iH,mark,aa,hn,cT,jj,wrap_u8,aC,hm]
   . simp(disch:=omega)[go_sem,aQ.e,bm,iH,mark,aa,hn,cT,jj,wrap_u8,aC,hm];refine nD.mk _ _ (λhz=> ?_) (λhz=> ?_)
     . simp(disch:=omega)[go_sem,hz,sK];refine dU (cx (wr:=true) (ah:=0) (by simp(disch:=omega)[go_sem,lM.e])) (.inl rfl) (by decide) (by simp) (by simp) (by simp[lM.e])
     . simp(disch:=omega)[go_sem,hz];refine dU (cx (wr:=true) (ah:=0) (by simp(disch:=omega)[go_sem,lM.e])) (.inl rfl) (by decide) (by simp) (by simp) (by simp[lM.e])
   . simp(disch:=omega)[go_sem,aQ.e,bm,iH,mark,aa,hn,cT,jj,wrap_u8,aC,hm]
   . cases ab:x.tok with
     |true=>
      simp(disch:=omega)[go_sem,aQ.e,bm,iH,mark,aa,hn,cT,jj,wrap_u8,aC,hm,hx,ab,-getElem?_pos];refine jK [ae 0,aD 1,ae 0,ae 0,ae 12,ae 31,ae 63,aD 127] (by kernel_rfl) 0 rfl (N+2) (by simp[go_sem]) ?_;simp(disch:=omega)[go_sem,cT,aC,ad,hx,ab,Sym.e,-getElem?_pos]
     |false=>
      simp(disch:=omega)[go_sem,aQ.e,bm,iH,mark,aa,hn,cT,jj,wrap_u8,aC,hm,hx,ab,-getElem?_pos];refine jK [ae 0,aD 1,ae 0,ae 0,ae 12,ae 31,ae 63,aD 127] (by kernel_rfl) 0 rfl (N+2) (by simp[go_sem]) ?_;simp(disch:=omega)[go_sem,cT,aC,ad,hx,ab,Sym.e,-getElem?_pos]
   . cases ab:x.tok with
     |true=>
      simp(disch:=omega)[go_sem,aQ.e,bm,iH,mark,aa,hn,cT,jj,wrap_u8,aC,hm,hx,ab,-getElem?_pos];refine jK [ae 0,aD 1,ae 0,ae 0,ae 12,ae 31,ae 63,aD 127] (by kernel_rfl) 0 rfl (N+2) (by simp[go_sem]) ?_;simp(disch:=omega)[go_sem,cT,aC,ad,hx,ab,Sym.e,-getElem?_pos]
     |false=>
      simp(disch:=omega)[go_sem,aQ.e,bm,iH,mark,aa,hn,cT,jj,wrap_u8,aC,hm,hx,ab,-getElem?_pos];refine jK [ae 0,aD 1,ae 0,ae 0,ae 12,ae 31,ae 63,aD 127] (by kernel_rfl) 0 rfl (N+2) (by simp[go_sem]) ?_;simp(disch:=omega)[go_sem,cT,aC,ad,hx,ab,Sym.e,-getElem?_pos]
end Go.Sp
end
noncomputable section
open Go Go.au Go.Proofs
namespace Go.Sp
variable {aj:Bool}
def vr(v:Int):Dg:=⟨[(v,0,1)],2⟩
theorem gx{h:ab}{r k n c ah:Nat}{xs:List (List DV)}(hk:0<k)(hx:∀x∈xs,x.length=k)(hn:n=xs.length)(hc:n<=c)(he:ah=0\/ah=k){wr:Bool}(hr:h.get r=some (.row xs.flatten wr ah)):Fz (allRows h) (.v (.slice (some ⟨r,0,none⟩) n c)) (.sl k xs):=
 dU (cx hr) he hk hn hc hx
theorem Gt(v:Int)(h0:0<=v)(h1:v<64):ay E aj 57 [iV v] (.bb [.agg (vr v).e,iV 0]):=by
 refine aW Tryz.ntmps57 Tryz.results57 λN=> ?_;have e1:¬v<0:=by omega
 have e2:¬63<v:=by omega
 simp(disch:=omega)[go_sem,e1,e2,vr,Dg.e,cK];exact gx (by decide) (by simp) (by simp) (DE _) (.inl rfl) (wr:=true) (by simp(disch:=omega)[go_sem])
theorem Xa(v:Int)(h0:0<=v)(h1:v<64):ay E aj 29 [iV v] (.agg (vr v).e):=by
 refine aW Tryz.ntmps29 Tryz.results29 λN=> ?_;simp(disch:=omega)[go_sem];refine an.mk (Gt v h0 h1) λM hM=> ?_;simp(disch:=omega)[go_sem,Dg.e]at hM⊢
theorem oU(a b:Int):ay E aj 81 [iV a,iV b] (.agg (aL.e ⟨1,a,b,0,0⟩)):=by
 refine aW Tryz.ntmps81 Tryz.results81 λN=> ?_;simp(disch:=omega)[go_sem,aL.e]
theorem oV(k a b:Int):ay E aj 82 [iV k,iV a,iV b] (.agg (aL.e ⟨k,0,0,a,b⟩)):=by
 refine aW Tryz.ntmps82 Tryz.results82 λN=> ?_;simp(disch:=omega)[go_sem,aL.e]
def fD:List aL:=[⟨1,97,122,0,0⟩,⟨1,97,122,0,0⟩,⟨4,0,0,1,0⟩,⟨2,0,0,0,2⟩]
def mH:List aL:=[⟨1,9,10,0,0⟩,⟨1,32,32,0,0⟩,⟨3,0,0,0,1⟩,⟨1,9,10,0,0⟩,⟨1,32,32,0,0⟩,⟨3,0,0,3,4⟩,⟨4,0,0,5,0⟩,⟨2,0,0,2,6⟩]
def nL:List aL:=[⟨1,37,37,0,0⟩,⟨1,97,122,0,0⟩,⟨1,32,32,0,0⟩,⟨3,0,0,1,2⟩,⟨4,0,0,3,0⟩,⟨2,0,0,0,4⟩]
def lits:List ByteArray:=[⟨#[43]⟩,⟨#[42]⟩,⟨#[40]⟩,⟨#[41]⟩,⟨#[105,102]⟩,⟨#[101,108,115,101]⟩,⟨#[59]⟩,⟨#[94]⟩]
def fV(s:ByteArray):Tok:=⟨s,0,s,[],⟨#[]⟩,aP true⟩
def ik:Tok:=⟨⟨#[105,100]⟩,0,⟨#[]⟩,fD,⟨#[120]⟩,aP true⟩
def tm:Tok:=⟨⟨#[115,112,97,99,101]⟩,1,⟨#[]⟩,mH,⟨#[]⟩,aP true⟩
def xT:Tok:=⟨⟨#[114,101,109,97,114,107]⟩,2,⟨#[]⟩,nL,⟨#[]⟩,aP true⟩
def ar:List Tok:=(ik::lits.map fV)++[tm,xT]
def tn(s:ByteArray):List DV:=[sV s,iV 0,sV s,dQ,sV ⟨#[]⟩,.sl 3 [],iV 1]
def k9(q k:Nat):List DV:=[sV ik.name,iV 0,sV ⟨#[]⟩,.v (.slice (some ⟨q,0,none⟩) 4 4),sV ik.iD,.sl 3 [],iV 1]++((lits.take k).map tn).flatten
theorem Xb(q k:Nat):(k9 q k).length=7+7*min k 8:=by
 unfold k9;rw[Zj,eW (k:=7) (by intro y hy;obtain⟨z,_,rfl⟩:=List.mem_map.1 hy;rfl)];simp[lits];omega
theorem Xc(q k:Nat)(s:ByteArray)(h:lits[k]? =some s):k9 q (k+1)=k9 q k++tn s:=by
 unfold k9;rw[List.take_add_one,h];simp
theorem Xd:ay E aj 48 [] (.sl 7 (ar.map Tok.e)):=by
 refine aW Tryz.ntmps48 Tryz.results48 λN=> ?_;simp(disch:=omega)[go_sem];refine an.mk (oT true) λM hM=> ?_;simp(disch:=omega)[go_sem]at hM;simp(disch:=omega)[go_sem,Dg.e,aP];refine an.mk (oU 97 122) λP0 af=> ?_;simp(disch:=omega)[go_sem]at af;simp(disch:=omega)[go_sem,Dg.e,aL.e,aP];refine an.mk (oU 97 122) λP1 ai=> ?_;simp(disch:=omega)[go_sem]at ai;simp(disch:=omega)[go_sem,Dg.e,aL.e,aP];refine an.mk (oV 4 1 0) λP2 ao=> ?_;simp(disch:=omega)[go_sem]at ao;simp(disch:=omega)[go_sem,Dg.e,aL.e,aP];refine an.mk (oV 2 0 2) λP3 av=> ?_;simp(disch:=omega)[go_sem]at av;simp(disch:=omega)[go_sem,Dg.e,aL.e,aP];obtain⟨I,hI⟩:∃I:Nat->DS->Prop,∀j d,I j d↔∃(k r z M':Nat),j+k=8/\((z=0/\k=0)\/z=7)/\d=⟨bz [(1,.v (.pointer (some ⟨M,0,none⟩))),(2,.v (.slice (some ⟨r,0,none⟩) (k+1) (k+1))),(3,.v (.slice (some ⟨P3+1,0,none⟩) 8 8)),(4,iV k)],67,[],
  cw M' [(M,.row (aP true).e true 0),(P3+1,.row (lits.map sV) true 0),(P3,.row (fD.map aL.e).flatten true 0),(r,.row (k9 P3 k) true z)]⟩/\P3+2<=M'/\r<M'/\r≠M/\r≠P3+1/\r≠P3:=⟨_,λ_ _=>Iff.rfl⟩
 refine bO I 8 ⟨_,ax.mk (N:=P3+2) ?_ ?_ ?_,(hI _ _).2 ⟨0,M+1,0,P3+2,rfl,.inl ⟨rfl,rfl⟩,rfl,by omega,by omega,by omega,by omega,by omega⟩⟩ ?_
 . simp(disch:=omega)[go_sem]
 . simp[go_sem]
 . simp(disch:=omega)[go_sem,lits,fD,ik,k9,aL.e,Dg.e,aP]
 . intro j d hd;obtain⟨k,r,z,M',hj,hz,rfl,aZ,bc,bd,bf,bg⟩:=(hI _ _).1 hd;clear hd;have ad:(k9 P3 k).length=(k+1)*7:=by rw[Xb];omega
   by_cases hk:k<8
   . obtain⟨s,hs⟩:∃s,lits[k]? =some s:=⟨_,PX (by exact hk)⟩;have aw:(k:Int)<8:=by omega
     have aa:k9 P3 k++tn s=k9 P3 (k+1):=by rw[Xc _ _ _ hs]
     simp(disch:=omega)[go_sem,aw,hs,-getElem?_pos];refine jK [ae 0,ae 0,ae 0,ae 6,aD 14,ae 0,ae 0,ae 96,aD 224,aD 0,ae 1022,cE 2046,aN 4095,ae 8191] (by kernel_rfl) 1 rfl M' (by simp(disch:=omega)[go_sem]) ?_;simp(disch:=omega)[go_sem,hs,Dg.e,aP,-getElem?_pos];rcases hz with⟨rfl,bk⟩|rfl
     . refine fB (wr:=true) (by simp(disch:=omega)[go_sem]) ad (by omega) (by omega) ?_;simp(disch:=omega)[go_sem,aC];refine⟨j-1,by omega,_,ax.mk (N:=M'+2) ?_ ?_ ?_,(hI _ _).2 ⟨k+1,M'+1,7,M'+2,by omega,.inr rfl,rfl,by omega,by omega,by omega,by omega,by omega⟩⟩
       . simp(disch:=omega)[go_sem]
       . simp[go_sem]
       . simp(disch:=omega)[go_sem,<-aa,tn,Tok.e,aP,Dg.e]
     . refine ko (by simp(disch:=omega)[go_sem]) ad (by decide) (by decide) (by simp[go_sem]) (by omega) ?_;simp(disch:=omega)[go_sem,aC];refine⟨j-1,by omega,_,ax.mk (N:=M'+2) ?_ ?_ ?_,(hI _ _).2 ⟨k+1,M'+1,7,M'+2,by omega,.inr rfl,rfl,by omega,by omega,by omega,by omega,by omega⟩⟩
       . simp(disch:=omega)[go_sem]
       . simp[go_sem]
       . simp(disch:=omega)[go_sem,<-aa,tn,Tok.e,aP,Dg.e]
   . obtain rfl:k=8:=by omega
     obtain rfl:z=7:=by omega
     simp(disch:=omega)[go_sem];refine an.mk (oU 9 10) λA0 az=> ?_;simp(disch:=omega)[go_sem]at az;simp(disch:=omega)[go_sem,Dg.e,aL.e,aP];refine an.mk (oU 32 32) λA1 aA=> ?_;simp(disch:=omega)[go_sem]at aA;simp(disch:=omega)[go_sem,Dg.e,aL.e,aP];refine an.mk (oV 3 0 1) λA2 aB=> ?_;simp(disch:=omega)[go_sem]at aB;simp(disch:=omega)[go_sem,Dg.e,aL.e,aP];refine an.mk (oU 9 10) λA3 aE=> ?_;simp(disch:=omega)[go_sem]at aE;simp(disch:=omega)[go_sem,Dg.e,aL.e,aP];refine an.mk (oU 32 32) λA4 aF=> ?_;simp(disch:=omega)[go_sem]at aF;simp(disch:=omega)[go_sem,Dg.e,aL.e,aP];refine an.mk (oV 3 3 4) λA5 aI=> ?_;simp(disch:=omega)[go_sem]at aI;simp(disch:=omega)[go_sem,Dg.e,aL.e,aP];refine an.mk (oV 4 5 0) λA6 aK=> ?_;simp(disch:=omega)[go_sem]at aK;simp(disch:=omega)[go_sem,Dg.e,aL.e,aP];refine an.mk (oV 2 2 6) λA7 aM=> ?_;simp(disch:=omega)[go_sem]at aM;simp(disch:=omega)[go_sem,Dg.e,aL.e,aP];refine an.mk (oU 37 37) λB0 aQ=> ?_;simp(disch:=omega)[go_sem]at aQ;simp(disch:=omega)[go_sem,Dg.e,aL.e,aP];refine an.mk (oU 97 122) λB1 aR=> ?_;simp(disch:=omega)[go_sem]at aR;simp(disch:=omega)[go_sem,Dg.e,aL.e,aP];refine an.mk (oU 32 32) λB2 aS=> ?_;simp(disch:=omega)[go_sem]at aS;simp(disch:=omega)[go_sem,Dg.e,aL.e,aP];refine an.mk (oV 3 1 2) λB3 aT=> ?_;simp(disch:=omega)[go_sem]at aT;simp(disch:=omega)[go_sem,Dg.e,aL.e,aP];refine an.mk (oV 4 3 0) λB4 aU=> ?_;simp(disch:=omega)[go_sem]at aU;simp(disch:=omega)[go_sem,Dg.e,aL.e,aP];refine an.mk (oV 2 0 4) λB5 aX=> ?_;simp(disch:=omega)[go_sem]at aX;simp(disch:=omega)[go_sem,Dg.e,aL.e,aP];refine ko (cs:=k9 P3 8) (by simp(disch:=omega)[go_sem]) ad (by decide) (by decide) (by simp[go_sem]) (by omega) ?_;simp(disch:=omega)[go_sem,Dg.e,aP];refine ko (cs:=k9 P3 8++[sV tm.name,iV 1,sV ⟨#[]⟩,.v (.slice (some ⟨A7,0,none⟩) 8 8),sV ⟨#[]⟩,.sl 3 [],iV 1]) (by simp(disch:=omega)[go_sem,tm]) (by rw[Zj,ad];rfl) (by decide) (by decide) (by simp[go_sem]) (by omega) ?_;simp(disch:=omega)[go_sem];refine ij (cx (wr:=true) (ah:=7) (by simp(disch:=omega)[go_sem];rfl)) (.inr rfl) (by decide) (by simp[ar,lits]) (DE _) (by intro y hy;obtain⟨z,_,rfl⟩:=List.mem_map.1 hy;rfl) ?_;simp(disch:=omega)[go_sem,k9,ar,lits,fV,tn,ik,tm,xT,Tok.e,Dg.e,aP];refine⟨?_, ?_, ?_⟩
     . exact gx (wr:=true) (ah:=0) (by decide) (by simp[aL.e]) (by rfl) (DE _) (.inl rfl) (by simp(disch:=omega)[go_sem,fD,aL.e])
     . exact gx (wr:=true) (ah:=0) (by decide) (by simp[aL.e]) (by rfl) (DE _) (.inl rfl) (by simp(disch:=omega)[go_sem,mH,aL.e])
     . exact gx (wr:=true) (ah:=0) (by decide) (by simp[aL.e]) (by rfl) (DE _) (.inl rfl) (by simp(disch:=omega)[go_sem,nL,aL.e])
end Go.Sp
end
noncomputable section
open Go Go.au Go.Proofs
namespace Go.Sp
variable {aj:Bool}
def xU(ns:List ByteArray):List DV:=[strs [⟨#[65]⟩,⟨#[66]⟩],.sl 3 [],iV 1,.sl 7 (ar.map Tok.e),strs ns,dQ,iV 0,dQ,dQ]
theorem Xe(ns:List ByteArray):ay E true 22 [strs ns] (.agg (xU ns)):=by
 refine aW Tryz.ntmps22 Tryz.results22 λN=> ?_;simp(disch:=omega)[go_sem];refine an.mk (oT true) λM hM=> ?_;simp(disch:=omega)[go_sem]at hM;simp(disch:=omega)[go_sem,Dg.e,aP];refine jK [cE 0,dc 0,aN 0,ae 0,ae 15,aN 31] (by kernel_rfl) 1 rfl (M+1) (by simp(disch:=omega)[go_sem]) ?_;simp(disch:=omega)[go_sem];refine an.mk Xd λM2 aa=> ?_;simp(disch:=omega)[go_sem]at aa;simp(disch:=omega)[go_sem,xU];exact gx (by decide) (by simp) (by simp) (DE _) (.inl rfl) (wr:=true) (by simp(disch:=omega)[go_sem])
theorem bR{ops:List Oper}{t:Tr DV}{n:Nat}{dd:List FuncId}{h:ab}{K:bk->DS->Prop}(pl:List PJ)(ad:uZ ops pl=true)(na:Nat)(af:qe (ops.filter λo=>cls o.op==.alloc).length na=true)
 (hs:cQ E ops h.next ops pl 0 h.next 0 t n dd (h.up (h.next+na)) [] [] [] (K .normal)):xF E ops t n dd h K:=jK pl ad na af h.next rfl hs
theorem Xf{K:ck}{dd:List FuncId}{h:ab}{r n c:Nat}(s:ByteArray)(l:Int)(xs:List Sym)(hr:h.get r=some (.row (xs.map Sym.e).flatten true 0))(hn:n=xs.length)(hc:n<=c)(hk:∀M,h.next<=M->K (.agg (jP s l (.sl 2 (xs.map Sym.e)) (aP true))) dd ((h.set r none).up M) [r]):
 an E aj K dd h (23,[sV s,iV l,.v (.slice (some ⟨r,0,none⟩) n c)]):=
 an.fz (Gr s l (.sl 2 (xs.map Sym.e)) rfl rfl) [r] (by simp[hr]) (.cons (.refl _) (.cons (.refl _) (.cons (dU (gr (by simp) hr) (.inl rfl) (by decide) (by simp[hn]) hc (by simp[Sym.e])) .nil))) hk
def tp(v:Int):Dg:=⟨[(v,1,0)],2⟩
end Go.Sp
end
noncomputable section
open Go Go.au Go.Proofs
namespace Go.Sp
def Gu:ai:=⟨[⟨#[65]⟩,⟨#[66]⟩],aP true,ar,[⟨#[69]⟩],[bm ⟨#[97,100,100]⟩ 0 [⟨false,0⟩,⟨true,1⟩,⟨false,0⟩] (aP true),bm ⟨#[109,117,108]⟩ 0 [⟨false,0⟩,⟨true,2⟩,⟨false,0⟩] (aP true),{bm ⟨#[98,114,97,99,107,101,116]⟩ 0 [⟨true,3⟩,⟨false,0⟩,⟨true,4⟩] (aP true)with bracket:=true},bm ⟨#[110,97,109,101]⟩ 0 [⟨true,0⟩] (aP true),bm ⟨#[112,111,119]⟩ 0 [⟨false,0⟩,⟨true,8⟩,⟨false,0⟩] (vr 1)],0,[⟨[4],2,aP true⟩,⟨[1],1,aP true⟩,⟨[0],1,tp 0⟩],[]⟩
def Gv:ai:=⟨[⟨#[65]⟩,⟨#[66]⟩],aP true,ar,[⟨#[83]⟩,⟨#[67]⟩],[bm ⟨#[98,111,116,104]⟩ 0 [⟨true,5⟩,⟨false,1⟩,⟨false,0⟩,⟨true,6⟩,⟨false,0⟩] (aP true),bm ⟨#[116,104,101,110]⟩ 0 [⟨true,5⟩,⟨false,1⟩,⟨false,0⟩] (aP true),bm ⟨#[99,97,108,108]⟩ 0 [⟨false,1⟩,⟨true,7⟩] (aP true),{bm ⟨#[98,108,111,99,107]⟩ 0 [⟨true,3⟩,⟨false,0⟩,⟨true,4⟩] (aP true)with bracket:=true},bm ⟨#[119,111,114,100]⟩ 1 [⟨true,0⟩] (aP true)],0,[],[⟨2,0,2,1,0,0,[],vr 0⟩,⟨5,0,0,0,0,0,[5,6],vr 1⟩]⟩
def Gw:ai:=⟨[⟨#[65]⟩,⟨#[66]⟩],aP true,ar,[⟨#[76]⟩,⟨#[73]⟩],[bm ⟨#[101,109,112,116,121]⟩ 0 [] (aP true),bm ⟨#[109,111,114,101]⟩ 0 [⟨false,0⟩,⟨false,1⟩] (aP true),{bm ⟨#[116,121,112,101]⟩ 1 [⟨true,1⟩,⟨true,0⟩,⟨true,7⟩] (aP true)with scope:=⟨false,2,1,0,0⟩},{bm ⟨#[112,111,105,110,116,101,114]⟩ 1 [⟨true,0⟩,⟨true,2⟩,⟨true,0⟩,⟨true,7⟩] (aP true)with scope:=⟨false,3,2,1,2⟩},{bm ⟨#[112,114,111,100,117,99,116]⟩ 1 [⟨true,0⟩,⟨true,2⟩,⟨true,0⟩,⟨true,7⟩] (aP true)with scope:=⟨false,0,0,1,5⟩,eJ:=-1},{bm ⟨#[105,110,110,101,114]⟩ 1 [⟨true,3⟩,⟨false,0⟩,⟨true,4⟩] (aP true)with scope:=⟨true,0,0,0,0⟩},{bm ⟨#[115,116,114,105,99,116]⟩ 1 [⟨true,0⟩,⟨true,7⟩] (vr 0)with scope:=⟨false,0,0,1,6⟩}],0,[],[]⟩
def Gx:ai:=⟨[⟨#[65]⟩,⟨#[66]⟩],aP true,ar,[⟨#[66]⟩,⟨#[73]⟩],[bm ⟨#[111,110,101]⟩ 0 [⟨false,1⟩] (aP true),{bm ⟨#[108,105,115,116]⟩ 0 [⟨false,0⟩,⟨false,1⟩] (aP true)with layout:=[⟨2,0,1⟩]},bm ⟨#[119,111,114,100]⟩ 1 [⟨true,0⟩] (aP true),{bm ⟨#[104,101,97,100]⟩ 1 [⟨true,5⟩,⟨true,0⟩,⟨false,0⟩] (aP true)with layout:=[⟨3,0,2⟩,⟨1,2,0⟩]},{bm ⟨#[108,105,110,101]⟩ 1 [⟨true,5⟩,⟨false,0⟩] (vr 0)with layout:=[⟨4,0,1⟩]}],0,[],[]⟩
def Gy:ai:=⟨[⟨#[65]⟩,⟨#[66]⟩],aP true,ar,[⟨#[83]⟩,⟨#[87]⟩,⟨#[86]⟩],[bm ⟨#[112,97,105,114]⟩ 0 [⟨false,1⟩,⟨false,2⟩] (aP true),{bm ⟨#[115,105,110,103,108,101]⟩ 1 [⟨true,0⟩] (aP true)with eJ:=-1},bm ⟨#[100,111,117,98,108,101]⟩ 1 [⟨true,0⟩,⟨true,0⟩] (aP true),bm ⟨#[110,111,110,101]⟩ 2 [] (aP true),bm ⟨#[110,101,120,116]⟩ 2 [⟨true,0⟩,⟨false,2⟩] (aP true),bm ⟨#[109,97,114,107]⟩ 2 [⟨true,1⟩,⟨false,2⟩] (vr 1)],0,[],[⟨3,0,0,0,1,0,[0],vr 0⟩,⟨4,0,0,0,2,0,[1],tp 1⟩]⟩
def Gz:ai:=⟨[⟨#[65]⟩,⟨#[66]⟩],aP true,ar,[⟨#[83]⟩,⟨#[79]⟩,⟨#[80]⟩],[bm ⟨#[97,108,108]⟩ 0 [⟨false,1⟩,⟨true,0⟩,⟨false,1⟩,⟨false,2⟩] (aP true),bm ⟨#[110,111]⟩ 1 [] (aP true),bm ⟨#[121,101,115]⟩ 1 [⟨true,1⟩] (aP true),bm ⟨#[101,110,100]⟩ 2 [] (aP true),bm ⟨#[114,101,115,116]⟩ 2 [⟨true,1⟩,⟨false,2⟩] (vr 0)],0,[],[]⟩
def gQ(b:Int):ai:=if b%6=0 then Gu else if b%6=1 then Gv else if b%6=2 then Gw else if b%6=3 then Gx else if b%6=4 then Gy else Gz
theorem Xg:∀b∈([0,1,2,3,4,5,6,7]:List Int),ay E true 21 [uV b] (.agg (gQ b).e):=bI (by kernel_rfl)
def Bj:Prop:=∀v:Int,0<=v->v<64->ay E true 30 [.agg (vr v).e] (.agg (tp v).e)
def cg(md:List Int->Nat->Dg)(b:Int)(n:Nat):Dg:=if n=0\/b%6<3 then aP true else if b%6=3 then vr (b/6%n)else if b%6=4 then tp (b/6%n)else md [b] n
theorem GA(hc:Bj)(md:List Int->Nat->Dg)(ae:∀(l:List Int) (n:Nat),(∀b∈l,0<=b/\b<256)->n<=3->ay E true 25 [.sl 1 (l.map λb=>[uV b]),iV n] (.agg (md l n).e))(b:Int)(n:Nat)(h0:0<=b)(h1:b<256)(hn:n<=3):
 ay E true 15 [uV b,iV n] (.agg (cg md b n).e):=by
 obtain⟨R,hR⟩:∃R,R=DV.agg (cg md b n).e:=⟨_,rfl⟩;rw[<-hR];refine aW Tryz.ntmps15 Tryz.results15 λN=> ?_;have hw:IntKind.u8.wrap (b%6)=b%6:=wrap_u8 (by omega) (by omega);by_cases hz:n=0
 . subst hz;simp(disch:=omega)[go_sem];refine an.mk (oT true) λM hM=> ?_;simp(disch:=omega)[go_sem]at hM;simp(disch:=omega)[go_sem,Dg.e,hR,cg]
 have aa:¬(n:Int)=0:=by omega
 by_cases h3:b%6<3
 . simp(disch:=omega)[go_sem,hz,aa,cT,hw,h3];refine an.mk (oT true) λM hM=> ?_;simp(disch:=omega)[go_sem]at hM;simp(disch:=omega)[go_sem,Dg.e,hR,cg,h3]
 have ad:0<=b/6%(n:Int):=adU _ aa;have af:b/6%(n:Int)<n:=adV _ (by omega);have hq:IntKind.u8.wrap (b/6)=b/6:=wrap_u8 (by omega) (by omega);simp(disch:=omega)[go_sem,hz,aa,cT,jj,hw,hq,h3,aC];have ai:ca (.agg (vr (b/6%(n:Int))).e)=(vr (b/6%(n:Int))).e:=by simp[go_sem,vr,Dg.e,cK]
 refine an.mk (Xa (b/6%n) ad (by omega)) λM hM=> ?_;simp(disch:=omega)[go_sem]at hM;have h6:b%6=3\/b%6=4\/b%6=5:=by omega
 rcases h6 with h|h|h
 . simp(disch:=omega)[go_sem,Dg.e,cT,wrap_u8,h,hR,cg,hz]
 . simp(disch:=omega)[go_sem,Dg.e,cT,wrap_u8,h];refine an.mk (hc (b/6%n) ad (by omega)) λM2 ab=> ?_;simp(disch:=omega)[go_sem]at ab;simp(disch:=omega)[go_sem,Dg.e,hR,cg,hz,h]
 . simp(disch:=omega)[go_sem,Dg.e,cT,wrap_u8,h];refine an.fz (ae [b] n (by simp;omega) hn) [M+1] ?_ ?_ λM2 ab=> ?_
   . simp(disch:=omega)[go_sem]
   . simp(disch:=omega)[go_sem];exact dU (gr (wr:=true) (by simp) (by simp(disch:=omega)[go_sem])) (.inl rfl) (by decide) (by simp) (DE _) (by simp)
   simp(disch:=omega)[go_sem]at ab;simp(disch:=omega)[go_sem,Dg.e,hR,cg,hz,h]
theorem GU:Bj:=by
 have h:∀c∈GP 64,ay E true 30 [.agg (vr (c:Int)).e] (.agg (tp (c:Int)).e):=bI (by kernel_rfl);intro v h0 h1;have:=h v.toNat (by simp;omega);rwa[Int.toNat_of_nonneg h0]at this
end Go.Sp
end

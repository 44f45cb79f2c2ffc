/- Parts of a proof. -/
import Derived.DataReads
import Derived.Test.YtlgccnjcmfighaaGreatDoorK07
import Derived.Test.YtlgccnjcmfighaaGreatDoorK08
open Nat renaming le_refl->qG,beq->RC,zero_add->RW,eq_of_beq_eq_true->Vs,lt_or_ge->adv,le_of_ble_eq_true->afw,add_mul->afC,eq_zero_or_pos->afK,lt_of_lt_of_le->afL,mul_le_mul_right->afN
open List renaming mem_map->yy,getElem?_eq_getElem->yB,eq_nil_of_length_eq_zero->E2,mem_append->FQ,mem_singleton->KE,range->Xy,flatten_append->YN,getElem?_eq_some_iff->Zf,getElem?_take->ab8,mem_cons_of_mem->afj,flatten_cons->afv,all_eq_true->afx,length_map->afy,mem_of_getElem?->afz,take_add_one->afA,take_of_length_le->afB,length_append->afD,getElem?_map->afE,length_take->afG,getElem?_drop->afH,map_congr_left->afJ,mem_of_mem_take->afM,any_eq_true->afO,countP_pos_iff->afP
open Bool renaming and_eq_true->RK
open Int renaming emod_nonneg->YT,emod_lt_of_pos->adr
open Option renaming map_eq_some_iff->afF
open Option.some renaming injEq->afI
set_option linter.all false
set_option maxRecDepth 100000
noncomputable section
open Go Go.aD Go.Proofs
namespace Go.Sp
variable {ar:Bool}
def bc{f:FuncId}{fn:Func}{c:Code}{ab:List DV}{dv:DV}{n:Nat}(hn:fn.ntmps=n){rs:List ResultVar}(ad:fn.results=rs.toArray)
 (hq:∀N,RD E ar c ⟨iX ab,ab.length+(n-ab.length),[],ae.none N⟩ (jL E rs λd h=>Fz (allRows h) d dv)) (af:E.fn f=some fn:=by kernel_rfl) (hb:fn.body=some c:=by rfl):aE E ar f ab dv:=aE.of (kG []) lH (tE []) af hb hn ad hq
def bS{c:Code}{K:bB->DS->Prop}{d:DS}(I:Nat->DS->Prop)(j:Nat)(hw:∃d',aB d d'/\I j d')(hI:∀j d,I j d->RD E ar c d (KI I j K)):WD E ar (.loop c) d K:=WD.loop (kG []) lH I hI j d hw
def Xz(e:Env)(ops:List Oper)(op:Op)(dst:Option Tmp)(r:List Oper)(t:Tr DV)(n:Nat)(dd:List FuncId)(h:ae)(K:DS->Prop)(w:Bool):ml e ar ops op dst r t n dd h K w cU=fg e ar ops r (cH dst cU t) n dd h K:=Gr ..
def XA(h:ae):gk h []=h:=(rfl)
def XB(h:ae)(i:Nat)(l:List Nat):gk h (i::l)=(gk h l).set i none:=(rfl)
attribute [go_sem] tC Xz XA XB
def XC{α:Type}{a b:Nat}{x y:α}(h:a≠b):(if a=b then x else y)=y:=if_neg h
def XD{α:Type}{a b:Nat}{x y:α}(h:a=b):(if a=b then x else y)=x:=if_pos h
attribute [go_sem] ae.bu ae.dN XC XD
def bw:List (Nat×DV)->Tr DV
 |[]=>.nil
 |(i,v)::l=>(bw l).set i (some v)
def cj(N:Nat):List (Nat×bF)->ae
 |[]=>ae.none N
 |(i,o)::l=>(cj N l).set i (some o)
def BM(i:Nat):(bw []).get i=none:=Tr.get_nil i
def yk(i j:Nat)(v:DV)(l:List (Nat×DV)):(bw ((i,v)::l)).get j=if j=i then some v else(bw l).get j:=Tr.bu _ _ _ _
def vQ(N i:Nat):(cj N []).get i=none:=ae.get_none _ _
def tP(N i j:Nat)(o:bF)(l:List (Nat×bF)):(cj N ((i,o)::l)).get j=if j=i then some o else(cj N l).get j:=ae.bu _ _ _ _
def tQ(N:Nat):∀(l:List (Nat×bF)),(cj N l).next=N
 |[]=>rfl
 |_::l=>tQ N l
def tR{t:Tr DV}:∀{l:List (Nat×DV)},(∀p∈l,t.get p.1=some p.2)->∀i v,(bw l).get i=some v->t.get i=some v
 |[],_,i,v,h=>by rw[BM]at h;cases h
 |(j,u)::l,hl,i,v,h=>by
  rw[yk]at h
  split at h
  . rename_i hi;subst hi;cases h;exact hl (i,u) aw
  . exact tR (λp hp=>hl p (afj _ hp)) i v h
def yl{h:ae}{N:Nat}:∀{l:List (Nat×bF)},(∀p∈l,h.get p.1=some p.2)->∀i o,(cj N l).get i=some o->h.get i=some o
 |[],_,i,v,h=>by rw[vQ]at h;cases h
 |(j,u)::l,hl,i,v,h=>by
  rw[tP]at h
  split at h
  . rename_i hi;subst hi;cases h;exact hl (i,u) aw
  . exact yl (λp hp=>hl p (afj _ hp)) i v h
def gm(t:Tr DV):List (Nat×DV)->Prop
 |[]=>True
 |p::l=>t.get p.1=some p.2/\gm t l
def ni(h:ae):List (Nat×bF)->Prop
 |[]=>True
 |p::l=>h.get p.1=some p.2/\ni h l
def XE(t:Tr DV):gm t []=True:=(rfl)
def XF(t:Tr DV)(i:Nat)(v:DV)(l:List (Nat×DV)):gm t ((i,v)::l)=(t.get i=some v/\gm t l):=(rfl)
def XG(h:ae):ni h []=True:=(rfl)
def XH(h:ae)(i:Nat)(v:bF)(l:List (Nat×bF)):ni h ((i,v)::l)=(h.get i=some v/\ni h l):=(rfl)
def gm.mem{t:Tr DV}:∀{l:List (Nat×DV)},gm t l->∀p∈l,t.get p.1=some p.2
 |_::_,⟨h1,h2⟩,p,hp=>by
  rcases List.mem_cons.1 hp with rfl|hp
  . exact h1
  . exact h2.mem p hp
def ni.mem{t:ae}:∀{l:List (Nat×bF)},ni t l->∀p∈l,t.get p.1=some p.2
 |_::_,⟨h1,h2⟩,p,hp=>by
  rcases List.mem_cons.1 hp with rfl|hp
  . exact h1
  . exact h2.mem p hp
def aB.mk{t:Tr DV}{n N:Nat}{dd:List FuncId}{h:ae}{l:List (Nat×DV)}{r:List (Nat×bF)}(hN:h.next=N)(ht:gm t l)(hh:ni h r):aB ⟨t,n,dd,h⟩ ⟨bw l,n,dd,cj N r⟩:=
 aB.forget (by rw[tQ,hN]) (tR ht.mem) (yl hh.mem)
attribute [go_sem] XE XF XG XH
attribute [go_sem] BM yk vQ tP tQ
abbrev iV(n:Int):DV:=.v (.int .i64 n)
abbrev bV(b:Bool):DV:=.v (.bool b)
abbrev sV(s:ByteArray):DV:=.v (.string s)
abbrev cK:DV:=.v (.slice none 0 0)
abbrev uV(n:Int):DV:=.v (.int .u8 n)
section
variable {S:eQ}
def vR(d:DV):Fz S d d=True:=eq_true (.refl d)
def XI(l:List DV):cI S l l=True:=eq_true (cI.refl l)
def vS:cI S [] []=True:=eq_true .nil
def vT(a b:DV)(x y:List DV):cI S (a::x) (b::y)=(Fz S a b/\cI S x y):=propext ⟨λh=>by cases h with|cons h1 h2=>exact⟨h1,h2⟩,λ⟨h1,h2⟩=>.cons h1 h2⟩
def GN(x y:List DV):Fz S (.agg x) (.agg y)=cI S x y:=propext ⟨λh=>by
 cases h with
 |refl _=>exact cI.refl _
 |agg h1 h2=>exact aV.rA h1 h2,Fz.dO⟩
def XJ(x y:List DV):Fz S (.bp x) (.bp y)=cI S x y:=propext ⟨λh=>by
 cases h with
 |refl _=>exact cI.refl _
 |bp h1 h2=>exact aV.rA h1 h2,Fz.j9⟩
def XK(c k:Nat):Fz S (.v (.slice none 0 c)) (.sl (k+1) [])=True:=eq_true (.nil (Nat.succ_pos k))
def sk{k:Nat}:∀{xs:List (List DV)} (j i:Nat) (x:List DV) (d:DV),(∀x∈xs,x.length=k)->xs[j]? =some x->x[i]? =some d->xs.flatten[j*k+i]? =some d
 |[],j,i,x,d,_,h,_=>by simp at h
 |y::xs,0,i,x,d,hl,h,hi=>by
  simp only[List.getElem?_cons_zero,afI]at h;subst h;have:=(Zf.1 hi).1;rw[afv,List.getElem?_append_left aa];simpa using hi
 |y::xs,j+1,i,x,d,hl,h,hi=>by
  have hy:y.length=k:=hl y aw;rw[afv,List.getElem?_append_right (by rw[hy,afC];omega),hy];have:=sk j i x d (λz hz=>hl z (afj _ hz)) (by simpa using h) hi;rw[<-this];congr 1;rw[afC];omega
def fF{k:Nat}:∀{xs:List (List DV)},(∀x∈xs,x.length=k)->xs.flatten.length=xs.length*k
 |[],_=>aw
 |y::xs,h=>by
  rw[afv,afD,h y aw,fF λx hx=>h x (afj _ hx),List.length_cons,afC];omega
def dY{r n c k aj:Nat}{xs:List (List DV)}(hr:S r=some (xs.flatten,aj))(he:aj=0\/aj=k)(hk:0<k)(hn:n=xs.length)(hc:n<=c)(hx:∀x∈xs,x.length=k):Fz S (.v (.slice (some ⟨r,0,none⟩) n c)) (.sl k xs):=
 .sl hr he hk hn hc hx (by rw[fF hx];omega) λj x i v d h1 h2 h3=>by
  have:=sk j i x d hx h1 h2;rw[RW,this]at h3;cases h3;exact .refl _
def iZ{r n c k aj:Nat}{cs:List DV}{xs:List (List DV)}(hr:S r=some (cs,aj))(he:aj=0\/aj=k)(hk:0<k)(hn:n=xs.length)(hc:n<=c)(hx:∀x∈xs,x.length=k)(hz:cI S cs xs.flatten):Fz S (.v (.slice (some ⟨r,0,none⟩) n c)) (.sl k xs):=
 .sl hr he hk hn hc hx (by rw[aV.length hz,fF hx];omega) λj x i v d h1 h2 h3=>by
  have h4:=sk j i x d hx h1 h2;rw[RW]at h3;obtain⟨d',h5,h6⟩:=aV.get hz _ v h3;rw[h4]at h5;cases h5;exact h6
end
attribute [go_sem] qv vR XI vS vT GN XJ XK Xq Xr Xs Xt BL Xu tN Xv Xw
def ck{h:ae}{i:Nat}{cs:List DV}{wr:Bool}{aj:Nat}(hg:h.get i=some (.row cs wr aj)):allRows h i=some (cs,aj):=by unfold allRows;rw[hg]
def kP{h:ae}{i len sz b n:Nat}{cs new:List DV}{K:DV×ae×List Nat->Prop}(hg:h.get i=some (.row cs true sz))(hc:cs.length=len*sz)(hs:0<sz)(hn:0<n)(h1:new.all cZ=true)(hb:(len+n)*(b+1)<=1073741824)
 (hk:K (.v (.slice (some ⟨h.next,0,none⟩) (len+n) (len+n)),(h.set i none).new (.row (cs++new) true sz),[i])):aO (eP h (some ⟨i,0,none⟩) len len sz b n new) K:=⟨_,vI h i len sz b n cs new hg hc hs hn h1 hb,hk⟩
def fM{h:ae}{i len sz b n:Nat}{cs new:List DV}{wr:Bool}{K:DV×ae×List Nat->Prop}(hg:h.get i=some (.row cs wr 0))(hc:cs.length=len*sz)(hn:0<n)(hb:(len+n)*(b+1)<=1073741824)
 (hk:K (.v (.slice (some ⟨h.next,0,none⟩) (len+n) (len+n)),h.new (.row (cs++new) true sz),[])):aO (eP h (some ⟨i,0,none⟩) len len sz b n new) K:=⟨_,Gw h i len sz b n cs new wr hg hc hn hb,hk⟩
def GO{h:ae}{sz b n:Nat}{new:List DV}{K:DV×ae×List Nat->Prop}(hn:0<n)(hb:n*(b+1)<=1073741824)(hk:K (.v (.slice (some ⟨h.next,0,none⟩) n n),h.new (.row new true sz),[])):aO (eP h none 0 0 sz b n new) K:=⟨_,se h sz b n new hn hb,hk⟩
def gv(r:Option Nat)(n:Nat):DV:=match r with
 |none=>cK
 |some r=>.v (.slice (some ⟨r,0,none⟩) n n)
def gh(r:Option Nat)(k:Nat)(cs:List DV):List (Nat×bF):=match r with
 |none=>[]
 |some r=>[(r,.row cs true k)]
def XL(n:Nat):gv none n=cK:=(rfl)
def XM(r n:Nat):gv (some r) n=.v (.slice (some ⟨r,0,none⟩) n n):=(rfl)
def XN(k:Nat)(cs:List DV):gh none k cs=[]:=(rfl)
def XO(r k:Nat)(cs:List DV):gh (some r) k cs=[(r,.row cs true k)]:=(rfl)
attribute [go_sem] XL XM XN XO
structure Dg where
 nodes:List (Int×Int×Int)
 root:Int
structure bd where
 kind:Int
 lo:Int
 hi:Int
 a:Int
 b:Int
structure Tok where
 name:ByteArray
 cls:Int
 lit:ByteArray
 pat:List bd
 jl:ByteArray
 cond:Dg
structure Sym where
 tok:Bool
 idx:Int
structure mo where
 kind:Int
 a:Int
 b:Int
structure GP where
 opens:Bool
 declares:Int
 kind:Int
 vU:Int
 allowed:Int
structure aX where
 name:ByteArray
 left:Int
 right:List Sym
 cond:Dg
 bracket:Bool
 fh:Int
 layout:List mo
 scope:GP
structure dg where
 ay:List Int
 assoc:Int
 cond:Dg
structure bk where
 kind:Int
 parent:Int
 at_:Int
 child:Int
 left:Int
 token:Int
 au:List Int
 cond:Dg
structure aq where
 conds:List ByteArray
 family:Dg
 au:List Tok
 aP:List ByteArray
 ay:List aX
 start:Int
 bn:List dg
 aZ:List bk
def cL(x:Int×Int×Int):List DV:=[iV x.1,iV x.2.1,iV x.2.2]
abbrev ints(l:List Int):DV:=.sl 1 (l.map λn=>[iV n])
abbrev strs(l:List ByteArray):DV:=.sl 1 (l.map λs=>[sV s])
def Dg.e(d:Dg):List DV:=[.sl 3 (d.nodes.map cL),iV d.root]
def bd.e(x:bd):List DV:=[iV x.kind,iV x.lo,iV x.hi,iV x.a,iV x.b]
def Tok.e(x:Tok):List DV:=[sV x.name,iV x.cls,sV x.lit,.sl 5 (x.pat.map bd.e),sV x.jl,.sl 3 (x.cond.nodes.map cL),iV x.cond.root]
def Sym.e(x:Sym):List DV:=[bV x.tok,iV x.idx]
def mo.e(x:mo):List DV:=[iV x.kind,iV x.a,iV x.b]
def aX.e(x:aX):List DV:=[sV x.name,iV x.left,.sl 2 (x.right.map Sym.e),.sl 3 (x.cond.nodes.map cL),iV x.cond.root,bV x.bracket,iV x.fh,.sl 3 (x.layout.map mo.e),bV x.scope.opens,iV x.scope.declares,iV x.scope.kind,iV x.scope.vU,iV x.scope.allowed]
def dg.e(x:dg):List DV:=[ints x.ay,iV x.assoc,.sl 3 (x.cond.nodes.map cL),iV x.cond.root]
def bk.e(x:bk):List DV:=[iV x.kind,iV x.parent,iV x.at_,iV x.child,iV x.left,iV x.token,ints x.au,.sl 3 (x.cond.nodes.map cL),iV x.cond.root]
def aq.e(x:aq):List DV:=[strs x.conds,.sl 3 (x.family.nodes.map cL),iV x.family.root,.sl 7 (x.au.map Tok.e),strs x.aP,.sl 13 (x.ay.map aX.e),iV x.start,.sl 4 (x.bn.map dg.e),.sl 9 (x.aZ.map bk.e)]
def eE:List DV:=[cK,cK,iV 0,cK,cK,cK,iV 0,cK,cK]
end Go.Sp
end
noncomputable section
open Go Go.aD Go.Proofs
namespace Go.Sp
def Ce:Value->Value->Bool
 |.bool a,.bool b=>a==b
 |.int j a,.int k b=>decide (j=k)&&decide (a=b)
 |.string a,.string b=>decide (a=b)
 |.pointer none,.pointer none=>true
 |.slice none l c,.slice none m d=>RC l m&&RC c d
 |.map none,.map none=>true
 |.nilFunc,.nilFunc=>true
 |.nilIface,.nilIface=>true
 |_,_=>false
def YO{a b:Value}(h:Ce a b=true):a=b/\jm a=true:=by
 unfold Ce at h
 split at h
 . exact⟨by rw[eq_of_beq h],rfl⟩
 . simp only[RK,decide_eq_true_eq]at h;exact⟨by rw[h.1,h.2],rfl⟩
 . simp only[decide_eq_true_eq]at h;exact⟨by rw[h],rfl⟩
 . exact⟨rfl,rfl⟩
 . simp only[RK]at h;exact⟨by rw[Vs h.1,Vs h.2],rfl⟩
 . exact⟨rfl,rfl⟩
 . exact⟨rfl,rfl⟩
 . exact⟨rfl,rfl⟩
 . cases h
def oi(f:DV->DV->Bool):List DV->List DV->Bool
 |[],[]=>true
 |a::x,b::y=>f a b&&oi f x y
 |_,_=>false
def ud(f:List DV->List DV->Bool):List (List DV)->List (List DV)->Bool
 |[],[]=>true
 |a::x,b::y=>f a b&&ud f x y
 |_,_=>false
def HN(f:DV->DV->Bool)(o m c k:Nat)(xs:List (List DV)):Option bF->Bool
 |some (.row cs _ aj)=>(RC aj 0||RC aj k)&&Nat.blt 0 k&&RC m xs.length&&Nat.ble m c&&xs.all (λx=>RC x.length k)&&Nat.ble (o+m*k) cs.length&&oi f ((cs.drop o).take (m*k)) xs.flatten
 |_=>false
def HO(f:DV->DV->Bool)(xs:List DV):Option bF->Bool
 |some (.row cs _ _)=>oi f cs xs
 |_=>false
def qH:Nat->ae->DV->DV->Bool
 |0,_,_,_=>false
 |n+1,h,d,e=>match d with
  |.v a=>match e with
   |.v b=>Ce a b
   |.sl k xs=>match a with
    |.slice none l _=>Nat.blt 0 k&&RC l 0&&xs.isEmpty
    |.slice (some ⟨b,o,none⟩) m c=>HN (qH n h) o m c k xs (h.get b)
    |_=>false
   |.ptr xs off=>match a with
    |.pointer (some ⟨b,o,none⟩)=>RC o off&&HO (qH n h) xs (h.get b)
    |_=>false
   |_=>false
  |.agg a=>match e with
   |.agg l=>oi (qH n h) a l
   |_=>false
  |.bp a=>match e with
   |.bp l=>oi (qH n h) a l
   |_=>false
  |.sl k xs=>match e with
   |.sl k' ys=>RC k k'&&ud (oi (qH n h)) xs ys
   |_=>false
  |_=>false
section
variable {N:Nat} {h0 h:ae} {S:eQ}
def sv{f:DV->DV->Bool}:∀{x y:List DV},oi f x y=true->x.length=y.length/\∀(i:Nat) (v d:DV),x[i]? =some v->y[i]? =some d->f v d=true
 |[],[],_=>⟨rfl,λi v d h=>by simp at h⟩
 |a::x,b::y,h=>by
  simp only[oi,RK]at h;obtain⟨h1,h2⟩:=sv h.2;refine⟨by simp[h1],λi v d h3 h4=> ?_⟩;cases i with
  |zero=>simp at h3 h4;subst h3;subst h4;exact h.1
  |succ i=>exact h2 i v d (by simpa using h3) (by simpa using h4)
 |[],_::_,h=>by simp[oi]at h
 |_::_,[],h=>by simp[oi]at h
def HP{f:List DV->List DV->Bool}:∀{x y:List (List DV)},ud f x y=true->x.length=y.length/\∀(i:Nat) (v d:List DV),x[i]? =some v->y[i]? =some d->f v d=true
 |[],[],_=>⟨rfl,λi v d h=>by simp at h⟩
 |a::x,b::y,h=>by
  simp only[ud,RK]at h;obtain⟨h1,h2⟩:=HP h.2;refine⟨by simp[h1],λi v d h3 h4=> ?_⟩;cases i with
  |zero=>simp at h3 h4;subst h3;subst h4;exact h.1
  |succ i=>exact h2 i v d (by simpa using h3) (by simpa using h4)
 |[],_::_,h=>by simp[ud]at h
 |_::_,[],h=>by simp[ud]at h
def getM{f:DV->DV}{x:List DV}{i:Nat}{v:DV}(h:(x.map f)[i]? =some v):∃u,x[i]? =some u/\v=f u:=by
 rw[afE,afF]at h;obtain⟨u,h1,h2⟩:=h;exact⟨u,h1,h2.symm⟩
def HQ(hh:HS N h0 h):∀(n:Nat) {d e:DV},qH n h0 d e=true->Fz (allRows h) (sh N d) e
 |0,_,_,hd=>by cases hd
 |n+1,d,e,hd=>by
  have ih:= @HQ hh n;unfold qH at hd
  split at hd
  . rename_i a
    split at hd
    . obtain⟨rfl,h1⟩:=YO hd;rw[bT,qD h1];exact .refl _
    . rename_i k xs
      split at hd
      . simp only[RK,List.isEmpty_iff]at hd;obtain⟨⟨h1,h2⟩,rfl⟩:=hd;have:=Vs h2;subst this;rw[bT];exact .nil (afw h1)
      . rename_i b o m c;unfold HN at hd
        split at hd
        . rename_i cs wr aj hg;simp only[RK,Bool.or_eq_true,afx]at hd;obtain⟨⟨⟨⟨⟨⟨h1,h2⟩,h3⟩,h4⟩,h5⟩,h7⟩,h6⟩:=hd;have hk:0<k:=afw h2;have hm:=Vs h3;have hx:∀x∈xs,x.length=k:=λx hx=>Vs (h5 x hx);obtain⟨g1,g2⟩:=sv h6;rw[fF hx,afG,List.length_drop]at g1;simp only[bT,bY,eR];refine .sl (ck (hh.row hg)) (h1.imp Vs Vs) hk hm (afw h4) hx ?_ λj x i v d e1 e2 e3=> ?_
          . rw[afy,<-hm];exact afw h7
          . obtain⟨u,e4,rfl⟩:=getM e3;have e5:=sk j i x d hx e1 e2;have hj:j*k+i<m*k:=by
             have:=(Zf.1 e5).1;rw[fF hx]at this;rw[hm];exact this
            refine ih (g2 (j*k+i) u d ?_ e5);rw[ab8,if_pos hj,afH,<-Nat.add_assoc];exact e4
        . cases hd
      . cases hd
    . rename_i xs off
      split at hd
      . rename_i b o;simp only[RK]at hd;obtain⟨h1,hd⟩:=hd;have:=Vs h1;subst this;unfold HO at hd
        split at hd
        . rename_i cs wr aj hg;obtain⟨g1,g2⟩:=sv hd;simp only[bT,bY,eR];have e:Fz (allRows h) (.v (.pointer (some ⟨b+N,0+o,none⟩))) (.ptr xs o):=.ptr (ck (hh.row hg)) (by rw[afy];omega) λi v d e1 e2=>by
           rw[RW]at e2;obtain⟨u,e4,rfl⟩:=getM e2;exact ih (g2 i u d e4 e1)
          rwa[RW]at e
        . cases hd
      . cases hd
    . cases hd
  . split at hd
    . rename_i a l;rw[kj];obtain⟨g1,g2⟩:=sv hd;refine .agg (by simpa using g1) λi v d e1 e2=> ?_;obtain⟨u,e4,rfl⟩:=getM e1;exact ih (g2 i u d e4 e2)
    . cases hd
  . split at hd
    . rename_i a l;rw[jO];obtain⟨g1,g2⟩:=sv hd;refine .bp (by simpa using g1) λi v d e1 e2=> ?_;obtain⟨u,e4,rfl⟩:=getM e1;exact ih (g2 i u d e4 e2)
    . cases hd
  . split at hd
    . rename_i k xs k' ys;simp only[RK]at hd;have:=Vs hd.1;subst this;rw[mq];obtain⟨g1,g2⟩:=HP hd.2;refine .sub (by simpa using g1) (λj x y e1 e2=> ?_) λj x y i v d e1 e2 e3 e4=> ?_
      . rw[afE,afF]at e1;obtain⟨x',e1,rfl⟩:=e1;rw[afy];exact(sv (g2 j _ _ e1 e2)).1
      . rw[afE,afF]at e1;obtain⟨x',e1,rfl⟩:=e1;obtain⟨u,e5,rfl⟩:=getM e3;exact ih ((sv (g2 j _ _ e1 e2)).2 i u d e5 e4)
    . cases hd
  . cases hd
end
def pD:Nat->DV->Bool
 |0,_=>false
 |n+1,d=>match d with
  |.v x=>jm x
  |.agg l=>l.all (pD n)
  |.bp l=>l.all (pD n)
  |.sl _ xs=>xs.all λx=>x.all (pD n)
  |.ptr xs _=>xs.all (pD n)
  |.fn _ a c=>a.all (pD n)&&c.all (pD n)
def sw{f:DV->DV}{p:DV->Bool}{l:List DV}(hf:∀d,p d=true->f d=d)(h:l.all p=true):l.map f=l:=by
 simp only[afx]at h;exact(afJ λd hd=>hf d (h d hd)).trans (List.map_id' l)
def HR{N:Nat}:∀(n:Nat) (d:DV),pD n d=true->sh N d=d
 |0,_,h=>by cases h
 |n+1,d,h=>by
  have ih:= @HR N n;unfold pD at h
  split at h
  . rw[bT,qD h]
  . rw[kj,sw (λd=>ih d) h]
  . rw[jO,sw (λd=>ih d) h]
  . rename_i k xs;rw[mq];congr 1;simp only[afx]at h;exact(afJ λx hx=>sw (λd=>ih d) (by simpa using h x hx)).trans (List.map_id' xs)
  . rw[nj,sw (λd=>ih d) h]
  . rw[RK]at h;rw[py,sw (λd=>ih d) h.1,sw (λd=>ih d) h.2]
def Cf(e:Env)(n:Nat)(f:FuncId)(args:List DV)(dv:DV):Bool:=args.all (pD 9)&&match og e (oh e n) f args ⟨.nil,0⟩with
 |some (v,h)=>qH 9 h v dv
 |none=>false
def HT{f:FuncId}{args:List DV}{dv:DV}(n:Nat)(h:Cf E.bf n f args dv=true):aE E true f args dv:=by
 simp only[Cf,RK]at h;obtain⟨h1,h2⟩:=h
 split at h2
 . rename_i v h' hc;have ad:∀N,args.map (sh N)=args:=λN=>sw (λd=>HR 9 d) h1;obtain⟨fn,c,x,s,l,q1,q2,q3,q4,q5,q6,rfl,rfl⟩:=HI hc;refine aE.of (kG []) lH (tE []) q1 q2 rfl (rs:=fn.results.toList) aw λN=> ?_;have hh:HS N (⟨.nil,0⟩:ae) (ae.none N):=by have:=HS.none (N:=N) 0;rwa[RW]at this
   obtain⟨aa,c',r1,r2,r3⟩:=yw (N:=N) (YM (kG []) lH (tE []) n) hc hh;have ab:E.fn f=some aa:=r1;have e1:aa=fn:=by rw[show E.fn f=some fn from q1]at ab;cases ab;rfl
   subst e1;rw[q2]at r2;cases r2;rw[ad N]at r3;exact r3 _ λaf h3=>HQ h3 9 h2
 . cases h2
def bR{α:Type}{l:List α}{f:FuncId}{args:α->List DV}{res:α->DV}(h:(l.all λp=>Cf E.bf 3000 f (args p) (res p))=true):∀p∈l,aE E true f (args p) (res p):=λp hp=>HT 3000 (afx.1 h p hp)
end Go.Sp
end
noncomputable section
open Go Go.aD Go.Proofs
namespace Go.Sp
def Zi(x:Int×Int×Int)(N:List (Int×Int×Int)):List (Int×Int×Int)×Int:=bif decide (x.2.1=x.2.2)then(N,x.2.1)else match N.findIdx? λy=>decide (y=x)with
 |some i=>(N,(i:Int)+2)
 |none=>(N++[x],(N.length:Int)+2)
def Cr(c:Nat):Nat->Int->Nat->Nat->List (Int×Int×Int)->List (Int×Int×Int)×Int
 |0,_,o,_,N=>(N,bif c.testBit o then 1 else 0)
 |k+1,v,o,s,N=>match Cr c k (v+1) o (2*s) N with
  |(N,l)=>match Cr c k (v+1) (o+s) (2*s) N with
   |(N,u)=>Zi (v,l,u) N
def aM(c:Nat):Dg:=match Cr c 3 0 0 1 []with
 |(N,r)=>⟨N,r⟩
def tv:Nat->List Nat
 |0=>[0,3,12,15,48,51,60,63,192,195,204,207,240,243,252,255]
 |1=>[0,15,240,255]
 |_=>[0,255]
def xv:Nat->Nat
 |0=>170
 |1=>204
 |_=>240
def Zj:List (Nat×Nat):=(Xy 3).flatMap λv=>(tv v).map λt=>(xv v,t)
def Zk:List (Nat×Nat):=(Xy 3).flatMap λv=>(tv v).map λt=>(t,255-xv v)
def ie:List (Nat×Nat):=(Xy 3).flatMap λv=>(tv v).flatMap λt=>(tv v).map λs=>(xv v&&&t,s&&&(255-xv v))
def eF:List (Nat×Int):=(Xy 256).map (λc=>(c,3))++((Xy 16).map (λc=>(17*c,2))++((Xy 4).map (λc=>(85*c,1))++(Xy 2).map λc=>(255*c,0)))
def Cs{α:Type}{P:α->Prop}{l:List α}(n k:Nat)(hn:l.length<=n*k)(h:∀i,i<k->∀p∈(l.drop (n*i)).take n,P p):∀p∈l,P p:=λp hp=>by
 obtain⟨j,hj,rfl⟩:=List.getElem_of_mem hp;have h0:0<n:=(afK n).elim (λh=>by subst h;omega) id;have h1:=Nat.div_add_mod j n;have h2:=Nat.mod_lt j h0;refine h (j/n) ((Nat.div_lt_iff_lt_mul h0).2 (by rw[Nat.mul_comm];omega)) _ (afz (i:=j%n) ?_);rw[ab8,if_pos h2,afH,h1,yB hj]
end Go.Sp
end
noncomputable section
open Go
namespace Go.aD
def pE(h:ab):Nat->Prop:=λi=>i<h.next
structure qI(W:World)(ρ:aH)(h:ab):Prop where
 w:bz ρ h W
 ro:∀i o,h.get i=some o->o.wr=false
 z:h.get dW=some (.row jh false 0)
 r0:ρ dW=some ⟨dW,0,64,64,0,λ_=>True⟩
 gl:∀g,g<dW+1->∃pl,ρ g=some pl/\pl.bh=g/\pl.off=0
structure kQ(ρ:aH)(h:ab)(ae:aH)(h':ab):Prop where
 ext:Ext ρ ae
 next:h.next<=h'.next
 same:∀i,i<h.next->h'.get i=h.get i
def kQ.refl(ρ:aH)(h:ab):kQ ρ h ρ h:=⟨Ext.refl _,qG _,λ_ _=>rfl⟩
def kQ.trans{ρ ae ai:aH}{h h' h2:ab}(a:kQ ρ h ae h')(b:kQ ae h' ai h2):kQ ρ h ai h2:=
 ⟨λi p hi=>b.ext _ _ (a.ext _ _ hi),Nat.le_trans a.next b.next,λi hi=>(b.same i (afL hi a.next)).trans (a.same i hi)⟩
def kQ.aQ{ρ ae:aH}{h h':ab}(a:kQ ρ h ae h'):∀i r,aD.aQ h (pE h) i=some r->aD.aQ h' (pE h') i=some r:=
 jg λi hi=>⟨afL hi a.next,a.same i hi⟩
def Rd(W:World)(v:Value)(d:DV):Prop:=∀ρ h,qI W ρ h->∃ae h' av,qI W ae h'/\kQ ρ h ae h'/\aR ae av v/\Rel (aQ h' (pE h')) av d
def hD(W:World)(vs:List Value)(ds:List DV):Prop:=∀ρ h,qI W ρ h->∃ae h' ad,qI W ae h'/\kQ ρ h ae h'/\bN ae ad vs/\cz (aQ h' (pE h')) ad ds
def Rd.int(W:World)(k:IntKind)(n:Int):Rd W (.int k n) (.v (.int k n)):=λρ h x=>⟨ρ,h,_,x,kQ.refl _ _,.int k n,.v _⟩
theorem hD.nil(W:World):hD W [] []:=λρ h x=>⟨ρ,h,[],x,kQ.refl _ _,.nil,.nil⟩
def hD.cons{W:World}{v:Value}{vs:List Value}{d:DV}{ds:List DV}(a:Rd W v d)(b:hD W vs ds):hD W (v::vs) (d::ds):=λρ h x=>by
 obtain⟨ak,h1,av,x1,g1,r1,q1⟩:=a ρ h x;obtain⟨ai,h2,ad,x2,g2,r2,q2⟩:=b ak h1 x1;exact⟨ai,h2,av::ad,x2,g1.trans g2,.cons (r1.mono g2.ext) r2,.cons (q1.mono g2.aQ) q2⟩
def hD.append{W:World}{vs aG:List Value}{ds aI:List DV}(a:hD W vs ds)(b:hD W aG aI):hD W (vs++aG) (ds++aI):=λρ h x=>by
 obtain⟨ak,h1,av,x1,g1,r1,q1⟩:=a ρ h x;obtain⟨ai,h2,ad,x2,g2,r2,q2⟩:=b ak h1 x1;exact⟨ai,h2,av++ad,x2,g1.trans g2,aV.append (r1.mono g2.ext) r2,aV.append (q1.mono g2.aQ) q2⟩
def Rd.agg{W:World}{vs:List Value}{ds:List DV}(a:hD W vs ds):Rd W (.agg vs.toArray) (.agg ds):=λρ h x=>by
 obtain⟨ak,h1,av,x1,g1,r1,q1⟩:=a ρ h x;refine⟨ak,h1,.agg av.toArray,x1,g1,.agg (by simpa using r1.length) λi v v' hv aq=> ?_,Rel.dO q1⟩;have hv:av[i]? =some v:=by simpa using hv
 have aq:vs[i]? =some v':=by simpa using aq
 obtain⟨b,hb,hr⟩:=r1.get i v hv;rw[aq]at hb;cases hb;exact hr
def qI.row{W:World}{ρ:aH}{h:ab}(x:qI W ρ h){b off:Nat}{c:Array Value}{el:TypeId}{fz:Nat×Nat}(hb:W.heap[b]? =some (.cells c el fz)){cs:List Value}(hn:off+cs.length<=c.size)(h0:cs≠[])(hv:bN ρ cs ((c.toList.drop off).take cs.length)):
 qI W (ρ.put h.next ⟨b,off,cs.length,cs.length,0,λ_=>True⟩) (h.new (.row cs false 0))/\kQ ρ h (ρ.put h.next ⟨b,off,cs.length,cs.length,0,λ_=>True⟩) (h.new (.row cs false 0)):=by
 have an:ρ h.next=none:=by
  cases hp:ρ h.next with
  |none=>rfl
  |some pl=>exact absurd (x.w.iA _ _ hp) (Nat.lt_irrefl _)
 have hx:Ext ρ (ρ.put h.next ⟨b,off,cs.length,cs.length,0,λ_=>True⟩):=aH.rD _ an;have hold:∀i,i<h.next->(h.new (.row cs false 0)).get i=h.get i:=λi hi=>bM _ _ _ (Nat.ne_of_lt hi);have az:(h.new (.row cs false 0)).get h.next=some (.row cs false 0):=qn _ _;have hz:dW<h.next:=x.w.iA _ _ x.r0;have each:∀i o,(h.new (.row cs false 0)).get i=some o->(i=h.next/\o=.row cs false 0)\/h.get i=some o:=λi o hi=>by
  by_cases he:i=h.next
  . subst he;rw[az]at hi;cases hi;exact .inl ⟨rfl,rfl⟩
  . rw[bM _ _ _ he]at hi;exact .inr hi
 refine⟨⟨⟨λi pl hi=> ?_,λi o hi=> ?_,λi j o p pi pj aS h1 h2=> ?_⟩,λi o hi=> ?_, ?_,hx _ _ x.r0,λg hg=>let⟨pl,a,b⟩:=x.gl g hg;⟨pl,hx _ _ a,b⟩⟩,⟨hx,Nat.le_succ _,hold⟩⟩
 . show i<h.next+1;by_cases he:i=h.next
   . omega
   . rw[aH.j6 _ _ he]at hi;have:=x.w.iA _ _ hi;omega
 . rcases each i o hi with⟨rfl,rfl⟩|hi
   . exact⟨_,aH.lg _ _ _,c,el,fz,hb,λh=>(by cases h),rfl,rfl,qG _,hn,λ_=>rfl,hv.mono hx,λh=>absurd h h0⟩
   . obtain⟨pl,h1,h2⟩:=x.w.obj i o hi;exact⟨pl,hx _ _ h1,h2.mono hx rfl⟩
 . rcases each i o h1 with⟨_,rfl⟩|h1
   . cases h2
   . rw[x.ro i o h1]at h2;cases h2
 . rcases each i o hi with⟨_,rfl⟩|hi
   . rfl
   . exact x.ro i o hi
 . rw[hold dW hz];exact x.z
def Rd.sl{W:World}{a:Addr}{len cap k:Nat}(hk:0<k)(hl:len<=cap){cells:List Value}(hc:cells.length=cap*k)(ah:∀j,j<cap*k->W.cell? (a.add j)=cells[j]?){xs:List (List DV)}(hx:xs.length=cap)(aJ:∀x∈xs,x.length=k)(hr:hD W cells xs.flatten):Rd W (.slice (some a) len cap) (.sl k (xs.take len)):=λρ h x=>by
 rcases afK cap with h0|aC
 . subst h0;obtain rfl:len=0:=aa;refine⟨ρ,h,.slice (some ⟨dW,0,none⟩) 0 0,x,kQ.refl _ _,.sl x.r0 (.inr ⟨rfl,rfl,rfl⟩), ?_⟩;have hz:dW<h.next:=x.w.iA _ _ x.r0;exact Rel.sl (xs:=[]) (aj:=0) (o:=0) (r9 (G:=pE h) hz x.z) (.inl rfl) hk (qG _) (λx hx=>by cases hx) aw (λj x i v d h1=>by simp at h1)
 . obtain⟨ak,h1,ad,x1,g1,r1,q1⟩:=hr ρ h x;have ao:ad.length=cap*k:=by rw[r1.length,hc]
   have aL:0<cap*k:=Nat.mul_pos aC hk;obtain⟨b,off,sp⟩:=a;obtain⟨c,el,fz,hb,aM⟩:∃c el fz,W.heap[b]? =some (.cells c el fz)/\sp=none:=by
    have h3:=ah 0 aL;rw[yB aa]at h3;simp only[World.cell?,Addr.add,if_true]at h3
    split at h3
    . rename_i c el fz hb;refine⟨c,el,fz,hb, ?_⟩;cases sp with
      |none=>rfl
      |some s=>simp at h3
    . cases h3
   subst aM;have af:∀j,j<cap*k->c[off+j]? =cells[j]? :=λj hj=>by
    have h3:=ah j hj;have e:Addr.add ⟨b,off,none⟩ j=⟨b,off+j,none⟩:=by
     unfold Addr.add
     split
     . subst_vars;rfl
     . rfl
    rw[e]at h3;simpa[World.cell?,hb]using h3
   have aT:off+cap*k<=c.size:=by
    have h3:=af (cap*k-1) aa;rw[yB aa]at h3;have:=(Array.getElem?_eq_some_iff.1 h3).1;omega
   have aN:(c.toList.drop off).take ad.length=cells:=by
    rw[ao];apply List.ext_getElem?;intro j;rw[ab8]
    split
    . rename_i hj;rw[afH,Array.getElem?_toList];exact af j hj
    . rename_i hj;rw[List.getElem?_eq_none aa]
   obtain⟨y1,y2⟩:=x1.row (off:=off) hb (cs:=ad) aa (λh=>by rw[h]at ao;simp at ao;omega) (by rw[aN];exact r1);refine⟨_,_,.slice (some ⟨h1.next,0,none⟩) len cap,y1,g1.trans y2,.sl (aH.lg _ _ _) (.inl ⟨aw,.inl rfl⟩), ?_⟩;have aK:(xs.take len).length=len:=by rw[afG];omega
   have aF:aQ (h1.new (.row ad false 0)) (pE (h1.new (.row ad false 0))) h1.next=some (ad,0):=r9 (wr:=false) (Nat.lt_succ_self _) (qn _ _);have:=Rel.sl (R:=aQ (h1.new (.row ad false 0)) (pE (h1.new (.row ad false 0)))) (b:=h1.next) (o:=0) (c:=cap) (xs:=xs.take len) aF (.inl rfl) hk aa (λx hx=>aJ x (afM hx)) (by rw[aK,ao,RW];exact afN _ hl) (λj x i v d e1 e2 e3=>by
    rw[ab8]at e1
    split at e1
    . have e4:=Go.Sp.sk j i x d aJ e1 e2;rw[RW]at e3;exact(q1.rZ e3 e4).mono y2.aQ
    . cases e1)
   rwa[aK]at this
def Rd.YP(W:World){k:Nat}(hk:0<k)(c:Nat):Rd W (.slice none 0 c) (.sl k []):=λρ h x=>⟨ρ,h,_,x,kQ.refl _ _,.kD 0 c,.kJ hk⟩
end Go.aD
end
noncomputable section
open Go Go.aD Go.Proofs
namespace Go.Sp
variable {ar:Bool}
def YQ(i:Int):aE E ar 56 [iV i] (.agg [bV false,iV i]):=by
 refine bc Tryz.ntmps56 Tryz.results56 λN=> ?_;simp[go_sem,mm]
def HU(i:Int):aE E ar 24 [iV i] (.agg [bV true,iV i]):=by
 refine bc Tryz.ntmps24 Tryz.results24 λN=> ?_;simp[go_sem,mm]
def aW(b:Bool):Dg:=⟨[],if b then 1 else 0⟩
def pF(b:Bool):aE E ar 13 [bV b] (.agg (aW b).e):=by
 refine bc Tryz.ntmps13 Tryz.results13 λN=> ?_;cases b<;>simp[go_sem,mm,aW,Dg.e]
def ko(s:ByteArray)(l:Int)(rv:DV)(c:Dg):List DV:=[sV s,iV l,rv,.sl 3 (c.nodes.map cL),iV c.root,bV false,iV 0,.sl 3 [],bV false,iV 0,iV 0,iV 0,iV 0]
def HV(s:ByteArray)(l:Int)(rv:DV)(hr:cC rv=[rv])(ho:cZ rv=true):aE E ar 23 [sV s,iV l,rv] (.agg (ko s l rv (aW true))):=by
 refine bc Tryz.ntmps23 Tryz.results23 λN=> ?_;simp[go_sem];refine ax.mk (pF true) λM hM=> ?_;simp[go_sem,Dg.e,ko,hr,ho]
def jr:GP:=⟨false,0,0,0,0⟩
def bE(s:ByteArray)(l:Int)(r:List Sym)(c:Dg):aX:=⟨s,l,r,c,false,0,[],jr⟩
def qJ(l:Int)(r:List Sym):Bool:=match r with
 |[a,b,c]=>a.tok&&c.tok&& !b.tok&&decide (b.idx=l)
 |_=>false
def YR(o p:Operand):cO E .neq 85 o p (.agg #[.bool false,.int .i64 0,.int .i64 0,.int .i64 0,.int .i64 0]) (.agg #[.bool false,.int .i64 0,.int .i64 0,.int .i64 0,.int .i64 0])=some (.bool false):=ak
def YS(s:ByteArray)(l:Int)(r:List Sym)(c:Dg)(b:Bool)(hr:r.length<=4):aE E ar 97 [.agg {bE s l r c with bracket:=b}.e] (bV (qJ l r)):=by
 refine bc Tryz.ntmps97 Tryz.results97 λN=> ?_;by_cases h3:r.length=3
 . obtain⟨x,y,z,rfl⟩:∃x y z,r=[x,y,z]:=by
    match r,h3 with
    |[x,y,z],_=>exact⟨x,y,z,rfl⟩
   simp[go_sem,mm,aX.e,bE,jr,jG,exact,vz,YR];refine kh [ai 0,aK 1,ai 3,ai 7,aK 15,ai 31,ai 63,aK 127,ai 255,ai 511,aK 1023,ai 2047,ai 4095,ai 8191,aK 16383,ai 32767,ai 65535,aK 131071,ai 262143,ai 524287,ai 1048575,ai 2097151,aK 4194303,ai 8388607,ai 16777215,aK 33554431,ai 2097151,aK 69206015,ai 268435455,ai 536870911,ai 1073741823] ak 0 rfl (N+1) (by simp[go_sem]) ?_;obtain⟨x1,x2⟩:=x;obtain⟨y1,y2⟩:=y;obtain⟨z1,z2⟩:=z;cases x1<;>cases z1<;>cases y1<;>simp[go_sem,mm,Sym.e,qJ]
 . have af:¬(r.length:Int)=3:=aa;have hb:qJ l r=false:=by
    match r,h3 with
    |[],_=>rfl
    |[_],_=>rfl
    |[_,_],_=>rfl
    |_::_::_::_::_,_=>rfl
   simp[go_sem,mm,aX.e,bE,jr,af,hb]
def wrap_u8{x:Int}(h1:0<=x)(h2:x<256):IntKind.u8.wrap x=x:=by
 simp[IntKind.wrap,IntKind.bits,IntKind.signed];omega
def dq{a b:Int}(h:0<=a):a.tmod b=a%b:=Int.tmod_eq_emod_of_nonneg h
def jR{a b:Int}(h:0<=a):a.tdiv b=a/b:=Int.tdiv_eq_ediv_of_nonneg h
def mark(s:ByteArray)(l:Int)(r:List Sym)(c:Dg)(m:Int):aX:=
 let n:Int:=r.length
 let k:=m/8
 let tk:=match r[(k%n).toNat]? with|some x=>x.tok|none=>false
 let p:=bE s l r c
 if n=0 then p else
 if m%8=1 then{p with fh:=1}
 else if m%8=2 then{p with fh:=-1}
 else if m%8=3 then{p with bracket:=qJ l r}
 else if m%8=4 then{p with layout:=[⟨1+k%4,k/4%n,if k%4=0 then 0 else n-1⟩]}
 else if m%8=5 then{p with scope:=⟨true,0,0,0,0⟩}
 else if m%8=6 then(if tk then{p with scope:=⟨false,k%n+1,1+k%2,0,0⟩}else p)
 else if m%8=7 then(if tk then{p with scope:=⟨false,0,0,k%n+1,1+k%7⟩}else p)
 else p
def HW(s:ByteArray)(l:Int)(r:List Sym)(c:Dg)(m:Int)(hr:r.length<=4)(h0:0<=m)(h1:m<256):aE E ar 57 [.agg (bE s l r c).e,uV m] (.agg (mark s l r c m).e):=by
 refine bc Tryz.ntmps57 Tryz.results57 λN=> ?_;by_cases hn:r.length=0
 . have:r=[]:=E2 hn;subst this;simp[go_sem,mm,aX.e,bE,jr,mark]
 . have ab:¬(r.length:Int)=0:=aa;have ae:0<=m/8%(r.length:Int):=YT _ ab;have ah:m/8%(r.length:Int)<r.length:=adr _ aa;obtain⟨x,hx⟩:∃x,r[(m/8%(r.length:Int)).toNat]? =some x:=⟨_,yB aa⟩;have hm:m%8=0\/m%8=1\/m%8=2\/m%8=3\/m%8=4\/m%8=5\/m%8=6\/m%8=7:=aa;rcases hm with hm|hm|hm|hm|hm|hm|hm|hm
   . simp(disch:=omega)[go_sem,mm,aX.e,bE,jr,mark,ab,hn,dq,jR,wrap_u8,aG,hm]
   . simp(disch:=omega)[go_sem,mm,aX.e,bE,jr,mark,ab,hn,dq,jR,wrap_u8,aG,hm]
   . simp(disch:=omega)[go_sem,mm,aX.e,bE,jr,mark,ab,hn,dq,jR,wrap_u8,aG,hm]
   . simp(disch:=omega)[go_sem,aX.e,bE,jr,mark,ab,hn,dq,jR,wrap_u8,aG,hm];refine ax.mk (YS s l r c true hr) λM hM=> ?_;simp(disch:=omega)[go_sem,aX.e,bE,jr,mark,ab,hn,dq,jR,wrap_u8,aG,hm]
   . simp(disch:=omega)[go_sem,aX.e,bE,jr,mark,ab,hn,dq,jR,wrap_u8,aG,hm];refine n8.mk _ _ (λhz=> ?_) (λhz=> ?_)
     . simp(disch:=omega)[go_sem,hz,tC];refine dY (ck (wr:=true) (aj:=0) (by simp(disch:=omega)[go_sem,mo.e])) (.inl rfl) aC aw aw (by simp[mo.e])
     . simp(disch:=omega)[go_sem,hz];refine dY (ck (wr:=true) (aj:=0) (by simp(disch:=omega)[go_sem,mo.e])) (.inl rfl) aC aw aw (by simp[mo.e])
   . simp(disch:=omega)[go_sem,aX.e,bE,jr,mark,ab,hn,dq,jR,wrap_u8,aG,hm]
   . cases ad:x.tok with
     |true=>
      simp(disch:=omega)[go_sem,aX.e,bE,jr,mark,ab,hn,dq,jR,wrap_u8,aG,hm,hx,ad,-getElem?_pos];refine kh [ai 0,aK 1,ai 0,ai 0,ai 12,ai 31,ai 63,aK 127] ak 0 rfl (N+2) (by simp[go_sem]) ?_;simp(disch:=omega)[go_sem,dq,aG,ae,hx,ad,Sym.e,-getElem?_pos]
     |false=>
      simp(disch:=omega)[go_sem,aX.e,bE,jr,mark,ab,hn,dq,jR,wrap_u8,aG,hm,hx,ad,-getElem?_pos];refine kh [ai 0,aK 1,ai 0,ai 0,ai 12,ai 31,ai 63,aK 127] ak 0 rfl (N+2) (by simp[go_sem]) ?_;simp(disch:=omega)[go_sem,dq,aG,ae,hx,ad,Sym.e,-getElem?_pos]
   . cases ad:x.tok with
     |true=>
      simp(disch:=omega)[go_sem,aX.e,bE,jr,mark,ab,hn,dq,jR,wrap_u8,aG,hm,hx,ad,-getElem?_pos];refine kh [ai 0,aK 1,ai 0,ai 0,ai 12,ai 31,ai 63,aK 127] ak 0 rfl (N+2) (by simp[go_sem]) ?_;simp(disch:=omega)[go_sem,dq,aG,ae,hx,ad,Sym.e,-getElem?_pos]
     |false=>
      simp(disch:=omega)[go_sem,aX.e,bE,jr,mark,ab,hn,dq,jR,wrap_u8,aG,hm,hx,ad,-getElem?_pos];refine kh [ai 0,aK 1,ai 0,ai 0,ai 12,ai 31,ai 63,aK 127] ak 0 rfl (N+2) (by simp[go_sem]) ?_;simp(disch:=omega)[go_sem,dq,aG,ae,hx,ad,Sym.e,-getElem?_pos]
end Go.Sp
end
noncomputable section
open Go Go.aD Go.Proofs
namespace Go.Sp
variable {ar:Bool}
def vr(v:Int):Dg:=⟨[(v,0,1)],2⟩
def ia{h:ae}{r k n c aj:Nat}{xs:List (List DV)}(hk:0<k)(hx:∀x∈xs,x.length=k)(hn:n=xs.length)(hc:n<=c)(he:aj=0\/aj=k){wr:Bool}(hr:h.get r=some (.row xs.flatten wr aj)):Fz (allRows h) (.v (.slice (some ⟨r,0,none⟩) n c)) (.sl k xs):=
 dY (ck hr) he hk hn hc hx
def HX(v:Int)(h0:0<=v)(h1:v<64):aE E ar 63 [iV v] (.bp [.agg (vr v).e,iV 0]):=by
 refine bc Tryz.ntmps63 Tryz.results63 λN=> ?_;have e1:¬v<0:=aa;have e2:¬63<v:=aa;simp(disch:=omega)[go_sem,e1,e2,vr,Dg.e,cL];exact ia aC aw aw (qG _) (.inl rfl) (wr:=true) ah
def YU(v:Int)(h0:0<=v)(h1:v<64):aE E ar 29 [iV v] (.agg (vr v).e):=by
 refine bc Tryz.ntmps29 Tryz.results29 λN=> ?_;refine aL ?_;refine ax.mk (HX v h0 h1) λM hM=> ?_;simp(disch:=omega)[go_sem,Dg.e]at hM⊢
def pG(a b:Int):aE E ar 92 [iV a,iV b] (.agg (bd.e ⟨1,a,b,0,0⟩)):=by
 refine bc Tryz.ntmps92 Tryz.results92 λN=> ?_;simp(disch:=omega)[go_sem,bd.e]
def pH(k a b:Int):aE E ar 93 [iV k,iV a,iV b] (.agg (bd.e ⟨k,0,0,a,b⟩)):=by
 refine bc Tryz.ntmps93 Tryz.results93 λN=> ?_;simp(disch:=omega)[go_sem,bd.e]
def ib:List bd:=[⟨1,97,122,0,0⟩,⟨1,97,122,0,0⟩,⟨4,0,0,1,0⟩,⟨2,0,0,0,2⟩]
def qK:List bd:=[⟨1,9,10,0,0⟩,⟨1,32,32,0,0⟩,⟨3,0,0,0,1⟩,⟨1,9,10,0,0⟩,⟨1,32,32,0,0⟩,⟨3,0,0,3,4⟩,⟨4,0,0,5,0⟩,⟨2,0,0,2,6⟩]
def Cg:List bd:=[⟨1,37,37,0,0⟩,⟨1,97,122,0,0⟩,⟨1,32,32,0,0⟩,⟨3,0,0,1,2⟩,⟨4,0,0,3,0⟩,⟨2,0,0,0,4⟩]
def lits:List ByteArray:=[⟨#[43]⟩,⟨#[42]⟩,⟨#[40]⟩,⟨#[41]⟩,⟨#[105,102]⟩,⟨#[101,108,115,101]⟩,⟨#[59]⟩,⟨#[94]⟩]
def fN(s:ByteArray):Tok:=⟨s,0,s,[],⟨#[]⟩,aW true⟩
def iG:Tok:=⟨⟨#[105,100]⟩,0,⟨#[]⟩,ib,⟨#[120]⟩,aW true⟩
def mw:Tok:=⟨⟨#[115,112,97,99,101]⟩,1,⟨#[]⟩,qK,⟨#[]⟩,aW true⟩
def yz:Tok:=⟨⟨#[114,101,109,97,114,107]⟩,2,⟨#[]⟩,Cg,⟨#[]⟩,aW true⟩
def au:List Tok:=(iG::lits.map fN)++[mw,yz]
def oj(s:ByteArray):List DV:=[sV s,iV 0,sV s,cK,sV ⟨#[]⟩,.sl 3 [],iV 1]
def lT(q k:Nat):List DV:=[sV iG.name,iV 0,sV ⟨#[]⟩,.v (.slice (some ⟨q,0,none⟩) 4 4),sV iG.jl,.sl 3 [],iV 1]++((lits.take k).map oj).flatten
def YV(q k:Nat):(lT q k).length=7+7*min k 8:=by
 unfold lT;rw[afD,fF (k:=7) (by intro y hy;obtain⟨z,_,rfl⟩:=yy.1 hy;rfl)];simp[lits];omega
def YW(q k:Nat)(s:ByteArray)(h:lits[k]? =some s):lT q (k+1)=lT q k++oj s:=by
 unfold lT;rw[afA,h];simp
def YX:aE E ar 54 [] (.sl 7 (au.map Tok.e)):=by
 refine bc Tryz.ntmps54 Tryz.results54 λN=> ?_;refine aL ?_;refine ax.mk (pF true) λM=>aT λhM=> ?_;simp(disch:=omega)[go_sem,Dg.e,aW];refine ax.mk (pG 97 122) λP0=>aT λan=> ?_;simp(disch:=omega)[go_sem,Dg.e,bd.e,aW];refine ax.mk (pG 97 122) λP1=>aT λao=> ?_;simp(disch:=omega)[go_sem,Dg.e,bd.e,aW];refine ax.mk (pH 4 1 0) λP2=>aT λaq=> ?_;simp(disch:=omega)[go_sem,Dg.e,bd.e,aW];refine ax.mk (pH 2 0 2) λP3=>aT λav=> ?_;simp(disch:=omega)[go_sem,Dg.e,bd.e,aW];obtain⟨I,hI⟩:∃I:Nat->DS->Prop,∀j d,I j d↔∃(k r z M':Nat),j+k=8/\((z=0/\k=0)\/z=7)/\d=⟨bw [(1,.v (.pointer (some ⟨M,0,none⟩))),(2,.v (.slice (some ⟨r,0,none⟩) (k+1) (k+1))),(3,.v (.slice (some ⟨P3+1,0,none⟩) 8 8)),(4,iV k)],67,[],
  cj M' [(M,.row (aW true).e true 0),(P3+1,.row (lits.map sV) true 0),(P3,.row (ib.map bd.e).flatten true 0),(r,.row (lT P3 k) true z)]⟩/\P3+2<=M'/\r<M'/\r≠M/\r≠P3+1/\r≠P3:=⟨_,λ_ _=>Iff.rfl⟩
 refine bS I 8 ⟨_,aB.mk (N:=P3+2) ah ?_ ?_,(hI _ _).2 ⟨0,M+1,0,P3+2,rfl,.inl ⟨rfl,rfl⟩,rfl,aa,aa,aa,aa,aa⟩⟩ ?_
 . simp[go_sem]
 . simp(disch:=omega)[go_sem,lits,ib,iG,lT,bd.e,Dg.e,aW]
 . intro j d hd;obtain⟨k,r,z,M',hj,hz,rfl,az,aF,aH,aI,aJ⟩:=(hI _ _).1 hd;clear hd;have ad:(lT P3 k).length=(k+1)*7:=by rw[YV];omega
   by_cases hk:k<8
   . obtain⟨s,hs⟩:∃s,lits[k]? =some s:=⟨_,yB (by exact hk)⟩;have af:(k:Int)<8:=aa;have ab:lT P3 k++oj s=lT P3 (k+1):=by rw[YW _ _ _ hs]
     simp(disch:=omega)[go_sem,af,hs,-getElem?_pos];refine kh [ai 0,ai 0,ai 0,ai 6,aK 14,ai 0,ai 0,ai 96,aK 224,aK 0,ai 1022,cR 2046,aU 4095,ai 8191] ak 1 rfl M' ah ?_;simp(disch:=omega)[go_sem,hs,Dg.e,aW,-getElem?_pos];rcases hz with⟨rfl,aM⟩|rfl
     . refine fM (wr:=true) ah ad aa aa ?_;simp(disch:=omega)[go_sem,aG];refine⟨j-1,aa,_,aB.mk (N:=M'+2) ah ?_ ?_,(hI _ _).2 ⟨k+1,M'+1,7,M'+2,aa,.inr rfl,rfl,aa,aa,aa,aa,aa⟩⟩
       . simp[go_sem]
       . simp(disch:=omega)[go_sem,<-ab,oj,Tok.e,aW,Dg.e]
     . refine kP ah ad aC aC (by simp[go_sem]) aa ?_;simp(disch:=omega)[go_sem,aG];refine⟨j-1,aa,_,aB.mk (N:=M'+2) ah ?_ ?_,(hI _ _).2 ⟨k+1,M'+1,7,M'+2,aa,.inr rfl,rfl,aa,aa,aa,aa,aa⟩⟩
       . simp[go_sem]
       . simp(disch:=omega)[go_sem,<-ab,oj,Tok.e,aW,Dg.e]
   . obtain rfl:k=8:=aa;obtain rfl:z=7:=aa;refine aL ?_;refine ax.mk (pG 9 10) λA0=>aT λaN=> ?_;simp(disch:=omega)[go_sem,Dg.e,bd.e,aW];refine ax.mk (pG 32 32) λA1=>aT λaQ=> ?_;simp(disch:=omega)[go_sem,Dg.e,bd.e,aW];refine ax.mk (pH 3 0 1) λA2=>aT λaS=> ?_;simp(disch:=omega)[go_sem,Dg.e,bd.e,aW];refine ax.mk (pG 9 10) λA3=>aT λaX=> ?_;simp(disch:=omega)[go_sem,Dg.e,bd.e,aW];refine ax.mk (pG 32 32) λA4=>aT λaY=> ?_;simp(disch:=omega)[go_sem,Dg.e,bd.e,aW];refine ax.mk (pH 3 3 4) λA5=>aT λba=> ?_;simp(disch:=omega)[go_sem,Dg.e,bd.e,aW];refine ax.mk (pH 4 5 0) λA6=>aT λbb=> ?_;simp(disch:=omega)[go_sem,Dg.e,bd.e,aW];refine ax.mk (pH 2 2 6) λA7=>aT λbf=> ?_;simp(disch:=omega)[go_sem,Dg.e,bd.e,aW];refine ax.mk (pG 37 37) λB0=>aT λbg=> ?_;simp(disch:=omega)[go_sem,Dg.e,bd.e,aW];refine ax.mk (pG 97 122) λB1=>aT λbj=> ?_;simp(disch:=omega)[go_sem,Dg.e,bd.e,aW];refine ax.mk (pG 32 32) λB2=>aT λbk=> ?_;simp(disch:=omega)[go_sem,Dg.e,bd.e,aW];refine ax.mk (pH 3 1 2) λB3=>aT λbm=> ?_;simp(disch:=omega)[go_sem,Dg.e,bd.e,aW];refine ax.mk (pH 4 3 0) λB4=>aT λbo=> ?_;simp(disch:=omega)[go_sem,Dg.e,bd.e,aW];refine ax.mk (pH 2 0 4) λB5=>aT λbq=> ?_;simp(disch:=omega)[go_sem,Dg.e,bd.e,aW];refine kP (cs:=lT P3 8) ah ad aC aC (by simp[go_sem]) aa ?_;simp(disch:=omega)[go_sem,Dg.e,aW];refine kP (cs:=lT P3 8++[sV mw.name,iV 1,sV ⟨#[]⟩,.v (.slice (some ⟨A7,0,none⟩) 8 8),sV ⟨#[]⟩,.sl 3 [],iV 1]) (by simp(disch:=omega)[go_sem,mw]) (by rw[afD,ad];rfl) aC aC (by simp[go_sem]) aa ?_;refine aL ?_;refine iZ (ck (wr:=true) (aj:=7) (by simp(disch:=omega)[go_sem];rfl)) (.inr rfl) aC (by simp[au,lits]) (qG _) (by intro y hy;obtain⟨z,_,rfl⟩:=yy.1 hy;rfl) ?_;simp(disch:=omega)[go_sem,lT,au,lits,fN,oj,iG,mw,yz,Tok.e,Dg.e,aW];exact⟨ia (wr:=true) (aj:=0) aC (by simp[bd.e]) (by rfl) (qG _) (.inl rfl) (by simp(disch:=omega)[go_sem,ib,bd.e]),ia (wr:=true) (aj:=0) aC (by simp[bd.e]) (by rfl) (qG _) (.inl rfl) (by simp(disch:=omega)[go_sem,qK,bd.e]),ia (wr:=true) (aj:=0) aC (by simp[bd.e]) (by rfl) (qG _) (.inl rfl) (by simp(disch:=omega)[go_sem,Cg,bd.e])⟩
end Go.Sp
end
noncomputable section
open Go Go.aD Go.Proofs
namespace Go.Sp
variable {ar:Bool}
def yA(ns:List ByteArray):List DV:=[strs [⟨#[65]⟩,⟨#[66]⟩],.sl 3 [],iV 1,.sl 7 (au.map Tok.e),strs ns,cK,iV 0,cK,cK]
def YY(ns:List ByteArray):aE E true 22 [strs ns] (.agg (yA ns)):=by
 refine bc Tryz.ntmps22 Tryz.results22 λN=> ?_;refine aL ?_;refine ax.mk (pF true) λM=>aT λhM=> ?_;simp(disch:=omega)[go_sem,Dg.e,aW];refine kh [cR 0,dC 0,aU 0,ai 0,ai 15,aU 31] ak 1 rfl (M+1) ah ?_;refine aL ?_;refine ax.mk YX λM2=>aT λad=> ?_;simp(disch:=omega)[go_sem,yA];exact ia aC aw aw (qG _) (.inl rfl) (wr:=true) ah
def bZ{ops:List Oper}{t:Tr DV}{n:Nat}{dd:List FuncId}{h:ae}{K:bB->DS->Prop}(pl:List PJ)(aa:vN ops pl=true)(na:Nat)(ab:RC (ops.filter λo=>cls o.op==.alloc).length na=true)
 (hs:df E ops h.next ops pl 0 h.next 0 t n dd (h.up (h.next+na)) [] [] [] (K .normal)):yi E ops t n dd h K:=kh pl aa na ab h.next rfl hs
def YZ{K:cD}{dd:List FuncId}{h:ae}{r n c:Nat}(s:ByteArray)(l:Int)(xs:List Sym)(hr:h.get r=some (.row (xs.map Sym.e).flatten true 0))(hn:n=xs.length)(hc:n<=c)(hk:∀M,h.next<=M->K (.agg (ko s l (.sl 2 (xs.map Sym.e)) (aW true))) dd ((h.set r none).up M) [r]):
 ax E ar K dd h (23,[sV s,iV l,.v (.slice (some ⟨r,0,none⟩) n c)]):=
 ax.fz (HV s l (.sl 2 (xs.map Sym.e)) rfl rfl) [r] (by simp[hr]) (.cons (.refl _) (.cons (.refl _) (.cons (dY (fA aw hr) (.inl rfl) aC (by simp[hn]) hc (by simp[Sym.e])) .nil))) hk
def ue(v:Int):Dg:=⟨[(v,1,0)],2⟩
end Go.Sp
end
noncomputable section
open Go Go.aD Go.Proofs
namespace Go.Sp
def Ch:aq:=⟨[⟨#[65]⟩,⟨#[66]⟩],aW true,au,[⟨#[69]⟩],[bE ⟨#[97,100,100]⟩ 0 [⟨false,0⟩,⟨true,1⟩,⟨false,0⟩] (aW true),bE ⟨#[109,117,108]⟩ 0 [⟨false,0⟩,⟨true,2⟩,⟨false,0⟩] (aW true),{bE ⟨#[98,114,97,99,107,101,116]⟩ 0 [⟨true,3⟩,⟨false,0⟩,⟨true,4⟩] (aW true)with bracket:=true},bE ⟨#[110,97,109,101]⟩ 0 [⟨true,0⟩] (aW true),bE ⟨#[112,111,119]⟩ 0 [⟨false,0⟩,⟨true,8⟩,⟨false,0⟩] (vr 1)],0,[⟨[4],2,aW true⟩,⟨[1],1,aW true⟩,⟨[0],1,ue 0⟩],[]⟩
def Ci:aq:=⟨[⟨#[65]⟩,⟨#[66]⟩],aW true,au,[⟨#[83]⟩,⟨#[67]⟩],[bE ⟨#[98,111,116,104]⟩ 0 [⟨true,5⟩,⟨false,1⟩,⟨false,0⟩,⟨true,6⟩,⟨false,0⟩] (aW true),bE ⟨#[116,104,101,110]⟩ 0 [⟨true,5⟩,⟨false,1⟩,⟨false,0⟩] (aW true),bE ⟨#[99,97,108,108]⟩ 0 [⟨false,1⟩,⟨true,7⟩] (aW true),{bE ⟨#[98,108,111,99,107]⟩ 0 [⟨true,3⟩,⟨false,0⟩,⟨true,4⟩] (aW true)with bracket:=true},bE ⟨#[119,111,114,100]⟩ 1 [⟨true,0⟩] (aW true)],0,[],[⟨2,0,2,1,0,0,[],vr 0⟩,⟨5,0,0,0,0,0,[5,6],vr 1⟩]⟩
def Cj:aq:=⟨[⟨#[65]⟩,⟨#[66]⟩],aW true,au,[⟨#[76]⟩,⟨#[73]⟩],[bE ⟨#[101,109,112,116,121]⟩ 0 [] (aW true),bE ⟨#[109,111,114,101]⟩ 0 [⟨false,0⟩,⟨false,1⟩] (aW true),{bE ⟨#[116,121,112,101]⟩ 1 [⟨true,1⟩,⟨true,0⟩,⟨true,7⟩] (aW true)with scope:=⟨false,2,1,0,0⟩},{bE ⟨#[112,111,105,110,116,101,114]⟩ 1 [⟨true,0⟩,⟨true,2⟩,⟨true,0⟩,⟨true,7⟩] (aW true)with scope:=⟨false,3,2,1,2⟩},{bE ⟨#[112,114,111,100,117,99,116]⟩ 1 [⟨true,0⟩,⟨true,2⟩,⟨true,0⟩,⟨true,7⟩] (aW true)with scope:=⟨false,0,0,1,5⟩,fh:=-1},{bE ⟨#[105,110,110,101,114]⟩ 1 [⟨true,3⟩,⟨false,0⟩,⟨true,4⟩] (aW true)with scope:=⟨true,0,0,0,0⟩},{bE ⟨#[115,116,114,105,99,116]⟩ 1 [⟨true,0⟩,⟨true,7⟩] (vr 0)with scope:=⟨false,0,0,1,6⟩}],0,[],[]⟩
def Ck:aq:=⟨[⟨#[65]⟩,⟨#[66]⟩],aW true,au,[⟨#[66]⟩,⟨#[73]⟩],[bE ⟨#[111,110,101]⟩ 0 [⟨false,1⟩] (aW true),{bE ⟨#[108,105,115,116]⟩ 0 [⟨false,0⟩,⟨false,1⟩] (aW true)with layout:=[⟨2,0,1⟩]},bE ⟨#[119,111,114,100]⟩ 1 [⟨true,0⟩] (aW true),{bE ⟨#[104,101,97,100]⟩ 1 [⟨true,5⟩,⟨true,0⟩,⟨false,0⟩] (aW true)with layout:=[⟨3,0,2⟩,⟨1,2,0⟩]},{bE ⟨#[108,105,110,101]⟩ 1 [⟨true,5⟩,⟨false,0⟩] (vr 0)with layout:=[⟨4,0,1⟩]}],0,[],[]⟩
def Cl:aq:=⟨[⟨#[65]⟩,⟨#[66]⟩],aW true,au,[⟨#[83]⟩,⟨#[87]⟩,⟨#[86]⟩],[bE ⟨#[112,97,105,114]⟩ 0 [⟨false,1⟩,⟨false,2⟩] (aW true),{bE ⟨#[115,105,110,103,108,101]⟩ 1 [⟨true,0⟩] (aW true)with fh:=-1},bE ⟨#[100,111,117,98,108,101]⟩ 1 [⟨true,0⟩,⟨true,0⟩] (aW true),bE ⟨#[110,111,110,101]⟩ 2 [] (aW true),bE ⟨#[110,101,120,116]⟩ 2 [⟨true,0⟩,⟨false,2⟩] (aW true),bE ⟨#[109,97,114,107]⟩ 2 [⟨true,1⟩,⟨false,2⟩] (vr 1)],0,[],[⟨3,0,0,0,1,0,[0],vr 0⟩,⟨4,0,0,0,2,0,[1],ue 1⟩]⟩
def Cm:aq:=⟨[⟨#[65]⟩,⟨#[66]⟩],aW true,au,[⟨#[83]⟩,⟨#[79]⟩,⟨#[80]⟩],[bE ⟨#[97,108,108]⟩ 0 [⟨false,1⟩,⟨true,0⟩,⟨false,1⟩,⟨false,2⟩] (aW true),bE ⟨#[110,111]⟩ 1 [] (aW true),bE ⟨#[121,101,115]⟩ 1 [⟨true,1⟩] (aW true),bE ⟨#[101,110,100]⟩ 2 [] (aW true),bE ⟨#[114,101,115,116]⟩ 2 [⟨true,1⟩,⟨false,2⟩] (vr 0)],0,[],[]⟩
def ic(b:Int):aq:=if b%6=0 then Ch else if b%6=1 then Ci else if b%6=2 then Cj else if b%6=3 then Ck else if b%6=4 then Cl else Cm
def Y0:∀b∈([0,1,2,3,4,5,6,7]:List Int),aE E true 21 [uV b] (.agg (ic b).e):=bR ak
def Cn:Prop:=∀v:Int,0<=v->v<64->aE E true 30 [.agg (vr v).e] (.agg (ue v).e)
def cE(md:List Int->Nat->Dg)(b:Int)(n:Nat):Dg:=if n=0\/b%6<3 then aW true else if b%6=3 then vr (b/6%n)else if b%6=4 then ue (b/6%n)else md [b] n
def HY(hc:Cn)(md:List Int->Nat->Dg)(af:∀(l:List Int) (n:Nat),(∀b∈l,0<=b/\b<256)->n<=3->aE E true 25 [.sl 1 (l.map λb=>[uV b]),iV n] (.agg (md l n).e))(b:Int)(n:Nat)(h0:0<=b)(h1:b<256)(hn:n<=3):
 aE E true 15 [uV b,iV n] (.agg (cE md b n).e):=by
 obtain⟨R,hR⟩:∃R,R=DV.agg (cE md b n).e:=⟨_,rfl⟩;rw[<-hR];refine bc Tryz.ntmps15 Tryz.results15 λN=> ?_;have hw:IntKind.u8.wrap (b%6)=b%6:=wrap_u8 aa aa;by_cases hz:n=0
 . subst hz;refine aL ?_;refine ax.mk (pF true) λM=>aT λhM=> ?_;simp(disch:=omega)[go_sem,Dg.e,hR,cE]
 have ab:¬(n:Int)=0:=aa;by_cases h3:b%6<3
 . simp(disch:=omega)[go_sem,hz,ab,dq,hw,h3];refine ax.mk (pF true) λM=>aT λhM=> ?_;simp(disch:=omega)[go_sem,Dg.e,hR,cE,h3]
 have ae:0<=b/6%(n:Int):=YT _ ab;have ai:b/6%(n:Int)<n:=adr _ aa;have hq:IntKind.u8.wrap (b/6)=b/6:=wrap_u8 aa aa;simp(disch:=omega)[go_sem,hz,ab,dq,jR,hw,hq,h3,aG];have ak:cC (.agg (vr (b/6%(n:Int))).e)=(vr (b/6%(n:Int))).e:=by simp[go_sem,vr,Dg.e,cL]
 refine ax.mk (YU (b/6%n) ae aa) λM=>aT λhM=> ?_;have h6:b%6=3\/b%6=4\/b%6=5:=aa;rcases h6 with h|h|h
 . simp(disch:=omega)[go_sem,Dg.e,dq,wrap_u8,h,hR,cE,hz]
 . simp(disch:=omega)[go_sem,Dg.e,dq,wrap_u8,h];refine ax.mk (hc (b/6%n) ae aa) λM2=>aT λad=> ?_;simp(disch:=omega)[go_sem,Dg.e,hR,cE,hz,h]
 . simp(disch:=omega)[go_sem,Dg.e,dq,wrap_u8,h];refine ax.fz (af [b] n (by simp;omega) hn) [M+1] ?_ ?_ λM2 ad=> ?_
   . exact ah
   . refine aL ?_;exact dY (fA (wr:=true) aw ah) (.inl rfl) aC aw (qG _) aw
   replace ad:=cq ad;simp(disch:=omega)[go_sem,Dg.e,hR,cE,hz,h]
variable {ar:Bool}
inductive Shape:bk->Prop
 |child (k p a c:Int) (d:Dg):k=1\/k=2->Shape ⟨k,p,a,c,0,0,[],d⟩
 |next (k l t:Int) (d:Dg):k=3\/k=4->Shape ⟨k,0,0,0,l,0,[t],d⟩
 |word (t:Int) (d:Dg):Shape ⟨5,0,0,0,0,0,[t],d⟩
def Co{f:bk}(hf:Shape f):aE E ar 99 [.agg f.e] (bV true):=by
 refine bc Tryz.ntmps99 Tryz.results99 λN=> ?_;cases hf with
 |child k p a c d h=>rcases h with rfl|rfl<;>simp(disch:=omega)[go_sem,bk.e,ints]
 |next k l t d h=>rcases h with rfl|rfl<;>simp(disch:=omega)[go_sem,bk.e,ints]
 |word t d=>simp(disch:=omega)[go_sem,bk.e,ints]
def HZ(g:aq)(t:Nat)(x:Tok)(w:Bool)(h1:g.au[t]? =some x)(hw:w=true->x.lit≠⟨#[]⟩)(ab:w=false->x.cls=0):aE E ar 100 [.agg g.e,ints [(t:Int)],bV w] (bV true):=by
 refine bc Tryz.ntmps100 Tryz.results100 λN=> ?_;have hl:t<g.au.length:=(Zf.1 h1).1;have ad:¬(g.au.length:Int)<=t:=aa;have ae:¬(t:Int)<0:=aa;simp(disch:=omega)[go_sem,aq.e,ints];obtain⟨I,hI⟩:∃I:Nat->DS->Prop,∀j d,I j d↔∃k M:Nat,j+k=1/\N<M/\d=⟨bw [(1,.sl 1 [[iV t]]),(2,bV w),(3,.v (.pointer (some ⟨N,0,none⟩))),(7,iV k)],72,[],cj M [(N,.row g.e true 0)]⟩:=⟨_,λ_ _=>Iff.rfl⟩;refine bS I 1 ⟨_,aB.mk (N:=N+1) ah ?_ ?_,(hI _ _).2 ⟨0,N+1,rfl,aa,rfl⟩⟩ ?_
 . simp[go_sem]
 . simp(disch:=omega)[go_sem,aq.e]
 . intro j d hd;obtain⟨k,M,hj,hM,rfl⟩:=(hI _ _).1 hd;clear hd;by_cases hk:k=0
   . subst hk;refine aL ?_;refine bZ [ai 0,ai 0,ai 3,aK 7,ai 15,ai 31,ai 63,ai 63,ai 255,aK 511,ai 63,aK 1087,aK 3135,ai 8191,ai 16383,ai 32767,ai 65535,ai 131071,ai 262143,ai 524287,ai 524287,ai 2097151,aK 4194303,ai 524287,ai 524287,ai 17301503,ai 59244543,aK 126353407,ai 268435455,ai 536870911,ai 1073741823] ak 0 rfl ?_;simp(disch:=omega)[go_sem,aq.e,hl,ad,ae];refine bZ [ai 0,aK 1,ai 0,ai 0,ai 12,aK 28,ai 63,aK 127,cR 0,aU 511] ak 1 rfl ?_;simp(disch:=omega)[go_sem,aq.e,Tok.e,h1,-getElem?_pos];cases w with
     |true=>
      have hx:=hw rfl;simp(disch:=omega)[go_sem,hx,aG];refine⟨j-1,aa,_,aB.mk (N:=M+1) ah ?_ ?_,(hI _ _).2 ⟨1,M+1,aa,aa,rfl⟩⟩
      . simp[go_sem]
      . simp(disch:=omega)[go_sem,aq.e]
     |false=>
      have hx:=ab rfl;simp(disch:=omega)[go_sem,hx,aG];refine⟨j-1,aa,_,aB.mk (N:=M+1) ah ?_ ?_,(hI _ _).2 ⟨1,M+1,aa,aa,rfl⟩⟩
      . simp[go_sem]
      . simp(disch:=omega)[go_sem,aq.e]
   . obtain rfl:k=1:=aa;exact ah
end Go.Sp
end
noncomputable section
open Go Go.aD Go.Proofs
namespace Go.Sp
variable {ar:Bool}
def H7(g:aq)(k l:Int)(t:Nat)(x:Tok)(d:Dg)(hk:k=3\/k=4)(af:0<=l)(ah:l<g.aP.length)(hx:g.au[t]? =some x)(ad:x.cls=0)(ab:aE E ar 98 [.agg d.e,iV g.conds.length] (bV true)):
 aE E ar 59 [.agg g.e,.agg (bk.e ⟨k,0,0,0,l,0,[t],d⟩)] (bV true):=by
 have hs:=Co (ar:=ar) (Shape.next k l t d hk);have ha:=HZ (ar:=ar) g t x false hx (λh=>by cases h) (λ_=>ad);have an:¬l<0:=aa;refine bc Tryz.ntmps59 Tryz.results59 λN=> ?_;rcases hk with rfl|rfl
 all_goals (
  simp(disch:=omega)[go_sem,bk.e,aq.e];refine ax.mk ab λM=>aT λhM=> ?_;simp(disch:=omega)[go_sem,bk.e,aq.e];refine ax.mk hs λM2=>aT λae=> ?_;simp(disch:=omega)[go_sem,bk.e,aq.e,af,ah,an];refine ax.mk ha λM3=>aT λao=> ?_;simp(disch:=omega)[go_sem])
def Y1(g:aq)(t:Nat)(x y:Tok)(d:Dg)(hx:g.au[t]? =some x)(ad:x.lit≠⟨#[]⟩)(hy:g.au[0]? =some y)(av:y.cls=0)(az:y.lit=⟨#[]⟩)(ab:aE E ar 98 [.agg d.e,iV g.conds.length] (bV true)):
 aE E ar 59 [.agg g.e,.agg (bk.e ⟨5,0,0,0,0,0,[t],d⟩)] (bV true):=by
 have hs:=Co (ar:=ar) (Shape.word t d);have ha:=HZ (ar:=ar) g t x true hx (λ_=>ad) (λh=>by cases h);have hl:0<g.au.length:=(Zf.1 hy).1;have aC:¬g.au=[]:=λh=>by rw[h]at hl;exact absurd hl aw
 refine bc Tryz.ntmps59 Tryz.results59 λN=> ?_;simp(disch:=omega)[go_sem,bk.e,aq.e];refine ax.mk ab λM=>aT λhM=> ?_;simp(disch:=omega)[go_sem,bk.e,aq.e];refine ax.mk hs λM2=>aT λae=> ?_;simp(disch:=omega)[go_sem,bk.e,aq.e,hl,aC];refine ax.mk ha λM3=>aT λao=> ?_;simp(disch:=omega)[go_sem,aq.e,Tok.e,hy,av,az,-getElem?_pos]
def ly(g:aq)(p at_ c:Int):Bool:=match g.ay[p.toNat]?,g.ay[c.toNat]? with
 |some P,some C=>match P.right[at_.toNat]? with
  |some s=> !s.tok&&decide (s.idx=C.left)
  |none=>false
 |_,_=>false
def H8(g:aq)(k:Int)(p a c:Nat)(P C:aX)(d:Dg)(hk:k=1\/k=2)(hp:g.ay[p]? =some P)(hc:g.ay[c]? =some C)(ab:aE E ar 98 [.agg d.e,iV g.conds.length] (bV true)):
 aE E ar 59 [.agg g.e,.agg (bk.e ⟨k,p,a,c,0,0,[],d⟩)] (bV (ly g p a c)):=by
 have hs:=Co (ar:=ar) (Shape.child k p a c d hk);have aF:=(Zf.1 hp).1;have aG:=(Zf.1 hc).1;have e1:¬(p:Int)<0:=aa;have e2:¬(c:Int)<0:=aa;have e3:¬(g.ay.length:Int)<=p:=aa;have e4:¬(g.ay.length:Int)<=c:=aa;have e5:(0:Int)<=a:=aa;obtain⟨R,hR⟩:∃R,R=ly g p a c:=⟨_,rfl⟩;rw[<-hR];refine bc Tryz.ntmps59 Tryz.results59 λN=> ?_;rcases hk with rfl|rfl
 all_goals (
  simp(disch:=omega)[go_sem,bk.e,aq.e];refine ax.mk ab λM=>aT λhM=> ?_;simp(disch:=omega)[go_sem,bk.e,aq.e];refine ax.mk hs λM2=>aT λae=> ?_;simp(disch:=omega)[go_sem,bk.e,aq.e,aX.e,aF,aG,e1,e2,e3,e4,hp,hc,-getElem?_pos];refine bZ [ai 0,aK 1,ai 3,ai 7,ai 15,aK 31,ai 15,aK 79,ai 255,ai 511,ai 1023,ai 2047,ai 2047,aK 6143,ai 16383,ai 32767,aK 65535,ai 131071,ai 262143,ai 524287,ai 1048575,ai 1048575,aK 3145727,ai 8388607,ai 16777215,aK 33554431,ai 1048575,aK 68157439,ai 1048575,aK 269484031,ai 1007681535,ai 2081423359,aK 4228907007,ai 8589934591,ai 17179869183,ai 34359738367] ak 0 rfl ?_;by_cases h:a<P.right.length
  . have h':(a:Int)<P.right.length:=aa;obtain⟨s,hs⟩:∃s,P.right[a]? =some s:=⟨_,yB h⟩;cases ht:s.tok with
    |true=>simp(disch:=omega)[go_sem,bk.e,aq.e,Sym.e,e5,h,h',hs,ht,hR,ly,hp,hc,-getElem?_pos]
    |false=>simp(disch:=omega)[go_sem,bk.e,aq.e,aX.e,Sym.e,e5,h,h',hs,ht,hR,ly,hp,hc,-getElem?_pos]
  . have h':¬(a:Int)<P.right.length:=aa;have hs:P.right[a]? =none:=List.getElem?_eq_none_iff.2 aa;simp(disch:=omega)[go_sem,bk.e,aq.e,e5,h,h',hR,ly,hp,hc,hs,-getElem?_pos])
end Go.Sp
end
noncomputable section
open Go Go.aD Go.Proofs
namespace Go.Sp
variable {ar:Bool}
def H9(g:aq)(p:Int)(b1:g.bn.length<=4096)(b2:∀l∈g.bn,l.ay.length<=4096):aE E ar 58 [.agg g.e,iV p] (bV (g.bn.any λl=>decide (p∈l.ay))):=by
 refine bc Tryz.ntmps58 Tryz.results58 λN=> ?_;simp[go_sem,aq.e];refine bS (λj d=>∃k,j+k=g.bn.length/\d=⟨bw [(1,iV p),(2,.v (.pointer (some ⟨N,0,none⟩))),(5,iV k)],36,[],cj (N+1) [(N,.row g.e true 0)]⟩/\∀l∈g.bn.take k,p∉l.ay) g.bn.length ⟨_,aB.mk rfl ?_ ?_,0,rfl,rfl,aw⟩ ?_
 . simp[go_sem]
 . simp[go_sem,aq.e,mm]
 . rintro j _ ⟨k,hk,rfl,hp⟩;by_cases ab:k<g.bn.length
   . obtain⟨l,hl⟩:∃l,g.bn[k]? =some l:=⟨_,yB ab⟩;have ae:=afz hl;have af:=b2 l ae;simp[go_sem,aq.e,ab,hl,-getElem?_pos];refine bS (λi d=>∃m,i+m=l.ay.length/\d=⟨bw [(1,iV p),(2,.v (.pointer (some ⟨N,0,none⟩))),(5,iV k),(6,iV m)],36,[],cj (N+1) [(N,.row g.e true 0)]⟩/\p∉l.ay.take m) l.ay.length ⟨_,aB.mk rfl ?_ ?_,0,rfl,rfl,aw⟩ ?_
     . simp[go_sem]
     . simp[go_sem,aq.e]
     . rintro i _ ⟨m,hm,rfl,hq⟩;by_cases ad:m<l.ay.length
       . obtain⟨x,hx⟩:∃x,l.ay[m]? =some x:=⟨_,yB ad⟩;simp[go_sem,aq.e,dg.e,hl,ad,hx,-getElem?_pos];refine n8.mk _ _ (λh=> ?_) (λh=> ?_)
         . have:∃l∈g.bn,p∈l.ay:=⟨l,ae,h▸afz hx⟩;have e:(g.bn.any λl=>decide (p∈l.ay))=true:=by simpa using this
           rw[e];simp[go_sem]
         . simp(disch:=omega)[go_sem,aG,-getElem?_pos];refine⟨i-1,aa,_,aB.mk rfl ?_ ?_,m+1,aa,rfl, ?_⟩
           . simp[go_sem]
           . simp[go_sem,aq.e]
           . rw[afA,hx];simp[hq];exactλe=>h e.symm
       . rw[afB aa]at hq;simp(disch:=omega)[go_sem,aq.e,dg.e,hl,ad,aG,-getElem?_pos];refine⟨j-1,aa,_,aB.mk rfl ?_ ?_,k+1,aa,rfl, ?_⟩
         . simp[go_sem]
         . simp[go_sem,aq.e]
         . rw[afA,hl];simp only[FQ,Option.mem_toList,afI];rintro l' (h|rfl)
           . exact hp l' h
           . exact hq
   . rw[afB aa]at hp;simp[go_sem,aq.e,ab];have:¬∃l∈g.bn,p∈l.ay:=λ⟨l,h1,h2⟩=>hp l h1 h2;have e:(g.bn.any λl=>decide (p∈l.ay))=false:=by simpa using this
     rw[e];exact .refl _
end Go.Sp
end
noncomputable section
open Go Go.aD Go.Proofs
namespace Go.Sp
structure Rl where
 kind:Int
 a:Int
 b:Int
 c:Int
 cond:Int
def Rl.e(x:Rl):List DV:=[uV x.kind,uV x.a,uV x.b,uV x.c,uV x.cond]
structure Rl.Ok(x:Rl):Prop where
 kind:0<=x.kind/\x.kind<256
 a:0<=x.a/\x.a<256
 b:0<=x.b/\x.b<256
 c:0<=x.c/\x.c<256
 cond:0<=x.cond/\x.cond<256
structure sx(g:aq):Prop where
 ay:0<g.ay.length
 aP:0<g.aP.length
 conds:g.conds.length<=3
 aZ:g.aZ.length<=10
 bn:g.bn.length<=10
 au:9<=g.au.length
 my:∀l∈g.bn,l.ay.length<=4096
 Ia:g.au.length<=100
 ord:∀i x,i<9->g.au[i]? =some x->x.cls=0/\(x.lit=⟨#[]⟩↔i=0)
def qL{S:eQ}{a b c d:List DV}(h1:cI S a c)(h2:cI S b d):cI S (a++b) (c++d):=aV.append h1 h2
def eA(g:aq)(f:bk):aq:={g with aZ:=g.aZ++[f]}
def Y2(sm:Int->Nat->Dg)(ad:∀(b:Int) (n:Nat),0<=b->b<256->n<=3->aE E true 15 [uV b,iV n] (.agg (sm b n).e))(ab:∀(b:Int) (n:Nat),0<=b->b<256->n<=3->aE E true 98 [.agg (sm b n).e,iV n] (bV true))(g:aq)(hg:sx g)(x:Rl)(hx:x.Ok)(hk:x.kind%8=6):
 aE E true 27 [.agg g.e,.agg x.e] (.agg (eA g ⟨5,0,0,0,0,0,[5],sm x.cond g.conds.length⟩).e):=by
 obtain⟨R,hR⟩:∃R,R=DV.agg (eA g ⟨5,0,0,0,0,0,[5],sm x.cond g.conds.length⟩).e:=⟨_,rfl⟩;rw[<-hR];have af:=hx.kind;have ha:=hx.a;have hb:=hx.b;have hc:=hx.c;have eS:¬(g.ay.length:Int)=0:=by have:=hg.ay;omega
 have aF:¬(g.aP.length:Int)=0:=by have:=hg.aP;omega
 have aH:¬g.ay=[]:=λh=>by have:=hg.ay;rw[h]at this;exact absurd this aw
 have hw:∀z:Int,0<=z->IntKind.u8.wrap (z%8)=z%8:=λz h=>wrap_u8 aa aa;refine bc Tryz.ntmps27 Tryz.results27 λN=> ?_;simp(disch:=omega)[go_sem,aq.e,Rl.e];refine ax.mk (ad x.cond g.conds.length hx.cond.1 hx.cond.2 hg.conds) λM=>aT λhM=> ?_;have ae:=ab x.cond g.conds.length hx.cond.1 hx.cond.2 hg.conds;generalize sm x.cond g.conds.length=d at*;simp(disch:=omega)[go_sem,aq.e,Rl.e,Dg.e,eS,aH,aF,dq,aG,hw,hk];have h5:(5:Nat)<g.au.length:=by have:=hg.au;omega
 have aI:(0:Nat)<g.au.length:=by have:=hg.au;omega
 obtain⟨t5,an⟩:∃t,g.au[5]? =some t:=⟨_,yB h5⟩;obtain⟨t0,ao⟩:∃t,g.au[0]? =some t:=⟨_,yB aI⟩;have o5:=hg.ord 5 t5 aa an;have o0:=hg.ord 0 t0 aa ao;have aM:N+3<=M:=aa;refine ax.pl (Y1 g 5 t5 t0 d an (λh=>by have:=o5.2.1 h;omega) ao o0.1 (o0.2.2 rfl) ae) ?_ λM2 av=> ?_
 . simp(disch:=omega)[go_sem,aq.e,bk.e];exact ia (wr:=true) (aj:=0) aC aw (by rfl) (qG _) (.inl rfl) ah
 replace av:=cq av;refine aL ?_;refine bZ [cR 0,ai 0,aK 2,aU 7,dC 0,cR 16,aU 63,ai 127,aU 255] ak 2 rfl ?_;have aJ:(g.aZ.map bk.e).flatten.length=g.aZ.length*9:=by
  rw[fF (k:=9) (by intro y hy;obtain⟨z,_,rfl⟩:=yy.1 hy;rfl)];simp
 have aN:=hg.aZ;have aQ:M+3<=M2:=aa;by_cases eS:g.aZ.length=0
 . have az:g.aZ=[]:=E2 eS;simp(disch:=omega)[go_sem,az,n7]
   repeat refine⟨aa, ?_⟩
   refine fM (wr:=true) (cs:=[]) ah aw aa aa ?_;simp(disch:=omega)[go_sem,hR,eA,az,aq.e];refine iZ (ck (wr:=true) (aj:=9) (by simp(disch:=omega)[go_sem];rfl)) (.inr rfl) aC (by rfl) (qG _) (by simp[bk.e]) ?_;simp(disch:=omega)[go_sem,bk.e,ints];exact ia (wr:=true) (aj:=0) aC aw (by rfl) (qG _) (.inl rfl) ah
 . refine aL ?_
   repeat refine⟨aa, ?_⟩
   refine fM (wr:=true) (cs:=[]) ah aw aa aa ?_;refine aL ?_
   repeat refine⟨aa, ?_⟩
   refine kP (cs:=(g.aZ.map bk.e).flatten) ah aJ aC aC (by simp[go_sem]) aa ?_;simp(disch:=omega)[go_sem,hR,eA,aq.e];refine iZ (ck (wr:=true) (aj:=9) (by simp(disch:=omega)[go_sem];rfl)) (.inr rfl) aC aw (qG _) ?_ ?_
   . intro y hy;simp only[FQ,yy,KE]at hy;rcases hy with⟨z,_,rfl⟩|rfl<;>rfl
   . rw[YN];refine qL (cI.refl _) ?_;simp(disch:=omega)[go_sem,bk.e,ints];exact ia (wr:=true) (aj:=0) aC aw (by rfl) (qG _) (.inl rfl) ah
set_option maxHeartbeats 4000000 in
def Y3(sm:Int->Nat->Dg)(av:∀(b:Int) (n:Nat),0<=b->b<256->n<=3->aE E true 15 [uV b,iV n] (.agg (sm b n).e))(ab:∀(b:Int) (n:Nat),0<=b->b<256->n<=3->aE E true 98 [.agg (sm b n).e,iV n] (bV true))(g:aq)(hg:sx g)(x:Rl)(hx:x.Ok)(hk:x.kind%8=4\/x.kind%8=5):
 aE E true 27 [.agg g.e,.agg x.e] (.agg (eA g ⟨x.kind%8-1,0,0,0,x.a%g.aP.length,0,[x.b%9],sm x.cond g.conds.length⟩).e):=by
 obtain⟨R,hR⟩:∃R,R=DV.agg (eA g ⟨x.kind%8-1,0,0,0,x.a%g.aP.length,0,[x.b%9],sm x.cond g.conds.length⟩).e:=⟨_,rfl⟩;rw[<-hR];have aI:=hx.kind;have ha:=hx.a;have hb:=hx.b;have hc:=hx.c;have eS:¬(g.ay.length:Int)=0:=by have:=hg.ay;omega
 have ao:¬(g.aP.length:Int)=0:=by have:=hg.aP;omega
 have aJ:¬g.ay=[]:=λh=>by have:=hg.ay;rw[h]at this;exact absurd this aw
 have hw:∀z:Int,0<=z->IntKind.u8.wrap (z%8)=z%8:=λz h=>wrap_u8 aa aa;refine bc Tryz.ntmps27 Tryz.results27 λN=> ?_;simp(disch:=omega)[go_sem,aq.e,Rl.e];refine ax.mk (av x.cond g.conds.length hx.cond.1 hx.cond.2 hg.conds) λM=>aT λhM=> ?_;have ad:=ab x.cond g.conds.length hx.cond.1 hx.cond.2 hg.conds;generalize sm x.cond g.conds.length=d at*;rcases hk with hk|hk
 . simp(disch:=omega)[go_sem,aq.e,Rl.e,Dg.e,eS,aJ,ao,dq,aG,hw,hk];obtain⟨t,ht⟩:∃t:Nat,x.b%9=t:=⟨(x.b%9).toNat,aa⟩;have h5:t<g.au.length:=by have:=hg.au;omega
   obtain⟨t5,ae⟩:∃y,g.au[t]? =some y:=⟨_,yB h5⟩;have o5:=hg.ord t t5 aa ae;have aM:N+3<=M:=aa;have az:0<=x.a%(g.aP.length:Int):=YT _ ao;have aF:x.a%(g.aP.length:Int)<g.aP.length:=adr _ aa;rw[hk]at hR;rw[ht]at hR;simp only[ht];refine ax.pl (H7 g 3 (x.a%g.aP.length) t t5 d aa az aF ae o5.1 ad) ?_ λM2 af=> ?_
   . simp(disch:=omega)[go_sem,aq.e,bk.e];exact ia (wr:=true) (aj:=0) aC aw (by rfl) (qG _) (.inl rfl) ah
   replace af:=cq af;refine aL ?_;refine bZ [cR 0,ai 0,aK 2,aU 7,dC 0,cR 16,aU 63,ai 127,aU 255] ak 2 rfl ?_;have aH:(g.aZ.map bk.e).flatten.length=g.aZ.length*9:=by
    rw[fF (k:=9) (by intro y hy;obtain⟨z,_,rfl⟩:=yy.1 hy;rfl)];simp
   have aN:=hg.aZ;have aQ:M+3<=M2:=aa;by_cases eS:g.aZ.length=0
   . have an:g.aZ=[]:=E2 eS;simp(disch:=omega)[go_sem,an,n7]
     repeat refine⟨aa, ?_⟩
     refine fM (wr:=true) (cs:=[]) ah aw aa aa ?_;simp(disch:=omega)[go_sem,hR,eA,an,aq.e];refine iZ (ck (wr:=true) (aj:=9) (by simp(disch:=omega)[go_sem];rfl)) (.inr rfl) aC (by rfl) (qG _) (by simp[bk.e]) ?_;simp(disch:=omega)[go_sem,bk.e,ints];exact ia (wr:=true) (aj:=0) aC aw (by rfl) (qG _) (.inl rfl) ah
   . refine aL ?_
     repeat refine⟨aa, ?_⟩
     refine fM (wr:=true) (cs:=[]) ah aw aa aa ?_;refine aL ?_
     repeat refine⟨aa, ?_⟩
     refine kP (cs:=(g.aZ.map bk.e).flatten) ah aH aC aC (by simp[go_sem]) aa ?_;simp(disch:=omega)[go_sem,hR,eA,aq.e];refine iZ (ck (wr:=true) (aj:=9) (by simp(disch:=omega)[go_sem];rfl)) (.inr rfl) aC aw (qG _) ?_ ?_
     . intro y hy;simp only[FQ,yy,KE]at hy;rcases hy with⟨z,_,rfl⟩|rfl<;>rfl
     . rw[YN];refine qL (cI.refl _) ?_;simp(disch:=omega)[go_sem,bk.e,ints];exact ia (wr:=true) (aj:=0) aC aw (by rfl) (qG _) (.inl rfl) ah
 . simp(disch:=omega)[go_sem,aq.e,Rl.e,Dg.e,eS,aJ,ao,dq,aG,hw,hk];obtain⟨t,ht⟩:∃t:Nat,x.b%9=t:=⟨(x.b%9).toNat,aa⟩;have h5:t<g.au.length:=by have:=hg.au;omega
   obtain⟨t5,ae⟩:∃y,g.au[t]? =some y:=⟨_,yB h5⟩;have o5:=hg.ord t t5 aa ae;have aM:N+3<=M:=aa;have az:0<=x.a%(g.aP.length:Int):=YT _ ao;have aF:x.a%(g.aP.length:Int)<g.aP.length:=adr _ aa;rw[hk]at hR;rw[ht]at hR;simp only[ht];refine ax.pl (H7 g 4 (x.a%g.aP.length) t t5 d aa az aF ae o5.1 ad) ?_ λM2 af=> ?_
   . simp(disch:=omega)[go_sem,aq.e,bk.e];exact ia (wr:=true) (aj:=0) aC aw (by rfl) (qG _) (.inl rfl) ah
   replace af:=cq af;refine aL ?_;refine bZ [cR 0,ai 0,aK 2,aU 7,dC 0,cR 16,aU 63,ai 127,aU 255] ak 2 rfl ?_;have aH:(g.aZ.map bk.e).flatten.length=g.aZ.length*9:=by
    rw[fF (k:=9) (by intro y hy;obtain⟨z,_,rfl⟩:=yy.1 hy;rfl)];simp
   have aN:=hg.aZ;have aQ:M+3<=M2:=aa;by_cases eS:g.aZ.length=0
   . have an:g.aZ=[]:=E2 eS;simp(disch:=omega)[go_sem,an,n7]
     repeat refine⟨aa, ?_⟩
     refine fM (wr:=true) (cs:=[]) ah aw aa aa ?_;simp(disch:=omega)[go_sem,hR,eA,an,aq.e];refine iZ (ck (wr:=true) (aj:=9) (by simp(disch:=omega)[go_sem];rfl)) (.inr rfl) aC (by rfl) (qG _) (by simp[bk.e]) ?_;simp(disch:=omega)[go_sem,bk.e,ints];exact ia (wr:=true) (aj:=0) aC aw (by rfl) (qG _) (.inl rfl) ah
   . refine aL ?_
     repeat refine⟨aa, ?_⟩
     refine fM (wr:=true) (cs:=[]) ah aw aa aa ?_;refine aL ?_
     repeat refine⟨aa, ?_⟩
     refine kP (cs:=(g.aZ.map bk.e).flatten) ah aH aC aC (by simp[go_sem]) aa ?_;simp(disch:=omega)[go_sem,hR,eA,aq.e];refine iZ (ck (wr:=true) (aj:=9) (by simp(disch:=omega)[go_sem];rfl)) (.inr rfl) aC aw (qG _) ?_ ?_
     . intro y hy;simp only[FQ,yy,KE]at hy;rcases hy with⟨z,_,rfl⟩|rfl<;>rfl
     . rw[YN];refine qL (cI.refl _) ?_;simp(disch:=omega)[go_sem,bk.e,ints];exact ia (wr:=true) (aj:=0) aC aw (by rfl) (qG _) (.inl rfl) ah
set_option maxHeartbeats 4000000 in
def Y4(sm:Int->Nat->Dg)(av:∀(b:Int) (n:Nat),0<=b->b<256->n<=3->aE E true 15 [uV b,iV n] (.agg (sm b n).e))(ab:∀(b:Int) (n:Nat),0<=b->b<256->n<=3->aE E true 98 [.agg (sm b n).e,iV n] (bV true))(g:aq)(hg:sx g)(x:Rl)(hx:x.Ok)(hk:x.kind%8=2\/x.kind%8=3):
 aE E true 27 [.agg g.e,.agg x.e] (.agg (if ly g (x.a%g.ay.length) (x.c%16) (x.b%g.ay.length)then eA g ⟨x.kind%8-1,x.a%g.ay.length,x.c%16,x.b%g.ay.length,0,0,[],sm x.cond g.conds.length⟩else g).e):=by
 obtain⟨R,hR⟩:∃R,R=DV.agg (if ly g (x.a%g.ay.length) (x.c%16) (x.b%g.ay.length)then eA g ⟨x.kind%8-1,x.a%g.ay.length,x.c%16,x.b%g.ay.length,0,0,[],sm x.cond g.conds.length⟩else g).e:=⟨_,rfl⟩;rw[<-hR];have aQ:=hx.kind;have ha:=hx.a;have hb:=hx.b;have hc:=hx.c;have eS:¬(g.ay.length:Int)=0:=by have:=hg.ay;omega
 have aS:¬(g.aP.length:Int)=0:=by have:=hg.aP;omega
 have aW:¬g.ay=[]:=λh=>by have:=hg.ay;rw[h]at this;exact absurd this aw
 have hw:∀z:Int,0<=z->IntKind.u8.wrap (z%8)=z%8:=λz h=>wrap_u8 aa aa;refine bc Tryz.ntmps27 Tryz.results27 λN=> ?_;simp(disch:=omega)[go_sem,aq.e,Rl.e];refine ax.mk (av x.cond g.conds.length hx.cond.1 hx.cond.2 hg.conds) λM=>aT λhM=> ?_;have ad:=ab x.cond g.conds.length hx.cond.1 hx.cond.2 hg.conds;generalize sm x.cond g.conds.length=d at*;have ae:∀z:Int,∃t:Nat,z%(g.ay.length:Int)=t/\t<g.ay.length:=λz=>
  ⟨(z%(g.ay.length:Int)).toNat,by have:=YT z eS;omega,by have:=YT z eS;have:=adr z (show(0:Int)<g.ay.length by omega);omega⟩
 obtain⟨p,az,aF⟩:=ae x.a;obtain⟨c,aH,aI⟩:=ae x.b;obtain⟨a,aJ⟩:∃t:Nat,x.c%16=t:=⟨(x.c%16).toNat,aa⟩;obtain⟨P,hP⟩:∃y,g.ay[p]? =some y:=⟨_,yB aF⟩;obtain⟨C,hC⟩:∃y,g.ay[c]? =some y:=⟨_,yB aI⟩;rw[az,aH,aJ]at hR;have ba:N+3<=M:=aa;rcases hk with hk|hk
 . rw[hk]at hR;simp(disch:=omega)[go_sem,aq.e,Rl.e,Dg.e,eS,aW,aS,dq,aG,hw,hk,az,aH,aJ];refine ax.pl (H8 g 1 p a c P C d aa hP hC ad) ?_ λM2 af=> ?_
   . simp(disch:=omega)[go_sem,aq.e,bk.e,ints]
   replace af:=cq af;cases an:ly g p a c with
   |false=>
    simp(disch:=omega)[go_sem,hR,an,aq.e]
   |true=>
    rw[an,if_pos rfl]at hR;refine aL ?_;refine bZ [cR 0,ai 0,aK 2,aU 7,dC 0,cR 16,aU 63,ai 127,aU 255] ak 2 rfl ?_;have aM:(g.aZ.map bk.e).flatten.length=g.aZ.length*9:=by
     rw[fF (k:=9) (by intro y hy;obtain⟨z,_,rfl⟩:=yy.1 hy;rfl)];simp
    have aX:=hg.aZ;have aY:M+2<=M2:=aa;by_cases aN:g.aZ.length=0
    . have ao:g.aZ=[]:=E2 aN;simp(disch:=omega)[go_sem,ao,n7]
      repeat refine⟨aa, ?_⟩
      refine fM (wr:=true) (cs:=[]) ah aw aa aa ?_;simp(disch:=omega)[go_sem,hR,eA,ao,aq.e];refine iZ (ck (wr:=true) (aj:=9) (by simp(disch:=omega)[go_sem];rfl)) (.inr rfl) aC (by rfl) (qG _) (by simp[bk.e]) ?_;simp(disch:=omega)[go_sem,bk.e,ints]
    . refine aL ?_
      repeat refine⟨aa, ?_⟩
      refine fM (wr:=true) (cs:=[]) ah aw aa aa ?_;refine aL ?_
      repeat refine⟨aa, ?_⟩
      refine kP (cs:=(g.aZ.map bk.e).flatten) ah aM aC aC (by simp[go_sem]) aa ?_;simp(disch:=omega)[go_sem,hR,eA,aq.e];refine iZ (ck (wr:=true) (aj:=9) (by simp(disch:=omega)[go_sem];rfl)) (.inr rfl) aC aw (qG _) ?_ ?_
      . intro y hy;simp only[FQ,yy,KE]at hy;rcases hy with⟨z,_,rfl⟩|rfl<;>rfl
      . rw[YN];refine qL (cI.refl _) ?_;simp(disch:=omega)[go_sem,bk.e,ints]
 . rw[hk]at hR;simp(disch:=omega)[go_sem,aq.e,Rl.e,Dg.e,eS,aW,aS,dq,aG,hw,hk,az,aH,aJ];refine ax.pl (H8 g 2 p a c P C d aa hP hC ad) ?_ λM2 af=> ?_
   . simp(disch:=omega)[go_sem,aq.e,bk.e,ints]
   replace af:=cq af;cases an:ly g p a c with
   |false=>
    simp(disch:=omega)[go_sem,hR,an,aq.e]
   |true=>
    rw[an,if_pos rfl]at hR;refine aL ?_;refine bZ [cR 0,ai 0,aK 2,aU 7,dC 0,cR 16,aU 63,ai 127,aU 255] ak 2 rfl ?_;have aM:(g.aZ.map bk.e).flatten.length=g.aZ.length*9:=by
     rw[fF (k:=9) (by intro y hy;obtain⟨z,_,rfl⟩:=yy.1 hy;rfl)];simp
    have aX:=hg.aZ;have aY:M+2<=M2:=aa;by_cases aN:g.aZ.length=0
    . have ao:g.aZ=[]:=E2 aN;simp(disch:=omega)[go_sem,ao,n7]
      repeat refine⟨aa, ?_⟩
      refine fM (wr:=true) (cs:=[]) ah aw aa aa ?_;simp(disch:=omega)[go_sem,hR,eA,ao,aq.e];refine iZ (ck (wr:=true) (aj:=9) (by simp(disch:=omega)[go_sem];rfl)) (.inr rfl) aC (by rfl) (qG _) (by simp[bk.e]) ?_;simp(disch:=omega)[go_sem,bk.e,ints]
    . refine aL ?_
      repeat refine⟨aa, ?_⟩
      refine fM (wr:=true) (cs:=[]) ah aw aa aa ?_;refine aL ?_
      repeat refine⟨aa, ?_⟩
      refine kP (cs:=(g.aZ.map bk.e).flatten) ah aM aC aC (by simp[go_sem]) aa ?_;simp(disch:=omega)[go_sem,hR,eA,aq.e];refine iZ (ck (wr:=true) (aj:=9) (by simp(disch:=omega)[go_sem];rfl)) (.inr rfl) aC aw (qG _) ?_ ?_
      . intro y hy;simp only[FQ,yy,KE]at hy;rcases hy with⟨z,_,rfl⟩|rfl<;>rfl
      . rw[YN];refine qL (cI.refl _) ?_;simp(disch:=omega)[go_sem,bk.e,ints]
def Ib(d:Dg):∀(l:List Tok) (t:Nat),t<l.length->(l.map Tok.e).flatten.take (t*7+5)++(DV.sl 3 (d.nodes.map cL)::iV d.root::(l.map Tok.e).flatten.drop (t*7+5+2))=((l.modify t λx=>{x with cond:=d}).map Tok.e).flatten
 |[],t,h=>absurd h aw
 |x::l,0,_=>by simp[Tok.e,List.modify]
 |x::l,t+1,h=>by
  have ih:=Ib d l t (by simpa using h);rw[show(t+1)*7+5=(t*7+5)+1+1+1+1+1+1+1 by omega,show(t*7+5)+1+1+1+1+1+1+1+2=(t*7+5+2)+1+1+1+1+1+1+1 by omega];simp only[List.map_cons,afv,Tok.e,List.cons_append,List.nil_append,List.take_succ_cons,List.drop_succ_cons,List.modify_succ_cons];rw[ih]
def js(g:aq)(k:Nat)(d:Dg):aq:={g with au:=g.au.modify k λx=>{x with cond:=d}}
set_option maxHeartbeats 4000000 in
def Y5(sm:Int->Nat->Dg)(ad:∀(b:Int) (n:Nat),0<=b->b<256->n<=3->aE E true 15 [uV b,iV n] (.agg (sm b n).e))(ab:∀(b:Int) (n:Nat),0<=b->b<256->n<=3->aE E true 98 [.agg (sm b n).e,iV n] (bV true))(g:aq)(hg:sx g)(x:Rl)(hx:x.Ok)(hk:x.kind%8=7):
 aE E true 27 [.agg g.e,.agg x.e] (.agg (js g (x.a%9).toNat (sm x.cond g.conds.length)).e):=by
 obtain⟨R,hR⟩:∃R,R=DV.agg (js g (x.a%9).toNat (sm x.cond g.conds.length)).e:=⟨_,rfl⟩;rw[<-hR];have ae:=hx.kind;have ha:=hx.a;have hb:=hx.b;have hc:=hx.c;have eS:¬(g.ay.length:Int)=0:=by have:=hg.ay;omega
 have af:¬(g.aP.length:Int)=0:=by have:=hg.aP;omega
 have ai:¬g.ay=[]:=λh=>by have:=hg.ay;rw[h]at this;exact absurd this aw
 have hw:∀z:Int,0<=z->IntKind.u8.wrap (z%8)=z%8:=λz h=>wrap_u8 aa aa;refine bc Tryz.ntmps27 Tryz.results27 λN=> ?_;simp(disch:=omega)[go_sem,aq.e,Rl.e];refine ax.mk (ad x.cond g.conds.length hx.cond.1 hx.cond.2 hg.conds) λM=>aT λhM=> ?_;have ak:=ab x.cond g.conds.length hx.cond.1 hx.cond.2 hg.conds;generalize sm x.cond g.conds.length=d at*;obtain⟨t,ht⟩:∃t:Nat,x.a%9=t:=⟨(x.a%9).toNat,aa⟩;have h5:t<g.au.length:=by have:=hg.au;omega
 obtain⟨y,hy⟩:∃y,g.au[t]? =some y:=⟨_,yB h5⟩;have az:¬g.au.length=0:=aa;simp(disch:=omega)[go_sem,aq.e,Rl.e,Dg.e,eS,ai,af,dq,aG,hw,hk,ht];have an:=hg.Ia;refine fM (wr:=true) (cs:=[]) ah aw aa aa ?_;have aF:(t:Int)<g.au.length:=aa;have ao:(g.au.map Tok.e).flatten.length=g.au.length*7:=by
  rw[fF (k:=7) (by intro y hy;obtain⟨z,_,rfl⟩:=yy.1 hy;rfl)];simp
 have av:=Ib d g.au t h5;have an:=hg.Ia;rw[show(x.a%9).toNat=t by omega]at hR;generalize aH:(g.au.map Tok.e).flatten=TC at*;have hle:t*7+5+2<=g.au.length*7:=aa;simp(disch:=omega)[go_sem,ht,dq,aG,aq.e,Rl.e,ao,hle];subst hR;simp(disch:=omega)[go_sem,aq.e,js];refine ia (wr:=true) (aj:=7) aC ?_ aw (qG _) (.inr rfl) ?_
 . intro y hy;obtain⟨z,_,rfl⟩:=yy.1 hy;rfl
 . rw[<-av];exact ah
def nq(g:aq)(p:Int):Bool:=g.bn.any λl=>decide (p∈l.ay)
def kp(g:aq)(a b c:Int)(d:Dg):aq:=if nq g a then g else{g with bn:=g.bn++[⟨if b≠a/\nq g b=false then [a,b]else [a],c,d⟩]}
set_option maxHeartbeats 4000000 in
def Y6(sm:Int->Nat->Dg)(ao:∀(b:Int) (n:Nat),0<=b->b<256->n<=3->aE E true 15 [uV b,iV n] (.agg (sm b n).e))(ad:∀(b:Int) (n:Nat),0<=b->b<256->n<=3->aE E true 98 [.agg (sm b n).e,iV n] (bV true))(g:aq)(hg:sx g)(x:Rl)(hx:x.Ok)(hk:x.kind%8=0\/x.kind%8=1):
 aE E true 27 [.agg g.e,.agg x.e] (.agg (kp g (x.a%g.ay.length) (x.b%g.ay.length) (x.c%4) (sm x.cond g.conds.length)).e):=by
 obtain⟨R,hR⟩:∃R,R=DV.agg (kp g (x.a%g.ay.length) (x.b%g.ay.length) (x.c%4) (sm x.cond g.conds.length)).e:=⟨_,rfl⟩;rw[<-hR];have aH:=hx.kind;have ha:=hx.a;have hb:=hx.b;have hc:=hx.c;have eS:¬(g.ay.length:Int)=0:=by have:=hg.ay;omega
 have av:¬(g.aP.length:Int)=0:=by have:=hg.aP;omega
 have az:¬g.ay=[]:=λh=>by have:=hg.ay;rw[h]at this;exact absurd this aw
 have hw:∀z:Int,0<=z->IntKind.u8.wrap (z%8)=z%8:=λz h=>wrap_u8 aa aa;refine bc Tryz.ntmps27 Tryz.results27 λN=> ?_;simp(disch:=omega)[go_sem,aq.e,Rl.e];refine ax.mk (ao x.cond g.conds.length hx.cond.1 hx.cond.2 hg.conds) λM=>aT λhM=> ?_;have aN:=ad x.cond g.conds.length hx.cond.1 hx.cond.2 hg.conds;generalize sm x.cond g.conds.length=d at*;have aS:=hg.bn;generalize aQ:x.a%(g.ay.length:Int)=a at*;generalize aI:x.b%(g.ay.length:Int)=b at*;have aJ:IntKind.u8.wrap (x.c%4)=x.c%4:=wrap_u8 aa aa;have aF:(g.bn.map dg.e).flatten.length=g.bn.length*4:=by
  rw[fF (k:=4) (by intro y hy;obtain⟨z,_,rfl⟩:=yy.1 hy;rfl)];simp
 rcases hk with hk|hk
 all_goals (
  simp(disch:=omega)[go_sem,aq.e,Rl.e,Dg.e,eS,az,av,dq,aG,hw,hk,aQ];refine ax.mk (H9 g a aa hg.my) λM2=>aT λaW=> ?_;have aX:M+2<=M2:=aa;rw[show(g.bn.any λl=>decide (a∈l.ay))=nq g a from rfl];cases af:nq g a with
  |true=>simp(disch:=omega)[go_sem,hR,kp,af,aq.e]
  |false=>
   by_cases an:b=a
   . rw[show kp g a b (x.c%4) d={g with bn:=g.bn++[⟨[a],x.c%4,d⟩]} by simp[kp,af,an]]at hR;simp(disch:=omega)[go_sem,aq.e,Rl.e,Dg.e,eS,az,av,dq,aG,aJ,aI,an];by_cases ae:g.bn.length=0
     . have ab:g.bn=[]:=E2 ae;refine bZ [cR 0,ai 0,aK 2,aU 7,dC 0,cR 16,aU 63,ai 127,aU 255] ak 2 rfl ?_;simp(disch:=omega)[go_sem,ab,n7]
       repeat refine⟨aa, ?_⟩
       refine fM (wr:=true) (cs:=[]) ah aw aa aa ?_;simp(disch:=omega)[go_sem,hR,ab,aq.e];refine iZ (ck (wr:=true) (aj:=4) (by simp(disch:=omega)[go_sem];rfl)) (.inr rfl) aC (by rfl) (qG _) (by simp[dg.e]) ?_;simp(disch:=omega)[go_sem,dg.e,ints];exact ia (wr:=true) (aj:=0) aC aw (by rfl) (qG _) (.inl rfl) ah
     . refine bZ [cR 0,ai 0,aK 2,aU 7,dC 0,cR 16,aU 63,ai 127,aU 255] ak 2 rfl ?_;refine aL ?_
       repeat refine⟨aa, ?_⟩
       refine fM (wr:=true) (cs:=[]) ah aw aa aa ?_;refine aL ?_
       repeat refine⟨aa, ?_⟩
       refine kP (cs:=(g.bn.map dg.e).flatten) ah aF aC aC (by simp[go_sem]) aa ?_;simp(disch:=omega)[go_sem,hR,aq.e];refine iZ (ck (wr:=true) (aj:=4) (by simp(disch:=omega)[go_sem];rfl)) (.inr rfl) aC aw (qG _) ?_ ?_
       . intro y hy;simp only[FQ,yy,KE]at hy;rcases hy with⟨z,_,rfl⟩|rfl<;>rfl
       . rw[YN];refine qL (cI.refl _) ?_;simp(disch:=omega)[go_sem,dg.e,ints];exact ia (wr:=true) (aj:=0) aC aw (by rfl) (qG _) (.inl rfl) ah
   . simp(disch:=omega)[go_sem,aq.e,Rl.e,Dg.e,eS,az,av,dq,aG,aJ,aI,an];refine ax.mk (H9 g b aa hg.my) λM3=>aT λaY=> ?_;have ba:M2+2<=M3:=aa;rw[show(g.bn.any λl=>decide (b∈l.ay))=nq g b from rfl];cases aM:nq g b with
     |true=>
      rw[show kp g a b (x.c%4) d={g with bn:=g.bn++[⟨[a],x.c%4,d⟩]} by simp[kp,af,aM]]at hR;simp(disch:=omega)[go_sem,aq.e];by_cases ae:g.bn.length=0
      . have ab:g.bn=[]:=E2 ae;refine bZ [cR 0,ai 0,aK 2,aU 7,dC 0,cR 16,aU 63,ai 127,aU 255] ak 2 rfl ?_;simp(disch:=omega)[go_sem,ab,n7]
        repeat refine⟨aa, ?_⟩
        refine fM (wr:=true) (cs:=[]) ah aw aa aa ?_;simp(disch:=omega)[go_sem,hR,ab,aq.e];refine iZ (ck (wr:=true) (aj:=4) (by simp(disch:=omega)[go_sem];rfl)) (.inr rfl) aC (by rfl) (qG _) (by simp[dg.e]) ?_;simp(disch:=omega)[go_sem,dg.e,ints];exact ia (wr:=true) (aj:=0) aC aw (by rfl) (qG _) (.inl rfl) ah
      . refine bZ [cR 0,ai 0,aK 2,aU 7,dC 0,cR 16,aU 63,ai 127,aU 255] ak 2 rfl ?_;refine aL ?_
        repeat refine⟨aa, ?_⟩
        refine fM (wr:=true) (cs:=[]) ah aw aa aa ?_;refine aL ?_
        repeat refine⟨aa, ?_⟩
        refine kP (cs:=(g.bn.map dg.e).flatten) ah aF aC aC (by simp[go_sem]) aa ?_;simp(disch:=omega)[go_sem,hR,aq.e];refine iZ (ck (wr:=true) (aj:=4) (by simp(disch:=omega)[go_sem];rfl)) (.inr rfl) aC aw (qG _) ?_ ?_
        . intro y hy;simp only[FQ,yy,KE]at hy;rcases hy with⟨z,_,rfl⟩|rfl<;>rfl
        . rw[YN];refine qL (cI.refl _) ?_;simp(disch:=omega)[go_sem,dg.e,ints];exact ia (wr:=true) (aj:=0) aC aw (by rfl) (qG _) (.inl rfl) ah
     |false=>
      rw[show kp g a b (x.c%4) d={g with bn:=g.bn++[⟨[a,b],x.c%4,d⟩]} by simp[kp,af,aM,an]]at hR;simp(disch:=omega)[go_sem,aq.e];refine fM (wr:=true) (cs:=[iV a]) ah aw aa aa ?_;simp(disch:=omega)[go_sem,aq.e];by_cases ae:g.bn.length=0
      . have ab:g.bn=[]:=E2 ae;refine bZ [cR 0,ai 0,aK 2,aU 7,dC 0,cR 16,aU 63,ai 127,aU 255] ak 2 rfl ?_;simp(disch:=omega)[go_sem,ab,n7]
        repeat refine⟨aa, ?_⟩
        refine fM (wr:=true) (cs:=[]) ah aw aa aa ?_;simp(disch:=omega)[go_sem,hR,ab,aq.e];refine iZ (ck (wr:=true) (aj:=4) (by simp(disch:=omega)[go_sem];rfl)) (.inr rfl) aC (by rfl) (qG _) (by simp[dg.e]) ?_;simp(disch:=omega)[go_sem,dg.e,ints];exact ia (wr:=true) (aj:=1) aC aw (by rfl) (qG _) (.inr rfl) ah
      . refine bZ [cR 0,ai 0,aK 2,aU 7,dC 0,cR 16,aU 63,ai 127,aU 255] ak 2 rfl ?_;refine aL ?_
        repeat refine⟨aa, ?_⟩
        refine fM (wr:=true) (cs:=[]) ah aw aa aa ?_;refine aL ?_
        repeat refine⟨aa, ?_⟩
        refine kP (cs:=(g.bn.map dg.e).flatten) ah aF aC aC (by simp[go_sem]) aa ?_;simp(disch:=omega)[go_sem,hR,aq.e];refine iZ (ck (wr:=true) (aj:=4) (by simp(disch:=omega)[go_sem];rfl)) (.inr rfl) aC aw (qG _) ?_ ?_
        . intro y hy;simp only[FQ,yy,KE]at hy;rcases hy with⟨z,_,rfl⟩|rfl<;>rfl
        . rw[YN];refine qL (cI.refl _) ?_;simp(disch:=omega)[go_sem,dg.e,ints];exact ia (wr:=true) (aj:=1) aC aw (by rfl) (qG _) (.inr rfl) ah)
def ja(sm:Int->Nat->Dg)(g:aq)(x:Rl):aq:=
 let d:=sm x.cond g.conds.length
 let n:Int:=g.ay.length
 let k:=x.kind%8
 if k=0\/k=1 then kp g (x.a%n) (x.b%n) (x.c%4) d
 else if k=2\/k=3 then(if ly g (x.a%n) (x.c%16) (x.b%n)then eA g ⟨k-1,x.a%n,x.c%16,x.b%n,0,0,[],d⟩else g)
 else if k=4\/k=5 then eA g ⟨k-1,0,0,0,x.a%g.aP.length,0,[x.b%9],d⟩
 else if k=6 then eA g ⟨5,0,0,0,0,0,[5],d⟩
 else js g (x.a%9).toNat d
def Y7(sm:Int->Nat->Dg)(ab:∀(b:Int) (n:Nat),0<=b->b<256->n<=3->aE E true 15 [uV b,iV n] (.agg (sm b n).e))(aa:∀(b:Int) (n:Nat),0<=b->b<256->n<=3->aE E true 98 [.agg (sm b n).e,iV n] (bV true))(g:aq)(hg:sx g)(x:Rl)(hx:x.Ok):
 aE E true 27 [.agg g.e,.agg x.e] (.agg (ja sm g x).e):=by
 unfold ja;simp only;by_cases h1:x.kind%8=0\/x.kind%8=1
 . rw[if_pos h1];exact Y6 sm ab aa g hg x hx h1
 rw[if_neg h1];by_cases h2:x.kind%8=2\/x.kind%8=3
 . rw[if_pos h2];exact Y4 sm ab aa g hg x hx h2
 rw[if_neg h2];by_cases h3:x.kind%8=4\/x.kind%8=5
 . rw[if_pos h3];exact Y3 sm ab aa g hg x hx h3
 rw[if_neg h3];by_cases h4:x.kind%8=6
 . rw[if_pos h4];exact Y2 sm ab aa g hg x hx h4
 rw[if_neg h4];exact Y5 sm ab aa g hg x hx (by have:=hx.kind;omega)
variable {ar:Bool}
structure Ln where
 left:Int
 right:List Int
 cond:Int
 mark:Int
def Ln.e(x:Ln):List DV:=[uV x.left,.sl 1 (x.right.map λb=>[uV b]),uV x.cond,uV x.mark]
structure Ln.Ok(x:Ln):Prop where
 left:0<=x.left/\x.left<256
 right:∀b∈x.right,0<=b/\b<256
 cond:0<=x.cond/\x.cond<256
 mark:0<=x.mark/\x.mark<256
def jS(n:Int)(b:Int):Sym:=if b%14<9 then⟨true,b%14⟩else⟨false,(b%14-9)%n⟩
def jT(k:Nat):ByteArray:=⟨#[112]⟩++strOf [97+k]
def fO(cE:Int->Nat->Dg)(g:aq)(x:Ln)(known:Bool):aq:=
 let n:Int:=g.aP.length
 let r:=(x.right.take 4).map (jS n)
 let l:=x.left%n
 if r.any (·.tok)=false/\(known=true\/(r.all λs=>s.tok||decide (l<s.idx))=false)then g
 else{g with ay:=g.ay++[mark (jT g.ay.length) l r (cE x.cond g.conds.length) x.mark]}
theorem Y8(z:Int):(strOf [z]).size=1:=rfl
set_option maxHeartbeats 4000000 in
def Y9(cE:Int->Nat->Dg)(ao:∀(b:Int) (n:Nat),0<=b->b<256->n<=3->aE E true 15 [uV b,iV n] (.agg (cE b n).e))(g:aq)(x:Ln)(known:Bool)(hx:x.Ok)(hn:0<g.aP.length)(bD:g.aP.length<=3)(hc:g.conds.length<=3)(hp:g.ay.length<=20):
 aE E true 26 [.agg g.e,.agg x.e,bV known] (.agg (fO cE g x known).e):=by
 obtain⟨R,hR⟩:∃R,R=DV.agg (fO cE g x known).e:=⟨_,rfl⟩;rw[<-hR];refine bc Tryz.ntmps26 Tryz.results26 λN=> ?_;have an:¬(g.aP.length:Int)=0:=aa;have hl:=hx.left;have aQ:∀o p,cO E .add 9 o p (.string ⟨#[112]⟩) (.string (strOf [97+(g.ay.length:Int)]))=some (.string (jT g.ay.length)):=λo p=>tN 9 o p _ _ (by simp[Y8];decide);simp(disch:=omega)[go_sem,aq.e,Ln.e];refine kh [ai 0,aK 1,aK 3,ai 7,aK 15,cR 31,aK 63,ai 127,ai 0,aK 256,aK 768,ai 0,ai 3840,aU 8191,cR 0,aU 32767] ak 2 rfl (N+3) (by simp[go_sem]) ?_;simp(disch:=omega)[go_sem,dq,wrap_u8,aG,an,aQ];refine ax.mk (HV (jT g.ay.length) (x.left%g.aP.length) cK rfl rfl) λM hM=> ?_;simp(disch:=omega)[go_sem,ko]at hM⊢;generalize bp:jT g.ay.length=pn;generalize bq:x.left%(g.aP.length:Int)=lf;generalize bs:(g.aP.length:Int)=n at*;have bt:N+5<=M:=aa;obtain⟨I,hI⟩:∃I:Nat->DS->Prop,∀j d,I j d↔∃(k M:Nat) (r:Option Nat) (A:List Sym),j+k=4/\k<=x.right.length/\A=(x.right.take k).map (jS n)/\d=⟨bw [(2,bV known),(3,.v (.pointer (some ⟨N,0,none⟩))),(4,.v (.pointer (some ⟨N+1,0,none⟩))),(6,.v (.pointer (some ⟨N+2,0,none⟩))),(7,iV n),(8,.v (.pointer (some ⟨N+4,0,none⟩))),(9,iV (A.countP (·.tok):Nat)),(10,bV (A.all λs=>s.tok||decide (lf<s.idx))),(11,iV k)],109,[],
  cj M ([(N,.row g.e true 0),(N+1,.row x.e true 0),(N+2,.row eE true 0),(N+4,.row (ko pn lf (gv r k) (aW true)) true 0)]++gh r 2 (A.map Sym.e).flatten)⟩/\N+5<=M/\(r=none->k=0)/\∀q,r=some q->0<k/\N+5<=q/\q<M:=⟨_,λ_ _=>Iff.rfl⟩
 refine bS I 4 ⟨_,aB.mk (N:=M) ah ?_ ?_,(hI _ _).2 ⟨0,M,none,[],rfl,Nat.zero_le _,rfl,rfl,bt,λ_=>rfl,λ_ h=>(by cases h)⟩⟩ ?_
 . simp[go_sem]
 . simp(disch:=omega)[go_sem,aq.e,Ln.e,eE,ko,aW]
 . intro j d hd;obtain⟨k,M,r,A,hj,bF,hA,rfl,hM,aS,aY⟩:=(hI _ _).1 hd;clear hd;have ba:∀b∈x.right,0<=b/\b<256:=hx.right;have aJ:N+4<M:=aa;have av:A.length=k:=by rw[hA];simp;omega
   have bu:A.countP (·.tok)<=4:=Nat.le_trans List.countP_le_length aa;have hlen:(A.map Sym.e).flatten.length=k*2:=by
    rw[fF (k:=2) (by intro y hy;obtain⟨z,_,rfl⟩:=yy.1 hy;rfl)];simp[av]
   by_cases hk:k<x.right.length/\k<4
   . obtain⟨bx,bG⟩:=hk;have ab:(k:Int)<x.right.length:=aa;have ad:(k:Int)<4:=aa;obtain⟨b,hb⟩:∃b,x.right[k]? =some b:=⟨_,yB bx⟩;obtain⟨bH,bI⟩:=ba b (afz hb);have az:A++[jS n b]=(x.right.take (k+1)).map (jS n):=by rw[afA,hb,hA];simp
     simp(disch:=omega)[go_sem,Ln.e,ab,ad,hb,dq,aG,-getElem?_pos];refine n8.mk _ _ (λht=> ?_) (λht=> ?_)
     . have hs:jS n b=⟨true,b%14⟩:=by simp[jS,ht]
       refine aL ?_;refine kh [lr 0,dC 1,ai 0,aU 4,cR 12,aU 31,ai 63,aU 127] ak 1 rfl M (by simp[go_sem]) ?_;simp(disch:=omega)[go_sem,ko,aJ];refine ax.mk (HU (b%14)) λM2=>aT λbb=> ?_;cases r with
       |none=>
        obtain rfl:k=0:=aS rfl;obtain rfl:A=[]:=E2 av;simp(disch:=omega)[go_sem,se,aG];refine⟨j-1,aa,_,aB.mk (N:=M2+1) ?_ ?_ ?_,(hI _ _).2 ⟨1,M2+1,some M2,_,aa,aa,az,rfl,aa,λh=>(by cases h),λq h=>(by cases h;omega)⟩⟩
        . simp[go_sem]
        . simp[go_sem,hs]
        . simp(disch:=omega)[go_sem,aq.e,Ln.e,eE,ko,aW,hs,Sym.e]
       |some q=>
        obtain⟨bg,bj,bk⟩:=aY q rfl;refine aL ?_;refine kP (cs:=(A.map Sym.e).flatten) ah hlen aC aC (by simp[go_sem]) aa ?_;simp(disch:=omega)[go_sem,aG];refine⟨j-1,aa,_,aB.mk (N:=M2+1) ?_ ?_ ?_,(hI _ _).2 ⟨k+1,M2+1,some M2,_,aa,aa,az,rfl,aa,λh=>(by cases h),λq h=>(by cases h;omega)⟩⟩
        . simp[go_sem]
        . simp[go_sem,hs]
        . simp(disch:=omega)[go_sem,aq.e,Ln.e,eE,ko,aW,hs,Sym.e]
     . have hs:jS n b=⟨false,(b%14-9)%n⟩:=by simp[jS,ht]
       have bK:0<n:=aa;have bL:0<=(b%14-9)%n:=YT _ an;refine aL ?_;refine kh [lr 0,dC 1,ai 0,ai 4,ai 0,ai 28,aU 60,cR 124,aU 255,ai 511,aU 1023] ak 1 rfl M (by simp[go_sem]) ?_;simp(disch:=omega)[go_sem,ko,aJ,dq,aG,an];refine ax.mk (YQ ((b%14-9)%n)) λM2=>aT λbb=> ?_;cases r with
       |none=>
        obtain rfl:k=0:=aS rfl;obtain rfl:A=[]:=E2 av;simp(disch:=omega)[go_sem,se,aG];refine kh [ai 0,ai 1,ai 3,ai 7,ai 3,ai 31,ai 3,aK 67,ai 255,ai 511,ai 1023] ak 0 rfl (M2+1) (by simp[go_sem]) ?_;simp(disch:=omega)[go_sem,dq,aG,an];refine⟨j-1,aa,_,aB.mk (N:=M2+1) ?_ ?_ ?_,(hI _ _).2 ⟨1,M2+1,some M2,_,aa,aa,az,rfl,aa,λh=>(by cases h),λq h=>(by cases h;omega)⟩⟩
        . simp[go_sem]
        . simp[go_sem,hs]
        . simp(disch:=omega)[go_sem,aq.e,Ln.e,eE,ko,aW,hs,Sym.e]
       |some q=>
        obtain⟨bg,bj,bk⟩:=aY q rfl;refine aL ?_;refine kP (cs:=(A.map Sym.e).flatten) ah hlen aC aC (by simp[go_sem]) aa ?_;simp(disch:=omega)[go_sem,aG];refine kh [ai 0,ai 1,ai 3,ai 7,ai 3,ai 31,ai 3,aK 67,ai 255,ai 511,ai 1023] ak 0 rfl (M2+1) (by simp[go_sem]) ?_;cases af:(A.all λs=>s.tok||decide (lf<s.idx))with
        |true=>
         simp(disch:=omega)[go_sem,dq,aG,an,af];refine⟨j-1,aa,_,aB.mk (N:=M2+1) ?_ ?_ ?_,(hI _ _).2 ⟨k+1,M2+1,some M2,_,aa,aa,az,rfl,aa,λh=>(by cases h),λq h=>(by cases h;omega)⟩⟩
         . simp[go_sem]
         . simp[go_sem,hs,af]
         . simp(disch:=omega)[go_sem,aq.e,Ln.e,eE,ko,aW,hs,Sym.e]
        |false=>
         simp(disch:=omega)[go_sem,dq,aG,an,af];refine⟨j-1,aa,_,aB.mk (N:=M2+1) ?_ ?_ ?_,(hI _ _).2 ⟨k+1,M2+1,some M2,_,aa,aa,az,rfl,aa,λh=>(by cases h),λq h=>(by cases h;omega)⟩⟩
         . simp[go_sem]
         . simp[go_sem,hs,af]
         . simp(disch:=omega)[go_sem,aq.e,Ln.e,eE,ko,aW,hs,Sym.e]
   . have bm:A=(x.right.take 4).map (jS n):=by
      rw[hA];rcases adv k x.right.length with h|h
      . rw[show k=4 by omega]
      . rw[afB h,afB aa]
     have aF:A.any (·.tok)=decide (A.countP (·.tok)≠0):=by
      cases h:A.any (·.tok)with
      |true=>
       obtain⟨a,h1,h2⟩:=afO.1 h;have:0<A.countP (·.tok):=afP.2 ⟨a,h1,h2⟩;exact(decide_eq_true aa).symm
      |false=>
       symm;apply decide_eq_false
       intro h3;obtain⟨a,h1,h2⟩:=afP.1 (Nat.pos_of_ne_zero h3);rw[afO.2 ⟨a,h1,h2⟩]at h;cases h
     have hw:fO cE g x known=if A.countP (·.tok)=0/\(known=true\/(A.all λs=>s.tok||decide (lf<s.idx))=false)then g else{g with ay:=g.ay++[mark pn lf A (cE x.cond g.conds.length) x.mark]}:=by
      simp only[fO];rw[bp,bs,bq,<-bm,aF];simp
     rw[hw]at hR;clear hw aF bm hA;generalize A.countP (·.tok)=cn at*;generalize (A.all λs=>s.tok||decide (lf<s.idx))=al at*;have bM:((cn:Int)=0)=(cn=0):=propext ⟨λh=>aa,λh=>aa⟩;have aM:0<=x.cond/\x.cond<256:=hx.cond;have aN:0<=x.mark/\x.mark<256:=hx.mark;by_cases hg:cn=0/\(known=true\/al=false)
     . rw[if_pos hg]at hR;obtain⟨rfl,hg⟩:=hg;rcases adv k x.right.length with h|h
       . have ab:(k:Int)<x.right.length:=aa;have ad:¬(k:Int)<4:=aa;rcases hg with rfl|rfl<;>(try cases known)<;>simp(disch:=omega)[go_sem,Ln.e,eE,ab,ad,aq.e,hR,-getElem?_pos]
       . have ab:¬(k:Int)<x.right.length:=aa;rcases hg with rfl|rfl<;>(try cases known)<;>simp(disch:=omega)[go_sem,Ln.e,eE,ab,aq.e,hR,-getElem?_pos]
     . rw[if_neg hg]at hR;have h3:cn≠0\/(cn=0/\known=false/\al=true):=by
        by_cases h1:cn=0
        . cases bA:known<;>cases bB:al<;>simp[h1,bA,bB]at hg⊢
        . exact .inl h1
       cases r with
       |none=>
        obtain rfl:k=0:=aS rfl;obtain rfl:A=[]:=E2 av;have bo:x.right=[]:=E2 aa;rcases h3 with h3|⟨rfl,rfl,rfl⟩
        all_goals first
         |simp(disch:=omega)[go_sem,Ln.e,eE,aq.e,bo,h3,-getElem?_pos]
         |simp(disch:=omega)[go_sem,Ln.e,eE,aq.e,bo,-getElem?_pos]
        all_goals (
         refine ax.mk (ao x.cond g.conds.length aM.1 aM.2 hc) λM2=>aT λbb=> ?_;have aJ:N+4<M2:=aa;simp(disch:=omega)[go_sem,ko,Dg.e];refine ax.fz (HW pn lf [] (cE x.cond g.conds.length) x.mark aw aN.1 aN.2) [] ?_ ?_ λM3 aH=> ?_
         . simp
         . simp(disch:=omega)[go_sem,aX.e,bE,jr,Dg.e]
         replace aH:=cq aH;generalize mark pn lf [] (cE x.cond g.conds.length) x.mark=m at*;have ae:N+4<M3:=aa;simp(disch:=omega)[go_sem,aX.e];refine kh [cR 0,ai 0,aK 2,aU 7,dC 0,cR 16,aU 63,ai 127,aU 255] ak 2 rfl M3 ah ?_;have bd:(g.ay.map aX.e).flatten.length=g.ay.length*13:=by
          rw[fF (k:=13) (by intro y hy;obtain⟨z,_,rfl⟩:=yy.1 hy;rfl)];simp
         by_cases eS:g.ay.length=0
         . have aI:g.ay=[]:=E2 eS;simp(disch:=omega)[go_sem,aI,n7,ae];refine fM (wr:=true) (cs:=[]) ah aw aa aa ?_;simp(disch:=omega)[go_sem,hR,aI,aq.e,aX.e];refine dY (ck (wr:=true) (aj:=13) ?_) (.inr rfl) aC ?_ ?_ ?_
           . exact ah
           all_goals simp[aX.e]
         . refine aL ?_;refine fM (wr:=true) (cs:=[]) ah aw aa aa ?_;simp(disch:=omega)[go_sem,ae];refine kP (cs:=(g.ay.map aX.e).flatten) ah bd aC aC (by simp[go_sem]) aa ?_;simp(disch:=omega)[go_sem,hR,aq.e,aX.e];refine dY (ck (wr:=true) (aj:=13) ah) (.inr rfl) aC aw aw ?_
           . intro y hy;simp only[FQ,yy,KE]at hy;rcases hy with⟨z,_,rfl⟩|rfl<;>rfl)
       |some q=>
        obtain⟨bg,bj,bk⟩:=aY q rfl;have bf:((k:Int)<x.right.length/\¬(k:Int)<4)\/(¬(k:Int)<x.right.length/\True):=by
         by_cases h1:(k:Int)<x.right.length
         . exact .inl ⟨h1,aa⟩
         . exact .inr ⟨h1,trivial⟩
        rcases bf with⟨ab,ad⟩|⟨ab,ad⟩<;>rcases h3 with h3|⟨rfl,rfl,rfl⟩
        all_goals first
         |simp(disch:=omega)[go_sem,Ln.e,eE,aq.e,ab,ad,h3,-getElem?_pos]
         |simp(disch:=omega)[go_sem,Ln.e,eE,aq.e,ab,ad,-getElem?_pos]
        all_goals (
         refine ax.mk (ao x.cond g.conds.length aM.1 aM.2 hc) λM2=>aT λbb=> ?_;have aJ:N+4<M2:=aa;simp(disch:=omega)[go_sem,ko,Dg.e];refine ax.fz (HW pn lf A (cE x.cond g.conds.length) x.mark aa aN.1 aN.2) [q] ?_ ?_ λM3 aH=> ?_
         . exact ah
         . simp(disch:=omega)[go_sem,aX.e,bE,jr,Dg.e];exact dY (fA (wr:=true) aw ah) (.inr rfl) aC (by simp[av]) (qG _) (by simp[Sym.e])
         replace aH:=cq aH;generalize mark pn lf A (cE x.cond g.conds.length) x.mark=m at*;have ae:N+4<M3:=aa;simp(disch:=omega)[go_sem,aX.e];refine kh [cR 0,ai 0,aK 2,aU 7,dC 0,cR 16,aU 63,ai 127,aU 255] ak 2 rfl M3 ah ?_;have bd:(g.ay.map aX.e).flatten.length=g.ay.length*13:=by
          rw[fF (k:=13) (by intro y hy;obtain⟨z,_,rfl⟩:=yy.1 hy;rfl)];simp
         by_cases eS:g.ay.length=0
         . have aI:g.ay=[]:=E2 eS;simp(disch:=omega)[go_sem,aI,n7,ae];refine fM (wr:=true) (cs:=[]) ah aw aa aa ?_;simp(disch:=omega)[go_sem,hR,aI,aq.e,aX.e];refine dY (ck (wr:=true) (aj:=13) ?_) (.inr rfl) aC ?_ ?_ ?_
           . exact ah
           all_goals simp[aX.e]
         . refine aL ?_;refine fM (wr:=true) (cs:=[]) ah aw aa aa ?_;simp(disch:=omega)[go_sem,ae];refine kP (cs:=(g.ay.map aX.e).flatten) ah bd aC aC (by simp[go_sem]) aa ?_;simp(disch:=omega)[go_sem,hR,aq.e,aX.e];refine dY (ck (wr:=true) (aj:=13) ah) (.inr rfl) aC aw aw ?_
           . intro y hy;simp only[FQ,yy,KE]at hy;rcases hy with⟨z,_,rfl⟩|rfl<;>rfl)
end Go.Sp
end
noncomputable section
open Go Go.aD Go.Proofs
namespace Go.Sp
structure eo(g:aq)(r:Nat):Prop where
 ay:0<g.ay.length
 aP:0<g.aP.length/\g.aP.length<=3
 conds:g.conds.length<=3
 aZ:g.aZ.length<=3+r
 bn:g.bn.length<=3+r
 au:g.au.length=11
 my:∀l∈g.bn,l.ay.length<=4096
 ord:∀i x,i<9->g.au[i]? =some x->x.cls=0/\(x.lit=⟨#[]⟩↔i=0)
def eo.ok{g:aq}{r:Nat}(h:eo g r)(hr:r<=6):sx g:=
 ⟨h.ay,h.aP.1,h.conds,by have:=h.aZ;omega,by have:=h.bn;omega,by have:=h.au;omega,h.my,by have:=h.au;omega,h.ord⟩
def eo.eA{g:aq}{r:Nat}(h:eo g r)(f:bk):eo (eA g f) (r+1):=
 ⟨h.ay,h.aP,h.conds,by have:=h.aZ;simp[Go.Sp.eA];omega,by have:=h.bn;simp[Go.Sp.eA];omega,h.au,h.my,h.ord⟩
def eo.more{g:aq}{r:Nat}(h:eo g r):eo g (r+1):=
 ⟨h.ay,h.aP,h.conds,by have:=h.aZ;omega,by have:=h.bn;omega,h.au,h.my,h.ord⟩
def eo.js{g:aq}{r:Nat}(h:eo g r)(k:Nat)(d:Dg):eo (js g k d) (r+1):=by
 refine⟨h.ay,h.aP,h.conds,h.more.aZ,h.more.bn,by simp[Go.Sp.js,h.au],h.my,λi x hi hx=> ?_⟩;simp only[Go.Sp.js,List.getElem?_modify]at hx;cases hy:g.au[i]? with
 |none=>rw[hy]at hx;cases hx
 |some y=>
  rw[hy]at hx;have:=h.ord i y hi hy
  split at hx<;>cases hx<;>exact this
def eo.level{g:aq}{r:Nat}(h:eo g r)(a b c:Int)(d:Dg):eo (kp g a b c d) (r+1):=by
 unfold kp
 split
 . exact h.more
 . refine⟨h.ay,h.aP,h.conds,h.more.aZ,by have:=h.bn;simp;omega,h.au,λl hl=> ?_,h.ord⟩;rcases FQ.1 hl with hl|hl
   . exact h.my l hl
   . obtain rfl:=KE.1 hl;simp only
     split<;>simp
def eo.Cp{g:aq}{r:Nat}(h:eo g r)(sm:Int->Nat->Dg)(x:Rl):eo (ja sm g x) (r+1):=by
 unfold ja;simp only
 split
 . exact h.level ..
 split
 . split
   . exact h.eA _
   . exact h.more
 split
 . exact h.eA _
 split
 . exact h.eA _
 . exact h.js _ _
def eo.line{g:aq}{r:Nat}(h:eo g r)(sm:Int->Nat->Dg)(x:Ln)(known:Bool):eo (fO sm g x known) r:=by
 unfold fO;simp only
 split
 . exact h
 . exact⟨aw,h.aP,h.conds,h.aZ,h.bn,h.au,h.my,h.ord⟩
def Za(sm:Int->Nat->Dg)(g:aq)(x:Ln)(known:Bool):(fO sm g x known).ay.length<=g.ay.length+1:=by
 unfold fO;simp only
 split
 . omega
 . simp
structure cM where
 base:Int
 n:Int
 family:List Int
 lines:List Ln
 rules:List Rl
def cM.e(x:cM):List DV:=[uV x.base,uV x.n,.sl 1 (x.family.map λb=>[uV b]),.sl 4 (x.lines.map Ln.e),.sl 5 (x.rules.map Rl.e)]
structure cM.Ok(x:cM):Prop where
 base:0<=x.base/\x.base<256
 n:0<=x.n/\x.n<256
 family:∀b∈x.family,0<=b/\b<256
 lines:∀l∈x.lines,l.Ok
 rules:∀l∈x.rules,l.Ok
def uf:List ByteArray:=[⟨#[83]⟩,⟨#[80]⟩,⟨#[81]⟩]
def oo:List ByteArray:=[⟨#[65]⟩,⟨#[66]⟩,⟨#[67]⟩]
def iH(x:cM):aq:=
 if x.base%8<6 then ic (x.base%8)
 else⟨oo.take (x.n%4).toNat,aW true,au,uf.take (1+(x.n/4)%3).toNat,[bE ⟨#[102,105,114,115,116]⟩ 0 [⟨true,0⟩] (aW true)],0,[],[]⟩
def iI(md:List Int->Nat->Dg)(x:cM)(g:aq):aq:=
 let d:=md x.family g.conds.length
 if 0<x.family.length/\d.root≠0 then{g with family:=d}else g
def cB(md:List Int->Nat->Dg)(x:cM):aq:=
 let known:=decide (x.base%8<6)
 let g:=iI md x (iH x)
 let g:=(x.lines.take (if known then 6 else 10)).foldl (λg l=>fO (cE md) g l known) g
 (x.rules.take 6).foldl (ja (cE md)) g
def Ic:∀i x,i<9->au[i]? =some x->x.cls=0/\(x.lit=⟨#[]⟩↔i=0):=by
 intro i x hi hx;have:i=0\/i=1\/i=2\/i=3\/i=4\/i=5\/i=6\/i=7\/i=8:=aa;rcases this with rfl|rfl|rfl|rfl|rfl|rfl|rfl|rfl|rfl<;>(simp[au,lits]at hx;subst hx;simp[iG,fN])
theorem Ie:au.length=11:=rfl
def eo.of{g:aq}(h1:0<g.ay.length)(h2:0<g.aP.length/\g.aP.length<=3)(h3:g.conds.length<=3)(h4:g.aZ.length<=3)(h5:g.bn.length<=3)(h6:g.au=Go.Sp.au)(h7:∀l∈g.bn,l.ay.length<=4096):eo g 0:=
 ⟨h1,h2,h3,h4,h5,by rw[h6];exact Ie,h7,by rw[h6];exact Ic⟩
def Zb(b:Int):eo (ic b) 0/\(ic b).ay.length<=10:=by
 unfold ic
 repeat' split
 all_goals (refine⟨eo.of ?_ ?_ ?_ ?_ ?_ rfl ?_, ?_⟩<;>simp[Ch,Ci,Cj,Ck,Cl,Cm])
def Ig(x:cM)(hx:x.Ok):eo (iH x) 0/\(iH x).ay.length<=10:=by
 unfold iH
 split
 . exact Zb _
 . have:=hx.n;refine⟨eo.of aw ?_ ?_ aw aw rfl aw,aw⟩
   . simp[uf];omega
   . simp[oo];omega
def eo.cW{g:aq}{r:Nat}(h:eo g r)(md:List Int->Nat->Dg)(x:cM):eo (iI md x g) r/\(iI md x g).ay.length=g.ay.length:=by
 unfold iI;simp only
 split
 . exact⟨⟨h.ay,h.aP,h.conds,h.aZ,h.bn,h.au,h.my,h.ord⟩,rfl⟩
 . exact⟨h,rfl⟩
def Ih{h:ae}{ty:TypeId}{b n c s aj:Nat}{cs:List DV}{wr:Bool}{k:IntKind}{z:Int}(hs:E.elem ty=some s)(hg:h.get b=some (.row cs wr aj))(he:aj=0\/aj=s)(h0:0<=z)(h1:z<=c):
 de E h ty (some (.v (.slice (some ⟨b,0,none⟩) n c))) (some none) (some (some (.v (.int k z)))) (some none)=some (.v (.slice (some ⟨b,0,none⟩) z.toNat c)):=by
 have h2:z.toNat<=c:=aa;simp[de,fK,gd,jH,dR,hs,hg,he,h0,h1,h2]
def Cq{h:ae}{ty:TypeId}{b n c s aj:Nat}{cs:List DV}{wr:Bool}{k:IntKind}{z:Int}{K:DV->Prop}(hs:E.elem ty=some s)(hg:h.get b=some (.row cs wr aj))(he:aj=0\/aj=s)(h0:0<=z)(h1:z<=c)(hk:K (.v (.slice (some ⟨b,0,none⟩) z.toNat c))):
 aO (de E h ty (some (.v (.slice (some ⟨b,0,none⟩) n c))) (some none) (some (some (.v (.int k z)))) (some none)) K:=⟨_,Ih hs hg he h0 h1,hk⟩
def Zc{S:eQ}{r n c k aj:Nat}{xs:List (List DV)}(hr:S r=some (xs.flatten,aj))(he:aj=0\/aj=k)(hk:0<k)(hn:n<=xs.length)(hc:n<=c)(hx:∀x∈xs,x.length=k):Fz S (.v (.slice (some ⟨r,0,none⟩) n c)) (.sl k (xs.take n)):=by
 have hl:(xs.take n).length=n:=by rw[afG];omega
 refine .sl hr he hk hl.symm hc (λx h=>hx x (afM h)) ?_ λj x i v d h1 h2 h3=> ?_
 . rw[hl,fF hx,RW];exact afN _ hn
 . have h4:xs[j]? =some x:=by
    rw[ab8]at h1
    split at h1
    . exact h1
    . cases h1
   have:=sk j i x d hx h4 h2;rw[RW,this]at h3;cases h3;exact .refl _
def Ii{S:eQ}{α:Type}{r n c k aj:Nat}{f:α->List DV}{l:List α}(hk:0<k)(hn:n<=l.length)(hc:n<=c)(hx:∀x,(f x).length=k)(he:aj=0\/aj=k)(hr:S r=some ((l.map f).flatten,aj)):Fz S (.v (.slice (some ⟨r,0,none⟩) n c)) (.sl k ((l.take n).map f)):=by
 rw[List.map_take];exact Zc hr he hk (by simpa using hn) hc (λx h=>by obtain⟨y,_,rfl⟩:=yy.1 h;exact hx y)
end Go.Sp
end
noncomputable section
open Go Go.aD Go.Proofs
namespace Go.aD
variable {e:Env} {ar:Bool}
def WD.split(he:e.Ok)(ah:e.P.follows .mixedOrders=true){a b:Code}{d:DS}{K:bB->DS->Prop}(h:RD e ar a d λx s1=>match x with|.normal=>∃d',aB s1 d'/\WD e ar b d' K|x=>K x s1):WD e ar (.seq a b) d K:=by
 intro G s hs;refine WQ.seq ((RD.wd he ah a d _ h G s hs).mono λx s1 ⟨d1,G1,q1,q2,q3⟩=> ?_);cases x with
 |normal=>
  obtain⟨d',h1,h2⟩:=q3;obtain⟨G2,q4,q5⟩:=h1 G1 s1 q1;exact(h2 G2 s1 q4).mono λ_ _=>mj.up (q2.trans q5)
 |exit i=>exact⟨d1,G1,q1,q2,q3⟩
 |ret=>exact⟨d1,G1,q1,q2,q3⟩
variable {G:Nat->Prop} {h:ab} {dh:ae} {R:Rows}
def c8.Zd(he:e.Ok)(ah:e.P.follows .mixedOrders=true)(af:Idle e){f:FuncId}{fn:Func}{c:Code}{aa:List DV}{K:DV->ae->Prop}(ai:e.fn f=some fn)(hb:fn.body=some c){n:Nat}(hn:fn.ntmps=n){rs:List ResultVar}(ak:fn.results=rs.toArray)
 (hq:WD e ar c ⟨iX aa,aa.length+(n-aa.length),[],dh⟩ (jL e rs K)) (G:Nat->Prop) (h:ab) (args:List Value) (x:bO G h dh) (ha:cz (aQ h G) args aa):
 match ar with
 |true=>∃v h',bU e f args h v h'/\∃d ad G',bO G' h' ad/\Kp G h dh G' h' ad/\Rel (aQ h' G') v d/\K d ad
 |false=>fJ e f args h λv h'=>∃d ad G',bO G' h' ad/\Kp G h dh G' h' ad/\Rel (aQ h' G') v d/\K d ad:=by
 subst hn;have hlen:args.length=aa.length:=ha.length;have hs:SD G ⟨gY args,args.length+(fn.ntmps-args.length),[],h⟩ ⟨iX aa,aa.length+(fn.ntmps-aa.length),[],dh⟩:=⟨by simp only[hlen],(Gm x.fD ha).all,.nil,x⟩;have key:=hq G _ hs;have fin:∀x s',mj G h dh (jL e rs K) x s'->oV e fn.results.toList (λv h'=>∃d ad G',bO G' h' ad/\Kp G h dh G' h' ad/\Rel (aQ h' G') v d/\K d ad) x s':=by
  rintro x s' ⟨d',G',q1,q2,q3,q4,l,q5,q6⟩;obtain⟨vs,q7,q8⟩:=Bc q1 q5;refine⟨q3,s'.h,vs,Bd q1.dd q4,by rw[ak];exact q7,ke l,d'.h,G',q1.h,q2,Gj q8,q6⟩
 cases ar with
 |false=>exact fJ.of he af ai hb (WR.mono key fin)
 |true=>
  obtain⟨x,s',h1,h2⟩:=key;obtain⟨h3,h4,vs,h5,h6,h7⟩:=fin x s' h2;refine⟨j7 vs,h4, ?_,h7⟩;have:=zX he af (Aj h1) f args h (j7 vs) h4 (by
   unfold qb;simp only[ai,hb];have:qh c {t:=gY args,n:=args.length+(fn.ntmps-args.length),ds:=[],h} x s' none c {t:=gY args,n:=args.length+(fn.ntmps-args.length),ds:=[],h}=some (x,s'):=by
    unfold qh;rw[if_pos ⟨rfl,rfl,rfl⟩]
   rw[this];cases x with
   |exit i=>exact absurd rfl (h3 i)
   |normal=>
    simp only[h5,h6]
    match vs with
    |[]=>rfl
    |[v]=>rfl
    |_::_::_=>rfl
   |ret=>
    simp only[h5,h6]
    match vs with
    |[]=>rfl
    |[v]=>rfl
    |_::_::_=>rfl)
  exact this
def aE.Ze(he:e.Ok)(ah:e.P.follows .mixedOrders=true)(af:Idle e){f:FuncId}{fn:Func}{c:Code}{aa:List DV}{dv:DV}(ai:e.fn f=some fn)(hb:fn.body=some c){n:Nat}(hn:fn.ntmps=n){rs:List ResultVar}(ak:fn.results=rs.toArray)
 (hq:∀N,WD e ar c ⟨iX aa,aa.length+(n-aa.length),[],ae.none N⟩ (jL e rs λd h=>Fz (allRows h) d dv)):aE e ar f aa dv:=by
 intro G h args hG ha;have x:bO G h (ae.none h.next):=⟨hG.2,rfl,λi o ho=>(by rw[ae.get_none]at ho;cases ho),λi hi=>⟨hG.1 i hi,ae.get_none _ _⟩⟩;have key:=c8.Zd he ah af ai hb hn ak (hq h.next) G h args x ha;have fin:∀v h',(∃d ad G',bO G' h' ad/\Kp G h (ae.none h.next) G' h' ad/\Rel (aQ h' G') v d/\Fz (allRows ad) d dv)->qA G h dv v h':=by
  rintro v h' ⟨d,ad,G',q1,q2,q3,q4⟩;refine⟨q2.next,λi hi=>(q2.same i hi (ae.get_none _ _)).1,Rel.fz (G':=sd G h h') q1 (λi cs aj hr=> ?_) (λi hg=> ?_) q4 q3⟩
  . unfold allRows at hr
    split at hr
    . rename_i cs' wr an hg;cases hr;refine⟨.inr ⟨?_,(q1.obj _ _ hg).1⟩,wr,hg⟩;rcases adv i h.next with hi|hi
      . rw[(q2.same i hi (ae.get_none _ _)).2]at hg;cases hg
      . exact hi
    . cases hr
  . rcases adv i h.next with hi|hi
    . rcases q2.bl i hi hg with h1|h1
      . exact .inl h1
      . rw[ae.get_none]at h1;cases h1
    . exact .inr ⟨hi,(q1.still i hg).1⟩
 cases ar with
 |true=>obtain⟨v,h',h1,h2⟩:=key;exact⟨v,h',h1,fin v h' h2⟩
 |false=>exact fJ.mono key fin
def WD.cut(he:e.Ok)(ah:e.P.follows .mixedOrders=true){a b:Code}{d:DS}{K:bB->DS->Prop}(Inv:DS->Prop)(h:RD e ar a d λx s1=>match x with|.normal=>∃d',aB s1 d'/\Inv d'|x=>K x s1)(h2:∀d',Inv d'->WD e ar b d' K):WD e ar (.seq a b) d K:=by
 intro G s hs;refine WQ.seq ((RD.wd he ah a d _ h G s hs).mono λx s1 ⟨d1,G1,q1,q2,q3⟩=> ?_);cases x with
 |normal=>
  obtain⟨d',h1,h3⟩:=q3;obtain⟨G2,q4,q5⟩:=h1 G1 s1 q1;exact(h2 d' h3 G2 s1 q4).mono λ_ _=>mj.up (q2.trans q5)
 |exit i=>exact⟨d1,G1,q1,q2,q3⟩
 |ret=>exact⟨d1,G1,q1,q2,q3⟩
end Go.aD
namespace Go.Sp
def qM{f:FuncId}{fn:Func}{c:Code}{aa:List DV}{dv:DV}{n:Nat}(hn:fn.ntmps=n){rs:List ResultVar}(ak:fn.results=rs.toArray)
 (hq:∀N,WD E true c ⟨iX aa,aa.length+(n-aa.length),[],ae.none N⟩ (jL E rs λd h=>Fz (allRows h) d dv)) (ai:E.fn f=some fn:=by kernel_rfl) (hb:fn.body=some c:=by rfl):aE E true f aa dv:=aE.Ze (kG []) lH (tE []) ai hb hn ak hq
def Ij{a b:Code}{d:DS}{K:bB->DS->Prop}(h:RD E true a d λx s1=>match x with|.normal=>∃d',aB s1 d'/\WD E true b d' K|x=>K x s1):WD E true (.seq a b) d K:=WD.split (kG []) lH h
def qN{c:Code}{d:DS}{K:bB->DS->Prop}(h:RD E true c d K):WD E true c d K:=RD.wd (kG []) lH c d K h
def iJ{a b:Code}{d:DS}{K:bB->DS->Prop}(Inv:DS->Prop)(h:RD E true a d λx s1=>match x with|.normal=>∃d',aB s1 d'/\Inv d'|x=>K x s1)(h2:∀d',Inv d'->WD E true b d' K):WD E true (.seq a b) d K:=WD.cut (kG []) lH Inv h h2
def du{a b:Code}{d:DS}{K:bB->DS->Prop}(h:RD E true a d λx s1=>match x with|.normal=>WD E true b s1 K|x=>K x s1):WD E true (.seq a b) d K:=by
 intro G s hs;refine WQ.seq ((RD.wd (kG []) lH a d _ h G s hs).mono λx s1 ⟨d1,G1,q1,q2,q3⟩=> ?_);cases x with
 |normal=>exact(q3 G1 s1 q1).mono λ_ _=>mj.up q2
 |exit i=>exact⟨d1,G1,q1,q2,q3⟩
 |ret=>exact⟨d1,G1,q1,q2,q3⟩
end Go.Sp
end
noncomputable section
open Go Go.aD Go.Proofs
namespace Go.Sp
def Io:Cn:=by
 have h:∀c∈Xy 64,aE E true 30 [.agg (vr (c:Int)).e] (.agg (ue (c:Int)).e):=bR ak;intro v h0 h1;have:=h v.toNat (by simp;omega);rwa[Int.toNat_of_nonneg h0]at this
abbrev Br:Type:=Nat×Nat×Nat
def dG(x:Br):List Value:=[.int .i64 x.1,.int .i64 x.2.1,.int .i64 x.2.2]
def cm(ns:List Br)(n:Nat):Nat:=if n<2 then 64 else(ns[n-2]?.map (·.1)).getD 64
def side(ns:List Br)(n v:Nat)(hi:Bool):Nat:=if cm ns n=v then(ns[n-2]?.map λx=>if hi then x.2.2 else x.2.1).getD 0 else n
def aaM(h:ab)(ns:Value)(r k:Int)(hk:k<2):bU E 135 [.agg #[ns,.int .i64 r],.int .i64 k] h (.int .i64 64) h:=by
 refine mg Tryz.ntmps135 Tryz.results135 rfl ?_;simp[go_sem,hk]
def aaN(h:ab)(b o len cap:Nat)(r k v:Int)(h2:2<=k)(hk:k<len+2)(hb:b<h.next)(hr:rd h b (o+(k-2).toNat*3)=some (.int .i64 v))(hlen:len<=10000):
 bU E 135 [.agg #[.slice (some ⟨b,o,none⟩) len cap,.int .i64 r],.int .i64 k] h (.int .i64 v) h:=by
 refine mg Tryz.ntmps135 Tryz.results135 rfl ?_;have h1:¬k<2:=aa;simp(disch:=omega)[go_sem,h1,aG,tC,dr,hr];exact(Sub.refl h).new _
def wk{h:ab}{sl:Value}{ns:List Br}(r:Int)(n:Nat)(hs:kH 3 h sl (ns.map dG))(hn:n<ns.length+2)(hlen:ns.length<=10000):bU E 135 [.agg #[sl,.int .i64 r],.int .i64 n] h (.int .i64 (cm ns n)) h:=by
 by_cases h2:n<2
 . have:=aaM h sl r n aa;rwa[show cm ns n=64 by simp[cm,h2]]
 . obtain⟨x,hx⟩:∃x,ns[n-2]? =some x:=⟨_,yB aa⟩;obtain⟨b,o,c,rfl,hb,hj,hc⟩:=hs.at (j:=n-2) (x:=dG x) (by simp[hx]);have:=aaN h b o (ns.map dG).length c r n x.1 aa (by simp;omega) hb (by rw[show((n:Int)-2).toNat=n-2 by omega];exact hc 0 _ rfl) (by simpa using hlen);rwa[show cm ns n=x.1 by simp[cm,h2,hx]]
def aaO{h:ab}{sl:Value}{ns:List Br}(r:Int)(n v:Nat)(hs:kH 3 h sl (ns.map dG))(hn:n<ns.length+2)(hlen:ns.length<=10000)(hv:cm ns n≠v):
 bU E 207 [.agg #[sl,.int .i64 r],.int .i64 n,.int .i64 v] h (.tuple #[.int .i64 n,.int .i64 n]) h:=by
 refine mg Tryz.ntmps207 Tryz.results207 rfl ?_;refine aL ?_;refine KC.mk (wk r n (hs.sub ((Sub.refl h).new _)) hn hlen) ?_;have ad:((cm ns n:Nat):Int)≠v:=aa;simp(disch:=omega)[go_sem,ad];exact(Sub.refl h).new _
def aaP{h:ab}{sl:Value}{ns:List Br}(r:Int)(n v:Nat)(hs:kH 3 h sl (ns.map dG))(hn:n<ns.length+2)(hlen:ns.length<=10000)(h2:2<=n){x:Br}(hx:ns[n-2]? =some x)(hv:x.1=v):
 bU E 207 [.agg #[sl,.int .i64 r],.int .i64 n,.int .i64 v] h (.tuple #[.int .i64 x.2.1,.int .i64 x.2.2]) h:=by
 have hl:cm ns n=v:=by simp[cm,hx,hv];omega
 obtain⟨b,o,c,rfl,hb,hj,hc⟩:=hs.at (j:=n-2) (x:=dG x) (by simp[hx]);have c1:=hc 1 _ rfl;have c2:=hc 2 _ rfl;simp only[afy]at hj hs⊢;have e1:((n:Int)-2).toNat=n-2:=aa;refine mg Tryz.ntmps207 Tryz.results207 rfl ?_;refine aL ?_;refine KC.mk (wk r n (hs.sub ((Sub.refl h).new _)) hn hlen) ?_;simp(disch:=omega)[go_sem,hl];refine ln [bg 0,dQ 1,bg 0,bg 4,bg 15,bg 31,dQ 63,bg 0,dQ 128,bg 0,bg 512,bg 1920,bg 3968,dQ 8064,bg 127,bg 32767] ak 0 rfl ?_;simp(disch:=omega)[go_sem,aG,tC,dr,e1,c1,c2];exact(Sub.refl h).new _
def CB{h:ab}{sl:Value}{ns:List Br}(r:Int)(n v:Nat)(hs:kH 3 h sl (ns.map dG))(hn:n<ns.length+2)(hlen:ns.length<=10000)(hv:v<64):
 bU E 207 [.agg #[sl,.int .i64 r],.int .i64 n,.int .i64 v] h (.tuple #[.int .i64 (side ns n v false),.int .i64 (side ns n v true)]) h:=by
 by_cases hl:cm ns n=v
 . have h2:2<=n:=by
    rcases adv n 2 with h2|h2
    . simp[cm,h2]at hl;omega
    . exact h2
   obtain⟨x,hx⟩:∃x,ns[n-2]? =some x:=⟨_,yB aa⟩;have h3:¬n<2:=aa;have:=aaP r n v hs hn hlen h2 hx (by simpa[cm,h3,hx]using hl);simpa[side,hl,hx]using this
 . have:=aaO r n v hs hn hlen hl;simpa[side,hl]using this
end Go.Sp
end

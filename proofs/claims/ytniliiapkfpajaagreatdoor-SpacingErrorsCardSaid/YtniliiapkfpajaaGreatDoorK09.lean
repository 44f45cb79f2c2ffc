/- Parts of a proof. -/
import Derived.Test.YtniliiapkfpajaaGreatDoorK07
import Derived.Test.YtniliiapkfpajaaGreatDoorK08
open Nat renaming le_refl->oY,beq->Rb,eq_of_beq_eq_true->UR,zero_add->Yt,le_trans->afd,le_of_ble_eq_true->afg,zero_le->afk,lt_or_ge->afn,add_mul->afo
open List renaming mem_map->yx,eq_nil_of_length_eq_zero->Ey,getElem?_eq_getElem->Fj,mem_append->HT,mem_singleton->Q0,range->WZ,flatten_append->Xt,getElem?_eq_some_iff->adr,mem_cons_of_mem->afc,flatten_cons->aff,all_eq_true->afh,mem_of_getElem?->afi,foldl_cons->afj,take_add_one->afl,take_of_length_le->afm,length_append->afp,getElem?_map->afq,length_map->afs,getElem?_take->aft,reverse_cons->afu,length_take->afw,getElem?_drop->afx,map_congr_left->afy,getD_eq_getElem?_getD->afz,any_eq_true->afA,countP_pos_iff->afB
open Bool renaming and_eq_true->Rm
open Int renaming emod_nonneg->YN,emod_lt_of_pos->afe
open Option renaming map_eq_some_iff->afr
open Option.some renaming injEq->afv
set_option linter.all false
set_option maxRecDepth 100000
noncomputable section
open Go Go.aD Go.Proofs
namespace Go.Sp
variable {ar:Bool}
def aV{f:FuncId}{fn:Func}{c:Code}{ab:List DV}{dv:DV}{n:Nat}(hn:fn.ntmps=n){rs:List ResultVar}(ad:fn.results=rs.toArray)
 (hq:∀N,RD E ar c ⟨gD ab,ab.length+(n-ab.length),[],ah.none N⟩ (ib E rs λd h=>Fz (allRows h) d dv)) (ae:E.fn f=some fn:=by kernel_rfl) (hb:fn.body=some c:=by rfl):ay E ar f ab dv:=ay.of (jj []) ko (qf []) ae hb hn ad hq
def bM{c:Code}{K:bu->DS->Prop}{d:DS}(I:Nat->DS->Prop)(j:Nat)(hw:∃d',aB d d'/\I j d')(hI:∀j d,I j d->RD E ar c d (KI I j K)):WD E ar (.loop c) d K:=WD.loop (jj []) ko I hI j d hw
def W0(e:Env)(ops:List Oper)(op:Op)(dst:Option Tmp)(r:List Oper)(t:Tr DV)(n:Nat)(dd:List FuncId)(h:ah)(K:DS->Prop)(w:Bool):mg e ar ops op dst r t n dd h K w cX=eU e ar ops r (cH dst cX t) n dd h K:=FZ ..
def W1(h:ah):eV h []=h:=(rfl)
def W2(h:ah)(i:Nat)(l:List Nat):eV h (i::l)=(eV h l).set i none:=(rfl)
attribute [go_sem] tG W0 W1 W2
def W3{α:Type}{a b:Nat}{x y:α}(h:a≠b):(if a=b then x else y)=y:=if_neg h
def W4{α:Type}{a b:Nat}{x y:α}(h:a=b):(if a=b then x else y)=x:=if_pos h
attribute [go_sem] ah.bD ah.cW W3 W4
def bw:List (Nat×DV)->Tr DV
 |[]=>.nil
 |(i,v)::l=>(bw l).set i (some v)
def cA(N:Nat):List (Nat×bJ)->ah
 |[]=>ah.none N
 |(i,o)::l=>(cA N l).set i (some o)
def Gp(i:Nat):(bw []).get i=none:=Tr.get_nil i
def BI(i j:Nat)(v:DV)(l:List (Nat×DV)):(bw ((i,v)::l)).get j=if j=i then some v else(bw l).get j:=Tr.bD _ _ _ _
def yh(N i:Nat):(cA N []).get i=none:=ah.get_none _ _
def vQ(N i j:Nat)(o:bJ)(l:List (Nat×bJ)):(cA N ((i,o)::l)).get j=if j=i then some o else(cA N l).get j:=ah.bD _ _ _ _
def vR(N:Nat):∀(l:List (Nat×bJ)),(cA N l).next=N
 |[]=>rfl
 |_::l=>vR N l
def vS{t:Tr DV}:∀{l:List (Nat×DV)},(∀p∈l,t.get p.1=some p.2)->∀i v,(bw l).get i=some v->t.get i=some v
 |[],_,i,v,h=>by rw[Gp]at h;cases h
 |(j,u)::l,hl,i,v,h=>by
  rw[BI]at h
  split at h
  . rename_i hi;subst hi;cases h;exact hl (i,u) aw
  . exact vS (λp hp=>hl p (afc _ hp)) i v h
def BJ{h:ah}{N:Nat}:∀{l:List (Nat×bJ)},(∀p∈l,h.get p.1=some p.2)->∀i o,(cA N l).get i=some o->h.get i=some o
 |[],_,i,v,h=>by rw[yh]at h;cases h
 |(j,u)::l,hl,i,v,h=>by
  rw[vQ]at h
  split at h
  . rename_i hi;subst hi;cases h;exact hl (i,u) aw
  . exact BJ (λp hp=>hl p (afc _ hp)) i v h
def iQ(t:Tr DV):List (Nat×DV)->Prop
 |[]=>True
 |p::l=>t.get p.1=some p.2/\iQ t l
def oX(h:ah):List (Nat×bJ)->Prop
 |[]=>True
 |p::l=>h.get p.1=some p.2/\oX h l
def W5(t:Tr DV):iQ t []=True:=(rfl)
def W6(t:Tr DV)(i:Nat)(v:DV)(l:List (Nat×DV)):iQ t ((i,v)::l)=(t.get i=some v/\iQ t l):=(rfl)
def W7(h:ah):oX h []=True:=(rfl)
def W8(h:ah)(i:Nat)(v:bJ)(l:List (Nat×bJ)):oX h ((i,v)::l)=(h.get i=some v/\oX h l):=(rfl)
def iQ.mem{t:Tr DV}:∀{l:List (Nat×DV)},iQ t l->∀p∈l,t.get p.1=some p.2
 |_::_,⟨h1,h2⟩,p,hp=>by
  rcases List.mem_cons.1 hp with rfl|hp
  . exact h1
  . exact h2.mem p hp
def oX.mem{t:ah}:∀{l:List (Nat×bJ)},oX t l->∀p∈l,t.get p.1=some p.2
 |_::_,⟨h1,h2⟩,p,hp=>by
  rcases List.mem_cons.1 hp with rfl|hp
  . exact h1
  . exact h2.mem p hp
def aB.mk{t:Tr DV}{n N:Nat}{dd:List FuncId}{h:ah}{l:List (Nat×DV)}{r:List (Nat×bJ)}(hN:h.next=N)(ht:iQ t l)(hh:oX h r):aB ⟨t,n,dd,h⟩ ⟨bw l,n,dd,cA N r⟩:=
 aB.forget (by rw[vR,hN]) (vS ht.mem) (BJ hh.mem)
attribute [go_sem] W5 W6 W7 W8
attribute [go_sem] Gp BI yh vQ vR
abbrev iV(n:Int):DV:=.v (.int .i64 n)
abbrev bV(b:Bool):DV:=.v (.bool b)
abbrev sV(s:ByteArray):DV:=.v (.string s)
abbrev cm:DV:=.v (.slice none 0 0)
abbrev uV(n:Int):DV:=.v (.int .u8 n)
section
variable {S:fB}
def BK(d:DV):Fz S d d=True:=eq_true (.refl d)
def W9(l:List DV):de S l l=True:=eq_true (de.refl l)
def BL:de S [] []=True:=eq_true .nil
def BM(a b:DV)(x y:List DV):de S (a::x) (b::y)=(Fz S a b/\de S x y):=propext ⟨λh=>by cases h with|cons h1 h2=>exact⟨h1,h2⟩,λ⟨h1,h2⟩=>.cons h1 h2⟩
def Xa(x y:List DV):Fz S (.agg x) (.agg y)=de S x y:=propext ⟨λh=>by
 cases h with
 |refl _=>exact de.refl _
 |agg h1 h2=>exact aU.ri h1 h2,Fz.dG⟩
def Xb(x y:List DV):Fz S (.bf x) (.bf y)=de S x y:=propext ⟨λh=>by
 cases h with
 |refl _=>exact de.refl _
 |bf h1 h2=>exact aU.ri h1 h2,Fz.jP⟩
def Xc(c k:Nat):Fz S (.v (.slice none 0 c)) (.sl (k+1) [])=True:=eq_true (.nil (Nat.succ_pos k))
def sc{k:Nat}:∀{xs:List (List DV)} (j i:Nat) (x:List DV) (d:DV),(∀x∈xs,x.length=k)->xs[j]? =some x->x[i]? =some d->xs.flatten[j*k+i]? =some d
 |[],j,i,x,d,_,h,_=>by simp at h
 |y::xs,0,i,x,d,hl,h,hi=>by
  simp only[List.getElem?_cons_zero,afv]at h;subst h;have:=(adr.1 hi).1;rw[aff,List.getElem?_append_left aa];simpa using hi
 |y::xs,j+1,i,x,d,hl,h,hi=>by
  have hy:y.length=k:=hl y aw;rw[aff,List.getElem?_append_right (by rw[hy,afo];omega),hy];have:=sc j i x d (λz hz=>hl z (afc _ hz)) (by simpa using h) hi;rw[<-this];congr 1;rw[afo];omega
def fi{k:Nat}:∀{xs:List (List DV)},(∀x∈xs,x.length=k)->xs.flatten.length=xs.length*k
 |[],_=>aw
 |y::xs,h=>by
  rw[aff,afp,h y aw,fi λx hx=>h x (afc _ hx),List.length_cons,afo];omega
def dW{r n c k ak:Nat}{xs:List (List DV)}(hr:S r=some (xs.flatten,ak))(he:ak=0\/ak=k)(hk:0<k)(hn:n=xs.length)(hc:n<=c)(hx:∀x∈xs,x.length=k):Fz S (.v (.slice (some ⟨r,0,none⟩) n c)) (.sl k xs):=
 .sl hr he hk hn hc hx (by rw[fi hx];omega) λj x i v d h1 h2 h3=>by
  have:=sc j i x d hx h1 h2;rw[Yt,this]at h3;cases h3;exact .refl _
def iR{r n c k ak:Nat}{cs:List DV}{xs:List (List DV)}(hr:S r=some (cs,ak))(he:ak=0\/ak=k)(hk:0<k)(hn:n=xs.length)(hc:n<=c)(hx:∀x∈xs,x.length=k)(hz:de S cs xs.flatten):Fz S (.v (.slice (some ⟨r,0,none⟩) n c)) (.sl k xs):=
 .sl hr he hk hn hc hx (by rw[aU.length hz,fi hx];omega) λj x i v d h1 h2 h3=>by
  have h4:=sc j i x d hx h1 h2;rw[Yt]at h3;obtain⟨d',h5,h6⟩:=aU.get hz _ v h3;rw[h4]at h5;cases h5;exact h6
end
attribute [go_sem] qn BK W9 BL BM Xa Xb Xc WO WS WT WU Gn WV tR WW WX
def cu{h:ah}{i:Nat}{cs:List DV}{wr:Bool}{ak:Nat}(hg:h.get i=some (.row cs wr ak)):allRows h i=some (cs,ak):=by unfold allRows;rw[hg]
def kC{h:ah}{i len sz b n:Nat}{cs new:List DV}{K:DV×ah×List Nat->Prop}(hg:h.get i=some (.row cs true sz))(hc:cs.length=len*sz)(hs:0<sz)(hn:0<n)(h1:new.all cD=true)(hb:(len+n)*(b+1)<=1073741824)
 (hk:K (.v (.slice (some ⟨h.next,0,none⟩) (len+n) (len+n)),(h.set i none).new (.row (cs++new) true sz),[i])):aN (eA h (some ⟨i,0,none⟩) len len sz b n new) K:=⟨_,rX h i len sz b n cs new hg hc hs hn h1 hb,hk⟩
def gb{h:ah}{i len sz b n:Nat}{cs new:List DV}{wr:Bool}{K:DV×ah×List Nat->Prop}(hg:h.get i=some (.row cs wr 0))(hc:cs.length=len*sz)(hn:0<n)(hb:(len+n)*(b+1)<=1073741824)
 (hk:K (.v (.slice (some ⟨h.next,0,none⟩) (len+n) (len+n)),h.new (.row (cs++new) true sz),[])):aN (eA h (some ⟨i,0,none⟩) len len sz b n new) K:=⟨_,F5 h i len sz b n cs new wr hg hc hn hb,hk⟩
def Xd{h:ah}{sz b n:Nat}{new:List DV}{K:DV×ah×List Nat->Prop}(hn:0<n)(hb:n*(b+1)<=1073741824)(hk:K (.v (.slice (some ⟨h.next,0,none⟩) n n),h.new (.row new true sz),[])):aN (eA h none 0 0 sz b n new) K:=⟨_,oU h sz b n new hn hb,hk⟩
def gv(r:Option Nat)(n:Nat):DV:=match r with
 |none=>cm
 |some r=>.v (.slice (some ⟨r,0,none⟩) n n)
def gh(r:Option Nat)(k:Nat)(cs:List DV):List (Nat×bJ):=match r with
 |none=>[]
 |some r=>[(r,.row cs true k)]
def Xe(n:Nat):gv none n=cm:=(rfl)
def Xf(r n:Nat):gv (some r) n=.v (.slice (some ⟨r,0,none⟩) n n):=(rfl)
def Xg(k:Nat)(cs:List DV):gh none k cs=[]:=(rfl)
def Xh(r k:Nat)(cs:List DV):gh (some r) k cs=[(r,.row cs true k)]:=(rfl)
attribute [go_sem] Xe Xf Xg Xh
structure Dg where
 nodes:List (Int×Int×Int)
 root:Int
structure aY where
 kind:Int
 lo:Int
 hi:Int
 a:Int
 b:Int
structure Tok where
 name:ByteArray
 cls:Int
 lit:ByteArray
 pat:List aY
 kW:ByteArray
 cond:Dg
structure Sym where
 tok:Bool
 idx:Int
structure lH where
 kind:Int
 a:Int
 b:Int
structure Gq where
 opens:Bool
 declares:Int
 kind:Int
 tS:Int
 allowed:Int
structure aK where
 name:ByteArray
 left:Int
 right:List Sym
 cond:Dg
 bracket:Bool
 eR:Int
 layout:List lH
 scope:Gq
structure cP where
 aq:List Int
 assoc:Int
 cond:Dg
structure bl where
 kind:Int
 parent:Int
 at_:Int
 child:Int
 left:Int
 token:Int
 aF:List Int
 cond:Dg
structure aj where
 conds:List ByteArray
 family:Dg
 aF:List Tok
 aI:List ByteArray
 aq:List aK
 start:Int
 bj:List cP
 bx:List bl
def cB(x:Int×Int×Int):List DV:=[iV x.1,iV x.2.1,iV x.2.2]
abbrev ints(l:List Int):DV:=.sl 1 (l.map λn=>[iV n])
abbrev strs(l:List ByteArray):DV:=.sl 1 (l.map λs=>[sV s])
def Dg.e(d:Dg):List DV:=[.sl 3 (d.nodes.map cB),iV d.root]
def aY.e(x:aY):List DV:=[iV x.kind,iV x.lo,iV x.hi,iV x.a,iV x.b]
def Tok.e(x:Tok):List DV:=[sV x.name,iV x.cls,sV x.lit,.sl 5 (x.pat.map aY.e),sV x.kW,.sl 3 (x.cond.nodes.map cB),iV x.cond.root]
def Sym.e(x:Sym):List DV:=[bV x.tok,iV x.idx]
def lH.e(x:lH):List DV:=[iV x.kind,iV x.a,iV x.b]
def aK.e(x:aK):List DV:=[sV x.name,iV x.left,.sl 2 (x.right.map Sym.e),.sl 3 (x.cond.nodes.map cB),iV x.cond.root,bV x.bracket,iV x.eR,.sl 3 (x.layout.map lH.e),bV x.scope.opens,iV x.scope.declares,iV x.scope.kind,iV x.scope.tS,iV x.scope.allowed]
def cP.e(x:cP):List DV:=[ints x.aq,iV x.assoc,.sl 3 (x.cond.nodes.map cB),iV x.cond.root]
def bl.e(x:bl):List DV:=[iV x.kind,iV x.parent,iV x.at_,iV x.child,iV x.left,iV x.token,ints x.aF,.sl 3 (x.cond.nodes.map cB),iV x.cond.root]
def aj.e(x:aj):List DV:=[strs x.conds,.sl 3 (x.family.nodes.map cB),iV x.family.root,.sl 7 (x.aF.map Tok.e),strs x.aI,.sl 13 (x.aq.map aK.e),iV x.start,.sl 4 (x.bj.map cP.e),.sl 9 (x.bx.map bl.e)]
def eX:List DV:=[cm,cm,iV 0,cm,cm,cm,iV 0,cm,cm]
end Go.Sp
end
noncomputable section
open Go Go.aD Go.Proofs
namespace Go.Sp
def Cj:Value->Value->Bool
 |.bool a,.bool b=>a==b
 |.int j a,.int k b=>decide (j=k)&&decide (a=b)
 |.string a,.string b=>decide (a=b)
 |.pointer none,.pointer none=>true
 |.slice none l c,.slice none m d=>Rb l m&&Rb c d
 |.map none,.map none=>true
 |.nilFunc,.nilFunc=>true
 |.nilIface,.nilIface=>true
 |_,_=>false
def Yu{a b:Value}(h:Cj a b=true):a=b/\iT a=true:=by
 unfold Cj at h
 split at h
 . exact⟨by rw[eq_of_beq h],rfl⟩
 . simp only[Rm,decide_eq_true_eq]at h;exact⟨by rw[h.1,h.2],rfl⟩
 . simp only[decide_eq_true_eq]at h;exact⟨by rw[h],rfl⟩
 . exact⟨rfl,rfl⟩
 . simp only[Rm]at h;exact⟨by rw[UR h.1,UR h.2],rfl⟩
 . exact⟨rfl,rfl⟩
 . exact⟨rfl,rfl⟩
 . exact⟨rfl,rfl⟩
 . cases h
def n7(f:DV->DV->Bool):List DV->List DV->Bool
 |[],[]=>true
 |a::x,b::y=>f a b&&n7 f x y
 |_,_=>false
def ui(f:List DV->List DV->Bool):List (List DV)->List (List DV)->Bool
 |[],[]=>true
 |a::x,b::y=>f a b&&ui f x y
 |_,_=>false
def Hw(f:DV->DV->Bool)(o m c k:Nat)(xs:List (List DV)):Option bJ->Bool
 |some (.row cs _ ak)=>(Rb ak 0||Rb ak k)&&Nat.blt 0 k&&Rb m xs.length&&Nat.ble m c&&xs.all (λx=>Rb x.length k)&&Nat.ble (o+m*k) cs.length&&n7 f ((cs.drop o).take (m*k)) xs.flatten
 |_=>false
def Hx(f:DV->DV->Bool)(xs:List DV):Option bJ->Bool
 |some (.row cs _ _)=>n7 f cs xs
 |_=>false
def qB:Nat->ah->DV->DV->Bool
 |0,_,_,_=>false
 |n+1,h,d,e=>match d with
  |.v a=>match e with
   |.v b=>Cj a b
   |.sl k xs=>match a with
    |.slice none l _=>Nat.blt 0 k&&Rb l 0&&xs.isEmpty
    |.slice (some ⟨b,o,none⟩) m c=>Hw (qB n h) o m c k xs (h.get b)
    |_=>false
   |.ptr xs off=>match a with
    |.pointer (some ⟨b,o,none⟩)=>Rb o off&&Hx (qB n h) xs (h.get b)
    |_=>false
   |_=>false
  |.agg a=>match e with
   |.agg l=>n7 (qB n h) a l
   |_=>false
  |.bf a=>match e with
   |.bf l=>n7 (qB n h) a l
   |_=>false
  |.sl k xs=>match e with
   |.sl k' ys=>Rb k k'&&ui (n7 (qB n h)) xs ys
   |_=>false
  |_=>false
section
variable {N:Nat} {h0 h:ah} {S:fB}
def so{f:DV->DV->Bool}:∀{x y:List DV},n7 f x y=true->x.length=y.length/\∀(i:Nat) (v d:DV),x[i]? =some v->y[i]? =some d->f v d=true
 |[],[],_=>⟨rfl,λi v d h=>by simp at h⟩
 |a::x,b::y,h=>by
  simp only[n7,Rm]at h;obtain⟨h1,h2⟩:=so h.2;refine⟨by simp[h1],λi v d h3 h4=> ?_⟩;cases i with
  |zero=>simp at h3 h4;subst h3;subst h4;exact h.1
  |succ i=>exact h2 i v d (by simpa using h3) (by simpa using h4)
 |[],_::_,h=>by simp[n7]at h
 |_::_,[],h=>by simp[n7]at h
def Hy{f:List DV->List DV->Bool}:∀{x y:List (List DV)},ui f x y=true->x.length=y.length/\∀(i:Nat) (v d:List DV),x[i]? =some v->y[i]? =some d->f v d=true
 |[],[],_=>⟨rfl,λi v d h=>by simp at h⟩
 |a::x,b::y,h=>by
  simp only[ui,Rm]at h;obtain⟨h1,h2⟩:=Hy h.2;refine⟨by simp[h1],λi v d h3 h4=> ?_⟩;cases i with
  |zero=>simp at h3 h4;subst h3;subst h4;exact h.1
  |succ i=>exact h2 i v d (by simpa using h3) (by simpa using h4)
 |[],_::_,h=>by simp[ui]at h
 |_::_,[],h=>by simp[ui]at h
def getM{f:DV->DV}{x:List DV}{i:Nat}{v:DV}(h:(x.map f)[i]? =some v):∃u,x[i]? =some u/\v=f u:=by
 rw[afq,afr]at h;obtain⟨u,h1,h2⟩:=h;exact⟨u,h1,h2.symm⟩
def Hz(hh:HS N h0 h):∀(n:Nat) {d e:DV},qB n h0 d e=true->Fz (allRows h) (sh N d) e
 |0,_,_,hd=>by cases hd
 |n+1,d,e,hd=>by
  have ih:= @Hz hh n;unfold qB at hd
  split at hd
  . rename_i a
    split at hd
    . obtain⟨rfl,h1⟩:=Yu hd;rw[bT,qy h1];exact .refl _
    . rename_i k xs
      split at hd
      . simp only[Rm,List.isEmpty_iff]at hd;obtain⟨⟨h1,h2⟩,rfl⟩:=hd;have:=UR h2;subst this;rw[bT];exact .nil (afg h1)
      . rename_i b o m c;unfold Hw at hd
        split at hd
        . rename_i cs wr ak hg;simp only[Rm,Bool.or_eq_true,afh]at hd;obtain⟨⟨⟨⟨⟨⟨h1,h2⟩,h3⟩,h4⟩,h5⟩,h7⟩,h6⟩:=hd;have hk:0<k:=afg h2;have hm:=UR h3;have hx:∀x∈xs,x.length=k:=λx hx=>UR (h5 x hx);obtain⟨g1,g2⟩:=so h6;rw[fi hx,afw,List.length_drop]at g1;simp only[bT,bY,eK];refine .sl (cu (hh.row hg)) (h1.imp UR UR) hk hm (afg h4) hx ?_ λj x i v d e1 e2 e3=> ?_
          . rw[afs,<-hm];exact afg h7
          . obtain⟨u,e4,rfl⟩:=getM e3;have e5:=sc j i x d hx e1 e2;have hj:j*k+i<m*k:=by
             have:=(adr.1 e5).1;rw[fi hx]at this;rw[hm];exact this
            refine ih (g2 (j*k+i) u d ?_ e5);rw[aft,if_pos hj,afx,<-Nat.add_assoc];exact e4
        . cases hd
      . cases hd
    . rename_i xs off
      split at hd
      . rename_i b o;simp only[Rm]at hd;obtain⟨h1,hd⟩:=hd;have:=UR h1;subst this;unfold Hx at hd
        split at hd
        . rename_i cs wr ak hg;obtain⟨g1,g2⟩:=so hd;simp only[bT,bY,eK];have e:Fz (allRows h) (.v (.pointer (some ⟨b+N,0+o,none⟩))) (.ptr xs o):=.ptr (cu (hh.row hg)) (by rw[afs];omega) λi v d e1 e2=>by
           rw[Yt]at e2;obtain⟨u,e4,rfl⟩:=getM e2;exact ih (g2 i u d e4 e1)
          rwa[Yt]at e
        . cases hd
      . cases hd
    . cases hd
  . split at hd
    . rename_i a l;rw[jZ];obtain⟨g1,g2⟩:=so hd;refine .agg (by simpa using g1) λi v d e1 e2=> ?_;obtain⟨u,e4,rfl⟩:=getM e1;exact ih (g2 i u d e4 e2)
    . cases hd
  . split at hd
    . rename_i a l;rw[js];obtain⟨g1,g2⟩:=so hd;refine .bf (by simpa using g1) λi v d e1 e2=> ?_;obtain⟨u,e4,rfl⟩:=getM e1;exact ih (g2 i u d e4 e2)
    . cases hd
  . split at hd
    . rename_i k xs k' ys;simp only[Rm]at hd;have:=UR hd.1;subst this;rw[mn];obtain⟨g1,g2⟩:=Hy hd.2;refine .sub (by simpa using g1) (λj x y e1 e2=> ?_) λj x y i v d e1 e2 e3 e4=> ?_
      . rw[afq,afr]at e1;obtain⟨x',e1,rfl⟩:=e1;rw[afs];exact(so (g2 j _ _ e1 e2)).1
      . rw[afq,afr]at e1;obtain⟨x',e1,rfl⟩:=e1;obtain⟨u,e5,rfl⟩:=getM e3;exact ih ((so (g2 j _ _ e1 e2)).2 i u d e5 e4)
    . cases hd
  . cases hd
end
def pz:Nat->DV->Bool
 |0,_=>false
 |n+1,d=>match d with
  |.v x=>iT x
  |.agg l=>l.all (pz n)
  |.bf l=>l.all (pz n)
  |.sl _ xs=>xs.all λx=>x.all (pz n)
  |.ptr xs _=>xs.all (pz n)
  |.fn _ a c=>a.all (pz n)&&c.all (pz n)
def sq{f:DV->DV}{p:DV->Bool}{l:List DV}(hf:∀d,p d=true->f d=d)(h:l.all p=true):l.map f=l:=by
 simp only[afh]at h;exact(afy λd hd=>hf d (h d hd)).trans (List.map_id' l)
def HA{N:Nat}:∀(n:Nat) (d:DV),pz n d=true->sh N d=d
 |0,_,h=>by cases h
 |n+1,d,h=>by
  have ih:= @HA N n;unfold pz at h
  split at h
  . rw[bT,qy h]
  . rw[jZ,sq (λd=>ih d) h]
  . rw[js,sq (λd=>ih d) h]
  . rename_i k xs;rw[mn];congr 1;simp only[afh]at h;exact(afy λx hx=>sq (λd=>ih d) (by simpa using h x hx)).trans (List.map_id' xs)
  . rw[mX,sq (λd=>ih d) h]
  . rw[Rm]at h;rw[pg,sq (λd=>ih d) h.1,sq (λd=>ih d) h.2]
def Ck(e:Env)(n:Nat)(f:FuncId)(args:List DV)(dv:DV):Bool:=args.all (pz 9)&&match nY e (nZ e n) f args ⟨.nil,0⟩with
 |some (v,h)=>qB 9 h v dv
 |none=>false
def Yv{f:FuncId}{args:List DV}{dv:DV}(n:Nat)(h:Ck E.ba n f args dv=true):ay E true f args dv:=by
 simp only[Ck,Rm]at h;obtain⟨h1,h2⟩:=h
 split at h2
 . rename_i v h' hc;have ad:∀N,args.map (sh N)=args:=λN=>sq (λd=>HA 9 d) h1;obtain⟨fn,c,x,s,l,q1,q2,q3,q4,q5,q6,rfl,rfl⟩:=Hq hc;refine ay.of (jj []) ko (qf []) q1 q2 rfl (rs:=fn.results.toList) aw λN=> ?_;have hh:HS N (⟨.nil,0⟩:ah) (ah.none N):=by have:=HS.none (N:=N) 0;rwa[Yt]at this
   obtain⟨aa,c',r1,r2,r3⟩:=yv (N:=N) (Ys (jj []) ko (qf []) n) hc hh;have ab:E.fn f=some aa:=r1;have e1:aa=fn:=by rw[show E.fn f=some fn from q1]at ab;cases ab;rfl
   subst e1;rw[q2]at r2;cases r2;rw[ad N]at r3;exact r3 _ λae h3=>Hz h3 9 h2
 . cases h2
def bW{α:Type}{l:List α}{f:FuncId}{args:α->List DV}{res:α->DV}(h:(l.all λp=>Ck E.ba 3000 f (args p) (res p))=true):∀p∈l,ay E true f (args p) (res p):=λp hp=>Yv 3000 (afh.1 h p hp)
end Go.Sp
end
noncomputable section
open Go Go.aD Go.Proofs
namespace Go.Sp
def YQ(x:Int×Int×Int)(N:List (Int×Int×Int)):List (Int×Int×Int)×Int:=bif decide (x.2.1=x.2.2)then(N,x.2.1)else match N.findIdx? λy=>decide (y=x)with
 |some i=>(N,(i:Int)+2)
 |none=>(N++[x],(N.length:Int)+2)
def Cq(c:Nat):Nat->Int->Nat->Nat->List (Int×Int×Int)->List (Int×Int×Int)×Int
 |0,_,o,_,N=>(N,bif c.testBit o then 1 else 0)
 |k+1,v,o,s,N=>match Cq c k (v+1) o (2*s) N with
  |(N,l)=>match Cq c k (v+1) (o+s) (2*s) N with
   |(N,u)=>YQ (v,l,u) N
def aO(c:Nat):Dg:=match Cq c 3 0 0 1 []with
 |(N,r)=>⟨N,r⟩
def tv:Nat->List Nat
 |0=>[0,3,12,15,48,51,60,63,192,195,204,207,240,243,252,255]
 |1=>[0,15,240,255]
 |_=>[0,255]
def xv:Nat->Nat
 |0=>170
 |1=>204
 |_=>240
def YR:List (Nat×Nat):=(WZ 3).flatMap λv=>(tv v).map λt=>(xv v,t)
def YS:List (Nat×Nat):=(WZ 3).flatMap λv=>(tv v).map λt=>(t,255-xv v)
def gT:List (Nat×Nat):=(WZ 3).flatMap λv=>(tv v).flatMap λt=>(tv v).map λs=>(xv v&&&t,s&&&(255-xv v))
def eB:List (Nat×Int):=(WZ 256).map (λc=>(c,3))++((WZ 16).map (λc=>(17*c,2))++((WZ 4).map (λc=>(85*c,1))++(WZ 2).map λc=>(255*c,0)))
def Cr{α:Type}{P:α->Prop}{l:List α}(n k:Nat)(hn:l.length<=n*k)(h:∀i,i<k->∀p∈(l.drop (n*i)).take n,P p):∀p∈l,P p:=λp hp=>by
 obtain⟨j,hj,rfl⟩:=List.getElem_of_mem hp;have h0:0<n:=(Nat.eq_zero_or_pos n).elim (λh=>by subst h;omega) id;have h1:=Nat.div_add_mod j n;have h2:=Nat.mod_lt j h0;refine h (j/n) ((Nat.div_lt_iff_lt_mul h0).2 (by rw[Nat.mul_comm];omega)) _ (afi (i:=j%n) ?_);rw[aft,if_pos h2,afx,h1,Fj hj]
def vT(l:List Nat)(r:List Sym):Nat:=r.foldl (λn s=>if s.tok=true then n else max n (l.getD s.idx.toNat 0)) 0
def bB(pr:aK->Bool)(l:List Nat)(p:aK):Nat:=if pr p=true then min (vT l p.right+1) 1000 else 1000
def kD(pr:aK->Bool)(l:List Nat)(p:aK):List Nat:=l.set p.left.toNat (min (l.getD p.left.toNat 0) (bB pr l p))
def gF(pr:aK->Bool)(ps:List aK)(l:List Nat):List Nat:=ps.foldl (kD pr) l
def gj(pr:aK->Bool)(ps:List aK)(n:Nat):Nat->List Nat
 |0=>List.replicate n 1000
 |k+1=>gF pr ps (gj pr ps n k)
def jr(pr:aK->Bool)(ps:List aK)(n:Nat):List Nat:=gj pr ps n (n+1)
def Gr{l:List Nat}{v:Nat}:∀(r:List Sym) (a:Nat),r.foldl (λn s=>if s.tok=true then n else max n (l.getD s.idx.toNat 0)) a<=v↔a<=v/\∀s∈r,s.tok=false->l.getD s.idx.toNat 0<=v
 |[],a=>aw
 |s::r,a=>by
  rw[afj,Gr r,List.forall_mem_cons];cases hs:s.tok
  . simp only[Bool.false_eq_true,if_false];constructor
    . intro⟨h1,h2⟩;exact⟨aa,λ_=>aa,h2⟩
    . intro⟨h1,h2,h3⟩;have:=h2 trivial;exact⟨aa,h3⟩
  . simp
def Xi{l:List Nat}{r:List Sym}{v:Nat}:vT l r<=v↔∀s∈r,s.tok=false->l.getD s.idx.toNat 0<=v:=by
 unfold vT;rw[Gr];exact⟨λh=>h.2,λh=>⟨afk _,h⟩⟩
variable {pr:aK->Bool}
def BO(l:List Nat)(p:aK):bB pr l p<=1000:=by unfold bB;split<;>omega
def Gs(l:List Nat)(p:aK):1<=bB pr l p:=by unfold bB;split<;>omega
def lI{l:List Nat}{p:aK}{v:Nat}(hv:v<1000):bB pr l p<=v↔pr p=true/\0<v/\∀s∈p.right,s.tok=false->l.getD s.idx.toNat 0<=v-1:=by
 unfold bB
 split
 . rename_i h;rw[<-Xi];constructor
   . intro h1;exact⟨h,aa,aa⟩
   . intro⟨_,h1,h2⟩;omega
 . rename_i h;constructor
   . intro h1;omega
   . intro h1;exact absurd h1.1 h
def BP{l l':List Nat}(h:∀i,l'.getD i 0<=l.getD i 0)(p:aK):bB pr l' p<=bB pr l p:=by
 by_cases h1:bB pr l p<1000
 . obtain⟨a,b,c⟩:=(lI h1).1 (oY _);exact(lI h1).2 ⟨a,b,λs hs ht=>afd (h _) (c s hs ht)⟩
 . have:=BO (pr:=pr) l' p;omega
def Xj(l:List Nat)(i j v:Nat):(l.set i v).getD j 0=if i=j/\j<l.length then v else l.getD j 0:=by
 simp only[afz,List.getElem?_set];by_cases h:i=j
 . subst h;by_cases h2:i<l.length
   . simp[h2]
   . simp[h2]
 . simp[h]
def yi(l:List Nat)(p:aK)(j:Nat):(kD pr l p).getD j 0=if p.left.toNat=j/\j<l.length then min (l.getD j 0) (bB pr l p)else l.getD j 0:=by
 unfold kD;rw[Xj]
 split
 . rename_i h;rw[h.1]
 . rfl
def vU(l:List Nat)(p:aK)(j:Nat):(kD pr l p).getD j 0<=l.getD j 0:=by
 rw[yi];split<;>omega
def BQ(l:List Nat)(p:aK):(kD pr l p).length=l.length:=by unfold kD;simp
def Gt(ps:List aK):∀(l:List Nat),(gF pr ps l).length=l.length:=by
 unfold gF
 induction ps with
 |nil=>intro l;rfl
 |cons p ps ih=>intro l;rw[afj,ih,BQ]
def vV(ps:List aK)(n:Nat):∀k,(gj pr ps n k).length=n
 |0=>by simp[gj]
 |k+1=>by rw[gj,Gt,vV ps n k]
def Xk(ps:List aK):∀(l:List Nat) (j:Nat),(gF pr ps l).getD j 0<=l.getD j 0:=by
 unfold gF
 induction ps with
 |nil=>intro l j;exact oY _
 |cons p ps ih=>intro l j;rw[afj];exact afd (ih _ _) (vU _ _ _)
def mj(pr:aK->Bool)(ps:List aK)(r:Nat)(l:List Nat):Prop:=∀p∈ps,bB pr l p<=r->l.getD p.left.toNat 0<=bB pr l p
def lJ(pr:aK->Bool)(ps:List aK)(l:List Nat):Prop:=∀i,i<l.length->l.getD i 0<1000->∃p∈ps,p.left.toNat=i/\bB pr l p<=l.getD i 0
def lJ.kD{ps:List aK}{l:List Nat}(h:lJ pr ps l){p:aK}(hp:p∈ps):lJ pr ps (kD pr l p):=by
 intro i hi hf;rw[BQ]at hi;rw[yi]at hf⊢
 split at hf
 . rename_i hc;rw[if_pos hc];by_cases hm:bB pr l p<=l.getD i 0
   . exact⟨p,hp,hc.1,by have:=BP (pr:=pr) (vU (pr:=pr) l p) p;omega⟩
   . obtain⟨q,q1,q2,q3⟩:=h i hi aa;exact⟨q,q1,q2,by have:=BP (pr:=pr) (vU (pr:=pr) l p) q;omega⟩
 . rename_i hc;rw[if_neg hc];obtain⟨q,q1,q2,q3⟩:=h i hi hf;exact⟨q,q1,q2,by have:=BP (pr:=pr) (vU (pr:=pr) l p) q;omega⟩
def lJ.gF{ps:List aK}:∀{qs:List aK} {l:List Nat},(∀p∈qs,p∈ps)->lJ pr ps l->lJ pr ps (gF pr qs l)
 |[],l,_,h=>h
 |q::qs,l,hq,h=>lJ.gF (qs:=qs) (λp hp=>hq p (afc _ hp)) (h.kD (hq q List.mem_cons_self))
def lJ.gj(ps:List aK)(n:Nat):∀k,lJ pr ps (gj pr ps n k)
 |0=>λi hi hf=>by
  exfalso;simp only[Go.Sp.gj,List.length_replicate]at hi;simp only[Go.Sp.gj,afz,List.getElem?_replicate,hi,if_true,Option.getD_some]at hf;omega
 |k+1=>lJ.gF (λ_ h=>h) (lJ.gj ps n k)
def mj.Xl{ps:List aK}{n r:Nat}{l:List Nat}(hr:r<900)(hl:l.length=n)(hs:mj pr ps r l)(hw:∀p∈ps,p.left.toNat<n):∀(a b:List aK),ps=a++b->
 (∀i,(gF pr a l).getD i 0≠l.getD i 0->r+1<=(gF pr a l).getD i 0)/\∀p∈a,∀l':List Nat,(∀i,l'.getD i 0<=(gF pr a l).getD i 0)->(∀i,l'.getD i 0<=r->l'.getD i 0=l.getD i 0)->bB pr l' p<=r+1->l'.getD p.left.toNat 0<=bB pr l' p:=by
 intro a;obtain⟨q,hq⟩:∃q:List aK,a.reverse=q:=⟨_,rfl⟩;have ha:a=q.reverse:=by rw[<-hq,List.reverse_reverse]
 clear hq;subst ha
 induction q with
 |nil=>intro b _;exact⟨λi h=>absurd rfl h,λp hp=>by simp at hp⟩
 |cons p q ih=>
  intro b hb;rw[afu,List.append_assoc]at hb;obtain⟨i1,i2⟩:=ih ([p]++b) hb;have ah:p∈ps:=by rw[hb];simp
  have e:gF pr (p::q).reverse l=kD pr (gF pr q.reverse l) p:=by
   simp only[gF,afu,List.foldl_append,afj,List.foldl_nil]
  obtain⟨cur,ab⟩:∃cur,gF pr q.reverse l=cur:=⟨_,rfl⟩;have aj:cur.length=n:=by rw[<-ab,Gt,hl]
  have af:∀i,cur.getD i 0<=l.getD i 0:=λi=>by rw[<-ab];exact Xk _ _ _
  rw[ab]at i1 i2 e;rw[e];refine⟨λi ad=> ?_,λp' ae l' h1 h2 h3=> ?_⟩
  . rw[yi]at ad⊢
    split
    . rename_i hc;rw[if_pos hc]at ad;by_cases hm:bB pr cur p<cur.getD i 0
      . have hz:r+1<=bB pr cur p:=by
         by_cases an:bB pr cur p<=r
         . exfalso;have hx:=(lI aa).1 an;have:bB pr l p<=r:=(lI aa).2 ⟨hx.1,hx.2.1,λs q1 q2=>by
            have a1:=hx.2.2 s q1 q2;by_cases a2:cur.getD s.idx.toNat 0=l.getD s.idx.toNat 0
            . omega
            . have:=i1 _ a2;omega⟩
           have h5:=hs p ah this;have h6:bB pr l p<=bB pr cur p:=by
            obtain⟨y1,y2,y3⟩:=(lI (pr:=pr) (l:=cur) (p:=p) (v:=bB pr cur p) aa).1 (oY _);exact(lI aa).2 ⟨y1,y2,λs q1 q2=>by
             have a1:=y3 s q1 q2;by_cases a2:cur.getD s.idx.toNat 0=l.getD s.idx.toNat 0
             . omega
             . have:=i1 _ a2;omega⟩
           have h7:=af i;rw[hc.1]at h5;omega
         . omega
        omega
      . have:min (cur.getD i 0) (bB pr cur p)=cur.getD i 0:=aa;rw[this]at ad⊢;exact i1 i ad
    . rename_i hc;rw[if_neg hc]at ad;exact i1 i ad
  . rw[afu,HT]at ae;rcases ae with ae|ae
    . exact i2 p' ae l' (λi=>afd (h1 i) (vU _ _ _)) h2 h3
    . have:=Q0.1 ae;subst this;have h4:=h1 p'.left.toNat;rw[yi,if_pos ⟨rfl,by rw[aj];exact hw _ ah⟩]at h4;have h5:bB pr cur p'<=bB pr l' p':=by
       obtain⟨y1,y2,y3⟩:=(lI (pr:=pr) (l:=l') (p:=p') (v:=bB pr l' p') aa).1 (oY _);exact(lI aa).2 ⟨y1,y2,λs q1 q2=>by
        have a1:=y3 s q1 q2;have a2:=h2 s.idx.toNat aa;have a3:=af s.idx.toNat;omega⟩
      omega
def mj.gF{ps:List aK}{n r:Nat}{l:List Nat}(hr:r<900)(hl:l.length=n)(hs:mj pr ps r l)(hw:∀p∈ps,p.left.toNat<n):mj pr ps (r+1) (gF pr ps l):=by
 obtain⟨h1,h2⟩:=mj.Xl hr hl hs hw ps [] aw;intro p hp h3;refine h2 p hp _ (λi=>oY _) (λi hi=> ?_) h3;by_cases h4:(Go.Sp.gF pr ps l).getD i 0=l.getD i 0
 . exact h4
 . have:=h1 i h4;omega
def mj.gj{ps:List aK}{n:Nat}(hw:∀p∈ps,p.left.toNat<n):∀k,k<900->mj pr ps k (gj pr ps n k)
 |0,_=>λp _ h=>by have:=Gs (pr:=pr) (Go.Sp.gj pr ps n 0) p;omega
 |k+1,hk=>mj.gF aa (vV ps n k) (mj.gj hw k aa) hw
def Xm(n:Nat)(l:List Nat)(hl:l.length=n)(hn:n<=3):∃k,1<=k/\k<=n+1/\∀i,i<n->l.getD i 0≠k:=by
 match l,hl with
 |[],h=>exact⟨1,aa,aa,λi hi=>by simp at h;omega⟩
 |[a],h=>
  simp at h;subst h;obtain⟨k,h1,h2,h3⟩:∃k,1<=k/\k<=2/\a≠k:=by
   by_cases x1:a≠1
   . exact⟨1,aa,aa,aa⟩
   exact⟨2,aa,aa,aa⟩
  exact⟨k,h1,h2,λi hi=>by
   obtain rfl:i=0:=aa;simpa using h3⟩
 |[a,b],h=>
  simp at h;subst h;obtain⟨k,h1,h2,h3,h4⟩:∃k,1<=k/\k<=3/\a≠k/\b≠k:=by
   by_cases x1:a≠1/\b≠1
   . exact⟨1,aa,aa,aa,aa⟩
   by_cases x2:a≠2/\b≠2
   . exact⟨2,aa,aa,aa,aa⟩
   exact⟨3,aa,aa,aa,aa⟩
  exact⟨k,h1,h2,λi hi=>by
   rcases(show i=0\/i=1 by omega)with rfl|rfl
   . simpa using h3
   . simpa using h4⟩
 |[a,b,c],h=>
  simp at h;subst h;obtain⟨k,h1,h2,h3,h4,h5⟩:∃k,1<=k/\k<=4/\a≠k/\b≠k/\c≠k:=by
   by_cases x1:a≠1/\b≠1/\c≠1
   . exact⟨1,aa,aa,aa,aa,aa⟩
   by_cases x2:a≠2/\b≠2/\c≠2
   . exact⟨2,aa,aa,aa,aa,aa⟩
   by_cases x3:a≠3/\b≠3/\c≠3
   . exact⟨3,aa,aa,aa,aa,aa⟩
   exact⟨4,aa,aa,aa,aa,aa⟩
  exact⟨k,h1,h2,λi hi=>by
   rcases(show i=0\/i=1\/i=2 by omega)with rfl|rfl|rfl
   . simpa using h3
   . simpa using h4
   . simpa using h5⟩
 |_::_::_::_::_,h=>simp at h;omega
def Xn{ps:List aK}{n:Nat}(hn:n<=3)(hw:∀p∈ps,p.left.toNat<n)(hr:∀p∈ps,∀s∈p.right,s.tok=false->s.idx.toNat<n):
 (∀p∈ps,(jr pr ps n).getD p.left.toNat 0<=bB pr (jr pr ps n) p\/bB pr (jr pr ps n) p=1000)/\
 ∀i,i<n->(jr pr ps n).getD i 0<1000->(jr pr ps n).getD i 0<=3/\∃p∈ps,p.left.toNat=i/\bB pr (jr pr ps n) p=(jr pr ps n).getD i 0:=by
 obtain⟨H,hH⟩:∃H,jr pr ps n=H:=⟨_,rfl⟩;have hl:H.length=n:=by rw[<-hH];exact vV ps n _
 have hA:lJ pr ps H:=by rw[<-hH];exact lJ.gj ps n _
 have hS:mj pr ps (n+1) H:=by rw[<-hH];exact mj.gj hw (n+1) aa
 rw[hH];obtain⟨k,k1,k2,k3⟩:=Xm n H hl hn;have hb:∀v,∀i,i<n->H.getD i 0=v->v<1000->v<k:=by
  intro v
  induction v using Nat.strongRecOn with
  |_ v ih=>
   intro i hi hv hf;obtain⟨p,p1,p2,p3⟩:=hA i aa aa;have hx:=(lI aa).1 p3;have ad:=k3 i hi;by_cases ao:v<k
   . exact ao
   . exfalso;have h1:bB pr H p<=k:=(lI aa).2 ⟨hx.1,aa,λs q1 q2=>by
      have a1:=hx.2.2 s q1 q2;have a2:=ih _ aa s.idx.toNat (hr p p1 s q1 q2) rfl aa;omega⟩
     have h2:=hS p p1 aa;rw[p2]at h2;omega
 have ai:∀p∈ps,H.getD p.left.toNat 0<=bB pr H p\/bB pr H p=1000:=by
  intro p hp;by_cases hf:bB pr H p<1000
  . left;have hx:=(lI hf).1 (oY _);refine hS p hp (afd ((lI (v:=k) aa).2 ⟨hx.1,aa,λs q1 q2=> ?_⟩) k2);have a1:=hx.2.2 s q1 q2;have a2:=hb _ s.idx.toNat (hr p hp s q1 q2) rfl aa;omega
  . right;have:=BO (pr:=pr) H p;omega
 refine⟨ai,λi hi hf=> ?_⟩;obtain⟨p,p1,p2,p3⟩:=hA i aa hf;refine⟨by have:=hb _ i hi rfl hf;omega,p,p1,p2, ?_⟩;rcases ai p p1 with h|h
 . rw[p2]at h;omega
 . omega
def ml:Nat->Nat
 |0=>1
 |h+1=>1+16*ml h
def vW:∀{a b:Nat},a<=b->ml a<=ml b
 |a,0,h=>by
  obtain rfl:a=0:=aa;exact oY _
 |0,b+1,_=>by have:=vW (afk b);simp only[ml]at this⊢;omega
 |a+1,b+1,h=>by have:=vW (show a<=b by omega);simp only[ml];omega
def Xo{a:Nat}(h:a<=3):ml a<=4369:=vW h
def Xp(a:Nat):1<=ml a:=vW (afk a)
def lK(H:List Nat)(s:Sym):Nat:=if s.tok=true then 1 else ml (H.getD s.idx.toNat 0)
def yj(ps:List aK)(n:Nat):(jr pr ps n).length=n:=vV ps n _
end Go.Sp
end
noncomputable section
open Go Go.aD Go.Proofs
namespace Go.Sp
variable {ar:Bool}
def Xq(i:Int):ay E ar 88 [iV i] (.agg [bV false,iV i]):=by
 refine aV Tryz.ntmps88 Tryz.results88 λN=> ?_;simp[go_sem,mh]
def Gu(i:Int):ay E ar 57 [iV i] (.agg [bV true,iV i]):=by
 refine aV Tryz.ntmps57 Tryz.results57 λN=> ?_;simp[go_sem,mh]
def bg(b:Bool):Dg:=⟨[],if b then 1 else 0⟩
def sd(b:Bool):ay E ar 31 [bV b] (.agg (bg b).e):=by
 refine aV Tryz.ntmps31 Tryz.results31 λN=> ?_;cases b<;>simp[go_sem,mh,bg,Dg.e]
def jX(s:ByteArray)(l:Int)(rv:DV)(c:Dg):List DV:=[sV s,iV l,rv,.sl 3 (c.nodes.map cB),iV c.root,bV false,iV 0,.sl 3 [],bV false,iV 0,iV 0,iV 0,iV 0]
def Gv(s:ByteArray)(l:Int)(rv:DV)(hr:cG rv=[rv])(ho:cD rv=true):ay E ar 56 [sV s,iV l,rv] (.agg (jX s l rv (bg true))):=by
 refine aV Tryz.ntmps56 Tryz.results56 λN=> ?_;simp[go_sem];refine au.mk (sd true) λM hM=> ?_;simp[go_sem,Dg.e,jX,hr,ho]
def iS:Gq:=⟨false,0,0,0,0⟩
def bF(s:ByteArray)(l:Int)(r:List Sym)(c:Dg):aK:=⟨s,l,r,c,false,0,[],iS⟩
def qx(l:Int)(r:List Sym):Bool:=match r with
 |[a,b,c]=>a.tok&&c.tok&& !b.tok&&decide (b.idx=l)
 |_=>false
def Xr(o p:Operand):cL E .neq 85 o p (.agg #[.bool false,.int .i64 0,.int .i64 0,.int .i64 0,.int .i64 0]) (.agg #[.bool false,.int .i64 0,.int .i64 0,.int .i64 0,.int .i64 0])=some (.bool false):=an
def Xs(s:ByteArray)(l:Int)(r:List Sym)(c:Dg)(b:Bool)(hr:r.length<=4):ay E ar 177 [.agg {bF s l r c with bracket:=b}.e] (bV (qx l r)):=by
 refine aV Tryz.ntmps177 Tryz.results177 λN=> ?_;by_cases h3:r.length=3
 . obtain⟨x,y,z,rfl⟩:∃x y z,r=[x,y,z]:=by
    match r,h3 with
    |[x,y,z],_=>exact⟨x,y,z,rfl⟩
   simp[go_sem,mh,aK.e,bF,iS,iC,exact,vB,Xr];refine jU [ae 0,aC 1,ae 3,ae 7,aC 15,ae 31,ae 63,aC 127,ae 255,ae 511,aC 1023,ae 2047,ae 4095,ae 8191,aC 16383,ae 32767,ae 65535,aC 131071,ae 262143,ae 524287,ae 1048575,ae 2097151,aC 4194303,ae 8388607,ae 16777215,aC 33554431,ae 2097151,aC 69206015,ae 268435455,ae 536870911,ae 1073741823] an 0 rfl (N+1) (by simp[go_sem]) ?_;obtain⟨x1,x2⟩:=x;obtain⟨y1,y2⟩:=y;obtain⟨z1,z2⟩:=z;cases x1<;>cases z1<;>cases y1<;>simp[go_sem,mh,Sym.e,qx]
 . have ah:¬(r.length:Int)=3:=aa;have hb:qx l r=false:=by
    match r,h3 with
    |[],_=>rfl
    |[_],_=>rfl
    |[_,_],_=>rfl
    |_::_::_::_::_,_=>rfl
   simp[go_sem,mh,aK.e,bF,iS,ah,hb]
def wrap_u8{x:Int}(h1:0<=x)(h2:x<256):IntKind.u8.wrap x=x:=by
 simp[IntKind.wrap,IntKind.bits,IntKind.signed];omega
def dw{a b:Int}(h:0<=a):a.tmod b=a%b:=Int.tmod_eq_emod_of_nonneg h
def jY{a b:Int}(h:0<=a):a.tdiv b=a/b:=Int.tdiv_eq_ediv_of_nonneg h
def mark(s:ByteArray)(l:Int)(r:List Sym)(c:Dg)(m:Int):aK:=
 let n:Int:=r.length
 let k:=m/8
 let tk:=match r[(k%n).toNat]? with|some x=>x.tok|none=>false
 let p:=bF s l r c
 if n=0 then p else
 if m%8=1 then{p with eR:=1}
 else if m%8=2 then{p with eR:=-1}
 else if m%8=3 then{p with bracket:=qx l r}
 else if m%8=4 then{p with layout:=[⟨1+k%4,k/4%n,if k%4=0 then 0 else n-1⟩]}
 else if m%8=5 then{p with scope:=⟨true,0,0,0,0⟩}
 else if m%8=6 then(if tk then{p with scope:=⟨false,k%n+1,1+k%2,0,0⟩}else p)
 else if m%8=7 then(if tk then{p with scope:=⟨false,0,0,k%n+1,1+k%7⟩}else p)
 else p
def Gw(s:ByteArray)(l:Int)(r:List Sym)(c:Dg)(m:Int)(hr:r.length<=4)(h0:0<=m)(h1:m<256):ay E ar 113 [.agg (bF s l r c).e,uV m] (.agg (mark s l r c m).e):=by
 refine aV Tryz.ntmps113 Tryz.results113 λN=> ?_;by_cases hn:r.length=0
 . have:r=[]:=Ey hn;subst this;simp[go_sem,mh,aK.e,bF,iS,mark]
 . have ab:¬(r.length:Int)=0:=aa;have af:0<=m/8%(r.length:Int):=YN _ ab;have ai:m/8%(r.length:Int)<r.length:=afe _ aa;obtain⟨x,hx⟩:∃x,r[(m/8%(r.length:Int)).toNat]? =some x:=⟨_,Fj aa⟩;have hm:m%8=0\/m%8=1\/m%8=2\/m%8=3\/m%8=4\/m%8=5\/m%8=6\/m%8=7:=aa;rcases hm with hm|hm|hm|hm|hm|hm|hm|hm
   . simp(disch:=omega)[go_sem,mh,aK.e,bF,iS,mark,ab,hn,dw,jY,wrap_u8,aG,hm]
   . simp(disch:=omega)[go_sem,mh,aK.e,bF,iS,mark,ab,hn,dw,jY,wrap_u8,aG,hm]
   . simp(disch:=omega)[go_sem,mh,aK.e,bF,iS,mark,ab,hn,dw,jY,wrap_u8,aG,hm]
   . simp(disch:=omega)[go_sem,aK.e,bF,iS,mark,ab,hn,dw,jY,wrap_u8,aG,hm];refine au.mk (Xs s l r c true hr) λM hM=> ?_;simp(disch:=omega)[go_sem,aK.e,bF,iS,mark,ab,hn,dw,jY,wrap_u8,aG,hm]
   . simp(disch:=omega)[go_sem,aK.e,bF,iS,mark,ab,hn,dw,jY,wrap_u8,aG,hm];refine nS.mk _ _ (λhz=> ?_) (λhz=> ?_)
     . simp(disch:=omega)[go_sem,hz,tG];refine dW (cu (wr:=true) (ak:=0) (by simp(disch:=omega)[go_sem,lH.e])) (.inl rfl) aA aw aw (by simp[lH.e])
     . simp(disch:=omega)[go_sem,hz];refine dW (cu (wr:=true) (ak:=0) (by simp(disch:=omega)[go_sem,lH.e])) (.inl rfl) aA aw aw (by simp[lH.e])
   . simp(disch:=omega)[go_sem,aK.e,bF,iS,mark,ab,hn,dw,jY,wrap_u8,aG,hm]
   . cases ad:x.tok with
     |true=>
      simp(disch:=omega)[go_sem,aK.e,bF,iS,mark,ab,hn,dw,jY,wrap_u8,aG,hm,hx,ad,-getElem?_pos];refine jU [ae 0,aC 1,ae 0,ae 0,ae 12,ae 31,ae 63,aC 127] an 0 rfl (N+2) (by simp[go_sem]) ?_;simp(disch:=omega)[go_sem,dw,aG,af,hx,ad,Sym.e,-getElem?_pos]
     |false=>
      simp(disch:=omega)[go_sem,aK.e,bF,iS,mark,ab,hn,dw,jY,wrap_u8,aG,hm,hx,ad,-getElem?_pos];refine jU [ae 0,aC 1,ae 0,ae 0,ae 12,ae 31,ae 63,aC 127] an 0 rfl (N+2) (by simp[go_sem]) ?_;simp(disch:=omega)[go_sem,dw,aG,af,hx,ad,Sym.e,-getElem?_pos]
   . cases ad:x.tok with
     |true=>
      simp(disch:=omega)[go_sem,aK.e,bF,iS,mark,ab,hn,dw,jY,wrap_u8,aG,hm,hx,ad,-getElem?_pos];refine jU [ae 0,aC 1,ae 0,ae 0,ae 12,ae 31,ae 63,aC 127] an 0 rfl (N+2) (by simp[go_sem]) ?_;simp(disch:=omega)[go_sem,dw,aG,af,hx,ad,Sym.e,-getElem?_pos]
     |false=>
      simp(disch:=omega)[go_sem,aK.e,bF,iS,mark,ab,hn,dw,jY,wrap_u8,aG,hm,hx,ad,-getElem?_pos];refine jU [ae 0,aC 1,ae 0,ae 0,ae 12,ae 31,ae 63,aC 127] an 0 rfl (N+2) (by simp[go_sem]) ?_;simp(disch:=omega)[go_sem,dw,aG,af,hx,ad,Sym.e,-getElem?_pos]
end Go.Sp
end
noncomputable section
open Go Go.aD Go.Proofs
namespace Go.Sp
variable {ar:Bool}
def vr(v:Int):Dg:=⟨[(v,0,1)],2⟩
def gS{h:ah}{r k n c ak:Nat}{xs:List (List DV)}(hk:0<k)(hx:∀x∈xs,x.length=k)(hn:n=xs.length)(hc:n<=c)(he:ak=0\/ak=k){wr:Bool}(hr:h.get r=some (.row xs.flatten wr ak)):Fz (allRows h) (.v (.slice (some ⟨r,0,none⟩) n c)) (.sl k xs):=
 dW (cu hr) he hk hn hc hx
def Gx(v:Int)(h0:0<=v)(h1:v<64):ay E ar 173 [iV v] (.bf [.agg (vr v).e,iV 0]):=by
 refine aV Tryz.ntmps173 Tryz.results173 λN=> ?_;have e1:¬v<0:=aa;have e2:¬63<v:=aa;simp(disch:=omega)[go_sem,e1,e2,vr,Dg.e,cB];exact gS aA aw aw (oY _) (.inl rfl) (wr:=true) ai
def Xu(v:Int)(h0:0<=v)(h1:v<64):ay E ar 171 [iV v] (.agg (vr v).e):=by
 refine aV Tryz.ntmps171 Tryz.results171 λN=> ?_;refine aL ?_;refine au.mk (Gx v h0 h1) λM hM=> ?_;simp(disch:=omega)[go_sem,Dg.e]at hM⊢
def oZ(a b:Int):ay E ar 32 [iV a,iV b] (.agg (aY.e ⟨1,a,b,0,0⟩)):=by
 refine aV Tryz.ntmps32 Tryz.results32 λN=> ?_;simp(disch:=omega)[go_sem,aY.e]
def pa(k a b:Int):ay E ar 33 [iV k,iV a,iV b] (.agg (aY.e ⟨k,0,0,a,b⟩)):=by
 refine aV Tryz.ntmps33 Tryz.results33 λN=> ?_;simp(disch:=omega)[go_sem,aY.e]
def pd:List aY:=[⟨1,97,122,0,0⟩,⟨1,97,122,0,0⟩,⟨4,0,0,1,0⟩,⟨2,0,0,0,2⟩]
def BR:List aY:=[⟨1,9,10,0,0⟩,⟨1,32,32,0,0⟩,⟨3,0,0,0,1⟩,⟨1,9,10,0,0⟩,⟨1,32,32,0,0⟩,⟨3,0,0,3,4⟩,⟨4,0,0,5,0⟩,⟨2,0,0,2,6⟩]
def mm:List aY:=[⟨1,37,37,0,0⟩,⟨1,97,122,0,0⟩,⟨1,32,32,0,0⟩,⟨3,0,0,1,2⟩,⟨4,0,0,3,0⟩,⟨2,0,0,0,4⟩]
def lits:List ByteArray:=[⟨#[43]⟩,⟨#[42]⟩,⟨#[40]⟩,⟨#[41]⟩,⟨#[105,102]⟩,⟨#[101,108,115,101]⟩,⟨#[59]⟩,⟨#[94]⟩]
def nT(s:ByteArray):Tok:=⟨s,0,s,[],⟨#[]⟩,bg true⟩
def kE:Tok:=⟨⟨#[105,100]⟩,0,⟨#[]⟩,pd,⟨#[120]⟩,bg true⟩
def tT:Tok:=⟨⟨#[115,112,97,99,101]⟩,1,⟨#[]⟩,BR,⟨#[]⟩,bg true⟩
def tU:Tok:=⟨⟨#[114,101,109,97,114,107]⟩,2,⟨#[]⟩,mm,⟨#[]⟩,bg true⟩
def aF:List Tok:=(kE::lits.map nT)++[tT,tU]
def tV(s:ByteArray):List DV:=[sV s,iV 0,sV s,cm,sV ⟨#[]⟩,.sl 3 [],iV 1]
def lL(q k:Nat):List DV:=[sV kE.name,iV 0,sV ⟨#[]⟩,.v (.slice (some ⟨q,0,none⟩) 4 4),sV kE.kW,.sl 3 [],iV 1]++((lits.take k).map tV).flatten
def Xv(q k:Nat):(lL q k).length=7+7*min k 8:=by
 unfold lL;rw[afp,fi (k:=7) (by intro y hy;obtain⟨z,_,rfl⟩:=yx.1 hy;rfl)];simp[lits];omega
def Xw(q k:Nat)(s:ByteArray)(h:lits[k]? =some s):lL q (k+1)=lL q k++tV s:=by
 unfold lL;rw[afl,h];simp
def Gy:ay E ar 13 [] (.sl 7 (aF.map Tok.e)):=by
 refine aV Tryz.ntmps13 Tryz.results13 λN=> ?_;refine aL ?_;refine au.mk (sd true) λM=>aR λhM=> ?_;simp(disch:=omega)[go_sem,Dg.e,bg];refine au.mk (oZ 97 122) λP0=>aR λaj=> ?_;simp(disch:=omega)[go_sem,Dg.e,aY.e,bg];refine au.mk (oZ 97 122) λP1=>aR λao=> ?_;simp(disch:=omega)[go_sem,Dg.e,aY.e,bg];refine au.mk (pa 4 1 0) λP2=>aR λav=> ?_;simp(disch:=omega)[go_sem,Dg.e,aY.e,bg];refine au.mk (pa 2 0 2) λP3=>aR λaz=> ?_;simp(disch:=omega)[go_sem,Dg.e,aY.e,bg];obtain⟨I,hI⟩:∃I:Nat->DS->Prop,∀j d,I j d↔∃(k r z M':Nat),j+k=8/\((z=0/\k=0)\/z=7)/\d=⟨bw [(1,.v (.pointer (some ⟨M,0,none⟩))),(2,.v (.slice (some ⟨r,0,none⟩) (k+1) (k+1))),(3,.v (.slice (some ⟨P3+1,0,none⟩) 8 8)),(4,iV k)],67,[],
  cA M' [(M,.row (bg true).e true 0),(P3+1,.row (lits.map sV) true 0),(P3,.row (pd.map aY.e).flatten true 0),(r,.row (lL P3 k) true z)]⟩/\P3+2<=M'/\r<M'/\r≠M/\r≠P3+1/\r≠P3:=⟨_,λ_ _=>Iff.rfl⟩
 refine bM I 8 ⟨_,aB.mk (N:=P3+2) ai ?_ ?_,(hI _ _).2 ⟨0,M+1,0,P3+2,rfl,.inl ⟨rfl,rfl⟩,rfl,aa,aa,aa,aa,aa⟩⟩ ?_
 . simp[go_sem]
 . simp(disch:=omega)[go_sem,lits,pd,kE,lL,aY.e,Dg.e,bg]
 . intro j d hd;obtain⟨k,r,z,M',hj,hz,rfl,aE,aH,aJ,aK,aM⟩:=(hI _ _).1 hd;clear hd;have ad:(lL P3 k).length=(k+1)*7:=by rw[Xv];omega
   by_cases hk:k<8
   . obtain⟨s,hs⟩:∃s,lits[k]? =some s:=⟨_,Fj (by exact hk)⟩;have af:(k:Int)<8:=aa;have ab:lL P3 k++tV s=lL P3 (k+1):=by rw[Xw _ _ _ hs]
     simp(disch:=omega)[go_sem,af,hs,-getElem?_pos];refine jU [ae 0,ae 0,ae 0,ae 6,aC 14,ae 0,ae 0,ae 96,aC 224,aC 0,ae 1022,cN 2046,aT 4095,ae 8191] an 1 rfl M' ai ?_;simp(disch:=omega)[go_sem,hs,Dg.e,bg,-getElem?_pos];rcases hz with⟨rfl,aO⟩|rfl
     . refine gb (wr:=true) ai ad aa aa ?_;simp(disch:=omega)[go_sem,aG];refine⟨j-1,aa,_,aB.mk (N:=M'+2) ai ?_ ?_,(hI _ _).2 ⟨k+1,M'+1,7,M'+2,aa,.inr rfl,rfl,aa,aa,aa,aa,aa⟩⟩
       . simp[go_sem]
       . simp(disch:=omega)[go_sem,<-ab,tV,Tok.e,bg,Dg.e]
     . refine kC ai ad aA aA (by simp[go_sem]) aa ?_;simp(disch:=omega)[go_sem,aG];refine⟨j-1,aa,_,aB.mk (N:=M'+2) ai ?_ ?_,(hI _ _).2 ⟨k+1,M'+1,7,M'+2,aa,.inr rfl,rfl,aa,aa,aa,aa,aa⟩⟩
       . simp[go_sem]
       . simp(disch:=omega)[go_sem,<-ab,tV,Tok.e,bg,Dg.e]
   . obtain rfl:k=8:=aa;obtain rfl:z=7:=aa;refine aL ?_;refine au.mk (oZ 9 10) λA0=>aR λaP=> ?_;simp(disch:=omega)[go_sem,Dg.e,aY.e,bg];refine au.mk (oZ 32 32) λA1=>aR λaS=> ?_;simp(disch:=omega)[go_sem,Dg.e,aY.e,bg];refine au.mk (pa 3 0 1) λA2=>aR λaW=> ?_;simp(disch:=omega)[go_sem,Dg.e,aY.e,bg];refine au.mk (oZ 9 10) λA3=>aR λaX=> ?_;simp(disch:=omega)[go_sem,Dg.e,aY.e,bg];refine au.mk (oZ 32 32) λA4=>aR λaZ=> ?_;simp(disch:=omega)[go_sem,Dg.e,aY.e,bg];refine au.mk (pa 3 3 4) λA5=>aR λba=> ?_;simp(disch:=omega)[go_sem,Dg.e,aY.e,bg];refine au.mk (pa 4 5 0) λA6=>aR λbb=> ?_;simp(disch:=omega)[go_sem,Dg.e,aY.e,bg];refine au.mk (pa 2 2 6) λA7=>aR λbc=> ?_;simp(disch:=omega)[go_sem,Dg.e,aY.e,bg];refine au.mk (oZ 37 37) λB0=>aR λbd=> ?_;simp(disch:=omega)[go_sem,Dg.e,aY.e,bg];refine au.mk (oZ 97 122) λB1=>aR λbk=> ?_;simp(disch:=omega)[go_sem,Dg.e,aY.e,bg];refine au.mk (oZ 32 32) λB2=>aR λbl=> ?_;simp(disch:=omega)[go_sem,Dg.e,aY.e,bg];refine au.mk (pa 3 1 2) λB3=>aR λbm=> ?_;simp(disch:=omega)[go_sem,Dg.e,aY.e,bg];refine au.mk (pa 4 3 0) λB4=>aR λbn=> ?_;simp(disch:=omega)[go_sem,Dg.e,aY.e,bg];refine au.mk (pa 2 0 4) λB5=>aR λbo=> ?_;simp(disch:=omega)[go_sem,Dg.e,aY.e,bg];refine kC (cs:=lL P3 8) ai ad aA aA (by simp[go_sem]) aa ?_;simp(disch:=omega)[go_sem,Dg.e,bg];refine kC (cs:=lL P3 8++[sV tT.name,iV 1,sV ⟨#[]⟩,.v (.slice (some ⟨A7,0,none⟩) 8 8),sV ⟨#[]⟩,.sl 3 [],iV 1]) (by simp(disch:=omega)[go_sem,tT]) (by rw[afp,ad];rfl) aA aA (by simp[go_sem]) aa ?_;refine aL ?_;refine iR (cu (wr:=true) (ak:=7) (by simp(disch:=omega)[go_sem];rfl)) (.inr rfl) aA (by simp[aF,lits]) (oY _) (by intro y hy;obtain⟨z,_,rfl⟩:=yx.1 hy;rfl) ?_;simp(disch:=omega)[go_sem,lL,aF,lits,nT,tV,kE,tT,tU,Tok.e,Dg.e,bg];exact⟨gS (wr:=true) (ak:=0) aA (by simp[aY.e]) (by rfl) (oY _) (.inl rfl) (by simp(disch:=omega)[go_sem,pd,aY.e]),gS (wr:=true) (ak:=0) aA (by simp[aY.e]) (by rfl) (oY _) (.inl rfl) (by simp(disch:=omega)[go_sem,BR,aY.e]),gS (wr:=true) (ak:=0) aA (by simp[aY.e]) (by rfl) (oY _) (.inl rfl) (by simp(disch:=omega)[go_sem,mm,aY.e])⟩
end Go.Sp
end
noncomputable section
open Go Go.aD Go.Proofs
namespace Go.Sp
variable {ar:Bool}
def yk(ns:List ByteArray):List DV:=[strs [⟨#[65]⟩,⟨#[66]⟩],.sl 3 [],iV 1,.sl 7 (aF.map Tok.e),strs ns,cm,iV 0,cm,cm]
def Xx(ns:List ByteArray):ay E true 55 [strs ns] (.agg (yk ns)):=by
 refine aV Tryz.ntmps55 Tryz.results55 λN=> ?_;refine aL ?_;refine au.mk (sd true) λM=>aR λhM=> ?_;simp(disch:=omega)[go_sem,Dg.e,bg];refine jU [cN 0,dq 0,aT 0,ae 0,ae 15,aT 31] an 1 rfl (M+1) ai ?_;refine aL ?_;refine au.mk Gy λM2=>aR λad=> ?_;simp(disch:=omega)[go_sem,yk];exact gS aA aw aw (oY _) (.inl rfl) (wr:=true) ai
def bH{ops:List Oper}{t:Tr DV}{n:Nat}{dd:List FuncId}{h:ah}{K:bu->DS->Prop}(pl:List PJ)(aa:vN ops pl=true)(na:Nat)(ab:Rb (ops.filter λo=>cls o.op==.alloc).length na=true)
 (hs:df E ops h.next ops pl 0 h.next 0 t n dd (h.up (h.next+na)) [] [] [] (K .normal)):yf E ops t n dd h K:=jU pl aa na ab h.next rfl hs
def Xy{K:b9}{dd:List FuncId}{h:ah}{r n c:Nat}(s:ByteArray)(l:Int)(xs:List Sym)(hr:h.get r=some (.row (xs.map Sym.e).flatten true 0))(hn:n=xs.length)(hc:n<=c)(hk:∀M,h.next<=M->K (.agg (jX s l (.sl 2 (xs.map Sym.e)) (bg true))) dd ((h.set r none).up M) [r]):
 au E ar K dd h (56,[sV s,iV l,.v (.slice (some ⟨r,0,none⟩) n c)]):=
 au.fz (Gv s l (.sl 2 (xs.map Sym.e)) rfl rfl) [r] (by simp[hr]) (.cons (.refl _) (.cons (.refl _) (.cons (dW (fq aw hr) (.inl rfl) aA (by simp[hn]) hc (by simp[Sym.e])) .nil))) hk
def tW(v:Int):Dg:=⟨[(v,1,0)],2⟩
end Go.Sp
end
noncomputable section
open Go Go.aD Go.Proofs
namespace Go.Sp
def HB:aj:=⟨[⟨#[65]⟩,⟨#[66]⟩],bg true,aF,[⟨#[69]⟩],[bF ⟨#[97,100,100]⟩ 0 [⟨false,0⟩,⟨true,1⟩,⟨false,0⟩] (bg true),bF ⟨#[109,117,108]⟩ 0 [⟨false,0⟩,⟨true,2⟩,⟨false,0⟩] (bg true),{bF ⟨#[98,114,97,99,107,101,116]⟩ 0 [⟨true,3⟩,⟨false,0⟩,⟨true,4⟩] (bg true)with bracket:=true},bF ⟨#[110,97,109,101]⟩ 0 [⟨true,0⟩] (bg true),bF ⟨#[112,111,119]⟩ 0 [⟨false,0⟩,⟨true,8⟩,⟨false,0⟩] (vr 1)],0,[⟨[4],2,bg true⟩,⟨[1],1,bg true⟩,⟨[0],1,tW 0⟩],[]⟩
def HC:aj:=⟨[⟨#[65]⟩,⟨#[66]⟩],bg true,aF,[⟨#[83]⟩,⟨#[67]⟩],[bF ⟨#[98,111,116,104]⟩ 0 [⟨true,5⟩,⟨false,1⟩,⟨false,0⟩,⟨true,6⟩,⟨false,0⟩] (bg true),bF ⟨#[116,104,101,110]⟩ 0 [⟨true,5⟩,⟨false,1⟩,⟨false,0⟩] (bg true),bF ⟨#[99,97,108,108]⟩ 0 [⟨false,1⟩,⟨true,7⟩] (bg true),{bF ⟨#[98,108,111,99,107]⟩ 0 [⟨true,3⟩,⟨false,0⟩,⟨true,4⟩] (bg true)with bracket:=true},bF ⟨#[119,111,114,100]⟩ 1 [⟨true,0⟩] (bg true)],0,[],[⟨2,0,2,1,0,0,[],vr 0⟩,⟨5,0,0,0,0,0,[5,6],vr 1⟩]⟩
def HD:aj:=⟨[⟨#[65]⟩,⟨#[66]⟩],bg true,aF,[⟨#[76]⟩,⟨#[73]⟩],[bF ⟨#[101,109,112,116,121]⟩ 0 [] (bg true),bF ⟨#[109,111,114,101]⟩ 0 [⟨false,0⟩,⟨false,1⟩] (bg true),{bF ⟨#[116,121,112,101]⟩ 1 [⟨true,1⟩,⟨true,0⟩,⟨true,7⟩] (bg true)with scope:=⟨false,2,1,0,0⟩},{bF ⟨#[112,111,105,110,116,101,114]⟩ 1 [⟨true,0⟩,⟨true,2⟩,⟨true,0⟩,⟨true,7⟩] (bg true)with scope:=⟨false,3,2,1,2⟩},{bF ⟨#[112,114,111,100,117,99,116]⟩ 1 [⟨true,0⟩,⟨true,2⟩,⟨true,0⟩,⟨true,7⟩] (bg true)with scope:=⟨false,0,0,1,5⟩,eR:=-1},{bF ⟨#[105,110,110,101,114]⟩ 1 [⟨true,3⟩,⟨false,0⟩,⟨true,4⟩] (bg true)with scope:=⟨true,0,0,0,0⟩},{bF ⟨#[115,116,114,105,99,116]⟩ 1 [⟨true,0⟩,⟨true,7⟩] (vr 0)with scope:=⟨false,0,0,1,6⟩}],0,[],[]⟩
def HE:aj:=⟨[⟨#[65]⟩,⟨#[66]⟩],bg true,aF,[⟨#[66]⟩,⟨#[73]⟩],[bF ⟨#[111,110,101]⟩ 0 [⟨false,1⟩] (bg true),{bF ⟨#[108,105,115,116]⟩ 0 [⟨false,0⟩,⟨false,1⟩] (bg true)with layout:=[⟨2,0,1⟩]},bF ⟨#[119,111,114,100]⟩ 1 [⟨true,0⟩] (bg true),{bF ⟨#[104,101,97,100]⟩ 1 [⟨true,5⟩,⟨true,0⟩,⟨false,0⟩] (bg true)with layout:=[⟨3,0,2⟩,⟨1,2,0⟩]},{bF ⟨#[108,105,110,101]⟩ 1 [⟨true,5⟩,⟨false,0⟩] (vr 0)with layout:=[⟨4,0,1⟩]}],0,[],[]⟩
def HF:aj:=⟨[⟨#[65]⟩,⟨#[66]⟩],bg true,aF,[⟨#[83]⟩,⟨#[87]⟩,⟨#[86]⟩],[bF ⟨#[112,97,105,114]⟩ 0 [⟨false,1⟩,⟨false,2⟩] (bg true),{bF ⟨#[115,105,110,103,108,101]⟩ 1 [⟨true,0⟩] (bg true)with eR:=-1},bF ⟨#[100,111,117,98,108,101]⟩ 1 [⟨true,0⟩,⟨true,0⟩] (bg true),bF ⟨#[110,111,110,101]⟩ 2 [] (bg true),bF ⟨#[110,101,120,116]⟩ 2 [⟨true,0⟩,⟨false,2⟩] (bg true),bF ⟨#[109,97,114,107]⟩ 2 [⟨true,1⟩,⟨false,2⟩] (vr 1)],0,[],[⟨3,0,0,0,1,0,[0],vr 0⟩,⟨4,0,0,0,2,0,[1],tW 1⟩]⟩
def HG:aj:=⟨[⟨#[65]⟩,⟨#[66]⟩],bg true,aF,[⟨#[83]⟩,⟨#[79]⟩,⟨#[80]⟩],[bF ⟨#[97,108,108]⟩ 0 [⟨false,1⟩,⟨true,0⟩,⟨false,1⟩,⟨false,2⟩] (bg true),bF ⟨#[110,111]⟩ 1 [] (bg true),bF ⟨#[121,101,115]⟩ 1 [⟨true,1⟩] (bg true),bF ⟨#[101,110,100]⟩ 2 [] (bg true),bF ⟨#[114,101,115,116]⟩ 2 [⟨true,1⟩,⟨false,2⟩] (vr 0)],0,[],[]⟩
def ie(b:Int):aj:=if b%6=0 then HB else if b%6=1 then HC else if b%6=2 then HD else if b%6=3 then HE else if b%6=4 then HF else HG
def Yw:∀b∈([0,1,2,3,4,5,6,7]:List Int),ay E true 54 [uV b] (.agg (ie b).e):=bW an
def Cl:Prop:=∀v:Int,0<=v->v<64->ay E true 172 [.agg (vr v).e] (.agg (tW v).e)
def dg(md:List Int->Nat->Dg)(b:Int)(n:Nat):Dg:=if n=0\/b%6<3 then bg true else if b%6=3 then vr (b/6%n)else if b%6=4 then tW (b/6%n)else md [b] n
def Yx(hc:Cl)(md:List Int->Nat->Dg)(af:∀(l:List Int) (n:Nat),(∀b∈l,0<=b/\b<256)->n<=3->ay E true 58 [.sl 1 (l.map λb=>[uV b]),iV n] (.agg (md l n).e))(b:Int)(n:Nat)(h0:0<=b)(h1:b<256)(hn:n<=3):
 ay E true 112 [uV b,iV n] (.agg (dg md b n).e):=by
 obtain⟨R,hR⟩:∃R,R=DV.agg (dg md b n).e:=⟨_,rfl⟩;rw[<-hR];refine aV Tryz.ntmps112 Tryz.results112 λN=> ?_;have hw:IntKind.u8.wrap (b%6)=b%6:=wrap_u8 aa aa;by_cases hz:n=0
 . subst hz;refine aL ?_;refine au.mk (sd true) λM=>aR λhM=> ?_;simp(disch:=omega)[go_sem,Dg.e,hR,dg]
 have ab:¬(n:Int)=0:=aa;by_cases h3:b%6<3
 . simp(disch:=omega)[go_sem,hz,ab,dw,hw,h3];refine au.mk (sd true) λM=>aR λhM=> ?_;simp(disch:=omega)[go_sem,Dg.e,hR,dg,h3]
 have ae:0<=b/6%(n:Int):=YN _ ab;have ah:b/6%(n:Int)<n:=afe _ aa;have hq:IntKind.u8.wrap (b/6)=b/6:=wrap_u8 aa aa;simp(disch:=omega)[go_sem,hz,ab,dw,jY,hw,hq,h3,aG];have aj:cG (.agg (vr (b/6%(n:Int))).e)=(vr (b/6%(n:Int))).e:=by simp[go_sem,vr,Dg.e,cB]
 refine au.mk (Xu (b/6%n) ae aa) λM=>aR λhM=> ?_;have h6:b%6=3\/b%6=4\/b%6=5:=aa;rcases h6 with h|h|h
 . simp(disch:=omega)[go_sem,Dg.e,dw,wrap_u8,h,hR,dg,hz]
 . simp(disch:=omega)[go_sem,Dg.e,dw,wrap_u8,h];refine au.mk (hc (b/6%n) ae aa) λM2=>aR λad=> ?_;simp(disch:=omega)[go_sem,Dg.e,hR,dg,hz,h]
 . simp(disch:=omega)[go_sem,Dg.e,dw,wrap_u8,h];refine au.fz (af [b] n (by simp;omega) hn) [M+1] ?_ ?_ λM2 ad=> ?_
   . exact ai
   . refine aL ?_;exact dW (fq (wr:=true) aw ai) (.inl rfl) aA aw (oY _) aw
   replace ad:=cr ad;simp(disch:=omega)[go_sem,Dg.e,hR,dg,hz,h]
variable {ar:Bool}
inductive Shape:bl->Prop
 |child (k p a c:Int) (d:Dg):k=1\/k=2->Shape ⟨k,p,a,c,0,0,[],d⟩
 |next (k l t:Int) (d:Dg):k=3\/k=4->Shape ⟨k,0,0,0,l,0,[t],d⟩
 |word (t:Int) (d:Dg):Shape ⟨5,0,0,0,0,0,[t],d⟩
def Cm{f:bl}(hf:Shape f):ay E ar 179 [.agg f.e] (bV true):=by
 refine aV Tryz.ntmps179 Tryz.results179 λN=> ?_;cases hf with
 |child k p a c d h=>rcases h with rfl|rfl<;>simp(disch:=omega)[go_sem,bl.e,ints]
 |next k l t d h=>rcases h with rfl|rfl<;>simp(disch:=omega)[go_sem,bl.e,ints]
 |word t d=>simp(disch:=omega)[go_sem,bl.e,ints]
def HH(g:aj)(t:Nat)(x:Tok)(w:Bool)(h1:g.aF[t]? =some x)(hw:w=true->x.lit≠⟨#[]⟩)(ab:w=false->x.cls=0):ay E ar 180 [.agg g.e,ints [(t:Int)],bV w] (bV true):=by
 refine aV Tryz.ntmps180 Tryz.results180 λN=> ?_;have hl:t<g.aF.length:=(adr.1 h1).1;have ad:¬(g.aF.length:Int)<=t:=aa;have af:¬(t:Int)<0:=aa;simp(disch:=omega)[go_sem,aj.e,ints];obtain⟨I,hI⟩:∃I:Nat->DS->Prop,∀j d,I j d↔∃k M:Nat,j+k=1/\N<M/\d=⟨bw [(1,.sl 1 [[iV t]]),(2,bV w),(3,.v (.pointer (some ⟨N,0,none⟩))),(7,iV k)],72,[],cA M [(N,.row g.e true 0)]⟩:=⟨_,λ_ _=>Iff.rfl⟩;refine bM I 1 ⟨_,aB.mk (N:=N+1) ai ?_ ?_,(hI _ _).2 ⟨0,N+1,rfl,aa,rfl⟩⟩ ?_
 . simp[go_sem]
 . simp(disch:=omega)[go_sem,aj.e]
 . intro j d hd;obtain⟨k,M,hj,hM,rfl⟩:=(hI _ _).1 hd;clear hd;by_cases hk:k=0
   . subst hk;refine aL ?_;refine bH [ae 0,ae 0,ae 3,aC 7,ae 15,ae 31,ae 63,ae 63,ae 255,aC 511,ae 63,aC 1087,aC 3135,ae 8191,ae 16383,ae 32767,ae 65535,ae 131071,ae 262143,ae 524287,ae 524287,ae 2097151,aC 4194303,ae 524287,ae 524287,ae 17301503,ae 59244543,aC 126353407,ae 268435455,ae 536870911,ae 1073741823] an 0 rfl ?_;simp(disch:=omega)[go_sem,aj.e,hl,ad,af];refine bH [ae 0,aC 1,ae 0,ae 0,ae 12,aC 28,ae 63,aC 127,cN 0,aT 511] an 1 rfl ?_;simp(disch:=omega)[go_sem,aj.e,Tok.e,h1,-getElem?_pos];cases w with
     |true=>
      have hx:=hw rfl;simp(disch:=omega)[go_sem,hx,aG];refine⟨j-1,aa,_,aB.mk (N:=M+1) ai ?_ ?_,(hI _ _).2 ⟨1,M+1,aa,aa,rfl⟩⟩
      . simp[go_sem]
      . simp(disch:=omega)[go_sem,aj.e]
     |false=>
      have hx:=ab rfl;simp(disch:=omega)[go_sem,hx,aG];refine⟨j-1,aa,_,aB.mk (N:=M+1) ai ?_ ?_,(hI _ _).2 ⟨1,M+1,aa,aa,rfl⟩⟩
      . simp[go_sem]
      . simp(disch:=omega)[go_sem,aj.e]
   . obtain rfl:k=1:=aa;exact ai
end Go.Sp
end
noncomputable section
open Go Go.aD Go.Proofs
namespace Go.Sp
variable {ar:Bool}
def HI(g:aj)(k l:Int)(t:Nat)(x:Tok)(d:Dg)(hk:k=3\/k=4)(ah:0<=l)(ai:l<g.aI.length)(hx:g.aF[t]? =some x)(ad:x.cls=0)(ab:ay E ar 178 [.agg d.e,iV g.conds.length] (bV true)):
 ay E ar 115 [.agg g.e,.agg (bl.e ⟨k,0,0,0,l,0,[t],d⟩)] (bV true):=by
 have hs:=Cm (ar:=ar) (Shape.next k l t d hk);have ha:=HH (ar:=ar) g t x false hx (λh=>by cases h) (λ_=>ad);have ao:¬l<0:=aa;refine aV Tryz.ntmps115 Tryz.results115 λN=> ?_;rcases hk with rfl|rfl
 all_goals (
  simp(disch:=omega)[go_sem,bl.e,aj.e];refine au.mk ab λM=>aR λhM=> ?_;simp(disch:=omega)[go_sem,bl.e,aj.e];refine au.mk hs λM2=>aR λaf=> ?_;simp(disch:=omega)[go_sem,bl.e,aj.e,ah,ai,ao];refine au.mk ha λM3=>aR λav=> ?_;simp(disch:=omega)[go_sem])
def Yy(g:aj)(t:Nat)(x y:Tok)(d:Dg)(hx:g.aF[t]? =some x)(ad:x.lit≠⟨#[]⟩)(hy:g.aF[0]? =some y)(az:y.cls=0)(aA:y.lit=⟨#[]⟩)(ab:ay E ar 178 [.agg d.e,iV g.conds.length] (bV true)):
 ay E ar 115 [.agg g.e,.agg (bl.e ⟨5,0,0,0,0,0,[t],d⟩)] (bV true):=by
 have hs:=Cm (ar:=ar) (Shape.word t d);have ha:=HH (ar:=ar) g t x true hx (λ_=>ad) (λh=>by cases h);have hl:0<g.aF.length:=(adr.1 hy).1;have aE:¬g.aF=[]:=λh=>by rw[h]at hl;exact absurd hl aw
 refine aV Tryz.ntmps115 Tryz.results115 λN=> ?_;simp(disch:=omega)[go_sem,bl.e,aj.e];refine au.mk ab λM=>aR λhM=> ?_;simp(disch:=omega)[go_sem,bl.e,aj.e];refine au.mk hs λM2=>aR λaf=> ?_;simp(disch:=omega)[go_sem,bl.e,aj.e,hl,aE];refine au.mk ha λM3=>aR λav=> ?_;simp(disch:=omega)[go_sem,aj.e,Tok.e,hy,az,aA,-getElem?_pos]
def kY(g:aj)(p at_ c:Int):Bool:=match g.aq[p.toNat]?,g.aq[c.toNat]? with
 |some P,some C=>match P.right[at_.toNat]? with
  |some s=> !s.tok&&decide (s.idx=C.left)
  |none=>false
 |_,_=>false
def HJ(g:aj)(k:Int)(p a c:Nat)(P C:aK)(d:Dg)(hk:k=1\/k=2)(hp:g.aq[p]? =some P)(hc:g.aq[c]? =some C)(ab:ay E ar 178 [.agg d.e,iV g.conds.length] (bV true)):
 ay E ar 115 [.agg g.e,.agg (bl.e ⟨k,p,a,c,0,0,[],d⟩)] (bV (kY g p a c)):=by
 have hs:=Cm (ar:=ar) (Shape.child k p a c d hk);have aG:=(adr.1 hp).1;have aH:=(adr.1 hc).1;have e1:¬(p:Int)<0:=aa;have e2:¬(c:Int)<0:=aa;have e3:¬(g.aq.length:Int)<=p:=aa;have e4:¬(g.aq.length:Int)<=c:=aa;have e5:(0:Int)<=a:=aa;obtain⟨R,hR⟩:∃R,R=kY g p a c:=⟨_,rfl⟩;rw[<-hR];refine aV Tryz.ntmps115 Tryz.results115 λN=> ?_;rcases hk with rfl|rfl
 all_goals (
  simp(disch:=omega)[go_sem,bl.e,aj.e];refine au.mk ab λM=>aR λhM=> ?_;simp(disch:=omega)[go_sem,bl.e,aj.e];refine au.mk hs λM2=>aR λaf=> ?_;simp(disch:=omega)[go_sem,bl.e,aj.e,aK.e,aG,aH,e1,e2,e3,e4,hp,hc,-getElem?_pos];refine bH [ae 0,aC 1,ae 3,ae 7,ae 15,aC 31,ae 15,aC 79,ae 255,ae 511,ae 1023,ae 2047,ae 2047,aC 6143,ae 16383,ae 32767,aC 65535,ae 131071,ae 262143,ae 524287,ae 1048575,ae 1048575,aC 3145727,ae 8388607,ae 16777215,aC 33554431,ae 1048575,aC 68157439,ae 1048575,aC 269484031,ae 1007681535,ae 2081423359,aC 4228907007,ae 8589934591,ae 17179869183,ae 34359738367] an 0 rfl ?_;by_cases h:a<P.right.length
  . have h':(a:Int)<P.right.length:=aa;obtain⟨s,hs⟩:∃s,P.right[a]? =some s:=⟨_,Fj h⟩;cases ht:s.tok with
    |true=>simp(disch:=omega)[go_sem,bl.e,aj.e,Sym.e,e5,h,h',hs,ht,hR,kY,hp,hc,-getElem?_pos]
    |false=>simp(disch:=omega)[go_sem,bl.e,aj.e,aK.e,Sym.e,e5,h,h',hs,ht,hR,kY,hp,hc,-getElem?_pos]
  . have h':¬(a:Int)<P.right.length:=aa;have hs:P.right[a]? =none:=List.getElem?_eq_none_iff.2 aa;simp(disch:=omega)[go_sem,bl.e,aj.e,e5,h,h',hR,kY,hp,hc,hs,-getElem?_pos])
end Go.Sp
end
noncomputable section
open Go Go.aD Go.Proofs
namespace Go.Sp
variable {ar:Bool}
def HK(g:aj)(p:Int)(b1:g.bj.length<=4096)(b2:∀l∈g.bj,l.aq.length<=4096):ay E ar 114 [.agg g.e,iV p] (bV (g.bj.any λl=>decide (p∈l.aq))):=by
 refine aV Tryz.ntmps114 Tryz.results114 λN=> ?_;simp[go_sem,aj.e];refine bM (λj d=>∃k,j+k=g.bj.length/\d=⟨bw [(1,iV p),(2,.v (.pointer (some ⟨N,0,none⟩))),(5,iV k)],36,[],cA (N+1) [(N,.row g.e true 0)]⟩/\∀l∈g.bj.take k,p∉l.aq) g.bj.length ⟨_,aB.mk rfl ?_ ?_,0,rfl,rfl,aw⟩ ?_
 . simp[go_sem]
 . simp[go_sem,aj.e,mh]
 . rintro j _ ⟨k,hk,rfl,hp⟩;by_cases ab:k<g.bj.length
   . obtain⟨l,hl⟩:∃l,g.bj[k]? =some l:=⟨_,Fj ab⟩;have ae:=afi hl;have af:=b2 l ae;simp[go_sem,aj.e,ab,hl,-getElem?_pos];refine bM (λi d=>∃m,i+m=l.aq.length/\d=⟨bw [(1,iV p),(2,.v (.pointer (some ⟨N,0,none⟩))),(5,iV k),(6,iV m)],36,[],cA (N+1) [(N,.row g.e true 0)]⟩/\p∉l.aq.take m) l.aq.length ⟨_,aB.mk rfl ?_ ?_,0,rfl,rfl,aw⟩ ?_
     . simp[go_sem]
     . simp[go_sem,aj.e]
     . rintro i _ ⟨m,hm,rfl,hq⟩;by_cases ad:m<l.aq.length
       . obtain⟨x,hx⟩:∃x,l.aq[m]? =some x:=⟨_,Fj ad⟩;simp[go_sem,aj.e,cP.e,hl,ad,hx,-getElem?_pos];refine nS.mk _ _ (λh=> ?_) (λh=> ?_)
         . have:∃l∈g.bj,p∈l.aq:=⟨l,ae,h▸afi hx⟩;have e:(g.bj.any λl=>decide (p∈l.aq))=true:=by simpa using this
           rw[e];simp[go_sem]
         . simp(disch:=omega)[go_sem,aG,-getElem?_pos];refine⟨i-1,aa,_,aB.mk rfl ?_ ?_,m+1,aa,rfl, ?_⟩
           . simp[go_sem]
           . simp[go_sem,aj.e]
           . rw[afl,hx];simp[hq];exactλe=>h e.symm
       . rw[afm aa]at hq;simp(disch:=omega)[go_sem,aj.e,cP.e,hl,ad,aG,-getElem?_pos];refine⟨j-1,aa,_,aB.mk rfl ?_ ?_,k+1,aa,rfl, ?_⟩
         . simp[go_sem]
         . simp[go_sem,aj.e]
         . rw[afl,hl];simp only[HT,Option.mem_toList,afv];rintro l' (h|rfl)
           . exact hp l' h
           . exact hq
   . rw[afm aa]at hp;simp[go_sem,aj.e,ab];have:¬∃l∈g.bj,p∈l.aq:=λ⟨l,h1,h2⟩=>hp l h1 h2;have e:(g.bj.any λl=>decide (p∈l.aq))=false:=by simpa using this
     rw[e];exact .refl _
end Go.Sp
end
noncomputable section
open Go Go.aD Go.Proofs
namespace Go.Sp
structure Rl where
 kind:Int
 a:Int
 b:Int
 c:Int
 cond:Int
def Rl.e(x:Rl):List DV:=[uV x.kind,uV x.a,uV x.b,uV x.c,uV x.cond]
structure Rl.Ok(x:Rl):Prop where
 kind:0<=x.kind/\x.kind<256
 a:0<=x.a/\x.a<256
 b:0<=x.b/\x.b<256
 c:0<=x.c/\x.c<256
 cond:0<=x.cond/\x.cond<256
structure sr(g:aj):Prop where
 aq:0<g.aq.length
 aI:0<g.aI.length
 conds:g.conds.length<=3
 bx:g.bx.length<=10
 bj:g.bj.length<=10
 aF:9<=g.aF.length
 mr:∀l∈g.bj,l.aq.length<=4096
 HL:g.aF.length<=100
 ord:∀i x,i<9->g.aF[i]? =some x->x.cls=0/\(x.lit=⟨#[]⟩↔i=0)
def qC{S:fB}{a b c d:List DV}(h1:de S a c)(h2:de S b d):de S (a++b) (c++d):=aU.append h1 h2
def er(g:aj)(f:bl):aj:={g with bx:=g.bx++[f]}
def Yz(sm:Int->Nat->Dg)(ad:∀(b:Int) (n:Nat),0<=b->b<256->n<=3->ay E true 112 [uV b,iV n] (.agg (sm b n).e))(ab:∀(b:Int) (n:Nat),0<=b->b<256->n<=3->ay E true 178 [.agg (sm b n).e,iV n] (bV true))(g:aj)(hg:sr g)(x:Rl)(hx:x.Ok)(hk:x.kind%8=6):
 ay E true 60 [.agg g.e,.agg x.e] (.agg (er g ⟨5,0,0,0,0,0,[5],sm x.cond g.conds.length⟩).e):=by
 obtain⟨R,hR⟩:∃R,R=DV.agg (er g ⟨5,0,0,0,0,0,[5],sm x.cond g.conds.length⟩).e:=⟨_,rfl⟩;rw[<-hR];have ah:=hx.kind;have ha:=hx.a;have hb:=hx.b;have hc:=hx.c;have dO:¬(g.aq.length:Int)=0:=by have:=hg.aq;omega
 have aH:¬(g.aI.length:Int)=0:=by have:=hg.aI;omega
 have aJ:¬g.aq=[]:=λh=>by have:=hg.aq;rw[h]at this;exact absurd this aw
 have hw:∀z:Int,0<=z->IntKind.u8.wrap (z%8)=z%8:=λz h=>wrap_u8 aa aa;refine aV Tryz.ntmps60 Tryz.results60 λN=> ?_;simp(disch:=omega)[go_sem,aj.e,Rl.e];refine au.mk (ad x.cond g.conds.length hx.cond.1 hx.cond.2 hg.conds) λM=>aR λhM=> ?_;have af:=ab x.cond g.conds.length hx.cond.1 hx.cond.2 hg.conds;generalize sm x.cond g.conds.length=d at*;simp(disch:=omega)[go_sem,aj.e,Rl.e,Dg.e,dO,aJ,aH,dw,aG,hw,hk];have h5:(5:Nat)<g.aF.length:=by have:=hg.aF;omega
 have aK:(0:Nat)<g.aF.length:=by have:=hg.aF;omega
 obtain⟨t5,ao⟩:∃t,g.aF[5]? =some t:=⟨_,Fj h5⟩;obtain⟨t0,av⟩:∃t,g.aF[0]? =some t:=⟨_,Fj aK⟩;have o5:=hg.ord 5 t5 aa ao;have o0:=hg.ord 0 t0 aa av;have aO:N+3<=M:=aa;refine au.pl (Yy g 5 t5 t0 d ao (λh=>by have:=o5.2.1 h;omega) av o0.1 (o0.2.2 rfl) af) ?_ λM2 az=> ?_
 . simp(disch:=omega)[go_sem,aj.e,bl.e];exact gS (wr:=true) (ak:=0) aA aw (by rfl) (oY _) (.inl rfl) ai
 replace az:=cr az;refine aL ?_;refine bH [cN 0,ae 0,aC 2,aT 7,dq 0,cN 16,aT 63,ae 127,aT 255] an 2 rfl ?_;have aM:(g.bx.map bl.e).flatten.length=g.bx.length*9:=by
  rw[fi (k:=9) (by intro y hy;obtain⟨z,_,rfl⟩:=yx.1 hy;rfl)];simp
 have aP:=hg.bx;have aS:M+3<=M2:=aa;by_cases dO:g.bx.length=0
 . have aE:g.bx=[]:=Ey dO;simp(disch:=omega)[go_sem,aE,mi]
   repeat refine⟨aa, ?_⟩
   refine gb (wr:=true) (cs:=[]) ai aw aa aa ?_;simp(disch:=omega)[go_sem,hR,er,aE,aj.e];refine iR (cu (wr:=true) (ak:=9) (by simp(disch:=omega)[go_sem];rfl)) (.inr rfl) aA (by rfl) (oY _) (by simp[bl.e]) ?_;simp(disch:=omega)[go_sem,bl.e,ints];exact gS (wr:=true) (ak:=0) aA aw (by rfl) (oY _) (.inl rfl) ai
 . refine aL ?_
   repeat refine⟨aa, ?_⟩
   refine gb (wr:=true) (cs:=[]) ai aw aa aa ?_;refine aL ?_
   repeat refine⟨aa, ?_⟩
   refine kC (cs:=(g.bx.map bl.e).flatten) ai aM aA aA (by simp[go_sem]) aa ?_;simp(disch:=omega)[go_sem,hR,er,aj.e];refine iR (cu (wr:=true) (ak:=9) (by simp(disch:=omega)[go_sem];rfl)) (.inr rfl) aA aw (oY _) ?_ ?_
   . intro y hy;simp only[HT,yx,Q0]at hy;rcases hy with⟨z,_,rfl⟩|rfl<;>rfl
   . rw[Xt];refine qC (de.refl _) ?_;simp(disch:=omega)[go_sem,bl.e,ints];exact gS (wr:=true) (ak:=0) aA aw (by rfl) (oY _) (.inl rfl) ai
set_option maxHeartbeats 4000000 in
def YA(sm:Int->Nat->Dg)(az:∀(b:Int) (n:Nat),0<=b->b<256->n<=3->ay E true 112 [uV b,iV n] (.agg (sm b n).e))(ab:∀(b:Int) (n:Nat),0<=b->b<256->n<=3->ay E true 178 [.agg (sm b n).e,iV n] (bV true))(g:aj)(hg:sr g)(x:Rl)(hx:x.Ok)(hk:x.kind%8=4\/x.kind%8=5):
 ay E true 60 [.agg g.e,.agg x.e] (.agg (er g ⟨x.kind%8-1,0,0,0,x.a%g.aI.length,0,[x.b%9],sm x.cond g.conds.length⟩).e):=by
 obtain⟨R,hR⟩:∃R,R=DV.agg (er g ⟨x.kind%8-1,0,0,0,x.a%g.aI.length,0,[x.b%9],sm x.cond g.conds.length⟩).e:=⟨_,rfl⟩;rw[<-hR];have aK:=hx.kind;have ha:=hx.a;have hb:=hx.b;have hc:=hx.c;have dO:¬(g.aq.length:Int)=0:=by have:=hg.aq;omega
 have av:¬(g.aI.length:Int)=0:=by have:=hg.aI;omega
 have aM:¬g.aq=[]:=λh=>by have:=hg.aq;rw[h]at this;exact absurd this aw
 have hw:∀z:Int,0<=z->IntKind.u8.wrap (z%8)=z%8:=λz h=>wrap_u8 aa aa;refine aV Tryz.ntmps60 Tryz.results60 λN=> ?_;simp(disch:=omega)[go_sem,aj.e,Rl.e];refine au.mk (az x.cond g.conds.length hx.cond.1 hx.cond.2 hg.conds) λM=>aR λhM=> ?_;have ad:=ab x.cond g.conds.length hx.cond.1 hx.cond.2 hg.conds;generalize sm x.cond g.conds.length=d at*;rcases hk with hk|hk
 . simp(disch:=omega)[go_sem,aj.e,Rl.e,Dg.e,dO,aM,av,dw,aG,hw,hk];obtain⟨t,ht⟩:∃t:Nat,x.b%9=t:=⟨(x.b%9).toNat,aa⟩;have h5:t<g.aF.length:=by have:=hg.aF;omega
   obtain⟨t5,af⟩:∃y,g.aF[t]? =some y:=⟨_,Fj h5⟩;have o5:=hg.ord t t5 aa af;have aO:N+3<=M:=aa;have aE:0<=x.a%(g.aI.length:Int):=YN _ av;have aH:x.a%(g.aI.length:Int)<g.aI.length:=afe _ aa;rw[hk]at hR;rw[ht]at hR;simp only[ht];refine au.pl (HI g 3 (x.a%g.aI.length) t t5 d aa aE aH af o5.1 ad) ?_ λM2 ah=> ?_
   . simp(disch:=omega)[go_sem,aj.e,bl.e];exact gS (wr:=true) (ak:=0) aA aw (by rfl) (oY _) (.inl rfl) ai
   replace ah:=cr ah;refine aL ?_;refine bH [cN 0,ae 0,aC 2,aT 7,dq 0,cN 16,aT 63,ae 127,aT 255] an 2 rfl ?_;have aJ:(g.bx.map bl.e).flatten.length=g.bx.length*9:=by
    rw[fi (k:=9) (by intro y hy;obtain⟨z,_,rfl⟩:=yx.1 hy;rfl)];simp
   have aP:=hg.bx;have aS:M+3<=M2:=aa;by_cases dO:g.bx.length=0
   . have ao:g.bx=[]:=Ey dO;simp(disch:=omega)[go_sem,ao,mi]
     repeat refine⟨aa, ?_⟩
     refine gb (wr:=true) (cs:=[]) ai aw aa aa ?_;simp(disch:=omega)[go_sem,hR,er,ao,aj.e];refine iR (cu (wr:=true) (ak:=9) (by simp(disch:=omega)[go_sem];rfl)) (.inr rfl) aA (by rfl) (oY _) (by simp[bl.e]) ?_;simp(disch:=omega)[go_sem,bl.e,ints];exact gS (wr:=true) (ak:=0) aA aw (by rfl) (oY _) (.inl rfl) ai
   . refine aL ?_
     repeat refine⟨aa, ?_⟩
     refine gb (wr:=true) (cs:=[]) ai aw aa aa ?_;refine aL ?_
     repeat refine⟨aa, ?_⟩
     refine kC (cs:=(g.bx.map bl.e).flatten) ai aJ aA aA (by simp[go_sem]) aa ?_;simp(disch:=omega)[go_sem,hR,er,aj.e];refine iR (cu (wr:=true) (ak:=9) (by simp(disch:=omega)[go_sem];rfl)) (.inr rfl) aA aw (oY _) ?_ ?_
     . intro y hy;simp only[HT,yx,Q0]at hy;rcases hy with⟨z,_,rfl⟩|rfl<;>rfl
     . rw[Xt];refine qC (de.refl _) ?_;simp(disch:=omega)[go_sem,bl.e,ints];exact gS (wr:=true) (ak:=0) aA aw (by rfl) (oY _) (.inl rfl) ai
 . simp(disch:=omega)[go_sem,aj.e,Rl.e,Dg.e,dO,aM,av,dw,aG,hw,hk];obtain⟨t,ht⟩:∃t:Nat,x.b%9=t:=⟨(x.b%9).toNat,aa⟩;have h5:t<g.aF.length:=by have:=hg.aF;omega
   obtain⟨t5,af⟩:∃y,g.aF[t]? =some y:=⟨_,Fj h5⟩;have o5:=hg.ord t t5 aa af;have aO:N+3<=M:=aa;have aE:0<=x.a%(g.aI.length:Int):=YN _ av;have aH:x.a%(g.aI.length:Int)<g.aI.length:=afe _ aa;rw[hk]at hR;rw[ht]at hR;simp only[ht];refine au.pl (HI g 4 (x.a%g.aI.length) t t5 d aa aE aH af o5.1 ad) ?_ λM2 ah=> ?_
   . simp(disch:=omega)[go_sem,aj.e,bl.e];exact gS (wr:=true) (ak:=0) aA aw (by rfl) (oY _) (.inl rfl) ai
   replace ah:=cr ah;refine aL ?_;refine bH [cN 0,ae 0,aC 2,aT 7,dq 0,cN 16,aT 63,ae 127,aT 255] an 2 rfl ?_;have aJ:(g.bx.map bl.e).flatten.length=g.bx.length*9:=by
    rw[fi (k:=9) (by intro y hy;obtain⟨z,_,rfl⟩:=yx.1 hy;rfl)];simp
   have aP:=hg.bx;have aS:M+3<=M2:=aa;by_cases dO:g.bx.length=0
   . have ao:g.bx=[]:=Ey dO;simp(disch:=omega)[go_sem,ao,mi]
     repeat refine⟨aa, ?_⟩
     refine gb (wr:=true) (cs:=[]) ai aw aa aa ?_;simp(disch:=omega)[go_sem,hR,er,ao,aj.e];refine iR (cu (wr:=true) (ak:=9) (by simp(disch:=omega)[go_sem];rfl)) (.inr rfl) aA (by rfl) (oY _) (by simp[bl.e]) ?_;simp(disch:=omega)[go_sem,bl.e,ints];exact gS (wr:=true) (ak:=0) aA aw (by rfl) (oY _) (.inl rfl) ai
   . refine aL ?_
     repeat refine⟨aa, ?_⟩
     refine gb (wr:=true) (cs:=[]) ai aw aa aa ?_;refine aL ?_
     repeat refine⟨aa, ?_⟩
     refine kC (cs:=(g.bx.map bl.e).flatten) ai aJ aA aA (by simp[go_sem]) aa ?_;simp(disch:=omega)[go_sem,hR,er,aj.e];refine iR (cu (wr:=true) (ak:=9) (by simp(disch:=omega)[go_sem];rfl)) (.inr rfl) aA aw (oY _) ?_ ?_
     . intro y hy;simp only[HT,yx,Q0]at hy;rcases hy with⟨z,_,rfl⟩|rfl<;>rfl
     . rw[Xt];refine qC (de.refl _) ?_;simp(disch:=omega)[go_sem,bl.e,ints];exact gS (wr:=true) (ak:=0) aA aw (by rfl) (oY _) (.inl rfl) ai
set_option maxHeartbeats 4000000 in
def YB(sm:Int->Nat->Dg)(az:∀(b:Int) (n:Nat),0<=b->b<256->n<=3->ay E true 112 [uV b,iV n] (.agg (sm b n).e))(ab:∀(b:Int) (n:Nat),0<=b->b<256->n<=3->ay E true 178 [.agg (sm b n).e,iV n] (bV true))(g:aj)(hg:sr g)(x:Rl)(hx:x.Ok)(hk:x.kind%8=2\/x.kind%8=3):
 ay E true 60 [.agg g.e,.agg x.e] (.agg (if kY g (x.a%g.aq.length) (x.c%16) (x.b%g.aq.length)then er g ⟨x.kind%8-1,x.a%g.aq.length,x.c%16,x.b%g.aq.length,0,0,[],sm x.cond g.conds.length⟩else g).e):=by
 obtain⟨R,hR⟩:∃R,R=DV.agg (if kY g (x.a%g.aq.length) (x.c%16) (x.b%g.aq.length)then er g ⟨x.kind%8-1,x.a%g.aq.length,x.c%16,x.b%g.aq.length,0,0,[],sm x.cond g.conds.length⟩else g).e:=⟨_,rfl⟩;rw[<-hR];have aS:=hx.kind;have ha:=hx.a;have hb:=hx.b;have hc:=hx.c;have dO:¬(g.aq.length:Int)=0:=by have:=hg.aq;omega
 have aW:¬(g.aI.length:Int)=0:=by have:=hg.aI;omega
 have aX:¬g.aq=[]:=λh=>by have:=hg.aq;rw[h]at this;exact absurd this aw
 have hw:∀z:Int,0<=z->IntKind.u8.wrap (z%8)=z%8:=λz h=>wrap_u8 aa aa;refine aV Tryz.ntmps60 Tryz.results60 λN=> ?_;simp(disch:=omega)[go_sem,aj.e,Rl.e];refine au.mk (az x.cond g.conds.length hx.cond.1 hx.cond.2 hg.conds) λM=>aR λhM=> ?_;have ad:=ab x.cond g.conds.length hx.cond.1 hx.cond.2 hg.conds;generalize sm x.cond g.conds.length=d at*;have af:∀z:Int,∃t:Nat,z%(g.aq.length:Int)=t/\t<g.aq.length:=λz=>
  ⟨(z%(g.aq.length:Int)).toNat,by have:=YN z dO;omega,by have:=YN z dO;have:=afe z (show(0:Int)<g.aq.length by omega);omega⟩
 obtain⟨p,aE,aH⟩:=af x.a;obtain⟨c,aJ,aK⟩:=af x.b;obtain⟨a,aM⟩:∃t:Nat,x.c%16=t:=⟨(x.c%16).toNat,aa⟩;obtain⟨P,hP⟩:∃y,g.aq[p]? =some y:=⟨_,Fj aH⟩;obtain⟨C,hC⟩:∃y,g.aq[c]? =some y:=⟨_,Fj aK⟩;rw[aE,aJ,aM]at hR;have ba:N+3<=M:=aa;rcases hk with hk|hk
 . rw[hk]at hR;simp(disch:=omega)[go_sem,aj.e,Rl.e,Dg.e,dO,aX,aW,dw,aG,hw,hk,aE,aJ,aM];refine au.pl (HJ g 1 p a c P C d aa hP hC ad) ?_ λM2 ah=> ?_
   . simp(disch:=omega)[go_sem,aj.e,bl.e,ints]
   replace ah:=cr ah;cases ao:kY g p a c with
   |false=>
    simp(disch:=omega)[go_sem,hR,ao,aj.e]
   |true=>
    rw[ao,if_pos rfl]at hR;refine aL ?_;refine bH [cN 0,ae 0,aC 2,aT 7,dq 0,cN 16,aT 63,ae 127,aT 255] an 2 rfl ?_;have aO:(g.bx.map bl.e).flatten.length=g.bx.length*9:=by
     rw[fi (k:=9) (by intro y hy;obtain⟨z,_,rfl⟩:=yx.1 hy;rfl)];simp
    have aY:=hg.bx;have aZ:M+2<=M2:=aa;by_cases aP:g.bx.length=0
    . have av:g.bx=[]:=Ey aP;simp(disch:=omega)[go_sem,av,mi]
      repeat refine⟨aa, ?_⟩
      refine gb (wr:=true) (cs:=[]) ai aw aa aa ?_;simp(disch:=omega)[go_sem,hR,er,av,aj.e];refine iR (cu (wr:=true) (ak:=9) (by simp(disch:=omega)[go_sem];rfl)) (.inr rfl) aA (by rfl) (oY _) (by simp[bl.e]) ?_;simp(disch:=omega)[go_sem,bl.e,ints]
    . refine aL ?_
      repeat refine⟨aa, ?_⟩
      refine gb (wr:=true) (cs:=[]) ai aw aa aa ?_;refine aL ?_
      repeat refine⟨aa, ?_⟩
      refine kC (cs:=(g.bx.map bl.e).flatten) ai aO aA aA (by simp[go_sem]) aa ?_;simp(disch:=omega)[go_sem,hR,er,aj.e];refine iR (cu (wr:=true) (ak:=9) (by simp(disch:=omega)[go_sem];rfl)) (.inr rfl) aA aw (oY _) ?_ ?_
      . intro y hy;simp only[HT,yx,Q0]at hy;rcases hy with⟨z,_,rfl⟩|rfl<;>rfl
      . rw[Xt];refine qC (de.refl _) ?_;simp(disch:=omega)[go_sem,bl.e,ints]
 . rw[hk]at hR;simp(disch:=omega)[go_sem,aj.e,Rl.e,Dg.e,dO,aX,aW,dw,aG,hw,hk,aE,aJ,aM];refine au.pl (HJ g 2 p a c P C d aa hP hC ad) ?_ λM2 ah=> ?_
   . simp(disch:=omega)[go_sem,aj.e,bl.e,ints]
   replace ah:=cr ah;cases ao:kY g p a c with
   |false=>
    simp(disch:=omega)[go_sem,hR,ao,aj.e]
   |true=>
    rw[ao,if_pos rfl]at hR;refine aL ?_;refine bH [cN 0,ae 0,aC 2,aT 7,dq 0,cN 16,aT 63,ae 127,aT 255] an 2 rfl ?_;have aO:(g.bx.map bl.e).flatten.length=g.bx.length*9:=by
     rw[fi (k:=9) (by intro y hy;obtain⟨z,_,rfl⟩:=yx.1 hy;rfl)];simp
    have aY:=hg.bx;have aZ:M+2<=M2:=aa;by_cases aP:g.bx.length=0
    . have av:g.bx=[]:=Ey aP;simp(disch:=omega)[go_sem,av,mi]
      repeat refine⟨aa, ?_⟩
      refine gb (wr:=true) (cs:=[]) ai aw aa aa ?_;simp(disch:=omega)[go_sem,hR,er,av,aj.e];refine iR (cu (wr:=true) (ak:=9) (by simp(disch:=omega)[go_sem];rfl)) (.inr rfl) aA (by rfl) (oY _) (by simp[bl.e]) ?_;simp(disch:=omega)[go_sem,bl.e,ints]
    . refine aL ?_
      repeat refine⟨aa, ?_⟩
      refine gb (wr:=true) (cs:=[]) ai aw aa aa ?_;refine aL ?_
      repeat refine⟨aa, ?_⟩
      refine kC (cs:=(g.bx.map bl.e).flatten) ai aO aA aA (by simp[go_sem]) aa ?_;simp(disch:=omega)[go_sem,hR,er,aj.e];refine iR (cu (wr:=true) (ak:=9) (by simp(disch:=omega)[go_sem];rfl)) (.inr rfl) aA aw (oY _) ?_ ?_
      . intro y hy;simp only[HT,yx,Q0]at hy;rcases hy with⟨z,_,rfl⟩|rfl<;>rfl
      . rw[Xt];refine qC (de.refl _) ?_;simp(disch:=omega)[go_sem,bl.e,ints]
def HM(d:Dg):∀(l:List Tok) (t:Nat),t<l.length->(l.map Tok.e).flatten.take (t*7+5)++(DV.sl 3 (d.nodes.map cB)::iV d.root::(l.map Tok.e).flatten.drop (t*7+5+2))=((l.modify t λx=>{x with cond:=d}).map Tok.e).flatten
 |[],t,h=>absurd h aw
 |x::l,0,_=>by simp[Tok.e,List.modify]
 |x::l,t+1,h=>by
  have ih:=HM d l t (by simpa using h);rw[show(t+1)*7+5=(t*7+5)+1+1+1+1+1+1+1 by omega,show(t*7+5)+1+1+1+1+1+1+1+2=(t*7+5+2)+1+1+1+1+1+1+1 by omega];simp only[List.map_cons,aff,Tok.e,List.cons_append,List.nil_append,List.take_succ_cons,List.drop_succ_cons,List.modify_succ_cons];rw[ih]
def j5(g:aj)(k:Nat)(d:Dg):aj:={g with aF:=g.aF.modify k λx=>{x with cond:=d}}
set_option maxHeartbeats 4000000 in
def YC(sm:Int->Nat->Dg)(ad:∀(b:Int) (n:Nat),0<=b->b<256->n<=3->ay E true 112 [uV b,iV n] (.agg (sm b n).e))(ab:∀(b:Int) (n:Nat),0<=b->b<256->n<=3->ay E true 178 [.agg (sm b n).e,iV n] (bV true))(g:aj)(hg:sr g)(x:Rl)(hx:x.Ok)(hk:x.kind%8=7):
 ay E true 60 [.agg g.e,.agg x.e] (.agg (j5 g (x.a%9).toNat (sm x.cond g.conds.length)).e):=by
 obtain⟨R,hR⟩:∃R,R=DV.agg (j5 g (x.a%9).toNat (sm x.cond g.conds.length)).e:=⟨_,rfl⟩;rw[<-hR];have ae:=hx.kind;have ha:=hx.a;have hb:=hx.b;have hc:=hx.c;have dO:¬(g.aq.length:Int)=0:=by have:=hg.aq;omega
 have af:¬(g.aI.length:Int)=0:=by have:=hg.aI;omega
 have ah:¬g.aq=[]:=λh=>by have:=hg.aq;rw[h]at this;exact absurd this aw
 have hw:∀z:Int,0<=z->IntKind.u8.wrap (z%8)=z%8:=λz h=>wrap_u8 aa aa;refine aV Tryz.ntmps60 Tryz.results60 λN=> ?_;simp(disch:=omega)[go_sem,aj.e,Rl.e];refine au.mk (ad x.cond g.conds.length hx.cond.1 hx.cond.2 hg.conds) λM=>aR λhM=> ?_;have an:=ab x.cond g.conds.length hx.cond.1 hx.cond.2 hg.conds;generalize sm x.cond g.conds.length=d at*;obtain⟨t,ht⟩:∃t:Nat,x.a%9=t:=⟨(x.a%9).toNat,aa⟩;have h5:t<g.aF.length:=by have:=hg.aF;omega
 obtain⟨y,hy⟩:∃y,g.aF[t]? =some y:=⟨_,Fj h5⟩;have aC:¬g.aF.length=0:=aa;simp(disch:=omega)[go_sem,aj.e,Rl.e,Dg.e,dO,ah,af,dw,aG,hw,hk,ht];have ao:=hg.HL;refine gb (wr:=true) (cs:=[]) ai aw aa aa ?_;have aE:(t:Int)<g.aF.length:=aa;have av:(g.aF.map Tok.e).flatten.length=g.aF.length*7:=by
  rw[fi (k:=7) (by intro y hy;obtain⟨z,_,rfl⟩:=yx.1 hy;rfl)];simp
 have az:=HM d g.aF t h5;have ao:=hg.HL;rw[show(x.a%9).toNat=t by omega]at hR;generalize aH:(g.aF.map Tok.e).flatten=TC at*;have hle:t*7+5+2<=g.aF.length*7:=aa;simp(disch:=omega)[go_sem,ht,dw,aG,aj.e,Rl.e,av,hle];subst hR;simp(disch:=omega)[go_sem,aj.e,j5];refine gS (wr:=true) (ak:=7) aA ?_ aw (oY _) (.inr rfl) ?_
 . intro y hy;obtain⟨z,_,rfl⟩:=yx.1 hy;rfl
 . rw[<-az];exact ai
def m9(g:aj)(p:Int):Bool:=g.bj.any λl=>decide (p∈l.aq)
def kF(g:aj)(a b c:Int)(d:Dg):aj:=if m9 g a then g else{g with bj:=g.bj++[⟨if b≠a/\m9 g b=false then [a,b]else [a],c,d⟩]}
set_option maxHeartbeats 4000000 in
def YD(sm:Int->Nat->Dg)(av:∀(b:Int) (n:Nat),0<=b->b<256->n<=3->ay E true 112 [uV b,iV n] (.agg (sm b n).e))(ad:∀(b:Int) (n:Nat),0<=b->b<256->n<=3->ay E true 178 [.agg (sm b n).e,iV n] (bV true))(g:aj)(hg:sr g)(x:Rl)(hx:x.Ok)(hk:x.kind%8=0\/x.kind%8=1):
 ay E true 60 [.agg g.e,.agg x.e] (.agg (kF g (x.a%g.aq.length) (x.b%g.aq.length) (x.c%4) (sm x.cond g.conds.length)).e):=by
 obtain⟨R,hR⟩:∃R,R=DV.agg (kF g (x.a%g.aq.length) (x.b%g.aq.length) (x.c%4) (sm x.cond g.conds.length)).e:=⟨_,rfl⟩;rw[<-hR];have aJ:=hx.kind;have ha:=hx.a;have hb:=hx.b;have hc:=hx.c;have dO:¬(g.aq.length:Int)=0:=by have:=hg.aq;omega
 have az:¬(g.aI.length:Int)=0:=by have:=hg.aI;omega
 have aE:¬g.aq=[]:=λh=>by have:=hg.aq;rw[h]at this;exact absurd this aw
 have hw:∀z:Int,0<=z->IntKind.u8.wrap (z%8)=z%8:=λz h=>wrap_u8 aa aa;refine aV Tryz.ntmps60 Tryz.results60 λN=> ?_;simp(disch:=omega)[go_sem,aj.e,Rl.e];refine au.mk (av x.cond g.conds.length hx.cond.1 hx.cond.2 hg.conds) λM=>aR λhM=> ?_;have aP:=ad x.cond g.conds.length hx.cond.1 hx.cond.2 hg.conds;generalize sm x.cond g.conds.length=d at*;have aW:=hg.bj;generalize aS:x.a%(g.aq.length:Int)=a at*;generalize aK:x.b%(g.aq.length:Int)=b at*;have aM:IntKind.u8.wrap (x.c%4)=x.c%4:=wrap_u8 aa aa;have aH:(g.bj.map cP.e).flatten.length=g.bj.length*4:=by
  rw[fi (k:=4) (by intro y hy;obtain⟨z,_,rfl⟩:=yx.1 hy;rfl)];simp
 rcases hk with hk|hk
 all_goals (
  simp(disch:=omega)[go_sem,aj.e,Rl.e,Dg.e,dO,aE,az,dw,aG,hw,hk,aS];refine au.mk (HK g a aa hg.mr) λM2=>aR λaX=> ?_;have aY:M+2<=M2:=aa;rw[show(g.bj.any λl=>decide (a∈l.aq))=m9 g a from rfl];cases ah:m9 g a with
  |true=>simp(disch:=omega)[go_sem,hR,kF,ah,aj.e]
  |false=>
   by_cases ao:b=a
   . rw[show kF g a b (x.c%4) d={g with bj:=g.bj++[⟨[a],x.c%4,d⟩]} by simp[kF,ah,ao]]at hR;simp(disch:=omega)[go_sem,aj.e,Rl.e,Dg.e,dO,aE,az,dw,aG,aM,aK,ao];by_cases af:g.bj.length=0
     . have ab:g.bj=[]:=Ey af;refine bH [cN 0,ae 0,aC 2,aT 7,dq 0,cN 16,aT 63,ae 127,aT 255] an 2 rfl ?_;simp(disch:=omega)[go_sem,ab,mi]
       repeat refine⟨aa, ?_⟩
       refine gb (wr:=true) (cs:=[]) ai aw aa aa ?_;simp(disch:=omega)[go_sem,hR,ab,aj.e];refine iR (cu (wr:=true) (ak:=4) (by simp(disch:=omega)[go_sem];rfl)) (.inr rfl) aA (by rfl) (oY _) (by simp[cP.e]) ?_;simp(disch:=omega)[go_sem,cP.e,ints];exact gS (wr:=true) (ak:=0) aA aw (by rfl) (oY _) (.inl rfl) ai
     . refine bH [cN 0,ae 0,aC 2,aT 7,dq 0,cN 16,aT 63,ae 127,aT 255] an 2 rfl ?_;refine aL ?_
       repeat refine⟨aa, ?_⟩
       refine gb (wr:=true) (cs:=[]) ai aw aa aa ?_;refine aL ?_
       repeat refine⟨aa, ?_⟩
       refine kC (cs:=(g.bj.map cP.e).flatten) ai aH aA aA (by simp[go_sem]) aa ?_;simp(disch:=omega)[go_sem,hR,aj.e];refine iR (cu (wr:=true) (ak:=4) (by simp(disch:=omega)[go_sem];rfl)) (.inr rfl) aA aw (oY _) ?_ ?_
       . intro y hy;simp only[HT,yx,Q0]at hy;rcases hy with⟨z,_,rfl⟩|rfl<;>rfl
       . rw[Xt];refine qC (de.refl _) ?_;simp(disch:=omega)[go_sem,cP.e,ints];exact gS (wr:=true) (ak:=0) aA aw (by rfl) (oY _) (.inl rfl) ai
   . simp(disch:=omega)[go_sem,aj.e,Rl.e,Dg.e,dO,aE,az,dw,aG,aM,aK,ao];refine au.mk (HK g b aa hg.mr) λM3=>aR λaZ=> ?_;have ba:M2+2<=M3:=aa;rw[show(g.bj.any λl=>decide (b∈l.aq))=m9 g b from rfl];cases aO:m9 g b with
     |true=>
      rw[show kF g a b (x.c%4) d={g with bj:=g.bj++[⟨[a],x.c%4,d⟩]} by simp[kF,ah,aO]]at hR;simp(disch:=omega)[go_sem,aj.e];by_cases af:g.bj.length=0
      . have ab:g.bj=[]:=Ey af;refine bH [cN 0,ae 0,aC 2,aT 7,dq 0,cN 16,aT 63,ae 127,aT 255] an 2 rfl ?_;simp(disch:=omega)[go_sem,ab,mi]
        repeat refine⟨aa, ?_⟩
        refine gb (wr:=true) (cs:=[]) ai aw aa aa ?_;simp(disch:=omega)[go_sem,hR,ab,aj.e];refine iR (cu (wr:=true) (ak:=4) (by simp(disch:=omega)[go_sem];rfl)) (.inr rfl) aA (by rfl) (oY _) (by simp[cP.e]) ?_;simp(disch:=omega)[go_sem,cP.e,ints];exact gS (wr:=true) (ak:=0) aA aw (by rfl) (oY _) (.inl rfl) ai
      . refine bH [cN 0,ae 0,aC 2,aT 7,dq 0,cN 16,aT 63,ae 127,aT 255] an 2 rfl ?_;refine aL ?_
        repeat refine⟨aa, ?_⟩
        refine gb (wr:=true) (cs:=[]) ai aw aa aa ?_;refine aL ?_
        repeat refine⟨aa, ?_⟩
        refine kC (cs:=(g.bj.map cP.e).flatten) ai aH aA aA (by simp[go_sem]) aa ?_;simp(disch:=omega)[go_sem,hR,aj.e];refine iR (cu (wr:=true) (ak:=4) (by simp(disch:=omega)[go_sem];rfl)) (.inr rfl) aA aw (oY _) ?_ ?_
        . intro y hy;simp only[HT,yx,Q0]at hy;rcases hy with⟨z,_,rfl⟩|rfl<;>rfl
        . rw[Xt];refine qC (de.refl _) ?_;simp(disch:=omega)[go_sem,cP.e,ints];exact gS (wr:=true) (ak:=0) aA aw (by rfl) (oY _) (.inl rfl) ai
     |false=>
      rw[show kF g a b (x.c%4) d={g with bj:=g.bj++[⟨[a,b],x.c%4,d⟩]} by simp[kF,ah,aO,ao]]at hR;simp(disch:=omega)[go_sem,aj.e];refine gb (wr:=true) (cs:=[iV a]) ai aw aa aa ?_;simp(disch:=omega)[go_sem,aj.e];by_cases af:g.bj.length=0
      . have ab:g.bj=[]:=Ey af;refine bH [cN 0,ae 0,aC 2,aT 7,dq 0,cN 16,aT 63,ae 127,aT 255] an 2 rfl ?_;simp(disch:=omega)[go_sem,ab,mi]
        repeat refine⟨aa, ?_⟩
        refine gb (wr:=true) (cs:=[]) ai aw aa aa ?_;simp(disch:=omega)[go_sem,hR,ab,aj.e];refine iR (cu (wr:=true) (ak:=4) (by simp(disch:=omega)[go_sem];rfl)) (.inr rfl) aA (by rfl) (oY _) (by simp[cP.e]) ?_;simp(disch:=omega)[go_sem,cP.e,ints];exact gS (wr:=true) (ak:=1) aA aw (by rfl) (oY _) (.inr rfl) ai
      . refine bH [cN 0,ae 0,aC 2,aT 7,dq 0,cN 16,aT 63,ae 127,aT 255] an 2 rfl ?_;refine aL ?_
        repeat refine⟨aa, ?_⟩
        refine gb (wr:=true) (cs:=[]) ai aw aa aa ?_;refine aL ?_
        repeat refine⟨aa, ?_⟩
        refine kC (cs:=(g.bj.map cP.e).flatten) ai aH aA aA (by simp[go_sem]) aa ?_;simp(disch:=omega)[go_sem,hR,aj.e];refine iR (cu (wr:=true) (ak:=4) (by simp(disch:=omega)[go_sem];rfl)) (.inr rfl) aA aw (oY _) ?_ ?_
        . intro y hy;simp only[HT,yx,Q0]at hy;rcases hy with⟨z,_,rfl⟩|rfl<;>rfl
        . rw[Xt];refine qC (de.refl _) ?_;simp(disch:=omega)[go_sem,cP.e,ints];exact gS (wr:=true) (ak:=1) aA aw (by rfl) (oY _) (.inr rfl) ai)
def jx(sm:Int->Nat->Dg)(g:aj)(x:Rl):aj:=
 let d:=sm x.cond g.conds.length
 let n:Int:=g.aq.length
 let k:=x.kind%8
 if k=0\/k=1 then kF g (x.a%n) (x.b%n) (x.c%4) d
 else if k=2\/k=3 then(if kY g (x.a%n) (x.c%16) (x.b%n)then er g ⟨k-1,x.a%n,x.c%16,x.b%n,0,0,[],d⟩else g)
 else if k=4\/k=5 then er g ⟨k-1,0,0,0,x.a%g.aI.length,0,[x.b%9],d⟩
 else if k=6 then er g ⟨5,0,0,0,0,0,[5],d⟩
 else j5 g (x.a%9).toNat d
def YE(sm:Int->Nat->Dg)(ab:∀(b:Int) (n:Nat),0<=b->b<256->n<=3->ay E true 112 [uV b,iV n] (.agg (sm b n).e))(aa:∀(b:Int) (n:Nat),0<=b->b<256->n<=3->ay E true 178 [.agg (sm b n).e,iV n] (bV true))(g:aj)(hg:sr g)(x:Rl)(hx:x.Ok):
 ay E true 60 [.agg g.e,.agg x.e] (.agg (jx sm g x).e):=by
 unfold jx;simp only;by_cases h1:x.kind%8=0\/x.kind%8=1
 . rw[if_pos h1];exact YD sm ab aa g hg x hx h1
 rw[if_neg h1];by_cases h2:x.kind%8=2\/x.kind%8=3
 . rw[if_pos h2];exact YB sm ab aa g hg x hx h2
 rw[if_neg h2];by_cases h3:x.kind%8=4\/x.kind%8=5
 . rw[if_pos h3];exact YA sm ab aa g hg x hx h3
 rw[if_neg h3];by_cases h4:x.kind%8=6
 . rw[if_pos h4];exact Yz sm ab aa g hg x hx h4
 rw[if_neg h4];exact YC sm ab aa g hg x hx (by have:=hx.kind;omega)
variable {ar:Bool}
structure Ln where
 left:Int
 right:List Int
 cond:Int
 mark:Int
def Ln.e(x:Ln):List DV:=[uV x.left,.sl 1 (x.right.map λb=>[uV b]),uV x.cond,uV x.mark]
structure Ln.Ok(x:Ln):Prop where
 left:0<=x.left/\x.left<256
 right:∀b∈x.right,0<=b/\b<256
 cond:0<=x.cond/\x.cond<256
 mark:0<=x.mark/\x.mark<256
def jy(n:Int)(b:Int):Sym:=if b%14<9 then⟨true,b%14⟩else⟨false,(b%14-9)%n⟩
def jz(k:Nat):ByteArray:=⟨#[112]⟩++strOf [97+k]
def gm(dg:Int->Nat->Dg)(g:aj)(x:Ln)(known:Bool):aj:=
 let n:Int:=g.aI.length
 let r:=(x.right.take 4).map (jy n)
 let l:=x.left%n
 if r.any (·.tok)=false/\(known=true\/(r.all λs=>s.tok||decide (l<s.idx))=false)then g
 else{g with aq:=g.aq++[mark (jz g.aq.length) l r (dg x.cond g.conds.length) x.mark]}
theorem YF(z:Int):(strOf [z]).size=1:=rfl
set_option maxHeartbeats 4000000 in
def YG(dg:Int->Nat->Dg)(av:∀(b:Int) (n:Nat),0<=b->b<256->n<=3->ay E true 112 [uV b,iV n] (.agg (dg b n).e))(g:aj)(x:Ln)(known:Bool)(hx:x.Ok)(hn:0<g.aI.length)(bD:g.aI.length<=3)(hc:g.conds.length<=3)(hp:g.aq.length<=20):
 ay E true 59 [.agg g.e,.agg x.e,bV known] (.agg (gm dg g x known).e):=by
 obtain⟨R,hR⟩:∃R,R=DV.agg (gm dg g x known).e:=⟨_,rfl⟩;rw[<-hR];refine aV Tryz.ntmps59 Tryz.results59 λN=> ?_;have ao:¬(g.aI.length:Int)=0:=aa;have hl:=hx.left;have aW:∀o p,cL E .add 9 o p (.string ⟨#[112]⟩) (.string (strOf [97+(g.aq.length:Int)]))=some (.string (jz g.aq.length)):=λo p=>tR 9 o p _ _ (by simp[YF];decide);simp(disch:=omega)[go_sem,aj.e,Ln.e];refine jU [ae 0,aC 1,aC 3,ae 7,aC 15,cN 31,aC 63,ae 127,ae 0,aC 256,aC 768,ae 0,ae 3840,aT 8191,cN 0,aT 32767] an 2 rfl (N+3) (by simp[go_sem]) ?_;simp(disch:=omega)[go_sem,dw,wrap_u8,aG,ao,aW];refine au.mk (Gv (jz g.aq.length) (x.left%g.aI.length) cm rfl rfl) λM hM=> ?_;simp(disch:=omega)[go_sem,jX]at hM⊢;generalize bn:jz g.aq.length=pn;generalize bo:x.left%(g.aI.length:Int)=lf;generalize bq:(g.aI.length:Int)=n at*;have bs:N+5<=M:=aa;obtain⟨I,hI⟩:∃I:Nat->DS->Prop,∀j d,I j d↔∃(k M:Nat) (r:Option Nat) (A:List Sym),j+k=4/\k<=x.right.length/\A=(x.right.take k).map (jy n)/\d=⟨bw [(2,bV known),(3,.v (.pointer (some ⟨N,0,none⟩))),(4,.v (.pointer (some ⟨N+1,0,none⟩))),(6,.v (.pointer (some ⟨N+2,0,none⟩))),(7,iV n),(8,.v (.pointer (some ⟨N+4,0,none⟩))),(9,iV (A.countP (·.tok):Nat)),(10,bV (A.all λs=>s.tok||decide (lf<s.idx))),(11,iV k)],109,[],
  cA M ([(N,.row g.e true 0),(N+1,.row x.e true 0),(N+2,.row eX true 0),(N+4,.row (jX pn lf (gv r k) (bg true)) true 0)]++gh r 2 (A.map Sym.e).flatten)⟩/\N+5<=M/\(r=none->k=0)/\∀q,r=some q->0<k/\N+5<=q/\q<M:=⟨_,λ_ _=>Iff.rfl⟩
 refine bM I 4 ⟨_,aB.mk (N:=M) ai ?_ ?_,(hI _ _).2 ⟨0,M,none,[],rfl,afk _,rfl,rfl,bs,λ_=>rfl,λ_ h=>(by cases h)⟩⟩ ?_
 . simp[go_sem]
 . simp(disch:=omega)[go_sem,aj.e,Ln.e,eX,jX,bg]
 . intro j d hd;obtain⟨k,M,r,A,hj,bE,hA,rfl,hM,aX,aY⟩:=(hI _ _).1 hd;clear hd;have aZ:∀b∈x.right,0<=b/\b<256:=hx.right;have aO:N+4<M:=aa;have az:A.length=k:=by rw[hA];simp;omega
   have bt:A.countP (·.tok)<=4:=afd List.countP_le_length aa;have hlen:(A.map Sym.e).flatten.length=k*2:=by
    rw[fi (k:=2) (by intro y hy;obtain⟨z,_,rfl⟩:=yx.1 hy;rfl)];simp[az]
   by_cases hk:k<x.right.length/\k<4
   . obtain⟨bu,bG⟩:=hk;have ab:(k:Int)<x.right.length:=aa;have ad:(k:Int)<4:=aa;obtain⟨b,hb⟩:∃b,x.right[k]? =some b:=⟨_,Fj bu⟩;obtain⟨bH,bI⟩:=aZ b (afi hb);have aE:A++[jy n b]=(x.right.take (k+1)).map (jy n):=by rw[afl,hb,hA];simp
     simp(disch:=omega)[go_sem,Ln.e,ab,ad,hb,dw,aG,-getElem?_pos];refine nS.mk _ _ (λht=> ?_) (λht=> ?_)
     . have hs:jy n b=⟨true,b%14⟩:=by simp[jy,ht]
       refine aL ?_;refine jU [jW 0,dq 1,ae 0,aT 4,cN 12,aT 31,ae 63,aT 127] an 1 rfl M (by simp[go_sem]) ?_;simp(disch:=omega)[go_sem,jX,aO];refine au.mk (Gu (b%14)) λM2=>aR λba=> ?_;cases r with
       |none=>
        obtain rfl:k=0:=aX rfl;obtain rfl:A=[]:=Ey az;simp(disch:=omega)[go_sem,oU,aG];refine⟨j-1,aa,_,aB.mk (N:=M2+1) ?_ ?_ ?_,(hI _ _).2 ⟨1,M2+1,some M2,_,aa,aa,aE,rfl,aa,λh=>(by cases h),λq h=>(by cases h;omega)⟩⟩
        . simp[go_sem]
        . simp[go_sem,hs]
        . simp(disch:=omega)[go_sem,aj.e,Ln.e,eX,jX,bg,hs,Sym.e]
       |some q=>
        obtain⟨bd,bf,bk⟩:=aY q rfl;refine aL ?_;refine kC (cs:=(A.map Sym.e).flatten) ai hlen aA aA (by simp[go_sem]) aa ?_;simp(disch:=omega)[go_sem,aG];refine⟨j-1,aa,_,aB.mk (N:=M2+1) ?_ ?_ ?_,(hI _ _).2 ⟨k+1,M2+1,some M2,_,aa,aa,aE,rfl,aa,λh=>(by cases h),λq h=>(by cases h;omega)⟩⟩
        . simp[go_sem]
        . simp[go_sem,hs]
        . simp(disch:=omega)[go_sem,aj.e,Ln.e,eX,jX,bg,hs,Sym.e]
     . have hs:jy n b=⟨false,(b%14-9)%n⟩:=by simp[jy,ht]
       have bJ:0<n:=aa;have bL:0<=(b%14-9)%n:=YN _ ao;refine aL ?_;refine jU [jW 0,dq 1,ae 0,ae 4,ae 0,ae 28,aT 60,cN 124,aT 255,ae 511,aT 1023] an 1 rfl M (by simp[go_sem]) ?_;simp(disch:=omega)[go_sem,jX,aO,dw,aG,ao];refine au.mk (Xq ((b%14-9)%n)) λM2=>aR λba=> ?_;cases r with
       |none=>
        obtain rfl:k=0:=aX rfl;obtain rfl:A=[]:=Ey az;simp(disch:=omega)[go_sem,oU,aG];refine jU [ae 0,ae 1,ae 3,ae 7,ae 3,ae 31,ae 3,aC 67,ae 255,ae 511,ae 1023] an 0 rfl (M2+1) (by simp[go_sem]) ?_;simp(disch:=omega)[go_sem,dw,aG,ao];refine⟨j-1,aa,_,aB.mk (N:=M2+1) ?_ ?_ ?_,(hI _ _).2 ⟨1,M2+1,some M2,_,aa,aa,aE,rfl,aa,λh=>(by cases h),λq h=>(by cases h;omega)⟩⟩
        . simp[go_sem]
        . simp[go_sem,hs]
        . simp(disch:=omega)[go_sem,aj.e,Ln.e,eX,jX,bg,hs,Sym.e]
       |some q=>
        obtain⟨bd,bf,bk⟩:=aY q rfl;refine aL ?_;refine kC (cs:=(A.map Sym.e).flatten) ai hlen aA aA (by simp[go_sem]) aa ?_;simp(disch:=omega)[go_sem,aG];refine jU [ae 0,ae 1,ae 3,ae 7,ae 3,ae 31,ae 3,aC 67,ae 255,ae 511,ae 1023] an 0 rfl (M2+1) (by simp[go_sem]) ?_;cases ah:(A.all λs=>s.tok||decide (lf<s.idx))with
        |true=>
         simp(disch:=omega)[go_sem,dw,aG,ao,ah];refine⟨j-1,aa,_,aB.mk (N:=M2+1) ?_ ?_ ?_,(hI _ _).2 ⟨k+1,M2+1,some M2,_,aa,aa,aE,rfl,aa,λh=>(by cases h),λq h=>(by cases h;omega)⟩⟩
         . simp[go_sem]
         . simp[go_sem,hs,ah]
         . simp(disch:=omega)[go_sem,aj.e,Ln.e,eX,jX,bg,hs,Sym.e]
        |false=>
         simp(disch:=omega)[go_sem,dw,aG,ao,ah];refine⟨j-1,aa,_,aB.mk (N:=M2+1) ?_ ?_ ?_,(hI _ _).2 ⟨k+1,M2+1,some M2,_,aa,aa,aE,rfl,aa,λh=>(by cases h),λq h=>(by cases h;omega)⟩⟩
         . simp[go_sem]
         . simp[go_sem,hs,ah]
         . simp(disch:=omega)[go_sem,aj.e,Ln.e,eX,jX,bg,hs,Sym.e]
   . have bl:A=(x.right.take 4).map (jy n):=by
      rw[hA];rcases afn k x.right.length with h|h
      . rw[show k=4 by omega]
      . rw[afm h,afm aa]
     have aH:A.any (·.tok)=decide (A.countP (·.tok)≠0):=by
      cases h:A.any (·.tok)with
      |true=>
       obtain⟨a,h1,h2⟩:=afA.1 h;have:0<A.countP (·.tok):=afB.2 ⟨a,h1,h2⟩;exact(decide_eq_true aa).symm
      |false=>
       symm;apply decide_eq_false
       intro h3;obtain⟨a,h1,h2⟩:=afB.1 (Nat.pos_of_ne_zero h3);rw[afA.2 ⟨a,h1,h2⟩]at h;cases h
     have hw:gm dg g x known=if A.countP (·.tok)=0/\(known=true\/(A.all λs=>s.tok||decide (lf<s.idx))=false)then g else{g with aq:=g.aq++[mark pn lf A (dg x.cond g.conds.length) x.mark]}:=by
      simp only[gm];rw[bn,bq,bo,<-bl,aH];simp
     rw[hw]at hR;clear hw aH bl hA;generalize A.countP (·.tok)=cn at*;generalize (A.all λs=>s.tok||decide (lf<s.idx))=al at*;have bN:((cn:Int)=0)=(cn=0):=propext ⟨λh=>aa,λh=>aa⟩;have aP:0<=x.cond/\x.cond<256:=hx.cond;have aS:0<=x.mark/\x.mark<256:=hx.mark;by_cases hg:cn=0/\(known=true\/al=false)
     . rw[if_pos hg]at hR;obtain⟨rfl,hg⟩:=hg;rcases afn k x.right.length with h|h
       . have ab:(k:Int)<x.right.length:=aa;have ad:¬(k:Int)<4:=aa;rcases hg with rfl|rfl<;>(try cases known)<;>simp(disch:=omega)[go_sem,Ln.e,eX,ab,ad,aj.e,hR,-getElem?_pos]
       . have ab:¬(k:Int)<x.right.length:=aa;rcases hg with rfl|rfl<;>(try cases known)<;>simp(disch:=omega)[go_sem,Ln.e,eX,ab,aj.e,hR,-getElem?_pos]
     . rw[if_neg hg]at hR;have h3:cn≠0\/(cn=0/\known=false/\al=true):=by
        by_cases h1:cn=0
        . cases bz:known<;>cases bB:al<;>simp[h1,bz,bB]at hg⊢
        . exact .inl h1
       cases r with
       |none=>
        obtain rfl:k=0:=aX rfl;obtain rfl:A=[]:=Ey az;have bm:x.right=[]:=Ey aa;rcases h3 with h3|⟨rfl,rfl,rfl⟩
        all_goals first
         |simp(disch:=omega)[go_sem,Ln.e,eX,aj.e,bm,h3,-getElem?_pos]
         |simp(disch:=omega)[go_sem,Ln.e,eX,aj.e,bm,-getElem?_pos]
        all_goals (
         refine au.mk (av x.cond g.conds.length aP.1 aP.2 hc) λM2=>aR λba=> ?_;have aO:N+4<M2:=aa;simp(disch:=omega)[go_sem,jX,Dg.e];refine au.fz (Gw pn lf [] (dg x.cond g.conds.length) x.mark aw aS.1 aS.2) [] ?_ ?_ λM3 aJ=> ?_
         . simp
         . simp(disch:=omega)[go_sem,aK.e,bF,iS,Dg.e]
         replace aJ:=cr aJ;generalize mark pn lf [] (dg x.cond g.conds.length) x.mark=m at*;have af:N+4<M3:=aa;simp(disch:=omega)[go_sem,aK.e];refine jU [cN 0,ae 0,aC 2,aT 7,dq 0,cN 16,aT 63,ae 127,aT 255] an 2 rfl M3 ai ?_;have bb:(g.aq.map aK.e).flatten.length=g.aq.length*13:=by
          rw[fi (k:=13) (by intro y hy;obtain⟨z,_,rfl⟩:=yx.1 hy;rfl)];simp
         by_cases dO:g.aq.length=0
         . have aM:g.aq=[]:=Ey dO;simp(disch:=omega)[go_sem,aM,mi,af];refine gb (wr:=true) (cs:=[]) ai aw aa aa ?_;simp(disch:=omega)[go_sem,hR,aM,aj.e,aK.e];refine dW (cu (wr:=true) (ak:=13) ?_) (.inr rfl) aA ?_ ?_ ?_
           . exact ai
           all_goals simp[aK.e]
         . refine aL ?_;refine gb (wr:=true) (cs:=[]) ai aw aa aa ?_;simp(disch:=omega)[go_sem,af];refine kC (cs:=(g.aq.map aK.e).flatten) ai bb aA aA (by simp[go_sem]) aa ?_;simp(disch:=omega)[go_sem,hR,aj.e,aK.e];refine dW (cu (wr:=true) (ak:=13) ai) (.inr rfl) aA aw aw ?_
           . intro y hy;simp only[HT,yx,Q0]at hy;rcases hy with⟨z,_,rfl⟩|rfl<;>rfl)
       |some q=>
        obtain⟨bd,bf,bk⟩:=aY q rfl;have bc:((k:Int)<x.right.length/\¬(k:Int)<4)\/(¬(k:Int)<x.right.length/\True):=by
         by_cases h1:(k:Int)<x.right.length
         . exact .inl ⟨h1,aa⟩
         . exact .inr ⟨h1,trivial⟩
        rcases bc with⟨ab,ad⟩|⟨ab,ad⟩<;>rcases h3 with h3|⟨rfl,rfl,rfl⟩
        all_goals first
         |simp(disch:=omega)[go_sem,Ln.e,eX,aj.e,ab,ad,h3,-getElem?_pos]
         |simp(disch:=omega)[go_sem,Ln.e,eX,aj.e,ab,ad,-getElem?_pos]
        all_goals (
         refine au.mk (av x.cond g.conds.length aP.1 aP.2 hc) λM2=>aR λba=> ?_;have aO:N+4<M2:=aa;simp(disch:=omega)[go_sem,jX,Dg.e];refine au.fz (Gw pn lf A (dg x.cond g.conds.length) x.mark aa aS.1 aS.2) [q] ?_ ?_ λM3 aJ=> ?_
         . exact ai
         . simp(disch:=omega)[go_sem,aK.e,bF,iS,Dg.e];exact dW (fq (wr:=true) aw ai) (.inr rfl) aA (by simp[az]) (oY _) (by simp[Sym.e])
         replace aJ:=cr aJ;generalize mark pn lf A (dg x.cond g.conds.length) x.mark=m at*;have af:N+4<M3:=aa;simp(disch:=omega)[go_sem,aK.e];refine jU [cN 0,ae 0,aC 2,aT 7,dq 0,cN 16,aT 63,ae 127,aT 255] an 2 rfl M3 ai ?_;have bb:(g.aq.map aK.e).flatten.length=g.aq.length*13:=by
          rw[fi (k:=13) (by intro y hy;obtain⟨z,_,rfl⟩:=yx.1 hy;rfl)];simp
         by_cases dO:g.aq.length=0
         . have aM:g.aq=[]:=Ey dO;simp(disch:=omega)[go_sem,aM,mi,af];refine gb (wr:=true) (cs:=[]) ai aw aa aa ?_;simp(disch:=omega)[go_sem,hR,aM,aj.e,aK.e];refine dW (cu (wr:=true) (ak:=13) ?_) (.inr rfl) aA ?_ ?_ ?_
           . exact ai
           all_goals simp[aK.e]
         . refine aL ?_;refine gb (wr:=true) (cs:=[]) ai aw aa aa ?_;simp(disch:=omega)[go_sem,af];refine kC (cs:=(g.aq.map aK.e).flatten) ai bb aA aA (by simp[go_sem]) aa ?_;simp(disch:=omega)[go_sem,hR,aj.e,aK.e];refine dW (cu (wr:=true) (ak:=13) ai) (.inr rfl) aA aw aw ?_
           . intro y hy;simp only[HT,yx,Q0]at hy;rcases hy with⟨z,_,rfl⟩|rfl<;>rfl)
end Go.Sp
end
noncomputable section
open Go Go.aD Go.Proofs
namespace Go.Sp
structure eg(g:aj)(r:Nat):Prop where
 aq:0<g.aq.length
 aI:0<g.aI.length/\g.aI.length<=3
 conds:g.conds.length<=3
 bx:g.bx.length<=3+r
 bj:g.bj.length<=3+r
 aF:g.aF.length=11
 mr:∀l∈g.bj,l.aq.length<=4096
 ord:∀i x,i<9->g.aF[i]? =some x->x.cls=0/\(x.lit=⟨#[]⟩↔i=0)
def eg.ok{g:aj}{r:Nat}(h:eg g r)(hr:r<=6):sr g:=
 ⟨h.aq,h.aI.1,h.conds,by have:=h.bx;omega,by have:=h.bj;omega,by have:=h.aF;omega,h.mr,by have:=h.aF;omega,h.ord⟩
def eg.er{g:aj}{r:Nat}(h:eg g r)(f:bl):eg (er g f) (r+1):=
 ⟨h.aq,h.aI,h.conds,by have:=h.bx;simp[Go.Sp.er];omega,by have:=h.bj;simp[Go.Sp.er];omega,h.aF,h.mr,h.ord⟩
def eg.more{g:aj}{r:Nat}(h:eg g r):eg g (r+1):=
 ⟨h.aq,h.aI,h.conds,by have:=h.bx;omega,by have:=h.bj;omega,h.aF,h.mr,h.ord⟩
def eg.j5{g:aj}{r:Nat}(h:eg g r)(k:Nat)(d:Dg):eg (j5 g k d) (r+1):=by
 refine⟨h.aq,h.aI,h.conds,h.more.bx,h.more.bj,by simp[Go.Sp.j5,h.aF],h.mr,λi x hi hx=> ?_⟩;simp only[Go.Sp.j5,List.getElem?_modify]at hx;cases hy:g.aF[i]? with
 |none=>rw[hy]at hx;cases hx
 |some y=>
  rw[hy]at hx;have:=h.ord i y hi hy
  split at hx<;>cases hx<;>exact this
def eg.level{g:aj}{r:Nat}(h:eg g r)(a b c:Int)(d:Dg):eg (kF g a b c d) (r+1):=by
 unfold kF
 split
 . exact h.more
 . refine⟨h.aq,h.aI,h.conds,h.more.bx,by have:=h.bj;simp;omega,h.aF,λl hl=> ?_,h.ord⟩;rcases HT.1 hl with hl|hl
   . exact h.mr l hl
   . obtain rfl:=Q0.1 hl;simp only
     split<;>simp
def eg.Cn{g:aj}{r:Nat}(h:eg g r)(sm:Int->Nat->Dg)(x:Rl):eg (jx sm g x) (r+1):=by
 unfold jx;simp only
 split
 . exact h.level ..
 split
 . split
   . exact h.er _
   . exact h.more
 split
 . exact h.er _
 split
 . exact h.er _
 . exact h.j5 _ _
def eg.line{g:aj}{r:Nat}(h:eg g r)(sm:Int->Nat->Dg)(x:Ln)(known:Bool):eg (gm sm g x known) r:=by
 unfold gm;simp only
 split
 . exact h
 . exact⟨aw,h.aI,h.conds,h.bx,h.bj,h.aF,h.mr,h.ord⟩
def YH(sm:Int->Nat->Dg)(g:aj)(x:Ln)(known:Bool):(gm sm g x known).aq.length<=g.aq.length+1:=by
 unfold gm;simp only
 split
 . omega
 . simp
structure cK where
 base:Int
 n:Int
 family:List Int
 lines:List Ln
 rules:List Rl
def cK.e(x:cK):List DV:=[uV x.base,uV x.n,.sl 1 (x.family.map λb=>[uV b]),.sl 4 (x.lines.map Ln.e),.sl 5 (x.rules.map Rl.e)]
structure cK.Ok(x:cK):Prop where
 base:0<=x.base/\x.base<256
 n:0<=x.n/\x.n<256
 family:∀b∈x.family,0<=b/\b<256
 lines:∀l∈x.lines,l.Ok
 rules:∀l∈x.rules,l.Ok
def uj:List ByteArray:=[⟨#[83]⟩,⟨#[80]⟩,⟨#[81]⟩]
def n8:List ByteArray:=[⟨#[65]⟩,⟨#[66]⟩,⟨#[67]⟩]
def jA(x:cK):aj:=
 if x.base%8<6 then ie (x.base%8)
 else⟨n8.take (x.n%4).toNat,bg true,aF,uj.take (1+(x.n/4)%3).toNat,[bF ⟨#[102,105,114,115,116]⟩ 0 [⟨true,0⟩] (bg true)],0,[],[]⟩
def iY(md:List Int->Nat->Dg)(x:cK)(g:aj):aj:=
 let d:=md x.family g.conds.length
 if 0<x.family.length/\d.root≠0 then{g with family:=d}else g
def ig(md:List Int->Nat->Dg)(x:cK):aj:=
 let known:=decide (x.base%8<6)
 let g:=iY md x (jA x)
 let g:=(x.lines.take (if known then 6 else 10)).foldl (λg l=>gm (dg md) g l known) g
 (x.rules.take 6).foldl (jx (dg md)) g
def HN:∀i x,i<9->aF[i]? =some x->x.cls=0/\(x.lit=⟨#[]⟩↔i=0):=by
 intro i x hi hx;have:i=0\/i=1\/i=2\/i=3\/i=4\/i=5\/i=6\/i=7\/i=8:=aa;rcases this with rfl|rfl|rfl|rfl|rfl|rfl|rfl|rfl|rfl<;>(simp[aF,lits]at hx;subst hx;simp[kE,nT])
theorem HO:aF.length=11:=rfl
def eg.of{g:aj}(h1:0<g.aq.length)(h2:0<g.aI.length/\g.aI.length<=3)(h3:g.conds.length<=3)(h4:g.bx.length<=3)(h5:g.bj.length<=3)(h6:g.aF=Go.Sp.aF)(h7:∀l∈g.bj,l.aq.length<=4096):eg g 0:=
 ⟨h1,h2,h3,h4,h5,by rw[h6];exact HO,h7,by rw[h6];exact HN⟩
def YI(b:Int):eg (ie b) 0/\(ie b).aq.length<=10:=by
 unfold ie
 repeat' split
 all_goals (refine⟨eg.of ?_ ?_ ?_ ?_ ?_ rfl ?_, ?_⟩<;>simp[HB,HC,HD,HE,HF,HG])
def HP(x:cK)(hx:x.Ok):eg (jA x) 0/\(jA x).aq.length<=10:=by
 unfold jA
 split
 . exact YI _
 . have:=hx.n;refine⟨eg.of aw ?_ ?_ aw aw rfl aw,aw⟩
   . simp[uj];omega
   . simp[n8];omega
def eg.cO{g:aj}{r:Nat}(h:eg g r)(md:List Int->Nat->Dg)(x:cK):eg (iY md x g) r/\(iY md x g).aq.length=g.aq.length:=by
 unfold iY;simp only
 split
 . exact⟨⟨h.aq,h.aI,h.conds,h.bx,h.bj,h.aF,h.mr,h.ord⟩,rfl⟩
 . exact⟨h,rfl⟩
def YJ{h:ah}{ty:TypeId}{b n c s ak:Nat}{cs:List DV}{wr:Bool}{k:IntKind}{z:Int}(hs:E.elem ty=some s)(hg:h.get b=some (.row cs wr ak))(he:ak=0\/ak=s)(h0:0<=z)(h1:z<=c):
 ed E h ty (some (.v (.slice (some ⟨b,0,none⟩) n c))) (some none) (some (some (.v (.int k z)))) (some none)=some (.v (.slice (some ⟨b,0,none⟩) z.toNat c)):=by
 have h2:z.toNat<=c:=aa;simp[ed,fQ,fX,jQ,dU,hs,hg,he,h0,h1,h2]
def Co{h:ah}{ty:TypeId}{b n c s ak:Nat}{cs:List DV}{wr:Bool}{k:IntKind}{z:Int}{K:DV->Prop}(hs:E.elem ty=some s)(hg:h.get b=some (.row cs wr ak))(he:ak=0\/ak=s)(h0:0<=z)(h1:z<=c)(hk:K (.v (.slice (some ⟨b,0,none⟩) z.toNat c))):
 aN (ed E h ty (some (.v (.slice (some ⟨b,0,none⟩) n c))) (some none) (some (some (.v (.int k z)))) (some none)) K:=⟨_,YJ hs hg he h0 h1,hk⟩
def YK{S:fB}{r n c k ak:Nat}{xs:List (List DV)}(hr:S r=some (xs.flatten,ak))(he:ak=0\/ak=k)(hk:0<k)(hn:n<=xs.length)(hc:n<=c)(hx:∀x∈xs,x.length=k):Fz S (.v (.slice (some ⟨r,0,none⟩) n c)) (.sl k (xs.take n)):=by
 have hl:(xs.take n).length=n:=by rw[afw];omega
 refine .sl hr he hk hl.symm hc (λx h=>hx x (List.mem_of_mem_take h)) ?_ λj x i v d h1 h2 h3=> ?_
 . rw[hl,fi hx,Yt];exact Nat.mul_le_mul_right _ hn
 . have h4:xs[j]? =some x:=by
    rw[aft]at h1
    split at h1
    . exact h1
    . cases h1
   have:=sc j i x d hx h4 h2;rw[Yt,this]at h3;cases h3;exact .refl _
def HQ{S:fB}{α:Type}{r n c k ak:Nat}{f:α->List DV}{l:List α}(hk:0<k)(hn:n<=l.length)(hc:n<=c)(hx:∀x,(f x).length=k)(he:ak=0\/ak=k)(hr:S r=some ((l.map f).flatten,ak)):Fz S (.v (.slice (some ⟨r,0,none⟩) n c)) (.sl k ((l.take n).map f)):=by
 rw[List.map_take];exact YK hr he hk (by simpa using hn) hc (λx h=>by obtain⟨y,_,rfl⟩:=yx.1 h;exact hx y)
end Go.Sp
end
noncomputable section
open Go Go.aD Go.Proofs
namespace Go.aD
variable {e:Env} {ar:Bool}
def WD.split(he:e.Ok)(af:e.P.follows .mixedOrders=true){a b:Code}{d:DS}{K:bu->DS->Prop}(h:RD e ar a d λx s1=>match x with|.normal=>∃d',aB s1 d'/\WD e ar b d' K|x=>K x s1):WD e ar (.seq a b) d K:=by
 intro G s hs;refine WQ.seq ((RD.wd he af a d _ h G s hs).mono λx s1 ⟨d1,G1,q1,q2,q3⟩=> ?_);cases x with
 |normal=>
  obtain⟨d',h1,h2⟩:=q3;obtain⟨G2,q4,q5⟩:=h1 G1 s1 q1;exact(h2 G2 s1 q4).mono λ_ _=>kT.up (q2.trans q5)
 |exit i=>exact⟨d1,G1,q1,q2,q3⟩
 |ret=>exact⟨d1,G1,q1,q2,q3⟩
variable {G:Nat->Prop} {h:ab} {dh:ah} {R:Rows}
def cJ.YL(he:e.Ok)(af:e.P.follows .mixedOrders=true)(ae:Idle e){f:FuncId}{fn:Func}{c:Code}{aa:List DV}{K:DV->ah->Prop}(ai:e.fn f=some fn)(hb:fn.body=some c){n:Nat}(hn:fn.ntmps=n){rs:List ResultVar}(aj:fn.results=rs.toArray)
 (hq:WD e ar c ⟨gD aa,aa.length+(n-aa.length),[],dh⟩ (ib e rs K)) (G:Nat->Prop) (h:ab) (args:List Value) (x:bP G h dh) (ha:cj (aP h G) args aa):
 match ar with
 |true=>∃v h',bU e f args h v h'/\∃d ad G',bP G' h' ad/\Kp G h dh G' h' ad/\Rel (aP h' G') v d/\K d ad
 |false=>fm e f args h λv h'=>∃d ad G',bP G' h' ad/\Kp G h dh G' h' ad/\Rel (aP h' G') v d/\K d ad:=by
 subst hn;have hlen:args.length=aa.length:=ha.length;have hs:SD G ⟨gQ args,args.length+(fn.ntmps-args.length),[],h⟩ ⟨gD aa,aa.length+(fn.ntmps-aa.length),[],dh⟩:=⟨by simp only[hlen],(FV x.e9 ha).all,.nil,x⟩;have key:=hq G _ hs;have fin:∀x s',kT G h dh (ib e rs K) x s'->oK e fn.results.toList (λv h'=>∃d ad G',bP G' h' ad/\Kp G h dh G' h' ad/\Rel (aP h' G') v d/\K d ad) x s':=by
  rintro x s' ⟨d',G',q1,q2,q3,q4,l,q5,q6⟩;obtain⟨vs,q7,q8⟩:=Bc q1 q5;refine⟨q3,s'.h,vs,Bd q1.dd q4,by rw[aj];exact q7,jS l,d'.h,G',q1.h,q2,FT q8,q6⟩
 cases ar with
 |false=>exact fm.of he ae ai hb (WR.mono key fin)
 |true=>
  obtain⟨x,s',h1,h2⟩:=key;obtain⟨h3,h4,vs,h5,h6,h7⟩:=fin x s' h2;refine⟨jM vs,h4, ?_,h7⟩;have:=zW he ae (Ai h1) f args h (jM vs) h4 (by
   unfold pX;simp only[ai,hb];have:p9 c {t:=gQ args,n:=args.length+(fn.ntmps-args.length),ds:=[],h} x s' none c {t:=gQ args,n:=args.length+(fn.ntmps-args.length),ds:=[],h}=some (x,s'):=by
    unfold p9;rw[if_pos ⟨rfl,rfl,rfl⟩]
   rw[this];cases x with
   |exit i=>exact absurd rfl (h3 i)
   |normal=>
    simp only[h5,h6]
    match vs with
    |[]=>rfl
    |[v]=>rfl
    |_::_::_=>rfl
   |ret=>
    simp only[h5,h6]
    match vs with
    |[]=>rfl
    |[v]=>rfl
    |_::_::_=>rfl)
  exact this
def ay.YM(he:e.Ok)(af:e.P.follows .mixedOrders=true)(ae:Idle e){f:FuncId}{fn:Func}{c:Code}{aa:List DV}{dv:DV}(ai:e.fn f=some fn)(hb:fn.body=some c){n:Nat}(hn:fn.ntmps=n){rs:List ResultVar}(aj:fn.results=rs.toArray)
 (hq:∀N,WD e ar c ⟨gD aa,aa.length+(n-aa.length),[],ah.none N⟩ (ib e rs λd h=>Fz (allRows h) d dv)):ay e ar f aa dv:=by
 intro G h args hG ha;have x:bP G h (ah.none h.next):=⟨hG.2,rfl,λi o ho=>(by rw[ah.get_none]at ho;cases ho),λi hi=>⟨hG.1 i hi,ah.get_none _ _⟩⟩;have key:=cJ.YL he af ae ai hb hn aj (hq h.next) G h args x ha;have fin:∀v h',(∃d ad G',bP G' h' ad/\Kp G h (ah.none h.next) G' h' ad/\Rel (aP h' G') v d/\Fz (allRows ad) d dv)->nR G h dv v h':=by
  rintro v h' ⟨d,ad,G',q1,q2,q3,q4⟩;refine⟨q2.next,λi hi=>(q2.same i hi (ah.get_none _ _)).1,Rel.fz (G':=qu G h h') q1 (λi cs ak hr=> ?_) (λi hg=> ?_) q4 q3⟩
  . unfold allRows at hr
    split at hr
    . rename_i cs' wr an hg;cases hr;refine⟨.inr ⟨?_,(q1.obj _ _ hg).1⟩,wr,hg⟩;rcases afn i h.next with hi|hi
      . rw[(q2.same i hi (ah.get_none _ _)).2]at hg;cases hg
      . exact hi
    . cases hr
  . rcases afn i h.next with hi|hi
    . rcases q2.bp i hi hg with h1|h1
      . exact .inl h1
      . rw[ah.get_none]at h1;cases h1
    . exact .inr ⟨hi,(q1.still i hg).1⟩
 cases ar with
 |true=>obtain⟨v,h',h1,h2⟩:=key;exact⟨v,h',h1,fin v h' h2⟩
 |false=>exact fm.mono key fin
def WD.cut(he:e.Ok)(af:e.P.follows .mixedOrders=true){a b:Code}{d:DS}{K:bu->DS->Prop}(Inv:DS->Prop)(h:RD e ar a d λx s1=>match x with|.normal=>∃d',aB s1 d'/\Inv d'|x=>K x s1)(h2:∀d',Inv d'->WD e ar b d' K):WD e ar (.seq a b) d K:=by
 intro G s hs;refine WQ.seq ((RD.wd he af a d _ h G s hs).mono λx s1 ⟨d1,G1,q1,q2,q3⟩=> ?_);cases x with
 |normal=>
  obtain⟨d',h1,h3⟩:=q3;obtain⟨G2,q4,q5⟩:=h1 G1 s1 q1;exact(h2 d' h3 G2 s1 q4).mono λ_ _=>kT.up (q2.trans q5)
 |exit i=>exact⟨d1,G1,q1,q2,q3⟩
 |ret=>exact⟨d1,G1,q1,q2,q3⟩
end Go.aD
namespace Go.Sp
def Cp{f:FuncId}{fn:Func}{c:Code}{aa:List DV}{dv:DV}{n:Nat}(hn:fn.ntmps=n){rs:List ResultVar}(aj:fn.results=rs.toArray)
 (hq:∀N,WD E true c ⟨gD aa,aa.length+(n-aa.length),[],ah.none N⟩ (ib E rs λd h=>Fz (allRows h) d dv)) (ai:E.fn f=some fn:=by kernel_rfl) (hb:fn.body=some c:=by rfl):ay E true f aa dv:=ay.YM (jj []) ko (qf []) ai hb hn aj hq
def HR{a b:Code}{d:DS}{K:bu->DS->Prop}(h:RD E true a d λx s1=>match x with|.normal=>∃d',aB s1 d'/\WD E true b d' K|x=>K x s1):WD E true (.seq a b) d K:=WD.split (jj []) ko h
def j6{c:Code}{d:DS}{K:bu->DS->Prop}(h:RD E true c d K):WD E true c d K:=RD.wd (jj []) ko c d K h
def nc{a b:Code}{d:DS}{K:bu->DS->Prop}(Inv:DS->Prop)(h:RD E true a d λx s1=>match x with|.normal=>∃d',aB s1 d'/\Inv d'|x=>K x s1)(h2:∀d',Inv d'->WD E true b d' K):WD E true (.seq a b) d K:=WD.cut (jj []) ko Inv h h2
def n9{a b:Code}{d:DS}{K:bu->DS->Prop}(h:RD E true a d λx s1=>match x with|.normal=>WD E true b s1 K|x=>K x s1):WD E true (.seq a b) d K:=by
 intro G s hs;refine WQ.seq ((RD.wd (jj []) ko a d _ h G s hs).mono λx s1 ⟨d1,G1,q1,q2,q3⟩=> ?_);cases x with
 |normal=>exact(q3 G1 s1 q1).mono λ_ _=>kT.up q2
 |exit i=>exact⟨d1,G1,q1,q2,q3⟩
 |ret=>exact⟨d1,G1,q1,q2,q3⟩
end Go.Sp
end
noncomputable section
open Go Go.aD Go.Proofs
namespace Go.Sp
def ZZ:Cl:=by
 have h:∀c∈WZ 64,ay E true 172 [.agg (vr (c:Int)).e] (.agg (tW (c:Int)).e):=bW an;intro v h0 h1;have:=h v.toNat (by simp;omega);rwa[Int.toNat_of_nonneg h0]at this
end Go.Sp
end

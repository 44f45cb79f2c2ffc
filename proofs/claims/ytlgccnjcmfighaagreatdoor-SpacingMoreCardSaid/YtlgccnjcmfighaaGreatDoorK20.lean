/- Parts of a proof. -/
import Derived.Test.YtlgccnjcmfighaaGreatDoorK19
open List renaming mem_of_getElem?->qG,length_map->yy,getElem?_eq_some_iff->FQ,getElem?_eq_getElem->KE,length_append->RC,mem_map->RK,map_append->Vs,mem_cons->Xy,not_mem_nil->YN,all_eq_true->YT,replicate->Zf,getElem?_map->ab8,map_cons->adr,mem_append->adv,drop_eq_nil_of_le->afv,flatten_cons->afw,range->afx,drop_eq_getElem_cons->afA,append_nil->afB,nil_append->afC,flatten_append->afD,any_map->afE,mem_singleton->afG,append_assoc->afH,take_of_length_le->afI,getElem?_append_left->afJ,getElem?_append_right->afK,length_filter_le->afL,range_succ->afM,nodup_nil->afP,map_nil->afQ,length_take->afR,length_modify->afS,take->afT,drop->afU,filter_append->afW,cons_append->afX,foldl_cons->afY,length_cons->afZ,ext_getElem?->af0,drop_zero->af1,take_append_drop->af3,take_append->af4,drop_append->af6,getElem?_modify->af7,flatMap_append->af8
open BitVec renaming ofInt->yB
open Nat renaming le_refl->E2,ne_of_lt->afz,mul_one->afF,lt_or_ge->afN,sub_self->afO,add_sub_cancel_left->af5
open Iff renaming rfl->RW
open Bool renaming false_eq_true->afj,and_eq_true->afV
open ByteArray renaming size_append->afy
open Int renaming toNat_of_nonneg->af2
open Option renaming getD_some->af9
set_option linter.all false
set_option maxRecDepth 100000
noncomputable section
open Go Go.aD Go.Proofs
namespace Go.Sp
def DL(p:List bd)(i:Nat)(s:ByteArray)(l l1 l2:List Int)(x:bd)(hx:p[i]? =some x)(hk:x.kind=2)
 (h1:aE E true 67 [.sl 5 (p.map bd.e),iV x.a,sV s,ints l] (ints l1)) (h2:aE E true 67 [.sl 5 (p.map bd.e),iV x.b,sV s,ints l1] (ints l2)):
 aE E true 67 [.sl 5 (p.map bd.e),iV (i:Nat),sV s,ints l] (ints l2):=by
 have hi:=(FQ.1 hx).1;obtain⟨R,hR⟩:∃R,R=ints l2:=⟨_,rfl⟩;rw[<-hR]at h2⊢;refine bc Tryz.ntmps67 Tryz.results67 λN=> ?_;simp(disch:=omega)[go_sem,hx,-getElem?_pos,bd.e,hk];refine bZ [ai 0,lr 0,dC 2,ai 0,ai 0,ai 0,aK 32,ai 0,ai 0,aU 496,aU 1023,ai 2047] ak 0 rfl ?_;simp(disch:=omega)[go_sem,hx,-getElem?_pos,bd.e,hk];refine ax.mk h1 λM=>dI λhM=> ?_;refine ax.mk h2 λM2=>aT λaa=> ?_;simp(disch:=omega)[go_sem,hR]
def Kk(p:List bd)(s:ByteArray)(l:List Int)(b:Bool)(hp:0<p.length)(ae:p.length<=1000)(h1:aE E true 65 [.sl 5 (p.map bd.e)] (iV 0))(h2:aE E true 67 [.sl 5 (p.map bd.e),iV ((p.length-1:Nat):Int),sV s,ints [0]] (ints l))(h3:aE E true 66 [ints l,iV (s.size:Nat)] (bV b)):
 aE E true 33 [.sl 5 (p.map bd.e),sV s] (bV b):=by
 obtain⟨L,hL⟩:∃L,L=ints l:=⟨_,rfl⟩;rw[<-hL]at h2 h3;refine bc Tryz.ntmps33 Tryz.results33 λN=> ?_;refine aL ?_;refine ax.mk h1 λM=>aT λhM=> ?_;simp(disch:=omega)[go_sem,aG];rw[show((p.length:Int)-1)=((p.length-1:Nat):Int) by omega];refine ax.fz h2 [M] ?_ ?_ λM2 aa=> ?_
 . exact ah
 . refine aL ?_;exact dY (fA (wr:=true) (aj:=0) aw (by simp(disch:=omega)[go_sem];try rfl)) (.inl rfl) aC aw aw aw
 replace aa:=cq aa;simp(disch:=omega)[go_sem,eJ];refine ax.mk h3 λM3=>aT λaf=> ?_;exact ah
def zo:List (List bd×Int×ByteArray×List Int×List Int):=[(ib,0,⟨#[120]⟩,[0],[1]),(ib,2,⟨#[120]⟩,[1],[1]),(ib,0,⟨#[105,102]⟩,[0],[1]),(ib,2,⟨#[105,102]⟩,[1],[1,2]),
 (ib,0,⟨#[101,108,115,101]⟩,[0],[1]),(ib,2,⟨#[101,108,115,101]⟩,[1],[1,2,3,4]),(ib,0,⟨#[97,98]⟩,[0],[1]),(ib,2,⟨#[97,98]⟩,[1],[1,2]),
 (nB,0,⟨#[120,43]⟩,[0],[1]),(nB,2,⟨#[120,43]⟩,[1],[1]),(nB,4,⟨#[120,43]⟩,[1],[2])]
def adP:∀q∈zo,aE E true 67 [.sl 5 (q.1.map bd.e),iV q.2.1,sV q.2.2.1,ints q.2.2.2.1] (ints q.2.2.2.2):=bR ak
def Kl:∀m∈ep,aE E true 65 [.sl 5 (m.p.map bd.e)] (iV 0):=bR ak
def DM:List (List Int×Int):=[([1],1),([1,2],2),([1,2,3,4],4),([2],2)]
def adQ:∀q∈DM,aE E true 66 [ints q.1,iV q.2] (bV true):=bR ak
def mI:List (cN×ByteArray):=[(ir,⟨#[120]⟩),(ir,⟨#[105,102]⟩),(ir,⟨#[101,108,115,101]⟩),(ir,⟨#[97,98]⟩),(ow,⟨#[120,43]⟩)]
def wJ(i:Nat){q:List bd×Int×ByteArray×List Int×List Int}(h:zo[i]? =some q):aE E true 67 [.sl 5 (q.1.map bd.e),iV q.2.1,sV q.2.2.1,ints q.2.2.2.1] (ints q.2.2.2.2):=adP q (qG h)
def Km(i:Nat){q:List Int×Int}(h:DM[i]? =some q):aE E true 66 [ints q.1,iV q.2] (bV true):=adQ q (qG h)
def adR:∀q∈mI,aE E true 33 [.sl 5 (q.1.p.map bd.e),sV q.2] (bV true):=by
 have ab:=Kl ir (gw 0 ir rfl);have ad:=Kl ow (gw 3 ow rfl);have one:∀(s:ByteArray) (i j k:Nat) (l:List Int),zo[i]? =some (ib,0,s,[0],[1])->zo[j]? =some (ib,2,s,[1],l)->DM[k]? =some (l,((s.size:Nat):Int))->aE E true 33 [.sl 5 (ib.map bd.e),sV s] (bV true):=λs i j k l h1 h2 h3=>
  Kk ib s l true aC aC ab (DL ib 3 s [0] [1] l _ rfl rfl (wJ i h1) (wJ j h2)) (Km k h3)
 intro q hq;simp only[mI,Xy,YN,or_false]at hq;rcases hq with rfl|rfl|rfl|rfl|rfl
 . exact one _ 0 1 0 _ rfl rfl rfl
 . exact one _ 2 3 1 _ rfl rfl rfl
 . exact one _ 4 5 2 _ rfl rfl rfl
 . exact one _ 6 7 1 _ rfl rfl rfl
 . exact Kk nB ⟨#[120,43]⟩ [2] true aC aC ad (DL nB 5 ⟨#[120,43]⟩ [0] [1] [2] _ rfl rfl (DL nB 3 ⟨#[120,43]⟩ [0] [1] [1] _ rfl rfl (wJ 8 rfl) (wJ 9 rfl)) (wJ 10 rfl)) (Km 3 rfl)
def DN:∀q∈mI,aE E true 36 [.sl 5 (q.1.p.map bd.e),sV q.2] (bV true):=by
 have h:(mI.all λq=>mG q.1 q.2&&Nat.ble q.2.size 4)=true:=ak;have hm:∀q∈mI,q.1∈ep:=λq hq=>by
  simp only[mI,Xy,YN,or_false]at hq;rcases hq with rfl|rfl|rfl|rfl|rfl
  . exact gw 0 ir rfl
  . exact gw 0 ir rfl
  . exact gw 0 ir rfl
  . exact gw 0 ir rfl
  . exact gw 3 ow rfl
 intro q hq;have h2:=YT.1 h q hq;rw[afV]at h2;have:=zm q.1 (hm q hq) q.2 (by have:=Nat.le_of_ble_eq_true h2.2;omega);rw[h2.1]at this;exact this
structure Lf where
 tok:Nat
 text:ByteArray
def Lf.e(l:Lf):List DV:=[iV (-1),iV (l.tok:Nat),sV l.text,.sl 1 []]
def Lf.c(l:Lf):List DV:=[iV (-1),iV (l.tok:Nat),sV l.text,cK]
def gV(s p:ByteArray):Bool:=decide (p.size<=s.size)&&decide (s.extract 0 p.size=p)
def adS(s p:ByteArray):aE E true 138 [sV s,sV p] (bV (gV s p)):=by
 refine bc Tryz.ntmps138 Tryz.results138 λN=> ?_;by_cases h:p.size<=s.size
 . have h2:(p.size:Int)<=s.size:=aa;have hr:gV s p=decide (s.extract 0 p.size=p):=by simp[gV,h]
   rw[hr];simp(disch:=omega)[go_sem,eJ,h2,DC s p.size h]
 . have h2:¬(p.size:Int)<=s.size:=aa;have hr:gV s p=false:=by simp[gV,h]
   rw[hr];simp(disch:=omega)[go_sem,eJ,h2]
def Ko(s p:ByteArray):aE E true 80 [sV s,sV p] (bV (gV s p)):=by
 refine bc Tryz.ntmps80 Tryz.results80 λN=> ?_;refine aL ?_;refine ax.mk (adS s p) λM=>aT λhM=> ?_;exact ah
def fk:List Bool->Nat->Int
 |[],_=>-1
 |b::l,i=>if b then i else fk l (i+1)
def wK:∀(l:List Bool) (i:Nat),decide (0<=fk l i)=l.any id
 |[],i=>by simp[fk]
 |b::l,i=>by
  cases b with
  |true=>simp[fk]
  |false=>simp[fk,wK l (i+1)]
def zp{l:List Bool}{k:Nat}{b:Bool}(h:l[k]? =some b):fk (l.drop k) k=if b then(k:Int)else fk (l.drop (k+1)) (k+1):=by
 have hk:=(FQ.1 h).1;rw[afA hk,(FQ.1 h).2];rfl
def adT(l:List Int)(x:Int)(hl:l.length<=100000):aE E true 139 [ints l,iV x] (iV (fk (l.map λy=>decide (x=y)) 0)):=by
 refine bc Tryz.ntmps139 Tryz.results139 λN=> ?_;obtain⟨R,hR⟩:∃R,fk (l.map λy=>decide (x=y)) 0=R:=⟨_,rfl⟩;rw[hR];refine aL ?_;obtain⟨I,hI⟩:∃I:Nat->DS->Prop,∀j d,I j d↔∃(k P:Nat),j+k=l.length/\fk ((l.map λy=>decide (x=y)).drop k) k=R/\d=⟨bw [(0,ints l),(1,iV x),(7,iV l.length),(8,iV k)],19,[],cj P []⟩:=⟨_,λ_ _=>RW⟩;refine bS I l.length ⟨_,aB.mk (N:=N) ah ah ah,(hI _ _).2 ⟨0,N,rfl,hR,rfl⟩⟩ ?_
 . intro j ds ae;obtain⟨k,P,hj,ab,rfl⟩:=(hI _ _).1 ae;clear ae;by_cases af:k<l.length
   . have ad:(k:Int)<l.length:=aa;obtain⟨y,hy⟩:∃y,l[k]? =some y:=⟨_,KE af⟩;rw[zp (b:=decide (x=y)) (by rw[ab8,hy];rfl)]at ab;by_cases ak:x=y
     . subst ak;simp only[decide_true,if_true]at ab;subst ab;simp(disch:=omega)[go_sem,ad,hy,-getElem?_pos]
     . simp only[ak,decide_false,afj,if_false]at ab;simp(disch:=omega)[go_sem,ad,hy,-getElem?_pos,ak,aG];exact⟨j-1,aa,_,aB.mk (N:=P) ah ah ah,(hI _ _).2 ⟨k+1,P,aa,ab,rfl⟩⟩
   . have ad:¬(k:Int)<l.length:=aa;rw[afv (by simp;omega)]at ab;have ab:(-1:Int)=R:=ab;simp(disch:=omega)[go_sem,ad,ab]
def adU(l:List Int)(x:Int)(hl:l.length<=100000):aE E true 82 [ints l,iV x] (bV (l.any λy=>decide (x=y))):=by
 refine bc Tryz.ntmps82 Tryz.results82 λN=> ?_;have hr:=wK (l.map λy=>decide (x=y)) 0;rw[afE]at hr;have ai:(l.any λy=>decide (x=y))=decide (0<=fk (l.map λy=>decide (x=y)) 0):=hr.symm;rw[ai];refine aL ?_;refine ax.mk (adT l x hl) λM=>aT λhM=> ?_;exact ah
def adV{α:Type}(xs:List α)(en:α->List DV)(ps:α->Bool)(f:FuncId)(c:List DV)(hx:∀x,(en x).length=9)(hl:xs.length<=100000)(hf:∀x∈xs,aE E true f (.agg (en x)::c) (bV (ps x))):aE E true 140 [.sl 9 (xs.map en),.fn f [] c] (iV (fk (xs.map ps) 0)):=by
 refine bc Tryz.ntmps140 Tryz.results140 λN=> ?_;obtain⟨R,hR⟩:∃R,fk (xs.map ps) 0=R:=⟨_,rfl⟩;rw[hR];refine aL ?_;obtain⟨I,hI⟩:∃I:Nat->DS->Prop,∀j d,I j d↔∃(k P:Nat),j+k=xs.length/\fk ((xs.map ps).drop k) k=R/\d=⟨bw [(0,.sl 9 (xs.map en)),(1,.fn f [] c),(7,iV xs.length),(8,iV k)],19,[],cj P []⟩:=⟨_,λ_ _=>RW⟩;refine bS I xs.length ⟨_,aB.mk (N:=N) ah ah ah,(hI _ _).2 ⟨0,N,rfl,hR,rfl⟩⟩ ?_
 . intro j ds ae;obtain⟨k,P,hj,ab,rfl⟩:=(hI _ _).1 ae;clear ae;by_cases af:k<xs.length
   . have ad:(k:Int)<xs.length:=aa;obtain⟨y,hy⟩:∃y,xs[k]? =some y:=⟨_,KE af⟩;rw[zp (b:=ps y) (by rw[ab8,hy];rfl)]at ab;have an:=hf y (qG hy);have ao:=sC (hx y);simp(disch:=omega)[go_sem,ad,hy,-getElem?_pos,ao];refine ax.mk an λP2 aq=> ?_;cases hb:ps y with
     |true=>
      rw[hb,if_pos rfl]at ab;subst ab;exact ah
     |false=>
      rw[hb,if_neg aC]at ab;simp(disch:=omega)[go_sem,aG];exact⟨j-1,aa,_,aB.mk (N:=P2) ah ah ah,(hI _ _).2 ⟨k+1,P2,aa,ab,rfl⟩⟩
   . have ad:¬(k:Int)<xs.length:=aa;rw[afv (by simp;omega)]at ab;have ab:(-1:Int)=R:=ab;simp(disch:=omega)[go_sem,ad,ab]
def adW{α:Type}(xs:List α)(en:α->List DV)(ps:α->Bool)(f:FuncId)(c:List DV)(hx:∀x,(en x).length=9)(hl:xs.length<=100000)(hf:∀x∈xs,aE E true f (.agg (en x)::c) (bV (ps x))):aE E true 83 [.sl 9 (xs.map en),.fn f [] c] (bV (xs.any ps)):=by
 refine bc Tryz.ntmps83 Tryz.results83 λN=> ?_;have hr:=wK (xs.map ps) 0;rw[afE]at hr;have ai:xs.any ps=decide (0<=fk (xs.map ps) 0):=hr.symm;rw[ai];refine aL ?_;refine ax.mk (adV xs en ps f c hx hl hf) λM=>aT λhM=> ?_;exact ah
def Kq(xs:List Int)(ps:Int->Bool)(f:FuncId)(c:List DV)(hl:xs.length<=100000)(hf:∀x∈xs,aE E true f (iV x::c) (bV (ps x))):aE E true 89 [.sl 1 (xs.map λn=>[iV n]),.fn f [] c] (iV (fk (xs.map ps) 0)):=by
 refine bc Tryz.ntmps89 Tryz.results89 λN=> ?_;obtain⟨R,hR⟩:∃R,fk (xs.map ps) 0=R:=⟨_,rfl⟩;rw[hR];refine aL ?_;obtain⟨I,hI⟩:∃I:Nat->DS->Prop,∀j d,I j d↔∃(k P:Nat),j+k=xs.length/\fk ((xs.map ps).drop k) k=R/\d=⟨bw [(0,.sl 1 (xs.map λn=>[iV n])),(1,.fn f [] c),(7,iV xs.length),(8,iV k)],19,[],cj P []⟩:=⟨_,λ_ _=>RW⟩;refine bS I xs.length ⟨_,aB.mk (N:=N) ah ah ah,(hI _ _).2 ⟨0,N,rfl,hR,rfl⟩⟩ ?_
 . intro j ds ae;obtain⟨k,P,hj,ab,rfl⟩:=(hI _ _).1 ae;clear ae;by_cases af:k<xs.length
   . have ad:(k:Int)<xs.length:=aa;obtain⟨y,hy⟩:∃y,xs[k]? =some y:=⟨_,KE af⟩;rw[zp (b:=ps y) (by rw[ab8,hy];rfl)]at ab;have an:=hf y (qG hy);simp(disch:=omega)[go_sem,ad,hy,-getElem?_pos];refine ax.mk an λP2 aq=> ?_;cases hb:ps y with
     |true=>
      rw[hb,if_pos rfl]at ab;subst ab;exact ah
     |false=>
      rw[hb,if_neg aC]at ab;simp(disch:=omega)[go_sem,aG];exact⟨j-1,aa,_,aB.mk (N:=P2) ah ah ah,(hI _ _).2 ⟨k+1,P2,aa,ab,rfl⟩⟩
   . have ad:¬(k:Int)<xs.length:=aa;rw[afv (by simp;omega)]at ab;have ab:(-1:Int)=R:=ab;simp(disch:=omega)[go_sem,ad,ab]
def Kr(xs:List Int)(ps:Int->Bool)(f:FuncId)(c:List DV)(hl:xs.length<=100000)(hf:∀x∈xs,aE E true f (iV x::c) (bV (ps x))):aE E true 85 [.sl 1 (xs.map λn=>[iV n]),.fn f [] c] (bV (xs.any ps)):=by
 refine bc Tryz.ntmps85 Tryz.results85 λN=> ?_;have hr:=wK (xs.map ps) 0;rw[afE]at hr;have ai:xs.any ps=decide (0<=fk (xs.map ps) 0):=hr.symm;rw[ai];refine aL ?_;refine ax.mk (Kq xs ps f c hl hf) λM=>aT λhM=> ?_;exact ah
structure kV(g:aq):Prop where
 pat:∀t∈g.au,t.lit=⟨#[]⟩->∃m∈ep,t.pat=m.p
 len:g.au.length<=1000
 cond:∀t∈g.au,∃ct,t.cond=aM ct/\ct<256
def eU(p:List bd):List (Int×Int×Int×Int×Int):=p.map λx=>(x.kind,x.lo,x.hi,x.a,x.b)
def Ks{p q:List bd}(h:eU p=eU q):p=q:=by
 induction p generalizing q with
 |nil=>cases q with
  |nil=>rfl
  |cons y q=>simp[eU]at h
 |cons x p ih=>cases q with
  |nil=>simp[eU]at h
  |cons y q=>
   simp only[eU,adr,List.cons.injEq,Prod.mk.injEq]at h;obtain⟨⟨h1,h2,h3,h4,h5⟩,h6⟩:=h;rw[ih h6];obtain⟨a,b,c,d,e⟩:=x;obtain⟨a',b',c',d',e'⟩:=y;simp only at h1 h2 h3 h4 h5;rw[h1,h2,h3,h4,h5]
def fm(t:Tok)(s:ByteArray):Nat:=if t.lit=⟨#[]⟩then(match ep.find? λm=>decide (eU m.p=eU t.pat)with|some m=>kU m s|none=>0)else if gV s t.lit then t.lit.size else 0
def zq{t:Tok}{s:ByteArray}(h0:t.lit=⟨#[]⟩)(h:∃m∈ep,t.pat=m.p):∃m∈ep,t.pat=m.p/\fm t s=kU m s:=by
 obtain⟨m0,m1,m2⟩:=h;cases hf:ep.find? λm=>decide (eU m.p=eU t.pat)with
 |none=>
  have:=List.find?_eq_none.1 hf m0 m1;rw[m2]at this;simp at this
 |some m=>
  have h1:=List.mem_of_find?_eq_some hf;have h2:=List.find?_some hf;refine⟨m,h1,(Ks (of_decide_eq_true h2)).symm, ?_⟩;unfold fm;rw[if_pos h0,hf]
def adX(g:aq)(hg:kV g)(k:Nat)(t:Tok)(hk:g.au[k]? =some t)(s:ByteArray)(hs:s.size<=1000000000):aE E true 78 [iV (k:Nat),sV s,.ptr g.e 0] (iV (fm t s:Nat)):=by
 have aH:=(FQ.1 hk).1;have hm:=qG hk;obtain⟨R,hR⟩:∃R,fm t s=R:=⟨_,rfl⟩;rw[hR];refine bc Tryz.ntmps78 Tryz.results78 λN=> ?_;simp(disch:=omega)[go_sem,aq.e,hk,-getElem?_pos,Tok.e];by_cases h0:t.lit=⟨#[]⟩
 . obtain⟨m,m1,m2,m3⟩:=zq (s:=s) h0 (hg.pat t hm h0);have hl:=adu m m1 s hs;rw[<-m2,<-m3,hR]at hl;simp(disch:=omega)[go_sem,h0];refine ax.mk hl λM=>aT λhM=> ?_;exact ah
 . have hp:=Ko s t.lit;have af:R=if gV s t.lit then t.lit.size else 0:=by rw[<-hR];unfold fm;rw[if_neg h0]
   simp(disch:=omega)[go_sem,h0];refine ax.mk hp λM=>aT λhM=> ?_;cases hb:gV s t.lit with
   |true=>
    rw[hb,if_pos rfl]at af;subst af;simp(disch:=omega)[go_sem,eJ]
   |false=>
    rw[hb,if_neg aC]at af;subst af;exact ah
def fQ(g:aq)(c:Nat):List Nat:=(afx g.au.length).filter λi=>match g.au[i]? with
 |some t=>er t.cond c
 |none=>false
abbrev dZ(l:List Nat):DV:=.sl 1 (l.map λn=>[iV (n:Nat)])
def iF(g:aq)(c:Nat):List DV:=g.e++[dZ (fQ g c),.fn 78 [] [.ptr g.e 0]]
set_option maxHeartbeats 4000000 in
def adY(g:aq)(hg:kV g)(c:Nat)(hc:c<8):aE E true 38 [.agg g.e,cV c] (.ptr (iF g c) 0):=by
 refine bc Tryz.ntmps38 Tryz.results38 λN=> ?_;obtain⟨an,ad⟩:∃an,DV.ptr (iF g c) 0=an:=⟨_,rfl⟩;rw[ad];have hlen:=hg.len;simp(disch:=omega)[go_sem,aq.e]
 let F:Nat->List Nat:=λk=>(afx k).filter λi=>match g.au[i]? with
  |some t=>er t.cond c
  |none=>false
 let ai:DV->List DV:=λpv=>[strs g.conds,.sl 3 (g.family.nodes.map cL),iV g.family.root,.sl 7 (g.au.map Tok.e),strs g.aP,.sl 13 (g.ay.map aX.e),iV g.start,.sl 4 (g.bn.map dg.e),.sl 9 (g.aZ.map bk.e),pv,.v .nilFunc]
 obtain⟨I,hI⟩:∃I:Nat->DS->Prop,∀j d,I j d↔∃(k:Nat) (H:ae) (pv:DV),j+k=g.au.length/\N+2<=H.next/\cw H (N+2) H.next 1 ((F k).map λn=>[iV (n:Nat)]) pv/\H.get N=some (.row g.e true 0)/\H.get (N+1)=some (.row (ai pv) true 0)/\
  d=⟨bw [(1,cV c),(2,aI N),(5,aI (N+1)),(12,iV (g.au.length:Nat)),(13,iV (k:Nat))],40,[],H⟩:=⟨_,λ_ _=>RW⟩
 refine bS I g.au.length ⟨_,aB.bb (l:=[(1,cV c),(2,aI N),(5,aI (N+1)),(12,iV (g.au.length:Nat)),(13,iV (0:Nat))]) ah,(hI _ _).2 ⟨0,_,cK,rfl,ah,.nil _ _ _ _, ?_, ?_,rfl⟩⟩ ?_
 . simp(disch:=omega)[go_sem,aq.e]
 . simp(disch:=omega)[go_sem];rfl
 . intro j ds ao;obtain⟨k,H,pv,hj,hN,hgr,f1,f2,rfl⟩:=(hI _ _).1 ao;clear ao;simp only[ai]at f2;obtain⟨p1,p2⟩:=hgr.cells;have av:∀x∈(F k).map λn=>[iV (n:Nat)],x.length=1:=λx hx=>by obtain⟨y,_,rfl⟩:=RK.1 hx;rfl
   have aJ:(F k).length<=k:=by have:=afL (λi=>match g.au[i]? with|some t=>er t.cond c|none=>false) (afx k);simpa[F]using this
   by_cases aw:k<g.au.length
   . have ab:(k:Int)<g.au.length:=aa;obtain⟨t,ht⟩:∃t,g.au[k]? =some t:=⟨_,KE aw⟩;obtain⟨ct,az,ak⟩:=hg.cond t (qG ht);have hh:=uI ct c ak hc;rw[<-az]at hh;simp only[Dg.e]at hh;have hF:F (k+1)=F k++if er t.cond c then [k]else []:=by
      simp only[F,afM,afW];congr 1;cases hb:er t.cond c<;>simp[ht,hb]
     simp(disch:=omega)[go_sem,ab,f1,aq.e,ht,-getElem?_pos,Tok.e];refine ax.mk hh λM hM=> ?_;cases hb:er t.cond c with
     |true=>
      rw[hb,if_pos rfl]at hF;simp(disch:=omega)[go_sem,f2];refine cw.app (st:=70) (xt:=70) (B:=N+2) (U:=H.next) (k:=1) (xs:=(F k).map λn=>[iV (n:Nat)]) (hgr.same (λq q1 q2=>by rw[ae.dN,if_neg (by rw[ae.iU];omega)];rfl) (E2 _)) sf n9 aa (by simp(disch:=omega)[go_sem];omega) (new:=[iV (k:Nat)]) ah aC rfl rfl av (by rw[yy];omega) λH' aF T q0 q1 q2 q3 q4=> ?_;simp(disch:=omega)[go_sem]at q2 q3;obtain⟨p3,p4⟩:=q1.cells;have e1:H'.get (N+1)=some (.row (ai pv) true 0):=by rw[q3 _ aa (hgr.ne (.inl aa))];simp(disch:=omega)[go_sem,f2];rfl
      simp only[ai]at e1;simp(disch:=omega)[go_sem,e1,p3,p4,aG];refine⟨j-1,aa,_,aB.bb (l:=[(1,cV c),(2,aI N),(5,aI (N+1)),(12,iV (g.au.length:Nat)),(13,iV (k+1:Nat))]) ah,(hI _ _).2 ⟨k+1,_,aF,aa, ?_, ?_, ?_, ?_,rfl⟩⟩
      . simp(disch:=omega)[go_sem];omega
      . rw[hF,Vs];exact q1.same (λq q5 q6=>by rw[ae.bu,if_neg aa]) (by rw[ae.aY];exact E2 _)
      . simp(disch:=omega)[go_sem];rw[q3 _ aa (hgr.ne (.inl aa))];simp(disch:=omega)[go_sem,f1]
      . simp(disch:=omega)[go_sem];rfl
     |false=>
      rw[hb]at hF;simp(disch:=omega)[go_sem,aG];refine⟨j-1,aa,_,aB.bb (l:=[(1,cV c),(2,aI N),(5,aI (N+1)),(12,iV (g.au.length:Nat)),(13,iV (k+1:Nat))]) ah,(hI _ _).2 ⟨k+1,_,pv,aa, ?_, ?_, ?_, ?_,rfl⟩⟩
      . simp(disch:=omega)[go_sem];omega
      . rw[hF];simp only[afj,if_false,afB];exact hgr.same (λq _ _=>rfl) (by rw[ae.iU];exact hM)
      . simp(disch:=omega)[go_sem,f1]
      . simp(disch:=omega)[go_sem,f2];rfl
   . have ab:¬(k:Int)<g.au.length:=aa;simp(disch:=omega)[go_sem,ab,f2];obtain rfl:k=g.au.length:=aa;rw[<-ad];refine wE (aj:=0) (ck (wr:=true) (by simp(disch:=omega)[go_sem];try rfl)) ?_;have h1:Fz (allRows (H.set (N+1) (some (.row [strs g.conds,.sl 3 (g.family.nodes.map cL),iV g.family.root,.sl 7 (g.au.map Tok.e),strs g.aP,.sl 13 (g.ay.map aX.e),iV g.start,.sl 4 (g.bn.map dg.e),.sl 9 (g.aZ.map bk.e),pv,.fn 78 [] [aI N]] true 0)))) pv (dZ (fQ g c)):=
      hgr.Ki aC rfl av (cI.refl _) λR cs h1 h2 h3=>ck (wr:=true) (by rw[ae.bu,if_neg aa];exact h3)
     have h2:Fz (allRows (H.set (N+1) (some (.row [strs g.conds,.sl 3 (g.family.nodes.map cL),iV g.family.root,.sl 7 (g.au.map Tok.e),strs g.aP,.sl 13 (g.ay.map aX.e),iV g.start,.sl 4 (g.bn.map dg.e),.sl 9 (g.aZ.map bk.e),pv,.fn 78 [] [aI N]] true 0)))) (.fn 78 [] [aI N]) (.fn 78 [] [.ptr g.e 0]):=
      CI (im (aj:=0) (ck (wr:=true) (by rw[ae.bu,if_neg aa];exact f1)))
     simp only[iF,aq.e,afX,afC,vT,vS,vR,and_true,true_and];exact⟨h1,h2⟩
def lenOf(g:aq)(s:ByteArray)(k:Nat):Nat:=match g.au[k]? with
 |some t=>fm t s
 |none=>0
def fR(m:Nat)(t:Nat)(p:Nat×List Nat):Nat×List Nat:=
 let n:=if p.1<m then m else p.1
 let l:=if p.1<m then []else p.2
 (n,if m=n/\0<n then l++[t]else l)
def fp(g:aq)(s:ByteArray)(l:List Nat)(p:Nat×List Nat):Nat×List Nat:=l.foldl (λp t=>fR (lenOf g s t) t p) p
def firstM(g:aq)(c:Nat)(s:ByteArray):Nat×List Nat:=fp g s (fQ g c) (0,[])
def adZ(m t:Nat)(p:Nat×List Nat):(fR m t p).2.length<=p.2.length+1:=by
 unfold fR;simp only
 split<;>split<;>simp
def DO(g:aq)(s:ByteArray):∀(l:List Nat) (p:Nat×List Nat),(fp g s l p).2.length<=p.2.length+l.length
 |[],p=>E2 _
 |t::l,p=>by
  have h1:=DO g s l (fR (lenOf g s t) t p);have h2:=adZ (lenOf g s t) t p;simp only[fp,afY,afZ]at h1⊢;omega
def DP(g:aq)(c:Nat):∀k∈fQ g c,k<g.au.length:=λk hk=>by
 have:=(List.mem_filter.1 hk).1;simpa using this
def zr(g:aq)(c:Nat):(fQ g c).length<=g.au.length:=by
 unfold fQ;exact Nat.le_trans (afL _ _) aw
set_option maxHeartbeats 4000000 in
def Ku(g:aq)(hg:kV g)(c:Nat)(s:ByteArray)(hs:s.size<=1000000000):aE E true 81 [.ptr (iF g c) 0,sV s] (.bp [iV ((firstM g c s).1:Nat),dZ (firstM g c s).2]):=by
 refine bc Tryz.ntmps81 Tryz.results81 λN=> ?_;have hlen:=hg.len;have aW:=zr g c;have aM:=DP g c;obtain⟨an,ao⟩:∃an,firstM g c s=an:=⟨_,rfl⟩;rw[ao];obtain⟨L,hL⟩:∃L,fQ g c=L:=⟨_,rfl⟩;have aJ:fp g s L (0,[])=an:=by rw[<-ao,<-hL];rfl
 have av:iF g c=[strs g.conds,.sl 3 (g.family.nodes.map cL),iV g.family.root,.sl 7 (g.au.map Tok.e),strs g.aP,.sl 13 (g.ay.map aX.e),iV g.start,.sl 4 (g.bn.map dg.e),.sl 9 (g.aZ.map bk.e),dZ L,.fn 78 [] [.ptr g.e 0]]:=by rw[<-hL];rfl
 rw[hL]at aW aM;obtain⟨RD,aY⟩:∃RD,iF g c=RD:=⟨_,rfl⟩;rw[aY]at av⊢;simp(disch:=omega)[go_sem,av];rw[<-av];obtain⟨I,hI⟩:∃I:Nat->DS->Prop,∀j d,I j d↔∃(k n:Nat) (tl:List Nat) (H:ae) (pv:DV),j+k=L.length/\tl.length<=k/\fp g s (L.drop k) (n,tl)=an/\N<=H.next/\cw H N H.next 1 (tl.map λn=>[iV (n:Nat)]) pv/\
  d=⟨bw [(0,.ptr RD 0),(1,sV s),(6,iV (n:Nat)),(7,pv),(14,dZ L),(15,iV (L.length:Nat)),(16,iV (k:Nat))],45,[],H⟩:=⟨_,λ_ _=>RW⟩
 refine bS I L.length ⟨_,aB.bb (l:=[(0,.ptr RD 0),(1,sV s),(6,iV (0:Nat)),(7,cK),(14,dZ L),(15,iV (L.length:Nat)),(16,iV (0:Nat))]) ah,(hI _ _).2 ⟨0,0,[],_,cK,rfl,E2 _,aJ,E2 _,.nil _ _ _ _,rfl⟩⟩ ?_
 . intro j ds aN;obtain⟨k,n,tl,H,pv,hj,bg,ab,hN,hgr,rfl⟩:=(hI _ _).1 aN;clear aN;have aQ:∀x∈tl.map λn=>[iV (n:Nat)],x.length=1:=λx hx=>by obtain⟨y,_,rfl⟩:=RK.1 hx;rfl
   by_cases aS:k<L.length
   . have af:(k:Int)<L.length:=aa;obtain⟨t,ht⟩:∃t,L[k]? =some t:=⟨_,KE aS⟩;obtain⟨tk,aT⟩:∃tk,g.au[t]? =some tk:=⟨_,KE (aM t (qG ht))⟩;have ad:=adX g hg t tk aT s hs;have hm:lenOf g s t=fm tk s:=by simp only[lenOf,aT]
     have ba:L.drop k=t::L.drop (k+1):=by rw[afA aS,(FQ.1 ht).2]
     rw[ba]at ab;simp only[fp,afY,hm]at ab;obtain⟨m,bd⟩:∃m,fm tk s=m:=⟨_,rfl⟩;rw[bd]at ad ab;simp(disch:=omega)[go_sem,af,ht,-getElem?_pos,av];rw[<-av];refine ax.mk ad λM hM=> ?_;have fin:∀(H':ae) (az:List Nat) (n':Nat) (ak:DV) (T:Tr DV),fR m t (n,tl)=(n',az)->N<=H'.next->az.length<=k+1->cw H' N H'.next 1 (az.map λn=>[iV (n:Nat)]) ak->gm T [(0,.ptr RD 0),(1,sV s),(6,iV (n':Nat)),(7,ak),(14,dZ L),(15,iV (L.length:Nat)),(16,iV (k+1:Nat))]->∃j',j'<j/\∃d',aB ⟨T,45,[],H'⟩ d'/\I j' d':=λH' az n' ak T h1 h2 h3 h4 h5=>
      ⟨j-1,aa,_,aB.bb h5,(hI _ _).2 ⟨k+1,n',az,H',ak,aa,h3,by rw[<-h1];exact ab,h2,h4,rfl⟩⟩
     have aF:∀M',H.next<=M'->cw (H.up M') N M' 1 (tl.map λn=>[iV (n:Nat)]) pv:=λM' h=>hgr.same (λq _ _=>rfl) h;by_cases aK:n<m
     . have ai:(n:Int)<m:=aa;have aU:0<m:=aa;simp(disch:=omega)[go_sem,ai,aU];refine GO aa aa ?_;simp(disch:=omega)[go_sem,aG];refine fin _ [t] m (.v (.slice (some ⟨M+1,0,none⟩) 1 1)) _ ?_ ?_ aw (.inr ⟨M+1,aa,ah,rfl,ah⟩) ah
       . simp only[fR,if_pos aK,aU,and_self,if_true,afC]
       . simp(disch:=omega)[go_sem];omega
     . have ai:¬(n:Int)<m:=aa;by_cases bf:m=n/\0<n
       . obtain⟨rfl,aI⟩:=bf;simp(disch:=omega)[go_sem,aI];refine cw.app (st:=70) (xt:=70) (B:=N) (U:=M) (k:=1) (xs:=tl.map λn=>[iV (n:Nat)]) (hgr.same (λq q1 q2=>by rw[ae.dN,if_neg (by rw[ae.iU];omega)];rfl) hM) sf n9 aa ah (new:=[iV (t:Nat)]) ah aC rfl rfl aQ (by rw[yy];omega) λH' ak T q0 q1 q2 q3 q4=> ?_;replace q2:=cq q2;simp(disch:=omega)[go_sem,aG];refine fin _ (tl++[t]) m ak _ ?_ aa ?_ ?_ ah
         . simp only[fR,if_neg aK,aI,and_self,if_true]
         . simp;omega
         . rw[Vs];exact q1
       . by_cases aH:m=n
         . have aI:n=0:=aa;subst aI;subst aH;simp(disch:=omega)[go_sem,aG];refine fin _ tl 0 pv _ ?_ ?_ aa (aF M hM) ah
           . simp[fR]
           . simp(disch:=omega)[go_sem];omega
         . have aL:¬(m:Int)=n:=aa;simp(disch:=omega)[go_sem,ai,aL,aG];refine fin _ tl n pv _ ?_ ?_ aa (aF M hM) ah
           . simp only[fR,if_neg aK,aH,false_and,if_false]
           . simp(disch:=omega)[go_sem];omega
   . have af:¬(k:Int)<L.length:=aa;rw[afv aa]at ab;have ab:(n,tl)=an:=ab;subst ab;simp(disch:=omega)[go_sem,af];exact hgr.fz aC aQ
def Kv(g:aq)(s:ByteArray):∀(l:List Nat) (p:Nat×List Nat),(0<p.1->p.2≠[])->0<(fp g s l p).1->(fp g s l p).2≠[]
 |[],p,h=>h
 |t::l,p,h=>by
  refine Kv g s l (fR (lenOf g s t) t p) ?_;unfold fR;simp only
  split
  . rename_i h1;intro h2;rw[if_pos ⟨rfl,h2⟩];simp
  . intro h2
    split
    . simp
    . exact h h2
def ad0{m t:Nat}{p:Nat×List Nat}{x:Nat}(h:x∈(fR m t p).2):x∈p.2\/x=t:=by
 unfold fR at h;simp only at h;by_cases h1:p.1<m
 . simp only[if_pos h1]at h
   split at h
   . right;simpa using h
   . cases h
 . simp only[if_neg h1]at h
   split at h
   . simpa using h
   . exact .inl h
def DQ(g:aq)(s:ByteArray):∀(l:List Nat) (p:Nat×List Nat),∀x∈(fp g s l p).2,x∈p.2\/x∈l
 |[],p,x,h=>.inl h
 |t::l,p,x,h=>by
  rcases DQ g s l (fR (lenOf g s t) t p) x h with h1|h1
  . rcases ad0 h1 with h2|rfl
    . exact .inl h2
    . exact .inr aw
  . exact .inr (List.mem_cons_of_mem _ h1)
def DR(g:aq)(c:Nat)(s:ByteArray)(h:0<(firstM g c s).1):∃t tl tk,(firstM g c s).2=t::tl/\g.au[t]? =some tk:=by
 have h1:=Kv g s (fQ g c) (0,[]) (λh=>by cases h) h;cases hl:(firstM g c s).2 with
 |nil=>exact absurd hl h1
 |cons t tl=>
  have hm:t∈(firstM g c s).2:=by rw[hl];simp
  rcases DQ g s (fQ g c) (0,[]) t hm with h2|h2
  . cases h2
  . exact⟨t,tl,_,rfl,KE (DP g c t h2)⟩
def fS(g:aq)(l:List Nat):Int:=match l with
 |t::_=>match g.au[t]? with|some tk=>tk.cls|none=>0
 |[]=>0
def l7(g:aq)(k:Int):ByteArray:=match g.au[k.toNat]? with
 |some tk=>tk.lit
 |none=>⟨#[]⟩
def kW(g:aq)(c:Nat)(l:Lf)(f:bk):Bool:=decide (f.kind=5)&&decide (f.token=(l.tok:Int))&&er f.cond c&&f.au.any λt=>decide (l7 g t=l.text)
def gD(g:aq)(c:Nat)(s:ByteArray)(l:Lf):Bool:=decide ((firstM g c s).1=l.text.size)&&decide (fS g (firstM g c s).2=0)&&((firstM g c s).2.any λt=>decide (l.tok=t))&& !(g.aZ.any (kW g c l))
theorem DT(g:aq)(c:Nat):iF g c=[strs g.conds,.sl 3 (g.family.nodes.map cL),iV g.family.root,.sl 7 (g.au.map Tok.e),strs g.aP,.sl 13 (g.ay.map aX.e),iV g.start,.sl 4 (g.bn.map dg.e),.sl 9 (g.aZ.map bk.e),dZ (fQ g c),.fn 78 [] [.ptr g.e 0]]:=rfl
def ad1(g:aq)(c:Nat)(l:Lf)(k:Int)(h0:0<=k)(tk:Tok)(hk:g.au[k.toNat]? =some tk):aE E true 86 [iV k,.ptr [.ptr (iF g c) 0] 0,.ptr l.e 0] (bV (decide (l7 g k=l.text))):=by
 have aM:=(FQ.1 hk).1;have aW:l7 g k=tk.lit:=by simp only[l7,hk]
 rw[aW];refine bc Tryz.ntmps86 Tryz.results86 λN=> ?_;refine aL ?_;refine bZ [aK 0,ai 1,ai 3,ai 7,aK 15,ai 0,ai 63,ai 127,aK 255,ai 0,aK 512,ai 2047,ai 4095] ak 0 rfl ?_;simp(disch:=omega)[go_sem,DT,hk,h0,-getElem?_pos,Tok.e,Lf.e]
def ad2(g:aq)(hg:GV g)(c:Nat)(hc:c<8)(l:Lf)(f:bk)(hf:f∈g.aZ):aE E true 84 [.agg f.e,.ptr l.e 0,.ptr [cV c] 0,.ptr [.ptr (iF g c) 0] 0] (bV (kW g c l f)):=by
 obtain⟨⟨cf,aY,aI⟩,ba⟩:=hg.aZ.ok f hf;have hh:=uI cf c aI.1 hc;rw[<-aY]at hh;simp only[Dg.e]at hh;obtain⟨ad,ab⟩:∃ad,kW g c l f=ad:=⟨_,rfl⟩;rw[ab];refine bc Tryz.ntmps84 Tryz.results84 λN=> ?_;simp(disch:=omega)[go_sem,bk.e];by_cases h5:f.kind=5
 . have aJ:f.kind=5/\∃t,mB g t f.au:=by
    rcases ba with h|h|h|h|h
    . have:=h.1;omega
    . have:=h.1;omega
    . have:=h.1;omega
    . have:=h.1;omega
    . obtain⟨_,_,_,_,_,_,t,_,_,_,h9⟩:=h;exact⟨h5,_,h9⟩
   obtain⟨_,K,aF⟩:=aJ;by_cases ht:f.token=(l.tok:Int)
   . simp(disch:=omega)[go_sem,h5,ht,Lf.e];refine ax.mk hh λM=>aT λhM=> ?_;cases aN:er f.cond c with
     |false=>
      rw[show ad=false from by rw[<-ab];simp[kW,aN]];exact ah
     |true=>
      have az:=Kr f.au (λt=>decide (l7 g t=l.text)) 86 [.ptr [.ptr (iF g c) 0] 0,.ptr l.e 0] (by have:=aF.len;omega) (λx hx=>by
       obtain⟨h0,t,h1,_⟩:=aF.tok x hx;exact ad1 g c l x h0 t h1)
      rw[show ad=f.au.any (λt=>decide (l7 g t=l.text))from by rw[<-ab];simp[kW,aN,h5,ht]];refine aL ?_;refine ax.mk az λM2=>aT λbb=> ?_;exact ah
   . rw[show ad=false from by rw[<-ab];simp[kW,ht]];simp(disch:=omega)[go_sem,h5,ht,Lf.e]
 . rw[show ad=false from by rw[<-ab];simp[kW,h5]];simp(disch:=omega)[go_sem,h5]
def DU{S:eQ}{f:FuncId}{a b:List DV}(h:cI S a b):Fz S (.fn f [] a) (.fn f [] b):=
 .fn rfl (λi v d h1 _=>by simp at h1) h.length λi v d h1 h2=>by
  obtain⟨d',h3,h4⟩:=h.get i v h1;rw[h2]at h3;cases h3;exact h4
def ad3(l:List Nat):dZ l=ints (l.map λ(n:Nat)=>(n:Int)):=by simp[List.map_map]
set_option maxHeartbeats 4000000 in
def ad4(g:aq)(hg:GV g)(ht:kV g)(c:Nat)(hc:c<8)(s:ByteArray)(hs:s.size<=1000000000)(l:Lf)(hl:0<l.text.size):aE E true 39 [.ptr (iF g c) 0,cV c,sV s,.agg l.e] (bV (gD g c s l)):=by
 have an:=Ku g ht c s hs;obtain⟨ad,ab⟩:∃ad,gD g c s l=ad:=⟨_,rfl⟩;rw[ab];refine bc Tryz.ntmps39 Tryz.results39 λN=> ?_;obtain⟨RD,aG⟩:∃RD,iF g c=RD:=⟨_,rfl⟩;have av:=DT g c;rw[aG]at an av;rw[aG];have bj:cC (.sl 1 [])=[.sl 1 []]:=rfl;simp(disch:=omega)[go_sem,Lf.e];refine ax.mk an λM=>dI λhM=> ?_;refine bZ [ai 0,ai 0,aK 2,aK 6,ai 15,ai 31,aK 63,ai 127,ai 255,ai 511,aK 1023,ai 63,ai 2111,aK 6207,ai 16383,ai 32767,aK 65535,ai 131071,ai 262143,ai 524287,ai 1048575,ai 1048575,aK 3145727,aU 8388607,ai 16777215,ai 33554431] ak 0 rfl ?_;by_cases hn:(firstM g c s).1=l.text.size
 . have aC:((firstM g c s).1:Int)=l.text.size:=aa;obtain⟨t,tl,tk,h1,h2⟩:=DR g c s aa;have hlen:(firstM g c s).2.length<=100000:=by
    have h3:=DO g s (fQ g c) (0,[]);have h4:=zr g c;have h5:=ht.len;have h6:(firstM g c s).2.length<=(fQ g c).length:=by simpa[firstM]using h3
    omega
   have aH:=adU ((firstM g c s).2.map λ(n:Nat)=>(n:Int)) (l.tok:Nat) (by rw[yy];exact hlen);rw[<-ad3,afE]at aH;have ao:fS g (firstM g c s).2=tk.cls:=by rw[h1];simp only[fS,h2]
   have aM:=(FQ.1 h2).1;have af:((firstM g c s).2.map λ(n:Nat)=>[iV (n:Nat)])[0]? =some [iV (t:Nat)]:=by rw[h1];rfl
   have bd:0<(firstM g c s).2.length:=by rw[h1];simp
   have ae:ad=(decide ((firstM g c s).1=l.text.size)&&decide (fS g (firstM g c s).2=0)&&((firstM g c s).2.any λt=>decide (l.tok=t))&& !(g.aZ.any (kW g c l))):=by rw[<-ab];rfl
   clear ab;generalize firstM g c s=FM at*;by_cases h0:tk.cls=0
   . simp(disch:=omega)[go_sem,eJ,aC,av,af,h2,Tok.e,h0,-getElem?_pos];refine ax.mk aH λM2=>aT λbb=> ?_;have az:((λy=>decide ((l.tok:Int)=y))∘λ(n:Nat)=>(n:Int))=λt=>decide (l.tok=t):=by
      funext t
      simp only[Function.comp_def];rw[decide_eq_decide];omega
     rw[az];cases aQ:FM.2.any λt=>decide (l.tok=t)with
     |false=>
      rw[show ad=false from by rw[ae,aQ];simp];exact ah
     |true=>
      have bf:=adW g.aZ bk.e (kW g c l) 84 [.ptr l.e 0,.ptr [cV c] 0,.ptr [.ptr (iF g c) 0] 0] (λ_=>rfl) (by have:=hg.aZ.len;omega) (λf hf=>ad2 g hg c hc l f hf);rw[show ad= !(g.aZ.any (kW g c l))from by rw[ae,aQ,ao,hn,h0];simp];simp(disch:=omega)[go_sem,av];refine ax.pl bf (.cons (.refl _) (.cons (DU (.cons ?_ (.cons ?_ (.cons ?_ .nil)))) .nil)) λM3 aS=> ?_
      . exact im (aj:=0) (ck (wr:=true) (by simp(disch:=omega)[go_sem];try rfl))
      . exact im (aj:=0) (ck (wr:=true) (by simp(disch:=omega)[go_sem];try rfl))
      . rw[aG,av];exact im (aj:=0) (ck (wr:=true) (by simp(disch:=omega)[go_sem];try rfl))
      replace aS:=cq aS;exact ah
   . simp(disch:=omega)[go_sem,eJ,aC,av,af,h2,Tok.e,h0,-getElem?_pos];rw[show ad=false from by rw[ae,ao];simp[h0]];exact .refl _
 . have aC:¬((firstM g c s).1:Int)=l.text.size:=aa;rw[show ad=false from by rw[<-ab];simp[gD,hn]];simp(disch:=omega)[go_sem,eJ,aC]
def fq:ByteArray:=⟨#[32]⟩
def ox(g:aq)(c:Nat)(s:ByteArray):Bool:=decide ((firstM g c (fq++s)).1=1)&&decide (fS g (firstM g c (fq++s)).2=1)
set_option maxHeartbeats 4000000 in
def ad5(g:aq)(ht:kV g)(c:Nat)(s:ByteArray)(hs:s.size<=900000000):aE E true 40 [.ptr (iF g c) 0,sV s] (bV (ox g c s)):=by
 have bg:(⟨#[32]⟩:ByteArray).size+s.size<=9223372036854775807:=by show 1+s.size<=_;omega
 have an:=Ku g ht c (fq++s) (by rw[afy];show 1+s.size<=_;omega);obtain⟨ad,ab⟩:∃ad,ox g c s=ad:=⟨_,rfl⟩;rw[ab];refine bc Tryz.ntmps40 Tryz.results40 λN=> ?_;obtain⟨RD,aG⟩:∃RD,iF g c=RD:=⟨_,rfl⟩;have av:=DT g c;rw[aG]at an av⊢;simp only[fq]at an;simp(disch:=omega)[go_sem,tN (h:=bg)];refine ax.mk an λM=>dI λhM=> ?_;refine bZ [ai 0,ai 1,ai 3,ai 7,ai 15,ai 31,ai 63,aK 127,ai 7,ai 263,aK 775,ai 2047,ai 4095,aK 8191,ai 16383,ai 32767,ai 65535] ak 0 rfl ?_;have ae:ad=(decide ((firstM g c (⟨#[32]⟩++s)).1=1)&&decide (fS g (firstM g c (⟨#[32]⟩++s)).2=1)):=by rw[<-ab];rfl
 clear ab;by_cases hn:(firstM g c (⟨#[32]⟩++s)).1=1
 . obtain⟨t,tl,tk,h1,h2⟩:=DR g c (⟨#[32]⟩++s) aa;have ao:fS g (firstM g c (⟨#[32]⟩++s)).2=tk.cls:=by rw[h1];simp only[fS,h2]
   have aM:=(FQ.1 h2).1;have af:((firstM g c (⟨#[32]⟩++s)).2.map λ(n:Nat)=>[iV (n:Nat)])[0]? =some [iV (t:Nat)]:=by rw[h1];rfl
   have bd:0<(firstM g c (⟨#[32]⟩++s)).2.length:=by rw[h1];simp
   generalize firstM g c (⟨#[32]⟩++s)=FM at*;rw[show ad=decide (tk.cls=1)from by rw[ae,ao,hn];simp];simp(disch:=omega)[go_sem,hn,av,af,h2,Tok.e,-getElem?_pos]
 . have aC:¬((firstM g c (⟨#[32]⟩++s)).1:Int)=1:=aa;rw[show ad=false from by rw[ae];simp[hn]];simp(disch:=omega)[go_sem,aC]
end Go.Sp
end
noncomputable section
open Go Go.aD Go.Proofs
namespace Go.aD
variable {e:Env}
def fJ.plain{f:FuncId}{args:List Value}{h:ab}{v:Value}(hv:aD.plain v=true)(hr:fJ e f args h λu h1=>u=v/\Sub h h1):bU e f args h v h:=by
 refine⟨hr.1,λρ w aJ hg ha x=>(hr.2 ρ w aJ hg ha x).mono ?_⟩;rintro en w' ⟨_,h1,v',b5,⟨rfl,hs⟩,rfl,q1,q2,q3⟩;refine⟨v',ρ,rfl,(nI (ρ:=ρ) hv).back q3.ext q1,⟨x.iA,λi o ho=> ?_,x.sep⟩,⟨Ext.refl _,q3.os,q3.output,q3.size,q3.frozen,q3.kept,λi o pl a b c=>.inl ⟨i,o,pl,a,b,c,rfl⟩,λ_ _ a _=>a,λ_ a b=>absurd a b,λ_ o a _=>⟨o,a⟩,E2 _⟩⟩
 . obtain⟨pl,h2,h3⟩:=x.obj i o ho;obtain⟨pl',bA,bK⟩:=q2.obj i o (hs.get i o (x.iA i pl h2) ho);rw[q3.ext _ _ h2]at bA;cases bA;exact⟨pl,h2,h3.back q3.ext bK⟩
def aE.ar{f:FuncId}{av:List DV}{u:Value}(hu:aD.plain u=true)(hf:aE e false f av (.v u)):aE e true f av (.v u):=by
 intro G h args hG ha;have h1:fJ e f args h (qA G h (.v u)):=hf G h args hG ha;have h2:=fJ.plain hu (h1.mono λv h' ⟨p1,p2,p3⟩=>⟨p3.cQ,p1,λi o hi ho=>by rw[p2 i hi];exact ho⟩);exact⟨u,h,h2,E2 _,λ_ _=>rfl,.v u⟩
end Go.aD
namespace Go.Sp
structure uJ(g:aq)(c:Nat)(l:Lf):Prop where
 tok:∃t,g.au[l.tok]? =some t/\t.cls=0/\er t.cond c=true/\((t.lit≠⟨#[]⟩/\l.text=t.lit)\/(t.lit=⟨#[]⟩/\aE E true 36 [.sl 5 (t.pat.map bd.e),sV l.text] (bV true)))
 size:0<l.text.size/\l.text.size<=4
def dL(g:aq)(c:Nat):List Lf->Option (List Bool×ByteArray)
 |[]=>some ([],⟨#[]⟩)
 |l::L=>match dL g c L with
  |none=>none
  |some (gs,rest)=>if gD g c (l.text++rest) l then some (false::gs,l.text++rest)
   else if gD g c ((l.text++fq)++rest) l&&ox g c rest then some (true::gs,(l.text++fq)++rest)else none
def Kw{g:aq}{c:Nat}:∀{L:List Lf} (i:Nat),dL g c (L.drop i)=none->dL g c L=none
 |L,0,h=>h
 |[],i+1,h=>h
 |l::L,i+1,h=>by
  have:=Kw (L:=L) i h;simp only[dL,this]
def wL:Option (List Bool×ByteArray)->DV
 |some (gs,t)=>.bp [.sl 1 (gs.map λb=>[bV b]),sV t,iV 0]
 |none=>.bp [.sl 1 [],sV ⟨#[]⟩,iV 240]
def ad6(n:Nat)(gs:List Bool):(Zf (n+1) (bV false)++gs.map bV).take n++bV true::(Zf (n+1) (bV false)++gs.map bV).drop (n+1)=Zf n (bV false)++(true::gs).map bV:=by
 rw[List.take_append_of_le_length aw,List.drop_append_of_le_length aw];simp
def ad7(n:Nat)(gs:List Bool):Zf (n+1) (bV false)++gs.map bV=Zf n (bV false)++(false::gs).map bV:=by
 rw[List.replicate_succ'];simp
def Kx:E.under 45=some (.slice 4):=ak
def s4:E.size 4=some 1:=ak
def b4:E.bytes 4=some 1:=ak
def Ky(n:Nat):(ey [Value.bool false] (n*1)).map DV.v=Zf n (bV false):=by
 simp only[ey,List.map_map,afF];apply af0;intro i;simp only[ab8,List.getElem?_range,List.getElem?_replicate];rcases afN i n with h|h
 . simp[h,Nat.mod_one]
 . simp[Nat.not_lt.2 h]
set_option maxHeartbeats 8000000 in
def Kz(g:aq)(hg:GV g)(ht:kV g)(an:aE E true 34 [.agg g.e] (iV 0))(c:Nat)(hc:c<8)(bf:fj g c=true)(bL:g.conds.length<=3)(L:List Lf)(hL:∀l∈L,uJ g c l)(b6:L.length<=12):
 aE E true 18 [.agg g.e,cV c,.sl 4 (L.map Lf.e)] (wL (dL g c L)):=by
 have bg:aE E true 35 [.agg g.e,cV c] (bV (fj g c)):=DK g hg bL c hc;rw[bf]at bg;have bj:=adY g ht c hc;obtain⟨bm,aF⟩:∃bm,wL (dL g c L)=bm:=⟨_,rfl⟩;rw[aF];obtain⟨RD,ba⟩:∃RD,DV.ptr (iF g c) 0=RD:=⟨_,rfl⟩;rw[ba]at bj;have aM:∀(s:ByteArray) (l:Lf),s.size<=1000000->0<l.text.size->aE E true 39 [RD,cV c,sV s,.agg l.e] (bV (gD g c s l)):=λs l h1 h2=>by rw[<-ba];exact ad4 g hg ht c hc s aa l h2
 have bo:∀(s:ByteArray),s.size<=1000000->aE E true 40 [RD,sV s] (bV (ox g c s)):=λs h1=>by rw[<-ba];exact ad5 g ht c s aa
 have bM:cZ RD=true/\cC RD=[RD]:=by rw[<-ba];exact⟨rfl,rfl⟩
 refine bc Tryz.ntmps18 Tryz.results18 λN=> ?_;obtain⟨ge,bq⟩:∃ge,g.e=ge:=⟨_,rfl⟩;have ae:ge=[strs g.conds,.sl 3 (g.family.nodes.map cL),iV g.family.root,.sl 7 (g.au.map Tok.e),strs g.aP,.sl 13 (g.ay.map aX.e),iV g.start,.sl 4 (g.bn.map dg.e),.sl 9 (g.aZ.map bk.e)]:=by rw[<-bq];rfl
 rw[bq]at an bg bj;rw[bq];simp(disch:=omega)[go_sem,ae];rw[<-ae];refine ax.mk an λM=>aT λhM=> ?_;simp(disch:=omega)[go_sem,ae];rw[<-ae];refine ax.mk bg.any λM2=>dI λb7=> ?_;obtain⟨I,hI⟩:∃I:Nat->DS->Prop,∀j d,I j d↔∃(k sz P:Nat),j+k=L.length/\sz<=12+4*k/\N<P/\d=⟨bw [(1,cV c),(2,.sl 4 (L.map Lf.e)),(3,aI N),(10,iV (sz:Nat)),(34,.sl 4 (L.map Lf.e)),(35,iV (L.length:Nat)),(36,iV (k:Nat))],154,[],cj P [(N,.row ge true 0)]⟩:=⟨_,λ_ _=>RW⟩;refine bS I L.length ⟨_,aB.mk (N:=M2) ah ah ?_,(hI _ _).2 ⟨0,L.length,M2,rfl,aa,aa,rfl⟩⟩ ?_
 . simp(disch:=omega)[go_sem,ae]
 . intro j ds aN;obtain⟨k,sz,P,hj,b8,hP,rfl⟩:=(hI _ _).1 aN;clear aN;by_cases bs:k<L.length
   . have af:(k:Int)<L.length:=aa;obtain⟨l,hl⟩:∃l,L[k]? =some l:=⟨_,KE bs⟩;obtain⟨⟨t,t1,t2,t3,t4⟩,s1,s2⟩:=hL l (qG hl);have b9:=(FQ.1 t1).1;have bt:¬(g.au.length:Int)<=l.tok:=aa;have bu:¬(l.tok:Int)<0:=aa;obtain⟨ct,bP,bx⟩:=ht.cond t (qG t1);have hh:=uI ct c bx hc;rw[<-bP,t3]at hh;simp only[Dg.e]at hh;simp(disch:=omega)[go_sem,af,hl,-getElem?_pos,Lf.e,ae,bt,bu,t1,Tok.e,t2];rcases t4 with⟨t5,t6⟩|⟨t5,t6⟩
     . rw[t6]at s1 s2;simp(disch:=omega)[go_sem,t5,t6];refine ax.mk hh.any λP2=>aT λbB=> ?_;simp(disch:=omega)[go_sem,eJ,aG];refine⟨j-1,aa,_,aB.mk (N:=P2) ah ah ?_,(hI _ _).2 ⟨k+1,sz+t.lit.size,P2,aa,aa,aa,rfl⟩⟩
       . simp(disch:=omega)[go_sem,ae]
     . simp(disch:=omega)[go_sem,t5];refine ax.mk t6.any λP1=>aT λca=> ?_;simp(disch:=omega)[go_sem,t2];refine ax.mk hh.any λP2=>aT λbB=> ?_;simp(disch:=omega)[go_sem,eJ,aG];refine⟨j-1,aa,_,aB.mk (N:=P2) ah ah ?_,(hI _ _).2 ⟨k+1,sz+l.text.size,P2,aa,aa,aa,rfl⟩⟩
       . simp(disch:=omega)[go_sem,ae]
   . have af:¬(k:Int)<L.length:=aa;simp(disch:=omega)[go_sem,af,show¬(1048576:Int)<sz from by omega,ae];rw[<-ae];refine ax.mk bj.any λM3=>dI λcb=> ?_;refine DD (n:=L.length) Kx s4 By b4 rfl aC aC ah ah aa ?_;have bQ:List.map DV.v (ey (Value.bool false).cells.toList (L.length*1))=Zf L.length (bV false):=Ky L.length;rw[bQ];refine aL ?_;obtain⟨J,hJ⟩:∃J:Nat->DS->Prop,∀j d,J j d↔∃(k:Nat) (gs:List Bool) (rest:ByteArray) (P:Nat),j+k=L.length/\dL g c (L.drop (L.length-k))=some (gs,rest)/\gs.length=k/\rest.size<=5*k/\M3<P/\
      d=⟨bw [(1,cV c),(2,.sl 4 (L.map Lf.e)),(15,RD),(16,.v (.slice (some ⟨M3,0,none⟩) L.length L.length)),(17,sV rest),(104,iV (L.length:Nat)),(105,iV (k:Nat))],154,[],cj P [(M3,.row (Zf (L.length-k) (bV false)++gs.map bV) true 0)]⟩:=⟨_,λ_ _=>RW⟩
     refine bS J L.length ⟨_,aB.mk (N:=M3+1) ?_ ?_ ?_,(hJ _ _).2 ⟨0,[],⟨#[]⟩,M3+1,rfl,by rw[afv aa];rfl,rfl,E2 _,aa,rfl⟩⟩ ?_
     . exact ah
     . exact ah
     . exact ah
     . intro j2 cc bD;obtain⟨k2,gs,rest,P2,cd,aQ,aS,cg,bB,rfl⟩:=(hJ _ _).1 bD;clear bD;by_cases bR:k2<L.length
       . have ao:(k2:Int)<L.length:=aa;obtain⟨i,hi⟩:∃i,L.length-k2=i+1:=⟨L.length-k2-1,aa⟩;obtain⟨l,hl⟩:∃l,L[i]? =some l:=⟨_,KE aa⟩;obtain⟨_,s1,s2⟩:=hL l (qG hl);have bT:L.drop i=l::L.drop (i+1):=by rw[afA aa,(FQ.1 hl).2]
         have bW:((L.length:Int)-1-k2)=(i:Nat):=aa;have bX:¬l.text=⟨#[]⟩:=λh=>by rw[h]at s1;exact absurd s1 aC
         have ad:=congrArg (dL g c) bT;rw[hi]at aQ;simp only[dL,aQ]at ad;rw[hi];have bE:=aM (l.text++rest) l (by rw[afy];omega) s1;have bY:l.text.size+rest.size<=9223372036854775807:=aa;simp only[Lf.e]at bE;simp(disch:=omega)[go_sem,ao,aG,bW,hl,-getElem?_pos,Lf.e,bX,tN (h:=bY)];refine ax.mk bE.any λP3=>aT λch=> ?_;have bb:i=L.length-(k2+1):=aa;cases bF:gD g c (l.text++rest) l with
         |true=>
          rw[bF,if_pos rfl]at ad;simp(disch:=omega)[go_sem,aG];refine⟨j2-1,aa,_,aB.mk (N:=P3) ?_ ?_ ?_,(hJ _ _).2 ⟨k2+1,false::gs,l.text++rest,P3,aa,by rw[<-bb];exact ad,by simp[aS],by rw[afy];omega,aa,rfl⟩⟩
          . exact ah
          . exact ah
          . rw[<-bb,<-ad7];simp(disch:=omega)[go_sem]
         |false=>
          rw[bF,if_neg aC]at ad;have b0:l.text.size+(⟨#[32]⟩:ByteArray).size<=9223372036854775807:=by show l.text.size+1<=_;omega
          have aH:(l.text++(⟨#[32]⟩:ByteArray)).size=l.text.size+1:=by rw[afy];rfl
          have b1:(l.text++(⟨#[32]⟩:ByteArray)).size+rest.size<=9223372036854775807:=by rw[aH];omega
          have bG:=aM ((l.text++(⟨#[32]⟩:ByteArray))++rest) l (by rw[afy,aH];omega) s1;have b2:=bo rest aa;simp only[Lf.e]at bG;simp(disch:=omega)[go_sem,tN (h:=b0),tN (h:=b1)];refine ax.mk bG.any λP4=>aT λcl=> ?_;have az:dL g c (L.drop i)=none->bm=.bp [.sl 1 [],sV ⟨#[]⟩,iV 240]:=λh=>by rw[<-aF,Kw i h];rfl
          simp only[fq]at ad;cases aU:gD g c ((l.text++(⟨#[32]⟩:ByteArray))++rest) l with
          |false=>
           simp only[aU,Bool.false_and,afj,if_false]at ad;have hR:=az ad;subst hR;exact ah
          |true=>
           simp only[aU,Bool.true_and]at ad;refine aL ?_;refine ax.mk b2.any λP5=>aT λcm=> ?_;cases bH:ox g c rest with
           |false=>
            simp only[bH,afj,if_false]at ad;have hR:=az ad;subst hR;exact ah
           |true=>
            simp only[bH,if_true]at ad;have aW:=ad6 i gs;have bI:(Zf (i+1) (bV false)++gs.map bV).length=L.length:=by simp[aS];omega
            obtain⟨row,aY⟩:∃row,Zf (i+1) (bV false)++gs.map bV=row:=⟨_,rfl⟩;rw[aY]at aW bI;simp(disch:=omega)[go_sem,aG,aY,aW,bI,show i+1<=L.length from by omega];refine⟨j2-1,aa,_,aB.mk (N:=P5) ?_ ?_ ?_,(hJ _ _).2 ⟨k2+1,true::gs,(l.text++(⟨#[32]⟩:ByteArray))++rest,P5,aa,by rw[<-bb];exact ad,by simp[aS],by rw[afy,aH];omega,aa,rfl⟩⟩
            . exact ah
            . exact ah
            . rw[<-bb];simp(disch:=omega)[go_sem]
       . have ao:¬(k2:Int)<L.length:=aa;simp(disch:=omega)[go_sem,ao];obtain rfl:k2=L.length:=aa;rw[afO,af1]at aQ;rw[<-aF,aQ];have b3:(gs.map λb=>[bV b]).flatten=gs.map bV:=by
          clear aQ aS
          induction gs with
          |nil=>rfl
          |cons b l ih=>simp only[adr,afw,ih];rfl
         refine Fz.j9 (.cons ?_ (.cons (.refl _) (.cons (.refl _) .nil)));exact dY (aj:=0) (ck (wr:=true) (by rw[b3];simp(disch:=omega)[go_sem])) (.inl rfl) aC (by simp[aS]) (E2 _) (λx hx=>by obtain⟨y,_,rfl⟩:=RK.1 hx;rfl)
def pV:Option (List Bool×ByteArray)->DV
 |some (gs,_)=>.bp [.sl 1 (gs.map λb=>[bV b]),iV 0]
 |none=>.bp [.sl 1 [],iV 240]
def KB(g:aq)(c:Nat)(L:List Lf)(hs:aE E true 18 [.agg g.e,cV c,.sl 4 (L.map Lf.e)] (wL (dL g c L))):aE E true 7 [.agg g.e,cV c,.sl 4 (L.map Lf.e)] (pV (dL g c L)):=by
 refine bc Tryz.ntmps7 Tryz.results7 λN=> ?_;simp only[aq.e]at hs⊢;refine aL ?_;refine ax.mk hs λM=>aT λhM=> ?_;cases h:dL g c L with
 |none=>simp(disch:=omega)[go_sem,wL,pV]
 |some r=>
  obtain⟨gs,t⟩:=r;simp(disch:=omega)[go_sem,wL,pV]
abbrev cx(l:List Bool):DV:=.sl 1 (l.map λb=>[bV b])
def ad8(b:Bool):cO E .neq 4 (.tmp 20) (.tmp 24) (.bool b) (.bool b)=some (.bool false):=by cases b<;>kernel_rfl
def wM(l:List Bool)(hl:l.length<=100000):aE E true 11 [cx l,cx l] (bV true):=by
 refine bc Tryz.ntmps11 Tryz.results11 λN=> ?_;refine aL ?_;obtain⟨I,hI⟩:∃I:Nat->DS->Prop,∀j d,I j d↔∃(k P:Nat),j+k=l.length/\d=⟨bw [(0,cx l),(1,cx l),(5,iV (k:Nat))],26,[],cj P []⟩:=⟨_,λ_ _=>RW⟩;refine bS I l.length ⟨_,aB.mk (N:=N) ah ah ah,(hI _ _).2 ⟨0,N,rfl,rfl⟩⟩ ?_
 . intro j ds aN;obtain⟨k,P,hj,rfl⟩:=(hI _ _).1 aN;clear aN;by_cases bs:k<l.length
   . have af:(k:Int)<l.length:=aa;obtain⟨b,hb⟩:∃b,l[k]? =some b:=⟨_,KE bs⟩;simp(disch:=omega)[go_sem,af];refine bZ [ai 0,ai 0,ai 3,aK 7,ai 0,ai 0,ai 48,aK 112,ai 255] ak 0 rfl ?_;simp(disch:=omega)[go_sem,hb,-getElem?_pos,ad8,aG];exact⟨j-1,aa,_,aB.mk (N:=P) ah ah ah,(hI _ _).2 ⟨k+1,P,aa,rfl⟩⟩
   . have af:¬(k:Int)<l.length:=aa;simp(disch:=omega)[go_sem,af]
end Go.Sp
end
noncomputable section
open Go Go.aD Go.Proofs
namespace Go.Sp
def KF{f:FuncId}(r:dP)(aa:aE E true f [.agg r.e] (bV true))(w:World)(el:TypeId)(fz:Nat×Nat)(ht:w.heap[dW]? =some (.cells jh.toArray el fz))(cs:List Value)(ab:hD w cs r.e):
 Calls Tryz.prog f #[.agg cs.toArray] w λen w'=>en=.returned (.bool true)/\rL w w':=by
 obtain⟨ρ,h,ad,x,g,q1,q2⟩:=hD.cons (Rd.agg ab) (hD.nil w) _ _ (adJ w el fz ht);have hz:dW<h.next:=x.w.iA _ _ x.r0;obtain⟨v,h',r1,r2⟩:=aa (pE h) h ad ⟨λi hi=>hi,0,r9 (G:=pE h) hz x.z⟩ q2;have hv:v=.bool true:=r2.2.2.cQ;subst hv;refine(r1.2 ρ w #[.agg cs.toArray] ⟨λg hg=>x.gl g hg,λp hp=>(by cases hp)⟩ q1 x.w).mono ?_;rintro en w' ⟨v',ae,rfl,p1,p2,p3⟩;cases p1;refine⟨rfl,p3.os,p3.output,p3.size,p3.frozen,λj hj=>p3.kept j hj ?_⟩;rintro⟨i,o,pl,g1,g2,_,_⟩;rw[x.ro i o g1]at g2;cases g2
def KG(l:List Nat):∀x∈l.map λn=>[iV (n:Nat)],x.length=1:=λx hx=>by obtain⟨y,_,rfl⟩:=RK.1 hx;rfl
def qX(H:ae)(B:Nat)(l:List Nat)(pv:DV):Prop:=∃R aj,B<=R/\R<H.next/\pv=.v (.slice (some ⟨R,0,none⟩) l.length l.length)/\(aj=0\/aj=1)/\H.get R=some (.row (l.map λn=>[iV (n:Nat)]).flatten true aj)
def KJ(l:List Nat):(l.map λn=>[iV (n:Nat)]).flatten.length=l.length:=by rw[fF (k:=1) (KG l),yy,afF]
def ad9(l:List Nat):((l.map λn=>[iV (n:Nat)]).flatten).all cZ=true:=by
 simp only[YT,List.mem_flatten,RK];rintro x ⟨_,⟨s,_,rfl⟩,hx⟩;simp only[Xy,YN,or_false]at hx;subst hx;rfl
def qX.fz{H:ae}{B:Nat}{l:List Nat}{pv:DV}(h:qX H B l pv):Fz (allRows H) pv (dZ l):=by
 obtain⟨R,aj,h1,h2,rfl,h4,h5⟩:=h;exact dY (aj:=aj) (ck h5) h4 aC aw (E2 _) (KG l)
def qX.same{H H':ae}{B:Nat}{l:List Nat}{pv:DV}(h:qX H B l pv)(hs:∀j,B<=j->j<H.next->H'.get j=H.get j)(hN:H.next<=H'.next):qX H' B l pv:=by
 obtain⟨R,aj,h1,h2,h3,h4,h5⟩:=h;exact⟨R,aj,h1,aa,h3,h4,by rw[hs R h1 h2,h5]⟩
def qX.app{H:ae}{B:Nat}{l m:List Nat}{pv:DV}{K:DV×ae×List Nat->Prop}(h:qX H B l pv)(hb:(l.length+m.length)*9<=1073741824){x:DV}(hx:gj H 1 x=some (m.length,(m.map λn=>[iV (n:Nat)]).flatten))
 (hk:∀H' ab T,qX H' B (l++m) ab->H.next<=H'.next->(∀j,j<B->H'.get j=H.get j)->(∀i∈T,B<=i)->cC ab=[ab]->K (ab,H',T)):aO (jJ E H [70,70].toArray (some [pv,x])) K:=by
 obtain⟨R,aj,h1,h2,rfl,h4,h5⟩:=h;have e:jJ E H [70,70].toArray (some [.v (.slice (some ⟨R,0,none⟩) l.length l.length),x])=eP H (some ⟨R,0,none⟩) l.length l.length 1 8 m.length (m.map λn=>[iV (n:Nat)]).flatten:=by
  have:=x7 (e:=E) H 70 70 [] (some ⟨R,0,none⟩) l.length l.length x;rw[sf,n9,Gv,hx]at this;exact this
 rw[e];refine Dj h5 h4 (by rw[KJ,afF]) aC (by rw[KJ,afF]) (ad9 m) hb h2 λR' h' T ad g1 g2 g3 g4 g5 g6 g7=> ?_;have e2:=hk h' (.v (.slice (some ⟨R',0,none⟩) (l.length+m.length) (l.length+m.length))) T ⟨R',ad,aa,g4,by rw[RC],g1,by rw[Vs,afD];exact g2⟩ g5 (λj hj=>g6 j aa aa) (λi hi=>by rw[g7 i hi];exact h1) rfl;exact e2
def Pl(s:ByteArray)(l:List Nat):Prop:=l.Nodup/\∀a∈l,a<=s.size
def Pl.len{s:ByteArray}{l:List Nat}(h:Pl s l):l.length<=s.size+1:=yR (s.size+1) l h.1 λx hx=>by have:=h.2 x hx;omega
def KL:Tok:=⟨⟨#[98,108,97,110,107]⟩,1,⟨#[32]⟩,[],⟨#[]⟩,aW true⟩
def dH(bare:Bool):aq:=⟨[],aW true,[iG,fN ⟨#[43]⟩,fN ⟨#[43,43]⟩,fN ⟨#[105,102]⟩]++(if bare then []else [KL]),[⟨#[83]⟩],[],0,[],[]⟩
def KM:∀b∈[false,true],aE E true 9 [bV b] (.agg (dH b).e):=bR ak
def aed(b:Bool):∀t∈(dH b).au,lY t:=by
 have hb:lY KL:=⟨⟨aC,aC⟩,.inl ⟨aC,rfl,rfl⟩⟩;have ab:=J6 (aW true) iG (by simp[lW,au]);intro t ht;simp only[dH,adv,Xy,YN,or_false]at ht;rcases ht with(rfl|rfl|rfl|rfl)|ht
 . exact ab
 . exact wH _ aC
 . exact wH _ aC
 . exact wH _ aC
 . split at ht
   . cases ht
   . obtain rfl:=afG.1 ht;exact hb
def KQ(b:Bool):∀t∈(dH b).au,t.cond=aW true:=by
 intro t ht;simp only[dH,adv,Xy,YN,or_false]at ht;rcases ht with(rfl|rfl|rfl|rfl)|ht
 . rfl
 . rfl
 . rfl
 . rfl
 . split at ht
   . cases ht
   . obtain rfl:=afG.1 ht;rfl
def DW(b:Bool):GV (dH b):=by
 have aa:=uE 0 aC;obtain⟨c0,c1,c2⟩:=aa;have hn:nr ((dH b).au.map (·.name)):=by
  have h:([false,true].all λb=>decide (((dH b).au.map (·.name)).Nodup)&&((dH b).au.map (·.name)).all λs=> !decide (s=⟨#[]⟩))=true:=ak;have h2:=YT.1 h b (by cases b<;>simp);rw[afV,decide_eq_true_eq]at h2;exact⟨h2.1,λs hs=>by simpa using YT.1 h2.2 s hs⟩
 refine⟨⟨by cases b<;>decide,by cases b<;>decide,by cases b<;>decide,by cases b<;>decide,by cases b<;>decide,by cases b<;>decide,λp hp=>by cases hp⟩,⟨⟨afP,λs hs=>by cases hs⟩,λs hs=>(by cases hs),by cases b<;>decide,c0,c1,c2,by show(aW true).root≠0;decide⟩,⟨hn,by cases b<;>decide,λt ht=> ?_⟩,
  ⟨⟨by show [(⟨#[83]⟩:ByteArray)].Nodup;simp,λs hs=>by obtain rfl:=afG.1 hs;decide⟩,Int.le_refl 0,by show(0:Int)<1;decide⟩,⟨⟨afP,λs hs=>(by cases hs)⟩,by cases b<;>decide,λp hp=>(by cases hp)⟩,⟨afP,by cases b<;>decide,λl hl=>(by cases hl),λl hl=>(by cases hl)⟩,⟨by cases b<;>decide,λf hf=>by cases hf⟩⟩
 have q:=aed b t ht;exact⟨q.cls.1,q.cls.2,⟨c0,(KQ b t ht).trans c1,c2⟩,q.k⟩
def KS(b:Bool):aE E true 34 [.agg (dH b).e] (iV 0):=
 aE.ar (by rfl) (Jv (dH b) (DW b) (λ_=>True) (λ_ p hp=>by cases hp) λ_ p hp=>by cases hp)
def aee(b:Bool):kV (dH b):=by
 refine⟨λt ht h=>⟨ir,gw 0 ir rfl, ?_⟩,by cases b<;>decide,λt ht=>⟨255,(KQ b t ht).trans wh.1.symm,aC⟩⟩;simp only[dH,adv,Xy,YN,or_false]at ht;rcases ht with(rfl|rfl|rfl|rfl)|ht
 . rfl
 . exact absurd h aC
 . exact absurd h aC
 . exact absurd h aC
 . split at ht
   . cases ht
   . obtain rfl:=afG.1 ht;exact absurd h aC
def lX:Lf:=⟨0,⟨#[120]⟩⟩
def lP:Lf:=⟨1,⟨#[43]⟩⟩
def zt:Lf:=⟨2,⟨#[43,43]⟩⟩
def zu:Lf:=⟨0,⟨#[105,102]⟩⟩
def aef(b:Bool):uJ (dH b) 0 lX/\uJ (dH b) 0 lP/\uJ (dH b) 0 zt/\uJ (dH b) 0 zu:=by
 have hi:er (aW true) 0=true:=ak;have m1:=DN _ (qG (l:=mI) (i:=0) rfl);have m2:=DN _ (qG (l:=mI) (i:=1) rfl);refine⟨⟨⟨iG,rfl,rfl,hi,.inr ⟨rfl,m1⟩⟩,aC⟩,⟨⟨fN ⟨#[43]⟩,rfl,rfl,hi,.inl ⟨aC,rfl⟩⟩,aC⟩,⟨⟨fN ⟨#[43,43]⟩,rfl,rfl,hi,.inl ⟨aC,rfl⟩⟩,aC⟩,⟨⟨iG,rfl,rfl,hi,.inr ⟨rfl,m2⟩⟩,aC⟩⟩
def uK:List (List Lf×List Bool):=[([lX,lP,lX],[false,false,false]),([lX,lX],[true,false]),([lP,lP,lX],[true,false,false]),([zt,lX],[false,false]),([zu],[false])]
def aeg:∀q∈uK,∃t,dL (dH false) 0 q.1=some (q.2,t):=by
 have h:(uK.all λq=>match dL (dH false) 0 q.1 with|some (l,_)=>decide (l=q.2)|none=>false)=true:=ak;intro q hq;have h2:=YT.1 h q hq;cases hs:dL (dH false) 0 q.1 with
 |none=>rw[hs]at h2;cases h2
 |some r=>
  obtain⟨l,t⟩:=r;rw[hs]at h2;exact⟨t,by rw[of_decide_eq_true h2]⟩
def aeh:dL (dH true) 0 [lX,lX]=none:=by
 have h:(match dL (dH true) 0 [lX,lX]with|some _=>false|none=>true)=true:=ak;cases hs:dL (dH true) 0 [lX,lX]with
 |none=>rfl
 |some r=>rw[hs]at h;cases h
def KT(b:Bool)(L:List Lf)(hL:∀l∈L,l=lX\/l=lP\/l=zt\/l=zu)(hl:L.length<=12):aE E true 7 [.agg (dH b).e,cV 0,.sl 4 (L.map Lf.e)] (pV (dL (dH b) 0 L)):=by
 obtain⟨a1,a2,a3,a4⟩:=aef b;have hh:fj (dH b) 0=true:=by
  have h:([false,true].all λb=>fj (dH b) 0)=true:=ak;exact YT.1 h b (by cases b<;>simp)
 refine KB _ _ _ (Kz (dH b) (DW b) (aee b) (KS b) 0 aC hh (by cases b<;>decide) L (λl hl=> ?_) hl);rcases hL l hl with rfl|rfl|rfl|rfl<;>assumption
def aei(q:List Lf×List Bool)(hq:q∈uK):aE E true 7 [.agg (dH false).e,cV 0,.sl 4 (q.1.map Lf.e)] (.bp [cx q.2,iV 0]):=by
 obtain⟨t,ht⟩:=aeg q hq;have:=KT false q.1 (by
  simp only[uK,Xy,YN,or_false]at hq;rcases hq with rfl|rfl|rfl|rfl|rfl<;>simp) (by
  simp only[uK,Xy,YN,or_false]at hq;rcases hq with rfl|rfl|rfl|rfl|rfl<;>simp)
 rw[ht]at this;exact this
def wN(k:Nat)(s:ByteArray):aE E true 10 [iV (k:Nat),sV s] (.agg (Lf.e ⟨k,s⟩)):=by
 refine bc Tryz.ntmps10 Tryz.results10 λN=> ?_;simp(disch:=omega)[go_sem,Lf.e]
def uL:Lf:=⟨0,⟨#[43]⟩⟩
def aej:aE E true 36 [.sl 5 (ib.map bd.e),sV ⟨#[43]⟩] (bV false):=by
 have h:=zm ir (gw 0 ir rfl) ⟨#[43]⟩ aC;have h2:mG ir ⟨#[43]⟩=false:=ak;rw[h2]at h;exact h
set_option maxHeartbeats 4000000 in
def aek:aE E true 18 [.agg (dH false).e,cV 0,.sl 4 ([uL].map Lf.e)] (.bp [.sl 1 [],sV ⟨#[]⟩,iV 91]):=by
 have ab:=KS false;have hh:fj (dH false) 0=true:=ak;have ae:aE E true 35 [.agg (dH false).e,cV 0] (bV (fj (dH false) 0)):=DK (dH false) (DW false) aC 0 aC;rw[hh]at ae;obtain⟨g,hg⟩:∃g,dH false=g:=⟨_,rfl⟩;have t1:g.au[0]? =some iG:=by rw[<-hg];rfl
 have an:¬g.au=[]:=by rw[<-hg];intro h;cases h
 rw[hg]at ab ae⊢;obtain⟨L,hL⟩:∃L,[uL]=L:=⟨_,rfl⟩;have ao:L.length=1:=by rw[<-hL];rfl
 have av:L[0]? =some uL:=by rw[<-hL];rfl
 rw[hL];refine bc Tryz.ntmps18 Tryz.results18 λN=> ?_;obtain⟨ge,af⟩:∃ge,g.e=ge:=⟨_,rfl⟩;have ad:ge=[strs g.conds,.sl 3 (g.family.nodes.map cL),iV g.family.root,.sl 7 (g.au.map Tok.e),strs g.aP,.sl 13 (g.ay.map aX.e),iV g.start,.sl 4 (g.bn.map dg.e),.sl 9 (g.aZ.map bk.e)]:=by rw[<-af];rfl
 rw[af]at ab ae;rw[af];simp(disch:=omega)[go_sem,ad];rw[<-ad];refine ax.mk ab λM=>aT λhM=> ?_;simp(disch:=omega)[go_sem,ad];rw[<-ad];refine ax.mk ae.any λM2=>dI λaz=> ?_;obtain⟨I,hI⟩:∃I:Nat->DS->Prop,∀j d,I j d↔N<M2/\d=⟨bw [(1,cV 0),(2,.sl 4 (L.map Lf.e)),(3,aI N),(10,iV (L.length:Nat)),(34,.sl 4 (L.map Lf.e)),(35,iV (L.length:Nat)),(36,iV 0)],154,[],cj M2 [(N,.row ge true 0)]⟩:=⟨_,λ_ _=>RW⟩;refine bS I 1 ⟨_,aB.mk (N:=M2) ah ah ?_,(hI _ _).2 ⟨aa,rfl⟩⟩ ?_
 . simp(disch:=omega)[go_sem,ad]
 . intro j ds ai;obtain⟨hN,rfl⟩:=(hI _ _).1 ai;clear ai;have hb:=aej;simp(disch:=omega)[go_sem,ao,av,-getElem?_pos,uL,Lf.e,ad,an,t1,Tok.e,iG];refine ax.mk hb.any λP1=>aT λaF=> ?_;have hd:=uI 255 0 aC aC;rw[wh.1,show er (aW true) 0=true from by kernel_rfl]at hd;simp only[Dg.e]at hd;refine aL ?_;refine ax.mk hd.any λP2=>aT λaG=> ?_;exact ah
def ael:aE E true 7 [.agg (dH false).e,cV 0,.sl 4 ([uL].map Lf.e)] (.bp [.sl 1 [],iV 91]):=by
 have hs:=aek;refine bc Tryz.ntmps7 Tryz.results7 λN=> ?_;simp only[aq.e]at hs⊢;refine aL ?_;refine ax.mk hs λM=>aT λhM=> ?_;exact ah
def aem:aE E true 7 [.agg (dH true).e,cV 0,.sl 4 ([lX,lX].map Lf.e)] (.bp [.sl 1 [],iV 240]):=by
 have h:=KT true [lX,lX] aw aC;rw[aeh]at h;exact h
def wO(i:Nat){q:List Lf×List Bool}(h:uK[i]? =some q):aE E true 7 [.agg (dH false).e,cV 0,.sl 4 (q.1.map Lf.e)] (.bp [cx q.2,iV 0]):=aei q (qG h)
def sO(ge:List DV)(l:List (Nat×DV))(d:DS):Prop:=∃M0 M1 M2 H,H.get M0=some (.row ge true 0)/\H.get M1=some (.row [iV (-1),iV 0,sV ⟨#[120]⟩,.sl 1 []] true 0)/\H.get M2=some (.row [iV (-1),iV 1,sV ⟨#[43]⟩,.sl 1 []] true 0)/\M0<H.next/\M1<H.next/\M2<H.next/\d=⟨bw ((1,aI M0)::(2,aI M1)::(3,aI M2)::l),130,[],H⟩
set_option maxHeartbeats 8000000 in
def KU:aE E true 5 [] (bV true):=by
 have ad:=KM false aw;have ae:=KM true aw;have l0:aE E true 10 [iV 0,sV ⟨#[120]⟩] (.agg [iV (-1),iV 0,sV ⟨#[120]⟩,.sl 1 []]):=wN 0 ⟨#[120]⟩;have l1:aE E true 10 [iV 1,sV ⟨#[43]⟩] (.agg [iV (-1),iV 1,sV ⟨#[43]⟩,.sl 1 []]):=wN 1 ⟨#[43]⟩;have l2:aE E true 10 [iV 2,sV ⟨#[43,43]⟩] (.agg [iV (-1),iV 2,sV ⟨#[43,43]⟩,.sl 1 []]):=wN 2 ⟨#[43,43]⟩;have l3:aE E true 10 [iV 0,sV ⟨#[105,102]⟩] (.agg [iV (-1),iV 0,sV ⟨#[105,102]⟩,.sl 1 []]):=wN 0 ⟨#[105,102]⟩;have l4:aE E true 10 [iV 0,sV ⟨#[43]⟩] (.agg [iV (-1),iV 0,sV ⟨#[43]⟩,.sl 1 []]):=wN 0 ⟨#[43]⟩;have g0:=wO 0 rfl;have g1:=wO 1 rfl;have g2:=wO 2 rfl;have g3:=wO 3 rfl;have g4:=wO 4 rfl;have g5:=aem;have g6:=ael;simp only[adr,afQ,Lf.e,lX,lP,zt,zu,uL]at g0 g1 g2 g3 g4 g5 g6;obtain⟨G,hG⟩:∃G,dH false=G:=⟨_,rfl⟩;obtain⟨G1,ao⟩:∃G,dH true=G:=⟨_,rfl⟩;rw[hG]at ad g0 g1 g2 g3 g4 g6;rw[ao]at ae g5;obtain⟨ge,an⟩:∃ge,G.e=ge:=⟨_,rfl⟩;have ab:ge=[strs G.conds,.sl 3 (G.family.nodes.map cL),iV G.family.root,.sl 7 (G.au.map Tok.e),strs G.aP,.sl 13 (G.ay.map aX.e),iV G.start,.sl 4 (G.bn.map dg.e),.sl 9 (G.aZ.map bk.e)]:=by rw[<-an];rfl
 obtain⟨aq,af⟩:∃ge,G1.e=ge:=⟨_,rfl⟩;rw[an]at ad g0 g1 g2 g3 g4 g6;rw[af]at ae g5;refine qM Tryz.ntmps5 Tryz.results5 λN=> ?_;refine du ?_;refine aL ?_;refine du ?_;refine aL ?_;refine ax.mk ad λM0=>aT λav=> ?_;simp(disch:=omega)[go_sem,ab];rw[<-ab];refine du ?_;refine aL ?_;refine ax.mk l0 λM1=>dI λaz=> ?_;refine du ?_;refine aL ?_;refine ax.mk l1 λM2=>dI λaF=> ?_;refine iJ (sO ge [(4,cx [false,false,false]),(5,iV 0)]) ?_ ?_
 . simp(disch:=omega)[go_sem,ab];rw[<-ab];refine ax.fz g0 [M2+1] ?_ ?_ λQ hQ=> ?_
   . exact ah
   . simp(disch:=omega)[go_sem,ab];exact⟨.refl _,dY (fA (wr:=true) (aj:=0) aw (by simp(disch:=omega)[go_sem];try rfl)) (.inl rfl) aC aw aw aw⟩
   replace hQ:=cq hQ;simp(disch:=omega)[go_sem,ab];rw[<-ab];refine⟨_,aB.bb (l:=[(1,aI M0),(2,aI M1),(3,aI M2),(4,cx [false,false,false]),(5,iV 0)]) ah,M0,M1,M2,_, ?_,ah,ah, ?_, ?_, ?_,rfl⟩
   . simp(disch:=omega)[go_sem,ab]
   . simp(disch:=omega)[go_sem];try omega
   . simp(disch:=omega)[go_sem];try omega
   . simp(disch:=omega)[go_sem];try omega
 rintro d ⟨M0,M1,M2,H,m0,m1,m2,h1,h2,h3,rfl⟩;rw[ab]at m0;refine iJ (sO ge [(4,cx [false,false,false]),(5,iV 0),(6,cx [true,false]),(7,iV 0)]) ?_ ?_
 . simp(disch:=omega)[go_sem,m0,m1,m2];rw[<-ab];refine ax.fz g1 [H.next] ?_ ?_ λQ hQ=> ?_
   . exact ah
   . simp(disch:=omega)[go_sem,ab,m0,m1,m2];exact⟨.refl _,dY (fA (wr:=true) (aj:=0) aw (by simp(disch:=omega)[go_sem];try rfl)) (.inl rfl) aC aw aw aw⟩
   replace hQ:=cq hQ;simp(disch:=omega)[go_sem,ab,m0,m1,m2];rw[<-ab];refine⟨_,aB.bb (l:=[(1,aI M0),(2,aI M1),(3,aI M2),(4,cx [false,false,false]),(5,iV 0),(6,cx [true,false]),(7,iV 0)]) ah,M0,M1,M2,_, ?_, ?_, ?_, ?_, ?_, ?_,rfl⟩
   . simp(disch:=omega)[go_sem,ab,m0,m1,m2]
   . simp(disch:=omega)[go_sem,m0,m1,m2]
   . simp(disch:=omega)[go_sem,m0,m1,m2]
   . simp(disch:=omega)[go_sem];try omega
   . simp(disch:=omega)[go_sem];try omega
   . simp(disch:=omega)[go_sem];try omega
 rintro d ⟨M0,M1,M2,H,m0,m1,m2,h1,h2,h3,rfl⟩;rw[ab]at m0;refine iJ (sO ge [(4,cx [false,false,false]),(5,iV 0),(6,cx [true,false]),(7,iV 0),(8,cx [true,false,false]),(9,iV 0)]) ?_ ?_
 . simp(disch:=omega)[go_sem,m0,m1,m2];rw[<-ab];refine ax.fz g2 [H.next] ?_ ?_ λQ hQ=> ?_
   . exact ah
   . simp(disch:=omega)[go_sem,ab,m0,m1,m2];exact⟨.refl _,dY (fA (wr:=true) (aj:=0) aw (by simp(disch:=omega)[go_sem];try rfl)) (.inl rfl) aC aw aw aw⟩
   replace hQ:=cq hQ;simp(disch:=omega)[go_sem,ab,m0,m1,m2];rw[<-ab];refine⟨_,aB.bb (l:=[(1,aI M0),(2,aI M1),(3,aI M2),(4,cx [false,false,false]),(5,iV 0),(6,cx [true,false]),(7,iV 0),(8,cx [true,false,false]),(9,iV 0)]) ah,M0,M1,M2,_, ?_, ?_, ?_, ?_, ?_, ?_,rfl⟩
   . simp(disch:=omega)[go_sem,ab,m0,m1,m2]
   . simp(disch:=omega)[go_sem,m0,m1,m2]
   . simp(disch:=omega)[go_sem,m0,m1,m2]
   . simp(disch:=omega)[go_sem];try omega
   . simp(disch:=omega)[go_sem];try omega
   . simp(disch:=omega)[go_sem];try omega
 rintro d ⟨M0,M1,M2,H,m0,m1,m2,h1,h2,h3,rfl⟩;rw[ab]at m0;refine iJ (sO ge [(4,cx [false,false,false]),(5,iV 0),(6,cx [true,false]),(7,iV 0),(8,cx [true,false,false]),(9,iV 0),(10,cx [false,false]),(11,iV 0)]) ?_ ?_
 . refine aL ?_;refine bZ [dC 0,aU 0,dC 0,cR 6,aU 15,ai 31,ai 63,ai 63,ai 127,ai 511] ak 1 rfl ?_;simp(disch:=omega)[go_sem,m0,m1,m2];refine⟨aa,ax.mk l2 λR=>aT λhR=> ?_⟩;simp(disch:=omega)[go_sem,ab,m0,m1,m2];rw[<-ab];refine⟨aa, ?_⟩;refine ax.fz g3 [H.next] ?_ ?_ λQ hQ=> ?_
   . exact ah
   . simp(disch:=omega)[go_sem,ab,m0,m1,m2];exact⟨.refl _,dY (fA (wr:=true) (aj:=0) aw (by simp(disch:=omega)[go_sem];try rfl)) (.inl rfl) aC aw aw aw⟩
   replace hQ:=cq hQ;simp(disch:=omega)[go_sem,ab,m0,m1,m2];rw[<-ab];refine⟨_,aB.bb (l:=[(1,aI M0),(2,aI M1),(3,aI M2),(4,cx [false,false,false]),(5,iV 0),(6,cx [true,false]),(7,iV 0),(8,cx [true,false,false]),(9,iV 0),(10,cx [false,false]),(11,iV 0)]) ah,M0,M1,M2,_, ?_, ?_, ?_, ?_, ?_, ?_,rfl⟩
   . simp(disch:=omega)[go_sem,ab,m0,m1,m2]
   . simp(disch:=omega)[go_sem,m0,m1,m2]
   . simp(disch:=omega)[go_sem,m0,m1,m2]
   . simp(disch:=omega)[go_sem];try omega
   . simp(disch:=omega)[go_sem];try omega
   . simp(disch:=omega)[go_sem];try omega
 rintro d ⟨M0,M1,M2,H,m0,m1,m2,h1,h2,h3,rfl⟩;rw[ab]at m0;refine iJ (sO ge [(4,cx [false,false,false]),(5,iV 0),(6,cx [true,false]),(7,iV 0),(8,cx [true,false,false]),(9,iV 0),(10,cx [false,false]),(11,iV 0),(12,cx [false]),(13,iV 0)]) ?_ ?_
 . refine aL ?_;refine bZ [dC 0,aU 0,cR 2,aU 7,ai 15,ai 31,ai 31,ai 63,ai 255] ak 1 rfl ?_;simp(disch:=omega)[go_sem,m0,m1,m2];refine⟨aa,ax.mk l3 λR=>aT λhR=> ?_⟩;simp(disch:=omega)[go_sem,ab,m0,m1,m2];rw[<-ab];refine ax.fz g4 [H.next] ?_ ?_ λQ hQ=> ?_
   . exact ah
   . simp(disch:=omega)[go_sem,ab,m0,m1,m2];exact⟨.refl _,dY (fA (wr:=true) (aj:=0) aw (by simp(disch:=omega)[go_sem];try rfl)) (.inl rfl) aC aw aw aw⟩
   replace hQ:=cq hQ;simp(disch:=omega)[go_sem,ab,m0,m1,m2];rw[<-ab];refine⟨_,aB.bb (l:=[(1,aI M0),(2,aI M1),(3,aI M2),(4,cx [false,false,false]),(5,iV 0),(6,cx [true,false]),(7,iV 0),(8,cx [true,false,false]),(9,iV 0),(10,cx [false,false]),(11,iV 0),(12,cx [false]),(13,iV 0)]) ah,M0,M1,M2,_, ?_, ?_, ?_, ?_, ?_, ?_,rfl⟩
   . simp(disch:=omega)[go_sem,ab,m0,m1,m2]
   . simp(disch:=omega)[go_sem,m0,m1,m2]
   . simp(disch:=omega)[go_sem,m0,m1,m2]
   . simp(disch:=omega)[go_sem];try omega
   . simp(disch:=omega)[go_sem];try omega
   . simp(disch:=omega)[go_sem];try omega
 rintro d ⟨M0,M1,M2,H,m0,m1,m2,h1,h2,h3,rfl⟩;rw[ab]at m0;refine iJ (sO ge [(4,cx [false,false,false]),(5,iV 0),(6,cx [true,false]),(7,iV 0),(8,cx [true,false,false]),(9,iV 0),(10,cx [false,false]),(11,iV 0),(12,cx [false]),(13,iV 0),(15,iV 240)]) ?_ ?_
 . refine aL ?_;refine bZ [aU 0,dC 0,dC 0,cR 6,aU 15,ai 31,ai 63,ai 63,ai 127,ai 511] ak 1 rfl ?_;simp(disch:=omega)[go_sem,m0,m1,m2];refine ax.mk ae λR=>aT λhR=> ?_;simp(disch:=omega)[go_sem,m0,m1,m2];refine⟨aa, ?_⟩;refine ax.fz g5 [H.next] ?_ ?_ λQ hQ=> ?_
   . exact ah
   . simp(disch:=omega)[go_sem,ab,m0,m1,m2];exact⟨.refl _,dY (fA (wr:=true) (aj:=0) aw (by simp(disch:=omega)[go_sem];try rfl)) (.inl rfl) aC aw aw aw⟩
   replace hQ:=cq hQ;simp(disch:=omega)[go_sem,ab,m0,m1,m2];refine⟨_,aB.bb (l:=[(1,aI M0),(2,aI M1),(3,aI M2),(4,cx [false,false,false]),(5,iV 0),(6,cx [true,false]),(7,iV 0),(8,cx [true,false,false]),(9,iV 0),(10,cx [false,false]),(11,iV 0),(12,cx [false]),(13,iV 0),(15,iV 240)]) ah,M0,M1,M2,_, ?_, ?_, ?_, ?_, ?_, ?_,rfl⟩
   . simp(disch:=omega)[go_sem,ab,m0,m1,m2]
   . simp(disch:=omega)[go_sem,m0,m1,m2]
   . simp(disch:=omega)[go_sem,m0,m1,m2]
   . simp(disch:=omega)[go_sem];try omega
   . simp(disch:=omega)[go_sem];try omega
   . simp(disch:=omega)[go_sem];try omega
 rintro d ⟨M0,M1,M2,H,m0,m1,m2,h1,h2,h3,rfl⟩;rw[ab]at m0;refine iJ (sO ge [(4,cx [false,false,false]),(5,iV 0),(6,cx [true,false]),(7,iV 0),(8,cx [true,false,false]),(9,iV 0),(10,cx [false,false]),(11,iV 0),(12,cx [false]),(13,iV 0),(15,iV 240),(17,iV 91)]) ?_ ?_
 . refine aL ?_;refine bZ [dC 0,aU 0,cR 2,aU 7,ai 15,ai 31,ai 31,ai 63,ai 255] ak 1 rfl ?_;simp(disch:=omega)[go_sem,m0,m1,m2];refine⟨aa,ax.mk l4 λR=>aT λhR=> ?_⟩;simp(disch:=omega)[go_sem,ab,m0,m1,m2];rw[<-ab];refine ax.fz g6 [H.next] ?_ ?_ λQ hQ=> ?_
   . exact ah
   . simp(disch:=omega)[go_sem,ab,m0,m1,m2];exact⟨.refl _,dY (fA (wr:=true) (aj:=0) aw (by simp(disch:=omega)[go_sem];try rfl)) (.inl rfl) aC aw aw aw⟩
   replace hQ:=cq hQ;simp(disch:=omega)[go_sem,ab,m0,m1,m2];rw[<-ab];refine⟨_,aB.bb (l:=[(1,aI M0),(2,aI M1),(3,aI M2),(4,cx [false,false,false]),(5,iV 0),(6,cx [true,false]),(7,iV 0),(8,cx [true,false,false]),(9,iV 0),(10,cx [false,false]),(11,iV 0),(12,cx [false]),(13,iV 0),(15,iV 240),(17,iV 91)]) ah,M0,M1,M2,_, ?_, ?_, ?_, ?_, ?_, ?_,rfl⟩
   . simp(disch:=omega)[go_sem,ab,m0,m1,m2]
   . simp(disch:=omega)[go_sem,m0,m1,m2]
   . simp(disch:=omega)[go_sem,m0,m1,m2]
   . simp(disch:=omega)[go_sem];try omega
   . simp(disch:=omega)[go_sem];try omega
   . simp(disch:=omega)[go_sem];try omega
 rintro d ⟨M0,M1,M2,H,m0,m1,m2,h1,h2,h3,rfl⟩;rw[ab]at m0;refine du ?_;refine aL ?_;refine ax.pl (wM [false,false,false] aC) ?_ λQ hQ=> ?_
 . simp(disch:=omega)[go_sem,m0,m1,m2];exact dY (ck (wr:=true) (by simp(disch:=omega)[go_sem];try rfl)) (.inl rfl) aC aw aw aw
 replace hQ:=cq hQ;refine aL ?_;refine ax.pl (wM [true,false] aC) ?_ λQ hQ=> ?_
 . simp(disch:=omega)[go_sem,m0,m1,m2];exact dY (ck (wr:=true) (by simp(disch:=omega)[go_sem];try rfl)) (.inl rfl) aC aw aw aw
 replace hQ:=cq hQ;refine aL ?_;refine ax.pl (wM [true,false,false] aC) ?_ λQ hQ=> ?_
 . simp(disch:=omega)[go_sem,m0,m1,m2];exact dY (ck (wr:=true) (by simp(disch:=omega)[go_sem];try rfl)) (.inl rfl) aC aw aw aw
 replace hQ:=cq hQ;refine aL ?_;refine qN ?_;refine aL ?_;refine ax.pl (wM [false,false] aC) ?_ λQ hQ=> ?_
 . simp(disch:=omega)[go_sem,m0,m1,m2];exact dY (ck (wr:=true) (by simp(disch:=omega)[go_sem];try rfl)) (.inl rfl) aC aw aw aw
 replace hQ:=cq hQ;refine aL ?_;refine ax.pl (wM [false] aC) ?_ λQ hQ=> ?_
 . simp(disch:=omega)[go_sem,m0,m1,m2];exact dY (ck (wr:=true) (by simp(disch:=omega)[go_sem];try rfl)) (.inl rfl) aC aw aw aw
 replace hQ:=cq hQ;exact ah
def KW(t:Tok)(s:ByteArray):Prop:=t.cls=0->t.lit=⟨#[]⟩->∃q∈mI,t.pat=q.1.p/\s=q.2
def kX(t:Tok)(c:Nat)(s:ByteArray):Bool:=decide (t.cls=0)&&er t.cond c&&(decide (t.lit=⟨#[]⟩)||decide (s=t.lit))
set_option maxHeartbeats 4000000 in
def aen(g:aq)(k:Nat)(t:Tok)(ht:g.au[k]? =some t)(hl:g.au.length<=1000)(ct:Nat)(af:t.cond=aM ct)(ab:ct<256)(c:Nat)(hc:c<8)(s:ByteArray)(hs:KW t s)(rm:DV)(ae:cZ rm=true):
 aE E true 17 [.agg g.e,cV c,.agg [iV (-1),iV (k:Nat),sV s,rm]] (bV (kX t c s)):=by
 have hk:=(FQ.1 ht).1;have ah:¬(k:Int)<0:=aa;have ai:¬(g.au.length:Int)<=k:=aa;have ad:=Kh ct c ab hc;rw[<-af]at ad;obtain⟨R,hR⟩:∃R,kX t c s=R:=⟨_,rfl⟩;rw[hR];refine bc Tryz.ntmps17 Tryz.results17 λN=> ?_;simp only[Dg.e]at ad;have ak:cC rm=[rm]:=by cases rm<;>first|rfl|(simp[cZ]at ae)
 simp(disch:=omega)[go_sem,aq.e,ae,ai,ah,ht,-getElem?_pos,Tok.e];by_cases h1:t.cls=0
 . simp(disch:=omega)[go_sem,h1];refine ax.mk ad λM=>aT λhM=> ?_;cases h2:er t.cond c with
   |false=>
    refine aL ?_;rw[show R=false from by rw[<-hR];simp[kX,h2]];exact .refl _
   |true=>
    by_cases h3:t.lit=⟨#[]⟩
    . obtain⟨q,q1,q2,q3⟩:=hs h1 h3;have hm:=adR q q1;rw[<-q2,<-q3]at hm;simp(disch:=omega)[go_sem,h3];refine ax.mk hm λM2=>dI λan=> ?_;rw[show R=true from by rw[<-hR];simp[kX,h1,h2,h3]];exact .refl _
    . simp(disch:=omega)[go_sem,h3];rw[show R=decide (s=t.lit)from by rw[<-hR];simp[kX,h1,h2,h3]];exact .refl _
 . simp(disch:=omega)[go_sem,h1];rw[show R=false from by rw[<-hR];simp[kX,h1]];exact .refl _
def gE(g:aq)(pv:DV):List DV:=[strs g.conds,.sl 3 (g.family.nodes.map cL),iV g.family.root,pv,strs g.aP,.sl 13 (g.ay.map aX.e),iV g.start,.sl 4 (g.bn.map dg.e),.sl 9 (g.aZ.map bk.e)]
def Tok.c(t:Tok):List DV:=[sV t.name,iV t.cls,sV t.lit,(match t.pat with|[]=>cK|_=>.sl 5 (t.pat.map bd.e)),sV t.jl,.sl 3 (t.cond.nodes.map cL),iV t.cond.root]
structure MS(r:dP)(g:aq)(N M M2:Nat)(B X:List Tok)(H:ae)(pv:DV):Prop where
 r:H.get N=some (.row r.e true 0)
 o:H.get (N+1)=some (.row eE true 0)
 g:H.get M=some (.row (gE g pv) true 0)
 c:H.get M2=some (.row (aW true).e true 0)
 pv:cw H (M2+1) H.next 7 (B.map Tok.e++X.map Tok.c) pv
 lt:N+1<M/\M<M2/\M2<H.next
def wP(B X:List Tok):∀x∈B.map Tok.e++X.map Tok.c,x.length=7:=λx hx=>by
 rcases adv.1 hx with hx|hx<;>(obtain⟨y,_,rfl⟩:=RK.1 hx;rfl)
def aeo(m:Int)(h0:0<=m)(h1:m<256):∀k:Nat,k<8->IntKind.u8.wrap (((yB IntKind.u8.bits (m.fdiv (2^(min k IntKind.u8.bits)))&&&yB IntKind.u8.bits 1).toNat:Nat):Int)=if bW m k then 1 else 0:=by
 have h:((afx 256).all λm=>(afx 8).all λk=>decide (IntKind.u8.wrap (((yB IntKind.u8.bits ((m:Int).fdiv (2^(min k IntKind.u8.bits)))&&&yB IntKind.u8.bits 1).toNat:Nat):Int)=if bW (m:Nat) k then 1 else 0))=true:=ak;intro k hk;have h2:=of_decide_eq_true (YT.1 (YT.1 h m.toNat (by simp;omega)) k (by simpa using hk));rw[af2 h0]at h2;exact h2
def MS.app{r:dP}{g:aq}{N M M2:Nat}{B X:List Tok}{H H1:ae}{pv:DV}{q:Nat}{K:DV×ae×List Nat->Prop}(ms:MS r g N M M2 B X H pv)(t:Tok)(hl:B.length+X.length<=1000)(hn:H.next<=H1.next)(hs:∀j,j<H.next->H1.get j=H.get j)(hq:H1.get q=some (.row t.c true 0))
 (hk:∀H' ab T,(∀i∈T,M2+1<=i/\i<H.next)->cC ab=[ab]->cZ ab=true->H'.get M=some (.row (gE g pv) true 0)->H1.next<H'.next->(∀j,j<H1.next->fP pv≠some j->H'.get j=H1.get j)->MS r g N M M2 B (X++[t]) (H'.set M (some (.row (gE g ab) true 0))) ab->K (ab,H',T)):aO (jJ E H1 #[34,34] (some [pv,.v (.slice (some ⟨q,0,none⟩) 1 1)])) K:=by
 obtain⟨m1,m2,m3,m4,m5,m6,m7,m8⟩:=ms;refine cw.app (st:=34) (xt:=34) (B:=M2+1) (U:=H.next) (k:=7) (xs:=B.map Tok.e++X.map Tok.c) (m5.same (λj _ j2=>hs j j2) (E2 _)) BA Bz aa hn hq aC (by rfl) (by cases hp:t.pat<;>simp[Tok.c,hp,go_sem]) (wP _ _) (by rw[RC,yy,yy];omega) λH' ab T q0 q1 q2 q3 q4=> ?_;obtain⟨p1,p2⟩:=q1.cells;have bl:∀j,j<M2+1->H'.get j=H.get j:=λj hj=>by rw[q3 j aa (m5.ne (.inl hj)),hs j aa]
 refine hk H' ab T q0 p1 p2 (by rw[bl M aa,m3]) aa q3 ⟨?_, ?_, ?_, ?_, ?_,m6,m7,by rw[ae.aY];omega⟩
 . rw[ae.bu,if_neg aa,bl N aa,m1]
 . rw[ae.bu,if_neg aa,bl (N+1) aa,m2]
 . rw[ae.bu,if_pos rfl]
 . rw[ae.bu,if_neg aa,bl M2 aa,m4]
 . rw[Vs,<-afH];exact q1.same (λj q5 q6=>by rw[ae.bu,if_neg aa]) (by rw[ae.aY];exact E2 _)
def aep(m:Int)(h0:0<=m)(h1:m<256):IntKind.u8.wrap (((yB IntKind.u8.bits m&&&yB IntKind.u8.bits 8).toNat:Nat):Int)=(if bW m 3 then 8 else 0)/\
 IntKind.u8.wrap (((yB IntKind.u8.bits m&&&yB IntKind.u8.bits 16).toNat:Nat):Int)=(if bW m 4 then 16 else 0)/\IntKind.u8.wrap (((yB IntKind.u8.bits m&&&yB IntKind.u8.bits 96).toNat:Nat):Int)=(if bW m 5 then 32 else 0)+(if bW m 6 then 64 else 0):=by
 have h:((afx 256).all λm=>decide (IntKind.u8.wrap (((yB IntKind.u8.bits (m:Nat)&&&yB IntKind.u8.bits 8).toNat:Nat):Int)=(if bW (m:Nat) 3 then 8 else 0)/\
  IntKind.u8.wrap (((yB IntKind.u8.bits (m:Nat)&&&yB IntKind.u8.bits 16).toNat:Nat):Int)=(if bW (m:Nat) 4 then 16 else 0)/\IntKind.u8.wrap (((yB IntKind.u8.bits (m:Nat)&&&yB IntKind.u8.bits 96).toNat:Nat):Int)=(if bW (m:Nat) 5 then 32 else 0)+(if bW (m:Nat) 6 then 64 else 0)))=true:=ak
 have h2:=of_decide_eq_true (YT.1 h m.toNat (by simp;omega));rw[af2 h0]at h2;exact h2
def SI(r:dP)(g:aq)(N M M2:Nat)(B X:List Tok)(d:DS):Prop:=∃(H:ae) (pv:DV),MS r g N M M2 B X H pv/\d=⟨bw [(1,aI N),(2,aI (N+1)),(5,aI M),(6,aI M2)],184,[],H⟩
def DX(i:Nat){q:ByteArray×List bd}(h:([(⟨#[91,97,45,122,93,91,97,45,122,93,42]⟩,ib),(⟨#[91,97,45,122,93,91,48,45,57,93,42,43]⟩,nB),(⟨#[92,120,50,97,43,91,97,45,122,93,42]⟩,zg),(⟨#[92,120,50,48,120]⟩,pP)]:List (ByteArray×List bd))[i]? =some q):
 aE E true 14 [sV q.1] (.bp [.sl 5 (q.2.map bd.e),iV 0]):=ac1 q (qG h)
def aeq(T:List Tok):((T.map Tok.e).flatten).length=T.length*7:=by
 have:=fF (k:=7) (xs:=T.map Tok.e) (λx hx=>by obtain⟨y,_,rfl⟩:=RK.1 hx;rfl);rwa[yy]at this
def aer(T:List Tok)(Y:List DV)(i:Nat)(h:i<T.length)(d:Dg):((T.map Tok.e).flatten++Y).take (i*7+5)++(d.e++((T.map Tok.e).flatten++Y).drop (i*7+7))=((T.modify i λx=>{x with cond:=d}).map Tok.e).flatten++Y:=by
 obtain⟨t,ht⟩:∃t,T[i]? =some t:=⟨_,KE h⟩;have e1:T=T.take i++(t::T.drop (i+1)):=by
  have he:=(FQ.1 ht).2;rw[<-he,<-afA h,af3]
 have e2:(T.modify i λx=>{x with cond:=d})=T.take i++({t with cond:=d}::T.drop (i+1)):=by
  rw[List.modify_eq_take_cons_drop h];rw[(FQ.1 ht).2]
 have hl:((T.take i).map Tok.e).flatten.length=i*7:=by rw[aeq,afR];omega
 obtain⟨A,hA⟩:∃A,((T.take i).map Tok.e).flatten=A:=⟨_,rfl⟩;obtain⟨C,hC⟩:∃C,((T.drop (i+1)).map Tok.e).flatten=C:=⟨_,rfl⟩;rw[hA]at hl;rw[e2];have f1:(T.map Tok.e).flatten=A++(t.e++C):=by
  conv=>lhs;rw[e1]
  rw[Vs,afD,adr,afw,hA,hC]
 rw[f1,Vs,afD,adr,afw,hA,hC];have t1:((A++(t.e++C))++Y).take (i*7+5)=A++[sV t.name,iV t.cls,sV t.lit,.sl 5 (t.pat.map bd.e),sV t.jl]:=by
  rw[afH,af4,afI aa,hl,af5];rfl
 have t2:((A++(t.e++C))++Y).drop (i*7+7)=C++Y:=by
  rw[afH,af6,afv aa,hl,af5,afC];rfl
 rw[t1,t2];simp[Tok.e,Dg.e]
def zw:List ByteArray:=[⟨#[120]⟩,⟨#[105,102]⟩,⟨#[101,108,115,101]⟩,⟨#[97,98]⟩]
def jY(t:Tok)(k:Nat)(b:Int):ByteArray:=if t.lit=⟨#[]⟩then(if k=0 then(zw[(b/16%4).toNat]?).getD ⟨#[]⟩else t.jl)else t.lit
def fT(T:List Tok)(b:Int):Lf:=⟨(b%T.length).toNat,jY ((T[(b%T.length).toNat]?).getD iG) (b%T.length).toNat b⟩
def kr(T:List Tok)(c:Nat)(l:Lf):Bool:=match T[l.tok]? with
 |some t=>kX t c l.text
 |none=>false
def ku(r:dP)(c:Nat):List Lf:=((r.leaves.take 12).map (fT (bG r).au)).filter (kr (bG r).au c)
def aes{α:Type}(A C:List α)(i:Nat)(f:α->α)(h:i<A.length):(A++C).modify i f=A.modify i f++C:=by
 apply af0;intro j;rw[af7];rcases afN j A.length with hj|hj
 . rw[afJ hj,afJ (by rw[afS];exact hj),af7]
 . rw[afK hj,afK (by rw[afS];exact hj),afS];have ao:¬i=j:=aa;simp[ao]
def KX(r:dP)(hr:r.Ok):(bG r).au=(if bW r.marks 5&&bW r.marks 6 then(cB bA r.x).au.modify 9 (λx=>{x with cond:=aW false})else(cB bA r.x).au)++gu r.marks (cB bA r.x).conds.length/\bG r={cB bA r.x with au:=(bG r).au}:=by
 have aF:=(pO r.x hr.x).room.au;unfold bG;simp only
 split
 . refine⟨?_,rfl⟩;show((cB bA r.x).au++gu r.marks (cB bA r.x).conds.length).modify 9 _=_;exact aes _ _ 9 _ aa
 . exact⟨rfl,rfl⟩
def DY{t t':Tok}(h:t.strip=t'.strip):t.cls=t'.cls/\t.lit=t'.lit/\t.pat=t'.pat/\t.jl=t'.jl:=by
 have:=h;simp only[Tok.strip,Tok.mk.injEq]at this;exact⟨this.2.1,this.2.2.1,this.2.2.2.1,this.2.2.2.2.1⟩
def DZ(r:dP)(hr:r.Ok)(k:Nat)(t:Tok)(b:Int)(hk:(bG r).au[k]? =some t)(hb:0<=b/\b<256):KW t (jY t k b):=by
 intro hc hl;have hs:=(uH r hr).strip;have ah:((au++gu r.marks (cB bA r.x).conds.length).map Tok.strip)[k]? =some t.strip:=by rw[<-hs,ab8,hk];rfl
 rw[ab8]at ah;obtain⟨t0,h0,h1⟩:=Option.map_eq_some_iff.1 ah;obtain⟨a1,a2,a3,a4⟩:=DY h1;rw[<-a1]at hc;have ai:t0.lit=⟨#[]⟩:=by rw[a2,hl]
 have hm:=qG h0;have ad:t0=iG/\k=0\/t0.pat=nB/\t0.jl=⟨#[120,43]⟩/\k≠0:=by
  by_cases av:k=0
  . subst av;have:(au++gu r.marks (cB bA r.x).conds.length)[0]? =some iG:=rfl;rw[this]at h0;cases h0;exact .inl ⟨rfl,rfl⟩
  . right;have af:(au++gu r.marks (cB bA r.x).conds.length)=iG::((lits.map fN++[mw,yz])++gu r.marks (cB bA r.x).conds.length):=rfl;obtain⟨j,rfl⟩:∃j,k=j+1:=⟨k-1,aa⟩;rw[af,List.getElem?_cons_succ]at h0;have hm:=qG h0;have ab:∀s∈lits++iv,s≠⟨#[]⟩:=by
     have h:((lits++iv).all λs=> !decide (s=⟨#[]⟩))=true:=ak;intro s hs;simpa using YT.1 h s hs
    rcases adv.1 hm with hm|hm
    . exfalso;simp only[adv,RK,Xy,YN,or_false]at hm;rcases hm with⟨s,hs,rfl⟩|rfl|rfl
      . exact ab s (adv.2 (.inl hs)) ai
      . exact absurd hc aC
      . exact absurd hc aC
    . have:=(uG r.marks (cB bA r.x).conds.length).subset hm;simp only[adv,Xy,RK,YN,or_false]at this;rcases this with⟨s,hs,rfl⟩|rfl|rfl|rfl
      . exact absurd ai (ab s (adv.2 (.inr hs)))
      . exact⟨rfl,rfl,aa⟩
      . exact absurd hc aC
      . exact absurd hc aC
 unfold jY;rw[if_pos hl];rcases ad with⟨rfl,rfl⟩|⟨h2,h3,h4⟩
 . rw[if_pos rfl,<-a3];have:(b/16%4).toNat=0\/(b/16%4).toNat=1\/(b/16%4).toNat=2\/(b/16%4).toNat=3:=aa;rcases this with h|h|h|h
   . rw[h];exact⟨_,qG (i:=0) rfl,rfl,rfl⟩
   . rw[h];exact⟨_,qG (i:=1) rfl,rfl,rfl⟩
   . rw[h];exact⟨_,qG (i:=2) rfl,rfl,rfl⟩
   . rw[h];exact⟨_,qG (i:=3) rfl,rfl,rfl⟩
 . rw[if_neg h4,<-a3,<-a4,h2,h3];exact⟨_,qG (i:=4) rfl,rfl,rfl⟩
def aet{S:eQ}(t:Tok):cI S t.c t.e:=by
 unfold Tok.c Tok.e;simp only[vT,vS,vR,and_true,true_and];cases t.pat with
 |nil=>exact .nil aC
 |cons x l=>exact .refl _
def D0{S:eQ}:∀(B X:List Tok),cI S (B.map Tok.e++X.map Tok.c).flatten ((B++X).map Tok.e).flatten
 |[],[]=>.nil
 |[],x::X=>by
  simp only[afQ,afC,adr,afw];exact aV.append (aet x) (by simpa using D0 [] X)
 |b::B,X=>by
  simp only[adr,afX,afw];exact aV.append (cI.refl _) (D0 B X)
def MS.fz{r:dP}{g:aq}{N M M2:Nat}{B X:List Tok}{H:ae}{pv:DV}(ms:MS r g N M M2 B X H pv){S:eQ}(hS:∀R cs,fP pv=some R->H.get R=some (.row cs true 7)->S R=some (cs,7)):cI S (gE g pv) (aq.e {g with au:=B++X}):=by
 have hp:Fz S pv (.sl 7 ((B++X).map Tok.e)):=by
  rcases ms.pv with⟨h0,rfl⟩|⟨R,h1,h2,rfl,h4⟩
  . have hB:B=[]:=by cases B with|nil=>rfl|cons b B=>simp at h0
    have hX:X=[]:=by cases X with|nil=>rfl|cons b X=>simp at h0
    subst hB;subst hX;exact .nil aC
  . refine iZ (hS R _ rfl h4) (.inr rfl) aC aw (E2 _) (λx hx=>by obtain⟨y,_,rfl⟩:=RK.1 hx;rfl) (D0 B X)
 simp only[gE,aq.e,vT,vS,vR,and_true,true_and];exact hp
def KY{S:eQ}:∀(L:List Lf),cI S (L.map Lf.c).flatten (L.map Lf.e).flatten
 |[]=>.nil
 |l::L=>by
  simp only[adr,afw];refine aV.append ?_ (KY L);simp only[Lf.c,Lf.e,vT,vS,vR,and_true,true_and];exact .nil aC
def aeu(B X:List Tok)(k:Nat)(t:Tok)(hk:(B++X)[k]? =some t):∃d3,cZ d3=true/\cC d3=[d3]/\(afT 7 (afU (k*7) (B.map Tok.e++X.map Tok.c).flatten))=[sV t.name,iV t.cls,sV t.lit,d3,sV t.jl,.sl 3 (t.cond.nodes.map cL),iV t.cond.root]/\k*7+7<=(B.map Tok.e++X.map Tok.c).flatten.length:=by
 have part:∀(xs:List (List DV)) (x:List DV),(∀y∈xs,y.length=7)->xs[k]? =some x->afT 7 (afU (k*7) xs.flatten)=x/\k*7+7<=xs.flatten.length:=λxs x hx h=>by
  have az:=(FQ.1 h).1;have e1:xs=xs.take k++(x::xs.drop (k+1)):=by rw[<-(FQ.1 h).2,<-afA az,af3]
  have hl:(xs.take k).flatten.length=k*7:=by rw[fF λy hy=>hx y (List.mem_of_mem_take hy),afR];congr 1;omega
  have an:x.length=7:=hx x (qG h);have e2:xs.flatten=(xs.take k).flatten++(x++(xs.drop (k+1)).flatten):=by
   have:=congrArg List.flatten e1;rwa[afD,afw]at this
  rw[e2,af6,afv aa,hl,afO,af1,afC,af4,afI aa,an,afO,List.take_zero,afB];exact⟨rfl,by simp only[RC,hl,an];omega⟩
 rcases afN k B.length with h|h
 . rw[afJ h]at hk;obtain⟨h1,h2⟩:=part _ t.e (wP B X) (by rw[afJ (by rw[yy];exact h),ab8,hk];rfl);exact⟨.sl 5 (t.pat.map bd.e),rfl,rfl,h1,h2⟩
 . rw[afK h]at hk;obtain⟨h1,h2⟩:=part _ t.c (wP B X) (by rw[afK (by rw[yy];exact h),yy,ab8,hk];rfl);refine⟨(match t.pat with|[]=>cK|_=>.sl 5 (t.pat.map bd.e)), ?_, ?_,h1,h2⟩
   . cases t.pat<;>rfl
   . cases t.pat<;>rfl
set_option maxHeartbeats 8000000 in
def KZ(r:dP)(hr:r.Ok)(c:Nat)(hc:c<8)(bP:aE E true 16 [.agg (bG r).e,uV r.config] (cV c)):aE E true 6 [.agg r.e] (.bp [.agg (bG r).e,cV c,.sl 4 ((ku r c).map Lf.e)]):=by
 obtain⟨cg,bB⟩:∃cg,DV.bp [.agg (bG r).e,cV c,.sl 4 ((ku r c).map Lf.e)]=cg:=⟨_,rfl⟩;rw[bB];refine qM Tryz.ntmps6 Tryz.results6 λN=> ?_;have aH:=aax r.x hr.x;obtain⟨g,hg⟩:∃g,cB bA r.x=g:=⟨_,rfl⟩;rw[hg]at aH;have av:r.e=[uV r.x.base,uV r.x.n,.sl 1 (r.x.family.map λb=>[uV b]),.sl 4 (r.x.lines.map Ln.e),.sl 5 (r.x.rules.map Rl.e),uV r.marks,uV r.config,.sl 1 (r.leaves.map λb=>[uV b])]:=rfl;simp only[cM.e]at aH;refine du ?_;simp(disch:=omega)[go_sem,av];refine du ?_;refine aL ?_;refine ax.mk aH λM=>aT λhM=> ?_;simp(disch:=omega)[go_sem,aq.e];refine du ?_;refine aL ?_;refine ax.mk (pF true) λM2=>aT λcP=> ?_;simp(disch:=omega)[go_sem,Dg.e,aW];refine du ?_;refine aL ?_;have bQ:=pO r.x hr.x;rw[hg]at bQ;have ch:=bQ.room.au;refine fM (wr:=true) (cs:=[]) ah aw aa aa ?_;refine aL ?_;refine du ?_;refine aL ?_;refine iJ (SI r g N M M2 g.au (iM r.marks 3)) ?_ ?_
 . refine aL ?_;obtain⟨I,hI⟩:∃I:Nat->DS->Prop,∀j d,I j d↔∃(k:Nat) (H:ae) (pv:DV),j+k=3/\MS r g N M M2 g.au (iM r.marks k) H pv/\M2+3<H.next/\H.get (M2+3)=some (.row (iv.map sV) true 0)/\fP pv≠some (M2+3)/\
    d=⟨bw [(1,aI N),(2,aI (N+1)),(5,aI M),(6,aI M2),(7,.v (.slice (some ⟨M2+3,0,none⟩) 3 3)),(8,iV (k:Nat))],184,[],H⟩:=⟨_,λ_ _=>RW⟩
   refine bS I 3 ⟨_,aB.bb (l:=[(1,aI N),(2,aI (N+1)),(5,aI M),(6,aI M2),(7,.v (.slice (some ⟨M2+3,0,none⟩) 3 3)),(8,iV (0:Nat))]) ah,(hI _ _).2 ⟨0,_,.v (.slice (some ⟨M2+2,0,none⟩) g.au.length g.au.length),rfl,⟨?_, ?_, ?_, ?_, ?_, ?_⟩,ah, ?_,by simp[fP],rfl⟩⟩ ?_
   . simp(disch:=omega)[go_sem,av]
   . simp(disch:=omega)[go_sem,eE]
   . simp(disch:=omega)[go_sem,gE]
   . simp(disch:=omega)[go_sem,aW,Dg.e]
   . refine .inr ⟨M2+2,aa,by simp(disch:=omega)[go_sem];try omega,by simp[iM],by simp(disch:=omega)[go_sem,iM]⟩
   . refine⟨aa,aa,by simp(disch:=omega)[go_sem];try omega⟩
   . simp(disch:=omega)[go_sem,iv]
   . intro j ds bD;obtain⟨k,H,pv,hj,ms,hN,f1,cl,rfl⟩:=(hI _ _).1 bD;clear bD;obtain⟨m1,m2,m3,m4,m5,m6,m7,m8⟩:=ms;by_cases cy:k<3
     . have bf:(k:Int)<3:=aa;have hb:=aeo r.marks hr.marks.1 hr.marks.2 k aa;have hw:IntKind.u64.wrap (k:Int)=k:=wrap_u64 aa aa;have hX:iM r.marks (k+1)=iM r.marks k++if bW r.marks k then [fN (iv[k]?.getD ⟨#[]⟩)]else []:=by simp only[iM,afM,af8];simp
       by_cases cm:bW r.marks k=true
       . simp only[if_pos cm]at hb hX;replace hb:=cq hb;rw[av]at m1;simp(disch:=omega)[go_sem,bf,m1,hw,hb];refine bZ [ai 0,aK 1,ai 0,ai 0,ai 12,aK 28,ai 0,ai 0,ai 192,aK 448,aK 0,ai 2044,cR 4092,aU 8191,ai 16383,aU 32767] ak 1 rfl ?_;obtain⟨s,hs⟩:∃s,iv[k]? =some s:=⟨_,KE (by simpa[iv]using cy)⟩;rw[hs]at hX;simp(disch:=omega)[go_sem,m3,gE,f1,hs,m4,Dg.e,aW,-getElem?_pos];have cQ:(g.au.map Tok.e++(iM r.marks k).map Tok.c).length<=30:=by
          have h1:=(uG r.marks 0).length_le;have h2:(iM r.marks k).length<=k:=by
           have:∀k,(iM r.marks k).length<=k:=λk=>by
            induction k with
            |zero=>simp[iM]
            |succ n ih=>
             have e:iM r.marks (n+1)=iM r.marks n++if bW r.marks n then [fN (iv[n]?.getD ⟨#[]⟩)]else []:=by simp only[iM,afM,af8];simp
             rw[e,RC]
             split<;>simp<;>omega
           exact this k
          rw[RC,yy,yy];omega
         refine cw.app (st:=34) (xt:=34) (B:=M2+1) (U:=H.next) (k:=7) (xs:=g.au.map Tok.e++(iM r.marks k).map Tok.c) (m5.same (λq q1 q2=>by rw[ae.bu,if_neg aa];rfl) (E2 _)) BA Bz aa ah (new:=(fN s).c) (by simp(disch:=omega)[go_sem];rfl) aC rfl rfl (wP _ _) aa λH' bg T q0 q1 q2 q3 q4=> ?_;simp(disch:=omega)[go_sem]at q2 q3;have e3:H'.get M=some (.row (gE g pv) true 0):=by rw[q3 _ aa (m5.ne (.inl aa))];simp(disch:=omega)[go_sem,m3]
         obtain⟨p1,p2⟩:=q1.cells;simp(disch:=omega)[go_sem,e3,gE,p1,p2,aG];refine⟨j-1,aa,_,aB.bb (l:=[(1,aI N),(2,aI (N+1)),(5,aI M),(6,aI M2),(7,.v (.slice (some ⟨M2+3,0,none⟩) 3 3)),(8,iV (k+1:Nat))]) ah,(hI _ _).2 ⟨k+1,_,bg,aa,⟨?_, ?_, ?_, ?_, ?_,⟨m6,m7, ?_⟩⟩, ?_, ?_, ?_,rfl⟩⟩
         . simp(disch:=omega)[go_sem];rw[q3 _ aa (m5.ne (.inl aa)),av];simp(disch:=omega)[go_sem,m1]
         . simp(disch:=omega)[go_sem];rw[q3 _ aa (m5.ne (.inl aa))];simp(disch:=omega)[go_sem,m2]
         . simp(disch:=omega)[go_sem,gE]
         . simp(disch:=omega)[go_sem];rw[q3 _ aa (m5.ne (.inl aa))];simp(disch:=omega)[go_sem,m4]
         . rw[hX,Vs,<-afH];exact q1.same (λq q5 q6=>by rw[ae.bu,if_neg aa]) (by rw[ae.aY];exact E2 _)
         . simp(disch:=omega)[go_sem];omega
         . simp(disch:=omega)[go_sem];omega
         . simp(disch:=omega)[go_sem];rw[q3 _ aa cl];simp(disch:=omega)[go_sem,f1]
         . rw[q4];simp(disch:=omega)[go_sem];omega
       . simp only[if_neg cm]at hb hX;replace hb:=cq hb;rw[av]at m1;simp(disch:=omega)[go_sem,bf,m1,hw,hb,aG];refine⟨j-1,aa,_,aB.bb (l:=[(1,aI N),(2,aI (N+1)),(5,aI M),(6,aI M2),(7,.v (.slice (some ⟨M2+3,0,none⟩) 3 3)),(8,iV (k+1:Nat))]) ?_,(hI _ _).2 ⟨k+1,_,pv,aa,⟨by rw[av];exact m1,m2,m3,m4,by rw[hX];simpa using m5,⟨m6,m7,m8⟩⟩,hN,f1,cl,rfl⟩⟩;exact ah
     . have bf:¬(k:Int)<3:=aa;obtain rfl:k=3:=aa;refine aL ?_;refine⟨_,aB.bb (l:=[(1,aI N),(2,aI (N+1)),(5,aI M),(6,aI M2)]) ?_,_,pv,⟨m1,m2,m3,m4,m5,m6,m7,m8⟩,rfl⟩;exact ah
 rintro d ⟨H,pv,ms,rfl⟩;obtain⟨aX,ad,ab⟩:=aep r.marks hr.marks.1 hr.marks.2;have bR:aE E true 15 [uV r.marks,iV (g.conds.length:Nat)] (.agg (cE bA r.marks g.conds.length).e):=HY Io bA Ir r.marks g.conds.length hr.marks.1 hr.marks.2 bQ.room.conds;have cz:g.au.length+(iM r.marks 3).length<=20:=by
  have h1:=(uG r.marks 0).length_le;have:(iM r.marks 3).length<=(gu r.marks 0).length:=by simp only[gu,RC];omega
  simp only[RC,yy,afZ,List.length_nil,iv]at h1;omega
 obtain⟨X1,cn⟩:∃X1,iM r.marks 3=X1:=⟨_,rfl⟩;rw[cn]at ms cz;refine iJ (SI r g N M M2 g.au (X1++if bW r.marks 3 then [pR (cE bA r.marks g.conds.length)]else [])) ?_ ?_
 . have m1:=ms.r;have m3:=ms.g;rw[av]at m1;obtain⟨l1,l2,l3⟩:=ms.lt;by_cases hb:bW r.marks 3=true
   . simp only[if_pos hb]at aX⊢;replace aX:=cq aX;simp(disch:=omega)[go_sem,m1,aX];refine ax.mk (DX 1 rfl) λP hP=> ?_;refine aL ?_;refine bZ [lr 0,dC 1,ai 0,ai 0,aK 8,ai 0,aK 32,aK 96,aU 248,ai 508,cR 1020,aU 2047,ai 4095,aU 8191] ak 1 rfl ?_;simp(disch:=omega)[go_sem,m1,m3,gE];refine⟨aa, ?_⟩;refine ax.mk bR λP2=>aT λaQ=> ?_;simp(disch:=omega)[go_sem,Dg.e,m3,gE];refine ms.app (q:=P) (pR (cE bA r.marks g.conds.length)) aa (by simp(disch:=omega)[go_sem];try omega) (λj hj=>by rw[ae.bu,if_neg aa];rfl) (by simp(disch:=omega)[go_sem];rfl) λH' bg T q0 p1 p2 e3 q1 q3 bE=> ?_;have nT:∀j,j<M2+1->j∉T:=λj hj hm=>by have:=q0 j hm;omega
     simp(disch:=omega)[go_sem,e3,gE,p1,p2,nT];refine⟨_,aB.bb (l:=[(1,aI N),(2,aI (N+1)),(5,aI M),(6,aI M2)]) ?_,_,bg,by simpa[gE]using bE,rfl⟩;exact ah
   . simp only[if_neg hb]at aX⊢;replace aX:=cq aX;simp(disch:=omega)[go_sem,m1,aX];refine⟨_,aB.bb (l:=[(1,aI N),(2,aI (N+1)),(5,aI M),(6,aI M2)]) ?_,_,pv,by simpa using ms,rfl⟩;exact ah
 rintro d ⟨H,pv,ms,rfl⟩;obtain⟨X2,bT⟩:∃X2,(X1++if bW r.marks 3 then [pR (cE bA r.marks g.conds.length)]else [])=X2:=⟨_,rfl⟩;rw[bT]at ms;have cS:g.au.length+X2.length<=21:=by rw[<-bT,RC];split<;>simp<;>omega
 refine iJ (SI r g N M M2 g.au (X2++if bW r.marks 4 then [pS]else [])) ?_ ?_
 . have m1:=ms.r;have m3:=ms.g;have m4:=ms.c;rw[av]at m1;obtain⟨l1,l2,l3⟩:=ms.lt;by_cases hb:bW r.marks 4=true
   . simp only[if_pos hb]at ad⊢;replace ad:=cq ad;simp(disch:=omega)[go_sem,m1,ad];refine ax.mk (DX 2 rfl) λP hP=> ?_;simp(disch:=omega)[go_sem,m3,gE,m4,Dg.e,aW];refine ms.app (q:=P) pS aa (by simp(disch:=omega)[go_sem];try omega) (λj hj=>by rw[ae.dN,if_neg (by rw[ae.iU];omega)];rfl) (by simp(disch:=omega)[go_sem];rfl) λH' bg T q0 p1 p2 e3 q1 q3 bE=> ?_;simp(disch:=omega)[go_sem,e3,gE,p1,p2];refine⟨_,aB.bb (l:=[(1,aI N),(2,aI (N+1)),(5,aI M),(6,aI M2)]) ?_,_,bg,by simpa[gE]using bE,rfl⟩;exact ah
   . simp only[if_neg hb]at ad⊢;replace ad:=cq ad;simp(disch:=omega)[go_sem,m1,ad];refine⟨_,aB.bb (l:=[(1,aI N),(2,aI (N+1)),(5,aI M),(6,aI M2)]) ?_,_,pv,by simpa using ms,rfl⟩;exact ah
 rintro d ⟨H,pv,ms,rfl⟩;obtain⟨X3,bX⟩:∃X3,(X2++if bW r.marks 4 then [pS]else [])=X3:=⟨_,rfl⟩;rw[bX]at ms;have cU:g.au.length+X3.length<=22:=by rw[<-bX,RC];split<;>simp<;>omega
 refine iJ (SI r g N M M2 g.au (X3++if bW r.marks 5&& !bW r.marks 6 then [pT]else [])) ?_ ?_
 . have m1:=ms.r;have m3:=ms.g;have m4:=ms.c;rw[av]at m1;obtain⟨l1,l2,l3⟩:=ms.lt;by_cases hb:(bW r.marks 5&& !bW r.marks 6)=true
   . have bF:bW r.marks 5=true/\bW r.marks 6=false:=by simpa using hb
     simp only[if_pos hb];rw[bF.1,bF.2]at ab;replace ab:=cq ab;simp(disch:=omega)[go_sem,m1,ab];refine ax.mk (DX 3 rfl) λP hP=> ?_;simp(disch:=omega)[go_sem,m3,gE,m4,Dg.e,aW];refine ms.app (q:=P) pT aa (by simp(disch:=omega)[go_sem];try omega) (λj hj=>by rw[ae.dN,if_neg (by rw[ae.iU];omega)];rfl) (by simp(disch:=omega)[go_sem];rfl) λH' bg T q0 p1 p2 e3 q1 q3 bE=> ?_;simp(disch:=omega)[go_sem,e3,gE,p1,p2];refine⟨_,aB.bb (l:=[(1,aI N),(2,aI (N+1)),(5,aI M),(6,aI M2)]) ?_,_,bg,by simpa[gE]using bE,rfl⟩;exact ah
   . simp only[if_neg hb];have bj:IntKind.u8.wrap (((yB IntKind.u8.bits r.marks&&&yB IntKind.u8.bits 96).toNat:Nat):Int)≠32:=by
      rw[ab];cases h5:bW r.marks 5<;>cases h6:bW r.marks 6<;>simp[h5,h6]at hb⊢
     clear ab;replace bj:=cq bj;simp(disch:=omega)[go_sem,m1,bj];refine⟨_,aB.bb (l:=[(1,aI N),(2,aI (N+1)),(5,aI M),(6,aI M2)]) ?_,_,pv,by simpa using ms,rfl⟩;exact ah
 rintro d ⟨H,pv,ms,rfl⟩;obtain⟨X4,bY⟩:∃X4,(X3++if bW r.marks 5&& !bW r.marks 6 then [pT]else [])=X4:=⟨_,rfl⟩;rw[bY]at ms;have cY:g.au.length+X4.length<=23:=by
  have:(if bW r.marks 5&& !bW r.marks 6 then [pT]else []).length<=1:=by split<;>simp
  rw[<-bY,RC];omega
 refine iJ (SI r g N M M2 (if bW r.marks 5&&bW r.marks 6 then g.au.modify 9 (λx=>{x with cond:=aW false})else g.au) X4) ?_ ?_
 . have m1:=ms.r;have m3:=ms.g;have m4:=ms.c;rw[av]at m1;obtain⟨l1,l2,l3⟩:=ms.lt;by_cases hb:(bW r.marks 5&&bW r.marks 6)=true
   . have bF:bW r.marks 5=true/\bW r.marks 6=true:=by simpa using hb
     simp only[if_pos hb];rw[bF.1,bF.2]at ab;replace ab:=cq ab;simp(disch:=omega)[go_sem,m1,ab];refine bZ [lr 0,dC 1,aU 0,ai 7,ai 15,aU 31] ak 0 rfl ?_;rcases ms.pv with⟨h0,_⟩|⟨R,r1,r2,rfl,r4⟩
     . have:=congrArg List.length h0;rw[RC,yy,ch]at this;simp at this
     simp(disch:=omega)[go_sem,m3,gE];refine⟨aa, ?_⟩;refine ax.mk (pF false) λP=>aT λhP=> ?_;have cC:((g.au.map Tok.e++X4.map Tok.c).flatten).length=(g.au.length+X4.length)*7:=by rw[fF (wP _ _),RC,yy,yy]
     have bM:=aer g.au ((X4.map Tok.c).flatten) 9 aa (aW false);rw[<-afD]at bM;simp only[aW,Dg.e]at bM;obtain⟨cells,an⟩:∃cells,(g.au.map Tok.e++X4.map Tok.c).flatten=cells:=⟨_,rfl⟩;rw[an]at bM cC r4;have b0:afT 68 cells++.sl 3 []::iV 0::afU 70 cells=((g.au.modify 9 λx=>{x with cond:=aW false}).map Tok.e).flatten++(X4.map Tok.c).flatten:=bM;simp(disch:=omega)[go_sem,Dg.e,aW,r4,b0,show 70<=cells.length from by omega];refine⟨_,aB.bb (l:=[(1,aI N),(2,aI (N+1)),(5,aI M),(6,aI M2)]) ah,_,.v (.slice (some ⟨R,0,none⟩) (g.au.length+X4.length) (g.au.length+X4.length)),⟨?_, ?_, ?_, ?_, ?_,⟨l1,l2,by simp(disch:=omega)[go_sem];omega⟩⟩,rfl⟩
     . rw[av];simp(disch:=omega)[go_sem,m1]
     . simp(disch:=omega)[go_sem,ms.o]
     . simp(disch:=omega)[go_sem,m3,gE]
     . simp(disch:=omega)[go_sem,m4,aW,Dg.e]
     . refine .inr ⟨R,r1,by simp(disch:=omega)[go_sem];omega,aw,by simp(disch:=omega)[go_sem,aW]⟩
   . simp only[if_neg hb];have bj:IntKind.u8.wrap (((yB IntKind.u8.bits r.marks&&&yB IntKind.u8.bits 96).toNat:Nat):Int)≠96:=by
      rw[ab];cases h5:bW r.marks 5<;>cases h6:bW r.marks 6<;>simp[h5,h6]at hb⊢
     clear ab;replace bj:=cq bj;simp(disch:=omega)[go_sem,m1,bj];refine⟨_,aB.bb (l:=[(1,aI N),(2,aI (N+1)),(5,aI M),(6,aI M2)]) ?_,_,pv,by simpa using ms,rfl⟩;exact ah
 rintro d ⟨H,pv,ms,rfl⟩;obtain⟨B,hB⟩:∃B,(if bW r.marks 5&&bW r.marks 6 then g.au.modify 9 (λx=>{x with cond:=aW false})else g.au)=B:=⟨_,rfl⟩;rw[hB]at ms;obtain⟨az,bk⟩:=KX r hr;rw[hg]at az bk;rw[hB]at az;have b1:X4=gu r.marks g.conds.length:=by rw[<-bY,<-bX,<-bT,<-cn];simp only[gu]
 rw[<-b1]at az;rw[az]at bk;have b2:B.length=11:=by rw[<-hB];split<;>simp[ch]
 obtain⟨nt,bs⟩:∃nt,(B.map Tok.e++X4.map Tok.c).length=nt:=⟨_,rfl⟩;have b3:nt=(bG r).au.length:=by rw[<-bs,az];simp
 have cD:11<=nt/\nt<=23:=by rw[<-bs,RC,yy,yy];omega
 have b5:∀R,fP pv=some R->M2<R/\R<H.next:=λR h3=>by
  rcases ms.pv with⟨_,rfl⟩|⟨R',h6,h5,rfl,_⟩
  . cases h3
  . simp only[fP,Option.some.injEq]at h3;omega
 have b6:∀{S:eQ} (H':ae),(∀j,M2<j->j<H.next->H'.get j=H.get j)->(∀R cs z,H'.get R=some (.row cs true z)->S R=some (cs,z))->cI S (gE g pv) (bG r).e:=λ{S} H' h1 h2=>by
  rw[bk];refine ms.fz λR cs h3 h4=>h2 R cs 7 (by obtain⟨a,b⟩:=b5 R h3;rw[h1 R a b];exact h4)
 have b7:∀(H':ae) (R:Nat) (cs:List DV) (z:Nat),H'.get R=some (.row cs true z)->allRows H' R=some (cs,z):=λH' R cs z h=>ck h;have m1:=ms.r;have m2:=ms.o;have m3:=ms.g;rw[av]at m1;obtain⟨l1,l2,l3⟩:=ms.lt;obtain⟨p1,p2⟩:=ms.pv.cells;refine du ?_;simp(disch:=omega)[go_sem,m3,m1,gE];refine ax.pl bP (.cons ?_ (.cons (.refl _) .nil)) λP hP=> ?_
 . rw[GN];exact b6 H (λ_ _ _=>rfl) (b7 H)
 refine aL ?_;refine du ?_;refine aL ?_
 let T:=(bG r).au
 let F:Nat->List Lf:=λk=>((r.leaves.take k).map (fT T)).filter (kr T c)
 have hT:(bG r).au=T:=rfl;refine iJ (λd=>∃(H':ae) (af:DV),H.next<=H'.next/\(∀j,j<H.next->H'.get j=H.get j)/\cw H' H.next H'.next 4 ((ku r c).map Lf.c) af/\d=⟨bw [(2,aI (N+1)),(5,aI M),(15,cV c),(16,af)],184,[],H'⟩) ?_ ?_
 . refine aL ?_;obtain⟨I,hI⟩:∃I:Nat->DS->Prop,∀j d,I j d↔∃(k:Nat) (H':ae) (af:DV),j+k=12/\k<=r.leaves.length/\H.next<=H'.next/\(∀j,j<H.next->H'.get j=H.get j)/\cw H' H.next H'.next 4 ((F k).map Lf.c) af/\
    d=⟨bw [(1,aI N),(2,aI (N+1)),(5,aI M),(15,cV c),(16,af),(17,iV (k:Nat))],184,[],H'⟩:=⟨_,λ_ _=>RW⟩
   refine bS I 12 ⟨_,aB.bb (l:=[(1,aI N),(2,aI (N+1)),(5,aI M),(15,cV c),(16,cK),(17,iV (0:Nat))]) ?_,(hI _ _).2 ⟨0,_,cK,rfl,Nat.zero_le _, ?_,λj hj=> ?_,.nil _ _ _ _,rfl⟩⟩ ?_
   . simp(disch:=omega)[go_sem]
   . rw[ae.iU];exact hP
   . rfl
   . intro j ds bD;obtain⟨k,H',af,hj,cZ,hn,hold,hgr,rfl⟩:=(hI _ _).1 bD;clear bD;have n1:H'.get N=some (.row r.e true 0):=by rw[hold N aa];exact ms.r
     have n3:H'.get M=some (.row (gE g pv) true 0):=by rw[hold M aa];exact ms.g
     rw[av]at n1;have done:(k=12\/k=r.leaves.length)->F k=ku r c:=λh=>by
      rcases h with rfl|rfl
      . rfl
      . show((r.leaves.take r.leaves.length).map (fT T)).filter (kr T c)=((r.leaves.take 12).map (fT T)).filter (kr T c);rw[afI (E2 _),afI aa]
     by_cases cF:k<r.leaves.length
     . have aS:(k:Int)<r.leaves.length:=aa;by_cases c0:k<12
       . have bm:(k:Int)<12:=aa;obtain⟨b,hb⟩:∃b,r.leaves[k]? =some b:=⟨_,KE cF⟩;have cG:=hr.leaves b (qG hb);have hF:F (k+1)=F k++if kr T c (fT T b)then [fT T b]else []:=by
          simp only[F,List.take_add_one,hb,Option.toList_some,Vs,afW,adr,afQ];cases cH:kr T c (fT T b)<;>simp[cH]
         simp(disch:=omega)[go_sem,n1,aS,bm];refine bZ [ai 0,aK 1,ai 0,ai 7,aK 15,aK 31,ai 0,aK 64,aK 192,ai 511,ai 1023] ak 0 rfl ?_;rcases ms.pv with⟨h0,_⟩|⟨R,r1,r2,bt,r4⟩
         . rw[h0]at bs;simp at bs;omega
         rw[bs]at bt;have r5:H'.get R=_:=(hold R r2).trans r4;have cJ:T.length=nt:=b3.symm;have c1:0<=b%(nt:Int):=Int.emod_nonneg _ aa;have c2:b%(nt:Int)<nt:=Int.emod_lt_of_pos _ aa;obtain⟨kk,cp⟩:∃kk:Nat,b%(nt:Int)=kk:=⟨(b%(nt:Int)).toNat,aa⟩;have bH:kk<nt:=aa;obtain⟨tk,cr⟩:∃tk,(B++X4)[kk]? =some tk:=⟨_,KE (by rw[<-bs]at bH;simpa using bH)⟩;obtain⟨d3,d1,d2,ba,cu⟩:=aeu B X4 kk tk cr;obtain⟨cells,an⟩:∃cells,(B.map Tok.e++X4.map Tok.c).flatten=cells:=⟨_,rfl⟩;rw[an]at r5 ba cu;have b8:¬(nt:Int)=0:=aa;have ao:T[kk]? =some tk:=by show(bG r).au[kk]? =some tk;rw[az];exact cr
         have bx:fT T b=⟨kk,jY tk kk b⟩:=by
          simp only[fT,cJ,cp,Int.toNat_natCast,ao,af9]
         have b9:=DZ r hr kk tk b ao cG;have ca:=(uH r hr).cond tk (qG ao);obtain⟨ct,cL,cb,_⟩:=ca;have aF:=aen (bG r) kk tk ao aa ct cL cb c hc (jY tk kk b) b9 cK rfl;simp(disch:=omega)[go_sem,n1,n3,hb,gE,bt,aG,dq,b8,cp,r5,ba,cu,d1,-getElem?_pos];have bo:∀Hc:ae,(∀j,M2<j->j<H.next->Hc.get j=H.get j)->cI (allRows Hc) (gE g (.v (.slice (some ⟨R,0,none⟩) nt nt))) (bG r).e:=λHc h=>by rw[<-bt];exact b6 Hc h (b7 Hc)
         have cc:∀x∈(F k).map Lf.c,x.length=4:=λx hx=>by obtain⟨y,_,rfl⟩:=RK.1 hx;rfl
         have c3:(F k).length<=k:=by
          have h1:=afL (kr T c) ((r.leaves.take k).map (fT T));rw[yy,afR]at h1;show(((r.leaves.take k).map (fT T)).filter (kr T c)).length<=k;omega
         have cd:M≠H'.next:=aa;have bq:M≠H'.next+1:=aa;by_cases hl:tk.lit=⟨#[]⟩
         . by_cases aN:kk=0
           . have q0:0<=b/16%4:=aa;have q1:b/16%4<4:=aa;have w1:IntKind.u8.wrap (b/16)=b/16:=wrap_u8 aa aa;have w2:IntKind.i64.wrap (b/16)=b/16:=aG aa aa;obtain⟨s,hs⟩:∃s,zw[(b/16%4).toNat]? =some s:=⟨_,KE (by simp[zw];omega)⟩;have cN:[sV ⟨#[120]⟩,sV ⟨#[105,102]⟩,sV ⟨#[101,108,115,101]⟩,sV ⟨#[97,98]⟩][(b/16%4).toNat]? =some (sV s):=by
              have:(zw.map sV)[(b/16%4).toNat]? =some (sV s):=by rw[ab8,hs];rfl
              exact this
             have aJ:jY tk kk b=s:=by simp only[jY,if_pos hl,if_pos aN,hs,af9]
             simp(disch:=omega)[go_sem,hl,aN,n1,n3,gE,bt,cd,bq,hb,jR,dq,w1,w2,q0,q1,cN,-getElem?_pos];rw[aJ]at aF;have bI:kr T c (fT T b)=kX tk c (s):=by rw[bx,aJ];simp only[kr,ao]
             have aM:fT T b=⟨kk,s⟩:=by rw[bx,aJ]
             rw[bI,aM]at hF;refine ax.pl aF (.cons (Fz.dO (bo _ λj j1 j2=> ?_)) (.cons (.refl _) (.cons ?_ .nil))) λP2 aQ=> ?_
             . simp(disch:=omega)[go_sem,hold]
             . first|exact .refl _|(subst aN;exact .refl _)
             replace aQ:=cq aQ;cases hv:kX tk c (s)with
             |true=>
              rw[hv,if_pos rfl]at hF;refine aL ?_;refine cw.app (st:=42) (xt:=42) (B:=H.next) (U:=H'.next) (k:=4) (xs:=(F k).map Lf.c) (hgr.same (λj j1 j2=>by simp(disch:=omega)[go_sem,afz j2]) (E2 _)) ye yd aa (by simp(disch:=omega)[go_sem];omega) (new:=Lf.c ⟨kk,s⟩) (by simp(disch:=omega)[go_sem];first|rfl|(subst aN;rfl)) aC rfl rfl cc (by rw[yy];omega) λH2 bc T2 cv bK bL bd cx=> ?_;simp(disch:=omega)[go_sem]at bL bd;simp(disch:=omega)[go_sem,aG];refine⟨j-1,aa,_,aB.bb (l:=[(1,aI N),(2,aI (N+1)),(5,aI M),(15,cV c),(16,bc),(17,iV (k+1:Nat))]) ?_,(hI _ _).2 ⟨k+1,_,bc,aa,aa,aa,λq hq=> ?_,by rw[hF,Vs];exact bK,rfl⟩⟩
              . exact ah
              . rw[bd q aa (hgr.ne (.inl aa))];simp(disch:=omega)[go_sem,hold]
             |false=>
              rw[hv]at hF;simp(disch:=omega)[go_sem,aG];refine⟨j-1,aa,_,aB.bb (l:=[(1,aI N),(2,aI (N+1)),(5,aI M),(15,cV c),(16,af),(17,iV (k+1:Nat))]) ?_,(hI _ _).2 ⟨k+1,_,af,aa,aa,by simp(disch:=omega)[go_sem];omega,λq hq=> ?_, ?_,rfl⟩⟩
              . exact ah
              . simp(disch:=omega)[go_sem,hold]
              . rw[hF];simp only[afj,if_false,afB];exact hgr.same (λj j1 j2=>by simp(disch:=omega)[go_sem,afz j2]) (by simp(disch:=omega)[go_sem];omega)
           . have aJ:jY tk kk b=tk.jl:=by simp only[jY,if_pos hl,if_neg aN]
             simp(disch:=omega)[go_sem,hl,aN,n3,gE,bt,cd,bq];rw[aJ]at aF;have bI:kr T c (fT T b)=kX tk c (tk.jl):=by rw[bx,aJ];simp only[kr,ao]
             have aM:fT T b=⟨kk,tk.jl⟩:=by rw[bx,aJ]
             rw[bI,aM]at hF;refine ax.pl aF (.cons (Fz.dO (bo _ λj j1 j2=> ?_)) (.cons (.refl _) (.cons ?_ .nil))) λP2 aQ=> ?_
             . simp(disch:=omega)[go_sem,hold]
             . first|exact .refl _|(subst aN;exact .refl _)
             replace aQ:=cq aQ;cases hv:kX tk c (tk.jl)with
             |true=>
              rw[hv,if_pos rfl]at hF;refine aL ?_;refine cw.app (st:=42) (xt:=42) (B:=H.next) (U:=H'.next) (k:=4) (xs:=(F k).map Lf.c) (hgr.same (λj j1 j2=>by simp(disch:=omega)[go_sem,afz j2]) (E2 _)) ye yd aa (by simp(disch:=omega)[go_sem];omega) (new:=Lf.c ⟨kk,tk.jl⟩) (by simp(disch:=omega)[go_sem];first|rfl|(subst aN;rfl)) aC rfl rfl cc (by rw[yy];omega) λH2 bc T2 cv bK bL bd cx=> ?_;simp(disch:=omega)[go_sem]at bL bd;simp(disch:=omega)[go_sem,aG];refine⟨j-1,aa,_,aB.bb (l:=[(1,aI N),(2,aI (N+1)),(5,aI M),(15,cV c),(16,bc),(17,iV (k+1:Nat))]) ?_,(hI _ _).2 ⟨k+1,_,bc,aa,aa,aa,λq hq=> ?_,by rw[hF,Vs];exact bK,rfl⟩⟩
              . exact ah
              . rw[bd q aa (hgr.ne (.inl aa))];simp(disch:=omega)[go_sem,hold]
             |false=>
              rw[hv]at hF;simp(disch:=omega)[go_sem,aG];refine⟨j-1,aa,_,aB.bb (l:=[(1,aI N),(2,aI (N+1)),(5,aI M),(15,cV c),(16,af),(17,iV (k+1:Nat))]) ?_,(hI _ _).2 ⟨k+1,_,af,aa,aa,by simp(disch:=omega)[go_sem];omega,λq hq=> ?_, ?_,rfl⟩⟩
              . exact ah
              . simp(disch:=omega)[go_sem,hold]
              . rw[hF];simp only[afj,if_false,afB];exact hgr.same (λj j1 j2=>by simp(disch:=omega)[go_sem,afz j2]) (by simp(disch:=omega)[go_sem];omega)
         . have aJ:jY tk kk b=tk.lit:=by simp only[jY,if_neg hl]
           simp(disch:=omega)[go_sem,hl,n3,gE,bt,cd,bq];rw[aJ]at aF;have bI:kr T c (fT T b)=kX tk c (tk.lit):=by rw[bx,aJ];simp only[kr,ao]
           have aM:fT T b=⟨kk,tk.lit⟩:=by rw[bx,aJ]
           rw[bI,aM]at hF;refine ax.pl aF (.cons (Fz.dO (bo _ λj j1 j2=> ?_)) (.cons (.refl _) (.cons ?_ .nil))) λP2 aQ=> ?_
           . simp(disch:=omega)[go_sem,hold]
           . first|exact .refl _|(subst aN;exact .refl _)
           replace aQ:=cq aQ;cases hv:kX tk c (tk.lit)with
           |true=>
            rw[hv,if_pos rfl]at hF;refine aL ?_;refine cw.app (st:=42) (xt:=42) (B:=H.next) (U:=H'.next) (k:=4) (xs:=(F k).map Lf.c) (hgr.same (λj j1 j2=>by simp(disch:=omega)[go_sem,afz j2]) (E2 _)) ye yd aa (by simp(disch:=omega)[go_sem];omega) (new:=Lf.c ⟨kk,tk.lit⟩) (by simp(disch:=omega)[go_sem];first|rfl|(subst aN;rfl)) aC rfl rfl cc (by rw[yy];omega) λH2 bc T2 cv bK bL bd cx=> ?_;simp(disch:=omega)[go_sem]at bL bd;simp(disch:=omega)[go_sem,aG];refine⟨j-1,aa,_,aB.bb (l:=[(1,aI N),(2,aI (N+1)),(5,aI M),(15,cV c),(16,bc),(17,iV (k+1:Nat))]) ?_,(hI _ _).2 ⟨k+1,_,bc,aa,aa,aa,λq hq=> ?_,by rw[hF,Vs];exact bK,rfl⟩⟩
            . exact ah
            . rw[bd q aa (hgr.ne (.inl aa))];simp(disch:=omega)[go_sem,hold]
           |false=>
            rw[hv]at hF;simp(disch:=omega)[go_sem,aG];refine⟨j-1,aa,_,aB.bb (l:=[(1,aI N),(2,aI (N+1)),(5,aI M),(15,cV c),(16,af),(17,iV (k+1:Nat))]) ?_,(hI _ _).2 ⟨k+1,_,af,aa,aa,by simp(disch:=omega)[go_sem];omega,λq hq=> ?_, ?_,rfl⟩⟩
            . exact ah
            . simp(disch:=omega)[go_sem,hold]
            . rw[hF];simp only[afj,if_false,afB];exact hgr.same (λj j1 j2=>by simp(disch:=omega)[go_sem,afz j2]) (by simp(disch:=omega)[go_sem];omega)
       . have bm:¬(k:Int)<12:=aa;simp(disch:=omega)[go_sem,n1,aS,bm];refine⟨_,aB.bb (l:=[(2,aI (N+1)),(5,aI M),(15,cV c),(16,af)]) ?_,H',hn,hold,af,by rw[<-done aa];exact hgr,rfl⟩;exact ah
     . have aS:¬(k:Int)<r.leaves.length:=aa;simp(disch:=omega)[go_sem,n1,aS];refine⟨_,aB.bb (l:=[(2,aI (N+1)),(5,aI M),(15,cV c),(16,af)]) ?_,H',hn,hold,af,by rw[<-done aa];exact hgr,rfl⟩;exact ah
 . rintro d ⟨H',af,hn,hold,hgr,rfl⟩;obtain⟨p3,p4⟩:=hgr.cells;refine qN ?_;have n3:H'.get M=some (.row (gE g pv) true 0):=by rw[hold M aa];exact ms.g
   have n2:H'.get (N+1)=some (.row eE true 0):=by rw[hold (N+1) aa];exact ms.o
   simp(disch:=omega)[go_sem,n3,n2,gE,eE,p1,p2];rw[<-bB];refine Fz.j9 (.cons (Fz.dO (b6 (H'.set (N+1) (some (.row (gE g pv) true 0))) (λj j1 j2=>by rw[ae.bu,if_neg aa];exact hold j j2) (b7 _))) (.cons (.refl _) (.cons ?_ .nil)))
   . exact hgr.Ki aC aw (λx hx=>by obtain⟨y,_,rfl⟩:=RK.1 hx;rfl) (KY _) λR cs h1 h2 h3=>ck (wr:=true) (by rw[ae.bu,if_neg aa];exact h3)
end Go.Sp
end

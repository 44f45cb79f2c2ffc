/- SpacingIndependent: parts of its proof. -/
import Derived.Test.YtmhjnafgdhaemaaGreatDoorK21
open Nat renaming le_refl->qe,lt_or_ge->W2
open List renaming mem_map->xS,getElem?_eq_getElem->DE,mem_append->Er,eq_nil_of_length_eq_zero->GP,mem_singleton->PO,flatten_append->PX,getElem?_eq_some_iff->Qc,mem_of_getElem?->W9,take_add_one->Xw,take_of_length_le->Zj
open Int renaming emod_nonneg->TF,emod_lt_of_pos->VK
set_option linter.all false
set_option maxRecDepth 100000
noncomputable section
open Go Go.au Go.Proofs
namespace Go.Sp
variable {aj:Bool}
inductive Shape:bd->Prop
 |child (k p a c:Int) (d:Dg):k=1\/k=2->Shape ⟨k,p,a,c,0,0,[],d⟩
 |next (k l t:Int) (d:Dg):k=3\/k=4->Shape ⟨k,0,0,0,l,0,[t],d⟩
 |word (t:Int) (d:Dg):Shape ⟨5,0,0,0,0,0,[t],d⟩
theorem Bk{f:bd}(hf:Shape f):ay E aj 88 [.agg f.e] (bV true):=by
 refine aW Tryz.ntmps88 Tryz.results88 λN=> ?_;cases hf with
 |child k p a c d h=>rcases h with rfl|rfl<;>simp(disch:=omega)[go_sem,bd.e,ints]
 |next k l t d h=>rcases h with rfl|rfl<;>simp(disch:=omega)[go_sem,bd.e,ints]
 |word t d=>simp(disch:=omega)[go_sem,bd.e,ints]
theorem GB(g:ai)(t:Nat)(x:Tok)(w:Bool)(h1:g.ar[t]? =some x)(hw:w=true->x.lit≠⟨#[]⟩)(aa:w=false->x.cls=0):ay E aj 89 [.agg g.e,ints [(t:Int)],bV w] (bV true):=by
 refine aW Tryz.ntmps89 Tryz.results89 λN=> ?_;have hl:t<g.ar.length:=(Qc.1 h1).1;have ab:¬(g.ar.length:Int)<=t:=by omega
 have ad:¬(t:Int)<0:=by omega
 simp(disch:=omega)[go_sem,ai.e,ints];obtain⟨I,hI⟩:∃I:Nat->DS->Prop,∀j d,I j d↔∃k M:Nat,j+k=1/\N<M/\d=⟨bz [(1,.sl 1 [[iV t]]),(2,bV w),(3,.v (.pointer (some ⟨N,0,none⟩))),(7,iV k)],72,[],cw M [(N,.row g.e true 0)]⟩:=⟨_,λ_ _=>Iff.rfl⟩;refine bO I 1 ⟨_,ax.mk (N:=N+1) ?_ ?_ ?_,(hI _ _).2 ⟨0,N+1,rfl,by omega,rfl⟩⟩ ?_
 . simp(disch:=omega)[go_sem]
 . simp[go_sem]
 . simp(disch:=omega)[go_sem,ai.e]
 . intro j d hd;obtain⟨k,M,hj,hM,rfl⟩:=(hI _ _).1 hd;clear hd;by_cases hk:k=0
   . subst hk;simp(disch:=omega)[go_sem];refine bR [ae 0,ae 0,ae 3,aD 7,ae 15,ae 31,ae 63,ae 63,ae 255,aD 511,ae 63,aD 1087,aD 3135,ae 8191,ae 16383,ae 32767,ae 65535,ae 131071,ae 262143,ae 524287,ae 524287,ae 2097151,aD 4194303,ae 524287,ae 524287,ae 17301503,ae 59244543,aD 126353407,ae 268435455,ae 536870911,ae 1073741823] (by kernel_rfl) 0 rfl ?_;simp(disch:=omega)[go_sem,ai.e,hl,ab,ad];refine bR [ae 0,aD 1,ae 0,ae 0,ae 12,aD 28,ae 63,aD 127,cE 0,aN 511] (by kernel_rfl) 1 rfl ?_;simp(disch:=omega)[go_sem,ai.e,Tok.e,h1,-getElem?_pos];cases w with
     |true=>
      have hx:=hw rfl;simp(disch:=omega)[go_sem,hx,aC];refine⟨j-1,by omega,_,ax.mk (N:=M+1) ?_ ?_ ?_,(hI _ _).2 ⟨1,M+1,by omega,by omega,rfl⟩⟩
      . simp(disch:=omega)[go_sem]
      . simp[go_sem]
      . simp(disch:=omega)[go_sem,ai.e]
     |false=>
      have hx:=aa rfl;simp(disch:=omega)[go_sem,hx,aC];refine⟨j-1,by omega,_,ax.mk (N:=M+1) ?_ ?_ ?_,(hI _ _).2 ⟨1,M+1,by omega,by omega,rfl⟩⟩
      . simp(disch:=omega)[go_sem]
      . simp[go_sem]
      . simp(disch:=omega)[go_sem,ai.e]
   . obtain rfl:k=1:=by omega
     simp(disch:=omega)[go_sem]
end Go.Sp
end
noncomputable section
open Go Go.au Go.Proofs
namespace Go.Sp
variable {aj:Bool}
theorem GC(g:ai)(k l:Int)(t:Nat)(x:Tok)(d:Dg)(hk:k=3\/k=4)(ao:0<=l)(av:l<g.aH.length)(hx:g.ar[t]? =some x)(ad:x.cls=0)(aa:ay E aj 87 [.agg d.e,iV g.conds.length] (bV true)):
 ay E aj 53 [.agg g.e,.agg (bd.e ⟨k,0,0,0,l,0,[t],d⟩)] (bV true):=by
 have hs:=Bk (aj:=aj) (Shape.next k l t d hk);have ha:=GB (aj:=aj) g t x false hx (λh=>by cases h) (λ_=>ad);have aw:¬l<0:=by omega
 refine aW Tryz.ntmps53 Tryz.results53 λN=> ?_;rcases hk with rfl|rfl
 all_goals (
  simp(disch:=omega)[go_sem,bd.e,ai.e];refine an.mk aa λM hM=> ?_;simp(disch:=omega)[go_sem]at hM;simp(disch:=omega)[go_sem,bd.e,ai.e];refine an.mk hs λM2 ab=> ?_;simp(disch:=omega)[go_sem]at ab;simp(disch:=omega)[go_sem,bd.e,ai.e,ao,av,aw];refine an.mk ha λM3 af=> ?_;simp(disch:=omega)[go_sem]at af;simp(disch:=omega)[go_sem])
theorem Xh(g:ai)(t:Nat)(x y:Tok)(d:Dg)(hx:g.ar[t]? =some x)(ad:x.lit≠⟨#[]⟩)(hy:g.ar[0]? =some y)(az:y.cls=0)(aA:y.lit=⟨#[]⟩)(aa:ay E aj 87 [.agg d.e,iV g.conds.length] (bV true)):
 ay E aj 53 [.agg g.e,.agg (bd.e ⟨5,0,0,0,0,0,[t],d⟩)] (bV true):=by
 have hs:=Bk (aj:=aj) (Shape.word t d);have ha:=GB (aj:=aj) g t x true hx (λ_=>ad) (λh=>by cases h);have hl:0<g.ar.length:=(Qc.1 hy).1;have aB:¬g.ar=[]:=λh=>by rw[h]at hl;exact absurd hl (by simp)
 refine aW Tryz.ntmps53 Tryz.results53 λN=> ?_;simp(disch:=omega)[go_sem,bd.e,ai.e];refine an.mk aa λM hM=> ?_;simp(disch:=omega)[go_sem]at hM;simp(disch:=omega)[go_sem,bd.e,ai.e];refine an.mk hs λM2 ab=> ?_;simp(disch:=omega)[go_sem]at ab;simp(disch:=omega)[go_sem,bd.e,ai.e,hl,aB];refine an.mk ha λM3 af=> ?_;simp(disch:=omega)[go_sem]at af;simp(disch:=omega)[go_sem,ai.e,Tok.e,hy,az,aA,-getElem?_pos]
def kM(g:ai)(p at_ c:Int):Bool:=match g.ak[p.toNat]?,g.ak[c.toNat]? with
 |some P,some C=>match P.right[at_.toNat]? with
  |some s=> !s.tok&&decide (s.idx=C.left)
  |none=>false
 |_,_=>false
theorem GD(g:ai)(k:Int)(p a c:Nat)(P C:aQ)(d:Dg)(hk:k=1\/k=2)(hp:g.ak[p]? =some P)(hc:g.ak[c]? =some C)(aa:ay E aj 87 [.agg d.e,iV g.conds.length] (bV true)):
 ay E aj 53 [.agg g.e,.agg (bd.e ⟨k,p,a,c,0,0,[],d⟩)] (bV (kM g p a c)):=by
 have hs:=Bk (aj:=aj) (Shape.child k p a c d hk);have aC:=(Qc.1 hp).1;have aE:=(Qc.1 hc).1;have e1:¬(p:Int)<0:=by omega
 have e2:¬(c:Int)<0:=by omega
 have e3:¬(g.ak.length:Int)<=p:=by omega
 have e4:¬(g.ak.length:Int)<=c:=by omega
 have e5:(0:Int)<=a:=by omega
 obtain⟨R,hR⟩:∃R,R=kM g p a c:=⟨_,rfl⟩;rw[<-hR];refine aW Tryz.ntmps53 Tryz.results53 λN=> ?_;rcases hk with rfl|rfl
 all_goals (
  simp(disch:=omega)[go_sem,bd.e,ai.e];refine an.mk aa λM hM=> ?_;simp(disch:=omega)[go_sem]at hM;simp(disch:=omega)[go_sem,bd.e,ai.e];refine an.mk hs λM2 ab=> ?_;simp(disch:=omega)[go_sem]at ab;simp(disch:=omega)[go_sem,bd.e,ai.e,aQ.e,aC,aE,e1,e2,e3,e4,hp,hc,-getElem?_pos];refine bR [ae 0,aD 1,ae 3,ae 7,ae 15,aD 31,ae 15,aD 79,ae 255,ae 511,ae 1023,ae 2047,ae 2047,aD 6143,ae 16383,ae 32767,aD 65535,ae 131071,ae 262143,ae 524287,ae 1048575,ae 1048575,aD 3145727,ae 8388607,ae 16777215,aD 33554431,ae 1048575,aD 68157439,ae 1048575,aD 269484031,ae 1007681535,ae 2081423359,aD 4228907007,ae 8589934591,ae 17179869183,ae 34359738367] (by kernel_rfl) 0 rfl ?_;by_cases h:a<P.right.length
  . have h':(a:Int)<P.right.length:=by omega
    obtain⟨s,hs⟩:∃s,P.right[a]? =some s:=⟨_,DE h⟩;cases ht:s.tok with
    |true=>simp(disch:=omega)[go_sem,bd.e,ai.e,Sym.e,e5,h,h',hs,ht,hR,kM,hp,hc,-getElem?_pos]
    |false=>simp(disch:=omega)[go_sem,bd.e,ai.e,aQ.e,Sym.e,e5,h,h',hs,ht,hR,kM,hp,hc,-getElem?_pos]
  . have h':¬(a:Int)<P.right.length:=by omega
    have hs:P.right[a]? =none:=List.getElem?_eq_none_iff.2 (by omega);simp(disch:=omega)[go_sem,bd.e,ai.e,e5,h,h',hR,kM,hp,hc,hs,-getElem?_pos])
end Go.Sp
end
noncomputable section
open Go Go.au Go.Proofs
namespace Go.Sp
variable {aj:Bool}
theorem GF(g:ai)(p:Int)(b1:g.ba.length<=4096)(b2:∀l∈g.ba,l.ak.length<=4096):ay E aj 52 [.agg g.e,iV p] (bV (g.ba.any λl=>decide (p∈l.ak))):=by
 refine aW Tryz.ntmps52 Tryz.results52 λN=> ?_;simp[go_sem,ai.e];refine bO (λj d=>∃k,j+k=g.ba.length/\d=⟨bz [(1,iV p),(2,.v (.pointer (some ⟨N,0,none⟩))),(5,iV k)],36,[],cw (N+1) [(N,.row g.e true 0)]⟩/\∀l∈g.ba.take k,p∉l.ak) g.ba.length ⟨_,ax.mk rfl ?_ ?_,0,rfl,rfl,by simp⟩ ?_
 . simp[go_sem]
 . simp[go_sem,ai.e,lK]
 . rintro j _ ⟨k,hk,rfl,hp⟩;by_cases aa:k<g.ba.length
   . obtain⟨l,hl⟩:∃l,g.ba[k]? =some l:=⟨_,DE aa⟩;have ad:=W9 hl;have ae:=b2 l ad;simp[go_sem,ai.e,aa,hl,-getElem?_pos];refine bO (λi d=>∃m,i+m=l.ak.length/\d=⟨bz [(1,iV p),(2,.v (.pointer (some ⟨N,0,none⟩))),(5,iV k),(6,iV m)],36,[],cw (N+1) [(N,.row g.e true 0)]⟩/\p∉l.ak.take m) l.ak.length ⟨_,ax.mk rfl ?_ ?_,0,rfl,rfl,by simp⟩ ?_
     . simp[go_sem]
     . simp[go_sem,ai.e]
     . rintro i _ ⟨m,hm,rfl,hq⟩;by_cases ab:m<l.ak.length
       . obtain⟨x,hx⟩:∃x,l.ak[m]? =some x:=⟨_,DE ab⟩;simp[go_sem,ai.e,de.e,hl,ab,hx,-getElem?_pos];refine nD.mk _ _ (λh=> ?_) (λh=> ?_)
         . have:∃l∈g.ba,p∈l.ak:=⟨l,ad,h▸W9 hx⟩;have e:(g.ba.any λl=>decide (p∈l.ak))=true:=by simpa using this
           rw[e];simp[go_sem]
         . simp(disch:=omega)[go_sem,aC,-getElem?_pos];refine⟨i-1,by omega,_,ax.mk rfl ?_ ?_,m+1,by omega,rfl, ?_⟩
           . simp[go_sem]
           . simp[go_sem,ai.e]
           . rw[Xw,hx];simp[hq];exactλe=>h e.symm
       . rw[Zj (by omega)]at hq;simp(disch:=omega)[go_sem,ai.e,de.e,hl,ab,aC,-getElem?_pos];refine⟨j-1,by omega,_,ax.mk rfl ?_ ?_,k+1,by omega,rfl, ?_⟩
         . simp[go_sem]
         . simp[go_sem,ai.e]
         . rw[Xw,hl];simp only[Er,Option.mem_toList,Option.some.injEq];rintro l' (h|rfl)
           . exact hp l' h
           . exact hq
   . rw[Zj (by omega)]at hp;simp[go_sem,ai.e,aa];have:¬∃l∈g.ba,p∈l.ak:=λ⟨l,h1,h2⟩=>hp l h1 h2;have e:(g.ba.any λl=>decide (p∈l.ak))=false:=by simpa using this
     rw[e];exact .refl _
end Go.Sp
end
noncomputable section
open Go Go.au Go.Proofs
namespace Go.Sp
structure Rl where
 kind:Int
 a:Int
 b:Int
 c:Int
 cond:Int
def Rl.e(x:Rl):List DV:=[uV x.kind,uV x.a,uV x.b,uV x.c,uV x.cond]
structure Rl.Ok(x:Rl):Prop where
 kind:0<=x.kind/\x.kind<256
 a:0<=x.a/\x.a<256
 b:0<=x.b/\x.b<256
 c:0<=x.c/\x.c<256
 cond:0<=x.cond/\x.cond<256
structure rO(g:ai):Prop where
 ak:0<g.ak.length
 aH:0<g.aH.length
 conds:g.conds.length<=3
 bj:g.bj.length<=10
 ba:g.ba.length<=10
 ar:9<=g.ar.length
 lT:∀l∈g.ba,l.ak.length<=4096
 GG:g.ar.length<=100
 ord:∀i x,i<9->g.ar[i]? =some x->x.cls=0/\(x.lit=⟨#[]⟩↔i=0)
theorem qi{S:eR}{a b c d:List DV}(h1:cA S a c)(h2:cA S b d):cA S (a++b) (c++d):=aO.append h1 h2
def dR(g:ai)(f:bd):ai:={g with bj:=g.bj++[f]}
theorem Xi(sm:Int->Nat->Dg)(ab:∀(b:Int) (n:Nat),0<=b->b<256->n<=3->ay E true 15 [uV b,iV n] (.agg (sm b n).e))(aa:∀(b:Int) (n:Nat),0<=b->b<256->n<=3->ay E true 87 [.agg (sm b n).e,iV n] (bV true))(g:ai)(hg:rO g)(x:Rl)(hx:x.Ok)(hk:x.kind%8=6):
 ay E true 27 [.agg g.e,.agg x.e] (.agg (dR g ⟨5,0,0,0,0,0,[5],sm x.cond g.conds.length⟩).e):=by
 obtain⟨R,hR⟩:∃R,R=DV.agg (dR g ⟨5,0,0,0,0,0,[5],sm x.cond g.conds.length⟩).e:=⟨_,rfl⟩;rw[<-hR];have af:=hx.kind;have ha:=hx.a;have hb:=hx.b;have hc:=hx.c;have ew:¬(g.ak.length:Int)=0:=by have:=hg.ak;omega
 have az:¬(g.aH.length:Int)=0:=by have:=hg.aH;omega
 have aA:¬g.ak=[]:=λh=>by have:=hg.ak;rw[h]at this;exact absurd this (by simp)
 have hw:∀z:Int,0<=z->IntKind.u8.wrap (z%8)=z%8:=λz h=>wrap_u8 (by omega) (by omega);refine aW Tryz.ntmps27 Tryz.results27 λN=> ?_;simp(disch:=omega)[go_sem,ai.e,Rl.e];refine an.mk (ab x.cond g.conds.length hx.cond.1 hx.cond.2 hg.conds) λM hM=> ?_;simp(disch:=omega)[go_sem]at hM;have ad:=aa x.cond g.conds.length hx.cond.1 hx.cond.2 hg.conds;generalize sm x.cond g.conds.length=d at*;simp(disch:=omega)[go_sem,ai.e,Rl.e,Dg.e,ew,aA,az,cT,aC,hw,hk];have h5:(5:Nat)<g.ar.length:=by have:=hg.ar;omega
 have aB:(0:Nat)<g.ar.length:=by have:=hg.ar;omega
 obtain⟨t5,ao⟩:∃t,g.ar[5]? =some t:=⟨_,DE h5⟩;obtain⟨t0,av⟩:∃t,g.ar[0]? =some t:=⟨_,DE aB⟩;have o5:=hg.ord 5 t5 (by omega) ao;have o0:=hg.ord 0 t0 (by omega) av;have aI:N+3<=M:=by omega
 refine an.pl (Xh g 5 t5 t0 d ao (λh=>by have:=o5.2.1 h;omega) av o0.1 (o0.2.2 rfl) ad) ?_ λM2 aE=> ?_
 . simp(disch:=omega)[go_sem,ai.e,bd.e];exact gx (wr:=true) (ah:=0) (by decide) (by simp) (by rfl) (qe _) (.inl rfl) (by simp(disch:=omega)[go_sem])
 simp(disch:=omega)[go_sem]at aE;simp(disch:=omega)[go_sem];refine bR [cE 0,ae 0,aD 2,aN 7,dc 0,cE 16,aN 63,ae 127,aN 255] (by kernel_rfl) 2 rfl ?_;have aF:(g.bj.map bd.e).flatten.length=g.bj.length*9:=by
  rw[eW (k:=9) (by intro y hy;obtain⟨z,_,rfl⟩:=xS.1 hy;rfl)];simp
 have aK:=hg.bj;have aL:M+3<=M2:=by omega
 by_cases ew:g.bj.length=0
 . have aw:g.bj=[]:=GP ew;simp(disch:=omega)[go_sem,aw,nC]
   repeat refine⟨by omega, ?_⟩
   refine fB (wr:=true) (cs:=[]) (by simp(disch:=omega)[go_sem]) (by simp) (by omega) (by omega) ?_;simp(disch:=omega)[go_sem,hR,dR,aw,ai.e];refine ij (cx (wr:=true) (ah:=9) (by simp(disch:=omega)[go_sem];rfl)) (.inr rfl) (by decide) (by rfl) (qe _) (by simp[bd.e]) ?_;simp(disch:=omega)[go_sem,bd.e,ints];exact gx (wr:=true) (ah:=0) (by decide) (by simp) (by rfl) (qe _) (.inl rfl) (by simp(disch:=omega)[go_sem])
 . simp(disch:=omega)[go_sem]
   repeat refine⟨by omega, ?_⟩
   refine fB (wr:=true) (cs:=[]) (by simp(disch:=omega)[go_sem]) (by simp) (by omega) (by omega) ?_;simp(disch:=omega)[go_sem]
   repeat refine⟨by omega, ?_⟩
   refine ko (cs:=(g.bj.map bd.e).flatten) (by simp(disch:=omega)[go_sem]) aF (by decide) (by decide) (by simp[go_sem]) (by omega) ?_;simp(disch:=omega)[go_sem,hR,dR,ai.e];refine ij (cx (wr:=true) (ah:=9) (by simp(disch:=omega)[go_sem];rfl)) (.inr rfl) (by decide) (by simp) (qe _) ?_ ?_
   . intro y hy;simp only[Er,xS,PO]at hy;rcases hy with⟨z,_,rfl⟩|rfl<;>rfl
   . rw[PX];refine qi (cA.refl _) ?_;simp(disch:=omega)[go_sem,bd.e,ints];exact gx (wr:=true) (ah:=0) (by decide) (by simp) (by rfl) (qe _) (.inl rfl) (by simp(disch:=omega)[go_sem])
set_option maxHeartbeats 4000000 in
theorem Xj(sm:Int->Nat->Dg)(av:∀(b:Int) (n:Nat),0<=b->b<256->n<=3->ay E true 15 [uV b,iV n] (.agg (sm b n).e))(aa:∀(b:Int) (n:Nat),0<=b->b<256->n<=3->ay E true 87 [.agg (sm b n).e,iV n] (bV true))(g:ai)(hg:rO g)(x:Rl)(hx:x.Ok)(hk:x.kind%8=4\/x.kind%8=5):
 ay E true 27 [.agg g.e,.agg x.e] (.agg (dR g ⟨x.kind%8-1,0,0,0,x.a%g.aH.length,0,[x.b%9],sm x.cond g.conds.length⟩).e):=by
 obtain⟨R,hR⟩:∃R,R=DV.agg (dR g ⟨x.kind%8-1,0,0,0,x.a%g.aH.length,0,[x.b%9],sm x.cond g.conds.length⟩).e:=⟨_,rfl⟩;rw[<-hR];have aE:=hx.kind;have ha:=hx.a;have hb:=hx.b;have hc:=hx.c;have ew:¬(g.ak.length:Int)=0:=by have:=hg.ak;omega
 have ao:¬(g.aH.length:Int)=0:=by have:=hg.aH;omega
 have aF:¬g.ak=[]:=λh=>by have:=hg.ak;rw[h]at this;exact absurd this (by simp)
 have hw:∀z:Int,0<=z->IntKind.u8.wrap (z%8)=z%8:=λz h=>wrap_u8 (by omega) (by omega);refine aW Tryz.ntmps27 Tryz.results27 λN=> ?_;simp(disch:=omega)[go_sem,ai.e,Rl.e];refine an.mk (av x.cond g.conds.length hx.cond.1 hx.cond.2 hg.conds) λM hM=> ?_;simp(disch:=omega)[go_sem]at hM;have ab:=aa x.cond g.conds.length hx.cond.1 hx.cond.2 hg.conds;generalize sm x.cond g.conds.length=d at*;rcases hk with hk|hk
 . simp(disch:=omega)[go_sem,ai.e,Rl.e,Dg.e,ew,aF,ao,cT,aC,hw,hk];obtain⟨t,ht⟩:∃t:Nat,x.b%9=t:=⟨(x.b%9).toNat,by omega⟩;have h5:t<g.ar.length:=by have:=hg.ar;omega
   obtain⟨t5,ad⟩:∃y,g.ar[t]? =some y:=⟨_,DE h5⟩;have o5:=hg.ord t t5 (by omega) ad;have aI:N+3<=M:=by omega
   have aw:0<=x.a%(g.aH.length:Int):=TF _ ao;have az:x.a%(g.aH.length:Int)<g.aH.length:=VK _ (by omega);rw[hk]at hR;rw[ht]at hR;simp only[ht];refine an.pl (GC g 3 (x.a%g.aH.length) t t5 d (by omega) aw az ad o5.1 ab) ?_ λM2 aA=> ?_
   . simp(disch:=omega)[go_sem,ai.e,bd.e];exact gx (wr:=true) (ah:=0) (by decide) (by simp) (by rfl) (qe _) (.inl rfl) (by simp(disch:=omega)[go_sem])
   simp(disch:=omega)[go_sem]at aA;simp(disch:=omega)[go_sem];refine bR [cE 0,ae 0,aD 2,aN 7,dc 0,cE 16,aN 63,ae 127,aN 255] (by kernel_rfl) 2 rfl ?_;have aB:(g.bj.map bd.e).flatten.length=g.bj.length*9:=by
    rw[eW (k:=9) (by intro y hy;obtain⟨z,_,rfl⟩:=xS.1 hy;rfl)];simp
   have aK:=hg.bj;have aL:M+3<=M2:=by omega
   by_cases ew:g.bj.length=0
   . have af:g.bj=[]:=GP ew;simp(disch:=omega)[go_sem,af,nC]
     repeat refine⟨by omega, ?_⟩
     refine fB (wr:=true) (cs:=[]) (by simp(disch:=omega)[go_sem]) (by simp) (by omega) (by omega) ?_;simp(disch:=omega)[go_sem,hR,dR,af,ai.e];refine ij (cx (wr:=true) (ah:=9) (by simp(disch:=omega)[go_sem];rfl)) (.inr rfl) (by decide) (by rfl) (qe _) (by simp[bd.e]) ?_;simp(disch:=omega)[go_sem,bd.e,ints];exact gx (wr:=true) (ah:=0) (by decide) (by simp) (by rfl) (qe _) (.inl rfl) (by simp(disch:=omega)[go_sem])
   . simp(disch:=omega)[go_sem]
     repeat refine⟨by omega, ?_⟩
     refine fB (wr:=true) (cs:=[]) (by simp(disch:=omega)[go_sem]) (by simp) (by omega) (by omega) ?_;simp(disch:=omega)[go_sem]
     repeat refine⟨by omega, ?_⟩
     refine ko (cs:=(g.bj.map bd.e).flatten) (by simp(disch:=omega)[go_sem]) aB (by decide) (by decide) (by simp[go_sem]) (by omega) ?_;simp(disch:=omega)[go_sem,hR,dR,ai.e];refine ij (cx (wr:=true) (ah:=9) (by simp(disch:=omega)[go_sem];rfl)) (.inr rfl) (by decide) (by simp) (qe _) ?_ ?_
     . intro y hy;simp only[Er,xS,PO]at hy;rcases hy with⟨z,_,rfl⟩|rfl<;>rfl
     . rw[PX];refine qi (cA.refl _) ?_;simp(disch:=omega)[go_sem,bd.e,ints];exact gx (wr:=true) (ah:=0) (by decide) (by simp) (by rfl) (qe _) (.inl rfl) (by simp(disch:=omega)[go_sem])
 . simp(disch:=omega)[go_sem,ai.e,Rl.e,Dg.e,ew,aF,ao,cT,aC,hw,hk];obtain⟨t,ht⟩:∃t:Nat,x.b%9=t:=⟨(x.b%9).toNat,by omega⟩;have h5:t<g.ar.length:=by have:=hg.ar;omega
   obtain⟨t5,ad⟩:∃y,g.ar[t]? =some y:=⟨_,DE h5⟩;have o5:=hg.ord t t5 (by omega) ad;have aI:N+3<=M:=by omega
   have aw:0<=x.a%(g.aH.length:Int):=TF _ ao;have az:x.a%(g.aH.length:Int)<g.aH.length:=VK _ (by omega);rw[hk]at hR;rw[ht]at hR;simp only[ht];refine an.pl (GC g 4 (x.a%g.aH.length) t t5 d (by omega) aw az ad o5.1 ab) ?_ λM2 aA=> ?_
   . simp(disch:=omega)[go_sem,ai.e,bd.e];exact gx (wr:=true) (ah:=0) (by decide) (by simp) (by rfl) (qe _) (.inl rfl) (by simp(disch:=omega)[go_sem])
   simp(disch:=omega)[go_sem]at aA;simp(disch:=omega)[go_sem];refine bR [cE 0,ae 0,aD 2,aN 7,dc 0,cE 16,aN 63,ae 127,aN 255] (by kernel_rfl) 2 rfl ?_;have aB:(g.bj.map bd.e).flatten.length=g.bj.length*9:=by
    rw[eW (k:=9) (by intro y hy;obtain⟨z,_,rfl⟩:=xS.1 hy;rfl)];simp
   have aK:=hg.bj;have aL:M+3<=M2:=by omega
   by_cases ew:g.bj.length=0
   . have af:g.bj=[]:=GP ew;simp(disch:=omega)[go_sem,af,nC]
     repeat refine⟨by omega, ?_⟩
     refine fB (wr:=true) (cs:=[]) (by simp(disch:=omega)[go_sem]) (by simp) (by omega) (by omega) ?_;simp(disch:=omega)[go_sem,hR,dR,af,ai.e];refine ij (cx (wr:=true) (ah:=9) (by simp(disch:=omega)[go_sem];rfl)) (.inr rfl) (by decide) (by rfl) (qe _) (by simp[bd.e]) ?_;simp(disch:=omega)[go_sem,bd.e,ints];exact gx (wr:=true) (ah:=0) (by decide) (by simp) (by rfl) (qe _) (.inl rfl) (by simp(disch:=omega)[go_sem])
   . simp(disch:=omega)[go_sem]
     repeat refine⟨by omega, ?_⟩
     refine fB (wr:=true) (cs:=[]) (by simp(disch:=omega)[go_sem]) (by simp) (by omega) (by omega) ?_;simp(disch:=omega)[go_sem]
     repeat refine⟨by omega, ?_⟩
     refine ko (cs:=(g.bj.map bd.e).flatten) (by simp(disch:=omega)[go_sem]) aB (by decide) (by decide) (by simp[go_sem]) (by omega) ?_;simp(disch:=omega)[go_sem,hR,dR,ai.e];refine ij (cx (wr:=true) (ah:=9) (by simp(disch:=omega)[go_sem];rfl)) (.inr rfl) (by decide) (by simp) (qe _) ?_ ?_
     . intro y hy;simp only[Er,xS,PO]at hy;rcases hy with⟨z,_,rfl⟩|rfl<;>rfl
     . rw[PX];refine qi (cA.refl _) ?_;simp(disch:=omega)[go_sem,bd.e,ints];exact gx (wr:=true) (ah:=0) (by decide) (by simp) (by rfl) (qe _) (.inl rfl) (by simp(disch:=omega)[go_sem])
set_option maxHeartbeats 4000000 in
theorem Xk(sm:Int->Nat->Dg)(av:∀(b:Int) (n:Nat),0<=b->b<256->n<=3->ay E true 15 [uV b,iV n] (.agg (sm b n).e))(aa:∀(b:Int) (n:Nat),0<=b->b<256->n<=3->ay E true 87 [.agg (sm b n).e,iV n] (bV true))(g:ai)(hg:rO g)(x:Rl)(hx:x.Ok)(hk:x.kind%8=2\/x.kind%8=3):
 ay E true 27 [.agg g.e,.agg x.e] (.agg (if kM g (x.a%g.ak.length) (x.c%16) (x.b%g.ak.length)then dR g ⟨x.kind%8-1,x.a%g.ak.length,x.c%16,x.b%g.ak.length,0,0,[],sm x.cond g.conds.length⟩else g).e):=by
 obtain⟨R,hR⟩:∃R,R=DV.agg (if kM g (x.a%g.ak.length) (x.c%16) (x.b%g.ak.length)then dR g ⟨x.kind%8-1,x.a%g.ak.length,x.c%16,x.b%g.ak.length,0,0,[],sm x.cond g.conds.length⟩else g).e:=⟨_,rfl⟩;rw[<-hR];have aL:=hx.kind;have ha:=hx.a;have hb:=hx.b;have hc:=hx.c;have ew:¬(g.ak.length:Int)=0:=by have:=hg.ak;omega
 have aM:¬(g.aH.length:Int)=0:=by have:=hg.aH;omega
 have aP:¬g.ak=[]:=λh=>by have:=hg.ak;rw[h]at this;exact absurd this (by simp)
 have hw:∀z:Int,0<=z->IntKind.u8.wrap (z%8)=z%8:=λz h=>wrap_u8 (by omega) (by omega);refine aW Tryz.ntmps27 Tryz.results27 λN=> ?_;simp(disch:=omega)[go_sem,ai.e,Rl.e];refine an.mk (av x.cond g.conds.length hx.cond.1 hx.cond.2 hg.conds) λM hM=> ?_;simp(disch:=omega)[go_sem]at hM;have ab:=aa x.cond g.conds.length hx.cond.1 hx.cond.2 hg.conds;generalize sm x.cond g.conds.length=d at*;have ad:∀z:Int,∃t:Nat,z%(g.ak.length:Int)=t/\t<g.ak.length:=λz=>
  ⟨(z%(g.ak.length:Int)).toNat,by have:=TF z ew;omega,by have:=TF z ew;have:=VK z (show(0:Int)<g.ak.length by omega);omega⟩
 obtain⟨p,aw,az⟩:=ad x.a;obtain⟨c,aA,aB⟩:=ad x.b;obtain⟨a,aE⟩:∃t:Nat,x.c%16=t:=⟨(x.c%16).toNat,by omega⟩;obtain⟨P,hP⟩:∃y,g.ak[p]? =some y:=⟨_,DE az⟩;obtain⟨C,hC⟩:∃y,g.ak[c]? =some y:=⟨_,DE aB⟩;rw[aw,aA,aE]at hR;have aS:N+3<=M:=by omega
 rcases hk with hk|hk
 . rw[hk]at hR;simp(disch:=omega)[go_sem,ai.e,Rl.e,Dg.e,ew,aP,aM,cT,aC,hw,hk,aw,aA,aE];refine an.pl (GD g 1 p a c P C d (by omega) hP hC ab) ?_ λM2 aF=> ?_
   . simp(disch:=omega)[go_sem,ai.e,bd.e,ints]
   simp(disch:=omega)[go_sem]at aF;cases af:kM g p a c with
   |false=>
    simp(disch:=omega)[go_sem,hR,af,ai.e]
   |true=>
    rw[af,if_pos rfl]at hR;simp(disch:=omega)[go_sem];refine bR [cE 0,ae 0,aD 2,aN 7,dc 0,cE 16,aN 63,ae 127,aN 255] (by kernel_rfl) 2 rfl ?_;have aI:(g.bj.map bd.e).flatten.length=g.bj.length*9:=by
     rw[eW (k:=9) (by intro y hy;obtain⟨z,_,rfl⟩:=xS.1 hy;rfl)];simp
    have aQ:=hg.bj;have aR:M+2<=M2:=by omega
    by_cases aK:g.bj.length=0
    . have ao:g.bj=[]:=GP aK;simp(disch:=omega)[go_sem,ao,nC]
      repeat refine⟨by omega, ?_⟩
      refine fB (wr:=true) (cs:=[]) (by simp(disch:=omega)[go_sem]) (by simp) (by omega) (by omega) ?_;simp(disch:=omega)[go_sem,hR,dR,ao,ai.e];refine ij (cx (wr:=true) (ah:=9) (by simp(disch:=omega)[go_sem];rfl)) (.inr rfl) (by decide) (by rfl) (qe _) (by simp[bd.e]) ?_;simp(disch:=omega)[go_sem,bd.e,ints]
    . simp(disch:=omega)[go_sem]
      repeat refine⟨by omega, ?_⟩
      refine fB (wr:=true) (cs:=[]) (by simp(disch:=omega)[go_sem]) (by simp) (by omega) (by omega) ?_;simp(disch:=omega)[go_sem]
      repeat refine⟨by omega, ?_⟩
      refine ko (cs:=(g.bj.map bd.e).flatten) (by simp(disch:=omega)[go_sem]) aI (by decide) (by decide) (by simp[go_sem]) (by omega) ?_;simp(disch:=omega)[go_sem,hR,dR,ai.e];refine ij (cx (wr:=true) (ah:=9) (by simp(disch:=omega)[go_sem];rfl)) (.inr rfl) (by decide) (by simp) (qe _) ?_ ?_
      . intro y hy;simp only[Er,xS,PO]at hy;rcases hy with⟨z,_,rfl⟩|rfl<;>rfl
      . rw[PX];refine qi (cA.refl _) ?_;simp(disch:=omega)[go_sem,bd.e,ints]
 . rw[hk]at hR;simp(disch:=omega)[go_sem,ai.e,Rl.e,Dg.e,ew,aP,aM,cT,aC,hw,hk,aw,aA,aE];refine an.pl (GD g 2 p a c P C d (by omega) hP hC ab) ?_ λM2 aF=> ?_
   . simp(disch:=omega)[go_sem,ai.e,bd.e,ints]
   simp(disch:=omega)[go_sem]at aF;cases af:kM g p a c with
   |false=>
    simp(disch:=omega)[go_sem,hR,af,ai.e]
   |true=>
    rw[af,if_pos rfl]at hR;simp(disch:=omega)[go_sem];refine bR [cE 0,ae 0,aD 2,aN 7,dc 0,cE 16,aN 63,ae 127,aN 255] (by kernel_rfl) 2 rfl ?_;have aI:(g.bj.map bd.e).flatten.length=g.bj.length*9:=by
     rw[eW (k:=9) (by intro y hy;obtain⟨z,_,rfl⟩:=xS.1 hy;rfl)];simp
    have aQ:=hg.bj;have aR:M+2<=M2:=by omega
    by_cases aK:g.bj.length=0
    . have ao:g.bj=[]:=GP aK;simp(disch:=omega)[go_sem,ao,nC]
      repeat refine⟨by omega, ?_⟩
      refine fB (wr:=true) (cs:=[]) (by simp(disch:=omega)[go_sem]) (by simp) (by omega) (by omega) ?_;simp(disch:=omega)[go_sem,hR,dR,ao,ai.e];refine ij (cx (wr:=true) (ah:=9) (by simp(disch:=omega)[go_sem];rfl)) (.inr rfl) (by decide) (by rfl) (qe _) (by simp[bd.e]) ?_;simp(disch:=omega)[go_sem,bd.e,ints]
    . simp(disch:=omega)[go_sem]
      repeat refine⟨by omega, ?_⟩
      refine fB (wr:=true) (cs:=[]) (by simp(disch:=omega)[go_sem]) (by simp) (by omega) (by omega) ?_;simp(disch:=omega)[go_sem]
      repeat refine⟨by omega, ?_⟩
      refine ko (cs:=(g.bj.map bd.e).flatten) (by simp(disch:=omega)[go_sem]) aI (by decide) (by decide) (by simp[go_sem]) (by omega) ?_;simp(disch:=omega)[go_sem,hR,dR,ai.e];refine ij (cx (wr:=true) (ah:=9) (by simp(disch:=omega)[go_sem];rfl)) (.inr rfl) (by decide) (by simp) (qe _) ?_ ?_
      . intro y hy;simp only[Er,xS,PO]at hy;rcases hy with⟨z,_,rfl⟩|rfl<;>rfl
      . rw[PX];refine qi (cA.refl _) ?_;simp(disch:=omega)[go_sem,bd.e,ints]
theorem GH(d:Dg):∀(l:List Tok) (t:Nat),t<l.length->(l.map Tok.e).flatten.take (t*7+5)++(DV.sl 3 (d.nodes.map cK)::iV d.root::(l.map Tok.e).flatten.drop (t*7+5+2))=((l.modify t λx=>{x with cond:=d}).map Tok.e).flatten
 |[],t,h=>absurd h (by simp)
 |x::l,0,_=>by simp[Tok.e,List.modify]
 |x::l,t+1,h=>by
  have ih:=GH d l t (by simpa using h);rw[show(t+1)*7+5=(t*7+5)+1+1+1+1+1+1+1 by omega,show(t*7+5)+1+1+1+1+1+1+1+2=(t*7+5+2)+1+1+1+1+1+1+1 by omega];simp only[List.map_cons,List.flatten_cons,Tok.e,List.cons_append,List.nil_append,List.take_succ_cons,List.drop_succ_cons,List.modify_succ_cons];rw[ih]
def jl(g:ai)(k:Nat)(d:Dg):ai:={g with ar:=g.ar.modify k λx=>{x with cond:=d}}
set_option maxHeartbeats 4000000 in
theorem Xl(sm:Int->Nat->Dg)(ab:∀(b:Int) (n:Nat),0<=b->b<256->n<=3->ay E true 15 [uV b,iV n] (.agg (sm b n).e))(aa:∀(b:Int) (n:Nat),0<=b->b<256->n<=3->ay E true 87 [.agg (sm b n).e,iV n] (bV true))(g:ai)(hg:rO g)(x:Rl)(hx:x.Ok)(hk:x.kind%8=7):
 ay E true 27 [.agg g.e,.agg x.e] (.agg (jl g (x.a%9).toNat (sm x.cond g.conds.length)).e):=by
 obtain⟨R,hR⟩:∃R,R=DV.agg (jl g (x.a%9).toNat (sm x.cond g.conds.length)).e:=⟨_,rfl⟩;rw[<-hR];have ad:=hx.kind;have ha:=hx.a;have hb:=hx.b;have hc:=hx.c;have ew:¬(g.ak.length:Int)=0:=by have:=hg.ak;omega
 have ae:¬(g.aH.length:Int)=0:=by have:=hg.aH;omega
 have af:¬g.ak=[]:=λh=>by have:=hg.ak;rw[h]at this;exact absurd this (by simp)
 have hw:∀z:Int,0<=z->IntKind.u8.wrap (z%8)=z%8:=λz h=>wrap_u8 (by omega) (by omega);refine aW Tryz.ntmps27 Tryz.results27 λN=> ?_;simp(disch:=omega)[go_sem,ai.e,Rl.e];refine an.mk (ab x.cond g.conds.length hx.cond.1 hx.cond.2 hg.conds) λM hM=> ?_;simp(disch:=omega)[go_sem]at hM;have ao:=aa x.cond g.conds.length hx.cond.1 hx.cond.2 hg.conds;generalize sm x.cond g.conds.length=d at*;obtain⟨t,ht⟩:∃t:Nat,x.a%9=t:=⟨(x.a%9).toNat,by omega⟩;have h5:t<g.ar.length:=by have:=hg.ar;omega
 obtain⟨y,hy⟩:∃y,g.ar[t]? =some y:=⟨_,DE h5⟩;have aA:¬g.ar.length=0:=by omega
 simp(disch:=omega)[go_sem,ai.e,Rl.e,Dg.e,ew,af,ae,cT,aC,hw,hk,ht];have av:=hg.GG;refine fB (wr:=true) (cs:=[]) (by simp(disch:=omega)[go_sem]) (by simp) (by omega) (by omega) ?_;have aB:(t:Int)<g.ar.length:=by omega
 have aw:(g.ar.map Tok.e).flatten.length=g.ar.length*7:=by
  rw[eW (k:=7) (by intro y hy;obtain⟨z,_,rfl⟩:=xS.1 hy;rfl)];simp
 have az:=GH d g.ar t h5;have av:=hg.GG;rw[show(x.a%9).toNat=t by omega]at hR;generalize aD:(g.ar.map Tok.e).flatten=TC at*;have hle:t*7+5+2<=g.ar.length*7:=by omega
 simp(disch:=omega)[go_sem,ht,cT,aC,ai.e,Rl.e,aw,hle];subst hR;simp(disch:=omega)[go_sem,ai.e,jl];refine gx (wr:=true) (ah:=7) (by decide) ?_ (by simp) (qe _) (.inr rfl) ?_
 . intro y hy;obtain⟨z,_,rfl⟩:=xS.1 hy;rfl
 . rw[<-az];simp(disch:=omega)[go_sem]
def mI(g:ai)(p:Int):Bool:=g.ba.any λl=>decide (p∈l.ak)
def kq(g:ai)(a b c:Int)(d:Dg):ai:=if mI g a then g else{g with ba:=g.ba++[⟨if b≠a/\mI g b=false then [a,b]else [a],c,d⟩]}
set_option maxHeartbeats 4000000 in
theorem Xm(sm:Int->Nat->Dg)(av:∀(b:Int) (n:Nat),0<=b->b<256->n<=3->ay E true 15 [uV b,iV n] (.agg (sm b n).e))(ab:∀(b:Int) (n:Nat),0<=b->b<256->n<=3->ay E true 87 [.agg (sm b n).e,iV n] (bV true))(g:ai)(hg:rO g)(x:Rl)(hx:x.Ok)(hk:x.kind%8=0\/x.kind%8=1):
 ay E true 27 [.agg g.e,.agg x.e] (.agg (kq g (x.a%g.ak.length) (x.b%g.ak.length) (x.c%4) (sm x.cond g.conds.length)).e):=by
 obtain⟨R,hR⟩:∃R,R=DV.agg (kq g (x.a%g.ak.length) (x.b%g.ak.length) (x.c%4) (sm x.cond g.conds.length)).e:=⟨_,rfl⟩;rw[<-hR];have aB:=hx.kind;have ha:=hx.a;have hb:=hx.b;have hc:=hx.c;have ew:¬(g.ak.length:Int)=0:=by have:=hg.ak;omega
 have aw:¬(g.aH.length:Int)=0:=by have:=hg.aH;omega
 have az:¬g.ak=[]:=λh=>by have:=hg.ak;rw[h]at this;exact absurd this (by simp)
 have hw:∀z:Int,0<=z->IntKind.u8.wrap (z%8)=z%8:=λz h=>wrap_u8 (by omega) (by omega);refine aW Tryz.ntmps27 Tryz.results27 λN=> ?_;simp(disch:=omega)[go_sem,ai.e,Rl.e];refine an.mk (av x.cond g.conds.length hx.cond.1 hx.cond.2 hg.conds) λM hM=> ?_;simp(disch:=omega)[go_sem]at hM;have aK:=ab x.cond g.conds.length hx.cond.1 hx.cond.2 hg.conds;generalize sm x.cond g.conds.length=d at*;have aQ:=hg.ba;generalize aL:x.a%(g.ak.length:Int)=a at*;generalize aE:x.b%(g.ak.length:Int)=b at*;have aF:IntKind.u8.wrap (x.c%4)=x.c%4:=wrap_u8 (by omega) (by omega);have aA:(g.ba.map de.e).flatten.length=g.ba.length*4:=by
  rw[eW (k:=4) (by intro y hy;obtain⟨z,_,rfl⟩:=xS.1 hy;rfl)];simp
 rcases hk with hk|hk
 all_goals (
  simp(disch:=omega)[go_sem,ai.e,Rl.e,Dg.e,ew,az,aw,cT,aC,hw,hk,aL];refine an.mk (GF g a (by omega) hg.lT) λM2 aM=> ?_;simp(disch:=omega)[go_sem]at aM;have aR:M+2<=M2:=by omega
  rw[show(g.ba.any λl=>decide (a∈l.ak))=mI g a from rfl];cases af:mI g a with
  |true=>simp(disch:=omega)[go_sem,hR,kq,af,ai.e]
  |false=>
   by_cases ao:b=a
   . rw[show kq g a b (x.c%4) d={g with ba:=g.ba++[⟨[a],x.c%4,d⟩]} by simp[kq,af,ao]]at hR;simp(disch:=omega)[go_sem,ai.e,Rl.e,Dg.e,ew,az,aw,cT,aC,aF,aE,ao];by_cases ad:g.ba.length=0
     . have aa:g.ba=[]:=GP ad;refine bR [cE 0,ae 0,aD 2,aN 7,dc 0,cE 16,aN 63,ae 127,aN 255] (by kernel_rfl) 2 rfl ?_;simp(disch:=omega)[go_sem,aa,nC]
       repeat refine⟨by omega, ?_⟩
       refine fB (wr:=true) (cs:=[]) (by simp(disch:=omega)[go_sem]) (by simp) (by omega) (by omega) ?_;simp(disch:=omega)[go_sem,hR,aa,ai.e];refine ij (cx (wr:=true) (ah:=4) (by simp(disch:=omega)[go_sem];rfl)) (.inr rfl) (by decide) (by rfl) (qe _) (by simp[de.e]) ?_;simp(disch:=omega)[go_sem,de.e,ints];exact gx (wr:=true) (ah:=0) (by decide) (by simp) (by rfl) (qe _) (.inl rfl) (by simp(disch:=omega)[go_sem])
     . refine bR [cE 0,ae 0,aD 2,aN 7,dc 0,cE 16,aN 63,ae 127,aN 255] (by kernel_rfl) 2 rfl ?_;simp(disch:=omega)[go_sem]
       repeat refine⟨by omega, ?_⟩
       refine fB (wr:=true) (cs:=[]) (by simp(disch:=omega)[go_sem]) (by simp) (by omega) (by omega) ?_;simp(disch:=omega)[go_sem]
       repeat refine⟨by omega, ?_⟩
       refine ko (cs:=(g.ba.map de.e).flatten) (by simp(disch:=omega)[go_sem]) aA (by decide) (by decide) (by simp[go_sem]) (by omega) ?_;simp(disch:=omega)[go_sem,hR,ai.e];refine ij (cx (wr:=true) (ah:=4) (by simp(disch:=omega)[go_sem];rfl)) (.inr rfl) (by decide) (by simp) (qe _) ?_ ?_
       . intro y hy;simp only[Er,xS,PO]at hy;rcases hy with⟨z,_,rfl⟩|rfl<;>rfl
       . rw[PX];refine qi (cA.refl _) ?_;simp(disch:=omega)[go_sem,de.e,ints];exact gx (wr:=true) (ah:=0) (by decide) (by simp) (by rfl) (qe _) (.inl rfl) (by simp(disch:=omega)[go_sem])
   . simp(disch:=omega)[go_sem,ai.e,Rl.e,Dg.e,ew,az,aw,cT,aC,aF,aE,ao];refine an.mk (GF g b (by omega) hg.lT) λM3 aP=> ?_;simp(disch:=omega)[go_sem]at aP;have aS:M2+2<=M3:=by omega
     rw[show(g.ba.any λl=>decide (b∈l.ak))=mI g b from rfl];cases aI:mI g b with
     |true=>
      rw[show kq g a b (x.c%4) d={g with ba:=g.ba++[⟨[a],x.c%4,d⟩]} by simp[kq,af,aI]]at hR;simp(disch:=omega)[go_sem,ai.e];by_cases ad:g.ba.length=0
      . have aa:g.ba=[]:=GP ad;refine bR [cE 0,ae 0,aD 2,aN 7,dc 0,cE 16,aN 63,ae 127,aN 255] (by kernel_rfl) 2 rfl ?_;simp(disch:=omega)[go_sem,aa,nC]
        repeat refine⟨by omega, ?_⟩
        refine fB (wr:=true) (cs:=[]) (by simp(disch:=omega)[go_sem]) (by simp) (by omega) (by omega) ?_;simp(disch:=omega)[go_sem,hR,aa,ai.e];refine ij (cx (wr:=true) (ah:=4) (by simp(disch:=omega)[go_sem];rfl)) (.inr rfl) (by decide) (by rfl) (qe _) (by simp[de.e]) ?_;simp(disch:=omega)[go_sem,de.e,ints];exact gx (wr:=true) (ah:=0) (by decide) (by simp) (by rfl) (qe _) (.inl rfl) (by simp(disch:=omega)[go_sem])
      . refine bR [cE 0,ae 0,aD 2,aN 7,dc 0,cE 16,aN 63,ae 127,aN 255] (by kernel_rfl) 2 rfl ?_;simp(disch:=omega)[go_sem]
        repeat refine⟨by omega, ?_⟩
        refine fB (wr:=true) (cs:=[]) (by simp(disch:=omega)[go_sem]) (by simp) (by omega) (by omega) ?_;simp(disch:=omega)[go_sem]
        repeat refine⟨by omega, ?_⟩
        refine ko (cs:=(g.ba.map de.e).flatten) (by simp(disch:=omega)[go_sem]) aA (by decide) (by decide) (by simp[go_sem]) (by omega) ?_;simp(disch:=omega)[go_sem,hR,ai.e];refine ij (cx (wr:=true) (ah:=4) (by simp(disch:=omega)[go_sem];rfl)) (.inr rfl) (by decide) (by simp) (qe _) ?_ ?_
        . intro y hy;simp only[Er,xS,PO]at hy;rcases hy with⟨z,_,rfl⟩|rfl<;>rfl
        . rw[PX];refine qi (cA.refl _) ?_;simp(disch:=omega)[go_sem,de.e,ints];exact gx (wr:=true) (ah:=0) (by decide) (by simp) (by rfl) (qe _) (.inl rfl) (by simp(disch:=omega)[go_sem])
     |false=>
      rw[show kq g a b (x.c%4) d={g with ba:=g.ba++[⟨[a,b],x.c%4,d⟩]} by simp[kq,af,aI,ao]]at hR;simp(disch:=omega)[go_sem,ai.e];refine fB (wr:=true) (cs:=[iV a]) (by simp(disch:=omega)[go_sem]) (by simp) (by omega) (by omega) ?_;simp(disch:=omega)[go_sem,ai.e];by_cases ad:g.ba.length=0
      . have aa:g.ba=[]:=GP ad;refine bR [cE 0,ae 0,aD 2,aN 7,dc 0,cE 16,aN 63,ae 127,aN 255] (by kernel_rfl) 2 rfl ?_;simp(disch:=omega)[go_sem,aa,nC]
        repeat refine⟨by omega, ?_⟩
        refine fB (wr:=true) (cs:=[]) (by simp(disch:=omega)[go_sem]) (by simp) (by omega) (by omega) ?_;simp(disch:=omega)[go_sem,hR,aa,ai.e];refine ij (cx (wr:=true) (ah:=4) (by simp(disch:=omega)[go_sem];rfl)) (.inr rfl) (by decide) (by rfl) (qe _) (by simp[de.e]) ?_;simp(disch:=omega)[go_sem,de.e,ints];exact gx (wr:=true) (ah:=1) (by decide) (by simp) (by rfl) (qe _) (.inr rfl) (by simp(disch:=omega)[go_sem])
      . refine bR [cE 0,ae 0,aD 2,aN 7,dc 0,cE 16,aN 63,ae 127,aN 255] (by kernel_rfl) 2 rfl ?_;simp(disch:=omega)[go_sem]
        repeat refine⟨by omega, ?_⟩
        refine fB (wr:=true) (cs:=[]) (by simp(disch:=omega)[go_sem]) (by simp) (by omega) (by omega) ?_;simp(disch:=omega)[go_sem]
        repeat refine⟨by omega, ?_⟩
        refine ko (cs:=(g.ba.map de.e).flatten) (by simp(disch:=omega)[go_sem]) aA (by decide) (by decide) (by simp[go_sem]) (by omega) ?_;simp(disch:=omega)[go_sem,hR,ai.e];refine ij (cx (wr:=true) (ah:=4) (by simp(disch:=omega)[go_sem];rfl)) (.inr rfl) (by decide) (by simp) (qe _) ?_ ?_
        . intro y hy;simp only[Er,xS,PO]at hy;rcases hy with⟨z,_,rfl⟩|rfl<;>rfl
        . rw[PX];refine qi (cA.refl _) ?_;simp(disch:=omega)[go_sem,de.e,ints];exact gx (wr:=true) (ah:=1) (by decide) (by simp) (by rfl) (qe _) (.inr rfl) (by simp(disch:=omega)[go_sem]))
def jm(sm:Int->Nat->Dg)(g:ai)(x:Rl):ai:=
 let d:=sm x.cond g.conds.length
 let n:Int:=g.ak.length
 let k:=x.kind%8
 if k=0\/k=1 then kq g (x.a%n) (x.b%n) (x.c%4) d
 else if k=2\/k=3 then(if kM g (x.a%n) (x.c%16) (x.b%n)then dR g ⟨k-1,x.a%n,x.c%16,x.b%n,0,0,[],d⟩else g)
 else if k=4\/k=5 then dR g ⟨k-1,0,0,0,x.a%g.aH.length,0,[x.b%9],d⟩
 else if k=6 then dR g ⟨5,0,0,0,0,0,[5],d⟩
 else jl g (x.a%9).toNat d
theorem Xn(sm:Int->Nat->Dg)(ab:∀(b:Int) (n:Nat),0<=b->b<256->n<=3->ay E true 15 [uV b,iV n] (.agg (sm b n).e))(aa:∀(b:Int) (n:Nat),0<=b->b<256->n<=3->ay E true 87 [.agg (sm b n).e,iV n] (bV true))(g:ai)(hg:rO g)(x:Rl)(hx:x.Ok):
 ay E true 27 [.agg g.e,.agg x.e] (.agg (jm sm g x).e):=by
 unfold jm;simp only;by_cases h1:x.kind%8=0\/x.kind%8=1
 . rw[if_pos h1];exact Xm sm ab aa g hg x hx h1
 rw[if_neg h1];by_cases h2:x.kind%8=2\/x.kind%8=3
 . rw[if_pos h2];exact Xk sm ab aa g hg x hx h2
 rw[if_neg h2];by_cases h3:x.kind%8=4\/x.kind%8=5
 . rw[if_pos h3];exact Xj sm ab aa g hg x hx h3
 rw[if_neg h3];by_cases h4:x.kind%8=6
 . rw[if_pos h4];exact Xi sm ab aa g hg x hx h4
 rw[if_neg h4];exact Xl sm ab aa g hg x hx (by have:=hx.kind;omega)
theorem Xs{h:ab}{ty:TypeId}{b n c s ah:Nat}{cs:List DV}{wr:Bool}{k:IntKind}{z:Int}(hs:E.elem ty=some s)(hg:h.get b=some (.row cs wr ah))(he:ah=0\/ah=s)(h0:0<=z)(h1:z<=c):
 dz E h ty (some (.v (.slice (some ⟨b,0,none⟩) n c))) (some none) (some (some (.v (.int k z)))) (some none)=some (.v (.slice (some ⟨b,0,none⟩) z.toNat c)):=by
 have h2:z.toNat<=c:=by omega
 simp[dz,e9,fx,iZ,dC,hs,hg,he,h0,h1,h2]
theorem GM{h:ab}{ty:TypeId}{b n c s ah:Nat}{cs:List DV}{wr:Bool}{k:IntKind}{z:Int}{K:DV->Prop}(hs:E.elem ty=some s)(hg:h.get b=some (.row cs wr ah))(he:ah=0\/ah=s)(h0:0<=z)(h1:z<=c)(hk:K (.v (.slice (some ⟨b,0,none⟩) z.toNat c))):
 aG (dz E h ty (some (.v (.slice (some ⟨b,0,none⟩) n c))) (some none) (some (some (.v (.int k z)))) (some none)) K:=⟨_,Xs hs hg he h0 h1,hk⟩
theorem Xt{S:eR}{r n c k ah:Nat}{xs:List (List DV)}(hr:S r=some (xs.flatten,ah))(he:ah=0\/ah=k)(hk:0<k)(hn:n<=xs.length)(hc:n<=c)(hx:∀x∈xs,x.length=k):Fz S (.v (.slice (some ⟨r,0,none⟩) n c)) (.sl k (xs.take n)):=by
 have hl:(xs.take n).length=n:=by rw[List.length_take];omega
 refine .sl hr he hk hl.symm hc (λx h=>hx x (List.mem_of_mem_take h)) ?_ λj x i v d h1 h2 h3=> ?_
 . rw[hl,eW hx,Nat.zero_add];exact Nat.mul_le_mul_right _ hn
 . have h4:xs[j]? =some x:=by
    rw[List.getElem?_take]at h1
    split at h1
    . exact h1
    . cases h1
   have:=rH j i x d hx h4 h2;rw[Nat.zero_add,this]at h3;cases h3;exact .refl _
theorem GN{S:eR}{α:Type}{r n c k ah:Nat}{f:α->List DV}{l:List α}(hk:0<k)(hn:n<=l.length)(hc:n<=c)(hx:∀x,(f x).length=k)(he:ah=0\/ah=k)(hr:S r=some ((l.map f).flatten,ah)):Fz S (.v (.slice (some ⟨r,0,none⟩) n c)) (.sl k ((l.take n).map f)):=by
 rw[List.map_take];exact Xt hr he hk (by simpa using hn) hc (λx h=>by obtain⟨y,_,rfl⟩:=xS.1 h;exact hx y)
end Go.Sp
end
noncomputable section
open Go Go.au Go.Proofs
namespace Go.au
variable {e:Env} {aj:Bool}
theorem WD.split(he:e.Ok)(ai:e.P.follows .mixedOrders=true){a b:Code}{d:DS}{K:bk->DS->Prop}(h:RD e aj a d λx s1=>match x with|.normal=>∃d',ax s1 d'/\WD e aj b d' K|x=>K x s1):WD e aj (.seq a b) d K:=by
 intro G s hs;refine WQ.seq ((RD.wd he ai a d _ h G s hs).mono λx s1 ⟨d1,G1,q1,q2,q3⟩=> ?_);cases x with
 |normal=>
  obtain⟨d',h1,h2⟩:=q3;obtain⟨G2,q4,q5⟩:=h1 G1 s1 q1;exact(h2 G2 s1 q4).mono λ_ _=>lI.up (q2.trans q5)
 |exit i=>exact⟨d1,G1,q1,q2,q3⟩
 |ret=>exact⟨d1,G1,q1,q2,q3⟩
variable {G:Nat->Prop} {h:aa} {dh:ab} {R:Rows}
theorem cJ.Xu(he:e.Ok)(ai:e.P.follows .mixedOrders=true)(af:Idle e){f:FuncId}{fn:Func}{c:Code}{ad:List DV}{K:DV->ab->Prop}(ao:e.fn f=some fn)(hb:fn.body=some c){n:Nat}(hn:fn.ntmps=n){rs:List ResultVar}(av:fn.results=rs.toArray)
 (hq:WD e aj c ⟨ie ad,ad.length+(n-ad.length),[],dh⟩ (jd e rs K)) (G:Nat->Prop) (h:aa) (args:List Value) (x:bH G h dh) (ha:b8 (aI h G) args ad):
 match aj with
 |true=>∃v h',bK e f args h v h'/\∃d ae G',bH G' h' ae/\Kp G h dh G' h' ae/\Rel (aI h' G') v d/\K d ae
 |false=>e8 e f args h λv h'=>∃d ae G',bH G' h' ae/\Kp G h dh G' h' ae/\Rel (aI h' G') v d/\K d ae:=by
 subst hn;have hlen:args.length=ad.length:=ha.length;have hs:SD G ⟨gl args,args.length+(fn.ntmps-args.length),[],h⟩ ⟨ie ad,ad.length+(fn.ntmps-ad.length),[],dh⟩:=⟨by simp only[hlen],(EW x.eU ha).all,.nil,x⟩;have key:=hq G _ hs;have fin:∀x s',lI G h dh (jd e rs K) x s'->oA e fn.results.toList (λv h'=>∃d ae G',bH G' h' ae/\Kp G h dh G' h' ae/\Rel (aI h' G') v d/\K d ae) x s':=by
  rintro x s' ⟨d',G',q1,q2,q3,q4,l,q5,q6⟩;obtain⟨vs,q7,q8⟩:=Aj q1 q5;refine⟨q3,s'.h,vs,Ak q1.dd q4,by rw[av];exact q7,jI l,d'.h,G',q1.h,q2,EU q8,q6⟩
 cases aj with
 |false=>exact e8.of he af ao hb (WR.mono key fin)
 |true=>
  obtain⟨x,s',h1,h2⟩:=key;obtain⟨h3,h4,vs,h5,h6,h7⟩:=fin x s' h2;refine⟨jE vs,h4, ?_,h7⟩;have:=zg he af (zt h1) f args h (jE vs) h4 (by
   unfold pC;simp only[ao,hb];have:pI c {t:=gl args,n:=args.length+(fn.ntmps-args.length),ds:=[],h} x s' none c {t:=gl args,n:=args.length+(fn.ntmps-args.length),ds:=[],h}=some (x,s'):=by
    unfold pI;rw[if_pos ⟨rfl,rfl,rfl⟩]
   rw[this];cases x with
   |exit i=>exact absurd rfl (h3 i)
   |normal=>
    simp only[h5,h6]
    match vs with
    |[]=>rfl
    |[v]=>rfl
    |_::_::_=>rfl
   |ret=>
    simp only[h5,h6]
    match vs with
    |[]=>rfl
    |[v]=>rfl
    |_::_::_=>rfl)
  exact this
theorem ay.Xv(he:e.Ok)(ai:e.P.follows .mixedOrders=true)(af:Idle e){f:FuncId}{fn:Func}{c:Code}{ad:List DV}{dv:DV}(ao:e.fn f=some fn)(hb:fn.body=some c){n:Nat}(hn:fn.ntmps=n){rs:List ResultVar}(av:fn.results=rs.toArray)
 (hq:∀N,WD e aj c ⟨ie ad,ad.length+(n-ad.length),[],ab.none N⟩ (jd e rs λd h=>Fz (allRows h) d dv)):ay e aj f ad dv:=by
 intro G h args hG ha;have x:bH G h (ab.none h.next):=⟨hG.2,rfl,λi o ho=>(by rw[ab.get_none]at ho;cases ho),λi hi=>⟨hG.1 i hi,ab.get_none _ _⟩⟩;have key:=cJ.Xu he ai af ao hb hn av (hq h.next) G h args x ha;have fin:∀v h',(∃d ae G',bH G' h' ae/\Kp G h (ab.none h.next) G' h' ae/\Rel (aI h' G') v d/\Fz (allRows ae) d dv)->p8 G h dv v h':=by
  rintro v h' ⟨d,ae,G',q1,q2,q3,q4⟩;refine⟨q2.next,λi hi=>(q2.same i hi (ab.get_none _ _)).1,Rel.fz (G':=rC G h h') q1 (λi cs ah hr=> ?_) (λi hg=> ?_) q4 q3⟩
  . unfold allRows at hr
    split at hr
    . rename_i cs' wr aw hg;cases hr;refine⟨.inr ⟨?_,(q1.obj _ _ hg).1⟩,wr,hg⟩;rcases W2 i h.next with hi|hi
      . rw[(q2.same i hi (ab.get_none _ _)).2]at hg;cases hg
      . exact hi
    . cases hr
  . rcases W2 i h.next with hi|hi
    . rcases q2.aY i hi hg with h1|h1
      . exact .inl h1
      . rw[ab.get_none]at h1;cases h1
    . exact .inr ⟨hi,(q1.still i hg).1⟩
 cases aj with
 |true=>obtain⟨v,h',h1,h2⟩:=key;exact⟨v,h',h1,fin v h' h2⟩
 |false=>exact e8.mono key fin
theorem WD.cut(he:e.Ok)(ai:e.P.follows .mixedOrders=true){a b:Code}{d:DS}{K:bk->DS->Prop}(Inv:DS->Prop)(h:RD e aj a d λx s1=>match x with|.normal=>∃d',ax s1 d'/\Inv d'|x=>K x s1)(h2:∀d',Inv d'->WD e aj b d' K):WD e aj (.seq a b) d K:=by
 intro G s hs;refine WQ.seq ((RD.wd he ai a d _ h G s hs).mono λx s1 ⟨d1,G1,q1,q2,q3⟩=> ?_);cases x with
 |normal=>
  obtain⟨d',h1,h3⟩:=q3;obtain⟨G2,q4,q5⟩:=h1 G1 s1 q1;exact(h2 d' h3 G2 s1 q4).mono λ_ _=>lI.up (q2.trans q5)
 |exit i=>exact⟨d1,G1,q1,q2,q3⟩
 |ret=>exact⟨d1,G1,q1,q2,q3⟩
end Go.au
namespace Go.Sp
theorem vq{f:FuncId}{fn:Func}{c:Code}{ad:List DV}{dv:DV}{n:Nat}(hn:fn.ntmps=n){rs:List ResultVar}(av:fn.results=rs.toArray)
 (hq:∀N,WD E true c ⟨ie ad,ad.length+(n-ad.length),[],ab.none N⟩ (jd E rs λd h=>Fz (allRows h) d dv)) (ao:E.fn f=some fn:=by kernel_rfl) (hb:fn.body=some c:=by rfl):ay E true f ad dv:=ay.Xv (j6 []) kT (sM []) ao hb hn av hq
theorem GO{a b:Code}{d:DS}{K:bk->DS->Prop}(h:RD E true a d λx s1=>match x with|.normal=>∃d',ax s1 d'/\WD E true b d' K|x=>K x s1):WD E true (.seq a b) d K:=WD.split (j6 []) kT h
theorem vt{c:Code}{d:DS}{K:bk->DS->Prop}(h:RD E true c d K):WD E true c d K:=RD.wd (j6 []) kT c d K h
theorem jr{a b:Code}{d:DS}{K:bk->DS->Prop}(Inv:DS->Prop)(h:RD E true a d λx s1=>match x with|.normal=>∃d',ax s1 d'/\Inv d'|x=>K x s1)(h2:∀d',Inv d'->WD E true b d' K):WD E true (.seq a b) d K:=WD.cut (j6 []) kT Inv h h2
theorem fg{a b:Code}{d:DS}{K:bk->DS->Prop}(h:RD E true a d λx s1=>match x with|.normal=>WD E true b s1 K|x=>K x s1):WD E true (.seq a b) d K:=by
 intro G s hs;refine WQ.seq ((RD.wd (j6 []) kT a d _ h G s hs).mono λx s1 ⟨d1,G1,q1,q2,q3⟩=> ?_);cases x with
 |normal=>exact(q3 G1 s1 q1).mono λ_ _=>lI.up q2
 |exit i=>exact⟨d1,G1,q1,q2,q3⟩
 |ret=>exact⟨d1,G1,q1,q2,q3⟩
end Go.Sp
end
noncomputable section
open Go Go.au Go.Proofs
namespace Go.Sp
abbrev Br:Type:=Nat×Nat×Nat
def dj(x:Br):List Value:=[.int .i64 x.1,.int .i64 x.2.1,.int .i64 x.2.2]
def bT(ns:List Br)(n:Nat):Nat:=if n<2 then 64 else(ns[n-2]?.map (·.1)).getD 64
def side(ns:List Br)(n v:Nat)(hi:Bool):Nat:=if bT ns n=v then(ns[n-2]?.map λx=>if hi then x.2.2 else x.2.1).getD 0 else n
theorem Y9(h:aa)(ns:Value)(r k:Int)(hk:k<2):bK E 121 [.agg #[ns,.int .i64 r],.int .i64 k] h (.int .i64 64) h:=by
 refine lF Tryz.ntmps121 Tryz.results121 rfl ?_;simp[go_sem,hk]
theorem Za(h:aa)(b o len cap:Nat)(r k v:Int)(h2:2<=k)(hk:k<len+2)(hb:b<h.next)(hr:rd h b (o+(k-2).toNat*3)=some (.int .i64 v))(hlen:len<=10000):
 bK E 121 [.agg #[.slice (some ⟨b,o,none⟩) len cap,.int .i64 r],.int .i64 k] h (.int .i64 v) h:=by
 refine lF Tryz.ntmps121 Tryz.results121 rfl ?_;have h1:¬k<2:=by omega
 simp(disch:=omega)[go_sem,h1,aC,sK,cU,hr];exact(Sub.refl h).new _
theorem vx{h:aa}{sl:Value}{ns:List Br}(r:Int)(n:Nat)(hs:j7 3 h sl (ns.map dj))(hn:n<ns.length+2)(hlen:ns.length<=10000):bK E 121 [.agg #[sl,.int .i64 r],.int .i64 n] h (.int .i64 (bT ns n)) h:=by
 by_cases h2:n<2
 . have:=Y9 h sl r n (by omega);rwa[show bT ns n=64 by simp[bT,h2]]
 . obtain⟨x,hx⟩:∃x,ns[n-2]? =some x:=⟨_,DE (by omega)⟩;obtain⟨b,o,c,rfl,hb,hj,hc⟩:=hs.at (j:=n-2) (x:=dj x) (by simp[hx]);have:=Za h b o (ns.map dj).length c r n x.1 (by omega) (by simp;omega) hb (by rw[show((n:Int)-2).toNat=n-2 by omega];exact hc 0 _ rfl) (by simpa using hlen);rwa[show bT ns n=x.1 by simp[bT,h2,hx]]
theorem Zb{h:aa}{sl:Value}{ns:List Br}(r:Int)(n v:Nat)(hs:j7 3 h sl (ns.map dj))(hn:n<ns.length+2)(hlen:ns.length<=10000)(hv:bT ns n≠v):
 bK E 179 [.agg #[sl,.int .i64 r],.int .i64 n,.int .i64 v] h (.tuple #[.int .i64 n,.int .i64 n]) h:=by
 refine lF Tryz.ntmps179 Tryz.results179 rfl ?_;simp(disch:=omega)[go_sem];refine KC.mk (vx r n (hs.sub ((Sub.refl h).new _)) hn hlen) ?_;have ab:((bT ns n:Nat):Int)≠v:=by omega
 simp(disch:=omega)[go_sem,ab];exact(Sub.refl h).new _
theorem Zc{h:aa}{sl:Value}{ns:List Br}(r:Int)(n v:Nat)(hs:j7 3 h sl (ns.map dj))(hn:n<ns.length+2)(hlen:ns.length<=10000)(h2:2<=n){x:Br}(hx:ns[n-2]? =some x)(hv:x.1=v):
 bK E 179 [.agg #[sl,.int .i64 r],.int .i64 n,.int .i64 v] h (.tuple #[.int .i64 x.2.1,.int .i64 x.2.2]) h:=by
 have hl:bT ns n=v:=by simp[bT,hx,hv];omega
 obtain⟨b,o,c,rfl,hb,hj,hc⟩:=hs.at (j:=n-2) (x:=dj x) (by simp[hx]);have c1:=hc 1 _ rfl;have c2:=hc 2 _ rfl;simp only[List.length_map]at hj hs⊢;have e1:((n:Int)-2).toNat=n-2:=by omega
 refine lF Tryz.ntmps179 Tryz.results179 rfl ?_;simp(disch:=omega)[go_sem];refine KC.mk (vx r n (hs.sub ((Sub.refl h).new _)) hn hlen) ?_;simp(disch:=omega)[go_sem,hl];refine kI [aU 0,dB 1,aU 0,aU 4,aU 15,aU 31,dB 63,aU 0,dB 128,aU 0,aU 512,aU 1920,aU 3968,dB 8064,aU 127,aU 32767] (by kernel_rfl) 0 rfl ?_;simp(disch:=omega)[go_sem,aC,sK,cU,e1,c1,c2];exact(Sub.refl h).new _
theorem BC{h:aa}{sl:Value}{ns:List Br}(r:Int)(n v:Nat)(hs:j7 3 h sl (ns.map dj))(hn:n<ns.length+2)(hlen:ns.length<=10000)(hv:v<64):
 bK E 179 [.agg #[sl,.int .i64 r],.int .i64 n,.int .i64 v] h (.tuple #[.int .i64 (side ns n v false),.int .i64 (side ns n v true)]) h:=by
 by_cases hl:bT ns n=v
 . have h2:2<=n:=by
    rcases W2 n 2 with h2|h2
    . simp[bT,h2]at hl;omega
    . exact h2
   obtain⟨x,hx⟩:∃x,ns[n-2]? =some x:=⟨_,DE (by omega)⟩;have h3:¬n<2:=by omega
   have:=Zc r n v hs hn hlen h2 hx (by simpa[bT,h3,hx]using hl);simpa[side,hl,hx]using this
 . have:=Zb r n v hs hn hlen hl;simpa[side,hl]using this
end Go.Sp
end

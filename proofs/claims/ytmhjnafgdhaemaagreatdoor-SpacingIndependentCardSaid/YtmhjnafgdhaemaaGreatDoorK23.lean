/- SpacingIndependent: parts of its proof. -/
import Derived.Test.YtmhjnafgdhaemaaGreatDoorK22
open List renaming eq_nil_of_length_eq_zero->qe,take_of_length_le->xS,mem_map->DE,map_cons->Er,getElem?_eq_getElem->PO,mem_of_getElem?->PX,take_add_one->Qc,mem_append->TF,mem_singleton->VK,any_eq_true->W9,countP_pos_iff->Xw,foldl_append->ZJ,foldl_cons->ZL,foldl_nil->Z4
open Prod.mk renaming injEq->GP
open Nat renaming le_refl->W2
open Int renaming toNat_natCast->Zj
open Option renaming toList_some->Zr,map_some->ab8,bind_some->adr
open List.cons renaming injEq->abR
open Bool renaming decide_and->adS
open Std.Legacy.Range renaming forIn_eq_forIn_range'->adT,size->adU
set_option linter.all false
set_option maxRecDepth 100000
noncomputable section
open Go Go.au Go.Proofs
namespace Go.Sp
variable {aj:Bool}
structure Ln where
 left:Int
 right:List Int
 cond:Int
 mark:Int
def Ln.e(x:Ln):List DV:=[uV x.left,.sl 1 (x.right.map λb=>[uV b]),uV x.cond,uV x.mark]
structure Ln.Ok(x:Ln):Prop where
 left:0<=x.left/\x.left<256
 right:∀b∈x.right,0<=b/\b<256
 cond:0<=x.cond/\x.cond<256
 mark:0<=x.mark/\x.mark<256
def jn(n:Int)(b:Int):Sym:=if b%14<9 then⟨true,b%14⟩else⟨false,(b%14-9)%n⟩
def jo(k:Nat):ByteArray:=⟨#[112]⟩++strOf [97+k]
def fL(cg:Int->Nat->Dg)(g:ai)(x:Ln)(known:Bool):ai:=
 let n:Int:=g.aH.length
 let r:=(x.right.take 4).map (jn n)
 let l:=x.left%n
 if r.any (·.tok)=false/\(known=true\/(r.all λs=>s.tok||decide (l<s.idx))=false)then g
 else{g with ak:=g.ak++[mark (jo g.ak.length) l r (cg x.cond g.conds.length) x.mark]}
theorem Xo(z:Int):(strOf [z]).size=1:=rfl
set_option maxHeartbeats 4000000 in
theorem Xp(cg:Int->Nat->Dg)(aw:∀(b:Int) (n:Nat),0<=b->b<256->n<=3->ay E true 15 [uV b,iV n] (.agg (cg b n).e))(g:ai)(x:Ln)(known:Bool)(hx:x.Ok)(hn:0<g.aH.length)(bt:g.aH.length<=3)(hc:g.conds.length<=3)(hp:g.ak.length<=20):
 ay E true 26 [.agg g.e,.agg x.e,bV known] (.agg (fL cg g x known).e):=by
 obtain⟨R,hR⟩:∃R,R=DV.agg (fL cg g x known).e:=⟨_,rfl⟩;rw[<-hR];refine aW Tryz.ntmps26 Tryz.results26 λN=> ?_;have av:¬(g.aH.length:Int)=0:=by omega
 have hl:=hx.left;have aL:∀o p,cD E .add 9 o p (.string ⟨#[112]⟩) (.string (strOf [97+(g.ak.length:Int)]))=some (.string (jo g.ak.length)):=λo p=>sU 9 o p _ _ (by simp[Xo];decide);simp(disch:=omega)[go_sem,ai.e,Ln.e];refine jK [ae 0,aD 1,aD 3,ae 7,aD 15,cE 31,aD 63,ae 127,ae 0,aD 256,aD 768,ae 0,ae 3840,aN 8191,cE 0,aN 32767] (by kernel_rfl) 2 rfl (N+3) (by simp[go_sem]) ?_;simp(disch:=omega)[go_sem,cT,wrap_u8,aC,av,aL];refine an.mk (Gr (jo g.ak.length) (x.left%g.aH.length) dQ rfl rfl) λM hM=> ?_;simp(disch:=omega)[go_sem,jP]at hM⊢;generalize bg:jo g.ak.length=pn;generalize bk:x.left%(g.aH.length:Int)=lf;generalize bl:(g.aH.length:Int)=n at*;have bn:N+5<=M:=by omega
 obtain⟨I,hI⟩:∃I:Nat->DS->Prop,∀j d,I j d↔∃(k M:Nat) (r:Option Nat) (A:List Sym),j+k=4/\k<=x.right.length/\A=(x.right.take k).map (jn n)/\d=⟨bz [(2,bV known),(3,.v (.pointer (some ⟨N,0,none⟩))),(4,.v (.pointer (some ⟨N+1,0,none⟩))),(6,.v (.pointer (some ⟨N+2,0,none⟩))),(7,iV n),(8,.v (.pointer (some ⟨N+4,0,none⟩))),(9,iV (A.countP (·.tok):Nat)),(10,bV (A.all λs=>s.tok||decide (lf<s.idx))),(11,iV k)],109,[],
  cw M ([(N,.row g.e true 0),(N+1,.row x.e true 0),(N+2,.row dV true 0),(N+4,.row (jP pn lf (gv r k) (aP true)) true 0)]++gh r 2 (A.map Sym.e).flatten)⟩/\N+5<=M/\(r=none->k=0)/\∀q,r=some q->0<k/\N+5<=q/\q<M:=⟨_,λ_ _=>Iff.rfl⟩
 refine bO I 4 ⟨_,ax.mk (N:=M) ?_ ?_ ?_,(hI _ _).2 ⟨0,M,none,[],rfl,Nat.zero_le _,rfl,rfl,bn,λ_=>rfl,λ_ h=>(by cases h)⟩⟩ ?_
 . simp(disch:=omega)[go_sem]
 . simp[go_sem]
 . simp(disch:=omega)[go_sem,ai.e,Ln.e,dV,jP,aP]
 . intro j d hd;obtain⟨k,M,r,A,hj,bu,hA,rfl,hM,aM,aR⟩:=(hI _ _).1 hd;clear hd;have aS:∀b∈x.right,0<=b/\b<256:=hx.right;have aF:N+4<M:=by omega
   have az:A.length=k:=by rw[hA];simp;omega
   have bo:A.countP (·.tok)<=4:=Nat.le_trans List.countP_le_length (by omega);have hlen:(A.map Sym.e).flatten.length=k*2:=by
    rw[eW (k:=2) (by intro y hy;obtain⟨z,_,rfl⟩:=DE.1 hy;rfl)];simp[az]
   by_cases hk:k<x.right.length/\k<4
   . obtain⟨bp,bx⟩:=hk;have aa:(k:Int)<x.right.length:=by omega
     have ab:(k:Int)<4:=by omega
     obtain⟨b,hb⟩:∃b,x.right[k]? =some b:=⟨_,PO bp⟩;obtain⟨bA,bB⟩:=aS b (PX hb);have aA:A++[jn n b]=(x.right.take (k+1)).map (jn n):=by rw[Qc,hb,hA];simp
     simp(disch:=omega)[go_sem,Ln.e,aa,ab,hb,cT,aC,-getElem?_pos];refine nD.mk _ _ (λht=> ?_) (λht=> ?_)
     . have hs:jn n b=⟨true,b%14⟩:=by simp[jn,ht]
       simp(disch:=omega)[go_sem];refine jK [kj 0,dc 1,ae 0,aN 4,cE 12,aN 31,ae 63,aN 127] (by kernel_rfl) 1 rfl M (by simp[go_sem]) ?_;simp(disch:=omega)[go_sem,jP,aF];refine an.mk (Gq (b%14)) λM2 ao=> ?_;simp(disch:=omega)[go_sem]at ao;cases r with
       |none=>
        obtain rfl:k=0:=aM rfl;obtain rfl:A=[]:=qe az;simp(disch:=omega)[go_sem,rD,aC];refine⟨j-1,by omega,_,ax.mk (N:=M2+1) ?_ ?_ ?_,(hI _ _).2 ⟨1,M2+1,some M2,_,by omega,by omega,aA,rfl,by omega,λh=>(by cases h),λq h=>(by cases h;omega)⟩⟩
        . simp[go_sem]
        . simp[go_sem,hs]
        . simp(disch:=omega)[go_sem,ai.e,Ln.e,dV,jP,aP,hs,Sym.e]
       |some q=>
        obtain⟨aZ,bb,bc⟩:=aR q rfl;simp(disch:=omega)[go_sem];refine ko (cs:=(A.map Sym.e).flatten) (by simp(disch:=omega)[go_sem]) hlen (by decide) (by decide) (by simp[go_sem]) (by omega) ?_;simp(disch:=omega)[go_sem,aC];refine⟨j-1,by omega,_,ax.mk (N:=M2+1) ?_ ?_ ?_,(hI _ _).2 ⟨k+1,M2+1,some M2,_,by omega,by omega,aA,rfl,by omega,λh=>(by cases h),λq h=>(by cases h;omega)⟩⟩
        . simp[go_sem]
        . simp[go_sem,hs]
        . simp(disch:=omega)[go_sem,ai.e,Ln.e,dV,jP,aP,hs,Sym.e]
     . have hs:jn n b=⟨false,(b%14-9)%n⟩:=by simp[jn,ht]
       have bD:0<n:=by omega
       have bF:0<=(b%14-9)%n:=Int.emod_nonneg _ av;simp(disch:=omega)[go_sem];refine jK [kj 0,dc 1,ae 0,ae 4,ae 0,ae 28,aN 60,cE 124,aN 255,ae 511,aN 1023] (by kernel_rfl) 1 rfl M (by simp[go_sem]) ?_;simp(disch:=omega)[go_sem,jP,aF,cT,aC,av];refine an.mk (W6 ((b%14-9)%n)) λM2 ao=> ?_;simp(disch:=omega)[go_sem]at ao;cases r with
       |none=>
        obtain rfl:k=0:=aM rfl;obtain rfl:A=[]:=qe az;simp(disch:=omega)[go_sem,rD,aC];refine jK [ae 0,ae 1,ae 3,ae 7,ae 3,ae 31,ae 3,aD 67,ae 255,ae 511,ae 1023] (by kernel_rfl) 0 rfl (M2+1) (by simp[go_sem]) ?_;simp(disch:=omega)[go_sem,cT,aC,av];refine⟨j-1,by omega,_,ax.mk (N:=M2+1) ?_ ?_ ?_,(hI _ _).2 ⟨1,M2+1,some M2,_,by omega,by omega,aA,rfl,by omega,λh=>(by cases h),λq h=>(by cases h;omega)⟩⟩
        . simp[go_sem]
        . simp[go_sem,hs]
        . simp(disch:=omega)[go_sem,ai.e,Ln.e,dV,jP,aP,hs,Sym.e]
       |some q=>
        obtain⟨aZ,bb,bc⟩:=aR q rfl;simp(disch:=omega)[go_sem];refine ko (cs:=(A.map Sym.e).flatten) (by simp(disch:=omega)[go_sem]) hlen (by decide) (by decide) (by simp[go_sem]) (by omega) ?_;simp(disch:=omega)[go_sem,aC];refine jK [ae 0,ae 1,ae 3,ae 7,ae 3,ae 31,ae 3,aD 67,ae 255,ae 511,ae 1023] (by kernel_rfl) 0 rfl (M2+1) (by simp[go_sem]) ?_;cases af:(A.all λs=>s.tok||decide (lf<s.idx))with
        |true=>
         simp(disch:=omega)[go_sem,cT,aC,av,af];refine⟨j-1,by omega,_,ax.mk (N:=M2+1) ?_ ?_ ?_,(hI _ _).2 ⟨k+1,M2+1,some M2,_,by omega,by omega,aA,rfl,by omega,λh=>(by cases h),λq h=>(by cases h;omega)⟩⟩
         . simp[go_sem]
         . simp[go_sem,hs,af]
         . simp(disch:=omega)[go_sem,ai.e,Ln.e,dV,jP,aP,hs,Sym.e]
        |false=>
         simp(disch:=omega)[go_sem,cT,aC,av,af];refine⟨j-1,by omega,_,ax.mk (N:=M2+1) ?_ ?_ ?_,(hI _ _).2 ⟨k+1,M2+1,some M2,_,by omega,by omega,aA,rfl,by omega,λh=>(by cases h),λq h=>(by cases h;omega)⟩⟩
         . simp[go_sem]
         . simp[go_sem,hs,af]
         . simp(disch:=omega)[go_sem,ai.e,Ln.e,dV,jP,aP,hs,Sym.e]
   . have bd:A=(x.right.take 4).map (jn n):=by
      rw[hA];rcases Nat.lt_or_ge k x.right.length with h|h
      . rw[show k=4 by omega]
      . rw[xS h,xS (by omega)]
     have aB:A.any (·.tok)=decide (A.countP (·.tok)≠0):=by
      cases h:A.any (·.tok)with
      |true=>
       obtain⟨a,h1,h2⟩:=W9.1 h;have:0<A.countP (·.tok):=Xw.2 ⟨a,h1,h2⟩;exact(decide_eq_true (by omega)).symm
      |false=>
       symm;apply decide_eq_false
       intro h3;obtain⟨a,h1,h2⟩:=Xw.1 (Nat.pos_of_ne_zero h3);rw[W9.2 ⟨a,h1,h2⟩]at h;cases h
     have hw:fL cg g x known=if A.countP (·.tok)=0/\(known=true\/(A.all λs=>s.tok||decide (lf<s.idx))=false)then g else{g with ak:=g.ak++[mark pn lf A (cg x.cond g.conds.length) x.mark]}:=by
      simp only[fL];rw[bg,bl,bk,<-bd,aB];simp
     rw[hw]at hR;clear hw aB bd hA;generalize A.countP (·.tok)=cn at*;generalize (A.all λs=>s.tok||decide (lf<s.idx))=al at*;have bG:((cn:Int)=0)=(cn=0):=propext ⟨λh=>by omega,λh=>by omega⟩;have aI:0<=x.cond/\x.cond<256:=hx.cond;have aK:0<=x.mark/\x.mark<256:=hx.mark;by_cases hg:cn=0/\(known=true\/al=false)
     . rw[if_pos hg]at hR;obtain⟨rfl,hg⟩:=hg;rcases Nat.lt_or_ge k x.right.length with h|h
       . have aa:(k:Int)<x.right.length:=by omega
         have ab:¬(k:Int)<4:=by omega
         rcases hg with rfl|rfl<;>(try cases known)<;>simp(disch:=omega)[go_sem,Ln.e,dV,aa,ab,ai.e,hR,-getElem?_pos]
       . have aa:¬(k:Int)<x.right.length:=by omega
         rcases hg with rfl|rfl<;>(try cases known)<;>simp(disch:=omega)[go_sem,Ln.e,dV,aa,ai.e,hR,-getElem?_pos]
     . rw[if_neg hg]at hR;have h3:cn≠0\/(cn=0/\known=false/\al=true):=by
        by_cases h1:cn=0
        . cases bq:known<;>cases bs:al<;>simp[h1,bq,bs]at hg⊢
        . exact .inl h1
       cases r with
       |none=>
        obtain rfl:k=0:=aM rfl;obtain rfl:A=[]:=qe az;have bf:x.right=[]:=qe (by omega);rcases h3 with h3|⟨rfl,rfl,rfl⟩
        all_goals first
         |simp(disch:=omega)[go_sem,Ln.e,dV,ai.e,bf,h3,-getElem?_pos]
         |simp(disch:=omega)[go_sem,Ln.e,dV,ai.e,bf,-getElem?_pos]
        all_goals (
         refine an.mk (aw x.cond g.conds.length aI.1 aI.2 hc) λM2 ao=> ?_;simp(disch:=omega)[go_sem]at ao;have aF:N+4<M2:=by omega
         simp(disch:=omega)[go_sem,jP,Dg.e];refine an.fz (Gs pn lf [] (cg x.cond g.conds.length) x.mark (by simp) aK.1 aK.2) [] ?_ ?_ λM3 aT=> ?_
         . simp
         . simp(disch:=omega)[go_sem,aQ.e,bm,iH,Dg.e]
         simp(disch:=omega)[go_sem]at aT;generalize mark pn lf [] (cg x.cond g.conds.length) x.mark=m at*;have ad:N+4<M3:=by omega
         simp(disch:=omega)[go_sem,aQ.e];refine jK [cE 0,ae 0,aD 2,aN 7,dc 0,cE 16,aN 63,ae 127,aN 255] (by kernel_rfl) 2 rfl M3 (by simp(disch:=omega)[go_sem]) ?_;have aU:(g.ak.map aQ.e).flatten.length=g.ak.length*13:=by
          rw[eW (k:=13) (by intro y hy;obtain⟨z,_,rfl⟩:=DE.1 hy;rfl)];simp
         by_cases ew:g.ak.length=0
         . have aE:g.ak=[]:=qe ew;simp(disch:=omega)[go_sem,aE,nC,ad];refine fB (wr:=true) (cs:=[]) (by simp(disch:=omega)[go_sem]) (by simp) (by omega) (by omega) ?_;simp(disch:=omega)[go_sem,hR,aE,ai.e,aQ.e];refine dU (cx (wr:=true) (ah:=13) ?_) (.inr rfl) (by decide) ?_ ?_ ?_
           . simp(disch:=omega)[go_sem]
           all_goals simp[aQ.e]
         . simp(disch:=omega)[go_sem];refine fB (wr:=true) (cs:=[]) (by simp(disch:=omega)[go_sem]) (by simp) (by omega) (by omega) ?_;simp(disch:=omega)[go_sem,ad];refine ko (cs:=(g.ak.map aQ.e).flatten) (by simp(disch:=omega)[go_sem]) aU (by decide) (by decide) (by simp[go_sem]) (by omega) ?_;simp(disch:=omega)[go_sem,hR,ai.e,aQ.e];refine dU (cx (wr:=true) (ah:=13) ?_) (.inr rfl) (by decide) ?_ ?_ ?_
           . simp(disch:=omega)[go_sem]
           . simp
           . simp
           . intro y hy;simp only[TF,DE,VK]at hy;rcases hy with⟨z,_,rfl⟩|rfl<;>rfl)
       |some q=>
        obtain⟨aZ,bb,bc⟩:=aR q rfl;have aX:((k:Int)<x.right.length/\¬(k:Int)<4)\/(¬(k:Int)<x.right.length/\True):=by
         by_cases h1:(k:Int)<x.right.length
         . exact .inl ⟨h1,by omega⟩
         . exact .inr ⟨h1,trivial⟩
        rcases aX with⟨aa,ab⟩|⟨aa,ab⟩<;>rcases h3 with h3|⟨rfl,rfl,rfl⟩
        all_goals first
         |simp(disch:=omega)[go_sem,Ln.e,dV,ai.e,aa,ab,h3,-getElem?_pos]
         |simp(disch:=omega)[go_sem,Ln.e,dV,ai.e,aa,ab,-getElem?_pos]
        all_goals (
         refine an.mk (aw x.cond g.conds.length aI.1 aI.2 hc) λM2 ao=> ?_;simp(disch:=omega)[go_sem]at ao;have aF:N+4<M2:=by omega
         simp(disch:=omega)[go_sem,jP,Dg.e];refine an.fz (Gs pn lf A (cg x.cond g.conds.length) x.mark (by omega) aK.1 aK.2) [q] ?_ ?_ λM3 aT=> ?_
         . simp(disch:=omega)[go_sem]
         . simp(disch:=omega)[go_sem,aQ.e,bm,iH,Dg.e];exact dU (gr (wr:=true) (by simp) (by simp(disch:=omega)[go_sem])) (.inr rfl) (by decide) (by simp[az]) (W2 _) (by simp[Sym.e])
         simp(disch:=omega)[go_sem]at aT;generalize mark pn lf A (cg x.cond g.conds.length) x.mark=m at*;have ad:N+4<M3:=by omega
         simp(disch:=omega)[go_sem,aQ.e];refine jK [cE 0,ae 0,aD 2,aN 7,dc 0,cE 16,aN 63,ae 127,aN 255] (by kernel_rfl) 2 rfl M3 (by simp(disch:=omega)[go_sem]) ?_;have aU:(g.ak.map aQ.e).flatten.length=g.ak.length*13:=by
          rw[eW (k:=13) (by intro y hy;obtain⟨z,_,rfl⟩:=DE.1 hy;rfl)];simp
         by_cases ew:g.ak.length=0
         . have aE:g.ak=[]:=qe ew;simp(disch:=omega)[go_sem,aE,nC,ad];refine fB (wr:=true) (cs:=[]) (by simp(disch:=omega)[go_sem]) (by simp) (by omega) (by omega) ?_;simp(disch:=omega)[go_sem,hR,aE,ai.e,aQ.e];refine dU (cx (wr:=true) (ah:=13) ?_) (.inr rfl) (by decide) ?_ ?_ ?_
           . simp(disch:=omega)[go_sem]
           all_goals simp[aQ.e]
         . simp(disch:=omega)[go_sem];refine fB (wr:=true) (cs:=[]) (by simp(disch:=omega)[go_sem]) (by simp) (by omega) (by omega) ?_;simp(disch:=omega)[go_sem,ad];refine ko (cs:=(g.ak.map aQ.e).flatten) (by simp(disch:=omega)[go_sem]) aU (by decide) (by decide) (by simp[go_sem]) (by omega) ?_;simp(disch:=omega)[go_sem,hR,ai.e,aQ.e];refine dU (cx (wr:=true) (ah:=13) ?_) (.inr rfl) (by decide) ?_ ?_ ?_
           . simp(disch:=omega)[go_sem]
           . simp
           . simp
           . intro y hy;simp only[TF,DE,VK]at hy;rcases hy with⟨z,_,rfl⟩|rfl<;>rfl)
end Go.Sp
end
noncomputable section
open Go Go.au Go.Proofs
namespace Go.Sp
structure dM(g:ai)(r:Nat):Prop where
 ak:0<g.ak.length
 aH:0<g.aH.length/\g.aH.length<=3
 conds:g.conds.length<=3
 bj:g.bj.length<=3+r
 ba:g.ba.length<=3+r
 ar:g.ar.length=11
 lT:∀l∈g.ba,l.ak.length<=4096
 ord:∀i x,i<9->g.ar[i]? =some x->x.cls=0/\(x.lit=⟨#[]⟩↔i=0)
theorem dM.ok{g:ai}{r:Nat}(h:dM g r)(hr:r<=6):rO g:=
 ⟨h.ak,h.aH.1,h.conds,by have:=h.bj;omega,by have:=h.ba;omega,by have:=h.ar;omega,h.lT,by have:=h.ar;omega,h.ord⟩
theorem dM.dR{g:ai}{r:Nat}(h:dM g r)(f:bd):dM (dR g f) (r+1):=
 ⟨h.ak,h.aH,h.conds,by have:=h.bj;simp[Go.Sp.dR];omega,by have:=h.ba;simp[Go.Sp.dR];omega,h.ar,h.lT,h.ord⟩
theorem dM.more{g:ai}{r:Nat}(h:dM g r):dM g (r+1):=
 ⟨h.ak,h.aH,h.conds,by have:=h.bj;omega,by have:=h.ba;omega,h.ar,h.lT,h.ord⟩
theorem dM.jl{g:ai}{r:Nat}(h:dM g r)(k:Nat)(d:Dg):dM (jl g k d) (r+1):=by
 refine⟨h.ak,h.aH,h.conds,h.more.bj,h.more.ba,by simp[Go.Sp.jl,h.ar],h.lT,λi x hi hx=> ?_⟩;simp only[Go.Sp.jl,List.getElem?_modify]at hx;cases hy:g.ar[i]? with
 |none=>rw[hy]at hx;cases hx
 |some y=>
  rw[hy]at hx;have:=h.ord i y hi hy
  split at hx<;>cases hx<;>exact this
theorem dM.level{g:ai}{r:Nat}(h:dM g r)(a b c:Int)(d:Dg):dM (kq g a b c d) (r+1):=by
 unfold kq
 split
 . exact h.more
 . refine⟨h.ak,h.aH,h.conds,h.more.bj,by have:=h.ba;simp;omega,h.ar,λl hl=> ?_,h.ord⟩;rcases TF.1 hl with hl|hl
   . exact h.lT l hl
   . obtain rfl:=VK.1 hl;simp only
     split<;>simp
theorem dM.Bl{g:ai}{r:Nat}(h:dM g r)(sm:Int->Nat->Dg)(x:Rl):dM (jm sm g x) (r+1):=by
 unfold jm;simp only
 split
 . exact h.level ..
 split
 . split
   . exact h.dR _
   . exact h.more
 split
 . exact h.dR _
 split
 . exact h.dR _
 . exact h.jl _ _
theorem dM.line{g:ai}{r:Nat}(h:dM g r)(sm:Int->Nat->Dg)(x:Ln)(known:Bool):dM (fL sm g x known) r:=by
 unfold fL;simp only
 split
 . exact h
 . exact⟨by simp,h.aH,h.conds,h.bj,h.ba,h.ar,h.lT,h.ord⟩
theorem Xq(sm:Int->Nat->Dg)(g:ai)(x:Ln)(known:Bool):(fL sm g x known).ak.length<=g.ak.length+1:=by
 unfold fL;simp only
 split
 . omega
 . simp
structure cB where
 base:Int
 n:Int
 family:List Int
 lines:List Ln
 rules:List Rl
def cB.e(x:cB):List DV:=[uV x.base,uV x.n,.sl 1 (x.family.map λb=>[uV b]),.sl 4 (x.lines.map Ln.e),.sl 5 (x.rules.map Rl.e)]
structure cB.Ok(x:cB):Prop where
 base:0<=x.base/\x.base<256
 n:0<=x.n/\x.n<256
 family:∀b∈x.family,0<=b/\b<256
 lines:∀l∈x.lines,l.Ok
 rules:∀l∈x.rules,l.Ok
def tq:List ByteArray:=[⟨#[83]⟩,⟨#[80]⟩,⟨#[81]⟩]
def nM:List ByteArray:=[⟨#[65]⟩,⟨#[66]⟩,⟨#[67]⟩]
def jq(x:cB):ai:=
 if x.base%8<6 then gQ (x.base%8)
 else⟨nM.take (x.n%4).toNat,aP true,ar,tq.take (1+(x.n/4)%3).toNat,[bm ⟨#[102,105,114,115,116]⟩ 0 [⟨true,0⟩] (aP true)],0,[],[]⟩
def iI(md:List Int->Nat->Dg)(x:cB)(g:ai):ai:=
 let d:=md x.family g.conds.length
 if 0<x.family.length/\d.root≠0 then{g with family:=d}else g
def cr(md:List Int->Nat->Dg)(x:cB):ai:=
 let known:=decide (x.base%8<6)
 let g:=iI md x (jq x)
 let g:=(x.lines.take (if known then 6 else 10)).foldl (λg l=>fL (cg md) g l known) g
 (x.rules.take 6).foldl (jm (cg md)) g
theorem GJ:∀i x,i<9->ar[i]? =some x->x.cls=0/\(x.lit=⟨#[]⟩↔i=0):=by
 intro i x hi hx;have:i=0\/i=1\/i=2\/i=3\/i=4\/i=5\/i=6\/i=7\/i=8:=by omega
 rcases this with rfl|rfl|rfl|rfl|rfl|rfl|rfl|rfl|rfl<;>(simp[ar,lits]at hx;subst hx;simp[ik,fV])
theorem GK:ar.length=11:=rfl
theorem dM.of{g:ai}(h1:0<g.ak.length)(h2:0<g.aH.length/\g.aH.length<=3)(h3:g.conds.length<=3)(h4:g.bj.length<=3)(h5:g.ba.length<=3)(h6:g.ar=Go.Sp.ar)(h7:∀l∈g.ba,l.ak.length<=4096):dM g 0:=
 ⟨h1,h2,h3,h4,h5,by rw[h6];exact GK,h7,by rw[h6];exact GJ⟩
theorem Xr(b:Int):dM (gQ b) 0/\(gQ b).ak.length<=10:=by
 unfold gQ
 repeat' split
 all_goals (refine⟨dM.of ?_ ?_ ?_ ?_ ?_ rfl ?_, ?_⟩<;>simp[Gu,Gv,Gw,Gx,Gy,Gz])
theorem GL(x:cB)(hx:x.Ok):dM (jq x) 0/\(jq x).ak.length<=10:=by
 unfold jq
 split
 . exact Xr _
 . have:=hx.n;refine⟨dM.of (by simp) ?_ ?_ (by simp) (by simp) rfl (by simp),by simp⟩
   . simp[tq];omega
   . simp[nM];omega
theorem dM.cL{g:ai}{r:Nat}(h:dM g r)(md:List Int->Nat->Dg)(x:cB):dM (iI md x g) r/\(iI md x g).ak.length=g.ak.length:=by
 unfold iI;simp only
 split
 . exact⟨⟨h.ak,h.aH,h.conds,h.bj,h.ba,h.ar,h.lT,h.ord⟩,rfl⟩
 . exact⟨h,rfl⟩
theorem GQ{N:Nat}:∀{r s:List (Nat×bx)} {i:Nat} {o:bx},(cw N (r++s)).get i=some o->(i,o)∈r\/(cw N s).get i=some o
 |[],s,i,o,h=>.inr h
 |(j,u)::r,s,i,o,h=>by
  rw[List.cons_append,u6]at h
  split at h
  . rename_i hi;subst hi;cases h;exact .inl (by simp)
  . rcases GQ h with h|h
    . exact .inl (List.mem_cons_of_mem _ h)
    . exact .inr h
theorem ax.Xx{t:Tr DV}{n N:Nat}{dd:List FuncId}{h:ab}{ts:List (Nat×DV)}{r:List (Nat×bx)}(l:List Nat){b:Nat}{cs cs':List DV}{wr:Bool}{ah:Nat}(hl:∀i∈l,(h.get i).isSome=true)(hN:h.next=N)(ht:jM t ts)(hh:oL h r)
 (hr:∀p∈r,p.1∉l) (hb:h.get b=some (.row cs wr ah)) (bk:b∉l) (hz:cA (rowsOf h l) cs cs'):ax ⟨t,n,dd,h⟩ ⟨bz ts,n,dd,cw N (r++[(b,.row cs' wr ah)])⟩:=by
 refine ax.of l hl (by rw[u7,hN]) (λi v hv=>⟨v,vb ht.mem i v hv,.refl v⟩) λi o ho=> ?_;rcases GQ ho with h1|h1
 . exact⟨hr _ h1,.inl (hh.mem _ h1)⟩
 . rw[u6]at h1
   split at h1
   . rename_i hi;subst hi;cases h1;exact⟨bk,.inr ⟨cs,cs',wr,ah,hb,rfl,hz⟩⟩
   . rw[xH]at h1;cases h1
def GR(md:List Int->Nat->Dg):Prop:=∀(l:List Int) (n:Nat),(∀b∈l,0<=b/\b<256)->n<=3->ay E true 25 [.sl 1 (l.map λb=>[uV b]),iV n] (.agg (md l n).e)
def GS(md:List Int->Nat->Dg):Prop:=∀(b:Int) (n:Nat),0<=b->b<256->n<=3->ay E true 87 [.agg (cg md b n).e,iV n] (bV true)
def MI(N M:Nat)(kb:Bool)(aa:Nat)(x:cB)(g:ai)(ts:List (Nat×DV))(d:DS):Prop:=∃P,(N+1<M/\M<P)/\d=⟨bz ([(1,.v (.pointer (some ⟨N,0,none⟩))),(2,.v (.pointer (some ⟨N+1,0,none⟩))),(3,bV kb),(4,.v (.pointer (some ⟨M,0,none⟩))),(5,iV aa)]++ts),99,[],cw P [(N,.row x.e true 0),(N+1,.row dV true 0),(M,.row g.e true 0)]⟩
set_option maxHeartbeats 8000000 in
theorem Xy(hc:Bj)(md:List Int->Nat->Dg)(bb:GR md)(aM:GS md)(x:cB)(hx:x.Ok):ay E true 12 [.agg x.e] (.agg (cr md x).e):=by
 obtain⟨R,hR⟩:∃R,R=DV.agg (cr md x).e:=⟨_,rfl⟩;rw[<-hR];have hb:=hx.base;have hn:=hx.n;have hw:IntKind.u8.wrap (x.base%8)=x.base%8:=wrap_u8 (by omega) (by omega);have aA:∀(b:Int) (n:Nat),0<=b->b<256->n<=3->ay E true 15 [uV b,iV n] (.agg (cg md b n).e):=λb n h0 h1 h2=>GA hc md bb b n h0 h1 h2;obtain⟨g0,aK⟩:∃g0,jq x=g0:=⟨_,rfl⟩;obtain⟨kb,aL⟩:∃kb,decide (x.base%8<6)=kb:=⟨_,rfl⟩;obtain⟨aa,ao⟩:∃aa:Nat,(if kb then 6 else 10)=aa:=⟨_,rfl⟩;have bl:aa<=10:=by rw[<-ao];split<;>omega
 have af:=GL x hx;rw[aK]at af;refine vq Tryz.ntmps12 Tryz.results12 λN=> ?_;refine fg ?_;simp(disch:=omega)[go_sem,cB.e];refine fg ?_;simp(disch:=omega)[go_sem,cT,hw,cB.e,aL];refine fg ?_;simp(disch:=omega)[go_sem,cT,hw,cB.e];refine an.mk (Xg (x.base%8) (by simp;omega)) λM hM=> ?_;simp(disch:=omega)[go_sem]at hM;simp(disch:=omega)[go_sem,ai.e,cB.e];refine fg ?_;simp(disch:=omega)[go_sem];refine jr (MI N M kb aa x g0 []) ?_ ?_
 . simp(disch:=omega)[go_sem];cases kb with
   |false=>
    have hk:=of_decide_eq_false aL;have hq:IntKind.u8.wrap (x.n/4)=x.n/4:=wrap_u8 (by omega) (by omega);have hr:IntKind.u8.wrap (x.n%4)=x.n%4:=wrap_u8 (by omega) (by omega);obtain⟨n1,bc⟩:∃n1:Nat,1+x.n/4%3=n1:=⟨(1+x.n/4%3).toNat,by omega⟩;obtain⟨n2,bd⟩:∃n2:Nat,x.n%4=n2:=⟨(x.n%4).toNat,by omega⟩;have bn:IntKind.u8.wrap n2=n2:=wrap_u8 (by omega) (by omega);have aB:n1<=3:=by omega
    have aE:n2<=3:=by omega
    have he:g0.e=[.sl 1 ((nM.take n2).map λs=>[sV s]),.sl 3 ((aP true).nodes.map cK),iV (aP true).root,.sl 7 (ar.map Tok.e),strs (tq.take n1),.sl 13 [(bm ⟨#[102,105,114,115,116]⟩ 0 [⟨true,0⟩] (aP true)).e],iV 0,.sl 4 [],.sl 9 []]:=by
     rw[<-aK];simp only[jq,hk,if_false,bc,bd,Zj];simp[ai.e]
    simp(disch:=omega)[go_sem,ai.e,cB.e,jj,cT,hq,hr,aC];refine GM (wr:=true) rfl (by simp(disch:=omega)[go_sem];try rfl) (.inl rfl) (by omega) (by omega) ?_;simp(disch:=omega)[go_sem];simp only[bc,Zj];refine an.fz (Xe (tq.take n1)) [M+1] ?_ ?_ λM2 aR=> ?_
    . simp(disch:=omega)[go_sem]
    . exact .cons (GN (ah:=0) (by decide) aB aB (λ_=>rfl) (.inl rfl) (gr (wr:=true) (by simp) (by simp(disch:=omega)[go_sem,tq]))) .nil
    simp(disch:=omega)[go_sem]at aR;simp(disch:=omega)[go_sem,xU,cB.e,jj,cT,hr,bd,bn,aC];refine GM (wr:=true) rfl (by simp(disch:=omega)[go_sem];try rfl) (.inl rfl) (by omega) (by omega) ?_;simp(disch:=omega)[go_sem,xU];refine bR [kj 0,⟨.read,1,some (0,3),true⟩,aN 0,cE 4,aN 12,cE 28,aN 63,ae 127,aN 255] (by kernel_rfl) 2 rfl ?_;simp(disch:=omega)[go_sem];refine an.mk (Gq 0) λM3 bo=> ?_;simp(disch:=omega)[go_sem]at bo;simp(disch:=omega)[go_sem];refine Xf ⟨#[102,105,114,115,116]⟩ 0 [⟨true,0⟩] (by simp(disch:=omega)[go_sem,Sym.e];try rfl) rfl (W2 _) λM4 bp=> ?_;simp(disch:=omega)[go_sem]at bp;simp(disch:=omega)[go_sem,jP,rD,aP,cB.e,Sym.e]
    repeat refine⟨by omega, ?_⟩
    refine⟨_,ax.Xx (r:=[(N,.row x.e true 0),(N+1,.row dV true 0)]) (cs':=g0.e) [M2,M4] (b:=M) ?_ (by simp(disch:=omega)[go_sem];try rfl) ?_ ?_ ?_ (by simp(disch:=omega)[go_sem];try rfl) ?_ ?_,_,⟨by omega, ?_⟩,rfl⟩
    . intro i hi;simp only[List.mem_cons,List.not_mem_nil,or_false]at hi;rcases hi with rfl|rfl<;>simp(disch:=omega)[go_sem]
    . simp(disch:=omega)[go_sem,<-ao]
    . simp(disch:=omega)[go_sem,cB.e,dV]
    . simp;omega
    . simp;omega
    . rw[he];exact .cons (GN (ah:=0) (by decide) aE aE (λ_=>rfl) (.inl rfl) (gr (wr:=true) (by simp) (by simp(disch:=omega)[go_sem,nM]))) (.cons (.refl _) (.cons (.refl _) (.cons (.refl _) (.cons (.refl _) (.cons (dU (ah:=13) (gr (wr:=true) (by simp) (by simp(disch:=omega)[go_sem,bm,aQ.e,Sym.e,aP,iH])) (.inr rfl) (by decide) rfl (W2 _) (by simp[aQ.e])) (.cons (.refl _) (.cons (.nil (by decide)) (.cons (.nil (by decide)) .nil))))))))
    . omega
   |true=>
    have hk:=of_decide_eq_true aL;have he:g0=gQ (x.base%8):=by rw[<-aK];simp only[jq,hk,if_true]
    simp(disch:=omega)[go_sem];refine⟨_,ax.mk (N:=M+1) ?_ ?_ ?_,_,⟨by omega,Nat.lt_succ_self M⟩,rfl⟩
    . simp(disch:=omega)[go_sem]
    . simp(disch:=omega)[go_sem,<-ao]
    . simp(disch:=omega)[go_sem,cB.e,dV,he,ai.e]
 . rintro d' ⟨P,⟨h1,h2⟩,rfl⟩;have bq:g0.conds.length<=3:=af.1.conds;refine fg ?_;simp(disch:=omega)[go_sem,cB.e,ai.e];refine an.mk (bb x.family g0.conds.length hx.family bq) λM2 aR=> ?_;simp(disch:=omega)[go_sem]at aR;obtain⟨d,hd⟩:∃d,md x.family g0.conds.length=d:=⟨_,rfl⟩;rw[hd];have aF:iI md x g0=if 0<x.family.length/\d.root≠0 then{g0 with family:=d}else g0:=by simp only[iI,hd]
   simp(disch:=omega)[go_sem,Dg.e];refine jr (MI N M kb aa x (iI md x g0) []) ?_ ?_
   . by_cases hf:x.family=[]
     . simp(disch:=omega)[go_sem,cB.e,hf];refine⟨_,ax.mk (N:=M2+1) ?_ ?_ ?_,_,⟨by omega,by omega⟩,rfl⟩
       . simp(disch:=omega)[go_sem]
       . simp(disch:=omega)[go_sem]
       . simp(disch:=omega)[go_sem,cB.e,dV,ai.e,aF,hf]
     have bf:0<x.family.length:=List.length_pos_iff.2 hf;have bs:(0:Int)<x.family.length:=by omega
     by_cases hr:d.root=0
     all_goals
      simp(disch:=omega)[go_sem,Dg.e,cB.e,bf,bs,hr];refine⟨_,ax.mk (N:=M2+1) ?_ ?_ ?_,_,⟨by omega,by omega⟩,rfl⟩
      . simp(disch:=omega)[go_sem]
      . simp(disch:=omega)[go_sem]
      . simp(disch:=omega)[go_sem,cB.e,dV,ai.e,aF,bf,hr,Dg.e]
   . rintro d' ⟨P,⟨h3,h4⟩,rfl⟩;have bt:=dM.cL af.1 md x;obtain⟨G1,aS⟩:∃G1,(x.lines.take aa).foldl (λg l=>fL (cg md) g l kb) (iI md x g0)=G1:=⟨_,rfl⟩;refine jr (λd=>dM G1 0/\MI N M kb aa x G1 [] d) ?_ ?_
     . simp(disch:=omega)[go_sem];obtain⟨I,hI⟩:∃I:Nat->DS->Prop,∀j d,I j d↔∃(k:Nat) (g:ai),j+k=x.lines.length/\k<=aa/\dM g 0/\g.ak.length<=10+k/\g=(x.lines.take k).foldl (λg l=>fL (cg md) g l kb) (iI md x g0)/\MI N M kb aa x g [(7,iV k)] d:=⟨_,λ_ _=>Iff.rfl⟩;refine bO I x.lines.length ⟨_,ax.mk (N:=P) ?_ ?_ ?_,(hI _ _).2 ⟨0,iI md x g0,rfl,by omega,bt.1,by omega,rfl,P,⟨h3,h4⟩,rfl⟩⟩ ?_
       . simp(disch:=omega)[go_sem]
       . simp[go_sem]
       . simp(disch:=omega)[go_sem,cB.e,dV,ai.e]
       . intro j ds aI;obtain⟨k,g,hj,bg,hgr,bA,ad,P,⟨-,hP⟩,rfl⟩:=(hI _ _).1 aI;clear aI;by_cases l1:k<x.lines.length
         . have av:(k:Int)<x.lines.length:=by omega
           obtain⟨l,hl⟩:∃l,x.lines[k]? =some l:=⟨_,PO l1⟩;by_cases l2:k<aa
           . have aw:(k:Int)<aa:=by omega
             have aT:=hx.lines l (PX hl);simp(disch:=omega)[go_sem,cB.e,av,aw,hl,-getElem?_pos];refine bR [aD 0,ae 0,aD 2,ae 0,ae 14,aD 30,ae 0,aN 127,aN 255] (by kernel_rfl) 0 rfl ?_;simp(disch:=omega)[go_sem,cB.e,Ln.e,hl,ai.e,-getElem?_pos];have aU:=Xp (cg md) aA g l kb aT hgr.aH.1 hgr.aH.2 hgr.conds (by omega);refine an.mk aU λP2 aW=> ?_;simp(disch:=omega)[go_sem]at aW;generalize az:fL (cg md) g l kb=gg at*;simp(disch:=omega)[go_sem,ai.e,aC];refine⟨j-1,by omega,_,ax.mk (N:=P2) ?_ ?_ ?_,(hI _ _).2 ⟨k+1,gg,by omega,by omega,az▸hgr.line .., ?_, ?_,P2,⟨h3,by omega⟩,rfl⟩⟩
             . simp(disch:=omega)[go_sem]
             . simp(disch:=omega)[go_sem,aC]
             . simp(disch:=omega)[go_sem,ai.e,cB.e,dV]
             . have:=Xq (cg md) g l kb;rw[az]at this;omega
             . rw[Qc,hl,Zr,ZJ,<-ad,ZL,Z4,az]
           . have aw:¬(k:Int)<aa:=by omega
             rw[show k=aa by omega,aS]at ad;simp(disch:=omega)[go_sem,cB.e,av,aw,hl,-getElem?_pos];refine⟨_,ax.mk (N:=P) ?_ ?_ ?_,ad▸hgr,P,⟨h3,hP⟩,rfl⟩
             . simp(disch:=omega)[go_sem]
             . simp(disch:=omega)[go_sem]
             . simp(disch:=omega)[go_sem,cB.e,dV,ai.e,ad]
         . have av:¬(k:Int)<x.lines.length:=by omega
           rw[xS (by omega),<-xS (i:=aa) (l:=x.lines) (by omega),aS]at ad;simp(disch:=omega)[go_sem,cB.e,av,-getElem?_pos];refine⟨_,ax.mk (N:=P) ?_ ?_ ?_,ad▸hgr,P,⟨h3,hP⟩,rfl⟩
           . simp(disch:=omega)[go_sem]
           . simp(disch:=omega)[go_sem]
           . simp(disch:=omega)[go_sem,cB.e,dV,ai.e,ad]
     . rintro d' ⟨aX,P,⟨-,h5⟩,rfl⟩;obtain⟨G2,aZ⟩:∃G2,(x.rules.take 6).foldl (jm (cg md)) G1=G2:=⟨_,rfl⟩;have bu:R=DV.agg G2.e:=by
        rw[hR,<-aZ,<-aS];simp only[cr,aK,aL,ao]
       refine jr (MI N M kb aa x G2 []) ?_ ?_
       . simp(disch:=omega)[go_sem];obtain⟨J,hJ⟩:∃J:Nat->DS->Prop,∀j d,J j d↔∃(k:Nat) (g:ai),j+k=x.rules.length/\k<=6/\dM g k/\g=(x.rules.take k).foldl (jm (cg md)) G1/\MI N M kb aa x g [(8,iV k)] d:=⟨_,λ_ _=>Iff.rfl⟩;refine bO J x.rules.length ⟨_,ax.mk (N:=P) ?_ ?_ ?_,(hJ _ _).2 ⟨0,G1,rfl,by omega,aX,rfl,P,⟨h3,h5⟩,rfl⟩⟩ ?_
         . simp(disch:=omega)[go_sem]
         . simp[go_sem]
         . simp(disch:=omega)[go_sem,cB.e,dV,ai.e]
         . intro j ds aI;obtain⟨k,g,hj,bg,hgr,ad,P,⟨-,hP⟩,rfl⟩:=(hJ _ _).1 aI;clear aI;by_cases l1:k<x.rules.length
           . have av:(k:Int)<x.rules.length:=by omega
             obtain⟨l,hl⟩:∃l,x.rules[k]? =some l:=⟨_,PO l1⟩;by_cases l2:k<6
             . have aw:(k:Int)<6:=by omega
               have aT:=hx.rules l (PX hl);simp(disch:=omega)[go_sem,cB.e,av,aw,hl,-getElem?_pos];refine bR [aD 0,ae 0,aD 2,ae 0,ae 14,aD 30,aN 63,aN 127] (by kernel_rfl) 0 rfl ?_;simp(disch:=omega)[go_sem,cB.e,Rl.e,hl,ai.e,-getElem?_pos];have aU:=Xn (cg md) aA aM g (hgr.ok bg) l aT;refine an.mk aU λP2 aW=> ?_;simp(disch:=omega)[go_sem]at aW;generalize az:jm (cg md) g l=gg at*;simp(disch:=omega)[go_sem,ai.e,aC];refine⟨j-1,by omega,_,ax.mk (N:=P2) ?_ ?_ ?_,(hJ _ _).2 ⟨k+1,gg,by omega,by omega,az▸hgr.Bl .., ?_,P2,⟨h3,by omega⟩,rfl⟩⟩
               . simp(disch:=omega)[go_sem]
               . simp(disch:=omega)[go_sem,aC]
               . simp(disch:=omega)[go_sem,ai.e,cB.e,dV]
               . rw[Qc,hl,Zr,ZJ,<-ad,ZL,Z4,az]
             . have aw:¬(k:Int)<6:=by omega
               rw[show k=6 by omega,aZ]at ad;simp(disch:=omega)[go_sem,cB.e,av,aw,hl,-getElem?_pos];refine⟨_,ax.mk (N:=P) ?_ ?_ ?_,P,⟨h3,hP⟩,rfl⟩
               . simp(disch:=omega)[go_sem]
               . simp(disch:=omega)[go_sem]
               . simp(disch:=omega)[go_sem,cB.e,dV,ai.e,ad]
           . have av:¬(k:Int)<x.rules.length:=by omega
             rw[xS (by omega),<-xS (i:=6) (l:=x.rules) (by omega),aZ]at ad;simp(disch:=omega)[go_sem,cB.e,av,-getElem?_pos];refine⟨_,ax.mk (N:=P) ?_ ?_ ?_,P,⟨h3,hP⟩,rfl⟩
             . simp(disch:=omega)[go_sem]
             . simp(disch:=omega)[go_sem]
             . simp(disch:=omega)[go_sem,cB.e,dV,ai.e,ad]
       . rintro d' ⟨P,⟨-,h6⟩,rfl⟩;refine vt ?_;simp(disch:=omega)[go_sem,cB.e,ai.e,dV,bu]
end Go.Sp
end
noncomputable section
open Go Go.au Go.Proofs
namespace Go.au
variable {e:Env}
section
variable {κ ν:Type} [DecidableEq κ]
def eT(kf:κ->Value)(vf:ν->DV)(es:List bq)(l:List (κ×ν)):Prop:=es.map (λx=>(x.key,x.val))=l.map λp=>(kf p.1,vf p.2)
omit [DecidableEq κ]in
theorem eT.nil(kf:κ->Value)(vf:ν->DV):eT kf vf [] []:=rfl
theorem Bv{kt:TypeId}{kf:κ->Value}{vf:ν->DV}(hk:j8 e kt kf):∀{es:List bq} {l:List (κ×ν)} (a:κ),eT kf vf es l->findD e.P kt (kf a) es=some ((bc l a).map vf)
 |[],[],a,_=>rfl
 |[],_::_,a,h=>by simp[eT]at h
 |_::_,[],a,h=>by simp[eT]at h
 |x::es,(k,v)::l,a,h=>by
  simp only[eT,Er,abR,GP]at h;obtain⟨⟨h1,h2⟩,h3⟩:=h;simp only[findD,h1,hk.eq];by_cases e1:a=k
  . subst e1;simp only[decide_true,bc,if_true,h2,ab8]
  . simp only[e1,decide_false,bc,if_false];exact Bv hk a (show eT kf vf es l from h3)
theorem G6{kt:TypeId}{kf:κ->Value}{vf:ν->DV}(hk:j8 e kt kf):∀{es:List bq} {l:List (κ×ν)} (a:κ) (i:Nat),eT kf vf es l->∃r,mw e.P kt (kf a) es i=some r/\
 (match bc l a with|none=>r=none|some _=>∃j,r=some (i+j)/\∃x,es[j]? =some x/\x.key=kf a/\∀w,eT kf vf (es.modify j λx=>{x with key:=kf a,val:=vf w}) (put l a w))
 |[],[],a,i,_=>⟨none,rfl,by simp[bc]⟩
 |[],_::_,a,i,h=>by simp[eT]at h
 |_::_,[],a,i,h=>by simp[eT]at h
 |x::es,(k,v)::l,a,i,h=>by
  simp only[eT,Er,abR,GP]at h;obtain⟨⟨h1,h2⟩,h3⟩:=h;simp only[mw,h1,hk.eq];by_cases e1:a=k
  . subst e1;simp only[decide_true,bc,if_true];refine⟨_,rfl,0,rfl,x,rfl,h1,λw=> ?_⟩;simp only[eT,put,if_true,Er,List.modify_cons,if_pos];exact congrArg _ h3
  . simp only[e1,decide_false,bc,if_false];obtain⟨r,h4,h5⟩:=G6 hk (vf:=vf) a (i+1) (show eT kf vf es l from h3);refine⟨r,h4, ?_⟩;cases ha:bc l a with
    |none=>simpa[ha]using h5
    |some v'=>
     simp only[ha]at h5⊢;obtain⟨j,h6,y,h7,h8,h9⟩:=h5;refine⟨j+1,by rw[h6];congr 1;omega,y,h7,h8,λw=> ?_⟩;have:=h9 w;simp only[eT]at this⊢;simp only[put,if_neg e1,Er,List.modify_succ_cons,this,h1,h2]
theorem rP{ty kt et:TypeId}{kf:κ->Value}{vf:ν->DV}(hk:j8 e kt kf)(hu:e.under ty=some (.map kt et)){es:List bq}{l:List (κ×ν)}(hl:eT kf vf es l)(a:κ)(ok:Bool){v:ν}(hv:bc l a=some v):
 kW e ty ok (kf a) es=some (bif ok then .bb [vf v,.v (.bool true)]else vf v):=by
 obtain⟨kd,h1,h2⟩:=hk.kd;obtain⟨u,h3⟩:=hk.check a es.isEmpty;simp only[kW,hu,h1,Bv hk a hl,hv,ab8];rw[if_pos ⟨hk.plain a,h2 a,by rw[h3];rfl⟩]
theorem rQ{ty kt et:TypeId}{kf:κ->Value}{vf:ν->DV}(hk:j8 e kt kf)(hu:e.under ty=some (.map kt et)){es:List bq}{l:List (κ×ν)}(hl:eT kf vf es l)(a:κ)(ok:Bool){z:Value}(hz:e.zero et=some z)(hp:au.plain z=true)(hv:bc l a=none):
 kW e ty ok (kf a) es=some (bif ok then .bb [fu z,.v (.bool false)]else fu z):=by
 obtain⟨kd,h1,h2⟩:=hk.kd;obtain⟨u,h3⟩:=hk.check a es.isEmpty;simp only[kW,hu,h1,Bv hk a hl,hv,Option.map_none,hz,hp,if_true];rw[if_pos ⟨hk.plain a,h2 a,by rw[h3];rfl⟩]
theorem oW{ty kt et:TypeId}{kf:κ->Value}{vf:ν->DV}(hk:j8 e kt kf)(hu:e.under ty=some (.map kt et)){es:List bq}{l:List (κ×ν)}(hl:eT kf vf es l)(a:κ)(clock:Nat)(w:ν):
 ∃ad aa,kg e ty (kf a) (vf w) es clock=some (.map ad aa)/\eT kf vf ad (put l a w):=by
 obtain⟨kd,h1,h2⟩:=hk.kd;obtain⟨u,h3⟩:=hk.check a false;obtain⟨r,h4,h5⟩:=G6 hk (vf:=vf) a 0 hl;have hc:au.plain (kf a)=true/\mX kd (kf a)=true/\(bQ e.P (Instr.checkKey false 10000 kt (kf a))).isSome=true:=⟨hk.plain a,h2 a,by rw[h3];rfl⟩;cases hv:bc l a with
 |none=>
  rw[hv]at h5;simp only at h5;subst h5;refine⟨es++[⟨kf a,vf w,clock⟩],clock+1, ?_, ?_⟩
  . simp only[kg,hu,h1,h4];rw[if_pos hc]
  . have:=hl;simp only[eT]at this⊢;rw[pQ hv];simp[this]
 |some v=>
  rw[hv]at h5;obtain⟨j,rfl,x,h6,h7,h8⟩:=h5;have hb:Instr.sameBits 10000 (((es[0+j]?).map (·.key)).getD (kf a)) (kf a)=true:=by
   rw[Nat.zero_add,h6];show Instr.sameBits 10000 x.key (kf a)=true;rw[h7];exact hk.bits a
  refine⟨es.modify (0+j) λx=>{x with key:=kf a,val:=vf w},clock, ?_, ?_⟩
  . simp only[kg,hu,h1,h4];rw[if_pos hc,if_pos hb]
  . rw[Nat.zero_add];exact h8 w
end
theorem an.inl(he:e.Ok)(ai:e.P.follows .mixedOrders=true)(ae:Idle e){aj:Bool}{f:FuncId}{fn:Func}{c:Code}{args:List DV}{K:ck}{dd:List FuncId}{h:ab}(ao:e.fn f=some fn)(hb:fn.body=some c){n:Nat}(hn:fn.ntmps=n){rs:List ResultVar}(av:fn.results=rs.toArray)
 (hq:RD e aj c ⟨ie args,args.length+(n-args.length),[],h⟩ (jd e rs λd h'=>∀T,K d dd h' T)):an e aj K dd h (f,args):=by
 intro G ha vs x hr;have key:=cJ.body he ai ae ao hb hn av hq G ha vs x hr;have fin:∀v h',(∃d af G',bH G' h' af/\Kp G ha h G' h' af/\Rel (aI h' G') v d/\∀T,K d dd af T)->my G ha h (λv h' T=>K v dd h' T) v h':=λv h' ⟨d,af,G',r2,r3,r4,r5⟩=>
  ⟨d,af,G',List.range ha.next,r2,r3,r4,λi hi hn=>absurd (List.mem_range.2 hi) hn,r5 _⟩
 cases aj with
 |true=>obtain⟨v,h',r1,r2⟩:=key;exact⟨v,h',r1,fin v h' r2⟩
 |false=>exact e8.mono key fin
end Go.au
namespace Go.Sp
theorem gD{aj:Bool}{f:FuncId}{fn:Func}{c:Code}{args:List DV}{K:ck}{dd:List FuncId}{h:ab}{n:Nat}(hn:fn.ntmps=n){rs:List ResultVar}(av:fn.results=rs.toArray)
 (hq:RD E aj c ⟨ie args,args.length+(n-args.length),[],h⟩ (jd E rs λd h'=>∀T,K d dd h' T)) (ao:E.fn f=some fn:=by kernel_rfl) (hb:fn.body=some c:=by rfl):an E aj K dd h (f,args):=an.inl (j6 []) kT (sM []) ao hb hn av hq
def xV(s:ByteArray):Value:=.string s
theorem u9:E.under 9=some .string:=by kernel_rfl
theorem G7(a b:ByteArray):(a==b)=decide (a=b):=by
 have h:∀x y:ByteArray,(x==y)=true↔x=y:=λx y=>by
  obtain⟨x⟩:=x;obtain⟨y⟩:=y;show(x==y)=true↔_;simp
 rw[Bool.eq_iff_iff,h];simp
theorem Bw:j8 E 9 xV:=by
 refine⟨⟨_,u9,λk=>rfl⟩,λk=>rfl,λk b=>⟨(),by kernel_rfl⟩,λa b=> ?_,λk=>by simp[xV,Instr.sameBits,G7]⟩;simp only[jX,xV];congr 1;exact G7 a b
theorem By:E.under 244=some (.map 9 4):=by kernel_rfl
theorem z4:E.zero 4=some (.bool false):=by kernel_rfl
abbrev rR(es:List bq)(l:List (ByteArray×Unit)):Prop:=eT xV (λ_:Unit=>bV true) es l
theorem xW{aj:Bool}{K:ck}{dd:List FuncId}{h:ab}{b r ah:Nat}{wr:Bool}{es:List bq}{clock:Nat}{l:List (ByteArray×Unit)}{s:ByteArray}(hb:h.get b=some (.row [.v (.map (some r))] wr ah))(hm:h.get r=some (.map es clock))(hl:rR es l)(hs:bc l s=none)
 (hk:∀ad aa T,rR ad (put l s ())->K (bV true) dd (h.set r (some (.map ad aa))) T):an E aj K dd h (167,[sV s,.v (.pointer (some ⟨b,0,none⟩))]):=by
 refine gD Tryz.ntmps167 Tryz.results167 ?_;have h1:=rQ Bw By hl s false z4 rfl hs;obtain⟨ad,aa,h2,h3⟩:=oW Bw By hl s clock ();simp(disch:=omega)[go_sem,hb];refine⟨bV false,by simp only[kK,exact,hm];exact h1, ?_⟩;simp(disch:=omega)[go_sem,hb];refine⟨(h.set r (some (.map ad aa)),r),by simp only[ja,exact,hm];exact congrArg (Option.map _) h2, ?_⟩;simp(disch:=omega)[go_sem,hb];intro T;exact hk ad aa T h3
end Go.Sp
end
noncomputable section
open Go Go.au Go.Proofs
namespace Go.Sp
theorem lV(P:Program){α β:Type}(s:Sem α)(k:α->Sem β):bQ P (s>>=k)=(bQ P s).bind λa=>bQ P (k a):=by
 induction s with
 |pure a=>rfl
 |program k' ih=>exact ih P
 |_=>rfl
theorem tu(P:Program)(t:TypeId){d:TypeDesc}(h:P.underlying t=some d):bQ P (underlying t)=some d:=by
 simp only[underlying,lV];show bQ P (match P.underlying t with|some d=>pure d|none=>stuck "no such type" :Sem TypeDesc)=some d;rw[h];rfl
theorem tw(P:Program):bQ P program=some P:=rfl
theorem rS(P:Program){α:Type}(a:α):bQ P (pure a)=some a:=rfl
theorem eq_int(d:Nat)(t:TypeId)(k:IntKind)(a b:Int)(h:Tryz.prog.underlying t=some (.int k)):bQ Tryz.prog (Op.equalIn (d+1) t (.int .i64 a) (.int .i64 b))=some (a==b):=by
 rw[Op.equalIn];simp only[lV,tu _ _ h,adr];rfl
theorem Zd:bQ Tryz.prog (isAgg 3)=some false:=by kernel_rfl
theorem Hd:bQ Tryz.prog (sizeOf 3)=some 1:=by kernel_rfl
theorem x4(cs:Array Value)(o:Nat):bQ Tryz.prog (part 3 cs o)=cs[o]? :=by
 unfold part;simp only[lV,Zd,adr,Bool.false_eq_true,if_false];cases cs[o]? <;>rfl
theorem Ze(d:Nat)(a b c a' b' c':Int):bQ Tryz.prog (Op.equalIn (d+1+1) 106 (.agg #[.int .i64 a,.int .i64 b,.int .i64 c]) (.agg #[.int .i64 a',.int .i64 b',.int .i64 c']))=some (decide (a=a')&&(decide (b=b')&&decide (c=c'))):=by
 have hs:Tryz.prog.stoodInHeld 106=false:=by kernel_rfl
 rw[Op.equalIn];have e0:=eq_int d 3 .i64 a a' Tryz.underlying3;have e1:=eq_int d 3 .i64 b b' Tryz.underlying3;have e2:=eq_int d 3 .i64 c c' Tryz.underlying3;by_cases h1:a=a'<;>by_cases h2:b=b'<;>by_cases h3:c=c'<;>
  simp[h1,h2,h3,lV,tu _ _ Tryz.underlying106,tw,hs,rS,x4,eq_int d 3 .i64 _ _ Tryz.underlying3]
theorem Zf(d:Nat)(a b c a' b' c':Int):bQ Tryz.prog (Op.equalIn (d+1+1) 209 (.agg #[.int .i64 a,.int .i64 b,.int .i64 c]) (.agg #[.int .i64 a',.int .i64 b',.int .i64 c']))=some (decide (a=a')&&(decide (b=b')&&decide (c=c'))):=by
 rw[Op.equalIn];by_cases h1:a=a'<;>by_cases h2:b=b'<;>by_cases h3:c=c'<;>
  simp[h1,h2,h3,lV,tu _ _ Tryz.underlying209,tw,rS,x4,Hd,eq_int d 3 .i64 _ _ Tryz.underlying3,List.range',adT,adU]
theorem x5:∃d,Op.maxDepth=d+1+1:=⟨9998,rfl⟩
theorem He(a b c a' b' c':Int):bQ Tryz.prog (Op.equal 106 (.agg #[.int .i64 a,.int .i64 b,.int .i64 c]) (.agg #[.int .i64 a',.int .i64 b',.int .i64 c']))=some (decide (a=a')&&(decide (b=b')&&decide (c=c'))):=by
 obtain⟨d,hd⟩:=x5;unfold Op.equal;rw[hd];exact Ze d a b c a' b' c'
theorem Zg(a b c a' b' c':Int):bQ Tryz.prog (Op.equal 209 (.agg #[.int .i64 a,.int .i64 b,.int .i64 c]) (.agg #[.int .i64 a',.int .i64 b',.int .i64 c']))=some (decide (a=a')&&(decide (b=b')&&decide (c=c'))):=by
 obtain⟨d,hd⟩:=x5;unfold Op.equal;rw[hd];exact Zf d a b c a' b' c'
theorem Zh:∃fs,E.under 106=some (.struct fs):=by
 have h:(E.under 106).isSome=true:=by kernel_rfl
 obtain⟨d,hd⟩:=Option.isSome_iff_exists.1 h;have:=(j6 []).under 106 d hd;rw[show(uI []).P=Tryz.prog from rfl,Tryz.underlying106]at this;cases this;exact⟨_,hd⟩
theorem BD(x y:Nat):decide ((x:Int)=(y:Int))=decide (x=y):=decide_eq_decide.2 Int.ofNat_inj
theorem Zi:E.under 209=some (.array 3 3):=by kernel_rfl
theorem u3:E.under 3=some (.int .i64):=by kernel_rfl
theorem BE:E.under 202=some (.map 106 3):=by kernel_rfl
theorem BF:E.under 253=some (.map 209 3):=by kernel_rfl
def oX(x:Br):Value:=.agg #[.int .i64 x.1,.int .i64 x.2.1,.int .i64 x.2.2]
def nN(x:Nat×Nat×Nat):Value:=.agg #[.int .i64 x.1,.int .i64 x.2.1,.int .i64 x.2.2]
def gR(n:Nat):Value:=.int .i64 n
theorem BG:j8 E 106 oX:=by
 refine⟨?_,λk=>rfl,λk b=>⟨(),by kernel_rfl⟩,λa b=> ?_,λk=>by simp[oX,Instr.sameBits]⟩
 . obtain⟨fs,h⟩:=Zh;exact⟨_,h,λk=>rfl⟩
 . obtain⟨a1,a2,a3⟩:=a;obtain⟨b1,b2,b3⟩:=b;show bQ Tryz.prog (Op.equal 106 (oX _) (oX _))=_;rw[oX,oX,He];congr 1;simp only[BD,GP,adS]
theorem BH:j8 E 209 nN:=by
 refine⟨⟨_,Zi,λk=>rfl⟩,λk=>rfl,λk b=>⟨(),by kernel_rfl⟩,λa b=> ?_,λk=>by simp[nN,Instr.sameBits]⟩;obtain⟨a1,a2,a3⟩:=a;obtain⟨b1,b2,b3⟩:=b;show bQ Tryz.prog (Op.equal 209 (nN _) (nN _))=_;rw[nN,nN,Zg];congr 1;simp only[BD,GP,adS]
theorem tx:j8 E 3 gR:=by
 refine⟨⟨_,u3,λk=>rfl⟩,λk=>rfl,λk b=>⟨(),by kernel_rfl⟩,λa b=> ?_,λk=>by simp[gR,Instr.sameBits]⟩;simp only[jX,gR,decide_true,cond_true];congr 1;exact BD a b
end Go.Sp
end

/- SpacingIndependent: parts of its proof. -/
import Derived.Test.YtmhjnafgdhaemaaGreatDoorK49
open BitVec renaming ofInt->qe
open List renaming range->xS,all_eq_true->DE,mem_of_getElem?->Er,getElem?_eq_some_iff->GP,length_map->PO,mem_map->Qc,mem_append->TF,flatten_cons->VK,getElem?_map->W2,map_cons->W9,getElem?_eq_getElem->Xw,take_of_length_le->Zj,map_append->Zr,mem_cons->ZJ,not_mem_nil->ZL,getElem?_append_left->Z4,getElem?_append_right->abR,append_assoc->ab8,flatten_append->adr,nil_append->adS,length_modify->adT,drop_zero->adW,length_filter_le->ad2,length_append->ad4,drop_eq_getElem_cons->ad5,take_append_drop->ad6,length_take->ad7,take_append->ad8,drop_append->aea,drop_eq_nil_of_le->aeb,getElem?_modify->aec
open Nat renaming le_refl->PX,add_sub_cancel_left->ad9
open Bool renaming and_eq_true->adU
open Int renaming toNat_natCast->adV,natCast_ediv->adX,natCast_pow->adY,cast_ofNat_Int->adZ,emod_lt_of_pos->ad0,emod_nonneg->ad1,toNat_of_nonneg->ad3
set_option linter.all false
set_option maxRecDepth 100000
noncomputable section
open Go Go.au Go.Proofs
namespace Go.Sp
def iN(ns:List (Int×Int×Int))(c:Nat):Nat->Int->Int
 |0,r=>r
 |k+1,r=>if r<=1 then r else match ns[(r-2).toNat]? with
  |some x=>iN ns c k (if c.testBit x.1.toNat then x.2.2 else x.2.1)
  |none=>r
def eM(d:Dg)(c:Nat):Bool:=decide (iN d.nodes c d.root.toNat d.root=1)
def CB(d:Dg):Prop:=(∀(i:Nat) x,d.nodes[i]? =some x->0<=x.1/\x.1<3/\0<=x.2.1/\x.2.1<i+2/\0<=x.2.2/\x.2.2<i+2)/\0<=d.root/\d.root<d.nodes.length+2
theorem I3(c:Nat)(hc:c<256):CB (aF c):=by
 have h:((xS 256).all λc=>(xS (aF c).nodes.length).all (λi=>match(aF c).nodes[i]? with|some x=>decide (0<=x.1/\x.1<3/\0<=x.2.1/\x.2.1<i+2/\0<=x.2.2/\x.2.2<i+2)|none=>true)&&decide (0<=(aF c).root/\(aF c).root<(aF c).nodes.length+2))=true:=by kernel_rfl
 have h2:=DE.1 h c (by simpa using hc);rw[adU,decide_eq_true_eq]at h2;refine⟨λi x hx=> ?_,h2.2⟩;have h3:=DE.1 h2.1 i (by have:=(GP.1 hx).1;simpa using this);rw[hx]at h3;exact of_decide_eq_true h3
theorem yF{ns:List (Int×Int×Int)}{c:Nat}(ho:∀(i:Nat) x,ns[i]? =some x->0<=x.1/\x.1<3/\0<=x.2.1/\x.2.1<i+2/\0<=x.2.2/\x.2.2<i+2):∀(k:Nat) (r:Int),r.toNat<=k->iN ns c k r=iN ns c r.toNat r
 |0,r,h=>by rw[show r.toNat=0 by omega]
 |k+1,r,h=>by
  by_cases h1:r<=1
  . rw[iN,if_pos h1];cases hr:r.toNat with
    |zero=>rfl
    |succ n=>rw[iN,if_pos h1]
  . obtain⟨n,hn⟩:∃n,r.toNat=n+1:=⟨r.toNat-1,by omega⟩;rw[hn,iN,iN,if_neg h1,if_neg h1]
    split
    . rename_i x hx;obtain⟨_,_,h2,h3,h4,h5⟩:=ho _ _ hx;have e:∀q:Int,q<(r-2).toNat+2->0<=q->iN ns c k q=iN ns c n q:=λq q1 q2=>by rw[yF ho k q (by omega),yF ho n q (by omega)]
      split
      . exact e _ h5 h4
      . exact e _ h3 h2
    . rfl
theorem I4(c v:Nat)(hc:c<8)(hv:v<3):IntKind.u64.wrap (((qe IntKind.u64.bits ((c:Int).fdiv (2^(min v IntKind.u64.bits)))&&&qe IntKind.u64.bits 1).toNat:Nat):Int)=if c.testBit v then 1 else 0:=by
 have h:((xS 8).all λc=>(xS 3).all λv=>decide (IntKind.u64.wrap (((qe IntKind.u64.bits ((c:Int).fdiv (2^(min v IntKind.u64.bits)))&&&qe IntKind.u64.bits 1).toNat:Nat):Int)=if c.testBit v then 1 else 0))=true:=by kernel_rfl
 exact of_decide_eq_true (DE.1 (DE.1 h c (by simpa using hc)) v (by simpa using hv))
abbrev cV(c:Nat):DV:=.v (.int .u64 (c:Nat))
set_option maxHeartbeats 4000000 in
theorem acb(d:Dg)(hd:CB d)(hl:d.nodes.length<=1000)(c:Nat)(hc:c<8):ay E true 19 [.agg d.e,cV c] (bV (eM d c)):=by
 obtain⟨ns,rt⟩:=d;obtain⟨ho,h0,h1⟩:=hd;simp only at ho h0 h1 hl;obtain⟨G,hG⟩:∃G,iN ns c rt.toNat rt=G:=⟨_,rfl⟩;have ab:eM ⟨ns,rt⟩ c=decide (G=1):=by simp only[eM,hG]
 rw[ab];refine aW Tryz.ntmps19 Tryz.results19 λN=> ?_;simp(disch:=omega)[go_sem,Dg.e];obtain⟨I,hI⟩:∃I:Nat->DS->Prop,∀j d,I j d↔∃(r:Int) (P:Nat),j=r.toNat/\0<=r/\r<ns.length+2/\iN ns c r.toNat r=G/\N<P/\d=⟨bz [(1,cV c),(2,.v (.pointer (some ⟨N,0,none⟩))),(5,iV r)],30,[],cw P [(N,.row [.sl 3 (ns.map cK),iV rt] true 0)]⟩:=⟨_,λ_ _=>Iff.rfl⟩;refine bO I rt.toNat ⟨_,ax.mk (N:=N+1) ?_ ?_ ?_,(hI _ _).2 ⟨rt,N+1,rfl,h0,h1,hG,by omega,rfl⟩⟩ ?_
 . simp(disch:=omega)[go_sem]
 . simp(disch:=omega)[go_sem]
 . simp(disch:=omega)[go_sem]
 . intro j ds ae;obtain⟨r,P,hj,aw,az,aa,hP,rfl⟩:=(hI _ _).1 ae;clear ae;by_cases hr:1<r
   . obtain⟨k,hk⟩:∃k,r.toNat=k+1:=⟨r.toNat-1,by omega⟩;obtain⟨x,hx⟩:∃x,ns[(r-2).toNat]? =some x:=⟨_,Xw (by omega)⟩;obtain⟨q0,q1,q2,q3,q4,q5⟩:=ho _ _ hx;have ao:¬r<=1:=by omega
     rw[hk,iN,if_neg ao,hx]at aa;simp only at aa;rw[yF ho k _ (by split<;>omega)]at aa;obtain⟨v,hv⟩:∃v:Nat,x.1=v:=⟨x.1.toNat,by omega⟩;have hb:=I4 c v hc (by omega);rw[hv]at aa;simp only[adV]at aa;have hw:IntKind.u64.wrap (v:Int)=v:=wrap_u64 (by omega) (by omega);have af:2<=r:=by omega
     by_cases ai:c.testBit v=true
     . simp only[if_pos ai]at hb aa;simp(disch:=omega)[go_sem]at hb;simp(disch:=omega)[go_sem,hr,af,aC,hx,-getElem?_pos,cK,hv,hw,hb];refine⟨_, ?_,_,ax.mk (N:=P+1) ?_ ?_ ?_,(hI _ _).2 ⟨x.2.2,P+1,rfl,by omega,by omega,aa,by omega,rfl⟩⟩
       . omega
       . simp(disch:=omega)[go_sem]
       . simp(disch:=omega)[go_sem]
       . simp(disch:=omega)[go_sem]
     . simp only[if_neg ai]at hb aa;simp(disch:=omega)[go_sem]at hb;simp(disch:=omega)[go_sem,hr,af,aC,hx,-getElem?_pos,cK,hv,hw,hb];refine⟨_, ?_,_,ax.mk (N:=P+1) ?_ ?_ ?_,(hI _ _).2 ⟨x.2.1,P+1,rfl,by omega,by omega,aa,by omega,rfl⟩⟩
       . omega
       . simp(disch:=omega)[go_sem]
       . simp(disch:=omega)[go_sem]
       . simp(disch:=omega)[go_sem]
   . have ad:r=G:=by
      rw[<-aa];cases h:r.toNat with
      |zero=>rfl
      |succ k=>rw[iN,if_pos (by omega)]
     subst ad;simp(disch:=omega)[go_sem,hr]
set_option maxHeartbeats 4000000 in
theorem acd(d:Dg)(hd:CB d)(av:ay E true 68 [.agg d.e] (iV 0))(hl:d.nodes.length<=1000)(c:Nat)(hc:c<8):ay E true 35 [.agg d.e,cV c] (bV (eM d c)):=by
 obtain⟨ns,rt⟩:=d;obtain⟨ho,h0,h1⟩:=hd;simp only at ho h0 h1 hl;obtain⟨G,hG⟩:∃G,iN ns c rt.toNat rt=G:=⟨_,rfl⟩;have ab:eM ⟨ns,rt⟩ c=decide (G=1):=by simp only[eM,hG]
 rw[ab];refine aW Tryz.ntmps35 Tryz.results35 λN=> ?_;simp only[Dg.e]at av;simp(disch:=omega)[go_sem,Dg.e];refine an.mk av λM hM=> ?_;simp(disch:=omega)[go_sem]at hM;simp(disch:=omega)[go_sem];obtain⟨I,hI⟩:∃I:Nat->DS->Prop,∀j d,I j d↔∃(r:Int) (P:Nat),j=r.toNat/\0<=r/\r<ns.length+2/\iN ns c r.toNat r=G/\N<P/\d=⟨bz [(1,cV c),(2,.v (.pointer (some ⟨N,0,none⟩))),(5,iV r)],32,[],cw P [(N,.row [.sl 3 (ns.map cK),iV rt] true 0)]⟩:=⟨_,λ_ _=>Iff.rfl⟩;refine bO I rt.toNat ⟨_,ax.mk (N:=M) ?_ ?_ ?_,(hI _ _).2 ⟨rt,M,rfl,h0,h1,hG,by omega,rfl⟩⟩ ?_
 . simp(disch:=omega)[go_sem]
 . simp(disch:=omega)[go_sem]
 . simp(disch:=omega)[go_sem]
 . intro j ds ae;obtain⟨r,P,hj,aw,az,aa,hP,rfl⟩:=(hI _ _).1 ae;clear ae;by_cases hr:1<r
   . obtain⟨k,hk⟩:∃k,r.toNat=k+1:=⟨r.toNat-1,by omega⟩;obtain⟨x,hx⟩:∃x,ns[(r-2).toNat]? =some x:=⟨_,Xw (by omega)⟩;obtain⟨q0,q1,q2,q3,q4,q5⟩:=ho _ _ hx;have ao:¬r<=1:=by omega
     rw[hk,iN,if_neg ao,hx]at aa;simp only at aa;rw[yF ho k _ (by split<;>omega)]at aa;obtain⟨v,hv⟩:∃v:Nat,x.1=v:=⟨x.1.toNat,by omega⟩;have hb:=I4 c v hc (by omega);rw[hv]at aa;simp only[adV]at aa;have hw:IntKind.u64.wrap (v:Int)=v:=wrap_u64 (by omega) (by omega);have af:2<=r:=by omega
     by_cases ai:c.testBit v=true
     . simp only[if_pos ai]at hb aa;simp(disch:=omega)[go_sem]at hb;simp(disch:=omega)[go_sem,hr,af,aC,hx,-getElem?_pos,cK,hv,hw,hb];refine⟨_, ?_,_,ax.mk (N:=P+1) ?_ ?_ ?_,(hI _ _).2 ⟨x.2.2,P+1,rfl,by omega,by omega,aa,by omega,rfl⟩⟩
       . omega
       . simp(disch:=omega)[go_sem]
       . simp(disch:=omega)[go_sem]
       . simp(disch:=omega)[go_sem]
     . simp only[if_neg ai]at hb aa;simp(disch:=omega)[go_sem]at hb;simp(disch:=omega)[go_sem,hr,af,aC,hx,-getElem?_pos,cK,hv,hw,hb];refine⟨_, ?_,_,ax.mk (N:=P+1) ?_ ?_ ?_,(hI _ _).2 ⟨x.2.1,P+1,rfl,by omega,by omega,aa,by omega,rfl⟩⟩
       . omega
       . simp(disch:=omega)[go_sem]
       . simp(disch:=omega)[go_sem]
       . simp(disch:=omega)[go_sem]
   . have ad:r=G:=by
      rw[<-aa];cases h:r.toNat with
      |zero=>rfl
      |succ k=>rw[iN,if_pos (by omega)]
     subst ad;simp(disch:=omega)[go_sem,hr]
theorem CC(c k:Nat)(hc:c<256)(hk:k<8):ay E true 19 [.agg (aF c).e,cV k] (bV (eM (aF c) k)):=acb _ (I3 c hc) (by have:=xY c hc;omega) k hk
theorem vT(c k:Nat)(hc:c<256)(hk:k<8):ay E true 35 [.agg (aF c).e,cV k] (bV (eM (aF c) k)):=acd _ (I3 c hc) (Bt c hc) (by have:=xY c hc;omega) k hk
def dI(H:ab)(B U k:Nat)(xs:List (List DV))(pv:DV):Prop:=
 (xs=[]/\pv=dQ)\/∃R,B<=R/\R<U/\pv=.v (.slice (some ⟨R,0,none⟩) xs.length xs.length)/\H.get R=some (.row xs.flatten true k)
theorem dI.nil(H:ab)(B U k:Nat):dI H B U k [] dQ:=.inl ⟨rfl,rfl⟩
theorem dI.same{H H':ab}{B U U' k:Nat}{xs:List (List DV)}{pv:DV}(h:dI H B U k xs pv)(hs:∀j,B<=j->j<U->H'.get j=H.get j)(hU:U<=U'):dI H' B U' k xs pv:=by
 rcases h with h|⟨R,h1,h2,h3,h4⟩
 . exact .inl h
 . exact .inr ⟨R,h1,by omega,h3,by rw[hs R h1 h2,h4]⟩
theorem dI.len{H:ab}{B U k:Nat}{xs:List (List DV)}{pv:DV}(h:dI H B U k xs pv)(t:TypeId)(s:Nat)(hs:E.elem t=some s):gO E H t pv=some (iV (xs.length:Nat)):=by
 rcases h with⟨rfl,rfl⟩|⟨R,h1,h2,rfl,h4⟩<;>simp[go_sem,hs]
def nU:DV->Option Nat
 |.v (.slice (some a) _ _)=>some a.block
 |_=>none
theorem dI.ne{H:ab}{B U k:Nat}{xs:List (List DV)}{pv:DV}(h:dI H B U k xs pv){j:Nat}(hj:j<B\/U<=j):nU pv≠some j:=by
 rcases h with⟨_,rfl⟩|⟨R,h1,h2,rfl,_⟩
 . intro h;cases h
 . intro h;simp only[nU,Option.some.injEq]at h;omega
theorem dI.app{H:ab}{B U k b st xt q:Nat}{xs:List (List DV)}{pv:DV}{new:List DV}{K:DV×ab×List Nat->Prop}(h:dI H B U k xs pv)(af:E.ap st=some (k,b)){z:Nat}(ai:E.elem xt=some z)(hB:B<=U)(hU:U<=H.next)(hq:H.get q=some (.row new true 0))(ad:0<k)(ao:new.length=k)(h1:new.all cO=true)(hx:∀x∈xs,x.length=k)(hb:(xs.length+1)*(b+1)<=1073741824)
 (hk:∀H' ae T,(∀i∈T,B<=i/\i<U)->dI H' B H'.next k (xs++[new]) ae->H'.next=H.next+1->(∀j,j<H.next->nU pv≠some j->H'.get j=H.get j)->nU ae=some H.next->K (ae,H',T)):aG (jb E H [st,xt].toArray (some [pv,.v (.slice (some ⟨q,0,none⟩) 1 1)])) K:=by
 have aa:fy H k (.v (.slice (some ⟨q,0,none⟩) 1 1))=some (1,new):=by
  simp only[fy,hq];rw[if_pos (by omega)];rw[Nat.one_mul,adW,Zj (by omega)]
 rcases h with⟨rfl,rfl⟩|⟨R,r1,r2,rfl,r4⟩
 . refine⟨_, ?_,hk (H.new (.row new true k)) (.v (.slice (some ⟨H.next,0,none⟩) 1 1)) [] (by simp) (.inr ⟨H.next,by omega,by rw[ab.aX];omega,rfl, ?_⟩) (ab.aX _ _) (λj j1 j2=> ?_) rfl⟩
   . rw[xq,af,ai];simp only[sS,aa];rw[rD _ _ _ _ _ (by decide) (by simpa using hb)]
   . rw[ab.di,if_pos rfl];simp
   . rw[ab.di,if_neg (by omega)]
 . have av:xs.flatten.length=xs.length*k:=eW hx;refine⟨_, ?_,hk ((H.set R none).new (.row (xs.flatten++new) true k)) (.v (.slice (some ⟨H.next,0,none⟩) (xs.length+1) (xs.length+1))) [R] (by simp;omega) (.inr ⟨H.next,by omega,by rw[ab.aX,ab.aR];omega,by simp, ?_⟩) (by rw[ab.aX,ab.aR]) (λj j1 j2=> ?_) rfl⟩
   . rw[xq,af,ai];simp only[sS,aa];rw[uR _ _ _ _ _ _ _ _ r4 av ad (by decide) h1 hb]
   . rw[ab.di,ab.aR,if_pos rfl];simp
   . rw[ab.di,ab.aR,if_neg (by omega),ab.bn,if_neg (λh=>j2 (by rw[h];rfl))]
theorem dI.fz{H:ab}{B U k:Nat}{xs:List (List DV)}{pv:DV}(h:dI H B U k xs pv)(ad:0<k)(hx:∀x∈xs,x.length=k):Fz (allRows H) pv (.sl k xs):=by
 rcases h with⟨rfl,rfl⟩|⟨R,h1,h2,rfl,h4⟩
 . exact .nil ad
 . exact dU (ah:=k) (cx h4) (.inr rfl) ad rfl (PX _) hx
def fh(g:ai)(k:Nat):Bool:=decide (k/2^g.conds.length=0)&&eM g.family k
theorem fdiv_pow(k n:Nat):(k:Int).fdiv (2^n)=((k/2^n:Nat):Int):=by
 rw[Int.fdiv_eq_ediv_of_nonneg _ (by exact Int.le_of_lt (Int.pow_pos (by decide)))];simp
theorem ace(g:ai)(hn:g.conds.length<=3)(c:Nat)(hc:c<256)(hf:g.family=aF c)(k:Nat)(hk:k<8):ay E true 31 [.agg g.e,cV k] (bV (fh g k)):=by
 have ae:=CC c k hc hk;rw[<-hf]at ae;have af:=fdiv_pow k g.conds.length;have ao:¬(g.conds.length:Int)=64:=by omega
 have hw:IntKind.u64.wrap (g.conds.length:Int)=g.conds.length:=wrap_u64 (by omega) (by omega);have ad:min g.conds.length 64=g.conds.length:=by omega
 refine aW Tryz.ntmps31 Tryz.results31 λN=> ?_;simp only[Dg.e]at ae;by_cases h:k/2^g.conds.length=0
 . have hr:fh g k=eM g.family k:=by simp[fh,h]
   rw[hr];simp(disch:=omega)[go_sem,ai.e,ao,hw,ad,af,h];refine an.mk ae λM hM=> ?_;simp(disch:=omega)[go_sem]at hM;simp(disch:=omega)[go_sem]
 . have hr:fh g k=false:=by simp[fh,h]
   rw[hr];have h':decide (((k/2^g.conds.length:Nat):Int)=0)=false:=decide_eq_false (by omega);simp only[adX,adY,adZ]at h';simp(disch:=omega)[go_sem,ai.e,ao,hw,ad,af,h']
theorem acf(g:ai)(hn:g.conds.length<=3)(c:Nat)(hc:c<256)(hf:g.family=aF c)(k:Nat)(hk:k<8):ay E true 63 [.agg g.e,cV k] (bV (fh g k)):=by
 have ae:=vT c k hc hk;rw[<-hf]at ae;have af:=fdiv_pow k g.conds.length;have ao:¬(g.conds.length:Int)=64:=by omega
 have hw:IntKind.u64.wrap (g.conds.length:Int)=g.conds.length:=wrap_u64 (by omega) (by omega);have ad:min g.conds.length 64=g.conds.length:=by omega
 refine aW Tryz.ntmps63 Tryz.results63 λN=> ?_;simp only[Dg.e]at ae;by_cases h:k/2^g.conds.length=0
 . have hr:fh g k=eM g.family k:=by simp[fh,h]
   rw[hr];simp(disch:=omega)[go_sem,ai.e,ao,hw,ad,af,h];refine an.mk ae λM hM=> ?_;simp(disch:=omega)[go_sem]at hM;simp(disch:=omega)[go_sem]
 . have hr:fh g k=false:=by simp[fh,h]
   rw[hr];have h':decide (((k/2^g.conds.length:Nat):Int)=0)=false:=decide_eq_false (by omega);simp only[adX,adY,adZ]at h';simp(disch:=omega)[go_sem,ai.e,ao,hw,ad,af,h']
theorem I5(g:ai)(hg:GV g)(hn:g.conds.length<=3)(k:Nat)(hk:k<8):ay E true 33 [.agg g.e,cV k] (bV (fh g k)):=by
 obtain⟨c,h1,h2,_⟩:=hg.cL.cL;have hw:=acf g hn c h2.1 h1 k hk;have hc:=Ht g hg;refine aW Tryz.ntmps33 Tryz.results33 λN=> ?_;simp only[ai.e]at hw hc;simp(disch:=omega)[go_sem,ai.e];refine an.mk hc λM hM=> ?_;simp(disch:=omega)[go_sem]at hM;simp(disch:=omega)[go_sem];refine an.mk hw λM2 aN=> ?_;simp(disch:=omega)[go_sem]at aN;simp(disch:=omega)[go_sem]
def gU(g:ai):List Nat:=(xS 8).filter (fh g)
theorem acg(g:ai)(hg:vw g)(hn:g.conds.length<=3):gU g≠[]:=by
 obtain⟨c,h1,h2,h3⟩:=hg.cL;have h:((xS 4).all λn=>(xS 256).all λc=> !((aF c).nodes.all λx=>decide (x.1<n))||decide ((aF c).root=0)||(xS 8).any λk=>decide (k/2^n=0)&&eM (aF c) k)=true:=by kernel_rfl
 have h4:=DE.1 (DE.1 h g.conds.length (by simp;omega)) c (by simpa using h2.1);have h5:((aF c).nodes.all λx=>decide (x.1<(g.conds.length:Int)))=true:=DE.2 λx hx=>decide_eq_true (h2.2 x hx);have h6:decide ((aF c).root=0)=false:=decide_eq_false (by rw[<-h1];exact h3);rw[h5,h6]at h4;simp only[Bool.not_true,Bool.false_or]at h4;obtain⟨k,k1,k2⟩:=List.any_eq_true.1 h4;have:k∈gU g:=List.mem_filter.2 ⟨k1,by rw[fh,h1];exact k2⟩;exactλhe=>by rw[he]at this;cases this
set_option maxHeartbeats 4000000 in
theorem ach(g:ai)(hg:vw g)(hn:g.conds.length<=3)(x:Int)(hx:0<=x/\x<256):∃k,k∈gU g/\ay E true 16 [.agg g.e,uV x] (cV k):=by
 obtain⟨c,h1,h2,_⟩:=hg.cL;have aP:=acg g hg hn;have hlen:0<(gU g).length:=List.length_pos_iff.2 aP;obtain⟨k,hk⟩:∃k,(gU g)[(x%(gU g).length).toNat]? =some k:=⟨_,Xw (by
  have:=ad0 x (b:=((gU g).length:Int)) (by omega);have:=ad1 x (b:=((gU g).length:Int)) (by omega);omega)⟩
 refine⟨k,Er hk, ?_⟩;have aU:(gU g).length<=8:=by have:=ad2 (fh g) (xS 8);simpa[gU]using this
 refine aW Tryz.ntmps16 Tryz.results16 λN=> ?_;obtain⟨ge,aA⟩:∃ge,g.e=ge:=⟨_,rfl⟩;have aD:ge.all cO=true:=by rw[<-aA];rfl
 have aQ:ge.length=9:=by rw[<-aA];rfl
 rw[aA];have av:(∀d∈ge,cO d=true)=True:=eq_true (by simpa using aD);have aR:ge.take 9=ge:=Zj (by omega);simp(disch:=omega)[go_sem,av]
 let F:Nat->List (List DV):=λk=>((xS k).filter (fh g)).map λk=>[cV k]
 obtain⟨I,hI⟩:∃I:Nat->DS->Prop,∀j d,I j d↔∃(k:Nat) (H:ab) (pv:DV),j+k=8/\N<H.next/\dI H (N+1) H.next 1 (F k) pv/\H.get N=some (.row ge true 0)/\d=⟨bz [(1,uV x),(2,.v (.pointer (some ⟨N,0,none⟩))),(5,pv),(6,.v (.int .u64 (k:Nat)))],26,[],H⟩:=⟨_,λ_ _=>Iff.rfl⟩;refine bO I 8 ⟨_,ax.bg (l:=[(1,uV x),(2,.v (.pointer (some ⟨N,0,none⟩))),(5,dQ),(6,.v (.int .u64 (0:Nat)))]) ?_,(hI _ _).2 ⟨0,_,dQ,rfl, ?_,.nil _ _ _ _, ?_,rfl⟩⟩ ?_
 . simp(disch:=omega)[go_sem]
 . simp(disch:=omega)[go_sem]
 . simp(disch:=omega)[go_sem]
 . intro j ds aI;obtain⟨k',H,pv,hj,hN,hgr,f1,rfl⟩:=(hI _ _).1 aI;clear aI;have aK:∀y∈F k',y.length=1:=λy hy=>by obtain⟨z,_,rfl⟩:=Qc.1 hy;rfl
   by_cases aS:k'<8
   . have aw:(k':Int)<8:=by omega
     have hh:=ace g hn c h2.1 h1 k' aS;rw[aA]at hh;have aB:F (k'+1)=F k'++if fh g k' then [[cV k']]else []:=by
      simp only[F,List.range_succ,List.filter_append,Zr];cases hb:fh g k'<;>simp[hb]
     simp(disch:=omega)[go_sem,aw,f1,aQ,aR];refine an.mk hh λM hM=> ?_;cases hb:fh g k' with
     |true=>
      rw[hb]at aB;simp(disch:=omega)[go_sem];refine dI.app (st:=98) (xt:=98) (B:=N+1) (U:=H.next) (k:=1) (xs:=F k') (hgr.same (λq q1 q2=>by rw[ab.di,if_neg (by rw[ab.fH];omega)];rfl) (PX _)) E8 AB (by omega) (by simp(disch:=omega)[go_sem];omega) (new:=[cV k']) (by simp(disch:=omega)[go_sem]) (by decide) rfl rfl aK (by have:(F k').length<=k':=by{have:=ad2 (fh g) (xS k');simpa[F]using this};omega) λH' aL T _ q1 q2 q3 _=> ?_;simp(disch:=omega)[go_sem]at q2 q3;simp(disch:=omega)[go_sem,wrap_u64];refine⟨j-1,by omega,_,ax.bg (l:=[(1,uV x),(2,.v (.pointer (some ⟨N,0,none⟩))),(5,aL),(6,.v (.int .u64 (k'+1:Nat)))]) ?_,(hI _ _).2 ⟨k'+1,_,aL,by omega,by omega,by rw[aB];exact q1, ?_,rfl⟩⟩
      . simp(disch:=omega)[go_sem]
      . rw[q3 N (by omega) (hgr.ne (.inl (by omega)))];simp(disch:=omega)[go_sem,f1]
     |false=>
      rw[hb]at aB;simp(disch:=omega)[go_sem,wrap_u64];refine⟨j-1,by omega,_,ax.bg (l:=[(1,uV x),(2,.v (.pointer (some ⟨N,0,none⟩))),(5,pv),(6,.v (.int .u64 (k'+1:Nat)))]) ?_,(hI _ _).2 ⟨k'+1,_,pv,by omega,by rw[ab.fH];omega,by rw[aB];simp;exact hgr.same (λj _ _=>rfl) (by rw[ab.fH];exact hM),by simp(disch:=omega)[go_sem,f1],rfl⟩⟩;simp(disch:=omega)[go_sem]
   . have aw:¬(k':Int)<8:=by omega
     obtain rfl:k'=8:=by omega
     simp(disch:=omega)[go_sem];have aM:F 8=(gU g).map λk=>[cV k]:=rfl;have aa:(F 8).length=(gU g).length:=by rw[aM,PO]
     have aT:=hgr.len 98 1 AB;rw[aa]at aT;have aX:0<=x%((gU g).length:Int):=ad1 _ (by omega);have aZ:x%((gU g).length:Int)<(gU g).length:=ad0 _ (by omega);have aE:¬((gU g).length:Int)=0:=by omega
     rcases hgr with⟨h0,_⟩|⟨R,r1,r2,rfl,r4⟩
     . rw[h0]at aa;simp at aa;omega
     have az:(F 8).flatten[(x%((gU g).length:Int)).toNat]? =some (cV k):=by
      have hq:(F 8)[(x%((gU g).length:Int)).toNat]? =some [cV k]:=by rw[aM,W2,hk];rfl
      have:=rH (k:=1) _ 0 _ (cV k) aK hq rfl;simpa using this
     rw[aa]at*;generalize (F 8).flatten=cells at*;generalize (gU g).length=L at*;simp(disch:=omega)[go_sem,aC,cT,aE,r4,az,-getElem?_pos]
theorem yG(p:List aL)(i:Nat)(s:ByteArray)(l l1 l2:List Int)(x:aL)(hx:p[i]? =some x)(hk:x.kind=2)
 (h1:ay E true 41 [.sl 5 (p.map aL.e),iV x.a,sV s,ints l] (ints l1)) (h2:ay E true 41 [.sl 5 (p.map aL.e),iV x.b,sV s,ints l1] (ints l2)):
 ay E true 41 [.sl 5 (p.map aL.e),iV (i:Nat),sV s,ints l] (ints l2):=by
 have hi:=(GP.1 hx).1;obtain⟨R,hR⟩:∃R,R=ints l2:=⟨_,rfl⟩;rw[<-hR]at h2⊢;refine aW Tryz.ntmps41 Tryz.results41 λN=> ?_;simp(disch:=omega)[go_sem,hx,-getElem?_pos,aL.e,hk];refine bR [ae 0,kj 0,dc 2,ae 0,ae 0,ae 0,aD 32,ae 0,ae 0,aN 496,aN 1023,ae 2047] (by kernel_rfl) 0 rfl ?_;simp(disch:=omega)[go_sem,hx,-getElem?_pos,aL.e,hk];refine an.mk h1 λM hM=> ?_;simp(disch:=omega)[go_sem]at hM;simp(disch:=omega)[go_sem];refine an.mk h2 λM2 aa=> ?_;simp(disch:=omega)[go_sem]at aa;simp(disch:=omega)[go_sem,hR]
theorem CD(p:List aL)(s:ByteArray)(l:List Int)(b:Bool)(hp:0<p.length)(ai:p.length<=1000)(h1:ay E true 39 [.sl 5 (p.map aL.e)] (iV 0))(h2:ay E true 41 [.sl 5 (p.map aL.e),iV ((p.length-1:Nat):Int),sV s,ints [0]] (ints l))(h3:ay E true 40 [ints l,iV (s.size:Nat)] (bV b)):
 ay E true 20 [.sl 5 (p.map aL.e),sV s] (bV b):=by
 obtain⟨L,hL⟩:∃L,L=ints l:=⟨_,rfl⟩;rw[<-hL]at h2 h3;refine aW Tryz.ntmps20 Tryz.results20 λN=> ?_;simp(disch:=omega)[go_sem];refine an.mk h1 λM hM=> ?_;simp(disch:=omega)[go_sem]at hM;simp(disch:=omega)[go_sem,aC];rw[show((p.length:Int)-1)=((p.length-1:Nat):Int) by omega];refine an.fz h2 [M] ?_ ?_ λM2 aa=> ?_
 . simp(disch:=omega)[go_sem]
 . simp(disch:=omega)[go_sem];exact dU (gr (wr:=true) (ah:=0) (by simp) (by simp(disch:=omega)[go_sem];try rfl)) (.inl rfl) (by decide) (by simp) (by simp) (by simp)
 simp(disch:=omega)[go_sem]at aa;simp(disch:=omega)[go_sem,gI];refine an.mk h3 λM3 ab=> ?_;simp(disch:=omega)[go_sem]at ab;simp(disch:=omega)[go_sem]
def yH:List (List aL×Int×ByteArray×List Int×List Int):=[(fD,0,⟨#[120]⟩,[0],[1]),(fD,2,⟨#[120]⟩,[1],[1]),(fD,0,⟨#[105,102]⟩,[0],[1]),(fD,2,⟨#[105,102]⟩,[1],[1,2]),
 (fD,0,⟨#[101,108,115,101]⟩,[0],[1]),(fD,2,⟨#[101,108,115,101]⟩,[1],[1,2,3,4]),(fD,0,⟨#[97,98]⟩,[0],[1]),(fD,2,⟨#[97,98]⟩,[1],[1,2]),
 (ky,0,⟨#[120,43]⟩,[0],[1]),(ky,2,⟨#[120,43]⟩,[1],[1]),(ky,4,⟨#[120,43]⟩,[1],[2])]
theorem aci:∀q∈yH,ay E true 41 [.sl 5 (q.1.map aL.e),iV q.2.1,sV q.2.2.1,ints q.2.2.2.1] (ints q.2.2.2.2):=bI (by kernel_rfl)
theorem CE:∀m∈cW,ay E true 39 [.sl 5 (m.p.map aL.e)] (iV 0):=bI (by kernel_rfl)
def CF:List (List Int×Int):=[([1],1),([1,2],2),([1,2,3,4],4),([2],2)]
theorem acj:∀q∈CF,ay E true 40 [ints q.1,iV q.2] (bV true):=bI (by kernel_rfl)
def mT:List (bP×ByteArray):=[(fY,⟨#[120]⟩),(fY,⟨#[105,102]⟩),(fY,⟨#[101,108,115,101]⟩),(fY,⟨#[97,98]⟩),(lj,⟨#[120,43]⟩)]
theorem vU(i:Nat){q:List aL×Int×ByteArray×List Int×List Int}(h:yH[i]? =some q):ay E true 41 [.sl 5 (q.1.map aL.e),iV q.2.1,sV q.2.2.1,ints q.2.2.2.1] (ints q.2.2.2.2):=aci q (Er h)
theorem I6(i:Nat){q:List Int×Int}(h:CF[i]? =some q):ay E true 40 [ints q.1,iV q.2] (bV true):=acj q (Er h)
theorem ack:∀q∈mT,ay E true 20 [.sl 5 (q.1.p.map aL.e),sV q.2] (bV true):=by
 have ad:=CE fY (fM 0 fY rfl);have af:=CE lj (fM 3 lj rfl);have one:∀(s:ByteArray) (i j k:Nat) (l:List Int),yH[i]? =some (fD,0,s,[0],[1])->yH[j]? =some (fD,2,s,[1],l)->CF[k]? =some (l,((s.size:Nat):Int))->ay E true 20 [.sl 5 (fD.map aL.e),sV s] (bV true):=λs i j k l h1 h2 h3=>
  CD fD s l true (by decide) (by decide) ad (yG fD 3 s [0] [1] l _ rfl rfl (vU i h1) (vU j h2)) (I6 k h3)
 intro q hq;simp only[mT,ZJ,ZL,or_false]at hq;rcases hq with rfl|rfl|rfl|rfl|rfl
 . exact one _ 0 1 0 _ rfl rfl rfl
 . exact one _ 2 3 1 _ rfl rfl rfl
 . exact one _ 4 5 2 _ rfl rfl rfl
 . exact one _ 6 7 1 _ rfl rfl rfl
 . exact CD ky ⟨#[120,43]⟩ [2] true (by decide) (by decide) af (yG ky 5 ⟨#[120,43]⟩ [0] [1] [2] _ rfl rfl (yG ky 3 ⟨#[120,43]⟩ [0] [1] [1] _ rfl rfl (vU 8 rfl) (vU 9 rfl)) (vU 10 rfl)) (I6 3 rfl)
theorem CG:∀q∈mT,ay E true 34 [.sl 5 (q.1.p.map aL.e),sV q.2] (bV true):=by
 have h:(mT.all λq=>jS q.1 q.2&&Nat.ble q.2.size 4)=true:=by kernel_rfl
 have hm:∀q∈mT,q.1∈cW:=λq hq=>by
  simp only[mT,ZJ,ZL,or_false]at hq;rcases hq with rfl|rfl|rfl|rfl|rfl
  . exact fM 0 fY rfl
  . exact fM 0 fY rfl
  . exact fM 0 fY rfl
  . exact fM 0 fY rfl
  . exact fM 3 lj rfl
 intro q hq;have h2:=DE.1 h q hq;rw[adU]at h2;have:=yE q.1 (hm q hq) q.2 (by have:=Nat.le_of_ble_eq_true h2.2;omega);rw[h2.1]at this;exact this
def I7(t:Tok)(s:ByteArray):Prop:=t.cls=0->t.lit=⟨#[]⟩->∃q∈mT,t.pat=q.1.p/\s=q.2
def kR(t:Tok)(c:Nat)(s:ByteArray):Bool:=decide (t.cls=0)&&eM t.cond c&&(decide (t.lit=⟨#[]⟩)||decide (s=t.lit))
set_option maxHeartbeats 4000000 in
theorem acm(g:ai)(k:Nat)(t:Tok)(ht:g.ar[k]? =some t)(hl:g.ar.length<=1000)(ct:Nat)(ae:t.cond=aF ct)(aa:ct<256)(c:Nat)(hc:c<8)(s:ByteArray)(hs:I7 t s)(rm:DV)(ad:cO rm=true):
 ay E true 17 [.agg g.e,cV c,.agg [iV (-1),iV (k:Nat),sV s,rm]] (bV (kR t c s)):=by
 have hk:=(GP.1 ht).1;have af:¬(k:Int)<0:=by omega
 have ao:¬(g.ar.length:Int)<=k:=by omega
 have ab:=CC ct c aa hc;rw[<-ae]at ab;obtain⟨R,hR⟩:∃R,kR t c s=R:=⟨_,rfl⟩;rw[hR];refine aW Tryz.ntmps17 Tryz.results17 λN=> ?_;simp only[Dg.e]at ab;have av:ca rm=[rm]:=by cases rm<;>first|rfl|(simp[cO]at ad)
 simp(disch:=omega)[go_sem,ai.e,ad,ao,af,ht,-getElem?_pos,Tok.e];by_cases h1:t.cls=0
 . simp(disch:=omega)[go_sem,h1];refine an.mk ab λM hM=> ?_;simp(disch:=omega)[go_sem]at hM;cases h2:eM t.cond c with
   |false=>
    simp(disch:=omega)[go_sem];rw[show R=false from by rw[<-hR];simp[kR,h2]];exact .refl _
   |true=>
    by_cases h3:t.lit=⟨#[]⟩
    . obtain⟨q,q1,q2,q3⟩:=hs h1 h3;have hm:=ack q q1;rw[<-q2,<-q3]at hm;simp(disch:=omega)[go_sem,h3];refine an.mk hm λM2 aw=> ?_;simp(disch:=omega)[go_sem]at aw;simp(disch:=omega)[go_sem];rw[show R=true from by rw[<-hR];simp[kR,h1,h2,h3]];exact .refl _
    . simp(disch:=omega)[go_sem,h3];rw[show R=decide (s=t.lit)from by rw[<-hR];simp[kR,h1,h2,h3]];exact .refl _
 . simp(disch:=omega)[go_sem,h1];rw[show R=false from by rw[<-hR];simp[kR,h1]];exact .refl _
theorem dI.cells{H:ab}{B U k:Nat}{xs:List (List DV)}{pv:DV}(h:dI H B U k xs pv):ca pv=[pv]/\cO pv=true:=by
 rcases h with⟨_,rfl⟩|⟨R,_,_,rfl,_⟩<;>exact⟨rfl,rfl⟩
def gE(g:ai)(pv:DV):List DV:=[strs g.conds,.sl 3 (g.family.nodes.map cK),iV g.family.root,pv,strs g.aH,.sl 13 (g.ak.map aQ.e),iV g.start,.sl 4 (g.ba.map de.e),.sl 9 (g.bj.map bd.e)]
def Tok.c(t:Tok):List DV:=[sV t.name,iV t.cls,sV t.lit,(match t.pat with|[]=>dQ|_=>.sl 5 (t.pat.map aL.e)),sV t.iD,.sl 3 (t.cond.nodes.map cK),iV t.cond.root]
structure MS(r:eL)(g:ai)(N M M2:Nat)(B X:List Tok)(H:ab)(pv:DV):Prop where
 r:H.get N=some (.row r.e true 0)
 o:H.get (N+1)=some (.row dV true 0)
 g:H.get M=some (.row (gE g pv) true 0)
 c:H.get M2=some (.row (aP true).e true 0)
 pv:dI H (M2+1) H.next 7 (B.map Tok.e++X.map Tok.c) pv
 lt:N+1<M/\M<M2/\M2<H.next
theorem vV(B X:List Tok):∀x∈B.map Tok.e++X.map Tok.c,x.length=7:=λx hx=>by
 rcases TF.1 hx with hx|hx<;>(obtain⟨y,_,rfl⟩:=Qc.1 hx;rfl)
theorem acn(m:Int)(h0:0<=m)(h1:m<256):∀k:Nat,k<8->IntKind.u8.wrap (((qe IntKind.u8.bits (m.fdiv (2^(min k IntKind.u8.bits)))&&&qe IntKind.u8.bits 1).toNat:Nat):Int)=if bZ m k then 1 else 0:=by
 have h:((xS 256).all λm=>(xS 8).all λk=>decide (IntKind.u8.wrap (((qe IntKind.u8.bits ((m:Int).fdiv (2^(min k IntKind.u8.bits)))&&&qe IntKind.u8.bits 1).toNat:Nat):Int)=if bZ (m:Nat) k then 1 else 0))=true:=by kernel_rfl
 intro k hk;have h2:=of_decide_eq_true (DE.1 (DE.1 h m.toNat (by simp;omega)) k (by simpa using hk));rw[ad3 h0]at h2;exact h2
theorem MS.app{r:eL}{g:ai}{N M M2:Nat}{B X:List Tok}{H H1:ab}{pv:DV}{q:Nat}{K:DV×ab×List Nat->Prop}(ms:MS r g N M M2 B X H pv)(t:Tok)(hl:B.length+X.length<=1000)(hn:H.next<=H1.next)(hs:∀j,j<H.next->H1.get j=H.get j)(hq:H1.get q=some (.row t.c true 0))
 (hk:∀H' aa T,(∀i∈T,M2+1<=i/\i<H.next)->ca aa=[aa]->cO aa=true->H'.get M=some (.row (gE g pv) true 0)->H1.next<H'.next->(∀j,j<H1.next->nU pv≠some j->H'.get j=H1.get j)->MS r g N M M2 B (X++[t]) (H'.set M (some (.row (gE g aa) true 0))) aa->K (aa,H',T)):aG (jb E H1 #[34,34] (some [pv,.v (.slice (some ⟨q,0,none⟩) 1 1)])) K:=by
 obtain⟨m1,m2,m3,m4,m5,m6,m7,m8⟩:=ms;refine dI.app (st:=34) (xt:=34) (B:=M2+1) (U:=H.next) (k:=7) (xs:=B.map Tok.e++X.map Tok.c) (m5.same (λj _ j2=>hs j j2) (PX _)) AA Az (by omega) hn hq (by decide) (by rfl) (by cases hp:t.pat<;>simp[Tok.c,hp,go_sem]) (vV _ _) (by rw[ad4,PO,PO];omega) λH' aa T q0 q1 q2 q3 q4=> ?_;obtain⟨p1,p2⟩:=q1.cells;have aY:∀j,j<M2+1->H'.get j=H.get j:=λj hj=>by rw[q3 j (by omega) (m5.ne (.inl hj)),hs j (by omega)]
 refine hk H' aa T q0 p1 p2 (by rw[aY M (by omega),m3]) (by omega) q3 ⟨?_, ?_, ?_, ?_, ?_,m6,m7,by rw[ab.aR];omega⟩
 . rw[ab.bn,if_neg (by omega),aY N (by omega),m1]
 . rw[ab.bn,if_neg (by omega),aY (N+1) (by omega),m2]
 . rw[ab.bn,if_pos rfl]
 . rw[ab.bn,if_neg (by omega),aY M2 (by omega),m4]
 . rw[Zr,<-ab8];exact q1.same (λj q5 q6=>by rw[ab.bn,if_neg (by omega)]) (by rw[ab.aR];exact PX _)
theorem aco(m:Int)(h0:0<=m)(h1:m<256):IntKind.u8.wrap (((qe IntKind.u8.bits m&&&qe IntKind.u8.bits 8).toNat:Nat):Int)=(if bZ m 3 then 8 else 0)/\
 IntKind.u8.wrap (((qe IntKind.u8.bits m&&&qe IntKind.u8.bits 16).toNat:Nat):Int)=(if bZ m 4 then 16 else 0)/\IntKind.u8.wrap (((qe IntKind.u8.bits m&&&qe IntKind.u8.bits 96).toNat:Nat):Int)=(if bZ m 5 then 32 else 0)+(if bZ m 6 then 64 else 0):=by
 have h:((xS 256).all λm=>decide (IntKind.u8.wrap (((qe IntKind.u8.bits (m:Nat)&&&qe IntKind.u8.bits 8).toNat:Nat):Int)=(if bZ (m:Nat) 3 then 8 else 0)/\
  IntKind.u8.wrap (((qe IntKind.u8.bits (m:Nat)&&&qe IntKind.u8.bits 16).toNat:Nat):Int)=(if bZ (m:Nat) 4 then 16 else 0)/\IntKind.u8.wrap (((qe IntKind.u8.bits (m:Nat)&&&qe IntKind.u8.bits 96).toNat:Nat):Int)=(if bZ (m:Nat) 5 then 32 else 0)+(if bZ (m:Nat) 6 then 64 else 0)))=true:=by kernel_rfl
 have h2:=of_decide_eq_true (DE.1 h m.toNat (by simp;omega));rw[ad3 h0]at h2;exact h2
def SI(r:eL)(g:ai)(N M M2:Nat)(B X:List Tok)(d:DS):Prop:=∃(H:ab) (pv:DV),MS r g N M M2 B X H pv/\d=⟨bz [(1,aM N),(2,aM (N+1)),(5,aM M),(6,aM M2)],184,[],H⟩
theorem CI(i:Nat){q:ByteArray×List aL}(h:([(⟨#[91,97,45,122,93,91,97,45,122,93,42]⟩,fD),(⟨#[91,97,45,122,93,91,48,45,57,93,42,43]⟩,ky),(⟨#[92,120,50,97,43,91,97,45,122,93,42]⟩,nR),(⟨#[92,120,50,48,120]⟩,vP)]:List (ByteArray×List aL))[i]? =some q):
 ay E true 14 [sV q.1] (.bb [.sl 5 (q.2.map aL.e),iV 0]):=abp q (Er h)
theorem acp(T:List Tok):((T.map Tok.e).flatten).length=T.length*7:=by
 have:=eW (k:=7) (xs:=T.map Tok.e) (λx hx=>by obtain⟨y,_,rfl⟩:=Qc.1 hx;rfl);rwa[PO]at this
theorem acq(T:List Tok)(Y:List DV)(i:Nat)(h:i<T.length)(d:Dg):((T.map Tok.e).flatten++Y).take (i*7+5)++(d.e++((T.map Tok.e).flatten++Y).drop (i*7+7))=((T.modify i λx=>{x with cond:=d}).map Tok.e).flatten++Y:=by
 obtain⟨t,ht⟩:∃t,T[i]? =some t:=⟨_,Xw h⟩;have e1:T=T.take i++(t::T.drop (i+1)):=by
  have he:=(GP.1 ht).2;rw[<-he,<-ad5 h,ad6]
 have e2:(T.modify i λx=>{x with cond:=d})=T.take i++({t with cond:=d}::T.drop (i+1)):=by
  rw[List.modify_eq_take_cons_drop h];rw[(GP.1 ht).2]
 have hl:((T.take i).map Tok.e).flatten.length=i*7:=by rw[acp,ad7];omega
 obtain⟨A,hA⟩:∃A,((T.take i).map Tok.e).flatten=A:=⟨_,rfl⟩;obtain⟨C,hC⟩:∃C,((T.drop (i+1)).map Tok.e).flatten=C:=⟨_,rfl⟩;rw[hA]at hl;rw[e2];have f1:(T.map Tok.e).flatten=A++(t.e++C):=by
  conv=>lhs;rw[e1]
  rw[Zr,adr,W9,VK,hA,hC]
 rw[f1,Zr,adr,W9,VK,hA,hC];have t1:((A++(t.e++C))++Y).take (i*7+5)=A++[sV t.name,iV t.cls,sV t.lit,.sl 5 (t.pat.map aL.e),sV t.iD]:=by
  rw[ab8,ad8,Zj (by omega),hl,ad9];rfl
 have t2:((A++(t.e++C))++Y).drop (i*7+7)=C++Y:=by
  rw[ab8,aea,aeb (by omega),hl,ad9,adS];rfl
 rw[t1,t2];simp[Tok.e,Dg.e]
structure Lf where
 tok:Nat
 text:ByteArray
def Lf.e(l:Lf):List DV:=[iV (-1),iV (l.tok:Nat),sV l.text,.sl 1 []]
def Lf.c(l:Lf):List DV:=[iV (-1),iV (l.tok:Nat),sV l.text,dQ]
def yI:List ByteArray:=[⟨#[120]⟩,⟨#[105,102]⟩,⟨#[101,108,115,101]⟩,⟨#[97,98]⟩]
def kS(t:Tok)(k:Nat)(b:Int):ByteArray:=if t.lit=⟨#[]⟩then(if k=0 then(yI[(b/16%4).toNat]?).getD ⟨#[]⟩else t.iD)else t.lit
def gJ(T:List Tok)(b:Int):Lf:=⟨(b%T.length).toNat,kS ((T[(b%T.length).toNat]?).getD ik) (b%T.length).toNat b⟩
def kA(T:List Tok)(c:Nat)(l:Lf):Bool:=match T[l.tok]? with
 |some t=>kR t c l.text
 |none=>false
def mU(r:eL)(c:Nat):List Lf:=((r.leaves.take 12).map (gJ (cu r).ar)).filter (kA (cu r).ar c)
theorem acr{α:Type}(A C:List α)(i:Nat)(f:α->α)(h:i<A.length):(A++C).modify i f=A.modify i f++C:=by
 apply List.ext_getElem?;intro j;rw[aec];rcases Nat.lt_or_ge j A.length with hj|hj
 . rw[Z4 hj,Z4 (by rw[adT];exact hj),aec]
 . rw[abR hj,abR (by rw[adT];exact hj),adT];have az:¬i=j:=by omega
   simp[az]
theorem acs(r:eL)(hr:r.Ok):(cu r).ar=(if bZ r.marks 5&&bZ r.marks 6 then(cr bp r.x).ar.modify 9 (λx=>{x with cond:=aP false})else(cr bp r.x).ar)++gd r.marks (cr bp r.x).conds.length/\cu r={cr bp r.x with ar:=(cu r).ar}:=by
 have aB:=(tQ r.x hr.x).room.ar;unfold cu;simp only
 split
 . refine⟨?_,rfl⟩;show((cr bp r.x).ar++gd r.marks (cr bp r.x).conds.length).modify 9 _=_;exact acr _ _ 9 _ (by omega)
 . exact⟨rfl,rfl⟩
theorem I8{t t':Tok}(h:t.strip=t'.strip):t.cls=t'.cls/\t.lit=t'.lit/\t.pat=t'.pat/\t.iD=t'.iD:=by
 have:=h;simp only[Tok.strip,Tok.mk.injEq]at this;exact⟨this.2.1,this.2.2.1,this.2.2.2.1,this.2.2.2.2.1⟩
theorem I9(r:eL)(hr:r.Ok)(k:Nat)(t:Tok)(b:Int)(hk:(cu r).ar[k]? =some t)(hb:0<=b/\b<256):I7 t (kS t k b):=by
 intro hc hl;have hs:=(vS r hr).strip;have ao:((ar++gd r.marks (cr bp r.x).conds.length).map Tok.strip)[k]? =some t.strip:=by rw[<-hs,W2,hk];rfl
 rw[W2]at ao;obtain⟨t0,h0,h1⟩:=Option.map_eq_some_iff.1 ao;obtain⟨a1,a2,a3,a4⟩:=I8 h1;rw[<-a1]at hc;have av:t0.lit=⟨#[]⟩:=by rw[a2,hl]
 have hm:=Er h0;have ae:t0=ik/\k=0\/t0.pat=ky/\t0.iD=⟨#[120,43]⟩/\k≠0:=by
  by_cases ad:k=0
  . subst ad;have:(ar++gd r.marks (cr bp r.x).conds.length)[0]? =some ik:=rfl;rw[this]at h0;cases h0;exact .inl ⟨rfl,rfl⟩
  . right;have af:(ar++gd r.marks (cr bp r.x).conds.length)=ik::((lits.map fV++[tm,xT])++gd r.marks (cr bp r.x).conds.length):=rfl;obtain⟨j,rfl⟩:∃j,k=j+1:=⟨k-1,by omega⟩;rw[af,List.getElem?_cons_succ]at h0;have hm:=Er h0;have aa:∀s∈lits++jT,s≠⟨#[]⟩:=by
     have h:((lits++jT).all λs=> !decide (s=⟨#[]⟩))=true:=by kernel_rfl
     intro s hs;simpa using DE.1 h s hs
    rcases TF.1 hm with hm|hm
    . exfalso;simp only[TF,Qc,ZJ,ZL,or_false]at hm;rcases hm with⟨s,hs,rfl⟩|rfl|rfl
      . exact aa s (TF.2 (.inl hs)) av
      . exact absurd hc (by decide)
      . exact absurd hc (by decide)
    . have:=(tU r.marks (cr bp r.x).conds.length).subset hm;simp only[TF,ZJ,Qc,ZL,or_false]at this;rcases this with⟨s,hs,rfl⟩|rfl|rfl|rfl
      . exact absurd av (aa s (TF.2 (.inr hs)))
      . exact⟨rfl,rfl,by omega⟩
      . exact absurd hc (by decide)
      . exact absurd hc (by decide)
 unfold kS;rw[if_pos hl];rcases ae with⟨rfl,rfl⟩|⟨h2,h3,h4⟩
 . rw[if_pos rfl,<-a3];have:(b/16%4).toNat=0\/(b/16%4).toNat=1\/(b/16%4).toNat=2\/(b/16%4).toNat=3:=by omega
   rcases this with h|h|h|h
   . rw[h];exact⟨_,Er (i:=0) rfl,rfl,rfl⟩
   . rw[h];exact⟨_,Er (i:=1) rfl,rfl,rfl⟩
   . rw[h];exact⟨_,Er (i:=2) rfl,rfl,rfl⟩
   . rw[h];exact⟨_,Er (i:=3) rfl,rfl,rfl⟩
 . rw[if_neg h4,<-a3,<-a4,h2,h3];exact⟨_,Er (i:=4) rfl,rfl,rfl⟩
theorem acu{S:eR}(t:Tok):cA S t.c t.e:=by
 unfold Tok.c Tok.e;simp only[ve,vd,vc,and_true,true_and];cases t.pat with
 |nil=>exact .nil (by decide)
 |cons x l=>exact .refl _
theorem CJ{S:eR}:∀(B X:List Tok),cA S (B.map Tok.e++X.map Tok.c).flatten ((B++X).map Tok.e).flatten
 |[],[]=>.nil
 |[],x::X=>by
  simp only[List.map_nil,adS,W9,VK];exact aO.append (acu x) (by simpa using CJ [] X)
 |b::B,X=>by
  simp only[W9,List.cons_append,VK];exact aO.append (cA.refl _) (CJ B X)
theorem MS.fz{r:eL}{g:ai}{N M M2:Nat}{B X:List Tok}{H:ab}{pv:DV}(ms:MS r g N M M2 B X H pv){S:eR}(hS:∀R cs,nU pv=some R->H.get R=some (.row cs true 7)->S R=some (cs,7)):cA S (gE g pv) (ai.e {g with ar:=B++X}):=by
 have hp:Fz S pv (.sl 7 ((B++X).map Tok.e)):=by
  rcases ms.pv with⟨h0,rfl⟩|⟨R,h1,h2,rfl,h4⟩
  . have hB:B=[]:=by cases B with|nil=>rfl|cons b B=>simp at h0
    have hX:X=[]:=by cases X with|nil=>rfl|cons b X=>simp at h0
    subst hB;subst hX;exact .nil (by decide)
  . refine ij (hS R _ rfl h4) (.inr rfl) (by decide) (by simp) (PX _) (λx hx=>by obtain⟨y,_,rfl⟩:=Qc.1 hx;rfl) (CJ B X)
 simp only[gE,ai.e,ve,vd,vc,and_true,true_and];exact hp
theorem Ja{S:eR}:∀(L:List Lf),cA S (L.map Lf.c).flatten (L.map Lf.e).flatten
 |[]=>.nil
 |l::L=>by
  simp only[W9,VK];refine aO.append ?_ (Ja L);simp only[Lf.c,Lf.e,ve,vd,vc,and_true,true_and];exact .nil (by decide)
theorem dI.Jb{H:ab}{B U k:Nat}{xs ys:List (List DV)}{pv:DV}{S:eR}(h:dI H B U k xs pv)(ad:0<k)(hl:xs.length=ys.length)(hy:∀x∈ys,x.length=k)(hz:cA S xs.flatten ys.flatten)(hS:∀R cs,B<=R->R<U->H.get R=some (.row cs true k)->S R=some (cs,k)):Fz S pv (.sl k ys):=by
 rcases h with⟨rfl,rfl⟩|⟨R,h1,h2,rfl,h4⟩
 . have:ys=[]:=List.eq_nil_of_length_eq_zero (by rw[<-hl];rfl);subst this;exact .nil ad
 . exact ij (hS R _ h1 h2 h4) (.inr rfl) ad hl (PX _) hy hz
theorem acv(B X:List Tok)(k:Nat)(t:Tok)(hk:(B++X)[k]? =some t):∃d3,cO d3=true/\ca d3=[d3]/\(List.take 7 (List.drop (k*7) (B.map Tok.e++X.map Tok.c).flatten))=[sV t.name,iV t.cls,sV t.lit,d3,sV t.iD,.sl 3 (t.cond.nodes.map cK),iV t.cond.root]/\k*7+7<=(B.map Tok.e++X.map Tok.c).flatten.length:=by
 have part:∀(xs:List (List DV)) (x:List DV),(∀y∈xs,y.length=7)->xs[k]? =some x->List.take 7 (List.drop (k*7) xs.flatten)=x/\k*7+7<=xs.flatten.length:=λxs x hx h=>by
  have aA:=(GP.1 h).1;have e1:xs=xs.take k++(x::xs.drop (k+1)):=by rw[<-(GP.1 h).2,<-ad5 aA,ad6]
  have hl:(xs.take k).flatten.length=k*7:=by rw[eW λy hy=>hx y (List.mem_of_mem_take hy),ad7];congr 1;omega
  have aw:x.length=7:=hx x (Er h);have e2:xs.flatten=(xs.take k).flatten++(x++(xs.drop (k+1)).flatten):=by
   have:=congrArg List.flatten e1;rwa[adr,VK]at this
  rw[e2,aea,aeb (by omega),hl,Nat.sub_self,adW,adS,ad8,Zj (by omega),aw,Nat.sub_self,List.take_zero,List.append_nil];exact⟨rfl,by simp only[ad4,hl,aw];omega⟩
 rcases Nat.lt_or_ge k B.length with h|h
 . rw[Z4 h]at hk;obtain⟨h1,h2⟩:=part _ t.e (vV B X) (by rw[Z4 (by rw[PO];exact h),W2,hk];rfl);exact⟨.sl 5 (t.pat.map aL.e),rfl,rfl,h1,h2⟩
 . rw[abR h]at hk;obtain⟨h1,h2⟩:=part _ t.c (vV B X) (by rw[abR (by rw[PO];exact h),PO,W2,hk];rfl);refine⟨(match t.pat with|[]=>dQ|_=>.sl 5 (t.pat.map aL.e)), ?_, ?_,h1,h2⟩
   . cases t.pat<;>rfl
   . cases t.pat<;>rfl
end Go.Sp
end

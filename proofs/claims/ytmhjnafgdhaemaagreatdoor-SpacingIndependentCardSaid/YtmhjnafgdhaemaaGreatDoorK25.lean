/- SpacingIndependent: parts of its proof. -/
import Derived.Test.YtmhjnafgdhaemaaGreatDoorK24
open List renaming mem_cons->qe,map_cons->xS,mem_cons_of_mem->Er,length_map->GP,mem_singleton->PO,getElem?_eq_getElem->PX,mem_of_getElem?->Qc,flatMap_cons->TF,not_mem_nil->VK,all_eq_true->W2
open Option renaming map_some->DE
open Bool renaming and_eq_true->W9
set_option linter.all false
set_option maxRecDepth 100000
noncomputable section
open Go Go.au Go.Proofs
namespace Go.Sp
abbrev Seen:Type:=List (Nat×Nat)×List Br
def fX(node:Nat->Option Br):Nat->Nat->Seen->Nat×Seen
 |0,_,s=>(0,s)
 |k+1,n,s=>match bc s.1 n with
  |some m=>(m,s)
  |none=>match node n with
   |none=>(0,s)
   |some x=>
    let a:=fX node k x.2.1 s
    let b:=fX node k x.2.2 a.2
    (b.2.2.length+2,put b.2.1 n (b.2.2.length+2),b.2.2++[(x.1,a.1,b.1)])
def jt(N:List Br)(n:Nat):Option Br:=if n<2 then none else N[n-2]?
theorem yf{node:Nat->Option Br}(aK:∀n x,node n=some x->x.2.1<n/\x.2.2<n):∀(k m:Nat) (s:Seen) (q:Nat),m<q->bc s.1 q=none->bc (fX node k m s).2.1 q=none
 |0,_,_,_,_,h=>h
 |k+1,m,s,q,hm,h=>by
  simp only[fX]
  split
  . exact h
  . split
    . exact h
    . rename_i x hx;obtain⟨h1,h2⟩:=aK _ _ hx;simp only;rw[mq,if_neg (by omega)];exact yf aK k _ _ q (by omega) (yf aK k _ _ q (by omega) h)
theorem yg{N:List Br}(h:dX N):∀n x,jt N n=some x->x.2.1<n/\x.2.2<n:=λn x hx=>by
 unfold jt at hx
 split at hx
 . cases hx
 . obtain⟨_,h4,h5,_⟩:=h.ok _ _ hx;omega
theorem HD{κ ν:Type}[DecidableEq κ]{a:κ}:∀{l:List (κ×ν)},bc l a=none->∀p∈l,p.1≠a
 |[],_,p,hp=>by cases hp
 |(k,v)::r,h,p,hp=>by
  simp only[bc]at h
  split at h
  . cases h
  . rename_i bd;rcases qe.1 hp with rfl|hp
    . exactλe=>bd e.symm
    . exact HD h p hp
theorem tE:E.under 233=some (.map 3 3):=by kernel_rfl
def tF(c:Nat):Value:=.func (.func 156) #[] #[.pointer (some ⟨c+4,0,none⟩),.pointer (some ⟨c,0,none⟩),.pointer (some ⟨c+5,0,none⟩),.pointer (some ⟨c+2,0,none⟩)]
def tG(c:Nat):List Value:=[.pointer (some ⟨c+4,0,none⟩),.pointer (some ⟨c,0,none⟩),.pointer (some ⟨c+5,0,none⟩),.pointer (some ⟨c+2,0,none⟩)]
structure vA(c:Nat)(h0:aa)(B:Nat)(N:List Br):Prop where
 c:h0.next=c
 vz:∃sl m,h0.get B=some (.row [sl,m] true 0)/\j7 3 h0 sl (N.map dj)
 lt:B<h0.next
 js:dX N
 v3:∀x∈N,x.1<3
structure lY(c:Nat)(h0:aa)(B:Nat)(N:List Br)(H:aa)(i:Nat)(s:Seen):Prop where
 sub:Sub h0 H
 nx:c+6<=H.next
 bC:H.get c=some (.row [.pointer (some ⟨B,0,none⟩)] true 0)
 out:∃sl,H.get (c+2)=some (.row [sl,.int .i64 0] true 0)/\((s.2=[]/\sl=.slice none 0 0)\/(s.2≠[]/\sl=.slice (some ⟨i,0,none⟩) s.2.length s.2.length/\H.get i=some (.row (s.2.flatMap dj) true 3)/\c+6<=i/\i<H.next))
 jV:∃es clock,H.get (c+3)=some (.map es clock)/\jF gR gR es s.1
 mN:H.get (c+4)=some (.row [.map (some (c+3))] true 0)
 vC:H.get (c+5)=some (.row [tF c] true 0)
 nd:(s.1.map (·.1)).Nodup
 ks:∀p∈s.1,p.1<N.length+2
 len:s.1.length=s.2.length+2
 base:bc s.1 0=some 0/\bc s.1 1=some 1
theorem lY.small{c:Nat}{h0:aa}{B:Nat}{N:List Br}{H:aa}{i:Nat}{s:Seen}(S:vA c h0 B N)(I:lY c h0 B N H i s):s.2.length<=254:=by
 have:=BV S.js S.v3;have:=ye (N.length+2) _ I.nd λx hx=>by
  obtain⟨p,hp,rfl⟩:=List.mem_map.1 hx;exact I.ks p hp
 have:=I.len;simp only[GP]at*;omega
def yh(c:Nat)(h0:aa)(B:Nat)(N:List Br)(H:aa)(i:Nat)(s:Seen)(k n:Nat)(v:Value)(H':aa):Prop:=
 ∃i',v=.int .i64 (fX (jt N) k n s).1/\lY c h0 B N H' i' (fX (jt N) k n s).2/\(H.next<=H'.next/\∀j o,j<H.next->j≠c+2->j≠c+3->(s.2≠[]->j≠i)->H.get j=some o->H'.get j=some o)/\((fX (jt N) k n s).2.2≠[]->(s.2≠[]/\i'=i)\/H.next<=i')
theorem lY.mono{c:Nat}{h0:aa}{B:Nat}{N:List Br}{H G:aa}{i:Nat}{s:Seen}(I:lY c h0 B N H i s)(a:Sub H G):lY c h0 B N G i s:=by
 have hn:=I.nx;obtain⟨es,cl,h3,h4⟩:=I.jV;obtain⟨sl,o1,o2⟩:=I.out;refine⟨I.sub.trans a,Nat.le_trans hn a.next,a.get _ _ (by omega) I.bC,⟨sl,a.get _ _ (by omega) o1, ?_⟩,⟨es,cl,a.get _ _ (by omega) h3,h4⟩,a.get _ _ (by omega) I.mN,a.get _ _ (by omega) I.vC,I.nd,I.ks,I.len,I.base⟩;rcases o2 with o2|⟨b1,b2,b3,b4,b5⟩
 . exact .inl o2
 . exact .inr ⟨b1,b2,a.get _ _ b5 b3,b4,Nat.lt_of_lt_of_le b5 a.next⟩
theorem lY.il{c:Nat}{h0:aa}{B:Nat}{N:List Br}{H:aa}{i:Nat}{s:Seen}(I:lY c h0 B N H i s)(h:s.2≠[]):c+6<=i/\i<H.next:=by
 obtain⟨sl,o1,o2⟩:=I.out;rcases o2 with o2|⟨b1,b2,b3,b4,b5⟩
 . exact absurd o2.1 h
 . exact⟨b4,b5⟩
section
variable {c:Nat} {h0:aa} {B:Nat} {N:List Br} {H:aa} {i:Nat} {s:Seen}
theorem ZZ(I:lY c h0 B N H i s){n r:Nat}(hk:bc s.1 n=some r):
 bK E 156 (.int .i64 n::tG c) H (.int .i64 r) H:=by
 have r1:rd H (c+4) 0=some (.map (some (c+3))):=cI (o:=0) I.mN;have hn:=I.nx;obtain⟨es,clock,hM,aL⟩:=I.jV;have az:=wZ tx tE aL n true clock hk;simp only[gR,cond_true]at az;refine lF Tryz.ntmps156 Tryz.results156 rfl ?_;simp(disch:=omega)[go_sem,tG,cU,bD,r1,hM,az]
theorem Z0(S:vA c h0 B N)(I:lY c h0 B N H i s){k n:Nat}{x:Br}(hk:bc s.1 n=none)(h2:2<=n)(hx:N[n-2]? =some x)
 (IH:∀(m:Nat) (H1:aa) (i1:Nat) (s1:Seen),m=x.2.1\/m=x.2.2->lY c h0 B N H1 i1 s1->∃v' H',bK E 156 (.int .i64 m::tG c) H1 v' H'/\yh c h0 B N H1 i1 s1 k m v' H'):
 ∃v H',bK E 156 (.int .i64 n::tG c) H v H'/\yh c h0 B N H i s (k+1) n v H':=by
 have r1:rd H (c+4) 0=some (.map (some (c+3))):=cI (o:=0) I.mN;have hn:=I.nx;have hc:=S.c;obtain⟨es,clock,hM,aL⟩:=I.jV;have az:=zQ tx tE aL n true clock xz rfl hk;simp only[gR,cond_true]at az;obtain⟨sl,m,hB,bf⟩:=S.vz;have aM:=S.lt;obtain⟨b,o,cp,rfl,hb,hj,ae⟩:=bf.at (j:=n-2) (x:=dj x) (by simp[hx]);have e1:((n:Int)-2).toNat=n-2:=by omega
 simp only[GP]at hj hB⊢;have hN:=BV S.js S.v3;have bg:rd H B 0=some (.slice (some ⟨b,o,none⟩) N.length cp):=I.sub.rd aM (cI (o:=0) hB);have bk:rd H c 0=some (.pointer (some ⟨B,0,none⟩)):=cI (o:=0) I.bC;have x0:rd H b (o+(n-2)*3)=some (.int .i64 x.1):=I.sub.rd hb (ae 0 _ rfl);have x1:rd H b (o+(n-2)*3+1)=some (.int .i64 x.2.1):=I.sub.rd hb (ae 1 _ rfl);have x2:rd H b (o+(n-2)*3+1+1)=some (.int .i64 x.2.2):=I.sub.rd hb (ae 2 _ rfl);have v0:rd H (c+5) 0=some (tF c):=cI (o:=0) I.vC;refine run Tryz.ntmps156 Tryz.results156 ?_;simp(disch:=first|omega|(simp only[aa.aX,aa.aR,bG];omega)) [go_sem,tG,aC,sK,cU,bD,r1,hM,az,bg,bk,x0,x1,x2,e1,v0,tF,dO,fT];refine KC.of (IH _ _ _ _ (.inl rfl) (I.mono (((Sub.refl H).new _).set (Nat.le_refl _) _))) ?_;rintro _ H1 ⟨i1,rfl,I1,⟨aT,aD⟩,av⟩;have g1:H1.get H.next=some (.row [.int .i64 x.1,.int .i64 x.2.1,.int .i64 x.2.2] true 0):=aD _ _ (by simp only[aa.aX,aa.aR];omega) (by omega) (by omega) (λh=>by have:=I.il h;omega) (dT _ _ _);simp only[aa.aX,aa.aR]at aT av;have v1:rd H1 (c+5) 0=some (tF c):=cI (o:=0) I1.vC;have y2:rd H1 H.next 2=some (.int .i64 x.2.2):=cI (o:=2) g1;simp(disch:=first|omega|(simp only[aa.aX,aa.aR,bG];omega)) [go_sem,v1,y2,tF];refine KC.of (IH _ _ _ _ (.inr rfl) I1) ?_;rintro _ H2 ⟨i2,rfl,I2,⟨zu,aN⟩,dE⟩;have g2:H2.get H.next=some (.row [.int .i64 x.1,.int .i64 x.2.1,.int .i64 x.2.2] true 0):=aN _ _ (by omega) (by omega) (by omega) (λh=>by
  rcases av h with⟨a1,a2⟩|a1
  . have:=I.il a1;omega
  . omega) g1
 have z0:rd H2 H.next 0=some (.int .i64 x.1):=cI (o:=0) g2;obtain⟨A,hA⟩:∃A,fX (jt N) k x.2.1 s=A:=⟨_,rfl⟩;rw[hA]at I1 av dE aN I2⊢;obtain⟨Bq,aP⟩:∃A',fX (jt N) k x.2.2 A.2=A':=⟨_,rfl⟩;rw[aP]at I2 dE⊢;have aA:fX (jt N) (k+1) n s=(Bq.2.2.length+2,put Bq.2.1 n (Bq.2.2.length+2),Bq.2.2++[(x.1,A.1,Bq.1)]):=by
  simp only[fX,hk,jt,if_neg (show¬n<2 by omega),hx,hA,aP]
 have bu:=I2.small S;obtain⟨aQ,af,aU,aS⟩:=I2.jV;obtain⟨aE,ab,ao,aB⟩:=uJ tx (vf:=gR) tE aS n af (Bq.2.2.length+2);have ad:=wZ tx tE aB n false ab (v:=Bq.2.2.length+2) (by rw[mq,if_pos rfl]);simp only[gR,cond_false,Int.natCast_add,Int.cast_ofNat_Int]at ao ad;have m2:rd H2 (c+4) 0=some (.map (some (c+3))):=cI (o:=0) I2.mN;obtain⟨aw,ho,aF⟩:=I2.out;have o0:rd H2 (c+2) 0=some aw:=cI (o:=0) ho;have bx:=I2.nx;have ai:bc Bq.2.1 n=none:=by
  obtain⟨q1,q2⟩:=yg S.js n x (by rw[jt,if_neg (by omega),hx]);rw[<-aP,<-hA];exact yf (yg S.js) k _ _ n q2 (yf (yg S.js) k _ _ n q1 hk)
 have fin:∀(G:aa),H2.next+2<=G.next->(∀j o,j<H2.next->j≠c+2->j≠c+3->(Bq.2.2≠[]->j≠i2)->H2.get j=some o->G.get j=some o)->
  G.get (c+2)=some (.row [.slice (some ⟨H2.next+1,0,none⟩) (Bq.2.2.length+1) (Bq.2.2.length+1),.int .i64 0] true 0)->G.get (H2.next+1)=some (.row ((Bq.2.2++[(x.1,A.1,Bq.1)]).flatMap dj) true 3)->G.get (c+3)=some (.map aE ab)->
  yh c h0 B N H i s (k+1) n (.int .i64 (Bq.2.2.length+2:Nat)) G:=λG f1 f2 f3 f4 f5=>by
  have hs:=I2.sub;have aI:∀j o,j<c+6->j≠c+2->j≠c+3->H2.get j=some o->G.get j=some o:=λj o h1 h2 h3 h4=>f2 j o (by omega) h2 h3 (λh=>by have:=I2.il h;omega) h4;refine⟨H2.next+1, ?_, ?_,⟨?_,λj o h1 h2 h3 h4 h5=> ?_⟩,λ_=>.inr (by omega)⟩
  . rw[aA]
  . rw[aA];refine⟨⟨?_,λj o hj ho=>aI j o (by omega) (by omega) (by omega) (hs.get j o hj ho)⟩,by omega,aI _ _ (by omega) (by omega) (by omega) I2.bC,⟨_,f3,.inr ⟨by simp,by simp,f4,by omega,by omega⟩⟩,⟨aE,ab,f5,aB⟩,aI _ _ (by omega) (by omega) (by omega) I2.mN,aI _ _ (by omega) (by omega) (by omega) I2.vC, ?_, ?_, ?_, ?_⟩
    . have:=hs.next;omega
    . simp only[pQ ai,List.map_append,xS,List.map_nil];rw[List.nodup_append];refine⟨I2.nd,by simp,λa ha b hb=> ?_⟩;obtain⟨p,hp,rfl⟩:=List.mem_map.1 ha;simp only[PO]at hb;subst hb;exact HD ai p hp
    . simp only[pQ ai];intro p hp;rcases List.mem_append.1 hp with hp|hp
      . exact I2.ks p hp
      . simp only[PO]at hp;subst hp;simp only;omega
    . have:=I2.len;simp only[pQ ai,List.length_append,List.length_singleton];omega
    . simp only[mq];rw[if_neg (by omega),if_neg (by omega)];exact I2.base
  . omega
  . refine f2 j o (by omega) h2 h3 (λh=> ?_) (aN j o (by omega) h2 h3 (λh=> ?_) (aD j o (by simp only[aa.aX,aa.aR];omega) h2 h3 h4 ?_))
    . rcases dE h with⟨a1,a2⟩|a1
      . rcases av a1 with⟨b1,b2⟩|b1
        . have:=h4 b1;omega
        . omega
      . omega
    . rcases av h with⟨b1,b2⟩|b1
      . have:=h4 b1;omega
      . omega
    . rw[bl _ _ _ _ (by omega),bD _ _ _ (by omega)];exact h5
 rcases aF with⟨he,rfl⟩|⟨he,rfl,bm,bz,bA⟩
 . have e0:Bq.2.2.length=0:=by rw[he];rfl
   rw[e0]at ao ad fin;simp(disch:=first|omega|(simp only[aa.aX,aa.aR,bG];omega)) [go_sem,z0,o0,m2];rw[append_nil x8 (w9 (pO _ _) rfl) rfl (by decide) (by decide)];replace ao:nv E 233 (.int .i64 n) (.int .i64 2) aQ af=some (.map aE ab):=ao;replace ad:mo E 233 false (.int .i64 n) (some (.map aE ab))=some (.int .i64 2):=ad;simp(disch:=first|omega|(simp only[aa.aX,aa.aR,bG];omega)) [go_sem,aC,cU,dO,bD,bl,ho,m2,aU,ao,ad];refine fin _ (by simp only[aa.aX,aa.aR];omega) (λj o h1 h2 h3 h4 h5=> ?_) ?_ ?_ ?_
   all_goals simp(disch:=first|omega|(simp only[aa.aX,aa.aR,bG];omega)) only[bl,bD,db,dT]
   . exact h5
   . rw[he];rfl
 . simp(disch:=first|omega|(simp only[aa.aX,aa.aR,bG];omega)) [go_sem,z0,o0,m2];rw[Et x8 (w9 (pO _ _) rfl) rfl (by decide) (i:=i2) (cs:=Bq.2.2.flatMap dj) (by rw[bD _ _ _ (by omega)];exact bm) (Hu _) (by rfl) (by omega)];rw[show(Bq.2.2.length:Int)+2=Bq.2.2.length+1+1 by omega]at ao ad;simp(disch:=first|omega|(simp only[aa.aX,aa.aR,bG];omega)) [go_sem,aC,cU,dO,bD,bl,ho,m2,aU,ao,ad];simp only[show((Bq.2.2.length+2:Nat):Int)=Bq.2.2.length+1+1 by omega]at fin;refine fin _ (by simp only[aa.aX,aa.aR];omega) (λj o h1 h2 h3 h4 h5=> ?_) ?_ ?_ ?_
   . have:=h4 he;simp(disch:=first|omega|(simp only[aa.aX,aa.aR,bG];omega)) only[bl,bD];exact h5
   all_goals simp(disch:=first|omega|(simp only[aa.aX,aa.aR,bG];omega)) only[bl,bD,db,dT]
   simp[dj]
theorem BX(S:vA c h0 B N):∀(k n:Nat) (H:aa) (i:Nat) (s:Seen),1<=k->4<=bT N n+k->n<N.length+2->lY c h0 B N H i s->
 ∃v H',bK E 156 (.int .i64 n::tG c) H v H'/\yh c h0 B N H i s k n v H'
 |0,_,_,_,_,h,_,_,_=>absurd h (by omega)
 |k+1,n,H,i,s,_,hk,hn,I=>by
  cases ha:bc s.1 n with
  |some r=>
   have hv:fX (jt N) (k+1) n s=(r,s):=by simp only[fX,ha]
   refine⟨_,_,ZZ I ha,i, ?_, ?_,⟨Nat.le_refl _,λ_ _ _ _ _ _ h=>h⟩,λh=> ?_⟩
   . rw[hv]
   . rw[hv];exact I
   . rw[hv]at h;exact .inl ⟨h,rfl⟩
  |none=>
   have h2:2<=n:=by
    rcases Nat.lt_or_ge n 2 with h2|h2
    . have hb:=I.base
      match n,h2 with
      |0,_=>rw[hb.1]at ha;cases ha
      |1,_=>rw[hb.2]at ha;cases ha
    . exact h2
   obtain⟨⟨v,l,u⟩,hx⟩:∃x,N[n-2]? =some x:=⟨_,PX (by omega)⟩;obtain⟨_,h4,h5,_,h6,h7⟩:=S.js.ok _ _ hx;have h3:=S.v3 _ (Qc hx);rw[lh h2 hx]at hk;simp only at h3 h4 h5 h6 h7 hk;refine Z0 S I ha h2 hx λm H1 i1 s1 hm I1=> ?_;rcases hm with rfl|rfl
   . exact BX S k m H1 i1 s1 (by omega) (by omega) (by omega) I1
   . exact BX S k m H1 i1 s1 (by omega) (by omega) (by omega) I1
end
theorem HE{x:Br}{k:Nat}{u:Value}(hu:(dj x)[k]? =some u):∀(N:List Br) (j:Nat),N[j]? =some x->(N.flatMap dj)[j*3+k]? =some u
 |[],j,h=>by simp at h
 |y::r,0,h=>by
  simp only[List.getElem?_cons_zero,Option.some.injEq]at h;subst h;have hk:k<(dj y).length:=(List.getElem?_eq_some_iff.1 hu).1;rw[TF,Nat.zero_mul,Nat.zero_add,List.getElem?_append_left hk];exact hu
 |y::r,j+1,h=>by
  rw[TF,List.getElem?_append_right (by simp[dj];omega),show(j+1)*3+k-(dj y).length=j*3+k by simp[dj];omega];exact HE hu r j (by simpa using h)
theorem Z1{h:aa}{i l c:Nat}{N:List Br}(hg:h.get i=some (.row (N.flatMap dj) true 3))(hl:l=N.length)(hi:i<h.next):j7 3 h (.slice (some ⟨i,0,none⟩) l c) (N.map dj):=by
 refine .inr ⟨i,0,c,by rw[GP,hl],hi,λj x hx k u hu=> ?_⟩;rw[List.getElem?_map]at hx;cases hy:N[j]? with
 |none=>rw[hy]at hx;cases hx
 |some y=>
  rw[hy]at hx;cases hx;rw[cI hg,Nat.zero_add];exact HE hu N j hy
theorem gF.stat{h:aa}{B M i:Nat}{N:List Br}(hb:gF h B M i N)(ok:dX N)(v3:∀x∈N,x.1<3):vA h.next h B N:=by
 obtain⟨sl,h1,h2⟩:=hb.aV;refine⟨rfl,⟨sl,_,h1, ?_⟩,hb.lt.1,ok,v3⟩;rcases h2 with⟨rfl,rfl⟩|⟨h3,rfl,h4,h5,_⟩
 . exact .inl ⟨rfl,_,_,rfl⟩
 . exact Z1 h4 rfl h5
def kO(N:List Br)(n:Nat):Nat×Seen:=fX (jt N) 4 n ([(0,0),(1,1)],[])
def tH(n0:Nat)(h:aa)(v:Value)(cs:List Br):Prop:=(cs=[]/\v=.slice none 0 0)\/(cs≠[]/\∃b,v=.slice (some ⟨b,0,none⟩) cs.length cs.length/\h.get b=some (.row (cs.flatMap dj) true 3)/\n0<=b/\b<h.next)
theorem Z2{h:aa}{B:Nat}{N:List Br}(S:vA h.next h B N){n:Nat}(hn:n<N.length+2):
 ∃v H',bK E 122 [.pointer (some ⟨B,0,none⟩),.int .i64 n] h v H'/\(∃sl,v=.agg #[sl,.int .i64 (kO N n).1]/\tH h.next H' sl (kO N n).2.2)/\Sub h H':=by
 refine run Tryz.ntmps122 Tryz.results122 (K:=λv H'=>(∃sl,v=.agg #[sl,.int .i64 (kO N n).1]/\tH h.next H' sl (kO N n).2.2)/\Sub h H') ?_;obtain⟨bB,bn,aW,bo⟩:=uJ tx (vf:=gR) tE (es:=[]) (l:=[]) rfl 0 0 0;obtain⟨aQ,bp,aZ,bq⟩:=uJ tx (vf:=gR) tE bo 1 bn 1;simp only[gR,Int.natCast_zero,Int.natCast_one]at aW aZ;simp(disch:=first|omega|(simp only[aa.aX,aa.aR,bG];omega)) [go_sem,aC,cU,dO,fT,db,bD,bl,dT,aW,aZ];refine KC.of (BX S 4 n _ 0 ([(0,0),(1,1)],[]) (by omega) (by omega) hn ⟨?_, ?_, ?_,⟨.slice none 0 0, ?_,.inl ⟨rfl,rfl⟩⟩,⟨aQ,bp, ?_, ?_⟩, ?_, ?_,by simp, ?_,rfl,⟨rfl,rfl⟩⟩) ?_
 . repeat first|exact Sub.refl _|refine Sub.new ?_ _|refine Sub.set ?_ (by omega) _
 . simp only[aa.aX,aa.aR];omega
 . simp(disch:=first|omega|(simp only[aa.aX,aa.aR,bG];omega)) only[bl,bD,db,dT]
 . simp(disch:=first|omega|(simp only[aa.aX,aa.aR,bG];omega)) only[bl,bD,db,dT]
 . simp(disch:=first|omega|(simp only[aa.aX,aa.aR,bG];omega)) only[bl,bD,db,dT]
 . exact bq
 . simp(disch:=first|omega|(simp only[aa.aX,aa.aR,bG];omega)) only[bl,bD,db,dT]
 . simp(disch:=first|omega|(simp only[aa.aX,aa.aR,bG];omega)) only[bl,bD,db,dT,tF]
 . intro p hp;simp only[qe,VK,or_false]at hp;rcases hp with rfl|rfl<;>simp only<;>omega
 . rintro _ H1 ⟨i1,rfl,I1,⟨aT,aD⟩,av⟩;obtain⟨aw,ho,aF⟩:=I1.out;have bb:H1.get (h.next+1+1)=some (.row [aw,.int .i64 0] true 0):=ho;have h4:H1.get (h.next+1)=some (.row [.slice none 0 0,.int .i64 0] true 0):=aD _ _ (by simp only[aa.aX,aa.aR];omega) (by omega) (by omega) (λh=>absurd rfl h) (by simp(disch:=first|omega|(simp only[aa.aX,aa.aR,bG];omega)) only[bl,bD,db,dT]);have o0:rd H1 (h.next+1+1) 0=some aw:=cI (o:=0) bb;have bs:dw aw=true:=by rcases aF with⟨_,rfl⟩|⟨_,rfl,_⟩<;>rfl
   have bF:=I1.nx;have bt:=I1.sub;simp(disch:=first|omega|(simp only[aa.aX,aa.aR,bG];omega)) [go_sem,bb,h4,o0,dO,cU,bl,bs];refine⟨⟨aw,⟨rfl,rfl⟩, ?_⟩, ?_⟩
   . rcases aF with⟨e1,rfl⟩|⟨e1,rfl,h5,h6,h7⟩
     . exact .inl ⟨by rw[kO,e1],rfl⟩
     . refine .inr ⟨e1,i1,rfl, ?_,by omega,by simp only[aa.aR];omega⟩;rw[bl _ _ _ _ (by omega),bl _ _ _ _ (by omega)];exact h5
   . exact(bt.set (by omega) _).set (by omega) _
theorem Z3{h:aa}{B M i:Nat}{N:List Br}(hb:gF h B M i N)(ok:dX N)(v3:∀x∈N,x.1<3){n:Nat}(hn:n<N.length+2):
 ∃v H',bK E 122 [.pointer (some ⟨B,0,none⟩),.int .i64 n] h v H'/\(∃sl,v=.agg #[sl,.int .i64 (kO N n).1]/\tH h.next H' sl (kO N n).2.2)/\Sub h H':=Z2 (hb.stat ok v3) hn
end Go.Sp
end
noncomputable section
open Go Go.au Go.Proofs
namespace Go.Sp
theorem Z5(h:aa):∃v H',bK E 177 [] h v H'/\v=.pointer (some ⟨h.next+1,0,none⟩)/\H'=(h.new (.map [] 0)).new (.row [.slice none 0 0,.map (some h.next)] true 0):=by
 refine run Tryz.ntmps177 Tryz.results177 (K:=λv H'=>v=.pointer (some ⟨h.next+1,0,none⟩)/\H'=(h.new (.map [] 0)).new (.row [.slice none 0 0,.map (some h.next)] true 0)) ?_;simp(disch:=first|omega|(simp only[aa.aX,aa.aR,bG];omega)) [go_sem,aC,cU,dO,fT,bD,db,bl,dT]
theorem Z6{h:aa}{d0 d1 d2:nQ}(k0:d0.ok h)(k1:d1.ok h)(k2:d2.ok h)(r0:d0.r<d0.ns.length+2)(r1:d1.r<d1.ns.length+2)(r2:d2.r<d2.ns.length+2){fo:Nat}{cap:List Value}{op:Bool->Bool->Bool->Bool}
 (af:∀H,Sub h H->∀x y z,bK E fo ([.bool x,.bool y,.bool z]++cap) H (.bool (op x y z)) H):
 ∃v H',bK E 163 [.agg #[d0.sl,.int .i64 d0.r,d1.sl,.int .i64 d1.r,d2.sl,.int .i64 d2.r],.func (.func fo) #[] cap.toArray] h v H'/\
  (∃sl N n,v=.agg #[sl,.int .i64 (kO N n).1]/\tH h.next H' sl (kO N n).2.2/\dX N/\(∀x∈N,x.1<3)/\n<N.length+2/\∀ρ,tb N n ρ=op (tb d0.ns d0.r ρ) (tb d1.ns d1.r ρ) (tb d2.ns d2.r ρ))/\Sub h H':=by
 refine run Tryz.ntmps163 Tryz.results163 (K:=λv H'=>(∃sl N n,v=.agg #[sl,.int .i64 (kO N n).1]/\tH h.next H' sl (kO N n).2.2/\dX N/\(∀x∈N,x.1<3)/\n<N.length+2/\∀ρ,tb N n ρ=op (tb d0.ns d0.r ρ) (tb d1.ns d1.r ρ) (tb d2.ns d2.r ρ))/\Sub h H') ?_;simp(disch:=first|omega|(simp only[aa.aX,aa.aR,bG];omega)) [go_sem,aC,cU,dO,fT,bD,db,bl,dT];obtain⟨_,_,hb,rfl,rfl⟩:=Z5 (((h.new (.row [d0.sl,.int .i64 d0.r,d1.sl,.int .i64 d1.r,d2.sl,.int .i64 d2.r] true 0)).new (.row [.func (.func fo) #[] cap.toArray] true 0)).new (.row [.slice none 0 0,.int .i64 0] true 0));refine KC.mk hb ?_;simp(disch:=first|omega|(simp only[aa.aX,aa.aR,bG];omega)) [go_sem,aC,cU,dO,fT,bD,db,bl,dT];refine kI [⟨.read,0,some (0,2)⟩,dB 0,aU 0,aU 4,dB 12,aU 0,aU 32,dB 96,aU 0,aU 256,dB 768,aU 2044,fq 4094,fq 8191,fq 16383] (by kernel_rfl) 0 rfl ?_;simp(disch:=first|omega|(simp only[aa.aX,aa.aR,bG];omega)) [go_sem,dF,aC,cU,dO,fT,bD,db,bl,dT];have S:yc h.next h d0 d1 d2 fo cap op:=⟨rfl,k0,k1,k2,af⟩;refine KC.of (HC S (d0.r+d1.r+d2.r+1) d0.r d1.r d2.r _ h.next [] [] (by omega) r0 r1 r2 ⟨?_, ?_, ?_, ?_, ?_, ?_, ?_,⟨⟨.slice none 0 0, ?_,.inl ⟨rfl,rfl⟩⟩,⟨[],0, ?_,rfl⟩,by omega, ?_⟩,λh=>absurd rfl h, ?_,⟨[],0, ?_,rfl⟩, ?_,λx hx=>by simp at hx,λx y z r hr=>by simp[bc]at hr⟩) ?_
 . repeat first|exact Sub.refl _|refine Sub.new ?_ _|refine Sub.set ?_ (by omega) _
 . simp only[aa.aX,aa.aR];omega
 . simp(disch:=first|omega|(simp only[aa.aX,aa.aR,bG];omega)) only[bl,bD,db,dT]
 . simp(disch:=first|omega|(simp only[aa.aX,aa.aR,bG];omega)) only[bl,bD,db,dT]
 . simp(disch:=first|omega|(simp only[aa.aX,aa.aR,bG];omega)) only[bl,bD,db,dT]
 . simp(disch:=first|omega|(simp only[aa.aX,aa.aR,bG];omega)) only[bl,bD,db,dT]
 . simp(disch:=first|omega|(simp only[aa.aX,aa.aR,bG];omega)) only[bl,bD,db,dT];rfl
 . simp(disch:=first|omega|(simp only[aa.aX,aa.aR,bG];omega)) only[bl,bD,db,dT]
 . simp(disch:=first|omega|(simp only[aa.aX,aa.aR,bG];omega)) only[bl,bD,db,dT]
 . simp only[aa.aX,aa.aR];omega
 . simp only[aa.aX,aa.aR];omega
 . simp(disch:=first|omega|(simp only[aa.aX,aa.aR,bG];omega)) only[bl,bD,db,dT]
 . exact⟨λk x hx=>by simp at hx,by simp⟩
 . rintro _ H1 ⟨r,i1,N1,L1,rfl,I1,aA,ad,ai,⟨aB,ao⟩,aD⟩;have h4:H1.get (h.next+1+1)=some (.row [.slice none 0 0,.int .i64 0] true 0):=ao _ _ (by simp only[aa.aX,aa.aR];omega) (by omega) (by omega) (by omega) (by omega) (by simp(disch:=first|omega|(simp only[aa.aX,aa.aR,bG];omega)) only[bl,bD,db,dT]);have b5:rd H1 (h.next+5) 0=some (.pointer (some ⟨h.next+4,0,none⟩)):=cI (o:=0) I1.bC;simp(disch:=first|omega|(simp only[aa.aX,aa.aR,bG];omega)) [go_sem,dF,aC];refine KC.of (Z3 I1.vz I1.js I1.v3 ad) ?_;rintro _ H2 ⟨⟨sl,rfl,ae⟩,ab⟩;have aE:=I1.nx;have av:=ab.get _ _ (by omega) h4;have aw:dw sl=true:=by rcases ae with⟨_,rfl⟩|⟨_,b,rfl,_⟩<;>rfl
   have aF:=ab.next;simp(disch:=first|omega|(simp only[aa.aX,aa.aR,bG];omega)) [go_sem,av,aw];refine⟨⟨?_,b5⟩,⟨sl,N1,r,⟨rfl,rfl⟩, ?_,I1.js,λv l u hx=>I1.v3 _ hx,ad,ai⟩,(I1.sub.trans ab).set (by omega) _⟩
   . simp(disch:=first|omega|(simp only[aa.aX,aa.aR,bG];omega)) [dO,cU,fT,Ef];rfl
   . have az:=I1.sub.next;rcases ae with⟨q1,q2⟩|⟨q1,b,q2,q3,q4,q5⟩
     . exact .inl ⟨q1,q2⟩
     . refine .inr ⟨q1,b,q2, ?_,by omega,by simp only[aa.aR];omega⟩;rw[bl _ _ _ _ (by omega)];exact q3
def idx(ρ:cY):Nat:=(if ρ 0 then 1 else 0)+(if ρ 1 then 2 else 0)+(if ρ 2 then 4 else 0)
theorem BY(ρ:cY):idx ρ<8:=by unfold idx;cases ρ 0<;>cases ρ 1<;>cases ρ 2<;>simp
theorem Z7(ρ:cY):∀w,w<3->ρ w=bL (idx ρ) w:=λw hw=>by
 unfold idx;have:w=0\/w=1\/w=2:=by omega
 rcases this with rfl|rfl|rfl<;>cases ρ 0<;>cases ρ 1<;>cases ρ 2<;>rfl
def vB(c:Nat)(ρ:cY):Bool:=c.testBit (7-idx ρ)
theorem HF(f:cY->Bool)(k:Nat)(hk:k<8):(code f).testBit (7-k)=f (bL k):=by
 have h1:∀b:Bool,decide ((if b then 1 else 0:Nat)=1)=b:=by decide
 rw[tD,Nat.testBit_eq_decide_div_mod_eq,<-h1 (f (bL k)),decide_eq_decide];have:=dY (f (bL 0));have:=dY (f (bL 1));have:=dY (f (bL 2));have:=dY (f (bL 3));have:=dY (f (bL 4));have:=dY (f (bL 5));have:=dY (f (bL 6));have:=dY (f (bL 7));have:k=0\/k=1\/k=2\/k=3\/k=4\/k=5\/k=6\/k=7:=by omega
 rcases this with rfl|rfl|rfl|rfl|rfl|rfl|rfl|rfl<;>simp only[Nat.reducePow,Nat.reduceSub]<;>omega
def BZ(f:cY->Bool):Prop:=∀ρ ad:cY,(∀w,w<3->ρ w=ad w)->f ρ=f ad
theorem yi{f:cY->Bool}(hf:BZ f)(ρ:cY):vB (code f) ρ=f ρ:=by
 rw[vB,HF f _ (BY ρ)];exact hf _ _ λw hw=>(Z7 ρ w hw).symm
def iJ(c v:Nat)(b:Bool):Nat:=code λρ=>vB c (cM ρ v b)
theorem yj{f:cY->Bool}(hf:BZ f)(v:Nat)(b:Bool):iJ (code f) v b=code λρ=>f (cM ρ v b):=by
 unfold iJ;congr 1
 funext ρ
 exact yi hf _
def tI(c:Nat):Option Br:=
 if iJ c 0 false≠iJ c 0 true then some (0,iJ c 0 false,iJ c 0 true)
 else if iJ c 1 false≠iJ c 1 true then some (1,iJ c 1 false,iJ c 1 true)
 else if iJ c 2 false≠iJ c 2 true then some (2,iJ c 2 false,iJ c 2 true)
 else none
section
variable {N:List Br} (h:dX N) (v3:∀x∈N,x.1<3)
include h v3
theorem yk{n:Nat}(hn:n<N.length+2):BZ (tb N n):=λρ ad=>BU h v3 n ρ ad hn
theorem HG{n m:Nat}(hn:n<N.length+2)(hm:m<N.length+2)(he:code (tb N n)=code (tb N m)):n=m:=by
 refine BN h (N.length+2) n m (by omega) (by omega) hn hm λρ=> ?_;rw[<-yi (yk h v3 hn),<-yi (yk h v3 hm),he]
theorem Z8{n:Nat}(hn:n<N.length+2):tI (code (tb N n))=(jt N n).map λx=>(x.1,code (tb N x.2.1),code (tb N x.2.2)):=by
 have hd:=yk h v3 hn;have low:∀w,w<3->w<bT N n->iJ (code (tb N n)) w false=iJ (code (tb N n)) w true:=λw hw hl=>by
  rw[yj hd,yj hd];congr 1
  funext ρ
  rw[im h hn hl,im h hn hl]
 by_cases h2:n<2
 . have hl:bT N n=64:=nP h2;simp only[tI,jt,if_pos h2,low 0 (by omega) (by omega),low 1 (by omega) (by omega),low 2 (by omega) (by omega),ne_eq,not_true_eq_false,if_false,Option.map_none]
 . obtain⟨⟨v,l,u⟩,hx⟩:∃x,N[n-2]? =some x:=⟨_,PX (by omega)⟩;obtain⟨_,h4,h5,ae,h6,h7⟩:=h.ok _ _ hx;have hv:=v3 _ (Qc hx);simp only at h4 h5 ae h6 h7 hv;have hl:bT N n=v:=lh (by omega) hx;have hf:iJ (code (tb N n)) v false=code (tb N l):=by
    rw[yj hd];congr 1
    funext ρ
    rw[kr h (by omega) hx,show cM ρ v false v=false by simp[cM]];simp only[Bool.false_eq_true,if_false];exact im h (by omega) h6 ρ false
   have ht:iJ (code (tb N n)) v true=code (tb N u):=by
    rw[yj hd];congr 1
    funext ρ
    rw[kr h (by omega) hx,show cM ρ v true v=true by simp[cM]];simp only[if_true];exact im h (by omega) h7 ρ true
   have ab:code (tb N l)≠code (tb N u):=λe=>ae (HG h v3 (by omega) (by omega) e);have af:v=0\/v=1\/v=2:=by omega
   rcases af with rfl|rfl|rfl
   . simp only[tI,jt,if_neg h2,hx,DE,hf,ht,if_pos ab]
   . simp only[tI,jt,if_neg h2,hx,DE,hf,ht,if_pos ab,low 0 (by omega) (by omega),ne_eq,not_true_eq_false,if_false]
   . simp only[tI,jt,if_neg h2,hx,DE,hf,ht,if_pos ab,low 0 (by omega) (by omega),low 1 (by omega) (by omega),ne_eq,not_true_eq_false,if_false]
end
def mp(φ:Nat->Nat)(l:List (Nat×Nat)):List (Nat×Nat):=l.map λp=>(φ p.1,p.2)
theorem HH{φ:Nat->Nat}{D:Nat}(hi:∀n m,n<D->m<D->φ n=φ m->n=m):∀(l:List (Nat×Nat)) (n:Nat),n<D->(∀p∈l,p.1<D)->bc (mp φ l) (φ n)=bc l n
 |[],_,_,_=>rfl
 |(k,v)::r,n,hn,hl=>by
  have hk:=hl (k,v) (by simp);simp only[mp,xS,bc];by_cases e:n=k
  . subst e;simp
  . rw[if_neg e,if_neg λe'=>e (hi _ _ hn hk e')];exact HH hi r n hn λp hp=>hl p (Er _ hp)
theorem HI{φ:Nat->Nat}{D:Nat}(hi:∀n m,n<D->m<D->φ n=φ m->n=m)(v:Nat):∀(l:List (Nat×Nat)) (n:Nat),n<D->(∀p∈l,p.1<D)->put (mp φ l) (φ n) v=mp φ (put l n v)
 |[],_,_,_=>rfl
 |(k,w)::r,n,hn,hl=>by
  have hk:=hl (k,w) (by simp);simp only[mp,xS,put];by_cases e:n=k
  . subst e;simp
  . rw[if_neg e,if_neg λe'=>e (hi _ _ hn hk e')];simp only[xS];congr 1;exact HI hi v r n hn λp hp=>hl p (Er _ hp)
theorem HJ{D:Nat}{v:Nat}:∀(l:List (Nat×Nat)) (n:Nat),n<D->(∀p∈l,p.1<D)->∀p∈put l n v,p.1<D
 |[],n,hn,_,p,hp=>by
  simp only[put,PO]at hp;subst hp;exact hn
 |(k,w)::r,n,hn,hl,p,hp=>by
  simp only[put]at hp
  split at hp
  . rcases qe.1 hp with rfl|hp
    . exact hn
    . exact hl p (Er _ hp)
  . rcases qe.1 hp with rfl|hp
    . exact hl _ (by simp)
    . exact HJ r n hn (λp hp=>hl p (Er _ hp)) p hp
theorem B6{node aa:Nat->Option Br}{φ:Nat->Nat}{D:Nat}(hi:∀n m,n<D->m<D->φ n=φ m->n=m)(hs:∀n,n<D->aa (φ n)=(node n).map λx=>(x.1,φ x.2.1,φ x.2.2))(hd:∀n x,n<D->node n=some x->x.2.1<D/\x.2.2<D):
 ∀(k n:Nat) (s:Seen),n<D->(∀p∈s.1,p.1<D)->fX aa k (φ n) (mp φ s.1,s.2)=((fX node k n s).1,(mp φ (fX node k n s).2.1,(fX node k n s).2.2))/\∀p∈(fX node k n s).2.1,p.1<D
 |0,_,_,_,hl=>⟨rfl,hl⟩
 |k+1,n,(seen,out),hn,hl=>by
  simp only[fX];rw[HH hi seen n hn hl];cases bc seen n with
  |some m=>exact⟨rfl,hl⟩
  |none=>
   simp only;rw[hs n hn];cases hx:node n with
   |none=>exact⟨rfl,hl⟩
   |some x=>
    obtain⟨h1,h2⟩:=hd n x hn hx;obtain⟨a1,a2⟩:=B6 hi hs hd k x.2.1 (seen,out) h1 hl;obtain⟨b1,b2⟩:=B6 hi hs hd k x.2.2 (fX node k x.2.1 (seen,out)).2 h2 a2;simp only[DE];simp only at a1;rw[a1];simp only;rw[b1];simp only;exact⟨by rw[HI hi _ _ _ hn b2],HJ _ _ hn b2⟩
def ey(c:Nat):Nat×Seen:=fX tI 4 c ([(0,0),(255,1)],[])
theorem Z9{N:List Br}(h:dX N)(v3:∀x∈N,x.1<3){n:Nat}(hn:n<N.length+2):(kO N n).1=(ey (code (tb N n))).1/\(kO N n).2.2=(ey (code (tb N n))).2.2:=by
 obtain⟨h1,_⟩:=B6 (φ:=λn=>code (tb N n)) (λn m=>HG h v3) (λn=>Z8 h v3) (λn x hn hx=>by
  have:=yg h n x hx;omega) 4 n ([(0,0),(1,1)],[]) hn (λp hp=>by
  simp only[qe,VK,or_false]at hp;rcases hp with rfl|rfl<;>simp only<;>omega)
 have e0:code (tb N 0)=0:=by simp[tD,ZF]
 have e1:code (tb N 1)=255:=by simp[tD,ZG]
 simp only[mp,xS,List.map_nil,e0,e1]at h1;unfold ey kO;rw[h1];exact⟨rfl,rfl⟩
end Go.Sp
end
noncomputable section
open Go Go.au Go.Proofs
namespace Go.Sp
def B7(c:Nat):Bool:=
 let d:=ey c
 let N:=d.2.2
 decide (N.length<=20)&&decide (d.1<N.length+2)&&(N.zipIdx.all λp=>decide (p.1.1<3)&&decide (p.1.2.1<p.2+2)&&decide (p.1.2.2<p.2+2)&&decide (p.1.2.1≠p.1.2.2)&&decide (p.1.1<bT N p.1.2.1)&&decide (p.1.1<bT N p.1.2.2))&&
  decide N.Nodup&&(code (tb N d.1)).beq c
theorem aaa:(List.range 256).all B7=true:=by kernel_rfl
theorem aab{c:Nat}(hc:c<256):B7 c=true:=W2.1 aaa c (List.mem_range.2 hc)
structure aac(c:Nat)(N:List Br)(r:Nat):Prop where
 len:N.length<=20
 rl:r<N.length+2
 ok:dX N
 v3:∀x∈N,x.1<3
 set:∀ρ,tb N r ρ=vB c ρ
theorem B8{c:Nat}(hc:c<256):aac c (ey c).2.2 (ey c).1:=by
 have h:=aab hc;obtain⟨N,hN⟩:∃N,(ey c).2.2=N:=⟨_,rfl⟩;obtain⟨r,hr⟩:∃r,(ey c).1=r:=⟨_,rfl⟩;simp only[B7,hN,hr,W9,decide_eq_true_eq,W2]at h;obtain⟨⟨⟨⟨h1,h2⟩,h3⟩,h4⟩,h5⟩:=h;have aa:∀k x,N[k]? =some x->((((x.1<3/\x.2.1<k+2)/\x.2.2<k+2)/\x.2.1≠x.2.2)/\x.1<bT N x.2.1)/\x.1<bT N x.2.2:=λk x hx=>by
  have:=h3 (x,k) (List.mem_zipIdx_iff_getElem?.2 hx);simpa only[W9,decide_eq_true_eq]using this
 have ok:dX N:=⟨λk x hx=>by
  obtain⟨⟨⟨⟨⟨a1,a2⟩,a3⟩,a4⟩,a5⟩,a6⟩:=aa k x hx;exact⟨by omega,a2,a3,a4,a5,a6⟩,h4⟩
 have v3:∀x∈N,x.1<3:=λx hx=>by
  obtain⟨k,hk⟩:=List.getElem?_of_mem hx;exact(aa k x hk).1.1.1.1.1
 rw[hN,hr];refine⟨h1,h2,ok,v3,λρ=> ?_⟩;rw[<-yi (yk ok v3 h2) ρ,Nat.eq_of_beq_eq_true h5]
end Go.Sp
end

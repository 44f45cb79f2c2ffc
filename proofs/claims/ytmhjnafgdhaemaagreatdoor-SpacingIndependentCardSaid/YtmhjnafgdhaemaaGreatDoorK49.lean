/- SpacingIndependent: parts of its proof. -/
import Derived.Deep.Slices
import Derived.Lib.SmallJoins
import Derived.Test.YtmhjnafgdhaemaaGreatDoorK48
open List renaming singleton_inj->qe,mem_map->xS,all_eq_true->DE,range->Er,mem_append->Qc,map->TF,replicate->VK,not_mem_nil->W2,flatten_cons->W9,mem_range->Xw,getElem?_eq_some_iff->Zj,mem_cons->ZL,mem_cons_of_mem->abR,mem_of_getElem?->adr,getElem?_eq_getElem->adS,length_map->adT,map_append->adV,getElem?_append_left->adW,mem_cons_self->adX
open Nat renaming or_lt_two_pow->GP,two_pow_pos->PO,le_refl->PX,lt_of_lt_of_le->Zr,pow_le_pow_right->ZJ
open Int renaming le_refl->Z4
open Bool renaming and_eq_true->ab8
open List.Sublist renaming refl->adU
set_option linter.all false
set_option maxRecDepth 100000
noncomputable section
open Go Go.au Go.Proofs
namespace Go.Sp
def PV(p:List aL):Prop:=∀(i:Nat) x,p[i]? =some x->((x.kind=2\/x.kind=3)->(0<=x.a/\x.a<i)/\0<=x.b/\x.b<i)/\(x.kind=4->0<=x.a/\x.a<i)
theorem abN:∀m∈cW,PV m.p:=by
 have h:(cW.all λm=>(Er m.p.length).all λi=>match m.p[i]? with
  |some x=>(!(decide (x.kind=2)||decide (x.kind=3))||decide ((0<=x.a/\x.a<i)/\0<=x.b/\x.b<i))&&(!decide (x.kind=4)||decide (0<=x.a/\x.a<i))
  |none=>true)=true:=by kernel_rfl
 intro m hm i x hx;have h2:=DE.1 (DE.1 h m hm) i (by have:=(Zj.1 hx).1;simpa using this);rw[hx]at h2;simp only[ab8,Bool.or_eq_true,Bool.not_eq_true',decide_eq_true_eq,Bool.or_eq_false_iff,decide_eq_false_iff_not]at h2;refine⟨λh3=> ?_,λh3=> ?_⟩
 . rcases h2.1 with h4|h4
   . omega
   . exact h4
 . rcases h2.2 with h4|h4
   . exact absurd h3 h4
   . exact h4
theorem IQ{n l g:Nat}{F:List Nat}(hg:g<2^n)(hF:∀a∈F,a<2^n):∀a∈pg l g F,a<2^n:=by
 have:∀(b:List Nat) (F:List Nat),(∀a∈F,a<2^n)->∀a∈b.foldl (l7 g) F,a<2^n:=by
  intro b
  induction b with
  |nil=>exactλF h=>h
  |cons i b ih=>
   intro F h;refine ih _ λa ha=> ?_;unfold l7 at ha
   split at ha
   . rename_i x hx;rcases List.mem_or_eq_of_mem_set ha with h1|h1
     . exact h a h1
     . rw[h1];exact GP (h x (adr hx)) hg
   . exact h a ha
 exact this _ F hF
theorem IS{l g:Nat}{F:List Nat}:(pg l g F).length=F.length:=by
 have:∀(b:List Nat) (F:List Nat),(b.foldl (l7 g) F).length=F.length:=by
  intro b
  induction b with
  |nil=>exactλF=>rfl
  |cons i b ih=>
   intro F;rw[List.foldl_cons,ih];unfold l7
   split
   . rw[List.length_set]
   . rfl
 exact this _ F
structure CR(n:Nat)(r:(Nat×Nat×Bool)×List Nat):Prop where
 f:r.1.1<2^n
 l:r.1.2.1<2^n
 len:r.2.length=n
 F:∀a∈r.2,a<2^n
theorem tS(p:List aL):∀(n i:Nat) (F:List Nat),F.length=p.length->(∀a∈F,a<2^p.length)->CR p.length (bS p n i F)
 |0,i,F,h1,h2=>⟨PO _,PO _,h1,h2⟩
 |n+1,i,F,h1,h2=>by
  have ih:=tS p n;have z:CR p.length ((0,0,true),F):=⟨PO _,PO _,h1,h2⟩;unfold bS
  split
  . exact z
  . rename_i x hx;have hi:=(Zj.1 hx).1;have hp:2^i<2^p.length:=Nat.pow_lt_pow_right (by decide) hi;have r:=ih x.a.toNat F h1 h2;have s:=ih x.b.toNat _ r.len r.F;simp only
    split
    . exact⟨hp,hp,h1,h2⟩
    split
    . refine⟨?_, ?_,by rw[IS];exact s.len,IQ s.f s.F⟩
      . simp only;split
        . exact GP r.f s.f
        . exact r.f
      . simp only;split
        . exact GP s.l r.l
        . exact s.l
    split
    . exact⟨GP r.f s.f,GP r.l s.l,s.len,s.F⟩
    split
    . exact⟨r.f,r.l,by rw[IS];exact r.len,IQ r.f r.F⟩
    . exact z
structure CH(p:List aL)(h:ab)(P0 W L M R:Nat)(F:List Nat):Prop where
 p0:h.get P0=some (.row [.sl 5 (p.map aL.e)] true 0)
 w:h.get W=some (.row [.fn 117 [] [aM P0,aM W,aM L]] true 0)
 l:h.get L=some (.row [.fn 113 [] [.ptr [aM M] 0]] true 0)
 m:∃cs,h.get M=some (.row cs true 0)/\cs[17]? =some (.v (.slice (some ⟨R,0,none⟩) p.length p.length))
 r:h.get R=some (.row (gb F) true 0)
 lt:P0<h.next/\W<h.next/\L<h.next/\M<h.next/\R<h.next
 ne:P0≠R/\W≠R/\L≠R/\M≠R
theorem CH.up{p:List aL}{h h':ab}{P0 W L M R:Nat}{F F':List Nat}(c:CH p h P0 W L M R F)(hn:h.next<=h'.next)(hr:h'.get R=some (.row (gb F') true 0))(ho:∀j,j<h.next->j≠R->h'.get j=h.get j):CH p h' P0 W L M R F':=by
 obtain⟨l1,l2,l3,l4,l5⟩:=c.lt;obtain⟨n1,n2,n3,n4⟩:=c.ne;obtain⟨cs,m1,m2⟩:=c.m;exact⟨by rw[ho _ l1 n1,c.p0],by rw[ho _ l2 n2,c.w],by rw[ho _ l3 n3,c.l],⟨cs,by rw[ho _ l4 n4,m1],m2⟩,hr,by omega,c.ne⟩
set_option maxHeartbeats 8000000 in
theorem IT{p:List aL}(hv:PV p)(ao:p.length<=8):∀(n i:Nat) (F:List Nat) {K:ck} {dd:List FuncId} {h:ab} {P0 W L M R:Nat},i<n->i<p.length->F.length=p.length->(∀a∈F,a<2^p.length)->CH p h P0 W L M R F->
 (∀h' T,h.next<=h'.next->h'.get R=some (.row (gb (bS p n i F).2) true 0)->(∀j,j<h.next->j≠R->h'.get j=h.get j)->K (.bb [.agg (pl (bS p n i F).1.1),.agg (pl (bS p n i F).1.2.1),bV (bS p n i F).1.2.2]) dd h' T)->
 an E true K dd h (117,[iV (i:Nat),aM P0,aM W,aM L])
 |0,_,_,_,_,_,_,_,_,_,_,az,_,_,_,_,_=>by omega
 |n+1,i,F,K,dd,h,P0,W,L,M,R,az,aA,av,hF,c,hk=>by
  have ih:= @IT p hv ao n;obtain⟨l1,l2,l3,l4,l5⟩:=c.lt;obtain⟨n1,n2,n3,n4⟩:=c.ne;obtain⟨x,hx⟩:∃x,p[i]? =some x:=⟨_,adS aA⟩;obtain⟨v1,v2⟩:=hv i x hx;refine gD Tryz.ntmps117 Tryz.results117 ?_;obtain⟨N,hN⟩:∃N,h.next=N:=⟨_,rfl⟩;have f1:=c.p0;have f2:=c.w;have f3:=c.l;have f4:=c.r;rw[hN]at l1 l2 l3 l4 l5;simp(disch:=omega)[go_sem,hN,f1,hx,-getElem?_pos,aL.e];by_cases k1:x.kind=1
  . have e:bS p (n+1) i F=((2^i,2^i,false),F):=by simp only[bS,hx];rw[if_pos k1]
    rw[e]at hk;simp(disch:=omega)[go_sem,hN,k1];refine Iw (w:=0) (z:=0) (by decide) (by omega) (by simp(disch:=omega)[go_sem,hN,pl]) λT=> ?_;rw[Nat.zero_or];simp(disch:=omega)[go_sem,hN,eK,fZ,iL,gS];intro T2;refine hk _ T2 (by simp(disch:=omega)[go_sem];omega) (by simp(disch:=omega)[go_sem,hN,f4]) λj j1 j2=> ?_;simp(disch:=omega)[go_sem,hN]
  by_cases k2:x.kind=2
  . obtain⟨⟨a0,a1⟩,b0,b1⟩:=v1 (.inl k2);obtain⟨a,ha⟩:∃a:Nat,x.a=a:=⟨x.a.toNat,by omega⟩;obtain⟨b,hb⟩:∃b:Nat,x.b=b:=⟨x.b.toNat,by omega⟩;have e:bS p (n+1) i F=((if(bS p n a F).1.2.2 then(bS p n a F).1.1|||(bS p n b (bS p n a F).2).1.1 else(bS p n a F).1.1,if(bS p n b (bS p n a F).2).1.2.2 then(bS p n b (bS p n a F).2).1.2.1|||(bS p n a F).1.2.1 else(bS p n b (bS p n a F).2).1.2.1,(bS p n a F).1.2.2&&(bS p n b (bS p n a F).2).1.2.2),pg (bS p n a F).1.2.1 (bS p n b (bS p n a F).2).1.1 (bS p n b (bS p n a F).2).2):=by
     simp only[bS,hx];rw[if_neg k1,if_pos k2,ha,hb];rfl
    rw[e]at hk;have r:=tS p n a F av hF;have s:=tS p n b _ r.len r.F;obtain⟨ra,ai⟩:∃r,bS p n a F=r:=⟨_,rfl⟩;obtain⟨⟨fa,la,ea⟩,Fa⟩:=ra;rw[ai]at hk r s;obtain⟨rb,aw⟩:∃r,bS p n b Fa=r:=⟨_,rfl⟩;obtain⟨⟨fb,lb,eb⟩,Fb⟩:=rb;simp only at hk r s;rw[aw]at hk s;simp only at hk;obtain⟨r1,r2,r3,r4⟩:=r;obtain⟨s1,s2,s3,s4⟩:=s;simp only at r1 r2 r3 r4 s1 s2 s3 s4;have ad:∀x,x<2^p.length->x<256:=λx hx=>Zr hx (ZJ (n:=2) (by decide) ao);simp(disch:=omega)[go_sem,hN,k1,k2,f2,ha];refine ih a F (by omega) (by omega) av hF (c.up (h':=_) ?_ ?_ ?_) λh1 T q1 q2 q3=> ?_
    . simp(disch:=omega)[go_sem,hN];omega
    . simp(disch:=omega)[go_sem,hN,f4]
    . intro j j1 j2;simp(disch:=omega)[go_sem,hN]
    rw[ai]at q2⊢;simp(disch:=omega)[go_sem,hN]at q1 q2 q3;have c1:CH p h1 P0 W L M R Fa:=c.up (by omega) q2 λj j1 j2=>by rw[hN]at j1;rw[q3 j (by omega) j2];simp(disch:=omega)[go_sem,hN]
    obtain⟨N1,aa⟩:∃N1,h1.next=N1:=⟨_,rfl⟩;rw[aa]at q1;have f5:=c1.w;have f6:h1.get (N+1+1)=some (.row [iV 2,iV x.lo,iV x.hi,iV (a:Nat),iV (b:Nat)] true 0):=by rw[q3 _ (by omega) (by omega)];simp(disch:=omega)[go_sem,hN,k2,ha,hb]
    simp(disch:=omega)[go_sem,aa,f5,f6,eK,fZ,iL,gS];refine ih b Fa (by omega) (by omega) r3 r4 (c1.up (h':=_) ?_ ?_ ?_) λh2 T2 u1 u2 u3=> ?_
    . simp(disch:=omega)[go_sem,aa];omega
    . simp(disch:=omega)[go_sem,aa,q2]
    . intro j j1 j2;rw[aa]at j1;simp(disch:=omega)[go_sem,aa]
    rw[aw]at u2⊢;simp(disch:=omega)[go_sem,aa]at u1 u2 u3;have c2:CH p h2 P0 W L M R Fb:=c1.up (by omega) u2 λj j1 j2=>by rw[aa]at j1;rw[u3 j (by omega) j2];simp(disch:=omega)[go_sem,aa]
    obtain⟨N2,af⟩:∃N2,h2.next=N2:=⟨_,rfl⟩;rw[af]at u1;have f7:=c2.l;obtain⟨cs,m1,m2⟩:=c2.m;have g1:h2.get N1=some (.row (pl fa) true 0):=by rw[u3 _ (by omega) (by omega)];simp(disch:=omega)[go_sem,aa]
    have g2:h2.get (N1+1)=some (.row (pl la) true 0):=by rw[u3 _ (by omega) (by omega)];simp(disch:=omega)[go_sem,aa]
    simp(disch:=omega)[go_sem,af,f7,g2,eK,fZ,iL,gS];refine IP (z:=0) (F:=Fb) (cs:=cs) (M:=M) (R:=R) (n:=p.length) s3 ao (λa ha=>ad a (s4 a ha)) r2 (ad _ s1) ?_ m2 ?_ ?_ ?_ n4 λh3 T3 w1 w2 w3=> ?_
    . simp(disch:=omega)[go_sem,af,m1]
    . simp(disch:=omega)[go_sem,af,u2]
    . simp(disch:=omega)[go_sem,af];try omega
    . simp(disch:=omega)[go_sem,af];try omega
    simp(disch:=omega)[go_sem,af]at w1 w3;obtain⟨N3,aB⟩:∃N3,h3.next=N3:=⟨_,rfl⟩;rw[aB]at w1;have z0:h3.get N=some (.row (pl 0) true 0):=by rw[w3 _ (by omega) (by omega)];simp(disch:=omega)[go_sem,af];rw[u3 _ (by omega) (by omega)];simp(disch:=omega)[go_sem,aa];rw[q3 _ (by omega) (by omega)];simp(disch:=omega)[go_sem,hN,pl]
    have z1:h3.get (N+1)=some (.row (pl 0) true 0):=by rw[w3 _ (by omega) (by omega)];simp(disch:=omega)[go_sem,af];rw[u3 _ (by omega) (by omega)];simp(disch:=omega)[go_sem,aa];rw[q3 _ (by omega) (by omega)];simp(disch:=omega)[go_sem,hN,pl]
    have z2:h3.get N1=some (.row (pl fa) true 0):=by rw[w3 _ (by omega) (by omega)];simp(disch:=omega)[go_sem,af,g1]
    have z3:h3.get (N1+1)=some (.row (pl la) true 0):=by rw[w3 _ (by omega) (by omega)];simp(disch:=omega)[go_sem,af,g2]
    have z4:h3.get N2=some (.row (pl fb) true 0):=by rw[w3 _ (by omega) (by omega)];simp(disch:=omega)[go_sem,af]
    have z5:h3.get (N2+1)=some (.row (pl lb) true 0):=by rw[w3 _ (by omega) (by omega)];simp(disch:=omega)[go_sem,af]
    have z6:∀j,j<N->j≠R->h3.get j=h.get j:=λj j1 j2=>by rw[w3 _ (by omega) (by omega)];simp(disch:=omega)[go_sem,af];rw[u3 _ (by omega) (by omega)];simp(disch:=omega)[go_sem,aa];rw[q3 _ (by omega) (by omega)];simp(disch:=omega)[go_sem,hN]
    have fin:∀(H:ab) (T:List Nat) (fv lv:Nat),N<=H.next->H.get R=h3.get R->(∀j,j<N->j≠R->H.get j=h3.get j)->fv=(if ea=true then fa|||fb else fa)->lv=(if eb=true then lb|||la else lb)->K (.bb [.agg (pl fv),.agg (pl lv),bV (ea&&eb)]) dd H T:=λH T fv lv p1 p2 p3 p4 p5=>by
     rw[p4,p5];exact hk H T (by omega) (by rw[p2,w2]) λj j1 j2=>by rw[p3 j (by omega) j2,z6 j (by omega) j2]
    cases ea
    . cases eb
      . simp(disch:=omega)[go_sem,z0,z1,z2,z3,z4,z5,eK,fZ,iL,gS];intro T9;refine fin _ T9 _ _ (by simp(disch:=omega)[go_sem];omega) ?_ (λj j1 j2=> ?_) rfl rfl
        . simp(disch:=omega)[go_sem]
        . simp(disch:=omega)[go_sem]
      . simp(disch:=omega)[go_sem,z0,z1,z2,z3,z4,z5,eK,fZ,iL,gS];refine sb (z:=0) (a:=lb) (b:=la) (ad _ s2) (ad _ r2) z5 (by omega) λh5 T5 x1 x2 x3=> ?_;have z0:h5.get N=some (.row (pl 0) true 0):=by rw[x3 _ (by omega) (by omega),z0]
        have z1:h5.get (N+1)=some (.row (pl 0) true 0):=by rw[x3 _ (by omega) (by omega),z1]
        have z2:h5.get N1=_:=(x3 _ (by omega) (by omega)).trans z2;have z5:=x2;simp(disch:=omega)[go_sem,z0,z1,z2,z5,eK,fZ,iL,gS];intro T9;refine fin _ T9 _ _ (by simp(disch:=omega)[go_sem];omega) ?_ (λj j1 j2=> ?_) rfl rfl
        . simp(disch:=omega)[go_sem];rw[x3 _ (by omega) (by omega)]
        . simp(disch:=omega)[go_sem];rw[x3 _ (by omega) (by omega)]
    . cases eb
      . simp(disch:=omega)[go_sem,z0,z1,z2,z3,z4,z5,eK,fZ,iL,gS];refine sb (z:=0) (a:=fa) (b:=fb) (ad _ r1) (ad _ s1) z2 (by omega) λh4 T4 y1 y2 y3=> ?_;have z0:h4.get N=some (.row (pl 0) true 0):=by rw[y3 _ (by omega) (by omega),z0]
        have z1:h4.get (N+1)=some (.row (pl 0) true 0):=by rw[y3 _ (by omega) (by omega),z1]
        have z3:h4.get (N1+1)=some (.row (pl la) true 0):=by rw[y3 _ (by omega) (by omega),z3]
        have z5:h4.get (N2+1)=some (.row (pl lb) true 0):=by rw[y3 _ (by omega) (by omega),z5]
        have z2:=y2;simp(disch:=omega)[go_sem,z0,z1,z2,z3,z5,eK,fZ,iL,gS];intro T9;refine fin _ T9 _ _ (by simp(disch:=omega)[go_sem];omega) ?_ (λj j1 j2=> ?_) rfl rfl
        . simp(disch:=omega)[go_sem];rw[y3 _ (by omega) (by omega)]
        . simp(disch:=omega)[go_sem];rw[y3 _ (by omega) (by omega)]
      . simp(disch:=omega)[go_sem,z0,z1,z2,z3,z4,z5,eK,fZ,iL,gS];refine sb (z:=0) (a:=fa) (b:=fb) (ad _ r1) (ad _ s1) z2 (by omega) λh4 T4 y1 y2 y3=> ?_;have z0:h4.get N=some (.row (pl 0) true 0):=by rw[y3 _ (by omega) (by omega),z0]
        have z1:h4.get (N+1)=some (.row (pl 0) true 0):=by rw[y3 _ (by omega) (by omega),z1]
        have z3:h4.get (N1+1)=some (.row (pl la) true 0):=by rw[y3 _ (by omega) (by omega),z3]
        have z5:h4.get (N2+1)=some (.row (pl lb) true 0):=by rw[y3 _ (by omega) (by omega),z5]
        have z2:=y2;simp(disch:=omega)[go_sem,z0,z1,z2,z3,z5,eK,fZ,iL,gS];refine sb (z:=0) (a:=lb) (b:=la) (ad _ s2) (ad _ r2) z5 (by omega) λh5 T5 x1 x2 x3=> ?_;have z0:h5.get N=some (.row (pl 0) true 0):=by rw[x3 _ (by omega) (by omega),z0]
        have z1:h5.get (N+1)=some (.row (pl 0) true 0):=by rw[x3 _ (by omega) (by omega),z1]
        have z2:h5.get N1=_:=(x3 _ (by omega) (by omega)).trans z2;have z5:=x2;simp(disch:=omega)[go_sem,z0,z1,z2,z5,eK,fZ,iL,gS];intro T9;refine fin _ T9 _ _ (by simp(disch:=omega)[go_sem];omega) ?_ (λj j1 j2=> ?_) rfl rfl
        . simp(disch:=omega)[go_sem];rw[x3 _ (by omega) (by omega)];rw[y3 _ (by omega) (by omega)]
        . simp(disch:=omega)[go_sem];rw[x3 _ (by omega) (by omega)];rw[y3 _ (by omega) (by omega)]
  by_cases k3:x.kind=3
  . obtain⟨⟨a0,a1⟩,b0,b1⟩:=v1 (.inr k3);obtain⟨a,ha⟩:∃a:Nat,x.a=a:=⟨x.a.toNat,by omega⟩;obtain⟨b,hb⟩:∃b:Nat,x.b=b:=⟨x.b.toNat,by omega⟩;have e:bS p (n+1) i F=(((bS p n a F).1.1|||(bS p n b (bS p n a F).2).1.1,(bS p n a F).1.2.1|||(bS p n b (bS p n a F).2).1.2.1,(bS p n a F).1.2.2||(bS p n b (bS p n a F).2).1.2.2),(bS p n b (bS p n a F).2).2):=by
     simp only[bS,hx];rw[if_neg k1,if_neg k2,if_pos k3,ha,hb];rfl
    rw[e]at hk;have r:=tS p n a F av hF;have s:=tS p n b _ r.len r.F;obtain⟨ra,ai⟩:∃r,bS p n a F=r:=⟨_,rfl⟩;obtain⟨⟨fa,la,ea⟩,Fa⟩:=ra;rw[ai]at hk r s;obtain⟨rb,aw⟩:∃r,bS p n b Fa=r:=⟨_,rfl⟩;obtain⟨⟨fb,lb,eb⟩,Fb⟩:=rb;simp only at hk r s;rw[aw]at hk s;simp only at hk;obtain⟨r1,r2,r3,r4⟩:=r;obtain⟨s1,s2,s3,s4⟩:=s;simp only at r1 r2 r3 r4 s1 s2 s3 s4;have ad:∀x,x<2^p.length->x<256:=λx hx=>Zr hx (ZJ (n:=2) (by decide) ao);simp(disch:=omega)[go_sem,hN,k1,k2,k3,f2,ha];refine ih a F (by omega) (by omega) av hF (c.up (h':=_) ?_ ?_ ?_) λh1 T q1 q2 q3=> ?_
    . simp(disch:=omega)[go_sem,hN];omega
    . simp(disch:=omega)[go_sem,hN,f4]
    . intro j j1 j2;simp(disch:=omega)[go_sem,hN]
    rw[ai]at q2⊢;simp(disch:=omega)[go_sem,hN]at q1 q2 q3;have c1:CH p h1 P0 W L M R Fa:=c.up (by omega) q2 λj j1 j2=>by rw[hN]at j1;rw[q3 j (by omega) j2];simp(disch:=omega)[go_sem,hN]
    obtain⟨N1,aa⟩:∃N1,h1.next=N1:=⟨_,rfl⟩;rw[aa]at q1;have f5:=c1.w;have f6:h1.get (N+1+1)=some (.row [iV 3,iV x.lo,iV x.hi,iV (a:Nat),iV (b:Nat)] true 0):=by rw[q3 _ (by omega) (by omega)];simp(disch:=omega)[go_sem,hN,k3,ha,hb]
    simp(disch:=omega)[go_sem,aa,f5,f6,eK,fZ,iL,gS];refine ih b Fa (by omega) (by omega) r3 r4 (c1.up (h':=_) ?_ ?_ ?_) λh2 T2 u1 u2 u3=> ?_
    . simp(disch:=omega)[go_sem,aa];omega
    . simp(disch:=omega)[go_sem,aa,q2]
    . intro j j1 j2;rw[aa]at j1;simp(disch:=omega)[go_sem,aa]
    rw[aw]at u2⊢;simp(disch:=omega)[go_sem,aa]at u1 u2 u3;obtain⟨N2,af⟩:∃N2,h2.next=N2:=⟨_,rfl⟩;rw[af]at u1;have g1:h2.get N1=some (.row (pl fa) true 0):=by rw[u3 _ (by omega) (by omega)];simp(disch:=omega)[go_sem,aa]
    have g2:h2.get (N1+1)=some (.row (pl la) true 0):=by rw[u3 _ (by omega) (by omega)];simp(disch:=omega)[go_sem,aa]
    have z0:h2.get N=some (.row (pl 0) true 0):=by rw[u3 _ (by omega) (by omega)];simp(disch:=omega)[go_sem,aa];rw[q3 _ (by omega) (by omega)];simp(disch:=omega)[go_sem,hN,pl]
    have z1:h2.get (N+1)=some (.row (pl 0) true 0):=by rw[u3 _ (by omega) (by omega)];simp(disch:=omega)[go_sem,aa];rw[q3 _ (by omega) (by omega)];simp(disch:=omega)[go_sem,hN,pl]
    have z6:∀j,j<N->j≠R->h2.get j=h.get j:=λj j1 j2=>by rw[u3 _ (by omega) (by omega)];simp(disch:=omega)[go_sem,aa];rw[q3 _ (by omega) (by omega)];simp(disch:=omega)[go_sem,hN]
    simp(disch:=omega)[go_sem,af,g1,g2,eK,fZ,iL,gS];refine sb (z:=0) (a:=fa) (b:=fb) (ad _ r1) (ad _ s1) (by simp(disch:=omega)[go_sem,af,g1]) (by simp(disch:=omega)[go_sem,af];try omega) λh4 T4 y1 y2 y3=> ?_;simp(disch:=omega)[go_sem,af]at y1 y3;have w1:h4.get (N1+1)=some (.row (pl la) true 0):=by rw[y3 _ (by omega) (by omega)];simp(disch:=omega)[go_sem,af,g2]
    have w2:h4.get (N2+1)=some (.row (pl lb) true 0):=by rw[y3 _ (by omega) (by omega)];simp(disch:=omega)[go_sem,af]
    simp(disch:=omega)[go_sem,w1,w2,eK,fZ,iL,gS];refine sb (z:=0) (a:=la) (b:=lb) (ad _ r2) (ad _ s2) w1 (by omega) λh5 T5 x1 x2 x3=> ?_;have v0:h5.get N=some (.row (pl 0) true 0):=by rw[x3 _ (by omega) (by omega),y3 _ (by omega) (by omega)];simp(disch:=omega)[go_sem,af,z0]
    have v3:h5.get (N+1)=some (.row (pl 0) true 0):=by rw[x3 _ (by omega) (by omega),y3 _ (by omega) (by omega)];simp(disch:=omega)[go_sem,af,z1]
    have v4:h5.get N1=some (.row (pl (fa|||fb)) true 0):=by rw[x3 _ (by omega) (by omega),y2]
    cases ea
    all_goals
     simp(disch:=omega)[go_sem,v0,v3,v4,x2,eK,fZ,iL,gS];intro T9;refine hk _ T9 ?_ ?_ λj j1 j2=> ?_
     . simp(disch:=omega)[go_sem];omega
     . simp(disch:=omega)[go_sem];rw[x3 _ (by omega) (by omega),y3 _ (by omega) (by omega)];simp(disch:=omega)[go_sem,af,u2]
     . simp(disch:=omega)[go_sem];rw[x3 _ (by omega) (by omega),y3 _ (by omega) (by omega)];simp(disch:=omega)[go_sem,af,z6,j2]
  by_cases k4:x.kind=4
  . obtain⟨a0,a1⟩:=v2 k4;obtain⟨a,ha⟩:∃a:Nat,x.a=a:=⟨x.a.toNat,by omega⟩;have e:bS p (n+1) i F=(((bS p n a F).1.1,(bS p n a F).1.2.1,true),pg (bS p n a F).1.2.1 (bS p n a F).1.1 (bS p n a F).2):=by
     simp only[bS,hx];rw[if_neg k1,if_neg k2,if_neg k3,if_pos k4,ha];rfl
    rw[e]at hk;have r:=tS p n a F av hF;obtain⟨ra,ai⟩:∃r,bS p n a F=r:=⟨_,rfl⟩;obtain⟨⟨fa,la,ea⟩,Fa⟩:=ra;rw[ai]at hk r;simp only at hk r;obtain⟨r1,r2,r3,r4⟩:=r;simp only at r1 r2 r3 r4;have ad:∀x,x<2^p.length->x<256:=λx hx=>Zr hx (ZJ (n:=2) (by decide) ao);simp(disch:=omega)[go_sem,hN,k1,k2,k3,k4,f2,ha];refine ih a F (by omega) (by omega) av hF (c.up (h':=_) ?_ ?_ ?_) λh1 T q1 q2 q3=> ?_
    . simp(disch:=omega)[go_sem,hN];omega
    . simp(disch:=omega)[go_sem,hN,f4]
    . intro j j1 j2;simp(disch:=omega)[go_sem,hN]
    rw[ai]at q2⊢;simp(disch:=omega)[go_sem,hN]at q1 q2 q3;have c1:CH p h1 P0 W L M R Fa:=c.up (by omega) q2 λj j1 j2=>by rw[hN]at j1;rw[q3 j (by omega) j2];simp(disch:=omega)[go_sem,hN]
    obtain⟨N1,aa⟩:∃N1,h1.next=N1:=⟨_,rfl⟩;rw[aa]at q1;have f7:=c1.l;obtain⟨cs,m1,m2⟩:=c1.m;simp(disch:=omega)[go_sem,aa,f7,eK,fZ,iL,gS];refine IP (z:=0) (F:=Fa) (cs:=cs) (M:=M) (R:=R) (n:=p.length) r3 ao (λa ha=>ad a (r4 a ha)) r2 (ad _ r1) ?_ m2 ?_ ?_ ?_ n4 λh3 T3 w1 w2 w3=> ?_
    . simp(disch:=omega)[go_sem,aa,m1]
    . simp(disch:=omega)[go_sem,aa,q2]
    . simp(disch:=omega)[go_sem,aa];try omega
    . simp(disch:=omega)[go_sem,aa];try omega
    simp(disch:=omega)[go_sem,aa]at w1 w3;have z0:h3.get N=some (.row (pl 0) true 0):=by rw[w3 _ (by omega) (by omega)];simp(disch:=omega)[go_sem,aa];rw[q3 _ (by omega) (by omega)];simp(disch:=omega)[go_sem,hN,pl]
    have z1:h3.get (N+1)=some (.row (pl 0) true 0):=by rw[w3 _ (by omega) (by omega)];simp(disch:=omega)[go_sem,aa];rw[q3 _ (by omega) (by omega)];simp(disch:=omega)[go_sem,hN,pl]
    have z2:h3.get N1=some (.row (pl fa) true 0):=by rw[w3 _ (by omega) (by omega)];simp(disch:=omega)[go_sem,aa]
    have z3:h3.get (N1+1)=some (.row (pl la) true 0):=by rw[w3 _ (by omega) (by omega)];simp(disch:=omega)[go_sem,aa]
    have z6:∀j,j<N->j≠R->h3.get j=h.get j:=λj j1 j2=>by rw[w3 _ (by omega) (by omega)];simp(disch:=omega)[go_sem,aa];rw[q3 _ (by omega) (by omega)];simp(disch:=omega)[go_sem,hN]
    simp(disch:=omega)[go_sem];refine bR [aD 0,dc 0,aN 1,aN 7,ae 15] (by kernel_rfl) 0 rfl ?_;simp(disch:=omega)[go_sem,z0,z1,z2,z3,eK,fZ,iL,gS,mS];refine⟨by omega,by omega,λT9=>hk _ T9 ?_ ?_ λj j1 j2=> ?_⟩
    . simp(disch:=omega)[go_sem];omega
    . simp(disch:=omega)[go_sem,w2]
    . simp(disch:=omega)[go_sem,z6,j2]
  . have e:bS p (n+1) i F=((0,0,true),F):=by
     simp only[bS,hx];rw[if_neg k1,if_neg k2,if_neg k3,if_neg k4]
    rw[e]at hk;simp(disch:=omega)[go_sem,hN,k1,k2,k3,k4];refine bR [aD 0,dc 0,aN 1,aN 7,ae 15] (by kernel_rfl) 0 rfl ?_;simp(disch:=omega)[go_sem,hN,mS];intro T9;refine hk _ T9 ?_ ?_ λj j1 j2=> ?_
    . simp(disch:=omega)[go_sem];omega
    . simp(disch:=omega)[go_sem,f4]
    . simp(disch:=omega)[go_sem]
theorem abO(n:Nat)(h:n<=8):TF DV.v (eN [.int .u64 0,.int .u64 0,.int .u64 0,.int .u64 0,.int .u64 0,.int .u64 0,.int .u64 0,.int .u64 0] (n*8))=gb (VK n 0):=by
 have:n=0\/n=1\/n=2\/n=3\/n=4\/n=5\/n=6\/n=7\/n=8:=by omega
 rcases this with rfl|rfl|rfl|rfl|rfl|rfl|rfl|rfl|rfl<;>rfl
theorem abP(m:bP)(hm:m.Ok)(ew:0<m.p.length)(hv:PV m.p)(ad:bS m.p 9 (m.p.length-1) (VK m.p.length 0)=((m.first,m.last,m.empty),m.follow)):ay E true 65 [.sl 5 (m.p.map aL.e)] (.ptr m.e 0):=by
 refine vq Tryz.ntmps65 Tryz.results65 λN=> ?_;refine GO ?_;simp(disch:=omega)[go_sem];refine⟨_,ax.refl _,GO ?_⟩;simp(disch:=omega)[go_sem];refine bR [aD 0,aD 0,aD 2,cE 6,ae 15,cE 31,cE 0,aN 127] (by kernel_rfl) 3 rfl ?_;simp(disch:=omega)[go_sem];have hlen:=hm.len;refine IN (n:=m.p.length) abD abE Fc abF rfl (by decide) (by decide) (by simp(disch:=omega)[go_sem]) (by simp(disch:=omega)[go_sem]) (by omega) ?_;simp(disch:=omega)[go_sem];obtain⟨Z,hZ⟩:∃Z,TF DV.v (eN [.int .u64 0,.int .u64 0,.int .u64 0,.int .u64 0,.int .u64 0,.int .u64 0,.int .u64 0,.int .u64 0] (m.p.length*8))=Z:=⟨_,rfl⟩;obtain⟨M0,aa⟩:∃M0,[DV.sl 5 (TF aL.e m.p),.v (.int .u64 0),.v (.int .u64 0),.v (.int .u64 0),.v (.int .u64 0),.v (.int .u64 0),.v (.int .u64 0),.v (.int .u64 0),.v (.int .u64 0),.v (.int .u64 0),.v (.int .u64 0),.v (.int .u64 0),.v (.int .u64 0),.v (.int .u64 0),.v (.int .u64 0),.v (.int .u64 0),.v (.int .u64 0),.v (.slice (some ⟨N+1,0,none⟩) m.p.length m.p.length),.v (.bool false)]=M0:=⟨_,rfl⟩;have af:Z=gb (VK m.p.length 0):=by rw[<-hZ];exact abO _ hlen
 have ai:M0[17]? =some (.v (.slice (some ⟨N+1,0,none⟩) m.p.length m.p.length)):=by rw[<-aa];rfl
 rw[hZ,aa];refine⟨_,ax.H8 (N:=N+4) (l:=[(1,.v (.pointer (some ⟨N,0,none⟩)))]) (r:=[(N,.row [.sl 5 (m.p.map aL.e)] true 0),(N+1,.row Z true 0),(N+2,.row M0 true 0)]) [N+3] (i:=3) (v:=.v (.pointer (some ⟨N+3,0,none⟩))) (d:=.ptr [.v (.pointer (some ⟨N+2,0,none⟩))] 0) ?_ ?_ ?_ ?_ ?_ ?_ ?_,vt ?_⟩
 . simp(disch:=omega)[go_sem]
 . simp(disch:=omega)[go_sem]
 . simp(disch:=omega)[go_sem]
 . exact mK (ah:=0) (gr (wr:=true) (by simp) (by simp(disch:=omega)[go_sem]))
 . simp(disch:=omega)[go_sem]
 . simp(disch:=omega)[go_sem]
 . intro p hp;simp only[ZL,W2,or_false]at hp;rcases hp with rfl|rfl|rfl<;>simp
 . simp(disch:=omega)[go_sem];refine bR [dc 0,⟨.read,0,some (0,3),true⟩,⟨.read,0,some (0,4),true⟩,aD 0,aD 0,aD 16,ae 48,aN 120,ae 248,ae 504,ae 504,ae 504,ae 1017,ae 5113,aN 13305,ae 30715,ae 63483,aN 129019,ae 262143,ae 524287,aN 1048575] (by kernel_rfl) 0 rfl ?_;simp(disch:=omega)[go_sem,aC];rw[show((m.p.length:Int)-1)=((m.p.length-1:Nat):Int) by omega];have ab:=bP.yD m;refine IT hv hlen 9 (m.p.length-1) (VK m.p.length 0) (M:=N+2) (R:=N+1) (by omega) (by omega) (by simp) (λa ha=> ?_) ⟨?_, ?_, ?_,⟨M0, ?_,ai⟩, ?_, ?_,by omega,by omega,by omega,by omega⟩ λh' T q1 q2 q3=> ?_
   . rw[List.eq_of_mem_replicate ha];exact PO _
   . simp(disch:=omega)[go_sem]
   . simp(disch:=omega)[go_sem]
   . simp(disch:=omega)[go_sem]
   . simp(disch:=omega)[go_sem]
   . simp(disch:=omega)[go_sem,af]
   . simp(disch:=omega)[go_sem];try omega
   rw[ad]at q2⊢;simp only at q2⊢;simp(disch:=omega)[go_sem]at q1 q3;have e1:h'.get (N+2)=some (.row M0 true 0):=by rw[q3 _ (by omega) (by omega)];simp(disch:=omega)[go_sem]
   rw[<-aa]at e1;simp(disch:=omega)[go_sem,e1,eK,pl];rw[ab];refine yv (ah:=0) (cx (wr:=true) (by simp(disch:=omega)[go_sem];try rfl)) ?_;have ao:Fz (allRows h') (.v (.slice (some ⟨N+1,0,none⟩) m.p.length m.p.length)) (.sl 8 (m.follow.map pl)):=by
    refine dU (ah:=0) (cx (wr:=true) q2) (.inl rfl) (by decide) (by rw[adT,hm.yB]) (PX _) λx hx=> ?_;obtain⟨y,_,rfl⟩:=xS.1 hx;rfl
   simp(disch:=omega)[go_sem];refine dU (ah:=0) (cx (wr:=true) (cs:=gb m.follow) (by simp(disch:=omega)[go_sem,q2])) (.inl rfl) (by decide) (by rw[adT,hm.yB]) (PX _) λx hx=> ?_;obtain⟨y,_,rfl⟩:=xS.1 hx;rfl
theorem IU(m:bP)(hm:m∈cW):ay E true 65 [.sl 5 (m.p.map aL.e)] (.ptr m.e 0):=by
 have h:(cW.all λm=>Nat.blt 0 m.p.length)=true:=by kernel_rfl
 exact abP m (yC m hm) (Nat.le_of_ble_eq_true (DE.1 h m hm)) (abN m hm) (abM m hm)
theorem abQ(m:bP)(hm:m∈cW)(t:ByteArray)(ht:t.size<=1000000000):ay E true 70 [.sl 5 (m.p.map aL.e),sV t,iV 0] (.bb [iV (nS m t:Nat),bV (decide (0<nS m t))]):=abB m (yC m hm) (qq m hm) (IU m hm) t ht
theorem yE(m:bP)(hm:m∈cW)(t:ByteArray)(ht:t.size<=1000000000):ay E true 34 [.sl 5 (m.p.map aL.e),sV t] (bV (jS m t)):=abC m (yC m hm) (qq m hm) (IU m hm) t ht
structure eL where
 x:cB
 marks:Int
 config:Int
 leaves:List Int
def eL.e(r:eL):List DV:=r.x.e++[uV r.marks,uV r.config,.sl 1 (r.leaves.map λb=>[uV b])]
structure eL.Ok(r:eL):Prop where
 x:r.x.Ok
 marks:0<=r.marks/\r.marks<256
 config:0<=r.config/\r.config<256
 leaves:∀b∈r.leaves,0<=b/\b<256
def jT:List ByteArray:=[⟨#[43,43]⟩,⟨#[43,42]⟩,⟨#[105,102,43]⟩]
def qs(d:Dg):Tok:=⟨⟨#[108,111,110,103]⟩,0,⟨#[]⟩,ky,⟨#[120,43]⟩,d⟩
def qt:Tok:=⟨⟨#[110,111,116,101]⟩,2,⟨#[]⟩,nR,⟨#[]⟩,aP true⟩
def ph:Tok:=⟨⟨#[111,100,100]⟩,1,⟨#[]⟩,vP,⟨#[]⟩,aP true⟩
def bZ(m:Int)(k:Nat):Bool:=m.toNat.testBit k
def gT(m:Int)(k:Nat):List Tok:=(Er k).flatMap λi=>if bZ m i then [fV (jT[i]?.getD ⟨#[]⟩)]else []
def gd(m:Int)(n:Nat):List Tok:=gT m 3++(if bZ m 3 then [qs (cg bp m n)]else [])++(if bZ m 4 then [qt]else [])++(if bZ m 5&& !bZ m 6 then [ph]else [])
def cu(r:eL):ai:=
 let g:=cr bp r.x
 let g':={g with ar:=g.ar++gd r.marks g.conds.length}
 if bZ r.marks 5&&bZ r.marks 6 then jl g' 9 (aP false)else g'
def ll(d:Dg):List Tok:=ar++(jT.map fV++[qs d,qt,ph])
theorem abS(m:Int):gT m 3=(if bZ m 0 then [fV ⟨#[43,43]⟩]else [])++((if bZ m 1 then [fV ⟨#[43,42]⟩]else [])++((if bZ m 2 then [fV ⟨#[105,102,43]⟩]else [])++[])):=rfl
theorem tT{α:Type}(b:Bool)(x:α){l l':List α}(h:l.Sublist l'):((if b then [x]else [])++l).Sublist (x::l'):=by
 cases b with
 |true=>exact h.cons_cons x
 |false=>exact h.cons x
theorem tU(m:Int)(n:Nat):(gd m n).Sublist (jT.map fV++[qs (cg bp m n),qt,ph]):=by
 have e:gd m n=(if bZ m 0 then [fV ⟨#[43,43]⟩]else [])++((if bZ m 1 then [fV ⟨#[43,42]⟩]else [])++((if bZ m 2 then [fV ⟨#[105,102,43]⟩]else [])++((if bZ m 3 then [qs (cg bp m n)]else [])++((if bZ m 4 then [qt]else [])++((if bZ m 5&& !bZ m 6 then [ph]else [])++[]))))):=by
  simp[gd,abS,List.append_assoc]
 rw[e];exact tT _ _ (tT _ _ (tT _ _ (tT _ _ (tT _ _ (tT _ _ (adU []))))))
structure ln(t:Tok):Prop where
 cls:0<=t.cls/\t.cls<=2
 k:Hs t
theorem ln.strip{t t':Tok}(h:t.strip=t'.strip)(q:ln t'):ln t:=by
 obtain⟨a,b,c,d,e,f⟩:=t;obtain⟨a',b',c',d',e',f'⟩:=t';simp only[Tok.strip,Tok.mk.injEq]at h;obtain⟨rfl,rfl,rfl,rfl,rfl,_⟩:=h;exact⟨q.cls,q.k⟩
theorem abT:jS fY ⟨#[120]⟩=true:=by kernel_rfl
theorem abU:jS lj ⟨#[120,43]⟩=true:=by kernel_rfl
theorem vR(s:ByteArray)(h:s≠⟨#[]⟩):ln (fV s):=⟨⟨Z4 0,show(0:Int)<=2 by decide⟩,.inl ⟨h,rfl,rfl⟩⟩
theorem fM(i:Nat)(m:bP)(h:cW[i]? =some m):m∈cW:=adr h
theorem IV(d:Dg):∀t∈ll d,ln t:=by
 have hl:∀s∈lits++jT,s≠⟨#[]⟩:=by
  have h:((lits++jT).all λs=> !decide (s=⟨#[]⟩))=true:=by kernel_rfl
  intro s hs;simpa using DE.1 h s hs
 have av:ln ik:=⟨⟨by decide,by decide⟩,.inr ⟨rfl,qq _ (fM 0 fY rfl),.inl ⟨rfl,by decide,by have:=yE fY (fM 0 fY rfl) ⟨#[120]⟩ (by decide);rw[abT]at this;exact this⟩⟩⟩;have ad:ln (qs d):=⟨⟨Z4 0,show(0:Int)<=2 by decide⟩,.inr ⟨rfl,qq _ (fM 3 lj rfl),.inl ⟨rfl,show(⟨#[120,43]⟩:ByteArray)≠⟨#[]⟩ by decide,by have:=yE lj (fM 3 lj rfl) ⟨#[120,43]⟩ (by decide);rw[abU]at this;exact this⟩⟩⟩;have hs:ln tm:=⟨⟨by decide,by decide⟩,.inr ⟨rfl,qq _ (fM 1 vN rfl),.inr ⟨by decide,rfl⟩⟩⟩;have hr:ln xT:=⟨⟨by decide,by decide⟩,.inr ⟨rfl,qq _ (fM 2 vO rfl),.inr ⟨by decide,rfl⟩⟩⟩;have hn:ln qt:=⟨⟨by decide,by decide⟩,.inr ⟨rfl,qq _ (fM 4 tR rfl),.inr ⟨by decide,rfl⟩⟩⟩;have ho:ln ph:=⟨⟨by decide,by decide⟩,.inr ⟨rfl,qq _ (fM 5 vQ rfl),.inr ⟨by decide,rfl⟩⟩⟩;intro t ht;simp only[ll,ar,Qc,ZL,xS,W2,or_false]at ht;rcases ht with((rfl|⟨s,ae,rfl⟩)|rfl|rfl)|⟨s,ae,rfl⟩|rfl|rfl|rfl
 . exact av
 . exact vR s (hl s (Qc.2 (.inl ae)))
 . exact hs
 . exact hr
 . exact vR s (hl s (Qc.2 (.inr ae)))
 . exact ad
 . exact hn
 . exact ho
theorem abV(d:Dg):mJ ((ll d).map (·.name)):=by
 have h:decide (((ll (aP true)).map (·.name)).Nodup)=true:=by kernel_rfl
 have h2:(((ll (aP true)).map (·.name)).all λs=> !decide (s=⟨#[]⟩))=true:=by kernel_rfl
 have e:(ll d).map (·.name)=(ll (aP true)).map (·.name):=rfl;rw[e];exact⟨of_decide_eq_true h,λs hs=>by simpa using DE.1 h2 s hs⟩
theorem IW{l l':List Tok}(h:l.map Tok.strip=l'.map Tok.strip){t:Tok}(ht:t∈l):∃t'∈l',t.strip=t'.strip:=by
 have:t.strip∈l'.map Tok.strip:=by rw[<-h];exact List.mem_map_of_mem ht
 obtain⟨t',h1,h2⟩:=xS.1 this;exact⟨t',h1,h2.symm⟩
theorem abW{l l':List Tok}(h:l.map Tok.strip=l'.map Tok.strip):l.map (·.name)=l'.map (·.name):=by
 have:=congrArg (TF (·.name)) h;simpa[List.map_map,Function.comp_def,Tok.strip]using this
structure Cw(r:eL)(l:List Tok):Prop where
 strip:l.map Tok.strip=(ar++gd r.marks (cr bp r.x).conds.length).map Tok.strip
 cond:∀t∈l,kN (cr bp r.x).conds.length t.cond
theorem vS(r:eL)(hr:r.Ok):Cw r (cu r).ar:=by
 have hg:=tQ r.x hr.x;have af:=hg.room.conds;have h0:Cw r ((cr bp r.x).ar++gd r.marks (cr bp r.x).conds.length):=by
  refine⟨by rw[adV,adV,hg.tk],λt ht=> ?_⟩;rcases Qc.1 ht with ht|ht
  . exact hg.tc t ht
  . have:=(tU r.marks (cr bp r.x).conds.length).subset ht;simp only[Qc,ZL,xS,W2,or_false]at this;rcases this with⟨s,_,rfl⟩|rfl|rfl|rfl
    . exact tP _ af
    . exact Cm _ _ hr.marks.1 hr.marks.2 af
    . exact tP _ af
    . exact tP _ af
 unfold cu;simp only
 split
 . refine⟨by rw[<-h0.strip];exact Ie _ _ _,λt ht=> ?_⟩;rcases mem_modify ht with ht|ht
   . exact h0.cond t ht
   . rw[ht];have h:((Er 4).all λn=>tN n (aP false))=true:=by kernel_rfl
     exact vL (DE.1 h _ (by simp;omega))
 . exact h0
theorem abX(r:eL):Ext (cr bp r.x) (cu r):=by
 have h0:Ext (cr bp r.x) {cr bp r.x with ar:=(cr bp r.x).ar++gd r.marks (cr bp r.x).conds.length}:=
  ⟨rfl,rfl,λi t ht=>⟨t,by
   show((cr bp r.x).ar++gd r.marks (cr bp r.x).conds.length)[i]? =some t;rw[adW (Zj.1 ht).1];exact ht,rfl,rfl⟩,λi p hp=>hp⟩
 unfold cu;simp only
 split
 . have h1:=Ic {cr bp r.x with ar:=(cr bp r.x).ar++gd r.marks (cr bp r.x).conds.length} 9 (aP false);exact⟨h1.conds.trans h0.conds,h1.aH.trans h0.aH,λi t ht=>by
    obtain⟨t',a,b,c⟩:=h0.ar i t ht;obtain⟨t2,a2,b2,c2⟩:=h1.ar i t' a;exact⟨t2,a2,b2.trans b,c2.trans c⟩,λi p hp=>h1.ak i p (h0.ak i p hp)⟩
 . exact h0
theorem tV(r:eL):(cu r).conds=(cr bp r.x).conds/\(cu r).family=(cr bp r.x).family/\(cu r).aH=(cr bp r.x).aH/\(cu r).ak=(cr bp r.x).ak/\(cu r).start=(cr bp r.x).start/\(cu r).ba=(cr bp r.x).ba/\(cu r).bj=(cr bp r.x).bj:=by
 unfold cu;simp only
 split<;>exact⟨rfl,rfl,rfl,rfl,rfl,rfl,rfl⟩
theorem IX{g:ai}{r:eL}(h:Cw r g.ar)(hc:g.conds=(cr bp r.x).conds):BK g:=by
 have ab:(ar++gd r.marks (cr bp r.x).conds.length).Sublist (ll (cg bp r.marks (cr bp r.x).conds.length)):=List.Sublist.append (adU _) (tU _ _);have hn:=abV (cg bp r.marks (cr bp r.x).conds.length);have hs:=ab.map (·.name);have hlen:=ab.length_le;have aw:(ll (cg bp r.marks (cr bp r.x).conds.length)).length=17:=rfl;have az:g.ar.length=(ar++gd r.marks (cr bp r.x).conds.length).length:=by have:=congrArg List.length h.strip;simpa using this
 refine⟨?_,by omega,λt ht=> ?_⟩
 . rw[abW h.strip];exact⟨hn.1.sublist hs,λs ae=>hn.2 s (hs.subset ae)⟩
 . obtain⟨t',h1,h2⟩:=IW h.strip ht;have q:=(IV _ t' (ab.subset h1)).strip h2;exact⟨q.cls.1,q.cls.2,by rw[hc];exact h.cond t ht,q.k⟩
theorem Cx(r:eL)(hr:r.Ok):GV (cu r):=by
 have hg:=tQ r.x hr.x;have he:=abX r;have ht:=IX (vS r hr) (tV r).1;obtain⟨e1,e2,e3,e4,e5,e6,e7⟩:=tV r;have aa:=hg.room;have hp:=hg.mQ;refine⟨⟨by rw[e1];have:=aa.conds;omega,ht.len,by rw[e7];have:=aa.bj;omega,by rw[e3];have:=aa.aH;omega,by rw[e4];omega,by rw[e6];have:=aa.ba;omega,λp hp=> ?_⟩,
  ⟨by rw[e1];exact hg.cL.new,by rw[e1];exact hg.cL.id,by rw[e1];exact hg.cL.len,by rw[e1,e2];exact hg.cL.cL⟩,ht,⟨by rw[e3];exact hg.aH.1,by rw[e5,hg.aH.2];exact Z4 0,by rw[e3,e5,hg.aH.2];have:=aa.aH;omega⟩,
  ⟨by rw[e4];exact hg.new,by rw[e4];omega,λp hp=>(hg.ok p (by rw[<-e4];exact hp)).ext he⟩,
  ⟨by rw[e6];exact hg.nd,by rw[e6];have:=aa.ba;omega,λl hl=>by rw[e6]at hl;have:=aa.lT l hl;omega,λl hl=>(hg.pd l (by rw[<-e6];exact hl)).ext he⟩,
  ⟨by rw[e7];have:=aa.bj;omega,λf hf=>by rw[e7]at hf;rw[e1];exact⟨(hg.ku f hf).1,(hg.ku f hf).2.ext he⟩⟩⟩
 rw[e4]at hp;have:=(hg.ok p hp).aj;exact⟨this.len,this.qk⟩
theorem abY(r:eL)(hr:r.Ok):ay E false 32 [.agg (cu r).e] (iV 0):=by
 obtain⟨NU,hE⟩:=abm r.x hr.x;obtain⟨e1,e2,e3,e4,e5,e6,e7⟩:=tV r;refine Ib (cu r) (Cx r hr) NU (λdg p hp=> ?_) (λdg p hp=> ?_)
 . exact hE.It p (by rw[<-e4];exact hp)
 . intro k s hk hs ao;have:=hE.Iu p (by rw[<-e4];exact hp) k s hk hs ao;exact⟨this.1,by show s.idx<(cu r).aH.length;rw[e3];exact this.2⟩
end Go.Sp
end
noncomputable section
open Go Go.au Go.Proofs Go.ChangeShapes Go.WideShapes Go.ChangeAt Go.RowKit Go.Joins
namespace Go.Sp
theorem kz:Tryz.prog.cellsOf 5=1:=by kernel_rfl
theorem Cy:Tryz.prog.cellsOf 22=1:=by kernel_rfl
theorem abZ:Tryz.prog.cellsOf 23=1:=by kernel_rfl
theorem ab0:Tryz.prog.cellsOf 24=1:=by kernel_rfl
theorem ab1:Tryz.prog.cellsOf 26=5:=by kernel_rfl
theorem ab2:Tryz.prog.cellsOf 28=8:=by kernel_rfl
theorem ab3:Tryz.prog.cellsOf 90=4:=by kernel_rfl
theorem ab4:Tryz.prog.cellsOf 93=5:=by kernel_rfl
theorem IY{α:Type}{k:Nat}:∀{xs:List (List α)} (j i:Nat) (x:List α),(∀x∈xs,x.length=k)->xs[j]? =some x->i<k->xs.flatten[j*k+i]? =x[i]?
 |[],j,i,x,_,h,_=>by simp at h
 |y::xs,0,i,x,hl,h,hi=>by
  simp only[List.getElem?_cons_zero,Option.some.injEq]at h;subst h;have hy:y.length=k:=hl y (by simp);rw[W9,adW (by omega)];simp
 |y::xs,j+1,i,x,hl,h,hi=>by
  have hy:y.length=k:=hl y (by simp);rw[W9,List.getElem?_append_right (by rw[hy,Nat.add_mul];omega),hy];have:=IY j i x (λz hz=>hl z (abR _ hz)) (by simpa using h) hi;rw[<-this];congr 1;rw[Nat.add_mul];omega
theorem ab5{z:Int}(h:(Lit.int .u8 z).wf=true):0<=z/\z<256:=by
 simp only[Lit.wf,ab8,decide_eq_true_eq]at h;have h1:IntKind.u8.min=0:=rfl;have h2:IntKind.u8.max=255:=rfl;omega
section
variable {H:Type} {enc:TypeId×Value->H}
theorem lp{W:World}{n:Nat}{cs:List Value}{y:DataW H×List MemPlace}(h:DataW.trod enc Tryz.prog W 0 (λ_=>true) true n 5 cs=some y):∃z,cs=[.int .u8 z]/\0<=z/\z<256:=by
 obtain⟨z,e,_,hw⟩:=DataW.trod_int Tryz.underlying5 h;exact⟨z,e,ab5 hw⟩
theorem Cz{W:World}{t el:TypeId}{k:Nat}{α:Type}[Inhabited α](Q:α->Prop)(f:α->List DV)(hu:Tryz.prog.underlying t=some (.slice el))(hk:Tryz.prog.cellsOf el=k)(ae:0<k)(hf:∀x,(f x).length=k)
 (av:∀n cs y,cs.length=k->DataW.trod enc Tryz.prog W 0 (λ_=>true) true n el cs=some y->∃x,Q x/\gw W cs (f x)) {n:Nat} {cs:List Value} {y:DataW H×List MemPlace} (h:DataW.trod enc Tryz.prog W 0 (λ_=>true) true n t cs=some y):∃(v:Value) (xs:List α),cs=[v]/\(∀x∈xs,Q x)/\Rd W v (.sl k (xs.map f)):=by
 rcases Deep.open_slice hu h with⟨rfl,_⟩|⟨a,len,cap,m,n',D,Pl,rfl,_,hl,_,hm,_,ai⟩
 . exact⟨_,[],rfl,λx hx=>absurd hx W2,Rd.W5 W ae 0⟩
 . obtain rfl:m=cap:=by simpa using hm
   rw[hk]at ai;have each:∀i,i<m->∃q:List Value×α,q.1.length=k/\(∀j,j<k->W.cell? ((a.add (i*k)).add j)=q.1[j]?)/\Q q.2/\gw W q.1 (f q.2):=λi hi=>by
    obtain⟨cs',hc,ht⟩:=ai i hi;obtain⟨_,h5,af⟩:=World.cells?_some hc;obtain⟨x,h6,h7⟩:=av n' cs' _ h5 ht;exact⟨(cs',x),h5,af,h6,h7⟩
   obtain⟨g,hg⟩:=Deep.choose_lt each;refine⟨_,((Er m).map λi=>(g i).2).take len,rfl,λx hx=> ?_, ?_⟩
   . obtain⟨i,hi,rfl⟩:=xS.1 (List.mem_of_mem_take hx);exact(hg i (Xw.1 hi)).2.2.1
   . rw[List.map_take];have hL:∀l:List Nat,(∀i∈l,i<m)->gw W (l.map λi=>(g i).1).flatten ((l.map λi=>(g i).2).map f).flatten:=λl=>by
      induction l with
      |nil=>exactλ_=>gw.nil W
      |cons i l ih=>
       intro hm;simp only[List.map_cons,W9];exact(hg i (hm i (adX ..))).2.2.2.append (ih λj hj=>hm j (abR _ hj))
     refine Rd.sl ae hl (cells:=((Er m).map λi=>(g i).1).flatten) ?_ (λj hj=> ?_) (by simp) (λx hx=> ?_) (hL _ λi hi=>Xw.1 hi)
     . have:∀l:List Nat,(∀i∈l,i<m)->((l.map λi=>(g i).1).flatten).length=l.length*k:=λl=>by
        induction l with
        |nil=>intro _;simp
        |cons i l ih=>
         intro hm;simp only[List.map_cons,W9,List.length_append,List.length_cons];rw[ih λj hj=>hm j (abR _ hj),(hg i (hm i (adX ..))).1,Nat.succ_mul];omega
       rw[this _ λi hi=>Xw.1 hi,List.length_range]
     . obtain⟨i,r,hr,ao⟩:∃i r,j=i*k+r/\r<k:=⟨j/k,j%k,by rw[Nat.mul_comm];exact(Nat.div_add_mod j k).symm,Nat.mod_lt _ ae⟩;subst hr;have hi:i<m:=by
        rcases Nat.lt_or_ge i m with h|h
        . exact h
        . have:=Nat.mul_le_mul_right k h;omega
       obtain⟨q1,q2,_,_⟩:=hg i hi;rw[IY i r (g i).1 (λx hx=>by obtain⟨z,hz,rfl⟩:=xS.1 hx;exact(hg z (Xw.1 hz)).1) (by simp[hi]) ao,<-q2 r ao,Addr.add_add]
     . obtain⟨z,_,rfl⟩:=xS.1 hx;exact hf z
theorem CA{W:World}{n:Nat}{cs:List Value}{y:DataW H×List MemPlace}(h:DataW.trod enc Tryz.prog W 0 (λ_=>true) true n 22 cs=some y):∃(v:Value) (bs:List Int),cs=[v]/\(∀b∈bs,0<=b/\b<256)/\Rd W v (.sl 1 (bs.map λb=>[uV b])):=
 Cz (λb=>0<=b/\b<256) (λb=>[uV b]) Tryz.underlying22 kz Nat.one_pos (λ_=>rfl) (λn cs y _ h=>by
  obtain⟨z,rfl,hz⟩:=lp h;exact⟨z,hz,.cons (Rd.int W _ _) (.nil W)⟩) h
instance:Inhabited Ln:=⟨⟨0,[],0,0⟩⟩
instance:Inhabited Rl:=⟨⟨0,0,0,0,0⟩⟩
theorem iM{W:World}{n:Nat}{fs:Array Field}{cs:List Value}{xs:List (DataW H×List MemPlace)}(hl:xs.length=fs.size)(hf:∀(i:Nat) (f:Field),fs[i]? =some f->DataW.trod enc Tryz.prog W 0 (λ_=>true) true n f.type ((cs.drop f.offset).take (Tryz.prog.cellsOf f.type))=xs[i]?)(i:Nat)(f:Field)(hi:fs[i]? =some f)(t o:Nat){k:Nat}(ht:f.type=t)(ho:f.offset=o)(hk:Tryz.prog.cellsOf t=k):∃y,DataW.trod enc Tryz.prog W 0 (λ_=>true) true n t ((cs.drop o).take k)=some y:=by
 subst ht;subst ho;subst hk;have h:=hf i f hi;have aB:=(Array.getElem?_eq_some_iff.1 hi).1;rw[adS (by omega)]at h;exact⟨_,h⟩
theorem ab6{W:World}{n:Nat}{cs:List Value}{y:DataW H×List MemPlace}(hl:cs.length=4)(h:DataW.trod enc Tryz.prog W 0 (λ_=>true) true n 90 cs=some y):∃x:Ln,x.Ok/\gw W cs x.e:=by
 obtain⟨xs,n',_,_,_,aa,hf⟩:=DataW.trod_struct Tryz.underlying90 h;obtain⟨c0,c1,c2,c3,rfl⟩:∃c0 c1 c2 c3,cs=[c0,c1,c2,c3]:=by
  match cs,hl with
  |[c0,c1,c2,c3],_=>exact⟨_,_,_,_,rfl⟩
 obtain⟨y0,h0⟩:=iM aa hf 0 _ rfl 5 0 rfl rfl kz;obtain⟨y1,h1⟩:=iM aa hf 1 _ rfl 22 1 rfl rfl Cy;obtain⟨y2,h2⟩:=iM aa hf 2 _ rfl 5 2 rfl rfl kz;obtain⟨y3,h3⟩:=iM aa hf 3 _ rfl 5 3 rfl rfl kz;obtain⟨z0,e0,q0⟩:=lp h0;obtain⟨v1,bs,e1,q1,r1⟩:=CA h1;obtain⟨z2,e2,q2⟩:=lp h2;obtain⟨z3,e3,q3⟩:=lp h3;obtain rfl:=qe.1 (show [c0]=_ from e0);obtain rfl:=qe.1 (show [c1]=_ from e1);obtain rfl:=qe.1 (show [c2]=_ from e2);obtain rfl:=qe.1 (show [c3]=_ from e3);exact⟨⟨z0,bs,z2,z3⟩,⟨q0,q1,q2,q3⟩,.cons (Rd.int W _ _) (.cons r1 (.cons (Rd.int W _ _) (.cons (Rd.int W _ _) (.nil W))))⟩
theorem ab7{W:World}{n:Nat}{cs:List Value}{y:DataW H×List MemPlace}(hl:cs.length=5)(h:DataW.trod enc Tryz.prog W 0 (λ_=>true) true n 93 cs=some y):∃x:Rl,x.Ok/\gw W cs x.e:=by
 obtain⟨xs,n',_,_,_,aa,hf⟩:=DataW.trod_struct Tryz.underlying93 h;obtain⟨c0,c1,c2,c3,c4,rfl⟩:∃c0 c1 c2 c3 c4,cs=[c0,c1,c2,c3,c4]:=by
  match cs,hl with
  |[c0,c1,c2,c3,c4],_=>exact⟨_,_,_,_,_,rfl⟩
 obtain⟨y0,h0⟩:=iM aa hf 0 _ rfl 5 0 rfl rfl kz;obtain⟨y1,h1⟩:=iM aa hf 1 _ rfl 5 1 rfl rfl kz;obtain⟨y2,h2⟩:=iM aa hf 2 _ rfl 5 2 rfl rfl kz;obtain⟨y3,h3⟩:=iM aa hf 3 _ rfl 5 3 rfl rfl kz;obtain⟨y4,h4⟩:=iM aa hf 4 _ rfl 5 4 rfl rfl kz;obtain⟨z0,e0,q0⟩:=lp h0;obtain⟨z1,e1,q1⟩:=lp h1;obtain⟨z2,e2,q2⟩:=lp h2;obtain⟨z3,e3,q3⟩:=lp h3;obtain⟨z4,e4,q4⟩:=lp h4;obtain rfl:=qe.1 (show [c0]=_ from e0);obtain rfl:=qe.1 (show [c1]=_ from e1);obtain rfl:=qe.1 (show [c2]=_ from e2);obtain rfl:=qe.1 (show [c3]=_ from e3);obtain rfl:=qe.1 (show [c4]=_ from e4);exact⟨⟨z0,z1,z2,z3,z4⟩,⟨q0,q1,q2,q3,q4⟩,.cons (Rd.int W _ _) (.cons (Rd.int W _ _) (.cons (Rd.int W _ _) (.cons (Rd.int W _ _) (.cons (Rd.int W _ _) (.nil W)))))⟩
theorem ab9{W:World}{n:Nat}{cs:List Value}{y:DataW H×List MemPlace}(hl:cs.length=8)(h:DataW.trod enc Tryz.prog W 0 (λ_=>true) true n 28 cs=some y):∃x:eL,x.Ok/\gw W cs x.e:=by
 obtain⟨xs,n',_,_,_,aa,hf⟩:=DataW.trod_struct Tryz.underlying28 h;obtain⟨c0,c1,c2,c3,c4,c5,c6,c7,rfl⟩:∃c0 c1 c2 c3 c4 c5 c6 c7,cs=[c0,c1,c2,c3,c4,c5,c6,c7]:=by
  match cs,hl with
  |[c0,c1,c2,c3,c4,c5,c6,c7],_=>exact⟨_,_,_,_,_,_,_,_,rfl⟩
 obtain⟨y0,h0⟩:=iM aa hf 0 _ rfl 26 0 rfl rfl ab1;obtain⟨y1,h1⟩:=iM aa hf 1 _ rfl 5 5 rfl rfl kz;obtain⟨y2,h2⟩:=iM aa hf 2 _ rfl 5 6 rfl rfl kz;obtain⟨y3,h3⟩:=iM aa hf 3 _ rfl 22 7 rfl rfl Cy;obtain⟨zs,n2,_,_,_,ab,ad⟩:=DataW.trod_struct Tryz.underlying26 h0;obtain⟨w0,g0⟩:=iM ab ad 0 _ rfl 5 0 rfl rfl kz;obtain⟨w1,g1⟩:=iM ab ad 1 _ rfl 5 1 rfl rfl kz;obtain⟨w2,g2⟩:=iM ab ad 2 _ rfl 22 2 rfl rfl Cy;obtain⟨w3,g3⟩:=iM ab ad 3 _ rfl 23 3 rfl rfl abZ;obtain⟨w4,g4⟩:=iM ab ad 4 _ rfl 24 4 rfl rfl ab0;obtain⟨z0,e0,q0⟩:=lp g0;obtain⟨z1,e1,q1⟩:=lp g1;obtain⟨v2,cL,e2,q2,r2⟩:=CA g2;obtain⟨v3,aw,e3,q3,r3⟩:=Cz Ln.Ok Ln.e Tryz.underlying23 ab3 (by decide) (λ_=>rfl) (λn cs y hl h=>ab6 hl h) g3;obtain⟨v4,az,e4,q4,r4⟩:=Cz Rl.Ok Rl.e Tryz.underlying24 ab4 (by decide) (λ_=>rfl) (λn cs y hl h=>ab7 hl h) g4;obtain⟨z5,e5,q5⟩:=lp h1;obtain⟨z6,e6,q6⟩:=lp h2;obtain⟨v7,aA,e7,q7,r7⟩:=CA h3;obtain rfl:=qe.1 (show [c0]=_ from e0);obtain rfl:=qe.1 (show [c1]=_ from e1);obtain rfl:=qe.1 (show [c2]=_ from e2);obtain rfl:=qe.1 (show [c3]=_ from e3);obtain rfl:=qe.1 (show [c4]=_ from e4);obtain rfl:=qe.1 (show [c5]=_ from e5);obtain rfl:=qe.1 (show [c6]=_ from e6);obtain rfl:=qe.1 (show [c7]=_ from e7);exact⟨⟨⟨z0,z1,cL,aw,az⟩,z5,z6,aA⟩,⟨⟨q0,q1,q2,q3,q4⟩,q5,q6,q7⟩,.cons (Rd.int W _ _) (.cons (Rd.int W _ _) (.cons r2 (.cons r3 (.cons r4 (.cons (Rd.int W _ _) (.cons (Rd.int W _ _) (.cons r7 (.nil W))))))))⟩
end
end Go.Sp
end
noncomputable section
open Go Go.au Go.Proofs
namespace Go.Sp
def fp:aA:=λi=>if i=0 then some ⟨0,0,64,64,0,λ_=>True⟩else none
def ew:aa:=⟨Tr.nil.set 0 (some (.row iX false 0)),1⟩
theorem IZ(ρ:aA):∀l:List Int,bE ρ (l.map λn=>Value.int .u8 n) (l.map λn=>Value.int .u8 n)
 |[]=>.nil
 |n::l=>.cons (.int _ _) (IZ ρ l)
theorem aca(w:World)(el:TypeId)(fz:Nat×Nat)(ht:w.heap[0]? =some (.cells iX.toArray el fz)):qg w fp ew:=by
 have only:∀i o,ew.get i=some o->i=0/\o=.row iX false 0:=λi o h=>by
  have h:((Tr.nil:Tr bF).set 0 (some (.row iX false 0))).get i=some o:=h;rw[Tr.bn]at h
  split at h
  . rename_i e;cases h;exact⟨e,rfl⟩
  . rw[Tr.get_nil]at h;cases h
 refine⟨⟨λi pl h=> ?_,λi o h=> ?_,λi j o p pi pj ab h1 h2=> ?_⟩,λi o h=> ?_, ?_,rfl⟩
 . simp only[fp]at h
   split at h
   . rename_i e;subst e;exact Nat.zero_lt_one
   . cases h
 . obtain⟨rfl,rfl⟩:=only i o h;refine⟨_,rfl,iX.toArray,el,fz,ht,λh=>(by cases h),rfl,rfl,PX _,PX _,λ_=>rfl, ?_,λ_=>trivial⟩;have e:(iX.toArray.toList.drop 0).take 64=iX:=List.take_of_length_le (l:=iX) (PX 64);show bE fp iX ((iX.toArray.toList.drop 0).take 64);rw[e];unfold iX;exact IZ _ _
 . obtain⟨rfl,rfl⟩:=only i o h1;cases h2
 . obtain⟨rfl,rfl⟩:=only i o h;rfl
 . show((Tr.nil:Tr bF).set 0 (some (.row iX false 0))).get 0=_;rw[Tr.bn,if_pos rfl]
end Go.Sp
end

/- SpacingSuffixes: parts of its proof (Pt9 Pt10 Gv5). -/
import Derived.Test.YtaheljlbchkpcaaGreatDoorK40
import Derived.Test.YtaheljlbchkpcaaGreatDoorK41
set_option linter.unusedVariables false
set_option linter.unusedSimpArgs false
noncomputable section
open Go Go.aw Go.Proofs
namespace Go.Sp
set_option maxRecDepth 100000
def PV(p:List aY):Prop:=∀(i:Nat) x,p[i]? =some x->((x.kind=2\/x.kind=3)->(0<=x.a/\x.a<i)/\0<=x.b/\x.b<i)/\(x.kind=4->0<=x.a/\x.a<i)
theorem aeI:∀m∈gQ,PV m.p:=by
 have h:(gQ.all λm=>(List.range m.p.length).all λi=>match m.p[i]? with
  |some x=>(!(decide (x.kind=2)||decide (x.kind=3))||decide ((0<=x.a/\x.a<i)/\0<=x.b/\x.b<i))&&(!decide (x.kind=4)||decide (0<=x.a/\x.a<i))
  |none=>true)=true:=by kernel_rfl
 intro m hm i x hx;have h2:=List.all_eq_true.1 (List.all_eq_true.1 h m hm) i (by have:=(List.getElem?_eq_some_iff.1 hx).1;simpa using this);rw[hx]at h2;simp only[Bool.and_eq_true,Bool.or_eq_true,Bool.not_eq_true',decide_eq_true_eq,Bool.or_eq_false_iff,decide_eq_false_iff_not]at h2;refine⟨λh3=> ?_,λh3=> ?_⟩
 . rcases h2.1 with h4|h4
   . omega
   . exact h4
 . rcases h2.2 with h4|h4
   . exact absurd h3 h4
   . exact h4
theorem Ki{n l g:Nat}{F:List Nat}(hg:g<2^n)(hF:∀a∈F,a<2^n):∀a∈qp l g F,a<2^n:=by
 have:∀(b:List Nat) (F:List Nat),(∀a∈F,a<2^n)->∀a∈b.foldl (mS g) F,a<2^n:=by
  intro b
  induction b with
  |nil=>exactλF h=>h
  |cons i b ih=>
   intro F h;refine ih _ λa ha=> ?_;unfold mS at ha
   split at ha
   . rename_i x hx;rcases List.mem_or_eq_of_mem_set ha with h1|h1
     . exact h a h1
     . rw[h1];exact Nat.or_lt_two_pow (h x (List.mem_of_getElem? hx)) hg
   . exact h a ha
 exact this _ F hF
theorem Kj{l g:Nat}{F:List Nat}:(qp l g F).length=F.length:=by
 have:∀(b:List Nat) (F:List Nat),(b.foldl (mS g) F).length=F.length:=by
  intro b
  induction b with
  |nil=>exactλF=>rfl
  |cons i b ih=>
   intro F;rw[List.foldl_cons,ih];unfold mS
   split
   . rw[List.length_set]
   . rfl
 exact this _ F
structure CR(n:Nat)(r:(Nat×Nat×Bool)×List Nat):Prop where
 f:r.1.1<2^n
 l:r.1.2.1<2^n
 len:r.2.length=n
 F:∀a∈r.2,a<2^n
theorem vE(p:List aY):∀(n i:Nat) (F:List Nat),F.length=p.length->(∀a∈F,a<2^p.length)->CR p.length (bZ p n i F)
 |0,i,F,h1,h2=>⟨Nat.two_pow_pos _,Nat.two_pow_pos _,h1,h2⟩
 |n+1,i,F,h1,h2=>by
  have ih:=vE p n;have z:CR p.length ((0,0,true),F):=⟨Nat.two_pow_pos _,Nat.two_pow_pos _,h1,h2⟩;unfold bZ
  split
  . exact z
  . rename_i x hx;have hi:=(List.getElem?_eq_some_iff.1 hx).1;have hp:2^i<2^p.length:=Nat.pow_lt_pow_right (by decide) hi;have r:=ih x.a.toNat F h1 h2;have s:=ih x.b.toNat _ r.len r.F;simp only
    split
    . exact⟨hp,hp,h1,h2⟩
    split
    . refine⟨?_, ?_,by rw[Kj];exact s.len,Ki s.f s.F⟩
      . simp only;split
        . exact Nat.or_lt_two_pow r.f s.f
        . exact r.f
      . simp only;split
        . exact Nat.or_lt_two_pow s.l r.l
        . exact s.l
    split
    . exact⟨Nat.or_lt_two_pow r.f s.f,Nat.or_lt_two_pow r.l s.l,s.len,s.F⟩
    split
    . exact⟨r.f,r.l,by rw[Kj];exact r.len,Ki r.f r.F⟩
    . exact z
structure CH(p:List aY)(h:ab)(P0 W L M R:Nat)(F:List Nat):Prop where
 p0:h.get P0=some (.row [.sl 5 (p.map aY.e)] true 0)
 w:h.get W=some (.row [.fn 115 [] [aO P0,aO W,aO L]] true 0)
 l:h.get L=some (.row [.fn 111 [] [.ptr [aO M] 0]] true 0)
 m:∃cs,h.get M=some (.row cs true 0)/\cs[17]? =some (.v (.slice (some ⟨R,0,none⟩) p.length p.length))
 r:h.get R=some (.row (gS F) true 0)
 lt:P0<h.next/\W<h.next/\L<h.next/\M<h.next/\R<h.next
 ne:P0≠R/\W≠R/\L≠R/\M≠R
theorem CH.up{p:List aY}{h h':ab}{P0 W L M R:Nat}{F F':List Nat}(c:CH p h P0 W L M R F)(hn:h.next<=h'.next)(hr:h'.get R=some (.row (gS F') true 0))(ho:∀j,j<h.next->j≠R->h'.get j=h.get j):CH p h' P0 W L M R F':=by
 obtain⟨l1,l2,l3,l4,l5⟩:=c.lt;obtain⟨n1,n2,n3,n4⟩:=c.ne;obtain⟨cs,m1,m2⟩:=c.m;exact⟨by rw[ho _ l1 n1,c.p0],by rw[ho _ l2 n2,c.w],by rw[ho _ l3 n3,c.l],⟨cs,by rw[ho _ l4 n4,m1],m2⟩,hr,by omega,c.ne⟩
set_option maxHeartbeats 8000000 in
theorem Kk{p:List aY}(hv:PV p)(ao:p.length<=8):∀(n i:Nat) (F:List Nat) {K:cF} {dd:List FuncId} {h:ab} {P0 W L M R:Nat},i<n->i<p.length->F.length=p.length->(∀a∈F,a<2^p.length)->CH p h P0 W L M R F->
 (∀h' T,h.next<=h'.next->h'.get R=some (.row (gS (bZ p n i F).2) true 0)->(∀j,j<h.next->j≠R->h'.get j=h.get j)->K (.bg [.agg (pl (bZ p n i F).1.1),.agg (pl (bZ p n i F).1.2.1),bV (bZ p n i F).1.2.2]) dd h' T)->
 aq E true K dd h (115,[iV (i:Nat),aO P0,aO W,aO L])
 |0,_,_,_,_,_,_,_,_,_,_,ay,_,_,_,_,_=>by omega
 |n+1,i,F,K,dd,h,P0,W,L,M,R,ay,az,au,hF,c,hk=>by
  have ih:= @Kk p hv ao n;obtain⟨l1,l2,l3,l4,l5⟩:=c.lt;obtain⟨n1,n2,n3,n4⟩:=c.ne;obtain⟨x,hx⟩:∃x,p[i]? =some x:=⟨_,List.getElem?_eq_getElem az⟩;obtain⟨v1,v2⟩:=hv i x hx;refine im Wz rfl Tryz.ntmps115 Tryz.results115 ?_;obtain⟨N,hN⟩:∃N,h.next=N:=⟨_,rfl⟩;have f1:=c.p0;have f2:=c.w;have f3:=c.l;have f4:=c.r;rw[hN]at l1 l2 l3 l4 l5;simp(disch:=omega)[go_sem,hN,f1,hx,-getElem?_pos,aY.e];by_cases k1:x.kind=1
  . have e:bZ p (n+1) i F=((2^i,2^i,false),F):=by simp only[bZ,hx];rw[if_pos k1]
    rw[e]at hk;simp(disch:=omega)[go_sem,hN,k1];refine J2 (w:=0) (z:=0) (by decide) (by omega) (by simp(disch:=omega)[go_sem,hN,pl]) λT=> ?_;rw[Nat.zero_or];simp(disch:=omega)[go_sem,hN,fm,gR,jA,iD];intro T2;refine hk _ T2 (by simp(disch:=omega)[go_sem];omega) (by simp(disch:=omega)[go_sem,hN,f4]) λj j1 j2=> ?_;simp(disch:=omega)[go_sem,hN]
  by_cases k2:x.kind=2
  . obtain⟨⟨a0,a1⟩,b0,b1⟩:=v1 (.inl k2);obtain⟨a,ha⟩:∃a:Nat,x.a=a:=⟨x.a.toNat,by omega⟩;obtain⟨b,hb⟩:∃b:Nat,x.b=b:=⟨x.b.toNat,by omega⟩;have e:bZ p (n+1) i F=((if(bZ p n a F).1.2.2 then(bZ p n a F).1.1|||(bZ p n b (bZ p n a F).2).1.1 else(bZ p n a F).1.1,if(bZ p n b (bZ p n a F).2).1.2.2 then(bZ p n b (bZ p n a F).2).1.2.1|||(bZ p n a F).1.2.1 else(bZ p n b (bZ p n a F).2).1.2.1,(bZ p n a F).1.2.2&&(bZ p n b (bZ p n a F).2).1.2.2),qp (bZ p n a F).1.2.1 (bZ p n b (bZ p n a F).2).1.1 (bZ p n b (bZ p n a F).2).2):=by
     simp only[bZ,hx];rw[if_neg k1,if_pos k2,ha,hb];rfl
    rw[e]at hk;have r:=vE p n a F au hF;have s:=vE p n b _ r.len r.F;obtain⟨ra,ai⟩:∃r,bZ p n a F=r:=⟨_,rfl⟩;obtain⟨⟨fa,la,ea⟩,Fa⟩:=ra;rw[ai]at hk r s;obtain⟨rb,av⟩:∃r,bZ p n b Fa=r:=⟨_,rfl⟩;obtain⟨⟨fb,lb,eb⟩,Fb⟩:=rb;simp only at hk r s;rw[av]at hk s;simp only at hk;obtain⟨r1,r2,r3,r4⟩:=r;obtain⟨s1,s2,s3,s4⟩:=s;simp only at r1 r2 r3 r4 s1 s2 s3 s4;have ad:∀x,x<2^p.length->x<256:=λx hx=>Nat.lt_of_lt_of_le hx (Nat.pow_le_pow_right (n:=2) (by decide) ao);simp(disch:=omega)[go_sem,hN,k1,k2,f2,ha];refine ih a F (by omega) (by omega) au hF (c.up (h':=_) ?_ ?_ ?_) λh1 T q1 q2 q3=> ?_
    . simp(disch:=omega)[go_sem,hN];omega
    . simp(disch:=omega)[go_sem,hN,f4]
    . intro j j1 j2;simp(disch:=omega)[go_sem,hN]
    rw[ai]at q2⊢;simp(disch:=omega)[go_sem,hN]at q1 q2 q3;have c1:CH p h1 P0 W L M R Fa:=c.up (by omega) q2 λj j1 j2=>by rw[hN]at j1;rw[q3 j (by omega) j2];simp(disch:=omega)[go_sem,hN]
    obtain⟨N1,aa⟩:∃N1,h1.next=N1:=⟨_,rfl⟩;rw[aa]at q1;have f5:=c1.w;have f6:h1.get (N+1+1)=some (.row [iV 2,iV x.lo,iV x.hi,iV (a:Nat),iV (b:Nat)] true 0):=by rw[q3 _ (by omega) (by omega)];simp(disch:=omega)[go_sem,hN,k2,ha,hb]
    simp(disch:=omega)[go_sem,aa,f5,f6,fm,gR,jA,iD];refine ih b Fa (by omega) (by omega) r3 r4 (c1.up (h':=_) ?_ ?_ ?_) λh2 T2 u1 u2 u3=> ?_
    . simp(disch:=omega)[go_sem,aa];omega
    . simp(disch:=omega)[go_sem,aa,q2]
    . intro j j1 j2;rw[aa]at j1;simp(disch:=omega)[go_sem,aa]
    rw[av]at u2⊢;simp(disch:=omega)[go_sem,aa]at u1 u2 u3;have c2:CH p h2 P0 W L M R Fb:=c1.up (by omega) u2 λj j1 j2=>by rw[aa]at j1;rw[u3 j (by omega) j2];simp(disch:=omega)[go_sem,aa]
    obtain⟨N2,af⟩:∃N2,h2.next=N2:=⟨_,rfl⟩;rw[af]at u1;have f7:=c2.l;obtain⟨cs,m1,m2⟩:=c2.m;have g1:h2.get N1=some (.row (pl fa) true 0):=by rw[u3 _ (by omega) (by omega)];simp(disch:=omega)[go_sem,aa]
    have g2:h2.get (N1+1)=some (.row (pl la) true 0):=by rw[u3 _ (by omega) (by omega)];simp(disch:=omega)[go_sem,aa]
    simp(disch:=omega)[go_sem,af,f7,g2,fm,gR,jA,iD];refine Kh (z:=0) (F:=Fb) (cs:=cs) (M:=M) (R:=R) (n:=p.length) s3 ao (λa ha=>ad a (s4 a ha)) r2 (ad _ s1) ?_ m2 ?_ ?_ ?_ n4 λh3 T3 w1 w2 w3=> ?_
    . simp(disch:=omega)[go_sem,af,m1]
    . simp(disch:=omega)[go_sem,af,u2]
    . simp(disch:=omega)[go_sem,af];try omega
    . simp(disch:=omega)[go_sem,af];try omega
    simp(disch:=omega)[go_sem,af]at w1 w3;obtain⟨N3,aB⟩:∃N3,h3.next=N3:=⟨_,rfl⟩;rw[aB]at w1;have z0:h3.get N=some (.row (pl 0) true 0):=by rw[w3 _ (by omega) (by omega)];simp(disch:=omega)[go_sem,af];rw[u3 _ (by omega) (by omega)];simp(disch:=omega)[go_sem,aa];rw[q3 _ (by omega) (by omega)];simp(disch:=omega)[go_sem,hN,pl]
    have z1:h3.get (N+1)=some (.row (pl 0) true 0):=by rw[w3 _ (by omega) (by omega)];simp(disch:=omega)[go_sem,af];rw[u3 _ (by omega) (by omega)];simp(disch:=omega)[go_sem,aa];rw[q3 _ (by omega) (by omega)];simp(disch:=omega)[go_sem,hN,pl]
    have z2:h3.get N1=some (.row (pl fa) true 0):=by rw[w3 _ (by omega) (by omega)];simp(disch:=omega)[go_sem,af,g1]
    have z3:h3.get (N1+1)=some (.row (pl la) true 0):=by rw[w3 _ (by omega) (by omega)];simp(disch:=omega)[go_sem,af,g2]
    have z4:h3.get N2=some (.row (pl fb) true 0):=by rw[w3 _ (by omega) (by omega)];simp(disch:=omega)[go_sem,af]
    have z5:h3.get (N2+1)=some (.row (pl lb) true 0):=by rw[w3 _ (by omega) (by omega)];simp(disch:=omega)[go_sem,af]
    have z6:∀j,j<N->j≠R->h3.get j=h.get j:=λj j1 j2=>by rw[w3 _ (by omega) (by omega)];simp(disch:=omega)[go_sem,af];rw[u3 _ (by omega) (by omega)];simp(disch:=omega)[go_sem,aa];rw[q3 _ (by omega) (by omega)];simp(disch:=omega)[go_sem,hN]
    have fin:∀(H:ab) (T:List Nat) (fv lv:Nat),N<=H.next->H.get R=h3.get R->(∀j,j<N->j≠R->H.get j=h3.get j)->fv=(if ea=true then fa|||fb else fa)->lv=(if eb=true then lb|||la else lb)->K (.bg [.agg (pl fv),.agg (pl lv),bV (ea&&eb)]) dd H T:=λH T fv lv p1 p2 p3 p4 p5=>by
     rw[p4,p5];exact hk H T (by omega) (by rw[p2,w2]) λj j1 j2=>by rw[p3 j (by omega) j2,z6 j (by omega) j2]
    cases ea
    . cases eb
      . simp(disch:=omega)[go_sem,z0,z1,z2,z3,z4,z5,fm,gR,jA,iD];intro T9;refine fin _ T9 _ _ (by simp(disch:=omega)[go_sem];omega) ?_ (λj j1 j2=> ?_) rfl rfl
        . simp(disch:=omega)[go_sem]
        . simp(disch:=omega)[go_sem]
      . simp(disch:=omega)[go_sem,z0,z1,z2,z3,z4,z5,fm,gR,jA,iD];refine tJ (z:=0) (a:=lb) (b:=la) (ad _ s2) (ad _ r2) z5 (by omega) λh5 T5 x1 x2 x3=> ?_;have z0:h5.get N=some (.row (pl 0) true 0):=by rw[x3 _ (by omega) (by omega),z0]
        have z1:h5.get (N+1)=some (.row (pl 0) true 0):=by rw[x3 _ (by omega) (by omega),z1]
        have z2:h5.get N1=_:=(x3 _ (by omega) (by omega)).trans z2;have z5:=x2;simp(disch:=omega)[go_sem,z0,z1,z2,z5,fm,gR,jA,iD];intro T9;refine fin _ T9 _ _ (by simp(disch:=omega)[go_sem];omega) ?_ (λj j1 j2=> ?_) rfl rfl
        . simp(disch:=omega)[go_sem];rw[x3 _ (by omega) (by omega)]
        . simp(disch:=omega)[go_sem];rw[x3 _ (by omega) (by omega)]
    . cases eb
      . simp(disch:=omega)[go_sem,z0,z1,z2,z3,z4,z5,fm,gR,jA,iD];refine tJ (z:=0) (a:=fa) (b:=fb) (ad _ r1) (ad _ s1) z2 (by omega) λh4 T4 y1 y2 y3=> ?_;have z0:h4.get N=some (.row (pl 0) true 0):=by rw[y3 _ (by omega) (by omega),z0]
        have z1:h4.get (N+1)=some (.row (pl 0) true 0):=by rw[y3 _ (by omega) (by omega),z1]
        have z3:h4.get (N1+1)=some (.row (pl la) true 0):=by rw[y3 _ (by omega) (by omega),z3]
        have z5:h4.get (N2+1)=some (.row (pl lb) true 0):=by rw[y3 _ (by omega) (by omega),z5]
        have z2:=y2;simp(disch:=omega)[go_sem,z0,z1,z2,z3,z5,fm,gR,jA,iD];intro T9;refine fin _ T9 _ _ (by simp(disch:=omega)[go_sem];omega) ?_ (λj j1 j2=> ?_) rfl rfl
        . simp(disch:=omega)[go_sem];rw[y3 _ (by omega) (by omega)]
        . simp(disch:=omega)[go_sem];rw[y3 _ (by omega) (by omega)]
      . simp(disch:=omega)[go_sem,z0,z1,z2,z3,z4,z5,fm,gR,jA,iD];refine tJ (z:=0) (a:=fa) (b:=fb) (ad _ r1) (ad _ s1) z2 (by omega) λh4 T4 y1 y2 y3=> ?_;have z0:h4.get N=some (.row (pl 0) true 0):=by rw[y3 _ (by omega) (by omega),z0]
        have z1:h4.get (N+1)=some (.row (pl 0) true 0):=by rw[y3 _ (by omega) (by omega),z1]
        have z3:h4.get (N1+1)=some (.row (pl la) true 0):=by rw[y3 _ (by omega) (by omega),z3]
        have z5:h4.get (N2+1)=some (.row (pl lb) true 0):=by rw[y3 _ (by omega) (by omega),z5]
        have z2:=y2;simp(disch:=omega)[go_sem,z0,z1,z2,z3,z5,fm,gR,jA,iD];refine tJ (z:=0) (a:=lb) (b:=la) (ad _ s2) (ad _ r2) z5 (by omega) λh5 T5 x1 x2 x3=> ?_;have z0:h5.get N=some (.row (pl 0) true 0):=by rw[x3 _ (by omega) (by omega),z0]
        have z1:h5.get (N+1)=some (.row (pl 0) true 0):=by rw[x3 _ (by omega) (by omega),z1]
        have z2:h5.get N1=_:=(x3 _ (by omega) (by omega)).trans z2;have z5:=x2;simp(disch:=omega)[go_sem,z0,z1,z2,z5,fm,gR,jA,iD];intro T9;refine fin _ T9 _ _ (by simp(disch:=omega)[go_sem];omega) ?_ (λj j1 j2=> ?_) rfl rfl
        . simp(disch:=omega)[go_sem];rw[x3 _ (by omega) (by omega)];rw[y3 _ (by omega) (by omega)]
        . simp(disch:=omega)[go_sem];rw[x3 _ (by omega) (by omega)];rw[y3 _ (by omega) (by omega)]
  by_cases k3:x.kind=3
  . obtain⟨⟨a0,a1⟩,b0,b1⟩:=v1 (.inr k3);obtain⟨a,ha⟩:∃a:Nat,x.a=a:=⟨x.a.toNat,by omega⟩;obtain⟨b,hb⟩:∃b:Nat,x.b=b:=⟨x.b.toNat,by omega⟩;have e:bZ p (n+1) i F=(((bZ p n a F).1.1|||(bZ p n b (bZ p n a F).2).1.1,(bZ p n a F).1.2.1|||(bZ p n b (bZ p n a F).2).1.2.1,(bZ p n a F).1.2.2||(bZ p n b (bZ p n a F).2).1.2.2),(bZ p n b (bZ p n a F).2).2):=by
     simp only[bZ,hx];rw[if_neg k1,if_neg k2,if_pos k3,ha,hb];rfl
    rw[e]at hk;have r:=vE p n a F au hF;have s:=vE p n b _ r.len r.F;obtain⟨ra,ai⟩:∃r,bZ p n a F=r:=⟨_,rfl⟩;obtain⟨⟨fa,la,ea⟩,Fa⟩:=ra;rw[ai]at hk r s;obtain⟨rb,av⟩:∃r,bZ p n b Fa=r:=⟨_,rfl⟩;obtain⟨⟨fb,lb,eb⟩,Fb⟩:=rb;simp only at hk r s;rw[av]at hk s;simp only at hk;obtain⟨r1,r2,r3,r4⟩:=r;obtain⟨s1,s2,s3,s4⟩:=s;simp only at r1 r2 r3 r4 s1 s2 s3 s4;have ad:∀x,x<2^p.length->x<256:=λx hx=>Nat.lt_of_lt_of_le hx (Nat.pow_le_pow_right (n:=2) (by decide) ao);simp(disch:=omega)[go_sem,hN,k1,k2,k3,f2,ha];refine ih a F (by omega) (by omega) au hF (c.up (h':=_) ?_ ?_ ?_) λh1 T q1 q2 q3=> ?_
    . simp(disch:=omega)[go_sem,hN];omega
    . simp(disch:=omega)[go_sem,hN,f4]
    . intro j j1 j2;simp(disch:=omega)[go_sem,hN]
    rw[ai]at q2⊢;simp(disch:=omega)[go_sem,hN]at q1 q2 q3;have c1:CH p h1 P0 W L M R Fa:=c.up (by omega) q2 λj j1 j2=>by rw[hN]at j1;rw[q3 j (by omega) j2];simp(disch:=omega)[go_sem,hN]
    obtain⟨N1,aa⟩:∃N1,h1.next=N1:=⟨_,rfl⟩;rw[aa]at q1;have f5:=c1.w;have f6:h1.get (N+1+1)=some (.row [iV 3,iV x.lo,iV x.hi,iV (a:Nat),iV (b:Nat)] true 0):=by rw[q3 _ (by omega) (by omega)];simp(disch:=omega)[go_sem,hN,k3,ha,hb]
    simp(disch:=omega)[go_sem,aa,f5,f6,fm,gR,jA,iD];refine ih b Fa (by omega) (by omega) r3 r4 (c1.up (h':=_) ?_ ?_ ?_) λh2 T2 u1 u2 u3=> ?_
    . simp(disch:=omega)[go_sem,aa];omega
    . simp(disch:=omega)[go_sem,aa,q2]
    . intro j j1 j2;rw[aa]at j1;simp(disch:=omega)[go_sem,aa]
    rw[av]at u2⊢;simp(disch:=omega)[go_sem,aa]at u1 u2 u3;obtain⟨N2,af⟩:∃N2,h2.next=N2:=⟨_,rfl⟩;rw[af]at u1;have g1:h2.get N1=some (.row (pl fa) true 0):=by rw[u3 _ (by omega) (by omega)];simp(disch:=omega)[go_sem,aa]
    have g2:h2.get (N1+1)=some (.row (pl la) true 0):=by rw[u3 _ (by omega) (by omega)];simp(disch:=omega)[go_sem,aa]
    have z0:h2.get N=some (.row (pl 0) true 0):=by rw[u3 _ (by omega) (by omega)];simp(disch:=omega)[go_sem,aa];rw[q3 _ (by omega) (by omega)];simp(disch:=omega)[go_sem,hN,pl]
    have z1:h2.get (N+1)=some (.row (pl 0) true 0):=by rw[u3 _ (by omega) (by omega)];simp(disch:=omega)[go_sem,aa];rw[q3 _ (by omega) (by omega)];simp(disch:=omega)[go_sem,hN,pl]
    have z6:∀j,j<N->j≠R->h2.get j=h.get j:=λj j1 j2=>by rw[u3 _ (by omega) (by omega)];simp(disch:=omega)[go_sem,aa];rw[q3 _ (by omega) (by omega)];simp(disch:=omega)[go_sem,hN]
    simp(disch:=omega)[go_sem,af,g1,g2,fm,gR,jA,iD];refine tJ (z:=0) (a:=fa) (b:=fb) (ad _ r1) (ad _ s1) (by simp(disch:=omega)[go_sem,af,g1]) (by simp(disch:=omega)[go_sem,af];try omega) λh4 T4 y1 y2 y3=> ?_;simp(disch:=omega)[go_sem,af]at y1 y3;have w1:h4.get (N1+1)=some (.row (pl la) true 0):=by rw[y3 _ (by omega) (by omega)];simp(disch:=omega)[go_sem,af,g2]
    have w2:h4.get (N2+1)=some (.row (pl lb) true 0):=by rw[y3 _ (by omega) (by omega)];simp(disch:=omega)[go_sem,af]
    simp(disch:=omega)[go_sem,w1,w2,fm,gR,jA,iD];refine tJ (z:=0) (a:=la) (b:=lb) (ad _ r2) (ad _ s2) w1 (by omega) λh5 T5 x1 x2 x3=> ?_;have v0:h5.get N=some (.row (pl 0) true 0):=by rw[x3 _ (by omega) (by omega),y3 _ (by omega) (by omega)];simp(disch:=omega)[go_sem,af,z0]
    have v3:h5.get (N+1)=some (.row (pl 0) true 0):=by rw[x3 _ (by omega) (by omega),y3 _ (by omega) (by omega)];simp(disch:=omega)[go_sem,af,z1]
    have v4:h5.get N1=some (.row (pl (fa|||fb)) true 0):=by rw[x3 _ (by omega) (by omega),y2]
    cases ea
    all_goals
     simp(disch:=omega)[go_sem,v0,v3,v4,x2,fm,gR,jA,iD];intro T9;refine hk _ T9 ?_ ?_ λj j1 j2=> ?_
     . simp(disch:=omega)[go_sem];omega
     . simp(disch:=omega)[go_sem];rw[x3 _ (by omega) (by omega),y3 _ (by omega) (by omega)];simp(disch:=omega)[go_sem,af,u2]
     . simp(disch:=omega)[go_sem];rw[x3 _ (by omega) (by omega),y3 _ (by omega) (by omega)];simp(disch:=omega)[go_sem,af,z6,j2]
  by_cases k4:x.kind=4
  . obtain⟨a0,a1⟩:=v2 k4;obtain⟨a,ha⟩:∃a:Nat,x.a=a:=⟨x.a.toNat,by omega⟩;have e:bZ p (n+1) i F=(((bZ p n a F).1.1,(bZ p n a F).1.2.1,true),qp (bZ p n a F).1.2.1 (bZ p n a F).1.1 (bZ p n a F).2):=by
     simp only[bZ,hx];rw[if_neg k1,if_neg k2,if_neg k3,if_pos k4,ha];rfl
    rw[e]at hk;have r:=vE p n a F au hF;obtain⟨ra,ai⟩:∃r,bZ p n a F=r:=⟨_,rfl⟩;obtain⟨⟨fa,la,ea⟩,Fa⟩:=ra;rw[ai]at hk r;simp only at hk r;obtain⟨r1,r2,r3,r4⟩:=r;simp only at r1 r2 r3 r4;have ad:∀x,x<2^p.length->x<256:=λx hx=>Nat.lt_of_lt_of_le hx (Nat.pow_le_pow_right (n:=2) (by decide) ao);simp(disch:=omega)[go_sem,hN,k1,k2,k3,k4,f2,ha];refine ih a F (by omega) (by omega) au hF (c.up (h':=_) ?_ ?_ ?_) λh1 T q1 q2 q3=> ?_
    . simp(disch:=omega)[go_sem,hN];omega
    . simp(disch:=omega)[go_sem,hN,f4]
    . intro j j1 j2;simp(disch:=omega)[go_sem,hN]
    rw[ai]at q2⊢;simp(disch:=omega)[go_sem,hN]at q1 q2 q3;have c1:CH p h1 P0 W L M R Fa:=c.up (by omega) q2 λj j1 j2=>by rw[hN]at j1;rw[q3 j (by omega) j2];simp(disch:=omega)[go_sem,hN]
    obtain⟨N1,aa⟩:∃N1,h1.next=N1:=⟨_,rfl⟩;rw[aa]at q1;have f7:=c1.l;obtain⟨cs,m1,m2⟩:=c1.m;simp(disch:=omega)[go_sem,aa,f7,fm,gR,jA,iD];refine Kh (z:=0) (F:=Fa) (cs:=cs) (M:=M) (R:=R) (n:=p.length) r3 ao (λa ha=>ad a (r4 a ha)) r2 (ad _ r1) ?_ m2 ?_ ?_ ?_ n4 λh3 T3 w1 w2 w3=> ?_
    . simp(disch:=omega)[go_sem,aa,m1]
    . simp(disch:=omega)[go_sem,aa,q2]
    . simp(disch:=omega)[go_sem,aa];try omega
    . simp(disch:=omega)[go_sem,aa];try omega
    simp(disch:=omega)[go_sem,aa]at w1 w3;have z0:h3.get N=some (.row (pl 0) true 0):=by rw[w3 _ (by omega) (by omega)];simp(disch:=omega)[go_sem,aa];rw[q3 _ (by omega) (by omega)];simp(disch:=omega)[go_sem,hN,pl]
    have z1:h3.get (N+1)=some (.row (pl 0) true 0):=by rw[w3 _ (by omega) (by omega)];simp(disch:=omega)[go_sem,aa];rw[q3 _ (by omega) (by omega)];simp(disch:=omega)[go_sem,hN,pl]
    have z2:h3.get N1=some (.row (pl fa) true 0):=by rw[w3 _ (by omega) (by omega)];simp(disch:=omega)[go_sem,aa]
    have z3:h3.get (N1+1)=some (.row (pl la) true 0):=by rw[w3 _ (by omega) (by omega)];simp(disch:=omega)[go_sem,aa]
    have z6:∀j,j<N->j≠R->h3.get j=h.get j:=λj j1 j2=>by rw[w3 _ (by omega) (by omega)];simp(disch:=omega)[go_sem,aa];rw[q3 _ (by omega) (by omega)];simp(disch:=omega)[go_sem,hN]
    simp(disch:=omega)[go_sem];refine ck [aJ 0,dF 0,aN 1,aN 7,ae 15] (by kernel_rfl) 0 rfl ?_;simp(disch:=omega)[go_sem,z0,z1,z2,z3,fm,gR,jA,iD,nS];refine⟨by omega,by omega,λT9=>hk _ T9 ?_ ?_ λj j1 j2=> ?_⟩
    . simp(disch:=omega)[go_sem];omega
    . simp(disch:=omega)[go_sem,w2]
    . simp(disch:=omega)[go_sem,z6,j2]
  . have e:bZ p (n+1) i F=((0,0,true),F):=by
     simp only[bZ,hx];rw[if_neg k1,if_neg k2,if_neg k3,if_neg k4]
    rw[e]at hk;simp(disch:=omega)[go_sem,hN,k1,k2,k3,k4];refine ck [aJ 0,dF 0,aN 1,aN 7,ae 15] (by kernel_rfl) 0 rfl ?_;simp(disch:=omega)[go_sem,hN,nS];intro T9;refine hk _ T9 ?_ ?_ λj j1 j2=> ?_
    . simp(disch:=omega)[go_sem];omega
    . simp(disch:=omega)[go_sem,f4]
    . simp(disch:=omega)[go_sem]
end Go.Sp
end
noncomputable section
open Go Go.aw Go.Proofs
namespace Go.Sp
set_option maxRecDepth 100000
theorem aeJ(n:Nat)(h:n<=8):List.map DV.v (fu [.int .u64 0,.int .u64 0,.int .u64 0,.int .u64 0,.int .u64 0,.int .u64 0,.int .u64 0,.int .u64 0] (n*8))=gS (List.replicate n 0):=by
 have:n=0\/n=1\/n=2\/n=3\/n=4\/n=5\/n=6\/n=7\/n=8:=by omega
 rcases this with rfl|rfl|rfl|rfl|rfl|rfl|rfl|rfl|rfl<;>rfl
theorem aeK(m:dP)(hm:m.Ok)(eQ:0<m.p.length)(hv:PV m.p)(ad:bZ m.p 9 (m.p.length-1) (List.replicate m.p.length 0)=((m.first,m.last,m.empty),m.follow)):ax E true 63 [.sl 5 (m.p.map aY.e)] (.ptr m.e 0):=by
 refine xr VZ rfl Tryz.ntmps63 Tryz.results63 λN=> ?_;refine Iw ?_;simp(disch:=omega)[go_sem];refine⟨_,aA.refl _,Iw ?_⟩;simp(disch:=omega)[go_sem];refine ck [aJ 0,aJ 0,aJ 2,cT 6,ae 15,cT 31,cT 0,aN 127] (by kernel_rfl) 3 rfl ?_;simp(disch:=omega)[go_sem];have hlen:=hm.len;refine Kg (n:=m.p.length) aey aez GB aeA rfl (by decide) (by decide) (by simp(disch:=omega)[go_sem]) (by simp(disch:=omega)[go_sem]) (by omega) ?_;simp(disch:=omega)[go_sem];obtain⟨Z,hZ⟩:∃Z,List.map DV.v (fu [.int .u64 0,.int .u64 0,.int .u64 0,.int .u64 0,.int .u64 0,.int .u64 0,.int .u64 0,.int .u64 0] (m.p.length*8))=Z:=⟨_,rfl⟩;obtain⟨M0,aa⟩:∃M0,[DV.sl 5 (List.map aY.e m.p),.v (.int .u64 0),.v (.int .u64 0),.v (.int .u64 0),.v (.int .u64 0),.v (.int .u64 0),.v (.int .u64 0),.v (.int .u64 0),.v (.int .u64 0),.v (.int .u64 0),.v (.int .u64 0),.v (.int .u64 0),.v (.int .u64 0),.v (.int .u64 0),.v (.int .u64 0),.v (.int .u64 0),.v (.int .u64 0),.v (.slice (some ⟨N+1,0,none⟩) m.p.length m.p.length),.v (.bool false)]=M0:=⟨_,rfl⟩;have af:Z=gS (List.replicate m.p.length 0):=by rw[<-hZ];exact aeJ _ hlen
 have ai:M0[17]? =some (.v (.slice (some ⟨N+1,0,none⟩) m.p.length m.p.length)):=by rw[<-aa];rfl
 rw[hZ,aa];refine⟨_,aA.JG (N:=N+4) (l:=[(1,.v (.pointer (some ⟨N,0,none⟩)))]) (r:=[(N,.row [.sl 5 (m.p.map aY.e)] true 0),(N+1,.row Z true 0),(N+2,.row M0 true 0)]) [N+3] (i:=3) (v:=.v (.pointer (some ⟨N+3,0,none⟩))) (d:=.ptr [.v (.pointer (some ⟨N+2,0,none⟩))] 0) ?_ ?_ ?_ ?_ ?_ ?_ ?_,ve ?_⟩
 . simp(disch:=omega)[go_sem]
 . simp(disch:=omega)[go_sem]
 . simp(disch:=omega)[go_sem]
 . exact nJ (ah:=0) (hY (wr:=true) (by simp) (by simp(disch:=omega)[go_sem]))
 . simp(disch:=omega)[go_sem]
 . simp(disch:=omega)[go_sem]
 . intro p hp;simp only[List.mem_cons,List.not_mem_nil,or_false]at hp;rcases hp with rfl|rfl|rfl<;>simp
 . simp(disch:=omega)[go_sem];refine ck [dF 0,⟨.read,0,some (0,3),true⟩,⟨.read,0,some (0,4),true⟩,aJ 0,aJ 0,aJ 16,ae 48,aN 120,ae 248,ae 504,ae 504,ae 504,ae 1017,ae 5113,aN 13305,ae 30715,ae 63483,aN 129019,ae 262143,ae 524287,aN 1048575] (by kernel_rfl) 0 rfl ?_;simp(disch:=omega)[go_sem,aD];rw[show((m.p.length:Int)-1)=((m.p.length-1:Nat):Int) by omega];have ab:=dP.Ae m;refine Kk hv hlen 9 (m.p.length-1) (List.replicate m.p.length 0) (M:=N+2) (R:=N+1) (by omega) (by omega) (by simp) (λa ha=> ?_) ⟨?_, ?_, ?_,⟨M0, ?_,ai⟩, ?_, ?_,by omega,by omega,by omega,by omega⟩ λh' T q1 q2 q3=> ?_
   . rw[List.eq_of_mem_replicate ha];exact Nat.two_pow_pos _
   . simp(disch:=omega)[go_sem]
   . simp(disch:=omega)[go_sem]
   . simp(disch:=omega)[go_sem]
   . simp(disch:=omega)[go_sem]
   . simp(disch:=omega)[go_sem,af]
   . simp(disch:=omega)[go_sem];try omega
   rw[ad]at q2⊢;simp only at q2⊢;simp(disch:=omega)[go_sem]at q1 q3;have e1:h'.get (N+2)=some (.row M0 true 0):=by rw[q3 _ (by omega) (by omega)];simp(disch:=omega)[go_sem]
   rw[<-aa]at e1;simp(disch:=omega)[go_sem,e1,fm,pl];rw[ab];refine zV (ah:=0) (cN (wr:=true) (by simp(disch:=omega)[go_sem];try rfl)) ?_;have ao:Fz (allRows h') (.v (.slice (some ⟨N+1,0,none⟩) m.p.length m.p.length)) (.sl 8 (m.follow.map pl)):=by
    refine eO (ah:=0) (cN (wr:=true) q2) (.inl rfl) (by decide) (by rw[List.length_map,hm.Ad]) (Nat.le_refl _) λx hx=> ?_;obtain⟨y,_,rfl⟩:=List.mem_map.1 hx;rfl
   simp(disch:=omega)[go_sem];refine eO (ah:=0) (cN (wr:=true) (cs:=gS m.follow) (by simp(disch:=omega)[go_sem,q2])) (.inl rfl) (by decide) (by rw[List.length_map,hm.Ad]) (Nat.le_refl _) λx hx=> ?_;obtain⟨y,_,rfl⟩:=List.mem_map.1 hx;rfl
theorem Kl(m:dP)(hm:m∈gQ):ax E true 63 [.sl 5 (m.p.map aY.e)] (.ptr m.e 0):=by
 have h:(gQ.all λm=>Nat.blt 0 m.p.length)=true:=by kernel_rfl
 exact aeK m (D0 m hm) (Nat.le_of_ble_eq_true (List.all_eq_true.1 h m hm)) (aeI m hm) (aeH m hm)
theorem aeL(m:dP)(hm:m∈gQ)(t:ByteArray)(ht:t.size<=1000000000):ax E true 68 [.sl 5 (m.p.map aY.e),sV t,iV 0] (.bg [iV (tL m t:Nat),bV (decide (0<tL m t))]):=aew m (D0 m hm) (rP m hm) (Kl m hm) t ht
theorem Af(m:dP)(hm:m∈gQ)(t:ByteArray)(ht:t.size<=1000000000):ax E true 32 [.sl 5 (m.p.map aY.e),sV t] (bV (tM m t)):=aex m (D0 m hm) (rP m hm) (Kl m hm) t ht
end Go.Sp
end
noncomputable section
open Go Go.aw Go.Proofs
namespace Go.Sp
set_option maxRecDepth 100000
structure fp where
 x:cQ
 marks:Int
 config:Int
 leaves:List Int
def fp.e(r:fp):List DV:=r.x.e++[uV r.marks,uV r.config,.sl 1 (r.leaves.map λb=>[uV b])]
structure fp.Ok(r:fp):Prop where
 x:r.x.Ok
 marks:0<=r.marks/\r.marks<256
 config:0<=r.config/\r.config<256
 leaves:∀b∈r.leaves,0<=b/\b<256
def kB:List ByteArray:=[⟨#[43,43]⟩,⟨#[43,42]⟩,⟨#[105,102,43]⟩]
def rQ(d:Dg):Tok:=⟨⟨#[108,111,110,103]⟩,0,⟨#[]⟩,nQ,⟨#[120,43]⟩,d⟩
def rR:Tok:=⟨⟨#[110,111,116,101]⟩,2,⟨#[]⟩,Aa,⟨#[]⟩,aQ true⟩
def qq:Tok:=⟨⟨#[111,100,100]⟩,1,⟨#[]⟩,Ab,⟨#[]⟩,aQ true⟩
def cu(m:Int)(k:Nat):Bool:=m.toNat.testBit k
def iE(m:Int)(k:Nat):List Tok:=(List.range k).flatMap λi=>if cu m i then [gN (kB[i]?.getD ⟨#[]⟩)]else []
def gT(m:Int)(n:Nat):List Tok:=iE m 3++(if cu m 3 then [rQ (cB bx m n)]else [])++(if cu m 4 then [rR]else [])++(if cu m 5&& !cu m 6 then [qq]else [])
def cI(r:fp):ai:=
 let g:=cL bx r.x
 let g':={g with ar:=g.ar++gT r.marks g.conds.length}
 if cu r.marks 5&&cu r.marks 6 then jU g' 9 (aQ false)else g'
def ml(d:Dg):List Tok:=ar++(kB.map gN++[rQ d,rR,qq])
theorem aeM(m:Int):iE m 3=(if cu m 0 then [gN ⟨#[43,43]⟩]else [])++((if cu m 1 then [gN ⟨#[43,42]⟩]else [])++((if cu m 2 then [gN ⟨#[105,102,43]⟩]else [])++[])):=rfl
theorem vF{α:Type}(b:Bool)(x:α){l l':List α}(h:l.Sublist l'):((if b then [x]else [])++l).Sublist (x::l'):=by
 cases b with
 |true=>exact h.cons_cons x
 |false=>exact h.cons x
theorem vG(m:Int)(n:Nat):(gT m n).Sublist (kB.map gN++[rQ (cB bx m n),rR,qq]):=by
 have e:gT m n=(if cu m 0 then [gN ⟨#[43,43]⟩]else [])++((if cu m 1 then [gN ⟨#[43,42]⟩]else [])++((if cu m 2 then [gN ⟨#[105,102,43]⟩]else [])++((if cu m 3 then [rQ (cB bx m n)]else [])++((if cu m 4 then [rR]else [])++((if cu m 5&& !cu m 6 then [qq]else [])++[]))))):=by
  simp[gT,aeM,List.append_assoc]
 rw[e];exact vF _ _ (vF _ _ (vF _ _ (vF _ _ (vF _ _ (vF _ _ (List.Sublist.refl []))))))
structure mm(t:Tok):Prop where
 cls:0<=t.cls/\t.cls<=2
 k:I8 t
theorem mm.strip{t t':Tok}(h:t.strip=t'.strip)(q:mm t'):mm t:=by
 obtain⟨a,b,c,d,e,f⟩:=t;obtain⟨a',b',c',d',e',f'⟩:=t';simp only[Tok.strip,Tok.mk.injEq]at h;obtain⟨rfl,rfl,rfl,rfl,rfl,_⟩:=h;exact⟨q.cls,q.k⟩
theorem aeN:tM ir ⟨#[120]⟩=true:=by kernel_rfl
theorem aeO:tM oW ⟨#[120,43]⟩=true:=by kernel_rfl
theorem xO(s:ByteArray)(h:s≠⟨#[]⟩):mm (gN s):=⟨⟨Int.le_refl 0,show(0:Int)<=2 by decide⟩,.inl ⟨h,rfl,rfl⟩⟩
theorem gz(i:Nat)(m:dP)(h:gQ[i]? =some m):m∈gQ:=List.mem_of_getElem? h
theorem Km(d:Dg):∀t∈ml d,mm t:=by
 have hl:∀s∈lits++kB,s≠⟨#[]⟩:=by
  have h:((lits++kB).all λs=> !decide (s=⟨#[]⟩))=true:=by kernel_rfl
  intro s hs;simpa using List.all_eq_true.1 h s hs
 have au:mm iX:=⟨⟨by decide,by decide⟩,.inr ⟨rfl,rP _ (gz 0 ir rfl),.inl ⟨rfl,by decide,by have:=Af ir (gz 0 ir rfl) ⟨#[120]⟩ (by decide);rw[aeN]at this;exact this⟩⟩⟩;have ad:mm (rQ d):=⟨⟨Int.le_refl 0,show(0:Int)<=2 by decide⟩,.inr ⟨rfl,rP _ (gz 3 oW rfl),.inl ⟨rfl,show(⟨#[120,43]⟩:ByteArray)≠⟨#[]⟩ by decide,by have:=Af oW (gz 3 oW rfl) ⟨#[120,43]⟩ (by decide);rw[aeO]at this;exact this⟩⟩⟩;have hs:mm u7:=⟨⟨by decide,by decide⟩,.inr ⟨rfl,rP _ (gz 1 DU rfl),.inr ⟨by decide,rfl⟩⟩⟩;have hr:mm zp:=⟨⟨by decide,by decide⟩,.inr ⟨rfl,rP _ (gz 2 DW rfl),.inr ⟨by decide,rfl⟩⟩⟩;have hn:mm rR:=⟨⟨by decide,by decide⟩,.inr ⟨rfl,rP _ (gz 4 DX rfl),.inr ⟨by decide,rfl⟩⟩⟩;have ho:mm qq:=⟨⟨by decide,by decide⟩,.inr ⟨rfl,rP _ (gz 5 DY rfl),.inr ⟨by decide,rfl⟩⟩⟩;intro t ht;simp only[ml,ar,List.mem_append,List.mem_cons,List.mem_map,List.not_mem_nil,or_false]at ht;rcases ht with((rfl|⟨s,ae,rfl⟩)|rfl|rfl)|⟨s,ae,rfl⟩|rfl|rfl|rfl
 . exact au
 . exact xO s (hl s (List.mem_append.2 (.inl ae)))
 . exact hs
 . exact hr
 . exact xO s (hl s (List.mem_append.2 (.inr ae)))
 . exact ad
 . exact hn
 . exact ho
theorem aeP(d:Dg):nI ((ml d).map (·.name)):=by
 have h:decide (((ml (aQ true)).map (·.name)).Nodup)=true:=by kernel_rfl
 have h2:(((ml (aQ true)).map (·.name)).all λs=> !decide (s=⟨#[]⟩))=true:=by kernel_rfl
 have e:(ml d).map (·.name)=(ml (aQ true)).map (·.name):=rfl;rw[e];exact⟨of_decide_eq_true h,λs hs=>by simpa using List.all_eq_true.1 h2 s hs⟩
theorem Ko{l l':List Tok}(h:l.map Tok.strip=l'.map Tok.strip){t:Tok}(ht:t∈l):∃t'∈l',t.strip=t'.strip:=by
 have:t.strip∈l'.map Tok.strip:=by rw[<-h];exact List.mem_map_of_mem ht
 obtain⟨t',h1,h2⟩:=List.mem_map.1 this;exact⟨t',h1,h2.symm⟩
theorem aeQ{l l':List Tok}(h:l.map Tok.strip=l'.map Tok.strip):l.map (·.name)=l'.map (·.name):=by
 have:=congrArg (List.map (·.name)) h;simpa[List.map_map,Function.comp_def,Tok.strip]using this
structure D5(r:fp)(l:List Tok):Prop where
 strip:l.map Tok.strip=(ar++gT r.marks (cL bx r.x).conds.length).map Tok.strip
 cond:∀t∈l,lK (cL bx r.x).conds.length t.cond
theorem xP(r:fp)(hr:r.Ok):D5 r (cI r).ar:=by
 have hg:=vD r.x hr.x;have af:=hg.room.conds;have h0:D5 r ((cL bx r.x).ar++gT r.marks (cL bx r.x).conds.length):=by
  refine⟨by rw[List.map_append,List.map_append,hg.tk],λt ht=> ?_⟩;rcases List.mem_append.1 ht with ht|ht
  . exact hg.tc t ht
  . have:=(vG r.marks (cL bx r.x).conds.length).subset ht;simp only[List.mem_append,List.mem_cons,List.mem_map,List.not_mem_nil,or_false]at this;rcases this with⟨s,_,rfl⟩|rfl|rfl|rfl
    . exact vB _ af
    . exact DO _ _ hr.marks.1 hr.marks.2 af
    . exact vB _ af
    . exact vB _ af
 unfold cI;simp only
 split
 . refine⟨by rw[<-h0.strip];exact JM _ _ _,λt ht=> ?_⟩;rcases mem_modify ht with ht|ht
   . exact h0.cond t ht
   . rw[ht];have h:((List.range 4).all λn=>vA n (aQ false))=true:=by kernel_rfl
     exact xM (List.all_eq_true.1 h _ (by simp;omega))
 . exact h0
theorem aeR(r:fp):Ext (cL bx r.x) (cI r):=by
 have h0:Ext (cL bx r.x) {cL bx r.x with ar:=(cL bx r.x).ar++gT r.marks (cL bx r.x).conds.length}:=
  ⟨rfl,rfl,λi t ht=>⟨t,by
   show((cL bx r.x).ar++gT r.marks (cL bx r.x).conds.length)[i]? =some t;rw[List.getElem?_append_left (List.getElem?_eq_some_iff.1 ht).1];exact ht,rfl,rfl⟩,λi p hp=>hp⟩
 unfold cI;simp only
 split
 . have h1:=JL {cL bx r.x with ar:=(cL bx r.x).ar++gT r.marks (cL bx r.x).conds.length} 9 (aQ false);exact⟨h1.conds.trans h0.conds,h1.aH.trans h0.aH,λi t ht=>by
    obtain⟨t',a,b,c⟩:=h0.ar i t ht;obtain⟨t2,a2,b2,c2⟩:=h1.ar i t' a;exact⟨t2,a2,b2.trans b,c2.trans c⟩,λi p hp=>h1.ak i p (h0.ak i p hp)⟩
 . exact h0
theorem vH(r:fp):(cI r).conds=(cL bx r.x).conds/\(cI r).family=(cL bx r.x).family/\(cI r).aH=(cL bx r.x).aH/\(cI r).ak=(cL bx r.x).ak/\(cI r).start=(cL bx r.x).start/\(cI r).bd=(cL bx r.x).bd/\(cI r).bp=(cL bx r.x).bp:=by
 unfold cI;simp only
 split<;>exact⟨rfl,rfl,rfl,rfl,rfl,rfl,rfl⟩
theorem Kq{g:ai}{r:fp}(h:D5 r g.ar)(hc:g.conds=(cL bx r.x).conds):Df g:=by
 have ab:(ar++gT r.marks (cL bx r.x).conds.length).Sublist (ml (cB bx r.marks (cL bx r.x).conds.length)):=List.Sublist.append (List.Sublist.refl _) (vG _ _);have hn:=aeP (cB bx r.marks (cL bx r.x).conds.length);have hs:=ab.map (·.name);have hlen:=ab.length_le;have av:(ml (cB bx r.marks (cL bx r.x).conds.length)).length=17:=rfl;have ay:g.ar.length=(ar++gT r.marks (cL bx r.x).conds.length).length:=by have:=congrArg List.length h.strip;simpa using this
 refine⟨?_,by omega,λt ht=> ?_⟩
 . rw[aeQ h.strip];exact⟨hn.1.sublist hs,λs ae=>hn.2 s (hs.subset ae)⟩
 . obtain⟨t',h1,h2⟩:=Ko h.strip ht;have q:=(Km _ t' (ab.subset h1)).strip h2;exact⟨q.cls.1,q.cls.2,by rw[hc];exact h.cond t ht,q.k⟩
theorem D6(r:fp)(hr:r.Ok):GV (cI r):=by
 have hg:=vD r.x hr.x;have he:=aeR r;have ht:=Kq (xP r hr) (vH r).1;obtain⟨e1,e2,e3,e4,e5,e6,e7⟩:=vH r;have aa:=hg.room;have hp:=hg.nP;refine⟨⟨by rw[e1];have:=aa.conds;omega,ht.len,by rw[e7];have:=aa.bp;omega,by rw[e3];have:=aa.aH;omega,by rw[e4];omega,by rw[e6];have:=aa.bd;omega,λp hp=> ?_⟩,
  ⟨by rw[e1];exact hg.c9.new,by rw[e1];exact hg.c9.id,by rw[e1];exact hg.c9.len,by rw[e1,e2];exact hg.c9.c9⟩,ht,⟨by rw[e3];exact hg.aH.1,by rw[e5,hg.aH.2];exact Int.le_refl 0,by rw[e3,e5,hg.aH.2];have:=aa.aH;omega⟩,
  ⟨by rw[e4];exact hg.new,by rw[e4];omega,λp hp=>(hg.ok p (by rw[<-e4];exact hp)).ext he⟩,
  ⟨by rw[e6];exact hg.nd,by rw[e6];have:=aa.bd;omega,λl hl=>by rw[e6]at hl;have:=aa.mM l hl;omega,λl hl=>(hg.qn l (by rw[<-e6];exact hl)).ext he⟩,
  ⟨by rw[e7];have:=aa.bp;omega,λf hf=>by rw[e7]at hf;rw[e1];exact⟨(hg.lg f hf).1,(hg.lg f hf).2.ext he⟩⟩⟩
 rw[e4]at hp;have:=(hg.ok p hp).aj;exact⟨this.len,this.rJ⟩
theorem aeS(r:fp)(hr:r.Ok):ax E false 30 [.agg (cI r).e] (iV 0):=by
 obtain⟨NU,hE⟩:=aee r.x hr.x;obtain⟨e1,e2,e3,e4,e5,e6,e7⟩:=vH r;refine JK (cI r) (D6 r hr) NU (λdH p hp=> ?_) (λdH p hp=> ?_)
 . exact hE.JZ p (by rw[<-e4];exact hp)
 . intro k s hk hs ao;have:=hE.J0 p (by rw[<-e4];exact hp) k s hk hs ao;exact⟨this.1,by show s.idx<(cI r).aH.length;rw[e3];exact this.2⟩
end Go.Sp
end

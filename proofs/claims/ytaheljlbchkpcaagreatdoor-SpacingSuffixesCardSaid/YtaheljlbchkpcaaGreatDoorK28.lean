/- SpacingSuffixes: parts of its proof (ClUB Dg5 Dv1 Dc1). -/
import Derived.Test.YtaheljlbchkpcaaGreatDoorK20
import Derived.Test.YtaheljlbchkpcaaGreatDoorK24
import Derived.Test.YtaheljlbchkpcaaGreatDoorK27
set_option linter.unusedVariables false
set_option linter.unusedSimpArgs false
noncomputable section
open Go Go.aw Go.Proofs
namespace Go.Sp
set_option maxRecDepth 100000
theorem aaF:∀p∈(ie.drop (14*4)).take 14,ig p:=bO (by kernel_rfl)
theorem aaG:∀p∈(ie.drop (14*5)).take 14,ig p:=bO (by kernel_rfl)
theorem aaH:∀p∈(ie.drop (14*6)).take 14,ig p:=bO (by kernel_rfl)
theorem aaI:∀p∈(ie.drop (14*7)).take 14,ig p:=bO (by kernel_rfl)
end Go.Sp
end
noncomputable section
open Go Go.aw Go.Proofs
namespace Go.Sp
set_option maxRecDepth 100000
theorem iq.Jh{h:aa}{B M i:Nat}(k:Nat)(hb:iq h B M i []):iq h B M k []:=by
 obtain⟨⟨sl,h1,h2⟩,h3,h5,h6⟩:=hb;refine⟨⟨sl,h1, ?_⟩,h3,h5,h6⟩;rcases h2 with h2|⟨e1,_⟩
 . exact .inl h2
 . exact absurd rfl e1
theorem iq.put{h:aa}{B M i j:Nat}{N:List Br}(hb:iq h B M i N)(o:Option bK)(h1:j≠B)(h2:j≠M)(h3:N≠[]->j≠i):iq (h.set j o) B M i N:=by
 obtain⟨⟨sl,a1,a2⟩,⟨es,cl,a3,a4⟩,a5,a6,a7⟩:=hb;refine⟨⟨sl, ?_, ?_⟩,⟨es,cl, ?_,a4⟩,a5,a6,a7⟩
 . rw[bq _ _ _ _ (by omega)];exact a1
 . rcases a2 with a2|⟨e1,e2,e3,e4,e5⟩
   . exact .inl a2
   . exact .inr ⟨e1,e2,by rw[bq _ _ _ _ (by have:=h3 e1;omega)];exact e3,e4,e5⟩
 . rw[bq _ _ _ _ (by omega)];exact a3
theorem acN{h:aa}{B M i:Nat}{N:List Br}(hb:iq h B M i N)(ok:eG N)(v3:∀x∈N,x.1<3){v l u:Nat}(hv:v<3)(hl:l<N.length+2)(hu:u<N.length+2)(h1:v<b8 N l)(h2:v<b8 N u)(hi:i<h.next):
 ∃r H' i' N',bS E 178 [.pointer (some ⟨B,0,none⟩),.int .i64 v,.int .i64 l,.int .i64 u] h (.int .i64 (r:Nat)) H'/\iq H' B M i' N'/\N<+:N'/\eG N'/\(∀x∈N',x.1<3)/\r<N'.length+2/\
  (∀ρ,tb N' r ρ=if ρ v then tb N u ρ else tb N l ρ)/\(h.next<=H'.next/\∀j o,j<h.next->j≠B->j≠M->(N≠[]->j≠i)->h.get j=some o->H'.get j=some o)/\(i'=i\/h.next<=i')/\i'<H'.next/\(N'≠[]->N=[]->h.next<=i'):=by
 have hN:=Ds ok v3;by_cases hn:N=[]
 . subst hn;obtain⟨r,H',i',N',a1,a2,a3,a4,a5,a6,a7,a8,a9,dZ,dR⟩:=Jg (hb.Jh B) ok v3 hv hl hu h1 h2 (by omega) hb.lt.1;by_cases bb:N'=[]
   . subst bb;exact⟨r,H',i,[],a1,a2.Jh i,a3,a4,a5,a6,a7,⟨a8.next,λj o b1 b2 b3 _ b4=>a8.get j o b1 b2 b3 b2 b4⟩,.inl rfl,Nat.lt_of_lt_of_le hi a8.next,λh=>absurd rfl h⟩
   . exact⟨r,H',i',N',a1,a2,a3,a4,a5,a6,a7,⟨a8.next,λj o b1 b2 b3 _ b4=>a8.get j o b1 b2 b3 b2 b4⟩,.inr (dR bb rfl),dZ,dR⟩
 . obtain⟨r,H',i',N',a1,a2,a3,a4,a5,a6,a7,a8,a9,dZ,dR⟩:=Jg hb ok v3 hv hl hu h1 h2 (by omega) hi;exact⟨r,H',i',N',a1,a2,a3,a4,a5,a6,a7,⟨a8.next,λj o b1 b2 b3 b4 b5=>a8.get j o b1 b2 b3 (b4 hn) b5⟩,a9,dZ,dR⟩
theorem Dt{N:List Br}(v3:∀x∈N,x.1<3){n:Nat}(hn:n<N.length+2)(h2:¬n<2):b8 N n<3:=by
 obtain⟨⟨v,l,u⟩,hx⟩:∃x,N[n-2]? =some x:=⟨_,List.getElem?_eq_getElem (by omega)⟩;rw[mj (by omega) hx];exact v3 _ (List.mem_of_getElem? hx)
theorem KC.of{K:Kt}{ds:List Deferred}{h:aa}{f:FuncId}{args:List Value}{P:Value->aa->Prop}(hr:∃v h',bS E f args h v h'/\P v h')(hk:∀v h',P v h'->K v ds h'):KC E K ds h (f,args):=by
 obtain⟨v,h',h1,h2⟩:=hr;exact⟨v,h',h1,hk v h' h2⟩
section
variable {b:Nat} {h0:aa} {d0 d1 d2:oV} {fo:Nat} {cap:List Value} {op:Bool->Bool->Bool->Bool} {H:aa} {i:Nat} {N:List Br} {L:List ((Nat×Nat×Nat)×Nat)}
set_option maxHeartbeats 0 in
theorem acO(S:zG b h0 d0 d1 d2 fo cap op)(I:qk b h0 d0 d1 d2 fo cap op H i N L){x y z:Nat}(hc:¬(x<2/\y<2/\z<2))(hk:bf L (x,y,z)=none)
 (ao:x<d0.ns.length+2) (au:y<d1.ns.length+2) (av:z<d2.ns.length+2)
 (IH:∀(x' y' z':Nat) (H1:aa) (i1:Nat) (N1:List Br) (L1:List ((Nat×Nat×Nat)×Nat)),x'+y'+z'<x+y+z->x'<d0.ns.length+2->y'<d1.ns.length+2->z'<d2.ns.length+2->qk b h0 d0 d1 d2 fo cap op H1 i1 N1 L1->
  ∃v' H',bS E 176 (.agg #[.int .i64 x',.int .i64 y',.int .i64 z']::mP b) H1 v' H'/\Dm b h0 d0 d1 d2 fo cap op H1 i1 N1 x' y' z' v' H'):
 ∃v H',bS E 176 (.agg #[.int .i64 x,.int .i64 y,.int .i64 z]::mP b) H v H'/\Dm b h0 d0 d1 d2 fo cap op H i N x y z v H':=by
 have r1:rd H (b+7) 0=some (.map (some (b+6))):=cZ (o:=0) I.nM;have hn:=I.nx;obtain⟨es,clock,hM,bw⟩:=I.kG;have aC:=Bw Dc Da bw (x,y,z) true clock yY rfl hk;simp only[oS,cond_true]at aC;have l0:rd H b 0=some d0.sl:=cZ (o:=0) I.lB;have l1:rd H b 1=some (.int .i64 d0.r):=cZ (o:=1) I.lB;have l2:rd H b 2=some d1.sl:=cZ (o:=2) I.lB;have l3:rd H b 3=some (.int .i64 d1.r):=cZ (o:=3) I.lB;have l4:rd H b 4=some d2.sl:=cZ (o:=4) I.lB;have l5:rd H b 5=some (.int .i64 d2.r):=cZ (o:=5) I.lB;have hS:∀a,Sub h0 (H.new a):=λa=>I.sub.new a;refine run Cj rfl Tryz.ntmps176 Tryz.results176 ?_;have bx:(¬(x:Int)<2)\/((x:Int)<2/\¬(y:Int)<2)\/((x:Int)<2/\(y:Int)<2/\¬(z:Int)<2):=by omega
 obtain⟨v,hv,bZ,b0⟩:∃v:Nat,min ((b8 d0.ns x:Nat):Int) (min ((b8 d1.ns y:Nat):Int) ((b8 d2.ns z:Nat):Int))=(v:Int)/\v<3/\v=min (b8 d0.ns x) (min (b8 d1.ns y) (b8 d2.ns z)):=by
  refine⟨min (b8 d0.ns x) (min (b8 d1.ns y) (b8 d2.ns z)),by omega, ?_,rfl⟩;have q0:=λh=>Dt S.d0.2.2.1 ao h;have q1:=λh=>Dt S.d1.2.2.1 au h;have q2:=λh=>Dt S.d2.2.2.1 av h;omega
 have ab:v<64:=by omega
 have aE:=λb=>Dn S.d0.2.1 ao ab b;have aF:=λb=>Dn S.d1.2.1 au ab b;have aI:=λb=>Dn S.d2.2.1 av ab b;have ay:∀b,side d0.ns x v b+side d1.ns y v b+side d2.ns z v b<x+y+z:=λb=>by
  have a0:=aE b;have a1:=aF b;have a2:=aI b;have:b8 d0.ns x=v\/b8 d1.ns y=v\/b8 d2.ns z=v:=by omega
  rcases this with h|h|h
  . have:=a0.2 h;omega
  . have:=a1.2 h;omega
  . have:=a2.2 h;omega
 have bA:=λb ρ=>Dp S.d0.2.1 ao ab (by omega) b ρ;have bB:=λb ρ=>Dp S.d1.2.1 au ab (by omega) b ρ;have bD:=λb ρ=>Dp S.d2.2.1 av ab (by omega) b ρ;obtain⟨T,hT⟩:∃T:dx->Bool,∀ρ,T ρ=op (tb d0.ns x ρ) (tb d1.ns y ρ) (tb d2.ns z ρ):=⟨_,λ_=>rfl⟩;have bc:∀b ρ,op (tb d0.ns (side d0.ns x v b) ρ) (tb d1.ns (side d1.ns y v b) ρ) (tb d2.ns (side d2.ns z v b) ρ)=T (db ρ v b):=λb ρ=>by rw[hT,bA,bB,bD]
 have bg:∀ρ w c,w<v->T (db ρ w c)=T ρ:=λρ w c hw=>by
  rw[hT,hT,iY S.d0.2.1 ao (by omega),iY S.d1.2.1 au (by omega),iY S.d2.2.1 av (by omega)]
 rcases bx with hx|⟨hx,hy⟩|⟨hx,hy,hz⟩
 all_goals
 . first
    |simp(disch:=omega)[go_sem,mP,dU,du,bI,r1,hM,aC,hx,hy,hz]
    |simp(disch:=omega)[go_sem,mP,dU,du,bI,r1,hM,aC,hx,hy]
    |simp(disch:=omega)[go_sem,mP,dU,du,bI,r1,hM,aC,hx]
   refine lC [⟨.pure,0,none⟩,⟨.read,1,none⟩,⟨.pure,0,none⟩,⟨.read,4,none⟩,⟨.effect,15,none⟩,⟨.pure,0,none⟩,⟨.read,32,some (0,2)⟩,⟨.pure,0,none⟩,⟨.read,128,some (0,2)⟩,⟨.effect,511,none⟩,⟨.pure,0,none⟩,⟨.read,1024,some (0,3)⟩,⟨.pure,0,none⟩,⟨.read,4096,some (0,3)⟩,⟨.effect,16383,none⟩,⟨.read,32767,none⟩,⟨.pure,65535,none⟩] (by kernel_rfl) 0 rfl ?_;simp(disch:=omega)[go_sem,dU,du,gJ,ep,bI,dC,bq,l0,l1,l2,l3,l4,l5,hv,aD];refine KC.mk (xz _ _ (S.d0.sub (hS _)).1 ao (by have:=S.d0.2.2.2;omega)) ?_;simp(disch:=omega)[go_sem,dU,du,gJ,ep,bI,dC,bq,l0,l1,l2,l3,l4,l5,hv,aD];refine KC.mk (xz _ _ (S.d1.sub (hS _)).1 au (by have:=S.d1.2.2.2;omega)) ?_;simp(disch:=omega)[go_sem,dU,du,gJ,ep,bI,dC,bq,l0,l1,l2,l3,l4,l5,hv,aD];refine KC.mk (xz _ _ (S.d2.sub (hS _)).1 av (by have:=S.d2.2.2.2;omega)) ?_;simp(disch:=omega)[go_sem,dU,du,gJ,ep,bI,dC,bq,l0,l1,l2,l3,l4,l5,hv,acB];refine yC ?_;simp(disch:=first|omega|(simp only[aa.aZ,aa.aS,bL];omega)) [go_sem,dU,du,gJ,ep,bI,dC,bq,l0,l1,l2,l3,l4,l5,hv,aD];refine lC [⟨.pure,0,none⟩,⟨.pure,0,none⟩,⟨.pure,0,none⟩,⟨.pure,4,none⟩,⟨.read,12,none⟩,⟨.pure,0,none⟩,⟨.pure,32,none⟩,⟨.read,96,none⟩,⟨.pure,0,none⟩,⟨.effect,508,none⟩,⟨.pure,1020,none⟩,⟨.pure,2044,none⟩,⟨.pure,2044,none⟩,⟨.pure,4093,none⟩,⟨.effect,12285,none⟩,⟨.pure,32767,none⟩,⟨.effect,65535,none⟩] (by kernel_rfl) 0 rfl ?_;simp(disch:=first|omega|(simp only[aa.aZ,aa.aS,bL];omega)) [go_sem,dU,du,gJ,ep,bI,dC,bq,l0,l1,l2,l3,l4,l5,hv,aD];refine KC.mk (C7 _ _ _ (S.d0.sub (((hS _).new _).new _)).1 ao (by have:=S.d0.2.2.2;omega) ab) ?_;simp(disch:=first|omega|(simp only[aa.aZ,aa.aS,bL];omega)) [go_sem,dU,du,gJ,ep,bI,dC,bq,l0,l1,l2,l3,l4,l5,hv,aD];refine yC ?_;simp(disch:=first|omega|(simp only[aa.aZ,aa.aS,bL];omega)) [go_sem,dU,du,gJ,ep,bI,dC,bq,l0,l1,l2,l3,l4,l5,hv,aD];refine lC [⟨.pure,0,none⟩,⟨.pure,0,none⟩,⟨.pure,0,none⟩,⟨.pure,4,none⟩,⟨.read,12,none⟩,⟨.pure,0,none⟩,⟨.pure,32,none⟩,⟨.read,96,none⟩,⟨.pure,0,none⟩,⟨.effect,508,none⟩,⟨.pure,1020,none⟩,⟨.pure,2044,none⟩,⟨.pure,2044,none⟩,⟨.pure,4093,none⟩,⟨.effect,12285,none⟩,⟨.pure,32767,none⟩,⟨.effect,65535,none⟩] (by kernel_rfl) 0 rfl ?_;simp(disch:=first|omega|(simp only[aa.aZ,aa.aS,bL];omega)) [go_sem,dU,du,gJ,ep,bI,dC,bq,l0,l1,l2,l3,l4,l5,hv,aD];have bh:∀a b c,Sub h0 (((H.new a).new b).new c):=λa b c=>((hS a).new b).new c;have ad:∀g o j,Sub h0 g->b+9<=j->Sub h0 (g.set j o):=λg o j hg hj=>hg.set (by have:=S.b;omega) o;refine KC.mk (C7 _ _ _ (S.d1.sub (ad _ _ _ (ad _ _ _ (bh _ _ _) (by omega)) (by omega))).1 au (by have:=S.d1.2.2.2;omega) ab) ?_;simp(disch:=first|omega|(simp only[aa.aZ,aa.aS,bL];omega)) [go_sem,dU,du,gJ,ep,bI,dC,bq,l0,l1,l2,l3,l4,l5,hv,aD];refine yC ?_;simp(disch:=first|omega|(simp only[aa.aZ,aa.aS,bL];omega)) [go_sem,dU,du,gJ,ep,bI,dC,bq,l0,l1,l2,l3,l4,l5,hv,aD];refine lC [⟨.pure,0,none⟩,⟨.pure,0,none⟩,⟨.pure,0,none⟩,⟨.pure,4,none⟩,⟨.read,12,none⟩,⟨.pure,0,none⟩,⟨.pure,32,none⟩,⟨.read,96,none⟩,⟨.pure,0,none⟩,⟨.effect,508,none⟩,⟨.pure,1020,none⟩,⟨.pure,2044,none⟩,⟨.pure,2044,none⟩,⟨.pure,4093,none⟩,⟨.effect,12285,none⟩,⟨.pure,32767,none⟩,⟨.effect,65535,none⟩] (by kernel_rfl) 0 rfl ?_;simp(disch:=first|omega|(simp only[aa.aZ,aa.aS,bL];omega)) [go_sem,dU,du,gJ,ep,bI,dC,bq,l0,l1,l2,l3,l4,l5,hv,aD];refine KC.mk (C7 _ _ _ (S.d2.sub (ad _ _ _ (ad _ _ _ (ad _ _ _ (ad _ _ _ (bh _ _ _) (by omega)) (by omega)) (by omega)) (by omega))).1 av (by have:=S.d2.2.2.2;omega) ab) ?_;simp(disch:=first|omega|(simp only[aa.aZ,aa.aS,bL];omega)) [go_sem,dU,du,gJ,ep,bI,dC,bq,l0,l1,l2,l3,l4,l5,hv,aD];refine yC ?_;simp(disch:=first|omega|(simp only[aa.aZ,aa.aS,bL];omega)) [go_sem,dU,du,gJ,ep,bI,dC,bq,l0,l1,l2,l3,l4,l5,hv,aD];have a8:rd H (b+8) 0=some (vn b):=cZ (o:=0) I.zH;simp(disch:=first|omega|(simp only[aa.aZ,aa.aS,bL];omega)) [go_sem,dU,du,gJ,ep,bI,dC,bq,l0,l1,l2,l3,l4,l5,hv,aD,a8,vn];refine KC.of (IH _ _ _ _ _ _ _ (ay false) (by have:=aE false;omega) (by have:=aF false;omega) (by have:=aI false;omega) (I.mono ?_)) ?_
   . repeat first|exact Sub.refl _|refine Sub.new ?_ _|refine Sub.set ?_ (by omega) _
   . rintro _ H1 ⟨r,i1,N1,L1,rfl,I1,bF,bG,bH,⟨bN,aJ⟩,bO⟩;have gp:H1.get H.next=some (.row [.int .i64 x,.int .i64 y,.int .i64 z] true 0):=aJ _ _ (by simp only[aa.aZ,aa.aS,bL];omega) (by omega) (by omega) (by omega) (by have:=I.il;omega) (by simp(disch:=first|omega|(simp only[aa.aZ,aa.aS,bL];omega)) [eD,bq,bI,dC]);have gh:H1.get (H.next+1+1)=some (.row [.int .i64 (side d0.ns x v true),.int .i64 (side d1.ns y v true),.int .i64 (side d2.ns z v true)] true 0):=aJ _ _ (by simp only[aa.aZ,aa.aS,bL];omega) (by omega) (by omega) (by omega) (by have:=I.il;omega) (by simp(disch:=first|omega|(simp only[aa.aZ,aa.aS,bL];omega)) [eD,bq,bI,dC]);simp only[aa.aZ,aa.aS,bL]at bN bO;have p0:rd H1 H.next 0=some (.int .i64 x):=cZ (o:=0) gp;have p1:rd H1 H.next 1=some (.int .i64 y):=cZ (o:=1) gp;have p2:rd H1 H.next 2=some (.int .i64 z):=cZ (o:=2) gp;have g0:rd H1 (H.next+1+1) 0=some (.int .i64 (side d0.ns x v true)):=cZ (o:=0) gh;have g1:rd H1 (H.next+1+1) 1=some (.int .i64 (side d1.ns y v true)):=cZ (o:=1) gh;have g2:rd H1 (H.next+1+1) 2=some (.int .i64 (side d2.ns z v true)):=cZ (o:=2) gh;have bj:rd H1 (b+8) 0=some (vn b):=cZ (o:=0) I1.zH;have aL:rd H1 (b+5) 0=some (.pointer (some ⟨b+4,0,none⟩)):=cZ (o:=0) I1.bC;simp(disch:=first|omega|(simp only[aa.aZ,aa.aS,bL];omega)) [go_sem,bj,aL,p0,p1,p2,g0,g1,g2,vn];refine lC [⟨.read,0,some (0,2)⟩,⟨.pure,0,none⟩,⟨.pure,0,none⟩,⟨.read,0,none⟩,⟨.read,0,none⟩,⟨.effect,24,none⟩,⟨.effect,63,none⟩,⟨.pure,127,none⟩] (by kernel_rfl) 0 rfl ?_;simp(disch:=first|omega|(simp only[aa.aZ,aa.aS,bL];omega)) [go_sem,bj,aL,p0,p1,p2,g0,g1,g2,vn];refine KC.of (IH _ _ _ _ _ _ _ (ay true) (by have:=aE true;omega) (by have:=aF true;omega) (by have:=aI true;omega) I1) ?_;rintro _ H2 ⟨r',i2,N2,L2,rfl,I2,aN,bk,bP,⟨AX,bl⟩,dS⟩;have b6:=I.il;have bQ:H2.get H.next=some (.row [.int .i64 x,.int .i64 y,.int .i64 z] true 0):=bl _ _ (by omega) (by omega) (by omega) (by omega) (by omega) gp;have t1:∀ρ,tb N2 r ρ=T (db ρ v false):=λρ=>by rw[zE I1.jZ aN bG,bH,bc]
     have t2:∀ρ,tb N2 r' ρ=T (db ρ v true):=λρ=>by rw[bP,bc]
     have az:r<N2.length+2:=by have:=aN.length_le;omega
     obtain⟨rb,H3,i3,N3,aO,bR,aQ,bT,bU,bn,bo,⟨GC,bW⟩,pq,aR,aT⟩:=acN I2.xB I2.jZ I2.v3 (v:=v) (l:=r) (u:=r') (by omega) az bk
      (Jd I2.jZ az ab bg t1 λa b c=>zF I2.jZ a b c) (Jd I2.jZ bk ab bg t2 λa b c=>zF I2.jZ a b c) I2.il
     simp(disch:=first|omega|(simp only[aa.aZ,aa.aS,bL];omega)) [go_sem,aD];refine KC.mk aO ?_;have b7:=I2.nx;have k3:∀j o,j<H2.next->j≠b+4->j≠b+3->(b+9<=j->j≠i2)->H2.get j=some o->H3.get j=some o:=λj o h1 h2 h3 h4 h5=>bW j o h1 h2 h3 (λaB=>by
      have:=I2.ii aB;rcases Nat.lt_or_ge j (b+9)with h|h
      . omega
      . exact h4 h) h5
     have aU:=k3 _ _ (by omega) (by omega) (by omega) (λ_=>by omega) bQ;obtain⟨b9,ai,bX,aX⟩:=I2.kG;have bY:=k3 _ _ (by omega) (by omega) (by omega) (λh=>by omega) bX;have m3:rd H3 (b+7) 0=some (.map (some (b+6))):=cZ (o:=0) (k3 _ _ (by omega) (by omega) (by omega) (λh=>by omega) I2.nM);obtain⟨bs,ae,bt,aY⟩:=wH Dc (vf:=iC) Da aX (x,y,z) ai rb;simp only[oS,iC]at bt;have q0:rd H3 H.next 0=some (.int .i64 x):=cZ (o:=0) aU;have q1:rd H3 H.next 1=some (.int .i64 y):=cZ (o:=1) aU;have q2:rd H3 H.next 2=some (.int .i64 z):=cZ (o:=2) aU;simp(disch:=first|omega|(simp only[aa.aZ,aa.aS,bL];omega)) [go_sem,aD,m3,q0,q1,q2,bY,bt];refine⟨⟨aL,cZ (o:=0) I2.bC⟩,rb,i3,N3,put L2 (x,y,z) rb,rfl, ?_,(bF.trans aN).trans aQ,bn,λρ=> ?_,⟨?_,λj o h1 h2 h3 h4 h5 h6=> ?_⟩, ?_⟩
     . have hs:=I2.sub;have ca:=S.b;have kk:∀j o,j<H2.next->j≠b+4->j≠b+3->j≠b+6->(b+9<=j->j≠i2)->H2.get j=some o->(H3.set (b+6) (some (bK.map bs ae))).get j=some o:=λj o h1 h2 h3 h4 h5 h6=>by
        rw[bq _ _ _ _ h4];exact k3 j o h1 h2 h3 h5 h6
       have bu:N3≠[]->b+9<=i3:=λaB=>by
        by_cases h:N2=[]
        . have:=aT aB h;omega
        . have:=I2.ii h;omega
       refine⟨⟨?_,λj o hj ho=>kk j o ?_ (by omega) (by omega) (by omega) (λ_=>by omega) (hs.get j o hj ho)⟩, ?_,kk _ _ (by omega) (by omega) (by omega) (by omega) (λ_=>by omega) I2.lB,kk _ _ (by omega) (by omega) (by omega) (by omega) (λ_=>by omega) I2.Dk,kk _ _ (by omega) (by omega) (by omega) (by omega) (λ_=>by omega) I2.bC,
        kk _ _ (by omega) (by omega) (by omega) (by omega) (λ_=>by omega) I2.nM,kk _ _ (by omega) (by omega) (by omega) (by omega) (λ_=>by omega) I2.zH,bR.put _ (by omega) (by omega) (λaB=>by have:=bu aB;omega),bu,aR,⟨bs,ae,eD _ _ _,aY⟩,bT,bU,λx' y' z' cb af=> ?_⟩
       . have:=hs.next;simp only[aa.aS];omega
       . have:=hs.next;omega
       . simp only[aa.aS];omega
       . rw[nq]at af
         split at af
         . rename_i he;cases af;cases he;exact⟨bn,λρ=>by rw[bo,<-hT,Jc t1 t2]⟩
         . obtain⟨c1,c2⟩:=I2.Dl _ _ _ _ af;exact⟨by have:=aQ.length_le;omega,λρ=>by rw[zE I2.jZ aQ c1,c2]⟩
     . rw[bo,<-hT,Jc t1 t2]
     . simp only[aa.aS];omega
     . rw[bq _ _ _ _ (by omega)];refine k3 j o (by omega) h3 h2 (λ_=>by omega) (bl j o (by omega) h2 h3 h4 (by omega) (aJ j o (by simp only[aa.aZ,aa.aS,bL];omega) h2 h3 h4 h5 ?_));simp(disch:=first|omega|(simp only[aa.aZ,aa.aS,bL];omega)) only[bq,bI];exact h6
     . omega
theorem Ji(S:zG b h0 d0 d1 d2 fo cap op):∀(n x y z:Nat) (H:aa) (i:Nat) (N:List Br) (L:List ((Nat×Nat×Nat)×Nat)),x+y+z<n->x<d0.ns.length+2->y<d1.ns.length+2->z<d2.ns.length+2->qk b h0 d0 d1 d2 fo cap op H i N L->
 ∃v H',bS E 176 (.agg #[.int .i64 x,.int .i64 y,.int .i64 z]::mP b) H v H'/\Dm b h0 d0 d1 d2 fo cap op H i N x y z v H'
 |0,_,_,_,_,_,_,_,h,_,_,_,_=>absurd h (by omega)
 |n+1,x,y,z,H,i,N,L,h,hx,hy,hz,I=>by
  by_cases hc:x<2/\y<2/\z<2
  . obtain⟨c0,c1,c2⟩:=hc;refine⟨_,_,acC S I c0 c1 c2,_,i,N,L,rfl,I,List.prefix_refl _, ?_,λρ=> ?_,⟨Nat.le_refl _,λ_ _ _ _ _ _ _ h=>h⟩,.inl rfl⟩
    . split<;>omega
    . rw[oT c0,oT c1,oT c2];cases op (decide (x=1)) (decide (y=1)) (decide (z=1))<;>simp[oT]
  . cases hk:bf L (x,y,z)with
    |some r=>
     obtain⟨c0,c1⟩:=I.Dl _ _ _ _ hk;exact⟨_,_,acD I hc hk,r,i,N,L,rfl,I,List.prefix_refl _,c0,c1,⟨Nat.le_refl _,λ_ _ _ _ _ _ _ h=>h⟩,.inl rfl⟩
    |none=>
     exact acO S I hc hk hx hy hz λx' y' z' H1 i1 N1 L1 hs c0 c1 c2 I1=>Ji S n x' y' z' H1 i1 N1 L1 (by omega) c0 c1 c2 I1
end
end Go.Sp
end
noncomputable section
open Go Go.aw Go.Proofs
namespace Go.Sp
set_option maxRecDepth 100000
abbrev Seen:Type:=List (Nat×Nat)×List Br
def gP(node:Nat->Option Br):Nat->Nat->Seen->Nat×Seen
 |0,_,s=>(0,s)
 |k+1,n,s=>match bf s.1 n with
  |some m=>(m,s)
  |none=>match node n with
   |none=>(0,s)
   |some x=>
    let a:=gP node k x.2.1 s
    let b:=gP node k x.2.2 a.2
    (b.2.2.length+2,put b.2.1 n (b.2.2.length+2),b.2.2++[(x.1,a.1,b.1)])
def j0(N:List Br)(n:Nat):Option Br:=if n<2 then none else N[n-2]?
theorem zI{node:Nat->Option Br}(aL:∀n x,node n=some x->x.2.1<n/\x.2.2<n):∀(k m:Nat) (s:Seen) (q:Nat),m<q->bf s.1 q=none->bf (gP node k m s).2.1 q=none
 |0,_,_,_,_,h=>h
 |k+1,m,s,q,hm,h=>by
  simp only[gP]
  split
  . exact h
  . split
    . exact h
    . rename_i x hx;obtain⟨h1,h2⟩:=aL _ _ hx;simp only;rw[nq,if_neg (by omega)];exact zI aL k _ _ q (by omega) (zI aL k _ _ q (by omega) h)
theorem zJ{N:List Br}(h:eG N):∀n x,j0 N n=some x->x.2.1<n/\x.2.2<n:=λn x hx=>by
 unfold j0 at hx
 split at hx
 . cases hx
 . obtain⟨_,h4,h5,_⟩:=h.ok _ _ hx;omega
theorem Jj{κ ν:Type}[DecidableEq κ]{a:κ}:∀{l:List (κ×ν)},bf l a=none->∀p∈l,p.1≠a
 |[],_,p,hp=>by cases hp
 |(k,v)::r,h,p,hp=>by
  simp only[bf]at h
  split at h
  . cases h
  . rename_i bh;rcases List.mem_cons.1 hp with rfl|hp
    . exactλe=>bh e.symm
    . exact Jj h p hp
theorem vp:E.under 230=some (.map 3 3):=by kernel_rfl
def vq(c:Nat):Value:=.func (.func 154) #[] #[.pointer (some ⟨c+4,0,none⟩),.pointer (some ⟨c,0,none⟩),.pointer (some ⟨c+5,0,none⟩),.pointer (some ⟨c+2,0,none⟩)]
def vt(c:Nat):List Value:=[.pointer (some ⟨c+4,0,none⟩),.pointer (some ⟨c,0,none⟩),.pointer (some ⟨c+5,0,none⟩),.pointer (some ⟨c+2,0,none⟩)]
structure xC(c:Nat)(h0:aa)(B:Nat)(N:List Br):Prop where
 c:h0.next=c
 xB:∃sl m,h0.get B=some (.row [sl,m] true 0)/\kO 3 h0 sl (N.map dJ)
 lt:B<h0.next
 jZ:eG N
 v3:∀x∈N,x.1<3
structure mQ(c:Nat)(h0:aa)(B:Nat)(N:List Br)(H:aa)(i:Nat)(s:Seen):Prop where
 sub:Sub h0 H
 nx:c+6<=H.next
 bC:H.get c=some (.row [.pointer (some ⟨B,0,none⟩)] true 0)
 out:∃sl,H.get (c+2)=some (.row [sl,.int .i64 0] true 0)/\((s.2=[]/\sl=.slice none 0 0)\/(s.2≠[]/\sl=.slice (some ⟨i,0,none⟩) s.2.length s.2.length/\H.get i=some (.row (s.2.flatMap dJ) true 3)/\c+6<=i/\i<H.next))
 kG:∃es clock,H.get (c+3)=some (.map es clock)/\kh iC iC es s.1
 nM:H.get (c+4)=some (.row [.map (some (c+3))] true 0)
 vC:H.get (c+5)=some (.row [vq c] true 0)
 nd:(s.1.map (·.1)).Nodup
 ks:∀p∈s.1,p.1<N.length+2
 len:s.1.length=s.2.length+2
 base:bf s.1 0=some 0/\bf s.1 1=some 1
theorem mQ.small{c:Nat}{h0:aa}{B:Nat}{N:List Br}{H:aa}{i:Nat}{s:Seen}(S:xC c h0 B N)(I:mQ c h0 B N H i s):s.2.length<=254:=by
 have:=Ds S.jZ S.v3;have:=Dq (N.length+2) _ I.nd λx hx=>by
  obtain⟨p,hp,rfl⟩:=List.mem_map.1 hx;exact I.ks p hp
 have:=I.len;simp only[List.length_map]at*;omega
def zK(c:Nat)(h0:aa)(B:Nat)(N:List Br)(H:aa)(i:Nat)(s:Seen)(k n:Nat)(v:Value)(H':aa):Prop:=
 ∃i',v=.int .i64 (gP (j0 N) k n s).1/\mQ c h0 B N H' i' (gP (j0 N) k n s).2/\(H.next<=H'.next/\∀j o,j<H.next->j≠c+2->j≠c+3->(s.2≠[]->j≠i)->H.get j=some o->H'.get j=some o)/\((gP (j0 N) k n s).2.2≠[]->(s.2≠[]/\i'=i)\/H.next<=i')
theorem mQ.mono{c:Nat}{h0:aa}{B:Nat}{N:List Br}{H G:aa}{i:Nat}{s:Seen}(I:mQ c h0 B N H i s)(a:Sub H G):mQ c h0 B N G i s:=by
 have hn:=I.nx;obtain⟨es,cl,h3,h4⟩:=I.kG;obtain⟨sl,o1,o2⟩:=I.out;refine⟨I.sub.trans a,Nat.le_trans hn a.next,a.get _ _ (by omega) I.bC,⟨sl,a.get _ _ (by omega) o1, ?_⟩,⟨es,cl,a.get _ _ (by omega) h3,h4⟩,a.get _ _ (by omega) I.nM,a.get _ _ (by omega) I.vC,I.nd,I.ks,I.len,I.base⟩;rcases o2 with o2|⟨b1,b2,b3,b4,b5⟩
 . exact .inl o2
 . exact .inr ⟨b1,b2,a.get _ _ b5 b3,b4,Nat.lt_of_lt_of_le b5 a.next⟩
theorem mQ.il{c:Nat}{h0:aa}{B:Nat}{N:List Br}{H:aa}{i:Nat}{s:Seen}(I:mQ c h0 B N H i s)(h:s.2≠[]):c+6<=i/\i<H.next:=by
 obtain⟨sl,o1,o2⟩:=I.out;rcases o2 with o2|⟨b1,b2,b3,b4,b5⟩
 . exact absurd o2.1 h
 . exact⟨b4,b5⟩
section
variable {c:Nat} {h0:aa} {B:Nat} {N:List Br} {H:aa} {i:Nat} {s:Seen}
theorem acP(I:mQ c h0 B N H i s){n r:Nat}(hk:bf s.1 n=some r):
 bS E 154 (.int .i64 n::vt c) H (.int .i64 r) H:=by
 have r1:rd H (c+4) 0=some (.map (some (c+3))):=cZ (o:=0) I.nM;have hn:=I.nx;obtain⟨es,clock,hM,aN⟩:=I.kG;have ay:=yG vj vp aN n true clock hk;simp only[iC,cond_true]at ay;refine mB GM rfl Tryz.ntmps154 Tryz.results154 rfl ?_;simp(disch:=omega)[go_sem,vt,du,bI,r1,hM,ay]
theorem acQ(S:xC c h0 B N)(I:mQ c h0 B N H i s){k n:Nat}{x:Br}(hk:bf s.1 n=none)(h2:2<=n)(hx:N[n-2]? =some x)
 (IH:∀(m:Nat) (H1:aa) (i1:Nat) (s1:Seen),m=x.2.1\/m=x.2.2->mQ c h0 B N H1 i1 s1->∃v' H',bS E 154 (.int .i64 m::vt c) H1 v' H'/\zK c h0 B N H1 i1 s1 k m v' H'):
 ∃v H',bS E 154 (.int .i64 n::vt c) H v H'/\zK c h0 B N H i s (k+1) n v H':=by
 have r1:rd H (c+4) 0=some (.map (some (c+3))):=cZ (o:=0) I.nM;have hn:=I.nx;have hc:=S.c;obtain⟨es,clock,hM,aN⟩:=I.kG;have ay:=Bw vj vp aN n true clock yY rfl hk;simp only[iC,cond_true]at ay;obtain⟨sl,m,hB,bj⟩:=S.xB;have aO:=S.lt;obtain⟨b,o,cp,rfl,hb,hj,ae⟩:=bj.at (j:=n-2) (x:=dJ x) (by simp[hx]);have e1:((n:Int)-2).toNat=n-2:=by omega
 simp only[List.length_map]at hj hB⊢;have hN:=Ds S.jZ S.v3;have bk:rd H B 0=some (.slice (some ⟨b,o,none⟩) N.length cp):=I.sub.rd aO (cZ (o:=0) hB);have bl:rd H c 0=some (.pointer (some ⟨B,0,none⟩)):=cZ (o:=0) I.bC;have x0:rd H b (o+(n-2)*3)=some (.int .i64 x.1):=I.sub.rd hb (ae 0 _ rfl);have x1:rd H b (o+(n-2)*3+1)=some (.int .i64 x.2.1):=I.sub.rd hb (ae 1 _ rfl);have x2:rd H b (o+(n-2)*3+1+1)=some (.int .i64 x.2.2):=I.sub.rd hb (ae 2 _ rfl);have v0:rd H (c+5) 0=some (vq c):=cZ (o:=0) I.vC;refine run GM rfl Tryz.ntmps154 Tryz.results154 ?_;simp(disch:=first|omega|(simp only[aa.aZ,aa.aS,bL];omega)) [go_sem,vt,aD,uF,du,bI,r1,hM,ay,bk,bl,x0,x1,x2,e1,v0,vq,ep,gJ];refine KC.of (IH _ _ _ _ (.inl rfl) (I.mono (((Sub.refl H).new _).set (Nat.le_refl _) _))) ?_;rintro _ H1 ⟨i1,rfl,I1,⟨aX,aE⟩,au⟩;have g1:H1.get H.next=some (.row [.int .i64 x.1,.int .i64 x.2.1,.int .i64 x.2.2] true 0):=aE _ _ (by simp only[aa.aZ,aa.aS];omega) (by omega) (by omega) (λh=>by have:=I.il h;omega) (eD _ _ _);simp only[aa.aZ,aa.aS]at aX au;have v1:rd H1 (c+5) 0=some (vq c):=cZ (o:=0) I1.vC;have y2:rd H1 H.next 2=some (.int .i64 x.2.2):=cZ (o:=2) g1;simp(disch:=first|omega|(simp only[aa.aZ,aa.aS,bL];omega)) [go_sem,v1,y2,vq];refine KC.of (IH _ _ _ _ (.inr rfl) I1) ?_;rintro _ H2 ⟨i2,rfl,I2,⟨AX,aQ⟩,dS⟩;have g2:H2.get H.next=some (.row [.int .i64 x.1,.int .i64 x.2.1,.int .i64 x.2.2] true 0):=aQ _ _ (by omega) (by omega) (by omega) (λh=>by
  rcases au h with⟨a1,a2⟩|a1
  . have:=I.il a1;omega
  . omega) g1
 have z0:rd H2 H.next 0=some (.int .i64 x.1):=cZ (o:=0) g2;obtain⟨A,hA⟩:∃A,gP (j0 N) k x.2.1 s=A:=⟨_,rfl⟩;rw[hA]at I1 au dS aQ I2⊢;obtain⟨Bq,aR⟩:∃A',gP (j0 N) k x.2.2 A.2=A':=⟨_,rfl⟩;rw[aR]at I2 dS⊢;have az:gP (j0 N) (k+1) n s=(Bq.2.2.length+2,put Bq.2.1 n (Bq.2.2.length+2),Bq.2.2++[(x.1,A.1,Bq.1)]):=by
  simp only[gP,hk,j0,if_neg (show¬n<2 by omega),hx,hA,aR]
 have bA:=I2.small S;obtain⟨aT,af,aY,aU⟩:=I2.kG;obtain⟨aF,ab,ao,aB⟩:=wH vj (vf:=iC) vp aU n af (Bq.2.2.length+2);have ad:=yG vj vp aB n false ab (v:=Bq.2.2.length+2) (by rw[nq,if_pos rfl]);simp only[iC,cond_false,Int.natCast_add,Int.cast_ofNat_Int]at ao ad;have m2:rd H2 (c+4) 0=some (.map (some (c+3))):=cZ (o:=0) I2.nM;obtain⟨av,ho,aI⟩:=I2.out;have o0:rd H2 (c+2) 0=some av:=cZ (o:=0) ho;have bD:=I2.nx;have ai:bf Bq.2.1 n=none:=by
  obtain⟨q1,q2⟩:=zJ S.jZ n x (by rw[j0,if_neg (by omega),hx]);rw[<-aR,<-hA];exact zI (zJ S.jZ) k _ _ n q2 (zI (zJ S.jZ) k _ _ n q1 hk)
 have fin:∀(G:aa),H2.next+2<=G.next->(∀j o,j<H2.next->j≠c+2->j≠c+3->(Bq.2.2≠[]->j≠i2)->H2.get j=some o->G.get j=some o)->
  G.get (c+2)=some (.row [.slice (some ⟨H2.next+1,0,none⟩) (Bq.2.2.length+1) (Bq.2.2.length+1),.int .i64 0] true 0)->G.get (H2.next+1)=some (.row ((Bq.2.2++[(x.1,A.1,Bq.1)]).flatMap dJ) true 3)->G.get (c+3)=some (.map aF ab)->
  zK c h0 B N H i s (k+1) n (.int .i64 (Bq.2.2.length+2:Nat)) G:=λG f1 f2 f3 f4 f5=>by
  have hs:=I2.sub;have aJ:∀j o,j<c+6->j≠c+2->j≠c+3->H2.get j=some o->G.get j=some o:=λj o h1 h2 h3 h4=>f2 j o (by omega) h2 h3 (λh=>by have:=I2.il h;omega) h4;refine⟨H2.next+1, ?_, ?_,⟨?_,λj o h1 h2 h3 h4 h5=> ?_⟩,λ_=>.inr (by omega)⟩
  . rw[az]
  . rw[az];refine⟨⟨?_,λj o hj ho=>aJ j o (by omega) (by omega) (by omega) (hs.get j o hj ho)⟩,by omega,aJ _ _ (by omega) (by omega) (by omega) I2.bC,⟨_,f3,.inr ⟨by simp,by simp,f4,by omega,by omega⟩⟩,⟨aF,ab,f5,aB⟩,aJ _ _ (by omega) (by omega) (by omega) I2.nM,aJ _ _ (by omega) (by omega) (by omega) I2.vC, ?_, ?_, ?_, ?_⟩
    . have:=hs.next;omega
    . simp only[qV ai,List.map_append,List.map_cons,List.map_nil];rw[List.nodup_append];refine⟨I2.nd,by simp,λa ha b hb=> ?_⟩;obtain⟨p,hp,rfl⟩:=List.mem_map.1 ha;simp only[List.mem_singleton]at hb;subst hb;exact Jj ai p hp
    . simp only[qV ai];intro p hp;rcases List.mem_append.1 hp with hp|hp
      . exact I2.ks p hp
      . simp only[List.mem_singleton]at hp;subst hp;simp only;omega
    . have:=I2.len;simp only[qV ai,List.length_append,List.length_singleton];omega
    . simp only[nq];rw[if_neg (by omega),if_neg (by omega)];exact I2.base
  . omega
  . refine f2 j o (by omega) h2 h3 (λh=> ?_) (aQ j o (by omega) h2 h3 (λh=> ?_) (aE j o (by simp only[aa.aZ,aa.aS];omega) h2 h3 h4 ?_))
    . rcases dS h with⟨a1,a2⟩|a1
      . rcases au a1 with⟨b1,b2⟩|b1
        . have:=h4 b1;omega
        . omega
      . omega
    . rcases au h with⟨b1,b2⟩|b1
      . have:=h4 b1;omega
      . omega
    . rw[bq _ _ _ _ (by omega),bI _ _ _ (by omega)];exact h5
 rcases aI with⟨he,rfl⟩|⟨he,rfl,bn,bF,bG⟩
 . have e0:Bq.2.2.length=0:=by rw[he];rfl
   rw[e0]at ao ad fin;simp(disch:=first|omega|(simp only[aa.aZ,aa.aS,bL];omega)) [go_sem,z0,o0,m2];rw[append_nil zC (yI (qT _ _) rfl) rfl (by decide) (by decide)];replace ao:oC E 230 (.int .i64 n) (.int .i64 2) aT af=some (.map aF ab):=ao;replace ad:np E 230 false (.int .i64 n) (some (.map aF ab))=some (.int .i64 2):=ad;simp(disch:=first|omega|(simp only[aa.aZ,aa.aS,bL];omega)) [go_sem,aD,du,ep,bI,bq,ho,m2,aY,ao,ad];refine fin _ (by simp only[aa.aZ,aa.aS];omega) (λj o h1 h2 h3 h4 h5=> ?_) ?_ ?_ ?_
   all_goals simp(disch:=first|omega|(simp only[aa.aZ,aa.aS,bL];omega)) only[bq,bI,dC,eD]
   . exact h5
   . rw[he];rfl
 . simp(disch:=first|omega|(simp only[aa.aZ,aa.aS,bL];omega)) [go_sem,z0,o0,m2];rw[FV zC (yI (qT _ _) rfl) rfl (by decide) (i:=i2) (cs:=Bq.2.2.flatMap dJ) (by rw[bI _ _ _ (by omega)];exact bn) (Ja _) (by rfl) (by omega)];rw[show(Bq.2.2.length:Int)+2=Bq.2.2.length+1+1 by omega]at ao ad;simp(disch:=first|omega|(simp only[aa.aZ,aa.aS,bL];omega)) [go_sem,aD,du,ep,bI,bq,ho,m2,aY,ao,ad];simp only[show((Bq.2.2.length+2:Nat):Int)=Bq.2.2.length+1+1 by omega]at fin;refine fin _ (by simp only[aa.aZ,aa.aS];omega) (λj o h1 h2 h3 h4 h5=> ?_) ?_ ?_ ?_
   . have:=h4 he;simp(disch:=first|omega|(simp only[aa.aZ,aa.aS,bL];omega)) only[bq,bI];exact h5
   all_goals simp(disch:=first|omega|(simp only[aa.aZ,aa.aS,bL];omega)) only[bq,bI,dC,eD]
   simp[dJ]
theorem Du(S:xC c h0 B N):∀(k n:Nat) (H:aa) (i:Nat) (s:Seen),1<=k->4<=b8 N n+k->n<N.length+2->mQ c h0 B N H i s->
 ∃v H',bS E 154 (.int .i64 n::vt c) H v H'/\zK c h0 B N H i s k n v H'
 |0,_,_,_,_,h,_,_,_=>absurd h (by omega)
 |k+1,n,H,i,s,_,hk,hn,I=>by
  cases ha:bf s.1 n with
  |some r=>
   have hv:gP (j0 N) (k+1) n s=(r,s):=by simp only[gP,ha]
   refine⟨_,_,acP I ha,i, ?_, ?_,⟨Nat.le_refl _,λ_ _ _ _ _ _ h=>h⟩,λh=> ?_⟩
   . rw[hv]
   . rw[hv];exact I
   . rw[hv]at h;exact .inl ⟨h,rfl⟩
  |none=>
   have h2:2<=n:=by
    rcases Nat.lt_or_ge n 2 with h2|h2
    . have hb:=I.base
      match n,h2 with
      |0,_=>rw[hb.1]at ha;cases ha
      |1,_=>rw[hb.2]at ha;cases ha
    . exact h2
   obtain⟨⟨v,l,u⟩,hx⟩:∃x,N[n-2]? =some x:=⟨_,List.getElem?_eq_getElem (by omega)⟩;obtain⟨_,h4,h5,_,h6,h7⟩:=S.jZ.ok _ _ hx;have h3:=S.v3 _ (List.mem_of_getElem? hx);rw[mj h2 hx]at hk;simp only at h3 h4 h5 h6 h7 hk;refine acQ S I ha h2 hx λm H1 i1 s1 hm I1=> ?_;rcases hm with rfl|rfl
   . exact Du S k m H1 i1 s1 (by omega) (by omega) (by omega) I1
   . exact Du S k m H1 i1 s1 (by omega) (by omega) (by omega) I1
end
theorem Jk{x:Br}{k:Nat}{u:Value}(hu:(dJ x)[k]? =some u):∀(N:List Br) (j:Nat),N[j]? =some x->(N.flatMap dJ)[j*3+k]? =some u
 |[],j,h=>by simp at h
 |y::r,0,h=>by
  simp only[List.getElem?_cons_zero,Option.some.injEq]at h;subst h;have hk:k<(dJ y).length:=(List.getElem?_eq_some_iff.1 hu).1;rw[List.flatMap_cons,Nat.zero_mul,Nat.zero_add,List.getElem?_append_left hk];exact hu
 |y::r,j+1,h=>by
  rw[List.flatMap_cons,List.getElem?_append_right (by simp[dJ];omega),show(j+1)*3+k-(dJ y).length=j*3+k by simp[dJ];omega];exact Jk hu r j (by simpa using h)
theorem acR{h:aa}{i l c:Nat}{N:List Br}(hg:h.get i=some (.row (N.flatMap dJ) true 3))(hl:l=N.length)(hi:i<h.next):kO 3 h (.slice (some ⟨i,0,none⟩) l c) (N.map dJ):=by
 refine .inr ⟨i,0,c,by rw[List.length_map,hl],hi,λj x hx k u hu=> ?_⟩;rw[List.getElem?_map]at hx;cases hy:N[j]? with
 |none=>rw[hy]at hx;cases hx
 |some y=>
  rw[hy]at hx;cases hx;rw[cZ hg,Nat.zero_add];exact Jk hu N j hy
theorem iq.stat{h:aa}{B M i:Nat}{N:List Br}(hb:iq h B M i N)(ok:eG N)(v3:∀x∈N,x.1<3):xC h.next h B N:=by
 obtain⟨sl,h1,h2⟩:=hb.aW;refine⟨rfl,⟨sl,_,h1, ?_⟩,hb.lt.1,ok,v3⟩;rcases h2 with⟨rfl,rfl⟩|⟨h3,rfl,h4,h5,_⟩
 . exact .inl ⟨rfl,_,_,rfl⟩
 . exact acR h4 rfl h5
def lL(N:List Br)(n:Nat):Nat×Seen:=gP (j0 N) 4 n ([(0,0),(1,1)],[])
def vu(n0:Nat)(h:aa)(v:Value)(cs:List Br):Prop:=(cs=[]/\v=.slice none 0 0)\/(cs≠[]/\∃b,v=.slice (some ⟨b,0,none⟩) cs.length cs.length/\h.get b=some (.row (cs.flatMap dJ) true 3)/\n0<=b/\b<h.next)
theorem acS{h:aa}{B:Nat}{N:List Br}(S:xC h.next h B N){n:Nat}(hn:n<N.length+2):
 ∃v H',bS E 120 [.pointer (some ⟨B,0,none⟩),.int .i64 n] h v H'/\(∃sl,v=.agg #[sl,.int .i64 (lL N n).1]/\vu h.next H' sl (lL N n).2.2)/\Sub h H':=by
 refine run WE rfl Tryz.ntmps120 Tryz.results120 (K:=λv H'=>(∃sl,v=.agg #[sl,.int .i64 (lL N n).1]/\vu h.next H' sl (lL N n).2.2)/\Sub h H') ?_;obtain⟨bH,bo,bb,bs⟩:=wH vj (vf:=iC) vp (es:=[]) (l:=[]) rfl 0 0 0;obtain⟨aT,bt,bc,bu⟩:=wH vj (vf:=iC) vp bs 1 bo 1;simp only[iC,Int.natCast_zero,Int.natCast_one]at bb bc;simp(disch:=first|omega|(simp only[aa.aZ,aa.aS,bL];omega)) [go_sem,aD,du,ep,gJ,dC,bI,bq,eD,bb,bc];refine KC.of (Du S 4 n _ 0 ([(0,0),(1,1)],[]) (by omega) (by omega) hn ⟨?_, ?_, ?_,⟨.slice none 0 0, ?_,.inl ⟨rfl,rfl⟩⟩,⟨aT,bt, ?_, ?_⟩, ?_, ?_,by simp, ?_,rfl,⟨rfl,rfl⟩⟩) ?_
 . repeat first|exact Sub.refl _|refine Sub.new ?_ _|refine Sub.set ?_ (by omega) _
 . simp only[aa.aZ,aa.aS];omega
 . simp(disch:=first|omega|(simp only[aa.aZ,aa.aS,bL];omega)) only[bq,bI,dC,eD]
 . simp(disch:=first|omega|(simp only[aa.aZ,aa.aS,bL];omega)) only[bq,bI,dC,eD]
 . simp(disch:=first|omega|(simp only[aa.aZ,aa.aS,bL];omega)) only[bq,bI,dC,eD]
 . exact bu
 . simp(disch:=first|omega|(simp only[aa.aZ,aa.aS,bL];omega)) only[bq,bI,dC,eD]
 . simp(disch:=first|omega|(simp only[aa.aZ,aa.aS,bL];omega)) only[bq,bI,dC,eD,vq]
 . intro p hp;simp only[List.mem_cons,List.not_mem_nil,or_false]at hp;rcases hp with rfl|rfl<;>simp only<;>omega
 . rintro _ H1 ⟨i1,rfl,I1,⟨aX,aE⟩,au⟩;obtain⟨av,ho,aI⟩:=I1.out;have bg:H1.get (h.next+1+1)=some (.row [av,.int .i64 0] true 0):=ho;have h4:H1.get (h.next+1)=some (.row [.slice none 0 0,.int .i64 0] true 0):=aE _ _ (by simp only[aa.aZ,aa.aS];omega) (by omega) (by omega) (λh=>absurd rfl h) (by simp(disch:=first|omega|(simp only[aa.aZ,aa.aS,bL];omega)) only[bq,bI,dC,eD]);have o0:rd H1 (h.next+1+1) 0=some av:=cZ (o:=0) bg;have bw:dL av=true:=by rcases aI with⟨_,rfl⟩|⟨_,rfl,_⟩<;>rfl
   have bK:=I1.nx;have bx:=I1.sub;simp(disch:=first|omega|(simp only[aa.aZ,aa.aS,bL];omega)) [go_sem,bg,h4,o0,ep,du,bq,bw];refine⟨⟨av,⟨rfl,rfl⟩, ?_⟩, ?_⟩
   . rcases aI with⟨e1,rfl⟩|⟨e1,rfl,h5,h6,h7⟩
     . exact .inl ⟨by rw[lL,e1],rfl⟩
     . refine .inr ⟨e1,i1,rfl, ?_,by omega,by simp only[aa.aS];omega⟩;rw[bq _ _ _ _ (by omega),bq _ _ _ _ (by omega)];exact h5
   . exact(bx.set (by omega) _).set (by omega) _
theorem acT{h:aa}{B M i:Nat}{N:List Br}(hb:iq h B M i N)(ok:eG N)(v3:∀x∈N,x.1<3){n:Nat}(hn:n<N.length+2):
 ∃v H',bS E 120 [.pointer (some ⟨B,0,none⟩),.int .i64 n] h v H'/\(∃sl,v=.agg #[sl,.int .i64 (lL N n).1]/\vu h.next H' sl (lL N n).2.2)/\Sub h H':=acS (hb.stat ok v3) hn
end Go.Sp
end
noncomputable section
open Go Go.aw Go.Proofs
namespace Go.Sp
set_option maxRecDepth 100000
theorem acU(h:aa):∃v H',bS E 175 [] h v H'/\v=.pointer (some ⟨h.next+1,0,none⟩)/\H'=(h.new (.map [] 0)).new (.row [.slice none 0 0,.map (some h.next)] true 0):=by
 refine run Xi rfl Tryz.ntmps175 Tryz.results175 (K:=λv H'=>v=.pointer (some ⟨h.next+1,0,none⟩)/\H'=(h.new (.map [] 0)).new (.row [.slice none 0 0,.map (some h.next)] true 0)) ?_;simp(disch:=first|omega|(simp only[aa.aZ,aa.aS,bL];omega)) [go_sem,aD,du,ep,gJ,bI,dC,bq,eD]
theorem acV{h:aa}{d0 d1 d2:oV}(k0:d0.ok h)(k1:d1.ok h)(k2:d2.ok h)(r0:d0.r<d0.ns.length+2)(r1:d1.r<d1.ns.length+2)(r2:d2.r<d2.ns.length+2){fo:Nat}{cap:List Value}{op:Bool->Bool->Bool->Bool}
 (af:∀H,Sub h H->∀x y z,bS E fo ([.bool x,.bool y,.bool z]++cap) H (.bool (op x y z)) H):
 ∃v H',bS E 161 [.agg #[d0.sl,.int .i64 d0.r,d1.sl,.int .i64 d1.r,d2.sl,.int .i64 d2.r],.func (.func fo) #[] cap.toArray] h v H'/\
  (∃sl N n,v=.agg #[sl,.int .i64 (lL N n).1]/\vu h.next H' sl (lL N n).2.2/\eG N/\(∀x∈N,x.1<3)/\n<N.length+2/\∀ρ,tb N n ρ=op (tb d0.ns d0.r ρ) (tb d1.ns d1.r ρ) (tb d2.ns d2.r ρ))/\Sub h H':=by
 refine run W8 rfl Tryz.ntmps161 Tryz.results161 (K:=λv H'=>(∃sl N n,v=.agg #[sl,.int .i64 (lL N n).1]/\vu h.next H' sl (lL N n).2.2/\eG N/\(∀x∈N,x.1<3)/\n<N.length+2/\∀ρ,tb N n ρ=op (tb d0.ns d0.r ρ) (tb d1.ns d1.r ρ) (tb d2.ns d2.r ρ))/\Sub h H') ?_;simp(disch:=first|omega|(simp only[aa.aZ,aa.aS,bL];omega)) [go_sem,aD,du,ep,gJ,bI,dC,bq,eD];obtain⟨_,_,hb,rfl,rfl⟩:=acU (((h.new (.row [d0.sl,.int .i64 d0.r,d1.sl,.int .i64 d1.r,d2.sl,.int .i64 d2.r] true 0)).new (.row [.func (.func fo) #[] cap.toArray] true 0)).new (.row [.slice none 0 0,.int .i64 0] true 0));refine KC.mk hb ?_;simp(disch:=first|omega|(simp only[aa.aZ,aa.aS,bL];omega)) [go_sem,aD,du,ep,gJ,bI,dC,bq,eD];refine lC [⟨.read,0,some (0,2)⟩,⟨.read,0,none⟩,⟨.pure,0,none⟩,⟨.pure,4,none⟩,⟨.read,12,none⟩,⟨.pure,0,none⟩,⟨.pure,32,none⟩,⟨.read,96,none⟩,⟨.pure,0,none⟩,⟨.pure,256,none⟩,⟨.read,768,none⟩,⟨.pure,2044,none⟩,⟨.effect,4094,none⟩,⟨.effect,8191,none⟩,⟨.effect,16383,none⟩] (by kernel_rfl) 0 rfl ?_;simp(disch:=first|omega|(simp only[aa.aZ,aa.aS,bL];omega)) [go_sem,dU,aD,du,ep,gJ,bI,dC,bq,eD];have S:zG h.next h d0 d1 d2 fo cap op:=⟨rfl,k0,k1,k2,af⟩;refine KC.of (Ji S (d0.r+d1.r+d2.r+1) d0.r d1.r d2.r _ h.next [] [] (by omega) r0 r1 r2 ⟨?_, ?_, ?_, ?_, ?_, ?_, ?_,⟨⟨.slice none 0 0, ?_,.inl ⟨rfl,rfl⟩⟩,⟨[],0, ?_,rfl⟩,by omega, ?_⟩,λh=>absurd rfl h, ?_,⟨[],0, ?_,rfl⟩, ?_,λx hx=>by simp at hx,λx y z r hr=>by simp[bf]at hr⟩) ?_
 . repeat first|exact Sub.refl _|refine Sub.new ?_ _|refine Sub.set ?_ (by omega) _
 . simp only[aa.aZ,aa.aS];omega
 . simp(disch:=first|omega|(simp only[aa.aZ,aa.aS,bL];omega)) only[bq,bI,dC,eD]
 . simp(disch:=first|omega|(simp only[aa.aZ,aa.aS,bL];omega)) only[bq,bI,dC,eD]
 . simp(disch:=first|omega|(simp only[aa.aZ,aa.aS,bL];omega)) only[bq,bI,dC,eD]
 . simp(disch:=first|omega|(simp only[aa.aZ,aa.aS,bL];omega)) only[bq,bI,dC,eD]
 . simp(disch:=first|omega|(simp only[aa.aZ,aa.aS,bL];omega)) only[bq,bI,dC,eD];rfl
 . simp(disch:=first|omega|(simp only[aa.aZ,aa.aS,bL];omega)) only[bq,bI,dC,eD]
 . simp(disch:=first|omega|(simp only[aa.aZ,aa.aS,bL];omega)) only[bq,bI,dC,eD]
 . simp only[aa.aZ,aa.aS];omega
 . simp only[aa.aZ,aa.aS];omega
 . simp(disch:=first|omega|(simp only[aa.aZ,aa.aS,bL];omega)) only[bq,bI,dC,eD]
 . exact⟨λk x hx=>by simp at hx,by simp⟩
 . rintro _ H1 ⟨r,i1,N1,L1,rfl,I1,az,ad,ai,⟨aB,ao⟩,aC⟩;have h4:H1.get (h.next+1+1)=some (.row [.slice none 0 0,.int .i64 0] true 0):=ao _ _ (by simp only[aa.aZ,aa.aS];omega) (by omega) (by omega) (by omega) (by omega) (by simp(disch:=first|omega|(simp only[aa.aZ,aa.aS,bL];omega)) only[bq,bI,dC,eD]);have b5:rd H1 (h.next+5) 0=some (.pointer (some ⟨h.next+4,0,none⟩)):=cZ (o:=0) I1.bC;simp(disch:=first|omega|(simp only[aa.aZ,aa.aS,bL];omega)) [go_sem,dU,aD];refine KC.of (acT I1.xB I1.jZ I1.v3 ad) ?_;rintro _ H2 ⟨⟨sl,rfl,ae⟩,ab⟩;have aE:=I1.nx;have au:=ab.get _ _ (by omega) h4;have av:dL sl=true:=by rcases ae with⟨_,rfl⟩|⟨_,b,rfl,_⟩<;>rfl
   have aF:=ab.next;simp(disch:=first|omega|(simp only[aa.aZ,aa.aS,bL];omega)) [go_sem,au,av];refine⟨⟨?_,b5⟩,⟨sl,N1,r,⟨rfl,rfl⟩, ?_,I1.jZ,λv l u hx=>I1.v3 _ hx,ad,ai⟩,(I1.sub.trans ab).set (by omega) _⟩
   . simp(disch:=first|omega|(simp only[aa.aZ,aa.aS,bL];omega)) [ep,du,gJ,FG];rfl
   . have ay:=I1.sub.next;rcases ae with⟨q1,q2⟩|⟨q1,b,q2,q3,q4,q5⟩
     . exact .inl ⟨q1,q2⟩
     . refine .inr ⟨q1,b,q2, ?_,by omega,by simp only[aa.aS];omega⟩;rw[bq _ _ _ _ (by omega)];exact q3
end Go.Sp
end

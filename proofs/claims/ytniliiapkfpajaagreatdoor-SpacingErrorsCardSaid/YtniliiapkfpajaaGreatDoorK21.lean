/- Parts of a proof. -/
import Derived.Deep.Slices
import Derived.Lib.SmallJoins
import Derived.Test.YtniliiapkfpajaaGreatDoorK20
open List renaming mem_of_getElem?->oY,mem_cons->yx,getElem?_eq_getElem->Fj,replicate->HT,getElem?_eq_some_iff->Q0,length_map->Rm,mem_cons_of_mem->UR,singleton_inj->WZ,length_cons->Xt,mem_singleton->Yt,take_of_length_le->YN,all_eq_true->adr,not_mem_nil->afc,map_cons->afd,getElem?_map->afe,drop_eq_nil_of_le->afg,mem_cons_self->afh,mem_append->afi,flatten_cons->afj,mem_map->afk,mem_filter->afm,mem_range->afn,getElem?_append_right->afo,drop_zero->afp,length_append->afq,any_map->afr,nodup_nil->afs,drop_eq_getElem_cons->afu,eq_nil_of_length_eq_zero->afv,flatMap_cons->afw,length_nil->afx,ext_getElem?->afy,getElem?_range->afz,getElem?_eq_none->afA,length_range->afD,take_add_one->afE
open Iff renaming rfl->Ey
open Nat renaming le_refl->Rb,add_sub_cancel_left->aft
open ByteArray renaming size_append->aff
open Bool renaming and_eq_true->afl,false_eq_true->afC
open Int renaming natCast_nonneg->afB
set_option linter.all false
set_option maxRecDepth 100000
noncomputable section
open Go Go.aD Go.Proofs
namespace Go.Sp
def zr(g:aj)(n:Nat)(fa:FuncId)(cs:List DV):List DV:=[strs g.conds,.sl 3 (g.family.nodes.map cB),iV g.family.root,.sl 7 (g.aF.map Tok.e),strs g.aI,.sl 13 (g.aq.map aK.e),iV g.start,.sl 4 (g.bj.map cP.e),.sl 9 (g.bx.map bl.e),iV (n:Nat),.fn fa [] cs]
def uS(g:aj)(nd:List (Int×Int))(i:Nat)(st:jG)(o:List Nat):Prop:=o.length=nd.length/\∀k,k<i->k∈st.map (·.1)\/o[k]? =some (sN g nd k)
def fI.lt{g:aj}{ns:List (Int×Int)}{i:Nat}:∀{acc:Nat} {st:jG},fI g ns i acc st->∀e∈st,e.1<i
 |_,[],_,e,he=>by cases he
 |_,(j,r)::b,⟨h1,_,h3⟩,e,he=>by
  rcases yx.1 he with rfl|he
  . exact h1
  . exact fI.lt h3 e he
def uS.pop{g:aj}{nd:List (Int×Int)}{i j:Nat}{r:List Sym}{b:jG}{o:List Nat}(h:uS g nd i ((j,r)::b) o)(hj:j<nd.length)(he:sN g nd j=i):uS g nd i b (o.set j i):=by
 refine⟨by rw[List.length_set];exact h.1,λk hk=> ?_⟩;by_cases bs:k=j
 . subst bs;exact .inr (by rw[List.getElem?_set_self (by rw[h.1];exact hj),he])
 . rcases h.2 k hk with h1|h1
   . simp only[afd,yx]at h1;rcases h1 with h1|h1
     . exact absurd h1 bs
     . exact .inl h1
   . exact .inr (by rw[List.getElem?_set_ne (λh=>bs h.symm)];exact h1)
def Ky(zs:List (List DV))(hz:∀y∈zs,y.length=2)(a v:DV)(ab:List DV)(L:Nat)(hL:zs.length=L):((zs++[[a,v]]).flatten++ab)[L*2]? =some a/\((zs++[[a,v]]).flatten++ab)[L*2+1]? =some v/\((zs++[[a,v]]).flatten++ab).length=L*2+2+ab.length/\∀v',((zs++[[a,v]]).flatten++ab).take (L*2+1)++v'::((zs++[[a,v]]).flatten++ab).drop (L*2+1+1)=(zs++[[a,v']]).flatten++ab:=by
 have hf:zs.flatten.length=L*2:=by rw[fi hz,hL]
 have e:∀w,(zs++[[a,w]]).flatten++ab=zs.flatten++([a,w]++ab):=λw=>aw;rw[e v];refine⟨?_, ?_, ?_,λv'=> ?_⟩
 . rw[afo aa,hf,Nat.sub_self];rfl
 . rw[afo aa,hf,aft];rfl
 . simp[hf];omega
 . rw[e v',List.take_append,YN aa,hf,aft,List.drop_append,afg aa,hf,show L*2+1+1-L*2=2 by omega];simp
def adY{c:Code}{K:bu->DS->Prop}{d:DS}(I:Nat->DS->Prop)(j:Nat)(hw:∃d',aB d d'/\I j d')(hI:∀j d,I j d->WD E true c d (KI I j K)):WD E true (.loop c) d K:=by
 intro G s hs;obtain⟨d',h1,h2⟩:=hw;obtain⟨G1,h3,h4⟩:=h1 G s hs;refine(WQ.loop (λj s1=>∃d1 G2,SD G2 s1 d1/\Kp G s.h d.h G2 s1.h d1.h/\I j d1) (λj s1 ⟨d1,G2,q1,q2,q3⟩=> ?_) j s ⟨d',G1,h3,h4,h2⟩);refine((hI j d1 q3) G2 s1 q1).mono λx s2 ⟨d2,G3,r1,r2,r3⟩=> ?_;cases x with
 |normal=>
  obtain⟨j',hj,d3,r4,r5⟩:=r3;obtain⟨G4,r6,r7⟩:=r4 G3 s2 r1;exact⟨j',hj,d3,G4,r6,q2.trans (r2.trans r7),r5⟩
 |exit i=>exact⟨d2,G3,r1,q2.trans r2,r3⟩
 |ret=>exact⟨d2,G3,r1,q2.trans r2,r3⟩
def zt(b:Code)(K:bu->DS->Prop):bu->DS->Prop:=λx s1=>match x with|.normal=>WD E true b s1 K|.exit i=>K (.exit i) s1|.ret=>K .ret s1
def zu(Inv:DS->Prop)(K:bu->DS->Prop):bu->DS->Prop:=λx s1=>match x with|.normal=>∃d',aB s1 d'/\Inv d'|.exit i=>K (.exit i) s1|.ret=>K .ret s1
section
variable (b:Code) (K:bu->DS->Prop) (Inv:DS->Prop) (s:DS)
theorem adZ:zt b K .normal s=WD E true b s K:=rfl
theorem ad0(i:Nat):zt b K (.exit i) s=K (.exit i) s:=rfl
theorem ad1:zt b K .ret s=K .ret s:=rfl
theorem ad2:zu Inv K .normal s=∃d',aB s d'/\Inv d':=rfl
theorem ad3(i:Nat):zu Inv K (.exit i) s=K (.exit i) s:=rfl
theorem ad4:zu Inv K .ret s=K .ret s:=rfl
attribute [go_sem] adZ ad0 ad1 ad2 ad3 ad4
end
def pP{a b:Code}{d:DS}{K:bu->DS->Prop}(h:WD E true a d (zt b K)):WD E true (.seq a b) d K:=by
 intro G s hs;refine WQ.seq ((h G s hs).mono λx s1 ⟨d1,G1,q1,q2,q3⟩=> ?_);cases x with
 |normal=>exact((show WD E true b d1 K from q3) G1 s1 q1).mono λ_ _=>kT.up q2
 |exit i=>exact⟨d1,G1,q1,q2,q3⟩
 |ret=>exact⟨d1,G1,q1,q2,q3⟩
def DL(Inv:DS->Prop){a b:Code}{d:DS}{K:bu->DS->Prop}(h:WD E true a d (zu Inv K))(h2:∀d',Inv d'->WD E true b d' K):WD E true (.seq a b) d K:=by
 intro G s hs;refine WQ.seq ((h G s hs).mono λx s1 ⟨d1,G1,q1,q2,q3⟩=> ?_);cases x with
 |normal=>
  obtain⟨d',h3,h4⟩:∃d',aB d1 d'/\Inv d':=q3;obtain⟨G2,q4,q5⟩:=h3 G1 s1 q1;exact(h2 d' h4 G2 s1 q4).mono λ_ _=>kT.up (q2.trans q5)
 |exit i=>exact⟨d1,G1,q1,q2,q3⟩
 |ret=>exact⟨d1,G1,q1,q2,q3⟩
def Kz{id:Nat}{c:Code}{d:DS}{K:bu->DS->Prop}(h:WD E true c d (tN id K)):WD E true (.block id c) d K:=by
 intro G s hs;refine WQ.block ((h G s hs).mono λx s1 ⟨d1,G1,q1,q2,q3⟩=> ?_);cases x with
 |normal=>exact⟨d1,G1,q1,q2,q3⟩
 |ret=>exact⟨d1,G1,q1,q2,q3⟩
 |exit i=>
  simp only[tN]at q3;by_cases hi:i=id
  . rw[if_pos hi]at q3;simp only[hi,if_true];exact⟨d1,G1,q1,q2,q3⟩
  . rw[if_neg hi]at q3;simp only[hi,if_false];exact⟨d1,G1,q1,q2,q3⟩
set_option maxHeartbeats 16000000 in
def ad5(g:aj)(nd:List (Int×Int))(fa:FuncId)(cs:List DV)(hn:0<nd.length)(hl:nd.length<=1000000)(b5:∀(i:Nat) n,nd[i]? =some n->ay E true fa (iV (i:Nat)::cs) (.bf [iV n.1,iV n.2,bV true]))(s0:Sym)(hs:jF g [s0] nd):ay E true 95 [.agg (zr g nd.length fa cs)] (cI (sO g nd)):=by
 obtain⟨n,bt⟩:∃n,n=nd.length:=⟨_,rfl⟩;have bR:=λm hm=>adX g m hm;rw[<-bt];refine aV Tryz.ntmps95 Tryz.results95 λN=> ?_;simp only[aj.e]at bR;have b6:¬n=0:=aa;have b7:¬(2000000:Int)<n:=aa;simp(disch:=omega)[go_sem,zr,b6,b7];refine zg (n:=n) DF s3 tP b3 rfl aA aA ai ai aa ?_;rw[Kf];refine aL ?_;obtain⟨se,b8⟩:∃se,zr g n fa cs=se:=⟨_,rfl⟩;have aP:se=[strs g.conds,.sl 3 (g.family.nodes.map cB),iV g.family.root,.sl 7 (g.aF.map Tok.e),strs g.aI,.sl 13 (g.aq.map aK.e),iV g.start,.sl 4 (g.bj.map cP.e),.sl 9 (g.bx.map bl.e),iV (n:Nat),.fn fa [] cs]:=by rw[<-b8];rfl
 rw[<-aP];obtain⟨I,hI⟩:∃I:Nat->DS->Prop,∀j d,I j d↔∃(i:Nat) (st:jG) (o:List Nat) (H:ah) (pv:DV),j+i=n/\((i=0/\st=[]/\pv=cm)\/(0<i/\jF g (ax st) (nd.drop i)/\fI g nd i 0 st))/\(∀e r b,st=(e,r)::b->r≠[])/\uS g nd i st o/\st.length<=i/\N+2<=H.next/\H.get N=some (.row se true 0)/\H.get (N+1)=some (.row (iH o) true 0)/\j8 H (N+2) H.next st pv/\
  d=⟨bw [(1,aX N),(3,fU (N+1) n),(4,pv),(24,iV (n:Nat)),(25,iV (i:Nat))],126,[],H⟩:=⟨_,λ_ _=>Ey⟩
 refine adY I n ⟨_,aB.bk (l:=[(1,aX N),(3,fU (N+1) n),(4,cm),(24,iV (n:Nat)),(25,iV (0:Nat))]) ?_,(hI _ _).2 ⟨0,[],HT n 0,_,cm,rfl,.inl ⟨rfl,rfl,rfl⟩,λe r b h=>(by cases h),⟨by simp[bt],λk hk=>aa⟩,aw, ?_, ?_, ?_,.inl ⟨rfl,rfl⟩,rfl⟩⟩ ?_
 . exact ai
 . exact ai
 . exact ai
 . exact ai
 intro j ds bS;obtain⟨i,st,o,H,pv,hj,aT,av,aH,bm,hN,f1,f2,ad,rfl⟩:=(hI _ _).1 bS;clear bS;have hlen:=λh=>ad.len h 276 2 vK;refine pP (j6 ?_);by_cases cq:i<n
 . have aR:(i:Int)<n:=aa;obtain⟨x,hx⟩:∃x,nd[i]? =some x:=⟨_,Fj aa⟩;have hd:nd.drop i=x::nd.drop (i+1):=by
    obtain⟨h1,h2⟩:=Q0.1 hx;rw[afu h1,h2]
   have bz:=b5 i x hx;have bT:zn g x:=by
    rcases aT with⟨h1,_,_⟩|⟨_,h2,_⟩
    . subst h1;obtain⟨_,_,h4,_⟩:=hs.take (by rw[afp]at hd;exact hd);exact h4
    . obtain⟨_,_,h4,_⟩:=h2.take hd;exact h4
   have bB:=bR x bT;simp(disch:=omega)[go_sem,aR];refine pP (j6 ?_);refine aL ?_;refine pP (Kz ?_);refine pP (j6 ?_);refine aL ?_;refine pP (j6 ?_);simp(disch:=omega)[go_sem,f1,aP];refine au.mk bz λM hM=> ?_;refine aL ?_;refine DL (λd=>∃H1,N+2<=H1.next/\H1.get N=some (.row se true 0)/\H1.get (N+1)=some (.row (iH o) true 0)/\j8 H1 (N+2) H1.next st pv/\d=⟨bw [(1,aX N),(3,fU (N+1) n),(4,pv),(5,iV (i:Nat)),(6,iV x.1),(7,iV x.2),(24,iV (n:Nat)),(25,iV (i:Nat))],126,[],H1⟩) (j6 ?_) ?_
   . by_cases ba:i=0
     . simp(disch:=omega)[go_sem,ba];refine⟨_,aB.bk (l:=[(1,aX N),(3,fU (N+1) n),(4,pv),(5,iV (0:Nat)),(6,iV x.1),(7,iV x.2),(24,iV (n:Nat)),(25,iV (0:Nat))]) ?_,_, ?_, ?_, ?_, ?_,rfl⟩
       . simp(disch:=omega)[go_sem,ba]
       . simp(disch:=omega)[go_sem];omega
       . simp(disch:=omega)[go_sem,f1]
       . simp(disch:=omega)[go_sem,f2]
       . exact ad.same (λ_ _ _=>rfl) (by simp(disch:=omega)[go_sem];omega)
     . have bE:0<i:=aa;have aY:¬st.length=0:=λh=>by
        rcases aT with⟨h1,_⟩|⟨_,h2,_⟩
        . exact ba h1
        . rw[afv h]at h2;obtain⟨_,h3,_⟩:=h2.take hd;cases h3
       simp(disch:=omega)[go_sem,bE,hlen,aY];refine⟨_,aB.bk (l:=[(1,aX N),(3,fU (N+1) n),(4,pv),(5,iV (i:Nat)),(6,iV x.1),(7,iV x.2),(24,iV (n:Nat)),(25,iV (i:Nat))]) ?_,_, ?_, ?_, ?_, ?_,rfl⟩
       . simp(disch:=omega)[go_sem]
       . simp(disch:=omega)[go_sem];omega
       . simp(disch:=omega)[go_sem,f1]
       . simp(disch:=omega)[go_sem,f2]
       . exact ad.same (λ_ _ _=>rfl) (by simp(disch:=omega)[go_sem];omega)
   clear f1 f2 ad hN;rintro _ ⟨H1,hN,f1,f2,ad,rfl⟩;refine pP (j6 ?_);simp(disch:=omega)[go_sem,f1,aP];refine au.mk bB λM2 ct=> ?_;refine aL ?_;obtain⟨I2,bb⟩:∃I2:DS->Prop,∀d,I2 d↔∃H2 aM,N+2<=H2.next/\H2.get N=some (.row se true 0)/\H2.get (N+1)=some (.row (iH o) true 0)/\j8 H2 (N+2) H2.next aM pv/\aM.map (·.1)=st.map (·.1)/\jF g (ax ((i,fG g x.1)::aM)) (nd.drop (i+1))/\fI g nd (i+1) 0 ((i,fG g x.1)::aM)/\d=⟨bw [(1,aX N),(3,fU (N+1) n),(4,pv),(5,iV (i:Nat)),(6,iV x.1),(24,iV (n:Nat)),(25,iV (i:Nat))],126,[],H2⟩:=⟨_,λ_=>Ey⟩;refine DL I2 (j6 ?_) ?_
   . by_cases ba:i=0
     . obtain⟨rfl,rfl⟩:st=[]/\pv=cm:=by
        rcases aT with⟨_,h⟩|⟨h,_⟩
        . exact h
        . omega
       subst ba;obtain⟨rs,e1,_,bn⟩:=hs.take (by rw[afp]at hd;exact hd);have b9:rs=[]:=by simpa using (List.cons.inj e1).2.symm
       subst b9;simp(disch:=omega)[go_sem,aG];refine⟨_,aB.bk (l:=[(1,aX N),(3,fU (N+1) n),(4,cm),(5,iV (0:Nat)),(6,iV x.1),(24,iV (n:Nat)),(25,iV (0:Nat))]) ai,(bb _).2 ⟨_,[], ?_, ?_, ?_,.inl ⟨rfl,rfl⟩,rfl, ?_,fI.first hx,rfl⟩⟩
       . simp(disch:=omega)[go_sem]<;>omega
       . simp(disch:=omega)[go_sem,f1]
       . simp(disch:=omega)[go_sem,f2]
       . simpa[ax]using bn
     . obtain⟨h1,h2,h3⟩:0<i/\jF g (ax st) (nd.drop i)/\fI g nd i 0 st:=by
        rcases aT with⟨h,_⟩|h
        . exact absurd h ba
        . exact h
       obtain⟨rs,e1,_,bn⟩:=h2.take hd
       match st,av,bm,ad,hlen,h3,e1,bb with
       |[],_,_,_,_,_,e1,_=>cases e1
       |(e,[])::b,av,_,_,_,_,_,_=>exact absurd rfl (av e [] b rfl)
       |(e,s1::r')::b,av,bm,ad,hlen,h3,e1,bb=>
        simp only[ax,afw,List.cons_append,List.cons.injEq]at e1;obtain⟨rfl,e2⟩:=e1;rcases ad with⟨h0,_⟩|⟨R,cap,ys,ab,r1,r2,rfl,r3,⟨zs,xx,rfl,aJ,az⟩,r5,r6⟩
        . cases h0
        obtain rfl:xx=[iV (e:Nat),.sl 2 ((fH g x::r').map Sym.e)]:=by
         rcases aJ with h|⟨h0,_⟩
         . exact h
         . cases h0
        obtain⟨y1,y2⟩:=az.len;obtain⟨c0,c1,c2,c3⟩:=Ky zs y2 (iV (e:Nat)) (.sl 2 ((fH g x::r').map Sym.e)) ab b.length y1;obtain⟨CS,bc⟩:∃CS,(zs++[[iV (e:Nat),.sl 2 ((fH g x::r').map Sym.e)]]).flatten++ab=CS:=⟨_,rfl⟩;have r5:H1.get R=some (.row CS true 2):=by rw[<-bc];exact r5
        rw[bc]at c0 c1 c2 c3;have ca:∀o p,iC E .neq 136 o p (.agg [bV (fH g x).tok,iV (fH g x).idx]) (.agg [bV (fH g x).tok,iV (fH g x).idx])=some (bV false):=λo p=>by
         have:=adW (fH g x) (fH g x) o p;simpa using this
        have bF:∀h,ed E h 82 (some (.sl 2 ((fH g x::r').map Sym.e))) (some (some (.v (.int .i64 1)))) (some none) (some none)=some (.sl 2 (r'.map Sym.e)):=λh=>by
         have hle:(1:Int)<=(r'.length:Int)+1:=aa;have cb:r'.length=(r'.map Sym.e).length:=(Rm ..).symm;simp[ed,fQ,fX,jQ,dU,F9,hle];rw[cb,List.take_length]
        have hL:((b.length+1:Nat):Int)-1=b.length:=aa;have bd:(0:Int)<=b.length:=aa;have cc:b.length+1<=i:=by simpa using bm
        have aE:∀h,fp E h 276 (.v (.slice (some ⟨R,0,none⟩) (b.length+1) cap))=some (iV ((b.length+1:Nat):Int)):=λh=>hlen h;simp(disch:=omega)[go_sem,aG,aE,hL,bd];refine bH [aC 0,ae 0,ae 0,ae 6,ae 14,aC 30,ae 62,aC 126,ae 255] an 0 rfl ?_;have bG:(fH g x).e=[bV (fH g x).tok,iV (fH g x).idx]:=rfl;have bI:∀h,ed E h 82 (some (.sl 2 ([bV (fH g x).tok,iV (fH g x).idx]::r'.map Sym.e))) (some (some (.v (.int .i64 1)))) (some none) (some none)=some (.sl 2 (r'.map Sym.e)):=bF;have cd:(b.length*2+1+1<=CS.length)=True:=eq_true aa;have cg:=c3 (.sl 2 (r'.map Sym.e));simp(disch:=omega)[go_sem,r5,c1,ca,bG,bI,cd,aE,hL,bd,aG,-getElem?_pos];rw[cg];refine⟨_,aB.bk (l:=[(1,aX N),(3,fU (N+1) n),(4,.v (.slice (some ⟨R,0,none⟩) (b.length+1) cap)),(5,iV (i:Nat)),(6,iV x.1),(24,iV (n:Nat)),(25,iV (i:Nat))]) ai,(bb _).2 ⟨_,(e,r')::b, ?_, ?_, ?_,.inr ⟨R,cap,zs++[[iV (e:Nat),.sl 2 (r'.map Sym.e)]],ab,r1, ?_,rfl,r3,⟨zs,_,rfl,.inl rfl,az⟩,ai,r6⟩,rfl, ?_,fI.push hx h3,rfl⟩⟩
        . rw[ah.aW];simp(disch:=omega)[go_sem]<;>omega
        . simp(disch:=omega)[go_sem,f1]
        . simp(disch:=omega)[go_sem,f2]
        . rw[ah.aW];simp(disch:=omega)[go_sem]<;>omega
        . rw[<-e2]at bn;exact bn
   clear f1 f2 ad hN;intro d2 bW;obtain⟨H2,aM,hN,f1,f2,ad,aO,ao,af,rfl⟩:=(bb _).1 bW;clear bW;have bJ:aM.length=st.length:=by have:=congrArg List.length aO;simpa using this
   refine pP (j6 ?_);refine aL ?_;obtain⟨I3,bo⟩:∃I3:DS->Prop,∀d,I3 d↔∃H3 v,N+2<=H3.next/\H3.get N=some (.row se true 0)/\H3.get (N+1)=some (.row (iH o) true 0)/\j8 H3 (N+2) H3.next aM pv/\wM (i,fG g x.1) [iV (i:Nat),v]/\cG v=[v]/\cD v=true/\d=⟨bw [(1,aX N),(3,fU (N+1) n),(4,pv),(5,iV (i:Nat)),(11,v),(24,iV (n:Nat)),(25,iV (i:Nat))],126,[],H3⟩:=⟨_,λ_=>Ey⟩;refine DL I3 (j6 ?_) ?_
   . by_cases bX:x.1<0
     . have bL:fG g x.1=[]:=by unfold fG;rw[if_pos bX]
       have bN:¬0<=x.1:=aa;simp(disch:=omega)[go_sem,bN];refine⟨_,aB.bk (l:=[(1,aX N),(3,fU (N+1) n),(4,pv),(5,iV (i:Nat)),(11,cm),(24,iV (n:Nat)),(25,iV (i:Nat))]) ?_,(bo _).2 ⟨_,cm,hN,f1,f2,ad,.inr ⟨bL,rfl⟩,rfl,rfl,rfl⟩⟩;exact ai
     . have bN:0<=x.1:=aa;obtain⟨P,hP⟩:∃P,g.aq[x.1.toNat]? =some P:=by
        rcases bT with h1|h1
        . omega
        . exact⟨_,Fj h1.2.1⟩
       have bL:fG g x.1=P.right:=by unfold fG;rw[if_neg bX,hP]
       simp(disch:=omega)[go_sem,bN,f1,aP,hP,-getElem?_pos,aK.e];refine⟨_,aB.bk (l:=[(1,aX N),(3,fU (N+1) n),(4,pv),(5,iV (i:Nat)),(11,.sl 2 (P.right.map Sym.e)),(24,iV (n:Nat)),(25,iV (i:Nat))]) ?_,(bo _).2 ⟨_,.sl 2 (P.right.map Sym.e),hN,f1,f2,ad,.inl (by rw[bL]),rfl,rfl,rfl⟩⟩;exact ai
   clear f1 f2 ad hN;intro d3 bY;obtain⟨H3,v,hN,f1,f2,ad,aJ,bZ,bO,rfl⟩:=(bo _).1 bY;clear bY;refine pP (j6 ?_);simp(disch:=omega)[go_sem,bZ,bO];refine j8.push (st:=276) (xt:=276) (B:=N+2) (U:=H3.next) (sk:=aM) (e:=(i,fG g x.1)) (new:=[iV (i:Nat),v]) (ad.same (λq q1 q2=>ai) (Rb _)) aJ Gd vK aa (by simp(disch:=omega)[go_sem]<;>omega) ai (by simp only[List.all_cons,List.all_nil,bO];rfl) aa λH4 b0 T4 z1 z2 z3=> ?_;replace z2:=cr z2;have g1:=z3 N (by simp(disch:=omega)[go_sem]<;>omega) (ad.ne (.inl aa));have g2:=z3 (N+1) (by simp(disch:=omega)[go_sem]<;>omega) (ad.ne (.inl aa));simp(disch:=omega)[go_sem,f1,f2]at g1 g2;refine aL ?_;have aZ:uS g nd (i+1) ((i,fG g x.1)::aM) o:=⟨aH.1,λk hk=>by
    by_cases ch:k=i
    . subst ch;exact .inl aw
    . rcases aH.2 k aa with h|h
      . exact .inl (by rw[afd,aO];exact UR _ h)
      . exact .inr h⟩
   have aS:((i,fG g x.1)::aM).length<=i+1:=by rw[Xt];omega
   have cj:N+2<=H4.next:=aa;clear f1 f2 ad hN aH hlen av aT bm bb bo aJ bZ bO aO bJ z3;generalize (i,fG g x.1)::aM=ck at z1 ao af aZ aS;refine Kz ?_;obtain⟨J,hJ⟩:∃J:Nat->DS->Prop,∀j d,J j d↔∃(st:jG) (o:List Nat) (H:ah) (pv:DV),j=st.length/\jF g (ax st) (nd.drop (i+1))/\fI g nd (i+1) 0 st/\uS g nd (i+1) st o/\st.length<=i+1/\N+2<=H.next/\H.get N=some (.row se true 0)/\H.get (N+1)=some (.row (iH o) true 0)/\j8 H (N+2) H.next st pv/\d=⟨bw [(1,aX N),(3,fU (N+1) n),(4,pv),(5,iV (i:Nat)),(24,iV (n:Nat)),(25,iV (i:Nat))],126,[],H⟩:=⟨_,λ_ _=>Ey⟩;refine bM J _ ⟨_,aB.bk (l:=[(1,aX N),(3,fU (N+1) n),(4,b0),(5,iV (i:Nat)),(24,iV (n:Nat)),(25,iV (i:Nat))]) ?_,(hJ _ _).2 ⟨ck,o,H4,b0,rfl,ao,af,aZ,aS,cj,g1,g2,z1,rfl⟩⟩ ?_
   . exact ai
   clear ao af aZ aS g1 g2 z1;intro j2 cv b1;obtain⟨st,o,H,pv,bg,ao,af,aH,aS,hN,f1,f2,ad,rfl⟩:=(hJ _ _).1 b1;clear b1;have done:∀T:Tr DV,(∀e r b,st=(e,r)::b->r≠[])->iQ T [(1,aX N),(3,fU (N+1) n),(4,pv),(24,iV (n:Nat)),(25,iV (i+1:Nat))]->∃j',j'<j/\∃d',aB ⟨T,126,[],H⟩ d'/\I j' d':=λT h1 h2=>
    ⟨j-1,aa,_,aB.bk h2,(hI _ _).2 ⟨i+1,st,o,H,pv,aa,.inr ⟨aa,ao,af⟩,h1,aH,aS,hN,f1,f2,ad,rfl⟩⟩
   have hlen:=λh=>ad.len h 276 2 vK
   match st,bg,ao,af,aH,aS,ad,done,hlen with
   |[],bg,ao,af,aH,aS,ad,done,hlen=>
    simp(disch:=omega)[go_sem,hlen,aG];refine j6 ?_;simp(disch:=omega)[go_sem,aG];refine done _ (λe r b h=>(by cases h)) ?_;exact ai
   |(e,r)::b,bg,ao,af,aH,aS,ad,done,hlen=>
    rcases ad with⟨h0,_⟩|⟨R,cap,ys,ab,r1,r2,rfl,r3,⟨zs,xx,rfl,aJ,az⟩,r5,r6⟩
    . cases h0
    obtain⟨y1,y2⟩:=az.len;obtain⟨v,rfl,b2,cx⟩:∃v,xx=[iV (e:Nat),v]/\(∀h,fp E h 82 v=some (iV (r.length:Nat)))/\True:=by
     rcases aJ with rfl|⟨h0,rfl⟩
     . exact⟨_,rfl,λh=>by simp[go_sem],trivial⟩
     . refine⟨_,rfl,λh=> ?_,trivial⟩;have h0:r=[]:=h0;subst h0;simp[go_sem]
    obtain⟨c0,c1,c2,c3⟩:=Ky zs y2 (iV (e:Nat)) v ab b.length y1;obtain⟨CS,bc⟩:∃CS,(zs++[[iV (e:Nat),v]]).flatten++ab=CS:=⟨_,rfl⟩;have bq:H.get R=some (.row CS true 2):=by rw[<-bc];exact r5
    rw[bc]at c0 c1 c2 c3;have hL:((b.length+1:Nat):Int)-1=b.length:=aa;have bd:(0:Int)<=b.length:=aa;have cc:b.length<=i:=by simpa using aS
    have aE:∀h,fp E h 276 (.v (.slice (some ⟨R,0,none⟩) (b.length+1) cap))=some (iV ((b.length+1:Nat):Int)):=λh=>hlen h;have dO:(0:Int)<b.length+1:=aa;by_cases hr:r=[]
    . subst hr;obtain⟨q1,q2⟩:=af.pop;have cy:e<i+1:=af.lt (e,[]) afh;have cz:=aH.1;have cl:=DC o;have cn:(e+1<=o.length)=True:=eq_true aa;have aT:=DD o e (i+1) aa;simp(disch:=omega)[go_sem,aE,aG,hL,bd,dO,bq,c0,c1,b2,f2,cl,cn,-getElem?_pos];have cC:b.length+1<=cap:=by simpa using r3
      refine Co (ak:=2) (cs:=CS) (wr:=true) vK (by simp(disch:=omega)[go_sem,bq]) (.inr rfl) aa aa ?_;refine aL ?_;refine⟨j2-1,by rw[bg,Xt];omega,_,aB.bk (l:=[(1,aX N),(3,fU (N+1) n),(4,.v (.slice (some ⟨R,0,none⟩) b.length cap)),(5,iV (i:Nat)),(24,iV (n:Nat)),(25,iV (i:Nat))]) ?_,(hJ _ _).2 ⟨b,o.set e (i+1),_,_,by rw[bg,Xt];omega,ao,q2,aH.pop aa q1,aa, ?_, ?_, ?_,.inr ⟨R,cap,zs,[iV (e:Nat),v]++ab,r1, ?_,rfl, ?_,az, ?_, ?_⟩,rfl⟩⟩
      . exact ai
      . rw[ah.aW];exact hN
      . simp(disch:=omega)[go_sem,f1]
      . simp(disch:=omega)[go_sem];exact aT
      . rw[ah.aW];exact r2
      . simp only[Xt]at r3;omega
      . rw[ah.bD,if_neg aa,bq,<-bc];simp
      . simp only[afq,Xt,afx]at r3 r6⊢;omega
    . have cp:¬r.length=0:=λh=>hr (afv h);simp(disch:=omega)[go_sem,aE,aG,hL,bd,dO,bq,c1,b2,cp,-getElem?_pos];refine j6 ?_;simp(disch:=omega)[go_sem,aG];refine done _ (λe' r' b' h=>(by cases h;exact hr)) ?_;exact ai
 . have aR:¬(i:Int)<n:=aa;simp(disch:=omega)[go_sem,aR];refine pP (j6 ?_);refine aL ?_;have hi:i=n:=aa;subst hi;obtain⟨h1,h2,h3⟩:0<i/\jF g (ax st) (nd.drop i)/\fI g nd i 0 st:=by
    rcases aT with⟨h,_⟩|h
    . omega
    . exact h
   have aY:st=[]:=by
    rw[afg aa]at h2;have h4:=h2.none
    match st,av,h4 with
    |[],_,_=>rfl
    |(e,r)::b,av,h4=>
     simp only[ax,afw,List.append_eq_nil_iff]at h4;exact absurd h4.1 (av e r b rfl)
   subst aY;have ho:o=sO g nd:=by
    refine afy λk=> ?_;unfold sO;rw[afe];by_cases hk:k<i
    . rcases aH.2 k hk with h|h
      . cases h
      . rw[h,afz aa];rfl
    . rw[afA (by rw[aH.1];omega),afA (by simp;omega)];rfl
   simp(disch:=omega)[go_sem,aR,hlen];rw[<-ho];have h5:=DE (S:=allRows H) (r:=N+1) (l:=o) (cu f2) (.inl rfl);rw[aH.1,<-bt]at h5;exact h5
end Go.Sp
end
noncomputable section
open Go Go.aD Go.Proofs
namespace Go.Sp
def KB(g:aj)(s:ByteArray):∀(l:List Nat) (p:Nat×List Nat),(0<p.1->p.2≠[])->0<(pM g s l p).1->(pM g s l p).2≠[]
 |[],p,h=>h
 |t::l,p,h=>by
  refine KB g s l (ln (lenOf g s t) t p) ?_;unfold ln;simp only
  split
  . rename_i h1;intro h2;rw[if_pos ⟨rfl,h2⟩];simp
  . intro h2
    split
    . simp
    . exact h h2
def ad6{m t:Nat}{p:Nat×List Nat}{x:Nat}(h:x∈(ln m t p).2):x∈p.2\/x=t:=by
 unfold ln at h;simp only at h;by_cases h1:p.1<m
 . simp only[if_pos h1]at h
   split at h
   . right;simpa using h
   . cases h
 . simp only[if_neg h1]at h
   split at h
   . simpa using h
   . exact .inl h
def KE(g:aj)(s:ByteArray):∀(l:List Nat) (p:Nat×List Nat),∀x∈(pM g s l p).2,x∈p.2\/x∈l
 |[],p,x,h=>.inl h
 |t::l,p,x,h=>by
  rcases KE g s l (ln (lenOf g s t) t p) x h with h1|h1
  . rcases ad6 h1 with h2|rfl
    . exact .inl h2
    . exact .inr aw
  . exact .inr (UR _ h1)
def KF(g:aj)(c:Nat)(s:ByteArray)(h:0<(firstM g c s).1):∃t tl tk,(firstM g c s).2=t::tl/\g.aF[t]? =some tk:=by
 have h1:=KB g s (mB g c) (0,[]) (λh=>by cases h) h;cases hl:(firstM g c s).2 with
 |nil=>exact absurd hl h1
 |cons t tl=>
  have hm:t∈(firstM g c s).2:=by rw[hl];simp
  rcases KE g s (mB g c) (0,[]) t hm with h2|h2
  . cases h2
  . exact⟨t,tl,_,rfl,Fj (J4 g c t h2)⟩
def qP(g:aj)(l:List Nat):Int:=match l with
 |t::_=>match g.aF[t]? with|some tk=>tk.cls|none=>0
 |[]=>0
def uT(g:aj)(k:Int):ByteArray:=match g.aF[k.toNat]? with
 |some tk=>tk.lit
 |none=>⟨#[]⟩
def oh(g:aj)(c:Nat)(l:Lf)(f:bl):Bool:=decide (f.kind=5)&&decide (f.token=(l.tok:Int))&&dI f.cond c&&f.aF.any λt=>decide (uT g t=l.text)
def qQ(g:aj)(c:Nat)(s:ByteArray)(l:Lf):Bool:=decide ((firstM g c s).1=l.text.size)&&decide (qP g (firstM g c s).2=0)&&((firstM g c s).2.any λt=>decide (l.tok=t))&& !(g.bx.any (oh g c l))
theorem DM(g:aj)(c:Nat):ic g c=[strs g.conds,.sl 3 (g.family.nodes.map cB),iV g.family.root,.sl 7 (g.aF.map Tok.e),strs g.aI,.sl 13 (g.aq.map aK.e),iV g.start,.sl 4 (g.bj.map cP.e),.sl 9 (g.bx.map bl.e),cI (mB g c),.fn 154 [] [.ptr g.e 0]]:=rfl
def ad7(g:aj)(c:Nat)(l:Lf)(k:Int)(h0:0<=k)(tk:Tok)(hk:g.aF[k.toNat]? =some tk):ay E true 162 [iV k,.ptr [.ptr (ic g c) 0] 0,.ptr l.e 0] (bV (decide (uT g k=l.text))):=by
 have aP:=(Q0.1 hk).1;have aY:uT g k=tk.lit:=by simp only[uT,hk]
 rw[aY];refine aV Tryz.ntmps162 Tryz.results162 λN=> ?_;refine aL ?_;refine bH [aC 0,ae 1,ae 3,ae 7,aC 15,ae 0,ae 63,ae 127,aC 255,ae 0,aC 512,ae 2047,ae 4095] an 0 rfl ?_;simp(disch:=omega)[go_sem,DM,hk,h0,-getElem?_pos,Tok.e,Lf.e]
def ad8(g:aj)(hg:GV g)(c:Nat)(hc:c<8)(l:Lf)(f:bl)(hf:f∈g.bx):ay E true 160 [.agg f.e,.ptr l.e 0,.ptr [cV c] 0,.ptr [.ptr (ic g c) 0] 0] (bV (oh g c l f)):=by
 obtain⟨⟨cf,aZ,aM⟩,ba⟩:=hg.bx.ok f hf;have hh:=qN cf c aM.1 hc;rw[<-aZ]at hh;simp only[Dg.e]at hh;obtain⟨ad,ab⟩:∃ad,oh g c l f=ad:=⟨_,rfl⟩;rw[ab];refine aV Tryz.ntmps160 Tryz.results160 λN=> ?_;simp(disch:=omega)[go_sem,bl.e];by_cases h5:f.kind=5
 . have aO:f.kind=5/\∃t,nf g t f.aF:=by
    rcases ba with h|h|h|h|h
    . have:=h.1;omega
    . have:=h.1;omega
    . have:=h.1;omega
    . have:=h.1;omega
    . obtain⟨_,_,_,_,_,_,t,_,_,_,h9⟩:=h;exact⟨h5,_,h9⟩
   obtain⟨_,K,aG⟩:=aO;by_cases ht:f.token=(l.tok:Int)
   . simp(disch:=omega)[go_sem,h5,ht,Lf.e];refine au.mk hh λM=>aR λhM=> ?_;cases aS:dI f.cond c with
     |false=>
      rw[show ad=false from by rw[<-ab];simp[oh,aS]];exact ai
     |true=>
      have aA:=adq f.aF (λt=>decide (uT g t=l.text)) 162 [.ptr [.ptr (ic g c) 0] 0,.ptr l.e 0] (by have:=aG.len;omega) (λx hx=>by
       obtain⟨h0,t,h1,_⟩:=aG.tok x hx;exact ad7 g c l x h0 t h1)
      rw[show ad=f.aF.any (λt=>decide (uT g t=l.text))from by rw[<-ab];simp[oh,aS,h5,ht]];refine aL ?_;refine au.mk aA λM2=>aR λbb=> ?_;exact ai
   . rw[show ad=false from by rw[<-ab];simp[oh,ht]];simp(disch:=omega)[go_sem,h5,ht,Lf.e]
 . rw[show ad=false from by rw[<-ab];simp[oh,h5]];simp(disch:=omega)[go_sem,h5]
def wN{S:fB}{f:FuncId}{a b:List DV}(h:de S a b):Fz S (.fn f [] a) (.fn f [] b):=
 .fn rfl (λi v d h1 _=>by simp at h1) h.length λi v d h1 h2=>by
  obtain⟨d',h3,h4⟩:=h.get i v h1;rw[h2]at h3;cases h3;exact h4
def ad9(l:List Nat):cI l=ints (l.map λ(n:Nat)=>(n:Int)):=by simp[List.map_map]
set_option maxHeartbeats 4000000 in
def aea(g:aj)(hg:GV g)(ht:sL g)(c:Nat)(hc:c<8)(s:ByteArray)(hs:s.size<=1000000000)(l:Lf)(hl:0<l.text.size):ay E true 86 [.ptr (ic g c) 0,cV c,sV s,.agg l.e] (bV (qQ g c s l)):=by
 have ao:=J6 g ht c s hs;obtain⟨ad,ab⟩:∃ad,qQ g c s l=ad:=⟨_,rfl⟩;rw[ab];refine aV Tryz.ntmps86 Tryz.results86 λN=> ?_;obtain⟨RD,aH⟩:∃RD,ic g c=RD:=⟨_,rfl⟩;have az:=DM g c;rw[aH]at ao az;rw[aH];have bg:cG (.sl 1 [])=[.sl 1 []]:=rfl;simp(disch:=omega)[go_sem,Lf.e];refine au.mk ao λM=>cY λhM=> ?_;refine bH [ae 0,ae 0,aC 2,aC 6,ae 15,ae 31,aC 63,ae 127,ae 255,ae 511,aC 1023,ae 63,ae 2111,aC 6207,ae 16383,ae 32767,aC 65535,ae 131071,ae 262143,ae 524287,ae 1048575,ae 1048575,aC 3145727,aT 8388607,ae 16777215,ae 33554431] an 0 rfl ?_;by_cases hn:(firstM g c s).1=l.text.size
 . have aE:((firstM g c s).1:Int)=l.text.size:=aa;obtain⟨t,tl,tk,h1,h2⟩:=KF g c s aa;have hlen:(firstM g c s).2.length<=100000:=by
    have h3:=J3 g s (mB g c) (0,[]);have h4:=J5 g c;have h5:=ht.len;have h6:(firstM g c s).2.length<=(mB g c).length:=by simpa[firstM]using h3
    omega
   have aJ:=adm ((firstM g c s).2.map λ(n:Nat)=>(n:Int)) (l.tok:Nat) (by rw[Rm];exact hlen);rw[<-ad9,afr]at aJ;have av:qP g (firstM g c s).2=tk.cls:=by rw[h1];simp only[qP,h2]
   have aP:=(Q0.1 h2).1;have ah:((firstM g c s).2.map λ(n:Nat)=>[iV (n:Nat)])[0]? =some [iV (t:Nat)]:=by rw[h1];rfl
   have bc:0<(firstM g c s).2.length:=by rw[h1];simp
   have af:ad=(decide ((firstM g c s).1=l.text.size)&&decide (qP g (firstM g c s).2=0)&&((firstM g c s).2.any λt=>decide (l.tok=t))&& !(g.bx.any (oh g c l))):=by rw[<-ab];rfl
   clear ab;generalize firstM g c s=FM at*;by_cases h0:tk.cls=0
   . simp(disch:=omega)[go_sem,jd,aE,az,ah,h2,Tok.e,h0,-getElem?_pos];refine au.mk aJ λM2=>aR λbb=> ?_;have aA:((λy=>decide ((l.tok:Int)=y))∘λ(n:Nat)=>(n:Int))=λt=>decide (l.tok=t):=by
      funext t
      simp only[Function.comp_def];rw[decide_eq_decide];omega
     rw[aA];cases aW:FM.2.any λt=>decide (l.tok=t)with
     |false=>
      rw[show ad=false from by rw[af,aW];simp];exact ai
     |true=>
      have bd:=ado g.bx bl.e (oh g c l) 160 [.ptr l.e 0,.ptr [cV c] 0,.ptr [.ptr (ic g c) 0] 0] (λ_=>rfl) (by have:=hg.bx.len;omega) (λf hf=>ad8 g hg c hc l f hf);rw[show ad= !(g.bx.any (oh g c l))from by rw[af,aW,av,hn,h0];simp];simp(disch:=omega)[go_sem,az];refine au.pl bd (.cons (.refl _) (.cons (wN (.cons ?_ (.cons ?_ (.cons ?_ .nil)))) .nil)) λM3 aX=> ?_
      . exact iZ (ak:=0) (cu (wr:=true) (by simp(disch:=omega)[go_sem];try rfl))
      . exact iZ (ak:=0) (cu (wr:=true) (by simp(disch:=omega)[go_sem];try rfl))
      . rw[aH,az];exact iZ (ak:=0) (cu (wr:=true) (by simp(disch:=omega)[go_sem];try rfl))
      replace aX:=cr aX;exact ai
   . simp(disch:=omega)[go_sem,jd,aE,az,ah,h2,Tok.e,h0,-getElem?_pos];rw[show ad=false from by rw[af,av];simp[h0]];exact .refl _
 . have aE:¬((firstM g c s).1:Int)=l.text.size:=aa;rw[show ad=false from by rw[<-ab];simp[qQ,hn]];simp(disch:=omega)[go_sem,jd,aE]
def sT:ByteArray:=⟨#[32]⟩
def wO(g:aj)(c:Nat)(s:ByteArray):Bool:=decide ((firstM g c (sT++s)).1=1)&&decide (qP g (firstM g c (sT++s)).2=1)
set_option maxHeartbeats 4000000 in
def aeb(g:aj)(ht:sL g)(c:Nat)(s:ByteArray)(hs:s.size<=900000000):ay E true 87 [.ptr (ic g c) 0,sV s] (bV (wO g c s)):=by
 have bf:(⟨#[32]⟩:ByteArray).size+s.size<=9223372036854775807:=by show 1+s.size<=_;omega
 have ao:=J6 g ht c (sT++s) (by rw[aff];show 1+s.size<=_;omega);obtain⟨ad,ab⟩:∃ad,wO g c s=ad:=⟨_,rfl⟩;rw[ab];refine aV Tryz.ntmps87 Tryz.results87 λN=> ?_;obtain⟨RD,aH⟩:∃RD,ic g c=RD:=⟨_,rfl⟩;have az:=DM g c;rw[aH]at ao az⊢;simp only[sT]at ao;simp(disch:=omega)[go_sem,tR (h:=bf)];refine au.mk ao λM=>cY λhM=> ?_;refine bH [ae 0,ae 1,ae 3,ae 7,ae 15,ae 31,ae 63,aC 127,ae 7,ae 263,aC 775,ae 2047,ae 4095,aC 8191,ae 16383,ae 32767,ae 65535] an 0 rfl ?_;have af:ad=(decide ((firstM g c (⟨#[32]⟩++s)).1=1)&&decide (qP g (firstM g c (⟨#[32]⟩++s)).2=1)):=by rw[<-ab];rfl
 clear ab;by_cases hn:(firstM g c (⟨#[32]⟩++s)).1=1
 . obtain⟨t,tl,tk,h1,h2⟩:=KF g c (⟨#[32]⟩++s) aa;have av:qP g (firstM g c (⟨#[32]⟩++s)).2=tk.cls:=by rw[h1];simp only[qP,h2]
   have aP:=(Q0.1 h2).1;have ah:((firstM g c (⟨#[32]⟩++s)).2.map λ(n:Nat)=>[iV (n:Nat)])[0]? =some [iV (t:Nat)]:=by rw[h1];rfl
   have bc:0<(firstM g c (⟨#[32]⟩++s)).2.length:=by rw[h1];simp
   generalize firstM g c (⟨#[32]⟩++s)=FM at*;rw[show ad=decide (tk.cls=1)from by rw[af,av,hn];simp];simp(disch:=omega)[go_sem,hn,az,ah,h2,Tok.e,-getElem?_pos]
 . have aE:¬((firstM g c (⟨#[32]⟩++s)).1:Int)=1:=aa;rw[show ad=false from by rw[af];simp[hn]];simp(disch:=omega)[go_sem,aE]
def au.some{K:b9}{dd:List FuncId}{dh:ah}{f:FuncId}{args:List DV}{k:Nat}{xs:List (List DV)}(hf:ay E true f args (.sl k xs))(bc:xs≠[])(hk:∀N b o c,dh.next<=N->K (.v (.slice (some ⟨b,o,none⟩) xs.length c)) dd (dh.up N) []):au E true K dd dh (f,args):=by
 intro G h vs x ha;obtain⟨v,h',h1,h2⟩:=cJ.of (K:=λv aX T=>v=.sl k xs/\∃N,dh.next<=N/\aX=dh.up N/\T=[]) hf (λN hN=>⟨rfl,N,hN,rfl,rfl⟩) G h vs x ha;obtain⟨d,aX,G',T,r2,r3,r4,r5,rfl,N,hN,rfl,rfl⟩:=h2;cases r4 with
 |jO _=>exact absurd rfl bc
 |sl _ _ _ _ _ _ _=>exact⟨_,h',h1,_,_,G',[],r2,r3,.v _,r5,hk N _ _ _ hN⟩
def zw(g:aj)(n:Nd):Prop:=(n.p=-1/\0<=n.t/\n.t.toNat<g.aF.length)\/(0<=n.p/\n.p.toNat<g.aq.length/\n.t=-1/\n.text=⟨#[]⟩/\n.rem=[])
def fT.ok{g:aj}{c:Nat}{a:List Sym}{x:List Nd}(h:fT g c a x)(h0:∀P∈g.aq,∀s∈P.right,0<=s.idx)(hs:∀s∈a,0<=s.idx):∀n∈x,zw g n:=by
 induction h with
 |nil=>intro n hn;cases hn
 |leaf h1 _ ih=>
  intro n hn;rcases yx.1 hn with rfl|hn
  . obtain⟨t,ht,_⟩:=h1.tok;have:=hs _ afh;exact .inl ⟨h1.p,by rw[h1.t];exact this,by rw[h1.t];exact(Q0.1 ht).1⟩
  . exact ih (λs hm=>hs s (UR _ hm)) n hn
 |node h1 h2 h3 _ ih=>
  intro n hn;rcases yx.1 hn with rfl|hn
  . exact .inr ⟨afB _,(Q0.1 h1).1,rfl,rfl,rfl⟩
  . refine ih (λs hm=> ?_) n hn;rcases afi.1 hm with h|h
    . exact h0 _ (oY h1) s h
    . exact hs s (UR _ h)
set_option maxHeartbeats 4000000 in
def aec(g:aj)(ns:List Nd)(tl:List ByteArray)(i:Nat)(n:Nd)(hn:ns[i]? =some n)(aH:zw g n):ay E true 94 [iV (i:Nat),.ptr [.sl 4 (ns.map Nd.e),strs tl] 0,.ptr g.e 0] (.bf [iV n.p,iV n.t,bV true]):=by
 refine aV Tryz.ntmps94 Tryz.results94 λN=> ?_;rcases aH with⟨h1,h2,h3⟩|⟨h1,h2,h3,h4,h5⟩
 . have bd:n.t<g.aF.length:=aa;simp(disch:=omega)[go_sem,hn,-getElem?_pos,Nd.e,h1];refine bH [ae 0,aC 1,ae 0,aC 4,ae 12,ae 28,ae 60,aC 124,ae 60,aC 316,aC 828,ae 2044,ae 4092,ae 60,ae 8255,ae 32767] an 0 rfl ?_;simp(disch:=omega)[go_sem,aj.e,h2,bd]
 . have bg:¬n.p=-1:=aa;have bk:n.p<g.aq.length:=aa;simp(disch:=omega)[go_sem,hn,-getElem?_pos,Nd.e,bg];refine bH [ae 0,aC 1,ae 0,aC 4,ae 0,aC 16,ae 48,ae 112,ae 240,aC 496,ae 240,aC 1264,aC 3312,ae 8176,ae 16368,ae 32752,ae 65520,aC 131056,ae 262128,ae 524272,ae 1048560,ae 2097136,aC 4194288,ae 8388592,ae 16777200,ae 33554416,ae 67108848,aC 134217712,aC 268435440,ae 536870896,ae 1073741808,ae 67108851,ae 2214592511,ae 8589934591] an 0 rfl ?_;simp(disch:=omega)[go_sem,aj.e,h1,bk,h3,h4,h5]
set_option maxHeartbeats 4000000 in
def aed(g:aj)(ns:List Nd)(tl:List ByteArray)(n0:Nd)(aZ:ns[0]? =some n0)(dO:0<=n0.p)(hl:ns.length<=1000000)(aH:∀n∈ns,zw g n)(s0:Sym)(hs:jF g [s0] (ns.map Nd.pt)):ay E true 39 [.agg g.e,gq ns tl] (cI (sO g (ns.map Nd.pt))):=by
 have ba:0<ns.length:=(Q0.1 aZ).1;have bb:=ad5 g (ns.map Nd.pt) 94 [.ptr [.sl 4 (ns.map Nd.e),strs tl] 0,.ptr g.e 0] (by simpa using ba) (by simpa using hl) (λi n hn=>by
  rw[afe]at hn;cases h:ns[i]? with
  |none=>rw[h]at hn;cases hn
  |some m=>rw[h]at hn;cases hn;exact aec g ns tl i m h (aH m (oY h))) s0 hs
 have aJ:¬n0.p<0:=aa;have bl:(0:Int)<ns.length:=aa;rw[Rm]at bb;refine aV Tryz.ntmps39 Tryz.results39 λN=> ?_;unfold gq;simp(disch:=omega)[go_sem,aj.e,ba,aZ,-getElem?_pos,Nd.e,aJ];refine au.fz bb [N,N+1] ai ?_ λM hM=>ai
 . refine .cons (Fz.dG ?_) .nil;simp only[zr,BM,BL,BK,and_true,true_and];exact wN (.cons (iZ (ak:=0) (fq (wr:=true) aw ai)) (.cons (iZ (ak:=0) (fq (wr:=true) aw (by simp(disch:=omega)[go_sem,aj.e]))) .nil))
def aee{α:Type}(xs:List α)(en:α->List DV)(ps:α->Bool)(f:FuncId)(c:List DV)(hx:∀x,(en x).length=7)(hl:xs.length<=100000)(hf:∀x∈xs,ay E true f (.agg (en x)::c) (bV (ps x))):ay E true 147 [.sl 7 (xs.map en),.fn f [] c] (iV (fk (xs.map ps) 0)):=by
 refine aV Tryz.ntmps147 Tryz.results147 λN=> ?_;obtain⟨R,hR⟩:∃R,fk (xs.map ps) 0=R:=⟨_,rfl⟩;rw[hR];refine aL ?_;obtain⟨I,hI⟩:∃I:Nat->DS->Prop,∀j d,I j d↔∃(k P:Nat),j+k=xs.length/\fk ((xs.map ps).drop k) k=R/\d=⟨bw [(0,.sl 7 (xs.map en)),(1,.fn f [] c),(7,iV xs.length),(8,iV k)],19,[],cA P []⟩:=⟨_,λ_ _=>Ey⟩;refine bM I xs.length ⟨_,aB.mk (N:=N) ai ai ai,(hI _ _).2 ⟨0,N,rfl,hR,rfl⟩⟩ ?_
 . intro j ds ao;obtain⟨k,P,hj,ab,rfl⟩:=(hI _ _).1 ao;clear ao;by_cases aK:k<xs.length
   . have ad:(k:Int)<xs.length:=aa;obtain⟨y,hy⟩:∃y,xs[k]? =some y:=⟨_,Fj aK⟩;rw[wK (b:=ps y) (by rw[afe,hy];rfl)]at ab;have aM:=hf y (oY hy);have bm:=sw (hx y);simp(disch:=omega)[go_sem,ad,hy,-getElem?_pos,bm];refine au.mk aM λP2 bn=> ?_;cases hb:ps y with
     |true=>
      rw[hb,if_pos rfl]at ab;subst ab;exact ai
     |false=>
      rw[hb,if_neg aA]at ab;simp(disch:=omega)[go_sem,aG];exact⟨j-1,aa,_,aB.mk (N:=P2) ai ai ai,(hI _ _).2 ⟨k+1,P2,aa,ab,rfl⟩⟩
   . have ad:¬(k:Int)<xs.length:=aa;rw[afg (by simp;omega)]at ab;have ab:(-1:Int)=R:=ab;simp(disch:=omega)[go_sem,ad,ab]
def aef{α:Type}(xs:List α)(en:α->List DV)(ps:α->Bool)(f:FuncId)(c:List DV)(hx:∀x,(en x).length=7)(hl:xs.length<=100000)(hf:∀x∈xs,ay E true f (.agg (en x)::c) (bV (ps x))):ay E true 79 [.sl 7 (xs.map en),.fn f [] c] (bV (xs.any ps)):=by
 refine aV Tryz.ntmps79 Tryz.results79 λN=> ?_;have hr:=uN (xs.map ps) 0;rw[afr]at hr;have aO:xs.any ps=decide (0<=fk (xs.map ps) 0):=hr.symm;rw[aO];refine aL ?_;refine au.mk (aee xs en ps f c hx hl hf) λM=>aR λhM=> ?_;exact ai
def aeg(xs:List ByteArray)(ps:ByteArray->Bool)(f:FuncId)(c:List DV)(hl:xs.length<=100000)(hf:∀x∈xs,ay E true f (sV x::c) (bV (ps x))):ay E true 149 [strs xs,.fn f [] c] (iV (fk (xs.map ps) 0)):=by
 refine aV Tryz.ntmps149 Tryz.results149 λN=> ?_;obtain⟨R,hR⟩:∃R,fk (xs.map ps) 0=R:=⟨_,rfl⟩;rw[hR];refine aL ?_;obtain⟨I,hI⟩:∃I:Nat->DS->Prop,∀j d,I j d↔∃(k P:Nat),j+k=xs.length/\fk ((xs.map ps).drop k) k=R/\d=⟨bw [(0,strs xs),(1,.fn f [] c),(7,iV xs.length),(8,iV k)],19,[],cA P []⟩:=⟨_,λ_ _=>Ey⟩;refine bM I xs.length ⟨_,aB.mk (N:=N) ai ai ai,(hI _ _).2 ⟨0,N,rfl,hR,rfl⟩⟩ ?_
 . intro j ds ao;obtain⟨k,P,hj,ab,rfl⟩:=(hI _ _).1 ao;clear ao;by_cases aK:k<xs.length
   . have ad:(k:Int)<xs.length:=aa;obtain⟨y,hy⟩:∃y,xs[k]? =some y:=⟨_,Fj aK⟩;rw[wK (b:=ps y) (by rw[afe,hy];rfl)]at ab;have aM:=hf y (oY hy);simp(disch:=omega)[go_sem,ad,hy,-getElem?_pos];refine au.mk aM λP2 bn=> ?_;cases hb:ps y with
     |true=>
      rw[hb,if_pos rfl]at ab;subst ab;exact ai
     |false=>
      rw[hb,if_neg aA]at ab;simp(disch:=omega)[go_sem,aG];exact⟨j-1,aa,_,aB.mk (N:=P2) ai ai ai,(hI _ _).2 ⟨k+1,P2,aa,ab,rfl⟩⟩
   . have ad:¬(k:Int)<xs.length:=aa;rw[afg (by simp;omega)]at ab;have ab:(-1:Int)=R:=ab;simp(disch:=omega)[go_sem,ad,ab]
def aeh(xs:List ByteArray)(ps:ByteArray->Bool)(f:FuncId)(c:List DV)(hl:xs.length<=100000)(hf:∀x∈xs,ay E true f (sV x::c) (bV (ps x))):ay E true 83 [strs xs,.fn f [] c] (bV (xs.any ps)):=by
 refine aV Tryz.ntmps83 Tryz.results83 λN=> ?_;have hr:=uN (xs.map ps) 0;rw[afr]at hr;have aO:xs.any ps=decide (0<=fk (xs.map ps) 0):=hr.symm;rw[aO];refine aL ?_;refine au.mk (aeg xs ps f c hl hf) λM=>aR λhM=> ?_;exact ai
def KG{i:Nat}{m:dM}(hm:gL[i]? =some m){l:List ByteArray}(h:(l.all (qM m)&&l.all λs=>Nat.ble s.size 4)=true)(s:ByteArray)(hs:s∈l):ay E true 84 [.sl 5 (m.p.map aY.e),sV s] (bV true):=by
 rw[afl]at h;have h2:=Nat.le_of_ble_eq_true (adr.1 h.2 s hs);have:=uK m (gY i m hm) s aa;rwa[adr.1 h.1 s hs]at this
def aei:∀s∈pO,ay E true 84 [.sl 5 (pd.map aY.e),sV s] (bV true):=KG (m:=gK) (i:=0) rfl an
def aej:∀s∈jE,ay E true 84 [.sl 5 (mm.map aY.e),sV s] (bV true):=KG (m:=uI) (i:=2) rfl an
def KJ(t:Tok)(s:ByteArray)(h:(t.lit≠⟨#[]⟩/\t.lit=s)\/(t.lit=⟨#[]⟩/\ay E true 84 [.sl 5 (t.pat.map aY.e),sV s] (bV true))):ay E true 82 [.agg t.e,sV s] (bV true):=by
 refine aV Tryz.ntmps82 Tryz.results82 λN=> ?_;rcases h with⟨h1,rfl⟩|⟨h1,h2⟩
 . simp(disch:=omega)[go_sem,Tok.e,h1]
 . simp(disch:=omega)[go_sem,Tok.e,h1];refine au.mk h2 λM hM=> ?_;exact ai
def aek(g:aj)(hk:eZ g)(c:Nat)(hc:c<8)(s:ByteArray)(hs:s∈jE)(k:Nat)(t:Tok)(ht:g.aF[k]? =some t):ay E true 80 [.agg t.e,.ptr [cV c] 0,.ptr [sV s] 0] (bV (decide (t.cls=2)&&dI t.cond c)):=by
 obtain⟨t0,av,aP,bo,bq,bE⟩:=hk.zp ht;obtain⟨bs,bF⟩:=DG k t0 av;obtain⟨te,aS⟩:∃te,t.e=te:=⟨_,rfl⟩;have af:te=[sV t.name,iV t.cls,sV t.lit,.sl 5 (t.pat.map aY.e),sV t.kW,.sl 3 (t.cond.nodes.map cB),iV t.cond.root]:=by rw[<-aS];rfl
 have az:t.cls=2->ay E true 82 [.agg t.e,sV s] (bV true):=λh=>by
  have aT:=bs.1 (by rw[<-aP];exact h);subst aT;have e:aF[10]? =some tU:=rfl;rw[e]at av;cases av;exact KJ t s (.inr ⟨bo,by rw[bq];exact aej s hs⟩)
 refine aV Tryz.ntmps80 Tryz.results80 λN=> ?_;rw[aS];rw[aS]at az;by_cases h2:t.cls=2
 . have az:=az h2;obtain⟨ct,bt,aW⟩:=hk.tc t (oY ht);have hh:=qN ct c bt hc;rw[<-aW]at hh;simp only[Dg.e]at hh;rw[af,h2]at az;simp(disch:=omega)[go_sem,af,h2];refine au.mk hh λM=>aR λhM=> ?_;cases hb:dI t.cond c with
   |false=>simp(disch:=omega)[go_sem]
   |true=>
    refine aL ?_;refine au.mk az λM2 bG=> ?_;exact ai
 . simp(disch:=omega)[go_sem,af,h2]
def ael(g:aj)(hk:eZ g)(c:Nat)(hc:c<8)(s:ByteArray)(hs:s∈jE)(bu:gO g c 10=true):ay E true 78 [sV s,.ptr g.e 0,.ptr [cV c] 0] (bV false):=by
 have bz:=(Kb hs).1;have bI:=hk.tn;have aE:=aef g.aF Tok.e (λt=>decide (t.cls=2)&&dI t.cond c) 80 [.ptr [cV c] 0,.ptr [sV s] 0] (λ_=>rfl) aa (λt ht=>by
  obtain⟨k,bB⟩:=List.mem_iff_getElem?.1 ht;exact aek g hk c hc s hs k t bB)
 have h1:(g.aF.any λt=>decide (t.cls=2)&&dI t.cond c)=true:=by
  obtain⟨t,ht⟩:∃t,g.aF[10]? =some t:=⟨_,Fj aa⟩;obtain⟨t0,av,aP,_⟩:=hk.zp ht;have bD:t.cls=2:=by rw[aP];exact(DG 10 t0 av).1.2 rfl
  refine List.any_eq_true.2 ⟨t,oY ht, ?_⟩;have:dI t.cond c=true:=by
   have h:=bu;simp only[gO]at h;rw[show(10:Int).toNat=10 from rfl,ht]at h;exact h
  rw[bD,this];rfl
 rw[h1]at aE;refine aV Tryz.ntmps78 Tryz.results78 λN=> ?_;simp(disch:=omega)[go_sem,bz,aj.e];exact au.pl aE (.cons (.refl _) (.cons (wN (.cons (.refl _) (.cons (iZ (ak:=0) (cu (wr:=true) ai)) .nil))) .nil)) λM hM=>ai
end Go.Sp
end
noncomputable section
open Go Go.aD Go.Proofs
namespace Go.aD
variable {e:Env}
def fm.plain{f:FuncId}{args:List Value}{h:ab}{v:Value}(hv:aD.plain v=true)(hr:fm e f args h λu h1=>u=v/\Sub h h1):bU e f args h v h:=by
 refine⟨hr.1,λρ w aM hg ha x=>(hr.2 ρ w aM hg ha x).mono ?_⟩;rintro en w' ⟨_,h1,v',b6,⟨rfl,hs⟩,rfl,q1,q2,q3⟩;refine⟨v',ρ,rfl,(nz (ρ:=ρ) hv).back q3.ext q1,⟨x.hD,λi o ho=> ?_,x.sep⟩,⟨Ext.refl _,q3.os,q3.output,q3.size,q3.frozen,q3.kept,λi o pl a b c=>.inl ⟨i,o,pl,a,b,c,rfl⟩,λ_ _ a _=>a,λ_ a b=>absurd a b,λ_ o a _=>⟨o,a⟩,Rb _⟩⟩
 . obtain⟨pl,h2,h3⟩:=x.obj i o ho;obtain⟨pl',bz,bL⟩:=q2.obj i o (hs.get i o (x.hD i pl h2) ho);rw[q3.ext _ _ h2]at bz;cases bz;exact⟨pl,h2,h3.back q3.ext bL⟩
def ay.ar{f:FuncId}{az:List DV}{u:Value}(hu:aD.plain u=true)(hf:ay e false f az (.v u)):ay e true f az (.v u):=by
 intro G h args hG ha;have h1:fm e f args h (nR G h (.v u)):=hf G h args hG ha;have h2:=fm.plain hu (h1.mono λv h' ⟨p1,p2,p3⟩=>⟨p3.cT,p1,λi o hi ho=>by rw[p2 i hi];exact ho⟩);exact⟨u,h,h2,Rb _,λ_ _=>rfl,.v u⟩
end Go.aD
namespace Go.Sp
structure wP(g:aj)(c:Nat)(l:Lf):Prop where
 tok:∃t,g.aF[l.tok]? =some t/\t.cls=0/\dI t.cond c=true/\((t.lit≠⟨#[]⟩/\l.text=t.lit)\/(t.lit=⟨#[]⟩/\ay E true 84 [.sl 5 (t.pat.map aY.e),sV l.text] (bV true)))
 size:0<l.text.size/\l.text.size<=4
def im(g:aj)(c:Nat):List Lf->Option (List Bool×ByteArray)
 |[]=>some ([],⟨#[]⟩)
 |l::L=>match im g c L with
  |none=>none
  |some (gs,rest)=>if qQ g c (l.text++rest) l then some (false::gs,l.text++rest)
   else if qQ g c ((l.text++sT)++rest) l&&wO g c rest then some (true::gs,(l.text++sT)++rest)else none
def KK{g:aj}{c:Nat}:∀{L:List Lf} (i:Nat),im g c (L.drop i)=none->im g c L=none
 |L,0,h=>h
 |[],i+1,h=>h
 |l::L,i+1,h=>by
  have:=KK (L:=L) i h;simp only[im,this]
def wQ:Option (List Bool×ByteArray)->DV
 |some (gs,t)=>.bf [.sl 1 (gs.map λb=>[bV b]),sV t,iV 0]
 |none=>.bf [.sl 1 [],sV ⟨#[]⟩,iV 240]
def aem(n:Nat)(gs:List Bool):(HT (n+1) (bV false)++gs.map bV).take n++bV true::(HT (n+1) (bV false)++gs.map bV).drop (n+1)=HT n (bV false)++(true::gs).map bV:=by
 rw[List.take_append_of_le_length aw,List.drop_append_of_le_length aw];simp
def aen(n:Nat)(gs:List Bool):HT (n+1) (bV false)++gs.map bV=HT n (bV false)++(false::gs).map bV:=by
 rw[List.replicate_succ'];simp
def u51:E.under 51=some (.slice 4):=an
def s4:E.size 4=some 1:=an
def b4:E.bytes 4=some 1:=an
def aeo(n:Nat):(dY [Value.bool false] (n*1)).map DV.v=HT n (bV false):=by
 simp only[dY,List.map_map,Nat.mul_one];apply afy;intro i;simp only[afe,afz,List.getElem?_replicate];rcases Nat.lt_or_ge i n with h|h
 . simp[h,Nat.mod_one]
 . simp[Nat.not_lt.2 h]
set_option maxHeartbeats 8000000 in
def aep(g:aj)(hg:GV g)(ht:sL g)(ao:ay E true 27 [.agg g.e] (iV 0))(c:Nat)(hc:c<8)(bd:fE g c=true)(bN:g.conds.length<=3)(L:List Lf)(hL:∀l∈L,wP g c l)(b7:L.length<=12):
 ay E true 30 [.agg g.e,cV c,.sl 4 (L.map Lf.e)] (wQ (im g c L)):=by
 have bg:ay E true 28 [.agg g.e,cV c] (bV (fE g c)):=wJ g hg bN c hc;rw[bd]at bg;have bk:=adv g ht c hc;obtain⟨bm,aH⟩:∃bm,wQ (im g c L)=bm:=⟨_,rfl⟩;rw[aH];obtain⟨RD,bb⟩:∃RD,DV.ptr (ic g c) 0=RD:=⟨_,rfl⟩;rw[bb]at bk;have aO:∀(s:ByteArray) (l:Lf),s.size<=1000000->0<l.text.size->ay E true 86 [RD,cV c,sV s,.agg l.e] (bV (qQ g c s l)):=λs l h1 h2=>by rw[<-bb];exact aea g hg ht c hc s aa l h2
 have bn:∀(s:ByteArray),s.size<=1000000->ay E true 87 [RD,sV s] (bV (wO g c s)):=λs h1=>by rw[<-bb];exact aeb g ht c s aa
 have bO:cD RD=true/\cG RD=[RD]:=by rw[<-bb];exact⟨rfl,rfl⟩
 refine aV Tryz.ntmps30 Tryz.results30 λN=> ?_;obtain⟨ge,bo⟩:∃ge,g.e=ge:=⟨_,rfl⟩;have af:ge=[strs g.conds,.sl 3 (g.family.nodes.map cB),iV g.family.root,.sl 7 (g.aF.map Tok.e),strs g.aI,.sl 13 (g.aq.map aK.e),iV g.start,.sl 4 (g.bj.map cP.e),.sl 9 (g.bx.map bl.e)]:=by rw[<-bo];rfl
 rw[bo]at ao bg bk;rw[bo];simp(disch:=omega)[go_sem,af];rw[<-af];refine au.mk ao λM=>aR λhM=> ?_;simp(disch:=omega)[go_sem,af];rw[<-af];refine au.mk bg.any λM2=>cY λb8=> ?_;obtain⟨I,hI⟩:∃I:Nat->DS->Prop,∀j d,I j d↔∃(k sz P:Nat),j+k=L.length/\sz<=12+4*k/\N<P/\d=⟨bw [(1,cV c),(2,.sl 4 (L.map Lf.e)),(3,aX N),(10,iV (sz:Nat)),(34,.sl 4 (L.map Lf.e)),(35,iV (L.length:Nat)),(36,iV (k:Nat))],154,[],cA P [(N,.row ge true 0)]⟩:=⟨_,λ_ _=>Ey⟩;refine bM I L.length ⟨_,aB.mk (N:=M2) ai ai ?_,(hI _ _).2 ⟨0,L.length,M2,rfl,aa,aa,rfl⟩⟩ ?_
 . simp(disch:=omega)[go_sem,af]
 . intro j ds aP;obtain⟨k,sz,P,hj,b9,hP,rfl⟩:=(hI _ _).1 aP;clear aP;by_cases bq:k<L.length
   . have ah:(k:Int)<L.length:=aa;obtain⟨l,hl⟩:∃l,L[k]? =some l:=⟨_,Fj bq⟩;obtain⟨⟨t,t1,t2,t3,t4⟩,s1,s2⟩:=hL l (oY hl);have ca:=(Q0.1 t1).1;have bs:¬(g.aF.length:Int)<=l.tok:=aa;have bt:¬(l.tok:Int)<0:=aa;obtain⟨ct,bR,bu⟩:=ht.cond t (oY t1);have hh:=qN ct c bu hc;rw[<-bR,t3]at hh;simp only[Dg.e]at hh;simp(disch:=omega)[go_sem,ah,hl,-getElem?_pos,Lf.e,af,bs,bt,t1,Tok.e,t2];rcases t4 with⟨t5,t6⟩|⟨t5,t6⟩
     . rw[t6]at s1 s2;simp(disch:=omega)[go_sem,t5,t6];refine au.mk hh.any λP2=>aR λbB=> ?_;simp(disch:=omega)[go_sem,jd,aG];refine⟨j-1,aa,_,aB.mk (N:=P2) ai ai ?_,(hI _ _).2 ⟨k+1,sz+t.lit.size,P2,aa,aa,aa,rfl⟩⟩
       . simp(disch:=omega)[go_sem,af]
     . simp(disch:=omega)[go_sem,t5];refine au.mk t6.any λP1=>aR λcb=> ?_;simp(disch:=omega)[go_sem,t2];refine au.mk hh.any λP2=>aR λbB=> ?_;simp(disch:=omega)[go_sem,jd,aG];refine⟨j-1,aa,_,aB.mk (N:=P2) ai ai ?_,(hI _ _).2 ⟨k+1,sz+l.text.size,P2,aa,aa,aa,rfl⟩⟩
       . simp(disch:=omega)[go_sem,af]
   . have ah:¬(k:Int)<L.length:=aa;simp(disch:=omega)[go_sem,ah,show¬(1048576:Int)<sz from by omega,af];rw[<-af];refine au.mk bk.any λM3=>cY λcc=> ?_;refine zg (n:=L.length) u51 s4 F7 b4 rfl aA aA ai ai aa ?_;have bS:List.map DV.v (dY (Value.bool false).cells.toList (L.length*1))=HT L.length (bV false):=aeo L.length;rw[bS];refine aL ?_;obtain⟨J,hJ⟩:∃J:Nat->DS->Prop,∀j d,J j d↔∃(k:Nat) (gs:List Bool) (rest:ByteArray) (P:Nat),j+k=L.length/\im g c (L.drop (L.length-k))=some (gs,rest)/\gs.length=k/\rest.size<=5*k/\M3<P/\
      d=⟨bw [(1,cV c),(2,.sl 4 (L.map Lf.e)),(15,RD),(16,.v (.slice (some ⟨M3,0,none⟩) L.length L.length)),(17,sV rest),(104,iV (L.length:Nat)),(105,iV (k:Nat))],154,[],cA P [(M3,.row (HT (L.length-k) (bV false)++gs.map bV) true 0)]⟩:=⟨_,λ_ _=>Ey⟩
     refine bM J L.length ⟨_,aB.mk (N:=M3+1) ?_ ?_ ?_,(hJ _ _).2 ⟨0,[],⟨#[]⟩,M3+1,rfl,by rw[afg aa];rfl,rfl,Rb _,aa,rfl⟩⟩ ?_
     . exact ai
     . exact ai
     . exact ai
     . intro j2 cd bD;obtain⟨k2,gs,rest,P2,cg,aS,aT,ch,bB,rfl⟩:=(hJ _ _).1 bD;clear bD;by_cases bT:k2<L.length
       . have av:(k2:Int)<L.length:=aa;obtain⟨i,hi⟩:∃i,L.length-k2=i+1:=⟨L.length-k2-1,aa⟩;obtain⟨l,hl⟩:∃l,L[i]? =some l:=⟨_,Fj aa⟩;obtain⟨_,s1,s2⟩:=hL l (oY hl);have bW:L.drop i=l::L.drop (i+1):=by rw[afu aa,(Q0.1 hl).2]
         have bX:((L.length:Int)-1-k2)=(i:Nat):=aa;have bY:¬l.text=⟨#[]⟩:=λh=>by rw[h]at s1;exact absurd s1 aA
         have ad:=congrArg (im g c) bW;rw[hi]at aS;simp only[im,aS]at ad;rw[hi];have bE:=aO (l.text++rest) l (by rw[aff];omega) s1;have bZ:l.text.size+rest.size<=9223372036854775807:=aa;simp only[Lf.e]at bE;simp(disch:=omega)[go_sem,av,aG,bX,hl,-getElem?_pos,Lf.e,bY,tR (h:=bZ)];refine au.mk bE.any λP3=>aR λcj=> ?_;have bc:i=L.length-(k2+1):=aa;cases bF:qQ g c (l.text++rest) l with
         |true=>
          rw[bF,if_pos rfl]at ad;simp(disch:=omega)[go_sem,aG];refine⟨j2-1,aa,_,aB.mk (N:=P3) ?_ ?_ ?_,(hJ _ _).2 ⟨k2+1,false::gs,l.text++rest,P3,aa,by rw[<-bc];exact ad,by simp[aT],by rw[aff];omega,aa,rfl⟩⟩
          . exact ai
          . exact ai
          . rw[<-bc,<-aen];simp(disch:=omega)[go_sem]
         |false=>
          rw[bF,if_neg aA]at ad;have b0:l.text.size+(⟨#[32]⟩:ByteArray).size<=9223372036854775807:=by show l.text.size+1<=_;omega
          have aJ:(l.text++(⟨#[32]⟩:ByteArray)).size=l.text.size+1:=by rw[aff];rfl
          have b1:(l.text++(⟨#[32]⟩:ByteArray)).size+rest.size<=9223372036854775807:=by rw[aJ];omega
          have bG:=aO ((l.text++(⟨#[32]⟩:ByteArray))++rest) l (by rw[aff,aJ];omega) s1;have b2:=bn rest aa;simp only[Lf.e]at bG;simp(disch:=omega)[go_sem,tR (h:=b0),tR (h:=b1)];refine au.mk bG.any λP4=>aR λck=> ?_;have aE:im g c (L.drop i)=none->bm=.bf [.sl 1 [],sV ⟨#[]⟩,iV 240]:=λh=>by rw[<-aH,KK i h];rfl
          simp only[sT]at ad;cases aW:qQ g c ((l.text++(⟨#[32]⟩:ByteArray))++rest) l with
          |false=>
           simp only[aW,Bool.false_and,afC,if_false]at ad;have hR:=aE ad;subst hR;exact ai
          |true=>
           simp only[aW,Bool.true_and]at ad;refine aL ?_;refine au.mk b2.any λP5=>aR λcl=> ?_;cases bI:wO g c rest with
           |false=>
            simp only[bI,afC,if_false]at ad;have hR:=aE ad;subst hR;exact ai
           |true=>
            simp only[bI,if_true]at ad;have aZ:=aem i gs;have bJ:(HT (i+1) (bV false)++gs.map bV).length=L.length:=by simp[aT];omega
            obtain⟨row,ba⟩:∃row,HT (i+1) (bV false)++gs.map bV=row:=⟨_,rfl⟩;rw[ba]at aZ bJ;simp(disch:=omega)[go_sem,aG,ba,aZ,bJ,show i+1<=L.length from by omega];refine⟨j2-1,aa,_,aB.mk (N:=P5) ?_ ?_ ?_,(hJ _ _).2 ⟨k2+1,true::gs,(l.text++(⟨#[32]⟩:ByteArray))++rest,P5,aa,by rw[<-bc];exact ad,by simp[aT],by rw[aff,aJ];omega,aa,rfl⟩⟩
            . exact ai
            . exact ai
            . rw[<-bc];simp(disch:=omega)[go_sem]
       . have av:¬(k2:Int)<L.length:=aa;simp(disch:=omega)[go_sem,av];obtain rfl:k2=L.length:=aa;rw[Nat.sub_self,afp]at aS;rw[<-aH,aS];have b5:(gs.map λb=>[bV b]).flatten=gs.map bV:=by
          clear aS aT
          induction gs with
          |nil=>rfl
          |cons b l ih=>simp only[afd,afj,ih];rfl
         refine Fz.jP (.cons ?_ (.cons (.refl _) (.cons (.refl _) .nil)));exact dW (ak:=0) (cu (wr:=true) (by rw[b5];simp(disch:=omega)[go_sem])) (.inl rfl) aA (by simp[aT]) (Rb _) (λx hx=>by obtain⟨y,_,rfl⟩:=afk.1 hx;rfl)
def zx:Option (List Bool×ByteArray)->DV
 |some (gs,_)=>.bf [.sl 1 (gs.map λb=>[bV b]),iV 0]
 |none=>.bf [.sl 1 [],iV 240]
def aeq(g:aj)(c:Nat)(L:List Lf)(hs:ay E true 30 [.agg g.e,cV c,.sl 4 (L.map Lf.e)] (wQ (im g c L))):ay E true 10 [.agg g.e,cV c,.sl 4 (L.map Lf.e)] (zx (im g c L)):=by
 refine aV Tryz.ntmps10 Tryz.results10 λN=> ?_;simp only[aj.e]at hs⊢;refine aL ?_;refine au.mk hs λM=>aR λhM=> ?_;cases h:im g c L with
 |none=>simp(disch:=omega)[go_sem,wQ,zx]
 |some r=>
  obtain⟨gs,t⟩:=r;simp(disch:=omega)[go_sem,wQ,zx]
abbrev cE(l:List Bool):DV:=.sl 1 (l.map λb=>[bV b])
def aer(b:Bool):cL E .neq 4 (.tmp 20) (.tmp 24) (.bool b) (.bool b)=some (.bool false):=by cases b<;>kernel_rfl
def wR(l:List Bool)(hl:l.length<=100000):ay E true 25 [cE l,cE l] (bV true):=by
 refine aV Tryz.ntmps25 Tryz.results25 λN=> ?_;refine aL ?_;obtain⟨I,hI⟩:∃I:Nat->DS->Prop,∀j d,I j d↔∃(k P:Nat),j+k=l.length/\d=⟨bw [(0,cE l),(1,cE l),(5,iV (k:Nat))],26,[],cA P []⟩:=⟨_,λ_ _=>Ey⟩;refine bM I l.length ⟨_,aB.mk (N:=N) ai ai ai,(hI _ _).2 ⟨0,N,rfl,rfl⟩⟩ ?_
 . intro j ds aP;obtain⟨k,P,hj,rfl⟩:=(hI _ _).1 aP;clear aP;by_cases bq:k<l.length
   . have ah:(k:Int)<l.length:=aa;obtain⟨b,hb⟩:∃b,l[k]? =some b:=⟨_,Fj bq⟩;simp(disch:=omega)[go_sem,ah];refine bH [ae 0,ae 0,ae 3,aC 7,ae 0,ae 0,ae 48,aC 112,ae 255] an 0 rfl ?_;simp(disch:=omega)[go_sem,hb,-getElem?_pos,aer,aG];exact⟨j-1,aa,_,aB.mk (N:=P) ai ai ai,(hI _ _).2 ⟨k+1,P,aa,rfl⟩⟩
   . have ah:¬(k:Int)<l.length:=aa;simp(disch:=omega)[go_sem,ah]
end Go.Sp
end
noncomputable section
open Go Go.aD Go.Proofs
namespace Go.Sp
def aes{g:aj}(h:ay E false 27 [.agg g.e] (iV 0)):ay E true 27 [.agg g.e] (iV 0):=ay.ar rfl h
def aet(g:aj)(hg:GV g)(hf:ay E true 27 [.agg g.e] (iV 0))(hn:g.conds.length<=3)(c:Nat)(hc:c∈fF g):ay E true 77 [.agg g.e,cV c] (iV 0):=by
 obtain⟨h8,hh⟩:=afm.1 hc;have h8:c<8:=by simpa using h8
 have af:=wJ g hg hn c h8;rw[hh]at af;refine aV Tryz.ntmps77 Tryz.results77 λN=> ?_;simp only[aj.e]at hf af;simp(disch:=omega)[go_sem,aj.e];refine au.mk hf λM=>cY λhM=> ?_;refine au.mk af λM2 aZ=> ?_;exact ai
def aeu(b o L cp:Nat)(x y:Operand):cL E .eql 100 x y (.slice (some ⟨b,o,none⟩) L cp) (.slice none 0 0)=some (.bool false):=by
 have h:plain (.slice (some ⟨b,o,none⟩) L cp)=false:=rfl;simp[cL,h,DF,s9];rfl
def KL(g:aj)(hk:eZ g)(c:Nat)(hc:c<8)(l:List ByteArray)(hl:l.length<=100000)(h:∀s∈l,s∈jE/\gO g c 10=true):ay E true 83 [strs l,.fn 78 [] [.ptr g.e 0,.ptr [cV c] 0]] (bV false):=by
 have:=aeh l (λ_=>false) 78 [.ptr g.e 0,.ptr [cV c] 0] hl (λs hs=>ael g hk c hc s (h s hs).1 (h s hs).2);have e:(l.any λ_=>false)=false:=aw;rw[e]at this;exact this
structure KM(g:aj)(c:Nat)(n:Nd):Prop where
 inner:0<=n.p->∃P,g.aq[n.p.toNat]? =some P/\dI P.cond c=true
 leaf:n.p<0->∃t,0<=n.t/\g.aF[n.t.toNat]? =some t/\dI t.cond c=true/\ay E true 82 [.agg t.e,sV n.text] (bV true)
 rem:∀s∈n.rem,s∈jE/\gO g c 10=true
 len:n.rem.length<=100000
set_option maxHeartbeats 8000000 in
def aev(g:aj)(hg:GV g)(hk:eZ g)(hf:ay E true 27 [.agg g.e] (iV 0))(hn:g.conds.length<=3)(c:Nat)(hc:c∈fF g)(left:Int)(bI:0<=left)(bJ:left<g.aI.length)(ns:List Nd)(tl:List ByteArray)(n0:Nd)(aH:ns[0]? =some n0)(P0:aK)(dO:0<=n0.p)(bg:g.aq[n0.p.toNat]? =some P0)(ao:P0.left=left)
 (hlen:ns.length<=1000000) (bm:∀n∈ns,zw g n) (s0:Sym) (hs:jF g [s0] (ns.map Nd.pt)) (bn:∀n∈ns,KM g c n) (bo:∀s∈tl,s∈jE/\gO g c 10=true) (aJ:tl.length<=100000):ay E true 29 [.agg g.e,cV c,iV left,gq ns tl] (iV 0):=by
 have av:=aet g hg hf hn c hc;have h8:c<8:=by have:=(afm.1 hc).1;simpa using this
 have aM:=aed g ns tl n0 aH dO hlen bm s0 hs;have az:=KL g hk c h8 tl aJ bo;have bq:0<ns.length:=(Q0.1 aH).1;have bs:((sO g (ns.map Nd.pt)).map λn=>[iV (n:Nat)])≠[]:=λh=>by
  have h1:=congrArg List.length h;rw[Rm]at h1;simp only[sO,Rm,afD,afx]at h1;omega
 obtain⟨ge,aO⟩:∃ge,g.e=ge:=⟨_,rfl⟩;have ab:ge=[strs g.conds,.sl 3 (g.family.nodes.map cB),iV g.family.root,.sl 7 (g.aF.map Tok.e),strs g.aI,.sl 13 (g.aq.map aK.e),iV g.start,.sl 4 (g.bj.map cP.e),.sl 9 (g.bx.map bl.e)]:=by rw[<-aO];rfl
 have bL:ge.length=9:=by rw[ab];rfl
 have bB:ge.take 9=ge:=YN aa;rw[aO]at av aM az⊢;have aA:¬left<0:=aa;have aP:¬(g.aI.length:Int)<=left:=aa;have aE:¬(2000000:Int)<ns.length:=aa;refine aV Tryz.ntmps29 Tryz.results29 λN=> ?_;unfold gq at aM⊢;simp(disch:=omega)[go_sem,ab];rw[<-ab];refine au.mk av λM hM=> ?_;simp(disch:=omega)[go_sem,ab]at hM;simp(disch:=omega)[go_sem,ab,aA,aP,aE];refine bH [aC 0,aC 0,aT 3,ae 7,ae 15,ae 31,aC 63,ae 31,aC 159,ae 415,ae 927,aC 1951,ae 4095,ae 8191,aC 16383,ae 31,ae 65535,ae 131071] an 0 rfl ?_;simp(disch:=omega)[go_sem,ab];rw[<-ab];refine au.some aM bs λM2 b o cp aZ=> ?_;obtain⟨L,hL⟩:∃L,((sO g (ns.map Nd.pt)).map λn=>[iV (n:Nat)]).length=L:=⟨_,rfl⟩;rw[hL];simp(disch:=omega)[go_sem,ab]at aZ;simp(disch:=omega)[go_sem,aeu,ab,bg,dO,aH,-getElem?_pos,Nd.e,aK.e,ao];rw[<-ab];refine au.pl az (.cons (.refl _) (.cons (wN (.cons (iZ (ak:=0) (cu (wr:=true) ?_)) (.cons (iZ (ak:=0) (cu (wr:=true) ?_)) .nil))) .nil)) λM3 ba=> ?_
 . exact ai
 . exact ai
 replace ba:=cr ba;refine aL ?_;obtain⟨I,hI⟩:∃I:Nat->DS->Prop,∀j d,I j d↔∃(k:Nat) (H:ah),j+k=ns.length/\N+3<=H.next/\H.get N=some (.row ge true 0)/\H.get (N+1)=some (.row [cV c] true 0)/\d=⟨bw [(4,aX N),(5,aX (N+1)),(10,.fn 78 [] [aX N,aX (N+1)]),(57,.sl 4 (ns.map Nd.e)),(58,iV (ns.length:Nat)),(59,iV (k:Nat))],101,[],H⟩:=⟨_,λ_ _=>Ey⟩;refine bM I ns.length ⟨_,aB.bk (l:=[(4,aX N),(5,aX (N+1)),(10,.fn 78 [] [aX N,aX (N+1)]),(57,.sl 4 (ns.map Nd.e)),(58,iV (ns.length:Nat)),(59,iV (0:Nat))]) ?_,(hI _ _).2 ⟨0,_,rfl, ?_, ?_, ?_,rfl⟩⟩ ?_
 . exact ai
 . simp(disch:=omega)[go_sem];omega
 . exact ai
 . exact ai
 intro j ds bb;obtain⟨k,H,hj,hN,f1,f2,rfl⟩:=(hI _ _).1 bb;clear bb;by_cases bt:k<ns.length
 . have ad:(k:Int)<ns.length:=aa;obtain⟨n,aS⟩:∃n,ns[k]? =some n:=⟨_,Fj bt⟩;have af:=bn n (oY aS);have next:∀(H':ah) (T:Tr DV),H.next<=H'.next->(∀q,q<H.next->H'.get q=H.get q)->iQ T [(4,aX N),(5,aX (N+1)),(10,.fn 78 [] [aX N,aX (N+1)]),(57,.sl 4 (ns.map Nd.e)),(58,iV (ns.length:Nat)),(59,iV (k+1:Nat))]->∃j',j'<j/\∃d',aB ⟨T,101,[],H'⟩ d'/\I j' d':=λH' T a1 a2 a3=>
    ⟨j-1,aa,_,aB.bk a3,(hI _ _).2 ⟨k+1,H',aa,aa,by rw[a2 _ aa,f1],by rw[a2 _ aa,f2],rfl⟩⟩
   by_cases hp:0<=n.p
   . obtain⟨P,hP,bu⟩:=af.inner hp;obtain⟨cp,bz,aW⟩:=hk.pc P (oY hP);have hh:=qN cp c bz h8;rw[<-aW,bu]at hh;simp only[Dg.e]at hh;simp(disch:=omega)[go_sem,ad,aS,-getElem?_pos,Nd.e,hp];refine bH [ae 0,aC 1,ae 0,aC 4,ae 15,ae 31,aC 63,aC 0,aT 255,ae 511] an 0 rfl ?_;simp(disch:=omega)[go_sem,f1,f2,ab,hp,hP,-getElem?_pos,aK.e];refine au.mk hh λM4=>aR λbD=> ?_;simp(disch:=omega)[go_sem,aG];refine next _ _ ?_ (λq hq=>ai) ai
     . simp(disch:=omega)[go_sem];omega
   . obtain⟨t,bE,ht,bF,bc⟩:=af.leaf aa;obtain⟨ct,bG,aY⟩:=hk.tc t (oY ht);have hh:=qN ct c bG h8;rw[<-aY,bF]at hh;have bd:=KL g hk c h8 n.rem af.len af.rem;rw[aO]at bd;simp only[Dg.e]at hh;simp only[Tok.e]at bc;simp(disch:=omega)[go_sem,ad,aS,-getElem?_pos,Nd.e,hp,f1,f2,ab,bE,ht,Tok.e];refine au.mk hh λM4=>cY λbD=> ?_;refine au.mk bc λM5=>cY λbN=> ?_;refine au.pl bd (.cons (.refl _) (.cons (wN (.cons (iZ (ak:=0) (cu (wr:=true) ?_)) (.cons (iZ (ak:=0) (cu (wr:=true) ?_)) .nil))) .nil)) λM6 bf=> ?_
     . simp(disch:=omega)[go_sem,f1]
     . simp(disch:=omega)[go_sem,f2]
     replace bf:=cr bf;simp(disch:=omega)[go_sem,aG];refine next _ _ ?_ (λq hq=>ai) ai
     . simp(disch:=omega)[go_sem];omega
 . have ad:¬(k:Int)<ns.length:=aa;simp(disch:=omega)[go_sem,ad]
set_option maxHeartbeats 2000000 in
def aew(g:aj)(hn:kZ g.aI)(h0:g.start=-1)(hl:g.aI.length<=2000):ay E true 143 [.agg g.e] (iV 50):=by
 refine aV Tryz.ntmps143 Tryz.results143 λN=> ?_;simp(disch:=omega)[go_sem,aj.e];refine wm λes clock h' T hs e1 e2 e3 e4=> ?_;simp(disch:=omega)[go_sem]at e1 e2 e3 e4;simp(disch:=omega)[go_sem,e1,e2,e3,e4];obtain⟨I,hI⟩:∃I:Nat->DS->Prop,∀j d,I j d↔∃(k P:Nat) (es:List bG) (clock:Nat),j+k=g.aI.length/\qD es (lO (g.aI.take k))/\N+2<P/\d=⟨bw [(1,.v (.pointer (some ⟨N,0,none⟩))),(3,.fn 243 [] [.v (.pointer (some ⟨N+1+1,0,none⟩))]),(8,strs g.aI),(9,iV g.aI.length),(10,iV k)],30,[],cA P [(N,.row g.e true 0),(N+1,.map es clock),(N+1+1,.row [.v (.map (some (N+1)))] true 0)]⟩:=⟨_,λ_ _=>Ey⟩;refine bM I g.aI.length ⟨_,aB.mk (N:=N+3) ?_ ai ?_,(hI _ _).2 ⟨0,N+3,es,clock,rfl,hs,aa,rfl⟩⟩ ?_
 . simp(disch:=omega)[go_sem,e1]
 . simp(disch:=omega)[go_sem,e2,e3,e4,aj.e]
 . intro j ds af;obtain⟨k,P,es,clock,hj,hs,hP,rfl⟩:=(hI _ _).1 af;clear af;by_cases aJ:k<g.aI.length
   . have ab:(k:Int)<g.aI.length:=aa;obtain⟨s,aA⟩:∃s,g.aI[k]? =some s:=⟨_,Fj aJ⟩;obtain⟨ha,hp⟩:=hn.at aA;simp(disch:=omega)[go_sem,ab,aA,-getElem?_pos];refine wj (b:=N+1+1) (r:=N+1) (wr:=true) (ak:=0) (es:=es) (clock:=clock) ai ai hs ha λaK ad T aC=> ?_;rw[hp]at aC;simp(disch:=omega)[go_sem,aG];refine⟨j-1,aa,_,aB.mk (N:=P) ai ai ?_,(hI _ _).2 ⟨k+1,P,aK,ad,aa,aC,hP,rfl⟩⟩
     . simp(disch:=omega)[go_sem,aj.e]
   . have ab:¬(k:Int)<g.aI.length:=aa;simp(disch:=omega)[go_sem,ab,aj.e,h0]
set_option maxHeartbeats 4000000 in
def aex(g:aj)(hz:wo g)(ae:qE g)(an:uv g)(ao:kZ g.aI)(av:g.start=-1):ay E true 75 [.agg g.e] (iV 50):=by
 have h0:=Ig g hz;have h1:=Ic g ae;have h2:=IA g an;have h3:=aew g ao av hz.aI;simp only[aj.e]at h0 h1 h2 h3;refine aV Tryz.ntmps75 Tryz.results75 λN=> ?_;simp(disch:=omega)[go_sem,aj.e];refine au.mk h0 λM=>cY λhM=> ?_;obtain⟨I,hI⟩:∃I:Nat->DS->Prop,∀j d,I j d↔∃(k P:Nat),j+k=6/\k<=2/\M<P/\d=⟨bw [(1,.v (.pointer (some ⟨N,0,none⟩))),(10,.v (.slice (some ⟨M,0,none⟩) 6 6)),(11,iV 6),(12,iV k)],23,[],cA P [(N,.row g.e true 0),(M,.row [.fn 141 [] [],.fn 142 [] [],.fn 143 [] [],.fn 144 [] [],.fn 145 [] [],.fn 146 [] []] true 0)]⟩:=⟨_,λ_ _=>Ey⟩;refine bM I 6 ⟨_,aB.mk (N:=M+1) ai ai ?_,(hI _ _).2 ⟨0,M+1,rfl,aa,aa,rfl⟩⟩ ?_
 . simp(disch:=omega)[go_sem,aj.e]
 . intro j ds af;obtain⟨k,P,hj,aS,hP,rfl⟩:=(hI _ _).1 af;clear af;rcases(show k=0\/k=1\/k=2 by omega)with rfl|rfl|rfl
   . simp(disch:=omega)[go_sem,aj.e];refine au.mk h1 λP2=>aR λaE=> ?_;simp(disch:=omega)[go_sem,aG];refine⟨j-1,aa,_,aB.mk (N:=P2) ai ai ?_,(hI _ _).2 ⟨1,P2,aa,aa,aa,rfl⟩⟩
     . simp(disch:=omega)[go_sem,aj.e]
   . simp(disch:=omega)[go_sem,aj.e];refine au.mk h2 λP2=>aR λaE=> ?_;simp(disch:=omega)[go_sem,aG];refine⟨j-1,aa,_,aB.mk (N:=P2) ai ai ?_,(hI _ _).2 ⟨2,P2,aa,aa,aa,rfl⟩⟩
     . simp(disch:=omega)[go_sem,aj.e]
   . simp(disch:=omega)[go_sem,aj.e];refine au.mk h3 λP2=>aR λaE=> ?_;exact ai
def aey(g:aj)(hz:wo g)(ae:qE g)(an:uv g)(ao:kZ g.aI)(av:g.start=-1):ay E true 27 [.agg g.e] (iV 50):=by
 have hc:=aex g hz ae an ao av;refine aV Tryz.ntmps27 Tryz.results27 λN=> ?_;simp only[aj.e]at hc;simp(disch:=omega)[go_sem,aj.e];refine fw Tryz.ntmps72 Tryz.results72 ?_;refine aL ?_;refine au.mk hc λM=>aR λhM=> ?_;exact ai
def aez(g:aj)(hn:g.conds.length<=3)(k:Nat)(hk:¬k/2^g.conds.length=0):ay E true 76 [.agg g.e,cV k] (bV false):=by
 have aM:=fdiv_pow k g.conds.length;have aO:¬(g.conds.length:Int)=64:=aa;have hw:IntKind.u64.wrap (g.conds.length:Int)=g.conds.length:=wrap_u64 aa aa;have aw:min g.conds.length 64=g.conds.length:=aa;refine aV Tryz.ntmps76 Tryz.results76 λN=> ?_;have h':decide (((k/2^g.conds.length:Nat):Int)=0)=false:=decide_eq_false aa;simp only[Int.natCast_ediv,Int.natCast_pow,Int.cast_ofNat_Int]at h';simp(disch:=omega)[go_sem,aj.e,aO,hw,aw,aM,h']
def KQ(g:aj)(hg:GV g)(hn:g.conds.length<=3)(k:Nat)(hk:¬k/2^g.conds.length=0):ay E true 28 [.agg g.e,cV k] (bV false):=by
 have hw:=aez g hn k hk;have hc:=CJ g hg;refine aV Tryz.ntmps28 Tryz.results28 λN=> ?_;simp only[aj.e]at hw hc;simp(disch:=omega)[go_sem,aj.e];refine au.mk hc λM=>cY λhM=> ?_;refine au.mk hw λM2=>aR λaH=> ?_;exact ai
def KS(n:Nat)(hn:n<=3):¬1048576/2^n=0:=by
 rcases(show n=0\/n=1\/n=2\/n=3 by omega)with rfl|rfl|rfl|rfl<;>decide
section
variable (g:aj) (ns:List Nd) (tl:List ByteArray)
def aeA(c:Nat)(tm:List DV)(aP:tm.length=2)(az:tm.all cD=true)(e:Int)(he:e≠0)(hf:ay E true 27 [.agg g.e] (iV e)):ay E true 9 [.agg g.e,cV c,.agg tm] (.bf [sV ⟨#[]⟩,iV e]):=by
 obtain⟨a,b,rfl⟩:∃a b,tm=[a,b]:=by
  match tm,aP with
  |[a,b],_=>exact⟨a,b,rfl⟩
 have ha:cD a=true/\cD b=true:=by simpa using az
 refine aV Tryz.ntmps9 Tryz.results9 λN=> ?_;simp only[aj.e]at hf;simp(disch:=omega)[go_sem,aj.e,ha];refine au.mk hf λM hM=> ?_;simp(disch:=omega)[go_sem,he]
def aeB(hg:GV g)(hn:g.conds.length<=3)(hf:ay E true 27 [.agg g.e] (iV 0)):ay E true 9 [.agg g.e,cV 1048576,gq ns tl] (.bf [sV ⟨#[]⟩,iV 1]):=by
 have ah:=KQ g hg hn 1048576 (KS _ hn);refine aV Tryz.ntmps9 Tryz.results9 λN=> ?_;unfold gq;simp only[aj.e]at hf ah;simp(disch:=omega)[go_sem,aj.e];refine au.mk hf λM=>cY λhM=> ?_;refine au.mk ah λM2 aH=> ?_;exact ai
def aeC(c:Nat)(l:DV)(e:Int)(he:e≠0)(hf:ay E true 27 [.agg g.e] (iV e)):ay E true 10 [.agg g.e,cV c,l] (.bf [cm,iV e]):=by
 have hs:ay E true 30 [.agg g.e,cV c,l] (.bf [cm,sV ⟨#[]⟩,iV e]):=by
  refine aV Tryz.ntmps30 Tryz.results30 λN=> ?_;simp only[aj.e]at hf;simp(disch:=omega)[go_sem,aj.e];refine au.mk hf λM hM=> ?_;simp(disch:=omega)[go_sem,he]
 refine aV Tryz.ntmps10 Tryz.results10 λN=> ?_;simp only[aj.e]at hs;simp(disch:=omega)[go_sem,aj.e];refine au.mk hs λM hM=> ?_;exact ai
def aeD(l:DV)(hg:GV g)(hn:g.conds.length<=3)(hf:ay E true 27 [.agg g.e] (iV 0)):ay E true 10 [.agg g.e,cV 1048576,l] (.bf [cm,iV 1]):=by
 have ah:=KQ g hg hn 1048576 (KS _ hn);have hs:ay E true 30 [.agg g.e,cV 1048576,l] (.bf [cm,sV ⟨#[]⟩,iV 1]):=by
  refine aV Tryz.ntmps30 Tryz.results30 λN=> ?_;simp only[aj.e]at hf ah;simp(disch:=omega)[go_sem,aj.e];refine au.mk hf λM=>cY λhM=> ?_;refine au.mk ah λM2 aH=> ?_;exact ai
 refine aV Tryz.ntmps10 Tryz.results10 λN=> ?_;simp only[aj.e]at hs;simp(disch:=omega)[go_sem,aj.e];refine au.mk hs λM hM=> ?_;exact ai
end
end Go.Sp
end
noncomputable section
open Go Go.aD Go.Proofs
namespace Go.Sp
def uP.first{g:aj}{c:Nat}{i:Int}{ns:List Nd}{tl:List ByteArray}(h:uP g c i ns tl):∃n0 P0,ns[0]? =some n0/\0<=n0.p/\g.aq[n0.p.toNat]? =some P0/\P0.left=i/\0<ns.length:=by
 cases h.uQ with
 |node h1 h2 h3 h4=>exact⟨_,_,rfl,afB _,h1,h2,aw⟩
def fT.nin{g:aj}(hk:eZ g){c:Nat}{a:List Sym}{x:List Nd}(h:fT g c a x)(ha:∀s∈a,0<=s.idx/\(s.tok=true->s.idx.toNat<9)):∀n∈x,KM g c n:=by
 induction h with
 |nil=>intro n hn;cases hn
 | @leaf i m r ns h1 _ ih=>
  intro n hn;rcases yx.1 hn with rfl|hn
  . obtain⟨t,ht,ba,bb,bc⟩:=h1.tok;obtain⟨a0,a1⟩:=ha _ afh;refine⟨λh=>by have:=h1.p;omega,λ_=>⟨t,by rw[h1.t];exact a0,by rw[h1.t];exact ht,ba,KJ t n.text ?_⟩,h1.rem,by have:=h1.len;omega⟩;by_cases h0:t.lit=⟨#[]⟩
    . have hw:=hk.word ht (a1 rfl) h0;exact .inr ⟨h0,by rw[hw.1];exact aei _ (bc h0)⟩
    . exact .inl ⟨h0,(bb h0).symm⟩
  . exact ih (λs hm=>ha s (UR _ hm)) n hn
 | @node i r ns p P h1 h2 h3 _ ih=>
  intro n hn;rcases yx.1 hn with rfl|hn
  . have hp:dI P.cond c=true:=by
     unfold dr at h3;simp only[afl]at h3;exact h3.2
    exact⟨λ_=>⟨P,h1,hp⟩,λh=>by have h:((p:Nat):Int)<0:=h;omega,λs hs=>(by cases hs),aw⟩
  . refine ih (λs hm=> ?_) n hn;rcases afi.1 hm with h|h
    . have:=hk.rs P (oY h1) s h;exact⟨this.1,this.2.1⟩
    . exact ha s (UR _ h)
def fT.KT{g:aj}{c:Nat}{a:List Sym}{x:List Nd}(h:fT g c a x):∀n∈x,n.rem.length<=11:=by
 induction h with
 |nil=>intro n hn;cases hn
 |leaf h1 _ ih=>
  intro n hn;rcases yx.1 hn with rfl|hn
  . exact h1.len
  . exact ih n hn
 |node h1 h2 h3 _ ih=>
  intro n hn;rcases yx.1 hn with rfl|hn
  . simp
  . exact ih n hn
def aeE(g:aj)(hg:GV g)(hk:eZ g)(hf:ay E true 27 [.agg g.e] (iV 0))(hn:g.conds.length<=3)(c:Nat)(hc:c∈fF g)(i:Int)(hi:0<=i/\i<g.aI.length)(ns:List Nd)(tl:List ByteArray)(h:uP g c i ns tl)(hlen:ns.length<=1000000):ay E true 29 [.agg g.e,cV c,iV i,gq ns tl] (iV 0):=by
 obtain⟨n0,P0,h0,h1,h2,h3,h4⟩:=h.first;have aM:∀P∈g.aq,∀s∈P.right,0<=s.idx:=λP hP s hs=>(hk.rs P hP s hs).1;have aO:∀s∈[(⟨false,i⟩:Sym)],0<=s.idx:=λs hs=>by rw[Yt.1 hs];exact hi.1
 exact aev g hg hk hf hn c hc i hi.1 hi.2 ns tl n0 h0 P0 h1 h2 h3 hlen (h.uQ.ok aM aO) ⟨false,i⟩ (h.uQ.shp (λ_ _ _=>.inr trivial) (λP hP s hs _=>aM P hP s hs) (λs hs _=>aO s hs)) (h.uQ.nin hk λs hs=>by rw[Yt.1 hs];exact⟨hi.1,λh=>(by cases h)⟩) h.tail (by have:=h.DK;omega)
def lp(ns:List Nd):Nat:=(ns.flatMap Nd.rem).length
set_option maxHeartbeats 8000000 in
def aeF(g:aj)(hg:GV g)(hk:eZ g)(hf:ay E true 27 [.agg g.e] (iV 0))(hn:g.conds.length<=3)(c:Nat)(hc:c∈fF g)(i:Int)(hi:0<=i/\i<g.aI.length)(ns:List Nd)(tl:List ByteArray)(h:uP g c i ns tl)(hlen:ns.length<=60)(hr:0<(ns.flatMap Nd.rem++tl).length):ay E true 9 [.agg g.e,cV c,gq ns tl] (.bf [sV ⟨#[]⟩,iV 240]):=by
 obtain⟨n0,P0,h0,h1,h2,h3,h4⟩:=h.first;obtain⟨h8,hh⟩:=afm.1 hc;have h8:c<8:=by simpa using h8
 have ad:=wJ g hg hn c h8;rw[hh]at ad;have aE:=aeE g hg hk hf hn c hc i hi ns tl h aa;have bd:=h.uQ.KT;have aP:=h.DK;have bg:¬ns.length=0:=aa;have bm:¬n0.p<0:=aa;have bn:¬(g.aq.length:Int)<=n0.p:=by
  have:=(Q0.1 h2).1;omega
 obtain⟨ge,aS⟩:∃ge,g.e=ge:=⟨_,rfl⟩;have af:ge=[strs g.conds,.sl 3 (g.family.nodes.map cB),iV g.family.root,.sl 7 (g.aF.map Tok.e),strs g.aI,.sl 13 (g.aq.map aK.e),iV g.start,.sl 4 (g.bj.map cP.e),.sl 9 (g.bx.map bl.e)]:=by rw[<-aS];rfl
 have aH:ge.length=9:=by rw[af];rfl
 have bB:ge.take 9=ge:=YN aa;have bo:(∀d∈ge,cD d=true)=True:=eq_true (by rw[af];intro d hd;simp at hd;rcases hd with rfl|rfl|rfl|rfl|rfl|rfl|rfl|rfl|rfl<;>rfl);rw[aS]at hf ad aE⊢;refine aV Tryz.ntmps9 Tryz.results9 λN=> ?_;unfold gq at aE⊢;simp(disch:=omega)[go_sem,aH,bB,bo];refine au.mk hf λM=>aR λhM=> ?_;simp(disch:=omega)[go_sem,aH,bB];refine au.mk ad λM2=>cY λbq=> ?_;refine bH [ae 0,aC 1,aC 3,ae 7,ae 15,ae 31,aC 63,ae 127,ae 255,aC 511,ae 1023,ae 2047,ae 4095,ae 8191,aC 16383,ae 32767,ae 65535,aC 131071,ae 8191,aC 270335,aC 794623,ae 2097151,ae 4194303] an 0 rfl ?_;have aW:ge[5]? =some (.sl 13 (g.aq.map aK.e)):=by rw[af];rfl
 simp(disch:=omega)[go_sem,h0,-getElem?_pos,Nd.e,bg,bm,bn,aW];refine bH [aC 0,ae 0,ae 0,aC 4,ae 0,aC 16,ae 48,ae 112,aC 240,ae 508,ae 1020,aC 2044,aC 0,aT 8191,ae 16383] an 0 rfl ?_;simp(disch:=omega)[go_sem,h0,h2,-getElem?_pos,Nd.e,aW,h1,aK.e,h3,aH,bB];refine au.mk aE λM3=>cY λbz=> ?_
 let F:Nat->List Nd:=λk=>(ns.take k).filter λn=>decide (n.p<0)
 have hF:∀k n,ns[k]? =some n->F (k+1)=if n.p<0 then F k++[n]else F k:=λk n h=>by
  simp only[F,afE,h,Option.toList_some,List.filter_append];by_cases hp:n.p<0<;>simp[hp]
 have bs:∀k,(F k).length<=k:=λk=>by
  simp only[F];exact Nat.le_trans (List.length_filter_le _ _) (by rw[List.length_take];omega)
 obtain⟨I,hI⟩:∃I:Nat->DS->Prop,∀j d,I j d↔∃(k:Nat) (H:ah) (pv:DV),j+k=ns.length/\N+2<=H.next/\lp (ns.take k)<=11*k/\cz H (N+2) H.next 4 ((F k).map Nd.e) pv/\d=⟨bw [(1,cV c),(3,aX N),(10,iV ((tl.length+lp (ns.take k):Nat):Int)),(11,pv),(70,.sl 4 (ns.map Nd.e)),(71,iV (ns.length:Nat)),(72,iV (k:Nat))],101,[],H⟩:=⟨_,λ_ _=>Ey⟩;refine bM I ns.length ⟨_,aB.bk (l:=[(1,cV c),(3,aX N),(10,iV ((tl.length+lp (ns.take 0):Nat):Int)),(11,cm),(70,.sl 4 (ns.map Nd.e)),(71,iV (ns.length:Nat)),(72,iV (0:Nat))]) ?_,(hI _ _).2 ⟨0,_,cm,rfl, ?_,by simp[lp],.nil _ _ _ _,rfl⟩⟩ ?_
 . simp(disch:=omega)[go_sem,lp]
 . simp(disch:=omega)[go_sem];omega
 intro j ds aY;obtain⟨k,H,pv,hj,hN,bD,hgr,rfl⟩:=(hI _ _).1 aY;clear aY;by_cases bt:k<ns.length
 . have ab:(k:Int)<ns.length:=aa;obtain⟨n,ao⟩:∃n,ns[k]? =some n:=⟨_,Fj bt⟩;have bE:=bd n (oY ao);have aJ:lp (ns.take (k+1))=lp (ns.take k)+n.rem.length:=by
    unfold lp;rw[afE,ao];simp
   have az:=hF k n ao;have bF:=bs k;have av:((tl.length:Int)+(lp (ns.take k):Int))+(n.rem.length:Int)=((tl.length+lp (ns.take (k+1)):Nat):Int):=by rw[aJ];omega
   by_cases hp:n.p<0
   . rw[if_pos hp]at az;simp(disch:=omega)[go_sem,ab,ao,-getElem?_pos,Nd.e,hp,aG];refine cz.app (st:=42) (xt:=42) (B:=N+2) (U:=H.next) (k:=4) (xs:=(F k).map Nd.e) (hgr.same (λq q1 q2=>ai) (Rb _)) rZ rY aa (by simp(disch:=omega)[go_sem];omega) (new:=n.e) (by simp(disch:=omega)[go_sem,Nd.e]) aA rfl rfl (sS _) (by rw[Rm];omega) λH3 aZ T3 _ z1 z2 z3 z4=> ?_;replace z2:=cr z2;simp(disch:=omega)[go_sem,aG];refine⟨j-1,aa,_,aB.bk (l:=[(1,cV c),(3,aX N),(10,iV ((tl.length+lp (ns.take (k+1)):Nat):Int)),(11,aZ),(70,.sl 4 (ns.map Nd.e)),(71,iV (ns.length:Nat)),(72,iV (k+1:Nat))]) ?_,(hI _ _).2 ⟨k+1,H3,aZ,aa,aa,aa,by rw[az,List.map_append];exact z1,rfl⟩⟩;rw[<-av];exact ai
   . rw[if_neg hp]at az;simp(disch:=omega)[go_sem,ab,ao,-getElem?_pos,Nd.e,hp,aG];refine⟨j-1,aa,_,aB.bk (l:=[(1,cV c),(3,aX N),(10,iV ((tl.length+lp (ns.take (k+1)):Nat):Int)),(11,pv),(70,.sl 4 (ns.map Nd.e)),(71,iV (ns.length:Nat)),(72,iV (k+1:Nat))]) ?_,(hI _ _).2 ⟨k+1,_,pv,aa, ?_,aa, ?_,rfl⟩⟩
     . rw[<-av];exact ai
     . simp(disch:=omega)[go_sem];omega
     . rw[az];exact hgr.same (λq q1 q2=>ai) ai
 . have ab:¬(k:Int)<ns.length:=aa;rw[YN aa];have aL:(0:Int)<(tl.length:Int)+(lp ns:Int):=by
    rw[afq]at hr;unfold lp;omega
   simp(disch:=omega)[go_sem,ab,aL]
def aeG(g:aj)(hg:GV g)(hf:ay E true 27 [.agg g.e] (iV 0))(hn:g.conds.length<=3)(c:Nat)(hc:c∈fF g)(x0:List DV)(xs:List (List DV))(p:Int)(a b d:DV)(bu:x0=[iV p,a,b,d])(hp:p<0)(tl:DV)(aP:cD tl=true):ay E true 9 [.agg g.e,cV c,.agg [.sl 4 (x0::xs),tl]] (.bf [sV ⟨#[]⟩,iV 91]):=by
 obtain⟨h8,hh⟩:=afm.1 hc;have h8:c<8:=by simpa using h8
 have ad:=wJ g hg hn c h8;rw[hh]at ad;subst bu;refine aV Tryz.ntmps9 Tryz.results9 λN=> ?_;simp only[aj.e]at hf ad;simp(disch:=omega)[go_sem,aj.e,aP];refine au.mk hf λM=>cY λhM=> ?_;refine au.mk ad λM2=>cY λbq=> ?_;refine bH [ae 0,aC 1,aC 3,ae 7,ae 15,ae 31,aC 63,ae 127,ae 255,aC 511,ae 1023,ae 2047,ae 4095,ae 8191,aC 16383,ae 32767,ae 65535,aC 131071,ae 8191,aC 270335,aC 794623,ae 2097151,ae 4194303] an 0 rfl ?_;have hl:¬(xs.length:Int)+1=0:=aa;simp(disch:=omega)[go_sem,hp,hl]
def KU:Tok:=⟨⟨#[98,108,97,110,107]⟩,1,⟨#[32]⟩,[],⟨#[]⟩,bg true⟩
def dJ(bare:Bool):aj:=⟨[],bg true,[kE,nT ⟨#[43]⟩,nT ⟨#[43,43]⟩,nT ⟨#[105,102]⟩]++(if bare then []else [KU]),[⟨#[83]⟩],[],0,[],[]⟩
def KW:∀b∈[false,true],ay E true 23 [bV b] (.agg (dJ b).e):=bW an
def aeH(b:Bool):∀t∈(dJ b).aF,lj t:=by
 have hb:lj KU:=⟨⟨aA,aA⟩,.inl ⟨aA,rfl,rfl⟩⟩;have ab:=ac5 (bg true) kE (by simp[Dv,aF]);intro t ht;simp only[dJ,afi,yx,afc,or_false]at ht;rcases ht with(rfl|rfl|rfl|rfl)|ht
 . exact ab
 . exact uL _ aA
 . exact uL _ aA
 . exact uL _ aA
 . split at ht
   . cases ht
   . obtain rfl:=Yt.1 ht;exact hb
def KX(b:Bool):∀t∈(dJ b).aF,t.cond=bg true:=by
 intro t ht;simp only[dJ,afi,yx,afc,or_false]at ht;rcases ht with(rfl|rfl|rfl|rfl)|ht
 . rfl
 . rfl
 . rfl
 . rfl
 . split at ht
   . cases ht
   . obtain rfl:=Yt.1 ht;rfl
def DN(b:Bool):GV (dJ b):=by
 have aa:=Dl 0 aA;obtain⟨c0,c1,c2⟩:=aa;have hn:kZ ((dJ b).aF.map (·.name)):=by
  have h:([false,true].all λb=>decide (((dJ b).aF.map (·.name)).Nodup)&&((dJ b).aF.map (·.name)).all λs=> !decide (s=⟨#[]⟩))=true:=an;have h2:=adr.1 h b (by cases b<;>simp);rw[afl,decide_eq_true_eq]at h2;exact⟨h2.1,λs hs=>by simpa using adr.1 h2.2 s hs⟩
 refine⟨⟨by cases b<;>decide,by cases b<;>decide,by cases b<;>decide,by cases b<;>decide,by cases b<;>decide,by cases b<;>decide,λp hp=>by cases hp⟩,⟨⟨afs,λs hs=>by cases hs⟩,λs hs=>(by cases hs),by cases b<;>decide,c0,c1,c2,by show(bg true).root≠0;decide⟩,⟨hn,by cases b<;>decide,λt ht=> ?_⟩,
  ⟨⟨by show [(⟨#[83]⟩:ByteArray)].Nodup;simp,λs hs=>by obtain rfl:=Yt.1 hs;decide⟩,Int.le_refl 0,by show(0:Int)<1;decide⟩,⟨⟨afs,λs hs=>(by cases hs)⟩,by cases b<;>decide,λp hp=>(by cases hp)⟩,⟨afs,by cases b<;>decide,λl hl=>(by cases hl),λl hl=>(by cases hl)⟩,⟨by cases b<;>decide,λf hf=>by cases hf⟩⟩
 have q:=aeH b t ht;exact⟨q.cls.1,q.cls.2,⟨c0,(KX b t ht).trans c1,c2⟩,q.k⟩
def KY(b:Bool):ay E true 27 [.agg (dJ b).e] (iV 0):=
 ay.ar (by rfl) (Jh (dJ b) (DN b) (λ_=>True) (λ_ p hp=>by cases hp) λ_ p hp=>by cases hp)
def aeI(b:Bool):sL (dJ b):=by
 refine⟨λt ht h=>⟨gK,gY 0 gK rfl, ?_⟩,by cases b<;>decide,λt ht=>⟨255,(KX b t ht).trans wi.1.symm,aA⟩⟩;simp only[dJ,afi,yx,afc,or_false]at ht;rcases ht with(rfl|rfl|rfl|rfl)|ht
 . rfl
 . exact absurd h aA
 . exact absurd h aA
 . exact absurd h aA
 . split at ht
   . cases ht
   . obtain rfl:=Yt.1 ht;exact absurd h aA
def lX:Lf:=⟨0,⟨#[120]⟩⟩
def lP:Lf:=⟨1,⟨#[43]⟩⟩
def zy:Lf:=⟨2,⟨#[43,43]⟩⟩
def zz:Lf:=⟨0,⟨#[105,102]⟩⟩
def aeJ(b:Bool):wP (dJ b) 0 lX/\wP (dJ b) 0 lP/\wP (dJ b) 0 zy/\wP (dJ b) 0 zz:=by
 have hi:dI (bg true) 0=true:=an;have m1:=J2 _ (oY (l:=uM) (i:=0) rfl);have m2:=J2 _ (oY (l:=uM) (i:=1) rfl);refine⟨⟨⟨kE,rfl,rfl,hi,.inr ⟨rfl,m1⟩⟩,aA⟩,⟨⟨nT ⟨#[43]⟩,rfl,rfl,hi,.inl ⟨aA,rfl⟩⟩,aA⟩,⟨⟨nT ⟨#[43,43]⟩,rfl,rfl,hi,.inl ⟨aA,rfl⟩⟩,aA⟩,⟨⟨kE,rfl,rfl,hi,.inr ⟨rfl,m2⟩⟩,aA⟩⟩
def uU:List (List Lf×List Bool):=[([lX,lP,lX],[false,false,false]),([lX,lX],[true,false]),([lP,lP,lX],[true,false,false]),([zy,lX],[false,false]),([zz],[false])]
def aeK:∀q∈uU,∃t,im (dJ false) 0 q.1=some (q.2,t):=by
 have h:(uU.all λq=>match im (dJ false) 0 q.1 with|some (l,_)=>decide (l=q.2)|none=>false)=true:=an;intro q hq;have h2:=adr.1 h q hq;cases hs:im (dJ false) 0 q.1 with
 |none=>rw[hs]at h2;cases h2
 |some r=>
  obtain⟨l,t⟩:=r;rw[hs]at h2;exact⟨t,by rw[of_decide_eq_true h2]⟩
def aeL:im (dJ true) 0 [lX,lX]=none:=by
 have h:(match im (dJ true) 0 [lX,lX]with|some _=>false|none=>true)=true:=an;cases hs:im (dJ true) 0 [lX,lX]with
 |none=>rfl
 |some r=>rw[hs]at h;cases h
def KZ(b:Bool)(L:List Lf)(hL:∀l∈L,l=lX\/l=lP\/l=zy\/l=zz)(hl:L.length<=12):ay E true 10 [.agg (dJ b).e,cV 0,.sl 4 (L.map Lf.e)] (zx (im (dJ b) 0 L)):=by
 obtain⟨a1,a2,a3,a4⟩:=aeJ b;have hh:fE (dJ b) 0=true:=by
  have h:([false,true].all λb=>fE (dJ b) 0)=true:=an;exact adr.1 h b (by cases b<;>simp)
 refine aeq _ _ _ (aep (dJ b) (DN b) (aeI b) (KY b) 0 aA hh (by cases b<;>decide) L (λl hl=> ?_) hl);rcases hL l hl with rfl|rfl|rfl|rfl<;>assumption
def aeM(q:List Lf×List Bool)(hq:q∈uU):ay E true 10 [.agg (dJ false).e,cV 0,.sl 4 (q.1.map Lf.e)] (.bf [cE q.2,iV 0]):=by
 obtain⟨t,ht⟩:=aeK q hq;have:=KZ false q.1 (by
  simp only[uU,yx,afc,or_false]at hq;rcases hq with rfl|rfl|rfl|rfl|rfl<;>simp) (by
  simp only[uU,yx,afc,or_false]at hq;rcases hq with rfl|rfl|rfl|rfl|rfl<;>simp)
 rw[ht]at this;exact this
def wS(k:Nat)(s:ByteArray):ay E true 24 [iV (k:Nat),sV s] (.agg (Lf.e ⟨k,s⟩)):=by
 refine aV Tryz.ntmps24 Tryz.results24 λN=> ?_;simp(disch:=omega)[go_sem,Lf.e]
def uW:Lf:=⟨0,⟨#[43]⟩⟩
def aeN:ay E true 84 [.sl 5 (pd.map aY.e),sV ⟨#[43]⟩] (bV false):=by
 have h:=uK gK (gY 0 gK rfl) ⟨#[43]⟩ aA;have h2:qM gK ⟨#[43]⟩=false:=an;rw[h2]at h;exact h
set_option maxHeartbeats 4000000 in
def aeO:ay E true 30 [.agg (dJ false).e,cV 0,.sl 4 ([uW].map Lf.e)] (.bf [.sl 1 [],sV ⟨#[]⟩,iV 91]):=by
 have ab:=KY false;have hh:fE (dJ false) 0=true:=an;have ae:ay E true 28 [.agg (dJ false).e,cV 0] (bV (fE (dJ false) 0)):=wJ (dJ false) (DN false) aA 0 aA;rw[hh]at ae;obtain⟨g,hg⟩:∃g,dJ false=g:=⟨_,rfl⟩;have t1:g.aF[0]? =some kE:=by rw[<-hg];rfl
 have ao:¬g.aF=[]:=by rw[<-hg];intro h;cases h
 rw[hg]at ab ae⊢;obtain⟨L,hL⟩:∃L,[uW]=L:=⟨_,rfl⟩;have av:L.length=1:=by rw[<-hL];rfl
 have az:L[0]? =some uW:=by rw[<-hL];rfl
 rw[hL];refine aV Tryz.ntmps30 Tryz.results30 λN=> ?_;obtain⟨ge,af⟩:∃ge,g.e=ge:=⟨_,rfl⟩;have ad:ge=[strs g.conds,.sl 3 (g.family.nodes.map cB),iV g.family.root,.sl 7 (g.aF.map Tok.e),strs g.aI,.sl 13 (g.aq.map aK.e),iV g.start,.sl 4 (g.bj.map cP.e),.sl 9 (g.bx.map bl.e)]:=by rw[<-af];rfl
 rw[af]at ab ae;rw[af];simp(disch:=omega)[go_sem,ad];rw[<-ad];refine au.mk ab λM=>aR λhM=> ?_;simp(disch:=omega)[go_sem,ad];rw[<-ad];refine au.mk ae.any λM2=>cY λaC=> ?_;obtain⟨I,hI⟩:∃I:Nat->DS->Prop,∀j d,I j d↔N<M2/\d=⟨bw [(1,cV 0),(2,.sl 4 (L.map Lf.e)),(3,aX N),(10,iV (L.length:Nat)),(34,.sl 4 (L.map Lf.e)),(35,iV (L.length:Nat)),(36,iV 0)],154,[],cA M2 [(N,.row ge true 0)]⟩:=⟨_,λ_ _=>Ey⟩;refine bM I 1 ⟨_,aB.mk (N:=M2) ai ai ?_,(hI _ _).2 ⟨aa,rfl⟩⟩ ?_
 . simp(disch:=omega)[go_sem,ad]
 . intro j ds ah;obtain⟨hN,rfl⟩:=(hI _ _).1 ah;clear ah;have hb:=aeN;simp(disch:=omega)[go_sem,av,az,-getElem?_pos,uW,Lf.e,ad,ao,t1,Tok.e,kE];refine au.mk hb.any λP1=>aR λaE=> ?_;have hd:=qN 255 0 aA aA;rw[wi.1,show dI (bg true) 0=true from by kernel_rfl]at hd;simp only[Dg.e]at hd;refine aL ?_;refine au.mk hd.any λP2=>aR λaG=> ?_;exact ai
def aeP:ay E true 10 [.agg (dJ false).e,cV 0,.sl 4 ([uW].map Lf.e)] (.bf [.sl 1 [],iV 91]):=by
 have hs:=aeO;refine aV Tryz.ntmps10 Tryz.results10 λN=> ?_;simp only[aj.e]at hs⊢;refine aL ?_;refine au.mk hs λM=>aR λhM=> ?_;exact ai
def aeQ:ay E true 10 [.agg (dJ true).e,cV 0,.sl 4 ([lX,lX].map Lf.e)] (.bf [.sl 1 [],iV 240]):=by
 have h:=KZ true [lX,lX] aw aA;rw[aeL]at h;exact h
def wT(i:Nat){q:List Lf×List Bool}(h:uU[i]? =some q):ay E true 10 [.agg (dJ false).e,cV 0,.sl 4 (q.1.map Lf.e)] (.bf [cE q.2,iV 0]):=aeM q (oY h)
def sU(ge:List DV)(l:List (Nat×DV))(d:DS):Prop:=∃M0 M1 M2 H,H.get M0=some (.row ge true 0)/\H.get M1=some (.row [iV (-1),iV 0,sV ⟨#[120]⟩,.sl 1 []] true 0)/\H.get M2=some (.row [iV (-1),iV 1,sV ⟨#[43]⟩,.sl 1 []] true 0)/\M0<H.next/\M1<H.next/\M2<H.next/\d=⟨bw ((1,aX M0)::(2,aX M1)::(3,aX M2)::l),130,[],H⟩
set_option maxHeartbeats 8000000 in
def aeR:ay E true 6 [] (bV true):=by
 have ad:=KW false aw;have af:=KW true aw;have l0:ay E true 24 [iV 0,sV ⟨#[120]⟩] (.agg [iV (-1),iV 0,sV ⟨#[120]⟩,.sl 1 []]):=wS 0 ⟨#[120]⟩;have l1:ay E true 24 [iV 1,sV ⟨#[43]⟩] (.agg [iV (-1),iV 1,sV ⟨#[43]⟩,.sl 1 []]):=wS 1 ⟨#[43]⟩;have l2:ay E true 24 [iV 2,sV ⟨#[43,43]⟩] (.agg [iV (-1),iV 2,sV ⟨#[43,43]⟩,.sl 1 []]):=wS 2 ⟨#[43,43]⟩;have l3:ay E true 24 [iV 0,sV ⟨#[105,102]⟩] (.agg [iV (-1),iV 0,sV ⟨#[105,102]⟩,.sl 1 []]):=wS 0 ⟨#[105,102]⟩;have l4:ay E true 24 [iV 0,sV ⟨#[43]⟩] (.agg [iV (-1),iV 0,sV ⟨#[43]⟩,.sl 1 []]):=wS 0 ⟨#[43]⟩;have g0:=wT 0 rfl;have g1:=wT 1 rfl;have g2:=wT 2 rfl;have g3:=wT 3 rfl;have g4:=wT 4 rfl;have g5:=aeQ;have g6:=aeP;simp only[afd,List.map_nil,Lf.e,lX,lP,zy,zz,uW]at g0 g1 g2 g3 g4 g5 g6;obtain⟨G,hG⟩:∃G,dJ false=G:=⟨_,rfl⟩;obtain⟨G1,ao⟩:∃G,dJ true=G:=⟨_,rfl⟩;rw[hG]at ad g0 g1 g2 g3 g4 g6;rw[ao]at af g5;obtain⟨ge,aj⟩:∃ge,G.e=ge:=⟨_,rfl⟩;have ab:ge=[strs G.conds,.sl 3 (G.family.nodes.map cB),iV G.family.root,.sl 7 (G.aF.map Tok.e),strs G.aI,.sl 13 (G.aq.map aK.e),iV G.start,.sl 4 (G.bj.map cP.e),.sl 9 (G.bx.map bl.e)]:=by rw[<-aj];rfl
 obtain⟨av,ah⟩:∃ge,G1.e=ge:=⟨_,rfl⟩;rw[aj]at ad g0 g1 g2 g3 g4 g6;rw[ah]at af g5;refine Cp Tryz.ntmps6 Tryz.results6 λN=> ?_;refine n9 ?_;refine aL ?_;refine n9 ?_;refine aL ?_;refine au.mk ad λM0=>aR λaz=> ?_;simp(disch:=omega)[go_sem,ab];rw[<-ab];refine n9 ?_;refine aL ?_;refine au.mk l0 λM1=>cY λaC=> ?_;refine n9 ?_;refine aL ?_;refine au.mk l1 λM2=>cY λaE=> ?_;refine nc (sU ge [(4,cE [false,false,false]),(5,iV 0)]) ?_ ?_
 . simp(disch:=omega)[go_sem,ab];rw[<-ab];refine au.fz g0 [M2+1] ?_ ?_ λQ hQ=> ?_
   . exact ai
   . simp(disch:=omega)[go_sem,ab];exact⟨.refl _,dW (fq (wr:=true) (ak:=0) aw (by simp(disch:=omega)[go_sem];try rfl)) (.inl rfl) aA aw aw aw⟩
   replace hQ:=cr hQ;simp(disch:=omega)[go_sem,ab];rw[<-ab];refine⟨_,aB.bk (l:=[(1,aX M0),(2,aX M1),(3,aX M2),(4,cE [false,false,false]),(5,iV 0)]) ai,M0,M1,M2,_, ?_,ai,ai, ?_, ?_, ?_,rfl⟩
   . simp(disch:=omega)[go_sem,ab]
   . simp(disch:=omega)[go_sem];try omega
   . simp(disch:=omega)[go_sem];try omega
   . simp(disch:=omega)[go_sem];try omega
 rintro d ⟨M0,M1,M2,H,m0,m1,m2,h1,h2,h3,rfl⟩;rw[ab]at m0;refine nc (sU ge [(4,cE [false,false,false]),(5,iV 0),(6,cE [true,false]),(7,iV 0)]) ?_ ?_
 . simp(disch:=omega)[go_sem,m0,m1,m2];rw[<-ab];refine au.fz g1 [H.next] ?_ ?_ λQ hQ=> ?_
   . exact ai
   . simp(disch:=omega)[go_sem,ab,m0,m1,m2];exact⟨.refl _,dW (fq (wr:=true) (ak:=0) aw (by simp(disch:=omega)[go_sem];try rfl)) (.inl rfl) aA aw aw aw⟩
   replace hQ:=cr hQ;simp(disch:=omega)[go_sem,ab,m0,m1,m2];rw[<-ab];refine⟨_,aB.bk (l:=[(1,aX M0),(2,aX M1),(3,aX M2),(4,cE [false,false,false]),(5,iV 0),(6,cE [true,false]),(7,iV 0)]) ai,M0,M1,M2,_, ?_, ?_, ?_, ?_, ?_, ?_,rfl⟩
   . simp(disch:=omega)[go_sem,ab,m0,m1,m2]
   . simp(disch:=omega)[go_sem,m0,m1,m2]
   . simp(disch:=omega)[go_sem,m0,m1,m2]
   . simp(disch:=omega)[go_sem];try omega
   . simp(disch:=omega)[go_sem];try omega
   . simp(disch:=omega)[go_sem];try omega
 rintro d ⟨M0,M1,M2,H,m0,m1,m2,h1,h2,h3,rfl⟩;rw[ab]at m0;refine nc (sU ge [(4,cE [false,false,false]),(5,iV 0),(6,cE [true,false]),(7,iV 0),(8,cE [true,false,false]),(9,iV 0)]) ?_ ?_
 . simp(disch:=omega)[go_sem,m0,m1,m2];rw[<-ab];refine au.fz g2 [H.next] ?_ ?_ λQ hQ=> ?_
   . exact ai
   . simp(disch:=omega)[go_sem,ab,m0,m1,m2];exact⟨.refl _,dW (fq (wr:=true) (ak:=0) aw (by simp(disch:=omega)[go_sem];try rfl)) (.inl rfl) aA aw aw aw⟩
   replace hQ:=cr hQ;simp(disch:=omega)[go_sem,ab,m0,m1,m2];rw[<-ab];refine⟨_,aB.bk (l:=[(1,aX M0),(2,aX M1),(3,aX M2),(4,cE [false,false,false]),(5,iV 0),(6,cE [true,false]),(7,iV 0),(8,cE [true,false,false]),(9,iV 0)]) ai,M0,M1,M2,_, ?_, ?_, ?_, ?_, ?_, ?_,rfl⟩
   . simp(disch:=omega)[go_sem,ab,m0,m1,m2]
   . simp(disch:=omega)[go_sem,m0,m1,m2]
   . simp(disch:=omega)[go_sem,m0,m1,m2]
   . simp(disch:=omega)[go_sem];try omega
   . simp(disch:=omega)[go_sem];try omega
   . simp(disch:=omega)[go_sem];try omega
 rintro d ⟨M0,M1,M2,H,m0,m1,m2,h1,h2,h3,rfl⟩;rw[ab]at m0;refine nc (sU ge [(4,cE [false,false,false]),(5,iV 0),(6,cE [true,false]),(7,iV 0),(8,cE [true,false,false]),(9,iV 0),(10,cE [false,false]),(11,iV 0)]) ?_ ?_
 . refine aL ?_;refine bH [dq 0,aT 0,dq 0,cN 6,aT 15,ae 31,ae 63,ae 63,ae 127,ae 511] an 1 rfl ?_;simp(disch:=omega)[go_sem,m0,m1,m2];refine⟨aa,au.mk l2 λR=>aR λhR=> ?_⟩;simp(disch:=omega)[go_sem,ab,m0,m1,m2];rw[<-ab];refine⟨aa, ?_⟩;refine au.fz g3 [H.next] ?_ ?_ λQ hQ=> ?_
   . exact ai
   . simp(disch:=omega)[go_sem,ab,m0,m1,m2];exact⟨.refl _,dW (fq (wr:=true) (ak:=0) aw (by simp(disch:=omega)[go_sem];try rfl)) (.inl rfl) aA aw aw aw⟩
   replace hQ:=cr hQ;simp(disch:=omega)[go_sem,ab,m0,m1,m2];rw[<-ab];refine⟨_,aB.bk (l:=[(1,aX M0),(2,aX M1),(3,aX M2),(4,cE [false,false,false]),(5,iV 0),(6,cE [true,false]),(7,iV 0),(8,cE [true,false,false]),(9,iV 0),(10,cE [false,false]),(11,iV 0)]) ai,M0,M1,M2,_, ?_, ?_, ?_, ?_, ?_, ?_,rfl⟩
   . simp(disch:=omega)[go_sem,ab,m0,m1,m2]
   . simp(disch:=omega)[go_sem,m0,m1,m2]
   . simp(disch:=omega)[go_sem,m0,m1,m2]
   . simp(disch:=omega)[go_sem];try omega
   . simp(disch:=omega)[go_sem];try omega
   . simp(disch:=omega)[go_sem];try omega
 rintro d ⟨M0,M1,M2,H,m0,m1,m2,h1,h2,h3,rfl⟩;rw[ab]at m0;refine nc (sU ge [(4,cE [false,false,false]),(5,iV 0),(6,cE [true,false]),(7,iV 0),(8,cE [true,false,false]),(9,iV 0),(10,cE [false,false]),(11,iV 0),(12,cE [false]),(13,iV 0)]) ?_ ?_
 . refine aL ?_;refine bH [dq 0,aT 0,cN 2,aT 7,ae 15,ae 31,ae 31,ae 63,ae 255] an 1 rfl ?_;simp(disch:=omega)[go_sem,m0,m1,m2];refine⟨aa,au.mk l3 λR=>aR λhR=> ?_⟩;simp(disch:=omega)[go_sem,ab,m0,m1,m2];rw[<-ab];refine au.fz g4 [H.next] ?_ ?_ λQ hQ=> ?_
   . exact ai
   . simp(disch:=omega)[go_sem,ab,m0,m1,m2];exact⟨.refl _,dW (fq (wr:=true) (ak:=0) aw (by simp(disch:=omega)[go_sem];try rfl)) (.inl rfl) aA aw aw aw⟩
   replace hQ:=cr hQ;simp(disch:=omega)[go_sem,ab,m0,m1,m2];rw[<-ab];refine⟨_,aB.bk (l:=[(1,aX M0),(2,aX M1),(3,aX M2),(4,cE [false,false,false]),(5,iV 0),(6,cE [true,false]),(7,iV 0),(8,cE [true,false,false]),(9,iV 0),(10,cE [false,false]),(11,iV 0),(12,cE [false]),(13,iV 0)]) ai,M0,M1,M2,_, ?_, ?_, ?_, ?_, ?_, ?_,rfl⟩
   . simp(disch:=omega)[go_sem,ab,m0,m1,m2]
   . simp(disch:=omega)[go_sem,m0,m1,m2]
   . simp(disch:=omega)[go_sem,m0,m1,m2]
   . simp(disch:=omega)[go_sem];try omega
   . simp(disch:=omega)[go_sem];try omega
   . simp(disch:=omega)[go_sem];try omega
 rintro d ⟨M0,M1,M2,H,m0,m1,m2,h1,h2,h3,rfl⟩;rw[ab]at m0;refine nc (sU ge [(4,cE [false,false,false]),(5,iV 0),(6,cE [true,false]),(7,iV 0),(8,cE [true,false,false]),(9,iV 0),(10,cE [false,false]),(11,iV 0),(12,cE [false]),(13,iV 0),(15,iV 240)]) ?_ ?_
 . refine aL ?_;refine bH [aT 0,dq 0,dq 0,cN 6,aT 15,ae 31,ae 63,ae 63,ae 127,ae 511] an 1 rfl ?_;simp(disch:=omega)[go_sem,m0,m1,m2];refine au.mk af λR=>aR λhR=> ?_;simp(disch:=omega)[go_sem,m0,m1,m2];refine⟨aa, ?_⟩;refine au.fz g5 [H.next] ?_ ?_ λQ hQ=> ?_
   . exact ai
   . simp(disch:=omega)[go_sem,ab,m0,m1,m2];exact⟨.refl _,dW (fq (wr:=true) (ak:=0) aw (by simp(disch:=omega)[go_sem];try rfl)) (.inl rfl) aA aw aw aw⟩
   replace hQ:=cr hQ;simp(disch:=omega)[go_sem,ab,m0,m1,m2];refine⟨_,aB.bk (l:=[(1,aX M0),(2,aX M1),(3,aX M2),(4,cE [false,false,false]),(5,iV 0),(6,cE [true,false]),(7,iV 0),(8,cE [true,false,false]),(9,iV 0),(10,cE [false,false]),(11,iV 0),(12,cE [false]),(13,iV 0),(15,iV 240)]) ai,M0,M1,M2,_, ?_, ?_, ?_, ?_, ?_, ?_,rfl⟩
   . simp(disch:=omega)[go_sem,ab,m0,m1,m2]
   . simp(disch:=omega)[go_sem,m0,m1,m2]
   . simp(disch:=omega)[go_sem,m0,m1,m2]
   . simp(disch:=omega)[go_sem];try omega
   . simp(disch:=omega)[go_sem];try omega
   . simp(disch:=omega)[go_sem];try omega
 rintro d ⟨M0,M1,M2,H,m0,m1,m2,h1,h2,h3,rfl⟩;rw[ab]at m0;refine nc (sU ge [(4,cE [false,false,false]),(5,iV 0),(6,cE [true,false]),(7,iV 0),(8,cE [true,false,false]),(9,iV 0),(10,cE [false,false]),(11,iV 0),(12,cE [false]),(13,iV 0),(15,iV 240),(17,iV 91)]) ?_ ?_
 . refine aL ?_;refine bH [dq 0,aT 0,cN 2,aT 7,ae 15,ae 31,ae 31,ae 63,ae 255] an 1 rfl ?_;simp(disch:=omega)[go_sem,m0,m1,m2];refine⟨aa,au.mk l4 λR=>aR λhR=> ?_⟩;simp(disch:=omega)[go_sem,ab,m0,m1,m2];rw[<-ab];refine au.fz g6 [H.next] ?_ ?_ λQ hQ=> ?_
   . exact ai
   . simp(disch:=omega)[go_sem,ab,m0,m1,m2];exact⟨.refl _,dW (fq (wr:=true) (ak:=0) aw (by simp(disch:=omega)[go_sem];try rfl)) (.inl rfl) aA aw aw aw⟩
   replace hQ:=cr hQ;simp(disch:=omega)[go_sem,ab,m0,m1,m2];rw[<-ab];refine⟨_,aB.bk (l:=[(1,aX M0),(2,aX M1),(3,aX M2),(4,cE [false,false,false]),(5,iV 0),(6,cE [true,false]),(7,iV 0),(8,cE [true,false,false]),(9,iV 0),(10,cE [false,false]),(11,iV 0),(12,cE [false]),(13,iV 0),(15,iV 240),(17,iV 91)]) ai,M0,M1,M2,_, ?_, ?_, ?_, ?_, ?_, ?_,rfl⟩
   . simp(disch:=omega)[go_sem,ab,m0,m1,m2]
   . simp(disch:=omega)[go_sem,m0,m1,m2]
   . simp(disch:=omega)[go_sem,m0,m1,m2]
   . simp(disch:=omega)[go_sem];try omega
   . simp(disch:=omega)[go_sem];try omega
   . simp(disch:=omega)[go_sem];try omega
 rintro d ⟨M0,M1,M2,H,m0,m1,m2,h1,h2,h3,rfl⟩;rw[ab]at m0;refine n9 ?_;refine aL ?_;refine au.pl (wR [false,false,false] aA) ?_ λQ hQ=> ?_
 . simp(disch:=omega)[go_sem,m0,m1,m2];exact dW (cu (wr:=true) (by simp(disch:=omega)[go_sem];try rfl)) (.inl rfl) aA aw aw aw
 replace hQ:=cr hQ;refine aL ?_;refine au.pl (wR [true,false] aA) ?_ λQ hQ=> ?_
 . simp(disch:=omega)[go_sem,m0,m1,m2];exact dW (cu (wr:=true) (by simp(disch:=omega)[go_sem];try rfl)) (.inl rfl) aA aw aw aw
 replace hQ:=cr hQ;refine aL ?_;refine au.pl (wR [true,false,false] aA) ?_ λQ hQ=> ?_
 . simp(disch:=omega)[go_sem,m0,m1,m2];exact dW (cu (wr:=true) (by simp(disch:=omega)[go_sem];try rfl)) (.inl rfl) aA aw aw aw
 replace hQ:=cr hQ;refine aL ?_;refine j6 ?_;refine aL ?_;refine au.pl (wR [false,false] aA) ?_ λQ hQ=> ?_
 . simp(disch:=omega)[go_sem,m0,m1,m2];exact dW (cu (wr:=true) (by simp(disch:=omega)[go_sem];try rfl)) (.inl rfl) aA aw aw aw
 replace hQ:=cr hQ;refine aL ?_;refine au.pl (wR [false] aA) ?_ λQ hQ=> ?_
 . simp(disch:=omega)[go_sem,m0,m1,m2];exact dW (cu (wr:=true) (by simp(disch:=omega)[go_sem];try rfl)) (.inl rfl) aA aw aw aw
 replace hQ:=cr hQ;exact ai
set_option maxHeartbeats 16000000 in
def aeS(r:og)(hr:r.Ok)(at_:Int)(b9:0<=at_/\at_<256):ay E true 3 [.agg r.e,uV at_] (bV true):=by
 have hgr:=adP r hr;have bk:=za r.x hr.x;have bJ:=Kv r.x hr.x;have ab:=Ku r.x hr.x;have aP:=aes (adO r.x hr.x);obtain⟨g,hg⟩:∃g,ig dQ r.x=g:=⟨_,rfl⟩;rw[hg]at hgr bk bJ ab aP;have bm:=bk.room.conds;have ca:g.start=0:=bk.aI.2;have cb:(0:Int)<g.aI.length:=by have:=bk.room.aI.1;omega
 obtain⟨g',aO⟩:∃g':aj,g'={g with start:=-1}:=⟨_,rfl⟩;have bY:wo g':=by rw[aO];exact⟨ab.size.conds,ab.size.aF,ab.size.bx,ab.size.aI,ab.size.aq,ab.size.bj,ab.size.right⟩
 have aS:qE g':=by rw[aO];exact⟨ab.cO.new,ab.cO.id,ab.cO.len,ab.cO.cO⟩
 have bq:uv g':=by rw[aO];exact⟨ab.aF.new,ab.aF.len,ab.aF.ok⟩
 have bL:=aey g' bY aS bq (by rw[aO];exact ab.aI.1) (by rw[aO]);have aW:g'.e=[strs g.conds,.sl 3 (g.family.nodes.map cB),iV g.family.root,.sl 7 (g.aF.map Tok.e),strs g.aI,.sl 13 (g.aq.map aK.e),iV (-1),.sl 4 (g.bj.map cP.e),.sl 9 (g.bx.map bl.e)]:=by rw[aO];rfl
 obtain⟨ge,bt⟩:∃ge,g.e=ge:=⟨_,rfl⟩;have az:ge=[strs g.conds,.sl 3 (g.family.nodes.map cB),iV g.family.root,.sl 7 (g.aF.map Tok.e),strs g.aI,.sl 13 (g.aq.map aK.e),iV g.start,.sl 4 (g.bj.map cP.e),.sl 9 (g.bx.map bl.e)]:=by rw[<-bt];rfl
 obtain⟨gf,bu⟩:∃gf,g'.e=gf:=⟨_,rfl⟩;have av:ge.length=9:=by rw[az];rfl
 have bB:ge.take 9=ge:=YN aa;have aE:(∀d∈ge,cD d=true)=True:=eq_true (by rw[az];intro d hd;simp at hd;rcases hd with rfl|rfl|rfl|rfl|rfl|rfl|rfl|rfl|rfl<;>rfl);have bw:ge.take 6++.v (.int .i64 (-1))::ge.drop 7=gf:=by rw[<-bu,aW,az];rfl
 have bM:gf.length=9:=by rw[<-bu,aW];rfl
 have bN:gf.take 9=gf:=YN aa;have aX:=Gy (ar:=true);refine aV Tryz.ntmps3 Tryz.results3 λN=> ?_;unfold og.e at hgr;simp(disch:=omega)[go_sem,og.e];refine au.mk aeR λM=>cY λhM=> ?_;refine au.gd hgr λdv M2 bn bO=> ?_;replace bO:=cr bO;obtain⟨c,hc,bn⟩:=bn;rw[bt]at bn;rcases bn with rfl|⟨ns,tl,rfl,bo⟩
 . simp(disch:=omega)[go_sem,av,bB,aE]
 . by_cases hlen:ns.length<=60
   . have af:¬(60:Int)<ns.length:=aa;have ad:=adS ns tl aa;obtain⟨bs,bz⟩:∃bs,ns.map Nd.bare=bs:=⟨_,rfl⟩;have bR:bs.length=ns.length:=by rw[<-bz,Rm]
     rw[bz]at ad;have k1:=aeB g bs [] ab bm aP;have k2:=adT bs [] aa;obtain⟨lv,bZ⟩:∃lv,DV.sl 4 ((bs.filter λn=>decide (n.p<0)).map Nd.e)=lv:=⟨_,rfl⟩;rw[bZ]at k2;have k3:=aeD g lv ab bm aP;have k4:=aeA g' c [.sl 4 (bs.map Nd.e),strs []] rfl rfl 50 aA bL;have k5:=aeC g' c cm 50 aA bL;have k6:=adU ns tl hlen (λn hn=>by have:=bo.uQ.KT n hn;omega) (by have:=bo.DK;omega);obtain⟨TX,bS⟩:∃TX,ns.flatMap Nd.rem++tl=TX:=⟨_,rfl⟩;have k7:0<TX.length->ay E true 9 [.agg g.e,cV c,gq ns tl] (.bf [sV ⟨#[]⟩,iV 240]):=λh=>aeF g ab bJ aP bm c hc g.start ⟨aa,aa⟩ ns tl bo hlen (by rw[bS];exact h);obtain⟨n0,P0,t0,t1,t2,t3,t4⟩:=bo.first;have b0:bs[0]? =some n0.bare:=by rw[<-bz,afe,t0];rfl
     obtain⟨b1,bT⟩:∃b1,bs=n0.bare::b1:=by
      match bs,b0 with
      |x::b1,h=>cases h;exact⟨b1,rfl⟩
     have k8:=aeG g ab aP bm c hc [iV (-1-at_),iV n0.t,sV n0.text,.sl 1 []] (b1.map Nd.e) (-1-at_) (iV n0.t) (sV n0.text) (.sl 1 []) rfl aa (strs []) rfl;rw[bS]at k6;rw[bt]at k1 k3 k7 k8;rw[bu]at k4 k5;unfold gq at ad k1 k2 k6 k7⊢;obtain⟨BE,aY⟩:∃BE,bs.map Nd.e=BE:=⟨_,rfl⟩;have ah:BE.length=ns.length:=by rw[<-aY,Rm,bR]
     rw[aY]at ad k1 k2 k4;simp(disch:=omega)[go_sem,av,bB,aE,af];refine au.mk ad λM3=>aR λcc=> ?_;simp(disch:=omega)[go_sem,av,bB,aE];refine au.mk k1 λM4=>aR λcd=> ?_;simp(disch:=omega)[go_sem,av,bB,aE];refine bH [dq 0,aC 0,aT 2,aT 7,ae 15,ae 31,ae 31,ae 63,ae 255] an 0 rfl ?_;simp(disch:=omega)[go_sem,av,bB,aE]
     repeat refine⟨aa, ?_⟩
     refine au.mk k2 λM5=>cY λcg=> ?_
     repeat refine⟨aa, ?_⟩
     refine au.mk k3 λM6=>aR λch=> ?_;simp(disch:=omega)[go_sem,av,bB,aE,bw,bM,bN]
     repeat refine⟨aa, ?_⟩
     refine au.mk k4 λM7=>aR λcj=> ?_;simp(disch:=omega)[go_sem,bM,bN];refine au.mk k5 λM8=>cY λck=> ?_;refine au.mk k6 λM9=>aR λcl=> ?_;have bW:BE.flatten.all cD=true:=by
      rw[<-aY];simp only[adr,List.mem_flatten,afk];rintro x ⟨_,⟨s,_,rfl⟩,hx⟩;simp only[Nd.e,yx,afc,or_false]at hx;rcases hx with rfl|rfl|rfl|rfl<;>rfl
     have b2:∀x∈BE,x.length=4:=by rw[<-aY];exact sS bs
     have bX:BE.flatten.length=ns.length*4:=by rw[fi b2,ah]
     have cn:(.sl 4 ([iV (-1-at_),iV n0.t,sV n0.text,.sl 1 []]::b1.map Nd.e):DV)=.sl 4 ([iV (-1-at_),iV n0.t,sV n0.text,.sl 1 []]::b1.map Nd.e):=rfl;have b5:BE=[iV n0.p,iV n0.t,sV n0.text,.sl 1 []]::b1.map Nd.e:=by rw[<-aY,bT];rfl
     have cp:ns.length=b1.length+1:=by rw[<-bR,bT,Xt]
     obtain⟨BN,aw⟩:∃BN,[iV (-1-at_),iV n0.t,sV n0.text,.sl 1 []]::b1.map Nd.e=BN:=⟨_,rfl⟩;obtain⟨BF,aZ⟩:∃BF,BE.flatten=BF:=⟨_,rfl⟩;have ba:(iV (-1-at_))::BF.tail=BN.flatten:=by rw[<-aZ,<-aw,b5];rfl
     have bb:BN.length=ns.length:=by rw[<-aw,Xt,Rm];omega
     have bc:∀x∈BN,x.length=4:=by
      rw[<-aw];intro x hx;rcases yx.1 hx with rfl|hx
      . rfl
      . exact sS b1 x hx
     have bd:(0:Int)<ns.length:=aa;have b6:True:=trivial;rw[aw]at k8;by_cases hT:0<TX.length
     . simp(disch:=omega)[go_sem,hT,av,bB];refine au.mk (k7 hT) λbD bg=> ?_;replace bg:=cr bg;refine aL ?_;refine uH (R:=bD+1) (ak:=0) (cs:=[]) (by simp(disch:=omega)[go_sem]) (.inl rfl) rfl (by decide) (by rw[bX,ah]) bW (by omega) (by simp(disch:=omega)[go_sem]) λR' h' T aH g1 g2 g3 g4 g5 g6 g7=> ?_;simp(disch:=omega)[go_sem]at g2 g3 g5;rw[aZ]at g2;have e1:=g6 M2 aa (by simp(disch:=omega)[go_sem]<;>omega);have e2:=g6 bD aa (by simp(disch:=omega)[go_sem]<;>omega);simp(disch:=omega)[go_sem]at e1 e2;have bE:R'≠bD:=aa;have aJ:R'≠M2:=aa;have aM:(1<=BF.length)=True:=eq_true (by rw[<-aZ];omega);have bF:.v (.int .i64 (-1-at_))::BF.tail=BN.flatten:=ba;simp(disch:=omega)[go_sem,e1,e2,g2,ah,aM,aG,bd,av,bB,bF,bE,aJ];refine au.fz k8 [R'] ?_ ?_ λb7 ao=> ?_
       . exact ai
       . refine .cons (.refl _) (.cons (.refl _) (.cons (Fz.dG (.cons ?_ (.cons (.refl _) .nil))) .nil));refine dW (ak:=aH) (fq (wr:=true) (Yt.2 rfl) ai) g1 aA bb.symm (Rb _) bc
       replace ao:=cr ao;refine aL ?_;refine au.mk aX λb8 bG=> ?_;have bI:0<aF.length:=aA;simp(disch:=omega)[go_sem,bI]
     . simp(disch:=omega)[go_sem,hT];refine uH (R:=M9+1) (ak:=0) (cs:=[]) ai (.inl rfl) rfl aA (by rw[bX,ah]) bW aa ai λR' h' T aH g1 g2 g3 g4 g5 g6 g7=> ?_;simp(disch:=omega)[go_sem]at g2 g3 g5;rw[aZ]at g2;have e1:=g6 M2 aa (by simp(disch:=omega)[go_sem]<;>omega);have e2:=g6 M9 aa (by simp(disch:=omega)[go_sem]<;>omega);simp(disch:=omega)[go_sem]at e1 e2;have bE:R'≠M9:=aa;have aJ:R'≠M2:=aa;have aM:(1<=BF.length)=True:=eq_true (by rw[<-aZ];omega);have bF:.v (.int .i64 (-1-at_))::BF.tail=BN.flatten:=ba;simp(disch:=omega)[go_sem,e1,e2,g2,ah,aM,aG,bd,av,bB,bF,bE,aJ];refine au.fz k8 [R'] ?_ ?_ λb7 ao=> ?_
       . exact ai
       . refine .cons (.refl _) (.cons (.refl _) (.cons (Fz.dG (.cons ?_ (.cons (.refl _) .nil))) .nil));refine dW (ak:=aH) (fq (wr:=true) (Yt.2 rfl) ai) g1 aA bb.symm (Rb _) bc
       replace ao:=cr ao;refine aL ?_;refine au.mk aX λb8 bG=> ?_;have bI:0<aF.length:=aA;simp(disch:=omega)[go_sem,bI]
   . have af:(60:Int)<ns.length:=aa;unfold gq;simp(disch:=omega)[go_sem,av,bB,aE,af]
end Go.Sp
end
noncomputable section
open Go Go.aD Go.Proofs Go.ChangeShapes Go.WideShapes Go.ChangeAt Go.RowKit Go.Joins
namespace Go.Sp
def lq:Tryz.prog.cellsOf 5=1:=an
def zA:Tryz.prog.cellsOf 22=1:=an
def aeT:Tryz.prog.cellsOf 23=1:=an
def aeU:Tryz.prog.cellsOf 24=1:=an
def aeV:Tryz.prog.cellsOf 26=5:=an
def aeW:Tryz.prog.cellsOf 148=4:=an
def aeX:Tryz.prog.cellsOf 151=5:=an
def K0{α:Type}{k:Nat}:∀{xs:List (List α)} (j i:Nat) (x:List α),(∀x∈xs,x.length=k)->xs[j]? =some x->i<k->xs.flatten[j*k+i]? =x[i]?
 |[],j,i,x,_,h,_=>by simp at h
 |y::xs,0,i,x,hl,h,hi=>by
  simp only[List.getElem?_cons_zero,Option.some.injEq]at h;subst h;have hy:y.length=k:=hl y aw;rw[afj,List.getElem?_append_left aa];simp
 |y::xs,j+1,i,x,hl,h,hi=>by
  have hy:y.length=k:=hl y aw;rw[afj,afo (by rw[hy,Nat.add_mul];omega),hy];have:=K0 j i x (λz hz=>hl z (UR _ hz)) (by simpa using h) hi;rw[<-this];congr 1;rw[Nat.add_mul];omega
def aeY{z:Int}(h:(Lit.int .u8 z).wf=true):0<=z/\z<256:=by
 simp only[Lit.wf,afl,decide_eq_true_eq]at h;have h1:IntKind.u8.min=0:=rfl;have h2:IntKind.u8.max=255:=rfl;omega
section
variable {H:Type} {enc:TypeId×Value->H}
def lY{W:World}{n:Nat}{cs:List Value}{y:DataW H×List MemPlace}(h:DataW.trod enc Tryz.prog W 0 (λ_=>true) true n 5 cs=some y):∃z,cs=[.int .u8 z]/\0<=z/\z<256:=by
 obtain⟨z,e,_,hw⟩:=DataW.trod_int Tryz.underlying5 h;exact⟨z,e,aeY hw⟩
def DO{W:World}{t el:TypeId}{k:Nat}{α:Type}[Inhabited α](Q:α->Prop)(f:α->List DV)(hu:Tryz.prog.underlying t=some (.slice el))(hk:Tryz.prog.cellsOf el=k)(ad:0<k)(hf:∀x,(f x).length=k)
 (ai:∀n cs y,cs.length=k->DataW.trod enc Tryz.prog W 0 (λ_=>true) true n el cs=some y->∃x,Q x/\iI W cs (f x)) {n:Nat} {cs:List Value} {y:DataW H×List MemPlace} (h:DataW.trod enc Tryz.prog W 0 (λ_=>true) true n t cs=some y):∃(v:Value) (xs:List α),cs=[v]/\(∀x∈xs,Q x)/\Rd W v (.sl k (xs.map f)):=by
 rcases Deep.open_slice hu h with⟨rfl,_⟩|⟨a,len,cap,m,n',D,Pl,rfl,_,hl,_,hm,_,af⟩
 . exact⟨_,[],rfl,λx hx=>absurd hx afc,Rd.sln W ad 0⟩
 . obtain rfl:m=cap:=by simpa using hm
   rw[hk]at af;have each:∀i,i<m->∃q:List Value×α,q.1.length=k/\(∀j,j<k->W.cell? ((a.add (i*k)).add j)=q.1[j]?)/\Q q.2/\iI W q.1 (f q.2):=λi hi=>by
    obtain⟨cs',hc,ht⟩:=af i hi;obtain⟨_,h5,ae⟩:=World.cells?_some hc;obtain⟨x,h6,h7⟩:=ai n' cs' _ h5 ht;exact⟨(cs',x),h5,ae,h6,h7⟩
   obtain⟨g,hg⟩:=Deep.choose_lt each;refine⟨_,((List.range m).map λi=>(g i).2).take len,rfl,λx hx=> ?_, ?_⟩
   . obtain⟨i,hi,rfl⟩:=afk.1 (List.mem_of_mem_take hx);exact(hg i (afn.1 hi)).2.2.1
   . rw[List.map_take];have hL:∀l:List Nat,(∀i∈l,i<m)->iI W (l.map λi=>(g i).1).flatten ((l.map λi=>(g i).2).map f).flatten:=λl=>by
      induction l with
      |nil=>exactλ_=>iI.nil W
      |cons i l ih=>
       intro hm;simp only[afd,afj];exact(hg i (hm i (afh ..))).2.2.2.append (ih λj hj=>hm j (UR _ hj))
     refine Rd.sl ad hl (cells:=((List.range m).map λi=>(g i).1).flatten) ?_ (λj hj=> ?_) aw (λx hx=> ?_) (hL _ λi hi=>afn.1 hi)
     . have:∀l:List Nat,(∀i∈l,i<m)->((l.map λi=>(g i).1).flatten).length=l.length*k:=λl=>by
        induction l with
        |nil=>intro _;simp
        |cons i l ih=>
         intro hm;simp only[afd,afj,afq,Xt];rw[ih λj hj=>hm j (UR _ hj),(hg i (hm i (afh ..))).1,Nat.succ_mul];omega
       rw[this _ λi hi=>afn.1 hi,afD]
     . obtain⟨i,r,hr,ah⟩:∃i r,j=i*k+r/\r<k:=⟨j/k,j%k,by rw[Nat.mul_comm];exact(Nat.div_add_mod j k).symm,Nat.mod_lt _ ad⟩;subst hr;have hi:i<m:=by
        rcases Nat.lt_or_ge i m with h|h
        . exact h
        . have:=Nat.mul_le_mul_right k h;omega
       obtain⟨q1,q2,_,_⟩:=hg i hi;rw[K0 i r (g i).1 (λx hx=>by obtain⟨z,hz,rfl⟩:=afk.1 hx;exact(hg z (afn.1 hz)).1) (by simp[hi]) ah,<-q2 r ah,Addr.add_add]
     . obtain⟨z,_,rfl⟩:=afk.1 hx;exact hf z
def zB{W:World}{n:Nat}{cs:List Value}{y:DataW H×List MemPlace}(h:DataW.trod enc Tryz.prog W 0 (λ_=>true) true n 22 cs=some y):∃(v:Value) (bs:List Int),cs=[v]/\(∀b∈bs,0<=b/\b<256)/\Rd W v (.sl 1 (bs.map λb=>[uV b])):=
 DO (λb=>0<=b/\b<256) (λb=>[uV b]) Tryz.underlying22 lq Nat.one_pos (λ_=>rfl) (λn cs y _ h=>by
  obtain⟨z,rfl,hz⟩:=lY h;exact⟨z,hz,.cons (Rd.int W _ _) (.nil W)⟩) h
instance:Inhabited Ln:=⟨⟨0,[],0,0⟩⟩
instance:Inhabited Rl:=⟨⟨0,0,0,0,0⟩⟩
def jf{W:World}{n:Nat}{fs:Array Field}{cs:List Value}{xs:List (DataW H×List MemPlace)}(hl:xs.length=fs.size)(hf:∀(i:Nat) (f:Field),fs[i]? =some f->DataW.trod enc Tryz.prog W 0 (λ_=>true) true n f.type ((cs.drop f.offset).take (Tryz.prog.cellsOf f.type))=xs[i]?)(i:Nat)(f:Field)(hi:fs[i]? =some f)(t o:Nat){k:Nat}(ht:f.type=t)(ho:f.offset=o)(hk:Tryz.prog.cellsOf t=k):∃y,DataW.trod enc Tryz.prog W 0 (λ_=>true) true n t ((cs.drop o).take k)=some y:=by
 subst ht;subst ho;subst hk;have h:=hf i f hi;have aj:=(Array.getElem?_eq_some_iff.1 hi).1;rw[Fj aa]at h;exact⟨_,h⟩
def aeZ{W:World}{n:Nat}{cs:List Value}{y:DataW H×List MemPlace}(hl:cs.length=4)(h:DataW.trod enc Tryz.prog W 0 (λ_=>true) true n 148 cs=some y):∃x:Ln,x.Ok/\iI W cs x.e:=by
 obtain⟨xs,n',_,_,_,ab,hf⟩:=DataW.trod_struct Tryz.underlying148 h;obtain⟨c0,c1,c2,c3,rfl⟩:∃c0 c1 c2 c3,cs=[c0,c1,c2,c3]:=by
  match cs,hl with
  |[c0,c1,c2,c3],_=>exact⟨_,_,_,_,rfl⟩
 obtain⟨y0,h0⟩:=jf ab hf 0 _ rfl 5 0 rfl rfl lq;obtain⟨y1,h1⟩:=jf ab hf 1 _ rfl 22 1 rfl rfl zA;obtain⟨y2,h2⟩:=jf ab hf 2 _ rfl 5 2 rfl rfl lq;obtain⟨y3,h3⟩:=jf ab hf 3 _ rfl 5 3 rfl rfl lq;obtain⟨z0,e0,q0⟩:=lY h0;obtain⟨v1,bs,e1,q1,r1⟩:=zB h1;obtain⟨z2,e2,q2⟩:=lY h2;obtain⟨z3,e3,q3⟩:=lY h3;obtain rfl:=WZ.1 (show [c0]=_ from e0);obtain rfl:=WZ.1 (show [c1]=_ from e1);obtain rfl:=WZ.1 (show [c2]=_ from e2);obtain rfl:=WZ.1 (show [c3]=_ from e3);exact⟨⟨z0,bs,z2,z3⟩,⟨q0,q1,q2,q3⟩,.cons (Rd.int W _ _) (.cons r1 (.cons (Rd.int W _ _) (.cons (Rd.int W _ _) (.nil W))))⟩
def ae0{W:World}{n:Nat}{cs:List Value}{y:DataW H×List MemPlace}(hl:cs.length=5)(h:DataW.trod enc Tryz.prog W 0 (λ_=>true) true n 151 cs=some y):∃x:Rl,x.Ok/\iI W cs x.e:=by
 obtain⟨xs,n',_,_,_,ab,hf⟩:=DataW.trod_struct Tryz.underlying151 h;obtain⟨c0,c1,c2,c3,c4,rfl⟩:∃c0 c1 c2 c3 c4,cs=[c0,c1,c2,c3,c4]:=by
  match cs,hl with
  |[c0,c1,c2,c3,c4],_=>exact⟨_,_,_,_,_,rfl⟩
 obtain⟨y0,h0⟩:=jf ab hf 0 _ rfl 5 0 rfl rfl lq;obtain⟨y1,h1⟩:=jf ab hf 1 _ rfl 5 1 rfl rfl lq;obtain⟨y2,h2⟩:=jf ab hf 2 _ rfl 5 2 rfl rfl lq;obtain⟨y3,h3⟩:=jf ab hf 3 _ rfl 5 3 rfl rfl lq;obtain⟨y4,h4⟩:=jf ab hf 4 _ rfl 5 4 rfl rfl lq;obtain⟨z0,e0,q0⟩:=lY h0;obtain⟨z1,e1,q1⟩:=lY h1;obtain⟨z2,e2,q2⟩:=lY h2;obtain⟨z3,e3,q3⟩:=lY h3;obtain⟨z4,e4,q4⟩:=lY h4;obtain rfl:=WZ.1 (show [c0]=_ from e0);obtain rfl:=WZ.1 (show [c1]=_ from e1);obtain rfl:=WZ.1 (show [c2]=_ from e2);obtain rfl:=WZ.1 (show [c3]=_ from e3);obtain rfl:=WZ.1 (show [c4]=_ from e4);exact⟨⟨z0,z1,z2,z3,z4⟩,⟨q0,q1,q2,q3,q4⟩,.cons (Rd.int W _ _) (.cons (Rd.int W _ _) (.cons (Rd.int W _ _) (.cons (Rd.int W _ _) (.cons (Rd.int W _ _) (.nil W)))))⟩
end
end Go.Sp
end
noncomputable section
open Go Go.aD Go.Proofs
namespace Go.Sp
def fA:aH:=λi=>if i=ez then some ⟨ez,0,64,64,0,λ_=>True⟩else if i<ez then some ⟨i,0,0,0,0,λ_=>True⟩else none
def dO:ab:=⟨Tr.nil.set ez (some (.row jm false 0)),ez+1⟩
def K2(ρ:aH):∀l:List Int,bQ ρ (l.map λn=>Value.int .u8 n) (l.map λn=>Value.int .u8 n)
 |[]=>.nil
 |n::l=>.cons (.int _ _) (K2 ρ l)
def ae1(w:World)(el:TypeId)(fz:Nat×Nat)(ht:w.heap[ez]? =some (.cells jm.toArray el fz)):qR w fA dO:=by
 have only:∀i o,dO.get i=some o->i=ez/\o=.row jm false 0:=λi o h=>by
  have h:((Tr.nil:Tr bR).set ez (some (.row jm false 0))).get i=some o:=h;rw[Tr.bD]at h
  split at h
  . rename_i e;cases h;exact⟨e,rfl⟩
  . rw[Tr.get_nil]at h;cases h
 refine⟨⟨λi pl h=> ?_,λi o h=> ?_,λi j o p pi pj ad h1 h2=> ?_⟩,λi o h=> ?_, ?_,if_pos rfl,λg hg=> ?_⟩
 . show i<ez+1;simp only[fA]at h
   split at h
   . omega
   . split at h
     . omega
     . cases h
 . obtain⟨rfl,rfl⟩:=only i o h;refine⟨_,if_pos rfl,jm.toArray,el,fz,ht,λh=>(by cases h),rfl,rfl,Rb _,Rb _,λ_=>rfl, ?_,λ_=>trivial⟩;have e:(jm.toArray.toList.drop 0).take 64=jm:=YN (l:=jm) (Rb 64);show bQ fA jm ((jm.toArray.toList.drop 0).take 64);rw[e];unfold jm;exact K2 _ _
 . obtain⟨rfl,rfl⟩:=only i o h1;cases h2
 . obtain⟨rfl,rfl⟩:=only i o h;rfl
 . show((Tr.nil:Tr bR).set ez (some (.row jm false 0))).get ez=_;rw[Tr.bD,if_pos rfl]
 . by_cases h:g=ez
   . subst h;exact⟨_,if_pos rfl,rfl,rfl⟩
   . refine⟨⟨g,0,0,0,0,λ_=>True⟩, ?_,rfl,rfl⟩;simp only[fA];rw[if_neg h,if_pos aa]
end Go.Sp
end

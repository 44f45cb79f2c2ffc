/- SpacingSuffixes: parts of its proof (SpW Ge16 ClUA ClCpl Mp1 Dm2 Dg6). -/
import Derived.Test.YtaheljlbchkpcaaGreatDoorK12
import Derived.Test.YtaheljlbchkpcaaGreatDoorK20
import Derived.Test.YtaheljlbchkpcaaGreatDoorK22
import Derived.Test.YtaheljlbchkpcaaGreatDoorK24
import Derived.Test.YtaheljlbchkpcaaGreatDoorK25
import Derived.Test.YtaheljlbchkpcaaGreatDoorK26
set_option linter.unusedVariables false
set_option linter.unusedSimpArgs false
noncomputable section
open Go Go.aw Go.Proofs
namespace Go.aw
variable {e:Env} {aj:Bool}
theorem WD.split(he:e.Ok)(ai:e.P.follows .mixedOrders=true){a b:Code}{d:DS}{K:bn->DS->Prop}(h:RD e aj a d λx s1=>match x with|.normal=>∃d',aA s1 d'/\WD e aj b d' K|x=>K x s1):WD e aj (.seq a b) d K:=by
 intro G s hs;refine WQ.seq ((RD.wd he ai a d _ h G s hs).mono λx s1 ⟨d1,G1,q1,q2,q3⟩=> ?_);cases x with
 |normal=>
  obtain⟨d',h1,h2⟩:=q3;obtain⟨G2,q4,q5⟩:=h1 G1 s1 q1;exact(h2 G2 s1 q4).mono λ_ _=>mE.up (q2.trans q5)
 |exit i=>exact⟨d1,G1,q1,q2,q3⟩
 |ret=>exact⟨d1,G1,q1,q2,q3⟩
variable {G:Nat->Prop} {h:aa} {dh:ab} {R:Rows}
theorem c8.aau(he:e.Ok)(ai:e.P.follows .mixedOrders=true)(af:Idle e){f:FuncId}{fn:Func}{c:Code}{ad:List DV}{K:DV->ab->Prop}(ao:e.fn f=some fn)(hb:fn.body=some c){n:Nat}(hn:fn.ntmps=n){rs:List ResultVar}(au:fn.results=rs.toArray)
 (hq:WD e aj c ⟨iT ad,ad.length+(n-ad.length),[],dh⟩ (jN e rs K)) (G:Nat->Prop) (h:aa) (args:List Value) (x:bM G h dh) (ha:cw (aI h G) args ad):
 match aj with
 |true=>∃v h',bS e f args h v h'/\∃d ae G',bM G' h' ae/\Kp G h dh G' h' ae/\Rel (aI h' G') v d/\K d ae
 |false=>fO e f args h λv h'=>∃d ae G',bM G' h' ae/\Kp G h dh G' h' ae/\Rel (aI h' G') v d/\K d ae:=by
 subst hn;have hlen:args.length=ad.length:=ha.length;have hs:SD G ⟨gX args,args.length+(fn.ntmps-args.length),[],h⟩ ⟨iT ad,ad.length+(fn.ntmps-ad.length),[],dh⟩:=⟨by simp only[hlen],(Gn x.fF ha).all,.nil,x⟩;have key:=hq G _ hs;have fin:∀x s',mE G h dh (jN e rs K) x s'->pQ e fn.results.toList (λv h'=>∃d ae G',bM G' h' ae/\Kp G h dh G' h' ae/\Rel (aI h' G') v d/\K d ae) x s':=by
  rintro x s' ⟨d',G',q1,q2,q3,q4,l,q5,q6⟩;obtain⟨vs,q7,q8⟩:=BQ q1 q5;refine⟨q3,s'.h,vs,BR q1.dd q4,by rw[au];exact q7,kp l,d'.h,G',q1.h,q2,Gk q8,q6⟩
 cases aj with
 |false=>exact fO.of he af ao hb (WR.mono key fin)
 |true=>
  obtain⟨x,s',h1,h2⟩:=key;obtain⟨h3,h4,vs,h5,h6,h7⟩:=fin x s' h2;refine⟨kg vs,h4, ?_,h7⟩;have:=AJ he af (AW h1) f args h (kg vs) h4 (by
   unfold qH;simp only[ao,hb];have:qN c {t:=gX args,n:=args.length+(fn.ntmps-args.length),ds:=[],h} x s' none c {t:=gX args,n:=args.length+(fn.ntmps-args.length),ds:=[],h}=some (x,s'):=by
    unfold qN;rw[if_pos ⟨rfl,rfl,rfl⟩]
   rw[this];cases x with
   |exit i=>exact absurd rfl (h3 i)
   |normal=>
    simp only[h5,h6]
    match vs with
    |[]=>rfl
    |[v]=>rfl
    |_::_::_=>rfl
   |ret=>
    simp only[h5,h6]
    match vs with
    |[]=>rfl
    |[v]=>rfl
    |_::_::_=>rfl)
  exact this
theorem ax.ofW(he:e.Ok)(ai:e.P.follows .mixedOrders=true)(af:Idle e){f:FuncId}{fn:Func}{c:Code}{ad:List DV}{dv:DV}(ao:e.fn f=some fn)(hb:fn.body=some c){n:Nat}(hn:fn.ntmps=n){rs:List ResultVar}(au:fn.results=rs.toArray)
 (hq:∀N,WD e aj c ⟨iT ad,ad.length+(n-ad.length),[],ab.none N⟩ (jN e rs λd h=>Fz (allRows h) d dv)):ax e aj f ad dv:=by
 intro G h args hG ha;have x:bM G h (ab.none h.next):=⟨hG.2,rfl,λi o ho=>(by rw[ab.get_none]at ho;cases ho),λi hi=>⟨hG.1 i hi,ab.get_none _ _⟩⟩;have key:=c8.aau he ai af ao hb hn au (hq h.next) G h args x ha;have fin:∀v h',(∃d ae G',bM G' h' ae/\Kp G h (ab.none h.next) G' h' ae/\Rel (aI h' G') v d/\Fz (allRows ae) d dv)->ru G h dv v h':=by
  rintro v h' ⟨d,ae,G',q1,q2,q3,q4⟩;refine⟨q2.next,λi hi=>(q2.same i hi (ab.get_none _ _)).1,Rel.fz (G':=s8 G h h') q1 (λi cs ah hr=> ?_) (λi hg=> ?_) q4 q3⟩
  . unfold allRows at hr
    split at hr
    . rename_i cs' wr av hg;cases hr;refine⟨.inr ⟨?_,(q1.obj _ _ hg).1⟩,wr,hg⟩;rcases Nat.lt_or_ge i h.next with hi|hi
      . rw[(q2.same i hi (ab.get_none _ _)).2]at hg;cases hg
      . exact hi
    . cases hr
  . rcases Nat.lt_or_ge i h.next with hi|hi
    . rcases q2.ba i hi hg with h1|h1
      . exact .inl h1
      . rw[ab.get_none]at h1;cases h1
    . exact .inr ⟨hi,(q1.still i hg).1⟩
 cases aj with
 |true=>obtain⟨v,h',h1,h2⟩:=key;exact⟨v,h',h1,fin v h' h2⟩
 |false=>exact fO.mono key fin
theorem WD.cut(he:e.Ok)(ai:e.P.follows .mixedOrders=true){a b:Code}{d:DS}{K:bn->DS->Prop}(Inv:DS->Prop)(h:RD e aj a d λx s1=>match x with|.normal=>∃d',aA s1 d'/\Inv d'|x=>K x s1)(h2:∀d',Inv d'->WD e aj b d' K):WD e aj (.seq a b) d K:=by
 intro G s hs;refine WQ.seq ((RD.wd he ai a d _ h G s hs).mono λx s1 ⟨d1,G1,q1,q2,q3⟩=> ?_);cases x with
 |normal=>
  obtain⟨d',h1,h3⟩:=q3;obtain⟨G2,q4,q5⟩:=h1 G1 s1 q1;exact(h2 d' h3 G2 s1 q4).mono λ_ _=>mE.up (q2.trans q5)
 |exit i=>exact⟨d1,G1,q1,q2,q3⟩
 |ret=>exact⟨d1,G1,q1,q2,q3⟩
end Go.aw
namespace Go.Sp
theorem xr{f:FuncId}{fn:Func}{c:Code}{ad:List DV}{dv:DV}(ao:E.fn f=some fn)(hb:fn.body=some c){n:Nat}(hn:fn.ntmps=n){rs:List ResultVar}(au:fn.results=rs.toArray)
 (hq:∀N,WD E true c ⟨iT ad,ad.length+(n-ad.length),[],ab.none N⟩ (jN E rs λd h=>Fz (allRows h) d dv)):ax E true f ad dv:=ax.ofW (kN []) lY (uH []) ao hb hn au hq
theorem Iw{a b:Code}{d:DS}{K:bn->DS->Prop}(h:RD E true a d λx s1=>match x with|.normal=>∃d',aA s1 d'/\WD E true b d' K|x=>K x s1):WD E true (.seq a b) d K:=WD.split (kN []) lY h
theorem ve{c:Code}{d:DS}{K:bn->DS->Prop}(h:RD E true c d K):WD E true c d K:=RD.wd (kN []) lY c d K h
theorem jx{a b:Code}{d:DS}{K:bn->DS->Prop}(Inv:DS->Prop)(h:RD E true a d λx s1=>match x with|.normal=>∃d',aA s1 d'/\Inv d'|x=>K x s1)(h2:∀d',Inv d'->WD E true b d' K):WD E true (.seq a b) d K:=WD.cut (kN []) lY Inv h h2
theorem gk{a b:Code}{d:DS}{K:bn->DS->Prop}(h:RD E true a d λx s1=>match x with|.normal=>WD E true b s1 K|x=>K x s1):WD E true (.seq a b) d K:=by
 intro G s hs;refine WQ.seq ((RD.wd (kN []) lY a d _ h G s hs).mono λx s1 ⟨d1,G1,q1,q2,q3⟩=> ?_);cases x with
 |normal=>exact(q3 G1 s1 q1).mono λ_ _=>mE.up q2
 |exit i=>exact⟨d1,G1,q1,q2,q3⟩
 |ret=>exact⟨d1,G1,q1,q2,q3⟩
end Go.Sp
end
noncomputable section
open Go Go.aw Go.Proofs
namespace Go.Sp
set_option maxRecDepth 100000
theorem Iy{N:Nat}:∀{r s:List (Nat×bF)} {i:Nat} {o:bF},(cK N (r++s)).get i=some o->(i,o)∈r\/(cK N s).get i=some o
 |[],s,i,o,h=>.inr h
 |(j,u)::r,s,i,o,h=>by
  rw[List.cons_append,wY]at h
  split at h
  . rename_i hi;subst hi;cases h;exact .inl (by simp)
  . rcases Iy h with h|h
    . exact .inl (List.mem_cons_of_mem _ h)
    . exact .inr h
theorem aA.mkG{t:Tr DV}{n N:Nat}{dd:List FuncId}{h:ab}{ts:List (Nat×DV)}{r:List (Nat×bF)}(l:List Nat){b:Nat}{cs cs':List DV}{wr:Bool}{ah:Nat}(hl:∀i∈l,(h.get i).isSome=true)(hN:h.next=N)(ht:nC t ts)(hh:p7 h r)
 (hr:∀p∈r,p.1∉l) (hb:h.get b=some (.row cs wr ah)) (bk:b∉l) (hz:cP (rowsOf h l) cs cs'):aA ⟨t,n,dd,h⟩ ⟨bQ ts,n,dd,cK N (r++[(b,.row cs' wr ah)])⟩:=by
 refine aA.of l hl (by rw[wZ,hN]) (λi v hv=>⟨v,w8 ht.mem i v hv,.refl v⟩) λi o ho=> ?_;rcases Iy ho with h1|h1
 . exact⟨hr _ h1,.inl (hh.mem _ h1)⟩
 . rw[wY]at h1
   split at h1
   . rename_i hi;subst hi;cases h1;exact⟨bk,.inr ⟨cs,cs',wr,ah,hb,rfl,hz⟩⟩
   . rw[zd]at h1;cases h1
def Iz(md:List Int->Nat->Dg):Prop:=∀(l:List Int) (n:Nat),(∀b∈l,0<=b/\b<256)->n<=3->ax E true 21 [.sl 1 (l.map λb=>[uV b]),iV n] (.agg (md l n).e)
def IA(md:List Int->Nat->Dg):Prop:=∀(b:Int) (n:Nat),0<=b->b<256->n<=3->ax E true 82 [.agg (cB md b n).e,iV n] (bV true)
def MI(N M:Nat)(kb:Bool)(aa:Nat)(x:cQ)(g:ai)(ts:List (Nat×DV))(d:DS):Prop:=∃P,(N+1<M/\M<P)/\d=⟨bQ ([(1,.v (.pointer (some ⟨N,0,none⟩))),(2,.v (.pointer (some ⟨N+1,0,none⟩))),(3,bV kb),(4,.v (.pointer (some ⟨M,0,none⟩))),(5,iV aa)]++ts),99,[],cK P [(N,.row x.e true 0),(N+1,.row eE true 0),(M,.row g.e true 0)]⟩
set_option maxHeartbeats 8000000 in
theorem aav(hc:CU)(md:List Int->Nat->Dg)(bc:Iz md)(aO:IA md)(x:cQ)(hx:x.Ok):ax E true 10 [.agg x.e] (.agg (cL md x).e):=by
 obtain⟨R,hR⟩:∃R,R=DV.agg (cL md x).e:=⟨_,rfl⟩;rw[<-hR];have hb:=hx.base;have hn:=hx.n;have hw:IntKind.u8.wrap (x.base%8)=x.base%8:=wrap_u8 (by omega) (by omega);have az:∀(b:Int) (n:Nat),0<=b->b<256->n<=3->ax E true 13 [uV b,iV n] (.agg (cB md b n).e):=λb n h0 h1 h2=>Ij hc md bc b n h0 h1 h2;obtain⟨g0,aI⟩:∃g0,jY x=g0:=⟨_,rfl⟩;obtain⟨kb,aL⟩:∃kb,decide (x.base%8<6)=kb:=⟨_,rfl⟩;obtain⟨aa,ao⟩:∃aa:Nat,(if kb then 6 else 10)=aa:=⟨_,rfl⟩;have bl:aa<=10:=by rw[<-ao];split<;>omega
 have af:=It x hx;rw[aI]at af;refine xr Vt rfl Tryz.ntmps10 Tryz.results10 λN=> ?_;refine gk ?_;simp(disch:=omega)[go_sem,cQ.e];refine gk ?_;simp(disch:=omega)[go_sem,dr,hw,cQ.e,aL];refine gk ?_;simp(disch:=omega)[go_sem,dr,hw,cQ.e];refine aq.mk (aag (x.base%8) (by simp;omega)) λM hM=> ?_;simp(disch:=omega)[go_sem]at hM;simp(disch:=omega)[go_sem,ai.e,cQ.e];refine gk ?_;simp(disch:=omega)[go_sem];refine jx (MI N M kb aa x g0 []) ?_ ?_
 . simp(disch:=omega)[go_sem];cases kb with
   |false=>
    have hk:=of_decide_eq_false aL;have hq:IntKind.u8.wrap (x.n/4)=x.n/4:=wrap_u8 (by omega) (by omega);have hr:IntKind.u8.wrap (x.n%4)=x.n%4:=wrap_u8 (by omega) (by omega);obtain⟨n1,bf⟩:∃n1:Nat,1+x.n/4%3=n1:=⟨(1+x.n/4%3).toNat,by omega⟩;obtain⟨n2,bg⟩:∃n2:Nat,x.n%4=n2:=⟨(x.n%4).toNat,by omega⟩;have bn:IntKind.u8.wrap n2=n2:=wrap_u8 (by omega) (by omega);have aB:n1<=3:=by omega
    have aC:n2<=3:=by omega
    have he:g0.e=[.sl 1 ((oR.take n2).map λs=>[sV s]),.sl 3 ((aQ true).nodes.map de),iV (aQ true).root,.sl 7 (ar.map Tok.e),strs (vd.take n1),.sl 13 [(bu ⟨#[102,105,114,115,116]⟩ 0 [⟨true,0⟩] (aQ true)).e],iV 0,.sl 4 [],.sl 9 []]:=by
     rw[<-aI];simp only[jY,hk,if_false,bf,bg,Int.toNat_natCast];simp[ai.e]
    simp(disch:=omega)[go_sem,ai.e,cQ.e,jT,dr,hq,hr,aD];refine Iu (wr:=true) rfl (by simp(disch:=omega)[go_sem];try rfl) (.inl rfl) (by omega) (by omega) ?_;simp(disch:=omega)[go_sem];simp only[bf,Int.toNat_natCast];refine aq.fz (aae (vd.take n1)) [M+1] ?_ ?_ λM2 aS=> ?_
    . simp(disch:=omega)[go_sem]
    . exact .cons (Iv (ah:=0) (by decide) aB aB (λ_=>rfl) (.inl rfl) (hY (wr:=true) (by simp) (by simp(disch:=omega)[go_sem,vd]))) .nil
    simp(disch:=omega)[go_sem]at aS;simp(disch:=omega)[go_sem,zq,cQ.e,jT,dr,hr,bg,bn,aD];refine Iu (wr:=true) rfl (by simp(disch:=omega)[go_sem];try rfl) (.inl rfl) (by omega) (by omega) ?_;simp(disch:=omega)[go_sem,zq];refine ck [lH 0,⟨.read,1,some (0,3),true⟩,aN 0,cT 4,aN 12,cT 28,aN 63,ae 127,aN 255] (by kernel_rfl) 2 rfl ?_;simp(disch:=omega)[go_sem];refine aq.mk (H7 0) λM3 bo=> ?_;simp(disch:=omega)[go_sem]at bo;simp(disch:=omega)[go_sem];refine aaf ⟨#[102,105,114,115,116]⟩ 0 [⟨true,0⟩] (by simp(disch:=omega)[go_sem,Sym.e];try rfl) rfl (Nat.le_refl _) λM4 bq=> ?_;simp(disch:=omega)[go_sem]at bq;simp(disch:=omega)[go_sem,kz,s9,aQ,cQ.e,Sym.e]
    repeat refine⟨by omega, ?_⟩
    refine⟨_,aA.mkG (r:=[(N,.row x.e true 0),(N+1,.row eE true 0)]) (cs':=g0.e) [M2,M4] (b:=M) ?_ (by simp(disch:=omega)[go_sem];try rfl) ?_ ?_ ?_ (by simp(disch:=omega)[go_sem];try rfl) ?_ ?_,_,⟨by omega, ?_⟩,rfl⟩
    . intro i hi;simp only[List.mem_cons,List.not_mem_nil,or_false]at hi;rcases hi with rfl|rfl<;>simp(disch:=omega)[go_sem]
    . simp(disch:=omega)[go_sem,<-ao]
    . simp(disch:=omega)[go_sem,cQ.e,eE]
    . simp;omega
    . simp;omega
    . rw[he];exact .cons (Iv (ah:=0) (by decide) aC aC (λ_=>rfl) (.inl rfl) (hY (wr:=true) (by simp) (by simp(disch:=omega)[go_sem,oR]))) (.cons (.refl _) (.cons (.refl _) (.cons (.refl _) (.cons (.refl _) (.cons (eO (ah:=13) (hY (wr:=true) (by simp) (by simp(disch:=omega)[go_sem,bu,aR.e,Sym.e,aQ,jt])) (.inr rfl) (by decide) rfl (Nat.le_refl _) (by simp[aR.e])) (.cons (.refl _) (.cons (.nil (by decide)) (.cons (.nil (by decide)) .nil))))))))
    . omega
   |true=>
    have hk:=of_decide_eq_true aL;have he:g0=iB (x.base%8):=by rw[<-aI];simp only[jY,hk,if_true]
    simp(disch:=omega)[go_sem];refine⟨_,aA.mk (N:=M+1) ?_ ?_ ?_,_,⟨by omega,Nat.lt_succ_self M⟩,rfl⟩
    . simp(disch:=omega)[go_sem]
    . simp(disch:=omega)[go_sem,<-ao]
    . simp(disch:=omega)[go_sem,cQ.e,eE,he,ai.e]
 . rintro d' ⟨P,⟨h1,h2⟩,rfl⟩;have bs:g0.conds.length<=3:=af.1.conds;refine gk ?_;simp(disch:=omega)[go_sem,cQ.e,ai.e];refine aq.mk (bc x.family g0.conds.length hx.family bs) λM2 aS=> ?_;simp(disch:=omega)[go_sem]at aS;obtain⟨d,hd⟩:∃d,md x.family g0.conds.length=d:=⟨_,rfl⟩;rw[hd];have aE:ju md x g0=if 0<x.family.length/\d.root≠0 then{g0 with family:=d}else g0:=by simp only[ju,hd]
   simp(disch:=omega)[go_sem,Dg.e];refine jx (MI N M kb aa x (ju md x g0) []) ?_ ?_
   . by_cases hf:x.family=[]
     . simp(disch:=omega)[go_sem,cQ.e,hf];refine⟨_,aA.mk (N:=M2+1) ?_ ?_ ?_,_,⟨by omega,by omega⟩,rfl⟩
       . simp(disch:=omega)[go_sem]
       . simp(disch:=omega)[go_sem]
       . simp(disch:=omega)[go_sem,cQ.e,eE,ai.e,aE,hf]
     have bh:0<x.family.length:=List.length_pos_iff.2 hf;have bt:(0:Int)<x.family.length:=by omega
     by_cases hr:d.root=0
     all_goals
      simp(disch:=omega)[go_sem,Dg.e,cQ.e,bh,bt,hr];refine⟨_,aA.mk (N:=M2+1) ?_ ?_ ?_,_,⟨by omega,by omega⟩,rfl⟩
      . simp(disch:=omega)[go_sem]
      . simp(disch:=omega)[go_sem]
      . simp(disch:=omega)[go_sem,cQ.e,eE,ai.e,aE,bh,hr,Dg.e]
   . rintro d' ⟨P,⟨h3,h4⟩,rfl⟩;have bw:=eg.c9 af.1 md x;obtain⟨G1,aT⟩:∃G1,(x.lines.take aa).foldl (λg l=>gy (cB md) g l kb) (ju md x g0)=G1:=⟨_,rfl⟩;refine jx (λd=>eg G1 0/\MI N M kb aa x G1 [] d) ?_ ?_
     . simp(disch:=omega)[go_sem];obtain⟨I,hI⟩:∃I:Nat->DS->Prop,∀j d,I j d↔∃(k:Nat) (g:ai),j+k=x.lines.length/\k<=aa/\eg g 0/\g.ak.length<=10+k/\g=(x.lines.take k).foldl (λg l=>gy (cB md) g l kb) (ju md x g0)/\MI N M kb aa x g [(7,iV k)] d:=⟨_,λ_ _=>Iff.rfl⟩;refine cx I x.lines.length ⟨_,aA.mk (N:=P) ?_ ?_ ?_,(hI _ _).2 ⟨0,ju md x g0,rfl,by omega,bw.1,by omega,rfl,P,⟨h3,h4⟩,rfl⟩⟩ ?_
       . simp(disch:=omega)[go_sem]
       . simp[go_sem]
       . simp(disch:=omega)[go_sem,cQ.e,eE,ai.e]
       . intro j ds aF;obtain⟨k,g,hj,bj,hgr,bA,ad,P,⟨-,hP⟩,rfl⟩:=(hI _ _).1 aF;clear aF;by_cases l1:k<x.lines.length
         . have au:(k:Int)<x.lines.length:=by omega
           obtain⟨l,hl⟩:∃l,x.lines[k]? =some l:=⟨_,List.getElem?_eq_getElem l1⟩;by_cases l2:k<aa
           . have av:(k:Int)<aa:=by omega
             have aU:=hx.lines l (List.mem_of_getElem? hl);simp(disch:=omega)[go_sem,cQ.e,au,av,hl,-getElem?_pos];refine ck [aJ 0,ae 0,aJ 2,ae 0,ae 14,aJ 30,ae 0,aN 127,aN 255] (by kernel_rfl) 0 rfl ?_;simp(disch:=omega)[go_sem,cQ.e,Ln.e,hl,ai.e,-getElem?_pos];have aX:=aap (cB md) az g l kb aU hgr.aH.1 hgr.aH.2 hgr.conds (by omega);refine aq.mk aX λP2 aY=> ?_;simp(disch:=omega)[go_sem]at aY;generalize ay:gy (cB md) g l kb=gg at*;simp(disch:=omega)[go_sem,ai.e,aD];refine⟨j-1,by omega,_,aA.mk (N:=P2) ?_ ?_ ?_,(hI _ _).2 ⟨k+1,gg,by omega,by omega,ay▸hgr.line .., ?_, ?_,P2,⟨h3,by omega⟩,rfl⟩⟩
             . simp(disch:=omega)[go_sem]
             . simp(disch:=omega)[go_sem,aD]
             . simp(disch:=omega)[go_sem,ai.e,cQ.e,eE]
             . have:=aaq (cB md) g l kb;rw[ay]at this;omega
             . rw[List.take_add_one,hl,Option.toList_some,List.foldl_append,<-ad,List.foldl_cons,List.foldl_nil,ay]
           . have av:¬(k:Int)<aa:=by omega
             rw[show k=aa by omega,aT]at ad;simp(disch:=omega)[go_sem,cQ.e,au,av,hl,-getElem?_pos];refine⟨_,aA.mk (N:=P) ?_ ?_ ?_,ad▸hgr,P,⟨h3,hP⟩,rfl⟩
             . simp(disch:=omega)[go_sem]
             . simp(disch:=omega)[go_sem]
             . simp(disch:=omega)[go_sem,cQ.e,eE,ai.e,ad]
         . have au:¬(k:Int)<x.lines.length:=by omega
           rw[List.take_of_length_le (by omega),<-List.take_of_length_le (i:=aa) (l:=x.lines) (by omega),aT]at ad;simp(disch:=omega)[go_sem,cQ.e,au,-getElem?_pos];refine⟨_,aA.mk (N:=P) ?_ ?_ ?_,ad▸hgr,P,⟨h3,hP⟩,rfl⟩
           . simp(disch:=omega)[go_sem]
           . simp(disch:=omega)[go_sem]
           . simp(disch:=omega)[go_sem,cQ.e,eE,ai.e,ad]
     . rintro d' ⟨aZ,P,⟨-,h5⟩,rfl⟩;obtain⟨G2,bb⟩:∃G2,(x.rules.take 6).foldl (jV (cB md)) G1=G2:=⟨_,rfl⟩;have bx:R=DV.agg G2.e:=by
        rw[hR,<-bb,<-aT];simp only[cL,aI,aL,ao]
       refine jx (MI N M kb aa x G2 []) ?_ ?_
       . simp(disch:=omega)[go_sem];obtain⟨J,hJ⟩:∃J:Nat->DS->Prop,∀j d,J j d↔∃(k:Nat) (g:ai),j+k=x.rules.length/\k<=6/\eg g k/\g=(x.rules.take k).foldl (jV (cB md)) G1/\MI N M kb aa x g [(8,iV k)] d:=⟨_,λ_ _=>Iff.rfl⟩;refine cx J x.rules.length ⟨_,aA.mk (N:=P) ?_ ?_ ?_,(hJ _ _).2 ⟨0,G1,rfl,by omega,aZ,rfl,P,⟨h3,h5⟩,rfl⟩⟩ ?_
         . simp(disch:=omega)[go_sem]
         . simp[go_sem]
         . simp(disch:=omega)[go_sem,cQ.e,eE,ai.e]
         . intro j ds aF;obtain⟨k,g,hj,bj,hgr,ad,P,⟨-,hP⟩,rfl⟩:=(hJ _ _).1 aF;clear aF;by_cases l1:k<x.rules.length
           . have au:(k:Int)<x.rules.length:=by omega
             obtain⟨l,hl⟩:∃l,x.rules[k]? =some l:=⟨_,List.getElem?_eq_getElem l1⟩;by_cases l2:k<6
             . have av:(k:Int)<6:=by omega
               have aU:=hx.rules l (List.mem_of_getElem? hl);simp(disch:=omega)[go_sem,cQ.e,au,av,hl,-getElem?_pos];refine ck [aJ 0,ae 0,aJ 2,ae 0,ae 14,aJ 30,aN 63,aN 127] (by kernel_rfl) 0 rfl ?_;simp(disch:=omega)[go_sem,cQ.e,Rl.e,hl,ai.e,-getElem?_pos];have aX:=aan (cB md) az aO g (hgr.ok bj) l aU;refine aq.mk aX λP2 aY=> ?_;simp(disch:=omega)[go_sem]at aY;generalize ay:jV (cB md) g l=gg at*;simp(disch:=omega)[go_sem,ai.e,aD];refine⟨j-1,by omega,_,aA.mk (N:=P2) ?_ ?_ ?_,(hJ _ _).2 ⟨k+1,gg,by omega,by omega,ay▸hgr.CW .., ?_,P2,⟨h3,by omega⟩,rfl⟩⟩
               . simp(disch:=omega)[go_sem]
               . simp(disch:=omega)[go_sem,aD]
               . simp(disch:=omega)[go_sem,ai.e,cQ.e,eE]
               . rw[List.take_add_one,hl,Option.toList_some,List.foldl_append,<-ad,List.foldl_cons,List.foldl_nil,ay]
             . have av:¬(k:Int)<6:=by omega
               rw[show k=6 by omega,bb]at ad;simp(disch:=omega)[go_sem,cQ.e,au,av,hl,-getElem?_pos];refine⟨_,aA.mk (N:=P) ?_ ?_ ?_,P,⟨h3,hP⟩,rfl⟩
               . simp(disch:=omega)[go_sem]
               . simp(disch:=omega)[go_sem]
               . simp(disch:=omega)[go_sem,cQ.e,eE,ai.e,ad]
           . have au:¬(k:Int)<x.rules.length:=by omega
             rw[List.take_of_length_le (by omega),<-List.take_of_length_le (i:=6) (l:=x.rules) (by omega),bb]at ad;simp(disch:=omega)[go_sem,cQ.e,au,-getElem?_pos];refine⟨_,aA.mk (N:=P) ?_ ?_ ?_,P,⟨h3,hP⟩,rfl⟩
             . simp(disch:=omega)[go_sem]
             . simp(disch:=omega)[go_sem]
             . simp(disch:=omega)[go_sem,cQ.e,eE,ai.e,ad]
       . rintro d' ⟨P,⟨-,h6⟩,rfl⟩;refine ve ?_;simp(disch:=omega)[go_sem,cQ.e,ai.e,eE,bx]
end Go.Sp
end
noncomputable section
open Go Go.aw Go.Proofs
namespace Go.Sp
set_option maxRecDepth 100000
theorem aaB:∀p∈(ie.drop (14*0)).take 14,ig p:=bO (by kernel_rfl)
theorem aaC:∀p∈(ie.drop (14*1)).take 14,ig p:=bO (by kernel_rfl)
theorem aaD:∀p∈(ie.drop (14*2)).take 14,ig p:=bO (by kernel_rfl)
theorem aaE:∀p∈(ie.drop (14*3)).take 14,ig p:=bO (by kernel_rfl)
end Go.Sp
end
noncomputable section
open Go Go.aw Go.Proofs
namespace Go.Sp
set_option maxRecDepth 100000
theorem IB:CU:=by
 have h:∀c∈List.range 64,ax E true 26 [.agg (vr (c:Int)).e] (.agg (vc (c:Int)).e):=bO (by kernel_rfl);intro v h0 h1;have:=h v.toNat (by simp;omega);rwa[Int.toNat_of_nonneg h0]at this
end Go.Sp
end
noncomputable section
open Go Go.aw Go.Proofs
namespace Go.aw
variable {e:Env}
section
variable {κ ν:Type} [DecidableEq κ]
def fC(kf:κ->Value)(vf:ν->DV)(es:List bA)(l:List (κ×ν)):Prop:=es.map (λx=>(x.key,x.val))=l.map λp=>(kf p.1,vf p.2)
omit [DecidableEq κ]in
theorem fC.nil(kf:κ->Value)(vf:ν->DV):fC kf vf [] []:=rfl
theorem C1{kt:TypeId}{kf:κ->Value}{vf:ν->DV}(hk:kP e kt kf):∀{es:List bA} {l:List (κ×ν)} (a:κ),fC kf vf es l->findD e.P kt (kf a) es=some ((bf l a).map vf)
 |[],[],a,_=>rfl
 |[],_::_,a,h=>by simp[fC]at h
 |_::_,[],a,h=>by simp[fC]at h
 |x::es,(k,v)::l,a,h=>by
  simp only[fC,List.map_cons,List.cons.injEq,Prod.mk.injEq]at h;obtain⟨⟨h1,h2⟩,h3⟩:=h;simp only[findD,h1,hk.eq];by_cases e1:a=k
  . subst e1;simp only[decide_true,bf,if_true,h2,Option.map_some]
  . simp only[e1,decide_false,bf,if_false];exact C1 hk a (show fC kf vf es l from h3)
theorem II{kt:TypeId}{kf:κ->Value}{vf:ν->DV}(hk:kP e kt kf):∀{es:List bA} {l:List (κ×ν)} (a:κ) (i:Nat),fC kf vf es l->∃r,nu e.P kt (kf a) es i=some r/\
 (match bf l a with|none=>r=none|some _=>∃j,r=some (i+j)/\∃x,es[j]? =some x/\x.key=kf a/\∀w,fC kf vf (es.modify j λx=>{x with key:=kf a,val:=vf w}) (put l a w))
 |[],[],a,i,_=>⟨none,rfl,by simp[bf]⟩
 |[],_::_,a,i,h=>by simp[fC]at h
 |_::_,[],a,i,h=>by simp[fC]at h
 |x::es,(k,v)::l,a,i,h=>by
  simp only[fC,List.map_cons,List.cons.injEq,Prod.mk.injEq]at h;obtain⟨⟨h1,h2⟩,h3⟩:=h;simp only[nu,h1,hk.eq];by_cases e1:a=k
  . subst e1;simp only[decide_true,bf,if_true];refine⟨_,rfl,0,rfl,x,rfl,h1,λw=> ?_⟩;simp only[fC,put,if_true,List.map_cons,List.modify_cons,if_pos];exact congrArg _ h3
  . simp only[e1,decide_false,bf,if_false];obtain⟨r,h4,h5⟩:=II hk (vf:=vf) a (i+1) (show fC kf vf es l from h3);refine⟨r,h4, ?_⟩;cases ha:bf l a with
    |none=>simpa[ha]using h5
    |some v'=>
     simp only[ha]at h5⊢;obtain⟨j,h6,y,h7,h8,h9⟩:=h5;refine⟨j+1,by rw[h6];congr 1;omega,y,h7,h8,λw=> ?_⟩;have:=h9 w;simp only[fC]at this⊢;simp only[put,if_neg e1,List.map_cons,List.modify_succ_cons,this,h1,h2]
theorem tu{ty kt et:TypeId}{kf:κ->Value}{vf:ν->DV}(hk:kP e kt kf)(hu:e.under ty=some (.map kt et)){es:List bA}{l:List (κ×ν)}(hl:fC kf vf es l)(a:κ)(ok:Bool){v:ν}(hv:bf l a=some v):
 l8 e ty ok (kf a) es=some (bif ok then .bg [vf v,.v (.bool true)]else vf v):=by
 obtain⟨kd,h1,h2⟩:=hk.kd;obtain⟨u,h3⟩:=hk.check a es.isEmpty;simp only[l8,hu,h1,C1 hk a hl,hv,Option.map_some];rw[if_pos ⟨hk.plain a,h2 a,by rw[h3];rfl⟩]
theorem tw{ty kt et:TypeId}{kf:κ->Value}{vf:ν->DV}(hk:kP e kt kf)(hu:e.under ty=some (.map kt et)){es:List bA}{l:List (κ×ν)}(hl:fC kf vf es l)(a:κ)(ok:Bool){z:Value}(hz:e.zero et=some z)(hp:aw.plain z=true)(hv:bf l a=none):
 l8 e ty ok (kf a) es=some (bif ok then .bg [fX z,.v (.bool false)]else fX z):=by
 obtain⟨kd,h1,h2⟩:=hk.kd;obtain⟨u,h3⟩:=hk.check a es.isEmpty;simp only[l8,hu,h1,C1 hk a hl,hv,Option.map_none,hz,hp,if_true];rw[if_pos ⟨hk.plain a,h2 a,by rw[h3];rfl⟩]
theorem qi{ty kt et:TypeId}{kf:κ->Value}{vf:ν->DV}(hk:kP e kt kf)(hu:e.under ty=some (.map kt et)){es:List bA}{l:List (κ×ν)}(hl:fC kf vf es l)(a:κ)(clock:Nat)(w:ν):
 ∃ad aa,kT e ty (kf a) (vf w) es clock=some (.map ad aa)/\fC kf vf ad (put l a w):=by
 obtain⟨kd,h1,h2⟩:=hk.kd;obtain⟨u,h3⟩:=hk.check a false;obtain⟨r,h4,h5⟩:=II hk (vf:=vf) a 0 hl;have hc:aw.plain (kf a)=true/\oe kd (kf a)=true/\(bY e.P (Instr.checkKey false 10000 kt (kf a))).isSome=true:=⟨hk.plain a,h2 a,by rw[h3];rfl⟩;cases hv:bf l a with
 |none=>
  rw[hv]at h5;simp only at h5;subst h5;refine⟨es++[⟨kf a,vf w,clock⟩],clock+1, ?_, ?_⟩
  . simp only[kT,hu,h1,h4];rw[if_pos hc]
  . have:=hl;simp only[fC]at this⊢;rw[qV hv];simp[this]
 |some v=>
  rw[hv]at h5;obtain⟨j,rfl,x,h6,h7,h8⟩:=h5;have hb:Instr.sameBits 10000 (((es[0+j]?).map (·.key)).getD (kf a)) (kf a)=true:=by
   rw[Nat.zero_add,h6];show Instr.sameBits 10000 x.key (kf a)=true;rw[h7];exact hk.bits a
  refine⟨es.modify (0+j) λx=>{x with key:=kf a,val:=vf w},clock, ?_, ?_⟩
  . simp only[kT,hu,h1,h4];rw[if_pos hc,if_pos hb]
  . rw[Nat.zero_add];exact h8 w
end
theorem aq.inl(he:e.Ok)(ai:e.P.follows .mixedOrders=true)(ae:Idle e){aj:Bool}{f:FuncId}{fn:Func}{c:Code}{args:List DV}{K:cF}{dd:List FuncId}{h:ab}(ao:e.fn f=some fn)(hb:fn.body=some c){n:Nat}(hn:fn.ntmps=n){rs:List ResultVar}(au:fn.results=rs.toArray)
 (hq:RD e aj c ⟨iT args,args.length+(n-args.length),[],h⟩ (jN e rs λd h'=>∀T,K d dd h' T)):aq e aj K dd h (f,args):=by
 intro G ha vs x hr;have key:=c8.body he ai ae ao hb hn au hq G ha vs x hr;have fin:∀v h',(∃d af G',bM G' h' af/\Kp G ha h G' h' af/\Rel (aI h' G') v d/\∀T,K d dd af T)->nv G ha h (λv h' T=>K v dd h' T) v h':=λv h' ⟨d,af,G',r2,r3,r4,r5⟩=>
  ⟨d,af,G',List.range ha.next,r2,r3,r4,λi hi hn=>absurd (List.mem_range.2 hi) hn,r5 _⟩
 cases aj with
 |true=>obtain⟨v,h',r1,r2⟩:=key;exact⟨v,h',r1,fin v h' r2⟩
 |false=>exact fO.mono key fin
end Go.aw
namespace Go.Sp
set_option maxRecDepth 100000
theorem im{aj:Bool}{f:FuncId}{fn:Func}{c:Code}{args:List DV}{K:cF}{dd:List FuncId}{h:ab}(ao:E.fn f=some fn)(hb:fn.body=some c){n:Nat}(hn:fn.ntmps=n){rs:List ResultVar}(au:fn.results=rs.toArray)
 (hq:RD E aj c ⟨iT args,args.length+(n-args.length),[],h⟩ (jN E rs λd h'=>∀T,K d dd h' T)):aq E aj K dd h (f,args):=aq.inl (kN []) lY (uH []) ao hb hn au hq
def zr(s:ByteArray):Value:=.string s
theorem u9:E.under 9=some .string:=by kernel_rfl
theorem IJ(a b:ByteArray):(a==b)=decide (a=b):=by
 have h:∀x y:ByteArray,(x==y)=true↔x=y:=λx y=>by
  obtain⟨x⟩:=x;obtain⟨y⟩:=y;show(x==y)=true↔_;simp
 rw[Bool.eq_iff_iff,h];simp
theorem C2:kP E 9 zr:=by
 refine⟨⟨_,u9,λk=>rfl⟩,λk=>rfl,λk b=>⟨(),by kernel_rfl⟩,λa b=> ?_,λk=>by simp[zr,Instr.sameBits,IJ]⟩;simp only[kI,zr];congr 1;exact IJ a b
theorem C3:E.under 241=some (.map 9 4):=by kernel_rfl
theorem z4:E.zero 4=some (.bool false):=by kernel_rfl
abbrev tx(es:List bA)(l:List (ByteArray×Unit)):Prop:=fC zr (λ_:Unit=>bV true) es l
theorem zt{aj:Bool}{K:cF}{dd:List FuncId}{h:ab}{b r ah:Nat}{wr:Bool}{es:List bA}{clock:Nat}{l:List (ByteArray×Unit)}{s:ByteArray}(hb:h.get b=some (.row [.v (.map (some r))] wr ah))(hm:h.get r=some (.map es clock))(hl:tx es l)(hs:bf l s=none)
 (hk:∀ad aa T,tx ad (put l s ())->K (bV true) dd (h.set r (some (.map ad aa))) T):aq E aj K dd h (165,[sV s,.v (.pointer (some ⟨b,0,none⟩))]):=by
 refine im Xc rfl Tryz.ntmps165 Tryz.results165 ?_;have h1:=tw C2 C3 hl s false z4 rfl hs;obtain⟨ad,aa,h2,h3⟩:=qi C2 C3 hl s clock ();simp(disch:=omega)[go_sem,hb];refine⟨bV false,by simp only[lF,exact,hm];exact h1, ?_⟩;simp(disch:=omega)[go_sem,hb];refine⟨(h.set r (some (.map ad aa)),r),by simp only[jL,exact,hm];exact congrArg (Option.map _) h2, ?_⟩;simp(disch:=omega)[go_sem,hb];intro T;exact hk ad aa T h3
end Go.Sp
end
noncomputable section
namespace Go.Sp
theorem Dn{N:List Br}(h:eG N){n v:Nat}(hn:n<N.length+2)(hv:v<64)(b:Bool):side N n v b<=n/\(b8 N n=v->side N n v b<n):=by
 unfold side;by_cases hl:b8 N n=v
 . rw[if_pos hl];have h2:2<=n:=by
    rcases Nat.lt_or_ge n 2 with h2|h2
    . rw[oU h2]at hl;omega
    . exact h2
   obtain⟨x,hx⟩:∃x,N[n-2]? =some x:=⟨_,List.getElem?_eq_getElem (by omega)⟩;obtain⟨_,h3,h4,_⟩:=h.ok _ _ hx;rw[hx];cases b<;>simp<;>omega
 . rw[if_neg hl];exact⟨Nat.le_refl _,λh=>absurd h hl⟩
theorem Dp{N:List Br}(h:eG N){n v:Nat}(hn:n<N.length+2)(hv:v<64)(hle:v<=b8 N n)(b:Bool)(ρ:dx):tb N (side N n v b) ρ=tb N n (db ρ v b):=by
 unfold side;by_cases hl:b8 N n=v
 . rw[if_pos hl];have h2:2<=n:=by
    rcases Nat.lt_or_ge n 2 with h2|h2
    . rw[oU h2]at hl;omega
    . exact h2
   obtain⟨⟨w,l,u⟩,hx⟩:∃x,N[n-2]? =some x:=⟨_,List.getElem?_eq_getElem (by omega)⟩;obtain⟨_,h3,h4,_,h5,h6⟩:=h.ok _ _ hx;simp only at h3 h4 h5 h6;have hw:w=v:=by rw[mj h2 hx]at hl;exact hl
   subst hw;rw[k9 h h2 hx,xA,hx];cases b
   . simp only[Option.map_some,Option.getD_some,Bool.false_eq_true,if_false];exact(iY h (by omega) h5 ρ false).symm
   . simp only[Option.map_some,Option.getD_some,if_true];exact(iY h (by omega) h6 ρ true).symm
 . rw[if_neg hl];exact(iY h hn (by omega) ρ b).symm
theorem acE(ρ:dx)(v:Nat):db ρ v (ρ v)=ρ:=by
 funext w
 unfold db
 split
 . rename_i h;rw[h]
 . rfl
theorem acF(ρ:dx)(v:Nat)(a b:Bool):db (db ρ v a) v b=db ρ v b:=by
 funext w
 unfold db
 split<;>rfl
theorem acG(ρ:dx){v w:Nat}(h:v≠w)(a b:Bool):db (db ρ v a) w b=db (db ρ w b) v a:=by
 funext u
 unfold db
 split
 . rename_i h1;subst h1;rw[if_neg (λh2=>h h2.symm)]
 . rfl
theorem Jc{N:List Br}{T:dx->Bool}{v r0 r1:Nat}(h0:∀ρ,tb N r0 ρ=T (db ρ v false))(h1:∀ρ,tb N r1 ρ=T (db ρ v true))(ρ:dx):T ρ=if ρ v then tb N r1 ρ else tb N r0 ρ:=by
 rw[h0,h1];have:=acE ρ v;cases hv:ρ v
 . rw[hv]at this;simp[this]
 . rw[hv]at this;simp[this]
theorem Jd{N:List Br}(h:eG N){T:dx->Bool}{v r:Nat}{b:Bool}(hr:r<N.length+2)(hv:v<64)(hT:∀ρ w c,w<v->T (db ρ w c)=T ρ)(h0:∀ρ,tb N r ρ=T (db ρ v b))(zF:∀{n v:Nat},n<N.length+2->v<64->(∀(ρ:dx) w b,w<=v->tb N n (db ρ w b)=tb N n ρ)->v<b8 N n):v<b8 N r:=by
 refine zF hr hv λρ w c hw=> ?_;rw[h0,h0];rcases Nat.lt_or_ge w v with h1|h1
 . rw[acG ρ (by omega),hT _ _ _ h1]
 . have:w=v:=by omega
   subst this;rw[acF]
theorem Dq:∀(k:Nat) (l:List Nat),l.Nodup->(∀x∈l,x<k)->l.length<=k
 |0,l,_,h=>by
  cases l with
  |nil=>simp
  |cons a r=>exact absurd (h a (by simp)) (by omega)
 |k+1,l,hn,h=>by
  have h1:=Dq k (l.erase k) (hn.erase k) λx hx=>by
   have h2:=h x (List.mem_of_mem_erase hx);have h3:x≠k:=λe=>by
    subst e;exact(hn.not_mem_erase) hx
   omega
  have:l.length<=(l.erase k).length+1:=by
   rw[List.length_erase]
   split<;>omega
  omega
def bT(k:Nat):dx:=λv=>k.testBit v
def code(f:dx->Bool):Nat:=(List.range 8).foldl (λa k=>2*a+(if f (bT k)then 1 else 0)) 0
theorem vo(f:dx->Bool):code f=2*(2*(2*(2*(2*(2*(2*(2*0+(if f (bT 0)then 1 else 0))+(if f (bT 1)then 1 else 0))+(if f (bT 2)then 1 else 0))+(if f (bT 3)then 1 else 0))+(if f (bT 4)then 1 else 0))+(if f (bT 5)then 1 else 0))+(if f (bT 6)then 1 else 0))+(if f (bT 7)then 1 else 0):=rfl
theorem eH(b:Bool):(if b then 1 else 0:Nat)<=1:=by cases b<;>simp
theorem acH(f:dx->Bool):code f<256:=by
 rw[vo];have:=eH (f (bT 0));have:=eH (f (bT 1));have:=eH (f (bT 2));have:=eH (f (bT 3));have:=eH (f (bT 4));have:=eH (f (bT 5));have:=eH (f (bT 6));have:=eH (f (bT 7));omega
theorem acI{a b:Bool}(h:(if a then 1 else 0:Nat)=if b then 1 else 0):a=b:=by cases a<;>cases b<;>simp at h⊢
theorem acJ{f g:dx->Bool}(h:code f=code g):∀k,k<8->f (bT k)=g (bT k):=by
 rw[vo,vo]at h;have a0:=eH (f (bT 0));have a1:=eH (f (bT 1));have a2:=eH (f (bT 2));have a3:=eH (f (bT 3));have a4:=eH (f (bT 4));have a5:=eH (f (bT 5));have a6:=eH (f (bT 6));have a7:=eH (f (bT 7));have b0:=eH (g (bT 0));have b1:=eH (g (bT 1));have b2:=eH (g (bT 2));have b3:=eH (g (bT 3));have b4:=eH (g (bT 4));have b5:=eH (g (bT 5));have b6:=eH (g (bT 6));have b7:=eH (g (bT 7));intro k hk;have:k=0\/k=1\/k=2\/k=3\/k=4\/k=5\/k=6\/k=7:=by omega
 rcases this with rfl|rfl|rfl|rfl|rfl|rfl|rfl|rfl<;>exact acI (by omega)
theorem acK(ρ:dx):∃k,k<8/\∀v,v<3->bT k v=ρ v:=by
 refine⟨(if ρ 0 then 1 else 0)+(if ρ 1 then 2 else 0)+(if ρ 2 then 4 else 0), ?_,λv hv=> ?_⟩
 . cases ρ 0<;>cases ρ 1<;>cases ρ 2<;>simp
 . have:v=0\/v=1\/v=2:=by omega
   rcases this with rfl|rfl|rfl<;>cases ρ 0<;>cases ρ 1<;>cases ρ 2<;>rfl
theorem Dr{N:List Br}(h:eG N)(h3:∀x∈N,x.1<3):∀(n:Nat) (ρ aa:dx),n<N.length+2->(∀w,w<3->ρ w=aa w)->tb N n ρ=tb N n aa:=by
 intro n
 induction n using Nat.strongRecOn with
 |_ n ih=>
  intro ρ aa hn ha;by_cases h2:n<2
  . rw[oT h2,oT h2]
  . obtain⟨⟨v,l,u⟩,hx⟩:∃x,N[n-2]? =some x:=⟨_,List.getElem?_eq_getElem (by omega)⟩;obtain⟨_,h4,h5,_⟩:=h.ok _ _ hx;simp only at h4 h5;have hv:v<3:=h3 _ (List.mem_of_getElem? hx);rw[k9 h (by omega) hx,k9 h (by omega) hx,ha v hv,ih u (by omega) ρ aa (by omega) ha,ih l (by omega) ρ aa (by omega) ha]
theorem Ds{N:List Br}(h:eG N)(h3:∀x∈N,x.1<3):N.length<=254:=by
 have:=Dq 256 ((List.range (N.length+2)).map λn=>code (tb N n)) ?_ λx hx=> ?_
 . simp at this;omega
 . show List.Pairwise _ _;rw[List.pairwise_map];refine List.Pairwise.imp_of_mem (λ{n m} hn hm ab he=>ab ?_) (List.nodup_range:(List.range (N.length+2)).Pairwise (·≠·));rw[List.mem_range]at hn hm;refine Dj h (N.length+2) n m (by omega) (by omega) hn hm λρ=> ?_;obtain⟨k,hk,ha⟩:=acK ρ;rw[Dr h h3 n ρ (bT k) hn λw hw=>(ha w hw).symm,Dr h h3 m ρ (bT k) hm λw hw=>(ha w hw).symm];exact acJ he k hk
 . simp only[List.mem_map,List.mem_range]at hx;obtain⟨n,_,rfl⟩:=hx;exact acH _
end Go.Sp
end
noncomputable section
open Go Go.aw Go.Proofs
namespace Go.Sp
set_option maxRecDepth 100000
theorem Je(x:Br):∀(N:List Br) (k:Nat),bf ((N.zipIdx k).map λp=>(p.1,p.2+2)) x=none->x∉N
 |[],_,_=>by simp
 |y::r,k,h=>by
  simp only[List.zipIdx_cons,List.map_cons,bf]at h
  split at h
  . cases h
  . rename_i ab;rw[List.mem_cons,not_or];exact⟨ab,Je x r (k+1) h⟩
theorem Jf(x:Br):∀(N:List Br) (k n:Nat),bf ((N.zipIdx k).map λp=>(p.1,p.2+2)) x=some n->k+2<=n/\N[n-2-k]? =some x
 |[],_,_,h=>by simp[bf]at h
 |y::r,k,n,h=>by
  simp only[List.zipIdx_cons,List.map_cons,bf]at h
  split at h
  . rename_i he;cases h;subst he;refine⟨Nat.le_refl _, ?_⟩;rw[show k+2-2-k=0 by omega];rfl
  . obtain⟨h1,h2⟩:=Jf x r (k+1) n h;refine⟨by omega, ?_⟩;rw[show n-2-k=(n-2-(k+1))+1 by omega];simpa using h2
theorem acL{N:List Br}{x:Br}(h:look N x=none):x∉N:=Je x N 0 h
theorem acM{N:List Br}{x:Br}{n:Nat}(h:look N x=some n):2<=n/\N[n-2]? =some x:=by
 have:=Jf x N 0 n h;simpa using this
theorem Jg{h:aa}{B M i:Nat}{N:List Br}(hb:iq h B M i N)(ok:eG N)(v3:∀x∈N,x.1<3){v l u:Nat}(hv:v<3)(hl:l<N.length+2)(hu:u<N.length+2)(h1:v<b8 N l)(h2:v<b8 N u)(hN:N.length<=10000)(hi:i<h.next):
 ∃r H' i' N',bS E 178 [.pointer (some ⟨B,0,none⟩),.int .i64 v,.int .i64 l,.int .i64 u] h (.int .i64 (r:Nat)) H'/\iq H' B M i' N'/\N<+:N'/\eG N'/\(∀x∈N',x.1<3)/\r<N'.length+2/\
  (∀ρ,tb N' r ρ=if ρ v then tb N u ρ else tb N l ρ)/\Dh B M i h H'/\(i'=i\/h.next<=i')/\i'<H'.next/\(N'≠[]->N=[]->h.next<=i'):=by
 by_cases ab:l=u
 . subst ab;exact⟨l,h,i,N,acs h B v l,hb,List.prefix_refl _,ok,v3,hl,λρ=>by simp,⟨Nat.le_refl _,λ_ _ _ _ _ _ h=>h⟩,.inl rfl,hi,λh1 h2=>absurd h2 h1⟩
 . cases hk:look N (v,l,u)with
   |some n=>
    obtain⟨h3,h4⟩:=acM hk;have h5:=(List.getElem?_eq_some_iff.1 h4).1;exact⟨n,h,i,N,acu hb ab hk,hb,List.prefix_refl _,ok,v3,by omega,λρ=>k9 ok h3 h4 ρ,⟨Nat.le_refl _,λ_ _ _ _ _ _ h=>h⟩,.inl rfl,hi,λh1 h2=>absurd h2 h1⟩
   |none=>
    obtain⟨H',i',e1,e2,e3,e4⟩:=acw hb ab hk hN;have ad:=ok.snoc (by omega) hl hu ab h1 h2 (acL hk);refine⟨N.length+2,H',i',N++[(v,l,u)],e1,e2,List.prefix_append _ _,ad,λx hx=> ?_,by simp,λρ=> ?_,e3,.inr e4, ?_,λ_ _=>e4⟩
    . rw[List.mem_append]at hx;rcases hx with hx|hx
      . exact v3 x hx
      . simp at hx;subst hx;exact hv
    . rw[k9 ad (by omega) (v:=v) (l:=l) (u:=u) (by simp),zE ok (List.prefix_append _ _) hu,zE ok (List.prefix_append _ _) hl]
    . obtain⟨sl,_,h3⟩:=e2.aW;rcases h3 with⟨h3,_⟩|⟨_,_,_,h3,_⟩
      . simp at h3
      . exact h3
end Go.Sp
end

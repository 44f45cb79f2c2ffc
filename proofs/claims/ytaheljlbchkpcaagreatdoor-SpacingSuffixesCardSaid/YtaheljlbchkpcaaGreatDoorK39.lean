/- SpacingSuffixes: parts of its proof (Fa8 Gv1 Gv2). -/
import Derived.Test.YtaheljlbchkpcaaGreatDoorK34
import Derived.Test.YtaheljlbchkpcaaGreatDoorK35
import Derived.Test.YtaheljlbchkpcaaGreatDoorK38
set_option linter.unusedVariables false
set_option linter.unusedSimpArgs false
noncomputable section
open Go Go.aw Go.Proofs
namespace Go.aw
variable {e:Env} {aj:Bool}
theorem aq.still{K:cF}{dd:List FuncId}{h:ab}{f:FuncId}{args au:List DV}(l:List Nat)(hl:∀i∈l,(h.get i).isSome=true)(hz:cP (rowsOf h l) args au)(hc:aq e aj (λv dd h' T=>K v dd h' (T++l)) dd (gb h l) (f,au)):aq e aj K dd h (f,args):=c8.still l hl hz hc
end Go.aw
namespace Go.Sp
set_option maxRecDepth 100000
set_option maxHeartbeats 4000000 in
theorem adX{K:cF}{dd:List FuncId}{h:ab}{F:Nat}(a:An)(ha:a.Ok)(NU:Int->Prop)(aE:tF a NU)(hE:zU a NU)(aS:∃c,a.g.family=aF c/\c<256)(hF:h.get F=some (.row [bV false] true 0))(aB:F<h.next)
 (hk:∀h' T,h.next<=h'.next->(∀i,i<h.next->h'.get i=h.get i)->K (.bg []) dd h' T):
 aq E false K dd h (58,[.ptr a.e 0,.v (.pointer (some ⟨F,0,none⟩))]):=by
 refine c8.frame [F] (by simpa using aB) ?_;obtain⟨N,hN⟩:∃N,h.next=N:=⟨_,rfl⟩;refine im (K:=λv _ aI _=>∀aa:ab,aa.next=aI.next->(∀i,(i∈[F]\/h.next<=i)->aa.get i=aI.get i)->(∀i,i<h.next->i∉[F]->aa.get i=h.get i)->K v dd aa [F]) (dd:=dd) VV rfl Tryz.ntmps58 Tryz.results58 ?_;simp only[fh,hF];rw[hN]at aB⊢;simp(disch:=omega)[go_sem];refine adW a ha NU aE hE aS λh1 T R es clock lo bI hz hb bK bL bj hold=> ?_;simp(disch:=omega)[go_sem]at bK hold;obtain⟨N1,aC⟩:∃N1,h1.next=N1:=⟨_,rfl⟩;rw[aC]at bL;have bO:h1.get F=some (.row [bV false] true 0):=by rw[hold F aB];simp
 simp(disch:=omega)[go_sem];refine⟨_,JE (es:=es) (clock:=clock) tE bj, ?_⟩;simp(disch:=omega)[go_sem,aC];obtain⟨J,hJ⟩:∃J:Nat->DS->Prop,∀j d,J j d↔∃(seen:List Nat) (H:ab),j=left es seen/\N1<H.next/\H.get R=some (.map es clock)/\H.get F=some (.row [bV false] true 0)/\H.get N1=some (.cD (some R) clock seen clock)/\
  d=⟨bQ [(1,.v (.pointer (some ⟨F,0,none⟩))),(7,.v (.pointer (some ⟨N1,0,none⟩)))],18,[],H⟩:=⟨_,λ_ _=>Iff.rfl⟩
 refine cx J es.length ⟨_,aA.bN (l:=[(1,.v (.pointer (some ⟨F,0,none⟩))),(7,.v (.pointer (some ⟨N1,0,none⟩)))]) ?_,(hJ _ _).2 ⟨[],_,(JA es).symm, ?_, ?_, ?_, ?_,rfl⟩⟩ ?_
 . simp(disch:=omega)[go_sem]
 . simp(disch:=omega)[go_sem,aC]
 . simp(disch:=omega)[go_sem,aC,bj]
 . simp(disch:=omega)[go_sem,aC,bO]
 . simp(disch:=omega)[go_sem,aC]
 . intro j2 bR aL;obtain⟨seen,H,bT,bU,f1,f2,f3,rfl⟩:=(hJ _ _).1 aL;clear aL;simp(disch:=omega)[go_sem];refine .inr ⟨rfl,_,by simp(disch:=omega)[go_sem],N1,R,clock,seen,clock,es,clock,rfl,f3,f1,hb.1,Nat.le_refl _,λbW=> ?_,λx hx bX=> ?_⟩
   . simp(disch:=omega)[go_sem];intro aa q1 q2 bY q3;refine hk aa _ (by omega) λi hi=> ?_;by_cases dS:i=F
     . subst dS;rw[hF,q2,f2]
     . exact q3 i (by omega) dS
   . obtain⟨⟨u,c⟩,hp,bk,bl⟩:=bI.mem hx;have bZ:c=0:=hz _ hp;subst bZ;have aO:(aF 0).root=0:=rfl;simp only at bk bl;have cr:=JD hx bX;simp(disch:=omega)[go_sem];refine⟨_,JF (es:=es) (clock:=clock) (r:=N1) (m:=R) (since:=clock) (seen:=seen) (x:=x) (by simp(disch:=omega)[go_sem]) (by simp(disch:=omega)[go_sem,f1]) hb hx, ?_⟩;rw[bk,bl,tB];simp(disch:=omega)[go_sem,fX,Dg.e,f2,aO];refine⟨left es (seen++[x.born]),by omega,_,aA.bN (l:=[(1,.v (.pointer (some ⟨F,0,none⟩))),(7,.v (.pointer (some ⟨N1,0,none⟩)))]) ?_,(hJ _ _).2 ⟨seen++[x.born],_,rfl, ?_, ?_, ?_, ?_,rfl⟩⟩
     all_goals simp(disch:=omega)[go_sem,f1,f2,f3]
     all_goals omega
def tG(H:ab)(B U:Nat)(dH:List Nat)(pv:DV):Prop:=
 (dH=[]/\pv=eN)\/∃R,B<R/\R<U/\pv=.v (.slice (some ⟨R,0,none⟩) dH.length dH.length)/\H.get R=some (.row (dH.map λc=>(aF c).e).flatten true 2)
theorem zV{S:fA}{b ah:Nat}{cs xs:List DV}(h:S b=some (cs,ah))(hz:cP S cs xs):Fz S (.v (.pointer (some ⟨b,0,none⟩))) (.ptr xs 0):=by
 have hl:=hz.length;exact Fz.ptr (o:=0) (off:=0) h (by omega) λi v d h1 h2=>by
  rw[Nat.zero_add]at h2;obtain⟨d',h3,h4⟩:=hz.get i v h2;rw[h1]at h3;cases h3;exact h4
theorem tG.fz{H:ab}{M U:Nat}{dH:List Nat}{pv:DV}{g:ai}(h:tG H M U dH pv)(hM:H.get M=some (.row (g.e++[pv]) true 0)):∃l:List Nat,(∀i∈l,M<=i)/\(∀i∈l,(H.get i).isSome=true)/\Fz (rowsOf H l) (.v (.pointer (some ⟨M,0,none⟩))) (.ptr (An.e ⟨g,dH⟩) 0):=by
 rcases h with⟨rfl,rfl⟩|⟨R,h1,h2,rfl,h4⟩
 . refine⟨[M],by simp,by simp[hM],zV (ah:=0) (hY (by simp) hM) ?_⟩;exact aP.append (cP.refl _) (.cons (.nil (by omega)) .nil)
 . refine⟨[M,R],by simp;omega,by simp[hM,h4],zV (ah:=0) (hY (by simp) hM) ?_⟩;refine aP.append (cP.refl _) (.cons ?_ .nil);exact eO (ah:=2) (hY (by simp) h4) (.inr rfl) (by omega) (by simp) (Nat.le_refl _) (λx hx=>by obtain⟨y,_,rfl⟩:=List.mem_map.1 hx;rfl)
theorem tG.same{H H':ab}{B U U':Nat}{dH:List Nat}{pv:DV}(h:tG H B U dH pv)(hs:∀i,B<i->i<U->H'.get i=H.get i)(hU:U<=U'):tG H' B U' dH pv:=by
 rcases h with h|⟨R,h1,h2,h3,h4⟩
 . exact .inl h
 . exact .inr ⟨R,h1,by omega,h3,by rw[hs R h1 h2,h4]⟩
set_option maxHeartbeats 4000000 in
theorem adY{K:cF}{dd:List FuncId}{h:ab}{F:Nat}(g:ai)(hg:GV g)(NU:Int->Prop)(aE:∀dH,tF ⟨g,dH⟩ NU)(hE:∀dH,zU ⟨g,dH⟩ NU)(hF:h.get F=some (.row [bV false] true 0))(aB:F<h.next)
 (hk:∀h' T,h.next<=h'.next->(∀i,i<h.next->h'.get i=h.get i)->K (iV 0) dd h' T):
 aq E false K dd h (57,[.agg g.e,.fn 58 [] [.v (.pointer (some ⟨F,0,none⟩))]]):=by
 obtain⟨cf,aT,aU,b0⟩:=hg.c9.c9;have av:=aU.1;refine c8.frame [F] (by simpa using aB) ?_;obtain⟨N,hN⟩:∃N,h.next=N:=⟨_,rfl⟩;refine im (K:=λv _ aI _=>∀aa:ab,aa.next=aI.next->(∀i,(i∈[F]\/h.next<=i)->aa.get i=aI.get i)->(∀i,i<h.next->i∉[F]->aa.get i=h.get i)->K v dd aa [F]) (dd:=dd) VU rfl Tryz.ntmps57 Tryz.results57 ?_;simp only[fh,hF];rw[hN]at aB⊢;have aQ:=I9 g hg;simp(disch:=omega)[go_sem,ai.e]at aQ⊢;refine aq.any (aq.mk aQ λM hM=> ?_);simp(disch:=omega)[go_sem]at hM;simp(disch:=omega)[go_sem,ai.e];have cu:=hg.ak.len;obtain⟨I,hI⟩:∃I:Nat->DS->Prop,∀j d,I j d↔∃(k:Nat) (H:ab) (dH:List Nat) (pv:DV),j+k=g.ak.length/\M<H.next/\dH.length=k/\(∀c∈dH,c<256)/\tG H M H.next dH pv/\H.get F=some (.row [bV false] true 0)/\H.get N=some (.row g.e true 0)/\H.get (N+1)=some (.row [iV 0] true 0)/\H.get M=some (.row (g.e++[pv]) true 0)/\
  d=⟨bQ [(1,.fn 58 [] [.v (.pointer (some ⟨F,0,none⟩))]),(2,.v (.pointer (some ⟨N,0,none⟩))),(4,.v (.pointer (some ⟨N+1,0,none⟩))),(6,.v (.pointer (some ⟨M,0,none⟩))),(22,.sl 13 (g.ak.map aR.e)),(23,iV g.ak.length),(24,iV (k:Nat))],72,[91],H⟩:=⟨_,λ_ _=>Iff.rfl⟩
 refine cx I g.ak.length ⟨_,aA.bN (l:=[(1,.fn 58 [] [.v (.pointer (some ⟨F,0,none⟩))]),(2,.v (.pointer (some ⟨N,0,none⟩))),(4,.v (.pointer (some ⟨N+1,0,none⟩))),(6,.v (.pointer (some ⟨M,0,none⟩))),(22,.sl 13 (g.ak.map aR.e)),(23,iV g.ak.length),(24,iV (0:Nat))]) ?_,(hI _ _).2 ⟨0,_,[],eN,rfl, ?_,rfl,λc hc=>(by cases hc),.inl ⟨rfl,rfl⟩, ?_, ?_, ?_, ?_,rfl⟩⟩ ?_
 . simp(disch:=omega)[go_sem]
 . simp(disch:=omega)[go_sem]
 . simp(disch:=omega)[go_sem]
 . simp(disch:=omega)[go_sem,ai.e]
 . simp(disch:=omega)[go_sem]
 . simp(disch:=omega)[go_sem,ai.e]
 . intro j ds bn;obtain⟨k,H,dH,pv,hj,bU,aX,bo,bq,f1,f2,f3,f4,rfl⟩:=(hI _ _).1 bn;clear bn;by_cases b1:k<g.ak.length
   . have ay:(k:Int)<g.ak.length:=by omega
     obtain⟨p,hx⟩:∃p,g.ak[k]? =some p:=⟨_,List.getElem?_eq_getElem b1⟩;have bs:=List.mem_of_getElem? hx;have bt:=hg.ak.ok p bs;have cv:=(hg.size.right p bs).1;obtain⟨cp,bu,aY⟩:=bt.cond;have aZ:=aY.1;have hand:=xG cf cp av aZ;have b2:cf&&&cp<256:=Nat.lt_of_le_of_lt Nat.and_le_left av;have ad:=rM (aj:=true) (aF (cf&&&cp));have b3:g.family.nodes=(aF cf).nodes:=by rw[aT]
     have b5:g.family.root=(aF cf).root:=by rw[aT]
     have b6:p.cond.nodes=(aF cp).nodes:=by rw[bu]
     have b7:p.cond.root=(aF cp).root:=by rw[bu]
     simp only[Dg.e]at hand ad;simp(disch:=omega)[go_sem,ay,hx,-getElem?_pos,f2,aR.e,ai.e,b3,b5,b6,b7];refine aq.any (aq.mk hand λM2 bw=> ?_);simp(disch:=omega)[go_sem]at bw;simp(disch:=omega)[go_sem];refine aq.any (aq.mk ad λM3 bx=> ?_);simp(disch:=omega)[go_sem]at bx;simp(disch:=omega)[go_sem];obtain⟨J,hJ⟩:∃J:Nat->DS->Prop,∀j d,J j d↔∃(m c D:Nat) (H':ab),j+m=p.right.length/\c<256/\H.next<=D/\D<H'.next/\tG H' M D dH pv/\H'.get F=some (.row [bV false] true 0)/\H'.get N=some (.row g.e true 0)/\H'.get (N+1)=some (.row [iV 0] true 0)/\H'.get M=some (.row (g.e++[pv]) true 0)/\H'.get D=some (.row (aF c).e true 0)/\
      d=⟨bQ [(1,.fn 58 [] [.v (.pointer (some ⟨F,0,none⟩))]),(2,.v (.pointer (some ⟨N,0,none⟩))),(4,.v (.pointer (some ⟨N+1,0,none⟩))),(6,.v (.pointer (some ⟨M,0,none⟩))),(22,.sl 13 (g.ak.map aR.e)),(23,iV g.ak.length),(24,iV (k:Nat)),(9,.v (.pointer (some ⟨D,0,none⟩))),(37,.sl 2 (p.right.map Sym.e)),(38,iV p.right.length),(39,iV (m:Nat))],72,[91],H'⟩:=⟨_,λ_ _=>Iff.rfl⟩
     refine cx J p.right.length ⟨_,aA.bN (l:=[(1,.fn 58 [] [.v (.pointer (some ⟨F,0,none⟩))]),(2,.v (.pointer (some ⟨N,0,none⟩))),(4,.v (.pointer (some ⟨N+1,0,none⟩))),(6,.v (.pointer (some ⟨M,0,none⟩))),(22,.sl 13 (g.ak.map aR.e)),(23,iV g.ak.length),(24,iV (k:Nat)),(9,.v (.pointer (some ⟨M3,0,none⟩))),(37,.sl 2 (p.right.map Sym.e)),(38,iV p.right.length),(39,iV (0:Nat))]) ?_,(hJ _ _).2 ⟨0,cf&&&cp,M3,_,rfl,b2,by omega, ?_,bq.same (λi h1 h2=> ?_) (by omega), ?_, ?_, ?_, ?_, ?_,rfl⟩⟩ ?_
     . simp(disch:=omega)[go_sem]
     . simp(disch:=omega)[go_sem]
     . simp(disch:=omega)[go_sem]
     . simp(disch:=omega)[go_sem,f1]
     . simp(disch:=omega)[go_sem,f2]
     . simp(disch:=omega)[go_sem,f3]
     . simp(disch:=omega)[go_sem,f4]
     . simp(disch:=omega)[go_sem,Dg.e]
     . clear hand ad bw bx;intro j2 bR aL;obtain⟨m,c,D,H',bT,hc,bA,cw,az,e1,e2,e3,e4,e5,rfl⟩:=(hJ _ _).1 aL;clear aL;by_cases b8:m<p.right.length
       . have ao:(m:Int)<p.right.length:=by omega
         obtain⟨s,hs⟩:∃s,p.right[m]? =some s:=⟨_,List.getElem?_eq_getElem b8⟩;have bD:=bt.right s (List.mem_of_getElem? hs);cases ht:s.tok with
         |false=>
          simp(disch:=omega)[go_sem,ao,hs,-getElem?_pos,Sym.e,ht,aD];refine⟨j2-1,by omega,_,aA.bN (l:=[(1,.fn 58 [] [.v (.pointer (some ⟨F,0,none⟩))]),(2,.v (.pointer (some ⟨N,0,none⟩))),(4,.v (.pointer (some ⟨N+1,0,none⟩))),(6,.v (.pointer (some ⟨M,0,none⟩))),(22,.sl 13 (g.ak.map aR.e)),(23,iV g.ak.length),(24,iV (k:Nat)),(9,.v (.pointer (some ⟨D,0,none⟩))),(37,.sl 2 (p.right.map Sym.e)),(38,iV p.right.length),(39,iV (m+1:Nat))]) ?_,(hJ _ _).2 ⟨m+1,c,D,_,by omega,hc,bA, ?_,az.same (λi h1 h2=> ?_) (by omega), ?_, ?_, ?_, ?_, ?_,rfl⟩⟩
          all_goals simp(disch:=omega)[go_sem,e1,e2,e3,e4,e5]
          all_goals omega
         |true=>
          rw[rI,ht]at bD;obtain⟨tk,z0,z1,z2⟩:=bD;obtain⟨_,_,⟨ct,bF,bb⟩,_⟩:=hg.ar.ok tk (List.mem_of_getElem? z1);have bf:=bb.1;have ca:s.idx<g.ar.length:=by
           have:=(List.getElem?_eq_some_iff.1 z1).1;omega
          have hand:=xG c ct hc bf;have bh:c&&&ct<256:=Nat.lt_of_le_of_lt Nat.and_le_left hc;have ad:=rM (aj:=true) (aF (c&&&ct));have cb:tk.cond.nodes=(aF ct).nodes:=by rw[bF]
          have cc:tk.cond.root=(aF ct).root:=by rw[bF]
          simp only[Dg.e]at hand ad;simp(disch:=omega)[go_sem,ao,hs,-getElem?_pos,Sym.e,ht,aD];refine ck [aJ 0,ae 0,aJ 2,ae 0,aJ 8,ae 30,ae 62,aJ 126,aN 255,ae 511,ae 511,aN 2047,aN 4095] (by kernel_rfl) 0 rfl ?_;simp(disch:=omega)[go_sem,e5,e2,ai.e,Sym.e,Dg.e,ca,z1,z0,-getElem?_pos,Tok.e,cb,cc]
          repeat refine⟨by omega, ?_⟩
          refine aq.mk hand λM4 cd=> ?_;simp(disch:=omega)[go_sem]at cd;simp(disch:=omega)[go_sem];refine aq.mk ad λM5 cg=> ?_;simp(disch:=omega)[go_sem]at cg;simp(disch:=omega)[go_sem,e5,Dg.e,aD];refine⟨j2-1,by omega,_,aA.bN (l:=[(1,.fn 58 [] [.v (.pointer (some ⟨F,0,none⟩))]),(2,.v (.pointer (some ⟨N,0,none⟩))),(4,.v (.pointer (some ⟨N+1,0,none⟩))),(6,.v (.pointer (some ⟨M,0,none⟩))),(22,.sl 13 (g.ak.map aR.e)),(23,iV g.ak.length),(24,iV (k:Nat)),(9,.v (.pointer (some ⟨D,0,none⟩))),(37,.sl 2 (p.right.map Sym.e)),(38,iV p.right.length),(39,iV (m+1:Nat))]) ?_,(hJ _ _).2 ⟨m+1,c&&&ct,D,_,by omega,bh,bA, ?_,az.same (λi h1 h2=> ?_) (by omega), ?_, ?_, ?_, ?_, ?_,rfl⟩⟩
          all_goals simp(disch:=omega)[go_sem,e1,e2,e3,e4,e5,Dg.e]
          all_goals omega
       . have ao:¬(m:Int)<p.right.length:=by omega
         simp(disch:=omega)[go_sem,ao,aD];refine ck [ae 0,ae 0,ae 2,ae 6,aJ 14,aJ 0,cT 32,aN 126,ae 255,ae 511,aN 1023] (by kernel_rfl) 1 rfl ?_;rcases az with⟨eQ,ch⟩|⟨R,r1,r2,r3,r4⟩
         . subst eQ ch;simp(disch:=omega)[go_sem,e4,ai.e,e5,Dg.e];refine⟨_,s9 _ _ _ _ _ (by omega) (by omega), ?_⟩;simp(disch:=omega)[go_sem,e4,ai.e,aD];refine⟨j-1,by omega,_,aA.bN (l:=[(1,.fn 58 [] [.v (.pointer (some ⟨F,0,none⟩))]),(2,.v (.pointer (some ⟨N,0,none⟩))),(4,.v (.pointer (some ⟨N+1,0,none⟩))),(6,.v (.pointer (some ⟨M,0,none⟩))),(22,.sl 13 (g.ak.map aR.e)),(23,iV g.ak.length),(24,iV (k+1:Nat))]) ?_,(hI _ _).2 ⟨k+1,_,[c],.v (.slice (some ⟨H'.next+1,0,none⟩) 1 1),by omega, ?_,by simp at aX⊢;omega,λx hx=>by simp at hx;subst hx;exact hc,.inr ⟨H'.next+1,by omega, ?_,rfl, ?_⟩, ?_, ?_, ?_, ?_,rfl⟩⟩
           all_goals simp(disch:=omega)[go_sem,e1,e2,e3,e4,ai.e,Dg.e]
           all_goals omega
         . subst r3;simp(disch:=omega)[go_sem,e4,ai.e,e5,Dg.e];have cj:(dH.map λc=>(aF c).e).flatten.length=dH.length*2:=by rw[fQ (k:=2) (λx hx=>by obtain⟨y,_,rfl⟩:=List.mem_map.1 hx;rfl),List.length_map]
           refine⟨_,wP _ _ _ _ _ _ (dH.map λc=>(aF c).e).flatten _ (by simp(disch:=omega)[go_sem,r4]) cj (by omega) (by omega) rfl (by omega), ?_⟩;simp(disch:=omega)[go_sem,e4,ai.e,aD];refine⟨j-1,by omega,_,aA.bN (l:=[(1,.fn 58 [] [.v (.pointer (some ⟨F,0,none⟩))]),(2,.v (.pointer (some ⟨N,0,none⟩))),(4,.v (.pointer (some ⟨N+1,0,none⟩))),(6,.v (.pointer (some ⟨M,0,none⟩))),(22,.sl 13 (g.ak.map aR.e)),(23,iV g.ak.length),(24,iV (k+1:Nat))]) ?_,(hI _ _).2 ⟨k+1,_,dH++[c],.v (.slice (some ⟨H'.next+1,0,none⟩) (dH.length+1) (dH.length+1)),by omega, ?_,by simpa using aX,λx hx=>(by
            rcases List.mem_append.1 hx with h|h
            . exact bo x h
            . simp at h;subst h;exact hc),.inr ⟨H'.next+1,by omega, ?_,by simp, ?_⟩, ?_, ?_, ?_, ?_,rfl⟩⟩
           all_goals simp(disch:=omega)[go_sem,e1,e2,e3,e4,ai.e,Dg.e]
           all_goals omega
   . have ay:¬(k:Int)<g.ak.length:=by omega
     simp(disch:=omega)[go_sem,ay,f4,ai.e];obtain⟨l,bG,cl,hz⟩:=bq.fz (g:=g) f4;refine aq.still l cl (.cons hz (.cons (.refl _) .nil)) ?_;have bH:F∉l:=λh=>by have:=bG F h;omega
     have cm:N+1∉l:=λh=>by have:=bG _ h;omega
     refine adX (F:=F) ⟨g,dH⟩ ⟨aX.trans (by simp;omega),bo,hg.ak.len,hg.size.aH,λp hp=>(hg.ak.ok p hp).left,λp hp=>(hg.size.right p hp).1⟩ NU (aE dH) (hE dH) ⟨cf,aT,av⟩ (by rw[nz,if_neg bH,f1]) (by rw[wN];omega) λH' T hn af=> ?_;rw[wN]at hn af;have e1:H'.get F=some (.row [bV false] true 0):=by rw[af F (by omega),nz,if_neg bH,f1]
     have e3:H'.get (N+1)=some (.row [iV 0] true 0):=by rw[af (N+1) (by omega),nz,if_neg cm,f3]
     simp(disch:=omega)[go_sem,e3];refine⟨λi h=>(by cases h),λg' cn=> ?_, ?_⟩
     . obtain rfl:g'=91:=by simpa using cn
       rfl
     . simp(disch:=omega)[go_sem];intro aa q1 q2 bY q3;refine hk aa _ (by omega) λi hi=> ?_;by_cases dS:i=F
       . subst dS;rw[hF,q2,e1]
       . exact q3 i (by omega) dS
theorem JK(g:ai)(hg:GV g)(NU:Int->Prop)(aE:∀dH,tF ⟨g,dH⟩ NU)(hE:∀dH,zU ⟨g,dH⟩ NU):ax E false 30 [.agg g.e] (iV 0):=by
 refine bc VH rfl Tryz.ntmps30 Tryz.results30 λN=> ?_;simp(disch:=omega)[go_sem,ai.e];refine adY (F:=N+1) g hg NU aE hE (by simp(disch:=omega)[go_sem]) (by simp(disch:=omega)[go_sem]) λh' T hn hs=> ?_;have e1:h'.get (N+1)=some (.row [bV false] true 0):=by rw[hs (N+1) (by simp(disch:=omega)[go_sem])];simp(disch:=omega)[go_sem]
 simp(disch:=omega)[go_sem,e1]
end Go.Sp
end
noncomputable section
open Go Go.aw Go.Proofs
namespace Go.Sp
set_option maxRecDepth 100000
theorem DN:∀p∈eF,zu p.1 p.2:=by
 have h:(eF.all λp=>Nat.blt p.1 256&&(aF p.1).nodes.all λx=>decide (x.1<p.2))=true:=by kernel_rfl
 intro p hp;have h1:=List.all_eq_true.1 h p hp;rw[Bool.and_eq_true]at h1;exact⟨Nat.le_of_ble_eq_true h1.1,λx hx=>of_decide_eq_true (List.all_eq_true.1 h1.2 x hx)⟩
theorem DO(b:Int)(n:Nat)(h0:0<=b)(h1:b<256)(hn:n<=3):lK n (cB bx b n):=by
 obtain⟨c,h2,h3⟩:=IG b n h0 h1 hn;exact⟨c,h2,DN (c,(n:Int)) h3⟩
def Tok.strip(t:Tok):Tok:={t with cond:=aQ true}
structure Ext(g g':ai):Prop where
 conds:g'.conds=g.conds
 aH:g'.aH=g.aH
 ar:∀(i:Nat) t,g.ar[i]? =some t->∃t',g'.ar[i]? =some t'/\t'.cls=t.cls/\t'.lit=t.lit
 ak:∀(i:Nat) p,g.ak[i]? =some p->g'.ak[i]? =some p
theorem Ext.nP{g g':ai}(h:Ext g g'):g.ak.length<=g'.ak.length:=by
 rcases Nat.eq_zero_or_pos g.ak.length with h0|h0
 . omega
 . have h1:=h.ak (g.ak.length-1) _ (List.getElem?_eq_getElem (by omega));have:=(List.getElem?_eq_some_iff.1 h1).1;omega
theorem rI.ext{g g':ai}(h:Ext g g'){s:Sym}(hs:rI g s):rI g' s:=by
 obtain⟨tok,i⟩:=s;cases tok with
 |false=>exact(show 0<=i/\i<g'.aH.length from by rw[h.aH];exact hs)
 |true=>
  obtain⟨t,h0,h1,h2⟩:=(show∃t,0<=i/\g.ar[i.toNat]? =some t/\t.cls=0 from hs);obtain⟨t',h3,h4,_⟩:=h.ar _ t h1;exact(show∃t,0<=i/\g'.ar[i.toNat]? =some t/\t.cls=0 from⟨t',h0,h3,h4.trans h2⟩)
theorem vl.ext{g g':ai}(h:Ext g g'){p:aR}(hp:vl g p):vl g' p:=
 ⟨by rw[h.aH];exact hp.left,λs hs=>(hp.right s hs).ext h,by rw[h.conds];exact hp.cond,hp.fk,hp.aj⟩
theorem vm.ext{g g':ai}(h:Ext g g'){l:dG}(hl:vm g l):vm g' l:=
 ⟨hl.assoc,by rw[h.conds];exact hl.cond,λp hp=>by have:=hl.ak p hp;have:=h.nP;omega⟩
theorem nK.ext{g g':ai}(h:Ext g g'){K:Tok->Prop}(hK:∀t t':Tok,t'.cls=t.cls->t'.lit=t.lit->K t->K t'){l:List Int}(hl:nK g K l):nK g' K l:=
 ⟨hl.ne,hl.len,λn hn=>by
  obtain⟨h0,t,h1,h2⟩:=hl.tok n hn;obtain⟨t',h3,h4,h5⟩:=h.ar _ t h1;exact⟨h0,t',h3,hK t t' h4 h5 h2⟩,hl.up⟩
theorem tC.ext{g g':ai}(h:Ext g g'){f:bj}(hf:tC g f):tC g' f:=by
 obtain⟨p,c,s,p0,hp,c0,hc,a0,hs,rfl⟩:=hf.ex;exact⟨p,c,_,p0,h.ak _ _ hp,c0,h.ak _ _ hc,a0,hs,rfl⟩
theorem tD.ext{g g':ai}(h:Ext g g'){f:bj}(hf:tD g f):tD g' f:=by
 rcases hf with⟨a,b,c,d,e⟩|⟨a,b,c,d,e⟩|⟨a,b,c,d,e,i,j,k⟩|⟨a,b,c,d,e,i,j,k⟩|⟨a,b,c,d,e,i,t,j,k,l,m⟩
 . exact .inl ⟨a,b,c,d,e.ext h⟩
 . exact .inr (.inl ⟨a,b,c,d,e.ext h⟩)
 . exact .inr (.inr (.inl ⟨a,b,c,d,e,i,by rw[h.aH];exact j,k.ext h λ_ _ h1 _ h2=>h1.trans h2⟩))
 . exact .inr (.inr (.inr (.inl ⟨a,b,c,d,e,i,by rw[h.aH];exact j,k.ext h λ_ _ h1 _ h2=>h1.trans h2⟩)))
 . obtain⟨t',h3,h4,h5⟩:=h.ar _ t j;exact .inr (.inr (.inr (.inr ⟨a,b,c,d,e,i,t',h3,h4.trans k,h5.trans l,m.ext h λ_ _ _ h1 h2=>by rw[h1];exact h2⟩)))
structure GI(g:ai)(r m:Nat):Prop where
 room:eg g r
 c9:xy g
 tk:g.ar.map Tok.strip=ar.map Tok.strip
 tc:∀t∈g.ar,lK g.conds.length t.cond
 aH:nI g.aH/\g.start=0
 nP:g.ak.length<=m
 new:nI (g.ak.map (·.name))
 res:∀k,g.ak.length<=k->k<100->jX k∉g.ak.map (·.name)
 ok:∀p∈g.ak,vl g p
 nd:(g.bd.flatMap (·.ak)).Nodup
 qn:∀l∈g.bd,vm g l
 lg:∀f∈g.bp,lK g.conds.length f.cond/\tD g f
theorem GI.ord{g:ai}{r m:Nat}(h:GI g r m){i:Int}(h0:0<=i)(h1:i<9):∃t,g.ar[i.toNat]? =some t/\t.cls=0/\(t.lit=⟨#[]⟩↔i=0):=by
 have hl:=h.room.ar;obtain⟨t,ht⟩:∃t,g.ar[i.toNat]? =some t:=⟨_,List.getElem?_eq_getElem (by omega)⟩;obtain⟨h2,h3⟩:=h.room.ord i.toNat t (by omega) ht;exact⟨t,ht,h2,h3.trans (by omega)⟩
theorem GI.eA{g:ai}{r m:Nat}(h:GI g r m)(f:bj)(hc:lK g.conds.length f.cond)(hf:tD g f):GI (eA g f) (r+1) m:=by
 have he:Ext g (Go.Sp.eA g f):=⟨rfl,rfl,λi t ht=>⟨t,ht,rfl,rfl⟩,λi p hp=>hp⟩;refine⟨h.room.eA f,⟨h.c9.new,h.c9.id,h.c9.len,h.c9.c9⟩,h.tk,h.tc,h.aH,h.nP,h.new,h.res,λp hp=>(h.ok p hp).ext he,h.nd,λl hl=>(h.qn l hl).ext he,λx hx=> ?_⟩;rcases List.mem_append.1 hx with hx|hx
 . exact⟨(h.lg x hx).1,(h.lg x hx).2.ext he⟩
 . obtain rfl:=List.mem_singleton.1 hx;exact⟨hc,hf.ext he⟩
theorem GI.more{g:ai}{r m:Nat}(h:GI g r m):GI g (r+1) m:=⟨h.room.more,h.c9,h.tk,h.tc,h.aH,h.nP,h.new,h.res,h.ok,h.nd,h.qn,h.lg⟩
theorem JL(g:ai)(k:Nat)(d:Dg):Ext g (jU g k d):=by
 refine⟨rfl,rfl,λi t ht=> ?_,λi p hp=>hp⟩;by_cases hi:k=i
 . exact⟨{t with cond:=d},by simp[Go.Sp.jU,List.getElem?_modify,ht,hi],rfl,rfl⟩
 . exact⟨t,by simp[Go.Sp.jU,List.getElem?_modify,ht,hi],rfl,rfl⟩
theorem JM(l:List Tok)(k:Nat)(d:Dg):(l.modify k λx=>{x with cond:=d}).map Tok.strip=l.map Tok.strip:=by
 apply List.ext_getElem?;intro i;rw[List.getElem?_map,List.getElem?_map,List.getElem?_modify];cases l[i]? with
 |none=>rfl
 |some t=>
  by_cases hi:k=i
  . simp[hi,Tok.strip]
  . simp[hi]
theorem mem_modify{l:List Tok}{k:Nat}{d:Dg}{t:Tok}(h:t∈l.modify k λx=>{x with cond:=d}):t∈l\/t.cond=d:=by
 obtain⟨i,hi⟩:=List.getElem?_of_mem h;rw[List.getElem?_modify]at hi;cases hl:l[i]? with
 |none=>rw[hl]at hi;cases hi
 |some x=>
  rw[hl]at hi;by_cases hk:k=i
  . simp[hk]at hi;exact .inr (by rw[<-hi])
  . simp[hk]at hi;exact .inl (hi▸List.mem_of_getElem? hl)
theorem GI.jU{g:ai}{r m:Nat}(h:GI g r m)(k:Nat)(d:Dg)(hc:lK g.conds.length d):GI (jU g k d) (r+1) m:=by
 have he:=JL g k d;refine⟨h.room.jU k d,⟨h.c9.new,h.c9.id,h.c9.len,h.c9.c9⟩, ?_,λt ht=> ?_,h.aH,h.nP,h.new,h.res,λp hp=>(h.ok p hp).ext he,h.nd,λl hl=>(h.qn l hl).ext he,λx hx=>⟨(h.lg x hx).1,(h.lg x hx).2.ext he⟩⟩
 . rw[<-h.tk];exact JM _ _ _
 . rcases mem_modify ht with ht|ht
   . exact h.tc t ht
   . rw[ht];exact hc
theorem JN{g:ai}{p:Int}(h:nH g p=false):p∉g.bd.flatMap (·.ak):=by
 intro hm;obtain⟨l,h1,h2⟩:=List.mem_flatMap.1 hm;have:nH g p=true:=List.any_eq_true.2 ⟨l,h1,decide_eq_true h2⟩;rw[h]at this;cases this
theorem GI.level{g:ai}{r m:Nat}(h:GI g r m)(a b c:Int)(d:Dg)(hc:lK g.conds.length d)(ha:0<=a/\a<g.ak.length)(hb:0<=b/\b<g.ak.length)(av:0<=c/\c<=3):GI (k8 g a b c d) (r+1) m:=by
 have aa:=h.room.level a b c d;unfold k8 at aa⊢
 split
 . exact h.more
 . rename_i ae;rw[if_neg ae]at aa;have ae:nH g a=false:=by simpa using ae
   let L:dG:=⟨if b≠a/\nH g b=false then [a,b]else [a],c,d⟩
   have he:Ext g {g with bd:=g.bd++[L]}:=⟨rfl,rfl,λi t ht=>⟨t,ht,rfl,rfl⟩,λi p hp=>hp⟩;refine⟨aa,⟨h.c9.new,h.c9.id,h.c9.len,h.c9.c9⟩,h.tk,h.tc,h.aH,h.nP,h.new,h.res,λp hp=>(h.ok p hp).ext he, ?_,λl hl=> ?_,λx hx=>⟨(h.lg x hx).1,(h.lg x hx).2.ext he⟩⟩
   . show((g.bd++[L]).flatMap (·.ak)).Nodup;rw[List.flatMap_append,List.nodup_append];have hL:[L].flatMap (·.ak)=if b≠a/\nH g b=false then [a,b]else [a]:=by simp[L]
     rw[hL];have ao:=JN ae;refine⟨h.nd, ?_,λx hx y hy=> ?_⟩
     . split
       . rename_i af;simp;exactλh=>af.1 h.symm
       . simp
     . split at hy
       . rename_i af;have ay:=JN af.2;rintro rfl;simp only[List.mem_cons,List.not_mem_nil,or_false]at hy;rcases hy with rfl|rfl
         . exact ao hx
         . exact ay hx
       . rintro rfl;obtain rfl:=List.mem_singleton.1 hy;exact ao hx
   . rcases List.mem_append.1 hl with hl|hl
     . exact(h.qn l hl).ext he
     . obtain rfl:=List.mem_singleton.1 hl;refine⟨av,hc,λp hp=> ?_⟩;simp only[L]at hp
       split at hp
       . simp only[List.mem_cons,List.not_mem_nil,or_false]at hp;rcases hp with rfl|rfl
         . exact ha
         . exact hb
       . obtain rfl:=List.mem_singleton.1 hp;exact ha
theorem GI.CW{g:ai}{r m:Nat}(h:GI g r m)(x:Rl)(hx:x.Ok):GI (jV (cB bx) g x) (r+1) m:=by
 have hp:=h.room.ak;have hn:=h.room.aH.1;have hc:=DO x.cond g.conds.length hx.cond.1 hx.cond.2 h.room.conds;have ha:0<=x.a%(g.ak.length:Int)/\x.a%(g.ak.length:Int)<g.ak.length:=⟨Int.emod_nonneg _ (by omega),Int.emod_lt_of_pos _ (by omega)⟩;have hb:0<=x.b%(g.ak.length:Int)/\x.b%(g.ak.length:Int)<g.ak.length:=⟨Int.emod_nonneg _ (by omega),Int.emod_lt_of_pos _ (by omega)⟩;have hl:0<=x.a%(g.aH.length:Int)/\x.a%(g.aH.length:Int)<g.aH.length:=⟨Int.emod_nonneg _ (by omega),Int.emod_lt_of_pos _ (by omega)⟩;have az:=hx.kind;unfold jV;simp only
 split
 . exact h.level _ _ _ _ hc ha hb (by omega)
 split
 . rename_i h1 h2
   split
   . rename_i ab;refine h.eA _ hc ?_;have au:tC g ⟨x.kind%8-1,x.a%(g.ak.length:Int),x.c%16,x.b%(g.ak.length:Int),0,0,[],cB bx x.cond g.conds.length⟩:=by
      unfold lJ at ab
      split at ab
      . rename_i P C e1 e2
        split at ab
        . rename_i s e3;simp only[Bool.and_eq_true,Bool.not_eq_true',decide_eq_true_eq]at ab;exact⟨P,C,s,ha.1,e1,hb.1,e2,by simp only;omega,e3,by obtain⟨tok,i⟩:=s;simp only at ab;rw[ab.1,ab.2]⟩
        . cases ab
      . cases ab
     rcases h2 with h2|h2
     . exact .inl ⟨by simp only;omega,rfl,rfl,rfl,au⟩
     . exact .inr (.inl ⟨by simp only;omega,rfl,rfl,rfl,au⟩)
   . exact h.more
 split
 . rename_i h1 h2 h3;refine h.eA _ hc ?_;have ad:nK g (λt=>t.cls=0) [x.b%9]:=⟨by simp,by simp,λn hn=>by
    obtain rfl:=List.mem_singleton.1 hn;obtain⟨t,h4,h5,_⟩:=h.ord (i:=x.b%9) (by omega) (by omega);exact⟨by omega,t,h4,h5⟩,λi a b h4 h5=>by simp at h5⟩
   rcases h3 with h3|h3
   . exact .inr (.inr (.inl ⟨by simp only;omega,rfl,rfl,rfl,rfl,hl.1,hl.2,ad⟩))
   . exact .inr (.inr (.inr (.inl ⟨by simp only;omega,rfl,rfl,rfl,rfl,hl.1,hl.2,ad⟩)))
 split
 . refine h.eA _ hc ?_;obtain⟨t,h4,h5,h6⟩:=h.ord (i:=0) (by omega) (by omega);refine .inr (.inr (.inr (.inr ⟨rfl,rfl,rfl,rfl,rfl,Int.le_refl _,t,h4,h5,h6.2 rfl,by simp,by simp,λn hn=> ?_,λi a b h7 h8=>by simp at h8⟩)));obtain rfl:=List.mem_singleton.1 hn;obtain⟨t,h4,h5,h6⟩:=h.ord (i:=5) (by omega) (by omega);exact⟨by omega,t,h4,λh=>by have:=h6.1 h;omega⟩
 . exact h.jU _ _ hc
end Go.Sp
end
noncomputable section
open Go Go.aw Go.Proofs
namespace Go.Sp
set_option maxRecDepth 100000
theorem JO{l:Int}{r:List Sym}(h:rG l r=true):∃a b,a.tok=true/\b.tok=true/\r=[a,⟨false,l⟩,b]:=by
 unfold rG at h
 split at h
 . rename_i a b c;simp only[Bool.and_eq_true,Bool.not_eq_true',decide_eq_true_eq]at h;obtain⟨⟨⟨h1,h2⟩,h3⟩,h4⟩:=h;refine⟨a,c,h1,h2, ?_⟩;obtain⟨tok,i⟩:=b;simp only at h3 h4;rw[h3,h4]
 . cases h
def zW(r:List Sym)(k:Int):Bool:=match r[k.toNat]? with
 |some x=>x.tok
 |none=>false
theorem JP{r:List Sym}{k:Int}(h:zW r k=true):∃s,r[(k+1-1).toNat]? =some s/\s.tok=true:=by
 rw[show k+1-1=k by omega];unfold zW at h
 split at h
 . rename_i x hx;exact⟨x,hx,h⟩
 . cases h
structure JQ(s:ByteArray)(l:Int)(r:List Sym)(c:Dg)(p:aR):Prop where
 name:p.name=s
 left:p.left=l
 right:p.right=r
 cond:p.cond=c
 fk:-1<=p.fk/\p.fk<=1
 aj:zB p
theorem JR(s:ByteArray)(l:Int)(r:List Sym)(c:Dg)(m:Int)(hr:r.length<=4)(h0:0<=m)(h1:m<256):JQ s l r c (mark s l r c m):=by
 have plain:JQ s l r c (bu s l r c):=⟨rfl,rfl,rfl,rfl,⟨by simp[bu],by simp[bu]⟩,by simp[bu];omega,by simp[bu],by simp[bu],.inl ⟨rfl,rfl⟩,.inl ⟨rfl,rfl⟩,by simp[bu]⟩;have e:mark s l r c m=(if(r.length:Int)=0 then bu s l r c else
  if m%8=1 then{bu s l r c with fk:=1}
  else if m%8=2 then{bu s l r c with fk:=-1}
  else if m%8=3 then{bu s l r c with bracket:=rG l r}
  else if m%8=4 then{bu s l r c with layout:=[⟨1+m/8%4,m/8/4%(r.length:Int),if m/8%4=0 then 0 else(r.length:Int)-1⟩]}
  else if m%8=5 then{bu s l r c with scope:=⟨true,0,0,0,0⟩}
  else if m%8=6 then(if zW r (m/8%(r.length:Int))then{bu s l r c with scope:=⟨false,m/8%(r.length:Int)+1,1+m/8%2,0,0⟩}else bu s l r c)
  else if m%8=7 then(if zW r (m/8%(r.length:Int))then{bu s l r c with scope:=⟨false,0,0,m/8%(r.length:Int)+1,1+m/8%7⟩}else bu s l r c)
  else bu s l r c):=rfl
 rw[e]
 split
 . exact plain
 rename_i hn;have ad:0<(r.length:Int):=by omega
 have k0:0<=m/8%(r.length:Int):=Int.emod_nonneg _ hn;have k1:m/8%(r.length:Int)<r.length:=Int.emod_lt_of_pos _ ad;have k2:0<=m/8/4%(r.length:Int):=Int.emod_nonneg _ hn;have k3:m/8/4%(r.length:Int)<r.length:=Int.emod_lt_of_pos _ ad
 split
 . exact⟨rfl,rfl,rfl,rfl,⟨by simp,by simp⟩,plain.aj.len,plain.aj.lay,plain.aj.rJ,plain.aj.vk,plain.aj.use,by simp[bu]⟩
 split
 . exact⟨rfl,rfl,rfl,rfl,⟨by simp,by simp⟩,plain.aj.len,plain.aj.lay,plain.aj.rJ,plain.aj.vk,plain.aj.use,by simp[bu]⟩
 split
 . exact⟨rfl,rfl,rfl,rfl,plain.fk,plain.aj.len,plain.aj.lay,plain.aj.rJ,plain.aj.vk,plain.aj.use,λhb=>⟨rfl,rfl,rfl,JO hb⟩⟩
 split
 . refine⟨rfl,rfl,rfl,rfl,plain.fk,plain.aj.len,λx hx=> ?_,by simp,plain.aj.vk,plain.aj.use,by simp[bu]⟩;obtain rfl:=List.mem_singleton.1 hx;simp only[IU,bu];refine⟨by omega,by omega,k2,k3, ?_, ?_,λh=> ?_⟩
   . split<;>omega
   . split<;>omega
   . rw[if_pos (by omega)]
 split
 . exact⟨rfl,rfl,rfl,rfl,plain.fk,plain.aj.len,plain.aj.lay,plain.aj.rJ,plain.aj.vk,plain.aj.use,by simp[bu]⟩
 split
 . split
   . rename_i ht;refine⟨rfl,rfl,rfl,rfl,plain.fk,plain.aj.len,plain.aj.lay,plain.aj.rJ,.inr ⟨by simp only;omega,JP ht,by simp only;omega,by simp only;omega⟩,.inl ⟨rfl,rfl⟩,by simp[bu]⟩
   . exact plain
 split
 . split
   . rename_i ht;refine⟨rfl,rfl,rfl,rfl,plain.fk,plain.aj.len,plain.aj.lay,plain.aj.rJ,.inl ⟨rfl,rfl⟩,.inr ⟨by simp only;omega,JP ht,by simp only;omega,by simp only;omega⟩,by simp[bu]⟩
   . exact plain
 . exact plain
theorem adZ:∀i j,i<100->j<100->jX i=jX j->i=j:=by
 have h:((List.range 100).all λi=>(List.range 100).all λj=> !decide (jX i=jX j)||Nat.beq i j)=true:=by kernel_rfl
 intro i j hi hj he;have h1:=List.all_eq_true.1 (List.all_eq_true.1 h i (by simpa using hi)) j (by simpa using hj);rw[decide_eq_true he]at h1;exact Nat.eq_of_beq_eq_true (by simpa using h1)
theorem ad0(k:Nat)(hk:k<100):jX k≠⟨#[]⟩:=by
 have h:((List.range 100).all λi=> !decide (jX i=⟨#[]⟩))=true:=by kernel_rfl
 have h1:=List.all_eq_true.1 h k (by simpa using hk);simpa using h1
theorem GI.line{g:ai}{r m:Nat}(h:GI g r m)(x:Ln)(hx:x.Ok)(known:Bool)(hm:m<90):GI (gy (cB bx) g x known) r (m+1):=by
 have aa:=h.room.line (cB bx) x known;unfold gy at aa⊢;simp only at aa⊢
 split
 . exact⟨h.room,h.c9,h.tk,h.tc,h.aH,by have:=h.nP;omega,h.new,h.res,h.ok,h.nd,h.qn,h.lg⟩
 . rename_i hc;rw[if_neg hc]at aa;have hn:=h.room.aH.1;have hlen:((x.right.take 4).map (jW (g.aH.length:Int))).length<=4:=by rw[List.length_map,List.length_take];omega
   have mk:=JR (jX g.ak.length) (x.left%(g.aH.length:Int)) ((x.right.take 4).map (jW (g.aH.length:Int))) (cB bx x.cond g.conds.length) x.mark hlen hx.mark.1 hx.mark.2;generalize mark (jX g.ak.length) (x.left%(g.aH.length:Int)) ((x.right.take 4).map (jW (g.aH.length:Int))) (cB bx x.cond g.conds.length) x.mark=P at mk aa⊢;have af:=h.nP;have he:Ext g {g with ak:=g.ak++[P]}:=⟨rfl,rfl,λi t ht=>⟨t,ht,rfl,rfl⟩,λi p hp=>by
    show(g.ak++[P])[i]? =some p;rw[List.getElem?_append_left (List.getElem?_eq_some_iff.1 hp).1];exact hp⟩
   refine⟨aa,⟨h.c9.new,h.c9.id,h.c9.len,h.c9.c9⟩,h.tk,h.tc,h.aH,by simp;omega,⟨?_,λs hs=> ?_⟩,λk ab ae hs=> ?_,λp hp=> ?_,h.nd,λl hl=>(h.qn l hl).ext he,λx hx=>⟨(h.lg x hx).1,(h.lg x hx).2.ext he⟩⟩
   . show((g.ak++[P]).map (·.name)).Nodup;rw[List.map_append,List.nodup_append];refine⟨h.new.1,by simp,λa ha b hb=> ?_⟩;simp only[List.map_cons,List.map_nil,List.mem_singleton]at hb;rintro rfl;rw[hb,mk.name]at ha;exact h.res g.ak.length (Nat.le_refl _) (by omega) ha
   . have hs:s∈(g.ak++[P]).map (·.name):=hs;rw[List.map_append,List.mem_append]at hs;rcases hs with hs|hs
     . exact h.new.2 s hs
     . simp only[List.map_cons,List.map_nil,List.mem_singleton]at hs;rw[hs,mk.name];exact ad0 _ (by omega)
   . have hs:jX k∈(g.ak++[P]).map (·.name):=hs;have ab:(g.ak++[P]).length<=k:=ab;rw[List.length_append,List.length_singleton]at ab;rw[List.map_append,List.mem_append]at hs;rcases hs with hs|hs
     . exact h.res k (by omega) ae hs
     . simp only[List.map_cons,List.map_nil,List.mem_singleton]at hs;rw[mk.name]at hs;have:=adZ _ _ ae (by omega) hs;omega
   . rcases List.mem_append.1 hp with hp|hp
     . exact(h.ok p hp).ext he
     . obtain rfl:=List.mem_singleton.1 hp;refine⟨?_,λs hs=> ?_, ?_,mk.fk,mk.aj⟩
       . rw[mk.left];exact⟨Int.emod_nonneg _ (by omega),Int.emod_lt_of_pos _ (by omega)⟩
       . rw[mk.right]at hs;obtain⟨b,hb,rfl⟩:=List.mem_map.1 hs;have ao:=hx.right b (List.mem_of_mem_take hb);unfold jW
         split
         . obtain⟨t,h1,h2,_⟩:=h.ord (i:=b%14) (by omega) (by omega);exact(show∃t,0<=b%14/\g.ar[(b%14).toNat]? =some t/\t.cls=0 from⟨t,by omega,h1,h2⟩)
         . exact(show 0<=(b%14-9)%(g.aH.length:Int)/\(b%14-9)%(g.aH.length:Int)<g.aH.length from⟨Int.emod_nonneg _ (by omega),Int.emod_lt_of_pos _ (by omega)⟩)
       . rw[mk.cond];exact DO _ _ hx.cond.1 hx.cond.2 h.room.conds
theorem GI.lines{r:Nat}(known:Bool):∀(ls:List Ln) {g:ai} {m:Nat},GI g r m->(∀l∈ls,l.Ok)->m+ls.length<90->GI (ls.foldl (λg l=>gy (cB bx) g l known) g) r (m+ls.length)
 |[],_,_,h,_,_=>h
 |l::ls,g,m,h,hl,hm=>by
  simp only[List.length_cons]at hm⊢;have h1:=h.line l (hl l (by simp)) known (by omega);have h2:=GI.lines known ls h1 (λx hx=>hl x (List.mem_cons_of_mem _ hx)) (by omega);rw[show m+(ls.length+1)=m+1+ls.length by omega];exact h2
theorem GI.rules{m:Nat}:∀(ls:List Rl) {g:ai} {r:Nat},GI g r m->(∀l∈ls,l.Ok)->GI (ls.foldl (jV (cB bx)) g) (r+ls.length) m
 |[],_,_,h,_=>h
 |l::ls,g,r,h,hl=>by
  have h1:=h.CW l (hl l (by simp));have h2:=GI.rules ls h1 (λx hx=>hl x (List.mem_cons_of_mem _ hx));simp only[List.length_cons];rw[show r+(ls.length+1)=r+1+ls.length by omega];exact h2
end Go.Sp
end

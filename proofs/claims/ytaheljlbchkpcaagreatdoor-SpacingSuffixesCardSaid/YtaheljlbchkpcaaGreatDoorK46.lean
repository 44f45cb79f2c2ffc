/- SpacingSuffixes: parts of its proof (Sg5 Sg6 Sg7 Sg8 Sg9). -/
import Derived.Test.YtaheljlbchkpcaaGreatDoorK44
import Derived.Test.YtaheljlbchkpcaaGreatDoorK45
set_option linter.unusedVariables false
set_option linter.unusedSimpArgs false
noncomputable section
open Go Go.aw Go.Proofs
namespace Go.aw
variable {e:Env}
theorem fO.plain{f:FuncId}{args:List Value}{h:aa}{v:Value}(hv:aw.plain v=true)(hr:fO e f args h λu h1=>u=v/\Sub h h1):bS e f args h v h:=by
 refine⟨hr.1,λρ w aC hg ha x=>(hr.2 ρ w aC hg ha x).mono ?_⟩;rintro en w' ⟨_,h1,v',b8,⟨rfl,hs⟩,rfl,q1,q2,q3⟩;refine⟨v',ρ,rfl,(oi (ρ:=ρ) hv).back q3.ext q1,⟨x.iw,λi o ho=> ?_,x.sep⟩, ?_⟩
 . obtain⟨pl,h2,h3⟩:=x.obj i o ho;obtain⟨pl',bt,bG⟩:=q2.obj i o (hs.get i o (x.iw i pl h2) ho);rw[q3.ext _ _ h2]at bt;cases bt;exact⟨pl,h2,h3.back q3.ext bG⟩
 . exact⟨Ext.refl _,q3.os,q3.output,q3.size,q3.frozen,q3.kept,λi o pl a b c=>.inl ⟨i,o,pl,a,b,c,rfl⟩,λ_ _ a _=>a,λ_ a b=>absurd a b,λ_ o a _=>⟨o,a⟩,Nat.le_refl _⟩
theorem ax.aj{f:FuncId}{av:List DV}{u:Value}(hu:aw.plain u=true)(hf:ax e false f av (.v u)):ax e true f av (.v u):=by
 intro G h args hG ha;have h1:fO e f args h (ru G h (.v u)):=hf G h args hG ha;have h2:=fO.plain hu (h1.mono λv h' ⟨p1,p2,p3⟩=>⟨p3.cW,p1,λi o hi ho=>by rw[p2 i hi];exact ho⟩);exact⟨u,h,h2,Nat.le_refl _,λ_ _=>rfl,.v u⟩
end Go.aw
namespace Go.Sp
set_option maxRecDepth 100000
structure vJ(g:ai)(c:Nat)(l:Lf):Prop where
 tok:∃t,g.ar[l.tok]? =some t/\t.cls=0/\fR t.cond c=true/\((t.lit≠⟨#[]⟩/\l.text=t.lit)\/(t.lit=⟨#[]⟩/\ax E true 32 [.sl 5 (t.pat.map aY.e),sV l.text] (bV true)))
 size:0<l.text.size/\l.text.size<=4
def fq(g:ai)(c:Nat):List Lf->Option (List Bool×ByteArray)
 |[]=>some ([],⟨#[]⟩)
 |l::L=>match fq g c L with
  |none=>none
  |some (gs,rest)=>if rV g c (l.text++rest) l then some (false::gs,l.text++rest)
   else if rV g c ((l.text++tN)++rest) l&&xT g c rest then some (true::gs,(l.text++tN)++rest)else none
theorem KW{g:ai}{c:Nat}:∀{L:List Lf} (i:Nat),fq g c (L.drop i)=none->fq g c L=none
 |L,0,h=>h
 |[],i+1,h=>h
 |l::L,i+1,h=>by
  have:=KW (L:=L) i h;simp only[fq,this]
def xU:Option (List Bool×ByteArray)->DV
 |some (gs,t)=>.bg [.sl 1 (gs.map λb=>[bV b]),sV t,iV 0]
 |none=>.bg [.sl 1 [],sV ⟨#[]⟩,iV 240]
theorem afG(n:Nat)(gs:List Bool):(List.replicate (n+1) (bV false)++gs.map bV).take n++bV true::(List.replicate (n+1) (bV false)++gs.map bV).drop (n+1)=List.replicate n (bV false)++(true::gs).map bV:=by
 rw[List.take_append_of_le_length (by simp),List.drop_append_of_le_length (by simp)];simp
theorem afH(n:Nat)(gs:List Bool):List.replicate (n+1) (bV false)++gs.map bV=List.replicate n (bV false)++(false::gs).map bV:=by
 rw[List.replicate_succ'];simp
theorem u45:E.under 45=some (.slice 4):=by kernel_rfl
theorem s4:E.size 4=some 1:=by kernel_rfl
theorem b4:E.bytes 4=some 1:=by kernel_rfl
theorem afI(n:Nat):(fu [Value.bool false] (n*1)).map DV.v=List.replicate n (bV false):=by
 simp only[fu,List.map_map,Nat.mul_one];apply List.ext_getElem?;intro i;simp only[List.getElem?_map,List.getElem?_range,List.getElem?_replicate];rcases Nat.lt_or_ge i n with h|h
 . simp[h,Nat.mod_one]
 . simp[Nat.not_lt.2 h]
set_option maxHeartbeats 8000000 in
theorem KX(g:ai)(hg:GV g)(ht:rS g)(ao:ax E true 30 [.agg g.e] (iV 0))(c:Nat)(hc:c<8)(aZ:fS g c=true)(bH:g.conds.length<=3)(L:List Lf)(hL:∀l∈L,vJ g c l)(b9:L.length<=12):
 ax E true 16 [.agg g.e,cV c,.sl 4 (L.map Lf.e)] (xU (fq g c L)):=by
 have bb:ax E true 31 [.agg g.e,cV c] (bV (fS g c)):=Kw g hg bH c hc;rw[aZ]at bb;have bf:=afx g ht c hc;obtain⟨bh,az⟩:∃bh,xU (fq g c L)=bh:=⟨_,rfl⟩;rw[az];obtain⟨RD,aT⟩:∃RD,DV.ptr (iA g c) 0=RD:=⟨_,rfl⟩;rw[aT]at bf;have aE:∀(s:ByteArray) (l:Lf),s.size<=1000000->0<l.text.size->ax E true 35 [RD,cV c,sV s,.agg l.e] (bV (rV g c s l)):=λs l h1 h2=>by rw[<-aT];exact afE g hg ht c hc s (by omega) l h2
 have bk:∀(s:ByteArray),s.size<=1000000->ax E true 36 [RD,sV s] (bV (xT g c s)):=λs h1=>by rw[<-aT];exact afF g ht c s (by omega)
 have bI:di RD=true/\cE RD=[RD]:=by rw[<-aT];exact⟨rfl,rfl⟩
 refine bc GF rfl Tryz.ntmps16 Tryz.results16 λN=> ?_;obtain⟨ge,bl⟩:∃ge,g.e=ge:=⟨_,rfl⟩;have ad:ge=[strs g.conds,.sl 3 (g.family.nodes.map de),iV g.family.root,.sl 7 (g.ar.map Tok.e),strs g.aH,.sl 13 (g.ak.map aR.e),iV g.start,.sl 4 (g.bd.map dG.e),.sl 9 (g.bp.map bj.e)]:=by rw[<-bl];rfl
 rw[bl]at ao bb bf;rw[bl];simp(disch:=omega)[go_sem,ad];rw[<-ad];refine aq.mk ao λM hM=> ?_;simp(disch:=omega)[go_sem]at hM;simp(disch:=omega)[go_sem,ad];rw[<-ad];refine aq.mk bb.any λM2 bK=> ?_;simp(disch:=omega)[go_sem]at bK;simp(disch:=omega)[go_sem];obtain⟨I,hI⟩:∃I:Nat->DS->Prop,∀j d,I j d↔∃(k sz P:Nat),j+k=L.length/\sz<=12+4*k/\N<P/\d=⟨bQ [(1,cV c),(2,.sl 4 (L.map Lf.e)),(3,aO N),(10,iV (sz:Nat)),(34,.sl 4 (L.map Lf.e)),(35,iV (L.length:Nat)),(36,iV (k:Nat))],154,[],cK P [(N,.row ge true 0)]⟩:=⟨_,λ_ _=>Iff.rfl⟩;refine cx I L.length ⟨_,aA.mk (N:=M2) ?_ ?_ ?_,(hI _ _).2 ⟨0,L.length,M2,rfl,by omega,by omega,rfl⟩⟩ ?_
 . simp(disch:=omega)[go_sem]
 . simp(disch:=omega)[go_sem]
 . simp(disch:=omega)[go_sem,ad]
 . intro j ds aF;obtain⟨k,sz,P,hj,ca,hP,rfl⟩:=(hI _ _).1 aF;clear aF;by_cases bn:k<L.length
   . have af:(k:Int)<L.length:=by omega
     obtain⟨l,hl⟩:∃l,L[k]? =some l:=⟨_,List.getElem?_eq_getElem bn⟩;obtain⟨⟨t,t1,t2,t3,t4⟩,s1,s2⟩:=hL l (List.mem_of_getElem? hl);have cb:=(List.getElem?_eq_some_iff.1 t1).1;have bo:¬(g.ar.length:Int)<=l.tok:=by omega
     have bq:¬(l.tok:Int)<0:=by omega
     obtain⟨ct,bL,bs⟩:=ht.cond t (List.mem_of_getElem? t1);have hh:=xQ ct c bs hc;rw[<-bL,t3]at hh;simp only[Dg.e]at hh;simp(disch:=omega)[go_sem,af,hl,-getElem?_pos,Lf.e,ad,bo,bq,t1,Tok.e,t2];rcases t4 with⟨t5,t6⟩|⟨t5,t6⟩
     . rw[t6]at s1 s2;simp(disch:=omega)[go_sem,t5,t6];refine aq.mk hh.any λP2 aU=> ?_;simp(disch:=omega)[go_sem]at aU;simp(disch:=omega)[go_sem,lO,aD];refine⟨j-1,by omega,_,aA.mk (N:=P2) ?_ ?_ ?_,(hI _ _).2 ⟨k+1,sz+t.lit.size,P2,by omega,by omega,by omega,rfl⟩⟩
       . simp(disch:=omega)[go_sem]
       . simp(disch:=omega)[go_sem]
       . simp(disch:=omega)[go_sem,ad]
     . simp(disch:=omega)[go_sem,t5];refine aq.mk t6.any λP1 bN=> ?_;simp(disch:=omega)[go_sem]at bN;simp(disch:=omega)[go_sem,t2];refine aq.mk hh.any λP2 aU=> ?_;simp(disch:=omega)[go_sem]at aU;simp(disch:=omega)[go_sem,lO,aD];refine⟨j-1,by omega,_,aA.mk (N:=P2) ?_ ?_ ?_,(hI _ _).2 ⟨k+1,sz+l.text.size,P2,by omega,by omega,by omega,rfl⟩⟩
       . simp(disch:=omega)[go_sem]
       . simp(disch:=omega)[go_sem]
       . simp(disch:=omega)[go_sem,ad]
   . have af:¬(k:Int)<L.length:=by omega
     simp(disch:=omega)[go_sem,af,show¬(1048576:Int)<sz from by omega,ad];rw[<-ad];refine aq.mk bf.any λM3 bO=> ?_;simp(disch:=omega)[go_sem]at bO;simp(disch:=omega)[go_sem];refine Kg (n:=L.length) u45 s4 Gy b4 rfl (by decide) (by decide) (by simp(disch:=omega)[go_sem]) (by simp(disch:=omega)[go_sem]) (by omega) ?_;have bR:List.map DV.v (fu (Value.bool false).cells.toList (L.length*1))=List.replicate L.length (bV false):=afI L.length;rw[bR];simp(disch:=omega)[go_sem];obtain⟨J,hJ⟩:∃J:Nat->DS->Prop,∀j d,J j d↔∃(k:Nat) (gs:List Bool) (rest:ByteArray) (P:Nat),j+k=L.length/\fq g c (L.drop (L.length-k))=some (gs,rest)/\gs.length=k/\rest.size<=5*k/\M3<P/\
      d=⟨bQ [(1,cV c),(2,.sl 4 (L.map Lf.e)),(15,RD),(16,.v (.slice (some ⟨M3,0,none⟩) L.length L.length)),(17,sV rest),(104,iV (L.length:Nat)),(105,iV (k:Nat))],154,[],cK P [(M3,.row (List.replicate (L.length-k) (bV false)++gs.map bV) true 0)]⟩:=⟨_,λ_ _=>Iff.rfl⟩
     refine cx J L.length ⟨_,aA.mk (N:=M3+1) ?_ ?_ ?_,(hJ _ _).2 ⟨0,[],⟨#[]⟩,M3+1,rfl,by rw[List.drop_eq_nil_of_le (by omega)];rfl,rfl,Nat.le_refl _,by omega,rfl⟩⟩ ?_
     . simp(disch:=omega)[go_sem]
     . simp(disch:=omega)[go_sem]
     . simp(disch:=omega)[go_sem]
     . intro j2 cc bu;obtain⟨k2,gs,rest,P2,cd,aI,aL,cg,aU,rfl⟩:=(hJ _ _).1 bu;clear bu;by_cases bT:k2<L.length
       . have au:(k2:Int)<L.length:=by omega
         obtain⟨i,hi⟩:∃i,L.length-k2=i+1:=⟨L.length-k2-1,by omega⟩;obtain⟨l,hl⟩:∃l,L[i]? =some l:=⟨_,List.getElem?_eq_getElem (by omega)⟩;obtain⟨_,s1,s2⟩:=hL l (List.mem_of_getElem? hl);have bU:L.drop i=l::L.drop (i+1):=by rw[List.drop_eq_getElem_cons (by omega),(List.getElem?_eq_some_iff.1 hl).2]
         have bW:((L.length:Int)-1-k2)=(i:Nat):=by omega
         have bY:¬l.text=⟨#[]⟩:=λh=>by rw[h]at s1;exact absurd s1 (by decide)
         have ab:=congrArg (fq g c) bU;rw[hi]at aI;simp only[fq,aI]at ab;rw[hi];have bw:=aE (l.text++rest) l (by rw[ByteArray.size_append];omega) s1;have bZ:l.text.size+rest.size<=9223372036854775807:=by omega
         simp only[Lf.e]at bw;simp(disch:=omega)[go_sem,au,aD,bW,hl,-getElem?_pos,Lf.e,bY,uP (h:=bZ)];refine aq.mk bw.any λP3 b0=> ?_;simp(disch:=omega)[go_sem]at b0;have aX:i=L.length-(k2+1):=by omega
         cases bx:rV g c (l.text++rest) l with
         |true=>
          rw[bx,if_pos rfl]at ab;simp(disch:=omega)[go_sem,aD];refine⟨j2-1,by omega,_,aA.mk (N:=P3) ?_ ?_ ?_,(hJ _ _).2 ⟨k2+1,false::gs,l.text++rest,P3,by omega,by rw[<-aX];exact ab,by simp[aL],by rw[ByteArray.size_append];omega,by omega,rfl⟩⟩
          . simp(disch:=omega)[go_sem]
          . simp(disch:=omega)[go_sem]
          . rw[<-aX,<-afH];simp(disch:=omega)[go_sem]
         |false=>
          rw[bx,if_neg (by decide)]at ab;have b1:l.text.size+(⟨#[32]⟩:ByteArray).size<=9223372036854775807:=by show l.text.size+1<=_;omega
          have aB:(l.text++(⟨#[32]⟩:ByteArray)).size=l.text.size+1:=by rw[ByteArray.size_append];rfl
          have b2:(l.text++(⟨#[32]⟩:ByteArray)).size+rest.size<=9223372036854775807:=by rw[aB];omega
          have bA:=aE ((l.text++(⟨#[32]⟩:ByteArray))++rest) l (by rw[ByteArray.size_append,aB];omega) s1;have b3:=bk rest (by omega);simp only[Lf.e]at bA;simp(disch:=omega)[go_sem,uP (h:=b1),uP (h:=b2)];refine aq.mk bA.any λP4 b5=> ?_;simp(disch:=omega)[go_sem]at b5;have ay:fq g c (L.drop i)=none->bh=.bg [.sl 1 [],sV ⟨#[]⟩,iV 240]:=λh=>by rw[<-az,KW i h];rfl
          simp only[tN]at ab;cases aN:rV g c ((l.text++(⟨#[32]⟩:ByteArray))++rest) l with
          |false=>
           simp only[aN,Bool.false_and,Bool.false_eq_true,if_false]at ab;have hR:=ay ab;subst hR;simp(disch:=omega)[go_sem]
          |true=>
           simp only[aN,Bool.true_and]at ab;simp(disch:=omega)[go_sem];refine aq.mk b3.any λP5 b6=> ?_;simp(disch:=omega)[go_sem]at b6;cases bD:xT g c rest with
           |false=>
            simp only[bD,Bool.false_eq_true,if_false]at ab;have hR:=ay ab;subst hR;simp(disch:=omega)[go_sem]
           |true=>
            simp only[bD,if_true]at ab;have aQ:=afG i gs;have bF:(List.replicate (i+1) (bV false)++gs.map bV).length=L.length:=by simp[aL];omega
            obtain⟨row,aS⟩:∃row,List.replicate (i+1) (bV false)++gs.map bV=row:=⟨_,rfl⟩;rw[aS]at aQ bF;simp(disch:=omega)[go_sem,aD,aS,aQ,bF,show i+1<=L.length from by omega];refine⟨j2-1,by omega,_,aA.mk (N:=P5) ?_ ?_ ?_,(hJ _ _).2 ⟨k2+1,true::gs,(l.text++(⟨#[32]⟩:ByteArray))++rest,P5,by omega,by rw[<-aX];exact ab,by simp[aL],by rw[ByteArray.size_append,aB];omega,by omega,rfl⟩⟩
            . simp(disch:=omega)[go_sem]
            . simp(disch:=omega)[go_sem]
            . rw[<-aX];simp(disch:=omega)[go_sem]
       . have au:¬(k2:Int)<L.length:=by omega
         simp(disch:=omega)[go_sem,au];obtain rfl:k2=L.length:=by omega
         rw[Nat.sub_self,List.drop_zero]at aI;rw[<-az,aI];have b7:(gs.map λb=>[bV b]).flatten=gs.map bV:=by
          clear aI aL
          induction gs with
          |nil=>rfl
          |cons b l ih=>simp only[List.map_cons,List.flatten_cons,ih];rfl
         refine Fz.ki (.cons ?_ (.cons (.refl _) (.cons (.refl _) .nil)));exact eO (ah:=0) (cN (wr:=true) (by rw[b7];simp(disch:=omega)[go_sem])) (.inl rfl) (by decide) (by simp[aL]) (Nat.le_refl _) (λx hx=>by obtain⟨y,_,rfl⟩:=List.mem_map.1 hx;rfl)
def qw:Option (List Bool×ByteArray)->DV
 |some (gs,_)=>.bg [.sl 1 (gs.map λb=>[bV b]),iV 0]
 |none=>.bg [.sl 1 [],iV 240]
theorem KY(g:ai)(c:Nat)(L:List Lf)(hs:ax E true 16 [.agg g.e,cV c,.sl 4 (L.map Lf.e)] (xU (fq g c L))):ax E true 6 [.agg g.e,cV c,.sl 4 (L.map Lf.e)] (qw (fq g c L)):=by
 refine bc GD rfl Tryz.ntmps6 Tryz.results6 λN=> ?_;simp only[ai.e]at hs⊢;simp(disch:=omega)[go_sem];refine aq.mk hs λM hM=> ?_;simp(disch:=omega)[go_sem]at hM;cases h:fq g c L with
 |none=>simp(disch:=omega)[go_sem,xU,qw]
 |some r=>
  obtain⟨gs,t⟩:=r;simp(disch:=omega)[go_sem,xU,qw]
abbrev cC(l:List Bool):DV:=.sl 1 (l.map λb=>[bV b])
theorem afJ(b:Bool):cS E .neq 4 (.tmp 20) (.tmp 24) (.bool b) (.bool b)=some (.bool false):=by cases b<;>kernel_rfl
theorem vK(l:List Bool)(hl:l.length<=100000):ax E true 7 [cC l,cC l] (bV true):=by
 refine bc Vr rfl Tryz.ntmps7 Tryz.results7 λN=> ?_;simp(disch:=omega)[go_sem];obtain⟨I,hI⟩:∃I:Nat->DS->Prop,∀j d,I j d↔∃(k P:Nat),j+k=l.length/\d=⟨bQ [(0,cC l),(1,cC l),(5,iV (k:Nat))],26,[],cK P []⟩:=⟨_,λ_ _=>Iff.rfl⟩;refine cx I l.length ⟨_,aA.mk (N:=N) ?_ ?_ ?_,(hI _ _).2 ⟨0,N,rfl,rfl⟩⟩ ?_
 . simp(disch:=omega)[go_sem]
 . simp(disch:=omega)[go_sem]
 . simp(disch:=omega)[go_sem]
 . intro j ds aF;obtain⟨k,P,hj,rfl⟩:=(hI _ _).1 aF;clear aF;by_cases bn:k<l.length
   . have af:(k:Int)<l.length:=by omega
     obtain⟨b,hb⟩:∃b,l[k]? =some b:=⟨_,List.getElem?_eq_getElem bn⟩;simp(disch:=omega)[go_sem,af];refine ck [ae 0,ae 0,ae 3,aJ 7,ae 0,ae 0,ae 48,aJ 112,ae 255] (by kernel_rfl) 0 rfl ?_;simp(disch:=omega)[go_sem,hb,-getElem?_pos,afJ,aD];refine⟨j-1,by omega,_,aA.mk (N:=P) ?_ ?_ ?_,(hI _ _).2 ⟨k+1,P,by omega,rfl⟩⟩
     . simp(disch:=omega)[go_sem]
     . simp(disch:=omega)[go_sem]
     . simp(disch:=omega)[go_sem]
   . have af:¬(k:Int)<l.length:=by omega
     simp(disch:=omega)[go_sem,af]
end Go.Sp
end
noncomputable section
open Go Go.aw Go.Proofs
namespace Go.Sp
set_option maxRecDepth 100000
def KZ:Tok:=⟨⟨#[98,108,97,110,107]⟩,1,⟨#[32]⟩,[],⟨#[]⟩,aQ true⟩
def dK(bare:Bool):ai:=⟨[],aQ true,[iX,gN ⟨#[43]⟩,gN ⟨#[43,43]⟩,gN ⟨#[105,102]⟩]++(if bare then []else [KZ]),[⟨#[83]⟩],[],0,[],[]⟩
theorem K0:∀b∈[false,true],ax E true 8 [bV b] (.agg (dK b).e):=bO (by kernel_rfl)
theorem afK(b:Bool):∀t∈(dK b).ar,mm t:=by
 have hb:mm KZ:=⟨⟨by decide,by decide⟩,.inl ⟨by decide,rfl,rfl⟩⟩;have ab:=Km (aQ true) iX (by simp[ml,ar]);intro t ht;simp only[dK,List.mem_append,List.mem_cons,List.not_mem_nil,or_false]at ht;rcases ht with(rfl|rfl|rfl|rfl)|ht
 . exact ab
 . exact xO _ (by decide)
 . exact xO _ (by decide)
 . exact xO _ (by decide)
 . split at ht
   . cases ht
   . obtain rfl:=List.mem_singleton.1 ht;exact hb
theorem K2(b:Bool):∀t∈(dK b).ar,t.cond=aQ true:=by
 intro t ht;simp only[dK,List.mem_append,List.mem_cons,List.not_mem_nil,or_false]at ht;rcases ht with(rfl|rfl|rfl|rfl)|ht
 . rfl
 . rfl
 . rfl
 . rfl
 . split at ht
   . cases ht
   . obtain rfl:=List.mem_singleton.1 ht;rfl
theorem Ei(b:Bool):GV (dK b):=by
 have aa:=vB 0 (by decide);obtain⟨c0,c1,c2⟩:=aa;have hn:nI ((dK b).ar.map (·.name)):=by
  have h:([false,true].all λb=>decide (((dK b).ar.map (·.name)).Nodup)&&((dK b).ar.map (·.name)).all λs=> !decide (s=⟨#[]⟩))=true:=by kernel_rfl
  have h2:=List.all_eq_true.1 h b (by cases b<;>simp);rw[Bool.and_eq_true,decide_eq_true_eq]at h2;exact⟨h2.1,λs hs=>by simpa using List.all_eq_true.1 h2.2 s hs⟩
 refine⟨⟨by cases b<;>decide,by cases b<;>decide,by cases b<;>decide,by cases b<;>decide,by cases b<;>decide,by cases b<;>decide,λp hp=>by cases hp⟩,⟨⟨List.nodup_nil,λs hs=>by cases hs⟩,λs hs=>(by cases hs),by cases b<;>decide,c0,c1,c2,by show(aQ true).root≠0;decide⟩,⟨hn,by cases b<;>decide,λt ht=> ?_⟩,
  ⟨⟨by show [(⟨#[83]⟩:ByteArray)].Nodup;simp,λs hs=>by obtain rfl:=List.mem_singleton.1 hs;decide⟩,Int.le_refl 0,by show(0:Int)<1;decide⟩,⟨⟨List.nodup_nil,λs hs=>(by cases hs)⟩,by cases b<;>decide,λp hp=>(by cases hp)⟩,⟨List.nodup_nil,by cases b<;>decide,λl hl=>(by cases hl),λl hl=>(by cases hl)⟩,⟨by cases b<;>decide,λf hf=>by cases hf⟩⟩
 have q:=afK b t ht;exact⟨q.cls.1,q.cls.2,⟨c0,(K2 b t ht).trans c1,c2⟩,q.k⟩
theorem K3(b:Bool):ax E true 30 [.agg (dK b).e] (iV 0):=
 ax.aj (by rfl) (JK (dK b) (Ei b) (λ_=>True) (λ_ p hp=>by cases hp) λ_ p hp=>by cases hp)
theorem afL(b:Bool):rS (dK b):=by
 refine⟨λt ht h=>⟨ir,gz 0 ir rfl, ?_⟩,by cases b<;>decide,λt ht=>⟨255,(K2 b t ht).trans xu.1.symm,by decide⟩⟩;simp only[dK,List.mem_append,List.mem_cons,List.not_mem_nil,or_false]at ht;rcases ht with(rfl|rfl|rfl|rfl)|ht
 . rfl
 . exact absurd h (by decide)
 . exact absurd h (by decide)
 . exact absurd h (by decide)
 . split at ht
   . cases ht
   . obtain rfl:=List.mem_singleton.1 ht;exact absurd h (by decide)
def lX:Lf:=⟨0,⟨#[120]⟩⟩
def lP:Lf:=⟨1,⟨#[43]⟩⟩
def Ak:Lf:=⟨2,⟨#[43,43]⟩⟩
def Al:Lf:=⟨0,⟨#[105,102]⟩⟩
theorem afM(b:Bool):vJ (dK b) 0 lX/\vJ (dK b) 0 lP/\vJ (dK b) 0 Ak/\vJ (dK b) 0 Al:=by
 have hi:fR (aQ true) 0=true:=by kernel_rfl
 have m1:=Ed _ (List.mem_of_getElem? (l:=nU) (i:=0) rfl);have m2:=Ed _ (List.mem_of_getElem? (l:=nU) (i:=1) rfl);refine⟨⟨⟨iX,rfl,rfl,hi,.inr ⟨rfl,m1⟩⟩,by decide⟩,⟨⟨gN ⟨#[43]⟩,rfl,rfl,hi,.inl ⟨by decide,rfl⟩⟩,by decide⟩,⟨⟨gN ⟨#[43,43]⟩,rfl,rfl,hi,.inl ⟨by decide,rfl⟩⟩,by decide⟩,⟨⟨iX,rfl,rfl,hi,.inr ⟨rfl,m2⟩⟩,by decide⟩⟩
def vL:List (List Lf×List Bool):=[([lX,lP,lX],[false,false,false]),([lX,lX],[true,false]),([lP,lP,lX],[true,false,false]),([Ak,lX],[false,false]),([Al],[false])]
theorem afN:∀q∈vL,∃t,fq (dK false) 0 q.1=some (q.2,t):=by
 have h:(vL.all λq=>match fq (dK false) 0 q.1 with|some (l,_)=>decide (l=q.2)|none=>false)=true:=by kernel_rfl
 intro q hq;have h2:=List.all_eq_true.1 h q hq;cases hs:fq (dK false) 0 q.1 with
 |none=>rw[hs]at h2;cases h2
 |some r=>
  obtain⟨l,t⟩:=r;rw[hs]at h2;exact⟨t,by rw[of_decide_eq_true h2]⟩
theorem afO:fq (dK true) 0 [lX,lX]=none:=by
 have h:(match fq (dK true) 0 [lX,lX]with|some _=>false|none=>true)=true:=by kernel_rfl
 cases hs:fq (dK true) 0 [lX,lX]with
 |none=>rfl
 |some r=>rw[hs]at h;cases h
theorem K4(b:Bool)(L:List Lf)(hL:∀l∈L,l=lX\/l=lP\/l=Ak\/l=Al)(hl:L.length<=12):ax E true 6 [.agg (dK b).e,cV 0,.sl 4 (L.map Lf.e)] (qw (fq (dK b) 0 L)):=by
 obtain⟨a1,a2,a3,a4⟩:=afM b;have hh:fS (dK b) 0=true:=by
  have h:([false,true].all λb=>fS (dK b) 0)=true:=by kernel_rfl
  exact List.all_eq_true.1 h b (by cases b<;>simp)
 refine KY _ _ _ (KX (dK b) (Ei b) (afL b) (K3 b) 0 (by decide) hh (by cases b<;>decide) L (λl hl=> ?_) hl);rcases hL l hl with rfl|rfl|rfl|rfl<;>assumption
theorem afP(q:List Lf×List Bool)(hq:q∈vL):ax E true 6 [.agg (dK false).e,cV 0,.sl 4 (q.1.map Lf.e)] (.bg [cC q.2,iV 0]):=by
 obtain⟨t,ht⟩:=afN q hq;have:=K4 false q.1 (by
  simp only[vL,List.mem_cons,List.not_mem_nil,or_false]at hq;rcases hq with rfl|rfl|rfl|rfl|rfl<;>simp) (by
  simp only[vL,List.mem_cons,List.not_mem_nil,or_false]at hq;rcases hq with rfl|rfl|rfl|rfl|rfl<;>simp)
 rw[ht]at this;exact this
theorem xV(k:Nat)(s:ByteArray):ax E true 9 [iV (k:Nat),sV s] (.agg (Lf.e ⟨k,s⟩)):=by
 refine bc Vs rfl Tryz.ntmps9 Tryz.results9 λN=> ?_;simp(disch:=omega)[go_sem,Lf.e]
end Go.Sp
end
noncomputable section
open Go Go.aw Go.Proofs
namespace Go.Sp
set_option maxRecDepth 100000
def vM:Lf:=⟨0,⟨#[43]⟩⟩
theorem afQ:ax E true 32 [.sl 5 (ic.map aY.e),sV ⟨#[43]⟩] (bV false):=by
 have h:=Af ir (gz 0 ir rfl) ⟨#[43]⟩ (by decide);have h2:tM ir ⟨#[43]⟩=false:=by kernel_rfl
 rw[h2]at h;exact h
set_option maxHeartbeats 4000000 in
theorem afR:ax E true 16 [.agg (dK false).e,cV 0,.sl 4 ([vM].map Lf.e)] (.bg [.sl 1 [],sV ⟨#[]⟩,iV 91]):=by
 have aa:=K3 false;have hh:fS (dK false) 0=true:=by kernel_rfl
 have ad:ax E true 31 [.agg (dK false).e,cV 0] (bV (fS (dK false) 0)):=Kw (dK false) (Ei false) (by decide) 0 (by decide);rw[hh]at ad;obtain⟨g,hg⟩:∃g,dK false=g:=⟨_,rfl⟩;have t1:g.ar[0]? =some iX:=by rw[<-hg];rfl
 have ao:¬g.ar=[]:=by rw[<-hg];intro h;cases h
 rw[hg]at aa ad⊢;obtain⟨L,hL⟩:∃L,[vM]=L:=⟨_,rfl⟩;have au:L.length=1:=by rw[<-hL];rfl
 have av:L[0]? =some vM:=by rw[<-hL];rfl
 rw[hL];refine bc GF rfl Tryz.ntmps16 Tryz.results16 λN=> ?_;obtain⟨ge,ae⟩:∃ge,g.e=ge:=⟨_,rfl⟩;have ab:ge=[strs g.conds,.sl 3 (g.family.nodes.map de),iV g.family.root,.sl 7 (g.ar.map Tok.e),strs g.aH,.sl 13 (g.ak.map aR.e),iV g.start,.sl 4 (g.bd.map dG.e),.sl 9 (g.bp.map bj.e)]:=by rw[<-ae];rfl
 rw[ae]at aa ad;rw[ae];simp(disch:=omega)[go_sem,ab];rw[<-ab];refine aq.mk aa λM hM=> ?_;simp(disch:=omega)[go_sem]at hM;simp(disch:=omega)[go_sem,ab];rw[<-ab];refine aq.mk ad.any λM2 ay=> ?_;simp(disch:=omega)[go_sem]at ay;simp(disch:=omega)[go_sem];obtain⟨I,hI⟩:∃I:Nat->DS->Prop,∀j d,I j d↔N<M2/\d=⟨bQ [(1,cV 0),(2,.sl 4 (L.map Lf.e)),(3,aO N),(10,iV (L.length:Nat)),(34,.sl 4 (L.map Lf.e)),(35,iV (L.length:Nat)),(36,iV 0)],154,[],cK M2 [(N,.row ge true 0)]⟩:=⟨_,λ_ _=>Iff.rfl⟩;refine cx I 1 ⟨_,aA.mk (N:=M2) ?_ ?_ ?_,(hI _ _).2 ⟨by omega,rfl⟩⟩ ?_
 . simp(disch:=omega)[go_sem]
 . simp(disch:=omega)[go_sem]
 . simp(disch:=omega)[go_sem,ab]
 . intro j ds af;obtain⟨hN,rfl⟩:=(hI _ _).1 af;clear af;have hb:=afQ;simp(disch:=omega)[go_sem,au,av,-getElem?_pos,vM,Lf.e,ab,ao,t1,Tok.e,iX];refine aq.mk hb.any λP1 az=> ?_;simp(disch:=omega)[go_sem]at az;have hd:=xQ 255 0 (by decide) (by decide);rw[xu.1,show fR (aQ true) 0=true from by kernel_rfl]at hd;simp only[Dg.e]at hd;simp(disch:=omega)[go_sem];refine aq.mk hd.any λP2 aB=> ?_;simp(disch:=omega)[go_sem]at aB;simp(disch:=omega)[go_sem]
theorem afS:ax E true 6 [.agg (dK false).e,cV 0,.sl 4 ([vM].map Lf.e)] (.bg [.sl 1 [],iV 91]):=by
 have hs:=afR;refine bc GD rfl Tryz.ntmps6 Tryz.results6 λN=> ?_;simp only[ai.e]at hs⊢;simp(disch:=omega)[go_sem];refine aq.mk hs λM hM=> ?_;simp(disch:=omega)[go_sem]at hM;simp(disch:=omega)[go_sem]
theorem afT:ax E true 6 [.agg (dK true).e,cV 0,.sl 4 ([lX,lX].map Lf.e)] (.bg [.sl 1 [],iV 240]):=by
 have h:=K4 true [lX,lX] (by simp) (by decide);rw[afO]at h;exact h
end Go.Sp
end
noncomputable section
open Go Go.aw Go.Proofs
namespace Go.Sp
set_option maxRecDepth 100000
theorem xW(i:Nat){q:List Lf×List Bool}(h:vL[i]? =some q):ax E true 6 [.agg (dK false).e,cV 0,.sl 4 (q.1.map Lf.e)] (.bg [cC q.2,iV 0]):=afP q (List.mem_of_getElem? h)
def tP(ge:List DV)(l:List (Nat×DV))(d:DS):Prop:=∃M0 M1 M2 H,H.get M0=some (.row ge true 0)/\H.get M1=some (.row [iV (-1),iV 0,sV ⟨#[120]⟩,.sl 1 []] true 0)/\H.get M2=some (.row [iV (-1),iV 1,sV ⟨#[43]⟩,.sl 1 []] true 0)/\M0<H.next/\M1<H.next/\M2<H.next/\d=⟨bQ ((1,aO M0)::(2,aO M1)::(3,aO M2)::l),130,[],H⟩
set_option maxHeartbeats 8000000 in
theorem afU:ax E true 4 [] (bV true):=by
 have ab:=K0 false (by simp);have ad:=K0 true (by simp);have l0:ax E true 9 [iV 0,sV ⟨#[120]⟩] (.agg [iV (-1),iV 0,sV ⟨#[120]⟩,.sl 1 []]):=xV 0 ⟨#[120]⟩;have l1:ax E true 9 [iV 1,sV ⟨#[43]⟩] (.agg [iV (-1),iV 1,sV ⟨#[43]⟩,.sl 1 []]):=xV 1 ⟨#[43]⟩;have l2:ax E true 9 [iV 2,sV ⟨#[43,43]⟩] (.agg [iV (-1),iV 2,sV ⟨#[43,43]⟩,.sl 1 []]):=xV 2 ⟨#[43,43]⟩;have l3:ax E true 9 [iV 0,sV ⟨#[105,102]⟩] (.agg [iV (-1),iV 0,sV ⟨#[105,102]⟩,.sl 1 []]):=xV 0 ⟨#[105,102]⟩;have l4:ax E true 9 [iV 0,sV ⟨#[43]⟩] (.agg [iV (-1),iV 0,sV ⟨#[43]⟩,.sl 1 []]):=xV 0 ⟨#[43]⟩;have g0:=xW 0 rfl;have g1:=xW 1 rfl;have g2:=xW 2 rfl;have g3:=xW 3 rfl;have g4:=xW 4 rfl;have g5:=afT;have g6:=afS;simp only[List.map_cons,List.map_nil,Lf.e,lX,lP,Ak,Al,vM]at g0 g1 g2 g3 g4 g5 g6;obtain⟨G,hG⟩:∃G,dK false=G:=⟨_,rfl⟩;obtain⟨G1,ao⟩:∃G,dK true=G:=⟨_,rfl⟩;rw[hG]at ab g0 g1 g2 g3 g4 g6;rw[ao]at ad g5;obtain⟨ge,ai⟩:∃ge,G.e=ge:=⟨_,rfl⟩;have aa:ge=[strs G.conds,.sl 3 (G.family.nodes.map de),iV G.family.root,.sl 7 (G.ar.map Tok.e),strs G.aH,.sl 13 (G.ak.map aR.e),iV G.start,.sl 4 (G.bd.map dG.e),.sl 9 (G.bp.map bj.e)]:=by rw[<-ai];rfl
 obtain⟨az,af⟩:∃ge,G1.e=ge:=⟨_,rfl⟩;rw[ai]at ab g0 g1 g2 g3 g4 g6;rw[af]at ad g5;refine xr Vp rfl Tryz.ntmps4 Tryz.results4 λN=> ?_;refine gk ?_;simp(disch:=omega)[go_sem];refine gk ?_;simp(disch:=omega)[go_sem];refine aq.mk ab λM0 au=> ?_;simp(disch:=omega)[go_sem]at au;simp(disch:=omega)[go_sem,aa];rw[<-aa];refine gk ?_;simp(disch:=omega)[go_sem];refine aq.mk l0 λM1 av=> ?_;simp(disch:=omega)[go_sem]at av;simp(disch:=omega)[go_sem];refine gk ?_;simp(disch:=omega)[go_sem];refine aq.mk l1 λM2 ay=> ?_;simp(disch:=omega)[go_sem]at ay;simp(disch:=omega)[go_sem];refine jx (tP ge [(4,cC [false,false,false]),(5,iV 0)]) ?_ ?_
 . simp(disch:=omega)[go_sem,aa];rw[<-aa];refine aq.fz g0 [M2+1] ?_ ?_ λQ hQ=> ?_
   . simp(disch:=omega)[go_sem]
   . simp(disch:=omega)[go_sem,aa];exact⟨.refl _,eO (hY (wr:=true) (ah:=0) (by simp) (by simp(disch:=omega)[go_sem];try rfl)) (.inl rfl) (by decide) (by simp) (by simp) (by simp)⟩
   simp(disch:=omega)[go_sem]at hQ;simp(disch:=omega)[go_sem,aa];rw[<-aa];refine⟨_,aA.bN (l:=[(1,aO M0),(2,aO M1),(3,aO M2),(4,cC [false,false,false]),(5,iV 0)]) ?_,M0,M1,M2,_, ?_, ?_, ?_, ?_, ?_, ?_,rfl⟩
   . simp(disch:=omega)[go_sem]
   . simp(disch:=omega)[go_sem,aa]
   . simp(disch:=omega)[go_sem]
   . simp(disch:=omega)[go_sem]
   . simp(disch:=omega)[go_sem];try omega
   . simp(disch:=omega)[go_sem];try omega
   . simp(disch:=omega)[go_sem];try omega
 rintro d ⟨M0,M1,M2,H,m0,m1,m2,h1,h2,h3,rfl⟩;rw[aa]at m0;refine jx (tP ge [(4,cC [false,false,false]),(5,iV 0),(6,cC [true,false]),(7,iV 0)]) ?_ ?_
 . simp(disch:=omega)[go_sem,m0,m1,m2];rw[<-aa];refine aq.fz g1 [H.next] ?_ ?_ λQ hQ=> ?_
   . simp(disch:=omega)[go_sem]
   . simp(disch:=omega)[go_sem,aa,m0,m1,m2];exact⟨.refl _,eO (hY (wr:=true) (ah:=0) (by simp) (by simp(disch:=omega)[go_sem];try rfl)) (.inl rfl) (by decide) (by simp) (by simp) (by simp)⟩
   simp(disch:=omega)[go_sem]at hQ;simp(disch:=omega)[go_sem,aa,m0,m1,m2];rw[<-aa];refine⟨_,aA.bN (l:=[(1,aO M0),(2,aO M1),(3,aO M2),(4,cC [false,false,false]),(5,iV 0),(6,cC [true,false]),(7,iV 0)]) ?_,M0,M1,M2,_, ?_, ?_, ?_, ?_, ?_, ?_,rfl⟩
   . simp(disch:=omega)[go_sem]
   . simp(disch:=omega)[go_sem,aa,m0,m1,m2]
   . simp(disch:=omega)[go_sem,m0,m1,m2]
   . simp(disch:=omega)[go_sem,m0,m1,m2]
   . simp(disch:=omega)[go_sem];try omega
   . simp(disch:=omega)[go_sem];try omega
   . simp(disch:=omega)[go_sem];try omega
 rintro d ⟨M0,M1,M2,H,m0,m1,m2,h1,h2,h3,rfl⟩;rw[aa]at m0;refine jx (tP ge [(4,cC [false,false,false]),(5,iV 0),(6,cC [true,false]),(7,iV 0),(8,cC [true,false,false]),(9,iV 0)]) ?_ ?_
 . simp(disch:=omega)[go_sem,m0,m1,m2];rw[<-aa];refine aq.fz g2 [H.next] ?_ ?_ λQ hQ=> ?_
   . simp(disch:=omega)[go_sem]
   . simp(disch:=omega)[go_sem,aa,m0,m1,m2];exact⟨.refl _,eO (hY (wr:=true) (ah:=0) (by simp) (by simp(disch:=omega)[go_sem];try rfl)) (.inl rfl) (by decide) (by simp) (by simp) (by simp)⟩
   simp(disch:=omega)[go_sem]at hQ;simp(disch:=omega)[go_sem,aa,m0,m1,m2];rw[<-aa];refine⟨_,aA.bN (l:=[(1,aO M0),(2,aO M1),(3,aO M2),(4,cC [false,false,false]),(5,iV 0),(6,cC [true,false]),(7,iV 0),(8,cC [true,false,false]),(9,iV 0)]) ?_,M0,M1,M2,_, ?_, ?_, ?_, ?_, ?_, ?_,rfl⟩
   . simp(disch:=omega)[go_sem]
   . simp(disch:=omega)[go_sem,aa,m0,m1,m2]
   . simp(disch:=omega)[go_sem,m0,m1,m2]
   . simp(disch:=omega)[go_sem,m0,m1,m2]
   . simp(disch:=omega)[go_sem];try omega
   . simp(disch:=omega)[go_sem];try omega
   . simp(disch:=omega)[go_sem];try omega
 rintro d ⟨M0,M1,M2,H,m0,m1,m2,h1,h2,h3,rfl⟩;rw[aa]at m0;refine jx (tP ge [(4,cC [false,false,false]),(5,iV 0),(6,cC [true,false]),(7,iV 0),(8,cC [true,false,false]),(9,iV 0),(10,cC [false,false]),(11,iV 0)]) ?_ ?_
 . simp(disch:=omega)[go_sem];refine ck [dF 0,aN 0,dF 0,cT 6,aN 15,ae 31,ae 63,ae 63,ae 127,ae 511] (by kernel_rfl) 1 rfl ?_;simp(disch:=omega)[go_sem,m0,m1,m2];refine⟨by omega,aq.mk l2 λR hR=> ?_⟩;simp(disch:=omega)[go_sem]at hR;simp(disch:=omega)[go_sem,aa,m0,m1,m2];rw[<-aa];refine⟨by omega, ?_⟩;refine aq.fz g3 [H.next] ?_ ?_ λQ hQ=> ?_
   . simp(disch:=omega)[go_sem]
   . simp(disch:=omega)[go_sem,aa,m0,m1,m2];exact⟨.refl _,eO (hY (wr:=true) (ah:=0) (by simp) (by simp(disch:=omega)[go_sem];try rfl)) (.inl rfl) (by decide) (by simp) (by simp) (by simp)⟩
   simp(disch:=omega)[go_sem]at hQ;simp(disch:=omega)[go_sem,aa,m0,m1,m2];rw[<-aa];refine⟨_,aA.bN (l:=[(1,aO M0),(2,aO M1),(3,aO M2),(4,cC [false,false,false]),(5,iV 0),(6,cC [true,false]),(7,iV 0),(8,cC [true,false,false]),(9,iV 0),(10,cC [false,false]),(11,iV 0)]) ?_,M0,M1,M2,_, ?_, ?_, ?_, ?_, ?_, ?_,rfl⟩
   . simp(disch:=omega)[go_sem]
   . simp(disch:=omega)[go_sem,aa,m0,m1,m2]
   . simp(disch:=omega)[go_sem,m0,m1,m2]
   . simp(disch:=omega)[go_sem,m0,m1,m2]
   . simp(disch:=omega)[go_sem];try omega
   . simp(disch:=omega)[go_sem];try omega
   . simp(disch:=omega)[go_sem];try omega
 rintro d ⟨M0,M1,M2,H,m0,m1,m2,h1,h2,h3,rfl⟩;rw[aa]at m0;refine jx (tP ge [(4,cC [false,false,false]),(5,iV 0),(6,cC [true,false]),(7,iV 0),(8,cC [true,false,false]),(9,iV 0),(10,cC [false,false]),(11,iV 0),(12,cC [false]),(13,iV 0)]) ?_ ?_
 . simp(disch:=omega)[go_sem];refine ck [dF 0,aN 0,cT 2,aN 7,ae 15,ae 31,ae 31,ae 63,ae 255] (by kernel_rfl) 1 rfl ?_;simp(disch:=omega)[go_sem,m0,m1,m2];refine⟨by omega,aq.mk l3 λR hR=> ?_⟩;simp(disch:=omega)[go_sem]at hR;simp(disch:=omega)[go_sem,aa,m0,m1,m2];rw[<-aa];refine aq.fz g4 [H.next] ?_ ?_ λQ hQ=> ?_
   . simp(disch:=omega)[go_sem]
   . simp(disch:=omega)[go_sem,aa,m0,m1,m2];exact⟨.refl _,eO (hY (wr:=true) (ah:=0) (by simp) (by simp(disch:=omega)[go_sem];try rfl)) (.inl rfl) (by decide) (by simp) (by simp) (by simp)⟩
   simp(disch:=omega)[go_sem]at hQ;simp(disch:=omega)[go_sem,aa,m0,m1,m2];rw[<-aa];refine⟨_,aA.bN (l:=[(1,aO M0),(2,aO M1),(3,aO M2),(4,cC [false,false,false]),(5,iV 0),(6,cC [true,false]),(7,iV 0),(8,cC [true,false,false]),(9,iV 0),(10,cC [false,false]),(11,iV 0),(12,cC [false]),(13,iV 0)]) ?_,M0,M1,M2,_, ?_, ?_, ?_, ?_, ?_, ?_,rfl⟩
   . simp(disch:=omega)[go_sem]
   . simp(disch:=omega)[go_sem,aa,m0,m1,m2]
   . simp(disch:=omega)[go_sem,m0,m1,m2]
   . simp(disch:=omega)[go_sem,m0,m1,m2]
   . simp(disch:=omega)[go_sem];try omega
   . simp(disch:=omega)[go_sem];try omega
   . simp(disch:=omega)[go_sem];try omega
 rintro d ⟨M0,M1,M2,H,m0,m1,m2,h1,h2,h3,rfl⟩;rw[aa]at m0;refine jx (tP ge [(4,cC [false,false,false]),(5,iV 0),(6,cC [true,false]),(7,iV 0),(8,cC [true,false,false]),(9,iV 0),(10,cC [false,false]),(11,iV 0),(12,cC [false]),(13,iV 0),(15,iV 240)]) ?_ ?_
 . simp(disch:=omega)[go_sem];refine ck [aN 0,dF 0,dF 0,cT 6,aN 15,ae 31,ae 63,ae 63,ae 127,ae 511] (by kernel_rfl) 1 rfl ?_;simp(disch:=omega)[go_sem,m0,m1,m2];refine aq.mk ad λR hR=> ?_;simp(disch:=omega)[go_sem]at hR;simp(disch:=omega)[go_sem,m0,m1,m2];refine⟨by omega, ?_⟩;refine aq.fz g5 [H.next] ?_ ?_ λQ hQ=> ?_
   . simp(disch:=omega)[go_sem]
   . simp(disch:=omega)[go_sem,aa,m0,m1,m2];exact⟨.refl _,eO (hY (wr:=true) (ah:=0) (by simp) (by simp(disch:=omega)[go_sem];try rfl)) (.inl rfl) (by decide) (by simp) (by simp) (by simp)⟩
   simp(disch:=omega)[go_sem]at hQ;simp(disch:=omega)[go_sem,aa,m0,m1,m2];refine⟨_,aA.bN (l:=[(1,aO M0),(2,aO M1),(3,aO M2),(4,cC [false,false,false]),(5,iV 0),(6,cC [true,false]),(7,iV 0),(8,cC [true,false,false]),(9,iV 0),(10,cC [false,false]),(11,iV 0),(12,cC [false]),(13,iV 0),(15,iV 240)]) ?_,M0,M1,M2,_, ?_, ?_, ?_, ?_, ?_, ?_,rfl⟩
   . simp(disch:=omega)[go_sem]
   . simp(disch:=omega)[go_sem,aa,m0,m1,m2]
   . simp(disch:=omega)[go_sem,m0,m1,m2]
   . simp(disch:=omega)[go_sem,m0,m1,m2]
   . simp(disch:=omega)[go_sem];try omega
   . simp(disch:=omega)[go_sem];try omega
   . simp(disch:=omega)[go_sem];try omega
 rintro d ⟨M0,M1,M2,H,m0,m1,m2,h1,h2,h3,rfl⟩;rw[aa]at m0;refine jx (tP ge [(4,cC [false,false,false]),(5,iV 0),(6,cC [true,false]),(7,iV 0),(8,cC [true,false,false]),(9,iV 0),(10,cC [false,false]),(11,iV 0),(12,cC [false]),(13,iV 0),(15,iV 240),(17,iV 91)]) ?_ ?_
 . simp(disch:=omega)[go_sem];refine ck [dF 0,aN 0,cT 2,aN 7,ae 15,ae 31,ae 31,ae 63,ae 255] (by kernel_rfl) 1 rfl ?_;simp(disch:=omega)[go_sem,m0,m1,m2];refine⟨by omega,aq.mk l4 λR hR=> ?_⟩;simp(disch:=omega)[go_sem]at hR;simp(disch:=omega)[go_sem,aa,m0,m1,m2];rw[<-aa];refine aq.fz g6 [H.next] ?_ ?_ λQ hQ=> ?_
   . simp(disch:=omega)[go_sem]
   . simp(disch:=omega)[go_sem,aa,m0,m1,m2];exact⟨.refl _,eO (hY (wr:=true) (ah:=0) (by simp) (by simp(disch:=omega)[go_sem];try rfl)) (.inl rfl) (by decide) (by simp) (by simp) (by simp)⟩
   simp(disch:=omega)[go_sem]at hQ;simp(disch:=omega)[go_sem,aa,m0,m1,m2];rw[<-aa];refine⟨_,aA.bN (l:=[(1,aO M0),(2,aO M1),(3,aO M2),(4,cC [false,false,false]),(5,iV 0),(6,cC [true,false]),(7,iV 0),(8,cC [true,false,false]),(9,iV 0),(10,cC [false,false]),(11,iV 0),(12,cC [false]),(13,iV 0),(15,iV 240),(17,iV 91)]) ?_,M0,M1,M2,_, ?_, ?_, ?_, ?_, ?_, ?_,rfl⟩
   . simp(disch:=omega)[go_sem]
   . simp(disch:=omega)[go_sem,aa,m0,m1,m2]
   . simp(disch:=omega)[go_sem,m0,m1,m2]
   . simp(disch:=omega)[go_sem,m0,m1,m2]
   . simp(disch:=omega)[go_sem];try omega
   . simp(disch:=omega)[go_sem];try omega
   . simp(disch:=omega)[go_sem];try omega
 rintro d ⟨M0,M1,M2,H,m0,m1,m2,h1,h2,h3,rfl⟩;rw[aa]at m0;refine gk ?_;simp(disch:=omega)[go_sem];refine aq.pl (vK [false,false,false] (by decide)) ?_ λQ hQ=> ?_
 . simp(disch:=omega)[go_sem,m0,m1,m2];exact eO (cN (wr:=true) (by simp(disch:=omega)[go_sem];try rfl)) (.inl rfl) (by decide) (by simp) (by simp) (by simp)
 simp(disch:=omega)[go_sem]at hQ;simp(disch:=omega)[go_sem];refine aq.pl (vK [true,false] (by decide)) ?_ λQ hQ=> ?_
 . simp(disch:=omega)[go_sem,m0,m1,m2];exact eO (cN (wr:=true) (by simp(disch:=omega)[go_sem];try rfl)) (.inl rfl) (by decide) (by simp) (by simp) (by simp)
 simp(disch:=omega)[go_sem]at hQ;simp(disch:=omega)[go_sem];refine aq.pl (vK [true,false,false] (by decide)) ?_ λQ hQ=> ?_
 . simp(disch:=omega)[go_sem,m0,m1,m2];exact eO (cN (wr:=true) (by simp(disch:=omega)[go_sem];try rfl)) (.inl rfl) (by decide) (by simp) (by simp) (by simp)
 simp(disch:=omega)[go_sem]at hQ;simp(disch:=omega)[go_sem];refine ve ?_;simp(disch:=omega)[go_sem];refine aq.pl (vK [false,false] (by decide)) ?_ λQ hQ=> ?_
 . simp(disch:=omega)[go_sem,m0,m1,m2];exact eO (cN (wr:=true) (by simp(disch:=omega)[go_sem];try rfl)) (.inl rfl) (by decide) (by simp) (by simp) (by simp)
 simp(disch:=omega)[go_sem]at hQ;simp(disch:=omega)[go_sem];refine aq.pl (vK [false] (by decide)) ?_ λQ hQ=> ?_
 . simp(disch:=omega)[go_sem,m0,m1,m2];exact eO (cN (wr:=true) (by simp(disch:=omega)[go_sem];try rfl)) (.inl rfl) (by decide) (by simp) (by simp) (by simp)
 simp(disch:=omega)[go_sem]at hQ;simp(disch:=omega)[go_sem]
end Go.Sp
end
noncomputable section
open Go Go.aw Go.Proofs
namespace Go.Sp
set_option maxRecDepth 100000
theorem K5{g:ai}{c:Nat}:∀(k:Nat) {L:List Lf} {gs:List Bool} {t:ByteArray},fq g c L=some (gs,t)->gs.length=L.length/\∃t',fq g c (L.drop k)=some (gs.drop k,t')
 |k,[],gs,t,h=>by
  simp only[fq,Option.some.injEq,Prod.mk.injEq]at h;obtain⟨rfl,rfl⟩:=h;exact⟨rfl,⟨#[]⟩,by simp[fq]⟩
 |k,l::L,gs,t,h=>by
  have h0:=h;simp only[fq]at h;cases hs:fq g c L with
  |none=>rw[hs]at h;cases h
  |some q=>
   obtain⟨af,t1⟩:=q;simp only[hs]at h;have hg:∃b,gs=b::af:=by
    split at h
    . cases h;exact⟨_,rfl⟩
    . split at h
      . cases h;exact⟨_,rfl⟩
      . cases h
   obtain⟨b,rfl⟩:=hg;have ih:=λk=>K5 k hs;refine⟨by simp[(ih 0).1], ?_⟩;cases k with
   |zero=>exact⟨t,h0⟩
   |succ k=>exact(ih k).2
theorem afV(d:Dg):∀t∈ml d,(t.lit=⟨#[]⟩->∃m∈gQ,t.pat=m.p)/\t.lit.size<=4:=by
 have hl:∀s∈lits++kB,s≠⟨#[]⟩/\s.size<=4:=by
  have h:((lits++kB).all λs=> !decide (s=⟨#[]⟩)&&decide (s.size<=4))=true:=by kernel_rfl
  intro s hs;simpa using List.all_eq_true.1 h s hs
 intro t ht;simp only[ml,ar,List.mem_append,List.mem_cons,List.mem_map,List.not_mem_nil,or_false]at ht;rcases ht with((rfl|⟨s,ab,rfl⟩)|rfl|rfl)|⟨s,ab,rfl⟩|rfl|rfl|rfl
 . exact⟨λ_=>⟨_,gz 0 ir rfl,rfl⟩,by decide⟩
 . have:=hl s (List.mem_append.2 (.inl ab));exact⟨λh=>absurd h this.1,this.2⟩
 . exact⟨λ_=>⟨_,gz 1 DU rfl,rfl⟩,by decide⟩
 . exact⟨λ_=>⟨_,gz 2 DW rfl,rfl⟩,by decide⟩
 . have:=hl s (List.mem_append.2 (.inr ab));exact⟨λh=>absurd h this.1,this.2⟩
 . exact⟨λ_=>⟨_,gz 3 oW rfl,rfl⟩,Nat.zero_le _⟩
 . exact⟨λ_=>⟨_,gz 4 DX rfl,rfl⟩,by decide⟩
 . exact⟨λ_=>⟨_,gz 5 DY rfl,rfl⟩,by decide⟩
theorem Ej(r:fp)(hr:r.Ok)(t:Tok)(ht:t∈(cI r).ar):((t.lit=⟨#[]⟩->∃m∈gQ,t.pat=m.p)/\t.lit.size<=4)/\∃ct,t.cond=aF ct/\ct<256:=by
 have h:=xP r hr;obtain⟨t',h1,h2⟩:=Ko h.strip ht;have ad:(ar++gT r.marks (cL bx r.x).conds.length).Sublist (ml (cB bx r.marks (cL bx r.x).conds.length)):=List.Sublist.append (List.Sublist.refl _) (vG _ _);obtain⟨_,b2,b3,_⟩:=KE h2;have q:=afV _ t' (ad.subset h1);rw[<-b2,<-b3]at q;obtain⟨c0,c1,c2⟩:=h.cond t ht;exact⟨q,c0,c1,c2.1⟩
theorem afW(r:fp)(hr:r.Ok):rS (cI r):=by
 refine⟨λt ht=>(Ej r hr t ht).1.1, ?_,λt ht=>(Ej r hr t ht).2⟩;have:=(Kq (xP r hr) (vH r).1).len;omega
theorem afX:∀q∈nU,0<q.2.size/\q.2.size<=4:=by
 have h:(nU.all λq=>decide (0<q.2.size)&&decide (q.2.size<=4))=true:=by kernel_rfl
 intro q hq;simpa using List.all_eq_true.1 h q hq
theorem size_pos{s:ByteArray}(h:s≠⟨#[]⟩):0<s.size:=by
 rcases Nat.eq_zero_or_pos s.size with h0|h0
 . exact absurd (ByteArray.size_eq_zero_iff.1 h0) h
 . exact h0
theorem afY(r:fp)(hr:r.Ok)(c:Nat):∀l∈nV r c,vJ (cI r) c l:=by
 intro l hl;obtain⟨h1,h2⟩:=List.mem_filter.1 hl;obtain⟨b,hb,rfl⟩:=List.mem_map.1 h1;have ao:=hr.leaves b (List.mem_of_mem_take hb);unfold ll at h2;cases ht:(cI r).ar[(iu (cI r).ar b).tok]? with
 |none=>rw[ht]at h2;cases h2
 |some t=>
  simp only[ht,lR,Bool.and_eq_true,decide_eq_true_eq]at h2;obtain⟨⟨a1,a2⟩,a3⟩:=h2;have ae:(iu (cI r).ar b).text=lT t (iu (cI r).ar b).tok b:=by
   show lT (((cI r).ar[(b%(cI r).ar.length).toNat]?).getD iX) _ b=_;have:(cI r).ar[(b%(cI r).ar.length).toNat]? =some t:=ht;rw[this];rfl
  have hq:=Ej r hr t (List.mem_of_getElem? ht);by_cases h0:t.lit=⟨#[]⟩
  . obtain⟨q,q1,q2,q3⟩:=KF r hr _ t b ht ao a1 h0;rw[<-ae]at q3;refine⟨⟨t,ht,a1,a2,.inr ⟨h0, ?_⟩⟩,by rw[q3];exact afX q q1⟩;rw[q2,q3];exact Ed q q1
  . have aa:(iu (cI r).ar b).text=t.lit:=by rw[ae];unfold lT;rw[if_neg h0]
    exact⟨⟨t,ht,a1,a2,.inl ⟨h0,aa⟩⟩,by rw[aa];exact⟨size_pos h0,hq.1.2⟩⟩
theorem K6(r:fp)(c:Nat):(nV r c).length<=12:=by
 unfold nV;refine Nat.le_trans (List.length_filter_le _ _) ?_;rw[List.length_map,List.length_take];omega
theorem afZ(r:fp)(hr:r.Ok)(c:Nat)(hc:c∈iF (cI r))(k:Nat):ax E true 6 [.agg (cI r).e,cV c,.sl 4 (((nV r c).drop k).map Lf.e)] (qw (fq (cI r) c ((nV r c).drop k))):=by
 obtain⟨h1,h2⟩:=List.mem_filter.1 hc;have au:c<8:=List.mem_range.1 h1;have h3:(cI r).conds.length<=3:=by rw[(vH r).1];have:=(vD r.x hr.x).room.conds;omega
 refine KY _ _ _ (KX (cI r) (D6 r hr) (afW r hr) (ax.aj rfl (aeS r hr)) c au h2 h3 _ (λl hl=>afY r hr c l (List.mem_of_mem_drop hl)) ?_);have:=K6 r c;rw[List.length_drop];omega
end Go.Sp
end

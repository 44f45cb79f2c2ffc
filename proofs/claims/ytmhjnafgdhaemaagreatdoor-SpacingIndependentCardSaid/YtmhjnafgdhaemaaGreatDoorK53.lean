/- SpacingIndependent: parts of its proof. -/
import Derived.Test.YtmhjnafgdhaemaaGreatDoorK52
open List renaming replicate->qe,mem_of_getElem?->xS,mem_append->DE,mem_cons->Er,not_mem_nil->GP,all_eq_true->PO,mem_singleton->VK,getElem?_eq_getElem->W2,mem_map->W9,nodup_nil->Xw,getElem?_eq_some_iff->Zj
open ByteArray renaming size_append->PX
open Nat renaming le_refl->Qc
open Iff renaming rfl->TF
open Bool renaming false_eq_true->Zr,and_eq_true->ZJ
set_option linter.all false
set_option maxRecDepth 100000
noncomputable section
open Go Go.au Go.Proofs
namespace Go.au
variable {e:Env}
theorem e8.plain{f:FuncId}{args:List Value}{h:aa}{v:Value}(hv:au.plain v=true)(hr:e8 e f args h λu h1=>u=v/\Sub h h1):bK e f args h v h:=by
 refine⟨hr.1,λρ w aE hg ha x=>(hr.2 ρ w aE hg ha x).mono ?_⟩;rintro en w' ⟨_,h1,v',b5,⟨rfl,hs⟩,rfl,q1,q2,q3⟩;refine⟨v',ρ,rfl,(m9 (ρ:=ρ) hv).back q3.ext q1,⟨x.gM,λi o ho=> ?_,x.sep⟩, ?_⟩
 . obtain⟨pl,h2,h3⟩:=x.obj i o ho;obtain⟨pl',bq,bD⟩:=q2.obj i o (hs.get i o (x.gM i pl h2) ho);rw[q3.ext _ _ h2]at bq;cases bq;exact⟨pl,h2,h3.back q3.ext bD⟩
 . exact⟨Ext.refl _,q3.os,q3.output,q3.size,q3.frozen,q3.kept,λi o pl a b c=>.inl ⟨i,o,pl,a,b,c,rfl⟩,λ_ _ a _=>a,λ_ a b=>absurd a b,λ_ o a _=>⟨o,a⟩,Qc _⟩
theorem ay.aj{f:FuncId}{aw:List DV}{u:Value}(hu:au.plain u=true)(hf:ay e false f aw (.v u)):ay e true f aw (.v u):=by
 intro G h args hG ha;have h1:e8 e f args h (p8 G h (.v u)):=hf G h args hG ha;have h2:=e8.plain hu (h1.mono λv h' ⟨p1,p2,p3⟩=>⟨p3.cG,p1,λi o hi ho=>by rw[p2 i hi];exact ho⟩);exact⟨u,h,h2,Qc _,λ_ _=>rfl,.v u⟩
end Go.au
namespace Go.Sp
structure tY(g:ai)(c:Nat)(l:Lf):Prop where
 tok:∃t,g.ar[l.tok]? =some t/\t.cls=0/\eM t.cond c=true/\((t.lit≠⟨#[]⟩/\l.text=t.lit)\/(t.lit=⟨#[]⟩/\ay E true 34 [.sl 5 (t.pat.map aL.e),sV l.text] (bV true)))
 size:0<l.text.size/\l.text.size<=4
def dr(g:ai)(c:Nat):List Lf->Option (List Bool×ByteArray)
 |[]=>some ([],⟨#[]⟩)
 |l::L=>match dr g c L with
  |none=>none
  |some (gs,rest)=>if lu g c (l.text++rest) l then some (false::gs,l.text++rest)
   else if lu g c ((l.text++jU)++rest) l&&vW g c rest then some (true::gs,(l.text++jU)++rest)else none
theorem Jq{g:ai}{c:Nat}:∀{L:List Lf} (i:Nat),dr g c (L.drop i)=none->dr g c L=none
 |L,0,h=>h
 |[],i+1,h=>h
 |l::L,i+1,h=>by
  have:=Jq (L:=L) i h;simp only[dr,this]
def vX:Option (List Bool×ByteArray)->DV
 |some (gs,t)=>.bb [.sl 1 (gs.map λb=>[bV b]),sV t,iV 0]
 |none=>.bb [.sl 1 [],sV ⟨#[]⟩,iV 240]
theorem ac4(n:Nat)(gs:List Bool):(qe (n+1) (bV false)++gs.map bV).take n++bV true::(qe (n+1) (bV false)++gs.map bV).drop (n+1)=qe n (bV false)++(true::gs).map bV:=by
 rw[List.take_append_of_le_length (by simp),List.drop_append_of_le_length (by simp)];simp
theorem ac5(n:Nat)(gs:List Bool):qe (n+1) (bV false)++gs.map bV=qe n (bV false)++(false::gs).map bV:=by
 rw[List.replicate_succ'];simp
theorem u45:E.under 45=some (.slice 4):=by kernel_rfl
theorem s4:E.size 4=some 1:=by kernel_rfl
theorem b4:E.bytes 4=some 1:=by kernel_rfl
theorem ac6(n:Nat):(eN [Value.bool false] (n*1)).map DV.v=qe n (bV false):=by
 simp only[eN,List.map_map,Nat.mul_one];apply List.ext_getElem?;intro i;simp only[List.getElem?_map,List.getElem?_range,List.getElem?_replicate];rcases Nat.lt_or_ge i n with h|h
 . simp[h,Nat.mod_one]
 . simp[Nat.not_lt.2 h]
set_option maxHeartbeats 8000000 in
theorem Jr(g:ai)(hg:GV g)(ht:lq g)(ao:ay E true 32 [.agg g.e] (iV 0))(c:Nat)(hc:c<8)(aZ:fh g c=true)(bF:g.conds.length<=3)(L:List Lf)(hL:∀l∈L,tY g c l)(b6:L.length<=12):
 ay E true 18 [.agg g.e,cV c,.sl 4 (L.map Lf.e)] (vX (dr g c L)):=by
 have bc:ay E true 33 [.agg g.e,cV c] (bV (fh g c)):=I5 g hg bF c hc;rw[aZ]at bc;have bf:=acH g ht c hc;obtain⟨bg,aA⟩:∃bg,vX (dr g c L)=bg:=⟨_,rfl⟩;rw[aA];obtain⟨RD,aT⟩:∃RD,DV.ptr (gP g c) 0=RD:=⟨_,rfl⟩;rw[aT]at bf;have aF:∀(s:ByteArray) (l:Lf),s.size<=1000000->0<l.text.size->ay E true 37 [RD,cV c,sV s,.agg l.e] (bV (lu g c s l)):=λs l h1 h2=>by rw[<-aT];exact ac2 g hg ht c hc s (by omega) l h2
 have bk:∀(s:ByteArray),s.size<=1000000->ay E true 38 [RD,sV s] (bV (vW g c s)):=λs h1=>by rw[<-aT];exact ac3 g ht c s (by omega)
 have bG:cO RD=true/\ca RD=[RD]:=by rw[<-aT];exact⟨rfl,rfl⟩
 refine aW Tryz.ntmps18 Tryz.results18 λN=> ?_;obtain⟨ge,bl⟩:∃ge,g.e=ge:=⟨_,rfl⟩;have ad:ge=[strs g.conds,.sl 3 (g.family.nodes.map cK),iV g.family.root,.sl 7 (g.ar.map Tok.e),strs g.aH,.sl 13 (g.ak.map aQ.e),iV g.start,.sl 4 (g.ba.map de.e),.sl 9 (g.bj.map bd.e)]:=by rw[<-bl];rfl
 rw[bl]at ao bc bf;rw[bl];simp(disch:=omega)[go_sem,ad];rw[<-ad];refine an.mk ao λM hM=> ?_;simp(disch:=omega)[go_sem]at hM;simp(disch:=omega)[go_sem,ad];rw[<-ad];refine an.mk bc.any λM2 bI=> ?_;simp(disch:=omega)[go_sem]at bI;simp(disch:=omega)[go_sem];obtain⟨I,hI⟩:∃I:Nat->DS->Prop,∀j d,I j d↔∃(k sz P:Nat),j+k=L.length/\sz<=12+4*k/\N<P/\d=⟨bz [(1,cV c),(2,.sl 4 (L.map Lf.e)),(3,aM N),(10,iV (sz:Nat)),(34,.sl 4 (L.map Lf.e)),(35,iV (L.length:Nat)),(36,iV (k:Nat))],154,[],cw P [(N,.row ge true 0)]⟩:=⟨_,λ_ _=>TF⟩;refine bO I L.length ⟨_,ax.mk (N:=M2) ?_ ?_ ?_,(hI _ _).2 ⟨0,L.length,M2,rfl,by omega,by omega,rfl⟩⟩ ?_
 . simp(disch:=omega)[go_sem]
 . simp(disch:=omega)[go_sem]
 . simp(disch:=omega)[go_sem,ad]
 . intro j ds aI;obtain⟨k,sz,P,hj,b7,hP,rfl⟩:=(hI _ _).1 aI;clear aI;by_cases bm:k<L.length
   . have af:(k:Int)<L.length:=by omega
     obtain⟨l,hl⟩:∃l,L[k]? =some l:=⟨_,W2 bm⟩;obtain⟨⟨t,t1,t2,t3,t4⟩,s1,s2⟩:=hL l (xS hl);have b8:=(Zj.1 t1).1;have bn:¬(g.ar.length:Int)<=l.tok:=by omega
     have bo:¬(l.tok:Int)<0:=by omega
     obtain⟨ct,bJ,bp⟩:=ht.cond t (xS t1);have hh:=vT ct c bp hc;rw[<-bJ,t3]at hh;simp only[Dg.e]at hh;simp(disch:=omega)[go_sem,af,hl,-getElem?_pos,Lf.e,ad,bn,bo,t1,Tok.e,t2];rcases t4 with⟨t5,t6⟩|⟨t5,t6⟩
     . rw[t6]at s1 s2;simp(disch:=omega)[go_sem,t5,t6];refine an.mk hh.any λP2 aU=> ?_;simp(disch:=omega)[go_sem]at aU;simp(disch:=omega)[go_sem,gI,aC];refine⟨j-1,by omega,_,ax.mk (N:=P2) ?_ ?_ ?_,(hI _ _).2 ⟨k+1,sz+t.lit.size,P2,by omega,by omega,by omega,rfl⟩⟩
       . simp(disch:=omega)[go_sem]
       . simp(disch:=omega)[go_sem]
       . simp(disch:=omega)[go_sem,ad]
     . simp(disch:=omega)[go_sem,t5];refine an.mk t6.any λP1 bL=> ?_;simp(disch:=omega)[go_sem]at bL;simp(disch:=omega)[go_sem,t2];refine an.mk hh.any λP2 aU=> ?_;simp(disch:=omega)[go_sem]at aU;simp(disch:=omega)[go_sem,gI,aC];refine⟨j-1,by omega,_,ax.mk (N:=P2) ?_ ?_ ?_,(hI _ _).2 ⟨k+1,sz+l.text.size,P2,by omega,by omega,by omega,rfl⟩⟩
       . simp(disch:=omega)[go_sem]
       . simp(disch:=omega)[go_sem]
       . simp(disch:=omega)[go_sem,ad]
   . have af:¬(k:Int)<L.length:=by omega
     simp(disch:=omega)[go_sem,af,show¬(1048576:Int)<sz from by omega,ad];rw[<-ad];refine an.mk bf.any λM3 bM=> ?_;simp(disch:=omega)[go_sem]at bM;simp(disch:=omega)[go_sem];refine IN (n:=L.length) u45 s4 E7 b4 rfl (by decide) (by decide) (by simp(disch:=omega)[go_sem]) (by simp(disch:=omega)[go_sem]) (by omega) ?_;have bN:List.map DV.v (eN (Value.bool false).cells.toList (L.length*1))=qe L.length (bV false):=ac6 L.length;rw[bN];simp(disch:=omega)[go_sem];obtain⟨J,hJ⟩:∃J:Nat->DS->Prop,∀j d,J j d↔∃(k:Nat) (gs:List Bool) (rest:ByteArray) (P:Nat),j+k=L.length/\dr g c (L.drop (L.length-k))=some (gs,rest)/\gs.length=k/\rest.size<=5*k/\M3<P/\
      d=⟨bz [(1,cV c),(2,.sl 4 (L.map Lf.e)),(15,RD),(16,.v (.slice (some ⟨M3,0,none⟩) L.length L.length)),(17,sV rest),(104,iV (L.length:Nat)),(105,iV (k:Nat))],154,[],cw P [(M3,.row (qe (L.length-k) (bV false)++gs.map bV) true 0)]⟩:=⟨_,λ_ _=>TF⟩
     refine bO J L.length ⟨_,ax.mk (N:=M3+1) ?_ ?_ ?_,(hJ _ _).2 ⟨0,[],⟨#[]⟩,M3+1,rfl,by rw[List.drop_eq_nil_of_le (by omega)];rfl,rfl,Qc _,by omega,rfl⟩⟩ ?_
     . simp(disch:=omega)[go_sem]
     . simp(disch:=omega)[go_sem]
     . simp(disch:=omega)[go_sem]
     . intro j2 cb bs;obtain⟨k2,gs,rest,P2,cc,aK,aN,cd,aU,rfl⟩:=(hJ _ _).1 bs;clear bs;by_cases bP:k2<L.length
       . have av:(k2:Int)<L.length:=by omega
         obtain⟨i,hi⟩:∃i,L.length-k2=i+1:=⟨L.length-k2-1,by omega⟩;obtain⟨l,hl⟩:∃l,L[i]? =some l:=⟨_,W2 (by omega)⟩;obtain⟨_,s1,s2⟩:=hL l (xS hl);have bQ:L.drop i=l::L.drop (i+1):=by rw[List.drop_eq_getElem_cons (by omega),(Zj.1 hl).2]
         have bS:((L.length:Int)-1-k2)=(i:Nat):=by omega
         have bT:¬l.text=⟨#[]⟩:=λh=>by rw[h]at s1;exact absurd s1 (by decide)
         have ab:=congrArg (dr g c) bQ;rw[hi]at aK;simp only[dr,aK]at ab;rw[hi];have bt:=aF (l.text++rest) l (by rw[PX];omega) s1;have bU:l.text.size+rest.size<=9223372036854775807:=by omega
         simp only[Lf.e]at bt;simp(disch:=omega)[go_sem,av,aC,bS,hl,-getElem?_pos,Lf.e,bT,sU (h:=bU)];refine an.mk bt.any λP3 bW=> ?_;simp(disch:=omega)[go_sem]at bW;have aX:i=L.length-(k2+1):=by omega
         cases bu:lu g c (l.text++rest) l with
         |true=>
          rw[bu,if_pos rfl]at ab;simp(disch:=omega)[go_sem,aC];refine⟨j2-1,by omega,_,ax.mk (N:=P3) ?_ ?_ ?_,(hJ _ _).2 ⟨k2+1,false::gs,l.text++rest,P3,by omega,by rw[<-aX];exact ab,by simp[aN],by rw[PX];omega,by omega,rfl⟩⟩
          . simp(disch:=omega)[go_sem]
          . simp(disch:=omega)[go_sem]
          . rw[<-aX,<-ac5];simp(disch:=omega)[go_sem]
         |false=>
          rw[bu,if_neg (by decide)]at ab;have bY:l.text.size+(⟨#[32]⟩:ByteArray).size<=9223372036854775807:=by show l.text.size+1<=_;omega
          have aB:(l.text++(⟨#[32]⟩:ByteArray)).size=l.text.size+1:=by rw[PX];rfl
          have bZ:(l.text++(⟨#[32]⟩:ByteArray)).size+rest.size<=9223372036854775807:=by rw[aB];omega
          have bx:=aF ((l.text++(⟨#[32]⟩:ByteArray))++rest) l (by rw[PX,aB];omega) s1;have b0:=bk rest (by omega);simp only[Lf.e]at bx;simp(disch:=omega)[go_sem,sU (h:=bY),sU (h:=bZ)];refine an.mk bx.any λP4 b1=> ?_;simp(disch:=omega)[go_sem]at b1;have az:dr g c (L.drop i)=none->bg=.bb [.sl 1 [],sV ⟨#[]⟩,iV 240]:=λh=>by rw[<-aA,Jq i h];rfl
          simp only[jU]at ab;cases aP:lu g c ((l.text++(⟨#[32]⟩:ByteArray))++rest) l with
          |false=>
           simp only[aP,Bool.false_and,Zr,if_false]at ab;have hR:=az ab;subst hR;simp(disch:=omega)[go_sem]
          |true=>
           simp only[aP,Bool.true_and]at ab;simp(disch:=omega)[go_sem];refine an.mk b0.any λP5 b2=> ?_;simp(disch:=omega)[go_sem]at b2;cases bA:vW g c rest with
           |false=>
            simp only[bA,Zr,if_false]at ab;have hR:=az ab;subst hR;simp(disch:=omega)[go_sem]
           |true=>
            simp only[bA,if_true]at ab;have aR:=ac4 i gs;have bB:(qe (i+1) (bV false)++gs.map bV).length=L.length:=by simp[aN];omega
            obtain⟨row,aS⟩:∃row,qe (i+1) (bV false)++gs.map bV=row:=⟨_,rfl⟩;rw[aS]at aR bB;simp(disch:=omega)[go_sem,aC,aS,aR,bB,show i+1<=L.length from by omega];refine⟨j2-1,by omega,_,ax.mk (N:=P5) ?_ ?_ ?_,(hJ _ _).2 ⟨k2+1,true::gs,(l.text++(⟨#[32]⟩:ByteArray))++rest,P5,by omega,by rw[<-aX];exact ab,by simp[aN],by rw[PX,aB];omega,by omega,rfl⟩⟩
            . simp(disch:=omega)[go_sem]
            . simp(disch:=omega)[go_sem]
            . rw[<-aX];simp(disch:=omega)[go_sem]
       . have av:¬(k2:Int)<L.length:=by omega
         simp(disch:=omega)[go_sem,av];obtain rfl:k2=L.length:=by omega
         rw[Nat.sub_self,List.drop_zero]at aK;rw[<-aA,aK];have b3:(gs.map λb=>[bV b]).flatten=gs.map bV:=by
          clear aK aN
          induction gs with
          |nil=>rfl
          |cons b l ih=>simp only[List.map_cons,List.flatten_cons,ih];rfl
         refine Fz.jG (.cons ?_ (.cons (.refl _) (.cons (.refl _) .nil)));exact dU (ah:=0) (cx (wr:=true) (by rw[b3];simp(disch:=omega)[go_sem])) (.inl rfl) (by decide) (by simp[aN]) (Qc _) (λx hx=>by obtain⟨y,_,rfl⟩:=W9.1 hx;rfl)
def qx:Option (List Bool×ByteArray)->DV
 |some (gs,_)=>.bb [.sl 1 (gs.map λb=>[bV b]),iV 0]
 |none=>.bb [.sl 1 [],iV 240]
theorem Js(g:ai)(c:Nat)(L:List Lf)(hs:ay E true 18 [.agg g.e,cV c,.sl 4 (L.map Lf.e)] (vX (dr g c L))):ay E true 6 [.agg g.e,cV c,.sl 4 (L.map Lf.e)] (qx (dr g c L)):=by
 refine aW Tryz.ntmps6 Tryz.results6 λN=> ?_;simp only[ai.e]at hs⊢;simp(disch:=omega)[go_sem];refine an.mk hs λM hM=> ?_;simp(disch:=omega)[go_sem]at hM;cases h:dr g c L with
 |none=>simp(disch:=omega)[go_sem,vX,qx]
 |some r=>
  obtain⟨gs,t⟩:=r;simp(disch:=omega)[go_sem,vX,qx]
abbrev b9(l:List Bool):DV:=.sl 1 (l.map λb=>[bV b])
theorem ac7(b:Bool):cD E .neq 4 (.tmp 20) (.tmp 24) (.bool b) (.bool b)=some (.bool false):=by cases b<;>kernel_rfl
theorem vY(l:List Bool)(hl:l.length<=100000):ay E true 11 [b9 l,b9 l] (bV true):=by
 refine aW Tryz.ntmps11 Tryz.results11 λN=> ?_;simp(disch:=omega)[go_sem];obtain⟨I,hI⟩:∃I:Nat->DS->Prop,∀j d,I j d↔∃(k P:Nat),j+k=l.length/\d=⟨bz [(0,b9 l),(1,b9 l),(5,iV (k:Nat))],26,[],cw P []⟩:=⟨_,λ_ _=>TF⟩;refine bO I l.length ⟨_,ax.mk (N:=N) ?_ ?_ ?_,(hI _ _).2 ⟨0,N,rfl,rfl⟩⟩ ?_
 . simp(disch:=omega)[go_sem]
 . simp(disch:=omega)[go_sem]
 . simp(disch:=omega)[go_sem]
 . intro j ds aI;obtain⟨k,P,hj,rfl⟩:=(hI _ _).1 aI;clear aI;by_cases bm:k<l.length
   . have af:(k:Int)<l.length:=by omega
     obtain⟨b,hb⟩:∃b,l[k]? =some b:=⟨_,W2 bm⟩;simp(disch:=omega)[go_sem,af];refine bR [ae 0,ae 0,ae 3,aD 7,ae 0,ae 0,ae 48,aD 112,ae 255] (by kernel_rfl) 0 rfl ?_;simp(disch:=omega)[go_sem,hb,-getElem?_pos,ac7,aC];refine⟨j-1,by omega,_,ax.mk (N:=P) ?_ ?_ ?_,(hI _ _).2 ⟨k+1,P,by omega,rfl⟩⟩
     . simp(disch:=omega)[go_sem]
     . simp(disch:=omega)[go_sem]
     . simp(disch:=omega)[go_sem]
   . have af:¬(k:Int)<l.length:=by omega
     simp(disch:=omega)[go_sem,af]
end Go.Sp
end
noncomputable section
open Go Go.au Go.Proofs
namespace Go.Sp
def Jt:Tok:=⟨⟨#[98,108,97,110,107]⟩,1,⟨#[32]⟩,[],⟨#[]⟩,aP true⟩
def du(bare:Bool):ai:=⟨[],aP true,[ik,fV ⟨#[43]⟩,fV ⟨#[43,43]⟩,fV ⟨#[105,102]⟩]++(if bare then []else [Jt]),[⟨#[83]⟩],[],0,[],[]⟩
theorem Ju:∀b∈[false,true],ay E true 9 [bV b] (.agg (du b).e):=bI (by kernel_rfl)
theorem ac8(b:Bool):∀t∈(du b).ar,ln t:=by
 have hb:ln Jt:=⟨⟨by decide,by decide⟩,.inl ⟨by decide,rfl,rfl⟩⟩;have ab:=IV (aP true) ik (by simp[ll,ar]);intro t ht;simp only[du,DE,Er,GP,or_false]at ht;rcases ht with(rfl|rfl|rfl|rfl)|ht
 . exact ab
 . exact vR _ (by decide)
 . exact vR _ (by decide)
 . exact vR _ (by decide)
 . split at ht
   . cases ht
   . obtain rfl:=VK.1 ht;exact hb
theorem Jv(b:Bool):∀t∈(du b).ar,t.cond=aP true:=by
 intro t ht;simp only[du,DE,Er,GP,or_false]at ht;rcases ht with(rfl|rfl|rfl|rfl)|ht
 . rfl
 . rfl
 . rfl
 . rfl
 . split at ht
   . cases ht
   . obtain rfl:=VK.1 ht;rfl
theorem CP(b:Bool):GV (du b):=by
 have aa:=tP 0 (by decide);obtain⟨c0,c1,c2⟩:=aa;have hn:mJ ((du b).ar.map (·.name)):=by
  have h:([false,true].all λb=>decide (((du b).ar.map (·.name)).Nodup)&&((du b).ar.map (·.name)).all λs=> !decide (s=⟨#[]⟩))=true:=by kernel_rfl
  have h2:=PO.1 h b (by cases b<;>simp);rw[ZJ,decide_eq_true_eq]at h2;exact⟨h2.1,λs hs=>by simpa using PO.1 h2.2 s hs⟩
 refine⟨⟨by cases b<;>decide,by cases b<;>decide,by cases b<;>decide,by cases b<;>decide,by cases b<;>decide,by cases b<;>decide,λp hp=>by cases hp⟩,⟨⟨Xw,λs hs=>by cases hs⟩,λs hs=>(by cases hs),by cases b<;>decide,c0,c1,c2,by show(aP true).root≠0;decide⟩,⟨hn,by cases b<;>decide,λt ht=> ?_⟩,
  ⟨⟨by show [(⟨#[83]⟩:ByteArray)].Nodup;simp,λs hs=>by obtain rfl:=VK.1 hs;decide⟩,Int.le_refl 0,by show(0:Int)<1;decide⟩,⟨⟨Xw,λs hs=>(by cases hs)⟩,by cases b<;>decide,λp hp=>(by cases hp)⟩,⟨Xw,by cases b<;>decide,λl hl=>(by cases hl),λl hl=>(by cases hl)⟩,⟨by cases b<;>decide,λf hf=>by cases hf⟩⟩
 have q:=ac8 b t ht;exact⟨q.cls.1,q.cls.2,⟨c0,(Jv b t ht).trans c1,c2⟩,q.k⟩
theorem Jw(b:Bool):ay E true 32 [.agg (du b).e] (iV 0):=
 ay.aj (by rfl) (Ib (du b) (CP b) (λ_=>True) (λ_ p hp=>by cases hp) λ_ p hp=>by cases hp)
theorem ac9(b:Bool):lq (du b):=by
 refine⟨λt ht h=>⟨fY,fM 0 fY rfl, ?_⟩,by cases b<;>decide,λt ht=>⟨255,(Jv b t ht).trans vu.1.symm,by decide⟩⟩;simp only[du,DE,Er,GP,or_false]at ht;rcases ht with(rfl|rfl|rfl|rfl)|ht
 . rfl
 . exact absurd h (by decide)
 . exact absurd h (by decide)
 . exact absurd h (by decide)
 . split at ht
   . cases ht
   . obtain rfl:=VK.1 ht;exact absurd h (by decide)
def lX:Lf:=⟨0,⟨#[120]⟩⟩
def lP:Lf:=⟨1,⟨#[43]⟩⟩
def yN:Lf:=⟨2,⟨#[43,43]⟩⟩
def yO:Lf:=⟨0,⟨#[105,102]⟩⟩
theorem ada(b:Bool):tY (du b) 0 lX/\tY (du b) 0 lP/\tY (du b) 0 yN/\tY (du b) 0 yO:=by
 have hi:eM (aP true) 0=true:=by kernel_rfl
 have m1:=CG _ (xS (l:=mT) (i:=0) rfl);have m2:=CG _ (xS (l:=mT) (i:=1) rfl);refine⟨⟨⟨ik,rfl,rfl,hi,.inr ⟨rfl,m1⟩⟩,by decide⟩,⟨⟨fV ⟨#[43]⟩,rfl,rfl,hi,.inl ⟨by decide,rfl⟩⟩,by decide⟩,⟨⟨fV ⟨#[43,43]⟩,rfl,rfl,hi,.inl ⟨by decide,rfl⟩⟩,by decide⟩,⟨⟨ik,rfl,rfl,hi,.inr ⟨rfl,m2⟩⟩,by decide⟩⟩
def tZ:List (List Lf×List Bool):=[([lX,lP,lX],[false,false,false]),([lX,lX],[true,false]),([lP,lP,lX],[true,false,false]),([yN,lX],[false,false]),([yO],[false])]
theorem adb:∀q∈tZ,∃t,dr (du false) 0 q.1=some (q.2,t):=by
 have h:(tZ.all λq=>match dr (du false) 0 q.1 with|some (l,_)=>decide (l=q.2)|none=>false)=true:=by kernel_rfl
 intro q hq;have h2:=PO.1 h q hq;cases hs:dr (du false) 0 q.1 with
 |none=>rw[hs]at h2;cases h2
 |some r=>
  obtain⟨l,t⟩:=r;rw[hs]at h2;exact⟨t,by rw[of_decide_eq_true h2]⟩
theorem ade:dr (du true) 0 [lX,lX]=none:=by
 have h:(match dr (du true) 0 [lX,lX]with|some _=>false|none=>true)=true:=by kernel_rfl
 cases hs:dr (du true) 0 [lX,lX]with
 |none=>rfl
 |some r=>rw[hs]at h;cases h
theorem Jx(b:Bool)(L:List Lf)(hL:∀l∈L,l=lX\/l=lP\/l=yN\/l=yO)(hl:L.length<=12):ay E true 6 [.agg (du b).e,cV 0,.sl 4 (L.map Lf.e)] (qx (dr (du b) 0 L)):=by
 obtain⟨a1,a2,a3,a4⟩:=ada b;have hh:fh (du b) 0=true:=by
  have h:([false,true].all λb=>fh (du b) 0)=true:=by kernel_rfl
  exact PO.1 h b (by cases b<;>simp)
 refine Js _ _ _ (Jr (du b) (CP b) (ac9 b) (Jw b) 0 (by decide) hh (by cases b<;>decide) L (λl hl=> ?_) hl);rcases hL l hl with rfl|rfl|rfl|rfl<;>assumption
theorem adf(q:List Lf×List Bool)(hq:q∈tZ):ay E true 6 [.agg (du false).e,cV 0,.sl 4 (q.1.map Lf.e)] (.bb [b9 q.2,iV 0]):=by
 obtain⟨t,ht⟩:=adb q hq;have:=Jx false q.1 (by
  simp only[tZ,Er,GP,or_false]at hq;rcases hq with rfl|rfl|rfl|rfl|rfl<;>simp) (by
  simp only[tZ,Er,GP,or_false]at hq;rcases hq with rfl|rfl|rfl|rfl|rfl<;>simp)
 rw[ht]at this;exact this
theorem vZ(k:Nat)(s:ByteArray):ay E true 10 [iV (k:Nat),sV s] (.agg (Lf.e ⟨k,s⟩)):=by
 refine aW Tryz.ntmps10 Tryz.results10 λN=> ?_;simp(disch:=omega)[go_sem,Lf.e]
def ua:Lf:=⟨0,⟨#[43]⟩⟩
theorem adg:ay E true 34 [.sl 5 (fD.map aL.e),sV ⟨#[43]⟩] (bV false):=by
 have h:=yE fY (fM 0 fY rfl) ⟨#[43]⟩ (by decide);have h2:jS fY ⟨#[43]⟩=false:=by kernel_rfl
 rw[h2]at h;exact h
set_option maxHeartbeats 4000000 in
theorem adh:ay E true 18 [.agg (du false).e,cV 0,.sl 4 ([ua].map Lf.e)] (.bb [.sl 1 [],sV ⟨#[]⟩,iV 91]):=by
 have aa:=Jw false;have hh:fh (du false) 0=true:=by kernel_rfl
 have ad:ay E true 33 [.agg (du false).e,cV 0] (bV (fh (du false) 0)):=I5 (du false) (CP false) (by decide) 0 (by decide);rw[hh]at ad;obtain⟨g,hg⟩:∃g,du false=g:=⟨_,rfl⟩;have t1:g.ar[0]? =some ik:=by rw[<-hg];rfl
 have ao:¬g.ar=[]:=by rw[<-hg];intro h;cases h
 rw[hg]at aa ad⊢;obtain⟨L,hL⟩:∃L,[ua]=L:=⟨_,rfl⟩;have av:L.length=1:=by rw[<-hL];rfl
 have aw:L[0]? =some ua:=by rw[<-hL];rfl
 rw[hL];refine aW Tryz.ntmps18 Tryz.results18 λN=> ?_;obtain⟨ge,ae⟩:∃ge,g.e=ge:=⟨_,rfl⟩;have ab:ge=[strs g.conds,.sl 3 (g.family.nodes.map cK),iV g.family.root,.sl 7 (g.ar.map Tok.e),strs g.aH,.sl 13 (g.ak.map aQ.e),iV g.start,.sl 4 (g.ba.map de.e),.sl 9 (g.bj.map bd.e)]:=by rw[<-ae];rfl
 rw[ae]at aa ad;rw[ae];simp(disch:=omega)[go_sem,ab];rw[<-ab];refine an.mk aa λM hM=> ?_;simp(disch:=omega)[go_sem]at hM;simp(disch:=omega)[go_sem,ab];rw[<-ab];refine an.mk ad.any λM2 az=> ?_;simp(disch:=omega)[go_sem]at az;simp(disch:=omega)[go_sem];obtain⟨I,hI⟩:∃I:Nat->DS->Prop,∀j d,I j d↔N<M2/\d=⟨bz [(1,cV 0),(2,.sl 4 (L.map Lf.e)),(3,aM N),(10,iV (L.length:Nat)),(34,.sl 4 (L.map Lf.e)),(35,iV (L.length:Nat)),(36,iV 0)],154,[],cw M2 [(N,.row ge true 0)]⟩:=⟨_,λ_ _=>TF⟩;refine bO I 1 ⟨_,ax.mk (N:=M2) ?_ ?_ ?_,(hI _ _).2 ⟨by omega,rfl⟩⟩ ?_
 . simp(disch:=omega)[go_sem]
 . simp(disch:=omega)[go_sem]
 . simp(disch:=omega)[go_sem,ab]
 . intro j ds af;obtain⟨hN,rfl⟩:=(hI _ _).1 af;clear af;have hb:=adg;simp(disch:=omega)[go_sem,av,aw,-getElem?_pos,ua,Lf.e,ab,ao,t1,Tok.e,ik];refine an.mk hb.any λP1 aA=> ?_;simp(disch:=omega)[go_sem]at aA;have hd:=vT 255 0 (by decide) (by decide);rw[vu.1,show eM (aP true) 0=true from by kernel_rfl]at hd;simp only[Dg.e]at hd;simp(disch:=omega)[go_sem];refine an.mk hd.any λP2 aB=> ?_;simp(disch:=omega)[go_sem]at aB;simp(disch:=omega)[go_sem]
theorem adi:ay E true 6 [.agg (du false).e,cV 0,.sl 4 ([ua].map Lf.e)] (.bb [.sl 1 [],iV 91]):=by
 have hs:=adh;refine aW Tryz.ntmps6 Tryz.results6 λN=> ?_;simp only[ai.e]at hs⊢;simp(disch:=omega)[go_sem];refine an.mk hs λM hM=> ?_;simp(disch:=omega)[go_sem]at hM;simp(disch:=omega)[go_sem]
theorem adj:ay E true 6 [.agg (du true).e,cV 0,.sl 4 ([lX,lX].map Lf.e)] (.bb [.sl 1 [],iV 240]):=by
 have h:=Jx true [lX,lX] (by simp) (by decide);rw[ade]at h;exact h
theorem wa(i:Nat){q:List Lf×List Bool}(h:tZ[i]? =some q):ay E true 6 [.agg (du false).e,cV 0,.sl 4 (q.1.map Lf.e)] (.bb [b9 q.2,iV 0]):=adf q (xS h)
def sc(ge:List DV)(l:List (Nat×DV))(d:DS):Prop:=∃M0 M1 M2 H,H.get M0=some (.row ge true 0)/\H.get M1=some (.row [iV (-1),iV 0,sV ⟨#[120]⟩,.sl 1 []] true 0)/\H.get M2=some (.row [iV (-1),iV 1,sV ⟨#[43]⟩,.sl 1 []] true 0)/\M0<H.next/\M1<H.next/\M2<H.next/\d=⟨bz ((1,aM M0)::(2,aM M1)::(3,aM M2)::l),130,[],H⟩
set_option maxHeartbeats 8000000 in
theorem adk:ay E true 4 [] (bV true):=by
 have ab:=Ju false (by simp);have ad:=Ju true (by simp);have l0:ay E true 10 [iV 0,sV ⟨#[120]⟩] (.agg [iV (-1),iV 0,sV ⟨#[120]⟩,.sl 1 []]):=vZ 0 ⟨#[120]⟩;have l1:ay E true 10 [iV 1,sV ⟨#[43]⟩] (.agg [iV (-1),iV 1,sV ⟨#[43]⟩,.sl 1 []]):=vZ 1 ⟨#[43]⟩;have l2:ay E true 10 [iV 2,sV ⟨#[43,43]⟩] (.agg [iV (-1),iV 2,sV ⟨#[43,43]⟩,.sl 1 []]):=vZ 2 ⟨#[43,43]⟩;have l3:ay E true 10 [iV 0,sV ⟨#[105,102]⟩] (.agg [iV (-1),iV 0,sV ⟨#[105,102]⟩,.sl 1 []]):=vZ 0 ⟨#[105,102]⟩;have l4:ay E true 10 [iV 0,sV ⟨#[43]⟩] (.agg [iV (-1),iV 0,sV ⟨#[43]⟩,.sl 1 []]):=vZ 0 ⟨#[43]⟩;have g0:=wa 0 rfl;have g1:=wa 1 rfl;have g2:=wa 2 rfl;have g3:=wa 3 rfl;have g4:=wa 4 rfl;have g5:=adj;have g6:=adi;simp only[List.map_cons,List.map_nil,Lf.e,lX,lP,yN,yO,ua]at g0 g1 g2 g3 g4 g5 g6;obtain⟨G,hG⟩:∃G,du false=G:=⟨_,rfl⟩;obtain⟨G1,ao⟩:∃G,du true=G:=⟨_,rfl⟩;rw[hG]at ab g0 g1 g2 g3 g4 g6;rw[ao]at ad g5;obtain⟨ge,ai⟩:∃ge,G.e=ge:=⟨_,rfl⟩;have aa:ge=[strs G.conds,.sl 3 (G.family.nodes.map cK),iV G.family.root,.sl 7 (G.ar.map Tok.e),strs G.aH,.sl 13 (G.ak.map aQ.e),iV G.start,.sl 4 (G.ba.map de.e),.sl 9 (G.bj.map bd.e)]:=by rw[<-ai];rfl
 obtain⟨aA,af⟩:∃ge,G1.e=ge:=⟨_,rfl⟩;rw[ai]at ab g0 g1 g2 g3 g4 g6;rw[af]at ad g5;refine vq Tryz.ntmps4 Tryz.results4 λN=> ?_;refine fg ?_;simp(disch:=omega)[go_sem];refine fg ?_;simp(disch:=omega)[go_sem];refine an.mk ab λM0 av=> ?_;simp(disch:=omega)[go_sem]at av;simp(disch:=omega)[go_sem,aa];rw[<-aa];refine fg ?_;simp(disch:=omega)[go_sem];refine an.mk l0 λM1 aw=> ?_;simp(disch:=omega)[go_sem]at aw;simp(disch:=omega)[go_sem];refine fg ?_;simp(disch:=omega)[go_sem];refine an.mk l1 λM2 az=> ?_;simp(disch:=omega)[go_sem]at az;simp(disch:=omega)[go_sem];refine jr (sc ge [(4,b9 [false,false,false]),(5,iV 0)]) ?_ ?_
 . simp(disch:=omega)[go_sem,aa];rw[<-aa];refine an.fz g0 [M2+1] ?_ ?_ λQ hQ=> ?_
   . simp(disch:=omega)[go_sem]
   . simp(disch:=omega)[go_sem,aa];exact⟨.refl _,dU (gr (wr:=true) (ah:=0) (by simp) (by simp(disch:=omega)[go_sem];try rfl)) (.inl rfl) (by decide) (by simp) (by simp) (by simp)⟩
   simp(disch:=omega)[go_sem]at hQ;simp(disch:=omega)[go_sem,aa];rw[<-aa];refine⟨_,ax.bg (l:=[(1,aM M0),(2,aM M1),(3,aM M2),(4,b9 [false,false,false]),(5,iV 0)]) ?_,M0,M1,M2,_, ?_, ?_, ?_, ?_, ?_, ?_,rfl⟩
   . simp(disch:=omega)[go_sem]
   . simp(disch:=omega)[go_sem,aa]
   . simp(disch:=omega)[go_sem]
   . simp(disch:=omega)[go_sem]
   . simp(disch:=omega)[go_sem];try omega
   . simp(disch:=omega)[go_sem];try omega
   . simp(disch:=omega)[go_sem];try omega
 rintro d ⟨M0,M1,M2,H,m0,m1,m2,h1,h2,h3,rfl⟩;rw[aa]at m0;refine jr (sc ge [(4,b9 [false,false,false]),(5,iV 0),(6,b9 [true,false]),(7,iV 0)]) ?_ ?_
 . simp(disch:=omega)[go_sem,m0,m1,m2];rw[<-aa];refine an.fz g1 [H.next] ?_ ?_ λQ hQ=> ?_
   . simp(disch:=omega)[go_sem]
   . simp(disch:=omega)[go_sem,aa,m0,m1,m2];exact⟨.refl _,dU (gr (wr:=true) (ah:=0) (by simp) (by simp(disch:=omega)[go_sem];try rfl)) (.inl rfl) (by decide) (by simp) (by simp) (by simp)⟩
   simp(disch:=omega)[go_sem]at hQ;simp(disch:=omega)[go_sem,aa,m0,m1,m2];rw[<-aa];refine⟨_,ax.bg (l:=[(1,aM M0),(2,aM M1),(3,aM M2),(4,b9 [false,false,false]),(5,iV 0),(6,b9 [true,false]),(7,iV 0)]) ?_,M0,M1,M2,_, ?_, ?_, ?_, ?_, ?_, ?_,rfl⟩
   . simp(disch:=omega)[go_sem]
   . simp(disch:=omega)[go_sem,aa,m0,m1,m2]
   . simp(disch:=omega)[go_sem,m0,m1,m2]
   . simp(disch:=omega)[go_sem,m0,m1,m2]
   . simp(disch:=omega)[go_sem];try omega
   . simp(disch:=omega)[go_sem];try omega
   . simp(disch:=omega)[go_sem];try omega
 rintro d ⟨M0,M1,M2,H,m0,m1,m2,h1,h2,h3,rfl⟩;rw[aa]at m0;refine jr (sc ge [(4,b9 [false,false,false]),(5,iV 0),(6,b9 [true,false]),(7,iV 0),(8,b9 [true,false,false]),(9,iV 0)]) ?_ ?_
 . simp(disch:=omega)[go_sem,m0,m1,m2];rw[<-aa];refine an.fz g2 [H.next] ?_ ?_ λQ hQ=> ?_
   . simp(disch:=omega)[go_sem]
   . simp(disch:=omega)[go_sem,aa,m0,m1,m2];exact⟨.refl _,dU (gr (wr:=true) (ah:=0) (by simp) (by simp(disch:=omega)[go_sem];try rfl)) (.inl rfl) (by decide) (by simp) (by simp) (by simp)⟩
   simp(disch:=omega)[go_sem]at hQ;simp(disch:=omega)[go_sem,aa,m0,m1,m2];rw[<-aa];refine⟨_,ax.bg (l:=[(1,aM M0),(2,aM M1),(3,aM M2),(4,b9 [false,false,false]),(5,iV 0),(6,b9 [true,false]),(7,iV 0),(8,b9 [true,false,false]),(9,iV 0)]) ?_,M0,M1,M2,_, ?_, ?_, ?_, ?_, ?_, ?_,rfl⟩
   . simp(disch:=omega)[go_sem]
   . simp(disch:=omega)[go_sem,aa,m0,m1,m2]
   . simp(disch:=omega)[go_sem,m0,m1,m2]
   . simp(disch:=omega)[go_sem,m0,m1,m2]
   . simp(disch:=omega)[go_sem];try omega
   . simp(disch:=omega)[go_sem];try omega
   . simp(disch:=omega)[go_sem];try omega
 rintro d ⟨M0,M1,M2,H,m0,m1,m2,h1,h2,h3,rfl⟩;rw[aa]at m0;refine jr (sc ge [(4,b9 [false,false,false]),(5,iV 0),(6,b9 [true,false]),(7,iV 0),(8,b9 [true,false,false]),(9,iV 0),(10,b9 [false,false]),(11,iV 0)]) ?_ ?_
 . simp(disch:=omega)[go_sem];refine bR [dc 0,aN 0,dc 0,cE 6,aN 15,ae 31,ae 63,ae 63,ae 127,ae 511] (by kernel_rfl) 1 rfl ?_;simp(disch:=omega)[go_sem,m0,m1,m2];refine⟨by omega,an.mk l2 λR hR=> ?_⟩;simp(disch:=omega)[go_sem]at hR;simp(disch:=omega)[go_sem,aa,m0,m1,m2];rw[<-aa];refine⟨by omega, ?_⟩;refine an.fz g3 [H.next] ?_ ?_ λQ hQ=> ?_
   . simp(disch:=omega)[go_sem]
   . simp(disch:=omega)[go_sem,aa,m0,m1,m2];exact⟨.refl _,dU (gr (wr:=true) (ah:=0) (by simp) (by simp(disch:=omega)[go_sem];try rfl)) (.inl rfl) (by decide) (by simp) (by simp) (by simp)⟩
   simp(disch:=omega)[go_sem]at hQ;simp(disch:=omega)[go_sem,aa,m0,m1,m2];rw[<-aa];refine⟨_,ax.bg (l:=[(1,aM M0),(2,aM M1),(3,aM M2),(4,b9 [false,false,false]),(5,iV 0),(6,b9 [true,false]),(7,iV 0),(8,b9 [true,false,false]),(9,iV 0),(10,b9 [false,false]),(11,iV 0)]) ?_,M0,M1,M2,_, ?_, ?_, ?_, ?_, ?_, ?_,rfl⟩
   . simp(disch:=omega)[go_sem]
   . simp(disch:=omega)[go_sem,aa,m0,m1,m2]
   . simp(disch:=omega)[go_sem,m0,m1,m2]
   . simp(disch:=omega)[go_sem,m0,m1,m2]
   . simp(disch:=omega)[go_sem];try omega
   . simp(disch:=omega)[go_sem];try omega
   . simp(disch:=omega)[go_sem];try omega
 rintro d ⟨M0,M1,M2,H,m0,m1,m2,h1,h2,h3,rfl⟩;rw[aa]at m0;refine jr (sc ge [(4,b9 [false,false,false]),(5,iV 0),(6,b9 [true,false]),(7,iV 0),(8,b9 [true,false,false]),(9,iV 0),(10,b9 [false,false]),(11,iV 0),(12,b9 [false]),(13,iV 0)]) ?_ ?_
 . simp(disch:=omega)[go_sem];refine bR [dc 0,aN 0,cE 2,aN 7,ae 15,ae 31,ae 31,ae 63,ae 255] (by kernel_rfl) 1 rfl ?_;simp(disch:=omega)[go_sem,m0,m1,m2];refine⟨by omega,an.mk l3 λR hR=> ?_⟩;simp(disch:=omega)[go_sem]at hR;simp(disch:=omega)[go_sem,aa,m0,m1,m2];rw[<-aa];refine an.fz g4 [H.next] ?_ ?_ λQ hQ=> ?_
   . simp(disch:=omega)[go_sem]
   . simp(disch:=omega)[go_sem,aa,m0,m1,m2];exact⟨.refl _,dU (gr (wr:=true) (ah:=0) (by simp) (by simp(disch:=omega)[go_sem];try rfl)) (.inl rfl) (by decide) (by simp) (by simp) (by simp)⟩
   simp(disch:=omega)[go_sem]at hQ;simp(disch:=omega)[go_sem,aa,m0,m1,m2];rw[<-aa];refine⟨_,ax.bg (l:=[(1,aM M0),(2,aM M1),(3,aM M2),(4,b9 [false,false,false]),(5,iV 0),(6,b9 [true,false]),(7,iV 0),(8,b9 [true,false,false]),(9,iV 0),(10,b9 [false,false]),(11,iV 0),(12,b9 [false]),(13,iV 0)]) ?_,M0,M1,M2,_, ?_, ?_, ?_, ?_, ?_, ?_,rfl⟩
   . simp(disch:=omega)[go_sem]
   . simp(disch:=omega)[go_sem,aa,m0,m1,m2]
   . simp(disch:=omega)[go_sem,m0,m1,m2]
   . simp(disch:=omega)[go_sem,m0,m1,m2]
   . simp(disch:=omega)[go_sem];try omega
   . simp(disch:=omega)[go_sem];try omega
   . simp(disch:=omega)[go_sem];try omega
 rintro d ⟨M0,M1,M2,H,m0,m1,m2,h1,h2,h3,rfl⟩;rw[aa]at m0;refine jr (sc ge [(4,b9 [false,false,false]),(5,iV 0),(6,b9 [true,false]),(7,iV 0),(8,b9 [true,false,false]),(9,iV 0),(10,b9 [false,false]),(11,iV 0),(12,b9 [false]),(13,iV 0),(15,iV 240)]) ?_ ?_
 . simp(disch:=omega)[go_sem];refine bR [aN 0,dc 0,dc 0,cE 6,aN 15,ae 31,ae 63,ae 63,ae 127,ae 511] (by kernel_rfl) 1 rfl ?_;simp(disch:=omega)[go_sem,m0,m1,m2];refine an.mk ad λR hR=> ?_;simp(disch:=omega)[go_sem]at hR;simp(disch:=omega)[go_sem,m0,m1,m2];refine⟨by omega, ?_⟩;refine an.fz g5 [H.next] ?_ ?_ λQ hQ=> ?_
   . simp(disch:=omega)[go_sem]
   . simp(disch:=omega)[go_sem,aa,m0,m1,m2];exact⟨.refl _,dU (gr (wr:=true) (ah:=0) (by simp) (by simp(disch:=omega)[go_sem];try rfl)) (.inl rfl) (by decide) (by simp) (by simp) (by simp)⟩
   simp(disch:=omega)[go_sem]at hQ;simp(disch:=omega)[go_sem,aa,m0,m1,m2];refine⟨_,ax.bg (l:=[(1,aM M0),(2,aM M1),(3,aM M2),(4,b9 [false,false,false]),(5,iV 0),(6,b9 [true,false]),(7,iV 0),(8,b9 [true,false,false]),(9,iV 0),(10,b9 [false,false]),(11,iV 0),(12,b9 [false]),(13,iV 0),(15,iV 240)]) ?_,M0,M1,M2,_, ?_, ?_, ?_, ?_, ?_, ?_,rfl⟩
   . simp(disch:=omega)[go_sem]
   . simp(disch:=omega)[go_sem,aa,m0,m1,m2]
   . simp(disch:=omega)[go_sem,m0,m1,m2]
   . simp(disch:=omega)[go_sem,m0,m1,m2]
   . simp(disch:=omega)[go_sem];try omega
   . simp(disch:=omega)[go_sem];try omega
   . simp(disch:=omega)[go_sem];try omega
 rintro d ⟨M0,M1,M2,H,m0,m1,m2,h1,h2,h3,rfl⟩;rw[aa]at m0;refine jr (sc ge [(4,b9 [false,false,false]),(5,iV 0),(6,b9 [true,false]),(7,iV 0),(8,b9 [true,false,false]),(9,iV 0),(10,b9 [false,false]),(11,iV 0),(12,b9 [false]),(13,iV 0),(15,iV 240),(17,iV 91)]) ?_ ?_
 . simp(disch:=omega)[go_sem];refine bR [dc 0,aN 0,cE 2,aN 7,ae 15,ae 31,ae 31,ae 63,ae 255] (by kernel_rfl) 1 rfl ?_;simp(disch:=omega)[go_sem,m0,m1,m2];refine⟨by omega,an.mk l4 λR hR=> ?_⟩;simp(disch:=omega)[go_sem]at hR;simp(disch:=omega)[go_sem,aa,m0,m1,m2];rw[<-aa];refine an.fz g6 [H.next] ?_ ?_ λQ hQ=> ?_
   . simp(disch:=omega)[go_sem]
   . simp(disch:=omega)[go_sem,aa,m0,m1,m2];exact⟨.refl _,dU (gr (wr:=true) (ah:=0) (by simp) (by simp(disch:=omega)[go_sem];try rfl)) (.inl rfl) (by decide) (by simp) (by simp) (by simp)⟩
   simp(disch:=omega)[go_sem]at hQ;simp(disch:=omega)[go_sem,aa,m0,m1,m2];rw[<-aa];refine⟨_,ax.bg (l:=[(1,aM M0),(2,aM M1),(3,aM M2),(4,b9 [false,false,false]),(5,iV 0),(6,b9 [true,false]),(7,iV 0),(8,b9 [true,false,false]),(9,iV 0),(10,b9 [false,false]),(11,iV 0),(12,b9 [false]),(13,iV 0),(15,iV 240),(17,iV 91)]) ?_,M0,M1,M2,_, ?_, ?_, ?_, ?_, ?_, ?_,rfl⟩
   . simp(disch:=omega)[go_sem]
   . simp(disch:=omega)[go_sem,aa,m0,m1,m2]
   . simp(disch:=omega)[go_sem,m0,m1,m2]
   . simp(disch:=omega)[go_sem,m0,m1,m2]
   . simp(disch:=omega)[go_sem];try omega
   . simp(disch:=omega)[go_sem];try omega
   . simp(disch:=omega)[go_sem];try omega
 rintro d ⟨M0,M1,M2,H,m0,m1,m2,h1,h2,h3,rfl⟩;rw[aa]at m0;refine fg ?_;simp(disch:=omega)[go_sem];refine an.pl (vY [false,false,false] (by decide)) ?_ λQ hQ=> ?_
 . simp(disch:=omega)[go_sem,m0,m1,m2];exact dU (cx (wr:=true) (by simp(disch:=omega)[go_sem];try rfl)) (.inl rfl) (by decide) (by simp) (by simp) (by simp)
 simp(disch:=omega)[go_sem]at hQ;simp(disch:=omega)[go_sem];refine an.pl (vY [true,false] (by decide)) ?_ λQ hQ=> ?_
 . simp(disch:=omega)[go_sem,m0,m1,m2];exact dU (cx (wr:=true) (by simp(disch:=omega)[go_sem];try rfl)) (.inl rfl) (by decide) (by simp) (by simp) (by simp)
 simp(disch:=omega)[go_sem]at hQ;simp(disch:=omega)[go_sem];refine an.pl (vY [true,false,false] (by decide)) ?_ λQ hQ=> ?_
 . simp(disch:=omega)[go_sem,m0,m1,m2];exact dU (cx (wr:=true) (by simp(disch:=omega)[go_sem];try rfl)) (.inl rfl) (by decide) (by simp) (by simp) (by simp)
 simp(disch:=omega)[go_sem]at hQ;simp(disch:=omega)[go_sem];refine vt ?_;simp(disch:=omega)[go_sem];refine an.pl (vY [false,false] (by decide)) ?_ λQ hQ=> ?_
 . simp(disch:=omega)[go_sem,m0,m1,m2];exact dU (cx (wr:=true) (by simp(disch:=omega)[go_sem];try rfl)) (.inl rfl) (by decide) (by simp) (by simp) (by simp)
 simp(disch:=omega)[go_sem]at hQ;simp(disch:=omega)[go_sem];refine an.pl (vY [false] (by decide)) ?_ λQ hQ=> ?_
 . simp(disch:=omega)[go_sem,m0,m1,m2];exact dU (cx (wr:=true) (by simp(disch:=omega)[go_sem];try rfl)) (.inl rfl) (by decide) (by simp) (by simp) (by simp)
 simp(disch:=omega)[go_sem]at hQ;simp(disch:=omega)[go_sem]
theorem Jy{g:ai}{c:Nat}:∀(k:Nat) {L:List Lf} {gs:List Bool} {t:ByteArray},dr g c L=some (gs,t)->gs.length=L.length/\∃t',dr g c (L.drop k)=some (gs.drop k,t')
 |k,[],gs,t,h=>by
  simp only[dr,Option.some.injEq,Prod.mk.injEq]at h;obtain⟨rfl,rfl⟩:=h;exact⟨rfl,⟨#[]⟩,by simp[dr]⟩
 |k,l::L,gs,t,h=>by
  have h0:=h;simp only[dr]at h;cases hs:dr g c L with
  |none=>rw[hs]at h;cases h
  |some q=>
   obtain⟨af,t1⟩:=q;simp only[hs]at h;have hg:∃b,gs=b::af:=by
    split at h
    . cases h;exact⟨_,rfl⟩
    . split at h
      . cases h;exact⟨_,rfl⟩
      . cases h
   obtain⟨b,rfl⟩:=hg;have ih:=λk=>Jy k hs;refine⟨by simp[(ih 0).1], ?_⟩;cases k with
   |zero=>exact⟨t,h0⟩
   |succ k=>exact(ih k).2
theorem adl(d:Dg):∀t∈ll d,(t.lit=⟨#[]⟩->∃m∈cW,t.pat=m.p)/\t.lit.size<=4:=by
 have hl:∀s∈lits++jT,s≠⟨#[]⟩/\s.size<=4:=by
  have h:((lits++jT).all λs=> !decide (s=⟨#[]⟩)&&decide (s.size<=4))=true:=by kernel_rfl
  intro s hs;simpa using PO.1 h s hs
 intro t ht;simp only[ll,ar,DE,Er,W9,GP,or_false]at ht;rcases ht with((rfl|⟨s,ab,rfl⟩)|rfl|rfl)|⟨s,ab,rfl⟩|rfl|rfl|rfl
 . exact⟨λ_=>⟨_,fM 0 fY rfl,rfl⟩,by decide⟩
 . have:=hl s (DE.2 (.inl ab));exact⟨λh=>absurd h this.1,this.2⟩
 . exact⟨λ_=>⟨_,fM 1 vN rfl,rfl⟩,by decide⟩
 . exact⟨λ_=>⟨_,fM 2 vO rfl,rfl⟩,by decide⟩
 . have:=hl s (DE.2 (.inr ab));exact⟨λh=>absurd h this.1,this.2⟩
 . exact⟨λ_=>⟨_,fM 3 lj rfl,rfl⟩,Nat.zero_le _⟩
 . exact⟨λ_=>⟨_,fM 4 tR rfl,rfl⟩,by decide⟩
 . exact⟨λ_=>⟨_,fM 5 vQ rfl,rfl⟩,by decide⟩
theorem CQ(r:eL)(hr:r.Ok)(t:Tok)(ht:t∈(cu r).ar):((t.lit=⟨#[]⟩->∃m∈cW,t.pat=m.p)/\t.lit.size<=4)/\∃ct,t.cond=aF ct/\ct<256:=by
 have h:=vS r hr;obtain⟨t',h1,h2⟩:=IW h.strip ht;have ad:(ar++gd r.marks (cr bp r.x).conds.length).Sublist (ll (cg bp r.marks (cr bp r.x).conds.length)):=List.Sublist.append (List.Sublist.refl _) (tU _ _);obtain⟨_,b2,b3,_⟩:=I8 h2;have q:=adl _ t' (ad.subset h1);rw[<-b2,<-b3]at q;obtain⟨c0,c1,c2⟩:=h.cond t ht;exact⟨q,c0,c1,c2.1⟩
theorem Jz(r:eL)(hr:r.Ok):lq (cu r):=by
 refine⟨λt ht=>(CQ r hr t ht).1.1, ?_,λt ht=>(CQ r hr t ht).2⟩;have:=(IX (vS r hr) (tV r).1).len;omega
theorem adm:∀q∈mT,0<q.2.size/\q.2.size<=4:=by
 have h:(mT.all λq=>decide (0<q.2.size)&&decide (q.2.size<=4))=true:=by kernel_rfl
 intro q hq;simpa using PO.1 h q hq
theorem size_pos{s:ByteArray}(h:s≠⟨#[]⟩):0<s.size:=by
 rcases Nat.eq_zero_or_pos s.size with h0|h0
 . exact absurd (ByteArray.size_eq_zero_iff.1 h0) h
 . exact h0
theorem JA(r:eL)(hr:r.Ok)(c:Nat):∀l∈mU r c,tY (cu r) c l:=by
 intro l hl;obtain⟨h1,h2⟩:=List.mem_filter.1 hl;obtain⟨b,hb,rfl⟩:=W9.1 h1;have ao:=hr.leaves b (List.mem_of_mem_take hb);unfold kA at h2;cases ht:(cu r).ar[(gJ (cu r).ar b).tok]? with
 |none=>rw[ht]at h2;cases h2
 |some t=>
  simp only[ht,kR,ZJ,decide_eq_true_eq]at h2;obtain⟨⟨a1,a2⟩,a3⟩:=h2;have ae:(gJ (cu r).ar b).text=kS t (gJ (cu r).ar b).tok b:=by
   show kS (((cu r).ar[(b%(cu r).ar.length).toNat]?).getD ik) _ b=_;have:(cu r).ar[(b%(cu r).ar.length).toNat]? =some t:=ht;rw[this];rfl
  have hq:=CQ r hr t (xS ht);by_cases h0:t.lit=⟨#[]⟩
  . obtain⟨q,q1,q2,q3⟩:=I9 r hr _ t b ht ao a1 h0;rw[<-ae]at q3;refine⟨⟨t,ht,a1,a2,.inr ⟨h0, ?_⟩⟩,by rw[q3];exact adm q q1⟩;rw[q2,q3];exact CG q q1
  . have aa:(gJ (cu r).ar b).text=t.lit:=by rw[ae];unfold kS;rw[if_neg h0]
    exact⟨⟨t,ht,a1,a2,.inl ⟨h0,aa⟩⟩,by rw[aa];exact⟨size_pos h0,hq.1.2⟩⟩
theorem adn(r:eL)(c:Nat):(mU r c).length<=12:=by
 unfold mU;refine Nat.le_trans (List.length_filter_le _ _) ?_;rw[List.length_map,List.length_take];omega
end Go.Sp
end

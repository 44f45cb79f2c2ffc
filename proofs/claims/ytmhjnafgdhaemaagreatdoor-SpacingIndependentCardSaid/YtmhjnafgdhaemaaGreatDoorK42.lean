/- SpacingIndependent: parts of its proof. -/
import Derived.Test.YtmhjnafgdhaemaaGreatDoorK24
import Derived.Test.YtmhjnafgdhaemaaGreatDoorK27
import Derived.Test.YtmhjnafgdhaemaaGreatDoorK28
import Derived.Test.YtmhjnafgdhaemaaGreatDoorK29
import Derived.Test.YtmhjnafgdhaemaaGreatDoorK30
import Derived.Test.YtmhjnafgdhaemaaGreatDoorK31
import Derived.Test.YtmhjnafgdhaemaaGreatDoorK32
import Derived.Test.YtmhjnafgdhaemaaGreatDoorK33
import Derived.Test.YtmhjnafgdhaemaaGreatDoorK34
import Derived.Test.YtmhjnafgdhaemaaGreatDoorK35
import Derived.Test.YtmhjnafgdhaemaaGreatDoorK36
import Derived.Test.YtmhjnafgdhaemaaGreatDoorK37
import Derived.Test.YtmhjnafgdhaemaaGreatDoorK38
import Derived.Test.YtmhjnafgdhaemaaGreatDoorK39
import Derived.Test.YtmhjnafgdhaemaaGreatDoorK40
import Derived.Test.YtmhjnafgdhaemaaGreatDoorK41
open List renaming range->qe,all_eq_true->xS,mem_map->DE,getElem?_eq_getElem->GP,mem_of_getElem?->PO,mem_range->PX,mem_flatMap->Qc,getElem?_cons_zero->W2,getElem?_eq_some_iff->Xw
open Iff renaming rfl->Er
open Int renaming toNat_of_nonneg->TF
open Nat renaming zero_add->VK,ble_eq_true_of_le->Zj,pow_le_pow_right->ZL
open Option.some renaming injEq->W9
open BitVec renaming ofInt->Zr
open Bool renaming and_eq_true->ZJ
set_option linter.all false
set_option maxRecDepth 100000
noncomputable section
open Go Go.au Go.Proofs
namespace Go.Sp
theorem YH:∀p∈gy,gz p:=Bp 14 20 (by decide) λi hi=>match i,hi with
 |0,_=>XF
 |1,_=>XG
 |2,_=>XH
 |3,_=>XI
 |4,_=>XJ
 |5,_=>XK
 |6,_=>XL
 |7,_=>XM
 |8,_=>XN
 |9,_=>XO
 |10,_=>XP
 |11,_=>XQ
 |12,_=>XR
 |13,_=>XS
 |14,_=>XT
 |15,_=>XU
 |16,_=>XV
 |17,_=>XW
 |18,_=>XX
 |19,_=>XY
 |i+20,h=>absurd h (by omega)
theorem fit:∀p∈dW,gA p:=Bp 14 20 (by decide) λi hi=>match i,hi with
 |0,_=>XZ
 |1,_=>X0
 |2,_=>X5
 |3,_=>X6
 |4,_=>X7
 |5,_=>X8
 |6,_=>X9
 |7,_=>Ya
 |8,_=>Yb
 |9,_=>Yc
 |10,_=>Yd
 |11,_=>Ye
 |12,_=>Yf
 |13,_=>Yg
 |14,_=>Yh
 |15,_=>Yi
 |16,_=>Yj
 |17,_=>Yk
 |18,_=>Yl
 |19,_=>Ym
 |i+20,h=>absurd h (by omega)
theorem YI:∀p∈qe 256,gB p:=Bp 13 20 (by decide) λi hi=>match i,hi with
 |0,_=>Yn
 |1,_=>Yo
 |2,_=>Yp
 |3,_=>Yq
 |4,_=>Yr
 |5,_=>Ys
 |6,_=>Yt
 |7,_=>Yu
 |8,_=>Yv
 |9,_=>Yw
 |10,_=>Yx
 |11,_=>Yy
 |12,_=>Yz
 |13,_=>YA
 |14,_=>YB
 |15,_=>YC
 |16,_=>YD
 |17,_=>YE
 |18,_=>YF
 |19,_=>YG
 |i+20,h=>absurd h (by omega)
theorem Bt(c:Nat)(hc:c<256):ay E true 68 [.agg (aF c).e] (iV 0):=YI c (PX.2 hc)
theorem YJ(v t:Nat)(hv:v<3)(ht:t∈tv v):ay E true 84 [.agg (aF (xv v)).e,.agg (aF t).e] (.agg (aF (xv v&&&t)).e):=XD (xv v,t) (Qc.2 ⟨v,PX.2 hv,DE.2 ⟨t,ht,rfl⟩⟩)
theorem YK(v t:Nat)(hv:v<3)(ht:t∈tv v):ay E true 84 [.agg (aF t).e,.agg (aF (255-xv v)).e] (.agg (aF (t&&&(255-xv v))).e):=XE (t,255-xv v) (Qc.2 ⟨v,PX.2 hv,DE.2 ⟨t,ht,rfl⟩⟩)
theorem univ(v t s:Nat)(hv:v<3)(ht:t∈tv v)(hs:s∈tv v):ay E true 83 [.agg (aF (xv v&&&t)).e,.agg (aF (s&&&(255-xv v))).e] (.agg (aF ((xv v&&&t)|||(s&&&(255-xv v)))).e):=YH (xv v&&&t,s&&&(255-xv v)) (Qc.2 ⟨v,PX.2 hv,Qc.2 ⟨t,ht,DE.2 ⟨s,hs,rfl⟩⟩⟩)
theorem YL(v:Nat)(hv:v<3):ay E true 30 [.agg (aF (xv v)).e] (.agg (aF (255-xv v)).e):=XC (xv v) (by rcases v with _|_|_|v<;>first|decide|omega)
theorem YM(v t:Nat)(hv:v<3)(ht:t∈tv v):ay E true 85 [.agg (aF t).e,.agg (aF (xv v)).e] (.agg (aF (t&&&(255-xv v))).e):=by
 have h1:=YL v hv;have h2:=YK v t hv ht;generalize aF t=a at*;generalize aF (xv v)=b at*;generalize aF (255-xv v)=c at*;generalize aF (t&&&(255-xv v))=r at*;refine aW Tryz.ntmps85 Tryz.results85 λN=> ?_;simp(disch:=omega)[go_sem,Dg.e];refine bR [dc 0,aD 0,aN 2,aN 7,aN 15] (by kernel_rfl) 0 rfl ?_;simp(disch:=omega)[go_sem,Dg.e];refine an.mk h1 λM hM=> ?_;simp(disch:=omega)[go_sem]at hM;simp(disch:=omega)[go_sem,Dg.e];refine an.mk h2 λM2 ab=> ?_;simp(disch:=omega)[go_sem]at ab;simp(disch:=omega)[go_sem,Dg.e]
def fW(b:Nat):Nat->Nat->Nat->Nat
 |0,_,k=>if b.testBit k then 255 else 0
 |j+1,v,k=>(xv v&&&fW b j (v+1) (k+2^v))|||(fW b j (v+1) k&&&(255-xv v))
theorem GW(b j v k:Nat)(hb:b<256)(hv:v<3)(hj:v+1+j<=3)(hk:k<8):fW b j (v+1) k∈tv v:=by
 have h:((qe 256).all λb=>(qe 3).all λv=>(qe 3).all λj=>(qe 8).all λk=> !Nat.ble (v+1+j) 3||(tv v).contains (fW b j (v+1) k))=true:=by kernel_rfl
 have:=xS.1 (xS.1 (xS.1 (xS.1 h b (by simpa using hb)) v (by simpa using hv)) j (by simp;omega)) k (by simpa using hk);rw[Zj hj]at this;simpa using this
theorem vu:aF 255=aP true/\aF 0=aP false:=⟨rfl,rfl⟩
theorem GX(v:Nat)(hv:v<3):aF (xv v)=vr v:=by
 have:v=0\/v=1\/v=2:=by omega
 rcases this with rfl|rfl|rfl<;>rfl
def hd(l:List Int):Nat:=(l.headD 0).toNat
theorem YN{e:Env}{ty:TypeId}{x y:Operand}{n:Int}(h0:0<=n)(h1:n<256):cD e .and ty x y (.int .u8 n) (.int .u8 1)=some (.int .u8 (n%2)):=by
 rw[Fm];have h:((qe 256).all λn=>decide (IntKind.u8.wrap ((Zr IntKind.u8.bits (n:Int)&&&Zr IntKind.u8.bits 1).toNat:Nat)=(n:Int)%2))=true:=by kernel_rfl
 have:=xS.1 h n.toNat (by simp;omega);rw[TF h0]at this;rw[of_decide_eq_true this]
theorem YO(b:Int)(k:Nat)(h0:0<=b)(h1:b<256)(hk:k<8):(b.fdiv (2^k)%2=1↔b.toNat.testBit k=true)/\0<=b.fdiv (2^k)/\b.fdiv (2^k)<256:=by
 have h:((qe 256).all λb=>(qe 8).all λk=>(decide ((b:Int).fdiv (2^k)%2=1)==b.testBit k)&&decide (0<=(b:Int).fdiv (2^k))&&decide ((b:Int).fdiv (2^k)<256))=true:=by kernel_rfl
 have:=xS.1 (xS.1 h b.toNat (by simp;omega)) k (by simpa using hk);rw[TF h0]at this;simp only[ZJ,decide_eq_true_iff]at this;refine⟨?_,this.1.2,this.2⟩;rw[<-eq_of_beq this.1.1,decide_eq_true_iff]
theorem YP(l:List Int)(hl:∀b∈l,0<=b/\b<256)(n k:Nat)(hk:k<8):ay E true 49 [.sl 1 (l.map λb=>[uV b]),iV n,iV n,iV k] (.agg (aF (fW (hd l) 0 n k)).e):=by
 have aa:aF (fW (hd l) 0 n k)=aP ((hd l).testBit k):=by
  simp only[fW];cases(hd l).testBit k
  . exact vu.2
  . exact vu.1
 rw[aa];have ao:((k:Int)/8)=0:=by omega
 have av:((k:Int)%8)=k:=by omega
 have ad:IntKind.u64.wrap (k:Int)=k:=by
  have h:((qe 8).all λk=>decide (IntKind.u64.wrap (k:Int)=k))=true:=by kernel_rfl
  simpa using xS.1 h k (by simpa using hk)
 refine aW Tryz.ntmps49 Tryz.results49 λN=> ?_;cases l with
 |nil=>
  simp(disch:=omega)[go_sem,jj,cT,ao,av,aC];refine an.mk (oT false) λM hM=> ?_;simp(disch:=omega)[go_sem]at hM;simp(disch:=omega)[go_sem,Dg.e,hd]
 |cons b r=>
  have hb:=hl b (by simp);obtain⟨af,aQ,aR⟩:=YO b k hb.1 hb.2 hk;simp(disch:=first|assumption|omega) [go_sem,jj,cT,ao,av,ad,aC,YN,af];refine an.mk (oT _) λM hM=> ?_;simp(disch:=omega)[go_sem]at hM;simp(disch:=omega)[go_sem,Dg.e,hd,Nat.testBit_eq_decide_div_mod_eq]
theorem Bu(l:List Int)(hl:∀b∈l,0<=b/\b<256)(n:Nat)(hn:n<=3):∀(j v k:Nat),v+j=n->k<2^v->ay E true 49 [.sl 1 (l.map λb=>[uV b]),iV n,iV v,iV k] (.agg (aF (fW (hd l) j v k)).e)
 |0,v,k,hj,hk=>by
  have:v=n:=by omega
  subst this;have:k<8:=Nat.lt_of_lt_of_le hk (ZL (by omega) hn);exact YP l hl v k this
 |j+1,v,k,hj,hk=>by
  have hv:v<3:=by omega
  have aB:k+2^v<2^(v+1):=by rw[Nat.pow_succ];omega
  have aE:k<2^(v+1):=by omega
  have aw:=Bu l hl n hn j (v+1) (k+2^v) (by omega) aB;have az:=Bu l hl n hn j (v+1) k (by omega) aE;have hb:hd l<256:=by
   cases l with
   |nil=>simp[hd]
   |cons b r=>have:=hl b (by simp);simp[hd];omega
  have h8:2^(v+1)<=8:=ZL (n:=2) (by omega) (show v+1<=3 by omega);have t1:=GW (hd l) j v (k+2^v) hb hv (by omega) (by omega);have t0:=GW (hd l) j v k hb hv (by omega) (by omega);have hA:=YJ v _ hv t1;have hB:=YM v _ hv t0;have hU:=univ v _ _ hv t1 t0;rw[GX v hv]at hA hB;have aa:aF (fW (hd l) (j+1) v k)=aF ((xv v&&&fW (hd l) j (v+1) (k+2^v))|||(fW (hd l) j (v+1) k&&&(255-xv v))):=rfl;rw[aa];clear aa;generalize aF ((xv v&&&fW (hd l) j (v+1) (k+2^v))|||(fW (hd l) j (v+1) k&&&(255-xv v)))=R at*;generalize aF (xv v&&&fW (hd l) j (v+1) (k+2^v))=A at*;generalize aF (fW (hd l) j (v+1) k&&&(255-xv v))=B at*;generalize aF (fW (hd l) j (v+1) (k+2^v))=P at*;generalize aF (fW (hd l) j (v+1) k)=Q at*;have e1:¬(v:Int)=n:=by omega
  have e2:¬n=v:=by omega
  have e3:¬v=n:=by omega
  have hs:IntKind.i64.wrap (2^v)=2^v:=by
   have:v=0\/v=1\/v=2:=by omega
   rcases this with rfl|rfl|rfl<;>decide
  have hw:IntKind.u64.wrap (v:Int)=v:=by
   have:v=0\/v=1\/v=2:=by omega
   rcases this with rfl|rfl|rfl<;>decide
  have ai:min v IntKind.i64.bits=v:=by simp[IntKind.bits];omega
  have hp:(0:Int)<2^v/\(2:Int)^v<=4:=by
   have:v=0\/v=1\/v=2:=by omega
   rcases this with rfl|rfl|rfl<;>decide
  have aS:k<4:=by
   have:v=0\/v=1\/v=2:=by omega
   rcases this with rfl|rfl|rfl<;>simp at hk<;>omega
  have hc:((k+2^v:Nat):Int)=(k:Int)+2^v:=by simp
  have aA:((v+1:Nat):Int)=(v:Int)+1:=by simp
  rw[hc,aA]at aw;rw[aA]at az;generalize hq:(2:Int)^v=q at*;refine aW Tryz.ntmps49 Tryz.results49 λN=> ?_;simp(disch:=omega)[go_sem,aC,e1,e2,e3];refine an.mk (Gt v (by omega) (by omega)) λM hM=> ?_;simp(disch:=omega)[go_sem]at hM;simp(disch:=omega)[go_sem,Dg.e];refine bR [dc 0,ae 0,ae 0,ae 0,ae 8,ae 0,ae 0,aD 64,ae 192,ae 480,aN 1022,aN 2047,ae 0,ae 0,ae 0,ae 16384,ae 0,aN 131071,⟨.read,0,some (0,4),true⟩,aN 524287,aN 1048575,aN 2097151] (by kernel_rfl) 0 rfl ?_;simp(disch:=omega)[go_sem,aC,hw,ai,hq];refine an.mk aw λM2 ab=> ?_;simp(disch:=omega)[go_sem]at ab;simp(disch:=omega)[go_sem,Dg.e];refine an.mk hA λM3 aI=> ?_;simp(disch:=omega)[go_sem]at aI;simp(disch:=omega)[go_sem,Dg.e,aC];refine an.mk az λM4 aK=> ?_;simp(disch:=omega)[go_sem]at aK;simp(disch:=omega)[go_sem,Dg.e];refine an.mk hB λM5 aL=> ?_;simp(disch:=omega)[go_sem]at aL;simp(disch:=omega)[go_sem,Dg.e];refine an.mk hU λM6 aM=> ?_;simp(disch:=omega)[go_sem]at aM;simp(disch:=omega)[go_sem,Dg.e]
def bp(l:List Int)(n:Nat):Dg:=aF (fW (hd l) n 0 0)
theorem YQ(n:Nat)(hn:n<=3):((pY [iV n,.v (.int .i64 6)]).bind λl=>(pJ E l).map DV.v)=some (iV n):=by
 have:n=0\/n=1\/n=2\/n=3:=by omega
 rcases this with rfl|rfl|rfl|rfl<;>rfl
theorem YR(n:Nat)(hn:n<=3):((pY [.v (.int .i64 0),iV n]).bind λl=>(qZ E l).map DV.v)=some (iV n):=by
 have:n=0\/n=1\/n=2\/n=3:=by omega
 rcases this with rfl|rfl|rfl|rfl<;>rfl
theorem GY:GR bp:=by
 intro l n hl hn;have h:=Bu l hl n hn n 0 0 (by omega) (by simp);have hr:bp l n=aF (fW (hd l) n 0 0):=rfl;rw[hr];generalize aF (fW (hd l) n 0 0)=R at*;refine aW Tryz.ntmps25 Tryz.results25 λN=> ?_;simp(disch:=omega)[go_sem,YQ n hn,YR n hn];refine an.mk h λM hM=> ?_;simp(disch:=omega)[go_sem]at hM;simp(disch:=omega)[go_sem,Dg.e]
theorem YS(v:Int)(n:Nat)(hn:n<=3)(h0:0<=v)(h1:v<n):(∃c,vr v=aF c/\(c,(n:Int))∈dW)/\∃c,tp v=aF c/\(c,(n:Int))∈dW:=by
 have h:((qe 4).all λn=>(qe 3).all λv=> !Nat.blt v n||(dW.contains (xv v,(n:Int))&&dW.contains (255-xv v,(n:Int))))=true:=by kernel_rfl
 have h2:=xS.1 (xS.1 h n (by simp;omega)) v.toNat (by simp;omega);have h3:Nat.blt v.toNat n=true:=Zj (show v.toNat+1<=n by omega);rw[h3]at h2;simp only[Bool.not_true,Bool.false_or,ZJ,List.contains_eq_mem,decide_eq_true_eq]at h2;refine⟨⟨_, ?_,h2.1⟩,⟨_, ?_,h2.2⟩⟩
 . rw[GX _ (by omega),TF h0]
 . have:v=0\/v=1\/v=2:=by omega
   rcases this with rfl|rfl|rfl<;>rfl
theorem GZ(b n:Nat)(hb:b<256)(hn:n<=3):(fW b n 0 0,(n:Int))∈dW:=by
 have h:((qe 256).all λb=>(qe 4).all λn=>dW.contains (fW b n 0 0,(n:Int)))=true:=by kernel_rfl
 simpa using xS.1 (xS.1 h b (by simpa using hb)) n (by simp;omega)
theorem G5(b:Int)(n:Nat)(hb:0<=b)(aT:b<256)(hn:n<=3):∃c,cg bp b n=aF c/\(c,(n:Int))∈dW:=by
 unfold cg
 split
 . refine⟨255,vu.1.symm, ?_⟩;have h:((qe 4).all λn=>dW.contains (255,(n:Int)))=true:=by kernel_rfl
   simpa using xS.1 h n (by simp;omega)
 . rename_i h;have aU:0<n:=by omega
   have h1:b/6%(n:Int)<n:=Int.emod_lt_of_pos _ (by omega);have h2:0<=b/6%(n:Int):=Int.emod_nonneg _ (by omega);have hv:=YS (b/6%n) n hn h2 h1
   split
   . exact hv.1
   . split
     . exact hv.2
     . exact⟨_,rfl,GZ _ n (by simp[hd];omega) hn⟩
theorem YT:GS bp:=by
 intro b n h0 h1 hn;obtain⟨c,h2,h3⟩:=G5 b n h0 h1 hn;rw[h2];exact fit (c,(n:Int)) h3
theorem YU(x:cB)(hx:x.Ok):ay E true 12 [.agg x.e] (.agg (cr bp x).e):=Xy GU bp GY YT x hx
theorem tr{n:Nat}{x:List DV}(h:x.length=n+1):eQ (some (some (n+1))) x 0=some (.agg x):=by
 simp only[eQ,VK,h,Nat.le_refl,if_true,List.drop_zero];rw[List.take_of_length_le (by omega)]
theorem YV{aj:Bool}(xs:List (List DV))(f:FuncId)(c:List DV)(hx:∀x∈xs,x.length=3)(hlen:xs.length<=1000000)(hf:∀x∈xs,ay E aj f (.agg x::c) (bV false)):ay E aj 181 [.sl 3 xs,.fn f [] c] (iV (-1)):=by
 refine aW Tryz.ntmps181 Tryz.results181 λN=> ?_;simp(disch:=omega)[go_sem];obtain⟨I,hI⟩:∃I:Nat->DS->Prop,∀j d,I j d↔∃(k P:Nat),j+k=xs.length/\d=⟨bz [(0,.sl 3 xs),(1,.fn f [] c),(7,iV xs.length),(8,iV k)],19,[],cw P []⟩:=⟨_,λ_ _=>Er⟩;refine bO I xs.length ⟨_,ax.mk (N:=N) ?_ ?_ ?_,(hI _ _).2 ⟨0,N,rfl,rfl⟩⟩ ?_
 . simp(disch:=omega)[go_sem]
 . simp(disch:=omega)[go_sem]
 . simp(disch:=omega)[go_sem]
 . intro j ds ab;obtain⟨k,P,hj,rfl⟩:=(hI _ _).1 ab;clear ab;by_cases ae:k<xs.length
   . have aa:(k:Int)<xs.length:=by omega
     obtain⟨x,ad⟩:∃x,xs[k]? =some x:=⟨_,GP ae⟩;have hm:=PO ad;have af:=tr (hx x hm);simp(disch:=omega)[go_sem,aa,ad,-getElem?_pos,af];refine an.mk (hf x hm) λP2 ai=> ?_;simp(disch:=omega)[go_sem]at ai;simp(disch:=omega)[go_sem,aC];refine⟨j-1,by omega,_,ax.mk (N:=P2) ?_ ?_ ?_,(hI _ _).2 ⟨k+1,P2,by omega,rfl⟩⟩
     . simp(disch:=omega)[go_sem]
     . simp(disch:=omega)[go_sem]
     . simp(disch:=omega)[go_sem]
   . have aa:¬(k:Int)<xs.length:=by omega
     simp(disch:=omega)[go_sem,aa]
theorem hasB{aj:Bool}(xs:List (List DV))(f:FuncId)(c:List DV)(hx:∀x∈xs,x.length=3)(hlen:xs.length<=1000000)(hf:∀x∈xs,ay E aj f (.agg x::c) (bV false)):ay E aj 168 [.sl 3 xs,.fn f [] c] (bV false):=by
 refine aW Tryz.ntmps168 Tryz.results168 λN=> ?_;simp(disch:=omega)[go_sem];refine an.mk (YV xs f c hx hlen hf) λM hM=> ?_;simp(disch:=omega)[go_sem]at hM;simp(disch:=omega)[go_sem]
theorem YW{aj:Bool}(xs:List (List DV))(f:FuncId)(c:List DV)(hx:∀x∈xs,x.length=13)(hlen:xs.length<=1000000)(hf:∀x∈xs,ay E aj f (.agg x::c) (bV false)):ay E aj 166 [.sl 13 xs,.fn f [] c] (iV (-1)):=by
 refine aW Tryz.ntmps166 Tryz.results166 λN=> ?_;simp(disch:=omega)[go_sem];obtain⟨I,hI⟩:∃I:Nat->DS->Prop,∀j d,I j d↔∃(k P:Nat),j+k=xs.length/\d=⟨bz [(0,.sl 13 xs),(1,.fn f [] c),(7,iV xs.length),(8,iV k)],19,[],cw P []⟩:=⟨_,λ_ _=>Er⟩;refine bO I xs.length ⟨_,ax.mk (N:=N) ?_ ?_ ?_,(hI _ _).2 ⟨0,N,rfl,rfl⟩⟩ ?_
 . simp(disch:=omega)[go_sem]
 . simp(disch:=omega)[go_sem]
 . simp(disch:=omega)[go_sem]
 . intro j ds ab;obtain⟨k,P,hj,rfl⟩:=(hI _ _).1 ab;clear ab;by_cases ae:k<xs.length
   . have aa:(k:Int)<xs.length:=by omega
     obtain⟨x,ad⟩:∃x,xs[k]? =some x:=⟨_,GP ae⟩;have hm:=PO ad;have af:=tr (hx x hm);simp(disch:=omega)[go_sem,aa,ad,-getElem?_pos,af];refine an.mk (hf x hm) λP2 ai=> ?_;simp(disch:=omega)[go_sem]at ai;simp(disch:=omega)[go_sem,aC];refine⟨j-1,by omega,_,ax.mk (N:=P2) ?_ ?_ ?_,(hI _ _).2 ⟨k+1,P2,by omega,rfl⟩⟩
     . simp(disch:=omega)[go_sem]
     . simp(disch:=omega)[go_sem]
     . simp(disch:=omega)[go_sem]
   . have aa:¬(k:Int)<xs.length:=by omega
     simp(disch:=omega)[go_sem,aa]
theorem YX{aj:Bool}(xs:List (List DV))(f:FuncId)(c:List DV)(hx:∀x∈xs,x.length=13)(hlen:xs.length<=1000000)(hf:∀x∈xs,ay E aj f (.agg x::c) (bV false)):ay E aj 142 [.sl 13 xs,.fn f [] c] (bV false):=by
 refine aW Tryz.ntmps142 Tryz.results142 λN=> ?_;simp(disch:=omega)[go_sem];refine an.mk (YW xs f c hx hlen hf) λM hM=> ?_;simp(disch:=omega)[go_sem]at hM;simp(disch:=omega)[go_sem]
theorem YY{aj:Bool}(xs:List (List DV))(f:FuncId)(c:List DV)(hx:∀x∈xs,x.length=2)(hlen:xs.length<=1000000)(hf:∀x∈xs,ay E aj f (.agg x::c) (bV false)):ay E aj 170 [.sl 2 xs,.fn f [] c] (iV (-1)):=by
 refine aW Tryz.ntmps170 Tryz.results170 λN=> ?_;simp(disch:=omega)[go_sem];obtain⟨I,hI⟩:∃I:Nat->DS->Prop,∀j d,I j d↔∃(k P:Nat),j+k=xs.length/\d=⟨bz [(0,.sl 2 xs),(1,.fn f [] c),(7,iV xs.length),(8,iV k)],19,[],cw P []⟩:=⟨_,λ_ _=>Er⟩;refine bO I xs.length ⟨_,ax.mk (N:=N) ?_ ?_ ?_,(hI _ _).2 ⟨0,N,rfl,rfl⟩⟩ ?_
 . simp(disch:=omega)[go_sem]
 . simp(disch:=omega)[go_sem]
 . simp(disch:=omega)[go_sem]
 . intro j ds ab;obtain⟨k,P,hj,rfl⟩:=(hI _ _).1 ab;clear ab;by_cases ae:k<xs.length
   . have aa:(k:Int)<xs.length:=by omega
     obtain⟨x,ad⟩:∃x,xs[k]? =some x:=⟨_,GP ae⟩;have hm:=PO ad;have af:=tr (hx x hm);simp(disch:=omega)[go_sem,aa,ad,-getElem?_pos,af];refine an.mk (hf x hm) λP2 ai=> ?_;simp(disch:=omega)[go_sem]at ai;simp(disch:=omega)[go_sem,aC];refine⟨j-1,by omega,_,ax.mk (N:=P2) ?_ ?_ ?_,(hI _ _).2 ⟨k+1,P2,by omega,rfl⟩⟩
     . simp(disch:=omega)[go_sem]
     . simp(disch:=omega)[go_sem]
     . simp(disch:=omega)[go_sem]
   . have aa:¬(k:Int)<xs.length:=by omega
     simp(disch:=omega)[go_sem,aa]
theorem YZ{aj:Bool}(xs:List (List DV))(f:FuncId)(c:List DV)(hx:∀x∈xs,x.length=2)(hlen:xs.length<=1000000)(hf:∀x∈xs,ay E aj f (.agg x::c) (bV false)):ay E aj 149 [.sl 2 xs,.fn f [] c] (bV false):=by
 refine aW Tryz.ntmps149 Tryz.results149 λN=> ?_;simp(disch:=omega)[go_sem];refine an.mk (YY xs f c hx hlen hf) λM hM=> ?_;simp(disch:=omega)[go_sem]at hM;simp(disch:=omega)[go_sem]
theorem Y0{aj:Bool}(x:Int×Int×Int)(n:Int)(h:x.1<n):ay E aj 169 [.agg (cK x),.ptr [iV n] 0] (bV false):=by
 refine aW Tryz.ntmps169 Tryz.results169 λN=> ?_;have h2:¬n<=x.1:=by omega
 simp(disch:=omega)[go_sem,cK,h2]
def xX(c:Nat)(n:Int):Prop:=c<256/\∀x∈(aF c).nodes,x.1<n
theorem xY(c:Nat)(hc:c<256):(aF c).nodes.length<=20:=by
 have h:((qe 256).all λc=>decide ((aF c).nodes.length<=20))=true:=by kernel_rfl
 simpa using xS.1 h c (by simpa using hc)
theorem vv(c:Nat)(n:Int)(h:xX c n):ay E true 146 [.agg (aF c).e,iV n] (bV true):=by
 have h1:=Bt c h.1;have hl:=xY c h.1;have h2:=hasB (aj:=true) ((aF c).nodes.map cK) 169 [.ptr [iV n] 0] (λx hx=>by obtain⟨y,_,rfl⟩:=DE.1 hx;rfl) (by simp;omega) (λx hx=>by
  obtain⟨y,hy,rfl⟩:=DE.1 hx;exact Y0 y n (h.2 y hy))
 generalize aF c=d at*;simp only[Dg.e]at h1⊢;refine aW Tryz.ntmps146 Tryz.results146 λN=> ?_;simp(disch:=omega)[go_sem];refine an.mk h1 λM hM=> ?_;simp(disch:=omega)[go_sem]at hM;simp(disch:=omega)[go_sem];refine an.pl h2 (.cons (.refl _) (.cons (.fn rfl (λi v d h1 h2=>by simp at h1) rfl (λi v d h1 h2=> ?_)) .nil)) λM2 az=> ?_
 . cases i with
   |succ i=>simp at h1
   |zero=>
    simp only[W2,W9]at h1 h2;subst h1;subst h2;exact .ptr (o:=0) (off:=0) (ah:=0) (cx (wr:=true) (by simp(disch:=omega)[go_sem];try rfl)) (by simp) λi v d h1 h2=>by
     cases i with
     |succ i=>simp at h1
     |zero=>simp only[VK,W2,W9]at h1 h2;subst h1;subst h2;exact .refl _
 simp(disch:=omega)[go_sem]at az;simp(disch:=omega)[go_sem]
theorem xZ{aj:Bool}{K:ck}{dd:List FuncId}{h:ab}(hk:∀es clock h' T,rR es [(⟨#[]⟩,())]->h'.next=h.next+2->h'.get h.next=some (.map es clock)->h'.get (h.next+1)=some (.row [.v (.map (some h.next))] true 0)->(∀i,i≠h.next->i≠h.next+1->h'.get i=h.get i)->
 K (.fn 167 [] [.v (.pointer (some ⟨h.next+1,0,none⟩))]) dd h' T):an E aj K dd h (144,[]):=by
 refine gD Tryz.ntmps144 Tryz.results144 ?_;obtain⟨ae,aa,h2,h3⟩:=oW Bw By (vf:=λ_:Unit=>bV true) (es:=[]) (l:=[]) rfl ⟨#[]⟩ 0 ();simp(disch:=omega)[go_sem];refine⟨((h.new (.map [] 0)).set h.next (some (.map ae aa)),h.next),by simp only[ja,exact,ab.di,if_true];exact congrArg (Option.map _) h2, ?_⟩;simp(disch:=omega)[go_sem];intro T;refine hk ae aa _ T h3 ?_ ?_ ?_ λi h1 h2=> ?_
 . simp only[ab.aR,ab.aX]
 . simp(disch:=omega)[go_sem]
 . simp(disch:=omega)[go_sem]
 . simp(disch:=omega)[go_sem,h1,h2]
def mJ(l:List ByteArray):Prop:=l.Nodup/\∀s∈l,s≠⟨#[]⟩
def lU(l:List ByteArray):List (ByteArray×Unit):=(⟨#[]⟩,())::l.map λs=>(s,())
theorem G8(l:List ByteArray)(s:ByteArray)(h0:s≠⟨#[]⟩)(h1:s∉l):bc (lU l) s=none:=by
 have:∀l:List ByteArray,s∉l->bc (l.map λs=>(s,())) s=none:=λl=>by
  induction l with
  |nil=>intro _;rfl
  |cons x l ih=>
   intro h;simp only[List.mem_cons,not_or]at h;simp only[List.map_cons,bc,if_neg h.1];exact ih h.2
 simp only[lU,bc,if_neg h0];exact this l h1
theorem Y1(l:List ByteArray)(s:ByteArray)(h0:s≠⟨#[]⟩)(h1:s∉l):put (lU l) s ()=lU (l++[s]):=by
 rw[pQ (G8 l s h0 h1)];simp[lU]
theorem mJ.at{l:List ByteArray}(h:mJ l){k:Nat}{s:ByteArray}(hk:l[k]? =some s):bc (lU (l.take k)) s=none/\put (lU (l.take k)) s ()=lU (l.take (k+1)):=by
 have h0:=h.2 s (PO hk);have h1:s∉l.take k:=λhm=>by
  obtain⟨i,hi⟩:=List.getElem?_of_mem hm;rw[List.getElem?_take]at hi
  split at hi
  . rename_i af;have:=(List.getElem?_inj (Xw.1 hi).1 h.1).1 (hi.trans hk.symm);omega
  . cases hi
 refine⟨G8 _ s h0 h1, ?_⟩;rw[Y1 _ s h0 h1,List.take_add_one,hk];rfl
theorem Y2(g:ai)(hn:mJ g.aH)(h0:0<=g.start)(h1:g.start<g.aH.length)(hl:g.aH.length<=2000):ay E true 107 [.agg g.e] (iV 0):=by
 refine aW Tryz.ntmps107 Tryz.results107 λN=> ?_;simp(disch:=omega)[go_sem,ai.e];refine xZ λes clock h' T hs e1 e2 e3 e4=> ?_;simp(disch:=omega)[go_sem]at e1 e2 e3 e4;simp(disch:=omega)[go_sem,e1,e2,e3,e4];obtain⟨I,hI⟩:∃I:Nat->DS->Prop,∀j d,I j d↔∃(k P:Nat) (es:List bq) (clock:Nat),j+k=g.aH.length/\rR es (lU (g.aH.take k))/\N+2<P/\d=⟨bz [(1,.v (.pointer (some ⟨N,0,none⟩))),(3,.fn 167 [] [.v (.pointer (some ⟨N+1+1,0,none⟩))]),(8,strs g.aH),(9,iV g.aH.length),(10,iV k)],30,[],cw P [(N,.row g.e true 0),(N+1,.map es clock),(N+1+1,.row [.v (.map (some (N+1)))] true 0)]⟩:=⟨_,λ_ _=>Er⟩;refine bO I g.aH.length ⟨_,ax.mk (N:=N+3) ?_ ?_ ?_,(hI _ _).2 ⟨0,N+3,es,clock,rfl,hs,by omega,rfl⟩⟩ ?_
 . simp(disch:=omega)[go_sem,e1]
 . simp(disch:=omega)[go_sem]
 . simp(disch:=omega)[go_sem,e2,e3,e4,ai.e]
 . intro j ds ao;obtain⟨k,P,es,clock,hj,hs,hP,rfl⟩:=(hI _ _).1 ao;clear ao;by_cases af:k<g.aH.length
   . have ad:(k:Int)<g.aH.length:=by omega
     obtain⟨s,av⟩:∃s,g.aH[k]? =some s:=⟨_,GP af⟩;obtain⟨ha,hp⟩:=hn.at av;simp(disch:=omega)[go_sem,ad,av,-getElem?_pos];refine xW (b:=N+1+1) (r:=N+1) (wr:=true) (ah:=0) (es:=es) (clock:=clock) (by simp(disch:=omega)[go_sem]) (by simp(disch:=omega)[go_sem]) hs ha λae aa T aw=> ?_;rw[hp]at aw;simp(disch:=omega)[go_sem,aC];refine⟨j-1,by omega,_,ax.mk (N:=P) ?_ ?_ ?_,(hI _ _).2 ⟨k+1,P,ae,aa,by omega,aw,hP,rfl⟩⟩
     . simp(disch:=omega)[go_sem]
     . simp(disch:=omega)[go_sem]
     . simp(disch:=omega)[go_sem,ai.e]
   . have ad:¬(k:Int)<g.aH.length:=by omega
     have h2:¬g.start<0:=by omega
     have h3:¬(g.aH.length:Int)<=g.start:=by omega
     simp(disch:=omega)[go_sem,ad,ai.e,h2,h3]
def Bz:ByteArray:=⟨#[116,114,117,101]⟩
def BA:ByteArray:=⟨#[102,97,108,115,101]⟩
def G9(s:ByteArray):Prop:=ay E true 145 [sV s] (bV true)/\s≠Bz/\s≠BA
structure vw(g:ai):Prop where
 new:mJ g.conds
 id:∀s∈g.conds,G9 s
 len:g.conds.length<=64
 cL:∃c,g.family=aF c/\xX c g.conds.length/\g.family.root≠0
theorem Y3(g:ai)(hg:vw g):ay E true 105 [.agg g.e] (iV 0):=by
 have hn:=hg.new;have hlen:=hg.len;refine aW Tryz.ntmps105 Tryz.results105 λN=> ?_;simp(disch:=omega)[go_sem,ai.e];refine xZ λes clock h' T hs e1 e2 e3 e4=> ?_;simp(disch:=omega)[go_sem]at e1 e2 e3 e4;simp(disch:=omega)[go_sem,e1,e2,e3,e4];obtain⟨I,hI⟩:∃I:Nat->DS->Prop,∀j d,I j d↔∃(k P:Nat) (es:List bq) (clock:Nat),j+k=g.conds.length/\rR es (lU (g.conds.take k))/\N+2<P/\d=⟨bz [(1,.v (.pointer (some ⟨N,0,none⟩))),(3,.fn 167 [] [.v (.pointer (some ⟨N+1+1,0,none⟩))]),(8,strs g.conds),(9,iV g.conds.length),(10,iV k)],45,[],cw P [(N,.row g.e true 0),(N+1,.map es clock),(N+1+1,.row [.v (.map (some (N+1)))] true 0)]⟩:=⟨_,λ_ _=>Er⟩;refine bO I g.conds.length ⟨_,ax.mk (N:=N+3) ?_ ?_ ?_,(hI _ _).2 ⟨0,N+3,es,clock,rfl,hs,by omega,rfl⟩⟩ ?_
 . simp(disch:=omega)[go_sem,e1]
 . simp(disch:=omega)[go_sem]
 . simp(disch:=omega)[go_sem,e2,e3,e4,ai.e]
 . intro j ds ao;obtain⟨k,P,es,clock,hj,hs,hP,rfl⟩:=(hI _ _).1 ao;clear ao;by_cases aw:k<g.conds.length
   . have aa:(k:Int)<g.conds.length:=by omega
     obtain⟨s,ae⟩:∃s,g.conds[k]? =some s:=⟨_,GP aw⟩;obtain⟨hi,ht,hf⟩:=hg.id s (PO ae);obtain⟨ha,hp⟩:=hn.at ae;unfold Bz at ht;unfold BA at hf;simp(disch:=omega)[go_sem,aa,ae,-getElem?_pos];refine an.mk hi λP2 af=> ?_;simp(disch:=omega)[go_sem]at af;simp(disch:=omega)[go_sem,ht,hf];refine xW (b:=N+1+1) (r:=N+1) (wr:=true) (ah:=0) (es:=es) (clock:=clock) (by simp(disch:=omega)[go_sem]) (by simp(disch:=omega)[go_sem]) hs ha λaz ab T av=> ?_;rw[hp]at av;simp(disch:=omega)[go_sem,aC];refine⟨j-1,by omega,_,ax.mk (N:=P2) ?_ ?_ ?_,(hI _ _).2 ⟨k+1,P2,az,ab,by omega,av,by omega,rfl⟩⟩
     . simp(disch:=omega)[go_sem]
     . simp(disch:=omega)[go_sem]
     . simp(disch:=omega)[go_sem,ai.e]
   . have aa:¬(k:Int)<g.conds.length:=by omega
     obtain⟨c,h1,h2,h3⟩:=hg.cL;have ad:=vv c g.conds.length h2;rw[<-h1]at ad;simp only[Dg.e]at ad;simp(disch:=omega)[go_sem,aa,ai.e];refine an.mk ad λP2 af=> ?_;simp(disch:=omega)[go_sem]at af;simp(disch:=omega)[go_sem,h3]
theorem BB(a b:Int):(if b>a then b else a)=max a b:=by split<;>omega
theorem Y4(a b:Int):qZ E [.int .i64 a,.int .i64 b]=some (.int .i64 (max a b)):=by
 rw[<-BB];rfl
theorem Y5(a b c:Int):qZ E [.int .i64 a,.int .i64 b,.int .i64 c]=some (.int .i64 (max (max a b) c)):=by
 rw[<-BB,<-BB];rfl
theorem Y6(p:aQ)(h1:p.right.length<=16)(h2:p.layout.length<=16):ay E true 143 [.agg p.e] (bV false):=by
 have hm:¬(16:Int)<max (p.right.length:Int) (p.layout.length:Int):=by omega
 refine aW Tryz.ntmps143 Tryz.results143 λN=> ?_;simp(disch:=omega)[go_sem,aQ.e,pY,exact,Y4,hm]
structure Ha(g:ai):Prop where
 conds:g.conds.length<=64
 ar:g.ar.length<=256
 bj:g.bj.length<=4096
 aH:g.aH.length<=2000
 ak:g.ak.length<=2000
 ba:g.ba.length<=2000
 right:∀p∈g.ak,p.right.length<=16/\p.layout.length<=16
theorem Y7(g:ai)(hg:Ha g):ay E true 104 [.agg g.e] (bV false):=by
 obtain⟨h1,h2,h3,h4,h5,h6,h7⟩:=hg;have hm:¬(2000:Int)<max (max (g.aH.length:Int) (g.ak.length:Int)) (g.ba.length:Int):=by omega
 have aA:¬(2000:Int)<max (g.aH.length:Int) (max (g.ak.length:Int) (g.ba.length:Int)):=by omega
 have e1:¬(64:Int)<g.conds.length:=by omega
 have e2:¬(256:Int)<g.ar.length:=by omega
 have e3:¬(4096:Int)<g.bj.length:=by omega
 have e4:¬64<g.conds.length:=by omega
 have e5:¬256<g.ar.length:=by omega
 have e6:¬4096<g.bj.length:=by omega
 have hh:=YX (aj:=true) (g.ak.map aQ.e) 143 [] (λx hx=>by obtain⟨y,_,rfl⟩:=DE.1 hx;rfl) (by simp;omega) (λx hx=>by
  obtain⟨y,hy,rfl⟩:=DE.1 hx;exact Y6 y (h7 y hy).1 (h7 y hy).2)
 refine aW Tryz.ntmps104 Tryz.results104 λN=> ?_;simp(disch:=omega)[go_sem,ai.e,pY,exact,Y5,hm,aA,e1,e2,e3,e4,e5,e6];refine an.mk hh λM hM=> ?_;simp(disch:=omega)[go_sem]at hM;simp(disch:=omega)[go_sem]
def qj(g:ai)(s:Sym):Prop:=match s.tok with
 |false=>0<=s.idx/\s.idx<g.aH.length
 |true=>∃t,0<=s.idx/\g.ar[s.idx.toNat]? =some t/\t.cls=0
theorem Y8(g:ai)(s:Sym)(h:qj g s):ay E true 148 [.agg g.e,.agg s.e] (bV true):=by
 obtain⟨tok,i⟩:=s;refine aW Tryz.ntmps148 Tryz.results148 λN=> ?_;cases tok with
 |false=>
  obtain⟨h0,h1⟩:=h;simp only at h0 h1;simp(disch:=omega)[go_sem,ai.e,Sym.e,h0,h1]
 |true=>
  obtain⟨t,h0,h1,h2⟩:=h;simp only at h0 h1;have hl:i<g.ar.length:=by
   have:=(Xw.1 h1).1;omega
  simp(disch:=omega)[go_sem,ai.e,Sym.e,h0,hl,h1,-getElem?_pos,Tok.e,h2]
theorem Hb(g:ai)(s:Sym)(h:qj g s):ay E true 147 [.agg s.e,.ptr g.e 0] (bV false):=by
 have h1:=Y8 g s h;refine aW Tryz.ntmps147 Tryz.results147 λN=> ?_;simp(disch:=omega)[go_sem,ai.e,Sym.e]at h1⊢;refine an.mk h1 λM hM=> ?_;simp(disch:=omega)[go_sem]at hM;simp(disch:=omega)[go_sem]
theorem mK{S:eR}{b ah:Nat}{cs:List DV}(h:S b=some (cs,ah)):Fz S (.v (.pointer (some ⟨b,0,none⟩))) (.ptr cs 0):=
 .ptr (o:=0) (off:=0) (ah:=ah) h (by omega) λi v d h1 h2=>by
  rw[VK,h1]at h2;cases h2;exact .refl _
theorem Hg{S:eR}{f:FuncId}{a b:DV}(h:Fz S a b):Fz S (.fn f [] [a]) (.fn f [] [b]):=
 .fn rfl (λi v d h1 h2=>by simp at h1) rfl λi v d h1 h2=>by
  cases i with
  |succ i=>simp at h1
  |zero=>simp only[W2,W9]at h1 h2;subst h1;subst h2;exact h
def x6(p:aQ)(k v lo hi:Int):Prop:=(k=0/\v=0)\/(0<k/\(∃s,p.right[(k-1).toNat]? =some s/\s.tok=true)/\lo<=v/\v<=hi)
def Hh(n:Nat)(x:lM):Prop:=1<=x.kind/\x.kind<=4/\0<=x.a/\x.a<n/\0<=x.b/\x.b<n/\(x.kind=1->x.b=0)
structure x7(p:aQ):Prop where
 len:p.right.length<=16
 lay:∀x∈p.layout,Hh p.right.length x
 qk:p.layout.length<=16
 tz:x6 p p.scope.declares p.scope.kind 1 7
 use:x6 p p.scope.vg p.scope.allowed 0 255
 br:p.bracket=true->p.eJ=0/\p.layout=[]/\p.scope=⟨false,0,0,0,0⟩/\∃a b,a.tok=true/\b.tok=true/\p.right=[a,⟨false,p.left⟩,b]
theorem Hi(p:aQ)(i:Int)(h0:0<=i)(h1:i<p.right.length):ay E true 171 [iV i,.ptr p.e 0] (bV true):=by
 refine aW Tryz.ntmps171 Tryz.results171 λN=> ?_;simp(disch:=omega)[go_sem,aQ.e,h0,h1]
theorem Hj(p:aQ)(k v lo hi:Int)(hp:p.right.length<=16)(h:x6 p k v lo hi):ay E true 172 [iV k,iV v,iV lo,iV hi,.ptr p.e 0] (bV true):=by
 refine aW Tryz.ntmps172 Tryz.results172 λN=> ?_;rcases h with⟨rfl,rfl⟩|⟨h1,⟨s,h2,h3⟩,h4,h5⟩
 . simp(disch:=omega)[go_sem,aQ.e]
 . have hl:=(Xw.1 h2).1;have ao:¬k=0:=by omega
   have ab:k<=p.right.length:=by omega
   have av:1<=k:=by omega
   have aw:p.right[k.toNat-1]? =some s:=by rw[<-h2];congr 1;omega
   simp(disch:=omega)[go_sem,aQ.e,ao,h1,ab,av,aw,-getElem?_pos,Sym.e,h3,h4,h5,aC]
theorem Zs(p:aQ)(hp:x7 p):ay E true 150 [.agg p.e] (bV true):=by
 have hlen:=hp.len;have aB:=hp.qk;refine aW Tryz.ntmps150 Tryz.results150 λN=> ?_;simp(disch:=omega)[go_sem,aQ.e];obtain⟨I,hI⟩:∃I:Nat->DS->Prop,∀j d,I j d↔∃(k P:Nat),j+k=p.layout.length/\N<P/\d=⟨bz [(1,.v (.pointer (some ⟨N,0,none⟩))),(9,.sl 3 (p.layout.map lM.e)),(10,iV p.layout.length),(11,iV k)],113,[],cw P [(N,.row p.e true 0)]⟩:=⟨_,λ_ _=>Er⟩;refine bO I p.layout.length ⟨_,ax.mk (N:=N+1) ?_ ?_ ?_,(hI _ _).2 ⟨0,N+1,rfl,by omega,rfl⟩⟩ ?_
 . simp(disch:=omega)[go_sem]
 . simp(disch:=omega)[go_sem]
 . simp(disch:=omega)[go_sem,aQ.e]
 . intro j ds af;obtain⟨k,P,hj,hP,rfl⟩:=(hI _ _).1 af;clear af;by_cases az:k<p.layout.length
   . have aa:(k:Int)<p.layout.length:=by omega
     obtain⟨x,ai⟩:∃x,p.layout[k]? =some x:=⟨_,GP az⟩;obtain⟨c1,c2,c3,c4,c5,c6,c7⟩:=hp.lay x (PO ai);have d1:¬x.kind<1:=by omega
     have d2:¬4<x.kind:=by omega
     simp(disch:=omega)[go_sem,aa,ai,-getElem?_pos,lM.e,d1,d2];refine an.pl (Hi p x.a c3 c4) (.cons (.refl _) (.cons (mK (ah:=0) (cx (wr:=true) (by simp(disch:=omega)[go_sem,aQ.e]))) .nil)) λM hM=> ?_;simp(disch:=omega)[go_sem]at hM;simp(disch:=omega)[go_sem];refine an.pl (Hi p x.b c5 c6) (.cons (.refl _) (.cons (mK (ah:=0) (cx (wr:=true) (by simp(disch:=omega)[go_sem,aQ.e]))) .nil)) λM2 ad=> ?_;simp(disch:=omega)[go_sem]at ad;by_cases ab:x.kind=1
     . have aA:=c7 ab;simp(disch:=omega)[go_sem,ab,aA,aC];refine⟨j-1,by omega,_,ax.mk (N:=M2) ?_ ?_ ?_,(hI _ _).2 ⟨k+1,M2,by omega,by omega,rfl⟩⟩
       . simp(disch:=omega)[go_sem]
       . simp(disch:=omega)[go_sem]
       . simp(disch:=omega)[go_sem,aQ.e]
     . simp(disch:=omega)[go_sem,ab,aC];refine⟨j-1,by omega,_,ax.mk (N:=M2) ?_ ?_ ?_,(hI _ _).2 ⟨k+1,M2,by omega,by omega,rfl⟩⟩
       . simp(disch:=omega)[go_sem]
       . simp(disch:=omega)[go_sem]
       . simp(disch:=omega)[go_sem,aQ.e]
   . have aa:¬(k:Int)<p.layout.length:=by omega
     simp(disch:=omega)[go_sem,aa,aQ.e];refine an.pl (Hj p p.scope.declares p.scope.kind 1 7 hlen hp.tz) (.cons (.refl _) (.cons (.refl _) (.cons (.refl _) (.cons (.refl _) (.cons (mK (ah:=0) (cx (wr:=true) (by simp(disch:=omega)[go_sem,aQ.e]))) .nil))))) λM hM=> ?_;simp(disch:=omega)[go_sem]at hM;simp(disch:=omega)[go_sem];refine an.pl (Hj p p.scope.vg p.scope.allowed 0 255 hlen hp.use) (.cons (.refl _) (.cons (.refl _) (.cons (.refl _) (.cons (.refl _) (.cons (mK (ah:=0) (cx (wr:=true) (by simp(disch:=omega)[go_sem,aQ.e]))) .nil))))) λM2 ad=> ?_;simp(disch:=omega)[go_sem]at ad;cases hb:p.bracket with
     |false=>simp(disch:=omega)[go_sem,aQ.e,hb]
     |true=>
      obtain⟨b1,b2,b3,a,b,b4,b5,b6⟩:=hp.br hb;simp(disch:=omega)[go_sem,aQ.e,hb,b1,b2,b3,b6];refine⟨_,Zq _ _, ?_⟩;simp(disch:=omega)[go_sem,aQ.e,hb,b1,b2,b3,b6];refine bR [ae 0,aD 1,ae 3,ae 7,aD 15,ae 31,ae 63,aD 127,ae 255,aD 511,ae 63,aD 1087,ae 3135,ae 8191,ae 16383,ae 32767,ae 65535,aD 131071,ae 262143,ae 524287,aD 1048575,ae 2097151,ae 4194303] (by kernel_rfl) 0 rfl ?_;simp(disch:=omega)[go_sem,aQ.e,hb,b1,b2,b3,b6,Sym.e,b4,b5,Hf]
end Go.Sp
end

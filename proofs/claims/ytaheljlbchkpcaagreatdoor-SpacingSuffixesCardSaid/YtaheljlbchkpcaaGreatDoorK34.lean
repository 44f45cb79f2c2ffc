/- SpacingSuffixes: parts of its proof (ClKE ClAll Ge17 Gc1 Gc2 Gc3 Gc4 Gc5). -/
import Derived.Test.YtaheljlbchkpcaaGreatDoorK24
import Derived.Test.YtaheljlbchkpcaaGreatDoorK25
import Derived.Test.YtaheljlbchkpcaaGreatDoorK26
import Derived.Test.YtaheljlbchkpcaaGreatDoorK27
import Derived.Test.YtaheljlbchkpcaaGreatDoorK28
import Derived.Test.YtaheljlbchkpcaaGreatDoorK29
import Derived.Test.YtaheljlbchkpcaaGreatDoorK30
import Derived.Test.YtaheljlbchkpcaaGreatDoorK31
import Derived.Test.YtaheljlbchkpcaaGreatDoorK32
import Derived.Test.YtaheljlbchkpcaaGreatDoorK33
set_option linter.unusedVariables false
set_option linter.unusedSimpArgs false
noncomputable section
open Go Go.aw Go.Proofs
namespace Go.Sp
set_option maxRecDepth 100000
theorem abw:∀p∈((List.range 256).drop (13*16)).take 13,ik p:=bO (by kernel_rfl)
theorem abx:∀p∈((List.range 256).drop (13*17)).take 13,ik p:=bO (by kernel_rfl)
theorem aby:∀p∈((List.range 256).drop (13*18)).take 13,ik p:=bO (by kernel_rfl)
theorem abz:∀p∈((List.range 256).drop (13*19)).take 13,ik p:=bO (by kernel_rfl)
end Go.Sp
end
noncomputable section
open Go Go.aw Go.Proofs
namespace Go.Sp
set_option maxRecDepth 100000
theorem uni:∀p∈ie,ig p:=CY 14 20 (by decide) λi hi=>match i,hi with
 |0,_=>aaB
 |1,_=>aaC
 |2,_=>aaD
 |3,_=>aaE
 |4,_=>aaF
 |5,_=>aaG
 |6,_=>aaH
 |7,_=>aaI
 |8,_=>aaJ
 |9,_=>aaK
 |10,_=>aaL
 |11,_=>aaM
 |12,_=>aaN
 |13,_=>aaO
 |14,_=>aaP
 |15,_=>aaQ
 |16,_=>aaR
 |17,_=>aaS
 |18,_=>aaT
 |19,_=>aaU
 |i+20,h=>absurd h (by omega)
theorem fit:∀p∈eF,ij p:=CY 14 20 (by decide) λi hi=>match i,hi with
 |0,_=>aaV
 |1,_=>aaW
 |2,_=>aaX
 |3,_=>aaY
 |4,_=>aaZ
 |5,_=>aa0
 |6,_=>aa1
 |7,_=>aa2
 |8,_=>aa3
 |9,_=>aa4
 |10,_=>aa5
 |11,_=>aa6
 |12,_=>aa7
 |13,_=>aa8
 |14,_=>aa9
 |15,_=>aba
 |16,_=>abb
 |17,_=>abc
 |18,_=>abd
 |19,_=>abe
 |i+20,h=>absurd h (by omega)
theorem chk:∀p∈List.range 256,ik p:=CY 13 20 (by decide) λi hi=>match i,hi with
 |0,_=>abf
 |1,_=>abg
 |2,_=>abh
 |3,_=>abi
 |4,_=>abj
 |5,_=>abk
 |6,_=>abl
 |7,_=>abm
 |8,_=>abn
 |9,_=>abo
 |10,_=>abp
 |11,_=>abq
 |12,_=>abr
 |13,_=>abt
 |14,_=>abu
 |15,_=>abv
 |16,_=>abw
 |17,_=>abx
 |18,_=>aby
 |19,_=>abz
 |i+20,h=>absurd h (by omega)
theorem CZ(c:Nat)(hc:c<256):ax E true 66 [.agg (aF c).e] (iV 0):=chk c (List.mem_range.2 hc)
theorem abA(v t:Nat)(hv:v<3)(ht:t∈tv v):ax E true 79 [.agg (aF (xv v)).e,.agg (aF t).e] (.agg (aF (xv v&&&t)).e):=aaz (xv v,t) (List.mem_flatMap.2 ⟨v,List.mem_range.2 hv,List.mem_map.2 ⟨t,ht,rfl⟩⟩)
theorem abB(v t:Nat)(hv:v<3)(ht:t∈tv v):ax E true 79 [.agg (aF t).e,.agg (aF (255-xv v)).e] (.agg (aF (t&&&(255-xv v))).e):=aaA (t,255-xv v) (List.mem_flatMap.2 ⟨v,List.mem_range.2 hv,List.mem_map.2 ⟨t,ht,rfl⟩⟩)
theorem univ(v t s:Nat)(hv:v<3)(ht:t∈tv v)(hs:s∈tv v):ax E true 78 [.agg (aF (xv v&&&t)).e,.agg (aF (s&&&(255-xv v))).e] (.agg (aF ((xv v&&&t)|||(s&&&(255-xv v)))).e):=uni (xv v&&&t,s&&&(255-xv v)) (List.mem_flatMap.2 ⟨v,List.mem_range.2 hv,List.mem_flatMap.2 ⟨t,ht,List.mem_map.2 ⟨s,hs,rfl⟩⟩⟩)
theorem abC(v:Nat)(hv:v<3):ax E true 26 [.agg (aF (xv v)).e] (.agg (aF (255-xv v)).e):=aay (xv v) (by rcases v with _|_|_|v<;>first|decide|omega)
end Go.Sp
end
noncomputable section
open Go Go.aw Go.Proofs
namespace Go.Sp
set_option maxRecDepth 100000
theorem abD(v t:Nat)(hv:v<3)(ht:t∈tv v):ax E true 80 [.agg (aF t).e,.agg (aF (xv v)).e] (.agg (aF (t&&&(255-xv v))).e):=by
 have h1:=abC v hv;have h2:=abB v t hv ht;generalize aF t=a at*;generalize aF (xv v)=b at*;generalize aF (255-xv v)=c at*;generalize aF (t&&&(255-xv v))=r at*;refine bc Wd rfl Tryz.ntmps80 Tryz.results80 λN=> ?_;simp(disch:=omega)[go_sem,Dg.e];refine ck [dF 0,aJ 0,aN 2,aN 7,aN 15] (by kernel_rfl) 0 rfl ?_;simp(disch:=omega)[go_sem,Dg.e];refine aq.mk h1 λM hM=> ?_;simp(disch:=omega)[go_sem]at hM;simp(disch:=omega)[go_sem,Dg.e];refine aq.mk h2 λM2 ab=> ?_;simp(disch:=omega)[go_sem]at ab;simp(disch:=omega)[go_sem,Dg.e]
def gO(b:Nat):Nat->Nat->Nat->Nat
 |0,_,k=>if b.testBit k then 255 else 0
 |j+1,v,k=>(xv v&&&gO b j (v+1) (k+2^v))|||(gO b j (v+1) k&&&(255-xv v))
theorem IC(b j v k:Nat)(hb:b<256)(hv:v<3)(hj:v+1+j<=3)(hk:k<8):gO b j (v+1) k∈tv v:=by
 have h:((List.range 256).all λb=>(List.range 3).all λv=>(List.range 3).all λj=>(List.range 8).all λk=> !Nat.ble (v+1+j) 3||(tv v).contains (gO b j (v+1) k))=true:=by kernel_rfl
 have:=List.all_eq_true.1 (List.all_eq_true.1 (List.all_eq_true.1 (List.all_eq_true.1 h b (by simpa using hb)) v (by simpa using hv)) j (by simp;omega)) k (by simpa using hk);rw[Nat.ble_eq_true_of_le hj]at this;simpa using this
theorem xu:aF 255=aQ true/\aF 0=aQ false:=⟨rfl,rfl⟩
theorem ID(v:Nat)(hv:v<3):aF (xv v)=vr v:=by
 have:v=0\/v=1\/v=2:=by omega
 rcases this with rfl|rfl|rfl<;>rfl
def hd(l:List Int):Nat:=(l.headD 0).toNat
theorem abE{e:Env}{ty:TypeId}{x y:Operand}{n:Int}(h0:0<=n)(h1:n<256):cS e .and ty x y (.int .u8 n) (.int .u8 1)=some (.int .u8 (n%2)):=by
 rw[Cr];have h:((List.range 256).all λn=>decide (IntKind.u8.wrap ((BitVec.ofInt IntKind.u8.bits (n:Int)&&&BitVec.ofInt IntKind.u8.bits 1).toNat:Nat)=(n:Int)%2))=true:=by kernel_rfl
 have:=List.all_eq_true.1 h n.toNat (by simp;omega);rw[Int.toNat_of_nonneg h0]at this;rw[of_decide_eq_true this]
theorem abF(b:Int)(k:Nat)(h0:0<=b)(h1:b<256)(hk:k<8):(b.fdiv (2^k)%2=1↔b.toNat.testBit k=true)/\0<=b.fdiv (2^k)/\b.fdiv (2^k)<256:=by
 have h:((List.range 256).all λb=>(List.range 8).all λk=>(decide ((b:Int).fdiv (2^k)%2=1)==b.testBit k)&&decide (0<=(b:Int).fdiv (2^k))&&decide ((b:Int).fdiv (2^k)<256))=true:=by kernel_rfl
 have:=List.all_eq_true.1 (List.all_eq_true.1 h b.toNat (by simp;omega)) k (by simpa using hk);rw[Int.toNat_of_nonneg h0]at this;simp only[Bool.and_eq_true,decide_eq_true_iff]at this;refine⟨?_,this.1.2,this.2⟩;rw[<-eq_of_beq this.1.1,decide_eq_true_iff]
theorem abG(l:List Int)(hl:∀b∈l,0<=b/\b<256)(n k:Nat)(hk:k<8):ax E true 44 [.sl 1 (l.map λb=>[uV b]),iV n,iV n,iV k] (.agg (aF (gO (hd l) 0 n k)).e):=by
 have aa:aF (gO (hd l) 0 n k)=aQ ((hd l).testBit k):=by
  simp only[gO];cases(hd l).testBit k
  . exact xu.2
  . exact xu.1
 rw[aa];have ao:((k:Int)/8)=0:=by omega
 have au:((k:Int)%8)=k:=by omega
 have ad:IntKind.u64.wrap (k:Int)=k:=by
  have h:((List.range 8).all λk=>decide (IntKind.u64.wrap (k:Int)=k))=true:=by kernel_rfl
  simpa using List.all_eq_true.1 h k (by simpa using hk)
 refine bc GG rfl Tryz.ntmps44 Tryz.results44 λN=> ?_;cases l with
 |nil=>
  simp(disch:=omega)[go_sem,jT,dr,ao,au,aD];refine aq.mk (qf false) λM hM=> ?_;simp(disch:=omega)[go_sem]at hM;simp(disch:=omega)[go_sem,Dg.e,hd]
 |cons b r=>
  have hb:=hl b (by simp);obtain⟨af,aO,aR⟩:=abF b k hb.1 hb.2 hk;simp(disch:=first|assumption|omega) [go_sem,jT,dr,ao,au,ad,aD,abE,af];refine aq.mk (qf _) λM hM=> ?_;simp(disch:=omega)[go_sem]at hM;simp(disch:=omega)[go_sem,Dg.e,hd,Nat.testBit_eq_decide_div_mod_eq]
theorem C0(l:List Int)(hl:∀b∈l,0<=b/\b<256)(n:Nat)(hn:n<=3):∀(j v k:Nat),v+j=n->k<2^v->ax E true 44 [.sl 1 (l.map λb=>[uV b]),iV n,iV v,iV k] (.agg (aF (gO (hd l) j v k)).e)
 |0,v,k,hj,hk=>by
  have:v=n:=by omega
  subst this;have:k<8:=Nat.lt_of_lt_of_le hk (Nat.pow_le_pow_right (by omega) hn);exact abG l hl v k this
 |j+1,v,k,hj,hk=>by
  have hv:v<3:=by omega
  have aB:k+2^v<2^(v+1):=by rw[Nat.pow_succ];omega
  have aC:k<2^(v+1):=by omega
  have av:=C0 l hl n hn j (v+1) (k+2^v) (by omega) aB;have ay:=C0 l hl n hn j (v+1) k (by omega) aC;have hb:hd l<256:=by
   cases l with
   |nil=>simp[hd]
   |cons b r=>have:=hl b (by simp);simp[hd];omega
  have h8:2^(v+1)<=8:=Nat.pow_le_pow_right (n:=2) (by omega) (show v+1<=3 by omega);have t1:=IC (hd l) j v (k+2^v) hb hv (by omega) (by omega);have t0:=IC (hd l) j v k hb hv (by omega) (by omega);have hA:=abA v _ hv t1;have hB:=abD v _ hv t0;have hU:=univ v _ _ hv t1 t0;rw[ID v hv]at hA hB;have aa:aF (gO (hd l) (j+1) v k)=aF ((xv v&&&gO (hd l) j (v+1) (k+2^v))|||(gO (hd l) j (v+1) k&&&(255-xv v))):=rfl;rw[aa];clear aa;generalize aF ((xv v&&&gO (hd l) j (v+1) (k+2^v))|||(gO (hd l) j (v+1) k&&&(255-xv v)))=R at*;generalize aF (xv v&&&gO (hd l) j (v+1) (k+2^v))=A at*;generalize aF (gO (hd l) j (v+1) k&&&(255-xv v))=B at*;generalize aF (gO (hd l) j (v+1) (k+2^v))=P at*;generalize aF (gO (hd l) j (v+1) k)=Q at*;have e1:¬(v:Int)=n:=by omega
  have e2:¬n=v:=by omega
  have e3:¬v=n:=by omega
  have hs:IntKind.i64.wrap (2^v)=2^v:=by
   have:v=0\/v=1\/v=2:=by omega
   rcases this with rfl|rfl|rfl<;>decide
  have hw:IntKind.u64.wrap (v:Int)=v:=by
   have:v=0\/v=1\/v=2:=by omega
   rcases this with rfl|rfl|rfl<;>decide
  have ai:min v IntKind.i64.bits=v:=by simp[IntKind.bits];omega
  have hp:(0:Int)<2^v/\(2:Int)^v<=4:=by
   have:v=0\/v=1\/v=2:=by omega
   rcases this with rfl|rfl|rfl<;>decide
  have aS:k<4:=by
   have:v=0\/v=1\/v=2:=by omega
   rcases this with rfl|rfl|rfl<;>simp at hk<;>omega
  have hc:((k+2^v:Nat):Int)=(k:Int)+2^v:=by simp
  have az:((v+1:Nat):Int)=(v:Int)+1:=by simp
  rw[hc,az]at av;rw[az]at ay;generalize hq:(2:Int)^v=q at*;refine bc GG rfl Tryz.ntmps44 Tryz.results44 λN=> ?_;simp(disch:=omega)[go_sem,aD,e1,e2,e3];refine aq.mk (Ia v (by omega) (by omega)) λM hM=> ?_;simp(disch:=omega)[go_sem]at hM;simp(disch:=omega)[go_sem,Dg.e];refine ck [dF 0,ae 0,ae 0,ae 0,ae 8,ae 0,ae 0,aJ 64,ae 192,ae 480,aN 1022,aN 2047,ae 0,ae 0,ae 0,ae 16384,ae 0,aN 131071,⟨.read,0,some (0,4),true⟩,aN 524287,aN 1048575,aN 2097151] (by kernel_rfl) 0 rfl ?_;simp(disch:=omega)[go_sem,aD,hw,ai,hq];refine aq.mk av λM2 ab=> ?_;simp(disch:=omega)[go_sem]at ab;simp(disch:=omega)[go_sem,Dg.e];refine aq.mk hA λM3 aE=> ?_;simp(disch:=omega)[go_sem]at aE;simp(disch:=omega)[go_sem,Dg.e,aD];refine aq.mk ay λM4 aI=> ?_;simp(disch:=omega)[go_sem]at aI;simp(disch:=omega)[go_sem,Dg.e];refine aq.mk hB λM5 aL=> ?_;simp(disch:=omega)[go_sem]at aL;simp(disch:=omega)[go_sem,Dg.e];refine aq.mk hU λM6 aM=> ?_;simp(disch:=omega)[go_sem]at aM;simp(disch:=omega)[go_sem,Dg.e]
def bx(l:List Int)(n:Nat):Dg:=aF (gO (hd l) n 0 0)
theorem abH(n:Nat)(hn:n<=3):((rj [iV n,.v (.int .i64 6)]).bind λl=>(qO E l).map DV.v)=some (iV n):=by
 have:n=0\/n=1\/n=2\/n=3:=by omega
 rcases this with rfl|rfl|rfl|rfl<;>rfl
theorem abI(n:Nat)(hn:n<=3):((rj [.v (.int .i64 0),iV n]).bind λl=>(sM E l).map DV.v)=some (iV n):=by
 have:n=0\/n=1\/n=2\/n=3:=by omega
 rcases this with rfl|rfl|rfl|rfl<;>rfl
theorem IE:Iz bx:=by
 intro l n hl hn;have h:=C0 l hl n hn n 0 0 (by omega) (by simp);have hr:bx l n=aF (gO (hd l) n 0 0):=rfl;rw[hr];generalize aF (gO (hd l) n 0 0)=R at*;refine bc VB rfl Tryz.ntmps21 Tryz.results21 λN=> ?_;simp(disch:=omega)[go_sem,abH n hn,abI n hn];refine aq.mk h λM hM=> ?_;simp(disch:=omega)[go_sem]at hM;simp(disch:=omega)[go_sem,Dg.e]
theorem abJ(v:Int)(n:Nat)(hn:n<=3)(h0:0<=v)(h1:v<n):(∃c,vr v=aF c/\(c,(n:Int))∈eF)/\∃c,vc v=aF c/\(c,(n:Int))∈eF:=by
 have h:((List.range 4).all λn=>(List.range 3).all λv=> !Nat.blt v n||(eF.contains (xv v,(n:Int))&&eF.contains (255-xv v,(n:Int))))=true:=by kernel_rfl
 have h2:=List.all_eq_true.1 (List.all_eq_true.1 h n (by simp;omega)) v.toNat (by simp;omega);have h3:Nat.blt v.toNat n=true:=Nat.ble_eq_true_of_le (show v.toNat+1<=n by omega);rw[h3]at h2;simp only[Bool.not_true,Bool.false_or,Bool.and_eq_true,List.contains_eq_mem,decide_eq_true_eq]at h2;refine⟨⟨_, ?_,h2.1⟩,⟨_, ?_,h2.2⟩⟩
 . rw[ID _ (by omega),Int.toNat_of_nonneg h0]
 . have:v=0\/v=1\/v=2:=by omega
   rcases this with rfl|rfl|rfl<;>rfl
theorem IF(b n:Nat)(hb:b<256)(hn:n<=3):(gO b n 0 0,(n:Int))∈eF:=by
 have h:((List.range 256).all λb=>(List.range 4).all λn=>eF.contains (gO b n 0 0,(n:Int)))=true:=by kernel_rfl
 simpa using List.all_eq_true.1 (List.all_eq_true.1 h b (by simpa using hb)) n (by simp;omega)
theorem IG(b:Int)(n:Nat)(hb:0<=b)(aT:b<256)(hn:n<=3):∃c,cB bx b n=aF c/\(c,(n:Int))∈eF:=by
 unfold cB
 split
 . refine⟨255,xu.1.symm, ?_⟩;have h:((List.range 4).all λn=>eF.contains (255,(n:Int)))=true:=by kernel_rfl
   simpa using List.all_eq_true.1 h n (by simp;omega)
 . rename_i h;have aU:0<n:=by omega
   have h1:b/6%(n:Int)<n:=Int.emod_lt_of_pos _ (by omega);have h2:0<=b/6%(n:Int):=Int.emod_nonneg _ (by omega);have hv:=abJ (b/6%n) n hn h2 h1
   split
   . exact hv.1
   . split
     . exact hv.2
     . exact⟨_,rfl,IF _ n (by simp[hd];omega) hn⟩
theorem abK:IA bx:=by
 intro b n h0 h1 hn;obtain⟨c,h2,h3⟩:=IG b n h0 h1 hn;rw[h2];exact fit (c,(n:Int)) h3
theorem abL(x:cQ)(hx:x.Ok):ax E true 10 [.agg x.e] (.agg (cL bx x).e):=aav IB bx IE abK x hx
end Go.Sp
end
noncomputable section
open Go Go.aw Go.Proofs
namespace Go.Sp
set_option maxRecDepth 100000
theorem vg{n:Nat}{x:List DV}(h:x.length=n+1):fy (some (some (n+1))) x 0=some (.agg x):=by
 simp only[fy,Nat.zero_add,h,Nat.le_refl,if_true,List.drop_zero];rw[List.take_of_length_le (by omega)]
theorem abM{aj:Bool}(xs:List (List DV))(f:FuncId)(c:List DV)(hx:∀x∈xs,x.length=3)(hlen:xs.length<=1000000)(hf:∀x∈xs,ax E aj f (.agg x::c) (bV false)):ax E aj 179 [.sl 3 xs,.fn f [] c] (iV (-1)):=by
 refine bc Xj rfl Tryz.ntmps179 Tryz.results179 λN=> ?_;simp(disch:=omega)[go_sem];obtain⟨I,hI⟩:∃I:Nat->DS->Prop,∀j d,I j d↔∃(k P:Nat),j+k=xs.length/\d=⟨bQ [(0,.sl 3 xs),(1,.fn f [] c),(7,iV xs.length),(8,iV k)],19,[],cK P []⟩:=⟨_,λ_ _=>Iff.rfl⟩;refine cx I xs.length ⟨_,aA.mk (N:=N) ?_ ?_ ?_,(hI _ _).2 ⟨0,N,rfl,rfl⟩⟩ ?_
 . simp(disch:=omega)[go_sem]
 . simp(disch:=omega)[go_sem]
 . simp(disch:=omega)[go_sem]
 . intro j ds ab;obtain⟨k,P,hj,rfl⟩:=(hI _ _).1 ab;clear ab;by_cases ae:k<xs.length
   . have aa:(k:Int)<xs.length:=by omega
     obtain⟨x,ad⟩:∃x,xs[k]? =some x:=⟨_,List.getElem?_eq_getElem ae⟩;have hm:=List.mem_of_getElem? ad;have af:=vg (hx x hm);simp(disch:=omega)[go_sem,aa,ad,-getElem?_pos,af];refine aq.mk (hf x hm) λP2 ai=> ?_;simp(disch:=omega)[go_sem]at ai;simp(disch:=omega)[go_sem,aD];refine⟨j-1,by omega,_,aA.mk (N:=P2) ?_ ?_ ?_,(hI _ _).2 ⟨k+1,P2,by omega,rfl⟩⟩
     . simp(disch:=omega)[go_sem]
     . simp(disch:=omega)[go_sem]
     . simp(disch:=omega)[go_sem]
   . have aa:¬(k:Int)<xs.length:=by omega
     simp(disch:=omega)[go_sem,aa]
theorem hasB{aj:Bool}(xs:List (List DV))(f:FuncId)(c:List DV)(hx:∀x∈xs,x.length=3)(hlen:xs.length<=1000000)(hf:∀x∈xs,ax E aj f (.agg x::c) (bV false)):ax E aj 166 [.sl 3 xs,.fn f [] c] (bV false):=by
 refine bc Xd rfl Tryz.ntmps166 Tryz.results166 λN=> ?_;simp(disch:=omega)[go_sem];refine aq.mk (abM xs f c hx hlen hf) λM hM=> ?_;simp(disch:=omega)[go_sem]at hM;simp(disch:=omega)[go_sem]
theorem abN{aj:Bool}(xs:List (List DV))(f:FuncId)(c:List DV)(hx:∀x∈xs,x.length=13)(hlen:xs.length<=1000000)(hf:∀x∈xs,ax E aj f (.agg x::c) (bV false)):ax E aj 164 [.sl 13 xs,.fn f [] c] (iV (-1)):=by
 refine bc Xb rfl Tryz.ntmps164 Tryz.results164 λN=> ?_;simp(disch:=omega)[go_sem];obtain⟨I,hI⟩:∃I:Nat->DS->Prop,∀j d,I j d↔∃(k P:Nat),j+k=xs.length/\d=⟨bQ [(0,.sl 13 xs),(1,.fn f [] c),(7,iV xs.length),(8,iV k)],19,[],cK P []⟩:=⟨_,λ_ _=>Iff.rfl⟩;refine cx I xs.length ⟨_,aA.mk (N:=N) ?_ ?_ ?_,(hI _ _).2 ⟨0,N,rfl,rfl⟩⟩ ?_
 . simp(disch:=omega)[go_sem]
 . simp(disch:=omega)[go_sem]
 . simp(disch:=omega)[go_sem]
 . intro j ds ab;obtain⟨k,P,hj,rfl⟩:=(hI _ _).1 ab;clear ab;by_cases ae:k<xs.length
   . have aa:(k:Int)<xs.length:=by omega
     obtain⟨x,ad⟩:∃x,xs[k]? =some x:=⟨_,List.getElem?_eq_getElem ae⟩;have hm:=List.mem_of_getElem? ad;have af:=vg (hx x hm);simp(disch:=omega)[go_sem,aa,ad,-getElem?_pos,af];refine aq.mk (hf x hm) λP2 ai=> ?_;simp(disch:=omega)[go_sem]at ai;simp(disch:=omega)[go_sem,aD];refine⟨j-1,by omega,_,aA.mk (N:=P2) ?_ ?_ ?_,(hI _ _).2 ⟨k+1,P2,by omega,rfl⟩⟩
     . simp(disch:=omega)[go_sem]
     . simp(disch:=omega)[go_sem]
     . simp(disch:=omega)[go_sem]
   . have aa:¬(k:Int)<xs.length:=by omega
     simp(disch:=omega)[go_sem,aa]
theorem abO{aj:Bool}(xs:List (List DV))(f:FuncId)(c:List DV)(hx:∀x∈xs,x.length=13)(hlen:xs.length<=1000000)(hf:∀x∈xs,ax E aj f (.agg x::c) (bV false)):ax E aj 140 [.sl 13 xs,.fn f [] c] (bV false):=by
 refine bc WU rfl Tryz.ntmps140 Tryz.results140 λN=> ?_;simp(disch:=omega)[go_sem];refine aq.mk (abN xs f c hx hlen hf) λM hM=> ?_;simp(disch:=omega)[go_sem]at hM;simp(disch:=omega)[go_sem]
theorem abP{aj:Bool}(xs:List (List DV))(f:FuncId)(c:List DV)(hx:∀x∈xs,x.length=2)(hlen:xs.length<=1000000)(hf:∀x∈xs,ax E aj f (.agg x::c) (bV false)):ax E aj 168 [.sl 2 xs,.fn f [] c] (iV (-1)):=by
 refine bc Xf rfl Tryz.ntmps168 Tryz.results168 λN=> ?_;simp(disch:=omega)[go_sem];obtain⟨I,hI⟩:∃I:Nat->DS->Prop,∀j d,I j d↔∃(k P:Nat),j+k=xs.length/\d=⟨bQ [(0,.sl 2 xs),(1,.fn f [] c),(7,iV xs.length),(8,iV k)],19,[],cK P []⟩:=⟨_,λ_ _=>Iff.rfl⟩;refine cx I xs.length ⟨_,aA.mk (N:=N) ?_ ?_ ?_,(hI _ _).2 ⟨0,N,rfl,rfl⟩⟩ ?_
 . simp(disch:=omega)[go_sem]
 . simp(disch:=omega)[go_sem]
 . simp(disch:=omega)[go_sem]
 . intro j ds ab;obtain⟨k,P,hj,rfl⟩:=(hI _ _).1 ab;clear ab;by_cases ae:k<xs.length
   . have aa:(k:Int)<xs.length:=by omega
     obtain⟨x,ad⟩:∃x,xs[k]? =some x:=⟨_,List.getElem?_eq_getElem ae⟩;have hm:=List.mem_of_getElem? ad;have af:=vg (hx x hm);simp(disch:=omega)[go_sem,aa,ad,-getElem?_pos,af];refine aq.mk (hf x hm) λP2 ai=> ?_;simp(disch:=omega)[go_sem]at ai;simp(disch:=omega)[go_sem,aD];refine⟨j-1,by omega,_,aA.mk (N:=P2) ?_ ?_ ?_,(hI _ _).2 ⟨k+1,P2,by omega,rfl⟩⟩
     . simp(disch:=omega)[go_sem]
     . simp(disch:=omega)[go_sem]
     . simp(disch:=omega)[go_sem]
   . have aa:¬(k:Int)<xs.length:=by omega
     simp(disch:=omega)[go_sem,aa]
theorem abQ{aj:Bool}(xs:List (List DV))(f:FuncId)(c:List DV)(hx:∀x∈xs,x.length=2)(hlen:xs.length<=1000000)(hf:∀x∈xs,ax E aj f (.agg x::c) (bV false)):ax E aj 147 [.sl 2 xs,.fn f [] c] (bV false):=by
 refine bc W0 rfl Tryz.ntmps147 Tryz.results147 λN=> ?_;simp(disch:=omega)[go_sem];refine aq.mk (abP xs f c hx hlen hf) λM hM=> ?_;simp(disch:=omega)[go_sem]at hM;simp(disch:=omega)[go_sem]
end Go.Sp
end
noncomputable section
open Go Go.aw Go.Proofs
namespace Go.Sp
set_option maxRecDepth 100000
theorem abR{aj:Bool}(x:Int×Int×Int)(n:Int)(h:x.1<n):ax E aj 167 [.agg (de x),.ptr [iV n] 0] (bV false):=by
 refine bc Xe rfl Tryz.ntmps167 Tryz.results167 λN=> ?_;have h2:¬n<=x.1:=by omega
 simp(disch:=omega)[go_sem,de,h2]
def zu(c:Nat)(n:Int):Prop:=c<256/\∀x∈(aF c).nodes,x.1<n
theorem zw(c:Nat)(hc:c<256):(aF c).nodes.length<=20:=by
 have h:((List.range 256).all λc=>decide ((aF c).nodes.length<=20))=true:=by kernel_rfl
 simpa using List.all_eq_true.1 h c (by simpa using hc)
theorem xw(c:Nat)(n:Int)(h:zu c n):ax E true 144 [.agg (aF c).e,iV n] (bV true):=by
 have h1:=CZ c h.1;have hl:=zw c h.1;have h2:=hasB (aj:=true) ((aF c).nodes.map de) 167 [.ptr [iV n] 0] (λx hx=>by obtain⟨y,_,rfl⟩:=List.mem_map.1 hx;rfl) (by simp;omega) (λx hx=>by
  obtain⟨y,hy,rfl⟩:=List.mem_map.1 hx;exact abR y n (h.2 y hy))
 generalize aF c=d at*;simp only[Dg.e]at h1⊢;refine bc WX rfl Tryz.ntmps144 Tryz.results144 λN=> ?_;simp(disch:=omega)[go_sem];refine aq.mk h1 λM hM=> ?_;simp(disch:=omega)[go_sem]at hM;simp(disch:=omega)[go_sem];refine aq.pl h2 (.cons (.refl _) (.cons (.fn rfl (λi v d h1 h2=>by simp at h1) rfl (λi v d h1 h2=> ?_)) .nil)) λM2 ay=> ?_
 . cases i with
   |succ i=>simp at h1
   |zero=>
    simp only[List.getElem?_cons_zero,Option.some.injEq]at h1 h2;subst h1;subst h2;exact .ptr (o:=0) (off:=0) (ah:=0) (cN (wr:=true) (by simp(disch:=omega)[go_sem];try rfl)) (by simp) λi v d h1 h2=>by
     cases i with
     |succ i=>simp at h1
     |zero=>simp only[Nat.zero_add,List.getElem?_cons_zero,Option.some.injEq]at h1 h2;subst h1;subst h2;exact .refl _
 simp(disch:=omega)[go_sem]at ay;simp(disch:=omega)[go_sem]
theorem zx{aj:Bool}{K:cF}{dd:List FuncId}{h:ab}(hk:∀es clock h' T,tx es [(⟨#[]⟩,())]->h'.next=h.next+2->h'.get h.next=some (.map es clock)->h'.get (h.next+1)=some (.row [.v (.map (some h.next))] true 0)->(∀i,i≠h.next->i≠h.next+1->h'.get i=h.get i)->
 K (.fn 165 [] [.v (.pointer (some ⟨h.next+1,0,none⟩))]) dd h' T):aq E aj K dd h (142,[]):=by
 refine im WW rfl Tryz.ntmps142 Tryz.results142 ?_;obtain⟨ae,aa,h2,h3⟩:=qi C2 C3 (vf:=λ_:Unit=>bV true) (es:=[]) (l:=[]) rfl ⟨#[]⟩ 0 ();simp(disch:=omega)[go_sem];refine⟨((h.new (.map [] 0)).set h.next (some (.map ae aa)),h.next),by simp only[jL,exact,ab.dT,if_true];exact congrArg (Option.map _) h2, ?_⟩;simp(disch:=omega)[go_sem];intro T;refine hk ae aa _ T h3 ?_ ?_ ?_ λi h1 h2=> ?_
 . simp only[ab.aS,ab.aZ]
 . simp(disch:=omega)[go_sem]
 . simp(disch:=omega)[go_sem]
 . simp(disch:=omega)[go_sem,h1,h2]
def nI(l:List ByteArray):Prop:=l.Nodup/\∀s∈l,s≠⟨#[]⟩
def mN(l:List ByteArray):List (ByteArray×Unit):=(⟨#[]⟩,())::l.map λs=>(s,())
theorem IK(l:List ByteArray)(s:ByteArray)(h0:s≠⟨#[]⟩)(h1:s∉l):bf (mN l) s=none:=by
 have:∀l:List ByteArray,s∉l->bf (l.map λs=>(s,())) s=none:=λl=>by
  induction l with
  |nil=>intro _;rfl
  |cons x l ih=>
   intro h;simp only[List.mem_cons,not_or]at h;simp only[List.map_cons,bf,if_neg h.1];exact ih h.2
 simp only[mN,bf,if_neg h0];exact this l h1
theorem abS(l:List ByteArray)(s:ByteArray)(h0:s≠⟨#[]⟩)(h1:s∉l):put (mN l) s ()=mN (l++[s]):=by
 rw[qV (IK l s h0 h1)];simp[mN]
theorem nI.at{l:List ByteArray}(h:nI l){k:Nat}{s:ByteArray}(hk:l[k]? =some s):bf (mN (l.take k)) s=none/\put (mN (l.take k)) s ()=mN (l.take (k+1)):=by
 have h0:=h.2 s (List.mem_of_getElem? hk);have h1:s∉l.take k:=λhm=>by
  obtain⟨i,hi⟩:=List.getElem?_of_mem hm;rw[List.getElem?_take]at hi
  split at hi
  . rename_i af;have:=(List.getElem?_inj (List.getElem?_eq_some_iff.1 hi).1 h.1).1 (hi.trans hk.symm);omega
  . cases hi
 refine⟨IK _ s h0 h1, ?_⟩;rw[abS _ s h0 h1,List.take_add_one,hk];rfl
theorem abT(g:ai)(hn:nI g.aH)(h0:0<=g.start)(h1:g.start<g.aH.length)(hl:g.aH.length<=2000):ax E true 105 [.agg g.e] (iV 0):=by
 refine bc Ws rfl Tryz.ntmps105 Tryz.results105 λN=> ?_;simp(disch:=omega)[go_sem,ai.e];refine zx λes clock h' T hs e1 e2 e3 e4=> ?_;simp(disch:=omega)[go_sem]at e1 e2 e3 e4;simp(disch:=omega)[go_sem,e1,e2,e3,e4];obtain⟨I,hI⟩:∃I:Nat->DS->Prop,∀j d,I j d↔∃(k P:Nat) (es:List bA) (clock:Nat),j+k=g.aH.length/\tx es (mN (g.aH.take k))/\N+2<P/\d=⟨bQ [(1,.v (.pointer (some ⟨N,0,none⟩))),(3,.fn 165 [] [.v (.pointer (some ⟨N+1+1,0,none⟩))]),(8,strs g.aH),(9,iV g.aH.length),(10,iV k)],30,[],cK P [(N,.row g.e true 0),(N+1,.map es clock),(N+1+1,.row [.v (.map (some (N+1)))] true 0)]⟩:=⟨_,λ_ _=>Iff.rfl⟩;refine cx I g.aH.length ⟨_,aA.mk (N:=N+3) ?_ ?_ ?_,(hI _ _).2 ⟨0,N+3,es,clock,rfl,hs,by omega,rfl⟩⟩ ?_
 . simp(disch:=omega)[go_sem,e1]
 . simp(disch:=omega)[go_sem]
 . simp(disch:=omega)[go_sem,e2,e3,e4,ai.e]
 . intro j ds ao;obtain⟨k,P,es,clock,hj,hs,hP,rfl⟩:=(hI _ _).1 ao;clear ao;by_cases af:k<g.aH.length
   . have ad:(k:Int)<g.aH.length:=by omega
     obtain⟨s,au⟩:∃s,g.aH[k]? =some s:=⟨_,List.getElem?_eq_getElem af⟩;obtain⟨ha,hp⟩:=hn.at au;simp(disch:=omega)[go_sem,ad,au,-getElem?_pos];refine zt (b:=N+1+1) (r:=N+1) (wr:=true) (ah:=0) (es:=es) (clock:=clock) (by simp(disch:=omega)[go_sem]) (by simp(disch:=omega)[go_sem]) hs ha λae aa T av=> ?_;rw[hp]at av;simp(disch:=omega)[go_sem,aD];refine⟨j-1,by omega,_,aA.mk (N:=P) ?_ ?_ ?_,(hI _ _).2 ⟨k+1,P,ae,aa,by omega,av,hP,rfl⟩⟩
     . simp(disch:=omega)[go_sem]
     . simp(disch:=omega)[go_sem]
     . simp(disch:=omega)[go_sem,ai.e]
   . have ad:¬(k:Int)<g.aH.length:=by omega
     have h2:¬g.start<0:=by omega
     have h3:¬(g.aH.length:Int)<=g.start:=by omega
     simp(disch:=omega)[go_sem,ad,ai.e,h2,h3]
end Go.Sp
end
noncomputable section
open Go Go.aw Go.Proofs
namespace Go.Sp
set_option maxRecDepth 100000
def C4:ByteArray:=⟨#[116,114,117,101]⟩
def C5:ByteArray:=⟨#[102,97,108,115,101]⟩
def IL(s:ByteArray):Prop:=ax E true 143 [sV s] (bV true)/\s≠C4/\s≠C5
structure xy(g:ai):Prop where
 new:nI g.conds
 id:∀s∈g.conds,IL s
 len:g.conds.length<=64
 c9:∃c,g.family=aF c/\zu c g.conds.length/\g.family.root≠0
theorem abU(g:ai)(hg:xy g):ax E true 103 [.agg g.e] (iV 0):=by
 have hn:=hg.new;have hlen:=hg.len;refine bc Wq rfl Tryz.ntmps103 Tryz.results103 λN=> ?_;simp(disch:=omega)[go_sem,ai.e];refine zx λes clock h' T hs e1 e2 e3 e4=> ?_;simp(disch:=omega)[go_sem]at e1 e2 e3 e4;simp(disch:=omega)[go_sem,e1,e2,e3,e4];obtain⟨I,hI⟩:∃I:Nat->DS->Prop,∀j d,I j d↔∃(k P:Nat) (es:List bA) (clock:Nat),j+k=g.conds.length/\tx es (mN (g.conds.take k))/\N+2<P/\d=⟨bQ [(1,.v (.pointer (some ⟨N,0,none⟩))),(3,.fn 165 [] [.v (.pointer (some ⟨N+1+1,0,none⟩))]),(8,strs g.conds),(9,iV g.conds.length),(10,iV k)],45,[],cK P [(N,.row g.e true 0),(N+1,.map es clock),(N+1+1,.row [.v (.map (some (N+1)))] true 0)]⟩:=⟨_,λ_ _=>Iff.rfl⟩;refine cx I g.conds.length ⟨_,aA.mk (N:=N+3) ?_ ?_ ?_,(hI _ _).2 ⟨0,N+3,es,clock,rfl,hs,by omega,rfl⟩⟩ ?_
 . simp(disch:=omega)[go_sem,e1]
 . simp(disch:=omega)[go_sem]
 . simp(disch:=omega)[go_sem,e2,e3,e4,ai.e]
 . intro j ds ao;obtain⟨k,P,es,clock,hj,hs,hP,rfl⟩:=(hI _ _).1 ao;clear ao;by_cases av:k<g.conds.length
   . have aa:(k:Int)<g.conds.length:=by omega
     obtain⟨s,ae⟩:∃s,g.conds[k]? =some s:=⟨_,List.getElem?_eq_getElem av⟩;obtain⟨hi,ht,hf⟩:=hg.id s (List.mem_of_getElem? ae);obtain⟨ha,hp⟩:=hn.at ae;unfold C4 at ht;unfold C5 at hf;simp(disch:=omega)[go_sem,aa,ae,-getElem?_pos];refine aq.mk hi λP2 af=> ?_;simp(disch:=omega)[go_sem]at af;simp(disch:=omega)[go_sem,ht,hf];refine zt (b:=N+1+1) (r:=N+1) (wr:=true) (ah:=0) (es:=es) (clock:=clock) (by simp(disch:=omega)[go_sem]) (by simp(disch:=omega)[go_sem]) hs ha λay ab T au=> ?_;rw[hp]at au;simp(disch:=omega)[go_sem,aD];refine⟨j-1,by omega,_,aA.mk (N:=P2) ?_ ?_ ?_,(hI _ _).2 ⟨k+1,P2,ay,ab,by omega,au,by omega,rfl⟩⟩
     . simp(disch:=omega)[go_sem]
     . simp(disch:=omega)[go_sem]
     . simp(disch:=omega)[go_sem,ai.e]
   . have aa:¬(k:Int)<g.conds.length:=by omega
     obtain⟨c,h1,h2,h3⟩:=hg.c9;have ad:=xw c g.conds.length h2;rw[<-h1]at ad;simp only[Dg.e]at ad;simp(disch:=omega)[go_sem,aa,ai.e];refine aq.mk ad λP2 af=> ?_;simp(disch:=omega)[go_sem]at af;simp(disch:=omega)[go_sem,h3]
theorem C6(a b:Int):(if b>a then b else a)=max a b:=by split<;>omega
theorem abV(a b:Int):sM E [.int .i64 a,.int .i64 b]=some (.int .i64 (max a b)):=by
 rw[<-C6];rfl
theorem abW(a b c:Int):sM E [.int .i64 a,.int .i64 b,.int .i64 c]=some (.int .i64 (max (max a b) c)):=by
 rw[<-C6,<-C6];rfl
theorem abX(p:aR)(h1:p.right.length<=16)(h2:p.layout.length<=16):ax E true 141 [.agg p.e] (bV false):=by
 have hm:¬(16:Int)<max (p.right.length:Int) (p.layout.length:Int):=by omega
 refine bc WV rfl Tryz.ntmps141 Tryz.results141 λN=> ?_;simp(disch:=omega)[go_sem,aR.e,rj,exact,abV,hm]
structure IM(g:ai):Prop where
 conds:g.conds.length<=64
 ar:g.ar.length<=256
 bp:g.bp.length<=4096
 aH:g.aH.length<=2000
 ak:g.ak.length<=2000
 bd:g.bd.length<=2000
 right:∀p∈g.ak,p.right.length<=16/\p.layout.length<=16
theorem abY(g:ai)(hg:IM g):ax E true 102 [.agg g.e] (bV false):=by
 obtain⟨h1,h2,h3,h4,h5,h6,h7⟩:=hg;have hm:¬(2000:Int)<max (max (g.aH.length:Int) (g.ak.length:Int)) (g.bd.length:Int):=by omega
 have az:¬(2000:Int)<max (g.aH.length:Int) (max (g.ak.length:Int) (g.bd.length:Int)):=by omega
 have e1:¬(64:Int)<g.conds.length:=by omega
 have e2:¬(256:Int)<g.ar.length:=by omega
 have e3:¬(4096:Int)<g.bp.length:=by omega
 have e4:¬64<g.conds.length:=by omega
 have e5:¬256<g.ar.length:=by omega
 have e6:¬4096<g.bp.length:=by omega
 have hh:=abO (aj:=true) (g.ak.map aR.e) 141 [] (λx hx=>by obtain⟨y,_,rfl⟩:=List.mem_map.1 hx;rfl) (by simp;omega) (λx hx=>by
  obtain⟨y,hy,rfl⟩:=List.mem_map.1 hx;exact abX y (h7 y hy).1 (h7 y hy).2)
 refine bc Wp rfl Tryz.ntmps102 Tryz.results102 λN=> ?_;simp(disch:=omega)[go_sem,ai.e,rj,exact,abW,hm,az,e1,e2,e3,e4,e5,e6];refine aq.mk hh λM hM=> ?_;simp(disch:=omega)[go_sem]at hM;simp(disch:=omega)[go_sem]
def rI(g:ai)(s:Sym):Prop:=match s.tok with
 |false=>0<=s.idx/\s.idx<g.aH.length
 |true=>∃t,0<=s.idx/\g.ar[s.idx.toNat]? =some t/\t.cls=0
theorem abZ(g:ai)(s:Sym)(h:rI g s):ax E true 146 [.agg g.e,.agg s.e] (bV true):=by
 obtain⟨tok,i⟩:=s;refine bc WZ rfl Tryz.ntmps146 Tryz.results146 λN=> ?_;cases tok with
 |false=>
  obtain⟨h0,h1⟩:=h;simp only at h0 h1;simp(disch:=omega)[go_sem,ai.e,Sym.e,h0,h1]
 |true=>
  obtain⟨t,h0,h1,h2⟩:=h;simp only at h0 h1;have hl:i<g.ar.length:=by
   have:=(List.getElem?_eq_some_iff.1 h1).1;omega
  simp(disch:=omega)[go_sem,ai.e,Sym.e,h0,hl,h1,-getElem?_pos,Tok.e,h2]
theorem IN(g:ai)(s:Sym)(h:rI g s):ax E true 145 [.agg s.e,.ptr g.e 0] (bV false):=by
 have h1:=abZ g s h;refine bc WY rfl Tryz.ntmps145 Tryz.results145 λN=> ?_;simp(disch:=omega)[go_sem,ai.e,Sym.e]at h1⊢;refine aq.mk h1 λM hM=> ?_;simp(disch:=omega)[go_sem]at hM;simp(disch:=omega)[go_sem]
end Go.Sp
end
noncomputable section
open Go Go.aw Go.Proofs
namespace Go.Sp
set_option maxRecDepth 100000
theorem nJ{S:fA}{b ah:Nat}{cs:List DV}(h:S b=some (cs,ah)):Fz S (.v (.pointer (some ⟨b,0,none⟩))) (.ptr cs 0):=
 .ptr (o:=0) (off:=0) (ah:=ah) h (by omega) λi v d h1 h2=>by
  rw[Nat.zero_add,h1]at h2;cases h2;exact .refl _
theorem IT{S:fA}{f:FuncId}{a b:DV}(h:Fz S a b):Fz S (.fn f [] [a]) (.fn f [] [b]):=
 .fn rfl (λi v d h1 h2=>by simp at h1) rfl λi v d h1 h2=>by
  cases i with
  |succ i=>simp at h1
  |zero=>simp only[List.getElem?_cons_zero,Option.some.injEq]at h1 h2;subst h1;subst h2;exact h
def zA(p:aR)(k v lo hi:Int):Prop:=(k=0/\v=0)\/(0<k/\(∃s,p.right[(k-1).toNat]? =some s/\s.tok=true)/\lo<=v/\v<=hi)
def IU(n:Nat)(x:mI):Prop:=1<=x.kind/\x.kind<=4/\0<=x.a/\x.a<n/\0<=x.b/\x.b<n/\(x.kind=1->x.b=0)
structure zB(p:aR):Prop where
 len:p.right.length<=16
 lay:∀x∈p.layout,IU p.right.length x
 rJ:p.layout.length<=16
 vk:zA p p.scope.declares p.scope.kind 1 7
 use:zA p p.scope.xg p.scope.allowed 0 255
 br:p.bracket=true->p.fk=0/\p.layout=[]/\p.scope=⟨false,0,0,0,0⟩/\∃a b,a.tok=true/\b.tok=true/\p.right=[a,⟨false,p.left⟩,b]
theorem IV(p:aR)(i:Int)(h0:0<=i)(h1:i<p.right.length):ax E true 169 [iV i,.ptr p.e 0] (bV true):=by
 refine bc Xg rfl Tryz.ntmps169 Tryz.results169 λN=> ?_;simp(disch:=omega)[go_sem,aR.e,h0,h1]
theorem IW(p:aR)(k v lo hi:Int)(hp:p.right.length<=16)(h:zA p k v lo hi):ax E true 170 [iV k,iV v,iV lo,iV hi,.ptr p.e 0] (bV true):=by
 refine bc Xh rfl Tryz.ntmps170 Tryz.results170 λN=> ?_;rcases h with⟨rfl,rfl⟩|⟨h1,⟨s,h2,h3⟩,h4,h5⟩
 . simp(disch:=omega)[go_sem,aR.e]
 . have hl:=(List.getElem?_eq_some_iff.1 h2).1;have ao:¬k=0:=by omega
   have ab:k<=p.right.length:=by omega
   have au:1<=k:=by omega
   have av:p.right[k.toNat-1]? =some s:=by rw[<-h2];congr 1;omega
   simp(disch:=omega)[go_sem,aR.e,ao,h1,ab,au,av,-getElem?_pos,Sym.e,h3,h4,h5,aD]
theorem aci(p:aR)(hp:zB p):ax E true 148 [.agg p.e] (bV true):=by
 have hlen:=hp.len;have aB:=hp.rJ;refine bc W1 rfl Tryz.ntmps148 Tryz.results148 λN=> ?_;simp(disch:=omega)[go_sem,aR.e];obtain⟨I,hI⟩:∃I:Nat->DS->Prop,∀j d,I j d↔∃(k P:Nat),j+k=p.layout.length/\N<P/\d=⟨bQ [(1,.v (.pointer (some ⟨N,0,none⟩))),(9,.sl 3 (p.layout.map mI.e)),(10,iV p.layout.length),(11,iV k)],113,[],cK P [(N,.row p.e true 0)]⟩:=⟨_,λ_ _=>Iff.rfl⟩;refine cx I p.layout.length ⟨_,aA.mk (N:=N+1) ?_ ?_ ?_,(hI _ _).2 ⟨0,N+1,rfl,by omega,rfl⟩⟩ ?_
 . simp(disch:=omega)[go_sem]
 . simp(disch:=omega)[go_sem]
 . simp(disch:=omega)[go_sem,aR.e]
 . intro j ds af;obtain⟨k,P,hj,hP,rfl⟩:=(hI _ _).1 af;clear af;by_cases ay:k<p.layout.length
   . have aa:(k:Int)<p.layout.length:=by omega
     obtain⟨x,ai⟩:∃x,p.layout[k]? =some x:=⟨_,List.getElem?_eq_getElem ay⟩;obtain⟨c1,c2,c3,c4,c5,c6,c7⟩:=hp.lay x (List.mem_of_getElem? ai);have d1:¬x.kind<1:=by omega
     have d2:¬4<x.kind:=by omega
     simp(disch:=omega)[go_sem,aa,ai,-getElem?_pos,mI.e,d1,d2];refine aq.pl (IV p x.a c3 c4) (.cons (.refl _) (.cons (nJ (ah:=0) (cN (wr:=true) (by simp(disch:=omega)[go_sem,aR.e]))) .nil)) λM hM=> ?_;simp(disch:=omega)[go_sem]at hM;simp(disch:=omega)[go_sem];refine aq.pl (IV p x.b c5 c6) (.cons (.refl _) (.cons (nJ (ah:=0) (cN (wr:=true) (by simp(disch:=omega)[go_sem,aR.e]))) .nil)) λM2 ad=> ?_;simp(disch:=omega)[go_sem]at ad;by_cases ab:x.kind=1
     . have az:=c7 ab;simp(disch:=omega)[go_sem,ab,az,aD];refine⟨j-1,by omega,_,aA.mk (N:=M2) ?_ ?_ ?_,(hI _ _).2 ⟨k+1,M2,by omega,by omega,rfl⟩⟩
       . simp(disch:=omega)[go_sem]
       . simp(disch:=omega)[go_sem]
       . simp(disch:=omega)[go_sem,aR.e]
     . simp(disch:=omega)[go_sem,ab,aD];refine⟨j-1,by omega,_,aA.mk (N:=M2) ?_ ?_ ?_,(hI _ _).2 ⟨k+1,M2,by omega,by omega,rfl⟩⟩
       . simp(disch:=omega)[go_sem]
       . simp(disch:=omega)[go_sem]
       . simp(disch:=omega)[go_sem,aR.e]
   . have aa:¬(k:Int)<p.layout.length:=by omega
     simp(disch:=omega)[go_sem,aa,aR.e];refine aq.pl (IW p p.scope.declares p.scope.kind 1 7 hlen hp.vk) (.cons (.refl _) (.cons (.refl _) (.cons (.refl _) (.cons (.refl _) (.cons (nJ (ah:=0) (cN (wr:=true) (by simp(disch:=omega)[go_sem,aR.e]))) .nil))))) λM hM=> ?_;simp(disch:=omega)[go_sem]at hM;simp(disch:=omega)[go_sem];refine aq.pl (IW p p.scope.xg p.scope.allowed 0 255 hlen hp.use) (.cons (.refl _) (.cons (.refl _) (.cons (.refl _) (.cons (.refl _) (.cons (nJ (ah:=0) (cN (wr:=true) (by simp(disch:=omega)[go_sem,aR.e]))) .nil))))) λM2 ad=> ?_;simp(disch:=omega)[go_sem]at ad;cases hb:p.bracket with
     |false=>simp(disch:=omega)[go_sem,aR.e,hb]
     |true=>
      obtain⟨b1,b2,b3,a,b,b4,b5,b6⟩:=hp.br hb;simp(disch:=omega)[go_sem,aR.e,hb,b1,b2,b3,b6];refine⟨_,ach _ _, ?_⟩;simp(disch:=omega)[go_sem,aR.e,hb,b1,b2,b3,b6];refine ck [ae 0,aJ 1,ae 3,ae 7,aJ 15,ae 31,ae 63,aJ 127,ae 255,aJ 511,ae 63,aJ 1087,ae 3135,ae 8191,ae 16383,ae 32767,ae 65535,aJ 131071,ae 262143,ae 524287,aJ 1048575,ae 2097151,ae 4194303] (by kernel_rfl) 0 rfl ?_;simp(disch:=omega)[go_sem,aR.e,hb,b1,b2,b3,b6,Sym.e,b4,b5,IS]
end Go.Sp
end
noncomputable section
open Go Go.aw Go.Proofs
namespace Go.Sp
set_option maxRecDepth 100000
def lK(n:Int)(d:Dg):Prop:=∃c,d=aF c/\zu c n
structure vl(g:ai)(p:aR):Prop where
 left:0<=p.left/\p.left<g.aH.length
 right:∀s∈p.right,rI g s
 cond:lK g.conds.length p.cond
 fk:-1<=p.fk/\p.fk<=1
 aj:zB p
structure IX(g:ai):Prop where
 new:nI (g.ak.map (·.name))
 len:g.ak.length<=2000
 ok:∀p∈g.ak,vl g p
theorem acj(g:ai)(l:List Sym)(hl:l.length<=16)(h:∀s∈l,rI g s):ax E true 147 [.sl 2 (l.map Sym.e),.fn 145 [] [.ptr g.e 0]] (bV false):=
 abQ _ _ _ (λx hx=>by obtain⟨y,_,rfl⟩:=List.mem_map.1 hx;rfl) (by simp;omega) λx hx=>by
  obtain⟨y,hy,rfl⟩:=List.mem_map.1 hx;exact IN g y (h y hy)
set_option maxHeartbeats 2000000 in
theorem ack(g:ai)(hg:IX g):ax E true 106 [.agg g.e] (iV 0):=by
 have hn:=hg.new;have hlen:=hg.len;refine bc Wt rfl Tryz.ntmps106 Tryz.results106 λN=> ?_;simp(disch:=omega)[go_sem,ai.e];refine zx λes clock h' T hs e1 e2 e3 e4=> ?_;simp(disch:=omega)[go_sem]at e1 e2 e3 e4;simp(disch:=omega)[go_sem,e1,e2,e3,e4];obtain⟨I,hI⟩:∃I:Nat->DS->Prop,∀j d,I j d↔∃(k P:Nat) (es:List bA) (clock:Nat),j+k=g.ak.length/\tx es (mN ((g.ak.map (·.name)).take k))/\N+2<P/\d=⟨bQ [(1,.v (.pointer (some ⟨N,0,none⟩))),(3,.fn 165 [] [.v (.pointer (some ⟨N+1+1,0,none⟩))]),(9,.sl 13 (g.ak.map aR.e)),(10,iV g.ak.length),(11,iV k)],57,[],cK P [(N,.row g.e true 0),(N+1,.map es clock),(N+1+1,.row [.v (.map (some (N+1)))] true 0)]⟩:=⟨_,λ_ _=>Iff.rfl⟩;refine cx I g.ak.length ⟨_,aA.mk (N:=N+3) ?_ ?_ ?_,(hI _ _).2 ⟨0,N+3,es,clock,rfl,hs,by omega,rfl⟩⟩ ?_
 . simp(disch:=omega)[go_sem,e1]
 . simp(disch:=omega)[go_sem]
 . simp(disch:=omega)[go_sem,e2,e3,e4,ai.e]
 . intro j ds au;obtain⟨k,P,es,clock,hj,hs,hP,rfl⟩:=(hI _ _).1 au;clear au;by_cases ay:k<g.ak.length
   . have aa:(k:Int)<g.ak.length:=by omega
     obtain⟨p,ao⟩:∃p,g.ak[k]? =some p:=⟨_,List.getElem?_eq_getElem ay⟩;have ab:=hg.ok p (List.mem_of_getElem? ao);obtain⟨c,az,aB⟩:=ab.cond;have ad:=xw c g.conds.length aB;rw[<-az]at ad;have af:=aci p ab.aj;have aC:(g.ak.map (·.name))[k]? =some p.name:=by rw[List.getElem?_map,ao];rfl
     obtain⟨ha,hp⟩:=hn.at aC;have d1:¬p.fk< -1:=by have:=ab.fk;omega
     have d2:¬1<p.fk:=by have:=ab.fk;omega
     simp only[Dg.e,aR.e]at ad af;simp(disch:=omega)[go_sem,aa,ao,-getElem?_pos,aR.e];refine aq.pl (IN g ⟨false,p.left⟩ ab.left) (.cons (.refl _) (.cons (nJ (ah:=0) (cN (wr:=true) (by simp(disch:=omega)[go_sem,ai.e]))) .nil)) λM hM=> ?_;simp(disch:=omega)[go_sem]at hM;simp(disch:=omega)[go_sem];refine aq.pl (acj g p.right ab.aj.len ab.right) (.cons (.refl _) (.cons (IT (nJ (ah:=0) (cN (wr:=true) (by simp(disch:=omega)[go_sem,ai.e])))) .nil)) λM2 aE=> ?_;simp(disch:=omega)[go_sem]at aE;simp(disch:=omega)[go_sem];refine zt (b:=N+1+1) (r:=N+1) (wr:=true) (ah:=0) (es:=es) (clock:=clock) (by simp(disch:=omega)[go_sem]) (by simp(disch:=omega)[go_sem]) hs ha λaI ae T av=> ?_;rw[hp]at av;simp(disch:=omega)[go_sem,ai.e];refine aq.mk ad λM3 aJ=> ?_;simp(disch:=omega)[go_sem]at aJ;simp(disch:=omega)[go_sem,d1,d2];refine aq.mk af λM4 aL=> ?_;simp(disch:=omega)[go_sem]at aL;simp(disch:=omega)[go_sem,aD];refine⟨j-1,by omega,_,aA.mk (N:=M4) ?_ ?_ ?_,(hI _ _).2 ⟨k+1,M4,aI,ae,by omega,av,by omega,rfl⟩⟩
     . simp(disch:=omega)[go_sem]
     . simp(disch:=omega)[go_sem,aR.e]
     . simp(disch:=omega)[go_sem,ai.e]
   . have aa:¬(k:Int)<g.ak.length:=by omega
     simp(disch:=omega)[go_sem,aa,ai.e]
end Go.Sp
end

/- Parts of a proof. -/
import Derived.Test.YtniliiapkfpajaaGreatDoorK10
import Derived.Test.YtniliiapkfpajaaGreatDoorK12
import Derived.Test.YtniliiapkfpajaaGreatDoorK13
import Derived.Test.YtniliiapkfpajaaGreatDoorK14
import Derived.Test.YtniliiapkfpajaaGreatDoorK15
import Derived.Test.YtniliiapkfpajaaGreatDoorK16
open List renaming getElem?_eq_getElem->oY,range->yx,all_eq_true->Fj,getElem?_eq_some_iff->HT,mem_of_getElem?->Q0,mem_map->Rb,getElem?_map->Rm,map_cons->Xt,getElem?_cons_zero->Yt,take_add_one->YN,take_of_length_le->afc,mem_cons->afd,mem_range->aff,mem_flatMap->afg,flatMap_cons->afi,getElem?_of_mem->aft,take_append_drop->afu,drop_eq_getElem_cons->afv,flatMap_append->afw,append_assoc->afx,nodup_append->afy,foldl_cons->afC,mem_singleton->afE
open Iff renaming rfl->Ey
open Nat renaming le_refl->UR,zero_add->adr,lt_of_lt_of_le->afl,pow_le_pow_right->afm,add_mul->afp,lt_or_ge->afq,ble_eq_true_of_le->afr,lt_of_le_of_lt->afz,and_le_left->afA,or_lt_two_pow->afB,testBit_lt_two_pow->afD
open Option.some renaming injEq->WZ
open Array renaming ext'->afe
open Int renaming toNat_of_nonneg->afh
open Prod.mk renaming injEq->afj
open Bool renaming and_eq_true->afk
open Option renaming toList_some->afn,map_eq_some_iff->afo
open BitVec renaming ofInt->afs
open Std.Legacy.Range renaming forIn_eq_forIn_range'->afF,size->afG
set_option linter.all false
set_option maxRecDepth 100000
noncomputable section
open Go Go.aD Go.Proofs
namespace Go.Sp
def ZU:∀p∈gT,gU p:=Cr 14 20 aA λi hi=>match i,hi with
 |0,_=>YW
 |1,_=>YX
 |2,_=>YY
 |3,_=>YZ
 |4,_=>Y0
 |5,_=>Y1
 |6,_=>Y2
 |7,_=>Y3
 |8,_=>Y4
 |9,_=>Y5
 |10,_=>Y6
 |11,_=>Y7
 |12,_=>Y8
 |13,_=>Y9
 |14,_=>Za
 |15,_=>Zb
 |16,_=>Zc
 |17,_=>Zd
 |18,_=>Ze
 |19,_=>Zf
 |i+20,h=>absurd h aa
def fit:∀p∈eB,gV p:=Cr 14 20 aA λi hi=>match i,hi with
 |0,_=>Zg
 |1,_=>Zh
 |2,_=>Zi
 |3,_=>Zj
 |4,_=>Zk
 |5,_=>Zl
 |6,_=>Zm
 |7,_=>Zn
 |8,_=>Zo
 |9,_=>Zp
 |10,_=>Zq
 |11,_=>Zr
 |12,_=>Zs
 |13,_=>Zt
 |14,_=>Zu
 |15,_=>Zv
 |16,_=>Zw
 |17,_=>Zx
 |18,_=>Zy
 |19,_=>Zz
 |i+20,h=>absurd h aa
def ZV:∀p∈yx 256,gW p:=Cr 13 20 aA λi hi=>match i,hi with
 |0,_=>ZA
 |1,_=>ZB
 |2,_=>ZC
 |3,_=>ZD
 |4,_=>ZE
 |5,_=>ZF
 |6,_=>ZG
 |7,_=>ZH
 |8,_=>ZI
 |9,_=>ZJ
 |10,_=>ZK
 |11,_=>ZL
 |12,_=>ZM
 |13,_=>ZN
 |14,_=>ZO
 |15,_=>ZP
 |16,_=>ZQ
 |17,_=>ZR
 |18,_=>ZS
 |19,_=>ZT
 |i+20,h=>absurd h aa
def Cs(c:Nat)(hc:c<256):ay E true 148 [.agg (aO c).e] (iV 0):=ZV c (aff.2 hc)
def ZW(v t:Nat)(hv:v<3)(ht:t∈tv v):ay E true 175 [.agg (aO (xv v)).e,.agg (aO t).e] (.agg (aO (xv v&&&t)).e):=YU (xv v,t) (afg.2 ⟨v,aff.2 hv,Rb.2 ⟨t,ht,rfl⟩⟩)
def ZX(v t:Nat)(hv:v<3)(ht:t∈tv v):ay E true 175 [.agg (aO t).e,.agg (aO (255-xv v)).e] (.agg (aO (t&&&(255-xv v))).e):=YV (t,255-xv v) (afg.2 ⟨v,aff.2 hv,Rb.2 ⟨t,ht,rfl⟩⟩)
def univ(v t s:Nat)(hv:v<3)(ht:t∈tv v)(hs:s∈tv v):ay E true 174 [.agg (aO (xv v&&&t)).e,.agg (aO (s&&&(255-xv v))).e] (.agg (aO ((xv v&&&t)|||(s&&&(255-xv v)))).e):=ZU (xv v&&&t,s&&&(255-xv v)) (afg.2 ⟨v,aff.2 hv,afg.2 ⟨t,ht,Rb.2 ⟨s,hs,rfl⟩⟩⟩)
def ZY(v:Nat)(hv:v<3):ay E true 172 [.agg (aO (xv v)).e] (.agg (aO (255-xv v)).e):=YT (xv v) (by rcases v with _|_|_|v<;>first|decide|omega)
def Z0(v t:Nat)(hv:v<3)(ht:t∈tv v):ay E true 176 [.agg (aO t).e,.agg (aO (xv v)).e] (.agg (aO (t&&&(255-xv v))).e):=by
 have h1:=ZY v hv;have h2:=ZX v t hv ht;generalize aO t=a at*;generalize aO (xv v)=b at*;generalize aO (255-xv v)=c at*;generalize aO (t&&&(255-xv v))=r at*;refine aV Tryz.ntmps176 Tryz.results176 λN=> ?_;simp(disch:=omega)[go_sem,Dg.e];refine bH [dq 0,aC 0,aT 2,aT 7,aT 15] an 0 rfl ?_;simp(disch:=omega)[go_sem,Dg.e];refine au.mk h1 λM=>aR λhM=> ?_;simp(disch:=omega)[go_sem,Dg.e];refine au.mk h2 λM2=>aR λaA=> ?_;simp(disch:=omega)[go_sem,Dg.e]
def gI(b:Nat):Nat->Nat->Nat->Nat
 |0,_,k=>if b.testBit k then 255 else 0
 |j+1,v,k=>(xv v&&&gI b j (v+1) (k+2^v))|||(gI b j (v+1) k&&&(255-xv v))
def HX(b j v k:Nat)(hb:b<256)(hv:v<3)(hj:v+1+j<=3)(hk:k<8):gI b j (v+1) k∈tv v:=by
 have h:((yx 256).all λb=>(yx 3).all λv=>(yx 3).all λj=>(yx 8).all λk=> !Nat.ble (v+1+j) 3||(tv v).contains (gI b j (v+1) k))=true:=an;have:=Fj.1 (Fj.1 (Fj.1 (Fj.1 h b (by simpa using hb)) v (by simpa using hv)) j (by simp;omega)) k (by simpa using hk);rw[afr hj]at this;simpa using this
def wi:aO 255=bg true/\aO 0=bg false:=⟨rfl,rfl⟩
def HY(v:Nat)(hv:v<3):aO (xv v)=vr v:=by
 have:v=0\/v=1\/v=2:=aa;rcases this with rfl|rfl|rfl<;>rfl
def hd(l:List Int):Nat:=(l.headD 0).toNat
def Z1{e:Env}{ty:TypeId}{x y:Operand}{n:Int}(h0:0<=n)(h1:n<256):cL e .and ty x y (.int .u8 n) (.int .u8 1)=some (.int .u8 (n%2)):=by
 rw[Gn];have h:((yx 256).all λn=>decide (IntKind.u8.wrap ((afs IntKind.u8.bits (n:Int)&&&afs IntKind.u8.bits 1).toNat:Nat)=(n:Int)%2))=true:=an;have:=Fj.1 h n.toNat (by simp;omega);rw[afh h0]at this;rw[of_decide_eq_true this]
def Z2(b:Int)(k:Nat)(h0:0<=b)(h1:b<256)(hk:k<8):(b.fdiv (2^k)%2=1↔b.toNat.testBit k=true)/\0<=b.fdiv (2^k)/\b.fdiv (2^k)<256:=by
 have h:((yx 256).all λb=>(yx 8).all λk=>(decide ((b:Int).fdiv (2^k)%2=1)==b.testBit k)&&decide (0<=(b:Int).fdiv (2^k))&&decide ((b:Int).fdiv (2^k)<256))=true:=an;have:=Fj.1 (Fj.1 h b.toNat (by simp;omega)) k (by simpa using hk);rw[afh h0]at this;simp only[afk,decide_eq_true_iff]at this;refine⟨?_,this.1.2,this.2⟩;rw[<-eq_of_beq this.1.1,decide_eq_true_iff]
def Z3(l:List Int)(hl:∀b∈l,0<=b/\b<256)(n k:Nat)(hk:k<8):ay E true 111 [.sl 1 (l.map λb=>[uV b]),iV n,iV n,iV k] (.agg (aO (gI (hd l) 0 n k)).e):=by
 have ab:aO (gI (hd l) 0 n k)=bg ((hd l).testBit k):=by
  simp only[gI];cases(hd l).testBit k
  . exact wi.2
  . exact wi.1
 rw[ab];have ai:((k:Int)/8)=0:=aa;have aj:((k:Int)%8)=k:=aa;have ad:IntKind.u64.wrap (k:Int)=k:=by
  have h:((yx 8).all λk=>decide (IntKind.u64.wrap (k:Int)=k))=true:=an;simpa using Fj.1 h k (by simpa using hk)
 refine aV Tryz.ntmps111 Tryz.results111 λN=> ?_;cases l with
 |nil=>
  simp(disch:=omega)[go_sem,jY,dw,ai,aj,aG];refine au.mk (sd false) λM=>aR λhM=> ?_;simp(disch:=omega)[go_sem,Dg.e,hd]
 |cons b r=>
  have hb:=hl b aw;obtain⟨af,aJ,aK⟩:=Z2 b k hb.1 hb.2 hk;simp(disch:=first|assumption|omega) [go_sem,jY,dw,ai,aj,ad,aG,Z1,af];refine au.mk (sd _) λM=>aR λhM=> ?_;simp(disch:=omega)[go_sem,Dg.e,hd,Nat.testBit_eq_decide_div_mod_eq]
def Ct(l:List Int)(hl:∀b∈l,0<=b/\b<256)(n:Nat)(hn:n<=3):∀(j v k:Nat),v+j=n->k<2^v->ay E true 111 [.sl 1 (l.map λb=>[uV b]),iV n,iV v,iV k] (.agg (aO (gI (hd l) j v k)).e)
 |0,v,k,hj,hk=>by
  have:v=n:=aa;subst this;have:k<8:=afl hk (afm aa hn);exact Z3 l hl v k this
 |j+1,v,k,hj,hk=>by
  have hv:v<3:=aa;have aE:k+2^v<2^(v+1):=by rw[Nat.pow_succ];omega
  have aH:k<2^(v+1):=aa;have ao:=Ct l hl n hn j (v+1) (k+2^v) aa aE;have av:=Ct l hl n hn j (v+1) k aa aH;have hb:hd l<256:=by
   cases l with
   |nil=>simp[hd]
   |cons b r=>have:=hl b aw;simp[hd];omega
  have h8:2^(v+1)<=8:=afm (n:=2) aa (show v+1<=3 by omega);have t1:=HX (hd l) j v (k+2^v) hb hv aa aa;have t0:=HX (hd l) j v k hb hv aa aa;have hA:=ZW v _ hv t1;have hB:=Z0 v _ hv t0;have hU:=univ v _ _ hv t1 t0;rw[HY v hv]at hA hB;have ab:aO (gI (hd l) (j+1) v k)=aO ((xv v&&&gI (hd l) j (v+1) (k+2^v))|||(gI (hd l) j (v+1) k&&&(255-xv v))):=rfl;rw[ab];clear ab;generalize aO ((xv v&&&gI (hd l) j (v+1) (k+2^v))|||(gI (hd l) j (v+1) k&&&(255-xv v)))=R at*;generalize aO (xv v&&&gI (hd l) j (v+1) (k+2^v))=A at*;generalize aO (gI (hd l) j (v+1) k&&&(255-xv v))=B at*;generalize aO (gI (hd l) j (v+1) (k+2^v))=P at*;generalize aO (gI (hd l) j (v+1) k)=Q at*;have e1:¬(v:Int)=n:=aa;have e2:¬n=v:=aa;have e3:¬v=n:=aa;have hs:IntKind.i64.wrap (2^v)=2^v:=by
   have:v=0\/v=1\/v=2:=aa;rcases this with rfl|rfl|rfl<;>decide
  have hw:IntKind.u64.wrap (v:Int)=v:=by
   have:v=0\/v=1\/v=2:=aa;rcases this with rfl|rfl|rfl<;>decide
  have ah:min v IntKind.i64.bits=v:=by simp[IntKind.bits];omega
  have hp:(0:Int)<2^v/\(2:Int)^v<=4:=by
   have:v=0\/v=1\/v=2:=aa;rcases this with rfl|rfl|rfl<;>decide
  have aL:k<4:=by
   have:v=0\/v=1\/v=2:=aa;rcases this with rfl|rfl|rfl<;>simp at hk<;>omega
  have hc:((k+2^v:Nat):Int)=(k:Int)+2^v:=aw;have az:((v+1:Nat):Int)=(v:Int)+1:=aw;rw[hc,az]at ao;rw[az]at av;generalize hq:(2:Int)^v=q at*;refine aV Tryz.ntmps111 Tryz.results111 λN=> ?_;simp(disch:=omega)[go_sem,aG,e1,e2,e3];refine au.mk (Gx v aa aa) λM=>aR λhM=> ?_;simp(disch:=omega)[go_sem,Dg.e];refine bH [dq 0,ae 0,ae 0,ae 0,ae 8,ae 0,ae 0,aC 64,ae 192,ae 480,aT 1022,aT 2047,ae 0,ae 0,ae 0,ae 16384,ae 0,aT 131071,⟨.read,0,some (0,4),true⟩,aT 524287,aT 1048575,aT 2097151] an 0 rfl ?_;simp(disch:=omega)[go_sem,aG,hw,ah,hq];refine au.mk ao λM2=>aR λaA=> ?_;simp(disch:=omega)[go_sem,Dg.e];refine au.mk hA λM3=>aR λaM=> ?_;simp(disch:=omega)[go_sem,Dg.e,aG];refine au.mk av λM4=>aR λaP=> ?_;simp(disch:=omega)[go_sem,Dg.e];refine au.mk hB λM5=>aR λaS=> ?_;simp(disch:=omega)[go_sem,Dg.e];refine au.mk hU λM6=>aR λaW=> ?_;simp(disch:=omega)[go_sem,Dg.e]
def dQ(l:List Int)(n:Nat):Dg:=aO (gI (hd l) n 0 0)
def Z4(n:Nat)(hn:n<=3):((lA [iV n,.v (.int .i64 6)]).bind λl=>(nK E l).map DV.v)=some (iV n):=by
 have:n=0\/n=1\/n=2\/n=3:=aa;rcases this with rfl|rfl|rfl|rfl<;>rfl
def Z5(n:Nat)(hn:n<=3):((lA [.v (.int .i64 0),iV n]).bind λl=>(rJ E l).map DV.v)=some (iV n):=by
 have:n=0\/n=1\/n=2\/n=3:=aa;rcases this with rfl|rfl|rfl|rfl<;>rfl
def Z6:HV dQ:=by
 intro l n hl hn;have h:=Ct l hl n hn n 0 0 aa aw;have hr:dQ l n=aO (gI (hd l) n 0 0):=rfl;rw[hr];generalize aO (gI (hd l) n 0 0)=R at*;refine aV Tryz.ntmps58 Tryz.results58 λN=> ?_;simp(disch:=omega)[go_sem,Z4 n hn,Z5 n hn];refine au.mk h λM=>aR λhM=> ?_;simp(disch:=omega)[go_sem,Dg.e]
def Z7(v:Int)(n:Nat)(hn:n<=3)(h0:0<=v)(h1:v<n):(∃c,vr v=aO c/\(c,(n:Int))∈eB)/\∃c,tW v=aO c/\(c,(n:Int))∈eB:=by
 have h:((yx 4).all λn=>(yx 3).all λv=> !Nat.blt v n||(eB.contains (xv v,(n:Int))&&eB.contains (255-xv v,(n:Int))))=true:=an;have h2:=Fj.1 (Fj.1 h n (by simp;omega)) v.toNat (by simp;omega);have h3:Nat.blt v.toNat n=true:=afr (show v.toNat+1<=n by omega);rw[h3]at h2;simp only[Bool.not_true,Bool.false_or,afk,List.contains_eq_mem,decide_eq_true_eq]at h2;refine⟨⟨_, ?_,h2.1⟩,⟨_, ?_,h2.2⟩⟩
 . rw[HY _ aa,afh h0]
 . have:v=0\/v=1\/v=2:=aa;rcases this with rfl|rfl|rfl<;>rfl
def HZ(b n:Nat)(hb:b<256)(hn:n<=3):(gI b n 0 0,(n:Int))∈eB:=by
 have h:((yx 256).all λb=>(yx 4).all λn=>eB.contains (gI b n 0 0,(n:Int)))=true:=an;simpa using Fj.1 (Fj.1 h b (by simpa using hb)) n (by simp;omega)
def H7(b:Int)(n:Nat)(hb:0<=b)(aX:b<256)(hn:n<=3):∃c,dg dQ b n=aO c/\(c,(n:Int))∈eB:=by
 unfold dg
 split
 . refine⟨255,wi.1.symm, ?_⟩;have h:((yx 4).all λn=>eB.contains (255,(n:Int)))=true:=an;simpa using Fj.1 h n (by simp;omega)
 . rename_i h;have aY:0<n:=aa;have h1:b/6%(n:Int)<n:=Int.emod_lt_of_pos _ aa;have h2:0<=b/6%(n:Int):=Int.emod_nonneg _ aa;have hv:=Z7 (b/6%n) n hn h2 h1
   split
   . exact hv.1
   . split
     . exact hv.2
     . exact⟨_,rfl,HZ _ n (by simp[hd];omega) hn⟩
def Z8:HW dQ:=by
 intro b n h0 h1 hn;obtain⟨c,h2,h3⟩:=H7 b n h0 h1 hn;rw[h2];exact fit (c,(n:Int)) h3
def Z9(x:cK)(hx:x.Ok):ay E true 18 [.agg x.e] (.agg (ig dQ x).e):=YP ZZ dQ Z6 Z8 x hx
def sw{n:Nat}{x:List DV}(h:x.length=n+1):fg (some (some (n+1))) x 0=some (.agg x):=by
 simp only[fg,adr,h,UR,if_true,List.drop_zero];rw[afc aa]
def aaa{ar:Bool}(xs:List (List DV))(f:FuncId)(c:List DV)(hx:∀x∈xs,x.length=3)(hlen:xs.length<=1000000)(hf:∀x∈xs,ay E ar f (.agg x::c) (bV false)):ay E ar 272 [.sl 3 xs,.fn f [] c] (iV (-1)):=by
 refine aV Tryz.ntmps272 Tryz.results272 λN=> ?_;refine aL ?_;obtain⟨I,hI⟩:∃I:Nat->DS->Prop,∀j d,I j d↔∃(k P:Nat),j+k=xs.length/\d=⟨bw [(0,.sl 3 xs),(1,.fn f [] c),(7,iV xs.length),(8,iV k)],19,[],cA P []⟩:=⟨_,λ_ _=>Ey⟩;refine bM I xs.length ⟨_,aB.mk (N:=N) ai ai ai,(hI _ _).2 ⟨0,N,rfl,rfl⟩⟩ ?_
 . intro j ds ad;obtain⟨k,P,hj,rfl⟩:=(hI _ _).1 ad;clear ad;by_cases af:k<xs.length
   . have ab:(k:Int)<xs.length:=aa;obtain⟨x,ae⟩:∃x,xs[k]? =some x:=⟨_,oY af⟩;have hm:=Q0 ae;have ah:=sw (hx x hm);simp(disch:=omega)[go_sem,ab,ae,-getElem?_pos,ah];refine au.mk (hf x hm) λP2=>aR λaj=> ?_;simp(disch:=omega)[go_sem,aG];exact⟨j-1,aa,_,aB.mk (N:=P2) ai ai ai,(hI _ _).2 ⟨k+1,P2,aa,rfl⟩⟩
   . have ab:¬(k:Int)<xs.length:=aa;simp(disch:=omega)[go_sem,ab]
def hasB{ar:Bool}(xs:List (List DV))(f:FuncId)(c:List DV)(hx:∀x∈xs,x.length=3)(hlen:xs.length<=1000000)(hf:∀x∈xs,ay E ar f (.agg x::c) (bV false)):ay E ar 244 [.sl 3 xs,.fn f [] c] (bV false):=by
 refine aV Tryz.ntmps244 Tryz.results244 λN=> ?_;refine aL ?_;refine au.mk (aaa xs f c hx hlen hf) λM=>aR λhM=> ?_;exact ai
def aab{ar:Bool}(xs:List (List DV))(f:FuncId)(c:List DV)(hx:∀x∈xs,x.length=13)(hlen:xs.length<=1000000)(hf:∀x∈xs,ay E ar f (.agg x::c) (bV false)):ay E ar 242 [.sl 13 xs,.fn f [] c] (iV (-1)):=by
 refine aV Tryz.ntmps242 Tryz.results242 λN=> ?_;refine aL ?_;obtain⟨I,hI⟩:∃I:Nat->DS->Prop,∀j d,I j d↔∃(k P:Nat),j+k=xs.length/\d=⟨bw [(0,.sl 13 xs),(1,.fn f [] c),(7,iV xs.length),(8,iV k)],19,[],cA P []⟩:=⟨_,λ_ _=>Ey⟩;refine bM I xs.length ⟨_,aB.mk (N:=N) ai ai ai,(hI _ _).2 ⟨0,N,rfl,rfl⟩⟩ ?_
 . intro j ds ad;obtain⟨k,P,hj,rfl⟩:=(hI _ _).1 ad;clear ad;by_cases af:k<xs.length
   . have ab:(k:Int)<xs.length:=aa;obtain⟨x,ae⟩:∃x,xs[k]? =some x:=⟨_,oY af⟩;have hm:=Q0 ae;have ah:=sw (hx x hm);simp(disch:=omega)[go_sem,ab,ae,-getElem?_pos,ah];refine au.mk (hf x hm) λP2=>aR λaj=> ?_;simp(disch:=omega)[go_sem,aG];exact⟨j-1,aa,_,aB.mk (N:=P2) ai ai ai,(hI _ _).2 ⟨k+1,P2,aa,rfl⟩⟩
   . have ab:¬(k:Int)<xs.length:=aa;simp(disch:=omega)[go_sem,ab]
def aac{ar:Bool}(xs:List (List DV))(f:FuncId)(c:List DV)(hx:∀x∈xs,x.length=13)(hlen:xs.length<=1000000)(hf:∀x∈xs,ay E ar f (.agg x::c) (bV false)):ay E ar 195 [.sl 13 xs,.fn f [] c] (bV false):=by
 refine aV Tryz.ntmps195 Tryz.results195 λN=> ?_;refine aL ?_;refine au.mk (aab xs f c hx hlen hf) λM=>aR λhM=> ?_;exact ai
def aad{ar:Bool}(xs:List (List DV))(f:FuncId)(c:List DV)(hx:∀x∈xs,x.length=2)(hlen:xs.length<=1000000)(hf:∀x∈xs,ay E ar f (.agg x::c) (bV false)):ay E ar 246 [.sl 2 xs,.fn f [] c] (iV (-1)):=by
 refine aV Tryz.ntmps246 Tryz.results246 λN=> ?_;refine aL ?_;obtain⟨I,hI⟩:∃I:Nat->DS->Prop,∀j d,I j d↔∃(k P:Nat),j+k=xs.length/\d=⟨bw [(0,.sl 2 xs),(1,.fn f [] c),(7,iV xs.length),(8,iV k)],19,[],cA P []⟩:=⟨_,λ_ _=>Ey⟩;refine bM I xs.length ⟨_,aB.mk (N:=N) ai ai ai,(hI _ _).2 ⟨0,N,rfl,rfl⟩⟩ ?_
 . intro j ds ad;obtain⟨k,P,hj,rfl⟩:=(hI _ _).1 ad;clear ad;by_cases af:k<xs.length
   . have ab:(k:Int)<xs.length:=aa;obtain⟨x,ae⟩:∃x,xs[k]? =some x:=⟨_,oY af⟩;have hm:=Q0 ae;have ah:=sw (hx x hm);simp(disch:=omega)[go_sem,ab,ae,-getElem?_pos,ah];refine au.mk (hf x hm) λP2=>aR λaj=> ?_;simp(disch:=omega)[go_sem,aG];exact⟨j-1,aa,_,aB.mk (N:=P2) ai ai ai,(hI _ _).2 ⟨k+1,P2,aa,rfl⟩⟩
   . have ab:¬(k:Int)<xs.length:=aa;simp(disch:=omega)[go_sem,ab]
def aae{ar:Bool}(xs:List (List DV))(f:FuncId)(c:List DV)(hx:∀x∈xs,x.length=2)(hlen:xs.length<=1000000)(hf:∀x∈xs,ay E ar f (.agg x::c) (bV false)):ay E ar 202 [.sl 2 xs,.fn f [] c] (bV false):=by
 refine aV Tryz.ntmps202 Tryz.results202 λN=> ?_;refine aL ?_;refine au.mk (aad xs f c hx hlen hf) λM=>aR λhM=> ?_;exact ai
def aaf{ar:Bool}(x:Int×Int×Int)(n:Int)(h:x.1<n):ay E ar 245 [.agg (cB x),.ptr [iV n] 0] (bV false):=by
 refine aV Tryz.ntmps245 Tryz.results245 λN=> ?_;have h2:¬n<=x.1:=aa;simp(disch:=omega)[go_sem,cB,h2]
def yz(c:Nat)(n:Int):Prop:=c<256/\∀x∈(aO c).nodes,x.1<n
def yA(c:Nat)(hc:c<256):(aO c).nodes.length<=20:=by
 have h:((yx 256).all λc=>decide ((aO c).nodes.length<=20))=true:=an;simpa using Fj.1 h c (by simpa using hc)
def wk(c:Nat)(n:Int)(h:yz c n):ay E true 199 [.agg (aO c).e,iV n] (bV true):=by
 have h1:=Cs c h.1;have hl:=yA c h.1;have h2:=hasB (ar:=true) ((aO c).nodes.map cB) 245 [.ptr [iV n] 0] (λx hx=>by obtain⟨y,_,rfl⟩:=Rb.1 hx;rfl) (by simp;omega) (λx hx=>by
  obtain⟨y,hy,rfl⟩:=Rb.1 hx;exact aaf y n (h.2 y hy))
 generalize aO c=d at*;simp only[Dg.e]at h1⊢;refine aV Tryz.ntmps199 Tryz.results199 λN=> ?_;refine aL ?_;refine au.mk h1 λM=>cY λhM=> ?_;refine au.pl h2 (.cons (.refl _) (.cons (.fn rfl (λi v d h1 h2=>by simp at h1) rfl (λi v d h1 h2=> ?_)) .nil)) λM2 af=> ?_
 . cases i with
   |succ i=>simp at h1
   |zero=>
    simp only[Yt,WZ]at h1 h2;subst h1;subst h2;exact .ptr (o:=0) (off:=0) (ak:=0) (cu (wr:=true) (by simp(disch:=omega)[go_sem];try rfl)) aw λi v d h1 h2=>by
     cases i with
     |succ i=>simp at h1
     |zero=>simp only[adr,Yt,WZ]at h1 h2;subst h1;subst h2;exact .refl _
 replace af:=cr af;exact ai
def wm{ar:Bool}{K:b9}{dd:List FuncId}{h:ah}(hk:∀es clock h' T,qD es [(⟨#[]⟩,())]->h'.next=h.next+2->h'.get h.next=some (.map es clock)->h'.get (h.next+1)=some (.row [.v (.map (some h.next))] true 0)->(∀i,i≠h.next->i≠h.next+1->h'.get i=h.get i)->
 K (.fn 243 [] [.v (.pointer (some ⟨h.next+1,0,none⟩))]) dd h' T):au E ar K dd h (197,[]):=by
 refine fw Tryz.ntmps197 Tryz.results197 ?_;obtain⟨ae,ab,h2,h3⟩:=pA Cv Cw (vf:=λ_:Unit=>bV true) (es:=[]) (l:=[]) rfl ⟨#[]⟩ 0 ();refine aL ?_;refine⟨((h.new (.map [] 0)).set h.next (some (.map ae ab)),h.next),by simp only[jn,exact,ah.cW,if_true];exact congrArg (Option.map _) h2, ?_⟩;refine aL ?_;intro T;refine hk ae ab _ T h3 ?_ ai ai λi h1 h2=> ?_
 . simp only[ah.aW,ah.bb]
 . simp(disch:=omega)[go_sem,h1,h2]
def kZ(l:List ByteArray):Prop:=l.Nodup/\∀s∈l,s≠⟨#[]⟩
def lO(l:List ByteArray):List (ByteArray×Unit):=(⟨#[]⟩,())::l.map λs=>(s,())
def Ia(l:List ByteArray)(s:ByteArray)(h0:s≠⟨#[]⟩)(h1:s∉l):bq (lO l) s=none:=by
 have:∀l:List ByteArray,s∉l->bq (l.map λs=>(s,())) s=none:=λl=>by
  induction l with
  |nil=>intro _;rfl
  |cons x l ih=>
   intro h;simp only[afd,not_or]at h;simp only[Xt,bq,if_neg h.1];exact ih h.2
 simp only[lO,bq,if_neg h0];exact this l h1
def aag(l:List ByteArray)(s:ByteArray)(h0:s≠⟨#[]⟩)(h1:s∉l):put (lO l) s ()=lO (l++[s]):=by
 rw[qh (Ia l s h0 h1)];simp[lO]
def kZ.at{l:List ByteArray}(h:kZ l){k:Nat}{s:ByteArray}(hk:l[k]? =some s):bq (lO (l.take k)) s=none/\put (lO (l.take k)) s ()=lO (l.take (k+1)):=by
 have h0:=h.2 s (Q0 hk);have h1:s∉l.take k:=λhm=>by
  obtain⟨i,hi⟩:=aft hm;rw[List.getElem?_take]at hi
  split at hi
  . rename_i ao;have:=(List.getElem?_inj (HT.1 hi).1 h.1).1 (hi.trans hk.symm);omega
  . cases hi
 refine⟨Ia _ s h0 h1, ?_⟩;rw[aag _ s h0 h1,YN,hk];rfl
def aah(g:aj)(hn:kZ g.aI)(h0:0<=g.start)(h1:g.start<g.aI.length)(hl:g.aI.length<=2000):ay E true 143 [.agg g.e] (iV 0):=by
 refine aV Tryz.ntmps143 Tryz.results143 λN=> ?_;simp(disch:=omega)[go_sem,aj.e];refine wm λes clock h' T hs e1 e2 e3 e4=> ?_;simp(disch:=omega)[go_sem]at e1 e2 e3 e4;simp(disch:=omega)[go_sem,e1,e2,e3,e4];obtain⟨I,hI⟩:∃I:Nat->DS->Prop,∀j d,I j d↔∃(k P:Nat) (es:List bG) (clock:Nat),j+k=g.aI.length/\qD es (lO (g.aI.take k))/\N+2<P/\d=⟨bw [(1,.v (.pointer (some ⟨N,0,none⟩))),(3,.fn 243 [] [.v (.pointer (some ⟨N+1+1,0,none⟩))]),(8,strs g.aI),(9,iV g.aI.length),(10,iV k)],30,[],cA P [(N,.row g.e true 0),(N+1,.map es clock),(N+1+1,.row [.v (.map (some (N+1)))] true 0)]⟩:=⟨_,λ_ _=>Ey⟩;refine bM I g.aI.length ⟨_,aB.mk (N:=N+3) ?_ ai ?_,(hI _ _).2 ⟨0,N+3,es,clock,rfl,hs,aa,rfl⟩⟩ ?_
 . simp(disch:=omega)[go_sem,e1]
 . simp(disch:=omega)[go_sem,e2,e3,e4,aj.e]
 . intro j ds av;obtain⟨k,P,es,clock,hj,hs,hP,rfl⟩:=(hI _ _).1 av;clear av;by_cases ao:k<g.aI.length
   . have ad:(k:Int)<g.aI.length:=aa;obtain⟨s,az⟩:∃s,g.aI[k]? =some s:=⟨_,oY ao⟩;obtain⟨ha,hp⟩:=hn.at az;simp(disch:=omega)[go_sem,ad,az,-getElem?_pos];refine wj (b:=N+1+1) (r:=N+1) (wr:=true) (ak:=0) (es:=es) (clock:=clock) ai ai hs ha λae ab T aA=> ?_;rw[hp]at aA;simp(disch:=omega)[go_sem,aG];refine⟨j-1,aa,_,aB.mk (N:=P) ai ai ?_,(hI _ _).2 ⟨k+1,P,ae,ab,aa,aA,hP,rfl⟩⟩
     . simp(disch:=omega)[go_sem,aj.e]
   . have ad:¬(k:Int)<g.aI.length:=aa;have h2:¬g.start<0:=aa;have h3:¬(g.aI.length:Int)<=g.start:=aa;simp(disch:=omega)[go_sem,ad,aj.e,h2,h3]
def Cx:ByteArray:=⟨#[116,114,117,101]⟩
def Cy:ByteArray:=⟨#[102,97,108,115,101]⟩
def Ib(s:ByteArray):Prop:=ay E true 198 [sV s] (bV true)/\s≠Cx/\s≠Cy
structure qE(g:aj):Prop where
 new:kZ g.conds
 id:∀s∈g.conds,Ib s
 len:g.conds.length<=64
 cO:∃c,g.family=aO c/\yz c g.conds.length/\g.family.root≠0
def Ic(g:aj)(hg:qE g):ay E true 141 [.agg g.e] (iV 0):=by
 have hn:=hg.new;have hlen:=hg.len;refine aV Tryz.ntmps141 Tryz.results141 λN=> ?_;simp(disch:=omega)[go_sem,aj.e];refine wm λes clock h' T hs e1 e2 e3 e4=> ?_;simp(disch:=omega)[go_sem]at e1 e2 e3 e4;simp(disch:=omega)[go_sem,e1,e2,e3,e4];obtain⟨I,hI⟩:∃I:Nat->DS->Prop,∀j d,I j d↔∃(k P:Nat) (es:List bG) (clock:Nat),j+k=g.conds.length/\qD es (lO (g.conds.take k))/\N+2<P/\d=⟨bw [(1,.v (.pointer (some ⟨N,0,none⟩))),(3,.fn 243 [] [.v (.pointer (some ⟨N+1+1,0,none⟩))]),(8,strs g.conds),(9,iV g.conds.length),(10,iV k)],45,[],cA P [(N,.row g.e true 0),(N+1,.map es clock),(N+1+1,.row [.v (.map (some (N+1)))] true 0)]⟩:=⟨_,λ_ _=>Ey⟩;refine bM I g.conds.length ⟨_,aB.mk (N:=N+3) ?_ ai ?_,(hI _ _).2 ⟨0,N+3,es,clock,rfl,hs,aa,rfl⟩⟩ ?_
 . simp(disch:=omega)[go_sem,e1]
 . simp(disch:=omega)[go_sem,e2,e3,e4,aj.e]
 . intro j ds ah;obtain⟨k,P,es,clock,hj,hs,hP,rfl⟩:=(hI _ _).1 ah;clear ah;by_cases ao:k<g.conds.length
   . have ab:(k:Int)<g.conds.length:=aa;obtain⟨s,af⟩:∃s,g.conds[k]? =some s:=⟨_,oY ao⟩;obtain⟨hi,ht,hf⟩:=hg.id s (Q0 af);obtain⟨ha,hp⟩:=hn.at af;unfold Cx at ht;unfold Cy at hf;simp(disch:=omega)[go_sem,ab,af,-getElem?_pos];refine au.mk hi λP2=>aR λav=> ?_;simp(disch:=omega)[go_sem,ht,hf];refine wj (b:=N+1+1) (r:=N+1) (wr:=true) (ak:=0) (es:=es) (clock:=clock) ai ai hs ha λaw ad T an=> ?_;rw[hp]at an;simp(disch:=omega)[go_sem,aG];refine⟨j-1,aa,_,aB.mk (N:=P2) ai ai ?_,(hI _ _).2 ⟨k+1,P2,aw,ad,aa,an,aa,rfl⟩⟩
     . simp(disch:=omega)[go_sem,aj.e]
   . have ab:¬(k:Int)<g.conds.length:=aa;obtain⟨c,h1,h2,h3⟩:=hg.cO;have ae:=wk c g.conds.length h2;rw[<-h1]at ae;simp only[Dg.e]at ae;simp(disch:=omega)[go_sem,ab,aj.e];refine au.mk ae λP2=>aR λav=> ?_;simp(disch:=omega)[go_sem,h3]
def Cz(a b:Int):(if b>a then b else a)=max a b:=by split<;>omega
def Ie(a b:Int):rJ E [.int .i64 a,.int .i64 b]=some (.int .i64 (max a b)):=by
 rw[<-Cz];rfl
def aai(a b c:Int):rJ E [.int .i64 a,.int .i64 b,.int .i64 c]=some (.int .i64 (max (max a b) c)):=by
 rw[<-Cz,<-Cz];rfl
def aaj(p:aK)(h1:p.right.length<=16)(h2:p.layout.length<=16):ay E true 196 [.agg p.e] (bV false):=by
 have hm:¬(16:Int)<max (p.right.length:Int) (p.layout.length:Int):=aa;refine aV Tryz.ntmps196 Tryz.results196 λN=> ?_;simp(disch:=omega)[go_sem,aK.e,lA,exact,Ie,hm]
structure wo(g:aj):Prop where
 conds:g.conds.length<=64
 aF:g.aF.length<=256
 bx:g.bx.length<=4096
 aI:g.aI.length<=2000
 aq:g.aq.length<=2000
 bj:g.bj.length<=2000
 right:∀p∈g.aq,p.right.length<=16/\p.layout.length<=16
def Ig(g:aj)(hg:wo g):ay E true 140 [.agg g.e] (bV false):=by
 obtain⟨h1,h2,h3,h4,h5,h6,h7⟩:=hg;have hm:¬(2000:Int)<max (max (g.aI.length:Int) (g.aq.length:Int)) (g.bj.length:Int):=aa;have az:¬(2000:Int)<max (g.aI.length:Int) (max (g.aq.length:Int) (g.bj.length:Int)):=aa;have e1:¬(64:Int)<g.conds.length:=aa;have e2:¬(256:Int)<g.aF.length:=aa;have e3:¬(4096:Int)<g.bx.length:=aa;have e4:¬64<g.conds.length:=aa;have e5:¬256<g.aF.length:=aa;have e6:¬4096<g.bx.length:=aa;have hh:=aac (ar:=true) (g.aq.map aK.e) 196 [] (λx hx=>by obtain⟨y,_,rfl⟩:=Rb.1 hx;rfl) (by simp;omega) (λx hx=>by
  obtain⟨y,hy,rfl⟩:=Rb.1 hx;exact aaj y (h7 y hy).1 (h7 y hy).2)
 refine aV Tryz.ntmps140 Tryz.results140 λN=> ?_;simp(disch:=omega)[go_sem,aj.e,lA,exact,aai,hm,az,e1,e2,e3,e4,e5,e6];refine au.mk hh λM=>aR λhM=> ?_;exact ai
def pB(g:aj)(s:Sym):Prop:=match s.tok with
 |false=>0<=s.idx/\s.idx<g.aI.length
 |true=>∃t,0<=s.idx/\g.aF[s.idx.toNat]? =some t/\t.cls=0
def aak(g:aj)(s:Sym)(h:pB g s):ay E true 201 [.agg g.e,.agg s.e] (bV true):=by
 obtain⟨tok,i⟩:=s;refine aV Tryz.ntmps201 Tryz.results201 λN=> ?_;cases tok with
 |false=>
  obtain⟨h0,h1⟩:=h;simp only at h0 h1;simp(disch:=omega)[go_sem,aj.e,Sym.e,h0,h1]
 |true=>
  obtain⟨t,h0,h1,h2⟩:=h;simp only at h0 h1;have hl:i<g.aF.length:=by
   have:=(HT.1 h1).1;omega
  simp(disch:=omega)[go_sem,aj.e,Sym.e,h0,hl,h1,-getElem?_pos,Tok.e,h2]
def Ih(g:aj)(s:Sym)(h:pB g s):ay E true 200 [.agg s.e,.ptr g.e 0] (bV false):=by
 have h1:=aak g s h;refine aV Tryz.ntmps200 Tryz.results200 λN=> ?_;simp(disch:=omega)[go_sem,aj.e,Sym.e]at h1⊢;refine au.mk h1 λM=>aR λhM=> ?_;exact ai
def iZ{S:fB}{b ak:Nat}{cs:List DV}(h:S b=some (cs,ak)):Fz S (.v (.pointer (some ⟨b,0,none⟩))) (.ptr cs 0):=
 .ptr (o:=0) (off:=0) (ak:=ak) h aa λi v d h1 h2=>by
  rw[adr,h1]at h2;cases h2;exact .refl _
def Im{S:fB}{f:FuncId}{a b:DV}(h:Fz S a b):Fz S (.fn f [] [a]) (.fn f [] [b]):=
 .fn rfl (λi v d h1 h2=>by simp at h1) rfl λi v d h1 h2=>by
  cases i with
  |succ i=>simp at h1
  |zero=>simp only[Yt,WZ]at h1 h2;subst h1;subst h2;exact h
def yE(p:aK)(k v lo hi:Int):Prop:=(k=0/\v=0)\/(0<k/\(∃s,p.right[(k-1).toNat]? =some s/\s.tok=true)/\lo<=v/\v<=hi)
def Io(n:Nat)(x:lH):Prop:=1<=x.kind/\x.kind<=4/\0<=x.a/\x.a<n/\0<=x.b/\x.b<n/\(x.kind=1->x.b=0)
structure yF(p:aK):Prop where
 len:p.right.length<=16
 lay:∀x∈p.layout,Io p.right.length x
 qG:p.layout.length<=16
 uq:yE p p.scope.declares p.scope.kind 1 7
 use:yE p p.scope.tS p.scope.allowed 0 255
 br:p.bracket=true->p.eR=0/\p.layout=[]/\p.scope=⟨false,0,0,0,0⟩/\∃a b,a.tok=true/\b.tok=true/\p.right=[a,⟨false,p.left⟩,b]
def Ip(p:aK)(i:Int)(h0:0<=i)(h1:i<p.right.length):ay E true 247 [iV i,.ptr p.e 0] (bV true):=by
 refine aV Tryz.ntmps247 Tryz.results247 λN=> ?_;simp(disch:=omega)[go_sem,aK.e,h0,h1]
def Iq(p:aK)(k v lo hi:Int)(hp:p.right.length<=16)(h:yE p k v lo hi):ay E true 248 [iV k,iV v,iV lo,iV hi,.ptr p.e 0] (bV true):=by
 refine aV Tryz.ntmps248 Tryz.results248 λN=> ?_;rcases h with⟨rfl,rfl⟩|⟨h1,⟨s,h2,h3⟩,h4,h5⟩
 . simp(disch:=omega)[go_sem,aK.e]
 . have hl:=(HT.1 h2).1;have aj:¬k=0:=aa;have ad:k<=p.right.length:=aa;have ao:1<=k:=aa;have av:p.right[k.toNat-1]? =some s:=by rw[<-h2];congr 1;omega
   simp(disch:=omega)[go_sem,aK.e,aj,h1,ad,ao,av,-getElem?_pos,Sym.e,h3,h4,h5,aG]
def aaB(p:aK)(hp:yF p):ay E true 203 [.agg p.e] (bV true):=by
 have hlen:=hp.len;have aE:=hp.qG;refine aV Tryz.ntmps203 Tryz.results203 λN=> ?_;simp(disch:=omega)[go_sem,aK.e];obtain⟨I,hI⟩:∃I:Nat->DS->Prop,∀j d,I j d↔∃(k P:Nat),j+k=p.layout.length/\N<P/\d=⟨bw [(1,.v (.pointer (some ⟨N,0,none⟩))),(9,.sl 3 (p.layout.map lH.e)),(10,iV p.layout.length),(11,iV k)],113,[],cA P [(N,.row p.e true 0)]⟩:=⟨_,λ_ _=>Ey⟩;refine bM I p.layout.length ⟨_,aB.mk (N:=N+1) ai ai ?_,(hI _ _).2 ⟨0,N+1,rfl,aa,rfl⟩⟩ ?_
 . simp(disch:=omega)[go_sem,aK.e]
 . intro j ds af;obtain⟨k,P,hj,hP,rfl⟩:=(hI _ _).1 af;clear af;by_cases aw:k<p.layout.length
   . have ab:(k:Int)<p.layout.length:=aa;obtain⟨x,ah⟩:∃x,p.layout[k]? =some x:=⟨_,oY aw⟩;obtain⟨c1,c2,c3,c4,c5,c6,c7⟩:=hp.lay x (Q0 ah);have d1:¬x.kind<1:=aa;have d2:¬4<x.kind:=aa;simp(disch:=omega)[go_sem,ab,ah,-getElem?_pos,lH.e,d1,d2];refine au.pl (Ip p x.a c3 c4) (.cons (.refl _) (.cons (iZ (ak:=0) (cu (wr:=true) (by simp(disch:=omega)[go_sem,aK.e]))) .nil)) λM=>cY λhM=> ?_;refine au.pl (Ip p x.b c5 c6) (.cons (.refl _) (.cons (iZ (ak:=0) (cu (wr:=true) (by simp(disch:=omega)[go_sem,aK.e]))) .nil)) λM2=>aR λaz=> ?_;by_cases ad:x.kind=1
     . have aA:=c7 ad;simp(disch:=omega)[go_sem,ad,aA,aG];refine⟨j-1,aa,_,aB.mk (N:=M2) ai ai ?_,(hI _ _).2 ⟨k+1,M2,aa,aa,rfl⟩⟩
       . simp(disch:=omega)[go_sem,aK.e]
     . simp(disch:=omega)[go_sem,ad,aG];refine⟨j-1,aa,_,aB.mk (N:=M2) ai ai ?_,(hI _ _).2 ⟨k+1,M2,aa,aa,rfl⟩⟩
       . simp(disch:=omega)[go_sem,aK.e]
   . have ab:¬(k:Int)<p.layout.length:=aa;simp(disch:=omega)[go_sem,ab,aK.e];refine au.pl (Iq p p.scope.declares p.scope.kind 1 7 hlen hp.uq) (.cons (.refl _) (.cons (.refl _) (.cons (.refl _) (.cons (.refl _) (.cons (iZ (ak:=0) (cu (wr:=true) (by simp(disch:=omega)[go_sem,aK.e]))) .nil))))) λM=>cY λhM=> ?_;refine au.pl (Iq p p.scope.tS p.scope.allowed 0 255 hlen hp.use) (.cons (.refl _) (.cons (.refl _) (.cons (.refl _) (.cons (.refl _) (.cons (iZ (ak:=0) (cu (wr:=true) (by simp(disch:=omega)[go_sem,aK.e]))) .nil))))) λM2=>aR λaz=> ?_;cases hb:p.bracket with
     |false=>simp(disch:=omega)[go_sem,aK.e,hb]
     |true=>
      obtain⟨b1,b2,b3,a,b,b4,b5,b6⟩:=hp.br hb;simp(disch:=omega)[go_sem,aK.e,hb,b1,b2,b3,b6];refine⟨_,aaA _ _, ?_⟩;simp(disch:=omega)[go_sem,aK.e,hb,b1,b2,b3,b6];refine bH [ae 0,aC 1,ae 3,ae 7,aC 15,ae 31,ae 63,aC 127,ae 255,aC 511,ae 63,aC 1087,ae 3135,ae 8191,ae 16383,ae 32767,ae 65535,aC 131071,ae 262143,ae 524287,aC 1048575,ae 2097151,ae 4194303] an 0 rfl ?_;simp(disch:=omega)[go_sem,aK.e,hb,b1,b2,b3,b6,Sym.e,b4,b5,Il]
def lR(n:Int)(d:Dg):Prop:=∃c,d=aO c/\yz c n
structure ur(g:aj)(p:aK):Prop where
 left:0<=p.left/\p.left<g.aI.length
 right:∀s∈p.right,pB g s
 cond:lR g.conds.length p.cond
 eR:-1<=p.eR/\p.eR<=1
 ar:yF p
structure Ir(g:aj):Prop where
 new:kZ (g.aq.map (·.name))
 len:g.aq.length<=2000
 ok:∀p∈g.aq,ur g p
def aaC(g:aj)(l:List Sym)(hl:l.length<=16)(h:∀s∈l,pB g s):ay E true 202 [.sl 2 (l.map Sym.e),.fn 200 [] [.ptr g.e 0]] (bV false):=
 aae _ _ _ (λx hx=>by obtain⟨y,_,rfl⟩:=Rb.1 hx;rfl) (by simp;omega) λx hx=>by
  obtain⟨y,hy,rfl⟩:=Rb.1 hx;exact Ih g y (h y hy)
set_option maxHeartbeats 2000000 in
def aaD(g:aj)(hg:Ir g):ay E true 144 [.agg g.e] (iV 0):=by
 have hn:=hg.new;have hlen:=hg.len;refine aV Tryz.ntmps144 Tryz.results144 λN=> ?_;simp(disch:=omega)[go_sem,aj.e];refine wm λes clock h' T hs e1 e2 e3 e4=> ?_;simp(disch:=omega)[go_sem]at e1 e2 e3 e4;simp(disch:=omega)[go_sem,e1,e2,e3,e4];obtain⟨I,hI⟩:∃I:Nat->DS->Prop,∀j d,I j d↔∃(k P:Nat) (es:List bG) (clock:Nat),j+k=g.aq.length/\qD es (lO ((g.aq.map (·.name)).take k))/\N+2<P/\d=⟨bw [(1,.v (.pointer (some ⟨N,0,none⟩))),(3,.fn 243 [] [.v (.pointer (some ⟨N+1+1,0,none⟩))]),(9,.sl 13 (g.aq.map aK.e)),(10,iV g.aq.length),(11,iV k)],57,[],cA P [(N,.row g.e true 0),(N+1,.map es clock),(N+1+1,.row [.v (.map (some (N+1)))] true 0)]⟩:=⟨_,λ_ _=>Ey⟩;refine bM I g.aq.length ⟨_,aB.mk (N:=N+3) ?_ ai ?_,(hI _ _).2 ⟨0,N+3,es,clock,rfl,hs,aa,rfl⟩⟩ ?_
 . simp(disch:=omega)[go_sem,e1]
 . simp(disch:=omega)[go_sem,e2,e3,e4,aj.e]
 . intro j ds ao;obtain⟨k,P,es,clock,hj,hs,hP,rfl⟩:=(hI _ _).1 ao;clear ao;by_cases aw:k<g.aq.length
   . have ab:(k:Int)<g.aq.length:=aa;obtain⟨p,an⟩:∃p,g.aq[k]? =some p:=⟨_,oY aw⟩;have ad:=hg.ok p (Q0 an);obtain⟨c,az,aA⟩:=ad.cond;have ae:=wk c g.conds.length aA;rw[<-az]at ae;have ah:=aaB p ad.ar;have aC:(g.aq.map (·.name))[k]? =some p.name:=by rw[Rm,an];rfl
     obtain⟨ha,hp⟩:=hn.at aC;have d1:¬p.eR< -1:=by have:=ad.eR;omega
     have d2:¬1<p.eR:=by have:=ad.eR;omega
     simp only[Dg.e,aK.e]at ae ah;simp(disch:=omega)[go_sem,ab,an,-getElem?_pos,aK.e];refine au.pl (Ih g ⟨false,p.left⟩ ad.left) (.cons (.refl _) (.cons (iZ (ak:=0) (cu (wr:=true) (by simp(disch:=omega)[go_sem,aj.e]))) .nil)) λM=>cY λhM=> ?_;refine au.pl (aaC g p.right ad.ar.len ad.right) (.cons (.refl _) (.cons (Im (iZ (ak:=0) (cu (wr:=true) (by simp(disch:=omega)[go_sem,aj.e])))) .nil)) λM2=>cY λaH=> ?_;refine wj (b:=N+1+1) (r:=N+1) (wr:=true) (ak:=0) (es:=es) (clock:=clock) ai ai hs ha λaE af T av=> ?_;rw[hp]at av;simp(disch:=omega)[go_sem,aj.e];refine au.mk ae λM3=>aR λaJ=> ?_;simp(disch:=omega)[go_sem,d1,d2];refine au.mk ah λM4=>aR λaL=> ?_;simp(disch:=omega)[go_sem,aG];refine⟨j-1,aa,_,aB.mk (N:=M4) ai ?_ ?_,(hI _ _).2 ⟨k+1,M4,aE,af,aa,av,aa,rfl⟩⟩
     . simp(disch:=omega)[go_sem,aK.e]
     . simp(disch:=omega)[go_sem,aj.e]
   . have ab:¬(k:Int)<g.aq.length:=aa;simp(disch:=omega)[go_sem,ab,aj.e]
def lT{h:ah}{r:Nat}{es:List bG}{clock:Nat}{ty:TypeId}{ok:Bool}{k:Value}{v dk:DV}(hm:h.get r=some (.map es clock))(hk:exact dk=some k)(h1:ly E ty ok k es=some v):kS E h ty ok (.v (.map (some r))) dk=some v:=by
 simp only[kS,hk,hm,h1]
def sy{h:ah}{r:Nat}{es:List bG}{clock:Nat}{ty:TypeId}{k:Value}{d dk:DV}{o:bJ}(hm:h.get r=some (.map es clock))(hk:exact dk=some k)(h1:ky E ty k d es clock=some o):jn E h ty (some (.v (.map (some r)))) (some dk) (some d)=some (h.set r (some o),r):=by
 simp only[jn,hk,hm,h1,Option.map_some]
def sA(i:Int):Value:=.int .i64 i
def j7:kq E 3 sA:=by
 refine⟨⟨_,u3,λk=>rfl⟩,λk=>rfl,λk b=>⟨(),an⟩,λa b=> ?_,λk=>by simp[sA,Instr.sameBits]⟩;simp only[kg,sA,decide_true,cond_true];rfl
def Is:E.under 307=some (.map 3 4):=an
abbrev It(es:List bG)(l:List Int):Prop:=fj sA (λ_:Unit=>bV true) es (l.map λi=>(i,()))
def Iu(l:List Int)(i:Int)(h:i∉l):bq (l.map λi=>(i,())) i=none:=by
 induction l with
 |nil=>rfl
 |cons x l ih=>
  simp only[afd,not_or]at h;simp only[Xt,bq,if_neg h.1];exact ih h.2
def aaE(l:List Int)(i:Int)(h:i∉l):put (l.map λi=>(i,())) i ()=(l++[i]).map λi=>(i,()):=by
 rw[qh (Iu l i h)];simp
structure uu(g:aj)(l:cP):Prop where
 assoc:0<=l.assoc/\l.assoc<=3
 cond:lR g.conds.length l.cond
 aq:∀p∈l.aq,0<=p/\p<g.aq.length
structure Iv(g:aj):Prop where
 nd:(g.bj.flatMap (·.aq)).Nodup
 len:g.bj.length<=2000
 lens:∀l∈g.bj,l.aq.length<=100000
 ok:∀l∈g.bj,uu g l
def aaF{ls:List cP}(h:(ls.flatMap (·.aq)).Nodup){k m:Nat}{l:cP}{p:Int}(hk:ls[k]? =some l)(hm:l.aq[m]? =some p):p∉(ls.take k).flatMap (·.aq)++l.aq.take m:=by
 have e:ls.flatMap (·.aq)=((ls.take k).flatMap (·.aq)++l.aq.take m)++(l.aq.drop m++(ls.drop (k+1)).flatMap (·.aq)):=by
  have e1:ls=ls.take k++l::ls.drop (k+1):=by
   have aO:=(HT.1 hk).1;have:=afu k ls;rw[afv aO]at this;have h2:ls[k]=l:=(HT.1 hk).2;rw[h2]at this;exact this.symm
  conv=>lhs;rw[e1]
  rw[afw,afi]
  conv=>lhs;rw[<-afu m l.aq]
  simp only[afx]
 rw[e,afy]at h;intro hp;have hd:p∈l.aq.drop m:=by
  have aP:=(HT.1 hm).1;rw[afv aP,(HT.1 hm).2];exact List.mem_cons_self
 exact h.2.2 p hp p (List.mem_append_left _ hd) rfl
set_option maxHeartbeats 2000000 in
def aaG(g:aj)(hg:Iv g):ay E true 145 [.agg g.e] (iV 0):=by
 have hlen:=hg.len;refine aV Tryz.ntmps145 Tryz.results145 λN=> ?_;simp(disch:=omega)[go_sem,aj.e];obtain⟨I,hI⟩:∃I:Nat->DS->Prop,∀j d,I j d↔∃(k P:Nat) (es:List bG) (clock:Nat),j+k=g.bj.length/\It es ((g.bj.take k).flatMap (·.aq))/\N+1<P/\d=⟨bw [(1,.v (.pointer (some ⟨N,0,none⟩))),(3,.v (.map (some (N+1)))),(10,.sl 4 (g.bj.map cP.e)),(11,iV g.bj.length),(12,iV k)],58,[],cA P [(N,.row g.e true 0),(N+1,.map es clock)]⟩:=⟨_,λ_ _=>Ey⟩;refine bM I g.bj.length ⟨_,aB.mk (N:=N+2) ai ai ?_,(hI _ _).2 ⟨0,N+2,[],0,rfl,rfl,aa,rfl⟩⟩ ?_
 . simp(disch:=omega)[go_sem,aj.e]
 . intro j ds aJ;obtain⟨k,P,es,clock,hj,hs,hP,rfl⟩:=(hI _ _).1 aJ;clear aJ;by_cases aR:k<g.bj.length
   . have ae:(k:Int)<g.bj.length:=aa;obtain⟨l,aw⟩:∃l,g.bj[k]? =some l:=⟨_,oY aR⟩;have aK:=Q0 aw;have az:=hg.ok l aK;have aZ:=hg.lens l aK;obtain⟨c,aS,aT⟩:=az.cond;have af:=wk c g.conds.length aT;rw[<-aS]at af;have d1:¬l.assoc<0:=by have:=az.assoc;omega
     have d2:¬3<l.assoc:=by have:=az.assoc;omega
     simp only[Dg.e]at af;simp(disch:=omega)[go_sem,ae,aw,-getElem?_pos,cP.e,d1,d2,aj.e];refine au.mk af λM=>cY λhM=> ?_;obtain⟨J,hJ⟩:∃J:Nat->DS->Prop,∀j d,J j d↔∃(m P:Nat) (es:List bG) (clock:Nat),j+m=l.aq.length/\It es ((g.bj.take k).flatMap (·.aq)++l.aq.take m)/\N+1<P/\d=⟨bw [(1,.v (.pointer (some ⟨N,0,none⟩))),(3,.v (.map (some (N+1)))),(10,.sl 4 (g.bj.map cP.e)),(11,iV g.bj.length),(12,iV k),(34,ints l.aq),(35,iV l.aq.length),(36,iV m)],58,[],cA P [(N,.row g.e true 0),(N+1,.map es clock)]⟩:=⟨_,λ_ _=>Ey⟩;refine bM J l.aq.length ⟨_,aB.mk (N:=M) ai ?_ ?_,(hJ _ _).2 ⟨0,M,es,clock,rfl,by simpa using hs,aa,rfl⟩⟩ ?_
     . simp(disch:=omega)[go_sem,cP.e]
     . simp(disch:=omega)[go_sem,aj.e]
     . intro j2 ba aM;obtain⟨m,P2,aE,ab,bb,aA,aW,rfl⟩:=(hJ _ _).1 aM;clear aM;by_cases aH:m<l.aq.length
       . have ad:(m:Int)<l.aq.length:=aa;obtain⟨p,aC⟩:∃p,l.aq[m]? =some p:=⟨_,oY aH⟩;obtain⟨p0,p1⟩:=az.aq p (Q0 aC);have av:=aaF hg.nd aw aC;have d3:¬p<0:=aa;have d4:¬(g.aq.length:Int)<=p:=aa;have h1:=sv j7 Is aA p false z4 rfl (Iu _ p av);obtain⟨aX,ao,h2,h3⟩:=pA j7 Is aA p ab ();rw[aaE _ p av]at h3;simp(disch:=omega)[go_sem,ad,aC,-getElem?_pos,d3,d4,aj.e];refine⟨bV false,lT (es:=aE) (clock:=ab) ai rfl h1, ?_⟩;refine aL ?_;refine⟨_,sy (es:=aE) (clock:=ab) ai rfl h2, ?_⟩;simp(disch:=omega)[go_sem,aG];refine⟨j2-1,aa,_,aB.mk (N:=P2) ai ?_ ?_,(hJ _ _).2 ⟨m+1,P2,aX,ao,aa, ?_,aW,rfl⟩⟩
         . simp(disch:=omega)[go_sem,cP.e]
         . simp(disch:=omega)[go_sem,aj.e]
         . rw[YN,aC,afn,<-afx];exact h3
       . have ad:¬(m:Int)<l.aq.length:=aa;simp(disch:=omega)[go_sem,ad,aG];refine⟨j-1,aa,_,aB.mk (N:=P2) ai ai ?_,(hI _ _).2 ⟨k+1,P2,aE,ab,aa, ?_,aa,rfl⟩⟩
         . simp(disch:=omega)[go_sem,aj.e]
         . rw[YN,aw,afn,afw,afi,List.flatMap_nil,List.append_nil];have aY:l.aq.take m=l.aq:=afc aa;rw[aY]at aA;exact aA
   . have ae:¬(k:Int)<g.bj.length:=aa;simp(disch:=omega)[go_sem,ae,aj.e]
def CF(t:Tok)(h:t.cls=0):ay E true 204 [.agg t.e] (bV true):=by
 refine aV Tryz.ntmps204 Tryz.results204 λN=> ?_;simp(disch:=omega)[go_sem,Tok.e,h]
def Iw(t:Tok):ay E true 205 [.agg t.e] (bV (!decide (t.lit=⟨#[]⟩))):=by
 refine aV Tryz.ntmps205 Tryz.results205 λN=> ?_;simp(disch:=omega)[go_sem,Tok.e]
structure nf(g:aj)(K:Tok->Prop)(l:List Int):Prop where
 ne:l≠[]
 len:l.length<=1000
 tok:∀n∈l,0<=n/\∃t,g.aF[n.toNat]? =some t/\K t
 up:∀(i:Nat) a b,l[i]? =some a->l[i+1]? =some b->a<b
def CI(g:aj)(K:Tok->Prop)(f:FuncId)(hf:∀t,K t->ay E true f [.agg t.e] (bV true))(l:List Int)(h:nf g K l):ay E true 207 [.agg g.e,ints l,.fn f [] []] (bV true):=by
 have hlen:=h.len;have ah:0<l.length:=List.length_pos_iff.2 h.ne;refine aV Tryz.ntmps207 Tryz.results207 λN=> ?_;simp(disch:=omega)[go_sem,aj.e];obtain⟨I,hI⟩:∃I:Nat->DS->Prop,∀j d,I j d↔∃(k P:Nat),j+k=l.length/\N<P/\d=⟨bw [(1,ints l),(2,.fn f [] []),(3,.v (.pointer (some ⟨N,0,none⟩))),(9,ints l),(10,iV l.length),(11,iV k)],52,[],cA P [(N,.row g.e true 0)]⟩:=⟨_,λ_ _=>Ey⟩;refine bM I l.length ⟨_,aB.mk (N:=N+1) ai ai ?_,(hI _ _).2 ⟨0,N+1,rfl,aa,rfl⟩⟩ ?_
 . simp(disch:=omega)[go_sem,aj.e]
 . intro j ds ao;obtain⟨k,P,hj,hP,rfl⟩:=(hI _ _).1 ao;clear ao;by_cases av:k<l.length
   . have ab:(k:Int)<l.length:=aa;obtain⟨n,af⟩:∃n,l[k]? =some n:=⟨_,oY av⟩;obtain⟨n0,t,ht,hK⟩:=h.tok n (Q0 af);have n1:n<g.aF.length:=by have:=(HT.1 ht).1;omega
     have aw:=hf t hK;have d1:¬n<0:=aa;have d2:¬(g.aF.length:Int)<=n:=aa;have az:fg (some (some 7)) t.e 0=some (.agg t.e):=sw rfl;cases k with
     |zero=>
      simp(disch:=omega)[go_sem,av,ab,af,-getElem?_pos,d1,d2,n0,ht,aj.e,az];refine au.mk aw λM=>aR λhM=> ?_;simp(disch:=omega)[go_sem,aG];refine⟨j-1,aa,_,aB.mk (N:=M) ai ai ?_,(hI _ _).2 ⟨1,M,aa,aa,rfl⟩⟩
      . simp(disch:=omega)[go_sem,aj.e]
     |succ k=>
      obtain⟨a,aA⟩:∃a,l[k]? =some a:=⟨_,oY aa⟩;have aE:=h.up k a n aA af;have d3:¬n<=a:=aa;have d4:((k+1:Nat):Int)-1=k:=aa;have d5:(0:Int)<((k+1:Nat):Int):=aa;simp(disch:=omega)[go_sem,ab,af,aA,-getElem?_pos,d1,d2,d3,d4,d5,n0,ht,aj.e,az,aG,-Int.natCast_add];refine au.mk aw λM=>aR λhM=> ?_;simp(disch:=omega)[go_sem,aG];refine⟨j-1,aa,_,aB.mk (N:=M) ai ai ?_,(hI _ _).2 ⟨k+1+1,M,aa,aa,rfl⟩⟩
      . simp(disch:=omega)[go_sem,aj.e]
   . have ab:¬(k:Int)<l.length:=aa;have ad:(0:Int)<l.length:=aa;simp(disch:=omega)[go_sem,ab,aj.e,ah,ad,h.ne]
structure sB(g:aj)(f:bl):Prop where
 ex:∃p c s,0<=f.parent/\g.aq[f.parent.toNat]? =some p/\0<=f.child/\g.aq[f.child.toNat]? =some c/\0<=f.at_/\p.right[f.at_.toNat]? =some s/\s=⟨false,c.left⟩
def Ix(g:aj)(f:bl)(h:sB g f):ay E true 206 [.agg g.e,.agg f.e] (bV true):=by
 obtain⟨p,c,s,p0,hp,c0,hc,a0,hs,rfl⟩:=h.ex;have p1:f.parent<g.aq.length:=by have:=(HT.1 hp).1;omega
 have c1:f.child<g.aq.length:=by have:=(HT.1 hc).1;omega
 have a1:f.at_<p.right.length:=by have:=(HT.1 hs).1;omega
 have d1:¬f.parent<0:=aa;have d2:¬(g.aq.length:Int)<=f.parent:=aa;have d3:¬f.child<0:=aa;have d4:¬(g.aq.length:Int)<=f.child:=aa;refine aV Tryz.ntmps206 Tryz.results206 λN=> ?_;simp(disch:=omega)[go_sem,aj.e,bl.e,d1,d2,d3,d4,p0,hp,-getElem?_pos,aK.e];refine bH [ae 0,aC 1,ae 3,ae 7,ae 15,aC 31,ae 15,aC 79,ae 255,ae 511,ae 1023,ae 2047,ae 2047,aC 6143,ae 16383,aC 32767,ae 2047,aC 67583,ae 2047,aC 264191,ae 985087,ae 2033663,aC 4130815,ae 8325119,ae 16777215,ae 33554431,ae 67108863] an 0 rfl ?_;simp(disch:=omega)[go_sem,aj.e,bl.e,a0,a1,hs,c0,hc,-getElem?_pos,aK.e,Sym.e,Il]
def sC(g:aj)(f:bl):Prop:=
 (f.kind=1/\f.left=0/\f.token=0/\f.aF=[]/\sB g f)\/(f.kind=2/\f.left=0/\f.token=0/\f.aF=[]/\sB g f)\/
 (f.kind=3/\f.parent=0/\f.at_=0/\f.child=0/\f.token=0/\0<=f.left/\f.left<g.aI.length/\nf g (λt=>t.cls=0) f.aF)\/
 (f.kind=4/\f.parent=0/\f.at_=0/\f.child=0/\f.token=0/\0<=f.left/\f.left<g.aI.length/\nf g (λt=>t.cls=0) f.aF)\/
 (f.kind=5/\f.parent=0/\f.at_=0/\f.child=0/\f.left=0/\0<=f.token/\∃t,g.aF[f.token.toNat]? =some t/\t.cls=0/\t.lit=⟨#[]⟩/\nf g (λt=>t.lit≠⟨#[]⟩) f.aF)
structure Iy(g:aj):Prop where
 len:g.bx.length<=4096
 ok:∀f∈g.bx,lR g.conds.length f.cond/\sC g f
set_option maxHeartbeats 4000000 in
def aaH(g:aj)(hg:Iy g):ay E true 146 [.agg g.e] (iV 0):=by
 have hlen:=hg.len;refine aV Tryz.ntmps146 Tryz.results146 λN=> ?_;simp(disch:=omega)[go_sem,aj.e];obtain⟨I,hI⟩:∃I:Nat->DS->Prop,∀j d,I j d↔∃(k P:Nat),j+k=g.bx.length/\N<P/\d=⟨bw [(1,.v (.pointer (some ⟨N,0,none⟩))),(3,.fn 204 [] []),(4,.fn 205 [] []),(10,.sl 9 (g.bx.map bl.e)),(11,iV g.bx.length),(12,iV k)],147,[],cA P [(N,.row g.e true 0)]⟩:=⟨_,λ_ _=>Ey⟩;refine bM I g.bx.length ⟨_,aB.mk (N:=N+1) ai ai ?_,(hI _ _).2 ⟨0,N+1,rfl,aa,rfl⟩⟩ ?_
 . simp(disch:=omega)[go_sem,aj.e]
 . intro j ds aw;obtain⟨k,P,hj,hP,rfl⟩:=(hI _ _).1 aw;clear aw;by_cases aC:k<g.bx.length
   . have af:(k:Int)<g.bx.length:=aa;obtain⟨x,az⟩:∃x,g.bx[k]? =some x:=⟨_,oY aC⟩;obtain⟨⟨c,aE,aH⟩,hk⟩:=hg.ok x (Q0 az);have ah:=wk c g.conds.length aH;rw[<-aE]at ah;simp only[Dg.e]at ah;simp(disch:=omega)[go_sem,af,az,-getElem?_pos,bl.e,aj.e];refine au.mk ah λM=>cY λhM=> ?_;rcases hk with⟨ae,hk⟩|⟨ae,hk⟩|⟨ae,hk⟩|⟨ae,hk⟩|⟨ae,hk⟩
     . obtain⟨z1,z2,z3,hp⟩:=hk;have ab:=Ix g x hp;simp(disch:=omega)[go_sem,ae,aj.e,bl.e]at ab⊢;refine au.mk ab λM2=>aR λao=> ?_;simp(disch:=omega)[go_sem,aG,z1,z2,z3,ae];refine⟨j-1,aa,_,aB.mk (N:=M2) ai ?_ ?_,(hI _ _).2 ⟨k+1,M2,aa,aa,rfl⟩⟩
       . simp(disch:=omega)[go_sem,bl.e]
       . simp(disch:=omega)[go_sem,aj.e]
     . obtain⟨z1,z2,z3,hp⟩:=hk;have ab:=Ix g x hp;simp(disch:=omega)[go_sem,ae,aj.e,bl.e]at ab⊢;refine au.mk ab λM2=>aR λao=> ?_;simp(disch:=omega)[go_sem,aG,z1,z2,z3,ae];refine⟨j-1,aa,_,aB.mk (N:=M2) ai ?_ ?_,(hI _ _).2 ⟨k+1,M2,aa,aa,rfl⟩⟩
       . simp(disch:=omega)[go_sem,bl.e]
       . simp(disch:=omega)[go_sem,aj.e]
     . obtain⟨z1,z2,z3,z4,z5,z6,z7⟩:=hk;have ad:=CI g (λt=>t.cls=0) 204 CF x.aF z7;simp(disch:=omega)[go_sem,ae,aj.e,bl.e,z5,z6]at ad⊢;refine au.mk ad λM2=>aR λao=> ?_;simp(disch:=omega)[go_sem,aG,z1,z2,z3,z4,ae];refine⟨j-1,aa,_,aB.mk (N:=M2) ai ?_ ?_,(hI _ _).2 ⟨k+1,M2,aa,aa,rfl⟩⟩
       . simp(disch:=omega)[go_sem,bl.e]
       . simp(disch:=omega)[go_sem,aj.e]
     . obtain⟨z1,z2,z3,z4,z5,z6,z7⟩:=hk;have ad:=CI g (λt=>t.cls=0) 204 CF x.aF z7;simp(disch:=omega)[go_sem,ae,aj.e,bl.e,z5,z6]at ad⊢;refine au.mk ad λM2=>aR λao=> ?_;simp(disch:=omega)[go_sem,aG,z1,z2,z3,z4,ae];refine⟨j-1,aa,_,aB.mk (N:=M2) ai ?_ ?_,(hI _ _).2 ⟨k+1,M2,aa,aa,rfl⟩⟩
       . simp(disch:=omega)[go_sem,bl.e]
       . simp(disch:=omega)[go_sem,aj.e]
     . obtain⟨z1,z2,z3,z4,z5,t,z6,z7,z8,z9⟩:=hk;have ad:=CI g (λt=>t.lit≠⟨#[]⟩) 205 (λt ht=>by have:=Iw t;rwa[decide_eq_false ht]at this) x.aF z9;have av:=CF t z7;have an:=Iw t;rw[decide_eq_true z8]at an;have aA:fg (some (some 7)) t.e 0=some (.agg t.e):=sw rfl;have hl:x.token<g.aF.length:=by have:=(HT.1 z6).1;omega
       simp(disch:=omega)[go_sem,ae,aj.e,bl.e]at ad⊢;refine au.mk ad λM2=>aR λao=> ?_;simp(disch:=omega)[go_sem,z5,hl,z6,aA,-getElem?_pos];refine au.mk av λM3=>aR λaJ=> ?_;simp(disch:=omega)[go_sem,z5,hl,z6,aA,-getElem?_pos];refine au.mk an λM4=>aR λaK=> ?_;simp(disch:=omega)[go_sem,aG,z1,z2,z3,z4,ae];refine⟨j-1,aa,_,aB.mk (N:=M4) ai ?_ ?_,(hI _ _).2 ⟨k+1,M4,aa,aa,rfl⟩⟩
       . simp(disch:=omega)[go_sem,bl.e]
       . simp(disch:=omega)[go_sem,aj.e]
   . have af:¬(k:Int)<g.bx.length:=aa;simp(disch:=omega)[go_sem,af,aj.e]
def Iz(t:Tok):Prop:=(t.lit≠⟨#[]⟩/\t.pat=[]/\t.kW=⟨#[]⟩)\/(t.lit=⟨#[]⟩/\ay E true 150 [.sl 5 (t.pat.map aY.e)] (iV 0)/\
 ((t.cls=0/\t.kW≠⟨#[]⟩/\ay E true 84 [.sl 5 (t.pat.map aY.e),sV t.kW] (bV true))\/(t.cls≠0/\t.kW=⟨#[]⟩)))
structure uv(g:aj):Prop where
 new:kZ (g.aF.map (·.name))
 len:g.aF.length<=256
 ok:∀t∈g.aF,0<=t.cls/\t.cls<=2/\lR g.conds.length t.cond/\Iz t
set_option maxHeartbeats 4000000 in
def IA(g:aj)(hg:uv g):ay E true 142 [.agg g.e] (iV 0):=by
 have hn:=hg.new;have hlen:=hg.len;refine aV Tryz.ntmps142 Tryz.results142 λN=> ?_;simp(disch:=omega)[go_sem,aj.e];refine wm λes clock h' T hs e1 e2 e3 e4=> ?_;simp(disch:=omega)[go_sem]at e1 e2 e3 e4;simp(disch:=omega)[go_sem,e1,e2,e3,e4];obtain⟨I,hI⟩:∃I:Nat->DS->Prop,∀j d,I j d↔∃(k P:Nat) (es:List bG) (clock:Nat),j+k=g.aF.length/\qD es (lO ((g.aF.map (·.name)).take k))/\N+2<P/\d=⟨bw [(1,.v (.pointer (some ⟨N,0,none⟩))),(3,.fn 243 [] [.v (.pointer (some ⟨N+1+1,0,none⟩))]),(9,.sl 7 (g.aF.map Tok.e)),(10,iV g.aF.length),(11,iV k)],74,[],cA P [(N,.row g.e true 0),(N+1,.map es clock),(N+1+1,.row [.v (.map (some (N+1)))] true 0)]⟩:=⟨_,λ_ _=>Ey⟩;refine bM I g.aF.length ⟨_,aB.mk (N:=N+3) ?_ ai ?_,(hI _ _).2 ⟨0,N+3,es,clock,rfl,hs,aa,rfl⟩⟩ ?_
 . simp(disch:=omega)[go_sem,e1]
 . simp(disch:=omega)[go_sem,e2,e3,e4,aj.e]
 . intro j ds ah;obtain⟨k,P,es,clock,hj,hs,hP,rfl⟩:=(hI _ _).1 ah;clear ah;by_cases aw:k<g.aF.length
   . have ad:(k:Int)<g.aF.length:=aa;obtain⟨t,ao⟩:∃t,g.aF[k]? =some t:=⟨_,oY aw⟩;obtain⟨k0,k1,⟨c,az,aA⟩,hk⟩:=hg.ok t (Q0 ao);have ae:=wk c g.conds.length aA;rw[<-az]at ae;have aC:(g.aF.map (·.name))[k]? =some t.name:=by rw[Rm,ao];rfl
     obtain⟨ha,hp⟩:=hn.at aC;have d1:¬t.cls<0:=aa;have d2:¬2<t.cls:=aa;simp only[Dg.e]at ae;simp(disch:=omega)[go_sem,ad,ao,-getElem?_pos,Tok.e];refine wj (b:=N+1+1) (r:=N+1) (wr:=true) (ak:=0) (es:=es) (clock:=clock) ai ai hs ha λav ab T an=> ?_;rw[hp]at an;simp(disch:=omega)[go_sem,d1,d2,aj.e];refine au.mk ae λM=>aR λhM=> ?_;rcases hk with⟨h1,h2,h3⟩|⟨h1,h2,⟨h3,h4,h5⟩|⟨h3,h4⟩⟩
     . simp(disch:=omega)[go_sem,h1,h2,h3,aG];refine⟨j-1,aa,_,aB.mk (N:=M) ai ?_ ?_,(hI _ _).2 ⟨k+1,M,av,ab,aa,an,aa,rfl⟩⟩
       . simp(disch:=omega)[go_sem,Tok.e]
       . simp(disch:=omega)[go_sem,aj.e]
     . simp(disch:=omega)[go_sem,h1,h4];refine au.mk h2 λM2=>aR λaE=> ?_;simp(disch:=omega)[go_sem,h3];refine au.mk h5 λM3=>aR λaH=> ?_;simp(disch:=omega)[go_sem,aG];refine⟨j-1,aa,_,aB.mk (N:=M3) ai ?_ ?_,(hI _ _).2 ⟨k+1,M3,av,ab,aa,an,aa,rfl⟩⟩
       . simp(disch:=omega)[go_sem,Tok.e]
       . simp(disch:=omega)[go_sem,aj.e]
     . simp(disch:=omega)[go_sem,h1,h4];refine au.mk h2 λM2=>aR λaE=> ?_;simp(disch:=omega)[go_sem,h3,aG];refine⟨j-1,aa,_,aB.mk (N:=M2) ai ?_ ?_,(hI _ _).2 ⟨k+1,M2,av,ab,aa,an,aa,rfl⟩⟩
       . simp(disch:=omega)[go_sem,Tok.e]
       . simp(disch:=omega)[go_sem,aj.e]
   . have ad:¬(k:Int)<g.aF.length:=aa;simp(disch:=omega)[go_sem,ad,aj.e]
structure GV(g:aj):Prop where
 size:wo g
 cO:qE g
 aF:uv g
 aI:kZ g.aI/\0<=g.start/\g.start<g.aI.length
 aq:Ir g
 bj:Iv g
 bx:Iy g
set_option maxHeartbeats 4000000 in
def CJ(g:aj)(hg:GV g):ay E true 75 [.agg g.e] (iV 0):=by
 have h0:=Ig g hg.size;have h1:=Ic g hg.cO;have h2:=IA g hg.aF;have h3:=aah g hg.aI.1 hg.aI.2.1 hg.aI.2.2 hg.size.aI;have h4:=aaD g hg.aq;have h5:=aaG g hg.bj;have h6:=aaH g hg.bx;simp only[aj.e]at h0 h1 h2 h3 h4 h5 h6;refine aV Tryz.ntmps75 Tryz.results75 λN=> ?_;simp(disch:=omega)[go_sem,aj.e];refine au.mk h0 λM=>cY λhM=> ?_;obtain⟨I,hI⟩:∃I:Nat->DS->Prop,∀j d,I j d↔∃(k P:Nat),j+k=6/\M<P/\d=⟨bw [(1,.v (.pointer (some ⟨N,0,none⟩))),(10,.v (.slice (some ⟨M,0,none⟩) 6 6)),(11,iV 6),(12,iV k)],23,[],cA P [(N,.row g.e true 0),(M,.row [.fn 141 [] [],.fn 142 [] [],.fn 143 [] [],.fn 144 [] [],.fn 145 [] [],.fn 146 [] []] true 0)]⟩:=⟨_,λ_ _=>Ey⟩;refine bM I 6 ⟨_,aB.mk (N:=M+1) ai ai ?_,(hI _ _).2 ⟨0,M+1,rfl,aa,rfl⟩⟩ ?_
 . simp(disch:=omega)[go_sem,aj.e]
 . intro j ds ah;obtain⟨k,P,hj,hP,rfl⟩:=(hI _ _).1 ah;clear ah;by_cases aw:k<6
   . have hk:k=0\/k=1\/k=2\/k=3\/k=4\/k=5:=aa;rcases hk with rfl|rfl|rfl|rfl|rfl|rfl
     all_goals
      simp(disch:=omega)[go_sem,aj.e]
      first|refine au.mk h1 λP2 af=> ?_|refine au.mk h2 λP2 af=> ?_|refine au.mk h3 λP2 af=> ?_|refine au.mk h4 λP2 af=> ?_|refine au.mk h5 λP2 af=> ?_|refine au.mk h6 λP2 af=> ?_
      replace af:=cr af;simp(disch:=omega)[go_sem,aG];refine⟨j-1,aa,_,aB.mk (N:=P2) ai ?_ ?_,(hI _ _).2 ⟨6-(j-1),P2,aa,aa,rfl⟩⟩
      . simp(disch:=omega)[go_sem]<;>omega
      . simp(disch:=omega)[go_sem,aj.e]
   . have hk:k=6:=aa;subst hk;simp(disch:=omega)[go_sem,aj.e]
def qH(h':ab):Nat->Nat->Tr bR->Tr bR
 |0,_,m=>m
 |k+1,i,m=>match h'.get i with
  |some o=>qH h' k (i+1) (m.set i (some o))
  |none=>qH h' k (i+1) m
def pE(h h':ab):ab:=⟨qH h' (h'.next-h.next) h.next h.m,h'.next⟩
def wz(h':ab)(j:Nat):∀(k i:Nat) (m:Tr bR),(qH h' k i m).get j=if i<=j/\j<i+k then(match h'.get j with|some o=>some o|none=>m.get j)else m.get j
 |0,i,m=>by rw[if_neg aa];rfl
 |k+1,i,m=>by
  simp only[qH];cases hq:h'.get i with
  |none=>
   simp only;rw[wz h' j k (i+1) m];by_cases hj:j=i
   . subst hj;rw[if_neg aa,if_pos aa,hq]
   . by_cases h2:i+1<=j/\j<i+1+k
     . rw[if_pos h2,if_pos aa]
     . rw[if_neg h2,if_neg aa]
  |some o=>
   simp only;rw[wz h' j k (i+1)];by_cases hj:j=i
   . subst hj;rw[if_neg aa,if_pos aa,hq,Tr.bD,if_pos rfl]
   . by_cases h2:i+1<=j/\j<i+1+k
     . rw[if_pos h2,if_pos aa,Tr.bD,if_neg hj]
     . rw[if_neg h2,if_neg aa,Tr.bD,if_neg hj]
def abi(h h':ab)(j:Nat)(hj:j<h.next):(pE h h').get j=h.get j:=by
 show(qH h' _ _ h.m).get j=_;rw[wz,if_neg aa];rfl
def abj(h h':ab)(j:Nat)(o:bR)(hj:h.next<=j)(h2:j<h'.next)(ho:h'.get j=some o):(pE h h').get j=some o:=by
 show(qH h' _ _ h.m).get j=_;rw[wz,if_pos aa,ho]
def abk(h h':ab)(hs:Sub h h')(hn:∀i o,h.get i=some o->i<h.next):∀i o,(pE h h').get i=some o->h'.get i=some o:=λi o ho=>by
 have ho:(qH h' _ _ h.m).get i=some o:=ho;rw[wz]at ho;have key:h.m.get i=some o->h'.get i=some o:=λhq=>hs.get i o (hn i o hq) hq
 split at ho
 . split at ho
   . rename_i o' hq;cases ho;exact hq
   . exact key ho
 . exact key ho
def abl{f:FuncId}{args:List Value}{h:ab}{v:Value}{h1:ab}(hr:bU E f args h v h1)(hs:Sub h h1):bU E f args h v (pE h h1):=by
 by_cases hn:∀i o,h.get i=some o->i<h.next
 . exact hr.drop (abk h h1 hs hn) (UR _)
 . refine⟨hr.1,λρ w vs hg hv hw=>absurd (λi o ho=> ?_) hn⟩;obtain⟨pl,h2,_⟩:=hw.obj i o ho;exact hw.hD i pl h2
def my(x:Br):Int×Int×Int:=(x.1,x.2.1,x.2.2)
def rv(c:Nat):Nat:=code λρ=>c.testBit (idx ρ)
def abm:((yx 256).all λc=>decide (rv c<256)&&decide ((eL (rv c)).2.2.map my=(aO c).nodes)&&decide (((eL (rv c)).1:Int)=(aO c).root))=true:=an
def uD{c:Nat}(hc:c<256):rv c<256/\(eL (rv c)).2.2.map my=(aO c).nodes/\((eL (rv c)).1:Int)=(aO c).root:=by
 have:=Fj.1 abm c (by simpa using hc);simpa[and_assoc]using this
def IU{h:ab}{G:Nat->Prop}(hG:∀i,G i->i<h.next){v:Value}{N:List Br}(hv:Rel (aP h G) v (.sl 3 ((N.map my).map cB))):kp 3 h v (N.map dH):=by
 generalize hx:(N.map my).map cB=xs at hv;cases hv with
 |jO _=>
  have:N=[]:=by cases N<;>simp at hx⊢
  subst this;exact .inl ⟨rfl,_,_,rfl⟩
 | @sl b o c k ak cs _ q1 q2 q3 q4 q5 q6 q7=>
  obtain⟨g1,wr,g2⟩:=qk q1;have hlen:xs.length=(N.map dH).length:=by rw[<-hx];simp
  refine .inr ⟨b,o,c,by rw[hlen],hG _ g1,λj x hj i u hi=> ?_⟩;rw[Rm,afo]at hj;obtain⟨y,hy,rfl⟩:=hj;have e1:xs[j]? =some ((dH y).map .v):=by
   rw[<-hx,Rm,Rm,hy];rfl
  have aG:=(HT.1 e1).1;have aS:i<3:=by have:=(HT.1 hi).1;simpa[dH]using this
  have ao:o+j*3+i<cs.length:=by
   have:(j+1)*3<=xs.length*3:=Nat.mul_le_mul_right _ aG;omega
  have e2:cs[o+j*3+i]? =some cs[o+j*3+i]:=oY ao;have:=q7 j _ i _ (.v u) e1 (by rw[Rm,hi];rfl) e2;rw[this.cT]at e2;exact c8 g2|>.trans e2
def abn(cs:List Br)(j i:Nat)(x:Br)(u:Value)(hx:cs[j]? =some x)(hu:(dH x)[i]? =some u):(cs.flatMap dH)[j*3+i]? =some u:=by
 induction cs generalizing j with
 |nil=>simp at hx
 |cons y cs ih=>
  rw[afi];cases j with
  |zero=>
   simp only[Yt,WZ]at hx;subst hx;have:=(HT.1 hu).1;rw[List.getElem?_append_left aa];simpa using hu
  |succ j=>
   have hl:(dH y).length=3:=rfl;rw[List.getElem?_append_right (by rw[hl,afp];omega),hl];have:=ih j (by simpa using hx);rw[<-this];congr 1;rw[afp];omega
def abo(cs:List Br):(cs.flatMap dH).length=cs.length*3:=by
 induction cs with
 |nil=>rfl
 |cons y cs ih=>rw[afi,List.length_append,ih,List.length_cons,afp];simp[dH];omega
def abp{h H:ab}{G:Nat->Prop}{sl:Value}{cs:List Br}(hs:uB h.next H sl cs):Rel (aP (pE h H) (qu G h (pE h H))) sl (.sl 3 ((cs.map my).map cB)):=by
 rcases hs with⟨rfl,rfl⟩|⟨_,b,rfl,h1,h2,h3⟩
 . exact .jO aA
 . have e:((cs.map my).map cB).length=cs.length:=aw;have hg:aP (pE h H) (qu G h (pE h H)) b=some (cs.flatMap dH,3):=rS (.inr ⟨h2,h3⟩) (abj h H b _ h2 h3 h1);rw[show(Value.slice (some ⟨b,0,none⟩) cs.length cs.length)=.slice (some ⟨b,0,none⟩) ((cs.map my).map cB).length cs.length by rw[e]];refine .sl hg (.inr rfl) aA (by rw[e];exact UR _) (λx hx=> ?_) (by rw[e,abo];omega) λj x i v d e1 e2 e3=> ?_
   . obtain⟨y,hy,rfl⟩:=Rb.1 hx;rfl
   . rw[List.map_map,Rm,afo]at e1;obtain⟨y,hy,rfl⟩:=e1;have e2:((dH y).map DV.v)[i]? =some d:=e2;rw[Rm,afo]at e2;obtain⟨u,hu,rfl⟩:=e2;rw[adr,abn cs j i y u hy hu]at e3;cases e3;exact .v _
def wA(c:Nat):List DV:=[.sl 3 ((aO c).nodes.map cB),iV (aO c).root]
theorem abq(c:Nat):(aO c).e=wA c:=rfl
def C3{R:Go.aD.Rows}{v:Value}{n:Int}(h:Rel R v (iV n)):v=.int .i64 n:=h.cT
def yT{c:Nat}(hc:c<256)(ρ:dz):tb (eL (rv c)).2.2 (eL (rv c)).1 ρ=c.testBit (idx ρ):=by
 rw[(C2 (uD hc).1).set ρ];unfold wy rv;have hi:=CY ρ;have:=IN (λρ=>c.testBit (idx ρ)) (idx ρ) hi;rw[this];congr 1;show idx (bX (idx ρ))=idx ρ;unfold idx;cases ρ 0<;>cases ρ 1<;>cases ρ 2<;>rfl
def abr{fo:FuncId}{ae:Bool->Bool->Bool}(av:∀H x y,bU E fo [.bool x,.bool y] H (.bool (ae x y)) H){b o:Nat}{H:ab}(hb:rd H b o=some (.func (.func fo) #[] #[]))(x y z:Bool):
 bU E 240 ([.bool x,.bool y,.bool z]++[.pointer (some ⟨b,o,none⟩)]) H (.bool (ae x y)) H:=by
 refine l9 Tryz.ntmps240 Tryz.results240 rfl ?_;simp(disch:=omega)[go_sem,hb];refine KC.mk (av H x y) ?_;exact ai
def abt(a b r:Nat)(ha:a<256)(hb:b<256)(hr:r<256){fo:FuncId}{ae:Bool->Bool->Bool}(av:∀H x y,bU E fo [.bool x,.bool y] H (.bool (ae x y)) H)(aH:∀i,i<8->r.testBit i=ae (a.testBit i) (b.testBit i)):
 ay E true 239 [.agg (wA a++wA b++[cm,iV 0]),.fn 240 [] [.ptr [.fn fo [] []] 0]] (.agg (aO r).e):=by
 intro G h args ⟨hG,_⟩ af;obtain⟨va,vf,rfl⟩:∃va vf,args=[va,vf]:=by
  have:=af.length
  match args,this with
  |[va,vf],_=>exact⟨va,vf,rfl⟩
 obtain⟨aJ,aK⟩:Rel (aP h G) va _/\Rel (aP h G) vf _:=by cases af with|cons h1 h2=>cases h2 with|cons h2 h3=>exact⟨h1,h2⟩
 obtain⟨cells,rfl,hc⟩:=aJ.pY;obtain⟨c0,c1,c2,c3,c4,c5,aC⟩:∃c0 c1 c2 c3 c4 c5,cells.toList=[c0,c1,c2,c3,c4,c5]:=by
  have:=hc.length
  match cells.toList,this with
  |[c0,c1,c2,c3,c4,c5],_=>exact⟨_,_,_,_,_,_,rfl⟩
 rw[aC]at hc;obtain⟨q0,q1,q2,q3,q4,q5⟩:Rel (aP h G) c0 (.sl 3 ((aO a).nodes.map cB))/\Rel (aP h G) c1 (iV (aO a).root)/\Rel (aP h G) c2 (.sl 3 ((aO b).nodes.map cB))/\Rel (aP h G) c3 (iV (aO b).root)/\Rel (aP h G) c4 cm/\Rel (aP h G) c5 (iV 0):=by
  cases hc with
  |cons h0 hc=>cases hc with
   |cons h1 hc=>cases hc with
    |cons h2 hc=>cases hc with
     |cons h3 hc=>cases hc with
      |cons h4 hc=>cases hc with
       |cons h5 hc=>exact⟨h0,h1,h2,h3,h4,h5⟩
 obtain⟨a1,a2,a3⟩:=uD ha;obtain⟨b1,b2,b3⟩:=uD hb;obtain⟨r1,r2,r3⟩:=uD hr;have ka:=C2 a1;have kb:=C2 b1;have:=q4.cT;subst this;have:=C3 q5;subst this;have e1:c1=.int .i64 ((eL (rv a)).1:Int):=by rw[a3];exact C3 q1
 have e3:c3=.int .i64 ((eL (rv b)).1:Int):=by rw[b3];exact C3 q3
 subst e1;subst e3;rw[<-a2]at q0;rw[<-b2]at q2;obtain⟨fa,fc,rfl,f1,f2⟩:=aK.vA;have aL:fa=#[]:=by have:=f1.length;apply afe;simpa using this
 subst aL;obtain⟨p,aM,hp⟩:∃p,fc.toList=[p]/\Rel (aP h G) p (.ptr [.fn fo [] []] 0):=by
  have:=f2.length
  match hl:fc.toList,this with
  |[p],_=>rw[hl]at f2;cases f2 with|cons h1 h2=>exact⟨p,rfl,h1⟩
 obtain⟨pb,po,ak,cs,rfl,aR,aE⟩:∃pb po ak cs,p=.pointer (some ⟨pb,po,none⟩)/\aP h G pb=some (cs,ak)/\cs[po]? =some (.func (.func fo) #[] #[]):=by
  cases hp with
  | @ptr b o off ak cs xs h1 h2 h3=>
   have hl:o<cs.length:=by simp at h2;omega
   have hq:cs[o+0]? =some cs[o]:=oY hl;have:=h3 0 _ _ rfl hq;obtain⟨a',c',e,g1,g2⟩:=this.vA;have ea:a'=#[]:=by have:=g1.length;apply afe;simpa using this
   have ec:c'=#[]:=by have:=g2.length;apply afe;simpa using this
   subst ea;subst ec;rw[e]at hq;exact⟨b,o,ak,cs,rfl,h1,by simpa using hq⟩
 obtain⟨gG,wr,ah⟩:=qk aR;have aT:rd h pb po=some (.func (.func fo) #[] #[]):=(c8 ah).trans aE;have ad:cells=#[c0,.int .i64 ((eL (rv a)).1:Int),c2,.int .i64 ((eL (rv b)).1:Int),.slice none 0 0,.int .i64 0]:=by apply afe;simpa using aC
 have az:fc=#[.pointer (some ⟨pb,po,none⟩)]:=by apply afe;simpa using aM
 subst ad;subst az;obtain⟨v,H,w1,⟨sl,N,n,rfl,w2,w3,w4,w5,w6⟩,w7⟩:=abb (h:=h) (d0:=⟨c0,(eL (rv a)).2.2,(eL (rv a)).1⟩) (d1:=⟨c2,(eL (rv b)).2.2,(eL (rv b)).1⟩) (d2:=⟨.slice none 0 0,[],0⟩)
  ⟨IU hG q0,ka.ok,ka.v3,by have:=ka.len;simp only;omega⟩ ⟨IU hG q2,kb.ok,kb.v3,by have:=kb.len;simp only;omega⟩ ⟨.inl ⟨rfl,_,_,rfl⟩,⟨λk x hx=>by simp at hx,aw⟩,λx hx=>by simp at hx,aw⟩ ka.rl kb.rl aw
  (fo:=240) (cap:=[.pointer (some ⟨pb,po,none⟩)]) (op:=λx y _=>ae x y) (λH hs x y z=>abr av (by
   have:=hs.get pb _ (hG _ gG) ah;exact(c8 this).trans aE) x y z)
 have hN:=abe w3 w4 w5;have aj:code (tb N n)=rv r:=by
  unfold rv;congr 1
  funext ρ
  rw[w6 ρ,yT ha,yT hb];exact(aH _ (CY ρ)).symm
 rw[aj]at hN;rw[hN.2]at w2;rw[hN.1]at w1;refine⟨_,pE h H,abl w1 w7,Nat.le_trans w7.next (UR _),λi hi=>abi h H i hi, ?_⟩;rw[abq,wA,<-r2,<-r3];refine Rel.dG (a:=[sl,.int .i64 ((eL (rv r)).1:Int)]) ?_;exact .cons (abp w2) (.cons (.v _) .nil)
def abu(H:ab)(x y:Bool):bU E 190 [.bool x,.bool y] H (.bool (x&&y)) H:=by
 refine l9 Tryz.ntmps190 Tryz.results190 rfl ?_;cases x<;>simp(disch:=omega)[go_sem]
def abv(H:ab)(x y:Bool):bU E 193 [.bool x,.bool y] H (.bool (x||y)) H:=by
 refine l9 Tryz.ntmps193 Tryz.results193 rfl ?_;cases x<;>simp(disch:=omega)[go_sem]
def abw(l:List Nat)(hl:∀c∈l,c<256)(hlen:l.length<=1000):ay E true 237 [.sl 2 (l.map λc=>(aO c).e)] (iV 0):=by
 refine aV Tryz.ntmps237 Tryz.results237 λN=> ?_;refine aL ?_;obtain⟨I,hI⟩:∃I:Nat->DS->Prop,∀j d,I j d↔∃(k P:Nat),j+k=l.length/\d=⟨bw [(6,.sl 2 (l.map λc=>(aO c).e)),(7,iV l.length),(8,iV k)],18,[],cA P []⟩:=⟨_,λ_ _=>Ey⟩;refine bM I l.length ⟨_,aB.mk (N:=N) ai ?_ ai,(hI _ _).2 ⟨0,N,rfl,rfl⟩⟩ ?_
 . simp(disch:=omega)[go_sem,Dg.e]
 . intro j ds ae;obtain⟨k,P,hj,rfl⟩:=(hI _ _).1 ae;clear ae;by_cases aj:k<l.length
   . have ad:(k:Int)<l.length:=aa;obtain⟨c,hc⟩:∃c,l[k]? =some c:=⟨_,oY aj⟩;have ao:=hl c (Q0 hc);have hk:=Cs c ao;generalize hd:aO c=d at hk;simp(disch:=omega)[go_sem,ad,hc,-getElem?_pos,hd,Dg.e];refine au.mk hk λP2=>aR λaC=> ?_;simp(disch:=omega)[go_sem,aG];refine⟨j-1,aa,_,aB.mk (N:=P2) ai ?_ ai,(hI _ _).2 ⟨k+1,P2,aa,rfl⟩⟩
     . simp(disch:=omega)[go_sem,Dg.e]
   . have ad:¬(k:Int)<l.length:=aa;simp(disch:=omega)[go_sem,ad]
def abx(c:Nat)(hc:c<256):ay E true 238 [.agg (aO c).e] (.bf [.agg (aO c).e,iV 0]):=by
 have hl:(aO c).nodes.length<=4096:=by
  have h:((yx 256).all λc=>decide ((aO c).nodes.length<=4096))=true:=an;simpa using Fj.1 h c (by simpa using hc)
 generalize aO c=d at*;refine aV Tryz.ntmps238 Tryz.results238 λN=> ?_;have h2:¬(4096:Int)<d.nodes.length:=aa;have h3:¬4096<d.nodes.length:=aa;simp(disch:=omega)[go_sem,Dg.e,h2,h3]
def IV(a b r:Nat)(ha:a<256)(hb:b<256)(hr:r<256){fo:FuncId}{af:Bool->Bool->Bool}(av:∀H x y,bU E fo [.bool x,.bool y] H (.bool (af x y)) H)(az:∀i,i<8->r.testBit i=af (a.testBit i) (b.testBit i)):
 ay E true 189 [.agg (aO a).e,.agg (aO b).e,.fn fo [] []] (.bf [.agg (aO r).e,iV 0]):=by
 have h1:=abw [a,b] (by simp[ha,hb]) aw;have h2:=abt a b r ha hb hr av az;have h3:=abx r hr;simp only[Xt,List.map_nil]at h1;simp only[wA,Dg.e,List.cons_append,List.nil_append]at h1 h2 h3⊢;generalize aO a=A at*;generalize aO b=B at*;generalize aO r=R at*;refine aV Tryz.ntmps189 Tryz.results189 λN=> ?_;refine aL ?_;refine au.pl h1 (.cons (dW (ak:=0) (cu (wr:=true) ai) (.inl rfl) aA rfl (UR _) aw) .nil) λM=>cY λhM=> ?_;refine au.fz h2 [N+1+1] ?_ (.cons (.refl _) (.cons (.fn rfl (λi v d h1 h2=>by simp at h1) rfl (λi v d h1 h2=> ?_)) .nil)) λM2 ah=> ?_
 . exact ai
 . cases i with
   |succ i=>simp at h1
   |zero=>
    simp only[Yt,WZ]at h1 h2;subst h1;subst h2;exact .ptr (o:=0) (off:=0) (ak:=0) (fq (wr:=true) aw (by simp(disch:=omega)[go_sem];try rfl)) aw λi v d h1 h2=>by
     cases i with
     |succ i=>simp at h1
     |zero=>simp only[adr,Yt,WZ]at h1 h2;subst h1;subst h2;exact .refl _
 replace ah:=cr ah;refine aL ?_;refine au.mk h3 λM3=>aR λaE=> ?_;exact ai
def wB(a b:Nat)(ha:a<256)(hb:b<256):ay E true 131 [.agg (aO a).e,.agg (aO b).e] (.bf [.agg (aO (a&&&b)).e,iV 0]):=by
 have h1:=IV a b (a&&&b) ha hb (afz afA ha) abu λi _=>Nat.testBit_and ..;simp only[Dg.e]at h1⊢;generalize aO a=A at*;generalize aO b=B at*;generalize aO (a&&&b)=R at*;refine aV Tryz.ntmps131 Tryz.results131 λN=> ?_;refine aL ?_;refine au.mk h1 λM=>aR λhM=> ?_;exact ai
def C4(a b:Nat)(ha:a<256)(hb:b<256):ay E true 135 [.agg (aO a).e,.agg (aO b).e] (.bf [.agg (aO (a|||b)).e,iV 0]):=by
 have h1:=IV a b (a|||b) ha hb (afB (n:=8) ha hb) abv λi _=>Nat.testBit_or ..;simp only[Dg.e]at h1⊢;generalize aO a=A at*;generalize aO b=B at*;generalize aO (a|||b)=R at*;refine aV Tryz.ntmps135 Tryz.results135 λN=> ?_;refine aL ?_;refine au.mk h1 λM=>aR λhM=> ?_;exact ai
end Go.Sp
end
noncomputable section
open Go Go.aD Go.Proofs
namespace Go.aD
variable {e:Env}
def eS(h:ah):List Nat->ah
 |[]=>ah.none h.next
 |i::S=>(eS h S).set i (h.get i)
def C5(h:ah):∀S,(eS h S).next=h.next
 |[]=>rfl
 |_::S=>C5 h S
def ni(h:ah)(j:Nat):∀S,(eS h S).get j=if j∈S then h.get j else none
 |[]=>by rw[eS,ah.get_none];simp
 |i::S=>by
  rw[eS,ah.bD,ni h j S];by_cases h1:j=i
  . subst h1;simp
  . simp[h1]
def cJ.read{ar:Bool}{f:FuncId}{args:List DV}{dh:ah}{K:DV->ah->List Nat->Prop}(S:List Nat)(hc:cJ e ar f args (eS dh S) λv ab _=>(∀i∈S,ab.get i=dh.get i)/\K v (dh.up ab.next) S):cJ e ar f args dh K:=by
 intro G h vs x ha;have kn:∀i,dh.get i=none->(eS dh S).get i=none:=λi hi=>by
  rw[ni];split
  . exact hi
  . rfl
 have x0:bP G h (eS dh S):=by
  refine⟨x.e9,by rw[C5];exact x.next,λi o ho=> ?_,λi hi=>⟨(x.still i hi).1,kn i (x.still i hi).2⟩⟩;rw[ni]at ho
  split at ho
  . exact x.obj i o ho
  . cases ho
 have key:=hc G h vs x0 ha;have fin:∀v h',lF G h (eS dh S) (λv ab _=>(∀i∈S,ab.get i=dh.get i)/\K v (dh.up ab.next) S) v h'->lF G h dh K v h':=λv h' ⟨d,ab,G',T,r2,r3,r4,r5,r6,r7⟩=>by
  have ad:∀i,¬i<h.next->dh.get i=none:=λi hi=>by
   cases hq:dh.get i with
   |none=>rfl
   |some o=>exact absurd (x.obj i o hq).1 hi
  have out:∀i,i<h.next->i∉S->h'.get i=h.get i:=λi hi hS=>(r3.same i hi (by rw[ni,if_neg hS])).1;have hm:∀i r,aP h G i=some r->aP h' G' i=some r:=iA λi hg=>by
   obtain⟨h1,h2⟩:=x.still i hg;exact⟨r3.up i hg,(r3.same i h1 (kn i h2)).1⟩
  refine⟨d,dh.up ab.next,G',S,⟨r2.e9,r2.next,λi o ho=> ?_,λi hi=>⟨(r2.still i hi).1, ?_⟩⟩,⟨r3.next,λi hi hd=>⟨(r3.same i hi (kn i hd)).1,hd⟩,r3.up,λi hi hg=> ?_⟩,r4,λi hi hS=>⟨out i hi hS,rfl⟩,r7⟩
  . have ho:dh.get i=some o:=ho;by_cases hS:i∈S
    . exact r2.obj i o (by rw[r6 i hS];exact ho)
    . obtain⟨h1,ao,h2,h3⟩:=x.obj i o ho;exact⟨afl h1 r3.next,ao,by rw[out i h1 hS];exact h2,h3.mono hm⟩
  . show dh.get i=none;by_cases aE:i<h.next
    . by_cases hS:i∈S
      . rw[<-r6 i hS];exact(r2.still i hi).2
      . rcases r3.bp i aE hi with h1|h1
        . exact(x.still i h1).2
        . rw[ni,if_neg hS]at h1;cases h1
    . exact ad i aE
  . rcases r3.bp i hi hg with h1|h1
    . exact .inl h1
    . rw[ni]at h1
      split at h1
      . exact .inr h1
      . cases h1
 cases ar with
 |true=>obtain⟨v,h',h1,h2⟩:=key;exact⟨v,h',h1,fin v h' h2⟩
 |false=>exact fm.mono key fin
def qI(h h':ah):List Nat->ah
 |[]=>h
 |i::S=>(qI h h' S).set i (h'.get i)
def C6(h h':ah):∀S,(qI h h' S).next=h.next
 |[]=>rfl
 |_::S=>C6 h h' S
def C7(h h':ah)(j:Nat):∀S,(qI h h' S).get j=if j∈S then h'.get j else h.get j
 |[]=>by simp[qI]
 |i::S=>by
  rw[qI,ah.bD,C7 h h' j S];by_cases h1:j=i
  . subst h1;simp
  . simp[h1]
def cJ.frame{ar:Bool}{f:FuncId}{args:List DV}{dh:ah}{K:DV->ah->List Nat->Prop}(S:List Nat)(hS:∀i∈S,i<dh.next)
 (hc:cJ e ar f args (eS dh S) λv ab _=>∀af:ah,af.next=ab.next->(∀i,(i∈S\/dh.next<=i)->af.get i=ab.get i)->(∀i,i<dh.next->i∉S->af.get i=dh.get i)->K v af S):cJ e ar f args dh K:=by
 intro G h vs x ha;have kn:∀i,dh.get i=none->(eS dh S).get i=none:=λi hi=>by
  rw[ni];split
  . exact hi
  . rfl
 have x0:bP G h (eS dh S):=by
  refine⟨x.e9,by rw[C5];exact x.next,λi o ho=> ?_,λi hi=>⟨(x.still i hi).1,kn i (x.still i hi).2⟩⟩;rw[ni]at ho
  split at ho
  . exact x.obj i o ho
  . cases ho
 have key:=hc G h vs x0 ha;have fin:∀v h',lF G h (eS dh S) (λv ab _=>∀af:ah,af.next=ab.next->(∀i,(i∈S\/dh.next<=i)->af.get i=ab.get i)->(∀i,i<dh.next->i∉S->af.get i=dh.get i)->K v af S) v h'->lF G h dh K v h':=λv h' ⟨d,ab,G',T,r2,r3,r4,r5,r7⟩=>by
  have ad:∀i,¬i<h.next->dh.get i=none:=λi hi=>by
   cases hq:dh.get i with
   |none=>rfl
   |some o=>exact absurd (x.obj i o hq).1 hi
  have hn:dh.next=h.next:=x.next.symm;have out:∀i,i<h.next->i∉S->h'.get i=h.get i:=λi hi hS=>(r3.same i hi (by rw[ni,if_neg hS])).1;have hm:∀i r,aP h G i=some r->aP h' G' i=some r:=iA λi hg=>by
   obtain⟨h1,h2⟩:=x.still i hg;exact⟨r3.up i hg,(r3.same i h1 (kn i h2)).1⟩
  have lo:∀i,i<dh.next->i∉S->(kX (qI dh ab S) ab).get i=dh.get i:=λi hi hS=>by
   rw[uh,if_neg (by rw[C6];omega),C7,if_neg hS]
  have aJ:∀i,(i∈S\/dh.next<=i)->(kX (qI dh ab S) ab).get i=ab.get i:=λi hi=>by
   rw[uh,C6,C7];by_cases aE:i<dh.next
   . have aK:i∈S:=by rcases hi with h1|h1;exact h1;omega
     rw[if_neg aa,if_pos aK]
   . have hb:(if i∈S then ab.get i else dh.get i)=if i∈S then ab.get i else none:=by
      split
      . rfl
      . exact ad i aa
     rw[hb];cases hq:ab.get i with
     |some o=>
      have:=(r2.obj i o hq).1;have h2:=r2.next;rw[if_pos aa]
     |none=>
      rw[show(if i∈S then(none:Option bJ)else none)=none from by split<;>rfl]
      split<;>rfl
  refine⟨d,kX (qI dh ab S) ab,G',S,⟨r2.e9,r2.next,λi o ho=> ?_,λi hi=>⟨(r2.still i hi).1, ?_⟩⟩,⟨r3.next,λi hi hd=>⟨(r3.same i hi (kn i hd)).1, ?_⟩,r3.up,λi hi hg=> ?_⟩,r4,λi hi hS=>⟨out i hi hS,lo i aa hS⟩,r7 _ rfl aJ lo⟩
  . by_cases hc:i∈S\/dh.next<=i
    . rw[aJ i hc]at ho;exact r2.obj i o ho
    . have h1:i<dh.next/\i∉S:=by
       refine⟨?_,λh=>hc (.inl h)⟩;rcases afq i dh.next with h|h
       . exact h
       . exact absurd (.inr h) hc
      rw[lo i h1.1 h1.2]at ho;obtain⟨h2,ao,h3,h4⟩:=x.obj i o ho;exact⟨afl h2 r3.next,ao,by rw[out i h2 h1.2];exact h3,h4.mono hm⟩
  . by_cases hc:i∈S\/dh.next<=i
    . rw[aJ i hc];exact(r2.still i hi).2
    . have h1:i<dh.next/\i∉S:=by
       refine⟨?_,λh=>hc (.inl h)⟩;rcases afq i dh.next with h|h
       . exact h
       . exact absurd (.inr h) hc
      rw[lo i h1.1 h1.2];rcases r3.bp i aa hi with h2|h2
      . exact(x.still i h2).2
      . rw[ni,if_neg h1.2]at h2;cases h2
  . by_cases aK:i∈S
    . rw[aJ i (.inl aK)];exact(r3.same i hi (kn i hd)).2
    . rw[lo i aa aK];exact hd
  . rcases r3.bp i hi hg with h1|h1
    . exact .inl h1
    . rw[ni]at h1
      split at h1
      . exact .inr h1
      . cases h1
 cases ar with
 |true=>obtain⟨v,h',h1,h2⟩:=key;exact⟨v,h',h1,fin v h' h2⟩
 |false=>exact fm.mono key fin
end Go.aD
namespace Go.Sp
def uE{ar:Bool}{f:FuncId}{fn:Func}{c:Code}{args:List DV}{K:b9}{dd:List FuncId}{h:ah}(S:List Nat){n:Nat}(hn:fn.ntmps=n){rs:List ResultVar}(aX:fn.results=rs.toArray)
 (hq:RD E ar c ⟨gD args,args.length+(n-args.length),[],eS h S⟩ (ib E rs λd h'=>∀_:List Nat,(∀i∈S,h'.get i=h.get i)/\K d dd (h.up h'.next) S)) (aY:E.fn f=some fn:=by kernel_rfl) (hb:fn.body=some c:=by rfl):au E ar K dd h (f,args):=by
 refine cJ.read S ?_;exact fw (K:=λv _ h' _=>(∀i∈S,h'.get i=h.get i)/\K v dd (h.up h'.next) S) (dd:=dd) hn aX hq aY hb
def qJ{ar:Bool}(d:Dg):ay E ar 130 [.agg d.e,iV 0] (.agg d.e):=by
 refine aV Tryz.ntmps130 Tryz.results130 λN=> ?_;simp(disch:=omega)[go_sem,Dg.e]
def C8{ar:Bool}(b:Bool):ay E ar 134 [bV b] (.agg (bg b).e):=by
 refine aV Tryz.ntmps134 Tryz.results134 λN=> ?_;cases b<;>simp[go_sem,mh,bg,Dg.e]
def sD:E.under 170=some (.map 3 33):=an
def IW:E.zero 33=some (.agg #[.slice none 0 0,.int .i64 0]):=an
abbrev jb(es:List bG)(l:List (Int×Nat)):Prop:=fj sA (λc:Nat=>.agg (aO c).e) es l
def cQ{κ:Type}[DecidableEq κ](l:List (κ×Nat))(k:κ):Nat:=(bq l k).getD 0
theorem IX:aO 0=bg false:=rfl
def wC{ar:Bool}{K:b9}{dd:List FuncId}{h:ah}{r:Nat}{es:List bG}{clock:Nat}{l:List (Int×Nat)}{k:Int}(hm:h.get r=some (.map es clock))(hr:r<h.next)(hl:jb es l)
 (hk:∀N,h.next<=N->K (.agg (aO (cQ l k)).e) dd (h.up N) [r]):au E ar K dd h (138,[.v (.map (some r)),iV k]):=by
 refine uE [r] Tryz.ntmps138 Tryz.results138 ?_;simp only[eS,hm];cases ha:bq l k with
 |none=>
  have h1:=sv j7 sD hl k true IW rfl ha;have hg:cQ l k=0:=by simp[cQ,ha]
  rw[hg,IX]at hk;refine aL ?_;refine⟨_,lT (es:=es) (clock:=clock) ai rfl h1, ?_⟩;simp(disch:=omega)[go_sem,fO];refine au.mk (C8 false) λM=>aR λhM=> ?_;simp(disch:=omega)[go_sem,Dg.e]at hk⊢;exact⟨hm.symm,hk M aa⟩
 |some c=>
  have h1:=su j7 sD hl k true ha;have hg:cQ l k=c:=by simp[cQ,ha]
  rw[hg]at hk;refine aL ?_;refine⟨_,lT (es:=es) (clock:=clock) ai rfl h1, ?_⟩;simp(disch:=omega)[go_sem,Dg.e]at hk⊢;exact⟨hm.symm,hk _ aa⟩
def fS(l:List (Int×Nat))(c:Nat)(syms:List Sym):Nat:=syms.foldl (λc s=>if s.tok=true\/c=0 then c else c&&&cQ l s.idx) c
def yU{c:Nat}(hc:c<256):(aO c).root=0↔c=0:=by
 have h:((yx 256).all λc=>decide ((aO c).root=0)==decide (c=0))=true:=an;have:=Fj.1 h c (by simpa using hc);simpa using eq_of_beq this
def uF{l:List (Int×Nat)}(hl:∀k c,bq l k=some c->c<256)(k:Int):cQ l k<256:=by
 unfold cQ;cases h:bq l k with
 |none=>simp
 |some c=>simpa using hl k c h
def yV(l:List (Int×Nat))(syms:List Sym):∀(c:Nat),c<256->fS l c syms<256:=by
 induction syms with
 |nil=>exactλc h=>h
 |cons s r ih=>
  intro c h;simp only[fS,afC];refine ih _ ?_
  split
  . exact h
  . exact afz afA h
set_option maxHeartbeats 2000000 in
def aby{K:b9}{dd:List FuncId}{h:ah}{r:Nat}{es:List bG}{clock:Nat}{l:List (Int×Nat)}{syms:List Sym}{c:Nat}(hm:h.get r=some (.map es clock))(hr:r<h.next)(hl:jb es l)(aZ:∀k c,bq l k=some c->c<256)(hc:c<256)(hs:syms.length<=1000)
 (hk:∀N,h.next<=N->K (.agg (aO (fS l c syms)).e) dd (h.up N) [r]):au E true K dd h (133,[.agg (aO c).e,.sl 2 (syms.map Sym.e),.v (.map (some r))]):=by
 refine uE [r] Tryz.ntmps133 Tryz.results133 ?_;simp only[eS,hm];obtain⟨N,hN⟩:∃N,h.next=N:=⟨_,rfl⟩;rw[hN]at hr hk⊢;simp(disch:=omega)[go_sem,Dg.e];obtain⟨I,hI⟩:∃I:Nat->DS->Prop,∀j d,I j d↔∃(k P:Nat),j+k=syms.length/\N+1<P/\d=⟨bw [(2,.v (.map (some r))),(3,.v (.pointer (some ⟨N,0,none⟩))),(6,.v (.pointer (some ⟨N+1,0,none⟩))),(9,.sl 2 (syms.map Sym.e)),(10,iV syms.length),(11,iV k)],34,[],cA P [(r,.map es clock),(N,.row (aO (fS l c (syms.take k))).e true 0),(N+1,.row [.v (.slice none 0 0),.v (.int .i64 0)] true 0)]⟩:=⟨_,λ_ _=>Ey⟩;refine bM I syms.length ⟨_,aB.mk (N:=N+2) ai ai ?_,(hI _ _).2 ⟨0,N+2,rfl,aa,rfl⟩⟩ ?_
 . simp(disch:=omega)[go_sem,Dg.e,fS]
 . intro j ds aM;obtain⟨k,P,hj,hP,rfl⟩:=(hI _ _).1 aM;clear aM;by_cases aE:k<syms.length
   . have az:(k:Int)<syms.length:=aa;obtain⟨s,hx⟩:∃s,syms[k]? =some s:=⟨_,oY aE⟩;have av:fS l c (syms.take (k+1))=if s.tok=true\/fS l c (syms.take k)=0 then fS l c (syms.take k)else fS l c (syms.take k)&&&cQ l s.idx:=by
      unfold fS;rw[YN,hx,afn,List.foldl_append,afC,List.foldl_nil]
     have aS:=yV l (syms.take k) c hc;generalize bb:fS l c (syms.take k)=cc at*;have aW:=yU aS;by_cases aj:s.tok=true\/cc=0
     . rw[if_pos aj]at av;have aH:∀(st:DS),aB st ⟨bw [(2,.v (.map (some r))),(3,.v (.pointer (some ⟨N,0,none⟩))),(6,.v (.pointer (some ⟨N+1,0,none⟩))),(9,.sl 2 (syms.map Sym.e)),(10,iV syms.length),(11,iV (k+1:Nat))],34,[],cA (P+1) [(r,.map es clock),(N,.row (aO cc).e true 0),(N+1,.row [.v (.slice none 0 0),.v (.int .i64 0)] true 0)]⟩->∃j',j'<j/\∃d',aB st d'/\I j' d':=λst hw=>
        ⟨j-1,aa,_,hw,(hI _ _).2 ⟨k+1,P+1,aa,aa,by rw[av]⟩⟩
       cases ht:s.tok with
       |true=>
        simp(disch:=omega)[go_sem,az,hx,-getElem?_pos,Sym.e,ht,aG];refine aH _ (aB.mk ai ?_ ?_)
        . simp(disch:=omega)[go_sem,Sym.e]
        . simp(disch:=omega)[go_sem,Dg.e]
       |false=>
        have hz:cc=0:=by simpa[ht]using aj
        have aw:=aW.2 hz;simp(disch:=omega)[go_sem,az,hx,-getElem?_pos,Sym.e,ht,Dg.e,aw,aG];refine aH _ (aB.mk ai ?_ ?_)
        . simp(disch:=omega)[go_sem,Sym.e]
        . simp(disch:=omega)[go_sem,Dg.e,aw]
     . rw[if_neg aj]at av;have ht:s.tok=false:=by simpa using λh=>aj (.inl h)
       have hz:¬cc=0:=λh=>aj (.inr h);have aw:¬(aO cc).root=0:=λh=>hz (aW.1 h);have ba:=uF aZ s.idx;have hand:=wB cc (cQ l s.idx) aS ba;have aA:=qJ (ar:=true) (aO (cc&&&cQ l s.idx));simp only[Dg.e]at hand aA;simp(disch:=omega)[go_sem,az,hx,-getElem?_pos,Sym.e,ht,Dg.e,aw];refine bH [dq 0,ae 0,ae 0,aC 4,aT 14,aT 31,ae 63,ae 63,aT 255,aT 511] an 0 rfl ?_;simp(disch:=omega)[go_sem,Sym.e,Dg.e];refine wC (es:=es) (clock:=clock) (l:=l) ai (by simp(disch:=omega)[go_sem];try omega) hl λM hM=> ?_;replace hM:=cr hM;simp(disch:=omega)[go_sem,Dg.e];refine⟨aa, ?_⟩;refine au.mk hand λM2=>cY λbc=> ?_;refine au.mk aA λM3=>aR λbd=> ?_;simp(disch:=omega)[go_sem,aG];refine⟨j-1,aa,_,aB.mk (N:=M3) ai ?_ ?_,(hI _ _).2 ⟨k+1,M3,aa,aa,rfl⟩⟩
       . simp(disch:=omega)[go_sem,Sym.e]
       . simp(disch:=omega)[go_sem,Dg.e,av]
   . have az:¬(k:Int)<syms.length:=aa;rw[afc aa];simp(disch:=omega)[go_sem,az,Dg.e]at hk⊢;exact⟨hm.symm,hk _ aa⟩
end Go.Sp
end
noncomputable section
open Go Go.aD Go.Proofs
namespace Go.Sp
def abz(o p:Operand)(a b c a' b' c':Int):cL E .neq 247 o p (.agg #[.int .i64 a,.int .i64 b,.int .i64 c]) (.agg #[.int .i64 a',.int .i64 b',.int .i64 c'])=some (.bool (!(decide (a=a')&&(decide (b=b')&&decide (c=c'))))):=by
 have hg:Tryz.prog.eqGuardType Tryz.prog.depth 247=false:=an;show eI Tryz.prog _=_;simp[eI,eqGuard,binOp,lQ,sx,qF,hg,Ij,-bind_pure_comp];rfl
def abA(o p:Operand)(a b c a' b' c':Int):iC E .neq 247 o p (.agg [.v (.int .i64 a),.v (.int .i64 b),.v (.int .i64 c)]) (.agg [.v (.int .i64 a'),.v (.int .i64 b'),.v (.int .i64 c')])=some (.v (.bool (!(decide (a=a')&&(decide (b=b')&&decide (c=c')))))):=by
 show(cL E .neq 247 o p (.agg #[.int .i64 a,.int .i64 b,.int .i64 c]) (.agg #[.int .i64 a',.int .i64 b',.int .i64 c'])).map DV.v=_;rw[abz];rfl
def abB(a b:List (Int×Int×Int))(hl:a.length<=10000):ay E true 194 [.sl 3 (a.map cB),.sl 3 (b.map cB)] (bV (decide (a=b))):=by
 obtain⟨R,hR⟩:∃R,R=decide (a=b):=⟨_,rfl⟩;rw[<-hR];refine aV Tryz.ntmps194 Tryz.results194 λN=> ?_;by_cases hlen:a.length=b.length
 . have e1:(a.length:Int)=b.length:=aa;simp(disch:=omega)[go_sem,hlen];obtain⟨I,hI⟩:∃I:Nat->DS->Prop,∀j d,I j d↔∃(k P:Nat),j+k=a.length/\a.take k=b.take k/\d=⟨bw [(0,.sl 3 (a.map cB)),(1,.sl 3 (b.map cB)),(12,iV b.length),(13,iV k)],26,[],cA P []⟩:=⟨_,λ_ _=>Ey⟩;refine bM I a.length ⟨_,aB.mk (N:=N) ai ai ai,(hI _ _).2 ⟨0,N,rfl,rfl,rfl⟩⟩ ?_
   . intro j ds av;obtain⟨k,P,hj,af,rfl⟩:=(hI _ _).1 av;clear av;by_cases aw:k<a.length
     . have ab:(k:Int)<b.length:=aa;have ah:k<b.length:=aa;obtain⟨x,hx⟩:∃x,a[k]? =some x:=⟨_,oY aw⟩;obtain⟨y,hy⟩:∃y,b[k]? =some y:=⟨_,oY ah⟩;obtain⟨x1,x2,x3⟩:=x;obtain⟨y1,y2,y3⟩:=y;simp(disch:=omega)[go_sem,ab,hx,hy,-getElem?_pos];refine bH [ae 0,ae 0,ae 3,aC 7,ae 0,ae 0,ae 48,aC 112,ae 255] an 0 rfl ?_;simp(disch:=omega)[go_sem,ab,hx,hy,-getElem?_pos,cB,abA];by_cases he:x1=y1/\x2=y2/\x3=y3
       . obtain⟨h1,h2,h3⟩:=he;simp(disch:=omega)[go_sem,h1,h2,h3,aG];refine⟨j-1,aa,_,aB.mk (N:=P) ai ?_ ai,(hI _ _).2 ⟨k+1,P,aa, ?_,rfl⟩⟩
         . simp(disch:=omega)[go_sem,cB]
         . rw[YN,YN,af,hx,hy,h1,h2,h3]
       . have aj:R=false:=by
          rw[hR,decide_eq_false_iff_not];intro ad;subst ad;rw[hx]at hy;simp only[WZ,afj]at hy;exact he hy
         have az:(!decide (x1=y1)||(!decide (x2=y2)|| !decide (x3=y3)))=true:=by
          by_cases q1:x1=y1
          . by_cases q2:x2=y2
            . by_cases q3:x3=y3
              . exact absurd ⟨q1,q2,q3⟩ he
              . simp[q3]
            . simp[q2]
          . simp[q1]
         rw[az];simp(disch:=omega)[go_sem,aj]
     . have ab:¬(k:Int)<b.length:=aa;have ad:R=true:=by
        rw[hR,decide_eq_true_iff];have h1:a.take k=a:=afc aa;have h2:b.take k=b:=afc aa;rw[<-h1,<-h2];exact af
       simp(disch:=omega)[go_sem,ab,ad]
 . have aj:R=false:=by
    rw[hR,decide_eq_false_iff_not];intro ad;subst ad;exact hlen rfl
   have e1:¬(a.length:Int)=b.length:=aa;simp(disch:=omega)[go_sem,hlen,e1,aj]
def abC(x y:Br)(h:my x=my y):x=y:=by
 obtain⟨a,b,c⟩:=x;obtain⟨a',b',c'⟩:=y;simp only[my,afj]at h;obtain⟨h1,h2,h3⟩:=h;simp only[afj];omega
def abD{a b:Nat}(ha:a<256)(hb:b<256)(h:aO a=aO b):a=b:=by
 have h1:=uD ha;have h2:=uD hb;have e1:(eL (rv a)).2.2=(eL (rv b)).2.2:=by
  have:(eL (rv a)).2.2.map my=(eL (rv b)).2.2.map my:=by rw[h1.2.1,h2.2.1,h]
  exact List.map_inj_right (λx y h=>abC x y h)|>.1 this
 have e2:(eL (rv a)).1=(eL (rv b)).1:=by
  have:((eL (rv a)).1:Int)=(eL (rv b)).1:=by rw[h1.2.2,h2.2.2,h]
  omega
 have key:∀i,i<8->a.testBit i=b.testBit i:=λi hi=>by
  have h3:=yT ha (bX i);have h4:=yT hb (bX i);rw[e1,e2,h4]at h3;have ao:idx (bX i)=i:=by
   have:i=0\/i=1\/i=2\/i=3\/i=4\/i=5\/i=6\/i=7:=aa;rcases this with rfl|rfl|rfl|rfl|rfl|rfl|rfl|rfl<;>rfl
  rw[ao]at h3;exact h3.symm
 refine Nat.eq_of_testBit_eq λi=> ?_;by_cases hi:i<8
 . exact key i hi
 . have p:256<=2^i:=afm (n:=2) aa (show 8<=i by omega);rw[afD aa,afD aa]
def IY(a b:Nat)(ha:a<256)(hb:b<256):ay E true 139 [.agg (aO a).e,.agg (aO b).e] (bV (decide (a=b))):=by
 have hl:=yA a ha;have h1:=abB (aO a).nodes (aO b).nodes aa;have ad:decide (a=b)=(decide ((aO a).root=(aO b).root)&&decide ((aO a).nodes=(aO b).nodes)):=by
  rw[Bool.eq_iff_iff];simp only[decide_eq_true_iff,afk];refine⟨λh=>by subst h;exact⟨rfl,rfl⟩,λ⟨h1,h2⟩=>abD ha hb ?_⟩;cases h3:aO a with
  |mk n r=>cases h4:aO b with
   |mk n' r'=>rw[h3,h4]at h1 h2;simp only at h1 h2;rw[h1,h2]
 rw[ad];generalize aO a=A at*;generalize aO b=B at*;refine aV Tryz.ntmps139 Tryz.results139 λN=> ?_;by_cases hr:A.root=B.root
 . simp(disch:=omega)[go_sem,Dg.e,hr];refine au.mk h1 λM=>aR λhM=> ?_;simp(disch:=omega)[go_sem,hr]
 . simp(disch:=omega)[go_sem,Dg.e,hr]
def C9(l:List (Int×Nat))(k i:Int)(c:Nat):cQ (put l k c) i=if i=k then c else cQ l i:=by
 unfold cQ;rw[mO]
 split<;>rfl
def mu(n:Nat)(l:List (Int×Nat)):Nat:=((yx n).map λ(i:Nat)=>255-cQ l (i:Int)).sum
def IZ(l:List Nat)(f g:Nat->Nat)(h:∀i∈l,f i<=g i):(l.map f).sum<=(l.map g).sum:=by
 induction l with
 |nil=>simp
 |cons x l ih=>
  simp only[Xt,List.sum_cons];have:=h x aw;have:=ih λi hi=>h i (by simp[hi]);omega
def abE(l:List Nat)(f g:Nat->Nat)(h:∀i∈l,f i<=g i)(k:Nat)(hk:k∈l)(ai:f k<g k):(l.map f).sum<(l.map g).sum:=by
 induction l with
 |nil=>cases hk
 |cons x l ih=>
  simp only[Xt,List.sum_cons];have h1:=h x aw;have h2:=IZ l f g λi hi=>h i (by simp[hi]);rcases afd.1 hk with rfl|hk
  . omega
  . have:=ih (λi hi=>h i (by simp[hi])) hk;omega
def I4{n:Nat}{l:List (Int×Nat)}{k:Int}{c:Nat}(h0:0<=k)(h1:k<n)(hc:c<256)(ai:cQ l k<c):mu n (put l k c)<mu n l:=by
 refine abE _ _ _ (λi hi=> ?_) k.toNat (by simp;omega) ?_
 . rw[C9]
   split
   . rename_i h;rw[<-h]at ai;omega
   . exact UR _
 . rw[C9,if_pos aa,show((k.toNat:Nat):Int)=k from afh h0];omega
def jD{κ:Type}[DecidableEq κ](l:List (κ×Nat)):Prop:=∀k c,bq l k=some c->c<256
def jD.put{κ:Type}[DecidableEq κ]{l:List (κ×Nat)}(h:jD l){k:κ}{c:Nat}(hc:c<256):jD (Go.aD.put l k c):=λi d hd=>by
 rw[mO]at hd
 split at hd
 . cases hd;exact hc
 . exact h i d hd
def wD{a b:Nat}(ha:a<256)(hb:b<256):a|||b<256:=afB (n:=8) ha hb
set_option maxHeartbeats 2000000 in
def abF{K:b9}{dd:List FuncId}{h:ah}{M B2 C:Nat}{es:List bG}{clock:Nat}{l:List (Int×Nat)}{k:Int}{d:Nat}{ch:Bool}(hB:h.get B2=some (.row [.v (.map (some M))] true 0))(hC:h.get C=some (.row [bV ch] true 0))(hM:h.get M=some (.map es clock))
 (l1:M<h.next) (l2:B2<h.next) (l3:C<h.next) (n1:M≠B2) (n2:M≠C) (n3:B2≠C) (hl:jb es l) (ai:jD l) (hd:d<256)
 (hk:∀h' T aj ab l' an,jb aj l'->((l'=l/\an=ch)\/(d≠0/\l'=put l k (cQ l k|||d)/\cQ l k|||d≠cQ l k/\an=true))->h.next<=h'.next->h'.get M=some (.map aj ab)->h'.get C=some (.row [bV an] true 0)->(∀i,i<h.next->i≠M->i≠C->h'.get i=h.get i)->K (.bf []) dd h' T):
 au E true K dd h (241,[iV k,.agg (aO d).e,.v (.pointer (some ⟨B2,0,none⟩)),.v (.pointer (some ⟨C,0,none⟩))]):=by
 have n4:=n1.symm;have n5:=n2.symm;have n6:=n3.symm;have az:=yU hd;have ao:=uF ai k;have aA:=C4 (cQ l k) d ao hd;have ae:=qJ (ar:=true) (aO (cQ l k|||d));have af:=IY (cQ l k) (cQ l k|||d) ao (wD ao hd);obtain⟨N,hN⟩:∃N,h.next=N:=⟨_,rfl⟩;rw[hN]at l1 l2 l3 hk;refine fw Tryz.ntmps241 Tryz.results241 ?_;simp only[Dg.e]at aA ae af;by_cases hz:d=0
 . have ad:=az.2 hz;simp(disch:=omega)[go_sem,Dg.e,ad];intro T;refine hk _ T es clock l ch hl (.inl ⟨rfl,rfl⟩) ?_ ?_ ?_ λi hi q1 q2=> ?_
   . simp[go_sem,hN]
   . simp(disch:=omega)[go_sem,hN,hM]
   . simp(disch:=omega)[go_sem,hN,hC]
   . simp(disch:=omega)[go_sem,hN]
 . have ad:¬(aO d).root=0:=λh=>hz (az.1 h);simp(disch:=omega)[go_sem,Dg.e,ad,hB,hN];refine wC (es:=es) (clock:=clock) (l:=l) (by simp(disch:=omega)[go_sem,hN,hM]) (by simp(disch:=omega)[go_sem,hN];try omega) hl λP hP=> ?_;simp(disch:=omega)[go_sem,hN]at hP;simp(disch:=omega)[go_sem,Dg.e,hN];refine au.mk aA λP2=>cY λaG=> ?_;refine au.mk ae λP3 aC=> ?_;replace aC:=cr aC;refine aL ?_;refine au.mk af λP4 aE=> ?_;replace aE:=cr aE;by_cases he:cQ l k=cQ l k|||d
   . have av:decide (cQ l k=cQ l k|||d)=true:=decide_eq_true he;simp(disch:=omega)[go_sem,av];intro T;refine hk _ T es clock l ch hl (.inl ⟨rfl,rfl⟩) ?_ ?_ ?_ λi hi q1 q2=> ?_
     . simp[go_sem];omega
     . simp(disch:=omega)[go_sem,hN,hM]
     . simp(disch:=omega)[go_sem,hN,hC]
     . simp(disch:=omega)[go_sem,hN]
   . have av:decide (cQ l k=cQ l k|||d)=false:=decide_eq_false he;obtain⟨aj,ab,h2,h3⟩:=pA j7 sD hl k clock (cQ l k|||d);simp(disch:=omega)[go_sem,av,hB,hN];refine⟨_,sy (es:=es) (clock:=clock) (by simp(disch:=omega)[go_sem,hN,hM]) rfl h2, ?_⟩;simp(disch:=omega)[go_sem,hC,hN];intro T;refine hk _ T aj ab _ true h3 (.inr ⟨hz,rfl,λh=>he h.symm,rfl⟩) ?_ ?_ ?_ λi hi q1 q2=> ?_
     . simp[go_sem];omega
     . simp(disch:=omega)[go_sem,hN]
     . simp(disch:=omega)[go_sem,hN]
     . simp(disch:=omega)[go_sem,hN,q1,q2]
structure An where
 g:aj
 dE:List Nat
def An.e(a:An):List DV:=a.g.e++[.sl 2 (a.dE.map λc=>(aO c).e)]
structure An.Ok(a:An):Prop where
 len:a.dE.length=a.g.aq.length
 lt:∀c∈a.dE,c<256
 aq:a.g.aq.length<=2000
 aI:a.g.aI.length<=2000
 left:∀p∈a.g.aq,0<=p.left/\p.left<a.g.aI.length
 right:∀p∈a.g.aq,p.right.length<=16
def yW(p:aK):Prop:=∀s∈p.right,s.tok=false
def sE(a:An)(NU:Int->Prop):Prop:=∀p∈a.g.aq,yW p->(∀s∈p.right,NU s.idx)->NU p.left
def pF(NU:Int->Prop)(l:List (Int×Nat)):Prop:=∀k,cQ l k≠0->NU k
def Da(l:List (Int×Nat)):∀(syms:List Sym) (c:Nat),fS l c syms≠0->c≠0/\∀s∈syms,s.tok=false->cQ l s.idx≠0
 |[],c,h=>⟨h,λs hs=>by cases hs⟩
 |s::r,c,h=>by
  have h':fS l (if s.tok=true\/c=0 then c else c&&&cQ l s.idx) r≠0:=h;obtain⟨h1,h2⟩:=Da l r _ h';by_cases hs:s.tok=true\/c=0
  . rw[if_pos hs]at h1;refine⟨h1,λx hx ht=> ?_⟩;rcases afd.1 hx with rfl|hx
    . rcases hs with hs|hs
      . rw[hs]at ht;cases ht
      . exact absurd hs h1
    . exact h2 x hx ht
  . rw[if_neg hs]at h1;refine⟨λhc=>hs (.inr hc),λx hx ht=> ?_⟩;rcases afd.1 hx with rfl|hx
    . intro h0;rw[h0]at h1;simp at h1
    . exact h2 x hx ht
def I5{a b:Nat}(h:a|||b≠a):a<a|||b:=Nat.lt_of_le_of_ne Nat.left_le_or (Ne.symm h)
set_option maxHeartbeats 4000000 in
def abG{K:b9}{dd:List FuncId}{h:ah}{Ba Be Bs B2 M C:Nat}{es:List bG}{clock:Nat}{l:List (Int×Nat)}{ch:Bool}(a:An)(ha:a.Ok)(NU:Int->Prop)(bD:sE a NU)
 (o1:Ba<Be) (o2:Be<M) (o3:M<Bs) (o4:Bs<B2) (o5:B2<C) (o6:C<h.next)
 (g1:h.get Ba=some (.row [.ptr a.e 0] true 0)) (g2:h.get Be=some (.row [bV true] true 0)) (g3:h.get M=some (.map es clock)) (g4:h.get Bs=some (.row [.v (.map (some M))] true 0)) (g5:h.get B2=some (.row [.v (.map (some M))] true 0)) (g6:h.get C=some (.row [bV ch] true 0))
 (hl:jb es l) (bE:jD l) (bF:pF NU l)
 (hk:∀h' T bl aH l' aJ,jb bl l'->jD l'->pF NU l'->((l'=l/\aJ=ch)\/(mu a.g.aI.length l'<mu a.g.aI.length l/\aJ=true))->h.next<=h'.next->h'.get M=some (.map bl aH)->h'.get C=some (.row [bV aJ] true 0)->(∀i,i<h.next->i≠M->i≠C->h'.get i=h.get i)->K (.bf []) dd h' T):
 au E true K dd h (192,[.fn 241 [] [.v (.pointer (some ⟨B2,0,none⟩)),.v (.pointer (some ⟨C,0,none⟩))],.v (.pointer (some ⟨Ba,0,none⟩)),.v (.pointer (some ⟨Be,0,none⟩)),.v (.pointer (some ⟨Bs,0,none⟩))]):=by
 refine cJ.frame [Ba,Be,M,Bs,B2,C] (by simp;omega) ?_;obtain⟨N,hN⟩:∃N,h.next=N:=⟨_,rfl⟩;refine fw (K:=λv _ bm _=>∀af:ah,af.next=bm.next->(∀i,(i∈[Ba,Be,M,Bs,B2,C]\/h.next<=i)->af.get i=bm.get i)->(∀i,i<h.next->i∉[Ba,Be,M,Bs,B2,C]->af.get i=h.get i)->K v dd af [Ba,Be,M,Bs,B2,C]) (dd:=dd) Tryz.ntmps192 Tryz.results192 ?_;simp only[eS,g1,g2,g3,g4,g5,g6];rw[hN]at o6⊢;have bS:=ha.aq;simp(disch:=omega)[go_sem,An.e,aj.e];obtain⟨aV,aP⟩:∃aV,aV=DV.fn 241 [] [.v (.pointer (some ⟨B2,0,none⟩)),.v (.pointer (some ⟨C,0,none⟩))]:=⟨_,rfl⟩;rw[<-aP];obtain⟨I,hI⟩:∃I:Nat->DS->Prop,∀j d,I j d↔∃(k P:Nat) (es:List bG) (clock:Nat) (l':List (Int×Nat)) (aJ:Bool),j+k=a.g.aq.length/\N<=P/\jb es l'/\jD l'/\pF NU l'/\((l'=l/\aJ=ch)\/(mu a.g.aI.length l'<mu a.g.aI.length l/\aJ=true))/\
  d=⟨bw [(0,aV),(1,.v (.pointer (some ⟨Ba,0,none⟩))),(2,.v (.pointer (some ⟨Be,0,none⟩))),(3,.v (.pointer (some ⟨Bs,0,none⟩))),(13,.sl 13 (a.g.aq.map aK.e)),(14,iV a.g.aq.length),(15,iV k)],49,[],cA P [(Ba,.row [.ptr a.e 0] true 0),(Be,.row [bV true] true 0),(M,.map es clock),(Bs,.row [.v (.map (some M))] true 0),(B2,.row [.v (.map (some M))] true 0),(C,.row [bV aJ] true 0)]⟩:=⟨_,λ_ _=>Ey⟩
 refine bM I a.g.aq.length ⟨_,aB.mk (N:=N) ai ai ?_,(hI _ _).2 ⟨0,N,es,clock,l,ch,rfl,UR _,hl,bE,bF,.inl ⟨rfl,rfl⟩,rfl⟩⟩ ?_
 . simp(disch:=omega)[go_sem,An.e,aj.e]
 . intro j ds bn;obtain⟨k,P,aR,ab,l1,aW,hj,hP,aX,ad,ao,az,rfl⟩:=(hI _ _).1 bn;clear bn;by_cases bo:k<a.g.aq.length
   . have aL:(k:Int)<a.g.aq.length:=aa;obtain⟨p,hx⟩:∃p,a.g.aq[k]? =some p:=⟨_,oY bo⟩;have aY:=Q0 hx;obtain⟨c,hc⟩:∃c,a.dE[k]? =some c:=⟨_,oY (by rw[ha.len];exact bo)⟩;have bq:=ha.lt c (Q0 hc);have aE:=ha.left p aY;have bT:=ha.right p aY;simp(disch:=omega)[go_sem,aL,hx,-getElem?_pos,aK.e];obtain⟨J,hJ⟩:∃J:Nat->DS->Prop,∀j d,J j d↔∃(m P2:Nat),j+m=p.right.length/\P<P2/\(∀i s,i<m->p.right[i]? =some s->s.tok=false)/\
      d=⟨bw [(0,aV),(1,.v (.pointer (some ⟨Ba,0,none⟩))),(2,.v (.pointer (some ⟨Be,0,none⟩))),(3,.v (.pointer (some ⟨Bs,0,none⟩))),(13,.sl 13 (a.g.aq.map aK.e)),(14,iV a.g.aq.length),(15,iV k),(5,iV k),(6,.v (.pointer (some ⟨P,0,none⟩))),(21,.sl 2 (p.right.map Sym.e)),(22,iV p.right.length),(23,iV m)],49,[],cA P2 [(Ba,.row [.ptr a.e 0] true 0),(Be,.row [bV true] true 0),(M,.map aR ab),(Bs,.row [.v (.map (some M))] true 0),(B2,.row [.v (.map (some M))] true 0),(C,.row [bV aW] true 0),(P,.row p.e true 0)]⟩:=⟨_,λ_ _=>Ey⟩
     refine bM J p.right.length ⟨_,aB.mk (N:=P+1) ai ?_ ?_,(hJ _ _).2 ⟨0,P+1,rfl,aa,λi s hi=>aa,rfl⟩⟩ ?_
     . simp(disch:=omega)[go_sem,aK.e]
     . simp(disch:=omega)[go_sem,aK.e]
     . intro j2 bW bs;obtain⟨m,P2,bX,bY,bt,rfl⟩:=(hJ _ _).1 bs;clear bs;by_cases bI:m<p.right.length
       . have aA:(m:Int)<p.right.length:=aa;obtain⟨s,hs⟩:∃s,p.right[m]? =some s:=⟨_,oY bI⟩;cases ht:s.tok with
         |true=>
          simp(disch:=omega)[go_sem,aA,hs,-getElem?_pos,Sym.e,ht,aG];exact⟨j-1,aa,_,aB.mk (N:=P2+1) ai ai ai,(hI _ _).2 ⟨k+1,P2+1,aR,ab,l1,aW,aa,aa,aX,ad,ao,az,rfl⟩⟩
         |false=>
          simp(disch:=omega)[go_sem,aA,hs,-getElem?_pos,Sym.e,ht,aG];refine⟨j2-1,aa,_,aB.mk (N:=P2+1) ai ?_ ai,(hJ _ _).2 ⟨m+1,P2+1,aa,aa,λi s' hi aZ=> ?_,rfl⟩⟩
          . simp(disch:=omega)[go_sem,Sym.e]
          . rcases afq i m with h1|h1
            . exact bt i s' h1 aZ
            . have:i=m:=aa;subst this;rw[hs]at aZ;cases aZ;exact ht
       . have aA:¬(m:Int)<p.right.length:=aa;have bu:yW p:=λs hs=>by
          obtain⟨i,hi⟩:=aft hs;exact bt i s (by have:=(HT.1 hi).1;omega) hi
         simp(disch:=omega)[go_sem,aA];refine bH [ae 0,jW 0,dq 2,aC 0,ae 8,ae 24,aC 56,ae 0,ae 248,aC 504,ae 0,aC 1024,aC 0,aT 8184,aT 16383] an 0 rfl ?_;simp(disch:=omega)[go_sem,aK.e,An.e,aj.e,hc,-getElem?_pos,Dg.e];refine⟨aa, ?_⟩;refine aby (es:=aR) (clock:=ab) (l:=l1) ai (by simp(disch:=omega)[go_sem];try omega) aX ad bq aa λN2 bz=> ?_;replace bz:=cr bz;subst aP;simp(disch:=omega)[go_sem,Dg.e];refine⟨aa, ?_⟩;have ba:=yV l1 p.right c bq;refine abF (M:=M) (B2:=B2) (C:=C) (es:=aR) (clock:=ab) (l:=l1) (k:=p.left) (d:=fS l1 c p.right) (ch:=aW) ai ai ai (by simp(disch:=omega)[go_sem];try omega) (by simp(disch:=omega)[go_sem];try omega) (by simp(disch:=omega)[go_sem];try omega) aa aa aa aX ad ba λh2 T bJ aM l2 bb bL av bN bO bR aS=> ?_;simp(disch:=omega)[go_sem]at bN aS;have bc:pF NU l2:=by
          rcases av with⟨rfl,_⟩|⟨bd,rfl,_,_⟩
          . exact ao
          . intro i hi;rw[C9]at hi
            split at hi
            . rename_i he;subst he;exact bD p aY bu λs hs=>ao _ ((Da l1 p.right c bd).2 s hs (bu s hs))
            . exact ao i hi
         have bg:jD l2:=by
          rcases av with⟨rfl,_⟩|⟨bd,rfl,_,_⟩
          . exact ad
          . exact ad.put (wD (uF ad _) ba)
         have bk:(l2=l/\bb=ch)\/(mu a.g.aI.length l2<mu a.g.aI.length l/\bb=true):=by
          rcases av with⟨rfl,rfl⟩|⟨bd,rfl,bB,rfl⟩
          . exact az
          . have:=I4 (l:=l1) aE.1 aE.2 (wD (uF ad p.left) ba) (I5 bB);refine .inr ⟨?_,rfl⟩;rcases az with⟨rfl,_⟩|⟨h3,_⟩
            . exact this
            . omega
         simp(disch:=omega)[go_sem,aG];refine⟨j-1,aa,_,aB.mk (N:=h2.next) rfl ai ?_,(hI _ _).2 ⟨k+1,h2.next,bJ,aM,l2,bb,aa,aa,bL,bg,bc,bk,rfl⟩⟩
         . simp(disch:=omega)[go_sem,bO,bR,aS,An.e,aj.e,Dg.e]
   . have aL:¬(k:Int)<a.g.aq.length:=aa;simp(disch:=omega)[go_sem,aL];intro af q1 q2 q3;refine hk af _ aR ab l1 aW aX ad ao az aa ?_ ?_ λi hi i1 i2=> ?_
     . have:=q2 M (.inl aw);simpa(disch:=omega)[go_sem]using this
     . have:=q2 C (.inl aw);simpa(disch:=omega)[go_sem]using this
     . by_cases z1:i=Ba
       . subst z1;have:=q2 i (.inl aw);rw[g1];simpa using this
       . by_cases z2:i=Be
         . subst z2;have:=q2 i (.inl aw);rw[g2];simpa(disch:=omega)[go_sem]using this
         . by_cases z3:i=Bs
           . subst z3;have:=q2 i (.inl aw);rw[g4];simpa(disch:=omega)[go_sem]using this
           . by_cases z4:i=B2
             . subst z4;have:=q2 i (.inl aw);rw[g5];simpa(disch:=omega)[go_sem]using this
             . exact q3 i aa z1 z2 i1 z3 z4 i2
set_option maxHeartbeats 4000000 in
def abH{K:b9}{dd:List FuncId}{h:ah}{Ba Be Bs M:Nat}{es:List bG}{clock:Nat}{l:List (Int×Nat)}(a:An)(ha:a.Ok)(NU:Int->Prop)(aH:sE a NU)
 (o1:Ba<Be) (o2:Be<M) (o3:M<Bs) (o4:Bs<h.next)
 (g1:h.get Ba=some (.row [.ptr a.e 0] true 0)) (g2:h.get Be=some (.row [bV true] true 0)) (g3:h.get M=some (.map es clock)) (g4:h.get Bs=some (.row [.v (.map (some M))] true 0))
 (hl:jb es l) (aY:jD l) (aZ:pF NU l)
 (hk:∀h' T aP an l',jb aP l'->jD l'->pF NU l'->h.next<=h'.next->h'.get M=some (.map aP an)->(∀i,i<h.next->i≠M->h'.get i=h.get i)->K (.bf []) dd h' T):
 au E true K dd h (191,[.v (.map (some M)),.fn 192 [] [.v (.pointer (some ⟨Ba,0,none⟩)),.v (.pointer (some ⟨Be,0,none⟩)),.v (.pointer (some ⟨Bs,0,none⟩))]]):=by
 refine cJ.frame [Ba,Be,M,Bs] (by simp;omega) ?_;obtain⟨N,hN⟩:∃N,h.next=N:=⟨_,rfl⟩;refine fw (K:=λv _ aR _=>∀ad:ah,ad.next=aR.next->(∀i,(i∈[Ba,Be,M,Bs]\/h.next<=i)->ad.get i=aR.get i)->(∀i,i<h.next->i∉[Ba,Be,M,Bs]->ad.get i=h.get i)->K v dd ad [Ba,Be,M,Bs]) (dd:=dd) Tryz.ntmps191 Tryz.results191 ?_;simp only[eS,g1,g2,g3,g4];rw[hN]at o4⊢;refine aL ?_;obtain⟨aJ,az⟩:∃aJ,aJ=DV.fn 192 [] [.v (.pointer (some ⟨Ba,0,none⟩)),.v (.pointer (some ⟨Be,0,none⟩)),.v (.pointer (some ⟨Bs,0,none⟩))]:=⟨_,rfl⟩;rw[<-az];obtain⟨I,hI⟩:∃I:Nat->DS->Prop,∀j d,I j d↔∃(P C:Nat) (es:List bG) (clock:Nat) (l':List (Int×Nat)) (ch:Bool),j=2*mu a.g.aI.length l'+(if ch then 1 else 0)/\N<C/\C<P/\jb es l'/\jD l'/\pF NU l'/\
  d=⟨bw [(1,aJ),(2,.v (.pointer (some ⟨N,0,none⟩))),(4,.v (.pointer (some ⟨C,0,none⟩)))],10,[],cA P [(Ba,.row [.ptr a.e 0] true 0),(Be,.row [bV true] true 0),(M,.map es clock),(Bs,.row [.v (.map (some M))] true 0),(N,.row [.v (.map (some M))] true 0),(C,.row [bV ch] true 0)]⟩:=⟨_,λ_ _=>Ey⟩
 refine bM I (2*mu a.g.aI.length l+1) ⟨_,aB.mk (N:=N+2) ai ai ?_,(hI _ _).2 ⟨N+2,N+1,es,clock,l,true,rfl,aa,aa,hl,aY,aZ,rfl⟩⟩ ?_
 . simp(disch:=omega)[go_sem,An.e,aj.e]
 . intro j ds aS;obtain⟨P,C,aT,af,l1,ch,hj,hC,hP,aV,aA,aC,rfl⟩:=(hI _ _).1 aS;clear aS;cases ch with
   |false=>
    refine aL ?_;intro ad q1 q2 q3;refine hk ad _ aT af l1 aV aA aC aa ?_ λi hi i1=> ?_
    . have:=q2 M (.inl aw);simpa(disch:=omega)[go_sem]using this
    . by_cases z1:i=Ba
      . subst z1;have:=q2 i (.inl aw);rw[g1];simpa using this
      . by_cases z2:i=Be
        . subst z2;have:=q2 i (.inl aw);rw[g2];simpa(disch:=omega)[go_sem]using this
        . by_cases z3:i=Bs
          . subst z3;have:=q2 i (.inl aw);rw[g4];simpa(disch:=omega)[go_sem]using this
          . exact q3 i aa z1 z2 i1 z3
   |true=>
    simp only[if_true]at hj;subst az;refine aL ?_;refine abG (Ba:=Ba) (Be:=Be) (Bs:=Bs) (B2:=N) (M:=M) (C:=C) (es:=aT) (clock:=af) (l:=l1) (ch:=false) a ha NU aH o1 o2 o3 aa hC (by simp(disch:=omega)[go_sem];try omega) ai ai ai ai ai ai aV aA aC λh2 T aK ab l2 aW aM ao av aE aO aG aX ae=> ?_;simp(disch:=omega)[go_sem]at aO ae;simp(disch:=omega)[go_sem,aX];refine⟨2*mu a.g.aI.length l2+(if aW then 1 else 0), ?_,_,aB.mk (N:=h2.next+1) ai ai ?_,(hI _ _).2 ⟨h2.next+1,h2.next,aK,ab,l2,aW,rfl,aa,aa,aM,ao,av,rfl⟩⟩
    . rcases aE with⟨rfl,rfl⟩|⟨h3,rfl⟩
      . simp;omega
      . simp;omega
    . simp(disch:=omega)[go_sem,aG,aX,ae]
def abI(NU:Int->Prop):pF NU []:=λk h=>absurd rfl h
def I6{κ:Type}[DecidableEq κ]:jD ([]:List (κ×Nat)):=λk c h=>by cases h
def abJ{K:b9}{dd:List FuncId}{h:ah}(a:An)(ha:a.Ok)(NU:Int->Prop)(aH:sE a NU)
 (hk:∀h' T M es clock l,jb es l->jD l->pF NU l->h.next<=M->M<h'.next->h'.get M=some (.map es clock)->(∀i,i<h.next->h'.get i=h.get i)->K (.v (.map (some M))) dd h' T):
 au E true K dd h (132,[.ptr a.e 0,bV true]):=by
 obtain⟨N,hN⟩:∃N,h.next=N:=⟨_,rfl⟩;refine fw Tryz.ntmps132 Tryz.results132 ?_;simp(disch:=omega)[go_sem,hN];refine abH (Ba:=N) (Be:=N+1) (M:=N+2) (Bs:=N+3) (es:=[]) (clock:=0) (l:=[]) a ha NU aH aa aa aa (by simp(disch:=omega)[go_sem,hN];try omega) (by simp(disch:=omega)[go_sem,hN]) (by simp(disch:=omega)[go_sem,hN]) (by simp(disch:=omega)[go_sem,hN]) (by simp(disch:=omega)[go_sem,hN]) rfl I6 (abI NU) λh2 T aK ab l2 aM ao av aO aG ae=> ?_;simp(disch:=omega)[go_sem,hN]at aO ae;simp(disch:=omega)[go_sem,aG,ae];intro T2;refine hk h2 T2 (N+2) aK ab l2 aM ao av aa aa aG λi hi=> ?_;simp(disch:=omega)[ae,go_sem,hN]
end Go.Sp
end
noncomputable section
open Go Go.aD Go.Proofs
namespace Go.aD
variable {e:Env}
def cJ.any{ar:Bool}{f:FuncId}{args:List DV}{dh:ah}{K:DV->ah->List Nat->Prop}(hc:cJ e true f args dh K):cJ e ar f args dh K:=by
 cases ar with
 |true=>exact hc
 |false=>
  intro G h vs x ha;obtain⟨v,h',h1,h2⟩:=hc G h vs x ha;exact h1.k h2
def au.any{ar:Bool}{K:b9}{dd:List FuncId}{h:ah}{p:FuncId×List DV}(hc:au e true K dd h p):au e ar K dd h p:=cJ.any hc
def lg(es:List bG)(clock:Nat):Prop:=(∀x∈es,x.born<clock)/\(es.map (·.born)).Nodup
theorem lg.nil(clock:Nat):lg [] clock:=⟨λ_ h=>(by cases h),List.nodup_nil⟩
def abK(es:List bG)(i:Nat)(k:Value)(d:DV):(es.modify i λx=>{x with key:=k,val:=d}).map (·.born)=es.map (·.born):=by
 induction es generalizing i with
 |nil=>cases i<;>rfl
 |cons x es ih=>cases i with
  |zero=>rfl
  |succ i=>simp only[List.modify_succ_cons,Xt,ih]
def lg.up{ty:TypeId}{k:Value}{d:DV}{es ad:List bG}{clock ab:Nat}(hb:lg es clock)(hu:ky e ty k d es clock=some (.map ad ab)):lg ad ab:=by
 unfold ky at hu
 split at hu
 . split at hu
   . cases hu
   . split at hu
     . split at hu
       . cases hu
       . split at hu
         . cases hu;rename_i i _ _;have hm:=abK es i k d;refine⟨λx hx=> ?_,by rw[hm];exact hb.2⟩;have:x.born∈es.map (·.born):=by rw[<-hm];exact Rb.2 ⟨x,hx,rfl⟩
           obtain⟨y,hy,ae⟩:=Rb.1 this;rw[<-ae];exact hb.1 y hy
         . cases hu
       . cases hu;refine⟨λx hx=> ?_, ?_⟩
         . rcases List.mem_append.1 hx with hx|hx
           . have:=hb.1 x hx;omega
           . simp only[afE]at hx;subst hx;exact Nat.lt_succ_self _
         . rw[List.map_append,afy];refine⟨hb.2,aw,λa ha b af aj=> ?_⟩;simp only[Xt,List.map_nil,afE]at af;obtain⟨y,hy,ao⟩:=Rb.1 ha;have:=hb.1 y hy;omega
     . cases hu
 . cases hu
end Go.aD
namespace Go.Sp
def abL:E.under 236=some (.array 2 3):=an
def wE:E.under 234=some (.map 236 33):=an
def qK:E.under 238=some (.map 3 100):=an
def Db:E.zero 100=some (.slice none 0 0):=an
def qL(x:Int×Int):Value:=.agg #[.int .i64 x.1,.int .i64 x.2]
def abM(d:Nat)(a b a' b':Int):b8 Tryz.prog (Op.equalIn (d+1+1) 236 (.agg #[.int .i64 a,.int .i64 b]) (.agg #[.int .i64 a',.int .i64 b']))=some (decide (a=a')&&decide (b=b')):=by
 rw[Op.equalIn];by_cases h1:a=a'<;>by_cases h2:b=b'<;>
  simp[h1,h2,lQ,uk _ _ Tryz.underlying236,sx,qF,yB,Ii,eq_int d 3 .i64 _ _ Tryz.underlying3,List.range',afF,afG]
def abN(a b a' b':Int):b8 Tryz.prog (Op.equal 236 (.agg #[.int .i64 a,.int .i64 b]) (.agg #[.int .i64 a',.int .i64 b']))=some (decide (a=a')&&decide (b=b')):=by
 obtain⟨d,hd⟩:=yC;unfold Op.equal;rw[hd];exact abM d a b a' b'
def yX:kq E 236 qL:=by
 refine⟨⟨_,abL,λk=>rfl⟩,λk=>rfl,λk b=>⟨(),an⟩,λa b=> ?_,λk=>by simp[qL,Instr.sameBits]⟩;obtain⟨a1,a2⟩:=a;obtain⟨b1,b2⟩:=b;show b8 Tryz.prog (Op.equal 236 (qL _) (qL _))=_;rw[qL,qL,abN];congr 1;simp only[afj,Bool.decide_and]
abbrev yY(es:List bG)(l:List ((Int×Int)×Nat)):Prop:=fj qL (λc:Nat=>.agg (aO c).e) es l
def abO{ar:Bool}{K:b9}{dd:List FuncId}{h:ah}{r:Nat}{es:List bG}{clock:Nat}{l:List ((Int×Int)×Nat)}{x y:Int}(hm:h.get r=some (.map es clock))(hr:r<h.next)(hl:yY es l)
 (hk:∀N,h.next<=N->K (.agg (aO (cQ l (x,y))).e) dd (h.up N) [r]):au E ar K dd h (136,[.v (.map (some r)),.agg [iV x,iV y]]):=by
 refine uE [r] Tryz.ntmps136 Tryz.results136 ?_;simp only[eS,hm];cases ha:bq l (x,y)with
 |none=>
  have h1:=sv yX wE hl (x,y) true IW rfl ha;have hg:cQ l (x,y)=0:=by simp[cQ,ha]
  rw[hg,IX]at hk;refine aL ?_;refine⟨_,lT (es:=es) (clock:=clock) ai rfl h1, ?_⟩;simp(disch:=omega)[go_sem,fO];refine au.mk (C8 false) λM=>aR λhM=> ?_;simp(disch:=omega)[go_sem,Dg.e]at hk⊢;exact⟨hm.symm,hk M aa⟩
 |some c=>
  have h1:=su yX wE hl (x,y) true ha;have hg:cQ l (x,y)=c:=by simp[cQ,ha]
  rw[hg]at hk;refine aL ?_;refine⟨_,lT (es:=es) (clock:=clock) ai rfl h1, ?_⟩;simp(disch:=omega)[go_sem,Dg.e]at hk⊢;exact⟨hm.symm,hk _ aa⟩
end Go.Sp
end

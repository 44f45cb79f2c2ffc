/- Parts of a proof. -/
import Derived.Test.YtlgccnjcmfighaaGreatDoorK10
import Derived.Test.YtlgccnjcmfighaaGreatDoorK12
import Derived.Test.YtlgccnjcmfighaaGreatDoorK13
import Derived.Test.YtlgccnjcmfighaaGreatDoorK14
import Derived.Test.YtlgccnjcmfighaaGreatDoorK15
import Derived.Test.YtlgccnjcmfighaaGreatDoorK16
open List renaming getElem?_eq_getElem->qG,range->yy,all_eq_true->E2,getElem?_eq_some_iff->FQ,mem_of_getElem?->KE,mem_map->RC,getElem?_map->RK,map_cons->Xy,getElem?_cons_zero->YN,take_add_one->YT,take_of_length_le->ab8,mem_cons->adr,mem_range->afj,mem_flatMap->afv,flatMap_cons->afx,getElem?_of_mem->afI,take_append_drop->afJ,drop_eq_getElem_cons->afK,flatMap_append->afL,append_assoc->afM,nodup_append->afN,foldl_cons->afR,mem_singleton->afT
open Iff renaming rfl->yB
open Nat renaming le_refl->RW,zero_add->Zf,lt_of_lt_of_le->afA,pow_le_pow_right->afB,add_mul->afE,lt_or_ge->afF,ble_eq_true_of_le->afG,lt_of_le_of_lt->afO,and_le_left->afP,or_lt_two_pow->afQ,testBit_lt_two_pow->afS
open Option.some renaming injEq->Vs
open Array renaming ext'->adv
open Int renaming toNat_of_nonneg->afw
open Prod.mk renaming injEq->afy
open Bool renaming and_eq_true->afz
open Option renaming toList_some->afC,map_eq_some_iff->afD
open BitVec renaming ofInt->afH
open Std.Legacy.Range renaming forIn_eq_forIn_range'->afU,size->afV
set_option linter.all false
set_option maxRecDepth 100000
noncomputable section
open Go Go.aD Go.Proofs
namespace Go.Sp
def uni:∀p∈ie,ig p:=Cs 14 20 aC λi hi=>match i,hi with
 |0,_=>Zo
 |1,_=>Zp
 |2,_=>Zq
 |3,_=>Zr
 |4,_=>Zs
 |5,_=>Zt
 |6,_=>Zu
 |7,_=>Zv
 |8,_=>Zw
 |9,_=>Zx
 |10,_=>Zy
 |11,_=>Zz
 |12,_=>ZA
 |13,_=>ZB
 |14,_=>ZC
 |15,_=>ZD
 |16,_=>ZE
 |17,_=>ZF
 |18,_=>ZG
 |19,_=>ZH
 |i+20,h=>absurd h aa
def fit:∀p∈eF,ij p:=Cs 14 20 aC λi hi=>match i,hi with
 |0,_=>ZI
 |1,_=>ZJ
 |2,_=>ZK
 |3,_=>ZL
 |4,_=>ZM
 |5,_=>ZN
 |6,_=>ZO
 |7,_=>ZP
 |8,_=>ZQ
 |9,_=>ZR
 |10,_=>ZS
 |11,_=>ZT
 |12,_=>ZU
 |13,_=>ZV
 |14,_=>ZW
 |15,_=>ZX
 |16,_=>ZY
 |17,_=>ZZ
 |18,_=>Z0
 |19,_=>Z1
 |i+20,h=>absurd h aa
def chk:∀p∈yy 256,ik p:=Cs 13 20 aC λi hi=>match i,hi with
 |0,_=>Z2
 |1,_=>Z3
 |2,_=>Z4
 |3,_=>Z5
 |4,_=>Z6
 |5,_=>Z7
 |6,_=>Z8
 |7,_=>Z9
 |8,_=>aaa
 |9,_=>aab
 |10,_=>aac
 |11,_=>aad
 |12,_=>aae
 |13,_=>aaf
 |14,_=>aag
 |15,_=>aah
 |16,_=>aai
 |17,_=>aaj
 |18,_=>aak
 |19,_=>aal
 |i+20,h=>absurd h aa
def Ct(c:Nat)(hc:c<256):aE E true 77 [.agg (aM c).e] (iV 0):=chk c (afj.2 hc)
def aam(v t:Nat)(hv:v<3)(ht:t∈tv v):aE E true 95 [.agg (aM (xv v)).e,.agg (aM t).e] (.agg (aM (xv v&&&t)).e):=Zm (xv v,t) (afv.2 ⟨v,afj.2 hv,RC.2 ⟨t,ht,rfl⟩⟩)
def aan(v t:Nat)(hv:v<3)(ht:t∈tv v):aE E true 95 [.agg (aM t).e,.agg (aM (255-xv v)).e] (.agg (aM (t&&&(255-xv v))).e):=Zn (t,255-xv v) (afv.2 ⟨v,afj.2 hv,RC.2 ⟨t,ht,rfl⟩⟩)
def univ(v t s:Nat)(hv:v<3)(ht:t∈tv v)(hs:s∈tv v):aE E true 94 [.agg (aM (xv v&&&t)).e,.agg (aM (s&&&(255-xv v))).e] (.agg (aM ((xv v&&&t)|||(s&&&(255-xv v)))).e):=uni (xv v&&&t,s&&&(255-xv v)) (afv.2 ⟨v,afj.2 hv,afv.2 ⟨t,ht,RC.2 ⟨s,hs,rfl⟩⟩⟩)
def aao(v:Nat)(hv:v<3):aE E true 30 [.agg (aM (xv v)).e] (.agg (aM (255-xv v)).e):=Zl (xv v) (by rcases v with _|_|_|v<;>first|decide|omega)
def aap(v t:Nat)(hv:v<3)(ht:t∈tv v):aE E true 96 [.agg (aM t).e,.agg (aM (xv v)).e] (.agg (aM (t&&&(255-xv v))).e):=by
 have h1:=aao v hv;have h2:=aan v t hv ht;generalize aM t=a at*;generalize aM (xv v)=b at*;generalize aM (255-xv v)=c at*;generalize aM (t&&&(255-xv v))=r at*;refine bc Tryz.ntmps96 Tryz.results96 λN=> ?_;simp(disch:=omega)[go_sem,Dg.e];refine bZ [dC 0,aK 0,aU 2,aU 7,aU 15] ak 0 rfl ?_;simp(disch:=omega)[go_sem,Dg.e];refine ax.mk h1 λM=>aT λhM=> ?_;simp(disch:=omega)[go_sem,Dg.e];refine ax.mk h2 λM2=>aT λaz=> ?_;simp(disch:=omega)[go_sem,Dg.e]
def gQ(b:Nat):Nat->Nat->Nat->Nat
 |0,_,k=>if b.testBit k then 255 else 0
 |j+1,v,k=>(xv v&&&gQ b j (v+1) (k+2^v))|||(gQ b j (v+1) k&&&(255-xv v))
def Ip(b j v k:Nat)(hb:b<256)(hv:v<3)(hj:v+1+j<=3)(hk:k<8):gQ b j (v+1) k∈tv v:=by
 have h:((yy 256).all λb=>(yy 3).all λv=>(yy 3).all λj=>(yy 8).all λk=> !Nat.ble (v+1+j) 3||(tv v).contains (gQ b j (v+1) k))=true:=ak;have:=E2.1 (E2.1 (E2.1 (E2.1 h b (by simpa using hb)) v (by simpa using hv)) j (by simp;omega)) k (by simpa using hk);rw[afG hj]at this;simpa using this
def wh:aM 255=aW true/\aM 0=aW false:=⟨rfl,rfl⟩
def Iq(v:Nat)(hv:v<3):aM (xv v)=vr v:=by
 have:v=0\/v=1\/v=2:=aa;rcases this with rfl|rfl|rfl<;>rfl
def hd(l:List Int):Nat:=(l.headD 0).toNat
def aaq{e:Env}{ty:TypeId}{x y:Operand}{n:Int}(h0:0<=n)(h1:n<256):cO e .and ty x y (.int .u8 n) (.int .u8 1)=some (.int .u8 (n%2)):=by
 rw[BL];have h:((yy 256).all λn=>decide (IntKind.u8.wrap ((afH IntKind.u8.bits (n:Int)&&&afH IntKind.u8.bits 1).toNat:Nat)=(n:Int)%2))=true:=ak;have:=E2.1 h n.toNat (by simp;omega);rw[afw h0]at this;rw[of_decide_eq_true this]
def aar(b:Int)(k:Nat)(h0:0<=b)(h1:b<256)(hk:k<8):(b.fdiv (2^k)%2=1↔b.toNat.testBit k=true)/\0<=b.fdiv (2^k)/\b.fdiv (2^k)<256:=by
 have h:((yy 256).all λb=>(yy 8).all λk=>(decide ((b:Int).fdiv (2^k)%2=1)==b.testBit k)&&decide (0<=(b:Int).fdiv (2^k))&&decide ((b:Int).fdiv (2^k)<256))=true:=ak;have:=E2.1 (E2.1 h b.toNat (by simp;omega)) k (by simpa using hk);rw[afw h0]at this;simp only[afz,decide_eq_true_iff]at this;refine⟨?_,this.1.2,this.2⟩;rw[<-eq_of_beq this.1.1,decide_eq_true_iff]
def aas(l:List Int)(hl:∀b∈l,0<=b/\b<256)(n k:Nat)(hk:k<8):aE E true 55 [.sl 1 (l.map λb=>[uV b]),iV n,iV n,iV k] (.agg (aM (gQ (hd l) 0 n k)).e):=by
 have ab:aM (gQ (hd l) 0 n k)=aW ((hd l).testBit k):=by
  simp only[gQ];cases(hd l).testBit k
  . exact wh.2
  . exact wh.1
 rw[ab];have ah:((k:Int)/8)=0:=aa;have an:((k:Int)%8)=k:=aa;have ad:IntKind.u64.wrap (k:Int)=k:=by
  have h:((yy 8).all λk=>decide (IntKind.u64.wrap (k:Int)=k))=true:=ak;simpa using E2.1 h k (by simpa using hk)
 refine bc Tryz.ntmps55 Tryz.results55 λN=> ?_;cases l with
 |nil=>
  simp(disch:=omega)[go_sem,jR,dq,ah,an,aG];refine ax.mk (pF false) λM=>aT λhM=> ?_;simp(disch:=omega)[go_sem,Dg.e,hd]
 |cons b r=>
  have hb:=hl b aw;obtain⟨ae,aH,aI⟩:=aar b k hb.1 hb.2 hk;simp(disch:=first|assumption|omega) [go_sem,jR,dq,ah,an,ad,aG,aaq,ae];refine ax.mk (pF _) λM=>aT λhM=> ?_;simp(disch:=omega)[go_sem,Dg.e,hd,Nat.testBit_eq_decide_div_mod_eq]
def Cu(l:List Int)(hl:∀b∈l,0<=b/\b<256)(n:Nat)(hn:n<=3):∀(j v k:Nat),v+j=n->k<2^v->aE E true 55 [.sl 1 (l.map λb=>[uV b]),iV n,iV v,iV k] (.agg (aM (gQ (hd l) j v k)).e)
 |0,v,k,hj,hk=>by
  have:v=n:=aa;subst this;have:k<8:=afA hk (afB aa hn);exact aas l hl v k this
 |j+1,v,k,hj,hk=>by
  have hv:v<3:=aa;have aC:k+2^v<2^(v+1):=by rw[Nat.pow_succ];omega
  have aF:k<2^(v+1):=aa;have ao:=Cu l hl n hn j (v+1) (k+2^v) aa aC;have aq:=Cu l hl n hn j (v+1) k aa aF;have hb:hd l<256:=by
   cases l with
   |nil=>simp[hd]
   |cons b r=>have:=hl b aw;simp[hd];omega
  have h8:2^(v+1)<=8:=afB (n:=2) aa (show v+1<=3 by omega);have t1:=Ip (hd l) j v (k+2^v) hb hv aa aa;have t0:=Ip (hd l) j v k hb hv aa aa;have hA:=aam v _ hv t1;have hB:=aap v _ hv t0;have hU:=univ v _ _ hv t1 t0;rw[Iq v hv]at hA hB;have ab:aM (gQ (hd l) (j+1) v k)=aM ((xv v&&&gQ (hd l) j (v+1) (k+2^v))|||(gQ (hd l) j (v+1) k&&&(255-xv v))):=rfl;rw[ab];clear ab;generalize aM ((xv v&&&gQ (hd l) j (v+1) (k+2^v))|||(gQ (hd l) j (v+1) k&&&(255-xv v)))=R at*;generalize aM (xv v&&&gQ (hd l) j (v+1) (k+2^v))=A at*;generalize aM (gQ (hd l) j (v+1) k&&&(255-xv v))=B at*;generalize aM (gQ (hd l) j (v+1) (k+2^v))=P at*;generalize aM (gQ (hd l) j (v+1) k)=Q at*;have e1:¬(v:Int)=n:=aa;have e2:¬n=v:=aa;have e3:¬v=n:=aa;have hs:IntKind.i64.wrap (2^v)=2^v:=by
   have:v=0\/v=1\/v=2:=aa;rcases this with rfl|rfl|rfl<;>decide
  have hw:IntKind.u64.wrap (v:Int)=v:=by
   have:v=0\/v=1\/v=2:=aa;rcases this with rfl|rfl|rfl<;>decide
  have af:min v IntKind.i64.bits=v:=by simp[IntKind.bits];omega
  have hp:(0:Int)<2^v/\(2:Int)^v<=4:=by
   have:v=0\/v=1\/v=2:=aa;rcases this with rfl|rfl|rfl<;>decide
  have aJ:k<4:=by
   have:v=0\/v=1\/v=2:=aa;rcases this with rfl|rfl|rfl<;>simp at hk<;>omega
  have hc:((k+2^v:Nat):Int)=(k:Int)+2^v:=aw;have av:((v+1:Nat):Int)=(v:Int)+1:=aw;rw[hc,av]at ao;rw[av]at aq;generalize hq:(2:Int)^v=q at*;refine bc Tryz.ntmps55 Tryz.results55 λN=> ?_;simp(disch:=omega)[go_sem,aG,e1,e2,e3];refine ax.mk (HX v aa aa) λM=>aT λhM=> ?_;simp(disch:=omega)[go_sem,Dg.e];refine bZ [dC 0,ai 0,ai 0,ai 0,ai 8,ai 0,ai 0,aK 64,ai 192,ai 480,aU 1022,aU 2047,ai 0,ai 0,ai 0,ai 16384,ai 0,aU 131071,⟨.read,0,some (0,4),true⟩,aU 524287,aU 1048575,aU 2097151] ak 0 rfl ?_;simp(disch:=omega)[go_sem,aG,hw,af,hq];refine ax.mk ao λM2=>aT λaz=> ?_;simp(disch:=omega)[go_sem,Dg.e];refine ax.mk hA λM3=>aT λaL=> ?_;simp(disch:=omega)[go_sem,Dg.e,aG];refine ax.mk aq λM4=>aT λaN=> ?_;simp(disch:=omega)[go_sem,Dg.e];refine ax.mk hB λM5=>aT λaQ=> ?_;simp(disch:=omega)[go_sem,Dg.e];refine ax.mk hU λM6=>aT λaS=> ?_;simp(disch:=omega)[go_sem,Dg.e]
def bA(l:List Int)(n:Nat):Dg:=aM (gQ (hd l) n 0 0)
def aat(n:Nat)(hn:n<=3):((qx [iV n,.v (.int .i64 6)]).bind λl=>(qi E l).map DV.v)=some (iV n):=by
 have:n=0\/n=1\/n=2\/n=3:=aa;rcases this with rfl|rfl|rfl|rfl<;>rfl
def aau(n:Nat)(hn:n<=3):((qx [.v (.int .i64 0),iV n]).bind λl=>(rR E l).map DV.v)=some (iV n):=by
 have:n=0\/n=1\/n=2\/n=3:=aa;rcases this with rfl|rfl|rfl|rfl<;>rfl
def Ir:Il bA:=by
 intro l n hl hn;have h:=Cu l hl n hn n 0 0 aa aw;have hr:bA l n=aM (gQ (hd l) n 0 0):=rfl;rw[hr];generalize aM (gQ (hd l) n 0 0)=R at*;refine bc Tryz.ntmps25 Tryz.results25 λN=> ?_;simp(disch:=omega)[go_sem,aat n hn,aau n hn];refine ax.mk h λM=>aT λhM=> ?_;simp(disch:=omega)[go_sem,Dg.e]
def aav(v:Int)(n:Nat)(hn:n<=3)(h0:0<=v)(h1:v<n):(∃c,vr v=aM c/\(c,(n:Int))∈eF)/\∃c,ue v=aM c/\(c,(n:Int))∈eF:=by
 have h:((yy 4).all λn=>(yy 3).all λv=> !Nat.blt v n||(eF.contains (xv v,(n:Int))&&eF.contains (255-xv v,(n:Int))))=true:=ak;have h2:=E2.1 (E2.1 h n (by simp;omega)) v.toNat (by simp;omega);have h3:Nat.blt v.toNat n=true:=afG (show v.toNat+1<=n by omega);rw[h3]at h2;simp only[Bool.not_true,Bool.false_or,afz,List.contains_eq_mem,decide_eq_true_eq]at h2;refine⟨⟨_, ?_,h2.1⟩,⟨_, ?_,h2.2⟩⟩
 . rw[Iq _ aa,afw h0]
 . have:v=0\/v=1\/v=2:=aa;rcases this with rfl|rfl|rfl<;>rfl
def Is(b n:Nat)(hb:b<256)(hn:n<=3):(gQ b n 0 0,(n:Int))∈eF:=by
 have h:((yy 256).all λb=>(yy 4).all λn=>eF.contains (gQ b n 0 0,(n:Int)))=true:=ak;simpa using E2.1 (E2.1 h b (by simpa using hb)) n (by simp;omega)
def It(b:Int)(n:Nat)(hb:0<=b)(aX:b<256)(hn:n<=3):∃c,cE bA b n=aM c/\(c,(n:Int))∈eF:=by
 unfold cE
 split
 . refine⟨255,wh.1.symm, ?_⟩;have h:((yy 4).all λn=>eF.contains (255,(n:Int)))=true:=ak;simpa using E2.1 h n (by simp;omega)
 . rename_i h;have aY:0<n:=aa;have h1:b/6%(n:Int)<n:=Int.emod_lt_of_pos _ aa;have h2:0<=b/6%(n:Int):=Int.emod_nonneg _ aa;have hv:=aav (b/6%n) n hn h2 h1
   split
   . exact hv.1
   . split
     . exact hv.2
     . exact⟨_,rfl,Is _ n (by simp[hd];omega) hn⟩
def aaw:Im bA:=by
 intro b n h0 h1 hn;obtain⟨c,h2,h3⟩:=It b n h0 h1 hn;rw[h2];exact fit (c,(n:Int)) h3
def aax(x:cM)(hx:x.Ok):aE E true 12 [.agg x.e] (.agg (cB bA x).e):=Zh Io bA Ir aaw x hx
def sC{n:Nat}{x:List DV}(h:x.length=n+1):fy (some (some (n+1))) x 0=some (.agg x):=by
 simp only[fy,Zf,h,RW,if_true,List.drop_zero];rw[ab8 aa]
def aay{ar:Bool}(xs:List (List DV))(f:FuncId)(c:List DV)(hx:∀x∈xs,x.length=3)(hlen:xs.length<=1000000)(hf:∀x∈xs,aE E ar f (.agg x::c) (bV false)):aE E ar 209 [.sl 3 xs,.fn f [] c] (iV (-1)):=by
 refine bc Tryz.ntmps209 Tryz.results209 λN=> ?_;refine aL ?_;obtain⟨I,hI⟩:∃I:Nat->DS->Prop,∀j d,I j d↔∃(k P:Nat),j+k=xs.length/\d=⟨bw [(0,.sl 3 xs),(1,.fn f [] c),(7,iV xs.length),(8,iV k)],19,[],cj P []⟩:=⟨_,λ_ _=>yB⟩;refine bS I xs.length ⟨_,aB.mk (N:=N) ah ah ah,(hI _ _).2 ⟨0,N,rfl,rfl⟩⟩ ?_
 . intro j ds ad;obtain⟨k,P,hj,rfl⟩:=(hI _ _).1 ad;clear ad;by_cases af:k<xs.length
   . have ab:(k:Int)<xs.length:=aa;obtain⟨x,ae⟩:∃x,xs[k]? =some x:=⟨_,qG af⟩;have hm:=KE ae;have ai:=sC (hx x hm);simp(disch:=omega)[go_sem,ab,ae,-getElem?_pos,ai];refine ax.mk (hf x hm) λP2=>aT λak=> ?_;simp(disch:=omega)[go_sem,aG];exact⟨j-1,aa,_,aB.mk (N:=P2) ah ah ah,(hI _ _).2 ⟨k+1,P2,aa,rfl⟩⟩
   . have ab:¬(k:Int)<xs.length:=aa;simp(disch:=omega)[go_sem,ab]
def hasB{ar:Bool}(xs:List (List DV))(f:FuncId)(c:List DV)(hx:∀x∈xs,x.length=3)(hlen:xs.length<=1000000)(hf:∀x∈xs,aE E ar f (.agg x::c) (bV false)):aE E ar 193 [.sl 3 xs,.fn f [] c] (bV false):=by
 refine bc Tryz.ntmps193 Tryz.results193 λN=> ?_;refine aL ?_;refine ax.mk (aay xs f c hx hlen hf) λM=>aT λhM=> ?_;exact ah
def aaz{ar:Bool}(xs:List (List DV))(f:FuncId)(c:List DV)(hx:∀x∈xs,x.length=13)(hlen:xs.length<=1000000)(hf:∀x∈xs,aE E ar f (.agg x::c) (bV false)):aE E ar 191 [.sl 13 xs,.fn f [] c] (iV (-1)):=by
 refine bc Tryz.ntmps191 Tryz.results191 λN=> ?_;refine aL ?_;obtain⟨I,hI⟩:∃I:Nat->DS->Prop,∀j d,I j d↔∃(k P:Nat),j+k=xs.length/\d=⟨bw [(0,.sl 13 xs),(1,.fn f [] c),(7,iV xs.length),(8,iV k)],19,[],cj P []⟩:=⟨_,λ_ _=>yB⟩;refine bS I xs.length ⟨_,aB.mk (N:=N) ah ah ah,(hI _ _).2 ⟨0,N,rfl,rfl⟩⟩ ?_
 . intro j ds ad;obtain⟨k,P,hj,rfl⟩:=(hI _ _).1 ad;clear ad;by_cases af:k<xs.length
   . have ab:(k:Int)<xs.length:=aa;obtain⟨x,ae⟩:∃x,xs[k]? =some x:=⟨_,qG af⟩;have hm:=KE ae;have ai:=sC (hx x hm);simp(disch:=omega)[go_sem,ab,ae,-getElem?_pos,ai];refine ax.mk (hf x hm) λP2=>aT λak=> ?_;simp(disch:=omega)[go_sem,aG];exact⟨j-1,aa,_,aB.mk (N:=P2) ah ah ah,(hI _ _).2 ⟨k+1,P2,aa,rfl⟩⟩
   . have ab:¬(k:Int)<xs.length:=aa;simp(disch:=omega)[go_sem,ab]
def aaA{ar:Bool}(xs:List (List DV))(f:FuncId)(c:List DV)(hx:∀x∈xs,x.length=13)(hlen:xs.length<=1000000)(hf:∀x∈xs,aE E ar f (.agg x::c) (bV false)):aE E ar 163 [.sl 13 xs,.fn f [] c] (bV false):=by
 refine bc Tryz.ntmps163 Tryz.results163 λN=> ?_;refine aL ?_;refine ax.mk (aaz xs f c hx hlen hf) λM=>aT λhM=> ?_;exact ah
def aaB{ar:Bool}(xs:List (List DV))(f:FuncId)(c:List DV)(hx:∀x∈xs,x.length=2)(hlen:xs.length<=1000000)(hf:∀x∈xs,aE E ar f (.agg x::c) (bV false)):aE E ar 195 [.sl 2 xs,.fn f [] c] (iV (-1)):=by
 refine bc Tryz.ntmps195 Tryz.results195 λN=> ?_;refine aL ?_;obtain⟨I,hI⟩:∃I:Nat->DS->Prop,∀j d,I j d↔∃(k P:Nat),j+k=xs.length/\d=⟨bw [(0,.sl 2 xs),(1,.fn f [] c),(7,iV xs.length),(8,iV k)],19,[],cj P []⟩:=⟨_,λ_ _=>yB⟩;refine bS I xs.length ⟨_,aB.mk (N:=N) ah ah ah,(hI _ _).2 ⟨0,N,rfl,rfl⟩⟩ ?_
 . intro j ds ad;obtain⟨k,P,hj,rfl⟩:=(hI _ _).1 ad;clear ad;by_cases af:k<xs.length
   . have ab:(k:Int)<xs.length:=aa;obtain⟨x,ae⟩:∃x,xs[k]? =some x:=⟨_,qG af⟩;have hm:=KE ae;have ai:=sC (hx x hm);simp(disch:=omega)[go_sem,ab,ae,-getElem?_pos,ai];refine ax.mk (hf x hm) λP2=>aT λak=> ?_;simp(disch:=omega)[go_sem,aG];exact⟨j-1,aa,_,aB.mk (N:=P2) ah ah ah,(hI _ _).2 ⟨k+1,P2,aa,rfl⟩⟩
   . have ab:¬(k:Int)<xs.length:=aa;simp(disch:=omega)[go_sem,ab]
def aaC{ar:Bool}(xs:List (List DV))(f:FuncId)(c:List DV)(hx:∀x∈xs,x.length=2)(hlen:xs.length<=1000000)(hf:∀x∈xs,aE E ar f (.agg x::c) (bV false)):aE E ar 170 [.sl 2 xs,.fn f [] c] (bV false):=by
 refine bc Tryz.ntmps170 Tryz.results170 λN=> ?_;refine aL ?_;refine ax.mk (aaB xs f c hx hlen hf) λM=>aT λhM=> ?_;exact ah
def aaD{ar:Bool}(x:Int×Int×Int)(n:Int)(h:x.1<n):aE E ar 194 [.agg (cL x),.ptr [iV n] 0] (bV false):=by
 refine bc Tryz.ntmps194 Tryz.results194 λN=> ?_;have h2:¬n<=x.1:=aa;simp(disch:=omega)[go_sem,cL,h2]
def yE(c:Nat)(n:Int):Prop:=c<256/\∀x∈(aM c).nodes,x.1<n
def yF(c:Nat)(hc:c<256):(aM c).nodes.length<=20:=by
 have h:((yy 256).all λc=>decide ((aM c).nodes.length<=20))=true:=ak;simpa using E2.1 h c (by simpa using hc)
def wi(c:Nat)(n:Int)(h:yE c n):aE E true 167 [.agg (aM c).e,iV n] (bV true):=by
 have h1:=Ct c h.1;have hl:=yF c h.1;have h2:=hasB (ar:=true) ((aM c).nodes.map cL) 194 [.ptr [iV n] 0] (λx hx=>by obtain⟨y,_,rfl⟩:=RC.1 hx;rfl) (by simp;omega) (λx hx=>by
  obtain⟨y,hy,rfl⟩:=RC.1 hx;exact aaD y n (h.2 y hy))
 generalize aM c=d at*;simp only[Dg.e]at h1⊢;refine bc Tryz.ntmps167 Tryz.results167 λN=> ?_;refine aL ?_;refine ax.mk h1 λM=>dI λhM=> ?_;refine ax.pl h2 (.cons (.refl _) (.cons (.fn rfl (λi v d h1 h2=>by simp at h1) rfl (λi v d h1 h2=> ?_)) .nil)) λM2 ai=> ?_
 . cases i with
   |succ i=>simp at h1
   |zero=>
    simp only[YN,Vs]at h1 h2;subst h1;subst h2;exact .ptr (o:=0) (off:=0) (aj:=0) (ck (wr:=true) (by simp(disch:=omega)[go_sem];try rfl)) aw λi v d h1 h2=>by
     cases i with
     |succ i=>simp at h1
     |zero=>simp only[Zf,YN,Vs]at h1 h2;subst h1;subst h2;exact .refl _
 replace ai:=cq ai;exact ah
def yG{ar:Bool}{K:cD}{dd:List FuncId}{h:ae}(hk:∀es clock h' T,sB es [(⟨#[]⟩,())]->h'.next=h.next+2->h'.get h.next=some (.map es clock)->h'.get (h.next+1)=some (.row [.v (.map (some h.next))] true 0)->(∀i,i≠h.next->i≠h.next+1->h'.get i=h.get i)->
 K (.fn 192 [] [.v (.pointer (some ⟨h.next+1,0,none⟩))]) dd h' T):ax E ar K dd h (165,[]):=by
 refine gR Tryz.ntmps165 Tryz.results165 ?_;obtain⟨af,ab,h2,h3⟩:=pI Cw Cx (vf:=λ_:Unit=>bV true) (es:=[]) (l:=[]) rfl ⟨#[]⟩ 0 ();refine aL ?_;refine⟨((h.new (.map [] 0)).set h.next (some (.map af ab)),h.next),by simp only[jI,exact,ae.dN,if_true];exact congrArg (Option.map _) h2, ?_⟩;refine aL ?_;intro T;refine hk af ab _ T h3 ?_ ah ah λi h1 h2=> ?_
 . simp only[ae.aY,ae.bm]
 . simp(disch:=omega)[go_sem,h1,h2]
def nr(l:List ByteArray):Prop:=l.Nodup/\∀s∈l,s≠⟨#[]⟩
def mz(l:List ByteArray):List (ByteArray×Unit):=(⟨#[]⟩,())::l.map λs=>(s,())
def Iw(l:List ByteArray)(s:ByteArray)(h0:s≠⟨#[]⟩)(h1:s∉l):bj (mz l) s=none:=by
 have:∀l:List ByteArray,s∉l->bj (l.map λs=>(s,())) s=none:=λl=>by
  induction l with
  |nil=>intro _;rfl
  |cons x l ih=>
   intro h;simp only[adr,not_or]at h;simp only[Xy,bj,if_neg h.1];exact ih h.2
 simp only[mz,bj,if_neg h0];exact this l h1
def aaE(l:List ByteArray)(s:ByteArray)(h0:s≠⟨#[]⟩)(h1:s∉l):put (mz l) s ()=mz (l++[s]):=by
 rw[qp (Iw l s h0 h1)];simp[mz]
def nr.at{l:List ByteArray}(h:nr l){k:Nat}{s:ByteArray}(hk:l[k]? =some s):bj (mz (l.take k)) s=none/\put (mz (l.take k)) s ()=mz (l.take (k+1)):=by
 have h0:=h.2 s (KE hk);have h1:s∉l.take k:=λhm=>by
  obtain⟨i,hi⟩:=afI hm;rw[List.getElem?_take]at hi
  split at hi
  . rename_i an;have:=(List.getElem?_inj (FQ.1 hi).1 h.1).1 (hi.trans hk.symm);omega
  . cases hi
 refine⟨Iw _ s h0 h1, ?_⟩;rw[aaE _ s h0 h1,YT,hk];rfl
def aaF(g:aq)(hn:nr g.aP)(h0:0<=g.start)(h1:g.start<g.aP.length)(hl:g.aP.length<=2000):aE E true 121 [.agg g.e] (iV 0):=by
 refine bc Tryz.ntmps121 Tryz.results121 λN=> ?_;simp(disch:=omega)[go_sem,aq.e];refine yG λes clock h' T hs e1 e2 e3 e4=> ?_;simp(disch:=omega)[go_sem]at e1 e2 e3 e4;simp(disch:=omega)[go_sem,e1,e2,e3,e4];obtain⟨I,hI⟩:∃I:Nat->DS->Prop,∀j d,I j d↔∃(k P:Nat) (es:List bH) (clock:Nat),j+k=g.aP.length/\sB es (mz (g.aP.take k))/\N+2<P/\d=⟨bw [(1,.v (.pointer (some ⟨N,0,none⟩))),(3,.fn 192 [] [.v (.pointer (some ⟨N+1+1,0,none⟩))]),(8,strs g.aP),(9,iV g.aP.length),(10,iV k)],30,[],cj P [(N,.row g.e true 0),(N+1,.map es clock),(N+1+1,.row [.v (.map (some (N+1)))] true 0)]⟩:=⟨_,λ_ _=>yB⟩;refine bS I g.aP.length ⟨_,aB.mk (N:=N+3) ?_ ah ?_,(hI _ _).2 ⟨0,N+3,es,clock,rfl,hs,aa,rfl⟩⟩ ?_
 . simp(disch:=omega)[go_sem,e1]
 . simp(disch:=omega)[go_sem,e2,e3,e4,aq.e]
 . intro j ds ao;obtain⟨k,P,es,clock,hj,hs,hP,rfl⟩:=(hI _ _).1 ao;clear ao;by_cases an:k<g.aP.length
   . have ad:(k:Int)<g.aP.length:=aa;obtain⟨s,av⟩:∃s,g.aP[k]? =some s:=⟨_,qG an⟩;obtain⟨ha,hp⟩:=hn.at av;simp(disch:=omega)[go_sem,ad,av,-getElem?_pos];refine yD (b:=N+1+1) (r:=N+1) (wr:=true) (aj:=0) (es:=es) (clock:=clock) ah ah hs ha λaf ab T az=> ?_;rw[hp]at az;simp(disch:=omega)[go_sem,aG];refine⟨j-1,aa,_,aB.mk (N:=P) ah ah ?_,(hI _ _).2 ⟨k+1,P,af,ab,aa,az,hP,rfl⟩⟩
     . simp(disch:=omega)[go_sem,aq.e]
   . have ad:¬(k:Int)<g.aP.length:=aa;have h2:¬g.start<0:=aa;have h3:¬(g.aP.length:Int)<=g.start:=aa;simp(disch:=omega)[go_sem,ad,aq.e,h2,h3]
def Cy:ByteArray:=⟨#[116,114,117,101]⟩
def Cz:ByteArray:=⟨#[102,97,108,115,101]⟩
def Ix(s:ByteArray):Prop:=aE E true 166 [sV s] (bV true)/\s≠Cy/\s≠Cz
structure wj(g:aq):Prop where
 new:nr g.conds
 id:∀s∈g.conds,Ix s
 len:g.conds.length<=64
 cW:∃c,g.family=aM c/\yE c g.conds.length/\g.family.root≠0
def aaG(g:aq)(hg:wj g):aE E true 119 [.agg g.e] (iV 0):=by
 have hn:=hg.new;have hlen:=hg.len;refine bc Tryz.ntmps119 Tryz.results119 λN=> ?_;simp(disch:=omega)[go_sem,aq.e];refine yG λes clock h' T hs e1 e2 e3 e4=> ?_;simp(disch:=omega)[go_sem]at e1 e2 e3 e4;simp(disch:=omega)[go_sem,e1,e2,e3,e4];obtain⟨I,hI⟩:∃I:Nat->DS->Prop,∀j d,I j d↔∃(k P:Nat) (es:List bH) (clock:Nat),j+k=g.conds.length/\sB es (mz (g.conds.take k))/\N+2<P/\d=⟨bw [(1,.v (.pointer (some ⟨N,0,none⟩))),(3,.fn 192 [] [.v (.pointer (some ⟨N+1+1,0,none⟩))]),(8,strs g.conds),(9,iV g.conds.length),(10,iV k)],45,[],cj P [(N,.row g.e true 0),(N+1,.map es clock),(N+1+1,.row [.v (.map (some (N+1)))] true 0)]⟩:=⟨_,λ_ _=>yB⟩;refine bS I g.conds.length ⟨_,aB.mk (N:=N+3) ?_ ah ?_,(hI _ _).2 ⟨0,N+3,es,clock,rfl,hs,aa,rfl⟩⟩ ?_
 . simp(disch:=omega)[go_sem,e1]
 . simp(disch:=omega)[go_sem,e2,e3,e4,aq.e]
 . intro j ds ai;obtain⟨k,P,es,clock,hj,hs,hP,rfl⟩:=(hI _ _).1 ai;clear ai;by_cases an:k<g.conds.length
   . have ab:(k:Int)<g.conds.length:=aa;obtain⟨s,af⟩:∃s,g.conds[k]? =some s:=⟨_,qG an⟩;obtain⟨hi,ht,hf⟩:=hg.id s (KE af);obtain⟨ha,hp⟩:=hn.at af;unfold Cy at ht;unfold Cz at hf;simp(disch:=omega)[go_sem,ab,af,-getElem?_pos];refine ax.mk hi λP2=>aT λao=> ?_;simp(disch:=omega)[go_sem,ht,hf];refine yD (b:=N+1+1) (r:=N+1) (wr:=true) (aj:=0) (es:=es) (clock:=clock) ah ah hs ha λav ad T ak=> ?_;rw[hp]at ak;simp(disch:=omega)[go_sem,aG];refine⟨j-1,aa,_,aB.mk (N:=P2) ah ah ?_,(hI _ _).2 ⟨k+1,P2,av,ad,aa,ak,aa,rfl⟩⟩
     . simp(disch:=omega)[go_sem,aq.e]
   . have ab:¬(k:Int)<g.conds.length:=aa;obtain⟨c,h1,h2,h3⟩:=hg.cW;have ae:=wi c g.conds.length h2;rw[<-h1]at ae;simp only[Dg.e]at ae;simp(disch:=omega)[go_sem,ab,aq.e];refine ax.mk ae λP2=>aT λao=> ?_;simp(disch:=omega)[go_sem,h3]
def CA(a b:Int):(if b>a then b else a)=max a b:=by split<;>omega
def aaH(a b:Int):rR E [.int .i64 a,.int .i64 b]=some (.int .i64 (max a b)):=by
 rw[<-CA];rfl
def aaI(a b c:Int):rR E [.int .i64 a,.int .i64 b,.int .i64 c]=some (.int .i64 (max (max a b) c)):=by
 rw[<-CA,<-CA];rfl
def aaJ(p:aX)(h1:p.right.length<=16)(h2:p.layout.length<=16):aE E true 164 [.agg p.e] (bV false):=by
 have hm:¬(16:Int)<max (p.right.length:Int) (p.layout.length:Int):=aa;refine bc Tryz.ntmps164 Tryz.results164 λN=> ?_;simp(disch:=omega)[go_sem,aX.e,qx,exact,aaH,hm]
structure Iy(g:aq):Prop where
 conds:g.conds.length<=64
 au:g.au.length<=256
 aZ:g.aZ.length<=4096
 aP:g.aP.length<=2000
 ay:g.ay.length<=2000
 bn:g.bn.length<=2000
 right:∀p∈g.ay,p.right.length<=16/\p.layout.length<=16
def aaK(g:aq)(hg:Iy g):aE E true 118 [.agg g.e] (bV false):=by
 obtain⟨h1,h2,h3,h4,h5,h6,h7⟩:=hg;have hm:¬(2000:Int)<max (max (g.aP.length:Int) (g.ay.length:Int)) (g.bn.length:Int):=aa;have aw:¬(2000:Int)<max (g.aP.length:Int) (max (g.ay.length:Int) (g.bn.length:Int)):=aa;have e1:¬(64:Int)<g.conds.length:=aa;have e2:¬(256:Int)<g.au.length:=aa;have e3:¬(4096:Int)<g.aZ.length:=aa;have e4:¬64<g.conds.length:=aa;have e5:¬256<g.au.length:=aa;have e6:¬4096<g.aZ.length:=aa;have hh:=aaA (ar:=true) (g.ay.map aX.e) 164 [] (λx hx=>by obtain⟨y,_,rfl⟩:=RC.1 hx;rfl) (by simp;omega) (λx hx=>by
  obtain⟨y,hy,rfl⟩:=RC.1 hx;exact aaJ y (h7 y hy).1 (h7 y hy).2)
 refine bc Tryz.ntmps118 Tryz.results118 λN=> ?_;simp(disch:=omega)[go_sem,aq.e,qx,exact,aaI,hm,aw,e1,e2,e3,e4,e5,e6];refine ax.mk hh λM=>aT λhM=> ?_;exact ah
def qO(g:aq)(s:Sym):Prop:=match s.tok with
 |false=>0<=s.idx/\s.idx<g.aP.length
 |true=>∃t,0<=s.idx/\g.au[s.idx.toNat]? =some t/\t.cls=0
def aaL(g:aq)(s:Sym)(h:qO g s):aE E true 169 [.agg g.e,.agg s.e] (bV true):=by
 obtain⟨tok,i⟩:=s;refine bc Tryz.ntmps169 Tryz.results169 λN=> ?_;cases tok with
 |false=>
  obtain⟨h0,h1⟩:=h;simp only at h0 h1;simp(disch:=omega)[go_sem,aq.e,Sym.e,h0,h1]
 |true=>
  obtain⟨t,h0,h1,h2⟩:=h;simp only at h0 h1;have hl:i<g.au.length:=by
   have:=(FQ.1 h1).1;omega
  simp(disch:=omega)[go_sem,aq.e,Sym.e,h0,hl,h1,-getElem?_pos,Tok.e,h2]
def Iz(g:aq)(s:Sym)(h:qO g s):aE E true 168 [.agg s.e,.ptr g.e 0] (bV false):=by
 have h1:=aaL g s h;refine bc Tryz.ntmps168 Tryz.results168 λN=> ?_;simp(disch:=omega)[go_sem,aq.e,Sym.e]at h1⊢;refine ax.mk h1 λM=>aT λhM=> ?_;exact ah
def im{S:eQ}{b aj:Nat}{cs:List DV}(h:S b=some (cs,aj)):Fz S (.v (.pointer (some ⟨b,0,none⟩))) (.ptr cs 0):=
 .ptr (o:=0) (off:=0) (aj:=aj) h aa λi v d h1 h2=>by
  rw[Zf,h1]at h2;cases h2;exact .refl _
def CI{S:eQ}{f:FuncId}{a b:DV}(h:Fz S a b):Fz S (.fn f [] [a]) (.fn f [] [b]):=
 .fn rfl (λi v d h1 h2=>by simp at h1) rfl λi v d h1 h2=>by
  cases i with
  |succ i=>simp at h1
  |zero=>simp only[YN,Vs]at h1 h2;subst h1;subst h2;exact h
def yJ(p:aX)(k v lo hi:Int):Prop:=(k=0/\v=0)\/(0<k/\(∃s,p.right[(k-1).toNat]? =some s/\s.tok=true)/\lo<=v/\v<=hi)
def ID(n:Nat)(x:mo):Prop:=1<=x.kind/\x.kind<=4/\0<=x.a/\x.a<n/\0<=x.b/\x.b<n/\(x.kind=1->x.b=0)
structure yK(p:aX):Prop where
 len:p.right.length<=16
 lay:∀x∈p.layout,ID p.right.length x
 qP:p.layout.length<=16
 uj:yJ p p.scope.declares p.scope.kind 1 7
 use:yJ p p.scope.vU p.scope.allowed 0 255
 br:p.bracket=true->p.fh=0/\p.layout=[]/\p.scope=⟨false,0,0,0,0⟩/\∃a b,a.tok=true/\b.tok=true/\p.right=[a,⟨false,p.left⟩,b]
def IE(p:aX)(i:Int)(h0:0<=i)(h1:i<p.right.length):aE E true 196 [iV i,.ptr p.e 0] (bV true):=by
 refine bc Tryz.ntmps196 Tryz.results196 λN=> ?_;simp(disch:=omega)[go_sem,aX.e,h0,h1]
def IF(p:aX)(k v lo hi:Int)(hp:p.right.length<=16)(h:yJ p k v lo hi):aE E true 197 [iV k,iV v,iV lo,iV hi,.ptr p.e 0] (bV true):=by
 refine bc Tryz.ntmps197 Tryz.results197 λN=> ?_;rcases h with⟨rfl,rfl⟩|⟨h1,⟨s,h2,h3⟩,h4,h5⟩
 . simp(disch:=omega)[go_sem,aX.e]
 . have hl:=(FQ.1 h2).1;have an:¬k=0:=aa;have ad:k<=p.right.length:=aa;have ao:1<=k:=aa;have aq:p.right[k.toNat-1]? =some s:=by rw[<-h2];congr 1;omega
   simp(disch:=omega)[go_sem,aX.e,an,h1,ad,ao,aq,-getElem?_pos,Sym.e,h3,h4,h5,aG]
def aa2(p:aX)(hp:yK p):aE E true 171 [.agg p.e] (bV true):=by
 have hlen:=hp.len;have aC:=hp.qP;refine bc Tryz.ntmps171 Tryz.results171 λN=> ?_;simp(disch:=omega)[go_sem,aX.e];obtain⟨I,hI⟩:∃I:Nat->DS->Prop,∀j d,I j d↔∃(k P:Nat),j+k=p.layout.length/\N<P/\d=⟨bw [(1,.v (.pointer (some ⟨N,0,none⟩))),(9,.sl 3 (p.layout.map mo.e)),(10,iV p.layout.length),(11,iV k)],113,[],cj P [(N,.row p.e true 0)]⟩:=⟨_,λ_ _=>yB⟩;refine bS I p.layout.length ⟨_,aB.mk (N:=N+1) ah ah ?_,(hI _ _).2 ⟨0,N+1,rfl,aa,rfl⟩⟩ ?_
 . simp(disch:=omega)[go_sem,aX.e]
 . intro j ds ae;obtain⟨k,P,hj,hP,rfl⟩:=(hI _ _).1 ae;clear ae;by_cases av:k<p.layout.length
   . have ab:(k:Int)<p.layout.length:=aa;obtain⟨x,af⟩:∃x,p.layout[k]? =some x:=⟨_,qG av⟩;obtain⟨c1,c2,c3,c4,c5,c6,c7⟩:=hp.lay x (KE af);have d1:¬x.kind<1:=aa;have d2:¬4<x.kind:=aa;simp(disch:=omega)[go_sem,ab,af,-getElem?_pos,mo.e,d1,d2];refine ax.pl (IE p x.a c3 c4) (.cons (.refl _) (.cons (im (aj:=0) (ck (wr:=true) (by simp(disch:=omega)[go_sem,aX.e]))) .nil)) λM=>dI λhM=> ?_;refine ax.pl (IE p x.b c5 c6) (.cons (.refl _) (.cons (im (aj:=0) (ck (wr:=true) (by simp(disch:=omega)[go_sem,aX.e]))) .nil)) λM2=>aT λaw=> ?_;by_cases ad:x.kind=1
     . have az:=c7 ad;simp(disch:=omega)[go_sem,ad,az,aG];refine⟨j-1,aa,_,aB.mk (N:=M2) ah ah ?_,(hI _ _).2 ⟨k+1,M2,aa,aa,rfl⟩⟩
       . simp(disch:=omega)[go_sem,aX.e]
     . simp(disch:=omega)[go_sem,ad,aG];refine⟨j-1,aa,_,aB.mk (N:=M2) ah ah ?_,(hI _ _).2 ⟨k+1,M2,aa,aa,rfl⟩⟩
       . simp(disch:=omega)[go_sem,aX.e]
   . have ab:¬(k:Int)<p.layout.length:=aa;simp(disch:=omega)[go_sem,ab,aX.e];refine ax.pl (IF p p.scope.declares p.scope.kind 1 7 hlen hp.uj) (.cons (.refl _) (.cons (.refl _) (.cons (.refl _) (.cons (.refl _) (.cons (im (aj:=0) (ck (wr:=true) (by simp(disch:=omega)[go_sem,aX.e]))) .nil))))) λM=>dI λhM=> ?_;refine ax.pl (IF p p.scope.vU p.scope.allowed 0 255 hlen hp.use) (.cons (.refl _) (.cons (.refl _) (.cons (.refl _) (.cons (.refl _) (.cons (im (aj:=0) (ck (wr:=true) (by simp(disch:=omega)[go_sem,aX.e]))) .nil))))) λM2=>aT λaw=> ?_;cases hb:p.bracket with
     |false=>simp(disch:=omega)[go_sem,aX.e,hb]
     |true=>
      obtain⟨b1,b2,b3,a,b,b4,b5,b6⟩:=hp.br hb;simp(disch:=omega)[go_sem,aX.e,hb,b1,b2,b3,b6];refine⟨_,aa1 _ _, ?_⟩;simp(disch:=omega)[go_sem,aX.e,hb,b1,b2,b3,b6];refine bZ [ai 0,aK 1,ai 3,ai 7,aK 15,ai 31,ai 63,aK 127,ai 255,aK 511,ai 63,aK 1087,ai 3135,ai 8191,ai 16383,ai 32767,ai 65535,aK 131071,ai 262143,ai 524287,aK 1048575,ai 2097151,ai 4194303] ak 0 rfl ?_;simp(disch:=omega)[go_sem,aX.e,hb,b1,b2,b3,b6,Sym.e,b4,b5,IC]
def lz(n:Int)(d:Dg):Prop:=∃c,d=aM c/\yE c n
structure uk(g:aq)(p:aX):Prop where
 left:0<=p.left/\p.left<g.aP.length
 right:∀s∈p.right,qO g s
 cond:lz g.conds.length p.cond
 fh:-1<=p.fh/\p.fh<=1
 ar:yK p
structure IG(g:aq):Prop where
 new:nr (g.ay.map (·.name))
 len:g.ay.length<=2000
 ok:∀p∈g.ay,uk g p
def aa3(g:aq)(l:List Sym)(hl:l.length<=16)(h:∀s∈l,qO g s):aE E true 170 [.sl 2 (l.map Sym.e),.fn 168 [] [.ptr g.e 0]] (bV false):=
 aaC _ _ _ (λx hx=>by obtain⟨y,_,rfl⟩:=RC.1 hx;rfl) (by simp;omega) λx hx=>by
  obtain⟨y,hy,rfl⟩:=RC.1 hx;exact Iz g y (h y hy)
set_option maxHeartbeats 2000000 in
def aa4(g:aq)(hg:IG g):aE E true 122 [.agg g.e] (iV 0):=by
 have hn:=hg.new;have hlen:=hg.len;refine bc Tryz.ntmps122 Tryz.results122 λN=> ?_;simp(disch:=omega)[go_sem,aq.e];refine yG λes clock h' T hs e1 e2 e3 e4=> ?_;simp(disch:=omega)[go_sem]at e1 e2 e3 e4;simp(disch:=omega)[go_sem,e1,e2,e3,e4];obtain⟨I,hI⟩:∃I:Nat->DS->Prop,∀j d,I j d↔∃(k P:Nat) (es:List bH) (clock:Nat),j+k=g.ay.length/\sB es (mz ((g.ay.map (·.name)).take k))/\N+2<P/\d=⟨bw [(1,.v (.pointer (some ⟨N,0,none⟩))),(3,.fn 192 [] [.v (.pointer (some ⟨N+1+1,0,none⟩))]),(9,.sl 13 (g.ay.map aX.e)),(10,iV g.ay.length),(11,iV k)],57,[],cj P [(N,.row g.e true 0),(N+1,.map es clock),(N+1+1,.row [.v (.map (some (N+1)))] true 0)]⟩:=⟨_,λ_ _=>yB⟩;refine bS I g.ay.length ⟨_,aB.mk (N:=N+3) ?_ ah ?_,(hI _ _).2 ⟨0,N+3,es,clock,rfl,hs,aa,rfl⟩⟩ ?_
 . simp(disch:=omega)[go_sem,e1]
 . simp(disch:=omega)[go_sem,e2,e3,e4,aq.e]
 . intro j ds an;obtain⟨k,P,es,clock,hj,hs,hP,rfl⟩:=(hI _ _).1 an;clear an;by_cases av:k<g.ay.length
   . have ab:(k:Int)<g.ay.length:=aa;obtain⟨p,ak⟩:∃p,g.ay[k]? =some p:=⟨_,qG av⟩;have ad:=hg.ok p (KE ak);obtain⟨c,aw,az⟩:=ad.cond;have ae:=wi c g.conds.length az;rw[<-aw]at ae;have ai:=aa2 p ad.ar;have aC:(g.ay.map (·.name))[k]? =some p.name:=by rw[RK,ak];rfl
     obtain⟨ha,hp⟩:=hn.at aC;have d1:¬p.fh< -1:=by have:=ad.fh;omega
     have d2:¬1<p.fh:=by have:=ad.fh;omega
     simp only[Dg.e,aX.e]at ae ai;simp(disch:=omega)[go_sem,ab,ak,-getElem?_pos,aX.e];refine ax.pl (Iz g ⟨false,p.left⟩ ad.left) (.cons (.refl _) (.cons (im (aj:=0) (ck (wr:=true) (by simp(disch:=omega)[go_sem,aq.e]))) .nil)) λM=>dI λhM=> ?_;refine ax.pl (aa3 g p.right ad.ar.len ad.right) (.cons (.refl _) (.cons (CI (im (aj:=0) (ck (wr:=true) (by simp(disch:=omega)[go_sem,aq.e])))) .nil)) λM2=>dI λaH=> ?_;refine yD (b:=N+1+1) (r:=N+1) (wr:=true) (aj:=0) (es:=es) (clock:=clock) ah ah hs ha λaF af T ao=> ?_;rw[hp]at ao;simp(disch:=omega)[go_sem,aq.e];refine ax.mk ae λM3=>aT λaI=> ?_;simp(disch:=omega)[go_sem,d1,d2];refine ax.mk ai λM4=>aT λaJ=> ?_;simp(disch:=omega)[go_sem,aG];refine⟨j-1,aa,_,aB.mk (N:=M4) ah ?_ ?_,(hI _ _).2 ⟨k+1,M4,aF,af,aa,ao,aa,rfl⟩⟩
     . simp(disch:=omega)[go_sem,aX.e]
     . simp(disch:=omega)[go_sem,aq.e]
   . have ab:¬(k:Int)<g.ay.length:=aa;simp(disch:=omega)[go_sem,ab,aq.e]
def lU{h:ae}{r:Nat}{es:List bH}{clock:Nat}{ty:TypeId}{ok:Bool}{k:Value}{v dk:DV}(hm:h.get r=some (.map es clock))(hk:exact dk=some k)(h1:lK E ty ok k es=some v):lq E h ty ok (.v (.map (some r))) dk=some v:=by
 simp only[lq,hk,hm,h1]
def sE{h:ae}{r:Nat}{es:List bH}{clock:Nat}{ty:TypeId}{k:Value}{d dk:DV}{o:bF}(hm:h.get r=some (.map es clock))(hk:exact dk=some k)(h1:kM E ty k d es clock=some o):jI E h ty (some (.v (.map (some r)))) (some dk) (some d)=some (h.set r (some o),r):=by
 simp only[jI,hk,hm,h1,Option.map_some]
def sF(i:Int):Value:=.int .i64 i
def kq:kI E 3 sF:=by
 refine⟨⟨_,u3,λk=>rfl⟩,λk=>rfl,λk b=>⟨(),ak⟩,λa b=> ?_,λk=>by simp[sF,Instr.sameBits]⟩;simp only[kB,sF,decide_true,cond_true];rfl
def II:E.under 251=some (.map 3 4):=ak
abbrev IJ(es:List bH)(l:List Int):Prop:=fC sF (λ_:Unit=>bV true) es (l.map λi=>(i,()))
def IK(l:List Int)(i:Int)(h:i∉l):bj (l.map λi=>(i,())) i=none:=by
 induction l with
 |nil=>rfl
 |cons x l ih=>
  simp only[adr,not_or]at h;simp only[Xy,bj,if_neg h.1];exact ih h.2
def aa5(l:List Int)(i:Int)(h:i∉l):put (l.map λi=>(i,())) i ()=(l++[i]).map λi=>(i,()):=by
 rw[qp (IK l i h)];simp
structure um(g:aq)(l:dg):Prop where
 assoc:0<=l.assoc/\l.assoc<=3
 cond:lz g.conds.length l.cond
 ay:∀p∈l.ay,0<=p/\p<g.ay.length
structure IL(g:aq):Prop where
 nd:(g.bn.flatMap (·.ay)).Nodup
 len:g.bn.length<=2000
 lens:∀l∈g.bn,l.ay.length<=100000
 ok:∀l∈g.bn,um g l
def aa6{ls:List dg}(h:(ls.flatMap (·.ay)).Nodup){k m:Nat}{l:dg}{p:Int}(hk:ls[k]? =some l)(hm:l.ay[m]? =some p):p∉(ls.take k).flatMap (·.ay)++l.ay.take m:=by
 have e:ls.flatMap (·.ay)=((ls.take k).flatMap (·.ay)++l.ay.take m)++(l.ay.drop m++(ls.drop (k+1)).flatMap (·.ay)):=by
  have e1:ls=ls.take k++l::ls.drop (k+1):=by
   have aM:=(FQ.1 hk).1;have:=afJ k ls;rw[afK aM]at this;have h2:ls[k]=l:=(FQ.1 hk).2;rw[h2]at this;exact this.symm
  conv=>lhs;rw[e1]
  rw[afL,afx]
  conv=>lhs;rw[<-afJ m l.ay]
  simp only[afM]
 rw[e,afN]at h;intro hp;have hd:p∈l.ay.drop m:=by
  have aN:=(FQ.1 hm).1;rw[afK aN,(FQ.1 hm).2];exact List.mem_cons_self
 exact h.2.2 p hp p (List.mem_append_left _ hd) rfl
set_option maxHeartbeats 2000000 in
def aa7(g:aq)(hg:IL g):aE E true 123 [.agg g.e] (iV 0):=by
 have hlen:=hg.len;refine bc Tryz.ntmps123 Tryz.results123 λN=> ?_;simp(disch:=omega)[go_sem,aq.e];obtain⟨I,hI⟩:∃I:Nat->DS->Prop,∀j d,I j d↔∃(k P:Nat) (es:List bH) (clock:Nat),j+k=g.bn.length/\IJ es ((g.bn.take k).flatMap (·.ay))/\N+1<P/\d=⟨bw [(1,.v (.pointer (some ⟨N,0,none⟩))),(3,.v (.map (some (N+1)))),(10,.sl 4 (g.bn.map dg.e)),(11,iV g.bn.length),(12,iV k)],58,[],cj P [(N,.row g.e true 0),(N+1,.map es clock)]⟩:=⟨_,λ_ _=>yB⟩;refine bS I g.bn.length ⟨_,aB.mk (N:=N+2) ah ah ?_,(hI _ _).2 ⟨0,N+2,[],0,rfl,rfl,aa,rfl⟩⟩ ?_
 . simp(disch:=omega)[go_sem,aq.e]
 . intro j ds aI;obtain⟨k,P,es,clock,hj,hs,hP,rfl⟩:=(hI _ _).1 aI;clear aI;by_cases aQ:k<g.bn.length
   . have af:(k:Int)<g.bn.length:=aa;obtain⟨l,av⟩:∃l,g.bn[k]? =some l:=⟨_,qG aQ⟩;have aJ:=KE av;have aw:=hg.ok l aJ;have aY:=hg.lens l aJ;obtain⟨c,aS,aT⟩:=aw.cond;have ai:=wi c g.conds.length aT;rw[<-aS]at ai;have d1:¬l.assoc<0:=by have:=aw.assoc;omega
     have d2:¬3<l.assoc:=by have:=aw.assoc;omega
     simp only[Dg.e]at ai;simp(disch:=omega)[go_sem,af,av,-getElem?_pos,dg.e,d1,d2,aq.e];refine ax.mk ai λM=>dI λhM=> ?_;obtain⟨J,hJ⟩:∃J:Nat->DS->Prop,∀j d,J j d↔∃(m P:Nat) (es:List bH) (clock:Nat),j+m=l.ay.length/\IJ es ((g.bn.take k).flatMap (·.ay)++l.ay.take m)/\N+1<P/\d=⟨bw [(1,.v (.pointer (some ⟨N,0,none⟩))),(3,.v (.map (some (N+1)))),(10,.sl 4 (g.bn.map dg.e)),(11,iV g.bn.length),(12,iV k),(34,ints l.ay),(35,iV l.ay.length),(36,iV m)],58,[],cj P [(N,.row g.e true 0),(N+1,.map es clock)]⟩:=⟨_,λ_ _=>yB⟩;refine bS J l.ay.length ⟨_,aB.mk (N:=M) ah ?_ ?_,(hJ _ _).2 ⟨0,M,es,clock,rfl,by simpa using hs,aa,rfl⟩⟩ ?_
     . simp(disch:=omega)[go_sem,dg.e]
     . simp(disch:=omega)[go_sem,aq.e]
     . intro j2 ba aK;obtain⟨m,P2,aF,ab,bb,az,aU,rfl⟩:=(hJ _ _).1 aK;clear aK;by_cases aH:m<l.ay.length
       . have ad:(m:Int)<l.ay.length:=aa;obtain⟨p,aC⟩:∃p,l.ay[m]? =some p:=⟨_,qG aH⟩;obtain⟨p0,p1⟩:=aw.ay p (KE aC);have ao:=aa6 hg.nd av aC;have d3:¬p<0:=aa;have d4:¬(g.ay.length:Int)<=p:=aa;have h1:=sA kq II az p false z4 rfl (IK _ p ao);obtain⟨aW,an,h2,h3⟩:=pI kq II az p ab ();rw[aa5 _ p ao]at h3;simp(disch:=omega)[go_sem,ad,aC,-getElem?_pos,d3,d4,aq.e];refine⟨bV false,lU (es:=aF) (clock:=ab) ah rfl h1, ?_⟩;refine aL ?_;refine⟨_,sE (es:=aF) (clock:=ab) ah rfl h2, ?_⟩;simp(disch:=omega)[go_sem,aG];refine⟨j2-1,aa,_,aB.mk (N:=P2) ah ?_ ?_,(hJ _ _).2 ⟨m+1,P2,aW,an,aa, ?_,aU,rfl⟩⟩
         . simp(disch:=omega)[go_sem,dg.e]
         . simp(disch:=omega)[go_sem,aq.e]
         . rw[YT,aC,afC,<-afM];exact h3
       . have ad:¬(m:Int)<l.ay.length:=aa;simp(disch:=omega)[go_sem,ad,aG];refine⟨j-1,aa,_,aB.mk (N:=P2) ah ah ?_,(hI _ _).2 ⟨k+1,P2,aF,ab,aa, ?_,aa,rfl⟩⟩
         . simp(disch:=omega)[go_sem,aq.e]
         . rw[YT,av,afC,afL,afx,List.flatMap_nil,List.append_nil];have aX:l.ay.take m=l.ay:=ab8 aa;rw[aX]at az;exact az
   . have af:¬(k:Int)<g.bn.length:=aa;simp(disch:=omega)[go_sem,af,aq.e]
def CJ(t:Tok)(h:t.cls=0):aE E true 172 [.agg t.e] (bV true):=by
 refine bc Tryz.ntmps172 Tryz.results172 λN=> ?_;simp(disch:=omega)[go_sem,Tok.e,h]
def IM(t:Tok):aE E true 173 [.agg t.e] (bV (!decide (t.lit=⟨#[]⟩))):=by
 refine bc Tryz.ntmps173 Tryz.results173 λN=> ?_;simp(disch:=omega)[go_sem,Tok.e]
structure mB(g:aq)(K:Tok->Prop)(l:List Int):Prop where
 ne:l≠[]
 len:l.length<=1000
 tok:∀n∈l,0<=n/\∃t,g.au[n.toNat]? =some t/\K t
 up:∀(i:Nat) a b,l[i]? =some a->l[i+1]? =some b->a<b
def CK(g:aq)(K:Tok->Prop)(f:FuncId)(hf:∀t,K t->aE E true f [.agg t.e] (bV true))(l:List Int)(h:mB g K l):aE E true 175 [.agg g.e,ints l,.fn f [] []] (bV true):=by
 have hlen:=h.len;have af:0<l.length:=List.length_pos_iff.2 h.ne;refine bc Tryz.ntmps175 Tryz.results175 λN=> ?_;simp(disch:=omega)[go_sem,aq.e];obtain⟨I,hI⟩:∃I:Nat->DS->Prop,∀j d,I j d↔∃(k P:Nat),j+k=l.length/\N<P/\d=⟨bw [(1,ints l),(2,.fn f [] []),(3,.v (.pointer (some ⟨N,0,none⟩))),(9,ints l),(10,iV l.length),(11,iV k)],52,[],cj P [(N,.row g.e true 0)]⟩:=⟨_,λ_ _=>yB⟩;refine bS I l.length ⟨_,aB.mk (N:=N+1) ah ah ?_,(hI _ _).2 ⟨0,N+1,rfl,aa,rfl⟩⟩ ?_
 . simp(disch:=omega)[go_sem,aq.e]
 . intro j ds an;obtain⟨k,P,hj,hP,rfl⟩:=(hI _ _).1 an;clear an;by_cases ao:k<l.length
   . have ab:(k:Int)<l.length:=aa;obtain⟨n,ae⟩:∃n,l[k]? =some n:=⟨_,qG ao⟩;obtain⟨n0,t,ht,hK⟩:=h.tok n (KE ae);have n1:n<g.au.length:=by have:=(FQ.1 ht).1;omega
     have av:=hf t hK;have d1:¬n<0:=aa;have d2:¬(g.au.length:Int)<=n:=aa;have aw:fy (some (some 7)) t.e 0=some (.agg t.e):=sC rfl;cases k with
     |zero=>
      simp(disch:=omega)[go_sem,ao,ab,ae,-getElem?_pos,d1,d2,n0,ht,aq.e,aw];refine ax.mk av λM=>aT λhM=> ?_;simp(disch:=omega)[go_sem,aG];refine⟨j-1,aa,_,aB.mk (N:=M) ah ah ?_,(hI _ _).2 ⟨1,M,aa,aa,rfl⟩⟩
      . simp(disch:=omega)[go_sem,aq.e]
     |succ k=>
      obtain⟨a,az⟩:∃a,l[k]? =some a:=⟨_,qG aa⟩;have aC:=h.up k a n az ae;have d3:¬n<=a:=aa;have d4:((k+1:Nat):Int)-1=k:=aa;have d5:(0:Int)<((k+1:Nat):Int):=aa;simp(disch:=omega)[go_sem,ab,ae,az,-getElem?_pos,d1,d2,d3,d4,d5,n0,ht,aq.e,aw,aG,-Int.natCast_add];refine ax.mk av λM=>aT λhM=> ?_;simp(disch:=omega)[go_sem,aG];refine⟨j-1,aa,_,aB.mk (N:=M) ah ah ?_,(hI _ _).2 ⟨k+1+1,M,aa,aa,rfl⟩⟩
      . simp(disch:=omega)[go_sem,aq.e]
   . have ab:¬(k:Int)<l.length:=aa;have ad:(0:Int)<l.length:=aa;simp(disch:=omega)[go_sem,ab,aq.e,af,ad,h.ne]
structure sG(g:aq)(f:bk):Prop where
 ex:∃p c s,0<=f.parent/\g.ay[f.parent.toNat]? =some p/\0<=f.child/\g.ay[f.child.toNat]? =some c/\0<=f.at_/\p.right[f.at_.toNat]? =some s/\s=⟨false,c.left⟩
def IN(g:aq)(f:bk)(h:sG g f):aE E true 174 [.agg g.e,.agg f.e] (bV true):=by
 obtain⟨p,c,s,p0,hp,c0,hc,a0,hs,rfl⟩:=h.ex;have p1:f.parent<g.ay.length:=by have:=(FQ.1 hp).1;omega
 have c1:f.child<g.ay.length:=by have:=(FQ.1 hc).1;omega
 have a1:f.at_<p.right.length:=by have:=(FQ.1 hs).1;omega
 have d1:¬f.parent<0:=aa;have d2:¬(g.ay.length:Int)<=f.parent:=aa;have d3:¬f.child<0:=aa;have d4:¬(g.ay.length:Int)<=f.child:=aa;refine bc Tryz.ntmps174 Tryz.results174 λN=> ?_;simp(disch:=omega)[go_sem,aq.e,bk.e,d1,d2,d3,d4,p0,hp,-getElem?_pos,aX.e];refine bZ [ai 0,aK 1,ai 3,ai 7,ai 15,aK 31,ai 15,aK 79,ai 255,ai 511,ai 1023,ai 2047,ai 2047,aK 6143,ai 16383,aK 32767,ai 2047,aK 67583,ai 2047,aK 264191,ai 985087,ai 2033663,aK 4130815,ai 8325119,ai 16777215,ai 33554431,ai 67108863] ak 0 rfl ?_;simp(disch:=omega)[go_sem,aq.e,bk.e,a0,a1,hs,c0,hc,-getElem?_pos,aX.e,Sym.e,IC]
def sH(g:aq)(f:bk):Prop:=
 (f.kind=1/\f.left=0/\f.token=0/\f.au=[]/\sG g f)\/(f.kind=2/\f.left=0/\f.token=0/\f.au=[]/\sG g f)\/
 (f.kind=3/\f.parent=0/\f.at_=0/\f.child=0/\f.token=0/\0<=f.left/\f.left<g.aP.length/\mB g (λt=>t.cls=0) f.au)\/
 (f.kind=4/\f.parent=0/\f.at_=0/\f.child=0/\f.token=0/\0<=f.left/\f.left<g.aP.length/\mB g (λt=>t.cls=0) f.au)\/
 (f.kind=5/\f.parent=0/\f.at_=0/\f.child=0/\f.left=0/\0<=f.token/\∃t,g.au[f.token.toNat]? =some t/\t.cls=0/\t.lit=⟨#[]⟩/\mB g (λt=>t.lit≠⟨#[]⟩) f.au)
structure IP(g:aq):Prop where
 len:g.aZ.length<=4096
 ok:∀f∈g.aZ,lz g.conds.length f.cond/\sH g f
set_option maxHeartbeats 4000000 in
def aa8(g:aq)(hg:IP g):aE E true 124 [.agg g.e] (iV 0):=by
 have hlen:=hg.len;refine bc Tryz.ntmps124 Tryz.results124 λN=> ?_;simp(disch:=omega)[go_sem,aq.e];obtain⟨I,hI⟩:∃I:Nat->DS->Prop,∀j d,I j d↔∃(k P:Nat),j+k=g.aZ.length/\N<P/\d=⟨bw [(1,.v (.pointer (some ⟨N,0,none⟩))),(3,.fn 172 [] []),(4,.fn 173 [] []),(10,.sl 9 (g.aZ.map bk.e)),(11,iV g.aZ.length),(12,iV k)],147,[],cj P [(N,.row g.e true 0)]⟩:=⟨_,λ_ _=>yB⟩;refine bS I g.aZ.length ⟨_,aB.mk (N:=N+1) ah ah ?_,(hI _ _).2 ⟨0,N+1,rfl,aa,rfl⟩⟩ ?_
 . simp(disch:=omega)[go_sem,aq.e]
 . intro j ds av;obtain⟨k,P,hj,hP,rfl⟩:=(hI _ _).1 av;clear av;by_cases aC:k<g.aZ.length
   . have af:(k:Int)<g.aZ.length:=aa;obtain⟨x,aw⟩:∃x,g.aZ[k]? =some x:=⟨_,qG aC⟩;obtain⟨⟨c,aF,aH⟩,hk⟩:=hg.ok x (KE aw);have ai:=wi c g.conds.length aH;rw[<-aF]at ai;simp only[Dg.e]at ai;simp(disch:=omega)[go_sem,af,aw,-getElem?_pos,bk.e,aq.e];refine ax.mk ai λM=>dI λhM=> ?_;rcases hk with⟨ae,hk⟩|⟨ae,hk⟩|⟨ae,hk⟩|⟨ae,hk⟩|⟨ae,hk⟩
     . obtain⟨z1,z2,z3,hp⟩:=hk;have ab:=IN g x hp;simp(disch:=omega)[go_sem,ae,aq.e,bk.e]at ab⊢;refine ax.mk ab λM2=>aT λan=> ?_;simp(disch:=omega)[go_sem,aG,z1,z2,z3,ae];refine⟨j-1,aa,_,aB.mk (N:=M2) ah ?_ ?_,(hI _ _).2 ⟨k+1,M2,aa,aa,rfl⟩⟩
       . simp(disch:=omega)[go_sem,bk.e]
       . simp(disch:=omega)[go_sem,aq.e]
     . obtain⟨z1,z2,z3,hp⟩:=hk;have ab:=IN g x hp;simp(disch:=omega)[go_sem,ae,aq.e,bk.e]at ab⊢;refine ax.mk ab λM2=>aT λan=> ?_;simp(disch:=omega)[go_sem,aG,z1,z2,z3,ae];refine⟨j-1,aa,_,aB.mk (N:=M2) ah ?_ ?_,(hI _ _).2 ⟨k+1,M2,aa,aa,rfl⟩⟩
       . simp(disch:=omega)[go_sem,bk.e]
       . simp(disch:=omega)[go_sem,aq.e]
     . obtain⟨z1,z2,z3,z4,z5,z6,z7⟩:=hk;have ad:=CK g (λt=>t.cls=0) 172 CJ x.au z7;simp(disch:=omega)[go_sem,ae,aq.e,bk.e,z5,z6]at ad⊢;refine ax.mk ad λM2=>aT λan=> ?_;simp(disch:=omega)[go_sem,aG,z1,z2,z3,z4,ae];refine⟨j-1,aa,_,aB.mk (N:=M2) ah ?_ ?_,(hI _ _).2 ⟨k+1,M2,aa,aa,rfl⟩⟩
       . simp(disch:=omega)[go_sem,bk.e]
       . simp(disch:=omega)[go_sem,aq.e]
     . obtain⟨z1,z2,z3,z4,z5,z6,z7⟩:=hk;have ad:=CK g (λt=>t.cls=0) 172 CJ x.au z7;simp(disch:=omega)[go_sem,ae,aq.e,bk.e,z5,z6]at ad⊢;refine ax.mk ad λM2=>aT λan=> ?_;simp(disch:=omega)[go_sem,aG,z1,z2,z3,z4,ae];refine⟨j-1,aa,_,aB.mk (N:=M2) ah ?_ ?_,(hI _ _).2 ⟨k+1,M2,aa,aa,rfl⟩⟩
       . simp(disch:=omega)[go_sem,bk.e]
       . simp(disch:=omega)[go_sem,aq.e]
     . obtain⟨z1,z2,z3,z4,z5,t,z6,z7,z8,z9⟩:=hk;have ad:=CK g (λt=>t.lit≠⟨#[]⟩) 173 (λt ht=>by have:=IM t;rwa[decide_eq_false ht]at this) x.au z9;have ao:=CJ t z7;have ak:=IM t;rw[decide_eq_true z8]at ak;have az:fy (some (some 7)) t.e 0=some (.agg t.e):=sC rfl;have hl:x.token<g.au.length:=by have:=(FQ.1 z6).1;omega
       simp(disch:=omega)[go_sem,ae,aq.e,bk.e]at ad⊢;refine ax.mk ad λM2=>aT λan=> ?_;simp(disch:=omega)[go_sem,z5,hl,z6,az,-getElem?_pos];refine ax.mk ao λM3=>aT λaI=> ?_;simp(disch:=omega)[go_sem,z5,hl,z6,az,-getElem?_pos];refine ax.mk ak λM4=>aT λaJ=> ?_;simp(disch:=omega)[go_sem,aG,z1,z2,z3,z4,ae];refine⟨j-1,aa,_,aB.mk (N:=M4) ah ?_ ?_,(hI _ _).2 ⟨k+1,M4,aa,aa,rfl⟩⟩
       . simp(disch:=omega)[go_sem,bk.e]
       . simp(disch:=omega)[go_sem,aq.e]
   . have af:¬(k:Int)<g.aZ.length:=aa;simp(disch:=omega)[go_sem,af,aq.e]
def IQ(t:Tok):Prop:=(t.lit≠⟨#[]⟩/\t.pat=[]/\t.jl=⟨#[]⟩)\/(t.lit=⟨#[]⟩/\aE E true 73 [.sl 5 (t.pat.map bd.e)] (iV 0)/\
 ((t.cls=0/\t.jl≠⟨#[]⟩/\aE E true 36 [.sl 5 (t.pat.map bd.e),sV t.jl] (bV true))\/(t.cls≠0/\t.jl=⟨#[]⟩)))
structure CM(g:aq):Prop where
 new:nr (g.au.map (·.name))
 len:g.au.length<=256
 ok:∀t∈g.au,0<=t.cls/\t.cls<=2/\lz g.conds.length t.cond/\IQ t
set_option maxHeartbeats 4000000 in
def aa9(g:aq)(hg:CM g):aE E true 120 [.agg g.e] (iV 0):=by
 have hn:=hg.new;have hlen:=hg.len;refine bc Tryz.ntmps120 Tryz.results120 λN=> ?_;simp(disch:=omega)[go_sem,aq.e];refine yG λes clock h' T hs e1 e2 e3 e4=> ?_;simp(disch:=omega)[go_sem]at e1 e2 e3 e4;simp(disch:=omega)[go_sem,e1,e2,e3,e4];obtain⟨I,hI⟩:∃I:Nat->DS->Prop,∀j d,I j d↔∃(k P:Nat) (es:List bH) (clock:Nat),j+k=g.au.length/\sB es (mz ((g.au.map (·.name)).take k))/\N+2<P/\d=⟨bw [(1,.v (.pointer (some ⟨N,0,none⟩))),(3,.fn 192 [] [.v (.pointer (some ⟨N+1+1,0,none⟩))]),(9,.sl 7 (g.au.map Tok.e)),(10,iV g.au.length),(11,iV k)],74,[],cj P [(N,.row g.e true 0),(N+1,.map es clock),(N+1+1,.row [.v (.map (some (N+1)))] true 0)]⟩:=⟨_,λ_ _=>yB⟩;refine bS I g.au.length ⟨_,aB.mk (N:=N+3) ?_ ah ?_,(hI _ _).2 ⟨0,N+3,es,clock,rfl,hs,aa,rfl⟩⟩ ?_
 . simp(disch:=omega)[go_sem,e1]
 . simp(disch:=omega)[go_sem,e2,e3,e4,aq.e]
 . intro j ds ai;obtain⟨k,P,es,clock,hj,hs,hP,rfl⟩:=(hI _ _).1 ai;clear ai;by_cases av:k<g.au.length
   . have ad:(k:Int)<g.au.length:=aa;obtain⟨t,an⟩:∃t,g.au[k]? =some t:=⟨_,qG av⟩;obtain⟨k0,k1,⟨c,aw,az⟩,hk⟩:=hg.ok t (KE an);have ae:=wi c g.conds.length az;rw[<-aw]at ae;have aC:(g.au.map (·.name))[k]? =some t.name:=by rw[RK,an];rfl
     obtain⟨ha,hp⟩:=hn.at aC;have d1:¬t.cls<0:=aa;have d2:¬2<t.cls:=aa;simp only[Dg.e]at ae;simp(disch:=omega)[go_sem,ad,an,-getElem?_pos,Tok.e];refine yD (b:=N+1+1) (r:=N+1) (wr:=true) (aj:=0) (es:=es) (clock:=clock) ah ah hs ha λao ab T ak=> ?_;rw[hp]at ak;simp(disch:=omega)[go_sem,d1,d2,aq.e];refine ax.mk ae λM=>aT λhM=> ?_;rcases hk with⟨h1,h2,h3⟩|⟨h1,h2,⟨h3,h4,h5⟩|⟨h3,h4⟩⟩
     . simp(disch:=omega)[go_sem,h1,h2,h3,aG];refine⟨j-1,aa,_,aB.mk (N:=M) ah ?_ ?_,(hI _ _).2 ⟨k+1,M,ao,ab,aa,ak,aa,rfl⟩⟩
       . simp(disch:=omega)[go_sem,Tok.e]
       . simp(disch:=omega)[go_sem,aq.e]
     . simp(disch:=omega)[go_sem,h1,h4];refine ax.mk h2 λM2=>aT λaF=> ?_;simp(disch:=omega)[go_sem,h3];refine ax.mk h5 λM3=>aT λaH=> ?_;simp(disch:=omega)[go_sem,aG];refine⟨j-1,aa,_,aB.mk (N:=M3) ah ?_ ?_,(hI _ _).2 ⟨k+1,M3,ao,ab,aa,ak,aa,rfl⟩⟩
       . simp(disch:=omega)[go_sem,Tok.e]
       . simp(disch:=omega)[go_sem,aq.e]
     . simp(disch:=omega)[go_sem,h1,h4];refine ax.mk h2 λM2=>aT λaF=> ?_;simp(disch:=omega)[go_sem,h3,aG];refine⟨j-1,aa,_,aB.mk (N:=M2) ah ?_ ?_,(hI _ _).2 ⟨k+1,M2,ao,ab,aa,ak,aa,rfl⟩⟩
       . simp(disch:=omega)[go_sem,Tok.e]
       . simp(disch:=omega)[go_sem,aq.e]
   . have ad:¬(k:Int)<g.au.length:=aa;simp(disch:=omega)[go_sem,ad,aq.e]
structure GV(g:aq):Prop where
 size:Iy g
 cW:wj g
 au:CM g
 aP:nr g.aP/\0<=g.start/\g.start<g.aP.length
 ay:IG g
 bn:IL g
 aZ:IP g
set_option maxHeartbeats 4000000 in
def IS(g:aq)(hg:GV g):aE E true 71 [.agg g.e] (iV 0):=by
 have h0:=aaK g hg.size;have h1:=aaG g hg.cW;have h2:=aa9 g hg.au;have h3:=aaF g hg.aP.1 hg.aP.2.1 hg.aP.2.2 hg.size.aP;have h4:=aa4 g hg.ay;have h5:=aa7 g hg.bn;have h6:=aa8 g hg.aZ;simp only[aq.e]at h0 h1 h2 h3 h4 h5 h6;refine bc Tryz.ntmps71 Tryz.results71 λN=> ?_;simp(disch:=omega)[go_sem,aq.e];refine ax.mk h0 λM=>dI λhM=> ?_;obtain⟨I,hI⟩:∃I:Nat->DS->Prop,∀j d,I j d↔∃(k P:Nat),j+k=6/\M<P/\d=⟨bw [(1,.v (.pointer (some ⟨N,0,none⟩))),(10,.v (.slice (some ⟨M,0,none⟩) 6 6)),(11,iV 6),(12,iV k)],23,[],cj P [(N,.row g.e true 0),(M,.row [.fn 119 [] [],.fn 120 [] [],.fn 121 [] [],.fn 122 [] [],.fn 123 [] [],.fn 124 [] []] true 0)]⟩:=⟨_,λ_ _=>yB⟩;refine bS I 6 ⟨_,aB.mk (N:=M+1) ah ah ?_,(hI _ _).2 ⟨0,M+1,rfl,aa,rfl⟩⟩ ?_
 . simp(disch:=omega)[go_sem,aq.e]
 . intro j ds ai;obtain⟨k,P,hj,hP,rfl⟩:=(hI _ _).1 ai;clear ai;by_cases av:k<6
   . have hk:k=0\/k=1\/k=2\/k=3\/k=4\/k=5:=aa;rcases hk with rfl|rfl|rfl|rfl|rfl|rfl
     all_goals
      simp(disch:=omega)[go_sem,aq.e]
      first|refine ax.mk h1 λP2 af=> ?_|refine ax.mk h2 λP2 af=> ?_|refine ax.mk h3 λP2 af=> ?_|refine ax.mk h4 λP2 af=> ?_|refine ax.mk h5 λP2 af=> ?_|refine ax.mk h6 λP2 af=> ?_
      replace af:=cq af;simp(disch:=omega)[go_sem,aG];refine⟨j-1,aa,_,aB.mk (N:=P2) ah ?_ ?_,(hI _ _).2 ⟨6-(j-1),P2,aa,aa,rfl⟩⟩
      . simp(disch:=omega)[go_sem]<;>omega
      . simp(disch:=omega)[go_sem,aq.e]
   . have hk:k=6:=aa;subst hk;simp(disch:=omega)[go_sem,aq.e]
def qQ(h':ab):Nat->Nat->Tr bP->Tr bP
 |0,_,m=>m
 |k+1,i,m=>match h'.get i with
  |some o=>qQ h' k (i+1) (m.set i (some o))
  |none=>qQ h' k (i+1) m
def pL(h h':ab):ab:=⟨qQ h' (h'.next-h.next) h.next h.m,h'.next⟩
def wv(h':ab)(j:Nat):∀(k i:Nat) (m:Tr bP),(qQ h' k i m).get j=if i<=j/\j<i+k then(match h'.get j with|some o=>some o|none=>m.get j)else m.get j
 |0,i,m=>by rw[if_neg aa];rfl
 |k+1,i,m=>by
  simp only[qQ];cases hq:h'.get i with
  |none=>
   simp only;rw[wv h' j k (i+1) m];by_cases hj:j=i
   . subst hj;rw[if_neg aa,if_pos aa,hq]
   . by_cases h2:i+1<=j/\j<i+1+k
     . rw[if_pos h2,if_pos aa]
     . rw[if_neg h2,if_neg aa]
  |some o=>
   simp only;rw[wv h' j k (i+1)];by_cases hj:j=i
   . subst hj;rw[if_neg aa,if_pos aa,hq,Tr.bu,if_pos rfl]
   . by_cases h2:i+1<=j/\j<i+1+k
     . rw[if_pos h2,if_pos aa,Tr.bu,if_neg hj]
     . rw[if_neg h2,if_neg aa,Tr.bu,if_neg hj]
def abL(h h':ab)(j:Nat)(hj:j<h.next):(pL h h').get j=h.get j:=by
 show(qQ h' _ _ h.m).get j=_;rw[wv,if_neg aa];rfl
def abM(h h':ab)(j:Nat)(o:bP)(hj:h.next<=j)(h2:j<h'.next)(ho:h'.get j=some o):(pL h h').get j=some o:=by
 show(qQ h' _ _ h.m).get j=_;rw[wv,if_pos aa,ho]
def abN(h h':ab)(hs:Sub h h')(hn:∀i o,h.get i=some o->i<h.next):∀i o,(pL h h').get i=some o->h'.get i=some o:=λi o ho=>by
 have ho:(qQ h' _ _ h.m).get i=some o:=ho;rw[wv]at ho;have key:h.m.get i=some o->h'.get i=some o:=λhq=>hs.get i o (hn i o hq) hq
 split at ho
 . split at ho
   . rename_i o' hq;cases ho;exact hq
   . exact key ho
 . exact key ho
def abO{f:FuncId}{args:List Value}{h:ab}{v:Value}{h1:ab}(hr:bU E f args h v h1)(hs:Sub h h1):bU E f args h v (pL h h1):=by
 by_cases hn:∀i o,h.get i=some o->i<h.next
 . exact hr.drop (abN h h1 hs hn) (RW _)
 . refine⟨hr.1,λρ w vs hg hv hw=>absurd (λi o ho=> ?_) hn⟩;obtain⟨pl,h2,_⟩:=hw.obj i o ho;exact hw.iA i pl h2
def mE(x:Br):Int×Int×Int:=(x.1,x.2.1,x.2.2)
def rv(c:Nat):Nat:=code λρ=>c.testBit (idx ρ)
def abP:((yy 256).all λc=>decide (rv c<256)&&decide ((eT (rv c)).2.2.map mE=(aM c).nodes)&&decide (((eT (rv c)).1:Int)=(aM c).root))=true:=ak
def uz{c:Nat}(hc:c<256):rv c<256/\(eT (rv c)).2.2.map mE=(aM c).nodes/\((eT (rv c)).1:Int)=(aM c).root:=by
 have:=E2.1 abP c (by simpa using hc);simpa[and_assoc]using this
def Jc{h:ab}{G:Nat->Prop}(hG:∀i,G i->i<h.next){v:Value}{N:List Br}(hv:Rel (aQ h G) v (.sl 3 ((N.map mE).map cL))):kH 3 h v (N.map dG):=by
 generalize hx:(N.map mE).map cL=xs at hv;cases hv with
 |kJ _=>
  have:N=[]:=by cases N<;>simp at hx⊢
  subst this;exact .inl ⟨rfl,_,_,rfl⟩
 | @sl b o c k aj cs _ q1 q2 q3 q4 q5 q6 q7=>
  obtain⟨g1,wr,g2⟩:=qs q1;have hlen:xs.length=(N.map dG).length:=by rw[<-hx];simp
  refine .inr ⟨b,o,c,by rw[hlen],hG _ g1,λj x hj i u hi=> ?_⟩;rw[RK,afD]at hj;obtain⟨y,hy,rfl⟩:=hj;have e1:xs[j]? =some ((dG y).map .v):=by
   rw[<-hx,RK,RK,hy];rfl
  have aG:=(FQ.1 e1).1;have aS:i<3:=by have:=(FQ.1 hi).1;simpa[dG]using this
  have ao:o+j*3+i<cs.length:=by
   have:(j+1)*3<=xs.length*3:=Nat.mul_le_mul_right _ aG;omega
  have e2:cs[o+j*3+i]? =some cs[o+j*3+i]:=qG ao;have:=q7 j _ i _ (.v u) e1 (by rw[RK,hi];rfl) e2;rw[this.cQ]at e2;exact cY g2|>.trans e2
def abQ(cs:List Br)(j i:Nat)(x:Br)(u:Value)(hx:cs[j]? =some x)(hu:(dG x)[i]? =some u):(cs.flatMap dG)[j*3+i]? =some u:=by
 induction cs generalizing j with
 |nil=>simp at hx
 |cons y cs ih=>
  rw[afx];cases j with
  |zero=>
   simp only[YN,Vs]at hx;subst hx;have:=(FQ.1 hu).1;rw[List.getElem?_append_left aa];simpa using hu
  |succ j=>
   have hl:(dG y).length=3:=rfl;rw[List.getElem?_append_right (by rw[hl,afE];omega),hl];have:=ih j (by simpa using hx);rw[<-this];congr 1;rw[afE];omega
def abR(cs:List Br):(cs.flatMap dG).length=cs.length*3:=by
 induction cs with
 |nil=>rfl
 |cons y cs ih=>rw[afx,List.length_append,ih,List.length_cons,afE];simp[dG];omega
def abS{h H:ab}{G:Nat->Prop}{sl:Value}{cs:List Br}(hs:ux h.next H sl cs):Rel (aQ (pL h H) (sd G h (pL h H))) sl (.sl 3 ((cs.map mE).map cL)):=by
 rcases hs with⟨rfl,rfl⟩|⟨_,b,rfl,h1,h2,h3⟩
 . exact .kJ aC
 . have e:((cs.map mE).map cL).length=cs.length:=aw;have hg:aQ (pL h H) (sd G h (pL h H)) b=some (cs.flatMap dG,3):=r9 (.inr ⟨h2,h3⟩) (abM h H b _ h2 h3 h1);rw[show(Value.slice (some ⟨b,0,none⟩) cs.length cs.length)=.slice (some ⟨b,0,none⟩) ((cs.map mE).map cL).length cs.length by rw[e]];refine .sl hg (.inr rfl) aC (by rw[e];exact RW _) (λx hx=> ?_) (by rw[e,abR];omega) λj x i v d e1 e2 e3=> ?_
   . obtain⟨y,hy,rfl⟩:=RC.1 hx;rfl
   . rw[List.map_map,RK,afD]at e1;obtain⟨y,hy,rfl⟩:=e1;have e2:((dG y).map DV.v)[i]? =some d:=e2;rw[RK,afD]at e2;obtain⟨u,hu,rfl⟩:=e2;rw[Zf,abQ cs j i y u hy hu]at e3;cases e3;exact .v _
def wx(c:Nat):List DV:=[.sl 3 ((aM c).nodes.map cL),iV (aM c).root]
theorem abT(c:Nat):(aM c).e=wx c:=rfl
def C7{R:Go.aD.Rows}{v:Value}{n:Int}(h:Rel R v (iV n)):v=.int .i64 n:=h.cQ
def yY{c:Nat}(hc:c<256)(ρ:dx):tb (eT (rv c)).2.2 (eT (rv c)).1 ρ=c.testBit (idx ρ):=by
 rw[(C6 (uz hc).1).set ρ];unfold wu rv;have hi:=C0 ρ;have:=I7 (λρ=>c.testBit (idx ρ)) (idx ρ) hi;rw[this];congr 1;show idx (bX (idx ρ))=idx ρ;unfold idx;cases ρ 0<;>cases ρ 1<;>cases ρ 2<;>rfl
def abU{fo:FuncId}{ae:Bool->Bool->Bool}(aq:∀H x y,bU E fo [.bool x,.bool y] H (.bool (ae x y)) H){b o:Nat}{H:ab}(hb:rd H b o=some (.func (.func fo) #[] #[]))(x y z:Bool):
 bU E 189 ([.bool x,.bool y,.bool z]++[.pointer (some ⟨b,o,none⟩)]) H (.bool (ae x y)) H:=by
 refine mg Tryz.ntmps189 Tryz.results189 rfl ?_;simp(disch:=omega)[go_sem,hb];refine KC.mk (aq H x y) ?_;exact ah
def abV(a b r:Nat)(ha:a<256)(hb:b<256)(hr:r<256){fo:FuncId}{ae:Bool->Bool->Bool}(aq:∀H x y,bU E fo [.bool x,.bool y] H (.bool (ae x y)) H)(aH:∀i,i<8->r.testBit i=ae (a.testBit i) (b.testBit i)):
 aE E true 188 [.agg (wx a++wx b++[cK,iV 0]),.fn 189 [] [.ptr [.fn fo [] []] 0]] (.agg (aM r).e):=by
 intro G h args ⟨hG,_⟩ af;obtain⟨va,vf,rfl⟩:∃va vf,args=[va,vf]:=by
  have:=af.length
  match args,this with
  |[va,vf],_=>exact⟨va,vf,rfl⟩
 obtain⟨aI,aJ⟩:Rel (aQ h G) va _/\Rel (aQ h G) vf _:=by cases af with|cons h1 h2=>cases h2 with|cons h2 h3=>exact⟨h1,h2⟩
 obtain⟨cells,rfl,hc⟩:=aI.qc;obtain⟨c0,c1,c2,c3,c4,c5,az⟩:∃c0 c1 c2 c3 c4 c5,cells.toList=[c0,c1,c2,c3,c4,c5]:=by
  have:=hc.length
  match cells.toList,this with
  |[c0,c1,c2,c3,c4,c5],_=>exact⟨_,_,_,_,_,_,rfl⟩
 rw[az]at hc;obtain⟨q0,q1,q2,q3,q4,q5⟩:Rel (aQ h G) c0 (.sl 3 ((aM a).nodes.map cL))/\Rel (aQ h G) c1 (iV (aM a).root)/\Rel (aQ h G) c2 (.sl 3 ((aM b).nodes.map cL))/\Rel (aQ h G) c3 (iV (aM b).root)/\Rel (aQ h G) c4 cK/\Rel (aQ h G) c5 (iV 0):=by
  cases hc with
  |cons h0 hc=>cases hc with
   |cons h1 hc=>cases hc with
    |cons h2 hc=>cases hc with
     |cons h3 hc=>cases hc with
      |cons h4 hc=>cases hc with
       |cons h5 hc=>exact⟨h0,h1,h2,h3,h4,h5⟩
 obtain⟨a1,a2,a3⟩:=uz ha;obtain⟨b1,b2,b3⟩:=uz hb;obtain⟨r1,r2,r3⟩:=uz hr;have ka:=C6 a1;have kb:=C6 b1;have:=q4.cQ;subst this;have:=C7 q5;subst this;have e1:c1=.int .i64 ((eT (rv a)).1:Int):=by rw[a3];exact C7 q1
 have e3:c3=.int .i64 ((eT (rv b)).1:Int):=by rw[b3];exact C7 q3
 subst e1;subst e3;rw[<-a2]at q0;rw[<-b2]at q2;obtain⟨fa,fc,rfl,f1,f2⟩:=aJ.vy;have aK:fa=#[]:=by have:=f1.length;apply adv;simpa using this
 subst aK;obtain⟨p,aL,hp⟩:∃p,fc.toList=[p]/\Rel (aQ h G) p (.ptr [.fn fo [] []] 0):=by
  have:=f2.length
  match hl:fc.toList,this with
  |[p],_=>rw[hl]at f2;cases f2 with|cons h1 h2=>exact⟨p,rfl,h1⟩
 obtain⟨pb,po,aj,cs,rfl,aN,aF⟩:∃pb po aj cs,p=.pointer (some ⟨pb,po,none⟩)/\aQ h G pb=some (cs,aj)/\cs[po]? =some (.func (.func fo) #[] #[]):=by
  cases hp with
  | @ptr b o off aj cs xs h1 h2 h3=>
   have hl:o<cs.length:=by simp at h2;omega
   have hq:cs[o+0]? =some cs[o]:=qG hl;have:=h3 0 _ _ rfl hq;obtain⟨a',c',e,g1,g2⟩:=this.vy;have ea:a'=#[]:=by have:=g1.length;apply adv;simpa using this
   have ec:c'=#[]:=by have:=g2.length;apply adv;simpa using this
   subst ea;subst ec;rw[e]at hq;exact⟨b,o,aj,cs,rfl,h1,by simpa using hq⟩
 obtain⟨gG,wr,ai⟩:=qs aN;have aT:rd h pb po=some (.func (.func fo) #[] #[]):=(cY ai).trans aF;have ad:cells=#[c0,.int .i64 ((eT (rv a)).1:Int),c2,.int .i64 ((eT (rv b)).1:Int),.slice none 0 0,.int .i64 0]:=by apply adv;simpa using az
 have av:fc=#[.pointer (some ⟨pb,po,none⟩)]:=by apply adv;simpa using aL
 subst ad;subst av;obtain⟨v,H,w1,⟨sl,N,n,rfl,w2,w3,w4,w5,w6⟩,w7⟩:=abE (h:=h) (d0:=⟨c0,(eT (rv a)).2.2,(eT (rv a)).1⟩) (d1:=⟨c2,(eT (rv b)).2.2,(eT (rv b)).1⟩) (d2:=⟨.slice none 0 0,[],0⟩)
  ⟨Jc hG q0,ka.ok,ka.v3,by have:=ka.len;simp only;omega⟩ ⟨Jc hG q2,kb.ok,kb.v3,by have:=kb.len;simp only;omega⟩ ⟨.inl ⟨rfl,_,_,rfl⟩,⟨λk x hx=>by simp at hx,aw⟩,λx hx=>by simp at hx,aw⟩ ka.rl kb.rl aw
  (fo:=189) (cap:=[.pointer (some ⟨pb,po,none⟩)]) (op:=λx y _=>ae x y) (λH hs x y z=>abU aq (by
   have:=hs.get pb _ (hG _ gG) ai;exact(cY this).trans aF) x y z)
 have hN:=abH w3 w4 w5;have an:code (tb N n)=rv r:=by
  unfold rv;congr 1
  funext ρ
  rw[w6 ρ,yY ha,yY hb];exact(aH _ (C0 ρ)).symm
 rw[an]at hN;rw[hN.2]at w2;rw[hN.1]at w1;refine⟨_,pL h H,abO w1 w7,Nat.le_trans w7.next (RW _),λi hi=>abL h H i hi, ?_⟩;rw[abT,wx,<-r2,<-r3];refine Rel.dO (a:=[sl,.int .i64 ((eT (rv r)).1:Int)]) ?_;exact .cons (abS w2) (.cons (.v _) .nil)
def abW(H:ab)(x y:Bool):bU E 158 [.bool x,.bool y] H (.bool (x&&y)) H:=by
 refine mg Tryz.ntmps158 Tryz.results158 rfl ?_;cases x<;>simp(disch:=omega)[go_sem]
def abX(H:ab)(x y:Bool):bU E 161 [.bool x,.bool y] H (.bool (x||y)) H:=by
 refine mg Tryz.ntmps161 Tryz.results161 rfl ?_;cases x<;>simp(disch:=omega)[go_sem]
def abY(l:List Nat)(hl:∀c∈l,c<256)(hlen:l.length<=1000):aE E true 186 [.sl 2 (l.map λc=>(aM c).e)] (iV 0):=by
 refine bc Tryz.ntmps186 Tryz.results186 λN=> ?_;refine aL ?_;obtain⟨I,hI⟩:∃I:Nat->DS->Prop,∀j d,I j d↔∃(k P:Nat),j+k=l.length/\d=⟨bw [(6,.sl 2 (l.map λc=>(aM c).e)),(7,iV l.length),(8,iV k)],18,[],cj P []⟩:=⟨_,λ_ _=>yB⟩;refine bS I l.length ⟨_,aB.mk (N:=N) ah ?_ ah,(hI _ _).2 ⟨0,N,rfl,rfl⟩⟩ ?_
 . simp(disch:=omega)[go_sem,Dg.e]
 . intro j ds ae;obtain⟨k,P,hj,rfl⟩:=(hI _ _).1 ae;clear ae;by_cases an:k<l.length
   . have ad:(k:Int)<l.length:=aa;obtain⟨c,hc⟩:∃c,l[k]? =some c:=⟨_,qG an⟩;have ao:=hl c (KE hc);have hk:=Ct c ao;generalize hd:aM c=d at hk;simp(disch:=omega)[go_sem,ad,hc,-getElem?_pos,hd,Dg.e];refine ax.mk hk λP2=>aT λaz=> ?_;simp(disch:=omega)[go_sem,aG];refine⟨j-1,aa,_,aB.mk (N:=P2) ah ?_ ah,(hI _ _).2 ⟨k+1,P2,aa,rfl⟩⟩
     . simp(disch:=omega)[go_sem,Dg.e]
   . have ad:¬(k:Int)<l.length:=aa;simp(disch:=omega)[go_sem,ad]
def abZ(c:Nat)(hc:c<256):aE E true 187 [.agg (aM c).e] (.bp [.agg (aM c).e,iV 0]):=by
 have hl:(aM c).nodes.length<=4096:=by
  have h:((yy 256).all λc=>decide ((aM c).nodes.length<=4096))=true:=ak;simpa using E2.1 h c (by simpa using hc)
 generalize aM c=d at*;refine bc Tryz.ntmps187 Tryz.results187 λN=> ?_;have h2:¬(4096:Int)<d.nodes.length:=aa;have h3:¬4096<d.nodes.length:=aa;simp(disch:=omega)[go_sem,Dg.e,h2,h3]
def Jd(a b r:Nat)(ha:a<256)(hb:b<256)(hr:r<256){fo:FuncId}{af:Bool->Bool->Bool}(aq:∀H x y,bU E fo [.bool x,.bool y] H (.bool (af x y)) H)(av:∀i,i<8->r.testBit i=af (a.testBit i) (b.testBit i)):
 aE E true 157 [.agg (aM a).e,.agg (aM b).e,.fn fo [] []] (.bp [.agg (aM r).e,iV 0]):=by
 have h1:=abY [a,b] (by simp[ha,hb]) aw;have h2:=abV a b r ha hb hr aq av;have h3:=abZ r hr;simp only[Xy,List.map_nil]at h1;simp only[wx,Dg.e,List.cons_append,List.nil_append]at h1 h2 h3⊢;generalize aM a=A at*;generalize aM b=B at*;generalize aM r=R at*;refine bc Tryz.ntmps157 Tryz.results157 λN=> ?_;refine aL ?_;refine ax.pl h1 (.cons (dY (aj:=0) (ck (wr:=true) ah) (.inl rfl) aC rfl (RW _) aw) .nil) λM=>dI λhM=> ?_;refine ax.fz h2 [N+1+1] ?_ (.cons (.refl _) (.cons (.fn rfl (λi v d h1 h2=>by simp at h1) rfl (λi v d h1 h2=> ?_)) .nil)) λM2 ai=> ?_
 . exact ah
 . cases i with
   |succ i=>simp at h1
   |zero=>
    simp only[YN,Vs]at h1 h2;subst h1;subst h2;exact .ptr (o:=0) (off:=0) (aj:=0) (fA (wr:=true) aw (by simp(disch:=omega)[go_sem];try rfl)) aw λi v d h1 h2=>by
     cases i with
     |succ i=>simp at h1
     |zero=>simp only[Zf,YN,Vs]at h1 h2;subst h1;subst h2;exact .refl _
 replace ai:=cq ai;refine aL ?_;refine ax.mk h3 λM3=>aT λaF=> ?_;exact ah
def wy(a b:Nat)(ha:a<256)(hb:b<256):aE E true 109 [.agg (aM a).e,.agg (aM b).e] (.bp [.agg (aM (a&&&b)).e,iV 0]):=by
 have h1:=Jd a b (a&&&b) ha hb (afO afP ha) abW λi _=>Nat.testBit_and ..;simp only[Dg.e]at h1⊢;generalize aM a=A at*;generalize aM b=B at*;generalize aM (a&&&b)=R at*;refine bc Tryz.ntmps109 Tryz.results109 λN=> ?_;refine aL ?_;refine ax.mk h1 λM=>aT λhM=> ?_;exact ah
def C8(a b:Nat)(ha:a<256)(hb:b<256):aE E true 113 [.agg (aM a).e,.agg (aM b).e] (.bp [.agg (aM (a|||b)).e,iV 0]):=by
 have h1:=Jd a b (a|||b) ha hb (afQ (n:=8) ha hb) abX λi _=>Nat.testBit_or ..;simp only[Dg.e]at h1⊢;generalize aM a=A at*;generalize aM b=B at*;generalize aM (a|||b)=R at*;refine bc Tryz.ntmps113 Tryz.results113 λN=> ?_;refine aL ?_;refine ax.mk h1 λM=>aT λhM=> ?_;exact ah
end Go.Sp
end
noncomputable section
open Go Go.aD Go.Proofs
namespace Go.aD
variable {e:Env}
def e9(h:ae):List Nat->ae
 |[]=>ae.none h.next
 |i::S=>(e9 h S).set i (h.get i)
def C9(h:ae):∀S,(e9 h S).next=h.next
 |[]=>rfl
 |_::S=>C9 h S
def ny(h:ae)(j:Nat):∀S,(e9 h S).get j=if j∈S then h.get j else none
 |[]=>by rw[e9,ae.get_none];simp
 |i::S=>by
  rw[e9,ae.bu,ny h j S];by_cases h1:j=i
  . subst h1;simp
  . simp[h1]
def c8.read{ar:Bool}{f:FuncId}{args:List DV}{dh:ae}{K:DV->ae->List Nat->Prop}(S:List Nat)(hc:c8 e ar f args (e9 dh S) λv ab _=>(∀i∈S,ab.get i=dh.get i)/\K v (dh.up ab.next) S):c8 e ar f args dh K:=by
 intro G h vs x ha;have kn:∀i,dh.get i=none->(e9 dh S).get i=none:=λi hi=>by
  rw[ny];split
  . exact hi
  . rfl
 have x0:bO G h (e9 dh S):=by
  refine⟨x.fD,by rw[C9];exact x.next,λi o ho=> ?_,λi hi=>⟨(x.still i hi).1,kn i (x.still i hi).2⟩⟩;rw[ny]at ho
  split at ho
  . exact x.obj i o ho
  . cases ho
 have key:=hc G h vs x0 ha;have fin:∀v h',nc G h (e9 dh S) (λv ab _=>(∀i∈S,ab.get i=dh.get i)/\K v (dh.up ab.next) S) v h'->nc G h dh K v h':=λv h' ⟨d,ab,G',T,r2,r3,r4,r5,r6,r7⟩=>by
  have ad:∀i,¬i<h.next->dh.get i=none:=λi hi=>by
   cases hq:dh.get i with
   |none=>rfl
   |some o=>exact absurd (x.obj i o hq).1 hi
  have out:∀i,i<h.next->i∉S->h'.get i=h.get i:=λi hi hS=>(r3.same i hi (by rw[ny,if_neg hS])).1;have hm:∀i r,aQ h G i=some r->aQ h' G' i=some r:=jg λi hg=>by
   obtain⟨h1,h2⟩:=x.still i hg;exact⟨r3.up i hg,(r3.same i h1 (kn i h2)).1⟩
  refine⟨d,dh.up ab.next,G',S,⟨r2.fD,r2.next,λi o ho=> ?_,λi hi=>⟨(r2.still i hi).1, ?_⟩⟩,⟨r3.next,λi hi hd=>⟨(r3.same i hi (kn i hd)).1,hd⟩,r3.up,λi hi hg=> ?_⟩,r4,λi hi hS=>⟨out i hi hS,rfl⟩,r7⟩
  . have ho:dh.get i=some o:=ho;by_cases hS:i∈S
    . exact r2.obj i o (by rw[r6 i hS];exact ho)
    . obtain⟨h1,ao,h2,h3⟩:=x.obj i o ho;exact⟨afA h1 r3.next,ao,by rw[out i h1 hS];exact h2,h3.mono hm⟩
  . show dh.get i=none;by_cases aC:i<h.next
    . by_cases hS:i∈S
      . rw[<-r6 i hS];exact(r2.still i hi).2
      . rcases r3.bl i aC hi with h1|h1
        . exact(x.still i h1).2
        . rw[ny,if_neg hS]at h1;cases h1
    . exact ad i aC
  . rcases r3.bl i hi hg with h1|h1
    . exact .inl h1
    . rw[ny]at h1
      split at h1
      . exact .inr h1
      . cases h1
 cases ar with
 |true=>obtain⟨v,h',h1,h2⟩:=key;exact⟨v,h',h1,fin v h' h2⟩
 |false=>exact fJ.mono key fin
def qR(h h':ae):List Nat->ae
 |[]=>h
 |i::S=>(qR h h' S).set i (h'.get i)
def Da(h h':ae):∀S,(qR h h' S).next=h.next
 |[]=>rfl
 |_::S=>Da h h' S
def Db(h h':ae)(j:Nat):∀S,(qR h h' S).get j=if j∈S then h'.get j else h.get j
 |[]=>by simp[qR]
 |i::S=>by
  rw[qR,ae.bu,Db h h' j S];by_cases h1:j=i
  . subst h1;simp
  . simp[h1]
def c8.frame{ar:Bool}{f:FuncId}{args:List DV}{dh:ae}{K:DV->ae->List Nat->Prop}(S:List Nat)(hS:∀i∈S,i<dh.next)
 (hc:c8 e ar f args (e9 dh S) λv ab _=>∀af:ae,af.next=ab.next->(∀i,(i∈S\/dh.next<=i)->af.get i=ab.get i)->(∀i,i<dh.next->i∉S->af.get i=dh.get i)->K v af S):c8 e ar f args dh K:=by
 intro G h vs x ha;have kn:∀i,dh.get i=none->(e9 dh S).get i=none:=λi hi=>by
  rw[ny];split
  . exact hi
  . rfl
 have x0:bO G h (e9 dh S):=by
  refine⟨x.fD,by rw[C9];exact x.next,λi o ho=> ?_,λi hi=>⟨(x.still i hi).1,kn i (x.still i hi).2⟩⟩;rw[ny]at ho
  split at ho
  . exact x.obj i o ho
  . cases ho
 have key:=hc G h vs x0 ha;have fin:∀v h',nc G h (e9 dh S) (λv ab _=>∀af:ae,af.next=ab.next->(∀i,(i∈S\/dh.next<=i)->af.get i=ab.get i)->(∀i,i<dh.next->i∉S->af.get i=dh.get i)->K v af S) v h'->nc G h dh K v h':=λv h' ⟨d,ab,G',T,r2,r3,r4,r5,r7⟩=>by
  have ad:∀i,¬i<h.next->dh.get i=none:=λi hi=>by
   cases hq:dh.get i with
   |none=>rfl
   |some o=>exact absurd (x.obj i o hq).1 hi
  have hn:dh.next=h.next:=x.next.symm;have out:∀i,i<h.next->i∉S->h'.get i=h.get i:=λi hi hS=>(r3.same i hi (by rw[ny,if_neg hS])).1;have hm:∀i r,aQ h G i=some r->aQ h' G' i=some r:=jg λi hg=>by
   obtain⟨h1,h2⟩:=x.still i hg;exact⟨r3.up i hg,(r3.same i h1 (kn i h2)).1⟩
  have lo:∀i,i<dh.next->i∉S->(lu (qR dh ab S) ab).get i=dh.get i:=λi hi hS=>by
   rw[uc,if_neg (by rw[Da];omega),Db,if_neg hS]
  have aH:∀i,(i∈S\/dh.next<=i)->(lu (qR dh ab S) ab).get i=ab.get i:=λi hi=>by
   rw[uc,Da,Db];by_cases aC:i<dh.next
   . have aI:i∈S:=by rcases hi with h1|h1;exact h1;omega
     rw[if_neg aa,if_pos aI]
   . have hb:(if i∈S then ab.get i else dh.get i)=if i∈S then ab.get i else none:=by
      split
      . rfl
      . exact ad i aa
     rw[hb];cases hq:ab.get i with
     |some o=>
      have:=(r2.obj i o hq).1;have h2:=r2.next;rw[if_pos aa]
     |none=>
      rw[show(if i∈S then(none:Option bF)else none)=none from by split<;>rfl]
      split<;>rfl
  refine⟨d,lu (qR dh ab S) ab,G',S,⟨r2.fD,r2.next,λi o ho=> ?_,λi hi=>⟨(r2.still i hi).1, ?_⟩⟩,⟨r3.next,λi hi hd=>⟨(r3.same i hi (kn i hd)).1, ?_⟩,r3.up,λi hi hg=> ?_⟩,r4,λi hi hS=>⟨out i hi hS,lo i aa hS⟩,r7 _ rfl aH lo⟩
  . by_cases hc:i∈S\/dh.next<=i
    . rw[aH i hc]at ho;exact r2.obj i o ho
    . have h1:i<dh.next/\i∉S:=by
       refine⟨?_,λh=>hc (.inl h)⟩;rcases afF i dh.next with h|h
       . exact h
       . exact absurd (.inr h) hc
      rw[lo i h1.1 h1.2]at ho;obtain⟨h2,ao,h3,h4⟩:=x.obj i o ho;exact⟨afA h2 r3.next,ao,by rw[out i h2 h1.2];exact h3,h4.mono hm⟩
  . by_cases hc:i∈S\/dh.next<=i
    . rw[aH i hc];exact(r2.still i hi).2
    . have h1:i<dh.next/\i∉S:=by
       refine⟨?_,λh=>hc (.inl h)⟩;rcases afF i dh.next with h|h
       . exact h
       . exact absurd (.inr h) hc
      rw[lo i h1.1 h1.2];rcases r3.bl i aa hi with h2|h2
      . exact(x.still i h2).2
      . rw[ny,if_neg h1.2]at h2;cases h2
  . by_cases aI:i∈S
    . rw[aH i (.inl aI)];exact(r3.same i hi (kn i hd)).2
    . rw[lo i aa aI];exact hd
  . rcases r3.bl i hi hg with h1|h1
    . exact .inl h1
    . rw[ny]at h1
      split at h1
      . exact .inr h1
      . cases h1
 cases ar with
 |true=>obtain⟨v,h',h1,h2⟩:=key;exact⟨v,h',h1,fin v h' h2⟩
 |false=>exact fJ.mono key fin
end Go.aD
namespace Go.Sp
def uA{ar:Bool}{f:FuncId}{fn:Func}{c:Code}{args:List DV}{K:cD}{dd:List FuncId}{h:ae}(S:List Nat){n:Nat}(hn:fn.ntmps=n){rs:List ResultVar}(aX:fn.results=rs.toArray)
 (hq:RD E ar c ⟨iX args,args.length+(n-args.length),[],e9 h S⟩ (jL E rs λd h'=>∀_:List Nat,(∀i∈S,h'.get i=h.get i)/\K d dd (h.up h'.next) S)) (aY:E.fn f=some fn:=by kernel_rfl) (hb:fn.body=some c:=by rfl):ax E ar K dd h (f,args):=by
 refine c8.read S ?_;exact gR (K:=λv _ h' _=>(∀i∈S,h'.get i=h.get i)/\K v dd (h.up h'.next) S) (dd:=dd) hn aX hq aY hb
def qS{ar:Bool}(d:Dg):aE E ar 108 [.agg d.e,iV 0] (.agg d.e):=by
 refine bc Tryz.ntmps108 Tryz.results108 λN=> ?_;simp(disch:=omega)[go_sem,Dg.e]
def Dc{ar:Bool}(b:Bool):aE E ar 112 [bV b] (.agg (aW b).e):=by
 refine bc Tryz.ntmps112 Tryz.results112 λN=> ?_;cases b<;>simp[go_sem,mm,aW,Dg.e]
def sI:E.under 143=some (.map 3 33):=ak
def Je:E.zero 33=some (.agg #[.slice none 0 0,.int .i64 0]):=ak
abbrev ju(es:List bH)(l:List (Int×Nat)):Prop:=fC sF (λc:Nat=>.agg (aM c).e) es l
def cP{κ:Type}[DecidableEq κ](l:List (κ×Nat))(k:κ):Nat:=(bj l k).getD 0
theorem Jf:aM 0=aW false:=rfl
def wz{ar:Bool}{K:cD}{dd:List FuncId}{h:ae}{r:Nat}{es:List bH}{clock:Nat}{l:List (Int×Nat)}{k:Int}(hm:h.get r=some (.map es clock))(hr:r<h.next)(hl:ju es l)
 (hk:∀N,h.next<=N->K (.agg (aM (cP l k)).e) dd (h.up N) [r]):ax E ar K dd h (116,[.v (.map (some r)),iV k]):=by
 refine uA [r] Tryz.ntmps116 Tryz.results116 ?_;simp only[e9,hm];cases ha:bj l k with
 |none=>
  have h1:=sA kq sI hl k true Je rfl ha;have hg:cP l k=0:=by simp[cP,ha]
  rw[hg,Jf]at hk;refine aL ?_;refine⟨_,lU (es:=es) (clock:=clock) ah rfl h1, ?_⟩;simp(disch:=omega)[go_sem,fZ];refine ax.mk (Dc false) λM=>aT λhM=> ?_;simp(disch:=omega)[go_sem,Dg.e]at hk⊢;exact⟨hm.symm,hk M aa⟩
 |some c=>
  have h1:=sy kq sI hl k true ha;have hg:cP l k=c:=by simp[cP,ha]
  rw[hg]at hk;refine aL ?_;refine⟨_,lU (es:=es) (clock:=clock) ah rfl h1, ?_⟩;simp(disch:=omega)[go_sem,Dg.e]at hk⊢;exact⟨hm.symm,hk _ aa⟩
def gr(l:List (Int×Nat))(c:Nat)(syms:List Sym):Nat:=syms.foldl (λc s=>if s.tok=true\/c=0 then c else c&&&cP l s.idx) c
def yZ{c:Nat}(hc:c<256):(aM c).root=0↔c=0:=by
 have h:((yy 256).all λc=>decide ((aM c).root=0)==decide (c=0))=true:=ak;have:=E2.1 h c (by simpa using hc);simpa using eq_of_beq this
def uB{l:List (Int×Nat)}(hl:∀k c,bj l k=some c->c<256)(k:Int):cP l k<256:=by
 unfold cP;cases h:bj l k with
 |none=>simp
 |some c=>simpa using hl k c h
def y5(l:List (Int×Nat))(syms:List Sym):∀(c:Nat),c<256->gr l c syms<256:=by
 induction syms with
 |nil=>exactλc h=>h
 |cons s r ih=>
  intro c h;simp only[gr,afR];refine ih _ ?_
  split
  . exact h
  . exact afO afP h
set_option maxHeartbeats 2000000 in
def ab0{K:cD}{dd:List FuncId}{h:ae}{r:Nat}{es:List bH}{clock:Nat}{l:List (Int×Nat)}{syms:List Sym}{c:Nat}(hm:h.get r=some (.map es clock))(hr:r<h.next)(hl:ju es l)(ba:∀k c,bj l k=some c->c<256)(hc:c<256)(hs:syms.length<=1000)
 (hk:∀N,h.next<=N->K (.agg (aM (gr l c syms)).e) dd (h.up N) [r]):ax E true K dd h (111,[.agg (aM c).e,.sl 2 (syms.map Sym.e),.v (.map (some r))]):=by
 refine uA [r] Tryz.ntmps111 Tryz.results111 ?_;simp only[e9,hm];obtain⟨N,hN⟩:∃N,h.next=N:=⟨_,rfl⟩;rw[hN]at hr hk⊢;simp(disch:=omega)[go_sem,Dg.e];obtain⟨I,hI⟩:∃I:Nat->DS->Prop,∀j d,I j d↔∃(k P:Nat),j+k=syms.length/\N+1<P/\d=⟨bw [(2,.v (.map (some r))),(3,.v (.pointer (some ⟨N,0,none⟩))),(6,.v (.pointer (some ⟨N+1,0,none⟩))),(9,.sl 2 (syms.map Sym.e)),(10,iV syms.length),(11,iV k)],34,[],cj P [(r,.map es clock),(N,.row (aM (gr l c (syms.take k))).e true 0),(N+1,.row [.v (.slice none 0 0),.v (.int .i64 0)] true 0)]⟩:=⟨_,λ_ _=>yB⟩;refine bS I syms.length ⟨_,aB.mk (N:=N+2) ah ah ?_,(hI _ _).2 ⟨0,N+2,rfl,aa,rfl⟩⟩ ?_
 . simp(disch:=omega)[go_sem,Dg.e,gr]
 . intro j ds aJ;obtain⟨k,P,hj,hP,rfl⟩:=(hI _ _).1 aJ;clear aJ;by_cases aC:k<syms.length
   . have aw:(k:Int)<syms.length:=aa;obtain⟨s,hx⟩:∃s,syms[k]? =some s:=⟨_,qG aC⟩;have aq:gr l c (syms.take (k+1))=if s.tok=true\/gr l c (syms.take k)=0 then gr l c (syms.take k)else gr l c (syms.take k)&&&cP l s.idx:=by
      unfold gr;rw[YT,hx,afC,List.foldl_append,afR,List.foldl_nil]
     have aN:=y5 l (syms.take k) c hc;generalize bd:gr l c (syms.take k)=cc at*;have aS:=yZ aN;by_cases an:s.tok=true\/cc=0
     . rw[if_pos an]at aq;have aF:∀(st:DS),aB st ⟨bw [(2,.v (.map (some r))),(3,.v (.pointer (some ⟨N,0,none⟩))),(6,.v (.pointer (some ⟨N+1,0,none⟩))),(9,.sl 2 (syms.map Sym.e)),(10,iV syms.length),(11,iV (k+1:Nat))],34,[],cj (P+1) [(r,.map es clock),(N,.row (aM cc).e true 0),(N+1,.row [.v (.slice none 0 0),.v (.int .i64 0)] true 0)]⟩->∃j',j'<j/\∃d',aB st d'/\I j' d':=λst hw=>
        ⟨j-1,aa,_,hw,(hI _ _).2 ⟨k+1,P+1,aa,aa,by rw[aq]⟩⟩
       cases ht:s.tok with
       |true=>
        simp(disch:=omega)[go_sem,aw,hx,-getElem?_pos,Sym.e,ht,aG];refine aF _ (aB.mk ah ?_ ?_)
        . simp(disch:=omega)[go_sem,Sym.e]
        . simp(disch:=omega)[go_sem,Dg.e]
       |false=>
        have hz:cc=0:=by simpa[ht]using an
        have av:=aS.2 hz;simp(disch:=omega)[go_sem,aw,hx,-getElem?_pos,Sym.e,ht,Dg.e,av,aG];refine aF _ (aB.mk ah ?_ ?_)
        . simp(disch:=omega)[go_sem,Sym.e]
        . simp(disch:=omega)[go_sem,Dg.e,av]
     . rw[if_neg an]at aq;have ht:s.tok=false:=by simpa using λh=>an (.inl h)
       have hz:¬cc=0:=λh=>an (.inr h);have av:¬(aM cc).root=0:=λh=>hz (aS.1 h);have bb:=uB ba s.idx;have hand:=wy cc (cP l s.idx) aN bb;have az:=qS (ar:=true) (aM (cc&&&cP l s.idx));simp only[Dg.e]at hand az;simp(disch:=omega)[go_sem,aw,hx,-getElem?_pos,Sym.e,ht,Dg.e,av];refine bZ [dC 0,ai 0,ai 0,aK 4,aU 14,aU 31,ai 63,ai 63,aU 255,aU 511] ak 0 rfl ?_;simp(disch:=omega)[go_sem,Sym.e,Dg.e];refine wz (es:=es) (clock:=clock) (l:=l) ah (by simp(disch:=omega)[go_sem];try omega) hl λM hM=> ?_;replace hM:=cq hM;simp(disch:=omega)[go_sem,Dg.e];refine⟨aa, ?_⟩;refine ax.mk hand λM2=>dI λbf=> ?_;refine ax.mk az λM3=>aT λbg=> ?_;simp(disch:=omega)[go_sem,aG];refine⟨j-1,aa,_,aB.mk (N:=M3) ah ?_ ?_,(hI _ _).2 ⟨k+1,M3,aa,aa,rfl⟩⟩
       . simp(disch:=omega)[go_sem,Sym.e]
       . simp(disch:=omega)[go_sem,Dg.e,aq]
   . have aw:¬(k:Int)<syms.length:=aa;rw[ab8 aa];simp(disch:=omega)[go_sem,aw,Dg.e]at hk⊢;exact⟨hm.symm,hk _ aa⟩
end Go.Sp
end
noncomputable section
open Go Go.aD Go.Proofs
namespace Go.Sp
def ab1(o p:Operand)(a b c a' b' c':Int):cO E .neq 137 o p (.agg #[.int .i64 a,.int .i64 b,.int .i64 c]) (.agg #[.int .i64 a',.int .i64 b',.int .i64 c'])=some (.bool (!(decide (a=a')&&(decide (b=b')&&decide (c=c'))))):=by
 have hg:Tryz.prog.eqGuardType Tryz.prog.depth 137=false:=ak;show eV Tryz.prog _=_;simp[eV,eqGuard,binOp,mA,uh,sD,hg,IB,-bind_pure_comp];rfl
def ab2(o p:Operand)(a b c a' b' c':Int):jG E .neq 137 o p (.agg [.v (.int .i64 a),.v (.int .i64 b),.v (.int .i64 c)]) (.agg [.v (.int .i64 a'),.v (.int .i64 b'),.v (.int .i64 c')])=some (.v (.bool (!(decide (a=a')&&(decide (b=b')&&decide (c=c')))))):=by
 show(cO E .neq 137 o p (.agg #[.int .i64 a,.int .i64 b,.int .i64 c]) (.agg #[.int .i64 a',.int .i64 b',.int .i64 c'])).map DV.v=_;rw[ab1];rfl
def ab3(a b:List (Int×Int×Int))(hl:a.length<=10000):aE E true 162 [.sl 3 (a.map cL),.sl 3 (b.map cL)] (bV (decide (a=b))):=by
 obtain⟨R,hR⟩:∃R,R=decide (a=b):=⟨_,rfl⟩;rw[<-hR];refine bc Tryz.ntmps162 Tryz.results162 λN=> ?_;by_cases hlen:a.length=b.length
 . have e1:(a.length:Int)=b.length:=aa;simp(disch:=omega)[go_sem,hlen];obtain⟨I,hI⟩:∃I:Nat->DS->Prop,∀j d,I j d↔∃(k P:Nat),j+k=a.length/\a.take k=b.take k/\d=⟨bw [(0,.sl 3 (a.map cL)),(1,.sl 3 (b.map cL)),(12,iV b.length),(13,iV k)],26,[],cj P []⟩:=⟨_,λ_ _=>yB⟩;refine bS I a.length ⟨_,aB.mk (N:=N) ah ah ah,(hI _ _).2 ⟨0,N,rfl,rfl,rfl⟩⟩ ?_
   . intro j ds aq;obtain⟨k,P,hj,ae,rfl⟩:=(hI _ _).1 aq;clear aq;by_cases av:k<a.length
     . have ab:(k:Int)<b.length:=aa;have af:k<b.length:=aa;obtain⟨x,hx⟩:∃x,a[k]? =some x:=⟨_,qG av⟩;obtain⟨y,hy⟩:∃y,b[k]? =some y:=⟨_,qG af⟩;obtain⟨x1,x2,x3⟩:=x;obtain⟨y1,y2,y3⟩:=y;simp(disch:=omega)[go_sem,ab,hx,hy,-getElem?_pos];refine bZ [ai 0,ai 0,ai 3,aK 7,ai 0,ai 0,ai 48,aK 112,ai 255] ak 0 rfl ?_;simp(disch:=omega)[go_sem,ab,hx,hy,-getElem?_pos,cL,ab2];by_cases he:x1=y1/\x2=y2/\x3=y3
       . obtain⟨h1,h2,h3⟩:=he;simp(disch:=omega)[go_sem,h1,h2,h3,aG];refine⟨j-1,aa,_,aB.mk (N:=P) ah ?_ ah,(hI _ _).2 ⟨k+1,P,aa, ?_,rfl⟩⟩
         . simp(disch:=omega)[go_sem,cL]
         . rw[YT,YT,ae,hx,hy,h1,h2,h3]
       . have an:R=false:=by
          rw[hR,decide_eq_false_iff_not];intro ad;subst ad;rw[hx]at hy;simp only[Vs,afy]at hy;exact he hy
         have aw:(!decide (x1=y1)||(!decide (x2=y2)|| !decide (x3=y3)))=true:=by
          by_cases q1:x1=y1
          . by_cases q2:x2=y2
            . by_cases q3:x3=y3
              . exact absurd ⟨q1,q2,q3⟩ he
              . simp[q3]
            . simp[q2]
          . simp[q1]
         rw[aw];simp(disch:=omega)[go_sem,an]
     . have ab:¬(k:Int)<b.length:=aa;have ad:R=true:=by
        rw[hR,decide_eq_true_iff];have h1:a.take k=a:=ab8 aa;have h2:b.take k=b:=ab8 aa;rw[<-h1,<-h2];exact ae
       simp(disch:=omega)[go_sem,ab,ad]
 . have an:R=false:=by
    rw[hR,decide_eq_false_iff_not];intro ad;subst ad;exact hlen rfl
   have e1:¬(a.length:Int)=b.length:=aa;simp(disch:=omega)[go_sem,hlen,e1,an]
def ab4(x y:Br)(h:mE x=mE y):x=y:=by
 obtain⟨a,b,c⟩:=x;obtain⟨a',b',c'⟩:=y;simp only[mE,afy]at h;obtain⟨h1,h2,h3⟩:=h;simp only[afy];omega
def ab5{a b:Nat}(ha:a<256)(hb:b<256)(h:aM a=aM b):a=b:=by
 have h1:=uz ha;have h2:=uz hb;have e1:(eT (rv a)).2.2=(eT (rv b)).2.2:=by
  have:(eT (rv a)).2.2.map mE=(eT (rv b)).2.2.map mE:=by rw[h1.2.1,h2.2.1,h]
  exact List.map_inj_right (λx y h=>ab4 x y h)|>.1 this
 have e2:(eT (rv a)).1=(eT (rv b)).1:=by
  have:((eT (rv a)).1:Int)=(eT (rv b)).1:=by rw[h1.2.2,h2.2.2,h]
  omega
 have key:∀i,i<8->a.testBit i=b.testBit i:=λi hi=>by
  have h3:=yY ha (bX i);have h4:=yY hb (bX i);rw[e1,e2,h4]at h3;have ao:idx (bX i)=i:=by
   have:i=0\/i=1\/i=2\/i=3\/i=4\/i=5\/i=6\/i=7:=aa;rcases this with rfl|rfl|rfl|rfl|rfl|rfl|rfl|rfl<;>rfl
  rw[ao]at h3;exact h3.symm
 refine Nat.eq_of_testBit_eq λi=> ?_;by_cases hi:i<8
 . exact key i hi
 . have p:256<=2^i:=afB (n:=2) aa (show 8<=i by omega);rw[afS aa,afS aa]
def Jg(a b:Nat)(ha:a<256)(hb:b<256):aE E true 117 [.agg (aM a).e,.agg (aM b).e] (bV (decide (a=b))):=by
 have hl:=yF a ha;have h1:=ab3 (aM a).nodes (aM b).nodes aa;have ad:decide (a=b)=(decide ((aM a).root=(aM b).root)&&decide ((aM a).nodes=(aM b).nodes)):=by
  rw[Bool.eq_iff_iff];simp only[decide_eq_true_iff,afz];refine⟨λh=>by subst h;exact⟨rfl,rfl⟩,λ⟨h1,h2⟩=>ab5 ha hb ?_⟩;cases h3:aM a with
  |mk n r=>cases h4:aM b with
   |mk n' r'=>rw[h3,h4]at h1 h2;simp only at h1 h2;rw[h1,h2]
 rw[ad];generalize aM a=A at*;generalize aM b=B at*;refine bc Tryz.ntmps117 Tryz.results117 λN=> ?_;by_cases hr:A.root=B.root
 . simp(disch:=omega)[go_sem,Dg.e,hr];refine ax.mk h1 λM=>aT λhM=> ?_;simp(disch:=omega)[go_sem,hr]
 . simp(disch:=omega)[go_sem,Dg.e,hr]
def Dd(l:List (Int×Nat))(k i:Int)(c:Nat):cP (put l k c) i=if i=k then c else cP l i:=by
 unfold cP;rw[mW]
 split<;>rfl
def mu(n:Nat)(l:List (Int×Nat)):Nat:=((yy n).map λ(i:Nat)=>255-cP l (i:Int)).sum
def Jh(l:List Nat)(f g:Nat->Nat)(h:∀i∈l,f i<=g i):(l.map f).sum<=(l.map g).sum:=by
 induction l with
 |nil=>simp
 |cons x l ih=>
  simp only[Xy,List.sum_cons];have:=h x aw;have:=ih λi hi=>h i (by simp[hi]);omega
def ab6(l:List Nat)(f g:Nat->Nat)(h:∀i∈l,f i<=g i)(k:Nat)(hk:k∈l)(ai:f k<g k):(l.map f).sum<(l.map g).sum:=by
 induction l with
 |nil=>cases hk
 |cons x l ih=>
  simp only[Xy,List.sum_cons];have h1:=h x aw;have h2:=Jh l f g λi hi=>h i (by simp[hi]);rcases adr.1 hk with rfl|hk
  . omega
  . have:=ih (λi hi=>h i (by simp[hi])) hk;omega
def Ji{n:Nat}{l:List (Int×Nat)}{k:Int}{c:Nat}(h0:0<=k)(h1:k<n)(hc:c<256)(ai:cP l k<c):mu n (put l k c)<mu n l:=by
 refine ab6 _ _ _ (λi hi=> ?_) k.toNat (by simp;omega) ?_
 . rw[Dd]
   split
   . rename_i h;rw[<-h]at ai;omega
   . exact RW _
 . rw[Dd,if_pos aa,show((k.toNat:Nat):Int)=k from afw h0];omega
def jW{κ:Type}[DecidableEq κ](l:List (κ×Nat)):Prop:=∀k c,bj l k=some c->c<256
def jW.put{κ:Type}[DecidableEq κ]{l:List (κ×Nat)}(h:jW l){k:κ}{c:Nat}(hc:c<256):jW (Go.aD.put l k c):=λi d hd=>by
 rw[mW]at hd
 split at hd
 . cases hd;exact hc
 . exact h i d hd
def wA{a b:Nat}(ha:a<256)(hb:b<256):a|||b<256:=afQ (n:=8) ha hb
set_option maxHeartbeats 2000000 in
def ab7{K:cD}{dd:List FuncId}{h:ae}{M B2 C:Nat}{es:List bH}{clock:Nat}{l:List (Int×Nat)}{k:Int}{d:Nat}{ch:Bool}(hB:h.get B2=some (.row [.v (.map (some M))] true 0))(hC:h.get C=some (.row [bV ch] true 0))(hM:h.get M=some (.map es clock))
 (l1:M<h.next) (l2:B2<h.next) (l3:C<h.next) (n1:M≠B2) (n2:M≠C) (n3:B2≠C) (hl:ju es l) (ai:jW l) (hd:d<256)
 (hk:∀h' T ak ab l' an,ju ak l'->((l'=l/\an=ch)\/(d≠0/\l'=put l k (cP l k|||d)/\cP l k|||d≠cP l k/\an=true))->h.next<=h'.next->h'.get M=some (.map ak ab)->h'.get C=some (.row [bV an] true 0)->(∀i,i<h.next->i≠M->i≠C->h'.get i=h.get i)->K (.bp []) dd h' T):
 ax E true K dd h (190,[iV k,.agg (aM d).e,.v (.pointer (some ⟨B2,0,none⟩)),.v (.pointer (some ⟨C,0,none⟩))]):=by
 have n4:=n1.symm;have n5:=n2.symm;have n6:=n3.symm;have av:=yZ hd;have ao:=uB ai k;have az:=C8 (cP l k) d ao hd;have af:=qS (ar:=true) (aM (cP l k|||d));have ah:=Jg (cP l k) (cP l k|||d) ao (wA ao hd);obtain⟨N,hN⟩:∃N,h.next=N:=⟨_,rfl⟩;rw[hN]at l1 l2 l3 hk;refine gR Tryz.ntmps190 Tryz.results190 ?_;simp only[Dg.e]at az af ah;by_cases hz:d=0
 . have ad:=av.2 hz;simp(disch:=omega)[go_sem,Dg.e,ad];intro T;refine hk _ T es clock l ch hl (.inl ⟨rfl,rfl⟩) ?_ ?_ ?_ λi hi q1 q2=> ?_
   . simp[go_sem,hN]
   . simp(disch:=omega)[go_sem,hN,hM]
   . simp(disch:=omega)[go_sem,hN,hC]
   . simp(disch:=omega)[go_sem,hN]
 . have ad:¬(aM d).root=0:=λh=>hz (av.1 h);simp(disch:=omega)[go_sem,Dg.e,ad,hB,hN];refine wz (es:=es) (clock:=clock) (l:=l) (by simp(disch:=omega)[go_sem,hN,hM]) (by simp(disch:=omega)[go_sem,hN];try omega) hl λP hP=> ?_;simp(disch:=omega)[go_sem,hN]at hP;simp(disch:=omega)[go_sem,Dg.e,hN];refine ax.mk az λP2=>dI λaG=> ?_;refine ax.mk af λP3 aC=> ?_;replace aC:=cq aC;refine aL ?_;refine ax.mk ah λP4 aF=> ?_;replace aF:=cq aF;by_cases he:cP l k=cP l k|||d
   . have aq:decide (cP l k=cP l k|||d)=true:=decide_eq_true he;simp(disch:=omega)[go_sem,aq];intro T;refine hk _ T es clock l ch hl (.inl ⟨rfl,rfl⟩) ?_ ?_ ?_ λi hi q1 q2=> ?_
     . simp[go_sem];omega
     . simp(disch:=omega)[go_sem,hN,hM]
     . simp(disch:=omega)[go_sem,hN,hC]
     . simp(disch:=omega)[go_sem,hN]
   . have aq:decide (cP l k=cP l k|||d)=false:=decide_eq_false he;obtain⟨ak,ab,h2,h3⟩:=pI kq sI hl k clock (cP l k|||d);simp(disch:=omega)[go_sem,aq,hB,hN];refine⟨_,sE (es:=es) (clock:=clock) (by simp(disch:=omega)[go_sem,hN,hM]) rfl h2, ?_⟩;simp(disch:=omega)[go_sem,hC,hN];intro T;refine hk _ T ak ab _ true h3 (.inr ⟨hz,rfl,λh=>he h.symm,rfl⟩) ?_ ?_ ?_ λi hi q1 q2=> ?_
     . simp[go_sem];omega
     . simp(disch:=omega)[go_sem,hN]
     . simp(disch:=omega)[go_sem,hN]
     . simp(disch:=omega)[go_sem,hN,q1,q2]
structure An where
 g:aq
 dE:List Nat
def An.e(a:An):List DV:=a.g.e++[.sl 2 (a.dE.map λc=>(aM c).e)]
structure An.Ok(a:An):Prop where
 len:a.dE.length=a.g.ay.length
 lt:∀c∈a.dE,c<256
 ay:a.g.ay.length<=2000
 aP:a.g.aP.length<=2000
 left:∀p∈a.g.ay,0<=p.left/\p.left<a.g.aP.length
 right:∀p∈a.g.ay,p.right.length<=16
def y6(p:aX):Prop:=∀s∈p.right,s.tok=false
def sJ(a:An)(NU:Int->Prop):Prop:=∀p∈a.g.ay,y6 p->(∀s∈p.right,NU s.idx)->NU p.left
def pM(NU:Int->Prop)(l:List (Int×Nat)):Prop:=∀k,cP l k≠0->NU k
def De(l:List (Int×Nat)):∀(syms:List Sym) (c:Nat),gr l c syms≠0->c≠0/\∀s∈syms,s.tok=false->cP l s.idx≠0
 |[],c,h=>⟨h,λs hs=>by cases hs⟩
 |s::r,c,h=>by
  have h':gr l (if s.tok=true\/c=0 then c else c&&&cP l s.idx) r≠0:=h;obtain⟨h1,h2⟩:=De l r _ h';by_cases hs:s.tok=true\/c=0
  . rw[if_pos hs]at h1;refine⟨h1,λx hx ht=> ?_⟩;rcases adr.1 hx with rfl|hx
    . rcases hs with hs|hs
      . rw[hs]at ht;cases ht
      . exact absurd hs h1
    . exact h2 x hx ht
  . rw[if_neg hs]at h1;refine⟨λhc=>hs (.inr hc),λx hx ht=> ?_⟩;rcases adr.1 hx with rfl|hx
    . intro h0;rw[h0]at h1;simp at h1
    . exact h2 x hx ht
def Jj{a b:Nat}(h:a|||b≠a):a<a|||b:=Nat.lt_of_le_of_ne Nat.left_le_or (Ne.symm h)
set_option maxHeartbeats 4000000 in
def ab9{K:cD}{dd:List FuncId}{h:ae}{Ba Be Bs B2 M C:Nat}{es:List bH}{clock:Nat}{l:List (Int×Nat)}{ch:Bool}(a:An)(ha:a.Ok)(NU:Int->Prop)(bB:sJ a NU)
 (o1:Ba<Be) (o2:Be<M) (o3:M<Bs) (o4:Bs<B2) (o5:B2<C) (o6:C<h.next)
 (g1:h.get Ba=some (.row [.ptr a.e 0] true 0)) (g2:h.get Be=some (.row [bV true] true 0)) (g3:h.get M=some (.map es clock)) (g4:h.get Bs=some (.row [.v (.map (some M))] true 0)) (g5:h.get B2=some (.row [.v (.map (some M))] true 0)) (g6:h.get C=some (.row [bV ch] true 0))
 (hl:ju es l) (bD:jW l) (bE:pM NU l)
 (hk:∀h' T bk aF l' aH,ju bk l'->jW l'->pM NU l'->((l'=l/\aH=ch)\/(mu a.g.aP.length l'<mu a.g.aP.length l/\aH=true))->h.next<=h'.next->h'.get M=some (.map bk aF)->h'.get C=some (.row [bV aH] true 0)->(∀i,i<h.next->i≠M->i≠C->h'.get i=h.get i)->K (.bp []) dd h' T):
 ax E true K dd h (160,[.fn 190 [] [.v (.pointer (some ⟨B2,0,none⟩)),.v (.pointer (some ⟨C,0,none⟩))],.v (.pointer (some ⟨Ba,0,none⟩)),.v (.pointer (some ⟨Be,0,none⟩)),.v (.pointer (some ⟨Bs,0,none⟩))]):=by
 refine c8.frame [Ba,Be,M,Bs,B2,C] (by simp;omega) ?_;obtain⟨N,hN⟩:∃N,h.next=N:=⟨_,rfl⟩;refine gR (K:=λv _ bm _=>∀af:ae,af.next=bm.next->(∀i,(i∈[Ba,Be,M,Bs,B2,C]\/h.next<=i)->af.get i=bm.get i)->(∀i,i<h.next->i∉[Ba,Be,M,Bs,B2,C]->af.get i=h.get i)->K v dd af [Ba,Be,M,Bs,B2,C]) (dd:=dd) Tryz.ntmps160 Tryz.results160 ?_;simp only[e9,g1,g2,g3,g4,g5,g6];rw[hN]at o6⊢;have bQ:=ha.ay;simp(disch:=omega)[go_sem,An.e,aq.e];obtain⟨aS,aL⟩:∃aS,aS=DV.fn 190 [] [.v (.pointer (some ⟨B2,0,none⟩)),.v (.pointer (some ⟨C,0,none⟩))]:=⟨_,rfl⟩;rw[<-aL];obtain⟨I,hI⟩:∃I:Nat->DS->Prop,∀j d,I j d↔∃(k P:Nat) (es:List bH) (clock:Nat) (l':List (Int×Nat)) (aH:Bool),j+k=a.g.ay.length/\N<=P/\ju es l'/\jW l'/\pM NU l'/\((l'=l/\aH=ch)\/(mu a.g.aP.length l'<mu a.g.aP.length l/\aH=true))/\
  d=⟨bw [(0,aS),(1,.v (.pointer (some ⟨Ba,0,none⟩))),(2,.v (.pointer (some ⟨Be,0,none⟩))),(3,.v (.pointer (some ⟨Bs,0,none⟩))),(13,.sl 13 (a.g.ay.map aX.e)),(14,iV a.g.ay.length),(15,iV k)],49,[],cj P [(Ba,.row [.ptr a.e 0] true 0),(Be,.row [bV true] true 0),(M,.map es clock),(Bs,.row [.v (.map (some M))] true 0),(B2,.row [.v (.map (some M))] true 0),(C,.row [bV aH] true 0)]⟩:=⟨_,λ_ _=>yB⟩
 refine bS I a.g.ay.length ⟨_,aB.mk (N:=N) ah ah ?_,(hI _ _).2 ⟨0,N,es,clock,l,ch,rfl,RW _,hl,bD,bE,.inl ⟨rfl,rfl⟩,rfl⟩⟩ ?_
 . simp(disch:=omega)[go_sem,An.e,aq.e]
 . intro j ds bo;obtain⟨k,P,aN,ab,l1,aT,hj,hP,aW,ad,an,av,rfl⟩:=(hI _ _).1 bo;clear bo;by_cases bq:k<a.g.ay.length
   . have aI:(k:Int)<a.g.ay.length:=aa;obtain⟨p,hx⟩:∃p,a.g.ay[k]? =some p:=⟨_,qG bq⟩;have aY:=KE hx;obtain⟨c,hc⟩:∃c,a.dE[k]? =some c:=⟨_,qG (by rw[ha.len];exact bq)⟩;have bs:=ha.lt c (KE hc);have aC:=ha.left p aY;have bR:=ha.right p aY;simp(disch:=omega)[go_sem,aI,hx,-getElem?_pos,aX.e];obtain⟨J,hJ⟩:∃J:Nat->DS->Prop,∀j d,J j d↔∃(m P2:Nat),j+m=p.right.length/\P<P2/\(∀i s,i<m->p.right[i]? =some s->s.tok=false)/\
      d=⟨bw [(0,aS),(1,.v (.pointer (some ⟨Ba,0,none⟩))),(2,.v (.pointer (some ⟨Be,0,none⟩))),(3,.v (.pointer (some ⟨Bs,0,none⟩))),(13,.sl 13 (a.g.ay.map aX.e)),(14,iV a.g.ay.length),(15,iV k),(5,iV k),(6,.v (.pointer (some ⟨P,0,none⟩))),(21,.sl 2 (p.right.map Sym.e)),(22,iV p.right.length),(23,iV m)],49,[],cj P2 [(Ba,.row [.ptr a.e 0] true 0),(Be,.row [bV true] true 0),(M,.map aN ab),(Bs,.row [.v (.map (some M))] true 0),(B2,.row [.v (.map (some M))] true 0),(C,.row [bV aT] true 0),(P,.row p.e true 0)]⟩:=⟨_,λ_ _=>yB⟩
     refine bS J p.right.length ⟨_,aB.mk (N:=P+1) ah ?_ ?_,(hJ _ _).2 ⟨0,P+1,rfl,aa,λi s hi=>aa,rfl⟩⟩ ?_
     . simp(disch:=omega)[go_sem,aX.e]
     . simp(disch:=omega)[go_sem,aX.e]
     . intro j2 bT bt;obtain⟨m,P2,bW,bX,bu,rfl⟩:=(hJ _ _).1 bt;clear bt;by_cases bF:m<p.right.length
       . have az:(m:Int)<p.right.length:=aa;obtain⟨s,hs⟩:∃s,p.right[m]? =some s:=⟨_,qG bF⟩;cases ht:s.tok with
         |true=>
          simp(disch:=omega)[go_sem,az,hs,-getElem?_pos,Sym.e,ht,aG];exact⟨j-1,aa,_,aB.mk (N:=P2+1) ah ah ah,(hI _ _).2 ⟨k+1,P2+1,aN,ab,l1,aT,aa,aa,aW,ad,an,av,rfl⟩⟩
         |false=>
          simp(disch:=omega)[go_sem,az,hs,-getElem?_pos,Sym.e,ht,aG];refine⟨j2-1,aa,_,aB.mk (N:=P2+1) ah ?_ ah,(hJ _ _).2 ⟨m+1,P2+1,aa,aa,λi s' hi ba=> ?_,rfl⟩⟩
          . simp(disch:=omega)[go_sem,Sym.e]
          . rcases afF i m with h1|h1
            . exact bu i s' h1 ba
            . have:i=m:=aa;subst this;rw[hs]at ba;cases ba;exact ht
       . have az:¬(m:Int)<p.right.length:=aa;have bx:y6 p:=λs hs=>by
          obtain⟨i,hi⟩:=afI hs;exact bu i s (by have:=(FQ.1 hi).1;omega) hi
         simp(disch:=omega)[go_sem,az];refine bZ [ai 0,lr 0,dC 2,aK 0,ai 8,ai 24,aK 56,ai 0,ai 248,aK 504,ai 0,aK 1024,aK 0,aU 8184,aU 16383] ak 0 rfl ?_;simp(disch:=omega)[go_sem,aX.e,An.e,aq.e,hc,-getElem?_pos,Dg.e];refine⟨aa, ?_⟩;refine ab0 (es:=aN) (clock:=ab) (l:=l1) ah (by simp(disch:=omega)[go_sem];try omega) aW ad bs aa λN2 bA=> ?_;replace bA:=cq bA;subst aL;simp(disch:=omega)[go_sem,Dg.e];refine⟨aa, ?_⟩;have bb:=y5 l1 p.right c bs;refine ab7 (M:=M) (B2:=B2) (C:=C) (es:=aN) (clock:=ab) (l:=l1) (k:=p.left) (d:=gr l1 c p.right) (ch:=aT) ah ah ah (by simp(disch:=omega)[go_sem];try omega) (by simp(disch:=omega)[go_sem];try omega) (by simp(disch:=omega)[go_sem];try omega) aa aa aa aW ad bb λh2 T bG aJ l2 bc bI ao bK bL bM aQ=> ?_;simp(disch:=omega)[go_sem]at bK aQ;have bd:pM NU l2:=by
          rcases ao with⟨rfl,_⟩|⟨bf,rfl,_,_⟩
          . exact an
          . intro i hi;rw[Dd]at hi
            split at hi
            . rename_i he;subst he;exact bB p aY bx λs hs=>an _ ((De l1 p.right c bf).2 s hs (bx s hs))
            . exact an i hi
         have bg:jW l2:=by
          rcases ao with⟨rfl,_⟩|⟨bf,rfl,_,_⟩
          . exact ad
          . exact ad.put (wA (uB ad _) bb)
         have bj:(l2=l/\bc=ch)\/(mu a.g.aP.length l2<mu a.g.aP.length l/\bc=true):=by
          rcases ao with⟨rfl,rfl⟩|⟨bf,rfl,bP,rfl⟩
          . exact av
          . have:=Ji (l:=l1) aC.1 aC.2 (wA (uB ad p.left) bb) (Jj bP);refine .inr ⟨?_,rfl⟩;rcases av with⟨rfl,_⟩|⟨h3,_⟩
            . exact this
            . omega
         simp(disch:=omega)[go_sem,aG];refine⟨j-1,aa,_,aB.mk (N:=h2.next) rfl ah ?_,(hI _ _).2 ⟨k+1,h2.next,bG,aJ,l2,bc,aa,aa,bI,bg,bd,bj,rfl⟩⟩
         . simp(disch:=omega)[go_sem,bL,bM,aQ,An.e,aq.e,Dg.e]
   . have aI:¬(k:Int)<a.g.ay.length:=aa;simp(disch:=omega)[go_sem,aI];intro af q1 q2 q3;refine hk af _ aN ab l1 aT aW ad an av aa ?_ ?_ λi hi i1 i2=> ?_
     . have:=q2 M (.inl aw);simpa(disch:=omega)[go_sem]using this
     . have:=q2 C (.inl aw);simpa(disch:=omega)[go_sem]using this
     . by_cases z1:i=Ba
       . subst z1;have:=q2 i (.inl aw);rw[g1];simpa using this
       . by_cases z2:i=Be
         . subst z2;have:=q2 i (.inl aw);rw[g2];simpa(disch:=omega)[go_sem]using this
         . by_cases z3:i=Bs
           . subst z3;have:=q2 i (.inl aw);rw[g4];simpa(disch:=omega)[go_sem]using this
           . by_cases z4:i=B2
             . subst z4;have:=q2 i (.inl aw);rw[g5];simpa(disch:=omega)[go_sem]using this
             . exact q3 i aa z1 z2 i1 z3 z4 i2
set_option maxHeartbeats 4000000 in
def aca{K:cD}{dd:List FuncId}{h:ae}{Ba Be Bs M:Nat}{es:List bH}{clock:Nat}{l:List (Int×Nat)}(a:An)(ha:a.Ok)(NU:Int->Prop)(aH:sJ a NU)
 (o1:Ba<Be) (o2:Be<M) (o3:M<Bs) (o4:Bs<h.next)
 (g1:h.get Ba=some (.row [.ptr a.e 0] true 0)) (g2:h.get Be=some (.row [bV true] true 0)) (g3:h.get M=some (.map es clock)) (g4:h.get Bs=some (.row [.v (.map (some M))] true 0))
 (hl:ju es l) (aY:jW l) (ba:pM NU l)
 (hk:∀h' T aN ak l',ju aN l'->jW l'->pM NU l'->h.next<=h'.next->h'.get M=some (.map aN ak)->(∀i,i<h.next->i≠M->h'.get i=h.get i)->K (.bp []) dd h' T):
 ax E true K dd h (159,[.v (.map (some M)),.fn 160 [] [.v (.pointer (some ⟨Ba,0,none⟩)),.v (.pointer (some ⟨Be,0,none⟩)),.v (.pointer (some ⟨Bs,0,none⟩))]]):=by
 refine c8.frame [Ba,Be,M,Bs] (by simp;omega) ?_;obtain⟨N,hN⟩:∃N,h.next=N:=⟨_,rfl⟩;refine gR (K:=λv _ aQ _=>∀ad:ae,ad.next=aQ.next->(∀i,(i∈[Ba,Be,M,Bs]\/h.next<=i)->ad.get i=aQ.get i)->(∀i,i<h.next->i∉[Ba,Be,M,Bs]->ad.get i=h.get i)->K v dd ad [Ba,Be,M,Bs]) (dd:=dd) Tryz.ntmps159 Tryz.results159 ?_;simp only[e9,g1,g2,g3,g4];rw[hN]at o4⊢;refine aL ?_;obtain⟨aI,av⟩:∃aI,aI=DV.fn 160 [] [.v (.pointer (some ⟨Ba,0,none⟩)),.v (.pointer (some ⟨Be,0,none⟩)),.v (.pointer (some ⟨Bs,0,none⟩))]:=⟨_,rfl⟩;rw[<-av];obtain⟨I,hI⟩:∃I:Nat->DS->Prop,∀j d,I j d↔∃(P C:Nat) (es:List bH) (clock:Nat) (l':List (Int×Nat)) (ch:Bool),j=2*mu a.g.aP.length l'+(if ch then 1 else 0)/\N<C/\C<P/\ju es l'/\jW l'/\pM NU l'/\
  d=⟨bw [(1,aI),(2,.v (.pointer (some ⟨N,0,none⟩))),(4,.v (.pointer (some ⟨C,0,none⟩)))],10,[],cj P [(Ba,.row [.ptr a.e 0] true 0),(Be,.row [bV true] true 0),(M,.map es clock),(Bs,.row [.v (.map (some M))] true 0),(N,.row [.v (.map (some M))] true 0),(C,.row [bV ch] true 0)]⟩:=⟨_,λ_ _=>yB⟩
 refine bS I (2*mu a.g.aP.length l+1) ⟨_,aB.mk (N:=N+2) ah ah ?_,(hI _ _).2 ⟨N+2,N+1,es,clock,l,true,rfl,aa,aa,hl,aY,ba,rfl⟩⟩ ?_
 . simp(disch:=omega)[go_sem,An.e,aq.e]
 . intro j ds aS;obtain⟨P,C,aT,ai,l1,ch,hj,hC,hP,aU,az,aC,rfl⟩:=(hI _ _).1 aS;clear aS;cases ch with
   |false=>
    refine aL ?_;intro ad q1 q2 q3;refine hk ad _ aT ai l1 aU az aC aa ?_ λi hi i1=> ?_
    . have:=q2 M (.inl aw);simpa(disch:=omega)[go_sem]using this
    . by_cases z1:i=Ba
      . subst z1;have:=q2 i (.inl aw);rw[g1];simpa using this
      . by_cases z2:i=Be
        . subst z2;have:=q2 i (.inl aw);rw[g2];simpa(disch:=omega)[go_sem]using this
        . by_cases z3:i=Bs
          . subst z3;have:=q2 i (.inl aw);rw[g4];simpa(disch:=omega)[go_sem]using this
          . exact q3 i aa z1 z2 i1 z3
   |true=>
    simp only[if_true]at hj;subst av;refine aL ?_;refine ab9 (Ba:=Ba) (Be:=Be) (Bs:=Bs) (B2:=N) (M:=M) (C:=C) (es:=aT) (clock:=ai) (l:=l1) (ch:=false) a ha NU aH o1 o2 o3 aa hC (by simp(disch:=omega)[go_sem];try omega) ah ah ah ah ah ah aU az aC λh2 T aJ ab l2 aW aK an ao aF aM aG aX af=> ?_;simp(disch:=omega)[go_sem]at aM af;simp(disch:=omega)[go_sem,aX];refine⟨2*mu a.g.aP.length l2+(if aW then 1 else 0), ?_,_,aB.mk (N:=h2.next+1) ah ah ?_,(hI _ _).2 ⟨h2.next+1,h2.next,aJ,ab,l2,aW,rfl,aa,aa,aK,an,ao,rfl⟩⟩
    . rcases aF with⟨rfl,rfl⟩|⟨h3,rfl⟩
      . simp;omega
      . simp;omega
    . simp(disch:=omega)[go_sem,aG,aX,af]
def acb(NU:Int->Prop):pM NU []:=λk h=>absurd rfl h
def Jk{κ:Type}[DecidableEq κ]:jW ([]:List (κ×Nat)):=λk c h=>by cases h
def acd{K:cD}{dd:List FuncId}{h:ae}(a:An)(ha:a.Ok)(NU:Int->Prop)(aH:sJ a NU)
 (hk:∀h' T M es clock l,ju es l->jW l->pM NU l->h.next<=M->M<h'.next->h'.get M=some (.map es clock)->(∀i,i<h.next->h'.get i=h.get i)->K (.v (.map (some M))) dd h' T):
 ax E true K dd h (110,[.ptr a.e 0,bV true]):=by
 obtain⟨N,hN⟩:∃N,h.next=N:=⟨_,rfl⟩;refine gR Tryz.ntmps110 Tryz.results110 ?_;simp(disch:=omega)[go_sem,hN];refine aca (Ba:=N) (Be:=N+1) (M:=N+2) (Bs:=N+3) (es:=[]) (clock:=0) (l:=[]) a ha NU aH aa aa aa (by simp(disch:=omega)[go_sem,hN];try omega) (by simp(disch:=omega)[go_sem,hN]) (by simp(disch:=omega)[go_sem,hN]) (by simp(disch:=omega)[go_sem,hN]) (by simp(disch:=omega)[go_sem,hN]) rfl Jk (acb NU) λh2 T aJ ab l2 aK an ao aM aG af=> ?_;simp(disch:=omega)[go_sem,hN]at aM af;simp(disch:=omega)[go_sem,aG,af];intro T2;refine hk h2 T2 (N+2) aJ ab l2 aK an ao aa aa aG λi hi=> ?_;simp(disch:=omega)[af,go_sem,hN]
end Go.Sp
end
noncomputable section
open Go Go.aD Go.Proofs
namespace Go.aD
variable {e:Env}
def c8.any{ar:Bool}{f:FuncId}{args:List DV}{dh:ae}{K:DV->ae->List Nat->Prop}(hc:c8 e true f args dh K):c8 e ar f args dh K:=by
 cases ar with
 |true=>exact hc
 |false=>
  intro G h vs x ha;obtain⟨v,h',h1,h2⟩:=hc G h vs x ha;exact h1.k h2
def ax.any{ar:Bool}{K:cD}{dd:List FuncId}{h:ae}{p:FuncId×List DV}(hc:ax e true K dd h p):ax e ar K dd h p:=c8.any hc
def lC(es:List bH)(clock:Nat):Prop:=(∀x∈es,x.born<clock)/\(es.map (·.born)).Nodup
theorem lC.nil(clock:Nat):lC [] clock:=⟨λ_ h=>(by cases h),List.nodup_nil⟩
def ace(es:List bH)(i:Nat)(k:Value)(d:DV):(es.modify i λx=>{x with key:=k,val:=d}).map (·.born)=es.map (·.born):=by
 induction es generalizing i with
 |nil=>cases i<;>rfl
 |cons x es ih=>cases i with
  |zero=>rfl
  |succ i=>simp only[List.modify_succ_cons,Xy,ih]
def lC.up{ty:TypeId}{k:Value}{d:DV}{es ad:List bH}{clock ab:Nat}(hb:lC es clock)(hu:kM e ty k d es clock=some (.map ad ab)):lC ad ab:=by
 unfold kM at hu
 split at hu
 . split at hu
   . cases hu
   . split at hu
     . split at hu
       . cases hu
       . split at hu
         . cases hu;rename_i i _ _;have hm:=ace es i k d;refine⟨λx hx=> ?_,by rw[hm];exact hb.2⟩;have:x.born∈es.map (·.born):=by rw[<-hm];exact RC.2 ⟨x,hx,rfl⟩
           obtain⟨y,hy,af⟩:=RC.1 this;rw[<-af];exact hb.1 y hy
         . cases hu
       . cases hu;refine⟨λx hx=> ?_, ?_⟩
         . rcases List.mem_append.1 hx with hx|hx
           . have:=hb.1 x hx;omega
           . simp only[afT]at hx;subst hx;exact Nat.lt_succ_self _
         . rw[List.map_append,afN];refine⟨hb.2,aw,λa ha b ai an=> ?_⟩;simp only[Xy,List.map_nil,afT]at ai;obtain⟨y,hy,ao⟩:=RC.1 ha;have:=hb.1 y hy;omega
     . cases hu
 . cases hu
end Go.aD
namespace Go.Sp
def acf:E.under 199=some (.array 2 3):=ak
def wB:E.under 197=some (.map 199 33):=ak
def qT:E.under 201=some (.map 3 70):=ak
def Df:E.zero 70=some (.slice none 0 0):=ak
def qU(x:Int×Int):Value:=.agg #[.int .i64 x.1,.int .i64 x.2]
def acg(d:Nat)(a b a' b':Int):b9 Tryz.prog (Op.equalIn (d+1+1) 199 (.agg #[.int .i64 a,.int .i64 b]) (.agg #[.int .i64 a',.int .i64 b']))=some (decide (a=a')&&decide (b=b')):=by
 rw[Op.equalIn];by_cases h1:a=a'<;>by_cases h2:b=b'<;>
  simp[h1,h2,mA,ug _ _ Tryz.underlying199,uh,sD,yH,IA,eq_int d 3 .i64 _ _ Tryz.underlying3,List.range',afU,afV]
def ach(a b a' b':Int):b9 Tryz.prog (Op.equal 199 (.agg #[.int .i64 a,.int .i64 b]) (.agg #[.int .i64 a',.int .i64 b']))=some (decide (a=a')&&decide (b=b')):=by
 obtain⟨d,hd⟩:=yI;unfold Op.equal;rw[hd];exact acg d a b a' b'
def y7:kI E 199 qU:=by
 refine⟨⟨_,acf,λk=>rfl⟩,λk=>rfl,λk b=>⟨(),ak⟩,λa b=> ?_,λk=>by simp[qU,Instr.sameBits]⟩;obtain⟨a1,a2⟩:=a;obtain⟨b1,b2⟩:=b;show b9 Tryz.prog (Op.equal 199 (qU _) (qU _))=_;rw[qU,qU,ach];congr 1;simp only[afy,Bool.decide_and]
abbrev y8(es:List bH)(l:List ((Int×Int)×Nat)):Prop:=fC qU (λc:Nat=>.agg (aM c).e) es l
def aci{ar:Bool}{K:cD}{dd:List FuncId}{h:ae}{r:Nat}{es:List bH}{clock:Nat}{l:List ((Int×Int)×Nat)}{x y:Int}(hm:h.get r=some (.map es clock))(hr:r<h.next)(hl:y8 es l)
 (hk:∀N,h.next<=N->K (.agg (aM (cP l (x,y))).e) dd (h.up N) [r]):ax E ar K dd h (114,[.v (.map (some r)),.agg [iV x,iV y]]):=by
 refine uA [r] Tryz.ntmps114 Tryz.results114 ?_;simp only[e9,hm];cases ha:bj l (x,y)with
 |none=>
  have h1:=sA y7 wB hl (x,y) true Je rfl ha;have hg:cP l (x,y)=0:=by simp[cP,ha]
  rw[hg,Jf]at hk;refine aL ?_;refine⟨_,lU (es:=es) (clock:=clock) ah rfl h1, ?_⟩;simp(disch:=omega)[go_sem,fZ];refine ax.mk (Dc false) λM=>aT λhM=> ?_;simp(disch:=omega)[go_sem,Dg.e]at hk⊢;exact⟨hm.symm,hk M aa⟩
 |some c=>
  have h1:=sy y7 wB hl (x,y) true ha;have hg:cP l (x,y)=c:=by simp[cP,ha]
  rw[hg]at hk;refine aL ?_;refine⟨_,lU (es:=es) (clock:=clock) ah rfl h1, ?_⟩;simp(disch:=omega)[go_sem,Dg.e]at hk⊢;exact⟨hm.symm,hk _ aa⟩
end Go.Sp
end

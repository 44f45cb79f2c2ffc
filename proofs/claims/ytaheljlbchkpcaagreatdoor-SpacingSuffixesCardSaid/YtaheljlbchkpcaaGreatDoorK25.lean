/- SpacingSuffixes: parts of its proof (Ge1 Ge3 Ge4 Kn Ge5 Ge6 Ge7 Ge8 Ge9 ClFA). -/
import Derived.Test.YtaheljlbchkpcaaGreatDoorK22
import Derived.Test.YtaheljlbchkpcaaGreatDoorK24
set_option linter.unusedVariables false
set_option linter.unusedSimpArgs false
noncomputable section
open Go Go.aw Go.Proofs
namespace Go.Sp
set_option maxRecDepth 100000
variable {aj:Bool}
theorem Z6(i:Int):ax E aj 45 [iV i] (.agg [bV false,iV i]):=by
 refine bc VP rfl Tryz.ntmps45 Tryz.results45 λN=> ?_;simp[go_sem,mG]
theorem H7(i:Int):ax E aj 20 [iV i] (.agg [bV true,iV i]):=by
 refine bc VA rfl Tryz.ntmps20 Tryz.results20 λN=> ?_;simp[go_sem,mG]
def aQ(b:Bool):Dg:=⟨[],if b then 1 else 0⟩
theorem qf(b:Bool):ax E aj 11 [bV b] (.agg (aQ b).e):=by
 refine bc Vu rfl Tryz.ntmps11 Tryz.results11 λN=> ?_;cases b<;>simp[go_sem,mG,aQ,Dg.e]
def kz(s:ByteArray)(l:Int)(rv:DV)(c:Dg):List DV:=[sV s,iV l,rv,.sl 3 (c.nodes.map de),iV c.root,bV false,iV 0,.sl 3 [],bV false,iV 0,iV 0,iV 0,iV 0]
theorem H8(s:ByteArray)(l:Int)(rv:DV)(hr:cE rv=[rv])(ho:di rv=true):ax E aj 19 [sV s,iV l,rv] (.agg (kz s l rv (aQ true))):=by
 refine bc Vz rfl Tryz.ntmps19 Tryz.results19 λN=> ?_;simp[go_sem];refine aq.mk (qf true) λM hM=> ?_;simp[go_sem,Dg.e,kz,hr,ho]
def jt:G5:=⟨false,0,0,0,0⟩
def bu(s:ByteArray)(l:Int)(r:List Sym)(c:Dg):aR:=⟨s,l,r,c,false,0,[],jt⟩
def rG(l:Int)(r:List Sym):Bool:=match r with
 |[a,b,c]=>a.tok&&c.tok&& !b.tok&&decide (b.idx=l)
 |_=>false
theorem Z7(o p:Operand):cS E .neq 74 o p (.agg #[.bool false,.int .i64 0,.int .i64 0,.int .i64 0,.int .i64 0]) (.agg #[.bool false,.int .i64 0,.int .i64 0,.int .i64 0,.int .i64 0])=some (.bool false):=by kernel_rfl
theorem Z8(s:ByteArray)(l:Int)(r:List Sym)(c:Dg)(b:Bool)(hr:r.length<=4):ax E aj 81 [.agg {bu s l r c with bracket:=b}.e] (bV (rG l r)):=by
 refine bc We rfl Tryz.ntmps81 Tryz.results81 λN=> ?_;by_cases h3:r.length=3
 . obtain⟨x,y,z,rfl⟩:∃x y z,r=[x,y,z]:=by
    match r,h3 with
    |[x,y,z],_=>exact⟨x,y,z,rfl⟩
   simp[go_sem,mG,aR.e,bu,jt,jK,exact,wJ,Z7];refine kr [ae 0,aJ 1,ae 3,ae 7,aJ 15,ae 31,ae 63,aJ 127,ae 255,ae 511,aJ 1023,ae 2047,ae 4095,ae 8191,aJ 16383,ae 32767,ae 65535,aJ 131071,ae 262143,ae 524287,ae 1048575,ae 2097151,aJ 4194303,ae 8388607,ae 16777215,aJ 33554431,ae 2097151,aJ 69206015,ae 268435455,ae 536870911,ae 1073741823] (by kernel_rfl) 0 rfl (N+1) (by simp[go_sem]) ?_;obtain⟨x1,x2⟩:=x;obtain⟨y1,y2⟩:=y;obtain⟨z1,z2⟩:=z;cases x1<;>cases z1<;>cases y1<;>simp[go_sem,mG,Sym.e,rG]
 . have af:¬(r.length:Int)=3:=by omega
   have hb:rG l r=false:=by
    match r,h3 with
    |[],_=>rfl
    |[_],_=>rfl
    |[_,_],_=>rfl
    |_::_::_::_::_,_=>rfl
   simp[go_sem,mG,aR.e,bu,jt,af,hb]
theorem wrap_u8{x:Int}(h1:0<=x)(h2:x<256):IntKind.u8.wrap x=x:=by
 simp[IntKind.wrap,IntKind.bits,IntKind.signed];omega
theorem dr{a b:Int}(h:0<=a):a.tmod b=a%b:=Int.tmod_eq_emod_of_nonneg h
theorem jT{a b:Int}(h:0<=a):a.tdiv b=a/b:=Int.tdiv_eq_ediv_of_nonneg h
def mark(s:ByteArray)(l:Int)(r:List Sym)(c:Dg)(m:Int):aR:=
 let n:Int:=r.length
 let k:=m/8
 let tk:=match r[(k%n).toNat]? with|some x=>x.tok|none=>false
 let p:=bu s l r c
 if n=0 then p else
 if m%8=1 then{p with fk:=1}
 else if m%8=2 then{p with fk:=-1}
 else if m%8=3 then{p with bracket:=rG l r}
 else if m%8=4 then{p with layout:=[⟨1+k%4,k/4%n,if k%4=0 then 0 else n-1⟩]}
 else if m%8=5 then{p with scope:=⟨true,0,0,0,0⟩}
 else if m%8=6 then(if tk then{p with scope:=⟨false,k%n+1,1+k%2,0,0⟩}else p)
 else if m%8=7 then(if tk then{p with scope:=⟨false,0,0,k%n+1,1+k%7⟩}else p)
 else p
theorem H9(s:ByteArray)(l:Int)(r:List Sym)(c:Dg)(m:Int)(hr:r.length<=4)(h0:0<=m)(h1:m<256):ax E aj 46 [.agg (bu s l r c).e,uV m] (.agg (mark s l r c m).e):=by
 refine bc VQ rfl Tryz.ntmps46 Tryz.results46 λN=> ?_;by_cases hn:r.length=0
 . have:r=[]:=List.eq_nil_of_length_eq_zero hn;subst this;simp[go_sem,mG,aR.e,bu,jt,mark]
 . have aa:¬(r.length:Int)=0:=by omega
   have ad:0<=m/8%(r.length:Int):=Int.emod_nonneg _ aa;have ai:m/8%(r.length:Int)<r.length:=Int.emod_lt_of_pos _ (by omega);obtain⟨x,hx⟩:∃x,r[(m/8%(r.length:Int)).toNat]? =some x:=⟨_,List.getElem?_eq_getElem (by omega)⟩;have hm:m%8=0\/m%8=1\/m%8=2\/m%8=3\/m%8=4\/m%8=5\/m%8=6\/m%8=7:=by omega
   rcases hm with hm|hm|hm|hm|hm|hm|hm|hm
   . simp(disch:=omega)[go_sem,mG,aR.e,bu,jt,mark,aa,hn,dr,jT,wrap_u8,aD,hm]
   . simp(disch:=omega)[go_sem,mG,aR.e,bu,jt,mark,aa,hn,dr,jT,wrap_u8,aD,hm]
   . simp(disch:=omega)[go_sem,mG,aR.e,bu,jt,mark,aa,hn,dr,jT,wrap_u8,aD,hm]
   . simp(disch:=omega)[go_sem,aR.e,bu,jt,mark,aa,hn,dr,jT,wrap_u8,aD,hm];refine aq.mk (Z8 s l r c true hr) λM hM=> ?_;simp(disch:=omega)[go_sem,aR.e,bu,jt,mark,aa,hn,dr,jT,wrap_u8,aD,hm]
   . simp(disch:=omega)[go_sem,aR.e,bu,jt,mark,aa,hn,dr,jT,wrap_u8,aD,hm];refine oJ.mk _ _ (λhz=> ?_) (λhz=> ?_)
     . simp(disch:=omega)[go_sem,hz,uF];refine eO (cN (wr:=true) (ah:=0) (by simp(disch:=omega)[go_sem,mI.e])) (.inl rfl) (by decide) (by simp) (by simp) (by simp[mI.e])
     . simp(disch:=omega)[go_sem,hz];refine eO (cN (wr:=true) (ah:=0) (by simp(disch:=omega)[go_sem,mI.e])) (.inl rfl) (by decide) (by simp) (by simp) (by simp[mI.e])
   . simp(disch:=omega)[go_sem,aR.e,bu,jt,mark,aa,hn,dr,jT,wrap_u8,aD,hm]
   . cases ab:x.tok with
     |true=>
      simp(disch:=omega)[go_sem,aR.e,bu,jt,mark,aa,hn,dr,jT,wrap_u8,aD,hm,hx,ab,-getElem?_pos];refine kr [ae 0,aJ 1,ae 0,ae 0,ae 12,ae 31,ae 63,aJ 127] (by kernel_rfl) 0 rfl (N+2) (by simp[go_sem]) ?_;simp(disch:=omega)[go_sem,dr,aD,ad,hx,ab,Sym.e,-getElem?_pos]
     |false=>
      simp(disch:=omega)[go_sem,aR.e,bu,jt,mark,aa,hn,dr,jT,wrap_u8,aD,hm,hx,ab,-getElem?_pos];refine kr [ae 0,aJ 1,ae 0,ae 0,ae 12,ae 31,ae 63,aJ 127] (by kernel_rfl) 0 rfl (N+2) (by simp[go_sem]) ?_;simp(disch:=omega)[go_sem,dr,aD,ad,hx,ab,Sym.e,-getElem?_pos]
   . cases ab:x.tok with
     |true=>
      simp(disch:=omega)[go_sem,aR.e,bu,jt,mark,aa,hn,dr,jT,wrap_u8,aD,hm,hx,ab,-getElem?_pos];refine kr [ae 0,aJ 1,ae 0,ae 0,ae 12,ae 31,ae 63,aJ 127] (by kernel_rfl) 0 rfl (N+2) (by simp[go_sem]) ?_;simp(disch:=omega)[go_sem,dr,aD,ad,hx,ab,Sym.e,-getElem?_pos]
     |false=>
      simp(disch:=omega)[go_sem,aR.e,bu,jt,mark,aa,hn,dr,jT,wrap_u8,aD,hm,hx,ab,-getElem?_pos];refine kr [ae 0,aJ 1,ae 0,ae 0,ae 12,ae 31,ae 63,aJ 127] (by kernel_rfl) 0 rfl (N+2) (by simp[go_sem]) ?_;simp(disch:=omega)[go_sem,dr,aD,ad,hx,ab,Sym.e,-getElem?_pos]
end Go.Sp
end
noncomputable section
open Go Go.aw Go.Proofs
namespace Go.Sp
set_option maxRecDepth 100000
variable {aj:Bool}
def vr(v:Int):Dg:=⟨[(v,0,1)],2⟩
theorem ib{h:ab}{r k n c ah:Nat}{xs:List (List DV)}(hk:0<k)(hx:∀x∈xs,x.length=k)(hn:n=xs.length)(hc:n<=c)(he:ah=0\/ah=k){wr:Bool}(hr:h.get r=some (.row xs.flatten wr ah)):Fz (allRows h) (.v (.slice (some ⟨r,0,none⟩) n c)) (.sl k xs):=
 eO (cN hr) he hk hn hc hx
theorem Ia(v:Int)(h0:0<=v)(h1:v<64):ax E aj 52 [iV v] (.bg [.agg (vr v).e,iV 0]):=by
 refine bc VS rfl Tryz.ntmps52 Tryz.results52 λN=> ?_;have e1:¬v<0:=by omega
 have e2:¬63<v:=by omega
 simp(disch:=omega)[go_sem,e1,e2,vr,Dg.e,de];exact ib (by decide) (by simp) (by simp) (Nat.le_refl _) (.inl rfl) (wr:=true) (by simp(disch:=omega)[go_sem])
theorem aaa(v:Int)(h0:0<=v)(h1:v<64):ax E aj 25 [iV v] (.agg (vr v).e):=by
 refine bc VD rfl Tryz.ntmps25 Tryz.results25 λN=> ?_;simp(disch:=omega)[go_sem];refine aq.mk (Ia v h0 h1) λM hM=> ?_;simp(disch:=omega)[go_sem,Dg.e]at hM⊢
theorem qg(a b:Int):ax E aj 76 [iV a,iV b] (.agg (aY.e ⟨1,a,b,0,0⟩)):=by
 refine bc Wb rfl Tryz.ntmps76 Tryz.results76 λN=> ?_;simp(disch:=omega)[go_sem,aY.e]
theorem qh(k a b:Int):ax E aj 77 [iV k,iV a,iV b] (.agg (aY.e ⟨k,0,0,a,b⟩)):=by
 refine bc Wc rfl Tryz.ntmps77 Tryz.results77 λN=> ?_;simp(disch:=omega)[go_sem,aY.e]
def ic:List aY:=[⟨1,97,122,0,0⟩,⟨1,97,122,0,0⟩,⟨4,0,0,1,0⟩,⟨2,0,0,0,2⟩]
def CS:List aY:=[⟨1,9,10,0,0⟩,⟨1,32,32,0,0⟩,⟨3,0,0,0,1⟩,⟨1,9,10,0,0⟩,⟨1,32,32,0,0⟩,⟨3,0,0,3,4⟩,⟨4,0,0,5,0⟩,⟨2,0,0,2,6⟩]
def CT:List aY:=[⟨1,37,37,0,0⟩,⟨1,97,122,0,0⟩,⟨1,32,32,0,0⟩,⟨3,0,0,1,2⟩,⟨4,0,0,3,0⟩,⟨2,0,0,0,4⟩]
def lits:List ByteArray:=[⟨#[43]⟩,⟨#[42]⟩,⟨#[40]⟩,⟨#[41]⟩,⟨#[105,102]⟩,⟨#[101,108,115,101]⟩,⟨#[59]⟩,⟨#[94]⟩]
def gN(s:ByteArray):Tok:=⟨s,0,s,[],⟨#[]⟩,aQ true⟩
def iX:Tok:=⟨⟨#[105,100]⟩,0,⟨#[]⟩,ic,⟨#[120]⟩,aQ true⟩
def u7:Tok:=⟨⟨#[115,112,97,99,101]⟩,1,⟨#[]⟩,CS,⟨#[]⟩,aQ true⟩
def zp:Tok:=⟨⟨#[114,101,109,97,114,107]⟩,2,⟨#[]⟩,CT,⟨#[]⟩,aQ true⟩
def ar:List Tok:=(iX::lits.map gN)++[u7,zp]
def vb(s:ByteArray):List DV:=[sV s,iV 0,sV s,eN,sV ⟨#[]⟩,.sl 3 [],iV 1]
def mh(q k:Nat):List DV:=[sV iX.name,iV 0,sV ⟨#[]⟩,.v (.slice (some ⟨q,0,none⟩) 4 4),sV iX.jo,.sl 3 [],iV 1]++((lits.take k).map vb).flatten
theorem aab(q k:Nat):(mh q k).length=7+7*min k 8:=by
 unfold mh;rw[List.length_append,fQ (k:=7) (by intro y hy;obtain⟨z,_,rfl⟩:=List.mem_map.1 hy;rfl)];simp[lits];omega
theorem aac(q k:Nat)(s:ByteArray)(h:lits[k]? =some s):mh q (k+1)=mh q k++vb s:=by
 unfold mh;rw[List.take_add_one,h];simp
theorem aad:ax E aj 43 [] (.sl 7 (ar.map Tok.e)):=by
 refine bc VO rfl Tryz.ntmps43 Tryz.results43 λN=> ?_;simp(disch:=omega)[go_sem];refine aq.mk (qf true) λM hM=> ?_;simp(disch:=omega)[go_sem]at hM;simp(disch:=omega)[go_sem,Dg.e,aQ];refine aq.mk (qg 97 122) λP0 af=> ?_;simp(disch:=omega)[go_sem]at af;simp(disch:=omega)[go_sem,Dg.e,aY.e,aQ];refine aq.mk (qg 97 122) λP1 ai=> ?_;simp(disch:=omega)[go_sem]at ai;simp(disch:=omega)[go_sem,Dg.e,aY.e,aQ];refine aq.mk (qh 4 1 0) λP2 ao=> ?_;simp(disch:=omega)[go_sem]at ao;simp(disch:=omega)[go_sem,Dg.e,aY.e,aQ];refine aq.mk (qh 2 0 2) λP3 au=> ?_;simp(disch:=omega)[go_sem]at au;simp(disch:=omega)[go_sem,Dg.e,aY.e,aQ];obtain⟨I,hI⟩:∃I:Nat->DS->Prop,∀j d,I j d↔∃(k r z M':Nat),j+k=8/\((z=0/\k=0)\/z=7)/\d=⟨bQ [(1,.v (.pointer (some ⟨M,0,none⟩))),(2,.v (.slice (some ⟨r,0,none⟩) (k+1) (k+1))),(3,.v (.slice (some ⟨P3+1,0,none⟩) 8 8)),(4,iV k)],67,[],
  cK M' [(M,.row (aQ true).e true 0),(P3+1,.row (lits.map sV) true 0),(P3,.row (ic.map aY.e).flatten true 0),(r,.row (mh P3 k) true z)]⟩/\P3+2<=M'/\r<M'/\r≠M/\r≠P3+1/\r≠P3:=⟨_,λ_ _=>Iff.rfl⟩
 refine cx I 8 ⟨_,aA.mk (N:=P3+2) ?_ ?_ ?_,(hI _ _).2 ⟨0,M+1,0,P3+2,rfl,.inl ⟨rfl,rfl⟩,rfl,by omega,by omega,by omega,by omega,by omega⟩⟩ ?_
 . simp(disch:=omega)[go_sem]
 . simp[go_sem]
 . simp(disch:=omega)[go_sem,lits,ic,iX,mh,aY.e,Dg.e,aQ]
 . intro j d hd;obtain⟨k,r,z,M',hj,hz,rfl,aZ,bb,bf,bh,bj⟩:=(hI _ _).1 hd;clear hd;have ad:(mh P3 k).length=(k+1)*7:=by rw[aab];omega
   by_cases hk:k<8
   . obtain⟨s,hs⟩:∃s,lits[k]? =some s:=⟨_,List.getElem?_eq_getElem (by exact hk)⟩;have av:(k:Int)<8:=by omega
     have aa:mh P3 k++vb s=mh P3 (k+1):=by rw[aac _ _ _ hs]
     simp(disch:=omega)[go_sem,av,hs,-getElem?_pos];refine kr [ae 0,ae 0,ae 0,ae 6,aJ 14,ae 0,ae 0,ae 96,aJ 224,aJ 0,ae 1022,cT 2046,aN 4095,ae 8191] (by kernel_rfl) 1 rfl M' (by simp(disch:=omega)[go_sem]) ?_;simp(disch:=omega)[go_sem,hs,Dg.e,aQ,-getElem?_pos];rcases hz with⟨rfl,bk⟩|rfl
     . refine gd (wr:=true) (by simp(disch:=omega)[go_sem]) ad (by omega) (by omega) ?_;simp(disch:=omega)[go_sem,aD];refine⟨j-1,by omega,_,aA.mk (N:=M'+2) ?_ ?_ ?_,(hI _ _).2 ⟨k+1,M'+1,7,M'+2,by omega,.inr rfl,rfl,by omega,by omega,by omega,by omega,by omega⟩⟩
       . simp(disch:=omega)[go_sem]
       . simp[go_sem]
       . simp(disch:=omega)[go_sem,<-aa,vb,Tok.e,aQ,Dg.e]
     . refine kY (by simp(disch:=omega)[go_sem]) ad (by decide) (by decide) (by simp[go_sem]) (by omega) ?_;simp(disch:=omega)[go_sem,aD];refine⟨j-1,by omega,_,aA.mk (N:=M'+2) ?_ ?_ ?_,(hI _ _).2 ⟨k+1,M'+1,7,M'+2,by omega,.inr rfl,rfl,by omega,by omega,by omega,by omega,by omega⟩⟩
       . simp(disch:=omega)[go_sem]
       . simp[go_sem]
       . simp(disch:=omega)[go_sem,<-aa,vb,Tok.e,aQ,Dg.e]
   . obtain rfl:k=8:=by omega
     obtain rfl:z=7:=by omega
     simp(disch:=omega)[go_sem];refine aq.mk (qg 9 10) λA0 ay=> ?_;simp(disch:=omega)[go_sem]at ay;simp(disch:=omega)[go_sem,Dg.e,aY.e,aQ];refine aq.mk (qg 32 32) λA1 az=> ?_;simp(disch:=omega)[go_sem]at az;simp(disch:=omega)[go_sem,Dg.e,aY.e,aQ];refine aq.mk (qh 3 0 1) λA2 aB=> ?_;simp(disch:=omega)[go_sem]at aB;simp(disch:=omega)[go_sem,Dg.e,aY.e,aQ];refine aq.mk (qg 9 10) λA3 aC=> ?_;simp(disch:=omega)[go_sem]at aC;simp(disch:=omega)[go_sem,Dg.e,aY.e,aQ];refine aq.mk (qg 32 32) λA4 aE=> ?_;simp(disch:=omega)[go_sem]at aE;simp(disch:=omega)[go_sem,Dg.e,aY.e,aQ];refine aq.mk (qh 3 3 4) λA5 aF=> ?_;simp(disch:=omega)[go_sem]at aF;simp(disch:=omega)[go_sem,Dg.e,aY.e,aQ];refine aq.mk (qh 4 5 0) λA6 aI=> ?_;simp(disch:=omega)[go_sem]at aI;simp(disch:=omega)[go_sem,Dg.e,aY.e,aQ];refine aq.mk (qh 2 2 6) λA7 aL=> ?_;simp(disch:=omega)[go_sem]at aL;simp(disch:=omega)[go_sem,Dg.e,aY.e,aQ];refine aq.mk (qg 37 37) λB0 aO=> ?_;simp(disch:=omega)[go_sem]at aO;simp(disch:=omega)[go_sem,Dg.e,aY.e,aQ];refine aq.mk (qg 97 122) λB1 aR=> ?_;simp(disch:=omega)[go_sem]at aR;simp(disch:=omega)[go_sem,Dg.e,aY.e,aQ];refine aq.mk (qg 32 32) λB2 aS=> ?_;simp(disch:=omega)[go_sem]at aS;simp(disch:=omega)[go_sem,Dg.e,aY.e,aQ];refine aq.mk (qh 3 1 2) λB3 aT=> ?_;simp(disch:=omega)[go_sem]at aT;simp(disch:=omega)[go_sem,Dg.e,aY.e,aQ];refine aq.mk (qh 4 3 0) λB4 aU=> ?_;simp(disch:=omega)[go_sem]at aU;simp(disch:=omega)[go_sem,Dg.e,aY.e,aQ];refine aq.mk (qh 2 0 4) λB5 aX=> ?_;simp(disch:=omega)[go_sem]at aX;simp(disch:=omega)[go_sem,Dg.e,aY.e,aQ];refine kY (cs:=mh P3 8) (by simp(disch:=omega)[go_sem]) ad (by decide) (by decide) (by simp[go_sem]) (by omega) ?_;simp(disch:=omega)[go_sem,Dg.e,aQ];refine kY (cs:=mh P3 8++[sV u7.name,iV 1,sV ⟨#[]⟩,.v (.slice (some ⟨A7,0,none⟩) 8 8),sV ⟨#[]⟩,.sl 3 [],iV 1]) (by simp(disch:=omega)[go_sem,u7]) (by rw[List.length_append,ad];rfl) (by decide) (by decide) (by simp[go_sem]) (by omega) ?_;simp(disch:=omega)[go_sem];refine iW (cN (wr:=true) (ah:=7) (by simp(disch:=omega)[go_sem];rfl)) (.inr rfl) (by decide) (by simp[ar,lits]) (Nat.le_refl _) (by intro y hy;obtain⟨z,_,rfl⟩:=List.mem_map.1 hy;rfl) ?_;simp(disch:=omega)[go_sem,mh,ar,lits,gN,vb,iX,u7,zp,Tok.e,Dg.e,aQ];refine⟨?_, ?_, ?_⟩
     . exact ib (wr:=true) (ah:=0) (by decide) (by simp[aY.e]) (by rfl) (Nat.le_refl _) (.inl rfl) (by simp(disch:=omega)[go_sem,ic,aY.e])
     . exact ib (wr:=true) (ah:=0) (by decide) (by simp[aY.e]) (by rfl) (Nat.le_refl _) (.inl rfl) (by simp(disch:=omega)[go_sem,CS,aY.e])
     . exact ib (wr:=true) (ah:=0) (by decide) (by simp[aY.e]) (by rfl) (Nat.le_refl _) (.inl rfl) (by simp(disch:=omega)[go_sem,CT,aY.e])
end Go.Sp
end
noncomputable section
open Go Go.aw Go.Proofs
namespace Go.Sp
set_option maxRecDepth 100000
variable {aj:Bool}
def zq(ns:List ByteArray):List DV:=[strs [⟨#[65]⟩,⟨#[66]⟩],.sl 3 [],iV 1,.sl 7 (ar.map Tok.e),strs ns,eN,iV 0,eN,eN]
theorem aae(ns:List ByteArray):ax E true 18 [strs ns] (.agg (zq ns)):=by
 refine bc Vy rfl Tryz.ntmps18 Tryz.results18 λN=> ?_;simp(disch:=omega)[go_sem];refine aq.mk (qf true) λM hM=> ?_;simp(disch:=omega)[go_sem]at hM;simp(disch:=omega)[go_sem,Dg.e,aQ];refine kr [cT 0,dF 0,aN 0,ae 0,ae 15,aN 31] (by kernel_rfl) 1 rfl (M+1) (by simp(disch:=omega)[go_sem]) ?_;simp(disch:=omega)[go_sem];refine aq.mk aad λM2 aa=> ?_;simp(disch:=omega)[go_sem]at aa;simp(disch:=omega)[go_sem,zq];exact ib (by decide) (by simp) (by simp) (Nat.le_refl _) (.inl rfl) (wr:=true) (by simp(disch:=omega)[go_sem])
theorem ck{ops:List Oper}{t:Tr DV}{n:Nat}{dd:List FuncId}{h:ab}{K:bn->DS->Prop}(pl:List PJ)(ad:wV ops pl=true)(na:Nat)(af:Nat.beq (ops.filter λo=>cls o.op==.alloc).length na=true)
 (hs:dq E ops h.next ops pl 0 h.next 0 t n dd (h.up (h.next+na)) [] [] [] (K .normal)):za E ops t n dd h K:=kr pl ad na af h.next rfl hs
theorem aaf{K:cF}{dd:List FuncId}{h:ab}{r n c:Nat}(s:ByteArray)(l:Int)(xs:List Sym)(hr:h.get r=some (.row (xs.map Sym.e).flatten true 0))(hn:n=xs.length)(hc:n<=c)(hk:∀M,h.next<=M->K (.agg (kz s l (.sl 2 (xs.map Sym.e)) (aQ true))) dd ((h.set r none).up M) [r]):
 aq E aj K dd h (19,[sV s,iV l,.v (.slice (some ⟨r,0,none⟩) n c)]):=
 aq.fz (H8 s l (.sl 2 (xs.map Sym.e)) rfl rfl) [r] (by simp[hr]) (.cons (.refl _) (.cons (.refl _) (.cons (eO (hY (by simp) hr) (.inl rfl) (by decide) (by simp[hn]) hc (by simp[Sym.e])) .nil))) hk
def vc(v:Int):Dg:=⟨[(v,1,0)],2⟩
end Go.Sp
end
noncomputable section
open Go Go.aw Go.Proofs
namespace Go.Sp
set_option maxRecDepth 100000
def Ib:ai:=⟨[⟨#[65]⟩,⟨#[66]⟩],aQ true,ar,[⟨#[69]⟩],[bu ⟨#[97,100,100]⟩ 0 [⟨false,0⟩,⟨true,1⟩,⟨false,0⟩] (aQ true),bu ⟨#[109,117,108]⟩ 0 [⟨false,0⟩,⟨true,2⟩,⟨false,0⟩] (aQ true),{bu ⟨#[98,114,97,99,107,101,116]⟩ 0 [⟨true,3⟩,⟨false,0⟩,⟨true,4⟩] (aQ true)with bracket:=true},bu ⟨#[110,97,109,101]⟩ 0 [⟨true,0⟩] (aQ true),bu ⟨#[112,111,119]⟩ 0 [⟨false,0⟩,⟨true,8⟩,⟨false,0⟩] (vr 1)],0,[⟨[4],2,aQ true⟩,⟨[1],1,aQ true⟩,⟨[0],1,vc 0⟩],[]⟩
def Ic:ai:=⟨[⟨#[65]⟩,⟨#[66]⟩],aQ true,ar,[⟨#[83]⟩,⟨#[67]⟩],[bu ⟨#[98,111,116,104]⟩ 0 [⟨true,5⟩,⟨false,1⟩,⟨false,0⟩,⟨true,6⟩,⟨false,0⟩] (aQ true),bu ⟨#[116,104,101,110]⟩ 0 [⟨true,5⟩,⟨false,1⟩,⟨false,0⟩] (aQ true),bu ⟨#[99,97,108,108]⟩ 0 [⟨false,1⟩,⟨true,7⟩] (aQ true),{bu ⟨#[98,108,111,99,107]⟩ 0 [⟨true,3⟩,⟨false,0⟩,⟨true,4⟩] (aQ true)with bracket:=true},bu ⟨#[119,111,114,100]⟩ 1 [⟨true,0⟩] (aQ true)],0,[],[⟨2,0,2,1,0,0,[],vr 0⟩,⟨5,0,0,0,0,0,[5,6],vr 1⟩]⟩
def Ie:ai:=⟨[⟨#[65]⟩,⟨#[66]⟩],aQ true,ar,[⟨#[76]⟩,⟨#[73]⟩],[bu ⟨#[101,109,112,116,121]⟩ 0 [] (aQ true),bu ⟨#[109,111,114,101]⟩ 0 [⟨false,0⟩,⟨false,1⟩] (aQ true),{bu ⟨#[116,121,112,101]⟩ 1 [⟨true,1⟩,⟨true,0⟩,⟨true,7⟩] (aQ true)with scope:=⟨false,2,1,0,0⟩},{bu ⟨#[112,111,105,110,116,101,114]⟩ 1 [⟨true,0⟩,⟨true,2⟩,⟨true,0⟩,⟨true,7⟩] (aQ true)with scope:=⟨false,3,2,1,2⟩},{bu ⟨#[112,114,111,100,117,99,116]⟩ 1 [⟨true,0⟩,⟨true,2⟩,⟨true,0⟩,⟨true,7⟩] (aQ true)with scope:=⟨false,0,0,1,5⟩,fk:=-1},{bu ⟨#[105,110,110,101,114]⟩ 1 [⟨true,3⟩,⟨false,0⟩,⟨true,4⟩] (aQ true)with scope:=⟨true,0,0,0,0⟩},{bu ⟨#[115,116,114,105,99,116]⟩ 1 [⟨true,0⟩,⟨true,7⟩] (vr 0)with scope:=⟨false,0,0,1,6⟩}],0,[],[]⟩
def Ig:ai:=⟨[⟨#[65]⟩,⟨#[66]⟩],aQ true,ar,[⟨#[66]⟩,⟨#[73]⟩],[bu ⟨#[111,110,101]⟩ 0 [⟨false,1⟩] (aQ true),{bu ⟨#[108,105,115,116]⟩ 0 [⟨false,0⟩,⟨false,1⟩] (aQ true)with layout:=[⟨2,0,1⟩]},bu ⟨#[119,111,114,100]⟩ 1 [⟨true,0⟩] (aQ true),{bu ⟨#[104,101,97,100]⟩ 1 [⟨true,5⟩,⟨true,0⟩,⟨false,0⟩] (aQ true)with layout:=[⟨3,0,2⟩,⟨1,2,0⟩]},{bu ⟨#[108,105,110,101]⟩ 1 [⟨true,5⟩,⟨false,0⟩] (vr 0)with layout:=[⟨4,0,1⟩]}],0,[],[]⟩
def Ih:ai:=⟨[⟨#[65]⟩,⟨#[66]⟩],aQ true,ar,[⟨#[83]⟩,⟨#[87]⟩,⟨#[86]⟩],[bu ⟨#[112,97,105,114]⟩ 0 [⟨false,1⟩,⟨false,2⟩] (aQ true),{bu ⟨#[115,105,110,103,108,101]⟩ 1 [⟨true,0⟩] (aQ true)with fk:=-1},bu ⟨#[100,111,117,98,108,101]⟩ 1 [⟨true,0⟩,⟨true,0⟩] (aQ true),bu ⟨#[110,111,110,101]⟩ 2 [] (aQ true),bu ⟨#[110,101,120,116]⟩ 2 [⟨true,0⟩,⟨false,2⟩] (aQ true),bu ⟨#[109,97,114,107]⟩ 2 [⟨true,1⟩,⟨false,2⟩] (vr 1)],0,[],[⟨3,0,0,0,1,0,[0],vr 0⟩,⟨4,0,0,0,2,0,[1],vc 1⟩]⟩
def Ii:ai:=⟨[⟨#[65]⟩,⟨#[66]⟩],aQ true,ar,[⟨#[83]⟩,⟨#[79]⟩,⟨#[80]⟩],[bu ⟨#[97,108,108]⟩ 0 [⟨false,1⟩,⟨true,0⟩,⟨false,1⟩,⟨false,2⟩] (aQ true),bu ⟨#[110,111]⟩ 1 [] (aQ true),bu ⟨#[121,101,115]⟩ 1 [⟨true,1⟩] (aQ true),bu ⟨#[101,110,100]⟩ 2 [] (aQ true),bu ⟨#[114,101,115,116]⟩ 2 [⟨true,1⟩,⟨false,2⟩] (vr 0)],0,[],[]⟩
def iB(b:Int):ai:=if b%6=0 then Ib else if b%6=1 then Ic else if b%6=2 then Ie else if b%6=3 then Ig else if b%6=4 then Ih else Ii
theorem aag:∀b∈([0,1,2,3,4,5,6,7]:List Int),ax E true 17 [uV b] (.agg (iB b).e):=bO (by kernel_rfl)
end Go.Sp
end
noncomputable section
open Go Go.aw Go.Proofs
namespace Go.Sp
set_option maxRecDepth 100000
def CU:Prop:=∀v:Int,0<=v->v<64->ax E true 26 [.agg (vr v).e] (.agg (vc v).e)
def cB(md:List Int->Nat->Dg)(b:Int)(n:Nat):Dg:=if n=0\/b%6<3 then aQ true else if b%6=3 then vr (b/6%n)else if b%6=4 then vc (b/6%n)else md [b] n
theorem Ij(hc:CU)(md:List Int->Nat->Dg)(ae:∀(l:List Int) (n:Nat),(∀b∈l,0<=b/\b<256)->n<=3->ax E true 21 [.sl 1 (l.map λb=>[uV b]),iV n] (.agg (md l n).e))(b:Int)(n:Nat)(h0:0<=b)(h1:b<256)(hn:n<=3):
 ax E true 13 [uV b,iV n] (.agg (cB md b n).e):=by
 obtain⟨R,hR⟩:∃R,R=DV.agg (cB md b n).e:=⟨_,rfl⟩;rw[<-hR];refine bc Vv rfl Tryz.ntmps13 Tryz.results13 λN=> ?_;have hw:IntKind.u8.wrap (b%6)=b%6:=wrap_u8 (by omega) (by omega);by_cases hz:n=0
 . subst hz;simp(disch:=omega)[go_sem];refine aq.mk (qf true) λM hM=> ?_;simp(disch:=omega)[go_sem]at hM;simp(disch:=omega)[go_sem,Dg.e,hR,cB]
 have aa:¬(n:Int)=0:=by omega
 by_cases h3:b%6<3
 . simp(disch:=omega)[go_sem,hz,aa,dr,hw,h3];refine aq.mk (qf true) λM hM=> ?_;simp(disch:=omega)[go_sem]at hM;simp(disch:=omega)[go_sem,Dg.e,hR,cB,h3]
 have ad:0<=b/6%(n:Int):=Int.emod_nonneg _ aa;have af:b/6%(n:Int)<n:=Int.emod_lt_of_pos _ (by omega);have hq:IntKind.u8.wrap (b/6)=b/6:=wrap_u8 (by omega) (by omega);simp(disch:=omega)[go_sem,hz,aa,dr,jT,hw,hq,h3,aD];have ai:cE (.agg (vr (b/6%(n:Int))).e)=(vr (b/6%(n:Int))).e:=by simp[go_sem,vr,Dg.e,de]
 refine aq.mk (aaa (b/6%n) ad (by omega)) λM hM=> ?_;simp(disch:=omega)[go_sem]at hM;have h6:b%6=3\/b%6=4\/b%6=5:=by omega
 rcases h6 with h|h|h
 . simp(disch:=omega)[go_sem,Dg.e,dr,wrap_u8,h,hR,cB,hz]
 . simp(disch:=omega)[go_sem,Dg.e,dr,wrap_u8,h];refine aq.mk (hc (b/6%n) ad (by omega)) λM2 ab=> ?_;simp(disch:=omega)[go_sem]at ab;simp(disch:=omega)[go_sem,Dg.e,hR,cB,hz,h]
 . simp(disch:=omega)[go_sem,Dg.e,dr,wrap_u8,h];refine aq.fz (ae [b] n (by simp;omega) hn) [M+1] ?_ ?_ λM2 ab=> ?_
   . simp(disch:=omega)[go_sem]
   . simp(disch:=omega)[go_sem];exact eO (hY (wr:=true) (by simp) (by simp(disch:=omega)[go_sem])) (.inl rfl) (by decide) (by simp) (Nat.le_refl _) (by simp)
   simp(disch:=omega)[go_sem]at ab;simp(disch:=omega)[go_sem,Dg.e,hR,cB,hz,h]
end Go.Sp
end
noncomputable section
open Go Go.aw Go.Proofs
namespace Go.Sp
set_option maxRecDepth 100000
variable {aj:Bool}
inductive Shape:bj->Prop
 |child (k p a c:Int) (d:Dg):k=1\/k=2->Shape ⟨k,p,a,c,0,0,[],d⟩
 |next (k l t:Int) (d:Dg):k=3\/k=4->Shape ⟨k,0,0,0,l,0,[t],d⟩
 |word (t:Int) (d:Dg):Shape ⟨5,0,0,0,0,0,[t],d⟩
theorem CV{f:bj}(hf:Shape f):ax E aj 83 [.agg f.e] (bV true):=by
 refine bc Wf rfl Tryz.ntmps83 Tryz.results83 λN=> ?_;cases hf with
 |child k p a c d h=>rcases h with rfl|rfl<;>simp(disch:=omega)[go_sem,bj.e,ints]
 |next k l t d h=>rcases h with rfl|rfl<;>simp(disch:=omega)[go_sem,bj.e,ints]
 |word t d=>simp(disch:=omega)[go_sem,bj.e,ints]
theorem Ik(g:ai)(t:Nat)(x:Tok)(w:Bool)(h1:g.ar[t]? =some x)(hw:w=true->x.lit≠⟨#[]⟩)(aa:w=false->x.cls=0):ax E aj 84 [.agg g.e,ints [(t:Int)],bV w] (bV true):=by
 refine bc Wg rfl Tryz.ntmps84 Tryz.results84 λN=> ?_;have hl:t<g.ar.length:=(List.getElem?_eq_some_iff.1 h1).1;have ab:¬(g.ar.length:Int)<=t:=by omega
 have ad:¬(t:Int)<0:=by omega
 simp(disch:=omega)[go_sem,ai.e,ints];obtain⟨I,hI⟩:∃I:Nat->DS->Prop,∀j d,I j d↔∃k M:Nat,j+k=1/\N<M/\d=⟨bQ [(1,.sl 1 [[iV t]]),(2,bV w),(3,.v (.pointer (some ⟨N,0,none⟩))),(7,iV k)],72,[],cK M [(N,.row g.e true 0)]⟩:=⟨_,λ_ _=>Iff.rfl⟩;refine cx I 1 ⟨_,aA.mk (N:=N+1) ?_ ?_ ?_,(hI _ _).2 ⟨0,N+1,rfl,by omega,rfl⟩⟩ ?_
 . simp(disch:=omega)[go_sem]
 . simp[go_sem]
 . simp(disch:=omega)[go_sem,ai.e]
 . intro j d hd;obtain⟨k,M,hj,hM,rfl⟩:=(hI _ _).1 hd;clear hd;by_cases hk:k=0
   . subst hk;simp(disch:=omega)[go_sem];refine ck [ae 0,ae 0,ae 3,aJ 7,ae 15,ae 31,ae 63,ae 63,ae 255,aJ 511,ae 63,aJ 1087,aJ 3135,ae 8191,ae 16383,ae 32767,ae 65535,ae 131071,ae 262143,ae 524287,ae 524287,ae 2097151,aJ 4194303,ae 524287,ae 524287,ae 17301503,ae 59244543,aJ 126353407,ae 268435455,ae 536870911,ae 1073741823] (by kernel_rfl) 0 rfl ?_;simp(disch:=omega)[go_sem,ai.e,hl,ab,ad];refine ck [ae 0,aJ 1,ae 0,ae 0,ae 12,aJ 28,ae 63,aJ 127,cT 0,aN 511] (by kernel_rfl) 1 rfl ?_;simp(disch:=omega)[go_sem,ai.e,Tok.e,h1,-getElem?_pos];cases w with
     |true=>
      have hx:=hw rfl;simp(disch:=omega)[go_sem,hx,aD];refine⟨j-1,by omega,_,aA.mk (N:=M+1) ?_ ?_ ?_,(hI _ _).2 ⟨1,M+1,by omega,by omega,rfl⟩⟩
      . simp(disch:=omega)[go_sem]
      . simp[go_sem]
      . simp(disch:=omega)[go_sem,ai.e]
     |false=>
      have hx:=aa rfl;simp(disch:=omega)[go_sem,hx,aD];refine⟨j-1,by omega,_,aA.mk (N:=M+1) ?_ ?_ ?_,(hI _ _).2 ⟨1,M+1,by omega,by omega,rfl⟩⟩
      . simp(disch:=omega)[go_sem]
      . simp[go_sem]
      . simp(disch:=omega)[go_sem,ai.e]
   . obtain rfl:k=1:=by omega
     simp(disch:=omega)[go_sem]
end Go.Sp
end
noncomputable section
open Go Go.aw Go.Proofs
namespace Go.Sp
set_option maxRecDepth 100000
variable {aj:Bool}
theorem Il(g:ai)(k l:Int)(t:Nat)(x:Tok)(d:Dg)(hk:k=3\/k=4)(ao:0<=l)(au:l<g.aH.length)(hx:g.ar[t]? =some x)(ad:x.cls=0)(aa:ax E aj 82 [.agg d.e,iV g.conds.length] (bV true)):
 ax E aj 48 [.agg g.e,.agg (bj.e ⟨k,0,0,0,l,0,[t],d⟩)] (bV true):=by
 have hs:=CV (aj:=aj) (Shape.next k l t d hk);have ha:=Ik (aj:=aj) g t x false hx (λh=>by cases h) (λ_=>ad);have av:¬l<0:=by omega
 refine bc Ci rfl Tryz.ntmps48 Tryz.results48 λN=> ?_;rcases hk with rfl|rfl
 all_goals (
  simp(disch:=omega)[go_sem,bj.e,ai.e];refine aq.mk aa λM hM=> ?_;simp(disch:=omega)[go_sem]at hM;simp(disch:=omega)[go_sem,bj.e,ai.e];refine aq.mk hs λM2 ab=> ?_;simp(disch:=omega)[go_sem]at ab;simp(disch:=omega)[go_sem,bj.e,ai.e,ao,au,av];refine aq.mk ha λM3 af=> ?_;simp(disch:=omega)[go_sem]at af;simp(disch:=omega)[go_sem])
theorem aah(g:ai)(t:Nat)(x y:Tok)(d:Dg)(hx:g.ar[t]? =some x)(ad:x.lit≠⟨#[]⟩)(hy:g.ar[0]? =some y)(ay:y.cls=0)(az:y.lit=⟨#[]⟩)(aa:ax E aj 82 [.agg d.e,iV g.conds.length] (bV true)):
 ax E aj 48 [.agg g.e,.agg (bj.e ⟨5,0,0,0,0,0,[t],d⟩)] (bV true):=by
 have hs:=CV (aj:=aj) (Shape.word t d);have ha:=Ik (aj:=aj) g t x true hx (λ_=>ad) (λh=>by cases h);have hl:0<g.ar.length:=(List.getElem?_eq_some_iff.1 hy).1;have aB:¬g.ar=[]:=λh=>by rw[h]at hl;exact absurd hl (by simp)
 refine bc Ci rfl Tryz.ntmps48 Tryz.results48 λN=> ?_;simp(disch:=omega)[go_sem,bj.e,ai.e];refine aq.mk aa λM hM=> ?_;simp(disch:=omega)[go_sem]at hM;simp(disch:=omega)[go_sem,bj.e,ai.e];refine aq.mk hs λM2 ab=> ?_;simp(disch:=omega)[go_sem]at ab;simp(disch:=omega)[go_sem,bj.e,ai.e,hl,aB];refine aq.mk ha λM3 af=> ?_;simp(disch:=omega)[go_sem]at af;simp(disch:=omega)[go_sem,ai.e,Tok.e,hy,ay,az,-getElem?_pos]
def lJ(g:ai)(p at_ c:Int):Bool:=match g.ak[p.toNat]?,g.ak[c.toNat]? with
 |some P,some C=>match P.right[at_.toNat]? with
  |some s=> !s.tok&&decide (s.idx=C.left)
  |none=>false
 |_,_=>false
theorem Im(g:ai)(k:Int)(p a c:Nat)(P C:aR)(d:Dg)(hk:k=1\/k=2)(hp:g.ak[p]? =some P)(hc:g.ak[c]? =some C)(aa:ax E aj 82 [.agg d.e,iV g.conds.length] (bV true)):
 ax E aj 48 [.agg g.e,.agg (bj.e ⟨k,p,a,c,0,0,[],d⟩)] (bV (lJ g p a c)):=by
 have hs:=CV (aj:=aj) (Shape.child k p a c d hk);have aC:=(List.getElem?_eq_some_iff.1 hp).1;have aD:=(List.getElem?_eq_some_iff.1 hc).1;have e1:¬(p:Int)<0:=by omega
 have e2:¬(c:Int)<0:=by omega
 have e3:¬(g.ak.length:Int)<=p:=by omega
 have e4:¬(g.ak.length:Int)<=c:=by omega
 have e5:(0:Int)<=a:=by omega
 obtain⟨R,hR⟩:∃R,R=lJ g p a c:=⟨_,rfl⟩;rw[<-hR];refine bc Ci rfl Tryz.ntmps48 Tryz.results48 λN=> ?_;rcases hk with rfl|rfl
 all_goals (
  simp(disch:=omega)[go_sem,bj.e,ai.e];refine aq.mk aa λM hM=> ?_;simp(disch:=omega)[go_sem]at hM;simp(disch:=omega)[go_sem,bj.e,ai.e];refine aq.mk hs λM2 ab=> ?_;simp(disch:=omega)[go_sem]at ab;simp(disch:=omega)[go_sem,bj.e,ai.e,aR.e,aC,aD,e1,e2,e3,e4,hp,hc,-getElem?_pos];refine ck [ae 0,aJ 1,ae 3,ae 7,ae 15,aJ 31,ae 15,aJ 79,ae 255,ae 511,ae 1023,ae 2047,ae 2047,aJ 6143,ae 16383,ae 32767,aJ 65535,ae 131071,ae 262143,ae 524287,ae 1048575,ae 1048575,aJ 3145727,ae 8388607,ae 16777215,aJ 33554431,ae 1048575,aJ 68157439,ae 1048575,aJ 269484031,ae 1007681535,ae 2081423359,aJ 4228907007,ae 8589934591,ae 17179869183,ae 34359738367] (by kernel_rfl) 0 rfl ?_;by_cases h:a<P.right.length
  . have h':(a:Int)<P.right.length:=by omega
    obtain⟨s,hs⟩:∃s,P.right[a]? =some s:=⟨_,List.getElem?_eq_getElem h⟩;cases ht:s.tok with
    |true=>simp(disch:=omega)[go_sem,bj.e,ai.e,Sym.e,e5,h,h',hs,ht,hR,lJ,hp,hc,-getElem?_pos]
    |false=>simp(disch:=omega)[go_sem,bj.e,ai.e,aR.e,Sym.e,e5,h,h',hs,ht,hR,lJ,hp,hc,-getElem?_pos]
  . have h':¬(a:Int)<P.right.length:=by omega
    have hs:P.right[a]? =none:=List.getElem?_eq_none_iff.2 (by omega);simp(disch:=omega)[go_sem,bj.e,ai.e,e5,h,h',hR,lJ,hp,hc,hs,-getElem?_pos])
end Go.Sp
end
noncomputable section
open Go Go.aw Go.Proofs
namespace Go.Sp
set_option maxRecDepth 100000
structure Rl where
 kind:Int
 a:Int
 b:Int
 c:Int
 cond:Int
def Rl.e(x:Rl):List DV:=[uV x.kind,uV x.a,uV x.b,uV x.c,uV x.cond]
structure Rl.Ok(x:Rl):Prop where
 kind:0<=x.kind/\x.kind<256
 a:0<=x.a/\x.a<256
 b:0<=x.b/\x.b<256
 c:0<=x.c/\x.c<256
 cond:0<=x.cond/\x.cond<256
structure tr(g:ai):Prop where
 ak:0<g.ak.length
 aH:0<g.aH.length
 conds:g.conds.length<=3
 bp:g.bp.length<=10
 bd:g.bd.length<=10
 ar:9<=g.ar.length
 mM:∀l∈g.bd,l.ak.length<=4096
 Ip:g.ar.length<=100
 ord:∀i x,i<9->g.ar[i]? =some x->x.cls=0/\(x.lit=⟨#[]⟩↔i=0)
theorem rH{S:fA}{a b c d:List DV}(h1:cP S a c)(h2:cP S b d):cP S (a++b) (c++d):=aP.append h1 h2
def eA(g:ai)(f:bj):ai:={g with bp:=g.bp++[f]}
theorem aai(sm:Int->Nat->Dg)(ab:∀(b:Int) (n:Nat),0<=b->b<256->n<=3->ax E true 13 [uV b,iV n] (.agg (sm b n).e))(aa:∀(b:Int) (n:Nat),0<=b->b<256->n<=3->ax E true 82 [.agg (sm b n).e,iV n] (bV true))(g:ai)(hg:tr g)(x:Rl)(hx:x.Ok)(hk:x.kind%8=6):
 ax E true 23 [.agg g.e,.agg x.e] (.agg (eA g ⟨5,0,0,0,0,0,[5],sm x.cond g.conds.length⟩).e):=by
 obtain⟨R,hR⟩:∃R,R=DV.agg (eA g ⟨5,0,0,0,0,0,[5],sm x.cond g.conds.length⟩).e:=⟨_,rfl⟩;rw[<-hR];have af:=hx.kind;have ha:=hx.a;have hb:=hx.b;have hc:=hx.c;have eQ:¬(g.ak.length:Int)=0:=by have:=hg.ak;omega
 have ay:¬(g.aH.length:Int)=0:=by have:=hg.aH;omega
 have az:¬g.ak=[]:=λh=>by have:=hg.ak;rw[h]at this;exact absurd this (by simp)
 have hw:∀z:Int,0<=z->IntKind.u8.wrap (z%8)=z%8:=λz h=>wrap_u8 (by omega) (by omega);refine bc wS rfl Tryz.ntmps23 Tryz.results23 λN=> ?_;simp(disch:=omega)[go_sem,ai.e,Rl.e];refine aq.mk (ab x.cond g.conds.length hx.cond.1 hx.cond.2 hg.conds) λM hM=> ?_;simp(disch:=omega)[go_sem]at hM;have ad:=aa x.cond g.conds.length hx.cond.1 hx.cond.2 hg.conds;generalize sm x.cond g.conds.length=d at*;simp(disch:=omega)[go_sem,ai.e,Rl.e,Dg.e,eQ,az,ay,dr,aD,hw,hk];have h5:(5:Nat)<g.ar.length:=by have:=hg.ar;omega
 have aB:(0:Nat)<g.ar.length:=by have:=hg.ar;omega
 obtain⟨t5,ao⟩:∃t,g.ar[5]? =some t:=⟨_,List.getElem?_eq_getElem h5⟩;obtain⟨t0,au⟩:∃t,g.ar[0]? =some t:=⟨_,List.getElem?_eq_getElem aB⟩;have o5:=hg.ord 5 t5 (by omega) ao;have o0:=hg.ord 0 t0 (by omega) au;have aF:N+3<=M:=by omega
 refine aq.pl (aah g 5 t5 t0 d ao (λh=>by have:=o5.2.1 h;omega) au o0.1 (o0.2.2 rfl) ad) ?_ λM2 aC=> ?_
 . simp(disch:=omega)[go_sem,ai.e,bj.e];exact ib (wr:=true) (ah:=0) (by decide) (by simp) (by rfl) (Nat.le_refl _) (.inl rfl) (by simp(disch:=omega)[go_sem])
 simp(disch:=omega)[go_sem]at aC;simp(disch:=omega)[go_sem];refine ck [cT 0,ae 0,aJ 2,aN 7,dF 0,cT 16,aN 63,ae 127,aN 255] (by kernel_rfl) 2 rfl ?_;have aE:(g.bp.map bj.e).flatten.length=g.bp.length*9:=by
  rw[fQ (k:=9) (by intro y hy;obtain⟨z,_,rfl⟩:=List.mem_map.1 hy;rfl)];simp
 have aI:=hg.bp;have aL:M+3<=M2:=by omega
 by_cases eQ:g.bp.length=0
 . have av:g.bp=[]:=List.eq_nil_of_length_eq_zero eQ;simp(disch:=omega)[go_sem,av,oI]
   repeat refine⟨by omega, ?_⟩
   refine gd (wr:=true) (cs:=[]) (by simp(disch:=omega)[go_sem]) (by simp) (by omega) (by omega) ?_;simp(disch:=omega)[go_sem,hR,eA,av,ai.e];refine iW (cN (wr:=true) (ah:=9) (by simp(disch:=omega)[go_sem];rfl)) (.inr rfl) (by decide) (by rfl) (Nat.le_refl _) (by simp[bj.e]) ?_;simp(disch:=omega)[go_sem,bj.e,ints];exact ib (wr:=true) (ah:=0) (by decide) (by simp) (by rfl) (Nat.le_refl _) (.inl rfl) (by simp(disch:=omega)[go_sem])
 . simp(disch:=omega)[go_sem]
   repeat refine⟨by omega, ?_⟩
   refine gd (wr:=true) (cs:=[]) (by simp(disch:=omega)[go_sem]) (by simp) (by omega) (by omega) ?_;simp(disch:=omega)[go_sem]
   repeat refine⟨by omega, ?_⟩
   refine kY (cs:=(g.bp.map bj.e).flatten) (by simp(disch:=omega)[go_sem]) aE (by decide) (by decide) (by simp[go_sem]) (by omega) ?_;simp(disch:=omega)[go_sem,hR,eA,ai.e];refine iW (cN (wr:=true) (ah:=9) (by simp(disch:=omega)[go_sem];rfl)) (.inr rfl) (by decide) (by simp) (Nat.le_refl _) ?_ ?_
   . intro y hy;simp only[List.mem_append,List.mem_map,List.mem_singleton]at hy;rcases hy with⟨z,_,rfl⟩|rfl<;>rfl
   . rw[List.flatten_append];refine rH (cP.refl _) ?_;simp(disch:=omega)[go_sem,bj.e,ints];exact ib (wr:=true) (ah:=0) (by decide) (by simp) (by rfl) (Nat.le_refl _) (.inl rfl) (by simp(disch:=omega)[go_sem])
end Go.Sp
end
noncomputable section
open Go Go.aw Go.Proofs
namespace Go.Sp
set_option maxRecDepth 100000
set_option maxHeartbeats 4000000 in
theorem aaj(sm:Int->Nat->Dg)(au:∀(b:Int) (n:Nat),0<=b->b<256->n<=3->ax E true 13 [uV b,iV n] (.agg (sm b n).e))(aa:∀(b:Int) (n:Nat),0<=b->b<256->n<=3->ax E true 82 [.agg (sm b n).e,iV n] (bV true))(g:ai)(hg:tr g)(x:Rl)(hx:x.Ok)(hk:x.kind%8=4\/x.kind%8=5):
 ax E true 23 [.agg g.e,.agg x.e] (.agg (eA g ⟨x.kind%8-1,0,0,0,x.a%g.aH.length,0,[x.b%9],sm x.cond g.conds.length⟩).e):=by
 obtain⟨R,hR⟩:∃R,R=DV.agg (eA g ⟨x.kind%8-1,0,0,0,x.a%g.aH.length,0,[x.b%9],sm x.cond g.conds.length⟩).e:=⟨_,rfl⟩;rw[<-hR];have aC:=hx.kind;have ha:=hx.a;have hb:=hx.b;have hc:=hx.c;have eQ:¬(g.ak.length:Int)=0:=by have:=hg.ak;omega
 have ao:¬(g.aH.length:Int)=0:=by have:=hg.aH;omega
 have aE:¬g.ak=[]:=λh=>by have:=hg.ak;rw[h]at this;exact absurd this (by simp)
 have hw:∀z:Int,0<=z->IntKind.u8.wrap (z%8)=z%8:=λz h=>wrap_u8 (by omega) (by omega);refine bc wS rfl Tryz.ntmps23 Tryz.results23 λN=> ?_;simp(disch:=omega)[go_sem,ai.e,Rl.e];refine aq.mk (au x.cond g.conds.length hx.cond.1 hx.cond.2 hg.conds) λM hM=> ?_;simp(disch:=omega)[go_sem]at hM;have ab:=aa x.cond g.conds.length hx.cond.1 hx.cond.2 hg.conds;generalize sm x.cond g.conds.length=d at*;rcases hk with hk|hk
 . simp(disch:=omega)[go_sem,ai.e,Rl.e,Dg.e,eQ,aE,ao,dr,aD,hw,hk];obtain⟨t,ht⟩:∃t:Nat,x.b%9=t:=⟨(x.b%9).toNat,by omega⟩;have h5:t<g.ar.length:=by have:=hg.ar;omega
   obtain⟨t5,ad⟩:∃y,g.ar[t]? =some y:=⟨_,List.getElem?_eq_getElem h5⟩;have o5:=hg.ord t t5 (by omega) ad;have aF:N+3<=M:=by omega
   have av:0<=x.a%(g.aH.length:Int):=Int.emod_nonneg _ ao;have ay:x.a%(g.aH.length:Int)<g.aH.length:=Int.emod_lt_of_pos _ (by omega);rw[hk]at hR;rw[ht]at hR;simp only[ht];refine aq.pl (Il g 3 (x.a%g.aH.length) t t5 d (by omega) av ay ad o5.1 ab) ?_ λM2 az=> ?_
   . simp(disch:=omega)[go_sem,ai.e,bj.e];exact ib (wr:=true) (ah:=0) (by decide) (by simp) (by rfl) (Nat.le_refl _) (.inl rfl) (by simp(disch:=omega)[go_sem])
   simp(disch:=omega)[go_sem]at az;simp(disch:=omega)[go_sem];refine ck [cT 0,ae 0,aJ 2,aN 7,dF 0,cT 16,aN 63,ae 127,aN 255] (by kernel_rfl) 2 rfl ?_;have aB:(g.bp.map bj.e).flatten.length=g.bp.length*9:=by
    rw[fQ (k:=9) (by intro y hy;obtain⟨z,_,rfl⟩:=List.mem_map.1 hy;rfl)];simp
   have aI:=hg.bp;have aL:M+3<=M2:=by omega
   by_cases eQ:g.bp.length=0
   . have af:g.bp=[]:=List.eq_nil_of_length_eq_zero eQ;simp(disch:=omega)[go_sem,af,oI]
     repeat refine⟨by omega, ?_⟩
     refine gd (wr:=true) (cs:=[]) (by simp(disch:=omega)[go_sem]) (by simp) (by omega) (by omega) ?_;simp(disch:=omega)[go_sem,hR,eA,af,ai.e];refine iW (cN (wr:=true) (ah:=9) (by simp(disch:=omega)[go_sem];rfl)) (.inr rfl) (by decide) (by rfl) (Nat.le_refl _) (by simp[bj.e]) ?_;simp(disch:=omega)[go_sem,bj.e,ints];exact ib (wr:=true) (ah:=0) (by decide) (by simp) (by rfl) (Nat.le_refl _) (.inl rfl) (by simp(disch:=omega)[go_sem])
   . simp(disch:=omega)[go_sem]
     repeat refine⟨by omega, ?_⟩
     refine gd (wr:=true) (cs:=[]) (by simp(disch:=omega)[go_sem]) (by simp) (by omega) (by omega) ?_;simp(disch:=omega)[go_sem]
     repeat refine⟨by omega, ?_⟩
     refine kY (cs:=(g.bp.map bj.e).flatten) (by simp(disch:=omega)[go_sem]) aB (by decide) (by decide) (by simp[go_sem]) (by omega) ?_;simp(disch:=omega)[go_sem,hR,eA,ai.e];refine iW (cN (wr:=true) (ah:=9) (by simp(disch:=omega)[go_sem];rfl)) (.inr rfl) (by decide) (by simp) (Nat.le_refl _) ?_ ?_
     . intro y hy;simp only[List.mem_append,List.mem_map,List.mem_singleton]at hy;rcases hy with⟨z,_,rfl⟩|rfl<;>rfl
     . rw[List.flatten_append];refine rH (cP.refl _) ?_;simp(disch:=omega)[go_sem,bj.e,ints];exact ib (wr:=true) (ah:=0) (by decide) (by simp) (by rfl) (Nat.le_refl _) (.inl rfl) (by simp(disch:=omega)[go_sem])
 . simp(disch:=omega)[go_sem,ai.e,Rl.e,Dg.e,eQ,aE,ao,dr,aD,hw,hk];obtain⟨t,ht⟩:∃t:Nat,x.b%9=t:=⟨(x.b%9).toNat,by omega⟩;have h5:t<g.ar.length:=by have:=hg.ar;omega
   obtain⟨t5,ad⟩:∃y,g.ar[t]? =some y:=⟨_,List.getElem?_eq_getElem h5⟩;have o5:=hg.ord t t5 (by omega) ad;have aF:N+3<=M:=by omega
   have av:0<=x.a%(g.aH.length:Int):=Int.emod_nonneg _ ao;have ay:x.a%(g.aH.length:Int)<g.aH.length:=Int.emod_lt_of_pos _ (by omega);rw[hk]at hR;rw[ht]at hR;simp only[ht];refine aq.pl (Il g 4 (x.a%g.aH.length) t t5 d (by omega) av ay ad o5.1 ab) ?_ λM2 az=> ?_
   . simp(disch:=omega)[go_sem,ai.e,bj.e];exact ib (wr:=true) (ah:=0) (by decide) (by simp) (by rfl) (Nat.le_refl _) (.inl rfl) (by simp(disch:=omega)[go_sem])
   simp(disch:=omega)[go_sem]at az;simp(disch:=omega)[go_sem];refine ck [cT 0,ae 0,aJ 2,aN 7,dF 0,cT 16,aN 63,ae 127,aN 255] (by kernel_rfl) 2 rfl ?_;have aB:(g.bp.map bj.e).flatten.length=g.bp.length*9:=by
    rw[fQ (k:=9) (by intro y hy;obtain⟨z,_,rfl⟩:=List.mem_map.1 hy;rfl)];simp
   have aI:=hg.bp;have aL:M+3<=M2:=by omega
   by_cases eQ:g.bp.length=0
   . have af:g.bp=[]:=List.eq_nil_of_length_eq_zero eQ;simp(disch:=omega)[go_sem,af,oI]
     repeat refine⟨by omega, ?_⟩
     refine gd (wr:=true) (cs:=[]) (by simp(disch:=omega)[go_sem]) (by simp) (by omega) (by omega) ?_;simp(disch:=omega)[go_sem,hR,eA,af,ai.e];refine iW (cN (wr:=true) (ah:=9) (by simp(disch:=omega)[go_sem];rfl)) (.inr rfl) (by decide) (by rfl) (Nat.le_refl _) (by simp[bj.e]) ?_;simp(disch:=omega)[go_sem,bj.e,ints];exact ib (wr:=true) (ah:=0) (by decide) (by simp) (by rfl) (Nat.le_refl _) (.inl rfl) (by simp(disch:=omega)[go_sem])
   . simp(disch:=omega)[go_sem]
     repeat refine⟨by omega, ?_⟩
     refine gd (wr:=true) (cs:=[]) (by simp(disch:=omega)[go_sem]) (by simp) (by omega) (by omega) ?_;simp(disch:=omega)[go_sem]
     repeat refine⟨by omega, ?_⟩
     refine kY (cs:=(g.bp.map bj.e).flatten) (by simp(disch:=omega)[go_sem]) aB (by decide) (by decide) (by simp[go_sem]) (by omega) ?_;simp(disch:=omega)[go_sem,hR,eA,ai.e];refine iW (cN (wr:=true) (ah:=9) (by simp(disch:=omega)[go_sem];rfl)) (.inr rfl) (by decide) (by simp) (Nat.le_refl _) ?_ ?_
     . intro y hy;simp only[List.mem_append,List.mem_map,List.mem_singleton]at hy;rcases hy with⟨z,_,rfl⟩|rfl<;>rfl
     . rw[List.flatten_append];refine rH (cP.refl _) ?_;simp(disch:=omega)[go_sem,bj.e,ints];exact ib (wr:=true) (ah:=0) (by decide) (by simp) (by rfl) (Nat.le_refl _) (.inl rfl) (by simp(disch:=omega)[go_sem])
end Go.Sp
end
noncomputable section
open Go Go.aw Go.Proofs
namespace Go.Sp
set_option maxRecDepth 100000
theorem aaV:∀p∈(eF.drop (14*0)).take 14,ij p:=bO (by kernel_rfl)
theorem aaW:∀p∈(eF.drop (14*1)).take 14,ij p:=bO (by kernel_rfl)
theorem aaX:∀p∈(eF.drop (14*2)).take 14,ij p:=bO (by kernel_rfl)
theorem aaY:∀p∈(eF.drop (14*3)).take 14,ij p:=bO (by kernel_rfl)
end Go.Sp
end

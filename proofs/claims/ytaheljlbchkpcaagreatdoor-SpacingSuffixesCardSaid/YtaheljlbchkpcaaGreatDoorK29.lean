/- SpacingSuffixes: parts of its proof (ClUC Cn1 Cn2 Pt1). -/
import Derived.Test.YtaheljlbchkpcaaGreatDoorK24
import Derived.Test.YtaheljlbchkpcaaGreatDoorK25
import Derived.Test.YtaheljlbchkpcaaGreatDoorK28
set_option linter.unusedVariables false
set_option linter.unusedSimpArgs false
noncomputable section
open Go Go.aw Go.Proofs
namespace Go.Sp
set_option maxRecDepth 100000
theorem aaJ:∀p∈(ie.drop (14*8)).take 14,ig p:=bO (by kernel_rfl)
theorem aaK:∀p∈(ie.drop (14*9)).take 14,ig p:=bO (by kernel_rfl)
theorem aaL:∀p∈(ie.drop (14*10)).take 14,ig p:=bO (by kernel_rfl)
theorem aaM:∀p∈(ie.drop (14*11)).take 14,ig p:=bO (by kernel_rfl)
end Go.Sp
end
noncomputable section
open Go Go.aw Go.Proofs
namespace Go.Sp
set_option maxRecDepth 100000
def idx(ρ:dx):Nat:=(if ρ 0 then 1 else 0)+(if ρ 1 then 2 else 0)+(if ρ 2 then 4 else 0)
theorem Dv(ρ:dx):idx ρ<8:=by unfold idx;cases ρ 0<;>cases ρ 1<;>cases ρ 2<;>simp
theorem acW(ρ:dx):∀w,w<3->ρ w=bT (idx ρ) w:=λw hw=>by
 unfold idx;have:w=0\/w=1\/w=2:=by omega
 rcases this with rfl|rfl|rfl<;>cases ρ 0<;>cases ρ 1<;>cases ρ 2<;>rfl
def xD(c:Nat)(ρ:dx):Bool:=c.testBit (7-idx ρ)
theorem Jl(f:dx->Bool)(k:Nat)(hk:k<8):(code f).testBit (7-k)=f (bT k):=by
 have h1:∀b:Bool,decide ((if b then 1 else 0:Nat)=1)=b:=by decide
 rw[vo,Nat.testBit_eq_decide_div_mod_eq,<-h1 (f (bT k)),decide_eq_decide];have:=eH (f (bT 0));have:=eH (f (bT 1));have:=eH (f (bT 2));have:=eH (f (bT 3));have:=eH (f (bT 4));have:=eH (f (bT 5));have:=eH (f (bT 6));have:=eH (f (bT 7));have:k=0\/k=1\/k=2\/k=3\/k=4\/k=5\/k=6\/k=7:=by omega
 rcases this with rfl|rfl|rfl|rfl|rfl|rfl|rfl|rfl<;>simp only[Nat.reducePow,Nat.reduceSub]<;>omega
def Dw(f:dx->Bool):Prop:=∀ρ ad:dx,(∀w,w<3->ρ w=ad w)->f ρ=f ad
theorem zL{f:dx->Bool}(hf:Dw f)(ρ:dx):xD (code f) ρ=f ρ:=by
 rw[xD,Jl f _ (Dv ρ)];exact hf _ _ λw hw=>(acW ρ w hw).symm
def jy(c v:Nat)(b:Bool):Nat:=code λρ=>xD c (db ρ v b)
theorem zM{f:dx->Bool}(hf:Dw f)(v:Nat)(b:Bool):jy (code f) v b=code λρ=>f (db ρ v b):=by
 unfold jy;congr 1
 funext ρ
 exact zL hf _
def vv(c:Nat):Option Br:=
 if jy c 0 false≠jy c 0 true then some (0,jy c 0 false,jy c 0 true)
 else if jy c 1 false≠jy c 1 true then some (1,jy c 1 false,jy c 1 true)
 else if jy c 2 false≠jy c 2 true then some (2,jy c 2 false,jy c 2 true)
 else none
section
variable {N:List Br} (h:eG N) (v3:∀x∈N,x.1<3)
include h v3
theorem zN{n:Nat}(hn:n<N.length+2):Dw (tb N n):=λρ ad=>Dr h v3 n ρ ad hn
theorem Jm{n m:Nat}(hn:n<N.length+2)(hm:m<N.length+2)(he:code (tb N n)=code (tb N m)):n=m:=by
 refine Dj h (N.length+2) n m (by omega) (by omega) hn hm λρ=> ?_;rw[<-zL (zN h v3 hn),<-zL (zN h v3 hm),he]
theorem acX{n:Nat}(hn:n<N.length+2):vv (code (tb N n))=(j0 N n).map λx=>(x.1,code (tb N x.2.1),code (tb N x.2.2)):=by
 have hd:=zN h v3 hn;have low:∀w,w<3->w<b8 N n->jy (code (tb N n)) w false=jy (code (tb N n)) w true:=λw hw hl=>by
  rw[zM hd,zM hd];congr 1
  funext ρ
  rw[iY h hn hl,iY h hn hl]
 by_cases h2:n<2
 . have hl:b8 N n=64:=oU h2;simp only[vv,j0,if_pos h2,low 0 (by omega) (by omega),low 1 (by omega) (by omega),low 2 (by omega) (by omega),ne_eq,not_true_eq_false,if_false,Option.map_none]
 . obtain⟨⟨v,l,u⟩,hx⟩:∃x,N[n-2]? =some x:=⟨_,List.getElem?_eq_getElem (by omega)⟩;obtain⟨_,h4,h5,ae,h6,h7⟩:=h.ok _ _ hx;have hv:=v3 _ (List.mem_of_getElem? hx);simp only at h4 h5 ae h6 h7 hv;have hl:b8 N n=v:=mj (by omega) hx;have hf:jy (code (tb N n)) v false=code (tb N l):=by
    rw[zM hd];congr 1
    funext ρ
    rw[k9 h (by omega) hx,show db ρ v false v=false by simp[db]];simp only[Bool.false_eq_true,if_false];exact iY h (by omega) h6 ρ false
   have ht:jy (code (tb N n)) v true=code (tb N u):=by
    rw[zM hd];congr 1
    funext ρ
    rw[k9 h (by omega) hx,show db ρ v true v=true by simp[db]];simp only[if_true];exact iY h (by omega) h7 ρ true
   have ab:code (tb N l)≠code (tb N u):=λe=>ae (Jm h v3 (by omega) (by omega) e);have af:v=0\/v=1\/v=2:=by omega
   rcases af with rfl|rfl|rfl
   . simp only[vv,j0,if_neg h2,hx,Option.map_some,hf,ht,if_pos ab]
   . simp only[vv,j0,if_neg h2,hx,Option.map_some,hf,ht,if_pos ab,low 0 (by omega) (by omega),ne_eq,not_true_eq_false,if_false]
   . simp only[vv,j0,if_neg h2,hx,Option.map_some,hf,ht,if_pos ab,low 0 (by omega) (by omega),low 1 (by omega) (by omega),ne_eq,not_true_eq_false,if_false]
end
def mp(φ:Nat->Nat)(l:List (Nat×Nat)):List (Nat×Nat):=l.map λp=>(φ p.1,p.2)
theorem Jn{φ:Nat->Nat}{D:Nat}(hi:∀n m,n<D->m<D->φ n=φ m->n=m):∀(l:List (Nat×Nat)) (n:Nat),n<D->(∀p∈l,p.1<D)->bf (mp φ l) (φ n)=bf l n
 |[],_,_,_=>rfl
 |(k,v)::r,n,hn,hl=>by
  have hk:=hl (k,v) (by simp);simp only[mp,List.map_cons,bf];by_cases e:n=k
  . subst e;simp
  . rw[if_neg e,if_neg λe'=>e (hi _ _ hn hk e')];exact Jn hi r n hn λp hp=>hl p (List.mem_cons_of_mem _ hp)
theorem Jo{φ:Nat->Nat}{D:Nat}(hi:∀n m,n<D->m<D->φ n=φ m->n=m)(v:Nat):∀(l:List (Nat×Nat)) (n:Nat),n<D->(∀p∈l,p.1<D)->put (mp φ l) (φ n) v=mp φ (put l n v)
 |[],_,_,_=>rfl
 |(k,w)::r,n,hn,hl=>by
  have hk:=hl (k,w) (by simp);simp only[mp,List.map_cons,put];by_cases e:n=k
  . subst e;simp
  . rw[if_neg e,if_neg λe'=>e (hi _ _ hn hk e')];simp only[List.map_cons];congr 1;exact Jo hi v r n hn λp hp=>hl p (List.mem_cons_of_mem _ hp)
theorem Jp{D:Nat}{v:Nat}:∀(l:List (Nat×Nat)) (n:Nat),n<D->(∀p∈l,p.1<D)->∀p∈put l n v,p.1<D
 |[],n,hn,_,p,hp=>by
  simp only[put,List.mem_singleton]at hp;subst hp;exact hn
 |(k,w)::r,n,hn,hl,p,hp=>by
  simp only[put]at hp
  split at hp
  . rcases List.mem_cons.1 hp with rfl|hp
    . exact hn
    . exact hl p (List.mem_cons_of_mem _ hp)
  . rcases List.mem_cons.1 hp with rfl|hp
    . exact hl _ (by simp)
    . exact Jp r n hn (λp hp=>hl p (List.mem_cons_of_mem _ hp)) p hp
theorem Dx{node aa:Nat->Option Br}{φ:Nat->Nat}{D:Nat}(hi:∀n m,n<D->m<D->φ n=φ m->n=m)(hs:∀n,n<D->aa (φ n)=(node n).map λx=>(x.1,φ x.2.1,φ x.2.2))(hd:∀n x,n<D->node n=some x->x.2.1<D/\x.2.2<D):
 ∀(k n:Nat) (s:Seen),n<D->(∀p∈s.1,p.1<D)->gP aa k (φ n) (mp φ s.1,s.2)=((gP node k n s).1,(mp φ (gP node k n s).2.1,(gP node k n s).2.2))/\∀p∈(gP node k n s).2.1,p.1<D
 |0,_,_,_,hl=>⟨rfl,hl⟩
 |k+1,n,(seen,out),hn,hl=>by
  simp only[gP];rw[Jn hi seen n hn hl];cases bf seen n with
  |some m=>exact⟨rfl,hl⟩
  |none=>
   simp only;rw[hs n hn];cases hx:node n with
   |none=>exact⟨rfl,hl⟩
   |some x=>
    obtain⟨h1,h2⟩:=hd n x hn hx;obtain⟨a1,a2⟩:=Dx hi hs hd k x.2.1 (seen,out) h1 hl;obtain⟨b1,b2⟩:=Dx hi hs hd k x.2.2 (gP node k x.2.1 (seen,out)).2 h2 a2;simp only[Option.map_some];simp only at a1;rw[a1];simp only;rw[b1];simp only;exact⟨by rw[Jo hi _ _ _ hn b2],Jp _ _ hn b2⟩
def eR(c:Nat):Nat×Seen:=gP vv 4 c ([(0,0),(255,1)],[])
theorem acY{N:List Br}(h:eG N)(v3:∀x∈N,x.1<3){n:Nat}(hn:n<N.length+2):(lL N n).1=(eR (code (tb N n))).1/\(lL N n).2.2=(eR (code (tb N n))).2.2:=by
 obtain⟨h1,_⟩:=Dx (φ:=λn=>code (tb N n)) (λn m=>Jm h v3) (λn=>acX h v3) (λn x hn hx=>by
  have:=zJ h n x hx;omega) 4 n ([(0,0),(1,1)],[]) hn (λp hp=>by
  simp only[List.mem_cons,List.not_mem_nil,or_false]at hp;rcases hp with rfl|rfl<;>simp only<;>omega)
 have e0:code (tb N 0)=0:=by simp[vo,acx]
 have e1:code (tb N 1)=255:=by simp[vo,acy]
 simp only[mp,List.map_cons,List.map_nil,e0,e1]at h1;unfold eR lL;rw[h1];exact⟨rfl,rfl⟩
end Go.Sp
end
noncomputable section
open Go Go.aw Go.Proofs
namespace Go.Sp
set_option maxRecDepth 100000
def Dy(c:Nat):Bool:=
 let d:=eR c
 let N:=d.2.2
 decide (N.length<=20)&&decide (d.1<N.length+2)&&(N.zipIdx.all λp=>decide (p.1.1<3)&&decide (p.1.2.1<p.2+2)&&decide (p.1.2.2<p.2+2)&&decide (p.1.2.1≠p.1.2.2)&&decide (p.1.1<b8 N p.1.2.1)&&decide (p.1.1<b8 N p.1.2.2))&&
  decide N.Nodup&&(code (tb N d.1)).beq c
theorem acZ:(List.range 256).all Dy=true:=by kernel_rfl
theorem ac0{c:Nat}(hc:c<256):Dy c=true:=List.all_eq_true.1 acZ c (List.mem_range.2 hc)
structure ac1(c:Nat)(N:List Br)(r:Nat):Prop where
 len:N.length<=20
 rl:r<N.length+2
 ok:eG N
 v3:∀x∈N,x.1<3
 set:∀ρ,tb N r ρ=xD c ρ
theorem Dz{c:Nat}(hc:c<256):ac1 c (eR c).2.2 (eR c).1:=by
 have h:=ac0 hc;obtain⟨N,hN⟩:∃N,(eR c).2.2=N:=⟨_,rfl⟩;obtain⟨r,hr⟩:∃r,(eR c).1=r:=⟨_,rfl⟩;simp only[Dy,hN,hr,Bool.and_eq_true,decide_eq_true_eq,List.all_eq_true]at h;obtain⟨⟨⟨⟨h1,h2⟩,h3⟩,h4⟩,h5⟩:=h;have aa:∀k x,N[k]? =some x->((((x.1<3/\x.2.1<k+2)/\x.2.2<k+2)/\x.2.1≠x.2.2)/\x.1<b8 N x.2.1)/\x.1<b8 N x.2.2:=λk x hx=>by
  have:=h3 (x,k) (List.mem_zipIdx_iff_getElem?.2 hx);simpa only[Bool.and_eq_true,decide_eq_true_eq]using this
 have ok:eG N:=⟨λk x hx=>by
  obtain⟨⟨⟨⟨⟨a1,a2⟩,a3⟩,a4⟩,a5⟩,a6⟩:=aa k x hx;exact⟨by omega,a2,a3,a4,a5,a6⟩,h4⟩
 have v3:∀x∈N,x.1<3:=λx hx=>by
  obtain⟨k,hk⟩:=List.getElem?_of_mem hx;exact(aa k x hk).1.1.1.1.1
 rw[hN,hr];refine⟨h1,h2,ok,v3,λρ=> ?_⟩;rw[<-zL (zN ok v3 h2) ρ,Nat.eq_of_beq_eq_true h5]
end Go.Sp
end
noncomputable section
open Go Go.aw Go.Proofs
namespace Go.Sp
set_option maxRecDepth 100000
abbrev aef(n:Nat):DV:=.v (.int .u64 n)
def pl(w:Nat):List DV:=[.v (.int .u64 w),.v (.int .u64 0),.v (.int .u64 0),.v (.int .u64 0),.v (.int .u64 0),.v (.int .u64 0),.v (.int .u64 0),.v (.int .u64 0)]
structure dP where
 p:List aY
 first:Nat
 last:Nat
 follow:List Nat
 empty:Bool
def dP.e(m:dP):List DV:=[.sl 5 (m.p.map aY.e)]++pl m.first++pl m.last++[.sl 8 (m.follow.map pl),bV m.empty]
def ir:dP:=⟨ic,1,3,[2,2,0,0],false⟩
def DU:dP:=⟨CS,3,27,[24,24,0,24,24,0,0,0],false⟩
def DW:dP:=⟨CT,1,7,[6,6,6,0,0,0],false⟩
def nQ:List aY:=[⟨1,97,122,0,0⟩,⟨1,48,57,0,0⟩,⟨4,0,0,1,0⟩,⟨2,0,0,0,2⟩,⟨1,43,43,0,0⟩,⟨2,0,0,3,4⟩]
def oW:dP:=⟨nQ,1,16,[18,18,0,0,0,0],false⟩
def Aa:List aY:=[⟨1,42,42,0,0⟩,⟨1,43,43,0,0⟩,⟨2,0,0,0,1⟩,⟨1,97,122,0,0⟩,⟨4,0,0,3,0⟩,⟨2,0,0,2,4⟩]
def DX:dP:=⟨Aa,1,10,[2,8,0,8,0,0],false⟩
def Ab:List aY:=[⟨1,32,32,0,0⟩,⟨1,120,120,0,0⟩,⟨2,0,0,0,1⟩]
def DY:dP:=⟨Ab,1,2,[2,0,0],false⟩
def gQ:List dP:=[ir,DU,DW,oW,DX,DY]
theorem rP:∀m∈gQ,ax E true 62 [.sl 5 (m.p.map aY.e)] (iV 0):=bO (by kernel_rfl)
def nR(w:Nat):Nat:=((List.range 8).find? λi=>w.testBit i).getD 0
theorem aeg:∀w∈List.range 255,ax E true 153 [aef (w+1)] (iV (nR (w+1):Nat)):=bO (by kernel_rfl)
theorem aeh:∀p∈([(⟨#[91,97,45,122,93,91,97,45,122,93,42]⟩,ic),(⟨#[91,97,45,122,93,91,48,45,57,93,42,43]⟩,nQ),(⟨#[92,120,50,97,43,91,97,45,122,93,42]⟩,Aa),(⟨#[92,120,50,48,120]⟩,Ab)]:List (ByteArray×List aY)),ax E true 12 [sV p.1] (.bg [.sl 5 (p.2.map aY.e),iV 0]):=bO (by kernel_rfl)
end Go.Sp
end

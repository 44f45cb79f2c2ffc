/- SpacingIndependent: parts of its proof. -/
import Derived.Test.YtmhjnafgdhaemaaGreatDoorK23
open List renaming getElem?_eq_getElem->qe,range->PO,prefix_refl->PX,getElem?_append_left->Qc,prefix_append->TF,getElem?_eq_some_iff->Xw,mem_of_getElem?->ZJ,mem_range->ZL,zipIdx_cons->Z4
open Nat renaming le_refl->xS,lt_or_ge->DE,lt_of_lt_of_le->GP,strongRecOn->W2
open Bool renaming false_eq_true->Er
open Option renaming bind_some->VK,map_some->Zj,getD_some->Zr
open Option.some renaming inj->W9
set_option linter.all false
set_option maxRecDepth 100000
noncomputable section
open Go Go.au Go.Proofs
namespace Go.Sp
theorem Zk(d:Nat)(t:TypeId)(a b:Bool)(h:Tryz.prog.underlying t=some .bool):bQ Tryz.prog (Op.equalIn (d+1) t (.bool a) (.bool b))=some (a==b):=by
 rw[Op.equalIn];simp only[lV,tu _ _ h,VK];rfl
theorem Zl:bQ Tryz.prog (isAgg 4)=some false:=by kernel_rfl
theorem Zm(cs:Array Value)(o:Nat):bQ Tryz.prog (part 4 cs o)=cs[o]? :=by
 unfold part;simp only[lV,Zl,VK,Er,if_false];cases cs[o]? <;>rfl
theorem Zn(d:Nat)(a a':Bool)(i i':Int):bQ Tryz.prog (Op.equalIn (d+1+1) 85 (.agg #[.bool a,.int .i64 i]) (.agg #[.bool a',.int .i64 i']))=some (decide (a=a')&&decide (i=i')):=by
 have hs:Tryz.prog.stoodInHeld 85=false:=by kernel_rfl
 rw[Op.equalIn];by_cases h1:a=a'<;>by_cases h2:i=i'<;>
  simp[h1,h2,lV,tu _ _ Tryz.underlying85,tw,hs,rS,x4,Zm,eq_int d 3 .i64 _ _ Tryz.underlying3,Zk d 4 _ _ Tryz.underlying4]
theorem Zo(a a':Bool)(i i':Int):bQ Tryz.prog (Op.equal 85 (.agg #[.bool a,.int .i64 i]) (.agg #[.bool a',.int .i64 i']))=some (decide (a=a')&&decide (i=i')):=by
 obtain⟨d,hd⟩:=x5;unfold Op.equal;rw[hd];exact Zn d a a' i i'
theorem Zp(o p:Operand)(a a':Bool)(i i':Int):cD E .eql 85 o p (.agg #[.bool a,.int .i64 i]) (.agg #[.bool a',.int .i64 i'])=some (.bool (decide (a=a')&&decide (i=i'))):=by
 have hg:Tryz.prog.eqGuardType Tryz.prog.depth 85=false:=by kernel_rfl
 show eD Tryz.prog _=_;simp[eD,eqGuard,binOp,lV,tw,rS,hg,Zo,-bind_pure_comp];rfl
theorem Hf(o p:Operand)(a a':Bool)(i i':Int):iY E .eql 85 o p (.agg [.v (.bool a),.v (.int .i64 i)]) (.agg [.v (.bool a'),.v (.int .i64 i')])=some (.v (.bool (decide (a=a')&&decide (i=i')))):=by
 show(cD E .eql 85 o p (.agg #[.bool a,.int .i64 i]) (.agg #[.bool a',.int .i64 i'])).map DV.v=_;rw[Zp];rfl
theorem Zq(x y:Operand):iY E BinOp.neq 80 x y (.agg [bV false,iV 0,iV 0,iV 0,iV 0]) (.agg [.v (.bool false),.v (.int .i64 0),.v (.int .i64 0),.v (.int .i64 0),.v (.int .i64 0)])=some (bV false):=by kernel_rfl
theorem x8:w8 E 31 3 24:=by
 have h:(E.under 31).isSome=true:=by kernel_rfl
 obtain⟨d,hd⟩:=Option.isSome_iff_exists.1 h;have:=(j6 []).under 31 d hd;rw[show(uI []).P=Tryz.prog from rfl,Tryz.underlying31]at this;cases this;exact⟨⟨106,_,hd,by kernel_rfl,E9,by kernel_rfl,rfl⟩,by decide⟩
def KN(N:List Br):List (Br×Nat):=N.zipIdx.map λp=>(p.1,p.2+2)
theorem ZA(N:List Br)(x:Br):KN (N++[x])=KN N++[(x,N.length+2)]:=by
 simp[KN,List.zipIdx_append]
def look(N:List Br)(x:Br):Option Nat:=bc (KN N) x
structure gF(h:aa)(B M i:Nat)(N:List Br):Prop where
 aV:∃sl,h.get B=some (.row [sl,.map (some M)] true 0)/\((N=[]/\sl=.slice none 0 0)\/(N≠[]/\sl=.slice (some ⟨i,0,none⟩) N.length N.length/\h.get i=some (.row (N.flatMap dj) true 3)/\i<h.next/\i≠B/\i≠M))
 map:∃es clock,h.get M=some (.map es clock)/\jF oX gR es (KN N)
 ne:B≠M
 lt:B<h.next/\M<h.next
structure BL(B M i:Nat)(h g:aa):Prop where
 next:h.next<=g.next
 get:∀j o,j<h.next->j≠B->j≠M->j≠i->h.get j=some o->g.get j=some o
theorem Hu(N:List Br):(N.flatMap dj).length=N.length*3:=by
 induction N with
 |nil=>rfl
 |cons x r ih=>simp only[List.flatMap_cons,List.length_append,ih,List.length_cons,dj,List.length_nil];omega
theorem ZB(h:aa)(B:Nat)(v l:Int):bK E 180 [.pointer (some ⟨B,0,none⟩),.int .i64 v,.int .i64 l,.int .i64 l] h (.int .i64 l) h:=by
 refine lF Tryz.ntmps180 Tryz.results180 rfl ?_;simp[go_sem]
theorem ZC{h:aa}{B M i:Nat}{N:List Br}(hb:gF h B M i N){v l u n:Nat}(az:l≠u)(hk:look N (v,l,u)=some n):
 bK E 180 [.pointer (some ⟨B,0,none⟩),.int .i64 v,.int .i64 l,.int .i64 u] h (.int .i64 n) h:=by
 obtain⟨sl,hB,_⟩:=hb.aV;obtain⟨es,clock,hM,ao⟩:=hb.map;have ad:=wZ BG BE ao (v,l,u) true clock hk;simp only[oX,gR,cond_true]at ad;have ae:¬(l:Int)=u:=by omega
 obtain⟨aA,aB⟩:=hb.lt;have r1:rd h B 1=some (.map (some M)):=cI (o:=1) hB;refine lF Tryz.ntmps180 Tryz.results180 rfl ?_;simp(disch:=omega)[go_sem,ae];refine kI [aU 0,aU 1,aU 3,dB 7,dB 0,dB 31,aU 63,aU 127,aU 127,aU 255,aU 1023] (by kernel_rfl) 0 rfl ?_;simp(disch:=first|omega|(simp only[aa.aX,aa.aR,bG];omega)) [go_sem,cU,dO,bD,bl,r1,hM,ad];exact((Sub.refl h).new _).set (xS _) _
def ZD(h:aa)(B M i:Nat)(N:List Br)(x:Br)(v:Value)(g:aa):Prop:=v=.int .i64 (N.length+2:Nat)/\∃i',gF g B M i' (N++[x])/\BL B M i h g/\h.next<=i'
theorem ZE{h:aa}{B M i:Nat}{N:List Br}(hb:gF h B M i N){v l u:Nat}(az:l≠u)(hk:look N (v,l,u)=none)(hN:N.length<=10000):
 ∃H' i',bK E 180 [.pointer (some ⟨B,0,none⟩),.int .i64 v,.int .i64 l,.int .i64 u] h (.int .i64 (N.length+2:Nat)) H'/\gF H' B M i' (N++[(v,l,u)])/\BL B M i h H'/\h.next<=i':=by
 suffices hs:∃v' H',bK E 180 [.pointer (some ⟨B,0,none⟩),.int .i64 v,.int .i64 l,.int .i64 u] h v' H'/\ZD h B M i N (v,l,u) v' H' by
  obtain⟨v',H',h1,rfl,i',h2⟩:=hs;exact⟨H',i',h1,h2⟩
 obtain⟨sl,hB,aD⟩:=hb.aV;obtain⟨es,clock,hM,ao⟩:=hb.map;have ad:=zQ BG BE ao (v,l,u) true clock xz rfl hk;obtain⟨av,ab,ai,af⟩:=uJ BG (vf:=gR) BE ao (v,l,u) clock (N.length+2);rw[pQ hk,<-ZA]at af;have hw:IntKind.i64.wrap ((N.length:Int)+1+1)=(N.length:Int)+2:=aC (by omega) (by omega);simp only[oX,gR,cond_true,Int.natCast_add,Int.cast_ofNat_Int]at ad ai;have ae:¬(l:Int)=u:=by omega
 obtain⟨aA,aB⟩:=hb.lt;have aw:=hb.ne;have r1:rd h B 1=some (.map (some M)):=cI (o:=1) hB;have r0:rd h B 0=some sl:=cI (o:=0) hB;rcases aD with⟨rfl,rfl⟩|⟨aE,rfl,hi,aF,dE,nY⟩
 . refine run Tryz.ntmps180 Tryz.results180 ?_;simp(disch:=omega)[go_sem,ae];refine kI [aU 0,aU 1,aU 3,dB 7,dB 0,dB 31,aU 63,aU 127,aU 127,aU 255,aU 1023] (by kernel_rfl) 0 rfl ?_;simp(disch:=first|omega|(simp only[aa.aX,aa.aR,bG];omega)) [go_sem,cU,dO,bD,bl,r1,hM,ad];refine kI [aU 0,aU 0,aU 2,aU 6,dB 14,dB 0,zN 32,fq 126,aU 255,aU 511,fq 1023] (by kernel_rfl) 1 rfl ?_;simp(disch:=first|omega|(simp only[aa.aX,aa.aR,bG];omega)) [go_sem,cU,dO,bD,bl,r0,r1,hM,ad];rw[append_nil x8 (w9 (dT _ _ _) rfl) rfl (by decide) (by decide)];simp(disch:=first|omega|(simp only[aa.aX,aa.aR,bG];omega)) [go_sem,cU,dO,bD,bl,hB,hM,ad];refine kI [aU 0,aU 1,aU 3,dB 7,dB 0,aU 0,fq 63] (by kernel_rfl) 0 rfl ?_;replace ai:nv E 202 (.agg #[.int .i64 v,.int .i64 l,.int .i64 u]) (.int .i64 2) es clock=some (.map av ab):=ai;simp(disch:=first|omega|(simp only[aa.aX,aa.aR,bG];omega)) [go_sem,aC,cU,dO,bD,bl,hB,hM,ad,ai];refine⟨rfl,h.next+1+1,⟨⟨_, ?_,.inr ⟨by simp,rfl, ?_, ?_, ?_, ?_⟩⟩,⟨av,ab, ?_,af⟩,aw, ?_, ?_⟩,⟨?_,λj o hj h1 h2 h3 ho=> ?_⟩, ?_⟩
   all_goals try simp(disch:=first|omega|(simp only[aa.aX,aa.aR,bG];omega)) [go_sem,db,bD,bl,dj]
   all_goals first|omega|exact ho|(simp only[aa.di,aa.aX,aa.aR,bG,if_true];done)|skip
 . refine run Tryz.ntmps180 Tryz.results180 ?_;simp(disch:=omega)[go_sem,ae];refine kI [aU 0,aU 1,aU 3,dB 7,dB 0,dB 31,aU 63,aU 127,aU 127,aU 255,aU 1023] (by kernel_rfl) 0 rfl ?_;simp(disch:=first|omega|(simp only[aa.aX,aa.aR,bG];omega)) [go_sem,cU,dO,bD,bl,r1,hM,ad];refine kI [aU 0,aU 0,aU 2,aU 6,dB 14,dB 0,zN 32,fq 126,aU 255,aU 511,fq 1023] (by kernel_rfl) 1 rfl ?_;simp(disch:=first|omega|(simp only[aa.aX,aa.aR,bG];omega)) [go_sem,cU,dO,bD,bl,r0,r1,hM,ad,hi];rw[Et x8 (w9 (dT _ _ _) rfl) rfl (by decide) (i:=i) (cs:=N.flatMap dj) (by simp(disch:=first|omega|(simp only[aa.aX,aa.aR,bG];omega)) [go_sem,bD,bl,hi]) (Hu N) (by rfl) (by omega)];simp(disch:=first|omega|(simp only[aa.aX,aa.aR,bG];omega)) [go_sem,cU,dO,bD,bl,hB,hM,ad];rw[show(N.length:Int)+2=N.length+1+1 by omega]at ai;refine kI [aU 0,aU 1,aU 3,dB 7,dB 0,aU 0,fq 63] (by kernel_rfl) 0 rfl ?_;simp(disch:=first|omega|(simp only[aa.aX,aa.aR,bG];omega)) [go_sem,aC,cU,dO,bD,bl,hB,hM,ad,ai];refine⟨congrArg (Value.int .i64) (by omega),h.next+1+1,⟨⟨_, ?_,.inr ⟨by simp,rfl, ?_, ?_, ?_, ?_⟩⟩,⟨av,ab, ?_,af⟩,aw, ?_, ?_⟩,⟨?_,λj o hj h1 h2 h3 ho=> ?_⟩, ?_⟩
   all_goals try simp(disch:=first|omega|(simp only[aa.aX,aa.aR,bG];omega)) [go_sem,db,bD,bl,dj]
   all_goals first|omega|exact ho|(simp only[aa.di,aa.aX,aa.aR,bG,if_true];done)|skip
end Go.Sp
end
noncomputable section
namespace Go.Sp
abbrev cY:Type:=Nat->Bool
def cM(ρ:cY)(v:Nat)(b:Bool):cY:=λw=>if w=v then b else ρ w
def mM(N:List Br):Nat->Nat->cY->Bool
 |0,n,_=>n==1
 |f+1,n,ρ=>if n<2 then n==1 else match N[n-2]? with
  |none=>false
  |some (v,l,u)=>mM N f (if ρ v then u else l) ρ
def tb(N:List Br)(n:Nat)(ρ:cY):Bool:=mM N n n ρ
structure dX(N:List Br):Prop where
 ok:∀(k:Nat) x,N[k]? =some x->x.1<64/\x.2.1<k+2/\x.2.2<k+2/\x.2.1≠x.2.2/\x.1<bT N x.2.1/\x.1<bT N x.2.2
 nd:N.Nodup
theorem BM{N:List Br}(h:dX N):∀(f g n:Nat) (ρ:cY),n<=f->n<=g->mM N f n ρ=mM N g n ρ
 |0,g,n,ρ,hf,_=>by
  obtain rfl:n=0:=Nat.le_zero.1 hf;cases g<;>simp[mM]
 |f+1,0,n,ρ,_,hg=>by
  obtain rfl:n=0:=Nat.le_zero.1 hg;simp[mM]
 |f+1,g+1,n,ρ,hf,hg=>by
  simp only[mM]
  split
  . rfl
  . rename_i hn;cases hx:N[n-2]? with
    |none=>rfl
    |some x=>
     obtain⟨v,l,u⟩:=x;obtain⟨_,h1,h2,_⟩:=h.ok _ _ hx;simp only at h1 h2;simp only;apply BM h
     . split<;>omega
     . split<;>omega
theorem ZF(N:List Br)(ρ:cY):tb N 0 ρ=false:=rfl
theorem ZG(N:List Br)(ρ:cY):tb N 1 ρ=true:=rfl
theorem nO{N:List Br}{n:Nat}(hn:n<2)(ρ:cY):tb N n ρ=decide (n=1):=by
 match n,hn with
 |0,_=>rfl
 |1,_=>rfl
theorem kr{N:List Br}(h:dX N){n:Nat}(hn:2<=n){v l u:Nat}(hx:N[n-2]? =some (v,l,u))(ρ:cY):tb N n ρ=if ρ v then tb N u ρ else tb N l ρ:=by
 obtain⟨_,h1,h2,_⟩:=h.ok _ _ hx;simp only at h1 h2;unfold tb;obtain⟨m,rfl⟩:∃m,n=m+1:=⟨n-1,by omega⟩;have aw:¬m+1<2:=by omega
 rw[mM,if_neg aw,hx];simp only
 split
 . exact BM h _ _ _ _ (by omega) (xS _)
 . exact BM h _ _ _ _ (by omega) (xS _)
theorem nP{N:List Br}{n:Nat}(hn:n<2):bT N n=64:=by simp[bT,hn]
theorem lh{N:List Br}{n:Nat}(hn:2<=n){x:Br}(hx:N[n-2]? =some x):bT N n=x.1:=by
 have:¬n<2:=by omega
 simp[bT,this,hx]
theorem ZH{N:List Br}(h:dX N):∀(n:Nat) (ρ ad:cY),n<N.length+2->(∀w,bT N n<=w->ρ w=ad w)->tb N n ρ=tb N n ad:=by
 intro n
 induction n using W2 with
 |_ n ih=>
  intro ρ ad hn ha;by_cases h2:n<2
  . rw[nO h2,nO h2]
  . obtain⟨⟨v,l,u⟩,hx⟩:∃x,N[n-2]? =some x:=⟨_,qe (by omega)⟩;obtain⟨_,h3,h4,_,h5,h6⟩:=h.ok _ _ hx;simp only at h3 h4 h5 h6;have hl:bT N n=v:=lh (by omega) hx;rw[kr h (by omega) hx,kr h (by omega) hx,ha v (by omega)];rw[ih u (by omega) ρ ad (by omega) λw hw=>ha w (by omega),ih l (by omega) ρ ad (by omega) λw hw=>ha w (by omega)]
theorem vy(ρ:cY)(v:Nat)(b:Bool):cM ρ v b v=b:=by simp[cM]
theorem ZI(ρ:cY){v w:Nat}(b:Bool)(h:w≠v):cM ρ v b w=ρ w:=by simp[cM,h]
theorem im{N:List Br}(h:dX N){n v:Nat}(hn:n<N.length+2)(hv:v<bT N n)(ρ:cY)(b:Bool):tb N n (cM ρ v b)=tb N n ρ:=
 ZH h n _ _ hn λw hw=>ZI ρ b (by omega)
theorem BN{N:List Br}(h:dX N):∀(K n m:Nat),n<=K->m<=K->n<N.length+2->m<N.length+2->(∀ρ,tb N n ρ=tb N m ρ)->n=m:=by
 intro K
 induction K with
 |zero=>intro n m h1 h2 _ _ _;omega
 |succ K ih=>
  have key:∀n m,n<=K+1->m<=K+1->n<N.length+2->m<N.length+2->(∀ρ,tb N n ρ=tb N m ρ)->2<=n->bT N n<bT N m->False:=by
   intro n m hn hm ao ae ht h2 aa;obtain⟨⟨v,l,u⟩,hx⟩:∃x,N[n-2]? =some x:=⟨_,qe (by omega)⟩;obtain⟨_,h3,h4,af,h5,h6⟩:=h.ok _ _ hx;simp only at h3 h4 h5 h6 af;have hl:bT N n=v:=lh h2 hx;rw[hl]at aa;refine af (ih l u (by omega) (by omega) (by omega) (by omega) λρ=> ?_);have e0:=ht (cM ρ v false);have e1:=ht (cM ρ v true);rw[kr h h2 hx,vy,im h ae aa]at e0 e1;simp only[Er,if_false,if_true]at e0 e1;rw[im h (by omega) h5]at e0;rw[im h (by omega) h6]at e1;rw[e0,e1]
  intro n m hn hm ao ae ht;rcases Nat.lt_trichotomy (bT N n) (bT N m)with aa|heq|ai
  . by_cases h2:n<2
    . rw[nP h2]at aa;by_cases h3:m<2
      . rw[nP h3]at aa;omega
      . obtain⟨x,hx⟩:∃x,N[m-2]? =some x:=⟨_,qe (by omega)⟩;have:=(h.ok _ _ hx).1;rw[lh (by omega) hx]at aa;omega
    . exact(key n m hn hm ao ae ht (by omega) aa).elim
  . by_cases h2:n<2
    . by_cases h3:m<2
      . have:=ht (λ_=>false);rw[nO h2,nO h3]at this;have:(n=1)↔(m=1):=by simpa using this
        omega
      . obtain⟨x,hx⟩:∃x,N[m-2]? =some x:=⟨_,qe (by omega)⟩;have:=(h.ok _ _ hx).1;rw[nP h2,lh (by omega) hx]at heq;omega
    . by_cases h3:m<2
      . obtain⟨x,hx⟩:∃x,N[n-2]? =some x:=⟨_,qe (by omega)⟩;have:=(h.ok _ _ hx).1;rw[nP h3,lh (by omega) hx]at heq;omega
      . obtain⟨⟨v,l,u⟩,hx⟩:∃x,N[n-2]? =some x:=⟨_,qe (by omega)⟩;obtain⟨⟨v',l',u'⟩,ab⟩:∃x,N[m-2]? =some x:=⟨_,qe (by omega)⟩;obtain⟨_,a1,a2,_,a3,a4⟩:=h.ok _ _ hx;obtain⟨_,b1,b2,_,b3,b4⟩:=h.ok _ _ ab;simp only at a1 a2 a3 a4 b1 b2 b3 b4;rw[lh (by omega) hx,lh (by omega) ab]at heq;simp only at heq;subst heq;have el:l=l':=ih l l' (by omega) (by omega) (by omega) (by omega) λρ=>by
         have e0:=ht (cM ρ v false);rw[kr h (by omega) hx,kr h (by omega) ab,vy]at e0;simp only[Er,if_false]at e0;rwa[im h (by omega) a3,im h (by omega) b3]at e0
        have eu:u=u':=ih u u' (by omega) (by omega) (by omega) (by omega) λρ=>by
         have e0:=ht (cM ρ v true);rw[kr h (by omega) hx,kr h (by omega) ab,vy]at e0;simp only[if_true]at e0;rwa[im h (by omega) a4,im h (by omega) b4]at e0
        subst el;subst eu;have av:n-2<N.length:=by omega
        have dE:m-2<N.length:=by omega
        have:=(List.getElem_inj (i:=n-2) (j:=m-2) h.nd (h₀:=av) (h₁:=dE)).1 (by
         rw[qe av]at hx;rw[qe dE]at ab;rw[W9 hx,W9 ab])
        omega
  . by_cases h2:m<2
    . rw[nP h2]at ai;by_cases h3:n<2
      . rw[nP h3]at ai;omega
      . obtain⟨x,hx⟩:∃x,N[n-2]? =some x:=⟨_,qe (by omega)⟩;have:=(h.ok _ _ hx).1;rw[lh (by omega) hx]at ai;omega
    . exact(key m n hm hn ae ao (λρ=>(ht ρ).symm) (by omega) ai).elim
theorem x9{N:List Br}(x:Br){n:Nat}(hn:n<N.length+2):bT (N++[x]) n=bT N n:=by
 unfold bT
 split
 . rfl
 . rw[Qc (by omega)]
theorem Hv{N N':List Br}(h:dX N)(hp:N<+:N'):∀(f n:Nat) (ρ:cY),n<N.length+2->mM N' f n ρ=mM N f n ρ
 |0,n,ρ,_=>rfl
 |f+1,n,ρ,hn=>by
  simp only[mM]
  split
  . rfl
  . obtain⟨r,rfl⟩:=hp;rw[Qc (by omega)];cases hx:N[n-2]? with
    |none=>rfl
    |some x=>
     obtain⟨v,l,u⟩:=x;obtain⟨_,h1,h2,_⟩:=h.ok _ _ hx;simp only at h1 h2;exact Hv h ⟨r,rfl⟩ f _ ρ (by split<;>omega)
theorem ya{N N':List Br}(h:dX N)(hp:N<+:N'){n:Nat}(hn:n<N.length+2)(ρ:cY):tb N' n ρ=tb N n ρ:=Hv h hp n n ρ hn
theorem dX.snoc{N:List Br}(h:dX N){v l u:Nat}(hv:v<64)(hl:l<N.length+2)(hu:u<N.length+2)(af:l≠u)(h1:v<bT N l)(h2:v<bT N u)(au:(v,l,u)∉N):dX (N++[(v,l,u)]):=by
 refine⟨λk x hx=> ?_, ?_⟩
 . rcases DE k N.length with hk|hk
   . rw[Qc hk]at hx;obtain⟨a1,a2,a3,a4,a5,a6⟩:=h.ok k x hx;exact⟨a1,a2,a3,a4,by rwa[x9 _ (by omega)],by rwa[x9 _ (by omega)]⟩
   . have az:k=N.length:=by
      have:=(Xw.1 hx).1;simp at this;omega
     subst az;simp at hx;subst hx;exact⟨hv,hl,hu,af,by rwa[x9 _ hl],by rwa[x9 _ hu]⟩
 . rw[List.nodup_append];exact⟨h.nd,by simp,λa ha b hb=>by simp at hb;subst hb;exactλe=>au (e▸ha)⟩
end Go.Sp
end
noncomputable section
open Go Go.au Go.Proofs
namespace Go.Sp
theorem ZK(a b c:Int):pJ E [.int .i64 a,.int .i64 b,.int .i64 c]=some (.int .i64 (min (min a b) c)):=by
 have h:pJ E [.int .i64 a,.int .i64 b,.int .i64 c]=eD Tryz.prog (Builtin.min_ #[] 0 #[.int .i64 a,.int .i64 b,.int .i64 c]):=rfl;rw[h];unfold eD;have h2:bQ Tryz.prog (Builtin.min_ #[] 0 #[.int .i64 a,.int .i64 b,.int .i64 c])=some (.int .i64 (min (min a b) c)):=by
  simp[Builtin.min_,Builtin.min2,lV,rS,Int.min_def]
  split<;>split<;>(try split)<;>omega
 rw[h2];rfl
theorem yb{N:List Br}(h:dX N){n v:Nat}(hn:n<N.length+2)(hv:v<64)(hd:∀(ρ:cY) w b,w<=v->tb N n (cM ρ w b)=tb N n ρ):v<bT N n:=by
 by_cases h2:n<2
 . rw[nP h2];exact hv
 . obtain⟨⟨w,l,u⟩,hx⟩:∃x,N[n-2]? =some x:=⟨_,qe (by omega)⟩;obtain⟨_,h3,h4,aa,h5,h6⟩:=h.ok _ _ hx;simp only at h3 h4 h5 h6 aa;rw[lh (by omega) hx];show v<w;rcases DE v w with h7|h7
   . exact h7
   . exfalso;refine aa (BN h n l u (by omega) (by omega) (by omega) (by omega) λρ=> ?_);have e0:=hd ρ w false h7;have e1:=hd ρ w true h7;rw[kr h (by omega) hx,vy]at e0 e1;simp only[Er,if_false,if_true]at e0 e1;rw[im h (by omega) h5]at e0;rw[im h (by omega) h6]at e1;rw[e0,e1]
structure nQ where
 sl:Value
 ns:List Br
 r:Nat
def nQ.ok(h:aa)(d:nQ):Prop:=j7 3 h d.sl (d.ns.map dj)/\dX d.ns/\(∀x∈d.ns,x.1<3)/\d.ns.length<=300
theorem nQ.ok.sub{h g:aa}{d:nQ}(hd:d.ok h)(a:Sub h g):d.ok g:=⟨hd.1.sub a,hd.2⟩
section
variable (b:Nat) (h0:aa) (d0 d1 d2:nQ) (fo:Nat) (cap:List Value) (op:Bool->Bool->Bool->Bool)
structure yc:Prop where
 b:h0.next=b
 d0:d0.ok h0
 d1:d1.ok h0
 d2:d2.ok h0
 op:∀H,Sub h0 H->∀x y z,bK E fo ([.bool x,.bool y,.bool z]++cap) H (.bool (op x y z)) H
def tC:Value:=.func (.func 178) #[] #[.pointer (some ⟨b+1,0,none⟩),.pointer (some ⟨b+7,0,none⟩),.pointer (some ⟨b,0,none⟩),.pointer (some ⟨b+8,0,none⟩),.pointer (some ⟨b+5,0,none⟩)]
structure oY(H:aa)(i:Nat)(N:List Br)(L:List ((Nat×Nat×Nat)×Nat)):Prop where
 sub:Sub h0 H
 nx:b+9<=H.next
 lB:H.get b=some (.row [d0.sl,.int .i64 d0.r,d1.sl,.int .i64 d1.r,d2.sl,.int .i64 d2.r] true 0)
 BO:H.get (b+1)=some (.row [.func (.func fo) #[] cap.toArray] true 0)
 bC:H.get (b+5)=some (.row [.pointer (some ⟨b+4,0,none⟩)] true 0)
 mN:H.get (b+7)=some (.row [.map (some (b+6))] true 0)
 yd:H.get (b+8)=some (.row [tC b] true 0)
 vz:gF H (b+4) (b+3) i N
 ii:N≠[]->b+9<=i
 il:i<H.next
 jV:∃es clock,H.get (b+6)=some (.map es clock)/\jF nN gR es L
 js:dX N
 v3:∀x∈N,x.1<3
 BP:∀x y z r,bc L (x,y,z)=some r->r<N.length+2/\∀ρ,tb N r ρ=op (tb d0.ns x ρ) (tb d1.ns y ρ) (tb d2.ns z ρ)
end
def BQ(b:Nat)(h0:aa)(d0 d1 d2:nQ)(fo:Nat)(cap:List Value)(op:Bool->Bool->Bool->Bool)(H:aa)(i:Nat)(N:List Br)(x y z:Nat)(v:Value)(H':aa):Prop:=
 ∃(r i':Nat) (N':List Br) (L':List ((Nat×Nat×Nat)×Nat)),v=.int .i64 r/\oY b h0 d0 d1 d2 fo cap op H' i' N' L'/\N<+:N'/\r<N'.length+2/\(∀ρ,tb N' r ρ=op (tb d0.ns x ρ) (tb d1.ns y ρ) (tb d2.ns z ρ))/\
  (H.next<=H'.next/\∀j o,j<H.next->j≠b+3->j≠b+4->j≠b+6->j≠i->H.get j=some o->H'.get j=some o)/\(i'=i\/H.next<=i')
theorem gF.sub{h g:aa}{B M i:Nat}{N:List Br}(hb:gF h B M i N)(a:Sub h g):gF g B M i N:=by
 obtain⟨⟨sl,h1,h2⟩,⟨es,cl,h3,h4⟩,h5,h6,h7⟩:=hb;refine⟨⟨sl,a.get _ _ h6 h1, ?_⟩,⟨es,cl,a.get _ _ h7 h3,h4⟩,h5,GP h6 a.next,GP h7 a.next⟩;rcases h2 with h2|⟨e1,e2,e3,e4,e5⟩
 . exact .inl h2
 . exact .inr ⟨e1,e2,a.get _ _ e4 e3,GP e4 a.next,e5⟩
theorem oY.mono{b:Nat}{h0:aa}{d0 d1 d2:nQ}{fo:Nat}{cap:List Value}{op:Bool->Bool->Bool->Bool}{H G:aa}{i:Nat}{N:List Br}{L:List ((Nat×Nat×Nat)×Nat)}(I:oY b h0 d0 d1 d2 fo cap op H i N L)(a:Sub H G):oY b h0 d0 d1 d2 fo cap op G i N L:=by
 have hn:=I.nx;obtain⟨es,cl,h3,h4⟩:=I.jV;exact⟨I.sub.trans a,Nat.le_trans hn a.next,a.get _ _ (by omega) I.lB,a.get _ _ (by omega) I.BO,a.get _ _ (by omega) I.bC,a.get _ _ (by omega) I.mN,a.get _ _ (by omega) I.yd,I.vz.sub a,I.ii,GP I.il a.next,
  ⟨es,cl,a.get _ _ (by omega) h3,h4⟩,I.js,I.v3,I.BP⟩
def lW(b:Nat):List Value:=[.pointer (some ⟨b+1,0,none⟩),.pointer (some ⟨b+7,0,none⟩),.pointer (some ⟨b,0,none⟩),.pointer (some ⟨b+8,0,none⟩),.pointer (some ⟨b+5,0,none⟩)]
section
variable {b:Nat} {h0:aa} {d0 d1 d2:nQ} {fo:Nat} {cap:List Value} {op:Bool->Bool->Bool->Bool} {H:aa} {i:Nat} {N:List Br} {L:List ((Nat×Nat×Nat)×Nat)}
theorem ZM(S:yc b h0 d0 d1 d2 fo cap op)(I:oY b h0 d0 d1 d2 fo cap op H i N L){x y z:Nat}(hx:x<2)(hy:y<2)(hz:z<2):
 bK E 178 (.agg #[.int .i64 x,.int .i64 y,.int .i64 z]::lW b) H (.int .i64 (if op (decide (x=1)) (decide (y=1)) (decide (z=1))then 1 else 0:Nat)) H:=by
 have r1:rd H (b+1) 0=some (.func (.func fo) #[] cap.toArray):=cI (o:=0) I.BO;have hn:=I.nx;have ad:(x:Int)<2:=by omega
 have ae:(y:Int)<2:=by omega
 have af:(z:Int)<2:=by omega
 refine lF Tryz.ntmps178 Tryz.results178 rfl ?_;simp(disch:=omega)[go_sem,lW,dF,cU,ad,ae,af,r1];have one:∀n:Nat,decide ((n:Int)=1)=decide (n=1):=λn=>decide_eq_decide.2 (by omega);rw[one,one,one];refine KC.mk (S.op _ (I.sub.new _) _ _ _) ?_;cases op (decide (x=1)) (decide (y=1)) (decide (z=1))with
 |true=>
  simp(disch:=omega)[go_sem];exact(Sub.refl H).new _
 |false=>
  simp(disch:=omega)[go_sem];exact(Sub.refl H).new _
theorem ZN(I:oY b h0 d0 d1 d2 fo cap op H i N L){x y z r:Nat}(hc:¬(x<2/\y<2/\z<2))(hk:bc L (x,y,z)=some r):
 bK E 178 (.agg #[.int .i64 x,.int .i64 y,.int .i64 z]::lW b) H (.int .i64 r) H:=by
 have r1:rd H (b+7) 0=some (.map (some (b+6))):=cI (o:=0) I.mN;have hn:=I.nx;obtain⟨es,clock,hM,ai⟩:=I.jV;have ab:=wZ BH BF ai (x,y,z) true clock hk;simp only[nN,gR,cond_true]at ab;refine lF Tryz.ntmps178 Tryz.results178 rfl ?_;have fin:∀a o,Sub H ((H.new a).set H.next o):=λa o=>((Sub.refl H).new a).set (xS _) o;by_cases hx:(x:Int)<2
 . by_cases hy:(y:Int)<2
   . have hz:¬(z:Int)<2:=by omega
     simp(disch:=omega)[go_sem,lW,dF,cU,bD,hx,hy,hz,r1,hM,ab];exact(Sub.refl H).new _
   . simp(disch:=omega)[go_sem,lW,dF,cU,bD,hx,hy,r1,hM,ab];exact(Sub.refl H).new _
 . simp(disch:=omega)[go_sem,lW,dF,cU,bD,hx,r1,hM,ab];exact(Sub.refl H).new _
end
end Go.Sp
end
noncomputable section
namespace Go.Sp
theorem BR{N:List Br}(h:dX N){n v:Nat}(hn:n<N.length+2)(hv:v<64)(b:Bool):side N n v b<=n/\(bT N n=v->side N n v b<n):=by
 unfold side;by_cases hl:bT N n=v
 . rw[if_pos hl];have h2:2<=n:=by
    rcases DE n 2 with h2|h2
    . rw[nP h2]at hl;omega
    . exact h2
   obtain⟨x,hx⟩:∃x,N[n-2]? =some x:=⟨_,qe (by omega)⟩;obtain⟨_,h3,h4,_⟩:=h.ok _ _ hx;rw[hx];cases b<;>simp<;>omega
 . rw[if_neg hl];exact⟨xS _,λh=>absurd h hl⟩
theorem BS{N:List Br}(h:dX N){n v:Nat}(hn:n<N.length+2)(hv:v<64)(hle:v<=bT N n)(b:Bool)(ρ:cY):tb N (side N n v b) ρ=tb N n (cM ρ v b):=by
 unfold side;by_cases hl:bT N n=v
 . rw[if_pos hl];have h2:2<=n:=by
    rcases DE n 2 with h2|h2
    . rw[nP h2]at hl;omega
    . exact h2
   obtain⟨⟨w,l,u⟩,hx⟩:∃x,N[n-2]? =some x:=⟨_,qe (by omega)⟩;obtain⟨_,h3,h4,_,h5,h6⟩:=h.ok _ _ hx;simp only at h3 h4 h5 h6;have hw:w=v:=by rw[lh h2 hx]at hl;exact hl
   subst hw;rw[kr h h2 hx,vy,hx];cases b
   . simp only[Zj,Zr,Er,if_false];exact(im h (by omega) h5 ρ false).symm
   . simp only[Zj,Zr,if_true];exact(im h (by omega) h6 ρ true).symm
 . rw[if_neg hl];exact(im h hn (by omega) ρ b).symm
theorem ZO(ρ:cY)(v:Nat):cM ρ v (ρ v)=ρ:=by
 funext w
 unfold cM
 split
 . rename_i h;rw[h]
 . rfl
theorem ZP(ρ:cY)(v:Nat)(a b:Bool):cM (cM ρ v a) v b=cM ρ v b:=by
 funext w
 unfold cM
 split<;>rfl
theorem ZQ(ρ:cY){v w:Nat}(h:v≠w)(a b:Bool):cM (cM ρ v a) w b=cM (cM ρ w b) v a:=by
 funext u
 unfold cM
 split
 . rename_i h1;subst h1;rw[if_neg (λh2=>h h2.symm)]
 . rfl
theorem Hw{N:List Br}{T:cY->Bool}{v r0 r1:Nat}(h0:∀ρ,tb N r0 ρ=T (cM ρ v false))(h1:∀ρ,tb N r1 ρ=T (cM ρ v true))(ρ:cY):T ρ=if ρ v then tb N r1 ρ else tb N r0 ρ:=by
 rw[h0,h1];have:=ZO ρ v;cases hv:ρ v
 . rw[hv]at this;simp[this]
 . rw[hv]at this;simp[this]
theorem Hx{N:List Br}(h:dX N){T:cY->Bool}{v r:Nat}{b:Bool}(hr:r<N.length+2)(hv:v<64)(hT:∀ρ w c,w<v->T (cM ρ w c)=T ρ)(h0:∀ρ,tb N r ρ=T (cM ρ v b))(yb:∀{n v:Nat},n<N.length+2->v<64->(∀(ρ:cY) w b,w<=v->tb N n (cM ρ w b)=tb N n ρ)->v<bT N n):v<bT N r:=by
 refine yb hr hv λρ w c hw=> ?_;rw[h0,h0];rcases DE w v with h1|h1
 . rw[ZQ ρ (by omega),hT _ _ _ h1]
 . have:w=v:=by omega
   subst this;rw[ZP]
theorem ye:∀(k:Nat) (l:List Nat),l.Nodup->(∀x∈l,x<k)->l.length<=k
 |0,l,_,h=>by
  cases l with
  |nil=>simp
  |cons a r=>exact absurd (h a (by simp)) (by omega)
 |k+1,l,hn,h=>by
  have h1:=ye k (l.erase k) (hn.erase k) λx hx=>by
   have h2:=h x (List.mem_of_mem_erase hx);have h3:x≠k:=λe=>by
    subst e;exact(hn.not_mem_erase) hx
   omega
  have:l.length<=(l.erase k).length+1:=by
   rw[List.length_erase]
   split<;>omega
  omega
def bL(k:Nat):cY:=λv=>k.testBit v
def code(f:cY->Bool):Nat:=(PO 8).foldl (λa k=>2*a+(if f (bL k)then 1 else 0)) 0
theorem tD(f:cY->Bool):code f=2*(2*(2*(2*(2*(2*(2*(2*0+(if f (bL 0)then 1 else 0))+(if f (bL 1)then 1 else 0))+(if f (bL 2)then 1 else 0))+(if f (bL 3)then 1 else 0))+(if f (bL 4)then 1 else 0))+(if f (bL 5)then 1 else 0))+(if f (bL 6)then 1 else 0))+(if f (bL 7)then 1 else 0):=rfl
theorem dY(b:Bool):(if b then 1 else 0:Nat)<=1:=by cases b<;>simp
theorem ZR(f:cY->Bool):code f<256:=by
 rw[tD];have:=dY (f (bL 0));have:=dY (f (bL 1));have:=dY (f (bL 2));have:=dY (f (bL 3));have:=dY (f (bL 4));have:=dY (f (bL 5));have:=dY (f (bL 6));have:=dY (f (bL 7));omega
theorem ZS{a b:Bool}(h:(if a then 1 else 0:Nat)=if b then 1 else 0):a=b:=by cases a<;>cases b<;>simp at h⊢
theorem ZT{f g:cY->Bool}(h:code f=code g):∀k,k<8->f (bL k)=g (bL k):=by
 rw[tD,tD]at h;have a0:=dY (f (bL 0));have a1:=dY (f (bL 1));have a2:=dY (f (bL 2));have a3:=dY (f (bL 3));have a4:=dY (f (bL 4));have a5:=dY (f (bL 5));have a6:=dY (f (bL 6));have a7:=dY (f (bL 7));have b0:=dY (g (bL 0));have b1:=dY (g (bL 1));have b2:=dY (g (bL 2));have b3:=dY (g (bL 3));have b4:=dY (g (bL 4));have b5:=dY (g (bL 5));have b6:=dY (g (bL 6));have b7:=dY (g (bL 7));intro k hk;have:k=0\/k=1\/k=2\/k=3\/k=4\/k=5\/k=6\/k=7:=by omega
 rcases this with rfl|rfl|rfl|rfl|rfl|rfl|rfl|rfl<;>exact ZS (by omega)
theorem ZU(ρ:cY):∃k,k<8/\∀v,v<3->bL k v=ρ v:=by
 refine⟨(if ρ 0 then 1 else 0)+(if ρ 1 then 2 else 0)+(if ρ 2 then 4 else 0), ?_,λv hv=> ?_⟩
 . cases ρ 0<;>cases ρ 1<;>cases ρ 2<;>simp
 . have:v=0\/v=1\/v=2:=by omega
   rcases this with rfl|rfl|rfl<;>cases ρ 0<;>cases ρ 1<;>cases ρ 2<;>rfl
theorem BU{N:List Br}(h:dX N)(h3:∀x∈N,x.1<3):∀(n:Nat) (ρ aa:cY),n<N.length+2->(∀w,w<3->ρ w=aa w)->tb N n ρ=tb N n aa:=by
 intro n
 induction n using W2 with
 |_ n ih=>
  intro ρ aa hn ha;by_cases h2:n<2
  . rw[nO h2,nO h2]
  . obtain⟨⟨v,l,u⟩,hx⟩:∃x,N[n-2]? =some x:=⟨_,qe (by omega)⟩;obtain⟨_,h4,h5,_⟩:=h.ok _ _ hx;simp only at h4 h5;have hv:v<3:=h3 _ (ZJ hx);rw[kr h (by omega) hx,kr h (by omega) hx,ha v hv,ih u (by omega) ρ aa (by omega) ha,ih l (by omega) ρ aa (by omega) ha]
theorem BV{N:List Br}(h:dX N)(h3:∀x∈N,x.1<3):N.length<=254:=by
 have:=ye 256 ((PO (N.length+2)).map λn=>code (tb N n)) ?_ λx hx=> ?_
 . simp at this;omega
 . show List.Pairwise _ _;rw[List.pairwise_map];refine List.Pairwise.imp_of_mem (λ{n m} hn hm ab he=>ab ?_) (List.nodup_range:(PO (N.length+2)).Pairwise (·≠·));rw[ZL]at hn hm;refine BN h (N.length+2) n m (by omega) (by omega) hn hm λρ=> ?_;obtain⟨k,hk,ha⟩:=ZU ρ;rw[BU h h3 n ρ (bL k) hn λw hw=>(ha w hw).symm,BU h h3 m ρ (bL k) hm λw hw=>(ha w hw).symm];exact ZT he k hk
 . simp only[List.mem_map,ZL]at hx;obtain⟨n,_,rfl⟩:=hx;exact ZR _
end Go.Sp
end
noncomputable section
open Go Go.au Go.Proofs
namespace Go.Sp
theorem Hy(x:Br):∀(N:List Br) (k:Nat),bc ((N.zipIdx k).map λp=>(p.1,p.2+2)) x=none->x∉N
 |[],_,_=>by simp
 |y::r,k,h=>by
  simp only[Z4,List.map_cons,bc]at h
  split at h
  . cases h
  . rename_i ab;rw[List.mem_cons,not_or];exact⟨ab,Hy x r (k+1) h⟩
theorem Hz(x:Br):∀(N:List Br) (k n:Nat),bc ((N.zipIdx k).map λp=>(p.1,p.2+2)) x=some n->k+2<=n/\N[n-2-k]? =some x
 |[],_,_,h=>by simp[bc]at h
 |y::r,k,n,h=>by
  simp only[Z4,List.map_cons,bc]at h
  split at h
  . rename_i he;cases h;subst he;refine⟨xS _, ?_⟩;rw[show k+2-2-k=0 by omega];rfl
  . obtain⟨h1,h2⟩:=Hz x r (k+1) n h;refine⟨by omega, ?_⟩;rw[show n-2-k=(n-2-(k+1))+1 by omega];simpa using h2
theorem ZV{N:List Br}{x:Br}(h:look N x=none):x∉N:=Hy x N 0 h
theorem ZW{N:List Br}{x:Br}{n:Nat}(h:look N x=some n):2<=n/\N[n-2]? =some x:=by
 have:=Hz x N 0 n h;simpa using this
theorem HA{h:aa}{B M i:Nat}{N:List Br}(hb:gF h B M i N)(ok:dX N)(v3:∀x∈N,x.1<3){v l u:Nat}(hv:v<3)(hl:l<N.length+2)(hu:u<N.length+2)(h1:v<bT N l)(h2:v<bT N u)(hN:N.length<=10000)(hi:i<h.next):
 ∃r H' i' N',bK E 180 [.pointer (some ⟨B,0,none⟩),.int .i64 v,.int .i64 l,.int .i64 u] h (.int .i64 (r:Nat)) H'/\gF H' B M i' N'/\N<+:N'/\dX N'/\(∀x∈N',x.1<3)/\r<N'.length+2/\
  (∀ρ,tb N' r ρ=if ρ v then tb N u ρ else tb N l ρ)/\BL B M i h H'/\(i'=i\/h.next<=i')/\i'<H'.next/\(N'≠[]->N=[]->h.next<=i'):=by
 by_cases ab:l=u
 . subst ab;exact⟨l,h,i,N,ZB h B v l,hb,PX _,ok,v3,hl,λρ=>by simp,⟨xS _,λ_ _ _ _ _ _ h=>h⟩,.inl rfl,hi,λh1 h2=>absurd h2 h1⟩
 . cases hk:look N (v,l,u)with
   |some n=>
    obtain⟨h3,h4⟩:=ZW hk;have h5:=(Xw.1 h4).1;exact⟨n,h,i,N,ZC hb ab hk,hb,PX _,ok,v3,by omega,λρ=>kr ok h3 h4 ρ,⟨xS _,λ_ _ _ _ _ _ h=>h⟩,.inl rfl,hi,λh1 h2=>absurd h2 h1⟩
   |none=>
    obtain⟨H',i',e1,e2,e3,e4⟩:=ZE hb ab hk hN;have ad:=ok.snoc (by omega) hl hu ab h1 h2 (ZV hk);refine⟨N.length+2,H',i',N++[(v,l,u)],e1,e2,TF _ _,ad,λx hx=> ?_,by simp,λρ=> ?_,e3,.inr e4, ?_,λ_ _=>e4⟩
    . rw[List.mem_append]at hx;rcases hx with hx|hx
      . exact v3 x hx
      . simp at hx;subst hx;exact hv
    . rw[kr ad (by omega) (v:=v) (l:=l) (u:=u) (by simp),ya ok (TF _ _) hu,ya ok (TF _ _) hl]
    . obtain⟨sl,_,h3⟩:=e2.aV;rcases h3 with⟨h3,_⟩|⟨_,_,_,h3,_⟩
      . simp at h3
      . exact h3
theorem gF.HB{h:aa}{B M i:Nat}(k:Nat)(hb:gF h B M i []):gF h B M k []:=by
 obtain⟨⟨sl,h1,h2⟩,h3,h5,h6⟩:=hb;refine⟨⟨sl,h1, ?_⟩,h3,h5,h6⟩;rcases h2 with h2|⟨e1,_⟩
 . exact .inl h2
 . exact absurd rfl e1
theorem gF.put{h:aa}{B M i j:Nat}{N:List Br}(hb:gF h B M i N)(o:Option bF)(h1:j≠B)(h2:j≠M)(h3:N≠[]->j≠i):gF (h.set j o) B M i N:=by
 obtain⟨⟨sl,a1,a2⟩,⟨es,cl,a3,a4⟩,a5,a6,a7⟩:=hb;refine⟨⟨sl, ?_, ?_⟩,⟨es,cl, ?_,a4⟩,a5,a6,a7⟩
 . rw[bl _ _ _ _ (by omega)];exact a1
 . rcases a2 with a2|⟨e1,e2,e3,e4,e5⟩
   . exact .inl a2
   . exact .inr ⟨e1,e2,by rw[bl _ _ _ _ (by have:=h3 e1;omega)];exact e3,e4,e5⟩
 . rw[bl _ _ _ _ (by omega)];exact a3
theorem ZX{h:aa}{B M i:Nat}{N:List Br}(hb:gF h B M i N)(ok:dX N)(v3:∀x∈N,x.1<3){v l u:Nat}(hv:v<3)(hl:l<N.length+2)(hu:u<N.length+2)(h1:v<bT N l)(h2:v<bT N u)(hi:i<h.next):
 ∃r H' i' N',bK E 180 [.pointer (some ⟨B,0,none⟩),.int .i64 v,.int .i64 l,.int .i64 u] h (.int .i64 (r:Nat)) H'/\gF H' B M i' N'/\N<+:N'/\dX N'/\(∀x∈N',x.1<3)/\r<N'.length+2/\
  (∀ρ,tb N' r ρ=if ρ v then tb N u ρ else tb N l ρ)/\(h.next<=H'.next/\∀j o,j<h.next->j≠B->j≠M->(N≠[]->j≠i)->h.get j=some o->H'.get j=some o)/\(i'=i\/h.next<=i')/\i'<H'.next/\(N'≠[]->N=[]->h.next<=i'):=by
 have hN:=BV ok v3;by_cases hn:N=[]
 . subst hn;obtain⟨r,H',i',N',a1,a2,a3,a4,a5,a6,a7,a8,a9,dJ,dD⟩:=HA (hb.HB B) ok v3 hv hl hu h1 h2 (by omega) hb.lt.1;by_cases bb:N'=[]
   . subst bb;exact⟨r,H',i,[],a1,a2.HB i,a3,a4,a5,a6,a7,⟨a8.next,λj o b1 b2 b3 _ b4=>a8.get j o b1 b2 b3 b2 b4⟩,.inl rfl,GP hi a8.next,λh=>absurd rfl h⟩
   . exact⟨r,H',i',N',a1,a2,a3,a4,a5,a6,a7,⟨a8.next,λj o b1 b2 b3 _ b4=>a8.get j o b1 b2 b3 b2 b4⟩,.inr (dD bb rfl),dJ,dD⟩
 . obtain⟨r,H',i',N',a1,a2,a3,a4,a5,a6,a7,a8,a9,dJ,dD⟩:=HA hb ok v3 hv hl hu h1 h2 (by omega) hi;exact⟨r,H',i',N',a1,a2,a3,a4,a5,a6,a7,⟨a8.next,λj o b1 b2 b3 b4 b5=>a8.get j o b1 b2 b3 (b4 hn) b5⟩,a9,dJ,dD⟩
theorem BW{N:List Br}(v3:∀x∈N,x.1<3){n:Nat}(hn:n<N.length+2)(h2:¬n<2):bT N n<3:=by
 obtain⟨⟨v,l,u⟩,hx⟩:∃x,N[n-2]? =some x:=⟨_,qe (by omega)⟩;rw[lh (by omega) hx];exact v3 _ (ZJ hx)
theorem KC.of{K:Kt}{ds:List Deferred}{h:aa}{f:FuncId}{args:List Value}{P:Value->aa->Prop}(hr:∃v h',bK E f args h v h'/\P v h')(hk:∀v h',P v h'->K v ds h'):KC E K ds h (f,args):=by
 obtain⟨v,h',h1,h2⟩:=hr;exact⟨v,h',h1,hk v h' h2⟩
section
variable {b:Nat} {h0:aa} {d0 d1 d2:nQ} {fo:Nat} {cap:List Value} {op:Bool->Bool->Bool->Bool} {H:aa} {i:Nat} {N:List Br} {L:List ((Nat×Nat×Nat)×Nat)}
set_option maxHeartbeats 0 in
theorem ZY(S:yc b h0 d0 d1 d2 fo cap op)(I:oY b h0 d0 d1 d2 fo cap op H i N L){x y z:Nat}(hc:¬(x<2/\y<2/\z<2))(hk:bc L (x,y,z)=none)
 (ao:x<d0.ns.length+2) (av:y<d1.ns.length+2) (aw:z<d2.ns.length+2)
 (IH:∀(x' y' z':Nat) (H1:aa) (i1:Nat) (N1:List Br) (L1:List ((Nat×Nat×Nat)×Nat)),x'+y'+z'<x+y+z->x'<d0.ns.length+2->y'<d1.ns.length+2->z'<d2.ns.length+2->oY b h0 d0 d1 d2 fo cap op H1 i1 N1 L1->
  ∃v' H',bK E 178 (.agg #[.int .i64 x',.int .i64 y',.int .i64 z']::lW b) H1 v' H'/\BQ b h0 d0 d1 d2 fo cap op H1 i1 N1 x' y' z' v' H'):
 ∃v H',bK E 178 (.agg #[.int .i64 x,.int .i64 y,.int .i64 z]::lW b) H v H'/\BQ b h0 d0 d1 d2 fo cap op H i N x y z v H':=by
 have r1:rd H (b+7) 0=some (.map (some (b+6))):=cI (o:=0) I.mN;have hn:=I.nx;obtain⟨es,clock,hM,bu⟩:=I.jV;have aD:=zQ BH BF bu (x,y,z) true clock xz rfl hk;simp only[nN,cond_true]at aD;have l0:rd H b 0=some d0.sl:=cI (o:=0) I.lB;have l1:rd H b 1=some (.int .i64 d0.r):=cI (o:=1) I.lB;have l2:rd H b 2=some d1.sl:=cI (o:=2) I.lB;have l3:rd H b 3=some (.int .i64 d1.r):=cI (o:=3) I.lB;have l4:rd H b 4=some d2.sl:=cI (o:=4) I.lB;have l5:rd H b 5=some (.int .i64 d2.r):=cI (o:=5) I.lB;have hS:∀a,Sub h0 (H.new a):=λa=>I.sub.new a;refine run Tryz.ntmps178 Tryz.results178 ?_;have bx:(¬(x:Int)<2)\/((x:Int)<2/\¬(y:Int)<2)\/((x:Int)<2/\(y:Int)<2/\¬(z:Int)<2):=by omega
 obtain⟨v,hv,bZ,b0⟩:∃v:Nat,min ((bT d0.ns x:Nat):Int) (min ((bT d1.ns y:Nat):Int) ((bT d2.ns z:Nat):Int))=(v:Int)/\v<3/\v=min (bT d0.ns x) (min (bT d1.ns y) (bT d2.ns z)):=by
  refine⟨min (bT d0.ns x) (min (bT d1.ns y) (bT d2.ns z)),by omega, ?_,rfl⟩;have q0:=λh=>BW S.d0.2.2.1 ao h;have q1:=λh=>BW S.d1.2.2.1 av h;have q2:=λh=>BW S.d2.2.2.1 aw h;omega
 have ab:v<64:=by omega
 have aE:=λb=>BR S.d0.2.1 ao ab b;have aF:=λb=>BR S.d1.2.1 av ab b;have aI:=λb=>BR S.d2.2.1 aw ab b;have az:∀b,side d0.ns x v b+side d1.ns y v b+side d2.ns z v b<x+y+z:=λb=>by
  have a0:=aE b;have a1:=aF b;have a2:=aI b;have:bT d0.ns x=v\/bT d1.ns y=v\/bT d2.ns z=v:=by omega
  rcases this with h|h|h
  . have:=a0.2 h;omega
  . have:=a1.2 h;omega
  . have:=a2.2 h;omega
 have bz:=λb ρ=>BS S.d0.2.1 ao ab (by omega) b ρ;have bA:=λb ρ=>BS S.d1.2.1 av ab (by omega) b ρ;have bB:=λb ρ=>BS S.d2.2.1 aw ab (by omega) b ρ;obtain⟨T,hT⟩:∃T:cY->Bool,∀ρ,T ρ=op (tb d0.ns x ρ) (tb d1.ns y ρ) (tb d2.ns z ρ):=⟨_,λ_=>rfl⟩;have bd:∀b ρ,op (tb d0.ns (side d0.ns x v b) ρ) (tb d1.ns (side d1.ns y v b) ρ) (tb d2.ns (side d2.ns z v b) ρ)=T (cM ρ v b):=λb ρ=>by rw[hT,bz,bA,bB]
 have bf:∀ρ w c,w<v->T (cM ρ w c)=T ρ:=λρ w c hw=>by
  rw[hT,hT,im S.d0.2.1 ao (by omega),im S.d1.2.1 av (by omega),im S.d2.2.1 aw (by omega)]
 rcases bx with hx|⟨hx,hy⟩|⟨hx,hy,hz⟩
 all_goals
 . first
    |simp(disch:=omega)[go_sem,lW,dF,cU,bD,r1,hM,aD,hx,hy,hz]
    |simp(disch:=omega)[go_sem,lW,dF,cU,bD,r1,hM,aD,hx,hy]
    |simp(disch:=omega)[go_sem,lW,dF,cU,bD,r1,hM,aD,hx]
   refine kI [aU 0,dB 1,aU 0,dB 4,fq 15,aU 0,⟨.read,32,some (0,2)⟩,aU 0,⟨.read,128,some (0,2)⟩,fq 511,aU 0,⟨.read,1024,some (0,3)⟩,aU 0,⟨.read,4096,some (0,3)⟩,fq 16383,dB 32767,aU 65535] (by kernel_rfl) 0 rfl ?_;simp(disch:=omega)[go_sem,dF,cU,fT,dO,bD,db,bl,l0,l1,l2,l3,l4,l5,hv,aC];refine KC.mk (vx _ _ (S.d0.sub (hS _)).1 ao (by have:=S.d0.2.2.2;omega)) ?_;simp(disch:=omega)[go_sem,dF,cU,fT,dO,bD,db,bl,l0,l1,l2,l3,l4,l5,hv,aC];refine KC.mk (vx _ _ (S.d1.sub (hS _)).1 av (by have:=S.d1.2.2.2;omega)) ?_;simp(disch:=omega)[go_sem,dF,cU,fT,dO,bD,db,bl,l0,l1,l2,l3,l4,l5,hv,aC];refine KC.mk (vx _ _ (S.d2.sub (hS _)).1 aw (by have:=S.d2.2.2.2;omega)) ?_;simp(disch:=omega)[go_sem,dF,cU,fT,dO,bD,db,bl,l0,l1,l2,l3,l4,l5,hv,ZK];refine wV ?_;simp(disch:=first|omega|(simp only[aa.aX,aa.aR,bG];omega)) [go_sem,dF,cU,fT,dO,bD,db,bl,l0,l1,l2,l3,l4,l5,hv,aC];refine kI [aU 0,aU 0,aU 0,aU 4,dB 12,aU 0,aU 32,dB 96,aU 0,fq 508,aU 1020,aU 2044,aU 2044,aU 4093,fq 12285,aU 32767,fq 65535] (by kernel_rfl) 0 rfl ?_;simp(disch:=first|omega|(simp only[aa.aX,aa.aR,bG];omega)) [go_sem,dF,cU,fT,dO,bD,db,bl,l0,l1,l2,l3,l4,l5,hv,aC];refine KC.mk (BC _ _ _ (S.d0.sub (((hS _).new _).new _)).1 ao (by have:=S.d0.2.2.2;omega) ab) ?_;simp(disch:=first|omega|(simp only[aa.aX,aa.aR,bG];omega)) [go_sem,dF,cU,fT,dO,bD,db,bl,l0,l1,l2,l3,l4,l5,hv,aC];refine wV ?_;simp(disch:=first|omega|(simp only[aa.aX,aa.aR,bG];omega)) [go_sem,dF,cU,fT,dO,bD,db,bl,l0,l1,l2,l3,l4,l5,hv,aC];refine kI [aU 0,aU 0,aU 0,aU 4,dB 12,aU 0,aU 32,dB 96,aU 0,fq 508,aU 1020,aU 2044,aU 2044,aU 4093,fq 12285,aU 32767,fq 65535] (by kernel_rfl) 0 rfl ?_;simp(disch:=first|omega|(simp only[aa.aX,aa.aR,bG];omega)) [go_sem,dF,cU,fT,dO,bD,db,bl,l0,l1,l2,l3,l4,l5,hv,aC];have bg:∀a b c,Sub h0 (((H.new a).new b).new c):=λa b c=>((hS a).new b).new c;have ad:∀g o j,Sub h0 g->b+9<=j->Sub h0 (g.set j o):=λg o j hg hj=>hg.set (by have:=S.b;omega) o;refine KC.mk (BC _ _ _ (S.d1.sub (ad _ _ _ (ad _ _ _ (bg _ _ _) (by omega)) (by omega))).1 av (by have:=S.d1.2.2.2;omega) ab) ?_;simp(disch:=first|omega|(simp only[aa.aX,aa.aR,bG];omega)) [go_sem,dF,cU,fT,dO,bD,db,bl,l0,l1,l2,l3,l4,l5,hv,aC];refine wV ?_;simp(disch:=first|omega|(simp only[aa.aX,aa.aR,bG];omega)) [go_sem,dF,cU,fT,dO,bD,db,bl,l0,l1,l2,l3,l4,l5,hv,aC];refine kI [aU 0,aU 0,aU 0,aU 4,dB 12,aU 0,aU 32,dB 96,aU 0,fq 508,aU 1020,aU 2044,aU 2044,aU 4093,fq 12285,aU 32767,fq 65535] (by kernel_rfl) 0 rfl ?_;simp(disch:=first|omega|(simp only[aa.aX,aa.aR,bG];omega)) [go_sem,dF,cU,fT,dO,bD,db,bl,l0,l1,l2,l3,l4,l5,hv,aC];refine KC.mk (BC _ _ _ (S.d2.sub (ad _ _ _ (ad _ _ _ (ad _ _ _ (ad _ _ _ (bg _ _ _) (by omega)) (by omega)) (by omega)) (by omega))).1 aw (by have:=S.d2.2.2.2;omega) ab) ?_;simp(disch:=first|omega|(simp only[aa.aX,aa.aR,bG];omega)) [go_sem,dF,cU,fT,dO,bD,db,bl,l0,l1,l2,l3,l4,l5,hv,aC];refine wV ?_;simp(disch:=first|omega|(simp only[aa.aX,aa.aR,bG];omega)) [go_sem,dF,cU,fT,dO,bD,db,bl,l0,l1,l2,l3,l4,l5,hv,aC];have a8:rd H (b+8) 0=some (tC b):=cI (o:=0) I.yd;simp(disch:=first|omega|(simp only[aa.aX,aa.aR,bG];omega)) [go_sem,dF,cU,fT,dO,bD,db,bl,l0,l1,l2,l3,l4,l5,hv,aC,a8,tC];refine KC.of (IH _ _ _ _ _ _ _ (az false) (by have:=aE false;omega) (by have:=aF false;omega) (by have:=aI false;omega) (I.mono ?_)) ?_
   . repeat first|exact Sub.refl _|refine Sub.new ?_ _|refine Sub.set ?_ (by omega) _
   . rintro _ H1 ⟨r,i1,N1,L1,rfl,I1,bI,bJ,bL,⟨bM,aK⟩,bN⟩;have gp:H1.get H.next=some (.row [.int .i64 x,.int .i64 y,.int .i64 z] true 0):=aK _ _ (by simp only[aa.aX,aa.aR,bG];omega) (by omega) (by omega) (by omega) (by have:=I.il;omega) (by simp(disch:=first|omega|(simp only[aa.aX,aa.aR,bG];omega)) [dT,bl,bD,db]);have gh:H1.get (H.next+1+1)=some (.row [.int .i64 (side d0.ns x v true),.int .i64 (side d1.ns y v true),.int .i64 (side d2.ns z v true)] true 0):=aK _ _ (by simp only[aa.aX,aa.aR,bG];omega) (by omega) (by omega) (by omega) (by have:=I.il;omega) (by simp(disch:=first|omega|(simp only[aa.aX,aa.aR,bG];omega)) [dT,bl,bD,db]);simp only[aa.aX,aa.aR,bG]at bM bN;have p0:rd H1 H.next 0=some (.int .i64 x):=cI (o:=0) gp;have p1:rd H1 H.next 1=some (.int .i64 y):=cI (o:=1) gp;have p2:rd H1 H.next 2=some (.int .i64 z):=cI (o:=2) gp;have g0:rd H1 (H.next+1+1) 0=some (.int .i64 (side d0.ns x v true)):=cI (o:=0) gh;have g1:rd H1 (H.next+1+1) 1=some (.int .i64 (side d1.ns y v true)):=cI (o:=1) gh;have g2:rd H1 (H.next+1+1) 2=some (.int .i64 (side d2.ns z v true)):=cI (o:=2) gh;have bk:rd H1 (b+8) 0=some (tC b):=cI (o:=0) I1.yd;have aL:rd H1 (b+5) 0=some (.pointer (some ⟨b+4,0,none⟩)):=cI (o:=0) I1.bC;simp(disch:=first|omega|(simp only[aa.aX,aa.aR,bG];omega)) [go_sem,bk,aL,p0,p1,p2,g0,g1,g2,tC];refine kI [⟨.read,0,some (0,2)⟩,aU 0,aU 0,dB 0,dB 0,fq 24,fq 63,aU 127] (by kernel_rfl) 0 rfl ?_;simp(disch:=first|omega|(simp only[aa.aX,aa.aR,bG];omega)) [go_sem,bk,aL,p0,p1,p2,g0,g1,g2,tC];refine KC.of (IH _ _ _ _ _ _ _ (az true) (by have:=aE true;omega) (by have:=aF true;omega) (by have:=aI true;omega) I1) ?_;rintro _ H2 ⟨r',i2,N2,L2,rfl,I2,aM,bm,bO,⟨zu,bn⟩,dE⟩;have b6:=I.il;have bP:H2.get H.next=some (.row [.int .i64 x,.int .i64 y,.int .i64 z] true 0):=bn _ _ (by omega) (by omega) (by omega) (by omega) (by omega) gp;have t1:∀ρ,tb N2 r ρ=T (cM ρ v false):=λρ=>by rw[ya I1.js aM bJ,bL,bd]
     have t2:∀ρ,tb N2 r' ρ=T (cM ρ v true):=λρ=>by rw[bO,bd]
     have aA:r<N2.length+2:=by have:=aM.length_le;omega
     obtain⟨rb,H3,i3,N3,aN,bQ,aP,bR,bS,bo,bp,⟨Ue,bU⟩,nY,aQ,aS⟩:=ZX I2.vz I2.js I2.v3 (v:=v) (l:=r) (u:=r') (by omega) aA bm
      (Hx I2.js aA ab bf t1 λa b c=>yb I2.js a b c) (Hx I2.js bm ab bf t2 λa b c=>yb I2.js a b c) I2.il
     simp(disch:=first|omega|(simp only[aa.aX,aa.aR,bG];omega)) [go_sem,aC];refine KC.mk aN ?_;have b7:=I2.nx;have k3:∀j o,j<H2.next->j≠b+4->j≠b+3->(b+9<=j->j≠i2)->H2.get j=some o->H3.get j=some o:=λj o h1 h2 h3 h4 h5=>bU j o h1 h2 h3 (λaB=>by
      have:=I2.ii aB;rcases DE j (b+9)with h|h
      . omega
      . exact h4 h) h5
     have aT:=k3 _ _ (by omega) (by omega) (by omega) (λ_=>by omega) bP;obtain⟨b8,ai,bW,aW⟩:=I2.jV;have bY:=k3 _ _ (by omega) (by omega) (by omega) (λh=>by omega) bW;have m3:rd H3 (b+7) 0=some (.map (some (b+6))):=cI (o:=0) (k3 _ _ (by omega) (by omega) (by omega) (λh=>by omega) I2.mN);obtain⟨bq,ae,bs,aZ⟩:=uJ BH (vf:=gR) BF aW (x,y,z) ai rb;simp only[nN,gR]at bs;have q0:rd H3 H.next 0=some (.int .i64 x):=cI (o:=0) aT;have q1:rd H3 H.next 1=some (.int .i64 y):=cI (o:=1) aT;have q2:rd H3 H.next 2=some (.int .i64 z):=cI (o:=2) aT;simp(disch:=first|omega|(simp only[aa.aX,aa.aR,bG];omega)) [go_sem,aC,m3,q0,q1,q2,bY,bs];refine⟨⟨aL,cI (o:=0) I2.bC⟩,rb,i3,N3,put L2 (x,y,z) rb,rfl, ?_,(bI.trans aM).trans aP,bo,λρ=> ?_,⟨?_,λj o h1 h2 h3 h4 h5 h6=> ?_⟩, ?_⟩
     . have hs:=I2.sub;have b9:=S.b;have kk:∀j o,j<H2.next->j≠b+4->j≠b+3->j≠b+6->(b+9<=j->j≠i2)->H2.get j=some o->(H3.set (b+6) (some (bF.map bq ae))).get j=some o:=λj o h1 h2 h3 h4 h5 h6=>by
        rw[bl _ _ _ _ h4];exact k3 j o h1 h2 h3 h5 h6
       have bt:N3≠[]->b+9<=i3:=λaB=>by
        by_cases h:N2=[]
        . have:=aS aB h;omega
        . have:=I2.ii h;omega
       refine⟨⟨?_,λj o hj ho=>kk j o ?_ (by omega) (by omega) (by omega) (λ_=>by omega) (hs.get j o hj ho)⟩, ?_,kk _ _ (by omega) (by omega) (by omega) (by omega) (λ_=>by omega) I2.lB,kk _ _ (by omega) (by omega) (by omega) (by omega) (λ_=>by omega) I2.BO,kk _ _ (by omega) (by omega) (by omega) (by omega) (λ_=>by omega) I2.bC,
        kk _ _ (by omega) (by omega) (by omega) (by omega) (λ_=>by omega) I2.mN,kk _ _ (by omega) (by omega) (by omega) (by omega) (λ_=>by omega) I2.yd,bQ.put _ (by omega) (by omega) (λaB=>by have:=bt aB;omega),bt,aQ,⟨bq,ae,dT _ _ _,aZ⟩,bR,bS,λx' y' z' ca af=> ?_⟩
       . have:=hs.next;simp only[aa.aR];omega
       . have:=hs.next;omega
       . simp only[aa.aR];omega
       . rw[mq]at af
         split at af
         . rename_i he;cases af;cases he;exact⟨bo,λρ=>by rw[bp,<-hT,Hw t1 t2]⟩
         . obtain⟨c1,c2⟩:=I2.BP _ _ _ _ af;exact⟨by have:=aP.length_le;omega,λρ=>by rw[ya I2.js aP c1,c2]⟩
     . rw[bp,<-hT,Hw t1 t2]
     . simp only[aa.aR];omega
     . rw[bl _ _ _ _ (by omega)];refine k3 j o (by omega) h3 h2 (λ_=>by omega) (bn j o (by omega) h2 h3 h4 (by omega) (aK j o (by simp only[aa.aX,aa.aR,bG];omega) h2 h3 h4 h5 ?_));simp(disch:=first|omega|(simp only[aa.aX,aa.aR,bG];omega)) only[bl,bD];exact h6
     . omega
theorem HC(S:yc b h0 d0 d1 d2 fo cap op):∀(n x y z:Nat) (H:aa) (i:Nat) (N:List Br) (L:List ((Nat×Nat×Nat)×Nat)),x+y+z<n->x<d0.ns.length+2->y<d1.ns.length+2->z<d2.ns.length+2->oY b h0 d0 d1 d2 fo cap op H i N L->
 ∃v H',bK E 178 (.agg #[.int .i64 x,.int .i64 y,.int .i64 z]::lW b) H v H'/\BQ b h0 d0 d1 d2 fo cap op H i N x y z v H'
 |0,_,_,_,_,_,_,_,h,_,_,_,_=>absurd h (by omega)
 |n+1,x,y,z,H,i,N,L,h,hx,hy,hz,I=>by
  by_cases hc:x<2/\y<2/\z<2
  . obtain⟨c0,c1,c2⟩:=hc;refine⟨_,_,ZM S I c0 c1 c2,_,i,N,L,rfl,I,PX _, ?_,λρ=> ?_,⟨xS _,λ_ _ _ _ _ _ _ h=>h⟩,.inl rfl⟩
    . split<;>omega
    . rw[nO c0,nO c1,nO c2];cases op (decide (x=1)) (decide (y=1)) (decide (z=1))<;>simp[nO]
  . cases hk:bc L (x,y,z)with
    |some r=>
     obtain⟨c0,c1⟩:=I.BP _ _ _ _ hk;exact⟨_,_,ZN I hc hk,r,i,N,L,rfl,I,PX _,c0,c1,⟨xS _,λ_ _ _ _ _ _ _ h=>h⟩,.inl rfl⟩
    |none=>
     exact ZY S I hc hk hx hy hz λx' y' z' H1 i1 N1 L1 hs c0 c1 c2 I1=>HC S n x' y' z' H1 i1 N1 L1 (by omega) c0 c1 c2 I1
end
end Go.Sp
end
noncomputable section
open Go Go.au Go.Proofs
namespace Go.Sp
abbrev abn(n:Nat):DV:=.v (.int .u64 n)
def pl(w:Nat):List DV:=[.v (.int .u64 w),.v (.int .u64 0),.v (.int .u64 0),.v (.int .u64 0),.v (.int .u64 0),.v (.int .u64 0),.v (.int .u64 0),.v (.int .u64 0)]
structure bP where
 p:List aL
 first:Nat
 last:Nat
 follow:List Nat
 empty:Bool
def bP.e(m:bP):List DV:=[.sl 5 (m.p.map aL.e)]++pl m.first++pl m.last++[.sl 8 (m.follow.map pl),bV m.empty]
def fY:bP:=⟨fD,1,3,[2,2,0,0],false⟩
def vN:bP:=⟨mH,3,27,[24,24,0,24,24,0,0,0],false⟩
def vO:bP:=⟨nL,1,7,[6,6,6,0,0,0],false⟩
def ky:List aL:=[⟨1,97,122,0,0⟩,⟨1,48,57,0,0⟩,⟨4,0,0,1,0⟩,⟨2,0,0,0,2⟩,⟨1,43,43,0,0⟩,⟨2,0,0,3,4⟩]
def lj:bP:=⟨ky,1,16,[18,18,0,0,0,0],false⟩
def nR:List aL:=[⟨1,42,42,0,0⟩,⟨1,43,43,0,0⟩,⟨2,0,0,0,1⟩,⟨1,97,122,0,0⟩,⟨4,0,0,3,0⟩,⟨2,0,0,2,4⟩]
def tR:bP:=⟨nR,1,10,[2,8,0,8,0,0],false⟩
def vP:List aL:=[⟨1,32,32,0,0⟩,⟨1,120,120,0,0⟩,⟨2,0,0,0,1⟩]
def vQ:bP:=⟨vP,1,2,[2,0,0],false⟩
def cW:List bP:=[fY,vN,vO,lj,tR,vQ]
theorem qq:∀m∈cW,ay E true 64 [.sl 5 (m.p.map aL.e)] (iV 0):=bI (by kernel_rfl)
def mR(w:Nat):Nat:=((PO 8).find? λi=>w.testBit i).getD 0
theorem abo:∀w∈PO 255,ay E true 155 [abn (w+1)] (iV (mR (w+1):Nat)):=bI (by kernel_rfl)
theorem abp:∀p∈([(⟨#[91,97,45,122,93,91,97,45,122,93,42]⟩,fD),(⟨#[91,97,45,122,93,91,48,45,57,93,42,43]⟩,ky),(⟨#[92,120,50,97,43,91,97,45,122,93,42]⟩,nR),(⟨#[92,120,50,48,120]⟩,vP)]:List (ByteArray×List aL)),ay E true 14 [sV p.1] (.bb [.sl 5 (p.2.map aL.e),iV 0]):=bI (by kernel_rfl)
end Go.Sp
end

/- SpacingSuffixes: parts of its proof (Ge10 Ge11 Ge12 Ge13 Ge2 Ge14 Ge15 Ge15b ClFE). -/
import Derived.Test.YtaheljlbchkpcaaGreatDoorK24
import Derived.Test.YtaheljlbchkpcaaGreatDoorK25
set_option linter.unusedVariables false
set_option linter.unusedSimpArgs false
noncomputable section
open Go Go.aw Go.Proofs
namespace Go.Sp
set_option maxRecDepth 100000
set_option maxHeartbeats 4000000 in
theorem aak(sm:Int->Nat->Dg)(au:∀(b:Int) (n:Nat),0<=b->b<256->n<=3->ax E true 13 [uV b,iV n] (.agg (sm b n).e))(aa:∀(b:Int) (n:Nat),0<=b->b<256->n<=3->ax E true 82 [.agg (sm b n).e,iV n] (bV true))(g:ai)(hg:tr g)(x:Rl)(hx:x.Ok)(hk:x.kind%8=2\/x.kind%8=3):
 ax E true 23 [.agg g.e,.agg x.e] (.agg (if lJ g (x.a%g.ak.length) (x.c%16) (x.b%g.ak.length)then eA g ⟨x.kind%8-1,x.a%g.ak.length,x.c%16,x.b%g.ak.length,0,0,[],sm x.cond g.conds.length⟩else g).e):=by
 obtain⟨R,hR⟩:∃R,R=DV.agg (if lJ g (x.a%g.ak.length) (x.c%16) (x.b%g.ak.length)then eA g ⟨x.kind%8-1,x.a%g.ak.length,x.c%16,x.b%g.ak.length,0,0,[],sm x.cond g.conds.length⟩else g).e:=⟨_,rfl⟩;rw[<-hR];have aL:=hx.kind;have ha:=hx.a;have hb:=hx.b;have hc:=hx.c;have eQ:¬(g.ak.length:Int)=0:=by have:=hg.ak;omega
 have aO:¬(g.aH.length:Int)=0:=by have:=hg.aH;omega
 have aQ:¬g.ak=[]:=λh=>by have:=hg.ak;rw[h]at this;exact absurd this (by simp)
 have hw:∀z:Int,0<=z->IntKind.u8.wrap (z%8)=z%8:=λz h=>wrap_u8 (by omega) (by omega);refine bc wS rfl Tryz.ntmps23 Tryz.results23 λN=> ?_;simp(disch:=omega)[go_sem,ai.e,Rl.e];refine aq.mk (au x.cond g.conds.length hx.cond.1 hx.cond.2 hg.conds) λM hM=> ?_;simp(disch:=omega)[go_sem]at hM;have ab:=aa x.cond g.conds.length hx.cond.1 hx.cond.2 hg.conds;generalize sm x.cond g.conds.length=d at*;have ad:∀z:Int,∃t:Nat,z%(g.ak.length:Int)=t/\t<g.ak.length:=λz=>
  ⟨(z%(g.ak.length:Int)).toNat,by have:=Int.emod_nonneg z eQ;omega,by have:=Int.emod_nonneg z eQ;have:=Int.emod_lt_of_pos z (show(0:Int)<g.ak.length by omega);omega⟩
 obtain⟨p,av,ay⟩:=ad x.a;obtain⟨c,az,aB⟩:=ad x.b;obtain⟨a,aC⟩:∃t:Nat,x.c%16=t:=⟨(x.c%16).toNat,by omega⟩;obtain⟨P,hP⟩:∃y,g.ak[p]? =some y:=⟨_,List.getElem?_eq_getElem ay⟩;obtain⟨C,hC⟩:∃y,g.ak[c]? =some y:=⟨_,List.getElem?_eq_getElem aB⟩;rw[av,az,aC]at hR;have aT:N+3<=M:=by omega
 rcases hk with hk|hk
 . rw[hk]at hR;simp(disch:=omega)[go_sem,ai.e,Rl.e,Dg.e,eQ,aQ,aO,dr,aD,hw,hk,av,az,aC];refine aq.pl (Im g 1 p a c P C d (by omega) hP hC ab) ?_ λM2 aE=> ?_
   . simp(disch:=omega)[go_sem,ai.e,bj.e,ints]
   simp(disch:=omega)[go_sem]at aE;cases af:lJ g p a c with
   |false=>
    simp(disch:=omega)[go_sem,hR,af,ai.e]
   |true=>
    rw[af,if_pos rfl]at hR;simp(disch:=omega)[go_sem];refine ck [cT 0,ae 0,aJ 2,aN 7,dF 0,cT 16,aN 63,ae 127,aN 255] (by kernel_rfl) 2 rfl ?_;have aF:(g.bp.map bj.e).flatten.length=g.bp.length*9:=by
     rw[fQ (k:=9) (by intro y hy;obtain⟨z,_,rfl⟩:=List.mem_map.1 hy;rfl)];simp
    have aR:=hg.bp;have aS:M+2<=M2:=by omega
    by_cases aI:g.bp.length=0
    . have ao:g.bp=[]:=List.eq_nil_of_length_eq_zero aI;simp(disch:=omega)[go_sem,ao,oI]
      repeat refine⟨by omega, ?_⟩
      refine gd (wr:=true) (cs:=[]) (by simp(disch:=omega)[go_sem]) (by simp) (by omega) (by omega) ?_;simp(disch:=omega)[go_sem,hR,eA,ao,ai.e];refine iW (cN (wr:=true) (ah:=9) (by simp(disch:=omega)[go_sem];rfl)) (.inr rfl) (by decide) (by rfl) (Nat.le_refl _) (by simp[bj.e]) ?_;simp(disch:=omega)[go_sem,bj.e,ints]
    . simp(disch:=omega)[go_sem]
      repeat refine⟨by omega, ?_⟩
      refine gd (wr:=true) (cs:=[]) (by simp(disch:=omega)[go_sem]) (by simp) (by omega) (by omega) ?_;simp(disch:=omega)[go_sem]
      repeat refine⟨by omega, ?_⟩
      refine kY (cs:=(g.bp.map bj.e).flatten) (by simp(disch:=omega)[go_sem]) aF (by decide) (by decide) (by simp[go_sem]) (by omega) ?_;simp(disch:=omega)[go_sem,hR,eA,ai.e];refine iW (cN (wr:=true) (ah:=9) (by simp(disch:=omega)[go_sem];rfl)) (.inr rfl) (by decide) (by simp) (Nat.le_refl _) ?_ ?_
      . intro y hy;simp only[List.mem_append,List.mem_map,List.mem_singleton]at hy;rcases hy with⟨z,_,rfl⟩|rfl<;>rfl
      . rw[List.flatten_append];refine rH (cP.refl _) ?_;simp(disch:=omega)[go_sem,bj.e,ints]
 . rw[hk]at hR;simp(disch:=omega)[go_sem,ai.e,Rl.e,Dg.e,eQ,aQ,aO,dr,aD,hw,hk,av,az,aC];refine aq.pl (Im g 2 p a c P C d (by omega) hP hC ab) ?_ λM2 aE=> ?_
   . simp(disch:=omega)[go_sem,ai.e,bj.e,ints]
   simp(disch:=omega)[go_sem]at aE;cases af:lJ g p a c with
   |false=>
    simp(disch:=omega)[go_sem,hR,af,ai.e]
   |true=>
    rw[af,if_pos rfl]at hR;simp(disch:=omega)[go_sem];refine ck [cT 0,ae 0,aJ 2,aN 7,dF 0,cT 16,aN 63,ae 127,aN 255] (by kernel_rfl) 2 rfl ?_;have aF:(g.bp.map bj.e).flatten.length=g.bp.length*9:=by
     rw[fQ (k:=9) (by intro y hy;obtain⟨z,_,rfl⟩:=List.mem_map.1 hy;rfl)];simp
    have aR:=hg.bp;have aS:M+2<=M2:=by omega
    by_cases aI:g.bp.length=0
    . have ao:g.bp=[]:=List.eq_nil_of_length_eq_zero aI;simp(disch:=omega)[go_sem,ao,oI]
      repeat refine⟨by omega, ?_⟩
      refine gd (wr:=true) (cs:=[]) (by simp(disch:=omega)[go_sem]) (by simp) (by omega) (by omega) ?_;simp(disch:=omega)[go_sem,hR,eA,ao,ai.e];refine iW (cN (wr:=true) (ah:=9) (by simp(disch:=omega)[go_sem];rfl)) (.inr rfl) (by decide) (by rfl) (Nat.le_refl _) (by simp[bj.e]) ?_;simp(disch:=omega)[go_sem,bj.e,ints]
    . simp(disch:=omega)[go_sem]
      repeat refine⟨by omega, ?_⟩
      refine gd (wr:=true) (cs:=[]) (by simp(disch:=omega)[go_sem]) (by simp) (by omega) (by omega) ?_;simp(disch:=omega)[go_sem]
      repeat refine⟨by omega, ?_⟩
      refine kY (cs:=(g.bp.map bj.e).flatten) (by simp(disch:=omega)[go_sem]) aF (by decide) (by decide) (by simp[go_sem]) (by omega) ?_;simp(disch:=omega)[go_sem,hR,eA,ai.e];refine iW (cN (wr:=true) (ah:=9) (by simp(disch:=omega)[go_sem];rfl)) (.inr rfl) (by decide) (by simp) (Nat.le_refl _) ?_ ?_
      . intro y hy;simp only[List.mem_append,List.mem_map,List.mem_singleton]at hy;rcases hy with⟨z,_,rfl⟩|rfl<;>rfl
      . rw[List.flatten_append];refine rH (cP.refl _) ?_;simp(disch:=omega)[go_sem,bj.e,ints]
end Go.Sp
end
noncomputable section
open Go Go.aw Go.Proofs
namespace Go.Sp
set_option maxRecDepth 100000
theorem Iq(d:Dg):∀(l:List Tok) (t:Nat),t<l.length->(l.map Tok.e).flatten.take (t*7+5)++(DV.sl 3 (d.nodes.map de)::iV d.root::(l.map Tok.e).flatten.drop (t*7+5+2))=((l.modify t λx=>{x with cond:=d}).map Tok.e).flatten
 |[],t,h=>absurd h (by simp)
 |x::l,0,_=>by simp[Tok.e,List.modify]
 |x::l,t+1,h=>by
  have ih:=Iq d l t (by simpa using h);rw[show(t+1)*7+5=(t*7+5)+1+1+1+1+1+1+1 by omega,show(t*7+5)+1+1+1+1+1+1+1+2=(t*7+5+2)+1+1+1+1+1+1+1 by omega];simp only[List.map_cons,List.flatten_cons,Tok.e,List.cons_append,List.nil_append,List.take_succ_cons,List.drop_succ_cons,List.modify_succ_cons];rw[ih]
def jU(g:ai)(k:Nat)(d:Dg):ai:={g with ar:=g.ar.modify k λx=>{x with cond:=d}}
set_option maxHeartbeats 4000000 in
theorem aal(sm:Int->Nat->Dg)(ab:∀(b:Int) (n:Nat),0<=b->b<256->n<=3->ax E true 13 [uV b,iV n] (.agg (sm b n).e))(aa:∀(b:Int) (n:Nat),0<=b->b<256->n<=3->ax E true 82 [.agg (sm b n).e,iV n] (bV true))(g:ai)(hg:tr g)(x:Rl)(hx:x.Ok)(hk:x.kind%8=7):
 ax E true 23 [.agg g.e,.agg x.e] (.agg (jU g (x.a%9).toNat (sm x.cond g.conds.length)).e):=by
 obtain⟨R,hR⟩:∃R,R=DV.agg (jU g (x.a%9).toNat (sm x.cond g.conds.length)).e:=⟨_,rfl⟩;rw[<-hR];have ad:=hx.kind;have ha:=hx.a;have hb:=hx.b;have hc:=hx.c;have eQ:¬(g.ak.length:Int)=0:=by have:=hg.ak;omega
 have ae:¬(g.aH.length:Int)=0:=by have:=hg.aH;omega
 have af:¬g.ak=[]:=λh=>by have:=hg.ak;rw[h]at this;exact absurd this (by simp)
 have hw:∀z:Int,0<=z->IntKind.u8.wrap (z%8)=z%8:=λz h=>wrap_u8 (by omega) (by omega);refine bc wS rfl Tryz.ntmps23 Tryz.results23 λN=> ?_;simp(disch:=omega)[go_sem,ai.e,Rl.e];refine aq.mk (ab x.cond g.conds.length hx.cond.1 hx.cond.2 hg.conds) λM hM=> ?_;simp(disch:=omega)[go_sem]at hM;have ao:=aa x.cond g.conds.length hx.cond.1 hx.cond.2 hg.conds;generalize sm x.cond g.conds.length=d at*;obtain⟨t,ht⟩:∃t:Nat,x.a%9=t:=⟨(x.a%9).toNat,by omega⟩;have h5:t<g.ar.length:=by have:=hg.ar;omega
 obtain⟨y,hy⟩:∃y,g.ar[t]? =some y:=⟨_,List.getElem?_eq_getElem h5⟩;have az:¬g.ar.length=0:=by omega
 simp(disch:=omega)[go_sem,ai.e,Rl.e,Dg.e,eQ,af,ae,dr,aD,hw,hk,ht];have au:=hg.Ip;refine gd (wr:=true) (cs:=[]) (by simp(disch:=omega)[go_sem]) (by simp) (by omega) (by omega) ?_;have aB:(t:Int)<g.ar.length:=by omega
 have av:(g.ar.map Tok.e).flatten.length=g.ar.length*7:=by
  rw[fQ (k:=7) (by intro y hy;obtain⟨z,_,rfl⟩:=List.mem_map.1 hy;rfl)];simp
 have ay:=Iq d g.ar t h5;have au:=hg.Ip;rw[show(x.a%9).toNat=t by omega]at hR;generalize aC:(g.ar.map Tok.e).flatten=TC at*;have hle:t*7+5+2<=g.ar.length*7:=by omega
 simp(disch:=omega)[go_sem,ht,dr,aD,ai.e,Rl.e,av,hle];subst hR;simp(disch:=omega)[go_sem,ai.e,jU];refine ib (wr:=true) (ah:=7) (by decide) ?_ (by simp) (Nat.le_refl _) (.inr rfl) ?_
 . intro y hy;obtain⟨z,_,rfl⟩:=List.mem_map.1 hy;rfl
 . rw[<-ay];simp(disch:=omega)[go_sem]
end Go.Sp
end
noncomputable section
open Go Go.aw Go.Proofs
namespace Go.Sp
set_option maxRecDepth 100000
def nH(g:ai)(p:Int):Bool:=g.bd.any λl=>decide (p∈l.ak)
def k8(g:ai)(a b c:Int)(d:Dg):ai:=if nH g a then g else{g with bd:=g.bd++[⟨if b≠a/\nH g b=false then [a,b]else [a],c,d⟩]}
set_option maxHeartbeats 4000000 in
theorem aam(sm:Int->Nat->Dg)(au:∀(b:Int) (n:Nat),0<=b->b<256->n<=3->ax E true 13 [uV b,iV n] (.agg (sm b n).e))(ab:∀(b:Int) (n:Nat),0<=b->b<256->n<=3->ax E true 82 [.agg (sm b n).e,iV n] (bV true))(g:ai)(hg:tr g)(x:Rl)(hx:x.Ok)(hk:x.kind%8=0\/x.kind%8=1):
 ax E true 23 [.agg g.e,.agg x.e] (.agg (k8 g (x.a%g.ak.length) (x.b%g.ak.length) (x.c%4) (sm x.cond g.conds.length)).e):=by
 obtain⟨R,hR⟩:∃R,R=DV.agg (k8 g (x.a%g.ak.length) (x.b%g.ak.length) (x.c%4) (sm x.cond g.conds.length)).e:=⟨_,rfl⟩;rw[<-hR];have aB:=hx.kind;have ha:=hx.a;have hb:=hx.b;have hc:=hx.c;have eQ:¬(g.ak.length:Int)=0:=by have:=hg.ak;omega
 have av:¬(g.aH.length:Int)=0:=by have:=hg.aH;omega
 have ay:¬g.ak=[]:=λh=>by have:=hg.ak;rw[h]at this;exact absurd this (by simp)
 have hw:∀z:Int,0<=z->IntKind.u8.wrap (z%8)=z%8:=λz h=>wrap_u8 (by omega) (by omega);refine bc wS rfl Tryz.ntmps23 Tryz.results23 λN=> ?_;simp(disch:=omega)[go_sem,ai.e,Rl.e];refine aq.mk (au x.cond g.conds.length hx.cond.1 hx.cond.2 hg.conds) λM hM=> ?_;simp(disch:=omega)[go_sem]at hM;have aI:=ab x.cond g.conds.length hx.cond.1 hx.cond.2 hg.conds;generalize sm x.cond g.conds.length=d at*;have aR:=hg.bd;generalize aL:x.a%(g.ak.length:Int)=a at*;generalize aC:x.b%(g.ak.length:Int)=b at*;have aE:IntKind.u8.wrap (x.c%4)=x.c%4:=wrap_u8 (by omega) (by omega);have az:(g.bd.map dG.e).flatten.length=g.bd.length*4:=by
  rw[fQ (k:=4) (by intro y hy;obtain⟨z,_,rfl⟩:=List.mem_map.1 hy;rfl)];simp
 rcases hk with hk|hk
 all_goals (
  simp(disch:=omega)[go_sem,ai.e,Rl.e,Dg.e,eQ,ay,av,dr,aD,hw,hk,aL];refine aq.mk (Io g a (by omega) hg.mM) λM2 aO=> ?_;simp(disch:=omega)[go_sem]at aO;have aS:M+2<=M2:=by omega
  rw[show(g.bd.any λl=>decide (a∈l.ak))=nH g a from rfl];cases af:nH g a with
  |true=>simp(disch:=omega)[go_sem,hR,k8,af,ai.e]
  |false=>
   by_cases ao:b=a
   . rw[show k8 g a b (x.c%4) d={g with bd:=g.bd++[⟨[a],x.c%4,d⟩]} by simp[k8,af,ao]]at hR;simp(disch:=omega)[go_sem,ai.e,Rl.e,Dg.e,eQ,ay,av,dr,aD,aE,aC,ao];by_cases ad:g.bd.length=0
     . have aa:g.bd=[]:=List.eq_nil_of_length_eq_zero ad;refine ck [cT 0,ae 0,aJ 2,aN 7,dF 0,cT 16,aN 63,ae 127,aN 255] (by kernel_rfl) 2 rfl ?_;simp(disch:=omega)[go_sem,aa,oI]
       repeat refine⟨by omega, ?_⟩
       refine gd (wr:=true) (cs:=[]) (by simp(disch:=omega)[go_sem]) (by simp) (by omega) (by omega) ?_;simp(disch:=omega)[go_sem,hR,aa,ai.e];refine iW (cN (wr:=true) (ah:=4) (by simp(disch:=omega)[go_sem];rfl)) (.inr rfl) (by decide) (by rfl) (Nat.le_refl _) (by simp[dG.e]) ?_;simp(disch:=omega)[go_sem,dG.e,ints];exact ib (wr:=true) (ah:=0) (by decide) (by simp) (by rfl) (Nat.le_refl _) (.inl rfl) (by simp(disch:=omega)[go_sem])
     . refine ck [cT 0,ae 0,aJ 2,aN 7,dF 0,cT 16,aN 63,ae 127,aN 255] (by kernel_rfl) 2 rfl ?_;simp(disch:=omega)[go_sem]
       repeat refine⟨by omega, ?_⟩
       refine gd (wr:=true) (cs:=[]) (by simp(disch:=omega)[go_sem]) (by simp) (by omega) (by omega) ?_;simp(disch:=omega)[go_sem]
       repeat refine⟨by omega, ?_⟩
       refine kY (cs:=(g.bd.map dG.e).flatten) (by simp(disch:=omega)[go_sem]) az (by decide) (by decide) (by simp[go_sem]) (by omega) ?_;simp(disch:=omega)[go_sem,hR,ai.e];refine iW (cN (wr:=true) (ah:=4) (by simp(disch:=omega)[go_sem];rfl)) (.inr rfl) (by decide) (by simp) (Nat.le_refl _) ?_ ?_
       . intro y hy;simp only[List.mem_append,List.mem_map,List.mem_singleton]at hy;rcases hy with⟨z,_,rfl⟩|rfl<;>rfl
       . rw[List.flatten_append];refine rH (cP.refl _) ?_;simp(disch:=omega)[go_sem,dG.e,ints];exact ib (wr:=true) (ah:=0) (by decide) (by simp) (by rfl) (Nat.le_refl _) (.inl rfl) (by simp(disch:=omega)[go_sem])
   . simp(disch:=omega)[go_sem,ai.e,Rl.e,Dg.e,eQ,ay,av,dr,aD,aE,aC,ao];refine aq.mk (Io g b (by omega) hg.mM) λM3 aQ=> ?_;simp(disch:=omega)[go_sem]at aQ;have aT:M2+2<=M3:=by omega
     rw[show(g.bd.any λl=>decide (b∈l.ak))=nH g b from rfl];cases aF:nH g b with
     |true=>
      rw[show k8 g a b (x.c%4) d={g with bd:=g.bd++[⟨[a],x.c%4,d⟩]} by simp[k8,af,aF]]at hR;simp(disch:=omega)[go_sem,ai.e];by_cases ad:g.bd.length=0
      . have aa:g.bd=[]:=List.eq_nil_of_length_eq_zero ad;refine ck [cT 0,ae 0,aJ 2,aN 7,dF 0,cT 16,aN 63,ae 127,aN 255] (by kernel_rfl) 2 rfl ?_;simp(disch:=omega)[go_sem,aa,oI]
        repeat refine⟨by omega, ?_⟩
        refine gd (wr:=true) (cs:=[]) (by simp(disch:=omega)[go_sem]) (by simp) (by omega) (by omega) ?_;simp(disch:=omega)[go_sem,hR,aa,ai.e];refine iW (cN (wr:=true) (ah:=4) (by simp(disch:=omega)[go_sem];rfl)) (.inr rfl) (by decide) (by rfl) (Nat.le_refl _) (by simp[dG.e]) ?_;simp(disch:=omega)[go_sem,dG.e,ints];exact ib (wr:=true) (ah:=0) (by decide) (by simp) (by rfl) (Nat.le_refl _) (.inl rfl) (by simp(disch:=omega)[go_sem])
      . refine ck [cT 0,ae 0,aJ 2,aN 7,dF 0,cT 16,aN 63,ae 127,aN 255] (by kernel_rfl) 2 rfl ?_;simp(disch:=omega)[go_sem]
        repeat refine⟨by omega, ?_⟩
        refine gd (wr:=true) (cs:=[]) (by simp(disch:=omega)[go_sem]) (by simp) (by omega) (by omega) ?_;simp(disch:=omega)[go_sem]
        repeat refine⟨by omega, ?_⟩
        refine kY (cs:=(g.bd.map dG.e).flatten) (by simp(disch:=omega)[go_sem]) az (by decide) (by decide) (by simp[go_sem]) (by omega) ?_;simp(disch:=omega)[go_sem,hR,ai.e];refine iW (cN (wr:=true) (ah:=4) (by simp(disch:=omega)[go_sem];rfl)) (.inr rfl) (by decide) (by simp) (Nat.le_refl _) ?_ ?_
        . intro y hy;simp only[List.mem_append,List.mem_map,List.mem_singleton]at hy;rcases hy with⟨z,_,rfl⟩|rfl<;>rfl
        . rw[List.flatten_append];refine rH (cP.refl _) ?_;simp(disch:=omega)[go_sem,dG.e,ints];exact ib (wr:=true) (ah:=0) (by decide) (by simp) (by rfl) (Nat.le_refl _) (.inl rfl) (by simp(disch:=omega)[go_sem])
     |false=>
      rw[show k8 g a b (x.c%4) d={g with bd:=g.bd++[⟨[a,b],x.c%4,d⟩]} by simp[k8,af,aF,ao]]at hR;simp(disch:=omega)[go_sem,ai.e];refine gd (wr:=true) (cs:=[iV a]) (by simp(disch:=omega)[go_sem]) (by simp) (by omega) (by omega) ?_;simp(disch:=omega)[go_sem,ai.e];by_cases ad:g.bd.length=0
      . have aa:g.bd=[]:=List.eq_nil_of_length_eq_zero ad;refine ck [cT 0,ae 0,aJ 2,aN 7,dF 0,cT 16,aN 63,ae 127,aN 255] (by kernel_rfl) 2 rfl ?_;simp(disch:=omega)[go_sem,aa,oI]
        repeat refine⟨by omega, ?_⟩
        refine gd (wr:=true) (cs:=[]) (by simp(disch:=omega)[go_sem]) (by simp) (by omega) (by omega) ?_;simp(disch:=omega)[go_sem,hR,aa,ai.e];refine iW (cN (wr:=true) (ah:=4) (by simp(disch:=omega)[go_sem];rfl)) (.inr rfl) (by decide) (by rfl) (Nat.le_refl _) (by simp[dG.e]) ?_;simp(disch:=omega)[go_sem,dG.e,ints];exact ib (wr:=true) (ah:=1) (by decide) (by simp) (by rfl) (Nat.le_refl _) (.inr rfl) (by simp(disch:=omega)[go_sem])
      . refine ck [cT 0,ae 0,aJ 2,aN 7,dF 0,cT 16,aN 63,ae 127,aN 255] (by kernel_rfl) 2 rfl ?_;simp(disch:=omega)[go_sem]
        repeat refine⟨by omega, ?_⟩
        refine gd (wr:=true) (cs:=[]) (by simp(disch:=omega)[go_sem]) (by simp) (by omega) (by omega) ?_;simp(disch:=omega)[go_sem]
        repeat refine⟨by omega, ?_⟩
        refine kY (cs:=(g.bd.map dG.e).flatten) (by simp(disch:=omega)[go_sem]) az (by decide) (by decide) (by simp[go_sem]) (by omega) ?_;simp(disch:=omega)[go_sem,hR,ai.e];refine iW (cN (wr:=true) (ah:=4) (by simp(disch:=omega)[go_sem];rfl)) (.inr rfl) (by decide) (by simp) (Nat.le_refl _) ?_ ?_
        . intro y hy;simp only[List.mem_append,List.mem_map,List.mem_singleton]at hy;rcases hy with⟨z,_,rfl⟩|rfl<;>rfl
        . rw[List.flatten_append];refine rH (cP.refl _) ?_;simp(disch:=omega)[go_sem,dG.e,ints];exact ib (wr:=true) (ah:=1) (by decide) (by simp) (by rfl) (Nat.le_refl _) (.inr rfl) (by simp(disch:=omega)[go_sem]))
end Go.Sp
end
noncomputable section
open Go Go.aw Go.Proofs
namespace Go.Sp
def jV(sm:Int->Nat->Dg)(g:ai)(x:Rl):ai:=
 let d:=sm x.cond g.conds.length
 let n:Int:=g.ak.length
 let k:=x.kind%8
 if k=0\/k=1 then k8 g (x.a%n) (x.b%n) (x.c%4) d
 else if k=2\/k=3 then(if lJ g (x.a%n) (x.c%16) (x.b%n)then eA g ⟨k-1,x.a%n,x.c%16,x.b%n,0,0,[],d⟩else g)
 else if k=4\/k=5 then eA g ⟨k-1,0,0,0,x.a%g.aH.length,0,[x.b%9],d⟩
 else if k=6 then eA g ⟨5,0,0,0,0,0,[5],d⟩
 else jU g (x.a%9).toNat d
theorem aan(sm:Int->Nat->Dg)(ab:∀(b:Int) (n:Nat),0<=b->b<256->n<=3->ax E true 13 [uV b,iV n] (.agg (sm b n).e))(aa:∀(b:Int) (n:Nat),0<=b->b<256->n<=3->ax E true 82 [.agg (sm b n).e,iV n] (bV true))(g:ai)(hg:tr g)(x:Rl)(hx:x.Ok):
 ax E true 23 [.agg g.e,.agg x.e] (.agg (jV sm g x).e):=by
 unfold jV;simp only;by_cases h1:x.kind%8=0\/x.kind%8=1
 . rw[if_pos h1];exact aam sm ab aa g hg x hx h1
 rw[if_neg h1];by_cases h2:x.kind%8=2\/x.kind%8=3
 . rw[if_pos h2];exact aak sm ab aa g hg x hx h2
 rw[if_neg h2];by_cases h3:x.kind%8=4\/x.kind%8=5
 . rw[if_pos h3];exact aaj sm ab aa g hg x hx h3
 rw[if_neg h3];by_cases h4:x.kind%8=6
 . rw[if_pos h4];exact aai sm ab aa g hg x hx h4
 rw[if_neg h4];exact aal sm ab aa g hg x hx (by have:=hx.kind;omega)
end Go.Sp
end
noncomputable section
open Go Go.aw Go.Proofs
namespace Go.Sp
set_option maxRecDepth 100000
variable {aj:Bool}
structure Ln where
 left:Int
 right:List Int
 cond:Int
 mark:Int
def Ln.e(x:Ln):List DV:=[uV x.left,.sl 1 (x.right.map λb=>[uV b]),uV x.cond,uV x.mark]
structure Ln.Ok(x:Ln):Prop where
 left:0<=x.left/\x.left<256
 right:∀b∈x.right,0<=b/\b<256
 cond:0<=x.cond/\x.cond<256
 mark:0<=x.mark/\x.mark<256
def jW(n:Int)(b:Int):Sym:=if b%14<9 then⟨true,b%14⟩else⟨false,(b%14-9)%n⟩
def jX(k:Nat):ByteArray:=⟨#[112]⟩++strOf [97+k]
def gy(cB:Int->Nat->Dg)(g:ai)(x:Ln)(known:Bool):ai:=
 let n:Int:=g.aH.length
 let r:=(x.right.take 4).map (jW n)
 let l:=x.left%n
 if r.any (·.tok)=false/\(known=true\/(r.all λs=>s.tok||decide (l<s.idx))=false)then g
 else{g with ak:=g.ak++[mark (jX g.ak.length) l r (cB x.cond g.conds.length) x.mark]}
theorem aao(z:Int):(strOf [z]).size=1:=rfl
set_option maxHeartbeats 4000000 in
theorem aap(cB:Int->Nat->Dg)(av:∀(b:Int) (n:Nat),0<=b->b<256->n<=3->ax E true 13 [uV b,iV n] (.agg (cB b n).e))(g:ai)(x:Ln)(known:Bool)(hx:x.Ok)(hn:0<g.aH.length)(bw:g.aH.length<=3)(hc:g.conds.length<=3)(hp:g.ak.length<=20):
 ax E true 22 [.agg g.e,.agg x.e,bV known] (.agg (gy cB g x known).e):=by
 obtain⟨R,hR⟩:∃R,R=DV.agg (gy cB g x known).e:=⟨_,rfl⟩;rw[<-hR];refine bc VC rfl Tryz.ntmps22 Tryz.results22 λN=> ?_;have au:¬(g.aH.length:Int)=0:=by omega
 have hl:=hx.left;have aL:∀o p,cS E .add 9 o p (.string ⟨#[112]⟩) (.string (strOf [97+(g.ak.length:Int)]))=some (.string (jX g.ak.length)):=λo p=>uP 9 o p _ _ (by simp[aao];decide);simp(disch:=omega)[go_sem,ai.e,Ln.e];refine kr [ae 0,aJ 1,aJ 3,ae 7,aJ 15,cT 31,aJ 63,ae 127,ae 0,aJ 256,aJ 768,ae 0,ae 3840,aN 8191,cT 0,aN 32767] (by kernel_rfl) 2 rfl (N+3) (by simp[go_sem]) ?_;simp(disch:=omega)[go_sem,dr,wrap_u8,aD,au,aL];refine aq.mk (H8 (jX g.ak.length) (x.left%g.aH.length) eN rfl rfl) λM hM=> ?_;simp(disch:=omega)[go_sem,kz]at hM⊢;generalize bj:jX g.ak.length=pn;generalize bk:x.left%(g.aH.length:Int)=lf;generalize bl:(g.aH.length:Int)=n at*;have bn:N+5<=M:=by omega
 obtain⟨I,hI⟩:∃I:Nat->DS->Prop,∀j d,I j d↔∃(k M:Nat) (r:Option Nat) (A:List Sym),j+k=4/\k<=x.right.length/\A=(x.right.take k).map (jW n)/\d=⟨bQ [(2,bV known),(3,.v (.pointer (some ⟨N,0,none⟩))),(4,.v (.pointer (some ⟨N+1,0,none⟩))),(6,.v (.pointer (some ⟨N+2,0,none⟩))),(7,iV n),(8,.v (.pointer (some ⟨N+4,0,none⟩))),(9,iV (A.countP (·.tok):Nat)),(10,bV (A.all λs=>s.tok||decide (lf<s.idx))),(11,iV k)],109,[],
  cK M ([(N,.row g.e true 0),(N+1,.row x.e true 0),(N+2,.row eE true 0),(N+4,.row (kz pn lf (gv r k) (aQ true)) true 0)]++gh r 2 (A.map Sym.e).flatten)⟩/\N+5<=M/\(r=none->k=0)/\∀q,r=some q->0<k/\N+5<=q/\q<M:=⟨_,λ_ _=>Iff.rfl⟩
 refine cx I 4 ⟨_,aA.mk (N:=M) ?_ ?_ ?_,(hI _ _).2 ⟨0,M,none,[],rfl,Nat.zero_le _,rfl,rfl,bn,λ_=>rfl,λ_ h=>(by cases h)⟩⟩ ?_
 . simp(disch:=omega)[go_sem]
 . simp[go_sem]
 . simp(disch:=omega)[go_sem,ai.e,Ln.e,eE,kz,aQ]
 . intro j d hd;obtain⟨k,M,r,A,hj,bx,hA,rfl,hM,aO,aS⟩:=(hI _ _).1 hd;clear hd;have aT:∀b∈x.right,0<=b/\b<256:=hx.right;have aE:N+4<M:=by omega
   have ay:A.length=k:=by rw[hA];simp;omega
   have bo:A.countP (·.tok)<=4:=Nat.le_trans List.countP_le_length (by omega);have hlen:(A.map Sym.e).flatten.length=k*2:=by
    rw[fQ (k:=2) (by intro y hy;obtain⟨z,_,rfl⟩:=List.mem_map.1 hy;rfl)];simp[ay]
   by_cases hk:k<x.right.length/\k<4
   . obtain⟨bq,bA⟩:=hk;have aa:(k:Int)<x.right.length:=by omega
     have ab:(k:Int)<4:=by omega
     obtain⟨b,hb⟩:∃b,x.right[k]? =some b:=⟨_,List.getElem?_eq_getElem bq⟩;obtain⟨bD,bF⟩:=aT b (List.mem_of_getElem? hb);have az:A++[jW n b]=(x.right.take (k+1)).map (jW n):=by rw[List.take_add_one,hb,hA];simp
     simp(disch:=omega)[go_sem,Ln.e,aa,ab,hb,dr,aD,-getElem?_pos];refine oJ.mk _ _ (λht=> ?_) (λht=> ?_)
     . have hs:jW n b=⟨true,b%14⟩:=by simp[jW,ht]
       simp(disch:=omega)[go_sem];refine kr [lH 0,dF 1,ae 0,aN 4,cT 12,aN 31,ae 63,aN 127] (by kernel_rfl) 1 rfl M (by simp[go_sem]) ?_;simp(disch:=omega)[go_sem,kz,aE];refine aq.mk (H7 (b%14)) λM2 ao=> ?_;simp(disch:=omega)[go_sem]at ao;cases r with
       |none=>
        obtain rfl:k=0:=aO rfl;obtain rfl:A=[]:=List.eq_nil_of_length_eq_zero ay;simp(disch:=omega)[go_sem,s9,aD];refine⟨j-1,by omega,_,aA.mk (N:=M2+1) ?_ ?_ ?_,(hI _ _).2 ⟨1,M2+1,some M2,_,by omega,by omega,az,rfl,by omega,λh=>(by cases h),λq h=>(by cases h;omega)⟩⟩
        . simp[go_sem]
        . simp[go_sem,hs]
        . simp(disch:=omega)[go_sem,ai.e,Ln.e,eE,kz,aQ,hs,Sym.e]
       |some q=>
        obtain⟨aZ,bb,bf⟩:=aS q rfl;simp(disch:=omega)[go_sem];refine kY (cs:=(A.map Sym.e).flatten) (by simp(disch:=omega)[go_sem]) hlen (by decide) (by decide) (by simp[go_sem]) (by omega) ?_;simp(disch:=omega)[go_sem,aD];refine⟨j-1,by omega,_,aA.mk (N:=M2+1) ?_ ?_ ?_,(hI _ _).2 ⟨k+1,M2+1,some M2,_,by omega,by omega,az,rfl,by omega,λh=>(by cases h),λq h=>(by cases h;omega)⟩⟩
        . simp[go_sem]
        . simp[go_sem,hs]
        . simp(disch:=omega)[go_sem,ai.e,Ln.e,eE,kz,aQ,hs,Sym.e]
     . have hs:jW n b=⟨false,(b%14-9)%n⟩:=by simp[jW,ht]
       have bG:0<n:=by omega
       have bH:0<=(b%14-9)%n:=Int.emod_nonneg _ au;simp(disch:=omega)[go_sem];refine kr [lH 0,dF 1,ae 0,ae 4,ae 0,ae 28,aN 60,cT 124,aN 255,ae 511,aN 1023] (by kernel_rfl) 1 rfl M (by simp[go_sem]) ?_;simp(disch:=omega)[go_sem,kz,aE,dr,aD,au];refine aq.mk (Z6 ((b%14-9)%n)) λM2 ao=> ?_;simp(disch:=omega)[go_sem]at ao;cases r with
       |none=>
        obtain rfl:k=0:=aO rfl;obtain rfl:A=[]:=List.eq_nil_of_length_eq_zero ay;simp(disch:=omega)[go_sem,s9,aD];refine kr [ae 0,ae 1,ae 3,ae 7,ae 3,ae 31,ae 3,aJ 67,ae 255,ae 511,ae 1023] (by kernel_rfl) 0 rfl (M2+1) (by simp[go_sem]) ?_;simp(disch:=omega)[go_sem,dr,aD,au];refine⟨j-1,by omega,_,aA.mk (N:=M2+1) ?_ ?_ ?_,(hI _ _).2 ⟨1,M2+1,some M2,_,by omega,by omega,az,rfl,by omega,λh=>(by cases h),λq h=>(by cases h;omega)⟩⟩
        . simp[go_sem]
        . simp[go_sem,hs]
        . simp(disch:=omega)[go_sem,ai.e,Ln.e,eE,kz,aQ,hs,Sym.e]
       |some q=>
        obtain⟨aZ,bb,bf⟩:=aS q rfl;simp(disch:=omega)[go_sem];refine kY (cs:=(A.map Sym.e).flatten) (by simp(disch:=omega)[go_sem]) hlen (by decide) (by decide) (by simp[go_sem]) (by omega) ?_;simp(disch:=omega)[go_sem,aD];refine kr [ae 0,ae 1,ae 3,ae 7,ae 3,ae 31,ae 3,aJ 67,ae 255,ae 511,ae 1023] (by kernel_rfl) 0 rfl (M2+1) (by simp[go_sem]) ?_;cases af:(A.all λs=>s.tok||decide (lf<s.idx))with
        |true=>
         simp(disch:=omega)[go_sem,dr,aD,au,af];refine⟨j-1,by omega,_,aA.mk (N:=M2+1) ?_ ?_ ?_,(hI _ _).2 ⟨k+1,M2+1,some M2,_,by omega,by omega,az,rfl,by omega,λh=>(by cases h),λq h=>(by cases h;omega)⟩⟩
         . simp[go_sem]
         . simp[go_sem,hs,af]
         . simp(disch:=omega)[go_sem,ai.e,Ln.e,eE,kz,aQ,hs,Sym.e]
        |false=>
         simp(disch:=omega)[go_sem,dr,aD,au,af];refine⟨j-1,by omega,_,aA.mk (N:=M2+1) ?_ ?_ ?_,(hI _ _).2 ⟨k+1,M2+1,some M2,_,by omega,by omega,az,rfl,by omega,λh=>(by cases h),λq h=>(by cases h;omega)⟩⟩
         . simp[go_sem]
         . simp[go_sem,hs,af]
         . simp(disch:=omega)[go_sem,ai.e,Ln.e,eE,kz,aQ,hs,Sym.e]
   . have bg:A=(x.right.take 4).map (jW n):=by
      rw[hA];rcases Nat.lt_or_ge k x.right.length with h|h
      . rw[show k=4 by omega]
      . rw[List.take_of_length_le h,List.take_of_length_le (by omega)]
     have aB:A.any (·.tok)=decide (A.countP (·.tok)≠0):=by
      cases h:A.any (·.tok)with
      |true=>
       obtain⟨a,h1,h2⟩:=List.any_eq_true.1 h;have:0<A.countP (·.tok):=List.countP_pos_iff.2 ⟨a,h1,h2⟩;exact(decide_eq_true (by omega)).symm
      |false=>
       symm;apply decide_eq_false
       intro h3;obtain⟨a,h1,h2⟩:=List.countP_pos_iff.1 (Nat.pos_of_ne_zero h3);rw[List.any_eq_true.2 ⟨a,h1,h2⟩]at h;cases h
     have hw:gy cB g x known=if A.countP (·.tok)=0/\(known=true\/(A.all λs=>s.tok||decide (lf<s.idx))=false)then g else{g with ak:=g.ak++[mark pn lf A (cB x.cond g.conds.length) x.mark]}:=by
      simp only[gy];rw[bj,bl,bk,<-bg,aB];simp
     rw[hw]at hR;clear hw aB bg hA;generalize A.countP (·.tok)=cn at*;generalize (A.all λs=>s.tok||decide (lf<s.idx))=al at*;have bI:((cn:Int)=0)=(cn=0):=propext ⟨λh=>by omega,λh=>by omega⟩;have aF:0<=x.cond/\x.cond<256:=hx.cond;have aI:0<=x.mark/\x.mark<256:=hx.mark;by_cases hg:cn=0/\(known=true\/al=false)
     . rw[if_pos hg]at hR;obtain⟨rfl,hg⟩:=hg;rcases Nat.lt_or_ge k x.right.length with h|h
       . have aa:(k:Int)<x.right.length:=by omega
         have ab:¬(k:Int)<4:=by omega
         rcases hg with rfl|rfl<;>(try cases known)<;>simp(disch:=omega)[go_sem,Ln.e,eE,aa,ab,ai.e,hR,-getElem?_pos]
       . have aa:¬(k:Int)<x.right.length:=by omega
         rcases hg with rfl|rfl<;>(try cases known)<;>simp(disch:=omega)[go_sem,Ln.e,eE,aa,ai.e,hR,-getElem?_pos]
     . rw[if_neg hg]at hR;have h3:cn≠0\/(cn=0/\known=false/\al=true):=by
        by_cases h1:cn=0
        . cases bs:known<;>cases bt:al<;>simp[h1,bs,bt]at hg⊢
        . exact .inl h1
       cases r with
       |none=>
        obtain rfl:k=0:=aO rfl;obtain rfl:A=[]:=List.eq_nil_of_length_eq_zero ay;have bh:x.right=[]:=List.eq_nil_of_length_eq_zero (by omega);rcases h3 with h3|⟨rfl,rfl,rfl⟩
        all_goals first
         |simp(disch:=omega)[go_sem,Ln.e,eE,ai.e,bh,h3,-getElem?_pos]
         |simp(disch:=omega)[go_sem,Ln.e,eE,ai.e,bh,-getElem?_pos]
        all_goals (
         refine aq.mk (av x.cond g.conds.length aF.1 aF.2 hc) λM2 ao=> ?_;simp(disch:=omega)[go_sem]at ao;have aE:N+4<M2:=by omega
         simp(disch:=omega)[go_sem,kz,Dg.e];refine aq.fz (H9 pn lf [] (cB x.cond g.conds.length) x.mark (by simp) aI.1 aI.2) [] ?_ ?_ λM3 aU=> ?_
         . simp
         . simp(disch:=omega)[go_sem,aR.e,bu,jt,Dg.e]
         simp(disch:=omega)[go_sem]at aU;generalize mark pn lf [] (cB x.cond g.conds.length) x.mark=m at*;have ad:N+4<M3:=by omega
         simp(disch:=omega)[go_sem,aR.e];refine kr [cT 0,ae 0,aJ 2,aN 7,dF 0,cT 16,aN 63,ae 127,aN 255] (by kernel_rfl) 2 rfl M3 (by simp(disch:=omega)[go_sem]) ?_;have aX:(g.ak.map aR.e).flatten.length=g.ak.length*13:=by
          rw[fQ (k:=13) (by intro y hy;obtain⟨z,_,rfl⟩:=List.mem_map.1 hy;rfl)];simp
         by_cases eQ:g.ak.length=0
         . have aC:g.ak=[]:=List.eq_nil_of_length_eq_zero eQ;simp(disch:=omega)[go_sem,aC,oI,ad];refine gd (wr:=true) (cs:=[]) (by simp(disch:=omega)[go_sem]) (by simp) (by omega) (by omega) ?_;simp(disch:=omega)[go_sem,hR,aC,ai.e,aR.e];refine eO (cN (wr:=true) (ah:=13) ?_) (.inr rfl) (by decide) ?_ ?_ ?_
           . simp(disch:=omega)[go_sem]
           all_goals simp[aR.e]
         . simp(disch:=omega)[go_sem];refine gd (wr:=true) (cs:=[]) (by simp(disch:=omega)[go_sem]) (by simp) (by omega) (by omega) ?_;simp(disch:=omega)[go_sem,ad];refine kY (cs:=(g.ak.map aR.e).flatten) (by simp(disch:=omega)[go_sem]) aX (by decide) (by decide) (by simp[go_sem]) (by omega) ?_;simp(disch:=omega)[go_sem,hR,ai.e,aR.e];refine eO (cN (wr:=true) (ah:=13) ?_) (.inr rfl) (by decide) ?_ ?_ ?_
           . simp(disch:=omega)[go_sem]
           . simp
           . simp
           . intro y hy;simp only[List.mem_append,List.mem_map,List.mem_singleton]at hy;rcases hy with⟨z,_,rfl⟩|rfl<;>rfl)
       |some q=>
        obtain⟨aZ,bb,bf⟩:=aS q rfl;have aY:((k:Int)<x.right.length/\¬(k:Int)<4)\/(¬(k:Int)<x.right.length/\True):=by
         by_cases h1:(k:Int)<x.right.length
         . exact .inl ⟨h1,by omega⟩
         . exact .inr ⟨h1,trivial⟩
        rcases aY with⟨aa,ab⟩|⟨aa,ab⟩<;>rcases h3 with h3|⟨rfl,rfl,rfl⟩
        all_goals first
         |simp(disch:=omega)[go_sem,Ln.e,eE,ai.e,aa,ab,h3,-getElem?_pos]
         |simp(disch:=omega)[go_sem,Ln.e,eE,ai.e,aa,ab,-getElem?_pos]
        all_goals (
         refine aq.mk (av x.cond g.conds.length aF.1 aF.2 hc) λM2 ao=> ?_;simp(disch:=omega)[go_sem]at ao;have aE:N+4<M2:=by omega
         simp(disch:=omega)[go_sem,kz,Dg.e];refine aq.fz (H9 pn lf A (cB x.cond g.conds.length) x.mark (by omega) aI.1 aI.2) [q] ?_ ?_ λM3 aU=> ?_
         . simp(disch:=omega)[go_sem]
         . simp(disch:=omega)[go_sem,aR.e,bu,jt,Dg.e];exact eO (hY (wr:=true) (by simp) (by simp(disch:=omega)[go_sem])) (.inr rfl) (by decide) (by simp[ay]) (Nat.le_refl _) (by simp[Sym.e])
         simp(disch:=omega)[go_sem]at aU;generalize mark pn lf A (cB x.cond g.conds.length) x.mark=m at*;have ad:N+4<M3:=by omega
         simp(disch:=omega)[go_sem,aR.e];refine kr [cT 0,ae 0,aJ 2,aN 7,dF 0,cT 16,aN 63,ae 127,aN 255] (by kernel_rfl) 2 rfl M3 (by simp(disch:=omega)[go_sem]) ?_;have aX:(g.ak.map aR.e).flatten.length=g.ak.length*13:=by
          rw[fQ (k:=13) (by intro y hy;obtain⟨z,_,rfl⟩:=List.mem_map.1 hy;rfl)];simp
         by_cases eQ:g.ak.length=0
         . have aC:g.ak=[]:=List.eq_nil_of_length_eq_zero eQ;simp(disch:=omega)[go_sem,aC,oI,ad];refine gd (wr:=true) (cs:=[]) (by simp(disch:=omega)[go_sem]) (by simp) (by omega) (by omega) ?_;simp(disch:=omega)[go_sem,hR,aC,ai.e,aR.e];refine eO (cN (wr:=true) (ah:=13) ?_) (.inr rfl) (by decide) ?_ ?_ ?_
           . simp(disch:=omega)[go_sem]
           all_goals simp[aR.e]
         . simp(disch:=omega)[go_sem];refine gd (wr:=true) (cs:=[]) (by simp(disch:=omega)[go_sem]) (by simp) (by omega) (by omega) ?_;simp(disch:=omega)[go_sem,ad];refine kY (cs:=(g.ak.map aR.e).flatten) (by simp(disch:=omega)[go_sem]) aX (by decide) (by decide) (by simp[go_sem]) (by omega) ?_;simp(disch:=omega)[go_sem,hR,ai.e,aR.e];refine eO (cN (wr:=true) (ah:=13) ?_) (.inr rfl) (by decide) ?_ ?_ ?_
           . simp(disch:=omega)[go_sem]
           . simp
           . simp
           . intro y hy;simp only[List.mem_append,List.mem_map,List.mem_singleton]at hy;rcases hy with⟨z,_,rfl⟩|rfl<;>rfl)
end Go.Sp
end
noncomputable section
open Go Go.aw Go.Proofs
namespace Go.Sp
structure eg(g:ai)(r:Nat):Prop where
 ak:0<g.ak.length
 aH:0<g.aH.length/\g.aH.length<=3
 conds:g.conds.length<=3
 bp:g.bp.length<=3+r
 bd:g.bd.length<=3+r
 ar:g.ar.length=11
 mM:∀l∈g.bd,l.ak.length<=4096
 ord:∀i x,i<9->g.ar[i]? =some x->x.cls=0/\(x.lit=⟨#[]⟩↔i=0)
theorem eg.ok{g:ai}{r:Nat}(h:eg g r)(hr:r<=6):tr g:=
 ⟨h.ak,h.aH.1,h.conds,by have:=h.bp;omega,by have:=h.bd;omega,by have:=h.ar;omega,h.mM,by have:=h.ar;omega,h.ord⟩
theorem eg.eA{g:ai}{r:Nat}(h:eg g r)(f:bj):eg (eA g f) (r+1):=
 ⟨h.ak,h.aH,h.conds,by have:=h.bp;simp[Go.Sp.eA];omega,by have:=h.bd;simp[Go.Sp.eA];omega,h.ar,h.mM,h.ord⟩
theorem eg.more{g:ai}{r:Nat}(h:eg g r):eg g (r+1):=
 ⟨h.ak,h.aH,h.conds,by have:=h.bp;omega,by have:=h.bd;omega,h.ar,h.mM,h.ord⟩
theorem eg.jU{g:ai}{r:Nat}(h:eg g r)(k:Nat)(d:Dg):eg (jU g k d) (r+1):=by
 refine⟨h.ak,h.aH,h.conds,h.more.bp,h.more.bd,by simp[Go.Sp.jU,h.ar],h.mM,λi x hi hx=> ?_⟩;simp only[Go.Sp.jU,List.getElem?_modify]at hx;cases hy:g.ar[i]? with
 |none=>rw[hy]at hx;cases hx
 |some y=>
  rw[hy]at hx;have:=h.ord i y hi hy
  split at hx<;>cases hx<;>exact this
theorem eg.level{g:ai}{r:Nat}(h:eg g r)(a b c:Int)(d:Dg):eg (k8 g a b c d) (r+1):=by
 unfold k8
 split
 . exact h.more
 . refine⟨h.ak,h.aH,h.conds,h.more.bp,by have:=h.bd;simp;omega,h.ar,λl hl=> ?_,h.ord⟩;rcases List.mem_append.1 hl with hl|hl
   . exact h.mM l hl
   . obtain rfl:=List.mem_singleton.1 hl;simp only
     split<;>simp
theorem eg.CW{g:ai}{r:Nat}(h:eg g r)(sm:Int->Nat->Dg)(x:Rl):eg (jV sm g x) (r+1):=by
 unfold jV;simp only
 split
 . exact h.level ..
 split
 . split
   . exact h.eA _
   . exact h.more
 split
 . exact h.eA _
 split
 . exact h.eA _
 . exact h.jU _ _
theorem eg.line{g:ai}{r:Nat}(h:eg g r)(sm:Int->Nat->Dg)(x:Ln)(known:Bool):eg (gy sm g x known) r:=by
 unfold gy;simp only
 split
 . exact h
 . exact⟨by simp,h.aH,h.conds,h.bp,h.bd,h.ar,h.mM,h.ord⟩
theorem aaq(sm:Int->Nat->Dg)(g:ai)(x:Ln)(known:Bool):(gy sm g x known).ak.length<=g.ak.length+1:=by
 unfold gy;simp only
 split
 . omega
 . simp
end Go.Sp
end
noncomputable section
open Go Go.aw Go.Proofs
namespace Go.Sp
set_option maxRecDepth 100000
structure cQ where
 base:Int
 n:Int
 family:List Int
 lines:List Ln
 rules:List Rl
def cQ.e(x:cQ):List DV:=[uV x.base,uV x.n,.sl 1 (x.family.map λb=>[uV b]),.sl 4 (x.lines.map Ln.e),.sl 5 (x.rules.map Rl.e)]
structure cQ.Ok(x:cQ):Prop where
 base:0<=x.base/\x.base<256
 n:0<=x.n/\x.n<256
 family:∀b∈x.family,0<=b/\b<256
 lines:∀l∈x.lines,l.Ok
 rules:∀l∈x.rules,l.Ok
def vd:List ByteArray:=[⟨#[83]⟩,⟨#[80]⟩,⟨#[81]⟩]
def oR:List ByteArray:=[⟨#[65]⟩,⟨#[66]⟩,⟨#[67]⟩]
def jY(x:cQ):ai:=
 if x.base%8<6 then iB (x.base%8)
 else⟨oR.take (x.n%4).toNat,aQ true,ar,vd.take (1+(x.n/4)%3).toNat,[bu ⟨#[102,105,114,115,116]⟩ 0 [⟨true,0⟩] (aQ true)],0,[],[]⟩
def ju(md:List Int->Nat->Dg)(x:cQ)(g:ai):ai:=
 let d:=md x.family g.conds.length
 if 0<x.family.length/\d.root≠0 then{g with family:=d}else g
def cL(md:List Int->Nat->Dg)(x:cQ):ai:=
 let known:=decide (x.base%8<6)
 let g:=ju md x (jY x)
 let g:=(x.lines.take (if known then 6 else 10)).foldl (λg l=>gy (cB md) g l known) g
 (x.rules.take 6).foldl (jV (cB md)) g
end Go.Sp
end
noncomputable section
open Go Go.aw Go.Proofs
namespace Go.Sp
theorem Ir:∀i x,i<9->ar[i]? =some x->x.cls=0/\(x.lit=⟨#[]⟩↔i=0):=by
 intro i x hi hx;have:i=0\/i=1\/i=2\/i=3\/i=4\/i=5\/i=6\/i=7\/i=8:=by omega
 rcases this with rfl|rfl|rfl|rfl|rfl|rfl|rfl|rfl|rfl<;>(simp[ar,lits]at hx;subst hx;simp[iX,gN])
theorem Is:ar.length=11:=rfl
theorem eg.of{g:ai}(h1:0<g.ak.length)(h2:0<g.aH.length/\g.aH.length<=3)(h3:g.conds.length<=3)(h4:g.bp.length<=3)(h5:g.bd.length<=3)(h6:g.ar=Go.Sp.ar)(h7:∀l∈g.bd,l.ak.length<=4096):eg g 0:=
 ⟨h1,h2,h3,h4,h5,by rw[h6];exact Is,h7,by rw[h6];exact Ir⟩
theorem aar(b:Int):eg (iB b) 0/\(iB b).ak.length<=10:=by
 unfold iB
 repeat' split
 all_goals (refine⟨eg.of ?_ ?_ ?_ ?_ ?_ rfl ?_, ?_⟩<;>simp[Ib,Ic,Ie,Ig,Ih,Ii])
theorem It(x:cQ)(hx:x.Ok):eg (jY x) 0/\(jY x).ak.length<=10:=by
 unfold jY
 split
 . exact aar _
 . have:=hx.n;refine⟨eg.of (by simp) ?_ ?_ (by simp) (by simp) rfl (by simp),by simp⟩
   . simp[vd];omega
   . simp[oR];omega
theorem eg.c9{g:ai}{r:Nat}(h:eg g r)(md:List Int->Nat->Dg)(x:cQ):eg (ju md x g) r/\(ju md x g).ak.length=g.ak.length:=by
 unfold ju;simp only
 split
 . exact⟨⟨h.ak,h.aH,h.conds,h.bp,h.bd,h.ar,h.mM,h.ord⟩,rfl⟩
 . exact⟨h,rfl⟩
end Go.Sp
end
noncomputable section
open Go Go.aw Go.Proofs
namespace Go.Sp
set_option maxRecDepth 100000
theorem abb:∀p∈(eF.drop (14*16)).take 14,ij p:=bO (by kernel_rfl)
theorem abc:∀p∈(eF.drop (14*17)).take 14,ij p:=bO (by kernel_rfl)
theorem abd:∀p∈(eF.drop (14*18)).take 14,ij p:=bO (by kernel_rfl)
theorem abe:∀p∈(eF.drop (14*19)).take 14,ij p:=bO (by kernel_rfl)
end Go.Sp
end

/- SpacingSuffixes: parts of its proof (Sg1 Sg2 Sg3 Sg4). -/
import Derived.Test.YtaheljlbchkpcaaGreatDoorK44
set_option linter.unusedVariables false
set_option linter.unusedSimpArgs false
noncomputable section
open Go Go.aw Go.Proofs
namespace Go.Sp
set_option maxRecDepth 100000
def qs(s p:ByteArray):Bool:=decide (p.size<=s.size)&&decide (s.extract 0 p.size=p)
theorem afm(s p:ByteArray):ax E true 122 [sV s,sV p] (bV (qs s p)):=by
 refine bc WH rfl Tryz.ntmps122 Tryz.results122 λN=> ?_;by_cases h:p.size<=s.size
 . have h2:(p.size:Int)<=s.size:=by omega
   have hr:qs s p=decide (s.extract 0 p.size=p):=by simp[qs,h]
   rw[hr];simp(disch:=omega)[go_sem,lO,h2,aeu s p.size h]
 . have h2:¬(p.size:Int)<=s.size:=by omega
   have hr:qs s p=false:=by simp[qs,h]
   rw[hr];simp(disch:=omega)[go_sem,lO,h2]
theorem afn(s p:ByteArray):ax E true 69 [sV s,sV p] (bV (qs s p)):=by
 refine bc V4 rfl Tryz.ntmps69 Tryz.results69 λN=> ?_;simp(disch:=omega)[go_sem];refine aq.mk (afm s p) λM hM=> ?_;simp(disch:=omega)[go_sem]at hM;simp(disch:=omega)[go_sem]
def iZ:List Bool->Nat->Int
 |[],_=>-1
 |b::l,i=>if b then i else iZ l (i+1)
theorem Aj:∀(l:List Bool) (i:Nat),decide (0<=iZ l i)=l.any id
 |[],i=>by simp[iZ]
 |b::l,i=>by
  cases b with
  |true=>simp[iZ]
  |false=>simp[iZ,Aj l (i+1)]
theorem Eg{l:List Bool}{k:Nat}{b:Bool}(h:l[k]? =some b):iZ (l.drop k) k=if b then(k:Int)else iZ (l.drop (k+1)) (k+1):=by
 have hk:=(List.getElem?_eq_some_iff.1 h).1;rw[List.drop_eq_getElem_cons hk,(List.getElem?_eq_some_iff.1 h).2];rfl
theorem afo(l:List Int)(x:Int)(hl:l.length<=100000):ax E true 123 [ints l,iV x] (iV (iZ (l.map λy=>decide (x=y)) 0)):=by
 refine bc WI rfl Tryz.ntmps123 Tryz.results123 λN=> ?_;obtain⟨R,hR⟩:∃R,iZ (l.map λy=>decide (x=y)) 0=R:=⟨_,rfl⟩;rw[hR];simp(disch:=omega)[go_sem];obtain⟨I,hI⟩:∃I:Nat->DS->Prop,∀j d,I j d↔∃(k P:Nat),j+k=l.length/\iZ ((l.map λy=>decide (x=y)).drop k) k=R/\d=⟨bQ [(0,ints l),(1,iV x),(7,iV l.length),(8,iV k)],19,[],cK P []⟩:=⟨_,λ_ _=>Iff.rfl⟩;refine cx I l.length ⟨_,aA.mk (N:=N) ?_ ?_ ?_,(hI _ _).2 ⟨0,N,rfl,hR,rfl⟩⟩ ?_
 . simp(disch:=omega)[go_sem]
 . simp(disch:=omega)[go_sem]
 . simp(disch:=omega)[go_sem]
 . intro j ds ad;obtain⟨k,P,hj,aa,rfl⟩:=(hI _ _).1 ad;clear ad;by_cases ae:k<l.length
   . have ab:(k:Int)<l.length:=by omega
     obtain⟨y,hy⟩:∃y,l[k]? =some y:=⟨_,List.getElem?_eq_getElem ae⟩;rw[Eg (b:=decide (x=y)) (by rw[List.getElem?_map,hy];rfl)]at aa;by_cases ai:x=y
     . subst ai;simp only[decide_true,if_true]at aa;subst aa;simp(disch:=omega)[go_sem,ab,hy,-getElem?_pos]
     . simp only[ai,decide_false,Bool.false_eq_true,if_false]at aa;simp(disch:=omega)[go_sem,ab,hy,-getElem?_pos,ai,aD];refine⟨j-1,by omega,_,aA.mk (N:=P) ?_ ?_ ?_,(hI _ _).2 ⟨k+1,P,by omega,aa,rfl⟩⟩
       . simp(disch:=omega)[go_sem]
       . simp(disch:=omega)[go_sem]
       . simp(disch:=omega)[go_sem]
   . have ab:¬(k:Int)<l.length:=by omega
     rw[List.drop_eq_nil_of_le (by simp;omega)]at aa;have aa:(-1:Int)=R:=aa;simp(disch:=omega)[go_sem,ab,aa]
theorem afp(l:List Int)(x:Int)(hl:l.length<=100000):ax E true 71 [ints l,iV x] (bV (l.any λy=>decide (x=y))):=by
 refine bc V6 rfl Tryz.ntmps71 Tryz.results71 λN=> ?_;have hr:=Aj (l.map λy=>decide (x=y)) 0;rw[List.any_map]at hr;have af:(l.any λy=>decide (x=y))=decide (0<=iZ (l.map λy=>decide (x=y)) 0):=hr.symm;rw[af];simp(disch:=omega)[go_sem];refine aq.mk (afo l x hl) λM hM=> ?_;simp(disch:=omega)[go_sem]at hM;simp(disch:=omega)[go_sem]
theorem afq{α:Type}(xs:List α)(en:α->List DV)(ps:α->Bool)(f:FuncId)(c:List DV)(hx:∀x,(en x).length=9)(hl:xs.length<=100000)(hf:∀x∈xs,ax E true f (.agg (en x)::c) (bV (ps x))):ax E true 124 [.sl 9 (xs.map en),.fn f [] c] (iV (iZ (xs.map ps) 0)):=by
 refine bc WJ rfl Tryz.ntmps124 Tryz.results124 λN=> ?_;obtain⟨R,hR⟩:∃R,iZ (xs.map ps) 0=R:=⟨_,rfl⟩;rw[hR];simp(disch:=omega)[go_sem];obtain⟨I,hI⟩:∃I:Nat->DS->Prop,∀j d,I j d↔∃(k P:Nat),j+k=xs.length/\iZ ((xs.map ps).drop k) k=R/\d=⟨bQ [(0,.sl 9 (xs.map en)),(1,.fn f [] c),(7,iV xs.length),(8,iV k)],19,[],cK P []⟩:=⟨_,λ_ _=>Iff.rfl⟩;refine cx I xs.length ⟨_,aA.mk (N:=N) ?_ ?_ ?_,(hI _ _).2 ⟨0,N,rfl,hR,rfl⟩⟩ ?_
 . simp(disch:=omega)[go_sem]
 . simp(disch:=omega)[go_sem]
 . simp(disch:=omega)[go_sem]
 . intro j ds ad;obtain⟨k,P,hj,aa,rfl⟩:=(hI _ _).1 ad;clear ad;by_cases ae:k<xs.length
   . have ab:(k:Int)<xs.length:=by omega
     obtain⟨y,hy⟩:∃y,xs[k]? =some y:=⟨_,List.getElem?_eq_getElem ae⟩;rw[Eg (b:=ps y) (by rw[List.getElem?_map,hy];rfl)]at aa;have ao:=hf y (List.mem_of_getElem? hy);have au:=vg (hx y);simp(disch:=omega)[go_sem,ab,hy,-getElem?_pos,au];refine aq.mk ao λP2 av=> ?_;cases hb:ps y with
     |true=>
      rw[hb,if_pos rfl]at aa;subst aa;simp(disch:=omega)[go_sem]
     |false=>
      rw[hb,if_neg (by decide)]at aa;simp(disch:=omega)[go_sem,aD];refine⟨j-1,by omega,_,aA.mk (N:=P2) ?_ ?_ ?_,(hI _ _).2 ⟨k+1,P2,by omega,aa,rfl⟩⟩
      . simp(disch:=omega)[go_sem]
      . simp(disch:=omega)[go_sem]
      . simp(disch:=omega)[go_sem]
   . have ab:¬(k:Int)<xs.length:=by omega
     rw[List.drop_eq_nil_of_le (by simp;omega)]at aa;have aa:(-1:Int)=R:=aa;simp(disch:=omega)[go_sem,ab,aa]
theorem afr{α:Type}(xs:List α)(en:α->List DV)(ps:α->Bool)(f:FuncId)(c:List DV)(hx:∀x,(en x).length=9)(hl:xs.length<=100000)(hf:∀x∈xs,ax E true f (.agg (en x)::c) (bV (ps x))):ax E true 72 [.sl 9 (xs.map en),.fn f [] c] (bV (xs.any ps)):=by
 refine bc V7 rfl Tryz.ntmps72 Tryz.results72 λN=> ?_;have hr:=Aj (xs.map ps) 0;rw[List.any_map]at hr;have af:xs.any ps=decide (0<=iZ (xs.map ps) 0):=hr.symm;rw[af];simp(disch:=omega)[go_sem];refine aq.mk (afq xs en ps f c hx hl hf) λM hM=> ?_;simp(disch:=omega)[go_sem]at hM;simp(disch:=omega)[go_sem]
theorem afs(xs:List Int)(ps:Int->Bool)(f:FuncId)(c:List DV)(hl:xs.length<=100000)(hf:∀x∈xs,ax E true f (iV x::c) (bV (ps x))):ax E true 125 [.sl 1 (xs.map λn=>[iV n]),.fn f [] c] (iV (iZ (xs.map ps) 0)):=by
 refine bc WK rfl Tryz.ntmps125 Tryz.results125 λN=> ?_;obtain⟨R,hR⟩:∃R,iZ (xs.map ps) 0=R:=⟨_,rfl⟩;rw[hR];simp(disch:=omega)[go_sem];obtain⟨I,hI⟩:∃I:Nat->DS->Prop,∀j d,I j d↔∃(k P:Nat),j+k=xs.length/\iZ ((xs.map ps).drop k) k=R/\d=⟨bQ [(0,.sl 1 (xs.map λn=>[iV n])),(1,.fn f [] c),(7,iV xs.length),(8,iV k)],19,[],cK P []⟩:=⟨_,λ_ _=>Iff.rfl⟩;refine cx I xs.length ⟨_,aA.mk (N:=N) ?_ ?_ ?_,(hI _ _).2 ⟨0,N,rfl,hR,rfl⟩⟩ ?_
 . simp(disch:=omega)[go_sem]
 . simp(disch:=omega)[go_sem]
 . simp(disch:=omega)[go_sem]
 . intro j ds ad;obtain⟨k,P,hj,aa,rfl⟩:=(hI _ _).1 ad;clear ad;by_cases ae:k<xs.length
   . have ab:(k:Int)<xs.length:=by omega
     obtain⟨y,hy⟩:∃y,xs[k]? =some y:=⟨_,List.getElem?_eq_getElem ae⟩;rw[Eg (b:=ps y) (by rw[List.getElem?_map,hy];rfl)]at aa;have ao:=hf y (List.mem_of_getElem? hy);simp(disch:=omega)[go_sem,ab,hy,-getElem?_pos];refine aq.mk ao λP2 av=> ?_;cases hb:ps y with
     |true=>
      rw[hb,if_pos rfl]at aa;subst aa;simp(disch:=omega)[go_sem]
     |false=>
      rw[hb,if_neg (by decide)]at aa;simp(disch:=omega)[go_sem,aD];refine⟨j-1,by omega,_,aA.mk (N:=P2) ?_ ?_ ?_,(hI _ _).2 ⟨k+1,P2,by omega,aa,rfl⟩⟩
      . simp(disch:=omega)[go_sem]
      . simp(disch:=omega)[go_sem]
      . simp(disch:=omega)[go_sem]
   . have ab:¬(k:Int)<xs.length:=by omega
     rw[List.drop_eq_nil_of_le (by simp;omega)]at aa;have aa:(-1:Int)=R:=aa;simp(disch:=omega)[go_sem,ab,aa]
theorem aft(xs:List Int)(ps:Int->Bool)(f:FuncId)(c:List DV)(hl:xs.length<=100000)(hf:∀x∈xs,ax E true f (iV x::c) (bV (ps x))):ax E true 74 [.sl 1 (xs.map λn=>[iV n]),.fn f [] c] (bV (xs.any ps)):=by
 refine bc V9 rfl Tryz.ntmps74 Tryz.results74 λN=> ?_;have hr:=Aj (xs.map ps) 0;rw[List.any_map]at hr;have af:xs.any ps=decide (0<=iZ (xs.map ps) 0):=hr.symm;rw[af];simp(disch:=omega)[go_sem];refine aq.mk (afs xs ps f c hl hf) λM hM=> ?_;simp(disch:=omega)[go_sem]at hM;simp(disch:=omega)[go_sem]
end Go.Sp
end
noncomputable section
open Go Go.aw Go.Proofs
namespace Go.Sp
set_option maxRecDepth 100000
structure rS(g:ai):Prop where
 pat:∀t∈g.ar,t.lit=⟨#[]⟩->∃m∈gQ,t.pat=m.p
 len:g.ar.length<=1000
 cond:∀t∈g.ar,∃ct,t.cond=aF ct/\ct<256
def qt(p:List aY):List (Int×Int×Int×Int×Int):=p.map λx=>(x.kind,x.lo,x.hi,x.a,x.b)
theorem afu{p q:List aY}(h:qt p=qt q):p=q:=by
 induction p generalizing q with
 |nil=>cases q with
  |nil=>rfl
  |cons y q=>simp[qt]at h
 |cons x p ih=>cases q with
  |nil=>simp[qt]at h
  |cons y q=>
   simp only[qt,List.map_cons,List.cons.injEq,Prod.mk.injEq]at h;obtain⟨⟨h1,h2,h3,h4,h5⟩,h6⟩:=h;rw[ih h6];obtain⟨a,b,c,d,e⟩:=x;obtain⟨a',b',c',d',e'⟩:=y;simp only at h1 h2 h3 h4 h5;rw[h1,h2,h3,h4,h5]
def rT(t:Tok)(s:ByteArray):Nat:=if t.lit=⟨#[]⟩then(match gQ.find? λm=>decide (qt m.p=qt t.pat)with|some m=>tL m s|none=>0)else if qs s t.lit then t.lit.size else 0
theorem afv{t:Tok}{s:ByteArray}(h0:t.lit=⟨#[]⟩)(h:∃m∈gQ,t.pat=m.p):∃m∈gQ,t.pat=m.p/\rT t s=tL m s:=by
 obtain⟨m0,m1,m2⟩:=h;cases hf:gQ.find? λm=>decide (qt m.p=qt t.pat)with
 |none=>
  have:=List.find?_eq_none.1 hf m0 m1;rw[m2]at this;simp at this
 |some m=>
  have h1:=List.mem_of_find?_eq_some hf;have h2:=List.find?_some hf;refine⟨m,h1,(afu (of_decide_eq_true h2)).symm, ?_⟩;unfold rT;rw[if_pos h0,hf]
theorem afw(g:ai)(hg:rS g)(k:Nat)(t:Tok)(hk:g.ar[k]? =some t)(s:ByteArray)(hs:s.size<=1000000000):ax E true 67 [iV (k:Nat),sV s,.ptr g.e 0] (iV (rT t s:Nat)):=by
 have aE:=(List.getElem?_eq_some_iff.1 hk).1;have hm:=List.mem_of_getElem? hk;obtain⟨R,hR⟩:∃R,rT t s=R:=⟨_,rfl⟩;rw[hR];refine bc V2 rfl Tryz.ntmps67 Tryz.results67 λN=> ?_;simp(disch:=omega)[go_sem,ai.e,hk,-getElem?_pos,Tok.e];by_cases h0:t.lit=⟨#[]⟩
 . obtain⟨m,m1,m2,m3⟩:=afv (s:=s) h0 (hg.pat t hm h0);have hl:=aeL m m1 s hs;rw[<-m2,<-m3,hR]at hl;simp(disch:=omega)[go_sem,h0];refine aq.mk hl λM hM=> ?_;simp(disch:=omega)[go_sem]at hM;simp(disch:=omega)[go_sem]
 . have hp:=afn s t.lit;have ae:R=if qs s t.lit then t.lit.size else 0:=by rw[<-hR];unfold rT;rw[if_neg h0]
   simp(disch:=omega)[go_sem,h0];refine aq.mk hp λM hM=> ?_;simp(disch:=omega)[go_sem]at hM;cases hb:qs s t.lit with
   |true=>
    rw[hb,if_pos rfl]at ae;subst ae;simp(disch:=omega)[go_sem,lO]
   |false=>
    rw[hb,if_neg (by decide)]at ae;subst ae;simp(disch:=omega)[go_sem]
def mT(g:ai)(c:Nat):List Nat:=(List.range g.ar.length).filter λi=>match g.ar[i]? with
 |some t=>fR t.cond c
 |none=>false
abbrev qu(l:List Nat):DV:=.sl 1 (l.map λn=>[iV (n:Nat)])
def iA(g:ai)(c:Nat):List DV:=g.e++[qu (mT g c),.fn 67 [] [.ptr g.e 0]]
set_option maxHeartbeats 4000000 in
theorem afx(g:ai)(hg:rS g)(c:Nat)(hc:c<8):ax E true 34 [.agg g.e,cV c] (.ptr (iA g c) 0):=by
 refine bc VL rfl Tryz.ntmps34 Tryz.results34 λN=> ?_;obtain⟨au,ad⟩:∃au,DV.ptr (iA g c) 0=au:=⟨_,rfl⟩;rw[ad];have hlen:=hg.len;simp(disch:=omega)[go_sem,ai.e]
 let F:Nat->List Nat:=λk=>(List.range k).filter λi=>match g.ar[i]? with
  |some t=>fR t.cond c
  |none=>false
 let af:DV->List DV:=λpv=>[strs g.conds,.sl 3 (g.family.nodes.map de),iV g.family.root,.sl 7 (g.ar.map Tok.e),strs g.aH,.sl 13 (g.ak.map aR.e),iV g.start,.sl 4 (g.bd.map dG.e),.sl 9 (g.bp.map bj.e),pv,.v .nilFunc]
 obtain⟨I,hI⟩:∃I:Nat->DS->Prop,∀j d,I j d↔∃(k:Nat) (H:ab) (pv:DV),j+k=g.ar.length/\N+2<=H.next/\ew H (N+2) H.next 1 ((F k).map λn=>[iV (n:Nat)]) pv/\H.get N=some (.row g.e true 0)/\H.get (N+1)=some (.row (af pv) true 0)/\
  d=⟨bQ [(1,cV c),(2,aO N),(5,aO (N+1)),(12,iV (g.ar.length:Nat)),(13,iV (k:Nat))],40,[],H⟩:=⟨_,λ_ _=>Iff.rfl⟩
 refine cx I g.ar.length ⟨_,aA.bN (l:=[(1,cV c),(2,aO N),(5,aO (N+1)),(12,iV (g.ar.length:Nat)),(13,iV (0:Nat))]) ?_,(hI _ _).2 ⟨0,_,eN,rfl, ?_,.nil _ _ _ _, ?_, ?_,rfl⟩⟩ ?_
 . simp(disch:=omega)[go_sem]
 . simp(disch:=omega)[go_sem]
 . simp(disch:=omega)[go_sem,ai.e]
 . simp(disch:=omega)[go_sem];rfl
 . intro j ds av;obtain⟨k,H,pv,hj,hN,hgr,f1,f2,rfl⟩:=(hI _ _).1 av;clear av;simp only[af]at f2;obtain⟨p1,p2⟩:=hgr.cells;have ay:∀x∈(F k).map λn=>[iV (n:Nat)],x.length=1:=λx hx=>by obtain⟨y,_,rfl⟩:=List.mem_map.1 hx;rfl
   have aI:(F k).length<=k:=by have:=List.length_filter_le (λi=>match g.ar[i]? with|some t=>fR t.cond c|none=>false) (List.range k);simpa[F]using this
   by_cases az:k<g.ar.length
   . have aa:(k:Int)<g.ar.length:=by omega
     obtain⟨t,ht⟩:∃t,g.ar[k]? =some t:=⟨_,List.getElem?_eq_getElem az⟩;obtain⟨ct,aB,ao⟩:=hg.cond t (List.mem_of_getElem? ht);have hh:=xQ ct c ao hc;rw[<-aB]at hh;simp only[Dg.e]at hh;have hF:F (k+1)=F k++if fR t.cond c then [k]else []:=by
      simp only[F,List.range_succ,List.filter_append];congr 1;cases hb:fR t.cond c<;>simp[ht,hb]
     simp(disch:=omega)[go_sem,aa,f1,ai.e,ht,-getElem?_pos,Tok.e];refine aq.mk hh λM hM=> ?_;cases hb:fR t.cond c with
     |true=>
      rw[hb,if_pos rfl]at hF;simp(disch:=omega)[go_sem,f2];refine ew.app (st:=105) (xt:=105) (B:=N+2) (U:=H.next) (k:=1) (xs:=(F k).map λn=>[iV (n:Nat)]) (hgr.same (λq q1 q2=>by rw[ab.dT,if_neg (by rw[ab.kj];omega)];rfl) (Nat.le_refl _)) Ch Cg (by omega) (by simp(disch:=omega)[go_sem];omega) (new:=[iV (k:Nat)]) (by simp(disch:=omega)[go_sem]) (by decide) rfl rfl ay (by rw[List.length_map];omega) λH' aC T q0 q1 q2 q3 q4=> ?_;simp(disch:=omega)[go_sem]at q2 q3;obtain⟨p3,p4⟩:=q1.cells;have e1:H'.get (N+1)=some (.row (af pv) true 0):=by rw[q3 _ (by omega) (hgr.ne (.inl (by omega)))];simp(disch:=omega)[go_sem,f2];rfl
      simp only[af]at e1;simp(disch:=omega)[go_sem,e1,p3,p4,aD];refine⟨j-1,by omega,_,aA.bN (l:=[(1,cV c),(2,aO N),(5,aO (N+1)),(12,iV (g.ar.length:Nat)),(13,iV (k+1:Nat))]) ?_,(hI _ _).2 ⟨k+1,_,aC,by omega, ?_, ?_, ?_, ?_,rfl⟩⟩
      . simp(disch:=omega)[go_sem]
      . simp(disch:=omega)[go_sem];omega
      . rw[hF,List.map_append];exact q1.same (λq q5 q6=>by rw[ab.bw,if_neg (by omega)]) (by rw[ab.aS];exact Nat.le_refl _)
      . simp(disch:=omega)[go_sem];rw[q3 _ (by omega) (hgr.ne (.inl (by omega)))];simp(disch:=omega)[go_sem,f1]
      . simp(disch:=omega)[go_sem];rfl
     |false=>
      rw[hb]at hF;simp(disch:=omega)[go_sem,aD];refine⟨j-1,by omega,_,aA.bN (l:=[(1,cV c),(2,aO N),(5,aO (N+1)),(12,iV (g.ar.length:Nat)),(13,iV (k+1:Nat))]) ?_,(hI _ _).2 ⟨k+1,_,pv,by omega, ?_, ?_, ?_, ?_,rfl⟩⟩
      . simp(disch:=omega)[go_sem]
      . simp(disch:=omega)[go_sem];omega
      . rw[hF];simp only[Bool.false_eq_true,if_false,List.append_nil];exact hgr.same (λq _ _=>rfl) (by rw[ab.kj];exact hM)
      . simp(disch:=omega)[go_sem,f1]
      . simp(disch:=omega)[go_sem,f2];rfl
   . have aa:¬(k:Int)<g.ar.length:=by omega
     simp(disch:=omega)[go_sem,aa,f2];obtain rfl:k=g.ar.length:=by omega
     rw[<-ad];refine zV (ah:=0) (cN (wr:=true) (by simp(disch:=omega)[go_sem];try rfl)) ?_;have h1:Fz (allRows (H.set (N+1) (some (.row [strs g.conds,.sl 3 (g.family.nodes.map de),iV g.family.root,.sl 7 (g.ar.map Tok.e),strs g.aH,.sl 13 (g.ak.map aR.e),iV g.start,.sl 4 (g.bd.map dG.e),.sl 9 (g.bp.map bj.e),pv,.fn 67 [] [aO N]] true 0)))) pv (qu (mT g c)):=
      hgr.KJ (by decide) rfl ay (cP.refl _) λR cs h1 h2 h3=>cN (wr:=true) (by rw[ab.bw,if_neg (by omega)];exact h3)
     have h2:Fz (allRows (H.set (N+1) (some (.row [strs g.conds,.sl 3 (g.family.nodes.map de),iV g.family.root,.sl 7 (g.ar.map Tok.e),strs g.aH,.sl 13 (g.ak.map aR.e),iV g.start,.sl 4 (g.bd.map dG.e),.sl 9 (g.bp.map bj.e),pv,.fn 67 [] [aO N]] true 0)))) (.fn 67 [] [aO N]) (.fn 67 [] [.ptr g.e 0]):=
      IT (nJ (ah:=0) (cN (wr:=true) (by rw[ab.bw,if_neg (by omega)];exact f1)))
     simp only[iA,ai.e,List.cons_append,List.nil_append,xe,xa,w9,and_true,true_and];exact⟨h1,h2⟩
end Go.Sp
end
noncomputable section
open Go Go.aw Go.Proofs
namespace Go.Sp
set_option maxRecDepth 100000
def lenOf(g:ai)(s:ByteArray)(k:Nat):Nat:=match g.ar[k]? with
 |some t=>rT t s
 |none=>0
def lU(m:Nat)(t:Nat)(p:Nat×List Nat):Nat×List Nat:=
 let n:=if p.1<m then m else p.1
 let l:=if p.1<m then []else p.2
 (n,if m=n/\0<n then l++[t]else l)
def qv(g:ai)(s:ByteArray)(l:List Nat)(p:Nat×List Nat):Nat×List Nat:=l.foldl (λp t=>lU (lenOf g s t) t p) p
def firstM(g:ai)(c:Nat)(s:ByteArray):Nat×List Nat:=qv g s (mT g c) (0,[])
theorem afy(m t:Nat)(p:Nat×List Nat):(lU m t p).2.length<=p.2.length+1:=by
 unfold lU;simp only
 split<;>split<;>simp
theorem KK(g:ai)(s:ByteArray):∀(l:List Nat) (p:Nat×List Nat),(qv g s l p).2.length<=p.2.length+l.length
 |[],p=>Nat.le_refl _
 |t::l,p=>by
  have h1:=KK g s l (lU (lenOf g s t) t p);have h2:=afy (lenOf g s t) t p;simp only[qv,List.foldl_cons,List.length_cons]at h1⊢;omega
theorem KL(g:ai)(c:Nat):∀k∈mT g c,k<g.ar.length:=λk hk=>by
 have:=(List.mem_filter.1 hk).1;simpa using this
theorem KM(g:ai)(c:Nat):(mT g c).length<=g.ar.length:=by
 unfold mT;exact Nat.le_trans (List.length_filter_le _ _) (by simp)
set_option maxHeartbeats 4000000 in
theorem KQ(g:ai)(hg:rS g)(c:Nat)(s:ByteArray)(hs:s.size<=1000000000):ax E true 70 [.ptr (iA g c) 0,sV s] (.bg [iV ((firstM g c s).1:Nat),qu (firstM g c s).2]):=by
 refine bc V5 rfl Tryz.ntmps70 Tryz.results70 λN=> ?_;have hlen:=hg.len;have aU:=KM g c;have aL:=KL g c;obtain⟨au,av⟩:∃au,firstM g c s=au:=⟨_,rfl⟩;rw[av];obtain⟨L,hL⟩:∃L,mT g c=L:=⟨_,rfl⟩;have aF:qv g s L (0,[])=au:=by rw[<-av,<-hL];rfl
 have ay:iA g c=[strs g.conds,.sl 3 (g.family.nodes.map de),iV g.family.root,.sl 7 (g.ar.map Tok.e),strs g.aH,.sl 13 (g.ak.map aR.e),iV g.start,.sl 4 (g.bd.map dG.e),.sl 9 (g.bp.map bj.e),qu L,.fn 67 [] [.ptr g.e 0]]:=by rw[<-hL];rfl
 rw[hL]at aU aL;obtain⟨RD,aX⟩:∃RD,iA g c=RD:=⟨_,rfl⟩;rw[aX]at ay⊢;simp(disch:=omega)[go_sem,ay];rw[<-ay];obtain⟨I,hI⟩:∃I:Nat->DS->Prop,∀j d,I j d↔∃(k n:Nat) (tl:List Nat) (H:ab) (pv:DV),j+k=L.length/\tl.length<=k/\qv g s (L.drop k) (n,tl)=au/\N<=H.next/\ew H N H.next 1 (tl.map λn=>[iV (n:Nat)]) pv/\
  d=⟨bQ [(0,.ptr RD 0),(1,sV s),(6,iV (n:Nat)),(7,pv),(14,qu L),(15,iV (L.length:Nat)),(16,iV (k:Nat))],45,[],H⟩:=⟨_,λ_ _=>Iff.rfl⟩
 refine cx I L.length ⟨_,aA.bN (l:=[(0,.ptr RD 0),(1,sV s),(6,iV (0:Nat)),(7,eN),(14,qu L),(15,iV (L.length:Nat)),(16,iV (0:Nat))]) ?_,(hI _ _).2 ⟨0,0,[],_,eN,rfl,Nat.le_refl _,aF,Nat.le_refl _,.nil _ _ _ _,rfl⟩⟩ ?_
 . simp(disch:=omega)[go_sem]
 . intro j ds aN;obtain⟨k,n,tl,H,pv,hj,bf,aa,hN,hgr,rfl⟩:=(hI _ _).1 aN;clear aN;have aO:∀x∈tl.map λn=>[iV (n:Nat)],x.length=1:=λx hx=>by obtain⟨y,_,rfl⟩:=List.mem_map.1 hx;rfl
   by_cases aQ:k<L.length
   . have ae:(k:Int)<L.length:=by omega
     obtain⟨t,ht⟩:∃t,L[k]? =some t:=⟨_,List.getElem?_eq_getElem aQ⟩;obtain⟨tk,aS⟩:∃tk,g.ar[t]? =some tk:=⟨_,List.getElem?_eq_getElem (aL t (List.mem_of_getElem? ht))⟩;have ad:=afw g hg t tk aS s hs;have hm:lenOf g s t=rT tk s:=by simp only[lenOf,aS]
     have aY:L.drop k=t::L.drop (k+1):=by rw[List.drop_eq_getElem_cons aQ,(List.getElem?_eq_some_iff.1 ht).2]
     rw[aY]at aa;simp only[qv,List.foldl_cons,hm]at aa;obtain⟨m,aZ⟩:∃m,rT tk s=m:=⟨_,rfl⟩;rw[aZ]at ad aa;simp(disch:=omega)[go_sem,ae,ht,-getElem?_pos,ay];rw[<-ay];refine aq.mk ad λM hM=> ?_;have fin:∀(H':ab) (az:List Nat) (n':Nat) (ao:DV) (T:Tr DV),lU m t (n,tl)=(n',az)->N<=H'.next->az.length<=k+1->ew H' N H'.next 1 (az.map λn=>[iV (n:Nat)]) ao->nC T [(0,.ptr RD 0),(1,sV s),(6,iV (n':Nat)),(7,ao),(14,qu L),(15,iV (L.length:Nat)),(16,iV (k+1:Nat))]->∃j',j'<j/\∃d',aA ⟨T,45,[],H'⟩ d'/\I j' d':=λH' az n' ao T h1 h2 h3 h4 h5=>
      ⟨j-1,by omega,_,aA.bN h5,(hI _ _).2 ⟨k+1,n',az,H',ao,by omega,h3,by rw[<-h1];exact aa,h2,h4,rfl⟩⟩
     have aB:∀M',H.next<=M'->ew (H.up M') N M' 1 (tl.map λn=>[iV (n:Nat)]) pv:=λM' h=>hgr.same (λq _ _=>rfl) h;by_cases aI:n<m
     . have af:(n:Int)<m:=by omega
       have aT:0<m:=by omega
       simp(disch:=omega)[go_sem,af,aT];refine Y3 (by omega) (by omega) ?_;simp(disch:=omega)[go_sem,aD];refine fin _ [t] m (.v (.slice (some ⟨M+1,0,none⟩) 1 1)) _ ?_ ?_ ?_ ?_ ?_
       . simp only[lU,if_pos aI,aT,and_self,if_true,List.nil_append]
       . simp(disch:=omega)[go_sem];omega
       . simp
       . exact .inr ⟨M+1,by omega,by simp(disch:=omega)[go_sem],rfl,by simp(disch:=omega)[go_sem]⟩
       . simp(disch:=omega)[go_sem]
     . have af:¬(n:Int)<m:=by omega
       by_cases bb:m=n/\0<n
       . obtain⟨rfl,aE⟩:=bb;simp(disch:=omega)[go_sem,aE];refine ew.app (st:=105) (xt:=105) (B:=N) (U:=M) (k:=1) (xs:=tl.map λn=>[iV (n:Nat)]) (hgr.same (λq q1 q2=>by rw[ab.dT,if_neg (by rw[ab.kj];omega)];rfl) hM) Ch Cg (by omega) (by simp(disch:=omega)[go_sem]) (new:=[iV (t:Nat)]) (by simp(disch:=omega)[go_sem]) (by decide) rfl rfl aO (by rw[List.length_map];omega) λH' ao T q0 q1 q2 q3 q4=> ?_;simp(disch:=omega)[go_sem]at q2;simp(disch:=omega)[go_sem,aD];refine fin _ (tl++[t]) m ao _ ?_ ?_ ?_ ?_ ?_
         . simp only[lU,if_neg aI,aE,and_self,if_true]
         . omega
         . simp;omega
         . rw[List.map_append];exact q1
         . simp(disch:=omega)[go_sem]
       . by_cases aC:m=n
         . have aE:n=0:=by omega
           subst aE;subst aC;simp(disch:=omega)[go_sem,aD];refine fin _ tl 0 pv _ ?_ ?_ (by omega) (aB M hM) ?_
           . simp[lU]
           . simp(disch:=omega)[go_sem];omega
           . simp(disch:=omega)[go_sem]
         . have aJ:¬(m:Int)=n:=by omega
           simp(disch:=omega)[go_sem,af,aJ,aD];refine fin _ tl n pv _ ?_ ?_ (by omega) (aB M hM) ?_
           . simp only[lU,if_neg aI,aC,false_and,if_false]
           . simp(disch:=omega)[go_sem];omega
           . simp(disch:=omega)[go_sem]
   . have ae:¬(k:Int)<L.length:=by omega
     rw[List.drop_eq_nil_of_le (by omega)]at aa;have aa:(n,tl)=au:=aa;subst aa;simp(disch:=omega)[go_sem,ae];exact hgr.fz (by decide) aO
end Go.Sp
end
noncomputable section
open Go Go.aw Go.Proofs
namespace Go.Sp
set_option maxRecDepth 100000
theorem KS(g:ai)(s:ByteArray):∀(l:List Nat) (p:Nat×List Nat),(0<p.1->p.2≠[])->0<(qv g s l p).1->(qv g s l p).2≠[]
 |[],p,h=>h
 |t::l,p,h=>by
  refine KS g s l (lU (lenOf g s t) t p) ?_;unfold lU;simp only
  split
  . rename_i h1;intro h2;rw[if_pos ⟨rfl,h2⟩];simp
  . intro h2
    split
    . simp
    . exact h h2
theorem afz{m t:Nat}{p:Nat×List Nat}{x:Nat}(h:x∈(lU m t p).2):x∈p.2\/x=t:=by
 unfold lU at h;simp only at h;by_cases h1:p.1<m
 . simp only[if_pos h1]at h
   split at h
   . right;simpa using h
   . cases h
 . simp only[if_neg h1]at h
   split at h
   . simpa using h
   . exact .inl h
theorem KT(g:ai)(s:ByteArray):∀(l:List Nat) (p:Nat×List Nat),∀x∈(qv g s l p).2,x∈p.2\/x∈l
 |[],p,x,h=>.inl h
 |t::l,p,x,h=>by
  rcases KT g s l (lU (lenOf g s t) t p) x h with h1|h1
  . rcases afz h1 with h2|rfl
    . exact .inl h2
    . exact .inr (by simp)
  . exact .inr (List.mem_cons_of_mem _ h1)
theorem KU(g:ai)(c:Nat)(s:ByteArray)(h:0<(firstM g c s).1):∃t tl tk,(firstM g c s).2=t::tl/\g.ar[t]? =some tk:=by
 have h1:=KS g s (mT g c) (0,[]) (λh=>by cases h) h;cases hl:(firstM g c s).2 with
 |nil=>exact absurd hl h1
 |cons t tl=>
  have hm:t∈(firstM g c s).2:=by rw[hl];simp
  rcases KT g s (mT g c) (0,[]) t hm with h2|h2
  . cases h2
  . exact⟨t,tl,_,rfl,List.getElem?_eq_getElem (KL g c t h2)⟩
def rU(g:ai)(l:List Nat):Int:=match l with
 |t::_=>match g.ar[t]? with|some tk=>tk.cls|none=>0
 |[]=>0
def vI(g:ai)(k:Int):ByteArray:=match g.ar[k.toNat]? with
 |some tk=>tk.lit
 |none=>⟨#[]⟩
def oY(g:ai)(c:Nat)(l:Lf)(f:bj):Bool:=decide (f.kind=5)&&decide (f.token=(l.tok:Int))&&fR f.cond c&&f.ar.any λt=>decide (vI g t=l.text)
def rV(g:ai)(c:Nat)(s:ByteArray)(l:Lf):Bool:=decide ((firstM g c s).1=l.text.size)&&decide (rU g (firstM g c s).2=0)&&((firstM g c s).2.any λt=>decide (l.tok=t))&& !(g.bp.any (oY g c l))
theorem Eh(g:ai)(c:Nat):iA g c=[strs g.conds,.sl 3 (g.family.nodes.map de),iV g.family.root,.sl 7 (g.ar.map Tok.e),strs g.aH,.sl 13 (g.ak.map aR.e),iV g.start,.sl 4 (g.bd.map dG.e),.sl 9 (g.bp.map bj.e),qu (mT g c),.fn 67 [] [.ptr g.e 0]]:=rfl
theorem afA(g:ai)(c:Nat)(l:Lf)(k:Int)(h0:0<=k)(tk:Tok)(hk:g.ar[k.toNat]? =some tk):ax E true 75 [iV k,.ptr [.ptr (iA g c) 0] 0,.ptr l.e 0] (bV (decide (vI g k=l.text))):=by
 have aL:=(List.getElem?_eq_some_iff.1 hk).1;have aQ:vI g k=tk.lit:=by simp only[vI,hk]
 rw[aQ];refine bc Wa rfl Tryz.ntmps75 Tryz.results75 λN=> ?_;simp(disch:=omega)[go_sem];refine ck [aJ 0,ae 1,ae 3,ae 7,aJ 15,ae 0,ae 63,ae 127,aJ 255,ae 0,aJ 512,ae 2047,ae 4095] (by kernel_rfl) 0 rfl ?_;simp(disch:=omega)[go_sem,Eh,hk,h0,-getElem?_pos,Tok.e,Lf.e]
theorem afB(g:ai)(hg:GV g)(c:Nat)(hc:c<8)(l:Lf)(f:bj)(hf:f∈g.bp):ax E true 73 [.agg f.e,.ptr l.e 0,.ptr [cV c] 0,.ptr [.ptr (iA g c) 0] 0] (bV (oY g c l f)):=by
 obtain⟨⟨cf,aS,aE⟩,aT⟩:=hg.bp.ok f hf;have hh:=xQ cf c aE.1 hc;rw[<-aS]at hh;simp only[Dg.e]at hh;obtain⟨ab,aa⟩:∃ab,oY g c l f=ab:=⟨_,rfl⟩;rw[aa];refine bc V8 rfl Tryz.ntmps73 Tryz.results73 λN=> ?_;simp(disch:=omega)[go_sem,bj.e];by_cases h5:f.kind=5
 . have aF:f.kind=5/\∃t,nK g t f.ar:=by
    rcases aT with h|h|h|h|h
    . have:=h.1;omega
    . have:=h.1;omega
    . have:=h.1;omega
    . have:=h.1;omega
    . obtain⟨_,_,_,_,_,_,t,_,_,_,h9⟩:=h;exact⟨h5,_,h9⟩
   obtain⟨_,K,aB⟩:=aF;by_cases ht:f.token=(l.tok:Int)
   . simp(disch:=omega)[go_sem,h5,ht,Lf.e];refine aq.mk hh λM hM=> ?_;simp(disch:=omega)[go_sem]at hM;cases aM:fR f.cond c with
     |false=>
      rw[show ab=false from by rw[<-aa];simp[oY,aM]];simp(disch:=omega)[go_sem]
     |true=>
      have ay:=aft f.ar (λt=>decide (vI g t=l.text)) 75 [.ptr [.ptr (iA g c) 0] 0,.ptr l.e 0] (by have:=aB.len;omega) (λx hx=>by
       obtain⟨h0,t,h1,_⟩:=aB.tok x hx;exact afA g c l x h0 t h1)
      rw[show ab=f.ar.any (λt=>decide (vI g t=l.text))from by rw[<-aa];simp[oY,aM,h5,ht]];simp(disch:=omega)[go_sem];refine aq.mk ay λM2 aI=> ?_;simp(disch:=omega)[go_sem]at aI;simp(disch:=omega)[go_sem]
   . rw[show ab=false from by rw[<-aa];simp[oY,ht]];simp(disch:=omega)[go_sem,h5,ht,Lf.e]
 . rw[show ab=false from by rw[<-aa];simp[oY,h5]];simp(disch:=omega)[go_sem,h5]
theorem afC{S:fA}{f:FuncId}{a b:List DV}(h:cP S a b):Fz S (.fn f [] a) (.fn f [] b):=
 .fn rfl (λi v d h1 _=>by simp at h1) h.length λi v d h1 h2=>by
  obtain⟨d',h3,h4⟩:=h.get i v h1;rw[h2]at h3;cases h3;exact h4
theorem afD(l:List Nat):qu l=ints (l.map λ(n:Nat)=>(n:Int)):=by simp[List.map_map]
set_option maxHeartbeats 4000000 in
theorem afE(g:ai)(hg:GV g)(ht:rS g)(c:Nat)(hc:c<8)(s:ByteArray)(hs:s.size<=1000000000)(l:Lf)(hl:0<l.text.size):ax E true 35 [.ptr (iA g c) 0,cV c,sV s,.agg l.e] (bV (rV g c s l)):=by
 have ao:=KQ g ht c s hs;obtain⟨ab,aa⟩:∃ab,rV g c s l=ab:=⟨_,rfl⟩;rw[aa];refine bc VM rfl Tryz.ntmps35 Tryz.results35 λN=> ?_;obtain⟨RD,aC⟩:∃RD,iA g c=RD:=⟨_,rfl⟩;have av:=Eh g c;rw[aC]at ao av;rw[aC];have bb:cE (.sl 1 [])=[.sl 1 []]:=rfl;simp(disch:=omega)[go_sem,Lf.e];refine aq.mk ao λM hM=> ?_;simp(disch:=omega)[go_sem]at hM;simp(disch:=omega)[go_sem];refine ck [ae 0,ae 0,aJ 2,aJ 6,ae 15,ae 31,aJ 63,ae 127,ae 255,ae 511,aJ 1023,ae 63,ae 2111,aJ 6207,ae 16383,ae 32767,aJ 65535,ae 131071,ae 262143,ae 524287,ae 1048575,ae 1048575,aJ 3145727,aN 8388607,ae 16777215,ae 33554431] (by kernel_rfl) 0 rfl ?_;by_cases hn:(firstM g c s).1=l.text.size
 . have az:((firstM g c s).1:Int)=l.text.size:=by omega
   obtain⟨t,tl,tk,h1,h2⟩:=KU g c s (by omega);have hlen:(firstM g c s).2.length<=100000:=by
    have h3:=KK g s (mT g c) (0,[]);have h4:=KM g c;have h5:=ht.len;have h6:(firstM g c s).2.length<=(mT g c).length:=by simpa[firstM]using h3
    omega
   have aD:=afp ((firstM g c s).2.map λ(n:Nat)=>(n:Int)) (l.tok:Nat) (by rw[List.length_map];exact hlen);rw[<-afD,List.any_map]at aD;have au:rU g (firstM g c s).2=tk.cls:=by rw[h1];simp only[rU,h2]
   have aL:=(List.getElem?_eq_some_iff.1 h2).1;have af:((firstM g c s).2.map λ(n:Nat)=>[iV (n:Nat)])[0]? =some [iV (t:Nat)]:=by rw[h1];rfl
   have aU:0<(firstM g c s).2.length:=by rw[h1];simp
   have ad:ab=(decide ((firstM g c s).1=l.text.size)&&decide (rU g (firstM g c s).2=0)&&((firstM g c s).2.any λt=>decide (l.tok=t))&& !(g.bp.any (oY g c l))):=by rw[<-aa];rfl
   clear aa;generalize firstM g c s=FM at*;by_cases h0:tk.cls=0
   . simp(disch:=omega)[go_sem,lO,az,av,af,h2,Tok.e,h0,-getElem?_pos];refine aq.mk aD λM2 aI=> ?_;simp(disch:=omega)[go_sem]at aI;have ay:((λy=>decide ((l.tok:Int)=y))∘λ(n:Nat)=>(n:Int))=λt=>decide (l.tok=t):=by
      funext t
      simp only[Function.comp_def];rw[decide_eq_decide];omega
     rw[ay];cases aO:FM.2.any λt=>decide (l.tok=t)with
     |false=>
      rw[show ab=false from by rw[ad,aO];simp];simp(disch:=omega)[go_sem]
     |true=>
      have aX:=afr g.bp bj.e (oY g c l) 73 [.ptr l.e 0,.ptr [cV c] 0,.ptr [.ptr (iA g c) 0] 0] (λ_=>rfl) (by have:=hg.bp.len;omega) (λf hf=>afB g hg c hc l f hf);rw[show ab= !(g.bp.any (oY g c l))from by rw[ad,aO,au,hn,h0];simp];simp(disch:=omega)[go_sem,av];refine aq.pl aX (.cons (.refl _) (.cons (afC (.cons ?_ (.cons ?_ (.cons ?_ .nil)))) .nil)) λM3 aY=> ?_
      . exact nJ (ah:=0) (cN (wr:=true) (by simp(disch:=omega)[go_sem];try rfl))
      . exact nJ (ah:=0) (cN (wr:=true) (by simp(disch:=omega)[go_sem];try rfl))
      . rw[aC,av];exact nJ (ah:=0) (cN (wr:=true) (by simp(disch:=omega)[go_sem];try rfl))
      simp(disch:=omega)[go_sem]at aY;simp(disch:=omega)[go_sem]
   . simp(disch:=omega)[go_sem,lO,az,av,af,h2,Tok.e,h0,-getElem?_pos];rw[show ab=false from by rw[ad,au];simp[h0]];exact .refl _
 . have az:¬((firstM g c s).1:Int)=l.text.size:=by omega
   rw[show ab=false from by rw[<-aa];simp[rV,hn]];simp(disch:=omega)[go_sem,lO,az]
def tN:ByteArray:=⟨#[32]⟩
def xT(g:ai)(c:Nat)(s:ByteArray):Bool:=decide ((firstM g c (tN++s)).1=1)&&decide (rU g (firstM g c (tN++s)).2=1)
set_option maxHeartbeats 4000000 in
theorem afF(g:ai)(ht:rS g)(c:Nat)(s:ByteArray)(hs:s.size<=900000000):ax E true 36 [.ptr (iA g c) 0,sV s] (bV (xT g c s)):=by
 have aZ:(⟨#[32]⟩:ByteArray).size+s.size<=9223372036854775807:=by show 1+s.size<=_;omega
 have ao:=KQ g ht c (tN++s) (by rw[ByteArray.size_append];show 1+s.size<=_;omega);obtain⟨ab,aa⟩:∃ab,xT g c s=ab:=⟨_,rfl⟩;rw[aa];refine bc VN rfl Tryz.ntmps36 Tryz.results36 λN=> ?_;obtain⟨RD,aC⟩:∃RD,iA g c=RD:=⟨_,rfl⟩;have av:=Eh g c;rw[aC]at ao av⊢;simp only[tN]at ao;simp(disch:=omega)[go_sem,uP (h:=aZ)];refine aq.mk ao λM hM=> ?_;simp(disch:=omega)[go_sem]at hM;simp(disch:=omega)[go_sem];refine ck [ae 0,ae 1,ae 3,ae 7,ae 15,ae 31,ae 63,aJ 127,ae 7,ae 263,aJ 775,ae 2047,ae 4095,aJ 8191,ae 16383,ae 32767,ae 65535] (by kernel_rfl) 0 rfl ?_;have ad:ab=(decide ((firstM g c (⟨#[32]⟩++s)).1=1)&&decide (rU g (firstM g c (⟨#[32]⟩++s)).2=1)):=by rw[<-aa];rfl
 clear aa;by_cases hn:(firstM g c (⟨#[32]⟩++s)).1=1
 . obtain⟨t,tl,tk,h1,h2⟩:=KU g c (⟨#[32]⟩++s) (by omega);have au:rU g (firstM g c (⟨#[32]⟩++s)).2=tk.cls:=by rw[h1];simp only[rU,h2]
   have aL:=(List.getElem?_eq_some_iff.1 h2).1;have af:((firstM g c (⟨#[32]⟩++s)).2.map λ(n:Nat)=>[iV (n:Nat)])[0]? =some [iV (t:Nat)]:=by rw[h1];rfl
   have aU:0<(firstM g c (⟨#[32]⟩++s)).2.length:=by rw[h1];simp
   generalize firstM g c (⟨#[32]⟩++s)=FM at*;rw[show ab=decide (tk.cls=1)from by rw[ad,au,hn];simp];simp(disch:=omega)[go_sem,hn,av,af,h2,Tok.e,-getElem?_pos]
 . have az:¬((firstM g c (⟨#[32]⟩++s)).1:Int)=1:=by omega
   rw[show ab=false from by rw[ad];simp[hn]];simp(disch:=omega)[go_sem,az]
end Go.Sp
end

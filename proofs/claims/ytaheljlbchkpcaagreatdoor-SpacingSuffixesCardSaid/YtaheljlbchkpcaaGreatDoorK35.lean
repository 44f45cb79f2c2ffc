/- SpacingSuffixes: parts of its proof (Gc6 Gc7 Gc8 Gc9 An1 An2 Smq). -/
import Derived.Test.YtaheljlbchkpcaaGreatDoorK22
import Derived.Test.YtaheljlbchkpcaaGreatDoorK24
import Derived.Test.YtaheljlbchkpcaaGreatDoorK25
import Derived.Test.YtaheljlbchkpcaaGreatDoorK28
import Derived.Test.YtaheljlbchkpcaaGreatDoorK29
import Derived.Test.YtaheljlbchkpcaaGreatDoorK34
set_option linter.unusedVariables false
set_option linter.unusedSimpArgs false
noncomputable section
open Go Go.aw Go.Proofs
namespace Go.Sp
set_option maxRecDepth 100000
theorem mi{h:ab}{r:Nat}{es:List bA}{clock:Nat}{ty:TypeId}{ok:Bool}{k:Value}{v dk:DV}(hm:h.get r=some (.map es clock))(hk:exact dk=some k)(h1:l8 E ty ok k es=some v):lF E h ty ok (.v (.map (some r))) dk=some v:=by
 simp only[lF,hk,hm,h1]
theorem tA{h:ab}{r:Nat}{es:List bA}{clock:Nat}{ty:TypeId}{k:Value}{d dk:DV}{o:bF}(hm:h.get r=some (.map es clock))(hk:exact dk=some k)(h1:kT E ty k d es clock=some o):jL E h ty (some (.v (.map (some r)))) (some dk) (some d)=some (h.set r (some o),r):=by
 simp only[jL,hk,hm,h1,Option.map_some]
def tB(i:Int):Value:=.int .i64 i
theorem kA:kP E 3 tB:=by
 refine⟨⟨_,u3,λk=>rfl⟩,λk=>rfl,λk b=>⟨(),by kernel_rfl⟩,λa b=> ?_,λk=>by simp[tB,Instr.sameBits]⟩;simp only[kI,tB,decide_true,cond_true];rfl
theorem IY:E.under 225=some (.map 3 4):=by kernel_rfl
abbrev IZ(es:List bA)(l:List Int):Prop:=fC tB (λ_:Unit=>bV true) es (l.map λi=>(i,()))
theorem I3(l:List Int)(i:Int)(h:i∉l):bf (l.map λi=>(i,())) i=none:=by
 induction l with
 |nil=>rfl
 |cons x l ih=>
  simp only[List.mem_cons,not_or]at h;simp only[List.map_cons,bf,if_neg h.1];exact ih h.2
theorem acm(l:List Int)(i:Int)(h:i∉l):put (l.map λi=>(i,())) i ()=(l++[i]).map λi=>(i,()):=by
 rw[qV (I3 l i h)];simp
structure vm(g:ai)(l:dG):Prop where
 assoc:0<=l.assoc/\l.assoc<=3
 cond:lK g.conds.length l.cond
 ak:∀p∈l.ak,0<=p/\p<g.ak.length
structure I4(g:ai):Prop where
 nd:(g.bd.flatMap (·.ak)).Nodup
 len:g.bd.length<=2000
 lens:∀l∈g.bd,l.ak.length<=100000
 ok:∀l∈g.bd,vm g l
theorem acn{ls:List dG}(h:(ls.flatMap (·.ak)).Nodup){k m:Nat}{l:dG}{p:Int}(hk:ls[k]? =some l)(hm:l.ak[m]? =some p):p∉(ls.take k).flatMap (·.ak)++l.ak.take m:=by
 have e:ls.flatMap (·.ak)=((ls.take k).flatMap (·.ak)++l.ak.take m)++(l.ak.drop m++(ls.drop (k+1)).flatMap (·.ak)):=by
  have e1:ls=ls.take k++l::ls.drop (k+1):=by
   have aL:=(List.getElem?_eq_some_iff.1 hk).1;have:=List.take_append_drop k ls;rw[List.drop_eq_getElem_cons aL]at this;have h2:ls[k]=l:=(List.getElem?_eq_some_iff.1 hk).2;rw[h2]at this;exact this.symm
  conv=>lhs;rw[e1]
  rw[List.flatMap_append,List.flatMap_cons]
  conv=>lhs;rw[<-List.take_append_drop m l.ak]
  simp only[List.append_assoc]
 rw[e,List.nodup_append]at h;intro hp;have hd:p∈l.ak.drop m:=by
  have aM:=(List.getElem?_eq_some_iff.1 hm).1;rw[List.drop_eq_getElem_cons aM,(List.getElem?_eq_some_iff.1 hm).2];exact List.mem_cons_self
 exact h.2.2 p hp p (List.mem_append_left _ hd) rfl
set_option maxHeartbeats 2000000 in
theorem aco(g:ai)(hg:I4 g):ax E true 107 [.agg g.e] (iV 0):=by
 have hlen:=hg.len;refine bc Wu rfl Tryz.ntmps107 Tryz.results107 λN=> ?_;simp(disch:=omega)[go_sem,ai.e];obtain⟨I,hI⟩:∃I:Nat->DS->Prop,∀j d,I j d↔∃(k P:Nat) (es:List bA) (clock:Nat),j+k=g.bd.length/\IZ es ((g.bd.take k).flatMap (·.ak))/\N+1<P/\d=⟨bQ [(1,.v (.pointer (some ⟨N,0,none⟩))),(3,.v (.map (some (N+1)))),(10,.sl 4 (g.bd.map dG.e)),(11,iV g.bd.length),(12,iV k)],58,[],cK P [(N,.row g.e true 0),(N+1,.map es clock)]⟩:=⟨_,λ_ _=>Iff.rfl⟩;refine cx I g.bd.length ⟨_,aA.mk (N:=N+2) ?_ ?_ ?_,(hI _ _).2 ⟨0,N+2,[],0,rfl,rfl,by omega,rfl⟩⟩ ?_
 . simp(disch:=omega)[go_sem]
 . simp(disch:=omega)[go_sem]
 . simp(disch:=omega)[go_sem,ai.e]
 . intro j ds aF;obtain⟨k,P,es,clock,hj,hs,hP,rfl⟩:=(hI _ _).1 aF;clear aF;by_cases aN:k<g.bd.length
   . have ae:(k:Int)<g.bd.length:=by omega
     obtain⟨l,av⟩:∃l,g.bd[k]? =some l:=⟨_,List.getElem?_eq_getElem aN⟩;have aI:=List.mem_of_getElem? av;have ay:=hg.ok l aI;have aU:=hg.lens l aI;obtain⟨c,aO,aQ⟩:=ay.cond;have af:=xw c g.conds.length aQ;rw[<-aO]at af;have d1:¬l.assoc<0:=by have:=ay.assoc;omega
     have d2:¬3<l.assoc:=by have:=ay.assoc;omega
     simp only[Dg.e]at af;simp(disch:=omega)[go_sem,ae,av,-getElem?_pos,dG.e,d1,d2,ai.e];refine aq.mk af λM hM=> ?_;simp(disch:=omega)[go_sem]at hM;simp(disch:=omega)[go_sem];obtain⟨J,hJ⟩:∃J:Nat->DS->Prop,∀j d,J j d↔∃(m P:Nat) (es:List bA) (clock:Nat),j+m=l.ak.length/\IZ es ((g.bd.take k).flatMap (·.ak)++l.ak.take m)/\N+1<P/\d=⟨bQ [(1,.v (.pointer (some ⟨N,0,none⟩))),(3,.v (.map (some (N+1)))),(10,.sl 4 (g.bd.map dG.e)),(11,iV g.bd.length),(12,iV k),(34,ints l.ak),(35,iV l.ak.length),(36,iV m)],58,[],cK P [(N,.row g.e true 0),(N+1,.map es clock)]⟩:=⟨_,λ_ _=>Iff.rfl⟩;refine cx J l.ak.length ⟨_,aA.mk (N:=M) ?_ ?_ ?_,(hJ _ _).2 ⟨0,M,es,clock,rfl,by simpa using hs,by omega,rfl⟩⟩ ?_
     . simp(disch:=omega)[go_sem]
     . simp(disch:=omega)[go_sem,dG.e]
     . simp(disch:=omega)[go_sem,ai.e]
     . intro j2 aX aJ;obtain⟨m,P2,aC,aa,aY,az,aR,rfl⟩:=(hJ _ _).1 aJ;clear aJ;by_cases aE:m<l.ak.length
       . have ad:(m:Int)<l.ak.length:=by omega
         obtain⟨p,aB⟩:∃p,l.ak[m]? =some p:=⟨_,List.getElem?_eq_getElem aE⟩;obtain⟨p0,p1⟩:=ay.ak p (List.mem_of_getElem? aB);have au:=acn hg.nd av aB;have d3:¬p<0:=by omega
         have d4:¬(g.ak.length:Int)<=p:=by omega
         have h1:=tw kA IY az p false z4 rfl (I3 _ p au);obtain⟨aS,ao,h2,h3⟩:=qi kA IY az p aa ();rw[acm _ p au]at h3;simp(disch:=omega)[go_sem,ad,aB,-getElem?_pos,d3,d4,ai.e];refine⟨bV false,mi (es:=aC) (clock:=aa) (by simp(disch:=omega)[go_sem]) rfl h1, ?_⟩;simp(disch:=omega)[go_sem];refine⟨_,tA (es:=aC) (clock:=aa) (by simp(disch:=omega)[go_sem]) rfl h2, ?_⟩;simp(disch:=omega)[go_sem,aD];refine⟨j2-1,by omega,_,aA.mk (N:=P2) ?_ ?_ ?_,(hJ _ _).2 ⟨m+1,P2,aS,ao,by omega, ?_,aR,rfl⟩⟩
         . simp(disch:=omega)[go_sem]
         . simp(disch:=omega)[go_sem,dG.e]
         . simp(disch:=omega)[go_sem,ai.e]
         . rw[List.take_add_one,aB,Option.toList_some,<-List.append_assoc];exact h3
       . have ad:¬(m:Int)<l.ak.length:=by omega
         simp(disch:=omega)[go_sem,ad,aD];refine⟨j-1,by omega,_,aA.mk (N:=P2) ?_ ?_ ?_,(hI _ _).2 ⟨k+1,P2,aC,aa,by omega, ?_,by omega,rfl⟩⟩
         . simp(disch:=omega)[go_sem]
         . simp(disch:=omega)[go_sem]
         . simp(disch:=omega)[go_sem,ai.e]
         . rw[List.take_add_one,av,Option.toList_some,List.flatMap_append,List.flatMap_cons,List.flatMap_nil,List.append_nil];have aT:l.ak.take m=l.ak:=List.take_of_length_le (by omega);rw[aT]at az;exact az
   . have ae:¬(k:Int)<g.bd.length:=by omega
     simp(disch:=omega)[go_sem,ae,ai.e]
end Go.Sp
end
noncomputable section
open Go Go.aw Go.Proofs
namespace Go.Sp
set_option maxRecDepth 100000
theorem Dd(t:Tok)(h:t.cls=0):ax E true 149 [.agg t.e] (bV true):=by
 refine bc W2 rfl Tryz.ntmps149 Tryz.results149 λN=> ?_;simp(disch:=omega)[go_sem,Tok.e,h]
theorem I5(t:Tok):ax E true 150 [.agg t.e] (bV (!decide (t.lit=⟨#[]⟩))):=by
 refine bc W3 rfl Tryz.ntmps150 Tryz.results150 λN=> ?_;simp(disch:=omega)[go_sem,Tok.e]
structure nK(g:ai)(K:Tok->Prop)(l:List Int):Prop where
 ne:l≠[]
 len:l.length<=1000
 tok:∀n∈l,0<=n/\∃t,g.ar[n.toNat]? =some t/\K t
 up:∀(i:Nat) a b,l[i]? =some a->l[i+1]? =some b->a<b
theorem De(g:ai)(K:Tok->Prop)(f:FuncId)(hf:∀t,K t->ax E true f [.agg t.e] (bV true))(l:List Int)(h:nK g K l):ax E true 152 [.agg g.e,ints l,.fn f [] []] (bV true):=by
 have hlen:=h.len;have af:0<l.length:=List.length_pos_iff.2 h.ne;refine bc W5 rfl Tryz.ntmps152 Tryz.results152 λN=> ?_;simp(disch:=omega)[go_sem,ai.e];obtain⟨I,hI⟩:∃I:Nat->DS->Prop,∀j d,I j d↔∃(k P:Nat),j+k=l.length/\N<P/\d=⟨bQ [(1,ints l),(2,.fn f [] []),(3,.v (.pointer (some ⟨N,0,none⟩))),(9,ints l),(10,iV l.length),(11,iV k)],52,[],cK P [(N,.row g.e true 0)]⟩:=⟨_,λ_ _=>Iff.rfl⟩;refine cx I l.length ⟨_,aA.mk (N:=N+1) ?_ ?_ ?_,(hI _ _).2 ⟨0,N+1,rfl,by omega,rfl⟩⟩ ?_
 . simp(disch:=omega)[go_sem]
 . simp(disch:=omega)[go_sem]
 . simp(disch:=omega)[go_sem,ai.e]
 . intro j ds ao;obtain⟨k,P,hj,hP,rfl⟩:=(hI _ _).1 ao;clear ao;by_cases au:k<l.length
   . have aa:(k:Int)<l.length:=by omega
     obtain⟨n,ad⟩:∃n,l[k]? =some n:=⟨_,List.getElem?_eq_getElem au⟩;obtain⟨n0,t,ht,hK⟩:=h.tok n (List.mem_of_getElem? ad);have n1:n<g.ar.length:=by have:=(List.getElem?_eq_some_iff.1 ht).1;omega
     have av:=hf t hK;have d1:¬n<0:=by omega
     have d2:¬(g.ar.length:Int)<=n:=by omega
     have ay:fy (some (some 7)) t.e 0=some (.agg t.e):=vg rfl;cases k with
     |zero=>
      simp(disch:=omega)[go_sem,au,aa,ad,-getElem?_pos,d1,d2,n0,ht,ai.e,ay];refine aq.mk av λM hM=> ?_;simp(disch:=omega)[go_sem]at hM;simp(disch:=omega)[go_sem,aD];refine⟨j-1,by omega,_,aA.mk (N:=M) ?_ ?_ ?_,(hI _ _).2 ⟨1,M,by omega,by omega,rfl⟩⟩
      . simp(disch:=omega)[go_sem]
      . simp(disch:=omega)[go_sem]
      . simp(disch:=omega)[go_sem,ai.e]
     |succ k=>
      obtain⟨a,az⟩:∃a,l[k]? =some a:=⟨_,List.getElem?_eq_getElem (by omega)⟩;have aB:=h.up k a n az ad;have d3:¬n<=a:=by omega
      have d4:((k+1:Nat):Int)-1=k:=by omega
      have d5:(0:Int)<((k+1:Nat):Int):=by omega
      simp(disch:=omega)[go_sem,aa,ad,az,-getElem?_pos,d1,d2,d3,d4,d5,n0,ht,ai.e,ay,aD,-Int.natCast_add];refine aq.mk av λM hM=> ?_;simp(disch:=omega)[go_sem]at hM;simp(disch:=omega)[go_sem,aD];refine⟨j-1,by omega,_,aA.mk (N:=M) ?_ ?_ ?_,(hI _ _).2 ⟨k+1+1,M,by omega,by omega,rfl⟩⟩
      . simp(disch:=omega)[go_sem]
      . simp(disch:=omega)[go_sem]
      . simp(disch:=omega)[go_sem,ai.e]
   . have aa:¬(k:Int)<l.length:=by omega
     have ab:(0:Int)<l.length:=by omega
     simp(disch:=omega)[go_sem,aa,ai.e,af,ab,h.ne]
structure tC(g:ai)(f:bj):Prop where
 ex:∃p c s,0<=f.parent/\g.ak[f.parent.toNat]? =some p/\0<=f.child/\g.ak[f.child.toNat]? =some c/\0<=f.at_/\p.right[f.at_.toNat]? =some s/\s=⟨false,c.left⟩
theorem I6(g:ai)(f:bj)(h:tC g f):ax E true 151 [.agg g.e,.agg f.e] (bV true):=by
 obtain⟨p,c,s,p0,hp,c0,hc,a0,hs,rfl⟩:=h.ex;have p1:f.parent<g.ak.length:=by have:=(List.getElem?_eq_some_iff.1 hp).1;omega
 have c1:f.child<g.ak.length:=by have:=(List.getElem?_eq_some_iff.1 hc).1;omega
 have a1:f.at_<p.right.length:=by have:=(List.getElem?_eq_some_iff.1 hs).1;omega
 have d1:¬f.parent<0:=by omega
 have d2:¬(g.ak.length:Int)<=f.parent:=by omega
 have d3:¬f.child<0:=by omega
 have d4:¬(g.ak.length:Int)<=f.child:=by omega
 refine bc W4 rfl Tryz.ntmps151 Tryz.results151 λN=> ?_;simp(disch:=omega)[go_sem,ai.e,bj.e,d1,d2,d3,d4,p0,hp,-getElem?_pos,aR.e];refine ck [ae 0,aJ 1,ae 3,ae 7,ae 15,aJ 31,ae 15,aJ 79,ae 255,ae 511,ae 1023,ae 2047,ae 2047,aJ 6143,ae 16383,aJ 32767,ae 2047,aJ 67583,ae 2047,aJ 264191,ae 985087,ae 2033663,aJ 4130815,ae 8325119,ae 16777215,ae 33554431,ae 67108863] (by kernel_rfl) 0 rfl ?_;simp(disch:=omega)[go_sem,ai.e,bj.e,a0,a1,hs,c0,hc,-getElem?_pos,aR.e,Sym.e,IS]
end Go.Sp
end
noncomputable section
open Go Go.aw Go.Proofs
namespace Go.Sp
set_option maxRecDepth 100000
def tD(g:ai)(f:bj):Prop:=
 (f.kind=1/\f.left=0/\f.token=0/\f.ar=[]/\tC g f)\/(f.kind=2/\f.left=0/\f.token=0/\f.ar=[]/\tC g f)\/
 (f.kind=3/\f.parent=0/\f.at_=0/\f.child=0/\f.token=0/\0<=f.left/\f.left<g.aH.length/\nK g (λt=>t.cls=0) f.ar)\/
 (f.kind=4/\f.parent=0/\f.at_=0/\f.child=0/\f.token=0/\0<=f.left/\f.left<g.aH.length/\nK g (λt=>t.cls=0) f.ar)\/
 (f.kind=5/\f.parent=0/\f.at_=0/\f.child=0/\f.left=0/\0<=f.token/\∃t,g.ar[f.token.toNat]? =some t/\t.cls=0/\t.lit=⟨#[]⟩/\nK g (λt=>t.lit≠⟨#[]⟩) f.ar)
structure I7(g:ai):Prop where
 len:g.bp.length<=4096
 ok:∀f∈g.bp,lK g.conds.length f.cond/\tD g f
set_option maxHeartbeats 4000000 in
theorem acp(g:ai)(hg:I7 g):ax E true 108 [.agg g.e] (iV 0):=by
 have hlen:=hg.len;refine bc Wv rfl Tryz.ntmps108 Tryz.results108 λN=> ?_;simp(disch:=omega)[go_sem,ai.e];obtain⟨I,hI⟩:∃I:Nat->DS->Prop,∀j d,I j d↔∃(k P:Nat),j+k=g.bp.length/\N<P/\d=⟨bQ [(1,.v (.pointer (some ⟨N,0,none⟩))),(3,.fn 149 [] []),(4,.fn 150 [] []),(10,.sl 9 (g.bp.map bj.e)),(11,iV g.bp.length),(12,iV k)],147,[],cK P [(N,.row g.e true 0)]⟩:=⟨_,λ_ _=>Iff.rfl⟩;refine cx I g.bp.length ⟨_,aA.mk (N:=N+1) ?_ ?_ ?_,(hI _ _).2 ⟨0,N+1,rfl,by omega,rfl⟩⟩ ?_
 . simp(disch:=omega)[go_sem]
 . simp(disch:=omega)[go_sem]
 . simp(disch:=omega)[go_sem,ai.e]
 . intro j ds ay;obtain⟨k,P,hj,hP,rfl⟩:=(hI _ _).1 ay;clear ay;by_cases aC:k<g.bp.length
   . have af:(k:Int)<g.bp.length:=by omega
     obtain⟨x,az⟩:∃x,g.bp[k]? =some x:=⟨_,List.getElem?_eq_getElem aC⟩;obtain⟨⟨c,aE,aF⟩,hk⟩:=hg.ok x (List.mem_of_getElem? az);have ao:=xw c g.conds.length aF;rw[<-aE]at ao;simp only[Dg.e]at ao;simp(disch:=omega)[go_sem,af,az,-getElem?_pos,bj.e,ai.e];refine aq.mk ao λM hM=> ?_;simp(disch:=omega)[go_sem]at hM;simp(disch:=omega)[go_sem];rcases hk with⟨ad,hk⟩|⟨ad,hk⟩|⟨ad,hk⟩|⟨ad,hk⟩|⟨ad,hk⟩
     . obtain⟨z1,z2,z3,hp⟩:=hk;have aa:=I6 g x hp;simp(disch:=omega)[go_sem,ad,ai.e,bj.e]at aa⊢;refine aq.mk aa λM2 ae=> ?_;simp(disch:=omega)[go_sem]at ae;simp(disch:=omega)[go_sem,aD,z1,z2,z3,ad];refine⟨j-1,by omega,_,aA.mk (N:=M2) ?_ ?_ ?_,(hI _ _).2 ⟨k+1,M2,by omega,by omega,rfl⟩⟩
       . simp(disch:=omega)[go_sem]
       . simp(disch:=omega)[go_sem,bj.e]
       . simp(disch:=omega)[go_sem,ai.e]
     . obtain⟨z1,z2,z3,hp⟩:=hk;have aa:=I6 g x hp;simp(disch:=omega)[go_sem,ad,ai.e,bj.e]at aa⊢;refine aq.mk aa λM2 ae=> ?_;simp(disch:=omega)[go_sem]at ae;simp(disch:=omega)[go_sem,aD,z1,z2,z3,ad];refine⟨j-1,by omega,_,aA.mk (N:=M2) ?_ ?_ ?_,(hI _ _).2 ⟨k+1,M2,by omega,by omega,rfl⟩⟩
       . simp(disch:=omega)[go_sem]
       . simp(disch:=omega)[go_sem,bj.e]
       . simp(disch:=omega)[go_sem,ai.e]
     . obtain⟨z1,z2,z3,z4,z5,z6,z7⟩:=hk;have ab:=De g (λt=>t.cls=0) 149 Dd x.ar z7;simp(disch:=omega)[go_sem,ad,ai.e,bj.e,z5,z6]at ab⊢;refine aq.mk ab λM2 ae=> ?_;simp(disch:=omega)[go_sem]at ae;simp(disch:=omega)[go_sem,aD,z1,z2,z3,z4,ad];refine⟨j-1,by omega,_,aA.mk (N:=M2) ?_ ?_ ?_,(hI _ _).2 ⟨k+1,M2,by omega,by omega,rfl⟩⟩
       . simp(disch:=omega)[go_sem]
       . simp(disch:=omega)[go_sem,bj.e]
       . simp(disch:=omega)[go_sem,ai.e]
     . obtain⟨z1,z2,z3,z4,z5,z6,z7⟩:=hk;have ab:=De g (λt=>t.cls=0) 149 Dd x.ar z7;simp(disch:=omega)[go_sem,ad,ai.e,bj.e,z5,z6]at ab⊢;refine aq.mk ab λM2 ae=> ?_;simp(disch:=omega)[go_sem]at ae;simp(disch:=omega)[go_sem,aD,z1,z2,z3,z4,ad];refine⟨j-1,by omega,_,aA.mk (N:=M2) ?_ ?_ ?_,(hI _ _).2 ⟨k+1,M2,by omega,by omega,rfl⟩⟩
       . simp(disch:=omega)[go_sem]
       . simp(disch:=omega)[go_sem,bj.e]
       . simp(disch:=omega)[go_sem,ai.e]
     . obtain⟨z1,z2,z3,z4,z5,t,z6,z7,z8,z9⟩:=hk;have ab:=De g (λt=>t.lit≠⟨#[]⟩) 150 (λt ht=>by have:=I5 t;rwa[decide_eq_false ht]at this) x.ar z9;have av:=Dd t z7;have au:=I5 t;rw[decide_eq_true z8]at au;have aB:fy (some (some 7)) t.e 0=some (.agg t.e):=vg rfl;have hl:x.token<g.ar.length:=by have:=(List.getElem?_eq_some_iff.1 z6).1;omega
       simp(disch:=omega)[go_sem,ad,ai.e,bj.e]at ab⊢;refine aq.mk ab λM2 ae=> ?_;simp(disch:=omega)[go_sem]at ae;simp(disch:=omega)[go_sem,z5,hl,z6,aB,-getElem?_pos];refine aq.mk av λM3 aI=> ?_;simp(disch:=omega)[go_sem]at aI;simp(disch:=omega)[go_sem,z5,hl,z6,aB,-getElem?_pos];refine aq.mk au λM4 aJ=> ?_;simp(disch:=omega)[go_sem]at aJ;simp(disch:=omega)[go_sem,aD,z1,z2,z3,z4,ad];refine⟨j-1,by omega,_,aA.mk (N:=M4) ?_ ?_ ?_,(hI _ _).2 ⟨k+1,M4,by omega,by omega,rfl⟩⟩
       . simp(disch:=omega)[go_sem]
       . simp(disch:=omega)[go_sem,bj.e]
       . simp(disch:=omega)[go_sem,ai.e]
   . have af:¬(k:Int)<g.bp.length:=by omega
     simp(disch:=omega)[go_sem,af,ai.e]
end Go.Sp
end
noncomputable section
open Go Go.aw Go.Proofs
namespace Go.Sp
set_option maxRecDepth 100000
def I8(t:Tok):Prop:=(t.lit≠⟨#[]⟩/\t.pat=[]/\t.jo=⟨#[]⟩)\/(t.lit=⟨#[]⟩/\ax E true 62 [.sl 5 (t.pat.map aY.e)] (iV 0)/\
 ((t.cls=0/\t.jo≠⟨#[]⟩/\ax E true 32 [.sl 5 (t.pat.map aY.e),sV t.jo] (bV true))\/(t.cls≠0/\t.jo=⟨#[]⟩)))
structure Df(g:ai):Prop where
 new:nI (g.ar.map (·.name))
 len:g.ar.length<=256
 ok:∀t∈g.ar,0<=t.cls/\t.cls<=2/\lK g.conds.length t.cond/\I8 t
set_option maxHeartbeats 4000000 in
theorem acq(g:ai)(hg:Df g):ax E true 104 [.agg g.e] (iV 0):=by
 have hn:=hg.new;have hlen:=hg.len;refine bc Wr rfl Tryz.ntmps104 Tryz.results104 λN=> ?_;simp(disch:=omega)[go_sem,ai.e];refine zx λes clock h' T hs e1 e2 e3 e4=> ?_;simp(disch:=omega)[go_sem]at e1 e2 e3 e4;simp(disch:=omega)[go_sem,e1,e2,e3,e4];obtain⟨I,hI⟩:∃I:Nat->DS->Prop,∀j d,I j d↔∃(k P:Nat) (es:List bA) (clock:Nat),j+k=g.ar.length/\tx es (mN ((g.ar.map (·.name)).take k))/\N+2<P/\d=⟨bQ [(1,.v (.pointer (some ⟨N,0,none⟩))),(3,.fn 165 [] [.v (.pointer (some ⟨N+1+1,0,none⟩))]),(9,.sl 7 (g.ar.map Tok.e)),(10,iV g.ar.length),(11,iV k)],74,[],cK P [(N,.row g.e true 0),(N+1,.map es clock),(N+1+1,.row [.v (.map (some (N+1)))] true 0)]⟩:=⟨_,λ_ _=>Iff.rfl⟩;refine cx I g.ar.length ⟨_,aA.mk (N:=N+3) ?_ ?_ ?_,(hI _ _).2 ⟨0,N+3,es,clock,rfl,hs,by omega,rfl⟩⟩ ?_
 . simp(disch:=omega)[go_sem,e1]
 . simp(disch:=omega)[go_sem]
 . simp(disch:=omega)[go_sem,e2,e3,e4,ai.e]
 . intro j ds af;obtain⟨k,P,es,clock,hj,hs,hP,rfl⟩:=(hI _ _).1 af;clear af;by_cases az:k<g.ar.length
   . have ab:(k:Int)<g.ar.length:=by omega
     obtain⟨t,au⟩:∃t,g.ar[k]? =some t:=⟨_,List.getElem?_eq_getElem az⟩;obtain⟨k0,k1,⟨c,aB,aC⟩,hk⟩:=hg.ok t (List.mem_of_getElem? au);have ad:=xw c g.conds.length aC;rw[<-aB]at ad;have aE:(g.ar.map (·.name))[k]? =some t.name:=by rw[List.getElem?_map,au];rfl
     obtain⟨ha,hp⟩:=hn.at aE;have d1:¬t.cls<0:=by omega
     have d2:¬2<t.cls:=by omega
     simp only[Dg.e]at ad;simp(disch:=omega)[go_sem,ab,au,-getElem?_pos,Tok.e];refine zt (b:=N+1+1) (r:=N+1) (wr:=true) (ah:=0) (es:=es) (clock:=clock) (by simp(disch:=omega)[go_sem]) (by simp(disch:=omega)[go_sem]) hs ha λav aa T ao=> ?_;rw[hp]at ao;simp(disch:=omega)[go_sem,d1,d2,ai.e];refine aq.mk ad λM hM=> ?_;simp(disch:=omega)[go_sem]at hM;rcases hk with⟨h1,h2,h3⟩|⟨h1,h2,⟨h3,h4,h5⟩|⟨h3,h4⟩⟩
     . simp(disch:=omega)[go_sem,h1,h2,h3,aD];refine⟨j-1,by omega,_,aA.mk (N:=M) ?_ ?_ ?_,(hI _ _).2 ⟨k+1,M,av,aa,by omega,ao,by omega,rfl⟩⟩
       . simp(disch:=omega)[go_sem]
       . simp(disch:=omega)[go_sem,Tok.e]
       . simp(disch:=omega)[go_sem,ai.e]
     . simp(disch:=omega)[go_sem,h1,h4];refine aq.mk h2 λM2 ay=> ?_;simp(disch:=omega)[go_sem]at ay;simp(disch:=omega)[go_sem,h3];refine aq.mk h5 λM3 aF=> ?_;simp(disch:=omega)[go_sem]at aF;simp(disch:=omega)[go_sem,aD];refine⟨j-1,by omega,_,aA.mk (N:=M3) ?_ ?_ ?_,(hI _ _).2 ⟨k+1,M3,av,aa,by omega,ao,by omega,rfl⟩⟩
       . simp(disch:=omega)[go_sem]
       . simp(disch:=omega)[go_sem,Tok.e]
       . simp(disch:=omega)[go_sem,ai.e]
     . simp(disch:=omega)[go_sem,h1,h4];refine aq.mk h2 λM2 ay=> ?_;simp(disch:=omega)[go_sem]at ay;simp(disch:=omega)[go_sem,h3,aD];refine⟨j-1,by omega,_,aA.mk (N:=M2) ?_ ?_ ?_,(hI _ _).2 ⟨k+1,M2,av,aa,by omega,ao,by omega,rfl⟩⟩
       . simp(disch:=omega)[go_sem]
       . simp(disch:=omega)[go_sem,Tok.e]
       . simp(disch:=omega)[go_sem,ai.e]
   . have ab:¬(k:Int)<g.ar.length:=by omega
     simp(disch:=omega)[go_sem,ab,ai.e]
structure GV(g:ai):Prop where
 size:IM g
 c9:xy g
 ar:Df g
 aH:nI g.aH/\0<=g.start/\g.start<g.aH.length
 ak:IX g
 bd:I4 g
 bp:I7 g
set_option maxHeartbeats 4000000 in
theorem I9(g:ai)(hg:GV g):ax E true 60 [.agg g.e] (iV 0):=by
 have h0:=abY g hg.size;have h1:=abU g hg.c9;have h2:=acq g hg.ar;have h3:=abT g hg.aH.1 hg.aH.2.1 hg.aH.2.2 hg.size.aH;have h4:=ack g hg.ak;have h5:=aco g hg.bd;have h6:=acp g hg.bp;simp only[ai.e]at h0 h1 h2 h3 h4 h5 h6;refine bc VX rfl Tryz.ntmps60 Tryz.results60 λN=> ?_;simp(disch:=omega)[go_sem,ai.e];refine aq.mk h0 λM hM=> ?_;simp(disch:=omega)[go_sem]at hM;simp(disch:=omega)[go_sem];obtain⟨I,hI⟩:∃I:Nat->DS->Prop,∀j d,I j d↔∃(k P:Nat),j+k=6/\M<P/\d=⟨bQ [(1,.v (.pointer (some ⟨N,0,none⟩))),(10,.v (.slice (some ⟨M,0,none⟩) 6 6)),(11,iV 6),(12,iV k)],23,[],cK P [(N,.row g.e true 0),(M,.row [.fn 103 [] [],.fn 104 [] [],.fn 105 [] [],.fn 106 [] [],.fn 107 [] [],.fn 108 [] []] true 0)]⟩:=⟨_,λ_ _=>Iff.rfl⟩;refine cx I 6 ⟨_,aA.mk (N:=M+1) ?_ ?_ ?_,(hI _ _).2 ⟨0,M+1,rfl,by omega,rfl⟩⟩ ?_
 . simp(disch:=omega)[go_sem]
 . simp(disch:=omega)[go_sem]
 . simp(disch:=omega)[go_sem,ai.e]
 . intro j ds af;obtain⟨k,P,hj,hP,rfl⟩:=(hI _ _).1 af;clear af;by_cases az:k<6
   . have hk:k=0\/k=1\/k=2\/k=3\/k=4\/k=5:=by omega
     rcases hk with rfl|rfl|rfl|rfl|rfl|rfl
     all_goals
      simp(disch:=omega)[go_sem,ai.e]
      first|refine aq.mk h1 λP2 ae=> ?_|refine aq.mk h2 λP2 ae=> ?_|refine aq.mk h3 λP2 ae=> ?_|refine aq.mk h4 λP2 ae=> ?_|refine aq.mk h5 λP2 ae=> ?_|refine aq.mk h6 λP2 ae=> ?_
      simp(disch:=omega)[go_sem]at ae;simp(disch:=omega)[go_sem,aD];refine⟨j-1,by omega,_,aA.mk (N:=P2) ?_ ?_ ?_,(hI _ _).2 ⟨6-(j-1),P2,by omega,by omega,rfl⟩⟩
      . simp(disch:=omega)[go_sem]
      . simp(disch:=omega)[go_sem]<;>omega
      . simp(disch:=omega)[go_sem,ai.e]
   . have hk:k=6:=by omega
     subst hk;simp(disch:=omega)[go_sem,ai.e]
end Go.Sp
end
noncomputable section
open Go Go.aw Go.Proofs
namespace Go.Sp
set_option maxRecDepth 100000
def rK(h':aa):Nat->Nat->Tr bK->Tr bK
 |0,_,m=>m
 |k+1,i,m=>match h'.get i with
  |some o=>rK h' k (i+1) (m.set i (some o))
  |none=>rK h' k (i+1) m
def ql(h h':aa):aa:=⟨rK h' (h'.next-h.next) h.next h.m,h'.next⟩
theorem xE(h':aa)(j:Nat):∀(k i:Nat) (m:Tr bK),(rK h' k i m).get j=if i<=j/\j<i+k then(match h'.get j with|some o=>some o|none=>m.get j)else m.get j
 |0,i,m=>by rw[if_neg (by omega)];rfl
 |k+1,i,m=>by
  simp only[rK];cases hq:h'.get i with
  |none=>
   simp only;rw[xE h' j k (i+1) m];by_cases hj:j=i
   . subst hj;rw[if_neg (by omega),if_pos (by omega),hq]
   . by_cases h2:i+1<=j/\j<i+1+k
     . rw[if_pos h2,if_pos (by omega)]
     . rw[if_neg h2,if_neg (by omega)]
  |some o=>
   simp only;rw[xE h' j k (i+1)];by_cases hj:j=i
   . subst hj;rw[if_neg (by omega),if_pos (by omega),hq,Tr.bw,if_pos rfl]
   . by_cases h2:i+1<=j/\j<i+1+k
     . rw[if_pos h2,if_pos (by omega),Tr.bw,if_neg hj]
     . rw[if_neg h2,if_neg (by omega),Tr.bw,if_neg hj]
theorem ac2(h h':aa)(j:Nat)(hj:j<h.next):(ql h h').get j=h.get j:=by
 show(rK h' _ _ h.m).get j=_;rw[xE,if_neg (by omega)];rfl
theorem ac3(h h':aa)(j:Nat)(o:bK)(hj:h.next<=j)(h2:j<h'.next)(ho:h'.get j=some o):(ql h h').get j=some o:=by
 show(rK h' _ _ h.m).get j=_;rw[xE,if_pos (by omega),ho]
theorem ac4(h h':aa)(hs:Sub h h')(hn:∀i o,h.get i=some o->i<h.next):∀i o,(ql h h').get i=some o->h'.get i=some o:=λi o ho=>by
 have ho:(rK h' _ _ h.m).get i=some o:=ho;rw[xE]at ho;have key:h.m.get i=some o->h'.get i=some o:=λhq=>hs.get i o (hn i o hq) hq
 split at ho
 . split at ho
   . rename_i o' hq;cases ho;exact hq
   . exact key ho
 . exact key ho
theorem ac5{f:FuncId}{args:List Value}{h:aa}{v:Value}{h1:aa}(hr:bS E f args h v h1)(hs:Sub h h1):bS E f args h v (ql h h1):=by
 by_cases hn:∀i o,h.get i=some o->i<h.next
 . exact hr.drop (ac4 h h1 hs hn) (Nat.le_refl _)
 . refine⟨hr.1,λρ w vs hg hv hw=>absurd (λi o ho=> ?_) hn⟩;obtain⟨pl,h2,_⟩:=hw.obj i o ho;exact hw.iw i pl h2
def mR(x:Br):Int×Int×Int:=(x.1,x.2.1,x.2.2)
def rv(c:Nat):Nat:=code λρ=>c.testBit (idx ρ)
theorem ac6:((List.range 256).all λc=>decide (rv c<256)&&decide ((eR (rv c)).2.2.map mR=(aF c).nodes)&&decide (((eR (rv c)).1:Int)=(aF c).root))=true:=by kernel_rfl
theorem vw{c:Nat}(hc:c<256):rv c<256/\(eR (rv c)).2.2.map mR=(aF c).nodes/\((eR (rv c)).1:Int)=(aF c).root:=by
 have:=List.all_eq_true.1 ac6 c (by simpa using hc);simpa[and_assoc]using this
theorem Jq{h:aa}{G:Nat->Prop}(hG:∀i,G i->i<h.next){v:Value}{N:List Br}(hv:Rel (aI h G) v (.sl 3 ((N.map mR).map de))):kO 3 h v (N.map dJ):=by
 generalize hx:(N.map mR).map de=xs at hv;cases hv with
 |kQ _=>
  have:N=[]:=by cases N<;>simp at hx⊢
  subst this;exact .inl ⟨rfl,_,_,rfl⟩
 | @sl b o c k ah cs _ q1 q2 q3 q4 q5 q6 q7=>
  obtain⟨g1,wr,g2⟩:=qX q1;have hlen:xs.length=(N.map dJ).length:=by rw[<-hx];simp
  refine .inr ⟨b,o,c,by rw[hlen],hG _ g1,λj x hj i u hi=> ?_⟩;rw[List.getElem?_map,Option.map_eq_some_iff]at hj;obtain⟨y,hy,rfl⟩:=hj;have e1:xs[j]? =some ((dJ y).map .v):=by
   rw[<-hx,List.getElem?_map,List.getElem?_map,hy];rfl
  have aB:=(List.getElem?_eq_some_iff.1 e1).1;have aQ:i<3:=by have:=(List.getElem?_eq_some_iff.1 hi).1;simpa[dJ]using this
  have ao:o+j*3+i<cs.length:=by
   have:(j+1)*3<=xs.length*3:=Nat.mul_le_mul_right _ aB;omega
  have e2:cs[o+j*3+i]? =some cs[o+j*3+i]:=List.getElem?_eq_getElem ao;have:=q7 j _ i _ (.v u) e1 (by rw[List.getElem?_map,hi];rfl) e2;rw[this.cW]at e2;exact cZ g2|>.trans e2
theorem ac7(cs:List Br)(j i:Nat)(x:Br)(u:Value)(hx:cs[j]? =some x)(hu:(dJ x)[i]? =some u):(cs.flatMap dJ)[j*3+i]? =some u:=by
 induction cs generalizing j with
 |nil=>simp at hx
 |cons y cs ih=>
  rw[List.flatMap_cons];cases j with
  |zero=>
   simp only[List.getElem?_cons_zero,Option.some.injEq]at hx;subst hx;have:=(List.getElem?_eq_some_iff.1 hu).1;rw[List.getElem?_append_left (by omega)];simpa using hu
  |succ j=>
   have hl:(dJ y).length=3:=rfl;rw[List.getElem?_append_right (by rw[hl,Nat.add_mul];omega),hl];have:=ih j (by simpa using hx);rw[<-this];congr 1;rw[Nat.add_mul];omega
theorem ac8(cs:List Br):(cs.flatMap dJ).length=cs.length*3:=by
 induction cs with
 |nil=>rfl
 |cons y cs ih=>rw[List.flatMap_cons,List.length_append,ih,List.length_cons,Nat.add_mul];simp[dJ];omega
theorem ac9{h H:aa}{G:Nat->Prop}{sl:Value}{cs:List Br}(hs:vu h.next H sl cs):Rel (aI (ql h H) (s8 G h (ql h H))) sl (.sl 3 ((cs.map mR).map de)):=by
 rcases hs with⟨rfl,rfl⟩|⟨_,b,rfl,h1,h2,h3⟩
 . exact .kQ (by decide)
 . have e:((cs.map mR).map de).length=cs.length:=by simp
   have hg:aI (ql h H) (s8 G h (ql h H)) b=some (cs.flatMap dJ,3):=sW (.inr ⟨h2,h3⟩) (ac3 h H b _ h2 h3 h1);rw[show(Value.slice (some ⟨b,0,none⟩) cs.length cs.length)=.slice (some ⟨b,0,none⟩) ((cs.map mR).map de).length cs.length by rw[e]];refine .sl hg (.inr rfl) (by decide) (by rw[e];exact Nat.le_refl _) (λx hx=> ?_) (by rw[e,ac8];omega) λj x i v d e1 e2 e3=> ?_
   . obtain⟨y,hy,rfl⟩:=List.mem_map.1 hx;rfl
   . rw[List.map_map,List.getElem?_map,Option.map_eq_some_iff]at e1;obtain⟨y,hy,rfl⟩:=e1;have e2:((dJ y).map DV.v)[i]? =some d:=e2;rw[List.getElem?_map,Option.map_eq_some_iff]at e2;obtain⟨u,hu,rfl⟩:=e2;rw[Nat.zero_add,ac7 cs j i y u hy hu]at e3;cases e3;exact .v _
def xF(c:Nat):List DV:=[.sl 3 ((aF c).nodes.map de),iV (aF c).root]
theorem ada(c:Nat):(aF c).e=xF c:=rfl
theorem DA{R:Go.aw.Rows}{v:Value}{n:Int}(h:Rel R v (iV n)):v=.int .i64 n:=h.cW
theorem zO{c:Nat}(hc:c<256)(ρ:dx):tb (eR (rv c)).2.2 (eR (rv c)).1 ρ=c.testBit (idx ρ):=by
 rw[(Dz (vw hc).1).set ρ];unfold xD rv;have hi:=Dv ρ;have:=Jl (λρ=>c.testBit (idx ρ)) (idx ρ) hi;rw[this];congr 1;show idx (bT (idx ρ))=idx ρ;unfold idx;cases ρ 0<;>cases ρ 1<;>cases ρ 2<;>rfl
theorem adb{fo:FuncId}{ad:Bool->Bool->Bool}(au:∀H x y,bS E fo [.bool x,.bool y] H (.bool (ad x y)) H){b o:Nat}{H:aa}(hb:rd H b o=some (.func (.func fo) #[] #[]))(x y z:Bool):
 bS E 162 ([.bool x,.bool y,.bool z]++[.pointer (some ⟨b,o,none⟩)]) H (.bool (ad x y)) H:=by
 refine mB W9 rfl Tryz.ntmps162 Tryz.results162 rfl ?_;simp(disch:=omega)[go_sem,hb];refine KC.mk (au H x y) ?_;simp(disch:=omega)[go_sem]
theorem ade(a b r:Nat)(ha:a<256)(hb:b<256)(hr:r<256){fo:FuncId}{ad:Bool->Bool->Bool}(au:∀H x y,bS E fo [.bool x,.bool y] H (.bool (ad x y)) H)(aD:∀i,i<8->r.testBit i=ad (a.testBit i) (b.testBit i)):
 ax E true 161 [.agg (xF a++xF b++[eN,iV 0]),.fn 162 [] [.ptr [.fn fo [] []] 0]] (.agg (aF r).e):=by
 intro G h args ⟨hG,_⟩ ae;obtain⟨va,vf,rfl⟩:∃va vf,args=[va,vf]:=by
  have:=ae.length
  match args,this with
  |[va,vf],_=>exact⟨va,vf,rfl⟩
 obtain⟨aE,aJ⟩:Rel (aI h G) va _/\Rel (aI h G) vf _:=by cases ae with|cons h1 h2=>cases h2 with|cons h2 h3=>exact⟨h1,h2⟩
 obtain⟨cells,rfl,hc⟩:=aE.qI;obtain⟨c0,c1,c2,c3,c4,c5,ay⟩:∃c0 c1 c2 c3 c4 c5,cells.toList=[c0,c1,c2,c3,c4,c5]:=by
  have:=hc.length
  match cells.toList,this with
  |[c0,c1,c2,c3,c4,c5],_=>exact⟨_,_,_,_,_,_,rfl⟩
 rw[ay]at hc;obtain⟨q0,q1,q2,q3,q4,q5⟩:Rel (aI h G) c0 (.sl 3 ((aF a).nodes.map de))/\Rel (aI h G) c1 (iV (aF a).root)/\Rel (aI h G) c2 (.sl 3 ((aF b).nodes.map de))/\Rel (aI h G) c3 (iV (aF b).root)/\Rel (aI h G) c4 eN/\Rel (aI h G) c5 (iV 0):=by
  cases hc with
  |cons h0 hc=>cases hc with
   |cons h1 hc=>cases hc with
    |cons h2 hc=>cases hc with
     |cons h3 hc=>cases hc with
      |cons h4 hc=>cases hc with
       |cons h5 hc=>exact⟨h0,h1,h2,h3,h4,h5⟩
 obtain⟨a1,a2,a3⟩:=vw ha;obtain⟨b1,b2,b3⟩:=vw hb;obtain⟨r1,r2,r3⟩:=vw hr;have ka:=Dz a1;have kb:=Dz b1;have:=q4.cW;subst this;have:=DA q5;subst this;have e1:c1=.int .i64 ((eR (rv a)).1:Int):=by rw[a3];exact DA q1
 have e3:c3=.int .i64 ((eR (rv b)).1:Int):=by rw[b3];exact DA q3
 subst e1;subst e3;rw[<-a2]at q0;rw[<-b2]at q2;obtain⟨fa,fc,rfl,f1,f2⟩:=aJ.wI;have aL:fa=#[]:=by have:=f1.length;apply Array.ext';simpa using this
 subst aL;obtain⟨p,aN,hp⟩:∃p,fc.toList=[p]/\Rel (aI h G) p (.ptr [.fn fo [] []] 0):=by
  have:=f2.length
  match hl:fc.toList,this with
  |[p],_=>rw[hl]at f2;cases f2 with|cons h1 h2=>exact⟨p,rfl,h1⟩
 obtain⟨pb,po,ah,cs,rfl,aO,az⟩:∃pb po ah cs,p=.pointer (some ⟨pb,po,none⟩)/\aI h G pb=some (cs,ah)/\cs[po]? =some (.func (.func fo) #[] #[]):=by
  cases hp with
  | @ptr b o off ah cs xs h1 h2 h3=>
   have hl:o<cs.length:=by simp at h2;omega
   have hq:cs[o+0]? =some cs[o]:=List.getElem?_eq_getElem hl;have:=h3 0 _ _ rfl hq;obtain⟨a',c',e,g1,g2⟩:=this.wI;have ea:a'=#[]:=by have:=g1.length;apply Array.ext';simpa using this
   have ec:c'=#[]:=by have:=g2.length;apply Array.ext';simpa using this
   subst ea;subst ec;rw[e]at hq;exact⟨b,o,ah,cs,rfl,h1,by simpa using hq⟩
 obtain⟨gG,wr,af⟩:=qX aO;have aR:rd h pb po=some (.func (.func fo) #[] #[]):=(cZ af).trans az;have ab:cells=#[c0,.int .i64 ((eR (rv a)).1:Int),c2,.int .i64 ((eR (rv b)).1:Int),.slice none 0 0,.int .i64 0]:=by apply Array.ext';simpa using ay
 have av:fc=#[.pointer (some ⟨pb,po,none⟩)]:=by apply Array.ext';simpa using aN
 subst ab;subst av;obtain⟨v,H,w1,⟨sl,N,n,rfl,w2,w3,w4,w5,w6⟩,w7⟩:=acV (h:=h) (d0:=⟨c0,(eR (rv a)).2.2,(eR (rv a)).1⟩) (d1:=⟨c2,(eR (rv b)).2.2,(eR (rv b)).1⟩) (d2:=⟨.slice none 0 0,[],0⟩)
  ⟨Jq hG q0,ka.ok,ka.v3,by have:=ka.len;simp only;omega⟩ ⟨Jq hG q2,kb.ok,kb.v3,by have:=kb.len;simp only;omega⟩ ⟨.inl ⟨rfl,_,_,rfl⟩,⟨λk x hx=>by simp at hx,by simp⟩,λx hx=>by simp at hx,by simp⟩ ka.rl kb.rl (by simp)
  (fo:=162) (cap:=[.pointer (some ⟨pb,po,none⟩)]) (op:=λx y _=>ad x y) (λH hs x y z=>adb au (by
   have:=hs.get pb _ (hG _ gG) af;exact(cZ this).trans az) x y z)
 have hN:=acY w3 w4 w5;have ai:code (tb N n)=rv r:=by
  unfold rv;congr 1
  funext ρ
  rw[w6 ρ,zO ha,zO hb];exact(aD _ (Dv ρ)).symm
 rw[ai]at hN;rw[hN.2]at w2;rw[hN.1]at w1;refine⟨_,ql h H,ac5 w1 w7,Nat.le_trans w7.next (Nat.le_refl _),λi hi=>ac2 h H i hi, ?_⟩;rw[ada,xF,<-r2,<-r3];refine Rel.dV (a:=[sl,.int .i64 ((eR (rv r)).1:Int)]) ?_;exact .cons (ac9 w2) (.cons (.v _) .nil)
end Go.Sp
end
noncomputable section
open Go Go.aw Go.Proofs
namespace Go.Sp
set_option maxRecDepth 100000
theorem adf(H:aa)(x y:Bool):bS E 135 [.bool x,.bool y] H (.bool (x&&y)) H:=by
 refine mB WM rfl Tryz.ntmps135 Tryz.results135 rfl ?_;cases x<;>simp(disch:=omega)[go_sem]
theorem adg(H:aa)(x y:Bool):bS E 138 [.bool x,.bool y] H (.bool (x||y)) H:=by
 refine mB WS rfl Tryz.ntmps138 Tryz.results138 rfl ?_;cases x<;>simp(disch:=omega)[go_sem]
theorem adh(l:List Nat)(hl:∀c∈l,c<256)(hlen:l.length<=1000):ax E true 159 [.sl 2 (l.map λc=>(aF c).e)] (iV 0):=by
 refine bc W6 rfl Tryz.ntmps159 Tryz.results159 λN=> ?_;simp(disch:=omega)[go_sem];obtain⟨I,hI⟩:∃I:Nat->DS->Prop,∀j d,I j d↔∃(k P:Nat),j+k=l.length/\d=⟨bQ [(6,.sl 2 (l.map λc=>(aF c).e)),(7,iV l.length),(8,iV k)],18,[],cK P []⟩:=⟨_,λ_ _=>Iff.rfl⟩;refine cx I l.length ⟨_,aA.mk (N:=N) ?_ ?_ ?_,(hI _ _).2 ⟨0,N,rfl,rfl⟩⟩ ?_
 . simp(disch:=omega)[go_sem]
 . simp(disch:=omega)[go_sem,Dg.e]
 . simp(disch:=omega)[go_sem]
 . intro j ds ad;obtain⟨k,P,hj,rfl⟩:=(hI _ _).1 ad;clear ad;by_cases af:k<l.length
   . have ab:(k:Int)<l.length:=by omega
     obtain⟨c,hc⟩:∃c,l[k]? =some c:=⟨_,List.getElem?_eq_getElem af⟩;have ai:=hl c (List.mem_of_getElem? hc);have hk:=CZ c ai;generalize hd:aF c=d at hk;simp(disch:=omega)[go_sem,ab,hc,-getElem?_pos,hd,Dg.e];refine aq.mk hk λP2 ao=> ?_;simp(disch:=omega)[go_sem]at ao;simp(disch:=omega)[go_sem,aD];refine⟨j-1,by omega,_,aA.mk (N:=P2) ?_ ?_ ?_,(hI _ _).2 ⟨k+1,P2,by omega,rfl⟩⟩
     . simp(disch:=omega)[go_sem]
     . simp(disch:=omega)[go_sem,Dg.e]
     . simp(disch:=omega)[go_sem]
   . have ab:¬(k:Int)<l.length:=by omega
     simp(disch:=omega)[go_sem,ab]
theorem adi(c:Nat)(hc:c<256):ax E true 160 [.agg (aF c).e] (.bg [.agg (aF c).e,iV 0]):=by
 have hl:(aF c).nodes.length<=4096:=by
  have h:((List.range 256).all λc=>decide ((aF c).nodes.length<=4096))=true:=by kernel_rfl
  simpa using List.all_eq_true.1 h c (by simpa using hc)
 generalize aF c=d at*;refine bc W7 rfl Tryz.ntmps160 Tryz.results160 λN=> ?_;have h2:¬(4096:Int)<d.nodes.length:=by omega
 have h3:¬4096<d.nodes.length:=by omega
 simp(disch:=omega)[go_sem,Dg.e,h2,h3]
theorem Jr(a b r:Nat)(ha:a<256)(hb:b<256)(hr:r<256){fo:FuncId}{ae:Bool->Bool->Bool}(au:∀H x y,bS E fo [.bool x,.bool y] H (.bool (ae x y)) H)(av:∀i,i<8->r.testBit i=ae (a.testBit i) (b.testBit i)):
 ax E true 134 [.agg (aF a).e,.agg (aF b).e,.fn fo [] []] (.bg [.agg (aF r).e,iV 0]):=by
 have h1:=adh [a,b] (by simp[ha,hb]) (by simp);have h2:=ade a b r ha hb hr au av;have h3:=adi r hr;simp only[List.map_cons,List.map_nil]at h1;simp only[xF,Dg.e,List.cons_append,List.nil_append]at h1 h2 h3⊢;generalize aF a=A at*;generalize aF b=B at*;generalize aF r=R at*;refine bc WL rfl Tryz.ntmps134 Tryz.results134 λN=> ?_;simp(disch:=omega)[go_sem];refine aq.pl h1 (.cons (eO (ah:=0) (cN (wr:=true) (by simp(disch:=omega)[go_sem])) (.inl rfl) (by decide) rfl (Nat.le_refl _) (by simp)) .nil) λM hM=> ?_;simp(disch:=omega)[go_sem]at hM;simp(disch:=omega)[go_sem];refine aq.fz h2 [N+1+1] ?_ (.cons (.refl _) (.cons (.fn rfl (λi v d h1 h2=>by simp at h1) rfl (λi v d h1 h2=> ?_)) .nil)) λM2 ay=> ?_
 . simp(disch:=omega)[go_sem]
 . cases i with
   |succ i=>simp at h1
   |zero=>
    simp only[List.getElem?_cons_zero,Option.some.injEq]at h1 h2;subst h1;subst h2;exact .ptr (o:=0) (off:=0) (ah:=0) (hY (wr:=true) (by simp) (by simp(disch:=omega)[go_sem];try rfl)) (by simp) λi v d h1 h2=>by
     cases i with
     |succ i=>simp at h1
     |zero=>simp only[Nat.zero_add,List.getElem?_cons_zero,Option.some.injEq]at h1 h2;subst h1;subst h2;exact .refl _
 simp(disch:=omega)[go_sem]at ay;simp(disch:=omega)[go_sem];refine aq.mk h3 λM3 az=> ?_;simp(disch:=omega)[go_sem]at az;simp(disch:=omega)[go_sem]
theorem xG(a b:Nat)(ha:a<256)(hb:b<256):ax E true 93 [.agg (aF a).e,.agg (aF b).e] (.bg [.agg (aF (a&&&b)).e,iV 0]):=by
 have h1:=Jr a b (a&&&b) ha hb (Nat.lt_of_le_of_lt Nat.and_le_left ha) adf λi _=>Nat.testBit_and ..;simp only[Dg.e]at h1⊢;generalize aF a=A at*;generalize aF b=B at*;generalize aF (a&&&b)=R at*;refine bc Wi rfl Tryz.ntmps93 Tryz.results93 λN=> ?_;simp(disch:=omega)[go_sem];refine aq.mk h1 λM hM=> ?_;simp(disch:=omega)[go_sem]at hM;simp(disch:=omega)[go_sem]
theorem DB(a b:Nat)(ha:a<256)(hb:b<256):ax E true 97 [.agg (aF a).e,.agg (aF b).e] (.bg [.agg (aF (a|||b)).e,iV 0]):=by
 have h1:=Jr a b (a|||b) ha hb (Nat.or_lt_two_pow (n:=8) ha hb) adg λi _=>Nat.testBit_or ..;simp only[Dg.e]at h1⊢;generalize aF a=A at*;generalize aF b=B at*;generalize aF (a|||b)=R at*;refine bc Wl rfl Tryz.ntmps97 Tryz.results97 λN=> ?_;simp(disch:=omega)[go_sem];refine aq.mk h1 λM hM=> ?_;simp(disch:=omega)[go_sem]at hM;simp(disch:=omega)[go_sem]
end Go.Sp
end
noncomputable section
open Go Go.aw Go.Proofs
namespace Go.Sp
set_option maxRecDepth 100000
theorem adk(o p:Operand)(a b c a' b' c':Int):cS E .neq 118 o p (.agg #[.int .i64 a,.int .i64 b,.int .i64 c]) (.agg #[.int .i64 a',.int .i64 b',.int .i64 c'])=some (.bool (!(decide (a=a')&&(decide (b=b')&&decide (c=c'))))):=by
 have hg:Tryz.prog.eqGuardType Tryz.prog.depth 118=false:=by kernel_rfl
 show e9 Tryz.prog _=_;simp[e9,eqGuard,binOp,mO,vi,tz,hg,IQ,-bind_pure_comp];rfl
theorem adl(o p:Operand)(a b c a' b' c':Int):jK E .neq 118 o p (.agg [.v (.int .i64 a),.v (.int .i64 b),.v (.int .i64 c)]) (.agg [.v (.int .i64 a'),.v (.int .i64 b'),.v (.int .i64 c')])=some (.v (.bool (!(decide (a=a')&&(decide (b=b')&&decide (c=c')))))):=by
 show(cS E .neq 118 o p (.agg #[.int .i64 a,.int .i64 b,.int .i64 c]) (.agg #[.int .i64 a',.int .i64 b',.int .i64 c'])).map DV.v=_;rw[adk];rfl
theorem adm(a b:List (Int×Int×Int))(hl:a.length<=10000):ax E true 139 [.sl 3 (a.map de),.sl 3 (b.map de)] (bV (decide (a=b))):=by
 obtain⟨R,hR⟩:∃R,R=decide (a=b):=⟨_,rfl⟩;rw[<-hR];refine bc WT rfl Tryz.ntmps139 Tryz.results139 λN=> ?_;by_cases hlen:a.length=b.length
 . have e1:(a.length:Int)=b.length:=by omega
   simp(disch:=omega)[go_sem,hlen];obtain⟨I,hI⟩:∃I:Nat->DS->Prop,∀j d,I j d↔∃(k P:Nat),j+k=a.length/\a.take k=b.take k/\d=⟨bQ [(0,.sl 3 (a.map de)),(1,.sl 3 (b.map de)),(12,iV b.length),(13,iV k)],26,[],cK P []⟩:=⟨_,λ_ _=>Iff.rfl⟩;refine cx I a.length ⟨_,aA.mk (N:=N) ?_ ?_ ?_,(hI _ _).2 ⟨0,N,rfl,rfl,rfl⟩⟩ ?_
   . simp(disch:=omega)[go_sem]
   . simp(disch:=omega)[go_sem]
   . simp(disch:=omega)[go_sem]
   . intro j ds au;obtain⟨k,P,hj,ad,rfl⟩:=(hI _ _).1 au;clear au;by_cases av:k<a.length
     . have aa:(k:Int)<b.length:=by omega
       have af:k<b.length:=by omega
       obtain⟨x,hx⟩:∃x,a[k]? =some x:=⟨_,List.getElem?_eq_getElem av⟩;obtain⟨y,hy⟩:∃y,b[k]? =some y:=⟨_,List.getElem?_eq_getElem af⟩;obtain⟨x1,x2,x3⟩:=x;obtain⟨y1,y2,y3⟩:=y;simp(disch:=omega)[go_sem,aa,hx,hy,-getElem?_pos];refine ck [ae 0,ae 0,ae 3,aJ 7,ae 0,ae 0,ae 48,aJ 112,ae 255] (by kernel_rfl) 0 rfl ?_;simp(disch:=omega)[go_sem,aa,hx,hy,-getElem?_pos,de,adl];by_cases he:x1=y1/\x2=y2/\x3=y3
       . obtain⟨h1,h2,h3⟩:=he;simp(disch:=omega)[go_sem,h1,h2,h3,aD];refine⟨j-1,by omega,_,aA.mk (N:=P) ?_ ?_ ?_,(hI _ _).2 ⟨k+1,P,by omega, ?_,rfl⟩⟩
         . simp(disch:=omega)[go_sem]
         . simp(disch:=omega)[go_sem,de]
         . simp(disch:=omega)[go_sem]
         . rw[List.take_add_one,List.take_add_one,ad,hx,hy,h1,h2,h3]
       . have ai:R=false:=by
          rw[hR,decide_eq_false_iff_not];intro ab;subst ab;rw[hx]at hy;simp only[Option.some.injEq,Prod.mk.injEq]at hy;exact he hy
         have ay:(!decide (x1=y1)||(!decide (x2=y2)|| !decide (x3=y3)))=true:=by
          by_cases q1:x1=y1
          . by_cases q2:x2=y2
            . by_cases q3:x3=y3
              . exact absurd ⟨q1,q2,q3⟩ he
              . simp[q3]
            . simp[q2]
          . simp[q1]
         rw[ay];simp(disch:=omega)[go_sem,ai]
     . have aa:¬(k:Int)<b.length:=by omega
       have ab:R=true:=by
        rw[hR,decide_eq_true_iff];have h1:a.take k=a:=List.take_of_length_le (by omega);have h2:b.take k=b:=List.take_of_length_le (by omega);rw[<-h1,<-h2];exact ad
       simp(disch:=omega)[go_sem,aa,ab]
 . have ai:R=false:=by
    rw[hR,decide_eq_false_iff_not];intro ab;subst ab;exact hlen rfl
   have e1:¬(a.length:Int)=b.length:=by omega
   simp(disch:=omega)[go_sem,hlen,e1,ai]
theorem adn(x y:Br)(h:mR x=mR y):x=y:=by
 obtain⟨a,b,c⟩:=x;obtain⟨a',b',c'⟩:=y;simp only[mR,Prod.mk.injEq]at h;obtain⟨h1,h2,h3⟩:=h;simp only[Prod.mk.injEq];omega
theorem ado{a b:Nat}(ha:a<256)(hb:b<256)(h:aF a=aF b):a=b:=by
 have h1:=vw ha;have h2:=vw hb;have e1:(eR (rv a)).2.2=(eR (rv b)).2.2:=by
  have:(eR (rv a)).2.2.map mR=(eR (rv b)).2.2.map mR:=by rw[h1.2.1,h2.2.1,h]
  exact List.map_inj_right (λx y h=>adn x y h)|>.1 this
 have e2:(eR (rv a)).1=(eR (rv b)).1:=by
  have:((eR (rv a)).1:Int)=(eR (rv b)).1:=by rw[h1.2.2,h2.2.2,h]
  omega
 have key:∀i,i<8->a.testBit i=b.testBit i:=λi hi=>by
  have h3:=zO ha (bT i);have h4:=zO hb (bT i);rw[e1,e2,h4]at h3;have ao:idx (bT i)=i:=by
   have:i=0\/i=1\/i=2\/i=3\/i=4\/i=5\/i=6\/i=7:=by omega
   rcases this with rfl|rfl|rfl|rfl|rfl|rfl|rfl|rfl<;>rfl
  rw[ao]at h3;exact h3.symm
 refine Nat.eq_of_testBit_eq λi=> ?_;by_cases hi:i<8
 . exact key i hi
 . have p:256<=2^i:=Nat.pow_le_pow_right (n:=2) (by omega) (show 8<=i by omega);rw[Nat.testBit_lt_two_pow (by omega),Nat.testBit_lt_two_pow (by omega)]
theorem Ju(a b:Nat)(ha:a<256)(hb:b<256):ax E true 101 [.agg (aF a).e,.agg (aF b).e] (bV (decide (a=b))):=by
 have hl:=zw a ha;have h1:=adm (aF a).nodes (aF b).nodes (by omega);have ab:decide (a=b)=(decide ((aF a).root=(aF b).root)&&decide ((aF a).nodes=(aF b).nodes)):=by
  rw[Bool.eq_iff_iff];simp only[decide_eq_true_iff,Bool.and_eq_true];refine⟨λh=>by subst h;exact⟨rfl,rfl⟩,λ⟨h1,h2⟩=>ado ha hb ?_⟩;cases h3:aF a with
  |mk n r=>cases h4:aF b with
   |mk n' r'=>rw[h3,h4]at h1 h2;simp only at h1 h2;rw[h1,h2]
 rw[ab];generalize aF a=A at*;generalize aF b=B at*;refine bc Wo rfl Tryz.ntmps101 Tryz.results101 λN=> ?_;by_cases hr:A.root=B.root
 . simp(disch:=omega)[go_sem,Dg.e,hr];refine aq.mk h1 λM hM=> ?_;simp(disch:=omega)[go_sem]at hM;simp(disch:=omega)[go_sem,hr]
 . simp(disch:=omega)[go_sem,Dg.e,hr]
end Go.Sp
end

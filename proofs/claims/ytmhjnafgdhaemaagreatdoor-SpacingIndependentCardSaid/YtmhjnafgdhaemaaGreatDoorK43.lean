/- SpacingIndependent: parts of its proof. -/
import Derived.Test.YtmhjnafgdhaemaaGreatDoorK25
import Derived.Test.YtmhjnafgdhaemaaGreatDoorK42
open List renaming getElem?_eq_getElem->qe,getElem?_eq_some_iff->xS,getElem?_map->Er,mem_of_getElem?->GP,flatMap_cons->PX,take_add_one->Qc,mem_map->W2,take_of_length_le->W9,getElem?_cons_zero->Zj,take_append_drop->ZL,drop_eq_getElem_cons->Z4,flatMap_append->abR,append_assoc->ab8,all_eq_true->adS
open Iff renaming rfl->DE
open Array renaming ext'->PO
open Nat renaming le_refl->TF,add_mul->Zr,testBit_lt_two_pow->adT
open Option.some renaming injEq->VK
open Option renaming map_eq_some_iff->Xw,toList_some->adr
open Prod.mk renaming injEq->ZJ
set_option linter.all false
set_option maxRecDepth 100000
noncomputable section
open Go Go.au Go.Proofs
namespace Go.Sp
def kN(n:Int)(d:Dg):Prop:=∃c,d=aF c/\xX c n
structure tA(g:ai)(p:aQ):Prop where
 left:0<=p.left/\p.left<g.aH.length
 right:∀s∈p.right,qj g s
 cond:kN g.conds.length p.cond
 eJ:-1<=p.eJ/\p.eJ<=1
 aj:x7 p
structure Hk(g:ai):Prop where
 new:mJ (g.ak.map (·.name))
 len:g.ak.length<=2000
 ok:∀p∈g.ak,tA g p
theorem Zt(g:ai)(l:List Sym)(hl:l.length<=16)(h:∀s∈l,qj g s):ay E true 149 [.sl 2 (l.map Sym.e),.fn 147 [] [.ptr g.e 0]] (bV false):=
 YZ _ _ _ (λx hx=>by obtain⟨y,_,rfl⟩:=W2.1 hx;rfl) (by simp;omega) λx hx=>by
  obtain⟨y,hy,rfl⟩:=W2.1 hx;exact Hb g y (h y hy)
set_option maxHeartbeats 2000000 in
theorem Zu(g:ai)(hg:Hk g):ay E true 108 [.agg g.e] (iV 0):=by
 have hn:=hg.new;have hlen:=hg.len;refine aW Tryz.ntmps108 Tryz.results108 λN=> ?_;simp(disch:=omega)[go_sem,ai.e];refine xZ λes clock h' T hs e1 e2 e3 e4=> ?_;simp(disch:=omega)[go_sem]at e1 e2 e3 e4;simp(disch:=omega)[go_sem,e1,e2,e3,e4];obtain⟨I,hI⟩:∃I:Nat->DS->Prop,∀j d,I j d↔∃(k P:Nat) (es:List bq) (clock:Nat),j+k=g.ak.length/\rR es (lU ((g.ak.map (·.name)).take k))/\N+2<P/\d=⟨bz [(1,.v (.pointer (some ⟨N,0,none⟩))),(3,.fn 167 [] [.v (.pointer (some ⟨N+1+1,0,none⟩))]),(9,.sl 13 (g.ak.map aQ.e)),(10,iV g.ak.length),(11,iV k)],57,[],cw P [(N,.row g.e true 0),(N+1,.map es clock),(N+1+1,.row [.v (.map (some (N+1)))] true 0)]⟩:=⟨_,λ_ _=>DE⟩;refine bO I g.ak.length ⟨_,ax.mk (N:=N+3) ?_ ?_ ?_,(hI _ _).2 ⟨0,N+3,es,clock,rfl,hs,by omega,rfl⟩⟩ ?_
 . simp(disch:=omega)[go_sem,e1]
 . simp(disch:=omega)[go_sem]
 . simp(disch:=omega)[go_sem,e2,e3,e4,ai.e]
 . intro j ds av;obtain⟨k,P,es,clock,hj,hs,hP,rfl⟩:=(hI _ _).1 av;clear av;by_cases az:k<g.ak.length
   . have aa:(k:Int)<g.ak.length:=by omega
     obtain⟨p,ao⟩:∃p,g.ak[k]? =some p:=⟨_,qe az⟩;have ab:=hg.ok p (GP ao);obtain⟨c,aA,aB⟩:=ab.cond;have ad:=vv c g.conds.length aB;rw[<-aA]at ad;have af:=Zs p ab.aj;have aD:(g.ak.map (·.name))[k]? =some p.name:=by rw[Er,ao];rfl
     obtain⟨ha,hp⟩:=hn.at aD;have d1:¬p.eJ< -1:=by have:=ab.eJ;omega
     have d2:¬1<p.eJ:=by have:=ab.eJ;omega
     simp only[Dg.e,aQ.e]at ad af;simp(disch:=omega)[go_sem,aa,ao,-getElem?_pos,aQ.e];refine an.pl (Hb g ⟨false,p.left⟩ ab.left) (.cons (.refl _) (.cons (mK (ah:=0) (cx (wr:=true) (by simp(disch:=omega)[go_sem,ai.e]))) .nil)) λM hM=> ?_;simp(disch:=omega)[go_sem]at hM;simp(disch:=omega)[go_sem];refine an.pl (Zt g p.right ab.aj.len ab.right) (.cons (.refl _) (.cons (Hg (mK (ah:=0) (cx (wr:=true) (by simp(disch:=omega)[go_sem,ai.e])))) .nil)) λM2 aE=> ?_;simp(disch:=omega)[go_sem]at aE;simp(disch:=omega)[go_sem];refine xW (b:=N+1+1) (r:=N+1) (wr:=true) (ah:=0) (es:=es) (clock:=clock) (by simp(disch:=omega)[go_sem]) (by simp(disch:=omega)[go_sem]) hs ha λaI ae T aw=> ?_;rw[hp]at aw;simp(disch:=omega)[go_sem,ai.e];refine an.mk ad λM3 aK=> ?_;simp(disch:=omega)[go_sem]at aK;simp(disch:=omega)[go_sem,d1,d2];refine an.mk af λM4 aL=> ?_;simp(disch:=omega)[go_sem]at aL;simp(disch:=omega)[go_sem,aC];refine⟨j-1,by omega,_,ax.mk (N:=M4) ?_ ?_ ?_,(hI _ _).2 ⟨k+1,M4,aI,ae,by omega,aw,by omega,rfl⟩⟩
     . simp(disch:=omega)[go_sem]
     . simp(disch:=omega)[go_sem,aQ.e]
     . simp(disch:=omega)[go_sem,ai.e]
   . have aa:¬(k:Int)<g.ak.length:=by omega
     simp(disch:=omega)[go_sem,aa,ai.e]
theorem lg{h:ab}{r:Nat}{es:List bq}{clock:Nat}{ty:TypeId}{ok:Bool}{k:Value}{v dk:DV}(hm:h.get r=some (.map es clock))(hk:exact dk=some k)(h1:kW E ty ok k es=some v):kK E h ty ok (.v (.map (some r))) dk=some v:=by
 simp only[kK,hk,hm,h1]
theorem rT{h:ab}{r:Nat}{es:List bq}{clock:Nat}{ty:TypeId}{k:Value}{d dk:DV}{o:bx}(hm:h.get r=some (.map es clock))(hk:exact dk=some k)(h1:kg E ty k d es clock=some o):ja E h ty (some (.v (.map (some r)))) (some dk) (some d)=some (h.set r (some o),r):=by
 simp only[ja,hk,hm,h1,Option.map_some]
def rU(i:Int):Value:=.int .i64 i
theorem jQ:j8 E 3 rU:=by
 refine⟨⟨_,u3,λk=>rfl⟩,λk=>rfl,λk b=>⟨(),by kernel_rfl⟩,λa b=> ?_,λk=>by simp[rU,Instr.sameBits]⟩;simp only[jX,rU,decide_true,cond_true];rfl
theorem Hl:E.under 228=some (.map 3 4):=by kernel_rfl
abbrev Hm(es:List bq)(l:List Int):Prop:=eT rU (λ_:Unit=>bV true) es (l.map λi=>(i,()))
theorem Hn(l:List Int)(i:Int)(h:i∉l):bc (l.map λi=>(i,())) i=none:=by
 induction l with
 |nil=>rfl
 |cons x l ih=>
  simp only[List.mem_cons,not_or]at h;simp only[List.map_cons,bc,if_neg h.1];exact ih h.2
theorem Zv(l:List Int)(i:Int)(h:i∉l):put (l.map λi=>(i,())) i ()=(l++[i]).map λi=>(i,()):=by
 rw[pQ (Hn l i h)];simp
structure tB(g:ai)(l:de):Prop where
 assoc:0<=l.assoc/\l.assoc<=3
 cond:kN g.conds.length l.cond
 ak:∀p∈l.ak,0<=p/\p<g.ak.length
structure Ho(g:ai):Prop where
 nd:(g.ba.flatMap (·.ak)).Nodup
 len:g.ba.length<=2000
 lens:∀l∈g.ba,l.ak.length<=100000
 ok:∀l∈g.ba,tB g l
theorem Zw{ls:List de}(h:(ls.flatMap (·.ak)).Nodup){k m:Nat}{l:de}{p:Int}(hk:ls[k]? =some l)(hm:l.ak[m]? =some p):p∉(ls.take k).flatMap (·.ak)++l.ak.take m:=by
 have e:ls.flatMap (·.ak)=((ls.take k).flatMap (·.ak)++l.ak.take m)++(l.ak.drop m++(ls.drop (k+1)).flatMap (·.ak)):=by
  have e1:ls=ls.take k++l::ls.drop (k+1):=by
   have aL:=(xS.1 hk).1;have:=ZL k ls;rw[Z4 aL]at this;have h2:ls[k]=l:=(xS.1 hk).2;rw[h2]at this;exact this.symm
  conv=>lhs;rw[e1]
  rw[abR,PX]
  conv=>lhs;rw[<-ZL m l.ak]
  simp only[ab8]
 rw[e,List.nodup_append]at h;intro hp;have hd:p∈l.ak.drop m:=by
  have aM:=(xS.1 hm).1;rw[Z4 aM,(xS.1 hm).2];exact List.mem_cons_self
 exact h.2.2 p hp p (List.mem_append_left _ hd) rfl
set_option maxHeartbeats 2000000 in
theorem Zx(g:ai)(hg:Ho g):ay E true 109 [.agg g.e] (iV 0):=by
 have hlen:=hg.len;refine aW Tryz.ntmps109 Tryz.results109 λN=> ?_;simp(disch:=omega)[go_sem,ai.e];obtain⟨I,hI⟩:∃I:Nat->DS->Prop,∀j d,I j d↔∃(k P:Nat) (es:List bq) (clock:Nat),j+k=g.ba.length/\Hm es ((g.ba.take k).flatMap (·.ak))/\N+1<P/\d=⟨bz [(1,.v (.pointer (some ⟨N,0,none⟩))),(3,.v (.map (some (N+1)))),(10,.sl 4 (g.ba.map de.e)),(11,iV g.ba.length),(12,iV k)],58,[],cw P [(N,.row g.e true 0),(N+1,.map es clock)]⟩:=⟨_,λ_ _=>DE⟩;refine bO I g.ba.length ⟨_,ax.mk (N:=N+2) ?_ ?_ ?_,(hI _ _).2 ⟨0,N+2,[],0,rfl,rfl,by omega,rfl⟩⟩ ?_
 . simp(disch:=omega)[go_sem]
 . simp(disch:=omega)[go_sem]
 . simp(disch:=omega)[go_sem,ai.e]
 . intro j ds aF;obtain⟨k,P,es,clock,hj,hs,hP,rfl⟩:=(hI _ _).1 aF;clear aF;by_cases aN:k<g.ba.length
   . have ae:(k:Int)<g.ba.length:=by omega
     obtain⟨l,aw⟩:∃l,g.ba[k]? =some l:=⟨_,qe aN⟩;have aI:=GP aw;have az:=hg.ok l aI;have aU:=hg.lens l aI;obtain⟨c,aP,aQ⟩:=az.cond;have af:=vv c g.conds.length aQ;rw[<-aP]at af;have d1:¬l.assoc<0:=by have:=az.assoc;omega
     have d2:¬3<l.assoc:=by have:=az.assoc;omega
     simp only[Dg.e]at af;simp(disch:=omega)[go_sem,ae,aw,-getElem?_pos,de.e,d1,d2,ai.e];refine an.mk af λM hM=> ?_;simp(disch:=omega)[go_sem]at hM;simp(disch:=omega)[go_sem];obtain⟨J,hJ⟩:∃J:Nat->DS->Prop,∀j d,J j d↔∃(m P:Nat) (es:List bq) (clock:Nat),j+m=l.ak.length/\Hm es ((g.ba.take k).flatMap (·.ak)++l.ak.take m)/\N+1<P/\d=⟨bz [(1,.v (.pointer (some ⟨N,0,none⟩))),(3,.v (.map (some (N+1)))),(10,.sl 4 (g.ba.map de.e)),(11,iV g.ba.length),(12,iV k),(34,ints l.ak),(35,iV l.ak.length),(36,iV m)],58,[],cw P [(N,.row g.e true 0),(N+1,.map es clock)]⟩:=⟨_,λ_ _=>DE⟩;refine bO J l.ak.length ⟨_,ax.mk (N:=M) ?_ ?_ ?_,(hJ _ _).2 ⟨0,M,es,clock,rfl,by simpa using hs,by omega,rfl⟩⟩ ?_
     . simp(disch:=omega)[go_sem]
     . simp(disch:=omega)[go_sem,de.e]
     . simp(disch:=omega)[go_sem,ai.e]
     . intro j2 aX aK;obtain⟨m,P2,aD,aa,aZ,aA,aR,rfl⟩:=(hJ _ _).1 aK;clear aK;by_cases aE:m<l.ak.length
       . have ad:(m:Int)<l.ak.length:=by omega
         obtain⟨p,aB⟩:∃p,l.ak[m]? =some p:=⟨_,qe aE⟩;obtain⟨p0,p1⟩:=az.ak p (GP aB);have av:=Zw hg.nd aw aB;have d3:¬p<0:=by omega
         have d4:¬(g.ak.length:Int)<=p:=by omega
         have h1:=rQ jQ Hl aA p false z4 rfl (Hn _ p av);obtain⟨aS,ao,h2,h3⟩:=oW jQ Hl aA p aa ();rw[Zv _ p av]at h3;simp(disch:=omega)[go_sem,ad,aB,-getElem?_pos,d3,d4,ai.e];refine⟨bV false,lg (es:=aD) (clock:=aa) (by simp(disch:=omega)[go_sem]) rfl h1, ?_⟩;simp(disch:=omega)[go_sem];refine⟨_,rT (es:=aD) (clock:=aa) (by simp(disch:=omega)[go_sem]) rfl h2, ?_⟩;simp(disch:=omega)[go_sem,aC];refine⟨j2-1,by omega,_,ax.mk (N:=P2) ?_ ?_ ?_,(hJ _ _).2 ⟨m+1,P2,aS,ao,by omega, ?_,aR,rfl⟩⟩
         . simp(disch:=omega)[go_sem]
         . simp(disch:=omega)[go_sem,de.e]
         . simp(disch:=omega)[go_sem,ai.e]
         . rw[Qc,aB,adr,<-ab8];exact h3
       . have ad:¬(m:Int)<l.ak.length:=by omega
         simp(disch:=omega)[go_sem,ad,aC];refine⟨j-1,by omega,_,ax.mk (N:=P2) ?_ ?_ ?_,(hI _ _).2 ⟨k+1,P2,aD,aa,by omega, ?_,by omega,rfl⟩⟩
         . simp(disch:=omega)[go_sem]
         . simp(disch:=omega)[go_sem]
         . simp(disch:=omega)[go_sem,ai.e]
         . rw[Qc,aw,adr,abR,PX,List.flatMap_nil,List.append_nil];have aT:l.ak.take m=l.ak:=W9 (by omega);rw[aT]at aA;exact aA
   . have ae:¬(k:Int)<g.ba.length:=by omega
     simp(disch:=omega)[go_sem,ae,ai.e]
theorem BI(t:Tok)(h:t.cls=0):ay E true 151 [.agg t.e] (bV true):=by
 refine aW Tryz.ntmps151 Tryz.results151 λN=> ?_;simp(disch:=omega)[go_sem,Tok.e,h]
theorem Hp(t:Tok):ay E true 152 [.agg t.e] (bV (!decide (t.lit=⟨#[]⟩))):=by
 refine aW Tryz.ntmps152 Tryz.results152 λN=> ?_;simp(disch:=omega)[go_sem,Tok.e]
structure mL(g:ai)(K:Tok->Prop)(l:List Int):Prop where
 ne:l≠[]
 len:l.length<=1000
 tok:∀n∈l,0<=n/\∃t,g.ar[n.toNat]? =some t/\K t
 up:∀(i:Nat) a b,l[i]? =some a->l[i+1]? =some b->a<b
theorem BJ(g:ai)(K:Tok->Prop)(f:FuncId)(hf:∀t,K t->ay E true f [.agg t.e] (bV true))(l:List Int)(h:mL g K l):ay E true 154 [.agg g.e,ints l,.fn f [] []] (bV true):=by
 have hlen:=h.len;have af:0<l.length:=List.length_pos_iff.2 h.ne;refine aW Tryz.ntmps154 Tryz.results154 λN=> ?_;simp(disch:=omega)[go_sem,ai.e];obtain⟨I,hI⟩:∃I:Nat->DS->Prop,∀j d,I j d↔∃(k P:Nat),j+k=l.length/\N<P/\d=⟨bz [(1,ints l),(2,.fn f [] []),(3,.v (.pointer (some ⟨N,0,none⟩))),(9,ints l),(10,iV l.length),(11,iV k)],52,[],cw P [(N,.row g.e true 0)]⟩:=⟨_,λ_ _=>DE⟩;refine bO I l.length ⟨_,ax.mk (N:=N+1) ?_ ?_ ?_,(hI _ _).2 ⟨0,N+1,rfl,by omega,rfl⟩⟩ ?_
 . simp(disch:=omega)[go_sem]
 . simp(disch:=omega)[go_sem]
 . simp(disch:=omega)[go_sem,ai.e]
 . intro j ds ao;obtain⟨k,P,hj,hP,rfl⟩:=(hI _ _).1 ao;clear ao;by_cases av:k<l.length
   . have aa:(k:Int)<l.length:=by omega
     obtain⟨n,ad⟩:∃n,l[k]? =some n:=⟨_,qe av⟩;obtain⟨n0,t,ht,hK⟩:=h.tok n (GP ad);have n1:n<g.ar.length:=by have:=(xS.1 ht).1;omega
     have aw:=hf t hK;have d1:¬n<0:=by omega
     have d2:¬(g.ar.length:Int)<=n:=by omega
     have az:eQ (some (some 7)) t.e 0=some (.agg t.e):=tr rfl;cases k with
     |zero=>
      simp(disch:=omega)[go_sem,av,aa,ad,-getElem?_pos,d1,d2,n0,ht,ai.e,az];refine an.mk aw λM hM=> ?_;simp(disch:=omega)[go_sem]at hM;simp(disch:=omega)[go_sem,aC];refine⟨j-1,by omega,_,ax.mk (N:=M) ?_ ?_ ?_,(hI _ _).2 ⟨1,M,by omega,by omega,rfl⟩⟩
      . simp(disch:=omega)[go_sem]
      . simp(disch:=omega)[go_sem]
      . simp(disch:=omega)[go_sem,ai.e]
     |succ k=>
      obtain⟨a,aA⟩:∃a,l[k]? =some a:=⟨_,qe (by omega)⟩;have aB:=h.up k a n aA ad;have d3:¬n<=a:=by omega
      have d4:((k+1:Nat):Int)-1=k:=by omega
      have d5:(0:Int)<((k+1:Nat):Int):=by omega
      simp(disch:=omega)[go_sem,aa,ad,aA,-getElem?_pos,d1,d2,d3,d4,d5,n0,ht,ai.e,az,aC,-Int.natCast_add];refine an.mk aw λM hM=> ?_;simp(disch:=omega)[go_sem]at hM;simp(disch:=omega)[go_sem,aC];refine⟨j-1,by omega,_,ax.mk (N:=M) ?_ ?_ ?_,(hI _ _).2 ⟨k+1+1,M,by omega,by omega,rfl⟩⟩
      . simp(disch:=omega)[go_sem]
      . simp(disch:=omega)[go_sem]
      . simp(disch:=omega)[go_sem,ai.e]
   . have aa:¬(k:Int)<l.length:=by omega
     have ab:(0:Int)<l.length:=by omega
     simp(disch:=omega)[go_sem,aa,ai.e,af,ab,h.ne]
structure rV(g:ai)(f:bd):Prop where
 ex:∃p c s,0<=f.parent/\g.ak[f.parent.toNat]? =some p/\0<=f.child/\g.ak[f.child.toNat]? =some c/\0<=f.at_/\p.right[f.at_.toNat]? =some s/\s=⟨false,c.left⟩
theorem Hq(g:ai)(f:bd)(h:rV g f):ay E true 153 [.agg g.e,.agg f.e] (bV true):=by
 obtain⟨p,c,s,p0,hp,c0,hc,a0,hs,rfl⟩:=h.ex;have p1:f.parent<g.ak.length:=by have:=(xS.1 hp).1;omega
 have c1:f.child<g.ak.length:=by have:=(xS.1 hc).1;omega
 have a1:f.at_<p.right.length:=by have:=(xS.1 hs).1;omega
 have d1:¬f.parent<0:=by omega
 have d2:¬(g.ak.length:Int)<=f.parent:=by omega
 have d3:¬f.child<0:=by omega
 have d4:¬(g.ak.length:Int)<=f.child:=by omega
 refine aW Tryz.ntmps153 Tryz.results153 λN=> ?_;simp(disch:=omega)[go_sem,ai.e,bd.e,d1,d2,d3,d4,p0,hp,-getElem?_pos,aQ.e];refine bR [ae 0,aD 1,ae 3,ae 7,ae 15,aD 31,ae 15,aD 79,ae 255,ae 511,ae 1023,ae 2047,ae 2047,aD 6143,ae 16383,aD 32767,ae 2047,aD 67583,ae 2047,aD 264191,ae 985087,ae 2033663,aD 4130815,ae 8325119,ae 16777215,ae 33554431,ae 67108863] (by kernel_rfl) 0 rfl ?_;simp(disch:=omega)[go_sem,ai.e,bd.e,a0,a1,hs,c0,hc,-getElem?_pos,aQ.e,Sym.e,Hf]
def rW(g:ai)(f:bd):Prop:=
 (f.kind=1/\f.left=0/\f.token=0/\f.ar=[]/\rV g f)\/(f.kind=2/\f.left=0/\f.token=0/\f.ar=[]/\rV g f)\/
 (f.kind=3/\f.parent=0/\f.at_=0/\f.child=0/\f.token=0/\0<=f.left/\f.left<g.aH.length/\mL g (λt=>t.cls=0) f.ar)\/
 (f.kind=4/\f.parent=0/\f.at_=0/\f.child=0/\f.token=0/\0<=f.left/\f.left<g.aH.length/\mL g (λt=>t.cls=0) f.ar)\/
 (f.kind=5/\f.parent=0/\f.at_=0/\f.child=0/\f.left=0/\0<=f.token/\∃t,g.ar[f.token.toNat]? =some t/\t.cls=0/\t.lit=⟨#[]⟩/\mL g (λt=>t.lit≠⟨#[]⟩) f.ar)
structure Hr(g:ai):Prop where
 len:g.bj.length<=4096
 ok:∀f∈g.bj,kN g.conds.length f.cond/\rW g f
set_option maxHeartbeats 4000000 in
theorem Zy(g:ai)(hg:Hr g):ay E true 110 [.agg g.e] (iV 0):=by
 have hlen:=hg.len;refine aW Tryz.ntmps110 Tryz.results110 λN=> ?_;simp(disch:=omega)[go_sem,ai.e];obtain⟨I,hI⟩:∃I:Nat->DS->Prop,∀j d,I j d↔∃(k P:Nat),j+k=g.bj.length/\N<P/\d=⟨bz [(1,.v (.pointer (some ⟨N,0,none⟩))),(3,.fn 151 [] []),(4,.fn 152 [] []),(10,.sl 9 (g.bj.map bd.e)),(11,iV g.bj.length),(12,iV k)],147,[],cw P [(N,.row g.e true 0)]⟩:=⟨_,λ_ _=>DE⟩;refine bO I g.bj.length ⟨_,ax.mk (N:=N+1) ?_ ?_ ?_,(hI _ _).2 ⟨0,N+1,rfl,by omega,rfl⟩⟩ ?_
 . simp(disch:=omega)[go_sem]
 . simp(disch:=omega)[go_sem]
 . simp(disch:=omega)[go_sem,ai.e]
 . intro j ds az;obtain⟨k,P,hj,hP,rfl⟩:=(hI _ _).1 az;clear az;by_cases aD:k<g.bj.length
   . have af:(k:Int)<g.bj.length:=by omega
     obtain⟨x,aA⟩:∃x,g.bj[k]? =some x:=⟨_,qe aD⟩;obtain⟨⟨c,aE,aF⟩,hk⟩:=hg.ok x (GP aA);have ao:=vv c g.conds.length aF;rw[<-aE]at ao;simp only[Dg.e]at ao;simp(disch:=omega)[go_sem,af,aA,-getElem?_pos,bd.e,ai.e];refine an.mk ao λM hM=> ?_;simp(disch:=omega)[go_sem]at hM;simp(disch:=omega)[go_sem];rcases hk with⟨ad,hk⟩|⟨ad,hk⟩|⟨ad,hk⟩|⟨ad,hk⟩|⟨ad,hk⟩
     . obtain⟨z1,z2,z3,hp⟩:=hk;have aa:=Hq g x hp;simp(disch:=omega)[go_sem,ad,ai.e,bd.e]at aa⊢;refine an.mk aa λM2 ae=> ?_;simp(disch:=omega)[go_sem]at ae;simp(disch:=omega)[go_sem,aC,z1,z2,z3,ad];refine⟨j-1,by omega,_,ax.mk (N:=M2) ?_ ?_ ?_,(hI _ _).2 ⟨k+1,M2,by omega,by omega,rfl⟩⟩
       . simp(disch:=omega)[go_sem]
       . simp(disch:=omega)[go_sem,bd.e]
       . simp(disch:=omega)[go_sem,ai.e]
     . obtain⟨z1,z2,z3,hp⟩:=hk;have aa:=Hq g x hp;simp(disch:=omega)[go_sem,ad,ai.e,bd.e]at aa⊢;refine an.mk aa λM2 ae=> ?_;simp(disch:=omega)[go_sem]at ae;simp(disch:=omega)[go_sem,aC,z1,z2,z3,ad];refine⟨j-1,by omega,_,ax.mk (N:=M2) ?_ ?_ ?_,(hI _ _).2 ⟨k+1,M2,by omega,by omega,rfl⟩⟩
       . simp(disch:=omega)[go_sem]
       . simp(disch:=omega)[go_sem,bd.e]
       . simp(disch:=omega)[go_sem,ai.e]
     . obtain⟨z1,z2,z3,z4,z5,z6,z7⟩:=hk;have ab:=BJ g (λt=>t.cls=0) 151 BI x.ar z7;simp(disch:=omega)[go_sem,ad,ai.e,bd.e,z5,z6]at ab⊢;refine an.mk ab λM2 ae=> ?_;simp(disch:=omega)[go_sem]at ae;simp(disch:=omega)[go_sem,aC,z1,z2,z3,z4,ad];refine⟨j-1,by omega,_,ax.mk (N:=M2) ?_ ?_ ?_,(hI _ _).2 ⟨k+1,M2,by omega,by omega,rfl⟩⟩
       . simp(disch:=omega)[go_sem]
       . simp(disch:=omega)[go_sem,bd.e]
       . simp(disch:=omega)[go_sem,ai.e]
     . obtain⟨z1,z2,z3,z4,z5,z6,z7⟩:=hk;have ab:=BJ g (λt=>t.cls=0) 151 BI x.ar z7;simp(disch:=omega)[go_sem,ad,ai.e,bd.e,z5,z6]at ab⊢;refine an.mk ab λM2 ae=> ?_;simp(disch:=omega)[go_sem]at ae;simp(disch:=omega)[go_sem,aC,z1,z2,z3,z4,ad];refine⟨j-1,by omega,_,ax.mk (N:=M2) ?_ ?_ ?_,(hI _ _).2 ⟨k+1,M2,by omega,by omega,rfl⟩⟩
       . simp(disch:=omega)[go_sem]
       . simp(disch:=omega)[go_sem,bd.e]
       . simp(disch:=omega)[go_sem,ai.e]
     . obtain⟨z1,z2,z3,z4,z5,t,z6,z7,z8,z9⟩:=hk;have ab:=BJ g (λt=>t.lit≠⟨#[]⟩) 152 (λt ht=>by have:=Hp t;rwa[decide_eq_false ht]at this) x.ar z9;have aw:=BI t z7;have av:=Hp t;rw[decide_eq_true z8]at av;have aB:eQ (some (some 7)) t.e 0=some (.agg t.e):=tr rfl;have hl:x.token<g.ar.length:=by have:=(xS.1 z6).1;omega
       simp(disch:=omega)[go_sem,ad,ai.e,bd.e]at ab⊢;refine an.mk ab λM2 ae=> ?_;simp(disch:=omega)[go_sem]at ae;simp(disch:=omega)[go_sem,z5,hl,z6,aB,-getElem?_pos];refine an.mk aw λM3 aI=> ?_;simp(disch:=omega)[go_sem]at aI;simp(disch:=omega)[go_sem,z5,hl,z6,aB,-getElem?_pos];refine an.mk av λM4 aK=> ?_;simp(disch:=omega)[go_sem]at aK;simp(disch:=omega)[go_sem,aC,z1,z2,z3,z4,ad];refine⟨j-1,by omega,_,ax.mk (N:=M4) ?_ ?_ ?_,(hI _ _).2 ⟨k+1,M4,by omega,by omega,rfl⟩⟩
       . simp(disch:=omega)[go_sem]
       . simp(disch:=omega)[go_sem,bd.e]
       . simp(disch:=omega)[go_sem,ai.e]
   . have af:¬(k:Int)<g.bj.length:=by omega
     simp(disch:=omega)[go_sem,af,ai.e]
def Hs(t:Tok):Prop:=(t.lit≠⟨#[]⟩/\t.pat=[]/\t.iD=⟨#[]⟩)\/(t.lit=⟨#[]⟩/\ay E true 64 [.sl 5 (t.pat.map aL.e)] (iV 0)/\
 ((t.cls=0/\t.iD≠⟨#[]⟩/\ay E true 34 [.sl 5 (t.pat.map aL.e),sV t.iD] (bV true))\/(t.cls≠0/\t.iD=⟨#[]⟩)))
structure BK(g:ai):Prop where
 new:mJ (g.ar.map (·.name))
 len:g.ar.length<=256
 ok:∀t∈g.ar,0<=t.cls/\t.cls<=2/\kN g.conds.length t.cond/\Hs t
set_option maxHeartbeats 4000000 in
theorem Zz(g:ai)(hg:BK g):ay E true 106 [.agg g.e] (iV 0):=by
 have hn:=hg.new;have hlen:=hg.len;refine aW Tryz.ntmps106 Tryz.results106 λN=> ?_;simp(disch:=omega)[go_sem,ai.e];refine xZ λes clock h' T hs e1 e2 e3 e4=> ?_;simp(disch:=omega)[go_sem]at e1 e2 e3 e4;simp(disch:=omega)[go_sem,e1,e2,e3,e4];obtain⟨I,hI⟩:∃I:Nat->DS->Prop,∀j d,I j d↔∃(k P:Nat) (es:List bq) (clock:Nat),j+k=g.ar.length/\rR es (lU ((g.ar.map (·.name)).take k))/\N+2<P/\d=⟨bz [(1,.v (.pointer (some ⟨N,0,none⟩))),(3,.fn 167 [] [.v (.pointer (some ⟨N+1+1,0,none⟩))]),(9,.sl 7 (g.ar.map Tok.e)),(10,iV g.ar.length),(11,iV k)],74,[],cw P [(N,.row g.e true 0),(N+1,.map es clock),(N+1+1,.row [.v (.map (some (N+1)))] true 0)]⟩:=⟨_,λ_ _=>DE⟩;refine bO I g.ar.length ⟨_,ax.mk (N:=N+3) ?_ ?_ ?_,(hI _ _).2 ⟨0,N+3,es,clock,rfl,hs,by omega,rfl⟩⟩ ?_
 . simp(disch:=omega)[go_sem,e1]
 . simp(disch:=omega)[go_sem]
 . simp(disch:=omega)[go_sem,e2,e3,e4,ai.e]
 . intro j ds af;obtain⟨k,P,es,clock,hj,hs,hP,rfl⟩:=(hI _ _).1 af;clear af;by_cases aA:k<g.ar.length
   . have ab:(k:Int)<g.ar.length:=by omega
     obtain⟨t,av⟩:∃t,g.ar[k]? =some t:=⟨_,qe aA⟩;obtain⟨k0,k1,⟨c,aB,aD⟩,hk⟩:=hg.ok t (GP av);have ad:=vv c g.conds.length aD;rw[<-aB]at ad;have aE:(g.ar.map (·.name))[k]? =some t.name:=by rw[Er,av];rfl
     obtain⟨ha,hp⟩:=hn.at aE;have d1:¬t.cls<0:=by omega
     have d2:¬2<t.cls:=by omega
     simp only[Dg.e]at ad;simp(disch:=omega)[go_sem,ab,av,-getElem?_pos,Tok.e];refine xW (b:=N+1+1) (r:=N+1) (wr:=true) (ah:=0) (es:=es) (clock:=clock) (by simp(disch:=omega)[go_sem]) (by simp(disch:=omega)[go_sem]) hs ha λaw aa T ao=> ?_;rw[hp]at ao;simp(disch:=omega)[go_sem,d1,d2,ai.e];refine an.mk ad λM hM=> ?_;simp(disch:=omega)[go_sem]at hM;rcases hk with⟨h1,h2,h3⟩|⟨h1,h2,⟨h3,h4,h5⟩|⟨h3,h4⟩⟩
     . simp(disch:=omega)[go_sem,h1,h2,h3,aC];refine⟨j-1,by omega,_,ax.mk (N:=M) ?_ ?_ ?_,(hI _ _).2 ⟨k+1,M,aw,aa,by omega,ao,by omega,rfl⟩⟩
       . simp(disch:=omega)[go_sem]
       . simp(disch:=omega)[go_sem,Tok.e]
       . simp(disch:=omega)[go_sem,ai.e]
     . simp(disch:=omega)[go_sem,h1,h4];refine an.mk h2 λM2 az=> ?_;simp(disch:=omega)[go_sem]at az;simp(disch:=omega)[go_sem,h3];refine an.mk h5 λM3 aF=> ?_;simp(disch:=omega)[go_sem]at aF;simp(disch:=omega)[go_sem,aC];refine⟨j-1,by omega,_,ax.mk (N:=M3) ?_ ?_ ?_,(hI _ _).2 ⟨k+1,M3,aw,aa,by omega,ao,by omega,rfl⟩⟩
       . simp(disch:=omega)[go_sem]
       . simp(disch:=omega)[go_sem,Tok.e]
       . simp(disch:=omega)[go_sem,ai.e]
     . simp(disch:=omega)[go_sem,h1,h4];refine an.mk h2 λM2 az=> ?_;simp(disch:=omega)[go_sem]at az;simp(disch:=omega)[go_sem,h3,aC];refine⟨j-1,by omega,_,ax.mk (N:=M2) ?_ ?_ ?_,(hI _ _).2 ⟨k+1,M2,aw,aa,by omega,ao,by omega,rfl⟩⟩
       . simp(disch:=omega)[go_sem]
       . simp(disch:=omega)[go_sem,Tok.e]
       . simp(disch:=omega)[go_sem,ai.e]
   . have ab:¬(k:Int)<g.ar.length:=by omega
     simp(disch:=omega)[go_sem,ab,ai.e]
structure GV(g:ai):Prop where
 size:Ha g
 cL:vw g
 ar:BK g
 aH:mJ g.aH/\0<=g.start/\g.start<g.aH.length
 ak:Hk g
 ba:Ho g
 bj:Hr g
set_option maxHeartbeats 4000000 in
theorem Ht(g:ai)(hg:GV g):ay E true 62 [.agg g.e] (iV 0):=by
 have h0:=Y7 g hg.size;have h1:=Y3 g hg.cL;have h2:=Zz g hg.ar;have h3:=Y2 g hg.aH.1 hg.aH.2.1 hg.aH.2.2 hg.size.aH;have h4:=Zu g hg.ak;have h5:=Zx g hg.ba;have h6:=Zy g hg.bj;simp only[ai.e]at h0 h1 h2 h3 h4 h5 h6;refine aW Tryz.ntmps62 Tryz.results62 λN=> ?_;simp(disch:=omega)[go_sem,ai.e];refine an.mk h0 λM hM=> ?_;simp(disch:=omega)[go_sem]at hM;simp(disch:=omega)[go_sem];obtain⟨I,hI⟩:∃I:Nat->DS->Prop,∀j d,I j d↔∃(k P:Nat),j+k=6/\M<P/\d=⟨bz [(1,.v (.pointer (some ⟨N,0,none⟩))),(10,.v (.slice (some ⟨M,0,none⟩) 6 6)),(11,iV 6),(12,iV k)],23,[],cw P [(N,.row g.e true 0),(M,.row [.fn 105 [] [],.fn 106 [] [],.fn 107 [] [],.fn 108 [] [],.fn 109 [] [],.fn 110 [] []] true 0)]⟩:=⟨_,λ_ _=>DE⟩;refine bO I 6 ⟨_,ax.mk (N:=M+1) ?_ ?_ ?_,(hI _ _).2 ⟨0,M+1,rfl,by omega,rfl⟩⟩ ?_
 . simp(disch:=omega)[go_sem]
 . simp(disch:=omega)[go_sem]
 . simp(disch:=omega)[go_sem,ai.e]
 . intro j ds af;obtain⟨k,P,hj,hP,rfl⟩:=(hI _ _).1 af;clear af;by_cases aA:k<6
   . have hk:k=0\/k=1\/k=2\/k=3\/k=4\/k=5:=by omega
     rcases hk with rfl|rfl|rfl|rfl|rfl|rfl
     all_goals
      simp(disch:=omega)[go_sem,ai.e]
      first|refine an.mk h1 λP2 ae=> ?_|refine an.mk h2 λP2 ae=> ?_|refine an.mk h3 λP2 ae=> ?_|refine an.mk h4 λP2 ae=> ?_|refine an.mk h5 λP2 ae=> ?_|refine an.mk h6 λP2 ae=> ?_
      simp(disch:=omega)[go_sem]at ae;simp(disch:=omega)[go_sem,aC];refine⟨j-1,by omega,_,ax.mk (N:=P2) ?_ ?_ ?_,(hI _ _).2 ⟨6-(j-1),P2,by omega,by omega,rfl⟩⟩
      . simp(disch:=omega)[go_sem]
      . simp(disch:=omega)[go_sem]<;>omega
      . simp(disch:=omega)[go_sem,ai.e]
   . have hk:k=6:=by omega
     subst hk;simp(disch:=omega)[go_sem,ai.e]
def ql(h':aa):Nat->Nat->Tr bF->Tr bF
 |0,_,m=>m
 |k+1,i,m=>match h'.get i with
  |some o=>ql h' k (i+1) (m.set i (some o))
  |none=>ql h' k (i+1) m
def oZ(h h':aa):aa:=⟨ql h' (h'.next-h.next) h.next h.m,h'.next⟩
theorem vD(h':aa)(j:Nat):∀(k i:Nat) (m:Tr bF),(ql h' k i m).get j=if i<=j/\j<i+k then(match h'.get j with|some o=>some o|none=>m.get j)else m.get j
 |0,i,m=>by rw[if_neg (by omega)];rfl
 |k+1,i,m=>by
  simp only[ql];cases hq:h'.get i with
  |none=>
   simp only;rw[vD h' j k (i+1) m];by_cases hj:j=i
   . subst hj;rw[if_neg (by omega),if_pos (by omega),hq]
   . by_cases h2:i+1<=j/\j<i+1+k
     . rw[if_pos h2,if_pos (by omega)]
     . rw[if_neg h2,if_neg (by omega)]
  |some o=>
   simp only;rw[vD h' j k (i+1)];by_cases hj:j=i
   . subst hj;rw[if_neg (by omega),if_pos (by omega),hq,Tr.bn,if_pos rfl]
   . by_cases h2:i+1<=j/\j<i+1+k
     . rw[if_pos h2,if_pos (by omega),Tr.bn,if_neg hj]
     . rw[if_neg h2,if_neg (by omega),Tr.bn,if_neg hj]
theorem aad(h h':aa)(j:Nat)(hj:j<h.next):(oZ h h').get j=h.get j:=by
 show(ql h' _ _ h.m).get j=_;rw[vD,if_neg (by omega)];rfl
theorem aae(h h':aa)(j:Nat)(o:bF)(hj:h.next<=j)(h2:j<h'.next)(ho:h'.get j=some o):(oZ h h').get j=some o:=by
 show(ql h' _ _ h.m).get j=_;rw[vD,if_pos (by omega),ho]
theorem aaf(h h':aa)(hs:Sub h h')(hn:∀i o,h.get i=some o->i<h.next):∀i o,(oZ h h').get i=some o->h'.get i=some o:=λi o ho=>by
 have ho:(ql h' _ _ h.m).get i=some o:=ho;rw[vD]at ho;have key:h.m.get i=some o->h'.get i=some o:=λhq=>hs.get i o (hn i o hq) hq
 split at ho
 . split at ho
   . rename_i o' hq;cases ho;exact hq
   . exact key ho
 . exact key ho
theorem aag{f:FuncId}{args:List Value}{h:aa}{v:Value}{h1:aa}(hr:bK E f args h v h1)(hs:Sub h h1):bK E f args h v (oZ h h1):=by
 by_cases hn:∀i o,h.get i=some o->i<h.next
 . exact hr.drop (aaf h h1 hs hn) (TF _)
 . refine⟨hr.1,λρ w vs hg hv hw=>absurd (λi o ho=> ?_) hn⟩;obtain⟨pl,h2,_⟩:=hw.obj i o ho;exact hw.gM i pl h2
def lZ(x:Br):Int×Int×Int:=(x.1,x.2.1,x.2.2)
def rv(c:Nat):Nat:=code λρ=>c.testBit (idx ρ)
theorem aah:((List.range 256).all λc=>decide (rv c<256)&&decide ((ey (rv c)).2.2.map lZ=(aF c).nodes)&&decide (((ey (rv c)).1:Int)=(aF c).root))=true:=by kernel_rfl
theorem tJ{c:Nat}(hc:c<256):rv c<256/\(ey (rv c)).2.2.map lZ=(aF c).nodes/\((ey (rv c)).1:Int)=(aF c).root:=by
 have:=adS.1 aah c (by simpa using hc);simpa[and_assoc]using this
theorem HK{h:aa}{G:Nat->Prop}(hG:∀i,G i->i<h.next){v:Value}{N:List Br}(hv:Rel (aI h G) v (.sl 3 ((N.map lZ).map cK))):j7 3 h v (N.map dj):=by
 generalize hx:(N.map lZ).map cK=xs at hv;cases hv with
 |j9 _=>
  have:N=[]:=by cases N<;>simp at hx⊢
  subst this;exact .inl ⟨rfl,_,_,rfl⟩
 | @sl b o c k ah cs _ q1 q2 q3 q4 q5 q6 q7=>
  obtain⟨g1,wr,g2⟩:=pS q1;have hlen:xs.length=(N.map dj).length:=by rw[<-hx];simp
  refine .inr ⟨b,o,c,by rw[hlen],hG _ g1,λj x hj i u hi=> ?_⟩;rw[Er,Xw]at hj;obtain⟨y,hy,rfl⟩:=hj;have e1:xs[j]? =some ((dj y).map .v):=by
   rw[<-hx,Er,Er,hy];rfl
  have aB:=(xS.1 e1).1;have aN:i<3:=by have:=(xS.1 hi).1;simpa[dj]using this
  have ao:o+j*3+i<cs.length:=by
   have:(j+1)*3<=xs.length*3:=Nat.mul_le_mul_right _ aB;omega
  have e2:cs[o+j*3+i]? =some cs[o+j*3+i]:=qe ao;have:=q7 j _ i _ (.v u) e1 (by rw[Er,hi];rfl) e2;rw[this.cG]at e2;exact cI g2|>.trans e2
theorem aai(cs:List Br)(j i:Nat)(x:Br)(u:Value)(hx:cs[j]? =some x)(hu:(dj x)[i]? =some u):(cs.flatMap dj)[j*3+i]? =some u:=by
 induction cs generalizing j with
 |nil=>simp at hx
 |cons y cs ih=>
  rw[PX];cases j with
  |zero=>
   simp only[Zj,VK]at hx;subst hx;have:=(xS.1 hu).1;rw[List.getElem?_append_left (by omega)];simpa using hu
  |succ j=>
   have hl:(dj y).length=3:=rfl;rw[List.getElem?_append_right (by rw[hl,Zr];omega),hl];have:=ih j (by simpa using hx);rw[<-this];congr 1;rw[Zr];omega
theorem aaj(cs:List Br):(cs.flatMap dj).length=cs.length*3:=by
 induction cs with
 |nil=>rfl
 |cons y cs ih=>rw[PX,List.length_append,ih,List.length_cons,Zr];simp[dj];omega
theorem aak{h H:aa}{G:Nat->Prop}{sl:Value}{cs:List Br}(hs:tH h.next H sl cs):Rel (aI (oZ h H) (rC G h (oZ h H))) sl (.sl 3 ((cs.map lZ).map cK)):=by
 rcases hs with⟨rfl,rfl⟩|⟨_,b,rfl,h1,h2,h3⟩
 . exact .j9 (by decide)
 . have e:((cs.map lZ).map cK).length=cs.length:=by simp
   have hg:aI (oZ h H) (rC G h (oZ h H)) b=some (cs.flatMap dj,3):=ry (.inr ⟨h2,h3⟩) (aae h H b _ h2 h3 h1);rw[show(Value.slice (some ⟨b,0,none⟩) cs.length cs.length)=.slice (some ⟨b,0,none⟩) ((cs.map lZ).map cK).length cs.length by rw[e]];refine .sl hg (.inr rfl) (by decide) (by rw[e];exact TF _) (λx hx=> ?_) (by rw[e,aaj];omega) λj x i v d e1 e2 e3=> ?_
   . obtain⟨y,hy,rfl⟩:=W2.1 hx;rfl
   . rw[List.map_map,Er,Xw]at e1;obtain⟨y,hy,rfl⟩:=e1;have e2:((dj y).map DV.v)[i]? =some d:=e2;rw[Er,Xw]at e2;obtain⟨u,hu,rfl⟩:=e2;rw[Nat.zero_add,aai cs j i y u hy hu]at e3;cases e3;exact .v _
def vE(c:Nat):List DV:=[.sl 3 ((aF c).nodes.map cK),iV (aF c).root]
theorem aal(c:Nat):(aF c).e=vE c:=rfl
theorem B9{R:Go.au.Rows}{v:Value}{n:Int}(h:Rel R v (iV n)):v=.int .i64 n:=h.cG
theorem yl{c:Nat}(hc:c<256)(ρ:cY):tb (ey (rv c)).2.2 (ey (rv c)).1 ρ=c.testBit (idx ρ):=by
 rw[(B8 (tJ hc).1).set ρ];unfold vB rv;have hi:=BY ρ;have:=HF (λρ=>c.testBit (idx ρ)) (idx ρ) hi;rw[this];congr 1;show idx (bL (idx ρ))=idx ρ;unfold idx;cases ρ 0<;>cases ρ 1<;>cases ρ 2<;>rfl
theorem aam{fo:FuncId}{ad:Bool->Bool->Bool}(av:∀H x y,bK E fo [.bool x,.bool y] H (.bool (ad x y)) H){b o:Nat}{H:aa}(hb:rd H b o=some (.func (.func fo) #[] #[]))(x y z:Bool):
 bK E 164 ([.bool x,.bool y,.bool z]++[.pointer (some ⟨b,o,none⟩)]) H (.bool (ad x y)) H:=by
 refine lF Tryz.ntmps164 Tryz.results164 rfl ?_;simp(disch:=omega)[go_sem,hb];refine KC.mk (av H x y) ?_;simp(disch:=omega)[go_sem]
theorem aan(a b r:Nat)(ha:a<256)(hb:b<256)(hr:r<256){fo:FuncId}{ad:Bool->Bool->Bool}(av:∀H x y,bK E fo [.bool x,.bool y] H (.bool (ad x y)) H)(aC:∀i,i<8->r.testBit i=ad (a.testBit i) (b.testBit i)):
 ay E true 163 [.agg (vE a++vE b++[dQ,iV 0]),.fn 164 [] [.ptr [.fn fo [] []] 0]] (.agg (aF r).e):=by
 intro G h args ⟨hG,_⟩ ae;obtain⟨va,vf,rfl⟩:∃va vf,args=[va,vf]:=by
  have:=ae.length
  match args,this with
  |[va,vf],_=>exact⟨va,vf,rfl⟩
 obtain⟨aD,aE⟩:Rel (aI h G) va _/\Rel (aI h G) vf _:=by cases ae with|cons h1 h2=>cases h2 with|cons h2 h3=>exact⟨h1,h2⟩
 obtain⟨cells,rfl,hc⟩:=aD.pD;obtain⟨c0,c1,c2,c3,c4,c5,az⟩:∃c0 c1 c2 c3 c4 c5,cells.toList=[c0,c1,c2,c3,c4,c5]:=by
  have:=hc.length
  match cells.toList,this with
  |[c0,c1,c2,c3,c4,c5],_=>exact⟨_,_,_,_,_,_,rfl⟩
 rw[az]at hc;obtain⟨q0,q1,q2,q3,q4,q5⟩:Rel (aI h G) c0 (.sl 3 ((aF a).nodes.map cK))/\Rel (aI h G) c1 (iV (aF a).root)/\Rel (aI h G) c2 (.sl 3 ((aF b).nodes.map cK))/\Rel (aI h G) c3 (iV (aF b).root)/\Rel (aI h G) c4 dQ/\Rel (aI h G) c5 (iV 0):=by
  cases hc with
  |cons h0 hc=>cases hc with
   |cons h1 hc=>cases hc with
    |cons h2 hc=>cases hc with
     |cons h3 hc=>cases hc with
      |cons h4 hc=>cases hc with
       |cons h5 hc=>exact⟨h0,h1,h2,h3,h4,h5⟩
 obtain⟨a1,a2,a3⟩:=tJ ha;obtain⟨b1,b2,b3⟩:=tJ hb;obtain⟨r1,r2,r3⟩:=tJ hr;have ka:=B8 a1;have kb:=B8 b1;have:=q4.cG;subst this;have:=B9 q5;subst this;have e1:c1=.int .i64 ((ey (rv a)).1:Int):=by rw[a3];exact B9 q1
 have e3:c3=.int .i64 ((ey (rv b)).1:Int):=by rw[b3];exact B9 q3
 subst e1;subst e3;rw[<-a2]at q0;rw[<-b2]at q2;obtain⟨fa,fc,rfl,f1,f2⟩:=aE.uK;have aK:fa=#[]:=by have:=f1.length;apply PO;simpa using this
 subst aK;obtain⟨p,aL,hp⟩:∃p,fc.toList=[p]/\Rel (aI h G) p (.ptr [.fn fo [] []] 0):=by
  have:=f2.length
  match hl:fc.toList,this with
  |[p],_=>rw[hl]at f2;cases f2 with|cons h1 h2=>exact⟨p,rfl,h1⟩
 obtain⟨pb,po,ah,cs,rfl,aM,aA⟩:∃pb po ah cs,p=.pointer (some ⟨pb,po,none⟩)/\aI h G pb=some (cs,ah)/\cs[po]? =some (.func (.func fo) #[] #[]):=by
  cases hp with
  | @ptr b o off ah cs xs h1 h2 h3=>
   have hl:o<cs.length:=by simp at h2;omega
   have hq:cs[o+0]? =some cs[o]:=qe hl;have:=h3 0 _ _ rfl hq;obtain⟨a',c',e,g1,g2⟩:=this.uK;have ea:a'=#[]:=by have:=g1.length;apply PO;simpa using this
   have ec:c'=#[]:=by have:=g2.length;apply PO;simpa using this
   subst ea;subst ec;rw[e]at hq;exact⟨b,o,ah,cs,rfl,h1,by simpa using hq⟩
 obtain⟨gG,wr,af⟩:=pS aM;have aP:rd h pb po=some (.func (.func fo) #[] #[]):=(cI af).trans aA;have ab:cells=#[c0,.int .i64 ((ey (rv a)).1:Int),c2,.int .i64 ((ey (rv b)).1:Int),.slice none 0 0,.int .i64 0]:=by apply PO;simpa using az
 have aw:fc=#[.pointer (some ⟨pb,po,none⟩)]:=by apply PO;simpa using aL
 subst ab;subst aw;obtain⟨v,H,w1,⟨sl,N,n,rfl,w2,w3,w4,w5,w6⟩,w7⟩:=Z6 (h:=h) (d0:=⟨c0,(ey (rv a)).2.2,(ey (rv a)).1⟩) (d1:=⟨c2,(ey (rv b)).2.2,(ey (rv b)).1⟩) (d2:=⟨.slice none 0 0,[],0⟩)
  ⟨HK hG q0,ka.ok,ka.v3,by have:=ka.len;simp only;omega⟩ ⟨HK hG q2,kb.ok,kb.v3,by have:=kb.len;simp only;omega⟩ ⟨.inl ⟨rfl,_,_,rfl⟩,⟨λk x hx=>by simp at hx,by simp⟩,λx hx=>by simp at hx,by simp⟩ ka.rl kb.rl (by simp)
  (fo:=164) (cap:=[.pointer (some ⟨pb,po,none⟩)]) (op:=λx y _=>ad x y) (λH hs x y z=>aam av (by
   have:=hs.get pb _ (hG _ gG) af;exact(cI this).trans aA) x y z)
 have hN:=Z9 w3 w4 w5;have ai:code (tb N n)=rv r:=by
  unfold rv;congr 1
  funext ρ
  rw[w6 ρ,yl ha,yl hb];exact(aC _ (BY ρ)).symm
 rw[ai]at hN;rw[hN.2]at w2;rw[hN.1]at w1;refine⟨_,oZ h H,aag w1 w7,Nat.le_trans w7.next (TF _),λi hi=>aad h H i hi, ?_⟩;rw[aal,vE,<-r2,<-r3];refine Rel.dG (a:=[sl,.int .i64 ((ey (rv r)).1:Int)]) ?_;exact .cons (aak w2) (.cons (.v _) .nil)
theorem aao(H:aa)(x y:Bool):bK E 137 [.bool x,.bool y] H (.bool (x&&y)) H:=by
 refine lF Tryz.ntmps137 Tryz.results137 rfl ?_;cases x<;>simp(disch:=omega)[go_sem]
theorem aap(H:aa)(x y:Bool):bK E 140 [.bool x,.bool y] H (.bool (x||y)) H:=by
 refine lF Tryz.ntmps140 Tryz.results140 rfl ?_;cases x<;>simp(disch:=omega)[go_sem]
theorem aaq(l:List Nat)(hl:∀c∈l,c<256)(hlen:l.length<=1000):ay E true 161 [.sl 2 (l.map λc=>(aF c).e)] (iV 0):=by
 refine aW Tryz.ntmps161 Tryz.results161 λN=> ?_;simp(disch:=omega)[go_sem];obtain⟨I,hI⟩:∃I:Nat->DS->Prop,∀j d,I j d↔∃(k P:Nat),j+k=l.length/\d=⟨bz [(6,.sl 2 (l.map λc=>(aF c).e)),(7,iV l.length),(8,iV k)],18,[],cw P []⟩:=⟨_,λ_ _=>DE⟩;refine bO I l.length ⟨_,ax.mk (N:=N) ?_ ?_ ?_,(hI _ _).2 ⟨0,N,rfl,rfl⟩⟩ ?_
 . simp(disch:=omega)[go_sem]
 . simp(disch:=omega)[go_sem,Dg.e]
 . simp(disch:=omega)[go_sem]
 . intro j ds ad;obtain⟨k,P,hj,rfl⟩:=(hI _ _).1 ad;clear ad;by_cases af:k<l.length
   . have ab:(k:Int)<l.length:=by omega
     obtain⟨c,hc⟩:∃c,l[k]? =some c:=⟨_,qe af⟩;have ai:=hl c (GP hc);have hk:=Bt c ai;generalize hd:aF c=d at hk;simp(disch:=omega)[go_sem,ab,hc,-getElem?_pos,hd,Dg.e];refine an.mk hk λP2 ao=> ?_;simp(disch:=omega)[go_sem]at ao;simp(disch:=omega)[go_sem,aC];refine⟨j-1,by omega,_,ax.mk (N:=P2) ?_ ?_ ?_,(hI _ _).2 ⟨k+1,P2,by omega,rfl⟩⟩
     . simp(disch:=omega)[go_sem]
     . simp(disch:=omega)[go_sem,Dg.e]
     . simp(disch:=omega)[go_sem]
   . have ab:¬(k:Int)<l.length:=by omega
     simp(disch:=omega)[go_sem,ab]
theorem aar(c:Nat)(hc:c<256):ay E true 162 [.agg (aF c).e] (.bb [.agg (aF c).e,iV 0]):=by
 have hl:(aF c).nodes.length<=4096:=by
  have h:((List.range 256).all λc=>decide ((aF c).nodes.length<=4096))=true:=by kernel_rfl
  simpa using adS.1 h c (by simpa using hc)
 generalize aF c=d at*;refine aW Tryz.ntmps162 Tryz.results162 λN=> ?_;have h2:¬(4096:Int)<d.nodes.length:=by omega
 have h3:¬4096<d.nodes.length:=by omega
 simp(disch:=omega)[go_sem,Dg.e,h2,h3]
theorem HL(a b r:Nat)(ha:a<256)(hb:b<256)(hr:r<256){fo:FuncId}{ae:Bool->Bool->Bool}(av:∀H x y,bK E fo [.bool x,.bool y] H (.bool (ae x y)) H)(aw:∀i,i<8->r.testBit i=ae (a.testBit i) (b.testBit i)):
 ay E true 136 [.agg (aF a).e,.agg (aF b).e,.fn fo [] []] (.bb [.agg (aF r).e,iV 0]):=by
 have h1:=aaq [a,b] (by simp[ha,hb]) (by simp);have h2:=aan a b r ha hb hr av aw;have h3:=aar r hr;simp only[List.map_cons,List.map_nil]at h1;simp only[vE,Dg.e,List.cons_append,List.nil_append]at h1 h2 h3⊢;generalize aF a=A at*;generalize aF b=B at*;generalize aF r=R at*;refine aW Tryz.ntmps136 Tryz.results136 λN=> ?_;simp(disch:=omega)[go_sem];refine an.pl h1 (.cons (dU (ah:=0) (cx (wr:=true) (by simp(disch:=omega)[go_sem])) (.inl rfl) (by decide) rfl (TF _) (by simp)) .nil) λM hM=> ?_;simp(disch:=omega)[go_sem]at hM;simp(disch:=omega)[go_sem];refine an.fz h2 [N+1+1] ?_ (.cons (.refl _) (.cons (.fn rfl (λi v d h1 h2=>by simp at h1) rfl (λi v d h1 h2=> ?_)) .nil)) λM2 az=> ?_
 . simp(disch:=omega)[go_sem]
 . cases i with
   |succ i=>simp at h1
   |zero=>
    simp only[Zj,VK]at h1 h2;subst h1;subst h2;exact .ptr (o:=0) (off:=0) (ah:=0) (gr (wr:=true) (by simp) (by simp(disch:=omega)[go_sem];try rfl)) (by simp) λi v d h1 h2=>by
     cases i with
     |succ i=>simp at h1
     |zero=>simp only[Nat.zero_add,Zj,VK]at h1 h2;subst h1;subst h2;exact .refl _
 simp(disch:=omega)[go_sem]at az;simp(disch:=omega)[go_sem];refine an.mk h3 λM3 aA=> ?_;simp(disch:=omega)[go_sem]at aA;simp(disch:=omega)[go_sem]
theorem vF(a b:Nat)(ha:a<256)(hb:b<256):ay E true 95 [.agg (aF a).e,.agg (aF b).e] (.bb [.agg (aF (a&&&b)).e,iV 0]):=by
 have h1:=HL a b (a&&&b) ha hb (Nat.lt_of_le_of_lt Nat.and_le_left ha) aao λi _=>Nat.testBit_and ..;simp only[Dg.e]at h1⊢;generalize aF a=A at*;generalize aF b=B at*;generalize aF (a&&&b)=R at*;refine aW Tryz.ntmps95 Tryz.results95 λN=> ?_;simp(disch:=omega)[go_sem];refine an.mk h1 λM hM=> ?_;simp(disch:=omega)[go_sem]at hM;simp(disch:=omega)[go_sem]
theorem Ca(a b:Nat)(ha:a<256)(hb:b<256):ay E true 99 [.agg (aF a).e,.agg (aF b).e] (.bb [.agg (aF (a|||b)).e,iV 0]):=by
 have h1:=HL a b (a|||b) ha hb (Nat.or_lt_two_pow (n:=8) ha hb) aap λi _=>Nat.testBit_or ..;simp only[Dg.e]at h1⊢;generalize aF a=A at*;generalize aF b=B at*;generalize aF (a|||b)=R at*;refine aW Tryz.ntmps99 Tryz.results99 λN=> ?_;simp(disch:=omega)[go_sem];refine an.mk h1 λM hM=> ?_;simp(disch:=omega)[go_sem]at hM;simp(disch:=omega)[go_sem]
theorem aat(o p:Operand)(a b c a' b' c':Int):cD E .neq 106 o p (.agg #[.int .i64 a,.int .i64 b,.int .i64 c]) (.agg #[.int .i64 a',.int .i64 b',.int .i64 c'])=some (.bool (!(decide (a=a')&&(decide (b=b')&&decide (c=c'))))):=by
 have hg:Tryz.prog.eqGuardType Tryz.prog.depth 106=false:=by kernel_rfl
 show eD Tryz.prog _=_;simp[eD,eqGuard,binOp,lV,tw,rS,hg,He,-bind_pure_comp];rfl
theorem aau(o p:Operand)(a b c a' b' c':Int):iY E .neq 106 o p (.agg [.v (.int .i64 a),.v (.int .i64 b),.v (.int .i64 c)]) (.agg [.v (.int .i64 a'),.v (.int .i64 b'),.v (.int .i64 c')])=some (.v (.bool (!(decide (a=a')&&(decide (b=b')&&decide (c=c')))))):=by
 show(cD E .neq 106 o p (.agg #[.int .i64 a,.int .i64 b,.int .i64 c]) (.agg #[.int .i64 a',.int .i64 b',.int .i64 c'])).map DV.v=_;rw[aat];rfl
theorem aav(a b:List (Int×Int×Int))(hl:a.length<=10000):ay E true 141 [.sl 3 (a.map cK),.sl 3 (b.map cK)] (bV (decide (a=b))):=by
 obtain⟨R,hR⟩:∃R,R=decide (a=b):=⟨_,rfl⟩;rw[<-hR];refine aW Tryz.ntmps141 Tryz.results141 λN=> ?_;by_cases hlen:a.length=b.length
 . have e1:(a.length:Int)=b.length:=by omega
   simp(disch:=omega)[go_sem,hlen];obtain⟨I,hI⟩:∃I:Nat->DS->Prop,∀j d,I j d↔∃(k P:Nat),j+k=a.length/\a.take k=b.take k/\d=⟨bz [(0,.sl 3 (a.map cK)),(1,.sl 3 (b.map cK)),(12,iV b.length),(13,iV k)],26,[],cw P []⟩:=⟨_,λ_ _=>DE⟩;refine bO I a.length ⟨_,ax.mk (N:=N) ?_ ?_ ?_,(hI _ _).2 ⟨0,N,rfl,rfl,rfl⟩⟩ ?_
   . simp(disch:=omega)[go_sem]
   . simp(disch:=omega)[go_sem]
   . simp(disch:=omega)[go_sem]
   . intro j ds av;obtain⟨k,P,hj,ad,rfl⟩:=(hI _ _).1 av;clear av;by_cases aw:k<a.length
     . have aa:(k:Int)<b.length:=by omega
       have af:k<b.length:=by omega
       obtain⟨x,hx⟩:∃x,a[k]? =some x:=⟨_,qe aw⟩;obtain⟨y,hy⟩:∃y,b[k]? =some y:=⟨_,qe af⟩;obtain⟨x1,x2,x3⟩:=x;obtain⟨y1,y2,y3⟩:=y;simp(disch:=omega)[go_sem,aa,hx,hy,-getElem?_pos];refine bR [ae 0,ae 0,ae 3,aD 7,ae 0,ae 0,ae 48,aD 112,ae 255] (by kernel_rfl) 0 rfl ?_;simp(disch:=omega)[go_sem,aa,hx,hy,-getElem?_pos,cK,aau];by_cases he:x1=y1/\x2=y2/\x3=y3
       . obtain⟨h1,h2,h3⟩:=he;simp(disch:=omega)[go_sem,h1,h2,h3,aC];refine⟨j-1,by omega,_,ax.mk (N:=P) ?_ ?_ ?_,(hI _ _).2 ⟨k+1,P,by omega, ?_,rfl⟩⟩
         . simp(disch:=omega)[go_sem]
         . simp(disch:=omega)[go_sem,cK]
         . simp(disch:=omega)[go_sem]
         . rw[Qc,Qc,ad,hx,hy,h1,h2,h3]
       . have ai:R=false:=by
          rw[hR,decide_eq_false_iff_not];intro ab;subst ab;rw[hx]at hy;simp only[VK,ZJ]at hy;exact he hy
         have az:(!decide (x1=y1)||(!decide (x2=y2)|| !decide (x3=y3)))=true:=by
          by_cases q1:x1=y1
          . by_cases q2:x2=y2
            . by_cases q3:x3=y3
              . exact absurd ⟨q1,q2,q3⟩ he
              . simp[q3]
            . simp[q2]
          . simp[q1]
         rw[az];simp(disch:=omega)[go_sem,ai]
     . have aa:¬(k:Int)<b.length:=by omega
       have ab:R=true:=by
        rw[hR,decide_eq_true_iff];have h1:a.take k=a:=W9 (by omega);have h2:b.take k=b:=W9 (by omega);rw[<-h1,<-h2];exact ad
       simp(disch:=omega)[go_sem,aa,ab]
 . have ai:R=false:=by
    rw[hR,decide_eq_false_iff_not];intro ab;subst ab;exact hlen rfl
   have e1:¬(a.length:Int)=b.length:=by omega
   simp(disch:=omega)[go_sem,hlen,e1,ai]
theorem aaw(x y:Br)(h:lZ x=lZ y):x=y:=by
 obtain⟨a,b,c⟩:=x;obtain⟨a',b',c'⟩:=y;simp only[lZ,ZJ]at h;obtain⟨h1,h2,h3⟩:=h;simp only[ZJ];omega
theorem aax{a b:Nat}(ha:a<256)(hb:b<256)(h:aF a=aF b):a=b:=by
 have h1:=tJ ha;have h2:=tJ hb;have e1:(ey (rv a)).2.2=(ey (rv b)).2.2:=by
  have:(ey (rv a)).2.2.map lZ=(ey (rv b)).2.2.map lZ:=by rw[h1.2.1,h2.2.1,h]
  exact List.map_inj_right (λx y h=>aaw x y h)|>.1 this
 have e2:(ey (rv a)).1=(ey (rv b)).1:=by
  have:((ey (rv a)).1:Int)=(ey (rv b)).1:=by rw[h1.2.2,h2.2.2,h]
  omega
 have key:∀i,i<8->a.testBit i=b.testBit i:=λi hi=>by
  have h3:=yl ha (bL i);have h4:=yl hb (bL i);rw[e1,e2,h4]at h3;have ao:idx (bL i)=i:=by
   have:i=0\/i=1\/i=2\/i=3\/i=4\/i=5\/i=6\/i=7:=by omega
   rcases this with rfl|rfl|rfl|rfl|rfl|rfl|rfl|rfl<;>rfl
  rw[ao]at h3;exact h3.symm
 refine Nat.eq_of_testBit_eq λi=> ?_;by_cases hi:i<8
 . exact key i hi
 . have p:256<=2^i:=Nat.pow_le_pow_right (n:=2) (by omega) (show 8<=i by omega);rw[adT (by omega),adT (by omega)]
theorem HO(a b:Nat)(ha:a<256)(hb:b<256):ay E true 103 [.agg (aF a).e,.agg (aF b).e] (bV (decide (a=b))):=by
 have hl:=xY a ha;have h1:=aav (aF a).nodes (aF b).nodes (by omega);have ab:decide (a=b)=(decide ((aF a).root=(aF b).root)&&decide ((aF a).nodes=(aF b).nodes)):=by
  rw[Bool.eq_iff_iff];simp only[decide_eq_true_iff,Bool.and_eq_true];refine⟨λh=>by subst h;exact⟨rfl,rfl⟩,λ⟨h1,h2⟩=>aax ha hb ?_⟩;cases h3:aF a with
  |mk n r=>cases h4:aF b with
   |mk n' r'=>rw[h3,h4]at h1 h2;simp only at h1 h2;rw[h1,h2]
 rw[ab];generalize aF a=A at*;generalize aF b=B at*;refine aW Tryz.ntmps103 Tryz.results103 λN=> ?_;by_cases hr:A.root=B.root
 . simp(disch:=omega)[go_sem,Dg.e,hr];refine an.mk h1 λM hM=> ?_;simp(disch:=omega)[go_sem]at hM;simp(disch:=omega)[go_sem,hr]
 . simp(disch:=omega)[go_sem,Dg.e,hr]
end Go.Sp
end

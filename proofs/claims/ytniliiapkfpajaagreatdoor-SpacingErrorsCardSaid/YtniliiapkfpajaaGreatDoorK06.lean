/- Parts of a proof. -/
import Derived.Test.YtniliiapkfpajaaGreatDoorK05
open List renaming mem_append->oY,filter_cons->yx,mem_cons->Ey,length_reverse->Q0,mem_of_getElem?->Rb,mem_cons_of_mem->Rm,all_eq_true->UR,length_cons->Xt,getElem?_zip_eq_some->Yt,reverse_cons->adr,getElem?_of_mem->afc,getElem?_eq_some_iff->afd,mem_zipIdx_iff_getElem?->aff,getElem?_eq_getElem->afh,length_map->afk,getElem?_append_right->afm,getElem?_drop->afn,eq_nil_of_length_eq_zero->afo,getElem?_cons_zero->afq,take_length->afr,length_append->aft,drop_eq_nil_of_le->afu,flatMap_cons->afv,drop_drop->afw,mem_reverse->afx,mem_filter->afy,getD_eq_getElem?_getD->afz,getElem?_map->afA
open Option.some renaming injEq->Fj
open Bool renaming and_eq_true->HT,not_true->afl
open Option renaming bind_some->WZ,bind_eq_some_iff->afj,isSome_iff_exists->afp,map_eq_some_iff->afs
open Nat renaming eq_of_beq_eq_true->YN,lt_or_ge->afe,beq->afg,le_refl->afi
set_option linter.all false
set_option maxRecDepth 100000
noncomputable section
namespace Go.aD
variable {e:Env} {G:Nat->Prop} {h:ab} {dh:ah} {t:Tr Value} {dt:Tr DV} {R:Rows} {ar:Bool}
abbrev fB:=Nat->Option (List DV×Nat)
inductive Fz(S:fB):DV->DV->Prop
 |refl (d:DV):Fz S d d
 |agg {a l:List DV}:a.length=l.length->(∀(i:Nat) (v d:DV),a[i]? =some v->l[i]? =some d->Fz S v d)->Fz S (.agg a) (.agg l)
 |bf {a l:List DV}:a.length=l.length->(∀(i:Nat) (v d:DV),a[i]? =some v->l[i]? =some d->Fz S v d)->Fz S (.bf a) (.bf l)
 |fn {f:FuncId} {a c a' c':List DV}:a.length=a'.length->(∀(i:Nat) (v d:DV),a[i]? =some v->a'[i]? =some d->Fz S v d)->c.length=c'.length->(∀(i:Nat) (v d:DV),c[i]? =some v->c'[i]? =some d->Fz S v d)->Fz S (.fn f a c) (.fn f a' c')
 |nil {c k:Nat}:0<k->Fz S (.v (.slice none 0 c)) (.sl k [])
 |sl {b o c k ak n:Nat} {cs:List DV} {xs:List (List DV)}:S b=some (cs,ak)->(ak=0\/ak=k)->0<k->n=xs.length->n<=c->(∀x∈xs,x.length=k)->o+xs.length*k<=cs.length->
  (∀(j:Nat) (x:List DV) (i:Nat) (v d:DV),xs[j]? =some x->x[i]? =some d->cs[o+j*k+i]? =some v->Fz S v d)->Fz S (.v (.slice (some ⟨b,o,none⟩) n c)) (.sl k xs)
 |ptr {b o off ak:Nat} {cs:List DV} {xs:List DV}:S b=some (cs,ak)->o+xs.length<=cs.length->(∀(i:Nat) (v d:DV),xs[i]? =some d->cs[o+i]? =some v->Fz S v d)->Fz S (.v (.pointer (some ⟨b,o+off,none⟩))) (.ptr xs off)
 |sub {k:Nat} {xs ys:List (List DV)}:xs.length=ys.length->(∀(j:Nat) (x y:List DV),xs[j]? =some x->ys[j]? =some y->x.length=y.length)->(∀(j:Nat) (x y:List DV) (i:Nat) (v d:DV),xs[j]? =some x->ys[j]? =some y->x[i]? =some v->y[i]? =some d->Fz S v d)->Fz S (.sl k xs) (.sl k ys)
abbrev de(S:fB):List DV->List DV->Prop:=aU (Fz S)
def Fz.dG{S:fB}{a l:List DV}(h:de S a l):Fz S (.agg a) (.agg l):=.agg h.length λi v d h1 h2=>by
 obtain⟨d',h3,h4⟩:=h.get i v h1;rw[h2]at h3;cases h3;exact h4
def Fz.jP{S:fB}{a l:List DV}(h:de S a l):Fz S (.bf a) (.bf l):=.bf h.length λi v d h1 h2=>by
 obtain⟨d',h3,h4⟩:=h.get i v h1;rw[h2]at h3;cases h3;exact h4
def de.refl{S:fB}:∀(l:List DV),de S l l
 |[]=>.nil
 |d::l=>aU.cons (Fz.refl d) (de.refl l)
def Fz.mono{S S':fB}(hS:∀i r,S i=some r->S' i=some r){a b:DV}(h:Fz S a b):Fz S' a b:=by
 induction h with
 |refl d=>exact .refl d
 |agg h1 _ ih=>exact .agg h1 ih
 |bf h1 _ ih=>exact .bf h1 ih
 |fn h1 _ h3 _ az aA=>exact .fn h1 az h3 aA
 |nil h=>exact .nil h
 |sl h1 h2 h3 h4 h5 h6 h7 _ ih=>exact .sl (hS _ _ h1) h2 h3 h4 h5 h6 h7 ih
 |ptr h1 h2 _ ih=>exact .ptr (hS _ _ h1) h2 ih
 |sub h1 h2 _ ih=>exact .sub h1 h2 ih
def Rel.fz{S:fB}{G':Nat->Prop}(x:bP G h dh)(hS:∀i cs ak,S i=some (cs,ak)->G' i/\∃wr,dh.get i=some (.row cs wr ak))(hG:∀i,G i->G' i){d d':DV}(hf:Fz S d d'):∀{v:Value},Rel (aP h G) v d->Rel (aP h G') v d':=by
 have hm:∀i r,aP h G i=some r->aP h G' i=some r:=iA λi hg=>⟨hG i hg,rfl⟩;have row:∀{b:Nat} {cs:List DV} {ak:Nat},S b=some (cs,ak)->∃an,aP h G' b=some (an,ak)/\cj (aP h G) an cs:=λhb=>by
  obtain⟨h1,wr,h2⟩:=hS _ _ _ hb;obtain⟨_,ao,h3,h4⟩:=x.obj _ _ h2;cases h4 with
  |row h4=>exact⟨_,rS h1 h3,h4⟩
 induction hf with
 |refl d=>exactλhv=>hv.mono hm
 |agg h1 _ ih=>
  intro v hv;obtain⟨a,rfl,hr⟩:=hv.pY;refine .agg (by rw[hr.length,h1]) λi u d h2 h3=> ?_;obtain⟨c,h4,h5⟩:=hr.get i u h2;exact ih i c d h4 h3 h5
 |bf h1 _ ih=>
  intro v hv;obtain⟨a,rfl,hr⟩:=hv.AM;refine .bf (by rw[hr.length,h1]) λi u d h2 h3=> ?_;obtain⟨c,h4,h5⟩:=hr.get i u h2;exact ih i c d h4 h3 h5
 |fn h1 _ h3 _ az aA=>
  intro v hv;obtain⟨a,c,rfl,aG,aH⟩:=hv.vA;refine .fn (by rw[aG.length,h1]) (λi u d h2 h3=> ?_) (by rw[aH.length,h3]) (λi u d h2 h3=> ?_)
  . obtain⟨c,h4,h5⟩:=aG.get i u h2;exact az i c d h4 h3 h5
  . obtain⟨c,h4,h5⟩:=aH.get i u h2;exact aA i c d h4 h3 h5
 |nil hk=>
  intro v hv;have:=hv.cT;subst this;exact .jO hk
 |sl h1 h2 h3 h4 h5 h6 h7 _ ih=>
  intro v hv;have:=hv.cT;subst this;obtain⟨an,q1,q2⟩:=row h1;subst h4;refine .sl q1 h2 h3 h5 h6 (by rw[q2.length];exact h7) λj y i u d e1 e2 e3=> ?_;obtain⟨c,e4,e5⟩:=q2.get _ u e3;exact ih j y i c d e1 e2 e4 e5
 |ptr h1 h2 _ ih=>
  intro v hv;have:=hv.cT;subst this;obtain⟨an,q1,q2⟩:=row h1;refine .ptr q1 (by rw[q2.length];exact h2) λi u d e2 e3=> ?_;obtain⟨c,e4,e5⟩:=q2.get _ u e3;exact ih i c d e2 e4 e5
 | @sub k xs ys h1 h2 _ ih=>
  intro v hv;cases hv with
  |jO hk=>
   have:ys=[]:=afo (by rw[<-h1];rfl);subst this;exact .jO hk
  | @sl b o c _ ak cs _ q1 q2 q3 q4 q5 q6 q7=>
   have hlen:xs.length=ys.length:=h1;rw[h1]at q4 q6⊢;refine .sl (hm _ _ q1) q2 q3 q4 (λy hy=> ?_) q6 λj y i u d e1 e2 e3=> ?_
   . obtain⟨j,hj⟩:=afc hy;have aK:=(afd.1 hj).1;have hx:xs[j]? =some xs[j]:=afh aa;rw[<-h2 j _ y hx hj];exact q5 _ (Rb hx)
   . have aK:=(afd.1 e1).1;have hx:xs[j]? =some xs[j]:=afh aa;have e4:=h2 j _ y hx e1;have aT:=(afd.1 e2).1;have aJ:(xs[j])[i]? =some (xs[j])[i]:=afh aa;exact ih j _ y i _ d hx e1 aJ e2 (q7 j _ i u _ hx aJ e3)
def cj.fz{S:fB}{G':Nat->Prop}(x:bP G h dh)(hS:∀i cs ak,S i=some (cs,ak)->G' i/\∃wr,dh.get i=some (.row cs wr ak))(hG:∀i,G i->G' i):∀{l l':List DV} {vs:List Value},de S l l'->cj (aP h G) vs l->cj (aP h G') vs l'
 |_,_,_,.nil,.nil=>.nil
 |_,_,_,.cons h1 h2,.cons h3 h4=>.cons (Rel.fz x hS hG h1 h3) (cj.fz x hS hG h2 h4)
def rowsOf(dh:ah)(l:List Nat):fB:=λi=>if i∈l then match dh.get i with|some (.row cs _ ak)=>some (cs,ak)|_=>none else none
def eV(dh:ah):List Nat->ah
 |[]=>dh
 |i::l=>(eV dh l).set i none
def kU(dh:ah)(i:Nat):∀(l:List Nat),(eV dh l).get i=if i∈l then none else dh.get i
 |[]=>by simp[eV]
 |j::l=>by
  simp only[eV,ah.bD,kU dh i l,Ey];by_cases h1:i=j<;>by_cases h2:i∈l<;>simp[h1,h2]
def tL(dh:ah):∀(l:List Nat),(eV dh l).next=dh.next
 |[]=>rfl
 |_::l=>tL dh l
def rW{dh:ah}{l:List Nat}{i:Nat}{cs:List DV}{ak:Nat}(h:rowsOf dh l i=some (cs,ak)):i∈l/\∃wr,dh.get i=some (.row cs wr ak):=by
 unfold rowsOf at h
 split at h
 . rename_i hi
   split at h
   . rename_i cs' wr aj hg;cases h;exact⟨hi,wr,hg⟩
   . cases h
 . cases h
def fq{dh:ah}{l:List Nat}{i:Nat}{cs:List DV}{wr:Bool}{ak:Nat}(hi:i∈l)(hg:dh.get i=some (.row cs wr ak)):rowsOf dh l i=some (cs,ak):=by
 unfold rowsOf;rw[if_pos hi,hg]
def bP.drop(x:bP G h dh)(l:List Nat)(hl:∀i∈l,(dh.get i).isSome=true):bP (λi=>G i\/i∈l) h (eV dh l)/\Kp G h dh (λi=>G i\/i∈l) h (eV dh l):=by
 have hm:∀i r,aP h G i=some r->aP h (λi=>G i\/i∈l) i=some r:=iA λi hg=>⟨.inl hg,rfl⟩;refine⟨⟨x.e9.mono hm,by rw[tL];exact x.next,λi o ho=> ?_,λi hi=> ?_⟩,⟨afi _,λi _ hd=>⟨rfl, ?_⟩,λi hg=>.inl hg,λi _ hg=> ?_⟩⟩
 . rw[kU]at ho
   split at ho
   . cases ho
   . obtain⟨h1,ao,h2,h3⟩:=x.obj i o ho;exact⟨h1,ao,h2,h3.mono hm⟩
 . rw[kU];rcases hi with hi|hi
   . refine⟨(x.still i hi).1, ?_⟩
     split
     . rfl
     . exact(x.still i hi).2
   . rw[if_pos hi];obtain⟨o,ho⟩:=afp.1 (hl i hi);exact⟨(x.obj i o ho).1,rfl⟩
 . rw[kU];split
   . rfl
   . exact hd
 . rcases hg with hg|hg
   . exact .inl hg
   . exact .inr (hl i hg)
def aB(d d':DS):Prop:=∀G s,SD G s d->∃G',SD G' s d'/\Kp G s.h d.h G' s.h d'.h
def aB.refl(d:DS):aB d d:=λG s h=>⟨G,h,Kp.refl _ _ _⟩
def aB.trans{a b c:DS}(h1:aB a b)(h2:aB b c):aB a c:=λG s h=>let⟨G1,q1,q2⟩:=h1 G s h;let⟨G2,q3,q4⟩:=h2 G1 s q1;⟨G2,q3,q2.trans q4⟩
def aB.of{t t':Tr DV}{n:Nat}{dd:List FuncId}{dh ae:ah}(l:List Nat)(hl:∀i∈l,(dh.get i).isSome=true)(hn:ae.next=dh.next)
 (ht:∀i v,t'.get i=some v->∃u,t.get i=some u/\Fz (rowsOf dh l) u v) (hh:∀i o,ae.get i=some o->i∉l/\(dh.get i=some o\/∃cs cs' wr ak,dh.get i=some (.row cs wr ak)/\o=.row cs' wr ak/\de (rowsOf dh l) cs cs')):aB ⟨t,n,dd,dh⟩ ⟨t',n,dd,ae⟩:=by
 intro G s ⟨q1,q2,q3,q4⟩;obtain⟨k1,k2⟩:=q4.drop l hl;have hS:∀i cs ak,rowsOf dh l i=some (cs,ak)->(G i\/i∈l)/\∃wr,dh.get i=some (.row cs wr ak):=λi cs ak hr=>by
  obtain⟨h1,h2⟩:=rW hr;exact⟨.inr h1,h2⟩
 have hm:∀i r,aP s.h G i=some r->aP s.h (λi=>G i\/i∈l) i=some r:=iA λi hg=>⟨.inl hg,rfl⟩;refine⟨λi=>G i\/i∈l,⟨q1,λi v hv=> ?_,q3,⟨k1.e9, ?_,λi o ho=> ?_,λi hi=>⟨(k1.still i hi).1, ?_⟩⟩⟩,⟨afi _,λi hi hd=>⟨rfl, ?_⟩,k2.up,k2.bp⟩⟩
 . obtain⟨u,h1,h2⟩:=ht i v hv;obtain⟨w,h3,h4⟩:=q2 i u h1;exact⟨w,h3,Rel.fz q4 hS (λi hg=>.inl hg) h2 h4⟩
 . show s.h.next=ae.next;rw[hn];exact q4.next
 . obtain⟨h1,h2⟩:=hh i o ho;rcases h2 with h2|⟨cs,cs',wr,ak,h2,rfl,h3⟩
   . obtain⟨h4,ao,h5,h6⟩:=q4.obj i o h2;exact⟨h4,ao,h5,h6.mono hm⟩
   . obtain⟨h4,ao,h5,h6⟩:=q4.obj i _ h2;cases h6 with
     |row h6=>exact⟨h4,_,h5,.row (cj.fz q4 hS (λi hg=>.inl hg) h3 h6)⟩
 . cases hd:ae.get i with
   |none=>rfl
   |some o=>
    obtain⟨h1,h2⟩:=hh i o hd;have:(eV dh l).get i=none:=(k1.still i hi).2;rw[kU,if_neg h1]at this;rcases h2 with h2|⟨_,_,_,_,h2,_⟩<;>rw[this]at h2<;>cases h2
 . cases aL:ae.get i with
   |none=>rfl
   |some o=>
    obtain⟨h1,h2⟩:=hh i o aL;have hd:dh.get i=none:=hd;rcases h2 with h2|⟨_,_,_,_,h2,_⟩<;>rw[hd]at h2<;>cases h2
def aB.forget{t t':Tr DV}{n:Nat}{dd:List FuncId}{dh ae:ah}(hn:ae.next=dh.next)(ht:∀i v,t'.get i=some v->t.get i=some v)(hh:∀i o,ae.get i=some o->dh.get i=some o):aB ⟨t,n,dd,dh⟩ ⟨t',n,dd,ae⟩:=
 aB.of [] (λi hi=>by cases hi) hn (λi v hv=>⟨v,ht i v hv,.refl v⟩) λi o ho=>⟨aw,.inl (hh i o ho)⟩
def KI(I:Nat->DS->Prop)(j:Nat)(K:bu->DS->Prop):bu->DS->Prop:=λx s1=>match x with|.normal=>∃j',j'<j/\∃d',aB s1 d'/\I j' d'|x=>K x s1
def WD.loop(he:e.Ok)(ai:e.P.follows .mixedOrders=true){c:Code}{K:bu->DS->Prop}(I:Nat->DS->Prop)(hI:∀j d,I j d->RD e ar c d (KI I j K))(j:Nat)(d:DS)(hw:∃d',aB d d'/\I j d'):WD e ar (.loop c) d K:=by
 intro G s hs;obtain⟨d',h1,h2⟩:=hw;obtain⟨G1,h3,h4⟩:=h1 G s hs;refine(WQ.loop (λj s1=>∃d1 G2,SD G2 s1 d1/\Kp G s.h d.h G2 s1.h d1.h/\I j d1) (λj s1 ⟨d1,G2,q1,q2,q3⟩=> ?_) j s ⟨d',G1,h3,h4,h2⟩);refine(RD.wd he ai c d1 _ (hI j d1 q3) G2 s1 q1).mono λx s2 ⟨d2,G3,r1,r2,r3⟩=> ?_;cases x with
 |normal=>
  obtain⟨j',hj,d3,r4,r5⟩:=r3;obtain⟨G4,r6,r7⟩:=r4 G3 s2 r1;exact⟨j',hj,d3,G4,r6,q2.trans (r2.trans r7),r5⟩
 |exit i=>exact⟨d2,G3,r1,q2.trans r2,r3⟩
 |ret=>exact⟨d2,G3,r1,q2.trans r2,r3⟩
def qu(G:Nat->Prop)(h h':ab):Nat->Prop:=λi=>G i\/(h.next<=i/\i<h'.next)
def nR(G:Nat->Prop)(h:ab)(dv:DV)(v:Value)(h':ab):Prop:=h.next<=h'.next/\(∀i,i<h.next->h'.get i=h.get i)/\Rel (aP h' (qu G h h')) v dv
def FR(G:Nat->Prop)(h:ab):Prop:=(∀i,G i->i<h.next)/\oQ (aP h G)
def ay(e:Env)(ar:Bool)(f:FuncId)(ad:List DV)(dv:DV):Prop:=∀G h args,FR G h->cj (aP h G) args ad->match ar with
 |true=>∃v h',bU e f args h v h'/\nR G h dv v h'
 |false=>fm e f args h (nR G h dv)
abbrev R0(e:Env):=ay e true
def ay.any{f:FuncId}{ad:List DV}{dv:DV}(hf:R0 e f ad dv):ay e ar f ad dv:=by
 intro G h args hG ha;obtain⟨v,h',h1,h2⟩:=hf G h args hG ha;cases ar with
 |true=>exact⟨v,h',h1,h2⟩
 |false=>exact h1.k h2
def nR.c{f:FuncId}{dv:DV}(x:bP G h dh)(l:List Nat)(hl:∀i∈l,(dh.get i).isSome=true){v:Value}{h':ab}(hp:nR (λi=>G i\/i∈l) h dv v h'){K:DV->ah->List Nat->Prop}(hk:∀N,dh.next<=N->K dv ((eV dh l).up N) l):lF G h dh K v h':=by
 obtain⟨p1,p2,p3⟩:=hp;obtain⟨k1,k2⟩:=x.drop l hl;have aO:∀i,(G i\/i∈l)->i<h.next:=λi hi=>(k1.still i hi).1;have hm:∀i r,aP h (λi=>G i\/i∈l) i=some r->aP h' (qu (λi=>G i\/i∈l) h h') i=some r:=iA λi hg=>⟨.inl hg,p2 i (aO i hg)⟩;refine⟨dv,(eV dh l).up h'.next,qu (λi=>G i\/i∈l) h h',l,⟨k1.e9.mono hm,rfl,λi o ho=> ?_,λi hi=> ?_⟩,⟨p1,λi hi hd=>⟨p2 i hi, ?_⟩,λi hg=>.inl (.inl hg),λi hi hg=> ?_⟩,p3,λi hi hl=>⟨p2 i hi,by rw[ah.qj,kU,if_neg hl]⟩,hk _ (by rw[<-x.next];exact p1)⟩
 . rw[ah.qj]at ho;obtain⟨h1,ao,h2,h3⟩:=k1.obj i o ho;exact⟨aa,ao,by rw[p2 i h1];exact h2,h3.mono hm⟩
 . rw[ah.qj];rcases hi with hi|hi
   . obtain⟨h1,h2⟩:=k1.still i hi;exact⟨aa,h2⟩
   . refine⟨hi.2, ?_⟩;cases hd:(eV dh l).get i with
     |none=>rfl
     |some o=>have:=(k1.obj i o hd).1;omega
 . rw[ah.qj,kU]
   split
   . rfl
   . exact hd
 . rcases hg with(hg|hg)|hg
   . exact .inl hg
   . exact .inr (hl i hg)
   . omega
def cJ.fz{f:FuncId}{ad dargs':List DV}{dv:DV}{K:DV->ah->List Nat->Prop}(hf:ay e ar f dargs' dv)(l:List Nat)(hl:∀i∈l,(dh.get i).isSome=true)(hz:de (rowsOf dh l) ad dargs')(hk:∀N,dh.next<=N->K dv ((eV dh l).up N) l):cJ e ar f ad dh K:=by
 intro G h args x ha;obtain⟨k1,k2⟩:=x.drop l hl;have aC:cj (aP h (λi=>G i\/i∈l)) args dargs':=cj.fz x (λi cs ak hr=>⟨.inr (rW hr).1,(rW hr).2⟩) (λi hg=>.inl hg) hz ha;have:=hf (λi=>G i\/i∈l) h args ⟨λi hi=>(k1.still i hi).1,k1.e9⟩ aC;cases ar with
 |true=>obtain⟨v,h',h1,h2⟩:=this;exact⟨v,h',h1,h2.c (f:=f) x l hl hk⟩
 |false=>exact fm.mono this λv h' h2=>h2.c (f:=f) x l hl hk
def cJ.of{f:FuncId}{ad:List DV}{dv:DV}{K:DV->ah->List Nat->Prop}(hf:ay e ar f ad dv)(hk:∀N,dh.next<=N->K dv (dh.up N) []):cJ e ar f ad dh K:=
 cJ.fz hf [] (λi hi=>by cases hi) (de.refl _) hk
def allRows(dh:ah):fB:=λi=>match dh.get i with|some (.row cs _ ak)=>some (cs,ak)|_=>none
def cJ.plain{f:FuncId}{ad dargs':List DV}{u:Value}{K:DV->ah->List Nat->Prop}(hf:ay e ar f dargs' (.v u))(hz:de (allRows dh) ad dargs')(hk:∀N,dh.next<=N->K (.v u) (dh.up N) []):cJ e ar f ad dh K:=by
 intro G h args x ha;have aC:cj (aP h (λi=>i<h.next)) args dargs':=cj.fz x (λi cs ak hr=>by
  unfold allRows at hr
  split at hr
  . rename_i cs' wr aj hg;cases hr;exact⟨(x.obj _ _ hg).1,wr,hg⟩
  . cases hr) (λi hg=>(x.still i hg).1) hz ha
 have post:∀v h',nR (λi=>i<h.next) h (.v u) v h'->lF G h dh K v h':=λv h' ⟨p1,p2,p3⟩=>by
  have hm:∀i r,aP h G i=some r->aP h' G i=some r:=iA λi hg=>⟨hg,p2 i (x.still i hg).1⟩;refine⟨.v u,dh.up h'.next,G,[],⟨x.e9.mono hm,rfl,λi o ho=> ?_,λi hi=> ?_⟩,⟨p1,λi hi hd=>⟨p2 i hi,hd⟩,λi hg=>hg,λi hi hg=>.inl hg⟩,by rw[p3.cT];exact .v _,λi hi _=>⟨p2 i hi,rfl⟩,hk _ (by rw[<-x.next];exact p1)⟩
  . obtain⟨h1,ao,h2,h3⟩:=x.obj i o ho;exact⟨aa,ao,by rw[p2 i h1];exact h2,h3.mono hm⟩
  . obtain⟨h1,h2⟩:=x.still i hi;exact⟨aa,h2⟩
 have:=hf (λi=>i<h.next) h args ⟨λi hi=>hi,x.e9.mono (iA λi hg=>⟨(x.still i hg).1,rfl⟩)⟩ aC;cases ar with
 |true=>obtain⟨v,h',h1,h2⟩:=this;exact⟨v,h',h1,post v h' h2⟩
 |false=>exact fm.mono this post
def fZ(e:Env)(s:DS):List ResultVar->Option (List DV)
 |[]=>some []
 |r::rs=>match(match r with
  |.tmp t=>s.t.get t
  |.cell a t=>(s.t.get a).bind (iN e s.h t)),fZ e s rs with
  |some v,some vs=>some (v::vs)
  |_,_=>none
def Bc{s:aM}{d:DS}(hs:SD G s d):∀{rs:List ResultVar} {l:List DV},fZ e d rs=some l->∃vs,gZ e s rs=some vs/\cj (aP s.h G) vs l
 |[],l,h=>by simp only[fZ,Fj]at h;subst h;exact⟨[],rfl,.nil⟩
 |r::rs,l,h=>by
  simp only[fZ]at h
  split at h
  . rename_i v vs h1 h2;cases h;obtain⟨ws,h3,h4⟩:=Bc hs h2;cases r with
    |tmp t=>
     obtain⟨u,h5,h6⟩:=hs.t t v h1;exact⟨u::ws,by rw[E7,h5,AB,h3];rfl,.cons h6 h4⟩
    |cell a t=>
     obtain⟨p,h5,h6⟩:=afj.1 h1;obtain⟨u,h7,h8⟩:=hs.t a p h5;obtain⟨w,h9,aR⟩:=Fu hs.h h8 h6;exact⟨w::ws,by rw[E8,h7,WZ,h9,AB,h3];rfl,.cons aR h4⟩
  . cases h
def jS:List DV->DV
 |[v]=>v
 |vs=>.bf vs
def FT{vs:List Value}{l:List DV}(h:cj R vs l):Rel R (jM vs) (jS l):=by
 match vs,l,h with
 |[],[],_=>exact Rel.jP .nil
 |[v],[d],.cons h1 .nil=>exact h1
 |v::w::vs,d::c::l,h=>exact Rel.jP h
def gD(args:List DV):Tr DV:=Tr.ofList args 0 .nil
def ib(e:Env)(rs:List ResultVar)(K:DV->ah->Prop)(x:bu)(s:DS):Prop:=(∀i,x≠.exit i)/\(∀g∈s.dd,e.idle g=true)/\aN (fZ e s rs) λl=>K (jS l) s.h
def Bd{h:ab}:∀{ds:List Deferred} {dd:List FuncId},aU rT ds dd->(∀g∈dd,e.idle g=true)->kL e ds h=some h
 |_,_,.nil,_=>rfl
 |_,_,.cons (b:=g) ⟨cap,args,h1⟩ h2,hi=>by
  subst h1;simp only[kL,hi g aw,cond_true];exact Bd h2 λg hg=>hi g (Rm _ hg)
def FU:∀{args:List Value} {ad:List DV} {i:Nat} {t:Tr Value} {dt:Tr DV},cj R args ad->TD R t dt->TD R (Tr.ofList args i t) (Tr.ofList ad i dt)
 |_,_,_,_,_,.nil,ht=>ht
 |_,_,i,_,_,.cons h1 h2,ht=>by simp only[Tr.ofList];exact FU h2 (TD.put ht (some i) h1)
def FV{args:List Value}{ad:List DV}(aS:oQ R)(h:cj R args ad):TD R (gQ args) (gD ad):=FU h ⟨aS,λi v hv=>by rw[Tr.get_nil]at hv;cases hv⟩
def cJ.body(he:e.Ok)(ai:e.P.follows .mixedOrders=true)(af:Idle e){f:FuncId}{fn:Func}{c:Code}{ad:List DV}{K:DV->ah->Prop}(av:e.fn f=some fn)(hb:fn.body=some c){n:Nat}(hn:fn.ntmps=n){rs:List ResultVar}(aE:fn.results=rs.toArray)
 (hq:RD e ar c ⟨gD ad,ad.length+(n-ad.length),[],dh⟩ (ib e rs K)) (G:Nat->Prop) (h:ab) (args:List Value) (x:bP G h dh) (ha:cj (aP h G) args ad):
 match ar with
 |true=>∃v h',bU e f args h v h'/\∃d ae G',bP G' h' ae/\Kp G h dh G' h' ae/\Rel (aP h' G') v d/\K d ae
 |false=>fm e f args h λv h'=>∃d ae G',bP G' h' ae/\Kp G h dh G' h' ae/\Rel (aP h' G') v d/\K d ae:=by
 subst hn;have hlen:args.length=ad.length:=ha.length;have hs:SD G ⟨gQ args,args.length+(fn.ntmps-args.length),[],h⟩ ⟨gD ad,ad.length+(fn.ntmps-ad.length),[],dh⟩:=⟨by simp only[hlen],(FV x.e9 ha).all,.nil,x⟩;have key:=RD.wd he ai c _ _ hq G _ hs;have fin:∀x s',kT G h dh (ib e rs K) x s'->oK e fn.results.toList (λv h'=>∃d ae G',bP G' h' ae/\Kp G h dh G' h' ae/\Rel (aP h' G') v d/\K d ae) x s':=by
  rintro x s' ⟨d',G',q1,q2,q3,q4,l,q5,q6⟩;obtain⟨vs,q7,q8⟩:=Bc q1 q5;refine⟨q3,s'.h,vs,Bd q1.dd q4,by rw[aE];exact q7,jS l,d'.h,G',q1.h,q2,FT q8,q6⟩
 cases ar with
 |false=>exact fm.of he af av hb (WR.mono key fin)
 |true=>
  obtain⟨x,s',h1,h2⟩:=key;obtain⟨h3,h4,vs,h5,h6,h7⟩:=fin x s' h2;refine⟨jM vs,h4, ?_,h7⟩;have:=zW he af (Ai h1) f args h (jM vs) h4 (by
   unfold pX;simp only[av,hb];have:p9 c {t:=gQ args,n:=args.length+(fn.ntmps-args.length),ds:=[],h} x s' none c {t:=gQ args,n:=args.length+(fn.ntmps-args.length),ds:=[],h}=some (x,s'):=by
    unfold p9;rw[if_pos ⟨rfl,rfl,rfl⟩]
   rw[this];cases x with
   |exit i=>exact absurd rfl (h3 i)
   |normal=>
    simp only[h5,h6]
    match vs with
    |[]=>rfl
    |[v]=>rfl
    |_::_::_=>rfl
   |ret=>
    simp only[h5,h6]
    match vs with
    |[]=>rfl
    |[v]=>rfl
    |_::_::_=>rfl)
  exact this
def ay.of(he:e.Ok)(ai:e.P.follows .mixedOrders=true)(af:Idle e){f:FuncId}{fn:Func}{c:Code}{ad:List DV}{dv:DV}(av:e.fn f=some fn)(hb:fn.body=some c){n:Nat}(hn:fn.ntmps=n){rs:List ResultVar}(aE:fn.results=rs.toArray)
 (hq:∀N,RD e ar c ⟨gD ad,ad.length+(n-ad.length),[],ah.none N⟩ (ib e rs λd h=>Fz (allRows h) d dv)):ay e ar f ad dv:=by
 intro G h args hG ha;have x:bP G h (ah.none h.next):=⟨hG.2,rfl,λi o ho=>(by rw[ah.get_none]at ho;cases ho),λi hi=>⟨hG.1 i hi,ah.get_none _ _⟩⟩;have key:=cJ.body he ai af av hb hn aE (hq h.next) G h args x ha;have fin:∀v h',(∃d ae G',bP G' h' ae/\Kp G h (ah.none h.next) G' h' ae/\Rel (aP h' G') v d/\Fz (allRows ae) d dv)->nR G h dv v h':=by
  rintro v h' ⟨d,ae,G',q1,q2,q3,q4⟩;refine⟨q2.next,λi hi=>(q2.same i hi (ah.get_none _ _)).1,Rel.fz (G':=qu G h h') q1 (λi cs ak hr=> ?_) (λi hg=> ?_) q4 q3⟩
  . unfold allRows at hr
    split at hr
    . rename_i cs' wr aj hg;cases hr;refine⟨.inr ⟨?_,(q1.obj _ _ hg).1⟩,wr,hg⟩;rcases afe i h.next with hi|hi
      . rw[(q2.same i hi (ah.get_none _ _)).2]at hg;cases hg
      . exact hi
    . cases hr
  . rcases afe i h.next with hi|hi
    . rcases q2.bp i hi hg with h1|h1
      . exact .inl h1
      . rw[ah.get_none]at h1;cases h1
    . exact .inr ⟨hi,(q1.still i hg).1⟩
 cases ar with
 |true=>obtain⟨v,h',h1,h2⟩:=key;exact⟨v,h',h1,fin v h' h2⟩
 |false=>exact fm.mono key fin
end Go.aD
end
noncomputable section
namespace Go.aD
variable {e:Env} {ar:Bool}
def fu(K:b9)(dd:List FuncId)(h:ah):DV->Prop:=λv=>K v dd h []
def tM(K:b9)(dd:List FuncId)(h:ah):bJ×(Nat->DV)->Prop:=λp=>K (p.2 h.next) dd (h.new p.1) []
def FW(K:b9)(dd:List FuncId)(h:ah):bJ->Prop:=λo=>K (.v (.pointer (some ⟨h.next,0,none⟩))) dd (h.new o) []
def x5(K:b9)(dd:List FuncId):ah×Nat->Prop:=λp=>K cX dd p.1 [p.2]
def FX(K:b9)(dd:List FuncId):DV×ah×List Nat->Prop:=λp=>K p.1 dd p.2.1 p.2.2
def R3(K:b9)(dd:List FuncId):DV×ah×Nat->Prop:=λp=>K p.1 dd p.2.1 [p.2.2]
def au(e:Env)(ar:Bool)(K:b9)(dd:List FuncId)(h:ah):FuncId×List DV->Prop:=λp=>cJ e ar p.1 p.2 h λv h' T=>K v dd h' T
def FY(K:b9)(dd:List FuncId)(h:ah):FuncId×List DV->Prop:=λp=>K cX (p.1::dd) h []
def Bf(e:Env)(ar:Bool)(ops r:List Oper)(t:Tr DV)(n:Nat)(K:DS->Prop)(dst:Option Tmp):b9:=λv dd h _=>eU e ar ops r (cH dst v t) n dd h K
section
variable (K:b9) (dd:List FuncId) (h:ah)
def R4(v:DV):fu K dd h v=K v dd h []:=(rfl)
def R5(o:bJ)(f:Nat->DV):tM K dd h (o,f)=K (f h.next) dd (h.new o) []:=(rfl)
def R6(o:bJ):FW K dd h o=K (.v (.pointer (some ⟨h.next,0,none⟩))) dd (h.new o) []:=(rfl)
def R7(h':ah)(b:Nat):x5 K dd (h',b)=K cX dd h' [b]:=(rfl)
def R8(v:DV)(h':ah)(T:List Nat):FX K dd (v,h',T)=K v dd h' T:=(rfl)
def R9(f:FuncId)(a:List DV):FY K dd h (f,a)=K cX (f::dd) h []:=(rfl)
def Sa(ops r:List Oper)(t:Tr DV)(n:Nat)(K:DS->Prop)(dst:Option Tmp)(v:DV)(T:List Nat):Bf e ar ops r t n K dst v dd h T=eU e ar ops r (cH dst v t) n dd h K:=(rfl)
end
def au.mk{K:b9}{dd:List FuncId}{h:ah}{f:FuncId}{args:List DV}{dv:DV}(hf:ay e ar f args dv)(hk:∀N,h.next<=N->K dv dd (h.up N) []):au e ar K dd h (f,args):=cJ.of hf hk
def au.pl{K:b9}{dd:List FuncId}{h:ah}{f:FuncId}{args ab:List DV}{u:Value}(hf:ay e ar f ab (.v u))(hz:de (allRows h) args ab)(hk:∀N,h.next<=N->K (.v u) dd (h.up N) []):au e ar K dd h (f,args):=cJ.plain hf hz hk
def au.fz{K:b9}{dd:List FuncId}{h:ah}{f:FuncId}{args ab:List DV}{dv:DV}(hf:ay e ar f ab dv)(l:List Nat)(hl:∀i∈l,(h.get i).isSome=true)(hz:de (rowsOf h l) args ab)(hk:∀N,h.next<=N->K dv dd ((eV h l).up N) l):au e ar K dd h (f,args):=cJ.fz hf l hl hz hk
def Sb(v:DV)(t:Tr DV):cH none v t=t:=(rfl)
def Sc(d:Nat)(v:DV)(t:Tr DV):cH (some d) v t=t.set d (some v):=(rfl)
section
variable (ops:List Oper) (dst:Option Tmp) (op:Op) (ty:TypeId) (pos:String) (af:Array Edge) (r:List Oper) (t:Tr DV) (n:Nat) (dd:List FuncId) (h:ah) (K:DS->Prop) (w:Bool)
def mg(e:Env)(ar:Bool)(ops:List Oper)(op:Op)(dst:Option Tmp)(r:List Oper)(t:Tr DV)(n:Nat)(dd:List FuncId)(h:ah)(K:DS->Prop)(w:Bool):DV->Prop:=λg=>aN (match some g with
 |some (.v (.bool b))=>some (b==w)
 |some (.v (.tuple _))=>some false
 |some (.bf _)=>some false
 |_=>none) λx=>match x with
 |true=>cx e ar op t dd h λv dd h _=>eU e ar ops r (cH dst v t) n dd h K
 |false=>eU e ar ops r (cH dst cX t) n dd h K
def Bg(e:Env)(ar:Bool)(ops:List Oper)(op:Op)(dst:Option Tmp)(r:List Oper)(t:Tr DV)(n:Nat)(dd:List FuncId)(h:ah)(K:DS->Prop)(w:Bool):Tmp->Prop:=λd=>aN (t.get d) (mg e ar ops op dst r t n dd h K w)
def Sd:eU e ar ops [] t n dd h K=K ⟨t,n,dd,h⟩:=(rfl)
def Se:eU e ar ops (⟨dst,op,ty,pos,af,none⟩::r) t n dd h K=(dB dst n/\cx e ar op t dd h (Bf e ar ops r t n K dst)):=by
 simp only[eU,iD,gy];rfl
def Sf(j:Nat):eU e ar ops (⟨dst,op,ty,pos,af,some (j,w)⟩::r) t n dd h K=(dB dst n/\aN ((ops[j]?).bind (·.dst)) (Bg e ar ops op dst r t n dd h K w)):=by
 simp only[eU,iD];cases(ops[j]?).bind (·.dst)with
 |none=>simp[aN]
 |some d=>
  simp only[gy,Bg];cases t.get d with
  |none=>simp[aN]
  |some g=>simp only[gy,mg];rfl
def Sg(d:Tmp):Bg e ar ops op dst r t n dd h K w d=aN (t.get d) (mg e ar ops op dst r t n dd h K w):=(rfl)
def Sh:mg e ar ops op dst r t n dd h K w (.v (.bool w))=cx e ar op t dd h (Bf e ar ops r t n K dst):=by
 simp only[mg,beq_self_eq_true,gy];rfl
def Si:mg e ar ops op dst r t n dd h K true (.v (.bool false))=eU e ar ops r (cH dst cX t) n dd h K:=by
 simp[mg,gy]
def Sj:mg e ar ops op dst r t n dd h K false (.v (.bool true))=eU e ar ops r (cH dst cX t) n dd h K:=by
 simp[mg,gy]
def FZ(vs:Array Value):mg e ar ops op dst r t n dd h K w (.v (.tuple vs))=eU e ar ops r (cH dst cX t) n dd h K:=by
 simp[mg,gy]
end
section
variable (t:Tr DV) (dd:List FuncId) (h:ah) (K:b9)
def Sk(x:Operand):cx e ar (.move x) t dd h K=aN (aJ e t x) (fu K dd h):=(rfl)
def Sl(x:Operand):cx e ar (.assign x) t dd h K=aN (aJ e t x) (fu K dd h):=(rfl)
def Sm(c a b:Operand):cx e ar (.pick c a b) t dd h K=aN (qp (aJ e t c) (aJ e t a) (aJ e t b)) (fu K dd h):=(rfl)
def Sn(ty:TypeId)(l:List (Nat×Operand)):cx e ar (.build ty l.toArray) t dd h K=aN ((fP e t l).bind (eo e ty)) (fu K dd h):=by simp[cx,aZ,fu];rfl
def So(ty:TypeId)(a:Operand):cx e ar (.load ty a) t dd h K=aN ((aJ e t a).bind (iN e h ty)) (fu K dd h):=(rfl)
def Sq(x:Operand):cx e ar (.nilCheck x) t dd h K=aN ((aJ e t x).bind kR) (fu K dd h):=(rfl)
def Sr(op:BinOp)(ty:TypeId)(x y:Operand)(z:TypeId):cx e ar (.binOp op ty x y z) t dd h K=aN (fY (iC e op ty x y) (aJ e t x) (aJ e t y)) (fu K dd h):=(rfl)
def Ss(op:UnOp)(ty:TypeId)(x:Operand):cx e ar (.unOp op ty x) t dd h K=aN ((aJ e t x).bind (lx (nI e op))) (fu K dd h):=(rfl)
def St(s d:TypeId)(x:Operand):cx e ar (.convert s d x) t dd h K=aN ((aJ e t x).bind (mR e h s d)) (fu K dd h):=(rfl)
def Su(f:FuncId)(a c:List Operand):cx e ar (.makeFunc (.func f) a.toArray c.toArray) t dd h K=aN (nQ f (cM e t a) (cM e t c)) (fu K dd h):=by simp[cx,aZ,fu];rfl
def Sv(ty:TypeId)(x:Operand)(lo hi mx:Option Operand):cx e ar (.slice ty x lo hi mx) t dd h K=aN (ed e h ty (aJ e t x) (eJ e t lo) (eJ e t hi) (eJ e t mx)) (fu K dd h):=(rfl)
def Sw(s:TypeId)(x:Operand)(f:Nat):cx e ar (.fieldAddr s x f) t dd h K=aN ((aJ e t x).bind (kr e s f)) (fu K dd h):=(rfl)
def Sx(ty:TypeId)(x ix:Operand):cx e ar (.indexAddr ty x ix) t dd h K=aN (fY (λa b=>iB e ty a (fX b)) (aJ e t x) (aJ e t ix)) (fu K dd h):=(rfl)
def Sy(ty:TypeId)(x ix:Operand):cx e ar (.index ty x ix) t dd h K=aN (fY (mQ e ty) (aJ e t x) (aJ e t ix)) (fu K dd h):=(rfl)
def Sz(ty:TypeId)(m k:Operand)(ok:Bool):cx e ar (.lookup ty m k ok) t dd h K=aN (fY (kS e h ty ok) (aJ e t m) (aJ e t k)) (fu K dd h):=(rfl)
def SA(x:Operand)(i:Nat):cx e ar (.extract x i) t dd h K=aN ((aJ e t x).bind (ma i)) (fu K dd h):=(rfl)
def SB(ty:TypeId):cx e ar (.alloc ty) t dd h K=aN (dV e t (.alloc ty)) (tM K dd h):=(rfl)
def SC(ty:TypeId)(x:Operand):cx e ar (.box ty x) t dd h K=aN (dV e t (.box ty x)) (tM K dd h):=(rfl)
def SE(ty:TypeId)(n:Nat)(ps:Array (Nat×Operand)):cx e ar (.buildSlice ty n ps) t dd h K=aN (dV e t (.buildSlice ty n ps)) (tM K dd h):=(rfl)
def SF(ty:TypeId)(n:Option Operand):cx e ar (.makeMap ty n) t dd h K=aN (dV e t (.makeMap ty n)) (tM K dd h):=(rfl)
def SG(ty:TypeId)(l c:Operand):cx e ar (.makeSlice ty l c) t dd h K=aN (dV e t (.makeSlice ty l c)) (tM K dd h):=(rfl)
def SH(ty:TypeId)(a x:Operand):cx e ar (.store ty a x) t dd h K=aN (lC e h ty (aJ e t a) (aJ e t x)) (x5 K dd):=(rfl)
def SI(ty:TypeId)(m k v:Operand):cx e ar (.mapUpdate ty m k v) t dd h K=aN (jn e h ty (aJ e t m) (aJ e t k) (aJ e t v)) (x5 K dd):=(rfl)
def SJ(ty:TypeId)(m k v:Operand):cx e ar (.insert ty m k v) t dd h K=aN (jn e h ty (aJ e t m) (aJ e t k) (aJ e t v)) (x5 K dd):=(rfl)
def SK(ty:TypeId)(x:Operand):cx e ar (.range ty x) t dd h K=aN ((aJ e t x).bind (lD e h ty)) (FW K dd h):=(rfl)
def SL(e:Env)(t:Tr DV)(dd:List FuncId)(h:ah)(it:Operand)(s:Bool)(K:b9):Prop:=(aN ((aJ e t it).bind (kz h · s)) (R3 K dd))\/(s=false/\aN (aJ e t it) λd=>x4 h d λv h r=>K v dd h [r])
def SM(it:Operand)(s:Bool):cx e false (.next it s) t dd h K=SL e t dd h it s K:=(rfl)
def SN(it:Operand):cx e ar (.entry it) t dd h K=aN ((aJ e t it).bind (tK h)) (fu K dd h):=(rfl)
def SO(f:Operand)(args:List Operand)(ad:Array TypeId):cx e ar (.call ⟨.value f,args.toArray,ad⟩) t dd h K=aN (jo (aJ e t f) (cM e t args)) (au e ar K dd h):=by simp[cx];rfl
def SP(f:Operand)(args:List Operand)(ad:Array TypeId):cx e ar (.defer ⟨.value f,args.toArray,ad⟩) t dd h K=aN (jo (aJ e t f) (cM e t args)) (FY K dd h):=by simp[cx];rfl
def SQ(args:List Operand)(ad:Array TypeId):cx e ar (.call ⟨.builtin .append,args.toArray,ad⟩) t dd h K=aN (iO e h ad (cM e t args)) (FX K dd):=by simp[cx];rfl
def SR(x:Operand)(ty:TypeId)(ad:List TypeId):cx e ar (.call ⟨.builtin .len,#[x],(ty::ad).toArray⟩) t dd h K=aN ((aJ e t x).bind (fp e h ty)) (fu K dd h):=by
 simp only[cx,aZ,cM];cases aJ e t x<;>simp[fu,aN,oS]
def SS(args:List Operand)(ad:Array TypeId):cx e ar (.call ⟨.builtin .min,args.toArray,ad⟩) t dd h K=aN (((cM e t args).bind lA).bind λl=>(nK e l).map .v) (fu K dd h):=by simp[cx,aZ,fu];rfl
def SU(args:List Operand)(ad:Array TypeId):cx e ar (.call ⟨.builtin .max,args.toArray,ad⟩) t dd h K=aN (((cM e t args).bind lA).bind λl=>(rJ e l).map .v) (fu K dd h):=by simp[cx,aZ,fu];rfl
end
section
variable (t:Tr DV)
def SV(i:Nat):aJ e t (.tmp i)=t.get i:=(rfl)
def SW(f:FuncId):aJ e t (.func f)=some (.fn f [] []):=(rfl)
def SX(k:IntKind)(n:Int):aJ e t (.const (.int k n))=some (.v (.int k n)):=(rfl)
def SY(b:Bool):aJ e t (.const (.bool b))=some (.v (.bool b)):=(rfl)
def SZ(s:ByteArray):aJ e t (.const (.string s))=some (.v (.string s)):=(rfl)
def S0:aJ e t (.const (.pointer none))=some (.v (.pointer none)):=(rfl)
def S1(l k:Nat):aJ e t (.const (.slice none l k))=some (.v (.slice none l k)):=(rfl)
def S2:aJ e t (.const (.map none))=some (.v (.map none)):=(rfl)
def S3:aJ e t (.const .nilFunc)=some (.v .nilFunc):=(rfl)
def Bh(e:Env)(t:Tr DV)(r:List Operand):Option DV->Option (List DV)
 |none=>none
 |some v=>(cM e t r).map (v::·)
def S4:cM e t []=some []:=(rfl)
def S5(o:Operand)(r:List Operand):cM e t (o::r)=Bh e t r (aJ e t o):=by
 simp only[cM,Bh];cases aJ e t o<;>rfl
def S6(r:List Operand)(v:DV):Bh e t r (some v)=(cM e t r).map (v::·):=(rfl)
def Bi(e:Env)(t:Tr DV)(i:Nat)(r:List (Nat×Operand)):Option DV->Option (List (Nat×DV))
 |none=>none
 |some v=>(fP e t r).map ((i,v)::·)
def S7:fP e t []=some []:=(rfl)
def S8(i:Nat)(o:Operand)(r:List (Nat×Operand)):fP e t ((i,o)::r)=Bi e t i r (aJ e t o):=by
 simp only[fP,Bi];cases aJ e t o<;>rfl
def S9(i:Nat)(r:List (Nat×Operand))(v:DV):Bi e t i r (some v)=(fP e t r).map ((i,v)::·):=(rfl)
def Ta:eJ e t none=some none:=(rfl)
def Tb(o:Operand):eJ e t (some o)=(aJ e t o).map some:=(rfl)
end
def Tc(a:List DV):gD a=Tr.ofList a 0 .nil:=(rfl)
def Td(i:Nat)(t:Tr DV):Tr.ofList [] i t=t:=(rfl)
def Te(v:DV)(l:List DV)(i:Nat)(t:Tr DV):Tr.ofList (v::l) i t=Tr.ofList l (i+1) (t.set i (some v)):=(rfl)
def Tf(f:FuncId)(a c args:List DV):jo (some (.fn f a c)) (some args)=some (f,a++args++c):=(rfl)
def F0{α:Type}(f:DV->DV->Option α)(a b:DV):fY f (some a) (some b)=f a b:=(rfl)
section
variable (op:BinOp) (ty:TypeId) (x y:Operand) (k:IntKind) (n m:Int)
def Tg(a b:Value):iC e op ty x y (.v a) (.v b)=(cL e op ty x y a b).map .v:=(rfl)
end
def Th(f:Value->Option Value)(v:Value):lx f (.v v)=(f v).map .v:=(rfl)
def Ti(a b:Option DV):qp (some (.v (.bool true))) a b=a:=(rfl)
def Tj(a b:Option DV):qp (some (.v (.bool false))) a b=b:=(rfl)
def Tk(a:Addr):kR (.v (.pointer (some a)))=some (.v (.pointer (some a))):=(rfl)
def Tl(xs:List DV)(o:Nat):kR (.ptr xs o)=some (.ptr xs o):=(rfl)
def Tm(i:Nat)(l:List DV):ma i (.bf l)=l[i]? :=(rfl)
def Tn(f:FuncId)(a c:List DV):nQ f (some a) (some c)=some (.fn f a c):=(rfl)
def To(k:IntKind)(i:Int):fX (.v (.int k i))=some i:=(rfl)
def Bj(l:Option (Option Nat))(o:Nat):Option bJ->Option DV
 |some (.row cs _ _)=>fg l cs o
 |_=>none
def Tp(h:ah)(ty:TypeId)(b o:Nat):iN e h ty (.v (.pointer (some ⟨b,o,none⟩)))=Bj (e.ld ty) o (h.get b):=by
 simp only[iN,Bj];cases h.get b with
 |none=>rfl
 |some ob=>cases ob<;>rfl
def Tq(l:Option (Option Nat))(o:Nat)(cs:List DV)(wr:Bool)(ak:Nat):Bj l o (some (.row cs wr ak))=fg l cs o:=(rfl)
def Ts(h:ah)(ty:TypeId)(xs:List DV)(o:Nat):iN e h ty (.ptr xs o)=fg (e.ld ty) xs o:=(rfl)
def Tt(cs:List DV)(o:Nat):fg (some none) cs o=cs[o]? :=(rfl)
def Tu(cs:List DV)(o n:Nat):fg (some (some (n+1))) cs o=if o+(n+1)<=cs.length then some (.agg ((cs.drop o).take (n+1)))else none:=(rfl)
def F1(b o:Nat):Option Nat->Option DV
 |none=>none
 |some k=>some (.v (.pointer (some ⟨b,o+k,none⟩)))
def F2(xs:List DV)(o:Nat):Option Nat->Option DV
 |none=>none
 |some k=>some (.ptr xs (o+k))
def Tv(s f b o:Nat):kr e s f (.v (.pointer (some ⟨b,o,none⟩)))=F1 b o (e.off s f):=by
 simp only[kr];cases e.off s f<;>rfl
def Tw(s f o:Nat)(xs:List DV):kr e s f (.ptr xs o)=F2 xs o (e.off s f):=by
 simp only[kr];cases e.off s f<;>rfl
def Tx(b o k:Nat):F1 b o (some k)=some (.v (.pointer (some ⟨b,o+k,none⟩))):=(rfl)
def Ty(xs:List DV)(o k:Nat):F2 xs o (some k)=some (.ptr xs (o+k)):=(rfl)
def Tz(ty b o len c:Nat)(i:Int):iB e ty (.v (.slice (some ⟨b,o,none⟩) len c)) (some i)=(nL b o len i (e.elem ty)).map .v:=(rfl)
def TA(ty b o:Nat)(i:Int):iB e ty (.v (.pointer (some ⟨b,o,none⟩))) (some i)=(nM b o i (e.arr ty)).map .v:=(rfl)
def x6(i:Int)(k:Nat)(xs:List (List DV)):Option Nat->Option DV
 |none=>none
 |some s=>if s=k then qn i xs else none
def TB(ty k:Nat)(xs:List (List DV))(i:Int):iB e ty (.sl k xs) (some i)=x6 i k xs (e.elem ty):=by
 simp only[iB,x6];cases e.elem ty with
 |none=>rfl
 |some s=>simp only[Fj]
def TE(i:Int)(k:Nat)(xs:List (List DV)):x6 i k xs (some k)=qn i xs:=by simp[x6]
def Bk(n:Nat):Option Nat->Option DV
 |none=>none
 |some _=>some (.v (.int .i64 n))
def TF(n s:Nat):Bk n (some s)=some (.v (.int .i64 n)):=(rfl)
def TG(h:ah)(ty k:Nat)(xs:List (List DV)):fp e h ty (.sl k xs)=Bk xs.length (e.elem ty):=by
 simp only[fp];cases e.elem ty<;>rfl
def TH(h:ah)(ty:Nat)(a:Option Addr)(l c:Nat):fp e h ty (.v (.slice a l c))=Bk l (e.elem ty):=by
 simp only[fp];cases e.elem ty<;>rfl
def TI(h:ah)(ty:Nat)(s:ByteArray):fp e h ty (.v (.string s))=(fK e ⟨.nil,0⟩ ty (.string s)).map .v:=(rfl)
def mh(h:ah)(o:bJ)(j:Nat):(h.new o).get j=if j=h.next then some o else h.get j:=ah.cW _ _ _
def TJ(h:ah)(i:Nat)(o:Option bJ):(h.set i o).get i=o:=by rw[ah.bD,if_pos rfl]
def Bl:Option DV->Option (bJ×(Nat->DV))
 |none=>none
 |some d=>if(cG d).all cD=true then some (.row (cG d) true 0,λi=>.v (.pointer (some ⟨i,0,none⟩)))else none
def TK(t:Tr DV)(ty:TypeId)(x:Operand):dV e t (.box ty x)=Bl (aJ e t x):=by
 simp only[dV,Bl];cases aJ e t x<;>rfl
def TL(d:DV):Bl (some d)=if(cG d).all cD=true then some (.row (cG d) true 0,λi=>.v (.pointer (some ⟨i,0,none⟩)))else none:=(rfl)
def Bo:Option Value->Option (bJ×(Nat->DV))
 |none=>none
 |some z=>some (.row (z.cells.toList.map .v) true 0,λi=>.v (.pointer (some ⟨i,0,none⟩)))
def TM(t:Tr DV)(ty:TypeId):dV e t (.alloc ty)=Bo (e.zero ty):=by
 simp only[dV,Bo];cases e.zero ty<;>rfl
def TN(z:Value):Bo (some z)=some (.row (z.cells.toList.map .v) true 0,λi=>.v (.pointer (some ⟨i,0,none⟩))):=(rfl)
def TO(t:Tr DV)(ty:TypeId):dV e t (.makeMap ty none)=some (.map [] 0,λi=>.v (.map (some i))):=(rfl)
def TP(l:List DV):cG (.agg l)=l:=(rfl)
def TQ(v:Value):cG (.v v)=[.v v]:=(rfl)
def TR(f:FuncId)(a c:List DV):cG (.fn f a c)=[.fn f a c]:=(rfl)
def TT(k:Nat)(xs:List (List DV)):cG (.sl k xs)=[.sl k xs]:=(rfl)
def TU(xs:List DV)(o:Nat):cG (.ptr xs o)=[.ptr xs o]:=(rfl)
def TV(v:Value):cD (.v v)=dF v:=(rfl)
def TW(f:FuncId)(a c:List DV):cD (.fn f a c)=true:=(rfl)
def TY(k:Nat)(xs:List (List DV)):cD (.sl k xs)=true:=(rfl)
def TZ(xs:List DV)(o:Nat):cD (.ptr xs o)=true:=(rfl)
def Bp(h:ah)(b o:Nat)(d:DV):Option bJ->Option Nat->Option (ah×Nat)
 |some (.row cs true ak),some n=>if(cG d).length=n/\0<n/\o+n<=cs.length/\(cG d).all cD=true then some (h.set b (some (.row (cs.take o++cG d++cs.drop (o+n)) true ak)),b)else none
 |_,_=>none
def T7(h:ah)(ty:TypeId)(b o:Nat)(d:DV):lC e h ty (some (.v (.pointer (some ⟨b,o,none⟩)))) (some d)=Bp h b o d (h.get b) (e.size ty):=by
 simp only[lC,Bp];cases h.get b with
 |none=>rfl
 |some ob=>
  cases ob with
  |row cs wr ak=>cases wr<;>cases e.size ty<;>rfl
  |_=>rfl
def T8(h:ah)(b o:Nat)(d:DV)(cs:List DV)(ak n:Nat):Bp h b o d (some (.row cs true ak)) (some n)=if(cG d).length=n/\0<n/\o+n<=cs.length/\(cG d).all cD=true then some (h.set b (some (.row (cs.take o++cG d++cs.drop (o+n)) true ak)),b)else none:=(rfl)
def lG(h:ah)(base:Option Addr)(len cap:Nat)(x:DV):Option (Nat×Nat)->Option Nat->Option (DV×ah×List Nat)
 |some (sz,b),some _=>match fh h sz x with
  |some (n,new)=>eA h base len cap sz b n new
  |none=>none
 |_,_=>none
def mU(h:ah)(st xt:TypeId)(r:List TypeId)(base:Option Addr)(len cap:Nat)(x:DV):iO e h (st::xt::r).toArray (some [.v (.slice base len cap),x])=lG h base len cap x (e.ap st) (e.elem xt):=by
 simp only[iO,List.getElem?_toArray,afq,List.getElem?_cons_succ,lG];cases e.ap st with
 |none=>rfl
 |some p=>cases e.elem xt<;>rfl
def Bt(h:ah)(base:Option Addr)(len cap sz b:Nat):Option (Nat×List DV)->Option (DV×ah×List Nat)
 |some (n,new)=>eA h base len cap sz b n new
 |none=>none
def F3(h:ah)(base:Option Addr)(len cap:Nat)(x:DV)(sz b s:Nat):lG h base len cap x (some (sz,b)) (some s)=Bt h base len cap sz b (fh h sz x):=by
 simp only[lG,Bt]
def Ua(h:ah)(base:Option Addr)(len cap sz b n:Nat)(new:List DV):Bt h base len cap sz b (some (n,new))=eA h base len cap sz b n new:=(rfl)
def F4(h:ah)(k:Nat)(xs:List (List DV)):fh h k (.sl k xs)=some (xs.length,xs.flatten):=by simp[fh]
def Bu(o n sz:Nat):Option bJ->Option (Nat×List DV)
 |some (.row cs _ _)=>if o+n*sz<=cs.length then some (n,(cs.drop o).take (n*sz))else none
 |_=>none
def Ub(h:ah)(sz b o n c:Nat):fh h sz (.v (.slice (some ⟨b,o,none⟩) n c))=Bu o n sz (h.get b):=by
 simp only[fh,Bu];cases h.get b with
 |none=>rfl
 |some ob=>cases ob<;>rfl
def Uc(o n sz:Nat)(cs:List DV)(wr:Bool)(ak:Nat):Bu o n sz (some (.row cs wr ak))=if o+n*sz<=cs.length then some (n,(cs.drop o).take (n*sz))else none:=(rfl)
def mi(h:ah)(base:Option Addr)(len cap sz b:Nat)(new:List DV)(hc:len<=cap):eA h base len cap sz b 0 new=some (.v (.slice base len cap),h,[]):=by simp[eA,hc]
def oU(h:ah)(sz b n:Nat)(new:List DV)(hn:0<n)(hb:n*(b+1)<=1073741824):eA h none 0 0 sz b n new=some (.v (.slice (some ⟨h.next,0,none⟩) n n),h.new (.row new true sz),[]):=by
 have:n≠0:=aa;simp[eA,hb,this]
def rX(h:ah)(i len sz b n:Nat)(cs new:List DV)(hg:h.get i=some (.row cs true sz))(hc:cs.length=len*sz)(hs:0<sz)(hn:0<n)(h1:new.all cD=true)(hb:(len+n)*(b+1)<=1073741824):
 eA h (some ⟨i,0,none⟩) len len sz b n new=some (.v (.slice (some ⟨h.next,0,none⟩) (len+n) (len+n)),(h.set i none).new (.row (cs++new) true sz),[i]):=by
 have a1:¬len+n<=len:=aa;have a2:sz≠0:=aa;have a3:cs.take (len*sz)=cs:=by rw[<-hc];exact afr
 simp[eA,a1,hb,hg,hc,a2,h1,a3]
def F5(h:ah)(i len sz b n:Nat)(cs new:List DV)(wr:Bool)(hg:h.get i=some (.row cs wr 0))(hc:cs.length=len*sz)(hn:0<n)(hb:(len+n)*(b+1)<=1073741824):
 eA h (some ⟨i,0,none⟩) len len sz b n new=some (.v (.slice (some ⟨h.next,0,none⟩) (len+n) (len+n)),h.new (.row (cs++new) true sz),[]):=by
 have a1:¬len+n<=len:=aa;have a3:cs.take (len*sz)=cs:=by rw[<-hc];exact afr
 simp[eA,a1,hb,hg,hc,a3]
def oV(s:Nat):Nat->List (Nat×DV)->Option (List DV)
 |_,[]=>some []
 |i,(j,v)::r=>if j=i/\(cG v).length=s/\(cG v).all cD=true then(oV s (i+1) r).map (cG v++·)else none
def F6{s:Nat}:∀{ps:List (Nat×DV)} {i:Nat} {cs done rest:List DV},oV s i ps=some cs->done.length=i*s->rest.length=ps.length*s->jR (λi=>some (i*s,s)) (done++rest) ps=some (done++cs)
 |[],i,cs,done,rest,h,h1,h2=>by
  simp only[oV,Fj]at h;subst h;have:rest=[]:=afo (by simpa using h2);subst this;rfl
 |(j,v)::r,i,cs,done,rest,h,h1,h2=>by
  simp only[oV]at h
  split at h
  . rename_i hc;obtain⟨rfl,hv,ho⟩:=hc;simp only[afs]at h;obtain⟨cs',h3,rfl⟩:=h;simp only[Xt,Nat.add_mul,Nat.one_mul]at h2;have hle:j*s+s<=(done++rest).length:=by simp only[aft];omega
    simp only[jR];rw[if_pos ⟨hv,hle,ho⟩];have e1:(done++rest).take (j*s)++cG v++(done++rest).drop (j*s+(cG v).length)=(done++cG v)++rest.drop s:=by
     rw[<-h1,List.take_left,hv,List.drop_append,afu aa];simp
    rw[e1,F6 h3 (by simp only[aft,h1,hv,Nat.add_mul,Nat.one_mul]) (by rw[List.length_drop];omega),List.append_assoc]
  . cases h
def x7(e:Env)(t:Tr DV)(st n:Nat)(l:List (Nat×Operand)):Option (bJ×(Nat->DV)):=dV e t (.buildSlice st n l.toArray)
def x8(e:Env)(t:Tr DV)(st n:Nat)(l:List (Nat×Operand)):Option (List DV)->Option (bJ×(Nat->DV))
 |some cs=>some (.row cs true 0,λi=>.v (.slice (some ⟨i,0,none⟩) n n))
 |none=>x7 e t st n l
def Bv(e:Env)(t:Tr DV)(st n:Nat)(l:List (Nat×Operand)):Option (Nat×Value)->Option (List (Nat×DV))->Option (bJ×(Nat->DV))
 |some (s,z),some ps=>if z.cells.toList.length=s/\0<s/\n*s<=16777216/\ps.length=n then x8 e t st n l (oV s 0 ps)else x7 e t st n l
 |_,_=>x7 e t st n l
def Ud(t:Tr DV)(st n:Nat)(l:List (Nat×Operand)):dV e t (.buildSlice st n l.toArray)=Bv e t st n l (e.gB st) (fP e t l):=by
 unfold Bv
 split
 . rename_i s z ps hz hp
   split
   . rename_i hc;obtain⟨h1,h2,h3,h4⟩:=hc;unfold x8
     split
     . rename_i cs hr;unfold Env.gB at hz
       split at hz
       . rename_i el hu
         split at hz
         . rename_i s' z' k1 k2;cases hz;simp only[dV,hu,hp,k1,k2];rw[if_pos ⟨h3,h1,h2⟩];have:=F6 (s:=s) (done:=[]) (rest:=(dY z.cells.toList (n*s)).map .v) hr aw (by rw[afk,Fo,h4]);simp only[List.nil_append]at this;rw[this]
         . cases hz
       . cases hz
     . rfl
   . rfl
 . rfl
def Ue(t:Tr DV)(st n:Nat)(l:List (Nat×Operand))(s:Nat)(z:Value)(ps:List (Nat×DV)):Bv e t st n l (some (s,z)) (some ps)=if z.cells.toList.length=s/\0<s/\n*s<=16777216/\ps.length=n then x8 e t st n l (oV s 0 ps)else x7 e t st n l:=(rfl)
def Uf(t:Tr DV)(st n:Nat)(l:List (Nat×Operand))(cs:List DV):x8 e t st n l (some cs)=some (.row cs true 0,λi=>.v (.slice (some ⟨i,0,none⟩) n n)):=(rfl)
def Ug(s i:Nat):oV s i []=some []:=(rfl)
def Uh(s i j:Nat)(v:DV)(r:List (Nat×DV)):oV s i ((j,v)::r)=if j=i/\(cG v).length=s/\(cG v).all cD=true then(oV s (i+1) r).map (cG v++·)else none:=(rfl)
def qv(e:Env)(t:TypeId)(cells:List DV)(ps:List (Nat×DV)):Option (List DV):=jR (e.place t) cells ps
def Bw(e:Env)(t:TypeId)(cells:List DV)(v:DV)(r:List (Nat×DV)):Option (Nat×Nat)->Option (List DV)
 |none=>none
 |some (off,size)=>if(cG v).length=size/\off+size<=cells.length/\(cG v).all cD=true then qv e t (cells.take off++cG v++cells.drop (off+(cG v).length)) r else none
def Ui(t:TypeId)(cells:List DV):qv e t cells []=some cells:=(rfl)
def Uj(t:TypeId)(cells:List DV)(i:Nat)(v:DV)(r:List (Nat×DV)):qv e t cells ((i,v)::r)=Bw e t cells v r (e.place t i):=by
 simp only[qv,jR,Bw];cases e.place t i with
 |none=>rfl
 |some p=>obtain⟨off,size⟩:=p;rfl
def Uk(t:TypeId)(cells:List DV)(v:DV)(r:List (Nat×DV))(off size:Nat):Bw e t cells v r (some (off,size))=if(cG v).length=size/\off+size<=cells.length/\(cG v).all cD=true then qv e t (cells.take off++cG v++cells.drop (off+(cG v).length)) r else none:=(rfl)
def fC(e:Env)(t:TypeId)(ps:List (Nat×DV)):Option Value->Option DV
 |none=>none
 |some z=>(qv e t (z.cells.toList.map .v) ps).map .agg
def Ul(t:TypeId)(ps:List (Nat×DV))(z:Value):fC e t ps (some z)=(qv e t (z.cells.toList.map .v) ps).map .agg:=(rfl)
def gE{t:TypeId}(ps:List (Nat×DV))(h:(e.place t 0).isSome=true)(hs:∃d,e.under t=some d/\jH d=true):eo e t ps=fC e t ps (e.zero t):=by
 obtain⟨d,hd,ha⟩:=hs;simp only[eo,fC,qv,hd];cases hz:e.zero t with
 |none=>rfl
 |some z=>
  cases d with
  |struct fields=>
   have:e.place t=ke e fields:=by funext i;simp[Env.place,hd]
   simp only[this]
  |array n el=>
   simp only;cases he:e.size el with
   |none=>
    have hp:e.place t=λ_=>none:=by funext i;simp[Env.place,hd,he]
    rw[hp]at h;cases h
   |some s=>
    have:e.place t=λi=>some (i*s,s):=by funext i;simp[Env.place,hd,he]
    simp only[this]
  |_=>cases ha
def x9(e:Env)(ar:Bool)(b:Code)(K:bu->DS->Prop):bu->DS->Prop:=λx s1=>match x with|.normal=>RD e ar b s1 K|.exit i=>K (.exit i) s1|.ret=>K .ret s1
def tN(id:Nat)(K:bu->DS->Prop):bu->DS->Prop:=λx s1=>match x with|.normal=>K .normal s1|.exit i=>if i=id then K .normal s1 else K (.exit i) s1|.ret=>K .ret s1
def nS(e:Env)(ar:Bool)(a b:Code)(s:DS)(K:bu->DS->Prop):DV->Prop:=λv=>match v with|.v (.bool v)=>(v=true->RD e ar a s K)/\(v=false->RD e ar b s K)|_=>False
section
variable (s:DS) (K:bu->DS->Prop)
def Um(b:Code):x9 e ar b K .normal s=RD e ar b s K:=(rfl)
def Un(b:Code)(i:Nat):x9 e ar b K (.exit i) s=K (.exit i) s:=(rfl)
def Uo(b:Code):x9 e ar b K .ret s=K .ret s:=(rfl)
def Up(id:Nat):tN id K .normal s=K .normal s:=(rfl)
def Uq(id i:Nat):tN id K (.exit i) s=if i=id then K .normal s else K (.exit i) s:=(rfl)
def Ur(id:Nat):tN id K .ret s=K .ret s:=(rfl)
def Us(a b:Code):nS e ar a b s K (.v (.bool true))=RD e ar a s K:=by simp[nS]
def Ut(a b:Code):nS e ar a b s K (.v (.bool false))=RD e ar b s K:=by simp[nS]
def nS.mk{a b:Code}{p:Prop}[Decidable p](h1:p->RD e ar a s K)(h2:¬p->RD e ar b s K):nS e ar a b s K (.v (.bool (decide p))):=⟨λh=>h1 (of_decide_eq_true h),λh=>h2 (of_decide_eq_false h)⟩
def Uu:RD e ar .skip s K=K .normal s:=(rfl)
def Uv(l:Nat):RD e ar (.label l) s K=K .normal s:=(rfl)
def Uw(c:Code):RD e ar (.scope c) s K=RD e ar c s K:=(rfl)
def Ux(id:Nat):RD e ar (.exit id) s K=K (.exit id) s:=(rfl)
def Uy:RD e ar .ret s K=K .ret s:=(rfl)
def Uz(a b:Code):RD e ar (.seq a b) s K=RD e ar a s (x9 e ar b K):=(rfl)
def UA(id:Nat)(c:Code):RD e ar (.block id c) s K=RD e ar c s (tN id K):=(rfl)
def UB(c:Operand)(a b:Code)(t:Tr DV)(n:Nat)(dd:List FuncId)(h:ah):RD e ar (.cond c a b) ⟨t,n,dd,h⟩ K=aN (aJ e t c) (nS e ar a b ⟨t,n,dd,h⟩ K):=(rfl)
def UC(id:Nat)(l:List Oper)(t:Tr DV)(n:Nat)(dd:List FuncId)(h:ah):RD e ar (.region id l.toArray false) ⟨t,n,dd,h⟩ K=eU e ar l l t n dd h (K .normal):=by simp[RD]
def UD(c:Code):RD e ar (.loop c) s K=WD e ar (.loop c) s K:=(rfl)
def UE(I:Nat->DS->Prop)(j:Nat):KI I j K .normal s=∃j',j'<j/\∃d',aB s d'/\I j' d':=(rfl)
def UF(I:Nat->DS->Prop)(j:Nat)(i:Nat):KI I j K (.exit i) s=K (.exit i) s:=(rfl)
def UG(I:Nat->DS->Prop)(j:Nat):KI I j K .ret s=K .ret s:=(rfl)
end
def vG(K:DV->ah->Prop)(h:ah):List DV->Prop:=λl=>K (jS l) h
def UH(K:DV->ah->Prop)(h:ah)(l:List DV):vG K h l=K (jS l) h:=(rfl)
def UI(v:DV):jS [v]=v:=(rfl)
def UJ:jS []=.bf []:=(rfl)
def UK(v w:DV)(r:List DV):jS (v::w::r)=.bf (v::w::r):=(rfl)
def UL(rs:List ResultVar)(K:DV->ah->Prop)(t:Tr DV)(n:Nat)(h:ah):ib e rs K .ret ⟨t,n,[],h⟩=aN (fZ e ⟨t,n,[],h⟩ rs) (vG K h):=by
 simp[ib,vG,aN]
def UM(rs:List ResultVar)(K:DV->ah->Prop)(t:Tr DV)(n:Nat)(h:ah):ib e rs K .normal ⟨t,n,[],h⟩=aN (fZ e ⟨t,n,[],h⟩ rs) (vG K h):=by
 simp[ib,vG,aN]
def vH(e:Env)(s:DS)(r:List ResultVar):Option DV->Option (List DV)
 |none=>none
 |some v=>(fZ e s r).map (v::·)
def UN(s:DS):fZ e s []=some []:=(rfl)
def UO(t:Tr DV)(n:Nat)(dd:List FuncId)(h:ah)(i:Nat)(r:List ResultVar):fZ e ⟨t,n,dd,h⟩ (.tmp i::r)=vH e ⟨t,n,dd,h⟩ r (t.get i):=by
 simp only[fZ,vH];cases t.get i with
 |none=>rfl
 |some v=>cases fZ e ⟨t,n,dd,h⟩ r<;>rfl
def UP(t:Tr DV)(n:Nat)(dd:List FuncId)(h:ah)(i ty:Nat)(r:List ResultVar):fZ e ⟨t,n,dd,h⟩ (.cell i ty::r)=vH e ⟨t,n,dd,h⟩ r ((t.get i).bind (iN e h ty)):=by
 simp only[fZ,vH];cases(t.get i).bind (iN e h ty)with
 |none=>rfl
 |some v=>cases fZ e ⟨t,n,dd,h⟩ r<;>rfl
def UQ(s:DS)(r:List ResultVar)(v:DV):vH e s r (some v)=(fZ e s r).map (v::·):=(rfl)
attribute [go_sem] R4 R5 R6 R7 R8 R9 Sa Sb Sc Sd Se Sf Sg Sh Si Sj FZ SM SN Sk Sl Sm Sn So Sq Sr Ss St Su Sv Sw Sx Sy Sz SA SB SC SE SF SG SH SI SJ SK SO SP SQ SR SS SU SV SW SX SY SZ S0 S1 S2 S3 S4 S5 S6 S7 S8 S9 Ta Tb Tc Tf F0 Tg Th Ti Tj Tk Tl Tm Tn To Tp Tq Ts Tt Tu Tv Tw Tx Ty Tz TA TB TE TF TG TH TI TJ ah.get_none ah.qj ah.aW ah.bb ah.Fq ah.gR TK TL TM TN TO TP TQ TR TT TU TV TW TY TZ T7 T8 mU F3 Ua F4 Ub Uc Ud Ue Uf Ug Uh Ui Uj Uk Ul Um Un Uo Up Uq Ur Us Ut Uu Uv Uw Ux Uy Uz UA UB UC UD UE UF UG UH UI UJ UK UL UM UN UO UP UQ
end Go.aD
end
noncomputable section
namespace Go.aD
variable {e:Env} {G:Nat->Prop} {h:ab} {dh:ah} {t:Tr Value} {dt:Tr DV} {R:Rows}
def jT:Operand->List Tmp
 |.tmp t=>[t]
 |_=>[]
def yc:Option Operand->List Tmp
 |none=>[]
 |some o=>jT o
def slotsOf:Op->List Tmp
 |.move x|.assign x|.load _ x|.nilCheck x|.unOp _ _ x|.convert _ _ x|.makeInterface _ x|.fieldAddr _ x _|.field _ x _|.extract x _=>jT x
 |.pick c a b=>jT c++jT a++jT b
 |.build _ ps=>ps.toList.flatMap λp=>jT p.2
 |.makeFunc _ a c=>a.toList.flatMap jT++c.toList.flatMap jT
 |.slice _ x l h m=>jT x++yc l++yc h++yc m
 |.binOp _ _ a b _|.indexAddr _ a b|.index _ a b|.lookup _ a b _=>jT a++jT b
 |.call c=>c.args.toList.flatMap jT
 |_=>[]
def eQ{t1 t2:Tr DV}{o:Operand}(h:∀s∈jT o,t1.get s=t2.get s):aJ e t1 o=aJ e t2 o:=by
 cases o with
 |tmp i=>exact h i (by simp[jT])
 |_=>rfl
def vL{t1 t2:Tr DV}:∀{l:List Operand},(∀s∈l.flatMap jT,t1.get s=t2.get s)->cM e t1 l=cM e t2 l
 |[],_=>rfl
 |o::r,h=>by
  simp only[afv,oY]at h;simp only[cM,eQ (e:=e) λs hs=>h s (.inl hs),vL λs hs=>h s (.inr hs)]
def Ge{t1 t2:Tr DV}:∀{l:List (Nat×Operand)},(∀s∈l.flatMap (λp=>jT p.2),t1.get s=t2.get s)->fP e t1 l=fP e t2 l
 |[],_=>rfl
 |(i,o)::r,h=>by
  simp only[afv,oY]at h;simp only[fP,eQ (e:=e) λs hs=>h s (.inl hs),Ge λs hs=>h s (.inr hs)]
def Bz{t1 t2:Tr DV}{o:Option Operand}(h:∀s∈yc o,t1.get s=t2.get s):eJ e t1 o=eJ e t2 o:=by
 cases o with
 |none=>rfl
 |some o=>simp only[eJ,eQ (e:=e) h]
def Vw{t1 t2:Tr DV}{op:Op}(h:∀s∈slotsOf op,t1.get s=t2.get s):aZ e dh t1 op=aZ e dh t2 op:=by
 cases op with
 |move x=>exact eQ h
 |assign x=>exact eQ h
 |pick c a b=>
  simp only[slotsOf,oY]at h;simp only[aZ,eQ (e:=e) (o:=c) λs hs=>h s (.inl (.inl hs)),eQ (e:=e) (o:=a) λs hs=>h s (.inl (.inr hs)),eQ (e:=e) (o:=b) λs hs=>h s (.inr hs)]
 |build ty ps=>simp only[aZ,Ge (e:=e) h]
 |load ty a=>simp only[aZ,eQ (e:=e) (o:=a) h]
 |nilCheck a=>simp only[aZ,eQ (e:=e) (o:=a) h]
 |unOp op z a=>simp only[aZ,eQ (e:=e) (o:=a) h]
 |convert s d a=>simp only[aZ,eQ (e:=e) (o:=a) h]
 |makeInterface ty a=>simp only[aZ,eQ (e:=e) (o:=a) h]
 |fieldAddr s a f=>simp only[aZ,eQ (e:=e) (o:=a) h]
 |field s a f=>simp only[aZ,eQ (e:=e) (o:=a) h]
 |extract a i=>simp only[aZ,eQ (e:=e) (o:=a) h]
 |makeFunc fn a c=>
  simp only[slotsOf,oY]at h;cases fn with
  |func f=>simp only[aZ,vL (e:=e) (l:=a.toList) λs hs=>h s (.inl hs),vL (e:=e) (l:=c.toList) λs hs=>h s (.inr hs)]
  |_=>rfl
 |slice ty x l hi m=>
  simp only[slotsOf,oY]at h;simp only[aZ,eQ (e:=e) (o:=x) λs hs=>h s (.inl (.inl (.inl hs))),Bz (e:=e) (o:=l) λs hs=>h s (.inl (.inl (.inr hs))),Bz (e:=e) (o:=hi) λs hs=>h s (.inl (.inr hs)),Bz (e:=e) (o:=m) λs hs=>h s (.inr hs)]
 |binOp op ty a b z=>
  simp only[slotsOf,oY]at h;simp only[aZ,eQ (e:=e) (o:=a) λs hs=>h s (.inl hs),eQ (e:=e) (o:=b) λs hs=>h s (.inr hs)]
 |indexAddr ty a b=>
  simp only[slotsOf,oY]at h;simp only[aZ,eQ (e:=e) (o:=a) λs hs=>h s (.inl hs),eQ (e:=e) (o:=b) λs hs=>h s (.inr hs)]
 |index ty a b=>
  simp only[slotsOf,oY]at h;simp only[aZ,eQ (e:=e) (o:=a) λs hs=>h s (.inl hs),eQ (e:=e) (o:=b) λs hs=>h s (.inr hs)]
 |lookup ty a b ok=>
  simp only[slotsOf,oY]at h;simp only[aZ,eQ (e:=e) (o:=a) λs hs=>h s (.inl hs),eQ (e:=e) (o:=b) λs hs=>h s (.inr hs)]
 |call c=>simp only[aZ,vL (e:=e) (l:=c.args.toList) h]
 |_=>rfl
def mV:Option Value->Option Nat
 |some (.pointer (some a))=>some a.block
 |some (.slice (some a) _ _)=>some a.block
 |some (.map (some r))=>some r
 |_=>none
def jq:Option DV->Option Nat
 |some (.v v)=>mV (some v)
 |_=>none
def iE(e:Env)(t:Tr Value):Op->Option Nat
 |.load _ a=>mV (aE e t a)
 |.lookup _ m _ _=>mV (aE e t m)
 |.slice _ x _ _ _=>mV (aE e t x)
 |.convert _ _ x=>mV (aE e t x)
 |.call c=>match db e t c.args.toList with|some [x]=>mV (some x)|_=>none
 |_=>none
def dL(e:Env)(t:Tr DV):Op->Option Nat
 |.load _ a=>jq (aJ e t a)
 |.lookup _ m _ _=>jq (aJ e t m)
 |.slice _ x _ _ _=>jq (aJ e t x)
 |.convert _ _ x=>jq (aJ e t x)
 |.call c=>match cM e t c.args.toList with|some [x]=>jq (some x)|_=>none
 |_=>none
def Vx{h1 h2:ab}{op:Op}(hc:cls op=.pure):bI e h1 t op=bI e h2 t op:=by
 cases op with
 |load ty a=>cases hc
 |lookup ty m k ok=>cases hc
 |slice ty x lo hi mx=>cases hc
 |convert s d x=>cases hc
 |call c=>
  simp only[cls]at hc
  split at hc<;>cases hc
 |makeFunc fn a c=>cases fn<;>rfl
 |_=>rfl
def Vy{h1 h2:ah}{op:Op}(hc:cls op=.pure):aZ e h1 dt op=aZ e h2 dt op:=by
 cases op with
 |load ty a=>cases hc
 |lookup ty m k ok=>cases hc
 |slice ty x lo hi mx=>cases hc
 |convert s d x=>cases hc
 |call c=>
  simp only[cls]at hc
  split at hc<;>cases hc
 |makeFunc fn a c=>cases fn<;>rfl
 |_=>rfl
def Vz{h1 h2:ab}{ty:TypeId}{x:Value}(hb:∀b,mV (some x)=some b->h1.get b=h2.get b):fK e h1 ty x=fK e h2 ty x:=by
 unfold fK
 split<;>first|rfl|skip
 rename_i r _;rw[hb r rfl]
def VA{h1 h2:ab}{ty:TypeId}{x:Value}{lo hi mx:Option Value}(hb:∀a l c,x=.slice (some a) l c->h1.get a.block=h2.get a.block):jI e h1 ty x lo hi mx=jI e h2 ty x lo hi mx:=by
 unfold jI
 split
 . rename_i elem base len cap _;cases base with
   |none=>rfl
   |some a=>
    have e2:∀s,mC h1 a s=mC h2 a s:=λs=>by unfold mC;rw[hb a len cap rfl]
    simp only[e2]
 . rfl
 . rfl
 . rfl
def VB{h1 h2:ab}{ty:TypeId}{x:Value}(hb:∀a l c,x=.slice (some a) l c->h1.get a.block=h2.get a.block):qU e h1 ty x=qU e h2 ty x:=by
 unfold qU
 split
 . rfl
 . rw[hb _ _ _ rfl]
 . rfl
def VC{h1 h2:ab}{op:Op}(hb:∀b,iE e t op=some b->h1.get b=h2.get b):bI e h1 t op=bI e h2 t op:=by
 cases op with
 |load ty a=>
  simp only[bI];cases ha:aE e t a with
  |none=>rfl
  |some v=>
   simp only[WZ,mL];cases hv:iu v with
   |none=>rfl
   |some ad=>
    have:=vb hv;subst this;have e1:=hb ad.block (by simp only[iE,ha];rfl);simp only[iq,fV,e1]
 |lookup ty m k ok=>
  simp only[bI];cases ha:aE e t m with
  |none=>rfl
  |some v=>
   cases hk:aE e t k with
   |none=>rfl
   |some w=>
    simp only[tB];cases v with
    |map r=>
     cases r with
     |none=>rw[lookup_nil,lookup_nil]
     |some r=>rw[xN,xN,hb r (by simp only[iE,ha];rfl)]
    |_=>simp only[nJ,pS]
 |slice ty x lo hi mx=>
  simp only[bI];cases ha:aE e t x with
  |none=>rfl
  |some v=>
   cases iz e t lo with
   |none=>rfl
   |some lo=>
    cases iz e t hi with
    |none=>rfl
    |some hi=>
     cases iz e t mx with
     |none=>rfl
     |some mx=>exact VA λa l c hv=>hb a.block (by simp only[iE,ha,hv];rfl)
 |convert s d x=>
  simp only[bI];cases ha:aE e t x with
  |none=>rfl
  |some v=>
   simp only[WZ,oL];have:ow e h1 s d v=ow e h2 s d v:=by
    unfold ow
    split
    . rename_i a len _ el _ _;have e1:=hb a.block (by simp only[iE,ha];rfl);simp only[fV,e1]
    . rfl
   rw[this]
 |call c=>
  simp only[bI]
  split
  . split
    . rename_i x hx;simp only[vt]
      split
      . rfl
      . exact Vz λb h'=>hb b (by simp only[iE,hx];exact h')
    . rfl
  . split
    . rename_i x hx;simp only[Ao]
      split
      . rfl
      . exact VB λa l c hv=>hb a.block (by simp only[iE,hx,hv];rfl)
    . rfl
  . rfl
  . rfl
  . rfl
 |makeFunc fn a c=>cases fn<;>rfl
 |_=>rfl
def VD{h1 h2:ah}{op:Op}(hb:∀b,dL e dt op=some b->h1.get b=h2.get b):aZ e h1 dt op=aZ e h2 dt op:=by
 cases op with
 |load ty a=>
  simp only[aZ];cases ha:aJ e dt a with
  |none=>rfl
  |some d=>
   simp only[WZ];unfold iN
   split
   . rename_i b o;rw[hb b (by simp only[dL,ha];rfl)]
   . rfl
   . rfl
 |lookup ty m k ok=>
  simp only[aZ];cases ha:aJ e dt m with
  |none=>rfl
  |some d=>
   cases hk:aJ e dt k with
   |none=>rfl
   |some w=>
    simp only[F0];unfold kS
    split
    . rfl
    . rename_i r k' _;rw[hb r (by simp only[dL,ha];rfl)]
    . rfl
 |slice ty x lo hi mx=>
  simp only[aZ];cases ha:aJ e dt x with
  |none=>rfl
  |some d=>
   unfold ed
   split
   . rfl
   . split
     . unfold jQ
       split
       . rfl
       . rfl
       . rename_i b o len cap s hs _ heq;cases heq;rw[hb b (by simp only[dL,ha];rfl)]
       . rfl
     . rfl
   . rfl
 |convert s d x=>
  simp only[aZ];cases ha:aJ e dt x with
  |none=>rfl
  |some c=>
   simp only[WZ];unfold mR
   split
   . have:fh h1 1 c=fh h2 1 c:=by
      unfold fh
      split
      . rfl
      . rfl
      . rename_i b o n _;rw[hb b (by simp only[dL,ha];rfl)]
      . rfl
     rw[this]
   . rfl
 |call c=>
  simp only[aZ]
  split
  . unfold oS
    split
    . rename_i x hx
      split
      . rfl
      . unfold fp
        split
        . rfl
        . rfl
        . rfl
        . rfl
        . rename_i r;rw[hb r (by simp only[dL,hx];rfl)]
        . rfl
    . rfl
  . rfl
  . rfl
  . rfl
 |makeFunc fn a c=>cases fn<;>rfl
 |_=>rfl
def vM{v:Value}{d:DV}(hv:Rel R v d){b:Nat}(hb:mV (some v)=some b):jq (some d)=some b\/∃r,R b=some r:=by
 cases hv with
 |v x=>exact .inl hb
 |sl h1 _ _ _ _ _ _=>simp only[mV,Fj]at hb;subst hb;exact .inr ⟨_,h1⟩
 |ptr h1 _ _=>simp only[mV,Fj]at hb;subst hb;exact .inr ⟨_,h1⟩
 |_=>cases hb
def VE(ht:TD R t dt){op:Op}{d:DV}(hd:aZ e dh dt op=some d){b:Nat}(hb:iE e t op=some b):dL e dt op=some b\/∃r,R b=some r:=by
 cases op with
 |load ty a=>
  obtain⟨c,h1,_⟩:=afj.1 hd;obtain⟨v,h2,h3⟩:=ff ht h1;simp only[iE,h2]at hb;simp only[dL,h1];exact vM h3 hb
 |lookup ty m k ok=>
  simp only[aZ,fY]at hd
  split at hd
  . rename_i x y h1 _;obtain⟨v,h2,h3⟩:=ff ht h1;simp only[iE,h2]at hb;simp only[dL,h1];exact vM h3 hb
  . cases hd
 |slice ty x lo hi mx=>
  simp only[aZ]at hd;cases h1:aJ e dt x with
  |none=>rw[h1]at hd;simp[ed]at hd
  |some c=>
   obtain⟨v,h2,h3⟩:=ff ht h1;simp only[iE,h2]at hb;simp only[dL,h1];exact vM h3 hb
 |convert s d x=>
  obtain⟨c,h1,_⟩:=afj.1 hd;obtain⟨v,h2,h3⟩:=ff ht h1;simp only[iE,h2]at hb;simp only[dL,h1];exact vM h3 hb
 |call c=>
  have:∃l,cM e dt c.args.toList=some l:=by
   simp only[aZ]at hd;cases hl:cM e dt c.args.toList with
   |some l=>exact⟨l,rfl⟩
   |none=>rw[hl]at hd;split at hd<;>simp[oS]at hd
  obtain⟨l,h1⟩:=this;obtain⟨vs,h2,h3⟩:=mP ht h1;simp only[iE,h2]at hb;simp only[dL,h1];cases h3 with
  |nil=>cases hb
  |cons h4 h5=>
   cases h5 with
   |nil=>exact vM h4 hb
   |cons _ _=>cases hb
 |_=>cases hb
abbrev eW:=List (Nat×Nat×bJ)
def fD(h:ah)(m:Nat):eW->ah
 |[]=>h
 |(i,id,o)::r=>if m.testBit i=true then(fD h m r).set id (some o)else fD h m r
def kV(h:ah):eW->ah
 |[]=>h
 |(_,id,o)::r=>(kV h r).set id (some o)
def iP(m:Nat)(l:eW):eW:=l.filter λq=> !m.testBit q.1
structure oW(R:Rows)(x:Nat×Nat×bR)(y:Nat×Nat×bJ):Prop where
 i:x.1=y.1
 id:x.2.1=y.2.1
 o:iM R x.2.2 y.2.2
def bP.put(x:bP G h dh){id:Nat}(h1:id<h.next)(h2:¬G id){ao:bR}{o:bJ}(hr:iM (aP h G) ao o):bP G (h.set id (some ao)) (dh.set id (some o))/\∀i r,aP h G i=some r->aP (h.set id (some ao)) G i=some r:=by
 have hm:∀i r,aP h G i=some r->aP (h.set id (some ao)) G i=some r:=iA λi hg=>⟨hg,bE _ _ _ _ (λhe:i=id=>h2 (he▸hg))⟩;refine⟨⟨x.e9.mono hm,by rw[ab.aW,ah.aW,x.next],λj p hp=> ?_,λj hg=> ?_⟩,hm⟩
 . rw[ah.bD]at hp
   split at hp
   . rename_i hj;cases hp;subst hj;exact⟨h1,ao,ey _ _ _,hr.mono hm⟩
   . rename_i hj;obtain⟨q1,ao',q2,q3⟩:=x.obj j p hp;exact⟨q1,ao',by rw[bE _ _ _ _ hj];exact q2,q3.mono hm⟩
 . obtain⟨q1,q2⟩:=x.still j hg;exact⟨q1,by rw[ah.bD,if_neg (λhe:j=id=>h2 (he▸hg))];exact q2⟩
def Kp.put{G0:Nat->Prop}{h0:ab}{d0:ah}(k:Kp G0 h0 d0 G h dh){id:Nat}(aV:h0.next<=id)(ao:Option bR)(o:Option bJ):Kp G0 h0 d0 G (h.set id ao) (dh.set id o):=
 ⟨k.next,λi hi hd=>by rw[bE _ _ _ _ aa,ah.bD,if_neg aa];exact k.same i hi hd,k.up,k.bp⟩
def Gf{G0:Nat->Prop}{h0:ab}{d0:ah}(m:Nat)(x:bP G h dh)(k:Kp G0 h0 d0 G h dh):∀{p:dA} {dp:eW},aU (oW (aP h G)) p dp->(∀q∈dp,h0.next<=q.2.1/\q.2.1<h.next/\¬G q.2.1)->
 bP G (cq h m p) (fD dh m dp)/\Kp G0 h0 d0 G (cq h m p) (fD dh m dp)/\(∀i r,aP h G i=some r->aP (cq h m p) G i=some r)/\(cq h m p).next=h.next
 |_,_,.nil,_=>⟨x,k,λ_ _ h=>h,rfl⟩
 |(i,id,ao)::p,(j,aH,o)::dp,.cons ⟨h1,h2,h3⟩ h4,hq=>by
  simp only at h1 h2 h3;subst h1 h2;obtain⟨q1,q2,q3⟩:=hq (i,id,o) aw;obtain⟨k1,k2,k3,k4⟩:=Gf m x k h4 λq an=>hq q (Rm _ an);rw[AE];simp only[fD]
  split
  . obtain⟨r1,r2⟩:=k1.put (id:=id) (by rw[k4];exact q2) q3 (h3.mono k3);exact⟨r1,k2.put q1 _ _,λa r hr=>r2 a r (k3 a r hr),by rw[ab.aW];exact k4⟩
  . exact⟨k1,k2,k3,k4⟩
def Gg{G0:Nat->Prop}{h0:ab}{d0:ah}(x:bP G h dh)(k:Kp G0 h0 d0 G h dh):∀{p:dA} {dp:eW},aU (oW (aP h G)) p dp->(∀q∈dp,h0.next<=q.2.1/\q.2.1<h.next/\¬G q.2.1)->
 bP G (e8 h p) (kV dh dp)/\Kp G0 h0 d0 G (e8 h p) (kV dh dp)/\(∀i r,aP h G i=some r->aP (e8 h p) G i=some r)/\(e8 h p).next=h.next
 |_,_,.nil,_=>⟨x,k,λ_ _ h=>h,rfl⟩
 |(i,id,ao)::p,(j,aH,o)::dp,.cons ⟨h1,h2,h3⟩ h4,hq=>by
  simp only at h1 h2 h3;subst h1 h2;obtain⟨q1,q2,q3⟩:=hq (i,id,o) aw;obtain⟨k1,k2,k3,k4⟩:=Gg x k h4 λq an=>hq q (Rm _ an);rw[Fg];simp only[kV];obtain⟨r1,r2⟩:=k1.put (id:=id) (by rw[k4];exact q2) q3 (h3.mono k3);exact⟨r1,k2.put q1 _ _,λa r hr=>r2 a r (k3 a r hr),by rw[ab.aW];exact k4⟩
def yd(h:ab)(m b:Nat):∀(p:dA),(∀q∈p,q.2.1≠b)->(cq h m p).get b=h.get b
 |[],_=>rfl
 |(i,id,o)::p,hq=>by
  rw[AE];have ih:=yd h m b p λq an=>hq q (Rm _ an)
  split
  . rw[bE _ _ _ _ (Ne.symm (hq (i,id,o) aw))];exact ih
  . exact ih
def ye(h:ah)(m b:Nat):∀(p:eW),(∀q∈p,m.testBit q.1=true->q.2.1≠b)->(fD h m p).get b=h.get b
 |[],_=>rfl
 |(i,id,o)::p,hq=>by
  simp only[fD];have ih:=ye h m b p λq an=>hq q (Rm _ an)
  split
  . rename_i hm;rw[ah.bD,if_neg (Ne.symm (hq (i,id,o) aw hm))];exact ih
  . exact ih
structure PJ where
 c:ta
 m:Nat
 dy:Option (Nat×Nat)
 bp:Bool
def PJ.pi(p:PJ):PI:=⟨p.c,p.m,p.dy⟩
def writes(ops:List Oper)(pl:List PJ)(s:Tmp):Bool:=(ops.zip pl).all λq=>match q.1.dst with|some d=> !Nat.beq d s||q.2.bp|none=>true
def r9(ops:List Oper)(pl:List PJ)(o:Oper)(p:PJ):Bool:=
 (!p.bp||match p.c with|.alloc=>true|.pure|.read=>(slotsOf o.op).all (writes ops pl)|_=>false)&&(match p.dy with|none=>true|some _=>p.bp&&o.dst.isSome&&decide (p.c=.read))
def vN(ops:List Oper)(pl:List PJ):Bool:=rL ops true (pl.map PJ.pi)&&(ops.zip pl).all λq=>r9 ops pl q.1 q.2
def sa(N0:Nat)(T:List Nat):Option Nat->Prop
 |none=>True
 |some b=>b<N0/\b∉T
def kA(dy:Option (Nat×Nat))(b:Option Nat)(L:List (Nat×Nat)):List (Nat×Nat):=match dy,b with
 |some x,some b=>(b,x.1+x.2-1)::L
 |_,_=>L
def df(e:Env)(ops:List Oper)(N0:Nat):List Oper->List PJ->Nat->Nat->Nat->Tr DV->Nat->List FuncId->ah->eW->List Nat->List (Nat×Nat)->(DS->Prop)->Prop
 |[],_,_,_,_,t,n,dd,h,ax,_,_,K=>K ⟨t,n,dd,kV h ax⟩
 |_::_,[],_,_,_,_,_,_,_,_,_,_,_=>False
 |o::r,p::pl,i,id,c,t,n,dd,h,ax,T,L,K=>dB o.dst n/\aN (iD ops t o) λw=>match w with
  |true=>match p.c with
   |.pure=>aN (aZ e h t o.op) λv=>df e ops N0 r pl (i+1) id c (cH o.dst v t) n dd h ax T L K
   |.read=>aN (aZ e (fD h p.m ax) t o.op) λv=>(p.bp=true->sa N0 T (dL e t o.op))/\df e ops N0 r pl (i+1) id c (cH o.dst v t) n dd h ax T (kA p.dy (dL e t o.op) L) K
   |.alloc=>aN (dV e t o.op) λq=>df e ops N0 r pl (i+1) (id+1) c (cH o.dst (q.2 id) t) n dd h ((i,id,q.1)::ax) T L K
   |.effect=>cx e true o.op t dd (fD h p.m ax) λv dd h T'=>(∀q∈L,c+1<=q.2->q.1∉T')/\df e ops N0 r pl (i+1) id (c+1) (cH o.dst v t) n dd h (iP p.m ax) (T'++T) L K
   |.bad=>False
  |false=>match p.c with
   |.alloc=>df e ops N0 r pl (i+1) (id+1) c (cH o.dst cX t) n dd h ax T L K
   |.effect=>df e ops N0 r pl (i+1) id (c+1) (cH o.dst cX t) n dd h ax T L K
   |.bad=>False
   |_=>df e ops N0 r pl (i+1) id c (cH o.dst cX t) n dd h ax T L K
def qw(e:Env)(ops:List Oper)(pl:List PJ)(G0:Nat->Prop)(h0:ab)(L:List (Nat×Nat))(tc:Tr Value)(k:Nat)(tk:Tr Value):Prop:=
 ∀o p,ops[k]? =some o->pl[k]? =some p->p.dy≠none->cZ ops ⟨tk,0,[],{m:=.nil,next:=0}⟩ o=some false\/(cZ ops ⟨tk,0,[],{m:=.nil,next:=0}⟩ o=some true/\∃d v,o.dst=some d/\tc.get d=some v/\
  (∀b,iE e tk o.op=some b->G0 b\/∃x,p.dy=some x/\(b,x.1+x.2-1)∈L)/\∀g,(∀b,iE e tk o.op=some b->g.get b=h0.get b)->bI e g tk o.op=some v)
structure DI(e:Env)(ops:List Oper)(ae:List PJ)(G0:Nat->Prop)(h0:ab)(d0:ah)(na:Nat)(i id c:Nat)(t:Tr Value)(dt:Tr DV)(G:Nat->Prop)(h:ab)(dh:ah)(ax all:dA)(dp:eW)(st:List (Nat×ab))(sn:List (Tr Value))(T:List Nat)(L:List (Nat×Nat)):Prop where
 x:bP G h dh
 k:Kp G0 h0 d0 G h dh
 nx:h0.next+na<=h.next
 lo:h0.next<=id
 pe:aU (oW (aP h G)) ax dp
 pid:∀q∈dp,h0.next<=q.2.1/\q.2.1<id/\q.2.1<h.next/\dh.get q.2.1=none/\¬G q.2.1
 pw:∀q∈dp,∀q'∈dp,q.2.1=q'.2.1->q.1=q'.1
 res:∀j,id<=j->j<h0.next+na->dh.get j=none/\¬G j
 al:∀q∈all,h0.next<=q.2.1
 ht:TD (aP h G) t dt
 tO:∀s d,(∀k o p,k<i->ops[k]? =some o->ae[k]? =some p->o.dst=some s->p.bp=true)->dt.get s=some d->∃u,t.get s=some u/\Rel (aP h0 G0) u d
 ag:∀b,b<h0.next->b∉T->h.get b=h0.get b/\dh.get b=d0.get b
 ls:∀y∈L,∀(j:Nat) z,st.reverse[j]? =some z->j<=y.2->z.2.get y.1=h0.get y.1
 hd:∃m r,st=(m,h)::r
 sl:st.length=c+1
 st:∀q∈st,∀b,b<h0.next->(b∉T\/G0 b)->q.2.get b=h0.get b
 LT:∀x∈L,x.1<h0.next
 rd:∀k tk,sn.reverse[k]? =some tk->qw e ops ae G0 h0 L t k tk
 sn:sn.length=i
def VF{t1 t2:Tr DV}{op:Op}(h:∀s∈slotsOf op,t1.get s=t2.get s):dL e t1 op=dL e t2 op:=by
 cases op with
 |load ty a=>simp only[dL,eQ (e:=e) (o:=a) h]
 |convert s d a=>simp only[dL,eQ (e:=e) (o:=a) h]
 |lookup ty a b ok=>
  simp only[slotsOf,oY]at h;simp only[dL,eQ (e:=e) (o:=a) λs hs=>h s (.inl hs)]
 |slice ty x l hi m=>
  simp only[slotsOf,oY]at h;simp only[dL,eQ (e:=e) (o:=x) λs hs=>h s (.inl (.inl (.inl hs)))]
 |call c=>simp only[dL,vL (e:=e) (l:=c.args.toList) h]
 |_=>rfl
def sb(dt:Tr DV):List Tmp->Tr DV
 |[]=>.nil
 |s::l=>(sb dt l).set s (dt.get s)
def BA(dt:Tr DV)(s:Tmp):∀(l:List Tmp),(sb dt l).get s=if s∈l then dt.get s else none
 |[]=>by simp[sb,Tr.get_nil]
 |a::l=>by
  simp only[sb,Tr.bD,BA dt s l,Ey];by_cases h1:s=a
  . subst h1;simp
  . simp[h1]
def VG{ops:List Oper}{pl:List PJ}{s:Tmp}(hw:writes ops pl s=true){k:Nat}{o:Oper}{p:PJ}(ho:ops[k]? =some o)(hp:pl[k]? =some p)(hd:o.dst=some s):p.bp=true:=by
 have hz:(o,p)∈ops.zip pl:=by
  refine Rb (i:=k) ?_;rw[Yt];exact⟨ho,hp⟩
 have:=UR.1 hw _ hz;simp only[hd,Nat.beq_refl,afl,Bool.false_or]at this;exact this
section
variable {ops:List Oper} {ae:List PJ} {G0:Nat->Prop} {h0:ab} {d0:ah} {na i id c:Nat} {ax all:dA} {dp:eW} {st:List (Nat×ab)} {sn:List (Tr Value)} {T:List Nat} {L:List (Nat×Nat)}
def DI.bp(q:DI e ops ae G0 h0 d0 na i id c t dt G h dh ax all dp st sn T L)(x0:bP G0 h0 d0){op:Op}{m:Nat}(hs:(slotsOf op).all (writes ops ae)=true){d:DV}(hd:aZ e (fD dh m dp) dt op=some d)(hc:sa h0.next T (dL e dt op)):
 ∃u,bI e h0 t op=some u/\Rel (aP h0 G0) u d/\(∀b,iE e t op=some b->(dL e dt op=some b/\b<h0.next/\b∉T)\/G0 b)/\∀g,(∀b,iE e t op=some b->g.get b=h0.get b)->bI e g t op=some u:=by
 have af:∀s∈slotsOf op,(sb dt (slotsOf op)).get s=dt.get s:=λs hs=>by rw[BA,if_pos hs]
 have ht:TD (aP h0 G0) t (sb dt (slotsOf op)):=⟨x0.e9,λs v hv=>by
  rw[BA]at hv
  split at hv
  . rename_i hm;exact q.tO s v (λk o p _ ho hp aK=>VG (UR.1 hs s hm) ho hp aK) hv
  . cases hv⟩
 have aj:∀b,dL e dt op=some b->b<h0.next/\b∉T:=λb hb=>by rw[hb]at hc;exact hc
 have aC:aZ e d0 (sb dt (slotsOf op)) op=some d:=by
  rw[Vw af,<-hd];refine VD λb hb=> ?_;obtain⟨h1,h2⟩:=aj b hb;rw[ye _ _ _ _ λy hy _ he=>by have:=(q.pid y hy).1;omega];exact((q.ag b h1 h2).2).symm
 obtain⟨u,h1,h2⟩:=xZ x0 ht aC;refine⟨u,h1,h2,λb hb=> ?_,λg hg=> ?_⟩
 . rcases VE ht aC hb with h3|⟨r,h3⟩
   . rw[VF af]at h3;exact .inl ⟨h3,aj b h3⟩
   . exact .inr (qk h3).1
 . rw[<-h1];exact VC hg
def qw.mono{L':List (Nat×Nat)}{tc aG:Tr Value}{k:Nat}{tk:Tr Value}(hL:∀b∈L,b∈L')(ht:∀o d,ops[k]? =some o->o.dst=some d->aG.get d=tc.get d)(h:qw e ops ae G0 h0 L tc k tk):qw e ops ae G0 h0 L' aG k tk:=λo p ho hp aL=>by
 rcases h o p ho hp aL with h1|⟨h1,d,v,h2,h3,h4,h5⟩
 . exact .inl h1
 . exact .inr ⟨h1,d,v,h2,by rw[ht o d ho h2];exact h3,λb hb=>(h4 b hb).imp (λz=>z) λ⟨z,z1,z2⟩=>⟨z,z1,hL _ z2⟩,h5⟩
def VH{o:Oper}{p:PI}{r:List Oper}{pl:List PI}{n:Nat}{ds:List Deferred}{K:cF->Prop}{w:Bool}(av:dB o.dst n)(hw:cZ ops ⟨t,n,ds,h⟩ o=some w)
 (hk:match w,p.c with
  |true,.pure=>aN (bI e h t o.op) λv=>cw e none ops r pl (i+1) id (bN o.dst v t) n ds h ax all st (t::sn) K
  |true,.read=>aN (bI e (cq h p.m ax) t o.op) λv=>cw e none ops r pl (i+1) id (bN o.dst v t) n ds h ax all st (t::sn) K
  |true,.alloc=>aN (cU e t o.op) λq=>cw e none ops r pl (i+1) (id+1) (bN o.dst (q.2 id) t) n ds h ((i,id,q.1)::ax) ((i,id,q.1)::all) st (t::sn) K
  |true,.effect=>bL e none o.op t ds (cq h p.m ax) λv ds h=>cw e none ops r pl (i+1) id (bN o.dst v t) n ds h (ax.filter λq=> !p.m.testBit q.1) all ((Nat.lor ((st.head?.map (·.1)).getD 0) p.m,h)::st) (t::sn) K
  |true,.bad=>False
  |false,.effect=>cw e none ops r pl (i+1) id (bN o.dst undef t) n ds h ax all (((st.head?.map (·.1)).getD 0,h)::st) (t::sn) K
  |false,.alloc=>cw e none ops r pl (i+1) (id+1) (bN o.dst undef t) n ds h ax all st (t::sn) K
  |false,.bad=>False
  |false,_=>cw e none ops r pl (i+1) id (bN o.dst undef t) n ds h ax all st (t::sn) K):
 cw e none ops (o::r) (p::pl) i id t n ds h ax all st sn K:=by
 obtain⟨c,m,dy⟩:=p;refine⟨av, ?_⟩;unfold cZ at hw;cases hg:o.guard with
 |none=>
  rw[hg]at hw;simp only[Fj]at hw;subst hw;cases c<;>exact hk
 |some jw=>
  obtain⟨j,want⟩:=jw;rw[hg]at hw;simp only at hw⊢;cases hd:(ops[j]?).bind (·.dst)with
  |none=>simp[hd]at hw
  |some d=>
   simp only[hd]at hw;refine⟨d,rfl, ?_⟩;cases ht:t.get d with
   |none=>simp[ht]at hw
   |some g=>
    refine⟨g,ht, ?_⟩;cases g with
    |bool b=>
     simp only[ht,Fj]at hw;refine⟨λhb=> ?_,λhb=> ?_⟩
     . have:w=true:=by rw[<-hw,hb];simp
       subst this;cases c<;>exact hk
     . have:w=false:=by rw[<-hw,hb];cases want<;>rfl
       subst this;cases c<;>exact hk
    |tuple vs=>
     simp only[ht,Fj]at hw;subst hw;cases c<;>exact hk
    |_=>simp[ht]at hw
def BB(m:Nat):∀{p:dA} {dp:eW},aU (oW R) p dp->aU (oW R) (p.filter λq=> !m.testBit q.1) (iP m dp)
 |_,_,.nil=>.nil
 |_,_,.cons (a:=a) (b:=b) h1 h2=>by
  simp only[iP,yx,h1.i]
  split
  . exact .cons h1 (BB m h2)
  . exact BB m h2
def oW.mono{R':Rows}(hR:∀i r,R i=some r->R' i=some r){x:Nat×Nat×bR}{y:Nat×Nat×bJ}(h:oW R x y):oW R' x y:=⟨h.i,h.id,h.o.mono hR⟩
def BC(ops:List Oper):Prop:=∀(j k:Nat) o p d,ops[j]? =some o->ops[k]? =some p->j≠k->o.dst=some d->p.dst≠some d
def VI{ms:List Nat}(h:pW ops ms=true):BC ops:=by
 intro j k o p d ho hp aM hd aA;simp only[pW,HT,UR]at h;obtain⟨⟨⟨⟨_,_⟩,h3⟩,_⟩,_⟩:=h;have m1:(o,j)∈ops.zipIdx:=by rw[aff];simpa using ho
 have m2:(p,k)∈ops.zipIdx:=by rw[aff];simpa using hp
 have:=h3 _ m1;simp only[hd]at this;have:=UR.1 this _ m2;have hb:afg j k=false:=by
  cases hb:afg j k with
  |false=>rfl
  |true=>exact absurd (YN hb) aM
 simp only[hb,aA,Nat.beq_refl,afl,Bool.false_and,Bool.or_self]at this;cases this
def BD{α:Type}{l:List α}{a x:α}{k:Nat}(h:(l++[a])[k]? =some x):l[k]? =some x\/(k=l.length/\x=a):=by
 rcases afe k l.length with hk|hk
 . rw[List.getElem?_append_left hk]at h;exact .inl h
 . rw[afm hk]at h;have:k-l.length=0:=by
    rcases Nat.eq_zero_or_pos (k-l.length)with h0|h0
    . exact h0
    . rw[List.getElem?_eq_none (by simp;omega)]at h;cases h
   rw[this]at h;simp only[afq,Fj]at h;exact .inr ⟨aa,h.symm⟩
def DI.next(q:DI e ops ae G0 h0 d0 na i id c t dt G h dh ax all dp st sn T L)(az:BC ops){o:Oper}{p:PJ}(ho:ops[i]? =some o)(hp:ae[i]? =some p){u:Value}{d:DV}(hr:Rel (aP h G) u d)(hold:p.bp=true->Rel (aP h0 G0) u d)
 {L':List (Nat×Nat)} (hL:∀b∈L,b∈L') (aO:∀x∈L',x.1<h0.next) (aR:∀y∈L',∀(j:Nat) z,st.reverse[j]? =some z->j<=y.2->z.2.get y.1=h0.get y.1) (aS:qw e ops ae G0 h0 L' (bN o.dst u t) i t):
 DI e ops ae G0 h0 d0 na (i+1) id c (bN o.dst u t) (cH o.dst d dt) G h dh ax all dp st (t::sn) T L' where
 x:=q.x
 k:=q.k
 nx:=q.nx
 lo:=q.lo
 pe:=q.pe
 pid:=q.pid
 pw:=q.pw
 res:=q.res
 al:=q.al
 ht:=q.ht.put o.dst hr
 tO:=by
  intro s c hs hc;have rest:dt.get s=some c->∃w,t.get s=some w/\Rel (aP h0 G0) w c:=λhc=>q.tO s c (λk o p hk=>hs k o p aa) hc;cases ai:o.dst with
  |none=>rw[ai]at hc;exact rest hc
  |some s'=>
   rw[ai]at hc;simp only[cH,Tr.bD]at hc;simp only[bN,Tr.bD]
   split at hc
   . rename_i he;cases hc;exact⟨u,by rw[if_pos he],hold (hs i o p aa ho hp (by rw[ai,he]))⟩
   . rename_i he;rw[if_neg he];exact rest hc
 ag:=q.ag
 st:=q.st
 LT:=aO
 ls:=aR
 hd:=q.hd
 sl:=q.sl
 rd:=by
  intro k tk hk;rw[adr]at hk;rcases BD hk with h1|⟨h1,rfl⟩
  . have aX:k<i:=by
     have:=(afd.1 h1).1;rw[Q0,q.sn]at this;exact this
    refine(q.rd k tk h1).mono hL λo' d' aT aA=> ?_;cases ai:o.dst with
    |none=>rfl
    |some s'=>
     have:d'≠s':=λhe=>az k i o' o d' aT ho aa aA (by rw[ai,he]);simp only[bN,Tr.bD,if_neg this]
  . rw[Q0,q.sn]at h1;subst h1;exact aS
 sn:=by simp[q.sn]
end
end Go.aD
end
noncomputable section
namespace Go.aD
variable {e:Env}
section
variable {ops:List Oper} {an:List PJ} {G0:Nat->Prop} {h0:ab} {d0:ah} {na:Nat}
def BG{o:Oper}{p:PJ}(h:r9 ops an o p=true)(hold:p.bp=true):p.c=.alloc\/((p.c=.pure\/p.c=.read)/\(slotsOf o.op).all (writes ops an)=true):=by
 simp only[r9,hold,afl,Bool.false_or,HT]at h;cases hc:p.c with
 |alloc=>exact .inl rfl
 |pure=>rw[hc]at h;exact .inr ⟨.inl rfl,h.1⟩
 |read=>rw[hc]at h;exact .inr ⟨.inr rfl,h.1⟩
 |effect=>rw[hc]at h;simp at h
 |bad=>rw[hc]at h;simp at h
def vO{o:Oper}{p:PJ}(h:r9 ops an o p=true)(aW:p.dy≠none):p.bp=true/\(∃d,o.dst=some d)/\p.c=.read:=by
 simp only[r9,HT]at h;cases hd:p.dy with
 |none=>exact absurd hd aW
 |some x=>
  simp only[hd,HT]at h;exact⟨h.2.1.1,afp.1 h.2.1.2,by simpa using h.2.2⟩
def VJ{dy:Option (Nat×Nat)}{b:Option Nat}{L:List (Nat×Nat)}:∀x∈L,x∈kA dy b L:=λx hx=>by
 unfold kA
 split
 . exact Rm _ hx
 . exact hx
def df.s(ai:BC ops)(bn:∀(k:Nat) o p,ops[k]? =some o->an[k]? =some p->cls o.op=p.c/\r9 ops an o p=true)(x0:bP G0 h0 d0){K:DS->Prop}{n:Nat}:∀(l:List Oper) (pl:List PJ) (i id c':Nat) (t:Tr Value) (dt:Tr DV) (ds:List Deferred) (dd:List FuncId) (G:Nat->Prop) (h:ab) (dh:ah) (ax all:dA) (dp:eW) (st:List (Nat×ab)) (sn:List (Tr Value)) (T:List Nat) (L:List (Nat×Nat)),
 i<=ops.length->l=ops.drop i->pl=an.drop i->id+(l.filter λo=>cls o.op==.alloc).length=h0.next+na->aU rT ds dd->DI e ops an G0 h0 d0 na i id c' t dt G h dh ax all dp st sn T L->df e ops h0.next l pl i id c' dt n dd dh dp T L K->
 cw e none ops l (pl.map PJ.pi) i id t n ds h ax all st sn (λx=>(∃L:List (Nat×Nat),(∀(k:Nat) tk,x.di.reverse[k]? =some tk->qw e ops an G0 h0 L x.s.t k tk)/\x.di.length=ops.length/\(∀q∈x.all,h0.next<=q.2.1)/\(∀q∈x.bK,∀b,G0 b->q.2.get b=h0.get b)/\(∀y∈L,y.1<h0.next)/\(∀y∈L,∀(j:Nat) q,x.bK.reverse[j]? =some q->j<=y.2->q.2.get y.1=h0.get y.1))/\mT G0 h0 d0 K {x.s with h:=e8 x.s.h x.ax}):=by
 intro l
 induction l with
 |nil=>
  intro pl i id c' t dt ds dd G h dh ax all dp st sn T L bo hl aH _ aG q hs;have hi:ops.length<=i:=by
   have:=congrArg List.length hl;simp at this;omega
  rw[Fe];have hlen:sn.length=ops.length:=by rw[q.sn];omega
  obtain⟨k1,k2,k3,k4⟩:=Gg q.x q.k q.pe λy hy=>⟨(q.pid y hy).1,(q.pid y hy).2.2.1,(q.pid y hy).2.2.2.2⟩;exact⟨⟨L,q.rd,hlen,q.al,λy hy b hb=>q.st y hy b (x0.still b hb).1 (.inr hb),q.LT,q.ls⟩,⟨dt,n,dd,kV dh dp⟩,G,⟨rfl,q.ht.mono k3,aG,k1⟩,k2,by simpa[df]using hs⟩
 |cons o r ih=>
  intro pl i id c' t dt ds dd G h dh ax all dp st sn T L bo hl aH ae aG q hs;cases pl with
  |nil=>simp[df]at hs
  |cons p pl=>
   have aJ:i<ops.length:=by
    rcases afe i ops.length with h1|h1
    . exact h1
    . rw[afu h1]at hl;cases hl
   have ho:ops[i]? =some o:=by
    have:(ops.drop i)[0]? =some o:=by rw[<-hl];rfl
    simpa[afn]using this
   have hp:an[i]? =some p:=by
    have:(an.drop i)[0]? =some p:=by rw[<-aH];rfl
    simpa[afn]using this
   have aK:r=ops.drop (i+1):=by rw[<-afw,<-hl];rfl
   have aj:pl=an.drop (i+1):=by rw[<-afw,<-aH];rfl
   obtain⟨hc,aL⟩:=bn i o p ho hp;obtain⟨aX,w,hw,hs⟩:=hs;have bq:∀{ds:List Deferred} {g:ab} {m:Nat},cZ ops ⟨t,m,ds,g⟩ o=some w:=A8 q.ht hw;rw[List.map_cons];refine VH aX bq ?_;have bs:∀y∈dp,h0.next<=y.2.1/\y.2.1<h.next/\¬G y.2.1:=λy hy=>⟨(q.pid y hy).1,(q.pid y hy).2.2.1,(q.pid y hy).2.2.2.2⟩;have aR:∀b,G0 b->b<h0.next/\h.get b=h0.get b:=λb hb=>⟨(x0.still b hb).1,(q.k.same b (x0.still b hb).1 (x0.still b hb).2).1⟩;have bZ:∀b,b<h0.next->(b∉T\/G0 b)->h.get b=h0.get b:=λb hb av=>by
    rcases av with h1|h1
    . exact(q.ag b hb h1).1
    . exact(aR b h1).2
   obtain⟨kx,kk,km,kn⟩:=Gf p.m q.x q.k q.pe bs;have bf:∀b,b<h0.next->(cq h p.m ax).get b=h.get b:=λb hb=>yd _ _ _ _ λy hy he=>by
    obtain⟨j,hj⟩:=afc hy;obtain⟨y',bt,bw⟩:=q.pe.get j y hj;have:=(q.pid y' (Rb bt)).1;rw[<-bw.id]at this;omega
   have bB:p.dy=none->∀{L':List (Nat×Nat)} {tc:Tr Value},qw e ops an G0 h0 L' tc i t:=λaW L' tc o' p' az aA aC=>by
    rw[hp]at aA;cases aA;exact absurd aW aC
   cases w with
   |true=>
    obtain⟨c,m,dy,bp⟩:=p;simp only at hs hc⊢;cases c with
    |bad=>exact hs.elim
    |pure=>
     obtain⟨v,h1,h2⟩:=hs;obtain⟨u,h3,h4⟩:=xZ q.x q.ht h1;refine⟨u,h3, ?_⟩;have ad:id+(r.filter λo=>cls o.op==.alloc).length=h0.next+na:=by
      rw[yx,hc]at ae;simpa using ae
     refine ih pl (i+1) id c' _ _ ds dd G h dh ax all dp st (t::sn) T L aJ aK aj ad aG (q.next ai ho hp h4 (λhold=> ?_) (λ_ hb=>hb) q.LT q.ls ?_) h2
     . rcases BG aL hold with h5|⟨_,h5⟩
       . cases h5
       . have aC:aZ e (fD dh 0 dp) dt o.op=some v:=by rw[<-h1];exact Vy hc
         obtain⟨u',h6,h7,_,_⟩:=q.bp x0 (m:=0) h5 aC (by
          have:dL e dt o.op=none:=by
           cases aY:o.op with
           |load ty a=>rw[aY]at hc;cases hc
           |lookup ty m k ok=>rw[aY]at hc;cases hc
           |slice ty x lo hi mx=>rw[aY]at hc;cases hc
           |convert s d x=>rw[aY]at hc;cases hc
           |call c=>rw[aY]at hc;simp only[cls]at hc;split at hc<;>cases hc
           |_=>rfl
          rw[this];trivial)
         rw[Vx (h2:=h) hc,h3]at h6;cases h6;exact h7
     . intro o' p' az aA aC;rw[ho]at az;rw[hp]at aA;cases az;cases aA;cases(vO aL aC).2.2
    |read=>
     obtain⟨v,h1,bO,h2⟩:=hs;have bg:TD (aP (cq h m ax) G) t dt:=q.ht.mono km;obtain⟨u,h3,h4⟩:=xZ kx bg h1;refine⟨u,h3, ?_⟩;have ad:id+(r.filter λo=>cls o.op==.alloc).length=h0.next+na:=by
      rw[yx,hc]at ae;simpa using ae
     have hR:Rel (aP h G) u v:=by
      refine h4.mono λb rr hb=> ?_;obtain⟨g1,wr,g2⟩:=qk hb;refine rS (wr:=wr) g1 ?_;rw[<-g2];refine(yd _ _ _ _ λy hy he=> ?_).symm;obtain⟨j,hj⟩:=afc hy;obtain⟨y',bt,bw⟩:=q.pe.get j y hj;have:=(q.pid y' (Rb bt)).2.2.2.2;rw[<-bw.id,he]at this;exact this g1
     have hold:bp=true->∃bE:(slotsOf o.op).all (writes ops an)=true,True:=λho=>by
      rcases BG aL ho with h5|⟨_,h5⟩
      . cases h5
      . exact⟨h5,trivial⟩
     have again:bp=true->Rel (aP h0 G0) u v/\(∀b,iE e t o.op=some b->(dL e dt o.op=some b/\b<h0.next/\b∉T)\/G0 b)/\∀g,(∀b,iE e t o.op=some b->g.get b=h0.get b)->bI e g t o.op=some u:=λho=>by
      obtain⟨h5,_⟩:=hold ho;obtain⟨u',h6,h7,h8,h9⟩:=q.bp x0 (m:=m) h5 h1 (bO ho);have:bI e (cq h m ax) t o.op=some u':=h9 _ λb hb=>by
       rcases h8 b hb with⟨_,a1,a2⟩|a1
       . rw[bf b a1];exact(q.ag b a1 a2).1
       . rw[bf b (aR b a1).1];exact(aR b a1).2
      rw[h3]at this;cases this;exact⟨h7,h8,h9⟩
     have bR:∀x∈kA dy (dL e dt o.op) L,x.1<h0.next/\(x∈L\/x.1∉T):=λx hb=>by
      unfold kA at hb
      split at hb
      . rename_i z b' hz;rcases Ey.1 hb with rfl|hb
        . have ho:bp=true:=(vO aL aw).1;have:=bO ho;rw[hz]at this;exact⟨this.1,.inr this.2⟩
        . exact⟨q.LT x hb,.inl hb⟩
      . exact⟨q.LT x hb,.inl hb⟩
     have b0:∀x∈kA dy (dL e dt o.op) L,∀j y,st.reverse[j]? =some y->j<=x.2->y.2.get x.1=h0.get x.1:=λx hx j y hy hj=>by
      obtain⟨a1,a2⟩:=bR x hx;rcases a2 with a2|a2
      . exact q.ls x a2 j y hy hj
      . exact q.st y (afx.1 (Rb hy)) x.1 a1 (.inl a2)
     refine ih pl (i+1) id c' _ _ ds dd G h dh ax all dp st (t::sn) T _ aJ aK aj ad aG (q.next ai ho hp hR (λho=>(again ho).1) VJ (λx hx=>(bR x hx).1) b0 ?_) h2;intro o' p' az aA aC;rw[ho]at az;rw[hp]at aA;cases az;cases aA;obtain⟨hold,⟨d,hd⟩,_⟩:=vO aL aC;obtain⟨h7,h8,h9⟩:=again hold;refine .inr ⟨bq,d,u,hd,by rw[hd];simp[bN,Tr.bD],λb hb=> ?_,h9⟩;rcases h8 b hb with⟨a0,_,_⟩|a1
     . right;unfold kA;rw[a0];cases dy with
       |none=>exact absurd rfl aC
       |some z=>exact⟨z,rfl,aw⟩
     . exact .inl a1
    |alloc=>
     obtain⟨⟨ob,f⟩,h1,h2⟩:=hs;obtain⟨ao,af,h3,h4,h5⟩:=FI q.ht h1;refine⟨(ao,af),h3, ?_⟩;have ad:id+1+(r.filter λo=>cls o.op==.alloc).length=h0.next+na:=by
      rw[yx,hc]at ae;simp only[beq_self_eq_true,if_true,Xt]at ae;omega
     have bF:id<h0.next+na:=aa;have q':=q.next ai ho hp (h5 (aP h G) id) (λ_=>h5 _ _) (λ_ hb=>hb) q.LT q.ls (λo' p' az aA aC=>by
      rw[ho]at az;rw[hp]at aA;cases az;cases aA;cases(vO aL aC).2.2)
     refine ih pl (i+1) (id+1) c' _ _ ds dd G h dh _ _ ((i,id,ob)::dp) st (t::sn) T L aJ aK aj ad aG {q' with lo:=(by have:=q.lo;omega),pe:=.cons ⟨rfl,rfl,h4⟩ q.pe,pid:= ?_,pw:= ?_,res:=λj hj aV=>q.res j aa aV,al:= ?_} h2
     . intro y hy;rcases Ey.1 hy with rfl|hy
       . have hr:=q.res id (afi _) bF;have:=q.nx;exact⟨q.lo,Nat.lt_succ_self _,by simp only;omega,hr.1,hr.2⟩
       . obtain⟨a1,a2,a3,a4,a5⟩:=q.pid y hy;exact⟨a1,aa,a3,a4,a5⟩
     . intro y hy z hz he;rcases Ey.1 hy with rfl|hy<;>rcases Ey.1 hz with rfl|hz
       . rfl
       . have:=(q.pid z hz).2.1;simp only at he;omega
       . have:=(q.pid y hy).2.1;simp only at he;omega
       . exact q.pw y hy z hz he
     . intro y hy;rcases Ey.1 hy with rfl|hy
       . exact q.lo
       . exact q.al y hy
    |effect=>
     have ad:id+(r.filter λo=>cls o.op==.alloc).length=h0.next+na:=by
      rw[yx,hc]at ae;simpa using ae
     have aO:bp=false:=by
      cases bp with
      |false=>rfl
      |true=>rcases BG aL rfl with h5|⟨h5|h5,_⟩<;>cases h5
     have bG:dy=none:=by
      cases dy with
      |none=>rfl
      |some z=>have:=(vO aL aw).1;rw[aO]at this;cases this
     have bg:TD (aP (cq h m ax) G) t dt:=q.ht.mono km;refine bL.mono ?_ (cx.x (ar:=true) kx bg aG hs);rintro u b5 h' ⟨d,b6,bH,G',T',k1,k2,k3,k4,k5,k6,k7⟩;have bT:=k2.aP kx;have b7:∀i r,aP h G i=some r->aP h' G' i=some r:=λi r hr=>bT i r (km i r hr);have bW:∀j,h0.next<=j->dh.get j=none->(∀y∈dp,m.testBit y.1=true->y.2.1≠j)->(fD dh m dp).get j=none:=λj _ hj hy=>by rw[ye _ _ _ _ hy];exact hj
     have bk:∀j,j<h.next->¬G j->(fD dh m dp).get j=none->bH.get j=none/\¬G' j:=λj hj hg hd=>by
      refine⟨(k2.same j (by rw[kn];exact hj) hd).2,λb8=> ?_⟩;rcases k2.bp j (by rw[kn];exact hj) b8 with h1|h1
      . exact hg h1
      . rw[hd]at h1;cases h1
     have aS:∀y∈iP m dp,y∈dp/\m.testBit y.1=false:=λy hy=>by
      simp only[iP,afy,Bool.not_eq_true']at hy;exact hy
     have ba:∀b,b<h0.next->(b∉T'++T\/G0 b)->h'.get b=h0.get b:=λb hb av=>by
      rcases av with h1|h1
      . simp only[oY,not_or]at h1;rw[(k5 b (by rw[kn];have:=q.nx;omega) h1.1).1,bf b hb];exact(q.ag b hb h1.2).1
      . exact((kk.trans k2).same b hb (x0.still b h1).2).1
     have b9:=kk.trans k2;have ca:h.next<=h'.next:=by rw[<-kn];exact k2.next
     have q1:DI e ops an G0 h0 d0 na i id (c'+1) t dt G' h' bH (ax.filter λq=> !m.testBit q.1) all (iP m dp) ((Nat.lor ((st.head?.map (·.1)).getD 0) m,h')::st) sn (T'++T) L:={
      x:=k1
      k:=b9
      nx:=Nat.le_trans q.nx ca
      lo:=q.lo
      pe:=aU.mono (BB m q.pe) λ_ _=>oW.mono b7
      pid:=λy hy=>by
       obtain⟨bl,cb⟩:=aS y hy;obtain⟨a1,a2,a3,a4,a5⟩:=q.pid y bl;obtain⟨b1,b2⟩:=bk y.2.1 a3 a5 (bW _ a1 a4 λz hz bX he=>by
        have:=q.pw z hz y bl he;rw[this,cb]at bX;cases bX)
       exact⟨a1,a2,aa,b1,b2⟩
      pw:=λy hy z hz=>q.pw y (aS y hy).1 z (aS z hz).1
      res:=λj hj aV=>by
       obtain⟨a1,a2⟩:=q.res j hj aV;have:=q.nx;have:=q.lo;exact bk j aa a2 (bW _ aa a1 λz hz _ he=>by have:=(q.pid z hz).2.1;omega)
      al:=q.al
      ht:=bg.mono bT
      tO:=q.tO
      ag:=λb hb av=>by
       refine⟨ba b hb (.inl av), ?_⟩;simp only[oY,not_or]at av;rw[(k5 b (by rw[kn];have:=q.nx;omega) av.1).2,ye _ _ _ _ λz hz _ he=>by have:=(q.pid z hz).1;omega];exact(q.ag b hb av.2).2
      st:=λy hy b hb av=>by
       rcases Ey.1 hy with rfl|hy
       . exact ba b hb av
       . refine q.st y hy b hb (av.imp (λh1=> ?_) λh1=>h1);simp only[oY,not_or]at h1;exact h1.2
      LT:=q.LT
      ls:=λy hy j z hz hj=>by
       rw[adr]at hz;rcases BD hz with h1|⟨h1,rfl⟩
       . exact q.ls y hy j z h1 hj
       . rw[Q0,q.sl]at h1;subst h1;have bl:=q.LT y hy;show h'.get y.1=h0.get y.1;rw[(k5 y.1 (by rw[kn];have:=q.nx;omega) (k6 y hy hj)).1,bf y.1 bl];obtain⟨m0,r0,bb⟩:=q.hd;have aE:st.reverse[c']? =some (m0,h):=by
          have aT:=q.sl;rw[bb]at aT⊢;rw[adr,afm (by rw[Q0];simp at aT;omega),Q0];simp at aT;rw[show c'-r0.length=0 by omega];rfl
         exact q.ls y hy c' (m0,h) aE aa
      hd:=⟨_,_,rfl⟩
      sl:=by rw[Xt,q.sl]
      rd:=q.rd
      sn:=q.sn}
     exact ih pl (i+1) id (c'+1) _ _ b5 b6 G' h' bH _ all (iP m dp) _ (t::sn) (T'++T) L aJ aK aj ad k4 (q1.next ai ho hp k3 (λho=>by rw[aO]at ho;cases ho) (λ_ hb=>hb) q1.LT q1.ls (bB bG)) k7
   |false=>
    obtain⟨c,m,dy,bp⟩:=p;simp only at hs hc⊢;have cc:∀{tc:Tr Value},qw e ops an G0 h0 L tc i t:=λo' p' az aA aC=>by
     rw[ho]at az;cases az;exact .inl bq
    have q':=q.next ai ho hp (oT (R:=aP h G)) (λ_=>oT) (λ_ hb=>hb) q.LT q.ls cc;cases c with
    |bad=>exact hs.elim
    |pure=>
     have ad:id+(r.filter λo=>cls o.op==.alloc).length=h0.next+na:=by
      rw[yx,hc]at ae;simpa using ae
     exact ih pl (i+1) id c' _ _ ds dd G h dh ax all dp st (t::sn) T L aJ aK aj ad aG q' hs
    |read=>
     have ad:id+(r.filter λo=>cls o.op==.alloc).length=h0.next+na:=by
      rw[yx,hc]at ae;simpa using ae
     exact ih pl (i+1) id c' _ _ ds dd G h dh ax all dp st (t::sn) T L aJ aK aj ad aG q' hs
    |alloc=>
     have ad:id+1+(r.filter λo=>cls o.op==.alloc).length=h0.next+na:=by
      rw[yx,hc]at ae;simp only[beq_self_eq_true,if_true,Xt]at ae;omega
     exact ih pl (i+1) (id+1) c' _ _ ds dd G h dh ax all dp st (t::sn) T L aJ aK aj ad aG {q' with lo:=(by have:=q.lo;omega),pid:=λy hy=>(by obtain⟨a1,a2,a3⟩:=q.pid y hy;exact⟨a1,aa,a3⟩),res:=λj hj aV=>q.res j aa aV} hs
    |effect=>
     have ad:id+(r.filter λo=>cls o.op==.alloc).length=h0.next+na:=by
      rw[yx,hc]at ae;simpa using ae
     have bb:∀y∈((st.head?.map (·.1)).getD 0,h)::st,∀b,b<h0.next->(b∉T\/G0 b)->y.2.get b=h0.get b:=λy hy b hb av=>by
      rcases Ey.1 hy with rfl|hy
      . exact bZ b hb av
      . exact q.st y hy b hb av
     have cd:∀y∈L,∀j z,(((st.head?.map (·.1)).getD 0,h)::st).reverse[j]? =some z->j<=y.2->z.2.get y.1=h0.get y.1:=λy hy j z hz hj=>by
      rw[adr]at hz;rcases BD hz with h1|⟨h1,rfl⟩
      . exact q.ls y hy j z h1 hj
      . rw[Q0,q.sl]at h1;subst h1;obtain⟨m0,r0,bb⟩:=q.hd;have aE:st.reverse[c']? =some (m0,h):=by
         have aT:=q.sl;rw[bb]at aT⊢;rw[adr,afm (by rw[Q0];simp at aT;omega),Q0];simp at aT;rw[show c'-r0.length=0 by omega];rfl
        exact q.ls y hy c' (m0,h) aE aa
     exact ih pl (i+1) id (c'+1) _ _ ds dd G h dh ax all dp _ (t::sn) T L aJ aK aj ad aG {q' with st:=bb,ls:=cd,hd:=⟨_,_,rfl⟩,sl:=(by rw[Xt,q.sl])} hs
def Gh{tf:Tr Value}{all:dA}{st:List (Nat×ab)}:∀{l:List Oper} {pl:List PI} {ts:List (Tr Value)},pl.length=l.length->ts.length=l.length->(∀(k:Nat) o p t,l[k]? =some o->pl[k]? =some p->ts[k]? =some t->p.dy≠none->
 cZ ops ⟨t,0,[],{m:=.nil,next:=0}⟩ o=some false\/(cZ ops ⟨t,0,[],{m:=.nil,next:=0}⟩ o=some true/\∃d v,o.dst=some d/\tf.get d=some v/\∀x,p.dy=some x->∀q∈(st.drop x.1).take x.2,bI e (cq q.2 p.m (all.filter λx=> !q.1.testBit x.1)) t o.op=some v))->gz e ops tf all st l pl ts
 |[],_,_,_,_,_=>by simp[gz]
 |o::r,[],_,h1,_,_=>by simp at h1
 |o::r,p::pl,[],_,h2,_=>by simp at h2
 |o::r,p::pl,t::ts,h1,h2,h=>by
  refine⟨?_,Gh (by simpa using h1) (by simpa using h2) λk o' p' t' a b c=>h (k+1) o' p' t' (by simpa using a) (by simpa using b) (by simpa using c)⟩;cases hd:p.dy with
  |none=>trivial
  |some lk=>
   obtain⟨lo,k⟩:=lk;rcases h 0 o p t rfl rfl rfl (by rw[hd];simp)with h3|⟨h3,d,v,h4,h5,h6⟩
   . simp only[h3]
   . simp only[h3,h4,h5];have:∀(l:List (Nat×ab)),(∀q∈l,q∈(st.drop lo).take k)->oP e o p.m t v all l:=by
      intro l
      induction l with
      |nil=>exactλ_=>trivial
      |cons q l ih=>exactλhl=>⟨h6 (lo,k) hd q (hl q aw),ih λq' cg=>hl q' (Rm _ cg)⟩
     exact this _ λq hq=>hq
def VK{t:Tr Value}{n:Nat}{ds:List Deferred}{h:ab}{K:aM->Prop}{K1:cF->Prop}(pl:List PI)(aH:rL ops true pl=true)(ae:(ops.filter λo=>cls o.op==.alloc).length=na)
 (hK:∀x,K1 x->gz e ops x.s.t x.all x.bK.reverse ops pl x.di.reverse/\K {x.s with h:=e8 x.s.h x.ax})
 (hs:cw e none ops ops pl 0 h.next t n ds {h with next:=h.next+na} [] [] [(0,{h with next:=h.next+na})] [] K1):l8 e none ops ⟨t,n,ds,h⟩ K:=by
 simp only[rL,HT,UR]at aH;obtain⟨⟨h1,h2⟩,h3⟩:=aH;have h2:=YN h2;have h4:∀(k:Nat) o p,ops[k]? =some o->pl[k]? =some p->qd ops (bz ops) (dc ops) k o p=true:=λk o p ho hp=>by
  have hz:(ops.zip pl)[k]? =some (o,p):=by rw[Yt];exact⟨ho,hp⟩
  exact h3 ((o,p),k) (by
   rw[aff];simpa using hz)
 refine⟨h1, ?_⟩;rw[ae];have h5:∀(k:Nat) o p m,ops[k]? =some o->pl[k]? =some p->(bz ops)[k]? =some m->cls o.op=p.c/\m=p.m:=λk o p m ho hp hm=>by
  have:=h4 k o p ho hp;simp only[qd,HT,decide_eq_true_eq]at this;refine⟨this.1.1, ?_⟩;have e1:=YN this.1.2;rw[<-e1,afz,hm];rfl
 refine cw.Ap (λx hx=> ?_) ops pl (bz ops) 0 h.next t n ds _ [] [] _ [] (by rw[xk]) h5 hs;obtain⟨ch,cj⟩:=hK x hx;refine⟨.inr ?_,cj⟩;have:=gz.p (e:=e) (x:=x) (st:=x.bK.reverse) (ef:=dc ops) (ms:=bz ops) rfl ops pl x.di.reverse 0 (λk o p ho hp=>by rw[Nat.zero_add];exact h4 k o p ho hp)
  (λk o m hz=>by
   rw[List.drop_zero,Yt]at hz;rw[Nat.zero_add,afz,hz.2];rfl) ch
 simpa using this
def VL{t:Tr DV}{n:Nat}{dd:List FuncId}{dh:ah}{K:bu->DS->Prop}(pl:List PJ)(aH:vN ops pl=true)(na:Nat)(ae:afg (ops.filter λo=>cls o.op==.alloc).length na=true)(N0:Nat)(hN:dh.next=N0)
 (hs:df e ops N0 ops pl 0 N0 0 t n dd (dh.up (N0+na)) [] [] [] (K .normal)):∀G r,SD G r ⟨t,n,dd,dh⟩->l8 e none ops r (mT G r.h dh (K .normal)):=by
 rintro G ⟨tt,n',ds,h⟩ ⟨q1,q2,q3,q4⟩;simp only at q1 q2 q3 q4;subst q1;subst hN;have bm:=q4.next;simp only[vN,HT]at aH;obtain⟨bY,ck⟩:=aH;have bc:=bY;simp only[rL,HT,UR]at bc;obtain⟨⟨hd,hlen⟩,h3⟩:=bc;have hlen:=YN hlen;rw[afk]at hlen;have bn:∀(k:Nat) o p,ops[k]? =some o->pl[k]? =some p->cls o.op=p.c/\r9 ops pl o p=true:=λk o p ho hp=>by
  have hz:(ops.zip pl)[k]? =some (o,p):=by rw[Yt];exact⟨ho,hp⟩
  refine⟨?_,UR.1 ck _ (Rb hz)⟩;have cl:(ops.zip (pl.map PJ.pi))[k]? =some (o,p.pi):=by rw[Yt];exact⟨ho,by rw[afA,hp];rfl⟩
  have:=h3 ((o,p.pi),k) (by rw[aff];simpa using cl);simp only[qd,HT,decide_eq_true_eq]at this;exact this.1.1
 have x1:bP G (h.bump na) (dh.up (dh.next+na)):=⟨q4.e9.mono (iA λi hg=>⟨hg,rfl⟩),by rw[bS,ah.gR,bm],λi o ho=>by obtain⟨a,b⟩:=q4.obj i o ho;exact⟨by rw[bS];omega,b⟩,λi hi=>by obtain⟨a,b⟩:=q4.still i hi;exact⟨by rw[bS];omega,b⟩⟩;have q:DI e ops pl G h dh na 0 dh.next 0 tt t G (h.bump na) (dh.up (dh.next+na)) [] [] [] [(0,h.bump na)] [] [] []:={
  x:=x1
  k:=⟨by rw[bS];omega,λi hi hd=>⟨rfl,hd⟩,λi hi=>hi,λi hi hg=>.inl hg⟩
  nx:=by rw[bS];omega
  lo:=aa
  pe:=.nil
  pid:=λy hy=>by cases hy
  pw:=λy hy=>by cases hy
  res:=λj hj aV=>by
   refine⟨?_,λhg=> ?_⟩
   . cases cm:(dh.up (dh.next+na)).get j with
     |none=>rfl
     |some o=>have:=(q4.obj j o cm).1;omega
   . have:=(q4.still j hg).1;omega
  al:=λy hy=>by cases hy
  ht:=⟨x1.e9,q2⟩
  tO:=λs d _ hd=>q2 s d hd
  ag:=λb _ _=>⟨rfl,rfl⟩
  st:=λy hy b _ _=>by
   simp only[List.mem_singleton]at hy;subst hy;rfl
  LT:=λb hb=>by cases hb
  ls:=λb hb=>by cases hb
  hd:=⟨_,_,rfl⟩
  sl:=rfl
  rd:=λk tk hk=>by simp at hk
  sn:=rfl}
 have bd:=YN ae;have key:=df.s (n:=n') (VI hd) bn q4 ops pl 0 dh.next 0 tt t ds dd G _ _ [] [] [] _ [] [] [] (Nat.zero_le _) rfl rfl (by rw[bd,bm]) q3 q (by rw[bm];exact hs);rw[<-bm]at key;refine VK (pl.map PJ.pi) bY bd (λx hx=> ?_) key;obtain⟨⟨L,r1,r2,r3,r4,r5,r7⟩,r6⟩:=hx;refine⟨Gh (by rw[afk,hlen]) (by rw[Q0,r2]) λk o p tk ho hp cn aW=> ?_,r6⟩;rw[afA]at hp;obtain⟨pj,bJ,rfl⟩:=afs.1 hp;rcases r1 k tk cn o pj ho bJ aW with h4|⟨h4,d,v,h5,h6,h7,h8⟩
 . exact .inl h4
 . refine .inr ⟨h4,d,v,h5,h6,λxx cp y hy=>h8 _ λb hb=> ?_⟩;obtain⟨j,hj⟩:=afc hy;rw[List.getElem?_take]at hj
   split at hj
   . rename_i cu;rw[afn]at hj;have cr:y∈x.bK:=afx.1 (Rb hj);have ct:b<h.next/\y.2.get b=h.get b:=by
      rcases h7 b hb with h9|⟨z,hz,h9⟩
      . exact⟨(q4.still b h9).1,r4 y cr b h9⟩
      . have:xx=z:=by
         have bM:pj.dy=some xx:=cp;rw[bM]at hz;cases hz;rfl
        subst this;exact⟨r5 _ h9,r7 _ h9 (xx.1+j) y hj (by simp only;omega)⟩
     rw[yd _ _ _ _ λz hz he=>by
      have:=r3 z (afy.1 hz).1;omega]
     exact ct.2
   . cases hj
end
end Go.aD
end
noncomputable section
namespace Go.aD
variable {e:Env} {ar:Bool}
def yf(e:Env)(ops:List Oper)(t:Tr DV)(n:Nat)(dd:List FuncId)(h:ah)(K:bu->DS->Prop):Prop:=∀G r,SD G r ⟨t,n,dd,h⟩->l8 e none ops r (mT G r.h h (K .normal))
def VM(id:Nat)(l:List Oper)(t:Tr DV)(n:Nat)(dd:List FuncId)(h:ah)(K:bu->DS->Prop):RD e ar (.region id l.toArray true) ⟨t,n,dd,h⟩ K=yf e l t n dd h K:=by simp[RD,yf]
def jU{ops:List Oper}{t:Tr DV}{n:Nat}{dd:List FuncId}{h:ah}{K:bu->DS->Prop}(pl:List PJ)(ab:vN ops pl=true)(na:Nat)(ad:afg (ops.filter λo=>cls o.op==.alloc).length na=true)(N0:Nat)(hN:h.next=N0)
 (hs:df e ops N0 ops pl 0 N0 0 t n dd (h.up (N0+na)) [] [] [] (K .normal)):yf e ops t n dd h K:=VL pl ab na ad N0 hN hs
section
variable (ops:List Oper) (N0:Nat) (dst:Option Tmp) (op:Op) (ty:TypeId) (pos:String) (af:Array Edge) (r:List Oper) (m:Nat) (dy:Option (Nat×Nat)) (bp:Bool) (pl:List PJ) (i id c:Nat) (t:Tr DV) (n:Nat) (dd:List FuncId) (h:ah) (ax:eW) (T:List Nat) (L:List (Nat×Nat)) (K:DS->Prop) (w:Bool)
def Gi(e:Env)(ops:List Oper)(N0:Nat)(r:List Oper)(pl:List PJ)(i id c:Nat)(t:Tr DV)(n:Nat)(dd:List FuncId)(h:ah)(ax:eW)(T:List Nat)(L:List (Nat×Nat))(K:DS->Prop)(dst:Option Tmp):DV->Prop:=λv=>df e ops N0 r pl (i+1) id c (cH dst v t) n dd h ax T L K
def vP(e:Env)(ops:List Oper)(N0:Nat)(op:Op)(bp:Bool)(dy:Option (Nat×Nat))(r:List Oper)(pl:List PJ)(i id c:Nat)(t:Tr DV)(n:Nat)(dd:List FuncId)(h:ah)(ax:eW)(T:List Nat)(L:List (Nat×Nat))(K:DS->Prop)(dst:Option Tmp):DV->Prop:=
 λv=>(bp=true->sa N0 T (dL e t op))/\df e ops N0 r pl (i+1) id c (cH dst v t) n dd h ax T (kA dy (dL e t op) L) K
def Gj(e:Env)(ops:List Oper)(N0:Nat)(r:List Oper)(pl:List PJ)(i id c:Nat)(t:Tr DV)(n:Nat)(dd:List FuncId)(h:ah)(ax:eW)(T:List Nat)(L:List (Nat×Nat))(K:DS->Prop)(dst:Option Tmp):bJ×(Nat->DV)->Prop:=λq=>df e ops N0 r pl (i+1) (id+1) c (cH dst (q.2 id) t) n dd h ((i,id,q.1)::ax) T L K
def Gk(e:Env)(ops:List Oper)(N0:Nat)(r:List Oper)(m:Nat)(pl:List PJ)(i id c:Nat)(t:Tr DV)(n:Nat)(ax:eW)(T:List Nat)(L:List (Nat×Nat))(K:DS->Prop)(dst:Option Tmp):b9:=λv dd h T'=>(∀q∈L,c+1<=q.2->q.1∉T')/\df e ops N0 r pl (i+1) id (c+1) (cH dst v t) n dd h (iP m ax) (T'++T) L K
def VN(v:DV):Gi e ops N0 r pl i id c t n dd h ax T L K dst v=df e ops N0 r pl (i+1) id c (cH dst v t) n dd h ax T L K:=(rfl)
def VO(v:DV):vP e ops N0 op false none r pl i id c t n dd h ax T L K dst v=df e ops N0 r pl (i+1) id c (cH dst v t) n dd h ax T L K:=by simp[vP,kA]
def VP(v:DV)(x:Nat×Nat):vP e ops N0 op true (some x) r pl i id c t n dd h ax T L K dst v=(sa N0 T (dL e t op)/\df e ops N0 r pl (i+1) id c (cH dst v t) n dd h ax T (kA (some x) (dL e t op) L) K):=by simp[vP]
def VQ(o:bJ)(f:Nat->DV):Gj e ops N0 r pl i id c t n dd h ax T L K dst (o,f)=df e ops N0 r pl (i+1) (id+1) c (cH dst (f id) t) n dd h ((i,id,o)::ax) T L K:=(rfl)
def VR(v:DV)(T':List Nat):Gk e ops N0 r m pl i id c t n ax T L K dst v dd h T'=((∀q∈L,c+1<=q.2->q.1∉T')/\df e ops N0 r pl (i+1) id (c+1) (cH dst v t) n dd h (iP m ax) (T'++T) L K):=(rfl)
def VS:df e ops N0 [] pl i id c t n dd h ax T L K=K ⟨t,n,dd,kV h ax⟩:=(by cases pl<;>rfl)
def VT:df e ops N0 (⟨dst,op,ty,pos,af,none⟩::r) (⟨.pure,m,dy,bp⟩::pl) i id c t n dd h ax T L K=(dB dst n/\aN (aZ e h t op) (Gi e ops N0 r pl i id c t n dd h ax T L K dst)):=by
 simp only[df,iD,gy];rfl
def VU:df e ops N0 (⟨dst,op,ty,pos,af,none⟩::r) (⟨.read,m,dy,bp⟩::pl) i id c t n dd h ax T L K=(dB dst n/\aN (aZ e (fD h m ax) t op) (vP e ops N0 op bp dy r pl i id c t n dd h ax T L K dst)):=by
 simp only[df,iD,gy];rfl
def VV:df e ops N0 (⟨dst,op,ty,pos,af,none⟩::r) (⟨.alloc,m,dy,bp⟩::pl) i id c t n dd h ax T L K=(dB dst n/\aN (dV e t op) (Gj e ops N0 r pl i id c t n dd h ax T L K dst)):=by
 simp only[df,iD,gy];rfl
def VW:df e ops N0 (⟨dst,op,ty,pos,af,none⟩::r) (⟨.effect,m,dy,bp⟩::pl) i id c t n dd h ax T L K=(dB dst n/\cx e true op t dd (fD h m ax) (Gk e ops N0 r m pl i id c t n ax T L K dst)):=by
 simp only[df,iD,gy];rfl
end
def jV(e:Env)(ops:List Oper)(N0:Nat)(o:Oper)(p:PJ)(r:List Oper)(pl:List PJ)(i id c:Nat)(t:Tr DV)(n:Nat)(dd:List FuncId)(h:ah)(ax:eW)(T:List Nat)(L:List (Nat×Nat))(K:DS->Prop)(w:Bool):DV->Prop:=λg=>aN (match some g with
 |some (.v (.bool b))=>some (b==w)
 |some (.v (.tuple _))=>some false
 |some (.bf _)=>some false
 |_=>none) λw=>match w with
 |true=>df e ops N0 ({o with guard:=none}::r) (p::pl) i id c t n dd h ax T L K
 |false=>match p.c with
  |.alloc=>df e ops N0 r pl (i+1) (id+1) c (cH o.dst cX t) n dd h ax T L K
  |.effect=>df e ops N0 r pl (i+1) id (c+1) (cH o.dst cX t) n dd h ax T L K
  |.bad=>False
  |_=>df e ops N0 r pl (i+1) id c (cH o.dst cX t) n dd h ax T L K
def Gm(e:Env)(ops:List Oper)(N0:Nat)(o:Oper)(p:PJ)(r:List Oper)(pl:List PJ)(i id c:Nat)(t:Tr DV)(n:Nat)(dd:List FuncId)(h:ah)(ax:eW)(T:List Nat)(L:List (Nat×Nat))(K:DS->Prop)(w:Bool):Tmp->Prop:=λd=>aN (t.get d) (jV e ops N0 o p r pl i id c t n dd h ax T L K w)
section
variable (ops:List Oper) (N0:Nat) (dst:Option Tmp) (op:Op) (ty:TypeId) (pos:String) (af:Array Edge) (r:List Oper) (m:Nat) (dy:Option (Nat×Nat)) (bp:Bool) (pl:List PJ) (i id c:Nat) (t:Tr DV) (n:Nat) (dd:List FuncId) (h:ah) (ax:eW) (T:List Nat) (L:List (Nat×Nat)) (K:DS->Prop) (w:Bool)
def VX(j:Nat)(p:PJ):df e ops N0 (⟨dst,op,ty,pos,af,some (j,w)⟩::r) (p::pl) i id c t n dd h ax T L K=(dB dst n/\aN ((ops[j]?).bind (·.dst)) (Gm e ops N0 ⟨dst,op,ty,pos,af,none⟩ p r pl i id c t n dd h ax T L K w)):=by
 obtain⟨c,m,dy,bp⟩:=p;refine propext ⟨λhh=>⟨hh.1, ?_⟩,λhh=>⟨hh.1, ?_⟩⟩
 . obtain⟨h1,b,h2,h3⟩:=hh;simp only[iD]at h2;cases hd:(ops[j]?).bind (·.dst)with
   |none=>rw[hd]at h2;cases h2
   |some d=>
    rw[hd]at h2;cases hg:t.get d with
    |none=>simp[hg]at h2
    |some g=>
     refine⟨d,rfl,g,hg,b, ?_, ?_⟩
     . simp only[hg]at h2;exact h2
     . cases b with
       |true=>exact⟨h1,true,rfl,h3⟩
       |false=>exact h3
 . obtain⟨h1,d,h2,g,h3,b,h4,h5⟩:=hh;refine⟨b, ?_, ?_⟩
   . simp only[iD,h2,h3];exact h4
   . cases b with
     |true=>obtain⟨_,b',h6,h7⟩:=h5;cases h6;exact h7
     |false=>exact h5
def VY(o:Oper)(p:PJ)(d:Tmp):Gm e ops N0 o p r pl i id c t n dd h ax T L K w d=aN (t.get d) (jV e ops N0 o p r pl i id c t n dd h ax T L K w):=(rfl)
def VZ(p:PJ):jV e ops N0 ⟨dst,op,ty,pos,af,none⟩ p r pl i id c t n dd h ax T L K w (.v (.bool w))=df e ops N0 (⟨dst,op,ty,pos,af,none⟩::r) (p::pl) i id c t n dd h ax T L K:=by
 simp only[jV,beq_self_eq_true,gy]
def V0:jV e ops N0 ⟨dst,op,ty,pos,af,none⟩ ⟨.pure,m,dy,bp⟩ r pl i id c t n dd h ax T L K true (.v (.bool false))=df e ops N0 r pl (i+1) id c (cH dst cX t) n dd h ax T L K:=by simp[jV,gy]
def V1:jV e ops N0 ⟨dst,op,ty,pos,af,none⟩ ⟨.read,m,dy,bp⟩ r pl i id c t n dd h ax T L K true (.v (.bool false))=df e ops N0 r pl (i+1) id c (cH dst cX t) n dd h ax T L K:=by simp[jV,gy]
def V2:jV e ops N0 ⟨dst,op,ty,pos,af,none⟩ ⟨.effect,m,dy,bp⟩ r pl i id c t n dd h ax T L K true (.v (.bool false))=df e ops N0 r pl (i+1) id (c+1) (cH dst cX t) n dd h ax T L K:=by simp[jV,gy]
def V3:jV e ops N0 ⟨dst,op,ty,pos,af,none⟩ ⟨.pure,m,dy,bp⟩ r pl i id c t n dd h ax T L K false (.v (.bool true))=df e ops N0 r pl (i+1) id c (cH dst cX t) n dd h ax T L K:=by simp[jV,gy]
def V4:jV e ops N0 ⟨dst,op,ty,pos,af,none⟩ ⟨.read,m,dy,bp⟩ r pl i id c t n dd h ax T L K false (.v (.bool true))=df e ops N0 r pl (i+1) id c (cH dst cX t) n dd h ax T L K:=by simp[jV,gy]
def V5:jV e ops N0 ⟨dst,op,ty,pos,af,none⟩ ⟨.effect,m,dy,bp⟩ r pl i id c t n dd h ax T L K false (.v (.bool true))=df e ops N0 r pl (i+1) id (c+1) (cH dst cX t) n dd h ax T L K:=by simp[jV,gy]
end
def V6(N0:Nat)(T:List Nat):sa N0 T none=True:=(rfl)
def V7(N0:Nat)(T:List Nat)(b:Nat):sa N0 T (some b)=(b<N0/\b∉T):=(rfl)
def V8(x:Nat×Nat)(b:Nat)(L:List (Nat×Nat)):kA (some x) (some b) L=(b,x.1+x.2-1)::L:=(rfl)
def V9(x:Option (Nat×Nat))(L:List (Nat×Nat)):kA x none L=L:=by cases x<;>rfl
section
variable (t:Tr DV) (h:ah)
def Wa(ty:TypeId)(a:Operand):dL e t (.load ty a)=jq (aJ e t a):=(rfl)
def Wb(ty:TypeId)(x:Operand)(lo hi mx:Option Operand):dL e t (.slice ty x lo hi mx)=jq (aJ e t x):=(rfl)
def Wc(a:Addr):jq (some (.v (.pointer (some a))))=some a.block:=(rfl)
def Wd(s:ByteArray):jq (some (.v (.string s)))=none:=(rfl)
def We(k:Nat)(xs:List (List DV)):jq (some (.sl k xs))=none:=(rfl)
def Wf(xs:List DV)(o:Nat):jq (some (.ptr xs o))=none:=(rfl)
def Wg(x:Operand):aZ e h t (.move x)=aJ e t x:=(rfl)
def Wh(x:Operand):aZ e h t (.assign x)=aJ e t x:=(rfl)
def Wi(c a b:Operand):aZ e h t (.pick c a b)=qp (aJ e t c) (aJ e t a) (aJ e t b):=(rfl)
def Wj(ty:TypeId)(l:List (Nat×Operand)):aZ e h t (.build ty l.toArray)=(fP e t l).bind (eo e ty):=by simp[aZ]
def Wk(ty:TypeId)(a:Operand):aZ e h t (.load ty a)=(aJ e t a).bind (iN e h ty):=(rfl)
def Wl(x:Operand):aZ e h t (.nilCheck x)=(aJ e t x).bind kR:=(rfl)
def Wm(op:BinOp)(ty:TypeId)(x y:Operand)(z:TypeId):aZ e h t (.binOp op ty x y z)=fY (iC e op ty x y) (aJ e t x) (aJ e t y):=(rfl)
def Wn(op:UnOp)(ty:TypeId)(x:Operand):aZ e h t (.unOp op ty x)=(aJ e t x).bind (lx (nI e op)):=(rfl)
def Wo(s d:TypeId)(x:Operand):aZ e h t (.convert s d x)=(aJ e t x).bind (mR e h s d):=(rfl)
def Wp(f:FuncId)(a c:List Operand):aZ e h t (.makeFunc (.func f) a.toArray c.toArray)=nQ f (cM e t a) (cM e t c):=by simp[aZ]
def Wq(ty:TypeId)(x:Operand)(lo hi mx:Option Operand):aZ e h t (.slice ty x lo hi mx)=ed e h ty (aJ e t x) (eJ e t lo) (eJ e t hi) (eJ e t mx):=(rfl)
def Wr(s:TypeId)(x:Operand)(f:Nat):aZ e h t (.fieldAddr s x f)=(aJ e t x).bind (kr e s f):=(rfl)
def Ws(ty:TypeId)(x ix:Operand):aZ e h t (.indexAddr ty x ix)=fY (λa b=>iB e ty a (fX b)) (aJ e t x) (aJ e t ix):=(rfl)
def Wt(ty:TypeId)(x ix:Operand):aZ e h t (.index ty x ix)=fY (mQ e ty) (aJ e t x) (aJ e t ix):=(rfl)
def Wu(ty:TypeId)(m k:Operand)(ok:Bool):aZ e h t (.lookup ty m k ok)=fY (kS e h ty ok) (aJ e t m) (aJ e t k):=(rfl)
def Wv(x:Operand)(i:Nat):aZ e h t (.extract x i)=(aJ e t x).bind (ma i):=(rfl)
def Ww(x:Operand)(ty:TypeId)(aa:List TypeId):aZ e h t (.call ⟨.builtin .len,#[x],(ty::aa).toArray⟩)=(aJ e t x).bind (fp e h ty):=by
 simp only[aZ,cM];cases aJ e t x<;>simp[oS]
def Wx(args:List Operand)(aa:Array TypeId):aZ e h t (.call ⟨.builtin .min,args.toArray,aa⟩)=((cM e t args).bind lA).bind λl=>(nK e l).map .v:=by simp[aZ]
def Wy(m:Nat):fD h m []=h:=(rfl)
def Wz(m i id:Nat)(o:bJ)(r:eW):fD h m ((i,id,o)::r)=if m.testBit i=true then(fD h m r).set id (some o)else fD h m r:=(rfl)
def WA:kV h []=h:=(rfl)
def WB(i id:Nat)(o:bJ)(r:eW):kV h ((i,id,o)::r)=(kV h r).set id (some o):=(rfl)
def WC(m:Nat):iP m []=[]:=(rfl)
def WE(m i id:Nat)(o:bJ)(r:eW):iP m ((i,id,o)::r)=if m.testBit i=true then iP m r else(i,id,o)::iP m r:=by
 simp only[iP,yx];cases m.testBit i<;>rfl
end
def yg(e:Env)(h:ah)(s d:TypeId)(x:DV):Bool->Option DV
 |true=>rV (fh h 1 x)
 |false=>lx (rU e s d) x
def WG(h:ah)(s d:TypeId)(x:DV):mR e h s d x=yg e h s d x (e.mb s d):=by
 simp only[mR,yg];cases e.mb s d<;>rfl
def WH(h:ah)(s d:TypeId)(x:DV):yg e h s d x true=rV (fh h 1 x):=(rfl)
def WI(h:ah)(s d:TypeId)(x:DV):yg e h s d x false=lx (rU e s d) x:=(rfl)
def WJ(n:Nat)(cs:List DV):rV (some (n+1,cs))=(lz cs).map λns=>.v (.string (strOf ns)):=(rfl)
def WK:lz []=some []:=(rfl)
def WL(n:Int)(r:List DV):lz (.v (.int .u8 n)::r)=(lz r).map (n::·):=(rfl)
attribute [go_sem] WG WH WI WJ WK WL
attribute [go_sem] VM VN VO VP VQ VR VS VT VU VV VW VX VY VZ V0 V1 V2 V3 V4 V5 V6 V7 V8 V9 Wa Wb Wc Wd We Wf Wg Wh Wi Wj Wk Wl Wm Wn Wo Wp Wq Wr Ws Wt Wu Wv Ww Wx Wy Wz WA WB WC WE Td Te
abbrev ae(m:Nat):PJ:=⟨.pure,m,none,false⟩
abbrev aC(m:Nat):PJ:=⟨.read,m,none,false⟩
abbrev aT(m:Nat):PJ:=⟨.effect,m,none,false⟩
abbrev cN(m:Nat):PJ:=⟨.alloc,m,none,false⟩
abbrev dq(m:Nat):PJ:=⟨.read,m,some (0,2),true⟩
abbrev jW(m:Nat):PJ:=⟨.pure,m,none,true⟩
attribute [go_sem] ae aC aT cN dq jW
end Go.aD
end

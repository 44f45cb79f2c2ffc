/- Parts of a proof. -/
import Derived.Test.YtlgccnjcmfighaaGreatDoorK05
open List renaming mem_append->qG,filter_cons->yy,mem_cons->yB,length_reverse->KE,mem_of_getElem?->RC,mem_cons_of_mem->RK,all_eq_true->RW,length_cons->Xy,getElem?_zip_eq_some->YN,reverse_cons->Zf,getElem?_of_mem->ab8,getElem?_eq_some_iff->adr,mem_zipIdx_iff_getElem?->afj,getElem?_eq_getElem->afw,length_map->afz,getElem?_append_right->afB,getElem?_drop->afC,eq_nil_of_length_eq_zero->afD,getElem?_cons_zero->afF,take_length->afG,length_append->afI,drop_eq_nil_of_le->afJ,flatMap_cons->afK,drop_drop->afL,mem_reverse->afM,mem_filter->afN,getD_eq_getElem?_getD->afO,getElem?_map->afP
open Option.some renaming injEq->E2
open Bool renaming and_eq_true->FQ,not_true->afA
open Option renaming bind_some->Vs,bind_eq_some_iff->afy,isSome_iff_exists->afE,map_eq_some_iff->afH
open Nat renaming eq_of_beq_eq_true->YT,lt_or_ge->adv,beq->afv,le_refl->afx
set_option linter.all false
set_option maxRecDepth 100000
noncomputable section
namespace Go.aD
variable {e:Env} {G:Nat->Prop} {h:ab} {dh:ae} {t:Tr Value} {dt:Tr DV} {R:Rows} {ar:Bool}
abbrev eQ:=Nat->Option (List DV×Nat)
inductive Fz(S:eQ):DV->DV->Prop
 |refl (d:DV):Fz S d d
 |agg {a l:List DV}:a.length=l.length->(∀(i:Nat) (v d:DV),a[i]? =some v->l[i]? =some d->Fz S v d)->Fz S (.agg a) (.agg l)
 |bp {a l:List DV}:a.length=l.length->(∀(i:Nat) (v d:DV),a[i]? =some v->l[i]? =some d->Fz S v d)->Fz S (.bp a) (.bp l)
 |fn {f:FuncId} {a c a' c':List DV}:a.length=a'.length->(∀(i:Nat) (v d:DV),a[i]? =some v->a'[i]? =some d->Fz S v d)->c.length=c'.length->(∀(i:Nat) (v d:DV),c[i]? =some v->c'[i]? =some d->Fz S v d)->Fz S (.fn f a c) (.fn f a' c')
 |nil {c k:Nat}:0<k->Fz S (.v (.slice none 0 c)) (.sl k [])
 |sl {b o c k aj n:Nat} {cs:List DV} {xs:List (List DV)}:S b=some (cs,aj)->(aj=0\/aj=k)->0<k->n=xs.length->n<=c->(∀x∈xs,x.length=k)->o+xs.length*k<=cs.length->
  (∀(j:Nat) (x:List DV) (i:Nat) (v d:DV),xs[j]? =some x->x[i]? =some d->cs[o+j*k+i]? =some v->Fz S v d)->Fz S (.v (.slice (some ⟨b,o,none⟩) n c)) (.sl k xs)
 |ptr {b o off aj:Nat} {cs:List DV} {xs:List DV}:S b=some (cs,aj)->o+xs.length<=cs.length->(∀(i:Nat) (v d:DV),xs[i]? =some d->cs[o+i]? =some v->Fz S v d)->Fz S (.v (.pointer (some ⟨b,o+off,none⟩))) (.ptr xs off)
 |sub {k:Nat} {xs ys:List (List DV)}:xs.length=ys.length->(∀(j:Nat) (x y:List DV),xs[j]? =some x->ys[j]? =some y->x.length=y.length)->(∀(j:Nat) (x y:List DV) (i:Nat) (v d:DV),xs[j]? =some x->ys[j]? =some y->x[i]? =some v->y[i]? =some d->Fz S v d)->Fz S (.sl k xs) (.sl k ys)
abbrev cI(S:eQ):List DV->List DV->Prop:=aV (Fz S)
def Fz.dO{S:eQ}{a l:List DV}(h:cI S a l):Fz S (.agg a) (.agg l):=.agg h.length λi v d h1 h2=>by
 obtain⟨d',h3,h4⟩:=h.get i v h1;rw[h2]at h3;cases h3;exact h4
def Fz.j9{S:eQ}{a l:List DV}(h:cI S a l):Fz S (.bp a) (.bp l):=.bp h.length λi v d h1 h2=>by
 obtain⟨d',h3,h4⟩:=h.get i v h1;rw[h2]at h3;cases h3;exact h4
def cI.refl{S:eQ}:∀(l:List DV),cI S l l
 |[]=>.nil
 |d::l=>aV.cons (Fz.refl d) (cI.refl l)
def Fz.mono{S S':eQ}(hS:∀i r,S i=some r->S' i=some r){a b:DV}(h:Fz S a b):Fz S' a b:=by
 induction h with
 |refl d=>exact .refl d
 |agg h1 _ ih=>exact .agg h1 ih
 |bp h1 _ ih=>exact .bp h1 ih
 |fn h1 _ h3 _ av az=>exact .fn h1 av h3 az
 |nil h=>exact .nil h
 |sl h1 h2 h3 h4 h5 h6 h7 _ ih=>exact .sl (hS _ _ h1) h2 h3 h4 h5 h6 h7 ih
 |ptr h1 h2 _ ih=>exact .ptr (hS _ _ h1) h2 ih
 |sub h1 h2 _ ih=>exact .sub h1 h2 ih
def Rel.fz{S:eQ}{G':Nat->Prop}(x:bO G h dh)(hS:∀i cs aj,S i=some (cs,aj)->G' i/\∃wr,dh.get i=some (.row cs wr aj))(hG:∀i,G i->G' i){d d':DV}(hf:Fz S d d'):∀{v:Value},Rel (aQ h G) v d->Rel (aQ h G') v d':=by
 have hm:∀i r,aQ h G i=some r->aQ h G' i=some r:=jg λi hg=>⟨hG i hg,rfl⟩;have row:∀{b:Nat} {cs:List DV} {aj:Nat},S b=some (cs,aj)->∃an,aQ h G' b=some (an,aj)/\cz (aQ h G) an cs:=λhb=>by
  obtain⟨h1,wr,h2⟩:=hS _ _ _ hb;obtain⟨_,ao,h3,h4⟩:=x.obj _ _ h2;cases h4 with
  |row h4=>exact⟨_,r9 h1 h3,h4⟩
 induction hf with
 |refl d=>exactλhv=>hv.mono hm
 |agg h1 _ ih=>
  intro v hv;obtain⟨a,rfl,hr⟩:=hv.qc;refine .agg (by rw[hr.length,h1]) λi u d h2 h3=> ?_;obtain⟨c,h4,h5⟩:=hr.get i u h2;exact ih i c d h4 h3 h5
 |bp h1 _ ih=>
  intro v hv;obtain⟨a,rfl,hr⟩:=hv.AN;refine .bp (by rw[hr.length,h1]) λi u d h2 h3=> ?_;obtain⟨c,h4,h5⟩:=hr.get i u h2;exact ih i c d h4 h3 h5
 |fn h1 _ h3 _ av az=>
  intro v hv;obtain⟨a,c,rfl,aG,aH⟩:=hv.vy;refine .fn (by rw[aG.length,h1]) (λi u d h2 h3=> ?_) (by rw[aH.length,h3]) (λi u d h2 h3=> ?_)
  . obtain⟨c,h4,h5⟩:=aG.get i u h2;exact av i c d h4 h3 h5
  . obtain⟨c,h4,h5⟩:=aH.get i u h2;exact az i c d h4 h3 h5
 |nil hk=>
  intro v hv;have:=hv.cQ;subst this;exact .kJ hk
 |sl h1 h2 h3 h4 h5 h6 h7 _ ih=>
  intro v hv;have:=hv.cQ;subst this;obtain⟨an,q1,q2⟩:=row h1;subst h4;refine .sl q1 h2 h3 h5 h6 (by rw[q2.length];exact h7) λj y i u d e1 e2 e3=> ?_;obtain⟨c,e4,e5⟩:=q2.get _ u e3;exact ih j y i c d e1 e2 e4 e5
 |ptr h1 h2 _ ih=>
  intro v hv;have:=hv.cQ;subst this;obtain⟨an,q1,q2⟩:=row h1;refine .ptr q1 (by rw[q2.length];exact h2) λi u d e2 e3=> ?_;obtain⟨c,e4,e5⟩:=q2.get _ u e3;exact ih i c d e2 e4 e5
 | @sub k xs ys h1 h2 _ ih=>
  intro v hv;cases hv with
  |kJ hk=>
   have:ys=[]:=afD (by rw[<-h1];rfl);subst this;exact .kJ hk
  | @sl b o c _ aj cs _ q1 q2 q3 q4 q5 q6 q7=>
   have hlen:xs.length=ys.length:=h1;rw[h1]at q4 q6⊢;refine .sl (hm _ _ q1) q2 q3 q4 (λy hy=> ?_) q6 λj y i u d e1 e2 e3=> ?_
   . obtain⟨j,hj⟩:=ab8 hy;have aJ:=(adr.1 hj).1;have hx:xs[j]? =some xs[j]:=afw aa;rw[<-h2 j _ y hx hj];exact q5 _ (RC hx)
   . have aJ:=(adr.1 e1).1;have hx:xs[j]? =some xs[j]:=afw aa;have e4:=h2 j _ y hx e1;have aT:=(adr.1 e2).1;have aI:(xs[j])[i]? =some (xs[j])[i]:=afw aa;exact ih j _ y i _ d hx e1 aI e2 (q7 j _ i u _ hx aI e3)
def cz.fz{S:eQ}{G':Nat->Prop}(x:bO G h dh)(hS:∀i cs aj,S i=some (cs,aj)->G' i/\∃wr,dh.get i=some (.row cs wr aj))(hG:∀i,G i->G' i):∀{l l':List DV} {vs:List Value},cI S l l'->cz (aQ h G) vs l->cz (aQ h G') vs l'
 |_,_,_,.nil,.nil=>.nil
 |_,_,_,.cons h1 h2,.cons h3 h4=>.cons (Rel.fz x hS hG h1 h3) (cz.fz x hS hG h2 h4)
def rowsOf(dh:ae)(l:List Nat):eQ:=λi=>if i∈l then match dh.get i with|some (.row cs _ aj)=>some (cs,aj)|_=>none else none
def gk(dh:ae):List Nat->ae
 |[]=>dh
 |i::l=>(gk dh l).set i none
def ng(dh:ae)(i:Nat):∀(l:List Nat),(gk dh l).get i=if i∈l then none else dh.get i
 |[]=>by simp[gk]
 |j::l=>by
  simp only[gk,ae.bu,ng dh i l,yB];by_cases h1:i=j<;>by_cases h2:i∈l<;>simp[h1,h2]
def vF(dh:ae):∀(l:List Nat),(gk dh l).next=dh.next
 |[]=>rfl
 |_::l=>vF dh l
def vG{dh:ae}{l:List Nat}{i:Nat}{cs:List DV}{aj:Nat}(h:rowsOf dh l i=some (cs,aj)):i∈l/\∃wr,dh.get i=some (.row cs wr aj):=by
 unfold rowsOf at h
 split at h
 . rename_i hi
   split at h
   . rename_i cs' wr ak hg;cases h;exact⟨hi,wr,hg⟩
   . cases h
 . cases h
def fA{dh:ae}{l:List Nat}{i:Nat}{cs:List DV}{wr:Bool}{aj:Nat}(hi:i∈l)(hg:dh.get i=some (.row cs wr aj)):rowsOf dh l i=some (cs,aj):=by
 unfold rowsOf;rw[if_pos hi,hg]
def bO.drop(x:bO G h dh)(l:List Nat)(hl:∀i∈l,(dh.get i).isSome=true):bO (λi=>G i\/i∈l) h (gk dh l)/\Kp G h dh (λi=>G i\/i∈l) h (gk dh l):=by
 have hm:∀i r,aQ h G i=some r->aQ h (λi=>G i\/i∈l) i=some r:=jg λi hg=>⟨.inl hg,rfl⟩;refine⟨⟨x.fD.mono hm,by rw[vF];exact x.next,λi o ho=> ?_,λi hi=> ?_⟩,⟨afx _,λi _ hd=>⟨rfl, ?_⟩,λi hg=>.inl hg,λi _ hg=> ?_⟩⟩
 . rw[ng]at ho
   split at ho
   . cases ho
   . obtain⟨h1,ao,h2,h3⟩:=x.obj i o ho;exact⟨h1,ao,h2,h3.mono hm⟩
 . rw[ng];rcases hi with hi|hi
   . refine⟨(x.still i hi).1, ?_⟩
     split
     . rfl
     . exact(x.still i hi).2
   . rw[if_pos hi];obtain⟨o,ho⟩:=afE.1 (hl i hi);exact⟨(x.obj i o ho).1,rfl⟩
 . rw[ng];split
   . rfl
   . exact hd
 . rcases hg with hg|hg
   . exact .inl hg
   . exact .inr (hl i hg)
def aB(d d':DS):Prop:=∀G s,SD G s d->∃G',SD G' s d'/\Kp G s.h d.h G' s.h d'.h
def aB.refl(d:DS):aB d d:=λG s h=>⟨G,h,Kp.refl _ _ _⟩
def aB.trans{a b c:DS}(h1:aB a b)(h2:aB b c):aB a c:=λG s h=>let⟨G1,q1,q2⟩:=h1 G s h;let⟨G2,q3,q4⟩:=h2 G1 s q1;⟨G2,q3,q2.trans q4⟩
def aB.of{t t':Tr DV}{n:Nat}{dd:List FuncId}{dh af:ae}(l:List Nat)(hl:∀i∈l,(dh.get i).isSome=true)(hn:af.next=dh.next)
 (ht:∀i v,t'.get i=some v->∃u,t.get i=some u/\Fz (rowsOf dh l) u v) (hh:∀i o,af.get i=some o->i∉l/\(dh.get i=some o\/∃cs cs' wr aj,dh.get i=some (.row cs wr aj)/\o=.row cs' wr aj/\cI (rowsOf dh l) cs cs')):aB ⟨t,n,dd,dh⟩ ⟨t',n,dd,af⟩:=by
 intro G s ⟨q1,q2,q3,q4⟩;obtain⟨k1,k2⟩:=q4.drop l hl;have hS:∀i cs aj,rowsOf dh l i=some (cs,aj)->(G i\/i∈l)/\∃wr,dh.get i=some (.row cs wr aj):=λi cs aj hr=>by
  obtain⟨h1,h2⟩:=vG hr;exact⟨.inr h1,h2⟩
 have hm:∀i r,aQ s.h G i=some r->aQ s.h (λi=>G i\/i∈l) i=some r:=jg λi hg=>⟨.inl hg,rfl⟩;refine⟨λi=>G i\/i∈l,⟨q1,λi v hv=> ?_,q3,⟨k1.fD, ?_,λi o ho=> ?_,λi hi=>⟨(k1.still i hi).1, ?_⟩⟩⟩,⟨afx _,λi hi hd=>⟨rfl, ?_⟩,k2.up,k2.bl⟩⟩
 . obtain⟨u,h1,h2⟩:=ht i v hv;obtain⟨w,h3,h4⟩:=q2 i u h1;exact⟨w,h3,Rel.fz q4 hS (λi hg=>.inl hg) h2 h4⟩
 . show s.h.next=af.next;rw[hn];exact q4.next
 . obtain⟨h1,h2⟩:=hh i o ho;rcases h2 with h2|⟨cs,cs',wr,aj,h2,rfl,h3⟩
   . obtain⟨h4,ao,h5,h6⟩:=q4.obj i o h2;exact⟨h4,ao,h5,h6.mono hm⟩
   . obtain⟨h4,ao,h5,h6⟩:=q4.obj i _ h2;cases h6 with
     |row h6=>exact⟨h4,_,h5,.row (cz.fz q4 hS (λi hg=>.inl hg) h3 h6)⟩
 . cases hd:af.get i with
   |none=>rfl
   |some o=>
    obtain⟨h1,h2⟩:=hh i o hd;have:(gk dh l).get i=none:=(k1.still i hi).2;rw[ng,if_neg h1]at this;rcases h2 with h2|⟨_,_,_,_,h2,_⟩<;>rw[this]at h2<;>cases h2
 . cases aK:af.get i with
   |none=>rfl
   |some o=>
    obtain⟨h1,h2⟩:=hh i o aK;have hd:dh.get i=none:=hd;rcases h2 with h2|⟨_,_,_,_,h2,_⟩<;>rw[hd]at h2<;>cases h2
def aB.forget{t t':Tr DV}{n:Nat}{dd:List FuncId}{dh af:ae}(hn:af.next=dh.next)(ht:∀i v,t'.get i=some v->t.get i=some v)(hh:∀i o,af.get i=some o->dh.get i=some o):aB ⟨t,n,dd,dh⟩ ⟨t',n,dd,af⟩:=
 aB.of [] (λi hi=>by cases hi) hn (λi v hv=>⟨v,ht i v hv,.refl v⟩) λi o ho=>⟨aw,.inl (hh i o ho)⟩
def KI(I:Nat->DS->Prop)(j:Nat)(K:bB->DS->Prop):bB->DS->Prop:=λx s1=>match x with|.normal=>∃j',j'<j/\∃d',aB s1 d'/\I j' d'|x=>K x s1
def WD.loop(he:e.Ok)(ai:e.P.follows .mixedOrders=true){c:Code}{K:bB->DS->Prop}(I:Nat->DS->Prop)(hI:∀j d,I j d->RD e ar c d (KI I j K))(j:Nat)(d:DS)(hw:∃d',aB d d'/\I j d'):WD e ar (.loop c) d K:=by
 intro G s hs;obtain⟨d',h1,h2⟩:=hw;obtain⟨G1,h3,h4⟩:=h1 G s hs;refine(WQ.loop (λj s1=>∃d1 G2,SD G2 s1 d1/\Kp G s.h d.h G2 s1.h d1.h/\I j d1) (λj s1 ⟨d1,G2,q1,q2,q3⟩=> ?_) j s ⟨d',G1,h3,h4,h2⟩);refine(RD.wd he ai c d1 _ (hI j d1 q3) G2 s1 q1).mono λx s2 ⟨d2,G3,r1,r2,r3⟩=> ?_;cases x with
 |normal=>
  obtain⟨j',hj,d3,r4,r5⟩:=r3;obtain⟨G4,r6,r7⟩:=r4 G3 s2 r1;exact⟨j',hj,d3,G4,r6,q2.trans (r2.trans r7),r5⟩
 |exit i=>exact⟨d2,G3,r1,q2.trans r2,r3⟩
 |ret=>exact⟨d2,G3,r1,q2.trans r2,r3⟩
def sd(G:Nat->Prop)(h h':ab):Nat->Prop:=λi=>G i\/(h.next<=i/\i<h'.next)
def qA(G:Nat->Prop)(h:ab)(dv:DV)(v:Value)(h':ab):Prop:=h.next<=h'.next/\(∀i,i<h.next->h'.get i=h.get i)/\Rel (aQ h' (sd G h h')) v dv
def SA(G:Nat->Prop)(h:ab):Prop:=(∀i,G i->i<h.next)/\pd (aQ h G)
def aE(e:Env)(ar:Bool)(f:FuncId)(ad:List DV)(dv:DV):Prop:=∀G h args,SA G h->cz (aQ h G) args ad->match ar with
 |true=>∃v h',bU e f args h v h'/\qA G h dv v h'
 |false=>fJ e f args h (qA G h dv)
abbrev SB(e:Env):=aE e true
def aE.any{f:FuncId}{ad:List DV}{dv:DV}(hf:SB e f ad dv):aE e ar f ad dv:=by
 intro G h args hG ha;obtain⟨v,h',h1,h2⟩:=hf G h args hG ha;cases ar with
 |true=>exact⟨v,h',h1,h2⟩
 |false=>exact h1.k h2
def qA.c{f:FuncId}{dv:DV}(x:bO G h dh)(l:List Nat)(hl:∀i∈l,(dh.get i).isSome=true){v:Value}{h':ab}(hp:qA (λi=>G i\/i∈l) h dv v h'){K:DV->ae->List Nat->Prop}(hk:∀N,dh.next<=N->K dv ((gk dh l).up N) l):nc G h dh K v h':=by
 obtain⟨p1,p2,p3⟩:=hp;obtain⟨k1,k2⟩:=x.drop l hl;have aL:∀i,(G i\/i∈l)->i<h.next:=λi hi=>(k1.still i hi).1;have hm:∀i r,aQ h (λi=>G i\/i∈l) i=some r->aQ h' (sd (λi=>G i\/i∈l) h h') i=some r:=jg λi hg=>⟨.inl hg,p2 i (aL i hg)⟩;refine⟨dv,(gk dh l).up h'.next,sd (λi=>G i\/i∈l) h h',l,⟨k1.fD.mono hm,rfl,λi o ho=> ?_,λi hi=> ?_⟩,⟨p1,λi hi hd=>⟨p2 i hi, ?_⟩,λi hg=>.inl (.inl hg),λi hi hg=> ?_⟩,p3,λi hi hl=>⟨p2 i hi,by rw[ae.tF,ng,if_neg hl]⟩,hk _ (by rw[<-x.next];exact p1)⟩
 . rw[ae.tF]at ho;obtain⟨h1,ao,h2,h3⟩:=k1.obj i o ho;exact⟨aa,ao,by rw[p2 i h1];exact h2,h3.mono hm⟩
 . rw[ae.tF];rcases hi with hi|hi
   . obtain⟨h1,h2⟩:=k1.still i hi;exact⟨aa,h2⟩
   . refine⟨hi.2, ?_⟩;cases hd:(gk dh l).get i with
     |none=>rfl
     |some o=>have:=(k1.obj i o hd).1;omega
 . rw[ae.tF,ng]
   split
   . rfl
   . exact hd
 . rcases hg with(hg|hg)|hg
   . exact .inl hg
   . exact .inr (hl i hg)
   . omega
def c8.fz{f:FuncId}{ad dargs':List DV}{dv:DV}{K:DV->ae->List Nat->Prop}(hf:aE e ar f dargs' dv)(l:List Nat)(hl:∀i∈l,(dh.get i).isSome=true)(hz:cI (rowsOf dh l) ad dargs')(hk:∀N,dh.next<=N->K dv ((gk dh l).up N) l):c8 e ar f ad dh K:=by
 intro G h args x ha;obtain⟨k1,k2⟩:=x.drop l hl;have aC:cz (aQ h (λi=>G i\/i∈l)) args dargs':=cz.fz x (λi cs aj hr=>⟨.inr (vG hr).1,(vG hr).2⟩) (λi hg=>.inl hg) hz ha;have:=hf (λi=>G i\/i∈l) h args ⟨λi hi=>(k1.still i hi).1,k1.fD⟩ aC;cases ar with
 |true=>obtain⟨v,h',h1,h2⟩:=this;exact⟨v,h',h1,h2.c (f:=f) x l hl hk⟩
 |false=>exact fJ.mono this λv h' h2=>h2.c (f:=f) x l hl hk
def c8.of{f:FuncId}{ad:List DV}{dv:DV}{K:DV->ae->List Nat->Prop}(hf:aE e ar f ad dv)(hk:∀N,dh.next<=N->K dv (dh.up N) []):c8 e ar f ad dh K:=
 c8.fz hf [] (λi hi=>by cases hi) (cI.refl _) hk
def allRows(dh:ae):eQ:=λi=>match dh.get i with|some (.row cs _ aj)=>some (cs,aj)|_=>none
def c8.plain{f:FuncId}{ad dargs':List DV}{u:Value}{K:DV->ae->List Nat->Prop}(hf:aE e ar f dargs' (.v u))(hz:cI (allRows dh) ad dargs')(hk:∀N,dh.next<=N->K (.v u) (dh.up N) []):c8 e ar f ad dh K:=by
 intro G h args x ha;have aC:cz (aQ h (λi=>i<h.next)) args dargs':=cz.fz x (λi cs aj hr=>by
  unfold allRows at hr
  split at hr
  . rename_i cs' wr ak hg;cases hr;exact⟨(x.obj _ _ hg).1,wr,hg⟩
  . cases hr) (λi hg=>(x.still i hg).1) hz ha
 have post:∀v h',qA (λi=>i<h.next) h (.v u) v h'->nc G h dh K v h':=λv h' ⟨p1,p2,p3⟩=>by
  have hm:∀i r,aQ h G i=some r->aQ h' G i=some r:=jg λi hg=>⟨hg,p2 i (x.still i hg).1⟩;refine⟨.v u,dh.up h'.next,G,[],⟨x.fD.mono hm,rfl,λi o ho=> ?_,λi hi=> ?_⟩,⟨p1,λi hi hd=>⟨p2 i hi,hd⟩,λi hg=>hg,λi hi hg=>.inl hg⟩,by rw[p3.cQ];exact .v _,λi hi _=>⟨p2 i hi,rfl⟩,hk _ (by rw[<-x.next];exact p1)⟩
  . obtain⟨h1,ao,h2,h3⟩:=x.obj i o ho;exact⟨aa,ao,by rw[p2 i h1];exact h2,h3.mono hm⟩
  . obtain⟨h1,h2⟩:=x.still i hi;exact⟨aa,h2⟩
 have:=hf (λi=>i<h.next) h args ⟨λi hi=>hi,x.fD.mono (jg λi hg=>⟨(x.still i hg).1,rfl⟩)⟩ aC;cases ar with
 |true=>obtain⟨v,h',h1,h2⟩:=this;exact⟨v,h',h1,post v h' h2⟩
 |false=>exact fJ.mono this post
def gz(e:Env)(s:DS):List ResultVar->Option (List DV)
 |[]=>some []
 |r::rs=>match(match r with
  |.tmp t=>s.t.get t
  |.cell a t=>(s.t.get a).bind (ji e s.h t)),gz e s rs with
  |some v,some vs=>some (v::vs)
  |_,_=>none
def Bc{s:aN}{d:DS}(hs:SD G s d):∀{rs:List ResultVar} {l:List DV},gz e d rs=some l->∃vs,iz e s rs=some vs/\cz (aQ s.h G) vs l
 |[],l,h=>by simp only[gz,E2]at h;subst h;exact⟨[],rfl,.nil⟩
 |r::rs,l,h=>by
  simp only[gz]at h
  split at h
  . rename_i v vs h1 h2;cases h;obtain⟨ws,h3,h4⟩:=Bc hs h2;cases r with
    |tmp t=>
     obtain⟨u,h5,h6⟩:=hs.t t v h1;exact⟨u::ws,by rw[FE,h5,AD,h3];rfl,.cons h6 h4⟩
    |cell a t=>
     obtain⟨p,h5,h6⟩:=afy.1 h1;obtain⟨u,h7,h8⟩:=hs.t a p h5;obtain⟨w,h9,aM⟩:=F0 hs.h h8 h6;exact⟨w::ws,by rw[FG,h7,Vs,h9,AD,h3];rfl,.cons aM h4⟩
  . cases h
def ke:List DV->DV
 |[v]=>v
 |vs=>.bp vs
def Gj{vs:List Value}{l:List DV}(h:cz R vs l):Rel R (j7 vs) (ke l):=by
 match vs,l,h with
 |[],[],_=>exact Rel.j9 .nil
 |[v],[d],.cons h1 .nil=>exact h1
 |v::w::vs,d::c::l,h=>exact Rel.j9 h
def iX(args:List DV):Tr DV:=Tr.ofList args 0 .nil
def jL(e:Env)(rs:List ResultVar)(K:DV->ae->Prop)(x:bB)(s:DS):Prop:=(∀i,x≠.exit i)/\(∀g∈s.dd,e.idle g=true)/\aO (gz e s rs) λl=>K (ke l) s.h
def Bd{h:ab}:∀{ds:List Deferred} {dd:List FuncId},aV sa ds dd->(∀g∈dd,e.idle g=true)->kZ e ds h=some h
 |_,_,.nil,_=>rfl
 |_,_,.cons (b:=g) ⟨cap,args,h1⟩ h2,hi=>by
  subst h1;simp only[kZ,hi g aw,cond_true];exact Bd h2 λg hg=>hi g (RK _ hg)
def Gk:∀{args:List Value} {ad:List DV} {i:Nat} {t:Tr Value} {dt:Tr DV},cz R args ad->TD R t dt->TD R (Tr.ofList args i t) (Tr.ofList ad i dt)
 |_,_,_,_,_,.nil,ht=>ht
 |_,_,i,_,_,.cons h1 h2,ht=>by simp only[Tr.ofList];exact Gk h2 (TD.put ht (some i) h1)
def Gm{args:List Value}{ad:List DV}(aS:pd R)(h:cz R args ad):TD R (gY args) (iX ad):=Gk h ⟨aS,λi v hv=>by rw[Tr.get_nil]at hv;cases hv⟩
def c8.body(he:e.Ok)(ai:e.P.follows .mixedOrders=true)(ah:Idle e){f:FuncId}{fn:Func}{c:Code}{ad:List DV}{K:DV->ae->Prop}(aq:e.fn f=some fn)(hb:fn.body=some c){n:Nat}(hn:fn.ntmps=n){rs:List ResultVar}(aF:fn.results=rs.toArray)
 (hq:RD e ar c ⟨iX ad,ad.length+(n-ad.length),[],dh⟩ (jL e rs K)) (G:Nat->Prop) (h:ab) (args:List Value) (x:bO G h dh) (ha:cz (aQ h G) args ad):
 match ar with
 |true=>∃v h',bU e f args h v h'/\∃d af G',bO G' h' af/\Kp G h dh G' h' af/\Rel (aQ h' G') v d/\K d af
 |false=>fJ e f args h λv h'=>∃d af G',bO G' h' af/\Kp G h dh G' h' af/\Rel (aQ h' G') v d/\K d af:=by
 subst hn;have hlen:args.length=ad.length:=ha.length;have hs:SD G ⟨gY args,args.length+(fn.ntmps-args.length),[],h⟩ ⟨iX ad,ad.length+(fn.ntmps-ad.length),[],dh⟩:=⟨by simp only[hlen],(Gm x.fD ha).all,.nil,x⟩;have key:=RD.wd he ai c _ _ hq G _ hs;have fin:∀x s',mj G h dh (jL e rs K) x s'->oV e fn.results.toList (λv h'=>∃d af G',bO G' h' af/\Kp G h dh G' h' af/\Rel (aQ h' G') v d/\K d af) x s':=by
  rintro x s' ⟨d',G',q1,q2,q3,q4,l,q5,q6⟩;obtain⟨vs,q7,q8⟩:=Bc q1 q5;refine⟨q3,s'.h,vs,Bd q1.dd q4,by rw[aF];exact q7,ke l,d'.h,G',q1.h,q2,Gj q8,q6⟩
 cases ar with
 |false=>exact fJ.of he ah aq hb (WR.mono key fin)
 |true=>
  obtain⟨x,s',h1,h2⟩:=key;obtain⟨h3,h4,vs,h5,h6,h7⟩:=fin x s' h2;refine⟨j7 vs,h4, ?_,h7⟩;have:=zX he ah (Aj h1) f args h (j7 vs) h4 (by
   unfold qb;simp only[aq,hb];have:qh c {t:=gY args,n:=args.length+(fn.ntmps-args.length),ds:=[],h} x s' none c {t:=gY args,n:=args.length+(fn.ntmps-args.length),ds:=[],h}=some (x,s'):=by
    unfold qh;rw[if_pos ⟨rfl,rfl,rfl⟩]
   rw[this];cases x with
   |exit i=>exact absurd rfl (h3 i)
   |normal=>
    simp only[h5,h6]
    match vs with
    |[]=>rfl
    |[v]=>rfl
    |_::_::_=>rfl
   |ret=>
    simp only[h5,h6]
    match vs with
    |[]=>rfl
    |[v]=>rfl
    |_::_::_=>rfl)
  exact this
def aE.of(he:e.Ok)(ai:e.P.follows .mixedOrders=true)(ah:Idle e){f:FuncId}{fn:Func}{c:Code}{ad:List DV}{dv:DV}(aq:e.fn f=some fn)(hb:fn.body=some c){n:Nat}(hn:fn.ntmps=n){rs:List ResultVar}(aF:fn.results=rs.toArray)
 (hq:∀N,RD e ar c ⟨iX ad,ad.length+(n-ad.length),[],ae.none N⟩ (jL e rs λd h=>Fz (allRows h) d dv)):aE e ar f ad dv:=by
 intro G h args hG ha;have x:bO G h (ae.none h.next):=⟨hG.2,rfl,λi o ho=>(by rw[ae.get_none]at ho;cases ho),λi hi=>⟨hG.1 i hi,ae.get_none _ _⟩⟩;have key:=c8.body he ai ah aq hb hn aF (hq h.next) G h args x ha;have fin:∀v h',(∃d af G',bO G' h' af/\Kp G h (ae.none h.next) G' h' af/\Rel (aQ h' G') v d/\Fz (allRows af) d dv)->qA G h dv v h':=by
  rintro v h' ⟨d,af,G',q1,q2,q3,q4⟩;refine⟨q2.next,λi hi=>(q2.same i hi (ae.get_none _ _)).1,Rel.fz (G':=sd G h h') q1 (λi cs aj hr=> ?_) (λi hg=> ?_) q4 q3⟩
  . unfold allRows at hr
    split at hr
    . rename_i cs' wr ak hg;cases hr;refine⟨.inr ⟨?_,(q1.obj _ _ hg).1⟩,wr,hg⟩;rcases adv i h.next with hi|hi
      . rw[(q2.same i hi (ae.get_none _ _)).2]at hg;cases hg
      . exact hi
    . cases hr
  . rcases adv i h.next with hi|hi
    . rcases q2.bl i hi hg with h1|h1
      . exact .inl h1
      . rw[ae.get_none]at h1;cases h1
    . exact .inr ⟨hi,(q1.still i hg).1⟩
 cases ar with
 |true=>obtain⟨v,h',h1,h2⟩:=key;exact⟨v,h',h1,fin v h' h2⟩
 |false=>exact fJ.mono key fin
end Go.aD
end
noncomputable section
namespace Go.aD
variable {e:Env} {ar:Bool}
def fE(K:cD)(dd:List FuncId)(h:ae):DV->Prop:=λv=>K v dd h []
def tK(K:cD)(dd:List FuncId)(h:ae):bF×(Nat->DV)->Prop:=λp=>K (p.2 h.next) dd (h.new p.1) []
def Gn(K:cD)(dd:List FuncId)(h:ae):bF->Prop:=λo=>K (.v (.pointer (some ⟨h.next,0,none⟩))) dd (h.new o) []
def vH(K:cD)(dd:List FuncId):ae×Nat->Prop:=λp=>K cU dd p.1 [p.2]
def Gp(K:cD)(dd:List FuncId):DV×ae×List Nat->Prop:=λp=>K p.1 dd p.2.1 p.2.2
def SC(K:cD)(dd:List FuncId):DV×ae×Nat->Prop:=λp=>K p.1 dd p.2.1 [p.2.2]
def ax(e:Env)(ar:Bool)(K:cD)(dd:List FuncId)(h:ae):FuncId×List DV->Prop:=λp=>c8 e ar p.1 p.2 h λv h' T=>K v dd h' T
def Gq(K:cD)(dd:List FuncId)(h:ae):FuncId×List DV->Prop:=λp=>K cU (p.1::dd) h []
def Bf(e:Env)(ar:Bool)(ops r:List Oper)(t:Tr DV)(n:Nat)(K:DS->Prop)(dst:Option Tmp):cD:=λv dd h _=>fg e ar ops r (cH dst v t) n dd h K
section
variable (K:cD) (dd:List FuncId) (h:ae)
def SE(v:DV):fE K dd h v=K v dd h []:=(rfl)
def SF(o:bF)(f:Nat->DV):tK K dd h (o,f)=K (f h.next) dd (h.new o) []:=(rfl)
def SG(o:bF):Gn K dd h o=K (.v (.pointer (some ⟨h.next,0,none⟩))) dd (h.new o) []:=(rfl)
def SH(h':ae)(b:Nat):vH K dd (h',b)=K cU dd h' [b]:=(rfl)
def SJ(v:DV)(h':ae)(T:List Nat):Gp K dd (v,h',T)=K v dd h' T:=(rfl)
def SK(f:FuncId)(a:List DV):Gq K dd h (f,a)=K cU (f::dd) h []:=(rfl)
def SL(ops r:List Oper)(t:Tr DV)(n:Nat)(K:DS->Prop)(dst:Option Tmp)(v:DV)(T:List Nat):Bf e ar ops r t n K dst v dd h T=fg e ar ops r (cH dst v t) n dd h K:=(rfl)
end
def ax.mk{K:cD}{dd:List FuncId}{h:ae}{f:FuncId}{args:List DV}{dv:DV}(hf:aE e ar f args dv)(hk:∀N,h.next<=N->K dv dd (h.up N) []):ax e ar K dd h (f,args):=c8.of hf hk
def ax.pl{K:cD}{dd:List FuncId}{h:ae}{f:FuncId}{args ab:List DV}{u:Value}(hf:aE e ar f ab (.v u))(hz:cI (allRows h) args ab)(hk:∀N,h.next<=N->K (.v u) dd (h.up N) []):ax e ar K dd h (f,args):=c8.plain hf hz hk
def ax.fz{K:cD}{dd:List FuncId}{h:ae}{f:FuncId}{args ab:List DV}{dv:DV}(hf:aE e ar f ab dv)(l:List Nat)(hl:∀i∈l,(h.get i).isSome=true)(hz:cI (rowsOf h l) args ab)(hk:∀N,h.next<=N->K dv dd ((gk h l).up N) l):ax e ar K dd h (f,args):=c8.fz hf l hl hz hk
def SM(v:DV)(t:Tr DV):cH none v t=t:=(rfl)
def SN(d:Nat)(v:DV)(t:Tr DV):cH (some d) v t=t.set d (some v):=(rfl)
section
variable (ops:List Oper) (dst:Option Tmp) (op:Op) (ty:TypeId) (pos:String) (af:Array Edge) (r:List Oper) (t:Tr DV) (n:Nat) (dd:List FuncId) (h:ae) (K:DS->Prop) (w:Bool)
def ml(e:Env)(ar:Bool)(ops:List Oper)(op:Op)(dst:Option Tmp)(r:List Oper)(t:Tr DV)(n:Nat)(dd:List FuncId)(h:ae)(K:DS->Prop)(w:Bool):DV->Prop:=λg=>aO (match some g with
 |some (.v (.bool b))=>some (b==w)
 |some (.v (.tuple _))=>some false
 |some (.bp _)=>some false
 |_=>none) λx=>match x with
 |true=>cu e ar op t dd h λv dd h _=>fg e ar ops r (cH dst v t) n dd h K
 |false=>fg e ar ops r (cH dst cU t) n dd h K
def Bg(e:Env)(ar:Bool)(ops:List Oper)(op:Op)(dst:Option Tmp)(r:List Oper)(t:Tr DV)(n:Nat)(dd:List FuncId)(h:ae)(K:DS->Prop)(w:Bool):Tmp->Prop:=λd=>aO (t.get d) (ml e ar ops op dst r t n dd h K w)
def SO:fg e ar ops [] t n dd h K=K ⟨t,n,dd,h⟩:=(rfl)
def SP:fg e ar ops (⟨dst,op,ty,pos,af,none⟩::r) t n dd h K=(dA dst n/\cu e ar op t dd h (Bf e ar ops r t n K dst)):=by
 simp only[fg,iW,gK];rfl
def SQ(j:Nat):fg e ar ops (⟨dst,op,ty,pos,af,some (j,w)⟩::r) t n dd h K=(dA dst n/\aO ((ops[j]?).bind (·.dst)) (Bg e ar ops op dst r t n dd h K w)):=by
 simp only[fg,iW];cases(ops[j]?).bind (·.dst)with
 |none=>simp[aO]
 |some d=>
  simp only[gK,Bg];cases t.get d with
  |none=>simp[aO]
  |some g=>simp only[gK,ml];rfl
def SR(d:Tmp):Bg e ar ops op dst r t n dd h K w d=aO (t.get d) (ml e ar ops op dst r t n dd h K w):=(rfl)
def SS:ml e ar ops op dst r t n dd h K w (.v (.bool w))=cu e ar op t dd h (Bf e ar ops r t n K dst):=by
 simp only[ml,beq_self_eq_true,gK];rfl
def SU:ml e ar ops op dst r t n dd h K true (.v (.bool false))=fg e ar ops r (cH dst cU t) n dd h K:=by
 simp[ml,gK]
def SV:ml e ar ops op dst r t n dd h K false (.v (.bool true))=fg e ar ops r (cH dst cU t) n dd h K:=by
 simp[ml,gK]
def Gr(vs:Array Value):ml e ar ops op dst r t n dd h K w (.v (.tuple vs))=fg e ar ops r (cH dst cU t) n dd h K:=by
 simp[ml,gK]
end
section
variable (t:Tr DV) (dd:List FuncId) (h:ae) (K:cD)
def SW(x:Operand):cu e ar (.move x) t dd h K=aO (aJ e t x) (fE K dd h):=(rfl)
def SX(x:Operand):cu e ar (.assign x) t dd h K=aO (aJ e t x) (fE K dd h):=(rfl)
def SY(c a b:Operand):cu e ar (.pick c a b) t dd h K=aO (qw (aJ e t c) (aJ e t a) (aJ e t b)) (fE K dd h):=(rfl)
def SZ(ty:TypeId)(l:List (Nat×Operand)):cu e ar (.build ty l.toArray) t dd h K=aO ((gb e t l).bind (eD e ty)) (fE K dd h):=by simp[cu,ba,fE];rfl
def S0(ty:TypeId)(a:Operand):cu e ar (.load ty a) t dd h K=aO ((aJ e t a).bind (ji e h ty)) (fE K dd h):=(rfl)
def S1(x:Operand):cu e ar (.nilCheck x) t dd h K=aO ((aJ e t x).bind lp) (fE K dd h):=(rfl)
def S2(op:BinOp)(ty:TypeId)(x y:Operand)(z:TypeId):cu e ar (.binOp op ty x y z) t dd h K=aO (gO (jG e op ty x y) (aJ e t x) (aJ e t y)) (fE K dd h):=(rfl)
def S3(op:UnOp)(ty:TypeId)(x:Operand):cu e ar (.unOp op ty x) t dd h K=aO ((aJ e t x).bind (lJ (nR e op))) (fE K dd h):=(rfl)
def S4(s d:TypeId)(x:Operand):cu e ar (.convert s d x) t dd h K=aO ((aJ e t x).bind (mZ e h s d)) (fE K dd h):=(rfl)
def S5(f:FuncId)(a c:List Operand):cu e ar (.makeFunc (.func f) a.toArray c.toArray) t dd h K=aO (nZ f (cJ e t a) (cJ e t c)) (fE K dd h):=by simp[cu,ba,fE];rfl
def S6(ty:TypeId)(x:Operand)(lo hi mx:Option Operand):cu e ar (.slice ty x lo hi mx) t dd h K=aO (de e h ty (aJ e t x) (eO e t lo) (eO e t hi) (eO e t mx)) (fE K dd h):=(rfl)
def S7(s:TypeId)(x:Operand)(f:Nat):cu e ar (.fieldAddr s x f) t dd h K=aO ((aJ e t x).bind (kK e s f)) (fE K dd h):=(rfl)
def S8(ty:TypeId)(x ix:Operand):cu e ar (.indexAddr ty x ix) t dd h K=aO (gO (λa b=>gZ e ty a (gd b)) (aJ e t x) (aJ e t ix)) (fE K dd h):=(rfl)
def S9(ty:TypeId)(x ix:Operand):cu e ar (.index ty x ix) t dd h K=aO (gO (mY e ty) (aJ e t x) (aJ e t ix)) (fE K dd h):=(rfl)
def Ta(ty:TypeId)(m k:Operand)(ok:Bool):cu e ar (.lookup ty m k ok) t dd h K=aO (gO (lq e h ty ok) (aJ e t m) (aJ e t k)) (fE K dd h):=(rfl)
def Tb(x:Operand)(i:Nat):cu e ar (.extract x i) t dd h K=aO ((aJ e t x).bind (mh i)) (fE K dd h):=(rfl)
def Tc(ty:TypeId):cu e ar (.alloc ty) t dd h K=aO (dX e t (.alloc ty)) (tK K dd h):=(rfl)
def Td(ty:TypeId)(x:Operand):cu e ar (.box ty x) t dd h K=aO (dX e t (.box ty x)) (tK K dd h):=(rfl)
def Te(ty:TypeId)(n:Nat)(ps:Array (Nat×Operand)):cu e ar (.buildSlice ty n ps) t dd h K=aO (dX e t (.buildSlice ty n ps)) (tK K dd h):=(rfl)
def Tf(ty:TypeId)(n:Option Operand):cu e ar (.makeMap ty n) t dd h K=aO (dX e t (.makeMap ty n)) (tK K dd h):=(rfl)
def Tg(ty:TypeId)(l c:Operand):cu e ar (.makeSlice ty l c) t dd h K=aO (dX e t (.makeSlice ty l c)) (tK K dd h):=(rfl)
def Th(ty:TypeId)(a x:Operand):cu e ar (.store ty a x) t dd h K=aO (lM e h ty (aJ e t a) (aJ e t x)) (vH K dd):=(rfl)
def Ti(ty:TypeId)(m k v:Operand):cu e ar (.mapUpdate ty m k v) t dd h K=aO (jI e h ty (aJ e t m) (aJ e t k) (aJ e t v)) (vH K dd):=(rfl)
def Tj(ty:TypeId)(m k v:Operand):cu e ar (.insert ty m k v) t dd h K=aO (jI e h ty (aJ e t m) (aJ e t k) (aJ e t v)) (vH K dd):=(rfl)
def Tk(ty:TypeId)(x:Operand):cu e ar (.range ty x) t dd h K=aO ((aJ e t x).bind (lO e h ty)) (Gn K dd h):=(rfl)
def Tl(e:Env)(t:Tr DV)(dd:List FuncId)(h:ae)(it:Operand)(s:Bool)(K:cD):Prop:=(aO ((aJ e t it).bind (kN h · s)) (SC K dd))\/(s=false/\aO (aJ e t it) λd=>x5 h d λv h r=>K v dd h [r])
def Tm(it:Operand)(s:Bool):cu e false (.next it s) t dd h K=Tl e t dd h it s K:=(rfl)
def Tn(it:Operand):cu e ar (.entry it) t dd h K=aO ((aJ e t it).bind (tJ h)) (fE K dd h):=(rfl)
def To(f:Operand)(args:List Operand)(ad:Array TypeId):cu e ar (.call ⟨.value f,args.toArray,ad⟩) t dd h K=aO (jK (aJ e t f) (cJ e t args)) (ax e ar K dd h):=by simp[cu];rfl
def Tp(f:Operand)(args:List Operand)(ad:Array TypeId):cu e ar (.defer ⟨.value f,args.toArray,ad⟩) t dd h K=aO (jK (aJ e t f) (cJ e t args)) (Gq K dd h):=by simp[cu];rfl
def Tq(args:List Operand)(ad:Array TypeId):cu e ar (.call ⟨.builtin .append,args.toArray,ad⟩) t dd h K=aO (jJ e h ad (cJ e t args)) (Gp K dd):=by simp[cu];rfl
def Ts(args:List Operand)(ad:Array TypeId):cu e ar (.call ⟨.builtin .clear,args.toArray,ad⟩) t dd h K=aO (tI e h ad (cJ e t args)) (vH K dd):=by simp[cu];rfl
def Tt(x:Operand)(ty:TypeId)(ad:List TypeId):cu e ar (.call ⟨.builtin .len,#[x],(ty::ad).toArray⟩) t dd h K=aO ((aJ e t x).bind (iC e h ty)) (fE K dd h):=by
 simp only[cu,ba,cJ];cases aJ e t x<;>simp[fE,aO,pq]
def Tu(args:List Operand)(ad:Array TypeId):cu e ar (.call ⟨.builtin .min,args.toArray,ad⟩) t dd h K=aO (((cJ e t args).bind qx).bind λl=>(qi e l).map .v) (fE K dd h):=by simp[cu,ba,fE];rfl
def Tv(args:List Operand)(ad:Array TypeId):cu e ar (.call ⟨.builtin .max,args.toArray,ad⟩) t dd h K=aO (((cJ e t args).bind qx).bind λl=>(rR e l).map .v) (fE K dd h):=by simp[cu,ba,fE];rfl
end
section
variable (t:Tr DV)
def Tw(i:Nat):aJ e t (.tmp i)=t.get i:=(rfl)
def Tx(f:FuncId):aJ e t (.func f)=some (.fn f [] []):=(rfl)
def Ty(k:IntKind)(n:Int):aJ e t (.const (.int k n))=some (.v (.int k n)):=(rfl)
def Tz(b:Bool):aJ e t (.const (.bool b))=some (.v (.bool b)):=(rfl)
def TA(s:ByteArray):aJ e t (.const (.string s))=some (.v (.string s)):=(rfl)
def TB:aJ e t (.const (.pointer none))=some (.v (.pointer none)):=(rfl)
def TE(l k:Nat):aJ e t (.const (.slice none l k))=some (.v (.slice none l k)):=(rfl)
def TF:aJ e t (.const (.map none))=some (.v (.map none)):=(rfl)
def TG:aJ e t (.const .nilFunc)=some (.v .nilFunc):=(rfl)
def Bh(e:Env)(t:Tr DV)(r:List Operand):Option DV->Option (List DV)
 |none=>none
 |some v=>(cJ e t r).map (v::·)
def TH:cJ e t []=some []:=(rfl)
def TI(o:Operand)(r:List Operand):cJ e t (o::r)=Bh e t r (aJ e t o):=by
 simp only[cJ,Bh];cases aJ e t o<;>rfl
def TJ(r:List Operand)(v:DV):Bh e t r (some v)=(cJ e t r).map (v::·):=(rfl)
def Bi(e:Env)(t:Tr DV)(i:Nat)(r:List (Nat×Operand)):Option DV->Option (List (Nat×DV))
 |none=>none
 |some v=>(gb e t r).map ((i,v)::·)
def TK:gb e t []=some []:=(rfl)
def TL(i:Nat)(o:Operand)(r:List (Nat×Operand)):gb e t ((i,o)::r)=Bi e t i r (aJ e t o):=by
 simp only[gb,Bi];cases aJ e t o<;>rfl
def TM(i:Nat)(r:List (Nat×Operand))(v:DV):Bi e t i r (some v)=(gb e t r).map ((i,v)::·):=(rfl)
def TN:eO e t none=some none:=(rfl)
def TO(o:Operand):eO e t (some o)=(aJ e t o).map some:=(rfl)
end
def TP(a:List DV):iX a=Tr.ofList a 0 .nil:=(rfl)
def TQ(i:Nat)(t:Tr DV):Tr.ofList [] i t=t:=(rfl)
def TR(v:DV)(l:List DV)(i:Nat)(t:Tr DV):Tr.ofList (v::l) i t=Tr.ofList l (i+1) (t.set i (some v)):=(rfl)
def TT(f:FuncId)(a c args:List DV):jK (some (.fn f a c)) (some args)=some (f,a++args++c):=(rfl)
def Gs{α:Type}(f:DV->DV->Option α)(a b:DV):gO f (some a) (some b)=f a b:=(rfl)
section
variable (op:BinOp) (ty:TypeId) (x y:Operand) (k:IntKind) (n m:Int)
def TU(a b:Value):jG e op ty x y (.v a) (.v b)=(cO e op ty x y a b).map .v:=(rfl)
end
def TV(f:Value->Option Value)(v:Value):lJ f (.v v)=(f v).map .v:=(rfl)
def TW(a b:Option DV):qw (some (.v (.bool true))) a b=a:=(rfl)
def TX(a b:Option DV):qw (some (.v (.bool false))) a b=b:=(rfl)
def TY(a:Addr):lp (.v (.pointer (some a)))=some (.v (.pointer (some a))):=(rfl)
def TZ(xs:List DV)(o:Nat):lp (.ptr xs o)=some (.ptr xs o):=(rfl)
def T7(i:Nat)(l:List DV):mh i (.bp l)=l[i]? :=(rfl)
def T8(f:FuncId)(a c:List DV):nZ f (some a) (some c)=some (.fn f a c):=(rfl)
def Ua(k:IntKind)(i:Int):gd (.v (.int k i))=some i:=(rfl)
def Bj(l:Option (Option Nat))(o:Nat):Option bF->Option DV
 |some (.row cs _ _)=>fy l cs o
 |_=>none
def Ub(h:ae)(ty:TypeId)(b o:Nat):ji e h ty (.v (.pointer (some ⟨b,o,none⟩)))=Bj (e.ld ty) o (h.get b):=by
 simp only[ji,Bj];cases h.get b with
 |none=>rfl
 |some ob=>cases ob<;>rfl
def Uc(l:Option (Option Nat))(o:Nat)(cs:List DV)(wr:Bool)(aj:Nat):Bj l o (some (.row cs wr aj))=fy l cs o:=(rfl)
def Ud(h:ae)(ty:TypeId)(xs:List DV)(o:Nat):ji e h ty (.ptr xs o)=fy (e.ld ty) xs o:=(rfl)
def Ue(cs:List DV)(o:Nat):fy (some none) cs o=cs[o]? :=(rfl)
def Uf(cs:List DV)(o n:Nat):fy (some (some (n+1))) cs o=if o+(n+1)<=cs.length then some (.agg ((cs.drop o).take (n+1)))else none:=(rfl)
def Gt(b o:Nat):Option Nat->Option DV
 |none=>none
 |some k=>some (.v (.pointer (some ⟨b,o+k,none⟩)))
def Gu(xs:List DV)(o:Nat):Option Nat->Option DV
 |none=>none
 |some k=>some (.ptr xs (o+k))
def Ug(s f b o:Nat):kK e s f (.v (.pointer (some ⟨b,o,none⟩)))=Gt b o (e.off s f):=by
 simp only[kK];cases e.off s f<;>rfl
def Uh(s f o:Nat)(xs:List DV):kK e s f (.ptr xs o)=Gu xs o (e.off s f):=by
 simp only[kK];cases e.off s f<;>rfl
def Ui(b o k:Nat):Gt b o (some k)=some (.v (.pointer (some ⟨b,o+k,none⟩))):=(rfl)
def Uj(xs:List DV)(o k:Nat):Gu xs o (some k)=some (.ptr xs (o+k)):=(rfl)
def Uk(ty b o len c:Nat)(i:Int):gZ e ty (.v (.slice (some ⟨b,o,none⟩) len c)) (some i)=(nU b o len i (e.elem ty)).map .v:=(rfl)
def Ul(ty b o:Nat)(i:Int):gZ e ty (.v (.pointer (some ⟨b,o,none⟩))) (some i)=(nV b o i (e.arr ty)).map .v:=(rfl)
def x6(i:Int)(k:Nat)(xs:List (List DV)):Option Nat->Option DV
 |none=>none
 |some s=>if s=k then qv i xs else none
def Um(ty k:Nat)(xs:List (List DV))(i:Int):gZ e ty (.sl k xs) (some i)=x6 i k xs (e.elem ty):=by
 simp only[gZ,x6];cases e.elem ty with
 |none=>rfl
 |some s=>simp only[E2]
def Un(i:Int)(k:Nat)(xs:List (List DV)):x6 i k xs (some k)=qv i xs:=by simp[x6]
def Bk(n:Nat):Option Nat->Option DV
 |none=>none
 |some _=>some (.v (.int .i64 n))
def Uo(n s:Nat):Bk n (some s)=some (.v (.int .i64 n)):=(rfl)
def Up(h:ae)(ty k:Nat)(xs:List (List DV)):iC e h ty (.sl k xs)=Bk xs.length (e.elem ty):=by
 simp only[iC];cases e.elem ty<;>rfl
def Uq(h:ae)(ty:Nat)(a:Option Addr)(l c:Nat):iC e h ty (.v (.slice a l c))=Bk l (e.elem ty):=by
 simp only[iC];cases e.elem ty<;>rfl
def Ur(h:ae)(ty:Nat)(s:ByteArray):iC e h ty (.v (.string s))=(fV e ⟨.nil,0⟩ ty (.string s)).map .v:=(rfl)
def mm(h:ae)(o:bF)(j:Nat):(h.new o).get j=if j=h.next then some o else h.get j:=ae.dN _ _ _
def Us(h:ae)(i:Nat)(o:Option bF):(h.set i o).get i=o:=by rw[ae.bu,if_pos rfl]
def Bl:Option DV->Option (bF×(Nat->DV))
 |none=>none
 |some d=>if(cC d).all cZ=true then some (.row (cC d) true 0,λi=>.v (.pointer (some ⟨i,0,none⟩)))else none
def Ut(t:Tr DV)(ty:TypeId)(x:Operand):dX e t (.box ty x)=Bl (aJ e t x):=by
 simp only[dX,Bl];cases aJ e t x<;>rfl
def Uu(d:DV):Bl (some d)=if(cC d).all cZ=true then some (.row (cC d) true 0,λi=>.v (.pointer (some ⟨i,0,none⟩)))else none:=(rfl)
def Bo:Option Value->Option (bF×(Nat->DV))
 |none=>none
 |some z=>some (.row (z.cells.toList.map .v) true 0,λi=>.v (.pointer (some ⟨i,0,none⟩)))
def Uv(t:Tr DV)(ty:TypeId):dX e t (.alloc ty)=Bo (e.zero ty):=by
 simp only[dX,Bo];cases e.zero ty<;>rfl
def Uw(z:Value):Bo (some z)=some (.row (z.cells.toList.map .v) true 0,λi=>.v (.pointer (some ⟨i,0,none⟩))):=(rfl)
def Ux(t:Tr DV)(ty:TypeId):dX e t (.makeMap ty none)=some (.map [] 0,λi=>.v (.map (some i))):=(rfl)
def Uy(l:List DV):cC (.agg l)=l:=(rfl)
def Uz(v:Value):cC (.v v)=[.v v]:=(rfl)
def UA(f:FuncId)(a c:List DV):cC (.fn f a c)=[.fn f a c]:=(rfl)
def UB(k:Nat)(xs:List (List DV)):cC (.sl k xs)=[.sl k xs]:=(rfl)
def UC(xs:List DV)(o:Nat):cC (.ptr xs o)=[.ptr xs o]:=(rfl)
def UD(v:Value):cZ (.v v)=dF v:=(rfl)
def UE(f:FuncId)(a c:List DV):cZ (.fn f a c)=true:=(rfl)
def UF(k:Nat)(xs:List (List DV)):cZ (.sl k xs)=true:=(rfl)
def UG(xs:List DV)(o:Nat):cZ (.ptr xs o)=true:=(rfl)
def Bp(h:ae)(b o:Nat)(d:DV):Option bF->Option Nat->Option (ae×Nat)
 |some (.row cs true aj),some n=>if(cC d).length=n/\0<n/\o+n<=cs.length/\(cC d).all cZ=true then some (h.set b (some (.row (cs.take o++cC d++cs.drop (o+n)) true aj)),b)else none
 |_,_=>none
def UH(h:ae)(ty:TypeId)(b o:Nat)(d:DV):lM e h ty (some (.v (.pointer (some ⟨b,o,none⟩)))) (some d)=Bp h b o d (h.get b) (e.size ty):=by
 simp only[lM,Bp];cases h.get b with
 |none=>rfl
 |some ob=>
  cases ob with
  |row cs wr aj=>cases wr<;>cases e.size ty<;>rfl
  |_=>rfl
def UI(h:ae)(b o:Nat)(d:DV)(cs:List DV)(aj n:Nat):Bp h b o d (some (.row cs true aj)) (some n)=if(cC d).length=n/\0<n/\o+n<=cs.length/\(cC d).all cZ=true then some (h.set b (some (.row (cs.take o++cC d++cs.drop (o+n)) true aj)),b)else none:=(rfl)
def tL(h:ae)(base:Option Addr)(len cap:Nat)(x:DV):Option (Nat×Nat)->Option Nat->Option (DV×ae×List Nat)
 |some (sz,b),some _=>match gj h sz x with
  |some (n,new)=>eP h base len cap sz b n new
  |none=>none
 |_,_=>none
def x7(h:ae)(st xt:TypeId)(r:List TypeId)(base:Option Addr)(len cap:Nat)(x:DV):jJ e h (st::xt::r).toArray (some [.v (.slice base len cap),x])=tL h base len cap x (e.ap st) (e.elem xt):=by
 simp only[jJ,List.getElem?_toArray,afF,List.getElem?_cons_succ,tL];cases e.ap st with
 |none=>rfl
 |some p=>cases e.elem xt<;>rfl
def Bt(h:ae)(base:Option Addr)(len cap sz b:Nat):Option (Nat×List DV)->Option (DV×ae×List Nat)
 |some (n,new)=>eP h base len cap sz b n new
 |none=>none
def Gv(h:ae)(base:Option Addr)(len cap:Nat)(x:DV)(sz b s:Nat):tL h base len cap x (some (sz,b)) (some s)=Bt h base len cap sz b (gj h sz x):=by
 simp only[tL,Bt]
def UJ(h:ae)(base:Option Addr)(len cap sz b n:Nat)(new:List DV):Bt h base len cap sz b (some (n,new))=eP h base len cap sz b n new:=(rfl)
def UK(h:ae)(k:Nat)(xs:List (List DV)):gj h k (.sl k xs)=some (xs.length,xs.flatten):=by simp[gj]
def Bu(o n sz:Nat):Option bF->Option (Nat×List DV)
 |some (.row cs _ _)=>if o+n*sz<=cs.length then some (n,(cs.drop o).take (n*sz))else none
 |_=>none
def UL(h:ae)(sz b o n c:Nat):gj h sz (.v (.slice (some ⟨b,o,none⟩) n c))=Bu o n sz (h.get b):=by
 simp only[gj,Bu];cases h.get b with
 |none=>rfl
 |some ob=>cases ob<;>rfl
def UM(o n sz:Nat)(cs:List DV)(wr:Bool)(aj:Nat):Bu o n sz (some (.row cs wr aj))=if o+n*sz<=cs.length then some (n,(cs.drop o).take (n*sz))else none:=(rfl)
def n7(h:ae)(base:Option Addr)(len cap sz b:Nat)(new:List DV)(hc:len<=cap):eP h base len cap sz b 0 new=some (.v (.slice base len cap),h,[]):=by simp[eP,hc]
def se(h:ae)(sz b n:Nat)(new:List DV)(hn:0<n)(hb:n*(b+1)<=1073741824):eP h none 0 0 sz b n new=some (.v (.slice (some ⟨h.next,0,none⟩) n n),h.new (.row new true sz),[]):=by
 have:n≠0:=aa;simp[eP,hb,this]
def vI(h:ae)(i len sz b n:Nat)(cs new:List DV)(hg:h.get i=some (.row cs true sz))(hc:cs.length=len*sz)(hs:0<sz)(hn:0<n)(h1:new.all cZ=true)(hb:(len+n)*(b+1)<=1073741824):
 eP h (some ⟨i,0,none⟩) len len sz b n new=some (.v (.slice (some ⟨h.next,0,none⟩) (len+n) (len+n)),(h.set i none).new (.row (cs++new) true sz),[i]):=by
 have a1:¬len+n<=len:=aa;have a2:sz≠0:=aa;have a3:cs.take (len*sz)=cs:=by rw[<-hc];exact afG
 simp[eP,a1,hb,hg,hc,a2,h1,a3]
def Gw(h:ae)(i len sz b n:Nat)(cs new:List DV)(wr:Bool)(hg:h.get i=some (.row cs wr 0))(hc:cs.length=len*sz)(hn:0<n)(hb:(len+n)*(b+1)<=1073741824):
 eP h (some ⟨i,0,none⟩) len len sz b n new=some (.v (.slice (some ⟨h.next,0,none⟩) (len+n) (len+n)),h.new (.row (cs++new) true sz),[]):=by
 have a1:¬len+n<=len:=aa;have a3:cs.take (len*sz)=cs:=by rw[<-hc];exact afG
 simp[eP,a1,hb,hg,hc,a3]
def pt(s:Nat):Nat->List (Nat×DV)->Option (List DV)
 |_,[]=>some []
 |i,(j,v)::r=>if j=i/\(cC v).length=s/\(cC v).all cZ=true then(pt s (i+1) r).map (cC v++·)else none
def Gx{s:Nat}:∀{ps:List (Nat×DV)} {i:Nat} {cs done rest:List DV},pt s i ps=some cs->done.length=i*s->rest.length=ps.length*s->kc (λi=>some (i*s,s)) (done++rest) ps=some (done++cs)
 |[],i,cs,done,rest,h,h1,h2=>by
  simp only[pt,E2]at h;subst h;have:rest=[]:=afD (by simpa using h2);subst this;rfl
 |(j,v)::r,i,cs,done,rest,h,h1,h2=>by
  simp only[pt]at h
  split at h
  . rename_i hc;obtain⟨rfl,hv,ho⟩:=hc;simp only[afH]at h;obtain⟨cs',h3,rfl⟩:=h;simp only[Xy,Nat.add_mul,Nat.one_mul]at h2;have hle:j*s+s<=(done++rest).length:=by simp only[afI];omega
    simp only[kc];rw[if_pos ⟨hv,hle,ho⟩];have e1:(done++rest).take (j*s)++cC v++(done++rest).drop (j*s+(cC v).length)=(done++cC v)++rest.drop s:=by
     rw[<-h1,List.take_left,hv,List.drop_append,afJ aa];simp
    rw[e1,Gx h3 (by simp only[afI,h1,hv,Nat.add_mul,Nat.one_mul]) (by rw[List.length_drop];omega),List.append_assoc]
  . cases h
def x8(e:Env)(t:Tr DV)(st n:Nat)(l:List (Nat×Operand)):Option (bF×(Nat->DV)):=dX e t (.buildSlice st n l.toArray)
def x9(e:Env)(t:Tr DV)(st n:Nat)(l:List (Nat×Operand)):Option (List DV)->Option (bF×(Nat->DV))
 |some cs=>some (.row cs true 0,λi=>.v (.slice (some ⟨i,0,none⟩) n n))
 |none=>x8 e t st n l
def Bv(e:Env)(t:Tr DV)(st n:Nat)(l:List (Nat×Operand)):Option (Nat×Value)->Option (List (Nat×DV))->Option (bF×(Nat->DV))
 |some (s,z),some ps=>if z.cells.toList.length=s/\0<s/\n*s<=16777216/\ps.length=n then x9 e t st n l (pt s 0 ps)else x8 e t st n l
 |_,_=>x8 e t st n l
def UN(t:Tr DV)(st n:Nat)(l:List (Nat×Operand)):dX e t (.buildSlice st n l.toArray)=Bv e t st n l (e.gN st) (gb e t l):=by
 unfold Bv
 split
 . rename_i s z ps hz hp
   split
   . rename_i hc;obtain⟨h1,h2,h3,h4⟩:=hc;unfold x9
     split
     . rename_i cs hr;unfold Env.gN at hz
       split at hz
       . rename_i el hu
         split at hz
         . rename_i s' z' k1 k2;cases hz;simp only[dX,hu,hp,k1,k2];rw[if_pos ⟨h3,h1,h2⟩];have:=Gx (s:=s) (done:=[]) (rest:=(ey z.cells.toList (n*s)).map .v) hr aw (by rw[afz,FV,h4]);simp only[List.nil_append]at this;rw[this]
         . cases hz
       . cases hz
     . rfl
   . rfl
 . rfl
def UO(t:Tr DV)(st n:Nat)(l:List (Nat×Operand))(s:Nat)(z:Value)(ps:List (Nat×DV)):Bv e t st n l (some (s,z)) (some ps)=if z.cells.toList.length=s/\0<s/\n*s<=16777216/\ps.length=n then x9 e t st n l (pt s 0 ps)else x8 e t st n l:=(rfl)
def UP(t:Tr DV)(st n:Nat)(l:List (Nat×Operand))(cs:List DV):x9 e t st n l (some cs)=some (.row cs true 0,λi=>.v (.slice (some ⟨i,0,none⟩) n n)):=(rfl)
def UQ(s i:Nat):pt s i []=some []:=(rfl)
def UR(s i j:Nat)(v:DV)(r:List (Nat×DV)):pt s i ((j,v)::r)=if j=i/\(cC v).length=s/\(cC v).all cZ=true then(pt s (i+1) r).map (cC v++·)else none:=(rfl)
def qB(e:Env)(t:TypeId)(cells:List DV)(ps:List (Nat×DV)):Option (List DV):=kc (e.place t) cells ps
def Bw(e:Env)(t:TypeId)(cells:List DV)(v:DV)(r:List (Nat×DV)):Option (Nat×Nat)->Option (List DV)
 |none=>none
 |some (off,size)=>if(cC v).length=size/\off+size<=cells.length/\(cC v).all cZ=true then qB e t (cells.take off++cC v++cells.drop (off+(cC v).length)) r else none
def US(t:TypeId)(cells:List DV):qB e t cells []=some cells:=(rfl)
def UT(t:TypeId)(cells:List DV)(i:Nat)(v:DV)(r:List (Nat×DV)):qB e t cells ((i,v)::r)=Bw e t cells v r (e.place t i):=by
 simp only[qB,kc,Bw];cases e.place t i with
 |none=>rfl
 |some p=>obtain⟨off,size⟩:=p;rfl
def UU(t:TypeId)(cells:List DV)(v:DV)(r:List (Nat×DV))(off size:Nat):Bw e t cells v r (some (off,size))=if(cC v).length=size/\off+size<=cells.length/\(cC v).all cZ=true then qB e t (cells.take off++cC v++cells.drop (off+(cC v).length)) r else none:=(rfl)
def gA(e:Env)(t:TypeId)(ps:List (Nat×DV)):Option Value->Option DV
 |none=>none
 |some z=>(qB e t (z.cells.toList.map .v) ps).map .agg
def UW(t:TypeId)(ps:List (Nat×DV))(z:Value):gA e t ps (some z)=(qB e t (z.cells.toList.map .v) ps).map .agg:=(rfl)
def iE{t:TypeId}(ps:List (Nat×DV))(h:(e.place t 0).isSome=true)(hs:∃d,e.under t=some d/\jZ d=true):eD e t ps=gA e t ps (e.zero t):=by
 obtain⟨d,hd,ha⟩:=hs;simp only[eD,gA,qB,hd];cases hz:e.zero t with
 |none=>rfl
 |some z=>
  cases d with
  |struct fields=>
   have:e.place t=kA e fields:=by funext i;simp[Env.place,hd]
   simp only[this]
  |array n el=>
   simp only;cases he:e.size el with
   |none=>
    have hp:e.place t=λ_=>none:=by funext i;simp[Env.place,hd,he]
    rw[hp]at h;cases h
   |some s=>
    have:e.place t=λi=>some (i*s,s):=by funext i;simp[Env.place,hd,he]
    simp only[this]
  |_=>cases ha
def ya(e:Env)(ar:Bool)(b:Code)(K:bB->DS->Prop):bB->DS->Prop:=λx s1=>match x with|.normal=>RD e ar b s1 K|.exit i=>K (.exit i) s1|.ret=>K .ret s1
def yb(id:Nat)(K:bB->DS->Prop):bB->DS->Prop:=λx s1=>match x with|.normal=>K .normal s1|.exit i=>if i=id then K .normal s1 else K (.exit i) s1|.ret=>K .ret s1
def n8(e:Env)(ar:Bool)(a b:Code)(s:DS)(K:bB->DS->Prop):DV->Prop:=λv=>match v with|.v (.bool v)=>(v=true->RD e ar a s K)/\(v=false->RD e ar b s K)|_=>False
section
variable (s:DS) (K:bB->DS->Prop)
def UX(b:Code):ya e ar b K .normal s=RD e ar b s K:=(rfl)
def UY(b:Code)(i:Nat):ya e ar b K (.exit i) s=K (.exit i) s:=(rfl)
def UZ(b:Code):ya e ar b K .ret s=K .ret s:=(rfl)
def U0(id:Nat):yb id K .normal s=K .normal s:=(rfl)
def U1(id i:Nat):yb id K (.exit i) s=if i=id then K .normal s else K (.exit i) s:=(rfl)
def U2(id:Nat):yb id K .ret s=K .ret s:=(rfl)
def U3(a b:Code):n8 e ar a b s K (.v (.bool true))=RD e ar a s K:=by simp[n8]
def U4(a b:Code):n8 e ar a b s K (.v (.bool false))=RD e ar b s K:=by simp[n8]
def n8.mk{a b:Code}{p:Prop}[Decidable p](h1:p->RD e ar a s K)(h2:¬p->RD e ar b s K):n8 e ar a b s K (.v (.bool (decide p))):=⟨λh=>h1 (of_decide_eq_true h),λh=>h2 (of_decide_eq_false h)⟩
def U5:RD e ar .skip s K=K .normal s:=(rfl)
def U6(l:Nat):RD e ar (.label l) s K=K .normal s:=(rfl)
def U7(c:Code):RD e ar (.scope c) s K=RD e ar c s K:=(rfl)
def U8(id:Nat):RD e ar (.exit id) s K=K (.exit id) s:=(rfl)
def U9:RD e ar .ret s K=K .ret s:=(rfl)
def Va(a b:Code):RD e ar (.seq a b) s K=RD e ar a s (ya e ar b K):=(rfl)
def Vb(id:Nat)(c:Code):RD e ar (.block id c) s K=RD e ar c s (yb id K):=(rfl)
def Vc(c:Operand)(a b:Code)(t:Tr DV)(n:Nat)(dd:List FuncId)(h:ae):RD e ar (.cond c a b) ⟨t,n,dd,h⟩ K=aO (aJ e t c) (n8 e ar a b ⟨t,n,dd,h⟩ K):=(rfl)
def Vd(id:Nat)(l:List Oper)(t:Tr DV)(n:Nat)(dd:List FuncId)(h:ae):RD e ar (.region id l.toArray false) ⟨t,n,dd,h⟩ K=fg e ar l l t n dd h (K .normal):=by simp[RD]
def Ve(c:Code):RD e ar (.loop c) s K=WD e ar (.loop c) s K:=(rfl)
def Vf(I:Nat->DS->Prop)(j:Nat):KI I j K .normal s=∃j',j'<j/\∃d',aB s d'/\I j' d':=(rfl)
def Vg(I:Nat->DS->Prop)(j:Nat)(i:Nat):KI I j K (.exit i) s=K (.exit i) s:=(rfl)
def Vh(I:Nat->DS->Prop)(j:Nat):KI I j K .ret s=K .ret s:=(rfl)
end
def vJ(K:DV->ae->Prop)(h:ae):List DV->Prop:=λl=>K (ke l) h
def Vi(K:DV->ae->Prop)(h:ae)(l:List DV):vJ K h l=K (ke l) h:=(rfl)
def Vj(v:DV):ke [v]=v:=(rfl)
def Vk:ke []=.bp []:=(rfl)
def Vl(v w:DV)(r:List DV):ke (v::w::r)=.bp (v::w::r):=(rfl)
def Vm(rs:List ResultVar)(K:DV->ae->Prop)(t:Tr DV)(n:Nat)(h:ae):jL e rs K .ret ⟨t,n,[],h⟩=aO (gz e ⟨t,n,[],h⟩ rs) (vJ K h):=by
 simp[jL,vJ,aO]
def Vn(rs:List ResultVar)(K:DV->ae->Prop)(t:Tr DV)(n:Nat)(h:ae):jL e rs K .normal ⟨t,n,[],h⟩=aO (gz e ⟨t,n,[],h⟩ rs) (vJ K h):=by
 simp[jL,vJ,aO]
def vK(e:Env)(s:DS)(r:List ResultVar):Option DV->Option (List DV)
 |none=>none
 |some v=>(gz e s r).map (v::·)
def Vo(s:DS):gz e s []=some []:=(rfl)
def Vp(t:Tr DV)(n:Nat)(dd:List FuncId)(h:ae)(i:Nat)(r:List ResultVar):gz e ⟨t,n,dd,h⟩ (.tmp i::r)=vK e ⟨t,n,dd,h⟩ r (t.get i):=by
 simp only[gz,vK];cases t.get i with
 |none=>rfl
 |some v=>cases gz e ⟨t,n,dd,h⟩ r<;>rfl
def Vq(t:Tr DV)(n:Nat)(dd:List FuncId)(h:ae)(i ty:Nat)(r:List ResultVar):gz e ⟨t,n,dd,h⟩ (.cell i ty::r)=vK e ⟨t,n,dd,h⟩ r ((t.get i).bind (ji e h ty)):=by
 simp only[gz,vK];cases(t.get i).bind (ji e h ty)with
 |none=>rfl
 |some v=>cases gz e ⟨t,n,dd,h⟩ r<;>rfl
def Vr(s:DS)(r:List ResultVar)(v:DV):vK e s r (some v)=(gz e s r).map (v::·):=(rfl)
attribute [go_sem] SE SF SG SH SJ SK SL SM SN SO SP SQ SR SS SU SV Gr Tm Tn SW SX SY SZ S0 S1 S2 S3 S4 S5 S6 S7 S8 S9 Ta Tb Tc Td Te Tf Tg Th Ti Tj Tk To Tp Tq Ts Tt Tu Tv Tw Tx Ty Tz TA TB TE TF TG TH TI TJ TK TL TM TN TO TP TT Gs TU TV TW TX TY TZ T7 T8 Ua Ub Uc Ud Ue Uf Ug Uh Ui Uj Uk Ul Um Un Uo Up Uq Ur Us ae.get_none ae.tF ae.aY ae.bm ae.FX ae.iU Ut Uu Uv Uw Ux Uy Uz UA UB UC UD UE UF UG UH UI x7 Gv UJ UK UL UM UN UO UP UQ UR US UT UU UW UX UY UZ U0 U1 U2 U3 U4 U5 U6 U7 U8 U9 Va Vb Vc Vd Ve Vf Vg Vh Vi Vj Vk Vl Vm Vn Vo Vp Vq Vr
end Go.aD
end
noncomputable section
namespace Go.aD
variable {e:Env} {G:Nat->Prop} {h:ab} {dh:ae} {t:Tr Value} {dt:Tr DV} {R:Rows}
def kg:Operand->List Tmp
 |.tmp t=>[t]
 |_=>[]
def yf:Option Operand->List Tmp
 |none=>[]
 |some o=>kg o
def slotsOf:Op->List Tmp
 |.move x|.assign x|.load _ x|.nilCheck x|.unOp _ _ x|.convert _ _ x|.makeInterface _ x|.fieldAddr _ x _|.field _ x _|.extract x _=>kg x
 |.pick c a b=>kg c++kg a++kg b
 |.build _ ps=>ps.toList.flatMap λp=>kg p.2
 |.makeFunc _ a c=>a.toList.flatMap kg++c.toList.flatMap kg
 |.slice _ x l h m=>kg x++yf l++yf h++yf m
 |.binOp _ _ a b _|.indexAddr _ a b|.index _ a b|.lookup _ a b _=>kg a++kg b
 |.call c=>c.args.toList.flatMap kg
 |_=>[]
def e8{t1 t2:Tr DV}{o:Operand}(h:∀s∈kg o,t1.get s=t2.get s):aJ e t1 o=aJ e t2 o:=by
 cases o with
 |tmp i=>exact h i (by simp[kg])
 |_=>rfl
def vL{t1 t2:Tr DV}:∀{l:List Operand},(∀s∈l.flatMap kg,t1.get s=t2.get s)->cJ e t1 l=cJ e t2 l
 |[],_=>rfl
 |o::r,h=>by
  simp only[afK,qG]at h;simp only[cJ,e8 (e:=e) λs hs=>h s (.inl hs),vL λs hs=>h s (.inr hs)]
def GD{t1 t2:Tr DV}:∀{l:List (Nat×Operand)},(∀s∈l.flatMap (λp=>kg p.2),t1.get s=t2.get s)->gb e t1 l=gb e t2 l
 |[],_=>rfl
 |(i,o)::r,h=>by
  simp only[afK,qG]at h;simp only[gb,e8 (e:=e) λs hs=>h s (.inl hs),GD λs hs=>h s (.inr hs)]
def BE{t1 t2:Tr DV}{o:Option Operand}(h:∀s∈yf o,t1.get s=t2.get s):eO e t1 o=eO e t2 o:=by
 cases o with
 |none=>rfl
 |some o=>simp only[eO,e8 (e:=e) h]
def V5{t1 t2:Tr DV}{op:Op}(h:∀s∈slotsOf op,t1.get s=t2.get s):ba e dh t1 op=ba e dh t2 op:=by
 cases op with
 |move x=>exact e8 h
 |assign x=>exact e8 h
 |pick c a b=>
  simp only[slotsOf,qG]at h;simp only[ba,e8 (e:=e) (o:=c) λs hs=>h s (.inl (.inl hs)),e8 (e:=e) (o:=a) λs hs=>h s (.inl (.inr hs)),e8 (e:=e) (o:=b) λs hs=>h s (.inr hs)]
 |build ty ps=>simp only[ba,GD (e:=e) h]
 |load ty a=>simp only[ba,e8 (e:=e) (o:=a) h]
 |nilCheck a=>simp only[ba,e8 (e:=e) (o:=a) h]
 |unOp op z a=>simp only[ba,e8 (e:=e) (o:=a) h]
 |convert s d a=>simp only[ba,e8 (e:=e) (o:=a) h]
 |makeInterface ty a=>simp only[ba,e8 (e:=e) (o:=a) h]
 |fieldAddr s a f=>simp only[ba,e8 (e:=e) (o:=a) h]
 |field s a f=>simp only[ba,e8 (e:=e) (o:=a) h]
 |extract a i=>simp only[ba,e8 (e:=e) (o:=a) h]
 |makeFunc fn a c=>
  simp only[slotsOf,qG]at h;cases fn with
  |func f=>simp only[ba,vL (e:=e) (l:=a.toList) λs hs=>h s (.inl hs),vL (e:=e) (l:=c.toList) λs hs=>h s (.inr hs)]
  |_=>rfl
 |slice ty x l hi m=>
  simp only[slotsOf,qG]at h;simp only[ba,e8 (e:=e) (o:=x) λs hs=>h s (.inl (.inl (.inl hs))),BE (e:=e) (o:=l) λs hs=>h s (.inl (.inl (.inr hs))),BE (e:=e) (o:=hi) λs hs=>h s (.inl (.inr hs)),BE (e:=e) (o:=m) λs hs=>h s (.inr hs)]
 |binOp op ty a b z=>
  simp only[slotsOf,qG]at h;simp only[ba,e8 (e:=e) (o:=a) λs hs=>h s (.inl hs),e8 (e:=e) (o:=b) λs hs=>h s (.inr hs)]
 |indexAddr ty a b=>
  simp only[slotsOf,qG]at h;simp only[ba,e8 (e:=e) (o:=a) λs hs=>h s (.inl hs),e8 (e:=e) (o:=b) λs hs=>h s (.inr hs)]
 |index ty a b=>
  simp only[slotsOf,qG]at h;simp only[ba,e8 (e:=e) (o:=a) λs hs=>h s (.inl hs),e8 (e:=e) (o:=b) λs hs=>h s (.inr hs)]
 |lookup ty a b ok=>
  simp only[slotsOf,qG]at h;simp only[ba,e8 (e:=e) (o:=a) λs hs=>h s (.inl hs),e8 (e:=e) (o:=b) λs hs=>h s (.inr hs)]
 |call c=>simp only[ba,vL (e:=e) (l:=c.args.toList) h]
 |_=>rfl
def nh:Option Value->Option Nat
 |some (.pointer (some a))=>some a.block
 |some (.slice (some a) _ _)=>some a.block
 |some (.map (some r))=>some r
 |_=>none
def jM:Option DV->Option Nat
 |some (.v v)=>nh (some v)
 |_=>none
def iY(e:Env)(t:Tr Value):Op->Option Nat
 |.load _ a=>nh (aF e t a)
 |.lookup _ m _ _=>nh (aF e t m)
 |.slice _ x _ _ _=>nh (aF e t x)
 |.convert _ _ x=>nh (aF e t x)
 |.call c=>match db e t c.args.toList with|some [x]=>nh (some x)|_=>none
 |_=>none
def dK(e:Env)(t:Tr DV):Op->Option Nat
 |.load _ a=>jM (aJ e t a)
 |.lookup _ m _ _=>jM (aJ e t m)
 |.slice _ x _ _ _=>jM (aJ e t x)
 |.convert _ _ x=>jM (aJ e t x)
 |.call c=>match cJ e t c.args.toList with|some [x]=>jM (some x)|_=>none
 |_=>none
def V6{h1 h2:ab}{op:Op}(hc:cls op=.pure):bI e h1 t op=bI e h2 t op:=by
 cases op with
 |load ty a=>cases hc
 |lookup ty m k ok=>cases hc
 |slice ty x lo hi mx=>cases hc
 |convert s d x=>cases hc
 |call c=>
  simp only[cls]at hc
  split at hc<;>cases hc
 |makeFunc fn a c=>cases fn<;>rfl
 |_=>rfl
def V7{h1 h2:ae}{op:Op}(hc:cls op=.pure):ba e h1 dt op=ba e h2 dt op:=by
 cases op with
 |load ty a=>cases hc
 |lookup ty m k ok=>cases hc
 |slice ty x lo hi mx=>cases hc
 |convert s d x=>cases hc
 |call c=>
  simp only[cls]at hc
  split at hc<;>cases hc
 |makeFunc fn a c=>cases fn<;>rfl
 |_=>rfl
def V8{h1 h2:ab}{ty:TypeId}{x:Value}(hb:∀b,nh (some x)=some b->h1.get b=h2.get b):fV e h1 ty x=fV e h2 ty x:=by
 unfold fV
 split<;>first|rfl|skip
 rename_i r _;rw[hb r rfl]
def V9{h1 h2:ab}{ty:TypeId}{x:Value}{lo hi mx:Option Value}(hb:∀a l c,x=.slice (some a) l c->h1.get a.block=h2.get a.block):jB e h1 ty x lo hi mx=jB e h2 ty x lo hi mx:=by
 unfold jB
 split
 . rename_i elem base len cap _;cases base with
   |none=>rfl
   |some a=>
    have e2:∀s,mK h1 a s=mK h2 a s:=λs=>by unfold mK;rw[hb a len cap rfl]
    simp only[e2]
 . rfl
 . rfl
 . rfl
def Wa{h1 h2:ab}{ty:TypeId}{x:Value}(hb:∀a l c,x=.slice (some a) l c->h1.get a.block=h2.get a.block):rh e h1 ty x=rh e h2 ty x:=by
 unfold rh
 split
 . rfl
 . rw[hb _ _ _ rfl]
 . rfl
def Wb{h1 h2:ab}{op:Op}(hb:∀b,iY e t op=some b->h1.get b=h2.get b):bI e h1 t op=bI e h2 t op:=by
 cases op with
 |load ty a=>
  simp only[bI];cases ha:aF e t a with
  |none=>rfl
  |some v=>
   simp only[Vs,mT];cases hv:iP v with
   |none=>rfl
   |some ad=>
    have:=u6 hv;subst this;have e1:=hb ad.block (by simp only[iY,ha];rfl);simp only[iN,gx,e1]
 |lookup ty m k ok=>
  simp only[bI];cases ha:aF e t m with
  |none=>rfl
  |some v=>
   cases hk:aF e t k with
   |none=>rfl
   |some w=>
    simp only[tw];cases v with
    |map r=>
     cases r with
     |none=>rw[lookup_nil,lookup_nil]
     |some r=>rw[xP,xP,hb r (by simp only[iY,ha];rfl)]
    |_=>simp only[nS,pZ]
 |slice ty x lo hi mx=>
  simp only[bI];cases ha:aF e t x with
  |none=>rfl
  |some v=>
   cases iT e t lo with
   |none=>rfl
   |some lo=>
    cases iT e t hi with
    |none=>rfl
    |some hi=>
     cases iT e t mx with
     |none=>rfl
     |some mx=>exact V9 λa l c hv=>hb a.block (by simp only[iY,ha,hv];rfl)
 |convert s d x=>
  simp only[bI];cases ha:aF e t x with
  |none=>rfl
  |some v=>
   simp only[Vs,oW];have:oH e h1 s d v=oH e h2 s d v:=by
    unfold oH
    split
    . rename_i a len _ el _ _;have e1:=hb a.block (by simp only[iY,ha];rfl);simp only[gx,e1]
    . rfl
   rw[this]
 |call c=>
  simp only[bI]
  split
  . split
    . rename_i x hx;simp only[vp]
      split
      . rfl
      . exact V8 λb h'=>hb b (by simp only[iY,hx];exact h')
    . rfl
  . split
    . rename_i x hx;simp only[Ap]
      split
      . rfl
      . exact Wa λa l c hv=>hb a.block (by simp only[iY,hx,hv];rfl)
    . rfl
  . rfl
  . rfl
  . rfl
 |makeFunc fn a c=>cases fn<;>rfl
 |_=>rfl
def Wc{h1 h2:ae}{op:Op}(hb:∀b,dK e dt op=some b->h1.get b=h2.get b):ba e h1 dt op=ba e h2 dt op:=by
 cases op with
 |load ty a=>
  simp only[ba];cases ha:aJ e dt a with
  |none=>rfl
  |some d=>
   simp only[Vs];unfold ji
   split
   . rename_i b o;rw[hb b (by simp only[dK,ha];rfl)]
   . rfl
   . rfl
 |lookup ty m k ok=>
  simp only[ba];cases ha:aJ e dt m with
  |none=>rfl
  |some d=>
   cases hk:aJ e dt k with
   |none=>rfl
   |some w=>
    simp only[Gs];unfold lq
    split
    . rfl
    . rename_i r k' _;rw[hb r (by simp only[dK,ha];rfl)]
    . rfl
 |slice ty x lo hi mx=>
  simp only[ba];cases ha:aJ e dt x with
  |none=>rfl
  |some d=>
   unfold de
   split
   . rfl
   . split
     . unfold jH
       split
       . rfl
       . rfl
       . rename_i b o len cap s hs _ heq;cases heq;rw[hb b (by simp only[dK,ha];rfl)]
       . rfl
     . rfl
   . rfl
 |convert s d x=>
  simp only[ba];cases ha:aJ e dt x with
  |none=>rfl
  |some c=>
   simp only[Vs];unfold mZ
   split
   . have:gj h1 1 c=gj h2 1 c:=by
      unfold gj
      split
      . rfl
      . rfl
      . rename_i b o n _;rw[hb b (by simp only[dK,ha];rfl)]
      . rfl
     rw[this]
   . rfl
 |call c=>
  simp only[ba]
  split
  . unfold pq
    split
    . rename_i x hx
      split
      . rfl
      . unfold iC
        split
        . rfl
        . rfl
        . rfl
        . rfl
        . rename_i r;rw[hb r (by simp only[dK,hx];rfl)]
        . rfl
    . rfl
  . rfl
  . rfl
  . rfl
 |makeFunc fn a c=>cases fn<;>rfl
 |_=>rfl
def vM{v:Value}{d:DV}(hv:Rel R v d){b:Nat}(hb:nh (some v)=some b):jM (some d)=some b\/∃r,R b=some r:=by
 cases hv with
 |v x=>exact .inl hb
 |sl h1 _ _ _ _ _ _=>simp only[nh,E2]at hb;subst hb;exact .inr ⟨_,h1⟩
 |ptr h1 _ _=>simp only[nh,E2]at hb;subst hb;exact .inr ⟨_,h1⟩
 |_=>cases hb
def We(ht:TD R t dt){op:Op}{d:DV}(hd:ba e dh dt op=some d){b:Nat}(hb:iY e t op=some b):dK e dt op=some b\/∃r,R b=some r:=by
 cases op with
 |load ty a=>
  obtain⟨c,h1,_⟩:=afy.1 hd;obtain⟨v,h2,h3⟩:=fx ht h1;simp only[iY,h2]at hb;simp only[dK,h1];exact vM h3 hb
 |lookup ty m k ok=>
  simp only[ba,gO]at hd
  split at hd
  . rename_i x y h1 _;obtain⟨v,h2,h3⟩:=fx ht h1;simp only[iY,h2]at hb;simp only[dK,h1];exact vM h3 hb
  . cases hd
 |slice ty x lo hi mx=>
  simp only[ba]at hd;cases h1:aJ e dt x with
  |none=>rw[h1]at hd;simp[de]at hd
  |some c=>
   obtain⟨v,h2,h3⟩:=fx ht h1;simp only[iY,h2]at hb;simp only[dK,h1];exact vM h3 hb
 |convert s d x=>
  obtain⟨c,h1,_⟩:=afy.1 hd;obtain⟨v,h2,h3⟩:=fx ht h1;simp only[iY,h2]at hb;simp only[dK,h1];exact vM h3 hb
 |call c=>
  have:∃l,cJ e dt c.args.toList=some l:=by
   simp only[ba]at hd;cases hl:cJ e dt c.args.toList with
   |some l=>exact⟨l,rfl⟩
   |none=>rw[hl]at hd;split at hd<;>simp[pq]at hd
  obtain⟨l,h1⟩:=this;obtain⟨vs,h2,h3⟩:=mX ht h1;simp only[iY,h2]at hb;simp only[dK,h1];cases h3 with
  |nil=>cases hb
  |cons h4 h5=>
   cases h5 with
   |nil=>exact vM h4 hb
   |cons _ _=>cases hb
 |_=>cases hb
abbrev fB:=List (Nat×Nat×bF)
def fL(h:ae)(m:Nat):fB->ae
 |[]=>h
 |(i,id,o)::r=>if m.testBit i=true then(fL h m r).set id (some o)else fL h m r
def mn(h:ae):fB->ae
 |[]=>h
 |(_,id,o)::r=>(mn h r).set id (some o)
def jj(m:Nat)(l:fB):fB:=l.filter λq=> !m.testBit q.1
structure px(R:Rows)(x:Nat×Nat×bP)(y:Nat×Nat×bF):Prop where
 i:x.1=y.1
 id:x.2.1=y.2.1
 o:jf R x.2.2 y.2.2
def bO.put(x:bO G h dh){id:Nat}(h1:id<h.next)(h2:¬G id){ao:bP}{o:bF}(hr:jf (aQ h G) ao o):bO G (h.set id (some ao)) (dh.set id (some o))/\∀i r,aQ h G i=some r->aQ (h.set id (some ao)) G i=some r:=by
 have hm:∀i r,aQ h G i=some r->aQ (h.set id (some ao)) G i=some r:=jg λi hg=>⟨hg,bD _ _ _ _ (λhe:i=id=>h2 (he▸hg))⟩;refine⟨⟨x.fD.mono hm,by rw[ab.aY,ae.aY,x.next],λj p hp=> ?_,λj hg=> ?_⟩,hm⟩
 . rw[ae.bu]at hp
   split at hp
   . rename_i hj;cases hp;subst hj;exact⟨h1,ao,eC _ _ _,hr.mono hm⟩
   . rename_i hj;obtain⟨q1,ao',q2,q3⟩:=x.obj j p hp;exact⟨q1,ao',by rw[bD _ _ _ _ hj];exact q2,q3.mono hm⟩
 . obtain⟨q1,q2⟩:=x.still j hg;exact⟨q1,by rw[ae.bu,if_neg (λhe:j=id=>h2 (he▸hg))];exact q2⟩
def Kp.put{G0:Nat->Prop}{h0:ab}{d0:ae}(k:Kp G0 h0 d0 G h dh){id:Nat}(aU:h0.next<=id)(ao:Option bP)(o:Option bF):Kp G0 h0 d0 G (h.set id ao) (dh.set id o):=
 ⟨k.next,λi hi hd=>by rw[bD _ _ _ _ aa,ae.bu,if_neg aa];exact k.same i hi hd,k.up,k.bl⟩
def GF{G0:Nat->Prop}{h0:ab}{d0:ae}(m:Nat)(x:bO G h dh)(k:Kp G0 h0 d0 G h dh):∀{p:dz} {dp:fB},aV (px (aQ h G)) p dp->(∀q∈dp,h0.next<=q.2.1/\q.2.1<h.next/\¬G q.2.1)->
 bO G (cr h m p) (fL dh m dp)/\Kp G0 h0 d0 G (cr h m p) (fL dh m dp)/\(∀i r,aQ h G i=some r->aQ (cr h m p) G i=some r)/\(cr h m p).next=h.next
 |_,_,.nil,_=>⟨x,k,λ_ _ h=>h,rfl⟩
 |(i,id,ao)::p,(j,aH,o)::dp,.cons ⟨h1,h2,h3⟩ h4,hq=>by
  simp only at h1 h2 h3;subst h1 h2;obtain⟨q1,q2,q3⟩:=hq (i,id,o) aw;obtain⟨k1,k2,k3,k4⟩:=GF m x k h4 λq an=>hq q (RK _ an);rw[AF];simp only[fL]
  split
  . obtain⟨r1,r2⟩:=k1.put (id:=id) (by rw[k4];exact q2) q3 (h3.mono k3);exact⟨r1,k2.put q1 _ _,λa r hr=>r2 a r (k3 a r hr),by rw[ab.aY];exact k4⟩
  . exact⟨k1,k2,k3,k4⟩
def GG{G0:Nat->Prop}{h0:ab}{d0:ae}(x:bO G h dh)(k:Kp G0 h0 d0 G h dh):∀{p:dz} {dp:fB},aV (px (aQ h G)) p dp->(∀q∈dp,h0.next<=q.2.1/\q.2.1<h.next/\¬G q.2.1)->
 bO G (fw h p) (mn dh dp)/\Kp G0 h0 d0 G (fw h p) (mn dh dp)/\(∀i r,aQ h G i=some r->aQ (fw h p) G i=some r)/\(fw h p).next=h.next
 |_,_,.nil,_=>⟨x,k,λ_ _ h=>h,rfl⟩
 |(i,id,ao)::p,(j,aH,o)::dp,.cons ⟨h1,h2,h3⟩ h4,hq=>by
  simp only at h1 h2 h3;subst h1 h2;obtain⟨q1,q2,q3⟩:=hq (i,id,o) aw;obtain⟨k1,k2,k3,k4⟩:=GG x k h4 λq an=>hq q (RK _ an);rw[FN];simp only[mn];obtain⟨r1,r2⟩:=k1.put (id:=id) (by rw[k4];exact q2) q3 (h3.mono k3);exact⟨r1,k2.put q1 _ _,λa r hr=>r2 a r (k3 a r hr),by rw[ab.aY];exact k4⟩
def yg(h:ab)(m b:Nat):∀(p:dz),(∀q∈p,q.2.1≠b)->(cr h m p).get b=h.get b
 |[],_=>rfl
 |(i,id,o)::p,hq=>by
  rw[AF];have ih:=yg h m b p λq an=>hq q (RK _ an)
  split
  . rw[bD _ _ _ _ (Ne.symm (hq (i,id,o) aw))];exact ih
  . exact ih
def yh(h:ae)(m b:Nat):∀(p:fB),(∀q∈p,m.testBit q.1=true->q.2.1≠b)->(fL h m p).get b=h.get b
 |[],_=>rfl
 |(i,id,o)::p,hq=>by
  simp only[fL];have ih:=yh h m b p λq an=>hq q (RK _ an)
  split
  . rename_i hm;rw[ae.bu,if_neg (Ne.symm (hq (i,id,o) aw hm))];exact ih
  . exact ih
structure PJ where
 c:s9
 m:Nat
 dy:Option (Nat×Nat)
 bl:Bool
def PJ.pi(p:PJ):PI:=⟨p.c,p.m,p.dy⟩
def writes(ops:List Oper)(pl:List PJ)(s:Tmp):Bool:=(ops.zip pl).all λq=>match q.1.dst with|some d=> !Nat.beq d s||q.2.bl|none=>true
def sg(ops:List Oper)(pl:List PJ)(o:Oper)(p:PJ):Bool:=
 (!p.bl||match p.c with|.alloc=>true|.pure|.read=>(slotsOf o.op).all (writes ops pl)|_=>false)&&(match p.dy with|none=>true|some _=>p.bl&&o.dst.isSome&&decide (p.c=.read))
def vN(ops:List Oper)(pl:List PJ):Bool:=rT ops true (pl.map PJ.pi)&&(ops.zip pl).all λq=>sg ops pl q.1 q.2
def si(N0:Nat)(T:List Nat):Option Nat->Prop
 |none=>True
 |some b=>b<N0/\b∉T
def kO(dy:Option (Nat×Nat))(b:Option Nat)(L:List (Nat×Nat)):List (Nat×Nat):=match dy,b with
 |some x,some b=>(b,x.1+x.2-1)::L
 |_,_=>L
def df(e:Env)(ops:List Oper)(N0:Nat):List Oper->List PJ->Nat->Nat->Nat->Tr DV->Nat->List FuncId->ae->fB->List Nat->List (Nat×Nat)->(DS->Prop)->Prop
 |[],_,_,_,_,t,n,dd,h,aA,_,_,K=>K ⟨t,n,dd,mn h aA⟩
 |_::_,[],_,_,_,_,_,_,_,_,_,_,_=>False
 |o::r,p::pl,i,id,c,t,n,dd,h,aA,T,L,K=>dA o.dst n/\aO (iW ops t o) λw=>match w with
  |true=>match p.c with
   |.pure=>aO (ba e h t o.op) λv=>df e ops N0 r pl (i+1) id c (cH o.dst v t) n dd h aA T L K
   |.read=>aO (ba e (fL h p.m aA) t o.op) λv=>(p.bl=true->si N0 T (dK e t o.op))/\df e ops N0 r pl (i+1) id c (cH o.dst v t) n dd h aA T (kO p.dy (dK e t o.op) L) K
   |.alloc=>aO (dX e t o.op) λq=>df e ops N0 r pl (i+1) (id+1) c (cH o.dst (q.2 id) t) n dd h ((i,id,q.1)::aA) T L K
   |.effect=>cu e true o.op t dd (fL h p.m aA) λv dd h T'=>(∀q∈L,c+1<=q.2->q.1∉T')/\df e ops N0 r pl (i+1) id (c+1) (cH o.dst v t) n dd h (jj p.m aA) (T'++T) L K
   |.bad=>False
  |false=>match p.c with
   |.alloc=>df e ops N0 r pl (i+1) (id+1) c (cH o.dst cU t) n dd h aA T L K
   |.effect=>df e ops N0 r pl (i+1) id (c+1) (cH o.dst cU t) n dd h aA T L K
   |.bad=>False
   |_=>df e ops N0 r pl (i+1) id c (cH o.dst cU t) n dd h aA T L K
def qC(e:Env)(ops:List Oper)(pl:List PJ)(G0:Nat->Prop)(h0:ab)(L:List (Nat×Nat))(tc:Tr Value)(k:Nat)(tk:Tr Value):Prop:=
 ∀o p,ops[k]? =some o->pl[k]? =some p->p.dy≠none->cX ops ⟨tk,0,[],{m:=.nil,next:=0}⟩ o=some false\/(cX ops ⟨tk,0,[],{m:=.nil,next:=0}⟩ o=some true/\∃d v,o.dst=some d/\tc.get d=some v/\
  (∀b,iY e tk o.op=some b->G0 b\/∃x,p.dy=some x/\(b,x.1+x.2-1)∈L)/\∀g,(∀b,iY e tk o.op=some b->g.get b=h0.get b)->bI e g tk o.op=some v)
structure DI(e:Env)(ops:List Oper)(af:List PJ)(G0:Nat->Prop)(h0:ab)(d0:ae)(na:Nat)(i id c:Nat)(t:Tr Value)(dt:Tr DV)(G:Nat->Prop)(h:ab)(dh:ae)(aA all:dz)(dp:fB)(st:List (Nat×ab))(sn:List (Tr Value))(T:List Nat)(L:List (Nat×Nat)):Prop where
 x:bO G h dh
 k:Kp G0 h0 d0 G h dh
 nx:h0.next+na<=h.next
 lo:h0.next<=id
 pe:aV (px (aQ h G)) aA dp
 pid:∀q∈dp,h0.next<=q.2.1/\q.2.1<id/\q.2.1<h.next/\dh.get q.2.1=none/\¬G q.2.1
 pw:∀q∈dp,∀q'∈dp,q.2.1=q'.2.1->q.1=q'.1
 res:∀j,id<=j->j<h0.next+na->dh.get j=none/\¬G j
 al:∀q∈all,h0.next<=q.2.1
 ht:TD (aQ h G) t dt
 tO:∀s d,(∀k o p,k<i->ops[k]? =some o->af[k]? =some p->o.dst=some s->p.bl=true)->dt.get s=some d->∃u,t.get s=some u/\Rel (aQ h0 G0) u d
 ag:∀b,b<h0.next->b∉T->h.get b=h0.get b/\dh.get b=d0.get b
 ls:∀y∈L,∀(j:Nat) z,st.reverse[j]? =some z->j<=y.2->z.2.get y.1=h0.get y.1
 hd:∃m r,st=(m,h)::r
 sl:st.length=c+1
 st:∀q∈st,∀b,b<h0.next->(b∉T\/G0 b)->q.2.get b=h0.get b
 LT:∀x∈L,x.1<h0.next
 rd:∀k tk,sn.reverse[k]? =some tk->qC e ops af G0 h0 L t k tk
 sn:sn.length=i
def Wf{t1 t2:Tr DV}{op:Op}(h:∀s∈slotsOf op,t1.get s=t2.get s):dK e t1 op=dK e t2 op:=by
 cases op with
 |load ty a=>simp only[dK,e8 (e:=e) (o:=a) h]
 |convert s d a=>simp only[dK,e8 (e:=e) (o:=a) h]
 |lookup ty a b ok=>
  simp only[slotsOf,qG]at h;simp only[dK,e8 (e:=e) (o:=a) λs hs=>h s (.inl hs)]
 |slice ty x l hi m=>
  simp only[slotsOf,qG]at h;simp only[dK,e8 (e:=e) (o:=x) λs hs=>h s (.inl (.inl (.inl hs)))]
 |call c=>simp only[dK,vL (e:=e) (l:=c.args.toList) h]
 |_=>rfl
def sj(dt:Tr DV):List Tmp->Tr DV
 |[]=>.nil
 |s::l=>(sj dt l).set s (dt.get s)
def BF(dt:Tr DV)(s:Tmp):∀(l:List Tmp),(sj dt l).get s=if s∈l then dt.get s else none
 |[]=>by simp[sj,Tr.get_nil]
 |a::l=>by
  simp only[sj,Tr.bu,BF dt s l,yB];by_cases h1:s=a
  . subst h1;simp
  . simp[h1]
def Wg{ops:List Oper}{pl:List PJ}{s:Tmp}(hw:writes ops pl s=true){k:Nat}{o:Oper}{p:PJ}(ho:ops[k]? =some o)(hp:pl[k]? =some p)(hd:o.dst=some s):p.bl=true:=by
 have hz:(o,p)∈ops.zip pl:=by
  refine RC (i:=k) ?_;rw[YN];exact⟨ho,hp⟩
 have:=RW.1 hw _ hz;simp only[hd,Nat.beq_refl,afA,Bool.false_or]at this;exact this
section
variable {ops:List Oper} {af:List PJ} {G0:Nat->Prop} {h0:ab} {d0:ae} {na i id c:Nat} {aA all:dz} {dp:fB} {st:List (Nat×ab)} {sn:List (Tr Value)} {T:List Nat} {L:List (Nat×Nat)}
def DI.bl(q:DI e ops af G0 h0 d0 na i id c t dt G h dh aA all dp st sn T L)(x0:bO G0 h0 d0){op:Op}{m:Nat}(hs:(slotsOf op).all (writes ops af)=true){d:DV}(hd:ba e (fL dh m dp) dt op=some d)(hc:si h0.next T (dK e dt op)):
 ∃u,bI e h0 t op=some u/\Rel (aQ h0 G0) u d/\(∀b,iY e t op=some b->(dK e dt op=some b/\b<h0.next/\b∉T)\/G0 b)/\∀g,(∀b,iY e t op=some b->g.get b=h0.get b)->bI e g t op=some u:=by
 have ah:∀s∈slotsOf op,(sj dt (slotsOf op)).get s=dt.get s:=λs hs=>by rw[BF,if_pos hs]
 have ht:TD (aQ h0 G0) t (sj dt (slotsOf op)):=⟨x0.fD,λs v hv=>by
  rw[BF]at hv
  split at hv
  . rename_i hm;exact q.tO s v (λk o p _ ho hp aI=>Wg (RW.1 hs s hm) ho hp aI) hv
  . cases hv⟩
 have ak:∀b,dK e dt op=some b->b<h0.next/\b∉T:=λb hb=>by rw[hb]at hc;exact hc
 have aC:ba e d0 (sj dt (slotsOf op)) op=some d:=by
  rw[V5 ah,<-hd];refine Wc λb hb=> ?_;obtain⟨h1,h2⟩:=ak b hb;rw[yh _ _ _ _ λy hy _ he=>by have:=(q.pid y hy).1;omega];exact((q.ag b h1 h2).2).symm
 obtain⟨u,h1,h2⟩:=x4 x0 ht aC;refine⟨u,h1,h2,λb hb=> ?_,λg hg=> ?_⟩
 . rcases We ht aC hb with h3|⟨r,h3⟩
   . rw[Wf ah]at h3;exact .inl ⟨h3,ak b h3⟩
   . exact .inr (qs h3).1
 . rw[<-h1];exact Wb hg
def qC.mono{L':List (Nat×Nat)}{tc aG:Tr Value}{k:Nat}{tk:Tr Value}(hL:∀b∈L,b∈L')(ht:∀o d,ops[k]? =some o->o.dst=some d->aG.get d=tc.get d)(h:qC e ops af G0 h0 L tc k tk):qC e ops af G0 h0 L' aG k tk:=λo p ho hp aK=>by
 rcases h o p ho hp aK with h1|⟨h1,d,v,h2,h3,h4,h5⟩
 . exact .inl h1
 . exact .inr ⟨h1,d,v,h2,by rw[ht o d ho h2];exact h3,λb hb=>(h4 b hb).imp (λz=>z) λ⟨z,z1,z2⟩=>⟨z,z1,hL _ z2⟩,h5⟩
def Wh{o:Oper}{p:PI}{r:List Oper}{pl:List PI}{n:Nat}{ds:List Deferred}{K:cG->Prop}{w:Bool}(aq:dA o.dst n)(hw:cX ops ⟨t,n,ds,h⟩ o=some w)
 (hk:match w,p.c with
  |true,.pure=>aO (bI e h t o.op) λv=>cA e none ops r pl (i+1) id (bL o.dst v t) n ds h aA all st (t::sn) K
  |true,.read=>aO (bI e (cr h p.m aA) t o.op) λv=>cA e none ops r pl (i+1) id (bL o.dst v t) n ds h aA all st (t::sn) K
  |true,.alloc=>aO (cT e t o.op) λq=>cA e none ops r pl (i+1) (id+1) (bL o.dst (q.2 id) t) n ds h ((i,id,q.1)::aA) ((i,id,q.1)::all) st (t::sn) K
  |true,.effect=>bK e none o.op t ds (cr h p.m aA) λv ds h=>cA e none ops r pl (i+1) id (bL o.dst v t) n ds h (aA.filter λq=> !p.m.testBit q.1) all ((Nat.lor ((st.head?.map (·.1)).getD 0) p.m,h)::st) (t::sn) K
  |true,.bad=>False
  |false,.effect=>cA e none ops r pl (i+1) id (bL o.dst undef t) n ds h aA all (((st.head?.map (·.1)).getD 0,h)::st) (t::sn) K
  |false,.alloc=>cA e none ops r pl (i+1) (id+1) (bL o.dst undef t) n ds h aA all st (t::sn) K
  |false,.bad=>False
  |false,_=>cA e none ops r pl (i+1) id (bL o.dst undef t) n ds h aA all st (t::sn) K):
 cA e none ops (o::r) (p::pl) i id t n ds h aA all st sn K:=by
 obtain⟨c,m,dy⟩:=p;refine⟨aq, ?_⟩;unfold cX at hw;cases hg:o.guard with
 |none=>
  rw[hg]at hw;simp only[E2]at hw;subst hw;cases c<;>exact hk
 |some jw=>
  obtain⟨j,want⟩:=jw;rw[hg]at hw;simp only at hw⊢;cases hd:(ops[j]?).bind (·.dst)with
  |none=>simp[hd]at hw
  |some d=>
   simp only[hd]at hw;refine⟨d,rfl, ?_⟩;cases ht:t.get d with
   |none=>simp[ht]at hw
   |some g=>
    refine⟨g,ht, ?_⟩;cases g with
    |bool b=>
     simp only[ht,E2]at hw;refine⟨λhb=> ?_,λhb=> ?_⟩
     . have:w=true:=by rw[<-hw,hb];simp
       subst this;cases c<;>exact hk
     . have:w=false:=by rw[<-hw,hb];cases want<;>rfl
       subst this;cases c<;>exact hk
    |tuple vs=>
     simp only[ht,E2]at hw;subst hw;cases c<;>exact hk
    |_=>simp[ht]at hw
def BG(m:Nat):∀{p:dz} {dp:fB},aV (px R) p dp->aV (px R) (p.filter λq=> !m.testBit q.1) (jj m dp)
 |_,_,.nil=>.nil
 |_,_,.cons (a:=a) (b:=b) h1 h2=>by
  simp only[jj,yy,h1.i]
  split
  . exact .cons h1 (BG m h2)
  . exact BG m h2
def px.mono{R':Rows}(hR:∀i r,R i=some r->R' i=some r){x:Nat×Nat×bP}{y:Nat×Nat×bF}(h:px R x y):px R' x y:=⟨h.i,h.id,h.o.mono hR⟩
def BH(ops:List Oper):Prop:=∀(j k:Nat) o p d,ops[j]? =some o->ops[k]? =some p->j≠k->o.dst=some d->p.dst≠some d
def Wi{ms:List Nat}(h:qa ops ms=true):BH ops:=by
 intro j k o p d ho hp aL hd az;simp only[qa,FQ,RW]at h;obtain⟨⟨⟨⟨_,_⟩,h3⟩,_⟩,_⟩:=h;have m1:(o,j)∈ops.zipIdx:=by rw[afj];simpa using ho
 have m2:(p,k)∈ops.zipIdx:=by rw[afj];simpa using hp
 have:=h3 _ m1;simp only[hd]at this;have:=RW.1 this _ m2;have hb:afv j k=false:=by
  cases hb:afv j k with
  |false=>rfl
  |true=>exact absurd (YT hb) aL
 simp only[hb,az,Nat.beq_refl,afA,Bool.false_and,Bool.or_self]at this;cases this
def BI{α:Type}{l:List α}{a x:α}{k:Nat}(h:(l++[a])[k]? =some x):l[k]? =some x\/(k=l.length/\x=a):=by
 rcases adv k l.length with hk|hk
 . rw[List.getElem?_append_left hk]at h;exact .inl h
 . rw[afB hk]at h;have:k-l.length=0:=by
    rcases Nat.eq_zero_or_pos (k-l.length)with h0|h0
    . exact h0
    . rw[List.getElem?_eq_none (by simp;omega)]at h;cases h
   rw[this]at h;simp only[afF,E2]at h;exact .inr ⟨aa,h.symm⟩
def DI.next(q:DI e ops af G0 h0 d0 na i id c t dt G h dh aA all dp st sn T L)(av:BH ops){o:Oper}{p:PJ}(ho:ops[i]? =some o)(hp:af[i]? =some p){u:Value}{d:DV}(hr:Rel (aQ h G) u d)(hold:p.bl=true->Rel (aQ h0 G0) u d)
 {L':List (Nat×Nat)} (hL:∀b∈L,b∈L') (aM:∀x∈L',x.1<h0.next) (aN:∀y∈L',∀(j:Nat) z,st.reverse[j]? =some z->j<=y.2->z.2.get y.1=h0.get y.1) (aS:qC e ops af G0 h0 L' (bL o.dst u t) i t):
 DI e ops af G0 h0 d0 na (i+1) id c (bL o.dst u t) (cH o.dst d dt) G h dh aA all dp st (t::sn) T L' where
 x:=q.x
 k:=q.k
 nx:=q.nx
 lo:=q.lo
 pe:=q.pe
 pid:=q.pid
 pw:=q.pw
 res:=q.res
 al:=q.al
 ht:=q.ht.put o.dst hr
 tO:=by
  intro s c hs hc;have rest:dt.get s=some c->∃w,t.get s=some w/\Rel (aQ h0 G0) w c:=λhc=>q.tO s c (λk o p hk=>hs k o p aa) hc;cases ai:o.dst with
  |none=>rw[ai]at hc;exact rest hc
  |some s'=>
   rw[ai]at hc;simp only[cH,Tr.bu]at hc;simp only[bL,Tr.bu]
   split at hc
   . rename_i he;cases hc;exact⟨u,by rw[if_pos he],hold (hs i o p aa ho hp (by rw[ai,he]))⟩
   . rename_i he;rw[if_neg he];exact rest hc
 ag:=q.ag
 st:=q.st
 LT:=aM
 ls:=aN
 hd:=q.hd
 sl:=q.sl
 rd:=by
  intro k tk hk;rw[Zf]at hk;rcases BI hk with h1|⟨h1,rfl⟩
  . have aW:k<i:=by
     have:=(adr.1 h1).1;rw[KE,q.sn]at this;exact this
    refine(q.rd k tk h1).mono hL λo' d' aT az=> ?_;cases ai:o.dst with
    |none=>rfl
    |some s'=>
     have:d'≠s':=λhe=>av k i o' o d' aT ho aa az (by rw[ai,he]);simp only[bL,Tr.bu,if_neg this]
  . rw[KE,q.sn]at h1;subst h1;exact aS
 sn:=by simp[q.sn]
end
end Go.aD
end
noncomputable section
namespace Go.aD
variable {e:Env}
section
variable {ops:List Oper} {an:List PJ} {G0:Nat->Prop} {h0:ab} {d0:ae} {na:Nat}
def BJ{o:Oper}{p:PJ}(h:sg ops an o p=true)(hold:p.bl=true):p.c=.alloc\/((p.c=.pure\/p.c=.read)/\(slotsOf o.op).all (writes ops an)=true):=by
 simp only[sg,hold,afA,Bool.false_or,FQ]at h;cases hc:p.c with
 |alloc=>exact .inl rfl
 |pure=>rw[hc]at h;exact .inr ⟨.inl rfl,h.1⟩
 |read=>rw[hc]at h;exact .inr ⟨.inr rfl,h.1⟩
 |effect=>rw[hc]at h;simp at h
 |bad=>rw[hc]at h;simp at h
def vO{o:Oper}{p:PJ}(h:sg ops an o p=true)(aW:p.dy≠none):p.bl=true/\(∃d,o.dst=some d)/\p.c=.read:=by
 simp only[sg,FQ]at h;cases hd:p.dy with
 |none=>exact absurd hd aW
 |some x=>
  simp only[hd,FQ]at h;exact⟨h.2.1.1,afE.1 h.2.1.2,by simpa using h.2.2⟩
def Wj{dy:Option (Nat×Nat)}{b:Option Nat}{L:List (Nat×Nat)}:∀x∈L,x∈kO dy b L:=λx hx=>by
 unfold kO
 split
 . exact RK _ hx
 . exact hx
def df.s(ai:BH ops)(bp:∀(k:Nat) o p,ops[k]? =some o->an[k]? =some p->cls o.op=p.c/\sg ops an o p=true)(x0:bO G0 h0 d0){K:DS->Prop}{n:Nat}:∀(l:List Oper) (pl:List PJ) (i id c':Nat) (t:Tr Value) (dt:Tr DV) (ds:List Deferred) (dd:List FuncId) (G:Nat->Prop) (h:ab) (dh:ae) (aA all:dz) (dp:fB) (st:List (Nat×ab)) (sn:List (Tr Value)) (T:List Nat) (L:List (Nat×Nat)),
 i<=ops.length->l=ops.drop i->pl=an.drop i->id+(l.filter λo=>cls o.op==.alloc).length=h0.next+na->aV sa ds dd->DI e ops an G0 h0 d0 na i id c' t dt G h dh aA all dp st sn T L->df e ops h0.next l pl i id c' dt n dd dh dp T L K->
 cA e none ops l (pl.map PJ.pi) i id t n ds h aA all st sn (λx=>(∃L:List (Nat×Nat),(∀(k:Nat) tk,x.di.reverse[k]? =some tk->qC e ops an G0 h0 L x.s.t k tk)/\x.di.length=ops.length/\(∀q∈x.all,h0.next<=q.2.1)/\(∀q∈x.bJ,∀b,G0 b->q.2.get b=h0.get b)/\(∀y∈L,y.1<h0.next)/\(∀y∈L,∀(j:Nat) q,x.bJ.reverse[j]? =some q->j<=y.2->q.2.get y.1=h0.get y.1))/\nf G0 h0 d0 K {x.s with h:=fw x.s.h x.aA}):=by
 intro l
 induction l with
 |nil=>
  intro pl i id c' t dt ds dd G h dh aA all dp st sn T L bq hl aH _ aG q hs;have hi:ops.length<=i:=by
   have:=congrArg List.length hl;simp at this;omega
  rw[FJ];have hlen:sn.length=ops.length:=by rw[q.sn];omega
  obtain⟨k1,k2,k3,k4⟩:=GG q.x q.k q.pe λy hy=>⟨(q.pid y hy).1,(q.pid y hy).2.2.1,(q.pid y hy).2.2.2.2⟩;exact⟨⟨L,q.rd,hlen,q.al,λy hy b hb=>q.st y hy b (x0.still b hb).1 (.inr hb),q.LT,q.ls⟩,⟨dt,n,dd,mn dh dp⟩,G,⟨rfl,q.ht.mono k3,aG,k1⟩,k2,by simpa[df]using hs⟩
 |cons o r ih=>
  intro pl i id c' t dt ds dd G h dh aA all dp st sn T L bq hl aH ah aG q hs;cases pl with
  |nil=>simp[df]at hs
  |cons p pl=>
   have aI:i<ops.length:=by
    rcases adv i ops.length with h1|h1
    . exact h1
    . rw[afJ h1]at hl;cases hl
   have ho:ops[i]? =some o:=by
    have:(ops.drop i)[0]? =some o:=by rw[<-hl];rfl
    simpa[afC]using this
   have hp:an[i]? =some p:=by
    have:(an.drop i)[0]? =some p:=by rw[<-aH];rfl
    simpa[afC]using this
   have aJ:r=ops.drop (i+1):=by rw[<-afL,<-hl];rfl
   have ak:pl=an.drop (i+1):=by rw[<-afL,<-aH];rfl
   obtain⟨hc,aK⟩:=bp i o p ho hp;obtain⟨aX,w,hw,hs⟩:=hs;have bs:∀{ds:List Deferred} {g:ab} {m:Nat},cX ops ⟨t,m,ds,g⟩ o=some w:=A8 q.ht hw;rw[List.map_cons];refine Wh aX bs ?_;have bt:∀y∈dp,h0.next<=y.2.1/\y.2.1<h.next/\¬G y.2.1:=λy hy=>⟨(q.pid y hy).1,(q.pid y hy).2.2.1,(q.pid y hy).2.2.2.2⟩;have aM:∀b,G0 b->b<h0.next/\h.get b=h0.get b:=λb hb=>⟨(x0.still b hb).1,(q.k.same b (x0.still b hb).1 (x0.still b hb).2).1⟩;have bZ:∀b,b<h0.next->(b∉T\/G0 b)->h.get b=h0.get b:=λb hb aq=>by
    rcases aq with h1|h1
    . exact(q.ag b hb h1).1
    . exact(aM b h1).2
   obtain⟨kx,kk,km,kn⟩:=GF p.m q.x q.k q.pe bt;have bj:∀b,b<h0.next->(cr h p.m aA).get b=h.get b:=λb hb=>yg _ _ _ _ λy hy he=>by
    obtain⟨j,hj⟩:=ab8 hy;obtain⟨y',bw,bA⟩:=q.pe.get j y hj;have:=(q.pid y' (RC bw)).1;rw[<-bA.id]at this;omega
   have bD:p.dy=none->∀{L':List (Nat×Nat)} {tc:Tr Value},qC e ops an G0 h0 L' tc i t:=λaW L' tc o' p' av az aC=>by
    rw[hp]at az;cases az;exact absurd aW aC
   cases w with
   |true=>
    obtain⟨c,m,dy,bl⟩:=p;simp only at hs hc⊢;cases c with
    |bad=>exact hs.elim
    |pure=>
     obtain⟨v,h1,h2⟩:=hs;obtain⟨u,h3,h4⟩:=x4 q.x q.ht h1;refine⟨u,h3, ?_⟩;have ad:id+(r.filter λo=>cls o.op==.alloc).length=h0.next+na:=by
      rw[yy,hc]at ah;simpa using ah
     refine ih pl (i+1) id c' _ _ ds dd G h dh aA all dp st (t::sn) T L aI aJ ak ad aG (q.next ai ho hp h4 (λhold=> ?_) (λ_ hb=>hb) q.LT q.ls ?_) h2
     . rcases BJ aK hold with h5|⟨_,h5⟩
       . cases h5
       . have aC:ba e (fL dh 0 dp) dt o.op=some v:=by rw[<-h1];exact V7 hc
         obtain⟨u',h6,h7,_,_⟩:=q.bl x0 (m:=0) h5 aC (by
          have:dK e dt o.op=none:=by
           cases aY:o.op with
           |load ty a=>rw[aY]at hc;cases hc
           |lookup ty m k ok=>rw[aY]at hc;cases hc
           |slice ty x lo hi mx=>rw[aY]at hc;cases hc
           |convert s d x=>rw[aY]at hc;cases hc
           |call c=>rw[aY]at hc;simp only[cls]at hc;split at hc<;>cases hc
           |_=>rfl
          rw[this];trivial)
         rw[V6 (h2:=h) hc,h3]at h6;cases h6;exact h7
     . intro o' p' av az aC;rw[ho]at av;rw[hp]at az;cases av;cases az;cases(vO aK aC).2.2
    |read=>
     obtain⟨v,h1,bR,h2⟩:=hs;have bk:TD (aQ (cr h m aA) G) t dt:=q.ht.mono km;obtain⟨u,h3,h4⟩:=x4 kx bk h1;refine⟨u,h3, ?_⟩;have ad:id+(r.filter λo=>cls o.op==.alloc).length=h0.next+na:=by
      rw[yy,hc]at ah;simpa using ah
     have hR:Rel (aQ h G) u v:=by
      refine h4.mono λb rr hb=> ?_;obtain⟨g1,wr,g2⟩:=qs hb;refine r9 (wr:=wr) g1 ?_;rw[<-g2];refine(yg _ _ _ _ λy hy he=> ?_).symm;obtain⟨j,hj⟩:=ab8 hy;obtain⟨y',bw,bA⟩:=q.pe.get j y hj;have:=(q.pid y' (RC bw)).2.2.2.2;rw[<-bA.id,he]at this;exact this g1
     have hold:bl=true->∃bE:(slotsOf o.op).all (writes ops an)=true,True:=λho=>by
      rcases BJ aK ho with h5|⟨_,h5⟩
      . cases h5
      . exact⟨h5,trivial⟩
     have again:bl=true->Rel (aQ h0 G0) u v/\(∀b,iY e t o.op=some b->(dK e dt o.op=some b/\b<h0.next/\b∉T)\/G0 b)/\∀g,(∀b,iY e t o.op=some b->g.get b=h0.get b)->bI e g t o.op=some u:=λho=>by
      obtain⟨h5,_⟩:=hold ho;obtain⟨u',h6,h7,h8,h9⟩:=q.bl x0 (m:=m) h5 h1 (bR ho);have:bI e (cr h m aA) t o.op=some u':=h9 _ λb hb=>by
       rcases h8 b hb with⟨_,a1,a2⟩|a1
       . rw[bj b a1];exact(q.ag b a1 a2).1
       . rw[bj b (aM b a1).1];exact(aM b a1).2
      rw[h3]at this;cases this;exact⟨h7,h8,h9⟩
     have bS:∀x∈kO dy (dK e dt o.op) L,x.1<h0.next/\(x∈L\/x.1∉T):=λx hb=>by
      unfold kO at hb
      split at hb
      . rename_i z b' hz;rcases yB.1 hb with rfl|hb
        . have ho:bl=true:=(vO aK aw).1;have:=bR ho;rw[hz]at this;exact⟨this.1,.inr this.2⟩
        . exact⟨q.LT x hb,.inl hb⟩
      . exact⟨q.LT x hb,.inl hb⟩
     have b0:∀x∈kO dy (dK e dt o.op) L,∀j y,st.reverse[j]? =some y->j<=x.2->y.2.get x.1=h0.get x.1:=λx hx j y hy hj=>by
      obtain⟨a1,a2⟩:=bS x hx;rcases a2 with a2|a2
      . exact q.ls x a2 j y hy hj
      . exact q.st y (afM.1 (RC hy)) x.1 a1 (.inl a2)
     refine ih pl (i+1) id c' _ _ ds dd G h dh aA all dp st (t::sn) T _ aI aJ ak ad aG (q.next ai ho hp hR (λho=>(again ho).1) Wj (λx hx=>(bS x hx).1) b0 ?_) h2;intro o' p' av az aC;rw[ho]at av;rw[hp]at az;cases av;cases az;obtain⟨hold,⟨d,hd⟩,_⟩:=vO aK aC;obtain⟨h7,h8,h9⟩:=again hold;refine .inr ⟨bs,d,u,hd,by rw[hd];simp[bL,Tr.bu],λb hb=> ?_,h9⟩;rcases h8 b hb with⟨a0,_,_⟩|a1
     . right;unfold kO;rw[a0];cases dy with
       |none=>exact absurd rfl aC
       |some z=>exact⟨z,rfl,aw⟩
     . exact .inl a1
    |alloc=>
     obtain⟨⟨ob,f⟩,h1,h2⟩:=hs;obtain⟨ao,af,h3,h4,h5⟩:=Gc q.ht h1;refine⟨(ao,af),h3, ?_⟩;have ad:id+1+(r.filter λo=>cls o.op==.alloc).length=h0.next+na:=by
      rw[yy,hc]at ah;simp only[beq_self_eq_true,if_true,Xy]at ah;omega
     have bF:id<h0.next+na:=aa;have q':=q.next ai ho hp (h5 (aQ h G) id) (λ_=>h5 _ _) (λ_ hb=>hb) q.LT q.ls (λo' p' av az aC=>by
      rw[ho]at av;rw[hp]at az;cases av;cases az;cases(vO aK aC).2.2)
     refine ih pl (i+1) (id+1) c' _ _ ds dd G h dh _ _ ((i,id,ob)::dp) st (t::sn) T L aI aJ ak ad aG {q' with lo:=(by have:=q.lo;omega),pe:=.cons ⟨rfl,rfl,h4⟩ q.pe,pid:= ?_,pw:= ?_,res:=λj hj aU=>q.res j aa aU,al:= ?_} h2
     . intro y hy;rcases yB.1 hy with rfl|hy
       . have hr:=q.res id (afx _) bF;have:=q.nx;exact⟨q.lo,Nat.lt_succ_self _,by simp only;omega,hr.1,hr.2⟩
       . obtain⟨a1,a2,a3,a4,a5⟩:=q.pid y hy;exact⟨a1,aa,a3,a4,a5⟩
     . intro y hy z hz he;rcases yB.1 hy with rfl|hy<;>rcases yB.1 hz with rfl|hz
       . rfl
       . have:=(q.pid z hz).2.1;simp only at he;omega
       . have:=(q.pid y hy).2.1;simp only at he;omega
       . exact q.pw y hy z hz he
     . intro y hy;rcases yB.1 hy with rfl|hy
       . exact q.lo
       . exact q.al y hy
    |effect=>
     have ad:id+(r.filter λo=>cls o.op==.alloc).length=h0.next+na:=by
      rw[yy,hc]at ah;simpa using ah
     have aL:bl=false:=by
      cases bl with
      |false=>rfl
      |true=>rcases BJ aK rfl with h5|⟨h5|h5,_⟩<;>cases h5
     have bG:dy=none:=by
      cases dy with
      |none=>rfl
      |some z=>have:=(vO aK aw).1;rw[aL]at this;cases this
     have bk:TD (aQ (cr h m aA) G) t dt:=q.ht.mono km;refine bK.mono ?_ (cu.x (ar:=true) kx bk aG hs);rintro u b3 h' ⟨d,b5,bH,G',T',k1,k2,k3,k4,k5,k6,k7⟩;have bT:=k2.aQ kx;have b6:∀i r,aQ h G i=some r->aQ h' G' i=some r:=λi r hr=>bT i r (km i r hr);have bW:∀j,h0.next<=j->dh.get j=none->(∀y∈dp,m.testBit y.1=true->y.2.1≠j)->(fL dh m dp).get j=none:=λj _ hj hy=>by rw[yh _ _ _ _ hy];exact hj
     have bb:∀j,j<h.next->¬G j->(fL dh m dp).get j=none->bH.get j=none/\¬G' j:=λj hj hg hd=>by
      refine⟨(k2.same j (by rw[kn];exact hj) hd).2,λb7=> ?_⟩;rcases k2.bl j (by rw[kn];exact hj) b7 with h1|h1
      . exact hg h1
      . rw[hd]at h1;cases h1
     have aS:∀y∈jj m dp,y∈dp/\m.testBit y.1=false:=λy hy=>by
      simp only[jj,afN,Bool.not_eq_true']at hy;exact hy
     have bc:∀b,b<h0.next->(b∉T'++T\/G0 b)->h'.get b=h0.get b:=λb hb aq=>by
      rcases aq with h1|h1
      . simp only[qG,not_or]at h1;rw[(k5 b (by rw[kn];have:=q.nx;omega) h1.1).1,bj b hb];exact(q.ag b hb h1.2).1
      . exact((kk.trans k2).same b hb (x0.still b h1).2).1
     have b8:=kk.trans k2;have b9:h.next<=h'.next:=by rw[<-kn];exact k2.next
     have q1:DI e ops an G0 h0 d0 na i id (c'+1) t dt G' h' bH (aA.filter λq=> !m.testBit q.1) all (jj m dp) ((Nat.lor ((st.head?.map (·.1)).getD 0) m,h')::st) sn (T'++T) L:={
      x:=k1
      k:=b8
      nx:=Nat.le_trans q.nx b9
      lo:=q.lo
      pe:=aV.mono (BG m q.pe) λ_ _=>px.mono b6
      pid:=λy hy=>by
       obtain⟨bm,ca⟩:=aS y hy;obtain⟨a1,a2,a3,a4,a5⟩:=q.pid y bm;obtain⟨b1,b2⟩:=bb y.2.1 a3 a5 (bW _ a1 a4 λz hz bX he=>by
        have:=q.pw z hz y bm he;rw[this,ca]at bX;cases bX)
       exact⟨a1,a2,aa,b1,b2⟩
      pw:=λy hy z hz=>q.pw y (aS y hy).1 z (aS z hz).1
      res:=λj hj aU=>by
       obtain⟨a1,a2⟩:=q.res j hj aU;have:=q.nx;have:=q.lo;exact bb j aa a2 (bW _ aa a1 λz hz _ he=>by have:=(q.pid z hz).2.1;omega)
      al:=q.al
      ht:=bk.mono bT
      tO:=q.tO
      ag:=λb hb aq=>by
       refine⟨bc b hb (.inl aq), ?_⟩;simp only[qG,not_or]at aq;rw[(k5 b (by rw[kn];have:=q.nx;omega) aq.1).2,yh _ _ _ _ λz hz _ he=>by have:=(q.pid z hz).1;omega];exact(q.ag b hb aq.2).2
      st:=λy hy b hb aq=>by
       rcases yB.1 hy with rfl|hy
       . exact bc b hb aq
       . refine q.st y hy b hb (aq.imp (λh1=> ?_) λh1=>h1);simp only[qG,not_or]at h1;exact h1.2
      LT:=q.LT
      ls:=λy hy j z hz hj=>by
       rw[Zf]at hz;rcases BI hz with h1|⟨h1,rfl⟩
       . exact q.ls y hy j z h1 hj
       . rw[KE,q.sl]at h1;subst h1;have bm:=q.LT y hy;show h'.get y.1=h0.get y.1;rw[(k5 y.1 (by rw[kn];have:=q.nx;omega) (k6 y hy hj)).1,bj y.1 bm];obtain⟨m0,r0,bd⟩:=q.hd;have aF:st.reverse[c']? =some (m0,h):=by
          have aT:=q.sl;rw[bd]at aT⊢;rw[Zf,afB (by rw[KE];simp at aT;omega),KE];simp at aT;rw[show c'-r0.length=0 by omega];rfl
         exact q.ls y hy c' (m0,h) aF aa
      hd:=⟨_,_,rfl⟩
      sl:=by rw[Xy,q.sl]
      rd:=q.rd
      sn:=q.sn}
     exact ih pl (i+1) id (c'+1) _ _ b3 b5 G' h' bH _ all (jj m dp) _ (t::sn) (T'++T) L aI aJ ak ad k4 (q1.next ai ho hp k3 (λho=>by rw[aL]at ho;cases ho) (λ_ hb=>hb) q1.LT q1.ls (bD bG)) k7
   |false=>
    obtain⟨c,m,dy,bl⟩:=p;simp only at hs hc⊢;have cb:∀{tc:Tr Value},qC e ops an G0 h0 L tc i t:=λo' p' av az aC=>by
     rw[ho]at av;cases av;exact .inl bs
    have q':=q.next ai ho hp (pr (R:=aQ h G)) (λ_=>pr) (λ_ hb=>hb) q.LT q.ls cb;cases c with
    |bad=>exact hs.elim
    |pure=>
     have ad:id+(r.filter λo=>cls o.op==.alloc).length=h0.next+na:=by
      rw[yy,hc]at ah;simpa using ah
     exact ih pl (i+1) id c' _ _ ds dd G h dh aA all dp st (t::sn) T L aI aJ ak ad aG q' hs
    |read=>
     have ad:id+(r.filter λo=>cls o.op==.alloc).length=h0.next+na:=by
      rw[yy,hc]at ah;simpa using ah
     exact ih pl (i+1) id c' _ _ ds dd G h dh aA all dp st (t::sn) T L aI aJ ak ad aG q' hs
    |alloc=>
     have ad:id+1+(r.filter λo=>cls o.op==.alloc).length=h0.next+na:=by
      rw[yy,hc]at ah;simp only[beq_self_eq_true,if_true,Xy]at ah;omega
     exact ih pl (i+1) (id+1) c' _ _ ds dd G h dh aA all dp st (t::sn) T L aI aJ ak ad aG {q' with lo:=(by have:=q.lo;omega),pid:=λy hy=>(by obtain⟨a1,a2,a3⟩:=q.pid y hy;exact⟨a1,aa,a3⟩),res:=λj hj aU=>q.res j aa aU} hs
    |effect=>
     have ad:id+(r.filter λo=>cls o.op==.alloc).length=h0.next+na:=by
      rw[yy,hc]at ah;simpa using ah
     have bd:∀y∈((st.head?.map (·.1)).getD 0,h)::st,∀b,b<h0.next->(b∉T\/G0 b)->y.2.get b=h0.get b:=λy hy b hb aq=>by
      rcases yB.1 hy with rfl|hy
      . exact bZ b hb aq
      . exact q.st y hy b hb aq
     have cc:∀y∈L,∀j z,(((st.head?.map (·.1)).getD 0,h)::st).reverse[j]? =some z->j<=y.2->z.2.get y.1=h0.get y.1:=λy hy j z hz hj=>by
      rw[Zf]at hz;rcases BI hz with h1|⟨h1,rfl⟩
      . exact q.ls y hy j z h1 hj
      . rw[KE,q.sl]at h1;subst h1;obtain⟨m0,r0,bd⟩:=q.hd;have aF:st.reverse[c']? =some (m0,h):=by
         have aT:=q.sl;rw[bd]at aT⊢;rw[Zf,afB (by rw[KE];simp at aT;omega),KE];simp at aT;rw[show c'-r0.length=0 by omega];rfl
        exact q.ls y hy c' (m0,h) aF aa
     exact ih pl (i+1) id (c'+1) _ _ ds dd G h dh aA all dp _ (t::sn) T L aI aJ ak ad aG {q' with st:=bd,ls:=cc,hd:=⟨_,_,rfl⟩,sl:=(by rw[Xy,q.sl])} hs
def GH{tf:Tr Value}{all:dz}{st:List (Nat×ab)}:∀{l:List Oper} {pl:List PI} {ts:List (Tr Value)},pl.length=l.length->ts.length=l.length->(∀(k:Nat) o p t,l[k]? =some o->pl[k]? =some p->ts[k]? =some t->p.dy≠none->
 cX ops ⟨t,0,[],{m:=.nil,next:=0}⟩ o=some false\/(cX ops ⟨t,0,[],{m:=.nil,next:=0}⟩ o=some true/\∃d v,o.dst=some d/\tf.get d=some v/\∀x,p.dy=some x->∀q∈(st.drop x.1).take x.2,bI e (cr q.2 p.m (all.filter λx=> !q.1.testBit x.1)) t o.op=some v))->gL e ops tf all st l pl ts
 |[],_,_,_,_,_=>by simp[gL]
 |o::r,[],_,h1,_,_=>by simp at h1
 |o::r,p::pl,[],_,h2,_=>by simp at h2
 |o::r,p::pl,t::ts,h1,h2,h=>by
  refine⟨?_,GH (by simpa using h1) (by simpa using h2) λk o' p' t' a b c=>h (k+1) o' p' t' (by simpa using a) (by simpa using b) (by simpa using c)⟩;cases hd:p.dy with
  |none=>trivial
  |some lk=>
   obtain⟨lo,k⟩:=lk;rcases h 0 o p t rfl rfl rfl (by rw[hd];simp)with h3|⟨h3,d,v,h4,h5,h6⟩
   . simp only[h3]
   . simp only[h3,h4,h5];have:∀(l:List (Nat×ab)),(∀q∈l,q∈(st.drop lo).take k)->pa e o p.m t v all l:=by
      intro l
      induction l with
      |nil=>exactλ_=>trivial
      |cons q l ih=>exactλhl=>⟨h6 (lo,k) hd q (hl q aw),ih λq' cd=>hl q' (RK _ cd)⟩
     exact this _ λq hq=>hq
def Wk{t:Tr Value}{n:Nat}{ds:List Deferred}{h:ab}{K:aN->Prop}{K1:cG->Prop}(pl:List PI)(aH:rT ops true pl=true)(ah:(ops.filter λo=>cls o.op==.alloc).length=na)
 (hK:∀x,K1 x->gL e ops x.s.t x.all x.bJ.reverse ops pl x.di.reverse/\K {x.s with h:=fw x.s.h x.aA})
 (hs:cA e none ops ops pl 0 h.next t n ds {h with next:=h.next+na} [] [] [(0,{h with next:=h.next+na})] [] K1):mb e none ops ⟨t,n,ds,h⟩ K:=by
 simp only[rT,FQ,RW]at aH;obtain⟨⟨h1,h2⟩,h3⟩:=aH;have h2:=YT h2;have h4:∀(k:Nat) o p,ops[k]? =some o->pl[k]? =some p->qm ops (bx ops) (dc ops) k o p=true:=λk o p ho hp=>by
  have hz:(ops.zip pl)[k]? =some (o,p):=by rw[YN];exact⟨ho,hp⟩
  exact h3 ((o,p),k) (by
   rw[afj];simpa using hz)
 refine⟨h1, ?_⟩;rw[ah];have h5:∀(k:Nat) o p m,ops[k]? =some o->pl[k]? =some p->(bx ops)[k]? =some m->cls o.op=p.c/\m=p.m:=λk o p m ho hp hm=>by
  have:=h4 k o p ho hp;simp only[qm,FQ,decide_eq_true_eq]at this;refine⟨this.1.1, ?_⟩;have e1:=YT this.1.2;rw[<-e1,afO,hm];rfl
 refine cA.Aq (λx hx=> ?_) ops pl (bx ops) 0 h.next t n ds _ [] [] _ [] (by rw[xm]) h5 hs;obtain⟨cg,ch⟩:=hK x hx;refine⟨.inr ?_,ch⟩;have:=gL.p (e:=e) (x:=x) (st:=x.bJ.reverse) (ef:=dc ops) (ms:=bx ops) rfl ops pl x.di.reverse 0 (λk o p ho hp=>by rw[Nat.zero_add];exact h4 k o p ho hp)
  (λk o m hz=>by
   rw[List.drop_zero,YN]at hz;rw[Nat.zero_add,afO,hz.2];rfl) cg
 simpa using this
def Wl{t:Tr DV}{n:Nat}{dd:List FuncId}{dh:ae}{K:bB->DS->Prop}(pl:List PJ)(aH:vN ops pl=true)(na:Nat)(ah:afv (ops.filter λo=>cls o.op==.alloc).length na=true)(N0:Nat)(hN:dh.next=N0)
 (hs:df e ops N0 ops pl 0 N0 0 t n dd (dh.up (N0+na)) [] [] [] (K .normal)):∀G r,SD G r ⟨t,n,dd,dh⟩->mb e none ops r (nf G r.h dh (K .normal)):=by
 rintro G ⟨tt,n',ds,h⟩ ⟨q1,q2,q3,q4⟩;simp only at q1 q2 q3 q4;subst q1;subst hN;have bo:=q4.next;simp only[vN,FQ]at aH;obtain⟨bY,ck⟩:=aH;have bf:=bY;simp only[rT,FQ,RW]at bf;obtain⟨⟨hd,hlen⟩,h3⟩:=bf;have hlen:=YT hlen;rw[afz]at hlen;have bp:∀(k:Nat) o p,ops[k]? =some o->pl[k]? =some p->cls o.op=p.c/\sg ops pl o p=true:=λk o p ho hp=>by
  have hz:(ops.zip pl)[k]? =some (o,p):=by rw[YN];exact⟨ho,hp⟩
  refine⟨?_,RW.1 ck _ (RC hz)⟩;have cl:(ops.zip (pl.map PJ.pi))[k]? =some (o,p.pi):=by rw[YN];exact⟨ho,by rw[afP,hp];rfl⟩
  have:=h3 ((o,p.pi),k) (by rw[afj];simpa using cl);simp only[qm,FQ,decide_eq_true_eq]at this;exact this.1.1
 have x1:bO G (h.bump na) (dh.up (dh.next+na)):=⟨q4.fD.mono (jg λi hg=>⟨hg,rfl⟩),by rw[bQ,ae.iU,bo],λi o ho=>by obtain⟨a,b⟩:=q4.obj i o ho;exact⟨by rw[bQ];omega,b⟩,λi hi=>by obtain⟨a,b⟩:=q4.still i hi;exact⟨by rw[bQ];omega,b⟩⟩;have q:DI e ops pl G h dh na 0 dh.next 0 tt t G (h.bump na) (dh.up (dh.next+na)) [] [] [] [(0,h.bump na)] [] [] []:={
  x:=x1
  k:=⟨by rw[bQ];omega,λi hi hd=>⟨rfl,hd⟩,λi hi=>hi,λi hi hg=>.inl hg⟩
  nx:=by rw[bQ];omega
  lo:=aa
  pe:=.nil
  pid:=λy hy=>by cases hy
  pw:=λy hy=>by cases hy
  res:=λj hj aU=>by
   refine⟨?_,λhg=> ?_⟩
   . cases cm:(dh.up (dh.next+na)).get j with
     |none=>rfl
     |some o=>have:=(q4.obj j o cm).1;omega
   . have:=(q4.still j hg).1;omega
  al:=λy hy=>by cases hy
  ht:=⟨x1.fD,q2⟩
  tO:=λs d _ hd=>q2 s d hd
  ag:=λb _ _=>⟨rfl,rfl⟩
  st:=λy hy b _ _=>by
   simp only[List.mem_singleton]at hy;subst hy;rfl
  LT:=λb hb=>by cases hb
  ls:=λb hb=>by cases hb
  hd:=⟨_,_,rfl⟩
  sl:=rfl
  rd:=λk tk hk=>by simp at hk
  sn:=rfl}
 have bg:=YT ah;have key:=df.s (n:=n') (Wi hd) bp q4 ops pl 0 dh.next 0 tt t ds dd G _ _ [] [] [] _ [] [] [] (Nat.zero_le _) rfl rfl (by rw[bg,bo]) q3 q (by rw[bo];exact hs);rw[<-bo]at key;refine Wk (pl.map PJ.pi) bY bg (λx hx=> ?_) key;obtain⟨⟨L,r1,r2,r3,r4,r5,r7⟩,r6⟩:=hx;refine⟨GH (by rw[afz,hlen]) (by rw[KE,r2]) λk o p tk ho hp cn aW=> ?_,r6⟩;rw[afP]at hp;obtain⟨pj,bM,rfl⟩:=afH.1 hp;rcases r1 k tk cn o pj ho bM aW with h4|⟨h4,d,v,h5,h6,h7,h8⟩
 . exact .inl h4
 . refine .inr ⟨h4,d,v,h5,h6,λxx cp y hy=>h8 _ λb hb=> ?_⟩;obtain⟨j,hj⟩:=ab8 hy;rw[List.getElem?_take]at hj
   split at hj
   . rename_i cv;rw[afC]at hj;have cq:y∈x.bJ:=afM.1 (RC hj);have ct:b<h.next/\y.2.get b=h.get b:=by
      rcases h7 b hb with h9|⟨z,hz,h9⟩
      . exact⟨(q4.still b h9).1,r4 y cq b h9⟩
      . have:xx=z:=by
         have bP:pj.dy=some xx:=cp;rw[bP]at hz;cases hz;rfl
        subst this;exact⟨r5 _ h9,r7 _ h9 (xx.1+j) y hj (by simp only;omega)⟩
     rw[yg _ _ _ _ λz hz he=>by
      have:=r3 z (afN.1 hz).1;omega]
     exact ct.2
   . cases hj
end
end Go.aD
end
noncomputable section
namespace Go.aD
variable {e:Env} {ar:Bool}
def yi(e:Env)(ops:List Oper)(t:Tr DV)(n:Nat)(dd:List FuncId)(h:ae)(K:bB->DS->Prop):Prop:=∀G r,SD G r ⟨t,n,dd,h⟩->mb e none ops r (nf G r.h h (K .normal))
def Wm(id:Nat)(l:List Oper)(t:Tr DV)(n:Nat)(dd:List FuncId)(h:ae)(K:bB->DS->Prop):RD e ar (.region id l.toArray true) ⟨t,n,dd,h⟩ K=yi e l t n dd h K:=by simp[RD,yi]
def kh{ops:List Oper}{t:Tr DV}{n:Nat}{dd:List FuncId}{h:ae}{K:bB->DS->Prop}(pl:List PJ)(aa:vN ops pl=true)(na:Nat)(ab:afv (ops.filter λo=>cls o.op==.alloc).length na=true)(N0:Nat)(hN:h.next=N0)
 (hs:df e ops N0 ops pl 0 N0 0 t n dd (h.up (N0+na)) [] [] [] (K .normal)):yi e ops t n dd h K:=Wl pl aa na ab N0 hN hs
section
variable (ops:List Oper) (N0:Nat) (dst:Option Tmp) (op:Op) (ty:TypeId) (pos:String) (af:Array Edge) (r:List Oper) (m:Nat) (dy:Option (Nat×Nat)) (bl:Bool) (pl:List PJ) (i id c:Nat) (t:Tr DV) (n:Nat) (dd:List FuncId) (h:ae) (aA:fB) (T:List Nat) (L:List (Nat×Nat)) (K:DS->Prop) (w:Bool)
def GJ(e:Env)(ops:List Oper)(N0:Nat)(r:List Oper)(pl:List PJ)(i id c:Nat)(t:Tr DV)(n:Nat)(dd:List FuncId)(h:ae)(aA:fB)(T:List Nat)(L:List (Nat×Nat))(K:DS->Prop)(dst:Option Tmp):DV->Prop:=λv=>df e ops N0 r pl (i+1) id c (cH dst v t) n dd h aA T L K
def vP(e:Env)(ops:List Oper)(N0:Nat)(op:Op)(bl:Bool)(dy:Option (Nat×Nat))(r:List Oper)(pl:List PJ)(i id c:Nat)(t:Tr DV)(n:Nat)(dd:List FuncId)(h:ae)(aA:fB)(T:List Nat)(L:List (Nat×Nat))(K:DS->Prop)(dst:Option Tmp):DV->Prop:=
 λv=>(bl=true->si N0 T (dK e t op))/\df e ops N0 r pl (i+1) id c (cH dst v t) n dd h aA T (kO dy (dK e t op) L) K
def GK(e:Env)(ops:List Oper)(N0:Nat)(r:List Oper)(pl:List PJ)(i id c:Nat)(t:Tr DV)(n:Nat)(dd:List FuncId)(h:ae)(aA:fB)(T:List Nat)(L:List (Nat×Nat))(K:DS->Prop)(dst:Option Tmp):bF×(Nat->DV)->Prop:=λq=>df e ops N0 r pl (i+1) (id+1) c (cH dst (q.2 id) t) n dd h ((i,id,q.1)::aA) T L K
def GL(e:Env)(ops:List Oper)(N0:Nat)(r:List Oper)(m:Nat)(pl:List PJ)(i id c:Nat)(t:Tr DV)(n:Nat)(aA:fB)(T:List Nat)(L:List (Nat×Nat))(K:DS->Prop)(dst:Option Tmp):cD:=λv dd h T'=>(∀q∈L,c+1<=q.2->q.1∉T')/\df e ops N0 r pl (i+1) id (c+1) (cH dst v t) n dd h (jj m aA) (T'++T) L K
def Wn(v:DV):GJ e ops N0 r pl i id c t n dd h aA T L K dst v=df e ops N0 r pl (i+1) id c (cH dst v t) n dd h aA T L K:=(rfl)
def Wo(v:DV):vP e ops N0 op false none r pl i id c t n dd h aA T L K dst v=df e ops N0 r pl (i+1) id c (cH dst v t) n dd h aA T L K:=by simp[vP,kO]
def Wp(v:DV)(x:Nat×Nat):vP e ops N0 op true (some x) r pl i id c t n dd h aA T L K dst v=(si N0 T (dK e t op)/\df e ops N0 r pl (i+1) id c (cH dst v t) n dd h aA T (kO (some x) (dK e t op) L) K):=by simp[vP]
def Ws(o:bF)(f:Nat->DV):GK e ops N0 r pl i id c t n dd h aA T L K dst (o,f)=df e ops N0 r pl (i+1) (id+1) c (cH dst (f id) t) n dd h ((i,id,o)::aA) T L K:=(rfl)
def Wt(v:DV)(T':List Nat):GL e ops N0 r m pl i id c t n aA T L K dst v dd h T'=((∀q∈L,c+1<=q.2->q.1∉T')/\df e ops N0 r pl (i+1) id (c+1) (cH dst v t) n dd h (jj m aA) (T'++T) L K):=(rfl)
def Wu:df e ops N0 [] pl i id c t n dd h aA T L K=K ⟨t,n,dd,mn h aA⟩:=(by cases pl<;>rfl)
def Wv:df e ops N0 (⟨dst,op,ty,pos,af,none⟩::r) (⟨.pure,m,dy,bl⟩::pl) i id c t n dd h aA T L K=(dA dst n/\aO (ba e h t op) (GJ e ops N0 r pl i id c t n dd h aA T L K dst)):=by
 simp only[df,iW,gK];rfl
def Ww:df e ops N0 (⟨dst,op,ty,pos,af,none⟩::r) (⟨.read,m,dy,bl⟩::pl) i id c t n dd h aA T L K=(dA dst n/\aO (ba e (fL h m aA) t op) (vP e ops N0 op bl dy r pl i id c t n dd h aA T L K dst)):=by
 simp only[df,iW,gK];rfl
def Wx:df e ops N0 (⟨dst,op,ty,pos,af,none⟩::r) (⟨.alloc,m,dy,bl⟩::pl) i id c t n dd h aA T L K=(dA dst n/\aO (dX e t op) (GK e ops N0 r pl i id c t n dd h aA T L K dst)):=by
 simp only[df,iW,gK];rfl
def Wy:df e ops N0 (⟨dst,op,ty,pos,af,none⟩::r) (⟨.effect,m,dy,bl⟩::pl) i id c t n dd h aA T L K=(dA dst n/\cu e true op t dd (fL h m aA) (GL e ops N0 r m pl i id c t n aA T L K dst)):=by
 simp only[df,iW,gK];rfl
end
def ki(e:Env)(ops:List Oper)(N0:Nat)(o:Oper)(p:PJ)(r:List Oper)(pl:List PJ)(i id c:Nat)(t:Tr DV)(n:Nat)(dd:List FuncId)(h:ae)(aA:fB)(T:List Nat)(L:List (Nat×Nat))(K:DS->Prop)(w:Bool):DV->Prop:=λg=>aO (match some g with
 |some (.v (.bool b))=>some (b==w)
 |some (.v (.tuple _))=>some false
 |some (.bp _)=>some false
 |_=>none) λw=>match w with
 |true=>df e ops N0 ({o with guard:=none}::r) (p::pl) i id c t n dd h aA T L K
 |false=>match p.c with
  |.alloc=>df e ops N0 r pl (i+1) (id+1) c (cH o.dst cU t) n dd h aA T L K
  |.effect=>df e ops N0 r pl (i+1) id (c+1) (cH o.dst cU t) n dd h aA T L K
  |.bad=>False
  |_=>df e ops N0 r pl (i+1) id c (cH o.dst cU t) n dd h aA T L K
def GM(e:Env)(ops:List Oper)(N0:Nat)(o:Oper)(p:PJ)(r:List Oper)(pl:List PJ)(i id c:Nat)(t:Tr DV)(n:Nat)(dd:List FuncId)(h:ae)(aA:fB)(T:List Nat)(L:List (Nat×Nat))(K:DS->Prop)(w:Bool):Tmp->Prop:=λd=>aO (t.get d) (ki e ops N0 o p r pl i id c t n dd h aA T L K w)
section
variable (ops:List Oper) (N0:Nat) (dst:Option Tmp) (op:Op) (ty:TypeId) (pos:String) (af:Array Edge) (r:List Oper) (m:Nat) (dy:Option (Nat×Nat)) (bl:Bool) (pl:List PJ) (i id c:Nat) (t:Tr DV) (n:Nat) (dd:List FuncId) (h:ae) (aA:fB) (T:List Nat) (L:List (Nat×Nat)) (K:DS->Prop) (w:Bool)
def Wz(j:Nat)(p:PJ):df e ops N0 (⟨dst,op,ty,pos,af,some (j,w)⟩::r) (p::pl) i id c t n dd h aA T L K=(dA dst n/\aO ((ops[j]?).bind (·.dst)) (GM e ops N0 ⟨dst,op,ty,pos,af,none⟩ p r pl i id c t n dd h aA T L K w)):=by
 obtain⟨c,m,dy,bl⟩:=p;refine propext ⟨λhh=>⟨hh.1, ?_⟩,λhh=>⟨hh.1, ?_⟩⟩
 . obtain⟨h1,b,h2,h3⟩:=hh;simp only[iW]at h2;cases hd:(ops[j]?).bind (·.dst)with
   |none=>rw[hd]at h2;cases h2
   |some d=>
    rw[hd]at h2;cases hg:t.get d with
    |none=>simp[hg]at h2
    |some g=>
     refine⟨d,rfl,g,hg,b, ?_, ?_⟩
     . simp only[hg]at h2;exact h2
     . cases b with
       |true=>exact⟨h1,true,rfl,h3⟩
       |false=>exact h3
 . obtain⟨h1,d,h2,g,h3,b,h4,h5⟩:=hh;refine⟨b, ?_, ?_⟩
   . simp only[iW,h2,h3];exact h4
   . cases b with
     |true=>obtain⟨_,b',h6,h7⟩:=h5;cases h6;exact h7
     |false=>exact h5
def WA(o:Oper)(p:PJ)(d:Tmp):GM e ops N0 o p r pl i id c t n dd h aA T L K w d=aO (t.get d) (ki e ops N0 o p r pl i id c t n dd h aA T L K w):=(rfl)
def WB(p:PJ):ki e ops N0 ⟨dst,op,ty,pos,af,none⟩ p r pl i id c t n dd h aA T L K w (.v (.bool w))=df e ops N0 (⟨dst,op,ty,pos,af,none⟩::r) (p::pl) i id c t n dd h aA T L K:=by
 simp only[ki,beq_self_eq_true,gK]
def WC:ki e ops N0 ⟨dst,op,ty,pos,af,none⟩ ⟨.pure,m,dy,bl⟩ r pl i id c t n dd h aA T L K true (.v (.bool false))=df e ops N0 r pl (i+1) id c (cH dst cU t) n dd h aA T L K:=by simp[ki,gK]
def WE:ki e ops N0 ⟨dst,op,ty,pos,af,none⟩ ⟨.read,m,dy,bl⟩ r pl i id c t n dd h aA T L K true (.v (.bool false))=df e ops N0 r pl (i+1) id c (cH dst cU t) n dd h aA T L K:=by simp[ki,gK]
def WG:ki e ops N0 ⟨dst,op,ty,pos,af,none⟩ ⟨.effect,m,dy,bl⟩ r pl i id c t n dd h aA T L K true (.v (.bool false))=df e ops N0 r pl (i+1) id (c+1) (cH dst cU t) n dd h aA T L K:=by simp[ki,gK]
def WH:ki e ops N0 ⟨dst,op,ty,pos,af,none⟩ ⟨.pure,m,dy,bl⟩ r pl i id c t n dd h aA T L K false (.v (.bool true))=df e ops N0 r pl (i+1) id c (cH dst cU t) n dd h aA T L K:=by simp[ki,gK]
def WI:ki e ops N0 ⟨dst,op,ty,pos,af,none⟩ ⟨.read,m,dy,bl⟩ r pl i id c t n dd h aA T L K false (.v (.bool true))=df e ops N0 r pl (i+1) id c (cH dst cU t) n dd h aA T L K:=by simp[ki,gK]
def WJ:ki e ops N0 ⟨dst,op,ty,pos,af,none⟩ ⟨.effect,m,dy,bl⟩ r pl i id c t n dd h aA T L K false (.v (.bool true))=df e ops N0 r pl (i+1) id (c+1) (cH dst cU t) n dd h aA T L K:=by simp[ki,gK]
end
def WK(N0:Nat)(T:List Nat):si N0 T none=True:=(rfl)
def WL(N0:Nat)(T:List Nat)(b:Nat):si N0 T (some b)=(b<N0/\b∉T):=(rfl)
def WM(x:Nat×Nat)(b:Nat)(L:List (Nat×Nat)):kO (some x) (some b) L=(b,x.1+x.2-1)::L:=(rfl)
def WN(x:Option (Nat×Nat))(L:List (Nat×Nat)):kO x none L=L:=by cases x<;>rfl
section
variable (t:Tr DV) (h:ae)
def WO(ty:TypeId)(a:Operand):dK e t (.load ty a)=jM (aJ e t a):=(rfl)
def WS(ty:TypeId)(x:Operand)(lo hi mx:Option Operand):dK e t (.slice ty x lo hi mx)=jM (aJ e t x):=(rfl)
def WT(a:Addr):jM (some (.v (.pointer (some a))))=some a.block:=(rfl)
def WU(s:ByteArray):jM (some (.v (.string s)))=none:=(rfl)
def WV(k:Nat)(xs:List (List DV)):jM (some (.sl k xs))=none:=(rfl)
def WW(xs:List DV)(o:Nat):jM (some (.ptr xs o))=none:=(rfl)
def WX(x:Operand):ba e h t (.move x)=aJ e t x:=(rfl)
def WY(x:Operand):ba e h t (.assign x)=aJ e t x:=(rfl)
def WZ(c a b:Operand):ba e h t (.pick c a b)=qw (aJ e t c) (aJ e t a) (aJ e t b):=(rfl)
def W0(ty:TypeId)(l:List (Nat×Operand)):ba e h t (.build ty l.toArray)=(gb e t l).bind (eD e ty):=by simp[ba]
def W1(ty:TypeId)(a:Operand):ba e h t (.load ty a)=(aJ e t a).bind (ji e h ty):=(rfl)
def W2(x:Operand):ba e h t (.nilCheck x)=(aJ e t x).bind lp:=(rfl)
def W3(op:BinOp)(ty:TypeId)(x y:Operand)(z:TypeId):ba e h t (.binOp op ty x y z)=gO (jG e op ty x y) (aJ e t x) (aJ e t y):=(rfl)
def W4(op:UnOp)(ty:TypeId)(x:Operand):ba e h t (.unOp op ty x)=(aJ e t x).bind (lJ (nR e op)):=(rfl)
def W5(s d:TypeId)(x:Operand):ba e h t (.convert s d x)=(aJ e t x).bind (mZ e h s d):=(rfl)
def W6(f:FuncId)(a c:List Operand):ba e h t (.makeFunc (.func f) a.toArray c.toArray)=nZ f (cJ e t a) (cJ e t c):=by simp[ba]
def W7(ty:TypeId)(x:Operand)(lo hi mx:Option Operand):ba e h t (.slice ty x lo hi mx)=de e h ty (aJ e t x) (eO e t lo) (eO e t hi) (eO e t mx):=(rfl)
def W8(s:TypeId)(x:Operand)(f:Nat):ba e h t (.fieldAddr s x f)=(aJ e t x).bind (kK e s f):=(rfl)
def W9(ty:TypeId)(x ix:Operand):ba e h t (.indexAddr ty x ix)=gO (λa b=>gZ e ty a (gd b)) (aJ e t x) (aJ e t ix):=(rfl)
def Xa(ty:TypeId)(m k:Operand)(ok:Bool):ba e h t (.lookup ty m k ok)=gO (lq e h ty ok) (aJ e t m) (aJ e t k):=(rfl)
def Xb(x:Operand)(i:Nat):ba e h t (.extract x i)=(aJ e t x).bind (mh i):=(rfl)
def Xc(x:Operand)(ty:TypeId)(ad:List TypeId):ba e h t (.call ⟨.builtin .len,#[x],(ty::ad).toArray⟩)=(aJ e t x).bind (iC e h ty):=by
 simp only[ba,cJ];cases aJ e t x<;>simp[pq]
def Xd(m:Nat):fL h m []=h:=(rfl)
def Xe(m i id:Nat)(o:bF)(r:fB):fL h m ((i,id,o)::r)=if m.testBit i=true then(fL h m r).set id (some o)else fL h m r:=(rfl)
def Xf:mn h []=h:=(rfl)
def Xg(m:Nat):jj m []=[]:=(rfl)
def Xh(m i id:Nat)(o:bF)(r:fB):jj m ((i,id,o)::r)=if m.testBit i=true then jj m r else(i,id,o)::jj m r:=by
 simp only[jj,yy];cases m.testBit i<;>rfl
end
def yj(e:Env)(h:ae)(s d:TypeId)(x:DV):Bool->Option DV
 |true=>sc (gj h 1 x)
 |false=>lJ (sb e s d) x
def Xi(h:ae)(s d:TypeId)(x:DV):mZ e h s d x=yj e h s d x (e.mi s d):=by
 simp only[mZ,yj];cases e.mi s d<;>rfl
def Xj(h:ae)(s d:TypeId)(x:DV):yj e h s d x true=sc (gj h 1 x):=(rfl)
def Xk(h:ae)(s d:TypeId)(x:DV):yj e h s d x false=lJ (sb e s d) x:=(rfl)
def Xl(n:Nat)(cs:List DV):sc (some (n+1,cs))=(lL cs).map λns=>.v (.string (strOf ns)):=(rfl)
def Xm:lL []=some []:=(rfl)
def Xn(n:Int)(r:List DV):lL (.v (.int .u8 n)::r)=(lL r).map (n::·):=(rfl)
attribute [go_sem] Xi Xj Xk Xl Xm Xn
attribute [go_sem] Wm Wn Wo Wp Ws Wt Wu Wv Ww Wx Wy Wz WA WB WC WE WG WH WI WJ WK WL WM WN WO WS WT WU WV WW WX WY WZ W0 W1 W2 W3 W4 W5 W6 W7 W8 W9 Xa Xb Xc Xd Xe Xf Xg Xh TQ TR
abbrev ai(m:Nat):PJ:=⟨.pure,m,none,false⟩
abbrev aK(m:Nat):PJ:=⟨.read,m,none,false⟩
abbrev aU(m:Nat):PJ:=⟨.effect,m,none,false⟩
abbrev cR(m:Nat):PJ:=⟨.alloc,m,none,false⟩
abbrev dC(m:Nat):PJ:=⟨.read,m,some (0,2),true⟩
abbrev lr(m:Nat):PJ:=⟨.pure,m,none,true⟩
attribute [go_sem] ai aK aU cR dC lr
end Go.aD
end

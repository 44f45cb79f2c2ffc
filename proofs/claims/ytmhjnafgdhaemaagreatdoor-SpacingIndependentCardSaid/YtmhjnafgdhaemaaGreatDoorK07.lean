/- SpacingIndependent: parts of its proof. -/
import Derived.Test.YtmhjnafgdhaemaaGreatDoorK06
open Nat renaming lor->qe,le_trans->xS,le_refl->GP,lt_of_lt_of_le->PX,lt_succ_of_lt->TF,lt_trichotomy->W2,lt_trans->W9,lt_irrefl->Xw,le_of_eq->ab8,le_of_succ_le->adV,lt_succ_self->adW
open List renaming getElem?_eq_some_iff->DE,getElem?_eq_getElem->Er,mem_cons->PO,length_cons->Qc,mem_append->Zj,mem_cons_of_mem->Zr,mem_cons_self->ZJ,mem_filter->ZL,mem_append_right->abR,getElem?_zip_eq_some->adr,getD_eq_getElem?_getD->adS,drop_eq_getElem_cons->adT,filter_cons->adU,reverse_append->adZ,reverse_cons->ad0,append_assoc->ad1,getElem?_append_right->ad2
open Option.some renaming injEq->VK
open Bool renaming or_eq_false_iff->Z4,not_eq_true'->adX,or_eq_true->adY
set_option linter.all false
set_option maxRecDepth 100000
noncomputable section
namespace Go.au
variable {e:Env}
def iR(t:Tr Value)(dst:Option Tmp)(v:Value):Tr Value:=
 match dst with
 |none=>t
 |some d=>t.set d (some v)
theorem uw{s s':aE}{dst:Option Tmp}{v:Value}(h:eZ s dst v=some s'):s'={s with t:=iR s.t dst v}/\∀d,dst=some d->d<s.n:=by
 cases dst with
 |none=>simp only[qD,VK]at h;subst h;exact⟨rfl,λ_ h=>by cases h⟩
 |some d=>
  simp only[qD]at h;obtain⟨h1,h2⟩:=bU h;cases h2;exact⟨rfl,λd' h=>by cases h;exact Nat.le_of_ble_eq_true h1⟩
theorem wD{s:aE}{dst:Option Tmp}(v:Value)(h:∀d,dst=some d->d<s.n):eZ s dst v=some {s with t:=iR s.t dst v}:=by
 cases dst with
 |none=>rfl
 |some d=>
  have hb:Nat.blt d s.n=true:=Nat.ble_eq_true_of_le (h d rfl);simp only[qD,hb,cond_true];rfl
theorem LA{h:aa}{t:Tr Value}{op:Op}(hc:cls op=.effect){f:FuncId}{az cap:List Value}{h':aa}:aK e h t op≠some (.defer f az cap h'):=by
 intro hr;cases op with
 |store ty a x=>
  simp only[aK]at hr
  split at hr
  . obtain⟨_,_,h2⟩:=of_map hr;cases h2
  . cases hr
 |mapUpdate ty m k v=>
  simp only[aK]at hr
  split at hr
  . obtain⟨_,_,h2⟩:=of_map hr;cases h2
  . cases hr
 |insert ty m k v=>
  simp only[aK]at hr
  split at hr
  . obtain⟨_,_,h2⟩:=of_map hr;cases h2
  . cases hr
 |range ty x=>
  simp only[aK]at hr
  split at hr
  . cases hr
  . cases hr
  . split at hr<;>cases hr
  . cases hr
 |next it s=>
  simp only[aK]at hr
  split at hr
  . cases hr
  . obtain⟨_,_,h2⟩:=of_map hr;cases h2
 |call c=>
  simp only[aK,lz]at hr
  split at hr
  . cases hr
  . split at hr
    . split at hr
      . cases hr
      . split at hr<;>cases hr
    . cases hr
    . split at hr
      . obtain⟨_,_,h2⟩:=of_map hr;cases h2
      . obtain⟨_,_,h2⟩:=of_map hr;cases h2
      . split at hr
        . cases hr
        . obtain⟨_,_,h2⟩:=of_map hr;cases h2
      . split at hr
        . cases hr
        . obtain⟨_,_,h2⟩:=of_map hr;cases h2
      . rename_i args _ _ _ _ _;cases hp:args.all plain with
        |true=>rw[hp]at hr;obtain⟨_,_,h2⟩:=of_map hr;cases h2
        |false=>rw[hp]at hr;cases hr
      . rename_i args _ _ _ _ _;cases hp:args.all plain with
        |true=>rw[hp]at hr;obtain⟨_,_,h2⟩:=of_map hr;cases h2
        |false=>rw[hp]at hr;cases hr
      . cases hr
 |_=>simp[cls]at hc
theorem LB{cf:eE}{rf:gk}{ro:Option Nat}{o:Oper}{s s':aE}(hc:∀f az cap h',aK e s.h s.t o.op≠some (.defer f az cap h'))(h:ma e cf rf ro o s=some s'):
 ∃v,s'={s with t:=iR s.t o.dst v,h:=s'.h}/\(∀d,o.dst=some d->d<s.n)/\
  ∀t2,Same t2 s.t o.op.operands.toList->ma e cf rf ro o {s with t:=t2}=some {s with t:=iR t2 o.dst v,h:=s'.h}:=by
 simp only[wi]at h⊢;cases hr:aK e s.h s.t o.op with
 |none=>simp[hr]at h
 |some r=>
  have aI:∀t2,Same t2 s.t o.op.operands.toList->aK e s.h t2 o.op=some r:=λt2 h2=>by rw[zi h2,hr]
  simp only[hr]at h;have fin:∀(h1:aa) (v:Value),eZ {s with h:=h1} o.dst v=some s'->s'={s with t:=iR s.t o.dst v,h:=s'.h}/\(∀d,o.dst=some d->d<s.n)/\
   ∀t2:Tr Value,eZ {s with h:=h1,t:=t2} o.dst v=some {s with t:=iR t2 o.dst v,h:=s'.h}:=λh1 v hp=>by
   obtain⟨q1,q2⟩:=uw hp;subst q1;exact⟨rfl,q2,λt2=>wD v q2⟩
  cases r with
  |val v h1=>
   obtain⟨q1,q2,q3⟩:=fin h1 v h;refine⟨v,q1,q2,λt2 h2=> ?_⟩;simp only[aI t2 h2];exact q3 t2
  |skip h1=>
   obtain⟨q1,q2,q3⟩:=fin h1 undef h;refine⟨undef,q1,q2,λt2 h2=> ?_⟩;simp only[aI t2 h2];exact q3 t2
  |enter f args h1=>
   simp only at h;cases aD:cf f args h1 with
   |none=>simp[aD]at h
   |some r2=>
    simp only[aD]at h;obtain⟨q1,q2,q3⟩:=fin r2.2 r2.1 h;refine⟨r2.1,q1,q2,λt2 h2=> ?_⟩;simp only[aI t2 h2,aD];exact q3 t2
  |round l args h1=>
   simp only at h;cases aD:rf l args h1 with
   |none=>simp[aD]at h
   |some r2=>
    simp only[aD]at h;obtain⟨q1,q2,q3⟩:=fin r2.2 r2.1 h;refine⟨r2.1,q1,q2,λt2 h2=> ?_⟩;simp only[aI t2 h2,aD];exact q3 t2
  |defer f az cap h1=>exact absurd hr (hc f az cap h1)
inductive ow(e:Env)(cf:eE)(rf:gk)(ro:Option Nat)(ops:List Oper)(i id m:Nat)(o:Oper)(x x':cm)(inc:Nat)(v:Value):Prop
 |skip:cH ops x.s o=some false->v=undef->x'.aq=x.aq->x'.all=x.all->x'.s.h=x.s.h->(cls o.op=.effect->x'.bw=(inc,x.s.h)::x.bw)->(cls o.op≠.effect->x'.bw=x.bw)->ow e cf rf ro ops i id m o x x' inc v
 |pure (h1:aa):cH ops x.s o=some true->cls o.op=.pure->aK e x.s.h x.s.t o.op=some (.val v h1)->x'.aq=x.aq->x'.all=x.all->x'.s.h=x.s.h->x'.bw=x.bw->ow e cf rf ro ops i id m o x x' inc v
 |read (h1:aa):cH ops x.s o=some true->cls o.op=.read->aK e (bW x.s.h m x.aq) x.s.t o.op=some (.val v h1)->x'.aq=x.aq->x'.all=x.all->x'.s.h=x.s.h->x'.bw=x.bw->ow e cf rf ro ops i id m o x x' inc v
 |alloc (ob:bF) (f:Nat->Value):cH ops x.s o=some true->cls o.op=.alloc->cF e x.s.t o.op=some (ob,f)->v=f id->x'.aq=(i,id,ob)::x.aq->x'.all=(i,id,ob)::x.all->x'.s.h=x.s.h->x'.bw=x.bw->ow e cf rf ro ops i id m o x x' inc v
 |effect (s1:aE):cH ops x.s o=some true->cls o.op=.effect->ma e cf rf ro o {x.s with h:=bW x.s.h m x.aq}=some s1->s1.t=iR x.s.t o.dst v->s1.h=x'.s.h->
  (∀t2,Same t2 x.s.t o.op.operands.toList->ma e cf rf ro o {x.s with t:=t2,h:=bW x.s.h m x.aq}=some {x.s with t:=iR t2 o.dst v,h:=x'.s.h})->
  x'.aq=x.aq.filter (λp=> !m.testBit p.1)->x'.all=x.all->x'.bw=(qe inc m,x'.s.h)::x.bw->ow e cf rf ro ops i id m o x x' inc v
structure Step(x x':cm)(o:Oper)(v:Value):Prop where
 t:x'.s.t=iR x.s.t o.dst v
 lt:∀d,o.dst=some d->d<x.s.n
 n:x'.s.n=x.s.n
 ds:x'.s.ds=x.s.ds
 cS:x'.cS=x.s.t::x.cS
theorem LC{cf:eE}{rf:gk}{ro:Option Nat}{ops:List Oper}{i id m:Nat}{o:Oper}{x x':cm}{inc:Nat}{tl:List (Nat×aa)}(aF:x.bw=(inc,x.s.h)::tl)
 (h:so e cf rf ro ops i id m o {x with cS:=x.s.t::x.cS}=some x'):∃v,Step x x' o v/\ow e cf rf ro ops i id m o x x' inc v:=by
 have aM:(x.bw.head?.map (·.1)).getD 0=inc:=by rw[aF];rfl
 unfold so at h;simp only[aM]at h;cases hw:cH ops x.s o with
 |none=>simp[hw]at h
 |some b=>
  cases b with
  |false=>
   simp only[hw]at h;cases hp:eZ x.s o.dst undef with
   |none=>simp[hp]at h
   |some s1=>
    simp only[hp]at h;obtain⟨q1,q2⟩:=uw hp;subst q1
    split at h
    . rename_i hc;cases h;exact⟨undef,⟨rfl,q2,rfl,rfl,rfl⟩,.skip hw rfl rfl rfl rfl (λ_=>rfl) λhn=>absurd hc hn⟩
    . cases h
    . rename_i hc _;cases h;exact⟨undef,⟨rfl,q2,rfl,rfl,rfl⟩,.skip hw rfl rfl rfl rfl (λhn=>absurd hn hc) λ_=>rfl⟩
  |true=>
   simp only[hw]at h
   split at h
   . rename_i hc
     split at h
     . rename_i v h1 hr;obtain⟨s1,hp,rfl⟩:=of_map h;obtain⟨q1,q2⟩:=uw hp;subst q1;exact⟨v,⟨rfl,q2,rfl,rfl,rfl⟩,.pure h1 hw hc hr rfl rfl rfl rfl⟩
     . cases h
   . rename_i hc
     split at h
     . rename_i v h1 hr;obtain⟨s1,hp,rfl⟩:=of_map h;obtain⟨q1,q2⟩:=uw hp;subst q1;exact⟨v,⟨rfl,q2,rfl,rfl,rfl⟩,.read h1 hw hc hr rfl rfl rfl rfl⟩
     . cases h
   . rename_i hc
     split at h
     . cases h
     . rename_i ob f hr;obtain⟨s1,hp,rfl⟩:=of_map h;obtain⟨q1,q2⟩:=uw hp;subst q1;exact⟨f id,⟨rfl,q2,rfl,rfl,rfl⟩,.alloc ob f hw hc hr rfl rfl rfl rfl rfl⟩
   . rename_i hc
     split at h
     . cases h
     . rename_i s1 hr;obtain⟨v,q1,q2,q3⟩:=LB (λ_ _ _ _=>LA hc) hr;cases h;have e1:s1.t=iR x.s.t o.dst v:=by rw[q1]
       have e2:s1.n=x.s.n:=by rw[q1]
       have e3:s1.ds=x.s.ds:=by rw[q1]
       exact⟨v,⟨e1,q2,e2,e3,rfl⟩,.effect s1 hw hc hr e1 rfl q3 rfl rfl rfl⟩
   . cases h
theorem sD(t:Tr Value)(dst:Option Tmp)(v:Value)(d:Tmp):(iR t dst v).get d=if dst=some d then some v else t.get d:=by
 cases dst with
 |none=>simp[iR]
 |some d'=>
  simp only[iR,Tr.bn,VK];by_cases h:d=d'
  . subst h;simp
  . rw[if_neg h,if_neg (Ne.symm h)]
abbrev cN(ops:List Oper):List (Nat×Nat):=jB (ops.zip (bf ops)) 0
def pG(o:Oper):Bool:=cls o.op==.alloc
def kG(ops:List Oper)(S:Nat->Prop)(m:Nat):Prop:=m<=(cN ops).length/\∀(p i k:Nat),(cN ops)[p]? =some (i,k)->(S i↔p<m)
theorem ux{ops:List Oper}{p i k:Nat}(h:(cN ops)[p]? =some (i,k)):∃o,ops[i]? =some o/\k=(bf ops).getD i 0/\cls o.op=.effect:=by
 obtain⟨_,o,h1,h2⟩:=zk _ _ _ _ _ h;simp only[Nat.sub_zero]at h1;rw[adr]at h1;exact⟨o,h1.1,by rw[adS,h1.2];rfl,h2⟩
theorem zl{ops:List Oper}{i:Nat}{o:Oper}(h:ops[i]? =some o):(ops.zip (bf ops))[i]? =some (o,(bf ops).getD i 0):=by
 rw[adr];refine⟨h, ?_⟩;have:i<(bf ops).length:=by rw[wA];exact(DE.1 h).1
 rw[adS,Er this];rfl
theorem LD{ops:List Oper}{i:Nat}{o:Oper}(h:ops[i]? =some o)(hc:cls o.op=.effect):∃p:Nat,(cN ops)[p]? =some (i,(bf ops).getD i 0):=by
 have:=DM (ops.zip (bf ops)) 0 i o _ (zl h) hc;simpa using this
theorem kG.more{ops:List Oper}{S S':Nat->Prop}{m i:Nat}(h:kG ops S m)(f:sC ops (bf ops)){o:Oper}(ho:ops[i]? =some o)(hc:cls o.op=.effect)(hi:¬S i)
 (hm:∀j,((bf ops).getD i 0).testBit j=true->S j) (hS:∀j,S' j↔S j\/j=i):kG ops S' (m+1)/\(cN ops)[m]? =some (i,(bf ops).getD i 0):=by
 obtain⟨p,hp⟩:=LD ho hc;have h1:¬p<m:=λhl=>hi ((h.2 p _ _ hp).2 hl);have aL:=(DE.1 hp).1;have h2:p=m:=by
  rcases W2 p m with hl|rfl|hl
  . exact absurd hl h1
  . rfl
  . exfalso;have hq:=Er (W9 hl aL);generalize (cN ops)[m]'(W9 hl aL)=jk at hq;obtain⟨j,k⟩:=jk;have aR:=wC _ _ _ _ _ _ _ _ hq hp hl;obtain⟨o',q1,q2,q3⟩:=ux hq;have:=(h.2 m _ _ hq).1 (hm j (f.cN j o' i o q1 ho q3 hc aR));omega
 subst h2;refine⟨⟨by omega,λq j k hq=> ?_⟩,hp⟩;rw[hS,h.2 q j k hq];constructor
 . rintro(hl|rfl)
   . omega
   . rcases W2 q p with hl|rfl|hl
     . omega
     . omega
     . have:=wC _ _ _ _ _ _ _ _ hp hq hl;omega
 . intro hl;rcases Nat.lt_or_ge q p with aP|aP
   . exact .inl aP
   . have:q=p:=by omega
     subst this;rw[hp]at hq;cases hq;exact .inr rfl
theorem kG.same{ops:List Oper}{S S':Nat->Prop}{m i:Nat}(h:kG ops S m){o:Oper}(ho:ops[i]? =some o)(hc:cls o.op≠.effect)(hS:∀j,S' j↔S j\/j=i):kG ops S' m:=by
 refine⟨h.1,λq j k hq=> ?_⟩;rw[hS,<-h.2 q j k hq];constructor
 . rintro(hl|rfl)
   . exact hl
   . obtain⟨o',q1,q2,q3⟩:=ux hq;rw[ho]at q1;cases q1;exact absurd q3 hc
 . exact .inl
structure pH(s0:aE)(base N:Nat)(ops:List Oper)(k id:Nat)(x:cm)(m inc:Nat):Prop where
 n:x.s.n=s0.n
 ds:x.s.ds=s0.ds
 t:∀d,(∀(j:Nat) (o:Oper),j<k->ops[j]? =some o->o.dst≠some d)->x.s.t.get d=s0.t.get d
 iw:∃tl,x.bw=(inc,x.s.h)::tl
 len:x.bw.length=m+1
 fG:kG ops (·<k) m
 aq:∀p,p∈x.aq↔p∈x.all/\inc.testBit p.1=false
 ox:∀p∈x.all,p.1<k/\base<=p.2.1/\p.2.1<id
 inj:∀p q,p∈x.all->q∈x.all->p.2.1=q.2.1->p=q
 uy:∀j,inc.testBit j=true->j<k
 cS:x.cS.length=k
 ge:base<=id
 sum:id+((ops.drop k).filter pG).length=N
structure iS(ops:List Oper)(k:Nat)(x xf:cm):Prop where
 t:∀d,(∀(j:Nat) (o:Oper),k<=j->ops[j]? =some o->o.dst≠some d)->xf.s.t.get d=x.s.t.get d
 bw:∃l,xf.bw=l++x.bw
 all:∃l,xf.all=l++x.all/\∀p∈l,k<=p.1
 cS:∃l,xf.cS=l++x.cS
theorem iS.refl(ops:List Oper)(k:Nat)(x:cm):iS ops k x x:=⟨λ_ _=>rfl,⟨[],rfl⟩,⟨[],rfl,by simp⟩,⟨[],rfl⟩⟩
theorem LF{cf:eE}{rf:gk}{ro:Option Nat}{s0:aE}{base N:Nat}{ops:List Oper}(f:sC ops (bf ops)){k id m inc:Nat}{x x':cm}{o:Oper}{v:Value}(ho:ops[k]? =some o)(hp:pH s0 base N ops k id x m inc)
 (hs:Step x x' o v) (hd:ow e cf rf ro ops k id ((bf ops).getD k 0) o x x' inc v):
 (∃m' av,pH s0 base N ops (k+1) (nextId o id) x' m' av)/\(∀xf,iS ops (k+1) x' xf->iS ops k x xf):=by
 have aC:ops.drop k=o::ops.drop (k+1):=by
  obtain⟨hl,rfl⟩:=DE.1 ho;exact adT hl
 have aw:∀j,((bf ops).getD k 0).testBit j=true->j<k:=λj=>wB f k o j ho;have hS:∀j,j<k+1↔j<k\/j=k:=λj=>by omega
 have ae:x'.s.n=s0.n:=hs.n.trans hp.n;have af:x'.s.ds=s0.ds:=hs.ds.trans hp.ds;have ai:∀d,(∀(j:Nat) (o:Oper),j<k+1->ops[j]? =some o->o.dst≠some d)->x'.s.t.get d=s0.t.get d:=λd hd=>by
  rw[hs.t,sD,if_neg (hd k o (by omega) ho)];exact hp.t d λj o' hj=>hd j o' (by omega)
 have ao:x'.cS.length=k+1:=by rw[hs.cS];simp[hp.cS]
 have lt:∀xf,iS ops (k+1) x' xf->∀d,(∀(j:Nat) (o:Oper),k<=j->ops[j]? =some o->o.dst≠some d)->xf.s.t.get d=x.s.t.get d:=λxf hl d hd=>by
  rw[hl.t d λj o' hj=>hd j o' (by omega),hs.t,sD,if_neg (hd k o (GP _) ho)]
 have ls:∀xf,iS ops (k+1) x' xf->∃l,xf.cS=l++x.cS:=λxf hl=>by
  obtain⟨l,hl⟩:=hl.cS;exact⟨l++[x.s.t],by rw[hl,hs.cS];simp⟩
 have aB:cls o.op≠.alloc->nextId o id+((ops.drop (k+1)).filter pG).length=N:=λhc=>by
  have h1:pG o=false:=by simp[pG,hc]
  have:=hp.sum;rw[aC,adU,h1]at this;have h2:(cls o.op==sk.alloc)=false:=h1;simpa[nextId,h2]using this
 have ab:cls o.op=.alloc->nextId o id=id+1/\id+1+((ops.drop (k+1)).filter pG).length=N:=λhc=>by
  have h1:pG o=true:=by simp[pG,hc]
  have:=hp.sum;rw[aC,adU,h1]at this;refine⟨by simp[nextId,hc], ?_⟩;simp only[if_true,Qc]at this;omega
 have sum:nextId o id+((ops.drop (k+1)).filter pG).length=N:=by
  by_cases hc:cls o.op=.alloc
  . obtain⟨h1,h2⟩:=ab hc;omega
  . exact aB hc
 have idle:id<=nextId o id:=by
  by_cases hc:cls o.op=.alloc
  . have:=(ab hc).1;omega
  . have h2:(cls o.op==sk.alloc)=false:=by simp[hc]
    simp[nextId,h2]
 have ad:x'.all=x.all->(∀p∈x'.all,p.1<k+1/\base<=p.2.1/\p.2.1<nextId o id)/\(∀p q,p∈x'.all->q∈x'.all->p.2.1=q.2.1->p=q)/\(∀xf,iS ops (k+1) x' xf->∃l,xf.all=l++x.all/\∀p∈l,k<=p.1):=λha=>by
  rw[ha];refine⟨λp aA=> ?_,hp.inj,λxf hl=> ?_⟩
  . obtain⟨h1,h2,h3⟩:=hp.ox p aA;exact⟨by omega,h2,by omega⟩
  . obtain⟨l,h1,h2⟩:=hl.all;exact⟨l,by rw[h1,ha],λp aA=>adV (h2 p aA)⟩
 obtain⟨tl,aF⟩:=hp.iw;have quiet:x'.aq=x.aq->x'.all=x.all->x'.s.h=x.s.h->x'.bw=x.bw->cls o.op≠.effect->
  (∃m' av,pH s0 base N ops (k+1) (nextId o id) x' m' av)/\(∀xf,iS ops (k+1) x' xf->iS ops k x xf):=λh1 h2 h3 h4 h5=>by
  obtain⟨a1,a2,a3⟩:=ad h2;refine⟨⟨m,inc,ae,af,ai,⟨tl,by rw[h4,h3,aF]⟩,by rw[h4];exact hp.len,hp.fG.same ho h5 hS,by rw[h1,h2];exact hp.aq,a1,a2,λj hj=>TF (hp.uy j hj),ao,xS hp.ge idle,sum⟩,λxf hl=> ?_⟩;exact⟨lt xf hl,by obtain⟨l,hl⟩:=hl.bw;exact⟨l,by rw[hl,h4]⟩,a3 xf hl,ls xf hl⟩
 cases hd with
 |skip hw hv h1 h2 h3 h4 h5=>
  by_cases hc:cls o.op=.effect
  . obtain⟨a1,a2,a3⟩:=ad h2;refine⟨⟨m+1,inc,ae,af,ai,⟨x.bw,by rw[h4 hc,h3]⟩,by rw[h4 hc,Qc,hp.len],(hp.fG.more f ho hc (Xw _) aw hS).1,by rw[h1,h2];exact hp.aq,a1,a2,λj hj=>TF (hp.uy j hj),ao,xS hp.ge idle,sum⟩,λxf hl=> ?_⟩;exact⟨lt xf hl,by obtain⟨l,hl⟩:=hl.bw;exact⟨l++[(inc,x.s.h)],by rw[hl,h4 hc];simp⟩,a3 xf hl,ls xf hl⟩
  . exact quiet h1 h2 h3 (h5 hc) hc
 |pure hh hw hc hr h1 h2 h3 h4=>exact quiet h1 h2 h3 h4 (by rw[hc];decide)
 |read hh hw hc hr h1 h2 h3 h4=>exact quiet h1 h2 h3 h4 (by rw[hc];decide)
 |alloc ob g hw hc hr hv h1 h2 h3 h4=>
  obtain⟨y1,y2⟩:=ab hc;refine⟨⟨m,inc,ae,af,ai,⟨tl,by rw[h4,h3,aF]⟩,by rw[h4];exact hp.len,hp.fG.same ho (by rw[hc];decide) hS,λp=> ?_,λp aA=> ?_,λp q h5 h6 h7=> ?_,λj hj=>TF (hp.uy j hj),ao,xS hp.ge idle,sum⟩,λxf hl=> ?_⟩
  . rw[h1,h2,PO,PO,hp.aq];constructor
    . rintro(rfl|⟨h5,h6⟩)
      . refine⟨.inl rfl, ?_⟩;cases hb:inc.testBit k with
        |false=>rfl
        |true=>exact absurd (hp.uy k hb) (Xw _)
      . exact⟨.inr h5,h6⟩
    . rintro⟨rfl|h5,h6⟩
      . exact .inl rfl
      . exact .inr ⟨h5,h6⟩
  . rw[h2,PO]at aA;rcases aA with rfl|aA
    . exact⟨adW _,hp.ge,by rw[y1];exact adW _⟩
    . obtain⟨g1,g2,g3⟩:=hp.ox p aA;exact⟨by omega,g2,by omega⟩
  . rw[h2,PO]at h5 h6;rcases h5 with rfl|h5<;>rcases h6 with rfl|h6
    . rfl
    . have:=(hp.ox q h6).2.2;simp only at h7;omega
    . have:=(hp.ox p h5).2.2;simp only at h7;omega
    . exact hp.inj p q h5 h6 h7
  . refine⟨lt xf hl,by obtain⟨l,hl⟩:=hl.bw;exact⟨l,by rw[hl,h4]⟩, ?_,ls xf hl⟩;obtain⟨l,g1,g2⟩:=hl.all;refine⟨l++[(k,id,ob)],by rw[g1,h2];simp,λp aA=> ?_⟩;rcases Zj.1 aA with h5|h5
    . exact adV (g2 p h5)
    . simp at h5;subst h5;exact GP _
 |effect s1 hw hc hr ht hh aI h1 h2 h3=>
  obtain⟨a1,a2,a3⟩:=ad h2;have aQ:∀j,(qe inc ((bf ops).getD k 0)).testBit j=(inc.testBit j||((bf ops).getD k 0).testBit j):=λj=>Nat.testBit_or _ _ _;refine⟨⟨m+1,qe inc ((bf ops).getD k 0),ae,af,ai,⟨x.bw,h3⟩,by rw[h3,Qc,hp.len],(hp.fG.more f ho hc (Xw _) aw hS).1,λp=> ?_,a1,a2,λj hj=> ?_,ao,xS hp.ge idle,sum⟩,λxf hl=> ?_⟩
  . rw[h1,h2,ZL,hp.aq,aQ];simp only[adX,Z4,and_assoc]
  . rw[aQ,adY]at hj;rcases hj with hj|hj
    . exact TF (hp.uy j hj)
    . exact TF (aw j hj)
  . exact⟨lt xf hl,by obtain⟨l,hl⟩:=hl.bw;exact⟨l++[(qe inc ((bf ops).getD k 0),x'.s.h)],by rw[hl,h3];simp⟩,a3 xf hl,ls xf hl⟩
theorem LG{dx:Nat->eE}{rf:gk}{ro:Option Nat}{s0:aE}{base N:Nat}{ops:List Oper}(f:sC ops (bf ops)){xf:cm}:∀(q k id:Nat) (x:cm) (m inc:Nat),q=ops.length-k->k<=ops.length->
 mb e dx rf ro ops ((ops.zip (bf ops)).drop k) k id x=some xf->pH s0 base N ops k id x m inc->
 (∀(i:Nat) (o:Oper),k<=i->ops[i]? =some o->∃id x x' m inc v,pH s0 base N ops i id x m inc/\Step x x' o v/\ow e (dx i) rf ro ops i id ((bf ops).getD i 0) o x x' inc v/\iS ops i x xf/\iS ops (i+1) x' xf)/\
  iS ops k x xf/\∃id m inc,pH s0 base N ops ops.length id xf m inc:=by
 intro q
 induction q with
 |zero=>
  intro k id x m inc hq hk h hp;have:k=ops.length:=by omega
  subst this;rw[List.drop_eq_nil_of_le (by rw[List.length_zip,wA];simp)]at h;simp only[mb,VK]at h;subst h;exact⟨λi o hi ho=>absurd (DE.1 ho).1 (by omega),iS.refl _ _ _,id,m,inc,hp⟩
 |succ q ih=>
  intro k id x m inc hq hk h hp;have aL:k<ops.length:=by omega
  have ho:ops[k]? =some ops[k]:=Er aL;have hd:(ops.zip (bf ops)).drop k=(ops[k],(bf ops).getD k 0)::(ops.zip (bf ops)).drop (k+1):=by
   have hz:=zl ho;obtain⟨hl,he⟩:=DE.1 hz;rw[adT hl,he]
  rw[hd]at h;simp only[mb]at h;cases hs:so e (dx k) rf ro ops k id ((bf ops).getD k 0) ops[k] {x with cS:=x.s.t::x.cS}with
  |none=>rw[hs]at h;cases h
  |some x'=>
   simp only[hs]at h;obtain⟨tl,aF⟩:=hp.iw;obtain⟨v,s1,s2⟩:=LC aF hs;obtain⟨⟨m',av,p1⟩,p2⟩:=LF f ho hp s1 s2;obtain⟨r1,r2,r3⟩:=ih (k+1) _ x' m' av (by omega) (by omega) h p1;refine⟨λi o hi aN=> ?_,p2 xf r2,r3⟩;rcases Nat.eq_or_lt_of_le hi with rfl|hi
   . rw[ho]at aN;cases aN;exact⟨id,x,x',m,inc,v,hp,s1,s2,p2 xf r2,r2⟩
   . exact r1 i o hi aN
end Go.au
end
noncomputable section
namespace Go.au
variable {e:Env}
theorem sE(h:aa)(m:Nat):∀L:cZ,(bW h m L).next=h.next
 |[]=>rfl
 |(i,id,o)::r=>by
  simp only[bW];cases m.testBit i with
  |true=>exact sE h m r
  |false=>exact sE h m r
theorem zm{h:aa}{m:Nat}:∀{L:cZ} {k:Nat} {o:bF},(bW h m L).get k=some o->(∃p∈L,m.testBit p.1=true/\p.2.1=k/\p.2.2=o)\/h.get k=some o
 |[],k,o,hk=>.inr hk
 |(i,id,ob)::r,k,o,hk=>by
  simp only[bW]at hk;have tail:(bW h m r).get k=some o->(∃p∈(i,id,ob)::r,m.testBit p.1=true/\p.2.1=k/\p.2.2=o)\/h.get k=some o:=λht=>by
   rcases zm ht with⟨p,h1,h2⟩|h1
   . exact .inl ⟨p,Zr _ h1,h2⟩
   . exact .inr h1
  cases hb:m.testBit i with
  |true=>
   simp only[hb,cond_true,aa.bn]at hk;by_cases af:k=id
   . rw[if_pos af]at hk;cases hk;exact .inl ⟨(i,id,ob),ZJ ..,hb,af.symm,rfl⟩
   . rw[if_neg af]at hk;exact tail hk
  |false=>simp only[hb,cond_false]at hk;exact tail hk
theorem uz(h:aa):∀L:cZ,(eO h L).next=h.next
 |[]=>rfl
 |(_,_,_)::r=>uz h r
theorem zn{h:aa}:∀{L:cZ},(∀p q,p∈L->q∈L->p.2.1=q.2.1->p=q)->∀p∈L,(eO h L).get p.2.1=some p.2.2
 |[],_,p,hp=>by cases hp
 |(i,id,o)::r,hi,p,hp=>by
  simp only[eO,aa.bn];by_cases hk:p.2.1=id
  . have:=hi p (i,id,o) hp (ZJ ..) hk;subst this;simp
  . rw[if_neg hk];rcases PO.1 hp with rfl|aw
    . exact absurd rfl hk
    . exact zn (λp q h1 h2=>hi p q (Zr _ h1) (Zr _ h2)) p aw
theorem zo{h:aa}{k:Nat}:∀{L:cZ},(∀p∈L,p.2.1≠k)->(eO h L).get k=h.get k
 |[],_=>rfl
 |(i,id,o)::r,hk=>by
  simp only[eO,aa.bn];rw[if_neg (λe=>hk (i,id,o) (ZJ ..) e.symm)];exact zo λp hp=>hk p (Zr _ hp)
theorem DN{h:aa}{L:cZ}(hi:∀p q,p∈L->q∈L->p.2.1=q.2.1->p=q){k:Nat}{o:bF}(hk:(eO h L).get k=some o):(∃p∈L,p.2.1=k/\p.2.2=o)\/h.get k=some o:=by
 by_cases hx:∃p∈L,p.2.1=k
 . obtain⟨p,hp,rfl⟩:=hx;rw[zn hi p hp]at hk;cases hk;exact .inl ⟨p,hp,rfl,rfl⟩
 . rw[zo λp hp e=>hx ⟨p,hp,e⟩]at hk;exact .inr hk
theorem Fr.less{b:Nat}{ρ:aA}{h g:aa}{w:World}(hs:∀i o,g.get i=some o->h.get i=some o)(hn:h.next<=g.next):Fr b ρ h w ρ g w:=
 ⟨Ext.refl _,rfl,rfl,GP _,λ_ _=>rfl,λ_ _ _=>rfl,λj o pl h1 h2 h3=>.inl ⟨j,o,pl,hs j o h1,h2,h3,rfl⟩,
  λj o h1 _=>hs j o h1,λ_ h h'=>absurd h h',λj o h1 _=>⟨o,hs j o h1⟩,hn⟩
theorem kG.uniq{ops:List Oper}{S S':Nat->Prop}{m m':Nat}(h:kG ops S m)(h':kG ops S' m')(hS:∀(p i k:Nat),(cN ops)[p]? =some (i,k)->(S i↔S' i)):m=m':=by
 rcases W2 m m' with hl|rfl|hl
 . exfalso;have hq:=Er (PX hl h'.1);generalize (cN ops)[m]'(PX hl h'.1)=jk at hq;obtain⟨j,k⟩:=jk;have:=(h.2 _ _ _ hq).1 ((hS _ _ _ hq).2 ((h'.2 _ _ _ hq).2 hl));omega
 . rfl
 . exfalso;have hq:=Er (PX hl h.1);generalize (cN ops)[m']'(PX hl h.1)=jk at hq;obtain⟨j,k⟩:=jk;have:=(h'.2 _ _ _ hq).1 ((hS _ _ _ hq).1 ((h.2 _ _ _ hq).2 hl));omega
structure Rec(e:Env)(cf:eE)(rf:gk)(ro:Option Nat)(ops:List Oper)(s0:aE)(base N:Nat)(xf:cm)(i:Nat)(o:Oper)(id:Nat)(x x':cm)(m inc:Nat)(v:Value):Prop where
 pre:pH s0 base N ops i id x m inc
 step:Step x x' o v
 DO:ow e cf rf ro ops i id ((bf ops).getD i 0) o x x' inc v
 l:iS ops i x xf
 l':iS ops (i+1) x' xf
def wE(e:Env)(x:cm)(bw:List (Nat×aa))(cN:List (Nat×Nat))(i m:Nat)(o:Oper)(t:Tr Value):Prop:=
 (cN.filter λp=> !p.2.testBit i).length<=(cN.filter λp=>m.testBit p.1).length\/
 ∃d v,o.dst=some d/\x.s.t.get d=some v/\∀q∈(bw.drop (cN.filter λp=>m.testBit p.1).length).take ((cN.filter λp=> !p.2.testBit i).length+1-(cN.filter λp=>m.testBit p.1).length),
  ∃h2,aK e (bW q.2 m (x.all.filter λp=> !q.1.testBit p.1)) t o.op=some (.val v h2)
def ni(e:Env)(ops:List Oper)(x:cm)(bw:List (Nat×aa))(cN:List (Nat×Nat)):List (Oper×Nat)->List (Tr Value)->Nat->Prop
 |(o,m)::r,t::ts,i=>(cls o.op=.read->cH ops {x.s with t} o=some true->wE e x bw cN i m o t)/\ni e ops x bw cN r ts (i+1)
 |[],_,_=>True
 |_,_,_=>False
structure oy(e:Env)(dx:Nat->eE)(rf:gk)(ro:Option Nat)(ops:List Oper)(s0:aE)(base N:Nat)(xf:cm):Prop where
 f:sC ops (bf ops)
 zp:∀(i:Nat) (o:Oper),ops[i]? =some o->∃id x x' m inc v,Rec e (dx i) rf ro ops s0 base N xf i o id x x' m inc v
 t0:∀d,(∀(j:Nat) (o:Oper),ops[j]? =some o->o.dst≠some d)->xf.s.t.get d=s0.t.get d
 wF:∀p∈xf.all,base<=p.2.1/\p.2.1<N
 inj:∀p q,p∈xf.all->q∈xf.all->p.2.1=q.2.1->p=q
 LH:(cN ops).length=0\/ni e ops xf xf.bw.reverse (cN ops) (ops.zip (bf ops)) xf.cS.reverse 0
structure Inv(e:Env)(ops:List Oper)(s0:aE)(base N:Nat)(xf:cm)(S:Nat->Prop)(fp:aA)(h0:aa)(w0:World)(ρ:aA)(a:Act)(w:World)(t:Tr Value)(h:aa)(m inc:Nat)(H:aa):Prop where
 closed:∀i,S i->∀j,((bf ops).getD i 0).testBit j=true->S j
 t1:∀(j:Nat) (o:Oper) (d:Tmp),S j->ops[j]? =some o->o.dst=some d->t.get d=xf.s.t.get d
 t2:∀d,(∀(j:Nat) (o:Oper),S j->ops[j]? =some o->o.dst≠some d)->t.get d=s0.t.get d
 rel:cX e ρ {t,n:=s0.n,ds:=s0.ds,h} a w
 fr:Fr base fp h0 w0 ρ h w
 fG:kG ops S m
 iw:xf.bw.reverse[m]? =some (inc,H)
 m1:∀p∈xf.all,S p.1->inc.testBit p.1=false->h.get p.2.1=some p.2.2
 m3:∀k o,H.get k=some o->h.get k=some o
 m4:∀p∈xf.all,inc.testBit p.1=false->H.get p.2.1=none
 m5:h.next=H.next
 mi:N<=H.next
 m6:∀p∈xf.all,¬S p.1->ρ p.2.1=none
 m7:∀j,inc.testBit j=true->S j
theorem wG{ops:List Oper}{k:Nat}{x xf:cm}{q:Nat×aa}{tl:List (Nat×aa)}{m:Nat}(hs:x.bw=q::tl)(hl:x.bw.length=m+1)(l:iS ops k x xf):xf.bw.reverse[m]? =some q:=by
 obtain⟨l,az⟩:=l.bw;rw[az,hs];rw[hs]at hl;simp only[Qc]at hl;rw[adZ,ad0,ad1,ad2 (by simp;omega)];have:m-tl.reverse.length=0:=by simp;omega
 rw[this];rfl
section
variable {cf:eE} {dx:Nat->eE} {rf:gk} {ro:Option Nat} {ops:List Oper} {s0:aE} {base N:Nat} {xf:cm} {S:Nat->Prop} {fp:aA} {h0:aa} {w0:World} {ρ:aA} {a:Act} {w:World} {t:Tr Value} {h:aa} {m inc:Nat} {H:aa}
variable {i:Nat} {o:Oper} {id:Nat} {x x':cm} {mc ai:Nat} {v:Value}
theorem Inv.same(I:Inv e ops s0 base N xf S fp h0 w0 ρ a w t h m inc H)(G:oy e dx rf ro ops s0 base N xf)(R:Rec e cf rf ro ops s0 base N xf i o id x x' mc ai v)(ho:ops[i]? =some o)(hi:¬S i)
 (hm:∀j,((bf ops).getD i 0).testBit j=true->S j):Same t x.s.t o.op.operands.toList:=by
 intro d hd;by_cases hw:∃(j:Nat) (p:Oper),ops[j]? =some p/\p.dst=some d
 . obtain⟨j,p,hj,ab⟩:=hw;obtain⟨u1,u2,u3⟩:=G.f.use j p i o d hj ho ab hd;rcases Nat.lt_or_gt_of_ne u1 with hl|hl
   . rw[I.t1 j p d (hm j (u2 hl)) hj ab];refine R.l.t d λk q hk hq ae=> ?_;have:=G.f.once j p k q d hj hq ab ae;omega
   . have aB:¬S j:=λhS=>hi (I.closed j hS i (u3 hl));rw[I.t2 d λk q hS hq ae=>aB (G.f.once k q j p d hq hj ae ab▸hS)];refine(R.pre.t d λk q hk hq ae=> ?_).symm;have:=G.f.once j p k q d hj hq ab ae;omega
 . rw[I.t2 d λj p _ hj ab=>hw ⟨j,p,hj,ab⟩];exact(R.pre.t d λj p _ hj ab=>hw ⟨j,p,hj,ab⟩).symm
theorem Inv.wanted(I:Inv e ops s0 base N xf S fp h0 w0 ρ a w t h m inc H)(G:oy e dx rf ro ops s0 base N xf)(R:Rec e cf rf ro ops s0 base N xf i o id x x' mc ai v)(ho:ops[i]? =some o)
 (hm:∀j,((bf ops).getD i 0).testBit j=true->S j):cH ops {t,n:=s0.n,ds:=s0.ds,h} o=cH ops x.s o:=by
 unfold cH;cases hg:o.guard with
 |none=>rfl
 |some jw=>
  obtain⟨j,want⟩:=jw;simp only;cases hd:(ops[j]?).bind (·.dst)with
  |none=>rfl
  |some d=>
   obtain⟨p,hj,ab⟩:=nc hd;have hb:=G.f.guard i o j want ho hg;have aD:=wB G.f i o j ho hb;have e1:t.get d=xf.s.t.get d:=I.t1 j p d (hm j hb) hj ab;have e2:xf.s.t.get d=x.s.t.get d:=R.l.t d λk q hk hq ae=>by
    have:=G.f.once j p k q d hj hq ab ae;omega
   simp only[e1,e2]
theorem Inv.next(I:Inv e ops s0 base N xf S fp h0 w0 ρ a w t h m inc H)(G:oy e dx rf ro ops s0 base N xf)(R:Rec e cf rf ro ops s0 base N xf i o id x x' mc ai v)(ho:ops[i]? =some o)(hi:¬S i)
 (hm:∀j,((bf ops).getD i 0).testBit j=true->S j) {S':Nat->Prop} (hS:∀j,S' j↔S j\/j=i) {av:aA} {a':Act} {w':World} {h':aa} {m' ad:Nat} {H':aa}
 (rel:cX e av {t:=iR t o.dst v,n:=s0.n,ds:=s0.ds,h:=h'} a' w') (fr:Fr base ρ h w av h' w') (fresh:∀p∈xf.all,p.1≠i->ρ p.2.1=none->av p.2.1=none)
 (fG:kG ops S' m') (iw:xf.bw.reverse[m']? =some (ad,H')) (m1:∀p∈xf.all,S' p.1->ad.testBit p.1=false->h'.get p.2.1=some p.2.2)
 (m3:∀k o,H'.get k=some o->h'.get k=some o) (m4:∀p∈xf.all,ad.testBit p.1=false->H'.get p.2.1=none) (m5:h'.next=H'.next) (mi:N<=H'.next) (m7:∀j,ad.testBit j=true->S' j):
 Inv e ops s0 base N xf S' fp h0 w0 av a' w' (iR t o.dst v) h' m' ad H':=by
 refine⟨λk hk j hj=> ?_,λj p d hj hp hd=> ?_,λd hd=> ?_,rel,I.fr.trans fr,fG,iw,m1,m3,m4,m5,mi,λp hp hn=> ?_,m7⟩
 . rw[hS]at hk⊢;rcases hk with hk|rfl
   . exact .inl (I.closed k hk j hj)
   . exact .inl (hm j hj)
 . rw[sD];by_cases ao:o.dst=some d
   . rw[if_pos ao,R.l'.t d λk q hk hq ae=>by
      have:=G.f.once i o k q d ho hq ao ae;omega,R.step.t,sD,if_pos ao]
   . rw[if_neg ao];rcases(hS j).1 hj with aC|rfl
     . exact I.t1 j p d aC hp hd
     . rw[ho]at hp;cases hp;exact absurd hd ao
 . rw[sD,if_neg (hd i o ((hS i).2 (.inr rfl)) ho)];exact I.t2 d λj p hj hp=>hd j p ((hS j).2 (.inl hj)) hp
 . have h1:¬S p.1:=λhs=>hn ((hS _).2 (.inl hs));have h2:p.1≠i:=λhs=>hn ((hS _).2 (.inr hs));exact fresh p hp h2 (I.m6 p hp h1)
end
end Go.au
end
noncomputable section
namespace Go.au
variable {e:Env}
theorem DP{ops:List Oper}{x:cm}{bw:List (Nat×aa)}{ef:List (Nat×Nat)}:∀(oms:List (Oper×Nat)) (ts:List (Tr Value)) (k:Nat),ni e ops x bw ef oms ts k->
 ∀(j:Nat) (o:Oper) (m:Nat),oms[j]? =some (o,m)->∃t,ts[j]? =some t/\(cls o.op=.read->cH ops {x.s with t} o=some true->wE e x bw ef (k+j) m o t)
 |[],_,_,_,j,o,m,hj=>by simp at hj
 |(o0,m0)::r,[],_,h,_,_,_,_=>by simp[ni]at h
 |(o0,m0)::r,t::ts,k,h,j,o,m,hj=>by
  simp only[ni]at h;cases j with
  |zero=>
   simp only[List.getElem?_cons_zero,VK,Prod.mk.injEq]at hj;obtain⟨rfl,rfl⟩:=hj;exact⟨t,rfl,h.1⟩
  |succ j=>
   obtain⟨t',h1,h2⟩:=DP r ts (k+1) h.2 j o m (by simpa using hj);exact⟨t',by simpa using h1,λhc hw=>by have:=h2 hc hw;rwa[show k+1+j=k+(j+1) by omega]at this⟩
section
variable {cf:eE} {dx:Nat->eE} {rf:gk} {ro aZ:Option Nat} {ops:List Oper} {s0:aE} {base N:Nat} {xf:cm} {S:Nat->Prop} {fp:aA} {h0:aa} {w0:World} {ρ:aA} {a:Act} {w:World} {t:Tr Value} {h:aa} {m inc:Nat} {H:aa}
variable {i:Nat} {o:Oper} {id:Nat} {x x':cm} {mc ab:Nat} {v:Value}
theorem Rec.snap(R:Rec e cf rf ro ops s0 base N xf i o id x x' mc ab v):xf.cS.reverse[i]? =some x.s.t:=by
 obtain⟨l,hl⟩:=R.l'.cS;rw[hl,R.step.cS,adZ,ad0,ad1,ad2 (by simp[R.pre.cS])];simp[R.pre.cS]
theorem Rec.val(R:Rec e cf rf ro ops s0 base N xf i o id x x' mc ab v)(G:oy e dx rf ro ops s0 base N xf)(ho:ops[i]? =some o){d:Tmp}(hd:o.dst=some d):xf.s.t.get d=some v:=by
 rw[R.l'.t d λk q hk hq bF=>by
  have:=G.f.once i o k q d ho hq hd bF;omega,R.step.t,sD,if_pos hd]
theorem Rec.iw(R:Rec e cf rf ro ops s0 base N xf i o id x x' mc ab v):xf.bw.reverse[mc]? =some (ab,x.s.h):=by
 obtain⟨tl,bb⟩:=R.pre.iw;exact wG bb R.pre.len R.l
theorem Rec.DQ(R:Rec e cf rf ro ops s0 base N xf i o id x x' mc ab v){q:Nat×aa}(hs:x'.bw=q::x.bw):xf.bw.reverse[mc+1]? =some q:=
 wG hs (by rw[hs,Qc,R.pre.len]) R.l'
theorem Inv.at(I:Inv e ops s0 base N xf S fp h0 w0 ρ a w t h m inc H)(G:oy e dx rf ro ops s0 base N xf)(R:Rec e cf rf ro ops s0 base N xf i o id x x' mc ab v)(ho:ops[i]? =some o)(hi:¬S i)
 (hm:∀j,((bf ops).getD i 0).testBit j=true->S j) (hc:cls o.op=.effect):mc=m/\ab=inc/\x.s.h=H:=by
 have h1:m=mc:=I.fG.uniq R.pre.fG λp j k hp=>by
  obtain⟨q,q1,q2,q3⟩:=ux hp;constructor
  . intro hS;rcases W2 j i with hl|rfl|hl
    . exact hl
    . exact absurd hS hi
    . exact absurd (I.closed j hS i (G.f.cN i o j q ho q1 hc q3 hl)) hi
  . intro hl;exact hm j (G.f.cN j q i o q1 ho q3 hc hl)
 subst h1;have:=R.iw;rw[I.iw]at this;cases this;exact⟨rfl,rfl,rfl⟩
theorem Inv.read(I:Inv e ops s0 base N xf S fp h0 w0 ρ a w t h m inc H)(G:oy e dx rf ro ops s0 base N xf)(R:Rec e cf rf ro ops s0 base N xf i o id x x' mc ab v)(ho:ops[i]? =some o)(hi:¬S i)
 (hm:∀j,((bf ops).getD i 0).testBit j=true->S j) (hc:cls o.op=.read) (hw:cH ops x.s o=some true) {h1:aa} (hr:aK e (bW x.s.h ((bf ops).getD i 0) x.aq) x.s.t o.op=some (.val v h1)):
 ∃L h2,(∀p∈L,p∈xf.all/\inc.testBit p.1=false)/\aK e (bW H ((bf ops).getD i 0) L) x.s.t o.op=some (.val v h2):=by
 have same:mc=m->∃L h2,(∀p∈L,p∈xf.all/\inc.testBit p.1=false)/\aK e (bW H ((bf ops).getD i 0) L) x.s.t o.op=some (.val v h2):=λe1=>by
  subst e1;have:=R.iw;rw[I.iw]at this;cases this;refine⟨x.aq,h1,λp hp=> ?_,hr⟩;obtain⟨q1,q2⟩:=(R.pre.aq p).1 hp;obtain⟨l,hl,_⟩:=R.l.all;exact⟨by rw[hl];exact abR _ q1,q2⟩
 rcases G.LH with h3|h3
 . have e1:=I.fG.1;have e2:=R.pre.fG.1;exact same (by omega)
 . obtain⟨T,t1,t2⟩:=DP _ _ _ h3 i o _ (zl ho);rw[R.snap]at t1;cases t1;have t3:=t2 hc hw;rw[Nat.zero_add]at t3;unfold wE at t3;have lo:∀{S':Nat->Prop} {m':Nat},kG ops S' m'->(∀j,((bf ops).getD i 0).testBit j=true->S' j)->((cN ops).filter λp=>((bf ops).getD i 0).testBit p.1).length<=m':=λ{S' m'} hE bg=>by
    refine filter_le _ _ _ λq a hq hf=> ?_;obtain⟨j,k⟩:=a;exact(hE.2 _ _ _ hq).1 (bg j hf)
   have bx:∀{S':Nat->Prop} {m':Nat},kG ops S' m'->¬S' i->(∀k,S' k->∀j,((bf ops).getD k 0).testBit j=true->S' j)->m'<=((cN ops).filter λp=> !p.2.testBit i).length:=λ{S' m'} hE bg bG=>by
    refine le_filter _ _ _ hE.1 λq a hq hf=> ?_;obtain⟨j,k⟩:=a;obtain⟨o',q1,q2,q3⟩:=ux hf;simp only[q2,adX];cases hb:((bf ops).getD j 0).testBit i with
    |false=>rfl
    |true=>exact absurd (bG j ((hE.2 _ _ _ hf).2 hq) i hb) bg
   have l1:=lo I.fG hm;have l2:=bx I.fG hi I.closed;have l3:=lo R.pre.fG λj hj=>wB G.f i o j ho hj;have hn:i<ops.length:=(DE.1 ho).1;have l4:=bx R.pre.fG (Xw _) λk hk j hj=>W9 (wB G.f k _ j (Er (W9 hk hn)) hj) hk;generalize ((cN ops).filter λp=>((bf ops).getD i 0).testBit p.1).length=aM at*;generalize ((cN ops).filter λp=> !p.2.testBit i).length=dE at*;rcases t3 with t3|⟨d,v',hd,bz,t3⟩
   . exact same (by omega)
   . rcases Nat.lt_or_ge aM dE with aQ|bO
     . rw[R.val G ho hd]at bz;cases bz;have bk:(inc,H)∈(xf.bw.reverse.drop aM).take (dE+1-aM):=by
        refine List.mem_of_getElem? (i:=m-aM) ?_;rw[List.getElem?_take,if_pos (by omega),List.getElem?_drop,show aM+(m-aM)=m by omega];exact I.iw
       obtain⟨h2,aF⟩:=t3 _ bk;refine⟨_,h2,λp hp=> ?_,aF⟩;rw[ZL]at hp;exact⟨hp.1,by simpa using hp.2⟩
     . exact same (by omega)
theorem Inv.sub(I:Inv e ops s0 base N xf S fp h0 w0 ρ a w t h m inc H){mk:Nat}(hm:∀j,mk.testBit j=true->S j){L:cZ}(hL:∀p∈L,p∈xf.all/\inc.testBit p.1=false):∀k o,(bW H mk L).get k=some o->h.get k=some o:=by
 intro k o hk;rcases zm hk with⟨p,h1,h2,h3,h4⟩|h1
 . subst h3;subst h4;exact I.m1 p (hL p h1).1 (hm _ h2) (hL p h1).2
 . exact I.m3 k o h1
theorem DR{s:aE}{h':aa}(hr:aK e s.h s.t o.op=some (.val v h'))(hl:∀d,o.dst=some d->d<s.n):ma e cf rf ro o s=some {s with t:=iR s.t o.dst v,h:=h'}:=by
 simp only[wi,hr];exact wD (s:={s with h:=h'}) v hl
theorem LI{c:Call}(h:o.op=.defer c):cls o.op=.bad:=by rw[h];rfl
theorem Inv.step(he:e.Ok)(bl:ng e cf)(bm:uq e rf)(bI:gN fp ro aZ)(I:Inv e ops s0 base N xf S fp h0 w0 ρ a w t h m inc H)(G:oy e dx rf ro ops s0 base N xf)
 (R:Rec e cf rf ro ops s0 base N xf i o id x x' mc ab v) (ho:ops[i]? =some o) (hi:¬S i) (hm:∀j,((bf ops).getD i 0).testBit j=true->S j) {S':Nat->Prop} (hS:∀j,S' j↔S j\/j=i)
 {qE:Array Oper} (ad:qE.toList=ops) (n:Nat) {Q:Exit->Act->World->Prop} {K:Act->World->Prop}
 (hK:∀aN a' w' t' h' m' bo H',Inv e ops s0 base N xf S' fp h0 w0 aN a' w' t' h' m' bo H'->K a' w'):wpOpIn (FF aZ) n e.P qE Q i K a w:=by
 have bJ:qE[i]? =some o:=by rw[<-ad]at ho;simpa using ho
 have aQ:∀d,o.dst=some d->d<s0.n:=λd hd=>by rw[<-R.pre.n];exact R.step.lt d hd
 have af:=I.same G R ho hi hm;have aI:gN ρ ro aZ:=bI.mono I.fr.ext;have ae:∀{aN:aA} {h':aa} {w':World} {g:aa} {b:Nat},N<=b->Fr b ρ g w aN h' w'->∀p∈xf.all,p.1≠i->ρ p.2.1=none->aN p.2.1=none:=λ{aN h' w' g b} hb hf p hp _ hn=>by
  cases hx:aN p.2.1 with
  |none=>rfl
  |some pl=>
   have h1:=hf.ids _ hn (by rw[hx];exactλh=>by cases h);have h2:=(G.wF p hp).2;omega
 have ao:base<=N:=by
  have h1:=R.pre.ge;have h2:=R.pre.sum;omega
 unfold wpOpIn;simp only[bJ];have W:=I.wanted G R ho hm;rw[<-ad]at W;have bP:S i->∀p∈xf.all,S p.1->inc.testBit p.1=false->h.get p.2.1=some p.2.2:=λ_=>I.m1;have av:∀p∈xf.all,p.1=i->cls o.op≠.alloc->False:=λp hp e1 hc=>by
  obtain⟨l,hl,aS⟩:=R.l'.all;rw[hl,Zj]at hp;rcases hp with hp|hp
  . have:=aS p hp;omega
  . have aL:x'.all=x.all:=by
     cases R.DO with
     |skip _ _ _ h2 _ _ _=>exact h2
     |pure _ _ _ _ _ h2 _ _=>exact h2
     |read _ _ _ _ _ h2 _ _=>exact h2
     |alloc _ _ _ bp _ _ _ _ _ _=>exact absurd bp hc
     |effect _ _ _ _ _ _ _ _ h2 _=>exact h2
    rw[aL]at hp;have:=(R.pre.ox p hp).1;omega
 cases R.DO with
 |skip hw hv h1 h2 h3 h4 h5=>
  subst hv;have aL:∀p∈xf.all,p.1≠i:=λp hp e1=>by
   obtain⟨l,hl,aS⟩:=R.l'.all;rw[hl,Zj]at hp;rcases hp with hp|hp
   . have:=aS p hp;omega
   . rw[h2]at hp;have:=(R.pre.ox p hp).1;omega
  rw[ad]at W;rw[hw,<-ad]at W;rw[ou W I.rel,if_neg (by simp)];refine⟨λf _=>trivial, ?_⟩;obtain⟨p1,_⟩:=mh I.rel (wD undef aQ) (ur ρ);have bA:∀p∈xf.all,S' p.1->inc.testBit p.1=false->h.get p.2.1=some p.2.2:=λp hp hs hb=>I.m1 p hp (((hS _).1 hs).resolve_right (aL p hp)) hb;have bB:∀j,inc.testBit j=true->S' j:=λj hj=>(hS j).2 (.inl (I.m7 j hj));by_cases hc:cls o.op=.effect
  . obtain⟨q1,q2,q3⟩:=I.at G R ho hi hm hc;subst q1;subst q2;subst q3;exact hK _ _ _ _ _ _ _ _ (I.next G R ho hi hm hS p1 (Fr.refl _ _ _ _) (λ_ _ _ hn=>hn) (I.fG.more G.f ho hc hi hm hS).1 (R.DQ (h4 hc)) bA I.m3 I.m4 I.m5 I.mi bB)
  . exact hK _ _ _ _ _ _ _ _ (I.next G R ho hi hm hS p1 (Fr.refl _ _ _ _) (λ_ _ _ hn=>hn) (I.fG.same ho hc hS) I.iw bA I.m3 I.m4 I.m5 I.mi bB)
 |pure hh hw hc hr h1 h2 h3 h4=>
  rw[ad]at W;rw[hw,<-ad]at W;rw[ou W I.rel,if_pos rfl];have aT:cls o.op≠.alloc:=by rw[hc];decide
  have aF:aK e h t o.op=some (.val v h):=by rw[zi af];exact Ly hc hr h
  refine uu he bl bm (DR (s:={t,n:=s0.n,ds:=s0.ds,h}) aF aQ) I.rel aI n λa1 w1 aP x1 f1=> ?_;have az:N<=h.next:=by rw[I.m5];exact I.mi
  refine hK _ _ _ _ _ _ _ _ (I.next G R ho hi hm hS x1 (f1.mono (xS ao az)) (ae az f1) (I.fG.same ho (by rw[hc];decide) hS) I.iw ?_ I.m3 I.m4 I.m5 I.mi λj hj=>(hS j).2 (.inl (I.m7 j hj)));exactλp hp hs hb=>I.m1 p hp (((hS _).1 hs).resolve_right λe1=>av p hp e1 aT) hb
 |read hh hw hc hr h1 h2 h3 h4=>
  obtain⟨L,bQ,hL,aF⟩:=I.read G R ho hi hm hc hw hr;rw[ad]at W;rw[hw,<-ad]at W;rw[ou W I.rel,if_pos rfl];have aT:cls o.op≠.alloc:=by rw[hc];decide
  have ai:=I.sub hm hL;have aU:(bW H ((bf ops).getD i 0) L).next=h.next:=by rw[sE,I.m5]
  have bq:=Lx hc aF;subst bq;rw[<-zi af]at aF;have rel:cX e ρ {t,n:=s0.n,ds:=s0.ds,h:=bW H ((bf ops).getD i 0) L} a w:=⟨I.rel.g,I.rel.t,I.rel.d,I.rel.m.sub ai (ab8 aU.symm)⟩;refine uu he bl bm (DR (s:={t,n:=s0.n,ds:=s0.ds,h:=bW H ((bf ops).getD i 0) L}) aF aQ) rel aI n λa1 w1 aP x1 f1=> ?_;have az:N<=(bW H ((bf ops).getD i 0) L).next:=by rw[sE];exact I.mi
  have f2:Fr base ρ (bW H ((bf ops).getD i 0) L) w aP (bW H ((bf ops).getD i 0) L) w1:=f1.mono (xS ao az);obtain⟨y1,y2⟩:=bh.extend (u':=h) I.rel.m ai x1.m f2 (λk ob hk=>by
   cases hg:(bW H ((bf ops).getD i 0) L).get k with
   |none=>exact .inr ⟨hk,rfl⟩
   |some bc=>
    have:=ai k bc hg;have bL:h.get k=some ob:=hk;rw[bL]at this;cases this;exact .inl rfl) (GP _) (ab8 aU)
  refine hK _ _ _ _ _ _ _ _ (I.next G R ho hi hm hS (h':=h) ⟨x1.g,x1.t,x1.d,y1⟩ y2 (ae az f1) (I.fG.same ho (by rw[hc];decide) hS) I.iw ?_ I.m3 I.m4 I.m5 I.mi λj hj=>(hS j).2 (.inl (I.m7 j hj)));exactλp hp hs hb=>I.m1 p hp (((hS _).1 hs).resolve_right λe1=>av p hp e1 aT) hb
 |alloc ob f hw hc hr hv h1 h2 h3 h4=>
  subst hv;rw[ad]at W;rw[hw,<-ad]at W;rw[ou W I.rel,if_pos rfl];have bd:(i,id,ob)∈xf.all:=by
   obtain⟨l,hl,_⟩:=R.l'.all;rw[hl,h2];exact abR _ (ZJ ..)
  have bD:=G.wF _ bd;have bs:inc.testBit i=false:=by
   cases hb:inc.testBit i with
   |false=>rfl
   |true=>exact absurd (I.m7 i hb) hi
  have aB:∀p∈xf.all,p.2.1=id->p=(i,id,ob):=λp hp e1=>G.inj p _ hp bd e1;have slot:Slot base ρ h id ob (h.set id (some ob)):=
   ⟨I.m6 _ bd hi,bD.1,λj=>aa.bn _ _ _ _,GP _,PX bD.2 (by rw[aa.aR,I.m5];exact I.mi)⟩
  rw[<-DF af]at hr;obtain⟨v',w1,aP,k1,k2,k3,k4,k5⟩:=Df he (ds:=a.defers) I.rel.g I.rel.t I.rel.m hr slot;have bt:Oper.semAt (FF aZ).round a.eval o=execOp a.eval o:=Oper.semAt_eq _ _ _ λc bp=>by
   rw[LI bp]at hc;cases hc
  refine⟨λf _=>trivial, ?_⟩;have ha:(Act.mk a.tmps a.defers)=a:=rfl;rw[ha]at k1;rw[bt,k1,Oper.uponIn_value];have rel:cX e aP {t,n:=s0.n,ds:=s0.ds,h:=h.set id (some ob)} a w1:=⟨I.rel.g.mono k4.ext,I.rel.t.mono k4.ext,I.rel.d.mono λ_ _=>ot.mono k4.ext,k3⟩;obtain⟨p1,_⟩:=mh rel (wD (f id) aQ) k2;refine hK _ _ _ _ _ _ _ _ (I.next G R ho hi hm hS p1 k4 (λp hp bM hn=> ?_) (I.fG.same ho (by rw[hc];decide) hS) I.iw (λp hp hs hb=> ?_) (λk bc hk=> ?_) I.m4 ?_ I.mi λj hj=>(hS j).2 (.inl (I.m7 j hj)))
  . rw[k5 _ λe1=>bM (by rw[aB p hp e1])];exact hn
  . rw[aa.bn];by_cases e1:p.2.1=id
    . rw[if_pos e1,aB p hp e1]
    . rw[if_neg e1];refine I.m1 p hp (((hS _).1 hs).resolve_right λe2=> ?_) hb;obtain⟨l,hl,aS⟩:=R.l'.all;rw[hl,Zj]at hp;rcases hp with hp|hp
      . have:=aS p hp;omega
      . rw[h2,PO]at hp;rcases hp with rfl|hp
        . exact e1 rfl
        . have:=(R.pre.ox p hp).1;omega
  . rw[aa.bn];by_cases e1:k=id
    . rw[e1,I.m4 _ bd bs]at hk;cases hk
    . rw[if_neg e1];exact I.m3 k bc hk
  . rw[aa.aR];exact I.m5
 |effect s1 hw hc hr ht hh bN h1 h2 h3=>
  obtain⟨q1,q2,q3⟩:=I.at G R ho hi hm hc;subst q1;subst q2;subst q3;rw[ad]at W;rw[hw,<-ad]at W;rw[ou W I.rel,if_pos rfl];have aT:cls o.op≠.alloc:=by rw[hc];decide
  have hL:∀p∈x.aq,p∈xf.all/\ab.testBit p.1=false:=λp hp=>by
   obtain⟨q1,q2⟩:=(R.pre.aq p).1 hp;obtain⟨l,hl,_⟩:=R.l.all;exact⟨by rw[hl];exact abR _ q1,q2⟩
  have ai:=I.sub hm hL;have aU:(bW x.s.h ((bf ops).getD i 0) x.aq).next=h.next:=by rw[sE,I.m5]
  have bb:ma e cf rf ro o {t,n:=x.s.n,ds:=x.s.ds,h:=bW x.s.h ((bf ops).getD i 0) x.aq}=some {t:=iR t o.dst v,n:=x.s.n,ds:=x.s.ds,h:=x'.s.h}:=bN t af;rw[R.pre.n,R.pre.ds]at bb;have rel:cX e ρ {t,n:=s0.n,ds:=s0.ds,h:=bW x.s.h ((bf ops).getD i 0) x.aq} a w:=⟨I.rel.g,I.rel.t,I.rel.d,I.rel.m.sub ai (ab8 aU.symm)⟩;refine uu he bl bm bb rel aI n λa1 w1 aP x1 f1=> ?_;have az:N<=(bW x.s.h ((bf ops).getD i 0) x.aq).next:=by rw[sE];exact I.mi
  have f2:Fr base ρ (bW x.s.h ((bf ops).getD i 0) x.aq) w aP x'.s.h w1:=f1.mono (xS ao az);have bu:∀j,(qe ab ((bf ops).getD i 0)).testBit j=(ab.testBit j||((bf ops).getD i 0).testBit j):=λj=>Nat.testBit_or _ _ _;have aC:∀p∈xf.all,(qe ab ((bf ops).getD i 0)).testBit p.1=false->(bW x.s.h ((bf ops).getD i 0) x.aq).get p.2.1=none:=λp hp hb=>by
   rw[bu,Z4]at hb;cases hg:(bW x.s.h ((bf ops).getD i 0) x.aq).get p.2.1 with
   |none=>rfl
   |some ob=>
    rcases zm hg with⟨q,g1,g2,g3,g4⟩|g1
    . have:=G.inj q p (hL q g1).1 hp g3;subst this;rw[hb.2]at g2;cases g2
    . rw[I.m4 p hp hb.1]at g1;cases g1
  have aw:∀p∈xf.all,(qe ab ((bf ops).getD i 0)).testBit p.1=false->x'.s.h.get p.2.1=none:=λp hp hb=>by
   cases hg:x'.s.h.get p.2.1 with
   |none=>rfl
   |some ob=>
    obtain⟨bc,h5⟩:=f1.aY _ _ hg (PX (G.wF p hp).2 az);rw[aC p hp hb]at h5;cases h5
  classical
  let L2:=xf.all.filter λp=>decide (S' p.1/\(qe ab ((bf ops).getD i 0)).testBit p.1=false)
  have aW:∀p,p∈L2↔p∈xf.all/\S' p.1/\(qe ab ((bf ops).getD i 0)).testBit p.1=false:=λp=>by
   simp only[L2,ZL,decide_eq_true_eq]
  have aD:∀p q,p∈L2->q∈L2->p.2.1=q.2.1->p=q:=λp q hp hq=>G.inj p q ((aW p).1 hp).1 ((aW q).1 hq).1;obtain⟨y1,y2⟩:=bh.extend (u':=eO x'.s.h L2) I.rel.m ai x1.m f2 (λk ob hk=>by
   rcases DN aD hk with⟨p,hp,rfl,rfl⟩|hk
   . obtain⟨g1,g2,g3⟩:=(aW p).1 hp;refine .inr ⟨?_,aC p g1 g3⟩;have g4:ab.testBit p.1=false:=by rw[bu,Z4]at g3;exact g3.1
     exact I.m1 p g1 (((hS _).1 g2).resolve_right λe1=>av p g1 e1 aT) g4
   . exact .inl hk) (by
     rw[uz];show h.next<=x'.s.h.next;rw[<-aU];exact f1.next) (by rw[uz];exact GP _)
  have aX:N<=x'.s.h.next:=xS az f1.next;refine hK _ _ _ _ _ _ _ _ (I.next G R ho hi hm hS (h':=eO x'.s.h L2) ⟨x1.g,x1.t,x1.d,y1⟩ y2 (ae az f1) (I.fG.more G.f ho hc hi hm hS).1 (R.DQ h3) (λp hp hs hb=> ?_) (λk ob hk=> ?_) (λp hp hb=>aw p hp hb) (uz _ _) aX λj hj=> ?_)
  . exact zn aD p ((aW p).2 ⟨hp,hs,hb⟩)
  . by_cases hx:∃p∈L2,p.2.1=k
    . obtain⟨p,hp,rfl⟩:=hx;obtain⟨g1,g2,g3⟩:=(aW p).1 hp;rw[aw p g1 g3]at hk;cases hk
    . rw[zo λp hp e1=>hx ⟨p,hp,e1⟩];exact hk
  . rw[bu,adY]at hj;rcases hj with hj|hj
    . exact(hS j).2 (.inl (I.m7 j hj))
    . exact(hS j).2 (.inl (hm j hj))
end
end Go.au
end

/- SpacingSuffixes: parts of its proof (AbsL4 AbsL5 AbsL6 AbsP). -/
import Derived.Test.YtaheljlbchkpcaaGreatDoorK06
import Derived.Test.YtaheljlbchkpcaaGreatDoorK07
set_option linter.unusedVariables false
set_option linter.unusedSimpArgs false
noncomputable section
namespace Go.aw
variable {e:Env}
theorem uz(h:aa)(m:Nat):∀L:dz,(cg h m L).next=h.next
 |[]=>rfl
 |(i,id,o)::r=>by
  simp only[cg];cases m.testBit i with
  |true=>exact uz h m r
  |false=>exact uz h m r
theorem AP{h:aa}{m:Nat}:∀{L:dz} {k:Nat} {o:bK},(cg h m L).get k=some o->(∃p∈L,m.testBit p.1=true/\p.2.1=k/\p.2.2=o)\/h.get k=some o
 |[],k,o,hk=>.inr hk
 |(i,id,ob)::r,k,o,hk=>by
  simp only[cg]at hk;have tail:(cg h m r).get k=some o->(∃p∈(i,id,ob)::r,m.testBit p.1=true/\p.2.1=k/\p.2.2=o)\/h.get k=some o:=λht=>by
   rcases AP ht with⟨p,h1,h2⟩|h1
   . exact .inl ⟨p,List.mem_cons_of_mem _ h1,h2⟩
   . exact .inr h1
  cases hb:m.testBit i with
  |true=>
   simp only[hb,cond_true,aa.bw]at hk;by_cases af:k=id
   . rw[if_pos af]at hk;cases hk;exact .inl ⟨(i,id,ob),List.mem_cons_self ..,hb,af.symm,rfl⟩
   . rw[if_neg af]at hk;exact tail hk
  |false=>simp only[hb,cond_false]at hk;exact tail hk
theorem wx(h:aa):∀L:dz,(fw h L).next=h.next
 |[]=>rfl
 |(_,_,_)::r=>wx h r
theorem AQ{h:aa}:∀{L:dz},(∀p q,p∈L->q∈L->p.2.1=q.2.1->p=q)->∀p∈L,(fw h L).get p.2.1=some p.2.2
 |[],_,p,hp=>by cases hp
 |(i,id,o)::r,hi,p,hp=>by
  simp only[fw,aa.bw];by_cases hk:p.2.1=id
  . have:=hi p (i,id,o) hp (List.mem_cons_self ..) hk;subst this;simp
  . rw[if_neg hk];rcases List.mem_cons.1 hp with rfl|av
    . exact absurd rfl hk
    . exact AQ (λp q h1 h2=>hi p q (List.mem_cons_of_mem _ h1) (List.mem_cons_of_mem _ h2)) p av
theorem AS{h:aa}{k:Nat}:∀{L:dz},(∀p∈L,p.2.1≠k)->(fw h L).get k=h.get k
 |[],_=>rfl
 |(i,id,o)::r,hk=>by
  simp only[fw,aa.bw];rw[if_neg (λe=>hk (i,id,o) (List.mem_cons_self ..) e.symm)];exact AS λp hp=>hk p (List.mem_cons_of_mem _ hp)
theorem Fc{h:aa}{L:dz}(hi:∀p q,p∈L->q∈L->p.2.1=q.2.1->p=q){k:Nat}{o:bK}(hk:(fw h L).get k=some o):(∃p∈L,p.2.1=k/\p.2.2=o)\/h.get k=some o:=by
 by_cases hx:∃p∈L,p.2.1=k
 . obtain⟨p,hp,rfl⟩:=hx;rw[AQ hi p hp]at hk;cases hk;exact .inl ⟨p,hp,rfl,rfl⟩
 . rw[AS λp hp e=>hx ⟨p,hp,e⟩]at hk;exact .inr hk
theorem Fr.less{b:Nat}{ρ:ay}{h g:aa}{w:World}(hs:∀i o,g.get i=some o->h.get i=some o)(hn:h.next<=g.next):Fr b ρ h w ρ g w:=
 ⟨Ext.refl _,rfl,rfl,Nat.le_refl _,λ_ _=>rfl,λ_ _ _=>rfl,λj o pl h1 h2 h3=>.inl ⟨j,o,pl,hs j o h1,h2,h3,rfl⟩,
  λj o h1 _=>hs j o h1,λ_ h h'=>absurd h h',λj o h1 _=>⟨o,hs j o h1⟩,hn⟩
theorem lz.uniq{ops:List Oper}{S S':Nat->Prop}{m m':Nat}(h:lz ops S m)(h':lz ops S' m')(hS:∀(p i k:Nat),(dc ops)[p]? =some (i,k)->(S i↔S' i)):m=m':=by
 rcases Nat.lt_trichotomy m m' with hl|rfl|hl
 . exfalso;have hq:=List.getElem?_eq_getElem (Nat.lt_of_lt_of_le hl h'.1);generalize (dc ops)[m]'(Nat.lt_of_lt_of_le hl h'.1)=jk at hq;obtain⟨j,k⟩:=jk;have:=(h.2 _ _ _ hq).1 ((hS _ _ _ hq).2 ((h'.2 _ _ _ hq).2 hl));omega
 . rfl
 . exfalso;have hq:=List.getElem?_eq_getElem (Nat.lt_of_lt_of_le hl h.1);generalize (dc ops)[m']'(Nat.lt_of_lt_of_le hl h.1)=jk at hq;obtain⟨j,k⟩:=jk;have:=(h'.2 _ _ _ hq).1 ((hS _ _ _ hq).1 ((h.2 _ _ _ hq).2 hl));omega
structure Rec(e:Env)(cf:ff)(rf:gW)(ro:Option Nat)(ops:List Oper)(s0:aE)(base N:Nat)(xf:cH)(i:Nat)(o:Oper)(id:Nat)(x x':cH)(m inc:Nat)(v:Value):Prop where
 pre:qM s0 base N ops i id x m inc
 step:Step x x' o v
 Fe:pM e cf rf ro ops i id ((bl ops).getD i 0) o x x' inc v
 l:jF ops i x xf
 l':jF ops (i+1) x' xf
def yj(e:Env)(x:cH)(bE:List (Nat×aa))(dc:List (Nat×Nat))(i m:Nat)(o:Oper)(t:Tr Value):Prop:=
 (dc.filter λp=> !p.2.testBit i).length<=(dc.filter λp=>m.testBit p.1).length\/
 ∃d v,o.dst=some d/\x.s.t.get d=some v/\∀q∈(bE.drop (dc.filter λp=>m.testBit p.1).length).take ((dc.filter λp=> !p.2.testBit i).length+1-(dc.filter λp=>m.testBit p.1).length),
  ∃h2,aL e (cg q.2 m (x.all.filter λp=> !q.1.testBit p.1)) t o.op=some (.val v h2)
def ou(e:Env)(ops:List Oper)(x:cH)(bE:List (Nat×aa))(dc:List (Nat×Nat)):List (Oper×Nat)->List (Tr Value)->Nat->Prop
 |(o,m)::r,t::ts,i=>(cls o.op=.read->cY ops {x.s with t} o=some true->yj e x bE dc i m o t)/\ou e ops x bE dc r ts (i+1)
 |[],_,_=>True
 |_,_,_=>False
structure pO(e:Env)(dM:Nat->ff)(rf:gW)(ro:Option Nat)(ops:List Oper)(s0:aE)(base N:Nat)(xf:cH):Prop where
 f:ux ops (bl ops)
 AT:∀(i:Nat) (o:Oper),ops[i]? =some o->∃id x x' m inc v,Rec e (dM i) rf ro ops s0 base N xf i o id x x' m inc v
 t0:∀d,(∀(j:Nat) (o:Oper),ops[j]? =some o->o.dst≠some d)->xf.s.t.get d=s0.t.get d
 yk:∀p∈xf.all,base<=p.2.1/\p.2.1<N
 inj:∀p q,p∈xf.all->q∈xf.all->p.2.1=q.2.1->p=q
 MW:(dc ops).length=0\/ou e ops xf xf.bE.reverse (dc ops) (ops.zip (bl ops)) xf.dg.reverse 0
structure Inv(e:Env)(ops:List Oper)(s0:aE)(base N:Nat)(xf:cH)(S:Nat->Prop)(fW:ay)(h0:aa)(w0:World)(ρ:ay)(a:Act)(w:World)(t:Tr Value)(h:aa)(m inc:Nat)(H:aa):Prop where
 closed:∀i,S i->∀j,((bl ops).getD i 0).testBit j=true->S j
 t1:∀(j:Nat) (o:Oper) (d:Tmp),S j->ops[j]? =some o->o.dst=some d->t.get d=xf.s.t.get d
 t2:∀d,(∀(j:Nat) (o:Oper),S j->ops[j]? =some o->o.dst≠some d)->t.get d=s0.t.get d
 rel:dw e ρ {t,n:=s0.n,ds:=s0.ds,h} a w
 fr:Fr base fW h0 w0 ρ h w
 gq:lz ops S m
 jh:xf.bE.reverse[m]? =some (inc,H)
 m1:∀p∈xf.all,S p.1->inc.testBit p.1=false->h.get p.2.1=some p.2.2
 m3:∀k o,H.get k=some o->h.get k=some o
 m4:∀p∈xf.all,inc.testBit p.1=false->H.get p.2.1=none
 m5:h.next=H.next
 nh:N<=H.next
 m6:∀p∈xf.all,¬S p.1->ρ p.2.1=none
 m7:∀j,inc.testBit j=true->S j
theorem yl{ops:List Oper}{k:Nat}{x xf:cH}{q:Nat×aa}{tl:List (Nat×aa)}{m:Nat}(hs:x.bE=q::tl)(hl:x.bE.length=m+1)(l:jF ops k x xf):xf.bE.reverse[m]? =some q:=by
 obtain⟨l,az⟩:=l.bE;rw[az,hs];rw[hs]at hl;simp only[List.length_cons]at hl;rw[List.reverse_append,List.reverse_cons,List.append_assoc,List.getElem?_append_right (by simp;omega)];have:m-tl.reverse.length=0:=by simp;omega
 rw[this];rfl
section
variable {cf:ff} {dM:Nat->ff} {rf:gW} {ro:Option Nat} {ops:List Oper} {s0:aE} {base N:Nat} {xf:cH} {S:Nat->Prop} {fW:ay} {h0:aa} {w0:World} {ρ:ay} {a:Act} {w:World} {t:Tr Value} {h:aa} {m inc:Nat} {H:aa}
variable {i:Nat} {o:Oper} {id:Nat} {x x':cH} {mc ai:Nat} {v:Value}
theorem Inv.same(I:Inv e ops s0 base N xf S fW h0 w0 ρ a w t h m inc H)(G:pO e dM rf ro ops s0 base N xf)(R:Rec e cf rf ro ops s0 base N xf i o id x x' mc ai v)(ho:ops[i]? =some o)(hi:¬S i)
 (hm:∀j,((bl ops).getD i 0).testBit j=true->S j):Same t x.s.t o.op.operands.toList:=by
 intro d hd;by_cases hw:∃(j:Nat) (p:Oper),ops[j]? =some p/\p.dst=some d
 . obtain⟨j,p,hj,ab⟩:=hw;obtain⟨u1,u2,u3⟩:=G.f.use j p i o d hj ho ab hd;rcases Nat.lt_or_gt_of_ne u1 with hl|hl
   . rw[I.t1 j p d (hm j (u2 hl)) hj ab];refine R.l.t d λk q hk hq ae=> ?_;have:=G.f.once j p k q d hj hq ab ae;omega
   . have aB:¬S j:=λhS=>hi (I.closed j hS i (u3 hl));rw[I.t2 d λk q hS hq ae=>aB (G.f.once k q j p d hq hj ae ab▸hS)];refine(R.pre.t d λk q hk hq ae=> ?_).symm;have:=G.f.once j p k q d hj hq ab ae;omega
 . rw[I.t2 d λj p _ hj ab=>hw ⟨j,p,hj,ab⟩];exact(R.pre.t d λj p _ hj ab=>hw ⟨j,p,hj,ab⟩).symm
theorem Inv.wanted(I:Inv e ops s0 base N xf S fW h0 w0 ρ a w t h m inc H)(G:pO e dM rf ro ops s0 base N xf)(R:Rec e cf rf ro ops s0 base N xf i o id x x' mc ai v)(ho:ops[i]? =some o)
 (hm:∀j,((bl ops).getD i 0).testBit j=true->S j):cY ops {t,n:=s0.n,ds:=s0.ds,h} o=cY ops x.s o:=by
 unfold cY;cases hg:o.guard with
 |none=>rfl
 |some jw=>
  obtain⟨j,want⟩:=jw;simp only;cases hd:(ops[j]?).bind (·.dst)with
  |none=>rfl
  |some d=>
   obtain⟨p,hj,ab⟩:=oj hd;have hb:=G.f.guard i o j want ho hg;have aD:=yg G.f i o j ho hb;have e1:t.get d=xf.s.t.get d:=I.t1 j p d (hm j hb) hj ab;have e2:xf.s.t.get d=x.s.t.get d:=R.l.t d λk q hk hq ae=>by
    have:=G.f.once j p k q d hj hq ab ae;omega
   simp only[e1,e2]
theorem Inv.next(I:Inv e ops s0 base N xf S fW h0 w0 ρ a w t h m inc H)(G:pO e dM rf ro ops s0 base N xf)(R:Rec e cf rf ro ops s0 base N xf i o id x x' mc ai v)(ho:ops[i]? =some o)(hi:¬S i)
 (hm:∀j,((bl ops).getD i 0).testBit j=true->S j) {S':Nat->Prop} (hS:∀j,S' j↔S j\/j=i) {au:ay} {a':Act} {w':World} {h':aa} {m' ad:Nat} {H':aa}
 (rel:dw e au {t:=jE t o.dst v,n:=s0.n,ds:=s0.ds,h:=h'} a' w') (fr:Fr base ρ h w au h' w') (fresh:∀p∈xf.all,p.1≠i->ρ p.2.1=none->au p.2.1=none)
 (gq:lz ops S' m') (jh:xf.bE.reverse[m']? =some (ad,H')) (m1:∀p∈xf.all,S' p.1->ad.testBit p.1=false->h'.get p.2.1=some p.2.2)
 (m3:∀k o,H'.get k=some o->h'.get k=some o) (m4:∀p∈xf.all,ad.testBit p.1=false->H'.get p.2.1=none) (m5:h'.next=H'.next) (nh:N<=H'.next) (m7:∀j,ad.testBit j=true->S' j):
 Inv e ops s0 base N xf S' fW h0 w0 au a' w' (jE t o.dst v) h' m' ad H':=by
 refine⟨λk hk j hj=> ?_,λj p d hj hp hd=> ?_,λd hd=> ?_,rel,I.fr.trans fr,gq,jh,m1,m3,m4,m5,nh,λp hp hn=> ?_,m7⟩
 . rw[hS]at hk⊢;rcases hk with hk|rfl
   . exact .inl (I.closed k hk j hj)
   . exact .inl (hm j hj)
 . rw[uy];by_cases ao:o.dst=some d
   . rw[if_pos ao,R.l'.t d λk q hk hq ae=>by
      have:=G.f.once i o k q d ho hq ao ae;omega,R.step.t,uy,if_pos ao]
   . rw[if_neg ao];rcases(hS j).1 hj with aC|rfl
     . exact I.t1 j p d aC hp hd
     . rw[ho]at hp;cases hp;exact absurd hd ao
 . rw[uy,if_neg (hd i o ((hS i).2 (.inr rfl)) ho)];exact I.t2 d λj p hj hp=>hd j p ((hS j).2 (.inl hj)) hp
 . have h1:¬S p.1:=λhs=>hn ((hS _).2 (.inl hs));have h2:p.1≠i:=λhs=>hn ((hS _).2 (.inr hs));exact fresh p hp h2 (I.m6 p hp h1)
end
end Go.aw
end
noncomputable section
namespace Go.aw
variable {e:Env}
theorem Ff{ops:List Oper}{x:cH}{bE:List (Nat×aa)}{ef:List (Nat×Nat)}:∀(oms:List (Oper×Nat)) (ts:List (Tr Value)) (k:Nat),ou e ops x bE ef oms ts k->
 ∀(j:Nat) (o:Oper) (m:Nat),oms[j]? =some (o,m)->∃t,ts[j]? =some t/\(cls o.op=.read->cY ops {x.s with t} o=some true->yj e x bE ef (k+j) m o t)
 |[],_,_,_,j,o,m,hj=>by simp at hj
 |(o0,m0)::r,[],_,h,_,_,_,_=>by simp[ou]at h
 |(o0,m0)::r,t::ts,k,h,j,o,m,hj=>by
  simp only[ou]at h;cases j with
  |zero=>
   simp only[List.getElem?_cons_zero,Option.some.injEq,Prod.mk.injEq]at hj;obtain⟨rfl,rfl⟩:=hj;exact⟨t,rfl,h.1⟩
  |succ j=>
   obtain⟨t',h1,h2⟩:=Ff r ts (k+1) h.2 j o m (by simpa using hj);exact⟨t',by simpa using h1,λhc hw=>by have:=h2 hc hw;rwa[show k+1+j=k+(j+1) by omega]at this⟩
section
variable {cf:ff} {dM:Nat->ff} {rf:gW} {ro bc:Option Nat} {ops:List Oper} {s0:aE} {base N:Nat} {xf:cH} {S:Nat->Prop} {fW:ay} {h0:aa} {w0:World} {ρ:ay} {a:Act} {w:World} {t:Tr Value} {h:aa} {m inc:Nat} {H:aa}
variable {i:Nat} {o:Oper} {id:Nat} {x x':cH} {mc ab:Nat} {v:Value}
theorem Rec.snap(R:Rec e cf rf ro ops s0 base N xf i o id x x' mc ab v):xf.dg.reverse[i]? =some x.s.t:=by
 obtain⟨l,hl⟩:=R.l'.dg;rw[hl,R.step.dg,List.reverse_append,List.reverse_cons,List.append_assoc,List.getElem?_append_right (by simp[R.pre.dg])];simp[R.pre.dg]
theorem Rec.val(R:Rec e cf rf ro ops s0 base N xf i o id x x' mc ab v)(G:pO e dM rf ro ops s0 base N xf)(ho:ops[i]? =some o){d:Tmp}(hd:o.dst=some d):xf.s.t.get d=some v:=by
 rw[R.l'.t d λk q hk hq bK=>by
  have:=G.f.once i o k q d ho hq hd bK;omega,R.step.t,uy,if_pos hd]
theorem Rec.jh(R:Rec e cf rf ro ops s0 base N xf i o id x x' mc ab v):xf.bE.reverse[mc]? =some (ab,x.s.h):=by
 obtain⟨tl,bf⟩:=R.pre.jh;exact yl bf R.pre.len R.l
theorem Rec.Fg(R:Rec e cf rf ro ops s0 base N xf i o id x x' mc ab v){q:Nat×aa}(hs:x'.bE=q::x.bE):xf.bE.reverse[mc+1]? =some q:=
 yl hs (by rw[hs,List.length_cons,R.pre.len]) R.l'
theorem Inv.at(I:Inv e ops s0 base N xf S fW h0 w0 ρ a w t h m inc H)(G:pO e dM rf ro ops s0 base N xf)(R:Rec e cf rf ro ops s0 base N xf i o id x x' mc ab v)(ho:ops[i]? =some o)(hi:¬S i)
 (hm:∀j,((bl ops).getD i 0).testBit j=true->S j) (hc:cls o.op=.effect):mc=m/\ab=inc/\x.s.h=H:=by
 have h1:m=mc:=I.gq.uniq R.pre.gq λp j k hp=>by
  obtain⟨q,q1,q2,q3⟩:=wu hp;constructor
  . intro hS;rcases Nat.lt_trichotomy j i with hl|rfl|hl
    . exact hl
    . exact absurd hS hi
    . exact absurd (I.closed j hS i (G.f.dc i o j q ho q1 hc q3 hl)) hi
  . intro hl;exact hm j (G.f.dc j q i o q1 ho q3 hc hl)
 subst h1;have:=R.jh;rw[I.jh]at this;cases this;exact⟨rfl,rfl,rfl⟩
theorem Inv.read(I:Inv e ops s0 base N xf S fW h0 w0 ρ a w t h m inc H)(G:pO e dM rf ro ops s0 base N xf)(R:Rec e cf rf ro ops s0 base N xf i o id x x' mc ab v)(ho:ops[i]? =some o)(hi:¬S i)
 (hm:∀j,((bl ops).getD i 0).testBit j=true->S j) (hc:cls o.op=.read) (hw:cY ops x.s o=some true) {h1:aa} (hr:aL e (cg x.s.h ((bl ops).getD i 0) x.an) x.s.t o.op=some (.val v h1)):
 ∃L h2,(∀p∈L,p∈xf.all/\inc.testBit p.1=false)/\aL e (cg H ((bl ops).getD i 0) L) x.s.t o.op=some (.val v h2):=by
 have same:mc=m->∃L h2,(∀p∈L,p∈xf.all/\inc.testBit p.1=false)/\aL e (cg H ((bl ops).getD i 0) L) x.s.t o.op=some (.val v h2):=λe1=>by
  subst e1;have:=R.jh;rw[I.jh]at this;cases this;refine⟨x.an,h1,λp hp=> ?_,hr⟩;obtain⟨q1,q2⟩:=(R.pre.an p).1 hp;obtain⟨l,hl,_⟩:=R.l.all;exact⟨by rw[hl];exact List.mem_append_right _ q1,q2⟩
 rcases G.MW with h3|h3
 . have e1:=I.gq.1;have e2:=R.pre.gq.1;exact same (by omega)
 . obtain⟨T,t1,t2⟩:=Ff _ _ _ h3 i o _ (AO ho);rw[R.snap]at t1;cases t1;have t3:=t2 hc hw;rw[Nat.zero_add]at t3;unfold yj at t3;have lo:∀{S':Nat->Prop} {m':Nat},lz ops S' m'->(∀j,((bl ops).getD i 0).testBit j=true->S' j)->((dc ops).filter λp=>((bl ops).getD i 0).testBit p.1).length<=m':=λ{S' m'} hE bk=>by
    refine filter_le _ _ _ λq a hq hf=> ?_;obtain⟨j,k⟩:=a;exact(hE.2 _ _ _ hq).1 (bk j hf)
   have bD:∀{S':Nat->Prop} {m':Nat},lz ops S' m'->¬S' i->(∀k,S' k->∀j,((bl ops).getD k 0).testBit j=true->S' j)->m'<=((dc ops).filter λp=> !p.2.testBit i).length:=λ{S' m'} hE bk bL=>by
    refine le_filter _ _ _ hE.1 λq a hq hf=> ?_;obtain⟨j,k⟩:=a;obtain⟨o',q1,q2,q3⟩:=wu hf;simp only[q2,Bool.not_eq_true'];cases hb:((bl ops).getD j 0).testBit i with
    |false=>rfl
    |true=>exact absurd (bL j ((hE.2 _ _ _ hf).2 hq) i hb) bk
   have l1:=lo I.gq hm;have l2:=bD I.gq hi I.closed;have l3:=lo R.pre.gq λj hj=>yg G.f i o j ho hj;have hn:i<ops.length:=(List.getElem?_eq_some_iff.1 ho).1;have l4:=bD R.pre.gq (Nat.lt_irrefl _) λk hk j hj=>Nat.lt_trans (yg G.f k _ j (List.getElem?_eq_getElem (Nat.lt_trans hk hn)) hj) hk;generalize ((dc ops).filter λp=>((bl ops).getD i 0).testBit p.1).length=aO at*;generalize ((dc ops).filter λp=> !p.2.testBit i).length=dS at*;rcases t3 with t3|⟨d,v',hd,bF,t3⟩
   . exact same (by omega)
   . rcases Nat.lt_or_ge aO dS with aT|bU
     . rw[R.val G ho hd]at bF;cases bF;have bn:(inc,H)∈(xf.bE.reverse.drop aO).take (dS+1-aO):=by
        refine List.mem_of_getElem? (i:=m-aO) ?_;rw[List.getElem?_take,if_pos (by omega),List.getElem?_drop,show aO+(m-aO)=m by omega];exact I.jh
       obtain⟨h2,aI⟩:=t3 _ bn;refine⟨_,h2,λp hp=> ?_,aI⟩;rw[List.mem_filter]at hp;exact⟨hp.1,by simpa using hp.2⟩
     . exact same (by omega)
theorem Inv.sub(I:Inv e ops s0 base N xf S fW h0 w0 ρ a w t h m inc H){mk:Nat}(hm:∀j,mk.testBit j=true->S j){L:dz}(hL:∀p∈L,p∈xf.all/\inc.testBit p.1=false):∀k o,(cg H mk L).get k=some o->h.get k=some o:=by
 intro k o hk;rcases AP hk with⟨p,h1,h2,h3,h4⟩|h1
 . subst h3;subst h4;exact I.m1 p (hL p h1).1 (hm _ h2) (hL p h1).2
 . exact I.m3 k o h1
theorem Fh{s:aE}{h':aa}(hr:aL e s.h s.t o.op=some (.val v h'))(hl:∀d,o.dst=some d->d<s.n):m9 e cf rf ro o s=some {s with t:=jE s.t o.dst v,h:=h'}:=by
 simp only[x4,hr];exact yi (s:={s with h:=h'}) v hl
theorem MX{c:Call}(h:o.op=.defer c):cls o.op=.bad:=by rw[h];rfl
theorem Inv.step(he:e.Ok)(bo:oq e cf)(bq:wj e rf)(bN:iy fW ro bc)(I:Inv e ops s0 base N xf S fW h0 w0 ρ a w t h m inc H)(G:pO e dM rf ro ops s0 base N xf)
 (R:Rec e cf rf ro ops s0 base N xf i o id x x' mc ab v) (ho:ops[i]? =some o) (hi:¬S i) (hm:∀j,((bl ops).getD i 0).testBit j=true->S j) {S':Nat->Prop} (hS:∀j,S' j↔S j\/j=i)
 {sk:Array Oper} (ad:sk.toList=ops) (n:Nat) {Q:Exit->Act->World->Prop} {K:Act->World->Prop}
 (hK:∀aQ a' w' t' h' m' bs H',Inv e ops s0 base N xf S' fW h0 w0 aQ a' w' t' h' m' bs H'->K a' w'):wpOpIn (FF bc) n e.P sk Q i K a w:=by
 have bO:sk[i]? =some o:=by rw[<-ad]at ho;simpa using ho
 have aT:∀d,o.dst=some d->d<s0.n:=λd hd=>by rw[<-R.pre.n];exact R.step.lt d hd
 have af:=I.same G R ho hi hm;have aJ:iy ρ ro bc:=bN.mono I.fr.ext;have ae:∀{aQ:ay} {h':aa} {w':World} {g:aa} {b:Nat},N<=b->Fr b ρ g w aQ h' w'->∀p∈xf.all,p.1≠i->ρ p.2.1=none->aQ p.2.1=none:=λ{aQ h' w' g b} hb hf p hp _ hn=>by
  cases hx:aQ p.2.1 with
  |none=>rfl
  |some pl=>
   have h1:=hf.ids _ hn (by rw[hx];exactλh=>by cases h);have h2:=(G.yk p hp).2;omega
 have ao:base<=N:=by
  have h1:=R.pre.ge;have h2:=R.pre.sum;omega
 unfold wpOpIn;simp only[bO];have W:=I.wanted G R ho hm;rw[<-ad]at W;have bW:S i->∀p∈xf.all,S p.1->inc.testBit p.1=false->h.get p.2.1=some p.2.2:=λ_=>I.m1;have au:∀p∈xf.all,p.1=i->cls o.op≠.alloc->False:=λp hp e1 hc=>by
  obtain⟨l,hl,aU⟩:=R.l'.all;rw[hl,List.mem_append]at hp;rcases hp with hp|hp
  . have:=aU p hp;omega
  . have aN:x'.all=x.all:=by
     cases R.Fe with
     |skip _ _ _ h2 _ _ _=>exact h2
     |pure _ _ _ _ _ h2 _ _=>exact h2
     |read _ _ _ _ _ h2 _ _=>exact h2
     |alloc _ _ _ bt _ _ _ _ _ _=>exact absurd bt hc
     |effect _ _ _ _ _ _ _ _ h2 _=>exact h2
    rw[aN]at hp;have:=(R.pre.pN p hp).1;omega
 cases R.Fe with
 |skip hw hv h1 h2 h3 h4 h5=>
  subst hv;have aN:∀p∈xf.all,p.1≠i:=λp hp e1=>by
   obtain⟨l,hl,aU⟩:=R.l'.all;rw[hl,List.mem_append]at hp;rcases hp with hp|hp
   . have:=aU p hp;omega
   . rw[h2]at hp;have:=(R.pre.pN p hp).1;omega
  rw[ad]at W;rw[hw,<-ad]at W;rw[pK W I.rel,if_neg (by simp)];refine⟨λf _=>trivial, ?_⟩;obtain⟨p1,_⟩:=ng I.rel (yi undef aT) (wk ρ);have bG:∀p∈xf.all,S' p.1->inc.testBit p.1=false->h.get p.2.1=some p.2.2:=λp hp hs hb=>I.m1 p hp (((hS _).1 hs).resolve_right (aN p hp)) hb;have bH:∀j,inc.testBit j=true->S' j:=λj hj=>(hS j).2 (.inl (I.m7 j hj));by_cases hc:cls o.op=.effect
  . obtain⟨q1,q2,q3⟩:=I.at G R ho hi hm hc;subst q1;subst q2;subst q3;exact hK _ _ _ _ _ _ _ _ (I.next G R ho hi hm hS p1 (Fr.refl _ _ _ _) (λ_ _ _ hn=>hn) (I.gq.more G.f ho hc hi hm hS).1 (R.Fg (h4 hc)) bG I.m3 I.m4 I.m5 I.nh bH)
  . exact hK _ _ _ _ _ _ _ _ (I.next G R ho hi hm hS p1 (Fr.refl _ _ _ _) (λ_ _ _ hn=>hn) (I.gq.same ho hc hS) I.jh bG I.m3 I.m4 I.m5 I.nh bH)
 |pure hh hw hc hr h1 h2 h3 h4=>
  rw[ad]at W;rw[hw,<-ad]at W;rw[pK W I.rel,if_pos rfl];have aX:cls o.op≠.alloc:=by rw[hc];decide
  have aI:aL e h t o.op=some (.val v h):=by rw[AL af];exact MN hc hr h
  refine wm he bo bq (Fh (s:={t,n:=s0.n,ds:=s0.ds,h}) aI aT) I.rel aJ n λa1 w1 aR x1 f1=> ?_;have az:N<=h.next:=by rw[I.m5];exact I.nh
  refine hK _ _ _ _ _ _ _ _ (I.next G R ho hi hm hS x1 (f1.mono (Nat.le_trans ao az)) (ae az f1) (I.gq.same ho (by rw[hc];decide) hS) I.jh ?_ I.m3 I.m4 I.m5 I.nh λj hj=>(hS j).2 (.inl (I.m7 j hj)));exactλp hp hs hb=>I.m1 p hp (((hS _).1 hs).resolve_right λe1=>au p hp e1 aX) hb
 |read hh hw hc hr h1 h2 h3 h4=>
  obtain⟨L,bX,hL,aI⟩:=I.read G R ho hi hm hc hw hr;rw[ad]at W;rw[hw,<-ad]at W;rw[pK W I.rel,if_pos rfl];have aX:cls o.op≠.alloc:=by rw[hc];decide
  have ai:=I.sub hm hL;have aY:(cg H ((bl ops).getD i 0) L).next=h.next:=by rw[uz,I.m5]
  have bu:=MM hc aI;subst bu;rw[<-AL af]at aI;have rel:dw e ρ {t,n:=s0.n,ds:=s0.ds,h:=cg H ((bl ops).getD i 0) L} a w:=⟨I.rel.g,I.rel.t,I.rel.d,I.rel.m.sub ai (Nat.le_of_eq aY.symm)⟩;refine wm he bo bq (Fh (s:={t,n:=s0.n,ds:=s0.ds,h:=cg H ((bl ops).getD i 0) L}) aI aT) rel aJ n λa1 w1 aR x1 f1=> ?_;have az:N<=(cg H ((bl ops).getD i 0) L).next:=by rw[uz];exact I.nh
  have f2:Fr base ρ (cg H ((bl ops).getD i 0) L) w aR (cg H ((bl ops).getD i 0) L) w1:=f1.mono (Nat.le_trans ao az);obtain⟨y1,y2⟩:=bm.extend (u':=h) I.rel.m ai x1.m f2 (λk ob hk=>by
   cases hg:(cg H ((bl ops).getD i 0) L).get k with
   |none=>exact .inr ⟨hk,rfl⟩
   |some bg=>
    have:=ai k bg hg;have bQ:h.get k=some ob:=hk;rw[bQ]at this;cases this;exact .inl rfl) (Nat.le_refl _) (Nat.le_of_eq aY)
  refine hK _ _ _ _ _ _ _ _ (I.next G R ho hi hm hS (h':=h) ⟨x1.g,x1.t,x1.d,y1⟩ y2 (ae az f1) (I.gq.same ho (by rw[hc];decide) hS) I.jh ?_ I.m3 I.m4 I.m5 I.nh λj hj=>(hS j).2 (.inl (I.m7 j hj)));exactλp hp hs hb=>I.m1 p hp (((hS _).1 hs).resolve_right λe1=>au p hp e1 aX) hb
 |alloc ob f hw hc hr hv h1 h2 h3 h4=>
  subst hv;rw[ad]at W;rw[hw,<-ad]at W;rw[pK W I.rel,if_pos rfl];have bj:(i,id,ob)∈xf.all:=by
   obtain⟨l,hl,_⟩:=R.l'.all;rw[hl,h2];exact List.mem_append_right _ (List.mem_cons_self ..)
  have bI:=G.yk _ bj;have bx:inc.testBit i=false:=by
   cases hb:inc.testBit i with
   |false=>rfl
   |true=>exact absurd (I.m7 i hb) hi
  have aB:∀p∈xf.all,p.2.1=id->p=(i,id,ob):=λp hp e1=>G.inj p _ hp bj e1;have slot:Slot base ρ h id ob (h.set id (some ob)):=
   ⟨I.m6 _ bj hi,bI.1,λj=>aa.bw _ _ _ _,Nat.le_refl _,Nat.lt_of_lt_of_le bI.2 (by rw[aa.aS,I.m5];exact I.nh)⟩
  rw[<-E3 af]at hr;obtain⟨v',w1,aR,k1,k2,k3,k4,k5⟩:=ED he (ds:=a.defers) I.rel.g I.rel.t I.rel.m hr slot;have bA:Oper.semAt (FF bc).round a.eval o=execOp a.eval o:=Oper.semAt_eq _ _ _ λc bt=>by
   rw[MX bt]at hc;cases hc
  refine⟨λf _=>trivial, ?_⟩;have ha:(Act.mk a.tmps a.defers)=a:=rfl;rw[ha]at k1;rw[bA,k1,Oper.uponIn_value];have rel:dw e aR {t,n:=s0.n,ds:=s0.ds,h:=h.set id (some ob)} a w1:=⟨I.rel.g.mono k4.ext,I.rel.t.mono k4.ext,I.rel.d.mono λ_ _=>pJ.mono k4.ext,k3⟩;obtain⟨p1,_⟩:=ng rel (yi (f id) aT) k2;refine hK _ _ _ _ _ _ _ _ (I.next G R ho hi hm hS p1 k4 (λp hp bR hn=> ?_) (I.gq.same ho (by rw[hc];decide) hS) I.jh (λp hp hs hb=> ?_) (λk bg hk=> ?_) I.m4 ?_ I.nh λj hj=>(hS j).2 (.inl (I.m7 j hj)))
  . rw[k5 _ λe1=>bR (by rw[aB p hp e1])];exact hn
  . rw[aa.bw];by_cases e1:p.2.1=id
    . rw[if_pos e1,aB p hp e1]
    . rw[if_neg e1];refine I.m1 p hp (((hS _).1 hs).resolve_right λe2=> ?_) hb;obtain⟨l,hl,aU⟩:=R.l'.all;rw[hl,List.mem_append]at hp;rcases hp with hp|hp
      . have:=aU p hp;omega
      . rw[h2,List.mem_cons]at hp;rcases hp with rfl|hp
        . exact e1 rfl
        . have:=(R.pre.pN p hp).1;omega
  . rw[aa.bw];by_cases e1:k=id
    . rw[e1,I.m4 _ bj bx]at hk;cases hk
    . rw[if_neg e1];exact I.m3 k bg hk
  . rw[aa.aS];exact I.m5
 |effect s1 hw hc hr ht hh bT h1 h2 h3=>
  obtain⟨q1,q2,q3⟩:=I.at G R ho hi hm hc;subst q1;subst q2;subst q3;rw[ad]at W;rw[hw,<-ad]at W;rw[pK W I.rel,if_pos rfl];have aX:cls o.op≠.alloc:=by rw[hc];decide
  have hL:∀p∈x.an,p∈xf.all/\ab.testBit p.1=false:=λp hp=>by
   obtain⟨q1,q2⟩:=(R.pre.an p).1 hp;obtain⟨l,hl,_⟩:=R.l.all;exact⟨by rw[hl];exact List.mem_append_right _ q1,q2⟩
  have ai:=I.sub hm hL;have aY:(cg x.s.h ((bl ops).getD i 0) x.an).next=h.next:=by rw[uz,I.m5]
  have bf:m9 e cf rf ro o {t,n:=x.s.n,ds:=x.s.ds,h:=cg x.s.h ((bl ops).getD i 0) x.an}=some {t:=jE t o.dst v,n:=x.s.n,ds:=x.s.ds,h:=x'.s.h}:=bT t af;rw[R.pre.n,R.pre.ds]at bf;have rel:dw e ρ {t,n:=s0.n,ds:=s0.ds,h:=cg x.s.h ((bl ops).getD i 0) x.an} a w:=⟨I.rel.g,I.rel.t,I.rel.d,I.rel.m.sub ai (Nat.le_of_eq aY.symm)⟩;refine wm he bo bq bf rel aJ n λa1 w1 aR x1 f1=> ?_;have az:N<=(cg x.s.h ((bl ops).getD i 0) x.an).next:=by rw[uz];exact I.nh
  have f2:Fr base ρ (cg x.s.h ((bl ops).getD i 0) x.an) w aR x'.s.h w1:=f1.mono (Nat.le_trans ao az);have bB:∀j,(Nat.lor ab ((bl ops).getD i 0)).testBit j=(ab.testBit j||((bl ops).getD i 0).testBit j):=λj=>Nat.testBit_or _ _ _;have aD:∀p∈xf.all,(Nat.lor ab ((bl ops).getD i 0)).testBit p.1=false->(cg x.s.h ((bl ops).getD i 0) x.an).get p.2.1=none:=λp hp hb=>by
   rw[bB,Bool.or_eq_false_iff]at hb;cases hg:(cg x.s.h ((bl ops).getD i 0) x.an).get p.2.1 with
   |none=>rfl
   |some ob=>
    rcases AP hg with⟨q,g1,g2,g3,g4⟩|g1
    . have:=G.inj q p (hL q g1).1 hp g3;subst this;rw[hb.2]at g2;cases g2
    . rw[I.m4 p hp hb.1]at g1;cases g1
  have av:∀p∈xf.all,(Nat.lor ab ((bl ops).getD i 0)).testBit p.1=false->x'.s.h.get p.2.1=none:=λp hp hb=>by
   cases hg:x'.s.h.get p.2.1 with
   |none=>rfl
   |some ob=>
    obtain⟨bg,h5⟩:=f1.ba _ _ hg (Nat.lt_of_lt_of_le (G.yk p hp).2 az);rw[aD p hp hb]at h5;cases h5
  classical
  let L2:=xf.all.filter λp=>decide (S' p.1/\(Nat.lor ab ((bl ops).getD i 0)).testBit p.1=false)
  have aZ:∀p,p∈L2↔p∈xf.all/\S' p.1/\(Nat.lor ab ((bl ops).getD i 0)).testBit p.1=false:=λp=>by
   simp only[L2,List.mem_filter,decide_eq_true_eq]
  have aF:∀p q,p∈L2->q∈L2->p.2.1=q.2.1->p=q:=λp q hp hq=>G.inj p q ((aZ p).1 hp).1 ((aZ q).1 hq).1;obtain⟨y1,y2⟩:=bm.extend (u':=fw x'.s.h L2) I.rel.m ai x1.m f2 (λk ob hk=>by
   rcases Fc aF hk with⟨p,hp,rfl,rfl⟩|hk
   . obtain⟨g1,g2,g3⟩:=(aZ p).1 hp;refine .inr ⟨?_,aD p g1 g3⟩;have g4:ab.testBit p.1=false:=by rw[bB,Bool.or_eq_false_iff]at g3;exact g3.1
     exact I.m1 p g1 (((hS _).1 g2).resolve_right λe1=>au p g1 e1 aX) g4
   . exact .inl hk) (by
     rw[wx];show h.next<=x'.s.h.next;rw[<-aY];exact f1.next) (by rw[wx];exact Nat.le_refl _)
  have bb:N<=x'.s.h.next:=Nat.le_trans az f1.next;refine hK _ _ _ _ _ _ _ _ (I.next G R ho hi hm hS (h':=fw x'.s.h L2) ⟨x1.g,x1.t,x1.d,y1⟩ y2 (ae az f1) (I.gq.more G.f ho hc hi hm hS).1 (R.Fg h3) (λp hp hs hb=> ?_) (λk ob hk=> ?_) (λp hp hb=>av p hp hb) (wx _ _) bb λj hj=> ?_)
  . exact AQ aF p ((aZ p).2 ⟨hp,hs,hb⟩)
  . by_cases hx:∃p∈L2,p.2.1=k
    . obtain⟨p,hp,rfl⟩:=hx;obtain⟨g1,g2,g3⟩:=(aZ p).1 hp;rw[av p g1 g3]at hk;cases hk
    . rw[AS λp hp e1=>hx ⟨p,hp,e1⟩];exact hk
  . rw[bB,Bool.or_eq_true]at hj;rcases hj with hj|hj
    . exact(hS j).2 (.inl (I.m7 j hj))
    . exact(hS j).2 (.inl (hm j hj))
end
end Go.aw
end
noncomputable section
namespace Go.aw
variable {e:Env}
def sH(l:List Bool):Nat:=(l.filter (!·)).length
theorem AU:∀(l:List Bool) (i:Nat),l[i]? =some false->sH (l.set i true)+1=sH l
 |[],_,h=>by simp at h
 |b::l,0,h=>by simp at h;subst h;simp[sH]
 |b::l,i+1,h=>by
  have:=AU l i (by simpa using h);unfold sH at this⊢;rw[List.set_cons_succ,List.filter_cons,List.filter_cons]
  split
  . rw[List.length_cons,List.length_cons];omega
  . exact this
theorem MY{l:List Bool}(h:sH l=0){i:Nat}:l[i]? ≠some false:=by
 intro hi;have:=AU l i hi;omega
def On(listed:Array Bool)(i:Nat):Prop:=listed.getD i false=true
theorem MZ{listed:Array Bool}{i:Nat}(hi:i<listed.size)(j:Nat):On (listed.setIfInBounds i true) j↔On listed j\/j=i:=by
 unfold On;by_cases h:i=j
 . subst h;simp[hi]
 . rw[getD_set_ne false h];exact⟨.inl,λhh=>hh.resolve_right (Ne.symm h)⟩
theorem Fi{listed:Array Bool}{i:Nat}(h:listed.getD i true=false):¬On listed i/\listed.toList[i]? =some false:=by
 rw[Array.getD_eq_getD_getElem?]at h;cases hg:listed[i]? with
 |none=>rw[hg]at h;cases h
 |some b=>
  rw[hg]at h;have:b=false:=h;subst this;refine⟨λho=> ?_,by simpa using hg⟩;unfold On at ho;rw[Array.getD_eq_getD_getElem?,hg]at ho;cases ho
theorem Na(he:e.Ok){dM:Nat->ff}{rf:gW}(aB:∀i,oq e (dM i))(aC:wj e rf){ro ao:Option Nat}{ops:Array Oper}{s0:aE}{base N:Nat}{xf:cH}{fW:ay}{h0:aa}{w0:World}(aD:iy fW ro ao)
 (G:pO e dM rf ro ops.toList s0 base N xf) (n:Nat) (Q:Exit->Act->World->Prop)
 (hQ:∀ρ a w t h m inc H (S:Nat->Prop),(∀i,i<ops.size->S i)->Inv e ops.toList s0 base N xf S fW h0 w0 ρ a w t h m inc H->Q .normal a w):
 ∀(fuel:Nat) (listed:Array Bool) (ρ:ay) (a:Act) (w:World) (t:Tr Value) (h:aa) (m inc:Nat) (H:aa),listed.size=ops.size->sH listed.toList=fuel->
  Inv e ops.toList s0 base N xf (On listed) fW h0 w0 ρ a w t h m inc H->wpAnyIn (FF ao) n e.P .any ops Q fuel listed a w:=by
 have all:∀(listed:Array Bool),listed.size=ops.size->Region.ready .any ops listed=[]->∀i,i<ops.size->On listed i:=by
  intro listed hs hr i
  induction i using Nat.strongRecOn with
  |_ i ih=>
   intro hi;cases hg:listed.getD i false with
   |true=>exact hg
   |false=>
    exfalso;have ad:i∈Region.ready .any ops listed:=by
     rw[mem_ready];have aF:i<listed.size:=by omega
     refine⟨?_,ops[i],Array.getElem?_eq_getElem hi,λx hx hb=> ?_⟩
     . rw[Array.getD_eq_getD_getElem?,Array.getElem?_eq_getElem aF]at hg⊢;exact hg
     . have:=G.f.back i ops[i] (by simp[hi]) x (by simpa using hx) hb;exact ih x.on this (Nat.lt_trans this hi)
    rw[hr]at ad;cases ad
 intro fuel
 induction fuel with
 |zero=>
  intro listed ρ a w t h m inc H hs hu I;have hr:Region.ready .any ops listed=[]:=by
   cases hr:Region.ready .any ops listed with
   |nil=>rfl
   |cons i r=>
    have ad:i∈Region.ready .any ops listed:=by rw[hr];exact List.mem_cons_self ..
    rw[mem_ready]at ad;exact absurd (Fi ad.1).2 (MY hu)
  exact⟨hr,hQ ρ a w t h m inc H _ (all listed hs hr) I⟩
 |succ fuel ih=>
  intro listed ρ a w t h m inc H hs hu I;refine⟨λhr=>hQ ρ a w t h m inc H _ (all listed hs hr) I,λi ad=> ?_⟩;rw[mem_ready]at ad;obtain⟨h1,o,ho,hb⟩:=ad;obtain⟨hi,hl⟩:=Fi h1;have aI:ops.toList[i]? =some o:=by simpa using ho
  have aF:i<listed.size:=by
   have:=(List.getElem?_eq_some_iff.1 hl).1;simpa using this
  obtain⟨id,x,x',mc,aQ,v,R⟩:=G.AT i o aI;have hm:∀j,((bl ops.toList).getD i 0).testBit j=true->On listed j:=λj hj=>by
   obtain⟨y,y1,y2,y3⟩:=E7 aI hj;have hy:On listed y.on:=hb y (by simpa using y1) y2;rcases y3 with rfl|y3
   . exact hy
   . exact I.closed y.on hy j y3
  refine I.step he (aB i) aC aD G R aI hi hm (MZ aF) rfl n λai a' w' t' h' m' au H' I'=> ?_;refine ih (listed.setIfInBounds i true) ai a' w' t' h' m' au H' (by simpa using hs) ?_ I';have:=AU listed.toList i hl;simp only[Array.toList_setIfInBounds];omega
theorem Fj(he:e.Ok)(aJ:e.P.follows .mixedOrders=true){dM:Nat->ff}{rf:gW}(aB:∀i,oq e (dM i))(aC:wj e rf)(ro:Option Nat)(ops:Array Oper)(s:aE)(aR:qG ops.toList (bl ops.toList)=true)(xf:cH)
 (hd:nc e dM rf ro ops.toList (ops.toList.zip (bl ops.toList)) 0 s.h.next {s:={s with h:={s.h with next:=s.h.next+(ops.toList.filter λo=>cls o.op==.alloc).length}},an:=[],all:=[],bE:=[(0,{s.h with next:=s.h.next+(ops.toList.filter λo=>cls o.op==.alloc).length})],dg:=[]}=some xf)
 (aS:(dc ops.toList).length=0\/ou e ops.toList xf xf.bE.reverse (dc ops.toList) (ops.toList.zip (bl ops.toList)) xf.dg.reverse 0)
 (ρ:ay) (a:Act) (w:World) (ao:Option Nat) (n:Nat) (Q:Exit->Act->World->Prop) (id:Nat) (X:dw e ρ s a w) (aD:iy ρ ro ao)
 (hQ:∀a' w' ai,dw e ai {xf.s with h:=fw xf.s.h xf.an} a' w'->Fr s.h.next ρ s.h w ai (fw xf.s.h xf.an) w'->Q .normal a' w'):(Code.region id ops true).wpIn (FF ao) n e.P Q a w:=by
 have F:=MO aR
 let N:=s.h.next+((ops.toList.filter λo=>cls o.op==.alloc).length)
 let H0:aa:={s.h with next:=N}
 let s0:aE:={s with h:=H0}
 let x0:cH:={s:=s0,an:=[],all:=[],bE:=[(0,H0)],dg:=[]}
 have aT:∀k,H0.get k=s.h.get k:=λ_=>rfl;have aL:qM s0 s.h.next N ops.toList 0 s.h.next x0 0 0:=
  ⟨rfl,rfl,λ_ _=>rfl,⟨[],rfl⟩,rfl,⟨Nat.zero_le _,λp i k _=>⟨λh=>absurd h (Nat.not_lt_zero _),λh=>absurd h (Nat.not_lt_zero _)⟩⟩,λp=>(by simp[x0]),
   λp hp=>(by cases hp),λp q hp=>(by cases hp),λj hj=>(by simp at hj),rfl,Nat.le_refl _,rfl⟩
 obtain⟨AT,l0,aU,mf,aV,pf⟩:=MV F (ops.toList.length) 0 s.h.next x0 0 0 (by simp) (Nat.zero_le _) (by rw[List.drop_zero];exact hd) aL;have hN:aU=N:=by
  have:=pf.sum;rw[List.drop_eq_nil_of_le (Nat.le_refl _)]at this;simpa using this
 have G:pO e dM rf ro ops.toList s0 s.h.next N xf:=by
  refine⟨F,λi o ho=> ?_,λd aX=> ?_,λp hp=> ?_,pf.inj, ?_⟩
  . obtain⟨id,x,x',m,inc,v,r1,r2,r3,r4,r5⟩:=AT i o (Nat.zero_le _) ho;exact⟨id,x,x',m,inc,v,r1,r2,r3,r4,r5⟩
  . exact l0.t d λj o _ ho=>aX j o ho
  . obtain⟨_,g2,g3⟩:=pf.pN p hp;exact⟨g2,by rw[<-hN];exact g3⟩
  . exact aS
 refine wpIn_region_any aJ ?_;have m0:bm ρ H0 {w with drawn:=w.drawn+1}:=(X.m.sub (g:=H0) (λi o h=>h) (Nat.le_add_right _ _)).draw rfl;have f0:Fr s.h.next ρ s.h w ρ H0 {w with drawn:=w.drawn+1}:=(Eu (h:=s.h) (w:=w) (w':={w with drawn:=w.drawn+1}) rfl rfl rfl s.h.next).trans (Fr.less (λi o h=>h) (Nat.le_add_right _ _));have ab:∀i,¬On (Array.replicate ops.size false) i:=λi h=>by
  unfold On at h;rw[Array.getD_eq_getD_getElem?]at h;cases hg:(Array.replicate ops.size false)[i]? with
  |none=>rw[hg]at h;cases h
  |some b=>
   rw[hg]at h;obtain⟨h1,h2⟩:=Array.getElem?_eq_some_iff.1 hg;simp at h2;subst h2;cases h
 have ae:∀p∈xf.all,ρ p.2.1=none:=λp hp=>by
  cases hx:ρ p.2.1 with
  |none=>rfl
  |some pl=>
   have h1:=X.m.iw _ _ hx;have h2:=(G.yk p hp).1;omega
 have I0:Inv e ops.toList s0 s.h.next N xf (On (Array.replicate ops.size false)) ρ s.h w ρ a {w with drawn:=w.drawn+1} s.t H0 0 0 H0:=by
  refine⟨λi hi=>absurd hi (ab i),λj o d hj=>absurd hj (ab j),λd _=>rfl,⟨X.g,X.t,X.d,m0⟩,f0,⟨Nat.zero_le _,λp i k _=>⟨λh=>absurd h (ab i),λh=>absurd h (Nat.not_lt_zero _)⟩⟩, ?_,
   λp _ hs=>absurd hs (ab _),λk o h=>h,λp hp _=> ?_,rfl,Nat.le_refl _,λp hp _=>ae p hp,λj hj=>by simp at hj⟩
  . exact yl (q:=(0,H0)) (tl:=[]) (x:=x0) rfl rfl l0
  . cases hg:H0.get p.2.1 with
    |none=>rfl
    |some ob=>
     obtain⟨pl,g1,_⟩:=X.m.obj _ _ (show s.h.get p.2.1=some ob from hg);rw[ae p hp]at g1;cases g1
 refine Na he aB aC aD G n Q ?_ ops.size _ ρ a _ s.t H0 0 0 H0 (by simp) ?_ I0
 . intro ai a' w' t' h' m' au H' S af I;have e1:m'=mf:=I.gq.uniq pf.gq λp i k hp=>by
    obtain⟨o,q1,_⟩:=wu hp;have hl:=(List.getElem?_eq_some_iff.1 q1).1;exact⟨λ_=>hl,λ_=>af i (by simpa using hl)⟩
   subst e1;obtain⟨tl,aY⟩:=pf.jh;have aN:=yl aY pf.len (jF.refl ops.toList ops.toList.length xf);rw[I.jh]at aN;cases aN;have av:∀k ob,(fw xf.s.h xf.an).get k=some ob->h'.get k=some ob:=λk ob hk=>by
    rcases Fc (λp q hp hq=>pf.inj p q ((pf.an p).1 hp).1 ((pf.an q).1 hq).1) hk with⟨p,hp,rfl,rfl⟩|hk
    . obtain⟨g1,g2⟩:=(pf.an p).1 hp;exact I.m1 p g1 (af p.1 (by have:=(pf.pN p g1).1;simpa using this)) g2
    . exact I.m3 k ob hk
   have aO:h'.next<=(fw xf.s.h xf.an).next:=by rw[wx];exact Nat.le_of_eq I.m5
   have ht:∀d,xf.s.t.get d=t'.get d:=λd=>by
    by_cases hw:∃(j:Nat) (o:Oper),ops.toList[j]? =some o/\o.dst=some d
    . obtain⟨j,o,hj,az⟩:=hw;exact(I.t1 j o d (af j (by have:=(List.getElem?_eq_some_iff.1 hj).1;simpa using this)) hj az).symm
    . rw[G.t0 d λj o hj az=>hw ⟨j,o,hj,az⟩,I.t2 d λj o _ hj az=>hw ⟨j,o,hj,az⟩]
   refine hQ a' w' ai ⟨I.rel.g, ?_, ?_,I.rel.m.sub av aO⟩ (I.fr.trans (Fr.less av aO))
   . refine⟨?_,λd v hv=> ?_⟩
     . show a'.tmps.size=xf.s.n;rw[pf.n];exact I.rel.t.1
     . show d<xf.s.n/\_;rw[pf.n];exact I.rel.t.2 d v (by rw[<-hv];exact(ht d).symm)
   . show aP _ xf.s.ds _;rw[pf.ds];exact I.rel.d
 . simp[sH]
end Go.aw
end
noncomputable section
namespace Go.aw
theorem Fk{α:Type}:∀(l:List α) (i:Nat) (t:Tr α) (j:Nat),(Tr.ofList l i t).get j=if i<=j/\j<i+l.length then l[j-i]? else t.get j
 |[],i,t,j=>by
  simp only[Tr.ofList,List.length_nil,Nat.add_zero];rw[if_neg (by omega)]
 |a::l,i,t,j=>by
  simp only[Tr.ofList,Fk l (i+1),Tr.bw,List.length_cons];by_cases h1:i+1<=j/\j<i+1+l.length
  . rw[if_pos h1,if_pos (by omega)];have:j-i=(j-(i+1))+1:=by omega
    rw[this];rfl
  . rw[if_neg h1];by_cases h2:j=i
    . subst h2;rw[if_pos rfl,if_pos (by omega)];simp
    . rw[if_neg h2,if_neg (by omega)]
theorem Fl{α:Type}(a:Array α)(j:Nat):(Tr.ofList a.toList 0 .nil).get j=a[j]? :=by
 rw[Fk];by_cases h:0<=j/\j<0+a.toList.length
 . rw[if_pos h];simp
 . rw[if_neg h,Tr.get_nil];have:a.size<=j:=by simp at h;omega
   simp[this]
def AV(tt:Tr TypeInfo)(t:Nat):Option TypeDesc:=
 match tt.get t with
 |none=>none
 |some i=>match i.desc with
  |.named _ u=>match tt.get u with
   |none=>none
   |some j=>some j.desc
  |d=>some d
def ym(tt:Tr TypeInfo)(t:Nat):Option Nat:=
 match tt.get t with
 |none=>none
 |some i=>some i.size
def Fm(tt:Tr TypeInfo)(t:Nat):Option Nat:=
 match tt.get t with
 |none=>none
 |some i=>some i.bytes
def Fo(tt:Tr TypeInfo)(t:Nat):Option Value:=
 match tt.get t with
 |none=>none
 |some i=>match i.zero with
  |none=>none
  |some z=>bif plain z then some z else none
def Fp(ft:Tr Func)(f:Nat):Option Func:=
 match ft.get f with
 |none=>none
 |some fn=>match fn.body with
  |none=>none
  |some _=>some fn
def pP(P:Program)(tt:Tr TypeInfo)(ft:Tr Func)(idle:Nat->Bool)(px:Nat)(kG:Nat->List Value->aa->Option (Value×aa)):Env:=
 {P,under:=AV tt,size:=ym tt,bytes:=Fm tt,zero:=Fo tt,fn:=Fp ft,idle,px,kG}
def Fq(tt:Tr TypeInfo)(l:List TypeInfo):Bool:=
 l.all λi=>match i.desc with
  |.struct fs=>fs.toList.all λf=>(tt.get f.type).isSome
  |_=>true
def Fs(l:List Func):Bool:=l.all λfn=> !(fn.name== "runtime.NumGoroutine")
theorem Nb{P:Program}{tt:Tr TypeInfo}{ft:Tr Func}(idle:Nat->Bool)(px:Nat)(kG:Nat->List Value->aa->Option (Value×aa))(ht:tt=Tr.ofList P.types.toList 0 .nil)(hf:ft=Tr.ofList P.funcs.toList 0 .nil)
 (ab:Fq tt P.types.toList=true) (ad:Fs P.funcs.toList=true):(pP P tt ft idle px kG).Ok:=by
 have gi:∀t i,tt.get t=some i->P.types[t]? =some i:=λt i h=>by rw[ht,Fl]at h;exact h
 have inf:∀t i,tt.get t=some i->P.info? t=some i:=λt i h=>by
  have h1:=gi t i h;have hl:=(Array.getElem?_eq_some_iff.1 h1).1;show P.toTables.info? t=some i;unfold Tables.info?;rw[if_pos hl];exact h1
 have gf:∀f fn,ft.get f=some fn->P.funcs[f]? =some fn:=λf fn h=>by rw[hf,Fl]at h;exact h
 refine⟨λt d h=> ?_,λt n h=> ?_,λt n h=> ?_,λt z h=> ?_,λt fs h f af=> ?_,λf fn h=> ?_⟩
 . show P.underlying t=some d;simp only[pP,AV]at h;unfold Program.underlying;cases hi:tt.get t with
   |none=>simp[hi]at h
   |some i=>
    simp only[hi]at h;rw[inf t i hi];obtain⟨desc,sz,bt,zv,nm⟩:=i;simp only at h
    split at h
    . rename_i u hd
      split at h
      . cases h
      . rename_i j hj;cases h;simp[inf _ _ hj]
    . rename_i hd;cases h
      split
      . rename_i u _ heq;exact absurd (by cases heq;rfl) (hd _ _)
      . rename_i j heq;cases heq;rfl
      . rename_i heq;cases heq
 . simp only[pP,ym]at h;cases hi:tt.get t with
   |none=>simp[hi]at h
   |some i=>simp only[hi,Option.some.injEq]at h;exact⟨i,inf t i hi,h⟩
 . simp only[pP,Fm]at h;cases hi:tt.get t with
   |none=>simp[hi]at h
   |some i=>simp only[hi,Option.some.injEq]at h;exact⟨i,inf t i hi,h⟩
 . simp only[pP,Fo]at h;cases hi:tt.get t with
   |none=>simp[hi]at h
   |some i=>
    simp only[hi]at h;cases hz:i.zero with
    |none=>simp[hz]at h
    |some z'=>
     simp only[hz]at h;obtain⟨h1,h2⟩:=ca h;cases h2;exact⟨i,inf t i hi,hz,h1⟩
 . simp only[pP,AV]at h;have key:∀k i,tt.get k=some i->i.desc=.struct fs->∃n,ym tt f.type=some n:=λk i hk hd=>by
    have hm:i∈P.types.toList:=by
     have:=gi k i hk;exact List.mem_of_getElem? (i:=k) (by simpa using this)
    have:=List.all_eq_true.1 ab i hm;rw[hd]at this;have:=List.all_eq_true.1 this f af;cases hx:tt.get f.type with
    |none=>rw[hx]at this;cases this
    |some j=>exact⟨j.size,by simp only[ym,hx]⟩
   cases hi:tt.get t with
   |none=>simp[hi]at h
   |some i=>
    simp only[hi]at h
    split at h
    . split at h
      . cases h
      . rename_i j hj;simp only[Option.some.injEq]at h;exact key _ j hj h
    . simp only[Option.some.injEq]at h;exact key t i hi h
 . simp only[pP,Fp]at h;cases hi:ft.get f with
   |none=>simp[hi]at h
   |some g=>
    simp only[hi]at h;cases hb:g.body with
    |none=>simp[hb]at h
    |some c=>
     simp only[hb,Option.some.injEq]at h;subst h;refine⟨gf f g hi,λargs w=> ?_⟩;have hm:g∈P.funcs.toList:=List.mem_of_getElem? (i:=f) (by simpa using gf f g hi);have hn:=List.all_eq_true.1 ad g hm;simp only[Bool.not_eq_true']at hn;simp only[callFunc,Sem.run_bind,run_program,Result.andThen_ok,pP,gf f g hi,hn,hb];rfl
structure wy where
 f:Nat
 args:List Value
 rows:List (Nat×List Value×Nat)
 res:Value
 top:Nat
def Ft(h:aa):List (Nat×List Value×Nat)->Bool
 |[]=>true
 |(i,cs,ah)::r=>match h.get i with
  |some (.row cs' _ ae)=>Nat.beq ae ah&&(vZ.so 6 cs' cs&&Ft h r)
  |_=>false
def Nc(k:wy)(f:Nat)(args:List Value)(h:aa):Bool:=
 Nat.beq f k.f&&(vZ.so 6 args k.args&&(Nat.ble h.next k.top&&Ft h k.rows))
def yn:List wy->Nat->List Value->aa->Option (Value×aa)
 |[],_,_,_=>none
 |k::r,f,args,h=>bif Nat.beq f k.f then(bif Nc k f args h then some (k.res,h)else yn r f args h)else yn r f args h
end Go.aw
end

/- SpacingSuffixes: parts of its proof (DvE). -/
import Derived.Test.YtaheljlbchkpcaaGreatDoorK16
set_option linter.unusedVariables false
set_option linter.unusedSimpArgs false
noncomputable section
namespace Go.aw
variable {e:Env} {G:Nat->Prop} {h:aa} {dh:ab} {t:Tr Value} {dt:Tr DV} {R:Rows} {aj:Bool}
abbrev fA:=Nat->Option (List DV×Nat)
inductive Fz(S:fA):DV->DV->Prop
 |refl (d:DV):Fz S d d
 |agg {a l:List DV}:a.length=l.length->(∀(i:Nat) (v d:DV),a[i]? =some v->l[i]? =some d->Fz S v d)->Fz S (.agg a) (.agg l)
 |bg {a l:List DV}:a.length=l.length->(∀(i:Nat) (v d:DV),a[i]? =some v->l[i]? =some d->Fz S v d)->Fz S (.bg a) (.bg l)
 |fn {f:FuncId} {a c a' c':List DV}:a.length=a'.length->(∀(i:Nat) (v d:DV),a[i]? =some v->a'[i]? =some d->Fz S v d)->c.length=c'.length->(∀(i:Nat) (v d:DV),c[i]? =some v->c'[i]? =some d->Fz S v d)->Fz S (.fn f a c) (.fn f a' c')
 |nil {c k:Nat}:0<k->Fz S (.v (.slice none 0 c)) (.sl k [])
 |sl {b o c k ah n:Nat} {cs:List DV} {xs:List (List DV)}:S b=some (cs,ah)->(ah=0\/ah=k)->0<k->n=xs.length->n<=c->(∀x∈xs,x.length=k)->o+xs.length*k<=cs.length->
  (∀(j:Nat) (x:List DV) (i:Nat) (v d:DV),xs[j]? =some x->x[i]? =some d->cs[o+j*k+i]? =some v->Fz S v d)->Fz S (.v (.slice (some ⟨b,o,none⟩) n c)) (.sl k xs)
 |ptr {b o off ah:Nat} {cs:List DV} {xs:List DV}:S b=some (cs,ah)->o+xs.length<=cs.length->(∀(i:Nat) (v d:DV),xs[i]? =some d->cs[o+i]? =some v->Fz S v d)->Fz S (.v (.pointer (some ⟨b,o+off,none⟩))) (.ptr xs off)
 |sub {k:Nat} {xs ys:List (List DV)}:xs.length=ys.length->(∀(j:Nat) (x y:List DV),xs[j]? =some x->ys[j]? =some y->x.length=y.length)->(∀(j:Nat) (x y:List DV) (i:Nat) (v d:DV),xs[j]? =some x->ys[j]? =some y->x[i]? =some v->y[i]? =some d->Fz S v d)->Fz S (.sl k xs) (.sl k ys)
abbrev cP(S:fA):List DV->List DV->Prop:=aP (Fz S)
theorem Fz.dV{S:fA}{a l:List DV}(h:cP S a l):Fz S (.agg a) (.agg l):=.agg h.length λi v d h1 h2=>by
 obtain⟨d',h3,h4⟩:=h.get i v h1;rw[h2]at h3;cases h3;exact h4
theorem Fz.ki{S:fA}{a l:List DV}(h:cP S a l):Fz S (.bg a) (.bg l):=.bg h.length λi v d h1 h2=>by
 obtain⟨d',h3,h4⟩:=h.get i v h1;rw[h2]at h3;cases h3;exact h4
theorem cP.refl{S:fA}:∀(l:List DV),cP S l l
 |[]=>.nil
 |d::l=>aP.cons (Fz.refl d) (cP.refl l)
theorem Fz.mono{S S':fA}(hS:∀i r,S i=some r->S' i=some r){a b:DV}(h:Fz S a b):Fz S' a b:=by
 induction h with
 |refl d=>exact .refl d
 |agg h1 _ ih=>exact .agg h1 ih
 |bg h1 _ ih=>exact .bg h1 ih
 |fn h1 _ h3 _ az aB=>exact .fn h1 az h3 aB
 |nil h=>exact .nil h
 |sl h1 h2 h3 h4 h5 h6 h7 _ ih=>exact .sl (hS _ _ h1) h2 h3 h4 h5 h6 h7 ih
 |ptr h1 h2 _ ih=>exact .ptr (hS _ _ h1) h2 ih
 |sub h1 h2 _ ih=>exact .sub h1 h2 ih
theorem Rel.fz{S:fA}{G':Nat->Prop}(x:bM G h dh)(hS:∀i cs ah,S i=some (cs,ah)->G' i/\∃wr,dh.get i=some (.row cs wr ah))(hG:∀i,G i->G' i){d d':DV}(hf:Fz S d d'):∀{v:Value},Rel (aI h G) v d->Rel (aI h G') v d':=by
 have hm:∀i r,aI h G i=some r->aI h G' i=some r:=jj λi hg=>⟨hG i hg,rfl⟩;have row:∀{b:Nat} {cs:List DV} {ah:Nat},S b=some (cs,ah)->∃av,aI h G' b=some (av,ah)/\cw (aI h G) av cs:=λhb=>by
  obtain⟨h1,wr,h2⟩:=hS _ _ _ hb;obtain⟨_,ao,h3,h4⟩:=x.obj _ _ h2;cases h4 with
  |row h4=>exact⟨_,sW h1 h3,h4⟩
 induction hf with
 |refl d=>exactλhv=>hv.mono hm
 |agg h1 _ ih=>
  intro v hv;obtain⟨a,rfl,hr⟩:=hv.qI;refine .agg (by rw[hr.length,h1]) λi u d h2 h3=> ?_;obtain⟨c,h4,h5⟩:=hr.get i u h2;exact ih i c d h4 h3 h5
 |bg h1 _ ih=>
  intro v hv;obtain⟨a,rfl,hr⟩:=hv.BB;refine .bg (by rw[hr.length,h1]) λi u d h2 h3=> ?_;obtain⟨c,h4,h5⟩:=hr.get i u h2;exact ih i c d h4 h3 h5
 |fn h1 _ h3 _ az aB=>
  intro v hv;obtain⟨a,c,rfl,aJ,aL⟩:=hv.wI;refine .fn (by rw[aJ.length,h1]) (λi u d h2 h3=> ?_) (by rw[aL.length,h3]) (λi u d h2 h3=> ?_)
  . obtain⟨c,h4,h5⟩:=aJ.get i u h2;exact az i c d h4 h3 h5
  . obtain⟨c,h4,h5⟩:=aL.get i u h2;exact aB i c d h4 h3 h5
 |nil hk=>
  intro v hv;have:=hv.cW;subst this;exact .kQ hk
 |sl h1 h2 h3 h4 h5 h6 h7 _ ih=>
  intro v hv;have:=hv.cW;subst this;obtain⟨av,q1,q2⟩:=row h1;subst h4;refine .sl q1 h2 h3 h5 h6 (by rw[q2.length];exact h7) λj y i u d e1 e2 e3=> ?_;obtain⟨c,e4,e5⟩:=q2.get _ u e3;exact ih j y i c d e1 e2 e4 e5
 |ptr h1 h2 _ ih=>
  intro v hv;have:=hv.cW;subst this;obtain⟨av,q1,q2⟩:=row h1;refine .ptr q1 (by rw[q2.length];exact h2) λi u d e2 e3=> ?_;obtain⟨c,e4,e5⟩:=q2.get _ u e3;exact ih i c d e2 e4 e5
 | @sub k xs ys h1 h2 _ ih=>
  intro v hv;cases hv with
  |kQ hk=>
   have:ys=[]:=List.eq_nil_of_length_eq_zero (by rw[<-h1];rfl);subst this;exact .kQ hk
  | @sl b o c _ ah cs _ q1 q2 q3 q4 q5 q6 q7=>
   have hlen:xs.length=ys.length:=h1;rw[h1]at q4 q6⊢;refine .sl (hm _ _ q1) q2 q3 q4 (λy hy=> ?_) q6 λj y i u d e1 e2 e3=> ?_
   . obtain⟨j,hj⟩:=List.getElem?_of_mem hy;have aO:=(List.getElem?_eq_some_iff.1 hj).1;have hx:xs[j]? =some xs[j]:=List.getElem?_eq_getElem (by omega);rw[<-h2 j _ y hx hj];exact q5 _ (List.mem_of_getElem? hx)
   . have aO:=(List.getElem?_eq_some_iff.1 e1).1;have hx:xs[j]? =some xs[j]:=List.getElem?_eq_getElem (by omega);have e4:=h2 j _ y hx e1;have aU:=(List.getElem?_eq_some_iff.1 e2).1;have aN:(xs[j])[i]? =some (xs[j])[i]:=List.getElem?_eq_getElem (by omega);exact ih j _ y i _ d hx e1 aN e2 (q7 j _ i u _ hx aN e3)
theorem cw.fz{S:fA}{G':Nat->Prop}(x:bM G h dh)(hS:∀i cs ah,S i=some (cs,ah)->G' i/\∃wr,dh.get i=some (.row cs wr ah))(hG:∀i,G i->G' i):∀{l l':List DV} {vs:List Value},cP S l l'->cw (aI h G) vs l->cw (aI h G') vs l'
 |_,_,_,.nil,.nil=>.nil
 |_,_,_,.cons h1 h2,.cons h3 h4=>.cons (Rel.fz x hS hG h1 h3) (cw.fz x hS hG h2 h4)
def rowsOf(dh:ab)(l:List Nat):fA:=λi=>if i∈l then match dh.get i with|some (.row cs _ ah)=>some (cs,ah)|_=>none else none
def gb(dh:ab):List Nat->ab
 |[]=>dh
 |i::l=>(gb dh l).set i none
theorem nz(dh:ab)(i:Nat):∀(l:List Nat),(gb dh l).get i=if i∈l then none else dh.get i
 |[]=>by simp[gb]
 |j::l=>by
  simp only[gb,ab.bw,nz dh i l,List.mem_cons];by_cases h1:i=j<;>by_cases h2:i∈l<;>simp[h1,h2]
theorem wN(dh:ab):∀(l:List Nat),(gb dh l).next=dh.next
 |[]=>rfl
 |_::l=>wN dh l
theorem wO{dh:ab}{l:List Nat}{i:Nat}{cs:List DV}{ah:Nat}(h:rowsOf dh l i=some (cs,ah)):i∈l/\∃wr,dh.get i=some (.row cs wr ah):=by
 unfold rowsOf at h
 split at h
 . rename_i hi
   split at h
   . rename_i cs' wr au hg;cases h;exact⟨hi,wr,hg⟩
   . cases h
 . cases h
theorem hY{dh:ab}{l:List Nat}{i:Nat}{cs:List DV}{wr:Bool}{ah:Nat}(hi:i∈l)(hg:dh.get i=some (.row cs wr ah)):rowsOf dh l i=some (cs,ah):=by
 unfold rowsOf;rw[if_pos hi,hg]
theorem bM.drop(x:bM G h dh)(l:List Nat)(hl:∀i∈l,(dh.get i).isSome=true):bM (λi=>G i\/i∈l) h (gb dh l)/\Kp G h dh (λi=>G i\/i∈l) h (gb dh l):=by
 have hm:∀i r,aI h G i=some r->aI h (λi=>G i\/i∈l) i=some r:=jj λi hg=>⟨.inl hg,rfl⟩;refine⟨⟨x.fF.mono hm,by rw[wN];exact x.next,λi o ho=> ?_,λi hi=> ?_⟩,⟨Nat.le_refl _,λi _ hd=>⟨rfl, ?_⟩,λi hg=>.inl hg,λi _ hg=> ?_⟩⟩
 . rw[nz]at ho
   split at ho
   . cases ho
   . obtain⟨h1,ao,h2,h3⟩:=x.obj i o ho;exact⟨h1,ao,h2,h3.mono hm⟩
 . rw[nz];rcases hi with hi|hi
   . refine⟨(x.still i hi).1, ?_⟩
     split
     . rfl
     . exact(x.still i hi).2
   . rw[if_pos hi];obtain⟨o,ho⟩:=Option.isSome_iff_exists.1 (hl i hi);exact⟨(x.obj i o ho).1,rfl⟩
 . rw[nz];split
   . rfl
   . exact hd
 . rcases hg with hg|hg
   . exact .inl hg
   . exact .inr (hl i hg)
def aA(d d':DS):Prop:=∀G s,SD G s d->∃G',SD G' s d'/\Kp G s.h d.h G' s.h d'.h
theorem aA.refl(d:DS):aA d d:=λG s h=>⟨G,h,Kp.refl _ _ _⟩
theorem aA.trans{a b c:DS}(h1:aA a b)(h2:aA b c):aA a c:=λG s h=>let⟨G1,q1,q2⟩:=h1 G s h;let⟨G2,q3,q4⟩:=h2 G1 s q1;⟨G2,q3,q2.trans q4⟩
theorem aA.of{t t':Tr DV}{n:Nat}{dd:List FuncId}{dh ae:ab}(l:List Nat)(hl:∀i∈l,(dh.get i).isSome=true)(hn:ae.next=dh.next)
 (ht:∀i v,t'.get i=some v->∃u,t.get i=some u/\Fz (rowsOf dh l) u v) (hh:∀i o,ae.get i=some o->i∉l/\(dh.get i=some o\/∃cs cs' wr ah,dh.get i=some (.row cs wr ah)/\o=.row cs' wr ah/\cP (rowsOf dh l) cs cs')):aA ⟨t,n,dd,dh⟩ ⟨t',n,dd,ae⟩:=by
 intro G s ⟨q1,q2,q3,q4⟩;obtain⟨k1,k2⟩:=q4.drop l hl;have hS:∀i cs ah,rowsOf dh l i=some (cs,ah)->(G i\/i∈l)/\∃wr,dh.get i=some (.row cs wr ah):=λi cs ah hr=>by
  obtain⟨h1,h2⟩:=wO hr;exact⟨.inr h1,h2⟩
 have hm:∀i r,aI s.h G i=some r->aI s.h (λi=>G i\/i∈l) i=some r:=jj λi hg=>⟨.inl hg,rfl⟩;refine⟨λi=>G i\/i∈l,⟨q1,λi v hv=> ?_,q3,⟨k1.fF, ?_,λi o ho=> ?_,λi hi=>⟨(k1.still i hi).1, ?_⟩⟩⟩,⟨Nat.le_refl _,λi hi hd=>⟨rfl, ?_⟩,k2.up,k2.ba⟩⟩
 . obtain⟨u,h1,h2⟩:=ht i v hv;obtain⟨w,h3,h4⟩:=q2 i u h1;exact⟨w,h3,Rel.fz q4 hS (λi hg=>.inl hg) h2 h4⟩
 . show s.h.next=ae.next;rw[hn];exact q4.next
 . obtain⟨h1,h2⟩:=hh i o ho;rcases h2 with h2|⟨cs,cs',wr,ah,h2,rfl,h3⟩
   . obtain⟨h4,ao,h5,h6⟩:=q4.obj i o h2;exact⟨h4,ao,h5,h6.mono hm⟩
   . obtain⟨h4,ao,h5,h6⟩:=q4.obj i _ h2;cases h6 with
     |row h6=>exact⟨h4,_,h5,.row (cw.fz q4 hS (λi hg=>.inl hg) h3 h6)⟩
 . cases hd:ae.get i with
   |none=>rfl
   |some o=>
    obtain⟨h1,h2⟩:=hh i o hd;have:(gb dh l).get i=none:=(k1.still i hi).2;rw[nz,if_neg h1]at this;rcases h2 with h2|⟨_,_,_,_,h2,_⟩<;>rw[this]at h2<;>cases h2
 . cases aQ:ae.get i with
   |none=>rfl
   |some o=>
    obtain⟨h1,h2⟩:=hh i o aQ;have hd:dh.get i=none:=hd;rcases h2 with h2|⟨_,_,_,_,h2,_⟩<;>rw[hd]at h2<;>cases h2
theorem aA.forget{t t':Tr DV}{n:Nat}{dd:List FuncId}{dh ae:ab}(hn:ae.next=dh.next)(ht:∀i v,t'.get i=some v->t.get i=some v)(hh:∀i o,ae.get i=some o->dh.get i=some o):aA ⟨t,n,dd,dh⟩ ⟨t',n,dd,ae⟩:=
 aA.of [] (λi hi=>by cases hi) hn (λi v hv=>⟨v,ht i v hv,.refl v⟩) λi o ho=>⟨by simp,.inl (hh i o ho)⟩
def KI(I:Nat->DS->Prop)(j:Nat)(K:bn->DS->Prop):bn->DS->Prop:=λx s1=>match x with|.normal=>∃j',j'<j/\∃d',aA s1 d'/\I j' d'|x=>K x s1
theorem WD.loop(he:e.Ok)(ai:e.P.follows .mixedOrders=true){c:Code}{K:bn->DS->Prop}(I:Nat->DS->Prop)(hI:∀j d,I j d->RD e aj c d (KI I j K))(j:Nat)(d:DS)(hw:∃d',aA d d'/\I j d'):WD e aj (.loop c) d K:=by
 intro G s hs;obtain⟨d',h1,h2⟩:=hw;obtain⟨G1,h3,h4⟩:=h1 G s hs;refine(WQ.loop (λj s1=>∃d1 G2,SD G2 s1 d1/\Kp G s.h d.h G2 s1.h d1.h/\I j d1) (λj s1 ⟨d1,G2,q1,q2,q3⟩=> ?_) j s ⟨d',G1,h3,h4,h2⟩);refine(RD.wd he ai c d1 _ (hI j d1 q3) G2 s1 q1).mono λx s2 ⟨d2,G3,r1,r2,r3⟩=> ?_;cases x with
 |normal=>
  obtain⟨j',hj,d3,r4,r5⟩:=r3;obtain⟨G4,r6,r7⟩:=r4 G3 s2 r1;exact⟨j',hj,d3,G4,r6,q2.trans (r2.trans r7),r5⟩
 |exit i=>exact⟨d2,G3,r1,q2.trans r2,r3⟩
 |ret=>exact⟨d2,G3,r1,q2.trans r2,r3⟩
def s8(G:Nat->Prop)(h h':aa):Nat->Prop:=λi=>G i\/(h.next<=i/\i<h'.next)
def ru(G:Nat->Prop)(h:aa)(dv:DV)(v:Value)(h':aa):Prop:=h.next<=h'.next/\(∀i,i<h.next->h'.get i=h.get i)/\Rel (aI h' (s8 G h h')) v dv
def R6(G:Nat->Prop)(h:aa):Prop:=(∀i,G i->i<h.next)/\pW (aI h G)
def ax(e:Env)(aj:Bool)(f:FuncId)(ad:List DV)(dv:DV):Prop:=∀G h args,R6 G h->cw (aI h G) args ad->match aj with
 |true=>∃v h',bS e f args h v h'/\ru G h dv v h'
 |false=>fO e f args h (ru G h dv)
abbrev R7(e:Env):=ax e true
theorem ax.any{f:FuncId}{ad:List DV}{dv:DV}(hf:R7 e f ad dv):ax e aj f ad dv:=by
 intro G h args hG ha;obtain⟨v,h',h1,h2⟩:=hf G h args hG ha;cases aj with
 |true=>exact⟨v,h',h1,h2⟩
 |false=>exact h1.k h2
theorem ru.c{f:FuncId}{dv:DV}(x:bM G h dh)(l:List Nat)(hl:∀i∈l,(dh.get i).isSome=true){v:Value}{h':aa}(hp:ru (λi=>G i\/i∈l) h dv v h'){K:DV->ab->List Nat->Prop}(hk:∀N,dh.next<=N->K dv ((gb dh l).up N) l):nv G h dh K v h':=by
 obtain⟨p1,p2,p3⟩:=hp;obtain⟨k1,k2⟩:=x.drop l hl;have aR:∀i,(G i\/i∈l)->i<h.next:=λi hi=>(k1.still i hi).1;have hm:∀i r,aI h (λi=>G i\/i∈l) i=some r->aI h' (s8 (λi=>G i\/i∈l) h h') i=some r:=jj λi hg=>⟨.inl hg,p2 i (aR i hg)⟩;refine⟨dv,(gb dh l).up h'.next,s8 (λi=>G i\/i∈l) h h',l,⟨k1.fF.mono hm,rfl,λi o ho=> ?_,λi hi=> ?_⟩,⟨p1,λi hi hd=>⟨p2 i hi, ?_⟩,λi hg=>.inl (.inl hg),λi hi hg=> ?_⟩,p3,λi hi hl=>⟨p2 i hi,by rw[ab.uI,nz,if_neg hl]⟩,hk _ (by rw[<-x.next];exact p1)⟩
 . rw[ab.uI]at ho;obtain⟨h1,ao,h2,h3⟩:=k1.obj i o ho;exact⟨by omega,ao,by rw[p2 i h1];exact h2,h3.mono hm⟩
 . rw[ab.uI];rcases hi with hi|hi
   . obtain⟨h1,h2⟩:=k1.still i hi;exact⟨by omega,h2⟩
   . refine⟨hi.2, ?_⟩;cases hd:(gb dh l).get i with
     |none=>rfl
     |some o=>have:=(k1.obj i o hd).1;omega
 . rw[ab.uI,nz]
   split
   . rfl
   . exact hd
 . rcases hg with(hg|hg)|hg
   . exact .inl hg
   . exact .inr (hl i hg)
   . omega
theorem c8.fz{f:FuncId}{ad dargs':List DV}{dv:DV}{K:DV->ab->List Nat->Prop}(hf:ax e aj f dargs' dv)(l:List Nat)(hl:∀i∈l,(dh.get i).isSome=true)(hz:cP (rowsOf dh l) ad dargs')(hk:∀N,dh.next<=N->K dv ((gb dh l).up N) l):c8 e aj f ad dh K:=by
 intro G h args x ha;obtain⟨k1,k2⟩:=x.drop l hl;have aD:cw (aI h (λi=>G i\/i∈l)) args dargs':=cw.fz x (λi cs ah hr=>⟨.inr (wO hr).1,(wO hr).2⟩) (λi hg=>.inl hg) hz ha;have:=hf (λi=>G i\/i∈l) h args ⟨λi hi=>(k1.still i hi).1,k1.fF⟩ aD;cases aj with
 |true=>obtain⟨v,h',h1,h2⟩:=this;exact⟨v,h',h1,h2.c (f:=f) x l hl hk⟩
 |false=>exact fO.mono this λv h' h2=>h2.c (f:=f) x l hl hk
theorem c8.of{f:FuncId}{ad:List DV}{dv:DV}{K:DV->ab->List Nat->Prop}(hf:ax e aj f ad dv)(hk:∀N,dh.next<=N->K dv (dh.up N) []):c8 e aj f ad dh K:=
 c8.fz hf [] (λi hi=>by cases hi) (cP.refl _) hk
def allRows(dh:ab):fA:=λi=>match dh.get i with|some (.row cs _ ah)=>some (cs,ah)|_=>none
theorem c8.plain{f:FuncId}{ad dargs':List DV}{u:Value}{K:DV->ab->List Nat->Prop}(hf:ax e aj f dargs' (.v u))(hz:cP (allRows dh) ad dargs')(hk:∀N,dh.next<=N->K (.v u) (dh.up N) []):c8 e aj f ad dh K:=by
 intro G h args x ha;have aD:cw (aI h (λi=>i<h.next)) args dargs':=cw.fz x (λi cs ah hr=>by
  unfold allRows at hr
  split at hr
  . rename_i cs' wr au hg;cases hr;exact⟨(x.obj _ _ hg).1,wr,hg⟩
  . cases hr) (λi hg=>(x.still i hg).1) hz ha
 have post:∀v h',ru (λi=>i<h.next) h (.v u) v h'->nv G h dh K v h':=λv h' ⟨p1,p2,p3⟩=>by
  have hm:∀i r,aI h G i=some r->aI h' G i=some r:=jj λi hg=>⟨hg,p2 i (x.still i hg).1⟩;refine⟨.v u,dh.up h'.next,G,[],⟨x.fF.mono hm,rfl,λi o ho=> ?_,λi hi=> ?_⟩,⟨p1,λi hi hd=>⟨p2 i hi,hd⟩,λi hg=>hg,λi hi hg=>.inl hg⟩,by rw[p3.cW];exact .v _,λi hi _=>⟨p2 i hi,rfl⟩,hk _ (by rw[<-x.next];exact p1)⟩
  . obtain⟨h1,ao,h2,h3⟩:=x.obj i o ho;exact⟨by omega,ao,by rw[p2 i h1];exact h2,h3.mono hm⟩
  . obtain⟨h1,h2⟩:=x.still i hi;exact⟨by omega,h2⟩
 have:=hf (λi=>i<h.next) h args ⟨λi hi=>hi,x.fF.mono (jj λi hg=>⟨(x.still i hg).1,rfl⟩)⟩ aD;cases aj with
 |true=>obtain⟨v,h',h1,h2⟩:=this;exact⟨v,h',h1,post v h' h2⟩
 |false=>exact fO.mono this post
def gw(e:Env)(s:DS):List ResultVar->Option (List DV)
 |[]=>some []
 |r::rs=>match(match r with
  |.tmp t=>s.t.get t
  |.cell a t=>(s.t.get a).bind (jl e s.h t)),gw e s rs with
  |some v,some vs=>some (v::vs)
  |_,_=>none
theorem BQ{s:aE}{d:DS}(hs:SD G s d):∀{rs:List ResultVar} {l:List DV},gw e d rs=some l->∃vs,iv e s rs=some vs/\cw (aI s.h G) vs l
 |[],l,h=>by simp only[gw,Option.some.injEq]at h;subst h;exact⟨[],rfl,.nil⟩
 |r::rs,l,h=>by
  simp only[gw]at h
  split at h
  . rename_i v vs h1 h2;cases h;obtain⟨ws,h3,h4⟩:=BQ hs h2;cases r with
    |tmp t=>
     obtain⟨u,h5,h6⟩:=hs.t t v h1;exact⟨u::ws,by rw[FI,h5,Bo,h3];rfl,.cons h6 h4⟩
    |cell a t=>
     obtain⟨p,h5,h6⟩:=Option.bind_eq_some_iff.1 h1;obtain⟨u,h7,h8⟩:=hs.t a p h5;obtain⟨w,h9,aS⟩:=F2 hs.h h8 h6;exact⟨w::ws,by rw[FJ,h7,Option.bind_some,h9,Bo,h3];rfl,.cons aS h4⟩
  . cases h
def kp:List DV->DV
 |[v]=>v
 |vs=>.bg vs
theorem Gk{vs:List Value}{l:List DV}(h:cw R vs l):Rel R (kg vs) (kp l):=by
 match vs,l,h with
 |[],[],_=>exact Rel.ki .nil
 |[v],[d],.cons h1 .nil=>exact h1
 |v::w::vs,d::c::l,h=>exact Rel.ki h
def iT(args:List DV):Tr DV:=Tr.ofList args 0 .nil
def jN(e:Env)(rs:List ResultVar)(K:DV->ab->Prop)(x:bn)(s:DS):Prop:=(∀i,x≠.exit i)/\(∀g∈s.dd,e.idle g=true)/\aG (gw e s rs) λl=>K (kp l) s.h
theorem BR{h:aa}:∀{ds:List Deferred} {dd:List FuncId},aP sX ds dd->(∀g∈dd,e.idle g=true)->lu e ds h=some h
 |_,_,.nil,_=>rfl
 |_,_,.cons (b:=g) ⟨cap,args,h1⟩ h2,hi=>by
  subst h1;simp only[lu,hi g (by simp),cond_true];exact BR h2 λg hg=>hi g (List.mem_cons_of_mem _ hg)
theorem Gm:∀{args:List Value} {ad:List DV} {i:Nat} {t:Tr Value} {dt:Tr DV},cw R args ad->TD R t dt->TD R (Tr.ofList args i t) (Tr.ofList ad i dt)
 |_,_,_,_,_,.nil,ht=>ht
 |_,_,i,_,_,.cons h1 h2,ht=>by simp only[Tr.ofList];exact Gm h2 (TD.put ht (some i) h1)
theorem Gn{args:List Value}{ad:List DV}(aT:pW R)(h:cw R args ad):TD R (gX args) (iT ad):=Gm h ⟨aT,λi v hv=>by rw[Tr.get_nil]at hv;cases hv⟩
theorem c8.body(he:e.Ok)(ai:e.P.follows .mixedOrders=true)(af:Idle e){f:FuncId}{fn:Func}{c:Code}{ad:List DV}{K:DV->ab->Prop}(ay:e.fn f=some fn)(hb:fn.body=some c){n:Nat}(hn:fn.ntmps=n){rs:List ResultVar}(aF:fn.results=rs.toArray)
 (hq:RD e aj c ⟨iT ad,ad.length+(n-ad.length),[],dh⟩ (jN e rs K)) (G:Nat->Prop) (h:aa) (args:List Value) (x:bM G h dh) (ha:cw (aI h G) args ad):
 match aj with
 |true=>∃v h',bS e f args h v h'/\∃d ae G',bM G' h' ae/\Kp G h dh G' h' ae/\Rel (aI h' G') v d/\K d ae
 |false=>fO e f args h λv h'=>∃d ae G',bM G' h' ae/\Kp G h dh G' h' ae/\Rel (aI h' G') v d/\K d ae:=by
 subst hn;have hlen:args.length=ad.length:=ha.length;have hs:SD G ⟨gX args,args.length+(fn.ntmps-args.length),[],h⟩ ⟨iT ad,ad.length+(fn.ntmps-ad.length),[],dh⟩:=⟨by simp only[hlen],(Gn x.fF ha).all,.nil,x⟩;have key:=RD.wd he ai c _ _ hq G _ hs;have fin:∀x s',mE G h dh (jN e rs K) x s'->pQ e fn.results.toList (λv h'=>∃d ae G',bM G' h' ae/\Kp G h dh G' h' ae/\Rel (aI h' G') v d/\K d ae) x s':=by
  rintro x s' ⟨d',G',q1,q2,q3,q4,l,q5,q6⟩;obtain⟨vs,q7,q8⟩:=BQ q1 q5;refine⟨q3,s'.h,vs,BR q1.dd q4,by rw[aF];exact q7,kp l,d'.h,G',q1.h,q2,Gk q8,q6⟩
 cases aj with
 |false=>exact fO.of he af ay hb (WR.mono key fin)
 |true=>
  obtain⟨x,s',h1,h2⟩:=key;obtain⟨h3,h4,vs,h5,h6,h7⟩:=fin x s' h2;refine⟨kg vs,h4, ?_,h7⟩;have:=AJ he af (AW h1) f args h (kg vs) h4 (by
   unfold qH;simp only[ay,hb];have:qN c {t:=gX args,n:=args.length+(fn.ntmps-args.length),ds:=[],h} x s' none c {t:=gX args,n:=args.length+(fn.ntmps-args.length),ds:=[],h}=some (x,s'):=by
    unfold qN;rw[if_pos ⟨rfl,rfl,rfl⟩]
   rw[this];cases x with
   |exit i=>exact absurd rfl (h3 i)
   |normal=>
    simp only[h5,h6]
    match vs with
    |[]=>rfl
    |[v]=>rfl
    |_::_::_=>rfl
   |ret=>
    simp only[h5,h6]
    match vs with
    |[]=>rfl
    |[v]=>rfl
    |_::_::_=>rfl)
  exact this
theorem ax.of(he:e.Ok)(ai:e.P.follows .mixedOrders=true)(af:Idle e){f:FuncId}{fn:Func}{c:Code}{ad:List DV}{dv:DV}(ay:e.fn f=some fn)(hb:fn.body=some c){n:Nat}(hn:fn.ntmps=n){rs:List ResultVar}(aF:fn.results=rs.toArray)
 (hq:∀N,RD e aj c ⟨iT ad,ad.length+(n-ad.length),[],ab.none N⟩ (jN e rs λd h=>Fz (allRows h) d dv)):ax e aj f ad dv:=by
 intro G h args hG ha;have x:bM G h (ab.none h.next):=⟨hG.2,rfl,λi o ho=>(by rw[ab.get_none]at ho;cases ho),λi hi=>⟨hG.1 i hi,ab.get_none _ _⟩⟩;have key:=c8.body he ai af ay hb hn aF (hq h.next) G h args x ha;have fin:∀v h',(∃d ae G',bM G' h' ae/\Kp G h (ab.none h.next) G' h' ae/\Rel (aI h' G') v d/\Fz (allRows ae) d dv)->ru G h dv v h':=by
  rintro v h' ⟨d,ae,G',q1,q2,q3,q4⟩;refine⟨q2.next,λi hi=>(q2.same i hi (ab.get_none _ _)).1,Rel.fz (G':=s8 G h h') q1 (λi cs ah hr=> ?_) (λi hg=> ?_) q4 q3⟩
  . unfold allRows at hr
    split at hr
    . rename_i cs' wr au hg;cases hr;refine⟨.inr ⟨?_,(q1.obj _ _ hg).1⟩,wr,hg⟩;rcases Nat.lt_or_ge i h.next with hi|hi
      . rw[(q2.same i hi (ab.get_none _ _)).2]at hg;cases hg
      . exact hi
    . cases hr
  . rcases Nat.lt_or_ge i h.next with hi|hi
    . rcases q2.ba i hi hg with h1|h1
      . exact .inl h1
      . rw[ab.get_none]at h1;cases h1
    . exact .inr ⟨hi,(q1.still i hg).1⟩
 cases aj with
 |true=>obtain⟨v,h',h1,h2⟩:=key;exact⟨v,h',h1,fin v h' h2⟩
 |false=>exact fO.mono key fin
end Go.aw
end

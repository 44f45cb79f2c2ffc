/- SpacingIndependent: parts of its proof. -/
import Derived.Test.YtmhjnafgdhaemaaGreatDoorK18
open Option.some renaming injEq->qe
open Prod.mk renaming injEq->xS
open List renaming mem_flatMap->DE,map_map->Er,map_cons->GP,length_map->PO,getElem?_map->Qc,mem_of_getElem?->W9
open Nat renaming lt_of_lt_of_le->PX,le_of_ble_eq_true->VK,eq_of_beq_eq_true->W2
open Option renaming map_eq_some_iff->TF
set_option linter.all false
set_option maxRecDepth 100000
noncomputable section
namespace Go.au
variable {e:Env} {N:Nat}
theorem Gc:∀(l:List DV) (i:Nat) {t0 t:Tr DV},TS N t0 t->TS N (Tr.ofList l i t0) (Tr.ofList (l.map (sh N)) i t)
 |[],_,_,_,ht=>ht
 |d::l,i,_,_,ht=>by
  simp only[GP,Tr.ofList];exact Gc l (i+1) (ht.put (some i) d)
theorem WT(l:List DV):TS N (ie l) (ie (l.map (sh N))):=Gc l 0 λi=>by rw[Tr.get_nil];rfl
theorem WU(l:List DV):jI (l.map (sh N))=sh N (jI l):=by
 match l with
 |[]=>simp only[List.map_nil,jI,jf]
 |[v]=>rfl
 |v::w::l=>simp only[GP,jI,jf]
theorem Gd{s0 s:DS}(ht:TS N s0.t s.t)(hh:HS N s0.h s.h):∀{rs:List ResultVar} {l:List DV},fJ e.aT s0 rs=some l->fJ e s rs=some (l.map (sh N))
 |[],l,h=>by simp only[fJ,qe]at h;subst h;rfl
 |r::rs,l,h=>by
  simp only[fJ]at h
  split at h
  . rename_i v vs h1 h2;cases h;have h3:=Gd ht hh h2;simp only[fJ];rw[h3];cases r with
    |tmp i=>
     simp only at h1⊢;rw[ht i,h1];rfl
    |cell a ty=>
     obtain⟨p,h4,h5⟩:=Option.bind_eq_some_iff.1 h1;simp only;rw[ht a,h4];simp only[Option.map_some,Option.bind_some,Fx hh h5];rfl
  . cases h
structure rL(e:Env)(N:Nat)(ev:ji):Prop where
 run:∀c d0 x d1,ev c d0=some (x,d1)->∀t h (K:bk->DS->Prop),TS N d0.t t->HS N d0.h h->(∀t' h',TS N d1.t t'->HS N d1.h h'->K x ⟨t',d1.n,d1.dd,h'⟩)->RD e true c ⟨t,d0.n,d0.dd,h⟩ K
theorem Ge{ev:ji}{f:FuncId}{args:List DV}{h0:ab}{v:DV}{h1:ab}(hd:nI e ev f args h0=some (v,h1)):
 ∃fn c x s l,e.fn f=some fn/\fn.body=some c/\ev c ⟨ie args,args.length+(fn.ntmps-args.length),[],h0⟩=some (x,s)/\(∀i,x≠.exit i)/\s.dd.all e.idle=true/\fJ e s fn.results.toList=some l/\v=jI l/\h1=s.h:=by
 unfold nI at hd
 split at hd
 . cases hd
 . rename_i fn aN
   split at hd
   . cases hd
   . rename_i c hb
     split at hd
     . cases hd
     . cases hd
     . rename_i x s hx he;obtain⟨h2,hd⟩:=bU hd
       split at hd
       . cases hd
       . rename_i l hr;simp only[qe,xS]at hd;exact⟨fn,c,x,s,l,aN,hb,he,λi hi=>by subst hi;exact(hx i rfl).elim,h2,hr,hd.1.symm,hd.2.symm⟩
theorem xQ{ev:ji}(aw:rL e N ev){f:FuncId}{args:List DV}{h0 h:ab}{v:DV}{h1:ab}(hd:nI e.aT ev f args h0=some (v,h1))(hh:HS N h0 h):
 ∃fn c,e.fn f=some fn/\fn.body=some c/\∀K:DV->ab->Prop,(∀h',HS N h1 h'->K (sh N v) h')->RD e true c ⟨ie (args.map (sh N)),(args.map (sh N)).length+(fn.ntmps-(args.map (sh N)).length),[],h⟩ (jd e fn.results.toList K):=by
 obtain⟨fn,c,x,s,l,q1,q2,q3,q4,q5,q6,rfl,rfl⟩:=Ge hd;refine⟨fn,c,q1,q2,λK hk=> ?_⟩;rw[PO];refine aw.run _ _ _ _ q3 _ _ _ (WT args) hh λt' h' ht h2=>⟨q4,λg hg=> ?_,l.map (sh N),Gd ht h2 q6, ?_⟩
 . simp only[List.all_eq_true]at q5;exact q5 g hg
 . show K (jI (l.map (sh N))) h';rw[WU];exact hk _ h2
theorem WV(he:e.Ok)(ad:e.P.follows .mixedOrders=true)(aa:Idle e){ev:ji}(aw:rL e N ev):rK e N false (vp e.aT ev):=by
 intro f args h0 v h1 T0 hd h hh K hk;unfold vp F3 at hd
 split at hd
 . cases hd
 rename_i v h1 hc;simp only[qe,xS]at hd;obtain⟨rfl,rfl,rfl⟩:=hd;have hd:=hc;obtain⟨fn,c,q1,q2,q3⟩:=xQ aw hd hh;intro G ha avs x hr;obtain⟨u,h',r1,d,ae,G',r2,r3,r4,r5⟩:=cJ.body (aj:=true) (K:=λd ae=>d=sh N v/\HS N h1 ae) he ad aa q1 q2 rfl (rs:=fn.results.toList) (by simp) (q3 _ λh' h2=>⟨rfl,h2⟩) G ha avs x hr;obtain⟨rfl,r5⟩:=r5;exact⟨u,h',r1,sh N v,ae,G',List.range ha.next,r2,r3,r4,λi hi hn=>absurd (List.mem_range.2 hi) hn,hk ae r5 _ λhp=>by cases hp⟩
theorem HS.none(n:Nat):HS N (⟨.nil,n⟩:ab) (ab.none (n+N)):=⟨rfl,λk=>by
 rw[ab.get_none];show _=Option.map _ (Tr.nil.get k);rw[Tr.get_nil];rfl⟩
theorem HS.up{h0 h:ab}(hh:HS N h0 h)(n:Nat):HS N (h0.up n) (h.up (n+N)):=⟨rfl,λk=>hh.get k⟩
theorem Bc(h':ab)(j:Nat):∀(k i:Nat) (m:Tr bx),(sZ h' k i m).get j=if i<=j/\j<i+k then(match h'.get j with|some o=>some o|none=>m.get j)else m.get j
 |0,i,m=>by rw[if_neg (by omega)];rfl
 |k+1,i,m=>by
  simp only[sZ];cases hq:h'.get i with
  |none=>
   simp only;rw[Bc h' j k (i+1) m];by_cases hj:j=i
   . subst hj;rw[if_neg (by omega),if_pos (by omega),hq]
   . by_cases h2:i+1<=j/\j<i+1+k
     . rw[if_pos h2,if_pos (by omega)]
     . rw[if_neg h2,if_neg (by omega)]
  |some o=>
   simp only;rw[Bc h' j k (i+1)];by_cases hj:j=i
   . subst hj;rw[if_neg (by omega),if_pos (by omega),hq,Tr.bn,if_pos rfl]
   . by_cases h2:i+1<=j/\j<i+1+k
     . rw[if_pos h2,if_pos (by omega),Tr.bn,if_neg hj]
     . rw[if_neg h2,if_neg (by omega),Tr.bn,if_neg hj]
theorem ti(h h':ab)(j:Nat):(kL h h').get j=if h.next<=j/\j<h'.next then(match h'.get j with|some o=>some o|none=>h.get j)else h.get j:=by
 show(sZ h' _ _ h.m).get j=_;rw[Bc];by_cases h2:h.next<=j/\j<h'.next
 . rw[if_pos (by omega),if_pos h2];rfl
 . rw[if_neg (by omega),if_neg h2];rfl
theorem HS.merge{h0 h h1 h':ab}(hh:HS N h0 h)(h2:HS N h1 h'):HS N (kL h0 h1) (kL h h'):=by
 refine⟨h2.next,λk=> ?_⟩;rw[ti,ti,hh.get,h2.get,hh.next,h2.next];by_cases hc:h0.next<=k/\k<h1.next
 . rw[if_pos hc,if_pos (by omega)];cases h1.get k<;>rfl
 . rw[if_neg hc,if_neg (by omega)]
theorem Gf(he:e.Ok)(ad:e.P.follows .mixedOrders=true)(aa:Idle e){ev:ji}(aw:rL e N ev){f:FuncId}{args:List DV}{h0 h az:ab}{v':DV}(hc:nI e.aT ev f args ⟨.nil,h0.next⟩=some (v',az))(hh:HS N h0 h){K:DV->ab->List Nat->Prop}(hk:∀h',HS N (kL h0 az) h'->K (sh N v') h' []):cJ e true f (args.map (sh N)) h K:=by
 have aC:HS N (⟨.nil,h0.next⟩:ab) (ab.none h.next):=by rw[hh.next];exact HS.none _
 obtain⟨fn,c,q1,q2,q3⟩:=xQ aw hc aC;intro G ha avs x hr;have x0:bH G ha (ab.none h.next):=⟨x.eU,x.next,λi o ho=>(by rw[ab.get_none]at ho;cases ho),λi hi=>⟨(x.still i hi).1,ab.get_none _ _⟩⟩;obtain⟨u,h',r1,d,ae,G',r2,r3,r4,rfl,r5⟩:=cJ.body (aj:=true) (K:=λd ae=>d=sh N v'/\HS N az ae) he ad aa q1 q2 rfl (rs:=fn.results.toList) (by simp) (q3 _ λh' h2=>⟨rfl,h2⟩) G ha avs x0 hr;have same:∀i,i<ha.next->h'.get i=ha.get i:=λi hi=>(r3.same i hi (ab.get_none _ _)).1;have hG:∀i,G i->i<ha.next:=λi hi=>(x.still i hi).1;have hm:∀i r,aI ha G i=some r->aI h' G' i=some r:=iz λi hg=>⟨r3.up i hg,same i (hG i hg)⟩;have aY:∀i,i<ha.next->G' i->G i:=λi hi hg=>by
  rcases r3.aY i hi hg with h2|h2
  . exact h2
  . rw[ab.get_none]at h2;cases h2
 have av:∀i,¬i<ha.next->h.get i=none:=λi hi=>by
  cases hq:h.get i with
  |none=>rfl
  |some o=>exact absurd (x.obj i o hq).1 hi
 have lo:∀i,i<ha.next->(kL h ae).get i=h.get i:=λi hi=>by
  rw[ti,if_neg];have:=x.next;omega
 have aK:∀i,¬i<ha.next->∀o,(kL h ae).get i=some o->ae.get i=some o:=λi hi o ho=>by
  rw[ti]at ho
  split at ho
  . split at ho
    . rename_i o' hq;cases ho;exact hq
    . rw[av i hi]at ho;cases ho
  . rw[av i hi]at ho;cases ho
 refine⟨u,h',r1,sh N v',kL h ae,G',[],⟨r2.eU,r2.next,λi o ho=> ?_,λi hi=>⟨(r2.still i hi).1, ?_⟩⟩,⟨r3.next,λi hi hd=>⟨same i hi,by rw[lo i hi];exact hd⟩,r3.up,λi hi hg=>.inl (aY i hi hg)⟩,r4,λi hi _=>⟨same i hi,lo i hi⟩,hk _ (hh.merge r5)⟩
 . by_cases aL:i<ha.next
   . rw[lo i aL]at ho;obtain⟨h2,ao,h3,h4⟩:=x.obj i o ho;exact⟨PX h2 r3.next,ao,by rw[same i h2];exact h3,h4.mono hm⟩
   . exact r2.obj i o (aK i aL o ho)
 . by_cases dE:i<ha.next
   . rw[lo i dE];exact(x.still i (aY i dE hi)).2
   . cases hq:(kL h ae).get i with
     |none=>rfl
     |some o=>
      have:=aK i dE o hq;rw[(r2.still i hi).2]at this;cases this
theorem xR(cs:List DV)(k:Nat)(f:DV->DV):∀(n o:Nat),(chunks cs o k f n).length=n
 |0,_=>rfl
 |n+1,o=>by simp only[chunks,List.length_cons,xR cs k f n]
theorem Gg(cs:List DV)(k:Nat)(f:DV->DV):∀(n o j:Nat) (x:List DV),(chunks cs o k f n)[j]? =some x->x=((cs.drop (o+j*k)).take k).map f
 |0,_,_,_,h=>by simp[chunks]at h
 |n+1,o,0,x,h=>by
  simp only[chunks,List.getElem?_cons_zero,qe]at h;rw[<-h];simp
 |n+1,o,j+1,x,h=>by
  simp only[chunks,List.getElem?_cons_succ]at h;rw[Gg cs k f n (o+k) j x h];congr 3;rw[Nat.add_mul];omega
theorem Gh(cs:List DV)(k:Nat)(f g:DV->DV):∀(n o:Nat),(chunks cs o k f n).map (λx=>x.map g)=chunks cs o k (λd=>g (f d)) n
 |0,_=>rfl
 |n+1,o=>by simp only[chunks,GP,Gh cs k f g n,Er];rfl
theorem Gi{f:DV->DV}{x:List DV}{i:Nat}{v:DV}(h:(x.map f)[i]? =some v):∃u,x[i]? =some u/\v=f u:=by
 rw[Qc,TF]at h;obtain⟨u,h1,h2⟩:=h;exact⟨u,h1,h2.symm⟩
theorem Bd{N:Nat}{h0:ab}{S:eR}:∀(m:Nat) (d:DV),(∀b∈qc h0 m d,∀cs wr ah,h0.get b=some (.row cs wr ah)->S (b+N)=some (cs.map (sh N),ah))->Fz S (sh N d) (sh N (lR h0 m d))
 |0,d,_=>.refl _
 |m+1,d,hS=>by
  have ih:= @Bd N h0 S m;unfold qc at hS;unfold lR
  split
  . rename_i b o n c;cases hg:h0.get b with
    |none=>exact .refl _
    |some ob=>
     cases ob with
     |row cs wr ah=>
      simp only[AX,hg]at hS;simp only[FZ];generalize hk:rJ cs o c ah=k at hS⊢;cases hb:vn cs o n c k with
      |false=>exact .refl _
      |true=>
       rw[hb]at hS;simp only[vn,Bool.and_eq_true]at hb;unfold rJ at hk;have aP:0<k:=VK hb.1.1;have aQ:n<=c:=VK hb.1.2;have aD:o+n*k<=cs.length:=VK hb.2;have he:ah=0\/ah=k:=by
        cases hq:Nat.beq ah 0 with
        |true=>exact .inl (W2 hq)
        |false=>rw[hq]at hk;exact .inr hk
       show Fz S _ (sh N (.sl k (chunks cs o k (lR h0 m) n)));simp only[bJ,bM,ep,lO];rw[Gh];have aE:S (b+N)=some (cs.map (sh N),ah):=hS b List.mem_cons_self _ _ _ hg;have hl:∀j x,(chunks cs o k (λd=>sh N (lR h0 m d)) n)[j]? =some x->j<n/\x=((cs.drop (o+j*k)).take k).map λd=>sh N (lR h0 m d):=λj x hx=>by
        have:=(List.getElem?_eq_some_iff.1 hx).1;rw[xR]at this;exact⟨this,Gg cs k _ n o j x hx⟩
       have aR:∀j,j<n->o+j*k+k<=cs.length:=λj hj=>by
        have:(j+1)*k<=n*k:=Nat.mul_le_mul_right _ hj;rw[Nat.add_mul]at this;omega
       refine .sl aE he aP (xR ..).symm aQ (λx hx=> ?_) (by rw[xR,PO];exact aD) λj x i v d h1 h2 h3=> ?_
       . obtain⟨j,hj⟩:=List.getElem?_of_mem hx;obtain⟨q1,rfl⟩:=hl j x hj;have:=aR j q1;rw[PO,List.length_take,List.length_drop];omega
       . obtain⟨q1,rfl⟩:=hl j x h1;obtain⟨u,q2,rfl⟩:=Gi h2;obtain⟨w,q3,rfl⟩:=Gi h3;rw[List.getElem?_take]at q2
         split at q2
         . rw[List.getElem?_drop,q3]at q2;cases q2;exact ih u λb' aF=>hS b' (List.mem_cons_of_mem _ (DE.2 ⟨u,W9 q3,aF⟩))
         . cases q2
     |_=>exact .refl _
  . rename_i l;rw[jN,jN];refine .agg (by simp) λi v d h1 h2=> ?_;rw[Er,Qc,TF]at h2;rw[Qc,TF]at h1;obtain⟨u,h1,rfl⟩:=h1;obtain⟨w,h2,rfl⟩:=h2;rw[h1]at h2;cases h2;exact ih u λb' aF=>hS b' (DE.2 ⟨u,W9 h1,aF⟩)
  . exact .refl _
theorem Bf{S:eR}{f g:DV->DV}:∀(l:List DV),(∀d∈l,Fz S (f d) (g d))->cA S (l.map f) (l.map g)
 |[],_=>.nil
 |d::l,hf=>.cons (hf d (by simp)) (Bf l λd hd=>hf d (by simp[hd]))
theorem WW{h0 h:ab}(hh:HS N h0 h){b:Nat}{cs:List DV}{wr:Bool}{ah:Nat}(hg:h0.get b=some (.row cs wr ah)):allRows h (b+N)=some (cs.map (sh N),ah):=by unfold allRows;rw[hh.row hg]
theorem WX(he:e.Ok)(ad:e.P.follows .mixedOrders=true)(aa:Idle e){ev:ji}(aw:rL e N ev){f:FuncId}{args:List DV}{h0 h az:ab}{w:Value}(hc:nI e.aT ev f (args.map (lR h0 4)) ⟨.nil,h0.next⟩=some (.v w,az))(hw:iE w=true)(hh:HS N h0 h){K:DV->ab->List Nat->Prop}(hk:∀h',HS N (h0.up az.next) h'->K (sh N (.v w)) h' []):cJ e true f (args.map (sh N)) h K:=by
 have aC:HS N (⟨.nil,h0.next⟩:ab) (ab.none h.next):=by rw[hh.next];exact HS.none _
 obtain⟨fn,c,q1,q2,q3⟩:=xQ aw hc aC;intro G ha avs x hr;have aS:b8 (aI ha (λi=>i<ha.next)) avs ((args.map (lR h0 4)).map (sh N)):=b8.fz (S:=allRows h) x (λi cs ah hr=>by
  unfold allRows at hr
  split at hr
  . rename_i cs' wr aU hg;cases hr;exact⟨(x.obj _ _ hg).1,wr,hg⟩
  . cases hr) (λi hg=>(x.still i hg).1) (by rw[Er];exact Bf args λd _=>Bd 4 d λb _ cs wr ah hg=>WW hh hg) hr
 have x0:bH (λi=>i<ha.next) ha (ab.none h.next):=⟨x.eU.mono (iz λi hg=>⟨(x.still i hg).1,rfl⟩),x.next,λi o ho=>(by rw[ab.get_none]at ho;cases ho),λi hi=>⟨hi,ab.get_none _ _⟩⟩;obtain⟨u,h',r1,d,ae,G',r2,r3,r4,rfl,r5⟩:=cJ.body (aj:=true) (K:=λd ae=>d=sh N (.v w)/\HS N az ae) he ad aa q1 q2 rfl (rs:=fn.results.toList) (by simp) (q3 _ λh' h2=>⟨rfl,h2⟩) _ ha avs x0 aS;have same:∀i,i<ha.next->h'.get i=ha.get i:=λi hi=>(r3.same i hi (ab.get_none _ _)).1;have hG:∀i,G i->i<ha.next:=λi hi=>(x.still i hi).1;have hm:∀i r,aI ha G i=some r->aI h' G i=some r:=iz λi hg=>⟨hg,same i (hG i hg)⟩;refine⟨u,h',r1,sh N (.v w),h.up ae.next,G,[],⟨x.eU.mono hm,r2.next,λi o ho=> ?_,λi hi=>⟨PX (hG i hi) r3.next,(x.still i hi).2⟩⟩,⟨r3.next,λi hi hd=>⟨same i hi,hd⟩,λi hg=>hg,λi hi hg=>.inl hg⟩, ?_,λi hi _=>⟨same i hi,rfl⟩, ?_⟩
 . obtain⟨h2,ao,h3,h4⟩:=x.obj i o ho;exact⟨PX h2 r3.next,ao,by rw[same i h2];exact h3,h4.mono hm⟩
 . rw[bJ]at r4⊢;rw[r4.cG];exact .v _
 . rw[r5.next];exact hk _ (hh.up az.next)
theorem cJ.still{aj:Bool}{f:FuncId}{aA dargs':List DV}{dh:ab}{K:DV->ab->List Nat->Prop}(l:List Nat)(hl:∀i∈l,(dh.get i).isSome=true)(hz:cA (rowsOf dh l) aA dargs')(hc:cJ e aj f dargs' (fA dh l) λv ae T=>K v ae (T++l)):cJ e aj f aA dh K:=by
 intro G h args x ha;obtain⟨k1,k2⟩:=x.drop l hl;have aW:b8 (aI h (λi=>G i\/i∈l)) args dargs':=b8.fz x (λi cs ah hr=>⟨.inr (uQ hr).1,(uQ hr).2⟩) (λi hg=>.inl hg) hz ha;have key:=hc (λi=>G i\/i∈l) h args k1 aW;have fin:∀v h',my (λi=>G i\/i∈l) h (fA dh l) (λv ae T=>K v ae (T++l)) v h'->my G h dh K v h':=λv h' ⟨d,ae,G',T,r2,r3,r4,r5,r6⟩=>by
  refine⟨d,ae,G',T++l,r2,k2.trans r3,r4,λi hi hT=> ?_,r6⟩;rw[List.mem_append,not_or]at hT;obtain⟨h1,h2⟩:=r5 i hi hT.1;exact⟨h1,by rw[h2,mA,if_neg hT.2]⟩
 cases aj with
 |true=>obtain⟨v,h',h1,h2⟩:=key;exact⟨v,h',h1,fin v h' h2⟩
 |false=>exact e8.mono key fin
theorem HS.drop{h0 h:ab}(hh:HS N h0 h):∀(l:List Nat),HS N (fA h0 l) (fA h (l.map (·+N)))
 |[]=>hh
 |i::l=>HS.set (HS.drop hh l) i Option.none
theorem Bg(h:ab):∀(m:Nat) (d:DV),∀b∈qc h m d,(h.get b).isSome=true
 |0,d,b,hb=>by cases hb
 |m+1,d,b,hb=>by
  unfold qc at hb
  split at hb
  . rename_i b' o n c;cases hg:h.get b' with
    |none=>rw[hg]at hb;cases hb
    |some ob=>
     rw[hg]at hb;cases ob with
     |row cs wr ah=>
      simp only[AX]at hb;cases hq:vn cs o n c (rJ cs o c ah)with
      |true=>
       simp only[hq,cond_true,List.mem_cons,DE]at hb;rcases hb with rfl|⟨u,_,hb⟩
       . rw[hg];rfl
       . exact Bg h m u b hb
      |false=>rw[hq]at hb;cases hb
     |_=>cases hb
  . obtain⟨u,_,hb⟩:=DE.1 hb;exact Bg h m u b hb
  . cases hb
theorem WY(he:e.Ok)(ad:e.P.follows .mixedOrders=true)(aa:Idle e){ev:ji}(aw:rL e N ev){f:FuncId}{args:List DV}{h0 h az:ab}{v':DV}{l:List Nat}(hl:args.flatMap (qc h0 4)=l)(hc:nI e.aT ev f (args.map (lR h0 4)) ⟨.nil,h0.next⟩=some (v',az))(hh:HS N h0 h){K:DV->ab->List Nat->Prop}(hk:∀h',HS N (kL (fA h0 l) az) h'->K (sh N v') h' (l.map (·+N))):cJ e true f (args.map (sh N)) h K:=by
 have aB:∀b∈l,(h0.get b).isSome=true:=λb hb=>by
  rw[<-hl]at hb;obtain⟨d,_,hb⟩:=DE.1 hb;exact Bg h0 4 d b hb
 refine cJ.still (dargs':=(args.map (lR h0 4)).map (sh N)) (l.map (·+N)) (λi hi=> ?_) ?_ ?_
 . obtain⟨b,hb,rfl⟩:=List.mem_map.1 hi;show(h.get (b+N)).isSome=true;rw[hh.get,Option.isSome_map];exact aB b hb
 . rw[Er];refine Bf args λd hd=>Bd 4 d λb hb cs wr ah hg=>gr (List.mem_map.2 ⟨b, ?_,rfl⟩) (hh.row hg);rw[<-hl];exact DE.2 ⟨d,hd,hb⟩
 . refine Gf (h0:=fA h0 l) he ad aa aw (by rw[uP];exact hc) (hh.drop l) λh' h2=> ?_;exact hk h' h2
theorem WZ(he:e.Ok)(ad:e.P.follows .mixedOrders=true)(aa:Idle e){ev:ji}(aw:rL e N ev):rK e N true (vo e.aT ev):=by
 intro f args h0 v h1 T0 hd h hh K hk;unfold vo at hd;cases hq:args.any (F1 h0)with
 |true=>
  rw[hq]at hd;change AZ _ _ _=_ at hd;unfold AZ at hd
  split at hd
  . cases hd
  . rename_i v' az hc;cases hp:AY v' with
    |true=>
     rw[hp]at hd;simp only[cond_true,qe,xS]at hd;obtain⟨rfl,rfl,rfl⟩:=hd;unfold AY at hp
     split at hp
     . exact WX he ad aa aw hc hp hh λh' h2=>hk h' h2 [] λ_=>rfl
     . cases hp
    |false=>
     rw[hp]at hd;simp only[cond_false,F2,qe,xS]at hd;obtain⟨rfl,rfl,rfl⟩:=hd;exact WY he ad aa aw rfl hc hh λh' h2=>hk h' h2 _ λ_=>rfl
 |false=>
  rw[hq]at hd;change A8 _ _=_ at hd;unfold A8 at hd
  split at hd
  . cases hd
  . rename_i v' az hc;simp only[qe,xS]at hd;obtain⟨rfl,rfl,rfl⟩:=hd;exact Gf he ad aa aw hc hh λh' h2=>hk h' h2 [] λ_=>rfl
theorem W0{cf cp:iG}{ev:ji}(h1:rK e N false (vp e.aT ev))(h2:rK e N true (vo e.aT ev)){ops:Array Oper}{id:Nat}{draw:Bool}{d0 d1:DS}(hd:F4 e.aT ev ops.toList draw d0=some d1){t:Tr DV}{h:ab}{K:bk->DS->Prop}
 (ht:TS N d0.t t) (hh:HS N d0.h h) (hk:∀t' h',TS N d1.t t'->HS N d1.h h'->K .normal ⟨t',d1.n,d1.dd,h'⟩):RD e true (.region id ops draw) ⟨t,d0.n,d0.dd,h⟩ K:=by
 obtain⟨t0,n,dd,h0⟩:=d0;cases draw with
 |false=>
  have hd:pM e.aT _ _ _ t0 n dd h0=some d1:=hd;rw[FX]at hd;exact Bb (e:=e) h1 hh ht hd (K .normal) hk
 |true=>
  obtain⟨hp,hd⟩:=bU hd;have key:=oQ (e:=e) h2 (N0:=h0.next) (id:=h0.next) (aq:=[]) (T:=[]) (L:=[]) (hh.up (h0.next+(ops.toList.filter λo=>cls o.op==.alloc).length)) ht hd (K .normal) hk;have e1:h0.next+N=h.next:=hh.next.symm;have e2:h0.next+(ops.toList.filter λo=>cls o.op==.alloc).length+N=h.next+(ops.toList.filter λo=>cls o.op==.alloc).length:=by rw[<-e1];omega
  rw[e1,e2]at key;have:=jK (e:=e) (AW ops.toList) hp _ (Nat.beq_refl _) h.next rfl key;exact this
theorem W1(he:e.Ok)(ad:e.P.follows .mixedOrders=true)(aa:Idle e)(n:Nat):rL e N (nJ e.aT n):=by
 induction n using Nat.strongRecOn with
 |_ n IH=>
 cases n with
 |zero=>exact⟨λc d0 x d1 h=>by cases h⟩
 |succ n=>
  have ih:=IH n (Nat.lt_succ_self n);have hc:=WV he ad aa ih;have hp:=WZ he ad aa ih;refine⟨λc d0 x d1 hd t h K ht hh hk=> ?_⟩;have hd:mG e.aT (nJ e.aT n) c d0=some (x,d1):=hd;cases c with
  |skip=>
   simp only[mG,oP,qe,xS]at hd;obtain⟨rfl,rfl⟩:=hd;exact hk _ _ ht hh
  |exit id=>
   simp only[mG,oP,qe,xS]at hd;obtain⟨rfl,rfl⟩:=hd;exact hk _ _ ht hh
  |ret=>
   simp only[mG,oP,qe,xS]at hd;obtain⟨rfl,rfl⟩:=hd;exact hk _ _ ht hh
  |region id ops draw=>
   simp only[mG,oP,s9,ta,te,tg,th]at hd
   split at hd
   . cases hd
   . rename_i s hs;simp only[qe,xS]at hd;obtain⟨rfl,rfl⟩:=hd;exact W0 (cf:=vp e.aT (nJ e.aT n)) (cp:=vo e.aT (nJ e.aT n)) hc hp hs ht hh hk
  |seq a b=>
   simp only[mG,oP,s9,ta,te,tg,th]at hd;simp only[RD]
   split at hd
   . rename_i s hs;refine ih.run _ _ _ _ hs t h _ ht hh λt' h' af ai=> ?_;exact ih.run _ _ _ _ hd t' h' _ af ai hk
   . rename_i hn;refine ih.run _ _ _ _ hd t h _ ht hh λt' h' af ai=> ?_;cases x with
     |normal=>exact absurd hd (hn d1)
     |exit i=>exact hk _ _ af ai
     |ret=>exact hk _ _ af ai
  |cond c a b=>
   simp only[mG,oP,s9,ta,te,tg,th]at hd;simp only[RD]
   split at hd
   . rename_i hb;refine⟨_,dL ht hb, ?_⟩;simp only[bJ,bM];exact⟨λ_=>ih.run _ _ _ _ hd t h _ ht hh hk,λhf=>by cases hf⟩
   . rename_i hb;refine⟨_,dL ht hb, ?_⟩;simp only[bJ,bM];exact⟨λhf=>(by cases hf),λ_=>ih.run _ _ _ _ hd t h _ ht hh hk⟩
   . cases hd
  |block id c=>
   simp only[mG,oP,s9,ta,te,tg,th]at hd;simp only[RD]
   split at hd
   . rename_i i s hs;refine ih.run _ _ _ _ hs t h _ ht hh λt' h' af ai=> ?_;simp only;cases hq:Nat.beq i id with
     |true=>
      rw[hq]at hd;simp only[cond_true,qe,xS]at hd;obtain⟨rfl,rfl⟩:=hd;rw[if_pos (W2 hq)];exact hk _ _ af ai
     |false=>
      rw[hq]at hd;simp only[cond_false,qe,xS]at hd;obtain⟨rfl,rfl⟩:=hd;rw[if_neg (Nat.ne_of_beq_eq_false hq)];exact hk _ _ af ai
   . rename_i hn;refine ih.run _ _ _ _ hd t h _ ht hh λt' h' af ai=> ?_;cases x with
     |normal=>exact hk _ _ af ai
     |exit i=>exact absurd hd (hn i d1)
     |ret=>exact hk _ _ af ai
  |loop c=>
   have key:∀m,m<=n+1->∀d0,nJ e.aT m (.loop c) d0=some (x,d1)->∀t h,TS N d0.t t->HS N d0.h h->RD e true c ⟨t,d0.n,d0.dd,h⟩ (KI (λj d=>∃d0,j<=n+1/\nJ e.aT j (.loop c) d0=some (x,d1)/\TS N d0.t d.t/\HS N d0.h d.h/\d.n=d0.n/\d.dd=d0.dd) m K):=λm hm d0 hd t h ht hh=>by
    cases m with
    |zero=>cases hd
    |succ m=>
     have aM:=IH m (by omega);have hd:mG e.aT (nJ e.aT m) (.loop c) d0=some (x,d1):=hd;simp only[mG,oP,s9,ta,te,tg,th]at hd
     split at hd
     . rename_i s hs;refine aM.run _ _ _ _ hs t h _ ht hh λt' h' af ai=> ?_;exact⟨m,by omega,_,ax.refl _,s,by omega,hd,af,ai,rfl,rfl⟩
     . rename_i hn;refine aM.run _ _ _ _ hd t h _ ht hh λt' h' af ai=> ?_;cases x with
       |normal=>exact absurd hd (hn d1)
       |exit i=>exact hk _ _ af ai
       |ret=>exact hk _ _ af ai
   show WD e true (.loop c) _ K;refine WD.loop he ad (λj d=>∃d0,j<=n+1/\nJ e.aT j (.loop c) d0=some (x,d1)/\TS N d0.t d.t/\HS N d0.h d.h/\d.n=d0.n/\d.dd=d0.dd) (λj d hI=> ?_) (n+1) _ ⟨_,ax.refl _,d0,Nat.le_refl _,hd,ht,hh,rfl,rfl⟩;obtain⟨d2,h1,h2,h3,h4,h5,h6⟩:=hI;obtain⟨dt,dn,aX,dh⟩:=d;simp only at h3 h4 h5 h6;subst h5;subst h6;exact key j h1 d2 h2 dt dh h3 h4
  |_=>cases hd
end Go.au
end

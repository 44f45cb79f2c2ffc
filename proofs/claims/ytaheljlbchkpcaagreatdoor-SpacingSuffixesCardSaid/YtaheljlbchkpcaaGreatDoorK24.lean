/- SpacingSuffixes: parts of its proof (DvP SpQ Li1 DgT ClI ClUE Es1). -/
import Derived.DataReads
import Derived.Test.YtaheljlbchkpcaaGreatDoorK19
import Derived.Test.YtaheljlbchkpcaaGreatDoorK22
import Derived.Test.YtaheljlbchkpcaaGreatDoorK23
set_option linter.unusedVariables false
set_option linter.unusedSimpArgs false
noncomputable section
namespace Go.aw
variable {e:Env} {N:Nat}
theorem HN:∀(l:List DV) (i:Nat) {t0 t:Tr DV},TS N t0 t->TS N (Tr.ofList l i t0) (Tr.ofList (l.map (sh N)) i t)
 |[],_,_,_,ht=>ht
 |d::l,i,_,_,ht=>by
  simp only[List.map_cons,Tr.ofList];exact HN l (i+1) (ht.put (some i) d)
theorem ZT(l:List DV):TS N (iT l) (iT (l.map (sh N))):=HN l 0 λi=>by rw[Tr.get_nil];rfl
theorem ZU(l:List DV):kp (l.map (sh N))=sh N (kp l):=by
 match l with
 |[]=>simp only[List.map_nil,kp,jP]
 |[v]=>rfl
 |v::w::l=>simp only[List.map_cons,kp,jP]
theorem HO{s0 s:DS}(ht:TS N s0.t s.t)(hh:HS N s0.h s.h):∀{rs:List ResultVar} {l:List DV},gw e.aU s0 rs=some l->gw e s rs=some (l.map (sh N))
 |[],l,h=>by simp only[gw,Option.some.injEq]at h;subst h;rfl
 |r::rs,l,h=>by
  simp only[gw]at h
  split at h
  . rename_i v vs h1 h2;cases h;have h3:=HO ht hh h2;simp only[gw];rw[h3];cases r with
    |tmp i=>
     simp only at h1⊢;rw[ht i,h1];rfl
    |cell a ty=>
     obtain⟨p,h4,h5⟩:=Option.bind_eq_some_iff.1 h1;simp only;rw[ht a,h4];simp only[Option.map_some,Option.bind_some,Hb hh h5];rfl
  . cases h
structure tn(e:Env)(N:Nat)(ev:jS):Prop where
 run:∀c d0 x d1,ev c d0=some (x,d1)->∀t h (K:bn->DS->Prop),TS N d0.t t->HS N d0.h h->(∀t' h',TS N d1.t t'->HS N d1.h h'->K x ⟨t',d1.n,d1.dd,h'⟩)->RD e true c ⟨t,d0.n,d0.dd,h⟩ K
theorem HP{ev:jS}{f:FuncId}{args:List DV}{h0:ab}{v:DV}{h1:ab}(hd:oO e ev f args h0=some (v,h1)):
 ∃fn c x s l,e.fn f=some fn/\fn.body=some c/\ev c ⟨iT args,args.length+(fn.ntmps-args.length),[],h0⟩=some (x,s)/\(∀i,x≠.exit i)/\s.dd.all e.idle=true/\gw e s fn.results.toList=some l/\v=kp l/\h1=s.h:=by
 unfold oO at hd
 split at hd
 . cases hd
 . rename_i fn aQ
   split at hd
   . cases hd
   . rename_i c hb
     split at hd
     . cases hd
     . cases hd
     . rename_i x s hx he;obtain⟨h2,hd⟩:=ca hd
       split at hd
       . cases hd
       . rename_i l hr;simp only[Option.some.injEq,Prod.mk.injEq]at hd;exact⟨fn,c,x,s,l,aQ,hb,he,λi hi=>by subst hi;exact(hx i rfl).elim,h2,hr,hd.1.symm,hd.2.symm⟩
theorem zm{ev:jS}(av:tn e N ev){f:FuncId}{args:List DV}{h0 h:ab}{v:DV}{h1:ab}(hd:oO e.aU ev f args h0=some (v,h1))(hh:HS N h0 h):
 ∃fn c,e.fn f=some fn/\fn.body=some c/\∀K:DV->ab->Prop,(∀h',HS N h1 h'->K (sh N v) h')->RD e true c ⟨iT (args.map (sh N)),(args.map (sh N)).length+(fn.ntmps-(args.map (sh N)).length),[],h⟩ (jN e fn.results.toList K):=by
 obtain⟨fn,c,x,s,l,q1,q2,q3,q4,q5,q6,rfl,rfl⟩:=HP hd;refine⟨fn,c,q1,q2,λK hk=> ?_⟩;rw[List.length_map];refine av.run _ _ _ _ q3 _ _ _ (ZT args) hh λt' h' ht h2=>⟨q4,λg hg=> ?_,l.map (sh N),HO ht h2 q6, ?_⟩
 . simp only[List.all_eq_true]at q5;exact q5 g hg
 . show K (kp (l.map (sh N))) h';rw[ZU];exact hk _ h2
theorem ZV(he:e.Ok)(ad:e.P.follows .mixedOrders=true)(aa:Idle e){ev:jS}(av:tn e N ev):tm e N false (xq e.aU ev):=by
 intro f args h0 v h1 T0 hd h hh K hk;unfold xq HE at hd
 split at hd
 . cases hd
 rename_i v h1 hc;simp only[Option.some.injEq,Prod.mk.injEq]at hd;obtain⟨rfl,rfl,rfl⟩:=hd;have hd:=hc;obtain⟨fn,c,q1,q2,q3⟩:=zm av hd hh;intro G ha avs x hr;obtain⟨u,h',r1,d,ae,G',r2,r3,r4,r5⟩:=c8.body (aj:=true) (K:=λd ae=>d=sh N v/\HS N h1 ae) he ad aa q1 q2 rfl (rs:=fn.results.toList) (by simp) (q3 _ λh' h2=>⟨rfl,h2⟩) G ha avs x hr;obtain⟨rfl,r5⟩:=r5;exact⟨u,h',r1,sh N v,ae,G',List.range ha.next,r2,r3,r4,λi hi hn=>absurd (List.mem_range.2 hi) hn,hk ae r5 _ λhp=>by cases hp⟩
theorem HS.none(n:Nat):HS N (⟨.nil,n⟩:ab) (ab.none (n+N)):=⟨rfl,λk=>by
 rw[ab.get_none];show _=Option.map _ (Tr.nil.get k);rw[Tr.get_nil];rfl⟩
theorem HS.up{h0 h:ab}(hh:HS N h0 h)(n:Nat):HS N (h0.up n) (h.up (n+N)):=⟨rfl,λk=>hh.get k⟩
theorem CL(h':ab)(j:Nat):∀(k i:Nat) (m:Tr bF),(uT h' k i m).get j=if i<=j/\j<i+k then(match h'.get j with|some o=>some o|none=>m.get j)else m.get j
 |0,i,m=>by rw[if_neg (by omega)];rfl
 |k+1,i,m=>by
  simp only[uT];cases hq:h'.get i with
  |none=>
   simp only;rw[CL h' j k (i+1) m];by_cases hj:j=i
   . subst hj;rw[if_neg (by omega),if_pos (by omega),hq]
   . by_cases h2:i+1<=j/\j<i+1+k
     . rw[if_pos h2,if_pos (by omega)]
     . rw[if_neg h2,if_neg (by omega)]
  |some o=>
   simp only;rw[CL h' j k (i+1)];by_cases hj:j=i
   . subst hj;rw[if_neg (by omega),if_pos (by omega),hq,Tr.bw,if_pos rfl]
   . by_cases h2:i+1<=j/\j<i+1+k
     . rw[if_pos h2,if_pos (by omega),Tr.bw,if_neg hj]
     . rw[if_neg h2,if_neg (by omega),Tr.bw,if_neg hj]
theorem u5(h h':ab)(j:Nat):(lI h h').get j=if h.next<=j/\j<h'.next then(match h'.get j with|some o=>some o|none=>h.get j)else h.get j:=by
 show(uT h' _ _ h.m).get j=_;rw[CL];by_cases h2:h.next<=j/\j<h'.next
 . rw[if_pos (by omega),if_pos h2];rfl
 . rw[if_neg (by omega),if_neg h2];rfl
theorem HS.merge{h0 h h1 h':ab}(hh:HS N h0 h)(h2:HS N h1 h'):HS N (lI h0 h1) (lI h h'):=by
 refine⟨h2.next,λk=> ?_⟩;rw[u5,u5,hh.get,h2.get,hh.next,h2.next];by_cases hc:h0.next<=k/\k<h1.next
 . rw[if_pos hc,if_pos (by omega)];cases h1.get k<;>rfl
 . rw[if_neg hc,if_neg (by omega)]
theorem HQ(he:e.Ok)(ad:e.P.follows .mixedOrders=true)(aa:Idle e){ev:jS}(av:tn e N ev){f:FuncId}{args:List DV}{h0 h ay:ab}{v':DV}(hc:oO e.aU ev f args ⟨.nil,h0.next⟩=some (v',ay))(hh:HS N h0 h){K:DV->ab->List Nat->Prop}(hk:∀h',HS N (lI h0 ay) h'->K (sh N v') h' []):c8 e true f (args.map (sh N)) h K:=by
 have aD:HS N (⟨.nil,h0.next⟩:ab) (ab.none h.next):=by rw[hh.next];exact HS.none _
 obtain⟨fn,c,q1,q2,q3⟩:=zm av hc aD;intro G ha avs x hr;have x0:bM G ha (ab.none h.next):=⟨x.fF,x.next,λi o ho=>(by rw[ab.get_none]at ho;cases ho),λi hi=>⟨(x.still i hi).1,ab.get_none _ _⟩⟩;obtain⟨u,h',r1,d,ae,G',r2,r3,r4,rfl,r5⟩:=c8.body (aj:=true) (K:=λd ae=>d=sh N v'/\HS N ay ae) he ad aa q1 q2 rfl (rs:=fn.results.toList) (by simp) (q3 _ λh' h2=>⟨rfl,h2⟩) G ha avs x0 hr;have same:∀i,i<ha.next->h'.get i=ha.get i:=λi hi=>(r3.same i hi (ab.get_none _ _)).1;have hG:∀i,G i->i<ha.next:=λi hi=>(x.still i hi).1;have hm:∀i r,aI ha G i=some r->aI h' G' i=some r:=jj λi hg=>⟨r3.up i hg,same i (hG i hg)⟩;have ba:∀i,i<ha.next->G' i->G i:=λi hi hg=>by
  rcases r3.ba i hi hg with h2|h2
  . exact h2
  . rw[ab.get_none]at h2;cases h2
 have au:∀i,¬i<ha.next->h.get i=none:=λi hi=>by
  cases hq:h.get i with
  |none=>rfl
  |some o=>exact absurd (x.obj i o hq).1 hi
 have lo:∀i,i<ha.next->(lI h ae).get i=h.get i:=λi hi=>by
  rw[u5,if_neg];have:=x.next;omega
 have aL:∀i,¬i<ha.next->∀o,(lI h ae).get i=some o->ae.get i=some o:=λi hi o ho=>by
  rw[u5]at ho
  split at ho
  . split at ho
    . rename_i o' hq;cases ho;exact hq
    . rw[au i hi]at ho;cases ho
  . rw[au i hi]at ho;cases ho
 refine⟨u,h',r1,sh N v',lI h ae,G',[],⟨r2.fF,r2.next,λi o ho=> ?_,λi hi=>⟨(r2.still i hi).1, ?_⟩⟩,⟨r3.next,λi hi hd=>⟨same i hi,by rw[lo i hi];exact hd⟩,r3.up,λi hi hg=>.inl (ba i hi hg)⟩,r4,λi hi _=>⟨same i hi,lo i hi⟩,hk _ (hh.merge r5)⟩
 . by_cases aN:i<ha.next
   . rw[lo i aN]at ho;obtain⟨h2,ao,h3,h4⟩:=x.obj i o ho;exact⟨Nat.lt_of_lt_of_le h2 r3.next,ao,by rw[same i h2];exact h3,h4.mono hm⟩
   . exact r2.obj i o (aL i aN o ho)
 . by_cases dS:i<ha.next
   . rw[lo i dS];exact(x.still i (ba i dS hi)).2
   . cases hq:(lI h ae).get i with
     |none=>rfl
     |some o=>
      have:=aL i dS o hq;rw[(r2.still i hi).2]at this;cases this
theorem zn(cs:List DV)(k:Nat)(f:DV->DV):∀(n o:Nat),(chunks cs o k f n).length=n
 |0,_=>rfl
 |n+1,o=>by simp only[chunks,List.length_cons,zn cs k f n]
theorem HR(cs:List DV)(k:Nat)(f:DV->DV):∀(n o j:Nat) (x:List DV),(chunks cs o k f n)[j]? =some x->x=((cs.drop (o+j*k)).take k).map f
 |0,_,_,_,h=>by simp[chunks]at h
 |n+1,o,0,x,h=>by
  simp only[chunks,List.getElem?_cons_zero,Option.some.injEq]at h;rw[<-h];simp
 |n+1,o,j+1,x,h=>by
  simp only[chunks,List.getElem?_cons_succ]at h;rw[HR cs k f n (o+k) j x h];congr 3;rw[Nat.add_mul];omega
theorem HT(cs:List DV)(k:Nat)(f g:DV->DV):∀(n o:Nat),(chunks cs o k f n).map (λx=>x.map g)=chunks cs o k (λd=>g (f d)) n
 |0,_=>rfl
 |n+1,o=>by simp only[chunks,List.map_cons,HT cs k f g n,List.map_map];rfl
theorem HU{f:DV->DV}{x:List DV}{i:Nat}{v:DV}(h:(x.map f)[i]? =some v):∃u,x[i]? =some u/\v=f u:=by
 rw[List.getElem?_map,Option.map_eq_some_iff]at h;obtain⟨u,h1,h2⟩:=h;exact⟨u,h1,h2.symm⟩
theorem CM{N:Nat}{h0:ab}{S:fA}:∀(m:Nat) (d:DV),(∀b∈rB h0 m d,∀cs wr ah,h0.get b=some (.row cs wr ah)->S (b+N)=some (cs.map (sh N),ah))->Fz S (sh N d) (sh N (mL h0 m d))
 |0,d,_=>.refl _
 |m+1,d,hS=>by
  have ih:= @CM N h0 S m;unfold rB at hS;unfold mL
  split
  . rename_i b o n c;cases hg:h0.get b with
    |none=>exact .refl _
    |some ob=>
     cases ob with
     |row cs wr ah=>
      simp only[CE,hg]at hS;simp only[HA];generalize hk:tj cs o c ah=k at hS⊢;cases hb:xo cs o n c k with
      |false=>exact .refl _
      |true=>
       rw[hb]at hS;simp only[xo,Bool.and_eq_true]at hb;unfold tj at hk;have aR:0<k:=Nat.le_of_ble_eq_true hb.1.1;have aS:n<=c:=Nat.le_of_ble_eq_true hb.1.2;have aE:o+n*k<=cs.length:=Nat.le_of_ble_eq_true hb.2;have he:ah=0\/ah=k:=by
        cases hq:Nat.beq ah 0 with
        |true=>exact .inl (Nat.eq_of_beq_eq_true hq)
        |false=>rw[hq]at hk;exact .inr hk
       show Fz S _ (sh N (.sl k (chunks cs o k (mL h0 m) n)));simp only[bR,bU,eP,mJ];rw[HT];have aF:S (b+N)=some (cs.map (sh N),ah):=hS b List.mem_cons_self _ _ _ hg;have hl:∀j x,(chunks cs o k (λd=>sh N (mL h0 m d)) n)[j]? =some x->j<n/\x=((cs.drop (o+j*k)).take k).map λd=>sh N (mL h0 m d):=λj x hx=>by
        have:=(List.getElem?_eq_some_iff.1 hx).1;rw[zn]at this;exact⟨this,HR cs k _ n o j x hx⟩
       have aT:∀j,j<n->o+j*k+k<=cs.length:=λj hj=>by
        have:(j+1)*k<=n*k:=Nat.mul_le_mul_right _ hj;rw[Nat.add_mul]at this;omega
       refine .sl aF he aR (zn ..).symm aS (λx hx=> ?_) (by rw[zn,List.length_map];exact aE) λj x i v d h1 h2 h3=> ?_
       . obtain⟨j,hj⟩:=List.getElem?_of_mem hx;obtain⟨q1,rfl⟩:=hl j x hj;have:=aT j q1;rw[List.length_map,List.length_take,List.length_drop];omega
       . obtain⟨q1,rfl⟩:=hl j x h1;obtain⟨u,q2,rfl⟩:=HU h2;obtain⟨w,q3,rfl⟩:=HU h3;rw[List.getElem?_take]at q2
         split at q2
         . rw[List.getElem?_drop,q3]at q2;cases q2;exact ih u λb' aJ=>hS b' (List.mem_cons_of_mem _ (List.mem_flatMap.2 ⟨u,List.mem_of_getElem? q3,aJ⟩))
         . cases q2
     |_=>exact .refl _
  . rename_i l;rw[ku,ku];refine .agg (by simp) λi v d h1 h2=> ?_;rw[List.map_map,List.getElem?_map,Option.map_eq_some_iff]at h2;rw[List.getElem?_map,Option.map_eq_some_iff]at h1;obtain⟨u,h1,rfl⟩:=h1;obtain⟨w,h2,rfl⟩:=h2;rw[h1]at h2;cases h2;exact ih u λb' aJ=>hS b' (List.mem_flatMap.2 ⟨u,List.mem_of_getElem? h1,aJ⟩)
  . exact .refl _
theorem CN{S:fA}{f g:DV->DV}:∀(l:List DV),(∀d∈l,Fz S (f d) (g d))->cP S (l.map f) (l.map g)
 |[],_=>.nil
 |d::l,hf=>.cons (hf d (by simp)) (CN l λd hd=>hf d (by simp[hd]))
theorem ZW{h0 h:ab}(hh:HS N h0 h){b:Nat}{cs:List DV}{wr:Bool}{ah:Nat}(hg:h0.get b=some (.row cs wr ah)):allRows h (b+N)=some (cs.map (sh N),ah):=by unfold allRows;rw[hh.row hg]
theorem ZX(he:e.Ok)(ad:e.P.follows .mixedOrders=true)(aa:Idle e){ev:jS}(av:tn e N ev){f:FuncId}{args:List DV}{h0 h ay:ab}{w:Value}(hc:oO e.aU ev f (args.map (mL h0 4)) ⟨.nil,h0.next⟩=some (.v w,ay))(hw:jq w=true)(hh:HS N h0 h){K:DV->ab->List Nat->Prop}(hk:∀h',HS N (h0.up ay.next) h'->K (sh N (.v w)) h' []):c8 e true f (args.map (sh N)) h K:=by
 have aD:HS N (⟨.nil,h0.next⟩:ab) (ab.none h.next):=by rw[hh.next];exact HS.none _
 obtain⟨fn,c,q1,q2,q3⟩:=zm av hc aD;intro G ha avs x hr;have aV:cw (aI ha (λi=>i<ha.next)) avs ((args.map (mL h0 4)).map (sh N)):=cw.fz (S:=allRows h) x (λi cs ah hr=>by
  unfold allRows at hr
  split at hr
  . rename_i cs' wr aY hg;cases hr;exact⟨(x.obj _ _ hg).1,wr,hg⟩
  . cases hr) (λi hg=>(x.still i hg).1) (by rw[List.map_map];exact CN args λd _=>CM 4 d λb _ cs wr ah hg=>ZW hh hg) hr
 have x0:bM (λi=>i<ha.next) ha (ab.none h.next):=⟨x.fF.mono (jj λi hg=>⟨(x.still i hg).1,rfl⟩),x.next,λi o ho=>(by rw[ab.get_none]at ho;cases ho),λi hi=>⟨hi,ab.get_none _ _⟩⟩;obtain⟨u,h',r1,d,ae,G',r2,r3,r4,rfl,r5⟩:=c8.body (aj:=true) (K:=λd ae=>d=sh N (.v w)/\HS N ay ae) he ad aa q1 q2 rfl (rs:=fn.results.toList) (by simp) (q3 _ λh' h2=>⟨rfl,h2⟩) _ ha avs x0 aV;have same:∀i,i<ha.next->h'.get i=ha.get i:=λi hi=>(r3.same i hi (ab.get_none _ _)).1;have hG:∀i,G i->i<ha.next:=λi hi=>(x.still i hi).1;have hm:∀i r,aI ha G i=some r->aI h' G i=some r:=jj λi hg=>⟨hg,same i (hG i hg)⟩;refine⟨u,h',r1,sh N (.v w),h.up ae.next,G,[],⟨x.fF.mono hm,r2.next,λi o ho=> ?_,λi hi=>⟨Nat.lt_of_lt_of_le (hG i hi) r3.next,(x.still i hi).2⟩⟩,⟨r3.next,λi hi hd=>⟨same i hi,hd⟩,λi hg=>hg,λi hi hg=>.inl hg⟩, ?_,λi hi _=>⟨same i hi,rfl⟩, ?_⟩
 . obtain⟨h2,ao,h3,h4⟩:=x.obj i o ho;exact⟨Nat.lt_of_lt_of_le h2 r3.next,ao,by rw[same i h2];exact h3,h4.mono hm⟩
 . rw[bR]at r4⊢;rw[r4.cW];exact .v _
 . rw[r5.next];exact hk _ (hh.up ay.next)
theorem c8.still{aj:Bool}{f:FuncId}{az dargs':List DV}{dh:ab}{K:DV->ab->List Nat->Prop}(l:List Nat)(hl:∀i∈l,(dh.get i).isSome=true)(hz:cP (rowsOf dh l) az dargs')(hc:c8 e aj f dargs' (gb dh l) λv ae T=>K v ae (T++l)):c8 e aj f az dh K:=by
 intro G h args x ha;obtain⟨k1,k2⟩:=x.drop l hl;have aZ:cw (aI h (λi=>G i\/i∈l)) args dargs':=cw.fz x (λi cs ah hr=>⟨.inr (wO hr).1,(wO hr).2⟩) (λi hg=>.inl hg) hz ha;have key:=hc (λi=>G i\/i∈l) h args k1 aZ;have fin:∀v h',nv (λi=>G i\/i∈l) h (gb dh l) (λv ae T=>K v ae (T++l)) v h'->nv G h dh K v h':=λv h' ⟨d,ae,G',T,r2,r3,r4,r5,r6⟩=>by
  refine⟨d,ae,G',T++l,r2,k2.trans r3,r4,λi hi hT=> ?_,r6⟩;rw[List.mem_append,not_or]at hT;obtain⟨h1,h2⟩:=r5 i hi hT.1;exact⟨h1,by rw[h2,nz,if_neg hT.2]⟩
 cases aj with
 |true=>obtain⟨v,h',h1,h2⟩:=key;exact⟨v,h',h1,fin v h' h2⟩
 |false=>exact fO.mono key fin
theorem HS.drop{h0 h:ab}(hh:HS N h0 h):∀(l:List Nat),HS N (gb h0 l) (gb h (l.map (·+N)))
 |[]=>hh
 |i::l=>HS.set (HS.drop hh l) i Option.none
theorem CO(h:ab):∀(m:Nat) (d:DV),∀b∈rB h m d,(h.get b).isSome=true
 |0,d,b,hb=>by cases hb
 |m+1,d,b,hb=>by
  unfold rB at hb
  split at hb
  . rename_i b' o n c;cases hg:h.get b' with
    |none=>rw[hg]at hb;cases hb
    |some ob=>
     rw[hg]at hb;cases ob with
     |row cs wr ah=>
      simp only[CE]at hb;cases hq:xo cs o n c (tj cs o c ah)with
      |true=>
       simp only[hq,cond_true,List.mem_cons,List.mem_flatMap]at hb;rcases hb with rfl|⟨u,_,hb⟩
       . rw[hg];rfl
       . exact CO h m u b hb
      |false=>rw[hq]at hb;cases hb
     |_=>cases hb
  . obtain⟨u,_,hb⟩:=List.mem_flatMap.1 hb;exact CO h m u b hb
  . cases hb
theorem ZY(he:e.Ok)(ad:e.P.follows .mixedOrders=true)(aa:Idle e){ev:jS}(av:tn e N ev){f:FuncId}{args:List DV}{h0 h ay:ab}{v':DV}{l:List Nat}(hl:args.flatMap (rB h0 4)=l)(hc:oO e.aU ev f (args.map (mL h0 4)) ⟨.nil,h0.next⟩=some (v',ay))(hh:HS N h0 h){K:DV->ab->List Nat->Prop}(hk:∀h',HS N (lI (gb h0 l) ay) h'->K (sh N v') h' (l.map (·+N))):c8 e true f (args.map (sh N)) h K:=by
 have aB:∀b∈l,(h0.get b).isSome=true:=λb hb=>by
  rw[<-hl]at hb;obtain⟨d,_,hb⟩:=List.mem_flatMap.1 hb;exact CO h0 4 d b hb
 refine c8.still (dargs':=(args.map (mL h0 4)).map (sh N)) (l.map (·+N)) (λi hi=> ?_) ?_ ?_
 . obtain⟨b,hb,rfl⟩:=List.mem_map.1 hi;show(h.get (b+N)).isSome=true;rw[hh.get,Option.isSome_map];exact aB b hb
 . rw[List.map_map];refine CN args λd hd=>CM 4 d λb hb cs wr ah hg=>hY (List.mem_map.2 ⟨b, ?_,rfl⟩) (hh.row hg);rw[<-hl];exact List.mem_flatMap.2 ⟨d,hd,hb⟩
 . refine HQ (h0:=gb h0 l) he ad aa av (by rw[wN];exact hc) (hh.drop l) λh' h2=> ?_;exact hk h' h2
theorem ZZ(he:e.Ok)(ad:e.P.follows .mixedOrders=true)(aa:Idle e){ev:jS}(av:tn e N ev):tm e N true (xp e.aU ev):=by
 intro f args h0 v h1 T0 hd h hh K hk;unfold xp at hd;cases hq:args.any (HC h0)with
 |true=>
  rw[hq]at hd;change CG _ _ _=_ at hd;unfold CG at hd
  split at hd
  . cases hd
  . rename_i v' ay hc;cases hp:CF v' with
    |true=>
     rw[hp]at hd;simp only[cond_true,Option.some.injEq,Prod.mk.injEq]at hd;obtain⟨rfl,rfl,rfl⟩:=hd;unfold CF at hp
     split at hp
     . exact ZX he ad aa av hc hp hh λh' h2=>hk h' h2 [] λ_=>rfl
     . cases hp
    |false=>
     rw[hp]at hd;simp only[cond_false,HD,Option.some.injEq,Prod.mk.injEq]at hd;obtain⟨rfl,rfl,rfl⟩:=hd;exact ZY he ad aa av rfl hc hh λh' h2=>hk h' h2 _ λ_=>rfl
 |false=>
  rw[hq]at hd;change CI _ _=_ at hd;unfold CI at hd
  split at hd
  . cases hd
  . rename_i v' ay hc;simp only[Option.some.injEq,Prod.mk.injEq]at hd;obtain⟨rfl,rfl,rfl⟩:=hd;exact HQ he ad aa av hc hh λh' h2=>hk h' h2 [] λ_=>rfl
theorem Z0{cf cp:js}{ev:jS}(h1:tm e N false (xq e.aU ev))(h2:tm e N true (xp e.aU ev)){ops:Array Oper}{id:Nat}{draw:Bool}{d0 d1:DS}(hd:HF e.aU ev ops.toList draw d0=some d1){t:Tr DV}{h:ab}{K:bn->DS->Prop}
 (ht:TS N d0.t t) (hh:HS N d0.h h) (hk:∀t' h',TS N d1.t t'->HS N d1.h h'->K .normal ⟨t',d1.n,d1.dd,h'⟩):RD e true (.region id ops draw) ⟨t,d0.n,d0.dd,h⟩ K:=by
 obtain⟨t0,n,dd,h0⟩:=d0;cases draw with
 |false=>
  have hd:qR e.aU _ _ _ t0 n dd h0=some d1:=hd;rw[Hy]at hd;exact CK (e:=e) h1 hh ht hd (K .normal) hk
 |true=>
  obtain⟨hp,hd⟩:=ca hd;have key:=qc (e:=e) h2 (N0:=h0.next) (id:=h0.next) (an:=[]) (T:=[]) (L:=[]) (hh.up (h0.next+(ops.toList.filter λo=>cls o.op==.alloc).length)) ht hd (K .normal) hk;have e1:h0.next+N=h.next:=hh.next.symm;have e2:h0.next+(ops.toList.filter λo=>cls o.op==.alloc).length+N=h.next+(ops.toList.filter λo=>cls o.op==.alloc).length:=by rw[<-e1];omega
  rw[e1,e2]at key;have:=kr (e:=e) (CD ops.toList) hp _ (Nat.beq_refl _) h.next rfl key;exact this
theorem Z1(he:e.Ok)(ad:e.P.follows .mixedOrders=true)(aa:Idle e)(n:Nat):tn e N (oP e.aU n):=by
 induction n using Nat.strongRecOn with
 |_ n IH=>
 cases n with
 |zero=>exact⟨λc d0 x d1 h=>by cases h⟩
 |succ n=>
  have ih:=IH n (Nat.lt_succ_self n);have hc:=ZV he ad aa ih;have hp:=ZZ he ad aa ih;refine⟨λc d0 x d1 hd t h K ht hh hk=> ?_⟩;have hd:nG e.aU (oP e.aU n) c d0=some (x,d1):=hd;cases c with
  |skip=>
   simp only[nG,qb,Option.some.injEq,Prod.mk.injEq]at hd;obtain⟨rfl,rfl⟩:=hd;exact hk _ _ ht hh
  |exit id=>
   simp only[nG,qb,Option.some.injEq,Prod.mk.injEq]at hd;obtain⟨rfl,rfl⟩:=hd;exact hk _ _ ht hh
  |ret=>
   simp only[nG,qb,Option.some.injEq,Prod.mk.injEq]at hd;obtain⟨rfl,rfl⟩:=hd;exact hk _ _ ht hh
  |region id ops draw=>
   simp only[nG,qb,uW,uX,uY,uZ,u0]at hd
   split at hd
   . cases hd
   . rename_i s hs;simp only[Option.some.injEq,Prod.mk.injEq]at hd;obtain⟨rfl,rfl⟩:=hd;exact Z0 (cf:=xq e.aU (oP e.aU n)) (cp:=xp e.aU (oP e.aU n)) hc hp hs ht hh hk
  |seq a b=>
   simp only[nG,qb,uW,uX,uY,uZ,u0]at hd;simp only[RD]
   split at hd
   . rename_i s hs;refine ih.run _ _ _ _ hs t h _ ht hh λt' h' af ai=> ?_;exact ih.run _ _ _ _ hd t' h' _ af ai hk
   . rename_i hn;refine ih.run _ _ _ _ hd t h _ ht hh λt' h' af ai=> ?_;cases x with
     |normal=>exact absurd hd (hn d1)
     |exit i=>exact hk _ _ af ai
     |ret=>exact hk _ _ af ai
  |cond c a b=>
   simp only[nG,qb,uW,uX,uY,uZ,u0]at hd;simp only[RD]
   split at hd
   . rename_i hb;refine⟨_,ee ht hb, ?_⟩;simp only[bR,bU];exact⟨λ_=>ih.run _ _ _ _ hd t h _ ht hh hk,λhf=>by cases hf⟩
   . rename_i hb;refine⟨_,ee ht hb, ?_⟩;simp only[bR,bU];exact⟨λhf=>(by cases hf),λ_=>ih.run _ _ _ _ hd t h _ ht hh hk⟩
   . cases hd
  |block id c=>
   simp only[nG,qb,uW,uX,uY,uZ,u0]at hd;simp only[RD]
   split at hd
   . rename_i i s hs;refine ih.run _ _ _ _ hs t h _ ht hh λt' h' af ai=> ?_;simp only;cases hq:Nat.beq i id with
     |true=>
      rw[hq]at hd;simp only[cond_true,Option.some.injEq,Prod.mk.injEq]at hd;obtain⟨rfl,rfl⟩:=hd;rw[if_pos (Nat.eq_of_beq_eq_true hq)];exact hk _ _ af ai
     |false=>
      rw[hq]at hd;simp only[cond_false,Option.some.injEq,Prod.mk.injEq]at hd;obtain⟨rfl,rfl⟩:=hd;rw[if_neg (Nat.ne_of_beq_eq_false hq)];exact hk _ _ af ai
   . rename_i hn;refine ih.run _ _ _ _ hd t h _ ht hh λt' h' af ai=> ?_;cases x with
     |normal=>exact hk _ _ af ai
     |exit i=>exact absurd hd (hn i d1)
     |ret=>exact hk _ _ af ai
  |loop c=>
   have key:∀m,m<=n+1->∀d0,oP e.aU m (.loop c) d0=some (x,d1)->∀t h,TS N d0.t t->HS N d0.h h->RD e true c ⟨t,d0.n,d0.dd,h⟩ (KI (λj d=>∃d0,j<=n+1/\oP e.aU j (.loop c) d0=some (x,d1)/\TS N d0.t d.t/\HS N d0.h d.h/\d.n=d0.n/\d.dd=d0.dd) m K):=λm hm d0 hd t h ht hh=>by
    cases m with
    |zero=>cases hd
    |succ m=>
     have aO:=IH m (by omega);have hd:nG e.aU (oP e.aU m) (.loop c) d0=some (x,d1):=hd;simp only[nG,qb,uW,uX,uY,uZ,u0]at hd
     split at hd
     . rename_i s hs;refine aO.run _ _ _ _ hs t h _ ht hh λt' h' af ai=> ?_;exact⟨m,by omega,_,aA.refl _,s,by omega,hd,af,ai,rfl,rfl⟩
     . rename_i hn;refine aO.run _ _ _ _ hd t h _ ht hh λt' h' af ai=> ?_;cases x with
       |normal=>exact absurd hd (hn d1)
       |exit i=>exact hk _ _ af ai
       |ret=>exact hk _ _ af ai
   show WD e true (.loop c) _ K;refine WD.loop he ad (λj d=>∃d0,j<=n+1/\oP e.aU j (.loop c) d0=some (x,d1)/\TS N d0.t d.t/\HS N d0.h d.h/\d.n=d0.n/\d.dd=d0.dd) (λj d hI=> ?_) (n+1) _ ⟨_,aA.refl _,d0,Nat.le_refl _,hd,ht,hh,rfl,rfl⟩;obtain⟨d2,h1,h2,h3,h4,h5,h6⟩:=hI;obtain⟨dt,dn,bb,dh⟩:=d;simp only at h3 h4 h5 h6;subst h5;subst h6;exact key j h1 d2 h2 dt dh h3 h4
  |_=>cases hd
end Go.aw
end
noncomputable section
open Go Go.aw Go.Proofs
namespace Go.Sp
def CP:Value->Value->Bool
 |.bool a,.bool b=>a==b
 |.int j a,.int k b=>decide (j=k)&&decide (a=b)
 |.string a,.string b=>decide (a=b)
 |.pointer none,.pointer none=>true
 |.slice none l c,.slice none m d=>Nat.beq l m&&Nat.beq c d
 |.map none,.map none=>true
 |.nilFunc,.nilFunc=>true
 |.nilIface,.nilIface=>true
 |_,_=>false
theorem Z3{a b:Value}(h:CP a b=true):a=b/\jq a=true:=by
 unfold CP at h
 split at h
 . exact⟨by rw[eq_of_beq h],rfl⟩
 . simp only[Bool.and_eq_true,decide_eq_true_eq]at h;exact⟨by rw[h.1,h.2],rfl⟩
 . simp only[decide_eq_true_eq]at h;exact⟨by rw[h],rfl⟩
 . exact⟨rfl,rfl⟩
 . simp only[Bool.and_eq_true]at h;exact⟨by rw[Nat.eq_of_beq_eq_true h.1,Nat.eq_of_beq_eq_true h.2],rfl⟩
 . exact⟨rfl,rfl⟩
 . exact⟨rfl,rfl⟩
 . exact⟨rfl,rfl⟩
 . cases h
def oQ(f:DV->DV->Bool):List DV->List DV->Bool
 |[],[]=>true
 |a::x,b::y=>f a b&&oQ f x y
 |_,_=>false
def u6(f:List DV->List DV->Bool):List (List DV)->List (List DV)->Bool
 |[],[]=>true
 |a::x,b::y=>f a b&&u6 f x y
 |_,_=>false
def HV(f:DV->DV->Bool)(o m c k:Nat)(xs:List (List DV)):Option bF->Bool
 |some (.row cs _ ah)=>(Nat.beq ah 0||Nat.beq ah k)&&Nat.blt 0 k&&Nat.beq m xs.length&&Nat.ble m c&&xs.all (λx=>Nat.beq x.length k)&&Nat.ble (o+m*k) cs.length&&oQ f ((cs.drop o).take (m*k)) xs.flatten
 |_=>false
def HW(f:DV->DV->Bool)(xs:List DV):Option bF->Bool
 |some (.row cs _ _)=>oQ f cs xs
 |_=>false
def rE:Nat->ab->DV->DV->Bool
 |0,_,_,_=>false
 |n+1,h,d,e=>match d with
  |.v a=>match e with
   |.v b=>CP a b
   |.sl k xs=>match a with
    |.slice none l _=>Nat.blt 0 k&&Nat.beq l 0&&xs.isEmpty
    |.slice (some ⟨b,o,none⟩) m c=>HV (rE n h) o m c k xs (h.get b)
    |_=>false
   |.ptr xs off=>match a with
    |.pointer (some ⟨b,o,none⟩)=>Nat.beq o off&&HW (rE n h) xs (h.get b)
    |_=>false
   |_=>false
  |.agg a=>match e with
   |.agg l=>oQ (rE n h) a l
   |_=>false
  |.bg a=>match e with
   |.bg l=>oQ (rE n h) a l
   |_=>false
  |.sl k xs=>match e with
   |.sl k' ys=>Nat.beq k k'&&u6 (oQ (rE n h)) xs ys
   |_=>false
  |_=>false
section
variable {N:Nat} {h0 h:ab} {S:fA}
theorem tp{f:DV->DV->Bool}:∀{x y:List DV},oQ f x y=true->x.length=y.length/\∀(i:Nat) (v d:DV),x[i]? =some v->y[i]? =some d->f v d=true
 |[],[],_=>⟨rfl,λi v d h=>by simp at h⟩
 |a::x,b::y,h=>by
  simp only[oQ,Bool.and_eq_true]at h;obtain⟨h1,h2⟩:=tp h.2;refine⟨by simp[h1],λi v d h3 h4=> ?_⟩;cases i with
  |zero=>simp at h3 h4;subst h3;subst h4;exact h.1
  |succ i=>exact h2 i v d (by simpa using h3) (by simpa using h4)
 |[],_::_,h=>by simp[oQ]at h
 |_::_,[],h=>by simp[oQ]at h
theorem HX{f:List DV->List DV->Bool}:∀{x y:List (List DV)},u6 f x y=true->x.length=y.length/\∀(i:Nat) (v d:List DV),x[i]? =some v->y[i]? =some d->f v d=true
 |[],[],_=>⟨rfl,λi v d h=>by simp at h⟩
 |a::x,b::y,h=>by
  simp only[u6,Bool.and_eq_true]at h;obtain⟨h1,h2⟩:=HX h.2;refine⟨by simp[h1],λi v d h3 h4=> ?_⟩;cases i with
  |zero=>simp at h3 h4;subst h3;subst h4;exact h.1
  |succ i=>exact h2 i v d (by simpa using h3) (by simpa using h4)
 |[],_::_,h=>by simp[u6]at h
 |_::_,[],h=>by simp[u6]at h
theorem getM{f:DV->DV}{x:List DV}{i:Nat}{v:DV}(h:(x.map f)[i]? =some v):∃u,x[i]? =some u/\v=f u:=by
 rw[List.getElem?_map,Option.map_eq_some_iff]at h;obtain⟨u,h1,h2⟩:=h;exact⟨u,h1,h2.symm⟩
theorem HY(hh:HS N h0 h):∀(n:Nat) {d e:DV},rE n h0 d e=true->Fz (allRows h) (sh N d) e
 |0,_,_,hd=>by cases hd
 |n+1,d,e,hd=>by
  have ih:= @HY hh n;unfold rE at hd
  split at hd
  . rename_i a
    split at hd
    . obtain⟨rfl,h1⟩:=Z3 hd;rw[bR,rA h1];exact .refl _
    . rename_i k xs
      split at hd
      . simp only[Bool.and_eq_true,List.isEmpty_iff]at hd;obtain⟨⟨h1,h2⟩,rfl⟩:=hd;have:=Nat.eq_of_beq_eq_true h2;subst this;rw[bR];exact .nil (Nat.le_of_ble_eq_true h1)
      . rename_i b o m c;unfold HV at hd
        split at hd
        . rename_i cs wr ah hg;simp only[Bool.and_eq_true,Bool.or_eq_true,List.all_eq_true]at hd;obtain⟨⟨⟨⟨⟨⟨h1,h2⟩,h3⟩,h4⟩,h5⟩,h7⟩,h6⟩:=hd;have hk:0<k:=Nat.le_of_ble_eq_true h2;have hm:=Nat.eq_of_beq_eq_true h3;have hx:∀x∈xs,x.length=k:=λx hx=>Nat.eq_of_beq_eq_true (h5 x hx);obtain⟨g1,g2⟩:=tp h6;rw[fQ hx,List.length_take,List.length_drop]at g1;simp only[bR,bU,eP];refine .sl (cN (hh.row hg)) (h1.imp Nat.eq_of_beq_eq_true Nat.eq_of_beq_eq_true) hk hm (Nat.le_of_ble_eq_true h4) hx ?_ λj x i v d e1 e2 e3=> ?_
          . rw[List.length_map,<-hm];exact Nat.le_of_ble_eq_true h7
          . obtain⟨u,e4,rfl⟩:=getM e3;have e5:=th j i x d hx e1 e2;have hj:j*k+i<m*k:=by
             have:=(List.getElem?_eq_some_iff.1 e5).1;rw[fQ hx]at this;rw[hm];exact this
            refine ih (g2 (j*k+i) u d ?_ e5);rw[List.getElem?_take,if_pos hj,List.getElem?_drop,<-Nat.add_assoc];exact e4
        . cases hd
      . cases hd
    . rename_i xs off
      split at hd
      . rename_i b o;simp only[Bool.and_eq_true]at hd;obtain⟨h1,hd⟩:=hd;have:=Nat.eq_of_beq_eq_true h1;subst this;unfold HW at hd
        split at hd
        . rename_i cs wr ah hg;obtain⟨g1,g2⟩:=tp hd;simp only[bR,bU,eP];have e:Fz (allRows h) (.v (.pointer (some ⟨b+N,0+o,none⟩))) (.ptr xs o):=.ptr (cN (hh.row hg)) (by rw[List.length_map];omega) λi v d e1 e2=>by
           rw[Nat.zero_add]at e2;obtain⟨u,e4,rfl⟩:=getM e2;exact ih (g2 i u d e4 e1)
          rwa[Nat.zero_add]at e
        . cases hd
      . cases hd
    . cases hd
  . split at hd
    . rename_i a l;rw[ku];obtain⟨g1,g2⟩:=tp hd;refine .agg (by simpa using g1) λi v d e1 e2=> ?_;obtain⟨u,e4,rfl⟩:=getM e1;exact ih (g2 i u d e4 e2)
    . cases hd
  . split at hd
    . rename_i a l;rw[jP];obtain⟨g1,g2⟩:=tp hd;refine .bg (by simpa using g1) λi v d e1 e2=> ?_;obtain⟨u,e4,rfl⟩:=getM e1;exact ih (g2 i u d e4 e2)
    . cases hd
  . split at hd
    . rename_i k xs k' ys;simp only[Bool.and_eq_true]at hd;have:=Nat.eq_of_beq_eq_true hd.1;subst this;rw[mJ];obtain⟨g1,g2⟩:=HX hd.2;refine .sub (by simpa using g1) (λj x y e1 e2=> ?_) λj x y i v d e1 e2 e3 e4=> ?_
      . rw[List.getElem?_map,Option.map_eq_some_iff]at e1;obtain⟨x',e1,rfl⟩:=e1;rw[List.length_map];exact(tp (g2 j _ _ e1 e2)).1
      . rw[List.getElem?_map,Option.map_eq_some_iff]at e1;obtain⟨x',e1,rfl⟩:=e1;obtain⟨u,e5,rfl⟩:=getM e3;exact ih ((tp (g2 j _ _ e1 e2)).2 i u d e5 e4)
    . cases hd
  . cases hd
end
def qd:Nat->DV->Bool
 |0,_=>false
 |n+1,d=>match d with
  |.v x=>jq x
  |.agg l=>l.all (qd n)
  |.bg l=>l.all (qd n)
  |.sl _ xs=>xs.all λx=>x.all (qd n)
  |.ptr xs _=>xs.all (qd n)
  |.fn _ a c=>a.all (qd n)&&c.all (qd n)
theorem tq{f:DV->DV}{p:DV->Bool}{l:List DV}(hf:∀d,p d=true->f d=d)(h:l.all p=true):l.map f=l:=by
 simp only[List.all_eq_true]at h;exact(List.map_congr_left λd hd=>hf d (h d hd)).trans (List.map_id' l)
theorem HZ{N:Nat}:∀(n:Nat) (d:DV),qd n d=true->sh N d=d
 |0,_,h=>by cases h
 |n+1,d,h=>by
  have ih:= @HZ N n;unfold qd at h
  split at h
  . rw[bR,rA h]
  . rw[ku,tq (λd=>ih d) h]
  . rw[jP,tq (λd=>ih d) h]
  . rename_i k xs;rw[mJ];congr 1;simp only[List.all_eq_true]at h;exact(List.map_congr_left λx hx=>tq (λd=>ih d) (by simpa using h x hx)).trans (List.map_id' xs)
  . rw[nD,tq (λd=>ih d) h]
  . rw[Bool.and_eq_true]at h;rw[p8,tq (λd=>ih d) h.1,tq (λd=>ih d) h.2]
def CQ(e:Env)(n:Nat)(f:FuncId)(args:List DV)(dv:DV):Bool:=args.all (qd 9)&&match oO e (oP e n) f args ⟨.nil,0⟩with
 |some (v,h)=>rE 9 h v dv
 |none=>false
theorem Z4{f:FuncId}{args:List DV}{dv:DV}(n:Nat)(h:CQ E.aU n f args dv=true):ax E true f args dv:=by
 simp only[CQ,Bool.and_eq_true]at h;obtain⟨h1,h2⟩:=h
 split at h2
 . rename_i v h' hc;have ae:∀N,args.map (sh N)=args:=λN=>tq (λd=>HZ 9 d) h1;obtain⟨fn,c,x,s,l,q1,q2,q3,q4,q5,q6,rfl,rfl⟩:=HP hc;refine ax.of (kN []) lY (uH []) q1 q2 rfl (rs:=fn.results.toList) (by simp) λN=> ?_;have hh:HS N (⟨.nil,0⟩:ab) (ab.none N):=by have:=HS.none (N:=N) 0;rwa[Nat.zero_add]at this
   obtain⟨aa,c',r1,r2,r3⟩:=zm (N:=N) (Z1 (kN []) lY (uH []) n) hc hh;have ad:E.fn f=some aa:=r1;have e1:aa=fn:=by rw[show E.fn f=some fn from q1]at ad;cases ad;rfl
   subst e1;rw[q2]at r2;cases r2;rw[ae N]at r3;exact r3 _ λaf h3=>HY h3 9 h2
 . cases h2
theorem bO{α:Type}{l:List α}{f:FuncId}{args:α->List DV}{res:α->DV}(h:(l.all λp=>CQ E.aU 3000 f (args p) (res p))=true):∀p∈l,ax E true f (args p) (res p):=λp hp=>Z4 3000 (List.all_eq_true.1 h p hp)
end Go.Sp
end
noncomputable section
open Go
namespace Go.aw
def qe(h:aa):Nat->Prop:=λi=>i<h.next
structure rF(W:World)(ρ:ay)(h:aa):Prop where
 w:bm ρ h W
 ro:∀i o,h.get i=some o->o.wr=false
 z:h.get 0=some (.row jJ false 0)
 r0:ρ 0=some ⟨0,0,64,64,0,λ_=>True⟩
structure kZ(ρ:ay)(h:aa)(ad:ay)(h':aa):Prop where
 ext:Ext ρ ad
 next:h.next<=h'.next
 same:∀i,i<h.next->h'.get i=h.get i
theorem kZ.refl(ρ:ay)(h:aa):kZ ρ h ρ h:=⟨Ext.refl _,Nat.le_refl _,λ_ _=>rfl⟩
theorem kZ.trans{ρ ad ai:ay}{h h' h2:aa}(a:kZ ρ h ad h')(b:kZ ad h' ai h2):kZ ρ h ai h2:=
 ⟨λi p hi=>b.ext _ _ (a.ext _ _ hi),Nat.le_trans a.next b.next,λi hi=>(b.same i (Nat.lt_of_lt_of_le hi a.next)).trans (a.same i hi)⟩
theorem kZ.aI{ρ ad:ay}{h h':aa}(a:kZ ρ h ad h'):∀i r,aw.aI h (qe h) i=some r->aw.aI h' (qe h') i=some r:=
 jj λi hi=>⟨Nat.lt_of_lt_of_le hi a.next,a.same i hi⟩
def Rd(W:World)(v:Value)(d:DV):Prop:=∀ρ h,rF W ρ h->∃ad h' av,rF W ad h'/\kZ ρ h ad h'/\aK ad av v/\Rel (aI h' (qe h')) av d
def gM(W:World)(vs:List Value)(ds:List DV):Prop:=∀ρ h,rF W ρ h->∃ad h' ab,rF W ad h'/\kZ ρ h ad h'/\bJ ad ab vs/\cw (aI h' (qe h')) ab ds
theorem Rd.int(W:World)(k:IntKind)(n:Int):Rd W (.int k n) (.v (.int k n)):=λρ h x=>⟨ρ,h,_,x,kZ.refl _ _,.int k n,.v _⟩
theorem gM.nil(W:World):gM W [] []:=λρ h x=>⟨ρ,h,[],x,kZ.refl _ _,.nil,.nil⟩
theorem gM.cons{W:World}{v:Value}{vs:List Value}{d:DV}{ds:List DV}(a:Rd W v d)(b:gM W vs ds):gM W (v::vs) (d::ds):=λρ h x=>by
 obtain⟨ao,h1,av,x1,g1,r1,q1⟩:=a ρ h x;obtain⟨ai,h2,ab,x2,g2,r2,q2⟩:=b ao h1 x1;exact⟨ai,h2,av::ab,x2,g1.trans g2,.cons (r1.mono g2.ext) r2,.cons (q1.mono g2.aI) q2⟩
theorem gM.append{W:World}{vs aF:List Value}{ds aJ:List DV}(a:gM W vs ds)(b:gM W aF aJ):gM W (vs++aF) (ds++aJ):=λρ h x=>by
 obtain⟨ao,h1,av,x1,g1,r1,q1⟩:=a ρ h x;obtain⟨ai,h2,ab,x2,g2,r2,q2⟩:=b ao h1 x1;exact⟨ai,h2,av++ab,x2,g1.trans g2,aP.append (r1.mono g2.ext) r2,aP.append (q1.mono g2.aI) q2⟩
theorem Rd.agg{W:World}{vs:List Value}{ds:List DV}(a:gM W vs ds):Rd W (.agg vs.toArray) (.agg ds):=λρ h x=>by
 obtain⟨ao,h1,av,x1,g1,r1,q1⟩:=a ρ h x;refine⟨ao,h1,.agg av.toArray,x1,g1,.agg (by simpa using r1.length) λi v v' hv aB=> ?_,Rel.dV q1⟩;have hv:av[i]? =some v:=by simpa using hv
 have aB:vs[i]? =some v':=by simpa using aB
 obtain⟨b,hb,hr⟩:=r1.get i v hv;rw[aB]at hb;cases hb;exact hr
theorem rF.row{W:World}{ρ:ay}{h:aa}(x:rF W ρ h){b off:Nat}{c:Array Value}{el:TypeId}{fz:Nat×Nat}(hb:W.heap[b]? =some (.cells c el fz)){cs:List Value}(hn:off+cs.length<=c.size)(h0:cs≠[])(hv:bJ ρ cs ((c.toList.drop off).take cs.length)):
 rF W (ρ.put h.next ⟨b,off,cs.length,cs.length,0,λ_=>True⟩) (h.new (.row cs false 0))/\kZ ρ h (ρ.put h.next ⟨b,off,cs.length,cs.length,0,λ_=>True⟩) (h.new (.row cs false 0)):=by
 have au:ρ h.next=none:=by
  cases hp:ρ h.next with
  |none=>rfl
  |some pl=>exact absurd (x.w.iw _ _ hp) (Nat.lt_irrefl _)
 have hx:Ext ρ (ρ.put h.next ⟨b,off,cs.length,cs.length,0,λ_=>True⟩):=ay.sy _ au;have hold:∀i,i<h.next->(h.new (.row cs false 0)).get i=h.get i:=λi hi=>bI _ _ _ (Nat.ne_of_lt hi);have aC:(h.new (.row cs false 0)).get h.next=some (.row cs false 0):=qT _ _;have hz:0<h.next:=x.w.iw _ _ x.r0;have each:∀i o,(h.new (.row cs false 0)).get i=some o->(i=h.next/\o=.row cs false 0)\/h.get i=some o:=λi o hi=>by
  by_cases he:i=h.next
  . subst he;rw[aC]at hi;cases hi;exact .inl ⟨rfl,rfl⟩
  . rw[bI _ _ _ he]at hi;exact .inr hi
 refine⟨⟨⟨λi pl hi=> ?_,λi o hi=> ?_,λi j o p pi pj aS h1 h2=> ?_⟩,λi o hi=> ?_, ?_,hx _ _ x.r0⟩,⟨hx,Nat.le_succ _,hold⟩⟩
 . show i<h.next+1;by_cases he:i=h.next
   . omega
   . rw[ay.ke _ _ he]at hi;have:=x.w.iw _ _ hi;omega
 . rcases each i o hi with⟨rfl,rfl⟩|hi
   . exact⟨_,ay.lx _ _ _,c,el,fz,hb,λh=>(by cases h),rfl,rfl,Nat.le_refl _,hn,λ_=>rfl,hv.mono hx,λh=>absurd h h0⟩
   . obtain⟨pl,h1,h2⟩:=x.w.obj i o hi;exact⟨pl,hx _ _ h1,h2.mono hx rfl⟩
 . rcases each i o h1 with⟨_,rfl⟩|h1
   . cases h2
   . rw[x.ro i o h1]at h2;cases h2
 . rcases each i o hi with⟨_,rfl⟩|hi
   . rfl
   . exact x.ro i o hi
 . rw[hold 0 hz];exact x.z
theorem Rd.sl{W:World}{a:Addr}{len cap k:Nat}(hk:0<k)(hl:len<=cap){cells:List Value}(hc:cells.length=cap*k)(af:∀j,j<cap*k->W.cell? (a.add j)=cells[j]?){xs:List (List DV)}(hx:xs.length=cap)(aL:∀x∈xs,x.length=k)(hr:gM W cells xs.flatten):Rd W (.slice (some a) len cap) (.sl k (xs.take len)):=λρ h x=>by
 rcases Nat.eq_zero_or_pos cap with h0|aD
 . subst h0;obtain rfl:len=0:=by omega
   refine⟨ρ,h,.slice (some ⟨0,0,none⟩) 0 0,x,kZ.refl _ _,.sl x.r0 (.inr ⟨rfl,rfl,rfl⟩), ?_⟩;have hz:0<h.next:=x.w.iw _ _ x.r0;exact Rel.sl (xs:=[]) (ah:=0) (o:=0) (sW (G:=qe h) hz x.z) (.inl rfl) hk (Nat.le_refl _) (λx hx=>by cases hx) (by simp) (λj x i v d h1=>by simp at h1)
 . obtain⟨ao,h1,ab,x1,g1,r1,q1⟩:=hr ρ h x;have az:ab.length=cap*k:=by rw[r1.length,hc]
   have aO:0<cap*k:=Nat.mul_pos aD hk;obtain⟨b,off,sp⟩:=a;obtain⟨c,el,fz,hb,aQ⟩:∃c el fz,W.heap[b]? =some (.cells c el fz)/\sp=none:=by
    have h3:=af 0 aO;rw[List.getElem?_eq_getElem (by omega)]at h3;simp only[World.cell?,Addr.add,if_true]at h3
    split at h3
    . rename_i c el fz hb;refine⟨c,el,fz,hb, ?_⟩;cases sp with
      |none=>rfl
      |some s=>simp at h3
    . cases h3
   subst aQ;have ae:∀j,j<cap*k->c[off+j]? =cells[j]? :=λj hj=>by
    have h3:=af j hj;have e:Addr.add ⟨b,off,none⟩ j=⟨b,off+j,none⟩:=by
     unfold Addr.add
     split
     . subst_vars;rfl
     . rfl
    rw[e]at h3;simpa[World.cell?,hb]using h3
   have aT:off+cap*k<=c.size:=by
    have h3:=ae (cap*k-1) (by omega);rw[List.getElem?_eq_getElem (by omega)]at h3;have:=(Array.getElem?_eq_some_iff.1 h3).1;omega
   have aR:(c.toList.drop off).take ab.length=cells:=by
    rw[az];apply List.ext_getElem?;intro j;rw[List.getElem?_take]
    split
    . rename_i hj;rw[List.getElem?_drop,Array.getElem?_toList];exact ae j hj
    . rename_i hj;rw[List.getElem?_eq_none (by omega)]
   obtain⟨y1,y2⟩:=x1.row (off:=off) hb (cs:=ab) (by omega) (λh=>by rw[h]at az;simp at az;omega) (by rw[aR];exact r1);refine⟨_,_,.slice (some ⟨h1.next,0,none⟩) len cap,y1,g1.trans y2,.sl (ay.lx _ _ _) (.inl ⟨by simp,.inl rfl⟩), ?_⟩;have aN:(xs.take len).length=len:=by rw[List.length_take];omega
   have aE:aI (h1.new (.row ab false 0)) (qe (h1.new (.row ab false 0))) h1.next=some (ab,0):=sW (wr:=false) (Nat.lt_succ_self _) (qT _ _);have:=Rel.sl (R:=aI (h1.new (.row ab false 0)) (qe (h1.new (.row ab false 0)))) (b:=h1.next) (o:=0) (c:=cap) (xs:=xs.take len) aE (.inl rfl) hk (by omega) (λx hx=>aL x (List.mem_of_mem_take hx)) (by rw[aN,az,Nat.zero_add];exact Nat.mul_le_mul_right _ hl) (λj x i v d e1 e2 e3=>by
    rw[List.getElem?_take]at e1
    split at e1
    . have e4:=Go.Sp.th j i x d aL e1 e2;rw[Nat.zero_add]at e3;exact(q1.sU e3 e4).mono y2.aI
    . cases e1)
   rwa[aN]at this
theorem Rd.Z5(W:World){k:Nat}(hk:0<k)(c:Nat):Rd W (.slice none 0 c) (.sl k []):=λρ h x=>⟨ρ,h,_,x,kZ.refl _ _,.kK 0 c,.kQ hk⟩
end Go.aw
end
noncomputable section
open Go Go.aw Go.Proofs
namespace Go.Sp
def dgN(x:Int×Int×Int)(N:List (Int×Int×Int)):List (Int×Int×Int)×Int:=bif decide (x.2.1=x.2.2)then(N,x.2.1)else match N.findIdx? λy=>decide (y=x)with
 |some i=>(N,(i:Int)+2)
 |none=>(N++[x],(N.length:Int)+2)
def CX(c:Nat):Nat->Int->Nat->Nat->List (Int×Int×Int)->List (Int×Int×Int)×Int
 |0,_,o,_,N=>(N,bif c.testBit o then 1 else 0)
 |k+1,v,o,s,N=>match CX c k (v+1) o (2*s) N with
  |(N,l)=>match CX c k (v+1) (o+s) (2*s) N with
   |(N,u)=>dgN (v,l,u) N
def aF(c:Nat):Dg:=match CX c 3 0 0 1 []with
 |(N,r)=>⟨N,r⟩
def tv:Nat->List Nat
 |0=>[0,3,12,15,48,51,60,63,192,195,204,207,240,243,252,255]
 |1=>[0,15,240,255]
 |_=>[0,255]
def xv:Nat->Nat
 |0=>170
 |1=>204
 |_=>240
def aaw:List (Nat×Nat):=(List.range 3).flatMap λv=>(tv v).map λt=>(xv v,t)
def aax:List (Nat×Nat):=(List.range 3).flatMap λv=>(tv v).map λt=>(t,255-xv v)
def ie:List (Nat×Nat):=(List.range 3).flatMap λv=>(tv v).flatMap λt=>(tv v).map λs=>(xv v&&&t,s&&&(255-xv v))
def eF:List (Nat×Int):=(List.range 256).map (λc=>(c,3))++((List.range 16).map (λc=>(17*c,2))++((List.range 4).map (λc=>(85*c,1))++(List.range 2).map λc=>(255*c,0)))
theorem CY{α:Type}{P:α->Prop}{l:List α}(n k:Nat)(hn:l.length<=n*k)(h:∀i,i<k->∀p∈(l.drop (n*i)).take n,P p):∀p∈l,P p:=λp hp=>by
 obtain⟨j,hj,rfl⟩:=List.getElem_of_mem hp;have h0:0<n:=(Nat.eq_zero_or_pos n).elim (λh=>by subst h;omega) id
 have h1:=Nat.div_add_mod j n;have h2:=Nat.mod_lt j h0;refine h (j/n) ((Nat.div_lt_iff_lt_mul h0).2 (by rw[Nat.mul_comm];omega)) _ (List.mem_of_getElem? (i:=j%n) ?_);rw[List.getElem?_take,if_pos h2,List.getElem?_drop,h1,List.getElem?_eq_getElem hj]
end Go.Sp
end
noncomputable section
open Go Go.aw Go.Proofs
namespace Go.Sp
set_option maxRecDepth 100000
abbrev ig(p:Nat×Nat):Prop:=ax E true 78 [.agg (aF p.1).e,.agg (aF p.2).e] (.agg (aF (p.1|||p.2)).e)
abbrev ij(p:Nat×Int):Prop:=ax E true 82 [.agg (aF p.1).e,iV p.2] (bV true)
abbrev ik(p:Nat):Prop:=ax E true 66 [.agg (aF p).e] (iV 0)
theorem aay:∀p∈([170,204,240]:List Nat),ax E true 26 [.agg (aF p).e] (.agg (aF (255-p)).e):=bO (by kernel_rfl)
theorem aaz:∀p∈aaw,ax E true 79 [.agg (aF p.1).e,.agg (aF p.2).e] (.agg (aF (p.1&&&p.2)).e):=bO (by kernel_rfl)
theorem aaA:∀p∈aax,ax E true 79 [.agg (aF p.1).e,.agg (aF p.2).e] (.agg (aF (p.1&&&p.2)).e):=bO (by kernel_rfl)
end Go.Sp
end
noncomputable section
open Go Go.aw Go.Proofs
namespace Go.Sp
set_option maxRecDepth 100000
theorem aaR:∀p∈(ie.drop (14*16)).take 14,ig p:=bO (by kernel_rfl)
theorem aaS:∀p∈(ie.drop (14*17)).take 14,ig p:=bO (by kernel_rfl)
theorem aaT:∀p∈(ie.drop (14*18)).take 14,ig p:=bO (by kernel_rfl)
theorem aaU:∀p∈(ie.drop (14*19)).take 14,ig p:=bO (by kernel_rfl)
end Go.Sp
end
noncomputable section
open Go Go.aw Go.Proofs
namespace Go.Sp
set_option maxRecDepth 100000
theorem acb(d:Nat)(t:TypeId)(a b:Bool)(h:Tryz.prog.underlying t=some .bool):bY Tryz.prog (Op.equalIn (d+1) t (.bool a) (.bool b))=some (a==b):=by
 rw[Op.equalIn];simp only[mO,vh _ _ h,Option.bind_some];rfl
theorem acd:bY Tryz.prog (isAgg 4)=some false:=by kernel_rfl
theorem ace(cs:Array Value)(o:Nat):bY Tryz.prog (part 4 cs o)=cs[o]? :=by
 unfold part;simp only[mO,acd,Option.bind_some,Bool.false_eq_true,if_false];cases cs[o]? <;>rfl
theorem acf(d:Nat)(a a':Bool)(i i':Int):bY Tryz.prog (Op.equalIn (d+1+1) 79 (.agg #[.bool a,.int .i64 i]) (.agg #[.bool a',.int .i64 i']))=some (decide (a=a')&&decide (i=i')):=by
 have hs:Tryz.prog.stoodInHeld 79=false:=by kernel_rfl
 rw[Op.equalIn];by_cases h1:a=a'<;>by_cases h2:i=i'<;>
  simp[h1,h2,mO,vh _ _ Tryz.underlying79,vi,hs,tz,zy,ace,eq_int d 3 .i64 _ _ Tryz.underlying3,acb d 4 _ _ Tryz.underlying4]
theorem eqS(a a':Bool)(i i':Int):bY Tryz.prog (Op.equal 79 (.agg #[.bool a,.int .i64 i]) (.agg #[.bool a',.int .i64 i']))=some (decide (a=a')&&decide (i=i')):=by
 obtain⟨d,hd⟩:=zz;unfold Op.equal;rw[hd];exact acf d a a' i i'
theorem acg(o p:Operand)(a a':Bool)(i i':Int):cS E .eql 79 o p (.agg #[.bool a,.int .i64 i]) (.agg #[.bool a',.int .i64 i'])=some (.bool (decide (a=a')&&decide (i=i'))):=by
 have hg:Tryz.prog.eqGuardType Tryz.prog.depth 79=false:=by kernel_rfl
 show e9 Tryz.prog _=_;simp[e9,eqGuard,binOp,mO,vi,tz,hg,eqS,-bind_pure_comp];rfl
theorem IS(o p:Operand)(a a':Bool)(i i':Int):jK E .eql 79 o p (.agg [.v (.bool a),.v (.int .i64 i)]) (.agg [.v (.bool a'),.v (.int .i64 i')])=some (.v (.bool (decide (a=a')&&decide (i=i')))):=by
 show(cS E .eql 79 o p (.agg #[.bool a,.int .i64 i]) (.agg #[.bool a',.int .i64 i'])).map DV.v=_;rw[acg];rfl
theorem ach(x y:Operand):jK E BinOp.neq 74 x y (.agg [bV false,iV 0,iV 0,iV 0,iV 0]) (.agg [.v (.bool false),.v (.int .i64 0),.v (.int .i64 0),.v (.int .i64 0),.v (.int .i64 0)])=some (bV false):=by kernel_rfl
end Go.Sp
end

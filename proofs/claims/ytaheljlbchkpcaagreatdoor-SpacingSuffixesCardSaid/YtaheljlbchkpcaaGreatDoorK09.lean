/- SpacingSuffixes: parts of its proof (AwA AwB). -/
import Derived.Test.YtaheljlbchkpcaaGreatDoorK08
set_option linter.unusedVariables false
set_option linter.unusedSimpArgs false
noncomputable section
namespace Go.aw
variable {e:Env}
def ov(e:Env)(ro:Option Nat)(c:Code)(s:aE)(x:bn)(s':aE):Prop:=∀ρ a w ab n Q,dw e ρ s a w->iy ρ ro ab->
 (∀a' w' ae,dw e ae s' a' w'->Fr s.h.next ρ s.h w ae s'.h w'->Q x.to a' w')->c.wpIn (FF ab) n e.P Q a w
def bS(e:Env)(f:FuncId)(args:List Value)(h:aa)(v:Value)(h':aa):Prop:=(∃fn,e.fn f=some fn)/\∀ρ w (af:Array Value),Gl e ρ->bJ ρ args af.toList->bm ρ h w->
 Calls e.P f af w λen w'=>∃v' ae,en=.returned v'/\aK ae v v'/\bm ae h' w'/\Fr h.next ρ h w ae h' w'
open Classical in
def yo(f:FuncId)(args:List Value)(h:aa)(v:Value)(h':aa):ff:=λf' a' g=>if f'=f/\a'=args/\g=h then some (v,h')else none
theorem Nd{f:FuncId}{args:List Value}{h:aa}{v:Value}{h':aa}(hr:bS e f args h v h'):oq e (yo f args h v h'):=by
 intro f' a' g v' g' hc;unfold yo at hc
 split at hc
 . rename_i hk;obtain⟨rfl,rfl,rfl⟩:=hk;cases hc;exact hr
 . cases hc
theorem Nf{f:FuncId}{args:List Value}{h:aa}{v:Value}{h':aa}:yo f args h v h' f args h=some (v,h'):=by
 unfold yo;rw[if_pos ⟨rfl,rfl,rfl⟩]
theorem ni:oq e (λ_ _ _=>none):=λ_ _ _ _ _ h=>by cases h
theorem yp:wj e (λ_ _ _=>none):=λ_ _ _ _ _ h=>by cases h
def gF(dst:Option Tmp)(v:Value)(s:aE)(K:aE->Prop):Prop:=∃s',fN s dst v=some s'/\K s'
def mz(e:Env)(ro:Option Nat)(o:Oper)(s:aE)(K:aE->Prop):Prop:=
 match aL e s.h s.t o.op with
 |none=>False
 |some (.val v h)=>gF o.dst v {s with h} K
 |some (.skip h)=>gF o.dst undef {s with h} K
 |some (.enter f args h)=>∃v h',bS e f args h v h'/\gF o.dst v {s with h:=h'} K
 |some (.round _ _ _)=>False
 |some (.defer f args cap h)=>ro=none/\gF o.dst undef {s with h,ds:={target:=.fn (.func f) cap.toArray,args:=args.toArray}::s.ds} K
theorem mz.cf{ro:Option Nat}{o:Oper}{s:aE}{K:aE->Prop}(h:mz e ro o s K):∃cf s',oq e cf/\m9 e cf (λ_ _ _=>none) ro o s=some s'/\K s':=by
 unfold mz at h;simp only[x4]
 split at h
 . cases h
 . rename_i v h1 hr;obtain⟨s',h2,h3⟩:=h;exact⟨_,s',ni,by rw[hr];exact h2,h3⟩
 . rename_i h1 hr;obtain⟨s',h2,h3⟩:=h;exact⟨_,s',ni,by rw[hr];exact h2,h3⟩
 . rename_i f args h1 hr;obtain⟨v,h',hf,s',h2,h3⟩:=h;exact⟨_,s',Nd hf,by rw[hr];simp only[Nf];exact h2,h3⟩
 . cases h
 . rename_i f args cap h1 hr;obtain⟨rfl,s',h2,h3⟩:=h;exact⟨_,s',ni,by rw[hr];exact h2,h3⟩
def iO(e:Env)(ro:Option Nat)(ops:List Oper):List Oper->aE->(aE->Prop)->Prop
 |[],s,K=>K s
 |o::r,s,K=>match cY ops s o with
  |none=>False
  |some true=>mz e ro o s λs=>iO e ro ops r s K
  |some false=>gF o.dst undef s λs=>iO e ro ops r s K
theorem Ng(he:e.Ok){ro:Option Nat}{ops:Array Oper}{K:aE->Prop}:∀(l:List Oper) (k:Nat) (s:aE),ops.toList.drop k=l->iO e ro ops.toList l s K->∃s',K s'/\∀ab n Q (ρ:ay) (a:Act) (w:World),dw e ρ s a w->iy ρ ro ab->
 (∀a' w' ae,dw e ae s' a' w'->Fr s.h.next ρ s.h w ae s'.h w'->Q .normal a' w')->wpOpsIn (FF ab) n e.P ops Q ((List.range ops.size).drop k) a w:=by
 intro l
 induction l with
 |nil=>
  intro k s hl h;have hk:ops.size<=k:=by
   have:=congrArg List.length hl;simp at this;omega
  refine⟨s,h,λab n Q ρ a w x _ hQ=> ?_⟩;rw[List.drop_eq_nil_of_le (by simpa using hk)];exact hQ a w ρ x (Fr.refl _ _ _ _)
 |cons o r ih=>
  intro k s hl h;have hk:k<ops.size:=by
   rcases Nat.lt_or_ge k ops.size with h|h
   . exact h
   . rw[List.drop_eq_nil_of_le (by simpa using h)]at hl;cases hl
  have bb:ops[k]? =some o:=by
   have:(ops.toList.drop k)[0]? =some o:=by rw[hl];rfl
   simpa[List.getElem?_drop]using this
  have hr:ops.toList.drop (k+1)=r:=by rw[<-List.drop_drop,hl];rfl
  have aB:(List.range ops.size).drop k=k::(List.range ops.size).drop (k+1):=by
   rw[List.drop_eq_getElem_cons (by simpa using hk)];simp
  rw[aB];simp only[iO]at h;simp only[wpOpsIn,bb];cases hw:cY ops.toList s o with
  |none=>simp[hw]at h
  |some b=>
   cases b with
   |true=>
    simp only[hw]at h;obtain⟨cf,s1,aR,hs,h⟩:=h.cf;obtain⟨s2,h2,h3⟩:=ih (k+1) s1 hr h;refine⟨s2,h2,λab n Q ρ a w x ad hQ=> ?_⟩;rw[pK hw x,if_pos rfl];refine wm he aR yp hs x ad n λa1 w1 ai x1 f1=> ?_;refine h3 ab n Q ai a1 w1 x1 (ad.mono f1.ext) λa2 w2 aC x2 f2=> ?_;exact hQ a2 w2 aC x2 (f1.trans (f2.mono f1.next))
   |false=>
    simp only[hw]at h;obtain⟨s1,hs,h⟩:=h;obtain⟨s2,h2,h3⟩:=ih (k+1) s1 hr h;refine⟨s2,h2,λab n Q ρ a w x ad hQ=> ?_⟩;rw[pK hw x,if_neg (by simp)];refine⟨λf _=>trivial, ?_⟩;obtain⟨p1,p2⟩:=ng x hs (wk _);refine h3 ab n Q ρ _ w p1 ad λa2 w2 aC x2 f2=> ?_;rw[p2]at f2;exact hQ a2 w2 aC x2 f2
def nj(e:Env)(ro:Option Nat)(ops:List Oper)(i id m:Nat)(o:Oper)(x:cH)(K:cH->Prop):Prop:=
 match cY ops x.s o with
 |none=>False
 |some false=>match cls o.op with
  |.effect=>gF o.dst undef x.s λs=>K {x with s,bE:=((x.bE.head?.map (·.1)).getD 0,s.h)::x.bE}
  |.bad=>False
  |_=>gF o.dst undef x.s λs=>K {x with s}
 |some true=>match cls o.op with
  |.pure=>match aL e x.s.h x.s.t o.op with
   |some (.val v _)=>gF o.dst v x.s λs=>K {x with s}
   |_=>False
  |.read=>match aL e (cg x.s.h m x.an) x.s.t o.op with
   |some (.val v _)=>gF o.dst v x.s λs=>K {x with s}
   |_=>False
  |.alloc=>match cU e x.s.t o.op with
   |none=>False
   |some (ob,f)=>gF o.dst (f id) x.s λs=>K {x with s,an:=(i,id,ob)::x.an,all:=(i,id,ob)::x.all}
  |.effect=>mz e ro o {x.s with h:=cg x.s.h m x.an} λs=>K {x with s,an:=x.an.filter λp=> !m.testBit p.1,bE:=(Nat.lor ((x.bE.head?.map (·.1)).getD 0) m,s.h)::x.bE}
  |.bad=>False
theorem nj.cf{ro:Option Nat}{ops:List Oper}{i id m:Nat}{o:Oper}{x:cH}{K:cH->Prop}(h:nj e ro ops i id m o x K):∃cf x',oq e cf/\uh e cf (λ_ _ _=>none) ro ops i id m o x=some x'/\K x':=by
 unfold nj at h;unfold uh;cases hw:cY ops x.s o with
 |none=>simp[hw]at h
 |some b=>
  cases b with
  |false=>
   simp only[hw]at h⊢;cases hc:cls o.op with
   |effect=>simp only[hc]at h;obtain⟨s,h1,h2⟩:=h;exact⟨_,_,ni,by rw[h1],h2⟩
   |bad=>simp[hc]at h
   |pure=>simp only[hc]at h;obtain⟨s,h1,h2⟩:=h;exact⟨_,_,ni,by rw[h1],h2⟩
   |read=>simp only[hc]at h;obtain⟨s,h1,h2⟩:=h;exact⟨_,_,ni,by rw[h1],h2⟩
   |alloc=>simp only[hc]at h;obtain⟨s,h1,h2⟩:=h;exact⟨_,_,ni,by rw[h1],h2⟩
  |true=>
   simp only[hw]at h⊢;cases hc:cls o.op with
   |pure=>
    simp only[hc]at h⊢
    split at h
    . rename_i v h1 hr;obtain⟨s,h2,h3⟩:=h;exact⟨_,_,ni,by rw[hr];simp only;rw[h2];rfl,h3⟩
    . cases h
   |read=>
    simp only[hc]at h⊢
    split at h
    . rename_i v h1 hr;obtain⟨s,h2,h3⟩:=h;exact⟨_,_,ni,by rw[hr];simp only;rw[h2];rfl,h3⟩
    . cases h
   |alloc=>
    simp only[hc]at h⊢
    split at h
    . cases h
    . rename_i ob f hr;obtain⟨s,h2,h3⟩:=h;exact⟨_,_,ni,by rw[hr];simp only;rw[h2];rfl,h3⟩
   |effect=>
    simp only[hc]at h⊢;obtain⟨cf,s,aR,h2,h3⟩:=h.cf;exact⟨cf,_,aR,by rw[h2],h3⟩
   |bad=>simp[hc]at h
def lA(e:Env)(ro:Option Nat)(ops:List Oper):List (Oper×Nat)->Nat->Nat->cH->(cH->Prop)->Prop
 |[],_,_,x,K=>K x
 |(o,m)::r,i,id,x,K=>nj e ro ops i id m o {x with dg:=x.s.t::x.dg} λx=>lA e ro ops r (i+1) (nextId o id) x K
theorem Fu{ro:Option Nat}{ops:List Oper}{dM cfs':Nat->ff}{rf:gW}:∀(l:List (Oper×Nat)) (i id:Nat) (x:cH),(∀j,i<=j->dM j=cfs' j)->nc e dM rf ro ops l i id x=nc e cfs' rf ro ops l i id x
 |[],_,_,_,_=>rfl
 |(o,m)::r,i,id,x,h=>by
  simp only[nc,h i (Nat.le_refl _)]
  split
  . rfl
  . exact Fu r (i+1) _ _ λj hj=>h j (by omega)
theorem lA.dM{ro:Option Nat}{ops:List Oper}{K:cH->Prop}:∀(l:List (Oper×Nat)) (i id:Nat) (x:cH),lA e ro ops l i id x K->∃(dM:Nat->ff) (x':cH),(∀j,oq e (dM j))/\nc e dM (λ_ _ _=>none) ro ops l i id x=some x'/\K x'
 |[],_,_,x,h=>⟨λ_ _ _ _=>none,x,λ_=>ni,rfl,h⟩
 |(o,m)::r,i,id,x,h=>by
  obtain⟨cf,x1,h1,h2,h3⟩:=nj.cf (h:nj e ro ops i id m o {x with dg:=x.s.t::x.dg} _);obtain⟨dM,x2,h4,h5,h6⟩:=lA.dM r (i+1) _ x1 h3;refine⟨λj=>if j=i then cf else dM j,x2,λj=> ?_, ?_,h6⟩
  . by_cases hj:j=i
    . simp only[hj,if_true];exact h1
    . simp only[hj,if_false];exact h4 j
  . simp only[nc,if_true,h2];rw[Fu r (i+1) _ x1 (cfs':=dM) λj hj=>by rw[if_neg (by omega)]];exact h5
def mA(e:Env)(ro:Option Nat)(ops:List Oper)(s:aE)(K:aE->Prop):Prop:=
 qG ops (bl ops)=true/\lA e ro ops (ops.zip (bl ops)) 0 s.h.next {s:={s with h:={s.h with next:=s.h.next+(ops.filter λo=>cls o.op==.alloc).length}},an:=[],all:=[],bE:=[(0,{s.h with next:=s.h.next+(ops.filter λo=>cls o.op==.alloc).length})],dg:=[]}
  λx=>((dc ops).length=0\/ou e ops x x.bE.reverse (dc ops) (ops.zip (bl ops)) x.dg.reverse 0)/\K {x.s with h:=fw x.s.h x.an}
def ow(e:Env)(ro:Option Nat)(c:Code)(x:bn)(s':aE):Nat->aE->Prop
 |0,s=>ov e ro c s x s'/\x≠.normal
 |n+1,s=>∃s1,ov e ro c s .normal s1/\ow e ro c x s' n s1
theorem ow.runs{ro:Option Nat}{c:Code}{x:bn}{s':aE}:∀(k:Nat) (s:aE),ow e ro c x s' k s->ov e ro (.loop c) s x s':=by
 intro k s hk ρ a w ab n Q X ad hQ;have key:∀k (s:aE),ow e ro c x s' k s->∀(ρ:ay) (a:Act) (w:World),dw e ρ s a w->iy ρ ro ab->(∀a' w' ae,dw e ae s' a' w'->Fr s.h.next ρ s.h w ae s'.h w'->Q x.to a' w')->c.roundsIn (FF ab) n e.P Q (k+1) a w:=by
  intro k
  induction k with
  |zero=>
   intro s hk ρ a w X ad hQ;rw[roundsIn_succ];obtain⟨h1,h2⟩:=hk;refine h1 ρ a w ab n _ X ad λa1 w1 ai q1 f1=> ?_;cases x with
   |normal=>exact absurd rfl h2
   |exit id=>exact hQ a1 w1 ai q1 f1
   |ret=>exact hQ a1 w1 ai q1 f1
  |succ k ih=>
   intro s hk ρ a w X ad hQ;rw[roundsIn_succ];obtain⟨s1,h1,h2⟩:=hk;refine h1 ρ a w ab n _ X ad λa1 w1 ai q1 f1=> ?_;exact ih s1 h2 ai a1 w1 q1 (ad.mono f1.ext) λa2 w2 aC q2 f2=>hQ a2 w2 aC q2 (f1.trans (f2.mono f1.next))
 exact wpIn_loop_rounds (k+1) (key k s hk ρ a w X ad hQ)
def RQ(e:Env)(ro:Option Nat):Code->aE->(bn->aE->Prop)->Prop
 |.skip,s,K=>K .normal s
 |.label _,s,K=>K .normal s
 |.exit id,s,K=>K (.exit id) s
 |.ret,s,K=>K .ret s
 |.scope c,s,K=>RQ e ro c s K
 |.region _ ops true,s,K=>mA e ro ops.toList s (K .normal)
 |.region _ ops false,s,K=>iO e ro ops.toList ops.toList s (K .normal)
 |.seq a b,s,K=>RQ e ro a s λx s1=>match x with|.normal=>RQ e ro b s1 K|.exit i=>K (.exit i) s1|.ret=>K .ret s1
 |.cond c a b,s,K=>∃v,au e s.t c=some (.bool v)/\(v=true->RQ e ro a s K)/\(v=false->RQ e ro b s K)
 |.block id c,s,K=>RQ e ro c s λx s1=>match x with|.normal=>K .normal s1|.exit i=>if i=id then K .normal s1 else K (.exit i) s1|.ret=>K .ret s1
 |.loop c,s,K=>∃x s',ov e ro (.loop c) s x s'/\K x s'
 |_,_,_=>False
theorem RQ.runs(he:e.Ok)(aD:e.P.follows .mixedOrders=true){ro:Option Nat}:∀(c:Code) (s:aE) (K:bn->aE->Prop),RQ e ro c s K->∃x s',ov e ro c s x s'/\K x s':=by
 intro c
 induction c with
 |skip=>exactλs K h=>⟨.normal,s,λρ a w ab n Q X ad hQ=>wpIn_skip (hQ a w ρ X (Fr.refl _ _ _ _)),h⟩
 |label l=>exactλs K h=>⟨.normal,s,λρ a w ab n Q X ad hQ=>wpIn_label (hQ a w ρ X (Fr.refl _ _ _ _)),h⟩
 |exit id=>exactλs K h=>⟨.exit id,s,λρ a w ab n Q X ad hQ=>wpIn_exit (hQ a w ρ X (Fr.refl _ _ _ _)),h⟩
 |ret=>exactλs K h=>⟨.ret,s,λρ a w ab n Q X ad hQ=>wpIn_ret (hQ a w ρ X (Fr.refl _ _ _ _)),h⟩
 |scope c ih=>
  intro s K h;obtain⟨x,s',h1,h2⟩:=ih s K h;refine⟨x,s',λρ a w ab n Q X ad hQ=>AH (h1 ρ a w ab n _ X ad λa' w' ae x' f'=> ?_),h2⟩;have:=hQ a' w' ae x' f';cases x<;>exact this
 |region id ops draw=>
  intro s K h;cases draw with
  |true=>
   obtain⟨h1,h2⟩:=(h:mA e ro ops.toList s (K .normal));obtain⟨dM,x,h3,h4,h5,h6⟩:=h2.dM;exact⟨_,_,λρ a w ab n Q X ad hQ=>Fj he aD h3 yp ro ops s h1 x h4 h5 ρ a w ab n Q id X ad hQ,h6⟩
  |false=>
   have h0:∃s',K .normal s'/\∀ab n Q (ρ:ay) (a:Act) (w:World),dw e ρ s a w->iy ρ ro ab->
    (∀a' w' ae,dw e ae s' a' w'->Fr s.h.next ρ s.h w ae s'.h w'->Q .normal a' w')->wpOpsIn (FF ab) n e.P ops Q ((List.range ops.size).drop 0) a w:=by
    have:iO e ro ops.toList (ops.toList.drop 0) s (K .normal):=h;exact Ng he _ 0 s rfl this
   obtain⟨s',h1,h2⟩:=h0;refine⟨_,s',λρ a w ab n Q X ad hQ=>wpIn_region ?_,h1⟩;have:=h2 ab n Q ρ a w X ad hQ;simpa using this
 |seq p q aS aT=>
  intro s K h;obtain⟨x,s1,h1,h2⟩:=aS s _ h;cases x with
  |normal=>
   obtain⟨x2,s2,h3,h4⟩:=aT s1 K h2;exact⟨x2,s2,λρ a w ab n Q X ad hQ=>wpIn_seq (h1 ρ a w ab n _ X ad λa1 w1 ai q1 f1=>h3 ai a1 w1 ab n Q q1 (ad.mono f1.ext) λa2 w2 aC q2 f2=>hQ a2 w2 aC q2 (f1.trans (f2.mono f1.next))),h4⟩
  |exit i=>exact⟨_,s1,λρ a w ab n Q X ad hQ=>wpIn_seq (h1 ρ a w ab n _ X ad λa1 w1 ai q1 f1=>hQ a1 w1 ai q1 f1),h2⟩
  |ret=>exact⟨_,s1,λρ a w ab n Q X ad hQ=>wpIn_seq (h1 ρ a w ab n _ X ad λa1 w1 ai q1 f1=>hQ a1 w1 ai q1 f1),h2⟩
 |cond c p q aS aT=>
  intro s K h;obtain⟨v,hv,ht,hf⟩:=h;cases v with
  |true=>
   obtain⟨x,s1,h1,h2⟩:=aS s K (ht rfl);exact⟨x,s1,λρ a w ab n Q X ad hQ=>wpIn_cond_true (kM X.g X.t hv a.defers).pH (h1 ρ a w ab n Q X ad hQ),h2⟩
  |false=>
   obtain⟨x,s1,h1,h2⟩:=aT s K (hf rfl);exact⟨x,s1,λρ a w ab n Q X ad hQ=>wpIn_cond_false (kM X.g X.t hv a.defers).pH (h1 ρ a w ab n Q X ad hQ),h2⟩
 |block id c ih=>
  intro s K h;obtain⟨x,s1,h1,h2⟩:=ih s _ h;cases x with
  |normal=>exact⟨.normal,s1,λρ a w ab n Q X ad hQ=>wpIn_block (h1 ρ a w ab n _ X ad λa1 w1 ai q1 f1=>hQ a1 w1 ai q1 f1),h2⟩
  |ret=>exact⟨.ret,s1,λρ a w ab n Q X ad hQ=>wpIn_block (h1 ρ a w ab n _ X ad λa1 w1 ai q1 f1=>hQ a1 w1 ai q1 f1),h2⟩
  |exit i=>
   by_cases aU:i=id
   . subst aU;simp only[if_true]at h2;refine⟨.normal,s1,λρ a w ab n Q X ad hQ=>wpIn_block (h1 ρ a w ab n _ X ad λa1 w1 ai q1 f1=> ?_),h2⟩;show Exit.inBlock _ Q (.exit i) a1 w1;simp only[Exit.inBlock,if_true];exact hQ a1 w1 ai q1 f1
   . simp only[aU,if_false]at h2;refine⟨.exit i,s1,λρ a w ab n Q X ad hQ=>wpIn_block (h1 ρ a w ab n _ X ad λa1 w1 ai q1 f1=> ?_),h2⟩;show Exit.inBlock _ Q (.exit i) a1 w1;simp only[Exit.inBlock,aU,if_false];exact hQ a1 w1 ai q1 f1
 |loop c ih=>exactλs K h=>h
 |_=>exactλs K h=>h.elim
open Classical in
def qN(c:Code)(s:aE)(x:bn)(s':aE):pC:=λro c' s1=>if ro=none/\c'=c/\s1=s then some (x,s')else none
theorem AW{c:Code}{s:aE}{x:bn}{s':aE}(h:ov e none c s x s'):EX e (qN c s x s'):=by
 intro ro c' s1 x1 s2 hc;unfold qN at hc
 split at hc
 . rename_i hk;obtain⟨rfl,rfl,rfl⟩:=hk;cases hc;exact h
 . cases hc
def kg:List Value->Value
 |[v]=>v
 |vs=>.tuple vs.toArray
def pQ(e:Env)(rs:List ResultVar)(K:Value->aa->Prop)(x:bn)(s:aE):Prop:=
 (∀i,x≠.exit i)/\∃h1 vs,lu e s.ds s.h=some h1/\iv e {s with h:=h1} rs=some vs/\K (kg vs) h1
theorem bS.of(he:e.Ok)(aD:e.P.follows .mixedOrders=true)(aI:Idle e){f:FuncId}{fn:Func}{c:Code}{args:List Value}{h:aa}{K:Value->aa->Prop}(bc:e.fn f=some fn)(hb:fn.body=some c)
 (hq:RQ e none c {t:=gX args,n:=args.length+(fn.ntmps-args.length),ds:=[],h} (pQ e fn.results.toList K)):∃v h',bS e f args h v h'/\K v h':=by
 obtain⟨x,s',h1,hx,h2,vs,h3,h4,h5⟩:=hq.runs he aD;refine⟨kg vs,h2, ?_,h5⟩;have:=AJ he aI (AW h1) f args h (kg vs) h2 (by
  unfold qH;simp only[bc,hb];have:qN c {t:=gX args,n:=args.length+(fn.ntmps-args.length),ds:=[],h} x s' none c {t:=gX args,n:=args.length+(fn.ntmps-args.length),ds:=[],h}=some (x,s'):=by
   unfold qN;rw[if_pos ⟨rfl,rfl,rfl⟩]
  rw[this];cases x with
  |exit i=>exact absurd rfl (hx i)
  |normal=>
   simp only[h3,h4]
   match vs with
   |[]=>rfl
   |[v]=>rfl
   |_::_::_=>rfl
  |ret=>
   simp only[h3,h4]
   match vs with
   |[]=>rfl
   |[v]=>rfl
   |_::_::_=>rfl)
 exact this
theorem bS.drop{f:FuncId}{args:List Value}{h:aa}{v:Value}{h1 g:aa}(hr:bS e f args h v h1)(hs:∀i o,g.get i=some o->h1.get i=some o)(hn:h1.next<=g.next):bS e f args h v g:=by
 refine⟨hr.1,λρ w af hg ha x=>(hr.2 ρ w af hg ha x).mono ?_⟩;rintro en w' ⟨v',ae,rfl,q1,q2,q3⟩;exact⟨v',ae,rfl,q1,q2.sub hs hn,q3.trans (Fr.less hs hn)⟩
theorem kJ.back{ρ ae:ay}(hx:Ext ρ ae){f g g':Fn}(h:kJ ρ f g)(h':kJ ae f g'):kJ ρ f g':=by
 cases h with
 |func f=>cases h';exact .func f
 |yield hp=>cases h' with|yield az=>rw[hx _ _ hp]at az;cases az;exact .yield hp
theorem aK.back{ρ ae:ay}(hx:Ext ρ ae){v u:Value}(h:aK ρ v u):∀{v':Value},aK ae v v'->aK ρ v v':=by
 induction h with
 |bool b=>intro v' h';cases h';exact .bool b
 |int k n=>intro v' h';cases h';exact .int k n
 |string s=>intro v' h';cases h';exact .string s
 |sw=>intro v' h';cases h';exact .sw
 |ptr hp=>intro v' h';cases h' with|ptr az=>rw[hx _ _ hp]at az;cases az;exact .ptr hp
 |kK l k=>intro v' h';cases h';exact .kK l k
 |sl hp hs=>intro v' h';cases h' with|sl az aJ=>rw[hx _ _ hp]at az;cases az;exact .sl hp aJ
 |pD=>intro v' h';cases h';exact .pD
 |map hp=>intro v' h';cases h' with|map az=>rw[hx _ _ hp]at az;cases az;exact .map hp
 | @func fn aY a a' c c' hf h1 g1 h2 g2 bf bg=>
  intro v' h';cases h' with
  | @func _ AX _ a2 _ c2 bh ao bj av bk=>
   refine .func (hf.back hx bh) ao (λi x x' hi aF=> ?_) av (λi x x' hi aF=> ?_)
   . have hl:=(Array.getElem?_eq_some_iff.1 hi).1;exact bf i x _ hi (Array.getElem?_eq_getElem (by omega)) (bj i x x' hi aF)
   . have hl:=(Array.getElem?_eq_some_iff.1 hi).1;exact bg i x _ hi (Array.getElem?_eq_getElem (by omega)) (bk i x x' hi aF)
 |nilFunc=>intro v' h';cases h';exact .nilFunc
 |iface _ ih=>intro v' h';cases h' with|iface h1=>exact .iface (ih h1)
 |nilIface=>intro v' h';cases h';exact .nilIface
 | @agg a a' hs hh ih=>
  intro v' h';cases h' with
  | @agg _ a2 aJ aV=>
   refine .agg aJ λi x x' hi aF=> ?_;have hl:=(Array.getElem?_eq_some_iff.1 hi).1;exact ih i x _ hi (Array.getElem?_eq_getElem (by omega)) (aV i x x' hi aF)
 | @tuple a a' hs hh ih=>
  intro v' h';cases h' with
  | @tuple _ a2 aJ aV=>
   refine .tuple aJ λi x x' hi aF=> ?_;have hl:=(Array.getElem?_eq_some_iff.1 hi).1;exact ih i x _ hi (Array.getElem?_eq_getElem (by omega)) (aV i x x' hi aF)
theorem bJ.back{ρ ae:ay}(hx:Ext ρ ae):∀{x y y':List Value},bJ ρ x y->bJ ae x y'->bJ ρ x y'
 |_,_,_,.nil,.nil=>.nil
 |_,_,_,.cons h1 h2,.cons ao av=>.cons (h1.back hx ao) (bJ.back hx h2 av)
theorem Fv{ρ ae:ay}(hx:Ext ρ ae):∀{x y y':List MapEntry},aP (eU ρ) x y->aP (eU ae) x y'->aP (eU ρ) x y'
 |_,_,_,.nil,.nil=>.nil
 |_,_,_,.cons h1 h2,.cons ao av=>.cons ⟨ao.key,ao.plain,h1.val.back hx ao.val,ao.born⟩ (Fv hx h2 av)
theorem iM.back{ρ ae:ay}{w w':World}{pl:Pl}{o:bK}(hx:Ext ρ ae)(h:iM ρ w pl o)(h':iM ae w' pl o):iM ρ w' pl o:=by
 cases o with
 |row cs wr ah=>
  obtain⟨c,el,fz,h1,h2,h3,h4,h5,h6,h7,h8⟩:=h;obtain⟨c',bo,bq,ao,av,aN,bs,bt,bu,bw,aZ⟩:=h';exact⟨c',bo,bq,ao,av,aN,bs,bt,bu,bw,bJ.back hx h8.1 aZ.1,aZ.2⟩
 |map es clock=>
  obtain⟨h0,bB,h1,h2⟩:=h;obtain⟨aO,aX,ao,av⟩:=h';exact⟨aO,aX,ao,Fv hx h2 av⟩
 |cD m since seen last=>
  obtain⟨h0,m1,h1,h2⟩:=h;obtain⟨aO,bx,ao,av⟩:=h';exact⟨aO,bx,ao,h2.back hx av⟩
 |e8 s pos=>exact h'
 |loop st an t n params bT body fT=>
  obtain⟨h0,fn,tmps,bz,h1,h2,h3⟩:=h;obtain⟨aO,aY,aQ,bA,ao,av,aN⟩:=h';rw[hx _ _ h1]at ao;cases ao;refine⟨aO,aY,aQ,bz,h1,⟨av.1,λi v hv=> ?_⟩,aN⟩;obtain⟨a1,a2⟩:=h2.2 i v hv;obtain⟨b1,b2⟩:=av.2 i v hv;exact⟨b1,a2.back hx b2⟩
 |fT e=>exact h'
theorem bS.pure{f:FuncId}{args:List Value}{h:aa}{v:Value}{h1:aa}(hr:bS e f args h v h1)(hs:∀i o,h.get i=some o->h1.get i=some o)
 (hv:∀ρ w (af:List Value),Gl e ρ->bJ ρ args af->bm ρ h w->∃u,aK ρ v u):bS e f args h v h:=by
 refine⟨hr.1,λρ w af hg ha x=>(hr.2 ρ w af hg ha x).mono ?_⟩;rintro en w' ⟨v',ae,rfl,q1,q2,q3⟩;obtain⟨u,hu⟩:=hv ρ w af.toList hg ha x;refine⟨v',ρ,rfl,hu.back q3.ext q1,⟨x.iw,λi o ho=> ?_,x.sep⟩, ?_⟩
 . obtain⟨pl,h2,h3⟩:=x.obj i o ho;obtain⟨pl',av,aN⟩:=q2.obj i o (hs i o ho);rw[q3.ext _ _ h2]at av;cases av;exact⟨pl,h2,h3.back q3.ext aN⟩
 . exact⟨Ext.refl _,q3.os,q3.output,q3.size,q3.frozen,q3.kept,λi o pl a b c=>.inl ⟨i,o,pl,a,b,c,rfl⟩,λ_ _ a _=>a,λ_ a b=>absurd a b,λ_ o a _=>⟨o,a⟩,Nat.le_refl _⟩
end Go.aw
end
noncomputable section
namespace Go.aw
variable {e:Env} {ro:Option Nat}
def rd(h:aa)(b o:Nat):Option Value:=
 match h.get b with
 |some (.row cs _ _)=>cs[o]?
 |_=>none
def jG(h:aa)(b o:Nat):Nat->Option (List Value)
 |0=>some []
 |n+1=>match rd h b o with
  |none=>none
  |some v=>(jG h b (o+1) n).map (v::·)
theorem Fw{h:aa}{b:Nat}{cs:List Value}{wr:Bool}{ah:Nat}(hg:h.get b=some (.row cs wr ah)):∀(n o:Nat) (l:List Value),jG h b o n=some l->(cs.drop o).take n=l/\l.length=n
 |0,o,l,hl=>by simp only[jG,Option.some.injEq]at hl;subst hl;simp
 |n+1,o,l,hl=>by
  simp only[jG,rd,hg]at hl;cases hc:cs[o]? with
  |none=>simp[hc]at hl
  |some v=>
   simp only[hc,Option.map_eq_some_iff]at hl;obtain⟨r,h1,rfl⟩:=hl;obtain⟨h2,h3⟩:=Fw hg n (o+1) r h1;obtain⟨ad,hv⟩:=List.getElem?_eq_some_iff.1 hc;rw[List.drop_eq_getElem_cons ad,List.take_succ_cons,h2,hv];exact⟨rfl,by simp[h3]⟩
theorem Fx{h:aa}{b o n:Nat}{l:List Value}{sp:Option Nat}(hl:jG h b o (n+1)=some l):gm h ⟨b,o,sp⟩ (n+1)=some l:=by
 unfold gm;simp only;cases hg:h.get b with
 |none=>simp[jG,rd,hg]at hl
 |some ob=>
  cases ob with
  |row cs wr ah=>
   obtain⟨h1,h2⟩:=Fw hg _ _ _ hl;simp only[h1,h2,Nat.beq_refl,cond_true]
  |_=>simp[jG,rd,hg]at hl
theorem cZ{h:aa}{b o:Nat}{cs:List Value}{wr:Bool}{ah:Nat}(hg:h.get b=some (.row cs wr ah)):rd h b o=cs[o]? :=by unfold rd;rw[hg]
def ox(h:aa)(b o:Nat)(vs:List Value):Option aa:=
 match h.get b with
 |some (.row cs true ah)=>if o+vs.length<=cs.length/\vs.all dL=true then some (h.set b (some (.row (eo cs o vs) true ah)))else none
 |_=>none
theorem Fy{h:aa}{b o:Nat}{v:Value}{vs:List Value}{sp:Option Nat}:mv h ⟨b,o,sp⟩ (v::vs)=ox h b o (v::vs):=by
 unfold mv ox;simp only;cases hg:h.get b with
 |none=>rfl
 |some ob=>
  cases ob with
  |row cs wr ah=>
   cases wr with
   |false=>rfl
   |true=>
    simp only;by_cases hc:o+(v::vs).length<=cs.length/\(v::vs).all dL=true
    . rw[if_pos hc,Nat.ble_eq_true_of_le hc.1,hc.2];rfl
    . rw[if_neg hc];cases hb:(Nat.ble (o+(v::vs).length) cs.length&&(v::vs).all dL)with
      |false=>rfl
      |true=>
       rw[Bool.and_eq_true]at hb;exact absurd ⟨Nat.le_of_ble_eq_true hb.1,hb.2⟩ hc
  |_=>rfl
theorem FA{h:aa}{b o:Nat}{vs:List Value}{cs:List Value}{ah:Nat}(hg:h.get b=some (.row cs true ah))(hl:o+vs.length<=cs.length)(hv:vs.all dL=true):ox h b o vs=some (h.set b (some (.row (eo cs o vs) true ah))):=by
 unfold ox;rw[hg];simp only;rw[if_pos ⟨hl,hv⟩]
def Env.ld(e:Env)(t:TypeId):Option (Option Nat):=
 match e.under t with
 |none=>none
 |some d=>bif j7 d then(match e.size t with|none=>none|some n=>some (some n))else some none
def Env.off(e:Env)(s f:Nat):Option Nat:=
 match e.under s with
 |some (.struct fields)=>match kH e fields f with
  |some (off,size)=>bif Nat.blt 0 size then some off else none
  |none=>none
 |_=>none
def Env.elem(e:Env)(t:TypeId):Option Nat:=
 match e.under t with
 |some (.slice el)=>e.size el
 |_=>none
def Env.arr(e:Env)(t:TypeId):Option (Nat×Nat):=
 match e.under t with
 |some (.array n el)=>match e.size el with|none=>none|some s=>some (n,s)
 |_=>none
def Env.part(e:Env)(s f:Nat):Option (Nat×Option Nat):=
 match e.under s with
 |some (.struct fields)=>match fields[f]? with
  |none=>none
  |some fd=>match e.ld fd.type with|none=>none|some l=>some (fd.offset,l)
 |_=>none
theorem AY{h:aa}{t:TypeId}{b o:Nat}(hl:e.ld t=some none):iJ e h t ⟨b,o,none⟩=rd h b o:=by
 unfold Env.ld at hl;unfold iJ;cases hu:e.under t with
 |none=>simp[hu]at hl
 |some d=>
  simp only[hu]at hl⊢;cases hd:j7 d with
  |true=>
   simp only[hd,cond_true]at hl
   split at hl<;>cases hl
  |false=>
   simp only[cond_false];cases hr:rd h b o with
   |some v=>
    have:jG h b o (0+1)=some [v]:=by simp[jG,hr]
    rw[show(1:Nat)=0+1 from rfl,Fx this]
   |none=>
    unfold rd at hr;unfold gm;simp only;cases hg:h.get b with
    |none=>rfl
    |some ob=>
     cases ob with
     |row cs wr ah=>
      simp only[hg]at hr⊢;have:cs.drop o=[]:=by
       rw[List.drop_eq_nil_iff];exact List.getElem?_eq_none_iff.1 hr
      simp[this];rfl
     |_=>rfl
theorem Nh{h:aa}{t:TypeId}{b o n:Nat}{l:List Value}(hl:e.ld t=some (some (n+1)))(hr:jG h b o (n+1)=some l):iJ e h t ⟨b,o,none⟩=some (.agg l.toArray):=by
 unfold Env.ld at hl;unfold iJ;cases hu:e.under t with
 |none=>simp[hu]at hl
 |some d=>
  simp only[hu]at hl⊢;cases hd:j7 d with
  |true=>
   simp only[hd,cond_true]at hl⊢;cases hs:e.size t with
   |none=>simp[hs]at hl
   |some m=>
    simp only[hs,Option.some.injEq]at hl;subst hl;simp only[Fx hr]
  |false=>simp[hd]at hl
def gH(f:Value->Value->Option Value):Option Value->Option Value->Option Value
 |some a,some b=>f a b
 |_,_=>none
theorem uA(f:Value->Value->Option Value)(a b:Value):gH f (some a) (some b)=f a b:=rfl
def nk(e:Env)(h:aa)(ty:TypeId)(v:Value):Option Value:=match iL v with|none=>none|some a=>iJ e h ty a
def sI(e:Env)(s f:Nat)(v:Value):Option Value:=match iL v with|none=>none|some a=>(e.off s f).map λo=>.pointer (some (a.add o))
def uB(e:Env)(ty f:Nat)(v:Value):Option Value:=match v,e.under ty with
 |.agg cs,some (.struct fields)=>match fields[f]? with
  |none=>none
  |some fd=>od e fd.type cs.toList fd.offset
 |_,_=>none
def oy(e:Env)(op:UnOp)(a:Value):Option Value:=bif plain a then e9 e.P (Op.unary op a)else none
def pR(e:Env)(h:aa)(s d:TypeId)(a:Value):Option Value:=bif plain a then e9 e.P (convert s d a)else pB e h s d a
def pS(e:Env)(ty:TypeId)(x ix:Value):Option Value:=match x,intOf ix,e.under ty with
 |.pointer (some a),some i,some (.array len elem)=>match e.size elem with
  |none=>none
  |some s=>bif decide (0<=i)&&decide (i<(len:Int))then some (.pointer (some (a.add (i.toNat*s))))else none
 |.slice (some a) len _,some i,some (.slice elem)=>match e.size elem with
  |none=>none
  |some s=>bif decide (0<=i)&&decide (i<(len:Int))then some (.pointer (some (a.add (i.toNat*s))))else none
 |_,_,_=>none
def pT(e:Env)(ty:TypeId)(x ix:Value):Option Value:=match x,ix,e.under ty with
 |.agg cs,.int _ i,some (.array len elem)=>match e.size elem with
  |none=>none
  |some s=>bif decide (0<=i)&&decide (i<(len:Int))then od e elem cs.toList (i.toNat*s)else none
 |.string s,.int k i,some .string=>e9 e.P (Instr.index ty (.string s) (.int k i))
 |_,_,_=>none
def sJ(x:Value):Option Value:=match x with
 |.pointer (some a)=>some (.pointer (some a))
 |.func (.func f) a b=>some (.func (.func f) a b)
 |_=>none
def sK(i:Nat)(x:Value):Option Value:=match x with
 |.tuple vs=>vs[i]?
 |_=>none
def sL(c:Option Value)(a b:Option Value):Option Value:=match c with
 |some (.bool true)=>a
 |some (.bool false)=>b
 |_=>none
def wz(e:Env)(ty:TypeId)(v:Value):Option Value:=match e.under ty with
 |some (.interface _)=>none
 |some _=>some (.iface ty v)
 |_=>none
def oz(e:Env)(h:aa)(ty:TypeId)(ok:Bool)(m k:Value):Option Value:=qC e h ty m k ok
def iP(e:Env)(t:Tr Value):Option Operand->Option (Option Value)
 |none=>some none
 |some o=>(au e t o).map some
def uC(e:Env)(h:aa)(ty:TypeId):Option Value->Option (Option Value)->Option (Option Value)->Option (Option Value)->Option Value
 |some x,some lo,some hi,some mx=>j8 e h ty x lo hi mx
 |_,_,_,_=>none
def nn(e:Env)(ty:TypeId):Option (List (Nat×Value))->Option Value
 |some ps=>qB e ty ps
 |none=>none
def wA(f:FuncId):Option (List Value)->Option (List Value)->Option Value
 |some a,some b=>some (.func (.func f) a.toArray b.toArray)
 |_,_=>none
def wB(e:Env)(h:aa)(ab:Array TypeId)(x:Value):Option Value:=match ab[0]? with|none=>none|some ty=>fU e h ty x
def AZ(e:Env)(h:aa)(ab:Array TypeId)(x:Value):Option Value:=match ab[0]? with|none=>none|some ty=>sf e h ty x
def qO(e:Env)(args:List Value):Option Value:=bif args.all plain then e9 e.P (Builtin.min_ #[] 0 args.toArray)else none
def sM(e:Env)(args:List Value):Option Value:=bif args.all plain then e9 e.P (Builtin.max_ #[] 0 args.toArray)else none
def bD(e:Env)(h:aa)(t:Tr Value):Op->Option Value
 |.move x|.assign x=>au e t x
 |.pick c a b=>sL (au e t c) (au e t a) (au e t b)
 |.build ty parts=>nn e ty (fM e t parts.toList)
 |.load ty a=>(au e t a).bind (nk e h ty)
 |.nilCheck x=>(au e t x).bind sJ
 |.binOp op ty x y _=>gH (cS e op ty x y) (au e t x) (au e t y)
 |.unOp op _ x=>(au e t x).bind (oy e op)
 |.convert s d x=>(au e t x).bind (pR e h s d)
 |.makeInterface ty x=>(au e t x).bind (wz e ty)
 |.makeFunc (.func f) first cap=>wA f (df e t first.toList) (df e t cap.toList)
 |.slice ty x lo hi mx=>uC e h ty (au e t x) (iP e t lo) (iP e t hi) (iP e t mx)
 |.fieldAddr s x f=>(au e t x).bind (sI e s f)
 |.field ty x f=>(au e t x).bind (uB e ty f)
 |.indexAddr ty x ix=>gH (pS e ty) (au e t x) (au e t ix)
 |.index ty x ix=>gH (pT e ty) (au e t x) (au e t ix)
 |.lookup ty m k ok=>gH (oz e h ty ok) (au e t m) (au e t k)
 |.extract x i=>(au e t x).bind (sK i)
 |.call c=>match c.callee with
  |.builtin .len=>match df e t c.args.toList with|some [x]=>wB e h c.argTypes x|_=>none
  |.builtin .cap=>match df e t c.args.toList with|some [x]=>AZ e h c.argTypes x|_=>none
  |.builtin .min=>(df e t c.args.toList).bind (qO e)
  |.builtin .max=>(df e t c.args.toList).bind (sM e)
  |_=>none
 |_=>none
theorem yq{h:aa}{t:Tr Value}{op:Op}{v:Value}(hv:bD e h t op=some v):aL e h t op=some (.val v h):=by
 cases op with
 |move x=>simp only[bD]at hv;simp[aL,hv]
 |assign x=>simp only[bD]at hv;simp[aL,hv]
 |pick c a b=>
  simp only[bD,sL]at hv;simp only[aL]
  split at hv
  . rename_i hc;simp[hc,hv]
  . rename_i hc;simp[hc,hv]
  . cases hv
 |build ty parts=>
  simp only[bD,nn]at hv;simp only[aL]
  split at hv
  . rename_i ps hp;simp[hp,hv]
  . cases hv
 |load ty a=>
  simp only[bD,Option.bind_eq_some_iff,nk]at hv;obtain⟨x,h1,h2⟩:=hv;simp only[aL,h1,Option.bind_some]
  split at h2
  . cases h2
  . rename_i a ha;simp[ha,h2]
 |nilCheck x=>
  simp only[bD,Option.bind_eq_some_iff,sJ]at hv;obtain⟨y,h1,h2⟩:=hv;simp only[aL,h1]
  split at h2
  . cases h2;rfl
  . cases h2;rfl
  . cases h2
 |binOp op ty x y z=>
  simp only[bD]at hv;simp only[aL];cases hx:au e t x with
  |none=>simp[hx,gH]at hv
  |some a=>
   cases hy:au e t y with
   |none=>simp[hx,hy,gH]at hv
   |some b=>simp only[hx,hy,uA]at hv;simp[hv]
 |unOp op z x=>
  simp only[bD,Option.bind_eq_some_iff,oy]at hv;obtain⟨y,h1,h2⟩:=hv;simp only[aL,h1];obtain⟨hb,h2⟩:=ca h2;simp[hb,h2]
 |convert s d x=>
  simp only[bD,Option.bind_eq_some_iff,pR]at hv;obtain⟨y,h1,h2⟩:=hv;simp only[aL,h1];cases hb:plain y with
  |true=>rw[hb]at h2;simp only[cond_true]at h2⊢;simp[h2]
  |false=>rw[hb]at h2;simp only[cond_false]at h2⊢;simp[h2]
 |makeInterface ty x=>
  simp only[bD,Option.bind_eq_some_iff,wz]at hv;obtain⟨y,h1,h2⟩:=hv;simp only[aL,h1];cases hu:e.under ty with
  |none=>simp[hu]at h2
  |some d=>
   simp only[hu]at h2;cases d<;>simp_all
 |makeFunc fn first cap=>
  cases fn with
  |func f=>
   simp only[bD,wA]at hv;simp only[aL]
   split at hv
   . rename_i h1 h2;cases hv;simp[h1,h2]
   . cases hv
  |_=>simp[bD]at hv
 |slice ty x lo hi mx=>
  have e0:aL e h t (.slice ty x lo hi mx)=match au e t x,iP e t lo,iP e t hi,iP e t mx with
   |some x,some lo,some hi,some mx=>(j8 e h ty x lo hi mx).map λv=>.val v h
   |_,_,_,_=>none:=by cases lo<;>cases hi<;>cases mx<;>rfl
  rw[e0];simp only[bD,uC]at hv
  split at hv
  . rename_i h1 h2 h3 h4;simp only[h1,h2,h3,h4,hv];rfl
  . cases hv
 |fieldAddr s x f=>
  simp only[bD,Option.bind_eq_some_iff,sI]at hv;obtain⟨y,h1,h2⟩:=hv;simp only[aL,h1,Option.bind_some]
  split at h2
  . cases h2
  . rename_i a ha;simp only[Option.map_eq_some_iff,Env.off]at h2;obtain⟨o,h3,rfl⟩:=h2;simp only[ha]
    split at h3
    . rename_i fields hu;simp only[hu]
      split at h3
      . rename_i off size hp;obtain⟨hb,h3⟩:=ca h3;cases h3;simp[hp,hb]
      . cases h3
    . cases h3
 |field ty x f=>
  simp only[bD,Option.bind_eq_some_iff,uB]at hv;obtain⟨y,h1,h2⟩:=hv;simp only[aL,h1]
  split at h2
  . rename_i cs fields hu;simp only[hu]
    split at h2
    . cases h2
    . rename_i fd hf;simp[hf,h2]
  . cases h2
 |indexAddr ty x ix=>
  simp only[bD]at hv;simp only[aL];cases hx:au e t x with
  |none=>simp[hx,gH]at hv
  |some a=>
   cases hy:au e t ix with
   |none=>simp[hx,hy,gH]at hv
   |some b=>
    simp only[hx,hy,uA,pS]at hv;simp only[Option.bind_some]
    split at hv
    . rename_i a i len elem h1 h2;simp only[h1,h2]
      split at hv
      . cases hv
      . rename_i s hs;obtain⟨hb,hv⟩:=ca hv;cases hv;simp only[hs];rw[hb];rfl
    . rename_i a len cp i elem h1 h2;simp only[h1,h2]
      split at hv
      . cases hv
      . rename_i s hs;obtain⟨hb,hv⟩:=ca hv;cases hv;simp only[hs];rw[hb];rfl
    . cases hv
 |index ty x ix=>
  simp only[bD]at hv;simp only[aL];cases hx:au e t x with
  |none=>simp[hx,gH]at hv
  |some a=>
   cases hy:au e t ix with
   |none=>simp[hx,hy,gH]at hv
   |some b=>
    simp only[hx,hy,uA,pT]at hv
    split at hv
    . rename_i cs k i len elem h2;simp only[h2]
      split at hv
      . cases hv
      . rename_i s hs;obtain⟨hb,hv⟩:=ca hv;simp only[hs];rw[hb];simp[hv]
    . rename_i s k i h2;simp only[h2,hv];rfl
    . cases hv
 |lookup ty m k ok=>
  simp only[bD]at hv;simp only[aL];cases hx:au e t m with
  |none=>simp[hx,gH]at hv
  |some a=>
   cases hy:au e t k with
   |none=>simp[hx,hy,gH]at hv
   |some b=>simp only[hx,hy,uA,oz]at hv;simp[hv]
 |extract x i=>
  simp only[bD,Option.bind_eq_some_iff,sK]at hv;obtain⟨y,h1,h2⟩:=hv;simp only[aL,h1]
  split at h2
  . simp[h2]
  . cases h2
 |call c=>
  simp only[bD]at hv;simp only[aL,mw]
  split at hv
  . rename_i hc
    split at hv
    . rename_i x hx;unfold wB at hv;simp only[hx,hc]
      split at hv
      . cases hv
      . rename_i ty ht;simp[ht,hv]
    . cases hv
  . rename_i hc
    split at hv
    . rename_i x hx;unfold AZ at hv;simp only[hx,hc]
      split at hv
      . cases hv
      . rename_i ty ht;simp[ht,hv]
    . cases hv
  . rename_i hc;simp only[Option.bind_eq_some_iff,qO]at hv;obtain⟨l,h1,h2⟩:=hv;obtain⟨hb,h2⟩:=ca h2;simp only[h1,hc,hb,h2,cond_true];rfl
  . rename_i hc;simp only[Option.bind_eq_some_iff,sM]at hv;obtain⟨l,h1,h2⟩:=hv;obtain⟨hb,h2⟩:=ca h2;simp only[h1,hc,hb,h2,cond_true];rfl
  . cases hv
 |_=>simp[bD]at hv
end Go.aw
end

/- SpacingSuffixes: parts of its proof (AbsH AbsI). -/
import Derived.CallsIn
import Derived.Test.YtaheljlbchkpcaaGreatDoorK04
set_option linter.unusedVariables false
set_option linter.unusedSimpArgs false
noncomputable section
namespace Go.aw
variable {e:Env}
theorem EH{ρ:ay}{d:TypeDesc}{a a':Value}(ha:aK ρ a a'):fV d a'=fV d a:=by
 cases ha<;>cases d<;>rfl
def Mx(v:Value):Prop:=match v with
 |.pointer _|.slice _ _ _|.map _|.nilFunc|.func _ _ _|.nilIface|.iface _ _=>True
 |_=>False
theorem EJ{d:TypeDesc}{a:Value}{b:Bool}(h:fV d a=some b):Mx a:=by
 cases d<;>simp only[fV]at h<;>first|cases h|(cases a<;>first|trivial|cases h)
theorem My{P:Program}{t:TypeId}{d:TypeDesc}(hu:P.underlying t=some d){a b:Value}{q:Bool}(h1:fV d a=some q)(h2:fV d b=some !q)(w:World)(n:Nat):
 (Op.equalIn (n+1) t a b).run P w=.ok false w:=by
 have hr:=run_underlying (w:=w) hu;cases d with
 |pointer el=>
  cases a with
  |pointer a=>
   cases b with
   |pointer b=>cases a<;>cases b<;>cases q<;>simp[fV]at h1 h2<;>simp only[Op.equalIn,Sem.run_bind,hr,Result.andThen_ok,Sem.run_pure,Option.isNone_some]
   |_=>simp[fV]at h2
  |_=>simp[fV]at h1
 |slice el=>
  cases a with
  |slice a l k=>
   cases b with
   |slice b m j=>cases a<;>cases b<;>cases q<;>simp[fV]at h1 h2<;>simp only[Op.equalIn,Sem.run_bind,hr,Result.andThen_ok,Sem.run_pure,Option.isNone_some]
   |_=>simp[fV]at h2
  |_=>simp[fV]at h1
 |map k el=>
  cases a with
  |map a=>
   cases b with
   |map b=>cases a<;>cases b<;>cases q<;>simp[fV]at h1 h2<;>simp only[Op.equalIn,Sem.run_bind,hr,Result.andThen_ok,Sem.run_pure,Option.isNone_some]
   |_=>simp[fV]at h2
  |_=>simp[fV]at h1
 |func ps rs v=>
  cases a<;>simp only[fV]at h1<;>first|(cases h1;done)|skip
  all_goals cases b<;>simp only[fV]at h2<;>first|(cases h2;done)|skip
  all_goals cases q<;>first|(cases h1;done)|(cases h2;done)|skip
  all_goals simp only[Op.equalIn,Sem.run_bind,hr,Result.andThen_ok,Sem.run_pure]
 |interface ms=>
  cases a<;>simp only[fV]at h1<;>first|(cases h1;done)|skip
  all_goals cases b<;>simp only[fV]at h2<;>first|(cases h2;done)|skip
  all_goals cases q<;>first|(cases h1;done)|(cases h2;done)|skip
  all_goals simp only[Op.equalIn,Sem.run_bind,hr,Result.andThen_ok,Sem.run_pure]
 |_=>cases h1
theorem EK{P:Program}{t:TypeId}{d:TypeDesc}(hu:P.underlying t=some d){a b:Value}(h:vX d a b=true)(w:World)(x y:Operand)(op:BinOp)(av:op=.eql\/op=.neq):
 (do eqGuard op t x y a b;binOp op t a b:Sem Value).run P w=.ok (.bool (op==.neq)) w:=by
 obtain⟨q,h1,h2⟩:∃q,fV d a=some q/\fV d b=some !q:=by
  unfold vX at h
  split at h
  . rename_i g1 g2;exact⟨true,g1,g2⟩
  . rename_i g1 g2;exact⟨false,g1,g2⟩
  . cases h
 have heq:(Op.equal t a b).run P w=.ok false w:=My hu h1 h2 w 9999;have na:=EJ h1;have nb:=EJ h2;have hg:(eqGuard op t x y a b).run P w=.ok () w:=by
  rcases av with rfl|rfl
  all_goals
   cases a<;>first|exact na.elim|skip
   all_goals cases b<;>first|exact nb.elim|skip
   all_goals first|rfl|skip
   all_goals
    exfalso;cases d<;>simp only[fV]at h1 h2<;>first|(cases h1;done)|(cases h1;cases h2)
 have hb:(binOp op t a b).run P w=.ok (.bool (op==.neq)) w:=by
  rcases av with rfl|rfl
  all_goals
   cases a<;>first|exact na.elim|skip
   all_goals cases b<;>first|exact nb.elim|skip
   all_goals
    simp only[binOp,Sem.run_bind,heq,Result.andThen_ok,Sem.run_pure];rfl
 simp only[Sem.run_bind,hg,Result.andThen_ok,hb]
theorem Mz(P:Program)(w:World)(op:BinOp)(t:TypeId)(x y:Operand)(k j:IntKind)(m n:Int):(eqGuard op t x y (.int k m) (.int j n)).run P w=.ok () w:=by
 cases op<;>rfl
theorem MA{P:Program}{op:BinOp}{k:IntKind}{m n:Int}{r:Value}(h:lr op k m n=some r)(t:TypeId)(w:World)(ρ:ay):
 (binOp op t (.int k m) (.int k n)).run P w=.ok r w/\aK ρ r r:=by
 unfold lr at h;cases op<;>cases h
 all_goals refine⟨?_,by first|exact .int _ _|exact .bool _⟩
 all_goals simp only[binOp,ne_eq,not_true_eq_false,if_false,Op.intArith,Op.intCmp,Sem.run_pure]
 all_goals first|rfl|(congr 2;done)|(congr 2;simp only[bne,beq_eq_decide])
theorem MB(he:e.Ok){ρ:ay}(w:World){op:BinOp}{t:TypeId}{x y:Operand}{a a' b b' r:Value}(ha:aK ρ a a')(hb:aK ρ b b')(hr:cS e op t x y a b=some r):
 ∃r',(do eqGuard op t x y a' b';binOp op t a' b':Sem Value).run e.P w=.ok r' w/\aK ρ r r':=by
 unfold cS at hr
 split at hr
 . rename_i v hv;cases hr
   split at hv
   . rename_i k n k' m;obtain⟨hk,aE⟩:=ca hv;rw[decide_eq_true_eq]at hk;subst hk;have:=ha.nf;subst this;have:=hb.nf;subst this;obtain⟨g1,g2⟩:=MA (P:=e.P) aE t w ρ;exact⟨r,by simp only[Sem.run_bind,Mz,Result.andThen_ok,g1],g2⟩
   . cases hv
 . cases hp:plain a&&plain b with
   |true=>
    simp only[hp,cond_true]at hr;rw[Bool.and_eq_true]at hp;have:=qJ hp.1 ha;subst this;have:=qJ hp.2 hb;subst this;exact⟨r,sC hr w⟩
   |false=>
    simp only[hp,cond_false]at hr;cases hu:e.under t with
    |none=>simp[hu]at hr
    |some d=>
     simp only[hu]at hr;obtain⟨hn,hr⟩:=ca hr;have az:vX d a' b'=true:=by
      unfold vX at hn⊢;rw[EH ha,EH hb];exact hn
     cases op<;>simp only at hr<;>first|(cases hr;done)|skip
     . cases hr;exact⟨_,EK (he.under t d hu) az w x y .eql (.inl rfl),.bool _⟩
     . cases hr;exact⟨_,EK (he.under t d hu) az w x y .neq (.inr rfl),.bool _⟩
theorem sD{P:Program}{w:World}{r:Nat}{es:Array MapEntry}{c:Nat}(h:w.heap[r]? =some (.map es c)):(getObj r).run P w=.ok (.map es c) w:=by simp only[getObj,Sem.run,h]
theorem yd{P:Program}{w:World}{r:Nat}{o:Obj}(p:Obj)(h:w.heap[r]? =some p)(hp:∀c t f,p≠.cells c t f):(setObj r o).run P w=.ok () (World.gD w r o):=by
 unfold setObj;simp only[Sem.run,h];cases p with
 |cells c t f=>exact absurd rfl (hp c t f)
 |_=>rfl
theorem findNow_spec{kd:TypeDesc}{k:Value}(P:Program)(kt:TypeId)(ρ:ay):∀{es ab:List MapEntry} {i:Nat} {r:Option (Nat×Value)},aP (eU ρ) es ab->gB P kt k es i=some r->
 (∀x,kI P kt k x≠none->Instr.sameNow kd k x=kI P kt k x)->
 ∃r',Instr.findNow kd k ab i=some r'/\r'.map (·.1)=r.map (·.1)/\∀j v,r=some (j,v)->∃v',r'=some (j,v')/\aK ρ v v'
 |[],_,i,r,.nil,h,_=>by
  simp only[gB,Option.some.injEq]at h;subst h;exact⟨none,rfl,rfl,λj v h=>by cases h⟩
 |x::es,_,i,r,.cons (b:=y) hx ht,h,hk=>by
  simp only[gB]at h;cases hq:kI P kt k x.key with
  |none=>simp[hq]at h
  |some q=>
   have hn:Instr.sameNow kd k y.key=some q:=by
    rw[hx.key,hk x.key (by rw[hq];simp),hq]
   cases q with
   |true=>
    simp only[hq,Option.some.injEq]at h;subst h;refine⟨some (i,y.val),by simp only[Instr.findNow,hn],rfl,λj v h=> ?_⟩;cases h;exact⟨y.val,rfl,hx.val⟩
   |false=>
    simp only[hq]at h;obtain⟨r',g1,g2,g3⟩:=findNow_spec P kt ρ ht h hk;exact⟨r',by simp only[Instr.findNow,hn,g1],g2,g3⟩
theorem EL{P:Program}{kt:TypeId}{cs:Array Value}(ρ:ay)(w:World):∀{es ab:List MapEntry} {i:Nat} {r:Option (Nat×Value)},aP (eU ρ) es ab->gB P kt (.agg cs) es i=some r->
 ∃r',(Instr.findAsking kt (.agg cs) ab i).run P w=.ok r' w/\r'.map (·.1)=r.map (·.1)/\∀j v,r=some (j,v)->∃v',r'=some (j,v')/\aK ρ v v'
 |[],_,i,r,.nil,h=>by
  simp only[gB,Option.some.injEq]at h;subst h;exact⟨none,rfl,rfl,λj v h=>by cases h⟩
 |x::es,_,i,r,.cons (b:=y) hx ht,h=>by
  simp only[gB]at h;cases hq:kI P kt (.agg cs) x.key with
  |none=>simp[hq]at h
  |some q=>
   have hn:(Op.equal kt (.agg cs) y.key).run P w=.ok q w:=by
    rw[hx.key];exact wb P _ _ (by simpa only[kI]using hq) w
   cases q with
   |true=>
    simp only[hq,Option.some.injEq]at h;subst h;refine⟨some (i,y.val),by simp only[Instr.findAsking,Sem.run_bind,hn,Result.andThen_ok,if_true,Sem.run_pure],rfl,λj v h=> ?_⟩;cases h;exact⟨y.val,rfl,hx.val⟩
   |false=>
    simp only[hq]at h;obtain⟨r',g1,g2,g3⟩:=EL ρ w ht h;exact⟨r',by simp only[Instr.findAsking,Sem.run_bind,hn,Result.andThen_ok,Bool.false_eq_true,if_false,g1],g2,g3⟩
theorem EM(he:e.Ok){ρ:ay}(w:World){kt:TypeId}{kd:TypeDesc}(hu:e.under kt=some kd){k:Value}(hk:oe kd k=true){es ab:List MapEntry}{r:Option (Nat×Value)}(h2:aP (eU ρ) es ab)
 (hr:gB e.P kt k es 0=some r):∃r',(Instr.findKey kt k ab).run e.P w=.ok r' w/\r'.map (·.1)=r.map (·.1)/\∀j v,r=some (j,v)->∃v',r'=some (j,v')/\aK ρ v v':=by
 have now:(∀x,kI e.P kt k x≠none->Instr.sameNow kd k x=kI e.P kt k x)->∃r',(Instr.findKey kt k ab).run e.P w=.ok r' w/\r'.map (·.1)=r.map (·.1)/\∀j v,r=some (j,v)->∃v',r'=some (j,v')/\aK ρ v v':=λhs=>by
  obtain⟨r',g1,g2,g3⟩:=findNow_spec (kd:=kd) e.P kt ρ h2 hr hs;exact⟨r',by simp only[Instr.findKey,Sem.run_bind,he.dA hu,Result.andThen_ok,g1,Sem.run_pure],g2,g3⟩
 have ask:∀cs,k=.agg cs->(∀x,Instr.sameNow kd (.agg cs) x=none)->∃r',(Instr.findKey kt k ab).run e.P w=.ok r' w/\r'.map (·.1)=r.map (·.1)/\∀j v,r=some (j,v)->∃v',r'=some (j,v')/\aK ρ v v':=λcs aF hs=>by
  subst aF;cases h2 with
  |nil=>
   simp only[gB,Option.some.injEq]at hr;subst hr;exact⟨none,by simp only[Instr.findKey,Sem.run_bind,he.dA hu,Result.andThen_ok,Instr.findNow,Sem.run_pure],rfl,λj v h=>by cases h⟩
  | @cons x y xs ys hx ht=>
   obtain⟨r',g1,g2,g3⟩:=EL ρ w (.cons hx ht) hr;refine⟨r', ?_,g2,g3⟩;simp only[Instr.findKey,Sem.run_bind,he.dA hu,Result.andThen_ok,Instr.findNow,hs,g1]
 cases k with
 |int j a=>
  cases kd<;>first|(cases hk;done)|skip
  refine now λx hx=> ?_;cases x with
  |int j' b=>
   simp only[kI,Instr.sameNow];by_cases hj:j=j'<;>simp[hj]
  |_=>exact absurd rfl hx
 |string a=>
  cases kd<;>first|(cases hk;done)|skip
  refine now λx hx=> ?_;cases x with
  |string b=>rfl
  |_=>exact absurd rfl hx
 |bool a=>
  cases kd<;>first|(cases hk;done)|skip
  refine now λx hx=> ?_;cases x with
  |bool b=>rfl
  |_=>exact absurd rfl hx
 |agg cs=>
  cases kd<;>first|(cases hk;done)|skip
  . exact ask cs rfl λx=>rfl
  . exact ask cs rfl λx=>rfl
 |_=>cases kd<;>cases hk
theorem aK.map_some{ρ:ay}{i:Nat}{v:Value}(h:aK ρ (.map (some i)) v):∃pl,ρ i=some pl/\v=.map (some pl.aW):=by cases h with|map h=>exact⟨_,h,rfl⟩
theorem aK.map_none{ρ:ay}{v:Value}(h:aK ρ (.map none) v):v=.map none:=by cases h;rfl
theorem EN{ρ:ay}{es:List MapEntry}{ab:Array MapEntry}(h:aP (eU ρ) es ab.toList):ab.isEmpty=es.isEmpty:=by
 have:=h.length;cases es with
 |nil=>simp at this⊢;exact Array.eq_empty_of_size_eq_zero this.symm
 |cons x xs=>simp at this⊢;intro h0;rw[h0]at this;simp at this
theorem MC(he:e.Ok){ρ:ay}{h:aa}{w:World}(x:bm ρ h w){t:TypeId}{m m' k k' r:Value}{ok:Bool}(hm:aK ρ m m')(hk:aK ρ k k')(hr:qC e h t m k ok=some r):
 ∃r',(Instr.lookup t m' k' ok).run e.P w=.ok r' w/\aK ρ r r':=by
 unfold qC at hr;cases hu:e.under t with
 |none=>simp[hu]at hr
 |some d=>
 cases d with
 |map kt et=>
  simp only[hu]at hr;have aI:∀es,(match m with|.map none=>some []|.map (some r)=>(match h.get r with|some (.map es _)=>some es|_=>none)|_=>none:Option (List MapEntry))=some es->
   ∃ab:Array MapEntry,aP (eU ρ) es ab.toList/\((m'=.map none/\ab=#[])\/∃r c,m'=.map (some r)/\w.heap[r]? =some (.map ab c)):=by
   intro es h1;cases m with
   |map q=>
    cases q with
    |none=>
     have:=hm.map_none;subst this;cases h1;exact⟨#[],.nil,.inl ⟨rfl,rfl⟩⟩
    |some i=>
     obtain⟨pl,hp,rfl⟩:=hm.map_some;simp only at h1;cases ho:h.get i with
     |none=>simp[ho]at h1
     |some o=>
      cases o with
      |map aQ clock=>
       simp only[ho,Option.some.injEq]at h1;subst h1;obtain⟨pl',g1,g2,ab,g3,g4⟩:=x.obj _ _ ho;rw[hp]at g1;cases g1;exact⟨ab,g4,.inr ⟨_,_,rfl,g3⟩⟩
      |_=>simp[ho]at h1
   |_=>cases h1
  split at hr
  . cases hr
  . rename_i es ai;obtain⟨ab,g1,g2⟩:=aI es ai;cases ae:e.under kt with
    |none=>simp[ae]at hr
    |some kd=>
     simp only[ae]at hr;obtain⟨hb,hr⟩:=ca hr;rw[Bool.and_eq_true]at hb;have:=qJ hb.1 hk;subst this;cases hc:bY e.P (Instr.checkKey es.isEmpty 10000 kt k')with
     |none=>simp[hc]at hr
     |some u=>
      simp only[hc]at hr;have ad:=wb e.P _ _ hc w;rw[<-EN g1]at ad;cases hf:gB e.P kt k' es 0 with
      |none=>simp[hf]at hr
      |some q=>
       simp only[hf]at hr;obtain⟨q',f1,f2,f3⟩:=EM he w ae hb.2 g1 hf;cases q with
       |some jv=>
        obtain⟨j,v⟩:=jv;obtain⟨v',f4,f5⟩:=f3 j v rfl;subst f4;simp only[Option.some.injEq]at hr;subst hr;refine⟨if ok then .tuple #[v',.bool true]else v', ?_, ?_⟩
        . rcases g2 with⟨rfl,rfl⟩|⟨r,c,rfl,ao⟩
          . simp only[Instr.lookup,Sem.run_bind,he.dA hu,Result.andThen_ok,ad,f1,Sem.run_pure]
          . simp only[Instr.lookup,Sem.run_bind,he.dA hu,Result.andThen_ok,sD ao,ad,f1,Sem.run_pure]
        . cases ok with
          |true=>exact aK.kL.2 (.cons f5 (.cons (.bool _) .nil))
          |false=>exact f5
       |none=>
        have:q'=none:=by cases q'<;>simp at f2⊢
        subst this;simp only at hr;cases hz:e.zero et with
        |none=>simp[hz]at hr
        |some z=>
         simp only[hz]at hr;obtain⟨aB,hr⟩:=ca hr;cases hr;refine⟨if ok then .tuple #[z,.bool false]else z, ?_, ?_⟩
         . rcases g2 with⟨rfl,rfl⟩|⟨r,c,rfl,ao⟩
           . simp only[Instr.lookup,Sem.run_bind,he.dA hu,Result.andThen_ok,ad,f1,he.pF hz,Sem.run_pure]
           . simp only[Instr.lookup,Sem.run_bind,he.dA hu,Result.andThen_ok,sD ao,ad,f1,he.pF hz,Sem.run_pure]
         . cases ok with
           |true=>exact aK.kL.2 (.cons (oi aB) (.cons (.bool _) .nil))
           |false=>exact oi aB
 |_=>simp[hu]at hr
theorem aP.modify{ρ:ay}{es ab:List MapEntry}(h:aP (eU ρ) es ab)(i:Nat)(f g:MapEntry->MapEntry)(aJ:∀a b,eU ρ a b->eU ρ (f a) (g b)):aP (eU ρ) (es.modify i f) (ab.modify i g):=by
 induction h generalizing i with
 |nil=>simpa using aP.nil
 |cons h t ih=>
  cases i with
  |zero=>simpa using aP.cons (aJ _ _ h) t
  |succ i=>simpa using aP.cons h (ih i)
theorem EO(he:e.Ok){b:Nat}{ρ:ay}{h h':aa}{w:World}(x:bm ρ h w){t:TypeId}{m m' k k' v v':Value}(hm:aK ρ m m')(hk:aK ρ k k')(hv:aK ρ v v')(hr:se e h t m k v=some h'):
 ∃w',(Instr.mapUpdate t m' k' v').run e.P w=.ok () w'/\bm ρ h' w'/\Fr b ρ h w ρ h' w':=by
 unfold se at hr;cases hu:e.under t with
 |none=>simp[hu]at hr
 |some d=>
 cases d with
 |map kt et=>
  cases m with
  |map q=>
   cases q with
   |none=>simp[hu]at hr
   |some i=>
    obtain⟨pl,hp,rfl⟩:=hm.map_some;simp only[hu]at hr;cases ho:h.get i with
    |none=>simp[ho]at hr
    |some o=>
     cases o with
     |map es clock=>
      simp only[ho]at hr;obtain⟨pl',g1,g2,ab,g3,g4⟩:=x.obj _ _ ho;rw[hp]at g1;cases g1;cases ae:e.under kt with
      |none=>simp[ae]at hr
      |some kd=>
       simp only[ae]at hr;obtain⟨hb,hr⟩:=ca hr;rw[Bool.and_eq_true]at hb;have:=qJ hb.1 hk;subst this;cases hc:bY e.P (Instr.checkKey false 10000 kt k')with
       |none=>simp[hc]at hr
       |some u=>
        simp only[hc]at hr;have ad:=wb e.P _ _ hc w;cases hf:gB e.P kt k' es 0 with
        |none=>simp[hf]at hr
        |some q=>
         simp only[hf]at hr;obtain⟨q',f1,f2,f3⟩:=EM he w ae hb.2 g4 hf;have af:∀o,(setObj pl.aW o).run e.P w=.ok () (World.gD w pl.aW o):=λo=>yd _ g3 (λ_ _ _ h=>by cases h);have aD:pl.aW<w.heap.size:=(Array.getElem?_eq_some_iff.1 g3).1;cases q with
         |some jv=>
          obtain⟨j,u⟩:=jv;obtain⟨u',f4,f5⟩:=f3 j u rfl;subst f4;simp only at hr;obtain⟨aL,hr⟩:=ca hr;cases hr;have au:((ab[j]?).map (·.key)).getD k'=((es[j]?).map (·.key)).getD k':=by
           cases hj:es[j]? with
           |none=>
            have:ab[j]? =none:=by
             rw[List.getElem?_eq_none_iff]at hj;have:=g4.length;simp at this⊢;omega
            rw[this]
           |some a=>
            obtain⟨c,aM,aN⟩:=g4.get j a hj;have:ab[j]? =some c:=by simpa using aM
            rw[this];simp[aN.key]
          refine⟨World.gD w pl.aW (.map (ab.modify j λx=>{x with key:=k',val:=v'}) clock), ?_,sA x ho rfl hp rfl ⟨g2,_,pE _ _ _ aD, ?_⟩ rfl⟩
          . simp only[Instr.mapUpdate,Sem.run_bind,he.dA hu,Result.andThen_ok,sD g3,ad,f1,Instr.keyThatStays,au,aL,if_true,Sem.run_pure,af]
          . rw[Array.toList_modify];exact g4.modify j _ _ λa c aO=>⟨rfl,hb.1,hv,aO.born⟩
         |none=>
          have:q'=none:=by cases q'<;>simp at f2⊢
          subst this;simp only[Option.some.injEq]at hr;subst hr;refine⟨World.gD w pl.aW (.map (ab.push {key:=k',val:=v',born:=clock}) (clock+1)), ?_,sA x ho rfl hp rfl ⟨g2,_,pE _ _ _ aD, ?_⟩ rfl⟩
          . simp only[Instr.mapUpdate,Sem.run_bind,he.dA hu,Result.andThen_ok,sD g3,ad,f1,af]
          . rw[Array.toList_push];exact g4.append (.cons ⟨rfl,hb.1,hv,rfl⟩ .nil)
     |_=>simp[ho]at hr
  |_=>simp[hu]at hr
 |_=>simp[hu]at hr
end Go.aw
end
noncomputable section
namespace Go.aw
variable {e:Env}
theorem aP.filter{ρ:ay}{es ab:List MapEntry}(h:aP (eU ρ) es ab)(p q:MapEntry->Bool)(aE:∀a b,eU ρ a b->q b=p a):aP (eU ρ) (es.filter p) (ab.filter q):=by
 induction h with
 |nil=>exact .nil
 |cons h t ih=>
  simp only[List.filter_cons,aE _ _ h]
  split
  . exact .cons h ih
  . exact ih
theorem aP.all{ρ:ay}{es ab:List MapEntry}(h:aP (eU ρ) es ab)(p q:MapEntry->Bool)(aE:∀a b,eU ρ a b->q b=p a):ab.all q=es.all p:=by
 induction h with
 |nil=>rfl
 |cons h t ih=>simp only[List.all_cons,aE _ _ h,ih]
theorem aP.find{ρ:ay}{es ab:List MapEntry}(h:aP (eU ρ) es ab)(p q:MapEntry->Bool)(aE:∀a b,eU ρ a b->q b=p a){x:MapEntry}(hx:es.find? p=some x):∃y,ab.find? q=some y/\eU ρ x y:=by
 induction h with
 |nil=>cases hx
 |cons h t ih=>
  simp only[List.find?_cons,aE _ _ h]at hx⊢
  split at hx
  . cases hx;exact⟨_,rfl,h⟩
  . exact ih hx
theorem wi{P:Program}{w:World}{r:Nat}{o:Obj}(h:w.heap[r]? =some o)(hp:∀c t f,o≠.cells c t f):(getObj r).run P w=.ok o w:=by
 cases o with
 |cells c t f=>exact absurd rfl (hp c t f)
 |_=>simp only[getObj,Sem.run,h]
theorem EP(P:Program)(w:World):(choose (.mapNext 1)).run P w=.ok 0 w:=by
 simp only[run_choose];rfl
theorem MD{b:Nat}(P:Program){ρ:ay}{h h':aa}{w:World}(x:bm ρ h w){it aF r:Value}{s:Bool}(hi:aK ρ it aF)(hr:qF h it s=some (r,h'))(ty:TypeId):
 gY b P ρ h w (Instr.next aF s ty) r h':=by
 unfold qF at hr
 split at hr
 . rename_i i;obtain⟨pl,hp,rfl⟩:=hi.pI
   split at hr
   ·
    rename_i str pos ho;obtain⟨pl',g1,g2,g3⟩:=x.obj _ _ ho;rw[hp]at g1;cases g1;have av:=wi (P:=P) g3 (λ_ _ _ h=>by cases h);have aM:pl.aW<w.heap.size:=(Array.getElem?_eq_some_iff.1 g3).1;have hz:pl.off+0=0:=by rw[g2]
    cases ae:Nat.blt pos str.size with
    |true=>
     have af:pos<str.size:=Nat.le_of_ble_eq_true ae;simp only[ae,cond_true,Option.some.injEq,Prod.mk.injEq]at hr;obtain⟨rfl,rfl⟩:=hr;obtain⟨k1,k2⟩:=sA (b:=b) (o:=.stringIter str (pos+(Utf8.decode str pos).2)) (ao':=.e8 str (pos+(Utf8.decode str pos).2)) x ho rfl hp rfl ⟨g2,pE _ _ _ aM⟩ rfl;refine⟨.tuple #[.bool true,.int .i64 pos,.int .i32 (Utf8.decode str pos).1],_,ρ, ?_,aK.kL.2 (.cons (.bool _) (.cons (.int _ _) (.cons (.int _ _) .nil))),k1,k2⟩;simp only[Instr.next,hz,Sem.run_bind,av,Result.andThen_ok,af,if_true,yd _ g3 (λ_ _ _ h=>by cases h),Sem.run_pure,goInt]
    |false=>
     have af:¬pos<str.size:=λhc=>by rw[show Nat.blt pos str.size=true from Nat.ble_eq_true_of_le hc]at ae;cases ae
     simp only[ae,cond_false,Option.some.injEq,Prod.mk.injEq]at hr;obtain⟨rfl,rfl⟩:=hr;refine gY.same x (v':=.tuple #[.bool false]) ?_ (aK.kL.2 (.cons (.bool _) .nil));simp only[Instr.next,hz,Sem.run_bind,av,Result.andThen_ok,af,if_false,Sem.run_pure]
   ·
    rename_i since seen last ho;cases hr;obtain⟨pl',g1,g2,m',g3,g4⟩:=x.obj _ _ ho;rw[hp]at g1;cases g1;have hm:m'=none:=by have:=g4.map_none;cases this;rfl
    subst hm;have av:=wi (P:=P) g3 (λ_ _ _ h=>by cases h);have hz:pl.off+0=0:=by rw[g2]
    refine gY.same x (v':=.tuple #[.bool false]) ?_ (aK.kL.2 (.cons (.bool _) .nil));simp only[Instr.next,hz,Sem.run_bind,av,Result.andThen_ok,Sem.run_pure]
   ·
    rename_i m since seen last ho;obtain⟨pl',g1,g2,m',g3,g4⟩:=x.obj _ _ ho;rw[hp]at g1;cases g1;obtain⟨aN,aI,hm⟩:=g4.map_some;cases hm;have av:=wi (P:=P) g3 (λ_ _ _ h=>by cases h);have hz:pl.off+0=0:=by rw[g2]
    have aM:pl.aW<w.heap.size:=(Array.getElem?_eq_some_iff.1 g3).1;cases az:h.get m with
    |none=>simp[az]at hr
    |some o=>
     cases o with
     |map es clock=>
      simp only[az]at hr;obtain⟨pl',q1,q2,ab,q3,q4⟩:=x.obj _ _ az;rw[aI]at q1;cases q1;have aT:=sD (P:=P) q3;have ai:(!seen.toArray.isEmpty&& !ab.isEmpty&&ab.all λx=>decide (x.born>=last))=(!seen.isEmpty&& !es.isEmpty&&es.all λx=>Nat.ble last x.born):=by
       rw[EN q4,<-Array.all_toList];have:ab.toList.all (λx=>decide (x.born>=last))=es.all λx=>Nat.ble last x.born:=aP.all q4 _ _ λa c aB=>by
        rw[aB.born];by_cases hc:last<=a.born
        . rw[Nat.ble_eq_true_of_le hc];simpa using hc
        . have:Nat.ble last a.born=false:=by
           cases aU:Nat.ble last a.born with
           |true=>exact absurd (Nat.le_of_ble_eq_true aU) hc
           |false=>rfl
          rw[this];simpa using hc
       rw[this];simp
      generalize hC:(!seen.isEmpty&& !es.isEmpty&&es.all λx=>Nat.ble last x.born)=C at hr ai;cases C with
      |true=>cases hr
      |false=>
       simp only[cond_false]at hr;have aD:=aP.filter q4 (λx=> !seen.contains x.born) (λx=> !seen.contains x.born) λa c aB=>by simp only[aB.born]
       have hold:=aP.filter aD (λx=>decide (x.born<since)) (λx=>decide (x.born<since)) λa c aB=>by simp only[aB.born]
       have ao:=aP.filter aD (λx=>decide (x.born>=since)) (λx=>decide (x.born>=since)) λa c aB=>by simp only[aB.born]
       have e1:((ab.filter λx=> !seen.toArray.contains x.born).filter λx=>decide (x.born<since)).toList=(ab.toList.filter λx=> !seen.contains x.born).filter λx=>decide (x.born<since):=by
        simp
       have e2:((ab.filter λx=> !seen.toArray.contains x.born).filter λx=>decide (x.born>=since)).toList=(ab.toList.filter λx=> !seen.contains x.born).filter λx=>decide (x.born>=since):=by
        simp
       rw[<-e1]at hold;rw[<-e2]at ao;generalize hO:((ab.filter λx=> !seen.toArray.contains x.born).filter λx=>decide (x.born<since))=O at hold;generalize hN:((ab.filter λx=> !seen.toArray.contains x.born).filter λx=>decide (x.born>=since))=N at ao;generalize aX:((es.filter λx=> !seen.contains x.born).filter λx=>decide (x.born<since))=O1 at hold hr;generalize aY:((es.filter λx=> !seen.contains x.born).filter λx=>decide (x.born>=since))=N1 at ao hr
       split at hr
       . simp only[Option.some.injEq,Prod.mk.injEq]at hr;obtain⟨rfl,rfl⟩:=hr;have aO:O=#[]:=by have:=hold.length;apply Array.eq_empty_of_size_eq_zero;simpa using this.symm
         have aQ:N=#[]:=by have:=ao.length;apply Array.eq_empty_of_size_eq_zero;simpa using this.symm
         subst aO;subst aQ;refine gY.same x (v':=.tuple #[.bool false]) ?_ (aK.kL.2 (.cons (.bool _) .nil));simp only[Instr.next,hz,Sem.run_bind,av,Result.andThen_ok,aT,ai,Bool.false_eq_true,if_false,hO,hN];have au:((if(#[]:Array MapEntry).isEmpty=true then#[none]else#[])++Array.map some (#[]++#[]:Array MapEntry))=#[none]:=by simp
         have h1:(#[none]:Array (Option MapEntry)).size=1:=rfl;have h0:(#[none]:Array (Option MapEntry))[0]? =some none:=rfl;simp only[au,h1,EP,Result.andThen_ok,h0,Sem.run_pure]
       . rename_i y;simp only[Option.some.injEq,Prod.mk.injEq]at hr;obtain⟨rfl,rfl⟩:=hr;obtain⟨y',aO,aJ⟩:∃y',O=#[y']/\eU ρ y y':=by
          cases aR:O.toList with
          |nil=>rw[aR]at hold;cases hold
          |cons y' ys=>
           rw[aR]at hold;cases hold with
           |cons hy ht=>
            cases ht;exact⟨y',by rw[<-Array.toArray_toList (xs:=O),aR],hy⟩
         have aQ:N=#[]:=by have:=ao.length;apply Array.eq_empty_of_size_eq_zero;simpa using this.symm
         subst aO;subst aQ;obtain⟨k1,k2⟩:=sA (b:=b) (o:=.mapIter (some aN.aW) since (seen.toArray.push y'.born) clock) (ao':=.cD (some m) since (seen++[y.born]) clock) x ho rfl hp rfl
          ⟨g2,some aN.aW,by rw[pE _ _ _ aM,aJ.born];simp,.map aI⟩ rfl
         refine⟨.tuple #[.bool true,y'.key,y'.val],_,ρ, ?_,aK.kL.2 (.cons (.bool _) (.cons (by rw[aJ.key];exact oi aJ.plain) (.cons aJ.val .nil))),k1,k2⟩;simp only[Instr.next,hz,Sem.run_bind,av,Result.andThen_ok,aT,ai,Bool.false_eq_true,if_false,hO,hN];have au:((if(#[y']:Array MapEntry).isEmpty=true then#[none]else#[])++Array.map some (#[y']++#[]:Array MapEntry))=#[some y']:=by simp
         have h1:(#[some y']:Array (Option MapEntry)).size=1:=rfl;have h0:(#[some y']:Array (Option MapEntry))[0]? =some (some y'):=rfl;simp only[au,h1,EP,Result.andThen_ok,h0,Sem.run_bind,yd _ g3 (λ_ _ _ h=>by cases h),Sem.run_pure]
       . cases hr
     |_=>simp[az]at hr
   . cases hr
 . cases hr
theorem ME(P:Program){ρ:ay}{h:aa}{w:World}(x:bm ρ h w){it aF r:Value}(hi:aK ρ it aF)(hr:sg h it=some r):
 ∃r',(Instr.entry aF).run P w=.ok r' w/\aK ρ r r':=by
 unfold sg at hr
 split at hr
 . rename_i i;obtain⟨pl,hp,rfl⟩:=hi.pI
   split at hr
   . rename_i m since seen aL ho;obtain⟨pl',g1,g2,m',g3,g4⟩:=x.obj _ _ ho;rw[hp]at g1;cases g1;obtain⟨aN,aI,hm⟩:=g4.map_some;cases hm;have av:=wi (P:=P) g3 (λ_ _ _ h=>by cases h);have hz:pl.off+0=0:=by rw[g2]
     cases hl:seen.getLast? with
     |none=>simp[hl]at hr
     |some ad=>
      cases az:h.get m with
      |none=>simp[hl,az]at hr
      |some o=>
       cases o with
       |map es clock=>
        simp only[hl,az]at hr;obtain⟨pl',q1,q2,ab,q3,q4⟩:=x.obj _ _ az;rw[aI]at q1;cases q1;obtain⟨hc,aS⟩:=ca hr;clear hr;have hc:=Nat.eq_of_beq_eq_true hc;subst hc;cases hf:es.find? λx=>x.born==ad with
        |none=>simp[hf]at aS
        |some y=>
         simp only[hf,Option.some.injEq]at aS;subst aS;obtain⟨y',k1,k2⟩:=aP.find q4 _ (λx=>x.born==ad) (λa c aB=>by simp only[aB.born]) hf;refine⟨.tuple #[y'.key,y'.val], ?_,aK.kL.2 (.cons (by rw[k2.key];exact oi k2.plain) (.cons k2.val .nil))⟩;have hb:seen.toArray.back? =some ad:=by simpa using hl
         have aV:ab.find? (λx=>x.born==ad)=some y':=by rw[<-Array.find?_toList];exact k1
         simp only[Instr.entry,hz,Sem.run_bind,av,Result.andThen_ok,hb,sD q3,bne_self_eq_false,Bool.false_eq_true,if_false,aV,Sem.run_pure]
       |_=>simp[hl,az]at hr
   . cases hr
 . cases hr
end Go.aw
end

/- SpacingIndependent: parts of its proof. -/
import Derived.CallsIn
import Derived.Laws.BytesString
import Derived.Test.YtmhjnafgdhaemaaGreatDoorK04
open Option.some renaming injEq->qe
open Bool renaming and_eq_true->xS,false_eq_true->Er
open Prod.mk renaming injEq->DE
open Nat renaming ble->GP,le_of_ble_eq_true->VK,add_assoc->W9,ble_eq_true_of_le->Xw
open Array renaming eq_empty_of_size_eq_zero->PO,toList_append->PX,getElem?_eq_some_iff->TF,toArray_toList->W2
open Option renaming isNone_some->Qc,map_eq_some_iff->Zj
set_option linter.all false
set_option maxRecDepth 100000
noncomputable section
namespace Go.au
variable {e:Env}
theorem Dk{ρ:aA}{d:TypeDesc}{a a':Value}(ha:aJ ρ a a'):fm d a'=fm d a:=by
 cases ha<;>cases d<;>rfl
def Li(v:Value):Prop:=match v with
 |.pointer _|.slice _ _ _|.map _|.nilFunc|.func _ _ _|.nilIface|.iface _ _=>True
 |_=>False
theorem Dl{d:TypeDesc}{a:Value}{b:Bool}(h:fm d a=some b):Li a:=by
 cases d<;>simp only[fm]at h<;>first|cases h|(cases a<;>first|trivial|cases h)
theorem Lj{P:Program}{t:TypeId}{d:TypeDesc}(hu:P.underlying t=some d){a b:Value}{q:Bool}(h1:fm d a=some q)(h2:fm d b=some !q)(w:World)(n:Nat):
 (Op.equalIn (n+1) t a b).run P w=.ok false w:=by
 have hr:=run_underlying (w:=w) hu;cases d with
 |pointer el=>
  cases a with
  |pointer a=>
   cases b with
   |pointer b=>cases a<;>cases b<;>cases q<;>simp[fm]at h1 h2<;>simp only[Op.equalIn,Sem.run_bind,hr,Result.andThen_ok,Sem.run_pure,Qc]
   |_=>simp[fm]at h2
  |_=>simp[fm]at h1
 |slice el=>
  cases a with
  |slice a l k=>
   cases b with
   |slice b m j=>cases a<;>cases b<;>cases q<;>simp[fm]at h1 h2<;>simp only[Op.equalIn,Sem.run_bind,hr,Result.andThen_ok,Sem.run_pure,Qc]
   |_=>simp[fm]at h2
  |_=>simp[fm]at h1
 |map k el=>
  cases a with
  |map a=>
   cases b with
   |map b=>cases a<;>cases b<;>cases q<;>simp[fm]at h1 h2<;>simp only[Op.equalIn,Sem.run_bind,hr,Result.andThen_ok,Sem.run_pure,Qc]
   |_=>simp[fm]at h2
  |_=>simp[fm]at h1
 |func ps rs v=>
  cases a<;>simp only[fm]at h1<;>first|(cases h1;done)|skip
  all_goals cases b<;>simp only[fm]at h2<;>first|(cases h2;done)|skip
  all_goals cases q<;>first|(cases h1;done)|(cases h2;done)|skip
  all_goals simp only[Op.equalIn,Sem.run_bind,hr,Result.andThen_ok,Sem.run_pure]
 |interface ms=>
  cases a<;>simp only[fm]at h1<;>first|(cases h1;done)|skip
  all_goals cases b<;>simp only[fm]at h2<;>first|(cases h2;done)|skip
  all_goals cases q<;>first|(cases h1;done)|(cases h2;done)|skip
  all_goals simp only[Op.equalIn,Sem.run_bind,hr,Result.andThen_ok,Sem.run_pure]
 |_=>cases h1
theorem Dm{P:Program}{t:TypeId}{d:TypeDesc}(hu:P.underlying t=some d){a b:Value}(h:uc d a b=true)(w:World)(x y:Operand)(op:BinOp)(aw:op=.eql\/op=.neq):
 (do eqGuard op t x y a b;binOp op t a b:Sem Value).run P w=.ok (.bool (op==.neq)) w:=by
 obtain⟨q,h1,h2⟩:∃q,fm d a=some q/\fm d b=some !q:=by
  unfold uc at h
  split at h
  . rename_i g1 g2;exact⟨true,g1,g2⟩
  . rename_i g1 g2;exact⟨false,g1,g2⟩
  . cases h
 have heq:(Op.equal t a b).run P w=.ok false w:=Lj hu h1 h2 w 9999;have na:=Dl h1;have nb:=Dl h2;have hg:(eqGuard op t x y a b).run P w=.ok () w:=by
  rcases aw with rfl|rfl
  all_goals
   cases a<;>first|exact na.elim|skip
   all_goals cases b<;>first|exact nb.elim|skip
   all_goals first|rfl|skip
   all_goals
    exfalso;cases d<;>simp only[fm]at h1 h2<;>first|(cases h1;done)|(cases h1;cases h2)
 have hb:(binOp op t a b).run P w=.ok (.bool (op==.neq)) w:=by
  rcases aw with rfl|rfl
  all_goals
   cases a<;>first|exact na.elim|skip
   all_goals cases b<;>first|exact nb.elim|skip
   all_goals
    simp only[binOp,Sem.run_bind,heq,Result.andThen_ok,Sem.run_pure];rfl
 simp only[Sem.run_bind,hg,Result.andThen_ok,hb]
theorem Lk(P:Program)(w:World)(op:BinOp)(t:TypeId)(x y:Operand)(k j:IntKind)(m n:Int):(eqGuard op t x y (.int k m) (.int j n)).run P w=.ok () w:=by
 cases op<;>rfl
theorem Ll{P:Program}{op:BinOp}{k:IntKind}{m n:Int}{r:Value}(h:kC op k m n=some r)(t:TypeId)(w:World)(ρ:aA):
 (binOp op t (.int k m) (.int k n)).run P w=.ok r w/\aJ ρ r r:=by
 unfold kC at h;cases op<;>cases h
 all_goals refine⟨?_,by first|exact .int _ _|exact .bool _⟩
 all_goals simp only[binOp,ne_eq,not_true_eq_false,if_false,Op.intArith,Op.intCmp,Sem.run_pure]
 all_goals first|rfl|(congr 2;done)|(congr 2;simp only[bne,beq_eq_decide])
theorem Lm(he:e.Ok){ρ:aA}(w:World){op:BinOp}{t:TypeId}{x y:Operand}{a a' b b' r:Value}(ha:aJ ρ a a')(hb:aJ ρ b b')(hr:cD e op t x y a b=some r):
 ∃r',(do eqGuard op t x y a' b';binOp op t a' b':Sem Value).run e.P w=.ok r' w/\aJ ρ r r':=by
 unfold cD at hr
 split at hr
 . rename_i v hv;cases hr
   split at hv
   . rename_i k n k' m;obtain⟨hk,aD⟩:=bU hv;rw[decide_eq_true_eq]at hk;subst hk;have:=ha.mg;subst this;have:=hb.mg;subst this;obtain⟨g1,g2⟩:=Ll (P:=e.P) aD t w ρ;exact⟨r,by simp only[Sem.run_bind,Lk,Result.andThen_ok,g1],g2⟩
   . cases hv
 . cases hp:plain a&&plain b with
   |true=>
    simp only[hp,cond_true]at hr;rw[xS]at hp;have:=pE hp.1 ha;subst this;have:=pE hp.2 hb;subst this;exact⟨r,qP hr w⟩
   |false=>
    simp only[hp,cond_false]at hr;cases hu:e.under t with
    |none=>simp[hu]at hr
    |some d=>
     simp only[hu]at hr;obtain⟨hn,hr⟩:=bU hr;have az:uc d a' b'=true:=by
      unfold uc at hn⊢;rw[Dk ha,Dk hb];exact hn
     cases op<;>simp only at hr<;>first|(cases hr;done)|skip
     . cases hr;exact⟨_,Dm (he.under t d hu) az w x y .eql (.inl rfl),.bool _⟩
     . cases hr;exact⟨_,Dm (he.under t d hu) az w x y .neq (.inr rfl),.bool _⟩
theorem qQ{P:Program}{w:World}{r:Nat}{es:Array MapEntry}{c:Nat}(h:w.heap[r]? =some (.map es c)):(getObj r).run P w=.ok (.map es c) w:=by simp only[getObj,Sem.run,h]
theorem wy{P:Program}{w:World}{r:Nat}{o:Obj}(p:Obj)(h:w.heap[r]? =some p)(hp:∀c t f,p≠.cells c t f):(setObj r o).run P w=.ok () (World.fO w r o):=by
 unfold setObj;simp only[Sem.run,h];cases p with
 |cells c t f=>exact absurd rfl (hp c t f)
 |_=>rfl
theorem findNow_spec{kd:TypeDesc}{k:Value}(P:Program)(kt:TypeId)(ρ:aA):∀{es ab:List MapEntry} {i:Nat} {r:Option (Nat×Value)},aO (ez ρ) es ab->fN P kt k es i=some r->
 (∀x,jX P kt k x≠none->Instr.sameNow kd k x=jX P kt k x)->
 ∃r',Instr.findNow kd k ab i=some r'/\r'.map (·.1)=r.map (·.1)/\∀j v,r=some (j,v)->∃v',r'=some (j,v')/\aJ ρ v v'
 |[],_,i,r,.nil,h,_=>by
  simp only[fN,qe]at h;subst h;exact⟨none,rfl,rfl,λj v h=>by cases h⟩
 |x::es,_,i,r,.cons (b:=y) hx ht,h,hk=>by
  simp only[fN]at h;cases hq:jX P kt k x.key with
  |none=>simp[hq]at h
  |some q=>
   have hn:Instr.sameNow kd k y.key=some q:=by
    rw[hx.key,hk x.key (by rw[hq];simp),hq]
   cases q with
   |true=>
    simp only[hq,qe]at h;subst h;refine⟨some (i,y.val),by simp only[Instr.findNow,hn],rfl,λj v h=> ?_⟩;cases h;exact⟨y.val,rfl,hx.val⟩
   |false=>
    simp only[hq]at h;obtain⟨r',g1,g2,g3⟩:=findNow_spec P kt ρ ht h hk;exact⟨r',by simp only[Instr.findNow,hn,g1],g2,g3⟩
theorem Dn{P:Program}{kt:TypeId}{cs:Array Value}(ρ:aA)(w:World):∀{es ab:List MapEntry} {i:Nat} {r:Option (Nat×Value)},aO (ez ρ) es ab->fN P kt (.agg cs) es i=some r->
 ∃r',(Instr.findAsking kt (.agg cs) ab i).run P w=.ok r' w/\r'.map (·.1)=r.map (·.1)/\∀j v,r=some (j,v)->∃v',r'=some (j,v')/\aJ ρ v v'
 |[],_,i,r,.nil,h=>by
  simp only[fN,qe]at h;subst h;exact⟨none,rfl,rfl,λj v h=>by cases h⟩
 |x::es,_,i,r,.cons (b:=y) hx ht,h=>by
  simp only[fN]at h;cases hq:jX P kt (.agg cs) x.key with
  |none=>simp[hq]at h
  |some q=>
   have hn:(Op.equal kt (.agg cs) y.key).run P w=.ok q w:=by
    rw[hx.key];exact ug P _ _ (by simpa only[jX]using hq) w
   cases q with
   |true=>
    simp only[hq,qe]at h;subst h;refine⟨some (i,y.val),by simp only[Instr.findAsking,Sem.run_bind,hn,Result.andThen_ok,if_true,Sem.run_pure],rfl,λj v h=> ?_⟩;cases h;exact⟨y.val,rfl,hx.val⟩
   |false=>
    simp only[hq]at h;obtain⟨r',g1,g2,g3⟩:=Dn ρ w ht h;exact⟨r',by simp only[Instr.findAsking,Sem.run_bind,hn,Result.andThen_ok,Er,if_false,g1],g2,g3⟩
theorem Dp(he:e.Ok){ρ:aA}(w:World){kt:TypeId}{kd:TypeDesc}(hu:e.under kt=some kd){k:Value}(hk:mX kd k=true){es ab:List MapEntry}{r:Option (Nat×Value)}(h2:aO (ez ρ) es ab)
 (hr:fN e.P kt k es 0=some r):∃r',(Instr.findKey kt k ab).run e.P w=.ok r' w/\r'.map (·.1)=r.map (·.1)/\∀j v,r=some (j,v)->∃v',r'=some (j,v')/\aJ ρ v v':=by
 have now:(∀x,jX e.P kt k x≠none->Instr.sameNow kd k x=jX e.P kt k x)->∃r',(Instr.findKey kt k ab).run e.P w=.ok r' w/\r'.map (·.1)=r.map (·.1)/\∀j v,r=some (j,v)->∃v',r'=some (j,v')/\aJ ρ v v':=λhs=>by
  obtain⟨r',g1,g2,g3⟩:=findNow_spec (kd:=kd) e.P kt ρ h2 hr hs;exact⟨r',by simp only[Instr.findKey,Sem.run_bind,he.c8 hu,Result.andThen_ok,g1,Sem.run_pure],g2,g3⟩
 have ask:∀cs,k=.agg cs->(∀x,Instr.sameNow kd (.agg cs) x=none)->∃r',(Instr.findKey kt k ab).run e.P w=.ok r' w/\r'.map (·.1)=r.map (·.1)/\∀j v,r=some (j,v)->∃v',r'=some (j,v')/\aJ ρ v v':=λcs aE hs=>by
  subst aE;cases h2 with
  |nil=>
   simp only[fN,qe]at hr;subst hr;exact⟨none,by simp only[Instr.findKey,Sem.run_bind,he.c8 hu,Result.andThen_ok,Instr.findNow,Sem.run_pure],rfl,λj v h=>by cases h⟩
  | @cons x y xs ys hx ht=>
   obtain⟨r',g1,g2,g3⟩:=Dn ρ w (.cons hx ht) hr;refine⟨r', ?_,g2,g3⟩;simp only[Instr.findKey,Sem.run_bind,he.c8 hu,Result.andThen_ok,Instr.findNow,hs,g1]
 cases k with
 |int j a=>
  cases kd<;>first|(cases hk;done)|skip
  refine now λx hx=> ?_;cases x with
  |int j' b=>
   simp only[jX,Instr.sameNow];by_cases hj:j=j'<;>simp[hj]
  |_=>exact absurd rfl hx
 |string a=>
  cases kd<;>first|(cases hk;done)|skip
  refine now λx hx=> ?_;cases x with
  |string b=>rfl
  |_=>exact absurd rfl hx
 |bool a=>
  cases kd<;>first|(cases hk;done)|skip
  refine now λx hx=> ?_;cases x with
  |bool b=>rfl
  |_=>exact absurd rfl hx
 |agg cs=>
  cases kd<;>first|(cases hk;done)|skip
  . exact ask cs rfl λx=>rfl
  . exact ask cs rfl λx=>rfl
 |_=>cases kd<;>cases hk
theorem aJ.map_some{ρ:aA}{i:Nat}{v:Value}(h:aJ ρ (.map (some i)) v):∃pl,ρ i=some pl/\v=.map (some pl.aV):=by cases h with|map h=>exact⟨_,h,rfl⟩
theorem aJ.map_none{ρ:aA}{v:Value}(h:aJ ρ (.map none) v):v=.map none:=by cases h;rfl
theorem Dq{ρ:aA}{es:List MapEntry}{ab:Array MapEntry}(h:aO (ez ρ) es ab.toList):ab.isEmpty=es.isEmpty:=by
 have:=h.length;cases es with
 |nil=>simp at this⊢;exact PO this.symm
 |cons x xs=>simp at this⊢;intro h0;rw[h0]at this;simp at this
theorem Lo(he:e.Ok){ρ:aA}{h:aa}{w:World}(x:bh ρ h w){t:TypeId}{m m' k k' r:Value}{ok:Bool}(hm:aJ ρ m m')(hk:aJ ρ k k')(hr:px e h t m k ok=some r):
 ∃r',(Instr.lookup t m' k' ok).run e.P w=.ok r' w/\aJ ρ r r':=by
 unfold px at hr;cases hu:e.under t with
 |none=>simp[hu]at hr
 |some d=>
 cases d with
 |map kt et=>
  simp only[hu]at hr;have aF:∀es,(match m with|.map none=>some []|.map (some r)=>(match h.get r with|some (.map es _)=>some es|_=>none)|_=>none:Option (List MapEntry))=some es->
   ∃ab:Array MapEntry,aO (ez ρ) es ab.toList/\((m'=.map none/\ab=#[])\/∃r c,m'=.map (some r)/\w.heap[r]? =some (.map ab c)):=by
   intro es h1;cases m with
   |map q=>
    cases q with
    |none=>
     have:=hm.map_none;subst this;cases h1;exact⟨#[],.nil,.inl ⟨rfl,rfl⟩⟩
    |some i=>
     obtain⟨pl,hp,rfl⟩:=hm.map_some;simp only at h1;cases ho:h.get i with
     |none=>simp[ho]at h1
     |some o=>
      cases o with
      |map aP clock=>
       simp only[ho,qe]at h1;subst h1;obtain⟨pl',g1,g2,ab,g3,g4⟩:=x.obj _ _ ho;rw[hp]at g1;cases g1;exact⟨ab,g4,.inr ⟨_,_,rfl,g3⟩⟩
      |_=>simp[ho]at h1
   |_=>cases h1
  split at hr
  . cases hr
  . rename_i es ai;obtain⟨ab,g1,g2⟩:=aF es ai;cases ae:e.under kt with
    |none=>simp[ae]at hr
    |some kd=>
     simp only[ae]at hr;obtain⟨hb,hr⟩:=bU hr;rw[xS]at hb;have:=pE hb.1 hk;subst this;cases hc:bQ e.P (Instr.checkKey es.isEmpty 10000 kt k')with
     |none=>simp[hc]at hr
     |some u=>
      simp only[hc]at hr;have ad:=ug e.P _ _ hc w;rw[<-Dq g1]at ad;cases hf:fN e.P kt k' es 0 with
      |none=>simp[hf]at hr
      |some q=>
       simp only[hf]at hr;obtain⟨q',f1,f2,f3⟩:=Dp he w ae hb.2 g1 hf;cases q with
       |some jv=>
        obtain⟨j,v⟩:=jv;obtain⟨v',f4,f5⟩:=f3 j v rfl;subst f4;simp only[qe]at hr;subst hr;refine⟨if ok then .tuple #[v',.bool true]else v', ?_, ?_⟩
        . rcases g2 with⟨rfl,rfl⟩|⟨r,c,rfl,ao⟩
          . simp only[Instr.lookup,Sem.run_bind,he.c8 hu,Result.andThen_ok,ad,f1,Sem.run_pure]
          . simp only[Instr.lookup,Sem.run_bind,he.c8 hu,Result.andThen_ok,qQ ao,ad,f1,Sem.run_pure]
        . cases ok with
          |true=>exact aJ.j0.2 (.cons f5 (.cons (.bool _) .nil))
          |false=>exact f5
       |none=>
        have:q'=none:=by cases q'<;>simp at f2⊢
        subst this;simp only at hr;cases hz:e.zero et with
        |none=>simp[hz]at hr
        |some z=>
         simp only[hz]at hr;obtain⟨aB,hr⟩:=bU hr;cases hr;refine⟨if ok then .tuple #[z,.bool false]else z, ?_, ?_⟩
         . rcases g2 with⟨rfl,rfl⟩|⟨r,c,rfl,ao⟩
           . simp only[Instr.lookup,Sem.run_bind,he.c8 hu,Result.andThen_ok,ad,f1,he.oi hz,Sem.run_pure]
           . simp only[Instr.lookup,Sem.run_bind,he.c8 hu,Result.andThen_ok,qQ ao,ad,f1,he.oi hz,Sem.run_pure]
         . cases ok with
           |true=>exact aJ.j0.2 (.cons (m9 aB) (.cons (.bool _) .nil))
           |false=>exact m9 aB
 |_=>simp[hu]at hr
theorem aO.modify{ρ:aA}{es ab:List MapEntry}(h:aO (ez ρ) es ab)(i:Nat)(f g:MapEntry->MapEntry)(aI:∀a b,ez ρ a b->ez ρ (f a) (g b)):aO (ez ρ) (es.modify i f) (ab.modify i g):=by
 induction h generalizing i with
 |nil=>simpa using aO.nil
 |cons h t ih=>
  cases i with
  |zero=>simpa using aO.cons (aI _ _ h) t
  |succ i=>simpa using aO.cons h (ih i)
theorem Dr(he:e.Ok){b:Nat}{ρ:aA}{h h':aa}{w:World}(x:bh ρ h w){t:TypeId}{m m' k k' v v':Value}(hm:aJ ρ m m')(hk:aJ ρ k k')(hv:aJ ρ v v')(hr:qz e h t m k v=some h'):
 ∃w',(Instr.mapUpdate t m' k' v').run e.P w=.ok () w'/\bh ρ h' w'/\Fr b ρ h w ρ h' w':=by
 unfold qz at hr;cases hu:e.under t with
 |none=>simp[hu]at hr
 |some d=>
 cases d with
 |map kt et=>
  cases m with
  |map q=>
   cases q with
   |none=>simp[hu]at hr
   |some i=>
    obtain⟨pl,hp,rfl⟩:=hm.map_some;simp only[hu]at hr;cases ho:h.get i with
    |none=>simp[ho]at hr
    |some o=>
     cases o with
     |map es clock=>
      simp only[ho]at hr;obtain⟨pl',g1,g2,ab,g3,g4⟩:=x.obj _ _ ho;rw[hp]at g1;cases g1;cases ae:e.under kt with
      |none=>simp[ae]at hr
      |some kd=>
       simp only[ae]at hr;obtain⟨hb,hr⟩:=bU hr;rw[xS]at hb;have:=pE hb.1 hk;subst this;cases hc:bQ e.P (Instr.checkKey false 10000 kt k')with
       |none=>simp[hc]at hr
       |some u=>
        simp only[hc]at hr;have ad:=ug e.P _ _ hc w;cases hf:fN e.P kt k' es 0 with
        |none=>simp[hf]at hr
        |some q=>
         simp only[hf]at hr;obtain⟨q',f1,f2,f3⟩:=Dp he w ae hb.2 g4 hf;have af:∀o,(setObj pl.aV o).run e.P w=.ok () (World.fO w pl.aV o):=λo=>wy _ g3 (λ_ _ _ h=>by cases h);have aC:pl.aV<w.heap.size:=(TF.1 g3).1;cases q with
         |some jv=>
          obtain⟨j,u⟩:=jv;obtain⟨u',f4,f5⟩:=f3 j u rfl;subst f4;simp only at hr;obtain⟨aK,hr⟩:=bU hr;cases hr;have av:((ab[j]?).map (·.key)).getD k'=((es[j]?).map (·.key)).getD k':=by
           cases hj:es[j]? with
           |none=>
            have:ab[j]? =none:=by
             rw[List.getElem?_eq_none_iff]at hj;have:=g4.length;simp at this⊢;omega
            rw[this]
           |some a=>
            obtain⟨c,aL,aM⟩:=g4.get j a hj;have:ab[j]? =some c:=by simpa using aL
            rw[this];simp[aM.key]
          refine⟨World.fO w pl.aV (.map (ab.modify j λx=>{x with key:=k',val:=v'}) clock), ?_,qN x ho rfl hp rfl ⟨g2,_,oh _ _ _ aC, ?_⟩ rfl⟩
          . simp only[Instr.mapUpdate,Sem.run_bind,he.c8 hu,Result.andThen_ok,qQ g3,ad,f1,Instr.keyThatStays,av,aK,if_true,Sem.run_pure,af]
          . rw[Array.toList_modify];exact g4.modify j _ _ λa c aN=>⟨rfl,hb.1,hv,aN.born⟩
         |none=>
          have:q'=none:=by cases q'<;>simp at f2⊢
          subst this;simp only[qe]at hr;subst hr;refine⟨World.fO w pl.aV (.map (ab.push {key:=k',val:=v',born:=clock}) (clock+1)), ?_,qN x ho rfl hp rfl ⟨g2,_,oh _ _ _ aC, ?_⟩ rfl⟩
          . simp only[Instr.mapUpdate,Sem.run_bind,he.c8 hu,Result.andThen_ok,qQ g3,ad,f1,af]
          . rw[Array.toList_push];exact g4.append (.cons ⟨rfl,hb.1,hv,rfl⟩ .nil)
     |_=>simp[ho]at hr
  |_=>simp[hu]at hr
 |_=>simp[hu]at hr
end Go.au
end
noncomputable section
namespace Go.au
variable {e:Env}
theorem aO.filter{ρ:aA}{es ab:List MapEntry}(h:aO (ez ρ) es ab)(p q:MapEntry->Bool)(aD:∀a b,ez ρ a b->q b=p a):aO (ez ρ) (es.filter p) (ab.filter q):=by
 induction h with
 |nil=>exact .nil
 |cons h t ih=>
  simp only[List.filter_cons,aD _ _ h]
  split
  . exact .cons h ih
  . exact ih
theorem aO.all{ρ:aA}{es ab:List MapEntry}(h:aO (ez ρ) es ab)(p q:MapEntry->Bool)(aD:∀a b,ez ρ a b->q b=p a):ab.all q=es.all p:=by
 induction h with
 |nil=>rfl
 |cons h t ih=>simp only[List.all_cons,aD _ _ h,ih]
theorem aO.find{ρ:aA}{es ab:List MapEntry}(h:aO (ez ρ) es ab)(p q:MapEntry->Bool)(aD:∀a b,ez ρ a b->q b=p a){x:MapEntry}(hx:es.find? p=some x):∃y,ab.find? q=some y/\ez ρ x y:=by
 induction h with
 |nil=>cases hx
 |cons h t ih=>
  simp only[List.find?_cons,aD _ _ h]at hx⊢
  split at hx
  . cases hx;exact⟨_,rfl,h⟩
  . exact ih hx
theorem um{P:Program}{w:World}{r:Nat}{o:Obj}(h:w.heap[r]? =some o)(hp:∀c t f,o≠.cells c t f):(getObj r).run P w=.ok o w:=by
 cases o with
 |cells c t f=>exact absurd rfl (hp c t f)
 |_=>simp only[getObj,Sem.run,h]
theorem Ds(P:Program)(w:World):(choose (.mapNext 1)).run P w=.ok 0 w:=by
 simp only[run_choose];rfl
theorem Lp{b:Nat}(P:Program){ρ:aA}{h h':aa}{w:World}(x:bh ρ h w){it aE r:Value}{s:Bool}(hi:aJ ρ it aE)(hr:pA h it s=some (r,h'))(ty:TypeId):
 gm b P ρ h w (Instr.next aE s ty) r h':=by
 unfold pA at hr
 split at hr
 . rename_i i;obtain⟨pl,hp,rfl⟩:=hi.oq
   split at hr
   ·
    rename_i str pos ho;obtain⟨pl',g1,g2,g3⟩:=x.obj _ _ ho;rw[hp]at g1;cases g1;have aw:=um (P:=P) g3 (λ_ _ _ h=>by cases h);have aL:pl.aV<w.heap.size:=(TF.1 g3).1;have hz:pl.off+0=0:=by rw[g2]
    cases ae:Nat.blt pos str.size with
    |true=>
     have af:pos<str.size:=VK ae;simp only[ae,cond_true,qe,DE]at hr;obtain⟨rfl,rfl⟩:=hr;obtain⟨k1,k2⟩:=qN (b:=b) (o:=.stringIter str (pos+(Utf8.decode str pos).2)) (ao':=.eC str (pos+(Utf8.decode str pos).2)) x ho rfl hp rfl ⟨g2,oh _ _ _ aL⟩ rfl;refine⟨.tuple #[.bool true,.int .i64 pos,.int .i32 (Utf8.decode str pos).1],_,ρ, ?_,aJ.j0.2 (.cons (.bool _) (.cons (.int _ _) (.cons (.int _ _) .nil))),k1,k2⟩;simp only[Instr.next,hz,Sem.run_bind,aw,Result.andThen_ok,af,if_true,wy _ g3 (λ_ _ _ h=>by cases h),Sem.run_pure,goInt]
    |false=>
     have af:¬pos<str.size:=λhc=>by rw[show Nat.blt pos str.size=true from Xw hc]at ae;cases ae
     simp only[ae,cond_false,qe,DE]at hr;obtain⟨rfl,rfl⟩:=hr;refine gm.same x (v':=.tuple #[.bool false]) ?_ (aJ.j0.2 (.cons (.bool _) .nil));simp only[Instr.next,hz,Sem.run_bind,aw,Result.andThen_ok,af,if_false,Sem.run_pure]
   ·
    rename_i since seen last ho;cases hr;obtain⟨pl',g1,g2,m',g3,g4⟩:=x.obj _ _ ho;rw[hp]at g1;cases g1;have hm:m'=none:=by have:=g4.map_none;cases this;rfl
    subst hm;have aw:=um (P:=P) g3 (λ_ _ _ h=>by cases h);have hz:pl.off+0=0:=by rw[g2]
    refine gm.same x (v':=.tuple #[.bool false]) ?_ (aJ.j0.2 (.cons (.bool _) .nil));simp only[Instr.next,hz,Sem.run_bind,aw,Result.andThen_ok,Sem.run_pure]
   ·
    rename_i m since seen last ho;obtain⟨pl',g1,g2,m',g3,g4⟩:=x.obj _ _ ho;rw[hp]at g1;cases g1;obtain⟨aM,aF,hm⟩:=g4.map_some;cases hm;have aw:=um (P:=P) g3 (λ_ _ _ h=>by cases h);have hz:pl.off+0=0:=by rw[g2]
    have aL:pl.aV<w.heap.size:=(TF.1 g3).1;cases az:h.get m with
    |none=>simp[az]at hr
    |some o=>
     cases o with
     |map es clock=>
      simp only[az]at hr;obtain⟨pl',q1,q2,ab,q3,q4⟩:=x.obj _ _ az;rw[aF]at q1;cases q1;have aS:=qQ (P:=P) q3;have ai:(!seen.toArray.isEmpty&& !ab.isEmpty&&ab.all λx=>decide (x.born>=last))=(!seen.isEmpty&& !es.isEmpty&&es.all λx=>GP last x.born):=by
       rw[Dq q4,<-Array.all_toList];have:ab.toList.all (λx=>decide (x.born>=last))=es.all λx=>GP last x.born:=aO.all q4 _ _ λa c aB=>by
        rw[aB.born];by_cases hc:last<=a.born
        . rw[Xw hc];simpa using hc
        . have:GP last a.born=false:=by
           cases aT:GP last a.born with
           |true=>exact absurd (VK aT) hc
           |false=>rfl
          rw[this];simpa using hc
       rw[this];simp
      generalize hC:(!seen.isEmpty&& !es.isEmpty&&es.all λx=>GP last x.born)=C at hr ai;cases C with
      |true=>cases hr
      |false=>
       simp only[cond_false]at hr;have aC:=aO.filter q4 (λx=> !seen.contains x.born) (λx=> !seen.contains x.born) λa c aB=>by simp only[aB.born]
       have hold:=aO.filter aC (λx=>decide (x.born<since)) (λx=>decide (x.born<since)) λa c aB=>by simp only[aB.born]
       have ao:=aO.filter aC (λx=>decide (x.born>=since)) (λx=>decide (x.born>=since)) λa c aB=>by simp only[aB.born]
       have e1:((ab.filter λx=> !seen.toArray.contains x.born).filter λx=>decide (x.born<since)).toList=(ab.toList.filter λx=> !seen.contains x.born).filter λx=>decide (x.born<since):=by
        simp
       have e2:((ab.filter λx=> !seen.toArray.contains x.born).filter λx=>decide (x.born>=since)).toList=(ab.toList.filter λx=> !seen.contains x.born).filter λx=>decide (x.born>=since):=by
        simp
       rw[<-e1]at hold;rw[<-e2]at ao;generalize hO:((ab.filter λx=> !seen.toArray.contains x.born).filter λx=>decide (x.born<since))=O at hold;generalize hN:((ab.filter λx=> !seen.toArray.contains x.born).filter λx=>decide (x.born>=since))=N at ao;generalize aW:((es.filter λx=> !seen.contains x.born).filter λx=>decide (x.born<since))=O1 at hold hr;generalize aX:((es.filter λx=> !seen.contains x.born).filter λx=>decide (x.born>=since))=N1 at ao hr
       split at hr
       . simp only[qe,DE]at hr;obtain⟨rfl,rfl⟩:=hr;have aN:O=#[]:=by have:=hold.length;apply PO;simpa using this.symm
         have aP:N=#[]:=by have:=ao.length;apply PO;simpa using this.symm
         subst aN;subst aP;refine gm.same x (v':=.tuple #[.bool false]) ?_ (aJ.j0.2 (.cons (.bool _) .nil));simp only[Instr.next,hz,Sem.run_bind,aw,Result.andThen_ok,aS,ai,Er,if_false,hO,hN];have av:((if(#[]:Array MapEntry).isEmpty=true then#[none]else#[])++Array.map some (#[]++#[]:Array MapEntry))=#[none]:=by simp
         have h1:(#[none]:Array (Option MapEntry)).size=1:=rfl;have h0:(#[none]:Array (Option MapEntry))[0]? =some none:=rfl;simp only[av,h1,Ds,Result.andThen_ok,h0,Sem.run_pure]
       . rename_i y;simp only[qe,DE]at hr;obtain⟨rfl,rfl⟩:=hr;obtain⟨y',aN,aI⟩:∃y',O=#[y']/\ez ρ y y':=by
          cases aQ:O.toList with
          |nil=>rw[aQ]at hold;cases hold
          |cons y' ys=>
           rw[aQ]at hold;cases hold with
           |cons hy ht=>
            cases ht;exact⟨y',by rw[<-W2 (xs:=O),aQ],hy⟩
         have aP:N=#[]:=by have:=ao.length;apply PO;simpa using this.symm
         subst aN;subst aP;obtain⟨k1,k2⟩:=qN (b:=b) (o:=.mapIter (some aM.aV) since (seen.toArray.push y'.born) clock) (ao':=.cj (some m) since (seen++[y.born]) clock) x ho rfl hp rfl
          ⟨g2,some aM.aV,by rw[oh _ _ _ aL,aI.born];simp,.map aF⟩ rfl
         refine⟨.tuple #[.bool true,y'.key,y'.val],_,ρ, ?_,aJ.j0.2 (.cons (.bool _) (.cons (by rw[aI.key];exact m9 aI.plain) (.cons aI.val .nil))),k1,k2⟩;simp only[Instr.next,hz,Sem.run_bind,aw,Result.andThen_ok,aS,ai,Er,if_false,hO,hN];have av:((if(#[y']:Array MapEntry).isEmpty=true then#[none]else#[])++Array.map some (#[y']++#[]:Array MapEntry))=#[some y']:=by simp
         have h1:(#[some y']:Array (Option MapEntry)).size=1:=rfl;have h0:(#[some y']:Array (Option MapEntry))[0]? =some (some y'):=rfl;simp only[av,h1,Ds,Result.andThen_ok,h0,Sem.run_bind,wy _ g3 (λ_ _ _ h=>by cases h),Sem.run_pure]
       . cases hr
     |_=>simp[az]at hr
   . cases hr
 . cases hr
theorem Lq(P:Program){ρ:aA}{h:aa}{w:World}(x:bh ρ h w){it aE r:Value}(hi:aJ ρ it aE)(hr:qB h it=some r):
 ∃r',(Instr.entry aE).run P w=.ok r' w/\aJ ρ r r':=by
 unfold qB at hr
 split at hr
 . rename_i i;obtain⟨pl,hp,rfl⟩:=hi.oq
   split at hr
   . rename_i m since seen aK ho;obtain⟨pl',g1,g2,m',g3,g4⟩:=x.obj _ _ ho;rw[hp]at g1;cases g1;obtain⟨aM,aF,hm⟩:=g4.map_some;cases hm;have aw:=um (P:=P) g3 (λ_ _ _ h=>by cases h);have hz:pl.off+0=0:=by rw[g2]
     cases hl:seen.getLast? with
     |none=>simp[hl]at hr
     |some ad=>
      cases az:h.get m with
      |none=>simp[hl,az]at hr
      |some o=>
       cases o with
       |map es clock=>
        simp only[hl,az]at hr;obtain⟨pl',q1,q2,ab,q3,q4⟩:=x.obj _ _ az;rw[aF]at q1;cases q1;obtain⟨hc,aR⟩:=bU hr;clear hr;have hc:=Nat.eq_of_beq_eq_true hc;subst hc;cases hf:es.find? λx=>x.born==ad with
        |none=>simp[hf]at aR
        |some y=>
         simp only[hf,qe]at aR;subst aR;obtain⟨y',k1,k2⟩:=aO.find q4 _ (λx=>x.born==ad) (λa c aB=>by simp only[aB.born]) hf;refine⟨.tuple #[y'.key,y'.val], ?_,aJ.j0.2 (.cons (by rw[k2.key];exact m9 k2.plain) (.cons k2.val .nil))⟩;have hb:seen.toArray.back? =some ad:=by simpa using hl
         have aU:ab.find? (λx=>x.born==ad)=some y':=by rw[<-Array.find?_toList];exact k1
         simp only[Instr.entry,hz,Sem.run_bind,aw,Result.andThen_ok,hb,qQ q3,bne_self_eq_false,Er,if_false,aU,Sem.run_pure]
       |_=>simp[hl,az]at hr
   . cases hr
 . cases hr
end Go.au
end
noncomputable section
namespace Go.au
variable {e:Env}
theorem of_map{α β:Type}{x:Option α}{f:α->β}{r:β}(h:x.map f=some r):∃a,x=some a/\f a=r:=by
 cases x with
 |none=>cases h
 |some a=>exact⟨a,rfl,Option.some.inj h⟩
def dK(e:Env)(ρ:aA)(h:aa)(w:World)(s:Sem Next):AR->Prop
 |.val v h'=>∃v' w' af,s.run e.P w=.ok (.value v') w'/\aJ af v v'/\bh af h' w'/\Fr h.next ρ h w af h' w'
 |.skip h'=>∃w' af,s.run e.P w=.ok .skip w'/\bh af h' w'/\Fr h.next ρ h w af h' w'
 |.enter f args h'=>h'=h/\∃ae:Array Value,bE ρ args ae.toList/\∀fn,e.fn f=some fn->s.run e.P w=.ok (.enter f ae) w
 |.round l args h'=>h'=h/\∃(pl:Pl) (ae:Array Value),ρ l=some pl/\bE ρ args ae.toList/\s.run e.P w=(Instr.yield pl.aV ae).run e.P w
 |.defer f args cap h'=>h'=h/\∃ae aB:Array Value,bE ρ args ae.toList/\bE ρ cap aB.toList/\s.run e.P w=.ok (.defer {target:=.fn (.func f) aB,args:=ae}) w
theorem dK.same{ρ:aA}{h:aa}{w:World}{s:Sem Next}{v v':Value}(x:bh ρ h w)(hr:s.run e.P w=.ok (.value v') w)(hv:aJ ρ v v'):dK e ρ h w s (.val v h):=
 ⟨v',w,ρ,hr,hv,x,Fr.refl _ _ _ _⟩
theorem dK.gives{ρ:aA}{h h':aa}{w:World}{s:Sem Value}{v:Value}(g:gm h.next e.P ρ h w s v h'):dK e ρ h w (do pure (.value (<-s))) (.val v h'):=by
 obtain⟨v',w',af,g1,g2⟩:=g;exact⟨v',w',af,by simp only[Sem.run_bind,g1,Result.andThen_ok,Sem.run_pure],g2⟩
theorem aJ.qR{ρ:aA}{fn:Fn}{a c:Array Value}{v:Value}(h:aJ ρ (.func fn a c) v):∃aF a' c',v=.func aF a' c'/\jY ρ fn aF/\bE ρ a.toList a'.toList/\bE ρ c.toList c'.toList:=by
 cases h with|func hf h1 h2 h3 h4=>exact⟨_,_,_,rfl,hf,qL h1 h2,qL h3 h4⟩
theorem jY.qR{ρ:aA}{f:FuncId}{g:Fn}(h:jY ρ (.func f) g):g=.func f:=by cases h;rfl
theorem jY.Lr{ρ:aA}{l:Nat}{g:Fn}(h:jY ρ (.yield l) g):∃pl,ρ l=some pl/\g=.yield pl.aV:=by cases h with|yield h=>exact⟨_,h,rfl⟩
theorem wz{ρ:aA}{vs:List Value}{args:Array Operand}{f:Operand->Value}(h:bE ρ vs (args.toList.map f)):bE ρ vs (args.map f).toList:=by rwa[Array.toList_map]
theorem Dt{ρ:aA}{a b:Value}{xs:Array Value}(h:bE ρ [a,b] xs.toList):∃a' b',xs=#[a',b']/\aJ ρ a a'/\aJ ρ b b':=by
 cases hx:xs.toList with
 |nil=>rw[hx]at h;cases h
 |cons a' t=>
  rw[hx]at h;cases h with
  |cons ha ht=>
   cases ht with
   | @cons _ b' _ y hb hn=>
    cases hn;exact⟨a',b',by rw[<-W2 (xs:=xs),hx],ha,hb⟩
theorem Du{ρ:aA}{a:Value}{xs:Array Value}(h:bE ρ [a] xs.toList):∃a',xs=#[a']/\aJ ρ a a':=by
 cases hx:xs.toList with
 |nil=>rw[hx]at h;cases h
 |cons a' t=>
  rw[hx]at h;cases h with
  |cons ha ht=>
   cases ht;exact⟨a',by rw[<-W2 (xs:=xs),hx],ha⟩
theorem Dv{ρ:aA}{vs:List Value}{xs:Array Value}(h:bE ρ vs xs.toList)(hp:vs.all plain=true):xs=vs.toArray:=by
 have:xs.toList=vs:=by
  generalize xs.toList=l at h
  induction h with
  |nil=>rfl
  |cons ha _ ih=>
   simp only[List.all_cons,xS]at hp;rw[pE hp.1 ha,ih hp.2]
 rw[<-this]
theorem Ls(he:e.Ok){n:Nat}{ρ:aA}{h:aa}{w:World}{t:Tr Value}{a:Array Value}{ds:List Deferred}(hg:Gl e ρ)(ht:jC ρ t n a)(x:bh ρ h w)
 {c:Call} {r:AR} (hr:lz e h t c=some r) (ty:TypeId):dK e ρ h w (do let d<-resolve (Act.mk a ds).eval c ty;invoke d.target d.args) r:=by
 unfold lz at hr;cases ha:cR e t c.args.toList with
 |none=>simp[ha]at hr
 |some args=>
  simp only[ha]at hr;have ab:=wz (uh hg ht ds ha);cases hc:c.callee with
  |invoke r m=>simp[hc]at hr
  |value f=>
   simp only[hc]at hr;cases hf:aw e t f with
   |none=>simp[hf]at hr
   |some fv=>
    simp only[hf]at hr;have aQ:=j5 hg ht hf ds;cases fv with
    |func fn first cap=>
     obtain⟨aF,a',c',e1,e2,e3,e4⟩:=aQ.qR;simp only[mZ]at hr;have ai:(resolve (Act.mk a ds).eval c ty).run e.P w=.ok {target:=.fn aF c',args:=a'++c.args.map (Act.mk a ds).eval} w:=by
      simp only[resolve,hc,Deferred.ofValue,e1,Sem.run_pure]
     cases fn with
     |func g=>
      have:=e2.qR;subst this;simp only[qe]at hr;subst hr;refine⟨rfl,a'++c.args.map (Act.mk a ds).eval++c', ?_,λfn aR=> ?_⟩
      . rw[PX,PX];exact(e3.append ab).append e4
      . simp only[Sem.run_bind,ai,Result.andThen_ok,invoke,(he.fn g fn aR).2]
     |yield l=>
      obtain⟨pl,hp,rfl⟩:=e2.Lr;simp only[qe]at hr;subst hr;refine⟨rfl,pl,a'++c.args.map (Act.mk a ds).eval,hp, ?_, ?_⟩
      . rw[PX];exact e3.append ab
      . simp only[Sem.run_bind,ai,Result.andThen_ok,invoke]
     |_=>cases hr
    |_=>simp[mZ]at hr
  |builtin b=>
   simp only[hc]at hr;have ai:(resolve (Act.mk a ds).eval c ty).run e.P w=.ok {target:=.builtin b c.argTypes ty (c.args.map λ|.const _=>true|_=>false),args:=c.args.map (Act.mk a ds).eval} w:=by
    simp only[resolve,hc,Sem.run_pure];rfl
   have step:∀{s:Sem Value} {v:Value} {h':aa},builtin b c.argTypes ty (c.args.map λ|.const _=>true|_=>false) (c.args.map (Act.mk a ds).eval)=(do pure (.value (<-s)))->gm h.next e.P ρ h w s v h'->
    dK e ρ h w (do let d<-resolve (Act.mk a ds).eval c ty;invoke d.target d.args) (.val v h'):=λhb aS=>by
    obtain⟨v',w',af,g1,g2⟩:=dK.gives aS;refine⟨v',w',af, ?_,g2⟩;simp only[Sem.run_bind,ai,Result.andThen_ok,invoke,hb];simpa only[Sem.run_bind]using g1
   split at hr
   . rename_i s y;obtain⟨⟨r1,r2⟩,h1,rfl⟩:=of_map hr;obtain⟨s',y',e1,e2,e3⟩:=Dt ab;refine step (s:=Builtin.append_ c.argTypes ty (c.args.map (Act.mk a ds).eval)) rfl ?_;rw[e1];exact Lg he x e2 e3 h1 ty
   . rename_i s y;obtain⟨⟨r1,r2⟩,h1,rfl⟩:=of_map hr;obtain⟨s',y',e1,e2,e3⟩:=Dt ab;refine step (s:=Builtin.copy_ c.argTypes ty (c.args.map (Act.mk a ds).eval)) rfl ?_;rw[e1];exact Lh he x e2 e3 h1 ty
   . rename_i y;cases aC:c.argTypes[0]? with
     |none=>simp[aC]at hr
     |some aT=>
      simp only[aC]at hr;obtain⟨r1,h1,rfl⟩:=of_map hr;obtain⟨y',e1,e2⟩:=Du ab;refine step (s:=Builtin.len_ c.argTypes ty (c.args.map (Act.mk a ds).eval)) rfl ?_;rw[e1];obtain⟨r',k1,k2⟩:=K7 he x e2 h1 c.argTypes aC ty;exact gm.same x k1 k2
   . rename_i y;cases aC:c.argTypes[0]? with
     |none=>simp[aC]at hr
     |some aT=>
      simp only[aC]at hr;obtain⟨r1,h1,rfl⟩:=of_map hr;obtain⟨y',e1,e2⟩:=Du ab;refine step (s:=Builtin.cap_ c.argTypes ty (c.args.map (Act.mk a ds).eval)) rfl ?_;rw[e1];obtain⟨r',k1,k2⟩:=K8 he x e2 h1 c.argTypes aC ty;exact gm.same x k1 k2
   . obtain⟨hp,hr⟩:=bU hr;obtain⟨r1,h1,rfl⟩:=of_map hr;refine step (s:=Builtin.min_ c.argTypes ty (c.args.map (Act.mk a ds).eval)) rfl ?_;rw[Dv ab hp];obtain⟨k1,k2⟩:=qP (ρ:=ρ) h1 w;exact gm.same x k1 k2
   . obtain⟨hp,hr⟩:=bU hr;obtain⟨r1,h1,rfl⟩:=of_map hr;refine step (s:=Builtin.max_ c.argTypes ty (c.args.map (Act.mk a ds).eval)) rfl ?_;rw[Dv ab hp];obtain⟨k1,k2⟩:=qP (ρ:=ρ) h1 w;exact gm.same x k1 k2
   . cases hr
theorem zc{ρ:aA}{t:Tr Value}{n:Nat}{a:Array Value}(hg:Gl e ρ)(ht:jC ρ t n a)(ds:List Deferred){o:Option Operand}{v:Option Value}
 (h:(match o with|none=>some none|some o=>(aw e t o).map some)=some v):nf ρ v (o.map (Act.mk a ds).eval):=by
 cases o with
 |none=>cases h;exact .none
 |some o=>
  obtain⟨u,h1,rfl⟩:=of_map h;exact .some (j5 hg ht h1 ds)
theorem Dw{ρ:aA}:∀{cs cs':List Value} {ns:List Int},bE ρ cs cs'->qC cs=some ns->cs'=ns.map (Value.int .u8)
 |[],_,ns,.nil,h=>by simp only[qC,qe]at h;subst h;rfl
 |c::cs,_,ns,.cons h1 h2,h=>by
  match c,h1,h with
  |.int .u8 n,h1,h=>
   simp only[qC,Zj]at h;obtain⟨r,h3,rfl⟩:=h;have:=h1.mg;subst this;rw[Dw h2 h3];rfl
theorem Lt(he:e.Ok){ρ:aA}{h:aa}{w:World}(x:bh ρ h w){s d:TypeId}{v v' u:Value}(hv:aJ ρ v v')(hb:od e h s d v=some u):(convert s d v').run e.P w=.ok u w/\aJ ρ u u:=by
 unfold od at hb
 split at hb
 . rename_i a len cap el hu hd
   split at hb
   . rename_i aU
     split at hb
     . rename_i cs hc;simp only[Zj]at hb;obtain⟨ns,h1,rfl⟩:=hb;refine⟨?_,.string _⟩;cases hv with
       | @sl _ c _ _ k' pl hp hs=>
        obtain⟨cs',g1,g2,g3⟩:=sy x hp hc;have e1:=Dw g1 h1;have hl:(loadCells c len).run e.P w=.ok (ns.map (Value.int .u8)).toArray w:=by
         rcases hs with⟨aW,_⟩|⟨h1,_,_⟩
         . have:=run_loadCells_list (P:=e.P) w _ cs' g3;rw[g2,<-aW,e1]at this;exact this
         . have aX:cs'=[]:=List.eq_nil_of_length_eq_zero (g2.trans h1);rw[aX]at e1;rw[<-e1,h1];rfl
        rw[run_convert_bytes_string w s d el (some c) len k' (he.under s _ hu) (he.under el _ aU) (he.under d _ hd),run_bytesToString w c len k' ns hl];rfl
     . cases hb
   . cases hb
 . cases hb
theorem Dx(he:e.Ok){n:Nat}{ρ:aA}{h:aa}{w:World}{t:Tr Value}{a:Array Value}{ds:List Deferred}(hg:Gl e ρ)(ht:jC ρ t n a)(x:bh ρ h w)
 {o:Oper} {r:AR} (hr:aK e h t o.op=some r):dK e ρ h w (execOp (Act.mk a ds).eval o) r:=by
 have V:∀{y:Operand} {v:Value},aw e t y=some v->aJ ρ v ((Act.mk a ds).eval y):=λhy=>j5 hg ht hy ds;have al:∀{ob:bF} {f:Nat->Value},cF e t o.op=some (ob,f)->dK e ρ h w (execOp (Act.mk a ds).eval o) (.val (f h.next) (h.new ob)):=λhA=>by
  obtain⟨v',w',af,g1,g2,g3,g4,_⟩:=Df he (b:=h.next) hg ht x (ds:=ds) hA (x.slot _);exact⟨v',w',af,g1,g2,g3,g4⟩
 obtain⟨dst,op,ty,pos,after,guard⟩:=o;simp only at hr al;cases op with
 |move y=>
  obtain⟨v,h1,rfl⟩:=of_map (by simpa only[aK]using hr);exact dK.same x rfl (V h1)
 |assign y=>
  obtain⟨v,h1,rfl⟩:=of_map (by simpa only[aK]using hr);exact dK.same x rfl (V h1)
 |pick c p q=>
  simp only[aK]at hr
  split at hr
  . rename_i hc;obtain⟨v,h1,rfl⟩:=of_map hr;have:=(V hc).oo;refine dK.same x ?_ (V h1);simp only[execOp,this,asBool,Sem.run_bind,Sem.run_pure,Result.andThen_ok,if_true]
  . rename_i hc;obtain⟨v,h1,rfl⟩:=of_map hr;have:=(V hc).oo;refine dK.same x ?_ (V h1);simp only[execOp,this,asBool,Sem.run_bind,Sem.run_pure,Result.andThen_ok,Er,if_false]
  . cases hr
 |alloc elem=>
  simp only[aK]at hr
  split at hr
  . cases hr
  . rename_i ob f hA;cases hr;exact al hA
 |box elem y=>
  simp only[aK]at hr
  split at hr
  . cases hr
  . rename_i ob f hA;cases hr;exact al hA
 |buildSlice st len parts=>
  simp only[aK]at hr
  split at hr
  . cases hr
  . rename_i ob f hA;cases hr;exact al hA
 |makeMap mt r=>
  simp only[aK]at hr
  split at hr
  . cases hr
  . rename_i ob f hA;cases hr;exact al hA
 |makeSlice st l c=>
  simp only[aK]at hr
  split at hr
  . cases hr
  . rename_i ob f hA;cases hr;exact al hA
 |build bt parts=>
  simp only[aK]at hr
  split at hr
  . cases hr
  . rename_i ps hp;obtain⟨v,h1,rfl⟩:=of_map hr;have aI:=yY hg ht ds hp;obtain⟨v',k1,k2⟩:=K3 he w (ps':=parts.map λ(i,y)=>(i,(Act.mk a ds).eval y)) (by simpa using aI) h1;refine dK.same x ?_ k2;simp only[execOp,Sem.run_bind,k1,Result.andThen_ok,Sem.run_pure]
 |load lt y=>
  simp only[aK]at hr
  split at hr
  . cases hr
  . rename_i ad hp;obtain⟨v,h1,rfl⟩:=of_map hr;obtain⟨u,ao,av⟩:=nc hp;have:=uj av;subst this;obtain⟨pl,q1,q2⟩:=(V ao).oq;obtain⟨v',k1,k2⟩:=C9 he x q1 h1;refine dK.same x ?_ k2;simp only[execOp,Instr.loadAt,Instr.sureAddr,q2,Sem.run_bind,Sem.run_pure,Result.andThen_ok,k1]
 |store lt y z=>
  simp only[aK]at hr
  split at hr
  . rename_i ad v hp hv;obtain⟨h',h1,rfl⟩:=of_map hr;obtain⟨u,ao,av⟩:=nc hp;have:=uj av;subst this;obtain⟨pl,q1,q2⟩:=(V ao).oq;obtain⟨w',k1,k2,k3⟩:=KZ he (b:=h.next) x q1 (V hv) h1;refine⟨w',ρ, ?_,k2,k3⟩;simp only[execOp,Instr.storeAt,Instr.sureAddr,q2,Sem.run_bind,Sem.run_pure,Result.andThen_ok,k1]
  . cases hr
 |nilCheck y=>
  simp only[aK]at hr
  split at hr
  . rename_i ad hp;cases hr;obtain⟨pl,q1,q2⟩:=(V hp).oq;refine dK.same x ?_ (V hp);simp only[execOp,q2,Sem.run_pure]
  . rename_i f p q hp;cases hr;obtain⟨aF,a',c',e1,e2,e3,e4⟩:=(V hp).qR;have:=e2.qR;subst this;refine dK.same x ?_ (V hp);simp only[execOp,e1,Sem.run_pure]
  . cases hr
 |binOp bo bt y z yt=>
  simp only[aK]at hr
  split at hr
  . rename_i p q hp hq;obtain⟨v,h1,rfl⟩:=of_map hr;obtain⟨v',k1,k2⟩:=Lm he w (V hp) (V hq) h1;refine dK.same x ?_ k2;simp only[execOp];rw[Sem.run_bind,k1];rfl
  . cases hr
 |unOp uo ut y=>
  simp only[aK]at hr
  split at hr
  . rename_i p hp;obtain⟨aL,hr⟩:=bU hr;obtain⟨v,h1,rfl⟩:=of_map hr;obtain⟨k1,k2⟩:=qP (ρ:=ρ) h1 w;rw[<-pE aL (V hp)]at k1;refine dK.same x ?_ k2;simp only[execOp,Sem.run_bind,k1,Result.andThen_ok,Sem.run_pure]
  . cases hr
 |convert cs cd y=>
  simp only[aK]at hr
  split at hr
  . rename_i p hp;cases aL:plain p with
    |true=>
     rw[aL]at hr;obtain⟨v,h1,rfl⟩:=of_map hr;obtain⟨k1,k2⟩:=qP (ρ:=ρ) h1 w;rw[<-pE aL (V hp)]at k1;refine dK.same x ?_ k2;simp only[execOp,Sem.run_bind,k1,Result.andThen_ok,Sem.run_pure]
    |false=>
     rw[aL]at hr;obtain⟨v,h1,rfl⟩:=of_map hr;obtain⟨k1,k2⟩:=Lt he x (V hp) h1;refine dK.same x ?_ k2;simp only[execOp,Sem.run_bind,k1,Result.andThen_ok,Sem.run_pure]
  . cases hr
 |makeInterface it y=>
  simp only[aK]at hr
  split at hr
  . cases hr
  . rename_i v d aZ hp hu;cases hr;refine dK.same x (v':=.iface it ((Act.mk a ds).eval y)) ?_ (.iface (V hp));cases d with
    |interface ms=>exact(aZ ms rfl).elim
    |_=>simp only[execOp,Instr.makeInterface,Sem.run_bind,he.c8 hu,Result.andThen_ok,Sem.run_pure]
  . cases hr
 |makeFunc fn first cap=>
  cases fn with
  |func f=>
   simp only[aK]at hr
   split at hr
   . rename_i p q hp hq;cases hr;have k1:=wz (uh hg ht ds hp);have k2:=wz (uh hg ht ds hq);refine dK.same x (v':=.func (.func f) (first.map (Act.mk a ds).eval) (cap.map (Act.mk a ds).eval)) ?_ ?_
     . simp only[execOp,Instr.makeFunc,Sem.run_bind,Sem.run_pure,Result.andThen_ok]
     . have g1:=sv (a:=p.toArray) (a':=first.map (Act.mk a ds).eval) (by simpa using k1);have g2:=sv (a:=q.toArray) (a':=cap.map (Act.mk a ds).eval) (by simpa using k2);exact .func (.func f) g1.1 g1.2 g2.1 g2.2
   . cases hr
  |_=>simp[aK]at hr
 |slice st y lo hi mx=>
  simp only[aK]at hr
  split at hr
  . rename_i p l hh m hp hl bb hm;obtain⟨v,h1,rfl⟩:=of_map hr;obtain⟨v',k1,k2⟩:=K6 he x (V hp) (zc hg ht ds hl) (zc hg ht ds bb) (zc hg ht ds hm) h1;refine dK.same x ?_ k2;simp only[execOp,Sem.run_bind,k1,Result.andThen_ok,Sem.run_pure]
  . cases hr
 |fieldAddr st y f=>
  simp only[aK]at hr
  split at hr
  . rename_i ad fields hp hu
    split at hr
    . rename_i off size hf;obtain⟨hs,hr⟩:=bU hr;cases hr;obtain⟨u,ao,av⟩:=nc hp;have:=uj av;subst this;obtain⟨pl,q1,q2⟩:=(V ao).oq;unfold jW at hf;cases aD:fields[f]? with
      |none=>simp[aD]at hf
      |some fd=>
       simp only[aD]at hf;cases aM:e.size fd.type with
       |none=>simp[aM]at hf
       |some s=>
        simp only[aM,qe,DE]at hf;obtain⟨rfl,rfl⟩:=hf;have h0:¬s=0:=by have:0<s:=VK hs;omega
        refine dK.same x (v':=.pointer (some ⟨pl.aV,pl.off+(ad.add fd.offset).off,none⟩)) ?_ (.ptr (by rw[Addr.sx];exact q1));simp only[execOp,Instr.fieldAt,Sem.run_bind,he.c8 hu,Result.andThen_ok,aD,Instr.sureAddr,q2,Sem.run_pure,fieldPlace,he.gZ aM,h0,if_false,oj,Addr.qO,W9]
    . cases hr
  . cases hr
 |field ft y f=>
  simp only[aK]at hr
  split at hr
  . rename_i cs fields hp hu;cases aD:fields[f]? with
    |none=>simp[aD]at hr
    |some fd=>
     simp only[aD]at hr;obtain⟨v,h1,rfl⟩:=of_map hr;obtain⟨cs',q1,q2⟩:=(V hp).pD;obtain⟨v',k1,k2⟩:=Dd he w q2 h1;refine dK.same x ?_ k2;simp only[execOp,Instr.field,Sem.run_bind,he.c8 hu,Result.andThen_ok,aD,q1,asAgg,Sem.run_pure,k1]
  . cases hr
 |indexAddr it y ix=>
  simp only[aK]at hr
  split at hr
  . rename_i ad i len elem hp hi hu
    split at hr
    . cases hr
    . rename_i s hs;obtain⟨hb,hr⟩:=bU hr;cases hr;simp only[xS,decide_eq_true_eq]at hb;obtain⟨pl,q1,q2⟩:=(V hp).oq;obtain⟨u,ao,av⟩:=nc hi;obtain⟨k,rfl⟩:=of_int av;have aE:=(V ao).mg;refine dK.same x (v':=.pointer (some ⟨pl.aV,pl.off+(ad.add (i.toNat*s)).off,none⟩)) ?_ (.ptr (by rw[Addr.sx];exact q1));simp only[execOp,Instr.indexAt,aE,asIntOf,Sem.run_bind,Sem.run_pure,Result.andThen_ok,he.c8 hu,q2,Instr.sureAddr,hb,and_self,if_true,he.gZ hs,oj,Addr.qO,W9]
  . rename_i ad len cap i elem hp hi hu
    split at hr
    . cases hr
    . rename_i s hs;obtain⟨hb,hr⟩:=bU hr;cases hr;simp only[xS,decide_eq_true_eq]at hb;obtain⟨c,aB,pl,q1,q2,q3⟩:=(V hp).wx;obtain⟨u,ao,av⟩:=nc hi;obtain⟨k,rfl⟩:=of_int av;have aE:=(V ao).mg;have hc:c=⟨pl.aV,pl.off+ad.off,none⟩:=by
       rcases q3 with⟨h1,_⟩|⟨h1,_,_⟩
       . exact h1
       . omega
      refine dK.same x (v':=.pointer (some ⟨pl.aV,pl.off+(ad.add (i.toNat*s)).off,none⟩)) ?_ (.ptr (by rw[Addr.sx];exact q2));simp only[execOp,Instr.indexAt,aE,asIntOf,Sem.run_bind,Sem.run_pure,Result.andThen_ok,he.c8 hu,q1,hc,hb,and_self,if_true,he.gZ hs,oj,Addr.qO,W9]
  . cases hr
 |index it y ix=>
  simp only[aK]at hr
  split at hr
  . rename_i cs k i len elem hp hi hu
    split at hr
    . cases hr
    . rename_i s hs;obtain⟨hb,hr⟩:=bU hr;simp only[xS,decide_eq_true_eq]at hb;obtain⟨v,h1,rfl⟩:=of_map hr;obtain⟨cs',q1,q2⟩:=(V hp).pD;have aE:=(V hi).mg;obtain⟨v',k1,k2⟩:=Dd he w q2 h1;refine dK.same x ?_ k2;simp only[execOp,Instr.index,aE,asIntOf,Sem.run_bind,Sem.run_pure,Result.andThen_ok,he.c8 hu,q1,hb,and_self,if_true,he.gZ hs,k1]
  . rename_i s k i hp hi hu;obtain⟨v,h1,rfl⟩:=of_map hr;have aE:=(V hi).mg;have aN:(Act.mk a ds).eval y=.string s:=by have:=V hp;cases hh:(Act.mk a ds).eval y<;>rw[hh]at this<;>cases this<;>rfl
    obtain⟨k1,k2⟩:=qP (ρ:=ρ) h1 w;refine dK.same x ?_ k2;simp only[execOp,aE,aN,Sem.run_bind,k1,Result.andThen_ok,Sem.run_pure]
  . cases hr
 |lookup mt m k ok=>
  simp only[aK]at hr
  split at hr
  . rename_i p q hp hq;obtain⟨v,h1,rfl⟩:=of_map hr;obtain⟨v',k1,k2⟩:=Lo he x (V hp) (V hq) h1;refine dK.same x ?_ k2;simp only[execOp,Sem.run_bind,k1,Result.andThen_ok,Sem.run_pure]
  . cases hr
 |mapUpdate mt m k v=>
  simp only[aK]at hr
  split at hr
  . rename_i p q z hp hq hz;obtain⟨h',h1,rfl⟩:=of_map hr;obtain⟨w',k1,k2,k3⟩:=Dr he (b:=h.next) x (V hp) (V hq) (V hz) h1;refine⟨w',ρ, ?_,k2,k3⟩;simp only[execOp,Sem.run_bind,k1,Result.andThen_ok,Sem.run_pure]
  . cases hr
 |insert mt m k v=>
  simp only[aK]at hr
  split at hr
  . rename_i p q z hp hq hz;obtain⟨h',h1,rfl⟩:=of_map hr;obtain⟨w',k1,k2,k3⟩:=Dr he (b:=h.next) x (V hp) (V hq) (V hz) h1;refine⟨w',ρ, ?_,k2,k3⟩;simp only[execOp,Sem.run_bind,k1,Result.andThen_ok,Sem.run_pure]
  . cases hr
 |range rt y=>
  simp only[aK]at hr
  split at hr
  . rename_i s hp hu;cases hr;have aN:(Act.mk a ds).eval y=.string s:=by have:=V hp;cases hh:(Act.mk a ds).eval y<;>rw[hh]at this<;>cases this<;>rfl
    obtain⟨af,pl,g1,g2,g3,g4,g5,_⟩:=wv x (x.slot (.eC s 0)) (.stringIter s 0) rfl rfl (λaf w' pl _ h0 hw=>⟨h0,hw⟩);refine⟨_,_,af, ?_,ui g1 g3,g4,g5⟩;simp only[execOp,Instr.range,aN,Sem.run_bind,he.c8 hu,Sem.run_pure,Result.andThen_ok,run_newObj,g2];rfl
  . rename_i ek ev hp hu;cases hr;have hm:=(V hp).map_none;obtain⟨af,pl,g1,g2,g3,g4,g5,_⟩:=wv x (x.slot (.cj none 0 [] 0)) (.mapIter none 0 #[] 0) rfl rfl (λaf w' pl _ h0 hw=>⟨h0,none,hw,.og⟩);refine⟨_,_,af, ?_,ui g1 g3,g4,g5⟩;simp only[execOp,Instr.range,hm,Sem.run_bind,he.c8 hu,Sem.run_pure,Result.andThen_ok,run_newObj,g2];rfl
  . rename_i m ek ev hp hu
    split at hr
    . rename_i es clock ho;cases hr;obtain⟨aP,q1,q2⟩:=(V hp).map_some;obtain⟨pl',r1,r2,bd,r3,r4⟩:=x.obj _ _ ho;rw[q1]at r1;cases r1;obtain⟨af,pl,g1,g2,g3,g4,g5,_⟩:=wv x (x.slot (.cj (some m) clock [] clock)) (.mapIter (some aP.aV) clock #[] clock) rfl rfl (λaf w' pl hx h0 hw=>⟨h0,some aP.aV,hw,.map (hx _ _ q1)⟩);refine⟨_,_,af, ?_,ui g1 g3,g4,g5⟩;simp only[execOp,Instr.range,q2,Sem.run_bind,he.c8 hu,qQ r3,Sem.run_pure,Result.andThen_ok,run_newObj,g2];rfl
    . cases hr
  . cases hr
 |next it s=>
  simp only[aK]at hr
  split at hr
  . cases hr
  . rename_i v hp;obtain⟨⟨r1,h1⟩,q1,rfl⟩:=of_map hr;exact dK.gives (Lp e.P x (V hp) q1 ty)
 |entry it=>
  simp only[aK]at hr
  split at hr
  . cases hr
  . rename_i v hp;obtain⟨r1,q1,rfl⟩:=of_map hr;obtain⟨v',k1,k2⟩:=Lq e.P x (V hp) q1;refine dK.same x ?_ k2;simp only[execOp,Sem.run_bind,k1,Result.andThen_ok,Sem.run_pure]
 |extract y i=>
  simp only[aK]at hr
  split at hr
  . rename_i vs hp;obtain⟨v,h1,rfl⟩:=of_map hr;obtain⟨bc,q1,q2⟩:=(V hp).C5;obtain⟨v',k1,k2⟩:=q2.get i v (by simpa using h1);refine dK.same x ?_ k2;have:bc[i]? =some v':=by simpa using k1
    simp only[execOp,q1,Instr.extract,this,Sem.run_bind,Sem.run_pure,Result.andThen_ok]
  . cases hr
 |call c=>
  exact Ls he hg ht x (by simpa only[aK]using hr) ty
 |defer c=>
  simp only[aK]at hr
  split at hr
  . rename_i f args hc ha
    split at hr
    . rename_i g az cap hf;cases hr;obtain⟨fv,k1,k2⟩:=nc hf;have ab:=wz (uh hg ht ds ha);cases fv with
      |func fn first cp=>
       simp only[mZ,qe,DE]at k2;obtain⟨rfl,rfl,rfl⟩:=k2;obtain⟨aF,a',c',e1,e2,e3,e4⟩:=(V k1).qR;have:=e2.qR;subst this;refine⟨rfl,a'++c.args.map (Act.mk a ds).eval,c', ?_,e4, ?_⟩
       . rw[PX];exact e3.append ab
       . simp only[execOp,resolve,hc,Deferred.ofValue,e1,Sem.run_bind,Sem.run_pure,Result.andThen_ok]
      |_=>simp[mZ]at k2
    . cases hr
  . cases hr
 |_=>simp[aK]at hr
end Go.au
end

/- SpacingSuffixes: parts of its proof (AbsL1 AbsL2 AbsL3). -/
import Derived.OrdersIn
import Derived.Test.YtaheljlbchkpcaaGreatDoorK06
set_option linter.unusedVariables false
set_option linter.unusedSimpArgs false
noncomputable section
namespace Go.aw
variable {e:Env}
def Same(t t':Tr Value)(xs:List Operand):Prop:=∀d,Operand.tmp d∈xs->t.get d=t'.get d
theorem Same.sub{t t':Tr Value}{xs ys:List Operand}(h:Same t t' ys)(hs:∀x∈xs,x∈ys):Same t t' xs:=λd hd=>h d (hs _ hd)
theorem uw{t t':Tr Value}{o:Operand}{xs:List Operand}(h:Same t t' xs)(ho:o∈xs):au e t o=au e t' o:=by
 cases o with
 |tmp i=>exact h i ho
 |_=>rfl
theorem wo{t t':Tr Value}:∀{xs:List Operand},Same t t' xs->df e t xs=df e t' xs
 |[],_=>rfl
 |o::r,h=>by
  simp only[df,uw (e:=e) h (List.mem_cons_self ..),wo (xs:=r) (h.sub λx hx=>List.mem_cons_of_mem _ hx)]
theorem AK{t t':Tr Value}:∀{xs:List (Nat×Operand)},Same t t' (xs.map (·.2))->fM e t xs=fM e t' xs
 |[],_=>rfl
 |(i,o)::r,h=>by
  have h1:Same t t' (o::r.map (·.2)):=h;simp only[fM,uw (e:=e) h1 (List.mem_cons_self ..),AK (xs:=r) (h1.sub λx hx=>List.mem_cons_of_mem _ hx)]
theorem E3{t t':Tr Value}{op:Op}(h:Same t t' op.operands.toList):cU e t op=cU e t' op:=by
 cases op with
 |box ty x=>simp only[cU,uw (e:=e) h (o:=x) (by simp[Op.operands])]
 |buildSlice st len parts=>
  have:Same t t' (parts.toList.map (·.2)):=h.sub λx hx=>by simpa[Op.operands]using hx
  simp only[cU,AK (e:=e) this]
 |makeSlice st l c=>simp only[cU,uw (e:=e) h (o:=l) (by simp[Op.operands]),uw (e:=e) h (o:=c) (by simp[Op.operands])]
 |makeMap t r=>cases r<;>rfl
 |_=>rfl
theorem AL{h:aa}{t t':Tr Value}{op:Op}(hs:Same t t' op.operands.toList):aL e h t op=aL e h t' op:=by
 have O:∀o,o∈op.operands.toList->au e t o=au e t' o:=λo ho=>uw hs ho;have A:=E3 (e:=e) hs;cases op with
 |move x=>simp only[aL,O x (by simp[Op.operands])]
 |assign x=>simp only[aL,O x (by simp[Op.operands])]
 |pick c a b=>simp only[aL,O c (by simp[Op.operands]),O a (by simp[Op.operands]),O b (by simp[Op.operands])]
 |build ty parts=>
  have:Same t t' (parts.toList.map (·.2)):=hs.sub λx hx=>by simpa[Op.operands]using hx
  simp only[aL,AK (e:=e) this]
 |load ty a=>simp only[aL,O a (by simp[Op.operands])]
 |store ty a x=>simp only[aL,O a (by simp[Op.operands]),O x (by simp[Op.operands])]
 |nilCheck x=>simp only[aL,O x (by simp[Op.operands])]
 |binOp op ty x y cp=>simp only[aL,O x (by simp[Op.operands]),O y (by simp[Op.operands])]
 |unOp op ty x=>simp only[aL,O x (by simp[Op.operands])]
 |convert s d x=>simp only[aL,O x (by simp[Op.operands])]
 |makeInterface ty x=>simp only[aL,O x (by simp[Op.operands])]
 |makeFunc fn first cap=>
  have h1:Same t t' first.toList:=hs.sub λx hx=>by simp[Op.operands];exact .inl (by simpa using hx)
  have h2:Same t t' cap.toList:=hs.sub λx hx=>by simp[Op.operands];exact .inr (by simpa using hx)
  cases fn<;>simp only[aL,wo (e:=e) h1,wo (e:=e) h2]
 |slice ty x lo hi mx=>
  have hx:=O x (by simp[Op.operands]);have hl:∀o,lo=some o->au e t o=au e t' o:=λo ho=>O o (by simp[Op.operands,ho]);have hh:∀o,hi=some o->au e t o=au e t' o:=λo ho=>O o (by simp[Op.operands,ho]);have hm:∀o,mx=some o->au e t o=au e t' o:=λo ho=>O o (by simp[Op.operands,ho]);simp only[aL,hx];cases lo<;>cases hi<;>cases mx<;>simp_all
 |fieldAddr s x f=>simp only[aL,O x (by simp[Op.operands])]
 |field ty x f=>simp only[aL,O x (by simp[Op.operands])]
 |indexAddr ty x ix=>simp only[aL,O x (by simp[Op.operands]),O ix (by simp[Op.operands])]
 |index ty x ix=>simp only[aL,O x (by simp[Op.operands]),O ix (by simp[Op.operands])]
 |lookup ty m k ok=>simp only[aL,O m (by simp[Op.operands]),O k (by simp[Op.operands])]
 |mapUpdate ty m k v=>simp only[aL,O m (by simp[Op.operands]),O k (by simp[Op.operands]),O v (by simp[Op.operands])]
 |insert ty m k v=>simp only[aL,O m (by simp[Op.operands]),O k (by simp[Op.operands]),O v (by simp[Op.operands])]
 |range ty x=>simp only[aL,O x (by simp[Op.operands])]
 |next it s=>simp only[aL,O it (by simp[Op.operands])]
 |entry it=>simp only[aL,O it (by simp[Op.operands])]
 |extract x i=>simp only[aL,O x (by simp[Op.operands])]
 |call c=>
  have h1:Same t t' c.args.toList:=hs.sub λx hx=>by simp[Op.operands,Call.operands];right;simpa using hx
  simp only[aL,mw,wo (e:=e) h1];cases hc:c.callee with
  |value f=>
   have h2:au e t f=au e t' f:=O f (by simp[Op.operands,Call.operands,hc]);simp only[h2]
  |_=>rfl
 |defer c=>
  have h1:Same t t' c.args.toList:=hs.sub λx hx=>by simp[Op.operands,Call.operands];right;simpa using hx
  simp only[aL,wo (e:=e) h1];cases hc:c.callee with
  |value f=>
   have h2:au e t f=au e t' f:=O f (by simp[Op.operands,Call.operands,hc]);cases df e t' c.args.toList with
   |none=>rfl
   |some args=>simp only[h2]
  |_=>rfl
 |alloc _=>simp only[aL,A]
 |box _ _=>simp only[aL,A]
 |buildSlice _ _ _=>simp only[aL,A]
 |makeMap _ _=>simp only[aL,A]
 |makeSlice _ _ _=>simp only[aL,A]
 |_=>rfl
theorem ot{h h':aa}{x:Option Value}{v:Value}(hr:(x.map λv=>AR.val v h)=some (.val v h')):h'=h:=by
 obtain⟨_,_,h2⟩:=of_map hr;cases h2;rfl
theorem MM{h h':aa}{t:Tr Value}{op:Op}{v:Value}(hc:cls op=.read)(hr:aL e h t op=some (.val v h')):h'=h:=by
 cases op with
 |load ty a=>
  simp only[aL]at hr
  split at hr
  . cases hr
  . exact ot hr
 |lookup ty m k ok=>
  simp only[aL]at hr
  split at hr
  . exact ot hr
  . cases hr
 |entry it=>
  simp only[aL]at hr
  split at hr
  . cases hr
  . exact ot hr
 |convert s d x=>
  simp only[aL]at hr
  split at hr
  . rename_i a _;cases hp:plain a with
    |true=>rw[hp]at hr;exact ot hr
    |false=>rw[hp]at hr;exact ot hr
  . cases hr
 |slice ty x lo hi mx=>
  simp only[aL]at hr
  split at hr
  . exact ot hr
  . cases hr
 |call c=>
  simp only[cls]at hc;simp only[aL,mw]at hr
  split at hr
  . cases hr
  . rename_i args _;cases ab:c.callee with
    |builtin b=>
     simp only[ab]at hc hr
     split at hr
     . cases hc
     . cases hc
     . split at hr
       . cases hr
       . exact ot hr
     . split at hr
       . cases hr
       . exact ot hr
     . cases hp:args.all plain with
       |true=>rw[hp]at hr;exact ot hr
       |false=>rw[hp]at hr;cases hr
     . cases hp:args.all plain with
       |true=>rw[hp]at hr;exact ot hr
       |false=>rw[hp]at hr;cases hr
     . cases hr
    |value f=>simp[ab]at hc
    |invoke _ _=>simp[ab]at hc
 |_=>simp[cls]at hc
theorem MN{h h':aa}{t:Tr Value}{op:Op}{v:Value}(hc:cls op=.pure)(hr:aL e h t op=some (.val v h'))(g:aa):aL e g t op=some (.val v g):=by
 have M:∀{x:Option Value},(x.map λv=>AR.val v h)=some (.val v h')->(x.map λv=>AR.val v g)=some (.val v g):=λ{x} hx=>by
  obtain⟨u,h1,h2⟩:=of_map hx;cases h2;rw[h1];rfl
 cases op with
 |move x=>simp only[aL]at hr⊢;exact M hr
 |assign x=>simp only[aL]at hr⊢;exact M hr
 |pick c a b=>
  simp only[aL]at hr⊢
  split at hr
  . exact M hr
  . exact M hr
  . cases hr
 |build ty parts=>
  simp only[aL]at hr⊢
  split at hr
  . cases hr
  . exact M hr
 |nilCheck x=>
  simp only[aL]at hr⊢
  split at hr
  . cases hr;rfl
  . cases hr;rfl
  . cases hr
 |binOp op ty x y cp=>
  simp only[aL]at hr⊢
  split at hr
  . exact M hr
  . cases hr
 |unOp op ty x=>
  simp only[aL]at hr⊢
  split at hr
  . rename_i a _;cases hp:plain a with
    |true=>rw[hp]at hr;exact M hr
    |false=>rw[hp]at hr;cases hr
  . cases hr
 |convert s d x=>cases hc
 |makeInterface ty x=>
  simp only[aL]at hr⊢
  split at hr
  . cases hr
  . cases hr;rfl
  . cases hr
 |makeFunc fn first cap=>
  cases fn with
  |func f=>
   simp only[aL]at hr⊢
   split at hr
   . cases hr;rfl
   . cases hr
  |_=>simp[aL]at hr
 |fieldAddr s x f=>
  simp only[aL]at hr⊢
  split at hr
  . split at hr
    . rename_i hb _ size _;cases hp:Nat.blt 0 size with
      |true=>rw[hp]at hr;cases hr;rfl
      |false=>rw[hp]at hr;cases hr
    . cases hr
  . cases hr
 |field ty x f=>
  simp only[aL]at hr⊢
  split at hr
  . split at hr
    . cases hr
    . exact M hr
  . cases hr
 |indexAddr ty x ix=>
  simp only[aL]at hr⊢
  split at hr
  . rename_i i len elem _ _ _
    split at hr
    . cases hr
    . cases hp:(decide (0<=i)&&decide (i<(len:Int)))with
      |true=>rw[hp]at hr;cases hr;rfl
      |false=>rw[hp]at hr;cases hr
  . rename_i len _ i elem _ _ _
    split at hr
    . cases hr
    . cases hp:(decide (0<=i)&&decide (i<(len:Int)))with
      |true=>rw[hp]at hr;cases hr;rfl
      |false=>rw[hp]at hr;cases hr
  . cases hr
 |index ty x ix=>
  simp only[aL]at hr⊢
  split at hr
  . rename_i i len elem _ _ _
    split at hr
    . cases hr
    . cases hp:(decide (0<=i)&&decide (i<(len:Int)))with
      |true=>rw[hp]at hr;exact M hr
      |false=>rw[hp]at hr;cases hr
  . exact M hr
  . cases hr
 |extract x i=>
  simp only[aL]at hr⊢
  split at hr
  . exact M hr
  . cases hr
 |call c=>
  simp only[cls]at hc
  split at hc<;>cases hc
 |_=>simp[cls]at hc
end Go.aw
end
noncomputable section
namespace Go.aw
theorem E4:∀(ops:List Oper) (acc:List Nat),(my ops acc).length=acc.length+ops.length
 |[],acc=>by simp[my]
 |o::r,acc=>by
  simp only[my,E4 r,List.length_cons];omega
theorem AM:∀(ops:List Oper) (acc:List Nat) (i:Nat),i<acc.length->(my ops acc).getD i 0=acc.reverse.getD i 0
 |[],acc,i,h=>by simp[my]
 |o::r,acc,i,h=>by
  simp only[my];rw[AM r _ i (by simp;omega)];simp only[List.reverse_cons,List.getD_eq_getElem?_getD];rw[List.getElem?_append_left (by simpa using h)]
theorem E5(look:Nat->Nat)(j:Nat):∀(l:List Edge) (s:Nat),(l.foldl (λs x=>bif Region.binds .any x then Nat.lor s (Nat.lor (2^x.on) (look x.on))else s) s).testBit j=true->
 s.testBit j=true\/∃x∈l,Region.binds .any x=true/\(j=x.on\/(look x.on).testBit j=true)
 |[],s,h=>.inl h
 |x::l,s,h=>by
  rcases E5 look j l _ h with h1|⟨y,h1,h2⟩
  . cases hb:Region.binds .any x with
    |true=>
     simp only[hb,cond_true]at h1;have aa:(s|||(2^x.on|||look x.on)).testBit j=true:=h1;rw[Nat.testBit_or,Nat.testBit_or,Bool.or_eq_true,Bool.or_eq_true]at aa;rcases aa with h2|h2|h2
     . exact .inl h2
     . rw[Nat.testBit_two_pow]at h2;exact .inr ⟨x,List.mem_cons_self ..,hb,.inl (by simpa using (of_decide_eq_true h2).symm)⟩
     . exact .inr ⟨x,List.mem_cons_self ..,hb,.inr h2⟩
    |false=>simp only[hb,cond_false]at h1;exact .inl h1
  . exact .inr ⟨y,List.mem_cons_of_mem _ h1,h2⟩
theorem E6:∀(ops:List Oper) (acc:List Nat) (k:Nat) (o:Oper) (j:Nat),ops[k]? =some o->((my ops acc).getD (acc.length+k) 0).testBit j=true->
 ∃x∈o.after.toList,Region.binds .any x=true/\(j=x.on\/((my ops acc).getD x.on 0).testBit j=true)
 |[],_,_,_,_,h,_=>by simp at h
 |o::r,acc,0,o',j,h,hj=>by
  simp at h;subst h;simp only[my,Nat.add_zero]at hj⊢;rw[AM r _ _ (by simp)]at hj;simp only[List.reverse_cons,List.getD_eq_getElem?_getD]at hj;rw[List.getElem?_append_right (by simp)]at hj;simp only[List.length_reverse,Nat.sub_self,List.getElem?_cons_zero,Option.getD_some]at hj;rcases E5 (λi=>acc.reverse[i]?.getD 0) j _ _ hj with h1|⟨x,h1,h2,h3⟩
  . simp at h1
  . refine⟨x,h1,h2,h3.imp id λh4=> ?_⟩;by_cases hl:x.on<acc.length
    . rw[AM r _ _ (by simp;omega)];simp only[List.reverse_cons,List.getD_eq_getElem?_getD];rw[List.getElem?_append_left (by simpa using hl)];simpa[List.getD_eq_getElem?_getD]using h4
    . rw[List.getElem?_eq_none (by simpa using hl)]at h4;simp at h4
 |o::r,acc,k+1,o',j,h,hj=>by
  simp at h;simp only[my]at hj⊢;refine E6 r _ k o' j h ?_;simp only[List.length_cons];rw[show acc.length+1+k=acc.length+(k+1) by omega];exact hj
theorem E7{ops:List Oper}{i j:Nat}{o:Oper}(ho:ops[i]? =some o)(h:((bl ops).getD i 0).testBit j=true):
 ∃x∈o.after.toList,Region.binds .any x=true/\(j=x.on\/((bl ops).getD x.on 0).testBit j=true):=by
 have:=E6 ops [] i o j ho (by simpa[bl]using h);simpa[bl]using this
theorem yf(ops:List Oper):(bl ops).length=ops.length:=by simp[bl,E4]
theorem pL{α:Type}{l:List α}{i:Nat}{a:α}(h:l[i]? =some a):(a,i)∈l.zipIdx:=by
 rw[List.mem_zipIdx_iff_getElem?];exact h
structure ux(ops:List Oper)(ms:List Nat):Prop where
 back:∀(i:Nat) (o:Oper),ops[i]? =some o->∀x∈o.after.toList,Region.binds .any x=true->x.on<i
 guard:∀(i:Nat) (o:Oper) (j:Nat) (b:Bool),ops[i]? =some o->o.guard=some (j,b)->(ms.getD i 0).testBit j=true
 once:∀(i:Nat) (o:Oper) (j:Nat) (p:Oper) (d:Tmp),ops[i]? =some o->ops[j]? =some p->o.dst=some d->p.dst=some d->i=j
 use:∀(i:Nat) (o:Oper) (j:Nat) (p:Oper) (d:Tmp),ops[i]? =some o->ops[j]? =some p->o.dst=some d->Operand.tmp d∈p.op.operands.toList->i≠j/\(i<j->(ms.getD j 0).testBit i=true)/\(j<i->(ms.getD i 0).testBit j=true)
 dc:∀(i:Nat) (o:Oper) (j:Nat) (p:Oper),ops[i]? =some o->ops[j]? =some p->cls o.op=.effect->cls p.op=.effect->i<j->(ms.getD j 0).testBit i=true
theorem E8{o:Oper}{d:Tmp}(h:Operand.tmp d∈o.op.operands.toList):(tmpsOf o).contains d=true:=by
 simp only[tmpsOf,List.contains_eq_mem,decide_eq_true_eq,List.mem_filterMap];exact⟨_,h,rfl⟩
theorem MO{ops:List Oper}{ms:List Nat}(h:qG ops ms=true):ux ops ms:=by
 simp only[qG,Bool.and_eq_true,List.all_eq_true]at h;obtain⟨⟨⟨⟨h1,h2⟩,h3⟩,h4⟩,h5⟩:=h;refine⟨λi o ho x hx hb=> ?_,λi o j b ho hg=> ?_,λi o j p d ho hp hd ab=> ?_,λi o j p d ho hp hd hu=> ?_,λi o j p ho hp hc ad ae=> ?_⟩
 . have:=h1 (o,i) (pL ho) x hx;simp only[hb,Bool.not_true,Bool.false_or]at this;exact Nat.le_of_ble_eq_true this
 . have:=h2 (o,i) (pL ho);simp only[hg]at this;exact this
 . have:=h3 (o,i) (pL ho);simp only[hd,List.all_eq_true]at this;have:=this (p,j) (pL hp);simp only[ab,Bool.or_eq_true,Bool.and_eq_true]at this;rcases this with h|⟨h,_⟩
   . exact Nat.eq_of_beq_eq_true h
   . simp at h
 . have h6:i≠j:=λe=>by
    subst e;rw[ho]at hp;cases hp;have:=h4 (o,i) (pL ho);simp only[hd]at this;rw[E8 hu]at this;cases this
   have:=h3 (o,i) (pL ho);simp only[hd,List.all_eq_true]at this;have:=this (p,j) (pL hp);simp only[Bool.or_eq_true,Bool.and_eq_true,E8 hu,Bool.not_true,Bool.false_eq_true,false_or]at this;rcases this with h|⟨_,h⟩
   . exact absurd (Nat.eq_of_beq_eq_true h) h6
   . refine⟨h6,λhl=> ?_,λhl=> ?_⟩
     . have hb:Nat.blt i j=true:=Nat.ble_eq_true_of_le hl;rw[hb]at h;exact h
     . have hb:Nat.blt i j=false:=by
        cases hc:Nat.blt i j with
        |false=>rfl
        |true=>have:i<j:=Nat.le_of_ble_eq_true hc;omega
       rw[hb]at h;exact h
 . have m1:(o,i)∈ops.zipIdx.filter λ(o,i)=>cls o.op==.effect:=List.mem_filter.2 ⟨pL ho,by simp[hc]⟩;have m2:(p,j)∈ops.zipIdx.filter λ(o,i)=>cls o.op==.effect:=List.mem_filter.2 ⟨pL hp,by simp[ad]⟩;have:=h5 _ m1 _ m2;have hb:Nat.blt i j=true:=Nat.ble_eq_true_of_le ae;simp only[hb,Bool.not_true,Bool.false_or]at this;exact this
theorem yg{ops:List Oper}(f:ux ops (bl ops)):∀(i:Nat) (o:Oper) (j:Nat),ops[i]? =some o->((bl ops).getD i 0).testBit j=true->j<i:=by
 intro i
 induction i using Nat.strongRecOn with
 |_ i ih=>
  intro o j ho h;obtain⟨x,h1,h2,h3⟩:=E7 ho h;have hx:=f.back i o ho x h1 h2;rcases h3 with rfl|h3
  . exact hx
  . have af:x.on<ops.length:=Nat.lt_trans hx (List.getElem?_eq_some_iff.1 ho).1;exact Nat.lt_trans (ih x.on hx _ j (List.getElem?_eq_getElem af) h3) hx
theorem AN:∀(l:List (Oper×Nat)) (b p i m:Nat),(j9 l b)[p]? =some (i,m)->b<=i/\∃o,l[i-b]? =some (o,m)/\cls o.op=.effect
 |[],_,_,_,_,h=>by simp[j9]at h
 |(o,m0)::r,b,p,i,m,h=>by
  simp only[j9]at h;have next:∀q,(j9 r (b+1))[q]? =some (i,m)->b<=i/\∃o',((o,m0)::r)[i-b]? =some (o',m)/\cls o'.op=.effect:=λq hq=>by
   obtain⟨h1,o',h2,h3⟩:=AN r (b+1) q i m hq;refine⟨by omega,o', ?_,h3⟩;have:i-b=(i-(b+1))+1:=by omega
   rw[this];simpa using h2
  cases hc:cls o.op==.effect with
  |true=>
   rw[hc]at h;cases p with
   |zero=>
    simp only[cond_true,List.getElem?_cons_zero,Option.some.injEq,Prod.mk.injEq]at h;obtain⟨rfl,rfl⟩:=h;exact⟨Nat.le_refl _,o,by simp,by simpa using hc⟩
   |succ p=>exact next p (by simpa using h)
  |false=>rw[hc]at h;exact next p h
theorem E9:∀(l:List (Oper×Nat)) (b k:Nat) (o:Oper) (m:Nat),l[k]? =some (o,m)->cls o.op=.effect->∃p:Nat,(j9 l b)[p]? =some (b+k,m)
 |[],_,_,_,_,h,_=>by simp at h
 |(o,m0)::r,b,0,o',m,h,hc=>by
  simp at h;obtain⟨rfl,rfl⟩:=h;refine⟨0, ?_⟩;simp[j9,hc]
 |(o,m0)::r,b,k+1,o',m,h,hc=>by
  simp at h;obtain⟨p,hp⟩:=E9 r (b+1) k o' m h hc;have e:b+1+k=b+(k+1):=by omega
  rw[e]at hp;simp only[j9];cases hc:cls o.op==.effect with
  |true=>exact⟨p+1,by simpa using hp⟩
  |false=>exact⟨p,by simpa using hp⟩
theorem yh:∀(l:List (Oper×Nat)) (b p q i m j k:Nat),(j9 l b)[p]? =some (i,m)->(j9 l b)[q]? =some (j,k)->p<q->i<j
 |[],_,_,_,_,_,_,_,h,_,_=>by simp[j9]at h
 |(o,m0)::r,b,p,q,i,m,j,k,h,h',ai=>by
  simp only[j9]at h h';cases hc:cls o.op==.effect with
  |true=>
   simp only[hc,cond_true]at h h';obtain⟨q,rfl⟩:∃q',q=q'+1:=⟨q-1,by omega⟩;simp only[List.getElem?_cons_succ]at h';cases p with
   |zero=>
    simp only[List.getElem?_cons_zero,Option.some.injEq,Prod.mk.injEq]at h;have:=(AN r (b+1) q j k h').1;omega
   |succ p=>exact yh r (b+1) p q i m j k (by simpa using h) h' (by omega)
  |false=>
   simp only[hc,cond_false]at h h';exact yh r (b+1) p q i m j k h h' ai
theorem filter_le{α:Type}(f:α->Bool):∀(l:List α) (m:Nat),(∀q a,l[q]? =some a->f a=true->q<m)->(l.filter f).length<=m
 |[],m,_=>by simp
 |a::l,m,h=>by
  cases m with
  |zero=>
   have:(a::l).filter f=[]:=by
    rw[List.filter_eq_nil_iff];intro x hx hf;obtain⟨q,hq⟩:=List.getElem?_of_mem hx;exact absurd (h q x hq hf) (Nat.not_lt_zero _)
   rw[this];simp
  |succ m=>
   have ih:=filter_le f l m λq x hq hf=>by
    have:=h (q+1) x (by simpa using hq) hf;omega
   rw[List.filter_cons]
   split
   . simp;omega
   . omega
theorem le_filter{α:Type}(f:α->Bool):∀(l:List α) (m:Nat),m<=l.length->(∀q a,q<m->l[q]? =some a->f a=true)->m<=(l.filter f).length
 |[],m,hm,_=>by simpa using hm
 |a::l,m,hm,h=>by
  cases m with
  |zero=>exact Nat.zero_le _
  |succ m=>
   have hf:=h 0 a (by omega) rfl;rw[List.filter_cons,if_pos hf];simp only[List.length_cons];exact Nat.succ_le_succ (le_filter f l m (by simpa using hm) λq x hq hx=>h (q+1) x (by omega) (by simpa using hx))
end Go.aw
end
noncomputable section
namespace Go.aw
variable {e:Env}
def jE(t:Tr Value)(dst:Option Tmp)(v:Value):Tr Value:=
 match dst with
 |none=>t
 |some d=>t.set d (some v)
theorem wq{s s':aE}{dst:Option Tmp}{v:Value}(h:fN s dst v=some s'):s'={s with t:=jE s.t dst v}/\∀d,dst=some d->d<s.n:=by
 cases dst with
 |none=>simp only[sj,Option.some.injEq]at h;subst h;exact⟨rfl,λ_ h=>by cases h⟩
 |some d=>
  simp only[sj]at h;obtain⟨h1,h2⟩:=ca h;cases h2;exact⟨rfl,λd' h=>by cases h;exact Nat.le_of_ble_eq_true h1⟩
theorem yi{s:aE}{dst:Option Tmp}(v:Value)(h:∀d,dst=some d->d<s.n):fN s dst v=some {s with t:=jE s.t dst v}:=by
 cases dst with
 |none=>rfl
 |some d=>
  have hb:Nat.blt d s.n=true:=Nat.ble_eq_true_of_le (h d rfl);simp only[sj,hb,cond_true];rfl
theorem MP{h:aa}{t:Tr Value}{op:Op}(hc:cls op=.effect){f:FuncId}{az cap:List Value}{h':aa}:aL e h t op≠some (.defer f az cap h'):=by
 intro hr;cases op with
 |store ty a x=>
  simp only[aL]at hr
  split at hr
  . obtain⟨_,_,h2⟩:=of_map hr;cases h2
  . cases hr
 |mapUpdate ty m k v=>
  simp only[aL]at hr
  split at hr
  . obtain⟨_,_,h2⟩:=of_map hr;cases h2
  . cases hr
 |insert ty m k v=>
  simp only[aL]at hr
  split at hr
  . obtain⟨_,_,h2⟩:=of_map hr;cases h2
  . cases hr
 |range ty x=>
  simp only[aL]at hr
  split at hr
  . cases hr
  . cases hr
  . split at hr<;>cases hr
  . cases hr
 |next it s=>
  simp only[aL]at hr
  split at hr
  . cases hr
  . obtain⟨_,_,h2⟩:=of_map hr;cases h2
 |call c=>
  simp only[aL,mw]at hr
  split at hr
  . cases hr
  . split at hr
    . split at hr
      . cases hr
      . split at hr<;>cases hr
    . cases hr
    . split at hr
      . obtain⟨_,_,h2⟩:=of_map hr;cases h2
      . obtain⟨_,_,h2⟩:=of_map hr;cases h2
      . split at hr
        . cases hr
        . obtain⟨_,_,h2⟩:=of_map hr;cases h2
      . split at hr
        . cases hr
        . obtain⟨_,_,h2⟩:=of_map hr;cases h2
      . rename_i args _ _ _ _ _;cases hp:args.all plain with
        |true=>rw[hp]at hr;obtain⟨_,_,h2⟩:=of_map hr;cases h2
        |false=>rw[hp]at hr;cases hr
      . rename_i args _ _ _ _ _;cases hp:args.all plain with
        |true=>rw[hp]at hr;obtain⟨_,_,h2⟩:=of_map hr;cases h2
        |false=>rw[hp]at hr;cases hr
      . cases hr
 |_=>simp[cls]at hc
theorem MQ{cf:ff}{rf:gW}{ro:Option Nat}{o:Oper}{s s':aE}(hc:∀f az cap h',aL e s.h s.t o.op≠some (.defer f az cap h'))(h:m9 e cf rf ro o s=some s'):
 ∃v,s'={s with t:=jE s.t o.dst v,h:=s'.h}/\(∀d,o.dst=some d->d<s.n)/\
  ∀t2,Same t2 s.t o.op.operands.toList->m9 e cf rf ro o {s with t:=t2}=some {s with t:=jE t2 o.dst v,h:=s'.h}:=by
 simp only[x4]at h⊢;cases hr:aL e s.h s.t o.op with
 |none=>simp[hr]at h
 |some r=>
  have aJ:∀t2,Same t2 s.t o.op.operands.toList->aL e s.h t2 o.op=some r:=λt2 h2=>by rw[AL h2,hr]
  simp only[hr]at h;have fin:∀(h1:aa) (v:Value),fN {s with h:=h1} o.dst v=some s'->s'={s with t:=jE s.t o.dst v,h:=s'.h}/\(∀d,o.dst=some d->d<s.n)/\
   ∀t2:Tr Value,fN {s with h:=h1,t:=t2} o.dst v=some {s with t:=jE t2 o.dst v,h:=s'.h}:=λh1 v hp=>by
   obtain⟨q1,q2⟩:=wq hp;subst q1;exact⟨rfl,q2,λt2=>yi v q2⟩
  cases r with
  |val v h1=>
   obtain⟨q1,q2,q3⟩:=fin h1 v h;refine⟨v,q1,q2,λt2 h2=> ?_⟩;simp only[aJ t2 h2];exact q3 t2
  |skip h1=>
   obtain⟨q1,q2,q3⟩:=fin h1 undef h;refine⟨undef,q1,q2,λt2 h2=> ?_⟩;simp only[aJ t2 h2];exact q3 t2
  |enter f args h1=>
   simp only at h;cases aF:cf f args h1 with
   |none=>simp[aF]at h
   |some r2=>
    simp only[aF]at h;obtain⟨q1,q2,q3⟩:=fin r2.2 r2.1 h;refine⟨r2.1,q1,q2,λt2 h2=> ?_⟩;simp only[aJ t2 h2,aF];exact q3 t2
  |round l args h1=>
   simp only at h;cases aF:rf l args h1 with
   |none=>simp[aF]at h
   |some r2=>
    simp only[aF]at h;obtain⟨q1,q2,q3⟩:=fin r2.2 r2.1 h;refine⟨r2.1,q1,q2,λt2 h2=> ?_⟩;simp only[aJ t2 h2,aF];exact q3 t2
  |defer f az cap h1=>exact absurd hr (hc f az cap h1)
inductive pM(e:Env)(cf:ff)(rf:gW)(ro:Option Nat)(ops:List Oper)(i id m:Nat)(o:Oper)(x x':cH)(inc:Nat)(v:Value):Prop
 |skip:cY ops x.s o=some false->v=undef->x'.an=x.an->x'.all=x.all->x'.s.h=x.s.h->(cls o.op=.effect->x'.bE=(inc,x.s.h)::x.bE)->(cls o.op≠.effect->x'.bE=x.bE)->pM e cf rf ro ops i id m o x x' inc v
 |pure (h1:aa):cY ops x.s o=some true->cls o.op=.pure->aL e x.s.h x.s.t o.op=some (.val v h1)->x'.an=x.an->x'.all=x.all->x'.s.h=x.s.h->x'.bE=x.bE->pM e cf rf ro ops i id m o x x' inc v
 |read (h1:aa):cY ops x.s o=some true->cls o.op=.read->aL e (cg x.s.h m x.an) x.s.t o.op=some (.val v h1)->x'.an=x.an->x'.all=x.all->x'.s.h=x.s.h->x'.bE=x.bE->pM e cf rf ro ops i id m o x x' inc v
 |alloc (ob:bK) (f:Nat->Value):cY ops x.s o=some true->cls o.op=.alloc->cU e x.s.t o.op=some (ob,f)->v=f id->x'.an=(i,id,ob)::x.an->x'.all=(i,id,ob)::x.all->x'.s.h=x.s.h->x'.bE=x.bE->pM e cf rf ro ops i id m o x x' inc v
 |effect (s1:aE):cY ops x.s o=some true->cls o.op=.effect->m9 e cf rf ro o {x.s with h:=cg x.s.h m x.an}=some s1->s1.t=jE x.s.t o.dst v->s1.h=x'.s.h->
  (∀t2,Same t2 x.s.t o.op.operands.toList->m9 e cf rf ro o {x.s with t:=t2,h:=cg x.s.h m x.an}=some {x.s with t:=jE t2 o.dst v,h:=x'.s.h})->
  x'.an=x.an.filter (λp=> !m.testBit p.1)->x'.all=x.all->x'.bE=(Nat.lor inc m,x'.s.h)::x.bE->pM e cf rf ro ops i id m o x x' inc v
structure Step(x x':cH)(o:Oper)(v:Value):Prop where
 t:x'.s.t=jE x.s.t o.dst v
 lt:∀d,o.dst=some d->d<x.s.n
 n:x'.s.n=x.s.n
 ds:x'.s.ds=x.s.ds
 dg:x'.dg=x.s.t::x.dg
theorem MR{cf:ff}{rf:gW}{ro:Option Nat}{ops:List Oper}{i id m:Nat}{o:Oper}{x x':cH}{inc:Nat}{tl:List (Nat×aa)}(aI:x.bE=(inc,x.s.h)::tl)
 (h:uh e cf rf ro ops i id m o {x with dg:=x.s.t::x.dg}=some x'):∃v,Step x x' o v/\pM e cf rf ro ops i id m o x x' inc v:=by
 have aO:(x.bE.head?.map (·.1)).getD 0=inc:=by rw[aI];rfl
 unfold uh at h;simp only[aO]at h;cases hw:cY ops x.s o with
 |none=>simp[hw]at h
 |some b=>
  cases b with
  |false=>
   simp only[hw]at h;cases hp:fN x.s o.dst undef with
   |none=>simp[hp]at h
   |some s1=>
    simp only[hp]at h;obtain⟨q1,q2⟩:=wq hp;subst q1
    split at h
    . rename_i hc;cases h;exact⟨undef,⟨rfl,q2,rfl,rfl,rfl⟩,.skip hw rfl rfl rfl rfl (λ_=>rfl) λhn=>absurd hc hn⟩
    . cases h
    . rename_i hc _;cases h;exact⟨undef,⟨rfl,q2,rfl,rfl,rfl⟩,.skip hw rfl rfl rfl rfl (λhn=>absurd hn hc) λ_=>rfl⟩
  |true=>
   simp only[hw]at h
   split at h
   . rename_i hc
     split at h
     . rename_i v h1 hr;obtain⟨s1,hp,rfl⟩:=of_map h;obtain⟨q1,q2⟩:=wq hp;subst q1;exact⟨v,⟨rfl,q2,rfl,rfl,rfl⟩,.pure h1 hw hc hr rfl rfl rfl rfl⟩
     . cases h
   . rename_i hc
     split at h
     . rename_i v h1 hr;obtain⟨s1,hp,rfl⟩:=of_map h;obtain⟨q1,q2⟩:=wq hp;subst q1;exact⟨v,⟨rfl,q2,rfl,rfl,rfl⟩,.read h1 hw hc hr rfl rfl rfl rfl⟩
     . cases h
   . rename_i hc
     split at h
     . cases h
     . rename_i ob f hr;obtain⟨s1,hp,rfl⟩:=of_map h;obtain⟨q1,q2⟩:=wq hp;subst q1;exact⟨f id,⟨rfl,q2,rfl,rfl,rfl⟩,.alloc ob f hw hc hr rfl rfl rfl rfl rfl⟩
   . rename_i hc
     split at h
     . cases h
     . rename_i s1 hr;obtain⟨v,q1,q2,q3⟩:=MQ (λ_ _ _ _=>MP hc) hr;cases h;have e1:s1.t=jE x.s.t o.dst v:=by rw[q1]
       have e2:s1.n=x.s.n:=by rw[q1]
       have e3:s1.ds=x.s.ds:=by rw[q1]
       exact⟨v,⟨e1,q2,e2,e3,rfl⟩,.effect s1 hw hc hr e1 rfl q3 rfl rfl rfl⟩
   . cases h
theorem uy(t:Tr Value)(dst:Option Tmp)(v:Value)(d:Tmp):(jE t dst v).get d=if dst=some d then some v else t.get d:=by
 cases dst with
 |none=>simp[jE]
 |some d'=>
  simp only[jE,Tr.bw,Option.some.injEq];by_cases h:d=d'
  . subst h;simp
  . rw[if_neg h,if_neg (Ne.symm h)]
abbrev dc(ops:List Oper):List (Nat×Nat):=j9 (ops.zip (bl ops)) 0
def qL(o:Oper):Bool:=cls o.op==.alloc
def lz(ops:List Oper)(S:Nat->Prop)(m:Nat):Prop:=m<=(dc ops).length/\∀(p i k:Nat),(dc ops)[p]? =some (i,k)->(S i↔p<m)
theorem wu{ops:List Oper}{p i k:Nat}(h:(dc ops)[p]? =some (i,k)):∃o,ops[i]? =some o/\k=(bl ops).getD i 0/\cls o.op=.effect:=by
 obtain⟨_,o,h1,h2⟩:=AN _ _ _ _ _ h;simp only[Nat.sub_zero]at h1;rw[List.getElem?_zip_eq_some]at h1;exact⟨o,h1.1,by rw[List.getD_eq_getElem?_getD,h1.2];rfl,h2⟩
theorem AO{ops:List Oper}{i:Nat}{o:Oper}(h:ops[i]? =some o):(ops.zip (bl ops))[i]? =some (o,(bl ops).getD i 0):=by
 rw[List.getElem?_zip_eq_some];refine⟨h, ?_⟩;have:i<(bl ops).length:=by rw[yf];exact(List.getElem?_eq_some_iff.1 h).1
 rw[List.getD_eq_getElem?_getD,List.getElem?_eq_getElem this];rfl
theorem MT{ops:List Oper}{i:Nat}{o:Oper}(h:ops[i]? =some o)(hc:cls o.op=.effect):∃p:Nat,(dc ops)[p]? =some (i,(bl ops).getD i 0):=by
 have:=E9 (ops.zip (bl ops)) 0 i o _ (AO h) hc;simpa using this
theorem lz.more{ops:List Oper}{S S':Nat->Prop}{m i:Nat}(h:lz ops S m)(f:ux ops (bl ops)){o:Oper}(ho:ops[i]? =some o)(hc:cls o.op=.effect)(hi:¬S i)
 (hm:∀j,((bl ops).getD i 0).testBit j=true->S j) (hS:∀j,S' j↔S j\/j=i):lz ops S' (m+1)/\(dc ops)[m]? =some (i,(bl ops).getD i 0):=by
 obtain⟨p,hp⟩:=MT ho hc;have h1:¬p<m:=λhl=>hi ((h.2 p _ _ hp).2 hl);have aN:=(List.getElem?_eq_some_iff.1 hp).1;have h2:p=m:=by
  rcases Nat.lt_trichotomy p m with hl|rfl|hl
  . exact absurd hl h1
  . rfl
  . exfalso;have hq:=List.getElem?_eq_getElem (Nat.lt_trans hl aN);generalize (dc ops)[m]'(Nat.lt_trans hl aN)=jk at hq;obtain⟨j,k⟩:=jk;have aT:=yh _ _ _ _ _ _ _ _ hq hp hl;obtain⟨o',q1,q2,q3⟩:=wu hq;have:=(h.2 m _ _ hq).1 (hm j (f.dc j o' i o q1 ho q3 hc aT));omega
 subst h2;refine⟨⟨by omega,λq j k hq=> ?_⟩,hp⟩;rw[hS,h.2 q j k hq];constructor
 . rintro(hl|rfl)
   . omega
   . rcases Nat.lt_trichotomy q p with hl|rfl|hl
     . omega
     . omega
     . have:=yh _ _ _ _ _ _ _ _ hp hq hl;omega
 . intro hl;rcases Nat.lt_or_ge q p with aR|aR
   . exact .inl aR
   . have:q=p:=by omega
     subst this;rw[hp]at hq;cases hq;exact .inr rfl
theorem lz.same{ops:List Oper}{S S':Nat->Prop}{m i:Nat}(h:lz ops S m){o:Oper}(ho:ops[i]? =some o)(hc:cls o.op≠.effect)(hS:∀j,S' j↔S j\/j=i):lz ops S' m:=by
 refine⟨h.1,λq j k hq=> ?_⟩;rw[hS,<-h.2 q j k hq];constructor
 . rintro(hl|rfl)
   . exact hl
   . obtain⟨o',q1,q2,q3⟩:=wu hq;rw[ho]at q1;cases q1;exact absurd q3 hc
 . exact .inl
structure qM(s0:aE)(base N:Nat)(ops:List Oper)(k id:Nat)(x:cH)(m inc:Nat):Prop where
 n:x.s.n=s0.n
 ds:x.s.ds=s0.ds
 t:∀d,(∀(j:Nat) (o:Oper),j<k->ops[j]? =some o->o.dst≠some d)->x.s.t.get d=s0.t.get d
 jh:∃tl,x.bE=(inc,x.s.h)::tl
 len:x.bE.length=m+1
 gq:lz ops (·<k) m
 an:∀p,p∈x.an↔p∈x.all/\inc.testBit p.1=false
 pN:∀p∈x.all,p.1<k/\base<=p.2.1/\p.2.1<id
 inj:∀p q,p∈x.all->q∈x.all->p.2.1=q.2.1->p=q
 wv:∀j,inc.testBit j=true->j<k
 dg:x.dg.length=k
 ge:base<=id
 sum:id+((ops.drop k).filter qL).length=N
structure jF(ops:List Oper)(k:Nat)(x xf:cH):Prop where
 t:∀d,(∀(j:Nat) (o:Oper),k<=j->ops[j]? =some o->o.dst≠some d)->xf.s.t.get d=x.s.t.get d
 bE:∃l,xf.bE=l++x.bE
 all:∃l,xf.all=l++x.all/\∀p∈l,k<=p.1
 dg:∃l,xf.dg=l++x.dg
theorem jF.refl(ops:List Oper)(k:Nat)(x:cH):jF ops k x x:=⟨λ_ _=>rfl,⟨[],rfl⟩,⟨[],rfl,by simp⟩,⟨[],rfl⟩⟩
theorem MU{cf:ff}{rf:gW}{ro:Option Nat}{s0:aE}{base N:Nat}{ops:List Oper}(f:ux ops (bl ops)){k id m inc:Nat}{x x':cH}{o:Oper}{v:Value}(ho:ops[k]? =some o)(hp:qM s0 base N ops k id x m inc)
 (hs:Step x x' o v) (hd:pM e cf rf ro ops k id ((bl ops).getD k 0) o x x' inc v):
 (∃m' au,qM s0 base N ops (k+1) (nextId o id) x' m' au)/\(∀xf,jF ops (k+1) x' xf->jF ops k x xf):=by
 have aD:ops.drop k=o::ops.drop (k+1):=by
  obtain⟨hl,rfl⟩:=List.getElem?_eq_some_iff.1 ho;exact List.drop_eq_getElem_cons hl
 have av:∀j,((bl ops).getD k 0).testBit j=true->j<k:=λj=>yg f k o j ho;have hS:∀j,j<k+1↔j<k\/j=k:=λj=>by omega
 have ae:x'.s.n=s0.n:=hs.n.trans hp.n;have af:x'.s.ds=s0.ds:=hs.ds.trans hp.ds;have ai:∀d,(∀(j:Nat) (o:Oper),j<k+1->ops[j]? =some o->o.dst≠some d)->x'.s.t.get d=s0.t.get d:=λd hd=>by
  rw[hs.t,uy,if_neg (hd k o (by omega) ho)];exact hp.t d λj o' hj=>hd j o' (by omega)
 have ao:x'.dg.length=k+1:=by rw[hs.dg];simp[hp.dg]
 have lt:∀xf,jF ops (k+1) x' xf->∀d,(∀(j:Nat) (o:Oper),k<=j->ops[j]? =some o->o.dst≠some d)->xf.s.t.get d=x.s.t.get d:=λxf hl d hd=>by
  rw[hl.t d λj o' hj=>hd j o' (by omega),hs.t,uy,if_neg (hd k o (Nat.le_refl _) ho)]
 have ls:∀xf,jF ops (k+1) x' xf->∃l,xf.dg=l++x.dg:=λxf hl=>by
  obtain⟨l,hl⟩:=hl.dg;exact⟨l++[x.s.t],by rw[hl,hs.dg];simp⟩
 have aB:cls o.op≠.alloc->nextId o id+((ops.drop (k+1)).filter qL).length=N:=λhc=>by
  have h1:qL o=false:=by simp[qL,hc]
  have:=hp.sum;rw[aD,List.filter_cons,h1]at this;have h2:(cls o.op==ug.alloc)=false:=h1;simpa[nextId,h2]using this
 have ab:cls o.op=.alloc->nextId o id=id+1/\id+1+((ops.drop (k+1)).filter qL).length=N:=λhc=>by
  have h1:qL o=true:=by simp[qL,hc]
  have:=hp.sum;rw[aD,List.filter_cons,h1]at this;refine⟨by simp[nextId,hc], ?_⟩;simp only[if_true,List.length_cons]at this;omega
 have sum:nextId o id+((ops.drop (k+1)).filter qL).length=N:=by
  by_cases hc:cls o.op=.alloc
  . obtain⟨h1,h2⟩:=ab hc;omega
  . exact aB hc
 have idle:id<=nextId o id:=by
  by_cases hc:cls o.op=.alloc
  . have:=(ab hc).1;omega
  . have h2:(cls o.op==ug.alloc)=false:=by simp[hc]
    simp[nextId,h2]
 have ad:x'.all=x.all->(∀p∈x'.all,p.1<k+1/\base<=p.2.1/\p.2.1<nextId o id)/\(∀p q,p∈x'.all->q∈x'.all->p.2.1=q.2.1->p=q)/\(∀xf,jF ops (k+1) x' xf->∃l,xf.all=l++x.all/\∀p∈l,k<=p.1):=λha=>by
  rw[ha];refine⟨λp ay=> ?_,hp.inj,λxf hl=> ?_⟩
  . obtain⟨h1,h2,h3⟩:=hp.pN p ay;exact⟨by omega,h2,by omega⟩
  . obtain⟨l,h1,h2⟩:=hl.all;exact⟨l,by rw[h1,ha],λp ay=>Nat.le_of_succ_le (h2 p ay)⟩
 obtain⟨tl,aI⟩:=hp.jh;have quiet:x'.an=x.an->x'.all=x.all->x'.s.h=x.s.h->x'.bE=x.bE->cls o.op≠.effect->
  (∃m' au,qM s0 base N ops (k+1) (nextId o id) x' m' au)/\(∀xf,jF ops (k+1) x' xf->jF ops k x xf):=λh1 h2 h3 h4 h5=>by
  obtain⟨a1,a2,a3⟩:=ad h2;refine⟨⟨m,inc,ae,af,ai,⟨tl,by rw[h4,h3,aI]⟩,by rw[h4];exact hp.len,hp.gq.same ho h5 hS,by rw[h1,h2];exact hp.an,a1,a2,λj hj=>Nat.lt_succ_of_lt (hp.wv j hj),ao,Nat.le_trans hp.ge idle,sum⟩,λxf hl=> ?_⟩;exact⟨lt xf hl,by obtain⟨l,hl⟩:=hl.bE;exact⟨l,by rw[hl,h4]⟩,a3 xf hl,ls xf hl⟩
 cases hd with
 |skip hw hv h1 h2 h3 h4 h5=>
  by_cases hc:cls o.op=.effect
  . obtain⟨a1,a2,a3⟩:=ad h2;refine⟨⟨m+1,inc,ae,af,ai,⟨x.bE,by rw[h4 hc,h3]⟩,by rw[h4 hc,List.length_cons,hp.len],(hp.gq.more f ho hc (Nat.lt_irrefl _) av hS).1,by rw[h1,h2];exact hp.an,a1,a2,λj hj=>Nat.lt_succ_of_lt (hp.wv j hj),ao,Nat.le_trans hp.ge idle,sum⟩,λxf hl=> ?_⟩;exact⟨lt xf hl,by obtain⟨l,hl⟩:=hl.bE;exact⟨l++[(inc,x.s.h)],by rw[hl,h4 hc];simp⟩,a3 xf hl,ls xf hl⟩
  . exact quiet h1 h2 h3 (h5 hc) hc
 |pure hh hw hc hr h1 h2 h3 h4=>exact quiet h1 h2 h3 h4 (by rw[hc];decide)
 |read hh hw hc hr h1 h2 h3 h4=>exact quiet h1 h2 h3 h4 (by rw[hc];decide)
 |alloc ob g hw hc hr hv h1 h2 h3 h4=>
  obtain⟨y1,y2⟩:=ab hc;refine⟨⟨m,inc,ae,af,ai,⟨tl,by rw[h4,h3,aI]⟩,by rw[h4];exact hp.len,hp.gq.same ho (by rw[hc];decide) hS,λp=> ?_,λp ay=> ?_,λp q h5 h6 h7=> ?_,λj hj=>Nat.lt_succ_of_lt (hp.wv j hj),ao,Nat.le_trans hp.ge idle,sum⟩,λxf hl=> ?_⟩
  . rw[h1,h2,List.mem_cons,List.mem_cons,hp.an];constructor
    . rintro(rfl|⟨h5,h6⟩)
      . refine⟨.inl rfl, ?_⟩;cases hb:inc.testBit k with
        |false=>rfl
        |true=>exact absurd (hp.wv k hb) (Nat.lt_irrefl _)
      . exact⟨.inr h5,h6⟩
    . rintro⟨rfl|h5,h6⟩
      . exact .inl rfl
      . exact .inr ⟨h5,h6⟩
  . rw[h2,List.mem_cons]at ay;rcases ay with rfl|ay
    . exact⟨Nat.lt_succ_self _,hp.ge,by rw[y1];exact Nat.lt_succ_self _⟩
    . obtain⟨g1,g2,g3⟩:=hp.pN p ay;exact⟨by omega,g2,by omega⟩
  . rw[h2,List.mem_cons]at h5 h6;rcases h5 with rfl|h5<;>rcases h6 with rfl|h6
    . rfl
    . have:=(hp.pN q h6).2.2;simp only at h7;omega
    . have:=(hp.pN p h5).2.2;simp only at h7;omega
    . exact hp.inj p q h5 h6 h7
  . refine⟨lt xf hl,by obtain⟨l,hl⟩:=hl.bE;exact⟨l,by rw[hl,h4]⟩, ?_,ls xf hl⟩;obtain⟨l,g1,g2⟩:=hl.all;refine⟨l++[(k,id,ob)],by rw[g1,h2];simp,λp ay=> ?_⟩;rcases List.mem_append.1 ay with h5|h5
    . exact Nat.le_of_succ_le (g2 p h5)
    . simp at h5;subst h5;exact Nat.le_refl _
 |effect s1 hw hc hr ht hh aJ h1 h2 h3=>
  obtain⟨a1,a2,a3⟩:=ad h2;have aS:∀j,(Nat.lor inc ((bl ops).getD k 0)).testBit j=(inc.testBit j||((bl ops).getD k 0).testBit j):=λj=>Nat.testBit_or _ _ _;refine⟨⟨m+1,Nat.lor inc ((bl ops).getD k 0),ae,af,ai,⟨x.bE,h3⟩,by rw[h3,List.length_cons,hp.len],(hp.gq.more f ho hc (Nat.lt_irrefl _) av hS).1,λp=> ?_,a1,a2,λj hj=> ?_,ao,Nat.le_trans hp.ge idle,sum⟩,λxf hl=> ?_⟩
  . rw[h1,h2,List.mem_filter,hp.an,aS];simp only[Bool.not_eq_true',Bool.or_eq_false_iff,and_assoc]
  . rw[aS,Bool.or_eq_true]at hj;rcases hj with hj|hj
    . exact Nat.lt_succ_of_lt (hp.wv j hj)
    . exact Nat.lt_succ_of_lt (av j hj)
  . exact⟨lt xf hl,by obtain⟨l,hl⟩:=hl.bE;exact⟨l++[(Nat.lor inc ((bl ops).getD k 0),x'.s.h)],by rw[hl,h3];simp⟩,a3 xf hl,ls xf hl⟩
theorem MV{dM:Nat->ff}{rf:gW}{ro:Option Nat}{s0:aE}{base N:Nat}{ops:List Oper}(f:ux ops (bl ops)){xf:cH}:∀(q k id:Nat) (x:cH) (m inc:Nat),q=ops.length-k->k<=ops.length->
 nc e dM rf ro ops ((ops.zip (bl ops)).drop k) k id x=some xf->qM s0 base N ops k id x m inc->
 (∀(i:Nat) (o:Oper),k<=i->ops[i]? =some o->∃id x x' m inc v,qM s0 base N ops i id x m inc/\Step x x' o v/\pM e (dM i) rf ro ops i id ((bl ops).getD i 0) o x x' inc v/\jF ops i x xf/\jF ops (i+1) x' xf)/\
  jF ops k x xf/\∃id m inc,qM s0 base N ops ops.length id xf m inc:=by
 intro q
 induction q with
 |zero=>
  intro k id x m inc hq hk h hp;have:k=ops.length:=by omega
  subst this;rw[List.drop_eq_nil_of_le (by rw[List.length_zip,yf];simp)]at h;simp only[nc,Option.some.injEq]at h;subst h;exact⟨λi o hi ho=>absurd (List.getElem?_eq_some_iff.1 ho).1 (by omega),jF.refl _ _ _,id,m,inc,hp⟩
 |succ q ih=>
  intro k id x m inc hq hk h hp;have aN:k<ops.length:=by omega
  have ho:ops[k]? =some ops[k]:=List.getElem?_eq_getElem aN;have hd:(ops.zip (bl ops)).drop k=(ops[k],(bl ops).getD k 0)::(ops.zip (bl ops)).drop (k+1):=by
   have hz:=AO ho;obtain⟨hl,he⟩:=List.getElem?_eq_some_iff.1 hz;rw[List.drop_eq_getElem_cons hl,he]
  rw[hd]at h;simp only[nc]at h;cases hs:uh e (dM k) rf ro ops k id ((bl ops).getD k 0) ops[k] {x with dg:=x.s.t::x.dg}with
  |none=>rw[hs]at h;cases h
  |some x'=>
   simp only[hs]at h;obtain⟨tl,aI⟩:=hp.jh;obtain⟨v,s1,s2⟩:=MR aI hs;obtain⟨⟨m',au,p1⟩,p2⟩:=MU f ho hp s1 s2;obtain⟨r1,r2,r3⟩:=ih (k+1) _ x' m' au (by omega) (by omega) h p1;refine⟨λi o hi aQ=> ?_,p2 xf r2,r3⟩;rcases Nat.eq_or_lt_of_le hi with rfl|hi
   . rw[ho]at aQ;cases aQ;exact⟨id,x,x',m,inc,v,hp,s1,s2,p2 xf r2,r2⟩
   . exact r1 i o hi aQ
end Go.aw
end

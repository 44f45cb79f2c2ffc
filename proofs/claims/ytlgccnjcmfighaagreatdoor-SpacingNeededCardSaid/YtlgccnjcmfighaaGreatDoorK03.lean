/- Parts of a proof. -/
import Derived.OrdersIn
import Derived.Test.YtlgccnjcmfighaaGreatDoorK02
open Option.some renaming injEq->qG
open Nat renaming lor->yy,le_refl->yB,le_trans->RK,blt->Vs,lt_trans->Xy,lt_of_lt_of_le->afj,zero_le->afz,lt_succ_of_lt->afA,testBit_or->afB,le_of_ble_eq_true->afE,ble_eq_true_of_le->afF,not_lt_zero->afG,lt_trichotomy->afH,lt_irrefl->afJ,le_of_eq->afM,lt_or_ge->afS,eq_of_beq_eq_true->af0,strongRecOn->af1,le_of_succ_le->af3,lt_succ_self->af4,le_add_right->af8
open List renaming length_cons->E2,getElem?_eq_some_iff->FQ,mem_cons_self->RC,mem_cons_of_mem->RW,getElem?_eq_getElem->YN,getD_eq_getElem?_getD->YT,all_eq_true->ab8,filter_cons->adr,mem_cons->adv,reverse_cons->afx,mem_filter->afy,getElem?_cons_zero->afC,drop_eq_getElem_cons->afI,mem_append->afK,drop_eq_nil_of_le->afL,range->afO,getElem?_append_right->afP,mem_append_right->afV,mem_of_getElem?->afW,getElem?_append_left->afZ,getElem?_zip_eq_some->af2,reverse_append->af5,append_assoc->af6,getElem?_drop->af7
open Option renaming bind_eq_some_iff->KE,bind_some->afY,map_eq_some_iff->af9
open Bool renaming or_eq_true->Zf,and_eq_true->afD,not_true->afQ,not_eq_true'->afT,or_eq_false_iff->afU
open Array renaming getElem?_eq_getElem->afv,getElem?_eq_some_iff->afw,getD_eq_getD_getElem?->afN,replicate->afX
open Prod.mk renaming injEq->afR
set_option linter.all false
set_option maxRecDepth 100000
noncomputable section
namespace Go.aD
variable {e:Env}
def Same(t t':Tr Value)(xs:List Operand):Prop:=∀d,Operand.tmp d∈xs->t.get d=t'.get d
def Same.sub{t t':Tr Value}{xs ys:List Operand}(h:Same t t' ys)(hs:∀x∈xs,x∈ys):Same t t' xs:=λd hd=>h d (hs _ hd)
def tp{t t':Tr Value}{o:Operand}{xs:List Operand}(h:Same t t' xs)(ho:o∈xs):aF e t o=aF e t' o:=by
 cases o with
 |tmp i=>exact h i ho
 |_=>rfl
def vh{t t':Tr Value}:∀{xs:List Operand},Same t t' xs->db e t xs=db e t' xs
 |[],_=>rfl
 |o::r,h=>by
  simp only[db,tp (e:=e) h (RC ..),vh (xs:=r) (h.sub λx hx=>RW _ hx)]
def zY{t t':Tr Value}:∀{xs:List (Nat×Operand)},Same t t' (xs.map (·.2))->fG e t xs=fG e t' xs
 |[],_=>rfl
 |(i,o)::r,h=>by
  have h1:Same t t' (o::r.map (·.2)):=h;simp only[fG,tp (e:=e) h1 (RC ..),zY (xs:=r) (h1.sub λx hx=>RW _ hx)]
def E3{t t':Tr Value}{op:Op}(h:Same t t' op.operands.toList):cT e t op=cT e t' op:=by
 cases op with
 |box ty x=>simp only[cT,tp (e:=e) h (o:=x) (by simp[Op.operands])]
 |buildSlice st len parts=>
  have:Same t t' (parts.toList.map (·.2)):=h.sub λx hx=>by simpa[Op.operands]using hx
  simp only[cT,zY (e:=e) this]
 |makeSlice st l c=>simp only[cT,tp (e:=e) h (o:=l) (by simp[Op.operands]),tp (e:=e) h (o:=c) (by simp[Op.operands])]
 |makeMap t r=>cases r<;>rfl
 |_=>rfl
def zZ{h:ab}{t t':Tr Value}{op:Op}(hs:Same t t' op.operands.toList):aS e h t op=aS e h t' op:=by
 have O:∀o,o∈op.operands.toList->aF e t o=aF e t' o:=λo ho=>tp hs ho;have A:=E3 (e:=e) hs;cases op with
 |move x=>simp only[aS,O x (by simp[Op.operands])]
 |assign x=>simp only[aS,O x (by simp[Op.operands])]
 |pick c a b=>simp only[aS,O c (by simp[Op.operands]),O a (by simp[Op.operands]),O b (by simp[Op.operands])]
 |build ty parts=>
  have:Same t t' (parts.toList.map (·.2)):=hs.sub λx hx=>by simpa[Op.operands]using hx
  simp only[aS,zY (e:=e) this]
 |load ty a=>simp only[aS,O a (by simp[Op.operands])]
 |store ty a x=>simp only[aS,O a (by simp[Op.operands]),O x (by simp[Op.operands])]
 |nilCheck x=>simp only[aS,O x (by simp[Op.operands])]
 |binOp op ty x y cp=>simp only[aS,O x (by simp[Op.operands]),O y (by simp[Op.operands])]
 |unOp op ty x=>simp only[aS,O x (by simp[Op.operands])]
 |convert s d x=>simp only[aS,O x (by simp[Op.operands])]
 |makeInterface ty x=>simp only[aS,O x (by simp[Op.operands])]
 |makeFunc fn first cap=>
  have h1:Same t t' first.toList:=hs.sub λx hx=>by simp[Op.operands];exact .inl (by simpa using hx)
  have h2:Same t t' cap.toList:=hs.sub λx hx=>by simp[Op.operands];exact .inr (by simpa using hx)
  cases fn<;>simp only[aS,vh (e:=e) h1,vh (e:=e) h2]
 |slice ty x lo hi mx=>
  have hx:=O x (by simp[Op.operands]);have hl:∀o,lo=some o->aF e t o=aF e t' o:=λo ho=>O o (by simp[Op.operands,ho]);have hh:∀o,hi=some o->aF e t o=aF e t' o:=λo ho=>O o (by simp[Op.operands,ho]);have hm:∀o,mx=some o->aF e t o=aF e t' o:=λo ho=>O o (by simp[Op.operands,ho]);simp only[aS,hx];cases lo<;>cases hi<;>cases mx<;>simp_all
 |fieldAddr s x f=>simp only[aS,O x (by simp[Op.operands])]
 |field ty x f=>simp only[aS,O x (by simp[Op.operands])]
 |indexAddr ty x ix=>simp only[aS,O x (by simp[Op.operands]),O ix (by simp[Op.operands])]
 |index ty x ix=>simp only[aS,O x (by simp[Op.operands]),O ix (by simp[Op.operands])]
 |lookup ty m k ok=>simp only[aS,O m (by simp[Op.operands]),O k (by simp[Op.operands])]
 |mapUpdate ty m k v=>simp only[aS,O m (by simp[Op.operands]),O k (by simp[Op.operands]),O v (by simp[Op.operands])]
 |insert ty m k v=>simp only[aS,O m (by simp[Op.operands]),O k (by simp[Op.operands]),O v (by simp[Op.operands])]
 |range ty x=>simp only[aS,O x (by simp[Op.operands])]
 |next it s=>simp only[aS,O it (by simp[Op.operands])]
 |entry it=>simp only[aS,O it (by simp[Op.operands])]
 |extract x i=>simp only[aS,O x (by simp[Op.operands])]
 |call c=>
  have h1:Same t t' c.args.toList:=hs.sub λx hx=>by simp[Op.operands,Call.operands];right;simpa using hx
  simp only[aS,lG,vh (e:=e) h1];cases hc:c.callee with
  |value f=>
   have h2:aF e t f=aF e t' f:=O f (by simp[Op.operands,Call.operands,hc]);simp only[h2]
  |_=>rfl
 |defer c=>
  have h1:Same t t' c.args.toList:=hs.sub λx hx=>by simp[Op.operands,Call.operands];right;simpa using hx
  simp only[aS,vh (e:=e) h1];cases hc:c.callee with
  |value f=>
   have h2:aF e t f=aF e t' f:=O f (by simp[Op.operands,Call.operands,hc]);cases db e t' c.args.toList with
   |none=>rfl
   |some args=>simp only[h2]
  |_=>rfl
 |alloc _=>simp only[aS,A]
 |box _ _=>simp only[aS,A]
 |buildSlice _ _ _=>simp only[aS,A]
 |makeMap _ _=>simp only[aS,A]
 |makeSlice _ _ _=>simp only[aS,A]
 |_=>rfl
def nN{h h':ab}{x:Option Value}{v:Value}(hr:(x.map λv=>AR.val v h)=some (.val v h')):h'=h:=by
 obtain⟨_,_,h2⟩:=of_map hr;cases h2;rfl
def No{h h':ab}{t:Tr Value}{op:Op}{v:Value}(hc:cls op=.read)(hr:aS e h t op=some (.val v h')):h'=h:=by
 cases op with
 |load ty a=>
  simp only[aS]at hr
  split at hr
  . cases hr
  . exact nN hr
 |lookup ty m k ok=>
  simp only[aS]at hr
  split at hr
  . exact nN hr
  . cases hr
 |entry it=>
  simp only[aS]at hr
  split at hr
  . cases hr
  . exact nN hr
 |convert s d x=>
  simp only[aS]at hr
  split at hr
  . rename_i a _;cases hp:plain a with
    |true=>rw[hp]at hr;exact nN hr
    |false=>rw[hp]at hr;exact nN hr
  . cases hr
 |slice ty x lo hi mx=>
  simp only[aS]at hr
  split at hr
  . exact nN hr
  . cases hr
 |call c=>
  simp only[cls]at hc;simp only[aS,lG]at hr
  split at hr
  . cases hr
  . rename_i args _;cases aa:c.callee with
    |builtin b=>
     simp only[aa]at hc hr
     split at hr
     . cases hc
     . cases hc
     . cases hc
     . split at hr
       . cases hr
       . exact nN hr
     . split at hr
       . cases hr
       . exact nN hr
     . cases hp:args.all plain with
       |true=>rw[hp]at hr;exact nN hr
       |false=>rw[hp]at hr;cases hr
     . cases hp:args.all plain with
       |true=>rw[hp]at hr;exact nN hr
       |false=>rw[hp]at hr;cases hr
     . cases hr
    |value f=>simp[aa]at hc
    |invoke _ _=>simp[aa]at hc
 |_=>simp[cls]at hc
def Np{h h':ab}{t:Tr Value}{op:Op}{v:Value}(hc:cls op=.pure)(hr:aS e h t op=some (.val v h'))(g:ab):aS e g t op=some (.val v g):=by
 have M:∀{x:Option Value},(x.map λv=>AR.val v h)=some (.val v h')->(x.map λv=>AR.val v g)=some (.val v g):=λ{x} hx=>by
  obtain⟨u,h1,h2⟩:=of_map hx;cases h2;rw[h1];rfl
 cases op with
 |move x=>simp only[aS]at hr⊢;exact M hr
 |assign x=>simp only[aS]at hr⊢;exact M hr
 |pick c a b=>
  simp only[aS]at hr⊢
  split at hr
  . exact M hr
  . exact M hr
  . cases hr
 |build ty parts=>
  simp only[aS]at hr⊢
  split at hr
  . cases hr
  . exact M hr
 |nilCheck x=>
  simp only[aS]at hr⊢
  split at hr
  . cases hr;rfl
  . cases hr;rfl
  . cases hr
 |binOp op ty x y cp=>
  simp only[aS]at hr⊢
  split at hr
  . exact M hr
  . cases hr
 |unOp op ty x=>
  simp only[aS]at hr⊢
  split at hr
  . rename_i a _;cases hp:plain a with
    |true=>rw[hp]at hr;exact M hr
    |false=>rw[hp]at hr;cases hr
  . cases hr
 |convert s d x=>cases hc
 |makeInterface ty x=>
  simp only[aS]at hr⊢
  split at hr
  . cases hr
  . cases hr;rfl
  . cases hr
 |makeFunc fn first cap=>
  cases fn with
  |func f=>
   simp only[aS]at hr⊢
   split at hr
   . cases hr;rfl
   . cases hr
  |_=>simp[aS]at hr
 |fieldAddr s x f=>
  simp only[aS]at hr⊢
  split at hr
  . split at hr
    . rename_i hb _ size _;cases hp:Vs 0 size with
      |true=>rw[hp]at hr;cases hr;rfl
      |false=>rw[hp]at hr;cases hr
    . cases hr
  . cases hr
 |field ty x f=>
  simp only[aS]at hr⊢
  split at hr
  . split at hr
    . cases hr
    . exact M hr
  . cases hr
 |indexAddr ty x ix=>
  simp only[aS]at hr⊢
  split at hr
  . rename_i i len elem _ _ _
    split at hr
    . cases hr
    . cases hp:(decide (0<=i)&&decide (i<(len:Int)))with
      |true=>rw[hp]at hr;cases hr;rfl
      |false=>rw[hp]at hr;cases hr
  . rename_i len _ i elem _ _ _
    split at hr
    . cases hr
    . cases hp:(decide (0<=i)&&decide (i<(len:Int)))with
      |true=>rw[hp]at hr;cases hr;rfl
      |false=>rw[hp]at hr;cases hr
  . cases hr
 |index ty x ix=>
  simp only[aS]at hr⊢
  split at hr
  . rename_i i len elem _ _ _
    split at hr
    . cases hr
    . cases hp:(decide (0<=i)&&decide (i<(len:Int)))with
      |true=>rw[hp]at hr;exact M hr
      |false=>rw[hp]at hr;cases hr
  . exact M hr
  . cases hr
 |extract x i=>
  simp only[aS]at hr⊢
  split at hr
  . exact M hr
  . cases hr
 |call c=>
  simp only[cls]at hc
  split at hc<;>cases hc
 |_=>simp[cls]at hc
end Go.aD
end
noncomputable section
namespace Go.aD
def E4:∀(ops:List Oper) (acc:List Nat),(l9 ops acc).length=acc.length+ops.length
 |[],acc=>by simp[l9]
 |o::r,acc=>by
  simp only[l9,E4 r,E2];omega
def Aa:∀(ops:List Oper) (acc:List Nat) (i:Nat),i<acc.length->(l9 ops acc).getD i 0=acc.reverse.getD i 0
 |[],acc,i,h=>by simp[l9]
 |o::r,acc,i,h=>by
  simp only[l9];rw[Aa r _ i (by simp;omega)];simp only[afx,YT];rw[afZ (by simpa using h)]
def E5(look:Nat->Nat)(j:Nat):∀(l:List Edge) (s:Nat),(l.foldl (λs x=>bif Region.binds .any x then yy s (yy (2^x.on) (look x.on))else s) s).testBit j=true->
 s.testBit j=true\/∃x∈l,Region.binds .any x=true/\(j=x.on\/(look x.on).testBit j=true)
 |[],s,h=>.inl h
 |x::l,s,h=>by
  rcases E5 look j l _ h with h1|⟨y,h1,h2⟩
  . cases hb:Region.binds .any x with
    |true=>
     simp only[hb,cond_true]at h1;have ab:(s|||(2^x.on|||look x.on)).testBit j=true:=h1;rw[afB,afB,Zf,Zf]at ab;rcases ab with h2|h2|h2
     . exact .inl h2
     . rw[Nat.testBit_two_pow]at h2;exact .inr ⟨x,RC ..,hb,.inl (by simpa using (of_decide_eq_true h2).symm)⟩
     . exact .inr ⟨x,RC ..,hb,.inr h2⟩
    |false=>simp only[hb,cond_false]at h1;exact .inl h1
  . exact .inr ⟨y,RW _ h1,h2⟩
def E6:∀(ops:List Oper) (acc:List Nat) (k:Nat) (o:Oper) (j:Nat),ops[k]? =some o->((l9 ops acc).getD (acc.length+k) 0).testBit j=true->
 ∃x∈o.after.toList,Region.binds .any x=true/\(j=x.on\/((l9 ops acc).getD x.on 0).testBit j=true)
 |[],_,_,_,_,h,_=>by simp at h
 |o::r,acc,0,o',j,h,hj=>by
  simp at h;subst h;simp only[l9,Nat.add_zero]at hj⊢;rw[Aa r _ _ aw]at hj;simp only[afx,YT]at hj;rw[afP aw]at hj;simp only[List.length_reverse,Nat.sub_self,afC,Option.getD_some]at hj;rcases E5 (λi=>acc.reverse[i]?.getD 0) j _ _ hj with h1|⟨x,h1,h2,h3⟩
  . simp at h1
  . refine⟨x,h1,h2,h3.imp id λh4=> ?_⟩;by_cases hl:x.on<acc.length
    . rw[Aa r _ _ (by simp;omega)];simp only[afx,YT];rw[afZ (by simpa using hl)];simpa[YT]using h4
    . rw[List.getElem?_eq_none (by simpa using hl)]at h4;simp at h4
 |o::r,acc,k+1,o',j,h,hj=>by
  simp at h;simp only[l9]at hj⊢;refine E6 r _ k o' j h ?_;simp only[E2];rw[show acc.length+1+k=acc.length+(k+1) by omega];exact hj
def E7{ops:List Oper}{i j:Nat}{o:Oper}(ho:ops[i]? =some o)(h:((bx ops).getD i 0).testBit j=true):
 ∃x∈o.after.toList,Region.binds .any x=true/\(j=x.on\/((bx ops).getD x.on 0).testBit j=true):=by
 have:=E6 ops [] i o j ho (by simpa[bx]using h);simpa[bx]using this
def xm(ops:List Oper):(bx ops).length=ops.length:=by simp[bx,E4]
def oQ{α:Type}{l:List α}{i:Nat}{a:α}(h:l[i]? =some a):(a,i)∈l.zipIdx:=by
 rw[List.mem_zipIdx_iff_getElem?];exact h
structure tq(ops:List Oper)(ms:List Nat):Prop where
 back:∀(i:Nat) (o:Oper),ops[i]? =some o->∀x∈o.after.toList,Region.binds .any x=true->x.on<i
 guard:∀(i:Nat) (o:Oper) (j:Nat) (b:Bool),ops[i]? =some o->o.guard=some (j,b)->(ms.getD i 0).testBit j=true
 once:∀(i:Nat) (o:Oper) (j:Nat) (p:Oper) (d:Tmp),ops[i]? =some o->ops[j]? =some p->o.dst=some d->p.dst=some d->i=j
 use:∀(i:Nat) (o:Oper) (j:Nat) (p:Oper) (d:Tmp),ops[i]? =some o->ops[j]? =some p->o.dst=some d->Operand.tmp d∈p.op.operands.toList->i≠j/\(i<j->(ms.getD j 0).testBit i=true)/\(j<i->(ms.getD i 0).testBit j=true)
 dc:∀(i:Nat) (o:Oper) (j:Nat) (p:Oper),ops[i]? =some o->ops[j]? =some p->cls o.op=.effect->cls p.op=.effect->i<j->(ms.getD j 0).testBit i=true
def E8{o:Oper}{d:Tmp}(h:Operand.tmp d∈o.op.operands.toList):(tmpsOf o).contains d=true:=by
 simp only[tmpsOf,List.contains_eq_mem,decide_eq_true_eq,List.mem_filterMap];exact⟨_,h,rfl⟩
def Nq{ops:List Oper}{ms:List Nat}(h:qa ops ms=true):tq ops ms:=by
 simp only[qa,afD,ab8]at h;obtain⟨⟨⟨⟨h1,h2⟩,h3⟩,h4⟩,h5⟩:=h;refine⟨λi o ho x hx hb=> ?_,λi o j b ho hg=> ?_,λi o j p d ho hp hd ad=> ?_,λi o j p d ho hp hd hu=> ?_,λi o j p ho hp hc ae af=> ?_⟩
 . have:=h1 (o,i) (oQ ho) x hx;simp only[hb,afQ,Bool.false_or]at this;exact afE this
 . have:=h2 (o,i) (oQ ho);simp only[hg]at this;exact this
 . have:=h3 (o,i) (oQ ho);simp only[hd,ab8]at this;have:=this (p,j) (oQ hp);simp only[ad,Zf,afD]at this;rcases this with h|⟨h,_⟩
   . exact af0 h
   . simp at h
 . have h6:i≠j:=λe=>by
    subst e;rw[ho]at hp;cases hp;have:=h4 (o,i) (oQ ho);simp only[hd]at this;rw[E8 hu]at this;cases this
   have:=h3 (o,i) (oQ ho);simp only[hd,ab8]at this;have:=this (p,j) (oQ hp);simp only[Zf,afD,E8 hu,afQ,Bool.false_eq_true,false_or]at this;rcases this with h|⟨_,h⟩
   . exact absurd (af0 h) h6
   . refine⟨h6,λhl=> ?_,λhl=> ?_⟩
     . have hb:Vs i j=true:=afF hl;rw[hb]at h;exact h
     . have hb:Vs i j=false:=by
        cases hc:Vs i j with
        |false=>rfl
        |true=>have:i<j:=afE hc;omega
       rw[hb]at h;exact h
 . have m1:(o,i)∈ops.zipIdx.filter λ(o,i)=>cls o.op==.effect:=afy.2 ⟨oQ ho,by simp[hc]⟩;have m2:(p,j)∈ops.zipIdx.filter λ(o,i)=>cls o.op==.effect:=afy.2 ⟨oQ hp,by simp[ae]⟩;have:=h5 _ m1 _ m2;have hb:Vs i j=true:=afF af;simp only[hb,afQ,Bool.false_or]at this;exact this
def xn{ops:List Oper}(f:tq ops (bx ops)):∀(i:Nat) (o:Oper) (j:Nat),ops[i]? =some o->((bx ops).getD i 0).testBit j=true->j<i:=by
 intro i
 induction i using af1 with
 |_ i ih=>
  intro o j ho h;obtain⟨x,h1,h2,h3⟩:=E7 ho h;have hx:=f.back i o ho x h1 h2;rcases h3 with rfl|h3
  . exact hx
  . have ah:x.on<ops.length:=Xy hx (FQ.1 ho).1;exact Xy (ih x.on hx _ j (YN ah) h3) hx
def Ab:∀(l:List (Oper×Nat)) (b p i m:Nat),(j0 l b)[p]? =some (i,m)->b<=i/\∃o,l[i-b]? =some (o,m)/\cls o.op=.effect
 |[],_,_,_,_,h=>by simp[j0]at h
 |(o,m0)::r,b,p,i,m,h=>by
  simp only[j0]at h;have next:∀q,(j0 r (b+1))[q]? =some (i,m)->b<=i/\∃o',((o,m0)::r)[i-b]? =some (o',m)/\cls o'.op=.effect:=λq hq=>by
   obtain⟨h1,o',h2,h3⟩:=Ab r (b+1) q i m hq;refine⟨aa,o', ?_,h3⟩;have:i-b=(i-(b+1))+1:=aa;rw[this];simpa using h2
  cases hc:cls o.op==.effect with
  |true=>
   rw[hc]at h;cases p with
   |zero=>
    simp only[cond_true,afC,qG,afR]at h;obtain⟨rfl,rfl⟩:=h;exact⟨yB _,o,aw,by simpa using hc⟩
   |succ p=>exact next p (by simpa using h)
  |false=>rw[hc]at h;exact next p h
def E9:∀(l:List (Oper×Nat)) (b k:Nat) (o:Oper) (m:Nat),l[k]? =some (o,m)->cls o.op=.effect->∃p:Nat,(j0 l b)[p]? =some (b+k,m)
 |[],_,_,_,_,h,_=>by simp at h
 |(o,m0)::r,b,0,o',m,h,hc=>by
  simp at h;obtain⟨rfl,rfl⟩:=h;refine⟨0, ?_⟩;simp[j0,hc]
 |(o,m0)::r,b,k+1,o',m,h,hc=>by
  simp at h;obtain⟨p,hp⟩:=E9 r (b+1) k o' m h hc;have e:b+1+k=b+(k+1):=aa;rw[e]at hp;simp only[j0];cases hc:cls o.op==.effect with
  |true=>exact⟨p+1,by simpa using hp⟩
  |false=>exact⟨p,by simpa using hp⟩
def xo:∀(l:List (Oper×Nat)) (b p q i m j k:Nat),(j0 l b)[p]? =some (i,m)->(j0 l b)[q]? =some (j,k)->p<q->i<j
 |[],_,_,_,_,_,_,_,h,_,_=>by simp[j0]at h
 |(o,m0)::r,b,p,q,i,m,j,k,h,h',ai=>by
  simp only[j0]at h h';cases hc:cls o.op==.effect with
  |true=>
   simp only[hc,cond_true]at h h';obtain⟨q,rfl⟩:∃q',q=q'+1:=⟨q-1,aa⟩;simp only[List.getElem?_cons_succ]at h';cases p with
   |zero=>
    simp only[afC,qG,afR]at h;have:=(Ab r (b+1) q j k h').1;omega
   |succ p=>exact xo r (b+1) p q i m j k (by simpa using h) h' aa
  |false=>
   simp only[hc,cond_false]at h h';exact xo r (b+1) p q i m j k h h' ai
def filter_le{α:Type}(f:α->Bool):∀(l:List α) (m:Nat),(∀q a,l[q]? =some a->f a=true->q<m)->(l.filter f).length<=m
 |[],m,_=>aw
 |a::l,m,h=>by
  cases m with
  |zero=>
   have:(a::l).filter f=[]:=by
    rw[List.filter_eq_nil_iff];intro x hx hf;obtain⟨q,hq⟩:=List.getElem?_of_mem hx;exact absurd (h q x hq hf) (afG _)
   rw[this];simp
  |succ m=>
   have ih:=filter_le f l m λq x hq hf=>by
    have:=h (q+1) x (by simpa using hq) hf;omega
   rw[adr]
   split
   . simp;omega
   . omega
def le_filter{α:Type}(f:α->Bool):∀(l:List α) (m:Nat),m<=l.length->(∀q a,q<m->l[q]? =some a->f a=true)->m<=(l.filter f).length
 |[],m,hm,_=>by simpa using hm
 |a::l,m,hm,h=>by
  cases m with
  |zero=>exact afz _
  |succ m=>
   have hf:=h 0 a aa rfl;rw[adr,if_pos hf];simp only[E2];exact Nat.succ_le_succ (le_filter f l m (by simpa using hm) λq x hq hx=>h (q+1) x aa (by simpa using hx))
variable {e:Env}
def jC(t:Tr Value)(dst:Option Tmp)(v:Value):Tr Value:=
 match dst with
 |none=>t
 |some d=>t.set d (some v)
def vi{s s':aN}{dst:Option Tmp}{v:Value}(h:fH s dst v=some s'):s'={s with t:=jC s.t dst v}/\∀d,dst=some d->d<s.n:=by
 cases dst with
 |none=>simp only[rk,qG]at h;subst h;exact⟨rfl,λ_ h=>by cases h⟩
 |some d=>
  simp only[rk]at h;obtain⟨h1,h2⟩:=cg h;cases h2;exact⟨rfl,λd' h=>by cases h;exact afE h1⟩
def xp{s:aN}{dst:Option Tmp}(v:Value)(h:∀d,dst=some d->d<s.n):fH s dst v=some {s with t:=jC s.t dst v}:=by
 cases dst with
 |none=>rfl
 |some d=>
  have hb:Vs d s.n=true:=afF (h d rfl);simp only[rk,hb,cond_true];rfl
def Nr{h:ab}{t:Tr Value}{op:Op}(hc:cls op=.effect){f:FuncId}{az cap:List Value}{h':ab}:aS e h t op≠some (.defer f az cap h'):=by
 intro hr;cases op with
 |store ty a x=>
  simp only[aS]at hr
  split at hr
  . obtain⟨_,_,h2⟩:=of_map hr;cases h2
  . cases hr
 |mapUpdate ty m k v=>
  simp only[aS]at hr
  split at hr
  . obtain⟨_,_,h2⟩:=of_map hr;cases h2
  . cases hr
 |insert ty m k v=>
  simp only[aS]at hr
  split at hr
  . obtain⟨_,_,h2⟩:=of_map hr;cases h2
  . cases hr
 |range ty x=>
  simp only[aS]at hr
  split at hr
  . cases hr
  . cases hr
  . split at hr<;>cases hr
  . cases hr
 |next it s=>
  simp only[aS]at hr
  split at hr
  . cases hr
  . obtain⟨_,_,h2⟩:=of_map hr;cases h2
 |call c=>
  simp only[aS,lG]at hr
  split at hr
  . cases hr
  . split at hr
    . split at hr
      . cases hr
      . split at hr<;>cases hr
    . cases hr
    . split at hr
      . obtain⟨_,_,h2⟩:=of_map hr;cases h2
      . obtain⟨_,_,h2⟩:=of_map hr;cases h2
      . obtain⟨_,_,h2⟩:=of_map hr;cases h2
      . split at hr
        . cases hr
        . obtain⟨_,_,h2⟩:=of_map hr;cases h2
      . split at hr
        . cases hr
        . obtain⟨_,_,h2⟩:=of_map hr;cases h2
      . rename_i args _ _ _ _ _;cases hp:args.all plain with
        |true=>rw[hp]at hr;obtain⟨_,_,h2⟩:=of_map hr;cases h2
        |false=>rw[hp]at hr;cases hr
      . rename_i args _ _ _ _ _;cases hp:args.all plain with
        |true=>rw[hp]at hr;obtain⟨_,_,h2⟩:=of_map hr;cases h2
        |false=>rw[hp]at hr;cases hr
      . cases hr
 |_=>simp[cls]at hc
def Ns{cf:eZ}{rf:gX}{ro:Option Nat}{o:Oper}{s s':aN}(hc:∀f az cap h',aS e s.h s.t o.op≠some (.defer f az cap h'))(h:mL e cf rf ro o s=some s'):
 ∃v,s'={s with t:=jC s.t o.dst v,h:=s'.h}/\(∀d,o.dst=some d->d<s.n)/\
  ∀t2,Same t2 s.t o.op.operands.toList->mL e cf rf ro o {s with t:=t2}=some {s with t:=jC t2 o.dst v,h:=s'.h}:=by
 simp only[wX]at h⊢;cases hr:aS e s.h s.t o.op with
 |none=>simp[hr]at h
 |some r=>
  have aH:∀t2,Same t2 s.t o.op.operands.toList->aS e s.h t2 o.op=some r:=λt2 h2=>by rw[zZ h2,hr]
  simp only[hr]at h;have fin:∀(h1:ab) (v:Value),fH {s with h:=h1} o.dst v=some s'->s'={s with t:=jC s.t o.dst v,h:=s'.h}/\(∀d,o.dst=some d->d<s.n)/\
   ∀t2:Tr Value,fH {s with h:=h1,t:=t2} o.dst v=some {s with t:=jC t2 o.dst v,h:=s'.h}:=λh1 v hp=>by
   obtain⟨q1,q2⟩:=vi hp;subst q1;exact⟨rfl,q2,λt2=>xp v q2⟩
  cases r with
  |val v h1=>
   obtain⟨q1,q2,q3⟩:=fin h1 v h;refine⟨v,q1,q2,λt2 h2=> ?_⟩;simp only[aH t2 h2];exact q3 t2
  |skip h1=>
   obtain⟨q1,q2,q3⟩:=fin h1 undef h;refine⟨undef,q1,q2,λt2 h2=> ?_⟩;simp only[aH t2 h2];exact q3 t2
  |enter f args h1=>
   simp only at h;cases aF:cf f args h1 with
   |none=>simp[aF]at h
   |some r2=>
    simp only[aF]at h;obtain⟨q1,q2,q3⟩:=fin r2.2 r2.1 h;refine⟨r2.1,q1,q2,λt2 h2=> ?_⟩;simp only[aH t2 h2,aF];exact q3 t2
  |round l args h1=>
   simp only at h;cases aF:rf l args h1 with
   |none=>simp[aF]at h
   |some r2=>
    simp only[aF]at h;obtain⟨q1,q2,q3⟩:=fin r2.2 r2.1 h;refine⟨r2.1,q1,q2,λt2 h2=> ?_⟩;simp only[aH t2 h2,aF];exact q3 t2
  |defer f az cap h1=>exact absurd hr (hc f az cap h1)
inductive oR(e:Env)(cf:eZ)(rf:gX)(ro:Option Nat)(ops:List Oper)(i id m:Nat)(o:Oper)(x x':cG)(inc:Nat)(v:Value):Prop
 |skip:cX ops x.s o=some false->v=undef->x'.aA=x.aA->x'.all=x.all->x'.s.h=x.s.h->(cls o.op=.effect->x'.bJ=(inc,x.s.h)::x.bJ)->(cls o.op≠.effect->x'.bJ=x.bJ)->oR e cf rf ro ops i id m o x x' inc v
 |pure (h1:ab):cX ops x.s o=some true->cls o.op=.pure->aS e x.s.h x.s.t o.op=some (.val v h1)->x'.aA=x.aA->x'.all=x.all->x'.s.h=x.s.h->x'.bJ=x.bJ->oR e cf rf ro ops i id m o x x' inc v
 |read (h1:ab):cX ops x.s o=some true->cls o.op=.read->aS e (cr x.s.h m x.aA) x.s.t o.op=some (.val v h1)->x'.aA=x.aA->x'.all=x.all->x'.s.h=x.s.h->x'.bJ=x.bJ->oR e cf rf ro ops i id m o x x' inc v
 |alloc (ob:bP) (f:Nat->Value):cX ops x.s o=some true->cls o.op=.alloc->cT e x.s.t o.op=some (ob,f)->v=f id->x'.aA=(i,id,ob)::x.aA->x'.all=(i,id,ob)::x.all->x'.s.h=x.s.h->x'.bJ=x.bJ->oR e cf rf ro ops i id m o x x' inc v
 |effect (s1:aN):cX ops x.s o=some true->cls o.op=.effect->mL e cf rf ro o {x.s with h:=cr x.s.h m x.aA}=some s1->s1.t=jC x.s.t o.dst v->s1.h=x'.s.h->
  (∀t2,Same t2 x.s.t o.op.operands.toList->mL e cf rf ro o {x.s with t:=t2,h:=cr x.s.h m x.aA}=some {x.s with t:=jC t2 o.dst v,h:=x'.s.h})->
  x'.aA=x.aA.filter (λp=> !m.testBit p.1)->x'.all=x.all->x'.bJ=(yy inc m,x'.s.h)::x.bJ->oR e cf rf ro ops i id m o x x' inc v
structure Step(x x':cG)(o:Oper)(v:Value):Prop where
 t:x'.s.t=jC x.s.t o.dst v
 lt:∀d,o.dst=some d->d<x.s.n
 n:x'.s.n=x.s.n
 ds:x'.s.ds=x.s.ds
 di:x'.di=x.s.t::x.di
def Nt{cf:eZ}{rf:gX}{ro:Option Nat}{ops:List Oper}{i id m:Nat}{o:Oper}{x x':cG}{inc:Nat}{tl:List (Nat×ab)}(aG:x.bJ=(inc,x.s.h)::tl)
 (h:ta e cf rf ro ops i id m o {x with di:=x.s.t::x.di}=some x'):∃v,Step x x' o v/\oR e cf rf ro ops i id m o x x' inc v:=by
 have aJ:(x.bJ.head?.map (·.1)).getD 0=inc:=by rw[aG];rfl
 unfold ta at h;simp only[aJ]at h;cases hw:cX ops x.s o with
 |none=>simp[hw]at h
 |some b=>
  cases b with
  |false=>
   simp only[hw]at h;cases hp:fH x.s o.dst undef with
   |none=>simp[hp]at h
   |some s1=>
    simp only[hp]at h;obtain⟨q1,q2⟩:=vi hp;subst q1
    split at h
    . rename_i hc;cases h;exact⟨undef,⟨rfl,q2,rfl,rfl,rfl⟩,.skip hw rfl rfl rfl rfl (λ_=>rfl) λhn=>absurd hc hn⟩
    . cases h
    . rename_i hc _;cases h;exact⟨undef,⟨rfl,q2,rfl,rfl,rfl⟩,.skip hw rfl rfl rfl rfl (λhn=>absurd hn hc) λ_=>rfl⟩
  |true=>
   simp only[hw]at h
   split at h
   . rename_i hc
     split at h
     . rename_i v h1 hr;obtain⟨s1,hp,rfl⟩:=of_map h;obtain⟨q1,q2⟩:=vi hp;subst q1;exact⟨v,⟨rfl,q2,rfl,rfl,rfl⟩,.pure h1 hw hc hr rfl rfl rfl rfl⟩
     . cases h
   . rename_i hc
     split at h
     . rename_i v h1 hr;obtain⟨s1,hp,rfl⟩:=of_map h;obtain⟨q1,q2⟩:=vi hp;subst q1;exact⟨v,⟨rfl,q2,rfl,rfl,rfl⟩,.read h1 hw hc hr rfl rfl rfl rfl⟩
     . cases h
   . rename_i hc
     split at h
     . cases h
     . rename_i ob f hr;obtain⟨s1,hp,rfl⟩:=of_map h;obtain⟨q1,q2⟩:=vi hp;subst q1;exact⟨f id,⟨rfl,q2,rfl,rfl,rfl⟩,.alloc ob f hw hc hr rfl rfl rfl rfl rfl⟩
   . rename_i hc
     split at h
     . cases h
     . rename_i s1 hr;obtain⟨v,q1,q2,q3⟩:=Ns (λ_ _ _ _=>Nr hc) hr;cases h;have e1:s1.t=jC x.s.t o.dst v:=by rw[q1]
       have e2:s1.n=x.s.n:=by rw[q1]
       have e3:s1.ds=x.s.ds:=by rw[q1]
       exact⟨v,⟨e1,q2,e2,e3,rfl⟩,.effect s1 hw hc hr e1 rfl q3 rfl rfl rfl⟩
   . cases h
def tr(t:Tr Value)(dst:Option Tmp)(v:Value)(d:Tmp):(jC t dst v).get d=if dst=some d then some v else t.get d:=by
 cases dst with
 |none=>simp[jC]
 |some d'=>
  simp only[jC,Tr.bu,qG];by_cases h:d=d'
  . subst h;simp
  . rw[if_neg h,if_neg (Ne.symm h)]
abbrev dc(ops:List Oper):List (Nat×Nat):=j0 (ops.zip (bx ops)) 0
def qf(o:Oper):Bool:=cls o.op==.alloc
def lj(ops:List Oper)(S:Nat->Prop)(m:Nat):Prop:=m<=(dc ops).length/\∀(p i k:Nat),(dc ops)[p]? =some (i,k)->(S i↔p<m)
def vj{ops:List Oper}{p i k:Nat}(h:(dc ops)[p]? =some (i,k)):∃o,ops[i]? =some o/\k=(bx ops).getD i 0/\cls o.op=.effect:=by
 obtain⟨_,o,h1,h2⟩:=Ab _ _ _ _ _ h;simp only[Nat.sub_zero]at h1;rw[af2]at h1;exact⟨o,h1.1,by rw[YT,h1.2];rfl,h2⟩
def Ac{ops:List Oper}{i:Nat}{o:Oper}(h:ops[i]? =some o):(ops.zip (bx ops))[i]? =some (o,(bx ops).getD i 0):=by
 rw[af2];refine⟨h, ?_⟩;have:i<(bx ops).length:=by rw[xm];exact(FQ.1 h).1
 rw[YT,YN this];rfl
def Nu{ops:List Oper}{i:Nat}{o:Oper}(h:ops[i]? =some o)(hc:cls o.op=.effect):∃p:Nat,(dc ops)[p]? =some (i,(bx ops).getD i 0):=by
 have:=E9 (ops.zip (bx ops)) 0 i o _ (Ac h) hc;simpa using this
def lj.more{ops:List Oper}{S S':Nat->Prop}{m i:Nat}(h:lj ops S m)(f:tq ops (bx ops)){o:Oper}(ho:ops[i]? =some o)(hc:cls o.op=.effect)(hi:¬S i)
 (hm:∀j,((bx ops).getD i 0).testBit j=true->S j) (hS:∀j,S' j↔S j\/j=i):lj ops S' (m+1)/\(dc ops)[m]? =some (i,(bx ops).getD i 0):=by
 obtain⟨p,hp⟩:=Nu ho hc;have h1:¬p<m:=λhl=>hi ((h.2 p _ _ hp).2 hl);have aI:=(FQ.1 hp).1;have h2:p=m:=by
  rcases afH p m with hl|rfl|hl
  . exact absurd hl h1
  . rfl
  . exfalso;have hq:=YN (Xy hl aI);generalize (dc ops)[m]'(Xy hl aI)=jk at hq;obtain⟨j,k⟩:=jk;have aQ:=xo _ _ _ _ _ _ _ _ hq hp hl;obtain⟨o',q1,q2,q3⟩:=vj hq;have:=(h.2 m _ _ hq).1 (hm j (f.dc j o' i o q1 ho q3 hc aQ));omega
 subst h2;refine⟨⟨aa,λq j k hq=> ?_⟩,hp⟩;rw[hS,h.2 q j k hq];constructor
 . rintro(hl|rfl)
   . omega
   . rcases afH q p with hl|rfl|hl
     . omega
     . omega
     . have:=xo _ _ _ _ _ _ _ _ hp hq hl;omega
 . intro hl;rcases afS q p with aL|aL
   . exact .inl aL
   . have:q=p:=aa;subst this;rw[hp]at hq;cases hq;exact .inr rfl
def lj.same{ops:List Oper}{S S':Nat->Prop}{m i:Nat}(h:lj ops S m){o:Oper}(ho:ops[i]? =some o)(hc:cls o.op≠.effect)(hS:∀j,S' j↔S j\/j=i):lj ops S' m:=by
 refine⟨h.1,λq j k hq=> ?_⟩;rw[hS,<-h.2 q j k hq];constructor
 . rintro(hl|rfl)
   . exact hl
   . obtain⟨o',q1,q2,q3⟩:=vj hq;rw[ho]at q1;cases q1;exact absurd q3 hc
 . exact .inl
structure qg(s0:aN)(base N:Nat)(ops:List Oper)(k id:Nat)(x:cG)(m inc:Nat):Prop where
 n:x.s.n=s0.n
 ds:x.s.ds=s0.ds
 t:∀d,(∀(j:Nat) (o:Oper),j<k->ops[j]? =some o->o.dst≠some d)->x.s.t.get d=s0.t.get d
 jd:∃tl,x.bJ=(inc,x.s.h)::tl
 len:x.bJ.length=m+1
 gy:lj ops (·<k) m
 aA:∀p,p∈x.aA↔p∈x.all/\inc.testBit p.1=false
 oS:∀p∈x.all,p.1<k/\base<=p.2.1/\p.2.1<id
 inj:∀p q,p∈x.all->q∈x.all->p.2.1=q.2.1->p=q
 vk:∀j,inc.testBit j=true->j<k
 di:x.di.length=k
 ge:base<=id
 sum:id+((ops.drop k).filter qf).length=N
structure jD(ops:List Oper)(k:Nat)(x xf:cG):Prop where
 t:∀d,(∀(j:Nat) (o:Oper),k<=j->ops[j]? =some o->o.dst≠some d)->xf.s.t.get d=x.s.t.get d
 bJ:∃l,xf.bJ=l++x.bJ
 all:∃l,xf.all=l++x.all/\∀p∈l,k<=p.1
 di:∃l,xf.di=l++x.di
def jD.refl(ops:List Oper)(k:Nat)(x:cG):jD ops k x x:=⟨λ_ _=>rfl,⟨[],rfl⟩,⟨[],rfl,aw⟩,⟨[],rfl⟩⟩
def Nv{cf:eZ}{rf:gX}{ro:Option Nat}{s0:aN}{base N:Nat}{ops:List Oper}(f:tq ops (bx ops)){k id m inc:Nat}{x x':cG}{o:Oper}{v:Value}(ho:ops[k]? =some o)(hp:qg s0 base N ops k id x m inc)
 (hs:Step x x' o v) (hd:oR e cf rf ro ops k id ((bx ops).getD k 0) o x x' inc v):
 (∃m' an,qg s0 base N ops (k+1) (nextId o id) x' m' an)/\(∀xf,jD ops (k+1) x' xf->jD ops k x xf):=by
 have aC:ops.drop k=o::ops.drop (k+1):=by
  obtain⟨hl,rfl⟩:=FQ.1 ho;exact afI hl
 have ao:∀j,((bx ops).getD k 0).testBit j=true->j<k:=λj=>xn f k o j ho;have hS:∀j,j<k+1↔j<k\/j=k:=λj=>aa;have af:x'.s.n=s0.n:=hs.n.trans hp.n;have ah:x'.s.ds=s0.ds:=hs.ds.trans hp.ds;have ai:∀d,(∀(j:Nat) (o:Oper),j<k+1->ops[j]? =some o->o.dst≠some d)->x'.s.t.get d=s0.t.get d:=λd hd=>by
  rw[hs.t,tr,if_neg (hd k o aa ho)];exact hp.t d λj o' hj=>hd j o' aa
 have ak:x'.di.length=k+1:=by rw[hs.di];simp[hp.di]
 have lt:∀xf,jD ops (k+1) x' xf->∀d,(∀(j:Nat) (o:Oper),k<=j->ops[j]? =some o->o.dst≠some d)->xf.s.t.get d=x.s.t.get d:=λxf hl d hd=>by
  rw[hl.t d λj o' hj=>hd j o' aa,hs.t,tr,if_neg (hd k o (yB _) ho)]
 have ls:∀xf,jD ops (k+1) x' xf->∃l,xf.di=l++x.di:=λxf hl=>by
  obtain⟨l,hl⟩:=hl.di;exact⟨l++[x.s.t],by rw[hl,hs.di];simp⟩
 have av:cls o.op≠.alloc->nextId o id+((ops.drop (k+1)).filter qf).length=N:=λhc=>by
  have h1:qf o=false:=by simp[qf,hc]
  have:=hp.sum;rw[aC,adr,h1]at this;have h2:(cls o.op==s9.alloc)=false:=h1;simpa[nextId,h2]using this
 have ad:cls o.op=.alloc->nextId o id=id+1/\id+1+((ops.drop (k+1)).filter qf).length=N:=λhc=>by
  have h1:qf o=true:=by simp[qf,hc]
  have:=hp.sum;rw[aC,adr,h1]at this;refine⟨by simp[nextId,hc], ?_⟩;simp only[if_true,E2]at this;omega
 have sum:nextId o id+((ops.drop (k+1)).filter qf).length=N:=by
  by_cases hc:cls o.op=.alloc
  . obtain⟨h1,h2⟩:=ad hc;omega
  . exact av hc
 have idle:id<=nextId o id:=by
  by_cases hc:cls o.op=.alloc
  . have:=(ad hc).1;omega
  . have h2:(cls o.op==s9.alloc)=false:=by simp[hc]
    simp[nextId,h2]
 have ae:x'.all=x.all->(∀p∈x'.all,p.1<k+1/\base<=p.2.1/\p.2.1<nextId o id)/\(∀p q,p∈x'.all->q∈x'.all->p.2.1=q.2.1->p=q)/\(∀xf,jD ops (k+1) x' xf->∃l,xf.all=l++x.all/\∀p∈l,k<=p.1):=λha=>by
  rw[ha];refine⟨λp aq=> ?_,hp.inj,λxf hl=> ?_⟩
  . obtain⟨h1,h2,h3⟩:=hp.oS p aq;exact⟨aa,h2,aa⟩
  . obtain⟨l,h1,h2⟩:=hl.all;exact⟨l,by rw[h1,ha],λp aq=>af3 (h2 p aq)⟩
 obtain⟨tl,aG⟩:=hp.jd;have quiet:x'.aA=x.aA->x'.all=x.all->x'.s.h=x.s.h->x'.bJ=x.bJ->cls o.op≠.effect->
  (∃m' an,qg s0 base N ops (k+1) (nextId o id) x' m' an)/\(∀xf,jD ops (k+1) x' xf->jD ops k x xf):=λh1 h2 h3 h4 h5=>by
  obtain⟨a1,a2,a3⟩:=ae h2;refine⟨⟨m,inc,af,ah,ai,⟨tl,by rw[h4,h3,aG]⟩,by rw[h4];exact hp.len,hp.gy.same ho h5 hS,by rw[h1,h2];exact hp.aA,a1,a2,λj hj=>afA (hp.vk j hj),ak,RK hp.ge idle,sum⟩,λxf hl=> ?_⟩;exact⟨lt xf hl,by obtain⟨l,hl⟩:=hl.bJ;exact⟨l,by rw[hl,h4]⟩,a3 xf hl,ls xf hl⟩
 cases hd with
 |skip hw hv h1 h2 h3 h4 h5=>
  by_cases hc:cls o.op=.effect
  . obtain⟨a1,a2,a3⟩:=ae h2;refine⟨⟨m+1,inc,af,ah,ai,⟨x.bJ,by rw[h4 hc,h3]⟩,by rw[h4 hc,E2,hp.len],(hp.gy.more f ho hc (afJ _) ao hS).1,by rw[h1,h2];exact hp.aA,a1,a2,λj hj=>afA (hp.vk j hj),ak,RK hp.ge idle,sum⟩,λxf hl=> ?_⟩;exact⟨lt xf hl,by obtain⟨l,hl⟩:=hl.bJ;exact⟨l++[(inc,x.s.h)],by rw[hl,h4 hc];simp⟩,a3 xf hl,ls xf hl⟩
  . exact quiet h1 h2 h3 (h5 hc) hc
 |pure hh hw hc hr h1 h2 h3 h4=>exact quiet h1 h2 h3 h4 (by rw[hc];decide)
 |read hh hw hc hr h1 h2 h3 h4=>exact quiet h1 h2 h3 h4 (by rw[hc];decide)
 |alloc ob g hw hc hr hv h1 h2 h3 h4=>
  obtain⟨y1,y2⟩:=ad hc;refine⟨⟨m,inc,af,ah,ai,⟨tl,by rw[h4,h3,aG]⟩,by rw[h4];exact hp.len,hp.gy.same ho (by rw[hc];decide) hS,λp=> ?_,λp aq=> ?_,λp q h5 h6 h7=> ?_,λj hj=>afA (hp.vk j hj),ak,RK hp.ge idle,sum⟩,λxf hl=> ?_⟩
  . rw[h1,h2,adv,adv,hp.aA];constructor
    . rintro(rfl|⟨h5,h6⟩)
      . refine⟨.inl rfl, ?_⟩;cases hb:inc.testBit k with
        |false=>rfl
        |true=>exact absurd (hp.vk k hb) (afJ _)
      . exact⟨.inr h5,h6⟩
    . rintro⟨rfl|h5,h6⟩
      . exact .inl rfl
      . exact .inr ⟨h5,h6⟩
  . rw[h2,adv]at aq;rcases aq with rfl|aq
    . exact⟨af4 _,hp.ge,by rw[y1];exact af4 _⟩
    . obtain⟨g1,g2,g3⟩:=hp.oS p aq;exact⟨aa,g2,aa⟩
  . rw[h2,adv]at h5 h6;rcases h5 with rfl|h5<;>rcases h6 with rfl|h6
    . rfl
    . have:=(hp.oS q h6).2.2;simp only at h7;omega
    . have:=(hp.oS p h5).2.2;simp only at h7;omega
    . exact hp.inj p q h5 h6 h7
  . refine⟨lt xf hl,by obtain⟨l,hl⟩:=hl.bJ;exact⟨l,by rw[hl,h4]⟩, ?_,ls xf hl⟩;obtain⟨l,g1,g2⟩:=hl.all;refine⟨l++[(k,id,ob)],by rw[g1,h2];simp,λp aq=> ?_⟩;rcases afK.1 aq with h5|h5
    . exact af3 (g2 p h5)
    . simp at h5;subst h5;exact yB _
 |effect s1 hw hc hr ht hh aH h1 h2 h3=>
  obtain⟨a1,a2,a3⟩:=ae h2;have aM:∀j,(yy inc ((bx ops).getD k 0)).testBit j=(inc.testBit j||((bx ops).getD k 0).testBit j):=λj=>afB _ _ _;refine⟨⟨m+1,yy inc ((bx ops).getD k 0),af,ah,ai,⟨x.bJ,h3⟩,by rw[h3,E2,hp.len],(hp.gy.more f ho hc (afJ _) ao hS).1,λp=> ?_,a1,a2,λj hj=> ?_,ak,RK hp.ge idle,sum⟩,λxf hl=>⟨lt xf hl,by obtain⟨l,hl⟩:=hl.bJ;exact⟨l++[(yy inc ((bx ops).getD k 0),x'.s.h)],by rw[hl,h3];simp⟩,a3 xf hl,ls xf hl⟩⟩
  . rw[h1,h2,afy,hp.aA,aM];simp only[afT,afU,and_assoc]
  . rw[aM,Zf]at hj;rcases hj with hj|hj
    . exact afA (hp.vk j hj)
    . exact afA (ao j hj)
def Nw{dJ:Nat->eZ}{rf:gX}{ro:Option Nat}{s0:aN}{base N:Nat}{ops:List Oper}(f:tq ops (bx ops)){xf:cG}:∀(q k id:Nat) (x:cG) (m inc:Nat),q=ops.length-k->k<=ops.length->
 mM e dJ rf ro ops ((ops.zip (bx ops)).drop k) k id x=some xf->qg s0 base N ops k id x m inc->
 (∀(i:Nat) (o:Oper),k<=i->ops[i]? =some o->∃id x x' m inc v,qg s0 base N ops i id x m inc/\Step x x' o v/\oR e (dJ i) rf ro ops i id ((bx ops).getD i 0) o x x' inc v/\jD ops i x xf/\jD ops (i+1) x' xf)/\
  jD ops k x xf/\∃id m inc,qg s0 base N ops ops.length id xf m inc:=by
 intro q
 induction q with
 |zero=>
  intro k id x m inc hq hk h hp;have:k=ops.length:=aa;subst this;rw[afL (by rw[List.length_zip,xm];simp)]at h;simp only[mM,qG]at h;subst h;exact⟨λi o hi ho=>absurd (FQ.1 ho).1 aa,jD.refl _ _ _,id,m,inc,hp⟩
 |succ q ih=>
  intro k id x m inc hq hk h hp;have aI:k<ops.length:=aa;have ho:ops[k]? =some ops[k]:=YN aI;have hd:(ops.zip (bx ops)).drop k=(ops[k],(bx ops).getD k 0)::(ops.zip (bx ops)).drop (k+1):=by
   have hz:=Ac ho;obtain⟨hl,he⟩:=FQ.1 hz;rw[afI hl,he]
  rw[hd]at h;simp only[mM]at h;cases hs:ta e (dJ k) rf ro ops k id ((bx ops).getD k 0) ops[k] {x with di:=x.s.t::x.di}with
  |none=>rw[hs]at h;cases h
  |some x'=>
   simp only[hs]at h;obtain⟨tl,aG⟩:=hp.jd;obtain⟨v,s1,s2⟩:=Nt aG hs;obtain⟨⟨m',an,p1⟩,p2⟩:=Nv f ho hp s1 s2;obtain⟨r1,r2,r3⟩:=ih (k+1) _ x' m' an aa aa h p1;refine⟨λi o hi aK=> ?_,p2 xf r2,r3⟩;rcases Nat.eq_or_lt_of_le hi with rfl|hi
   . rw[ho]at aK;cases aK;exact⟨id,x,x',m,inc,v,hp,s1,s2,p2 xf r2,r2⟩
   . exact r1 i o hi aK
end Go.aD
end
noncomputable section
namespace Go.aD
variable {e:Env}
def tu(h:ab)(m:Nat):∀L:dz,(cr h m L).next=h.next
 |[]=>rfl
 |(i,id,o)::r=>by
  simp only[cr];cases m.testBit i with
  |true=>exact tu h m r
  |false=>exact tu h m r
def Ad{h:ab}{m:Nat}:∀{L:dz} {k:Nat} {o:bP},(cr h m L).get k=some o->(∃p∈L,m.testBit p.1=true/\p.2.1=k/\p.2.2=o)\/h.get k=some o
 |[],k,o,hk=>.inr hk
 |(i,id,ob)::r,k,o,hk=>by
  simp only[cr]at hk;have tail:(cr h m r).get k=some o->(∃p∈(i,id,ob)::r,m.testBit p.1=true/\p.2.1=k/\p.2.2=o)\/h.get k=some o:=λht=>by
   rcases Ad ht with⟨p,h1,h2⟩|h1
   . exact .inl ⟨p,RW _ h1,h2⟩
   . exact .inr h1
  cases hb:m.testBit i with
  |true=>
   simp only[hb,cond_true,ab.bu]at hk;by_cases af:k=id
   . rw[if_pos af]at hk;cases hk;exact .inl ⟨(i,id,ob),RC ..,hb,af.symm,rfl⟩
   . rw[if_neg af]at hk;exact tail hk
  |false=>simp only[hb,cond_false]at hk;exact tail hk
def vl(h:ab):∀L:dz,(fw h L).next=h.next
 |[]=>rfl
 |(_,_,_)::r=>vl h r
def Ae{h:ab}:∀{L:dz},(∀p q,p∈L->q∈L->p.2.1=q.2.1->p=q)->∀p∈L,(fw h L).get p.2.1=some p.2.2
 |[],_,p,hp=>by cases hp
 |(i,id,o)::r,hi,p,hp=>by
  simp only[fw,ab.bu];by_cases hk:p.2.1=id
  . have:=hi p (i,id,o) hp (RC ..) hk;subst this;simp
  . rw[if_neg hk];rcases adv.1 hp with rfl|an
    . exact absurd rfl hk
    . exact Ae (λp q h1 h2=>hi p q (RW _ h1) (RW _ h2)) p an
def Af{h:ab}{k:Nat}:∀{L:dz},(∀p∈L,p.2.1≠k)->(fw h L).get k=h.get k
 |[],_=>rfl
 |(i,id,o)::r,hk=>by
  simp only[fw,ab.bu];rw[if_neg (λe=>hk (i,id,o) (RC ..) e.symm)];exact Af λp hp=>hk p (RW _ hp)
def Fc{h:ab}{L:dz}(hi:∀p q,p∈L->q∈L->p.2.1=q.2.1->p=q){k:Nat}{o:bP}(hk:(fw h L).get k=some o):(∃p∈L,p.2.1=k/\p.2.2=o)\/h.get k=some o:=by
 by_cases hx:∃p∈L,p.2.1=k
 . obtain⟨p,hp,rfl⟩:=hx;rw[Ae hi p hp]at hk;cases hk;exact .inl ⟨p,hp,rfl,rfl⟩
 . rw[Af λp hp e=>hx ⟨p,hp,e⟩]at hk;exact .inr hk
def Fr.less{b:Nat}{ρ:aH}{h g:ab}{w:World}(hs:∀i o,g.get i=some o->h.get i=some o)(hn:h.next<=g.next):Fr b ρ h w ρ g w:=
 ⟨Ext.refl _,rfl,rfl,yB _,λ_ _=>rfl,λ_ _ _=>rfl,λj o pl h1 h2 h3=>.inl ⟨j,o,pl,hs j o h1,h2,h3,rfl⟩,
  λj o h1 _=>hs j o h1,λ_ h h'=>absurd h h',λj o h1 _=>⟨o,hs j o h1⟩,hn⟩
def lj.uniq{ops:List Oper}{S S':Nat->Prop}{m m':Nat}(h:lj ops S m)(h':lj ops S' m')(hS:∀(p i k:Nat),(dc ops)[p]? =some (i,k)->(S i↔S' i)):m=m':=by
 rcases afH m m' with hl|rfl|hl
 . exfalso;have hq:=YN (afj hl h'.1);generalize (dc ops)[m]'(afj hl h'.1)=jk at hq;obtain⟨j,k⟩:=jk;have:=(h.2 _ _ _ hq).1 ((hS _ _ _ hq).2 ((h'.2 _ _ _ hq).2 hl));omega
 . rfl
 . exfalso;have hq:=YN (afj hl h.1);generalize (dc ops)[m']'(afj hl h.1)=jk at hq;obtain⟨j,k⟩:=jk;have:=(h'.2 _ _ _ hq).1 ((hS _ _ _ hq).1 ((h.2 _ _ _ hq).2 hl));omega
structure Rec(e:Env)(cf:eZ)(rf:gX)(ro:Option Nat)(ops:List Oper)(s0:aN)(base N:Nat)(xf:cG)(i:Nat)(o:Oper)(id:Nat)(x x':cG)(m inc:Nat)(v:Value):Prop where
 pre:qg s0 base N ops i id x m inc
 step:Step x x' o v
 Fe:oR e cf rf ro ops i id ((bx ops).getD i 0) o x x' inc v
 l:jD ops i x xf
 l':jD ops (i+1) x' xf
def xq(e:Env)(x:cG)(bJ:List (Nat×ab))(dc:List (Nat×Nat))(i m:Nat)(o:Oper)(t:Tr Value):Prop:=
 (dc.filter λp=> !p.2.testBit i).length<=(dc.filter λp=>m.testBit p.1).length\/
 ∃d v,o.dst=some d/\x.s.t.get d=some v/\∀q∈(bJ.drop (dc.filter λp=>m.testBit p.1).length).take ((dc.filter λp=> !p.2.testBit i).length+1-(dc.filter λp=>m.testBit p.1).length),
  ∃h2,aS e (cr q.2 m (x.all.filter λp=> !q.1.testBit p.1)) t o.op=some (.val v h2)
def nO(e:Env)(ops:List Oper)(x:cG)(bJ:List (Nat×ab))(dc:List (Nat×Nat)):List (Oper×Nat)->List (Tr Value)->Nat->Prop
 |(o,m)::r,t::ts,i=>(cls o.op=.read->cX ops {x.s with t} o=some true->xq e x bJ dc i m o t)/\nO e ops x bJ dc r ts (i+1)
 |[],_,_=>True
 |_,_,_=>False
structure oT(e:Env)(dJ:Nat->eZ)(rf:gX)(ro:Option Nat)(ops:List Oper)(s0:aN)(base N:Nat)(xf:cG):Prop where
 f:tq ops (bx ops)
 Ag:∀(i:Nat) (o:Oper),ops[i]? =some o->∃id x x' m inc v,Rec e (dJ i) rf ro ops s0 base N xf i o id x x' m inc v
 t0:∀d,(∀(j:Nat) (o:Oper),ops[j]? =some o->o.dst≠some d)->xf.s.t.get d=s0.t.get d
 xr:∀p∈xf.all,base<=p.2.1/\p.2.1<N
 inj:∀p q,p∈xf.all->q∈xf.all->p.2.1=q.2.1->p=q
 Nx:(dc ops).length=0\/nO e ops xf xf.bJ.reverse (dc ops) (ops.zip (bx ops)) xf.di.reverse 0
structure Inv(e:Env)(ops:List Oper)(s0:aN)(base N:Nat)(xf:cG)(S:Nat->Prop)(fI:aH)(h0:ab)(w0:World)(ρ:aH)(a:Act)(w:World)(t:Tr Value)(h:ab)(m inc:Nat)(H:ab):Prop where
 closed:∀i,S i->∀j,((bx ops).getD i 0).testBit j=true->S j
 t1:∀(j:Nat) (o:Oper) (d:Tmp),S j->ops[j]? =some o->o.dst=some d->t.get d=xf.s.t.get d
 t2:∀d,(∀(j:Nat) (o:Oper),S j->ops[j]? =some o->o.dst≠some d)->t.get d=s0.t.get d
 rel:dw e ρ {t,n:=s0.n,ds:=s0.ds,h} a w
 fr:Fr base fI h0 w0 ρ h w
 gy:lj ops S m
 jd:xf.bJ.reverse[m]? =some (inc,H)
 m1:∀p∈xf.all,S p.1->inc.testBit p.1=false->h.get p.2.1=some p.2.2
 m3:∀k o,H.get k=some o->h.get k=some o
 m4:∀p∈xf.all,inc.testBit p.1=false->H.get p.2.1=none
 m5:h.next=H.next
 mP:N<=H.next
 m6:∀p∈xf.all,¬S p.1->ρ p.2.1=none
 m7:∀j,inc.testBit j=true->S j
def xu{ops:List Oper}{k:Nat}{x xf:cG}{q:Nat×ab}{tl:List (Nat×ab)}{m:Nat}(hs:x.bJ=q::tl)(hl:x.bJ.length=m+1)(l:jD ops k x xf):xf.bJ.reverse[m]? =some q:=by
 obtain⟨l,ao⟩:=l.bJ;rw[ao,hs];rw[hs]at hl;simp only[E2]at hl;rw[af5,afx,af6,afP (by simp;omega)];have:m-tl.reverse.length=0:=by simp;omega
 rw[this];rfl
section
variable {cf:eZ} {dJ:Nat->eZ} {rf:gX} {ro:Option Nat} {ops:List Oper} {s0:aN} {base N:Nat} {xf:cG} {S:Nat->Prop} {fI:aH} {h0:ab} {w0:World} {ρ:aH} {a:Act} {w:World} {t:Tr Value} {h:ab} {m inc:Nat} {H:ab}
variable {i:Nat} {o:Oper} {id:Nat} {x x':cG} {mc ah:Nat} {v:Value}
def Inv.same(I:Inv e ops s0 base N xf S fI h0 w0 ρ a w t h m inc H)(G:oT e dJ rf ro ops s0 base N xf)(R:Rec e cf rf ro ops s0 base N xf i o id x x' mc ah v)(ho:ops[i]? =some o)(hi:¬S i)
 (hm:∀j,((bx ops).getD i 0).testBit j=true->S j):Same t x.s.t o.op.operands.toList:=by
 intro d hd;by_cases hw:∃(j:Nat) (p:Oper),ops[j]? =some p/\p.dst=some d
 . obtain⟨j,p,hj,aa⟩:=hw;obtain⟨u1,u2,u3⟩:=G.f.use j p i o d hj ho aa hd;rcases Nat.lt_or_gt_of_ne u1 with hl|hl
   . rw[I.t1 j p d (hm j (u2 hl)) hj aa];refine R.l.t d λk q hk hq ae=> ?_;have:=G.f.once j p k q d hj hq aa ae;omega
   . have aq:¬S j:=λhS=>hi (I.closed j hS i (u3 hl));rw[I.t2 d λk q hS hq ae=>aq (G.f.once k q j p d hq hj ae aa▸hS)];refine(R.pre.t d λk q hk hq ae=> ?_).symm;have:=G.f.once j p k q d hj hq aa ae;omega
 . rw[I.t2 d λj p _ hj aa=>hw ⟨j,p,hj,aa⟩];exact(R.pre.t d λj p _ hj aa=>hw ⟨j,p,hj,aa⟩).symm
def Inv.wanted(I:Inv e ops s0 base N xf S fI h0 w0 ρ a w t h m inc H)(G:oT e dJ rf ro ops s0 base N xf)(R:Rec e cf rf ro ops s0 base N xf i o id x x' mc ah v)(ho:ops[i]? =some o)
 (hm:∀j,((bx ops).getD i 0).testBit j=true->S j):cX ops {t,n:=s0.n,ds:=s0.ds,h} o=cX ops x.s o:=by
 unfold cX;cases hg:o.guard with
 |none=>rfl
 |some jw=>
  obtain⟨j,want⟩:=jw;simp only;cases hd:(ops[j]?).bind (·.dst)with
  |none=>rfl
  |some d=>
   obtain⟨p,hj,aa⟩:=nK hd;have hb:=G.f.guard i o j want ho hg;have aw:=xn G.f i o j ho hb;have e1:t.get d=xf.s.t.get d:=I.t1 j p d (hm j hb) hj aa;have e2:xf.s.t.get d=x.s.t.get d:=R.l.t d λk q hk hq ae=>by
    have:=G.f.once j p k q d hj hq aa ae;omega
   simp only[e1,e2]
def Inv.next(I:Inv e ops s0 base N xf S fI h0 w0 ρ a w t h m inc H)(G:oT e dJ rf ro ops s0 base N xf)(R:Rec e cf rf ro ops s0 base N xf i o id x x' mc ah v)(ho:ops[i]? =some o)(hi:¬S i)
 (hm:∀j,((bx ops).getD i 0).testBit j=true->S j) {S':Nat->Prop} (hS:∀j,S' j↔S j\/j=i) {ak:aH} {a':Act} {w':World} {h':ab} {m' ad:Nat} {H':ab}
 (rel:dw e ak {t:=jC t o.dst v,n:=s0.n,ds:=s0.ds,h:=h'} a' w') (fr:Fr base ρ h w ak h' w') (fresh:∀p∈xf.all,p.1≠i->ρ p.2.1=none->ak p.2.1=none)
 (gy:lj ops S' m') (jd:xf.bJ.reverse[m']? =some (ad,H')) (m1:∀p∈xf.all,S' p.1->ad.testBit p.1=false->h'.get p.2.1=some p.2.2)
 (m3:∀k o,H'.get k=some o->h'.get k=some o) (m4:∀p∈xf.all,ad.testBit p.1=false->H'.get p.2.1=none) (m5:h'.next=H'.next) (mP:N<=H'.next) (m7:∀j,ad.testBit j=true->S' j):
 Inv e ops s0 base N xf S' fI h0 w0 ak a' w' (jC t o.dst v) h' m' ad H':=by
 refine⟨λk hk j hj=> ?_,λj p d hj hp hd=> ?_,λd hd=> ?_,rel,I.fr.trans fr,gy,jd,m1,m3,m4,m5,mP,λp hp hn=> ?_,m7⟩
 . rw[hS]at hk⊢;rcases hk with hk|rfl
   . exact .inl (I.closed k hk j hj)
   . exact .inl (hm j hj)
 . rw[tr];by_cases ai:o.dst=some d
   . rw[if_pos ai,R.l'.t d λk q hk hq ae=>by
      have:=G.f.once i o k q d ho hq ai ae;omega,R.step.t,tr,if_pos ai]
   . rw[if_neg ai];rcases(hS j).1 hj with av|rfl
     . exact I.t1 j p d av hp hd
     . rw[ho]at hp;cases hp;exact absurd hd ai
 . rw[tr,if_neg (hd i o ((hS i).2 (.inr rfl)) ho)];exact I.t2 d λj p hj hp=>hd j p ((hS j).2 (.inl hj)) hp
 . have h1:¬S p.1:=λhs=>hn ((hS _).2 (.inl hs));have h2:p.1≠i:=λhs=>hn ((hS _).2 (.inr hs));exact fresh p hp h2 (I.m6 p hp h1)
end
end Go.aD
end
noncomputable section
namespace Go.aD
variable {e:Env}
def Ff{ops:List Oper}{x:cG}{bJ:List (Nat×ab)}{ef:List (Nat×Nat)}:∀(oms:List (Oper×Nat)) (ts:List (Tr Value)) (k:Nat),nO e ops x bJ ef oms ts k->
 ∀(j:Nat) (o:Oper) (m:Nat),oms[j]? =some (o,m)->∃t,ts[j]? =some t/\(cls o.op=.read->cX ops {x.s with t} o=some true->xq e x bJ ef (k+j) m o t)
 |[],_,_,_,j,o,m,hj=>by simp at hj
 |(o0,m0)::r,[],_,h,_,_,_,_=>by simp[nO]at h
 |(o0,m0)::r,t::ts,k,h,j,o,m,hj=>by
  simp only[nO]at h;cases j with
  |zero=>
   simp only[afC,qG,afR]at hj;obtain⟨rfl,rfl⟩:=hj;exact⟨t,rfl,h.1⟩
  |succ j=>
   obtain⟨t',h1,h2⟩:=Ff r ts (k+1) h.2 j o m (by simpa using hj);exact⟨t',by simpa using h1,λhc hw=>by have:=h2 hc hw;rwa[show k+1+j=k+(j+1) by omega]at this⟩
section
variable {cf:eZ} {dJ:Nat->eZ} {rf:gX} {ro ba:Option Nat} {ops:List Oper} {s0:aN} {base N:Nat} {xf:cG} {S:Nat->Prop} {fI:aH} {h0:ab} {w0:World} {ρ:aH} {a:Act} {w:World} {t:Tr Value} {h:ab} {m inc:Nat} {H:ab}
variable {i:Nat} {o:Oper} {id:Nat} {x x':cG} {mc ad:Nat} {v:Value}
def Rec.snap(R:Rec e cf rf ro ops s0 base N xf i o id x x' mc ad v):xf.di.reverse[i]? =some x.s.t:=by
 obtain⟨l,hl⟩:=R.l'.di;rw[hl,R.step.di,af5,afx,af6,afP (by simp[R.pre.di])];simp[R.pre.di]
def Rec.val(R:Rec e cf rf ro ops s0 base N xf i o id x x' mc ad v)(G:oT e dJ rf ro ops s0 base N xf)(ho:ops[i]? =some o){d:Tmp}(hd:o.dst=some d):xf.s.t.get d=some v:=by
 rw[R.l'.t d λk q hk hq bF=>by
  have:=G.f.once i o k q d ho hq hd bF;omega,R.step.t,tr,if_pos hd]
def Rec.jd(R:Rec e cf rf ro ops s0 base N xf i o id x x' mc ad v):xf.bJ.reverse[mc]? =some (ad,x.s.h):=by
 obtain⟨tl,bb⟩:=R.pre.jd;exact xu bb R.pre.len R.l
def Rec.Fg(R:Rec e cf rf ro ops s0 base N xf i o id x x' mc ad v){q:Nat×ab}(hs:x'.bJ=q::x.bJ):xf.bJ.reverse[mc+1]? =some q:=
 xu hs (by rw[hs,E2,R.pre.len]) R.l'
def Inv.at(I:Inv e ops s0 base N xf S fI h0 w0 ρ a w t h m inc H)(G:oT e dJ rf ro ops s0 base N xf)(R:Rec e cf rf ro ops s0 base N xf i o id x x' mc ad v)(ho:ops[i]? =some o)(hi:¬S i)
 (hm:∀j,((bx ops).getD i 0).testBit j=true->S j) (hc:cls o.op=.effect):mc=m/\ad=inc/\x.s.h=H:=by
 have h1:m=mc:=I.gy.uniq R.pre.gy λp j k hp=>by
  obtain⟨q,q1,q2,q3⟩:=vj hp;constructor
  . intro hS;rcases afH j i with hl|rfl|hl
    . exact hl
    . exact absurd hS hi
    . exact absurd (I.closed j hS i (G.f.dc i o j q ho q1 hc q3 hl)) hi
  . intro hl;exact hm j (G.f.dc j q i o q1 ho q3 hc hl)
 subst h1;have:=R.jd;rw[I.jd]at this;cases this;exact⟨rfl,rfl,rfl⟩
def Inv.read(I:Inv e ops s0 base N xf S fI h0 w0 ρ a w t h m inc H)(G:oT e dJ rf ro ops s0 base N xf)(R:Rec e cf rf ro ops s0 base N xf i o id x x' mc ad v)(ho:ops[i]? =some o)(hi:¬S i)
 (hm:∀j,((bx ops).getD i 0).testBit j=true->S j) (hc:cls o.op=.read) (hw:cX ops x.s o=some true) {h1:ab} (hr:aS e (cr x.s.h ((bx ops).getD i 0) x.aA) x.s.t o.op=some (.val v h1)):
 ∃L h2,(∀p∈L,p∈xf.all/\inc.testBit p.1=false)/\aS e (cr H ((bx ops).getD i 0) L) x.s.t o.op=some (.val v h2):=by
 have same:mc=m->∃L h2,(∀p∈L,p∈xf.all/\inc.testBit p.1=false)/\aS e (cr H ((bx ops).getD i 0) L) x.s.t o.op=some (.val v h2):=λe1=>by
  subst e1;have:=R.jd;rw[I.jd]at this;cases this;refine⟨x.aA,h1,λp hp=> ?_,hr⟩;obtain⟨q1,q2⟩:=(R.pre.aA p).1 hp;obtain⟨l,hl,_⟩:=R.l.all;exact⟨by rw[hl];exact afV _ q1,q2⟩
 rcases G.Nx with h3|h3
 . have e1:=I.gy.1;have e2:=R.pre.gy.1;exact same aa
 . obtain⟨T,t1,t2⟩:=Ff _ _ _ h3 i o _ (Ac ho);rw[R.snap]at t1;cases t1;have t3:=t2 hc hw;rw[Nat.zero_add]at t3;unfold xq at t3;have lo:∀{S':Nat->Prop} {m':Nat},lj ops S' m'->(∀j,((bx ops).getD i 0).testBit j=true->S' j)->((dc ops).filter λp=>((bx ops).getD i 0).testBit p.1).length<=m':=λ{S' m'} hE bf=>by
    refine filter_le _ _ _ λq a hq hf=> ?_;obtain⟨j,k⟩:=a;exact(hE.2 _ _ _ hq).1 (bf j hf)
   have bw:∀{S':Nat->Prop} {m':Nat},lj ops S' m'->¬S' i->(∀k,S' k->∀j,((bx ops).getD k 0).testBit j=true->S' j)->m'<=((dc ops).filter λp=> !p.2.testBit i).length:=λ{S' m'} hE bf bG=>by
    refine le_filter _ _ _ hE.1 λq a hq hf=> ?_;obtain⟨j,k⟩:=a;obtain⟨o',q1,q2,q3⟩:=vj hf;simp only[q2,afT];cases hb:((bx ops).getD j 0).testBit i with
    |false=>rfl
    |true=>exact absurd (bG j ((hE.2 _ _ _ hf).2 hq) i hb) bf
   have l1:=lo I.gy hm;have l2:=bw I.gy hi I.closed;have l3:=lo R.pre.gy λj hj=>xn G.f i o j ho hj;have hn:i<ops.length:=(FQ.1 ho).1;have l4:=bw R.pre.gy (afJ _) λk hk j hj=>Xy (xn G.f k _ j (YN (Xy hk hn)) hj) hk;generalize ((dc ops).filter λp=>((bx ops).getD i 0).testBit p.1).length=aJ at*;generalize ((dc ops).filter λp=> !p.2.testBit i).length=dU at*;rcases t3 with t3|⟨d,v',hd,bA,t3⟩
   . exact same aa
   . rcases afS aJ dU with aM|bP
     . rw[R.val G ho hd]at bA;cases bA;have bg:(inc,H)∈(xf.bJ.reverse.drop aJ).take (dU+1-aJ):=by
        refine afW (i:=m-aJ) ?_;rw[List.getElem?_take,if_pos aa,af7,show aJ+(m-aJ)=m by omega];exact I.jd
       obtain⟨h2,aF⟩:=t3 _ bg;refine⟨_,h2,λp hp=> ?_,aF⟩;rw[afy]at hp;exact⟨hp.1,by simpa using hp.2⟩
     . exact same aa
def Inv.sub(I:Inv e ops s0 base N xf S fI h0 w0 ρ a w t h m inc H){mk:Nat}(hm:∀j,mk.testBit j=true->S j){L:dz}(hL:∀p∈L,p∈xf.all/\inc.testBit p.1=false):∀k o,(cr H mk L).get k=some o->h.get k=some o:=by
 intro k o hk;rcases Ad hk with⟨p,h1,h2,h3,h4⟩|h1
 . subst h3;subst h4;exact I.m1 p (hL p h1).1 (hm _ h2) (hL p h1).2
 . exact I.m3 k o h1
def Fh{s:aN}{h':ab}(hr:aS e s.h s.t o.op=some (.val v h'))(hl:∀d,o.dst=some d->d<s.n):mL e cf rf ro o s=some {s with t:=jC s.t o.dst v,h:=h'}:=by
 simp only[wX,hr];exact xp (s:={s with h:=h'}) v hl
def Ny{c:Call}(h:o.op=.defer c):cls o.op=.bad:=by rw[h];rfl
def Inv.step(he:e.Ok)(bj:nM e cf)(bk:vd e rf)(bH:iB fI ro ba)(I:Inv e ops s0 base N xf S fI h0 w0 ρ a w t h m inc H)(G:oT e dJ rf ro ops s0 base N xf)
 (R:Rec e cf rf ro ops s0 base N xf i o id x x' mc ad v) (ho:ops[i]? =some o) (hi:¬S i) (hm:∀j,((bx ops).getD i 0).testBit j=true->S j) {S':Nat->Prop} (hS:∀j,S' j↔S j\/j=i)
 {rn:Array Oper} (ae:rn.toList=ops) (n:Nat) {Q:Exit->Act->World->Prop} {K:Act->World->Prop}
 (hK:∀aK a' w' t' h' m' bm H',Inv e ops s0 base N xf S' fI h0 w0 aK a' w' t' h' m' bm H'->K a' w'):wpOpIn (FF ba) n e.P rn Q i K a w:=by
 have bI:rn[i]? =some o:=by rw[<-ae]at ho;simpa using ho
 have aM:∀d,o.dst=some d->d<s0.n:=λd hd=>by rw[<-R.pre.n];exact R.step.lt d hd
 have ah:=I.same G R ho hi hm;have aG:iB ρ ro ba:=bH.mono I.fr.ext;have af:∀{aK:aH} {h':ab} {w':World} {g:ab} {b:Nat},N<=b->Fr b ρ g w aK h' w'->∀p∈xf.all,p.1≠i->ρ p.2.1=none->aK p.2.1=none:=λ{aK h' w' g b} hb hf p hp _ hn=>by
  cases hx:aK p.2.1 with
  |none=>rfl
  |some pl=>
   have h1:=hf.ids _ hn (by rw[hx];exactλh=>by cases h);have h2:=(G.xr p hp).2;omega
 have ak:base<=N:=by
  have h1:=R.pre.ge;have h2:=R.pre.sum;omega
 unfold wpOpIn;simp only[bI];have W:=I.wanted G R ho hm;rw[<-ae]at W;have bQ:S i->∀p∈xf.all,S p.1->inc.testBit p.1=false->h.get p.2.1=some p.2.2:=λ_=>I.m1;have an:∀p∈xf.all,p.1=i->cls o.op≠.alloc->False:=λp hp e1 hc=>by
  obtain⟨l,hl,aQ⟩:=R.l'.all;rw[hl,afK]at hp;rcases hp with hp|hp
  . have:=aQ p hp;omega
  . have aI:x'.all=x.all:=by
     cases R.Fe with
     |skip _ _ _ h2 _ _ _=>exact h2
     |pure _ _ _ _ _ h2 _ _=>exact h2
     |read _ _ _ _ _ h2 _ _=>exact h2
     |alloc _ _ _ bo _ _ _ _ _ _=>exact absurd bo hc
     |effect _ _ _ _ _ _ _ _ h2 _=>exact h2
    rw[aI]at hp;have:=(R.pre.oS p hp).1;omega
 cases R.Fe with
 |skip hw hv h1 h2 h3 h4 h5=>
  subst hv;have aI:∀p∈xf.all,p.1≠i:=λp hp e1=>by
   obtain⟨l,hl,aQ⟩:=R.l'.all;rw[hl,afK]at hp;rcases hp with hp|hp
   . have:=aQ p hp;omega
   . rw[h2]at hp;have:=(R.pre.oS p hp).1;omega
  rw[ae]at W;rw[hw,<-ae]at W;rw[oP W I.rel,if_neg aw];refine⟨λf _=>trivial, ?_⟩;obtain⟨p1,_⟩:=mO I.rel (xp undef aM) (ve ρ);have bB:∀p∈xf.all,S' p.1->inc.testBit p.1=false->h.get p.2.1=some p.2.2:=λp hp hs hb=>I.m1 p hp (((hS _).1 hs).resolve_right (aI p hp)) hb;have bD:∀j,inc.testBit j=true->S' j:=λj hj=>(hS j).2 (.inl (I.m7 j hj));by_cases hc:cls o.op=.effect
  . obtain⟨q1,q2,q3⟩:=I.at G R ho hi hm hc;subst q1;subst q2;subst q3;exact hK _ _ _ _ _ _ _ _ (I.next G R ho hi hm hS p1 (Fr.refl _ _ _ _) (λ_ _ _ hn=>hn) (I.gy.more G.f ho hc hi hm hS).1 (R.Fg (h4 hc)) bB I.m3 I.m4 I.m5 I.mP bD)
  . exact hK _ _ _ _ _ _ _ _ (I.next G R ho hi hm hS p1 (Fr.refl _ _ _ _) (λ_ _ _ hn=>hn) (I.gy.same ho hc hS) I.jd bB I.m3 I.m4 I.m5 I.mP bD)
 |pure hh hw hc hr h1 h2 h3 h4=>
  rw[ae]at W;rw[hw,<-ae]at W;rw[oP W I.rel,if_pos rfl];have aT:cls o.op≠.alloc:=by rw[hc];decide
  have aF:aS e h t o.op=some (.val v h):=by rw[zZ ah];exact Np hc hr h
  refine vg he bj bk (Fh (s:={t,n:=s0.n,ds:=s0.ds,h}) aF aM) I.rel aG n λa1 w1 aL x1 f1=> ?_;have aq:N<=h.next:=by rw[I.m5];exact I.mP
  refine hK _ _ _ _ _ _ _ _ (I.next G R ho hi hm hS x1 (f1.mono (RK ak aq)) (af aq f1) (I.gy.same ho (by rw[hc];decide) hS) I.jd ?_ I.m3 I.m4 I.m5 I.mP λj hj=>(hS j).2 (.inl (I.m7 j hj)));exactλp hp hs hb=>I.m1 p hp (((hS _).1 hs).resolve_right λe1=>an p hp e1 aT) hb
 |read hh hw hc hr h1 h2 h3 h4=>
  obtain⟨L,bR,hL,aF⟩:=I.read G R ho hi hm hc hw hr;rw[ae]at W;rw[hw,<-ae]at W;rw[oP W I.rel,if_pos rfl];have aT:cls o.op≠.alloc:=by rw[hc];decide
  have ai:=I.sub hm hL;have aU:(cr H ((bx ops).getD i 0) L).next=h.next:=by rw[tu,I.m5]
  have bp:=No hc aF;subst bp;rw[<-zZ ah]at aF;have rel:dw e ρ {t,n:=s0.n,ds:=s0.ds,h:=cr H ((bx ops).getD i 0) L} a w:=⟨I.rel.g,I.rel.t,I.rel.d,I.rel.m.sub ai (afM aU.symm)⟩;refine vg he bj bk (Fh (s:={t,n:=s0.n,ds:=s0.ds,h:=cr H ((bx ops).getD i 0) L}) aF aM) rel aG n λa1 w1 aL x1 f1=> ?_;have aq:N<=(cr H ((bx ops).getD i 0) L).next:=by rw[tu];exact I.mP
  have f2:Fr base ρ (cr H ((bx ops).getD i 0) L) w aL (cr H ((bx ops).getD i 0) L) w1:=f1.mono (RK ak aq);obtain⟨y1,y2⟩:=bz.extend (u':=h) I.rel.m ai x1.m f2 (λk ob hk=>by
   cases hg:(cr H ((bx ops).getD i 0) L).get k with
   |none=>exact .inr ⟨hk,rfl⟩
   |some bc=>
    have:=ai k bc hg;have bK:h.get k=some ob:=hk;rw[bK]at this;cases this;exact .inl rfl) (yB _) (afM aU)
  refine hK _ _ _ _ _ _ _ _ (I.next G R ho hi hm hS (h':=h) ⟨x1.g,x1.t,x1.d,y1⟩ y2 (af aq f1) (I.gy.same ho (by rw[hc];decide) hS) I.jd ?_ I.m3 I.m4 I.m5 I.mP λj hj=>(hS j).2 (.inl (I.m7 j hj)));exactλp hp hs hb=>I.m1 p hp (((hS _).1 hs).resolve_right λe1=>an p hp e1 aT) hb
 |alloc ob f hw hc hr hv h1 h2 h3 h4=>
  subst hv;rw[ae]at W;rw[hw,<-ae]at W;rw[oP W I.rel,if_pos rfl];have bd:(i,id,ob)∈xf.all:=by
   obtain⟨l,hl,_⟩:=R.l'.all;rw[hl,h2];exact afV _ (RC ..)
  have bE:=G.xr _ bd;have bq:inc.testBit i=false:=by
   cases hb:inc.testBit i with
   |false=>rfl
   |true=>exact absurd (I.m7 i hb) hi
  have av:∀p∈xf.all,p.2.1=id->p=(i,id,ob):=λp hp e1=>G.inj p _ hp bd e1;have slot:Slot base ρ h id ob (h.set id (some ob)):=
   ⟨I.m6 _ bd hi,bE.1,λj=>ab.bu _ _ _ _,yB _,afj bE.2 (by rw[ab.aY,I.m5];exact I.mP)⟩
  rw[<-E3 ah]at hr;obtain⟨v',w1,aL,k1,k2,k3,k4,k5⟩:=ED he (ds:=a.defers) I.rel.g I.rel.t I.rel.m hr slot;have bs:Oper.semAt (FF ba).round a.eval o=execOp a.eval o:=Oper.semAt_eq _ _ _ λc bo=>by
   rw[Ny bo]at hc;cases hc
  refine⟨λf _=>trivial, ?_⟩;have ha:(Act.mk a.tmps a.defers)=a:=rfl;rw[ha]at k1;rw[bs,k1,Oper.uponIn_value];have rel:dw e aL {t,n:=s0.n,ds:=s0.ds,h:=h.set id (some ob)} a w1:=⟨I.rel.g.mono k4.ext,I.rel.t.mono k4.ext,I.rel.d.mono λ_ _=>oO.mono k4.ext,k3⟩;obtain⟨p1,_⟩:=mO rel (xp (f id) aM) k2;refine hK _ _ _ _ _ _ _ _ (I.next G R ho hi hm hS p1 k4 (λp hp bL hn=> ?_) (I.gy.same ho (by rw[hc];decide) hS) I.jd (λp hp hs hb=> ?_) (λk bc hk=> ?_) I.m4 ?_ I.mP λj hj=>(hS j).2 (.inl (I.m7 j hj)))
  . rw[k5 _ λe1=>bL (by rw[av p hp e1])];exact hn
  . rw[ab.bu];by_cases e1:p.2.1=id
    . rw[if_pos e1,av p hp e1]
    . rw[if_neg e1];refine I.m1 p hp (((hS _).1 hs).resolve_right λe2=> ?_) hb;obtain⟨l,hl,aQ⟩:=R.l'.all;rw[hl,afK]at hp;rcases hp with hp|hp
      . have:=aQ p hp;omega
      . rw[h2,adv]at hp;rcases hp with rfl|hp
        . exact e1 rfl
        . have:=(R.pre.oS p hp).1;omega
  . rw[ab.bu];by_cases e1:k=id
    . rw[e1,I.m4 _ bd bq]at hk;cases hk
    . rw[if_neg e1];exact I.m3 k bc hk
  . rw[ab.aY];exact I.m5
 |effect s1 hw hc hr ht hh bM h1 h2 h3=>
  obtain⟨q1,q2,q3⟩:=I.at G R ho hi hm hc;subst q1;subst q2;subst q3;rw[ae]at W;rw[hw,<-ae]at W;rw[oP W I.rel,if_pos rfl];have aT:cls o.op≠.alloc:=by rw[hc];decide
  have hL:∀p∈x.aA,p∈xf.all/\ad.testBit p.1=false:=λp hp=>by
   obtain⟨q1,q2⟩:=(R.pre.aA p).1 hp;obtain⟨l,hl,_⟩:=R.l.all;exact⟨by rw[hl];exact afV _ q1,q2⟩
  have ai:=I.sub hm hL;have aU:(cr x.s.h ((bx ops).getD i 0) x.aA).next=h.next:=by rw[tu,I.m5]
  have bb:mL e cf rf ro o {t,n:=x.s.n,ds:=x.s.ds,h:=cr x.s.h ((bx ops).getD i 0) x.aA}=some {t:=jC t o.dst v,n:=x.s.n,ds:=x.s.ds,h:=x'.s.h}:=bM t ah;rw[R.pre.n,R.pre.ds]at bb;have rel:dw e ρ {t,n:=s0.n,ds:=s0.ds,h:=cr x.s.h ((bx ops).getD i 0) x.aA} a w:=⟨I.rel.g,I.rel.t,I.rel.d,I.rel.m.sub ai (afM aU.symm)⟩;refine vg he bj bk bb rel aG n λa1 w1 aL x1 f1=> ?_;have aq:N<=(cr x.s.h ((bx ops).getD i 0) x.aA).next:=by rw[tu];exact I.mP
  have f2:Fr base ρ (cr x.s.h ((bx ops).getD i 0) x.aA) w aL x'.s.h w1:=f1.mono (RK ak aq);have bt:∀j,(yy ad ((bx ops).getD i 0)).testBit j=(ad.testBit j||((bx ops).getD i 0).testBit j):=λj=>afB _ _ _;have az:∀p∈xf.all,(yy ad ((bx ops).getD i 0)).testBit p.1=false->(cr x.s.h ((bx ops).getD i 0) x.aA).get p.2.1=none:=λp hp hb=>by
   rw[bt,afU]at hb;cases hg:(cr x.s.h ((bx ops).getD i 0) x.aA).get p.2.1 with
   |none=>rfl
   |some ob=>
    rcases Ad hg with⟨q,g1,g2,g3,g4⟩|g1
    . have:=G.inj q p (hL q g1).1 hp g3;subst this;rw[hb.2]at g2;cases g2
    . rw[I.m4 p hp hb.1]at g1;cases g1
  have ao:∀p∈xf.all,(yy ad ((bx ops).getD i 0)).testBit p.1=false->x'.s.h.get p.2.1=none:=λp hp hb=>by
   cases hg:x'.s.h.get p.2.1 with
   |none=>rfl
   |some ob=>
    obtain⟨bc,h5⟩:=f1.bl _ _ hg (afj (G.xr p hp).2 aq);rw[az p hp hb]at h5;cases h5
  classical
  let L2:=xf.all.filter λp=>decide (S' p.1/\(yy ad ((bx ops).getD i 0)).testBit p.1=false)
  have aW:∀p,p∈L2↔p∈xf.all/\S' p.1/\(yy ad ((bx ops).getD i 0)).testBit p.1=false:=λp=>by
   simp only[L2,afy,decide_eq_true_eq]
  have aC:∀p q,p∈L2->q∈L2->p.2.1=q.2.1->p=q:=λp q hp hq=>G.inj p q ((aW p).1 hp).1 ((aW q).1 hq).1;obtain⟨y1,y2⟩:=bz.extend (u':=fw x'.s.h L2) I.rel.m ai x1.m f2 (λk ob hk=>by
   rcases Fc aC hk with⟨p,hp,rfl,rfl⟩|hk
   . obtain⟨g1,g2,g3⟩:=(aW p).1 hp;refine .inr ⟨?_,az p g1 g3⟩;have g4:ad.testBit p.1=false:=by rw[bt,afU]at g3;exact g3.1
     exact I.m1 p g1 (((hS _).1 g2).resolve_right λe1=>an p g1 e1 aT) g4
   . exact .inl hk) (by
     rw[vl];show h.next<=x'.s.h.next;rw[<-aU];exact f1.next) (by rw[vl];exact yB _)
  have aX:N<=x'.s.h.next:=RK aq f1.next;refine hK _ _ _ _ _ _ _ _ (I.next G R ho hi hm hS (h':=fw x'.s.h L2) ⟨x1.g,x1.t,x1.d,y1⟩ y2 (af aq f1) (I.gy.more G.f ho hc hi hm hS).1 (R.Fg h3) (λp hp hs hb=>Ae aC p ((aW p).2 ⟨hp,hs,hb⟩)) (λk ob hk=> ?_) (λp hp hb=>ao p hp hb) (vl _ _) aX λj hj=> ?_)
  . by_cases hx:∃p∈L2,p.2.1=k
    . obtain⟨p,hp,rfl⟩:=hx;obtain⟨g1,g2,g3⟩:=(aW p).1 hp;rw[ao p g1 g3]at hk;cases hk
    . rw[Af λp hp e1=>hx ⟨p,hp,e1⟩];exact hk
  . rw[bt,Zf]at hj;rcases hj with hj|hj
    . exact(hS j).2 (.inl (I.m7 j hj))
    . exact(hS j).2 (.inl (hm j hj))
end
end Go.aD
end
noncomputable section
namespace Go.aD
variable {e:Env}
def rM(l:List Bool):Nat:=(l.filter (!·)).length
def Ah:∀(l:List Bool) (i:Nat),l[i]? =some false->rM (l.set i true)+1=rM l
 |[],_,h=>by simp at h
 |b::l,0,h=>by simp at h;subst h;simp[rM]
 |b::l,i+1,h=>by
  have:=Ah l i (by simpa using h);unfold rM at this⊢;rw[List.set_cons_succ,adr,adr]
  split
  . rw[E2,E2];omega
  . exact this
def Nz{l:List Bool}(h:rM l=0){i:Nat}:l[i]? ≠some false:=by
 intro hi;have:=Ah l i hi;omega
def On(listed:Array Bool)(i:Nat):Prop:=listed.getD i false=true
def NA{listed:Array Bool}{i:Nat}(hi:i<listed.size)(j:Nat):On (listed.setIfInBounds i true) j↔On listed j\/j=i:=by
 unfold On;by_cases h:i=j
 . subst h;simp[hi]
 . rw[getD_set_ne false h];exact⟨.inl,λhh=>hh.resolve_right (Ne.symm h)⟩
def Fi{listed:Array Bool}{i:Nat}(h:listed.getD i true=false):¬On listed i/\listed.toList[i]? =some false:=by
 rw[afN]at h;cases hg:listed[i]? with
 |none=>rw[hg]at h;cases h
 |some b=>
  rw[hg]at h;have:b=false:=h;subst this;refine⟨λho=> ?_,by simpa using hg⟩;unfold On at ho;rw[afN,hg]at ho;cases ho
def NB(he:e.Ok){dJ:Nat->eZ}{rf:gX}(av:∀i,nM e (dJ i))(az:vd e rf){ro ak:Option Nat}{ops:Array Oper}{s0:aN}{base N:Nat}{xf:cG}{fI:aH}{h0:ab}{w0:World}(aC:iB fI ro ak)
 (G:oT e dJ rf ro ops.toList s0 base N xf) (n:Nat) (Q:Exit->Act->World->Prop)
 (hQ:∀ρ a w t h m inc H (S:Nat->Prop),(∀i,i<ops.size->S i)->Inv e ops.toList s0 base N xf S fI h0 w0 ρ a w t h m inc H->Q .normal a w):
 ∀(fuel:Nat) (listed:Array Bool) (ρ:aH) (a:Act) (w:World) (t:Tr Value) (h:ab) (m inc:Nat) (H:ab),listed.size=ops.size->rM listed.toList=fuel->
  Inv e ops.toList s0 base N xf (On listed) fI h0 w0 ρ a w t h m inc H->wpAnyIn (FF ak) n e.P .any ops Q fuel listed a w:=by
 have all:∀(listed:Array Bool),listed.size=ops.size->Region.ready .any ops listed=[]->∀i,i<ops.size->On listed i:=by
  intro listed hs hr i
  induction i using af1 with
  |_ i ih=>
   intro hi;cases hg:listed.getD i false with
   |true=>exact hg
   |false=>
    exfalso;have ae:i∈Region.ready .any ops listed:=by
     rw[mem_ready];have aF:i<listed.size:=aa;refine⟨?_,ops[i],afv hi,λx hx hb=> ?_⟩
     . rw[afN,afv aF]at hg⊢;exact hg
     . have:=G.f.back i ops[i] (by simp[hi]) x (by simpa using hx) hb;exact ih x.on this (Xy this hi)
    rw[hr]at ae;cases ae
 intro fuel
 induction fuel with
 |zero=>
  intro listed ρ a w t h m inc H hs hu I;have hr:Region.ready .any ops listed=[]:=by
   cases hr:Region.ready .any ops listed with
   |nil=>rfl
   |cons i r=>
    have ae:i∈Region.ready .any ops listed:=by rw[hr];exact RC ..
    rw[mem_ready]at ae;exact absurd (Fi ae.1).2 (Nz hu)
  exact⟨hr,hQ ρ a w t h m inc H _ (all listed hs hr) I⟩
 |succ fuel ih=>
  intro listed ρ a w t h m inc H hs hu I;refine⟨λhr=>hQ ρ a w t h m inc H _ (all listed hs hr) I,λi ae=> ?_⟩;rw[mem_ready]at ae;obtain⟨h1,o,ho,hb⟩:=ae;obtain⟨hi,hl⟩:=Fi h1;have aG:ops.toList[i]? =some o:=by simpa using ho
  have aF:i<listed.size:=by
   have:=(FQ.1 hl).1;simpa using this
  obtain⟨id,x,x',mc,aM,v,R⟩:=G.Ag i o aG;have hm:∀j,((bx ops.toList).getD i 0).testBit j=true->On listed j:=λj hj=>by
   obtain⟨y,y1,y2,y3⟩:=E7 aG hj;have hy:On listed y.on:=hb y (by simpa using y1) y2;rcases y3 with rfl|y3
   . exact hy
   . exact I.closed y.on hy j y3
  refine I.step he (av i) az aC G R aG hi hm (NA aF) rfl n λai a' w' t' h' m' an H' I'=> ?_;refine ih (listed.setIfInBounds i true) ai a' w' t' h' m' an H' (by simpa using hs) ?_ I';have:=Ah listed.toList i hl;simp only[Array.toList_setIfInBounds];omega
def Fj(he:e.Ok)(aI:e.P.follows .mixedOrders=true){dJ:Nat->eZ}{rf:gX}(av:∀i,nM e (dJ i))(az:vd e rf)(ro:Option Nat)(ops:Array Oper)(s:aN)(aQ:qa ops.toList (bx ops.toList)=true)(xf:cG)
 (hd:mM e dJ rf ro ops.toList (ops.toList.zip (bx ops.toList)) 0 s.h.next {s:={s with h:={s.h with next:=s.h.next+(ops.toList.filter λo=>cls o.op==.alloc).length}},aA:=[],all:=[],bJ:=[(0,{s.h with next:=s.h.next+(ops.toList.filter λo=>cls o.op==.alloc).length})],di:=[]}=some xf)
 (aS:(dc ops.toList).length=0\/nO e ops.toList xf xf.bJ.reverse (dc ops.toList) (ops.toList.zip (bx ops.toList)) xf.di.reverse 0)
 (ρ:aH) (a:Act) (w:World) (ak:Option Nat) (n:Nat) (Q:Exit->Act->World->Prop) (id:Nat) (X:dw e ρ s a w) (aC:iB ρ ro ak)
 (hQ:∀a' w' ai,dw e ai {xf.s with h:=fw xf.s.h xf.aA} a' w'->Fr s.h.next ρ s.h w ai (fw xf.s.h xf.aA) w'->Q .normal a' w'):(Code.region id ops true).wpIn (FF ak) n e.P Q a w:=by
 have F:=Nq aQ
 let N:=s.h.next+((ops.toList.filter λo=>cls o.op==.alloc).length)
 let H0:ab:={s.h with next:=N}
 let s0:aN:={s with h:=H0}
 let x0:cG:={s:=s0,aA:=[],all:=[],bJ:=[(0,H0)],di:=[]}
 have aT:∀k,H0.get k=s.h.get k:=λ_=>rfl;have aJ:qg s0 s.h.next N ops.toList 0 s.h.next x0 0 0:=
  ⟨rfl,rfl,λ_ _=>rfl,⟨[],rfl⟩,rfl,⟨afz _,λp i k _=>⟨λh=>absurd h (afG _),λh=>absurd h (afG _)⟩⟩,λp=>(by simp[x0]),
   λp hp=>(by cases hp),λp q hp=>(by cases hp),λj hj=>(by simp at hj),rfl,yB _,rfl⟩
 obtain⟨Ag,l0,aU,mf,aW,pf⟩:=Nw F (ops.toList.length) 0 s.h.next x0 0 0 aw (afz _) (by rw[List.drop_zero];exact hd) aJ;have hN:aU=N:=by
  have:=pf.sum;rw[afL (yB _)]at this;simpa using this
 have G:oT e dJ rf ro ops.toList s0 s.h.next N xf:=by
  refine⟨F,λi o ho=> ?_,λd aX=> ?_,λp hp=> ?_,pf.inj,aS⟩
  . obtain⟨id,x,x',m,inc,v,r1,r2,r3,r4,r5⟩:=Ag i o (afz _) ho;exact⟨id,x,x',m,inc,v,r1,r2,r3,r4,r5⟩
  . exact l0.t d λj o _ ho=>aX j o ho
  . obtain⟨_,g2,g3⟩:=pf.oS p hp;exact⟨g2,by rw[<-hN];exact g3⟩
 refine wpIn_region_any aI ?_;have m0:bz ρ H0 {w with drawn:=w.drawn+1}:=(X.m.sub (g:=H0) (λi o h=>h) (af8 _ _)).draw rfl;have f0:Fr s.h.next ρ s.h w ρ H0 {w with drawn:=w.drawn+1}:=(Eu (h:=s.h) (w:=w) (w':={w with drawn:=w.drawn+1}) rfl rfl rfl s.h.next).trans (Fr.less (λi o h=>h) (af8 _ _));have ad:∀i,¬On (afX ops.size false) i:=λi h=>by
  unfold On at h;rw[afN]at h;cases hg:(afX ops.size false)[i]? with
  |none=>rw[hg]at h;cases h
  |some b=>
   rw[hg]at h;obtain⟨h1,h2⟩:=afw.1 hg;simp at h2;subst h2;cases h
 have af:∀p∈xf.all,ρ p.2.1=none:=λp hp=>by
  cases hx:ρ p.2.1 with
  |none=>rfl
  |some pl=>
   have h1:=X.m.iA _ _ hx;have h2:=(G.xr p hp).1;omega
 have I0:Inv e ops.toList s0 s.h.next N xf (On (afX ops.size false)) ρ s.h w ρ a {w with drawn:=w.drawn+1} s.t H0 0 0 H0:=by
  refine⟨λi hi=>absurd hi (ad i),λj o d hj=>absurd hj (ad j),λd _=>rfl,⟨X.g,X.t,X.d,m0⟩,f0,⟨afz _,λp i k _=>⟨λh=>absurd h (ad i),λh=>absurd h (afG _)⟩⟩,xu (q:=(0,H0)) (tl:=[]) (x:=x0) rfl rfl l0,
   λp _ hs=>absurd hs (ad _),λk o h=>h,λp hp _=> ?_,rfl,yB _,λp hp _=>af p hp,λj hj=>by simp at hj⟩
  . cases hg:H0.get p.2.1 with
    |none=>rfl
    |some ob=>
     obtain⟨pl,g1,_⟩:=X.m.obj _ _ (show s.h.get p.2.1=some ob from hg);rw[af p hp]at g1;cases g1
 refine NB he av az aC G n Q ?_ ops.size _ ρ a _ s.t H0 0 0 H0 aw ?_ I0
 . intro ai a' w' t' h' m' an H' S ah I;have e1:m'=mf:=I.gy.uniq pf.gy λp i k hp=>by
    obtain⟨o,q1,_⟩:=vj hp;have hl:=(FQ.1 q1).1;exact⟨λ_=>hl,λ_=>ah i (by simpa using hl)⟩
   subst e1;obtain⟨tl,aY⟩:=pf.jd;have aK:=xu aY pf.len (jD.refl ops.toList ops.toList.length xf);rw[I.jd]at aK;cases aK;have ao:∀k ob,(fw xf.s.h xf.aA).get k=some ob->h'.get k=some ob:=λk ob hk=>by
    rcases Fc (λp q hp hq=>pf.inj p q ((pf.aA p).1 hp).1 ((pf.aA q).1 hq).1) hk with⟨p,hp,rfl,rfl⟩|hk
    . obtain⟨g1,g2⟩:=(pf.aA p).1 hp;exact I.m1 p g1 (ah p.1 (by have:=(pf.oS p g1).1;simpa using this)) g2
    . exact I.m3 k ob hk
   have aL:h'.next<=(fw xf.s.h xf.aA).next:=by rw[vl];exact afM I.m5
   have ht:∀d,xf.s.t.get d=t'.get d:=λd=>by
    by_cases hw:∃(j:Nat) (o:Oper),ops.toList[j]? =some o/\o.dst=some d
    . obtain⟨j,o,hj,aq⟩:=hw;exact(I.t1 j o d (ah j (by have:=(FQ.1 hj).1;simpa using this)) hj aq).symm
    . rw[G.t0 d λj o hj aq=>hw ⟨j,o,hj,aq⟩,I.t2 d λj o _ hj aq=>hw ⟨j,o,hj,aq⟩]
   refine hQ a' w' ai ⟨I.rel.g, ?_, ?_,I.rel.m.sub ao aL⟩ (I.fr.trans (Fr.less ao aL))
   . refine⟨?_,λd v hv=> ?_⟩
     . show a'.tmps.size=xf.s.n;rw[pf.n];exact I.rel.t.1
     . show d<xf.s.n/\_;rw[pf.n];exact I.rel.t.2 d v (by rw[<-hv];exact(ht d).symm)
   . show aV _ xf.s.ds _;rw[pf.ds];exact I.rel.d
 . simp[rM]
end Go.aD
end
noncomputable section
namespace Go.aD
def Fk{α:Type}:∀(l:List α) (i:Nat) (t:Tr α) (j:Nat),(Tr.ofList l i t).get j=if i<=j/\j<i+l.length then l[j-i]? else t.get j
 |[],i,t,j=>by
  simp only[Tr.ofList,List.length_nil,Nat.add_zero];rw[if_neg aa]
 |a::l,i,t,j=>by
  simp only[Tr.ofList,Fk l (i+1),Tr.bu,E2];by_cases h1:i+1<=j/\j<i+1+l.length
  . rw[if_pos h1,if_pos aa];have:j-i=(j-(i+1))+1:=aa;rw[this];rfl
  . rw[if_neg h1];by_cases h2:j=i
    . subst h2;rw[if_pos rfl,if_pos aa];simp
    . rw[if_neg h2,if_neg aa]
def Fl{α:Type}(a:Array α)(j:Nat):(Tr.ofList a.toList 0 .nil).get j=a[j]? :=by
 rw[Fk];by_cases h:0<=j/\j<0+a.toList.length
 . rw[if_pos h];simp
 . rw[if_neg h,Tr.get_nil];have:a.size<=j:=by simp at h;omega
   simp[this]
def Ai(tt:Tr TypeInfo)(t:Nat):Option TypeDesc:=
 match tt.get t with
 |none=>none
 |some i=>match i.desc with
  |.named _ u=>match tt.get u with
   |none=>none
   |some j=>some j.desc
  |d=>some d
def xw(tt:Tr TypeInfo)(t:Nat):Option Nat:=
 match tt.get t with
 |none=>none
 |some i=>some i.size
def Fm(tt:Tr TypeInfo)(t:Nat):Option Nat:=
 match tt.get t with
 |none=>none
 |some i=>some i.bytes
def Fo(tt:Tr TypeInfo)(t:Nat):Option Value:=
 match tt.get t with
 |none=>none
 |some i=>match i.zero with
  |none=>none
  |some z=>bif plain z then some z else none
def Fp(ft:Tr Func)(f:Nat):Option Func:=
 match ft.get f with
 |none=>none
 |some fn=>match fn.body with
  |none=>none
  |some _=>some fn
def oU(P:Program)(tt:Tr TypeInfo)(ft:Tr Func)(idle:Nat->Bool)(oD:Nat)(ky:Nat->List Value->ab->Option (Value×ab)):Env:=
 {P,under:=Ai tt,size:=xw tt,bytes:=Fm tt,zero:=Fo tt,fn:=Fp ft,idle,oD,ky}
def Fq(tt:Tr TypeInfo)(l:List TypeInfo):Bool:=
 l.all λi=>match i.desc with
  |.struct fs=>fs.toList.all λf=>(tt.get f.type).isSome
  |_=>true
def Fs(l:List Func):Bool:=l.all λfn=> !(fn.name== "runtime.NumGoroutine")
def NC{P:Program}{tt:Tr TypeInfo}{ft:Tr Func}(idle:Nat->Bool)(oD:Nat)(ky:Nat->List Value->ab->Option (Value×ab))(ht:tt=Tr.ofList P.types.toList 0 .nil)(hf:ft=Tr.ofList P.funcs.toList 0 .nil)
 (ad:Fq tt P.types.toList=true) (ae:Fs P.funcs.toList=true):(oU P tt ft idle oD ky).Ok:=by
 have gi:∀t i,tt.get t=some i->P.types[t]? =some i:=λt i h=>by rw[ht,Fl]at h;exact h
 have inf:∀t i,tt.get t=some i->P.info? t=some i:=λt i h=>by
  have h1:=gi t i h;have hl:=(afw.1 h1).1;show P.toTables.info? t=some i;unfold Tables.info?;rw[if_pos hl];exact h1
 have gf:∀f fn,ft.get f=some fn->P.funcs[f]? =some fn:=λf fn h=>by rw[hf,Fl]at h;exact h
 refine⟨λt d h=> ?_,λt n h=> ?_,λt n h=> ?_,λt z h=> ?_,λt fs h f ah=> ?_,λf fn h=> ?_⟩
 . show P.underlying t=some d;simp only[oU,Ai]at h;unfold Program.underlying;cases hi:tt.get t with
   |none=>simp[hi]at h
   |some i=>
    simp only[hi]at h;rw[inf t i hi];obtain⟨desc,sz,bt,zv,nm⟩:=i;simp only at h
    split at h
    . rename_i u hd
      split at h
      . cases h
      . rename_i j hj;cases h;simp[inf _ _ hj]
    . rename_i hd;cases h
      split
      . rename_i u _ heq;exact absurd (by cases heq;rfl) (hd _ _)
      . rename_i j heq;cases heq;rfl
      . rename_i heq;cases heq
 . simp only[oU,xw]at h;cases hi:tt.get t with
   |none=>simp[hi]at h
   |some i=>simp only[hi,qG]at h;exact⟨i,inf t i hi,h⟩
 . simp only[oU,Fm]at h;cases hi:tt.get t with
   |none=>simp[hi]at h
   |some i=>simp only[hi,qG]at h;exact⟨i,inf t i hi,h⟩
 . simp only[oU,Fo]at h;cases hi:tt.get t with
   |none=>simp[hi]at h
   |some i=>
    simp only[hi]at h;cases hz:i.zero with
    |none=>simp[hz]at h
    |some z'=>
     simp only[hz]at h;obtain⟨h1,h2⟩:=cg h;cases h2;exact⟨i,inf t i hi,hz,h1⟩
 . simp only[oU,Ai]at h;have key:∀k i,tt.get k=some i->i.desc=.struct fs->∃n,xw tt f.type=some n:=λk i hk hd=>by
    have hm:i∈P.types.toList:=by
     have:=gi k i hk;exact afW (i:=k) (by simpa using this)
    have:=ab8.1 ad i hm;rw[hd]at this;have:=ab8.1 this f ah;cases hx:tt.get f.type with
    |none=>rw[hx]at this;cases this
    |some j=>exact⟨j.size,by simp only[xw,hx]⟩
   cases hi:tt.get t with
   |none=>simp[hi]at h
   |some i=>
    simp only[hi]at h
    split at h
    . split at h
      . cases h
      . rename_i j hj;simp only[qG]at h;exact key _ j hj h
    . simp only[qG]at h;exact key t i hi h
 . simp only[oU,Fp]at h;cases hi:ft.get f with
   |none=>simp[hi]at h
   |some g=>
    simp only[hi]at h;cases hb:g.body with
    |none=>simp[hb]at h
    |some c=>
     simp only[hb,qG]at h;subst h;refine⟨gf f g hi,λargs w=> ?_⟩;have hm:g∈P.funcs.toList:=afW (i:=f) (by simpa using gf f g hi);have hn:=ab8.1 ae g hm;simp only[afT]at hn;simp only[callFunc,Sem.run_bind,run_program,Result.andThen_ok,oU,gf f g hi,hn,hb];rfl
structure vm where
 f:Nat
 args:List Value
 rows:List (Nat×List Value×Nat)
 res:Value
 top:Nat
def Ft(h:ab):List (Nat×List Value×Nat)->Bool
 |[]=>true
 |(i,cs,aj)::r=>match h.get i with
  |some (.row cs' _ af)=>Nat.beq af aj&&(uW.rp 6 cs' cs&&Ft h r)
  |_=>false
def ND(k:vm)(f:Nat)(args:List Value)(h:ab):Bool:=
 Nat.beq f k.f&&(uW.rp 6 args k.args&&(Nat.ble h.next k.top&&Ft h k.rows))
def xy:List vm->Nat->List Value->ab->Option (Value×ab)
 |[],_,_,_=>none
 |k::r,f,args,h=>bif Nat.beq f k.f then(bif ND k f args h then some (k.res,h)else xy r f args h)else xy r f args h
variable {e:Env}
def nP(e:Env)(ro:Option Nat)(c:Code)(s:aN)(x:bB)(s':aN):Prop:=∀ρ a w ad n Q,dw e ρ s a w->iB ρ ro ad->
 (∀a' w' af,dw e af s' a' w'->Fr s.h.next ρ s.h w af s'.h w'->Q x.to a' w')->c.wpIn (FF ad) n e.P Q a w
def bU(e:Env)(f:FuncId)(args:List Value)(h:ab)(v:Value)(h':ab):Prop:=(∃fn,e.fn f=some fn)/\∀ρ w (ah:Array Value),Gl e ρ->bN ρ args ah.toList->bz ρ h w->
 Calls e.P f ah w λen w'=>∃v' af,en=.returned v'/\aR af v v'/\bz af h' w'/\Fr h.next ρ h w af h' w'
open Classical in
def xz(f:FuncId)(args:List Value)(h:ab)(v:Value)(h':ab):eZ:=λf' a' g=>if f'=f/\a'=args/\g=h then some (v,h')else none
def NF{f:FuncId}{args:List Value}{h:ab}{v:Value}{h':ab}(hr:bU e f args h v h'):nM e (xz f args h v h'):=by
 intro f' a' g v' g' hc;unfold xz at hc
 split at hc
 . rename_i hk;obtain⟨rfl,rfl,rfl⟩:=hk;cases hc;exact hr
 . cases hc
def NG{f:FuncId}{args:List Value}{h:ab}{v:Value}{h':ab}:xz f args h v h' f args h=some (v,h'):=by
 unfold xz;rw[if_pos ⟨rfl,rfl,rfl⟩]
def mQ:nM e (λ_ _ _=>none):=λ_ _ _ _ _ h=>by cases h
def xA:vd e (λ_ _ _=>none):=λ_ _ _ _ _ h=>by cases h
def gI(dst:Option Tmp)(v:Value)(s:aN)(K:aN->Prop):Prop:=∃s',fH s dst v=some s'/\K s'
def ma(e:Env)(ro:Option Nat)(o:Oper)(s:aN)(K:aN->Prop):Prop:=
 match aS e s.h s.t o.op with
 |none=>False
 |some (.val v h)=>gI o.dst v {s with h} K
 |some (.skip h)=>gI o.dst undef {s with h} K
 |some (.enter f args h)=>∃v h',bU e f args h v h'/\gI o.dst v {s with h:=h'} K
 |some (.round _ _ _)=>False
 |some (.defer f args cap h)=>ro=none/\gI o.dst undef {s with h,ds:={target:=.fn (.func f) cap.toArray,args:=args.toArray}::s.ds} K
def ma.cf{ro:Option Nat}{o:Oper}{s:aN}{K:aN->Prop}(h:ma e ro o s K):∃cf s',nM e cf/\mL e cf (λ_ _ _=>none) ro o s=some s'/\K s':=by
 unfold ma at h;simp only[wX]
 split at h
 . cases h
 . rename_i v h1 hr;obtain⟨s',h2,h3⟩:=h;exact⟨_,s',mQ,by rw[hr];exact h2,h3⟩
 . rename_i h1 hr;obtain⟨s',h2,h3⟩:=h;exact⟨_,s',mQ,by rw[hr];exact h2,h3⟩
 . rename_i f args h1 hr;obtain⟨v,h',hf,s',h2,h3⟩:=h;exact⟨_,s',NF hf,by rw[hr];simp only[NG];exact h2,h3⟩
 . cases h
 . rename_i f args cap h1 hr;obtain⟨rfl,s',h2,h3⟩:=h;exact⟨_,s',mQ,by rw[hr];exact h2,h3⟩
def iS(e:Env)(ro:Option Nat)(ops:List Oper):List Oper->aN->(aN->Prop)->Prop
 |[],s,K=>K s
 |o::r,s,K=>match cX ops s o with
  |none=>False
  |some true=>ma e ro o s λs=>iS e ro ops r s K
  |some false=>gI o.dst undef s λs=>iS e ro ops r s K
def NH(he:e.Ok){ro:Option Nat}{ops:Array Oper}{K:aN->Prop}:∀(l:List Oper) (k:Nat) (s:aN),ops.toList.drop k=l->iS e ro ops.toList l s K->∃s',K s'/\∀ad n Q (ρ:aH) (a:Act) (w:World),dw e ρ s a w->iB ρ ro ad->
 (∀a' w' af,dw e af s' a' w'->Fr s.h.next ρ s.h w af s'.h w'->Q .normal a' w')->wpOpsIn (FF ad) n e.P ops Q ((afO ops.size).drop k) a w:=by
 intro l
 induction l with
 |nil=>
  intro k s hl h;have hk:ops.size<=k:=by
   have:=congrArg List.length hl;simp at this;omega
  refine⟨s,h,λad n Q ρ a w x _ hQ=> ?_⟩;rw[afL (by simpa using hk)];exact hQ a w ρ x (Fr.refl _ _ _ _)
 |cons o r ih=>
  intro k s hl h;have hk:k<ops.size:=by
   rcases afS k ops.size with h|h
   . exact h
   . rw[afL (by simpa using h)]at hl;cases hl
  have bb:ops[k]? =some o:=by
   have:(ops.toList.drop k)[0]? =some o:=by rw[hl];rfl
   simpa[af7]using this
  have hr:ops.toList.drop (k+1)=r:=by rw[<-List.drop_drop,hl];rfl
  have aq:(afO ops.size).drop k=k::(afO ops.size).drop (k+1):=by
   rw[afI (by simpa using hk)];simp
  rw[aq];simp only[iS]at h;simp only[wpOpsIn,bb];cases hw:cX ops.toList s o with
  |none=>simp[hw]at h
  |some b=>
   cases b with
   |true=>
    simp only[hw]at h;obtain⟨cf,s1,aM,hs,h⟩:=h.cf;obtain⟨s2,h2,h3⟩:=ih (k+1) s1 hr h;refine⟨s2,h2,λad n Q ρ a w x ae hQ=> ?_⟩;rw[oP hw x,if_pos rfl];refine vg he aM xA hs x ae n λa1 w1 ai x1 f1=> ?_;refine h3 ad n Q ai a1 w1 x1 (ae.mono f1.ext) λa2 w2 av x2 f2=> ?_;exact hQ a2 w2 av x2 (f1.trans (f2.mono f1.next))
   |false=>
    simp only[hw]at h;obtain⟨s1,hs,h⟩:=h;obtain⟨s2,h2,h3⟩:=ih (k+1) s1 hr h;refine⟨s2,h2,λad n Q ρ a w x ae hQ=> ?_⟩;rw[oP hw x,if_neg aw];refine⟨λf _=>trivial, ?_⟩;obtain⟨p1,p2⟩:=mO x hs (ve _);refine h3 ad n Q ρ _ w p1 ae λa2 w2 av x2 f2=> ?_;rw[p2]at f2;exact hQ a2 w2 av x2 f2
def mR(e:Env)(ro:Option Nat)(ops:List Oper)(i id m:Nat)(o:Oper)(x:cG)(K:cG->Prop):Prop:=
 match cX ops x.s o with
 |none=>False
 |some false=>match cls o.op with
  |.effect=>gI o.dst undef x.s λs=>K {x with s,bJ:=((x.bJ.head?.map (·.1)).getD 0,s.h)::x.bJ}
  |.bad=>False
  |_=>gI o.dst undef x.s λs=>K {x with s}
 |some true=>match cls o.op with
  |.pure=>match aS e x.s.h x.s.t o.op with
   |some (.val v _)=>gI o.dst v x.s λs=>K {x with s}
   |_=>False
  |.read=>match aS e (cr x.s.h m x.aA) x.s.t o.op with
   |some (.val v _)=>gI o.dst v x.s λs=>K {x with s}
   |_=>False
  |.alloc=>match cT e x.s.t o.op with
   |none=>False
   |some (ob,f)=>gI o.dst (f id) x.s λs=>K {x with s,aA:=(i,id,ob)::x.aA,all:=(i,id,ob)::x.all}
  |.effect=>ma e ro o {x.s with h:=cr x.s.h m x.aA} λs=>K {x with s,aA:=x.aA.filter λp=> !m.testBit p.1,bJ:=(yy ((x.bJ.head?.map (·.1)).getD 0) m,s.h)::x.bJ}
  |.bad=>False
def mR.cf{ro:Option Nat}{ops:List Oper}{i id m:Nat}{o:Oper}{x:cG}{K:cG->Prop}(h:mR e ro ops i id m o x K):∃cf x',nM e cf/\ta e cf (λ_ _ _=>none) ro ops i id m o x=some x'/\K x':=by
 unfold mR at h;unfold ta;cases hw:cX ops x.s o with
 |none=>simp[hw]at h
 |some b=>
  cases b with
  |false=>
   simp only[hw]at h⊢;cases hc:cls o.op with
   |effect=>simp only[hc]at h;obtain⟨s,h1,h2⟩:=h;exact⟨_,_,mQ,by rw[h1],h2⟩
   |bad=>simp[hc]at h
   |pure=>simp only[hc]at h;obtain⟨s,h1,h2⟩:=h;exact⟨_,_,mQ,by rw[h1],h2⟩
   |read=>simp only[hc]at h;obtain⟨s,h1,h2⟩:=h;exact⟨_,_,mQ,by rw[h1],h2⟩
   |alloc=>simp only[hc]at h;obtain⟨s,h1,h2⟩:=h;exact⟨_,_,mQ,by rw[h1],h2⟩
  |true=>
   simp only[hw]at h⊢;cases hc:cls o.op with
   |pure=>
    simp only[hc]at h⊢
    split at h
    . rename_i v h1 hr;obtain⟨s,h2,h3⟩:=h;exact⟨_,_,mQ,by rw[hr];simp only;rw[h2];rfl,h3⟩
    . cases h
   |read=>
    simp only[hc]at h⊢
    split at h
    . rename_i v h1 hr;obtain⟨s,h2,h3⟩:=h;exact⟨_,_,mQ,by rw[hr];simp only;rw[h2];rfl,h3⟩
    . cases h
   |alloc=>
    simp only[hc]at h⊢
    split at h
    . cases h
    . rename_i ob f hr;obtain⟨s,h2,h3⟩:=h;exact⟨_,_,mQ,by rw[hr];simp only;rw[h2];rfl,h3⟩
   |effect=>
    simp only[hc]at h⊢;obtain⟨cf,s,aM,h2,h3⟩:=h.cf;exact⟨cf,_,aM,by rw[h2],h3⟩
   |bad=>simp[hc]at h
def ll(e:Env)(ro:Option Nat)(ops:List Oper):List (Oper×Nat)->Nat->Nat->cG->(cG->Prop)->Prop
 |[],_,_,x,K=>K x
 |(o,m)::r,i,id,x,K=>mR e ro ops i id m o {x with di:=x.s.t::x.di} λx=>ll e ro ops r (i+1) (nextId o id) x K
def Fu{ro:Option Nat}{ops:List Oper}{dJ cfs':Nat->eZ}{rf:gX}:∀(l:List (Oper×Nat)) (i id:Nat) (x:cG),(∀j,i<=j->dJ j=cfs' j)->mM e dJ rf ro ops l i id x=mM e cfs' rf ro ops l i id x
 |[],_,_,_,_=>rfl
 |(o,m)::r,i,id,x,h=>by
  simp only[mM,h i (yB _)]
  split
  . rfl
  . exact Fu r (i+1) _ _ λj hj=>h j aa
def ll.dJ{ro:Option Nat}{ops:List Oper}{K:cG->Prop}:∀(l:List (Oper×Nat)) (i id:Nat) (x:cG),ll e ro ops l i id x K->∃(dJ:Nat->eZ) (x':cG),(∀j,nM e (dJ j))/\mM e dJ (λ_ _ _=>none) ro ops l i id x=some x'/\K x'
 |[],_,_,x,h=>⟨λ_ _ _ _=>none,x,λ_=>mQ,rfl,h⟩
 |(o,m)::r,i,id,x,h=>by
  obtain⟨cf,x1,h1,h2,h3⟩:=mR.cf (h:mR e ro ops i id m o {x with di:=x.s.t::x.di} _);obtain⟨dJ,x2,h4,h5,h6⟩:=ll.dJ r (i+1) _ x1 h3;refine⟨λj=>if j=i then cf else dJ j,x2,λj=> ?_, ?_,h6⟩
  . by_cases hj:j=i
    . simp only[hj,if_true];exact h1
    . simp only[hj,if_false];exact h4 j
  . simp only[mM,if_true,h2];rw[Fu r (i+1) _ x1 (cfs':=dJ) λj hj=>by rw[if_neg aa]];exact h5
def mb(e:Env)(ro:Option Nat)(ops:List Oper)(s:aN)(K:aN->Prop):Prop:=
 qa ops (bx ops)=true/\ll e ro ops (ops.zip (bx ops)) 0 s.h.next {s:={s with h:={s.h with next:=s.h.next+(ops.filter λo=>cls o.op==.alloc).length}},aA:=[],all:=[],bJ:=[(0,{s.h with next:=s.h.next+(ops.filter λo=>cls o.op==.alloc).length})],di:=[]}
  λx=>((dc ops).length=0\/nO e ops x x.bJ.reverse (dc ops) (ops.zip (bx ops)) x.di.reverse 0)/\K {x.s with h:=fw x.s.h x.aA}
def nQ(e:Env)(ro:Option Nat)(c:Code)(x:bB)(s':aN):Nat->aN->Prop
 |0,s=>nP e ro c s x s'/\x≠.normal
 |n+1,s=>∃s1,nP e ro c s .normal s1/\nQ e ro c x s' n s1
def nQ.runs{ro:Option Nat}{c:Code}{x:bB}{s':aN}:∀(k:Nat) (s:aN),nQ e ro c x s' k s->nP e ro (.loop c) s x s':=by
 intro k s hk ρ a w ad n Q X ae hQ;have key:∀k (s:aN),nQ e ro c x s' k s->∀(ρ:aH) (a:Act) (w:World),dw e ρ s a w->iB ρ ro ad->(∀a' w' af,dw e af s' a' w'->Fr s.h.next ρ s.h w af s'.h w'->Q x.to a' w')->c.roundsIn (FF ad) n e.P Q (k+1) a w:=by
  intro k
  induction k with
  |zero=>
   intro s hk ρ a w X ae hQ;rw[roundsIn_succ];obtain⟨h1,h2⟩:=hk;refine h1 ρ a w ad n _ X ae λa1 w1 ai q1 f1=> ?_;cases x with
   |normal=>exact absurd rfl h2
   |exit id=>exact hQ a1 w1 ai q1 f1
   |ret=>exact hQ a1 w1 ai q1 f1
  |succ k ih=>
   intro s hk ρ a w X ae hQ;rw[roundsIn_succ];obtain⟨s1,h1,h2⟩:=hk;refine h1 ρ a w ad n _ X ae λa1 w1 ai q1 f1=> ?_;exact ih s1 h2 ai a1 w1 q1 (ae.mono f1.ext) λa2 w2 av q2 f2=>hQ a2 w2 av q2 (f1.trans (f2.mono f1.next))
 exact wpIn_loop_rounds (k+1) (key k s hk ρ a w X ae hQ)
def RQ(e:Env)(ro:Option Nat):Code->aN->(bB->aN->Prop)->Prop
 |.skip,s,K=>K .normal s
 |.label _,s,K=>K .normal s
 |.exit id,s,K=>K (.exit id) s
 |.ret,s,K=>K .ret s
 |.scope c,s,K=>RQ e ro c s K
 |.region _ ops true,s,K=>mb e ro ops.toList s (K .normal)
 |.region _ ops false,s,K=>iS e ro ops.toList ops.toList s (K .normal)
 |.seq a b,s,K=>RQ e ro a s λx s1=>match x with|.normal=>RQ e ro b s1 K|.exit i=>K (.exit i) s1|.ret=>K .ret s1
 |.cond c a b,s,K=>∃v,aF e s.t c=some (.bool v)/\(v=true->RQ e ro a s K)/\(v=false->RQ e ro b s K)
 |.block id c,s,K=>RQ e ro c s λx s1=>match x with|.normal=>K .normal s1|.exit i=>if i=id then K .normal s1 else K (.exit i) s1|.ret=>K .ret s1
 |.loop c,s,K=>∃x s',nP e ro (.loop c) s x s'/\K x s'
 |_,_,_=>False
def RQ.runs(he:e.Ok)(az:e.P.follows .mixedOrders=true){ro:Option Nat}:∀(c:Code) (s:aN) (K:bB->aN->Prop),RQ e ro c s K->∃x s',nP e ro c s x s'/\K x s':=by
 intro c
 induction c with
 |skip=>exactλs K h=>⟨.normal,s,λρ a w ad n Q X ae hQ=>wpIn_skip (hQ a w ρ X (Fr.refl _ _ _ _)),h⟩
 |label l=>exactλs K h=>⟨.normal,s,λρ a w ad n Q X ae hQ=>wpIn_label (hQ a w ρ X (Fr.refl _ _ _ _)),h⟩
 |exit id=>exactλs K h=>⟨.exit id,s,λρ a w ad n Q X ae hQ=>wpIn_exit (hQ a w ρ X (Fr.refl _ _ _ _)),h⟩
 |ret=>exactλs K h=>⟨.ret,s,λρ a w ad n Q X ae hQ=>wpIn_ret (hQ a w ρ X (Fr.refl _ _ _ _)),h⟩
 |scope c ih=>
  intro s K h;obtain⟨x,s',h1,h2⟩:=ih s K h;refine⟨x,s',λρ a w ad n Q X ae hQ=>zV (h1 ρ a w ad n _ X ae λa' w' af x' f'=> ?_),h2⟩;have:=hQ a' w' af x' f';cases x<;>exact this
 |region id ops draw=>
  intro s K h;cases draw with
  |true=>
   obtain⟨h1,h2⟩:=(h:mb e ro ops.toList s (K .normal));obtain⟨dJ,x,h3,h4,h5,h6⟩:=h2.dJ;exact⟨_,_,λρ a w ad n Q X ae hQ=>Fj he az h3 xA ro ops s h1 x h4 h5 ρ a w ad n Q id X ae hQ,h6⟩
  |false=>
   have h0:∃s',K .normal s'/\∀ad n Q (ρ:aH) (a:Act) (w:World),dw e ρ s a w->iB ρ ro ad->
    (∀a' w' af,dw e af s' a' w'->Fr s.h.next ρ s.h w af s'.h w'->Q .normal a' w')->wpOpsIn (FF ad) n e.P ops Q ((afO ops.size).drop 0) a w:=by
    have:iS e ro ops.toList (ops.toList.drop 0) s (K .normal):=h;exact NH he _ 0 s rfl this
   obtain⟨s',h1,h2⟩:=h0;refine⟨_,s',λρ a w ad n Q X ae hQ=>wpIn_region ?_,h1⟩;have:=h2 ad n Q ρ a w X ae hQ;simpa using this
 |seq p q aQ aT=>
  intro s K h;obtain⟨x,s1,h1,h2⟩:=aQ s _ h;cases x with
  |normal=>
   obtain⟨x2,s2,h3,h4⟩:=aT s1 K h2;exact⟨x2,s2,λρ a w ad n Q X ae hQ=>wpIn_seq (h1 ρ a w ad n _ X ae λa1 w1 ai q1 f1=>h3 ai a1 w1 ad n Q q1 (ae.mono f1.ext) λa2 w2 av q2 f2=>hQ a2 w2 av q2 (f1.trans (f2.mono f1.next))),h4⟩
  |exit i=>exact⟨_,s1,λρ a w ad n Q X ae hQ=>wpIn_seq (h1 ρ a w ad n _ X ae λa1 w1 ai q1 f1=>hQ a1 w1 ai q1 f1),h2⟩
  |ret=>exact⟨_,s1,λρ a w ad n Q X ae hQ=>wpIn_seq (h1 ρ a w ad n _ X ae λa1 w1 ai q1 f1=>hQ a1 w1 ai q1 f1),h2⟩
 |cond c p q aQ aT=>
  intro s K h;obtain⟨v,hv,ht,hf⟩:=h;cases v with
  |true=>
   obtain⟨x,s1,h1,h2⟩:=aQ s K (ht rfl);exact⟨x,s1,λρ a w ad n Q X ae hQ=>wpIn_cond_true (kF X.g X.t hv a.defers).oM (h1 ρ a w ad n Q X ae hQ),h2⟩
  |false=>
   obtain⟨x,s1,h1,h2⟩:=aT s K (hf rfl);exact⟨x,s1,λρ a w ad n Q X ae hQ=>wpIn_cond_false (kF X.g X.t hv a.defers).oM (h1 ρ a w ad n Q X ae hQ),h2⟩
 |block id c ih=>
  intro s K h;obtain⟨x,s1,h1,h2⟩:=ih s _ h;cases x with
  |normal=>exact⟨.normal,s1,λρ a w ad n Q X ae hQ=>wpIn_block (h1 ρ a w ad n _ X ae λa1 w1 ai q1 f1=>hQ a1 w1 ai q1 f1),h2⟩
  |ret=>exact⟨.ret,s1,λρ a w ad n Q X ae hQ=>wpIn_block (h1 ρ a w ad n _ X ae λa1 w1 ai q1 f1=>hQ a1 w1 ai q1 f1),h2⟩
  |exit i=>
   by_cases aU:i=id
   . subst aU;simp only[if_true]at h2;refine⟨.normal,s1,λρ a w ad n Q X ae hQ=>wpIn_block (h1 ρ a w ad n _ X ae λa1 w1 ai q1 f1=> ?_),h2⟩;show Exit.inBlock _ Q (.exit i) a1 w1;simp only[Exit.inBlock,if_true];exact hQ a1 w1 ai q1 f1
   . simp only[aU,if_false]at h2;refine⟨.exit i,s1,λρ a w ad n Q X ae hQ=>wpIn_block (h1 ρ a w ad n _ X ae λa1 w1 ai q1 f1=> ?_),h2⟩;show Exit.inBlock _ Q (.exit i) a1 w1;simp only[Exit.inBlock,aU,if_false];exact hQ a1 w1 ai q1 f1
 |loop c ih=>exactλs K h=>h
 |_=>exactλs K h=>h.elim
open Classical in
def qh(c:Code)(s:aN)(x:bB)(s':aN):oI:=λro c' s1=>if ro=none/\c'=c/\s1=s then some (x,s')else none
def Aj{c:Code}{s:aN}{x:bB}{s':aN}(h:nP e none c s x s'):EX e (qh c s x s'):=by
 intro ro c' s1 x1 s2 hc;unfold qh at hc
 split at hc
 . rename_i hk;obtain⟨rfl,rfl,rfl⟩:=hk;cases hc;exact h
 . cases hc
def j7:List Value->Value
 |[v]=>v
 |vs=>.tuple vs.toArray
def oV(e:Env)(rs:List ResultVar)(K:Value->ab->Prop)(x:bB)(s:aN):Prop:=
 (∀i,x≠.exit i)/\∃h1 vs,kZ e s.ds s.h=some h1/\iz e {s with h:=h1} rs=some vs/\K (j7 vs) h1
def bU.of(he:e.Ok)(az:e.P.follows .mixedOrders=true)(aG:Idle e){f:FuncId}{fn:Func}{c:Code}{args:List Value}{h:ab}{K:Value->ab->Prop}(bc:e.fn f=some fn)(hb:fn.body=some c)
 (hq:RQ e none c {t:=gY args,n:=args.length+(fn.ntmps-args.length),ds:=[],h} (oV e fn.results.toList K)):∃v h',bU e f args h v h'/\K v h':=by
 obtain⟨x,s',h1,hx,h2,vs,h3,h4,h5⟩:=hq.runs he az;refine⟨j7 vs,h2, ?_,h5⟩;have:=zX he aG (Aj h1) f args h (j7 vs) h2 (by
  unfold qb;simp only[bc,hb];have:qh c {t:=gY args,n:=args.length+(fn.ntmps-args.length),ds:=[],h} x s' none c {t:=gY args,n:=args.length+(fn.ntmps-args.length),ds:=[],h}=some (x,s'):=by
   unfold qh;rw[if_pos ⟨rfl,rfl,rfl⟩]
  rw[this];cases x with
  |exit i=>exact absurd rfl (hx i)
  |normal=>
   simp only[h3,h4]
   match vs with
   |[]=>rfl
   |[v]=>rfl
   |_::_::_=>rfl
  |ret=>
   simp only[h3,h4]
   match vs with
   |[]=>rfl
   |[v]=>rfl
   |_::_::_=>rfl)
 exact this
def bU.drop{f:FuncId}{args:List Value}{h:ab}{v:Value}{h1 g:ab}(hr:bU e f args h v h1)(hs:∀i o,g.get i=some o->h1.get i=some o)(hn:h1.next<=g.next):bU e f args h v g:=by
 refine⟨hr.1,λρ w ah hg ha x=>(hr.2 ρ w ah hg ha x).mono ?_⟩;rintro en w' ⟨v',af,rfl,q1,q2,q3⟩;exact⟨v',af,rfl,q1,q2.sub hs hn,q3.trans (Fr.less hs hn)⟩
def kC.back{ρ af:aH}(hx:Ext ρ af){f g g':Fn}(h:kC ρ f g)(h':kC af f g'):kC ρ f g':=by
 cases h with
 |func f=>cases h';exact .func f
 |yield hp=>cases h' with|yield ao=>rw[hx _ _ hp]at ao;cases ao;exact .yield hp
def aR.back{ρ af:aH}(hx:Ext ρ af){v u:Value}(h:aR ρ v u):∀{v':Value},aR af v v'->aR ρ v v':=by
 induction h with
 |bool b=>intro v' h';cases h';exact .bool b
 |int k n=>intro v' h';cases h';exact .int k n
 |string s=>intro v' h';cases h';exact .string s
 |rB=>intro v' h';cases h';exact .rB
 |ptr hp=>intro v' h';cases h' with|ptr ao=>rw[hx _ _ hp]at ao;cases ao;exact .ptr hp
 |kD l k=>intro v' h';cases h';exact .kD l k
 |sl hp hs=>intro v' h';cases h' with|sl ao aI=>rw[hx _ _ hp]at ao;cases ao;exact .sl hp aI
 |oJ=>intro v' h';cases h';exact .oJ
 |map hp=>intro v' h';cases h' with|map ao=>rw[hx _ _ hp]at ao;cases ao;exact .map hp
 | @func fn aY a a' c c' hf h1 g1 h2 g2 bd bf=>
  intro v' h';cases h' with
  | @func _ Ak _ a2 _ c2 bg ak bj an bk=>
   refine .func (hf.back hx bg) ak (λi x x' hi aC=> ?_) an (λi x x' hi aC=> ?_)
   . have hl:=(afw.1 hi).1;exact bd i x _ hi (afv aa) (bj i x x' hi aC)
   . have hl:=(afw.1 hi).1;exact bf i x _ hi (afv aa) (bk i x x' hi aC)
 |nilFunc=>intro v' h';cases h';exact .nilFunc
 |iface _ ih=>intro v' h';cases h' with|iface h1=>exact .iface (ih h1)
 |nilIface=>intro v' h';cases h';exact .nilIface
 | @agg a a' hs hh ih=>
  intro v' h';cases h' with
  | @agg _ a2 aI aW=>
   refine .agg aI λi x x' hi aC=> ?_;have hl:=(afw.1 hi).1;exact ih i x _ hi (afv aa) (aW i x x' hi aC)
 | @tuple a a' hs hh ih=>
  intro v' h';cases h' with
  | @tuple _ a2 aI aW=>
   refine .tuple aI λi x x' hi aC=> ?_;have hl:=(afw.1 hi).1;exact ih i x _ hi (afv aa) (aW i x x' hi aC)
def bN.back{ρ af:aH}(hx:Ext ρ af):∀{x y y':List Value},bN ρ x y->bN af x y'->bN ρ x y'
 |_,_,_,.nil,.nil=>.nil
 |_,_,_,.cons h1 h2,.cons ak an=>.cons (h1.back hx ak) (bN.back hx h2 an)
def Fv{ρ af:aH}(hx:Ext ρ af):∀{x y y':List MapEntry},aV (eW ρ) x y->aV (eW af) x y'->aV (eW ρ) x y'
 |_,_,_,.nil,.nil=>.nil
 |_,_,_,.cons h1 h2,.cons ak an=>.cons ⟨ak.key,ak.plain,h1.val.back hx ak.val,ak.born⟩ (Fv hx h2 an)
def iQ.back{ρ af:aH}{w w':World}{pl:Pl}{o:bP}(hx:Ext ρ af)(h:iQ ρ w pl o)(h':iQ af w' pl o):iQ ρ w' pl o:=by
 cases o with
 |row cs wr aj=>
  obtain⟨c,el,fz,h1,h2,h3,h4,h5,h6,h7,h8⟩:=h;obtain⟨c',bm,bo,ak,an,aJ,bp,bq,bs,bt,ba⟩:=h';exact⟨c',bm,bo,ak,an,aJ,bp,bq,bs,bt,bN.back hx h8.1 ba.1,ba.2⟩
 |map es clock=>
  obtain⟨h0,bD,h1,h2⟩:=h;obtain⟨aK,aX,ak,an⟩:=h';exact⟨aK,aX,ak,Fv hx h2 an⟩
 |cF m since seen last=>
  obtain⟨h0,m1,h1,h2⟩:=h;obtain⟨aK,bu,ak,an⟩:=h';exact⟨aK,bu,ak,h2.back hx an⟩
 |eY s pos=>exact h'
 |loop st aA t n params bX body fU=>
  obtain⟨h0,fn,tmps,bw,h1,h2,h3⟩:=h;obtain⟨aK,aY,aL,bA,ak,an,aJ⟩:=h';rw[hx _ _ h1]at ak;cases ak;refine⟨aK,aY,aL,bw,h1,⟨an.1,λi v hv=> ?_⟩,aJ⟩;obtain⟨a1,a2⟩:=h2.2 i v hv;obtain⟨b1,b2⟩:=an.2 i v hv;exact⟨b1,a2.back hx b2⟩
 |fU e=>exact h'
def bU.pure{f:FuncId}{args:List Value}{h:ab}{v:Value}{h1:ab}(hr:bU e f args h v h1)(hs:∀i o,h.get i=some o->h1.get i=some o)
 (hv:∀ρ w (ah:List Value),Gl e ρ->bN ρ args ah->bz ρ h w->∃u,aR ρ v u):bU e f args h v h:=by
 refine⟨hr.1,λρ w ah hg ha x=>(hr.2 ρ w ah hg ha x).mono ?_⟩;rintro en w' ⟨v',af,rfl,q1,q2,q3⟩;obtain⟨u,hu⟩:=hv ρ w ah.toList hg ha x;refine⟨v',ρ,rfl,hu.back q3.ext q1,⟨x.iA,λi o ho=> ?_,x.sep⟩,⟨Ext.refl _,q3.os,q3.output,q3.size,q3.frozen,q3.kept,λi o pl a b c=>.inl ⟨i,o,pl,a,b,c,rfl⟩,λ_ _ a _=>a,λ_ a b=>absurd a b,λ_ o a _=>⟨o,a⟩,yB _⟩⟩
 . obtain⟨pl,h2,h3⟩:=x.obj i o ho;obtain⟨pl',an,aJ⟩:=q2.obj i o (hs i o ho);rw[q3.ext _ _ h2]at an;cases an;exact⟨pl,h2,h3.back q3.ext aJ⟩
end Go.aD
end
noncomputable section
namespace Go.aD
variable {e:Env} {ro:Option Nat}
def rd(h:ab)(b o:Nat):Option Value:=
 match h.get b with
 |some (.row cs _ _)=>cs[o]?
 |_=>none
def jE(h:ab)(b o:Nat):Nat->Option (List Value)
 |0=>some []
 |n+1=>match rd h b o with
  |none=>none
  |some v=>(jE h b (o+1) n).map (v::·)
def Fw{h:ab}{b:Nat}{cs:List Value}{wr:Bool}{aj:Nat}(hg:h.get b=some (.row cs wr aj)):∀(n o:Nat) (l:List Value),jE h b o n=some l->(cs.drop o).take n=l/\l.length=n
 |0,o,l,hl=>by simp only[jE,qG]at hl;subst hl;simp
 |n+1,o,l,hl=>by
  simp only[jE,rd,hg]at hl;cases hc:cs[o]? with
  |none=>simp[hc]at hl
  |some v=>
   simp only[hc,af9]at hl;obtain⟨r,h1,rfl⟩:=hl;obtain⟨h2,h3⟩:=Fw hg n (o+1) r h1;obtain⟨ad,hv⟩:=FQ.1 hc;rw[afI ad,List.take_succ_cons,h2,hv];exact⟨rfl,by simp[h3]⟩
def Fx{h:ab}{b o n:Nat}{l:List Value}{sp:Option Nat}(hl:jE h b o (n+1)=some l):gx h ⟨b,o,sp⟩ (n+1)=some l:=by
 unfold gx;simp only;cases hg:h.get b with
 |none=>simp[jE,rd,hg]at hl
 |some ob=>
  cases ob with
  |row cs wr aj=>
   obtain⟨h1,h2⟩:=Fw hg _ _ _ hl;simp only[h1,h2,Nat.beq_refl,cond_true]
  |_=>simp[jE,rd,hg]at hl
def cY{h:ab}{b o:Nat}{cs:List Value}{wr:Bool}{aj:Nat}(hg:h.get b=some (.row cs wr aj)):rd h b o=cs[o]? :=by unfold rd;rw[hg]
def mS(h:ab)(b o:Nat)(vs:List Value):Option ab:=
 match h.get b with
 |some (.row cs true aj)=>if o+vs.length<=cs.length/\vs.all dF=true then some (h.set b (some (.row (dM cs o vs) true aj)))else none
 |_=>none
def Al{h:ab}{b o:Nat}{v:Value}{vs:List Value}{sp:Option Nat}:kz h ⟨b,o,sp⟩ (v::vs)=mS h b o (v::vs):=by
 unfold kz mS;simp only;cases hg:h.get b with
 |none=>rfl
 |some ob=>
  cases ob with
  |row cs wr aj=>
   cases wr with
   |false=>rfl
   |true=>
    simp only;by_cases hc:o+(v::vs).length<=cs.length/\(v::vs).all dF=true
    . rw[if_pos hc,afF hc.1,hc.2];rfl
    . rw[if_neg hc];cases hb:(Nat.ble (o+(v::vs).length) cs.length&&(v::vs).all dF)with
      |false=>rfl
      |true=>
       rw[afD]at hb;exact absurd ⟨afE hb.1,hb.2⟩ hc
  |_=>rfl
def Am{h:ab}{b o:Nat}{vs:List Value}{cs:List Value}{aj:Nat}(hg:h.get b=some (.row cs true aj))(hl:o+vs.length<=cs.length)(hv:vs.all dF=true):mS h b o vs=some (h.set b (some (.row (dM cs o vs) true aj))):=by
 unfold mS;rw[hg];simp only;rw[if_pos ⟨hl,hv⟩]
def Env.ld(e:Env)(t:TypeId):Option (Option Nat):=
 match e.under t with
 |none=>none
 |some d=>bif jZ d then(match e.size t with|none=>none|some n=>some (some n))else some none
def Env.off(e:Env)(s f:Nat):Option Nat:=
 match e.under s with
 |some (.struct fields)=>match kA e fields f with
  |some (off,size)=>bif Vs 0 size then some off else none
  |none=>none
 |_=>none
def Env.elem(e:Env)(t:TypeId):Option Nat:=
 match e.under t with
 |some (.slice el)=>e.size el
 |_=>none
def Env.arr(e:Env)(t:TypeId):Option (Nat×Nat):=
 match e.under t with
 |some (.array n el)=>match e.size el with|none=>none|some s=>some (n,s)
 |_=>none
def Env.part(e:Env)(s f:Nat):Option (Nat×Option Nat):=
 match e.under s with
 |some (.struct fields)=>match fields[f]? with
  |none=>none
  |some fd=>match e.ld fd.type with|none=>none|some l=>some (fd.offset,l)
 |_=>none
def Ao{h:ab}{t:TypeId}{b o:Nat}(hl:e.ld t=some none):iN e h t ⟨b,o,none⟩=rd h b o:=by
 unfold Env.ld at hl;unfold iN;cases hu:e.under t with
 |none=>simp[hu]at hl
 |some d=>
  simp only[hu]at hl⊢;cases hd:jZ d with
  |true=>
   simp only[hd,cond_true]at hl
   split at hl<;>cases hl
  |false=>
   simp only[cond_false];cases hr:rd h b o with
   |some v=>
    have:jE h b o (0+1)=some [v]:=by simp[jE,hr]
    rw[show(1:Nat)=0+1 from rfl,Fx this]
   |none=>
    unfold rd at hr;unfold gx;simp only;cases hg:h.get b with
    |none=>rfl
    |some ob=>
     cases ob with
     |row cs wr aj=>
      simp only[hg]at hr⊢;have:cs.drop o=[]:=by
       rw[List.drop_eq_nil_iff];exact List.getElem?_eq_none_iff.1 hr
      simp[this];rfl
     |_=>rfl
def NI{h:ab}{t:TypeId}{b o n:Nat}{l:List Value}(hl:e.ld t=some (some (n+1)))(hr:jE h b o (n+1)=some l):iN e h t ⟨b,o,none⟩=some (.agg l.toArray):=by
 unfold Env.ld at hl;unfold iN;cases hu:e.under t with
 |none=>simp[hu]at hl
 |some d=>
  simp only[hu]at hl⊢;cases hd:jZ d with
  |true=>
   simp only[hd,cond_true]at hl⊢;cases hs:e.size t with
   |none=>simp[hs]at hl
   |some m=>
    simp only[hs,qG]at hl;subst hl;simp only[Fx hr]
  |false=>simp[hd]at hl
def gJ(f:Value->Value->Option Value):Option Value->Option Value->Option Value
 |some a,some b=>f a b
 |_,_=>none
theorem tw(f:Value->Value->Option Value)(a b:Value):gJ f (some a) (some b)=f a b:=rfl
def mT(e:Env)(h:ab)(ty:TypeId)(v:Value):Option Value:=match iP v with|none=>none|some a=>iN e h ty a
def rN(e:Env)(s f:Nat)(v:Value):Option Value:=match iP v with|none=>none|some a=>(e.off s f).map λo=>.pointer (some (a.add o))
def tx(e:Env)(ty f:Nat)(v:Value):Option Value:=match v,e.under ty with
 |.agg cs,some (.struct fields)=>match fields[f]? with
  |none=>none
  |some fd=>nE e fd.type cs.toList fd.offset
 |_,_=>none
def nR(e:Env)(op:UnOp)(a:Value):Option Value:=bif plain a then eV e.P (Op.unary op a)else none
def oW(e:Env)(h:ab)(s d:TypeId)(a:Value):Option Value:=bif plain a then eV e.P (convert s d a)else oH e h s d a
def oX(e:Env)(ty:TypeId)(x ix:Value):Option Value:=match x,intOf ix,e.under ty with
 |.pointer (some a),some i,some (.array len elem)=>match e.size elem with
  |none=>none
  |some s=>bif decide (0<=i)&&decide (i<(len:Int))then some (.pointer (some (a.add (i.toNat*s))))else none
 |.slice (some a) len _,some i,some (.slice elem)=>match e.size elem with
  |none=>none
  |some s=>bif decide (0<=i)&&decide (i<(len:Int))then some (.pointer (some (a.add (i.toNat*s))))else none
 |_,_,_=>none
def oY(e:Env)(ty:TypeId)(x ix:Value):Option Value:=match x,ix,e.under ty with
 |.agg cs,.int _ i,some (.array len elem)=>match e.size elem with
  |none=>none
  |some s=>bif decide (0<=i)&&decide (i<(len:Int))then nE e elem cs.toList (i.toNat*s)else none
 |.string s,.int k i,some .string=>eV e.P (Instr.index ty (.string s) (.int k i))
 |_,_,_=>none
def rO(x:Value):Option Value:=match x with
 |.pointer (some a)=>some (.pointer (some a))
 |.func (.func f) a b=>some (.func (.func f) a b)
 |_=>none
def rP(i:Nat)(x:Value):Option Value:=match x with
 |.tuple vs=>vs[i]?
 |_=>none
def rQ(c:Option Value)(a b:Option Value):Option Value:=match c with
 |some (.bool true)=>a
 |some (.bool false)=>b
 |_=>none
def vn(e:Env)(ty:TypeId)(v:Value):Option Value:=match e.under ty with
 |some (.interface _)=>none
 |some _=>some (.iface ty v)
 |_=>none
def nS(e:Env)(h:ab)(ty:TypeId)(ok:Bool)(m k:Value):Option Value:=pZ e h ty m k ok
def iT(e:Env)(t:Tr Value):Option Operand->Option (Option Value)
 |none=>some none
 |some o=>(aF e t o).map some
def tz(e:Env)(h:ab)(ty:TypeId):Option Value->Option (Option Value)->Option (Option Value)->Option (Option Value)->Option Value
 |some x,some lo,some hi,some mx=>jB e h ty x lo hi mx
 |_,_,_,_=>none
def mU(e:Env)(ty:TypeId):Option (List (Nat×Value))->Option Value
 |some ps=>pY e ty ps
 |none=>none
def vo(f:FuncId):Option (List Value)->Option (List Value)->Option Value
 |some a,some b=>some (.func (.func f) a.toArray b.toArray)
 |_,_=>none
def vp(e:Env)(h:ab)(aa:Array TypeId)(x:Value):Option Value:=match aa[0]? with|none=>none|some ty=>fV e h ty x
def Ap(e:Env)(h:ab)(aa:Array TypeId)(x:Value):Option Value:=match aa[0]? with|none=>none|some ty=>rh e h ty x
def qi(e:Env)(args:List Value):Option Value:=bif args.all plain then eV e.P (Builtin.min_ #[] 0 args.toArray)else none
def rR(e:Env)(args:List Value):Option Value:=bif args.all plain then eV e.P (Builtin.max_ #[] 0 args.toArray)else none
def bI(e:Env)(h:ab)(t:Tr Value):Op->Option Value
 |.move x|.assign x=>aF e t x
 |.pick c a b=>rQ (aF e t c) (aF e t a) (aF e t b)
 |.build ty parts=>mU e ty (fG e t parts.toList)
 |.load ty a=>(aF e t a).bind (mT e h ty)
 |.nilCheck x=>(aF e t x).bind rO
 |.binOp op ty x y _=>gJ (cO e op ty x y) (aF e t x) (aF e t y)
 |.unOp op _ x=>(aF e t x).bind (nR e op)
 |.convert s d x=>(aF e t x).bind (oW e h s d)
 |.makeInterface ty x=>(aF e t x).bind (vn e ty)
 |.makeFunc (.func f) first cap=>vo f (db e t first.toList) (db e t cap.toList)
 |.slice ty x lo hi mx=>tz e h ty (aF e t x) (iT e t lo) (iT e t hi) (iT e t mx)
 |.fieldAddr s x f=>(aF e t x).bind (rN e s f)
 |.field ty x f=>(aF e t x).bind (tx e ty f)
 |.indexAddr ty x ix=>gJ (oX e ty) (aF e t x) (aF e t ix)
 |.index ty x ix=>gJ (oY e ty) (aF e t x) (aF e t ix)
 |.lookup ty m k ok=>gJ (nS e h ty ok) (aF e t m) (aF e t k)
 |.extract x i=>(aF e t x).bind (rP i)
 |.call c=>match c.callee with
  |.builtin .len=>match db e t c.args.toList with|some [x]=>vp e h c.argTypes x|_=>none
  |.builtin .cap=>match db e t c.args.toList with|some [x]=>Ap e h c.argTypes x|_=>none
  |.builtin .min=>(db e t c.args.toList).bind (qi e)
  |.builtin .max=>(db e t c.args.toList).bind (rR e)
  |_=>none
 |_=>none
def xB{h:ab}{t:Tr Value}{op:Op}{v:Value}(hv:bI e h t op=some v):aS e h t op=some (.val v h):=by
 cases op with
 |move x=>simp only[bI]at hv;simp[aS,hv]
 |assign x=>simp only[bI]at hv;simp[aS,hv]
 |pick c a b=>
  simp only[bI,rQ]at hv;simp only[aS]
  split at hv
  . rename_i hc;simp[hc,hv]
  . rename_i hc;simp[hc,hv]
  . cases hv
 |build ty parts=>
  simp only[bI,mU]at hv;simp only[aS]
  split at hv
  . rename_i ps hp;simp[hp,hv]
  . cases hv
 |load ty a=>
  simp only[bI,KE,mT]at hv;obtain⟨x,h1,h2⟩:=hv;simp only[aS,h1,afY]
  split at h2
  . cases h2
  . rename_i a ha;simp[ha,h2]
 |nilCheck x=>
  simp only[bI,KE,rO]at hv;obtain⟨y,h1,h2⟩:=hv;simp only[aS,h1]
  split at h2
  . cases h2;rfl
  . cases h2;rfl
  . cases h2
 |binOp op ty x y z=>
  simp only[bI]at hv;simp only[aS];cases hx:aF e t x with
  |none=>simp[hx,gJ]at hv
  |some a=>
   cases hy:aF e t y with
   |none=>simp[hx,hy,gJ]at hv
   |some b=>simp only[hx,hy,tw]at hv;simp[hv]
 |unOp op z x=>
  simp only[bI,KE,nR]at hv;obtain⟨y,h1,h2⟩:=hv;simp only[aS,h1];obtain⟨hb,h2⟩:=cg h2;simp[hb,h2]
 |convert s d x=>
  simp only[bI,KE,oW]at hv;obtain⟨y,h1,h2⟩:=hv;simp only[aS,h1];cases hb:plain y with
  |true=>rw[hb]at h2;simp only[cond_true]at h2⊢;simp[h2]
  |false=>rw[hb]at h2;simp only[cond_false]at h2⊢;simp[h2]
 |makeInterface ty x=>
  simp only[bI,KE,vn]at hv;obtain⟨y,h1,h2⟩:=hv;simp only[aS,h1];cases hu:e.under ty with
  |none=>simp[hu]at h2
  |some d=>
   simp only[hu]at h2;cases d<;>simp_all
 |makeFunc fn first cap=>
  cases fn with
  |func f=>
   simp only[bI,vo]at hv;simp only[aS]
   split at hv
   . rename_i h1 h2;cases hv;simp[h1,h2]
   . cases hv
  |_=>simp[bI]at hv
 |slice ty x lo hi mx=>
  have e0:aS e h t (.slice ty x lo hi mx)=match aF e t x,iT e t lo,iT e t hi,iT e t mx with
   |some x,some lo,some hi,some mx=>(jB e h ty x lo hi mx).map λv=>.val v h
   |_,_,_,_=>none:=by cases lo<;>cases hi<;>cases mx<;>rfl
  rw[e0];simp only[bI,tz]at hv
  split at hv
  . rename_i h1 h2 h3 h4;simp only[h1,h2,h3,h4,hv];rfl
  . cases hv
 |fieldAddr s x f=>
  simp only[bI,KE,rN]at hv;obtain⟨y,h1,h2⟩:=hv;simp only[aS,h1,afY]
  split at h2
  . cases h2
  . rename_i a ha;simp only[af9,Env.off]at h2;obtain⟨o,h3,rfl⟩:=h2;simp only[ha]
    split at h3
    . rename_i fields hu;simp only[hu]
      split at h3
      . rename_i off size hp;obtain⟨hb,h3⟩:=cg h3;cases h3;simp[hp,hb]
      . cases h3
    . cases h3
 |field ty x f=>
  simp only[bI,KE,tx]at hv;obtain⟨y,h1,h2⟩:=hv;simp only[aS,h1]
  split at h2
  . rename_i cs fields hu;simp only[hu]
    split at h2
    . cases h2
    . rename_i fd hf;simp[hf,h2]
  . cases h2
 |indexAddr ty x ix=>
  simp only[bI]at hv;simp only[aS];cases hx:aF e t x with
  |none=>simp[hx,gJ]at hv
  |some a=>
   cases hy:aF e t ix with
   |none=>simp[hx,hy,gJ]at hv
   |some b=>
    simp only[hx,hy,tw,oX]at hv;simp only[afY]
    split at hv
    . rename_i a i len elem h1 h2;simp only[h1,h2]
      split at hv
      . cases hv
      . rename_i s hs;obtain⟨hb,hv⟩:=cg hv;cases hv;simp only[hs];rw[hb];rfl
    . rename_i a len cp i elem h1 h2;simp only[h1,h2]
      split at hv
      . cases hv
      . rename_i s hs;obtain⟨hb,hv⟩:=cg hv;cases hv;simp only[hs];rw[hb];rfl
    . cases hv
 |index ty x ix=>
  simp only[bI]at hv;simp only[aS];cases hx:aF e t x with
  |none=>simp[hx,gJ]at hv
  |some a=>
   cases hy:aF e t ix with
   |none=>simp[hx,hy,gJ]at hv
   |some b=>
    simp only[hx,hy,tw,oY]at hv
    split at hv
    . rename_i cs k i len elem h2;simp only[h2]
      split at hv
      . cases hv
      . rename_i s hs;obtain⟨hb,hv⟩:=cg hv;simp only[hs];rw[hb];simp[hv]
    . rename_i s k i h2;simp only[h2,hv];rfl
    . cases hv
 |lookup ty m k ok=>
  simp only[bI]at hv;simp only[aS];cases hx:aF e t m with
  |none=>simp[hx,gJ]at hv
  |some a=>
   cases hy:aF e t k with
   |none=>simp[hx,hy,gJ]at hv
   |some b=>simp only[hx,hy,tw,nS]at hv;simp[hv]
 |extract x i=>
  simp only[bI,KE,rP]at hv;obtain⟨y,h1,h2⟩:=hv;simp only[aS,h1]
  split at h2
  . simp[h2]
  . cases h2
 |call c=>
  simp only[bI]at hv;simp only[aS,lG]
  split at hv
  . rename_i hc
    split at hv
    . rename_i x hx;unfold vp at hv;simp only[hx,hc]
      split at hv
      . cases hv
      . rename_i ty ht;simp[ht,hv]
    . cases hv
  . rename_i hc
    split at hv
    . rename_i x hx;unfold Ap at hv;simp only[hx,hc]
      split at hv
      . cases hv
      . rename_i ty ht;simp[ht,hv]
    . cases hv
  . rename_i hc;simp only[KE,qi]at hv;obtain⟨l,h1,h2⟩:=hv;obtain⟨hb,h2⟩:=cg h2;simp only[h1,hc,hb,h2,cond_true];rfl
  . rename_i hc;simp only[KE,rR]at hv;obtain⟨l,h1,h2⟩:=hv;obtain⟨hb,h2⟩:=cg h2;simp only[h1,hc,hb,h2,cond_true];rfl
  . cases hv
 |_=>simp[bI]at hv
end Go.aD
end

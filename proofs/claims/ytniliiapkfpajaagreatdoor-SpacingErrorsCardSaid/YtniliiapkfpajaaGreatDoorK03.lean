/- Parts of a proof. -/
import Derived.OrdersIn
import Derived.Test.YtniliiapkfpajaaGreatDoorK02
open Option.some renaming injEq->oY
open Nat renaming lor->yx,le_refl->Ey,le_trans->Rm,blt->WZ,lt_trans->Xt,lt_of_lt_of_le->aff,zero_le->afk,lt_succ_of_lt->afl,testBit_or->afm,le_of_ble_eq_true->afp,ble_eq_true_of_le->afq,not_lt_zero->afr,lt_trichotomy->afs,lt_irrefl->afu,le_of_eq->afx,lt_or_ge->afD,eq_of_beq_eq_true->afL,strongRecOn->afM,le_of_succ_le->afO,lt_succ_self->afP,le_add_right->afT
open List renaming length_cons->Fj,getElem?_eq_some_iff->HT,mem_cons_self->Rb,mem_cons_of_mem->UR,getElem?_eq_getElem->Yt,getD_eq_getElem?_getD->YN,all_eq_true->afc,filter_cons->afd,mem_cons->afe,reverse_cons->afi,mem_filter->afj,getElem?_cons_zero->afn,drop_eq_getElem_cons->aft,mem_append->afv,drop_eq_nil_of_le->afw,range->afz,getElem?_append_right->afA,mem_append_right->afG,mem_of_getElem?->afH,getElem?_append_left->afK,getElem?_zip_eq_some->afN,reverse_append->afQ,append_assoc->afR,getElem?_drop->afS
open Option renaming bind_eq_some_iff->Q0,bind_some->afJ,map_eq_some_iff->afU
open Bool renaming or_eq_true->adr,and_eq_true->afo,not_true->afB,not_eq_true'->afE,or_eq_false_iff->afF
open Array renaming getElem?_eq_getElem->afg,getElem?_eq_some_iff->afh,getD_eq_getD_getElem?->afy,replicate->afI
open Prod.mk renaming injEq->afC
set_option linter.all false
set_option maxRecDepth 100000
noncomputable section
namespace Go.aD
variable {e:Env}
def Same(t t':Tr Value)(xs:List Operand):Prop:=∀d,Operand.tmp d∈xs->t.get d=t'.get d
def Same.sub{t t':Tr Value}{xs ys:List Operand}(h:Same t t' ys)(hs:∀x∈xs,x∈ys):Same t t' xs:=λd hd=>h d (hs _ hd)
def tw{t t':Tr Value}{o:Operand}{xs:List Operand}(h:Same t t' xs)(ho:o∈xs):aE e t o=aE e t' o:=by
 cases o with
 |tmp i=>exact h i ho
 |_=>rfl
def vj{t t':Tr Value}:∀{xs:List Operand},Same t t' xs->db e t xs=db e t' xs
 |[],_=>rfl
 |o::r,h=>by
  simp only[db,tw (e:=e) h (Rb ..),vj (xs:=r) (h.sub λx hx=>UR _ hx)]
def zX{t t':Tr Value}:∀{xs:List (Nat×Operand)},Same t t' (xs.map (·.2))->fx e t xs=fx e t' xs
 |[],_=>rfl
 |(i,o)::r,h=>by
  have h1:Same t t' (o::r.map (·.2)):=h;simp only[fx,tw (e:=e) h1 (Rb ..),zX (xs:=r) (h1.sub λx hx=>UR _ hx)]
def Ez{t t':Tr Value}{op:Op}(h:Same t t' op.operands.toList):cU e t op=cU e t' op:=by
 cases op with
 |box ty x=>simp only[cU,tw (e:=e) h (o:=x) (by simp[Op.operands])]
 |buildSlice st len parts=>
  have:Same t t' (parts.toList.map (·.2)):=h.sub λx hx=>by simpa[Op.operands]using hx
  simp only[cU,zX (e:=e) this]
 |makeSlice st l c=>simp only[cU,tw (e:=e) h (o:=l) (by simp[Op.operands]),tw (e:=e) h (o:=c) (by simp[Op.operands])]
 |makeMap t r=>cases r<;>rfl
 |_=>rfl
def zY{h:ab}{t t':Tr Value}{op:Op}(hs:Same t t' op.operands.toList):aS e h t op=aS e h t' op:=by
 have O:∀o,o∈op.operands.toList->aE e t o=aE e t' o:=λo ho=>tw hs ho;have A:=Ez (e:=e) hs;cases op with
 |move x=>simp only[aS,O x (by simp[Op.operands])]
 |assign x=>simp only[aS,O x (by simp[Op.operands])]
 |pick c a b=>simp only[aS,O c (by simp[Op.operands]),O a (by simp[Op.operands]),O b (by simp[Op.operands])]
 |build ty parts=>
  have:Same t t' (parts.toList.map (·.2)):=hs.sub λx hx=>by simpa[Op.operands]using hx
  simp only[aS,zX (e:=e) this]
 |load ty a=>simp only[aS,O a (by simp[Op.operands])]
 |store ty a x=>simp only[aS,O a (by simp[Op.operands]),O x (by simp[Op.operands])]
 |nilCheck x=>simp only[aS,O x (by simp[Op.operands])]
 |binOp op ty x y cp=>simp only[aS,O x (by simp[Op.operands]),O y (by simp[Op.operands])]
 |unOp op ty x=>simp only[aS,O x (by simp[Op.operands])]
 |convert s d x=>simp only[aS,O x (by simp[Op.operands])]
 |makeInterface ty x=>simp only[aS,O x (by simp[Op.operands])]
 |makeFunc fn first cap=>
  have h1:Same t t' first.toList:=hs.sub λx hx=>by simp[Op.operands];exact .inl (by simpa using hx)
  have h2:Same t t' cap.toList:=hs.sub λx hx=>by simp[Op.operands];exact .inr (by simpa using hx)
  cases fn<;>simp only[aS,vj (e:=e) h1,vj (e:=e) h2]
 |slice ty x lo hi mx=>
  have hx:=O x (by simp[Op.operands]);have hl:∀o,lo=some o->aE e t o=aE e t' o:=λo ho=>O o (by simp[Op.operands,ho]);have hh:∀o,hi=some o->aE e t o=aE e t' o:=λo ho=>O o (by simp[Op.operands,ho]);have hm:∀o,mx=some o->aE e t o=aE e t' o:=λo ho=>O o (by simp[Op.operands,ho]);simp only[aS,hx];cases lo<;>cases hi<;>cases mx<;>simp_all
 |fieldAddr s x f=>simp only[aS,O x (by simp[Op.operands])]
 |field ty x f=>simp only[aS,O x (by simp[Op.operands])]
 |indexAddr ty x ix=>simp only[aS,O x (by simp[Op.operands]),O ix (by simp[Op.operands])]
 |index ty x ix=>simp only[aS,O x (by simp[Op.operands]),O ix (by simp[Op.operands])]
 |lookup ty m k ok=>simp only[aS,O m (by simp[Op.operands]),O k (by simp[Op.operands])]
 |mapUpdate ty m k v=>simp only[aS,O m (by simp[Op.operands]),O k (by simp[Op.operands]),O v (by simp[Op.operands])]
 |insert ty m k v=>simp only[aS,O m (by simp[Op.operands]),O k (by simp[Op.operands]),O v (by simp[Op.operands])]
 |range ty x=>simp only[aS,O x (by simp[Op.operands])]
 |next it s=>simp only[aS,O it (by simp[Op.operands])]
 |entry it=>simp only[aS,O it (by simp[Op.operands])]
 |extract x i=>simp only[aS,O x (by simp[Op.operands])]
 |call c=>
  have h1:Same t t' c.args.toList:=hs.sub λx hx=>by simp[Op.operands,Call.operands];right;simpa using hx
  simp only[aS,lr,vj (e:=e) h1];cases hc:c.callee with
  |value f=>
   have h2:aE e t f=aE e t' f:=O f (by simp[Op.operands,Call.operands,hc]);simp only[h2]
  |_=>rfl
 |defer c=>
  have h1:Same t t' c.args.toList:=hs.sub λx hx=>by simp[Op.operands,Call.operands];right;simpa using hx
  simp only[aS,vj (e:=e) h1];cases hc:c.callee with
  |value f=>
   have h2:aE e t f=aE e t' f:=O f (by simp[Op.operands,Call.operands,hc]);cases db e t' c.args.toList with
   |none=>rfl
   |some args=>simp only[h2]
  |_=>rfl
 |alloc _=>simp only[aS,A]
 |box _ _=>simp only[aS,A]
 |buildSlice _ _ _=>simp only[aS,A]
 |makeMap _ _=>simp only[aS,A]
 |makeSlice _ _ _=>simp only[aS,A]
 |_=>rfl
def nE{h h':ab}{x:Option Value}{v:Value}(hr:(x.map λv=>AR.val v h)=some (.val v h')):h'=h:=by
 obtain⟨_,_,h2⟩:=of_map hr;cases h2;rfl
def MG{h h':ab}{t:Tr Value}{op:Op}{v:Value}(hc:cls op=.read)(hr:aS e h t op=some (.val v h')):h'=h:=by
 cases op with
 |load ty a=>
  simp only[aS]at hr
  split at hr
  . cases hr
  . exact nE hr
 |lookup ty m k ok=>
  simp only[aS]at hr
  split at hr
  . exact nE hr
  . cases hr
 |entry it=>
  simp only[aS]at hr
  split at hr
  . cases hr
  . exact nE hr
 |convert s d x=>
  simp only[aS]at hr
  split at hr
  . rename_i a _;cases hp:plain a with
    |true=>rw[hp]at hr;exact nE hr
    |false=>rw[hp]at hr;exact nE hr
  . cases hr
 |slice ty x lo hi mx=>
  simp only[aS]at hr
  split at hr
  . exact nE hr
  . cases hr
 |call c=>
  simp only[cls]at hc;simp only[aS,lr]at hr
  split at hr
  . cases hr
  . rename_i args _;cases aa:c.callee with
    |builtin b=>
     simp only[aa]at hc hr
     split at hr
     . cases hc
     . cases hc
     . cases hc
     . split at hr
       . cases hr
       . exact nE hr
     . split at hr
       . cases hr
       . exact nE hr
     . cases hp:args.all plain with
       |true=>rw[hp]at hr;exact nE hr
       |false=>rw[hp]at hr;cases hr
     . cases hp:args.all plain with
       |true=>rw[hp]at hr;exact nE hr
       |false=>rw[hp]at hr;cases hr
     . cases hr
    |value f=>simp[aa]at hc
    |invoke _ _=>simp[aa]at hc
 |_=>simp[cls]at hc
def MH{h h':ab}{t:Tr Value}{op:Op}{v:Value}(hc:cls op=.pure)(hr:aS e h t op=some (.val v h'))(g:ab):aS e g t op=some (.val v g):=by
 have M:∀{x:Option Value},(x.map λv=>AR.val v h)=some (.val v h')->(x.map λv=>AR.val v g)=some (.val v g):=λ{x} hx=>by
  obtain⟨u,h1,h2⟩:=of_map hx;cases h2;rw[h1];rfl
 cases op with
 |move x=>simp only[aS]at hr⊢;exact M hr
 |assign x=>simp only[aS]at hr⊢;exact M hr
 |pick c a b=>
  simp only[aS]at hr⊢
  split at hr
  . exact M hr
  . exact M hr
  . cases hr
 |build ty parts=>
  simp only[aS]at hr⊢
  split at hr
  . cases hr
  . exact M hr
 |nilCheck x=>
  simp only[aS]at hr⊢
  split at hr
  . cases hr;rfl
  . cases hr;rfl
  . cases hr
 |binOp op ty x y cp=>
  simp only[aS]at hr⊢
  split at hr
  . exact M hr
  . cases hr
 |unOp op ty x=>
  simp only[aS]at hr⊢
  split at hr
  . rename_i a _;cases hp:plain a with
    |true=>rw[hp]at hr;exact M hr
    |false=>rw[hp]at hr;cases hr
  . cases hr
 |convert s d x=>cases hc
 |makeInterface ty x=>
  simp only[aS]at hr⊢
  split at hr
  . cases hr
  . cases hr;rfl
  . cases hr
 |makeFunc fn first cap=>
  cases fn with
  |func f=>
   simp only[aS]at hr⊢
   split at hr
   . cases hr;rfl
   . cases hr
  |_=>simp[aS]at hr
 |fieldAddr s x f=>
  simp only[aS]at hr⊢
  split at hr
  . split at hr
    . rename_i hb _ size _;cases hp:WZ 0 size with
      |true=>rw[hp]at hr;cases hr;rfl
      |false=>rw[hp]at hr;cases hr
    . cases hr
  . cases hr
 |field ty x f=>
  simp only[aS]at hr⊢
  split at hr
  . split at hr
    . cases hr
    . exact M hr
  . cases hr
 |indexAddr ty x ix=>
  simp only[aS]at hr⊢
  split at hr
  . rename_i i len elem _ _ _
    split at hr
    . cases hr
    . cases hp:(decide (0<=i)&&decide (i<(len:Int)))with
      |true=>rw[hp]at hr;cases hr;rfl
      |false=>rw[hp]at hr;cases hr
  . rename_i len _ i elem _ _ _
    split at hr
    . cases hr
    . cases hp:(decide (0<=i)&&decide (i<(len:Int)))with
      |true=>rw[hp]at hr;cases hr;rfl
      |false=>rw[hp]at hr;cases hr
  . cases hr
 |index ty x ix=>
  simp only[aS]at hr⊢
  split at hr
  . rename_i i len elem _ _ _
    split at hr
    . cases hr
    . cases hp:(decide (0<=i)&&decide (i<(len:Int)))with
      |true=>rw[hp]at hr;exact M hr
      |false=>rw[hp]at hr;cases hr
  . exact M hr
  . cases hr
 |extract x i=>
  simp only[aS]at hr⊢
  split at hr
  . exact M hr
  . cases hr
 |call c=>
  simp only[cls]at hc
  split at hc<;>cases hc
 |_=>simp[cls]at hc
end Go.aD
end
noncomputable section
namespace Go.aD
def EA:∀(ops:List Oper) (acc:List Nat),(lZ ops acc).length=acc.length+ops.length
 |[],acc=>by simp[lZ]
 |o::r,acc=>by
  simp only[lZ,EA r,Fj];omega
def zZ:∀(ops:List Oper) (acc:List Nat) (i:Nat),i<acc.length->(lZ ops acc).getD i 0=acc.reverse.getD i 0
 |[],acc,i,h=>by simp[lZ]
 |o::r,acc,i,h=>by
  simp only[lZ];rw[zZ r _ i (by simp;omega)];simp only[afi,YN];rw[afK (by simpa using h)]
def EB(look:Nat->Nat)(j:Nat):∀(l:List Edge) (s:Nat),(l.foldl (λs x=>bif Region.binds .any x then yx s (yx (2^x.on) (look x.on))else s) s).testBit j=true->
 s.testBit j=true\/∃x∈l,Region.binds .any x=true/\(j=x.on\/(look x.on).testBit j=true)
 |[],s,h=>.inl h
 |x::l,s,h=>by
  rcases EB look j l _ h with h1|⟨y,h1,h2⟩
  . cases hb:Region.binds .any x with
    |true=>
     simp only[hb,cond_true]at h1;have ab:(s|||(2^x.on|||look x.on)).testBit j=true:=h1;rw[afm,afm,adr,adr]at ab;rcases ab with h2|h2|h2
     . exact .inl h2
     . rw[Nat.testBit_two_pow]at h2;exact .inr ⟨x,Rb ..,hb,.inl (by simpa using (of_decide_eq_true h2).symm)⟩
     . exact .inr ⟨x,Rb ..,hb,.inr h2⟩
    |false=>simp only[hb,cond_false]at h1;exact .inl h1
  . exact .inr ⟨y,UR _ h1,h2⟩
def EC:∀(ops:List Oper) (acc:List Nat) (k:Nat) (o:Oper) (j:Nat),ops[k]? =some o->((lZ ops acc).getD (acc.length+k) 0).testBit j=true->
 ∃x∈o.after.toList,Region.binds .any x=true/\(j=x.on\/((lZ ops acc).getD x.on 0).testBit j=true)
 |[],_,_,_,_,h,_=>by simp at h
 |o::r,acc,0,o',j,h,hj=>by
  simp at h;subst h;simp only[lZ,Nat.add_zero]at hj⊢;rw[zZ r _ _ aw]at hj;simp only[afi,YN]at hj;rw[afA aw]at hj;simp only[List.length_reverse,Nat.sub_self,afn,Option.getD_some]at hj;rcases EB (λi=>acc.reverse[i]?.getD 0) j _ _ hj with h1|⟨x,h1,h2,h3⟩
  . simp at h1
  . refine⟨x,h1,h2,h3.imp id λh4=> ?_⟩;by_cases hl:x.on<acc.length
    . rw[zZ r _ _ (by simp;omega)];simp only[afi,YN];rw[afK (by simpa using hl)];simpa[YN]using h4
    . rw[List.getElem?_eq_none (by simpa using hl)]at h4;simp at h4
 |o::r,acc,k+1,o',j,h,hj=>by
  simp at h;simp only[lZ]at hj⊢;refine EC r _ k o' j h ?_;simp only[Fj];rw[show acc.length+1+k=acc.length+(k+1) by omega];exact hj
def ED{ops:List Oper}{i j:Nat}{o:Oper}(ho:ops[i]? =some o)(h:((bz ops).getD i 0).testBit j=true):
 ∃x∈o.after.toList,Region.binds .any x=true/\(j=x.on\/((bz ops).getD x.on 0).testBit j=true):=by
 have:=EC ops [] i o j ho (by simpa[bz]using h);simpa[bz]using this
def xk(ops:List Oper):(bz ops).length=ops.length:=by simp[bz,EA]
def oF{α:Type}{l:List α}{i:Nat}{a:α}(h:l[i]? =some a):(a,i)∈l.zipIdx:=by
 rw[List.mem_zipIdx_iff_getElem?];exact h
structure tx(ops:List Oper)(ms:List Nat):Prop where
 back:∀(i:Nat) (o:Oper),ops[i]? =some o->∀x∈o.after.toList,Region.binds .any x=true->x.on<i
 guard:∀(i:Nat) (o:Oper) (j:Nat) (b:Bool),ops[i]? =some o->o.guard=some (j,b)->(ms.getD i 0).testBit j=true
 once:∀(i:Nat) (o:Oper) (j:Nat) (p:Oper) (d:Tmp),ops[i]? =some o->ops[j]? =some p->o.dst=some d->p.dst=some d->i=j
 use:∀(i:Nat) (o:Oper) (j:Nat) (p:Oper) (d:Tmp),ops[i]? =some o->ops[j]? =some p->o.dst=some d->Operand.tmp d∈p.op.operands.toList->i≠j/\(i<j->(ms.getD j 0).testBit i=true)/\(j<i->(ms.getD i 0).testBit j=true)
 dc:∀(i:Nat) (o:Oper) (j:Nat) (p:Oper),ops[i]? =some o->ops[j]? =some p->cls o.op=.effect->cls p.op=.effect->i<j->(ms.getD j 0).testBit i=true
def EE{o:Oper}{d:Tmp}(h:Operand.tmp d∈o.op.operands.toList):(tmpsOf o).contains d=true:=by
 simp only[tmpsOf,List.contains_eq_mem,decide_eq_true_eq,List.mem_filterMap];exact⟨_,h,rfl⟩
def MJ{ops:List Oper}{ms:List Nat}(h:pW ops ms=true):tx ops ms:=by
 simp only[pW,afo,afc]at h;obtain⟨⟨⟨⟨h1,h2⟩,h3⟩,h4⟩,h5⟩:=h;refine⟨λi o ho x hx hb=> ?_,λi o j b ho hg=> ?_,λi o j p d ho hp hd ad=> ?_,λi o j p d ho hp hd hu=> ?_,λi o j p ho hp hc ae af=> ?_⟩
 . have:=h1 (o,i) (oF ho) x hx;simp only[hb,afB,Bool.false_or]at this;exact afp this
 . have:=h2 (o,i) (oF ho);simp only[hg]at this;exact this
 . have:=h3 (o,i) (oF ho);simp only[hd,afc]at this;have:=this (p,j) (oF hp);simp only[ad,adr,afo]at this;rcases this with h|⟨h,_⟩
   . exact afL h
   . simp at h
 . have h6:i≠j:=λe=>by
    subst e;rw[ho]at hp;cases hp;have:=h4 (o,i) (oF ho);simp only[hd]at this;rw[EE hu]at this;cases this
   have:=h3 (o,i) (oF ho);simp only[hd,afc]at this;have:=this (p,j) (oF hp);simp only[adr,afo,EE hu,afB,Bool.false_eq_true,false_or]at this;rcases this with h|⟨_,h⟩
   . exact absurd (afL h) h6
   . refine⟨h6,λhl=> ?_,λhl=> ?_⟩
     . have hb:WZ i j=true:=afq hl;rw[hb]at h;exact h
     . have hb:WZ i j=false:=by
        cases hc:WZ i j with
        |false=>rfl
        |true=>have:i<j:=afp hc;omega
       rw[hb]at h;exact h
 . have m1:(o,i)∈ops.zipIdx.filter λ(o,i)=>cls o.op==.effect:=afj.2 ⟨oF ho,by simp[hc]⟩;have m2:(p,j)∈ops.zipIdx.filter λ(o,i)=>cls o.op==.effect:=afj.2 ⟨oF hp,by simp[ae]⟩;have:=h5 _ m1 _ m2;have hb:WZ i j=true:=afq af;simp only[hb,afB,Bool.false_or]at this;exact this
def xm{ops:List Oper}(f:tx ops (bz ops)):∀(i:Nat) (o:Oper) (j:Nat),ops[i]? =some o->((bz ops).getD i 0).testBit j=true->j<i:=by
 intro i
 induction i using afM with
 |_ i ih=>
  intro o j ho h;obtain⟨x,h1,h2,h3⟩:=ED ho h;have hx:=f.back i o ho x h1 h2;rcases h3 with rfl|h3
  . exact hx
  . have ah:x.on<ops.length:=Xt hx (HT.1 ho).1;exact Xt (ih x.on hx _ j (Yt ah) h3) hx
def Aa:∀(l:List (Oper×Nat)) (b p i m:Nat),(jJ l b)[p]? =some (i,m)->b<=i/\∃o,l[i-b]? =some (o,m)/\cls o.op=.effect
 |[],_,_,_,_,h=>by simp[jJ]at h
 |(o,m0)::r,b,p,i,m,h=>by
  simp only[jJ]at h;have next:∀q,(jJ r (b+1))[q]? =some (i,m)->b<=i/\∃o',((o,m0)::r)[i-b]? =some (o',m)/\cls o'.op=.effect:=λq hq=>by
   obtain⟨h1,o',h2,h3⟩:=Aa r (b+1) q i m hq;refine⟨aa,o', ?_,h3⟩;have:i-b=(i-(b+1))+1:=aa;rw[this];simpa using h2
  cases hc:cls o.op==.effect with
  |true=>
   rw[hc]at h;cases p with
   |zero=>
    simp only[cond_true,afn,oY,afC]at h;obtain⟨rfl,rfl⟩:=h;exact⟨Ey _,o,aw,by simpa using hc⟩
   |succ p=>exact next p (by simpa using h)
  |false=>rw[hc]at h;exact next p h
def EF:∀(l:List (Oper×Nat)) (b k:Nat) (o:Oper) (m:Nat),l[k]? =some (o,m)->cls o.op=.effect->∃p:Nat,(jJ l b)[p]? =some (b+k,m)
 |[],_,_,_,_,h,_=>by simp at h
 |(o,m0)::r,b,0,o',m,h,hc=>by
  simp at h;obtain⟨rfl,rfl⟩:=h;refine⟨0, ?_⟩;simp[jJ,hc]
 |(o,m0)::r,b,k+1,o',m,h,hc=>by
  simp at h;obtain⟨p,hp⟩:=EF r (b+1) k o' m h hc;have e:b+1+k=b+(k+1):=aa;rw[e]at hp;simp only[jJ];cases hc:cls o.op==.effect with
  |true=>exact⟨p+1,by simpa using hp⟩
  |false=>exact⟨p,by simpa using hp⟩
def xn:∀(l:List (Oper×Nat)) (b p q i m j k:Nat),(jJ l b)[p]? =some (i,m)->(jJ l b)[q]? =some (j,k)->p<q->i<j
 |[],_,_,_,_,_,_,_,h,_,_=>by simp[jJ]at h
 |(o,m0)::r,b,p,q,i,m,j,k,h,h',ai=>by
  simp only[jJ]at h h';cases hc:cls o.op==.effect with
  |true=>
   simp only[hc,cond_true]at h h';obtain⟨q,rfl⟩:∃q',q=q'+1:=⟨q-1,aa⟩;simp only[List.getElem?_cons_succ]at h';cases p with
   |zero=>
    simp only[afn,oY,afC]at h;have:=(Aa r (b+1) q j k h').1;omega
   |succ p=>exact xn r (b+1) p q i m j k (by simpa using h) h' aa
  |false=>
   simp only[hc,cond_false]at h h';exact xn r (b+1) p q i m j k h h' ai
def filter_le{α:Type}(f:α->Bool):∀(l:List α) (m:Nat),(∀q a,l[q]? =some a->f a=true->q<m)->(l.filter f).length<=m
 |[],m,_=>aw
 |a::l,m,h=>by
  cases m with
  |zero=>
   have:(a::l).filter f=[]:=by
    rw[List.filter_eq_nil_iff];intro x hx hf;obtain⟨q,hq⟩:=List.getElem?_of_mem hx;exact absurd (h q x hq hf) (afr _)
   rw[this];simp
  |succ m=>
   have ih:=filter_le f l m λq x hq hf=>by
    have:=h (q+1) x (by simpa using hq) hf;omega
   rw[afd]
   split
   . simp;omega
   . omega
def le_filter{α:Type}(f:α->Bool):∀(l:List α) (m:Nat),m<=l.length->(∀q a,q<m->l[q]? =some a->f a=true)->m<=(l.filter f).length
 |[],m,hm,_=>by simpa using hm
 |a::l,m,hm,h=>by
  cases m with
  |zero=>exact afk _
  |succ m=>
   have hf:=h 0 a aa rfl;rw[afd,if_pos hf];simp only[Fj];exact Nat.succ_le_succ (le_filter f l m (by simpa using hm) λq x hq hx=>h (q+1) x aa (by simpa using hx))
variable {e:Env}
def jg(t:Tr Value)(dst:Option Tmp)(v:Value):Tr Value:=
 match dst with
 |none=>t
 |some d=>t.set d (some v)
def vk{s s':aM}{dst:Option Tmp}{v:Value}(h:fy s dst v=some s'):s'={s with t:=jg s.t dst v}/\∀d,dst=some d->d<s.n:=by
 cases dst with
 |none=>simp only[qX,oY]at h;subst h;exact⟨rfl,λ_ h=>by cases h⟩
 |some d=>
  simp only[qX]at h;obtain⟨h1,h2⟩:=cg h;cases h2;exact⟨rfl,λd' h=>by cases h;exact afp h1⟩
def xo{s:aM}{dst:Option Tmp}(v:Value)(h:∀d,dst=some d->d<s.n):fy s dst v=some {s with t:=jg s.t dst v}:=by
 cases dst with
 |none=>rfl
 |some d=>
  have hb:WZ d s.n=true:=afq (h d rfl);simp only[qX,hb,cond_true];rfl
def MK{h:ab}{t:Tr Value}{op:Op}(hc:cls op=.effect){f:FuncId}{az cap:List Value}{h':ab}:aS e h t op≠some (.defer f az cap h'):=by
 intro hr;cases op with
 |store ty a x=>
  simp only[aS]at hr
  split at hr
  . obtain⟨_,_,h2⟩:=of_map hr;cases h2
  . cases hr
 |mapUpdate ty m k v=>
  simp only[aS]at hr
  split at hr
  . obtain⟨_,_,h2⟩:=of_map hr;cases h2
  . cases hr
 |insert ty m k v=>
  simp only[aS]at hr
  split at hr
  . obtain⟨_,_,h2⟩:=of_map hr;cases h2
  . cases hr
 |range ty x=>
  simp only[aS]at hr
  split at hr
  . cases hr
  . cases hr
  . split at hr<;>cases hr
  . cases hr
 |next it s=>
  simp only[aS]at hr
  split at hr
  . cases hr
  . obtain⟨_,_,h2⟩:=of_map hr;cases h2
 |call c=>
  simp only[aS,lr]at hr
  split at hr
  . cases hr
  . split at hr
    . split at hr
      . cases hr
      . split at hr<;>cases hr
    . cases hr
    . split at hr
      . obtain⟨_,_,h2⟩:=of_map hr;cases h2
      . obtain⟨_,_,h2⟩:=of_map hr;cases h2
      . obtain⟨_,_,h2⟩:=of_map hr;cases h2
      . split at hr
        . cases hr
        . obtain⟨_,_,h2⟩:=of_map hr;cases h2
      . split at hr
        . cases hr
        . obtain⟨_,_,h2⟩:=of_map hr;cases h2
      . rename_i args _ _ _ _ _;cases hp:args.all plain with
        |true=>rw[hp]at hr;obtain⟨_,_,h2⟩:=of_map hr;cases h2
        |false=>rw[hp]at hr;cases hr
      . rename_i args _ _ _ _ _;cases hp:args.all plain with
        |true=>rw[hp]at hr;obtain⟨_,_,h2⟩:=of_map hr;cases h2
        |false=>rw[hp]at hr;cases hr
      . cases hr
 |_=>simp[cls]at hc
def ML{cf:eP}{rf:gP}{ro:Option Nat}{o:Oper}{s s':aM}(hc:∀f az cap h',aS e s.h s.t o.op≠some (.defer f az cap h'))(h:mD e cf rf ro o s=some s'):
 ∃v,s'={s with t:=jg s.t o.dst v,h:=s'.h}/\(∀d,o.dst=some d->d<s.n)/\
  ∀t2,Same t2 s.t o.op.operands.toList->mD e cf rf ro o {s with t:=t2}=some {s with t:=jg t2 o.dst v,h:=s'.h}:=by
 simp only[wW]at h⊢;cases hr:aS e s.h s.t o.op with
 |none=>simp[hr]at h
 |some r=>
  have aH:∀t2,Same t2 s.t o.op.operands.toList->aS e s.h t2 o.op=some r:=λt2 h2=>by rw[zY h2,hr]
  simp only[hr]at h;have fin:∀(h1:ab) (v:Value),fy {s with h:=h1} o.dst v=some s'->s'={s with t:=jg s.t o.dst v,h:=s'.h}/\(∀d,o.dst=some d->d<s.n)/\
   ∀t2:Tr Value,fy {s with h:=h1,t:=t2} o.dst v=some {s with t:=jg t2 o.dst v,h:=s'.h}:=λh1 v hp=>by
   obtain⟨q1,q2⟩:=vk hp;subst q1;exact⟨rfl,q2,λt2=>xo v q2⟩
  cases r with
  |val v h1=>
   obtain⟨q1,q2,q3⟩:=fin h1 v h;refine⟨v,q1,q2,λt2 h2=> ?_⟩;simp only[aH t2 h2];exact q3 t2
  |skip h1=>
   obtain⟨q1,q2,q3⟩:=fin h1 undef h;refine⟨undef,q1,q2,λt2 h2=> ?_⟩;simp only[aH t2 h2];exact q3 t2
  |enter f args h1=>
   simp only at h;cases aE:cf f args h1 with
   |none=>simp[aE]at h
   |some r2=>
    simp only[aE]at h;obtain⟨q1,q2,q3⟩:=fin r2.2 r2.1 h;refine⟨r2.1,q1,q2,λt2 h2=> ?_⟩;simp only[aH t2 h2,aE];exact q3 t2
  |round l args h1=>
   simp only at h;cases aE:rf l args h1 with
   |none=>simp[aE]at h
   |some r2=>
    simp only[aE]at h;obtain⟨q1,q2,q3⟩:=fin r2.2 r2.1 h;refine⟨r2.1,q1,q2,λt2 h2=> ?_⟩;simp only[aH t2 h2,aE];exact q3 t2
  |defer f az cap h1=>exact absurd hr (hc f az cap h1)
inductive oG(e:Env)(cf:eP)(rf:gP)(ro:Option Nat)(ops:List Oper)(i id m:Nat)(o:Oper)(x x':cF)(inc:Nat)(v:Value):Prop
 |skip:cZ ops x.s o=some false->v=undef->x'.ax=x.ax->x'.all=x.all->x'.s.h=x.s.h->(cls o.op=.effect->x'.bK=(inc,x.s.h)::x.bK)->(cls o.op≠.effect->x'.bK=x.bK)->oG e cf rf ro ops i id m o x x' inc v
 |pure (h1:ab):cZ ops x.s o=some true->cls o.op=.pure->aS e x.s.h x.s.t o.op=some (.val v h1)->x'.ax=x.ax->x'.all=x.all->x'.s.h=x.s.h->x'.bK=x.bK->oG e cf rf ro ops i id m o x x' inc v
 |read (h1:ab):cZ ops x.s o=some true->cls o.op=.read->aS e (cq x.s.h m x.ax) x.s.t o.op=some (.val v h1)->x'.ax=x.ax->x'.all=x.all->x'.s.h=x.s.h->x'.bK=x.bK->oG e cf rf ro ops i id m o x x' inc v
 |alloc (ob:bR) (f:Nat->Value):cZ ops x.s o=some true->cls o.op=.alloc->cU e x.s.t o.op=some (ob,f)->v=f id->x'.ax=(i,id,ob)::x.ax->x'.all=(i,id,ob)::x.all->x'.s.h=x.s.h->x'.bK=x.bK->oG e cf rf ro ops i id m o x x' inc v
 |effect (s1:aM):cZ ops x.s o=some true->cls o.op=.effect->mD e cf rf ro o {x.s with h:=cq x.s.h m x.ax}=some s1->s1.t=jg x.s.t o.dst v->s1.h=x'.s.h->
  (∀t2,Same t2 x.s.t o.op.operands.toList->mD e cf rf ro o {x.s with t:=t2,h:=cq x.s.h m x.ax}=some {x.s with t:=jg t2 o.dst v,h:=x'.s.h})->
  x'.ax=x.ax.filter (λp=> !m.testBit p.1)->x'.all=x.all->x'.bK=(yx inc m,x'.s.h)::x.bK->oG e cf rf ro ops i id m o x x' inc v
structure Step(x x':cF)(o:Oper)(v:Value):Prop where
 t:x'.s.t=jg x.s.t o.dst v
 lt:∀d,o.dst=some d->d<x.s.n
 n:x'.s.n=x.s.n
 ds:x'.s.ds=x.s.ds
 di:x'.di=x.s.t::x.di
def MM{cf:eP}{rf:gP}{ro:Option Nat}{ops:List Oper}{i id m:Nat}{o:Oper}{x x':cF}{inc:Nat}{tl:List (Nat×ab)}(aG:x.bK=(inc,x.s.h)::tl)
 (h:tg e cf rf ro ops i id m o {x with di:=x.s.t::x.di}=some x'):∃v,Step x x' o v/\oG e cf rf ro ops i id m o x x' inc v:=by
 have aK:(x.bK.head?.map (·.1)).getD 0=inc:=by rw[aG];rfl
 unfold tg at h;simp only[aK]at h;cases hw:cZ ops x.s o with
 |none=>simp[hw]at h
 |some b=>
  cases b with
  |false=>
   simp only[hw]at h;cases hp:fy x.s o.dst undef with
   |none=>simp[hp]at h
   |some s1=>
    simp only[hp]at h;obtain⟨q1,q2⟩:=vk hp;subst q1
    split at h
    . rename_i hc;cases h;exact⟨undef,⟨rfl,q2,rfl,rfl,rfl⟩,.skip hw rfl rfl rfl rfl (λ_=>rfl) λhn=>absurd hc hn⟩
    . cases h
    . rename_i hc _;cases h;exact⟨undef,⟨rfl,q2,rfl,rfl,rfl⟩,.skip hw rfl rfl rfl rfl (λhn=>absurd hn hc) λ_=>rfl⟩
  |true=>
   simp only[hw]at h
   split at h
   . rename_i hc
     split at h
     . rename_i v h1 hr;obtain⟨s1,hp,rfl⟩:=of_map h;obtain⟨q1,q2⟩:=vk hp;subst q1;exact⟨v,⟨rfl,q2,rfl,rfl,rfl⟩,.pure h1 hw hc hr rfl rfl rfl rfl⟩
     . cases h
   . rename_i hc
     split at h
     . rename_i v h1 hr;obtain⟨s1,hp,rfl⟩:=of_map h;obtain⟨q1,q2⟩:=vk hp;subst q1;exact⟨v,⟨rfl,q2,rfl,rfl,rfl⟩,.read h1 hw hc hr rfl rfl rfl rfl⟩
     . cases h
   . rename_i hc
     split at h
     . cases h
     . rename_i ob f hr;obtain⟨s1,hp,rfl⟩:=of_map h;obtain⟨q1,q2⟩:=vk hp;subst q1;exact⟨f id,⟨rfl,q2,rfl,rfl,rfl⟩,.alloc ob f hw hc hr rfl rfl rfl rfl rfl⟩
   . rename_i hc
     split at h
     . cases h
     . rename_i s1 hr;obtain⟨v,q1,q2,q3⟩:=ML (λ_ _ _ _=>MK hc) hr;cases h;have e1:s1.t=jg x.s.t o.dst v:=by rw[q1]
       have e2:s1.n=x.s.n:=by rw[q1]
       have e3:s1.ds=x.s.ds:=by rw[q1]
       exact⟨v,⟨e1,q2,e2,e3,rfl⟩,.effect s1 hw hc hr e1 rfl q3 rfl rfl rfl⟩
   . cases h
def tz(t:Tr Value)(dst:Option Tmp)(v:Value)(d:Tmp):(jg t dst v).get d=if dst=some d then some v else t.get d:=by
 cases dst with
 |none=>simp[jg]
 |some d'=>
  simp only[jg,Tr.bD,oY];by_cases h:d=d'
  . subst h;simp
  . rw[if_neg h,if_neg (Ne.symm h)]
abbrev dc(ops:List Oper):List (Nat×Nat):=jJ (ops.zip (bz ops)) 0
def p7(o:Oper):Bool:=cls o.op==.alloc
def kO(ops:List Oper)(S:Nat->Prop)(m:Nat):Prop:=m<=(dc ops).length/\∀(p i k:Nat),(dc ops)[p]? =some (i,k)->(S i↔p<m)
def vl{ops:List Oper}{p i k:Nat}(h:(dc ops)[p]? =some (i,k)):∃o,ops[i]? =some o/\k=(bz ops).getD i 0/\cls o.op=.effect:=by
 obtain⟨_,o,h1,h2⟩:=Aa _ _ _ _ _ h;simp only[Nat.sub_zero]at h1;rw[afN]at h1;exact⟨o,h1.1,by rw[YN,h1.2];rfl,h2⟩
def Ab{ops:List Oper}{i:Nat}{o:Oper}(h:ops[i]? =some o):(ops.zip (bz ops))[i]? =some (o,(bz ops).getD i 0):=by
 rw[afN];refine⟨h, ?_⟩;have:i<(bz ops).length:=by rw[xk];exact(HT.1 h).1
 rw[YN,Yt this];rfl
def MN{ops:List Oper}{i:Nat}{o:Oper}(h:ops[i]? =some o)(hc:cls o.op=.effect):∃p:Nat,(dc ops)[p]? =some (i,(bz ops).getD i 0):=by
 have:=EF (ops.zip (bz ops)) 0 i o _ (Ab h) hc;simpa using this
def kO.more{ops:List Oper}{S S':Nat->Prop}{m i:Nat}(h:kO ops S m)(f:tx ops (bz ops)){o:Oper}(ho:ops[i]? =some o)(hc:cls o.op=.effect)(hi:¬S i)
 (hm:∀j,((bz ops).getD i 0).testBit j=true->S j) (hS:∀j,S' j↔S j\/j=i):kO ops S' (m+1)/\(dc ops)[m]? =some (i,(bz ops).getD i 0):=by
 obtain⟨p,hp⟩:=MN ho hc;have h1:¬p<m:=λhl=>hi ((h.2 p _ _ hp).2 hl);have aJ:=(HT.1 hp).1;have h2:p=m:=by
  rcases afs p m with hl|rfl|hl
  . exact absurd hl h1
  . rfl
  . exfalso;have hq:=Yt (Xt hl aJ);generalize (dc ops)[m]'(Xt hl aJ)=jk at hq;obtain⟨j,k⟩:=jk;have aR:=xn _ _ _ _ _ _ _ _ hq hp hl;obtain⟨o',q1,q2,q3⟩:=vl hq;have:=(h.2 m _ _ hq).1 (hm j (f.dc j o' i o q1 ho q3 hc aR));omega
 subst h2;refine⟨⟨aa,λq j k hq=> ?_⟩,hp⟩;rw[hS,h.2 q j k hq];constructor
 . rintro(hl|rfl)
   . omega
   . rcases afs q p with hl|rfl|hl
     . omega
     . omega
     . have:=xn _ _ _ _ _ _ _ _ hp hq hl;omega
 . intro hl;rcases afD q p with aO|aO
   . exact .inl aO
   . have:q=p:=aa;subst this;rw[hp]at hq;cases hq;exact .inr rfl
def kO.same{ops:List Oper}{S S':Nat->Prop}{m i:Nat}(h:kO ops S m){o:Oper}(ho:ops[i]? =some o)(hc:cls o.op≠.effect)(hS:∀j,S' j↔S j\/j=i):kO ops S' m:=by
 refine⟨h.1,λq j k hq=> ?_⟩;rw[hS,<-h.2 q j k hq];constructor
 . rintro(hl|rfl)
   . exact hl
   . obtain⟨o',q1,q2,q3⟩:=vl hq;rw[ho]at q1;cases q1;exact absurd q3 hc
 . exact .inl
structure p8(s0:aM)(base N:Nat)(ops:List Oper)(k id:Nat)(x:cF)(m inc:Nat):Prop where
 n:x.s.n=s0.n
 ds:x.s.ds=s0.ds
 t:∀d,(∀(j:Nat) (o:Oper),j<k->ops[j]? =some o->o.dst≠some d)->x.s.t.get d=s0.t.get d
 iK:∃tl,x.bK=(inc,x.s.h)::tl
 len:x.bK.length=m+1
 fW:kO ops (·<k) m
 ax:∀p,p∈x.ax↔p∈x.all/\inc.testBit p.1=false
 oH:∀p∈x.all,p.1<k/\base<=p.2.1/\p.2.1<id
 inj:∀p q,p∈x.all->q∈x.all->p.2.1=q.2.1->p=q
 vm:∀j,inc.testBit j=true->j<k
 di:x.di.length=k
 ge:base<=id
 sum:id+((ops.drop k).filter p7).length=N
structure jh(ops:List Oper)(k:Nat)(x xf:cF):Prop where
 t:∀d,(∀(j:Nat) (o:Oper),k<=j->ops[j]? =some o->o.dst≠some d)->xf.s.t.get d=x.s.t.get d
 bK:∃l,xf.bK=l++x.bK
 all:∃l,xf.all=l++x.all/\∀p∈l,k<=p.1
 di:∃l,xf.di=l++x.di
def jh.refl(ops:List Oper)(k:Nat)(x:cF):jh ops k x x:=⟨λ_ _=>rfl,⟨[],rfl⟩,⟨[],rfl,aw⟩,⟨[],rfl⟩⟩
def MO{cf:eP}{rf:gP}{ro:Option Nat}{s0:aM}{base N:Nat}{ops:List Oper}(f:tx ops (bz ops)){k id m inc:Nat}{x x':cF}{o:Oper}{v:Value}(ho:ops[k]? =some o)(hp:p8 s0 base N ops k id x m inc)
 (hs:Step x x' o v) (hd:oG e cf rf ro ops k id ((bz ops).getD k 0) o x x' inc v):
 (∃m' an,p8 s0 base N ops (k+1) (nextId o id) x' m' an)/\(∀xf,jh ops (k+1) x' xf->jh ops k x xf):=by
 have aC:ops.drop k=o::ops.drop (k+1):=by
  obtain⟨hl,rfl⟩:=HT.1 ho;exact aft hl
 have ao:∀j,((bz ops).getD k 0).testBit j=true->j<k:=λj=>xm f k o j ho;have hS:∀j,j<k+1↔j<k\/j=k:=λj=>aa;have af:x'.s.n=s0.n:=hs.n.trans hp.n;have ah:x'.s.ds=s0.ds:=hs.ds.trans hp.ds;have ai:∀d,(∀(j:Nat) (o:Oper),j<k+1->ops[j]? =some o->o.dst≠some d)->x'.s.t.get d=s0.t.get d:=λd hd=>by
  rw[hs.t,tz,if_neg (hd k o aa ho)];exact hp.t d λj o' hj=>hd j o' aa
 have aj:x'.di.length=k+1:=by rw[hs.di];simp[hp.di]
 have lt:∀xf,jh ops (k+1) x' xf->∀d,(∀(j:Nat) (o:Oper),k<=j->ops[j]? =some o->o.dst≠some d)->xf.s.t.get d=x.s.t.get d:=λxf hl d hd=>by
  rw[hl.t d λj o' hj=>hd j o' aa,hs.t,tz,if_neg (hd k o (Ey _) ho)]
 have ls:∀xf,jh ops (k+1) x' xf->∃l,xf.di=l++x.di:=λxf hl=>by
  obtain⟨l,hl⟩:=hl.di;exact⟨l++[x.s.t],by rw[hl,hs.di];simp⟩
 have aA:cls o.op≠.alloc->nextId o id+((ops.drop (k+1)).filter p7).length=N:=λhc=>by
  have h1:p7 o=false:=by simp[p7,hc]
  have:=hp.sum;rw[aC,afd,h1]at this;have h2:(cls o.op==ta.alloc)=false:=h1;simpa[nextId,h2]using this
 have ad:cls o.op=.alloc->nextId o id=id+1/\id+1+((ops.drop (k+1)).filter p7).length=N:=λhc=>by
  have h1:p7 o=true:=by simp[p7,hc]
  have:=hp.sum;rw[aC,afd,h1]at this;refine⟨by simp[nextId,hc], ?_⟩;simp only[if_true,Fj]at this;omega
 have sum:nextId o id+((ops.drop (k+1)).filter p7).length=N:=by
  by_cases hc:cls o.op=.alloc
  . obtain⟨h1,h2⟩:=ad hc;omega
  . exact aA hc
 have idle:id<=nextId o id:=by
  by_cases hc:cls o.op=.alloc
  . have:=(ad hc).1;omega
  . have h2:(cls o.op==ta.alloc)=false:=by simp[hc]
    simp[nextId,h2]
 have ae:x'.all=x.all->(∀p∈x'.all,p.1<k+1/\base<=p.2.1/\p.2.1<nextId o id)/\(∀p q,p∈x'.all->q∈x'.all->p.2.1=q.2.1->p=q)/\(∀xf,jh ops (k+1) x' xf->∃l,xf.all=l++x.all/\∀p∈l,k<=p.1):=λha=>by
  rw[ha];refine⟨λp av=> ?_,hp.inj,λxf hl=> ?_⟩
  . obtain⟨h1,h2,h3⟩:=hp.oH p av;exact⟨aa,h2,aa⟩
  . obtain⟨l,h1,h2⟩:=hl.all;exact⟨l,by rw[h1,ha],λp av=>afO (h2 p av)⟩
 obtain⟨tl,aG⟩:=hp.iK;have quiet:x'.ax=x.ax->x'.all=x.all->x'.s.h=x.s.h->x'.bK=x.bK->cls o.op≠.effect->
  (∃m' an,p8 s0 base N ops (k+1) (nextId o id) x' m' an)/\(∀xf,jh ops (k+1) x' xf->jh ops k x xf):=λh1 h2 h3 h4 h5=>by
  obtain⟨a1,a2,a3⟩:=ae h2;refine⟨⟨m,inc,af,ah,ai,⟨tl,by rw[h4,h3,aG]⟩,by rw[h4];exact hp.len,hp.fW.same ho h5 hS,by rw[h1,h2];exact hp.ax,a1,a2,λj hj=>afl (hp.vm j hj),aj,Rm hp.ge idle,sum⟩,λxf hl=> ?_⟩;exact⟨lt xf hl,by obtain⟨l,hl⟩:=hl.bK;exact⟨l,by rw[hl,h4]⟩,a3 xf hl,ls xf hl⟩
 cases hd with
 |skip hw hv h1 h2 h3 h4 h5=>
  by_cases hc:cls o.op=.effect
  . obtain⟨a1,a2,a3⟩:=ae h2;refine⟨⟨m+1,inc,af,ah,ai,⟨x.bK,by rw[h4 hc,h3]⟩,by rw[h4 hc,Fj,hp.len],(hp.fW.more f ho hc (afu _) ao hS).1,by rw[h1,h2];exact hp.ax,a1,a2,λj hj=>afl (hp.vm j hj),aj,Rm hp.ge idle,sum⟩,λxf hl=> ?_⟩;exact⟨lt xf hl,by obtain⟨l,hl⟩:=hl.bK;exact⟨l++[(inc,x.s.h)],by rw[hl,h4 hc];simp⟩,a3 xf hl,ls xf hl⟩
  . exact quiet h1 h2 h3 (h5 hc) hc
 |pure hh hw hc hr h1 h2 h3 h4=>exact quiet h1 h2 h3 h4 (by rw[hc];decide)
 |read hh hw hc hr h1 h2 h3 h4=>exact quiet h1 h2 h3 h4 (by rw[hc];decide)
 |alloc ob g hw hc hr hv h1 h2 h3 h4=>
  obtain⟨y1,y2⟩:=ad hc;refine⟨⟨m,inc,af,ah,ai,⟨tl,by rw[h4,h3,aG]⟩,by rw[h4];exact hp.len,hp.fW.same ho (by rw[hc];decide) hS,λp=> ?_,λp av=> ?_,λp q h5 h6 h7=> ?_,λj hj=>afl (hp.vm j hj),aj,Rm hp.ge idle,sum⟩,λxf hl=> ?_⟩
  . rw[h1,h2,afe,afe,hp.ax];constructor
    . rintro(rfl|⟨h5,h6⟩)
      . refine⟨.inl rfl, ?_⟩;cases hb:inc.testBit k with
        |false=>rfl
        |true=>exact absurd (hp.vm k hb) (afu _)
      . exact⟨.inr h5,h6⟩
    . rintro⟨rfl|h5,h6⟩
      . exact .inl rfl
      . exact .inr ⟨h5,h6⟩
  . rw[h2,afe]at av;rcases av with rfl|av
    . exact⟨afP _,hp.ge,by rw[y1];exact afP _⟩
    . obtain⟨g1,g2,g3⟩:=hp.oH p av;exact⟨aa,g2,aa⟩
  . rw[h2,afe]at h5 h6;rcases h5 with rfl|h5<;>rcases h6 with rfl|h6
    . rfl
    . have:=(hp.oH q h6).2.2;simp only at h7;omega
    . have:=(hp.oH p h5).2.2;simp only at h7;omega
    . exact hp.inj p q h5 h6 h7
  . refine⟨lt xf hl,by obtain⟨l,hl⟩:=hl.bK;exact⟨l,by rw[hl,h4]⟩, ?_,ls xf hl⟩;obtain⟨l,g1,g2⟩:=hl.all;refine⟨l++[(k,id,ob)],by rw[g1,h2];simp,λp av=> ?_⟩;rcases afv.1 av with h5|h5
    . exact afO (g2 p h5)
    . simp at h5;subst h5;exact Ey _
 |effect s1 hw hc hr ht hh aH h1 h2 h3=>
  obtain⟨a1,a2,a3⟩:=ae h2;have aP:∀j,(yx inc ((bz ops).getD k 0)).testBit j=(inc.testBit j||((bz ops).getD k 0).testBit j):=λj=>afm _ _ _;refine⟨⟨m+1,yx inc ((bz ops).getD k 0),af,ah,ai,⟨x.bK,h3⟩,by rw[h3,Fj,hp.len],(hp.fW.more f ho hc (afu _) ao hS).1,λp=> ?_,a1,a2,λj hj=> ?_,aj,Rm hp.ge idle,sum⟩,λxf hl=>⟨lt xf hl,by obtain⟨l,hl⟩:=hl.bK;exact⟨l++[(yx inc ((bz ops).getD k 0),x'.s.h)],by rw[hl,h3];simp⟩,a3 xf hl,ls xf hl⟩⟩
  . rw[h1,h2,afj,hp.ax,aP];simp only[afE,afF,and_assoc]
  . rw[aP,adr]at hj;rcases hj with hj|hj
    . exact afl (hp.vm j hj)
    . exact afl (ao j hj)
def MP{dK:Nat->eP}{rf:gP}{ro:Option Nat}{s0:aM}{base N:Nat}{ops:List Oper}(f:tx ops (bz ops)){xf:cF}:∀(q k id:Nat) (x:cF) (m inc:Nat),q=ops.length-k->k<=ops.length->
 mE e dK rf ro ops ((ops.zip (bz ops)).drop k) k id x=some xf->p8 s0 base N ops k id x m inc->
 (∀(i:Nat) (o:Oper),k<=i->ops[i]? =some o->∃id x x' m inc v,p8 s0 base N ops i id x m inc/\Step x x' o v/\oG e (dK i) rf ro ops i id ((bz ops).getD i 0) o x x' inc v/\jh ops i x xf/\jh ops (i+1) x' xf)/\
  jh ops k x xf/\∃id m inc,p8 s0 base N ops ops.length id xf m inc:=by
 intro q
 induction q with
 |zero=>
  intro k id x m inc hq hk h hp;have:k=ops.length:=aa;subst this;rw[afw (by rw[List.length_zip,xk];simp)]at h;simp only[mE,oY]at h;subst h;exact⟨λi o hi ho=>absurd (HT.1 ho).1 aa,jh.refl _ _ _,id,m,inc,hp⟩
 |succ q ih=>
  intro k id x m inc hq hk h hp;have aJ:k<ops.length:=aa;have ho:ops[k]? =some ops[k]:=Yt aJ;have hd:(ops.zip (bz ops)).drop k=(ops[k],(bz ops).getD k 0)::(ops.zip (bz ops)).drop (k+1):=by
   have hz:=Ab ho;obtain⟨hl,he⟩:=HT.1 hz;rw[aft hl,he]
  rw[hd]at h;simp only[mE]at h;cases hs:tg e (dK k) rf ro ops k id ((bz ops).getD k 0) ops[k] {x with di:=x.s.t::x.di}with
  |none=>rw[hs]at h;cases h
  |some x'=>
   simp only[hs]at h;obtain⟨tl,aG⟩:=hp.iK;obtain⟨v,s1,s2⟩:=MM aG hs;obtain⟨⟨m',an,p1⟩,p2⟩:=MO f ho hp s1 s2;obtain⟨r1,r2,r3⟩:=ih (k+1) _ x' m' an aa aa h p1;refine⟨λi o hi aL=> ?_,p2 xf r2,r3⟩;rcases Nat.eq_or_lt_of_le hi with rfl|hi
   . rw[ho]at aL;cases aL;exact⟨id,x,x',m,inc,v,hp,s1,s2,p2 xf r2,r2⟩
   . exact r1 i o hi aL
end Go.aD
end
noncomputable section
namespace Go.aD
variable {e:Env}
def tA(h:ab)(m:Nat):∀L:dA,(cq h m L).next=h.next
 |[]=>rfl
 |(i,id,o)::r=>by
  simp only[cq];cases m.testBit i with
  |true=>exact tA h m r
  |false=>exact tA h m r
def Ac{h:ab}{m:Nat}:∀{L:dA} {k:Nat} {o:bR},(cq h m L).get k=some o->(∃p∈L,m.testBit p.1=true/\p.2.1=k/\p.2.2=o)\/h.get k=some o
 |[],k,o,hk=>.inr hk
 |(i,id,ob)::r,k,o,hk=>by
  simp only[cq]at hk;have tail:(cq h m r).get k=some o->(∃p∈(i,id,ob)::r,m.testBit p.1=true/\p.2.1=k/\p.2.2=o)\/h.get k=some o:=λht=>by
   rcases Ac ht with⟨p,h1,h2⟩|h1
   . exact .inl ⟨p,UR _ h1,h2⟩
   . exact .inr h1
  cases hb:m.testBit i with
  |true=>
   simp only[hb,cond_true,ab.bD]at hk;by_cases af:k=id
   . rw[if_pos af]at hk;cases hk;exact .inl ⟨(i,id,ob),Rb ..,hb,af.symm,rfl⟩
   . rw[if_neg af]at hk;exact tail hk
  |false=>simp only[hb,cond_false]at hk;exact tail hk
def vn(h:ab):∀L:dA,(e8 h L).next=h.next
 |[]=>rfl
 |(_,_,_)::r=>vn h r
def Ad{h:ab}:∀{L:dA},(∀p q,p∈L->q∈L->p.2.1=q.2.1->p=q)->∀p∈L,(e8 h L).get p.2.1=some p.2.2
 |[],_,p,hp=>by cases hp
 |(i,id,o)::r,hi,p,hp=>by
  simp only[e8,ab.bD];by_cases hk:p.2.1=id
  . have:=hi p (i,id,o) hp (Rb ..) hk;subst this;simp
  . rw[if_neg hk];rcases afe.1 hp with rfl|an
    . exact absurd rfl hk
    . exact Ad (λp q h1 h2=>hi p q (UR _ h1) (UR _ h2)) p an
def Ae{h:ab}{k:Nat}:∀{L:dA},(∀p∈L,p.2.1≠k)->(e8 h L).get k=h.get k
 |[],_=>rfl
 |(i,id,o)::r,hk=>by
  simp only[e8,ab.bD];rw[if_neg (λe=>hk (i,id,o) (Rb ..) e.symm)];exact Ae λp hp=>hk p (UR _ hp)
def EG{h:ab}{L:dA}(hi:∀p q,p∈L->q∈L->p.2.1=q.2.1->p=q){k:Nat}{o:bR}(hk:(e8 h L).get k=some o):(∃p∈L,p.2.1=k/\p.2.2=o)\/h.get k=some o:=by
 by_cases hx:∃p∈L,p.2.1=k
 . obtain⟨p,hp,rfl⟩:=hx;rw[Ad hi p hp]at hk;cases hk;exact .inl ⟨p,hp,rfl,rfl⟩
 . rw[Ae λp hp e=>hx ⟨p,hp,e⟩]at hk;exact .inr hk
def Fr.less{b:Nat}{ρ:aH}{h g:ab}{w:World}(hs:∀i o,g.get i=some o->h.get i=some o)(hn:h.next<=g.next):Fr b ρ h w ρ g w:=
 ⟨Ext.refl _,rfl,rfl,Ey _,λ_ _=>rfl,λ_ _ _=>rfl,λj o pl h1 h2 h3=>.inl ⟨j,o,pl,hs j o h1,h2,h3,rfl⟩,
  λj o h1 _=>hs j o h1,λ_ h h'=>absurd h h',λj o h1 _=>⟨o,hs j o h1⟩,hn⟩
def kO.uniq{ops:List Oper}{S S':Nat->Prop}{m m':Nat}(h:kO ops S m)(h':kO ops S' m')(hS:∀(p i k:Nat),(dc ops)[p]? =some (i,k)->(S i↔S' i)):m=m':=by
 rcases afs m m' with hl|rfl|hl
 . exfalso;have hq:=Yt (aff hl h'.1);generalize (dc ops)[m]'(aff hl h'.1)=jk at hq;obtain⟨j,k⟩:=jk;have:=(h.2 _ _ _ hq).1 ((hS _ _ _ hq).2 ((h'.2 _ _ _ hq).2 hl));omega
 . rfl
 . exfalso;have hq:=Yt (aff hl h.1);generalize (dc ops)[m']'(aff hl h.1)=jk at hq;obtain⟨j,k⟩:=jk;have:=(h'.2 _ _ _ hq).1 ((hS _ _ _ hq).1 ((h.2 _ _ _ hq).2 hl));omega
structure Rec(e:Env)(cf:eP)(rf:gP)(ro:Option Nat)(ops:List Oper)(s0:aM)(base N:Nat)(xf:cF)(i:Nat)(o:Oper)(id:Nat)(x x':cF)(m inc:Nat)(v:Value):Prop where
 pre:p8 s0 base N ops i id x m inc
 step:Step x x' o v
 EH:oG e cf rf ro ops i id ((bz ops).getD i 0) o x x' inc v
 l:jh ops i x xf
 l':jh ops (i+1) x' xf
def xp(e:Env)(x:cF)(bK:List (Nat×ab))(dc:List (Nat×Nat))(i m:Nat)(o:Oper)(t:Tr Value):Prop:=
 (dc.filter λp=> !p.2.testBit i).length<=(dc.filter λp=>m.testBit p.1).length\/
 ∃d v,o.dst=some d/\x.s.t.get d=some v/\∀q∈(bK.drop (dc.filter λp=>m.testBit p.1).length).take ((dc.filter λp=> !p.2.testBit i).length+1-(dc.filter λp=>m.testBit p.1).length),
  ∃h2,aS e (cq q.2 m (x.all.filter λp=> !q.1.testBit p.1)) t o.op=some (.val v h2)
def nF(e:Env)(ops:List Oper)(x:cF)(bK:List (Nat×ab))(dc:List (Nat×Nat)):List (Oper×Nat)->List (Tr Value)->Nat->Prop
 |(o,m)::r,t::ts,i=>(cls o.op=.read->cZ ops {x.s with t} o=some true->xp e x bK dc i m o t)/\nF e ops x bK dc r ts (i+1)
 |[],_,_=>True
 |_,_,_=>False
structure oI(e:Env)(dK:Nat->eP)(rf:gP)(ro:Option Nat)(ops:List Oper)(s0:aM)(base N:Nat)(xf:cF):Prop where
 f:tx ops (bz ops)
 Af:∀(i:Nat) (o:Oper),ops[i]? =some o->∃id x x' m inc v,Rec e (dK i) rf ro ops s0 base N xf i o id x x' m inc v
 t0:∀d,(∀(j:Nat) (o:Oper),ops[j]? =some o->o.dst≠some d)->xf.s.t.get d=s0.t.get d
 xq:∀p∈xf.all,base<=p.2.1/\p.2.1<N
 inj:∀p q,p∈xf.all->q∈xf.all->p.2.1=q.2.1->p=q
 MQ:(dc ops).length=0\/nF e ops xf xf.bK.reverse (dc ops) (ops.zip (bz ops)) xf.di.reverse 0
structure Inv(e:Env)(ops:List Oper)(s0:aM)(base N:Nat)(xf:cF)(S:Nat->Prop)(fA:aH)(h0:ab)(w0:World)(ρ:aH)(a:Act)(w:World)(t:Tr Value)(h:ab)(m inc:Nat)(H:ab):Prop where
 closed:∀i,S i->∀j,((bz ops).getD i 0).testBit j=true->S j
 t1:∀(j:Nat) (o:Oper) (d:Tmp),S j->ops[j]? =some o->o.dst=some d->t.get d=xf.s.t.get d
 t2:∀d,(∀(j:Nat) (o:Oper),S j->ops[j]? =some o->o.dst≠some d)->t.get d=s0.t.get d
 rel:dx e ρ {t,n:=s0.n,ds:=s0.ds,h} a w
 fr:Fr base fA h0 w0 ρ h w
 fW:kO ops S m
 iK:xf.bK.reverse[m]? =some (inc,H)
 m1:∀p∈xf.all,S p.1->inc.testBit p.1=false->h.get p.2.1=some p.2.2
 m3:∀k o,H.get k=some o->h.get k=some o
 m4:∀p∈xf.all,inc.testBit p.1=false->H.get p.2.1=none
 m5:h.next=H.next
 mH:N<=H.next
 m6:∀p∈xf.all,¬S p.1->ρ p.2.1=none
 m7:∀j,inc.testBit j=true->S j
def xr{ops:List Oper}{k:Nat}{x xf:cF}{q:Nat×ab}{tl:List (Nat×ab)}{m:Nat}(hs:x.bK=q::tl)(hl:x.bK.length=m+1)(l:jh ops k x xf):xf.bK.reverse[m]? =some q:=by
 obtain⟨l,ao⟩:=l.bK;rw[ao,hs];rw[hs]at hl;simp only[Fj]at hl;rw[afQ,afi,afR,afA (by simp;omega)];have:m-tl.reverse.length=0:=by simp;omega
 rw[this];rfl
section
variable {cf:eP} {dK:Nat->eP} {rf:gP} {ro:Option Nat} {ops:List Oper} {s0:aM} {base N:Nat} {xf:cF} {S:Nat->Prop} {fA:aH} {h0:ab} {w0:World} {ρ:aH} {a:Act} {w:World} {t:Tr Value} {h:ab} {m inc:Nat} {H:ab}
variable {i:Nat} {o:Oper} {id:Nat} {x x':cF} {mc ah:Nat} {v:Value}
def Inv.same(I:Inv e ops s0 base N xf S fA h0 w0 ρ a w t h m inc H)(G:oI e dK rf ro ops s0 base N xf)(R:Rec e cf rf ro ops s0 base N xf i o id x x' mc ah v)(ho:ops[i]? =some o)(hi:¬S i)
 (hm:∀j,((bz ops).getD i 0).testBit j=true->S j):Same t x.s.t o.op.operands.toList:=by
 intro d hd;by_cases hw:∃(j:Nat) (p:Oper),ops[j]? =some p/\p.dst=some d
 . obtain⟨j,p,hj,aa⟩:=hw;obtain⟨u1,u2,u3⟩:=G.f.use j p i o d hj ho aa hd;rcases Nat.lt_or_gt_of_ne u1 with hl|hl
   . rw[I.t1 j p d (hm j (u2 hl)) hj aa];refine R.l.t d λk q hk hq ae=> ?_;have:=G.f.once j p k q d hj hq aa ae;omega
   . have av:¬S j:=λhS=>hi (I.closed j hS i (u3 hl));rw[I.t2 d λk q hS hq ae=>av (G.f.once k q j p d hq hj ae aa▸hS)];refine(R.pre.t d λk q hk hq ae=> ?_).symm;have:=G.f.once j p k q d hj hq aa ae;omega
 . rw[I.t2 d λj p _ hj aa=>hw ⟨j,p,hj,aa⟩];exact(R.pre.t d λj p _ hj aa=>hw ⟨j,p,hj,aa⟩).symm
def Inv.wanted(I:Inv e ops s0 base N xf S fA h0 w0 ρ a w t h m inc H)(G:oI e dK rf ro ops s0 base N xf)(R:Rec e cf rf ro ops s0 base N xf i o id x x' mc ah v)(ho:ops[i]? =some o)
 (hm:∀j,((bz ops).getD i 0).testBit j=true->S j):cZ ops {t,n:=s0.n,ds:=s0.ds,h} o=cZ ops x.s o:=by
 unfold cZ;cases hg:o.guard with
 |none=>rfl
 |some jw=>
  obtain⟨j,want⟩:=jw;simp only;cases hd:(ops[j]?).bind (·.dst)with
  |none=>rfl
  |some d=>
   obtain⟨p,hj,aa⟩:=nB hd;have hb:=G.f.guard i o j want ho hg;have az:=xm G.f i o j ho hb;have e1:t.get d=xf.s.t.get d:=I.t1 j p d (hm j hb) hj aa;have e2:xf.s.t.get d=x.s.t.get d:=R.l.t d λk q hk hq ae=>by
    have:=G.f.once j p k q d hj hq aa ae;omega
   simp only[e1,e2]
def Inv.next(I:Inv e ops s0 base N xf S fA h0 w0 ρ a w t h m inc H)(G:oI e dK rf ro ops s0 base N xf)(R:Rec e cf rf ro ops s0 base N xf i o id x x' mc ah v)(ho:ops[i]? =some o)(hi:¬S i)
 (hm:∀j,((bz ops).getD i 0).testBit j=true->S j) {S':Nat->Prop} (hS:∀j,S' j↔S j\/j=i) {aj:aH} {a':Act} {w':World} {h':ab} {m' ad:Nat} {H':ab}
 (rel:dx e aj {t:=jg t o.dst v,n:=s0.n,ds:=s0.ds,h:=h'} a' w') (fr:Fr base ρ h w aj h' w') (fresh:∀p∈xf.all,p.1≠i->ρ p.2.1=none->aj p.2.1=none)
 (fW:kO ops S' m') (iK:xf.bK.reverse[m']? =some (ad,H')) (m1:∀p∈xf.all,S' p.1->ad.testBit p.1=false->h'.get p.2.1=some p.2.2)
 (m3:∀k o,H'.get k=some o->h'.get k=some o) (m4:∀p∈xf.all,ad.testBit p.1=false->H'.get p.2.1=none) (m5:h'.next=H'.next) (mH:N<=H'.next) (m7:∀j,ad.testBit j=true->S' j):
 Inv e ops s0 base N xf S' fA h0 w0 aj a' w' (jg t o.dst v) h' m' ad H':=by
 refine⟨λk hk j hj=> ?_,λj p d hj hp hd=> ?_,λd hd=> ?_,rel,I.fr.trans fr,fW,iK,m1,m3,m4,m5,mH,λp hp hn=> ?_,m7⟩
 . rw[hS]at hk⊢;rcases hk with hk|rfl
   . exact .inl (I.closed k hk j hj)
   . exact .inl (hm j hj)
 . rw[tz];by_cases ai:o.dst=some d
   . rw[if_pos ai,R.l'.t d λk q hk hq ae=>by
      have:=G.f.once i o k q d ho hq ai ae;omega,R.step.t,tz,if_pos ai]
   . rw[if_neg ai];rcases(hS j).1 hj with aw|rfl
     . exact I.t1 j p d aw hp hd
     . rw[ho]at hp;cases hp;exact absurd hd ai
 . rw[tz,if_neg (hd i o ((hS i).2 (.inr rfl)) ho)];exact I.t2 d λj p hj hp=>hd j p ((hS j).2 (.inl hj)) hp
 . have h1:¬S p.1:=λhs=>hn ((hS _).2 (.inl hs));have h2:p.1≠i:=λhs=>hn ((hS _).2 (.inr hs));exact fresh p hp h2 (I.m6 p hp h1)
end
end Go.aD
end
noncomputable section
namespace Go.aD
variable {e:Env}
def EJ{ops:List Oper}{x:cF}{bK:List (Nat×ab)}{ef:List (Nat×Nat)}:∀(oms:List (Oper×Nat)) (ts:List (Tr Value)) (k:Nat),nF e ops x bK ef oms ts k->
 ∀(j:Nat) (o:Oper) (m:Nat),oms[j]? =some (o,m)->∃t,ts[j]? =some t/\(cls o.op=.read->cZ ops {x.s with t} o=some true->xp e x bK ef (k+j) m o t)
 |[],_,_,_,j,o,m,hj=>by simp at hj
 |(o0,m0)::r,[],_,h,_,_,_,_=>by simp[nF]at h
 |(o0,m0)::r,t::ts,k,h,j,o,m,hj=>by
  simp only[nF]at h;cases j with
  |zero=>
   simp only[afn,oY,afC]at hj;obtain⟨rfl,rfl⟩:=hj;exact⟨t,rfl,h.1⟩
  |succ j=>
   obtain⟨t',h1,h2⟩:=EJ r ts (k+1) h.2 j o m (by simpa using hj);exact⟨t',by simpa using h1,λhc hw=>by have:=h2 hc hw;rwa[show k+1+j=k+(j+1) by omega]at this⟩
section
variable {cf:eP} {dK:Nat->eP} {rf:gP} {ro aZ:Option Nat} {ops:List Oper} {s0:aM} {base N:Nat} {xf:cF} {S:Nat->Prop} {fA:aH} {h0:ab} {w0:World} {ρ:aH} {a:Act} {w:World} {t:Tr Value} {h:ab} {m inc:Nat} {H:ab}
variable {i:Nat} {o:Oper} {id:Nat} {x x':cF} {mc ad:Nat} {v:Value}
def Rec.snap(R:Rec e cf rf ro ops s0 base N xf i o id x x' mc ad v):xf.di.reverse[i]? =some x.s.t:=by
 obtain⟨l,hl⟩:=R.l'.di;rw[hl,R.step.di,afQ,afi,afR,afA (by simp[R.pre.di])];simp[R.pre.di]
def Rec.val(R:Rec e cf rf ro ops s0 base N xf i o id x x' mc ad v)(G:oI e dK rf ro ops s0 base N xf)(ho:ops[i]? =some o){d:Tmp}(hd:o.dst=some d):xf.s.t.get d=some v:=by
 rw[R.l'.t d λk q hk hq bF=>by
  have:=G.f.once i o k q d ho hq hd bF;omega,R.step.t,tz,if_pos hd]
def Rec.iK(R:Rec e cf rf ro ops s0 base N xf i o id x x' mc ad v):xf.bK.reverse[mc]? =some (ad,x.s.h):=by
 obtain⟨tl,ba⟩:=R.pre.iK;exact xr ba R.pre.len R.l
def Rec.EK(R:Rec e cf rf ro ops s0 base N xf i o id x x' mc ad v){q:Nat×ab}(hs:x'.bK=q::x.bK):xf.bK.reverse[mc+1]? =some q:=
 xr hs (by rw[hs,Fj,R.pre.len]) R.l'
def Inv.at(I:Inv e ops s0 base N xf S fA h0 w0 ρ a w t h m inc H)(G:oI e dK rf ro ops s0 base N xf)(R:Rec e cf rf ro ops s0 base N xf i o id x x' mc ad v)(ho:ops[i]? =some o)(hi:¬S i)
 (hm:∀j,((bz ops).getD i 0).testBit j=true->S j) (hc:cls o.op=.effect):mc=m/\ad=inc/\x.s.h=H:=by
 have h1:m=mc:=I.fW.uniq R.pre.fW λp j k hp=>by
  obtain⟨q,q1,q2,q3⟩:=vl hp;constructor
  . intro hS;rcases afs j i with hl|rfl|hl
    . exact hl
    . exact absurd hS hi
    . exact absurd (I.closed j hS i (G.f.dc i o j q ho q1 hc q3 hl)) hi
  . intro hl;exact hm j (G.f.dc j q i o q1 ho q3 hc hl)
 subst h1;have:=R.iK;rw[I.iK]at this;cases this;exact⟨rfl,rfl,rfl⟩
def Inv.read(I:Inv e ops s0 base N xf S fA h0 w0 ρ a w t h m inc H)(G:oI e dK rf ro ops s0 base N xf)(R:Rec e cf rf ro ops s0 base N xf i o id x x' mc ad v)(ho:ops[i]? =some o)(hi:¬S i)
 (hm:∀j,((bz ops).getD i 0).testBit j=true->S j) (hc:cls o.op=.read) (hw:cZ ops x.s o=some true) {h1:ab} (hr:aS e (cq x.s.h ((bz ops).getD i 0) x.ax) x.s.t o.op=some (.val v h1)):
 ∃L h2,(∀p∈L,p∈xf.all/\inc.testBit p.1=false)/\aS e (cq H ((bz ops).getD i 0) L) x.s.t o.op=some (.val v h2):=by
 have same:mc=m->∃L h2,(∀p∈L,p∈xf.all/\inc.testBit p.1=false)/\aS e (cq H ((bz ops).getD i 0) L) x.s.t o.op=some (.val v h2):=λe1=>by
  subst e1;have:=R.iK;rw[I.iK]at this;cases this;refine⟨x.ax,h1,λp hp=> ?_,hr⟩;obtain⟨q1,q2⟩:=(R.pre.ax p).1 hp;obtain⟨l,hl,_⟩:=R.l.all;exact⟨by rw[hl];exact afG _ q1,q2⟩
 rcases G.MQ with h3|h3
 . have e1:=I.fW.1;have e2:=R.pre.fW.1;exact same aa
 . obtain⟨T,t1,t2⟩:=EJ _ _ _ h3 i o _ (Ab ho);rw[R.snap]at t1;cases t1;have t3:=t2 hc hw;rw[Nat.zero_add]at t3;unfold xp at t3;have lo:∀{S':Nat->Prop} {m':Nat},kO ops S' m'->(∀j,((bz ops).getD i 0).testBit j=true->S' j)->((dc ops).filter λp=>((bz ops).getD i 0).testBit p.1).length<=m':=λ{S' m'} hE bd=>by
    refine filter_le _ _ _ λq a hq hf=> ?_;obtain⟨j,k⟩:=a;exact(hE.2 _ _ _ hq).1 (bd j hf)
   have bt:∀{S':Nat->Prop} {m':Nat},kO ops S' m'->¬S' i->(∀k,S' k->∀j,((bz ops).getD k 0).testBit j=true->S' j)->m'<=((dc ops).filter λp=> !p.2.testBit i).length:=λ{S' m'} hE bd bG=>by
    refine le_filter _ _ _ hE.1 λq a hq hf=> ?_;obtain⟨j,k⟩:=a;obtain⟨o',q1,q2,q3⟩:=vl hf;simp only[q2,afE];cases hb:((bz ops).getD j 0).testBit i with
    |false=>rfl
    |true=>exact absurd (bG j ((hE.2 _ _ _ hf).2 hq) i hb) bd
   have l1:=lo I.fW hm;have l2:=bt I.fW hi I.closed;have l3:=lo R.pre.fW λj hj=>xm G.f i o j ho hj;have hn:i<ops.length:=(HT.1 ho).1;have l4:=bt R.pre.fW (afu _) λk hk j hj=>Xt (xm G.f k _ j (Yt (Xt hk hn)) hj) hk;generalize ((dc ops).filter λp=>((bz ops).getD i 0).testBit p.1).length=aK at*;generalize ((dc ops).filter λp=> !p.2.testBit i).length=dS at*;rcases t3 with t3|⟨d,v',hd,bu,t3⟩
   . exact same aa
   . rcases afD aK dS with aP|bN
     . rw[R.val G ho hd]at bu;cases bu;have bf:(inc,H)∈(xf.bK.reverse.drop aK).take (dS+1-aK):=by
        refine afH (i:=m-aK) ?_;rw[List.getElem?_take,if_pos aa,afS,show aK+(m-aK)=m by omega];exact I.iK
       obtain⟨h2,aE⟩:=t3 _ bf;refine⟨_,h2,λp hp=> ?_,aE⟩;rw[afj]at hp;exact⟨hp.1,by simpa using hp.2⟩
     . exact same aa
def Inv.sub(I:Inv e ops s0 base N xf S fA h0 w0 ρ a w t h m inc H){mk:Nat}(hm:∀j,mk.testBit j=true->S j){L:dA}(hL:∀p∈L,p∈xf.all/\inc.testBit p.1=false):∀k o,(cq H mk L).get k=some o->h.get k=some o:=by
 intro k o hk;rcases Ac hk with⟨p,h1,h2,h3,h4⟩|h1
 . subst h3;subst h4;exact I.m1 p (hL p h1).1 (hm _ h2) (hL p h1).2
 . exact I.m3 k o h1
def EL{s:aM}{h':ab}(hr:aS e s.h s.t o.op=some (.val v h'))(hl:∀d,o.dst=some d->d<s.n):mD e cf rf ro o s=some {s with t:=jg s.t o.dst v,h:=h'}:=by
 simp only[wW,hr];exact xo (s:={s with h:=h'}) v hl
def MR{c:Call}(h:o.op=.defer c):cls o.op=.bad:=by rw[h];rfl
def Inv.step(he:e.Ok)(bg:nD e cf)(bk:vg e rf)(bH:hY fA ro aZ)(I:Inv e ops s0 base N xf S fA h0 w0 ρ a w t h m inc H)(G:oI e dK rf ro ops s0 base N xf)
 (R:Rec e cf rf ro ops s0 base N xf i o id x x' mc ad v) (ho:ops[i]? =some o) (hi:¬S i) (hm:∀j,((bz ops).getD i 0).testBit j=true->S j) {S':Nat->Prop} (hS:∀j,S' j↔S j\/j=i)
 {qY:Array Oper} (ae:qY.toList=ops) (n:Nat) {Q:Exit->Act->World->Prop} {K:Act->World->Prop}
 (hK:∀aL a' w' t' h' m' bl H',Inv e ops s0 base N xf S' fA h0 w0 aL a' w' t' h' m' bl H'->K a' w'):wpOpIn (FF aZ) n e.P qY Q i K a w:=by
 have bI:qY[i]? =some o:=by rw[<-ae]at ho;simpa using ho
 have aP:∀d,o.dst=some d->d<s0.n:=λd hd=>by rw[<-R.pre.n];exact R.step.lt d hd
 have ah:=I.same G R ho hi hm;have aG:hY ρ ro aZ:=bH.mono I.fr.ext;have af:∀{aL:aH} {h':ab} {w':World} {g:ab} {b:Nat},N<=b->Fr b ρ g w aL h' w'->∀p∈xf.all,p.1≠i->ρ p.2.1=none->aL p.2.1=none:=λ{aL h' w' g b} hb hf p hp _ hn=>by
  cases hx:aL p.2.1 with
  |none=>rfl
  |some pl=>
   have h1:=hf.ids _ hn (by rw[hx];exactλh=>by cases h);have h2:=(G.xq p hp).2;omega
 have aj:base<=N:=by
  have h1:=R.pre.ge;have h2:=R.pre.sum;omega
 unfold wpOpIn;simp only[bI];have W:=I.wanted G R ho hm;rw[<-ae]at W;have bO:S i->∀p∈xf.all,S p.1->inc.testBit p.1=false->h.get p.2.1=some p.2.2:=λ_=>I.m1;have an:∀p∈xf.all,p.1=i->cls o.op≠.alloc->False:=λp hp e1 hc=>by
  obtain⟨l,hl,aR⟩:=R.l'.all;rw[hl,afv]at hp;rcases hp with hp|hp
  . have:=aR p hp;omega
  . have aJ:x'.all=x.all:=by
     cases R.EH with
     |skip _ _ _ h2 _ _ _=>exact h2
     |pure _ _ _ _ _ h2 _ _=>exact h2
     |read _ _ _ _ _ h2 _ _=>exact h2
     |alloc _ _ _ bm _ _ _ _ _ _=>exact absurd bm hc
     |effect _ _ _ _ _ _ _ _ h2 _=>exact h2
    rw[aJ]at hp;have:=(R.pre.oH p hp).1;omega
 cases R.EH with
 |skip hw hv h1 h2 h3 h4 h5=>
  subst hv;have aJ:∀p∈xf.all,p.1≠i:=λp hp e1=>by
   obtain⟨l,hl,aR⟩:=R.l'.all;rw[hl,afv]at hp;rcases hp with hp|hp
   . have:=aR p hp;omega
   . rw[h2]at hp;have:=(R.pre.oH p hp).1;omega
  rw[ae]at W;rw[hw,<-ae]at W;rw[oE W I.rel,if_neg aw];refine⟨λf _=>trivial, ?_⟩;obtain⟨p1,_⟩:=mG I.rel (xo undef aP) (vh ρ);have bw:∀p∈xf.all,S' p.1->inc.testBit p.1=false->h.get p.2.1=some p.2.2:=λp hp hs hb=>I.m1 p hp (((hS _).1 hs).resolve_right (aJ p hp)) hb;have bB:∀j,inc.testBit j=true->S' j:=λj hj=>(hS j).2 (.inl (I.m7 j hj));by_cases hc:cls o.op=.effect
  . obtain⟨q1,q2,q3⟩:=I.at G R ho hi hm hc;subst q1;subst q2;subst q3;exact hK _ _ _ _ _ _ _ _ (I.next G R ho hi hm hS p1 (Fr.refl _ _ _ _) (λ_ _ _ hn=>hn) (I.fW.more G.f ho hc hi hm hS).1 (R.EK (h4 hc)) bw I.m3 I.m4 I.m5 I.mH bB)
  . exact hK _ _ _ _ _ _ _ _ (I.next G R ho hi hm hS p1 (Fr.refl _ _ _ _) (λ_ _ _ hn=>hn) (I.fW.same ho hc hS) I.iK bw I.m3 I.m4 I.m5 I.mH bB)
 |pure hh hw hc hr h1 h2 h3 h4=>
  rw[ae]at W;rw[hw,<-ae]at W;rw[oE W I.rel,if_pos rfl];have aT:cls o.op≠.alloc:=by rw[hc];decide
  have aE:aS e h t o.op=some (.val v h):=by rw[zY ah];exact MH hc hr h
  refine vi he bg bk (EL (s:={t,n:=s0.n,ds:=s0.ds,h}) aE aP) I.rel aG n λa1 w1 aO x1 f1=> ?_;have av:N<=h.next:=by rw[I.m5];exact I.mH
  refine hK _ _ _ _ _ _ _ _ (I.next G R ho hi hm hS x1 (f1.mono (Rm aj av)) (af av f1) (I.fW.same ho (by rw[hc];decide) hS) I.iK ?_ I.m3 I.m4 I.m5 I.mH λj hj=>(hS j).2 (.inl (I.m7 j hj)));exactλp hp hs hb=>I.m1 p hp (((hS _).1 hs).resolve_right λe1=>an p hp e1 aT) hb
 |read hh hw hc hr h1 h2 h3 h4=>
  obtain⟨L,bR,hL,aE⟩:=I.read G R ho hi hm hc hw hr;rw[ae]at W;rw[hw,<-ae]at W;rw[oE W I.rel,if_pos rfl];have aT:cls o.op≠.alloc:=by rw[hc];decide
  have ai:=I.sub hm hL;have aV:(cq H ((bz ops).getD i 0) L).next=h.next:=by rw[tA,I.m5]
  have bn:=MG hc aE;subst bn;rw[<-zY ah]at aE;have rel:dx e ρ {t,n:=s0.n,ds:=s0.ds,h:=cq H ((bz ops).getD i 0) L} a w:=⟨I.rel.g,I.rel.t,I.rel.d,I.rel.m.sub ai (afx aV.symm)⟩;refine vi he bg bk (EL (s:={t,n:=s0.n,ds:=s0.ds,h:=cq H ((bz ops).getD i 0) L}) aE aP) rel aG n λa1 w1 aO x1 f1=> ?_;have av:N<=(cq H ((bz ops).getD i 0) L).next:=by rw[tA];exact I.mH
  have f2:Fr base ρ (cq H ((bz ops).getD i 0) L) w aO (cq H ((bz ops).getD i 0) L) w1:=f1.mono (Rm aj av);obtain⟨y1,y2⟩:=bA.extend (u':=h) I.rel.m ai x1.m f2 (λk ob hk=>by
   cases hg:(cq H ((bz ops).getD i 0) L).get k with
   |none=>exact .inr ⟨hk,rfl⟩
   |some bb=>
    have:=ai k bb hg;have bJ:h.get k=some ob:=hk;rw[bJ]at this;cases this;exact .inl rfl) (Ey _) (afx aV)
  refine hK _ _ _ _ _ _ _ _ (I.next G R ho hi hm hS (h':=h) ⟨x1.g,x1.t,x1.d,y1⟩ y2 (af av f1) (I.fW.same ho (by rw[hc];decide) hS) I.iK ?_ I.m3 I.m4 I.m5 I.mH λj hj=>(hS j).2 (.inl (I.m7 j hj)));exactλp hp hs hb=>I.m1 p hp (((hS _).1 hs).resolve_right λe1=>an p hp e1 aT) hb
 |alloc ob f hw hc hr hv h1 h2 h3 h4=>
  subst hv;rw[ae]at W;rw[hw,<-ae]at W;rw[oE W I.rel,if_pos rfl];have bc:(i,id,ob)∈xf.all:=by
   obtain⟨l,hl,_⟩:=R.l'.all;rw[hl,h2];exact afG _ (Rb ..)
  have bE:=G.xq _ bc;have bo:inc.testBit i=false:=by
   cases hb:inc.testBit i with
   |false=>rfl
   |true=>exact absurd (I.m7 i hb) hi
  have az:∀p∈xf.all,p.2.1=id->p=(i,id,ob):=λp hp e1=>G.inj p _ hp bc e1;have slot:Slot base ρ h id ob (h.set id (some ob)):=
   ⟨I.m6 _ bc hi,bE.1,λj=>ab.bD _ _ _ _,Ey _,aff bE.2 (by rw[ab.aW,I.m5];exact I.mH)⟩
  rw[<-Ez ah]at hr;obtain⟨v',w1,aO,k1,k2,k3,k4,k5⟩:=Ea he (ds:=a.defers) I.rel.g I.rel.t I.rel.m hr slot;have bq:Oper.semAt (FF aZ).round a.eval o=execOp a.eval o:=Oper.semAt_eq _ _ _ λc bm=>by
   rw[MR bm]at hc;cases hc
  refine⟨λf _=>trivial, ?_⟩;have ha:(Act.mk a.tmps a.defers)=a:=rfl;rw[ha]at k1;rw[bq,k1,Oper.uponIn_value];have rel:dx e aO {t,n:=s0.n,ds:=s0.ds,h:=h.set id (some ob)} a w1:=⟨I.rel.g.mono k4.ext,I.rel.t.mono k4.ext,I.rel.d.mono λ_ _=>oD.mono k4.ext,k3⟩;obtain⟨p1,_⟩:=mG rel (xo (f id) aP) k2;refine hK _ _ _ _ _ _ _ _ (I.next G R ho hi hm hS p1 k4 (λp hp bL hn=> ?_) (I.fW.same ho (by rw[hc];decide) hS) I.iK (λp hp hs hb=> ?_) (λk bb hk=> ?_) I.m4 ?_ I.mH λj hj=>(hS j).2 (.inl (I.m7 j hj)))
  . rw[k5 _ λe1=>bL (by rw[az p hp e1])];exact hn
  . rw[ab.bD];by_cases e1:p.2.1=id
    . rw[if_pos e1,az p hp e1]
    . rw[if_neg e1];refine I.m1 p hp (((hS _).1 hs).resolve_right λe2=> ?_) hb;obtain⟨l,hl,aR⟩:=R.l'.all;rw[hl,afv]at hp;rcases hp with hp|hp
      . have:=aR p hp;omega
      . rw[h2,afe]at hp;rcases hp with rfl|hp
        . exact e1 rfl
        . have:=(R.pre.oH p hp).1;omega
  . rw[ab.bD];by_cases e1:k=id
    . rw[e1,I.m4 _ bc bo]at hk;cases hk
    . rw[if_neg e1];exact I.m3 k bb hk
  . rw[ab.aW];exact I.m5
 |effect s1 hw hc hr ht hh bM h1 h2 h3=>
  obtain⟨q1,q2,q3⟩:=I.at G R ho hi hm hc;subst q1;subst q2;subst q3;rw[ae]at W;rw[hw,<-ae]at W;rw[oE W I.rel,if_pos rfl];have aT:cls o.op≠.alloc:=by rw[hc];decide
  have hL:∀p∈x.ax,p∈xf.all/\ad.testBit p.1=false:=λp hp=>by
   obtain⟨q1,q2⟩:=(R.pre.ax p).1 hp;obtain⟨l,hl,_⟩:=R.l.all;exact⟨by rw[hl];exact afG _ q1,q2⟩
  have ai:=I.sub hm hL;have aV:(cq x.s.h ((bz ops).getD i 0) x.ax).next=h.next:=by rw[tA,I.m5]
  have ba:mD e cf rf ro o {t,n:=x.s.n,ds:=x.s.ds,h:=cq x.s.h ((bz ops).getD i 0) x.ax}=some {t:=jg t o.dst v,n:=x.s.n,ds:=x.s.ds,h:=x'.s.h}:=bM t ah;rw[R.pre.n,R.pre.ds]at ba;have rel:dx e ρ {t,n:=s0.n,ds:=s0.ds,h:=cq x.s.h ((bz ops).getD i 0) x.ax} a w:=⟨I.rel.g,I.rel.t,I.rel.d,I.rel.m.sub ai (afx aV.symm)⟩;refine vi he bg bk ba rel aG n λa1 w1 aO x1 f1=> ?_;have av:N<=(cq x.s.h ((bz ops).getD i 0) x.ax).next:=by rw[tA];exact I.mH
  have f2:Fr base ρ (cq x.s.h ((bz ops).getD i 0) x.ax) w aO x'.s.h w1:=f1.mono (Rm aj av);have bs:∀j,(yx ad ((bz ops).getD i 0)).testBit j=(ad.testBit j||((bz ops).getD i 0).testBit j):=λj=>afm _ _ _;have aA:∀p∈xf.all,(yx ad ((bz ops).getD i 0)).testBit p.1=false->(cq x.s.h ((bz ops).getD i 0) x.ax).get p.2.1=none:=λp hp hb=>by
   rw[bs,afF]at hb;cases hg:(cq x.s.h ((bz ops).getD i 0) x.ax).get p.2.1 with
   |none=>rfl
   |some ob=>
    rcases Ac hg with⟨q,g1,g2,g3,g4⟩|g1
    . have:=G.inj q p (hL q g1).1 hp g3;subst this;rw[hb.2]at g2;cases g2
    . rw[I.m4 p hp hb.1]at g1;cases g1
  have ao:∀p∈xf.all,(yx ad ((bz ops).getD i 0)).testBit p.1=false->x'.s.h.get p.2.1=none:=λp hp hb=>by
   cases hg:x'.s.h.get p.2.1 with
   |none=>rfl
   |some ob=>
    obtain⟨bb,h5⟩:=f1.bp _ _ hg (aff (G.xq p hp).2 av);rw[aA p hp hb]at h5;cases h5
  classical
  let L2:=xf.all.filter λp=>decide (S' p.1/\(yx ad ((bz ops).getD i 0)).testBit p.1=false)
  have aX:∀p,p∈L2↔p∈xf.all/\S' p.1/\(yx ad ((bz ops).getD i 0)).testBit p.1=false:=λp=>by
   simp only[L2,afj,decide_eq_true_eq]
  have aC:∀p q,p∈L2->q∈L2->p.2.1=q.2.1->p=q:=λp q hp hq=>G.inj p q ((aX p).1 hp).1 ((aX q).1 hq).1;obtain⟨y1,y2⟩:=bA.extend (u':=e8 x'.s.h L2) I.rel.m ai x1.m f2 (λk ob hk=>by
   rcases EG aC hk with⟨p,hp,rfl,rfl⟩|hk
   . obtain⟨g1,g2,g3⟩:=(aX p).1 hp;refine .inr ⟨?_,aA p g1 g3⟩;have g4:ad.testBit p.1=false:=by rw[bs,afF]at g3;exact g3.1
     exact I.m1 p g1 (((hS _).1 g2).resolve_right λe1=>an p g1 e1 aT) g4
   . exact .inl hk) (by
     rw[vn];show h.next<=x'.s.h.next;rw[<-aV];exact f1.next) (by rw[vn];exact Ey _)
  have aY:N<=x'.s.h.next:=Rm av f1.next;refine hK _ _ _ _ _ _ _ _ (I.next G R ho hi hm hS (h':=e8 x'.s.h L2) ⟨x1.g,x1.t,x1.d,y1⟩ y2 (af av f1) (I.fW.more G.f ho hc hi hm hS).1 (R.EK h3) (λp hp hs hb=>Ad aC p ((aX p).2 ⟨hp,hs,hb⟩)) (λk ob hk=> ?_) (λp hp hb=>ao p hp hb) (vn _ _) aY λj hj=> ?_)
  . by_cases hx:∃p∈L2,p.2.1=k
    . obtain⟨p,hp,rfl⟩:=hx;obtain⟨g1,g2,g3⟩:=(aX p).1 hp;rw[ao p g1 g3]at hk;cases hk
    . rw[Ae λp hp e1=>hx ⟨p,hp,e1⟩];exact hk
  . rw[bs,adr]at hj;rcases hj with hj|hj
    . exact(hS j).2 (.inl (I.m7 j hj))
    . exact(hS j).2 (.inl (hm j hj))
end
end Go.aD
end
noncomputable section
namespace Go.aD
variable {e:Env}
def rE(l:List Bool):Nat:=(l.filter (!·)).length
def Ag:∀(l:List Bool) (i:Nat),l[i]? =some false->rE (l.set i true)+1=rE l
 |[],_,h=>by simp at h
 |b::l,0,h=>by simp at h;subst h;simp[rE]
 |b::l,i+1,h=>by
  have:=Ag l i (by simpa using h);unfold rE at this⊢;rw[List.set_cons_succ,afd,afd]
  split
  . rw[Fj,Fj];omega
  . exact this
def MS{l:List Bool}(h:rE l=0){i:Nat}:l[i]? ≠some false:=by
 intro hi;have:=Ag l i hi;omega
def On(listed:Array Bool)(i:Nat):Prop:=listed.getD i false=true
def MT{listed:Array Bool}{i:Nat}(hi:i<listed.size)(j:Nat):On (listed.setIfInBounds i true) j↔On listed j\/j=i:=by
 unfold On;by_cases h:i=j
 . subst h;simp[hi]
 . rw[getD_set_ne false h];exact⟨.inl,λhh=>hh.resolve_right (Ne.symm h)⟩
def EM{listed:Array Bool}{i:Nat}(h:listed.getD i true=false):¬On listed i/\listed.toList[i]? =some false:=by
 rw[afy]at h;cases hg:listed[i]? with
 |none=>rw[hg]at h;cases h
 |some b=>
  rw[hg]at h;have:b=false:=h;subst this;refine⟨λho=> ?_,by simpa using hg⟩;unfold On at ho;rw[afy,hg]at ho;cases ho
def MU(he:e.Ok){dK:Nat->eP}{rf:gP}(az:∀i,nD e (dK i))(aA:vg e rf){ro aj:Option Nat}{ops:Array Oper}{s0:aM}{base N:Nat}{xf:cF}{fA:aH}{h0:ab}{w0:World}(aC:hY fA ro aj)
 (G:oI e dK rf ro ops.toList s0 base N xf) (n:Nat) (Q:Exit->Act->World->Prop)
 (hQ:∀ρ a w t h m inc H (S:Nat->Prop),(∀i,i<ops.size->S i)->Inv e ops.toList s0 base N xf S fA h0 w0 ρ a w t h m inc H->Q .normal a w):
 ∀(fuel:Nat) (listed:Array Bool) (ρ:aH) (a:Act) (w:World) (t:Tr Value) (h:ab) (m inc:Nat) (H:ab),listed.size=ops.size->rE listed.toList=fuel->
  Inv e ops.toList s0 base N xf (On listed) fA h0 w0 ρ a w t h m inc H->wpAnyIn (FF aj) n e.P .any ops Q fuel listed a w:=by
 have all:∀(listed:Array Bool),listed.size=ops.size->Region.ready .any ops listed=[]->∀i,i<ops.size->On listed i:=by
  intro listed hs hr i
  induction i using afM with
  |_ i ih=>
   intro hi;cases hg:listed.getD i false with
   |true=>exact hg
   |false=>
    exfalso;have ae:i∈Region.ready .any ops listed:=by
     rw[mem_ready];have aE:i<listed.size:=aa;refine⟨?_,ops[i],afg hi,λx hx hb=> ?_⟩
     . rw[afy,afg aE]at hg⊢;exact hg
     . have:=G.f.back i ops[i] (by simp[hi]) x (by simpa using hx) hb;exact ih x.on this (Xt this hi)
    rw[hr]at ae;cases ae
 intro fuel
 induction fuel with
 |zero=>
  intro listed ρ a w t h m inc H hs hu I;have hr:Region.ready .any ops listed=[]:=by
   cases hr:Region.ready .any ops listed with
   |nil=>rfl
   |cons i r=>
    have ae:i∈Region.ready .any ops listed:=by rw[hr];exact Rb ..
    rw[mem_ready]at ae;exact absurd (EM ae.1).2 (MS hu)
  exact⟨hr,hQ ρ a w t h m inc H _ (all listed hs hr) I⟩
 |succ fuel ih=>
  intro listed ρ a w t h m inc H hs hu I;refine⟨λhr=>hQ ρ a w t h m inc H _ (all listed hs hr) I,λi ae=> ?_⟩;rw[mem_ready]at ae;obtain⟨h1,o,ho,hb⟩:=ae;obtain⟨hi,hl⟩:=EM h1;have aG:ops.toList[i]? =some o:=by simpa using ho
  have aE:i<listed.size:=by
   have:=(HT.1 hl).1;simpa using this
  obtain⟨id,x,x',mc,aP,v,R⟩:=G.Af i o aG;have hm:∀j,((bz ops.toList).getD i 0).testBit j=true->On listed j:=λj hj=>by
   obtain⟨y,y1,y2,y3⟩:=ED aG hj;have hy:On listed y.on:=hb y (by simpa using y1) y2;rcases y3 with rfl|y3
   . exact hy
   . exact I.closed y.on hy j y3
  refine I.step he (az i) aA aC G R aG hi hm (MT aE) rfl n λai a' w' t' h' m' an H' I'=> ?_;refine ih (listed.setIfInBounds i true) ai a' w' t' h' m' an H' (by simpa using hs) ?_ I';have:=Ag listed.toList i hl;simp only[Array.toList_setIfInBounds];omega
def EN(he:e.Ok)(aJ:e.P.follows .mixedOrders=true){dK:Nat->eP}{rf:gP}(az:∀i,nD e (dK i))(aA:vg e rf)(ro:Option Nat)(ops:Array Oper)(s:aM)(aR:pW ops.toList (bz ops.toList)=true)(xf:cF)
 (hd:mE e dK rf ro ops.toList (ops.toList.zip (bz ops.toList)) 0 s.h.next {s:={s with h:={s.h with next:=s.h.next+(ops.toList.filter λo=>cls o.op==.alloc).length}},ax:=[],all:=[],bK:=[(0,{s.h with next:=s.h.next+(ops.toList.filter λo=>cls o.op==.alloc).length})],di:=[]}=some xf)
 (aS:(dc ops.toList).length=0\/nF e ops.toList xf xf.bK.reverse (dc ops.toList) (ops.toList.zip (bz ops.toList)) xf.di.reverse 0)
 (ρ:aH) (a:Act) (w:World) (aj:Option Nat) (n:Nat) (Q:Exit->Act->World->Prop) (id:Nat) (X:dx e ρ s a w) (aC:hY ρ ro aj)
 (hQ:∀a' w' ai,dx e ai {xf.s with h:=e8 xf.s.h xf.ax} a' w'->Fr s.h.next ρ s.h w ai (e8 xf.s.h xf.ax) w'->Q .normal a' w'):(Code.region id ops true).wpIn (FF aj) n e.P Q a w:=by
 have F:=MJ aR
 let N:=s.h.next+((ops.toList.filter λo=>cls o.op==.alloc).length)
 let H0:ab:={s.h with next:=N}
 let s0:aM:={s with h:=H0}
 let x0:cF:={s:=s0,ax:=[],all:=[],bK:=[(0,H0)],di:=[]}
 have aT:∀k,H0.get k=s.h.get k:=λ_=>rfl;have aK:p8 s0 s.h.next N ops.toList 0 s.h.next x0 0 0:=
  ⟨rfl,rfl,λ_ _=>rfl,⟨[],rfl⟩,rfl,⟨afk _,λp i k _=>⟨λh=>absurd h (afr _),λh=>absurd h (afr _)⟩⟩,λp=>(by simp[x0]),
   λp hp=>(by cases hp),λp q hp=>(by cases hp),λj hj=>(by simp at hj),rfl,Ey _,rfl⟩
 obtain⟨Af,l0,aV,mf,aW,pf⟩:=MP F (ops.toList.length) 0 s.h.next x0 0 0 aw (afk _) (by rw[List.drop_zero];exact hd) aK;have hN:aV=N:=by
  have:=pf.sum;rw[afw (Ey _)]at this;simpa using this
 have G:oI e dK rf ro ops.toList s0 s.h.next N xf:=by
  refine⟨F,λi o ho=> ?_,λd aX=> ?_,λp hp=> ?_,pf.inj,aS⟩
  . obtain⟨id,x,x',m,inc,v,r1,r2,r3,r4,r5⟩:=Af i o (afk _) ho;exact⟨id,x,x',m,inc,v,r1,r2,r3,r4,r5⟩
  . exact l0.t d λj o _ ho=>aX j o ho
  . obtain⟨_,g2,g3⟩:=pf.oH p hp;exact⟨g2,by rw[<-hN];exact g3⟩
 refine wpIn_region_any aJ ?_;have m0:bA ρ H0 {w with drawn:=w.drawn+1}:=(X.m.sub (g:=H0) (λi o h=>h) (afT _ _)).draw rfl;have f0:Fr s.h.next ρ s.h w ρ H0 {w with drawn:=w.drawn+1}:=(D0 (h:=s.h) (w:=w) (w':={w with drawn:=w.drawn+1}) rfl rfl rfl s.h.next).trans (Fr.less (λi o h=>h) (afT _ _));have ad:∀i,¬On (afI ops.size false) i:=λi h=>by
  unfold On at h;rw[afy]at h;cases hg:(afI ops.size false)[i]? with
  |none=>rw[hg]at h;cases h
  |some b=>
   rw[hg]at h;obtain⟨h1,h2⟩:=afh.1 hg;simp at h2;subst h2;cases h
 have af:∀p∈xf.all,ρ p.2.1=none:=λp hp=>by
  cases hx:ρ p.2.1 with
  |none=>rfl
  |some pl=>
   have h1:=X.m.hD _ _ hx;have h2:=(G.xq p hp).1;omega
 have I0:Inv e ops.toList s0 s.h.next N xf (On (afI ops.size false)) ρ s.h w ρ a {w with drawn:=w.drawn+1} s.t H0 0 0 H0:=by
  refine⟨λi hi=>absurd hi (ad i),λj o d hj=>absurd hj (ad j),λd _=>rfl,⟨X.g,X.t,X.d,m0⟩,f0,⟨afk _,λp i k _=>⟨λh=>absurd h (ad i),λh=>absurd h (afr _)⟩⟩,xr (q:=(0,H0)) (tl:=[]) (x:=x0) rfl rfl l0,
   λp _ hs=>absurd hs (ad _),λk o h=>h,λp hp _=> ?_,rfl,Ey _,λp hp _=>af p hp,λj hj=>by simp at hj⟩
  . cases hg:H0.get p.2.1 with
    |none=>rfl
    |some ob=>
     obtain⟨pl,g1,_⟩:=X.m.obj _ _ (show s.h.get p.2.1=some ob from hg);rw[af p hp]at g1;cases g1
 refine MU he az aA aC G n Q ?_ ops.size _ ρ a _ s.t H0 0 0 H0 aw ?_ I0
 . intro ai a' w' t' h' m' an H' S ah I;have e1:m'=mf:=I.fW.uniq pf.fW λp i k hp=>by
    obtain⟨o,q1,_⟩:=vl hp;have hl:=(HT.1 q1).1;exact⟨λ_=>hl,λ_=>ah i (by simpa using hl)⟩
   subst e1;obtain⟨tl,aY⟩:=pf.iK;have aL:=xr aY pf.len (jh.refl ops.toList ops.toList.length xf);rw[I.iK]at aL;cases aL;have ao:∀k ob,(e8 xf.s.h xf.ax).get k=some ob->h'.get k=some ob:=λk ob hk=>by
    rcases EG (λp q hp hq=>pf.inj p q ((pf.ax p).1 hp).1 ((pf.ax q).1 hq).1) hk with⟨p,hp,rfl,rfl⟩|hk
    . obtain⟨g1,g2⟩:=(pf.ax p).1 hp;exact I.m1 p g1 (ah p.1 (by have:=(pf.oH p g1).1;simpa using this)) g2
    . exact I.m3 k ob hk
   have aO:h'.next<=(e8 xf.s.h xf.ax).next:=by rw[vn];exact afx I.m5
   have ht:∀d,xf.s.t.get d=t'.get d:=λd=>by
    by_cases hw:∃(j:Nat) (o:Oper),ops.toList[j]? =some o/\o.dst=some d
    . obtain⟨j,o,hj,av⟩:=hw;exact(I.t1 j o d (ah j (by have:=(HT.1 hj).1;simpa using this)) hj av).symm
    . rw[G.t0 d λj o hj av=>hw ⟨j,o,hj,av⟩,I.t2 d λj o _ hj av=>hw ⟨j,o,hj,av⟩]
   refine hQ a' w' ai ⟨I.rel.g, ?_, ?_,I.rel.m.sub ao aO⟩ (I.fr.trans (Fr.less ao aO))
   . refine⟨?_,λd v hv=> ?_⟩
     . show a'.tmps.size=xf.s.n;rw[pf.n];exact I.rel.t.1
     . show d<xf.s.n/\_;rw[pf.n];exact I.rel.t.2 d v (by rw[<-hv];exact(ht d).symm)
   . show aU _ xf.s.ds _;rw[pf.ds];exact I.rel.d
 . simp[rE]
end Go.aD
end
noncomputable section
namespace Go.aD
def EO{α:Type}:∀(l:List α) (i:Nat) (t:Tr α) (j:Nat),(Tr.ofList l i t).get j=if i<=j/\j<i+l.length then l[j-i]? else t.get j
 |[],i,t,j=>by
  simp only[Tr.ofList,List.length_nil,Nat.add_zero];rw[if_neg aa]
 |a::l,i,t,j=>by
  simp only[Tr.ofList,EO l (i+1),Tr.bD,Fj];by_cases h1:i+1<=j/\j<i+1+l.length
  . rw[if_pos h1,if_pos aa];have:j-i=(j-(i+1))+1:=aa;rw[this];rfl
  . rw[if_neg h1];by_cases h2:j=i
    . subst h2;rw[if_pos rfl,if_pos aa];simp
    . rw[if_neg h2,if_neg aa]
def EP{α:Type}(a:Array α)(j:Nat):(Tr.ofList a.toList 0 .nil).get j=a[j]? :=by
 rw[EO];by_cases h:0<=j/\j<0+a.toList.length
 . rw[if_pos h];simp
 . rw[if_neg h,Tr.get_nil];have:a.size<=j:=by simp at h;omega
   simp[this]
def Ah(tt:Tr TypeInfo)(t:Nat):Option TypeDesc:=
 match tt.get t with
 |none=>none
 |some i=>match i.desc with
  |.named _ u=>match tt.get u with
   |none=>none
   |some j=>some j.desc
  |d=>some d
def xu(tt:Tr TypeInfo)(t:Nat):Option Nat:=
 match tt.get t with
 |none=>none
 |some i=>some i.size
def ER(tt:Tr TypeInfo)(t:Nat):Option Nat:=
 match tt.get t with
 |none=>none
 |some i=>some i.bytes
def ES(tt:Tr TypeInfo)(t:Nat):Option Value:=
 match tt.get t with
 |none=>none
 |some i=>match i.zero with
  |none=>none
  |some z=>bif plain z then some z else none
def ET(ft:Tr Func)(f:Nat):Option Func:=
 match ft.get f with
 |none=>none
 |some fn=>match fn.body with
  |none=>none
  |some _=>some fn
def oJ(P:Program)(tt:Tr TypeInfo)(ft:Tr Func)(idle:Nat->Bool)(oq:Nat)(j9:Nat->List Value->ab->Option (Value×ab)):Env:=
 {P,under:=Ah tt,size:=xu tt,bytes:=ER tt,zero:=ES tt,fn:=ET ft,idle,oq,j9}
def EU(tt:Tr TypeInfo)(l:List TypeInfo):Bool:=
 l.all λi=>match i.desc with
  |.struct fs=>fs.toList.all λf=>(tt.get f.type).isSome
  |_=>true
def EV(l:List Func):Bool:=l.all λfn=> !(fn.name== "runtime.NumGoroutine")
def MV{P:Program}{tt:Tr TypeInfo}{ft:Tr Func}(idle:Nat->Bool)(oq:Nat)(j9:Nat->List Value->ab->Option (Value×ab))(ht:tt=Tr.ofList P.types.toList 0 .nil)(hf:ft=Tr.ofList P.funcs.toList 0 .nil)
 (ad:EU tt P.types.toList=true) (ae:EV P.funcs.toList=true):(oJ P tt ft idle oq j9).Ok:=by
 have gi:∀t i,tt.get t=some i->P.types[t]? =some i:=λt i h=>by rw[ht,EP]at h;exact h
 have inf:∀t i,tt.get t=some i->P.info? t=some i:=λt i h=>by
  have h1:=gi t i h;have hl:=(afh.1 h1).1;show P.toTables.info? t=some i;unfold Tables.info?;rw[if_pos hl];exact h1
 have gf:∀f fn,ft.get f=some fn->P.funcs[f]? =some fn:=λf fn h=>by rw[hf,EP]at h;exact h
 refine⟨λt d h=> ?_,λt n h=> ?_,λt n h=> ?_,λt z h=> ?_,λt fs h f ah=> ?_,λf fn h=> ?_⟩
 . show P.underlying t=some d;simp only[oJ,Ah]at h;unfold Program.underlying;cases hi:tt.get t with
   |none=>simp[hi]at h
   |some i=>
    simp only[hi]at h;rw[inf t i hi];obtain⟨desc,sz,bt,zv,nm⟩:=i;simp only at h
    split at h
    . rename_i u hd
      split at h
      . cases h
      . rename_i j hj;cases h;simp[inf _ _ hj]
    . rename_i hd;cases h
      split
      . rename_i u _ heq;exact absurd (by cases heq;rfl) (hd _ _)
      . rename_i j heq;cases heq;rfl
      . rename_i heq;cases heq
 . simp only[oJ,xu]at h;cases hi:tt.get t with
   |none=>simp[hi]at h
   |some i=>simp only[hi,oY]at h;exact⟨i,inf t i hi,h⟩
 . simp only[oJ,ER]at h;cases hi:tt.get t with
   |none=>simp[hi]at h
   |some i=>simp only[hi,oY]at h;exact⟨i,inf t i hi,h⟩
 . simp only[oJ,ES]at h;cases hi:tt.get t with
   |none=>simp[hi]at h
   |some i=>
    simp only[hi]at h;cases hz:i.zero with
    |none=>simp[hz]at h
    |some z'=>
     simp only[hz]at h;obtain⟨h1,h2⟩:=cg h;cases h2;exact⟨i,inf t i hi,hz,h1⟩
 . simp only[oJ,Ah]at h;have key:∀k i,tt.get k=some i->i.desc=.struct fs->∃n,xu tt f.type=some n:=λk i hk hd=>by
    have hm:i∈P.types.toList:=by
     have:=gi k i hk;exact afH (i:=k) (by simpa using this)
    have:=afc.1 ad i hm;rw[hd]at this;have:=afc.1 this f ah;cases hx:tt.get f.type with
    |none=>rw[hx]at this;cases this
    |some j=>exact⟨j.size,by simp only[xu,hx]⟩
   cases hi:tt.get t with
   |none=>simp[hi]at h
   |some i=>
    simp only[hi]at h
    split at h
    . split at h
      . cases h
      . rename_i j hj;simp only[oY]at h;exact key _ j hj h
    . simp only[oY]at h;exact key t i hi h
 . simp only[oJ,ET]at h;cases hi:ft.get f with
   |none=>simp[hi]at h
   |some g=>
    simp only[hi]at h;cases hb:g.body with
    |none=>simp[hb]at h
    |some c=>
     simp only[hb,oY]at h;subst h;refine⟨gf f g hi,λargs w=> ?_⟩;have hm:g∈P.funcs.toList:=afH (i:=f) (by simpa using gf f g hi);have hn:=afc.1 ae g hm;simp only[afE]at hn;simp only[callFunc,Sem.run_bind,run_program,Result.andThen_ok,oJ,gf f g hi,hn,hb];rfl
structure vo where
 f:Nat
 args:List Value
 rows:List (Nat×List Value×Nat)
 res:Value
 top:Nat
def EW(h:ab):List (Nat×List Value×Nat)->Bool
 |[]=>true
 |(i,cs,ak)::r=>match h.get i with
  |some (.row cs' _ af)=>Nat.beq af ak&&(uZ.qZ 6 cs' cs&&EW h r)
  |_=>false
def MW(k:vo)(f:Nat)(args:List Value)(h:ab):Bool:=
 Nat.beq f k.f&&(uZ.qZ 6 args k.args&&(Nat.ble h.next k.top&&EW h k.rows))
def xw:List vo->Nat->List Value->ab->Option (Value×ab)
 |[],_,_,_=>none
 |k::r,f,args,h=>bif Nat.beq f k.f then(bif MW k f args h then some (k.res,h)else xw r f args h)else xw r f args h
variable {e:Env}
def nG(e:Env)(ro:Option Nat)(c:Code)(s:aM)(x:bu)(s':aM):Prop:=∀ρ a w ad n Q,dx e ρ s a w->hY ρ ro ad->
 (∀a' w' af,dx e af s' a' w'->Fr s.h.next ρ s.h w af s'.h w'->Q x.to a' w')->c.wpIn (FF ad) n e.P Q a w
def bU(e:Env)(f:FuncId)(args:List Value)(h:ab)(v:Value)(h':ab):Prop:=(∃fn,e.fn f=some fn)/\∀ρ w (ah:Array Value),Gl e ρ->bQ ρ args ah.toList->bA ρ h w->
 Calls e.P f ah w λen w'=>∃v' af,en=.returned v'/\aQ af v v'/\bA af h' w'/\Fr h.next ρ h w af h' w'
open Classical in
def xy(f:FuncId)(args:List Value)(h:ab)(v:Value)(h':ab):eP:=λf' a' g=>if f'=f/\a'=args/\g=h then some (v,h')else none
def MX{f:FuncId}{args:List Value}{h:ab}{v:Value}{h':ab}(hr:bU e f args h v h'):nD e (xy f args h v h'):=by
 intro f' a' g v' g' hc;unfold xy at hc
 split at hc
 . rename_i hk;obtain⟨rfl,rfl,rfl⟩:=hk;cases hc;exact hr
 . cases hc
def MY{f:FuncId}{args:List Value}{h:ab}{v:Value}{h':ab}:xy f args h v h' f args h=some (v,h'):=by
 unfold xy;rw[if_pos ⟨rfl,rfl,rfl⟩]
def mI:nD e (λ_ _ _=>none):=λ_ _ _ _ _ h=>by cases h
def xz:vg e (λ_ _ _=>none):=λ_ _ _ _ _ h=>by cases h
def gw(dst:Option Tmp)(v:Value)(s:aM)(K:aM->Prop):Prop:=∃s',fy s dst v=some s'/\K s'
def l7(e:Env)(ro:Option Nat)(o:Oper)(s:aM)(K:aM->Prop):Prop:=
 match aS e s.h s.t o.op with
 |none=>False
 |some (.val v h)=>gw o.dst v {s with h} K
 |some (.skip h)=>gw o.dst undef {s with h} K
 |some (.enter f args h)=>∃v h',bU e f args h v h'/\gw o.dst v {s with h:=h'} K
 |some (.round _ _ _)=>False
 |some (.defer f args cap h)=>ro=none/\gw o.dst undef {s with h,ds:={target:=.fn (.func f) cap.toArray,args:=args.toArray}::s.ds} K
def l7.cf{ro:Option Nat}{o:Oper}{s:aM}{K:aM->Prop}(h:l7 e ro o s K):∃cf s',nD e cf/\mD e cf (λ_ _ _=>none) ro o s=some s'/\K s':=by
 unfold l7 at h;simp only[wW]
 split at h
 . cases h
 . rename_i v h1 hr;obtain⟨s',h2,h3⟩:=h;exact⟨_,s',mI,by rw[hr];exact h2,h3⟩
 . rename_i h1 hr;obtain⟨s',h2,h3⟩:=h;exact⟨_,s',mI,by rw[hr];exact h2,h3⟩
 . rename_i f args h1 hr;obtain⟨v,h',hf,s',h2,h3⟩:=h;exact⟨_,s',MX hf,by rw[hr];simp only[MY];exact h2,h3⟩
 . cases h
 . rename_i f args cap h1 hr;obtain⟨rfl,s',h2,h3⟩:=h;exact⟨_,s',mI,by rw[hr];exact h2,h3⟩
def iy(e:Env)(ro:Option Nat)(ops:List Oper):List Oper->aM->(aM->Prop)->Prop
 |[],s,K=>K s
 |o::r,s,K=>match cZ ops s o with
  |none=>False
  |some true=>l7 e ro o s λs=>iy e ro ops r s K
  |some false=>gw o.dst undef s λs=>iy e ro ops r s K
def MZ(he:e.Ok){ro:Option Nat}{ops:Array Oper}{K:aM->Prop}:∀(l:List Oper) (k:Nat) (s:aM),ops.toList.drop k=l->iy e ro ops.toList l s K->∃s',K s'/\∀ad n Q (ρ:aH) (a:Act) (w:World),dx e ρ s a w->hY ρ ro ad->
 (∀a' w' af,dx e af s' a' w'->Fr s.h.next ρ s.h w af s'.h w'->Q .normal a' w')->wpOpsIn (FF ad) n e.P ops Q ((afz ops.size).drop k) a w:=by
 intro l
 induction l with
 |nil=>
  intro k s hl h;have hk:ops.size<=k:=by
   have:=congrArg List.length hl;simp at this;omega
  refine⟨s,h,λad n Q ρ a w x _ hQ=> ?_⟩;rw[afw (by simpa using hk)];exact hQ a w ρ x (Fr.refl _ _ _ _)
 |cons o r ih=>
  intro k s hl h;have hk:k<ops.size:=by
   rcases afD k ops.size with h|h
   . exact h
   . rw[afw (by simpa using h)]at hl;cases hl
  have ba:ops[k]? =some o:=by
   have:(ops.toList.drop k)[0]? =some o:=by rw[hl];rfl
   simpa[afS]using this
  have hr:ops.toList.drop (k+1)=r:=by rw[<-List.drop_drop,hl];rfl
  have av:(afz ops.size).drop k=k::(afz ops.size).drop (k+1):=by
   rw[aft (by simpa using hk)];simp
  rw[av];simp only[iy]at h;simp only[wpOpsIn,ba];cases hw:cZ ops.toList s o with
  |none=>simp[hw]at h
  |some b=>
   cases b with
   |true=>
    simp only[hw]at h;obtain⟨cf,s1,aP,hs,h⟩:=h.cf;obtain⟨s2,h2,h3⟩:=ih (k+1) s1 hr h;refine⟨s2,h2,λad n Q ρ a w x ae hQ=> ?_⟩;rw[oE hw x,if_pos rfl];refine vi he aP xz hs x ae n λa1 w1 ai x1 f1=> ?_;refine h3 ad n Q ai a1 w1 x1 (ae.mono f1.ext) λa2 w2 az x2 f2=> ?_;exact hQ a2 w2 az x2 (f1.trans (f2.mono f1.next))
   |false=>
    simp only[hw]at h;obtain⟨s1,hs,h⟩:=h;obtain⟨s2,h2,h3⟩:=ih (k+1) s1 hr h;refine⟨s2,h2,λad n Q ρ a w x ae hQ=> ?_⟩;rw[oE hw x,if_neg aw];refine⟨λf _=>trivial, ?_⟩;obtain⟨p1,p2⟩:=mG x hs (vh _);refine h3 ad n Q ρ _ w p1 ae λa2 w2 az x2 f2=> ?_;rw[p2]at f2;exact hQ a2 w2 az x2 f2
def mJ(e:Env)(ro:Option Nat)(ops:List Oper)(i id m:Nat)(o:Oper)(x:cF)(K:cF->Prop):Prop:=
 match cZ ops x.s o with
 |none=>False
 |some false=>match cls o.op with
  |.effect=>gw o.dst undef x.s λs=>K {x with s,bK:=((x.bK.head?.map (·.1)).getD 0,s.h)::x.bK}
  |.bad=>False
  |_=>gw o.dst undef x.s λs=>K {x with s}
 |some true=>match cls o.op with
  |.pure=>match aS e x.s.h x.s.t o.op with
   |some (.val v _)=>gw o.dst v x.s λs=>K {x with s}
   |_=>False
  |.read=>match aS e (cq x.s.h m x.ax) x.s.t o.op with
   |some (.val v _)=>gw o.dst v x.s λs=>K {x with s}
   |_=>False
  |.alloc=>match cU e x.s.t o.op with
   |none=>False
   |some (ob,f)=>gw o.dst (f id) x.s λs=>K {x with s,ax:=(i,id,ob)::x.ax,all:=(i,id,ob)::x.all}
  |.effect=>l7 e ro o {x.s with h:=cq x.s.h m x.ax} λs=>K {x with s,ax:=x.ax.filter λp=> !m.testBit p.1,bK:=(yx ((x.bK.head?.map (·.1)).getD 0) m,s.h)::x.bK}
  |.bad=>False
def mJ.cf{ro:Option Nat}{ops:List Oper}{i id m:Nat}{o:Oper}{x:cF}{K:cF->Prop}(h:mJ e ro ops i id m o x K):∃cf x',nD e cf/\tg e cf (λ_ _ _=>none) ro ops i id m o x=some x'/\K x':=by
 unfold mJ at h;unfold tg;cases hw:cZ ops x.s o with
 |none=>simp[hw]at h
 |some b=>
  cases b with
  |false=>
   simp only[hw]at h⊢;cases hc:cls o.op with
   |effect=>simp only[hc]at h;obtain⟨s,h1,h2⟩:=h;exact⟨_,_,mI,by rw[h1],h2⟩
   |bad=>simp[hc]at h
   |pure=>simp only[hc]at h;obtain⟨s,h1,h2⟩:=h;exact⟨_,_,mI,by rw[h1],h2⟩
   |read=>simp only[hc]at h;obtain⟨s,h1,h2⟩:=h;exact⟨_,_,mI,by rw[h1],h2⟩
   |alloc=>simp only[hc]at h;obtain⟨s,h1,h2⟩:=h;exact⟨_,_,mI,by rw[h1],h2⟩
  |true=>
   simp only[hw]at h⊢;cases hc:cls o.op with
   |pure=>
    simp only[hc]at h⊢
    split at h
    . rename_i v h1 hr;obtain⟨s,h2,h3⟩:=h;exact⟨_,_,mI,by rw[hr];simp only;rw[h2];rfl,h3⟩
    . cases h
   |read=>
    simp only[hc]at h⊢
    split at h
    . rename_i v h1 hr;obtain⟨s,h2,h3⟩:=h;exact⟨_,_,mI,by rw[hr];simp only;rw[h2];rfl,h3⟩
    . cases h
   |alloc=>
    simp only[hc]at h⊢
    split at h
    . cases h
    . rename_i ob f hr;obtain⟨s,h2,h3⟩:=h;exact⟨_,_,mI,by rw[hr];simp only;rw[h2];rfl,h3⟩
   |effect=>
    simp only[hc]at h⊢;obtain⟨cf,s,aP,h2,h3⟩:=h.cf;exact⟨cf,_,aP,by rw[h2],h3⟩
   |bad=>simp[hc]at h
def kP(e:Env)(ro:Option Nat)(ops:List Oper):List (Oper×Nat)->Nat->Nat->cF->(cF->Prop)->Prop
 |[],_,_,x,K=>K x
 |(o,m)::r,i,id,x,K=>mJ e ro ops i id m o {x with di:=x.s.t::x.di} λx=>kP e ro ops r (i+1) (nextId o id) x K
def EX{ro:Option Nat}{ops:List Oper}{dK cfs':Nat->eP}{rf:gP}:∀(l:List (Oper×Nat)) (i id:Nat) (x:cF),(∀j,i<=j->dK j=cfs' j)->mE e dK rf ro ops l i id x=mE e cfs' rf ro ops l i id x
 |[],_,_,_,_=>rfl
 |(o,m)::r,i,id,x,h=>by
  simp only[mE,h i (Ey _)]
  split
  . rfl
  . exact EX r (i+1) _ _ λj hj=>h j aa
def kP.dK{ro:Option Nat}{ops:List Oper}{K:cF->Prop}:∀(l:List (Oper×Nat)) (i id:Nat) (x:cF),kP e ro ops l i id x K->∃(dK:Nat->eP) (x':cF),(∀j,nD e (dK j))/\mE e dK (λ_ _ _=>none) ro ops l i id x=some x'/\K x'
 |[],_,_,x,h=>⟨λ_ _ _ _=>none,x,λ_=>mI,rfl,h⟩
 |(o,m)::r,i,id,x,h=>by
  obtain⟨cf,x1,h1,h2,h3⟩:=mJ.cf (h:mJ e ro ops i id m o {x with di:=x.s.t::x.di} _);obtain⟨dK,x2,h4,h5,h6⟩:=kP.dK r (i+1) _ x1 h3;refine⟨λj=>if j=i then cf else dK j,x2,λj=> ?_, ?_,h6⟩
  . by_cases hj:j=i
    . simp only[hj,if_true];exact h1
    . simp only[hj,if_false];exact h4 j
  . simp only[mE,if_true,h2];rw[EX r (i+1) _ x1 (cfs':=dK) λj hj=>by rw[if_neg aa]];exact h5
def l8(e:Env)(ro:Option Nat)(ops:List Oper)(s:aM)(K:aM->Prop):Prop:=
 pW ops (bz ops)=true/\kP e ro ops (ops.zip (bz ops)) 0 s.h.next {s:={s with h:={s.h with next:=s.h.next+(ops.filter λo=>cls o.op==.alloc).length}},ax:=[],all:=[],bK:=[(0,{s.h with next:=s.h.next+(ops.filter λo=>cls o.op==.alloc).length})],di:=[]}
  λx=>((dc ops).length=0\/nF e ops x x.bK.reverse (dc ops) (ops.zip (bz ops)) x.di.reverse 0)/\K {x.s with h:=e8 x.s.h x.ax}
def nH(e:Env)(ro:Option Nat)(c:Code)(x:bu)(s':aM):Nat->aM->Prop
 |0,s=>nG e ro c s x s'/\x≠.normal
 |n+1,s=>∃s1,nG e ro c s .normal s1/\nH e ro c x s' n s1
def nH.runs{ro:Option Nat}{c:Code}{x:bu}{s':aM}:∀(k:Nat) (s:aM),nH e ro c x s' k s->nG e ro (.loop c) s x s':=by
 intro k s hk ρ a w ad n Q X ae hQ;have key:∀k (s:aM),nH e ro c x s' k s->∀(ρ:aH) (a:Act) (w:World),dx e ρ s a w->hY ρ ro ad->(∀a' w' af,dx e af s' a' w'->Fr s.h.next ρ s.h w af s'.h w'->Q x.to a' w')->c.roundsIn (FF ad) n e.P Q (k+1) a w:=by
  intro k
  induction k with
  |zero=>
   intro s hk ρ a w X ae hQ;rw[roundsIn_succ];obtain⟨h1,h2⟩:=hk;refine h1 ρ a w ad n _ X ae λa1 w1 ai q1 f1=> ?_;cases x with
   |normal=>exact absurd rfl h2
   |exit id=>exact hQ a1 w1 ai q1 f1
   |ret=>exact hQ a1 w1 ai q1 f1
  |succ k ih=>
   intro s hk ρ a w X ae hQ;rw[roundsIn_succ];obtain⟨s1,h1,h2⟩:=hk;refine h1 ρ a w ad n _ X ae λa1 w1 ai q1 f1=> ?_;exact ih s1 h2 ai a1 w1 q1 (ae.mono f1.ext) λa2 w2 az q2 f2=>hQ a2 w2 az q2 (f1.trans (f2.mono f1.next))
 exact wpIn_loop_rounds (k+1) (key k s hk ρ a w X ae hQ)
def RQ(e:Env)(ro:Option Nat):Code->aM->(bu->aM->Prop)->Prop
 |.skip,s,K=>K .normal s
 |.label _,s,K=>K .normal s
 |.exit id,s,K=>K (.exit id) s
 |.ret,s,K=>K .ret s
 |.scope c,s,K=>RQ e ro c s K
 |.region _ ops true,s,K=>l8 e ro ops.toList s (K .normal)
 |.region _ ops false,s,K=>iy e ro ops.toList ops.toList s (K .normal)
 |.seq a b,s,K=>RQ e ro a s λx s1=>match x with|.normal=>RQ e ro b s1 K|.exit i=>K (.exit i) s1|.ret=>K .ret s1
 |.cond c a b,s,K=>∃v,aE e s.t c=some (.bool v)/\(v=true->RQ e ro a s K)/\(v=false->RQ e ro b s K)
 |.block id c,s,K=>RQ e ro c s λx s1=>match x with|.normal=>K .normal s1|.exit i=>if i=id then K .normal s1 else K (.exit i) s1|.ret=>K .ret s1
 |.loop c,s,K=>∃x s',nG e ro (.loop c) s x s'/\K x s'
 |_,_,_=>False
def RQ.runs(he:e.Ok)(aA:e.P.follows .mixedOrders=true){ro:Option Nat}:∀(c:Code) (s:aM) (K:bu->aM->Prop),RQ e ro c s K->∃x s',nG e ro c s x s'/\K x s':=by
 intro c
 induction c with
 |skip=>exactλs K h=>⟨.normal,s,λρ a w ad n Q X ae hQ=>wpIn_skip (hQ a w ρ X (Fr.refl _ _ _ _)),h⟩
 |label l=>exactλs K h=>⟨.normal,s,λρ a w ad n Q X ae hQ=>wpIn_label (hQ a w ρ X (Fr.refl _ _ _ _)),h⟩
 |exit id=>exactλs K h=>⟨.exit id,s,λρ a w ad n Q X ae hQ=>wpIn_exit (hQ a w ρ X (Fr.refl _ _ _ _)),h⟩
 |ret=>exactλs K h=>⟨.ret,s,λρ a w ad n Q X ae hQ=>wpIn_ret (hQ a w ρ X (Fr.refl _ _ _ _)),h⟩
 |scope c ih=>
  intro s K h;obtain⟨x,s',h1,h2⟩:=ih s K h;refine⟨x,s',λρ a w ad n Q X ae hQ=>zU (h1 ρ a w ad n _ X ae λa' w' af x' f'=> ?_),h2⟩;have:=hQ a' w' af x' f';cases x<;>exact this
 |region id ops draw=>
  intro s K h;cases draw with
  |true=>
   obtain⟨h1,h2⟩:=(h:l8 e ro ops.toList s (K .normal));obtain⟨dK,x,h3,h4,h5,h6⟩:=h2.dK;exact⟨_,_,λρ a w ad n Q X ae hQ=>EN he aA h3 xz ro ops s h1 x h4 h5 ρ a w ad n Q id X ae hQ,h6⟩
  |false=>
   have h0:∃s',K .normal s'/\∀ad n Q (ρ:aH) (a:Act) (w:World),dx e ρ s a w->hY ρ ro ad->
    (∀a' w' af,dx e af s' a' w'->Fr s.h.next ρ s.h w af s'.h w'->Q .normal a' w')->wpOpsIn (FF ad) n e.P ops Q ((afz ops.size).drop 0) a w:=by
    have:iy e ro ops.toList (ops.toList.drop 0) s (K .normal):=h;exact MZ he _ 0 s rfl this
   obtain⟨s',h1,h2⟩:=h0;refine⟨_,s',λρ a w ad n Q X ae hQ=>wpIn_region ?_,h1⟩;have:=h2 ad n Q ρ a w X ae hQ;simpa using this
 |seq p q aR aT=>
  intro s K h;obtain⟨x,s1,h1,h2⟩:=aR s _ h;cases x with
  |normal=>
   obtain⟨x2,s2,h3,h4⟩:=aT s1 K h2;exact⟨x2,s2,λρ a w ad n Q X ae hQ=>wpIn_seq (h1 ρ a w ad n _ X ae λa1 w1 ai q1 f1=>h3 ai a1 w1 ad n Q q1 (ae.mono f1.ext) λa2 w2 az q2 f2=>hQ a2 w2 az q2 (f1.trans (f2.mono f1.next))),h4⟩
  |exit i=>exact⟨_,s1,λρ a w ad n Q X ae hQ=>wpIn_seq (h1 ρ a w ad n _ X ae λa1 w1 ai q1 f1=>hQ a1 w1 ai q1 f1),h2⟩
  |ret=>exact⟨_,s1,λρ a w ad n Q X ae hQ=>wpIn_seq (h1 ρ a w ad n _ X ae λa1 w1 ai q1 f1=>hQ a1 w1 ai q1 f1),h2⟩
 |cond c p q aR aT=>
  intro s K h;obtain⟨v,hv,ht,hf⟩:=h;cases v with
  |true=>
   obtain⟨x,s1,h1,h2⟩:=aR s K (ht rfl);exact⟨x,s1,λρ a w ad n Q X ae hQ=>wpIn_cond_true (kl X.g X.t hv a.defers).oB (h1 ρ a w ad n Q X ae hQ),h2⟩
  |false=>
   obtain⟨x,s1,h1,h2⟩:=aT s K (hf rfl);exact⟨x,s1,λρ a w ad n Q X ae hQ=>wpIn_cond_false (kl X.g X.t hv a.defers).oB (h1 ρ a w ad n Q X ae hQ),h2⟩
 |block id c ih=>
  intro s K h;obtain⟨x,s1,h1,h2⟩:=ih s _ h;cases x with
  |normal=>exact⟨.normal,s1,λρ a w ad n Q X ae hQ=>wpIn_block (h1 ρ a w ad n _ X ae λa1 w1 ai q1 f1=>hQ a1 w1 ai q1 f1),h2⟩
  |ret=>exact⟨.ret,s1,λρ a w ad n Q X ae hQ=>wpIn_block (h1 ρ a w ad n _ X ae λa1 w1 ai q1 f1=>hQ a1 w1 ai q1 f1),h2⟩
  |exit i=>
   by_cases aV:i=id
   . subst aV;simp only[if_true]at h2;refine⟨.normal,s1,λρ a w ad n Q X ae hQ=>wpIn_block (h1 ρ a w ad n _ X ae λa1 w1 ai q1 f1=> ?_),h2⟩;show Exit.inBlock _ Q (.exit i) a1 w1;simp only[Exit.inBlock,if_true];exact hQ a1 w1 ai q1 f1
   . simp only[aV,if_false]at h2;refine⟨.exit i,s1,λρ a w ad n Q X ae hQ=>wpIn_block (h1 ρ a w ad n _ X ae λa1 w1 ai q1 f1=> ?_),h2⟩;show Exit.inBlock _ Q (.exit i) a1 w1;simp only[Exit.inBlock,aV,if_false];exact hQ a1 w1 ai q1 f1
 |loop c ih=>exactλs K h=>h
 |_=>exactλs K h=>h.elim
open Classical in
def p9(c:Code)(s:aM)(x:bu)(s':aM):ox:=λro c' s1=>if ro=none/\c'=c/\s1=s then some (x,s')else none
def Ai{c:Code}{s:aM}{x:bu}{s':aM}(h:nG e none c s x s'):Et e (p9 c s x s'):=by
 intro ro c' s1 x1 s2 hc;unfold p9 at hc
 split at hc
 . rename_i hk;obtain⟨rfl,rfl,rfl⟩:=hk;cases hc;exact h
 . cases hc
def jM:List Value->Value
 |[v]=>v
 |vs=>.tuple vs.toArray
def oK(e:Env)(rs:List ResultVar)(K:Value->ab->Prop)(x:bu)(s:aM):Prop:=
 (∀i,x≠.exit i)/\∃h1 vs,kL e s.ds s.h=some h1/\gZ e {s with h:=h1} rs=some vs/\K (jM vs) h1
def bU.of(he:e.Ok)(aA:e.P.follows .mixedOrders=true)(aG:Idle e){f:FuncId}{fn:Func}{c:Code}{args:List Value}{h:ab}{K:Value->ab->Prop}(bb:e.fn f=some fn)(hb:fn.body=some c)
 (hq:RQ e none c {t:=gQ args,n:=args.length+(fn.ntmps-args.length),ds:=[],h} (oK e fn.results.toList K)):∃v h',bU e f args h v h'/\K v h':=by
 obtain⟨x,s',h1,hx,h2,vs,h3,h4,h5⟩:=hq.runs he aA;refine⟨jM vs,h2, ?_,h5⟩;have:=zW he aG (Ai h1) f args h (jM vs) h2 (by
  unfold pX;simp only[bb,hb];have:p9 c {t:=gQ args,n:=args.length+(fn.ntmps-args.length),ds:=[],h} x s' none c {t:=gQ args,n:=args.length+(fn.ntmps-args.length),ds:=[],h}=some (x,s'):=by
   unfold p9;rw[if_pos ⟨rfl,rfl,rfl⟩]
  rw[this];cases x with
  |exit i=>exact absurd rfl (hx i)
  |normal=>
   simp only[h3,h4]
   match vs with
   |[]=>rfl
   |[v]=>rfl
   |_::_::_=>rfl
  |ret=>
   simp only[h3,h4]
   match vs with
   |[]=>rfl
   |[v]=>rfl
   |_::_::_=>rfl)
 exact this
def bU.drop{f:FuncId}{args:List Value}{h:ab}{v:Value}{h1 g:ab}(hr:bU e f args h v h1)(hs:∀i o,g.get i=some o->h1.get i=some o)(hn:h1.next<=g.next):bU e f args h v g:=by
 refine⟨hr.1,λρ w ah hg ha x=>(hr.2 ρ w ah hg ha x).mono ?_⟩;rintro en w' ⟨v',af,rfl,q1,q2,q3⟩;exact⟨v',af,rfl,q1,q2.sub hs hn,q3.trans (Fr.less hs hn)⟩
def kh.back{ρ af:aH}(hx:Ext ρ af){f g g':Fn}(h:kh ρ f g)(h':kh af f g'):kh ρ f g':=by
 cases h with
 |func f=>cases h';exact .func f
 |yield hp=>cases h' with|yield ao=>rw[hx _ _ hp]at ao;cases ao;exact .yield hp
def aQ.back{ρ af:aH}(hx:Ext ρ af){v u:Value}(h:aQ ρ v u):∀{v':Value},aQ af v v'->aQ ρ v v':=by
 induction h with
 |bool b=>intro v' h';cases h';exact .bool b
 |int k n=>intro v' h';cases h';exact .int k n
 |string s=>intro v' h';cases h';exact .string s
 |rj=>intro v' h';cases h';exact .rj
 |ptr hp=>intro v' h';cases h' with|ptr ao=>rw[hx _ _ hp]at ao;cases ao;exact .ptr hp
 |ki l k=>intro v' h';cases h';exact .ki l k
 |sl hp hs=>intro v' h';cases h' with|sl ao aJ=>rw[hx _ _ hp]at ao;cases ao;exact .sl hp aJ
 |oy=>intro v' h';cases h';exact .oy
 |map hp=>intro v' h';cases h' with|map ao=>rw[hx _ _ hp]at ao;cases ao;exact .map hp
 | @func fn aY a a' c c' hf h1 g1 h2 g2 bc bd=>
  intro v' h';cases h' with
  | @func _ Aj _ a2 _ c2 bf aj bg an bk=>
   refine .func (hf.back hx bf) aj (λi x x' hi aC=> ?_) an (λi x x' hi aC=> ?_)
   . have hl:=(afh.1 hi).1;exact bc i x _ hi (afg aa) (bg i x x' hi aC)
   . have hl:=(afh.1 hi).1;exact bd i x _ hi (afg aa) (bk i x x' hi aC)
 |nilFunc=>intro v' h';cases h';exact .nilFunc
 |iface _ ih=>intro v' h';cases h' with|iface h1=>exact .iface (ih h1)
 |nilIface=>intro v' h';cases h';exact .nilIface
 | @agg a a' hs hh ih=>
  intro v' h';cases h' with
  | @agg _ a2 aJ aW=>
   refine .agg aJ λi x x' hi aC=> ?_;have hl:=(afh.1 hi).1;exact ih i x _ hi (afg aa) (aW i x x' hi aC)
 | @tuple a a' hs hh ih=>
  intro v' h';cases h' with
  | @tuple _ a2 aJ aW=>
   refine .tuple aJ λi x x' hi aC=> ?_;have hl:=(afh.1 hi).1;exact ih i x _ hi (afg aa) (aW i x x' hi aC)
def bQ.back{ρ af:aH}(hx:Ext ρ af):∀{x y y':List Value},bQ ρ x y->bQ af x y'->bQ ρ x y'
 |_,_,_,.nil,.nil=>.nil
 |_,_,_,.cons h1 h2,.cons aj an=>.cons (h1.back hx aj) (bQ.back hx h2 an)
def EY{ρ af:aH}(hx:Ext ρ af):∀{x y y':List MapEntry},aU (eM ρ) x y->aU (eM af) x y'->aU (eM ρ) x y'
 |_,_,_,.nil,.nil=>.nil
 |_,_,_,.cons h1 h2,.cons aj an=>.cons ⟨aj.key,aj.plain,h1.val.back hx aj.val,aj.born⟩ (EY hx h2 an)
def iv.back{ρ af:aH}{w w':World}{pl:Pl}{o:bR}(hx:Ext ρ af)(h:iv ρ w pl o)(h':iv af w' pl o):iv ρ w' pl o:=by
 cases o with
 |row cs wr ak=>
  obtain⟨c,el,fz,h1,h2,h3,h4,h5,h6,h7,h8⟩:=h;obtain⟨c',bl,bm,aj,an,aK,bn,bo,bq,bs,aZ⟩:=h';exact⟨c',bl,bm,aj,an,aK,bn,bo,bq,bs,bQ.back hx h8.1 aZ.1,aZ.2⟩
 |map es clock=>
  obtain⟨h0,bD,h1,h2⟩:=h;obtain⟨aL,aX,aj,an⟩:=h';exact⟨aL,aX,aj,EY hx h2 an⟩
 |cC m since seen last=>
  obtain⟨h0,m1,h1,h2⟩:=h;obtain⟨aL,bt,aj,an⟩:=h';exact⟨aL,bt,aj,h2.back hx an⟩
 |eO s pos=>exact h'
 |loop st ax t n params bX body fJ=>
  obtain⟨h0,fn,tmps,bw,h1,h2,h3⟩:=h;obtain⟨aL,aY,aO,bB,aj,an,aK⟩:=h';rw[hx _ _ h1]at aj;cases aj;refine⟨aL,aY,aO,bw,h1,⟨an.1,λi v hv=> ?_⟩,aK⟩;obtain⟨a1,a2⟩:=h2.2 i v hv;obtain⟨b1,b2⟩:=an.2 i v hv;exact⟨b1,a2.back hx b2⟩
 |fJ e=>exact h'
def bU.pure{f:FuncId}{args:List Value}{h:ab}{v:Value}{h1:ab}(hr:bU e f args h v h1)(hs:∀i o,h.get i=some o->h1.get i=some o)
 (hv:∀ρ w (ah:List Value),Gl e ρ->bQ ρ args ah->bA ρ h w->∃u,aQ ρ v u):bU e f args h v h:=by
 refine⟨hr.1,λρ w ah hg ha x=>(hr.2 ρ w ah hg ha x).mono ?_⟩;rintro en w' ⟨v',af,rfl,q1,q2,q3⟩;obtain⟨u,hu⟩:=hv ρ w ah.toList hg ha x;refine⟨v',ρ,rfl,hu.back q3.ext q1,⟨x.hD,λi o ho=> ?_,x.sep⟩,⟨Ext.refl _,q3.os,q3.output,q3.size,q3.frozen,q3.kept,λi o pl a b c=>.inl ⟨i,o,pl,a,b,c,rfl⟩,λ_ _ a _=>a,λ_ a b=>absurd a b,λ_ o a _=>⟨o,a⟩,Ey _⟩⟩
 . obtain⟨pl,h2,h3⟩:=x.obj i o ho;obtain⟨pl',an,aK⟩:=q2.obj i o (hs i o ho);rw[q3.ext _ _ h2]at an;cases an;exact⟨pl,h2,h3.back q3.ext aK⟩
end Go.aD
end
noncomputable section
namespace Go.aD
variable {e:Env} {ro:Option Nat}
def rd(h:ab)(b o:Nat):Option Value:=
 match h.get b with
 |some (.row cs _ _)=>cs[o]?
 |_=>none
def ji(h:ab)(b o:Nat):Nat->Option (List Value)
 |0=>some []
 |n+1=>match rd h b o with
  |none=>none
  |some v=>(ji h b (o+1) n).map (v::·)
def EZ{h:ab}{b:Nat}{cs:List Value}{wr:Bool}{ak:Nat}(hg:h.get b=some (.row cs wr ak)):∀(n o:Nat) (l:List Value),ji h b o n=some l->(cs.drop o).take n=l/\l.length=n
 |0,o,l,hl=>by simp only[ji,oY]at hl;subst hl;simp
 |n+1,o,l,hl=>by
  simp only[ji,rd,hg]at hl;cases hc:cs[o]? with
  |none=>simp[hc]at hl
  |some v=>
   simp only[hc,afU]at hl;obtain⟨r,h1,rfl⟩:=hl;obtain⟨h2,h3⟩:=EZ hg n (o+1) r h1;obtain⟨ad,hv⟩:=HT.1 hc;rw[aft ad,List.take_succ_cons,h2,hv];exact⟨rfl,by simp[h3]⟩
def E0{h:ab}{b o n:Nat}{l:List Value}{sp:Option Nat}(hl:ji h b o (n+1)=some l):fV h ⟨b,o,sp⟩ (n+1)=some l:=by
 unfold fV;simp only;cases hg:h.get b with
 |none=>simp[ji,rd,hg]at hl
 |some ob=>
  cases ob with
  |row cs wr ak=>
   obtain⟨h1,h2⟩:=EZ hg _ _ _ hl;simp only[h1,h2,Nat.beq_refl,cond_true]
  |_=>simp[ji,rd,hg]at hl
def c8{h:ab}{b o:Nat}{cs:List Value}{wr:Bool}{ak:Nat}(hg:h.get b=some (.row cs wr ak)):rd h b o=cs[o]? :=by unfold rd;rw[hg]
def mK(h:ab)(b o:Nat)(vs:List Value):Option ab:=
 match h.get b with
 |some (.row cs true ak)=>if o+vs.length<=cs.length/\vs.all dF=true then some (h.set b (some (.row (dN cs o vs) true ak)))else none
 |_=>none
def Ak{h:ab}{b o:Nat}{v:Value}{vs:List Value}{sp:Option Nat}:kc h ⟨b,o,sp⟩ (v::vs)=mK h b o (v::vs):=by
 unfold kc mK;simp only;cases hg:h.get b with
 |none=>rfl
 |some ob=>
  cases ob with
  |row cs wr ak=>
   cases wr with
   |false=>rfl
   |true=>
    simp only;by_cases hc:o+(v::vs).length<=cs.length/\(v::vs).all dF=true
    . rw[if_pos hc,afq hc.1,hc.2];rfl
    . rw[if_neg hc];cases hb:(Nat.ble (o+(v::vs).length) cs.length&&(v::vs).all dF)with
      |false=>rfl
      |true=>
       rw[afo]at hb;exact absurd ⟨afp hb.1,hb.2⟩ hc
  |_=>rfl
def Al{h:ab}{b o:Nat}{vs:List Value}{cs:List Value}{ak:Nat}(hg:h.get b=some (.row cs true ak))(hl:o+vs.length<=cs.length)(hv:vs.all dF=true):mK h b o vs=some (h.set b (some (.row (dN cs o vs) true ak))):=by
 unfold mK;rw[hg];simp only;rw[if_pos ⟨hl,hv⟩]
def Env.ld(e:Env)(t:TypeId):Option (Option Nat):=
 match e.under t with
 |none=>none
 |some d=>bif jH d then(match e.size t with|none=>none|some n=>some (some n))else some none
def Env.off(e:Env)(s f:Nat):Option Nat:=
 match e.under s with
 |some (.struct fields)=>match ke e fields f with
  |some (off,size)=>bif WZ 0 size then some off else none
  |none=>none
 |_=>none
def Env.elem(e:Env)(t:TypeId):Option Nat:=
 match e.under t with
 |some (.slice el)=>e.size el
 |_=>none
def Env.arr(e:Env)(t:TypeId):Option (Nat×Nat):=
 match e.under t with
 |some (.array n el)=>match e.size el with|none=>none|some s=>some (n,s)
 |_=>none
def Env.part(e:Env)(s f:Nat):Option (Nat×Option Nat):=
 match e.under s with
 |some (.struct fields)=>match fields[f]? with
  |none=>none
  |some fd=>match e.ld fd.type with|none=>none|some l=>some (fd.offset,l)
 |_=>none
def Am{h:ab}{t:TypeId}{b o:Nat}(hl:e.ld t=some none):iq e h t ⟨b,o,none⟩=rd h b o:=by
 unfold Env.ld at hl;unfold iq;cases hu:e.under t with
 |none=>simp[hu]at hl
 |some d=>
  simp only[hu]at hl⊢;cases hd:jH d with
  |true=>
   simp only[hd,cond_true]at hl
   split at hl<;>cases hl
  |false=>
   simp only[cond_false];cases hr:rd h b o with
   |some v=>
    have:ji h b o (0+1)=some [v]:=by simp[ji,hr]
    rw[show(1:Nat)=0+1 from rfl,E0 this]
   |none=>
    unfold rd at hr;unfold fV;simp only;cases hg:h.get b with
    |none=>rfl
    |some ob=>
     cases ob with
     |row cs wr ak=>
      simp only[hg]at hr⊢;have:cs.drop o=[]:=by
       rw[List.drop_eq_nil_iff];exact List.getElem?_eq_none_iff.1 hr
      simp[this];rfl
     |_=>rfl
def Na{h:ab}{t:TypeId}{b o n:Nat}{l:List Value}(hl:e.ld t=some (some (n+1)))(hr:ji h b o (n+1)=some l):iq e h t ⟨b,o,none⟩=some (.agg l.toArray):=by
 unfold Env.ld at hl;unfold iq;cases hu:e.under t with
 |none=>simp[hu]at hl
 |some d=>
  simp only[hu]at hl⊢;cases hd:jH d with
  |true=>
   simp only[hd,cond_true]at hl⊢;cases hs:e.size t with
   |none=>simp[hs]at hl
   |some m=>
    simp only[hs,oY]at hl;subst hl;simp only[E0 hr]
  |false=>simp[hd]at hl
def gx(f:Value->Value->Option Value):Option Value->Option Value->Option Value
 |some a,some b=>f a b
 |_,_=>none
theorem tB(f:Value->Value->Option Value)(a b:Value):gx f (some a) (some b)=f a b:=rfl
def mL(e:Env)(h:ab)(ty:TypeId)(v:Value):Option Value:=match iu v with|none=>none|some a=>iq e h ty a
def rF(e:Env)(s f:Nat)(v:Value):Option Value:=match iu v with|none=>none|some a=>(e.off s f).map λo=>.pointer (some (a.add o))
def tC(e:Env)(ty f:Nat)(v:Value):Option Value:=match v,e.under ty with
 |.agg cs,some (.struct fields)=>match fields[f]? with
  |none=>none
  |some fd=>nt e fd.type cs.toList fd.offset
 |_,_=>none
def nI(e:Env)(op:UnOp)(a:Value):Option Value:=bif plain a then eI e.P (Op.unary op a)else none
def oL(e:Env)(h:ab)(s d:TypeId)(a:Value):Option Value:=bif plain a then eI e.P (convert s d a)else ow e h s d a
def oM(e:Env)(ty:TypeId)(x ix:Value):Option Value:=match x,intOf ix,e.under ty with
 |.pointer (some a),some i,some (.array len elem)=>match e.size elem with
  |none=>none
  |some s=>bif decide (0<=i)&&decide (i<(len:Int))then some (.pointer (some (a.add (i.toNat*s))))else none
 |.slice (some a) len _,some i,some (.slice elem)=>match e.size elem with
  |none=>none
  |some s=>bif decide (0<=i)&&decide (i<(len:Int))then some (.pointer (some (a.add (i.toNat*s))))else none
 |_,_,_=>none
def oN(e:Env)(ty:TypeId)(x ix:Value):Option Value:=match x,ix,e.under ty with
 |.agg cs,.int _ i,some (.array len elem)=>match e.size elem with
  |none=>none
  |some s=>bif decide (0<=i)&&decide (i<(len:Int))then nt e elem cs.toList (i.toNat*s)else none
 |.string s,.int k i,some .string=>eI e.P (Instr.index ty (.string s) (.int k i))
 |_,_,_=>none
def rG(x:Value):Option Value:=match x with
 |.pointer (some a)=>some (.pointer (some a))
 |.func (.func f) a b=>some (.func (.func f) a b)
 |_=>none
def rH(i:Nat)(x:Value):Option Value:=match x with
 |.tuple vs=>vs[i]?
 |_=>none
def rI(c:Option Value)(a b:Option Value):Option Value:=match c with
 |some (.bool true)=>a
 |some (.bool false)=>b
 |_=>none
def vp(e:Env)(ty:TypeId)(v:Value):Option Value:=match e.under ty with
 |some (.interface _)=>none
 |some _=>some (.iface ty v)
 |_=>none
def nJ(e:Env)(h:ab)(ty:TypeId)(ok:Bool)(m k:Value):Option Value:=pS e h ty m k ok
def iz(e:Env)(t:Tr Value):Option Operand->Option (Option Value)
 |none=>some none
 |some o=>(aE e t o).map some
def tD(e:Env)(h:ab)(ty:TypeId):Option Value->Option (Option Value)->Option (Option Value)->Option (Option Value)->Option Value
 |some x,some lo,some hi,some mx=>jI e h ty x lo hi mx
 |_,_,_,_=>none
def mM(e:Env)(ty:TypeId):Option (List (Nat×Value))->Option Value
 |some ps=>pR e ty ps
 |none=>none
def vq(f:FuncId):Option (List Value)->Option (List Value)->Option Value
 |some a,some b=>some (.func (.func f) a.toArray b.toArray)
 |_,_=>none
def vt(e:Env)(h:ab)(aa:Array TypeId)(x:Value):Option Value:=match aa[0]? with|none=>none|some ty=>fK e h ty x
def Ao(e:Env)(h:ab)(aa:Array TypeId)(x:Value):Option Value:=match aa[0]? with|none=>none|some ty=>qU e h ty x
def nK(e:Env)(args:List Value):Option Value:=bif args.all plain then eI e.P (Builtin.min_ #[] 0 args.toArray)else none
def rJ(e:Env)(args:List Value):Option Value:=bif args.all plain then eI e.P (Builtin.max_ #[] 0 args.toArray)else none
def bI(e:Env)(h:ab)(t:Tr Value):Op->Option Value
 |.move x|.assign x=>aE e t x
 |.pick c a b=>rI (aE e t c) (aE e t a) (aE e t b)
 |.build ty parts=>mM e ty (fx e t parts.toList)
 |.load ty a=>(aE e t a).bind (mL e h ty)
 |.nilCheck x=>(aE e t x).bind rG
 |.binOp op ty x y _=>gx (cL e op ty x y) (aE e t x) (aE e t y)
 |.unOp op _ x=>(aE e t x).bind (nI e op)
 |.convert s d x=>(aE e t x).bind (oL e h s d)
 |.makeInterface ty x=>(aE e t x).bind (vp e ty)
 |.makeFunc (.func f) first cap=>vq f (db e t first.toList) (db e t cap.toList)
 |.slice ty x lo hi mx=>tD e h ty (aE e t x) (iz e t lo) (iz e t hi) (iz e t mx)
 |.fieldAddr s x f=>(aE e t x).bind (rF e s f)
 |.field ty x f=>(aE e t x).bind (tC e ty f)
 |.indexAddr ty x ix=>gx (oM e ty) (aE e t x) (aE e t ix)
 |.index ty x ix=>gx (oN e ty) (aE e t x) (aE e t ix)
 |.lookup ty m k ok=>gx (nJ e h ty ok) (aE e t m) (aE e t k)
 |.extract x i=>(aE e t x).bind (rH i)
 |.call c=>match c.callee with
  |.builtin .len=>match db e t c.args.toList with|some [x]=>vt e h c.argTypes x|_=>none
  |.builtin .cap=>match db e t c.args.toList with|some [x]=>Ao e h c.argTypes x|_=>none
  |.builtin .min=>(db e t c.args.toList).bind (nK e)
  |.builtin .max=>(db e t c.args.toList).bind (rJ e)
  |_=>none
 |_=>none
def xA{h:ab}{t:Tr Value}{op:Op}{v:Value}(hv:bI e h t op=some v):aS e h t op=some (.val v h):=by
 cases op with
 |move x=>simp only[bI]at hv;simp[aS,hv]
 |assign x=>simp only[bI]at hv;simp[aS,hv]
 |pick c a b=>
  simp only[bI,rI]at hv;simp only[aS]
  split at hv
  . rename_i hc;simp[hc,hv]
  . rename_i hc;simp[hc,hv]
  . cases hv
 |build ty parts=>
  simp only[bI,mM]at hv;simp only[aS]
  split at hv
  . rename_i ps hp;simp[hp,hv]
  . cases hv
 |load ty a=>
  simp only[bI,Q0,mL]at hv;obtain⟨x,h1,h2⟩:=hv;simp only[aS,h1,afJ]
  split at h2
  . cases h2
  . rename_i a ha;simp[ha,h2]
 |nilCheck x=>
  simp only[bI,Q0,rG]at hv;obtain⟨y,h1,h2⟩:=hv;simp only[aS,h1]
  split at h2
  . cases h2;rfl
  . cases h2;rfl
  . cases h2
 |binOp op ty x y z=>
  simp only[bI]at hv;simp only[aS];cases hx:aE e t x with
  |none=>simp[hx,gx]at hv
  |some a=>
   cases hy:aE e t y with
   |none=>simp[hx,hy,gx]at hv
   |some b=>simp only[hx,hy,tB]at hv;simp[hv]
 |unOp op z x=>
  simp only[bI,Q0,nI]at hv;obtain⟨y,h1,h2⟩:=hv;simp only[aS,h1];obtain⟨hb,h2⟩:=cg h2;simp[hb,h2]
 |convert s d x=>
  simp only[bI,Q0,oL]at hv;obtain⟨y,h1,h2⟩:=hv;simp only[aS,h1];cases hb:plain y with
  |true=>rw[hb]at h2;simp only[cond_true]at h2⊢;simp[h2]
  |false=>rw[hb]at h2;simp only[cond_false]at h2⊢;simp[h2]
 |makeInterface ty x=>
  simp only[bI,Q0,vp]at hv;obtain⟨y,h1,h2⟩:=hv;simp only[aS,h1];cases hu:e.under ty with
  |none=>simp[hu]at h2
  |some d=>
   simp only[hu]at h2;cases d<;>simp_all
 |makeFunc fn first cap=>
  cases fn with
  |func f=>
   simp only[bI,vq]at hv;simp only[aS]
   split at hv
   . rename_i h1 h2;cases hv;simp[h1,h2]
   . cases hv
  |_=>simp[bI]at hv
 |slice ty x lo hi mx=>
  have e0:aS e h t (.slice ty x lo hi mx)=match aE e t x,iz e t lo,iz e t hi,iz e t mx with
   |some x,some lo,some hi,some mx=>(jI e h ty x lo hi mx).map λv=>.val v h
   |_,_,_,_=>none:=by cases lo<;>cases hi<;>cases mx<;>rfl
  rw[e0];simp only[bI,tD]at hv
  split at hv
  . rename_i h1 h2 h3 h4;simp only[h1,h2,h3,h4,hv];rfl
  . cases hv
 |fieldAddr s x f=>
  simp only[bI,Q0,rF]at hv;obtain⟨y,h1,h2⟩:=hv;simp only[aS,h1,afJ]
  split at h2
  . cases h2
  . rename_i a ha;simp only[afU,Env.off]at h2;obtain⟨o,h3,rfl⟩:=h2;simp only[ha]
    split at h3
    . rename_i fields hu;simp only[hu]
      split at h3
      . rename_i off size hp;obtain⟨hb,h3⟩:=cg h3;cases h3;simp[hp,hb]
      . cases h3
    . cases h3
 |field ty x f=>
  simp only[bI,Q0,tC]at hv;obtain⟨y,h1,h2⟩:=hv;simp only[aS,h1]
  split at h2
  . rename_i cs fields hu;simp only[hu]
    split at h2
    . cases h2
    . rename_i fd hf;simp[hf,h2]
  . cases h2
 |indexAddr ty x ix=>
  simp only[bI]at hv;simp only[aS];cases hx:aE e t x with
  |none=>simp[hx,gx]at hv
  |some a=>
   cases hy:aE e t ix with
   |none=>simp[hx,hy,gx]at hv
   |some b=>
    simp only[hx,hy,tB,oM]at hv;simp only[afJ]
    split at hv
    . rename_i a i len elem h1 h2;simp only[h1,h2]
      split at hv
      . cases hv
      . rename_i s hs;obtain⟨hb,hv⟩:=cg hv;cases hv;simp only[hs];rw[hb];rfl
    . rename_i a len cp i elem h1 h2;simp only[h1,h2]
      split at hv
      . cases hv
      . rename_i s hs;obtain⟨hb,hv⟩:=cg hv;cases hv;simp only[hs];rw[hb];rfl
    . cases hv
 |index ty x ix=>
  simp only[bI]at hv;simp only[aS];cases hx:aE e t x with
  |none=>simp[hx,gx]at hv
  |some a=>
   cases hy:aE e t ix with
   |none=>simp[hx,hy,gx]at hv
   |some b=>
    simp only[hx,hy,tB,oN]at hv
    split at hv
    . rename_i cs k i len elem h2;simp only[h2]
      split at hv
      . cases hv
      . rename_i s hs;obtain⟨hb,hv⟩:=cg hv;simp only[hs];rw[hb];simp[hv]
    . rename_i s k i h2;simp only[h2,hv];rfl
    . cases hv
 |lookup ty m k ok=>
  simp only[bI]at hv;simp only[aS];cases hx:aE e t m with
  |none=>simp[hx,gx]at hv
  |some a=>
   cases hy:aE e t k with
   |none=>simp[hx,hy,gx]at hv
   |some b=>simp only[hx,hy,tB,nJ]at hv;simp[hv]
 |extract x i=>
  simp only[bI,Q0,rH]at hv;obtain⟨y,h1,h2⟩:=hv;simp only[aS,h1]
  split at h2
  . simp[h2]
  . cases h2
 |call c=>
  simp only[bI]at hv;simp only[aS,lr]
  split at hv
  . rename_i hc
    split at hv
    . rename_i x hx;unfold vt at hv;simp only[hx,hc]
      split at hv
      . cases hv
      . rename_i ty ht;simp[ht,hv]
    . cases hv
  . rename_i hc
    split at hv
    . rename_i x hx;unfold Ao at hv;simp only[hx,hc]
      split at hv
      . cases hv
      . rename_i ty ht;simp[ht,hv]
    . cases hv
  . rename_i hc;simp only[Q0,nK]at hv;obtain⟨l,h1,h2⟩:=hv;obtain⟨hb,h2⟩:=cg h2;simp only[h1,hc,hb,h2,cond_true];rfl
  . rename_i hc;simp only[Q0,rJ]at hv;obtain⟨l,h1,h2⟩:=hv;obtain⟨hb,h2⟩:=cg h2;simp only[h1,hc,hb,h2,cond_true];rfl
  . cases hv
 |_=>simp[bI]at hv
end Go.aD
end

/- Parts of a proof. -/
import Derived.Test.YtlgccnjcmfighaaGreatDoorProg
import Derived.RecoverIn
import Derived.RangeFuncNested
import Derived.Shelf.Abstract
import Derived.WalkKit
import Derived.Maps.RangeRun
import Derived.Carry
import Derived.ProofKit
import Derived.OpenShut
import Derived.ChangeSame
import Derived.Deep.DeepHandedRow
import Derived.Test.YtlgccnjcmfighaaGreatDoorK03
open Nat renaming beq->qG,eq_of_beq_eq_true->yy,ble->E2,beq_refl->FQ,ble_eq_true_of_le->KE,blt->RC,lor->RK,le_of_ble_eq_true->RW,zero_add->Vs,le_refl->YN,lt_of_lt_of_le->afD
open Bool renaming and_self->yB,and_eq_true->Xy,and_false->afF,false_and->afG
open Option renaming bind_eq_some_iff->YT,bind_some->afz
open List renaming mem_cons->Zf,zip_cons_cons->ab8,drop_zero->adr,map_cons->afj,drop_eq_nil_of_le->afv,mem_cons_self->afw,mem_cons_of_mem->afx,range->afy,drop_drop->afA,getElem?_zip_eq_some->afB,getD_eq_getElem?_getD->afC,take_length->afH,length_append->afI
open Array renaming replicate->adv
open Option.some renaming injEq->afE
set_option linter.all false
set_option maxRecDepth 100000
noncomputable section
namespace Go.aD
variable {e:Env} {ro:Option Nat}
def aO{α:Type}(x:Option α)(k:α->Prop):Prop:=∃v,x=some v/\k v
def gK{α:Type}(v:α)(k:α->Prop):aO (some v) k=k v:=by
 simp[aO]
def bL(dst:Option Tmp)(v:Value)(t:Tr Value):Tr Value:=match dst with|none=>t|some d=>t.set d (some v)
def dA(dst:Option Tmp)(n:Nat):Prop:=match dst with|none=>True|some d=>d<n
def rS{s:aN}{dst:Option Tmp}{v:Value}(h:dA dst s.n):fH s dst v=some {s with t:=bL dst v s.t}:=by
 cases dst with
 |none=>simp[rk,bL]
 |some d=>
  simp only[rk,bL];have:RC d s.n=true:=KE h;rw[this];rfl
def qj(e:Env)(h:ab)(ty:TypeId):Option Value->Option Value->Option ab
 |some p,some v=>match iP p with|none=>none|some a=>oE e h ty a v
 |_,_=>none
def oZ(e:Env)(h:ab)(ty:TypeId):Option Value->Option Value->Option Value->Option ab
 |some m,some k,some v=>qZ e h ty m k v
 |_,_,_=>none
def tA(e:Env)(h:ab)(aq:Array TypeId):Option (List Value)->Option (Value×ab)
 |some [s,x]=>nG e h aq s x
 |_=>none
def copyV(e:Env)(h:ab)(aq:Array TypeId):Option (List Value)->Option (Value×ab)
 |some [s,x]=>wW e h aq s x
 |_=>none
def xC(e:Env)(h:ab)(aq:Array TypeId):Option (List Value)->Option (Value×ab)
 |some [x]=>uS e h aq x
 |_=>none
def qk:Option Value->Option (List Value)->Option (FuncId×List Value)
 |some f,some args=>match nH f args with|some (.func g,az,cap)=>some (g,az++cap)|_=>none
 |_,_=>none
def vq(e:Env)(h:ab)(ty:TypeId)(x:Value):Option bP:=match x,e.under ty with
 |.string s,some .string=>some (.eY s 0)
 |.map none,some (.map _ _)=>some (.cF none 0 [] 0)
 |.map (some m),some (.map _ _)=>match h.get m with
  |some (.map _ clock)=>some (.cF (some m) clock [] clock)
  |_=>none
 |_,_=>none
abbrev Kt:Type:=Value->List Deferred->ab->Prop
def bK(e:Env)(ro:Option Nat)(op:Op)(t:Tr Value)(ds:List Deferred)(h:ab)(K:Kt):Prop:=
 match op with
 |.alloc ty=>aO (cT e t (.alloc ty)) λp=>K (p.2 h.next) ds (h.new p.1)
 |.box ty x=>aO (cT e t (.box ty x)) λp=>K (p.2 h.next) ds (h.new p.1)
 |.buildSlice ty n ps=>aO (cT e t (.buildSlice ty n ps)) λp=>K (p.2 h.next) ds (h.new p.1)
 |.makeMap ty n=>aO (cT e t (.makeMap ty n)) λp=>K (p.2 h.next) ds (h.new p.1)
 |.makeSlice ty l c=>aO (cT e t (.makeSlice ty l c)) λp=>K (p.2 h.next) ds (h.new p.1)
 |.store ty a x=>aO (qj e h ty (aF e t a) (aF e t x)) λh'=>K undef ds h'
 |.mapUpdate ty m k v=>aO (oZ e h ty (aF e t m) (aF e t k) (aF e t v)) λh'=>K undef ds h'
 |.insert ty m k v=>aO (oZ e h ty (aF e t m) (aF e t k) (aF e t v)) λh'=>K undef ds h'
 |.range ty x=>aO ((aF e t x).bind (vq e h ty)) λo=>K (.pointer (some ⟨h.next,0,none⟩)) ds (h.new o)
 |.next it s=>aO ((aF e t it).bind (p9 h · s)) λp=>K p.1 ds p.2
 |.entry it=>aO ((aF e t it).bind (ri h)) λv=>K v ds h
 |.defer c=>match c.callee with
  |.value f=>ro=none/\aO (db e t c.args.toList) λargs=>aO ((aF e t f).bind (nH · args)) λx=>match x with
   |(.func g,az,cap)=>K undef ({target:=.fn (.func g) cap.toArray,args:=az.toArray}::ds) h
   |_=>False
  |_=>False
 |.call c=>match c.callee with
  |.value f=>aO (qk (aF e t f) (db e t c.args.toList)) λp=>∃v h',bU e p.1 p.2 h v h'/\K v ds h'
  |.builtin .append=>aO (tA e h c.argTypes (db e t c.args.toList)) λp=>K p.1 ds p.2
  |.builtin .copy=>aO (copyV e h c.argTypes (db e t c.args.toList)) λp=>K p.1 ds p.2
  |.builtin .clear=>aO (xC e h c.argTypes (db e t c.args.toList)) λp=>K p.1 ds p.2
  |_=>aO (bI e h t (.call c)) λv=>K v ds h
 |op=>aO (bI e h t op) λv=>K v ds h
def bK.xD{o:Oper}{t:Tr Value}{n:Nat}{ds:List Deferred}{h:ab}{K:Kt}{K':aN->Prop}(hs:bK e ro o.op t ds h K)(ae:dA o.dst n)(hK:∀v ds h,K v ds h->K' ⟨bL o.dst v t,n,ds,h⟩):ma e ro o ⟨t,n,ds,h⟩ K':=by
 have put:∀{v:Value} {ds:List Deferred} {h:ab},K v ds h->gI o.dst v ⟨t,n,ds,h⟩ K':=λhk=>⟨_,rS (s:=⟨t,n,_,_⟩) ae,hK _ _ _ hk⟩;obtain⟨dst,op,ty,pos,af,g⟩:=o;unfold ma;simp only at hs⊢;have val:∀{v:Value},bI e h t op=some v->K v ds h->(match aS e h t op with
  |none=>False
  |some (.val v h)=>gI dst v ⟨t,n,ds,h⟩ K'
  |some (.skip h)=>gI dst undef ⟨t,n,ds,h⟩ K'
  |some (.enter f args h)=>∃v h',bU e f args h v h'/\gI dst v ⟨t,n,ds,h'⟩ K'
  |some (.round _ _ _)=>False
  |some (.defer f args cap h)=>ro=none/\gI dst undef ⟨t,n,{target:=.fn (.func f) cap.toArray,args:=args.toArray}::ds,h⟩ K'):=λhv hk=>by
  rw[xB hv];exact put hk
 have alloc:∀{p:bP×(Nat->Value)},aS e h t op=(match cT e t op with|none=>none|some (o,f)=>some (.val (f h.next) (h.new o)))->cT e t op=some p->K (p.2 h.next) ds (h.new p.1)->(match aS e h t op with
  |none=>False
  |some (.val v h)=>gI dst v ⟨t,n,ds,h⟩ K'
  |some (.skip h)=>gI dst undef ⟨t,n,ds,h⟩ K'
  |some (.enter f args h)=>∃v h',bU e f args h v h'/\gI dst v ⟨t,n,ds,h'⟩ K'
  |some (.round _ _ _)=>False
  |some (.defer f args cap h)=>ro=none/\gI dst undef ⟨t,n,{target:=.fn (.func f) cap.toArray,args:=args.toArray}::ds,h⟩ K'):=λh1 h2 hk=>by
  rw[h1,h2];exact put hk
 cases op with
 |alloc ty=>obtain⟨p,h1,h2⟩:=hs;exact alloc rfl h1 h2
 |box ty x=>obtain⟨p,h1,h2⟩:=hs;exact alloc rfl h1 h2
 |buildSlice ty n ps=>obtain⟨p,h1,h2⟩:=hs;exact alloc rfl h1 h2
 |makeMap ty n=>obtain⟨p,h1,h2⟩:=hs;exact alloc rfl h1 h2
 |makeSlice ty l c=>obtain⟨p,h1,h2⟩:=hs;exact alloc rfl h1 h2
 |store ty a x=>
  obtain⟨h',h1,h2⟩:=hs;simp only[qj]at h1;simp only[aS]
  split at h1
  . rename_i p v hp hv
    split at h1
    . cases h1
    . rename_i ad ha;simp only[hp,afz,ha,hv,h1];exact put h2
  . cases h1
 |mapUpdate ty m k v=>
  obtain⟨h',h1,h2⟩:=hs;simp only[oZ]at h1;simp only[aS]
  split at h1
  . rename_i hp hk hv;simp only[hp,hk,hv,h1];exact put h2
  . cases h1
 |insert ty m k v=>
  obtain⟨h',h1,h2⟩:=hs;simp only[oZ]at h1;simp only[aS]
  split at h1
  . rename_i hp hk hv;simp only[hp,hk,hv,h1];exact put h2
  . cases h1
 |range ty x=>
  obtain⟨ob,h1,h2⟩:=hs;simp only[YT,vq]at h1;obtain⟨y,hy,h1⟩:=h1;simp only[aS,hy]
  split at h1
  . rename_i hu;cases h1;simp only[hu];exact put h2
  . rename_i hu;cases h1;simp only[hu];exact put h2
  . rename_i hu;simp only[hu]
    split at h1
    . rename_i hg;cases h1;simp only[hg];exact put h2
    . cases h1
  . cases h1
 |next it s=>
  obtain⟨p,h1,h2⟩:=hs;simp only[YT]at h1;obtain⟨y,hy,h1⟩:=h1;simp only[aS,hy,h1];exact put h2
 |entry it=>
  obtain⟨p,h1,h2⟩:=hs;simp only[YT]at h1;obtain⟨y,hy,h1⟩:=h1;simp only[aS,hy,h1];exact put h2
 |defer c=>
  simp only[bK]at hs;simp only[aS]
  split at hs
  . rename_i f hf;obtain⟨h0,args,h1,x,h2,h3⟩:=hs;simp only[hf,h1,h2]
    split at h3
    . exact⟨h0,put h3⟩
    . cases h3
  . cases hs
 |call c=>
  simp only[bK]at hs
  split at hs
  . rename_i f hf;obtain⟨p,h1,v,h',h2,h3⟩:=hs;simp only[qk]at h1;simp only[aS,lG,hf]
    split at h1
    . rename_i fv args h4 h5
      split at h1
      . rename_i g az cap h6;cases h1;simp only[h4,h5,h6];exact⟨v,h',h2,put h3⟩
      . cases h1
    . cases h1
  . rename_i hc;obtain⟨p,h1,h2⟩:=hs;simp only[tA]at h1;simp only[aS,lG,hc]
    split at h1
    . rename_i s x h3;simp only[h3,h1];exact put h2
    . cases h1
  . rename_i hc;obtain⟨p,h1,h2⟩:=hs;simp only[copyV]at h1;simp only[aS,lG,hc]
    split at h1
    . rename_i s x h3;simp only[h3,h1];exact put h2
    . cases h1
  . rename_i hc;obtain⟨p,h1,h2⟩:=hs;simp only[xC]at h1;simp only[aS,lG,hc]
    split at h1
    . rename_i x h3;simp only[h3,h1];exact put h2
    . cases h1
  . obtain⟨v,h1,h2⟩:=hs;exact val h1 h2
 |_=>obtain⟨v,h1,h2⟩:=hs;exact val h1 h2
def ff(e:Env)(ro:Option Nat)(ops:List Oper):List Oper->Tr Value->Nat->List Deferred->ab->(aN->Prop)->Prop
 |[],t,n,ds,h,K=>K ⟨t,n,ds,h⟩
 |o::r,t,n,ds,h,K=>match o.guard with
  |none=>dA o.dst n/\bK e ro o.op t ds h λv ds h=>ff e ro ops r (bL o.dst v t) n ds h K
  |some (j,w)=>aO ((ops[j]?).bind (·.dst)) λd=>aO (t.get d) λg=>match g with
   |.bool b=>(b=w->dA o.dst n/\bK e ro o.op t ds h λv ds h=>ff e ro ops r (bL o.dst v t) n ds h K)/\(b= !w->dA o.dst n/\ff e ro ops r (bL o.dst undef t) n ds h K)
   |.tuple _=>dA o.dst n/\ff e ro ops r (bL o.dst undef t) n ds h K
   |_=>False
def ff.ql{ops:List Oper}{n:Nat}{K:aN->Prop}:∀{l:List Oper} {t:Tr Value} {ds:List Deferred} {h:ab},ff e ro ops l t n ds h K->iS e ro ops l ⟨t,n,ds,h⟩ K
 |[],_,_,_,hs=>hs
 |o::r,t,ds,h,hs=>by
  simp only[ff]at hs;simp only[iS,cX];have run:(dA o.dst n/\bK e ro o.op t ds h λv ds h=>ff e ro ops r (bL o.dst v t) n ds h K)->ma e ro o ⟨t,n,ds,h⟩ λs=>iS e ro ops r s K:=λ⟨h1,h2⟩=>h2.xD h1 λv ds h hk=>ff.ql hk;have skip:(dA o.dst n/\ff e ro ops r (bL o.dst undef t) n ds h K)->gI o.dst undef ⟨t,n,ds,h⟩ λs=>iS e ro ops r s K:=λ⟨h1,h2⟩=>⟨_,rS (s:=⟨t,n,ds,h⟩) h1,ff.ql h2⟩;cases hg:o.guard with
  |none=>simp only[hg]at hs⊢;exact run hs
  |some jw=>
   obtain⟨j,w⟩:=jw;simp only[hg]at hs⊢;obtain⟨d,h1,g,h2,hs⟩:=hs;simp only[h1,h2];cases g with
   |bool b=>
    simp only at hs⊢;by_cases hb:b=w
    . subst hb;simp only[beq_self_eq_true];exact run (hs.1 rfl)
    . have av:b= !w:=by cases b<;>cases w<;>simp_all
      have:(b==w)=false:=by simpa using hb
      rw[this];exact skip (hs.2 av)
   |tuple vs=>exact skip hs
   |_=>exact hs.elim
structure PI where
 c:s9
 m:Nat
 dy:Option (Nat×Nat)
def qm(ops:List Oper)(ms:List Nat)(ef:List (Nat×Nat))(i:Nat)(o:Oper)(p:PI):Bool:=
 decide (cls o.op=p.c)&&qG (ms.getD i 0) p.m&&(match p.dy with
  |none=> !decide (p.c=.read)||E2 (ef.filter λq=> !q.2.testBit i).length (ef.filter λq=>p.m.testBit q.1).length
  |some (lo,k)=>qG lo (ef.filter λq=>p.m.testBit q.1).length&&qG k ((ef.filter λq=> !q.2.testBit i).length+1-lo))
def rT(ops:List Oper):Bool->List PI->Bool:=λ_ pl=>
 qa ops (bx ops)&&qG pl.length ops.length&&((ops.zip pl).zipIdx.all λx=>qm ops (bx ops) (dc ops) x.2 x.1.1 x.1.2)
def cA(e:Env)(ro:Option Nat)(ops:List Oper):List Oper->List PI->Nat->Nat->Tr Value->Nat->List Deferred->ab->dz->dz->List (Nat×ab)->List (Tr Value)->(cG->Prop)->Prop
 |[],_,_,_,t,n,ds,h,aA,all,st,sn,K=>K ⟨⟨t,n,ds,h⟩,aA,all,st,sn⟩
 |_::_,[],_,_,_,_,_,_,_,_,_,_,_=>False
 |o::r,p::pl,i,id,t,n,ds,h,aA,all,st,sn,K=>
  let run:=λ(_:Unit)=>match p.c with
   |.pure=>aO (bI e h t o.op) λv=>cA e ro ops r pl (i+1) id (bL o.dst v t) n ds h aA all st (t::sn) K
   |.read=>aO (bI e (cr h p.m aA) t o.op) λv=>cA e ro ops r pl (i+1) id (bL o.dst v t) n ds h aA all st (t::sn) K
   |.alloc=>aO (cT e t o.op) λq=>cA e ro ops r pl (i+1) (id+1) (bL o.dst (q.2 id) t) n ds h ((i,id,q.1)::aA) ((i,id,q.1)::all) st (t::sn) K
   |.effect=>bK e ro o.op t ds (cr h p.m aA) λv ds h=>cA e ro ops r pl (i+1) id (bL o.dst v t) n ds h (aA.filter λq=> !p.m.testBit q.1) all ((RK ((st.head?.map (·.1)).getD 0) p.m,h)::st) (t::sn) K
   |.bad=>False
  let skip:=λ(_:Unit)=>match p.c with
   |.effect=>cA e ro ops r pl (i+1) id (bL o.dst undef t) n ds h aA all (((st.head?.map (·.1)).getD 0,h)::st) (t::sn) K
   |.alloc=>cA e ro ops r pl (i+1) (id+1) (bL o.dst undef t) n ds h aA all st (t::sn) K
   |.bad=>False
   |_=>cA e ro ops r pl (i+1) id (bL o.dst undef t) n ds h aA all st (t::sn) K
  dA o.dst n/\match o.guard with
  |none=>run ()
  |some (j,w)=>aO ((ops[j]?).bind (·.dst)) λd=>aO (t.get d) λg=>match g with
   |.bool b=>(b=w->run ())/\(b= !w->skip ())
   |.tuple _=>skip ()
   |_=>False
def pa(e:Env)(o:Oper)(m:Nat)(t:Tr Value)(v:Value)(all:dz):List (Nat×ab)->Prop
 |[]=>True
 |q::r=>bI e (cr q.2 m (all.filter λp=> !q.1.testBit p.1)) t o.op=some v/\pa e o m t v all r
def gL(e:Env)(ops:List Oper)(tf:Tr Value)(all:dz)(st:List (Nat×ab)):List Oper->List PI->List (Tr Value)->Prop
 |o::r,p::pl,t::ts=>(match p.dy with
  |none=>True
  |some (lo,k)=>match cX ops ⟨t,0,[],{m:=.nil,next:=0}⟩ o with
   |some true=>match o.dst with
    |none=>False
    |some d=>match tf.get d with
     |none=>False
     |some v=>pa e o p.m t v all ((st.drop lo).take k)
   |some false=>True
   |none=>False)/\gL e ops tf all st r pl ts
 |[],_,_=>True
 |_,_,_=>False
def Fy{o:Oper}{m:Nat}{t:Tr Value}{v:Value}{all:dz}:∀{l:List (Nat×ab)},pa e o m t v all l->∀q∈l,∃h2,aS e (cr q.2 m (all.filter λp=> !q.1.testBit p.1)) t o.op=some (.val v h2)
 |[],_,q,hq=>by cases hq
 |q::r,h,x,hx=>by
  rcases Zf.1 hx with rfl|hx
  . exact⟨_,xB h.1⟩
  . exact Fy h.2 x hx
def NJ{ops:List Oper}{s s':aN}{o:Oper}(h:s.t=s'.t):cX ops s o=cX ops s' o:=by unfold cX;rw[h]
def gL.p{ops:List Oper}{x:cG}{st:List (Nat×ab)}{ef:List (Nat×Nat)}{ms:List Nat}(aL:ms=bx ops):∀(l:List Oper) (pl:List PI) (ts:List (Tr Value)) (i:Nat),(∀(k:Nat) o p,l[k]? =some o->pl[k]? =some p->qm ops ms ef (i+k) o p=true)->
 (∀(k:Nat) o m,(l.zip (ms.drop i))[k]? =some (o,m)->m=ms.getD (i+k) 0)->gL e ops x.s.t x.all st l pl ts->nO e ops x st ef (l.zip (ms.drop i)) ts i
 |[],_,_,_,_,_,_=>by simp[nO]
 |o::r,[],_,_,_,_,h=>by simp[gL]at h
 |o::r,p::pl,[],_,_,_,h=>by simp[gL]at h
 |o::r,p::pl,t::ts,i,hp,hm,h=>by
  cases hd:ms.drop i with
  |nil=>simp[nO]
  |cons m0 rest=>
   have ak:ms.drop (i+1)=rest:=by rw[<-afA,hd];rfl
   have aM:m0=ms.getD i 0:=hm 0 o m0 (by rw[hd];rfl);rw[ab8];obtain⟨h1,h2⟩:=h;have aG:=hp 0 o p rfl rfl;simp only[qm,Xy,decide_eq_true_eq,Nat.add_zero]at aG;obtain⟨⟨hc,aw⟩,ai⟩:=aG;have aw:=yy aw;refine⟨λaQ hw=> ?_, ?_⟩
   . unfold xq;have aT:m0=p.m:=aM.trans aw;rw[aT];cases aH:p.dy with
     |none=>
      simp only[aH,Bool.or_eq_true,Bool.not_eq_true',decide_eq_false_iff_not]at ai;rcases ai with ai|ai
      . exact absurd (hc.symm.trans aQ) ai
      . exact .inl (RW ai)
     |some lk=>
      obtain⟨lo,k⟩:=lk;simp only[aH,Xy]at ai h1;have e1:=yy ai.1;have e2:=yy ai.2;have aU:cX ops ⟨t,0,[],{m:=.nil,next:=0}⟩ o=some true:=by rw[<-hw];exact NJ rfl
      rw[aU]at h1;simp only at h1;cases aI:o.dst with
      |none=>simp[aI]at h1
      |some d=>
       simp only[aI]at h1;cases hv:x.s.t.get d with
       |none=>simp[hv]at h1
       |some v=>
        simp only[hv]at h1;refine .inr ⟨d,v,rfl,hv,λq hq=>Fy h1 q ?_⟩;rw[e2,e1];exact hq
   . have:=gL.p aL r pl ts (i+1) (λk o' p' h1 h2=>by have:=hp (k+1) o' p' (by simpa using h1) (by simpa using h2);rwa[show i+(k+1)=i+1+k by omega]at this)
      (λk o' m' h=>by
       have:=hm (k+1) o' m' (by rw[hd,ab8];rw[ak]at h;simpa using h);rwa[show i+(k+1)=i+1+k by omega]at this) h2
     rw[ak]at this;exact this
set_option maxHeartbeats 2000000 in
def cA.Aq{ops:List Oper}{K K':cG->Prop}(aJ:∀x,K x->K' x):∀(l:List Oper) (pl:List PI) (ms:List Nat) (i id:Nat) (t:Tr Value) (n:Nat) (ds:List Deferred) (h:ab) (aA all:dz) (st:List (Nat×ab)) (sn:List (Tr Value)),l.length=ms.length->
 (∀(k:Nat) o p m,l[k]? =some o->pl[k]? =some p->ms[k]? =some m->cls o.op=p.c/\m=p.m)->cA e ro ops l pl i id t n ds h aA all st sn K->ll e ro ops (l.zip ms) i id ⟨⟨t,n,ds,h⟩,aA,all,st,sn⟩ K'
 |[],_,_,_,_,_,_,_,_,_,_,_,_,_,_,hs=>by simp only[List.zip_nil_left,ll];exact aJ _ hs
 |_::_,[],_,_,_,_,_,_,_,_,_,_,_,_,_,hs=>by simp[cA]at hs
 |_::_,_::_,[],_,_,_,_,_,_,_,_,_,_,hl,_,_=>by simp at hl
 |o::r,p::pl,m::ms,i,id,t,n,ds,h,aA,all,st,sn,hl,hp,hs=>by
  obtain⟨hc,hm⟩:=hp 0 o p m rfl rfl rfl;subst hm;have ih:∀(id:Nat) (t:Tr Value) (n:Nat) (ds:List Deferred) (h:ab) (aA all:dz) (st:List (Nat×ab)) (sn:List (Tr Value)),r.length=ms.length->(∀(k:Nat) o p m,r[k]? =some o->pl[k]? =some p->ms[k]? =some m->cls o.op=p.c/\m=p.m)->
   cA e ro ops r pl (i+1) id t n ds h aA all st sn K->ll e ro ops (r.zip ms) (i+1) id ⟨⟨t,n,ds,h⟩,aA,all,st,sn⟩ K':=λid t n ds h aA all st sn=>cA.Aq aJ r pl ms (i+1) id t n ds h aA all st sn
  have an:∀(k:Nat) o p m,r[k]? =some o->pl[k]? =some p->ms[k]? =some m->cls o.op=p.c/\m=p.m:=λk o p m h1 h2 h3=>hp (k+1) o p m (by simpa using h1) (by simpa using h2) (by simpa using h3);have ao:r.length=ms.length:=by simpa using hl
  simp only[cA]at hs;obtain⟨ae,hs⟩:=hs;rw[ab8];simp only[ll];have aW:nextId o id=if p.c=.alloc then id+1 else id:=by
   unfold nextId;rw[hc];cases p.c<;>rfl
  rw[aW];have aa:∀(v:Value),fH ⟨t,n,ds,h⟩ o.dst v=some ⟨bL o.dst v t,n,ds,h⟩:=λv=>rS (s:=⟨t,n,ds,h⟩) ae;have run:(match p.c with
   |.pure=>aO (bI e h t o.op) λv=>cA e ro ops r pl (i+1) id (bL o.dst v t) n ds h aA all st (t::sn) K
   |.read=>aO (bI e (cr h p.m aA) t o.op) λv=>cA e ro ops r pl (i+1) id (bL o.dst v t) n ds h aA all st (t::sn) K
   |.alloc=>aO (cT e t o.op) λq=>cA e ro ops r pl (i+1) (id+1) (bL o.dst (q.2 id) t) n ds h ((i,id,q.1)::aA) ((i,id,q.1)::all) st (t::sn) K
   |.effect=>bK e ro o.op t ds (cr h p.m aA) λv ds h=>cA e ro ops r pl (i+1) id (bL o.dst v t) n ds h (aA.filter λq=> !p.m.testBit q.1) all ((RK ((st.head?.map (·.1)).getD 0) p.m,h)::st) (t::sn) K
   |.bad=>False)->cX ops ⟨t,n,ds,h⟩ o=some true->mR e ro ops i id p.m o ⟨⟨t,n,ds,h⟩,aA,all,st,t::sn⟩ λx=>ll e ro ops (r.zip ms) (i+1) (if p.c=.alloc then id+1 else id) x K':=λhs hw=>by
   unfold mR;simp only[hw,hc];cases ah:p.c with
   |pure=>
    simp only[ah]at hs;obtain⟨v,h1,h2⟩:=hs;simp only[xB h1];exact⟨_,aa v,ih id _ n ds h aA all st _ ao an h2⟩
   |read=>
    simp only[ah]at hs;obtain⟨v,h1,h2⟩:=hs;simp only[xB h1];exact⟨_,aa v,ih id _ n ds h aA all st _ ao an h2⟩
   |alloc=>
    simp only[ah]at hs;obtain⟨q,h1,h2⟩:=hs;obtain⟨ob,f⟩:=q;simp only[h1];exact⟨_,aa _,ih (id+1) _ n ds h _ _ st _ ao an h2⟩
   |effect=>
    simp only[ah]at hs;exact bK.xD hs ae λv ds h hk=>ih id _ n ds h _ all _ _ ao an hk
   |bad=>simp[ah]at hs
  have skip:(match p.c with
   |.effect=>cA e ro ops r pl (i+1) id (bL o.dst undef t) n ds h aA all (((st.head?.map (·.1)).getD 0,h)::st) (t::sn) K
   |.alloc=>cA e ro ops r pl (i+1) (id+1) (bL o.dst undef t) n ds h aA all st (t::sn) K
   |.bad=>False
   |_=>cA e ro ops r pl (i+1) id (bL o.dst undef t) n ds h aA all st (t::sn) K)->cX ops ⟨t,n,ds,h⟩ o=some false->mR e ro ops i id p.m o ⟨⟨t,n,ds,h⟩,aA,all,st,t::sn⟩ λx=>ll e ro ops (r.zip ms) (i+1) (if p.c=.alloc then id+1 else id) x K':=λhs hw=>by
   unfold mR;simp only[hw,hc];cases ah:p.c with
   |pure=>simp only[ah]at hs;exact⟨_,aa _,ih id _ n ds h aA all st _ ao an hs⟩
   |read=>simp only[ah]at hs;exact⟨_,aa _,ih id _ n ds h aA all st _ ao an hs⟩
   |alloc=>simp only[ah]at hs;exact⟨_,aa _,ih (id+1) _ n ds h aA all st _ ao an hs⟩
   |effect=>simp only[ah]at hs;exact⟨_,aa _,ih id _ n ds h aA all _ _ ao an hs⟩
   |bad=>simp[ah]at hs
  cases hg:o.guard with
  |none=>
   simp only[hg]at hs;exact run hs (by unfold cX;rw[hg])
  |some jw=>
   obtain⟨j,w⟩:=jw;simp only[hg]at hs;obtain⟨d,h1,g,h2,hs⟩:=hs;cases g with
   |bool b=>
    simp only at hs;by_cases hb:b=w
    . exact run (hs.1 hb) (by unfold cX;simp only[hg,h1,h2,hb,beq_self_eq_true])
    . have av:b= !w:=by cases b<;>cases w<;>simp_all
      have h3:(b==w)=false:=by simpa using hb
      exact skip (hs.2 av) (by unfold cX;simp only[hg,h1,h2,h3])
   |tuple vs=>exact skip hs (by unfold cX;simp only[hg,h1,h2])
   |_=>exact hs.elim
def NK{ops:List Oper}{t:Tr Value}{n:Nat}{ds:List Deferred}{h:ab}{K:aN->Prop}(pl:List PI)(aK:rT ops true pl=true)(na:Nat)(aC:qG (ops.filter λo=>cls o.op==.alloc).length na=true)
 (hs:cA e ro ops ops pl 0 h.next t n ds {h with next:=h.next+na} [] [] [(0,{h with next:=h.next+na})] [] λx=>
  gL e ops x.s.t x.all x.bJ.reverse ops pl x.di.reverse/\K {x.s with h:=fw x.s.h x.aA}):mb e ro ops ⟨t,n,ds,h⟩ K:=by
 simp only[rT,Xy,List.all_eq_true]at aK;obtain⟨⟨h1,h2⟩,h3⟩:=aK;have h2:=yy h2;have aC:=yy aC;have h4:∀(k:Nat) o p,ops[k]? =some o->pl[k]? =some p->qm ops (bx ops) (dc ops) k o p=true:=λk o p ho hp=>by
  have hz:(ops.zip pl)[k]? =some (o,p):=by rw[afB];exact⟨ho,hp⟩
  exact h3 ((o,p),k) (by
   rw[List.mem_zipIdx_iff_getElem?];simpa using hz)
 refine⟨h1, ?_⟩;rw[aC];have h5:∀(k:Nat) o p m,ops[k]? =some o->pl[k]? =some p->(bx ops)[k]? =some m->cls o.op=p.c/\m=p.m:=λk o p m ho hp hm=>by
  have:=h4 k o p ho hp;simp only[qm,Xy,decide_eq_true_eq]at this;refine⟨this.1.1, ?_⟩;have e1:=yy this.1.2;rw[<-e1,afC,hm];rfl
 refine cA.Aq (λx hx=> ?_) ops pl (bx ops) 0 h.next t n ds _ [] [] _ [] (by rw[xm]) h5 hs;refine⟨.inr ?_,hx.2⟩;have:=gL.p (e:=e) (x:=x) (st:=x.bJ.reverse) (ef:=dc ops) (ms:=bx ops) rfl ops pl x.di.reverse 0 (λk o p ho hp=>by rw[Vs];exact h4 k o p ho hp)
  (λk o m hz=>by
   rw[adr,afB]at hz;rw[Vs,afC,hz.2];rfl) hx.1
 simpa using this
end Go.aD
end
noncomputable section
namespace Go.aD
variable {e:Env} {ro:Option Nat}
def Ar(e:Env)(ro:Option Nat)(ops r:List Oper)(t:Tr Value)(n:Nat)(K:aN->Prop)(dst:Option Tmp):Kt:=λv ds h=>ff e ro ops r (bL dst v t) n ds h K
def FA(e:Env)(ro:Option Nat)(ops:List Oper)(o:Oper)(r:List Oper)(t:Tr Value)(n:Nat)(ds:List Deferred)(h:ab)(K:aN->Prop)(w:Bool)(d:Tmp):Prop:=
 aO (t.get d) λg=>match g with
  |.bool b=>(b=w->dA o.dst n/\bK e ro o.op t ds h λv ds h=>ff e ro ops r (bL o.dst v t) n ds h K)/\(b= !w->dA o.dst n/\ff e ro ops r (bL o.dst undef t) n ds h K)
  |.tuple _=>dA o.dst n/\ff e ro ops r (bL o.dst undef t) n ds h K
  |_=>False
def rU(e:Env)(ro:Option Nat)(ops:List Oper)(o:Oper)(r:List Oper)(t:Tr Value)(n:Nat)(ds:List Deferred)(h:ab)(K:aN->Prop)(w:Bool)(g:Value):Prop:=
 match g with
  |.bool b=>(b=w->dA o.dst n/\bK e ro o.op t ds h λv ds h=>ff e ro ops r (bL o.dst v t) n ds h K)/\(b= !w->dA o.dst n/\ff e ro ops r (bL o.dst undef t) n ds h K)
  |.tuple _=>dA o.dst n/\ff e ro ops r (bL o.dst undef t) n ds h K
  |_=>False
def KV(K:Kt)(ds:List Deferred)(h:ab):Value->Prop:=λv=>K v ds h
def KA(K:Kt)(ds:List Deferred)(h:ab):bP×(Nat->Value)->Prop:=λp=>K (p.2 h.next) ds (h.new p.1)
def KO(K:Kt)(ds:List Deferred)(h:ab):bP->Prop:=λo=>K (.pointer (some ⟨h.next,0,none⟩)) ds (h.new o)
def KH(K:Kt)(ds:List Deferred):ab->Prop:=λh=>K undef ds h
def KP(K:Kt)(ds:List Deferred):Value×ab->Prop:=λp=>K p.1 ds p.2
def KC(e:Env)(K:Kt)(ds:List Deferred)(h:ab):FuncId×List Value->Prop:=λp=>∃v h',bU e p.1 p.2 h v h'/\K v ds h'
def KC.mk{K:Kt}{ds:List Deferred}{h:ab}{f:FuncId}{args:List Value}{v:Value}{h':ab}(hr:bU e f args h v h')(hk:K v ds h'):KC e K ds h (f,args):=⟨v,h',hr,hk⟩
theorem NL(n:Nat):dA none n=True:=rfl
theorem NM(d n:Nat):dA (some d) n=(d<n):=rfl
theorem NN(v:Value)(t:Tr Value):bL none v t=t:=rfl
theorem NO(d:Nat)(v:Value)(t:Tr Value):bL (some d) v t=t.set d (some v):=rfl
theorem NP(ops r:List Oper)(t:Tr Value)(n:Nat)(K:aN->Prop)(dst:Option Tmp)(v:Value)(ds:List Deferred)(h:ab):Ar e ro ops r t n K dst v ds h=ff e ro ops r (bL dst v t) n ds h K:=rfl
theorem NQ(K:Kt)(ds:List Deferred)(h:ab)(v:Value):KV K ds h v=K v ds h:=rfl
theorem NR(K:Kt)(ds:List Deferred)(h:ab)(o:bP)(f:Nat->Value):KA K ds h (o,f)=K (f h.next) ds (h.new o):=rfl
theorem NS(K:Kt)(ds:List Deferred)(h:ab)(o:bP):KO K ds h o=K (.pointer (some ⟨h.next,0,none⟩)) ds (h.new o):=rfl
theorem NT(K:Kt)(ds:List Deferred)(h:ab):KH K ds h=K undef ds h:=rfl
theorem NV(K:Kt)(ds:List Deferred)(v:Value)(h:ab):KP K ds (v,h)=K v ds h:=rfl
theorem NW(ops:List Oper)(t:Tr Value)(n:Nat)(ds:List Deferred)(h:ab)(K:aN->Prop):ff e ro ops [] t n ds h K=K ⟨t,n,ds,h⟩:=rfl
theorem NY(ops:List Oper)(dst:Option Tmp)(op:Op)(ty:TypeId)(pos:String)(af:Array Edge)(r:List Oper)(t:Tr Value)(n:Nat)(ds:List Deferred)(h:ab)(K:aN->Prop):
 ff e ro ops (⟨dst,op,ty,pos,af,none⟩::r) t n ds h K=(dA dst n/\bK e ro op t ds h (Ar e ro ops r t n K dst)):=rfl
theorem NZ(ops:List Oper)(dst:Option Tmp)(op:Op)(ty:TypeId)(pos:String)(af:Array Edge)(j:Nat)(w:Bool)(r:List Oper)(t:Tr Value)(n:Nat)(ds:List Deferred)(h:ab)(K:aN->Prop):
 ff e ro ops (⟨dst,op,ty,pos,af,some (j,w)⟩::r) t n ds h K=aO ((ops[j]?).bind (·.dst)) (FA e ro ops ⟨dst,op,ty,pos,af,none⟩ r t n ds h K w):=rfl
theorem N5(ops:List Oper)(o:Oper)(r:List Oper)(t:Tr Value)(n:Nat)(ds:List Deferred)(h:ab)(K:aN->Prop)(w:Bool)(d:Tmp):FA e ro ops o r t n ds h K w d=aO (t.get d) (rU e ro ops o r t n ds h K w):=rfl
def N6(ops:List Oper)(dst:Option Tmp)(op:Op)(ty:TypeId)(pos:String)(af:Array Edge)(r:List Oper)(t:Tr Value)(n:Nat)(ds:List Deferred)(h:ab)(K:aN->Prop)(w:Bool):
 rU e ro ops ⟨dst,op,ty,pos,af,none⟩ r t n ds h K w (.bool w)=(dA dst n/\bK e ro op t ds h (Ar e ro ops r t n K dst)):=
 propext ⟨λhh=>hh.1 rfl,λhh=>⟨λ_=>hh,λh'=>by cases w<;>cases h'⟩⟩
def N7(ops:List Oper)(dst:Option Tmp)(op:Op)(ty:TypeId)(pos:String)(af:Array Edge)(r:List Oper)(t:Tr Value)(n:Nat)(ds:List Deferred)(h:ab)(K:aN->Prop):
 rU e ro ops ⟨dst,op,ty,pos,af,none⟩ r t n ds h K true (.bool false)=(dA dst n/\ff e ro ops r (bL dst undef t) n ds h K):=by
 simp[rU]
def N8(ops:List Oper)(dst:Option Tmp)(op:Op)(ty:TypeId)(pos:String)(af:Array Edge)(r:List Oper)(t:Tr Value)(n:Nat)(ds:List Deferred)(h:ab)(K:aN->Prop):
 rU e ro ops ⟨dst,op,ty,pos,af,none⟩ r t n ds h K false (.bool true)=(dA dst n/\ff e ro ops r (bL dst undef t) n ds h K):=by
 simp[rU]
theorem N9(ops:List Oper)(dst:Option Tmp)(op:Op)(ty:TypeId)(pos:String)(af:Array Edge)(r:List Oper)(t:Tr Value)(n:Nat)(ds:List Deferred)(h:ab)(K:aN->Prop)(w:Bool):
 rU e ro ops ⟨dst,op,ty,pos,af,none⟩ r t n ds h K w undef=(dA dst n/\ff e ro ops r (bL dst undef t) n ds h K):=rfl
section
variable (t:Tr Value) (ds:List Deferred) (h:ab) (K:Kt)
theorem Oa(x:Operand):bK e ro (.move x) t ds h K=aO (aF e t x) (KV K ds h):=rfl
theorem Ob(x:Operand):bK e ro (.assign x) t ds h K=aO (aF e t x) (KV K ds h):=rfl
theorem Oc(c a b:Operand):bK e ro (.pick c a b) t ds h K=aO (rQ (aF e t c) (aF e t a) (aF e t b)) (KV K ds h):=rfl
def Oe(ty:TypeId)(l:List (Nat×Operand)):bK e ro (.build ty l.toArray) t ds h K=aO (mU e ty (fG e t l)) (KV K ds h):=by simp[bK,bI,KV];rfl
theorem Of(ty:TypeId)(a:Operand):bK e ro (.load ty a) t ds h K=aO ((aF e t a).bind (mT e h ty)) (KV K ds h):=rfl
theorem Og(x:Operand):bK e ro (.nilCheck x) t ds h K=aO ((aF e t x).bind rO) (KV K ds h):=rfl
theorem Oh(op:BinOp)(ty:TypeId)(x y:Operand)(z:TypeId):bK e ro (.binOp op ty x y z) t ds h K=aO (gJ (cO e op ty x y) (aF e t x) (aF e t y)) (KV K ds h):=rfl
theorem Oi(op:UnOp)(ty:TypeId)(x:Operand):bK e ro (.unOp op ty x) t ds h K=aO ((aF e t x).bind (nR e op)) (KV K ds h):=rfl
theorem Oj(s d:TypeId)(x:Operand):bK e ro (.convert s d x) t ds h K=aO ((aF e t x).bind (oW e h s d)) (KV K ds h):=rfl
theorem Ol(ty:TypeId)(x:Operand):bK e ro (.makeInterface ty x) t ds h K=aO ((aF e t x).bind (vn e ty)) (KV K ds h):=rfl
def Om(f:FuncId)(a c:List Operand):bK e ro (.makeFunc (.func f) a.toArray c.toArray) t ds h K=aO (vo f (db e t a) (db e t c)) (KV K ds h):=by simp[bK,bI,KV];rfl
theorem Oo(ty:TypeId)(x:Operand)(lo hi mx:Option Operand):bK e ro (.slice ty x lo hi mx) t ds h K=aO (tz e h ty (aF e t x) (iT e t lo) (iT e t hi) (iT e t mx)) (KV K ds h):=rfl
theorem Oq(s:TypeId)(x:Operand)(f:Nat):bK e ro (.fieldAddr s x f) t ds h K=aO ((aF e t x).bind (rN e s f)) (KV K ds h):=rfl
theorem Ot(ty:TypeId)(x:Operand)(f:Nat):bK e ro (.field ty x f) t ds h K=aO ((aF e t x).bind (tx e ty f)) (KV K ds h):=rfl
theorem Ou(ty:TypeId)(x ix:Operand):bK e ro (.indexAddr ty x ix) t ds h K=aO (gJ (oX e ty) (aF e t x) (aF e t ix)) (KV K ds h):=rfl
theorem Ov(ty:TypeId)(x ix:Operand):bK e ro (.index ty x ix) t ds h K=aO (gJ (oY e ty) (aF e t x) (aF e t ix)) (KV K ds h):=rfl
theorem Ow(ty:TypeId)(m k:Operand)(ok:Bool):bK e ro (.lookup ty m k ok) t ds h K=aO (gJ (nS e h ty ok) (aF e t m) (aF e t k)) (KV K ds h):=rfl
theorem Ox(x:Operand)(i:Nat):bK e ro (.extract x i) t ds h K=aO ((aF e t x).bind (rP i)) (KV K ds h):=rfl
theorem Oy(ty:TypeId):bK e ro (.alloc ty) t ds h K=aO (cT e t (.alloc ty)) (KA K ds h):=rfl
theorem Oz(ty:TypeId)(x:Operand):bK e ro (.box ty x) t ds h K=aO (cT e t (.box ty x)) (KA K ds h):=rfl
theorem OA(ty:TypeId)(n:Nat)(ps:Array (Nat×Operand)):bK e ro (.buildSlice ty n ps) t ds h K=aO (cT e t (.buildSlice ty n ps)) (KA K ds h):=rfl
theorem OB(ty:TypeId)(n:Option Operand):bK e ro (.makeMap ty n) t ds h K=aO (cT e t (.makeMap ty n)) (KA K ds h):=rfl
theorem OC(ty:TypeId)(l c:Operand):bK e ro (.makeSlice ty l c) t ds h K=aO (cT e t (.makeSlice ty l c)) (KA K ds h):=rfl
theorem OD(ty:TypeId)(a x:Operand):bK e ro (.store ty a x) t ds h K=aO (qj e h ty (aF e t a) (aF e t x)) (KH K ds):=rfl
theorem OE(ty:TypeId)(m k v:Operand):bK e ro (.mapUpdate ty m k v) t ds h K=aO (oZ e h ty (aF e t m) (aF e t k) (aF e t v)) (KH K ds):=rfl
theorem OF(ty:TypeId)(m k v:Operand):bK e ro (.insert ty m k v) t ds h K=aO (oZ e h ty (aF e t m) (aF e t k) (aF e t v)) (KH K ds):=rfl
theorem OG(ty:TypeId)(x:Operand):bK e ro (.range ty x) t ds h K=aO ((aF e t x).bind (vq e h ty)) (KO K ds h):=rfl
theorem OH(it:Operand)(s:Bool):bK e ro (.next it s) t ds h K=aO ((aF e t it).bind (p9 h · s)) (KP K ds):=rfl
def OI(f:Operand)(args:List Operand)(ah:Array TypeId):bK e ro (.call ⟨.value f,args.toArray,ah⟩) t ds h K=aO (qk (aF e t f) (db e t args)) (KC e K ds h):=by simp[bK];rfl
def OJ(args:List Operand)(ah:Array TypeId):bK e ro (.call ⟨.builtin .append,args.toArray,ah⟩) t ds h K=aO (tA e h ah (db e t args)) (KP K ds):=by simp[bK];rfl
def OK(x:Operand)(ty:TypeId)(ah:List TypeId):bK e ro (.call ⟨.builtin .len,#[x],(ty::ah).toArray⟩) t ds h K=aO ((aF e t x).bind (fV e h ty)) (KV K ds h):=by
 simp only[bK,bI,db,vp];cases aF e t x<;>simp[KV,aO]
end
def RS(e:Env)(ro:Option Nat):Code->aN->(bB->aN->Prop)->Prop
 |.skip,s,K=>K .normal s
 |.exit id,s,K=>K (.exit id) s
 |.ret,s,K=>K .ret s
 |.region _ ops true,s,K=>mb e ro ops.toList s (K .normal)
 |.region _ ops false,s,K=>ff e ro ops.toList ops.toList s.t s.n s.ds s.h (K .normal)
 |.seq a b,s,K=>RS e ro a s λx s1=>match x with|.normal=>RS e ro b s1 K|.exit i=>K (.exit i) s1|.ret=>K .ret s1
 |.cond c a b,s,K=>aO (aF e s.t c) λv=>match v with|.bool v=>(v=true->RS e ro a s K)/\(v=false->RS e ro b s K)|_=>False
 |.block id c,s,K=>RS e ro c s λx s1=>match x with|.normal=>K .normal s1|.exit i=>if i=id then K .normal s1 else K (.exit i) s1|.ret=>K .ret s1
 |.loop c,s,K=>∃k x s',nQ e ro c x s' k s/\K x s'
 |_,_,_=>False
def RS.rq:∀(c:Code) (s:aN) (K:bB->aN->Prop),RS e ro c s K->RQ e ro c s K:=by
 have mono:∀(c:Code) (s:aN) (K K':bB->aN->Prop),(∀x s,K x s->K' x s)->RQ e ro c s K->RQ e ro c s K':=by
  intro c;have L2:∀{ops r:List Oper} {s:aN} {K K':aN->Prop},(∀s,K s->K' s)->iS e ro ops r s K->iS e ro ops r s K':=by
   intro ops r
   induction r with
   |nil=>exactλhk h=>hk _ h
   |cons o r ih=>
    intro s K K' hk h;simp only[iS]at h⊢
    split at h
    . exact h
    . unfold ma at h⊢
      split at h
      . exact h
      . exact⟨_,h.choose_spec.1,ih hk h.choose_spec.2⟩
      . exact⟨_,h.choose_spec.1,ih hk h.choose_spec.2⟩
      . obtain⟨v,h',h1,s',h2,h3⟩:=h;exact⟨v,h',h1,s',h2,ih hk h3⟩
      . exact h
      . exact⟨h.1,_,h.2.choose_spec.1,ih hk h.2.choose_spec.2⟩
    . exact⟨_,h.choose_spec.1,ih hk h.choose_spec.2⟩
  induction c with
  |region id ops draw=>
   intro s K K' hk h;cases draw with
   |true=>
    refine⟨h.1, ?_⟩;have D:∀(l:List (Oper×Nat)) (i id:Nat) (x:cG) (A B:cG->Prop),(∀x,A x->B x)->ll e ro ops.toList l i id x A->ll e ro ops.toList l i id x B:=by
     intro l
     induction l with
     |nil=>exactλ_ _ _ _ _ hk h=>hk _ h
     |cons om r ih=>
      obtain⟨o,m⟩:=om;intro i id x A B hk h;simp only[ll]at h⊢;have P:∀{dst:Option Tmp} {v:Value} {s:aN} {F G:aN->Prop},(∀s,F s->G s)->gI dst v s F->gI dst v s G:=λan ⟨s',h1,h2⟩=>⟨s',h1,an _ h2⟩;unfold mR at h⊢
      split at h
      . exact h
      . split at h
        . exact P (λs=>ih _ _ _ _ _ hk) h
        . exact h
        . exact P (λs=>ih _ _ _ _ _ hk) h
      . split at h
        . split at h
          . exact P (λs=>ih _ _ _ _ _ hk) h
          . exact h
        . split at h
          . exact P (λs=>ih _ _ _ _ _ hk) h
          . exact h
        . split at h
          . exact h
          . exact P (λs=>ih _ _ _ _ _ hk) h
        . unfold ma at h⊢
          split at h
          . exact h
          . exact P (λs=>ih _ _ _ _ _ hk) h
          . exact P (λs=>ih _ _ _ _ _ hk) h
          . obtain⟨v,h',h1,h2⟩:=h;exact⟨v,h',h1,P (λs=>ih _ _ _ _ _ hk) h2⟩
          . exact h
          . exact⟨h.1,P (λs=>ih _ _ _ _ _ hk) h.2⟩
        . exact h
    exact D _ _ _ _ _ _ (λx hx=>⟨hx.1,hk _ _ hx.2⟩) h.2
   |false=>exact L2 (λs=>hk _ s) h
  |seq a b ad ae=>
   intro s K K' hk h;refine ad s _ _ (λx s1 h1=> ?_) h;cases x with
   |normal=>exact ae s1 K K' hk h1
   |exit i=>exact hk _ _ h1
   |ret=>exact hk _ _ h1
  |cond c a b ad ae=>exactλs K K' hk ⟨v,h1,h2,h3⟩=>⟨v,h1,λhv=>ad s K K' hk (h2 hv),λhv=>ae s K K' hk (h3 hv)⟩
  |block id c ih=>
   intro s K K' hk h;refine ih s _ _ (λx s1 h1=> ?_) h;cases x with
   |normal=>exact hk _ _ h1
   |exit i=>
    simp only at h1⊢
    split at h1<;>rename_i ak
    . rw[if_pos ak];exact hk _ _ h1
    . rw[if_neg ak];exact hk _ _ h1
   |ret=>exact hk _ _ h1
  |loop c ih=>exactλs K K' hk ⟨x,s',h1,h2⟩=>⟨x,s',h1,hk _ _ h2⟩
  |scope c ih=>exactλs K K' hk h=>ih s K K' hk h
  |skip=>exactλs K K' hk h=>hk _ _ h
  |label l=>exactλs K K' hk h=>hk _ _ h
  |exit id=>exactλs K K' hk h=>hk _ _ h
  |ret=>exactλs K K' hk h=>hk _ _ h
  |_=>exactλs K K' hk h=>h.elim
 intro c
 induction c with
 |region id ops draw=>
  intro s K h;cases draw with
  |true=>exact h
  |false=>exact ff.ql (n:=s.n) h
 |seq a b ad ae=>
  intro s K h;refine mono a s _ _ (λx s1 h1=> ?_) (ad s _ h);cases x with
  |normal=>exact ae s1 K h1
  |exit i=>exact h1
  |ret=>exact h1
 |cond c a b ad ae=>
  intro s K h;obtain⟨v,h1,h2⟩:=h;cases v with
  |bool v=>exact⟨v,h1,λhv=>ad s K (h2.1 hv),λhv=>ae s K (h2.2 hv)⟩
  |_=>exact h2.elim
 |block id c ih=>exactλs K h=>ih s _ h
 |loop c ih=>exactλs K ⟨k,x,s',h1,h2⟩=>⟨x,s',h1.runs k s,h2⟩
 |skip=>exactλs K h=>h
 |exit id=>exactλs K h=>h
 |ret=>exactλs K h=>h
 |_=>exactλs K h=>h.elim
def xE(e:Env)(ro:Option Nat)(b:Code)(K:bB->aN->Prop):bB->aN->Prop:=λx s1=>match x with|.normal=>RS e ro b s1 K|.exit i=>K (.exit i) s1|.ret=>K .ret s1
def xF(id:Nat)(K:bB->aN->Prop):bB->aN->Prop:=λx s1=>match x with|.normal=>K .normal s1|.exit i=>if i=id then K .normal s1 else K (.exit i) s1|.ret=>K .ret s1
def rV(e:Env)(ro:Option Nat)(a b:Code)(s:aN)(K:bB->aN->Prop):Value->Prop:=λv=>match v with|.bool v=>(v=true->RS e ro a s K)/\(v=false->RS e ro b s K)|_=>False
section
variable (s:aN) (K:bB->aN->Prop)
theorem OL(b:Code):xE e ro b K .normal s=RS e ro b s K:=rfl
theorem OM(b:Code)(i:Nat):xE e ro b K (.exit i) s=K (.exit i) s:=rfl
theorem ON(b:Code):xE e ro b K .ret s=K .ret s:=rfl
theorem OO(id:Nat):xF id K .normal s=K .normal s:=rfl
theorem OP(id i:Nat):xF id K (.exit i) s=if i=id then K .normal s else K (.exit i) s:=rfl
theorem OQ(id:Nat):xF id K .ret s=K .ret s:=rfl
def OR(a b:Code):rV e ro a b s K (.bool true)=RS e ro a s K:=by simp[rV]
def OS(a b:Code):rV e ro a b s K (.bool false)=RS e ro b s K:=by simp[rV]
def rV.mk{a b:Code}{p:Prop}[Decidable p](h1:p->RS e ro a s K)(h2:¬p->RS e ro b s K):rV e ro a b s K (.bool (decide p)):=⟨λh=>h1 (of_decide_eq_true h),λh=>h2 (of_decide_eq_false h)⟩
theorem OT:RS e ro .skip s K=K .normal s:=rfl
theorem OU(id:Nat):RS e ro (.exit id) s K=K (.exit id) s:=rfl
theorem OV:RS e ro .ret s K=K .ret s:=rfl
theorem OW(a b:Code):RS e ro (.seq a b) s K=RS e ro a s (xE e ro b K):=rfl
theorem OX(id:Nat)(c:Code):RS e ro (.block id c) s K=RS e ro c s (xF id K):=rfl
theorem OY(c:Operand)(a b:Code)(t:Tr Value)(n:Nat)(ds:List Deferred)(h:ab):RS e ro (.cond c a b) ⟨t,n,ds,h⟩ K=aO (aF e t c) (rV e ro a b ⟨t,n,ds,h⟩ K):=rfl
def OZ(id:Nat)(l:List Oper)(t:Tr Value)(n:Nat)(ds:List Deferred)(h:ab):RS e ro (.region id l.toArray false) ⟨t,n,ds,h⟩ K=ff e ro l l t n ds h (K .normal):=by simp[RS]
def O0(id:Nat)(l:List Oper):RS e ro (.region id l.toArray true) s K=mb e ro l s (K .normal):=by simp[RS]
end
def FB(he:e.Ok)(aa:e.P.follows .mixedOrders=true){c:Code}{s:aN}{P:bB->aN->Prop}(h:RS e ro c s λx s1=>match x with|.normal=>∃k x s',nQ e ro c x s' k s1/\P x s'|x=>P x s1):∃k x s',nQ e ro c x s' k s/\P x s':=by
 obtain⟨x,s1,h1,h2⟩:=RQ.runs he aa c s _ (RS.rq c s _ h);cases x with
 |normal=>
  obtain⟨k,x,s',h3,h4⟩:=h2;exact⟨k+1,x,s',⟨s1,h1,h3⟩,h4⟩
 |exit i=>exact⟨0,_,s1,⟨h1,aw⟩,h2⟩
 |ret=>exact⟨0,_,s1,⟨h1,aw⟩,h2⟩
def tB(e:Env)(ro:Option Nat)(c:Code)(P:bB->aN->Prop):bB->aN->Prop:=λx s1=>match x with|.normal=>∃k x s',nQ e ro c x s' k s1/\P x s'|x=>P x s1
theorem O2(c:Code)(P:bB->aN->Prop)(s:aN):tB e ro c P .normal s=RS e ro (.loop c) s P:=rfl
def O3(he:e.Ok)(aa:e.P.follows .mixedOrders=true){c:Code}{s:aN}{K:bB->aN->Prop}(h:RS e ro c s (tB e ro c K)):RS e ro (.loop c) s K:=FB he aa h
theorem O4(c:Code)(P:bB->aN->Prop)(s:aN)(i:Nat):tB e ro c P (.exit i) s=P (.exit i) s:=rfl
theorem O5(c:Code)(P:bB->aN->Prop)(s:aN):tB e ro c P .ret s=P .ret s:=rfl
def bU.O6(he:e.Ok)(aa:e.P.follows .mixedOrders=true)(ai:Idle e){f:FuncId}{fn:Func}{c:Code}{args:List Value}{h:ab}{K:Value->ab->Prop}(ao:e.fn f=some fn)(hb:fn.body=some c){n:Nat}(hn:fn.ntmps=n){rs:List ResultVar}(aq:fn.results=rs.toArray)
 (hq:RS e none c ⟨gY args,args.length+(n-args.length),[],h⟩ (oV e rs K)):∃v h',bU e f args h v h'/\K v h':=by
 refine bU.of he aa ai ao hb ?_;subst hn;rw[aq];exact RS.rq _ _ _ hq
end Go.aD
end
noncomputable section
namespace Go.aD
variable {e:Env} {ro:Option Nat}
theorem O7(t:Tr Value)(i:Nat):aF e t (.tmp i)=t.get i:=rfl
theorem O8(t:Tr Value)(f:FuncId):aF e t (.func f)=some (.func (.func f) #[] #[]):=rfl
theorem O9(t:Tr Value)(k:IntKind)(n:Int):aF e t (.const (.int k n))=some (.int k n):=rfl
theorem Pa(t:Tr Value)(b:Bool):aF e t (.const (.bool b))=some (.bool b):=rfl
theorem Pb(t:Tr Value)(s:ByteArray):aF e t (.const (.string s))=some (.string s):=rfl
theorem Pc(t:Tr Value):aF e t (.const (.pointer none))=some (.pointer none):=rfl
theorem Pd(t:Tr Value)(l k:Nat):aF e t (.const (.slice none l k))=some (.slice none l k):=rfl
theorem Pe(t:Tr Value):aF e t (.const (.map none))=some (.map none):=rfl
theorem Pf(t:Tr Value):aF e t (.const .nilFunc)=some .nilFunc:=rfl
theorem Pg(t:Tr Value):aF e t (.const .nilIface)=some .nilIface:=rfl
def As(e:Env)(t:Tr Value)(r:List Operand):Option Value->Option (List Value)
 |none=>none
 |some v=>(db e t r).map (v::·)
theorem Ph(t:Tr Value):db e t []=some []:=rfl
def Pj(t:Tr Value)(o:Operand)(r:List Operand):db e t (o::r)=As e t r (aF e t o):=by
 simp only[db,As];cases aF e t o with
 |none=>rfl
 |some v=>simp only;cases db e t r<;>rfl
theorem Pk(t:Tr Value)(r:List Operand)(v:Value):As e t r (some v)=(db e t r).map (v::·):=rfl
def At(e:Env)(t:Tr Value)(i:Nat)(r:List (Nat×Operand)):Option Value->Option (List (Nat×Value))
 |none=>none
 |some v=>(fG e t r).map ((i,v)::·)
theorem Pm(t:Tr Value):fG e t []=some []:=rfl
def Pn(t:Tr Value)(i:Nat)(o:Operand)(r:List (Nat×Operand)):fG e t ((i,o)::r)=At e t i r (aF e t o):=by
 simp only[fG,At];cases aF e t o with
 |none=>rfl
 |some v=>simp only;cases fG e t r<;>rfl
theorem Po(t:Tr Value)(i:Nat)(r:List (Nat×Operand))(v:Value):At e t i r (some v)=(fG e t r).map ((i,v)::·):=rfl
theorem Pp(t:Tr Value):iT e t none=some none:=rfl
theorem Pq(t:Tr Value)(o:Operand):iT e t (some o)=(aF e t o).map some:=rfl
theorem Pr(a:List Value):gY a=Tr.ofList a 0 .nil:=rfl
theorem ofList_nil(i:Nat)(t:Tr Value):Tr.ofList [] i t=t:=rfl
theorem ofList_cons(v:Value)(l:List Value)(i:Nat)(t:Tr Value):Tr.ofList (v::l) i t=Tr.ofList l (i+1) (t.set i (some v)):=rfl
theorem Ps(f:FuncId)(a c:Array Value)(args:List Value):qk (some (.func (.func f) a c)) (some args)=some (f,(a.toList++args)++c.toList):=rfl
def aG{x:Int}(h1:-9223372036854775808<=x)(h2:x<=9223372036854775807):IntKind.i64.wrap x=x:=by
 simp[IntKind.wrap,IntKind.bits,IntKind.signed];omega
section
variable (ty:TypeId) (x y:Operand) (k:IntKind) (n m:Int)
def Pt:cO e .add ty x y (.int k n) (.int k m)=some (.int k (k.wrap (n+m))):=by simp[cO,kY]
def Pu:cO e .sub ty x y (.int k n) (.int k m)=some (.int k (k.wrap (n-m))):=by simp[cO,kY]
def Pv:cO e .mul ty x y (.int k n) (.int k m)=some (.int k (k.wrap (n*m))):=by simp[cO,kY]
def Pw:cO e .eql ty x y (.int k n) (.int k m)=some (.bool (decide (n=m))):=by simp[cO,kY]
def Px:cO e .neq ty x y (.int k n) (.int k m)=some (.bool (!decide (n=m))):=by simp[cO,kY]
def Py:cO e .lss ty x y (.int k n) (.int k m)=some (.bool (decide (n<m))):=by simp[cO,kY]
def Pz:cO e .leq ty x y (.int k n) (.int k m)=some (.bool (decide (n<=m))):=by simp[cO,kY]
def PA:cO e .gtr ty x y (.int k n) (.int k m)=some (.bool (decide (m<n))):=by simp[cO,kY]
def PB:cO e .geq ty x y (.int k n) (.int k m)=some (.bool (decide (m<=n))):=by simp[cO,kY]
end
theorem PC(b:Bool):nR e .not (.bool b)=some (.bool (!b)):=rfl
theorem PD(a b:Option Value):rQ (some (.bool true)) a b=a:=rfl
theorem PE(a b:Option Value):rQ (some (.bool false)) a b=b:=rfl
theorem PF(a:Addr):rO (.pointer (some a))=some (.pointer (some a)):=rfl
theorem PG(f:FuncId)(a c:Array Value):rO (.func (.func f) a c)=some (.func (.func f) a c):=rfl
theorem PH(i:Nat)(vs:Array Value):rP i (.tuple vs)=vs[i]? :=rfl
theorem PK(f:FuncId)(a c:List Value):vo f (some a) (some c)=some (.func (.func f) a.toArray c.toArray):=rfl
def rW(b o n:Nat):Addr.add ⟨b,o,none⟩ n=⟨b,o+n,none⟩:=by
 unfold Addr.add
 split
 . rename_i h;subst h;rfl
 . rfl
def Au(b o:Nat):Option Nat->Option Value
 |none=>none
 |some k=>some (.pointer (some ⟨b,o+k,none⟩))
theorem PM(b o k:Nat):Au b o (some k)=some (.pointer (some ⟨b,o+k,none⟩)):=rfl
def Av(s f b o:Nat):rN e s f (.pointer (some ⟨b,o,none⟩))=Au b o (e.off s f):=by
 simp only[rN,iP];cases e.off s f with
 |none=>rfl
 |some k=>simp[Au,rW]
def Aw:Option (List Value)->Option Value
 |none=>none
 |some l=>some (.agg l.toArray)
theorem PN(l:List Value):Aw (some l)=some (.agg l.toArray):=rfl
theorem PO(h:ab)(b o:Nat):jE h b o 0=some []:=rfl
def Ax(h:ab)(b o n:Nat):Option Value->Option (List Value)
 |none=>none
 |some v=>(jE h b o n).map (v::·)
def PQ(h:ab)(b o n:Nat):jE h b o (n+1)=Ax h b (o+1) n (rd h b o):=by
 simp only[jE,Ax];cases rd h b o<;>rfl
theorem PR(h:ab)(b o n:Nat)(v:Value):Ax h b o n (some v)=(jE h b o n).map (v::·):=rfl
def xG(e:Env)(ty:TypeId)(h:ab)(b o:Nat):Option (Option Nat)->Option Value
 |some none=>rd h b o
 |some (some (n+1))=>match jE h b o (n+1)with
  |some l=>some (.agg l.toArray)
  |none=>iN e h ty ⟨b,o,none⟩
 |_=>iN e h ty ⟨b,o,none⟩
def xH(e:Env)(ty:TypeId)(h:ab)(b o:Nat):Option (List Value)->Option Value
 |some l=>some (.agg l.toArray)
 |none=>iN e h ty ⟨b,o,none⟩
def PS(ty:TypeId)(h:ab)(b o:Nat):mT e h ty (.pointer (some ⟨b,o,none⟩))=xG e ty h b o (e.ld ty):=by
 simp only[mT,iP];unfold xG
 split
 . rename_i hl;exact Ao hl
 . rename_i n hl
   split
   . rename_i l hr;exact NI hl hr
   . rfl
 . rfl
theorem PT(ty:TypeId)(h:ab)(b o:Nat):xG e ty h b o (some none)=rd h b o:=rfl
theorem PU(ty:TypeId)(h:ab)(b o n:Nat):xG e ty h b o (some (some (n+1)))=xH e ty h b o (jE h b o (n+1)):=rfl
theorem PW(ty:TypeId)(h:ab)(b o:Nat)(l:List Value):xH e ty h b o (some l)=some (.agg l.toArray):=rfl
def nU(b o len:Nat)(i:Int):Option Nat->Option Value
 |none=>none
 |some s=>if 0<=i/\i<len then some (.pointer (some ⟨b,o+i.toNat*s,none⟩))else none
def tC(b o len s:Nat)(i:Int)(h0:0<=i)(h1:i<len):nU b o len i (some s)=some (.pointer (some ⟨b,o+i.toNat*s,none⟩)):=by simp[nU,h0,h1]
def Ay(ty:TypeId)(b o len cap:Nat)(k:IntKind)(i:Int):oX e ty (.slice (some ⟨b,o,none⟩) len cap) (.int k i)=nU b o len i (e.elem ty):=by
 simp only[oX,intOf,Env.elem,nU];cases hu:e.under ty with
 |none=>rfl
 |some d=>
  cases d with
  |slice el=>
   simp only;cases e.size el with
   |none=>rfl
   |some s=>
    simp only[rW];by_cases h0:0<=i<;>by_cases h1:i<(len:Int)<;>simp[h0,h1]
  |_=>rfl
def nV(b o:Nat)(i:Int):Option (Nat×Nat)->Option Value
 |none=>none
 |some (n,s)=>if 0<=i/\i<n then some (.pointer (some ⟨b,o+i.toNat*s,none⟩))else none
def dV(b o n s:Nat)(i:Int)(h0:0<=i)(h1:i<n):nV b o i (some (n,s))=some (.pointer (some ⟨b,o+i.toNat*s,none⟩)):=by simp[nV,h0,h1]
def Az(ty:TypeId)(b o:Nat)(k:IntKind)(i:Int):oX e ty (.pointer (some ⟨b,o,none⟩)) (.int k i)=nV b o i (e.arr ty):=by
 simp only[oX,intOf,Env.arr,nV];cases hu:e.under ty with
 |none=>rfl
 |some d=>
  cases d with
  |array n el=>
   simp only;cases e.size el with
   |none=>rfl
   |some s=>
    simp only[rW];by_cases h0:0<=i<;>by_cases h1:i<(n:Int)<;>simp[h0,h1]
  |_=>rfl
def AA(e:Env)(h:ab)(ty:TypeId)(a:Option Addr)(l c:Nat):Option Nat->Option Value
 |some _=>some (.int .i64 l)
 |none=>fV e h ty (.slice a l c)
def xI(h:ab)(ty:TypeId)(a:Option Addr)(l c:Nat):fV e h ty (.slice a l c)=AA e h ty a l c (e.elem ty):=by
 cases hs:e.elem ty with
 |none=>rfl
 |some s=>
  simp only[AA];unfold Env.elem at hs
  split at hs
  . rename_i hu;simp[fV,hu]
  . cases hs
theorem PX(h:ab)(ty:TypeId)(a:Option Addr)(l c s:Nat):AA e h ty a l c (some s)=some (.int .i64 l):=rfl
def qn(h:ab)(o:bP):(h.new o).get h.next=some o:=by rw[ab.dN,if_pos rfl]
def bM(h:ab)(o:bP)(j:Nat)(hj:j≠h.next):(h.new o).get j=h.get j:=by rw[ab.dN,if_neg hj]
def eC(h:ab)(i:Nat)(o:Option bP):(h.set i o).get i=o:=by rw[ab.bu,if_pos rfl]
def bD(h:ab)(i j:Nat)(o:Option bP)(hj:j≠i):(h.set i o).get j=h.get j:=by rw[ab.bu,if_neg hj]
def PY(h:ab)(cs:List Value)(wr:Bool)(aj:Nat)(o:Nat):rd (h.new (.row cs wr aj)) h.next o=cs[o]? :=cY (qn _ _)
def dr(h:ab)(ob:bP)(j o:Nat)(hj:j≠h.next):rd (h.new ob) j o=rd h j o:=by unfold rd;rw[bM _ _ _ hj]
def FC(h:ab)(i:Nat)(cs:List Value)(wr:Bool)(aj:Nat)(o:Nat):rd (h.set i (some (.row cs wr aj))) i o=cs[o]? :=cY (eC _ _ _)
def ez(h:ab)(i j o:Nat)(ob:Option bP)(hj:j≠i):rd (h.set i ob) j o=rd h j o:=by unfold rd;rw[bD _ _ _ _ hj]
def vt:Option Value->Option (bP×(Nat->Value))
 |none=>none
 |some v=>some (.row v.cells.toList true 0,λi=>.pointer (some ⟨i,0,none⟩))
def PZ(t:Tr Value)(ty:TypeId)(x:Operand):cT e t (.box ty x)=vt (aF e t x):=by
 simp only[cT,vt];cases aF e t x<;>rfl
def P6(t:Tr Value)(ty:TypeId):cT e t (.alloc ty)=vt (e.zero ty):=by
 simp only[cT,vt];cases e.zero ty<;>rfl
theorem P7(v:Value):vt (some v)=some (.row v.cells.toList true 0,λi=>.pointer (some ⟨i,0,none⟩)):=rfl
theorem P8(cs:Array Value):(Value.agg cs).cells=cs:=rfl
theorem P9(k:IntKind)(n:Int):(Value.int k n).cells=#[.int k n]:=rfl
theorem Qa(b:Bool):(Value.bool b).cells=#[.bool b]:=rfl
theorem Qb(s:ByteArray):(Value.string s).cells=#[.string s]:=rfl
theorem Qc(a:Option Addr):(Value.pointer a).cells=#[.pointer a]:=rfl
theorem Qd(a:Option Addr)(l c:Nat):(Value.slice a l c).cells=#[.slice a l c]:=rfl
theorem Qe(a:Option Nat):(Value.map a).cells=#[.map a]:=rfl
theorem Qf(f:Fn)(a c:Array Value):(Value.func f a c).cells=#[.func f a c]:=rfl
theorem Qg:(Value.nilFunc).cells=#[.nilFunc]:=rfl
def FD{h:ab}{ty:TypeId}{n b o:Nat}{v:Value}(hs:e.size ty=some n)(hn:v.cells.toList.length=n)(h0:0<n):qj e h ty (some (.pointer (some ⟨b,o,none⟩))) (some v)=mS h b o v.cells.toList:=by
 simp only[qj,iP,oE,hs,<-hn,FQ,cond_true]
 match hc:v.cells.toList with
 |[]=>rw[hc]at hn;simp at hn;omega
 |w::vs=>exact Al
def xJ(e:Env)(h:ab)(ty:TypeId)(b o:Nat)(v:Value):Option Nat->Option ab
 |none=>none
 |some n=>if v.cells.toList.length=n/\0<n then mS h b o v.cells.toList else oE e h ty ⟨b,o,none⟩ v
def Qh(h:ab)(ty:TypeId)(b o:Nat)(v:Value):qj e h ty (some (.pointer (some ⟨b,o,none⟩))) (some v)=xJ e h ty b o v (e.size ty):=by
 cases hs:e.size ty with
 |none=>simp[qj,iP,oE,hs,xJ]
 |some n=>
  simp only[xJ]
  split
  . rename_i hc;exact FD hs hc.1 hc.2
  . rfl
theorem Qi(h:ab)(ty:TypeId)(b o:Nat)(v:Value)(n:Nat):xJ e h ty b o v (some n)=if v.cells.toList.length=n/\0<n then mS h b o v.cells.toList else oE e h ty ⟨b,o,none⟩ v:=rfl
def AB(h:ab)(b o:Nat)(vs:List Value):Option bP->Option ab
 |some (.row cs true aj)=>if o+vs.length<=cs.length/\vs.all dF=true then some (h.set b (some (.row (dM cs o vs) true aj)))else none
 |_=>none
def Qj(h:ab)(b o:Nat)(vs:List Value):mS h b o vs=AB h b o vs (h.get b):=by
 unfold mS AB;cases h.get b with
 |none=>rfl
 |some ob=>
  cases ob with
  |row cs wr aj=>cases wr<;>rfl
  |_=>rfl
theorem Qk(h:ab)(b o:Nat)(vs cs:List Value)(aj:Nat):AB h b o vs (some (.row cs true aj))=if o+vs.length<=cs.length/\vs.all dF=true then some (h.set b (some (.row (dM cs o vs) true aj)))else none:=rfl
theorem Ql(cs:List Value)(o:Nat)(vs:List Value):dM cs o vs=cs.take o++vs++cs.drop (o+vs.length):=rfl
def vu(e:Env)(s:aN)(r:List ResultVar):Option Value->Option (List Value)
 |none=>none
 |some v=>(iz e s r).map (v::·)
theorem Qm(s:aN):iz e s []=some []:=rfl
def FE(s:aN)(i:Nat)(r:List ResultVar):iz e s (.tmp i::r)=vu e s r (s.t.get i):=by
 simp only[iz,vu];cases s.t.get i with
 |none=>rfl
 |some v=>cases iz e s r<;>rfl
def FG(s:aN)(i ty:Nat)(r:List ResultVar):iz e s (.cell i ty::r)=vu e s r ((s.t.get i).bind (mT e s.h ty)):=by
 simp only[iz,vu];cases s.t.get i with
 |none=>rfl
 |some v=>
  simp only[afz];cases ha:iP v with
  |none=>simp[mT,ha]
  |some a=>cases hl:iN e s.h ty a<;>cases hr:iz e s r<;>simp[mT,ha,hl,hr]
theorem AD(s:aN)(r:List ResultVar)(v:Value):vu e s r (some v)=(iz e s r).map (v::·):=rfl
theorem Qn(k:IntKind)(n:Int):dF (.int k n)=true:=rfl
theorem Qo(b:Bool):dF (.bool b)=true:=rfl
theorem Qp(s:ByteArray):dF (.string s)=true:=rfl
theorem Qq(a:Option Addr):dF (.pointer a)=true:=rfl
theorem Qr(a:Option Addr)(l c:Nat):dF (.slice a l c)=true:=rfl
theorem Qs(a:Option Nat):dF (.map a)=true:=rfl
theorem Qt(f:Fn)(a c:Array Value):dF (.func f a c)=true:=rfl
theorem Qu:dF .nilFunc=true:=rfl
attribute [go_sem] gK NL NM NN NO NP NQ NR NS NT NV NW NY NZ N5 N6 N7 N8 N9 Oa Ob Oc Oe Of Og Oh Oi Oj Ol Om Oo Oq Ot Ou Ov Ow Ox Oy Oz OA OB OC OD OE OF OG OH OI OJ OK OL OM ON OO OP OQ OR OS OT OU OV OW OX OY OZ O0 O2 O4 O5 O7 O8 O9 Pa Pb Pc Pd Pe Pf Pg Ph Pj Pk Pm Pn Po Pp Pq Tr.bu Pr ofList_nil ofList_cons Ps Pt Pu Pv Pw Px Py Pz PA PB PC PD PE PF PG PH PK rW Av PM PS PT PU PW Ay Az PN PO PQ PR PY FC P7 PZ P6 P8 P9 Qa Qb Qc Qd Qe Qf Qg Qm FE FG AD ab.bm ab.aY xI PX tw Qh Qi Qj Qk Ql qn eC Qn Qo Qp Qq Qr Qs Qt Qu
end Go.aD
end
noncomputable section
namespace Go.aD
variable {e:Env} {ro:Option Nat}
structure Sub(h g:ab):Prop where
 next:h.next<=g.next
 get:∀i o,i<h.next->h.get i=some o->g.get i=some o
def Sub.refl(h:ab):Sub h h:=⟨YN _,λ_ _ _ h=>h⟩
def Sub.trans{h g k:ab}(a:Sub h g)(b:Sub g k):Sub h k:=⟨Nat.le_trans a.next b.next,λi o hi ho=>b.get i o (afD hi a.next) (a.get i o hi ho)⟩
def Sub.new{h g:ab}(a:Sub h g)(o:bP):Sub h (g.new o):=
 ⟨Nat.le_succ_of_le a.next,λi p hi hp=>by rw[bM _ _ _ (by have:=a.next;omega)];exact a.get i p hi hp⟩
def Sub.set{h g:ab}{i:Nat}(a:Sub h g)(hi:h.next<=i)(o:Option bP):Sub h (g.set i o):=
 ⟨a.next,λj p hj hp=>by rw[bD _ _ _ _ aa];exact a.get j p hj hp⟩
def Sub.rd{h g:ab}(a:Sub h g){b o:Nat}{v:Value}(hb:b<h.next)(hv:aD.rd h b o=some v):aD.rd g b o=some v:=by
 unfold aD.rd at hv⊢;cases hg:h.get b with
 |none=>simp[hg]at hv
 |some ob=>rw[a.get b ob hb hg];rw[hg]at hv;exact hv
def Qv(h:ab):Sub h h=True:=eq_true (Sub.refl h)
def Qw{h g:ab}(a:Sub h g)(o:bP):Sub h (g.new o)=True:=eq_true (a.new o)
def bU.still{f:FuncId}{args:List Value}{h:ab}{v:Value}{h1:ab}(hr:bU e f args h v h1)(hs:Sub h h1)
 (hv:∀ρ w (ad:List Value),Gl e ρ->bN ρ args ad->bz ρ h w->∃u,aR ρ v u):bU e f args h v h:=by
 refine⟨hr.1,λρ w ad hg ha x=>(hr.2 ρ w ad hg ha x).mono ?_⟩;rintro en w' ⟨v',ao,rfl,q1,q2,q3⟩;obtain⟨u,hu⟩:=hv ρ w ad.toList hg ha x;refine⟨v',ρ,rfl,hu.back q3.ext q1,⟨x.iA,λi o ho=> ?_,x.sep⟩,⟨Ext.refl _,q3.os,q3.output,q3.size,q3.frozen,q3.kept,λi o pl a b c=>.inl ⟨i,o,pl,a,b,c,rfl⟩,λ_ _ a _=>a,λ_ a b=>absurd a b,λ_ o a _=>⟨o,a⟩,YN _⟩⟩
 . obtain⟨pl,h2,h3⟩:=x.obj i o ho;obtain⟨pl',ae,ah⟩:=q2.obj i o (hs.get i o (x.iA i pl h2) ho);rw[q3.ext _ _ h2]at ae;cases ae;exact⟨pl,h2,h3.back q3.ext ah⟩
def bU.plain{f:FuncId}{args:List Value}{h:ab}{v:Value}{h1:ab}(hr:bU e f args h v h1)(hs:Sub h h1)(hv:aD.plain v=true):bU e f args h v h:=
 hr.still hs λρ _ _ _ _ _=>⟨v,nI hv⟩
def KR(K:Value->ab->Prop)(h:ab):List Value->Prop:=λvs=>K (j7 vs) h
theorem Qx(K:Value->ab->Prop)(h:ab)(vs:List Value):KR K h vs=K (j7 vs) h:=rfl
theorem Qy(v:Value):j7 [v]=v:=rfl
theorem Qz(v w:Value)(r:List Value):j7 (v::w::r)=.tuple (v::w::r).toArray:=rfl
theorem QA:j7 []=.tuple #[]:=rfl
def QB(rs:List ResultVar)(K:Value->ab->Prop)(t:Tr Value)(n:Nat)(h:ab):oV e rs K .ret ⟨t,n,[],h⟩=aO (iz e ⟨t,n,[],h⟩ rs) (KR K h):=by
 simp only[oV,kZ,KR,aO,afE];exact propext ⟨λ⟨_,h1,vs,e1,e2,e3⟩=>by subst e1;exact⟨vs,e2,e3⟩,λ⟨vs,e2,e3⟩=>⟨λi h=>(by cases h),h,vs,rfl,e2,e3⟩⟩
def rX(m:Nat)(l:dz):dz:=l.filter λq=> !m.testBit q.1
theorem QC(m:Nat):rX m []=[]:=rfl
def QD(m i id:Nat)(o:bP)(r:dz):rX m ((i,id,o)::r)=if m.testBit i=true then rX m r else(i,id,o)::rX m r:=by
 simp only[rX,List.filter_cons];cases m.testBit i<;>rfl
section
variable (ops:List Oper) (dst:Option Tmp) (op:Op) (ty:TypeId) (pos:String) (af:Array Edge) (r:List Oper) (m:Nat) (dy:Option (Nat×Nat)) (pl:List PI) (i id:Nat) (t:Tr Value) (n:Nat) (ds:List Deferred) (h:ab) (aA all:dz) (st:List (Nat×ab)) (sn:List (Tr Value)) (K:cG->Prop)
def AE(e:Env)(ro:Option Nat)(ops r:List Oper)(pl:List PI)(i id:Nat)(t:Tr Value)(n:Nat)(ds:List Deferred)(h:ab)(aA all:dz)(st:List (Nat×ab))(sn:List (Tr Value))(K:cG->Prop)(dst:Option Tmp):Value->Prop:=
 λv=>cA e ro ops r pl (i+1) id (bL dst v t) n ds h aA all st (t::sn) K
def FH(e:Env)(ro:Option Nat)(ops r:List Oper)(pl:List PI)(i id:Nat)(t:Tr Value)(n:Nat)(ds:List Deferred)(h:ab)(aA all:dz)(st:List (Nat×ab))(sn:List (Tr Value))(K:cG->Prop)(dst:Option Tmp):bP×(Nat->Value)->Prop:=
 λq=>cA e ro ops r pl (i+1) (id+1) (bL dst (q.2 id) t) n ds h ((i,id,q.1)::aA) ((i,id,q.1)::all) st (t::sn) K
def FI(e:Env)(ro:Option Nat)(ops r:List Oper)(m:Nat)(pl:List PI)(i id:Nat)(t:Tr Value)(n:Nat)(aA all:dz)(st:List (Nat×ab))(sn:List (Tr Value))(K:cG->Prop)(dst:Option Tmp):Kt:=
 λv ds h=>cA e ro ops r pl (i+1) id (bL dst v t) n ds h (aA.filter λq=> !m.testBit q.1) all ((RK ((st.head?.map (·.1)).getD 0) m,h)::st) (t::sn) K
theorem QE(v:Value):AE e ro ops r pl i id t n ds h aA all st sn K dst v=cA e ro ops r pl (i+1) id (bL dst v t) n ds h aA all st (t::sn) K:=rfl
theorem QF(o:bP)(f:Nat->Value):FH e ro ops r pl i id t n ds h aA all st sn K dst (o,f)=cA e ro ops r pl (i+1) (id+1) (bL dst (f id) t) n ds h ((i,id,o)::aA) ((i,id,o)::all) st (t::sn) K:=rfl
theorem QG(v:Value):FI e ro ops r m pl i id t n aA all st sn K dst v ds h=cA e ro ops r pl (i+1) id (bL dst v t) n ds h (rX m aA) all ((RK ((st.head?.map (·.1)).getD 0) m,h)::st) (t::sn) K:=rfl
def FJ:cA e ro ops [] pl i id t n ds h aA all st sn K=K ⟨⟨t,n,ds,h⟩,aA,all,st,sn⟩:=by cases pl<;>rfl
theorem QH:cA e ro ops (⟨dst,op,ty,pos,af,none⟩::r) (⟨.pure,m,dy⟩::pl) i id t n ds h aA all st sn K=(dA dst n/\aO (bI e h t op) (AE e ro ops r pl i id t n ds h aA all st sn K dst)):=rfl
theorem QI:cA e ro ops (⟨dst,op,ty,pos,af,none⟩::r) (⟨.read,m,dy⟩::pl) i id t n ds h aA all st sn K=(dA dst n/\aO (bI e (cr h m aA) t op) (AE e ro ops r pl i id t n ds h aA all st sn K dst)):=rfl
theorem QJ:cA e ro ops (⟨dst,op,ty,pos,af,none⟩::r) (⟨.alloc,m,dy⟩::pl) i id t n ds h aA all st sn K=(dA dst n/\aO (cT e t op) (FH e ro ops r pl i id t n ds h aA all st sn K dst)):=rfl
theorem QK:cA e ro ops (⟨dst,op,ty,pos,af,none⟩::r) (⟨.effect,m,dy⟩::pl) i id t n ds h aA all st sn K=(dA dst n/\bK e ro op t ds (cr h m aA) (FI e ro ops r m pl i id t n aA all st sn K dst)):=rfl
end
def tD(e:Env)(ro:Option Nat)(ops r:List Oper)(o:Oper)(p:PI)(pl:List PI)(i id:Nat)(t:Tr Value)(n:Nat)(ds:List Deferred)(h:ab)(aA all:dz)(st:List (Nat×ab))(sn:List (Tr Value))(K:cG->Prop)(w:Bool):Value->Prop:=λg=>match g with
 |.bool b=>(b=w->(match p.c with
 |.pure=>aO (bI e h t o.op) λv=>cA e ro ops r pl (i+1) id (bL o.dst v t) n ds h aA all st (t::sn) K
 |.read=>aO (bI e (cr h p.m aA) t o.op) λv=>cA e ro ops r pl (i+1) id (bL o.dst v t) n ds h aA all st (t::sn) K
 |.alloc=>aO (cT e t o.op) λq=>cA e ro ops r pl (i+1) (id+1) (bL o.dst (q.2 id) t) n ds h ((i,id,q.1)::aA) ((i,id,q.1)::all) st (t::sn) K
 |.effect=>bK e ro o.op t ds (cr h p.m aA) λv ds h=>cA e ro ops r pl (i+1) id (bL o.dst v t) n ds h (aA.filter λq=> !p.m.testBit q.1) all ((RK ((st.head?.map (·.1)).getD 0) p.m,h)::st) (t::sn) K
 |.bad=>False))/\(b= !w->(match p.c with
 |.effect=>cA e ro ops r pl (i+1) id (bL o.dst undef t) n ds h aA all (((st.head?.map (·.1)).getD 0,h)::st) (t::sn) K
 |.alloc=>cA e ro ops r pl (i+1) (id+1) (bL o.dst undef t) n ds h aA all st (t::sn) K
 |.bad=>False
 |_=>cA e ro ops r pl (i+1) id (bL o.dst undef t) n ds h aA all st (t::sn) K))
 |.tuple _=>(match p.c with
 |.effect=>cA e ro ops r pl (i+1) id (bL o.dst undef t) n ds h aA all (((st.head?.map (·.1)).getD 0,h)::st) (t::sn) K
 |.alloc=>cA e ro ops r pl (i+1) (id+1) (bL o.dst undef t) n ds h aA all st (t::sn) K
 |.bad=>False
 |_=>cA e ro ops r pl (i+1) id (bL o.dst undef t) n ds h aA all st (t::sn) K)
 |_=>False
def FK(e:Env)(ro:Option Nat)(ops r:List Oper)(o:Oper)(p:PI)(pl:List PI)(i id:Nat)(t:Tr Value)(n:Nat)(ds:List Deferred)(h:ab)(aA all:dz)(st:List (Nat×ab))(sn:List (Tr Value))(K:cG->Prop)(w:Bool):Tmp->Prop:=λd=>aO (t.get d) (tD e ro ops r o p pl i id t n ds h aA all st sn K w)
section
variable (ops:List Oper) (dst:Option Tmp) (op:Op) (ty:TypeId) (pos:String) (af:Array Edge) (r:List Oper) (m:Nat) (dy:Option (Nat×Nat)) (pl:List PI) (i id:Nat) (t:Tr Value) (n:Nat) (ds:List Deferred) (h:ab) (aA all:dz) (st:List (Nat×ab)) (sn:List (Tr Value)) (K:cG->Prop) (w:Bool)
theorem QL(j:Nat)(p:PI):cA e ro ops (⟨dst,op,ty,pos,af,some (j,w)⟩::r) (p::pl) i id t n ds h aA all st sn K=
 (dA dst n/\aO ((ops[j]?).bind (·.dst)) (FK e ro ops r ⟨dst,op,ty,pos,af,none⟩ p pl i id t n ds h aA all st sn K w)):=rfl
theorem QM(o:Oper)(p:PI)(d:Tmp):FK e ro ops r o p pl i id t n ds h aA all st sn K w d=aO (t.get d) (tD e ro ops r o p pl i id t n ds h aA all st sn K w):=rfl
theorem QN:tD e ro ops r ⟨dst,op,ty,pos,af,none⟩ ⟨.pure,m,dy⟩ pl i id t n ds h aA all st sn K w undef=cA e ro ops r pl (i+1) id (bL dst undef t) n ds h aA all st (t::sn) K:=rfl
theorem QO:tD e ro ops r ⟨dst,op,ty,pos,af,none⟩ ⟨.read,m,dy⟩ pl i id t n ds h aA all st sn K w undef=cA e ro ops r pl (i+1) id (bL dst undef t) n ds h aA all st (t::sn) K:=rfl
theorem QP:tD e ro ops r ⟨dst,op,ty,pos,af,none⟩ ⟨.alloc,m,dy⟩ pl i id t n ds h aA all st sn K w undef=cA e ro ops r pl (i+1) (id+1) (bL dst undef t) n ds h aA all st (t::sn) K:=rfl
theorem QQ:tD e ro ops r ⟨dst,op,ty,pos,af,none⟩ ⟨.effect,m,dy⟩ pl i id t n ds h aA all st sn K w undef=cA e ro ops r pl (i+1) id (bL dst undef t) n ds h aA all (((st.head?.map (·.1)).getD 0,h)::st) (t::sn) K:=rfl
end
theorem QR(h:ab)(m:Nat):cr h m []=h:=rfl
def AF(h:ab)(m i id:Nat)(o:bP)(r:dz):cr h m ((i,id,o)::r)=if m.testBit i=true then(cr h m r).set id (some o)else cr h m r:=by
 simp only[cr];cases m.testBit i<;>rfl
theorem QS(h:ab):fw h []=h:=rfl
theorem FN(h:ab)(i id:Nat)(o:bP)(r:dz):fw h ((i,id,o)::r)=(fw h r).set id (some o):=rfl
section
variable (h:ab) (t:Tr Value)
theorem QT(x:Operand):bI e h t (.move x)=aF e t x:=rfl
theorem QU(x:Operand):bI e h t (.assign x)=aF e t x:=rfl
theorem QV(c a b:Operand):bI e h t (.pick c a b)=rQ (aF e t c) (aF e t a) (aF e t b):=rfl
def QW(ty:TypeId)(l:List (Nat×Operand)):bI e h t (.build ty l.toArray)=mU e ty (fG e t l):=by simp[bI]
theorem QX(ty:TypeId)(a:Operand):bI e h t (.load ty a)=(aF e t a).bind (mT e h ty):=rfl
theorem QY(x:Operand):bI e h t (.nilCheck x)=(aF e t x).bind rO:=rfl
theorem QZ(op:BinOp)(ty:TypeId)(x y:Operand)(z:TypeId):bI e h t (.binOp op ty x y z)=gJ (cO e op ty x y) (aF e t x) (aF e t y):=rfl
theorem Q0(op:UnOp)(ty:TypeId)(x:Operand):bI e h t (.unOp op ty x)=(aF e t x).bind (nR e op):=rfl
theorem Q2(s d:TypeId)(x:Operand):bI e h t (.convert s d x)=(aF e t x).bind (oW e h s d):=rfl
theorem Q3(ty:TypeId)(x:Operand):bI e h t (.makeInterface ty x)=(aF e t x).bind (vn e ty):=rfl
theorem Q7(ty:TypeId)(x:Operand)(lo hi mx:Option Operand):bI e h t (.slice ty x lo hi mx)=tz e h ty (aF e t x) (iT e t lo) (iT e t hi) (iT e t mx):=rfl
theorem Q8(s:TypeId)(x:Operand)(f:Nat):bI e h t (.fieldAddr s x f)=(aF e t x).bind (rN e s f):=rfl
theorem Q9(ty:TypeId)(x:Operand)(f:Nat):bI e h t (.field ty x f)=(aF e t x).bind (tx e ty f):=rfl
theorem Ra(ty:TypeId)(x ix:Operand):bI e h t (.indexAddr ty x ix)=gJ (oX e ty) (aF e t x) (aF e t ix):=rfl
theorem Rb(ty:TypeId)(x ix:Operand):bI e h t (.index ty x ix)=gJ (oY e ty) (aF e t x) (aF e t ix):=rfl
theorem Rc(ty:TypeId)(m k:Operand)(ok:Bool):bI e h t (.lookup ty m k ok)=gJ (nS e h ty ok) (aF e t m) (aF e t k):=rfl
theorem Re(x:Operand)(i:Nat):bI e h t (.extract x i)=(aF e t x).bind (rP i):=rfl
def Rf(e:Env)(h:ab)(ty:TypeId):Option Value->Option Value
 |none=>none
 |some x=>fV e h ty x
theorem Rg(ty:TypeId)(x:Value):Rf e h ty (some x)=fV e h ty x:=rfl
def Rh(args:List Operand)(ai:Array TypeId):bI e h t (.call ⟨.builtin .min,args.toArray,ai⟩)=(db e t args).bind (qi e):=by simp[bI]
end
def ab.bump(h:ab)(n:Nat):ab:={h with next:=h.next+n}
theorem Ri(h:ab):h.bump 0=h:=rfl
theorem Rj(h:ab)(o:bP):(h.bump 1).set h.next (some o)=h.new o:=rfl
theorem bQ(h:ab)(n:Nat):(h.bump n).next=h.next+n:=rfl
theorem Rk(h:ab)(n i:Nat):(h.bump n).get i=h.get i:=rfl
theorem Rm(h:ab)(n i o:Nat):rd (h.bump n) i o=rd h i o:=rfl
def Sub.bump{h g:ab}(a:Sub h g)(n:Nat):Sub h (g.bump n):=⟨Nat.le_trans a.next (Nat.le_add_right _ _),a.get⟩
def KD(e:Env)(ops:List Oper)(pl:List PI)(K:aN->Prop):cG->Prop:=λx=>gL e ops x.s.t x.all x.bJ.reverse ops pl x.di.reverse/\K {x.s with h:=fw x.s.h x.aA}
theorem Rn(ops:List Oper)(pl:List PI)(K:aN->Prop)(t:Tr Value)(n:Nat)(ds:List Deferred)(h:ab)(aA all:dz)(st:List (Nat×ab))(sn:List (Tr Value)):
 KD e ops pl K ⟨⟨t,n,ds,h⟩,aA,all,st,sn⟩=(gL e ops t all st.reverse ops pl sn.reverse/\K ⟨t,n,ds,fw h aA⟩):=rfl
def ln{ops:List Oper}{t:Tr Value}{n:Nat}{ds:List Deferred}{h:ab}{K:aN->Prop}(pl:List PI)(ak:rT ops true pl=true)(na:Nat)(an:qG (ops.filter λo=>cls o.op==.alloc).length na=true)
 (hs:cA e ro ops ops pl 0 h.next t n ds (h.bump na) [] [] [(0,h.bump na)] [] (KD e ops pl K)):mb e ro ops ⟨t,n,ds,h⟩ K:=NK pl ak na an hs
section
variable (ops:List Oper) (tf:Tr Value) (all:dz) (st:List (Nat×ab)) (o:Oper) (dst:Option Tmp) (op:Op) (ty:TypeId) (pos:String) (af:Array Edge) (g:Option (Nat×Bool)) (r:List Oper) (c:s9) (m:Nat) (pl:List PI) (t:Tr Value) (ts:List (Tr Value)) (v:Value)
def vv(e:Env)(o:Oper)(m:Nat)(t:Tr Value)(all:dz)(l:List (Nat×ab)):Value->Prop:=λv=>pa e o m t v all l
def xK(e:Env)(o:Oper)(m:Nat)(t tf:Tr Value)(all:dz)(l:List (Nat×ab)):Prop:=aO o.dst λd=>aO (tf.get d) (vv e o m t all l)
def xL(w:Option Bool)(X:Prop):Prop:=match w with|some true=>X|some false=>True|none=>False
theorem Ro(X:Prop):xL (some true) X=X:=rfl
theorem Rp(X:Prop):xL (some false) X=True:=rfl
def xM(w:Bool):Option Value->Option Bool
 |some (.bool b)=>some (b==w)
 |some (.tuple _)=>some false
 |_=>none
def Rq(t:Tr Value)(w:Bool):Option Tmp->Option Bool
 |none=>none
 |some d=>xM w (t.get d)
theorem Rr(w:Bool)(d:Tmp):Rq t w (some d)=xM w (t.get d):=rfl
theorem Rs(w b:Bool):xM w (some (.bool b))=some (b==w):=rfl
theorem Rt(w:Bool):xM w (some undef)=some false:=rfl
theorem Ru(s:aN):cX ops s ⟨dst,op,ty,pos,af,none⟩=some true:=rfl
theorem Rv:vv e o m t all st v=pa e o m t v all st:=rfl
def Rw(d:Tmp):xK e ⟨some d,op,ty,pos,af,g⟩ m t tf all st=aO (tf.get d) (vv e ⟨some d,op,ty,pos,af,g⟩ m t all st):=by simp[xK,gK]
theorem Rx:pa e o m t v all []=True:=rfl
theorem Ry(q:Nat×ab)(l:List (Nat×ab)):pa e ⟨dst,op,ty,pos,af,g⟩ m t v all (q::l)=(bI e (cr q.2 m (rX q.1 all)) t op=some v/\pa e ⟨dst,op,ty,pos,af,g⟩ m t v all l):=rfl
def Rz:gL e ops tf all st [] pl ts=True:=by simp[gL]
def RA:gL e ops tf all st (o::r) (⟨c,m,none⟩::pl) (t::ts)=gL e ops tf all st r pl ts:=by simp[gL]
def RB(lo k:Nat):gL e ops tf all st (o::r) (⟨c,m,some (lo,k)⟩::pl) (t::ts)=(xL (cX ops ⟨t,0,[],{m:=.nil,next:=0}⟩ o) (xK e o m t tf all ((st.drop lo).take k))/\gL e ops tf all st r pl ts):=by
 simp only[gL,xL,xK,vv];congr 1;cases cX ops ⟨t,0,[],{m:=.nil,next:=0}⟩ o with
 |none=>rfl
 |some b=>
  cases b with
  |false=>rfl
  |true=>
   simp only;cases o.dst with
   |none=>simp[aO]
   |some d=>
    simp only[gK];cases tf.get d with
    |none=>simp[aO]
    |some v=>simp[gK,vv]
end
attribute [go_sem] QC QD Ri Rj bQ Rk Rm Rn Ro Rp Rr Rs Rt Ru Rv Rw Rx Ry Rz RA RB Qv Qw Qx Qy Qz QA QB QE QF QG FJ QH QI QJ QK QL QM QN QO QP QQ QR AF QS FN QT QU QV QW QX QY QZ Q0 Q2 Q3 Q7 Q8 Q9 Ra Rb Rc Re Rg Rh
abbrev bg(m:Nat):PI:=⟨.pure,m,none⟩
abbrev dQ(m:Nat):PI:=⟨.read,m,none⟩
abbrev fY(m:Nat):PI:=⟨.effect,m,none⟩
abbrev AG(m:Nat):PI:=⟨.alloc,m,none⟩
attribute [go_sem] bg dQ fY AG
end Go.aD
end
noncomputable section
open Go Go.aD Go.Proofs
namespace Go.Sp
def tt:Tr TypeInfo:=Tr.ofList Tryz.prog.types.toList 0 .nil
def ft:Tr Func:=Tr.ofList Tryz.prog.funcs.toList 0 .nil
def idle(g:Nat):Bool:=qG g 107
def vw(ks:List vm):Env:=oU Tryz.prog tt ft idle 2 (xy ks)
def E:Env:=vw []
def tE(ks:List vm):Idle (vw ks):=by
 intro g hg args w n;obtain rfl:g=107:=yy hg;refine⟨args,enters_of Tryz.func107 ak rfl args w, ?_⟩;have ah:Sem.run Tryz.prog (binOp BinOp.neq 20 Value.nilIface Value.nilIface) w=.ok (.bool false) w:=by simp[go_sem,Tryz.underlying20]
 show CallsDIn Fence.wide n Tryz.prog 107 args .returning w _;refine callsDIn_of_wpSIn Tryz.func107 rfl trivial λad cs hu=> ?_;have hT:17<=(args++adv (Tryz.f107.ntmps-args.size) undef).size:=by
  have:Tryz.f107.ntmps=17:=Tryz.ntmps107;simp[this];omega
 generalize (args++adv (Tryz.f107.ntmps-args.size) undef)=T at hT⊢;have t4:4<T.size:=aa;have t1:1<T.size:=aa;have t5:5<T.size:=aa;have t6:6<T.size:=aa;apply wpSIn_seq;apply wpSIn_region;simp[wpOpsSIn,go_sem,recoverD,hu,Exit.thenS,t4,t1];apply wpSIn_seq;apply wpSIn_region;simp[wpOpsSIn,go_sem,Exit.thenS,t4,t1,t5,t6,ah];refine wpSIn_cond (t:=false) (by simp[Act.eval,t6]) ?_;simp only[Bool.false_eq_true,if_false];refine wpSIn_of_wpIn rfl (wpIn_skip ?_);cases ad;simp_all[bodyPostS,results,Tryz.results107]
def RE:Fq tt Tryz.prog.types.toList=true:=ak
def RF:Fs Tryz.prog.funcs.toList=true:=ak
def lH:Tryz.prog.follows .mixedOrders=true:=ak
def kG(ks:List vm):(vw ks).Ok:=NC idle 2 (xy ks) rfl rfl RE RF
def run{f:FuncId}{fn:Func}{c:Code}{args:List Value}{h:ab}{K:Value->ab->Prop}{n:Nat}(hn:fn.ntmps=n){rs:List ResultVar}(ae:fn.results=rs.toArray)
 (hq:RS E none c ⟨gY args,args.length+(n-args.length),[],h⟩ (oV E rs K)) (af:E.fn f=some fn:=by kernel_rfl) (hb:fn.body=some c:=by rfl):∃v h',bU E f args h v h'/\K v h':=bU.O6 (kG []) lH (tE []) af hb hn ae hq
def xN{ro:Option Nat}{c:Code}{s:aN}{K:bB->aN->Prop}(h:RS E ro c s (tB E ro c K)):RS E ro (.loop c) s K:=O3 (kG []) lH h
def step{ro:Option Nat}{c:Code}{s:aN}{P:bB->aN->Prop}(h:RS E ro c s (tB E ro c P)):∃k x s',nQ E ro c x s' k s/\P x s':=FB (kG []) lH h
def mg{f:FuncId}{fn:Func}{c:Code}{args:List Value}{h:ab}{v:Value}{n:Nat}(hn:fn.ntmps=n){rs:List ResultVar}(ae:fn.results=rs.toArray)(hv:plain v=true)
 (hq:RS E none c ⟨gY args,args.length+(n-args.length),[],h⟩ (oV E rs λv' h'=>v'=v/\Sub h h')) (af:E.fn f=some fn:=by kernel_rfl) (hb:fn.body=some c:=by rfl):bU E f args h v h:=by
 obtain⟨v',h',h1,rfl,h2⟩:=run hn ae hq af hb;exact h1.plain h2 hv
attribute [go_sem] List.getElem?_cons_zero List.getElem?_cons_succ
end Go.Sp
end
noncomputable section
namespace Go.aD
def dB(h:ab)(o:bP)(j:Nat)(hj:¬j≠h.next):(h.new o).get j=some o:=by rw[show j=h.next by omega];exact qn h o
def gM(h:ab)(cs:List Value)(wr:Bool)(aj:Nat)(j o:Nat)(hj:¬j≠h.next):rd (h.new (.row cs wr aj)) j o=cs[o]? :=cY (dB h _ j hj)
def kH(k:Nat)(h:ab)(v:Value)(cs:List (List Value)):Prop:=
 (cs=[]/\∃a c,v=.slice a 0 c)\/∃b o c,v=.slice (some ⟨b,o,none⟩) cs.length c/\b<h.next/\∀j x,cs[j]? =some x->∀i u,x[i]? =some u->rd h b (o+j*k+i)=some u
def kH.sub{k:Nat}{h g:ab}{v:Value}{cs:List (List Value)}(hs:kH k h v cs)(a:Sub h g):kH k g v cs:=by
 rcases hs with hs|⟨b,o,c,h1,h2,h3⟩
 . exact .inl hs
 . exact .inr ⟨b,o,c,h1,afD h2 a.next,λj x hj i u hi=>a.rd h2 (h3 j x hj i u hi)⟩
def kH.at{k:Nat}{h:ab}{v:Value}{cs:List (List Value)}(hs:kH k h v cs){j:Nat}{x:List Value}(hj:cs[j]? =some x):
 ∃b o c,v=.slice (some ⟨b,o,none⟩) cs.length c/\b<h.next/\j<cs.length/\∀i u,x[i]? =some u->rd h b (o+j*k+i)=some u:=by
 rcases hs with⟨rfl,_⟩|⟨b,o,c,h1,h2,h3⟩
 . cases hj
 . exact⟨b,o,c,h1,h2,(List.getElem?_eq_some_iff.1 hj).1,λi u hi=>h3 j x hj i u hi⟩
def kH.cell{k:Nat}{h:ab}{b o c n:Nat}{cs:List (List Value)}(hs:kH k h (.slice (some ⟨b,o,none⟩) n c) cs){j:Nat}{x:List Value}(hj:cs[j]? =some x){i:Nat}{u:Value}(hi:x[i]? =some u):rd h b (o+j*k+i)=some u:=by
 obtain⟨b',o',c',e,_,_,h3⟩:=hs.at hj;cases e;exact h3 i u hi
variable {e:Env} {ro:Option Nat}
def Env.place(e:Env)(t i:Nat):Option (Nat×Nat):=
 match e.under t with
 |some (.struct fields)=>kA e fields i
 |some (.array _ elem)=>match e.size elem with
  |none=>none
  |some s=>some (i*s,s)
 |_=>none
def qo(e:Env)(t:TypeId)(cells:List Value)(ps:List (Nat×Value)):Option (List Value):=jc (e.place t) cells ps
def AH(e:Env)(t:TypeId)(cells:List Value)(v:Value)(r:List (Nat×Value)):Option (Nat×Nat)->Option (List Value)
 |none=>none
 |some (off,size)=>if v.cells.toList.length=size/\off+size<=cells.length then qo e t (dM cells off v.cells.toList) r else none
theorem RG(t:TypeId)(cells:List Value):qo e t cells []=some cells:=rfl
def RH(t:TypeId)(cells:List Value)(i:Nat)(v:Value)(r:List (Nat×Value)):qo e t cells ((i,v)::r)=AH e t cells v r (e.place t i):=by
 simp only[qo,jc,AH];cases e.place t i with
 |none=>rfl
 |some p=>
  obtain⟨off,size⟩:=p;simp only;by_cases h1:v.cells.toList.length=size<;>by_cases h2:off+size<=cells.length
  . rw[if_pos ⟨h1,h2⟩];simp only[h1,FQ,KE h2,yB,cond_true]
  . rw[if_neg (λh=>h2 h.2)];have:E2 (off+size) cells.length=false:=by
     cases hb:E2 (off+size) cells.length with
     |false=>rfl
     |true=>exact absurd (RW hb) h2
    simp only[this,afF,cond_false]
  . rw[if_neg (λh=>h1 h.1)];have:qG v.cells.toList.length size=false:=by
     cases hb:qG v.cells.toList.length size with
     |false=>rfl
     |true=>exact absurd (yy hb) h1
    simp only[this,afG,cond_false]
  . rw[if_neg (λh=>h1 h.1)];have:qG v.cells.toList.length size=false:=by
     cases hb:qG v.cells.toList.length size with
     |false=>rfl
     |true=>exact absurd (yy hb) h1
    simp only[this,afG,cond_false]
theorem RI(t:TypeId)(cells:List Value)(v:Value)(r:List (Nat×Value))(off size:Nat):AH e t cells v r (some (off,size))=if v.cells.toList.length=size/\off+size<=cells.length then qo e t (dM cells off v.cells.toList) r else none:=rfl
def rY(e:Env)(t:TypeId)(ps:List (Nat×Value)):Option Value->Option Value
 |none=>none
 |some z=>Aw (qo e t z.cells.toList ps)
theorem RJ(t:TypeId)(ps:List (Nat×Value))(z:Value):rY e t ps (some z)=Aw (qo e t z.cells.toList ps):=rfl
def xO{t:TypeId}(ps:List (Nat×Value))(h:(e.place t 0).isSome=true)(hs:∃d,e.under t=some d/\jZ d=true):mU e t (some ps)=rY e t ps (e.zero t):=by
 obtain⟨d,hd,ha⟩:=hs;simp only[mU,pY,rY,qo,hd];cases hz:e.zero t with
 |none=>rfl
 |some z=>
  cases d with
  |struct fields=>
   have:e.place t=kA e fields:=by funext i;simp[Env.place,hd]
   simp only[this];cases jc (kA e fields) z.cells.toList ps<;>rfl
  |array n el=>
   simp only;cases he:e.size el with
   |none=>
    simp only;have hp:e.place t=λ_=>none:=by funext i;simp[Env.place,hd,he]
    rw[hp]at h;cases h
   |some s=>
    have:e.place t=λi=>some (i*s,s):=by funext i;simp[Env.place,hd,he]
    simp only[this];cases jc (λi=>some (i*s,s)) z.cells.toList ps<;>rfl
  |_=>cases ha
attribute [go_sem] RG RH RI RJ
end Go.aD
end
noncomputable section
namespace Go.aD
variable {e:Env} {ro:Option Nat}
def mV(e:Env)(ty:TypeId)(ok:Bool)(k:Value):Option bP->Option Value
 |some (.map es _)=>match e.under ty with
  |some (.map kt et)=>match e.under kt with
   |none=>none
   |some kd=>bif plain k&&nF kd k then match b9 e.P (Instr.checkKey es.isEmpty 10000 kt k)with
    |none=>none
    |some _=>match gF e.P kt k es 0 with
     |none=>none
     |some (some (_,v))=>some (bif ok then .tuple #[v,.bool true]else v)
     |some none=>match e.zero et with
      |none=>none
      |some z=>bif plain z then some (bif ok then .tuple #[z,.bool false]else z)else none
    else none
  |_=>none
 |_=>none
def xP(h:ab)(ty:TypeId)(ok:Bool)(r:Nat)(k:Value):nS e h ty ok (.map (some r)) k=mV e ty ok k (h.get r):=by
 simp only[nS,pZ,mV];cases hu:e.under ty with
 |none=>cases h.get r with
  |none=>rfl
  |some o=>cases o<;>rfl
 |some d=>
  cases d with
  |map kt et=>
   simp only;cases h.get r with
   |none=>rfl
   |some o=>cases o<;>rfl
  |_=>cases h.get r with
   |none=>rfl
   |some o=>cases o<;>rfl
def nW(e:Env)(ty:TypeId)(k v:Value)(es:List MapEntry)(clock:Nat):Option bP:=
 match e.under ty with
 |some (.map kt _)=>match e.under kt with
  |none=>none
  |some kd=>bif plain k&&nF kd k then match b9 e.P (Instr.checkKey false 10000 kt k)with
   |none=>none
   |some _=>match gF e.P kt k es 0 with
    |none=>none
    |some (some (i,_))=>bif Instr.sameBits 10000 (((es[i]?).map (·.key)).getD k) k then
     some (.map (es.modify i λx=>{x with key:=k,val:=v}) clock)
     else none
    |some none=>some (.map (es++[{key:=k,val:=v,born:=clock}]) (clock+1))
   else none
 |_=>none
def AI(e:Env)(ty:TypeId)(k v:Value)(h:ab)(r:Nat):Option bP->Option ab
 |some (.map es clock)=>(nW e ty k v es clock).map λo=>h.set r (some o)
 |_=>none
def FO(h:ab)(ty:TypeId)(r:Nat)(k v:Value):oZ e h ty (some (.map (some r))) (some k) (some v)=AI e ty k v h r (h.get r):=by
 simp only[oZ,qZ,AI,nW];cases hu:e.under ty with
 |none=>cases h.get r with
  |none=>rfl
  |some o=>cases o<;>rfl
 |some d=>
  cases d with
  |map kt et=>
   simp only;cases h.get r with
   |none=>rfl
   |some o=>
    cases o with
    |map es clock=>
     simp only;cases e.under kt with
     |none=>rfl
     |some kd=>
      simp only;cases plain k&&nF kd k with
      |false=>rfl
      |true=>
       simp only[cond_true];cases b9 e.P (Instr.checkKey false 10000 kt k)with
       |none=>rfl
       |some u=>
        simp only;cases gF e.P kt k es 0 with
        |none=>rfl
        |some p=>
         cases p with
         |none=>rfl
         |some q=>
          simp only;cases Instr.sameBits 10000 (((es[q.1]?).map (·.key)).getD k) k<;>rfl
    |_=>rfl
  |_=>cases h.get r with
   |none=>rfl
   |some o=>cases o<;>rfl
theorem FP(ty:TypeId)(k v:Value)(h:ab)(r:Nat)(es:List MapEntry)(clock:Nat):AI e ty k v h r (some (.map es clock))=(nW e ty k v es clock).map λo=>h.set r (some o):=rfl
section
variable {κ ν:Type} [DecidableEq κ]
def bj(l:List (κ×ν))(a:κ):Option ν:=
 match l with
 |[]=>none
 |(k,v)::r=>if a=k then some v else bj r a
def put(l:List (κ×ν))(a:κ)(v:ν):List (κ×ν):=
 match l with
 |[]=>[(a,v)]
 |(k,w)::r=>if a=k then(a,v)::r else(k,w)::put r a v
def mW(l:List (κ×ν))(a b:κ)(v:ν):bj (put l a v) b=if b=a then some v else bj l b:=by
 induction l with
 |nil=>simp[put,bj]
 |cons p r ih=>
  obtain⟨k,w⟩:=p;simp only[put]
  split
  . rename_i h;subst h;simp only[bj]
    split<;>rfl
  . rename_i h;simp only[bj,ih]
    split
    . rename_i h2;subst h2;rw[if_neg (λh3=>h h3.symm)]
    . rfl
def qp{l:List (κ×ν)}{a:κ}{v:ν}(h:bj l a=none):put l a v=l++[(a,v)]:=by
 induction l with
 |nil=>rfl
 |cons p r ih=>
  obtain⟨k,w⟩:=p;simp only[bj]at h
  split at h
  . cases h
  . rename_i hk;simp only[put,if_neg hk,List.cons_append,ih h]
structure kI(e:Env)(kt:TypeId)(kf:κ->Value):Prop where
 kd:∃kd,e.under kt=some kd/\∀k,nF kd (kf k)=true
 plain:∀k,aD.plain (kf k)=true
 check:∀k b,∃u,b9 e.P (Instr.checkKey b 10000 kt (kf k))=some u
 eq:∀a b,kB e.P kt (kf a) (kf b)=some (decide (a=b))
 bits:∀k,Instr.sameBits 10000 (kf k) (kf k)=true
def j8(kf:κ->Value)(vf:ν->Value)(es:List MapEntry)(l:List (κ×ν)):Prop:=es.map (λx=>(x.key,x.val))=l.map λp=>(kf p.1,vf p.2)
def xQ{kt:TypeId}{kf:κ->Value}{vf:ν->Value}(hk:kI e kt kf):∀{es:List MapEntry} {l:List (κ×ν)} (a:κ) (i:Nat),j8 kf vf es l->∃r,gF e.P kt (kf a) es i=some r/\
 (match bj l a with|none=>r=none|some v=>∃j,r=some (i+j,vf v)/\∃x,es[j]? =some x/\x.key=kf a/\∀w,j8 kf vf (es.modify j λx=>{x with key:=kf a,val:=vf w}) (put l a w))
 |[],[],a,i,_=>⟨none,rfl,by simp[bj]⟩
 |[],_::_,a,i,h=>by simp[j8]at h
 |_::_,[],a,i,h=>by simp[j8]at h
 |x::es,(k,v)::l,a,i,h=>by
  simp only[j8,afj,List.cons.injEq,Prod.mk.injEq]at h;obtain⟨⟨h1,h2⟩,h3⟩:=h;simp only[gF,h1,hk.eq];by_cases e1:a=k
  . subst e1;simp only[decide_true,bj,if_true];refine⟨_,rfl,0,by rw[h2];rfl,x,rfl,h1,λw=> ?_⟩;simp only[j8,put,if_true,afj,List.modify_cons,if_pos];exact congrArg _ h3
  . simp only[e1,decide_false,bj,if_false];obtain⟨r,h4,h5⟩:=xQ hk (vf:=vf) a (i+1) (show j8 kf vf es l from h3);refine⟨r,h4, ?_⟩;cases ha:bj l a with
    |none=>simpa[ha]using h5
    |some v'=>
     simp only[ha]at h5⊢;obtain⟨j,h6,y,h7,h8,h9⟩:=h5;refine⟨j+1,by rw[h6];congr 2;omega,y,h7,h8,λw=> ?_⟩;have:=h9 w;simp only[j8]at this⊢;simp only[put,if_neg e1,afj,List.modify_succ_cons,this,h1,h2]
def xR{ty kt et:TypeId}{kf:κ->Value}{vf:ν->Value}(hk:kI e kt kf)(hu:e.under ty=some (.map kt et)){es:List MapEntry}{l:List (κ×ν)}(hl:j8 kf vf es l)(a:κ)(ok:Bool)(clock:Nat){v:ν}(hv:bj l a=some v):
 mV e ty ok (kf a) (some (.map es clock))=some (bif ok then .tuple #[vf v,.bool true]else vf v):=by
 obtain⟨kd,h1,h2⟩:=hk.kd;obtain⟨u,h3⟩:=hk.check a es.isEmpty;obtain⟨r,h4,h5⟩:=xQ hk (vf:=vf) a 0 hl;rw[hv]at h5;obtain⟨j,rfl,_⟩:=h5;simp only[mV,hu,h1,hk.plain,h2,yB,cond_true,h3,h4]
def AJ{ty kt et:TypeId}{kf:κ->Value}{vf:ν->Value}(hk:kI e kt kf)(hu:e.under ty=some (.map kt et)){es:List MapEntry}{l:List (κ×ν)}(hl:j8 kf vf es l)(a:κ)(ok:Bool)(clock:Nat){z:Value}(hz:e.zero et=some z)(hp:aD.plain z=true)(hv:bj l a=none):
 mV e ty ok (kf a) (some (.map es clock))=some (bif ok then .tuple #[z,.bool false]else z):=by
 obtain⟨kd,h1,h2⟩:=hk.kd;obtain⟨u,h3⟩:=hk.check a es.isEmpty;obtain⟨r,h4,h5⟩:=xQ hk (vf:=vf) a 0 hl;rw[hv]at h5;simp only at h5;subst h5;simp only[mV,hu,h1,hk.plain,h2,yB,cond_true,h3,h4,hz,hp]
def vx{ty kt et:TypeId}{kf:κ->Value}{vf:ν->Value}(hk:kI e kt kf)(hu:e.under ty=some (.map kt et)){es:List MapEntry}{l:List (κ×ν)}(hl:j8 kf vf es l)(a:κ)(clock:Nat)(w:ν):
 ∃ad aa,nW e ty (kf a) (vf w) es clock=some (.map ad aa)/\j8 kf vf ad (put l a w):=by
 obtain⟨kd,h1,h2⟩:=hk.kd;obtain⟨u,h3⟩:=hk.check a false;obtain⟨r,h4,h5⟩:=xQ hk (vf:=vf) a 0 hl;cases hv:bj l a with
 |none=>
  rw[hv]at h5;simp only at h5;subst h5;refine⟨es++[{key:=kf a,val:=vf w,born:=clock}],clock+1,by simp only[nW,hu,h1,hk.plain,h2,yB,cond_true,h3,h4], ?_⟩;have:=hl;simp only[j8]at this⊢;rw[qp hv];simp[this]
 |some v=>
  rw[hv]at h5;obtain⟨j,rfl,x,h6,h7,h8⟩:=h5;have hb:Instr.sameBits 10000 (((es[0+j]?).map (·.key)).getD (kf a)) (kf a)=true:=by
   rw[Vs,h6];show Instr.sameBits 10000 x.key (kf a)=true;rw[h7];exact hk.bits a
  refine⟨es.modify (0+j) λx=>{x with key:=kf a,val:=vf w},clock,by simp only[nW,hu,h1,hk.plain,h2,yB,cond_true,h3,h4,hb], ?_⟩;have:=h8 w;rwa[Vs]
end
attribute [go_sem] xP FO FP
end Go.aD
end
noncomputable section
namespace Go.aD
variable {e:Env} {ro:Option Nat}
structure xS(e:Env)(st:TypeId)(sz ad:Nat):Prop where
 el:∃el z,e.under st=some (.slice el)/\e.size el=some sz/\e.zero el=some z/\e.bytes el=some ad/\z.cells.toList.length=sz
 pos:0<sz
theorem RL(h:ab)(st:TypeId)(r:List TypeId)(s x:Value):tA e h (st::r).toArray (some [s,x])=nG e h (st::r).toArray s x:=rfl
def FR{h:ab}{st:TypeId}{sz ad:Nat}(hE:xS e st sz ad){base:Option Addr}{len cap:Nat}{xb:Option Addr}{n xc:Nat}{new:List Value}(hx:iO h sz n (.slice xb n xc)=some new)(hl:new.length=n*sz):
 nG e h #[st,st] (.slice base len cap) (.slice xb n xc)=p8 h base len cap sz ad n new:=by
 obtain⟨el,z,h1,h2,h3,h4,h5⟩:=hE.el;have hs:RC 0 sz=true:=KE hE.pos;unfold nG;simp only[List.getElem?_toArray,List.getElem?_cons_zero,List.getElem?_cons_succ,h1,h2,h3,h4];have hi:oG (.slice el)=false:=rfl;simp only[hi,sZ,cond_false,p7,s8,hx,hs,h5,hl,FQ,yB,cond_true]
def append_nil{h:ab}{st:TypeId}{sz ad:Nat}(hE:xS e st sz ad){xb:Option Addr}{n xc:Nat}{new:List Value}(hx:iO h sz n (.slice xb n xc)=some new)(hl:new.length=n*sz)(hn:0<n)(hb:n*(ad+1)<=1073741824):
 nG e h #[st,st] (.slice none 0 0) (.slice xb n xc)=some (.slice (some ⟨h.next,0,none⟩) n n,h.new (.row new true sz)):=by
 rw[FR hE hx hl];unfold p8;have h1:E2 n 0=false:=by
  cases ae:E2 n 0 with
  |false=>rfl
  |true=>have:=RW ae;omega
 have h2:E2 (n*(ad+1)) 1073741824=true:=KE hb;simp only[Vs,h1,h2,cond_false,cond_true,FQ,yB]
def FT{h:ab}{st:TypeId}{sz ad:Nat}(hE:xS e st sz ad){xb:Option Addr}{n xc:Nat}{new:List Value}(hx:iO h sz n (.slice xb n xc)=some new)(hl:new.length=n*sz)(hn:0<n){i len:Nat}{cs:List Value}
 (hg:h.get i=some (.row cs true sz)) (hc:cs.length=len*sz) (af:new.all dF=true) (hb:(len+n)*(ad+1)<=1073741824):
 nG e h #[st,st] (.slice (some ⟨i,0,none⟩) len len) (.slice xb n xc)=some (.slice (some ⟨h.next,0,none⟩) (len+n) (len+n),(h.set i none).new (.row (cs++new) true sz)):=by
 rw[FR hE hx hl];unfold p8;have hs:=hE.pos;have h1:E2 (len+n) len=false:=by
  cases ae:E2 (len+n) len with
  |false=>rfl
  |true=>have:=RW ae;omega
 have h2:E2 ((len+n)*(ad+1)) 1073741824=true:=KE hb;have h3:gx h ⟨i,0,none⟩ (len*sz)=some cs:=by
  unfold gx;simp only[hg,adr,<-hc,afH,FQ,cond_true]
 have h4:qG sz 0=false:=by
  cases ae:qG sz 0 with
  |false=>rfl
  |true=>have:=yy ae;omega
 have h5:RC (0+len*sz) cs.length=false:=by
  cases ae:RC (0+len*sz) cs.length with
  |false=>rfl
  |true=>have:=RW ae;omega
 simp only[h1,h2,cond_false,cond_true,h3,hg,h4,FQ,h5,afF,Bool.or_self,yB,af]
def xT{h:ab}{sz n xc i:Nat}{cs:List Value}{wr:Bool}{aj:Nat}(hg:h.get i=some (.row cs wr aj))(hl:cs.length=n*sz):iO h sz n (.slice (some ⟨i,0,none⟩) n xc)=some cs:=by
 simp only[iO,gx,hg,adr,<-hl,afH,FQ,cond_true]
def Env.gN(e:Env)(st:TypeId):Option (Nat×Value):=
 match e.under st with
 |some (.slice el)=>match e.size el,e.zero el with
  |some s,some z=>some (s,z)
  |_,_=>none
 |_=>none
def nX(s:Nat):Nat->List (Nat×Value)->Option (List Value)
 |_,[]=>some []
 |i,(j,v)::r=>if j=i/\v.cells.toList.length=s then(nX s (i+1) r).map (v.cells.toList++·)else none
def FU{s:Nat}:∀{ps:List (Nat×Value)} {i:Nat} {cs done rest:List Value},nX s i ps=some cs->done.length=i*s->rest.length=ps.length*s->jc (λi=>some (i*s,s)) (done++rest) ps=some (done++cs)
 |[],i,cs,done,rest,h,h1,h2=>by
  simp only[nX,afE]at h;subst h;have:rest=[]:=List.eq_nil_of_length_eq_zero (by simpa using h2);subst this;rfl
 |(j,v)::r,i,cs,done,rest,h,h1,h2=>by
  simp only[nX]at h
  split at h
  . rename_i hc;obtain⟨rfl,hv⟩:=hc;simp only[Option.map_eq_some_iff]at h;obtain⟨cs',h3,rfl⟩:=h;simp only[List.length_cons,Nat.add_mul,Nat.one_mul]at h2;have hle:j*s+s<=(done++rest).length:=by simp only[afI];omega
    simp only[jc,hv,FQ,KE hle,yB,cond_true];have e1:dM (done++rest) (j*s) v.cells.toList=(done++v.cells.toList)++rest.drop s:=by
     unfold dM;rw[<-h1,List.take_left,hv,List.drop_append,afv aa];simp
    rw[e1,FU h3 (by simp only[afI,h1,hv,Nat.add_mul,Nat.one_mul]) (by rw[List.length_drop];omega),List.append_assoc]
  . cases h
def FV(zs:List Value)(n:Nat):(ey zs n).length=n:=by simp[ey]
def RN{t:Tr Value}{st n:Nat}{l:List (Nat×Operand)}{s:Nat}{z:Value}{ps:List (Nat×Value)}{cs:List Value}(hz:e.gN st=some (s,z))(ah:z.cells.toList.length=s)(hs:0<s)(hn:n*s<=16777216)(hp:fG e t l=some ps)(ai:ps.length=n)(hr:nX s 0 ps=some cs):
 cT e t (.buildSlice st n l.toArray)=some (.row cs true 0,λi=>.slice (some ⟨i,0,none⟩) n n):=by
 unfold Env.gN at hz
 split at hz
 . rename_i el hu
   split at hz
   . rename_i s' z' h1 h2;cases hz;have hb:RC 0 s=true:=KE hs;simp only[cT,hu,hp,h1,h2,ah,FQ,hb,KE hn,yB,cond_true];have:=FU (s:=s) (done:=[]) (rest:=ey z.cells.toList (n*s)) hr aw (by rw[FV,ai]);simp only[List.nil_append]at this;rw[this]
   . cases hz
 . cases hz
def xU(e:Env)(t:Tr Value)(st n:Nat)(l:List (Nat×Operand)):Option (bP×(Nat->Value)):=cT e t (.buildSlice st n l.toArray)
def xV(e:Env)(t:Tr Value)(st n:Nat)(l:List (Nat×Operand)):Option (List Value)->Option (bP×(Nat->Value))
 |some cs=>some (.row cs true 0,λi=>.slice (some ⟨i,0,none⟩) n n)
 |none=>xU e t st n l
def AK(e:Env)(t:Tr Value)(st n:Nat)(l:List (Nat×Operand)):Option (Nat×Value)->Option (List (Nat×Value))->Option (bP×(Nat->Value))
 |some (s,z),some ps=>if z.cells.toList.length=s/\0<s/\n*s<=16777216/\ps.length=n then xV e t st n l (nX s 0 ps)else xU e t st n l
 |_,_=>xU e t st n l
def RO(t:Tr Value)(st n:Nat)(l:List (Nat×Operand)):cT e t (.buildSlice st n l.toArray)=AK e t st n l (e.gN st) (fG e t l):=by
 unfold AK
 split
 . rename_i s z ps hz hp
   split
   . rename_i hc;obtain⟨h1,h2,h3,h4⟩:=hc;unfold xV
     split
     . rename_i cs hr;exact RN hz h1 h2 h3 hp h4 hr
     . rfl
   . rfl
 . rfl
theorem RP(t:Tr Value)(st n:Nat)(l:List (Nat×Operand))(s:Nat)(z:Value)(ps:List (Nat×Value)):AK e t st n l (some (s,z)) (some ps)=if z.cells.toList.length=s/\0<s/\n*s<=16777216/\ps.length=n then xV e t st n l (nX s 0 ps)else xU e t st n l:=rfl
theorem RR(t:Tr Value)(st n:Nat)(l:List (Nat×Operand))(cs:List Value):xV e t st n l (some cs)=some (.row cs true 0,λi=>.slice (some ⟨i,0,none⟩) n n):=rfl
theorem RT(s i:Nat):nX s i []=some []:=rfl
theorem RU(s i j:Nat)(v:Value)(r:List (Nat×Value)):nX s i ((j,v)::r)=if j=i/\v.cells.toList.length=s then(nX s (i+1) r).map (v.cells.toList++·)else none:=rfl
theorem RV(t:Tr Value)(ty:TypeId):cT e t (.makeMap ty none)=some (.map [] 0,λi=>.map (some i)):=rfl
attribute [go_sem] Nat.testBit_eq_decide_div_mod_eq RL RT RU RV RO RP RR
end Go.aD
end
noncomputable section
namespace Go.aD
variable {e:Env} {ro:Option Nat}
def fJ(e:Env)(f:FuncId)(args:List Value)(h:ab)(K:Value->ab->Prop):Prop:=(∃fn,e.fn f=some fn)/\∀ρ w (ae:Array Value),Gl e ρ->bN ρ args ae.toList->bz ρ h w->
 Calls e.P f ae w λen w'=>∃v h' v' ad,K v h'/\en=.returned v'/\aR ad v v'/\bz ad h' w'/\Fr h.next ρ h w ad h' w'
def bU.k{f:FuncId}{args:List Value}{h:ab}{v:Value}{h':ab}{K:Value->ab->Prop}(hr:bU e f args h v h')(hk:K v h'):fJ e f args h K:=
 ⟨hr.1,λρ w ae hg ha x=>(hr.2 ρ w ae hg ha x).mono λen w' ⟨v',ad,h1,h2,h3,h4⟩=>⟨v,h',v',ad,hk,h1,h2,h3,h4⟩⟩
def fJ.mono{f:FuncId}{args:List Value}{h:ab}{K K':Value->ab->Prop}(hr:fJ e f args h K)(hk:∀v h',K v h'->K' v h'):fJ e f args h K':=
 ⟨hr.1,λρ w ae hg ha x=>(hr.2 ρ w ae hg ha x).mono λen w' ⟨v,h',v',ad,h0,h1,h2,h3,h4⟩=>⟨v,h',v',ad,hk _ _ h0,h1,h2,h3,h4⟩⟩
def RX{b:Nat}{ρ:aH}{h:ab}{w:World}(x:bz ρ h w):bz ρ h w.drew/\Fr b ρ h w ρ h w.drew:=
 ⟨⟨x.iA,x.obj,x.sep⟩,⟨Ext.refl _,rfl,rfl,YN _,λ_ _=>rfl,λ_ _ _=>rfl,(Fr.refl b ρ h w).new,λ_ _ h _=>h,λ_ h h'=>absurd h h',(Fr.refl b ρ h w).bl,YN _⟩⟩
def AL(h:ab)(it:Value)(K:Value->ab->Prop):Prop:=∃r m since seen last es clock,it=.pointer (some ⟨r,0,none⟩)/\h.get r=some (.cF (some m) since seen last)/\h.get m=some (.map es clock)/\(∀x∈es,x.born<since)/\since<=last/\
 ((∀x∈es,seen.contains x.born=true)->K (.tuple #[.bool false]) h)/\∀x∈es,seen.contains x.born=false->K (.tuple #[.bool true,x.key,x.val]) (h.set r (some (.cF (some m) since (seen++[x.born]) clock)))
def FW{ρ:aH}{es aq:List MapEntry}(h:aV (eW ρ) es aq):∀y∈aq,∃x∈es,eW ρ x y:=by
 induction h with
 |nil=>intro y hy;cases hy
 |cons h1 _ ih=>
  intro y hy;rcases Zf.1 hy with rfl|hy
  . exact⟨_,afw,h1⟩
  . obtain⟨x,hx,hr⟩:=ih y hy;exact⟨x,afx _ hx,hr⟩
def RY{ρ:aH}{es aq:List MapEntry}(h:aV (eW ρ) es aq):∀x∈es,∃y∈aq,eW ρ x y:=by
 induction h with
 |nil=>intro y hy;cases hy
 |cons h1 _ ih=>
  intro y hy;rcases Zf.1 hy with rfl|hy
  . exact⟨_,afw,h1⟩
  . obtain⟨x,hx,hr⟩:=ih y hy;exact⟨x,afx _ hx,hr⟩
def RZ{b:Nat}(P:Program){ρ:aH}{h:ab}{w:World}(x:bz ρ h w){it bg:Value}(hi:aR ρ it bg){K:Value->ab->Prop}(hs:AL h it K)(ty:TypeId):∃v h',K v h'/\fX b P ρ h w (Instr.next bg false ty) v h':=by
 obtain⟨r,m,since,seen,last,es,clock,rfl,hr,hm,hold,bp,h0,h1⟩:=hs;obtain⟨pl,hp,rfl⟩:=hi.oN;obtain⟨pl',g1,g2,m',g3,g4⟩:=x.obj _ _ hr;rw[hp]at g1;cases g1;obtain⟨aY,bj,bq⟩:=g4.map_some;cases bq;obtain⟨pl',q1,q2,aq,q3,q4⟩:=x.obj _ _ hm;rw[bj]at q1;cases q1;have hz:pl.off+0=0:=by rw[g2]
 rw[hz];have aL:∀y∈aq.toList,y.born<since:=λy hy=>by
  obtain⟨z,hz,av⟩:=FW q4 y hy;rw[av.born];exact hold z hz
 have bs:pl.bh<w.heap.size:=(Array.getElem?_eq_some_iff.1 g3).1;rcases run_next_at (P:=P) w ty pl.bh aY.bh since last seen.toArray aq clock g3 q3 aL bp with⟨hl,aI⟩|⟨y,hy,w1,bk,aI⟩
 . refine⟨_,_,h0 λz hz=> ?_,fX.same x (v':=.tuple #[.bool false]) aI (aR.kE.2 (.cons (.bool _) .nil))⟩;obtain⟨y,hy,av⟩:=RY q4 z hz;have he:leftOf aq seen.toArray=#[]:=Array.eq_empty_of_size_eq_zero hl;unfold leftOf at he;rw[Array.filter_eq_empty_iff]at he;have:=he y (by simpa using hy);rw[av.born]at this;simpa using this
 . have bm:y∈aq.toList/\seen.contains y.born=false:=by
    unfold leftOf at hy;simp at hy;refine⟨by simpa using hy.1,by simpa using hy.2⟩
   obtain⟨z,hz,av⟩:=FW q4 y bm.1;have ba:=h1 z hz (by rw[<-av.born];exact bm.2);refine⟨_,_,ba, ?_⟩;have hw:bz ρ h w1/\Fr b ρ h w ρ h w1:=by
    rcases bk with rfl|rfl
    . exact⟨x,Fr.refl _ _ _ _⟩
    . exact RX x
   have bt:pl.bh<w1.heap.size:=by rcases bk with rfl|rfl<;>exact bs
   obtain⟨k1,k2⟩:=rE (b:=b) (o:=.mapIter (some aY.bh) since (seen.toArray.push y.born) clock) (ao':=.cF (some m) since (seen++[z.born]) clock) hw.1 hr rfl hp rfl
    ⟨g2,some aY.bh,by rw[oK _ _ _ bt,av.born];simp,.map bj⟩ rfl
   exact⟨.tuple #[.bool true,y.key,y.val],_,ρ,aI,aR.kE.2 (.cons (.bool _) (.cons (by rw[av.key];exact nI av.plain) (.cons av.val .nil))),k1,hw.2.trans k2⟩
def jF(e:Env)(ro:Option Nat)(op:Op)(t:Tr Value)(ds:List Deferred)(h:ab)(K:Kt):Prop:=
 match op with
 |.call c=>match c.callee with
  |.value f=>aO (qk (aF e t f) (db e t c.args.toList)) λp=>fJ e p.1 p.2 h λv h'=>K v ds h'
  |_=>bK e ro (.call c) t ds h K
 |.next it s=>bK e ro (.next it s) t ds h K\/(s=false/\aO (aF e t it) λv=>AL h v λv h=>K v ds h)
 |op=>bK e ro op t ds h K
def bK.R0{o:Oper}{t:Tr Value}{n:Nat}{ds:List Deferred}{h:ab}{K:Kt}(hs:bK e ro o.op t ds h K)(ai:dA o.dst n):ma e ro o ⟨t,n,ds,h⟩ λs=>∃v ds h,K v ds h/\s=⟨bL o.dst v t,n,ds,h⟩:=
 hs.xD ai λv ds h hk=>⟨v,ds,h,hk,rfl⟩
def bK.wp(he:e.Ok){o:Oper}{t:Tr Value}{n:Nat}{ds:List Deferred}{h:ab}{K:Kt}(hs:bK e ro o.op t ds h K)(ai:dA o.dst n){ρ:aH}{a:Act}{w:World}(x:dw e ρ ⟨t,n,ds,h⟩ a w)
 {ah:Option Nat} (ak:iB ρ ro ah) (N:Nat) {next:Act->World->Prop} {Q:Exit->Act->World->Prop} (an:∀v aC h' a' w' ad,K v aC h'->dw e ad ⟨bL o.dst v t,n,aC,h'⟩ a' w'->Fr h.next ρ h w ad h' w'->next a' w'):
 o.wpIn (FF ah) N e.P a w next Q:=by
 obtain⟨cf,s',h1,h2,v,aC,h',h3,rfl⟩:=(hs.R0 ai).cf;exact vg he h1 xA h2 x ak N λa' w' ad x' f'=>an v aC h' a' w' ad h3 x' f'
def R3{h:ab}{t:Tr Value}{c:Call}{f:Operand}{p:FuncId×List Value}(hc:c.callee=.value f)(hp:qk (aF e t f) (db e t c.args.toList)=some p):aS e h t (.call c)=some (.enter p.1 p.2 h):=by
 simp only[qk]at hp;simp only[aS,lG,hc]
 split at hp
 . rename_i fv args h4 h5
   split at hp
   . rename_i g az cap h6;cases hp;simp only[h4,h5,h6]
   . cases hp
 . cases hp
def jF.wp(he:e.Ok){o:Oper}{t:Tr Value}{n:Nat}{ds:List Deferred}{h:ab}{K:Kt}(hs:jF e ro o.op t ds h K)(ai:dA o.dst n){ρ:aH}{a:Act}{w:World}(x:dw e ρ ⟨t,n,ds,h⟩ a w)
 {ah:Option Nat} (ak:iB ρ ro ah) (N:Nat) {next:Act->World->Prop} {Q:Exit->Act->World->Prop} (an:∀v aC h' a' w' ad,K v aC h'->dw e ad ⟨bL o.dst v t,n,aC,h'⟩ a' w'->Fr h.next ρ h w ad h' w'->next a' w'):
 o.wpIn (FF ah) N e.P a w next Q:=by
 have bl:bK e ro o.op t ds h K->o.wpIn (FF ah) N e.P a w next Q:=λhs=>hs.wp he ai x ak N an
 cases aG:o.op with
 |call c=>
  rw[aG]at hs bl;unfold jF at hs;simp only at hs
  split at hs
  . rename_i f hf;obtain⟨⟨g,args⟩,h1,⟨fn,aX⟩,aM⟩:=hs;have hr:aS e h t o.op=some (.enter g args h):=by rw[aG];exact R3 (h:=h) hf h1
    have key:=EV he (ds:=a.defers) x.g x.t x.m hr;obtain⟨_,ae,k1,k2⟩:=key;have ha:(Act.mk a.tmps a.defers)=a:=rfl;rw[ha]at k2;have aJ:Oper.semAt (FF ah).round a.eval o=execOp a.eval o:=Oper.semAt_eq _ _ _ λc' aQ=>by rw[aG]at aQ;cases aQ
    refine⟨λf _=>trivial, ?_⟩;rw[aJ,k2 fn aX,Oper.uponIn_enter];refine⟨zU _ _,EW ((aM ρ w ae x.g k1 x.m).mono ?_)⟩;rintro en w' ⟨v,h',v',ad,hk,rfl,q1,q2,q3⟩;obtain⟨p1,p2⟩:=mO (x.with q2 q3) (rS (s:=⟨t,n,ds,h'⟩) (v:=v) ai) q1;exact an v ds h' _ _ _ hk p1 q3
  . exact bl hs
 |next it s=>
  rw[aG]at hs bl;rcases hs with hs|⟨rfl,v,hv,hn⟩
  . exact bl hs
  . have bo:=kF x.g x.t hv a.defers;have aJ:Oper.semAt (FF ah).round a.eval o=execOp a.eval o:=Oper.semAt_eq _ _ _ λc' aQ=>by rw[aG]at aQ;cases aQ
    have ha:(Act.mk a.tmps a.defers)=a:=rfl;rw[ha]at bo;obtain⟨u,h',hk,bu⟩:=RZ (b:=h.next) e.P x.m bo hn o.type;obtain⟨v',w',ad,k1,k2,k3,k4⟩:=eg.gives bu;have k1:(execOp a.eval o).run e.P w=.ok (.value v') w':=by
     obtain⟨dst,op,ty,pos,af,g⟩:=o;simp only at aG;subst aG;exact k1
    refine⟨λf _=>trivial, ?_⟩;rw[aJ,k1,Oper.uponIn_value];obtain⟨p1,p2⟩:=mO (x.with k3 k4) (rS (s:=⟨t,n,ds,h'⟩) (v:=u) ai) k2;exact an u ds h' _ _ _ hk p1 k4
 |_=>rw[aG]at hs bl;exact bl hs
def nY(e:Env)(ro:Option Nat)(ops:List Oper):List Oper->Tr Value->Nat->List Deferred->ab->(aN->Prop)->Prop
 |[],t,n,ds,h,K=>K ⟨t,n,ds,h⟩
 |o::r,t,n,ds,h,K=>dA o.dst n/\match cX ops ⟨t,n,ds,h⟩ o with
  |none=>False
  |some true=>jF e ro o.op t ds h λv ds h=>nY e ro ops r (bL o.dst v t) n ds h K
  |some false=>nY e ro ops r (bL o.dst undef t) n ds h K
def R4(he:e.Ok){ops:Array Oper}{n:Nat}{K:aN->Prop}(ah:Option Nat)(N:Nat)(Q:Exit->Act->World->Prop):∀(l:List Oper) (k:Nat) (t:Tr Value) (ds:List Deferred) (h:ab) (ρ:aH) (a:Act) (w:World),ops.toList.drop k=l->nY e ro ops.toList l t n ds h K->dw e ρ ⟨t,n,ds,h⟩ a w->iB ρ ro ah->
 (∀s' a' w' ad,K s'->dw e ad s' a' w'->Fr h.next ρ h w ad s'.h w'->Q .normal a' w')->wpOpsIn (FF ah) N e.P ops Q ((afy ops.size).drop k) a w:=by
 intro l
 induction l with
 |nil=>
  intro k t ds h ρ a w hl hs x _ hQ;have hk:ops.size<=k:=by
   have:=congrArg List.length hl;simp at this;omega
  rw[afv (by simpa using hk)];exact hQ _ a w ρ hs x (Fr.refl _ _ _ _)
 |cons o r ih=>
  intro k t ds h ρ a w hl hs x ak hQ;have hk:k<ops.size:=by
   rcases Nat.lt_or_ge k ops.size with h|h
   . exact h
   . rw[afv (by simpa using h)]at hl;cases hl
  have bw:ops[k]? =some o:=by
   have:(ops.toList.drop k)[0]? =some o:=by rw[hl];rfl
   simpa[List.getElem?_drop]using this
  have hr:ops.toList.drop (k+1)=r:=by rw[<-afA,hl];rfl
  have aK:(afy ops.size).drop k=k::(afy ops.size).drop (k+1):=by
   rw[List.drop_eq_getElem_cons (by simpa using hk)];simp
  rw[aK];simp only[nY]at hs;obtain⟨ai,hs⟩:=hs;simp only[wpOpsIn,bw];cases hw:cX ops.toList ⟨t,n,ds,h⟩ o with
  |none=>simp[hw]at hs
  |some b=>
   cases b with
   |true=>
    simp only[hw]at hs;rw[oP hw x,if_pos rfl];refine hs.wp he ai x ak N λv aC h' a1 w1 ao hk x1 f1=> ?_;exact ih (k+1) _ aC h' ao a1 w1 hr hk x1 (ak.mono f1.ext) λs2 a2 w2 aT hK x2 f2=>hQ s2 a2 w2 aT hK x2 (f1.trans (f2.mono f1.next))
   |false=>
    simp only[hw]at hs;rw[oP hw x,if_neg aw];refine⟨λf _=>trivial, ?_⟩;obtain⟨p1,_⟩:=mO x (rS (s:=⟨t,n,ds,h⟩) (v:=undef) ai) (ve _);exact ih (k+1) _ ds h ρ _ w hr hs p1 ak hQ
def WR(e:Env)(ro:Option Nat)(c:Code)(s:aN)(K:bB->aN->Prop):Prop:=∀ρ a w ah n Q,dw e ρ s a w->iB ρ ro ah->
 (∀x s' a' w' ad,K x s'->dw e ad s' a' w'->Fr s.h.next ρ s.h w ad s'.h w'->Q x.to a' w')->c.wpIn (FF ah) n e.P Q a w
def nP.wr{c:Code}{s s':aN}{x:bB}{K:bB->aN->Prop}(h:nP e ro c s x s')(hk:K x s'):WR e ro c s K:=
 λρ a w ah n Q X ak hQ=>h ρ a w ah n Q X ak λa' w' ad x' f'=>hQ x s' a' w' ad hk x' f'
def WR.mono{c:Code}{s:aN}{K K':bB->aN->Prop}(h:WR e ro c s K)(hk:∀x s,K x s->K' x s):WR e ro c s K':=
 λρ a w ah n Q X ak hQ=>h ρ a w ah n Q X ak λx s' a' w' ad h1 x' f'=>hQ x s' a' w' ad (hk _ _ h1) x' f'
def WR.skip{s:aN}{K:bB->aN->Prop}(h:K .normal s):WR e ro .skip s K:=λρ a w ah n Q X ak hQ=>wpIn_skip (hQ .normal s a w ρ h X (Fr.refl _ _ _ _))
def WR.exit{s:aN}{id:Nat}{K:bB->aN->Prop}(h:K (.exit id) s):WR e ro (.exit id) s K:=λρ a w ah n Q X ak hQ=>wpIn_exit (hQ (.exit id) s a w ρ h X (Fr.refl _ _ _ _))
def WR.ret{s:aN}{K:bB->aN->Prop}(h:K .ret s):WR e ro .ret s K:=λρ a w ah n Q X ak hQ=>wpIn_ret (hQ .ret s a w ρ h X (Fr.refl _ _ _ _))
def WR.seq{p q:Code}{s:aN}{K:bB->aN->Prop}(h:WR e ro p s λx s1=>match x with|.normal=>WR e ro q s1 K|x=>K x s1):WR e ro (.seq p q) s K:=by
 intro ρ a w ah n Q X ak hQ;refine wpIn_seq (h ρ a w ah n _ X ak λx s1 a1 w1 ao k q1 f1=> ?_);cases x with
 |normal=>exact k ao a1 w1 ah n Q q1 (ak.mono f1.ext) λx s2 a2 w2 aT k2 q2 f2=>hQ x s2 a2 w2 aT k2 q2 (f1.trans (f2.mono f1.next))
 |exit i=>exact hQ (.exit i) s1 a1 w1 ao k q1 f1
 |ret=>exact hQ .ret s1 a1 w1 ao k q1 f1
def WR.cond{c:Operand}{p q:Code}{s:aN}{K:bB->aN->Prop}(v:Bool)(hv:aF e s.t c=some (.bool v))(ht:v=true->WR e ro p s K)(hf:v=false->WR e ro q s K):WR e ro (.cond c p q) s K:=by
 intro ρ a w ah n Q X ak hQ;cases v with
 |true=>exact wpIn_cond_true (kF X.g X.t hv a.defers).oM (ht rfl ρ a w ah n Q X ak hQ)
 |false=>exact wpIn_cond_false (kF X.g X.t hv a.defers).oM (hf rfl ρ a w ah n Q X ak hQ)
def WR.block{id:Nat}{c:Code}{s:aN}{K:bB->aN->Prop}(h:WR e ro c s λx s1=>match x with|.exit i=>if i=id then K .normal s1 else K (.exit i) s1|x=>K x s1):WR e ro (.block id c) s K:=by
 intro ρ a w ah n Q X ak hQ;refine wpIn_block (h ρ a w ah n _ X ak λx s1 a1 w1 ao k q1 f1=> ?_);cases x with
 |normal=>exact hQ .normal s1 a1 w1 ao k q1 f1
 |ret=>exact hQ .ret s1 a1 w1 ao k q1 f1
 |exit i=>
  show Exit.inBlock _ Q (.exit i) a1 w1;by_cases bb:i=id
  . subst bb;simp only[if_true]at k;simp only[Exit.inBlock,if_true];exact hQ .normal s1 a1 w1 ao k q1 f1
  . simp only[bb,if_false]at k;simp only[Exit.inBlock,bb,if_false];exact hQ (.exit i) s1 a1 w1 ao k q1 f1
def WR.ops(he:e.Ok){id:Nat}{ops:Array Oper}{s:aN}{K:bB->aN->Prop}(h:nY e ro ops.toList ops.toList s.t s.n s.ds s.h (K .normal)):WR e ro (.region id ops false) s K:=by
 intro ρ a w ah n Q X ak hQ;refine wpIn_region ?_;have:=R4 he ah n Q ops.toList 0 s.t s.ds s.h ρ a w rfl h X ak λs' a' w' ad k x' f'=>hQ .normal s' a' w' ad k x' f';simpa using this
def WR.draw(he:e.Ok)(bc:e.P.follows .mixedOrders=true){id:Nat}{ops:Array Oper}{s:aN}{K:bB->aN->Prop}(h:mb e ro ops.toList s (K .normal)):WR e ro (.region id ops true) s K:=by
 obtain⟨h1,h2⟩:=h;obtain⟨dJ,x,h3,h4,h5,h6⟩:=h2.dJ;exactλρ a w ah n Q X ak hQ=>Fj he bc h3 xA ro ops s h1 x h4 h5 ρ a w ah n Q id X ak λa' w' ad x' f'=>hQ .normal _ a' w' ad h6 x' f'
def WR.loop{c:Code}{K:bB->aN->Prop}(I:Nat->aN->Prop)(hI:∀j s,I j s->WR e ro c s λx s1=>match x with|.normal=>∃j',j'<j/\I j' s1|x=>K x s1)(j:Nat)(s:aN)(hs:I j s):WR e ro (.loop c) s K:=by
 intro ρ a w ah n Q X ak hQ;have key:∀(k j:Nat) (s:aN),j<k->I j s->∀(ρ:aH) (a:Act) (w:World),dw e ρ s a w->iB ρ ro ah->(∀x s' a' w' ad,K x s'->dw e ad s' a' w'->Fr s.h.next ρ s.h w ad s'.h w'->Q x.to a' w')->c.roundsIn (FF ah) n e.P Q k a w:=by
  intro k
  induction k with
  |zero=>intro j s hj;omega
  |succ k ih=>
   intro j s hj hs ρ a w X ak hQ;rw[roundsIn_succ];refine hI j s hs ρ a w ah n _ X ak λx s1 a1 w1 ao h1 q1 f1=> ?_;cases x with
   |normal=>
    obtain⟨j',bF,bx⟩:=h1;exact ih j' s1 aa bx ao a1 w1 q1 (ak.mono f1.ext) λx s2 a2 w2 aT k2 q2 f2=>hQ x s2 a2 w2 aT k2 q2 (f1.trans (f2.mono f1.next))
   |exit i=>exact hQ (.exit i) s1 a1 w1 ao h1 q1 f1
   |ret=>exact hQ .ret s1 a1 w1 ao h1 q1 f1
 exact wpIn_loop_rounds (j+1) (key (j+1) j s aa hs ρ a w X ak hQ)
def fJ.of(he:e.Ok)(aU:Idle e){f:FuncId}{fn:Func}{c:Code}{args:List Value}{h:ab}{K:Value->ab->Prop}(aX:e.fn f=some fn)(hb:fn.body=some c)
 (hq:WR e none c {t:=gY args,n:=args.length+(fn.ntmps-args.length),ds:=[],h} (oV e fn.results.toList K)):fJ e f args h K:=by
 refine⟨⟨fn,aX⟩,λρ w ae hg ha x=> ?_⟩;have hl:args.length=ae.size:=by simpa using ha.length
 have bA:dw e ρ {t:=gY args,n:=args.length+(fn.ntmps-args.length),ds:=[],h} {tmps:=ae++adv (fn.ntmps-ae.size) undef,defers:=[]} w:=
  ⟨hg,EZ ha fn.ntmps,.nil,x⟩
 have out:∀s a' w' ad,(∃h1 vs,kZ e s.ds s.h=some h1/\iz e {s with h:=h1} fn.results.toList=some vs/\K (j7 vs) h1)->dw e ad s a' w'->Fr h.next ρ h w ad s.h w'->
  LeavesInM Fence.wide 0 e.P fn a'.tmps (λen w'=>∃v h' v' ad,K v h'/\en=.returned v'/\aR ad v v'/\bz ad h' w'/\Fr h.next ρ h w ad h' w') a'.defers .returning w':=by
  rintro s a' w' ad ⟨h2,vs,bD,bE,hk⟩ x' f';refine E1 he aU 0 bD x'.d x'.m λw2 m2 f2=> ?_;have x2:dw e ad {s with h:=h2} a' w2:=⟨x'.g,x'.t,x'.d,m2⟩;obtain⟨aW,q1,q2⟩:=zW he x2 bE;have hm:(fn.results.mapM (rK a'.tmps)).run e.P w2=.ok aW.toArray w2:=by
   rw[Array.mapM_eq_mapM_toList,Sem.run_map,q1];rfl
  have bd:Fr h.next ρ h w ad h2 w2:=f'.trans (f2.mono f'.next);have bf:(results fn a'.tmps).run e.P w2=.ok (if h:aW.toArray.size=1 then aW.toArray[0]else .tuple aW.toArray) w2:=by
   rw[E0,Sem.run_bind,hm];rfl
  refine⟨_,bf,j7 vs,h2,_,ad,hk,rfl, ?_,m2,bd⟩
  match vs,aW,q2 with
  |[u],[u'],.cons hu _=>simpa[j7]using hu
  |[],[],_=>exact aR.kE.2 .nil
  |_::_::_,_::_::_,q2=>
   rw[dif_neg aw];exact aR.kE.2 (by simpa using q2)
 rw[<-callsIn_wide (n:=0)];refine callsIn_of_wp_marks (he.fn f fn aX).1 hb trivial ?_;refine hq ρ _ w none 0 (bodyPostM Fence.wide 0 e.P fn λen w'=>∃v h' v' ad,K v h'/\en=.returned v'/\aR ad v v'/\bz ad h' w'/\Fr h.next ρ h w ad h' w') bA .none λx s a' w' ad hk x' f'=> ?_;cases x with
 |normal=>exact out s a' w' ad hk.2 x' f'
 |ret=>exact out s a' w' ad hk.2 x' f'
 |exit id=>exact absurd rfl (hk.1 id)
end Go.aD
end
noncomputable section
namespace Go.aD
open Go.ChangeShapes Go.WideShapes Go.ChangeAt Go.RowKit
def rL.same{W w':World}(h:rL W w'){p:MemPlace}(hp:p.block<W.heap.size):W.sameAt w' p:=by
 cases p with
 |cell b o=>exact World.cell?_of_block (w:=W) (h.heap b hp)
 |map b=>exact h.heap b hp
def rL.frame{W w':World}(h:rL W w')(may:MemPlace->Prop):W.keptBut w' may:=by
 refine⟨h.os,h.output,λi hi=> ?_⟩;rw[h.heap i hi]
 split<;>simp_all
section
variable {H:Type} {enc:TypeId×Value->H} {P:Program}
def Lv(hl:laidOutB P=true){W W':World}(hk:rL W W'){sp:Nat->Bool}:∀{ts:List TypeId} {vs:List Value} {ds:List (DataW H)} {ps:List MemPlace},(∀t∈ts,P.readableRec t=true/\t<P.types.size)->
 DataW.TrodAll enc P W 0 (λ_=>true) true ts vs ds ps->(∀x∈ps,x.block<W.heap.size)->(∀x∈ps,sp x.block=true)->DataW.TrodAll enc P W' 0 sp true ts vs ds ps
 |[],[],[],_,_,h,_,_=>h
 |[],[],_::_,_,_,h,_,_=>h.elim
 |[],_::_,_,_,_,h,_,_=>by cases h
 |_::_,[],_,_,_,h,_,_=>by cases h
 |_::_,_::_,[],_,_,h,_,_=>by cases h
 |t::ts,v::vs,d::ds,ps,hT,⟨p,q,h1,h2,e⟩,ad,af=>by
  have ht:=hT t (afw ..);refine⟨p,q,WideElems.Trod_stays hl ht.1 ht.2 h1 (λx hx=>hk.same (ad x (by rw[e];simp[hx]))) (λx hx=>af x (by rw[e];simp[hx])), ?_,e⟩;exact Lv hl hk (λu hu=>hT u (afx _ hu)) h2 (λx hx=>ad x (by rw[e];simp[hx])) (λx hx=>af x (by rw[e];simp[hx]))
def Lw{f:Func}{s:ChangeSpec}{apart fresh handsOn again:Bool}{W W':World}{args:Array Value}{ds gs:List (DataW H)}{before:List MemPlace}{tb:TypeId}
 (hW:DataW.Whole enc P f.params.toList s.vars apart W args.toList ds gs before) (aa:s.vars=[])
 (hr:(s.fn H (ds++gs)).results=[.lit (.bool true)]) (ha:(s.fn H (ds++gs)).args=ds) (hv:(s.fn H (ds++gs)).vars=[])
 (hl:laidOutB P=true) (hT:∀t∈f.params.toList,P.readableRec t=true/\t<P.types.size) (ae:f.resultTypes=#[tb]) (hb:P.underlying tb=some .bool) (hk:rL W W'):
 s.post enc P f apart fresh handsOn again W args (.bool true) W':=by
 have ah:=hW;obtain⟨p,q,hA,hV,e,ao,aq⟩:=hW;rw[aa]at hV;obtain⟨rfl,rfl⟩:=trodVars_none hV;rw[List.append_nil]at e;subst e;have ad:∀x∈before,x.block<W.heap.size:=λx hx=>ah.lt x hx;have ab:∀sp:Nat->Bool,(∀x∈before,sp x.block=true)->DataW.TrodAll enc P W' 0 sp true f.params.toList args.toList (s.fn H (ds++[])).args before:=λsp af=>by
  rw[ha];exact Lv hl hk hT hA ad af
 have ai:∀sp:Nat->Bool,DataW.TrodVars enc P W' sp s.vars (s.fn H (ds++[])).vars []:=λsp=>by
  rw[hv,aa];rfl
 have ak:∀(b:Nat) (sp:Nat->Bool) (hd:Bool),DataW.TrodAll enc P W' b sp hd f.resultTypes.toList (Value.resultList f.resultTypes.size (.bool true)) (s.fn H (ds++[])).results []:=λb sp hd=>by
  rw[hr,ae];exact trodAll_cons_mk (shut_bool hb _) trodAll_mk0
 have av:∀x∈before,(λb=>decide (b<W.heap.size)) x.block=true:=λx hx=>by simpa using ad x hx
 refine⟨ds,[],before,[],before,[],ah,ak _ _ _,ab _ av,ai _,hk.frame _,λ_=>⟨ok_one ae rfl (okWide_bool_mk hb _),_,_,[]++before++[],
  ⟨[]++before,[],trodAll_append (ab _ (λ_ _=>rfl)) (ak _ _ _),ai _,rfl,λb off hp=> ?_,λhd=> ?_⟩,λx hx _=>by simpa using hx⟩⟩
 . have an:MemPlace.cell b off∈before:=by simpa using hp
   exact(hk.frozen _ (ad _ an)).trans (ao b off (by simpa using an))
 . simpa using aq hd
end
end Go.aD
end

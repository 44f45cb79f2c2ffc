/- Parts of a proof. -/
import Derived.Test.YtniliiapkfpajaaGreatDoorProg
import Derived.RecoverIn
import Derived.RangeFuncNested
import Derived.Shelf.Abstract
import Derived.WalkKit
import Derived.Maps.RangeRun
import Derived.Carry
import Derived.ProofKit
import Derived.OpenShut
import Derived.ChangeSame
import Derived.Deep.DeepHandedRow
import Derived.Test.YtniliiapkfpajaaGreatDoorK03
open Nat renaming beq->oY,eq_of_beq_eq_true->yx,ble->Fj,beq_refl->HT,ble_eq_true_of_le->Q0,blt->Rb,lor->Rm,le_of_ble_eq_true->UR,zero_add->WZ,le_refl->Yt,lt_of_lt_of_le->afo
open Bool renaming and_self->Ey,and_eq_true->Xt,and_false->afq,false_and->afr
open Option renaming bind_eq_some_iff->YN,bind_some->afk
open List renaming mem_cons->adr,zip_cons_cons->afc,drop_zero->afd,map_cons->aff,drop_eq_nil_of_le->afg,mem_cons_self->afh,mem_cons_of_mem->afi,range->afj,drop_drop->afl,getElem?_zip_eq_some->afm,getD_eq_getElem?_getD->afn,take_length->afs,length_append->aft
open Array renaming replicate->afe
open Option.some renaming injEq->afp
set_option linter.all false
set_option maxRecDepth 100000
noncomputable section
namespace Go.aD
variable {e:Env} {ro:Option Nat}
def aN{α:Type}(x:Option α)(k:α->Prop):Prop:=∃v,x=some v/\k v
def gy{α:Type}(v:α)(k:α->Prop):aN (some v) k=k v:=by
 simp[aN]
def bN(dst:Option Tmp)(v:Value)(t:Tr Value):Tr Value:=match dst with|none=>t|some d=>t.set d (some v)
def dB(dst:Option Tmp)(n:Nat):Prop:=match dst with|none=>True|some d=>d<n
def rK{s:aM}{dst:Option Tmp}{v:Value}(h:dB dst s.n):fy s dst v=some {s with t:=bN dst v s.t}:=by
 cases dst with
 |none=>simp[qX,bN]
 |some d=>
  simp only[qX,bN];have:Rb d s.n=true:=Q0 h;rw[this];rfl
def qa(e:Env)(h:ab)(ty:TypeId):Option Value->Option Value->Option ab
 |some p,some v=>match iu p with|none=>none|some a=>ot e h ty a v
 |_,_=>none
def oO(e:Env)(h:ab)(ty:TypeId):Option Value->Option Value->Option Value->Option ab
 |some m,some k,some v=>qT e h ty m k v
 |_,_,_=>none
def tE(e:Env)(h:ab)(av:Array TypeId):Option (List Value)->Option (Value×ab)
 |some [s,x]=>nv e h av s x
 |_=>none
def copyV(e:Env)(h:ab)(av:Array TypeId):Option (List Value)->Option (Value×ab)
 |some [s,x]=>wV e h av s x
 |_=>none
def xB(e:Env)(h:ab)(av:Array TypeId):Option (List Value)->Option (Value×ab)
 |some [x]=>uX e h av x
 |_=>none
def qb:Option Value->Option (List Value)->Option (FuncId×List Value)
 |some f,some args=>match ny f args with|some (.func g,az,cap)=>some (g,az++cap)|_=>none
 |_,_=>none
def vu(e:Env)(h:ab)(ty:TypeId)(x:Value):Option bR:=match x,e.under ty with
 |.string s,some .string=>some (.eO s 0)
 |.map none,some (.map _ _)=>some (.cC none 0 [] 0)
 |.map (some m),some (.map _ _)=>match h.get m with
  |some (.map _ clock)=>some (.cC (some m) clock [] clock)
  |_=>none
 |_,_=>none
abbrev Kt:Type:=Value->List Deferred->ab->Prop
def bL(e:Env)(ro:Option Nat)(op:Op)(t:Tr Value)(ds:List Deferred)(h:ab)(K:Kt):Prop:=
 match op with
 |.alloc ty=>aN (cU e t (.alloc ty)) λp=>K (p.2 h.next) ds (h.new p.1)
 |.box ty x=>aN (cU e t (.box ty x)) λp=>K (p.2 h.next) ds (h.new p.1)
 |.buildSlice ty n ps=>aN (cU e t (.buildSlice ty n ps)) λp=>K (p.2 h.next) ds (h.new p.1)
 |.makeMap ty n=>aN (cU e t (.makeMap ty n)) λp=>K (p.2 h.next) ds (h.new p.1)
 |.makeSlice ty l c=>aN (cU e t (.makeSlice ty l c)) λp=>K (p.2 h.next) ds (h.new p.1)
 |.store ty a x=>aN (qa e h ty (aE e t a) (aE e t x)) λh'=>K undef ds h'
 |.mapUpdate ty m k v=>aN (oO e h ty (aE e t m) (aE e t k) (aE e t v)) λh'=>K undef ds h'
 |.insert ty m k v=>aN (oO e h ty (aE e t m) (aE e t k) (aE e t v)) λh'=>K undef ds h'
 |.range ty x=>aN ((aE e t x).bind (vu e h ty)) λo=>K (.pointer (some ⟨h.next,0,none⟩)) ds (h.new o)
 |.next it s=>aN ((aE e t it).bind (pV h · s)) λp=>K p.1 ds p.2
 |.entry it=>aN ((aE e t it).bind (qV h)) λv=>K v ds h
 |.defer c=>match c.callee with
  |.value f=>ro=none/\aN (db e t c.args.toList) λargs=>aN ((aE e t f).bind (ny · args)) λx=>match x with
   |(.func g,az,cap)=>K undef ({target:=.fn (.func g) cap.toArray,args:=az.toArray}::ds) h
   |_=>False
  |_=>False
 |.call c=>match c.callee with
  |.value f=>aN (qb (aE e t f) (db e t c.args.toList)) λp=>∃v h',bU e p.1 p.2 h v h'/\K v ds h'
  |.builtin .append=>aN (tE e h c.argTypes (db e t c.args.toList)) λp=>K p.1 ds p.2
  |.builtin .copy=>aN (copyV e h c.argTypes (db e t c.args.toList)) λp=>K p.1 ds p.2
  |.builtin .clear=>aN (xB e h c.argTypes (db e t c.args.toList)) λp=>K p.1 ds p.2
  |_=>aN (bI e h t (.call c)) λv=>K v ds h
 |op=>aN (bI e h t op) λv=>K v ds h
def bL.xC{o:Oper}{t:Tr Value}{n:Nat}{ds:List Deferred}{h:ab}{K:Kt}{K':aM->Prop}(hs:bL e ro o.op t ds h K)(ae:dB o.dst n)(hK:∀v ds h,K v ds h->K' ⟨bN o.dst v t,n,ds,h⟩):l7 e ro o ⟨t,n,ds,h⟩ K':=by
 have put:∀{v:Value} {ds:List Deferred} {h:ab},K v ds h->gw o.dst v ⟨t,n,ds,h⟩ K':=λhk=>⟨_,rK (s:=⟨t,n,_,_⟩) ae,hK _ _ _ hk⟩;obtain⟨dst,op,ty,pos,af,g⟩:=o;unfold l7;simp only at hs⊢;have val:∀{v:Value},bI e h t op=some v->K v ds h->(match aS e h t op with
  |none=>False
  |some (.val v h)=>gw dst v ⟨t,n,ds,h⟩ K'
  |some (.skip h)=>gw dst undef ⟨t,n,ds,h⟩ K'
  |some (.enter f args h)=>∃v h',bU e f args h v h'/\gw dst v ⟨t,n,ds,h'⟩ K'
  |some (.round _ _ _)=>False
  |some (.defer f args cap h)=>ro=none/\gw dst undef ⟨t,n,{target:=.fn (.func f) cap.toArray,args:=args.toArray}::ds,h⟩ K'):=λhv hk=>by
  rw[xA hv];exact put hk
 have alloc:∀{p:bR×(Nat->Value)},aS e h t op=(match cU e t op with|none=>none|some (o,f)=>some (.val (f h.next) (h.new o)))->cU e t op=some p->K (p.2 h.next) ds (h.new p.1)->(match aS e h t op with
  |none=>False
  |some (.val v h)=>gw dst v ⟨t,n,ds,h⟩ K'
  |some (.skip h)=>gw dst undef ⟨t,n,ds,h⟩ K'
  |some (.enter f args h)=>∃v h',bU e f args h v h'/\gw dst v ⟨t,n,ds,h'⟩ K'
  |some (.round _ _ _)=>False
  |some (.defer f args cap h)=>ro=none/\gw dst undef ⟨t,n,{target:=.fn (.func f) cap.toArray,args:=args.toArray}::ds,h⟩ K'):=λh1 h2 hk=>by
  rw[h1,h2];exact put hk
 cases op with
 |alloc ty=>obtain⟨p,h1,h2⟩:=hs;exact alloc rfl h1 h2
 |box ty x=>obtain⟨p,h1,h2⟩:=hs;exact alloc rfl h1 h2
 |buildSlice ty n ps=>obtain⟨p,h1,h2⟩:=hs;exact alloc rfl h1 h2
 |makeMap ty n=>obtain⟨p,h1,h2⟩:=hs;exact alloc rfl h1 h2
 |makeSlice ty l c=>obtain⟨p,h1,h2⟩:=hs;exact alloc rfl h1 h2
 |store ty a x=>
  obtain⟨h',h1,h2⟩:=hs;simp only[qa]at h1;simp only[aS]
  split at h1
  . rename_i p v hp hv
    split at h1
    . cases h1
    . rename_i ad ha;simp only[hp,afk,ha,hv,h1];exact put h2
  . cases h1
 |mapUpdate ty m k v=>
  obtain⟨h',h1,h2⟩:=hs;simp only[oO]at h1;simp only[aS]
  split at h1
  . rename_i hp hk hv;simp only[hp,hk,hv,h1];exact put h2
  . cases h1
 |insert ty m k v=>
  obtain⟨h',h1,h2⟩:=hs;simp only[oO]at h1;simp only[aS]
  split at h1
  . rename_i hp hk hv;simp only[hp,hk,hv,h1];exact put h2
  . cases h1
 |range ty x=>
  obtain⟨ob,h1,h2⟩:=hs;simp only[YN,vu]at h1;obtain⟨y,hy,h1⟩:=h1;simp only[aS,hy]
  split at h1
  . rename_i hu;cases h1;simp only[hu];exact put h2
  . rename_i hu;cases h1;simp only[hu];exact put h2
  . rename_i hu;simp only[hu]
    split at h1
    . rename_i hg;cases h1;simp only[hg];exact put h2
    . cases h1
  . cases h1
 |next it s=>
  obtain⟨p,h1,h2⟩:=hs;simp only[YN]at h1;obtain⟨y,hy,h1⟩:=h1;simp only[aS,hy,h1];exact put h2
 |entry it=>
  obtain⟨p,h1,h2⟩:=hs;simp only[YN]at h1;obtain⟨y,hy,h1⟩:=h1;simp only[aS,hy,h1];exact put h2
 |defer c=>
  simp only[bL]at hs;simp only[aS]
  split at hs
  . rename_i f hf;obtain⟨h0,args,h1,x,h2,h3⟩:=hs;simp only[hf,h1,h2]
    split at h3
    . exact⟨h0,put h3⟩
    . cases h3
  . cases hs
 |call c=>
  simp only[bL]at hs
  split at hs
  . rename_i f hf;obtain⟨p,h1,v,h',h2,h3⟩:=hs;simp only[qb]at h1;simp only[aS,lr,hf]
    split at h1
    . rename_i fv args h4 h5
      split at h1
      . rename_i g az cap h6;cases h1;simp only[h4,h5,h6];exact⟨v,h',h2,put h3⟩
      . cases h1
    . cases h1
  . rename_i hc;obtain⟨p,h1,h2⟩:=hs;simp only[tE]at h1;simp only[aS,lr,hc]
    split at h1
    . rename_i s x h3;simp only[h3,h1];exact put h2
    . cases h1
  . rename_i hc;obtain⟨p,h1,h2⟩:=hs;simp only[copyV]at h1;simp only[aS,lr,hc]
    split at h1
    . rename_i s x h3;simp only[h3,h1];exact put h2
    . cases h1
  . rename_i hc;obtain⟨p,h1,h2⟩:=hs;simp only[xB]at h1;simp only[aS,lr,hc]
    split at h1
    . rename_i x h3;simp only[h3,h1];exact put h2
    . cases h1
  . obtain⟨v,h1,h2⟩:=hs;exact val h1 h2
 |_=>obtain⟨v,h1,h2⟩:=hs;exact val h1 h2
def eT(e:Env)(ro:Option Nat)(ops:List Oper):List Oper->Tr Value->Nat->List Deferred->ab->(aM->Prop)->Prop
 |[],t,n,ds,h,K=>K ⟨t,n,ds,h⟩
 |o::r,t,n,ds,h,K=>match o.guard with
  |none=>dB o.dst n/\bL e ro o.op t ds h λv ds h=>eT e ro ops r (bN o.dst v t) n ds h K
  |some (j,w)=>aN ((ops[j]?).bind (·.dst)) λd=>aN (t.get d) λg=>match g with
   |.bool b=>(b=w->dB o.dst n/\bL e ro o.op t ds h λv ds h=>eT e ro ops r (bN o.dst v t) n ds h K)/\(b= !w->dB o.dst n/\eT e ro ops r (bN o.dst undef t) n ds h K)
   |.tuple _=>dB o.dst n/\eT e ro ops r (bN o.dst undef t) n ds h K
   |_=>False
def eT.qc{ops:List Oper}{n:Nat}{K:aM->Prop}:∀{l:List Oper} {t:Tr Value} {ds:List Deferred} {h:ab},eT e ro ops l t n ds h K->iy e ro ops l ⟨t,n,ds,h⟩ K
 |[],_,_,_,hs=>hs
 |o::r,t,ds,h,hs=>by
  simp only[eT]at hs;simp only[iy,cZ];have run:(dB o.dst n/\bL e ro o.op t ds h λv ds h=>eT e ro ops r (bN o.dst v t) n ds h K)->l7 e ro o ⟨t,n,ds,h⟩ λs=>iy e ro ops r s K:=λ⟨h1,h2⟩=>h2.xC h1 λv ds h hk=>eT.qc hk;have skip:(dB o.dst n/\eT e ro ops r (bN o.dst undef t) n ds h K)->gw o.dst undef ⟨t,n,ds,h⟩ λs=>iy e ro ops r s K:=λ⟨h1,h2⟩=>⟨_,rK (s:=⟨t,n,ds,h⟩) h1,eT.qc h2⟩;cases hg:o.guard with
  |none=>simp only[hg]at hs⊢;exact run hs
  |some jw=>
   obtain⟨j,w⟩:=jw;simp only[hg]at hs⊢;obtain⟨d,h1,g,h2,hs⟩:=hs;simp only[h1,h2];cases g with
   |bool b=>
    simp only at hs⊢;by_cases hb:b=w
    . subst hb;simp only[beq_self_eq_true];exact run (hs.1 rfl)
    . have aw:b= !w:=by cases b<;>cases w<;>simp_all
      have:(b==w)=false:=by simpa using hb
      rw[this];exact skip (hs.2 aw)
   |tuple vs=>exact skip hs
   |_=>exact hs.elim
structure PI where
 c:ta
 m:Nat
 dy:Option (Nat×Nat)
def qd(ops:List Oper)(ms:List Nat)(ef:List (Nat×Nat))(i:Nat)(o:Oper)(p:PI):Bool:=
 decide (cls o.op=p.c)&&oY (ms.getD i 0) p.m&&(match p.dy with
  |none=> !decide (p.c=.read)||Fj (ef.filter λq=> !q.2.testBit i).length (ef.filter λq=>p.m.testBit q.1).length
  |some (lo,k)=>oY lo (ef.filter λq=>p.m.testBit q.1).length&&oY k ((ef.filter λq=> !q.2.testBit i).length+1-lo))
def rL(ops:List Oper):Bool->List PI->Bool:=λ_ pl=>
 pW ops (bz ops)&&oY pl.length ops.length&&((ops.zip pl).zipIdx.all λx=>qd ops (bz ops) (dc ops) x.2 x.1.1 x.1.2)
def cw(e:Env)(ro:Option Nat)(ops:List Oper):List Oper->List PI->Nat->Nat->Tr Value->Nat->List Deferred->ab->dA->dA->List (Nat×ab)->List (Tr Value)->(cF->Prop)->Prop
 |[],_,_,_,t,n,ds,h,ax,all,st,sn,K=>K ⟨⟨t,n,ds,h⟩,ax,all,st,sn⟩
 |_::_,[],_,_,_,_,_,_,_,_,_,_,_=>False
 |o::r,p::pl,i,id,t,n,ds,h,ax,all,st,sn,K=>
  let run:=λ(_:Unit)=>match p.c with
   |.pure=>aN (bI e h t o.op) λv=>cw e ro ops r pl (i+1) id (bN o.dst v t) n ds h ax all st (t::sn) K
   |.read=>aN (bI e (cq h p.m ax) t o.op) λv=>cw e ro ops r pl (i+1) id (bN o.dst v t) n ds h ax all st (t::sn) K
   |.alloc=>aN (cU e t o.op) λq=>cw e ro ops r pl (i+1) (id+1) (bN o.dst (q.2 id) t) n ds h ((i,id,q.1)::ax) ((i,id,q.1)::all) st (t::sn) K
   |.effect=>bL e ro o.op t ds (cq h p.m ax) λv ds h=>cw e ro ops r pl (i+1) id (bN o.dst v t) n ds h (ax.filter λq=> !p.m.testBit q.1) all ((Rm ((st.head?.map (·.1)).getD 0) p.m,h)::st) (t::sn) K
   |.bad=>False
  let skip:=λ(_:Unit)=>match p.c with
   |.effect=>cw e ro ops r pl (i+1) id (bN o.dst undef t) n ds h ax all (((st.head?.map (·.1)).getD 0,h)::st) (t::sn) K
   |.alloc=>cw e ro ops r pl (i+1) (id+1) (bN o.dst undef t) n ds h ax all st (t::sn) K
   |.bad=>False
   |_=>cw e ro ops r pl (i+1) id (bN o.dst undef t) n ds h ax all st (t::sn) K
  dB o.dst n/\match o.guard with
  |none=>run ()
  |some (j,w)=>aN ((ops[j]?).bind (·.dst)) λd=>aN (t.get d) λg=>match g with
   |.bool b=>(b=w->run ())/\(b= !w->skip ())
   |.tuple _=>skip ()
   |_=>False
def oP(e:Env)(o:Oper)(m:Nat)(t:Tr Value)(v:Value)(all:dA):List (Nat×ab)->Prop
 |[]=>True
 |q::r=>bI e (cq q.2 m (all.filter λp=> !q.1.testBit p.1)) t o.op=some v/\oP e o m t v all r
def gz(e:Env)(ops:List Oper)(tf:Tr Value)(all:dA)(st:List (Nat×ab)):List Oper->List PI->List (Tr Value)->Prop
 |o::r,p::pl,t::ts=>(match p.dy with
  |none=>True
  |some (lo,k)=>match cZ ops ⟨t,0,[],{m:=.nil,next:=0}⟩ o with
   |some true=>match o.dst with
    |none=>False
    |some d=>match tf.get d with
     |none=>False
     |some v=>oP e o p.m t v all ((st.drop lo).take k)
   |some false=>True
   |none=>False)/\gz e ops tf all st r pl ts
 |[],_,_=>True
 |_,_,_=>False
def E1{o:Oper}{m:Nat}{t:Tr Value}{v:Value}{all:dA}:∀{l:List (Nat×ab)},oP e o m t v all l->∀q∈l,∃h2,aS e (cq q.2 m (all.filter λp=> !q.1.testBit p.1)) t o.op=some (.val v h2)
 |[],_,q,hq=>by cases hq
 |q::r,h,x,hx=>by
  rcases adr.1 hx with rfl|hx
  . exact⟨_,xA h.1⟩
  . exact E1 h.2 x hx
def Nb{ops:List Oper}{s s':aM}{o:Oper}(h:s.t=s'.t):cZ ops s o=cZ ops s' o:=by unfold cZ;rw[h]
def gz.p{ops:List Oper}{x:cF}{st:List (Nat×ab)}{ef:List (Nat×Nat)}{ms:List Nat}(aO:ms=bz ops):∀(l:List Oper) (pl:List PI) (ts:List (Tr Value)) (i:Nat),(∀(k:Nat) o p,l[k]? =some o->pl[k]? =some p->qd ops ms ef (i+k) o p=true)->
 (∀(k:Nat) o m,(l.zip (ms.drop i))[k]? =some (o,m)->m=ms.getD (i+k) 0)->gz e ops x.s.t x.all st l pl ts->nF e ops x st ef (l.zip (ms.drop i)) ts i
 |[],_,_,_,_,_,_=>by simp[nF]
 |o::r,[],_,_,_,_,h=>by simp[gz]at h
 |o::r,p::pl,[],_,_,_,h=>by simp[gz]at h
 |o::r,p::pl,t::ts,i,hp,hm,h=>by
  cases hd:ms.drop i with
  |nil=>simp[nF]
  |cons m0 rest=>
   have aj:ms.drop (i+1)=rest:=by rw[<-afl,hd];rfl
   have aP:m0=ms.getD i 0:=hm 0 o m0 (by rw[hd];rfl);rw[afc];obtain⟨h1,h2⟩:=h;have aG:=hp 0 o p rfl rfl;simp only[qd,Xt,decide_eq_true_eq,Nat.add_zero]at aG;obtain⟨⟨hc,aA⟩,ai⟩:=aG;have aA:=yx aA;refine⟨λaR hw=> ?_, ?_⟩
   . unfold xp;have aT:m0=p.m:=aP.trans aA;rw[aT];cases aH:p.dy with
     |none=>
      simp only[aH,Bool.or_eq_true,Bool.not_eq_true',decide_eq_false_iff_not]at ai;rcases ai with ai|ai
      . exact absurd (hc.symm.trans aR) ai
      . exact .inl (UR ai)
     |some lk=>
      obtain⟨lo,k⟩:=lk;simp only[aH,Xt]at ai h1;have e1:=yx ai.1;have e2:=yx ai.2;have aV:cZ ops ⟨t,0,[],{m:=.nil,next:=0}⟩ o=some true:=by rw[<-hw];exact Nb rfl
      rw[aV]at h1;simp only at h1;cases aJ:o.dst with
      |none=>simp[aJ]at h1
      |some d=>
       simp only[aJ]at h1;cases hv:x.s.t.get d with
       |none=>simp[hv]at h1
       |some v=>
        simp only[hv]at h1;refine .inr ⟨d,v,rfl,hv,λq hq=>E1 h1 q ?_⟩;rw[e2,e1];exact hq
   . have:=gz.p aO r pl ts (i+1) (λk o' p' h1 h2=>by have:=hp (k+1) o' p' (by simpa using h1) (by simpa using h2);rwa[show i+(k+1)=i+1+k by omega]at this)
      (λk o' m' h=>by
       have:=hm (k+1) o' m' (by rw[hd,afc];rw[aj]at h;simpa using h);rwa[show i+(k+1)=i+1+k by omega]at this) h2
     rw[aj]at this;exact this
set_option maxHeartbeats 2000000 in
def cw.Ap{ops:List Oper}{K K':cF->Prop}(aK:∀x,K x->K' x):∀(l:List Oper) (pl:List PI) (ms:List Nat) (i id:Nat) (t:Tr Value) (n:Nat) (ds:List Deferred) (h:ab) (ax all:dA) (st:List (Nat×ab)) (sn:List (Tr Value)),l.length=ms.length->
 (∀(k:Nat) o p m,l[k]? =some o->pl[k]? =some p->ms[k]? =some m->cls o.op=p.c/\m=p.m)->cw e ro ops l pl i id t n ds h ax all st sn K->kP e ro ops (l.zip ms) i id ⟨⟨t,n,ds,h⟩,ax,all,st,sn⟩ K'
 |[],_,_,_,_,_,_,_,_,_,_,_,_,_,_,hs=>by simp only[List.zip_nil_left,kP];exact aK _ hs
 |_::_,[],_,_,_,_,_,_,_,_,_,_,_,_,_,hs=>by simp[cw]at hs
 |_::_,_::_,[],_,_,_,_,_,_,_,_,_,_,hl,_,_=>by simp at hl
 |o::r,p::pl,m::ms,i,id,t,n,ds,h,ax,all,st,sn,hl,hp,hs=>by
  obtain⟨hc,hm⟩:=hp 0 o p m rfl rfl rfl;subst hm;have ih:∀(id:Nat) (t:Tr Value) (n:Nat) (ds:List Deferred) (h:ab) (ax all:dA) (st:List (Nat×ab)) (sn:List (Tr Value)),r.length=ms.length->(∀(k:Nat) o p m,r[k]? =some o->pl[k]? =some p->ms[k]? =some m->cls o.op=p.c/\m=p.m)->
   cw e ro ops r pl (i+1) id t n ds h ax all st sn K->kP e ro ops (r.zip ms) (i+1) id ⟨⟨t,n,ds,h⟩,ax,all,st,sn⟩ K':=λid t n ds h ax all st sn=>cw.Ap aK r pl ms (i+1) id t n ds h ax all st sn
  have an:∀(k:Nat) o p m,r[k]? =some o->pl[k]? =some p->ms[k]? =some m->cls o.op=p.c/\m=p.m:=λk o p m h1 h2 h3=>hp (k+1) o p m (by simpa using h1) (by simpa using h2) (by simpa using h3);have ao:r.length=ms.length:=by simpa using hl
  simp only[cw]at hs;obtain⟨ae,hs⟩:=hs;rw[afc];simp only[kP];have aW:nextId o id=if p.c=.alloc then id+1 else id:=by
   unfold nextId;rw[hc];cases p.c<;>rfl
  rw[aW];have aa:∀(v:Value),fy ⟨t,n,ds,h⟩ o.dst v=some ⟨bN o.dst v t,n,ds,h⟩:=λv=>rK (s:=⟨t,n,ds,h⟩) ae;have run:(match p.c with
   |.pure=>aN (bI e h t o.op) λv=>cw e ro ops r pl (i+1) id (bN o.dst v t) n ds h ax all st (t::sn) K
   |.read=>aN (bI e (cq h p.m ax) t o.op) λv=>cw e ro ops r pl (i+1) id (bN o.dst v t) n ds h ax all st (t::sn) K
   |.alloc=>aN (cU e t o.op) λq=>cw e ro ops r pl (i+1) (id+1) (bN o.dst (q.2 id) t) n ds h ((i,id,q.1)::ax) ((i,id,q.1)::all) st (t::sn) K
   |.effect=>bL e ro o.op t ds (cq h p.m ax) λv ds h=>cw e ro ops r pl (i+1) id (bN o.dst v t) n ds h (ax.filter λq=> !p.m.testBit q.1) all ((Rm ((st.head?.map (·.1)).getD 0) p.m,h)::st) (t::sn) K
   |.bad=>False)->cZ ops ⟨t,n,ds,h⟩ o=some true->mJ e ro ops i id p.m o ⟨⟨t,n,ds,h⟩,ax,all,st,t::sn⟩ λx=>kP e ro ops (r.zip ms) (i+1) (if p.c=.alloc then id+1 else id) x K':=λhs hw=>by
   unfold mJ;simp only[hw,hc];cases ah:p.c with
   |pure=>
    simp only[ah]at hs;obtain⟨v,h1,h2⟩:=hs;simp only[xA h1];exact⟨_,aa v,ih id _ n ds h ax all st _ ao an h2⟩
   |read=>
    simp only[ah]at hs;obtain⟨v,h1,h2⟩:=hs;simp only[xA h1];exact⟨_,aa v,ih id _ n ds h ax all st _ ao an h2⟩
   |alloc=>
    simp only[ah]at hs;obtain⟨q,h1,h2⟩:=hs;obtain⟨ob,f⟩:=q;simp only[h1];exact⟨_,aa _,ih (id+1) _ n ds h _ _ st _ ao an h2⟩
   |effect=>
    simp only[ah]at hs;exact bL.xC hs ae λv ds h hk=>ih id _ n ds h _ all _ _ ao an hk
   |bad=>simp[ah]at hs
  have skip:(match p.c with
   |.effect=>cw e ro ops r pl (i+1) id (bN o.dst undef t) n ds h ax all (((st.head?.map (·.1)).getD 0,h)::st) (t::sn) K
   |.alloc=>cw e ro ops r pl (i+1) (id+1) (bN o.dst undef t) n ds h ax all st (t::sn) K
   |.bad=>False
   |_=>cw e ro ops r pl (i+1) id (bN o.dst undef t) n ds h ax all st (t::sn) K)->cZ ops ⟨t,n,ds,h⟩ o=some false->mJ e ro ops i id p.m o ⟨⟨t,n,ds,h⟩,ax,all,st,t::sn⟩ λx=>kP e ro ops (r.zip ms) (i+1) (if p.c=.alloc then id+1 else id) x K':=λhs hw=>by
   unfold mJ;simp only[hw,hc];cases ah:p.c with
   |pure=>simp only[ah]at hs;exact⟨_,aa _,ih id _ n ds h ax all st _ ao an hs⟩
   |read=>simp only[ah]at hs;exact⟨_,aa _,ih id _ n ds h ax all st _ ao an hs⟩
   |alloc=>simp only[ah]at hs;exact⟨_,aa _,ih (id+1) _ n ds h ax all st _ ao an hs⟩
   |effect=>simp only[ah]at hs;exact⟨_,aa _,ih id _ n ds h ax all _ _ ao an hs⟩
   |bad=>simp[ah]at hs
  cases hg:o.guard with
  |none=>
   simp only[hg]at hs;exact run hs (by unfold cZ;rw[hg])
  |some jw=>
   obtain⟨j,w⟩:=jw;simp only[hg]at hs;obtain⟨d,h1,g,h2,hs⟩:=hs;cases g with
   |bool b=>
    simp only at hs;by_cases hb:b=w
    . exact run (hs.1 hb) (by unfold cZ;simp only[hg,h1,h2,hb,beq_self_eq_true])
    . have aw:b= !w:=by cases b<;>cases w<;>simp_all
      have h3:(b==w)=false:=by simpa using hb
      exact skip (hs.2 aw) (by unfold cZ;simp only[hg,h1,h2,h3])
   |tuple vs=>exact skip hs (by unfold cZ;simp only[hg,h1,h2])
   |_=>exact hs.elim
def Nc{ops:List Oper}{t:Tr Value}{n:Nat}{ds:List Deferred}{h:ab}{K:aM->Prop}(pl:List PI)(aL:rL ops true pl=true)(na:Nat)(aC:oY (ops.filter λo=>cls o.op==.alloc).length na=true)
 (hs:cw e ro ops ops pl 0 h.next t n ds {h with next:=h.next+na} [] [] [(0,{h with next:=h.next+na})] [] λx=>
  gz e ops x.s.t x.all x.bK.reverse ops pl x.di.reverse/\K {x.s with h:=e8 x.s.h x.ax}):l8 e ro ops ⟨t,n,ds,h⟩ K:=by
 simp only[rL,Xt,List.all_eq_true]at aL;obtain⟨⟨h1,h2⟩,h3⟩:=aL;have h2:=yx h2;have aC:=yx aC;have h4:∀(k:Nat) o p,ops[k]? =some o->pl[k]? =some p->qd ops (bz ops) (dc ops) k o p=true:=λk o p ho hp=>by
  have hz:(ops.zip pl)[k]? =some (o,p):=by rw[afm];exact⟨ho,hp⟩
  exact h3 ((o,p),k) (by
   rw[List.mem_zipIdx_iff_getElem?];simpa using hz)
 refine⟨h1, ?_⟩;rw[aC];have h5:∀(k:Nat) o p m,ops[k]? =some o->pl[k]? =some p->(bz ops)[k]? =some m->cls o.op=p.c/\m=p.m:=λk o p m ho hp hm=>by
  have:=h4 k o p ho hp;simp only[qd,Xt,decide_eq_true_eq]at this;refine⟨this.1.1, ?_⟩;have e1:=yx this.1.2;rw[<-e1,afn,hm];rfl
 refine cw.Ap (λx hx=> ?_) ops pl (bz ops) 0 h.next t n ds _ [] [] _ [] (by rw[xk]) h5 hs;refine⟨.inr ?_,hx.2⟩;have:=gz.p (e:=e) (x:=x) (st:=x.bK.reverse) (ef:=dc ops) (ms:=bz ops) rfl ops pl x.di.reverse 0 (λk o p ho hp=>by rw[WZ];exact h4 k o p ho hp)
  (λk o m hz=>by
   rw[afd,afm]at hz;rw[WZ,afn,hz.2];rfl) hx.1
 simpa using this
end Go.aD
end
noncomputable section
namespace Go.aD
variable {e:Env} {ro:Option Nat}
def Aq(e:Env)(ro:Option Nat)(ops r:List Oper)(t:Tr Value)(n:Nat)(K:aM->Prop)(dst:Option Tmp):Kt:=λv ds h=>eT e ro ops r (bN dst v t) n ds h K
def E2(e:Env)(ro:Option Nat)(ops:List Oper)(o:Oper)(r:List Oper)(t:Tr Value)(n:Nat)(ds:List Deferred)(h:ab)(K:aM->Prop)(w:Bool)(d:Tmp):Prop:=
 aN (t.get d) λg=>match g with
  |.bool b=>(b=w->dB o.dst n/\bL e ro o.op t ds h λv ds h=>eT e ro ops r (bN o.dst v t) n ds h K)/\(b= !w->dB o.dst n/\eT e ro ops r (bN o.dst undef t) n ds h K)
  |.tuple _=>dB o.dst n/\eT e ro ops r (bN o.dst undef t) n ds h K
  |_=>False
def rM(e:Env)(ro:Option Nat)(ops:List Oper)(o:Oper)(r:List Oper)(t:Tr Value)(n:Nat)(ds:List Deferred)(h:ab)(K:aM->Prop)(w:Bool)(g:Value):Prop:=
 match g with
  |.bool b=>(b=w->dB o.dst n/\bL e ro o.op t ds h λv ds h=>eT e ro ops r (bN o.dst v t) n ds h K)/\(b= !w->dB o.dst n/\eT e ro ops r (bN o.dst undef t) n ds h K)
  |.tuple _=>dB o.dst n/\eT e ro ops r (bN o.dst undef t) n ds h K
  |_=>False
def KV(K:Kt)(ds:List Deferred)(h:ab):Value->Prop:=λv=>K v ds h
def KA(K:Kt)(ds:List Deferred)(h:ab):bR×(Nat->Value)->Prop:=λp=>K (p.2 h.next) ds (h.new p.1)
def KO(K:Kt)(ds:List Deferred)(h:ab):bR->Prop:=λo=>K (.pointer (some ⟨h.next,0,none⟩)) ds (h.new o)
def KH(K:Kt)(ds:List Deferred):ab->Prop:=λh=>K undef ds h
def KP(K:Kt)(ds:List Deferred):Value×ab->Prop:=λp=>K p.1 ds p.2
def KC(e:Env)(K:Kt)(ds:List Deferred)(h:ab):FuncId×List Value->Prop:=λp=>∃v h',bU e p.1 p.2 h v h'/\K v ds h'
def KC.mk{K:Kt}{ds:List Deferred}{h:ab}{f:FuncId}{args:List Value}{v:Value}{h':ab}(hr:bU e f args h v h')(hk:K v ds h'):KC e K ds h (f,args):=⟨v,h',hr,hk⟩
theorem Nf(n:Nat):dB none n=True:=rfl
theorem Ng(d n:Nat):dB (some d) n=(d<n):=rfl
theorem Nh(v:Value)(t:Tr Value):bN none v t=t:=rfl
theorem Ni(d:Nat)(v:Value)(t:Tr Value):bN (some d) v t=t.set d (some v):=rfl
theorem Nj(ops r:List Oper)(t:Tr Value)(n:Nat)(K:aM->Prop)(dst:Option Tmp)(v:Value)(ds:List Deferred)(h:ab):Aq e ro ops r t n K dst v ds h=eT e ro ops r (bN dst v t) n ds h K:=rfl
theorem Nk(K:Kt)(ds:List Deferred)(h:ab)(v:Value):KV K ds h v=K v ds h:=rfl
theorem Nl(K:Kt)(ds:List Deferred)(h:ab)(o:bR)(f:Nat->Value):KA K ds h (o,f)=K (f h.next) ds (h.new o):=rfl
theorem Nm(K:Kt)(ds:List Deferred)(h:ab)(o:bR):KO K ds h o=K (.pointer (some ⟨h.next,0,none⟩)) ds (h.new o):=rfl
theorem Nn(K:Kt)(ds:List Deferred)(h:ab):KH K ds h=K undef ds h:=rfl
theorem No(K:Kt)(ds:List Deferred)(v:Value)(h:ab):KP K ds (v,h)=K v ds h:=rfl
theorem Np(ops:List Oper)(t:Tr Value)(n:Nat)(ds:List Deferred)(h:ab)(K:aM->Prop):eT e ro ops [] t n ds h K=K ⟨t,n,ds,h⟩:=rfl
theorem Nq(ops:List Oper)(dst:Option Tmp)(op:Op)(ty:TypeId)(pos:String)(af:Array Edge)(r:List Oper)(t:Tr Value)(n:Nat)(ds:List Deferred)(h:ab)(K:aM->Prop):
 eT e ro ops (⟨dst,op,ty,pos,af,none⟩::r) t n ds h K=(dB dst n/\bL e ro op t ds h (Aq e ro ops r t n K dst)):=rfl
theorem Nr(ops:List Oper)(dst:Option Tmp)(op:Op)(ty:TypeId)(pos:String)(af:Array Edge)(j:Nat)(w:Bool)(r:List Oper)(t:Tr Value)(n:Nat)(ds:List Deferred)(h:ab)(K:aM->Prop):
 eT e ro ops (⟨dst,op,ty,pos,af,some (j,w)⟩::r) t n ds h K=aN ((ops[j]?).bind (·.dst)) (E2 e ro ops ⟨dst,op,ty,pos,af,none⟩ r t n ds h K w):=rfl
theorem Ns(ops:List Oper)(o:Oper)(r:List Oper)(t:Tr Value)(n:Nat)(ds:List Deferred)(h:ab)(K:aM->Prop)(w:Bool)(d:Tmp):E2 e ro ops o r t n ds h K w d=aN (t.get d) (rM e ro ops o r t n ds h K w):=rfl
def Nt(ops:List Oper)(dst:Option Tmp)(op:Op)(ty:TypeId)(pos:String)(af:Array Edge)(r:List Oper)(t:Tr Value)(n:Nat)(ds:List Deferred)(h:ab)(K:aM->Prop)(w:Bool):
 rM e ro ops ⟨dst,op,ty,pos,af,none⟩ r t n ds h K w (.bool w)=(dB dst n/\bL e ro op t ds h (Aq e ro ops r t n K dst)):=
 propext ⟨λhh=>hh.1 rfl,λhh=>⟨λ_=>hh,λh'=>by cases w<;>cases h'⟩⟩
def Nu(ops:List Oper)(dst:Option Tmp)(op:Op)(ty:TypeId)(pos:String)(af:Array Edge)(r:List Oper)(t:Tr Value)(n:Nat)(ds:List Deferred)(h:ab)(K:aM->Prop):
 rM e ro ops ⟨dst,op,ty,pos,af,none⟩ r t n ds h K true (.bool false)=(dB dst n/\eT e ro ops r (bN dst undef t) n ds h K):=by
 simp[rM]
def Nv(ops:List Oper)(dst:Option Tmp)(op:Op)(ty:TypeId)(pos:String)(af:Array Edge)(r:List Oper)(t:Tr Value)(n:Nat)(ds:List Deferred)(h:ab)(K:aM->Prop):
 rM e ro ops ⟨dst,op,ty,pos,af,none⟩ r t n ds h K false (.bool true)=(dB dst n/\eT e ro ops r (bN dst undef t) n ds h K):=by
 simp[rM]
theorem Nw(ops:List Oper)(dst:Option Tmp)(op:Op)(ty:TypeId)(pos:String)(af:Array Edge)(r:List Oper)(t:Tr Value)(n:Nat)(ds:List Deferred)(h:ab)(K:aM->Prop)(w:Bool):
 rM e ro ops ⟨dst,op,ty,pos,af,none⟩ r t n ds h K w undef=(dB dst n/\eT e ro ops r (bN dst undef t) n ds h K):=rfl
section
variable (t:Tr Value) (ds:List Deferred) (h:ab) (K:Kt)
theorem Nx(x:Operand):bL e ro (.move x) t ds h K=aN (aE e t x) (KV K ds h):=rfl
theorem Ny(x:Operand):bL e ro (.assign x) t ds h K=aN (aE e t x) (KV K ds h):=rfl
theorem Nz(c a b:Operand):bL e ro (.pick c a b) t ds h K=aN (rI (aE e t c) (aE e t a) (aE e t b)) (KV K ds h):=rfl
def NA(ty:TypeId)(l:List (Nat×Operand)):bL e ro (.build ty l.toArray) t ds h K=aN (mM e ty (fx e t l)) (KV K ds h):=by simp[bL,bI,KV];rfl
theorem NB(ty:TypeId)(a:Operand):bL e ro (.load ty a) t ds h K=aN ((aE e t a).bind (mL e h ty)) (KV K ds h):=rfl
theorem NC(x:Operand):bL e ro (.nilCheck x) t ds h K=aN ((aE e t x).bind rG) (KV K ds h):=rfl
theorem ND(op:BinOp)(ty:TypeId)(x y:Operand)(z:TypeId):bL e ro (.binOp op ty x y z) t ds h K=aN (gx (cL e op ty x y) (aE e t x) (aE e t y)) (KV K ds h):=rfl
theorem NF(op:UnOp)(ty:TypeId)(x:Operand):bL e ro (.unOp op ty x) t ds h K=aN ((aE e t x).bind (nI e op)) (KV K ds h):=rfl
theorem NG(s d:TypeId)(x:Operand):bL e ro (.convert s d x) t ds h K=aN ((aE e t x).bind (oL e h s d)) (KV K ds h):=rfl
theorem NH(ty:TypeId)(x:Operand):bL e ro (.makeInterface ty x) t ds h K=aN ((aE e t x).bind (vp e ty)) (KV K ds h):=rfl
def NI(f:FuncId)(a c:List Operand):bL e ro (.makeFunc (.func f) a.toArray c.toArray) t ds h K=aN (vq f (db e t a) (db e t c)) (KV K ds h):=by simp[bL,bI,KV];rfl
theorem NJ(ty:TypeId)(x:Operand)(lo hi mx:Option Operand):bL e ro (.slice ty x lo hi mx) t ds h K=aN (tD e h ty (aE e t x) (iz e t lo) (iz e t hi) (iz e t mx)) (KV K ds h):=rfl
theorem NK(s:TypeId)(x:Operand)(f:Nat):bL e ro (.fieldAddr s x f) t ds h K=aN ((aE e t x).bind (rF e s f)) (KV K ds h):=rfl
theorem NL(ty:TypeId)(x:Operand)(f:Nat):bL e ro (.field ty x f) t ds h K=aN ((aE e t x).bind (tC e ty f)) (KV K ds h):=rfl
theorem NM(ty:TypeId)(x ix:Operand):bL e ro (.indexAddr ty x ix) t ds h K=aN (gx (oM e ty) (aE e t x) (aE e t ix)) (KV K ds h):=rfl
theorem NN(ty:TypeId)(x ix:Operand):bL e ro (.index ty x ix) t ds h K=aN (gx (oN e ty) (aE e t x) (aE e t ix)) (KV K ds h):=rfl
theorem NO(ty:TypeId)(m k:Operand)(ok:Bool):bL e ro (.lookup ty m k ok) t ds h K=aN (gx (nJ e h ty ok) (aE e t m) (aE e t k)) (KV K ds h):=rfl
theorem NP(x:Operand)(i:Nat):bL e ro (.extract x i) t ds h K=aN ((aE e t x).bind (rH i)) (KV K ds h):=rfl
theorem NQ(ty:TypeId):bL e ro (.alloc ty) t ds h K=aN (cU e t (.alloc ty)) (KA K ds h):=rfl
theorem NR(ty:TypeId)(x:Operand):bL e ro (.box ty x) t ds h K=aN (cU e t (.box ty x)) (KA K ds h):=rfl
theorem NS(ty:TypeId)(n:Nat)(ps:Array (Nat×Operand)):bL e ro (.buildSlice ty n ps) t ds h K=aN (cU e t (.buildSlice ty n ps)) (KA K ds h):=rfl
theorem NT(ty:TypeId)(n:Option Operand):bL e ro (.makeMap ty n) t ds h K=aN (cU e t (.makeMap ty n)) (KA K ds h):=rfl
theorem NV(ty:TypeId)(l c:Operand):bL e ro (.makeSlice ty l c) t ds h K=aN (cU e t (.makeSlice ty l c)) (KA K ds h):=rfl
theorem NW(ty:TypeId)(a x:Operand):bL e ro (.store ty a x) t ds h K=aN (qa e h ty (aE e t a) (aE e t x)) (KH K ds):=rfl
theorem NY(ty:TypeId)(m k v:Operand):bL e ro (.mapUpdate ty m k v) t ds h K=aN (oO e h ty (aE e t m) (aE e t k) (aE e t v)) (KH K ds):=rfl
theorem NZ(ty:TypeId)(m k v:Operand):bL e ro (.insert ty m k v) t ds h K=aN (oO e h ty (aE e t m) (aE e t k) (aE e t v)) (KH K ds):=rfl
theorem N5(ty:TypeId)(x:Operand):bL e ro (.range ty x) t ds h K=aN ((aE e t x).bind (vu e h ty)) (KO K ds h):=rfl
theorem N6(it:Operand)(s:Bool):bL e ro (.next it s) t ds h K=aN ((aE e t it).bind (pV h · s)) (KP K ds):=rfl
def N7(f:Operand)(args:List Operand)(ah:Array TypeId):bL e ro (.call ⟨.value f,args.toArray,ah⟩) t ds h K=aN (qb (aE e t f) (db e t args)) (KC e K ds h):=by simp[bL];rfl
def N8(args:List Operand)(ah:Array TypeId):bL e ro (.call ⟨.builtin .append,args.toArray,ah⟩) t ds h K=aN (tE e h ah (db e t args)) (KP K ds):=by simp[bL];rfl
def N9(x:Operand)(ty:TypeId)(ah:List TypeId):bL e ro (.call ⟨.builtin .len,#[x],(ty::ah).toArray⟩) t ds h K=aN ((aE e t x).bind (fK e h ty)) (KV K ds h):=by
 simp only[bL,bI,db,vt];cases aE e t x<;>simp[KV,aN]
end
def RS(e:Env)(ro:Option Nat):Code->aM->(bu->aM->Prop)->Prop
 |.skip,s,K=>K .normal s
 |.exit id,s,K=>K (.exit id) s
 |.ret,s,K=>K .ret s
 |.region _ ops true,s,K=>l8 e ro ops.toList s (K .normal)
 |.region _ ops false,s,K=>eT e ro ops.toList ops.toList s.t s.n s.ds s.h (K .normal)
 |.seq a b,s,K=>RS e ro a s λx s1=>match x with|.normal=>RS e ro b s1 K|.exit i=>K (.exit i) s1|.ret=>K .ret s1
 |.cond c a b,s,K=>aN (aE e s.t c) λv=>match v with|.bool v=>(v=true->RS e ro a s K)/\(v=false->RS e ro b s K)|_=>False
 |.block id c,s,K=>RS e ro c s λx s1=>match x with|.normal=>K .normal s1|.exit i=>if i=id then K .normal s1 else K (.exit i) s1|.ret=>K .ret s1
 |.loop c,s,K=>∃k x s',nH e ro c x s' k s/\K x s'
 |_,_,_=>False
def RS.rq:∀(c:Code) (s:aM) (K:bu->aM->Prop),RS e ro c s K->RQ e ro c s K:=by
 have mono:∀(c:Code) (s:aM) (K K':bu->aM->Prop),(∀x s,K x s->K' x s)->RQ e ro c s K->RQ e ro c s K':=by
  intro c;have L2:∀{ops r:List Oper} {s:aM} {K K':aM->Prop},(∀s,K s->K' s)->iy e ro ops r s K->iy e ro ops r s K':=by
   intro ops r
   induction r with
   |nil=>exactλhk h=>hk _ h
   |cons o r ih=>
    intro s K K' hk h;simp only[iy]at h⊢
    split at h
    . exact h
    . unfold l7 at h⊢
      split at h
      . exact h
      . exact⟨_,h.choose_spec.1,ih hk h.choose_spec.2⟩
      . exact⟨_,h.choose_spec.1,ih hk h.choose_spec.2⟩
      . obtain⟨v,h',h1,s',h2,h3⟩:=h;exact⟨v,h',h1,s',h2,ih hk h3⟩
      . exact h
      . exact⟨h.1,_,h.2.choose_spec.1,ih hk h.2.choose_spec.2⟩
    . exact⟨_,h.choose_spec.1,ih hk h.choose_spec.2⟩
  induction c with
  |region id ops draw=>
   intro s K K' hk h;cases draw with
   |true=>
    refine⟨h.1, ?_⟩;have D:∀(l:List (Oper×Nat)) (i id:Nat) (x:cF) (A B:cF->Prop),(∀x,A x->B x)->kP e ro ops.toList l i id x A->kP e ro ops.toList l i id x B:=by
     intro l
     induction l with
     |nil=>exactλ_ _ _ _ _ hk h=>hk _ h
     |cons om r ih=>
      obtain⟨o,m⟩:=om;intro i id x A B hk h;simp only[kP]at h⊢;have P:∀{dst:Option Tmp} {v:Value} {s:aM} {F G:aM->Prop},(∀s,F s->G s)->gw dst v s F->gw dst v s G:=λan ⟨s',h1,h2⟩=>⟨s',h1,an _ h2⟩;unfold mJ at h⊢
      split at h
      . exact h
      . split at h
        . exact P (λs=>ih _ _ _ _ _ hk) h
        . exact h
        . exact P (λs=>ih _ _ _ _ _ hk) h
      . split at h
        . split at h
          . exact P (λs=>ih _ _ _ _ _ hk) h
          . exact h
        . split at h
          . exact P (λs=>ih _ _ _ _ _ hk) h
          . exact h
        . split at h
          . exact h
          . exact P (λs=>ih _ _ _ _ _ hk) h
        . unfold l7 at h⊢
          split at h
          . exact h
          . exact P (λs=>ih _ _ _ _ _ hk) h
          . exact P (λs=>ih _ _ _ _ _ hk) h
          . obtain⟨v,h',h1,h2⟩:=h;exact⟨v,h',h1,P (λs=>ih _ _ _ _ _ hk) h2⟩
          . exact h
          . exact⟨h.1,P (λs=>ih _ _ _ _ _ hk) h.2⟩
        . exact h
    exact D _ _ _ _ _ _ (λx hx=>⟨hx.1,hk _ _ hx.2⟩) h.2
   |false=>exact L2 (λs=>hk _ s) h
  |seq a b ad ae=>
   intro s K K' hk h;refine ad s _ _ (λx s1 h1=> ?_) h;cases x with
   |normal=>exact ae s1 K K' hk h1
   |exit i=>exact hk _ _ h1
   |ret=>exact hk _ _ h1
  |cond c a b ad ae=>exactλs K K' hk ⟨v,h1,h2,h3⟩=>⟨v,h1,λhv=>ad s K K' hk (h2 hv),λhv=>ae s K K' hk (h3 hv)⟩
  |block id c ih=>
   intro s K K' hk h;refine ih s _ _ (λx s1 h1=> ?_) h;cases x with
   |normal=>exact hk _ _ h1
   |exit i=>
    simp only at h1⊢
    split at h1<;>rename_i aj
    . rw[if_pos aj];exact hk _ _ h1
    . rw[if_neg aj];exact hk _ _ h1
   |ret=>exact hk _ _ h1
  |loop c ih=>exactλs K K' hk ⟨x,s',h1,h2⟩=>⟨x,s',h1,hk _ _ h2⟩
  |scope c ih=>exactλs K K' hk h=>ih s K K' hk h
  |skip=>exactλs K K' hk h=>hk _ _ h
  |label l=>exactλs K K' hk h=>hk _ _ h
  |exit id=>exactλs K K' hk h=>hk _ _ h
  |ret=>exactλs K K' hk h=>hk _ _ h
  |_=>exactλs K K' hk h=>h.elim
 intro c
 induction c with
 |region id ops draw=>
  intro s K h;cases draw with
  |true=>exact h
  |false=>exact eT.qc (n:=s.n) h
 |seq a b ad ae=>
  intro s K h;refine mono a s _ _ (λx s1 h1=> ?_) (ad s _ h);cases x with
  |normal=>exact ae s1 K h1
  |exit i=>exact h1
  |ret=>exact h1
 |cond c a b ad ae=>
  intro s K h;obtain⟨v,h1,h2⟩:=h;cases v with
  |bool v=>exact⟨v,h1,λhv=>ad s K (h2.1 hv),λhv=>ae s K (h2.2 hv)⟩
  |_=>exact h2.elim
 |block id c ih=>exactλs K h=>ih s _ h
 |loop c ih=>exactλs K ⟨k,x,s',h1,h2⟩=>⟨x,s',h1.runs k s,h2⟩
 |skip=>exactλs K h=>h
 |exit id=>exactλs K h=>h
 |ret=>exactλs K h=>h
 |_=>exactλs K h=>h.elim
def xD(e:Env)(ro:Option Nat)(b:Code)(K:bu->aM->Prop):bu->aM->Prop:=λx s1=>match x with|.normal=>RS e ro b s1 K|.exit i=>K (.exit i) s1|.ret=>K .ret s1
def xE(id:Nat)(K:bu->aM->Prop):bu->aM->Prop:=λx s1=>match x with|.normal=>K .normal s1|.exit i=>if i=id then K .normal s1 else K (.exit i) s1|.ret=>K .ret s1
def rN(e:Env)(ro:Option Nat)(a b:Code)(s:aM)(K:bu->aM->Prop):Value->Prop:=λv=>match v with|.bool v=>(v=true->RS e ro a s K)/\(v=false->RS e ro b s K)|_=>False
section
variable (s:aM) (K:bu->aM->Prop)
theorem Oa(b:Code):xD e ro b K .normal s=RS e ro b s K:=rfl
theorem Ob(b:Code)(i:Nat):xD e ro b K (.exit i) s=K (.exit i) s:=rfl
theorem Oc(b:Code):xD e ro b K .ret s=K .ret s:=rfl
theorem Oe(id:Nat):xE id K .normal s=K .normal s:=rfl
theorem Of(id i:Nat):xE id K (.exit i) s=if i=id then K .normal s else K (.exit i) s:=rfl
theorem Og(id:Nat):xE id K .ret s=K .ret s:=rfl
def Oh(a b:Code):rN e ro a b s K (.bool true)=RS e ro a s K:=by simp[rN]
def Oi(a b:Code):rN e ro a b s K (.bool false)=RS e ro b s K:=by simp[rN]
def rN.mk{a b:Code}{p:Prop}[Decidable p](h1:p->RS e ro a s K)(h2:¬p->RS e ro b s K):rN e ro a b s K (.bool (decide p)):=⟨λh=>h1 (of_decide_eq_true h),λh=>h2 (of_decide_eq_false h)⟩
theorem Oj:RS e ro .skip s K=K .normal s:=rfl
theorem Ol(id:Nat):RS e ro (.exit id) s K=K (.exit id) s:=rfl
theorem Om:RS e ro .ret s K=K .ret s:=rfl
theorem Oo(a b:Code):RS e ro (.seq a b) s K=RS e ro a s (xD e ro b K):=rfl
theorem Oq(id:Nat)(c:Code):RS e ro (.block id c) s K=RS e ro c s (xE id K):=rfl
theorem Ot(c:Operand)(a b:Code)(t:Tr Value)(n:Nat)(ds:List Deferred)(h:ab):RS e ro (.cond c a b) ⟨t,n,ds,h⟩ K=aN (aE e t c) (rN e ro a b ⟨t,n,ds,h⟩ K):=rfl
def Ou(id:Nat)(l:List Oper)(t:Tr Value)(n:Nat)(ds:List Deferred)(h:ab):RS e ro (.region id l.toArray false) ⟨t,n,ds,h⟩ K=eT e ro l l t n ds h (K .normal):=by simp[RS]
def Ov(id:Nat)(l:List Oper):RS e ro (.region id l.toArray true) s K=l8 e ro l s (K .normal):=by simp[RS]
end
def E3(he:e.Ok)(aa:e.P.follows .mixedOrders=true){c:Code}{s:aM}{P:bu->aM->Prop}(h:RS e ro c s λx s1=>match x with|.normal=>∃k x s',nH e ro c x s' k s1/\P x s'|x=>P x s1):∃k x s',nH e ro c x s' k s/\P x s':=by
 obtain⟨x,s1,h1,h2⟩:=RQ.runs he aa c s _ (RS.rq c s _ h);cases x with
 |normal=>
  obtain⟨k,x,s',h3,h4⟩:=h2;exact⟨k+1,x,s',⟨s1,h1,h3⟩,h4⟩
 |exit i=>exact⟨0,_,s1,⟨h1,aw⟩,h2⟩
 |ret=>exact⟨0,_,s1,⟨h1,aw⟩,h2⟩
def tF(e:Env)(ro:Option Nat)(c:Code)(P:bu->aM->Prop):bu->aM->Prop:=λx s1=>match x with|.normal=>∃k x s',nH e ro c x s' k s1/\P x s'|x=>P x s1
theorem Ow(c:Code)(P:bu->aM->Prop)(s:aM):tF e ro c P .normal s=RS e ro (.loop c) s P:=rfl
def Ox(he:e.Ok)(aa:e.P.follows .mixedOrders=true){c:Code}{s:aM}{K:bu->aM->Prop}(h:RS e ro c s (tF e ro c K)):RS e ro (.loop c) s K:=E3 he aa h
theorem Oy(c:Code)(P:bu->aM->Prop)(s:aM)(i:Nat):tF e ro c P (.exit i) s=P (.exit i) s:=rfl
theorem Oz(c:Code)(P:bu->aM->Prop)(s:aM):tF e ro c P .ret s=P .ret s:=rfl
def bU.OA(he:e.Ok)(aa:e.P.follows .mixedOrders=true)(ai:Idle e){f:FuncId}{fn:Func}{c:Code}{args:List Value}{h:ab}{K:Value->ab->Prop}(ao:e.fn f=some fn)(hb:fn.body=some c){n:Nat}(hn:fn.ntmps=n){rs:List ResultVar}(av:fn.results=rs.toArray)
 (hq:RS e none c ⟨gQ args,args.length+(n-args.length),[],h⟩ (oK e rs K)):∃v h',bU e f args h v h'/\K v h':=by
 refine bU.of he aa ai ao hb ?_;subst hn;rw[av];exact RS.rq _ _ _ hq
end Go.aD
end
noncomputable section
namespace Go.aD
variable {e:Env} {ro:Option Nat}
theorem OB(t:Tr Value)(i:Nat):aE e t (.tmp i)=t.get i:=rfl
theorem OC(t:Tr Value)(f:FuncId):aE e t (.func f)=some (.func (.func f) #[] #[]):=rfl
theorem OD(t:Tr Value)(k:IntKind)(n:Int):aE e t (.const (.int k n))=some (.int k n):=rfl
theorem OE(t:Tr Value)(b:Bool):aE e t (.const (.bool b))=some (.bool b):=rfl
theorem OF(t:Tr Value)(s:ByteArray):aE e t (.const (.string s))=some (.string s):=rfl
theorem OG(t:Tr Value):aE e t (.const (.pointer none))=some (.pointer none):=rfl
theorem OH(t:Tr Value)(l k:Nat):aE e t (.const (.slice none l k))=some (.slice none l k):=rfl
theorem OI(t:Tr Value):aE e t (.const (.map none))=some (.map none):=rfl
theorem OJ(t:Tr Value):aE e t (.const .nilFunc)=some .nilFunc:=rfl
theorem OK(t:Tr Value):aE e t (.const .nilIface)=some .nilIface:=rfl
def Ar(e:Env)(t:Tr Value)(r:List Operand):Option Value->Option (List Value)
 |none=>none
 |some v=>(db e t r).map (v::·)
theorem OL(t:Tr Value):db e t []=some []:=rfl
def OM(t:Tr Value)(o:Operand)(r:List Operand):db e t (o::r)=Ar e t r (aE e t o):=by
 simp only[db,Ar];cases aE e t o with
 |none=>rfl
 |some v=>simp only;cases db e t r<;>rfl
theorem ON(t:Tr Value)(r:List Operand)(v:Value):Ar e t r (some v)=(db e t r).map (v::·):=rfl
def As(e:Env)(t:Tr Value)(i:Nat)(r:List (Nat×Operand)):Option Value->Option (List (Nat×Value))
 |none=>none
 |some v=>(fx e t r).map ((i,v)::·)
theorem OO(t:Tr Value):fx e t []=some []:=rfl
def OP(t:Tr Value)(i:Nat)(o:Operand)(r:List (Nat×Operand)):fx e t ((i,o)::r)=As e t i r (aE e t o):=by
 simp only[fx,As];cases aE e t o with
 |none=>rfl
 |some v=>simp only;cases fx e t r<;>rfl
theorem OQ(t:Tr Value)(i:Nat)(r:List (Nat×Operand))(v:Value):As e t i r (some v)=(fx e t r).map ((i,v)::·):=rfl
theorem OR(t:Tr Value):iz e t none=some none:=rfl
theorem OS(t:Tr Value)(o:Operand):iz e t (some o)=(aE e t o).map some:=rfl
theorem OT(a:List Value):gQ a=Tr.ofList a 0 .nil:=rfl
theorem ofList_nil(i:Nat)(t:Tr Value):Tr.ofList [] i t=t:=rfl
theorem ofList_cons(v:Value)(l:List Value)(i:Nat)(t:Tr Value):Tr.ofList (v::l) i t=Tr.ofList l (i+1) (t.set i (some v)):=rfl
theorem OU(f:FuncId)(a c:Array Value)(args:List Value):qb (some (.func (.func f) a c)) (some args)=some (f,(a.toList++args)++c.toList):=rfl
def aG{x:Int}(h1:-9223372036854775808<=x)(h2:x<=9223372036854775807):IntKind.i64.wrap x=x:=by
 simp[IntKind.wrap,IntKind.bits,IntKind.signed];omega
section
variable (ty:TypeId) (x y:Operand) (k:IntKind) (n m:Int)
def OV:cL e .add ty x y (.int k n) (.int k m)=some (.int k (k.wrap (n+m))):=by simp[cL,kK]
def OW:cL e .sub ty x y (.int k n) (.int k m)=some (.int k (k.wrap (n-m))):=by simp[cL,kK]
def OX:cL e .mul ty x y (.int k n) (.int k m)=some (.int k (k.wrap (n*m))):=by simp[cL,kK]
def OY:cL e .eql ty x y (.int k n) (.int k m)=some (.bool (decide (n=m))):=by simp[cL,kK]
def OZ:cL e .neq ty x y (.int k n) (.int k m)=some (.bool (!decide (n=m))):=by simp[cL,kK]
def O0:cL e .lss ty x y (.int k n) (.int k m)=some (.bool (decide (n<m))):=by simp[cL,kK]
def O2:cL e .leq ty x y (.int k n) (.int k m)=some (.bool (decide (n<=m))):=by simp[cL,kK]
def O3:cL e .gtr ty x y (.int k n) (.int k m)=some (.bool (decide (m<n))):=by simp[cL,kK]
def O4:cL e .geq ty x y (.int k n) (.int k m)=some (.bool (decide (m<=n))):=by simp[cL,kK]
end
theorem O5(b:Bool):nI e .not (.bool b)=some (.bool (!b)):=rfl
theorem O6(a b:Option Value):rI (some (.bool true)) a b=a:=rfl
theorem O7(a b:Option Value):rI (some (.bool false)) a b=b:=rfl
theorem O8(a:Addr):rG (.pointer (some a))=some (.pointer (some a)):=rfl
theorem O9(f:FuncId)(a c:Array Value):rG (.func (.func f) a c)=some (.func (.func f) a c):=rfl
theorem Pa(i:Nat)(vs:Array Value):rH i (.tuple vs)=vs[i]? :=rfl
theorem Pb(f:FuncId)(a c:List Value):vq f (some a) (some c)=some (.func (.func f) a.toArray c.toArray):=rfl
def rO(b o n:Nat):Addr.add ⟨b,o,none⟩ n=⟨b,o+n,none⟩:=by
 unfold Addr.add
 split
 . rename_i h;subst h;rfl
 . rfl
def At(b o:Nat):Option Nat->Option Value
 |none=>none
 |some k=>some (.pointer (some ⟨b,o+k,none⟩))
theorem Pc(b o k:Nat):At b o (some k)=some (.pointer (some ⟨b,o+k,none⟩)):=rfl
def Au(s f b o:Nat):rF e s f (.pointer (some ⟨b,o,none⟩))=At b o (e.off s f):=by
 simp only[rF,iu];cases e.off s f with
 |none=>rfl
 |some k=>simp[At,rO]
def Av:Option (List Value)->Option Value
 |none=>none
 |some l=>some (.agg l.toArray)
theorem Pd(l:List Value):Av (some l)=some (.agg l.toArray):=rfl
theorem Pe(h:ab)(b o:Nat):ji h b o 0=some []:=rfl
def Aw(h:ab)(b o n:Nat):Option Value->Option (List Value)
 |none=>none
 |some v=>(ji h b o n).map (v::·)
def Pf(h:ab)(b o n:Nat):ji h b o (n+1)=Aw h b (o+1) n (rd h b o):=by
 simp only[ji,Aw];cases rd h b o<;>rfl
theorem Pg(h:ab)(b o n:Nat)(v:Value):Aw h b o n (some v)=(ji h b o n).map (v::·):=rfl
def xF(e:Env)(ty:TypeId)(h:ab)(b o:Nat):Option (Option Nat)->Option Value
 |some none=>rd h b o
 |some (some (n+1))=>match ji h b o (n+1)with
  |some l=>some (.agg l.toArray)
  |none=>iq e h ty ⟨b,o,none⟩
 |_=>iq e h ty ⟨b,o,none⟩
def E4(e:Env)(ty:TypeId)(h:ab)(b o:Nat):Option (List Value)->Option Value
 |some l=>some (.agg l.toArray)
 |none=>iq e h ty ⟨b,o,none⟩
def Ph(ty:TypeId)(h:ab)(b o:Nat):mL e h ty (.pointer (some ⟨b,o,none⟩))=xF e ty h b o (e.ld ty):=by
 simp only[mL,iu];unfold xF
 split
 . rename_i hl;exact Am hl
 . rename_i n hl
   split
   . rename_i l hr;exact Na hl hr
   . rfl
 . rfl
theorem Pj(ty:TypeId)(h:ab)(b o:Nat):xF e ty h b o (some none)=rd h b o:=rfl
theorem Pk(ty:TypeId)(h:ab)(b o n:Nat):xF e ty h b o (some (some (n+1)))=E4 e ty h b o (ji h b o (n+1)):=rfl
theorem Pm(ty:TypeId)(h:ab)(b o:Nat)(l:List Value):E4 e ty h b o (some l)=some (.agg l.toArray):=rfl
def nL(b o len:Nat)(i:Int):Option Nat->Option Value
 |none=>none
 |some s=>if 0<=i/\i<len then some (.pointer (some ⟨b,o+i.toNat*s,none⟩))else none
def tG(b o len s:Nat)(i:Int)(h0:0<=i)(h1:i<len):nL b o len i (some s)=some (.pointer (some ⟨b,o+i.toNat*s,none⟩)):=by simp[nL,h0,h1]
def Ax(ty:TypeId)(b o len cap:Nat)(k:IntKind)(i:Int):oM e ty (.slice (some ⟨b,o,none⟩) len cap) (.int k i)=nL b o len i (e.elem ty):=by
 simp only[oM,intOf,Env.elem,nL];cases hu:e.under ty with
 |none=>rfl
 |some d=>
  cases d with
  |slice el=>
   simp only;cases e.size el with
   |none=>rfl
   |some s=>
    simp only[rO];by_cases h0:0<=i<;>by_cases h1:i<(len:Int)<;>simp[h0,h1]
  |_=>rfl
def nM(b o:Nat)(i:Int):Option (Nat×Nat)->Option Value
 |none=>none
 |some (n,s)=>if 0<=i/\i<n then some (.pointer (some ⟨b,o+i.toNat*s,none⟩))else none
def dT(b o n s:Nat)(i:Int)(h0:0<=i)(h1:i<n):nM b o i (some (n,s))=some (.pointer (some ⟨b,o+i.toNat*s,none⟩)):=by simp[nM,h0,h1]
def Ay(ty:TypeId)(b o:Nat)(k:IntKind)(i:Int):oM e ty (.pointer (some ⟨b,o,none⟩)) (.int k i)=nM b o i (e.arr ty):=by
 simp only[oM,intOf,Env.arr,nM];cases hu:e.under ty with
 |none=>rfl
 |some d=>
  cases d with
  |array n el=>
   simp only;cases e.size el with
   |none=>rfl
   |some s=>
    simp only[rO];by_cases h0:0<=i<;>by_cases h1:i<(n:Int)<;>simp[h0,h1]
  |_=>rfl
def Az(e:Env)(h:ab)(ty:TypeId)(a:Option Addr)(l c:Nat):Option Nat->Option Value
 |some _=>some (.int .i64 l)
 |none=>fK e h ty (.slice a l c)
def xG(h:ab)(ty:TypeId)(a:Option Addr)(l c:Nat):fK e h ty (.slice a l c)=Az e h ty a l c (e.elem ty):=by
 cases hs:e.elem ty with
 |none=>rfl
 |some s=>
  simp only[Az];unfold Env.elem at hs
  split at hs
  . rename_i hu;simp[fK,hu]
  . cases hs
theorem Pn(h:ab)(ty:TypeId)(a:Option Addr)(l c s:Nat):Az e h ty a l c (some s)=some (.int .i64 l):=rfl
def qe(h:ab)(o:bR):(h.new o).get h.next=some o:=by rw[ab.cW,if_pos rfl]
def bO(h:ab)(o:bR)(j:Nat)(hj:j≠h.next):(h.new o).get j=h.get j:=by rw[ab.cW,if_neg hj]
def ey(h:ab)(i:Nat)(o:Option bR):(h.set i o).get i=o:=by rw[ab.bD,if_pos rfl]
def bE(h:ab)(i j:Nat)(o:Option bR)(hj:j≠i):(h.set i o).get j=h.get j:=by rw[ab.bD,if_neg hj]
def Po(h:ab)(cs:List Value)(wr:Bool)(ak:Nat)(o:Nat):rd (h.new (.row cs wr ak)) h.next o=cs[o]? :=c8 (qe _ _)
def du(h:ab)(ob:bR)(j o:Nat)(hj:j≠h.next):rd (h.new ob) j o=rd h j o:=by unfold rd;rw[bO _ _ _ hj]
def E5(h:ab)(i:Nat)(cs:List Value)(wr:Bool)(ak:Nat)(o:Nat):rd (h.set i (some (.row cs wr ak))) i o=cs[o]? :=c8 (ey _ _ _)
def eh(h:ab)(i j o:Nat)(ob:Option bR)(hj:j≠i):rd (h.set i ob) j o=rd h j o:=by unfold rd;rw[bE _ _ _ _ hj]
def vv:Option Value->Option (bR×(Nat->Value))
 |none=>none
 |some v=>some (.row v.cells.toList true 0,λi=>.pointer (some ⟨i,0,none⟩))
def Pp(t:Tr Value)(ty:TypeId)(x:Operand):cU e t (.box ty x)=vv (aE e t x):=by
 simp only[cU,vv];cases aE e t x<;>rfl
def Pq(t:Tr Value)(ty:TypeId):cU e t (.alloc ty)=vv (e.zero ty):=by
 simp only[cU,vv];cases e.zero ty<;>rfl
theorem Pr(v:Value):vv (some v)=some (.row v.cells.toList true 0,λi=>.pointer (some ⟨i,0,none⟩)):=rfl
theorem Ps(cs:Array Value):(Value.agg cs).cells=cs:=rfl
theorem Pt(k:IntKind)(n:Int):(Value.int k n).cells=#[.int k n]:=rfl
theorem Pu(b:Bool):(Value.bool b).cells=#[.bool b]:=rfl
theorem Pv(s:ByteArray):(Value.string s).cells=#[.string s]:=rfl
theorem Pw(a:Option Addr):(Value.pointer a).cells=#[.pointer a]:=rfl
theorem Px(a:Option Addr)(l c:Nat):(Value.slice a l c).cells=#[.slice a l c]:=rfl
theorem Py(a:Option Nat):(Value.map a).cells=#[.map a]:=rfl
theorem Pz(f:Fn)(a c:Array Value):(Value.func f a c).cells=#[.func f a c]:=rfl
theorem PA:(Value.nilFunc).cells=#[.nilFunc]:=rfl
def E6{h:ab}{ty:TypeId}{n b o:Nat}{v:Value}(hs:e.size ty=some n)(hn:v.cells.toList.length=n)(h0:0<n):qa e h ty (some (.pointer (some ⟨b,o,none⟩))) (some v)=mK h b o v.cells.toList:=by
 simp only[qa,iu,ot,hs,<-hn,HT,cond_true]
 match hc:v.cells.toList with
 |[]=>rw[hc]at hn;simp at hn;omega
 |w::vs=>exact Ak
def xH(e:Env)(h:ab)(ty:TypeId)(b o:Nat)(v:Value):Option Nat->Option ab
 |none=>none
 |some n=>if v.cells.toList.length=n/\0<n then mK h b o v.cells.toList else ot e h ty ⟨b,o,none⟩ v
def PB(h:ab)(ty:TypeId)(b o:Nat)(v:Value):qa e h ty (some (.pointer (some ⟨b,o,none⟩))) (some v)=xH e h ty b o v (e.size ty):=by
 cases hs:e.size ty with
 |none=>simp[qa,iu,ot,hs,xH]
 |some n=>
  simp only[xH]
  split
  . rename_i hc;exact E6 hs hc.1 hc.2
  . rfl
theorem PC(h:ab)(ty:TypeId)(b o:Nat)(v:Value)(n:Nat):xH e h ty b o v (some n)=if v.cells.toList.length=n/\0<n then mK h b o v.cells.toList else ot e h ty ⟨b,o,none⟩ v:=rfl
def AA(h:ab)(b o:Nat)(vs:List Value):Option bR->Option ab
 |some (.row cs true ak)=>if o+vs.length<=cs.length/\vs.all dF=true then some (h.set b (some (.row (dN cs o vs) true ak)))else none
 |_=>none
def PD(h:ab)(b o:Nat)(vs:List Value):mK h b o vs=AA h b o vs (h.get b):=by
 unfold mK AA;cases h.get b with
 |none=>rfl
 |some ob=>
  cases ob with
  |row cs wr ak=>cases wr<;>rfl
  |_=>rfl
theorem PE(h:ab)(b o:Nat)(vs cs:List Value)(ak:Nat):AA h b o vs (some (.row cs true ak))=if o+vs.length<=cs.length/\vs.all dF=true then some (h.set b (some (.row (dN cs o vs) true ak)))else none:=rfl
theorem PF(cs:List Value)(o:Nat)(vs:List Value):dN cs o vs=cs.take o++vs++cs.drop (o+vs.length):=rfl
def vw(e:Env)(s:aM)(r:List ResultVar):Option Value->Option (List Value)
 |none=>none
 |some v=>(gZ e s r).map (v::·)
theorem PG(s:aM):gZ e s []=some []:=rfl
def E7(s:aM)(i:Nat)(r:List ResultVar):gZ e s (.tmp i::r)=vw e s r (s.t.get i):=by
 simp only[gZ,vw];cases s.t.get i with
 |none=>rfl
 |some v=>cases gZ e s r<;>rfl
def E8(s:aM)(i ty:Nat)(r:List ResultVar):gZ e s (.cell i ty::r)=vw e s r ((s.t.get i).bind (mL e s.h ty)):=by
 simp only[gZ,vw];cases s.t.get i with
 |none=>rfl
 |some v=>
  simp only[afk];cases ha:iu v with
  |none=>simp[mL,ha]
  |some a=>cases hl:iq e s.h ty a<;>cases hr:gZ e s r<;>simp[mL,ha,hl,hr]
theorem AB(s:aM)(r:List ResultVar)(v:Value):vw e s r (some v)=(gZ e s r).map (v::·):=rfl
theorem PH(k:IntKind)(n:Int):dF (.int k n)=true:=rfl
theorem PK(b:Bool):dF (.bool b)=true:=rfl
theorem PL(s:ByteArray):dF (.string s)=true:=rfl
theorem PM(a:Option Addr):dF (.pointer a)=true:=rfl
theorem PN(a:Option Addr)(l c:Nat):dF (.slice a l c)=true:=rfl
theorem PO(a:Option Nat):dF (.map a)=true:=rfl
theorem PQ(f:Fn)(a c:Array Value):dF (.func f a c)=true:=rfl
theorem PR:dF .nilFunc=true:=rfl
attribute [go_sem] gy Nf Ng Nh Ni Nj Nk Nl Nm Nn No Np Nq Nr Ns Nt Nu Nv Nw Nx Ny Nz NA NB NC ND NF NG NH NI NJ NK NL NM NN NO NP NQ NR NS NT NV NW NY NZ N5 N6 N7 N8 N9 Oa Ob Oc Oe Of Og Oh Oi Oj Ol Om Oo Oq Ot Ou Ov Ow Oy Oz OB OC OD OE OF OG OH OI OJ OK OL OM ON OO OP OQ OR OS Tr.bD OT ofList_nil ofList_cons OU OV OW OX OY OZ O0 O2 O3 O4 O5 O6 O7 O8 O9 Pa Pb rO Au Pc Ph Pj Pk Pm Ax Ay Pd Pe Pf Pg Po E5 Pr Pp Pq Ps Pt Pu Pv Pw Px Py Pz PA PG E7 E8 AB ab.bb ab.aW xG Pn tB PB PC PD PE PF qe ey PH PK PL PM PN PO PQ PR
end Go.aD
end
noncomputable section
namespace Go.aD
variable {e:Env} {ro:Option Nat}
structure Sub(h g:ab):Prop where
 next:h.next<=g.next
 get:∀i o,i<h.next->h.get i=some o->g.get i=some o
def Sub.refl(h:ab):Sub h h:=⟨Yt _,λ_ _ _ h=>h⟩
def Sub.trans{h g k:ab}(a:Sub h g)(b:Sub g k):Sub h k:=⟨Nat.le_trans a.next b.next,λi o hi ho=>b.get i o (afo hi a.next) (a.get i o hi ho)⟩
def Sub.new{h g:ab}(a:Sub h g)(o:bR):Sub h (g.new o):=
 ⟨Nat.le_succ_of_le a.next,λi p hi hp=>by rw[bO _ _ _ (by have:=a.next;omega)];exact a.get i p hi hp⟩
def Sub.set{h g:ab}{i:Nat}(a:Sub h g)(hi:h.next<=i)(o:Option bR):Sub h (g.set i o):=
 ⟨a.next,λj p hj hp=>by rw[bE _ _ _ _ aa];exact a.get j p hj hp⟩
def Sub.rd{h g:ab}(a:Sub h g){b o:Nat}{v:Value}(hb:b<h.next)(hv:aD.rd h b o=some v):aD.rd g b o=some v:=by
 unfold aD.rd at hv⊢;cases hg:h.get b with
 |none=>simp[hg]at hv
 |some ob=>rw[a.get b ob hb hg];rw[hg]at hv;exact hv
def PS(h:ab):Sub h h=True:=eq_true (Sub.refl h)
def PT{h g:ab}(a:Sub h g)(o:bR):Sub h (g.new o)=True:=eq_true (a.new o)
def bU.still{f:FuncId}{args:List Value}{h:ab}{v:Value}{h1:ab}(hr:bU e f args h v h1)(hs:Sub h h1)
 (hv:∀ρ w (ad:List Value),Gl e ρ->bQ ρ args ad->bA ρ h w->∃u,aQ ρ v u):bU e f args h v h:=by
 refine⟨hr.1,λρ w ad hg ha x=>(hr.2 ρ w ad hg ha x).mono ?_⟩;rintro en w' ⟨v',ao,rfl,q1,q2,q3⟩;obtain⟨u,hu⟩:=hv ρ w ad.toList hg ha x;refine⟨v',ρ,rfl,hu.back q3.ext q1,⟨x.hD,λi o ho=> ?_,x.sep⟩,⟨Ext.refl _,q3.os,q3.output,q3.size,q3.frozen,q3.kept,λi o pl a b c=>.inl ⟨i,o,pl,a,b,c,rfl⟩,λ_ _ a _=>a,λ_ a b=>absurd a b,λ_ o a _=>⟨o,a⟩,Yt _⟩⟩
 . obtain⟨pl,h2,h3⟩:=x.obj i o ho;obtain⟨pl',ae,ah⟩:=q2.obj i o (hs.get i o (x.hD i pl h2) ho);rw[q3.ext _ _ h2]at ae;cases ae;exact⟨pl,h2,h3.back q3.ext ah⟩
def bU.plain{f:FuncId}{args:List Value}{h:ab}{v:Value}{h1:ab}(hr:bU e f args h v h1)(hs:Sub h h1)(hv:aD.plain v=true):bU e f args h v h:=
 hr.still hs λρ _ _ _ _ _=>⟨v,nz hv⟩
def KR(K:Value->ab->Prop)(h:ab):List Value->Prop:=λvs=>K (jM vs) h
theorem PU(K:Value->ab->Prop)(h:ab)(vs:List Value):KR K h vs=K (jM vs) h:=rfl
theorem PW(v:Value):jM [v]=v:=rfl
theorem PX(v w:Value)(r:List Value):jM (v::w::r)=.tuple (v::w::r).toArray:=rfl
theorem PY:jM []=.tuple #[]:=rfl
def PZ(rs:List ResultVar)(K:Value->ab->Prop)(t:Tr Value)(n:Nat)(h:ab):oK e rs K .ret ⟨t,n,[],h⟩=aN (gZ e ⟨t,n,[],h⟩ rs) (KR K h):=by
 simp only[oK,kL,KR,aN,afp];exact propext ⟨λ⟨_,h1,vs,e1,e2,e3⟩=>by subst e1;exact⟨vs,e2,e3⟩,λ⟨vs,e2,e3⟩=>⟨λi h=>(by cases h),h,vs,rfl,e2,e3⟩⟩
def rP(m:Nat)(l:dA):dA:=l.filter λq=> !m.testBit q.1
theorem P6(m:Nat):rP m []=[]:=rfl
def P7(m i id:Nat)(o:bR)(r:dA):rP m ((i,id,o)::r)=if m.testBit i=true then rP m r else(i,id,o)::rP m r:=by
 simp only[rP,List.filter_cons];cases m.testBit i<;>rfl
section
variable (ops:List Oper) (dst:Option Tmp) (op:Op) (ty:TypeId) (pos:String) (af:Array Edge) (r:List Oper) (m:Nat) (dy:Option (Nat×Nat)) (pl:List PI) (i id:Nat) (t:Tr Value) (n:Nat) (ds:List Deferred) (h:ab) (ax all:dA) (st:List (Nat×ab)) (sn:List (Tr Value)) (K:cF->Prop)
def AD(e:Env)(ro:Option Nat)(ops r:List Oper)(pl:List PI)(i id:Nat)(t:Tr Value)(n:Nat)(ds:List Deferred)(h:ab)(ax all:dA)(st:List (Nat×ab))(sn:List (Tr Value))(K:cF->Prop)(dst:Option Tmp):Value->Prop:=
 λv=>cw e ro ops r pl (i+1) id (bN dst v t) n ds h ax all st (t::sn) K
def E9(e:Env)(ro:Option Nat)(ops r:List Oper)(pl:List PI)(i id:Nat)(t:Tr Value)(n:Nat)(ds:List Deferred)(h:ab)(ax all:dA)(st:List (Nat×ab))(sn:List (Tr Value))(K:cF->Prop)(dst:Option Tmp):bR×(Nat->Value)->Prop:=
 λq=>cw e ro ops r pl (i+1) (id+1) (bN dst (q.2 id) t) n ds h ((i,id,q.1)::ax) ((i,id,q.1)::all) st (t::sn) K
def Fc(e:Env)(ro:Option Nat)(ops r:List Oper)(m:Nat)(pl:List PI)(i id:Nat)(t:Tr Value)(n:Nat)(ax all:dA)(st:List (Nat×ab))(sn:List (Tr Value))(K:cF->Prop)(dst:Option Tmp):Kt:=
 λv ds h=>cw e ro ops r pl (i+1) id (bN dst v t) n ds h (ax.filter λq=> !m.testBit q.1) all ((Rm ((st.head?.map (·.1)).getD 0) m,h)::st) (t::sn) K
theorem P8(v:Value):AD e ro ops r pl i id t n ds h ax all st sn K dst v=cw e ro ops r pl (i+1) id (bN dst v t) n ds h ax all st (t::sn) K:=rfl
theorem P9(o:bR)(f:Nat->Value):E9 e ro ops r pl i id t n ds h ax all st sn K dst (o,f)=cw e ro ops r pl (i+1) (id+1) (bN dst (f id) t) n ds h ((i,id,o)::ax) ((i,id,o)::all) st (t::sn) K:=rfl
theorem Qa(v:Value):Fc e ro ops r m pl i id t n ax all st sn K dst v ds h=cw e ro ops r pl (i+1) id (bN dst v t) n ds h (rP m ax) all ((Rm ((st.head?.map (·.1)).getD 0) m,h)::st) (t::sn) K:=rfl
def Fe:cw e ro ops [] pl i id t n ds h ax all st sn K=K ⟨⟨t,n,ds,h⟩,ax,all,st,sn⟩:=by cases pl<;>rfl
theorem Qb:cw e ro ops (⟨dst,op,ty,pos,af,none⟩::r) (⟨.pure,m,dy⟩::pl) i id t n ds h ax all st sn K=(dB dst n/\aN (bI e h t op) (AD e ro ops r pl i id t n ds h ax all st sn K dst)):=rfl
theorem Qc:cw e ro ops (⟨dst,op,ty,pos,af,none⟩::r) (⟨.read,m,dy⟩::pl) i id t n ds h ax all st sn K=(dB dst n/\aN (bI e (cq h m ax) t op) (AD e ro ops r pl i id t n ds h ax all st sn K dst)):=rfl
theorem Qd:cw e ro ops (⟨dst,op,ty,pos,af,none⟩::r) (⟨.alloc,m,dy⟩::pl) i id t n ds h ax all st sn K=(dB dst n/\aN (cU e t op) (E9 e ro ops r pl i id t n ds h ax all st sn K dst)):=rfl
theorem Qe:cw e ro ops (⟨dst,op,ty,pos,af,none⟩::r) (⟨.effect,m,dy⟩::pl) i id t n ds h ax all st sn K=(dB dst n/\bL e ro op t ds (cq h m ax) (Fc e ro ops r m pl i id t n ax all st sn K dst)):=rfl
end
def tH(e:Env)(ro:Option Nat)(ops r:List Oper)(o:Oper)(p:PI)(pl:List PI)(i id:Nat)(t:Tr Value)(n:Nat)(ds:List Deferred)(h:ab)(ax all:dA)(st:List (Nat×ab))(sn:List (Tr Value))(K:cF->Prop)(w:Bool):Value->Prop:=λg=>match g with
 |.bool b=>(b=w->(match p.c with
 |.pure=>aN (bI e h t o.op) λv=>cw e ro ops r pl (i+1) id (bN o.dst v t) n ds h ax all st (t::sn) K
 |.read=>aN (bI e (cq h p.m ax) t o.op) λv=>cw e ro ops r pl (i+1) id (bN o.dst v t) n ds h ax all st (t::sn) K
 |.alloc=>aN (cU e t o.op) λq=>cw e ro ops r pl (i+1) (id+1) (bN o.dst (q.2 id) t) n ds h ((i,id,q.1)::ax) ((i,id,q.1)::all) st (t::sn) K
 |.effect=>bL e ro o.op t ds (cq h p.m ax) λv ds h=>cw e ro ops r pl (i+1) id (bN o.dst v t) n ds h (ax.filter λq=> !p.m.testBit q.1) all ((Rm ((st.head?.map (·.1)).getD 0) p.m,h)::st) (t::sn) K
 |.bad=>False))/\(b= !w->(match p.c with
 |.effect=>cw e ro ops r pl (i+1) id (bN o.dst undef t) n ds h ax all (((st.head?.map (·.1)).getD 0,h)::st) (t::sn) K
 |.alloc=>cw e ro ops r pl (i+1) (id+1) (bN o.dst undef t) n ds h ax all st (t::sn) K
 |.bad=>False
 |_=>cw e ro ops r pl (i+1) id (bN o.dst undef t) n ds h ax all st (t::sn) K))
 |.tuple _=>(match p.c with
 |.effect=>cw e ro ops r pl (i+1) id (bN o.dst undef t) n ds h ax all (((st.head?.map (·.1)).getD 0,h)::st) (t::sn) K
 |.alloc=>cw e ro ops r pl (i+1) (id+1) (bN o.dst undef t) n ds h ax all st (t::sn) K
 |.bad=>False
 |_=>cw e ro ops r pl (i+1) id (bN o.dst undef t) n ds h ax all st (t::sn) K)
 |_=>False
def Ff(e:Env)(ro:Option Nat)(ops r:List Oper)(o:Oper)(p:PI)(pl:List PI)(i id:Nat)(t:Tr Value)(n:Nat)(ds:List Deferred)(h:ab)(ax all:dA)(st:List (Nat×ab))(sn:List (Tr Value))(K:cF->Prop)(w:Bool):Tmp->Prop:=λd=>aN (t.get d) (tH e ro ops r o p pl i id t n ds h ax all st sn K w)
section
variable (ops:List Oper) (dst:Option Tmp) (op:Op) (ty:TypeId) (pos:String) (af:Array Edge) (r:List Oper) (m:Nat) (dy:Option (Nat×Nat)) (pl:List PI) (i id:Nat) (t:Tr Value) (n:Nat) (ds:List Deferred) (h:ab) (ax all:dA) (st:List (Nat×ab)) (sn:List (Tr Value)) (K:cF->Prop) (w:Bool)
theorem Qf(j:Nat)(p:PI):cw e ro ops (⟨dst,op,ty,pos,af,some (j,w)⟩::r) (p::pl) i id t n ds h ax all st sn K=
 (dB dst n/\aN ((ops[j]?).bind (·.dst)) (Ff e ro ops r ⟨dst,op,ty,pos,af,none⟩ p pl i id t n ds h ax all st sn K w)):=rfl
theorem Qg(o:Oper)(p:PI)(d:Tmp):Ff e ro ops r o p pl i id t n ds h ax all st sn K w d=aN (t.get d) (tH e ro ops r o p pl i id t n ds h ax all st sn K w):=rfl
theorem Qh:tH e ro ops r ⟨dst,op,ty,pos,af,none⟩ ⟨.pure,m,dy⟩ pl i id t n ds h ax all st sn K w undef=cw e ro ops r pl (i+1) id (bN dst undef t) n ds h ax all st (t::sn) K:=rfl
theorem Qi:tH e ro ops r ⟨dst,op,ty,pos,af,none⟩ ⟨.read,m,dy⟩ pl i id t n ds h ax all st sn K w undef=cw e ro ops r pl (i+1) id (bN dst undef t) n ds h ax all st (t::sn) K:=rfl
theorem Qj:tH e ro ops r ⟨dst,op,ty,pos,af,none⟩ ⟨.alloc,m,dy⟩ pl i id t n ds h ax all st sn K w undef=cw e ro ops r pl (i+1) (id+1) (bN dst undef t) n ds h ax all st (t::sn) K:=rfl
theorem Qk:tH e ro ops r ⟨dst,op,ty,pos,af,none⟩ ⟨.effect,m,dy⟩ pl i id t n ds h ax all st sn K w undef=cw e ro ops r pl (i+1) id (bN dst undef t) n ds h ax all (((st.head?.map (·.1)).getD 0,h)::st) (t::sn) K:=rfl
end
theorem Ql(h:ab)(m:Nat):cq h m []=h:=rfl
def AE(h:ab)(m i id:Nat)(o:bR)(r:dA):cq h m ((i,id,o)::r)=if m.testBit i=true then(cq h m r).set id (some o)else cq h m r:=by
 simp only[cq];cases m.testBit i<;>rfl
theorem Qm(h:ab):e8 h []=h:=rfl
theorem Fg(h:ab)(i id:Nat)(o:bR)(r:dA):e8 h ((i,id,o)::r)=(e8 h r).set id (some o):=rfl
section
variable (h:ab) (t:Tr Value)
theorem Qn(x:Operand):bI e h t (.move x)=aE e t x:=rfl
theorem Qo(x:Operand):bI e h t (.assign x)=aE e t x:=rfl
theorem Qp(c a b:Operand):bI e h t (.pick c a b)=rI (aE e t c) (aE e t a) (aE e t b):=rfl
def Qq(ty:TypeId)(l:List (Nat×Operand)):bI e h t (.build ty l.toArray)=mM e ty (fx e t l):=by simp[bI]
theorem Qr(ty:TypeId)(a:Operand):bI e h t (.load ty a)=(aE e t a).bind (mL e h ty):=rfl
theorem Qs(x:Operand):bI e h t (.nilCheck x)=(aE e t x).bind rG:=rfl
theorem Qt(op:BinOp)(ty:TypeId)(x y:Operand)(z:TypeId):bI e h t (.binOp op ty x y z)=gx (cL e op ty x y) (aE e t x) (aE e t y):=rfl
theorem Qu(op:UnOp)(ty:TypeId)(x:Operand):bI e h t (.unOp op ty x)=(aE e t x).bind (nI e op):=rfl
theorem Qv(s d:TypeId)(x:Operand):bI e h t (.convert s d x)=(aE e t x).bind (oL e h s d):=rfl
theorem Qw(ty:TypeId)(x:Operand):bI e h t (.makeInterface ty x)=(aE e t x).bind (vp e ty):=rfl
theorem Qx(ty:TypeId)(x:Operand)(lo hi mx:Option Operand):bI e h t (.slice ty x lo hi mx)=tD e h ty (aE e t x) (iz e t lo) (iz e t hi) (iz e t mx):=rfl
theorem Qy(s:TypeId)(x:Operand)(f:Nat):bI e h t (.fieldAddr s x f)=(aE e t x).bind (rF e s f):=rfl
theorem Qz(ty:TypeId)(x:Operand)(f:Nat):bI e h t (.field ty x f)=(aE e t x).bind (tC e ty f):=rfl
theorem QA(ty:TypeId)(x ix:Operand):bI e h t (.indexAddr ty x ix)=gx (oM e ty) (aE e t x) (aE e t ix):=rfl
theorem QB(ty:TypeId)(x ix:Operand):bI e h t (.index ty x ix)=gx (oN e ty) (aE e t x) (aE e t ix):=rfl
theorem QC(ty:TypeId)(m k:Operand)(ok:Bool):bI e h t (.lookup ty m k ok)=gx (nJ e h ty ok) (aE e t m) (aE e t k):=rfl
theorem QD(x:Operand)(i:Nat):bI e h t (.extract x i)=(aE e t x).bind (rH i):=rfl
def QE(e:Env)(h:ab)(ty:TypeId):Option Value->Option Value
 |none=>none
 |some x=>fK e h ty x
theorem QF(ty:TypeId)(x:Value):QE e h ty (some x)=fK e h ty x:=rfl
def QG(args:List Operand)(ai:Array TypeId):bI e h t (.call ⟨.builtin .min,args.toArray,ai⟩)=(db e t args).bind (nK e):=by simp[bI]
end
def ab.bump(h:ab)(n:Nat):ab:={h with next:=h.next+n}
theorem QH(h:ab):h.bump 0=h:=rfl
theorem QI(h:ab)(o:bR):(h.bump 1).set h.next (some o)=h.new o:=rfl
theorem bS(h:ab)(n:Nat):(h.bump n).next=h.next+n:=rfl
theorem QJ(h:ab)(n i:Nat):(h.bump n).get i=h.get i:=rfl
theorem QK(h:ab)(n i o:Nat):rd (h.bump n) i o=rd h i o:=rfl
def Sub.bump{h g:ab}(a:Sub h g)(n:Nat):Sub h (g.bump n):=⟨Nat.le_trans a.next (Nat.le_add_right _ _),a.get⟩
def KD(e:Env)(ops:List Oper)(pl:List PI)(K:aM->Prop):cF->Prop:=λx=>gz e ops x.s.t x.all x.bK.reverse ops pl x.di.reverse/\K {x.s with h:=e8 x.s.h x.ax}
theorem QL(ops:List Oper)(pl:List PI)(K:aM->Prop)(t:Tr Value)(n:Nat)(ds:List Deferred)(h:ab)(ax all:dA)(st:List (Nat×ab))(sn:List (Tr Value)):
 KD e ops pl K ⟨⟨t,n,ds,h⟩,ax,all,st,sn⟩=(gz e ops t all st.reverse ops pl sn.reverse/\K ⟨t,n,ds,e8 h ax⟩):=rfl
def kQ{ops:List Oper}{t:Tr Value}{n:Nat}{ds:List Deferred}{h:ab}{K:aM->Prop}(pl:List PI)(aj:rL ops true pl=true)(na:Nat)(an:oY (ops.filter λo=>cls o.op==.alloc).length na=true)
 (hs:cw e ro ops ops pl 0 h.next t n ds (h.bump na) [] [] [(0,h.bump na)] [] (KD e ops pl K)):l8 e ro ops ⟨t,n,ds,h⟩ K:=Nc pl aj na an hs
section
variable (ops:List Oper) (tf:Tr Value) (all:dA) (st:List (Nat×ab)) (o:Oper) (dst:Option Tmp) (op:Op) (ty:TypeId) (pos:String) (af:Array Edge) (g:Option (Nat×Bool)) (r:List Oper) (c:ta) (m:Nat) (pl:List PI) (t:Tr Value) (ts:List (Tr Value)) (v:Value)
def vx(e:Env)(o:Oper)(m:Nat)(t:Tr Value)(all:dA)(l:List (Nat×ab)):Value->Prop:=λv=>oP e o m t v all l
def xI(e:Env)(o:Oper)(m:Nat)(t tf:Tr Value)(all:dA)(l:List (Nat×ab)):Prop:=aN o.dst λd=>aN (tf.get d) (vx e o m t all l)
def xJ(w:Option Bool)(X:Prop):Prop:=match w with|some true=>X|some false=>True|none=>False
theorem QM(X:Prop):xJ (some true) X=X:=rfl
theorem QN(X:Prop):xJ (some false) X=True:=rfl
def xK(w:Bool):Option Value->Option Bool
 |some (.bool b)=>some (b==w)
 |some (.tuple _)=>some false
 |_=>none
def QO(t:Tr Value)(w:Bool):Option Tmp->Option Bool
 |none=>none
 |some d=>xK w (t.get d)
theorem QP(w:Bool)(d:Tmp):QO t w (some d)=xK w (t.get d):=rfl
theorem QQ(w b:Bool):xK w (some (.bool b))=some (b==w):=rfl
theorem QR(w:Bool):xK w (some undef)=some false:=rfl
theorem QS(s:aM):cZ ops s ⟨dst,op,ty,pos,af,none⟩=some true:=rfl
theorem QT:vx e o m t all st v=oP e o m t v all st:=rfl
def QU(d:Tmp):xI e ⟨some d,op,ty,pos,af,g⟩ m t tf all st=aN (tf.get d) (vx e ⟨some d,op,ty,pos,af,g⟩ m t all st):=by simp[xI,gy]
theorem QV:oP e o m t v all []=True:=rfl
theorem QW(q:Nat×ab)(l:List (Nat×ab)):oP e ⟨dst,op,ty,pos,af,g⟩ m t v all (q::l)=(bI e (cq q.2 m (rP q.1 all)) t op=some v/\oP e ⟨dst,op,ty,pos,af,g⟩ m t v all l):=rfl
def QX:gz e ops tf all st [] pl ts=True:=by simp[gz]
def QY:gz e ops tf all st (o::r) (⟨c,m,none⟩::pl) (t::ts)=gz e ops tf all st r pl ts:=by simp[gz]
def QZ(lo k:Nat):gz e ops tf all st (o::r) (⟨c,m,some (lo,k)⟩::pl) (t::ts)=(xJ (cZ ops ⟨t,0,[],{m:=.nil,next:=0}⟩ o) (xI e o m t tf all ((st.drop lo).take k))/\gz e ops tf all st r pl ts):=by
 simp only[gz,xJ,xI,vx];congr 1;cases cZ ops ⟨t,0,[],{m:=.nil,next:=0}⟩ o with
 |none=>rfl
 |some b=>
  cases b with
  |false=>rfl
  |true=>
   simp only;cases o.dst with
   |none=>simp[aN]
   |some d=>
    simp only[gy];cases tf.get d with
    |none=>simp[aN]
    |some v=>simp[gy,vx]
end
attribute [go_sem] P6 P7 QH QI bS QJ QK QL QM QN QP QQ QR QS QT QU QV QW QX QY QZ PS PT PU PW PX PY PZ P8 P9 Qa Fe Qb Qc Qd Qe Qf Qg Qh Qi Qj Qk Ql AE Qm Fg Qn Qo Qp Qq Qr Qs Qt Qu Qv Qw Qx Qy Qz QA QB QC QD QF QG
abbrev bc(m:Nat):PI:=⟨.pure,m,none⟩
abbrev dP(m:Nat):PI:=⟨.read,m,none⟩
abbrev fN(m:Nat):PI:=⟨.effect,m,none⟩
abbrev AF(m:Nat):PI:=⟨.alloc,m,none⟩
attribute [go_sem] bc dP fN AF
end Go.aD
end
noncomputable section
open Go Go.aD Go.Proofs
namespace Go.Sp
def tt:Tr TypeInfo:=Tr.ofList Tryz.prog.types.toList 0 .nil
def ft:Tr Func:=Tr.ofList Tryz.prog.funcs.toList 0 .nil
def idle(g:Nat):Bool:=oY g 129
def vy(ks:List vo):Env:=oJ Tryz.prog tt ft idle 1 (xw ks)
def E:Env:=vy []
def qf(ks:List vo):Idle (vy ks):=by
 intro g hg args w n;obtain rfl:g=129:=yx hg;refine⟨args,enters_of Tryz.func129 an rfl args w, ?_⟩;have ah:Sem.run Tryz.prog (binOp BinOp.neq 20 Value.nilIface Value.nilIface) w=.ok (.bool false) w:=by simp[go_sem,Tryz.underlying20]
 show CallsDIn Fence.wide n Tryz.prog 129 args .returning w _;refine callsDIn_of_wpSIn Tryz.func129 rfl trivial λad cs hu=> ?_;have hT:17<=(args++afe (Tryz.f129.ntmps-args.size) undef).size:=by
  have:Tryz.f129.ntmps=17:=Tryz.ntmps129;simp[this];omega
 generalize (args++afe (Tryz.f129.ntmps-args.size) undef)=T at hT⊢;have t4:4<T.size:=aa;have t1:1<T.size:=aa;have t5:5<T.size:=aa;have t6:6<T.size:=aa;apply wpSIn_seq;apply wpSIn_region;simp[wpOpsSIn,go_sem,recoverD,hu,Exit.thenS,t4,t1];apply wpSIn_seq;apply wpSIn_region;simp[wpOpsSIn,go_sem,Exit.thenS,t4,t1,t5,t6,ah];refine wpSIn_cond (t:=false) (by simp[Act.eval,t6]) ?_;simp only[Bool.false_eq_true,if_false];refine wpSIn_of_wpIn rfl (wpIn_skip ?_);cases ad;simp_all[bodyPostS,results,Tryz.results129]
def Q2:EU tt Tryz.prog.types.toList=true:=an
def Q3:EV Tryz.prog.funcs.toList=true:=an
def ko:Tryz.prog.follows .mixedOrders=true:=an
def jj(ks:List vo):(vy ks).Ok:=MV idle 1 (xw ks) rfl rfl Q2 Q3
def run{f:FuncId}{fn:Func}{c:Code}{args:List Value}{h:ab}{K:Value->ab->Prop}{n:Nat}(hn:fn.ntmps=n){rs:List ResultVar}(ae:fn.results=rs.toArray)
 (hq:RS E none c ⟨gQ args,args.length+(n-args.length),[],h⟩ (oK E rs K)) (af:E.fn f=some fn:=by kernel_rfl) (hb:fn.body=some c:=by rfl):∃v h',bU E f args h v h'/\K v h':=bU.OA (jj []) ko (qf []) af hb hn ae hq
def xL{ro:Option Nat}{c:Code}{s:aM}{K:bu->aM->Prop}(h:RS E ro c s (tF E ro c K)):RS E ro (.loop c) s K:=Ox (jj []) ko h
def step{ro:Option Nat}{c:Code}{s:aM}{P:bu->aM->Prop}(h:RS E ro c s (tF E ro c P)):∃k x s',nH E ro c x s' k s/\P x s':=E3 (jj []) ko h
def l9{f:FuncId}{fn:Func}{c:Code}{args:List Value}{h:ab}{v:Value}{n:Nat}(hn:fn.ntmps=n){rs:List ResultVar}(ae:fn.results=rs.toArray)(hv:plain v=true)
 (hq:RS E none c ⟨gQ args,args.length+(n-args.length),[],h⟩ (oK E rs λv' h'=>v'=v/\Sub h h')) (af:E.fn f=some fn:=by kernel_rfl) (hb:fn.body=some c:=by rfl):bU E f args h v h:=by
 obtain⟨v',h',h1,rfl,h2⟩:=run hn ae hq af hb;exact h1.plain h2 hv
attribute [go_sem] List.getElem?_cons_zero List.getElem?_cons_succ
end Go.Sp
end
noncomputable section
namespace Go.aD
def dC(h:ab)(o:bR)(j:Nat)(hj:¬j≠h.next):(h.new o).get j=some o:=by rw[show j=h.next by omega];exact qe h o
def gA(h:ab)(cs:List Value)(wr:Bool)(ak:Nat)(j o:Nat)(hj:¬j≠h.next):rd (h.new (.row cs wr ak)) j o=cs[o]? :=c8 (dC h _ j hj)
def kp(k:Nat)(h:ab)(v:Value)(cs:List (List Value)):Prop:=
 (cs=[]/\∃a c,v=.slice a 0 c)\/∃b o c,v=.slice (some ⟨b,o,none⟩) cs.length c/\b<h.next/\∀j x,cs[j]? =some x->∀i u,x[i]? =some u->rd h b (o+j*k+i)=some u
def kp.sub{k:Nat}{h g:ab}{v:Value}{cs:List (List Value)}(hs:kp k h v cs)(a:Sub h g):kp k g v cs:=by
 rcases hs with hs|⟨b,o,c,h1,h2,h3⟩
 . exact .inl hs
 . exact .inr ⟨b,o,c,h1,afo h2 a.next,λj x hj i u hi=>a.rd h2 (h3 j x hj i u hi)⟩
def kp.at{k:Nat}{h:ab}{v:Value}{cs:List (List Value)}(hs:kp k h v cs){j:Nat}{x:List Value}(hj:cs[j]? =some x):
 ∃b o c,v=.slice (some ⟨b,o,none⟩) cs.length c/\b<h.next/\j<cs.length/\∀i u,x[i]? =some u->rd h b (o+j*k+i)=some u:=by
 rcases hs with⟨rfl,_⟩|⟨b,o,c,h1,h2,h3⟩
 . cases hj
 . exact⟨b,o,c,h1,h2,(List.getElem?_eq_some_iff.1 hj).1,λi u hi=>h3 j x hj i u hi⟩
def kp.cell{k:Nat}{h:ab}{b o c n:Nat}{cs:List (List Value)}(hs:kp k h (.slice (some ⟨b,o,none⟩) n c) cs){j:Nat}{x:List Value}(hj:cs[j]? =some x){i:Nat}{u:Value}(hi:x[i]? =some u):rd h b (o+j*k+i)=some u:=by
 obtain⟨b',o',c',e,_,_,h3⟩:=hs.at hj;cases e;exact h3 i u hi
variable {e:Env} {ro:Option Nat}
def Env.place(e:Env)(t i:Nat):Option (Nat×Nat):=
 match e.under t with
 |some (.struct fields)=>ke e fields i
 |some (.array _ elem)=>match e.size elem with
  |none=>none
  |some s=>some (i*s,s)
 |_=>none
def qg(e:Env)(t:TypeId)(cells:List Value)(ps:List (Nat×Value)):Option (List Value):=iJ (e.place t) cells ps
def AG(e:Env)(t:TypeId)(cells:List Value)(v:Value)(r:List (Nat×Value)):Option (Nat×Nat)->Option (List Value)
 |none=>none
 |some (off,size)=>if v.cells.toList.length=size/\off+size<=cells.length then qg e t (dN cells off v.cells.toList) r else none
theorem Q7(t:TypeId)(cells:List Value):qg e t cells []=some cells:=rfl
def Q8(t:TypeId)(cells:List Value)(i:Nat)(v:Value)(r:List (Nat×Value)):qg e t cells ((i,v)::r)=AG e t cells v r (e.place t i):=by
 simp only[qg,iJ,AG];cases e.place t i with
 |none=>rfl
 |some p=>
  obtain⟨off,size⟩:=p;simp only;by_cases h1:v.cells.toList.length=size<;>by_cases h2:off+size<=cells.length
  . rw[if_pos ⟨h1,h2⟩];simp only[h1,HT,Q0 h2,Ey,cond_true]
  . rw[if_neg (λh=>h2 h.2)];have:Fj (off+size) cells.length=false:=by
     cases hb:Fj (off+size) cells.length with
     |false=>rfl
     |true=>exact absurd (UR hb) h2
    simp only[this,afq,cond_false]
  . rw[if_neg (λh=>h1 h.1)];have:oY v.cells.toList.length size=false:=by
     cases hb:oY v.cells.toList.length size with
     |false=>rfl
     |true=>exact absurd (yx hb) h1
    simp only[this,afr,cond_false]
  . rw[if_neg (λh=>h1 h.1)];have:oY v.cells.toList.length size=false:=by
     cases hb:oY v.cells.toList.length size with
     |false=>rfl
     |true=>exact absurd (yx hb) h1
    simp only[this,afr,cond_false]
theorem Q9(t:TypeId)(cells:List Value)(v:Value)(r:List (Nat×Value))(off size:Nat):AG e t cells v r (some (off,size))=if v.cells.toList.length=size/\off+size<=cells.length then qg e t (dN cells off v.cells.toList) r else none:=rfl
def rQ(e:Env)(t:TypeId)(ps:List (Nat×Value)):Option Value->Option Value
 |none=>none
 |some z=>Av (qg e t z.cells.toList ps)
theorem Ra(t:TypeId)(ps:List (Nat×Value))(z:Value):rQ e t ps (some z)=Av (qg e t z.cells.toList ps):=rfl
def xM{t:TypeId}(ps:List (Nat×Value))(h:(e.place t 0).isSome=true)(hs:∃d,e.under t=some d/\jH d=true):mM e t (some ps)=rQ e t ps (e.zero t):=by
 obtain⟨d,hd,ha⟩:=hs;simp only[mM,pR,rQ,qg,hd];cases hz:e.zero t with
 |none=>rfl
 |some z=>
  cases d with
  |struct fields=>
   have:e.place t=ke e fields:=by funext i;simp[Env.place,hd]
   simp only[this];cases iJ (ke e fields) z.cells.toList ps<;>rfl
  |array n el=>
   simp only;cases he:e.size el with
   |none=>
    simp only;have hp:e.place t=λ_=>none:=by funext i;simp[Env.place,hd,he]
    rw[hp]at h;cases h
   |some s=>
    have:e.place t=λi=>some (i*s,s):=by funext i;simp[Env.place,hd,he]
    simp only[this];cases iJ (λi=>some (i*s,s)) z.cells.toList ps<;>rfl
  |_=>cases ha
attribute [go_sem] Q7 Q8 Q9 Ra
end Go.aD
end
noncomputable section
namespace Go.aD
variable {e:Env} {ro:Option Nat}
def mN(e:Env)(ty:TypeId)(ok:Bool)(k:Value):Option bR->Option Value
 |some (.map es _)=>match e.under ty with
  |some (.map kt et)=>match e.under kt with
   |none=>none
   |some kd=>bif plain k&&nu kd k then match b8 e.P (Instr.checkKey es.isEmpty 10000 kt k)with
    |none=>none
    |some _=>match gr e.P kt k es 0 with
     |none=>none
     |some (some (_,v))=>some (bif ok then .tuple #[v,.bool true]else v)
     |some none=>match e.zero et with
      |none=>none
      |some z=>bif plain z then some (bif ok then .tuple #[z,.bool false]else z)else none
    else none
  |_=>none
 |_=>none
def xN(h:ab)(ty:TypeId)(ok:Bool)(r:Nat)(k:Value):nJ e h ty ok (.map (some r)) k=mN e ty ok k (h.get r):=by
 simp only[nJ,pS,mN];cases hu:e.under ty with
 |none=>cases h.get r with
  |none=>rfl
  |some o=>cases o<;>rfl
 |some d=>
  cases d with
  |map kt et=>
   simp only;cases h.get r with
   |none=>rfl
   |some o=>cases o<;>rfl
  |_=>cases h.get r with
   |none=>rfl
   |some o=>cases o<;>rfl
def nN(e:Env)(ty:TypeId)(k v:Value)(es:List MapEntry)(clock:Nat):Option bR:=
 match e.under ty with
 |some (.map kt _)=>match e.under kt with
  |none=>none
  |some kd=>bif plain k&&nu kd k then match b8 e.P (Instr.checkKey false 10000 kt k)with
   |none=>none
   |some _=>match gr e.P kt k es 0 with
    |none=>none
    |some (some (i,_))=>bif Instr.sameBits 10000 (((es[i]?).map (·.key)).getD k) k then
     some (.map (es.modify i λx=>{x with key:=k,val:=v}) clock)
     else none
    |some none=>some (.map (es++[{key:=k,val:=v,born:=clock}]) (clock+1))
   else none
 |_=>none
def AH(e:Env)(ty:TypeId)(k v:Value)(h:ab)(r:Nat):Option bR->Option ab
 |some (.map es clock)=>(nN e ty k v es clock).map λo=>h.set r (some o)
 |_=>none
def Fh(h:ab)(ty:TypeId)(r:Nat)(k v:Value):oO e h ty (some (.map (some r))) (some k) (some v)=AH e ty k v h r (h.get r):=by
 simp only[oO,qT,AH,nN];cases hu:e.under ty with
 |none=>cases h.get r with
  |none=>rfl
  |some o=>cases o<;>rfl
 |some d=>
  cases d with
  |map kt et=>
   simp only;cases h.get r with
   |none=>rfl
   |some o=>
    cases o with
    |map es clock=>
     simp only;cases e.under kt with
     |none=>rfl
     |some kd=>
      simp only;cases plain k&&nu kd k with
      |false=>rfl
      |true=>
       simp only[cond_true];cases b8 e.P (Instr.checkKey false 10000 kt k)with
       |none=>rfl
       |some u=>
        simp only;cases gr e.P kt k es 0 with
        |none=>rfl
        |some p=>
         cases p with
         |none=>rfl
         |some q=>
          simp only;cases Instr.sameBits 10000 (((es[q.1]?).map (·.key)).getD k) k<;>rfl
    |_=>rfl
  |_=>cases h.get r with
   |none=>rfl
   |some o=>cases o<;>rfl
theorem Fi(ty:TypeId)(k v:Value)(h:ab)(r:Nat)(es:List MapEntry)(clock:Nat):AH e ty k v h r (some (.map es clock))=(nN e ty k v es clock).map λo=>h.set r (some o):=rfl
section
variable {κ ν:Type} [DecidableEq κ]
def bq(l:List (κ×ν))(a:κ):Option ν:=
 match l with
 |[]=>none
 |(k,v)::r=>if a=k then some v else bq r a
def put(l:List (κ×ν))(a:κ)(v:ν):List (κ×ν):=
 match l with
 |[]=>[(a,v)]
 |(k,w)::r=>if a=k then(a,v)::r else(k,w)::put r a v
def mO(l:List (κ×ν))(a b:κ)(v:ν):bq (put l a v) b=if b=a then some v else bq l b:=by
 induction l with
 |nil=>simp[put,bq]
 |cons p r ih=>
  obtain⟨k,w⟩:=p;simp only[put]
  split
  . rename_i h;subst h;simp only[bq]
    split<;>rfl
  . rename_i h;simp only[bq,ih]
    split
    . rename_i h2;subst h2;rw[if_neg (λh3=>h h3.symm)]
    . rfl
def qh{l:List (κ×ν)}{a:κ}{v:ν}(h:bq l a=none):put l a v=l++[(a,v)]:=by
 induction l with
 |nil=>rfl
 |cons p r ih=>
  obtain⟨k,w⟩:=p;simp only[bq]at h
  split at h
  . cases h
  . rename_i hk;simp only[put,if_neg hk,List.cons_append,ih h]
structure kq(e:Env)(kt:TypeId)(kf:κ->Value):Prop where
 kd:∃kd,e.under kt=some kd/\∀k,nu kd (kf k)=true
 plain:∀k,aD.plain (kf k)=true
 check:∀k b,∃u,b8 e.P (Instr.checkKey b 10000 kt (kf k))=some u
 eq:∀a b,kg e.P kt (kf a) (kf b)=some (decide (a=b))
 bits:∀k,Instr.sameBits 10000 (kf k) (kf k)=true
def jN(kf:κ->Value)(vf:ν->Value)(es:List MapEntry)(l:List (κ×ν)):Prop:=es.map (λx=>(x.key,x.val))=l.map λp=>(kf p.1,vf p.2)
def xO{kt:TypeId}{kf:κ->Value}{vf:ν->Value}(hk:kq e kt kf):∀{es:List MapEntry} {l:List (κ×ν)} (a:κ) (i:Nat),jN kf vf es l->∃r,gr e.P kt (kf a) es i=some r/\
 (match bq l a with|none=>r=none|some v=>∃j,r=some (i+j,vf v)/\∃x,es[j]? =some x/\x.key=kf a/\∀w,jN kf vf (es.modify j λx=>{x with key:=kf a,val:=vf w}) (put l a w))
 |[],[],a,i,_=>⟨none,rfl,by simp[bq]⟩
 |[],_::_,a,i,h=>by simp[jN]at h
 |_::_,[],a,i,h=>by simp[jN]at h
 |x::es,(k,v)::l,a,i,h=>by
  simp only[jN,aff,List.cons.injEq,Prod.mk.injEq]at h;obtain⟨⟨h1,h2⟩,h3⟩:=h;simp only[gr,h1,hk.eq];by_cases e1:a=k
  . subst e1;simp only[decide_true,bq,if_true];refine⟨_,rfl,0,by rw[h2];rfl,x,rfl,h1,λw=> ?_⟩;simp only[jN,put,if_true,aff,List.modify_cons,if_pos];exact congrArg _ h3
  . simp only[e1,decide_false,bq,if_false];obtain⟨r,h4,h5⟩:=xO hk (vf:=vf) a (i+1) (show jN kf vf es l from h3);refine⟨r,h4, ?_⟩;cases ha:bq l a with
    |none=>simpa[ha]using h5
    |some v'=>
     simp only[ha]at h5⊢;obtain⟨j,h6,y,h7,h8,h9⟩:=h5;refine⟨j+1,by rw[h6];congr 2;omega,y,h7,h8,λw=> ?_⟩;have:=h9 w;simp only[jN]at this⊢;simp only[put,if_neg e1,aff,List.modify_succ_cons,this,h1,h2]
def xP{ty kt et:TypeId}{kf:κ->Value}{vf:ν->Value}(hk:kq e kt kf)(hu:e.under ty=some (.map kt et)){es:List MapEntry}{l:List (κ×ν)}(hl:jN kf vf es l)(a:κ)(ok:Bool)(clock:Nat){v:ν}(hv:bq l a=some v):
 mN e ty ok (kf a) (some (.map es clock))=some (bif ok then .tuple #[vf v,.bool true]else vf v):=by
 obtain⟨kd,h1,h2⟩:=hk.kd;obtain⟨u,h3⟩:=hk.check a es.isEmpty;obtain⟨r,h4,h5⟩:=xO hk (vf:=vf) a 0 hl;rw[hv]at h5;obtain⟨j,rfl,_⟩:=h5;simp only[mN,hu,h1,hk.plain,h2,Ey,cond_true,h3,h4]
def AI{ty kt et:TypeId}{kf:κ->Value}{vf:ν->Value}(hk:kq e kt kf)(hu:e.under ty=some (.map kt et)){es:List MapEntry}{l:List (κ×ν)}(hl:jN kf vf es l)(a:κ)(ok:Bool)(clock:Nat){z:Value}(hz:e.zero et=some z)(hp:aD.plain z=true)(hv:bq l a=none):
 mN e ty ok (kf a) (some (.map es clock))=some (bif ok then .tuple #[z,.bool false]else z):=by
 obtain⟨kd,h1,h2⟩:=hk.kd;obtain⟨u,h3⟩:=hk.check a es.isEmpty;obtain⟨r,h4,h5⟩:=xO hk (vf:=vf) a 0 hl;rw[hv]at h5;simp only at h5;subst h5;simp only[mN,hu,h1,hk.plain,h2,Ey,cond_true,h3,h4,hz,hp]
def vz{ty kt et:TypeId}{kf:κ->Value}{vf:ν->Value}(hk:kq e kt kf)(hu:e.under ty=some (.map kt et)){es:List MapEntry}{l:List (κ×ν)}(hl:jN kf vf es l)(a:κ)(clock:Nat)(w:ν):
 ∃ad aa,nN e ty (kf a) (vf w) es clock=some (.map ad aa)/\jN kf vf ad (put l a w):=by
 obtain⟨kd,h1,h2⟩:=hk.kd;obtain⟨u,h3⟩:=hk.check a false;obtain⟨r,h4,h5⟩:=xO hk (vf:=vf) a 0 hl;cases hv:bq l a with
 |none=>
  rw[hv]at h5;simp only at h5;subst h5;refine⟨es++[{key:=kf a,val:=vf w,born:=clock}],clock+1,by simp only[nN,hu,h1,hk.plain,h2,Ey,cond_true,h3,h4], ?_⟩;have:=hl;simp only[jN]at this⊢;rw[qh hv];simp[this]
 |some v=>
  rw[hv]at h5;obtain⟨j,rfl,x,h6,h7,h8⟩:=h5;have hb:Instr.sameBits 10000 (((es[0+j]?).map (·.key)).getD (kf a)) (kf a)=true:=by
   rw[WZ,h6];show Instr.sameBits 10000 x.key (kf a)=true;rw[h7];exact hk.bits a
  refine⟨es.modify (0+j) λx=>{x with key:=kf a,val:=vf w},clock,by simp only[nN,hu,h1,hk.plain,h2,Ey,cond_true,h3,h4,hb], ?_⟩;have:=h8 w;rwa[WZ]
end
attribute [go_sem] xN Fh Fi
end Go.aD
end
noncomputable section
namespace Go.aD
variable {e:Env} {ro:Option Nat}
structure xQ(e:Env)(st:TypeId)(sz ad:Nat):Prop where
 el:∃el z,e.under st=some (.slice el)/\e.size el=some sz/\e.zero el=some z/\e.bytes el=some ad/\z.cells.toList.length=sz
 pos:0<sz
theorem Rc(h:ab)(st:TypeId)(r:List TypeId)(s x:Value):tE e h (st::r).toArray (some [s,x])=nv e h (st::r).toArray s x:=rfl
def Fk{h:ab}{st:TypeId}{sz ad:Nat}(hE:xQ e st sz ad){base:Option Addr}{len cap:Nat}{xb:Option Addr}{n xc:Nat}{new:List Value}(hx:ir h sz n (.slice xb n xc)=some new)(hl:new.length=n*sz):
 nv e h #[st,st] (.slice base len cap) (.slice xb n xc)=pU h base len cap sz ad n new:=by
 obtain⟨el,z,h1,h2,h3,h4,h5⟩:=hE.el;have hs:Rb 0 sz=true:=Q0 hE.pos;unfold nv;simp only[List.getElem?_toArray,List.getElem?_cons_zero,List.getElem?_cons_succ,h1,h2,h3,h4];have hi:ov (.slice el)=false:=rfl;simp only[hi,sZ,cond_false,pT,s8,hx,hs,h5,hl,HT,Ey,cond_true]
def append_nil{h:ab}{st:TypeId}{sz ad:Nat}(hE:xQ e st sz ad){xb:Option Addr}{n xc:Nat}{new:List Value}(hx:ir h sz n (.slice xb n xc)=some new)(hl:new.length=n*sz)(hn:0<n)(hb:n*(ad+1)<=1073741824):
 nv e h #[st,st] (.slice none 0 0) (.slice xb n xc)=some (.slice (some ⟨h.next,0,none⟩) n n,h.new (.row new true sz)):=by
 rw[Fk hE hx hl];unfold pU;have h1:Fj n 0=false:=by
  cases ae:Fj n 0 with
  |false=>rfl
  |true=>have:=UR ae;omega
 have h2:Fj (n*(ad+1)) 1073741824=true:=Q0 hb;simp only[WZ,h1,h2,cond_false,cond_true,HT,Ey]
def Fl{h:ab}{st:TypeId}{sz ad:Nat}(hE:xQ e st sz ad){xb:Option Addr}{n xc:Nat}{new:List Value}(hx:ir h sz n (.slice xb n xc)=some new)(hl:new.length=n*sz)(hn:0<n){i len:Nat}{cs:List Value}
 (hg:h.get i=some (.row cs true sz)) (hc:cs.length=len*sz) (af:new.all dF=true) (hb:(len+n)*(ad+1)<=1073741824):
 nv e h #[st,st] (.slice (some ⟨i,0,none⟩) len len) (.slice xb n xc)=some (.slice (some ⟨h.next,0,none⟩) (len+n) (len+n),(h.set i none).new (.row (cs++new) true sz)):=by
 rw[Fk hE hx hl];unfold pU;have hs:=hE.pos;have h1:Fj (len+n) len=false:=by
  cases ae:Fj (len+n) len with
  |false=>rfl
  |true=>have:=UR ae;omega
 have h2:Fj ((len+n)*(ad+1)) 1073741824=true:=Q0 hb;have h3:fV h ⟨i,0,none⟩ (len*sz)=some cs:=by
  unfold fV;simp only[hg,afd,<-hc,afs,HT,cond_true]
 have h4:oY sz 0=false:=by
  cases ae:oY sz 0 with
  |false=>rfl
  |true=>have:=yx ae;omega
 have h5:Rb (0+len*sz) cs.length=false:=by
  cases ae:Rb (0+len*sz) cs.length with
  |false=>rfl
  |true=>have:=UR ae;omega
 simp only[h1,h2,cond_false,cond_true,h3,hg,h4,HT,h5,afq,Bool.or_self,Ey,af]
def xR{h:ab}{sz n xc i:Nat}{cs:List Value}{wr:Bool}{ak:Nat}(hg:h.get i=some (.row cs wr ak))(hl:cs.length=n*sz):ir h sz n (.slice (some ⟨i,0,none⟩) n xc)=some cs:=by
 simp only[ir,fV,hg,afd,<-hl,afs,HT,cond_true]
def Env.gB(e:Env)(st:TypeId):Option (Nat×Value):=
 match e.under st with
 |some (.slice el)=>match e.size el,e.zero el with
  |some s,some z=>some (s,z)
  |_,_=>none
 |_=>none
def nO(s:Nat):Nat->List (Nat×Value)->Option (List Value)
 |_,[]=>some []
 |i,(j,v)::r=>if j=i/\v.cells.toList.length=s then(nO s (i+1) r).map (v.cells.toList++·)else none
def Fm{s:Nat}:∀{ps:List (Nat×Value)} {i:Nat} {cs done rest:List Value},nO s i ps=some cs->done.length=i*s->rest.length=ps.length*s->iJ (λi=>some (i*s,s)) (done++rest) ps=some (done++cs)
 |[],i,cs,done,rest,h,h1,h2=>by
  simp only[nO,afp]at h;subst h;have:rest=[]:=List.eq_nil_of_length_eq_zero (by simpa using h2);subst this;rfl
 |(j,v)::r,i,cs,done,rest,h,h1,h2=>by
  simp only[nO]at h
  split at h
  . rename_i hc;obtain⟨rfl,hv⟩:=hc;simp only[Option.map_eq_some_iff]at h;obtain⟨cs',h3,rfl⟩:=h;simp only[List.length_cons,Nat.add_mul,Nat.one_mul]at h2;have hle:j*s+s<=(done++rest).length:=by simp only[aft];omega
    simp only[iJ,hv,HT,Q0 hle,Ey,cond_true];have e1:dN (done++rest) (j*s) v.cells.toList=(done++v.cells.toList)++rest.drop s:=by
     unfold dN;rw[<-h1,List.take_left,hv,List.drop_append,afg aa];simp
    rw[e1,Fm h3 (by simp only[aft,h1,hv,Nat.add_mul,Nat.one_mul]) (by rw[List.length_drop];omega),List.append_assoc]
  . cases h
def Fo(zs:List Value)(n:Nat):(dY zs n).length=n:=by simp[dY]
def Re{t:Tr Value}{st n:Nat}{l:List (Nat×Operand)}{s:Nat}{z:Value}{ps:List (Nat×Value)}{cs:List Value}(hz:e.gB st=some (s,z))(ah:z.cells.toList.length=s)(hs:0<s)(hn:n*s<=16777216)(hp:fx e t l=some ps)(ai:ps.length=n)(hr:nO s 0 ps=some cs):
 cU e t (.buildSlice st n l.toArray)=some (.row cs true 0,λi=>.slice (some ⟨i,0,none⟩) n n):=by
 unfold Env.gB at hz
 split at hz
 . rename_i el hu
   split at hz
   . rename_i s' z' h1 h2;cases hz;have hb:Rb 0 s=true:=Q0 hs;simp only[cU,hu,hp,h1,h2,ah,HT,hb,Q0 hn,Ey,cond_true];have:=Fm (s:=s) (done:=[]) (rest:=dY z.cells.toList (n*s)) hr aw (by rw[Fo,ai]);simp only[List.nil_append]at this;rw[this]
   . cases hz
 . cases hz
def xS(e:Env)(t:Tr Value)(st n:Nat)(l:List (Nat×Operand)):Option (bR×(Nat->Value)):=cU e t (.buildSlice st n l.toArray)
def xT(e:Env)(t:Tr Value)(st n:Nat)(l:List (Nat×Operand)):Option (List Value)->Option (bR×(Nat->Value))
 |some cs=>some (.row cs true 0,λi=>.slice (some ⟨i,0,none⟩) n n)
 |none=>xS e t st n l
def AJ(e:Env)(t:Tr Value)(st n:Nat)(l:List (Nat×Operand)):Option (Nat×Value)->Option (List (Nat×Value))->Option (bR×(Nat->Value))
 |some (s,z),some ps=>if z.cells.toList.length=s/\0<s/\n*s<=16777216/\ps.length=n then xT e t st n l (nO s 0 ps)else xS e t st n l
 |_,_=>xS e t st n l
def Rf(t:Tr Value)(st n:Nat)(l:List (Nat×Operand)):cU e t (.buildSlice st n l.toArray)=AJ e t st n l (e.gB st) (fx e t l):=by
 unfold AJ
 split
 . rename_i s z ps hz hp
   split
   . rename_i hc;obtain⟨h1,h2,h3,h4⟩:=hc;unfold xT
     split
     . rename_i cs hr;exact Re hz h1 h2 h3 hp h4 hr
     . rfl
   . rfl
 . rfl
theorem Rg(t:Tr Value)(st n:Nat)(l:List (Nat×Operand))(s:Nat)(z:Value)(ps:List (Nat×Value)):AJ e t st n l (some (s,z)) (some ps)=if z.cells.toList.length=s/\0<s/\n*s<=16777216/\ps.length=n then xT e t st n l (nO s 0 ps)else xS e t st n l:=rfl
theorem Rh(t:Tr Value)(st n:Nat)(l:List (Nat×Operand))(cs:List Value):xT e t st n l (some cs)=some (.row cs true 0,λi=>.slice (some ⟨i,0,none⟩) n n):=rfl
theorem Ri(s i:Nat):nO s i []=some []:=rfl
theorem Rj(s i j:Nat)(v:Value)(r:List (Nat×Value)):nO s i ((j,v)::r)=if j=i/\v.cells.toList.length=s then(nO s (i+1) r).map (v.cells.toList++·)else none:=rfl
theorem Rk(t:Tr Value)(ty:TypeId):cU e t (.makeMap ty none)=some (.map [] 0,λi=>.map (some i)):=rfl
attribute [go_sem] Nat.testBit_eq_decide_div_mod_eq Rc Ri Rj Rk Rf Rg Rh
end Go.aD
end
noncomputable section
namespace Go.aD
variable {e:Env} {ro:Option Nat}
def fm(e:Env)(f:FuncId)(args:List Value)(h:ab)(K:Value->ab->Prop):Prop:=(∃fn,e.fn f=some fn)/\∀ρ w (ae:Array Value),Gl e ρ->bQ ρ args ae.toList->bA ρ h w->
 Calls e.P f ae w λen w'=>∃v h' v' ad,K v h'/\en=.returned v'/\aQ ad v v'/\bA ad h' w'/\Fr h.next ρ h w ad h' w'
def bU.k{f:FuncId}{args:List Value}{h:ab}{v:Value}{h':ab}{K:Value->ab->Prop}(hr:bU e f args h v h')(hk:K v h'):fm e f args h K:=
 ⟨hr.1,λρ w ae hg ha x=>(hr.2 ρ w ae hg ha x).mono λen w' ⟨v',ad,h1,h2,h3,h4⟩=>⟨v,h',v',ad,hk,h1,h2,h3,h4⟩⟩
def fm.mono{f:FuncId}{args:List Value}{h:ab}{K K':Value->ab->Prop}(hr:fm e f args h K)(hk:∀v h',K v h'->K' v h'):fm e f args h K':=
 ⟨hr.1,λρ w ae hg ha x=>(hr.2 ρ w ae hg ha x).mono λen w' ⟨v,h',v',ad,h0,h1,h2,h3,h4⟩=>⟨v,h',v',ad,hk _ _ h0,h1,h2,h3,h4⟩⟩
def Rn{b:Nat}{ρ:aH}{h:ab}{w:World}(x:bA ρ h w):bA ρ h w.drew/\Fr b ρ h w ρ h w.drew:=
 ⟨⟨x.hD,x.obj,x.sep⟩,⟨Ext.refl _,rfl,rfl,Yt _,λ_ _=>rfl,λ_ _ _=>rfl,(Fr.refl b ρ h w).new,λ_ _ h _=>h,λ_ h h'=>absurd h h',(Fr.refl b ρ h w).bp,Yt _⟩⟩
def AK(h:ab)(it:Value)(K:Value->ab->Prop):Prop:=∃r m since seen last es clock,it=.pointer (some ⟨r,0,none⟩)/\h.get r=some (.cC (some m) since seen last)/\h.get m=some (.map es clock)/\(∀x∈es,x.born<since)/\since<=last/\
 ((∀x∈es,seen.contains x.born=true)->K (.tuple #[.bool false]) h)/\∀x∈es,seen.contains x.born=false->K (.tuple #[.bool true,x.key,x.val]) (h.set r (some (.cC (some m) since (seen++[x.born]) clock)))
def Fp{ρ:aH}{es av:List MapEntry}(h:aU (eM ρ) es av):∀y∈av,∃x∈es,eM ρ x y:=by
 induction h with
 |nil=>intro y hy;cases hy
 |cons h1 _ ih=>
  intro y hy;rcases adr.1 hy with rfl|hy
  . exact⟨_,afh,h1⟩
  . obtain⟨x,hx,hr⟩:=ih y hy;exact⟨x,afi _ hx,hr⟩
def Ro{ρ:aH}{es av:List MapEntry}(h:aU (eM ρ) es av):∀x∈es,∃y∈av,eM ρ x y:=by
 induction h with
 |nil=>intro y hy;cases hy
 |cons h1 _ ih=>
  intro y hy;rcases adr.1 hy with rfl|hy
  . exact⟨_,afh,h1⟩
  . obtain⟨x,hx,hr⟩:=ih y hy;exact⟨x,afi _ hx,hr⟩
def Rp{b:Nat}(P:Program){ρ:aH}{h:ab}{w:World}(x:bA ρ h w){it bf:Value}(hi:aQ ρ it bf){K:Value->ab->Prop}(hs:AK h it K)(ty:TypeId):∃v h',K v h'/\fM b P ρ h w (Instr.next bf false ty) v h':=by
 obtain⟨r,m,since,seen,last,es,clock,rfl,hr,hm,hold,bn,h0,h1⟩:=hs;obtain⟨pl,hp,rfl⟩:=hi.oC;obtain⟨pl',g1,g2,m',g3,g4⟩:=x.obj _ _ hr;rw[hp]at g1;cases g1;obtain⟨aY,bg,bo⟩:=g4.map_some;cases bo;obtain⟨pl',q1,q2,av,q3,q4⟩:=x.obj _ _ hm;rw[bg]at q1;cases q1;have hz:pl.off+0=0:=by rw[g2]
 rw[hz];have aO:∀y∈av.toList,y.born<since:=λy hy=>by
  obtain⟨z,hz,aA⟩:=Fp q4 y hy;rw[aA.born];exact hold z hz
 have bq:pl.bh<w.heap.size:=(Array.getElem?_eq_some_iff.1 g3).1;rcases run_next_at (P:=P) w ty pl.bh aY.bh since last seen.toArray av clock g3 q3 aO bn with⟨hl,aJ⟩|⟨y,hy,w1,bk,aJ⟩
 . refine⟨_,_,h0 λz hz=> ?_,fM.same x (v':=.tuple #[.bool false]) aJ (aQ.kj.2 (.cons (.bool _) .nil))⟩;obtain⟨y,hy,aA⟩:=Ro q4 z hz;have he:leftOf av seen.toArray=#[]:=Array.eq_empty_of_size_eq_zero hl;unfold leftOf at he;rw[Array.filter_eq_empty_iff]at he;have:=he y (by simpa using hy);rw[aA.born]at this;simpa using this
 . have bl:y∈av.toList/\seen.contains y.born=false:=by
    unfold leftOf at hy;simp at hy;refine⟨by simpa using hy.1,by simpa using hy.2⟩
   obtain⟨z,hz,aA⟩:=Fp q4 y bl.1;have aZ:=h1 z hz (by rw[<-aA.born];exact bl.2);refine⟨_,_,aZ, ?_⟩;have hw:bA ρ h w1/\Fr b ρ h w ρ h w1:=by
    rcases bk with rfl|rfl
    . exact⟨x,Fr.refl _ _ _ _⟩
    . exact Rn x
   have bs:pl.bh<w1.heap.size:=by rcases bk with rfl|rfl<;>exact bq
   obtain⟨k1,k2⟩:=rn (b:=b) (o:=.mapIter (some aY.bh) since (seen.toArray.push y.born) clock) (ao':=.cC (some m) since (seen++[z.born]) clock) hw.1 hr rfl hp rfl
    ⟨g2,some aY.bh,by rw[oz _ _ _ bs,aA.born];simp,.map bg⟩ rfl
   exact⟨.tuple #[.bool true,y.key,y.val],_,ρ,aJ,aQ.kj.2 (.cons (.bool _) (.cons (by rw[aA.key];exact nz aA.plain) (.cons aA.val .nil))),k1,hw.2.trans k2⟩
def jl(e:Env)(ro:Option Nat)(op:Op)(t:Tr Value)(ds:List Deferred)(h:ab)(K:Kt):Prop:=
 match op with
 |.call c=>match c.callee with
  |.value f=>aN (qb (aE e t f) (db e t c.args.toList)) λp=>fm e p.1 p.2 h λv h'=>K v ds h'
  |_=>bL e ro (.call c) t ds h K
 |.next it s=>bL e ro (.next it s) t ds h K\/(s=false/\aN (aE e t it) λv=>AK h v λv h=>K v ds h)
 |op=>bL e ro op t ds h K
def bL.Rq{o:Oper}{t:Tr Value}{n:Nat}{ds:List Deferred}{h:ab}{K:Kt}(hs:bL e ro o.op t ds h K)(ai:dB o.dst n):l7 e ro o ⟨t,n,ds,h⟩ λs=>∃v ds h,K v ds h/\s=⟨bN o.dst v t,n,ds,h⟩:=
 hs.xC ai λv ds h hk=>⟨v,ds,h,hk,rfl⟩
def bL.wp(he:e.Ok){o:Oper}{t:Tr Value}{n:Nat}{ds:List Deferred}{h:ab}{K:Kt}(hs:bL e ro o.op t ds h K)(ai:dB o.dst n){ρ:aH}{a:Act}{w:World}(x:dx e ρ ⟨t,n,ds,h⟩ a w)
 {ah:Option Nat} (aj:hY ρ ro ah) (N:Nat) {next:Act->World->Prop} {Q:Exit->Act->World->Prop} (an:∀v aC h' a' w' ad,K v aC h'->dx e ad ⟨bN o.dst v t,n,aC,h'⟩ a' w'->Fr h.next ρ h w ad h' w'->next a' w'):
 o.wpIn (FF ah) N e.P a w next Q:=by
 obtain⟨cf,s',h1,h2,v,aC,h',h3,rfl⟩:=(hs.Rq ai).cf;exact vi he h1 xz h2 x aj N λa' w' ad x' f'=>an v aC h' a' w' ad h3 x' f'
def Rr{h:ab}{t:Tr Value}{c:Call}{f:Operand}{p:FuncId×List Value}(hc:c.callee=.value f)(hp:qb (aE e t f) (db e t c.args.toList)=some p):aS e h t (.call c)=some (.enter p.1 p.2 h):=by
 simp only[qb]at hp;simp only[aS,lr,hc]
 split at hp
 . rename_i fv args h4 h5
   split at hp
   . rename_i g az cap h6;cases hp;simp only[h4,h5,h6]
   . cases hp
 . cases hp
def jl.wp(he:e.Ok){o:Oper}{t:Tr Value}{n:Nat}{ds:List Deferred}{h:ab}{K:Kt}(hs:jl e ro o.op t ds h K)(ai:dB o.dst n){ρ:aH}{a:Act}{w:World}(x:dx e ρ ⟨t,n,ds,h⟩ a w)
 {ah:Option Nat} (aj:hY ρ ro ah) (N:Nat) {next:Act->World->Prop} {Q:Exit->Act->World->Prop} (an:∀v aC h' a' w' ad,K v aC h'->dx e ad ⟨bN o.dst v t,n,aC,h'⟩ a' w'->Fr h.next ρ h w ad h' w'->next a' w'):
 o.wpIn (FF ah) N e.P a w next Q:=by
 have bp:bL e ro o.op t ds h K->o.wpIn (FF ah) N e.P a w next Q:=λhs=>hs.wp he ai x aj N an
 cases aG:o.op with
 |call c=>
  rw[aG]at hs bp;unfold jl at hs;simp only at hs
  split at hs
  . rename_i f hf;obtain⟨⟨g,args⟩,h1,⟨fn,aX⟩,aP⟩:=hs;have hr:aS e h t o.op=some (.enter g args h):=by rw[aG];exact Rr (h:=h) hf h1
    have key:=Er he (ds:=a.defers) x.g x.t x.m hr;obtain⟨_,ae,k1,k2⟩:=key;have ha:(Act.mk a.tmps a.defers)=a:=rfl;rw[ha]at k2;have aK:Oper.semAt (FF ah).round a.eval o=execOp a.eval o:=Oper.semAt_eq _ _ _ λc' aR=>by rw[aG]at aR;cases aR
    refine⟨λf _=>trivial, ?_⟩;rw[aK,k2 fn aX,Oper.uponIn_enter];refine⟨zT _ _,Es ((aP ρ w ae x.g k1 x.m).mono ?_)⟩;rintro en w' ⟨v,h',v',ad,hk,rfl,q1,q2,q3⟩;obtain⟨p1,p2⟩:=mG (x.with q2 q3) (rK (s:=⟨t,n,ds,h'⟩) (v:=v) ai) q1;exact an v ds h' _ _ _ hk p1 q3
  . exact bp hs
 |next it s=>
  rw[aG]at hs bp;rcases hs with hs|⟨rfl,v,hv,hn⟩
  . exact bp hs
  . have bm:=kl x.g x.t hv a.defers;have aK:Oper.semAt (FF ah).round a.eval o=execOp a.eval o:=Oper.semAt_eq _ _ _ λc' aR=>by rw[aG]at aR;cases aR
    have ha:(Act.mk a.tmps a.defers)=a:=rfl;rw[ha]at bm;obtain⟨u,h',hk,bt⟩:=Rp (b:=h.next) e.P x.m bm hn o.type;obtain⟨v',w',ad,k1,k2,k3,k4⟩:=dZ.gives bt;have k1:(execOp a.eval o).run e.P w=.ok (.value v') w':=by
     obtain⟨dst,op,ty,pos,af,g⟩:=o;simp only at aG;subst aG;exact k1
    refine⟨λf _=>trivial, ?_⟩;rw[aK,k1,Oper.uponIn_value];obtain⟨p1,p2⟩:=mG (x.with k3 k4) (rK (s:=⟨t,n,ds,h'⟩) (v:=u) ai) k2;exact an u ds h' _ _ _ hk p1 k4
 |_=>rw[aG]at hs bp;exact bp hs
def nP(e:Env)(ro:Option Nat)(ops:List Oper):List Oper->Tr Value->Nat->List Deferred->ab->(aM->Prop)->Prop
 |[],t,n,ds,h,K=>K ⟨t,n,ds,h⟩
 |o::r,t,n,ds,h,K=>dB o.dst n/\match cZ ops ⟨t,n,ds,h⟩ o with
  |none=>False
  |some true=>jl e ro o.op t ds h λv ds h=>nP e ro ops r (bN o.dst v t) n ds h K
  |some false=>nP e ro ops r (bN o.dst undef t) n ds h K
def Rs(he:e.Ok){ops:Array Oper}{n:Nat}{K:aM->Prop}(ah:Option Nat)(N:Nat)(Q:Exit->Act->World->Prop):∀(l:List Oper) (k:Nat) (t:Tr Value) (ds:List Deferred) (h:ab) (ρ:aH) (a:Act) (w:World),ops.toList.drop k=l->nP e ro ops.toList l t n ds h K->dx e ρ ⟨t,n,ds,h⟩ a w->hY ρ ro ah->
 (∀s' a' w' ad,K s'->dx e ad s' a' w'->Fr h.next ρ h w ad s'.h w'->Q .normal a' w')->wpOpsIn (FF ah) N e.P ops Q ((afj ops.size).drop k) a w:=by
 intro l
 induction l with
 |nil=>
  intro k t ds h ρ a w hl hs x _ hQ;have hk:ops.size<=k:=by
   have:=congrArg List.length hl;simp at this;omega
  rw[afg (by simpa using hk)];exact hQ _ a w ρ hs x (Fr.refl _ _ _ _)
 |cons o r ih=>
  intro k t ds h ρ a w hl hs x aj hQ;have hk:k<ops.size:=by
   rcases Nat.lt_or_ge k ops.size with h|h
   . exact h
   . rw[afg (by simpa using h)]at hl;cases hl
  have bw:ops[k]? =some o:=by
   have:(ops.toList.drop k)[0]? =some o:=by rw[hl];rfl
   simpa[List.getElem?_drop]using this
  have hr:ops.toList.drop (k+1)=r:=by rw[<-afl,hl];rfl
  have aL:(afj ops.size).drop k=k::(afj ops.size).drop (k+1):=by
   rw[List.drop_eq_getElem_cons (by simpa using hk)];simp
  rw[aL];simp only[nP]at hs;obtain⟨ai,hs⟩:=hs;simp only[wpOpsIn,bw];cases hw:cZ ops.toList ⟨t,n,ds,h⟩ o with
  |none=>simp[hw]at hs
  |some b=>
   cases b with
   |true=>
    simp only[hw]at hs;rw[oE hw x,if_pos rfl];refine hs.wp he ai x aj N λv aC h' a1 w1 ao hk x1 f1=> ?_;exact ih (k+1) _ aC h' ao a1 w1 hr hk x1 (aj.mono f1.ext) λs2 a2 w2 aT hK x2 f2=>hQ s2 a2 w2 aT hK x2 (f1.trans (f2.mono f1.next))
   |false=>
    simp only[hw]at hs;rw[oE hw x,if_neg aw];refine⟨λf _=>trivial, ?_⟩;obtain⟨p1,_⟩:=mG x (rK (s:=⟨t,n,ds,h⟩) (v:=undef) ai) (vh _);exact ih (k+1) _ ds h ρ _ w hr hs p1 aj hQ
def WR(e:Env)(ro:Option Nat)(c:Code)(s:aM)(K:bu->aM->Prop):Prop:=∀ρ a w ah n Q,dx e ρ s a w->hY ρ ro ah->
 (∀x s' a' w' ad,K x s'->dx e ad s' a' w'->Fr s.h.next ρ s.h w ad s'.h w'->Q x.to a' w')->c.wpIn (FF ah) n e.P Q a w
def nG.wr{c:Code}{s s':aM}{x:bu}{K:bu->aM->Prop}(h:nG e ro c s x s')(hk:K x s'):WR e ro c s K:=
 λρ a w ah n Q X aj hQ=>h ρ a w ah n Q X aj λa' w' ad x' f'=>hQ x s' a' w' ad hk x' f'
def WR.mono{c:Code}{s:aM}{K K':bu->aM->Prop}(h:WR e ro c s K)(hk:∀x s,K x s->K' x s):WR e ro c s K':=
 λρ a w ah n Q X aj hQ=>h ρ a w ah n Q X aj λx s' a' w' ad h1 x' f'=>hQ x s' a' w' ad (hk _ _ h1) x' f'
def WR.skip{s:aM}{K:bu->aM->Prop}(h:K .normal s):WR e ro .skip s K:=λρ a w ah n Q X aj hQ=>wpIn_skip (hQ .normal s a w ρ h X (Fr.refl _ _ _ _))
def WR.exit{s:aM}{id:Nat}{K:bu->aM->Prop}(h:K (.exit id) s):WR e ro (.exit id) s K:=λρ a w ah n Q X aj hQ=>wpIn_exit (hQ (.exit id) s a w ρ h X (Fr.refl _ _ _ _))
def WR.ret{s:aM}{K:bu->aM->Prop}(h:K .ret s):WR e ro .ret s K:=λρ a w ah n Q X aj hQ=>wpIn_ret (hQ .ret s a w ρ h X (Fr.refl _ _ _ _))
def WR.seq{p q:Code}{s:aM}{K:bu->aM->Prop}(h:WR e ro p s λx s1=>match x with|.normal=>WR e ro q s1 K|x=>K x s1):WR e ro (.seq p q) s K:=by
 intro ρ a w ah n Q X aj hQ;refine wpIn_seq (h ρ a w ah n _ X aj λx s1 a1 w1 ao k q1 f1=> ?_);cases x with
 |normal=>exact k ao a1 w1 ah n Q q1 (aj.mono f1.ext) λx s2 a2 w2 aT k2 q2 f2=>hQ x s2 a2 w2 aT k2 q2 (f1.trans (f2.mono f1.next))
 |exit i=>exact hQ (.exit i) s1 a1 w1 ao k q1 f1
 |ret=>exact hQ .ret s1 a1 w1 ao k q1 f1
def WR.cond{c:Operand}{p q:Code}{s:aM}{K:bu->aM->Prop}(v:Bool)(hv:aE e s.t c=some (.bool v))(ht:v=true->WR e ro p s K)(hf:v=false->WR e ro q s K):WR e ro (.cond c p q) s K:=by
 intro ρ a w ah n Q X aj hQ;cases v with
 |true=>exact wpIn_cond_true (kl X.g X.t hv a.defers).oB (ht rfl ρ a w ah n Q X aj hQ)
 |false=>exact wpIn_cond_false (kl X.g X.t hv a.defers).oB (hf rfl ρ a w ah n Q X aj hQ)
def WR.block{id:Nat}{c:Code}{s:aM}{K:bu->aM->Prop}(h:WR e ro c s λx s1=>match x with|.exit i=>if i=id then K .normal s1 else K (.exit i) s1|x=>K x s1):WR e ro (.block id c) s K:=by
 intro ρ a w ah n Q X aj hQ;refine wpIn_block (h ρ a w ah n _ X aj λx s1 a1 w1 ao k q1 f1=> ?_);cases x with
 |normal=>exact hQ .normal s1 a1 w1 ao k q1 f1
 |ret=>exact hQ .ret s1 a1 w1 ao k q1 f1
 |exit i=>
  show Exit.inBlock _ Q (.exit i) a1 w1;by_cases ba:i=id
  . subst ba;simp only[if_true]at k;simp only[Exit.inBlock,if_true];exact hQ .normal s1 a1 w1 ao k q1 f1
  . simp only[ba,if_false]at k;simp only[Exit.inBlock,ba,if_false];exact hQ (.exit i) s1 a1 w1 ao k q1 f1
def WR.ops(he:e.Ok){id:Nat}{ops:Array Oper}{s:aM}{K:bu->aM->Prop}(h:nP e ro ops.toList ops.toList s.t s.n s.ds s.h (K .normal)):WR e ro (.region id ops false) s K:=by
 intro ρ a w ah n Q X aj hQ;refine wpIn_region ?_;have:=Rs he ah n Q ops.toList 0 s.t s.ds s.h ρ a w rfl h X aj λs' a' w' ad k x' f'=>hQ .normal s' a' w' ad k x' f';simpa using this
def WR.draw(he:e.Ok)(bb:e.P.follows .mixedOrders=true){id:Nat}{ops:Array Oper}{s:aM}{K:bu->aM->Prop}(h:l8 e ro ops.toList s (K .normal)):WR e ro (.region id ops true) s K:=by
 obtain⟨h1,h2⟩:=h;obtain⟨dK,x,h3,h4,h5,h6⟩:=h2.dK;exactλρ a w ah n Q X aj hQ=>EN he bb h3 xz ro ops s h1 x h4 h5 ρ a w ah n Q id X aj λa' w' ad x' f'=>hQ .normal _ a' w' ad h6 x' f'
def WR.loop{c:Code}{K:bu->aM->Prop}(I:Nat->aM->Prop)(hI:∀j s,I j s->WR e ro c s λx s1=>match x with|.normal=>∃j',j'<j/\I j' s1|x=>K x s1)(j:Nat)(s:aM)(hs:I j s):WR e ro (.loop c) s K:=by
 intro ρ a w ah n Q X aj hQ;have key:∀(k j:Nat) (s:aM),j<k->I j s->∀(ρ:aH) (a:Act) (w:World),dx e ρ s a w->hY ρ ro ah->(∀x s' a' w' ad,K x s'->dx e ad s' a' w'->Fr s.h.next ρ s.h w ad s'.h w'->Q x.to a' w')->c.roundsIn (FF ah) n e.P Q k a w:=by
  intro k
  induction k with
  |zero=>intro j s hj;omega
  |succ k ih=>
   intro j s hj hs ρ a w X aj hQ;rw[roundsIn_succ];refine hI j s hs ρ a w ah n _ X aj λx s1 a1 w1 ao h1 q1 f1=> ?_;cases x with
   |normal=>
    obtain⟨j',bF,bz⟩:=h1;exact ih j' s1 aa bz ao a1 w1 q1 (aj.mono f1.ext) λx s2 a2 w2 aT k2 q2 f2=>hQ x s2 a2 w2 aT k2 q2 (f1.trans (f2.mono f1.next))
   |exit i=>exact hQ (.exit i) s1 a1 w1 ao h1 q1 f1
   |ret=>exact hQ .ret s1 a1 w1 ao h1 q1 f1
 exact wpIn_loop_rounds (j+1) (key (j+1) j s aa hs ρ a w X aj hQ)
def fm.of(he:e.Ok)(aV:Idle e){f:FuncId}{fn:Func}{c:Code}{args:List Value}{h:ab}{K:Value->ab->Prop}(aX:e.fn f=some fn)(hb:fn.body=some c)
 (hq:WR e none c {t:=gQ args,n:=args.length+(fn.ntmps-args.length),ds:=[],h} (oK e fn.results.toList K)):fm e f args h K:=by
 refine⟨⟨fn,aX⟩,λρ w ae hg ha x=> ?_⟩;have hl:args.length=ae.size:=by simpa using ha.length
 have bB:dx e ρ {t:=gQ args,n:=args.length+(fn.ntmps-args.length),ds:=[],h} {tmps:=ae++afe (fn.ntmps-ae.size) undef,defers:=[]} w:=
  ⟨hg,Ev ha fn.ntmps,.nil,x⟩
 have out:∀s a' w' ad,(∃h1 vs,kL e s.ds s.h=some h1/\gZ e {s with h:=h1} fn.results.toList=some vs/\K (jM vs) h1)->dx e ad s a' w'->Fr h.next ρ h w ad s.h w'->
  LeavesInM Fence.wide 0 e.P fn a'.tmps (λen w'=>∃v h' v' ad,K v h'/\en=.returned v'/\aQ ad v v'/\bA ad h' w'/\Fr h.next ρ h w ad h' w') a'.defers .returning w':=by
  rintro s a' w' ad ⟨h2,vs,bD,bE,hk⟩ x' f';refine Ex he aV 0 bD x'.d x'.m λw2 m2 f2=> ?_;have x2:dx e ad {s with h:=h2} a' w2:=⟨x'.g,x'.t,x'.d,m2⟩;obtain⟨aW,q1,q2⟩:=zV he x2 bE;have hm:(fn.results.mapM (rC a'.tmps)).run e.P w2=.ok aW.toArray w2:=by
   rw[Array.mapM_eq_mapM_toList,Sem.run_map,q1];rfl
  have bc:Fr h.next ρ h w ad h2 w2:=f'.trans (f2.mono f'.next);have bd:(results fn a'.tmps).run e.P w2=.ok (if h:aW.toArray.size=1 then aW.toArray[0]else .tuple aW.toArray) w2:=by
   rw[Ew,Sem.run_bind,hm];rfl
  refine⟨_,bd,jM vs,h2,_,ad,hk,rfl, ?_,m2,bc⟩
  match vs,aW,q2 with
  |[u],[u'],.cons hu _=>simpa[jM]using hu
  |[],[],_=>exact aQ.kj.2 .nil
  |_::_::_,_::_::_,q2=>
   rw[dif_neg aw];exact aQ.kj.2 (by simpa using q2)
 rw[<-callsIn_wide (n:=0)];refine callsIn_of_wp_marks (he.fn f fn aX).1 hb trivial ?_;refine hq ρ _ w none 0 (bodyPostM Fence.wide 0 e.P fn λen w'=>∃v h' v' ad,K v h'/\en=.returned v'/\aQ ad v v'/\bA ad h' w'/\Fr h.next ρ h w ad h' w') bB .none λx s a' w' ad hk x' f'=> ?_;cases x with
 |normal=>exact out s a' w' ad hk.2 x' f'
 |ret=>exact out s a' w' ad hk.2 x' f'
 |exit id=>exact absurd rfl (hk.1 id)
end Go.aD
end
noncomputable section
namespace Go.aD
open Go.ChangeShapes Go.WideShapes Go.ChangeAt Go.RowKit
def rD.same{W w':World}(h:rD W w'){p:MemPlace}(hp:p.block<W.heap.size):W.sameAt w' p:=by
 cases p with
 |cell b o=>exact World.cell?_of_block (w:=W) (h.heap b hp)
 |map b=>exact h.heap b hp
def rD.frame{W w':World}(h:rD W w')(may:MemPlace->Prop):W.keptBut w' may:=by
 refine⟨h.os,h.output,λi hi=> ?_⟩;rw[h.heap i hi]
 split<;>simp_all
section
variable {H:Type} {enc:TypeId×Value->H} {P:Program}
def K3(hl:laidOutB P=true){W W':World}(hk:rD W W'){sp:Nat->Bool}:∀{ts:List TypeId} {vs:List Value} {ds:List (DataW H)} {ps:List MemPlace},(∀t∈ts,P.readableRec t=true/\t<P.types.size)->
 DataW.TrodAll enc P W 0 (λ_=>true) true ts vs ds ps->(∀x∈ps,x.block<W.heap.size)->(∀x∈ps,sp x.block=true)->DataW.TrodAll enc P W' 0 sp true ts vs ds ps
 |[],[],[],_,_,h,_,_=>h
 |[],[],_::_,_,_,h,_,_=>h.elim
 |[],_::_,_,_,_,h,_,_=>by cases h
 |_::_,[],_,_,_,h,_,_=>by cases h
 |_::_,_::_,[],_,_,h,_,_=>by cases h
 |t::ts,v::vs,d::ds,ps,hT,⟨p,q,h1,h2,e⟩,ad,af=>by
  have ht:=hT t (afh ..);refine⟨p,q,WideElems.Trod_stays hl ht.1 ht.2 h1 (λx hx=>hk.same (ad x (by rw[e];simp[hx]))) (λx hx=>af x (by rw[e];simp[hx])), ?_,e⟩;exact K3 hl hk (λu hu=>hT u (afi _ hu)) h2 (λx hx=>ad x (by rw[e];simp[hx])) (λx hx=>af x (by rw[e];simp[hx]))
def ae5{f:Func}{s:ChangeSpec}{apart fresh handsOn again:Bool}{W W':World}{args:Array Value}{ds gs:List (DataW H)}{before:List MemPlace}{tb:TypeId}
 (hW:DataW.Whole enc P f.params.toList s.vars apart W args.toList ds gs before) (aa:s.vars=[])
 (hr:(s.fn H (ds++gs)).results=[.lit (.bool true)]) (ha:(s.fn H (ds++gs)).args=ds) (hv:(s.fn H (ds++gs)).vars=[])
 (hl:laidOutB P=true) (hT:∀t∈f.params.toList,P.readableRec t=true/\t<P.types.size) (ae:f.resultTypes=#[tb]) (hb:P.underlying tb=some .bool) (hk:rD W W'):
 s.post enc P f apart fresh handsOn again W args (.bool true) W':=by
 have ah:=hW;obtain⟨p,q,hA,hV,e,ao,av⟩:=hW;rw[aa]at hV;obtain⟨rfl,rfl⟩:=trodVars_none hV;rw[List.append_nil]at e;subst e;have ad:∀x∈before,x.block<W.heap.size:=λx hx=>ah.lt x hx;have ab:∀sp:Nat->Bool,(∀x∈before,sp x.block=true)->DataW.TrodAll enc P W' 0 sp true f.params.toList args.toList (s.fn H (ds++[])).args before:=λsp af=>by
  rw[ha];exact K3 hl hk hT hA ad af
 have ai:∀sp:Nat->Bool,DataW.TrodVars enc P W' sp s.vars (s.fn H (ds++[])).vars []:=λsp=>by
  rw[hv,aa];rfl
 have aj:∀(b:Nat) (sp:Nat->Bool) (hd:Bool),DataW.TrodAll enc P W' b sp hd f.resultTypes.toList (Value.resultList f.resultTypes.size (.bool true)) (s.fn H (ds++[])).results []:=λb sp hd=>by
  rw[hr,ae];exact trodAll_cons_mk (shut_bool hb _) trodAll_mk0
 have aw:∀x∈before,(λb=>decide (b<W.heap.size)) x.block=true:=λx hx=>by simpa using ad x hx
 refine⟨ds,[],before,[],before,[],ah,aj _ _ _,ab _ aw,ai _,hk.frame _,λ_=>⟨ok_one ae rfl (okWide_bool_mk hb _),_,_,[]++before++[],
  ⟨[]++before,[],trodAll_append (ab _ (λ_ _=>rfl)) (aj _ _ _),ai _,rfl,λb off hp=> ?_,λhd=> ?_⟩,λx hx _=>by simpa using hx⟩⟩
 . have an:MemPlace.cell b off∈before:=by simpa using hp
   exact(hk.frozen _ (ad _ an)).trans (ao b off (by simpa using an))
 . simpa using av hd
end
end Go.aD
end

/- SpacingIndependent: parts of its proof. -/
import Derived.Test.YtmhjnafgdhaemaaGreatDoorK08
open Nat renaming eq_of_beq_eq_true->qe,beq->xS
open Bool renaming and_eq_true->DE
open Option renaming bind_eq_some_iff->Er
open List renaming zip_cons_cons->GP,getElem?_zip_eq_some->PO,getD_eq_getElem?_getD->PX
set_option linter.all false
set_option maxRecDepth 100000
noncomputable section
namespace Go.au
variable {e:Env} {ro:Option Nat}
def aG{α:Type}(x:Option α)(k:α->Prop):Prop:=∃v,x=some v/\k v
theorem fR{α:Type}(v:α)(k:α->Prop):aG (some v) k=k v:=by
 simp[aG]
def bB(dst:Option Tmp)(v:Value)(t:Tr Value):Tr Value:=match dst with|none=>t|some d=>t.set d (some v)
def c9(dst:Option Tmp)(n:Nat):Prop:=match dst with|none=>True|some d=>d<n
theorem q9{s:aE}{dst:Option Tmp}{v:Value}(h:c9 dst s.n):eZ s dst v=some {s with t:=bB dst v s.t}:=by
 cases dst with
 |none=>simp[qD,bB]
 |some d=>
  simp only[qD,bB];have:Nat.blt d s.n=true:=Nat.ble_eq_true_of_le h;rw[this];rfl
def pK(e:Env)(h:aa)(ty:TypeId):Option Value->Option Value->Option aa
 |some p,some v=>match gX p with|none=>none|some a=>n9 e h ty a v
 |_,_=>none
def oE(e:Env)(h:aa)(ty:TypeId):Option Value->Option Value->Option Value->Option aa
 |some m,some k,some v=>qz e h ty m k v
 |_,_,_=>none
def sI(e:Env)(h:aa)(aC:Array TypeId):Option (List Value)->Option (Value×aa)
 |some [s,x]=>mY e h aC s x
 |_=>none
def copyV(e:Env)(h:aa)(aC:Array TypeId):Option (List Value)->Option (Value×aa)
 |some [s,x]=>wh e h aC s x
 |_=>none
def pL:Option Value->Option (List Value)->Option (FuncId×List Value)
 |some f,some args=>match mZ f args with|some (.func g,az,cap)=>some (g,az++cap)|_=>none
 |_,_=>none
def uE(e:Env)(h:aa)(ty:TypeId)(x:Value):Option bF:=match x,e.under ty with
 |.string s,some .string=>some (.eC s 0)
 |.map none,some (.map _ _)=>some (.cj none 0 [] 0)
 |.map (some m),some (.map _ _)=>match h.get m with
  |some (.map _ clock)=>some (.cj (some m) clock [] clock)
  |_=>none
 |_,_=>none
abbrev Kt:Type:=Value->List Deferred->aa->Prop
def bA(e:Env)(ro:Option Nat)(op:Op)(t:Tr Value)(ds:List Deferred)(h:aa)(K:Kt):Prop:=
 match op with
 |.alloc ty=>aG (cF e t (.alloc ty)) λp=>K (p.2 h.next) ds (h.new p.1)
 |.box ty x=>aG (cF e t (.box ty x)) λp=>K (p.2 h.next) ds (h.new p.1)
 |.buildSlice ty n ps=>aG (cF e t (.buildSlice ty n ps)) λp=>K (p.2 h.next) ds (h.new p.1)
 |.makeMap ty n=>aG (cF e t (.makeMap ty n)) λp=>K (p.2 h.next) ds (h.new p.1)
 |.makeSlice ty l c=>aG (cF e t (.makeSlice ty l c)) λp=>K (p.2 h.next) ds (h.new p.1)
 |.store ty a x=>aG (pK e h ty (aw e t a) (aw e t x)) λh'=>K undef ds h'
 |.mapUpdate ty m k v=>aG (oE e h ty (aw e t m) (aw e t k) (aw e t v)) λh'=>K undef ds h'
 |.insert ty m k v=>aG (oE e h ty (aw e t m) (aw e t k) (aw e t v)) λh'=>K undef ds h'
 |.range ty x=>aG ((aw e t x).bind (uE e h ty)) λo=>K (.pointer (some ⟨h.next,0,none⟩)) ds (h.new o)
 |.next it s=>aG ((aw e t it).bind (pA h · s)) λp=>K p.1 ds p.2
 |.entry it=>aG ((aw e t it).bind (qB h)) λv=>K v ds h
 |.defer c=>match c.callee with
  |.value f=>ro=none/\aG (cR e t c.args.toList) λargs=>aG ((aw e t f).bind (mZ · args)) λx=>match x with
   |(.func g,az,cap)=>K undef ({target:=.fn (.func g) cap.toArray,args:=az.toArray}::ds) h
   |_=>False
  |_=>False
 |.call c=>match c.callee with
  |.value f=>aG (pL (aw e t f) (cR e t c.args.toList)) λp=>∃v h',bK e p.1 p.2 h v h'/\K v ds h'
  |.builtin .append=>aG (sI e h c.argTypes (cR e t c.args.toList)) λp=>K p.1 ds p.2
  |.builtin .copy=>aG (copyV e h c.argTypes (cR e t c.args.toList)) λp=>K p.1 ds p.2
  |_=>aG (bu e h t (.call c)) λv=>K v ds h
 |op=>aG (bu e h t op) λv=>K v ds h
theorem bA.wM{o:Oper}{t:Tr Value}{n:Nat}{ds:List Deferred}{h:aa}{K:Kt}{K':aE->Prop}(hs:bA e ro o.op t ds h K)(ae:c9 o.dst n)(hK:∀v ds h,K v ds h->K' ⟨bB o.dst v t,n,ds,h⟩):lC e ro o ⟨t,n,ds,h⟩ K':=by
 have put:∀{v:Value} {ds:List Deferred} {h:aa},K v ds h->fP o.dst v ⟨t,n,ds,h⟩ K':=λhk=>⟨_,q9 (s:=⟨t,n,_,_⟩) ae,hK _ _ _ hk⟩;obtain⟨dst,op,ty,pos,af,g⟩:=o;unfold lC;simp only at hs⊢;have val:∀{v:Value},bu e h t op=some v->K v ds h->(match aK e h t op with
  |none=>False
  |some (.val v h)=>fP dst v ⟨t,n,ds,h⟩ K'
  |some (.skip h)=>fP dst undef ⟨t,n,ds,h⟩ K'
  |some (.enter f args h)=>∃v h',bK e f args h v h'/\fP dst v ⟨t,n,ds,h'⟩ K'
  |some (.round _ _ _)=>False
  |some (.defer f args cap h)=>ro=none/\fP dst undef ⟨t,n,{target:=.fn (.func f) cap.toArray,args:=args.toArray}::ds,h⟩ K'):=λhv hk=>by
  rw[wL hv];exact put hk
 have alloc:∀{p:bF×(Nat->Value)},aK e h t op=(match cF e t op with|none=>none|some (o,f)=>some (.val (f h.next) (h.new o)))->cF e t op=some p->K (p.2 h.next) ds (h.new p.1)->(match aK e h t op with
  |none=>False
  |some (.val v h)=>fP dst v ⟨t,n,ds,h⟩ K'
  |some (.skip h)=>fP dst undef ⟨t,n,ds,h⟩ K'
  |some (.enter f args h)=>∃v h',bK e f args h v h'/\fP dst v ⟨t,n,ds,h'⟩ K'
  |some (.round _ _ _)=>False
  |some (.defer f args cap h)=>ro=none/\fP dst undef ⟨t,n,{target:=.fn (.func f) cap.toArray,args:=args.toArray}::ds,h⟩ K'):=λh1 h2 hk=>by
  rw[h1,h2];exact put hk
 cases op with
 |alloc ty=>obtain⟨p,h1,h2⟩:=hs;exact alloc rfl h1 h2
 |box ty x=>obtain⟨p,h1,h2⟩:=hs;exact alloc rfl h1 h2
 |buildSlice ty n ps=>obtain⟨p,h1,h2⟩:=hs;exact alloc rfl h1 h2
 |makeMap ty n=>obtain⟨p,h1,h2⟩:=hs;exact alloc rfl h1 h2
 |makeSlice ty l c=>obtain⟨p,h1,h2⟩:=hs;exact alloc rfl h1 h2
 |store ty a x=>
  obtain⟨h',h1,h2⟩:=hs;simp only[pK]at h1;simp only[aK]
  split at h1
  . rename_i p v hp hv
    split at h1
    . cases h1
    . rename_i ad ha;simp only[hp,Option.bind_some,ha,hv,h1];exact put h2
  . cases h1
 |mapUpdate ty m k v=>
  obtain⟨h',h1,h2⟩:=hs;simp only[oE]at h1;simp only[aK]
  split at h1
  . rename_i hp hk hv;simp only[hp,hk,hv,h1];exact put h2
  . cases h1
 |insert ty m k v=>
  obtain⟨h',h1,h2⟩:=hs;simp only[oE]at h1;simp only[aK]
  split at h1
  . rename_i hp hk hv;simp only[hp,hk,hv,h1];exact put h2
  . cases h1
 |range ty x=>
  obtain⟨ob,h1,h2⟩:=hs;simp only[Er,uE]at h1;obtain⟨y,hy,h1⟩:=h1;simp only[aK,hy]
  split at h1
  . rename_i hu;cases h1;simp only[hu];exact put h2
  . rename_i hu;cases h1;simp only[hu];exact put h2
  . rename_i hu;simp only[hu]
    split at h1
    . rename_i hg;cases h1;simp only[hg];exact put h2
    . cases h1
  . cases h1
 |next it s=>
  obtain⟨p,h1,h2⟩:=hs;simp only[Er]at h1;obtain⟨y,hy,h1⟩:=h1;simp only[aK,hy,h1];exact put h2
 |entry it=>
  obtain⟨p,h1,h2⟩:=hs;simp only[Er]at h1;obtain⟨y,hy,h1⟩:=h1;simp only[aK,hy,h1];exact put h2
 |defer c=>
  simp only[bA]at hs;simp only[aK]
  split at hs
  . rename_i f hf;obtain⟨h0,args,h1,x,h2,h3⟩:=hs;simp only[hf,h1,h2]
    split at h3
    . exact⟨h0,put h3⟩
    . cases h3
  . cases hs
 |call c=>
  simp only[bA]at hs
  split at hs
  . rename_i f hf;obtain⟨p,h1,v,h',h2,h3⟩:=hs;simp only[pL]at h1;simp only[aK,lz,hf]
    split at h1
    . rename_i fv args h4 h5
      split at h1
      . rename_i g az cap h6;cases h1;simp only[h4,h5,h6];exact⟨v,h',h2,put h3⟩
      . cases h1
    . cases h1
  . rename_i hc;obtain⟨p,h1,h2⟩:=hs;simp only[sI]at h1;simp only[aK,lz,hc]
    split at h1
    . rename_i s x h3;simp only[h3,h1];exact put h2
    . cases h1
  . rename_i hc;obtain⟨p,h1,h2⟩:=hs;simp only[copyV]at h1;simp only[aK,lz,hc]
    split at h1
    . rename_i s x h3;simp only[h3,h1];exact put h2
    . cases h1
  . obtain⟨v,h1,h2⟩:=hs;exact val h1 h2
 |_=>obtain⟨v,h1,h2⟩:=hs;exact val h1 h2
def eH(e:Env)(ro:Option Nat)(ops:List Oper):List Oper->Tr Value->Nat->List Deferred->aa->(aE->Prop)->Prop
 |[],t,n,ds,h,K=>K ⟨t,n,ds,h⟩
 |o::r,t,n,ds,h,K=>match o.guard with
  |none=>c9 o.dst n/\bA e ro o.op t ds h λv ds h=>eH e ro ops r (bB o.dst v t) n ds h K
  |some (j,w)=>aG ((ops[j]?).bind (·.dst)) λd=>aG (t.get d) λg=>match g with
   |.bool b=>(b=w->c9 o.dst n/\bA e ro o.op t ds h λv ds h=>eH e ro ops r (bB o.dst v t) n ds h K)/\(b= !w->c9 o.dst n/\eH e ro ops r (bB o.dst undef t) n ds h K)
   |.tuple _=>c9 o.dst n/\eH e ro ops r (bB o.dst undef t) n ds h K
   |_=>False
theorem eH.pM{ops:List Oper}{n:Nat}{K:aE->Prop}:∀{l:List Oper} {t:Tr Value} {ds:List Deferred} {h:aa},eH e ro ops l t n ds h K->hD e ro ops l ⟨t,n,ds,h⟩ K
 |[],_,_,_,hs=>hs
 |o::r,t,ds,h,hs=>by
  simp only[eH]at hs;simp only[hD,cH];have run:(c9 o.dst n/\bA e ro o.op t ds h λv ds h=>eH e ro ops r (bB o.dst v t) n ds h K)->lC e ro o ⟨t,n,ds,h⟩ λs=>hD e ro ops r s K:=λ⟨h1,h2⟩=>h2.wM h1 λv ds h hk=>eH.pM hk;have skip:(c9 o.dst n/\eH e ro ops r (bB o.dst undef t) n ds h K)->fP o.dst undef ⟨t,n,ds,h⟩ λs=>hD e ro ops r s K:=λ⟨h1,h2⟩=>⟨_,q9 (s:=⟨t,n,ds,h⟩) h1,eH.pM h2⟩;cases hg:o.guard with
  |none=>simp only[hg]at hs⊢;exact run hs
  |some jw=>
   obtain⟨j,w⟩:=jw;simp only[hg]at hs⊢;obtain⟨d,h1,g,h2,hs⟩:=hs;simp only[h1,h2];cases g with
   |bool b=>
    simp only at hs⊢;by_cases hb:b=w
    . subst hb;simp only[beq_self_eq_true];exact run (hs.1 rfl)
    . have aD:b= !w:=by cases b<;>cases w<;>simp_all
      have:(b==w)=false:=by simpa using hb
      rw[this];exact skip (hs.2 aD)
   |tuple vs=>exact skip hs
   |_=>exact hs.elim
structure PI where
 c:sk
 m:Nat
 dy:Option (Nat×Nat)
def pN(ops:List Oper)(ms:List Nat)(ef:List (Nat×Nat))(i:Nat)(o:Oper)(p:PI):Bool:=
 decide (cls o.op=p.c)&&xS (ms.getD i 0) p.m&&(match p.dy with
  |none=> !decide (p.c=.read)||Nat.ble (ef.filter λq=> !q.2.testBit i).length (ef.filter λq=>p.m.testBit q.1).length
  |some (lo,k)=>xS lo (ef.filter λq=>p.m.testBit q.1).length&&xS k ((ef.filter λq=> !q.2.testBit i).length+1-lo))
def rh(ops:List Oper):Bool->List PI->Bool:=λ_ pl=>
 pB ops (bf ops)&&xS pl.length ops.length&&((ops.zip pl).zipIdx.all λx=>pN ops (bf ops) (cN ops) x.2 x.1.1 x.1.2)
def bX(e:Env)(ro:Option Nat)(ops:List Oper):List Oper->List PI->Nat->Nat->Tr Value->Nat->List Deferred->aa->cZ->cZ->List (Nat×aa)->List (Tr Value)->(cm->Prop)->Prop
 |[],_,_,_,t,n,ds,h,aq,all,st,sn,K=>K ⟨⟨t,n,ds,h⟩,aq,all,st,sn⟩
 |_::_,[],_,_,_,_,_,_,_,_,_,_,_=>False
 |o::r,p::pl,i,id,t,n,ds,h,aq,all,st,sn,K=>
  let run:=λ(_:Unit)=>match p.c with
   |.pure=>aG (bu e h t o.op) λv=>bX e ro ops r pl (i+1) id (bB o.dst v t) n ds h aq all st (t::sn) K
   |.read=>aG (bu e (bW h p.m aq) t o.op) λv=>bX e ro ops r pl (i+1) id (bB o.dst v t) n ds h aq all st (t::sn) K
   |.alloc=>aG (cF e t o.op) λq=>bX e ro ops r pl (i+1) (id+1) (bB o.dst (q.2 id) t) n ds h ((i,id,q.1)::aq) ((i,id,q.1)::all) st (t::sn) K
   |.effect=>bA e ro o.op t ds (bW h p.m aq) λv ds h=>bX e ro ops r pl (i+1) id (bB o.dst v t) n ds h (aq.filter λq=> !p.m.testBit q.1) all ((Nat.lor ((st.head?.map (·.1)).getD 0) p.m,h)::st) (t::sn) K
   |.bad=>False
  let skip:=λ(_:Unit)=>match p.c with
   |.effect=>bX e ro ops r pl (i+1) id (bB o.dst undef t) n ds h aq all (((st.head?.map (·.1)).getD 0,h)::st) (t::sn) K
   |.alloc=>bX e ro ops r pl (i+1) (id+1) (bB o.dst undef t) n ds h aq all st (t::sn) K
   |.bad=>False
   |_=>bX e ro ops r pl (i+1) id (bB o.dst undef t) n ds h aq all st (t::sn) K
  c9 o.dst n/\match o.guard with
  |none=>run ()
  |some (j,w)=>aG ((ops[j]?).bind (·.dst)) λd=>aG (t.get d) λg=>match g with
   |.bool b=>(b=w->run ())/\(b= !w->skip ())
   |.tuple _=>skip ()
   |_=>False
def oF(e:Env)(o:Oper)(m:Nat)(t:Tr Value)(v:Value)(all:cZ):List (Nat×aa)->Prop
 |[]=>True
 |q::r=>bu e (bW q.2 m (all.filter λp=> !q.1.testBit p.1)) t o.op=some v/\oF e o m t v all r
def fS(e:Env)(ops:List Oper)(tf:Tr Value)(all:cZ)(st:List (Nat×aa)):List Oper->List PI->List (Tr Value)->Prop
 |o::r,p::pl,t::ts=>(match p.dy with
  |none=>True
  |some (lo,k)=>match cH ops ⟨t,0,[],{m:=.nil,next:=0}⟩ o with
   |some true=>match o.dst with
    |none=>False
    |some d=>match tf.get d with
     |none=>False
     |some v=>oF e o p.m t v all ((st.drop lo).take k)
   |some false=>True
   |none=>False)/\fS e ops tf all st r pl ts
 |[],_,_=>True
 |_,_,_=>False
theorem Eb{o:Oper}{m:Nat}{t:Tr Value}{v:Value}{all:cZ}:∀{l:List (Nat×aa)},oF e o m t v all l->∀q∈l,∃h2,aK e (bW q.2 m (all.filter λp=> !q.1.testBit p.1)) t o.op=some (.val v h2)
 |[],_,q,hq=>by cases hq
 |q::r,h,x,hx=>by
  rcases List.mem_cons.1 hx with rfl|hx
  . exact⟨_,wL h.1⟩
  . exact Eb h.2 x hx
theorem LS{ops:List Oper}{s s':aE}{o:Oper}(h:s.t=s'.t):cH ops s o=cH ops s' o:=by unfold cH;rw[h]
theorem fS.p{ops:List Oper}{x:cm}{st:List (Nat×aa)}{ef:List (Nat×Nat)}{ms:List Nat}(aR:ms=bf ops):∀(l:List Oper) (pl:List PI) (ts:List (Tr Value)) (i:Nat),(∀(k:Nat) o p,l[k]? =some o->pl[k]? =some p->pN ops ms ef (i+k) o p=true)->
 (∀(k:Nat) o m,(l.zip (ms.drop i))[k]? =some (o,m)->m=ms.getD (i+k) 0)->fS e ops x.s.t x.all st l pl ts->ni e ops x st ef (l.zip (ms.drop i)) ts i
 |[],_,_,_,_,_,_=>by simp[ni]
 |o::r,[],_,_,_,_,h=>by simp[fS]at h
 |o::r,p::pl,[],_,_,_,h=>by simp[fS]at h
 |o::r,p::pl,t::ts,i,hp,hm,h=>by
  cases hd:ms.drop i with
  |nil=>simp[ni]
  |cons m0 rest=>
   have av:ms.drop (i+1)=rest:=by rw[<-List.drop_drop,hd];rfl
   have aS:m0=ms.getD i 0:=hm 0 o m0 (by rw[hd];rfl);rw[GP];obtain⟨h1,h2⟩:=h;have aL:=hp 0 o p rfl rfl;simp only[pN,DE,decide_eq_true_eq,Nat.add_zero]at aL;obtain⟨⟨hc,aF⟩,ao⟩:=aL;have aF:=qe aF;refine⟨λaT hw=> ?_, ?_⟩
   . unfold wE;have aU:m0=p.m:=aS.trans aF;rw[aU];cases aM:p.dy with
     |none=>
      simp only[aM,Bool.or_eq_true,Bool.not_eq_true',decide_eq_false_iff_not]at ao;rcases ao with ao|ao
      . exact absurd (hc.symm.trans aT) ao
      . exact .inl (Nat.le_of_ble_eq_true ao)
     |some lk=>
      obtain⟨lo,k⟩:=lk;simp only[aM,DE]at ao h1;have e1:=qe ao.1;have e2:=qe ao.2;have aW:cH ops ⟨t,0,[],{m:=.nil,next:=0}⟩ o=some true:=by rw[<-hw];exact LS rfl
      rw[aW]at h1;simp only at h1;cases aN:o.dst with
      |none=>simp[aN]at h1
      |some d=>
       simp only[aN]at h1;cases hv:x.s.t.get d with
       |none=>simp[hv]at h1
       |some v=>
        simp only[hv]at h1;refine .inr ⟨d,v,rfl,hv,λq hq=>Eb h1 q ?_⟩;rw[e2,e1];exact hq
   . have:=fS.p aR r pl ts (i+1) (λk o' p' h1 h2=>by have:=hp (k+1) o' p' (by simpa using h1) (by simpa using h2);rwa[show i+(k+1)=i+1+k by omega]at this)
      (λk o' m' h=>by
       have:=hm (k+1) o' m' (by rw[hd,GP];rw[av]at h;simpa using h);rwa[show i+(k+1)=i+1+k by omega]at this) h2
     rw[av]at this;exact this
set_option maxHeartbeats 2000000 in
theorem bX.zy{ops:List Oper}{K K':cm->Prop}(aP:∀x,K x->K' x):∀(l:List Oper) (pl:List PI) (ms:List Nat) (i id:Nat) (t:Tr Value) (n:Nat) (ds:List Deferred) (h:aa) (aq all:cZ) (st:List (Nat×aa)) (sn:List (Tr Value)),l.length=ms.length->
 (∀(k:Nat) o p m,l[k]? =some o->pl[k]? =some p->ms[k]? =some m->cls o.op=p.c/\m=p.m)->bX e ro ops l pl i id t n ds h aq all st sn K->kH e ro ops (l.zip ms) i id ⟨⟨t,n,ds,h⟩,aq,all,st,sn⟩ K'
 |[],_,_,_,_,_,_,_,_,_,_,_,_,_,_,hs=>by simp only[List.zip_nil_left,kH];exact aP _ hs
 |_::_,[],_,_,_,_,_,_,_,_,_,_,_,_,_,hs=>by simp[bX]at hs
 |_::_,_::_,[],_,_,_,_,_,_,_,_,_,_,hl,_,_=>by simp at hl
 |o::r,p::pl,m::ms,i,id,t,n,ds,h,aq,all,st,sn,hl,hp,hs=>by
  obtain⟨hc,hm⟩:=hp 0 o p m rfl rfl rfl;subst hm;have ih:∀(id:Nat) (t:Tr Value) (n:Nat) (ds:List Deferred) (h:aa) (aq all:cZ) (st:List (Nat×aa)) (sn:List (Tr Value)),r.length=ms.length->(∀(k:Nat) o p m,r[k]? =some o->pl[k]? =some p->ms[k]? =some m->cls o.op=p.c/\m=p.m)->
   bX e ro ops r pl (i+1) id t n ds h aq all st sn K->kH e ro ops (r.zip ms) (i+1) id ⟨⟨t,n,ds,h⟩,aq,all,st,sn⟩ K':=λid t n ds h aq all st sn=>bX.zy aP r pl ms (i+1) id t n ds h aq all st sn
  have aA:∀(k:Nat) o p m,r[k]? =some o->pl[k]? =some p->ms[k]? =some m->cls o.op=p.c/\m=p.m:=λk o p m h1 h2 h3=>hp (k+1) o p m (by simpa using h1) (by simpa using h2) (by simpa using h3);have aB:r.length=ms.length:=by simpa using hl
  simp only[bX]at hs;obtain⟨ae,hs⟩:=hs;rw[GP];simp only[kH];have aX:nextId o id=if p.c=.alloc then id+1 else id:=by
   unfold nextId;rw[hc];cases p.c<;>rfl
  rw[aX];have ab:∀(v:Value),eZ ⟨t,n,ds,h⟩ o.dst v=some ⟨bB o.dst v t,n,ds,h⟩:=λv=>q9 (s:=⟨t,n,ds,h⟩) ae;have run:(match p.c with
   |.pure=>aG (bu e h t o.op) λv=>bX e ro ops r pl (i+1) id (bB o.dst v t) n ds h aq all st (t::sn) K
   |.read=>aG (bu e (bW h p.m aq) t o.op) λv=>bX e ro ops r pl (i+1) id (bB o.dst v t) n ds h aq all st (t::sn) K
   |.alloc=>aG (cF e t o.op) λq=>bX e ro ops r pl (i+1) (id+1) (bB o.dst (q.2 id) t) n ds h ((i,id,q.1)::aq) ((i,id,q.1)::all) st (t::sn) K
   |.effect=>bA e ro o.op t ds (bW h p.m aq) λv ds h=>bX e ro ops r pl (i+1) id (bB o.dst v t) n ds h (aq.filter λq=> !p.m.testBit q.1) all ((Nat.lor ((st.head?.map (·.1)).getD 0) p.m,h)::st) (t::sn) K
   |.bad=>False)->cH ops ⟨t,n,ds,h⟩ o=some true->ml e ro ops i id p.m o ⟨⟨t,n,ds,h⟩,aq,all,st,t::sn⟩ λx=>kH e ro ops (r.zip ms) (i+1) (if p.c=.alloc then id+1 else id) x K':=λhs hw=>by
   unfold ml;simp only[hw,hc];cases ai:p.c with
   |pure=>
    simp only[ai]at hs;obtain⟨v,h1,h2⟩:=hs;simp only[wL h1];exact⟨_,ab v,ih id _ n ds h aq all st _ aB aA h2⟩
   |read=>
    simp only[ai]at hs;obtain⟨v,h1,h2⟩:=hs;simp only[wL h1];exact⟨_,ab v,ih id _ n ds h aq all st _ aB aA h2⟩
   |alloc=>
    simp only[ai]at hs;obtain⟨q,h1,h2⟩:=hs;obtain⟨ob,f⟩:=q;simp only[h1];exact⟨_,ab _,ih (id+1) _ n ds h _ _ st _ aB aA h2⟩
   |effect=>
    simp only[ai]at hs;exact bA.wM hs ae λv ds h hk=>ih id _ n ds h _ all _ _ aB aA hk
   |bad=>simp[ai]at hs
  have skip:(match p.c with
   |.effect=>bX e ro ops r pl (i+1) id (bB o.dst undef t) n ds h aq all (((st.head?.map (·.1)).getD 0,h)::st) (t::sn) K
   |.alloc=>bX e ro ops r pl (i+1) (id+1) (bB o.dst undef t) n ds h aq all st (t::sn) K
   |.bad=>False
   |_=>bX e ro ops r pl (i+1) id (bB o.dst undef t) n ds h aq all st (t::sn) K)->cH ops ⟨t,n,ds,h⟩ o=some false->ml e ro ops i id p.m o ⟨⟨t,n,ds,h⟩,aq,all,st,t::sn⟩ λx=>kH e ro ops (r.zip ms) (i+1) (if p.c=.alloc then id+1 else id) x K':=λhs hw=>by
   unfold ml;simp only[hw,hc];cases ai:p.c with
   |pure=>simp only[ai]at hs;exact⟨_,ab _,ih id _ n ds h aq all st _ aB aA hs⟩
   |read=>simp only[ai]at hs;exact⟨_,ab _,ih id _ n ds h aq all st _ aB aA hs⟩
   |alloc=>simp only[ai]at hs;exact⟨_,ab _,ih (id+1) _ n ds h aq all st _ aB aA hs⟩
   |effect=>simp only[ai]at hs;exact⟨_,ab _,ih id _ n ds h aq all _ _ aB aA hs⟩
   |bad=>simp[ai]at hs
  cases hg:o.guard with
  |none=>
   simp only[hg]at hs;exact run hs (by unfold cH;rw[hg])
  |some jw=>
   obtain⟨j,w⟩:=jw;simp only[hg]at hs;obtain⟨d,h1,g,h2,hs⟩:=hs;cases g with
   |bool b=>
    simp only at hs;by_cases hb:b=w
    . exact run (hs.1 hb) (by unfold cH;simp only[hg,h1,h2,hb,beq_self_eq_true])
    . have aD:b= !w:=by cases b<;>cases w<;>simp_all
      have h3:(b==w)=false:=by simpa using hb
      exact skip (hs.2 aD) (by unfold cH;simp only[hg,h1,h2,h3])
   |tuple vs=>exact skip hs (by unfold cH;simp only[hg,h1,h2])
   |_=>exact hs.elim
theorem LU{ops:List Oper}{t:Tr Value}{n:Nat}{ds:List Deferred}{h:aa}{K:aE->Prop}(pl:List PI)(aQ:rh ops true pl=true)(na:Nat)(aI:xS (ops.filter λo=>cls o.op==.alloc).length na=true)
 (hs:bX e ro ops ops pl 0 h.next t n ds {h with next:=h.next+na} [] [] [(0,{h with next:=h.next+na})] [] λx=>
  fS e ops x.s.t x.all x.bw.reverse ops pl x.cS.reverse/\K {x.s with h:=eO x.s.h x.aq}):lD e ro ops ⟨t,n,ds,h⟩ K:=by
 simp only[rh,DE,List.all_eq_true]at aQ;obtain⟨⟨h1,h2⟩,h3⟩:=aQ;have h2:=qe h2;have aI:=qe aI;have h4:∀(k:Nat) o p,ops[k]? =some o->pl[k]? =some p->pN ops (bf ops) (cN ops) k o p=true:=λk o p ho hp=>by
  have hz:(ops.zip pl)[k]? =some (o,p):=by rw[PO];exact⟨ho,hp⟩
  exact h3 ((o,p),k) (by
   rw[List.mem_zipIdx_iff_getElem?];simpa using hz)
 refine⟨h1, ?_⟩;rw[aI];have h5:∀(k:Nat) o p m,ops[k]? =some o->pl[k]? =some p->(bf ops)[k]? =some m->cls o.op=p.c/\m=p.m:=λk o p m ho hp hm=>by
  have:=h4 k o p ho hp;simp only[pN,DE,decide_eq_true_eq]at this;refine⟨this.1.1, ?_⟩;have e1:=qe this.1.2;rw[<-e1,PX,hm];rfl
 refine bX.zy (λx hx=> ?_) ops pl (bf ops) 0 h.next t n ds _ [] [] _ [] (by rw[wA]) h5 hs;refine⟨.inr ?_,hx.2⟩;have:=fS.p (e:=e) (x:=x) (st:=x.bw.reverse) (ef:=cN ops) (ms:=bf ops) rfl ops pl x.cS.reverse 0 (λk o p ho hp=>by rw[Nat.zero_add];exact h4 k o p ho hp)
  (λk o m hz=>by
   rw[List.drop_zero,PO]at hz;rw[Nat.zero_add,PX,hz.2];rfl) hx.1
 simpa using this
end Go.au
end
noncomputable section
namespace Go.au
variable {e:Env} {ro:Option Nat}
def zz(e:Env)(ro:Option Nat)(ops r:List Oper)(t:Tr Value)(n:Nat)(K:aE->Prop)(dst:Option Tmp):Kt:=λv ds h=>eH e ro ops r (bB dst v t) n ds h K
def Ec(e:Env)(ro:Option Nat)(ops:List Oper)(o:Oper)(r:List Oper)(t:Tr Value)(n:Nat)(ds:List Deferred)(h:aa)(K:aE->Prop)(w:Bool)(d:Tmp):Prop:=
 aG (t.get d) λg=>match g with
  |.bool b=>(b=w->c9 o.dst n/\bA e ro o.op t ds h λv ds h=>eH e ro ops r (bB o.dst v t) n ds h K)/\(b= !w->c9 o.dst n/\eH e ro ops r (bB o.dst undef t) n ds h K)
  |.tuple _=>c9 o.dst n/\eH e ro ops r (bB o.dst undef t) n ds h K
  |_=>False
def ri(e:Env)(ro:Option Nat)(ops:List Oper)(o:Oper)(r:List Oper)(t:Tr Value)(n:Nat)(ds:List Deferred)(h:aa)(K:aE->Prop)(w:Bool)(g:Value):Prop:=
 match g with
  |.bool b=>(b=w->c9 o.dst n/\bA e ro o.op t ds h λv ds h=>eH e ro ops r (bB o.dst v t) n ds h K)/\(b= !w->c9 o.dst n/\eH e ro ops r (bB o.dst undef t) n ds h K)
  |.tuple _=>c9 o.dst n/\eH e ro ops r (bB o.dst undef t) n ds h K
  |_=>False
def KV(K:Kt)(ds:List Deferred)(h:aa):Value->Prop:=λv=>K v ds h
def KA(K:Kt)(ds:List Deferred)(h:aa):bF×(Nat->Value)->Prop:=λp=>K (p.2 h.next) ds (h.new p.1)
def KO(K:Kt)(ds:List Deferred)(h:aa):bF->Prop:=λo=>K (.pointer (some ⟨h.next,0,none⟩)) ds (h.new o)
def KH(K:Kt)(ds:List Deferred):aa->Prop:=λh=>K undef ds h
def KP(K:Kt)(ds:List Deferred):Value×aa->Prop:=λp=>K p.1 ds p.2
def KC(e:Env)(K:Kt)(ds:List Deferred)(h:aa):FuncId×List Value->Prop:=λp=>∃v h',bK e p.1 p.2 h v h'/\K v ds h'
theorem KC.mk{K:Kt}{ds:List Deferred}{h:aa}{f:FuncId}{args:List Value}{v:Value}{h':aa}(hr:bK e f args h v h')(hk:K v ds h'):KC e K ds h (f,args):=⟨v,h',hr,hk⟩
theorem LV(n:Nat):c9 none n=True:=rfl
theorem LW(d n:Nat):c9 (some d) n=(d<n):=rfl
theorem LX(v:Value)(t:Tr Value):bB none v t=t:=rfl
theorem LY(d:Nat)(v:Value)(t:Tr Value):bB (some d) v t=t.set d (some v):=rfl
theorem LZ(ops r:List Oper)(t:Tr Value)(n:Nat)(K:aE->Prop)(dst:Option Tmp)(v:Value)(ds:List Deferred)(h:aa):zz e ro ops r t n K dst v ds h=eH e ro ops r (bB dst v t) n ds h K:=rfl
theorem L0(K:Kt)(ds:List Deferred)(h:aa)(v:Value):KV K ds h v=K v ds h:=rfl
theorem L3(K:Kt)(ds:List Deferred)(h:aa)(o:bF)(f:Nat->Value):KA K ds h (o,f)=K (f h.next) ds (h.new o):=rfl
theorem L4(K:Kt)(ds:List Deferred)(h:aa)(o:bF):KO K ds h o=K (.pointer (some ⟨h.next,0,none⟩)) ds (h.new o):=rfl
theorem L5(K:Kt)(ds:List Deferred)(h:aa):KH K ds h=K undef ds h:=rfl
theorem L6(K:Kt)(ds:List Deferred)(v:Value)(h:aa):KP K ds (v,h)=K v ds h:=rfl
theorem L7(ops:List Oper)(t:Tr Value)(n:Nat)(ds:List Deferred)(h:aa)(K:aE->Prop):eH e ro ops [] t n ds h K=K ⟨t,n,ds,h⟩:=rfl
theorem L8(ops:List Oper)(dst:Option Tmp)(op:Op)(ty:TypeId)(pos:String)(af:Array Edge)(r:List Oper)(t:Tr Value)(n:Nat)(ds:List Deferred)(h:aa)(K:aE->Prop):
 eH e ro ops (⟨dst,op,ty,pos,af,none⟩::r) t n ds h K=(c9 dst n/\bA e ro op t ds h (zz e ro ops r t n K dst)):=rfl
theorem L9(ops:List Oper)(dst:Option Tmp)(op:Op)(ty:TypeId)(pos:String)(af:Array Edge)(j:Nat)(w:Bool)(r:List Oper)(t:Tr Value)(n:Nat)(ds:List Deferred)(h:aa)(K:aE->Prop):
 eH e ro ops (⟨dst,op,ty,pos,af,some (j,w)⟩::r) t n ds h K=aG ((ops[j]?).bind (·.dst)) (Ec e ro ops ⟨dst,op,ty,pos,af,none⟩ r t n ds h K w):=rfl
theorem Ma(ops:List Oper)(o:Oper)(r:List Oper)(t:Tr Value)(n:Nat)(ds:List Deferred)(h:aa)(K:aE->Prop)(w:Bool)(d:Tmp):Ec e ro ops o r t n ds h K w d=aG (t.get d) (ri e ro ops o r t n ds h K w):=rfl
theorem Mb(ops:List Oper)(dst:Option Tmp)(op:Op)(ty:TypeId)(pos:String)(af:Array Edge)(r:List Oper)(t:Tr Value)(n:Nat)(ds:List Deferred)(h:aa)(K:aE->Prop)(w:Bool):
 ri e ro ops ⟨dst,op,ty,pos,af,none⟩ r t n ds h K w (.bool w)=(c9 dst n/\bA e ro op t ds h (zz e ro ops r t n K dst)):=
 propext ⟨λhh=>hh.1 rfl,λhh=>⟨λ_=>hh,λh'=>by cases w<;>cases h'⟩⟩
theorem Mc(ops:List Oper)(dst:Option Tmp)(op:Op)(ty:TypeId)(pos:String)(af:Array Edge)(r:List Oper)(t:Tr Value)(n:Nat)(ds:List Deferred)(h:aa)(K:aE->Prop):
 ri e ro ops ⟨dst,op,ty,pos,af,none⟩ r t n ds h K true (.bool false)=(c9 dst n/\eH e ro ops r (bB dst undef t) n ds h K):=by
 simp[ri]
theorem Md(ops:List Oper)(dst:Option Tmp)(op:Op)(ty:TypeId)(pos:String)(af:Array Edge)(r:List Oper)(t:Tr Value)(n:Nat)(ds:List Deferred)(h:aa)(K:aE->Prop):
 ri e ro ops ⟨dst,op,ty,pos,af,none⟩ r t n ds h K false (.bool true)=(c9 dst n/\eH e ro ops r (bB dst undef t) n ds h K):=by
 simp[ri]
theorem Me(ops:List Oper)(dst:Option Tmp)(op:Op)(ty:TypeId)(pos:String)(af:Array Edge)(r:List Oper)(t:Tr Value)(n:Nat)(ds:List Deferred)(h:aa)(K:aE->Prop)(w:Bool):
 ri e ro ops ⟨dst,op,ty,pos,af,none⟩ r t n ds h K w undef=(c9 dst n/\eH e ro ops r (bB dst undef t) n ds h K):=rfl
section
variable (t:Tr Value) (ds:List Deferred) (h:aa) (K:Kt)
theorem Mf(x:Operand):bA e ro (.move x) t ds h K=aG (aw e t x) (KV K ds h):=rfl
theorem Mg(x:Operand):bA e ro (.assign x) t ds h K=aG (aw e t x) (KV K ds h):=rfl
theorem Mh(c a b:Operand):bA e ro (.pick c a b) t ds h K=aG (qY (aw e t c) (aw e t a) (aw e t b)) (KV K ds h):=rfl
theorem Mi(ty:TypeId)(l:List (Nat×Operand)):bA e ro (.build ty l.toArray) t ds h K=aG (mn e ty (eY e t l)) (KV K ds h):=by simp[bA,bu,KV];rfl
theorem Mj(ty:TypeId)(a:Operand):bA e ro (.load ty a) t ds h K=aG ((aw e t a).bind (mm e h ty)) (KV K ds h):=rfl
theorem Mk(x:Operand):bA e ro (.nilCheck x) t ds h K=aG ((aw e t x).bind qW) (KV K ds h):=rfl
theorem Ml(op:BinOp)(ty:TypeId)(x y:Operand)(z:TypeId):bA e ro (.binOp op ty x y z) t ds h K=aG (fQ (cD e op ty x y) (aw e t x) (aw e t y)) (KV K ds h):=rfl
theorem Mm(op:UnOp)(ty:TypeId)(x:Operand):bA e ro (.unOp op ty x) t ds h K=aG ((aw e t x).bind (np e op)) (KV K ds h):=rfl
theorem Mn(s d:TypeId)(x:Operand):bA e ro (.convert s d x) t ds h K=aG ((aw e t x).bind (oB e h s d)) (KV K ds h):=rfl
theorem Mo(ty:TypeId)(x:Operand):bA e ro (.makeInterface ty x) t ds h K=aG ((aw e t x).bind (uB e ty)) (KV K ds h):=rfl
theorem Mp(f:FuncId)(a c:List Operand):bA e ro (.makeFunc (.func f) a.toArray c.toArray) t ds h K=aG (uC f (cR e t a) (cR e t c)) (KV K ds h):=by simp[bA,bu,KV];rfl
theorem Mq(ty:TypeId)(x:Operand)(lo hi mx:Option Operand):bA e ro (.slice ty x lo hi mx) t ds h K=aG (sH e h ty (aw e t x) (hY e t lo) (hY e t hi) (hY e t mx)) (KV K ds h):=rfl
theorem Mr(s:TypeId)(x:Operand)(f:Nat):bA e ro (.fieldAddr s x f) t ds h K=aG ((aw e t x).bind (qV e s f)) (KV K ds h):=rfl
theorem Ms(ty:TypeId)(x:Operand)(f:Nat):bA e ro (.field ty x f) t ds h K=aG ((aw e t x).bind (sG e ty f)) (KV K ds h):=rfl
theorem Mu(ty:TypeId)(x ix:Operand):bA e ro (.indexAddr ty x ix) t ds h K=aG (fQ (oC e ty) (aw e t x) (aw e t ix)) (KV K ds h):=rfl
theorem Mv(ty:TypeId)(x ix:Operand):bA e ro (.index ty x ix) t ds h K=aG (fQ (oD e ty) (aw e t x) (aw e t ix)) (KV K ds h):=rfl
theorem Mw(ty:TypeId)(m k:Operand)(ok:Bool):bA e ro (.lookup ty m k ok) t ds h K=aG (fQ (nq e h ty ok) (aw e t m) (aw e t k)) (KV K ds h):=rfl
theorem Mx(x:Operand)(i:Nat):bA e ro (.extract x i) t ds h K=aG ((aw e t x).bind (qX i)) (KV K ds h):=rfl
theorem My(ty:TypeId):bA e ro (.alloc ty) t ds h K=aG (cF e t (.alloc ty)) (KA K ds h):=rfl
theorem Mz(ty:TypeId)(x:Operand):bA e ro (.box ty x) t ds h K=aG (cF e t (.box ty x)) (KA K ds h):=rfl
theorem MA(ty:TypeId)(n:Nat)(ps:Array (Nat×Operand)):bA e ro (.buildSlice ty n ps) t ds h K=aG (cF e t (.buildSlice ty n ps)) (KA K ds h):=rfl
theorem MB(ty:TypeId)(n:Option Operand):bA e ro (.makeMap ty n) t ds h K=aG (cF e t (.makeMap ty n)) (KA K ds h):=rfl
theorem MC(ty:TypeId)(l c:Operand):bA e ro (.makeSlice ty l c) t ds h K=aG (cF e t (.makeSlice ty l c)) (KA K ds h):=rfl
theorem MD(ty:TypeId)(a x:Operand):bA e ro (.store ty a x) t ds h K=aG (pK e h ty (aw e t a) (aw e t x)) (KH K ds):=rfl
theorem ME(ty:TypeId)(m k v:Operand):bA e ro (.mapUpdate ty m k v) t ds h K=aG (oE e h ty (aw e t m) (aw e t k) (aw e t v)) (KH K ds):=rfl
theorem MF(ty:TypeId)(m k v:Operand):bA e ro (.insert ty m k v) t ds h K=aG (oE e h ty (aw e t m) (aw e t k) (aw e t v)) (KH K ds):=rfl
theorem MG(ty:TypeId)(x:Operand):bA e ro (.range ty x) t ds h K=aG ((aw e t x).bind (uE e h ty)) (KO K ds h):=rfl
theorem MH(it:Operand)(s:Bool):bA e ro (.next it s) t ds h K=aG ((aw e t it).bind (pA h · s)) (KP K ds):=rfl
theorem MJ(f:Operand)(args:List Operand)(ai:Array TypeId):bA e ro (.call ⟨.value f,args.toArray,ai⟩) t ds h K=aG (pL (aw e t f) (cR e t args)) (KC e K ds h):=by simp[bA];rfl
theorem MK(args:List Operand)(ai:Array TypeId):bA e ro (.call ⟨.builtin .append,args.toArray,ai⟩) t ds h K=aG (sI e h ai (cR e t args)) (KP K ds):=by simp[bA];rfl
theorem ML(x:Operand)(ty:TypeId)(ai:List TypeId):bA e ro (.call ⟨.builtin .len,#[x],(ty::ai).toArray⟩) t ds h K=aG ((aw e t x).bind (fk e h ty)) (KV K ds h):=by
 simp only[bA,bu,cR,uD];cases aw e t x<;>simp[KV,aG]
end
def RS(e:Env)(ro:Option Nat):Code->aE->(bk->aE->Prop)->Prop
 |.skip,s,K=>K .normal s
 |.exit id,s,K=>K (.exit id) s
 |.ret,s,K=>K .ret s
 |.region _ ops true,s,K=>lD e ro ops.toList s (K .normal)
 |.region _ ops false,s,K=>eH e ro ops.toList ops.toList s.t s.n s.ds s.h (K .normal)
 |.seq a b,s,K=>RS e ro a s λx s1=>match x with|.normal=>RS e ro b s1 K|.exit i=>K (.exit i) s1|.ret=>K .ret s1
 |.cond c a b,s,K=>aG (aw e s.t c) λv=>match v with|.bool v=>(v=true->RS e ro a s K)/\(v=false->RS e ro b s K)|_=>False
 |.block id c,s,K=>RS e ro c s λx s1=>match x with|.normal=>K .normal s1|.exit i=>if i=id then K .normal s1 else K (.exit i) s1|.ret=>K .ret s1
 |.loop c,s,K=>∃k x s',nk e ro c x s' k s/\K x s'
 |_,_,_=>False
theorem RS.rq:∀(c:Code) (s:aE) (K:bk->aE->Prop),RS e ro c s K->RQ e ro c s K:=by
 have mono:∀(c:Code) (s:aE) (K K':bk->aE->Prop),(∀x s,K x s->K' x s)->RQ e ro c s K->RQ e ro c s K':=by
  intro c;have L2:∀{ops r:List Oper} {s:aE} {K K':aE->Prop},(∀s,K s->K' s)->hD e ro ops r s K->hD e ro ops r s K':=by
   intro ops r
   induction r with
   |nil=>exactλhk h=>hk _ h
   |cons o r ih=>
    intro s K K' hk h;simp only[hD]at h⊢
    split at h
    . exact h
    . unfold lC at h⊢
      split at h
      . exact h
      . exact⟨_,h.choose_spec.1,ih hk h.choose_spec.2⟩
      . exact⟨_,h.choose_spec.1,ih hk h.choose_spec.2⟩
      . obtain⟨v,h',h1,s',h2,h3⟩:=h;exact⟨v,h',h1,s',h2,ih hk h3⟩
      . exact h
      . exact⟨h.1,_,h.2.choose_spec.1,ih hk h.2.choose_spec.2⟩
    . exact⟨_,h.choose_spec.1,ih hk h.choose_spec.2⟩
  induction c with
  |region id ops draw=>
   intro s K K' hk h;cases draw with
   |true=>
    refine⟨h.1, ?_⟩;have D:∀(l:List (Oper×Nat)) (i id:Nat) (x:cm) (A B:cm->Prop),(∀x,A x->B x)->kH e ro ops.toList l i id x A->kH e ro ops.toList l i id x B:=by
     intro l
     induction l with
     |nil=>exactλ_ _ _ _ _ hk h=>hk _ h
     |cons om r ih=>
      obtain⟨o,m⟩:=om;intro i id x A B hk h;simp only[kH]at h⊢;have P:∀{dst:Option Tmp} {v:Value} {s:aE} {F G:aE->Prop},(∀s,F s->G s)->fP dst v s F->fP dst v s G:=λaz ⟨s',h1,h2⟩=>⟨s',h1,az _ h2⟩;unfold ml at h⊢
      split at h
      . exact h
      . split at h
        . exact P (λs=>ih _ _ _ _ _ hk) h
        . exact h
        . exact P (λs=>ih _ _ _ _ _ hk) h
      . split at h
        . split at h
          . exact P (λs=>ih _ _ _ _ _ hk) h
          . exact h
        . split at h
          . exact P (λs=>ih _ _ _ _ _ hk) h
          . exact h
        . split at h
          . exact h
          . exact P (λs=>ih _ _ _ _ _ hk) h
        . unfold lC at h⊢
          split at h
          . exact h
          . exact P (λs=>ih _ _ _ _ _ hk) h
          . exact P (λs=>ih _ _ _ _ _ hk) h
          . obtain⟨v,h',h1,h2⟩:=h;exact⟨v,h',h1,P (λs=>ih _ _ _ _ _ hk) h2⟩
          . exact h
          . exact⟨h.1,P (λs=>ih _ _ _ _ _ hk) h.2⟩
        . exact h
    exact D _ _ _ _ _ _ (λx hx=>⟨hx.1,hk _ _ hx.2⟩) h.2
   |false=>exact L2 (λs=>hk _ s) h
  |seq a b ad ae=>
   intro s K K' hk h;refine ad s _ _ (λx s1 h1=> ?_) h;cases x with
   |normal=>exact ae s1 K K' hk h1
   |exit i=>exact hk _ _ h1
   |ret=>exact hk _ _ h1
  |cond c a b ad ae=>exactλs K K' hk ⟨v,h1,h2,h3⟩=>⟨v,h1,λhv=>ad s K K' hk (h2 hv),λhv=>ae s K K' hk (h3 hv)⟩
  |block id c ih=>
   intro s K K' hk h;refine ih s _ _ (λx s1 h1=> ?_) h;cases x with
   |normal=>exact hk _ _ h1
   |exit i=>
    simp only at h1⊢
    split at h1<;>rename_i av
    . rw[if_pos av];exact hk _ _ h1
    . rw[if_neg av];exact hk _ _ h1
   |ret=>exact hk _ _ h1
  |loop c ih=>exactλs K K' hk ⟨x,s',h1,h2⟩=>⟨x,s',h1,hk _ _ h2⟩
  |scope c ih=>exactλs K K' hk h=>ih s K K' hk h
  |skip=>exactλs K K' hk h=>hk _ _ h
  |label l=>exactλs K K' hk h=>hk _ _ h
  |exit id=>exactλs K K' hk h=>hk _ _ h
  |ret=>exactλs K K' hk h=>hk _ _ h
  |_=>exactλs K K' hk h=>h.elim
 intro c
 induction c with
 |region id ops draw=>
  intro s K h;cases draw with
  |true=>exact h
  |false=>exact eH.pM (n:=s.n) h
 |seq a b ad ae=>
  intro s K h;refine mono a s _ _ (λx s1 h1=> ?_) (ad s _ h);cases x with
  |normal=>exact ae s1 K h1
  |exit i=>exact h1
  |ret=>exact h1
 |cond c a b ad ae=>
  intro s K h;obtain⟨v,h1,h2⟩:=h;cases v with
  |bool v=>exact⟨v,h1,λhv=>ad s K (h2.1 hv),λhv=>ae s K (h2.2 hv)⟩
  |_=>exact h2.elim
 |block id c ih=>exactλs K h=>ih s _ h
 |loop c ih=>exactλs K ⟨k,x,s',h1,h2⟩=>⟨x,s',h1.runs k s,h2⟩
 |skip=>exactλs K h=>h
 |exit id=>exactλs K h=>h
 |ret=>exactλs K h=>h
 |_=>exactλs K h=>h.elim
def wN(e:Env)(ro:Option Nat)(b:Code)(K:bk->aE->Prop):bk->aE->Prop:=λx s1=>match x with|.normal=>RS e ro b s1 K|.exit i=>K (.exit i) s1|.ret=>K .ret s1
def wO(id:Nat)(K:bk->aE->Prop):bk->aE->Prop:=λx s1=>match x with|.normal=>K .normal s1|.exit i=>if i=id then K .normal s1 else K (.exit i) s1|.ret=>K .ret s1
def rj(e:Env)(ro:Option Nat)(a b:Code)(s:aE)(K:bk->aE->Prop):Value->Prop:=λv=>match v with|.bool v=>(v=true->RS e ro a s K)/\(v=false->RS e ro b s K)|_=>False
section
variable (s:aE) (K:bk->aE->Prop)
theorem MM(b:Code):wN e ro b K .normal s=RS e ro b s K:=rfl
theorem MN(b:Code)(i:Nat):wN e ro b K (.exit i) s=K (.exit i) s:=rfl
theorem MO(b:Code):wN e ro b K .ret s=K .ret s:=rfl
theorem MP(id:Nat):wO id K .normal s=K .normal s:=rfl
theorem MQ(id i:Nat):wO id K (.exit i) s=if i=id then K .normal s else K (.exit i) s:=rfl
theorem MR(id:Nat):wO id K .ret s=K .ret s:=rfl
theorem MT(a b:Code):rj e ro a b s K (.bool true)=RS e ro a s K:=by simp[rj]
theorem MU(a b:Code):rj e ro a b s K (.bool false)=RS e ro b s K:=by simp[rj]
theorem rj.mk{a b:Code}{p:Prop}[Decidable p](h1:p->RS e ro a s K)(h2:¬p->RS e ro b s K):rj e ro a b s K (.bool (decide p)):=⟨λh=>h1 (of_decide_eq_true h),λh=>h2 (of_decide_eq_false h)⟩
theorem MV:RS e ro .skip s K=K .normal s:=rfl
theorem MW(id:Nat):RS e ro (.exit id) s K=K (.exit id) s:=rfl
theorem MX:RS e ro .ret s K=K .ret s:=rfl
theorem MY(a b:Code):RS e ro (.seq a b) s K=RS e ro a s (wN e ro b K):=rfl
theorem MZ(id:Nat)(c:Code):RS e ro (.block id c) s K=RS e ro c s (wO id K):=rfl
theorem Na(c:Operand)(a b:Code)(t:Tr Value)(n:Nat)(ds:List Deferred)(h:aa):RS e ro (.cond c a b) ⟨t,n,ds,h⟩ K=aG (aw e t c) (rj e ro a b ⟨t,n,ds,h⟩ K):=rfl
theorem Nb(id:Nat)(l:List Oper)(t:Tr Value)(n:Nat)(ds:List Deferred)(h:aa):RS e ro (.region id l.toArray false) ⟨t,n,ds,h⟩ K=eH e ro l l t n ds h (K .normal):=by simp[RS]
theorem Nc(id:Nat)(l:List Oper):RS e ro (.region id l.toArray true) s K=lD e ro l s (K .normal):=by simp[RS]
end
theorem Ed(he:e.Ok)(ab:e.P.follows .mixedOrders=true){c:Code}{s:aE}{P:bk->aE->Prop}(h:RS e ro c s λx s1=>match x with|.normal=>∃k x s',nk e ro c x s' k s1/\P x s'|x=>P x s1):∃k x s',nk e ro c x s' k s/\P x s':=by
 obtain⟨x,s1,h1,h2⟩:=RQ.runs he ab c s _ (RS.rq c s _ h);cases x with
 |normal=>
  obtain⟨k,x,s',h3,h4⟩:=h2;exact⟨k+1,x,s',⟨s1,h1,h3⟩,h4⟩
 |exit i=>exact⟨0,_,s1,⟨h1,by simp⟩,h2⟩
 |ret=>exact⟨0,_,s1,⟨h1,by simp⟩,h2⟩
def sJ(e:Env)(ro:Option Nat)(c:Code)(P:bk->aE->Prop):bk->aE->Prop:=λx s1=>match x with|.normal=>∃k x s',nk e ro c x s' k s1/\P x s'|x=>P x s1
theorem Nd(c:Code)(P:bk->aE->Prop)(s:aE):sJ e ro c P .normal s=RS e ro (.loop c) s P:=rfl
theorem Nf(he:e.Ok)(ab:e.P.follows .mixedOrders=true){c:Code}{s:aE}{K:bk->aE->Prop}(h:RS e ro c s (sJ e ro c K)):RS e ro (.loop c) s K:=Ed he ab h
theorem Ng(c:Code)(P:bk->aE->Prop)(s:aE)(i:Nat):sJ e ro c P (.exit i) s=P (.exit i) s:=rfl
theorem Nh(c:Code)(P:bk->aE->Prop)(s:aE):sJ e ro c P .ret s=P .ret s:=rfl
theorem bK.Ni(he:e.Ok)(ab:e.P.follows .mixedOrders=true)(ao:Idle e){f:FuncId}{fn:Func}{c:Code}{args:List Value}{h:aa}{K:Value->aa->Prop}(aA:e.fn f=some fn)(hb:fn.body=some c){n:Nat}(hn:fn.ntmps=n){rs:List ResultVar}(aB:fn.results=rs.toArray)
 (hq:RS e none c ⟨gl args,args.length+(n-args.length),[],h⟩ (oA e rs K)):∃v h',bK e f args h v h'/\K v h':=by
 refine bK.of he ab ao aA hb ?_;subst hn;rw[aB];exact RS.rq _ _ _ hq
end Go.au
end

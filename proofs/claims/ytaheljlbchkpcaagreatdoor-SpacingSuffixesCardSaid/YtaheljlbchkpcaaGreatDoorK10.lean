/- SpacingSuffixes: parts of its proof (AwC AwD). -/
import Derived.Test.YtaheljlbchkpcaaGreatDoorK09
set_option linter.unusedVariables false
set_option linter.unusedSimpArgs false
noncomputable section
namespace Go.aw
variable {e:Env} {ro:Option Nat}
def aG{α:Type}(x:Option α)(k:α->Prop):Prop:=∃v,x=some v/\k v
theorem gZ{α:Type}(v:α)(k:α->Prop):aG (some v) k=k v:=by
 simp[aG]
def bH(dst:Option Tmp)(v:Value)(t:Tr Value):Tr Value:=match dst with|none=>t|some d=>t.set d (some v)
def dB(dst:Option Tmp)(n:Nat):Prop:=match dst with|none=>True|some d=>d<n
theorem sN{s:aE}{dst:Option Tmp}{v:Value}(h:dB dst s.n):fN s dst v=some {s with t:=bH dst v s.t}:=by
 cases dst with
 |none=>simp[sj,bH]
 |some d=>
  simp only[sj,bH];have:Nat.blt d s.n=true:=Nat.ble_eq_true_of_le h;rw[this];rfl
def qP(e:Env)(h:aa)(ty:TypeId):Option Value->Option Value->Option aa
 |some p,some v=>match iL p with|none=>none|some a=>py e h ty a v
 |_,_=>none
def pU(e:Env)(h:aa)(ty:TypeId):Option Value->Option Value->Option Value->Option aa
 |some m,some k,some v=>se e h ty m k v
 |_,_,_=>none
def uD(e:Env)(h:aa)(aC:Array TypeId):Option (List Value)->Option (Value×aa)
 |some [s,x]=>og e h aC s x
 |_=>none
def copyV(e:Env)(h:aa)(aC:Array TypeId):Option (List Value)->Option (Value×aa)
 |some [s,x]=>xZ e h aC s x
 |_=>none
def qQ:Option Value->Option (List Value)->Option (FuncId×List Value)
 |some f,some args=>match oh f args with|some (.func g,az,cap)=>some (g,az++cap)|_=>none
 |_,_=>none
def wC(e:Env)(h:aa)(ty:TypeId)(x:Value):Option bK:=match x,e.under ty with
 |.string s,some .string=>some (.e8 s 0)
 |.map none,some (.map _ _)=>some (.cD none 0 [] 0)
 |.map (some m),some (.map _ _)=>match h.get m with
  |some (.map _ clock)=>some (.cD (some m) clock [] clock)
  |_=>none
 |_,_=>none
abbrev Kt:Type:=Value->List Deferred->aa->Prop
def bG(e:Env)(ro:Option Nat)(op:Op)(t:Tr Value)(ds:List Deferred)(h:aa)(K:Kt):Prop:=
 match op with
 |.alloc ty=>aG (cU e t (.alloc ty)) λp=>K (p.2 h.next) ds (h.new p.1)
 |.box ty x=>aG (cU e t (.box ty x)) λp=>K (p.2 h.next) ds (h.new p.1)
 |.buildSlice ty n ps=>aG (cU e t (.buildSlice ty n ps)) λp=>K (p.2 h.next) ds (h.new p.1)
 |.makeMap ty n=>aG (cU e t (.makeMap ty n)) λp=>K (p.2 h.next) ds (h.new p.1)
 |.makeSlice ty l c=>aG (cU e t (.makeSlice ty l c)) λp=>K (p.2 h.next) ds (h.new p.1)
 |.store ty a x=>aG (qP e h ty (au e t a) (au e t x)) λh'=>K undef ds h'
 |.mapUpdate ty m k v=>aG (pU e h ty (au e t m) (au e t k) (au e t v)) λh'=>K undef ds h'
 |.insert ty m k v=>aG (pU e h ty (au e t m) (au e t k) (au e t v)) λh'=>K undef ds h'
 |.range ty x=>aG ((au e t x).bind (wC e h ty)) λo=>K (.pointer (some ⟨h.next,0,none⟩)) ds (h.new o)
 |.next it s=>aG ((au e t it).bind (qF h · s)) λp=>K p.1 ds p.2
 |.entry it=>aG ((au e t it).bind (sg h)) λv=>K v ds h
 |.defer c=>match c.callee with
  |.value f=>ro=none/\aG (df e t c.args.toList) λargs=>aG ((au e t f).bind (oh · args)) λx=>match x with
   |(.func g,az,cap)=>K undef ({target:=.fn (.func g) cap.toArray,args:=az.toArray}::ds) h
   |_=>False
  |_=>False
 |.call c=>match c.callee with
  |.value f=>aG (qQ (au e t f) (df e t c.args.toList)) λp=>∃v h',bS e p.1 p.2 h v h'/\K v ds h'
  |.builtin .append=>aG (uD e h c.argTypes (df e t c.args.toList)) λp=>K p.1 ds p.2
  |.builtin .copy=>aG (copyV e h c.argTypes (df e t c.args.toList)) λp=>K p.1 ds p.2
  |_=>aG (bD e h t (.call c)) λv=>K v ds h
 |op=>aG (bD e h t op) λv=>K v ds h
theorem bG.yr{o:Oper}{t:Tr Value}{n:Nat}{ds:List Deferred}{h:aa}{K:Kt}{K':aE->Prop}(hs:bG e ro o.op t ds h K)(ae:dB o.dst n)(hK:∀v ds h,K v ds h->K' ⟨bH o.dst v t,n,ds,h⟩):mz e ro o ⟨t,n,ds,h⟩ K':=by
 have put:∀{v:Value} {ds:List Deferred} {h:aa},K v ds h->gF o.dst v ⟨t,n,ds,h⟩ K':=λhk=>⟨_,sN (s:=⟨t,n,_,_⟩) ae,hK _ _ _ hk⟩;obtain⟨dst,op,ty,pos,af,g⟩:=o;unfold mz;simp only at hs⊢;have val:∀{v:Value},bD e h t op=some v->K v ds h->(match aL e h t op with
  |none=>False
  |some (.val v h)=>gF dst v ⟨t,n,ds,h⟩ K'
  |some (.skip h)=>gF dst undef ⟨t,n,ds,h⟩ K'
  |some (.enter f args h)=>∃v h',bS e f args h v h'/\gF dst v ⟨t,n,ds,h'⟩ K'
  |some (.round _ _ _)=>False
  |some (.defer f args cap h)=>ro=none/\gF dst undef ⟨t,n,{target:=.fn (.func f) cap.toArray,args:=args.toArray}::ds,h⟩ K'):=λhv hk=>by
  rw[yq hv];exact put hk
 have alloc:∀{p:bK×(Nat->Value)},aL e h t op=(match cU e t op with|none=>none|some (o,f)=>some (.val (f h.next) (h.new o)))->cU e t op=some p->K (p.2 h.next) ds (h.new p.1)->(match aL e h t op with
  |none=>False
  |some (.val v h)=>gF dst v ⟨t,n,ds,h⟩ K'
  |some (.skip h)=>gF dst undef ⟨t,n,ds,h⟩ K'
  |some (.enter f args h)=>∃v h',bS e f args h v h'/\gF dst v ⟨t,n,ds,h'⟩ K'
  |some (.round _ _ _)=>False
  |some (.defer f args cap h)=>ro=none/\gF dst undef ⟨t,n,{target:=.fn (.func f) cap.toArray,args:=args.toArray}::ds,h⟩ K'):=λh1 h2 hk=>by
  rw[h1,h2];exact put hk
 cases op with
 |alloc ty=>obtain⟨p,h1,h2⟩:=hs;exact alloc rfl h1 h2
 |box ty x=>obtain⟨p,h1,h2⟩:=hs;exact alloc rfl h1 h2
 |buildSlice ty n ps=>obtain⟨p,h1,h2⟩:=hs;exact alloc rfl h1 h2
 |makeMap ty n=>obtain⟨p,h1,h2⟩:=hs;exact alloc rfl h1 h2
 |makeSlice ty l c=>obtain⟨p,h1,h2⟩:=hs;exact alloc rfl h1 h2
 |store ty a x=>
  obtain⟨h',h1,h2⟩:=hs;simp only[qP]at h1;simp only[aL]
  split at h1
  . rename_i p v hp hv
    split at h1
    . cases h1
    . rename_i ad ha;simp only[hp,Option.bind_some,ha,hv,h1];exact put h2
  . cases h1
 |mapUpdate ty m k v=>
  obtain⟨h',h1,h2⟩:=hs;simp only[pU]at h1;simp only[aL]
  split at h1
  . rename_i hp hk hv;simp only[hp,hk,hv,h1];exact put h2
  . cases h1
 |insert ty m k v=>
  obtain⟨h',h1,h2⟩:=hs;simp only[pU]at h1;simp only[aL]
  split at h1
  . rename_i hp hk hv;simp only[hp,hk,hv,h1];exact put h2
  . cases h1
 |range ty x=>
  obtain⟨ob,h1,h2⟩:=hs;simp only[Option.bind_eq_some_iff,wC]at h1;obtain⟨y,hy,h1⟩:=h1;simp only[aL,hy]
  split at h1
  . rename_i hu;cases h1;simp only[hu];exact put h2
  . rename_i hu;cases h1;simp only[hu];exact put h2
  . rename_i hu;simp only[hu]
    split at h1
    . rename_i hg;cases h1;simp only[hg];exact put h2
    . cases h1
  . cases h1
 |next it s=>
  obtain⟨p,h1,h2⟩:=hs;simp only[Option.bind_eq_some_iff]at h1;obtain⟨y,hy,h1⟩:=h1;simp only[aL,hy,h1];exact put h2
 |entry it=>
  obtain⟨p,h1,h2⟩:=hs;simp only[Option.bind_eq_some_iff]at h1;obtain⟨y,hy,h1⟩:=h1;simp only[aL,hy,h1];exact put h2
 |defer c=>
  simp only[bG]at hs;simp only[aL]
  split at hs
  . rename_i f hf;obtain⟨h0,args,h1,x,h2,h3⟩:=hs;simp only[hf,h1,h2]
    split at h3
    . exact⟨h0,put h3⟩
    . cases h3
  . cases hs
 |call c=>
  simp only[bG]at hs
  split at hs
  . rename_i f hf;obtain⟨p,h1,v,h',h2,h3⟩:=hs;simp only[qQ]at h1;simp only[aL,mw,hf]
    split at h1
    . rename_i fv args h4 h5
      split at h1
      . rename_i g az cap h6;cases h1;simp only[h4,h5,h6];exact⟨v,h',h2,put h3⟩
      . cases h1
    . cases h1
  . rename_i hc;obtain⟨p,h1,h2⟩:=hs;simp only[uD]at h1;simp only[aL,mw,hc]
    split at h1
    . rename_i s x h3;simp only[h3,h1];exact put h2
    . cases h1
  . rename_i hc;obtain⟨p,h1,h2⟩:=hs;simp only[copyV]at h1;simp only[aL,mw,hc]
    split at h1
    . rename_i s x h3;simp only[h3,h1];exact put h2
    . cases h1
  . obtain⟨v,h1,h2⟩:=hs;exact val h1 h2
 |_=>obtain⟨v,h1,h2⟩:=hs;exact val h1 h2
def fi(e:Env)(ro:Option Nat)(ops:List Oper):List Oper->Tr Value->Nat->List Deferred->aa->(aE->Prop)->Prop
 |[],t,n,ds,h,K=>K ⟨t,n,ds,h⟩
 |o::r,t,n,ds,h,K=>match o.guard with
  |none=>dB o.dst n/\bG e ro o.op t ds h λv ds h=>fi e ro ops r (bH o.dst v t) n ds h K
  |some (j,w)=>aG ((ops[j]?).bind (·.dst)) λd=>aG (t.get d) λg=>match g with
   |.bool b=>(b=w->dB o.dst n/\bG e ro o.op t ds h λv ds h=>fi e ro ops r (bH o.dst v t) n ds h K)/\(b= !w->dB o.dst n/\fi e ro ops r (bH o.dst undef t) n ds h K)
   |.tuple _=>dB o.dst n/\fi e ro ops r (bH o.dst undef t) n ds h K
   |_=>False
theorem fi.qR{ops:List Oper}{n:Nat}{K:aE->Prop}:∀{l:List Oper} {t:Tr Value} {ds:List Deferred} {h:aa},fi e ro ops l t n ds h K->iO e ro ops l ⟨t,n,ds,h⟩ K
 |[],_,_,_,hs=>hs
 |o::r,t,ds,h,hs=>by
  simp only[fi]at hs;simp only[iO,cY];have run:(dB o.dst n/\bG e ro o.op t ds h λv ds h=>fi e ro ops r (bH o.dst v t) n ds h K)->mz e ro o ⟨t,n,ds,h⟩ λs=>iO e ro ops r s K:=λ⟨h1,h2⟩=>h2.yr h1 λv ds h hk=>fi.qR hk;have skip:(dB o.dst n/\fi e ro ops r (bH o.dst undef t) n ds h K)->gF o.dst undef ⟨t,n,ds,h⟩ λs=>iO e ro ops r s K:=λ⟨h1,h2⟩=>⟨_,sN (s:=⟨t,n,ds,h⟩) h1,fi.qR h2⟩;cases hg:o.guard with
  |none=>simp only[hg]at hs⊢;exact run hs
  |some jw=>
   obtain⟨j,w⟩:=jw;simp only[hg]at hs⊢;obtain⟨d,h1,g,h2,hs⟩:=hs;simp only[h1,h2];cases g with
   |bool b=>
    simp only at hs⊢;by_cases hb:b=w
    . subst hb;simp only[beq_self_eq_true];exact run (hs.1 rfl)
    . have aD:b= !w:=by cases b<;>cases w<;>simp_all
      have:(b==w)=false:=by simpa using hb
      rw[this];exact skip (hs.2 aD)
   |tuple vs=>exact skip hs
   |_=>exact hs.elim
structure PI where
 c:ug
 m:Nat
 dy:Option (Nat×Nat)
def qS(ops:List Oper)(ms:List Nat)(ef:List (Nat×Nat))(i:Nat)(o:Oper)(p:PI):Bool:=
 decide (cls o.op=p.c)&&Nat.beq (ms.getD i 0) p.m&&(match p.dy with
  |none=> !decide (p.c=.read)||Nat.ble (ef.filter λq=> !q.2.testBit i).length (ef.filter λq=>p.m.testBit q.1).length
  |some (lo,k)=>Nat.beq lo (ef.filter λq=>p.m.testBit q.1).length&&Nat.beq k ((ef.filter λq=> !q.2.testBit i).length+1-lo))
def sO(ops:List Oper):Bool->List PI->Bool:=λ_ pl=>
 qG ops (bl ops)&&Nat.beq pl.length ops.length&&((ops.zip pl).zipIdx.all λx=>qS ops (bl ops) (dc ops) x.2 x.1.1 x.1.2)
def cq(e:Env)(ro:Option Nat)(ops:List Oper):List Oper->List PI->Nat->Nat->Tr Value->Nat->List Deferred->aa->dz->dz->List (Nat×aa)->List (Tr Value)->(cH->Prop)->Prop
 |[],_,_,_,t,n,ds,h,an,all,st,sn,K=>K ⟨⟨t,n,ds,h⟩,an,all,st,sn⟩
 |_::_,[],_,_,_,_,_,_,_,_,_,_,_=>False
 |o::r,p::pl,i,id,t,n,ds,h,an,all,st,sn,K=>
  let run:=λ(_:Unit)=>match p.c with
   |.pure=>aG (bD e h t o.op) λv=>cq e ro ops r pl (i+1) id (bH o.dst v t) n ds h an all st (t::sn) K
   |.read=>aG (bD e (cg h p.m an) t o.op) λv=>cq e ro ops r pl (i+1) id (bH o.dst v t) n ds h an all st (t::sn) K
   |.alloc=>aG (cU e t o.op) λq=>cq e ro ops r pl (i+1) (id+1) (bH o.dst (q.2 id) t) n ds h ((i,id,q.1)::an) ((i,id,q.1)::all) st (t::sn) K
   |.effect=>bG e ro o.op t ds (cg h p.m an) λv ds h=>cq e ro ops r pl (i+1) id (bH o.dst v t) n ds h (an.filter λq=> !p.m.testBit q.1) all ((Nat.lor ((st.head?.map (·.1)).getD 0) p.m,h)::st) (t::sn) K
   |.bad=>False
  let skip:=λ(_:Unit)=>match p.c with
   |.effect=>cq e ro ops r pl (i+1) id (bH o.dst undef t) n ds h an all (((st.head?.map (·.1)).getD 0,h)::st) (t::sn) K
   |.alloc=>cq e ro ops r pl (i+1) (id+1) (bH o.dst undef t) n ds h an all st (t::sn) K
   |.bad=>False
   |_=>cq e ro ops r pl (i+1) id (bH o.dst undef t) n ds h an all st (t::sn) K
  dB o.dst n/\match o.guard with
  |none=>run ()
  |some (j,w)=>aG ((ops[j]?).bind (·.dst)) λd=>aG (t.get d) λg=>match g with
   |.bool b=>(b=w->run ())/\(b= !w->skip ())
   |.tuple _=>skip ()
   |_=>False
def pV(e:Env)(o:Oper)(m:Nat)(t:Tr Value)(v:Value)(all:dz):List (Nat×aa)->Prop
 |[]=>True
 |q::r=>bD e (cg q.2 m (all.filter λp=> !q.1.testBit p.1)) t o.op=some v/\pV e o m t v all r
def gI(e:Env)(ops:List Oper)(tf:Tr Value)(all:dz)(st:List (Nat×aa)):List Oper->List PI->List (Tr Value)->Prop
 |o::r,p::pl,t::ts=>(match p.dy with
  |none=>True
  |some (lo,k)=>match cY ops ⟨t,0,[],{m:=.nil,next:=0}⟩ o with
   |some true=>match o.dst with
    |none=>False
    |some d=>match tf.get d with
     |none=>False
     |some v=>pV e o p.m t v all ((st.drop lo).take k)
   |some false=>True
   |none=>False)/\gI e ops tf all st r pl ts
 |[],_,_=>True
 |_,_,_=>False
theorem FB{o:Oper}{m:Nat}{t:Tr Value}{v:Value}{all:dz}:∀{l:List (Nat×aa)},pV e o m t v all l->∀q∈l,∃h2,aL e (cg q.2 m (all.filter λp=> !q.1.testBit p.1)) t o.op=some (.val v h2)
 |[],_,q,hq=>by cases hq
 |q::r,h,x,hx=>by
  rcases List.mem_cons.1 hx with rfl|hx
  . exact⟨_,yq h.1⟩
  . exact FB h.2 x hx
theorem Ni{ops:List Oper}{s s':aE}{o:Oper}(h:s.t=s'.t):cY ops s o=cY ops s' o:=by unfold cY;rw[h]
theorem gI.p{ops:List Oper}{x:cH}{st:List (Nat×aa)}{ef:List (Nat×Nat)}{ms:List Nat}(aR:ms=bl ops):∀(l:List Oper) (pl:List PI) (ts:List (Tr Value)) (i:Nat),(∀(k:Nat) o p,l[k]? =some o->pl[k]? =some p->qS ops ms ef (i+k) o p=true)->
 (∀(k:Nat) o m,(l.zip (ms.drop i))[k]? =some (o,m)->m=ms.getD (i+k) 0)->gI e ops x.s.t x.all st l pl ts->ou e ops x st ef (l.zip (ms.drop i)) ts i
 |[],_,_,_,_,_,_=>by simp[ou]
 |o::r,[],_,_,_,_,h=>by simp[gI]at h
 |o::r,p::pl,[],_,_,_,h=>by simp[gI]at h
 |o::r,p::pl,t::ts,i,hp,hm,h=>by
  cases hd:ms.drop i with
  |nil=>simp[ou]
  |cons m0 rest=>
   have av:ms.drop (i+1)=rest:=by rw[<-List.drop_drop,hd];rfl
   have aS:m0=ms.getD i 0:=hm 0 o m0 (by rw[hd];rfl);rw[List.zip_cons_cons];obtain⟨h1,h2⟩:=h;have aJ:=hp 0 o p rfl rfl;simp only[qS,Bool.and_eq_true,decide_eq_true_eq,Nat.add_zero]at aJ;obtain⟨⟨hc,aF⟩,ao⟩:=aJ;have aF:=Nat.eq_of_beq_eq_true aF;refine⟨λaT hw=> ?_, ?_⟩
   . unfold yj;have aU:m0=p.m:=aS.trans aF;rw[aU];cases aM:p.dy with
     |none=>
      simp only[aM,Bool.or_eq_true,Bool.not_eq_true',decide_eq_false_iff_not]at ao;rcases ao with ao|ao
      . exact absurd (hc.symm.trans aT) ao
      . exact .inl (Nat.le_of_ble_eq_true ao)
     |some lk=>
      obtain⟨lo,k⟩:=lk;simp only[aM,Bool.and_eq_true]at ao h1;have e1:=Nat.eq_of_beq_eq_true ao.1;have e2:=Nat.eq_of_beq_eq_true ao.2;have aV:cY ops ⟨t,0,[],{m:=.nil,next:=0}⟩ o=some true:=by rw[<-hw];exact Ni rfl
      rw[aV]at h1;simp only at h1;cases aN:o.dst with
      |none=>simp[aN]at h1
      |some d=>
       simp only[aN]at h1;cases hv:x.s.t.get d with
       |none=>simp[hv]at h1
       |some v=>
        simp only[hv]at h1;refine .inr ⟨d,v,rfl,hv,λq hq=>FB h1 q ?_⟩;rw[e2,e1];exact hq
   . have:=gI.p aR r pl ts (i+1) (λk o' p' h1 h2=>by have:=hp (k+1) o' p' (by simpa using h1) (by simpa using h2);rwa[show i+(k+1)=i+1+k by omega]at this)
      (λk o' m' h=>by
       have:=hm (k+1) o' m' (by rw[hd,List.zip_cons_cons];rw[av]at h;simpa using h);rwa[show i+(k+1)=i+1+k by omega]at this) h2
     rw[av]at this;exact this
set_option maxHeartbeats 2000000 in
theorem cq.A8{ops:List Oper}{K K':cH->Prop}(aO:∀x,K x->K' x):∀(l:List Oper) (pl:List PI) (ms:List Nat) (i id:Nat) (t:Tr Value) (n:Nat) (ds:List Deferred) (h:aa) (an all:dz) (st:List (Nat×aa)) (sn:List (Tr Value)),l.length=ms.length->
 (∀(k:Nat) o p m,l[k]? =some o->pl[k]? =some p->ms[k]? =some m->cls o.op=p.c/\m=p.m)->cq e ro ops l pl i id t n ds h an all st sn K->lA e ro ops (l.zip ms) i id ⟨⟨t,n,ds,h⟩,an,all,st,sn⟩ K'
 |[],_,_,_,_,_,_,_,_,_,_,_,_,_,_,hs=>by simp only[List.zip_nil_left,lA];exact aO _ hs
 |_::_,[],_,_,_,_,_,_,_,_,_,_,_,_,_,hs=>by simp[cq]at hs
 |_::_,_::_,[],_,_,_,_,_,_,_,_,_,_,hl,_,_=>by simp at hl
 |o::r,p::pl,m::ms,i,id,t,n,ds,h,an,all,st,sn,hl,hp,hs=>by
  obtain⟨hc,hm⟩:=hp 0 o p m rfl rfl rfl;subst hm;have ih:∀(id:Nat) (t:Tr Value) (n:Nat) (ds:List Deferred) (h:aa) (an all:dz) (st:List (Nat×aa)) (sn:List (Tr Value)),r.length=ms.length->(∀(k:Nat) o p m,r[k]? =some o->pl[k]? =some p->ms[k]? =some m->cls o.op=p.c/\m=p.m)->
   cq e ro ops r pl (i+1) id t n ds h an all st sn K->lA e ro ops (r.zip ms) (i+1) id ⟨⟨t,n,ds,h⟩,an,all,st,sn⟩ K':=λid t n ds h an all st sn=>cq.A8 aO r pl ms (i+1) id t n ds h an all st sn
  have ay:∀(k:Nat) o p m,r[k]? =some o->pl[k]? =some p->ms[k]? =some m->cls o.op=p.c/\m=p.m:=λk o p m h1 h2 h3=>hp (k+1) o p m (by simpa using h1) (by simpa using h2) (by simpa using h3);have aB:r.length=ms.length:=by simpa using hl
  simp only[cq]at hs;obtain⟨ae,hs⟩:=hs;rw[List.zip_cons_cons];simp only[lA];have aY:nextId o id=if p.c=.alloc then id+1 else id:=by
   unfold nextId;rw[hc];cases p.c<;>rfl
  rw[aY];have ab:∀(v:Value),fN ⟨t,n,ds,h⟩ o.dst v=some ⟨bH o.dst v t,n,ds,h⟩:=λv=>sN (s:=⟨t,n,ds,h⟩) ae;have run:(match p.c with
   |.pure=>aG (bD e h t o.op) λv=>cq e ro ops r pl (i+1) id (bH o.dst v t) n ds h an all st (t::sn) K
   |.read=>aG (bD e (cg h p.m an) t o.op) λv=>cq e ro ops r pl (i+1) id (bH o.dst v t) n ds h an all st (t::sn) K
   |.alloc=>aG (cU e t o.op) λq=>cq e ro ops r pl (i+1) (id+1) (bH o.dst (q.2 id) t) n ds h ((i,id,q.1)::an) ((i,id,q.1)::all) st (t::sn) K
   |.effect=>bG e ro o.op t ds (cg h p.m an) λv ds h=>cq e ro ops r pl (i+1) id (bH o.dst v t) n ds h (an.filter λq=> !p.m.testBit q.1) all ((Nat.lor ((st.head?.map (·.1)).getD 0) p.m,h)::st) (t::sn) K
   |.bad=>False)->cY ops ⟨t,n,ds,h⟩ o=some true->nj e ro ops i id p.m o ⟨⟨t,n,ds,h⟩,an,all,st,t::sn⟩ λx=>lA e ro ops (r.zip ms) (i+1) (if p.c=.alloc then id+1 else id) x K':=λhs hw=>by
   unfold nj;simp only[hw,hc];cases ai:p.c with
   |pure=>
    simp only[ai]at hs;obtain⟨v,h1,h2⟩:=hs;simp only[yq h1];exact⟨_,ab v,ih id _ n ds h an all st _ aB ay h2⟩
   |read=>
    simp only[ai]at hs;obtain⟨v,h1,h2⟩:=hs;simp only[yq h1];exact⟨_,ab v,ih id _ n ds h an all st _ aB ay h2⟩
   |alloc=>
    simp only[ai]at hs;obtain⟨q,h1,h2⟩:=hs;obtain⟨ob,f⟩:=q;simp only[h1];exact⟨_,ab _,ih (id+1) _ n ds h _ _ st _ aB ay h2⟩
   |effect=>
    simp only[ai]at hs;exact bG.yr hs ae λv ds h hk=>ih id _ n ds h _ all _ _ aB ay hk
   |bad=>simp[ai]at hs
  have skip:(match p.c with
   |.effect=>cq e ro ops r pl (i+1) id (bH o.dst undef t) n ds h an all (((st.head?.map (·.1)).getD 0,h)::st) (t::sn) K
   |.alloc=>cq e ro ops r pl (i+1) (id+1) (bH o.dst undef t) n ds h an all st (t::sn) K
   |.bad=>False
   |_=>cq e ro ops r pl (i+1) id (bH o.dst undef t) n ds h an all st (t::sn) K)->cY ops ⟨t,n,ds,h⟩ o=some false->nj e ro ops i id p.m o ⟨⟨t,n,ds,h⟩,an,all,st,t::sn⟩ λx=>lA e ro ops (r.zip ms) (i+1) (if p.c=.alloc then id+1 else id) x K':=λhs hw=>by
   unfold nj;simp only[hw,hc];cases ai:p.c with
   |pure=>simp only[ai]at hs;exact⟨_,ab _,ih id _ n ds h an all st _ aB ay hs⟩
   |read=>simp only[ai]at hs;exact⟨_,ab _,ih id _ n ds h an all st _ aB ay hs⟩
   |alloc=>simp only[ai]at hs;exact⟨_,ab _,ih (id+1) _ n ds h an all st _ aB ay hs⟩
   |effect=>simp only[ai]at hs;exact⟨_,ab _,ih id _ n ds h an all _ _ aB ay hs⟩
   |bad=>simp[ai]at hs
  cases hg:o.guard with
  |none=>
   simp only[hg]at hs;exact run hs (by unfold cY;rw[hg])
  |some jw=>
   obtain⟨j,w⟩:=jw;simp only[hg]at hs;obtain⟨d,h1,g,h2,hs⟩:=hs;cases g with
   |bool b=>
    simp only at hs;by_cases hb:b=w
    . exact run (hs.1 hb) (by unfold cY;simp only[hg,h1,h2,hb,beq_self_eq_true])
    . have aD:b= !w:=by cases b<;>cases w<;>simp_all
      have h3:(b==w)=false:=by simpa using hb
      exact skip (hs.2 aD) (by unfold cY;simp only[hg,h1,h2,h3])
   |tuple vs=>exact skip hs (by unfold cY;simp only[hg,h1,h2])
   |_=>exact hs.elim
theorem Nj{ops:List Oper}{t:Tr Value}{n:Nat}{ds:List Deferred}{h:aa}{K:aE->Prop}(pl:List PI)(aQ:sO ops true pl=true)(na:Nat)(aI:Nat.beq (ops.filter λo=>cls o.op==.alloc).length na=true)
 (hs:cq e ro ops ops pl 0 h.next t n ds {h with next:=h.next+na} [] [] [(0,{h with next:=h.next+na})] [] λx=>
  gI e ops x.s.t x.all x.bE.reverse ops pl x.dg.reverse/\K {x.s with h:=fw x.s.h x.an}):mA e ro ops ⟨t,n,ds,h⟩ K:=by
 simp only[sO,Bool.and_eq_true,List.all_eq_true]at aQ;obtain⟨⟨h1,h2⟩,h3⟩:=aQ;have h2:=Nat.eq_of_beq_eq_true h2;have aI:=Nat.eq_of_beq_eq_true aI;have h4:∀(k:Nat) o p,ops[k]? =some o->pl[k]? =some p->qS ops (bl ops) (dc ops) k o p=true:=λk o p ho hp=>by
  have hz:(ops.zip pl)[k]? =some (o,p):=by rw[List.getElem?_zip_eq_some];exact⟨ho,hp⟩
  exact h3 ((o,p),k) (by
   rw[List.mem_zipIdx_iff_getElem?];simpa using hz)
 refine⟨h1, ?_⟩;rw[aI];have h5:∀(k:Nat) o p m,ops[k]? =some o->pl[k]? =some p->(bl ops)[k]? =some m->cls o.op=p.c/\m=p.m:=λk o p m ho hp hm=>by
  have:=h4 k o p ho hp;simp only[qS,Bool.and_eq_true,decide_eq_true_eq]at this;refine⟨this.1.1, ?_⟩;have e1:=Nat.eq_of_beq_eq_true this.1.2;rw[<-e1,List.getD_eq_getElem?_getD,hm];rfl
 refine cq.A8 (λx hx=> ?_) ops pl (bl ops) 0 h.next t n ds _ [] [] _ [] (by rw[yf]) h5 hs;refine⟨.inr ?_,hx.2⟩;have:=gI.p (e:=e) (x:=x) (st:=x.bE.reverse) (ef:=dc ops) (ms:=bl ops) rfl ops pl x.dg.reverse 0 (λk o p ho hp=>by rw[Nat.zero_add];exact h4 k o p ho hp)
  (λk o m hz=>by
   rw[List.drop_zero,List.getElem?_zip_eq_some]at hz;rw[Nat.zero_add,List.getD_eq_getElem?_getD,hz.2];rfl) hx.1
 simpa using this
end Go.aw
end
noncomputable section
namespace Go.aw
variable {e:Env} {ro:Option Nat}
def A9(e:Env)(ro:Option Nat)(ops r:List Oper)(t:Tr Value)(n:Nat)(K:aE->Prop)(dst:Option Tmp):Kt:=λv ds h=>fi e ro ops r (bH dst v t) n ds h K
def FC(e:Env)(ro:Option Nat)(ops:List Oper)(o:Oper)(r:List Oper)(t:Tr Value)(n:Nat)(ds:List Deferred)(h:aa)(K:aE->Prop)(w:Bool)(d:Tmp):Prop:=
 aG (t.get d) λg=>match g with
  |.bool b=>(b=w->dB o.dst n/\bG e ro o.op t ds h λv ds h=>fi e ro ops r (bH o.dst v t) n ds h K)/\(b= !w->dB o.dst n/\fi e ro ops r (bH o.dst undef t) n ds h K)
  |.tuple _=>dB o.dst n/\fi e ro ops r (bH o.dst undef t) n ds h K
  |_=>False
def sP(e:Env)(ro:Option Nat)(ops:List Oper)(o:Oper)(r:List Oper)(t:Tr Value)(n:Nat)(ds:List Deferred)(h:aa)(K:aE->Prop)(w:Bool)(g:Value):Prop:=
 match g with
  |.bool b=>(b=w->dB o.dst n/\bG e ro o.op t ds h λv ds h=>fi e ro ops r (bH o.dst v t) n ds h K)/\(b= !w->dB o.dst n/\fi e ro ops r (bH o.dst undef t) n ds h K)
  |.tuple _=>dB o.dst n/\fi e ro ops r (bH o.dst undef t) n ds h K
  |_=>False
def KV(K:Kt)(ds:List Deferred)(h:aa):Value->Prop:=λv=>K v ds h
def KA(K:Kt)(ds:List Deferred)(h:aa):bK×(Nat->Value)->Prop:=λp=>K (p.2 h.next) ds (h.new p.1)
def KO(K:Kt)(ds:List Deferred)(h:aa):bK->Prop:=λo=>K (.pointer (some ⟨h.next,0,none⟩)) ds (h.new o)
def KH(K:Kt)(ds:List Deferred):aa->Prop:=λh=>K undef ds h
def KP(K:Kt)(ds:List Deferred):Value×aa->Prop:=λp=>K p.1 ds p.2
def KC(e:Env)(K:Kt)(ds:List Deferred)(h:aa):FuncId×List Value->Prop:=λp=>∃v h',bS e p.1 p.2 h v h'/\K v ds h'
theorem KC.mk{K:Kt}{ds:List Deferred}{h:aa}{f:FuncId}{args:List Value}{v:Value}{h':aa}(hr:bS e f args h v h')(hk:K v ds h'):KC e K ds h (f,args):=⟨v,h',hr,hk⟩
theorem Nk(n:Nat):dB none n=True:=rfl
theorem Nl(d n:Nat):dB (some d) n=(d<n):=rfl
theorem Nm(v:Value)(t:Tr Value):bH none v t=t:=rfl
theorem Nn(d:Nat)(v:Value)(t:Tr Value):bH (some d) v t=t.set d (some v):=rfl
theorem No(ops r:List Oper)(t:Tr Value)(n:Nat)(K:aE->Prop)(dst:Option Tmp)(v:Value)(ds:List Deferred)(h:aa):A9 e ro ops r t n K dst v ds h=fi e ro ops r (bH dst v t) n ds h K:=rfl
theorem Np(K:Kt)(ds:List Deferred)(h:aa)(v:Value):KV K ds h v=K v ds h:=rfl
theorem Nq(K:Kt)(ds:List Deferred)(h:aa)(o:bK)(f:Nat->Value):KA K ds h (o,f)=K (f h.next) ds (h.new o):=rfl
theorem Nr(K:Kt)(ds:List Deferred)(h:aa)(o:bK):KO K ds h o=K (.pointer (some ⟨h.next,0,none⟩)) ds (h.new o):=rfl
theorem Ns(K:Kt)(ds:List Deferred)(h:aa):KH K ds h=K undef ds h:=rfl
theorem Nt(K:Kt)(ds:List Deferred)(v:Value)(h:aa):KP K ds (v,h)=K v ds h:=rfl
theorem Nu(ops:List Oper)(t:Tr Value)(n:Nat)(ds:List Deferred)(h:aa)(K:aE->Prop):fi e ro ops [] t n ds h K=K ⟨t,n,ds,h⟩:=rfl
theorem Nv(ops:List Oper)(dst:Option Tmp)(op:Op)(ty:TypeId)(pos:String)(af:Array Edge)(r:List Oper)(t:Tr Value)(n:Nat)(ds:List Deferred)(h:aa)(K:aE->Prop):
 fi e ro ops (⟨dst,op,ty,pos,af,none⟩::r) t n ds h K=(dB dst n/\bG e ro op t ds h (A9 e ro ops r t n K dst)):=rfl
theorem Nw(ops:List Oper)(dst:Option Tmp)(op:Op)(ty:TypeId)(pos:String)(af:Array Edge)(j:Nat)(w:Bool)(r:List Oper)(t:Tr Value)(n:Nat)(ds:List Deferred)(h:aa)(K:aE->Prop):
 fi e ro ops (⟨dst,op,ty,pos,af,some (j,w)⟩::r) t n ds h K=aG ((ops[j]?).bind (·.dst)) (FC e ro ops ⟨dst,op,ty,pos,af,none⟩ r t n ds h K w):=rfl
theorem Nx(ops:List Oper)(o:Oper)(r:List Oper)(t:Tr Value)(n:Nat)(ds:List Deferred)(h:aa)(K:aE->Prop)(w:Bool)(d:Tmp):FC e ro ops o r t n ds h K w d=aG (t.get d) (sP e ro ops o r t n ds h K w):=rfl
theorem Ny(ops:List Oper)(dst:Option Tmp)(op:Op)(ty:TypeId)(pos:String)(af:Array Edge)(r:List Oper)(t:Tr Value)(n:Nat)(ds:List Deferred)(h:aa)(K:aE->Prop)(w:Bool):
 sP e ro ops ⟨dst,op,ty,pos,af,none⟩ r t n ds h K w (.bool w)=(dB dst n/\bG e ro op t ds h (A9 e ro ops r t n K dst)):=
 propext ⟨λhh=>hh.1 rfl,λhh=>⟨λ_=>hh,λh'=>by cases w<;>cases h'⟩⟩
theorem Nz(ops:List Oper)(dst:Option Tmp)(op:Op)(ty:TypeId)(pos:String)(af:Array Edge)(r:List Oper)(t:Tr Value)(n:Nat)(ds:List Deferred)(h:aa)(K:aE->Prop):
 sP e ro ops ⟨dst,op,ty,pos,af,none⟩ r t n ds h K true (.bool false)=(dB dst n/\fi e ro ops r (bH dst undef t) n ds h K):=by
 simp[sP]
theorem NA(ops:List Oper)(dst:Option Tmp)(op:Op)(ty:TypeId)(pos:String)(af:Array Edge)(r:List Oper)(t:Tr Value)(n:Nat)(ds:List Deferred)(h:aa)(K:aE->Prop):
 sP e ro ops ⟨dst,op,ty,pos,af,none⟩ r t n ds h K false (.bool true)=(dB dst n/\fi e ro ops r (bH dst undef t) n ds h K):=by
 simp[sP]
theorem NB(ops:List Oper)(dst:Option Tmp)(op:Op)(ty:TypeId)(pos:String)(af:Array Edge)(r:List Oper)(t:Tr Value)(n:Nat)(ds:List Deferred)(h:aa)(K:aE->Prop)(w:Bool):
 sP e ro ops ⟨dst,op,ty,pos,af,none⟩ r t n ds h K w undef=(dB dst n/\fi e ro ops r (bH dst undef t) n ds h K):=rfl
section
variable (t:Tr Value) (ds:List Deferred) (h:aa) (K:Kt)
theorem NC(x:Operand):bG e ro (.move x) t ds h K=aG (au e t x) (KV K ds h):=rfl
theorem ND(x:Operand):bG e ro (.assign x) t ds h K=aG (au e t x) (KV K ds h):=rfl
theorem NF(c a b:Operand):bG e ro (.pick c a b) t ds h K=aG (sL (au e t c) (au e t a) (au e t b)) (KV K ds h):=rfl
theorem NG(ty:TypeId)(l:List (Nat×Operand)):bG e ro (.build ty l.toArray) t ds h K=aG (nn e ty (fM e t l)) (KV K ds h):=by simp[bG,bD,KV];rfl
theorem NH(ty:TypeId)(a:Operand):bG e ro (.load ty a) t ds h K=aG ((au e t a).bind (nk e h ty)) (KV K ds h):=rfl
theorem NI(x:Operand):bG e ro (.nilCheck x) t ds h K=aG ((au e t x).bind sJ) (KV K ds h):=rfl
theorem NJ(op:BinOp)(ty:TypeId)(x y:Operand)(z:TypeId):bG e ro (.binOp op ty x y z) t ds h K=aG (gH (cS e op ty x y) (au e t x) (au e t y)) (KV K ds h):=rfl
theorem NK(op:UnOp)(ty:TypeId)(x:Operand):bG e ro (.unOp op ty x) t ds h K=aG ((au e t x).bind (oy e op)) (KV K ds h):=rfl
theorem NL(s d:TypeId)(x:Operand):bG e ro (.convert s d x) t ds h K=aG ((au e t x).bind (pR e h s d)) (KV K ds h):=rfl
theorem NM(ty:TypeId)(x:Operand):bG e ro (.makeInterface ty x) t ds h K=aG ((au e t x).bind (wz e ty)) (KV K ds h):=rfl
theorem NN(f:FuncId)(a c:List Operand):bG e ro (.makeFunc (.func f) a.toArray c.toArray) t ds h K=aG (wA f (df e t a) (df e t c)) (KV K ds h):=by simp[bG,bD,KV];rfl
theorem NO(ty:TypeId)(x:Operand)(lo hi mx:Option Operand):bG e ro (.slice ty x lo hi mx) t ds h K=aG (uC e h ty (au e t x) (iP e t lo) (iP e t hi) (iP e t mx)) (KV K ds h):=rfl
theorem NP(s:TypeId)(x:Operand)(f:Nat):bG e ro (.fieldAddr s x f) t ds h K=aG ((au e t x).bind (sI e s f)) (KV K ds h):=rfl
theorem NQ(ty:TypeId)(x:Operand)(f:Nat):bG e ro (.field ty x f) t ds h K=aG ((au e t x).bind (uB e ty f)) (KV K ds h):=rfl
theorem NR(ty:TypeId)(x ix:Operand):bG e ro (.indexAddr ty x ix) t ds h K=aG (gH (pS e ty) (au e t x) (au e t ix)) (KV K ds h):=rfl
theorem NS(ty:TypeId)(x ix:Operand):bG e ro (.index ty x ix) t ds h K=aG (gH (pT e ty) (au e t x) (au e t ix)) (KV K ds h):=rfl
theorem NT(ty:TypeId)(m k:Operand)(ok:Bool):bG e ro (.lookup ty m k ok) t ds h K=aG (gH (oz e h ty ok) (au e t m) (au e t k)) (KV K ds h):=rfl
theorem NV(x:Operand)(i:Nat):bG e ro (.extract x i) t ds h K=aG ((au e t x).bind (sK i)) (KV K ds h):=rfl
theorem NW(ty:TypeId):bG e ro (.alloc ty) t ds h K=aG (cU e t (.alloc ty)) (KA K ds h):=rfl
theorem NY(ty:TypeId)(x:Operand):bG e ro (.box ty x) t ds h K=aG (cU e t (.box ty x)) (KA K ds h):=rfl
theorem NZ(ty:TypeId)(n:Nat)(ps:Array (Nat×Operand)):bG e ro (.buildSlice ty n ps) t ds h K=aG (cU e t (.buildSlice ty n ps)) (KA K ds h):=rfl
theorem N5(ty:TypeId)(n:Option Operand):bG e ro (.makeMap ty n) t ds h K=aG (cU e t (.makeMap ty n)) (KA K ds h):=rfl
theorem N6(ty:TypeId)(l c:Operand):bG e ro (.makeSlice ty l c) t ds h K=aG (cU e t (.makeSlice ty l c)) (KA K ds h):=rfl
theorem N7(ty:TypeId)(a x:Operand):bG e ro (.store ty a x) t ds h K=aG (qP e h ty (au e t a) (au e t x)) (KH K ds):=rfl
theorem N8(ty:TypeId)(m k v:Operand):bG e ro (.mapUpdate ty m k v) t ds h K=aG (pU e h ty (au e t m) (au e t k) (au e t v)) (KH K ds):=rfl
theorem N9(ty:TypeId)(m k v:Operand):bG e ro (.insert ty m k v) t ds h K=aG (pU e h ty (au e t m) (au e t k) (au e t v)) (KH K ds):=rfl
theorem Oa(ty:TypeId)(x:Operand):bG e ro (.range ty x) t ds h K=aG ((au e t x).bind (wC e h ty)) (KO K ds h):=rfl
theorem Ob(it:Operand)(s:Bool):bG e ro (.next it s) t ds h K=aG ((au e t it).bind (qF h · s)) (KP K ds):=rfl
theorem Oc(f:Operand)(args:List Operand)(ai:Array TypeId):bG e ro (.call ⟨.value f,args.toArray,ai⟩) t ds h K=aG (qQ (au e t f) (df e t args)) (KC e K ds h):=by simp[bG];rfl
theorem Oe(args:List Operand)(ai:Array TypeId):bG e ro (.call ⟨.builtin .append,args.toArray,ai⟩) t ds h K=aG (uD e h ai (df e t args)) (KP K ds):=by simp[bG];rfl
theorem Of(x:Operand)(ty:TypeId)(ai:List TypeId):bG e ro (.call ⟨.builtin .len,#[x],(ty::ai).toArray⟩) t ds h K=aG ((au e t x).bind (fU e h ty)) (KV K ds h):=by
 simp only[bG,bD,df,wB];cases au e t x<;>simp[KV,aG]
end
def RS(e:Env)(ro:Option Nat):Code->aE->(bn->aE->Prop)->Prop
 |.skip,s,K=>K .normal s
 |.exit id,s,K=>K (.exit id) s
 |.ret,s,K=>K .ret s
 |.region _ ops true,s,K=>mA e ro ops.toList s (K .normal)
 |.region _ ops false,s,K=>fi e ro ops.toList ops.toList s.t s.n s.ds s.h (K .normal)
 |.seq a b,s,K=>RS e ro a s λx s1=>match x with|.normal=>RS e ro b s1 K|.exit i=>K (.exit i) s1|.ret=>K .ret s1
 |.cond c a b,s,K=>aG (au e s.t c) λv=>match v with|.bool v=>(v=true->RS e ro a s K)/\(v=false->RS e ro b s K)|_=>False
 |.block id c,s,K=>RS e ro c s λx s1=>match x with|.normal=>K .normal s1|.exit i=>if i=id then K .normal s1 else K (.exit i) s1|.ret=>K .ret s1
 |.loop c,s,K=>∃k x s',ow e ro c x s' k s/\K x s'
 |_,_,_=>False
theorem RS.rq:∀(c:Code) (s:aE) (K:bn->aE->Prop),RS e ro c s K->RQ e ro c s K:=by
 have mono:∀(c:Code) (s:aE) (K K':bn->aE->Prop),(∀x s,K x s->K' x s)->RQ e ro c s K->RQ e ro c s K':=by
  intro c;have L2:∀{ops r:List Oper} {s:aE} {K K':aE->Prop},(∀s,K s->K' s)->iO e ro ops r s K->iO e ro ops r s K':=by
   intro ops r
   induction r with
   |nil=>exactλhk h=>hk _ h
   |cons o r ih=>
    intro s K K' hk h;simp only[iO]at h⊢
    split at h
    . exact h
    . unfold mz at h⊢
      split at h
      . exact h
      . exact⟨_,h.choose_spec.1,ih hk h.choose_spec.2⟩
      . exact⟨_,h.choose_spec.1,ih hk h.choose_spec.2⟩
      . obtain⟨v,h',h1,s',h2,h3⟩:=h;exact⟨v,h',h1,s',h2,ih hk h3⟩
      . exact h
      . exact⟨h.1,_,h.2.choose_spec.1,ih hk h.2.choose_spec.2⟩
    . exact⟨_,h.choose_spec.1,ih hk h.choose_spec.2⟩
  induction c with
  |region id ops draw=>
   intro s K K' hk h;cases draw with
   |true=>
    refine⟨h.1, ?_⟩;have D:∀(l:List (Oper×Nat)) (i id:Nat) (x:cH) (A B:cH->Prop),(∀x,A x->B x)->lA e ro ops.toList l i id x A->lA e ro ops.toList l i id x B:=by
     intro l
     induction l with
     |nil=>exactλ_ _ _ _ _ hk h=>hk _ h
     |cons om r ih=>
      obtain⟨o,m⟩:=om;intro i id x A B hk h;simp only[lA]at h⊢;have P:∀{dst:Option Tmp} {v:Value} {s:aE} {F G:aE->Prop},(∀s,F s->G s)->gF dst v s F->gF dst v s G:=λay ⟨s',h1,h2⟩=>⟨s',h1,ay _ h2⟩;unfold nj at h⊢
      split at h
      . exact h
      . split at h
        . exact P (λs=>ih _ _ _ _ _ hk) h
        . exact h
        . exact P (λs=>ih _ _ _ _ _ hk) h
      . split at h
        . split at h
          . exact P (λs=>ih _ _ _ _ _ hk) h
          . exact h
        . split at h
          . exact P (λs=>ih _ _ _ _ _ hk) h
          . exact h
        . split at h
          . exact h
          . exact P (λs=>ih _ _ _ _ _ hk) h
        . unfold mz at h⊢
          split at h
          . exact h
          . exact P (λs=>ih _ _ _ _ _ hk) h
          . exact P (λs=>ih _ _ _ _ _ hk) h
          . obtain⟨v,h',h1,h2⟩:=h;exact⟨v,h',h1,P (λs=>ih _ _ _ _ _ hk) h2⟩
          . exact h
          . exact⟨h.1,P (λs=>ih _ _ _ _ _ hk) h.2⟩
        . exact h
    exact D _ _ _ _ _ _ (λx hx=>⟨hx.1,hk _ _ hx.2⟩) h.2
   |false=>exact L2 (λs=>hk _ s) h
  |seq a b ad ae=>
   intro s K K' hk h;refine ad s _ _ (λx s1 h1=> ?_) h;cases x with
   |normal=>exact ae s1 K K' hk h1
   |exit i=>exact hk _ _ h1
   |ret=>exact hk _ _ h1
  |cond c a b ad ae=>exactλs K K' hk ⟨v,h1,h2,h3⟩=>⟨v,h1,λhv=>ad s K K' hk (h2 hv),λhv=>ae s K K' hk (h3 hv)⟩
  |block id c ih=>
   intro s K K' hk h;refine ih s _ _ (λx s1 h1=> ?_) h;cases x with
   |normal=>exact hk _ _ h1
   |exit i=>
    simp only at h1⊢
    split at h1<;>rename_i av
    . rw[if_pos av];exact hk _ _ h1
    . rw[if_neg av];exact hk _ _ h1
   |ret=>exact hk _ _ h1
  |loop c ih=>exactλs K K' hk ⟨x,s',h1,h2⟩=>⟨x,s',h1,hk _ _ h2⟩
  |scope c ih=>exactλs K K' hk h=>ih s K K' hk h
  |skip=>exactλs K K' hk h=>hk _ _ h
  |label l=>exactλs K K' hk h=>hk _ _ h
  |exit id=>exactλs K K' hk h=>hk _ _ h
  |ret=>exactλs K K' hk h=>hk _ _ h
  |_=>exactλs K K' hk h=>h.elim
 intro c
 induction c with
 |region id ops draw=>
  intro s K h;cases draw with
  |true=>exact h
  |false=>exact fi.qR (n:=s.n) h
 |seq a b ad ae=>
  intro s K h;refine mono a s _ _ (λx s1 h1=> ?_) (ad s _ h);cases x with
  |normal=>exact ae s1 K h1
  |exit i=>exact h1
  |ret=>exact h1
 |cond c a b ad ae=>
  intro s K h;obtain⟨v,h1,h2⟩:=h;cases v with
  |bool v=>exact⟨v,h1,λhv=>ad s K (h2.1 hv),λhv=>ae s K (h2.2 hv)⟩
  |_=>exact h2.elim
 |block id c ih=>exactλs K h=>ih s _ h
 |loop c ih=>exactλs K ⟨k,x,s',h1,h2⟩=>⟨x,s',h1.runs k s,h2⟩
 |skip=>exactλs K h=>h
 |exit id=>exactλs K h=>h
 |ret=>exactλs K h=>h
 |_=>exactλs K h=>h.elim
def yu(e:Env)(ro:Option Nat)(b:Code)(K:bn->aE->Prop):bn->aE->Prop:=λx s1=>match x with|.normal=>RS e ro b s1 K|.exit i=>K (.exit i) s1|.ret=>K .ret s1
def yv(id:Nat)(K:bn->aE->Prop):bn->aE->Prop:=λx s1=>match x with|.normal=>K .normal s1|.exit i=>if i=id then K .normal s1 else K (.exit i) s1|.ret=>K .ret s1
def sQ(e:Env)(ro:Option Nat)(a b:Code)(s:aE)(K:bn->aE->Prop):Value->Prop:=λv=>match v with|.bool v=>(v=true->RS e ro a s K)/\(v=false->RS e ro b s K)|_=>False
section
variable (s:aE) (K:bn->aE->Prop)
theorem Og(b:Code):yu e ro b K .normal s=RS e ro b s K:=rfl
theorem Oh(b:Code)(i:Nat):yu e ro b K (.exit i) s=K (.exit i) s:=rfl
theorem Oi(b:Code):yu e ro b K .ret s=K .ret s:=rfl
theorem Oj(id:Nat):yv id K .normal s=K .normal s:=rfl
theorem Ol(id i:Nat):yv id K (.exit i) s=if i=id then K .normal s else K (.exit i) s:=rfl
theorem Om(id:Nat):yv id K .ret s=K .ret s:=rfl
theorem Oo(a b:Code):sQ e ro a b s K (.bool true)=RS e ro a s K:=by simp[sQ]
theorem Oq(a b:Code):sQ e ro a b s K (.bool false)=RS e ro b s K:=by simp[sQ]
theorem sQ.mk{a b:Code}{p:Prop}[Decidable p](h1:p->RS e ro a s K)(h2:¬p->RS e ro b s K):sQ e ro a b s K (.bool (decide p)):=⟨λh=>h1 (of_decide_eq_true h),λh=>h2 (of_decide_eq_false h)⟩
theorem Ot:RS e ro .skip s K=K .normal s:=rfl
theorem Ou(id:Nat):RS e ro (.exit id) s K=K (.exit id) s:=rfl
theorem Ov:RS e ro .ret s K=K .ret s:=rfl
theorem Ow(a b:Code):RS e ro (.seq a b) s K=RS e ro a s (yu e ro b K):=rfl
theorem Ox(id:Nat)(c:Code):RS e ro (.block id c) s K=RS e ro c s (yv id K):=rfl
theorem Oy(c:Operand)(a b:Code)(t:Tr Value)(n:Nat)(ds:List Deferred)(h:aa):RS e ro (.cond c a b) ⟨t,n,ds,h⟩ K=aG (au e t c) (sQ e ro a b ⟨t,n,ds,h⟩ K):=rfl
theorem Oz(id:Nat)(l:List Oper)(t:Tr Value)(n:Nat)(ds:List Deferred)(h:aa):RS e ro (.region id l.toArray false) ⟨t,n,ds,h⟩ K=fi e ro l l t n ds h (K .normal):=by simp[RS]
theorem OA(id:Nat)(l:List Oper):RS e ro (.region id l.toArray true) s K=mA e ro l s (K .normal):=by simp[RS]
end
theorem FD(he:e.Ok)(ab:e.P.follows .mixedOrders=true){c:Code}{s:aE}{P:bn->aE->Prop}(h:RS e ro c s λx s1=>match x with|.normal=>∃k x s',ow e ro c x s' k s1/\P x s'|x=>P x s1):∃k x s',ow e ro c x s' k s/\P x s':=by
 obtain⟨x,s1,h1,h2⟩:=RQ.runs he ab c s _ (RS.rq c s _ h);cases x with
 |normal=>
  obtain⟨k,x,s',h3,h4⟩:=h2;exact⟨k+1,x,s',⟨s1,h1,h3⟩,h4⟩
 |exit i=>exact⟨0,_,s1,⟨h1,by simp⟩,h2⟩
 |ret=>exact⟨0,_,s1,⟨h1,by simp⟩,h2⟩
def uE(e:Env)(ro:Option Nat)(c:Code)(P:bn->aE->Prop):bn->aE->Prop:=λx s1=>match x with|.normal=>∃k x s',ow e ro c x s' k s1/\P x s'|x=>P x s1
theorem OB(c:Code)(P:bn->aE->Prop)(s:aE):uE e ro c P .normal s=RS e ro (.loop c) s P:=rfl
theorem OC(he:e.Ok)(ab:e.P.follows .mixedOrders=true){c:Code}{s:aE}{K:bn->aE->Prop}(h:RS e ro c s (uE e ro c K)):RS e ro (.loop c) s K:=FD he ab h
theorem OD(c:Code)(P:bn->aE->Prop)(s:aE)(i:Nat):uE e ro c P (.exit i) s=P (.exit i) s:=rfl
theorem OE(c:Code)(P:bn->aE->Prop)(s:aE):uE e ro c P .ret s=P .ret s:=rfl
theorem bS.OF(he:e.Ok)(ab:e.P.follows .mixedOrders=true)(ao:Idle e){f:FuncId}{fn:Func}{c:Code}{args:List Value}{h:aa}{K:Value->aa->Prop}(az:e.fn f=some fn)(hb:fn.body=some c){n:Nat}(hn:fn.ntmps=n){rs:List ResultVar}(aB:fn.results=rs.toArray)
 (hq:RS e none c ⟨gX args,args.length+(n-args.length),[],h⟩ (pQ e rs K)):∃v h',bS e f args h v h'/\K v h':=by
 refine bS.of he ab ao az hb ?_;subst hn;rw[aB];exact RS.rq _ _ _ hq
end Go.aw
end

/- SpacingSuffixes: parts of its proof (DvB). -/
import Derived.Test.YtaheljlbchkpcaaGreatDoorK13
set_option linter.unusedVariables false
set_option linter.unusedSimpArgs false
noncomputable section
namespace Go.aw
variable {e:Env} {G:Nat->Prop} {h:aa} {dh:ab} {t:Tr Value} {dt:Tr DV} {R:Rows}
structure TD(R:Rows)(t:Tr Value)(dt:Tr DV):Prop where
 tb:pW R
 all:∀i v,dt.get i=some v->∃u,t.get i=some u/\Rel R u v
instance {R:Rows} {t:Tr Value} {dt:Tr DV}:CoeFun (TD R t dt) (λ_=>∀i v,dt.get i=some v->∃u,t.get i=some u/\Rel R u v):=⟨TD.all⟩
theorem SD.td{G:Nat->Prop}{s:aE}{d:DS}(q:SD G s d):TD (aI s.h G) s.t d.t:=⟨q.h.fF,q.t⟩
def fX:Value->DV
 |.agg cs=>.agg (cs.toList.map .v)
 |v=>.v v
theorem uJ(l:List Value):cw R l (l.map .v):=qW (by simp) λi v d h1 h2=>by
 rw[List.getElem?_map,h1]at h2;cases h2;exact .v v
theorem uK(v:Value):Rel R v (fX v):=by
 cases v with
 |agg cs=>
  have:cw R cs.toList (cs.toList.map .v):=uJ _;exact .agg this.length λi v d h1 h2=>this.sU h1 h2
 |_=>exact .v _
def aB(e:Env)(t:Tr DV):Operand->Option DV
 |.tmp i=>t.get i
 |.const v=>bif plain v then some (fX v)else none
 |.global g=>bif Nat.blt g e.px then(if g=0 then some (.ptr qY 0)else none)else none
 |.func f=>some (.fn f [] [])
theorem fx(ht:TD R t dt){o:Operand}{d:DV}(hd:aB e dt o=some d):∃v,au e t o=some v/\Rel R v d:=by
 cases o with
 |tmp i=>exact ht i d hd
 |const v=>
  simp only[aB]at hd;obtain⟨hp,hd⟩:=ca hd;cases hd;exact⟨v,by simp[au,hp],uK v⟩
 |global g=>
  simp only[aB]at hd;obtain⟨hp,hd⟩:=ca hd;by_cases hg:g=0
  . rw[if_pos hg]at hd;simp only[Option.some.injEq]at hd;subst hd;exact⟨.pointer (some ⟨g,0,none⟩),by simp only[au,hp,cond_true],by rw[hg];exact ht.tb.rel⟩
  . rw[if_neg hg]at hd;cases hd
 |func f=>
  simp only[aB,Option.some.injEq]at hd;subst hd;exact⟨_,rfl,.fn rfl (λi v d h1 _=>by simp at h1) rfl (λi v d h1 _=>by simp at h1)⟩
def cO(e:Env)(t:Tr DV):List Operand->Option (List DV)
 |[]=>some []
 |o::r=>match aB e t o with
  |none=>none
  |some v=>(cO e t r).map (v::·)
theorem oF(ht:TD R t dt):∀{l:List Operand} {ds:List DV},cO e dt l=some ds->∃vs,df e t l=some vs/\cw R vs ds
 |[],ds,h=>by simp only[cO,Option.some.injEq]at h;subst h;exact⟨[],rfl,.nil⟩
 |o::r,ds,h=>by
  simp only[cO]at h
  split at h
  . cases h
  . rename_i d hd;simp only[Option.map_eq_some_iff]at h;obtain⟨bl,h1,rfl⟩:=h;obtain⟨v,h2,h3⟩:=fx ht hd;obtain⟨vs,h4,h5⟩:=oF ht h1;exact⟨v::vs,by simp only[df,h2,h4],.cons h3 h5⟩
def fY(e:Env)(t:Tr DV):List (Nat×Operand)->Option (List (Nat×DV))
 |[]=>some []
 |(i,o)::r=>match aB e t o with
  |none=>none
  |some v=>(fY e t r).map ((i,v)::·)
def BD(R:Rows)(x:Nat×Value)(y:Nat×DV):Prop:=x.1=y.1/\Rel R x.2 y.2
theorem BE(ht:TD R t dt):∀{l:List (Nat×Operand)} {ds:List (Nat×DV)},fY e dt l=some ds->∃vs,fM e t l=some vs/\aP (BD R) vs ds
 |[],ds,h=>by simp only[fY,Option.some.injEq]at h;subst h;exact⟨[],rfl,.nil⟩
 |(i,o)::r,ds,h=>by
  simp only[fY]at h
  split at h
  . cases h
  . rename_i d hd;simp only[Option.map_eq_some_iff]at h;obtain⟨bl,h1,rfl⟩:=h;obtain⟨v,h2,h3⟩:=fx ht hd;obtain⟨vs,h4,h5⟩:=BE ht h1;exact⟨(i,v)::vs,by simp only[fM,h2,h4],.cons ⟨rfl,h3⟩ h5⟩
def eM(e:Env)(t:Tr DV):Option Operand->Option (Option DV)
 |none=>some none
 |some o=>(aB e t o).map some
inductive lZ(R:Rows):Option Value->Option DV->Prop
 |none:lZ R none none
 |some {v:Value} {d:DV}:Rel R v d->lZ R (some v) (some d)
theorem BF(ht:TD R t dt){o:Option Operand}{d:Option DV}(hd:eM e dt o=some d):∃v,iP e t o=some v/\lZ R v d:=by
 cases o with
 |none=>simp only[eM,Option.some.injEq]at hd;subst hd;exact⟨none,rfl,.none⟩
 |some o=>
  simp only[eM,Option.map_eq_some_iff]at hd;obtain⟨d,h1,rfl⟩:=hd;obtain⟨v,h2,h3⟩:=fx ht h1;exact⟨some v,by simp[iP,h2],.some h3⟩
theorem wK{cs:List Value}{ds:List DV}(h:cw R cs ds)(o n:Nat):cw R ((cs.drop o).take n) ((ds.drop o).take n):=(aP.drop h o).take n
def fy:Option (Option Nat)->List DV->Nat->Option DV
 |some none,cs,o=>cs[o]?
 |some (some (n+1)),cs,o=>if o+(n+1)<=cs.length then some (.agg ((cs.drop o).take (n+1)))else none
 |_,_,_=>none
theorem F1{ty:TypeId}{b o n:Nat}{cs:List Value}{wr:Bool}{ah:Nat}(hl:e.ld ty=some (some (n+1)))(hg:h.get b=some (.row cs wr ah))(ho:o+(n+1)<=cs.length):iJ e h ty ⟨b,o,none⟩=some (.agg ((cs.drop o).take (n+1)).toArray):=by
 unfold Env.ld at hl;unfold iJ;cases hu:e.under ty with
 |none=>simp[hu]at hl
 |some d=>
  simp only[hu]at hl⊢;cases hd:j7 d with
  |true=>
   simp only[hd,cond_true]at hl⊢;cases hs:e.size ty with
   |none=>simp[hs]at hl
   |some m=>
    simp only[hs,Option.some.injEq]at hl;subst hl;have:((cs.drop o).take (n+1)).length=n+1:=by rw[List.length_take,List.length_drop];omega
    simp only[gm,hg,this,Nat.beq_refl,cond_true]
  |false=>simp[hd]at hl
theorem RB{ty:TypeId}{b o:Nat}{cs:List Value}{wr:Bool}{ah:Nat}{ds:List DV}{d:DV}(hd:fy (e.ld ty) ds o=some d)(hg:h.get b=some (.row cs wr ah))(hr:cw R cs ds):∃v,iJ e h ty ⟨b,o,none⟩=some v/\Rel R v d:=by
 unfold fy at hd
 split at hd
 . rename_i hl;obtain⟨v,h1,h2⟩:=hr.BA hd;exact⟨v,by rw[AY hl,cZ hg,h1],h2⟩
 . rename_i n hl
   split at hd
   . rename_i ho;cases hd;exact⟨_,F1 hl hg (by rw[hr.length];exact ho),Rel.dV (wK hr _ _)⟩
   . cases hd
 . cases hd
theorem RC{ty:TypeId}{b o off:Nat}{cs:List Value}{wr:Bool}{ah:Nat}{xs:List DV}{d:DV}(hd:fy (e.ld ty) xs off=some d)(hg:h.get b=some (.row cs wr ah))(h2:o+xs.length<=cs.length)
 (h3:∀(i:Nat) (v:Value) (d:DV),xs[i]? =some d->cs[o+i]? =some v->Rel R v d):∃v,iJ e h ty ⟨b,o+off,none⟩=some v/\Rel R v d:=by
 cases hl:e.ld ty with
 |none=>simp[hl,fy]at hd
 |some l=>
  cases l with
  |none=>
   simp only[hl,fy]at hd;have bb:=(List.getElem?_eq_some_iff.1 hd).1;have:o+off<cs.length:=by omega
   refine⟨cs[o+off],by rw[AY hl,cZ hg,List.getElem?_eq_getElem this],h3 off _ d hd (List.getElem?_eq_getElem this)⟩
  |some m=>
   cases m with
   |zero=>simp[hl,fy]at hd
   |succ n=>
    simp only[hl,fy]at hd
    split at hd
    . rename_i ho;cases hd;refine⟨_,F1 hl hg (by omega),Rel.dV (qW (by simp only[List.length_take,List.length_drop];omega) λi v d h4 h5=> ?_)⟩;rw[List.getElem?_take]at h4 h5
      split at h4
      . rw[if_pos (by assumption)]at h5;rw[List.getElem?_drop]at h4 h5;exact h3 (off+i) v d h5 (by rw[<-h4];congr 1;omega)
      . cases h4
    . cases hd
def jl(e:Env)(dh:ab)(ty:TypeId):DV->Option DV
 |.v (.pointer (some ⟨b,o,none⟩))=>match dh.get b with|some (.row cs _ _)=>fy (e.ld ty) cs o|_=>none
 |.ptr xs off=>fy (e.ld ty) xs off
 |_=>none
theorem F2(x:bM G h dh){ty:TypeId}{v:Value}{d d':DV}(hv:Rel (aI h G) v d)(hd:jl e dh ty d=some d'):∃v',nk e h ty v=some v'/\Rel (aI h G) v' d':=by
 unfold jl at hd
 split at hd
 . rename_i b o;have:=hv.cW;subst this
   split at hd
   . rename_i cs wr ah hg;obtain⟨_,ao,h1,h2⟩:=x.obj _ _ hg;cases h2 with|row h2=>exact RB hd h1 h2
   . cases hd
 . rename_i xs off;cases hv with
   |ptr h1 h2 h3=>
    obtain⟨_,wr,h4⟩:=qX h1;exact RC hd h4 h2 h3
 . cases hd
def kR(e:Env)(s f:Nat):DV->Option DV
 |.v (.pointer (some ⟨b,o,none⟩))=>(e.off s f).map λk=>.v (.pointer (some ⟨b,o+k,none⟩))
 |.ptr xs off=>(e.off s f).map λk=>.ptr xs (off+k)
 |_=>none
theorem RE{s f:Nat}{v:Value}{d d':DV}(hv:Rel R v d)(hd:kR e s f d=some d'):∃v',sI e s f v=some v'/\Rel R v' d':=by
 unfold kR at hd
 split at hd
 . have:=hv.cW;subst this;simp only[Option.map_eq_some_iff]at hd;obtain⟨k,h1,rfl⟩:=hd;exact⟨_,by rw[Bf,h1];rfl,.v _⟩
 . simp only[Option.map_eq_some_iff]at hd;obtain⟨k,h1,rfl⟩:=hd;cases hv with
   | @ptr b o off ah cs xs h2 h3 h4=>exact⟨_,by rw[Bf,h1];rfl,by rw[Nat.add_assoc];exact .ptr h2 h3 h4⟩
 . cases hd
def kS:Option (Nat×Option Nat)->List DV->Option DV
 |some (o,none),l=>l[o]?
 |some (o,some n),l=>some (.agg ((l.drop o).take n))
 |none,_=>none
theorem F3{ty:TypeId}{cs:List Value}{ds:List DV}{o:Nat}{d:DV}(hr:cw R cs ds)(hd:kS ((e.ld ty).map λl=>(o,l)) ds=some d):∃v,od e ty cs o=some v/\Rel R v d:=by
 unfold Env.ld at hd;unfold od;cases hu:e.under ty with
 |none=>simp[hu,kS]at hd
 |some td=>
  simp only[hu]at hd⊢;cases ha:j7 td with
  |false=>
   simp only[ha,cond_false,Option.map_some,kS]at hd⊢;exact hr.BA hd
  |true=>
   simp only[ha,cond_true]at hd⊢;cases hs:e.size ty with
   |none=>simp[hs,kS]at hd
   |some n=>
    simp only[hs,Option.map_some,kS,Option.some.injEq]at hd⊢;subst hd;exact⟨_,rfl,Rel.dV (wK hr _ _)⟩
def qZ(e:Env)(ty f:Nat):DV->Option DV
 |.agg l=>kS (e.part ty f) l
 |_=>none
theorem RF{ty f:Nat}{v:Value}{d d':DV}(hv:Rel R v d)(hd:qZ e ty f d=some d'):∃v',uB e ty f v=some v'/\Rel R v' d':=by
 unfold qZ at hd
 split at hd
 . obtain⟨a,rfl,hr⟩:=hv.qI;unfold Env.part at hd;unfold uB
   split at hd
   . rename_i fields hu;simp only[hu];cases hf:fields[f]? with
     |none=>simp[hf,kS]at hd
     |some fd=>
      simp only[hf]at hd⊢;refine F3 hr ?_;cases hl:e.ld fd.type with
      |none=>simp[hl,kS]at hd
      |some l=>simpa[hl]using hd
   . simp[kS]at hd
 . cases hd
def gr:DV->Option Int
 |.v (.int _ i)=>some i
 |_=>none
theorem F4{v:Value}{d:DV}{i:Int}(hv:Rel R v d)(hd:gr d=some i):intOf v=some i:=by
 unfold gr at hd
 split at hd
 . have:=hv.cW;subst this;exact hd
 . cases hd
def q9(i:Int)(xs:List (List DV)):Option DV:=if 0<=i then(xs[i.toNat]?).map λr=>.ptr r 0 else none
def iQ(e:Env)(ty:TypeId):DV->Option Int->Option DV
 |.v (.slice (some ⟨b,o,none⟩) len _),some i=>(oA b o len i (e.elem ty)).map .v
 |.v (.pointer (some ⟨b,o,none⟩)),some i=>(oB b o i (e.arr ty)).map .v
 |.sl k xs,some i=>if e.elem ty=some k then q9 i xs else none
 |.ptr xs off,some i=>match e.arr ty with|some (n,s)=>if 0<=i/\i<n then some (.ptr xs (off+i.toNat*s))else none|none=>none
 |_,_=>none
theorem RG{ty:TypeId}{v w:Value}{d c d':DV}(hv:Rel R v d)(hw:Rel R w c)(hd:iQ e ty d (gr c)=some d'):∃v',pS e ty v w=some v'/\Rel R v' d':=by
 cases hi:gr c with
 |none=>rw[hi]at hd;unfold iQ at hd;split at hd<;>simp_all
 |some i=>
  have aR:=F4 hw hi;rw[hi]at hd;have aF:∃k,w=.int k i:=by
   unfold intOf at aR
   split at aR
   . cases aR;exact⟨_,rfl⟩
   . cases aR
  obtain⟨kd,rfl⟩:=aF;unfold iQ at hd
  split at hd
  . rename_i b o len c' i' he;cases he;have:=hv.cW;subst this;simp only[Option.map_eq_some_iff]at hd;obtain⟨u,h1,rfl⟩:=hd;exact⟨u,by rw[Bi,h1],.v _⟩
  . rename_i b o i' he;cases he;have:=hv.cW;subst this;simp only[Option.map_eq_some_iff]at hd;obtain⟨u,h1,rfl⟩:=hd;exact⟨u,by rw[Bj,h1],.v _⟩
  . rename_i s xs i' he;cases he
    split at hd
    . rename_i hs;unfold q9 at hd
      split at hd
      . rename_i h0;simp only[Option.map_eq_some_iff]at hd;obtain⟨r,hr,rfl⟩:=hd;have bb:=(List.getElem?_eq_some_iff.1 hr).1;cases hv with
        |kQ _=>simp at hr
        | @sl b o cp _ ah cs _ h1 h2 h3 h4 h5 h6 h7=>
         refine⟨_,by rw[Bi,hs,uF _ _ _ _ _ h0 (by omega)], ?_⟩;have hm:(i.toNat+1)*s<=xs.length*s:=Nat.mul_le_mul_right _ bb;rw[Nat.add_mul,Nat.one_mul]at hm;have bn:r.length=s:=h5 r (List.mem_of_getElem? hr);have:=Rel.ptr (R:=R) (b:=b) (o:=o+i.toNat*s) (off:=0) (xs:=r) h1 (by rw[bn];omega) λj v d h8 h9=>h7 i.toNat r j v d hr h8 h9;exact this
      . cases hd
    . cases hd
  . rename_i xs off i' he;cases he
    split at hd
    . rename_i n s hs
      split at hd
      . rename_i h0;cases hd;cases hv with
        | @ptr b o _ ah cs _ h2 h3 h4=>exact⟨_,by rw[Bj,hs,dU _ _ _ _ _ h0.1 h0.2],by rw[Nat.add_assoc];exact .ptr h2 h3 h4⟩
      . cases hd
    . cases hd
  . cases hd
def Env.BG(e:Env)(ty:TypeId):Option (Nat×Nat×Option Nat):=
 match e.under ty with
 |some (.array n el)=>match e.size el,e.ld el with|some s,some l=>some (n,s,l)|_,_=>none
 |_=>none
def oG(e:Env)(ty:TypeId):DV->DV->Option DV
 |.agg l,.v (.int _ i)=>match e.BG ty with|some (n,s,ld)=>if 0<=i/\i<n then kS (some (i.toNat*s,ld)) l else none|none=>none
 |.v x,.v y=>(pT e ty x y).map .v
 |_,_=>none
theorem RH{ty:TypeId}{v w:Value}{d c d':DV}(hv:Rel R v d)(hw:Rel R w c)(hd:oG e ty d c=some d'):∃v',pT e ty v w=some v'/\Rel R v' d':=by
 unfold oG at hd
 split at hd
 . rename_i l k i;obtain⟨a,rfl,hr⟩:=hv.qI;have:=hw.cW;subst this
   split at hd
   . rename_i n s ld hp
     split at hd
     . rename_i h0;unfold Env.BG at hp
       split at hp
       . rename_i n' el hu
         split at hp
         . rename_i s' l' h1 h2;cases hp;simp only[pT,hu,h1,h0.1,h0.2,decide_true,Bool.and_self,cond_true];exact F3 hr (by rw[h2];exact hd)
         . cases hp
       . cases hp
     . cases hd
   . cases hd
 . have:=hv.cW;subst this;have:=hw.cW;subst this;simp only[Option.map_eq_some_iff]at hd;obtain⟨u,h1,rfl⟩:=hd;exact⟨u,h1,.v u⟩
 . cases hd
def mC(i:Nat):DV->Option DV
 |.bg l=>l[i]?
 |.v (.tuple vs)=>(vs[i]?).map .v
 |_=>none
theorem RI{i:Nat}{v:Value}{d d':DV}(hv:Rel R v d)(hd:mC i d=some d'):∃v',sK i v=some v'/\Rel R v' d':=by
 unfold mC at hd
 split at hd
 . obtain⟨a,rfl,hr⟩:=hv.BB;obtain⟨u,h1,h2⟩:=hr.BA hd;exact⟨u,by simpa[sK]using h1,h2⟩
 . have:=hv.cW;subst this;simp only[Option.map_eq_some_iff]at hd;obtain⟨u,h1,rfl⟩:=hd;exact⟨u,h1,.v u⟩
 . cases hd
def lD:DV->Option DV
 |.v (.pointer (some a))=>some (.v (.pointer (some a)))
 |.ptr xs off=>some (.ptr xs off)
 |.fn f a c=>some (.fn f a c)
 |_=>none
theorem RJ{v:Value}{d d':DV}(hv:Rel R v d)(hd:lD d=some d'):∃v',sJ v=some v'/\Rel R v' d':=by
 unfold lD at hd
 split at hd
 . have:=hv.cW;subst this;cases hd;exact⟨_,rfl,.v _⟩
 . cases hd;cases hv with
   |ptr h1 h2 h3=>exact⟨_,rfl,.ptr h1 h2 h3⟩
 . cases hd;cases hv with
   |fn h1 h2 h3 h4=>exact⟨_,rfl,.fn h1 h2 h3 h4⟩
 . cases hd
def gK{α:Type}(f:DV->DV->Option α):Option DV->Option DV->Option α
 |some a,some b=>f a b
 |_,_=>none
def jK(e:Env)(op:BinOp)(ty:TypeId)(x y:Operand)(a b:DV):Option DV:=match exact a,exact b with
 |some u,some w=>(cS e op ty x y u w).map .v
 |_,_=>none
theorem RK{op:BinOp}{ty:TypeId}{x y:Operand}{v w:Value}{a b d:DV}(hv:Rel R v a)(hw:Rel R w b)(hd:jK e op ty x y a b=some d):∃u,cS e op ty x y v w=some u/\Rel R u d:=by
 unfold jK at hd
 split at hd
 . rename_i u w' h1 h2;rw[pX hv h1,pX hw h2];simp only[Option.map_eq_some_iff]at hd;obtain⟨r,h3,rfl⟩:=hd;exact⟨r,h3,.v r⟩
 . cases hd
def l7(f:Value->Option Value)(d:DV):Option DV:=match exact d with
 |some v=>(f v).map .v
 |none=>none
theorem BH{f:Value->Option Value}{v:Value}{d d':DV}(hv:Rel R v d)(hd:l7 f d=some d'):∃v',f v=some v'/\Rel R v' d':=by
 unfold l7 at hd
 split at hd
 . rename_i u h1;rw[pX hv h1];simp only[Option.map_eq_some_iff]at hd;obtain⟨r,h3,rfl⟩:=hd;exact⟨r,h3,.v r⟩
 . cases hd
theorem F5{vs:List Value}:∀{ds:List DV} {us:List Value},cw R vs ds->ds.mapM exact=some us->vs=us:=by
 induction vs with
 |nil=>intro ds us h1 h2;cases h1;simp at h2;exact h2.symm
 |cons v vs ih=>
  intro ds us h1 h2;cases h1 with
  |cons h3 h4=>
   simp only[List.mapM_cons,Option.pure_def,Option.bind_eq_bind,Option.bind_eq_some_iff,Option.some.injEq]at h2;obtain⟨u,h5,bG,h6,rfl⟩:=h2;rw[pX h3 h5,ih h4 h6]
def iz(e:Env)(dh:ab)(ty:TypeId):DV->Option DV
 |.sl _ xs=>match e.elem ty with|some _=>some (.v (.int .i64 xs.length))|none=>none
 |.v (.slice a l c)=>match e.elem ty with|some _=>some (.v (.int .i64 l))|none=>none
 |.v (.string s)=>(fU e ⟨.nil,0⟩ ty (.string s)).map .v
 |.v (.map none)=>(fU e ⟨.nil,0⟩ ty (.map none)).map .v
 |.v (.map (some r))=>match e.under ty,dh.get r with|some (.map _ _),some (.map es _)=>some (.v (.int .i64 es.length))|_,_=>none
 |_=>none
theorem RL(x:bM G h dh){ty:TypeId}{v:Value}{d d':DV}(hv:Rel (aI h G) v d)(hd:iz e dh ty d=some d'):∃v',fU e h ty v=some v'/\Rel (aI h G) v' d':=by
 unfold iz at hd
 split at hd
 . split at hd
   . rename_i s hs;cases hd;cases hv with
     |kQ _=>exact⟨_,by rw[yx,hs];rfl,.v _⟩
     |sl h1 h2 h3 h4 h5 h6 h7=>exact⟨_,by rw[yx,hs];rfl,.v _⟩
   . cases hd
 . have:=hv.cW;subst this
   split at hd
   . rename_i s hs;cases hd;exact⟨_,by rw[yx,hs];rfl,.v _⟩
   . cases hd
 . have:=hv.cW;subst this;simp only[Option.map_eq_some_iff]at hd;obtain⟨u,h1,rfl⟩:=hd;refine⟨u, ?_,.v u⟩;rw[<-h1];unfold fU;split<;>first|rfl|contradiction|(simp_all;done)
 . have:=hv.cW;subst this;simp only[Option.map_eq_some_iff]at hd;obtain⟨u,h1,rfl⟩:=hd;refine⟨u, ?_,.v u⟩;rw[<-h1];unfold fU;split<;>first|rfl|contradiction|(simp_all;done)
 . have:=hv.cW;subst this
   split at hd
   . rename_i r k v es clock hu hg;cases hd;obtain⟨_,ao,h1,h2⟩:=x.obj _ _ hg;cases h2 with
     |map h2=>exact⟨_,by simp only[fU,hu,h1,h2.length],.v _⟩
   . cases hd
 . cases hd
def fZ:Option DV->Option (Option Int)
 |none=>some none
 |some d=>(gr d).map some
def dW(i:Option Int)(ae af:Nat):Option Nat:=match i with
 |none=>some af
 |some i=>if 0<=i/\i<=ae then some i.toNat else none
theorem BI{v:Option Value}{d:Option DV}{i:Option Int}(hr:lZ R v d)(hd:fZ d=some i)(ae af:Nat):eC v ae af=dW i ae af:=by
 cases hr with
 |none=>simp only[fZ,Option.some.injEq]at hd;subst hd;rfl
 |some h=>
  simp only[fZ,Option.map_eq_some_iff]at hd;obtain⟨i,h1,rfl⟩:=hd;simp only[eC,F4 h h1,dW];by_cases h0:0<=i<;>by_cases h1:i<=(ae:Int)<;>simp[h0,h1]
def kl(e:Env)(dh:ab)(ty:TypeId)(x:DV)(lo hi mx:Option Int):Option DV:=
 match x,e.elem ty with
 |.sl k xs,some s=>match dW mx xs.length xs.length with
  |some m=>match dW hi m xs.length with
   |some h=>match dW lo h 0 with
    |some l=>if h<=m/\(mx.isNone=true\/hi.isSome=true)/\k=s then some (.sl k ((xs.drop l).take (h-l)))else none
    |none=>none
   |none=>none
  |none=>none
 |.v (.slice none len cap),some _=>match dW mx cap cap with
  |some m=>match dW hi m len with
   |some h=>match dW lo h 0 with
    |some l=>if h<=m/\(mx.isNone=true\/hi.isSome=true)then some (.v (.slice none (h-l) (m-l)))else none
    |none=>none
   |none=>none
  |none=>none
 |.v (.slice (some ⟨b,o,none⟩) len cap),some s=>match dh.get b,dW mx cap cap with
  |some (.row _ _ ah),some m=>match dW hi m len with
   |some h=>match dW lo h 0 with
    |some l=>if h<=m/\(mx.isNone=true\/hi.isSome=true)/\(ah=0\/ah=s)then some (.v (.slice (some ⟨b,o+l*s,none⟩) (h-l) (m-l)))else none
    |none=>none
   |none=>none
  |_,_=>none
 |_,_=>none
def rh:Option DV->Option (Option Value)
 |none=>some none
 |some d=>(exact d).map some
def yM(e:Env)(ty:TypeId)(s:ByteArray)(lo hi mx:Option DV):Option DV:=
 match e.under ty,rh lo,rh hi,rh mx with
 |some .string,some lo,some hi,some mx=>(j8 e ⟨.nil,0⟩ ty (.string s) lo hi mx).map .v
 |_,_,_,_=>none
def dX(e:Env)(dh:ab)(ty:TypeId):Option DV->Option (Option DV)->Option (Option DV)->Option (Option DV)->Option DV
 |some (.v (.string s)),some lo,some hi,some mx=>yM e ty s lo hi mx
 |some x,some lo,some hi,some mx=>match fZ lo,fZ hi,fZ mx with|some lo,some hi,some mx=>kl e dh ty x lo hi mx|_,_,_=>none
 |_,_,_,_=>none
theorem RN{v:Option Value}{d:Option DV}{i:Option Int}(hr:lZ R v d)(hd:fZ d=some i):v.isNone=i.isNone:=by
 cases hr with
 |none=>simp only[fZ,Option.some.injEq]at hd;subst hd;rfl
 |some h=>simp only[fZ,Option.map_eq_some_iff]at hd;obtain⟨i,_,rfl⟩:=hd;rfl
theorem RO{v:Option Value}{d:Option DV}{i:Option Int}(hr:lZ R v d)(hd:fZ d=some i):v.isSome=i.isSome:=by
 cases hr with
 |none=>simp only[fZ,Option.some.injEq]at hd;subst hd;rfl
 |some h=>simp only[fZ,Option.map_eq_some_iff]at hd;obtain⟨i,_,rfl⟩:=hd;rfl
theorem F6{ty s:Nat}(h:e.elem ty=some s):∃el,e.under ty=some (.slice el)/\e.size el=some s:=by
 unfold Env.elem at h
 split at h
 . rename_i el hu;exact⟨el,hu,h⟩
 . cases h
theorem F7{i:Option Int}{m k n:Nat}(h:dW i m k=some n)(hk:k<=m):n<=m:=by
 unfold dW at h
 split at h
 . cases h;exact hk
 . split at h
   . rename_i hc;cases h;omega
   . cases h
theorem F8{ai av:Option Int}{n cap m hh:Nat}(hm:dW ai n n=some m)(ay:dW av m n=some hh)(hle:hh<=m)(hc:n<=cap):∃m',dW ai cap cap=some m'/\hh<=m'/\dW av m' n=some hh:=by
 cases ai with
 |none=>
  simp only[dW,Option.some.injEq]at hm;subst hm;refine⟨cap,rfl,by omega, ?_⟩;cases av with
  |none=>exact ay
  |some i=>
   simp only[dW]at ay⊢
   split at ay
   . rename_i aJ;rw[if_pos ⟨aJ.1,by omega⟩];exact ay
   . cases ay
 |some i=>
  simp only[dW]at hm
  split at hm
  . rename_i aJ;cases hm;exact⟨i.toNat,by simp only[dW];rw[if_pos ⟨aJ.1,by omega⟩],hle,ay⟩
  . cases hm
theorem yN{ty s:Nat}{base:Option Addr}{len cap m hh l:Nat}{lo hi mx:Option Value}(hs:e.elem ty=some s)(q1:eC mx cap cap=some m)(q2:eC hi m len=some hh)(q3:eC lo hh 0=some l)(q4:hh<=m)(q5:(mx.isNone||hi.isSome)=true):
 j8 e h ty (.slice base len cap) lo hi mx=match base with|none=>some (.slice none (hh-l) (m-l))|some a=>bif mZ h a s then some (.slice (some (a.add (l*s))) (hh-l) (m-l))else none:=by
 obtain⟨el,hu,bo⟩:=F6 hs;simp only[j8,hu,bo,q1,q2,Nat.ble_eq_true_of_le q4,q5,Bool.and_self,cond_true,q3];cases base<;>rfl
theorem RP(x:bM G h dh){ty:TypeId}{v:Value}{d d':DV}{lo hi mx:Option Value}{aL aN aO:Option DV}{bc av ai:Option Int}(hv:Rel (aI h G) v d)(r1:lZ (aI h G) lo aL)(r2:lZ (aI h G) hi aN)(r3:lZ (aI h G) mx aO)
 (b1:fZ aL=some bc) (b2:fZ aN=some av) (b3:fZ aO=some ai) (hd:kl e dh ty d bc av ai=some d'):∃v',j8 e h ty v lo hi mx=some v'/\Rel (aI h G) v' d':=by
 have ad:(ai.isNone=true\/av.isSome=true)->(mx.isNone||hi.isSome)=true:=λhc=>by rw[RN r3 b3,RO r2 b2];rcases hc with h|h<;>simp[h]
 have k1:=λm d=>BI r1 b1 m d;have k2:=λm d=>BI r2 b2 m d;have k3:=λm d=>BI r3 b3 m d;unfold kl at hd
 split at hd
 . rename_i k xs s hs
   split at hd
   . rename_i m hm
     split at hd
     . rename_i hh az
       split at hd
       . rename_i l hl
         split at hd
         . rename_i hc;cases hd;obtain⟨bf,bj,rfl⟩:=hc;have aS:m<=xs.length:=F7 hm (Nat.le_refl _);have bq:l<=hh:=F7 hl (Nat.zero_le _);cases hv with
           | @kQ c _ hk=>
            obtain⟨m',q1,q2,q3⟩:=F8 hm az bf (cap:=c) (Nat.zero_le _);have hz:hh-l=0:=by simp at aS;omega
            refine⟨_,yN hs ((k3 _ _).trans q1) ((k2 _ _).trans q3) ((k1 _ _).trans hl) q2 (ad bj), ?_⟩;simp only[hz,List.drop_nil,List.take_nil];exact .kQ hk
           | @sl b o c _ ah cs _ h1 h2 h3 h4 h5 h6 h7=>
            obtain⟨m',q1,q2,q3⟩:=F8 hm az bf h4;obtain⟨_,wr,hg⟩:=qX h1;have aU:mZ h ⟨b,o,none⟩ k=true:=by
             rcases h2 with h2|h2<;>simp[mZ,hg,h2]
            refine⟨_,by rw[yN hs ((k3 _ _).trans q1) ((k2 _ _).trans q3) ((k1 _ _).trans hl) q2 (ad bj)];simp only[aU,cond_true];rfl, ?_⟩;rw[sR];have hlen:((xs.drop l).take (hh-l)).length=hh-l:=by rw[List.length_take,List.length_drop];omega
            have hmul:(l+(hh-l))*k<=xs.length*k:=Nat.mul_le_mul_right _ (by omega);rw[Nat.add_mul]at hmul;have:=Rel.sl (R:=aI h G) (b:=b) (o:=o+l*k) (c:=m'-l) (xs:=(xs.drop l).take (hh-l)) h1 h2 h3 (by rw[hlen];omega) (λy hy=>h5 y (List.mem_of_mem_drop (List.mem_of_mem_take hy))) (by rw[hlen];omega) λj y i v d e1 e2 e3=>by
             rw[List.getElem?_take]at e1
             split at e1
             . rw[List.getElem?_drop]at e1;refine h7 (l+j) y i v d e1 e2 ?_;rw[<-e3];congr 1;rw[Nat.add_mul];omega
             . cases e1
            rwa[hlen]at this
         . cases hd
       . cases hd
     . cases hd
   . cases hd
 . rename_i len cap s hs;have:=hv.cW;subst this
   split at hd
   . rename_i m hm
     split at hd
     . rename_i hh az
       split at hd
       . rename_i l hl
         split at hd
         . rename_i hc;cases hd;exact⟨_,yN hs ((k3 _ _).trans hm) ((k2 _ _).trans az) ((k1 _ _).trans hl) hc.1 (ad hc.2),.v _⟩
         . cases hd
       . cases hd
     . cases hd
   . cases hd
 . rename_i b o len cap s hs;have:=hv.cW;subst this
   split at hd
   . rename_i cs wr ah m hg hm
     split at hd
     . rename_i hh az
       split at hd
       . rename_i l hl
         split at hd
         . rename_i hc;cases hd;obtain⟨_,ao,g1,g2⟩:=x.obj _ _ hg;cases g2 with
           |row g2=>
            have aU:mZ h ⟨b,o,none⟩ s=true:=by
             rcases hc.2.2 with h2|h2<;>simp[mZ,g1,h2]
            refine⟨_,by rw[yN hs ((k3 _ _).trans hm) ((k2 _ _).trans az) ((k1 _ _).trans hl) hc.1 (ad hc.2.1)];simp only[aU,cond_true,sR],.v _⟩
         . cases hd
       . cases hd
     . cases hd
   . cases hd
 . cases hd
theorem BJ{v:Option Value}{d:Option DV}{u:Option Value}(hr:lZ R v d)(hd:rh d=some u):v=u:=by
 cases hr with
 |none=>simpa[rh]using hd
 |some h=>
  simp only[rh,Option.map_eq_some_iff]at hd;obtain⟨w,h1,rfl⟩:=hd;rw[pX h h1]
theorem RR(x:bM G h dh){ty:TypeId}{v:Option Value}{dv:Option DV}{lo hi mx:Option (Option Value)}{aL aN aO:Option (Option DV)}{d':DV}(hv:∀d,dv=some d->∃u,v=some u/\Rel (aI h G) u d)
 (r1:∀d,aL=some d->∃u,lo=some u/\lZ (aI h G) u d) (r2:∀d,aN=some d->∃u,hi=some u/\lZ (aI h G) u d) (r3:∀d,aO=some d->∃u,mx=some u/\lZ (aI h G) u d)
 (hd:dX e dh ty dv aL aN aO=some d'):∃v',uC e h ty v lo hi mx=some v'/\Rel (aI h G) v' d':=by
 unfold dX at hd
 split at hd
 . rename_i s bs aJ bt;obtain⟨u,rfl,h1⟩:=hv _ rfl;obtain⟨u1,rfl,g1⟩:=r1 _ rfl;obtain⟨u2,rfl,g2⟩:=r2 _ rfl;obtain⟨u3,rfl,g3⟩:=r3 _ rfl;have:=h1.cW;subst this;unfold yM at hd
   split at hd
   . rename_i a b c hu e1 e2 e3;rw[BJ g1 e1,BJ g2 e2,BJ g3 e3];simp only[Option.map_eq_some_iff]at hd;obtain⟨w,h3,rfl⟩:=hd;refine⟨w, ?_,.v w⟩;rw[<-h3];simp only[uC,j8,hu]
   . cases hd
 . rename_i x' bs aJ bt _;obtain⟨u,rfl,h1⟩:=hv _ rfl;obtain⟨u1,rfl,g1⟩:=r1 _ rfl;obtain⟨u2,rfl,g2⟩:=r2 _ rfl;obtain⟨u3,rfl,g3⟩:=r3 _ rfl
   split at hd
   . rename_i e1 e2 e3;exact RP x h1 g1 g2 g3 e1 e2 e3 hd
   . cases hd
 . cases hd
def findD(P:Program)(kt:TypeId)(k:Value):List bA->Option (Option DV)
 |[]=>some none
 |x::es=>match kI P kt k x.key with
  |none=>none
  |some true=>some (some x.val)
  |some false=>findD P kt k es
theorem BK{P:Program}{kt:TypeId}{k:Value}:∀{es:List MapEntry} {ds:List bA} {r:Option DV} (i:Nat),aP (ji R) es ds->findD P kt k ds=some r->∃r',gB P kt k es i=some r'/\(match r,r' with|none,none=>True|some d,some (_,v)=>Rel R v d|_,_=>False)
 |[],[],r,i,.nil,h=>by simp only[findD,Option.some.injEq]at h;subst h;exact⟨none,rfl,trivial⟩
 |x::es,y::ds,r,i,.cons h1 h2,h=>by
  simp only[findD]at h;simp only[gB,h1.key]
  split at h
  . cases h
  . rename_i hk;cases h;exact⟨_,by rw[hk],h1.val⟩
  . rename_i hk;simp only[hk];exact BK (i+1) h2 h
def l8(e:Env)(ty:TypeId)(ok:Bool)(k:Value)(es:List bA):Option DV:=
 match e.under ty with
 |some (.map kt et)=>match e.under kt with
  |none=>none
  |some kd=>if plain k=true/\oe kd k=true/\(bY e.P (Instr.checkKey es.isEmpty 10000 kt k)).isSome=true then match findD e.P kt k es with
   |none=>none
   |some (some d)=>some (bif ok then .bg [d,.v (.bool true)]else d)
   |some none=>match e.zero et with
    |none=>none
    |some z=>if plain z=true then some (bif ok then .bg [fX z,.v (.bool false)]else fX z)else none
   else none
 |_=>none
def lF(e:Env)(dh:ab)(ty:TypeId)(ok:Bool)(m k:DV):Option DV:=
 match m,exact k with
 |.v (.map none),some k=>l8 e ty ok k []
 |.v (.map (some r)),some k=>match dh.get r with|some (.map es _)=>l8 e ty ok k es|_=>none
 |_,_=>none
theorem lookup_nil(ty:TypeId)(ok:Bool)(k:Value):oz e h ty ok (.map none) k=np e ty ok k (some (.map [] 0)):=by
 simp only[oz,qC,np];cases hu:e.under ty with
 |none=>rfl
 |some d=>cases d<;>rfl
theorem F9{ty:TypeId}{ok:Bool}{k:Value}{es:List MapEntry}{ds:List bA}{d:DV}{clock:Nat}(hr:aP (ji R) es ds)(hd:l8 e ty ok k ds=some d):
 ∃v,np e ty ok k (some (.map es clock))=some v/\Rel R v d:=by
 unfold l8 at hd
 split at hd
 . rename_i kt et hu
   split at hd
   . cases hd
   . rename_i kd hk
     split at hd
     . rename_i hc;obtain⟨c1,c2,c3⟩:=hc;have aX:ds.isEmpty=es.isEmpty:=by cases hr<;>rfl
       rw[aX]at c3;obtain⟨u,bu⟩:=Option.isSome_iff_exists.1 c3;simp only[np,hu,hk,c1,c2,Bool.and_self,cond_true,bu]
       split at hd
       . cases hd
       . rename_i d' hf;obtain⟨r',h1,h2⟩:=BK 0 hr hf;cases r' with
         |none=>exact h2.elim
         |some p=>
          obtain⟨i,v⟩:=p;simp only[h1];cases hd;cases ok with
          |true=>exact⟨_,rfl,Rel.ki (a:=[v,.bool true]) (.cons h2 (.cons (.v _) .nil))⟩
          |false=>exact⟨_,rfl,h2⟩
       . rename_i hf;obtain⟨r',h1,h2⟩:=BK 0 hr hf;cases r' with
         |some p=>exact h2.elim
         |none=>
          simp only[h1]
          split at hd
          . cases hd
          . rename_i z hz
            split at hd
            . rename_i hp;cases hd;simp only[hz,hp,cond_true];cases ok with
              |true=>exact⟨_,rfl,Rel.ki (a:=[z,.bool false]) (.cons (uK z) (.cons (.v _) .nil))⟩
              |false=>exact⟨_,rfl,uK z⟩
            . cases hd
     . cases hd
 . cases hd
theorem RT(x:bM G h dh){ty:TypeId}{ok:Bool}{v w:Value}{m k d:DV}(hv:Rel (aI h G) v m)(hw:Rel (aI h G) w k)(hd:lF e dh ty ok m k=some d):∃u,oz e h ty ok v w=some u/\Rel (aI h G) u d:=by
 unfold lF at hd
 split at hd
 . rename_i k' hk;have:=hv.cW;subst this;rw[pX hw hk];rw[lookup_nil];exact F9 .nil hd
 . rename_i r k' hk;have:=hv.cW;subst this;rw[pX hw hk]
   split at hd
   . rename_i es clock hg;obtain⟨_,ao,g1,g2⟩:=x.obj _ _ hg;cases g2 with
     | @map bH _ _ g2=>rw[yE,g1];exact F9 g2 hd
   . cases hd
 . cases hd
def ko(place:Nat->Option (Nat×Nat)):List DV->List (Nat×DV)->Option (List DV)
 |cells,[]=>some cells
 |cells,(i,v)::rest=>match place i with
  |none=>none
  |some (off,size)=>if(cE v).length=size/\off+size<=cells.length/\(cE v).all di=true then ko place (cells.take off++cE v++cells.drop (off+(cE v).length)) rest else none
theorem BL{d:DV}(h:(cE d).all di=true):∀u,d=.v u->dL u=true:=λu hu=>by subst hu;simpa[cE,di]using h
theorem yO{place:Nat->Option (Nat×Nat)}:∀{ps:List (Nat×Value)} {aD:List (Nat×DV)} {cs:List Value} {ds r:List DV},aP (BD R) ps aD->cw R cs ds->ko place ds aD=some r->∃cs',jg place cs ps=some cs'/\cw R cs' r
 |[],[],cs,ds,r,.nil,h1,h=>by simp only[ko,Option.some.injEq]at h;subst h;exact⟨cs,rfl,h1⟩
 |(i,v)::ps,(j,d)::aD,cs,ds,r,.cons ⟨h2,h3⟩ h4,h1,h=>by
  simp only at h2 h3;subst h2;simp only[ko]at h;simp only[jg]
  split at h
  . cases h
  . rename_i off size hp;simp only[hp]
    split at h
    . rename_i hc;have aY:=BC h3 (BL hc.2.2);have e1:v.cells.toList.length=size:=by rw[aY.length];exact hc.1
      have e2:off+size<=cs.length:=by rw[h1.length];exact hc.2.1
      simp only[e1,Nat.beq_refl,Nat.ble_eq_true_of_le e2,Bool.and_self,cond_true];refine yO h4 ?_ h;unfold eo;rw[aY.length];exact(aP.append (aP.append (aP.take h1 _) aY) (aP.drop h1 _))
    . cases h
def eV(e:Env)(ty:TypeId)(ps:List (Nat×DV)):Option DV:=
 match e.zero ty,e.under ty with
 |some z,some (.struct fields)=>(ko (kH e fields) (z.cells.toList.map .v) ps).map .agg
 |some z,some (.array _ elem)=>match e.size elem with
  |none=>none
  |some s=>(ko (λi=>some (i*s,s)) (z.cells.toList.map .v) ps).map .agg
 |_,_=>none
theorem RU{ty:TypeId}{ps:List (Nat×Value)}{aD:List (Nat×DV)}{d:DV}(hp:aP (BD R) ps aD)(hd:eV e ty aD=some d):∃v,qB e ty ps=some v/\Rel R v d:=by
 unfold eV at hd;unfold qB
 split at hd
 . rename_i z fields hz hu;simp only[hz,hu];simp only[Option.map_eq_some_iff]at hd;obtain⟨r,h1,rfl⟩:=hd;obtain⟨cs,h2,h3⟩:=yO hp (uJ _) h1;exact⟨_,by rw[h2],Rel.dV h3⟩
 . rename_i z n elem hz hu;simp only[hz,hu]
   split at hd
   . cases hd
   . rename_i s hs;simp only[hs];simp only[Option.map_eq_some_iff]at hd;obtain⟨r,h1,rfl⟩:=hd;obtain⟨cs,h2,h3⟩:=yO hp (uJ _) h1;exact⟨_,by rw[h2],Rel.dV h3⟩
 . cases hd
def gu(dh:ab)(sz:Nat):DV->Option (Nat×List DV)
 |.sl k xs=>if k=sz then some (xs.length,xs.flatten)else none
 |.v (.slice none n _)=>if n=0 then some (0,[])else none
 |.v (.slice (some ⟨b,o,none⟩) n _)=>match dh.get b with|some (.row cs _ _)=>if o+n*sz<=cs.length then some (n,(cs.drop o).take (n*sz))else none|_=>none
 |_=>none
theorem Ga{cs:List Value}{k:Nat}:∀{xs:List (List DV)} {o:Nat},(∀x∈xs,x.length=k)->o+xs.length*k<=cs.length->(∀(j:Nat) (x:List DV) (i:Nat) (v:Value) (d:DV),xs[j]? =some x->x[i]? =some d->cs[o+j*k+i]? =some v->Rel R v d)->cw R ((cs.drop o).take (xs.length*k)) xs.flatten
 |[],o,_,_,_=>by simp only[List.length_nil,Nat.zero_mul,List.take_zero,List.flatten_nil];exact .nil
 |x::xs,o,h1,h2,h3=>by
  have hx:x.length=k:=h1 x (by simp);simp only[List.length_cons,Nat.add_mul,Nat.one_mul]at h2⊢;have e1:(cs.drop o).take (xs.length*k+k)=(cs.drop o).take k++(cs.drop (o+k)).take (xs.length*k):=by
   rw[Nat.add_comm,List.take_add,List.drop_drop]
  rw[e1,List.flatten_cons];refine aP.append (qW (by rw[List.length_take,List.length_drop,hx];omega) λi v d h4 h5=> ?_) (Ga (λy hy=>h1 y (List.mem_cons_of_mem _ hy)) (by omega) λj y i v d h4 h5 h6=>h3 (j+1) y i v d (by simpa using h4) h5 (by rw[<-h6];congr 1;rw[Nat.add_mul];omega));rw[List.getElem?_take]at h4
  split at h4
  . rw[List.getElem?_drop]at h4;exact h3 0 x i v d rfl h5 (by rw[<-h4];congr 1;omega)
  . cases h4
theorem Gb(x:bM G h dh){sz n:Nat}{v:Value}{d:DV}{cs:List DV}(hv:Rel (aI h G) v d)(hd:gu dh sz d=some (n,cs)):∃xb xc new,v=.slice xb n xc/\iK h sz n v=some new/\cw (aI h G) new cs/\new.length=n*sz:=by
 unfold gu at hd
 split at hd
 . rename_i k xs
   split at hd
   . rename_i hk;subst hk;simp only[Option.some.injEq,Prod.mk.injEq]at hd;obtain⟨rfl,rfl⟩:=hd;cases hv with
     |kQ _=>exact⟨_,_,[],rfl,rfl,.nil,by simp⟩
     | @sl b o c _ ah aQ _ h1 h2 h3 h4 h5 h6 h7=>
      obtain⟨_,wr,hg⟩:=qX h1;have hl:((aQ.drop o).take (xs.length*k)).length=xs.length*k:=by rw[List.length_take,List.length_drop];omega
      exact⟨_,_,(aQ.drop o).take (xs.length*k),rfl,by simp only[iK,gm,hg,hl,Nat.beq_refl,cond_true],Ga h5 h6 h7,hl⟩
   . cases hd
 . split at hd
   . rename_i hn;simp only[Option.some.injEq,Prod.mk.injEq]at hd;obtain⟨rfl,rfl⟩:=hd;have:=hv.cW;subst this;subst hn;exact⟨_,_,[],rfl,rfl,.nil,by simp⟩
   . cases hd
 . rename_i b o m c
   split at hd
   . rename_i bI wr ah hg
     split at hd
     . rename_i hl;simp only[Option.some.injEq,Prod.mk.injEq]at hd;obtain⟨rfl,rfl⟩:=hd;have:=hv.cW;subst this;obtain⟨_,ao,g1,g2⟩:=x.obj _ _ hg;cases g2 with
       | @row aQ _ _ _ g2=>
        have bk:((aQ.drop o).take (m*sz)).length=m*sz:=by rw[List.length_take,List.length_drop,g2.length];omega
        exact⟨_,_,(aQ.drop o).take (m*sz),rfl,by simp only[iK,gm,g1,bk,Nat.beq_refl,cond_true],wK g2 _ _,bk⟩
     . cases hd
   . cases hd
 . cases hd
def l9:List DV->Option (List Int)
 |[]=>some []
 |.v (.int .u8 n)::r=>(l9 r).map (n::·)
 |_=>none
theorem Gc:∀{cs:List Value} {ds:List DV} {ns:List Int},cw R cs ds->l9 ds=some ns->si cs=some ns
 |[],_,ns,.nil,h=>by simp only[l9,Option.some.injEq]at h;subst h;rfl
 |c::cs,d::ds,ns,.cons h1 h2,h=>by
  match d,h1,h with
  |.v (.int .u8 n),h1,h=>
   simp only[l9,Option.map_eq_some_iff]at h;obtain⟨r,h3,rfl⟩:=h;have:=h1.cW;subst this;simp only[si,Gc h2 h3,Option.map_some]
def Env.mD(e:Env)(s d:TypeId):Bool:=match e.under s,e.under d with
 |some (.slice el),some .string=>match e.under el with|some (.int .u8)=>true|_=>false
 |_,_=>false
def sY(e:Env)(s d:TypeId)(a:Value):Option Value:=bif plain a then e9 e.P (convert s d a)else none
def sZ:Option (Nat×List DV)->Option DV
 |some (n+1,cs)=>(l9 cs).map λns=>.v (.string (strOf ns))
 |_=>none
def nr(e:Env)(dh:ab)(s d:TypeId)(x:DV):Option DV:=match e.mD s d with
 |true=>sZ (gu dh 1 x)
 |false=>l7 (sY e s d) x
theorem RV(x:bM G h dh){s d:TypeId}{v:Value}{c c':DV}(hv:Rel (aI h G) v c)(hd:nr e dh s d c=some c'):∃v',pR e h s d v=some v'/\Rel (aI h G) v' c':=by
 unfold nr at hd
 split at hd
 . rename_i hb;unfold Env.mD at hb
   split at hb
   . rename_i el hu bw
     split at hb
     . rename_i bx;unfold sZ at hd
       split at hd
       . rename_i n cs aZ;simp only[Option.map_eq_some_iff]at hd;obtain⟨ns,h1,rfl⟩:=hd;obtain⟨xb,xc,new,rfl,q1,q2,q3⟩:=Gb x hv aZ;cases xb with
         |none=>
          simp only[iK,Option.some.injEq]at q1;subst q1;simp at q3
         |some a=>
          simp only[iK,Nat.mul_one]at q1;refine⟨.string (strOf ns), ?_,.v _⟩;have:plain (.slice (some a) (n+1) xc)=false:=rfl;simp only[pR,this,cond_false,pB,hu,bw,bx,q1,Gc q2 h1,Option.map_some]
       . cases hd
     . cases hb
   . cases hb
 . refine BH (f:=pR e h s d) hv ?_;unfold l7 at hd⊢
   split at hd
   . rename_i u hu;simp only[Option.map_eq_some_iff]at hd;obtain⟨w,h1,rfl⟩:=hd;unfold sY at h1;obtain⟨hp,h1⟩:=ca h1;simp only[pR,hp,cond_true,h1,Option.map_some]
   . cases hd
def ri(c:Option DV)(a b:Option DV):Option DV:=match c with
 |some (.v (.bool true))=>a
 |some (.v (.bool false))=>b
 |_=>none
def oH(f:FuncId):Option (List DV)->Option (List DV)->Option DV
 |some a,some b=>some (.fn f a b)
 |_,_=>none
def pY(e:Env)(dh:ab)(bB:Array TypeId):Option (List DV)->Option DV
 |some [x]=>match bB[0]? with|none=>none|some ty=>iz e dh ty x
 |_=>none
def rj(l:List DV):Option (List Value):=l.mapM exact
def aT(e:Env)(dh:ab)(t:Tr DV):Op->Option DV
 |.move x|.assign x=>aB e t x
 |.pick c a b=>ri (aB e t c) (aB e t a) (aB e t b)
 |.build ty parts=>(fY e t parts.toList).bind (eV e ty)
 |.load ty a=>(aB e t a).bind (jl e dh ty)
 |.nilCheck x=>(aB e t x).bind lD
 |.binOp op ty x y _=>gK (jK e op ty x y) (aB e t x) (aB e t y)
 |.unOp op _ x=>(aB e t x).bind (l7 (oy e op))
 |.convert s d x=>(aB e t x).bind (nr e dh s d)
 |.makeInterface ty x=>(aB e t x).bind (l7 (wz e ty))
 |.makeFunc (.func f) first cap=>oH f (cO e t first.toList) (cO e t cap.toList)
 |.slice ty x lo hi mx=>dX e dh ty (aB e t x) (eM e t lo) (eM e t hi) (eM e t mx)
 |.fieldAddr s x f=>(aB e t x).bind (kR e s f)
 |.field ty x f=>(aB e t x).bind (qZ e ty f)
 |.indexAddr ty x ix=>gK (λa b=>iQ e ty a (gr b)) (aB e t x) (aB e t ix)
 |.index ty x ix=>gK (oG e ty) (aB e t x) (aB e t ix)
 |.lookup ty m k ok=>gK (lF e dh ty ok) (aB e t m) (aB e t k)
 |.extract x i=>(aB e t x).bind (mC i)
 |.call c=>match c.callee with
  |.builtin .len=>pY e dh c.argTypes (cO e t c.args.toList)
  |.builtin .min=>((cO e t c.args.toList).bind rj).bind λl=>(qO e l).map .v
  |.builtin .max=>((cO e t c.args.toList).bind rj).bind λl=>(sM e l).map .v
  |_=>none
 |_=>none
theorem rk{f:DV->Option DV}{g:Value->Option Value}(ht:TD R t dt){o:Operand}{d:DV}(hf:∀v d,Rel R v d->∀d',f d=some d'->∃v',g v=some v'/\Rel R v' d')(hd:(aB e dt o).bind f=some d):∃v,(au e t o).bind g=some v/\Rel R v d:=by
 obtain⟨x,h1,h2⟩:=Option.bind_eq_some_iff.1 hd;obtain⟨v,h3,h4⟩:=fx ht h1;rw[h3];exact hf v x h4 d h2
theorem yP{f:DV->DV->Option DV}{g:Value->Value->Option Value}(ht:TD R t dt){o p:Operand}{d:DV}(hf:∀v w d c,Rel R v d->Rel R w c->∀d',f d c=some d'->∃v',g v w=some v'/\Rel R v' d')(hd:gK f (aB e dt o) (aB e dt p)=some d):∃v,gH g (au e t o) (au e t p)=some v/\Rel R v d:=by
 unfold gK at hd
 split at hd
 . rename_i x y hx hy;obtain⟨v,h3,h4⟩:=fx ht hx;obtain⟨w,h5,h6⟩:=fx ht hy;rw[h3,h5];exact hf v w x y h4 h6 d hd
 . cases hd
theorem yQ(x:bM G h dh)(ht:TD (aI h G) t dt){op:Op}{d:DV}(hd:aT e dh dt op=some d):∃v,bD e h t op=some v/\Rel (aI h G) v d:=by
 cases op with
 |move o=>exact fx ht hd
 |assign o=>exact fx ht hd
 |pick c a b=>
  simp only[aT,ri]at hd;simp only[bD,sL]
  split at hd
  . rename_i hc;obtain⟨v,h1,h2⟩:=fx ht hc;have:=h2.cW;subst this;simp only[h1];exact fx ht hd
  . rename_i hc;obtain⟨v,h1,h2⟩:=fx ht hc;have:=h2.cW;subst this;simp only[h1];exact fx ht hd
  . cases hd
 |build ty parts=>
  obtain⟨ps,h1,h2⟩:=Option.bind_eq_some_iff.1 hd;obtain⟨vs,h3,h4⟩:=BE ht h1;obtain⟨v,h5,h6⟩:=RU h4 h2;exact⟨v,by simp only[bD,nn,h3,h5],h6⟩
 |load ty a=>exact rk ht (λv d hv d' h'=>F2 x hv h') hd
 |nilCheck o=>exact rk ht (λv d hv d' h'=>RJ hv h') hd
 |binOp op ty a b z=>exact yP ht (λv w d c hv hw d' h'=>RK hv hw h') hd
 |unOp op z o=>exact rk ht (λv d hv d' h'=>BH hv h') hd
 |convert s dd o=>exact rk ht (λv d hv d' h'=>RV x hv h') hd
 |makeInterface ty o=>exact rk ht (λv d hv d' h'=>BH hv h') hd
 |makeFunc fn first cap=>
  cases fn with
  |func f=>
   simp only[aT,oH]at hd
   split at hd
   . rename_i a b h1 h2;cases hd;obtain⟨vs,h3,h4⟩:=oF ht h1;obtain⟨ws,h5,h6⟩:=oF ht h2;exact⟨_,by simp only[bD,wA,h3,h5],Rel.Ry h4 h6⟩
   . cases hd
  |_=>simp[aT]at hd
 |slice ty o lo hi mx=>
  exact RR x (λd h'=>fx ht h') (λd h'=>BF ht h') (λd h'=>BF ht h') (λd h'=>BF ht h') hd
 |fieldAddr s o f=>exact rk ht (λv d hv d' h'=>RE hv h') hd
 |field ty o f=>exact rk ht (λv d hv d' h'=>RF hv h') hd
 |indexAddr ty a b=>exact yP ht (λv w d c hv hw d' h'=>RG hv hw h') hd
 |index ty a b=>exact yP ht (λv w d c hv hw d' h'=>RH hv hw h') hd
 |lookup ty a b ok=>exact yP ht (λv w d c hv hw d' h'=>RT x hv hw h') hd
 |extract o i=>exact rk ht (λv d hv d' h'=>RI hv h') hd
 |call c=>
  simp only[aT]at hd;simp only[bD]
  split at hd
  . rename_i hc;simp only[hc];unfold pY at hd
    split at hd
    . rename_i y hy;obtain⟨vs,h1,h2⟩:=oF ht hy;cases h2 with
      | @cons v _ _ _ h2 h3=>
       cases h3;simp only[h1,wB]
       split at hd
       . cases hd
       . rename_i ty bF;simp only[bF];exact RL x h2 hd
    . cases hd
  . rename_i hc;simp only[hc];obtain⟨us,h1,h2⟩:=Option.bind_eq_some_iff.1 hd;obtain⟨ds,h3,h4⟩:=Option.bind_eq_some_iff.1 h1;obtain⟨vs,h5,h6⟩:=oF ht h3;simp only[Option.map_eq_some_iff]at h2;obtain⟨r,h7,rfl⟩:=h2;refine⟨r, ?_,.v r⟩;rw[h5,F5 h6 h4];exact h7
  . rename_i hc;simp only[hc];obtain⟨us,h1,h2⟩:=Option.bind_eq_some_iff.1 hd;obtain⟨ds,h3,h4⟩:=Option.bind_eq_some_iff.1 h1;obtain⟨vs,h5,h6⟩:=oF ht h3;simp only[Option.map_eq_some_iff]at h2;obtain⟨r,h7,rfl⟩:=h2;refine⟨r, ?_,.v r⟩;rw[h5,F5 h6 h4];exact h7
  . cases hd
 |_=>simp[aT]at hd
end Go.aw
end

/- SpacingIndependent: parts of its proof. -/
import Derived.Test.YtmhjnafgdhaemaaGreatDoorK11
open Option renaming map_eq_some_iff->qe,bind_eq_some_iff->DE,map_some->PO
open Option.some renaming injEq->xS
open List renaming length_take->Er,length_drop->GP,getElem?_take->VK,getElem?_drop->W2,getElem?_eq_some_iff->Xw,getElem?_eq_getElem->Zj
open Nat renaming add_mul->PX,beq_refl->Qc,mul_le_mul_right->Zr,ble_eq_true_of_le->ZJ
open Bool renaming and_self->TF
open Prod.mk renaming injEq->W9
set_option linter.all false
set_option maxRecDepth 100000
noncomputable section
namespace Go.au
variable {e:Env} {G:Nat->Prop} {h:aa} {dh:ab} {t:Tr Value} {dt:Tr DV} {R:Rows}
structure TD(R:Rows)(t:Tr Value)(dt:Tr DV):Prop where
 tb:oG R
 all:∀i v,dt.get i=some v->∃u,t.get i=some u/\Rel R u v
instance {R:Rows} {t:Tr Value} {dt:Tr DV}:CoeFun (TD R t dt) (λ_=>∀i v,dt.get i=some v->∃u,t.get i=some u/\Rel R u v):=⟨TD.all⟩
theorem SD.td{G:Nat->Prop}{s:aE}{d:DS}(q:SD G s d):TD (aI s.h G) s.t d.t:=⟨q.h.eU,q.t⟩
def fu:Value->DV
 |.agg cs=>.agg (cs.toList.map .v)
 |v=>.v v
theorem sO(l:List Value):b8 R l (l.map .v):=pR (by simp) λi v d h1 h2=>by
 rw[List.getElem?_map,h1]at h2;cases h2;exact .v v
theorem sP(v:Value):Rel R v (fu v):=by
 cases v with
 |agg cs=>
  have:b8 R cs.toList (cs.toList.map .v):=sO _;exact .agg this.length λi v d h1 h2=>this.ru h1 h2
 |_=>exact .v _
def aB(e:Env)(t:Tr DV):Operand->Option DV
 |.tmp i=>t.get i
 |.const v=>bif plain v then some (fu v)else none
 |.global g=>bif Nat.blt g e.n8 then(if g=0 then some (.ptr pT 0)else none)else none
 |.func f=>some (.fn f [] [])
theorem eP(ht:TD R t dt){o:Operand}{d:DV}(hd:aB e dt o=some d):∃v,aw e t o=some v/\Rel R v d:=by
 cases o with
 |tmp i=>exact ht i d hd
 |const v=>
  simp only[aB]at hd;obtain⟨hp,hd⟩:=bU hd;cases hd;exact⟨v,by simp[aw,hp],sP v⟩
 |global g=>
  simp only[aB]at hd;obtain⟨hp,hd⟩:=bU hd;by_cases hg:g=0
  . rw[if_pos hg]at hd;simp only[xS]at hd;subst hd;exact⟨.pointer (some ⟨g,0,none⟩),by simp only[aw,hp,cond_true],by rw[hg];exact ht.tb.rel⟩
  . rw[if_neg hg]at hd;cases hd
 |func f=>
  simp only[aB,xS]at hd;subst hd;exact⟨_,rfl,.fn rfl (λi v d h1 _=>by simp at h1) rfl (λi v d h1 _=>by simp at h1)⟩
def cz(e:Env)(t:Tr DV):List Operand->Option (List DV)
 |[]=>some []
 |o::r=>match aB e t o with
  |none=>none
  |some v=>(cz e t r).map (v::·)
theorem nA(ht:TD R t dt):∀{l:List Operand} {ds:List DV},cz e dt l=some ds->∃vs,cR e t l=some vs/\b8 R vs ds
 |[],ds,h=>by simp only[cz,xS]at h;subst h;exact⟨[],rfl,.nil⟩
 |o::r,ds,h=>by
  simp only[cz]at h
  split at h
  . cases h
  . rename_i d hd;simp only[qe]at h;obtain⟨bg,h1,rfl⟩:=h;obtain⟨v,h2,h3⟩:=eP ht hd;obtain⟨vs,h4,h5⟩:=nA ht h1;exact⟨v::vs,by simp only[cR,h2,h4],.cons h3 h5⟩
def fw(e:Env)(t:Tr DV):List (Nat×Operand)->Option (List (Nat×DV))
 |[]=>some []
 |(i,o)::r=>match aB e t o with
  |none=>none
  |some v=>(fw e t r).map ((i,v)::·)
def zW(R:Rows)(x:Nat×Value)(y:Nat×DV):Prop:=x.1=y.1/\Rel R x.2 y.2
theorem zX(ht:TD R t dt):∀{l:List (Nat×Operand)} {ds:List (Nat×DV)},fw e dt l=some ds->∃vs,eY e t l=some vs/\aO (zW R) vs ds
 |[],ds,h=>by simp only[fw,xS]at h;subst h;exact⟨[],rfl,.nil⟩
 |(i,o)::r,ds,h=>by
  simp only[fw]at h
  split at h
  . cases h
  . rename_i d hd;simp only[qe]at h;obtain⟨bg,h1,rfl⟩:=h;obtain⟨v,h2,h3⟩:=eP ht hd;obtain⟨vs,h4,h5⟩:=zX ht h1;exact⟨(i,v)::vs,by simp only[eY,h2,h4],.cons ⟨rfl,h3⟩ h5⟩
def eh(e:Env)(t:Tr DV):Option Operand->Option (Option DV)
 |none=>some none
 |some o=>(aB e t o).map some
inductive kU(R:Rows):Option Value->Option DV->Prop
 |none:kU R none none
 |some {v:Value} {d:DV}:Rel R v d->kU R (some v) (some d)
theorem zY(ht:TD R t dt){o:Option Operand}{d:Option DV}(hd:eh e dt o=some d):∃v,hY e t o=some v/\kU R v d:=by
 cases o with
 |none=>simp only[eh,xS]at hd;subst hd;exact⟨none,rfl,.none⟩
 |some o=>
  simp only[eh,qe]at hd;obtain⟨d,h1,rfl⟩:=hd;obtain⟨v,h2,h3⟩:=eP ht h1;exact⟨some v,by simp[hY,h2],.some h3⟩
theorem uM{cs:List Value}{ds:List DV}(h:b8 R cs ds)(o n:Nat):b8 R ((cs.drop o).take n) ((ds.drop o).take n):=(aO.drop h o).take n
def eQ:Option (Option Nat)->List DV->Nat->Option DV
 |some none,cs,o=>cs[o]?
 |some (some (n+1)),cs,o=>if o+(n+1)<=cs.length then some (.agg ((cs.drop o).take (n+1)))else none
 |_,_,_=>none
theorem Ez{ty:TypeId}{b o n:Nat}{cs:List Value}{wr:Bool}{ah:Nat}(hl:e.ld ty=some (some (n+1)))(hg:h.get b=some (.row cs wr ah))(ho:o+(n+1)<=cs.length):gV e h ty ⟨b,o,none⟩=some (.agg ((cs.drop o).take (n+1)).toArray):=by
 unfold Env.ld at hl;unfold gV;cases hu:e.under ty with
 |none=>simp[hu]at hl
 |some d=>
  simp only[hu]at hl⊢;cases hd:jz d with
  |true=>
   simp only[hd,cond_true]at hl⊢;cases hs:e.size ty with
   |none=>simp[hs]at hl
   |some m=>
    simp only[hs,xS]at hl;subst hl;have:((cs.drop o).take (n+1)).length=n+1:=by rw[Er,GP];omega
    simp only[fF,hg,this,Qc,cond_true]
  |false=>simp[hd]at hl
theorem Qm{ty:TypeId}{b o:Nat}{cs:List Value}{wr:Bool}{ah:Nat}{ds:List DV}{d:DV}(hd:eQ (e.ld ty) ds o=some d)(hg:h.get b=some (.row cs wr ah))(hr:b8 R cs ds):∃v,gV e h ty ⟨b,o,none⟩=some v/\Rel R v d:=by
 unfold eQ at hd
 split at hd
 . rename_i hl;obtain⟨v,h1,h2⟩:=hr.zT hd;exact⟨v,by rw[zw hl,cI hg,h1],h2⟩
 . rename_i n hl
   split at hd
   . rename_i ho;cases hd;exact⟨_,Ez hl hg (by rw[hr.length];exact ho),Rel.dG (uM hr _ _)⟩
   . cases hd
 . cases hd
theorem Qn{ty:TypeId}{b o off:Nat}{cs:List Value}{wr:Bool}{ah:Nat}{xs:List DV}{d:DV}(hd:eQ (e.ld ty) xs off=some d)(hg:h.get b=some (.row cs wr ah))(h2:o+xs.length<=cs.length)
 (h3:∀(i:Nat) (v:Value) (d:DV),xs[i]? =some d->cs[o+i]? =some v->Rel R v d):∃v,gV e h ty ⟨b,o+off,none⟩=some v/\Rel R v d:=by
 cases hl:e.ld ty with
 |none=>simp[hl,eQ]at hd
 |some l=>
  cases l with
  |none=>
   simp only[hl,eQ]at hd;have aX:=(Xw.1 hd).1;have:o+off<cs.length:=by omega
   refine⟨cs[o+off],by rw[zw hl,cI hg,Zj this],h3 off _ d hd (Zj this)⟩
  |some m=>
   cases m with
   |zero=>simp[hl,eQ]at hd
   |succ n=>
    simp only[hl,eQ]at hd
    split at hd
    . rename_i ho;cases hd;refine⟨_,Ez hl hg (by omega),Rel.dG (pR (by simp only[Er,GP];omega) λi v d h4 h5=> ?_)⟩;rw[VK]at h4 h5
      split at h4
      . rw[if_pos (by assumption)]at h5;rw[W2]at h4 h5;exact h3 (off+i) v d h5 (by rw[<-h4];congr 1;omega)
      . cases h4
    . cases hd
def iA(e:Env)(dh:ab)(ty:TypeId):DV->Option DV
 |.v (.pointer (some ⟨b,o,none⟩))=>match dh.get b with|some (.row cs _ _)=>eQ (e.ld ty) cs o|_=>none
 |.ptr xs off=>eQ (e.ld ty) xs off
 |_=>none
theorem EA(x:bH G h dh){ty:TypeId}{v:Value}{d d':DV}(hv:Rel (aI h G) v d)(hd:iA e dh ty d=some d'):∃v',mm e h ty v=some v'/\Rel (aI h G) v' d':=by
 unfold iA at hd
 split at hd
 . rename_i b o;have:=hv.cG;subst this
   split at hd
   . rename_i cs wr ah hg;obtain⟨_,ao,h1,h2⟩:=x.obj _ _ hg;cases h2 with|row h2=>exact Qm hd h1 h2
   . cases hd
 . rename_i xs off;cases hv with
   |ptr h1 h2 h3=>
    obtain⟨_,wr,h4⟩:=pS h1;exact Qn hd h4 h2 h3
 . cases hd
def kc(e:Env)(s f:Nat):DV->Option DV
 |.v (.pointer (some ⟨b,o,none⟩))=>(e.off s f).map λk=>.v (.pointer (some ⟨b,o+k,none⟩))
 |.ptr xs off=>(e.off s f).map λk=>.ptr xs (off+k)
 |_=>none
theorem Qo{s f:Nat}{v:Value}{d d':DV}(hv:Rel R v d)(hd:kc e s f d=some d'):∃v',qV e s f v=some v'/\Rel R v' d':=by
 unfold kc at hd
 split at hd
 . have:=hv.cG;subst this;simp only[qe]at hd;obtain⟨k,h1,rfl⟩:=hd;exact⟨_,by rw[zD,h1];rfl,.v _⟩
 . simp only[qe]at hd;obtain⟨k,h1,rfl⟩:=hd;cases hv with
   | @ptr b o off ah cs xs h2 h3 h4=>exact⟨_,by rw[zD,h1];rfl,by rw[Nat.add_assoc];exact .ptr h2 h3 h4⟩
 . cases hd
def ke:Option (Nat×Option Nat)->List DV->Option DV
 |some (o,none),l=>l[o]?
 |some (o,some n),l=>some (.agg ((l.drop o).take n))
 |none,_=>none
theorem EB{ty:TypeId}{cs:List Value}{ds:List DV}{o:Nat}{d:DV}(hr:b8 R cs ds)(hd:ke ((e.ld ty).map λl=>(o,l)) ds=some d):∃v,mW e ty cs o=some v/\Rel R v d:=by
 unfold Env.ld at hd;unfold mW;cases hu:e.under ty with
 |none=>simp[hu,ke]at hd
 |some td=>
  simp only[hu]at hd⊢;cases ha:jz td with
  |false=>
   simp only[ha,cond_false,PO,ke]at hd⊢;exact hr.zT hd
  |true=>
   simp only[ha,cond_true]at hd⊢;cases hs:e.size ty with
   |none=>simp[hs,ke]at hd
   |some n=>
    simp only[hs,PO,ke,xS]at hd⊢;subst hd;exact⟨_,rfl,Rel.dG (uM hr _ _)⟩
def pU(e:Env)(ty f:Nat):DV->Option DV
 |.agg l=>ke (e.part ty f) l
 |_=>none
theorem Qp{ty f:Nat}{v:Value}{d d':DV}(hv:Rel R v d)(hd:pU e ty f d=some d'):∃v',sG e ty f v=some v'/\Rel R v' d':=by
 unfold pU at hd
 split at hd
 . obtain⟨a,rfl,hr⟩:=hv.pD;unfold Env.part at hd;unfold sG
   split at hd
   . rename_i fields hu;simp only[hu];cases hf:fields[f]? with
     |none=>simp[hf,ke]at hd
     |some fd=>
      simp only[hf]at hd⊢;refine EB hr ?_;cases hl:e.ld fd.type with
      |none=>simp[hl,ke]at hd
      |some l=>simpa[hl]using hd
   . simp[ke]at hd
 . cases hd
def fx:DV->Option Int
 |.v (.int _ i)=>some i
 |_=>none
theorem EC{v:Value}{d:DV}{i:Int}(hv:Rel R v d)(hd:fx d=some i):intOf v=some i:=by
 unfold fx at hd
 split at hd
 . have:=hv.cG;subst this;exact hd
 . cases hd
def pV(i:Int)(xs:List (List DV)):Option DV:=if 0<=i then(xs[i.toNat]?).map λr=>.ptr r 0 else none
def ia(e:Env)(ty:TypeId):DV->Option Int->Option DV
 |.v (.slice (some ⟨b,o,none⟩) len _),some i=>(nr b o len i (e.elem ty)).map .v
 |.v (.pointer (some ⟨b,o,none⟩)),some i=>(nu b o i (e.arr ty)).map .v
 |.sl k xs,some i=>if e.elem ty=some k then pV i xs else none
 |.ptr xs off,some i=>match e.arr ty with|some (n,s)=>if 0<=i/\i<n then some (.ptr xs (off+i.toNat*s))else none|none=>none
 |_,_=>none
theorem Qq{ty:TypeId}{v w:Value}{d c d':DV}(hv:Rel R v d)(hw:Rel R w c)(hd:ia e ty d (fx c)=some d'):∃v',oC e ty v w=some v'/\Rel R v' d':=by
 cases hi:fx c with
 |none=>rw[hi]at hd;unfold ia at hd;split at hd<;>simp_all
 |some i=>
  have aP:=EC hw hi;rw[hi]at hd;have aD:∃k,w=.int k i:=by
   unfold intOf at aP
   split at aP
   . cases aP;exact⟨_,rfl⟩
   . cases aP
  obtain⟨kd,rfl⟩:=aD;unfold ia at hd
  split at hd
  . rename_i b o len c' i' he;cases he;have:=hv.cG;subst this;simp only[qe]at hd;obtain⟨u,h1,rfl⟩:=hd;exact⟨u,by rw[zG,h1],.v _⟩
  . rename_i b o i' he;cases he;have:=hv.cG;subst this;simp only[qe]at hd;obtain⟨u,h1,rfl⟩:=hd;exact⟨u,by rw[zH,h1],.v _⟩
  . rename_i s xs i' he;cases he
    split at hd
    . rename_i hs;unfold pV at hd
      split at hd
      . rename_i h0;simp only[qe]at hd;obtain⟨r,hr,rfl⟩:=hd;have aX:=(Xw.1 hr).1;cases hv with
        |j9 _=>simp at hr
        | @sl b o cp _ ah cs _ h1 h2 h3 h4 h5 h6 h7=>
         refine⟨_,by rw[zG,hs,sK _ _ _ _ _ h0 (by omega)], ?_⟩;have hm:(i.toNat+1)*s<=xs.length*s:=Zr _ aX;rw[PX,Nat.one_mul]at hm;have bk:r.length=s:=h5 r (List.mem_of_getElem? hr);have:=Rel.ptr (R:=R) (b:=b) (o:=o+i.toNat*s) (off:=0) (xs:=r) h1 (by rw[bk];omega) λj v d h8 h9=>h7 i.toNat r j v d hr h8 h9;exact this
      . cases hd
    . cases hd
  . rename_i xs off i' he;cases he
    split at hd
    . rename_i n s hs
      split at hd
      . rename_i h0;cases hd;cases hv with
        | @ptr b o _ ah cs _ h2 h3 h4=>exact⟨_,by rw[zH,hs,dF _ _ _ _ _ h0.1 h0.2],by rw[Nat.add_assoc];exact .ptr h2 h3 h4⟩
      . cases hd
    . cases hd
  . cases hd
def Env.zZ(e:Env)(ty:TypeId):Option (Nat×Nat×Option Nat):=
 match e.under ty with
 |some (.array n el)=>match e.size el,e.ld el with|some s,some l=>some (n,s,l)|_,_=>none
 |_=>none
def mr(e:Env)(ty:TypeId):DV->DV->Option DV
 |.agg l,.v (.int _ i)=>match e.zZ ty with|some (n,s,ld)=>if 0<=i/\i<n then ke (some (i.toNat*s,ld)) l else none|none=>none
 |.v x,.v y=>(oD e ty x y).map .v
 |_,_=>none
theorem Qr{ty:TypeId}{v w:Value}{d c d':DV}(hv:Rel R v d)(hw:Rel R w c)(hd:mr e ty d c=some d'):∃v',oD e ty v w=some v'/\Rel R v' d':=by
 unfold mr at hd
 split at hd
 . rename_i l k i;obtain⟨a,rfl,hr⟩:=hv.pD;have:=hw.cG;subst this
   split at hd
   . rename_i n s ld hp
     split at hd
     . rename_i h0;unfold Env.zZ at hp
       split at hp
       . rename_i n' el hu
         split at hp
         . rename_i s' l' h1 h2;cases hp;simp only[oD,hu,h1,h0.1,h0.2,decide_true,TF,cond_true];exact EB hr (by rw[h2];exact hd)
         . cases hp
       . cases hp
     . cases hd
   . cases hd
 . have:=hv.cG;subst this;have:=hw.cG;subst this;simp only[qe]at hd;obtain⟨u,h1,rfl⟩:=hd;exact⟨u,h1,.v u⟩
 . cases hd
def lG(i:Nat):DV->Option DV
 |.bb l=>l[i]?
 |.v (.tuple vs)=>(vs[i]?).map .v
 |_=>none
theorem Qs{i:Nat}{v:Value}{d d':DV}(hv:Rel R v d)(hd:lG i d=some d'):∃v',qX i v=some v'/\Rel R v' d':=by
 unfold lG at hd
 split at hd
 . obtain⟨a,rfl,hr⟩:=hv.zU;obtain⟨u,h1,h2⟩:=hr.zT hd;exact⟨u,by simpa[qX]using h1,h2⟩
 . have:=hv.cG;subst this;simp only[qe]at hd;obtain⟨u,h1,rfl⟩:=hd;exact⟨u,h1,.v u⟩
 . cases hd
def kJ:DV->Option DV
 |.v (.pointer (some a))=>some (.v (.pointer (some a)))
 |.ptr xs off=>some (.ptr xs off)
 |.fn f a c=>some (.fn f a c)
 |_=>none
theorem Qt{v:Value}{d d':DV}(hv:Rel R v d)(hd:kJ d=some d'):∃v',qW v=some v'/\Rel R v' d':=by
 unfold kJ at hd
 split at hd
 . have:=hv.cG;subst this;cases hd;exact⟨_,rfl,.v _⟩
 . cases hd;cases hv with
   |ptr h1 h2 h3=>exact⟨_,rfl,.ptr h1 h2 h3⟩
 . cases hd;cases hv with
   |fn h1 h2 h3 h4=>exact⟨_,rfl,.fn h1 h2 h3 h4⟩
 . cases hd
def fI{α:Type}(f:DV->DV->Option α):Option DV->Option DV->Option α
 |some a,some b=>f a b
 |_,_=>none
def iY(e:Env)(op:BinOp)(ty:TypeId)(x y:Operand)(a b:DV):Option DV:=match exact a,exact b with
 |some u,some w=>(cD e op ty x y u w).map .v
 |_,_=>none
theorem Qu{op:BinOp}{ty:TypeId}{x y:Operand}{v w:Value}{a b d:DV}(hv:Rel R v a)(hw:Rel R w b)(hd:iY e op ty x y a b=some d):∃u,cD e op ty x y v w=some u/\Rel R u d:=by
 unfold iY at hd
 split at hd
 . rename_i u w' h1 h2;rw[oH hv h1,oH hw h2];simp only[qe]at hd;obtain⟨r,h3,rfl⟩:=hd;exact⟨r,h3,.v r⟩
 . cases hd
def kV(f:Value->Option Value)(d:DV):Option DV:=match exact d with
 |some v=>(f v).map .v
 |none=>none
theorem Aa{f:Value->Option Value}{v:Value}{d d':DV}(hv:Rel R v d)(hd:kV f d=some d'):∃v',f v=some v'/\Rel R v' d':=by
 unfold kV at hd
 split at hd
 . rename_i u h1;rw[oH hv h1];simp only[qe]at hd;obtain⟨r,h3,rfl⟩:=hd;exact⟨r,h3,.v r⟩
 . cases hd
theorem ED{vs:List Value}:∀{ds:List DV} {us:List Value},b8 R vs ds->ds.mapM exact=some us->vs=us:=by
 induction vs with
 |nil=>intro ds us h1 h2;cases h1;simp at h2;exact h2.symm
 |cons v vs ih=>
  intro ds us h1 h2;cases h1 with
  |cons h3 h4=>
   simp only[List.mapM_cons,Option.pure_def,Option.bind_eq_bind,DE,xS]at h2;obtain⟨u,h5,bA,h6,rfl⟩:=h2;rw[oH h3 h5,ih h4 h6]
def gO(e:Env)(dh:ab)(ty:TypeId):DV->Option DV
 |.sl _ xs=>match e.elem ty with|some _=>some (.v (.int .i64 xs.length))|none=>none
 |.v (.slice a l c)=>match e.elem ty with|some _=>some (.v (.int .i64 l))|none=>none
 |.v (.string s)=>(fk e ⟨.nil,0⟩ ty (.string s)).map .v
 |.v (.map none)=>(fk e ⟨.nil,0⟩ ty (.map none)).map .v
 |.v (.map (some r))=>match e.under ty,dh.get r with|some (.map _ _),some (.map es _)=>some (.v (.int .i64 es.length))|_,_=>none
 |_=>none
theorem Qv(x:bH G h dh){ty:TypeId}{v:Value}{d d':DV}(hv:Rel (aI h G) v d)(hd:gO e dh ty d=some d'):∃v',fk e h ty v=some v'/\Rel (aI h G) v' d':=by
 unfold gO at hd
 split at hd
 . split at hd
   . rename_i s hs;cases hd;cases hv with
     |j9 _=>exact⟨_,by rw[wQ,hs];rfl,.v _⟩
     |sl h1 h2 h3 h4 h5 h6 h7=>exact⟨_,by rw[wQ,hs];rfl,.v _⟩
   . cases hd
 . have:=hv.cG;subst this
   split at hd
   . rename_i s hs;cases hd;exact⟨_,by rw[wQ,hs];rfl,.v _⟩
   . cases hd
 . have:=hv.cG;subst this;simp only[qe]at hd;obtain⟨u,h1,rfl⟩:=hd;refine⟨u, ?_,.v u⟩;rw[<-h1];unfold fk;split<;>first|rfl|contradiction|(simp_all;done)
 . have:=hv.cG;subst this;simp only[qe]at hd;obtain⟨u,h1,rfl⟩:=hd;refine⟨u, ?_,.v u⟩;rw[<-h1];unfold fk;split<;>first|rfl|contradiction|(simp_all;done)
 . have:=hv.cG;subst this
   split at hd
   . rename_i r k v es clock hu hg;cases hd;obtain⟨_,ao,h1,h2⟩:=x.obj _ _ hg;cases h2 with
     |map h2=>exact⟨_,by simp only[fk,hu,h1,h2.length],.v _⟩
   . cases hd
 . cases hd
def e9:Option DV->Option (Option Int)
 |none=>some none
 |some d=>(fx d).map some
def dC(i:Option Int)(ae af:Nat):Option Nat:=match i with
 |none=>some af
 |some i=>if 0<=i/\i<=ae then some i.toNat else none
theorem Ab{v:Option Value}{d:Option DV}{i:Option Int}(hr:kU R v d)(hd:e9 d=some i)(ae af:Nat):dS v ae af=dC i ae af:=by
 cases hr with
 |none=>simp only[e9,xS]at hd;subst hd;rfl
 |some h=>
  simp only[e9,qe]at hd;obtain⟨i,h1,rfl⟩:=hd;simp only[dS,EC h h1,dC];by_cases h0:0<=i<;>by_cases h1:i<=(ae:Int)<;>simp[h0,h1]
def iZ(e:Env)(dh:ab)(ty:TypeId)(x:DV)(lo hi mx:Option Int):Option DV:=
 match x,e.elem ty with
 |.sl k xs,some s=>match dC mx xs.length xs.length with
  |some m=>match dC hi m xs.length with
   |some h=>match dC lo h 0 with
    |some l=>if h<=m/\(mx.isNone=true\/hi.isSome=true)/\k=s then some (.sl k ((xs.drop l).take (h-l)))else none
    |none=>none
   |none=>none
  |none=>none
 |.v (.slice none len cap),some _=>match dC mx cap cap with
  |some m=>match dC hi m len with
   |some h=>match dC lo h 0 with
    |some l=>if h<=m/\(mx.isNone=true\/hi.isSome=true)then some (.v (.slice none (h-l) (m-l)))else none
    |none=>none
   |none=>none
  |none=>none
 |.v (.slice (some ⟨b,o,none⟩) len cap),some s=>match dh.get b,dC mx cap cap with
  |some (.row _ _ ah),some m=>match dC hi m len with
   |some h=>match dC lo h 0 with
    |some l=>if h<=m/\(mx.isNone=true\/hi.isSome=true)/\(ah=0\/ah=s)then some (.v (.slice (some ⟨b,o+l*s,none⟩) (h-l) (m-l)))else none
    |none=>none
   |none=>none
  |_,_=>none
 |_,_=>none
def pW:Option DV->Option (Option Value)
 |none=>some none
 |some d=>(exact d).map some
def xh(e:Env)(ty:TypeId)(s:ByteArray)(lo hi mx:Option DV):Option DV:=
 match e.under ty,pW lo,pW hi,pW mx with
 |some .string,some lo,some hi,some mx=>(jA e ⟨.nil,0⟩ ty (.string s) lo hi mx).map .v
 |_,_,_,_=>none
def dz(e:Env)(dh:ab)(ty:TypeId):Option DV->Option (Option DV)->Option (Option DV)->Option (Option DV)->Option DV
 |some (.v (.string s)),some lo,some hi,some mx=>xh e ty s lo hi mx
 |some x,some lo,some hi,some mx=>match e9 lo,e9 hi,e9 mx with|some lo,some hi,some mx=>iZ e dh ty x lo hi mx|_,_,_=>none
 |_,_,_,_=>none
theorem Qw{v:Option Value}{d:Option DV}{i:Option Int}(hr:kU R v d)(hd:e9 d=some i):v.isNone=i.isNone:=by
 cases hr with
 |none=>simp only[e9,xS]at hd;subst hd;rfl
 |some h=>simp only[e9,qe]at hd;obtain⟨i,_,rfl⟩:=hd;rfl
theorem Qx{v:Option Value}{d:Option DV}{i:Option Int}(hr:kU R v d)(hd:e9 d=some i):v.isSome=i.isSome:=by
 cases hr with
 |none=>simp only[e9,xS]at hd;subst hd;rfl
 |some h=>simp only[e9,qe]at hd;obtain⟨i,_,rfl⟩:=hd;rfl
theorem EE{ty s:Nat}(h:e.elem ty=some s):∃el,e.under ty=some (.slice el)/\e.size el=some s:=by
 unfold Env.elem at h
 split at h
 . rename_i el hu;exact⟨el,hu,h⟩
 . cases h
theorem EF{i:Option Int}{m k n:Nat}(h:dC i m k=some n)(hk:k<=m):n<=m:=by
 unfold dC at h
 split at h
 . cases h;exact hk
 . split at h
   . rename_i hc;cases h;omega
   . cases h
theorem EG{ai av:Option Int}{n cap m hh:Nat}(hm:dC ai n n=some m)(az:dC av m n=some hh)(hle:hh<=m)(hc:n<=cap):∃m',dC ai cap cap=some m'/\hh<=m'/\dC av m' n=some hh:=by
 cases ai with
 |none=>
  simp only[dC,xS]at hm;subst hm;refine⟨cap,rfl,by omega, ?_⟩;cases av with
  |none=>exact az
  |some i=>
   simp only[dC]at az⊢
   split at az
   . rename_i aF;rw[if_pos ⟨aF.1,by omega⟩];exact az
   . cases az
 |some i=>
  simp only[dC]at hm
  split at hm
  . rename_i aF;cases hm;exact⟨i.toNat,by simp only[dC];rw[if_pos ⟨aF.1,by omega⟩],hle,az⟩
  . cases hm
theorem xi{ty s:Nat}{base:Option Addr}{len cap m hh l:Nat}{lo hi mx:Option Value}(hs:e.elem ty=some s)(q1:dS mx cap cap=some m)(q2:dS hi m len=some hh)(q3:dS lo hh 0=some l)(q4:hh<=m)(q5:(mx.isNone||hi.isSome)=true):
 jA e h ty (.slice base len cap) lo hi mx=match base with|none=>some (.slice none (hh-l) (m-l))|some a=>bif l9 h a s then some (.slice (some (a.add (l*s))) (hh-l) (m-l))else none:=by
 obtain⟨el,hu,bl⟩:=EE hs;simp only[jA,hu,bl,q1,q2,ZJ q4,q5,TF,cond_true,q3];cases base<;>rfl
theorem Qy(x:bH G h dh){ty:TypeId}{v:Value}{d d':DV}{lo hi mx:Option Value}{aK aL aM:Option DV}{aZ av ai:Option Int}(hv:Rel (aI h G) v d)(r1:kU (aI h G) lo aK)(r2:kU (aI h G) hi aL)(r3:kU (aI h G) mx aM)
 (b1:e9 aK=some aZ) (b2:e9 aL=some av) (b3:e9 aM=some ai) (hd:iZ e dh ty d aZ av ai=some d'):∃v',jA e h ty v lo hi mx=some v'/\Rel (aI h G) v' d':=by
 have ad:(ai.isNone=true\/av.isSome=true)->(mx.isNone||hi.isSome)=true:=λhc=>by rw[Qw r3 b3,Qx r2 b2];rcases hc with h|h<;>simp[h]
 have k1:=λm d=>Ab r1 b1 m d;have k2:=λm d=>Ab r2 b2 m d;have k3:=λm d=>Ab r3 b3 m d;unfold iZ at hd
 split at hd
 . rename_i k xs s hs
   split at hd
   . rename_i m hm
     split at hd
     . rename_i hh aA
       split at hd
       . rename_i l hl
         split at hd
         . rename_i hc;cases hd;obtain⟨bc,bd,rfl⟩:=hc;have aQ:m<=xs.length:=EF hm (Nat.le_refl _);have bm:l<=hh:=EF hl (Nat.zero_le _);cases hv with
           | @j9 c _ hk=>
            obtain⟨m',q1,q2,q3⟩:=EG hm aA bc (cap:=c) (Nat.zero_le _);have hz:hh-l=0:=by simp at aQ;omega
            refine⟨_,xi hs ((k3 _ _).trans q1) ((k2 _ _).trans q3) ((k1 _ _).trans hl) q2 (ad bd), ?_⟩;simp only[hz,List.drop_nil,List.take_nil];exact .j9 hk
           | @sl b o c _ ah cs _ h1 h2 h3 h4 h5 h6 h7=>
            obtain⟨m',q1,q2,q3⟩:=EG hm aA bc h4;obtain⟨_,wr,hg⟩:=pS h1;have aR:l9 h ⟨b,o,none⟩ k=true:=by
             rcases h2 with h2|h2<;>simp[l9,hg,h2]
            refine⟨_,by rw[xi hs ((k3 _ _).trans q1) ((k2 _ _).trans q3) ((k1 _ _).trans hl) q2 (ad bd)];simp only[aR,cond_true];rfl, ?_⟩;rw[rk];have hlen:((xs.drop l).take (hh-l)).length=hh-l:=by rw[Er,GP];omega
            have hmul:(l+(hh-l))*k<=xs.length*k:=Zr _ (by omega);rw[PX]at hmul;have:=Rel.sl (R:=aI h G) (b:=b) (o:=o+l*k) (c:=m'-l) (xs:=(xs.drop l).take (hh-l)) h1 h2 h3 (by rw[hlen];omega) (λy hy=>h5 y (List.mem_of_mem_drop (List.mem_of_mem_take hy))) (by rw[hlen];omega) λj y i v d e1 e2 e3=>by
             rw[VK]at e1
             split at e1
             . rw[W2]at e1;refine h7 (l+j) y i v d e1 e2 ?_;rw[<-e3];congr 1;rw[PX];omega
             . cases e1
            rwa[hlen]at this
         . cases hd
       . cases hd
     . cases hd
   . cases hd
 . rename_i len cap s hs;have:=hv.cG;subst this
   split at hd
   . rename_i m hm
     split at hd
     . rename_i hh aA
       split at hd
       . rename_i l hl
         split at hd
         . rename_i hc;cases hd;exact⟨_,xi hs ((k3 _ _).trans hm) ((k2 _ _).trans aA) ((k1 _ _).trans hl) hc.1 (ad hc.2),.v _⟩
         . cases hd
       . cases hd
     . cases hd
   . cases hd
 . rename_i b o len cap s hs;have:=hv.cG;subst this
   split at hd
   . rename_i cs wr ah m hg hm
     split at hd
     . rename_i hh aA
       split at hd
       . rename_i l hl
         split at hd
         . rename_i hc;cases hd;obtain⟨_,ao,g1,g2⟩:=x.obj _ _ hg;cases g2 with
           |row g2=>
            have aR:l9 h ⟨b,o,none⟩ s=true:=by
             rcases hc.2.2 with h2|h2<;>simp[l9,g1,h2]
            refine⟨_,by rw[xi hs ((k3 _ _).trans hm) ((k2 _ _).trans aA) ((k1 _ _).trans hl) hc.1 (ad hc.2.1)];simp only[aR,cond_true,rk],.v _⟩
         . cases hd
       . cases hd
     . cases hd
   . cases hd
 . cases hd
theorem Ac{v:Option Value}{d:Option DV}{u:Option Value}(hr:kU R v d)(hd:pW d=some u):v=u:=by
 cases hr with
 |none=>simpa[pW]using hd
 |some h=>
  simp only[pW,qe]at hd;obtain⟨w,h1,rfl⟩:=hd;rw[oH h h1]
theorem Qz(x:bH G h dh){ty:TypeId}{v:Option Value}{dv:Option DV}{lo hi mx:Option (Option Value)}{aK aL aM:Option (Option DV)}{d':DV}(hv:∀d,dv=some d->∃u,v=some u/\Rel (aI h G) u d)
 (r1:∀d,aK=some d->∃u,lo=some u/\kU (aI h G) u d) (r2:∀d,aL=some d->∃u,hi=some u/\kU (aI h G) u d) (r3:∀d,aM=some d->∃u,mx=some u/\kU (aI h G) u d)
 (hd:dz e dh ty dv aK aL aM=some d'):∃v',sH e h ty v lo hi mx=some v'/\Rel (aI h G) v' d':=by
 unfold dz at hd
 split at hd
 . rename_i s bn aF bo;obtain⟨u,rfl,h1⟩:=hv _ rfl;obtain⟨u1,rfl,g1⟩:=r1 _ rfl;obtain⟨u2,rfl,g2⟩:=r2 _ rfl;obtain⟨u3,rfl,g3⟩:=r3 _ rfl;have:=h1.cG;subst this;unfold xh at hd
   split at hd
   . rename_i a b c hu e1 e2 e3;rw[Ac g1 e1,Ac g2 e2,Ac g3 e3];simp only[qe]at hd;obtain⟨w,h3,rfl⟩:=hd;refine⟨w, ?_,.v w⟩;rw[<-h3];simp only[sH,jA,hu]
   . cases hd
 . rename_i x' bn aF bo _;obtain⟨u,rfl,h1⟩:=hv _ rfl;obtain⟨u1,rfl,g1⟩:=r1 _ rfl;obtain⟨u2,rfl,g2⟩:=r2 _ rfl;obtain⟨u3,rfl,g3⟩:=r3 _ rfl
   split at hd
   . rename_i e1 e2 e3;exact Qy x h1 g1 g2 g3 e1 e2 e3 hd
   . cases hd
 . cases hd
def findD(P:Program)(kt:TypeId)(k:Value):List bq->Option (Option DV)
 |[]=>some none
 |x::es=>match jX P kt k x.key with
  |none=>none
  |some true=>some (some x.val)
  |some false=>findD P kt k es
theorem Ad{P:Program}{kt:TypeId}{k:Value}:∀{es:List MapEntry} {ds:List bq} {r:Option DV} (i:Nat),aO (iy R) es ds->findD P kt k ds=some r->∃r',fN P kt k es i=some r'/\(match r,r' with|none,none=>True|some d,some (_,v)=>Rel R v d|_,_=>False)
 |[],[],r,i,.nil,h=>by simp only[findD,xS]at h;subst h;exact⟨none,rfl,trivial⟩
 |x::es,y::ds,r,i,.cons h1 h2,h=>by
  simp only[findD]at h;simp only[fN,h1.key]
  split at h
  . cases h
  . rename_i hk;cases h;exact⟨_,by rw[hk],h1.val⟩
  . rename_i hk;simp only[hk];exact Ad (i+1) h2 h
def kW(e:Env)(ty:TypeId)(ok:Bool)(k:Value)(es:List bq):Option DV:=
 match e.under ty with
 |some (.map kt et)=>match e.under kt with
  |none=>none
  |some kd=>if plain k=true/\mX kd k=true/\(bQ e.P (Instr.checkKey es.isEmpty 10000 kt k)).isSome=true then match findD e.P kt k es with
   |none=>none
   |some (some d)=>some (bif ok then .bb [d,.v (.bool true)]else d)
   |some none=>match e.zero et with
    |none=>none
    |some z=>if plain z=true then some (bif ok then .bb [fu z,.v (.bool false)]else fu z)else none
   else none
 |_=>none
def kK(e:Env)(dh:ab)(ty:TypeId)(ok:Bool)(m k:DV):Option DV:=
 match m,exact k with
 |.v (.map none),some k=>kW e ty ok k []
 |.v (.map (some r)),some k=>match dh.get r with|some (.map es _)=>kW e ty ok k es|_=>none
 |_,_=>none
theorem lookup_nil(ty:TypeId)(ok:Bool)(k:Value):nq e h ty ok (.map none) k=mo e ty ok k (some (.map [] 0)):=by
 simp only[nq,px,mo];cases hu:e.under ty with
 |none=>rfl
 |some d=>cases d<;>rfl
theorem EH{ty:TypeId}{ok:Bool}{k:Value}{es:List MapEntry}{ds:List bq}{d:DV}{clock:Nat}(hr:aO (iy R) es ds)(hd:kW e ty ok k ds=some d):
 ∃v,mo e ty ok k (some (.map es clock))=some v/\Rel R v d:=by
 unfold kW at hd
 split at hd
 . rename_i kt et hu
   split at hd
   . cases hd
   . rename_i kd hk
     split at hd
     . rename_i hc;obtain⟨c1,c2,c3⟩:=hc;have aT:ds.isEmpty=es.isEmpty:=by cases hr<;>rfl
       rw[aT]at c3;obtain⟨u,bp⟩:=Option.isSome_iff_exists.1 c3;simp only[mo,hu,hk,c1,c2,TF,cond_true,bp]
       split at hd
       . cases hd
       . rename_i d' hf;obtain⟨r',h1,h2⟩:=Ad 0 hr hf;cases r' with
         |none=>exact h2.elim
         |some p=>
          obtain⟨i,v⟩:=p;simp only[h1];cases hd;cases ok with
          |true=>exact⟨_,rfl,Rel.jG (a:=[v,.bool true]) (.cons h2 (.cons (.v _) .nil))⟩
          |false=>exact⟨_,rfl,h2⟩
       . rename_i hf;obtain⟨r',h1,h2⟩:=Ad 0 hr hf;cases r' with
         |some p=>exact h2.elim
         |none=>
          simp only[h1]
          split at hd
          . cases hd
          . rename_i z hz
            split at hd
            . rename_i hp;cases hd;simp only[hz,hp,cond_true];cases ok with
              |true=>exact⟨_,rfl,Rel.jG (a:=[z,.bool false]) (.cons (sP z) (.cons (.v _) .nil))⟩
              |false=>exact⟨_,rfl,sP z⟩
            . cases hd
     . cases hd
 . cases hd
theorem QA(x:bH G h dh){ty:TypeId}{ok:Bool}{v w:Value}{m k d:DV}(hv:Rel (aI h G) v m)(hw:Rel (aI h G) w k)(hd:kK e dh ty ok m k=some d):∃u,nq e h ty ok v w=some u/\Rel (aI h G) u d:=by
 unfold kK at hd
 split at hd
 . rename_i k' hk;have:=hv.cG;subst this;rw[oH hw hk];rw[lookup_nil];exact EH .nil hd
 . rename_i r k' hk;have:=hv.cG;subst this;rw[oH hw hk]
   split at hd
   . rename_i es clock hg;obtain⟨_,ao,g1,g2⟩:=x.obj _ _ hg;cases g2 with
     | @map bB _ _ g2=>rw[wX,g1];exact EH g2 hd
   . cases hd
 . cases hd
def jH(place:Nat->Option (Nat×Nat)):List DV->List (Nat×DV)->Option (List DV)
 |cells,[]=>some cells
 |cells,(i,v)::rest=>match place i with
  |none=>none
  |some (off,size)=>if(ca v).length=size/\off+size<=cells.length/\(ca v).all cO=true then jH place (cells.take off++ca v++cells.drop (off+(ca v).length)) rest else none
theorem Ae{d:DV}(h:(ca d).all cO=true):∀u,d=.v u->dw u=true:=λu hu=>by subst hu;simpa[ca,cO]using h
theorem xj{place:Nat->Option (Nat×Nat)}:∀{ps:List (Nat×Value)} {aC:List (Nat×DV)} {cs:List Value} {ds r:List DV},aO (zW R) ps aC->b8 R cs ds->jH place ds aC=some r->∃cs',iv place cs ps=some cs'/\b8 R cs' r
 |[],[],cs,ds,r,.nil,h1,h=>by simp only[jH,xS]at h;subst h;exact⟨cs,rfl,h1⟩
 |(i,v)::ps,(j,d)::aC,cs,ds,r,.cons ⟨h2,h3⟩ h4,h1,h=>by
  simp only at h2 h3;subst h2;simp only[jH]at h;simp only[iv]
  split at h
  . cases h
  . rename_i off size hp;simp only[hp]
    split at h
    . rename_i hc;have aU:=zV h3 (Ae hc.2.2);have e1:v.cells.toList.length=size:=by rw[aU.length];exact hc.1
      have e2:off+size<=cs.length:=by rw[h1.length];exact hc.2.1
      simp only[e1,Qc,ZJ e2,TF,cond_true];refine xj h4 ?_ h;unfold dN;rw[aU.length];exact(aO.append (aO.append (aO.take h1 _) aU) (aO.drop h1 _))
    . cases h
def eA(e:Env)(ty:TypeId)(ps:List (Nat×DV)):Option DV:=
 match e.zero ty,e.under ty with
 |some z,some (.struct fields)=>(jH (jW e fields) (z.cells.toList.map .v) ps).map .agg
 |some z,some (.array _ elem)=>match e.size elem with
  |none=>none
  |some s=>(jH (λi=>some (i*s,s)) (z.cells.toList.map .v) ps).map .agg
 |_,_=>none
theorem QB{ty:TypeId}{ps:List (Nat×Value)}{aC:List (Nat×DV)}{d:DV}(hp:aO (zW R) ps aC)(hd:eA e ty aC=some d):∃v,pt e ty ps=some v/\Rel R v d:=by
 unfold eA at hd;unfold pt
 split at hd
 . rename_i z fields hz hu;simp only[hz,hu];simp only[qe]at hd;obtain⟨r,h1,rfl⟩:=hd;obtain⟨cs,h2,h3⟩:=xj hp (sO _) h1;exact⟨_,by rw[h2],Rel.dG h3⟩
 . rename_i z n elem hz hu;simp only[hz,hu]
   split at hd
   . cases hd
   . rename_i s hs;simp only[hs];simp only[qe]at hd;obtain⟨r,h1,rfl⟩:=hd;obtain⟨cs,h2,h3⟩:=xj hp (sO _) h1;exact⟨_,by rw[h2],Rel.dG h3⟩
 . cases hd
def fy(dh:ab)(sz:Nat):DV->Option (Nat×List DV)
 |.sl k xs=>if k=sz then some (xs.length,xs.flatten)else none
 |.v (.slice none n _)=>if n=0 then some (0,[])else none
 |.v (.slice (some ⟨b,o,none⟩) n _)=>match dh.get b with|some (.row cs _ _)=>if o+n*sz<=cs.length then some (n,(cs.drop o).take (n*sz))else none|_=>none
 |_=>none
theorem EJ{cs:List Value}{k:Nat}:∀{xs:List (List DV)} {o:Nat},(∀x∈xs,x.length=k)->o+xs.length*k<=cs.length->(∀(j:Nat) (x:List DV) (i:Nat) (v:Value) (d:DV),xs[j]? =some x->x[i]? =some d->cs[o+j*k+i]? =some v->Rel R v d)->b8 R ((cs.drop o).take (xs.length*k)) xs.flatten
 |[],o,_,_,_=>by simp only[List.length_nil,Nat.zero_mul,List.take_zero,List.flatten_nil];exact .nil
 |x::xs,o,h1,h2,h3=>by
  have hx:x.length=k:=h1 x (by simp);simp only[List.length_cons,PX,Nat.one_mul]at h2⊢;have e1:(cs.drop o).take (xs.length*k+k)=(cs.drop o).take k++(cs.drop (o+k)).take (xs.length*k):=by
   rw[Nat.add_comm,List.take_add,List.drop_drop]
  rw[e1,List.flatten_cons];refine aO.append (pR (by rw[Er,GP,hx];omega) λi v d h4 h5=> ?_) (EJ (λy hy=>h1 y (List.mem_cons_of_mem _ hy)) (by omega) λj y i v d h4 h5 h6=>h3 (j+1) y i v d (by simpa using h4) h5 (by rw[<-h6];congr 1;rw[PX];omega));rw[VK]at h4
  split at h4
  . rw[W2]at h4;exact h3 0 x i v d rfl h5 (by rw[<-h4];congr 1;omega)
  . cases h4
theorem EK(x:bH G h dh){sz n:Nat}{v:Value}{d:DV}{cs:List DV}(hv:Rel (aI h G) v d)(hd:fy dh sz d=some (n,cs)):∃xb xc new,v=.slice xb n xc/\gW h sz n v=some new/\b8 (aI h G) new cs/\new.length=n*sz:=by
 unfold fy at hd
 split at hd
 . rename_i k xs
   split at hd
   . rename_i hk;subst hk;simp only[xS,W9]at hd;obtain⟨rfl,rfl⟩:=hd;cases hv with
     |j9 _=>exact⟨_,_,[],rfl,rfl,.nil,by simp⟩
     | @sl b o c _ ah aN _ h1 h2 h3 h4 h5 h6 h7=>
      obtain⟨_,wr,hg⟩:=pS h1;have hl:((aN.drop o).take (xs.length*k)).length=xs.length*k:=by rw[Er,GP];omega
      exact⟨_,_,(aN.drop o).take (xs.length*k),rfl,by simp only[gW,fF,hg,hl,Qc,cond_true],EJ h5 h6 h7,hl⟩
   . cases hd
 . split at hd
   . rename_i hn;simp only[xS,W9]at hd;obtain⟨rfl,rfl⟩:=hd;have:=hv.cG;subst this;subst hn;exact⟨_,_,[],rfl,rfl,.nil,by simp⟩
   . cases hd
 . rename_i b o m c
   split at hd
   . rename_i bD wr ah hg
     split at hd
     . rename_i hl;simp only[xS,W9]at hd;obtain⟨rfl,rfl⟩:=hd;have:=hv.cG;subst this;obtain⟨_,ao,g1,g2⟩:=x.obj _ _ hg;cases g2 with
       | @row aN _ _ _ g2=>
        have bf:((aN.drop o).take (m*sz)).length=m*sz:=by rw[Er,GP,g2.length];omega
        exact⟨_,_,(aN.drop o).take (m*sz),rfl,by simp only[gW,fF,g1,bf,Qc,cond_true],uM g2 _ _,bf⟩
     . cases hd
   . cases hd
 . cases hd
def kX:List DV->Option (List Int)
 |[]=>some []
 |.v (.int .u8 n)::r=>(kX r).map (n::·)
 |_=>none
theorem EL:∀{cs:List Value} {ds:List DV} {ns:List Int},b8 R cs ds->kX ds=some ns->qC cs=some ns
 |[],_,ns,.nil,h=>by simp only[kX,xS]at h;subst h;rfl
 |c::cs,d::ds,ns,.cons h1 h2,h=>by
  match d,h1,h with
  |.v (.int .u8 n),h1,h=>
   simp only[kX,qe]at h;obtain⟨r,h3,rfl⟩:=h;have:=h1.cG;subst this;simp only[qC,EL h2 h3,PO]
def Env.lH(e:Env)(s d:TypeId):Bool:=match e.under s,e.under d with
 |some (.slice el),some .string=>match e.under el with|some (.int .u8)=>true|_=>false
 |_,_=>false
def rA(e:Env)(s d:TypeId)(a:Value):Option Value:=bif plain a then eD e.P (convert s d a)else none
def rB:Option (Nat×List DV)->Option DV
 |some (n+1,cs)=>(kX cs).map λns=>.v (.string (strOf ns))
 |_=>none
def mv(e:Env)(dh:ab)(s d:TypeId)(x:DV):Option DV:=match e.lH s d with
 |true=>rB (fy dh 1 x)
 |false=>kV (rA e s d) x
theorem QC(x:bH G h dh){s d:TypeId}{v:Value}{c c':DV}(hv:Rel (aI h G) v c)(hd:mv e dh s d c=some c'):∃v',oB e h s d v=some v'/\Rel (aI h G) v' c':=by
 unfold mv at hd
 split at hd
 . rename_i hb;unfold Env.lH at hb
   split at hb
   . rename_i el hu bs
     split at hb
     . rename_i bt;unfold rB at hd
       split at hd
       . rename_i n cs aW;simp only[qe]at hd;obtain⟨ns,h1,rfl⟩:=hd;obtain⟨xb,xc,new,rfl,q1,q2,q3⟩:=EK x hv aW;cases xb with
         |none=>
          simp only[gW,xS]at q1;subst q1;simp at q3
         |some a=>
          simp only[gW,Nat.mul_one]at q1;refine⟨.string (strOf ns), ?_,.v _⟩;have:plain (.slice (some a) (n+1) xc)=false:=rfl;simp only[oB,this,cond_false,od,hu,bs,bt,q1,EL q2 h1,PO]
       . cases hd
     . cases hb
   . cases hb
 . refine Aa (f:=oB e h s d) hv ?_;unfold kV at hd⊢
   split at hd
   . rename_i u hu;simp only[qe]at hd;obtain⟨w,h1,rfl⟩:=hd;unfold rA at h1;obtain⟨hp,h1⟩:=bU h1;simp only[oB,hp,cond_true,h1,PO]
   . cases hd
def pX(c:Option DV)(a b:Option DV):Option DV:=match c with
 |some (.v (.bool true))=>a
 |some (.v (.bool false))=>b
 |_=>none
def nB(f:FuncId):Option (List DV)->Option (List DV)->Option DV
 |some a,some b=>some (.fn f a b)
 |_,_=>none
def oI(e:Env)(dh:ab)(bx:Array TypeId):Option (List DV)->Option DV
 |some [x]=>match bx[0]? with|none=>none|some ty=>gO e dh ty x
 |_=>none
def pY(l:List DV):Option (List Value):=l.mapM exact
def aS(e:Env)(dh:ab)(t:Tr DV):Op->Option DV
 |.move x|.assign x=>aB e t x
 |.pick c a b=>pX (aB e t c) (aB e t a) (aB e t b)
 |.build ty parts=>(fw e t parts.toList).bind (eA e ty)
 |.load ty a=>(aB e t a).bind (iA e dh ty)
 |.nilCheck x=>(aB e t x).bind kJ
 |.binOp op ty x y _=>fI (iY e op ty x y) (aB e t x) (aB e t y)
 |.unOp op _ x=>(aB e t x).bind (kV (np e op))
 |.convert s d x=>(aB e t x).bind (mv e dh s d)
 |.makeInterface ty x=>(aB e t x).bind (kV (uB e ty))
 |.makeFunc (.func f) first cap=>nB f (cz e t first.toList) (cz e t cap.toList)
 |.slice ty x lo hi mx=>dz e dh ty (aB e t x) (eh e t lo) (eh e t hi) (eh e t mx)
 |.fieldAddr s x f=>(aB e t x).bind (kc e s f)
 |.field ty x f=>(aB e t x).bind (pU e ty f)
 |.indexAddr ty x ix=>fI (λa b=>ia e ty a (fx b)) (aB e t x) (aB e t ix)
 |.index ty x ix=>fI (mr e ty) (aB e t x) (aB e t ix)
 |.lookup ty m k ok=>fI (kK e dh ty ok) (aB e t m) (aB e t k)
 |.extract x i=>(aB e t x).bind (lG i)
 |.call c=>match c.callee with
  |.builtin .len=>oI e dh c.argTypes (cz e t c.args.toList)
  |.builtin .min=>((cz e t c.args.toList).bind pY).bind λl=>(pJ e l).map .v
  |.builtin .max=>((cz e t c.args.toList).bind pY).bind λl=>(qZ e l).map .v
  |_=>none
 |_=>none
theorem pZ{f:DV->Option DV}{g:Value->Option Value}(ht:TD R t dt){o:Operand}{d:DV}(hf:∀v d,Rel R v d->∀d',f d=some d'->∃v',g v=some v'/\Rel R v' d')(hd:(aB e dt o).bind f=some d):∃v,(aw e t o).bind g=some v/\Rel R v d:=by
 obtain⟨x,h1,h2⟩:=DE.1 hd;obtain⟨v,h3,h4⟩:=eP ht h1;rw[h3];exact hf v x h4 d h2
theorem xk{f:DV->DV->Option DV}{g:Value->Value->Option Value}(ht:TD R t dt){o p:Operand}{d:DV}(hf:∀v w d c,Rel R v d->Rel R w c->∀d',f d c=some d'->∃v',g v w=some v'/\Rel R v' d')(hd:fI f (aB e dt o) (aB e dt p)=some d):∃v,fQ g (aw e t o) (aw e t p)=some v/\Rel R v d:=by
 unfold fI at hd
 split at hd
 . rename_i x y hx hy;obtain⟨v,h3,h4⟩:=eP ht hx;obtain⟨w,h5,h6⟩:=eP ht hy;rw[h3,h5];exact hf v w x y h4 h6 d hd
 . cases hd
theorem xm(x:bH G h dh)(ht:TD (aI h G) t dt){op:Op}{d:DV}(hd:aS e dh dt op=some d):∃v,bu e h t op=some v/\Rel (aI h G) v d:=by
 cases op with
 |move o=>exact eP ht hd
 |assign o=>exact eP ht hd
 |pick c a b=>
  simp only[aS,pX]at hd;simp only[bu,qY]
  split at hd
  . rename_i hc;obtain⟨v,h1,h2⟩:=eP ht hc;have:=h2.cG;subst this;simp only[h1];exact eP ht hd
  . rename_i hc;obtain⟨v,h1,h2⟩:=eP ht hc;have:=h2.cG;subst this;simp only[h1];exact eP ht hd
  . cases hd
 |build ty parts=>
  obtain⟨ps,h1,h2⟩:=DE.1 hd;obtain⟨vs,h3,h4⟩:=zX ht h1;obtain⟨v,h5,h6⟩:=QB h4 h2;exact⟨v,by simp only[bu,mn,h3,h5],h6⟩
 |load ty a=>exact pZ ht (λv d hv d' h'=>EA x hv h') hd
 |nilCheck o=>exact pZ ht (λv d hv d' h'=>Qt hv h') hd
 |binOp op ty a b z=>exact xk ht (λv w d c hv hw d' h'=>Qu hv hw h') hd
 |unOp op z o=>exact pZ ht (λv d hv d' h'=>Aa hv h') hd
 |convert s dd o=>exact pZ ht (λv d hv d' h'=>QC x hv h') hd
 |makeInterface ty o=>exact pZ ht (λv d hv d' h'=>Aa hv h') hd
 |makeFunc fn first cap=>
  cases fn with
  |func f=>
   simp only[aS,nB]at hd
   split at hd
   . rename_i a b h1 h2;cases hd;obtain⟨vs,h3,h4⟩:=nA ht h1;obtain⟨ws,h5,h6⟩:=nA ht h2;exact⟨_,by simp only[bu,uC,h3,h5],Rel.Qj h4 h6⟩
   . cases hd
  |_=>simp[aS]at hd
 |slice ty o lo hi mx=>
  exact Qz x (λd h'=>eP ht h') (λd h'=>zY ht h') (λd h'=>zY ht h') (λd h'=>zY ht h') hd
 |fieldAddr s o f=>exact pZ ht (λv d hv d' h'=>Qo hv h') hd
 |field ty o f=>exact pZ ht (λv d hv d' h'=>Qp hv h') hd
 |indexAddr ty a b=>exact xk ht (λv w d c hv hw d' h'=>Qq hv hw h') hd
 |index ty a b=>exact xk ht (λv w d c hv hw d' h'=>Qr hv hw h') hd
 |lookup ty a b ok=>exact xk ht (λv w d c hv hw d' h'=>QA x hv hw h') hd
 |extract o i=>exact pZ ht (λv d hv d' h'=>Qs hv h') hd
 |call c=>
  simp only[aS]at hd;simp only[bu]
  split at hd
  . rename_i hc;simp only[hc];unfold oI at hd
    split at hd
    . rename_i y hy;obtain⟨vs,h1,h2⟩:=nA ht hy;cases h2 with
      | @cons v _ _ _ h2 h3=>
       cases h3;simp only[h1,uD]
       split at hd
       . cases hd
       . rename_i ty bz;simp only[bz];exact Qv x h2 hd
    . cases hd
  . rename_i hc;simp only[hc];obtain⟨us,h1,h2⟩:=DE.1 hd;obtain⟨ds,h3,h4⟩:=DE.1 h1;obtain⟨vs,h5,h6⟩:=nA ht h3;simp only[qe]at h2;obtain⟨r,h7,rfl⟩:=h2;refine⟨r, ?_,.v r⟩;rw[h5,ED h6 h4];exact h7
  . rename_i hc;simp only[hc];obtain⟨us,h1,h2⟩:=DE.1 hd;obtain⟨ds,h3,h4⟩:=DE.1 h1;obtain⟨vs,h5,h6⟩:=nA ht h3;simp only[qe]at h2;obtain⟨r,h7,rfl⟩:=h2;refine⟨r, ?_,.v r⟩;rw[h5,ED h6 h4];exact h7
  . cases hd
 |_=>simp[aS]at hd
end Go.au
end

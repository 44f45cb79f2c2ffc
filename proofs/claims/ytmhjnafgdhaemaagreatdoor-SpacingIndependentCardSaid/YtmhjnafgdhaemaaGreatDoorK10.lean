/- SpacingIndependent: parts of its proof. -/
import Derived.Test.YtmhjnafgdhaemaaGreatDoorProg
import Derived.KernelRfl
import Derived.RecoverIn
import Derived.RangeFuncNested
import Derived.Shelf.Abstract
import Derived.WalkKit
import Derived.Test.YtmhjnafgdhaemaaGreatDoorK09
open Nat renaming beq->qe,eq_of_beq_eq_true->DE,lt_of_lt_of_le->GP
open Bool renaming and_self->xS,false_and->PX
open List renaming map_cons->Er
open Array renaming replicate->PO
set_option linter.all false
set_option maxRecDepth 100000
noncomputable section
namespace Go.au
variable {e:Env} {ro:Option Nat}
theorem Nj(t:Tr Value)(i:Nat):aw e t (.tmp i)=t.get i:=rfl
theorem Nk(t:Tr Value)(f:FuncId):aw e t (.func f)=some (.func (.func f) #[] #[]):=rfl
theorem Nl(t:Tr Value)(k:IntKind)(n:Int):aw e t (.const (.int k n))=some (.int k n):=rfl
theorem Nm(t:Tr Value)(b:Bool):aw e t (.const (.bool b))=some (.bool b):=rfl
theorem Nn(t:Tr Value)(s:ByteArray):aw e t (.const (.string s))=some (.string s):=rfl
theorem No(t:Tr Value):aw e t (.const (.pointer none))=some (.pointer none):=rfl
theorem Np(t:Tr Value)(l k:Nat):aw e t (.const (.slice none l k))=some (.slice none l k):=rfl
theorem Nq(t:Tr Value):aw e t (.const (.map none))=some (.map none):=rfl
theorem Nr(t:Tr Value):aw e t (.const .nilFunc)=some .nilFunc:=rfl
theorem Ns(t:Tr Value):aw e t (.const .nilIface)=some .nilIface:=rfl
def zA(e:Env)(t:Tr Value)(r:List Operand):Option Value->Option (List Value)
 |none=>none
 |some v=>(cR e t r).map (v::·)
theorem Nt(t:Tr Value):cR e t []=some []:=rfl
theorem Nu(t:Tr Value)(o:Operand)(r:List Operand):cR e t (o::r)=zA e t r (aw e t o):=by
 simp only[cR,zA];cases aw e t o with
 |none=>rfl
 |some v=>simp only;cases cR e t r<;>rfl
theorem Nv(t:Tr Value)(r:List Operand)(v:Value):zA e t r (some v)=(cR e t r).map (v::·):=rfl
def zB(e:Env)(t:Tr Value)(i:Nat)(r:List (Nat×Operand)):Option Value->Option (List (Nat×Value))
 |none=>none
 |some v=>(eY e t r).map ((i,v)::·)
theorem Nw(t:Tr Value):eY e t []=some []:=rfl
theorem Nx(t:Tr Value)(i:Nat)(o:Operand)(r:List (Nat×Operand)):eY e t ((i,o)::r)=zB e t i r (aw e t o):=by
 simp only[eY,zB];cases aw e t o with
 |none=>rfl
 |some v=>simp only;cases eY e t r<;>rfl
theorem Ny(t:Tr Value)(i:Nat)(r:List (Nat×Operand))(v:Value):zB e t i r (some v)=(eY e t r).map ((i,v)::·):=rfl
theorem Nz(t:Tr Value):hY e t none=some none:=rfl
theorem NA(t:Tr Value)(o:Operand):hY e t (some o)=(aw e t o).map some:=rfl
theorem NB(a:List Value):gl a=Tr.ofList a 0 .nil:=rfl
theorem ofList_nil(i:Nat)(t:Tr Value):Tr.ofList [] i t=t:=rfl
theorem ofList_cons(v:Value)(l:List Value)(i:Nat)(t:Tr Value):Tr.ofList (v::l) i t=Tr.ofList l (i+1) (t.set i (some v)):=rfl
theorem NC(f:FuncId)(a c:Array Value)(args:List Value):pL (some (.func (.func f) a c)) (some args)=some (f,(a.toList++args)++c.toList):=rfl
theorem aC{x:Int}(h1:-9223372036854775808<=x)(h2:x<=9223372036854775807):IntKind.i64.wrap x=x:=by
 simp[IntKind.wrap,IntKind.bits,IntKind.signed];omega
section
variable (ty:TypeId) (x y:Operand) (k:IntKind) (n m:Int)
theorem ND:cD e .add ty x y (.int k n) (.int k m)=some (.int k (k.wrap (n+m))):=by simp[cD,kC]
theorem NF:cD e .sub ty x y (.int k n) (.int k m)=some (.int k (k.wrap (n-m))):=by simp[cD,kC]
theorem NG:cD e .mul ty x y (.int k n) (.int k m)=some (.int k (k.wrap (n*m))):=by simp[cD,kC]
theorem NH:cD e .eql ty x y (.int k n) (.int k m)=some (.bool (decide (n=m))):=by simp[cD,kC]
theorem NI:cD e .neq ty x y (.int k n) (.int k m)=some (.bool (!decide (n=m))):=by simp[cD,kC]
theorem NJ:cD e .lss ty x y (.int k n) (.int k m)=some (.bool (decide (n<m))):=by simp[cD,kC]
theorem NK:cD e .leq ty x y (.int k n) (.int k m)=some (.bool (decide (n<=m))):=by simp[cD,kC]
theorem NL:cD e .gtr ty x y (.int k n) (.int k m)=some (.bool (decide (m<n))):=by simp[cD,kC]
theorem NM:cD e .geq ty x y (.int k n) (.int k m)=some (.bool (decide (m<=n))):=by simp[cD,kC]
end
theorem NN(b:Bool):np e .not (.bool b)=some (.bool (!b)):=rfl
theorem NO(a b:Option Value):qY (some (.bool true)) a b=a:=rfl
theorem NP(a b:Option Value):qY (some (.bool false)) a b=b:=rfl
theorem NQ(a:Addr):qW (.pointer (some a))=some (.pointer (some a)):=rfl
theorem NR(f:FuncId)(a c:Array Value):qW (.func (.func f) a c)=some (.func (.func f) a c):=rfl
theorem NS(i:Nat)(vs:Array Value):qX i (.tuple vs)=vs[i]? :=rfl
theorem NT(f:FuncId)(a c:List Value):uC f (some a) (some c)=some (.func (.func f) a.toArray c.toArray):=rfl
theorem rk(b o n:Nat):Addr.add ⟨b,o,none⟩ n=⟨b,o+n,none⟩:=by
 unfold Addr.add
 split
 . rename_i h;subst h;rfl
 . rfl
def zC(b o:Nat):Option Nat->Option Value
 |none=>none
 |some k=>some (.pointer (some ⟨b,o+k,none⟩))
theorem NV(b o k:Nat):zC b o (some k)=some (.pointer (some ⟨b,o+k,none⟩)):=rfl
theorem zD(s f b o:Nat):qV e s f (.pointer (some ⟨b,o,none⟩))=zC b o (e.off s f):=by
 simp only[qV,gX];cases e.off s f with
 |none=>rfl
 |some k=>simp[zC,rk]
def zE:Option (List Value)->Option Value
 |none=>none
 |some l=>some (.agg l.toArray)
theorem NW(l:List Value):zE (some l)=some (.agg l.toArray):=rfl
theorem NY(h:aa)(b o:Nat):iT h b o 0=some []:=rfl
def zF(h:aa)(b o n:Nat):Option Value->Option (List Value)
 |none=>none
 |some v=>(iT h b o n).map (v::·)
theorem NZ(h:aa)(b o n:Nat):iT h b o (n+1)=zF h b (o+1) n (rd h b o):=by
 simp only[iT,zF];cases rd h b o<;>rfl
theorem N5(h:aa)(b o n:Nat)(v:Value):zF h b o n (some v)=(iT h b o n).map (v::·):=rfl
def wP(e:Env)(ty:TypeId)(h:aa)(b o:Nat):Option (Option Nat)->Option Value
 |some none=>rd h b o
 |some (some (n+1))=>match iT h b o (n+1)with
  |some l=>some (.agg l.toArray)
  |none=>gV e h ty ⟨b,o,none⟩
 |_=>gV e h ty ⟨b,o,none⟩
def Ee(e:Env)(ty:TypeId)(h:aa)(b o:Nat):Option (List Value)->Option Value
 |some l=>some (.agg l.toArray)
 |none=>gV e h ty ⟨b,o,none⟩
theorem N6(ty:TypeId)(h:aa)(b o:Nat):mm e h ty (.pointer (some ⟨b,o,none⟩))=wP e ty h b o (e.ld ty):=by
 simp only[mm,gX];unfold wP
 split
 . rename_i hl;exact zw hl
 . rename_i n hl
   split
   . rename_i l hr;exact LR hl hr
   . rfl
 . rfl
theorem N7(ty:TypeId)(h:aa)(b o:Nat):wP e ty h b o (some none)=rd h b o:=rfl
theorem N8(ty:TypeId)(h:aa)(b o n:Nat):wP e ty h b o (some (some (n+1)))=Ee e ty h b o (iT h b o (n+1)):=rfl
theorem N9(ty:TypeId)(h:aa)(b o:Nat)(l:List Value):Ee e ty h b o (some l)=some (.agg l.toArray):=rfl
def nr(b o len:Nat)(i:Int):Option Nat->Option Value
 |none=>none
 |some s=>if 0<=i/\i<len then some (.pointer (some ⟨b,o+i.toNat*s,none⟩))else none
theorem sK(b o len s:Nat)(i:Int)(h0:0<=i)(h1:i<len):nr b o len i (some s)=some (.pointer (some ⟨b,o+i.toNat*s,none⟩)):=by simp[nr,h0,h1]
theorem zG(ty:TypeId)(b o len cap:Nat)(k:IntKind)(i:Int):oC e ty (.slice (some ⟨b,o,none⟩) len cap) (.int k i)=nr b o len i (e.elem ty):=by
 simp only[oC,intOf,Env.elem,nr];cases hu:e.under ty with
 |none=>rfl
 |some d=>
  cases d with
  |slice el=>
   simp only;cases e.size el with
   |none=>rfl
   |some s=>
    simp only[rk];by_cases h0:0<=i<;>by_cases h1:i<(len:Int)<;>simp[h0,h1]
  |_=>rfl
def nu(b o:Nat)(i:Int):Option (Nat×Nat)->Option Value
 |none=>none
 |some (n,s)=>if 0<=i/\i<n then some (.pointer (some ⟨b,o+i.toNat*s,none⟩))else none
theorem dF(b o n s:Nat)(i:Int)(h0:0<=i)(h1:i<n):nu b o i (some (n,s))=some (.pointer (some ⟨b,o+i.toNat*s,none⟩)):=by simp[nu,h0,h1]
theorem zH(ty:TypeId)(b o:Nat)(k:IntKind)(i:Int):oC e ty (.pointer (some ⟨b,o,none⟩)) (.int k i)=nu b o i (e.arr ty):=by
 simp only[oC,intOf,Env.arr,nu];cases hu:e.under ty with
 |none=>rfl
 |some d=>
  cases d with
  |array n el=>
   simp only;cases e.size el with
   |none=>rfl
   |some s=>
    simp only[rk];by_cases h0:0<=i<;>by_cases h1:i<(n:Int)<;>simp[h0,h1]
  |_=>rfl
def zI(e:Env)(h:aa)(ty:TypeId)(a:Option Addr)(l c:Nat):Option Nat->Option Value
 |some _=>some (.int .i64 l)
 |none=>fk e h ty (.slice a l c)
theorem wQ(h:aa)(ty:TypeId)(a:Option Addr)(l c:Nat):fk e h ty (.slice a l c)=zI e h ty a l c (e.elem ty):=by
 cases hs:e.elem ty with
 |none=>rfl
 |some s=>
  simp only[zI];unfold Env.elem at hs
  split at hs
  . rename_i hu;simp[fk,hu]
  . cases hs
theorem Oa(h:aa)(ty:TypeId)(a:Option Addr)(l c s:Nat):zI e h ty a l c (some s)=some (.int .i64 l):=rfl
theorem pO(h:aa)(o:bF):(h.new o).get h.next=some o:=by rw[aa.di,if_pos rfl]
theorem bD(h:aa)(o:bF)(j:Nat)(hj:j≠h.next):(h.new o).get j=h.get j:=by rw[aa.di,if_neg hj]
theorem dT(h:aa)(i:Nat)(o:Option bF):(h.set i o).get i=o:=by rw[aa.bn,if_pos rfl]
theorem bl(h:aa)(i j:Nat)(o:Option bF)(hj:j≠i):(h.set i o).get j=h.get j:=by rw[aa.bn,if_neg hj]
theorem Ob(h:aa)(cs:List Value)(wr:Bool)(ah:Nat)(o:Nat):rd (h.new (.row cs wr ah)) h.next o=cs[o]? :=cI (pO _ _)
theorem cU(h:aa)(ob:bF)(j o:Nat)(hj:j≠h.next):rd (h.new ob) j o=rd h j o:=by unfold rd;rw[bD _ _ _ hj]
theorem Ef(h:aa)(i:Nat)(cs:List Value)(wr:Bool)(ah:Nat)(o:Nat):rd (h.set i (some (.row cs wr ah))) i o=cs[o]? :=cI (dT _ _ _)
theorem dO(h:aa)(i j o:Nat)(ob:Option bF)(hj:j≠i):rd (h.set i ob) j o=rd h j o:=by unfold rd;rw[bl _ _ _ _ hj]
def uF:Option Value->Option (bF×(Nat->Value))
 |none=>none
 |some v=>some (.row v.cells.toList true 0,λi=>.pointer (some ⟨i,0,none⟩))
theorem Oc(t:Tr Value)(ty:TypeId)(x:Operand):cF e t (.box ty x)=uF (aw e t x):=by
 simp only[cF,uF];cases aw e t x<;>rfl
theorem Oe(t:Tr Value)(ty:TypeId):cF e t (.alloc ty)=uF (e.zero ty):=by
 simp only[cF,uF];cases e.zero ty<;>rfl
theorem Of(v:Value):uF (some v)=some (.row v.cells.toList true 0,λi=>.pointer (some ⟨i,0,none⟩)):=rfl
theorem Og(cs:Array Value):(Value.agg cs).cells=cs:=rfl
theorem Oh(k:IntKind)(n:Int):(Value.int k n).cells=#[.int k n]:=rfl
theorem Oi(b:Bool):(Value.bool b).cells=#[.bool b]:=rfl
theorem Oj(s:ByteArray):(Value.string s).cells=#[.string s]:=rfl
theorem Ol(a:Option Addr):(Value.pointer a).cells=#[.pointer a]:=rfl
theorem Om(a:Option Addr)(l c:Nat):(Value.slice a l c).cells=#[.slice a l c]:=rfl
theorem Oo(a:Option Nat):(Value.map a).cells=#[.map a]:=rfl
theorem Oq(f:Fn)(a c:Array Value):(Value.func f a c).cells=#[.func f a c]:=rfl
theorem Ot:(Value.nilFunc).cells=#[.nilFunc]:=rfl
theorem Eg{h:aa}{ty:TypeId}{n b o:Nat}{v:Value}(hs:e.size ty=some n)(hn:v.cells.toList.length=n)(h0:0<n):pK e h ty (some (.pointer (some ⟨b,o,none⟩))) (some v)=nn h b o v.cells.toList:=by
 simp only[pK,gX,n9,hs,<-hn,Nat.beq_refl,cond_true]
 match hc:v.cells.toList with
 |[]=>rw[hc]at hn;simp at hn;omega
 |w::vs=>exact D9
def wR(e:Env)(h:aa)(ty:TypeId)(b o:Nat)(v:Value):Option Nat->Option aa
 |none=>none
 |some n=>if v.cells.toList.length=n/\0<n then nn h b o v.cells.toList else n9 e h ty ⟨b,o,none⟩ v
theorem Ou(h:aa)(ty:TypeId)(b o:Nat)(v:Value):pK e h ty (some (.pointer (some ⟨b,o,none⟩))) (some v)=wR e h ty b o v (e.size ty):=by
 cases hs:e.size ty with
 |none=>simp[pK,gX,n9,hs,wR]
 |some n=>
  simp only[wR]
  split
  . rename_i hc;exact Eg hs hc.1 hc.2
  . rfl
theorem Ov(h:aa)(ty:TypeId)(b o:Nat)(v:Value)(n:Nat):wR e h ty b o v (some n)=if v.cells.toList.length=n/\0<n then nn h b o v.cells.toList else n9 e h ty ⟨b,o,none⟩ v:=rfl
def zJ(h:aa)(b o:Nat)(vs:List Value):Option bF->Option aa
 |some (.row cs true ah)=>if o+vs.length<=cs.length/\vs.all dw=true then some (h.set b (some (.row (dN cs o vs) true ah)))else none
 |_=>none
theorem Ow(h:aa)(b o:Nat)(vs:List Value):nn h b o vs=zJ h b o vs (h.get b):=by
 unfold nn zJ;cases h.get b with
 |none=>rfl
 |some ob=>
  cases ob with
  |row cs wr ah=>cases wr<;>rfl
  |_=>rfl
theorem Ox(h:aa)(b o:Nat)(vs cs:List Value)(ah:Nat):zJ h b o vs (some (.row cs true ah))=if o+vs.length<=cs.length/\vs.all dw=true then some (h.set b (some (.row (dN cs o vs) true ah)))else none:=rfl
theorem Oy(cs:List Value)(o:Nat)(vs:List Value):dN cs o vs=cs.take o++vs++cs.drop (o+vs.length):=rfl
def uG(e:Env)(s:aE)(r:List ResultVar):Option Value->Option (List Value)
 |none=>none
 |some v=>(gL e s r).map (v::·)
theorem Oz(s:aE):gL e s []=some []:=rfl
theorem Eh(s:aE)(i:Nat)(r:List ResultVar):gL e s (.tmp i::r)=uG e s r (s.t.get i):=by
 simp only[gL,uG];cases s.t.get i with
 |none=>rfl
 |some v=>cases gL e s r<;>rfl
theorem Ei(s:aE)(i ty:Nat)(r:List ResultVar):gL e s (.cell i ty::r)=uG e s r ((s.t.get i).bind (mm e s.h ty)):=by
 simp only[gL,uG];cases s.t.get i with
 |none=>rfl
 |some v=>
  simp only[Option.bind_some];cases ha:gX v with
  |none=>simp[mm,ha]
  |some a=>cases hl:gV e s.h ty a<;>cases hr:gL e s r<;>simp[mm,ha,hl,hr]
theorem zK(s:aE)(r:List ResultVar)(v:Value):uG e s r (some v)=(gL e s r).map (v::·):=rfl
theorem OA(k:IntKind)(n:Int):dw (.int k n)=true:=rfl
theorem OB(b:Bool):dw (.bool b)=true:=rfl
theorem OC(s:ByteArray):dw (.string s)=true:=rfl
theorem OD(a:Option Addr):dw (.pointer a)=true:=rfl
theorem OE(a:Option Addr)(l c:Nat):dw (.slice a l c)=true:=rfl
theorem OF(a:Option Nat):dw (.map a)=true:=rfl
theorem OG(f:Fn)(a c:Array Value):dw (.func f a c)=true:=rfl
theorem OH:dw .nilFunc=true:=rfl
attribute [go_sem] fR LV LW LX LY LZ L0 L3 L4 L5 L6 L7 L8 L9 Ma Mb Mc Md Me Mf Mg Mh Mi Mj Mk Ml Mm Mn Mo Mp Mq Mr Ms Mu Mv Mw Mx My Mz MA MB MC MD ME MF MG MH MJ MK ML MM MN MO MP MQ MR MT MU MV MW MX MY MZ Na Nb Nc Nd Ng Nh Nj Nk Nl Nm Nn No Np Nq Nr Ns Nt Nu Nv Nw Nx Ny Nz NA Tr.bn NB ofList_nil ofList_cons NC ND NF NG NH NI NJ NK NL NM NN NO NP NQ NR NS NT rk zD NV N6 N7 N8 N9 zG zH NW NY NZ N5 Ob Ef Of Oc Oe Og Oh Oi Oj Ol Om Oo Oq Ot Oz Eh Ei zK aa.aX aa.aR wQ Oa sF Ou Ov Ow Ox Oy pO dT OA OB OC OD OE OF OG OH
end Go.au
end
noncomputable section
namespace Go.au
variable {e:Env} {ro:Option Nat}
structure Sub(h g:aa):Prop where
 next:h.next<=g.next
 get:∀i o,i<h.next->h.get i=some o->g.get i=some o
theorem Sub.refl(h:aa):Sub h h:=⟨Nat.le_refl _,λ_ _ _ h=>h⟩
theorem Sub.trans{h g k:aa}(a:Sub h g)(b:Sub g k):Sub h k:=⟨Nat.le_trans a.next b.next,λi o hi ho=>b.get i o (GP hi a.next) (a.get i o hi ho)⟩
theorem Sub.new{h g:aa}(a:Sub h g)(o:bF):Sub h (g.new o):=
 ⟨Nat.le_succ_of_le a.next,λi p hi hp=>by rw[bD _ _ _ (by have:=a.next;omega)];exact a.get i p hi hp⟩
theorem Sub.set{h g:aa}{i:Nat}(a:Sub h g)(hi:h.next<=i)(o:Option bF):Sub h (g.set i o):=
 ⟨a.next,λj p hj hp=>by rw[bl _ _ _ _ (by omega)];exact a.get j p hj hp⟩
theorem Sub.rd{h g:aa}(a:Sub h g){b o:Nat}{v:Value}(hb:b<h.next)(hv:au.rd h b o=some v):au.rd g b o=some v:=by
 unfold au.rd at hv⊢;cases hg:h.get b with
 |none=>simp[hg]at hv
 |some ob=>rw[a.get b ob hb hg];rw[hg]at hv;exact hv
theorem OI(h:aa):Sub h h=True:=eq_true (Sub.refl h)
theorem OJ{h g:aa}(a:Sub h g)(o:bF):Sub h (g.new o)=True:=eq_true (a.new o)
theorem bK.still{f:FuncId}{args:List Value}{h:aa}{v:Value}{h1:aa}(hr:bK e f args h v h1)(hs:Sub h h1)
 (hv:∀ρ w (ab:List Value),Gl e ρ->bE ρ args ab->bh ρ h w->∃u,aJ ρ v u):bK e f args h v h:=by
 refine⟨hr.1,λρ w ab hg ha x=>(hr.2 ρ w ab hg ha x).mono ?_⟩;rintro en w' ⟨v',az,rfl,q1,q2,q3⟩;obtain⟨u,hu⟩:=hv ρ w ab.toList hg ha x;refine⟨v',ρ,rfl,hu.back q3.ext q1,⟨x.gM,λi o ho=> ?_,x.sep⟩, ?_⟩
 . obtain⟨pl,h2,h3⟩:=x.obj i o ho;obtain⟨pl',ad,ae⟩:=q2.obj i o (hs.get i o (x.gM i pl h2) ho);rw[q3.ext _ _ h2]at ad;cases ad;exact⟨pl,h2,h3.back q3.ext ae⟩
 . exact⟨Ext.refl _,q3.os,q3.output,q3.size,q3.frozen,q3.kept,λi o pl a b c=>.inl ⟨i,o,pl,a,b,c,rfl⟩,λ_ _ a _=>a,λ_ a b=>absurd a b,λ_ o a _=>⟨o,a⟩,Nat.le_refl _⟩
theorem bK.plain{f:FuncId}{args:List Value}{h:aa}{v:Value}{h1:aa}(hr:bK e f args h v h1)(hs:Sub h h1)(hv:au.plain v=true):bK e f args h v h:=
 hr.still hs λρ _ _ _ _ _=>⟨v,m9 hv⟩
def KR(K:Value->aa->Prop)(h:aa):List Value->Prop:=λvs=>K (jE vs) h
theorem OK(K:Value->aa->Prop)(h:aa)(vs:List Value):KR K h vs=K (jE vs) h:=rfl
theorem OL(v:Value):jE [v]=v:=rfl
theorem OM(v w:Value)(r:List Value):jE (v::w::r)=.tuple (v::w::r).toArray:=rfl
theorem ON:jE []=.tuple #[]:=rfl
theorem OO(rs:List ResultVar)(K:Value->aa->Prop)(t:Tr Value)(n:Nat)(h:aa):oA e rs K .ret ⟨t,n,[],h⟩=aG (gL e ⟨t,n,[],h⟩ rs) (KR K h):=by
 simp only[oA,kD,KR,aG,Option.some.injEq];exact propext ⟨λ⟨_,h1,vs,e1,e2,e3⟩=>by subst e1;exact⟨vs,e2,e3⟩,λ⟨vs,e2,e3⟩=>⟨λi h=>(by cases h),h,vs,rfl,e2,e3⟩⟩
def rn(m:Nat)(l:cZ):cZ:=l.filter λq=> !m.testBit q.1
theorem OP(m:Nat):rn m []=[]:=rfl
theorem OQ(m i id:Nat)(o:bF)(r:cZ):rn m ((i,id,o)::r)=if m.testBit i=true then rn m r else(i,id,o)::rn m r:=by
 simp only[rn,List.filter_cons];cases m.testBit i<;>rfl
section
variable (ops:List Oper) (dst:Option Tmp) (op:Op) (ty:TypeId) (pos:String) (af:Array Edge) (r:List Oper) (m:Nat) (dy:Option (Nat×Nat)) (pl:List PI) (i id:Nat) (t:Tr Value) (n:Nat) (ds:List Deferred) (h:aa) (aq all:cZ) (st:List (Nat×aa)) (sn:List (Tr Value)) (K:cm->Prop)
def zL(e:Env)(ro:Option Nat)(ops r:List Oper)(pl:List PI)(i id:Nat)(t:Tr Value)(n:Nat)(ds:List Deferred)(h:aa)(aq all:cZ)(st:List (Nat×aa))(sn:List (Tr Value))(K:cm->Prop)(dst:Option Tmp):Value->Prop:=
 λv=>bX e ro ops r pl (i+1) id (bB dst v t) n ds h aq all st (t::sn) K
def Ej(e:Env)(ro:Option Nat)(ops r:List Oper)(pl:List PI)(i id:Nat)(t:Tr Value)(n:Nat)(ds:List Deferred)(h:aa)(aq all:cZ)(st:List (Nat×aa))(sn:List (Tr Value))(K:cm->Prop)(dst:Option Tmp):bF×(Nat->Value)->Prop:=
 λq=>bX e ro ops r pl (i+1) (id+1) (bB dst (q.2 id) t) n ds h ((i,id,q.1)::aq) ((i,id,q.1)::all) st (t::sn) K
def Ek(e:Env)(ro:Option Nat)(ops r:List Oper)(m:Nat)(pl:List PI)(i id:Nat)(t:Tr Value)(n:Nat)(aq all:cZ)(st:List (Nat×aa))(sn:List (Tr Value))(K:cm->Prop)(dst:Option Tmp):Kt:=
 λv ds h=>bX e ro ops r pl (i+1) id (bB dst v t) n ds h (aq.filter λq=> !m.testBit q.1) all ((Nat.lor ((st.head?.map (·.1)).getD 0) m,h)::st) (t::sn) K
theorem OR(v:Value):zL e ro ops r pl i id t n ds h aq all st sn K dst v=bX e ro ops r pl (i+1) id (bB dst v t) n ds h aq all st (t::sn) K:=rfl
theorem OS(o:bF)(f:Nat->Value):Ej e ro ops r pl i id t n ds h aq all st sn K dst (o,f)=bX e ro ops r pl (i+1) (id+1) (bB dst (f id) t) n ds h ((i,id,o)::aq) ((i,id,o)::all) st (t::sn) K:=rfl
theorem OT(v:Value):Ek e ro ops r m pl i id t n aq all st sn K dst v ds h=bX e ro ops r pl (i+1) id (bB dst v t) n ds h (rn m aq) all ((Nat.lor ((st.head?.map (·.1)).getD 0) m,h)::st) (t::sn) K:=rfl
theorem El:bX e ro ops [] pl i id t n ds h aq all st sn K=K ⟨⟨t,n,ds,h⟩,aq,all,st,sn⟩:=by cases pl<;>rfl
theorem OU:bX e ro ops (⟨dst,op,ty,pos,af,none⟩::r) (⟨.pure,m,dy⟩::pl) i id t n ds h aq all st sn K=(c9 dst n/\aG (bu e h t op) (zL e ro ops r pl i id t n ds h aq all st sn K dst)):=rfl
theorem OV:bX e ro ops (⟨dst,op,ty,pos,af,none⟩::r) (⟨.read,m,dy⟩::pl) i id t n ds h aq all st sn K=(c9 dst n/\aG (bu e (bW h m aq) t op) (zL e ro ops r pl i id t n ds h aq all st sn K dst)):=rfl
theorem OW:bX e ro ops (⟨dst,op,ty,pos,af,none⟩::r) (⟨.alloc,m,dy⟩::pl) i id t n ds h aq all st sn K=(c9 dst n/\aG (cF e t op) (Ej e ro ops r pl i id t n ds h aq all st sn K dst)):=rfl
theorem OX:bX e ro ops (⟨dst,op,ty,pos,af,none⟩::r) (⟨.effect,m,dy⟩::pl) i id t n ds h aq all st sn K=(c9 dst n/\bA e ro op t ds (bW h m aq) (Ek e ro ops r m pl i id t n aq all st sn K dst)):=rfl
end
def sL(e:Env)(ro:Option Nat)(ops r:List Oper)(o:Oper)(p:PI)(pl:List PI)(i id:Nat)(t:Tr Value)(n:Nat)(ds:List Deferred)(h:aa)(aq all:cZ)(st:List (Nat×aa))(sn:List (Tr Value))(K:cm->Prop)(w:Bool):Value->Prop:=λg=>match g with
 |.bool b=>(b=w->(match p.c with
 |.pure=>aG (bu e h t o.op) λv=>bX e ro ops r pl (i+1) id (bB o.dst v t) n ds h aq all st (t::sn) K
 |.read=>aG (bu e (bW h p.m aq) t o.op) λv=>bX e ro ops r pl (i+1) id (bB o.dst v t) n ds h aq all st (t::sn) K
 |.alloc=>aG (cF e t o.op) λq=>bX e ro ops r pl (i+1) (id+1) (bB o.dst (q.2 id) t) n ds h ((i,id,q.1)::aq) ((i,id,q.1)::all) st (t::sn) K
 |.effect=>bA e ro o.op t ds (bW h p.m aq) λv ds h=>bX e ro ops r pl (i+1) id (bB o.dst v t) n ds h (aq.filter λq=> !p.m.testBit q.1) all ((Nat.lor ((st.head?.map (·.1)).getD 0) p.m,h)::st) (t::sn) K
 |.bad=>False))/\(b= !w->(match p.c with
 |.effect=>bX e ro ops r pl (i+1) id (bB o.dst undef t) n ds h aq all (((st.head?.map (·.1)).getD 0,h)::st) (t::sn) K
 |.alloc=>bX e ro ops r pl (i+1) (id+1) (bB o.dst undef t) n ds h aq all st (t::sn) K
 |.bad=>False
 |_=>bX e ro ops r pl (i+1) id (bB o.dst undef t) n ds h aq all st (t::sn) K))
 |.tuple _=>(match p.c with
 |.effect=>bX e ro ops r pl (i+1) id (bB o.dst undef t) n ds h aq all (((st.head?.map (·.1)).getD 0,h)::st) (t::sn) K
 |.alloc=>bX e ro ops r pl (i+1) (id+1) (bB o.dst undef t) n ds h aq all st (t::sn) K
 |.bad=>False
 |_=>bX e ro ops r pl (i+1) id (bB o.dst undef t) n ds h aq all st (t::sn) K)
 |_=>False
def Em(e:Env)(ro:Option Nat)(ops r:List Oper)(o:Oper)(p:PI)(pl:List PI)(i id:Nat)(t:Tr Value)(n:Nat)(ds:List Deferred)(h:aa)(aq all:cZ)(st:List (Nat×aa))(sn:List (Tr Value))(K:cm->Prop)(w:Bool):Tmp->Prop:=λd=>aG (t.get d) (sL e ro ops r o p pl i id t n ds h aq all st sn K w)
section
variable (ops:List Oper) (dst:Option Tmp) (op:Op) (ty:TypeId) (pos:String) (af:Array Edge) (r:List Oper) (m:Nat) (dy:Option (Nat×Nat)) (pl:List PI) (i id:Nat) (t:Tr Value) (n:Nat) (ds:List Deferred) (h:aa) (aq all:cZ) (st:List (Nat×aa)) (sn:List (Tr Value)) (K:cm->Prop) (w:Bool)
theorem OY(j:Nat)(p:PI):bX e ro ops (⟨dst,op,ty,pos,af,some (j,w)⟩::r) (p::pl) i id t n ds h aq all st sn K=
 (c9 dst n/\aG ((ops[j]?).bind (·.dst)) (Em e ro ops r ⟨dst,op,ty,pos,af,none⟩ p pl i id t n ds h aq all st sn K w)):=rfl
theorem OZ(o:Oper)(p:PI)(d:Tmp):Em e ro ops r o p pl i id t n ds h aq all st sn K w d=aG (t.get d) (sL e ro ops r o p pl i id t n ds h aq all st sn K w):=rfl
theorem O0:sL e ro ops r ⟨dst,op,ty,pos,af,none⟩ ⟨.pure,m,dy⟩ pl i id t n ds h aq all st sn K w undef=bX e ro ops r pl (i+1) id (bB dst undef t) n ds h aq all st (t::sn) K:=rfl
theorem O2:sL e ro ops r ⟨dst,op,ty,pos,af,none⟩ ⟨.read,m,dy⟩ pl i id t n ds h aq all st sn K w undef=bX e ro ops r pl (i+1) id (bB dst undef t) n ds h aq all st (t::sn) K:=rfl
theorem O3:sL e ro ops r ⟨dst,op,ty,pos,af,none⟩ ⟨.alloc,m,dy⟩ pl i id t n ds h aq all st sn K w undef=bX e ro ops r pl (i+1) (id+1) (bB dst undef t) n ds h aq all st (t::sn) K:=rfl
theorem O4:sL e ro ops r ⟨dst,op,ty,pos,af,none⟩ ⟨.effect,m,dy⟩ pl i id t n ds h aq all st sn K w undef=bX e ro ops r pl (i+1) id (bB dst undef t) n ds h aq all (((st.head?.map (·.1)).getD 0,h)::st) (t::sn) K:=rfl
end
theorem O5(h:aa)(m:Nat):bW h m []=h:=rfl
theorem zM(h:aa)(m i id:Nat)(o:bF)(r:cZ):bW h m ((i,id,o)::r)=if m.testBit i=true then(bW h m r).set id (some o)else bW h m r:=by
 simp only[bW];cases m.testBit i<;>rfl
theorem O6(h:aa):eO h []=h:=rfl
theorem En(h:aa)(i id:Nat)(o:bF)(r:cZ):eO h ((i,id,o)::r)=(eO h r).set id (some o):=rfl
section
variable (h:aa) (t:Tr Value)
theorem O7(x:Operand):bu e h t (.move x)=aw e t x:=rfl
theorem O8(x:Operand):bu e h t (.assign x)=aw e t x:=rfl
theorem O9(c a b:Operand):bu e h t (.pick c a b)=qY (aw e t c) (aw e t a) (aw e t b):=rfl
theorem Pa(ty:TypeId)(l:List (Nat×Operand)):bu e h t (.build ty l.toArray)=mn e ty (eY e t l):=by simp[bu]
theorem Pb(ty:TypeId)(a:Operand):bu e h t (.load ty a)=(aw e t a).bind (mm e h ty):=rfl
theorem Pc(x:Operand):bu e h t (.nilCheck x)=(aw e t x).bind qW:=rfl
theorem Pd(op:BinOp)(ty:TypeId)(x y:Operand)(z:TypeId):bu e h t (.binOp op ty x y z)=fQ (cD e op ty x y) (aw e t x) (aw e t y):=rfl
theorem Pe(op:UnOp)(ty:TypeId)(x:Operand):bu e h t (.unOp op ty x)=(aw e t x).bind (np e op):=rfl
theorem Pf(s d:TypeId)(x:Operand):bu e h t (.convert s d x)=(aw e t x).bind (oB e h s d):=rfl
theorem Pg(ty:TypeId)(x:Operand):bu e h t (.makeInterface ty x)=(aw e t x).bind (uB e ty):=rfl
theorem Ph(ty:TypeId)(x:Operand)(lo hi mx:Option Operand):bu e h t (.slice ty x lo hi mx)=sH e h ty (aw e t x) (hY e t lo) (hY e t hi) (hY e t mx):=rfl
theorem Pj(s:TypeId)(x:Operand)(f:Nat):bu e h t (.fieldAddr s x f)=(aw e t x).bind (qV e s f):=rfl
theorem Pk(ty:TypeId)(x:Operand)(f:Nat):bu e h t (.field ty x f)=(aw e t x).bind (sG e ty f):=rfl
theorem Pm(ty:TypeId)(x ix:Operand):bu e h t (.indexAddr ty x ix)=fQ (oC e ty) (aw e t x) (aw e t ix):=rfl
theorem Pn(ty:TypeId)(x ix:Operand):bu e h t (.index ty x ix)=fQ (oD e ty) (aw e t x) (aw e t ix):=rfl
theorem Po(ty:TypeId)(m k:Operand)(ok:Bool):bu e h t (.lookup ty m k ok)=fQ (nq e h ty ok) (aw e t m) (aw e t k):=rfl
theorem Pp(x:Operand)(i:Nat):bu e h t (.extract x i)=(aw e t x).bind (qX i):=rfl
def Pq(e:Env)(h:aa)(ty:TypeId):Option Value->Option Value
 |none=>none
 |some x=>fk e h ty x
theorem Pr(ty:TypeId)(x:Value):Pq e h ty (some x)=fk e h ty x:=rfl
theorem Ps(args:List Operand)(ai:Array TypeId):bu e h t (.call ⟨.builtin .min,args.toArray,ai⟩)=(cR e t args).bind (pJ e):=by simp[bu]
end
def aa.bump(h:aa)(n:Nat):aa:={h with next:=h.next+n}
theorem Pt(h:aa):h.bump 0=h:=rfl
theorem Pu(h:aa)(o:bF):(h.bump 1).set h.next (some o)=h.new o:=rfl
theorem bG(h:aa)(n:Nat):(h.bump n).next=h.next+n:=rfl
theorem Pv(h:aa)(n i:Nat):(h.bump n).get i=h.get i:=rfl
theorem Pw(h:aa)(n i o:Nat):rd (h.bump n) i o=rd h i o:=rfl
theorem Sub.bump{h g:aa}(a:Sub h g)(n:Nat):Sub h (g.bump n):=⟨Nat.le_trans a.next (Nat.le_add_right _ _),a.get⟩
def KD(e:Env)(ops:List Oper)(pl:List PI)(K:aE->Prop):cm->Prop:=λx=>fS e ops x.s.t x.all x.bw.reverse ops pl x.cS.reverse/\K {x.s with h:=eO x.s.h x.aq}
theorem Px(ops:List Oper)(pl:List PI)(K:aE->Prop)(t:Tr Value)(n:Nat)(ds:List Deferred)(h:aa)(aq all:cZ)(st:List (Nat×aa))(sn:List (Tr Value)):
 KD e ops pl K ⟨⟨t,n,ds,h⟩,aq,all,st,sn⟩=(fS e ops t all st.reverse ops pl sn.reverse/\K ⟨t,n,ds,eO h aq⟩):=rfl
theorem kI{ops:List Oper}{t:Tr Value}{n:Nat}{ds:List Deferred}{h:aa}{K:aE->Prop}(pl:List PI)(ao:rh ops true pl=true)(na:Nat)(av:qe (ops.filter λo=>cls o.op==.alloc).length na=true)
 (hs:bX e ro ops ops pl 0 h.next t n ds (h.bump na) [] [] [(0,h.bump na)] [] (KD e ops pl K)):lD e ro ops ⟨t,n,ds,h⟩ K:=LU pl ao na av hs
section
variable (ops:List Oper) (tf:Tr Value) (all:cZ) (st:List (Nat×aa)) (o:Oper) (dst:Option Tmp) (op:Op) (ty:TypeId) (pos:String) (af:Array Edge) (g:Option (Nat×Bool)) (r:List Oper) (c:sk) (m:Nat) (pl:List PI) (t:Tr Value) (ts:List (Tr Value)) (v:Value)
def uH(e:Env)(o:Oper)(m:Nat)(t:Tr Value)(all:cZ)(l:List (Nat×aa)):Value->Prop:=λv=>oF e o m t v all l
def wS(e:Env)(o:Oper)(m:Nat)(t tf:Tr Value)(all:cZ)(l:List (Nat×aa)):Prop:=aG o.dst λd=>aG (tf.get d) (uH e o m t all l)
def wT(w:Option Bool)(X:Prop):Prop:=match w with|some true=>X|some false=>True|none=>False
theorem Py(X:Prop):wT (some true) X=X:=rfl
theorem Pz(X:Prop):wT (some false) X=True:=rfl
def wU(w:Bool):Option Value->Option Bool
 |some (.bool b)=>some (b==w)
 |some (.tuple _)=>some false
 |_=>none
def PA(t:Tr Value)(w:Bool):Option Tmp->Option Bool
 |none=>none
 |some d=>wU w (t.get d)
theorem PB(w:Bool)(d:Tmp):PA t w (some d)=wU w (t.get d):=rfl
theorem PC(w b:Bool):wU w (some (.bool b))=some (b==w):=rfl
theorem PD(w:Bool):wU w (some undef)=some false:=rfl
theorem PE(s:aE):cH ops s ⟨dst,op,ty,pos,af,none⟩=some true:=rfl
theorem PF:uH e o m t all st v=oF e o m t v all st:=rfl
theorem PG(d:Tmp):wS e ⟨some d,op,ty,pos,af,g⟩ m t tf all st=aG (tf.get d) (uH e ⟨some d,op,ty,pos,af,g⟩ m t all st):=by simp[wS,fR]
theorem PH:oF e o m t v all []=True:=rfl
theorem PK(q:Nat×aa)(l:List (Nat×aa)):oF e ⟨dst,op,ty,pos,af,g⟩ m t v all (q::l)=(bu e (bW q.2 m (rn q.1 all)) t op=some v/\oF e ⟨dst,op,ty,pos,af,g⟩ m t v all l):=rfl
theorem PL:fS e ops tf all st [] pl ts=True:=by simp[fS]
theorem PM:fS e ops tf all st (o::r) (⟨c,m,none⟩::pl) (t::ts)=fS e ops tf all st r pl ts:=by simp[fS]
theorem PN(lo k:Nat):fS e ops tf all st (o::r) (⟨c,m,some (lo,k)⟩::pl) (t::ts)=(wT (cH ops ⟨t,0,[],{m:=.nil,next:=0}⟩ o) (wS e o m t tf all ((st.drop lo).take k))/\fS e ops tf all st r pl ts):=by
 simp only[fS,wT,wS,uH];congr 1;cases cH ops ⟨t,0,[],{m:=.nil,next:=0}⟩ o with
 |none=>rfl
 |some b=>
  cases b with
  |false=>rfl
  |true=>
   simp only;cases o.dst with
   |none=>simp[aG]
   |some d=>
    simp only[fR];cases tf.get d with
    |none=>simp[aG]
    |some v=>simp[fR,uH]
end
attribute [go_sem] OP OQ Pt Pu bG Pv Pw Px Py Pz PB PC PD PE PF PG PH PK PL PM PN OI OJ OK OL OM ON OO OR OS OT El OU OV OW OX OY OZ O0 O2 O3 O4 O5 zM O6 En O7 O8 O9 Pa Pb Pc Pd Pe Pf Pg Ph Pj Pk Pm Pn Po Pp Pr Ps
abbrev aU(m:Nat):PI:=⟨.pure,m,none⟩
abbrev dB(m:Nat):PI:=⟨.read,m,none⟩
abbrev fq(m:Nat):PI:=⟨.effect,m,none⟩
abbrev zN(m:Nat):PI:=⟨.alloc,m,none⟩
attribute [go_sem] aU dB fq zN
end Go.au
end
noncomputable section
open Go Go.au Go.Proofs
namespace Go.Sp
def tt:Tr TypeInfo:=Tr.ofList Tryz.prog.types.toList 0 .nil
def ft:Tr Func:=Tr.ofList Tryz.prog.funcs.toList 0 .nil
def idle(g:Nat):Bool:=qe g 93
def uI(ks:List uA):Env:=oz Tryz.prog tt ft idle 1 (wI ks)
def E:Env:=uI []
theorem sM(ks:List uA):Idle (uI ks):=by
 intro g hg args w n;obtain rfl:g=93:=DE hg;refine⟨args,enters_of Tryz.func93 (by kernel_rfl) rfl args w, ?_⟩;have af:Sem.run Tryz.prog (binOp BinOp.neq 20 Value.nilIface Value.nilIface) w=.ok (.bool false) w:=by simp[go_sem,Tryz.underlying20]
 show CallsDIn Fence.wide n Tryz.prog 93 args .returning w _;refine callsDIn_of_wpSIn Tryz.func93 rfl trivial λab cs hu=> ?_;have hT:17<=(args++PO (Tryz.f93.ntmps-args.size) undef).size:=by
  have:Tryz.f93.ntmps=17:=Tryz.ntmps93;simp[this];omega
 generalize (args++PO (Tryz.f93.ntmps-args.size) undef)=T at hT⊢;have t4:4<T.size:=by omega
 have t1:1<T.size:=by omega
 have t5:5<T.size:=by omega
 have t6:6<T.size:=by omega
 apply wpSIn_seq;apply wpSIn_region;simp[wpOpsSIn,go_sem,recoverD,hu,Exit.thenS,t4,t1];apply wpSIn_seq;apply wpSIn_region;simp[wpOpsSIn,go_sem,Exit.thenS,t4,t1,t5,t6,af];refine wpSIn_cond (t:=false) (by simp[Act.eval,t6]) ?_;simp only[Bool.false_eq_true,if_false];refine wpSIn_of_wpIn rfl (wpIn_skip ?_);cases ab;simp_all[bodyPostS,results,Tryz.results93]
theorem PQ:D1 tt Tryz.prog.types.toList=true:=by kernel_rfl
theorem PR:D2 Tryz.prog.funcs.toList=true:=by kernel_rfl
theorem kT:Tryz.prog.follows .mixedOrders=true:=by kernel_rfl
theorem j6(ks:List uA):(uI ks).Ok:=LM idle 1 (wI ks) rfl rfl PQ PR
theorem run{f:FuncId}{fn:Func}{c:Code}{args:List Value}{h:aa}{K:Value->aa->Prop}{n:Nat}(hn:fn.ntmps=n){rs:List ResultVar}(ad:fn.results=rs.toArray)
 (hq:RS E none c ⟨gl args,args.length+(n-args.length),[],h⟩ (oA E rs K)) (ae:E.fn f=some fn:=by kernel_rfl) (hb:fn.body=some c:=by rfl):∃v h',bK E f args h v h'/\K v h':=bK.Ni (j6 []) kT (sM []) ae hb hn ad hq
theorem wV{ro:Option Nat}{c:Code}{s:aE}{K:bk->aE->Prop}(h:RS E ro c s (sJ E ro c K)):RS E ro (.loop c) s K:=Nf (j6 []) kT h
theorem step{ro:Option Nat}{c:Code}{s:aE}{P:bk->aE->Prop}(h:RS E ro c s (sJ E ro c P)):∃k x s',nk E ro c x s' k s/\P x s':=Ed (j6 []) kT h
theorem lF{f:FuncId}{fn:Func}{c:Code}{args:List Value}{h:aa}{v:Value}{n:Nat}(hn:fn.ntmps=n){rs:List ResultVar}(ad:fn.results=rs.toArray)(hv:plain v=true)
 (hq:RS E none c ⟨gl args,args.length+(n-args.length),[],h⟩ (oA E rs λv' h'=>v'=v/\Sub h h')) (ae:E.fn f=some fn:=by kernel_rfl) (hb:fn.body=some c:=by rfl):bK E f args h v h:=by
 obtain⟨v',h',h1,rfl,h2⟩:=run hn ad hq ae hb;exact h1.plain h2 hv
attribute [go_sem] List.getElem?_cons_zero List.getElem?_cons_succ
end Go.Sp
end
noncomputable section
namespace Go.au
theorem db(h:aa)(o:bF)(j:Nat)(hj:¬j≠h.next):(h.new o).get j=some o:=by rw[show j=h.next by omega];exact pO h o
theorem fT(h:aa)(cs:List Value)(wr:Bool)(ah:Nat)(j o:Nat)(hj:¬j≠h.next):rd (h.new (.row cs wr ah)) j o=cs[o]? :=cI (db h _ j hj)
def j7(k:Nat)(h:aa)(v:Value)(cs:List (List Value)):Prop:=
 (cs=[]/\∃a c,v=.slice a 0 c)\/∃b o c,v=.slice (some ⟨b,o,none⟩) cs.length c/\b<h.next/\∀j x,cs[j]? =some x->∀i u,x[i]? =some u->rd h b (o+j*k+i)=some u
theorem j7.sub{k:Nat}{h g:aa}{v:Value}{cs:List (List Value)}(hs:j7 k h v cs)(a:Sub h g):j7 k g v cs:=by
 rcases hs with hs|⟨b,o,c,h1,h2,h3⟩
 . exact .inl hs
 . exact .inr ⟨b,o,c,h1,GP h2 a.next,λj x hj i u hi=>a.rd h2 (h3 j x hj i u hi)⟩
theorem j7.at{k:Nat}{h:aa}{v:Value}{cs:List (List Value)}(hs:j7 k h v cs){j:Nat}{x:List Value}(hj:cs[j]? =some x):
 ∃b o c,v=.slice (some ⟨b,o,none⟩) cs.length c/\b<h.next/\j<cs.length/\∀i u,x[i]? =some u->rd h b (o+j*k+i)=some u:=by
 rcases hs with⟨rfl,_⟩|⟨b,o,c,h1,h2,h3⟩
 . cases hj
 . exact⟨b,o,c,h1,h2,(List.getElem?_eq_some_iff.1 hj).1,λi u hi=>h3 j x hj i u hi⟩
theorem j7.cell{k:Nat}{h:aa}{b o c n:Nat}{cs:List (List Value)}(hs:j7 k h (.slice (some ⟨b,o,none⟩) n c) cs){j:Nat}{x:List Value}(hj:cs[j]? =some x){i:Nat}{u:Value}(hi:x[i]? =some u):rd h b (o+j*k+i)=some u:=by
 obtain⟨b',o',c',e,_,_,h3⟩:=hs.at hj;cases e;exact h3 i u hi
variable {e:Env} {ro:Option Nat}
def Env.place(e:Env)(t i:Nat):Option (Nat×Nat):=
 match e.under t with
 |some (.struct fields)=>jW e fields i
 |some (.array _ elem)=>match e.size elem with
  |none=>none
  |some s=>some (i*s,s)
 |_=>none
def pP(e:Env)(t:TypeId)(cells:List Value)(ps:List (Nat×Value)):Option (List Value):=iv (e.place t) cells ps
def zO(e:Env)(t:TypeId)(cells:List Value)(v:Value)(r:List (Nat×Value)):Option (Nat×Nat)->Option (List Value)
 |none=>none
 |some (off,size)=>if v.cells.toList.length=size/\off+size<=cells.length then pP e t (dN cells off v.cells.toList) r else none
theorem PS(t:TypeId)(cells:List Value):pP e t cells []=some cells:=rfl
theorem PT(t:TypeId)(cells:List Value)(i:Nat)(v:Value)(r:List (Nat×Value)):pP e t cells ((i,v)::r)=zO e t cells v r (e.place t i):=by
 simp only[pP,iv,zO];cases e.place t i with
 |none=>rfl
 |some p=>
  obtain⟨off,size⟩:=p;simp only;by_cases h1:v.cells.toList.length=size<;>by_cases h2:off+size<=cells.length
  . rw[if_pos ⟨h1,h2⟩];simp only[h1,Nat.beq_refl,Nat.ble_eq_true_of_le h2,xS,cond_true]
  . rw[if_neg (λh=>h2 h.2)];have:Nat.ble (off+size) cells.length=false:=by
     cases hb:Nat.ble (off+size) cells.length with
     |false=>rfl
     |true=>exact absurd (Nat.le_of_ble_eq_true hb) h2
    simp only[this,Bool.and_false,cond_false]
  . rw[if_neg (λh=>h1 h.1)];have:qe v.cells.toList.length size=false:=by
     cases hb:qe v.cells.toList.length size with
     |false=>rfl
     |true=>exact absurd (DE hb) h1
    simp only[this,PX,cond_false]
  . rw[if_neg (λh=>h1 h.1)];have:qe v.cells.toList.length size=false:=by
     cases hb:qe v.cells.toList.length size with
     |false=>rfl
     |true=>exact absurd (DE hb) h1
    simp only[this,PX,cond_false]
theorem PU(t:TypeId)(cells:List Value)(v:Value)(r:List (Nat×Value))(off size:Nat):zO e t cells v r (some (off,size))=if v.cells.toList.length=size/\off+size<=cells.length then pP e t (dN cells off v.cells.toList) r else none:=rfl
def rp(e:Env)(t:TypeId)(ps:List (Nat×Value)):Option Value->Option Value
 |none=>none
 |some z=>zE (pP e t z.cells.toList ps)
theorem PW(t:TypeId)(ps:List (Nat×Value))(z:Value):rp e t ps (some z)=zE (pP e t z.cells.toList ps):=rfl
theorem wW{t:TypeId}(ps:List (Nat×Value))(h:(e.place t 0).isSome=true)(hs:∃d,e.under t=some d/\jz d=true):mn e t (some ps)=rp e t ps (e.zero t):=by
 obtain⟨d,hd,ha⟩:=hs;simp only[mn,pt,rp,pP,hd];cases hz:e.zero t with
 |none=>rfl
 |some z=>
  cases d with
  |struct fields=>
   have:e.place t=jW e fields:=by funext i;simp[Env.place,hd]
   simp only[this];cases iv (jW e fields) z.cells.toList ps<;>rfl
  |array n el=>
   simp only;cases he:e.size el with
   |none=>
    simp only;have hp:e.place t=λ_=>none:=by funext i;simp[Env.place,hd,he]
    rw[hp]at h;cases h
   |some s=>
    have:e.place t=λi=>some (i*s,s):=by funext i;simp[Env.place,hd,he]
    simp only[this];cases iv (λi=>some (i*s,s)) z.cells.toList ps<;>rfl
  |_=>cases ha
attribute [go_sem] PS PT PU PW
end Go.au
end
noncomputable section
namespace Go.au
variable {e:Env} {ro:Option Nat}
def mo(e:Env)(ty:TypeId)(ok:Bool)(k:Value):Option bF->Option Value
 |some (.map es _)=>match e.under ty with
  |some (.map kt et)=>match e.under kt with
   |none=>none
   |some kd=>bif plain k&&mX kd k then match bQ e.P (Instr.checkKey es.isEmpty 10000 kt k)with
    |none=>none
    |some _=>match fN e.P kt k es 0 with
     |none=>none
     |some (some (_,v))=>some (bif ok then .tuple #[v,.bool true]else v)
     |some none=>match e.zero et with
      |none=>none
      |some z=>bif plain z then some (bif ok then .tuple #[z,.bool false]else z)else none
    else none
  |_=>none
 |_=>none
theorem wX(h:aa)(ty:TypeId)(ok:Bool)(r:Nat)(k:Value):nq e h ty ok (.map (some r)) k=mo e ty ok k (h.get r):=by
 simp only[nq,px,mo];cases hu:e.under ty with
 |none=>cases h.get r with
  |none=>rfl
  |some o=>cases o<;>rfl
 |some d=>
  cases d with
  |map kt et=>
   simp only;cases h.get r with
   |none=>rfl
   |some o=>cases o<;>rfl
  |_=>cases h.get r with
   |none=>rfl
   |some o=>cases o<;>rfl
def nv(e:Env)(ty:TypeId)(k v:Value)(es:List MapEntry)(clock:Nat):Option bF:=
 match e.under ty with
 |some (.map kt _)=>match e.under kt with
  |none=>none
  |some kd=>bif plain k&&mX kd k then match bQ e.P (Instr.checkKey false 10000 kt k)with
   |none=>none
   |some _=>match fN e.P kt k es 0 with
    |none=>none
    |some (some (i,_))=>bif Instr.sameBits 10000 (((es[i]?).map (·.key)).getD k) k then
     some (.map (es.modify i λx=>{x with key:=k,val:=v}) clock)
     else none
    |some none=>some (.map (es++[{key:=k,val:=v,born:=clock}]) (clock+1))
   else none
 |_=>none
def zP(e:Env)(ty:TypeId)(k v:Value)(h:aa)(r:Nat):Option bF->Option aa
 |some (.map es clock)=>(nv e ty k v es clock).map λo=>h.set r (some o)
 |_=>none
theorem Eo(h:aa)(ty:TypeId)(r:Nat)(k v:Value):oE e h ty (some (.map (some r))) (some k) (some v)=zP e ty k v h r (h.get r):=by
 simp only[oE,qz,zP,nv];cases hu:e.under ty with
 |none=>cases h.get r with
  |none=>rfl
  |some o=>cases o<;>rfl
 |some d=>
  cases d with
  |map kt et=>
   simp only;cases h.get r with
   |none=>rfl
   |some o=>
    cases o with
    |map es clock=>
     simp only;cases e.under kt with
     |none=>rfl
     |some kd=>
      simp only;cases plain k&&mX kd k with
      |false=>rfl
      |true=>
       simp only[cond_true];cases bQ e.P (Instr.checkKey false 10000 kt k)with
       |none=>rfl
       |some u=>
        simp only;cases fN e.P kt k es 0 with
        |none=>rfl
        |some p=>
         cases p with
         |none=>rfl
         |some q=>
          simp only;cases Instr.sameBits 10000 (((es[q.1]?).map (·.key)).getD k) k<;>rfl
    |_=>rfl
  |_=>cases h.get r with
   |none=>rfl
   |some o=>cases o<;>rfl
theorem Ep(ty:TypeId)(k v:Value)(h:aa)(r:Nat)(es:List MapEntry)(clock:Nat):zP e ty k v h r (some (.map es clock))=(nv e ty k v es clock).map λo=>h.set r (some o):=rfl
section
variable {κ ν:Type} [DecidableEq κ]
def bc(l:List (κ×ν))(a:κ):Option ν:=
 match l with
 |[]=>none
 |(k,v)::r=>if a=k then some v else bc r a
def put(l:List (κ×ν))(a:κ)(v:ν):List (κ×ν):=
 match l with
 |[]=>[(a,v)]
 |(k,w)::r=>if a=k then(a,v)::r else(k,w)::put r a v
theorem mq(l:List (κ×ν))(a b:κ)(v:ν):bc (put l a v) b=if b=a then some v else bc l b:=by
 induction l with
 |nil=>simp[put,bc]
 |cons p r ih=>
  obtain⟨k,w⟩:=p;simp only[put]
  split
  . rename_i h;subst h;simp only[bc]
    split<;>rfl
  . rename_i h;simp only[bc,ih]
    split
    . rename_i h2;subst h2;rw[if_neg (λh3=>h h3.symm)]
    . rfl
theorem pQ{l:List (κ×ν)}{a:κ}{v:ν}(h:bc l a=none):put l a v=l++[(a,v)]:=by
 induction l with
 |nil=>rfl
 |cons p r ih=>
  obtain⟨k,w⟩:=p;simp only[bc]at h
  split at h
  . cases h
  . rename_i hk;simp only[put,if_neg hk,List.cons_append,ih h]
structure j8(e:Env)(kt:TypeId)(kf:κ->Value):Prop where
 kd:∃kd,e.under kt=some kd/\∀k,mX kd (kf k)=true
 plain:∀k,au.plain (kf k)=true
 check:∀k b,∃u,bQ e.P (Instr.checkKey b 10000 kt (kf k))=some u
 eq:∀a b,jX e.P kt (kf a) (kf b)=some (decide (a=b))
 bits:∀k,Instr.sameBits 10000 (kf k) (kf k)=true
def jF(kf:κ->Value)(vf:ν->Value)(es:List MapEntry)(l:List (κ×ν)):Prop:=es.map (λx=>(x.key,x.val))=l.map λp=>(kf p.1,vf p.2)
theorem wY{kt:TypeId}{kf:κ->Value}{vf:ν->Value}(hk:j8 e kt kf):∀{es:List MapEntry} {l:List (κ×ν)} (a:κ) (i:Nat),jF kf vf es l->∃r,fN e.P kt (kf a) es i=some r/\
 (match bc l a with|none=>r=none|some v=>∃j,r=some (i+j,vf v)/\∃x,es[j]? =some x/\x.key=kf a/\∀w,jF kf vf (es.modify j λx=>{x with key:=kf a,val:=vf w}) (put l a w))
 |[],[],a,i,_=>⟨none,rfl,by simp[bc]⟩
 |[],_::_,a,i,h=>by simp[jF]at h
 |_::_,[],a,i,h=>by simp[jF]at h
 |x::es,(k,v)::l,a,i,h=>by
  simp only[jF,Er,List.cons.injEq,Prod.mk.injEq]at h;obtain⟨⟨h1,h2⟩,h3⟩:=h;simp only[fN,h1,hk.eq];by_cases e1:a=k
  . subst e1;simp only[decide_true,bc,if_true];refine⟨_,rfl,0,by rw[h2];rfl,x,rfl,h1,λw=> ?_⟩;simp only[jF,put,if_true,Er,List.modify_cons,if_pos];exact congrArg _ h3
  . simp only[e1,decide_false,bc,if_false];obtain⟨r,h4,h5⟩:=wY hk (vf:=vf) a (i+1) (show jF kf vf es l from h3);refine⟨r,h4, ?_⟩;cases ha:bc l a with
    |none=>simpa[ha]using h5
    |some v'=>
     simp only[ha]at h5⊢;obtain⟨j,h6,y,h7,h8,h9⟩:=h5;refine⟨j+1,by rw[h6];congr 2;omega,y,h7,h8,λw=> ?_⟩;have:=h9 w;simp only[jF]at this⊢;simp only[put,if_neg e1,Er,List.modify_succ_cons,this,h1,h2]
theorem wZ{ty kt et:TypeId}{kf:κ->Value}{vf:ν->Value}(hk:j8 e kt kf)(hu:e.under ty=some (.map kt et)){es:List MapEntry}{l:List (κ×ν)}(hl:jF kf vf es l)(a:κ)(ok:Bool)(clock:Nat){v:ν}(hv:bc l a=some v):
 mo e ty ok (kf a) (some (.map es clock))=some (bif ok then .tuple #[vf v,.bool true]else vf v):=by
 obtain⟨kd,h1,h2⟩:=hk.kd;obtain⟨u,h3⟩:=hk.check a es.isEmpty;obtain⟨r,h4,h5⟩:=wY hk (vf:=vf) a 0 hl;rw[hv]at h5;obtain⟨j,rfl,_⟩:=h5;simp only[mo,hu,h1,hk.plain,h2,xS,cond_true,h3,h4]
theorem zQ{ty kt et:TypeId}{kf:κ->Value}{vf:ν->Value}(hk:j8 e kt kf)(hu:e.under ty=some (.map kt et)){es:List MapEntry}{l:List (κ×ν)}(hl:jF kf vf es l)(a:κ)(ok:Bool)(clock:Nat){z:Value}(hz:e.zero et=some z)(hp:au.plain z=true)(hv:bc l a=none):
 mo e ty ok (kf a) (some (.map es clock))=some (bif ok then .tuple #[z,.bool false]else z):=by
 obtain⟨kd,h1,h2⟩:=hk.kd;obtain⟨u,h3⟩:=hk.check a es.isEmpty;obtain⟨r,h4,h5⟩:=wY hk (vf:=vf) a 0 hl;rw[hv]at h5;simp only at h5;subst h5;simp only[mo,hu,h1,hk.plain,h2,xS,cond_true,h3,h4,hz,hp]
theorem uJ{ty kt et:TypeId}{kf:κ->Value}{vf:ν->Value}(hk:j8 e kt kf)(hu:e.under ty=some (.map kt et)){es:List MapEntry}{l:List (κ×ν)}(hl:jF kf vf es l)(a:κ)(clock:Nat)(w:ν):
 ∃ad ab,nv e ty (kf a) (vf w) es clock=some (.map ad ab)/\jF kf vf ad (put l a w):=by
 obtain⟨kd,h1,h2⟩:=hk.kd;obtain⟨u,h3⟩:=hk.check a false;obtain⟨r,h4,h5⟩:=wY hk (vf:=vf) a 0 hl;cases hv:bc l a with
 |none=>
  rw[hv]at h5;simp only at h5;subst h5;refine⟨es++[{key:=kf a,val:=vf w,born:=clock}],clock+1,by simp only[nv,hu,h1,hk.plain,h2,xS,cond_true,h3,h4], ?_⟩;have:=hl;simp only[jF]at this⊢;rw[pQ hv];simp[this]
 |some v=>
  rw[hv]at h5;obtain⟨j,rfl,x,h6,h7,h8⟩:=h5;have hb:Instr.sameBits 10000 (((es[0+j]?).map (·.key)).getD (kf a)) (kf a)=true:=by
   rw[Nat.zero_add,h6];show Instr.sameBits 10000 x.key (kf a)=true;rw[h7];exact hk.bits a
  refine⟨es.modify (0+j) λx=>{x with key:=kf a,val:=vf w},clock,by simp only[nv,hu,h1,hk.plain,h2,xS,cond_true,h3,h4,hb], ?_⟩;have:=h8 w;rwa[Nat.zero_add]
end
attribute [go_sem] wX Eo Ep
end Go.au
end

/- SpacingSuffixes: parts of its proof (AwE AwF SpI AwG). -/
import Derived.Test.YtaheljlbchkpcaaGreatDoorProg
import Derived.KernelRfl
import Derived.RecoverIn
import Derived.RangeFuncNested
import Derived.RangeFuncLeaves
import Derived.Shelf.Abstract
import Derived.WalkKit
import Derived.Test.YtaheljlbchkpcaaGreatDoorK10
set_option linter.unusedVariables false
set_option linter.unusedSimpArgs false
noncomputable section
namespace Go.aw
variable {e:Env} {ro:Option Nat}
theorem OG(t:Tr Value)(i:Nat):au e t (.tmp i)=t.get i:=rfl
theorem OH(t:Tr Value)(f:FuncId):au e t (.func f)=some (.func (.func f) #[] #[]):=rfl
theorem OI(t:Tr Value)(k:IntKind)(n:Int):au e t (.const (.int k n))=some (.int k n):=rfl
theorem OJ(t:Tr Value)(b:Bool):au e t (.const (.bool b))=some (.bool b):=rfl
theorem OK(t:Tr Value)(s:ByteArray):au e t (.const (.string s))=some (.string s):=rfl
theorem OL(t:Tr Value):au e t (.const (.pointer none))=some (.pointer none):=rfl
theorem OM(t:Tr Value)(l k:Nat):au e t (.const (.slice none l k))=some (.slice none l k):=rfl
theorem ON(t:Tr Value):au e t (.const (.map none))=some (.map none):=rfl
theorem OO(t:Tr Value):au e t (.const .nilFunc)=some .nilFunc:=rfl
theorem OP(t:Tr Value):au e t (.const .nilIface)=some .nilIface:=rfl
def Bb(e:Env)(t:Tr Value)(r:List Operand):Option Value->Option (List Value)
 |none=>none
 |some v=>(df e t r).map (v::·)
theorem OQ(t:Tr Value):df e t []=some []:=rfl
theorem OR(t:Tr Value)(o:Operand)(r:List Operand):df e t (o::r)=Bb e t r (au e t o):=by
 simp only[df,Bb];cases au e t o with
 |none=>rfl
 |some v=>simp only;cases df e t r<;>rfl
theorem OS(t:Tr Value)(r:List Operand)(v:Value):Bb e t r (some v)=(df e t r).map (v::·):=rfl
def Bc(e:Env)(t:Tr Value)(i:Nat)(r:List (Nat×Operand)):Option Value->Option (List (Nat×Value))
 |none=>none
 |some v=>(fM e t r).map ((i,v)::·)
theorem OT(t:Tr Value):fM e t []=some []:=rfl
theorem OU(t:Tr Value)(i:Nat)(o:Operand)(r:List (Nat×Operand)):fM e t ((i,o)::r)=Bc e t i r (au e t o):=by
 simp only[fM,Bc];cases au e t o with
 |none=>rfl
 |some v=>simp only;cases fM e t r<;>rfl
theorem OV(t:Tr Value)(i:Nat)(r:List (Nat×Operand))(v:Value):Bc e t i r (some v)=(fM e t r).map ((i,v)::·):=rfl
theorem OW(t:Tr Value):iP e t none=some none:=rfl
theorem OX(t:Tr Value)(o:Operand):iP e t (some o)=(au e t o).map some:=rfl
theorem OY(a:List Value):gX a=Tr.ofList a 0 .nil:=rfl
theorem ofList_nil(i:Nat)(t:Tr Value):Tr.ofList [] i t=t:=rfl
theorem ofList_cons(v:Value)(l:List Value)(i:Nat)(t:Tr Value):Tr.ofList (v::l) i t=Tr.ofList l (i+1) (t.set i (some v)):=rfl
theorem OZ(f:FuncId)(a c:Array Value)(args:List Value):qQ (some (.func (.func f) a c)) (some args)=some (f,(a.toList++args)++c.toList):=rfl
theorem aD{x:Int}(h1:-9223372036854775808<=x)(h2:x<=9223372036854775807):IntKind.i64.wrap x=x:=by
 simp[IntKind.wrap,IntKind.bits,IntKind.signed];omega
section
variable (ty:TypeId) (x y:Operand) (k:IntKind) (n m:Int)
theorem O0:cS e .add ty x y (.int k n) (.int k m)=some (.int k (k.wrap (n+m))):=by simp[cS,lr]
theorem O2:cS e .sub ty x y (.int k n) (.int k m)=some (.int k (k.wrap (n-m))):=by simp[cS,lr]
theorem O3:cS e .mul ty x y (.int k n) (.int k m)=some (.int k (k.wrap (n*m))):=by simp[cS,lr]
theorem O4:cS e .eql ty x y (.int k n) (.int k m)=some (.bool (decide (n=m))):=by simp[cS,lr]
theorem O5:cS e .neq ty x y (.int k n) (.int k m)=some (.bool (!decide (n=m))):=by simp[cS,lr]
theorem O6:cS e .lss ty x y (.int k n) (.int k m)=some (.bool (decide (n<m))):=by simp[cS,lr]
theorem O7:cS e .leq ty x y (.int k n) (.int k m)=some (.bool (decide (n<=m))):=by simp[cS,lr]
theorem O8:cS e .gtr ty x y (.int k n) (.int k m)=some (.bool (decide (m<n))):=by simp[cS,lr]
theorem O9:cS e .geq ty x y (.int k n) (.int k m)=some (.bool (decide (m<=n))):=by simp[cS,lr]
end
theorem Pa(b:Bool):oy e .not (.bool b)=some (.bool (!b)):=rfl
theorem Pb(a b:Option Value):sL (some (.bool true)) a b=a:=rfl
theorem Pc(a b:Option Value):sL (some (.bool false)) a b=b:=rfl
theorem Pd(a:Addr):sJ (.pointer (some a))=some (.pointer (some a)):=rfl
theorem Pe(f:FuncId)(a c:Array Value):sJ (.func (.func f) a c)=some (.func (.func f) a c):=rfl
theorem Pf(i:Nat)(vs:Array Value):sK i (.tuple vs)=vs[i]? :=rfl
theorem Pg(f:FuncId)(a c:List Value):wA f (some a) (some c)=some (.func (.func f) a.toArray c.toArray):=rfl
theorem sR(b o n:Nat):Addr.add ⟨b,o,none⟩ n=⟨b,o+n,none⟩:=by
 unfold Addr.add
 split
 . rename_i h;subst h;rfl
 . rfl
def Bd(b o:Nat):Option Nat->Option Value
 |none=>none
 |some k=>some (.pointer (some ⟨b,o+k,none⟩))
theorem Ph(b o k:Nat):Bd b o (some k)=some (.pointer (some ⟨b,o+k,none⟩)):=rfl
theorem Bf(s f b o:Nat):sI e s f (.pointer (some ⟨b,o,none⟩))=Bd b o (e.off s f):=by
 simp only[sI,iL];cases e.off s f with
 |none=>rfl
 |some k=>simp[Bd,sR]
def Bg:Option (List Value)->Option Value
 |none=>none
 |some l=>some (.agg l.toArray)
theorem Pj(l:List Value):Bg (some l)=some (.agg l.toArray):=rfl
theorem Pk(h:aa)(b o:Nat):jG h b o 0=some []:=rfl
def Bh(h:aa)(b o n:Nat):Option Value->Option (List Value)
 |none=>none
 |some v=>(jG h b o n).map (v::·)
theorem Pm(h:aa)(b o n:Nat):jG h b o (n+1)=Bh h b (o+1) n (rd h b o):=by
 simp only[jG,Bh];cases rd h b o<;>rfl
theorem Pn(h:aa)(b o n:Nat)(v:Value):Bh h b o n (some v)=(jG h b o n).map (v::·):=rfl
def yw(e:Env)(ty:TypeId)(h:aa)(b o:Nat):Option (Option Nat)->Option Value
 |some none=>rd h b o
 |some (some (n+1))=>match jG h b o (n+1)with
  |some l=>some (.agg l.toArray)
  |none=>iJ e h ty ⟨b,o,none⟩
 |_=>iJ e h ty ⟨b,o,none⟩
def FE(e:Env)(ty:TypeId)(h:aa)(b o:Nat):Option (List Value)->Option Value
 |some l=>some (.agg l.toArray)
 |none=>iJ e h ty ⟨b,o,none⟩
theorem Po(ty:TypeId)(h:aa)(b o:Nat):nk e h ty (.pointer (some ⟨b,o,none⟩))=yw e ty h b o (e.ld ty):=by
 simp only[nk,iL];unfold yw
 split
 . rename_i hl;exact AY hl
 . rename_i n hl
   split
   . rename_i l hr;exact Nh hl hr
   . rfl
 . rfl
theorem Pp(ty:TypeId)(h:aa)(b o:Nat):yw e ty h b o (some none)=rd h b o:=rfl
theorem Pq(ty:TypeId)(h:aa)(b o n:Nat):yw e ty h b o (some (some (n+1)))=FE e ty h b o (jG h b o (n+1)):=rfl
theorem Pr(ty:TypeId)(h:aa)(b o:Nat)(l:List Value):FE e ty h b o (some l)=some (.agg l.toArray):=rfl
def oA(b o len:Nat)(i:Int):Option Nat->Option Value
 |none=>none
 |some s=>if 0<=i/\i<len then some (.pointer (some ⟨b,o+i.toNat*s,none⟩))else none
theorem uF(b o len s:Nat)(i:Int)(h0:0<=i)(h1:i<len):oA b o len i (some s)=some (.pointer (some ⟨b,o+i.toNat*s,none⟩)):=by simp[oA,h0,h1]
theorem Bi(ty:TypeId)(b o len cap:Nat)(k:IntKind)(i:Int):pS e ty (.slice (some ⟨b,o,none⟩) len cap) (.int k i)=oA b o len i (e.elem ty):=by
 simp only[pS,intOf,Env.elem,oA];cases hu:e.under ty with
 |none=>rfl
 |some d=>
  cases d with
  |slice el=>
   simp only;cases e.size el with
   |none=>rfl
   |some s=>
    simp only[sR];by_cases h0:0<=i<;>by_cases h1:i<(len:Int)<;>simp[h0,h1]
  |_=>rfl
def oB(b o:Nat)(i:Int):Option (Nat×Nat)->Option Value
 |none=>none
 |some (n,s)=>if 0<=i/\i<n then some (.pointer (some ⟨b,o+i.toNat*s,none⟩))else none
theorem dU(b o n s:Nat)(i:Int)(h0:0<=i)(h1:i<n):oB b o i (some (n,s))=some (.pointer (some ⟨b,o+i.toNat*s,none⟩)):=by simp[oB,h0,h1]
theorem Bj(ty:TypeId)(b o:Nat)(k:IntKind)(i:Int):pS e ty (.pointer (some ⟨b,o,none⟩)) (.int k i)=oB b o i (e.arr ty):=by
 simp only[pS,intOf,Env.arr,oB];cases hu:e.under ty with
 |none=>rfl
 |some d=>
  cases d with
  |array n el=>
   simp only;cases e.size el with
   |none=>rfl
   |some s=>
    simp only[sR];by_cases h0:0<=i<;>by_cases h1:i<(n:Int)<;>simp[h0,h1]
  |_=>rfl
def Bk(e:Env)(h:aa)(ty:TypeId)(a:Option Addr)(l c:Nat):Option Nat->Option Value
 |some _=>some (.int .i64 l)
 |none=>fU e h ty (.slice a l c)
theorem yx(h:aa)(ty:TypeId)(a:Option Addr)(l c:Nat):fU e h ty (.slice a l c)=Bk e h ty a l c (e.elem ty):=by
 cases hs:e.elem ty with
 |none=>rfl
 |some s=>
  simp only[Bk];unfold Env.elem at hs
  split at hs
  . rename_i hu;simp[fU,hu]
  . cases hs
theorem Ps(h:aa)(ty:TypeId)(a:Option Addr)(l c s:Nat):Bk e h ty a l c (some s)=some (.int .i64 l):=rfl
theorem qT(h:aa)(o:bK):(h.new o).get h.next=some o:=by rw[aa.dT,if_pos rfl]
theorem bI(h:aa)(o:bK)(j:Nat)(hj:j≠h.next):(h.new o).get j=h.get j:=by rw[aa.dT,if_neg hj]
theorem eD(h:aa)(i:Nat)(o:Option bK):(h.set i o).get i=o:=by rw[aa.bw,if_pos rfl]
theorem bq(h:aa)(i j:Nat)(o:Option bK)(hj:j≠i):(h.set i o).get j=h.get j:=by rw[aa.bw,if_neg hj]
theorem Pt(h:aa)(cs:List Value)(wr:Bool)(ah:Nat)(o:Nat):rd (h.new (.row cs wr ah)) h.next o=cs[o]? :=cZ (qT _ _)
theorem du(h:aa)(ob:bK)(j o:Nat)(hj:j≠h.next):rd (h.new ob) j o=rd h j o:=by unfold rd;rw[bI _ _ _ hj]
theorem FG(h:aa)(i:Nat)(cs:List Value)(wr:Bool)(ah:Nat)(o:Nat):rd (h.set i (some (.row cs wr ah))) i o=cs[o]? :=cZ (eD _ _ _)
theorem ep(h:aa)(i j o:Nat)(ob:Option bK)(hj:j≠i):rd (h.set i ob) j o=rd h j o:=by unfold rd;rw[bq _ _ _ _ hj]
def wD:Option Value->Option (bK×(Nat->Value))
 |none=>none
 |some v=>some (.row v.cells.toList true 0,λi=>.pointer (some ⟨i,0,none⟩))
theorem Pu(t:Tr Value)(ty:TypeId)(x:Operand):cU e t (.box ty x)=wD (au e t x):=by
 simp only[cU,wD];cases au e t x<;>rfl
theorem Pv(t:Tr Value)(ty:TypeId):cU e t (.alloc ty)=wD (e.zero ty):=by
 simp only[cU,wD];cases e.zero ty<;>rfl
theorem Pw(v:Value):wD (some v)=some (.row v.cells.toList true 0,λi=>.pointer (some ⟨i,0,none⟩)):=rfl
theorem Px(cs:Array Value):(Value.agg cs).cells=cs:=rfl
theorem Py(k:IntKind)(n:Int):(Value.int k n).cells=#[.int k n]:=rfl
theorem Pz(b:Bool):(Value.bool b).cells=#[.bool b]:=rfl
theorem PA(s:ByteArray):(Value.string s).cells=#[.string s]:=rfl
theorem PB(a:Option Addr):(Value.pointer a).cells=#[.pointer a]:=rfl
theorem PC(a:Option Addr)(l c:Nat):(Value.slice a l c).cells=#[.slice a l c]:=rfl
theorem PD(a:Option Nat):(Value.map a).cells=#[.map a]:=rfl
theorem PE(f:Fn)(a c:Array Value):(Value.func f a c).cells=#[.func f a c]:=rfl
theorem PF:(Value.nilFunc).cells=#[.nilFunc]:=rfl
theorem FH{h:aa}{ty:TypeId}{n b o:Nat}{v:Value}(hs:e.size ty=some n)(hn:v.cells.toList.length=n)(h0:0<n):qP e h ty (some (.pointer (some ⟨b,o,none⟩))) (some v)=ox h b o v.cells.toList:=by
 simp only[qP,iL,py,hs,<-hn,Nat.beq_refl,cond_true]
 match hc:v.cells.toList with
 |[]=>rw[hc]at hn;simp at hn;omega
 |w::vs=>exact Fy
def yy(e:Env)(h:aa)(ty:TypeId)(b o:Nat)(v:Value):Option Nat->Option aa
 |none=>none
 |some n=>if v.cells.toList.length=n/\0<n then ox h b o v.cells.toList else py e h ty ⟨b,o,none⟩ v
theorem PG(h:aa)(ty:TypeId)(b o:Nat)(v:Value):qP e h ty (some (.pointer (some ⟨b,o,none⟩))) (some v)=yy e h ty b o v (e.size ty):=by
 cases hs:e.size ty with
 |none=>simp[qP,iL,py,hs,yy]
 |some n=>
  simp only[yy]
  split
  . rename_i hc;exact FH hs hc.1 hc.2
  . rfl
theorem PH(h:aa)(ty:TypeId)(b o:Nat)(v:Value)(n:Nat):yy e h ty b o v (some n)=if v.cells.toList.length=n/\0<n then ox h b o v.cells.toList else py e h ty ⟨b,o,none⟩ v:=rfl
def Bl(h:aa)(b o:Nat)(vs:List Value):Option bK->Option aa
 |some (.row cs true ah)=>if o+vs.length<=cs.length/\vs.all dL=true then some (h.set b (some (.row (eo cs o vs) true ah)))else none
 |_=>none
theorem PK(h:aa)(b o:Nat)(vs:List Value):ox h b o vs=Bl h b o vs (h.get b):=by
 unfold ox Bl;cases h.get b with
 |none=>rfl
 |some ob=>
  cases ob with
  |row cs wr ah=>cases wr<;>rfl
  |_=>rfl
theorem PL(h:aa)(b o:Nat)(vs cs:List Value)(ah:Nat):Bl h b o vs (some (.row cs true ah))=if o+vs.length<=cs.length/\vs.all dL=true then some (h.set b (some (.row (eo cs o vs) true ah)))else none:=rfl
theorem PM(cs:List Value)(o:Nat)(vs:List Value):eo cs o vs=cs.take o++vs++cs.drop (o+vs.length):=rfl
def wE(e:Env)(s:aE)(r:List ResultVar):Option Value->Option (List Value)
 |none=>none
 |some v=>(iv e s r).map (v::·)
theorem PN(s:aE):iv e s []=some []:=rfl
theorem FI(s:aE)(i:Nat)(r:List ResultVar):iv e s (.tmp i::r)=wE e s r (s.t.get i):=by
 simp only[iv,wE];cases s.t.get i with
 |none=>rfl
 |some v=>cases iv e s r<;>rfl
theorem FJ(s:aE)(i ty:Nat)(r:List ResultVar):iv e s (.cell i ty::r)=wE e s r ((s.t.get i).bind (nk e s.h ty)):=by
 simp only[iv,wE];cases s.t.get i with
 |none=>rfl
 |some v=>
  simp only[Option.bind_some];cases ha:iL v with
  |none=>simp[nk,ha]
  |some a=>cases hl:iJ e s.h ty a<;>cases hr:iv e s r<;>simp[nk,ha,hl,hr]
theorem Bo(s:aE)(r:List ResultVar)(v:Value):wE e s r (some v)=(iv e s r).map (v::·):=rfl
theorem PO(k:IntKind)(n:Int):dL (.int k n)=true:=rfl
theorem PQ(b:Bool):dL (.bool b)=true:=rfl
theorem PR(s:ByteArray):dL (.string s)=true:=rfl
theorem PS(a:Option Addr):dL (.pointer a)=true:=rfl
theorem PT(a:Option Addr)(l c:Nat):dL (.slice a l c)=true:=rfl
theorem PU(a:Option Nat):dL (.map a)=true:=rfl
theorem PW(f:Fn)(a c:Array Value):dL (.func f a c)=true:=rfl
theorem PX:dL .nilFunc=true:=rfl
attribute [go_sem] gZ Nk Nl Nm Nn No Np Nq Nr Ns Nt Nu Nv Nw Nx Ny Nz NA NB NC ND NF NG NH NI NJ NK NL NM NN NO NP NQ NR NS NT NV NW NY NZ N5 N6 N7 N8 N9 Oa Ob Oc Oe Of Og Oh Oi Oj Ol Om Oo Oq Ot Ou Ov Ow Ox Oy Oz OA OB OD OE OG OH OI OJ OK OL OM ON OO OP OQ OR OS OT OU OV OW OX Tr.bw OY ofList_nil ofList_cons OZ O0 O2 O3 O4 O5 O6 O7 O8 O9 Pa Pb Pc Pd Pe Pf Pg sR Bf Ph Po Pp Pq Pr Bi Bj Pj Pk Pm Pn Pt FG Pw Pu Pv Px Py Pz PA PB PC PD PE PF PN FI FJ Bo aa.aZ aa.aS yx Ps uA PG PH PK PL PM qT eD PO PQ PR PS PT PU PW PX
end Go.aw
end
noncomputable section
namespace Go.aw
variable {e:Env} {ro:Option Nat}
structure Sub(h g:aa):Prop where
 next:h.next<=g.next
 get:∀i o,i<h.next->h.get i=some o->g.get i=some o
theorem Sub.refl(h:aa):Sub h h:=⟨Nat.le_refl _,λ_ _ _ h=>h⟩
theorem Sub.trans{h g k:aa}(a:Sub h g)(b:Sub g k):Sub h k:=⟨Nat.le_trans a.next b.next,λi o hi ho=>b.get i o (Nat.lt_of_lt_of_le hi a.next) (a.get i o hi ho)⟩
theorem Sub.new{h g:aa}(a:Sub h g)(o:bK):Sub h (g.new o):=
 ⟨Nat.le_succ_of_le a.next,λi p hi hp=>by rw[bI _ _ _ (by have:=a.next;omega)];exact a.get i p hi hp⟩
theorem Sub.set{h g:aa}{i:Nat}(a:Sub h g)(hi:h.next<=i)(o:Option bK):Sub h (g.set i o):=
 ⟨a.next,λj p hj hp=>by rw[bq _ _ _ _ (by omega)];exact a.get j p hj hp⟩
theorem Sub.rd{h g:aa}(a:Sub h g){b o:Nat}{v:Value}(hb:b<h.next)(hv:aw.rd h b o=some v):aw.rd g b o=some v:=by
 unfold aw.rd at hv⊢;cases hg:h.get b with
 |none=>simp[hg]at hv
 |some ob=>rw[a.get b ob hb hg];rw[hg]at hv;exact hv
theorem PY(h:aa):Sub h h=True:=eq_true (Sub.refl h)
theorem PZ{h g:aa}(a:Sub h g)(o:bK):Sub h (g.new o)=True:=eq_true (a.new o)
theorem bS.still{f:FuncId}{args:List Value}{h:aa}{v:Value}{h1:aa}(hr:bS e f args h v h1)(hs:Sub h h1)
 (hv:∀ρ w (ab:List Value),Gl e ρ->bJ ρ args ab->bm ρ h w->∃u,aK ρ v u):bS e f args h v h:=by
 refine⟨hr.1,λρ w ab hg ha x=>(hr.2 ρ w ab hg ha x).mono ?_⟩;rintro en w' ⟨v',ay,rfl,q1,q2,q3⟩;obtain⟨u,hu⟩:=hv ρ w ab.toList hg ha x;refine⟨v',ρ,rfl,hu.back q3.ext q1,⟨x.iw,λi o ho=> ?_,x.sep⟩, ?_⟩
 . obtain⟨pl,h2,h3⟩:=x.obj i o ho;obtain⟨pl',ad,ae⟩:=q2.obj i o (hs.get i o (x.iw i pl h2) ho);rw[q3.ext _ _ h2]at ad;cases ad;exact⟨pl,h2,h3.back q3.ext ae⟩
 . exact⟨Ext.refl _,q3.os,q3.output,q3.size,q3.frozen,q3.kept,λi o pl a b c=>.inl ⟨i,o,pl,a,b,c,rfl⟩,λ_ _ a _=>a,λ_ a b=>absurd a b,λ_ o a _=>⟨o,a⟩,Nat.le_refl _⟩
theorem bS.plain{f:FuncId}{args:List Value}{h:aa}{v:Value}{h1:aa}(hr:bS e f args h v h1)(hs:Sub h h1)(hv:aw.plain v=true):bS e f args h v h:=
 hr.still hs λρ _ _ _ _ _=>⟨v,oi hv⟩
def KR(K:Value->aa->Prop)(h:aa):List Value->Prop:=λvs=>K (kg vs) h
theorem P6(K:Value->aa->Prop)(h:aa)(vs:List Value):KR K h vs=K (kg vs) h:=rfl
theorem P7(v:Value):kg [v]=v:=rfl
theorem P8(v w:Value)(r:List Value):kg (v::w::r)=.tuple (v::w::r).toArray:=rfl
theorem P9:kg []=.tuple #[]:=rfl
theorem Qa(rs:List ResultVar)(K:Value->aa->Prop)(t:Tr Value)(n:Nat)(h:aa):pQ e rs K .ret ⟨t,n,[],h⟩=aG (iv e ⟨t,n,[],h⟩ rs) (KR K h):=by
 simp only[pQ,lu,KR,aG,Option.some.injEq];exact propext ⟨λ⟨_,h1,vs,e1,e2,e3⟩=>by subst e1;exact⟨vs,e2,e3⟩,λ⟨vs,e2,e3⟩=>⟨λi h=>(by cases h),h,vs,rfl,e2,e3⟩⟩
def sS(m:Nat)(l:dz):dz:=l.filter λq=> !m.testBit q.1
theorem Qb(m:Nat):sS m []=[]:=rfl
theorem Qc(m i id:Nat)(o:bK)(r:dz):sS m ((i,id,o)::r)=if m.testBit i=true then sS m r else(i,id,o)::sS m r:=by
 simp only[sS,List.filter_cons];cases m.testBit i<;>rfl
section
variable (ops:List Oper) (dst:Option Tmp) (op:Op) (ty:TypeId) (pos:String) (af:Array Edge) (r:List Oper) (m:Nat) (dy:Option (Nat×Nat)) (pl:List PI) (i id:Nat) (t:Tr Value) (n:Nat) (ds:List Deferred) (h:aa) (an all:dz) (st:List (Nat×aa)) (sn:List (Tr Value)) (K:cH->Prop)
def Bp(e:Env)(ro:Option Nat)(ops r:List Oper)(pl:List PI)(i id:Nat)(t:Tr Value)(n:Nat)(ds:List Deferred)(h:aa)(an all:dz)(st:List (Nat×aa))(sn:List (Tr Value))(K:cH->Prop)(dst:Option Tmp):Value->Prop:=
 λv=>cq e ro ops r pl (i+1) id (bH dst v t) n ds h an all st (t::sn) K
def FK(e:Env)(ro:Option Nat)(ops r:List Oper)(pl:List PI)(i id:Nat)(t:Tr Value)(n:Nat)(ds:List Deferred)(h:aa)(an all:dz)(st:List (Nat×aa))(sn:List (Tr Value))(K:cH->Prop)(dst:Option Tmp):bK×(Nat->Value)->Prop:=
 λq=>cq e ro ops r pl (i+1) (id+1) (bH dst (q.2 id) t) n ds h ((i,id,q.1)::an) ((i,id,q.1)::all) st (t::sn) K
def FL(e:Env)(ro:Option Nat)(ops r:List Oper)(m:Nat)(pl:List PI)(i id:Nat)(t:Tr Value)(n:Nat)(an all:dz)(st:List (Nat×aa))(sn:List (Tr Value))(K:cH->Prop)(dst:Option Tmp):Kt:=
 λv ds h=>cq e ro ops r pl (i+1) id (bH dst v t) n ds h (an.filter λq=> !m.testBit q.1) all ((Nat.lor ((st.head?.map (·.1)).getD 0) m,h)::st) (t::sn) K
theorem Qd(v:Value):Bp e ro ops r pl i id t n ds h an all st sn K dst v=cq e ro ops r pl (i+1) id (bH dst v t) n ds h an all st (t::sn) K:=rfl
theorem Qe(o:bK)(f:Nat->Value):FK e ro ops r pl i id t n ds h an all st sn K dst (o,f)=cq e ro ops r pl (i+1) (id+1) (bH dst (f id) t) n ds h ((i,id,o)::an) ((i,id,o)::all) st (t::sn) K:=rfl
theorem Qf(v:Value):FL e ro ops r m pl i id t n an all st sn K dst v ds h=cq e ro ops r pl (i+1) id (bH dst v t) n ds h (sS m an) all ((Nat.lor ((st.head?.map (·.1)).getD 0) m,h)::st) (t::sn) K:=rfl
theorem FN:cq e ro ops [] pl i id t n ds h an all st sn K=K ⟨⟨t,n,ds,h⟩,an,all,st,sn⟩:=by cases pl<;>rfl
theorem Qg:cq e ro ops (⟨dst,op,ty,pos,af,none⟩::r) (⟨.pure,m,dy⟩::pl) i id t n ds h an all st sn K=(dB dst n/\aG (bD e h t op) (Bp e ro ops r pl i id t n ds h an all st sn K dst)):=rfl
theorem Qh:cq e ro ops (⟨dst,op,ty,pos,af,none⟩::r) (⟨.read,m,dy⟩::pl) i id t n ds h an all st sn K=(dB dst n/\aG (bD e (cg h m an) t op) (Bp e ro ops r pl i id t n ds h an all st sn K dst)):=rfl
theorem Qi:cq e ro ops (⟨dst,op,ty,pos,af,none⟩::r) (⟨.alloc,m,dy⟩::pl) i id t n ds h an all st sn K=(dB dst n/\aG (cU e t op) (FK e ro ops r pl i id t n ds h an all st sn K dst)):=rfl
theorem Qj:cq e ro ops (⟨dst,op,ty,pos,af,none⟩::r) (⟨.effect,m,dy⟩::pl) i id t n ds h an all st sn K=(dB dst n/\bG e ro op t ds (cg h m an) (FL e ro ops r m pl i id t n an all st sn K dst)):=rfl
end
def uG(e:Env)(ro:Option Nat)(ops r:List Oper)(o:Oper)(p:PI)(pl:List PI)(i id:Nat)(t:Tr Value)(n:Nat)(ds:List Deferred)(h:aa)(an all:dz)(st:List (Nat×aa))(sn:List (Tr Value))(K:cH->Prop)(w:Bool):Value->Prop:=λg=>match g with
 |.bool b=>(b=w->(match p.c with
 |.pure=>aG (bD e h t o.op) λv=>cq e ro ops r pl (i+1) id (bH o.dst v t) n ds h an all st (t::sn) K
 |.read=>aG (bD e (cg h p.m an) t o.op) λv=>cq e ro ops r pl (i+1) id (bH o.dst v t) n ds h an all st (t::sn) K
 |.alloc=>aG (cU e t o.op) λq=>cq e ro ops r pl (i+1) (id+1) (bH o.dst (q.2 id) t) n ds h ((i,id,q.1)::an) ((i,id,q.1)::all) st (t::sn) K
 |.effect=>bG e ro o.op t ds (cg h p.m an) λv ds h=>cq e ro ops r pl (i+1) id (bH o.dst v t) n ds h (an.filter λq=> !p.m.testBit q.1) all ((Nat.lor ((st.head?.map (·.1)).getD 0) p.m,h)::st) (t::sn) K
 |.bad=>False))/\(b= !w->(match p.c with
 |.effect=>cq e ro ops r pl (i+1) id (bH o.dst undef t) n ds h an all (((st.head?.map (·.1)).getD 0,h)::st) (t::sn) K
 |.alloc=>cq e ro ops r pl (i+1) (id+1) (bH o.dst undef t) n ds h an all st (t::sn) K
 |.bad=>False
 |_=>cq e ro ops r pl (i+1) id (bH o.dst undef t) n ds h an all st (t::sn) K))
 |.tuple _=>(match p.c with
 |.effect=>cq e ro ops r pl (i+1) id (bH o.dst undef t) n ds h an all (((st.head?.map (·.1)).getD 0,h)::st) (t::sn) K
 |.alloc=>cq e ro ops r pl (i+1) (id+1) (bH o.dst undef t) n ds h an all st (t::sn) K
 |.bad=>False
 |_=>cq e ro ops r pl (i+1) id (bH o.dst undef t) n ds h an all st (t::sn) K)
 |_=>False
def FO(e:Env)(ro:Option Nat)(ops r:List Oper)(o:Oper)(p:PI)(pl:List PI)(i id:Nat)(t:Tr Value)(n:Nat)(ds:List Deferred)(h:aa)(an all:dz)(st:List (Nat×aa))(sn:List (Tr Value))(K:cH->Prop)(w:Bool):Tmp->Prop:=λd=>aG (t.get d) (uG e ro ops r o p pl i id t n ds h an all st sn K w)
section
variable (ops:List Oper) (dst:Option Tmp) (op:Op) (ty:TypeId) (pos:String) (af:Array Edge) (r:List Oper) (m:Nat) (dy:Option (Nat×Nat)) (pl:List PI) (i id:Nat) (t:Tr Value) (n:Nat) (ds:List Deferred) (h:aa) (an all:dz) (st:List (Nat×aa)) (sn:List (Tr Value)) (K:cH->Prop) (w:Bool)
theorem Qk(j:Nat)(p:PI):cq e ro ops (⟨dst,op,ty,pos,af,some (j,w)⟩::r) (p::pl) i id t n ds h an all st sn K=
 (dB dst n/\aG ((ops[j]?).bind (·.dst)) (FO e ro ops r ⟨dst,op,ty,pos,af,none⟩ p pl i id t n ds h an all st sn K w)):=rfl
theorem Ql(o:Oper)(p:PI)(d:Tmp):FO e ro ops r o p pl i id t n ds h an all st sn K w d=aG (t.get d) (uG e ro ops r o p pl i id t n ds h an all st sn K w):=rfl
theorem Qm:uG e ro ops r ⟨dst,op,ty,pos,af,none⟩ ⟨.pure,m,dy⟩ pl i id t n ds h an all st sn K w undef=cq e ro ops r pl (i+1) id (bH dst undef t) n ds h an all st (t::sn) K:=rfl
theorem Qn:uG e ro ops r ⟨dst,op,ty,pos,af,none⟩ ⟨.read,m,dy⟩ pl i id t n ds h an all st sn K w undef=cq e ro ops r pl (i+1) id (bH dst undef t) n ds h an all st (t::sn) K:=rfl
theorem Qo:uG e ro ops r ⟨dst,op,ty,pos,af,none⟩ ⟨.alloc,m,dy⟩ pl i id t n ds h an all st sn K w undef=cq e ro ops r pl (i+1) (id+1) (bH dst undef t) n ds h an all st (t::sn) K:=rfl
theorem Qp:uG e ro ops r ⟨dst,op,ty,pos,af,none⟩ ⟨.effect,m,dy⟩ pl i id t n ds h an all st sn K w undef=cq e ro ops r pl (i+1) id (bH dst undef t) n ds h an all (((st.head?.map (·.1)).getD 0,h)::st) (t::sn) K:=rfl
end
theorem Qq(h:aa)(m:Nat):cg h m []=h:=rfl
theorem Bt(h:aa)(m i id:Nat)(o:bK)(r:dz):cg h m ((i,id,o)::r)=if m.testBit i=true then(cg h m r).set id (some o)else cg h m r:=by
 simp only[cg];cases m.testBit i<;>rfl
theorem Qr(h:aa):fw h []=h:=rfl
theorem FP(h:aa)(i id:Nat)(o:bK)(r:dz):fw h ((i,id,o)::r)=(fw h r).set id (some o):=rfl
section
variable (h:aa) (t:Tr Value)
theorem Qs(x:Operand):bD e h t (.move x)=au e t x:=rfl
theorem Qt(x:Operand):bD e h t (.assign x)=au e t x:=rfl
theorem Qu(c a b:Operand):bD e h t (.pick c a b)=sL (au e t c) (au e t a) (au e t b):=rfl
theorem Qv(ty:TypeId)(l:List (Nat×Operand)):bD e h t (.build ty l.toArray)=nn e ty (fM e t l):=by simp[bD]
theorem Qw(ty:TypeId)(a:Operand):bD e h t (.load ty a)=(au e t a).bind (nk e h ty):=rfl
theorem Qx(x:Operand):bD e h t (.nilCheck x)=(au e t x).bind sJ:=rfl
theorem Qy(op:BinOp)(ty:TypeId)(x y:Operand)(z:TypeId):bD e h t (.binOp op ty x y z)=gH (cS e op ty x y) (au e t x) (au e t y):=rfl
theorem Qz(op:UnOp)(ty:TypeId)(x:Operand):bD e h t (.unOp op ty x)=(au e t x).bind (oy e op):=rfl
theorem QA(s d:TypeId)(x:Operand):bD e h t (.convert s d x)=(au e t x).bind (pR e h s d):=rfl
theorem QB(ty:TypeId)(x:Operand):bD e h t (.makeInterface ty x)=(au e t x).bind (wz e ty):=rfl
theorem QC(ty:TypeId)(x:Operand)(lo hi mx:Option Operand):bD e h t (.slice ty x lo hi mx)=uC e h ty (au e t x) (iP e t lo) (iP e t hi) (iP e t mx):=rfl
theorem QD(s:TypeId)(x:Operand)(f:Nat):bD e h t (.fieldAddr s x f)=(au e t x).bind (sI e s f):=rfl
theorem QE(ty:TypeId)(x:Operand)(f:Nat):bD e h t (.field ty x f)=(au e t x).bind (uB e ty f):=rfl
theorem QF(ty:TypeId)(x ix:Operand):bD e h t (.indexAddr ty x ix)=gH (pS e ty) (au e t x) (au e t ix):=rfl
theorem QG(ty:TypeId)(x ix:Operand):bD e h t (.index ty x ix)=gH (pT e ty) (au e t x) (au e t ix):=rfl
theorem QH(ty:TypeId)(m k:Operand)(ok:Bool):bD e h t (.lookup ty m k ok)=gH (oz e h ty ok) (au e t m) (au e t k):=rfl
theorem QI(x:Operand)(i:Nat):bD e h t (.extract x i)=(au e t x).bind (sK i):=rfl
def QJ(e:Env)(h:aa)(ty:TypeId):Option Value->Option Value
 |none=>none
 |some x=>fU e h ty x
theorem QK(ty:TypeId)(x:Value):QJ e h ty (some x)=fU e h ty x:=rfl
theorem QL(args:List Operand)(ai:Array TypeId):bD e h t (.call ⟨.builtin .min,args.toArray,ai⟩)=(df e t args).bind (qO e):=by simp[bD]
end
def aa.bump(h:aa)(n:Nat):aa:={h with next:=h.next+n}
theorem QM(h:aa):h.bump 0=h:=rfl
theorem QN(h:aa)(o:bK):(h.bump 1).set h.next (some o)=h.new o:=rfl
theorem bL(h:aa)(n:Nat):(h.bump n).next=h.next+n:=rfl
theorem QO(h:aa)(n i:Nat):(h.bump n).get i=h.get i:=rfl
theorem QP(h:aa)(n i o:Nat):rd (h.bump n) i o=rd h i o:=rfl
theorem Sub.bump{h g:aa}(a:Sub h g)(n:Nat):Sub h (g.bump n):=⟨Nat.le_trans a.next (Nat.le_add_right _ _),a.get⟩
def KD(e:Env)(ops:List Oper)(pl:List PI)(K:aE->Prop):cH->Prop:=λx=>gI e ops x.s.t x.all x.bE.reverse ops pl x.dg.reverse/\K {x.s with h:=fw x.s.h x.an}
theorem QQ(ops:List Oper)(pl:List PI)(K:aE->Prop)(t:Tr Value)(n:Nat)(ds:List Deferred)(h:aa)(an all:dz)(st:List (Nat×aa))(sn:List (Tr Value)):
 KD e ops pl K ⟨⟨t,n,ds,h⟩,an,all,st,sn⟩=(gI e ops t all st.reverse ops pl sn.reverse/\K ⟨t,n,ds,fw h an⟩):=rfl
theorem lC{ops:List Oper}{t:Tr Value}{n:Nat}{ds:List Deferred}{h:aa}{K:aE->Prop}(pl:List PI)(ao:sO ops true pl=true)(na:Nat)(av:Nat.beq (ops.filter λo=>cls o.op==.alloc).length na=true)
 (hs:cq e ro ops ops pl 0 h.next t n ds (h.bump na) [] [] [(0,h.bump na)] [] (KD e ops pl K)):mA e ro ops ⟨t,n,ds,h⟩ K:=Nj pl ao na av hs
section
variable (ops:List Oper) (tf:Tr Value) (all:dz) (st:List (Nat×aa)) (o:Oper) (dst:Option Tmp) (op:Op) (ty:TypeId) (pos:String) (af:Array Edge) (g:Option (Nat×Bool)) (r:List Oper) (c:ug) (m:Nat) (pl:List PI) (t:Tr Value) (ts:List (Tr Value)) (v:Value)
def wF(e:Env)(o:Oper)(m:Nat)(t:Tr Value)(all:dz)(l:List (Nat×aa)):Value->Prop:=λv=>pV e o m t v all l
def yz(e:Env)(o:Oper)(m:Nat)(t tf:Tr Value)(all:dz)(l:List (Nat×aa)):Prop:=aG o.dst λd=>aG (tf.get d) (wF e o m t all l)
def yA(w:Option Bool)(X:Prop):Prop:=match w with|some true=>X|some false=>True|none=>False
theorem QR(X:Prop):yA (some true) X=X:=rfl
theorem QS(X:Prop):yA (some false) X=True:=rfl
def yB(w:Bool):Option Value->Option Bool
 |some (.bool b)=>some (b==w)
 |some (.tuple _)=>some false
 |_=>none
def QT(t:Tr Value)(w:Bool):Option Tmp->Option Bool
 |none=>none
 |some d=>yB w (t.get d)
theorem QU(w:Bool)(d:Tmp):QT t w (some d)=yB w (t.get d):=rfl
theorem QV(w b:Bool):yB w (some (.bool b))=some (b==w):=rfl
theorem QW(w:Bool):yB w (some undef)=some false:=rfl
theorem QX(s:aE):cY ops s ⟨dst,op,ty,pos,af,none⟩=some true:=rfl
theorem QY:wF e o m t all st v=pV e o m t v all st:=rfl
theorem QZ(d:Tmp):yz e ⟨some d,op,ty,pos,af,g⟩ m t tf all st=aG (tf.get d) (wF e ⟨some d,op,ty,pos,af,g⟩ m t all st):=by simp[yz,gZ]
theorem Q0:pV e o m t v all []=True:=rfl
theorem Q2(q:Nat×aa)(l:List (Nat×aa)):pV e ⟨dst,op,ty,pos,af,g⟩ m t v all (q::l)=(bD e (cg q.2 m (sS q.1 all)) t op=some v/\pV e ⟨dst,op,ty,pos,af,g⟩ m t v all l):=rfl
theorem Q3:gI e ops tf all st [] pl ts=True:=by simp[gI]
theorem Q7:gI e ops tf all st (o::r) (⟨c,m,none⟩::pl) (t::ts)=gI e ops tf all st r pl ts:=by simp[gI]
theorem Q8(lo k:Nat):gI e ops tf all st (o::r) (⟨c,m,some (lo,k)⟩::pl) (t::ts)=(yA (cY ops ⟨t,0,[],{m:=.nil,next:=0}⟩ o) (yz e o m t tf all ((st.drop lo).take k))/\gI e ops tf all st r pl ts):=by
 simp only[gI,yA,yz,wF];congr 1;cases cY ops ⟨t,0,[],{m:=.nil,next:=0}⟩ o with
 |none=>rfl
 |some b=>
  cases b with
  |false=>rfl
  |true=>
   simp only;cases o.dst with
   |none=>simp[aG]
   |some d=>
    simp only[gZ];cases tf.get d with
    |none=>simp[aG]
    |some v=>simp[gZ,wF]
end
attribute [go_sem] Qb Qc QM QN bL QO QP QQ QR QS QU QV QW QX QY QZ Q0 Q2 Q3 Q7 Q8 PY PZ P6 P7 P8 P9 Qa Qd Qe Qf FN Qg Qh Qi Qj Qk Ql Qm Qn Qo Qp Qq Bt Qr FP Qs Qt Qu Qv Qw Qx Qy Qz QA QB QC QD QE QF QG QH QI QK QL
end Go.aw
end
noncomputable section
open Go Go.aw Go.Proofs
namespace Go.Sp
def tt:Tr TypeInfo:=Tr.ofList Tryz.prog.types.toList 0 .nil
def ft:Tr Func:=Tr.ofList Tryz.prog.funcs.toList 0 .nil
def idle(g:Nat):Bool:=Nat.beq g 91
set_option maxRecDepth 100000
def wG(ks:List wy):Env:=pP Tryz.prog tt ft idle 1 (yn ks)
def E:Env:=wG []
theorem uH(ks:List wy):Idle (wG ks):=by
 intro g hg args w n;obtain rfl:g=91:=Nat.eq_of_beq_eq_true hg;refine⟨args,enters_of Tryz.func91 (by kernel_rfl) rfl args w, ?_⟩;have af:Sem.run Tryz.prog (binOp BinOp.neq 20 Value.nilIface Value.nilIface) w=.ok (.bool false) w:=by simp[go_sem,Tryz.underlying20]
 show CallsDIn Fence.wide n Tryz.prog 91 args .returning w _;refine callsDIn_of_wpSIn Tryz.func91 rfl trivial λab cs hu=> ?_;have hT:17<=(args++Array.replicate (Tryz.f91.ntmps-args.size) undef).size:=by
  have:Tryz.f91.ntmps=17:=Tryz.ntmps91;simp[this];omega
 generalize (args++Array.replicate (Tryz.f91.ntmps-args.size) undef)=T at hT⊢;have t4:4<T.size:=by omega
 have t1:1<T.size:=by omega
 have t5:5<T.size:=by omega
 have t6:6<T.size:=by omega
 apply wpSIn_seq;apply wpSIn_region;simp[wpOpsSIn,go_sem,recoverD,hu,Exit.thenS,t4,t1];apply wpSIn_seq;apply wpSIn_region;simp[wpOpsSIn,go_sem,Exit.thenS,t4,t1,t5,t6,af];refine wpSIn_cond (t:=false) (by simp[Act.eval,t6]) ?_;simp only[Bool.false_eq_true,if_false];refine wpSIn_of_wpIn rfl (wpIn_skip ?_);cases ab;simp_all[bodyPostS,results,Tryz.results91]
theorem Ra:Fq tt Tryz.prog.types.toList=true:=by kernel_rfl
theorem Rb:Fs Tryz.prog.funcs.toList=true:=by kernel_rfl
theorem lY:Tryz.prog.follows .mixedOrders=true:=by kernel_rfl
theorem kN(ks:List wy):(wG ks).Ok:=Nb idle 1 (yn ks) rfl rfl Ra Rb
theorem run{f:FuncId}{fn:Func}{c:Code}{args:List Value}{h:aa}{K:Value->aa->Prop}(ad:E.fn f=some fn)(hb:fn.body=some c){n:Nat}(hn:fn.ntmps=n){rs:List ResultVar}(ae:fn.results=rs.toArray)
 (hq:RS E none c ⟨gX args,args.length+(n-args.length),[],h⟩ (pQ E rs K)):∃v h',bS E f args h v h'/\K v h':=bS.OF (kN []) lY (uH []) ad hb hn ae hq
theorem yC{ro:Option Nat}{c:Code}{s:aE}{K:bn->aE->Prop}(h:RS E ro c s (uE E ro c K)):RS E ro (.loop c) s K:=OC (kN []) lY h
theorem step{ro:Option Nat}{c:Code}{s:aE}{P:bn->aE->Prop}(h:RS E ro c s (uE E ro c P)):∃k x s',ow E ro c x s' k s/\P x s':=FD (kN []) lY h
theorem mB{f:FuncId}{fn:Func}{c:Code}{args:List Value}{h:aa}{v:Value}(ad:E.fn f=some fn)(hb:fn.body=some c){n:Nat}(hn:fn.ntmps=n){rs:List ResultVar}(ae:fn.results=rs.toArray)(hv:plain v=true)
 (hq:RS E none c ⟨gX args,args.length+(n-args.length),[],h⟩ (pQ E rs λv' h'=>v'=v/\Sub h h')):bS E f args h v h:=by
 obtain⟨v',h',h1,rfl,h2⟩:=run ad hb hn ae hq;exact h1.plain h2 hv
attribute [go_sem] List.getElem?_cons_zero List.getElem?_cons_succ
end Go.Sp
end
noncomputable section
namespace Go.aw
theorem dC(h:aa)(o:bK)(j:Nat)(hj:¬j≠h.next):(h.new o).get j=some o:=by rw[show j=h.next by omega];exact qT h o
theorem gJ(h:aa)(cs:List Value)(wr:Bool)(ah:Nat)(j o:Nat)(hj:¬j≠h.next):rd (h.new (.row cs wr ah)) j o=cs[o]? :=cZ (dC h _ j hj)
def kO(k:Nat)(h:aa)(v:Value)(cs:List (List Value)):Prop:=
 (cs=[]/\∃a c,v=.slice a 0 c)\/∃b o c,v=.slice (some ⟨b,o,none⟩) cs.length c/\b<h.next/\∀j x,cs[j]? =some x->∀i u,x[i]? =some u->rd h b (o+j*k+i)=some u
theorem kO.sub{k:Nat}{h g:aa}{v:Value}{cs:List (List Value)}(hs:kO k h v cs)(a:Sub h g):kO k g v cs:=by
 rcases hs with hs|⟨b,o,c,h1,h2,h3⟩
 . exact .inl hs
 . exact .inr ⟨b,o,c,h1,Nat.lt_of_lt_of_le h2 a.next,λj x hj i u hi=>a.rd h2 (h3 j x hj i u hi)⟩
theorem kO.at{k:Nat}{h:aa}{v:Value}{cs:List (List Value)}(hs:kO k h v cs){j:Nat}{x:List Value}(hj:cs[j]? =some x):
 ∃b o c,v=.slice (some ⟨b,o,none⟩) cs.length c/\b<h.next/\j<cs.length/\∀i u,x[i]? =some u->rd h b (o+j*k+i)=some u:=by
 rcases hs with⟨rfl,_⟩|⟨b,o,c,h1,h2,h3⟩
 . cases hj
 . exact⟨b,o,c,h1,h2,(List.getElem?_eq_some_iff.1 hj).1,λi u hi=>h3 j x hj i u hi⟩
theorem kO.cell{k:Nat}{h:aa}{b o c n:Nat}{cs:List (List Value)}(hs:kO k h (.slice (some ⟨b,o,none⟩) n c) cs){j:Nat}{x:List Value}(hj:cs[j]? =some x){i:Nat}{u:Value}(hi:x[i]? =some u):rd h b (o+j*k+i)=some u:=by
 obtain⟨b',o',c',e,_,_,h3⟩:=hs.at hj;cases e;exact h3 i u hi
variable {e:Env} {ro:Option Nat}
def Env.place(e:Env)(t i:Nat):Option (Nat×Nat):=
 match e.under t with
 |some (.struct fields)=>kH e fields i
 |some (.array _ elem)=>match e.size elem with
  |none=>none
  |some s=>some (i*s,s)
 |_=>none
def qU(e:Env)(t:TypeId)(cells:List Value)(ps:List (Nat×Value)):Option (List Value):=jg (e.place t) cells ps
def Bu(e:Env)(t:TypeId)(cells:List Value)(v:Value)(r:List (Nat×Value)):Option (Nat×Nat)->Option (List Value)
 |none=>none
 |some (off,size)=>if v.cells.toList.length=size/\off+size<=cells.length then qU e t (eo cells off v.cells.toList) r else none
theorem Rc(t:TypeId)(cells:List Value):qU e t cells []=some cells:=rfl
theorem Re(t:TypeId)(cells:List Value)(i:Nat)(v:Value)(r:List (Nat×Value)):qU e t cells ((i,v)::r)=Bu e t cells v r (e.place t i):=by
 simp only[qU,jg,Bu];cases e.place t i with
 |none=>rfl
 |some p=>
  obtain⟨off,size⟩:=p;simp only;by_cases h1:v.cells.toList.length=size<;>by_cases h2:off+size<=cells.length
  . rw[if_pos ⟨h1,h2⟩];simp only[h1,Nat.beq_refl,Nat.ble_eq_true_of_le h2,Bool.and_self,cond_true]
  . rw[if_neg (λh=>h2 h.2)];have:Nat.ble (off+size) cells.length=false:=by
     cases hb:Nat.ble (off+size) cells.length with
     |false=>rfl
     |true=>exact absurd (Nat.le_of_ble_eq_true hb) h2
    simp only[this,Bool.and_false,cond_false]
  . rw[if_neg (λh=>h1 h.1)];have:Nat.beq v.cells.toList.length size=false:=by
     cases hb:Nat.beq v.cells.toList.length size with
     |false=>rfl
     |true=>exact absurd (Nat.eq_of_beq_eq_true hb) h1
    simp only[this,Bool.false_and,cond_false]
  . rw[if_neg (λh=>h1 h.1)];have:Nat.beq v.cells.toList.length size=false:=by
     cases hb:Nat.beq v.cells.toList.length size with
     |false=>rfl
     |true=>exact absurd (Nat.eq_of_beq_eq_true hb) h1
    simp only[this,Bool.false_and,cond_false]
theorem Rf(t:TypeId)(cells:List Value)(v:Value)(r:List (Nat×Value))(off size:Nat):Bu e t cells v r (some (off,size))=if v.cells.toList.length=size/\off+size<=cells.length then qU e t (eo cells off v.cells.toList) r else none:=rfl
def sT(e:Env)(t:TypeId)(ps:List (Nat×Value)):Option Value->Option Value
 |none=>none
 |some z=>Bg (qU e t z.cells.toList ps)
theorem Rg(t:TypeId)(ps:List (Nat×Value))(z:Value):sT e t ps (some z)=Bg (qU e t z.cells.toList ps):=rfl
theorem yD{t:TypeId}(ps:List (Nat×Value))(h:(e.place t 0).isSome=true)(hs:∃d,e.under t=some d/\j7 d=true):nn e t (some ps)=sT e t ps (e.zero t):=by
 obtain⟨d,hd,ha⟩:=hs;simp only[nn,qB,sT,qU,hd];cases hz:e.zero t with
 |none=>rfl
 |some z=>
  cases d with
  |struct fields=>
   have:e.place t=kH e fields:=by funext i;simp[Env.place,hd]
   simp only[this];cases jg (kH e fields) z.cells.toList ps<;>rfl
  |array n el=>
   simp only;cases he:e.size el with
   |none=>
    simp only;have hp:e.place t=λ_=>none:=by funext i;simp[Env.place,hd,he]
    rw[hp]at h;cases h
   |some s=>
    have:e.place t=λi=>some (i*s,s):=by funext i;simp[Env.place,hd,he]
    simp only[this];cases jg (λi=>some (i*s,s)) z.cells.toList ps<;>rfl
  |_=>cases ha
attribute [go_sem] Rc Re Rf Rg
end Go.aw
end

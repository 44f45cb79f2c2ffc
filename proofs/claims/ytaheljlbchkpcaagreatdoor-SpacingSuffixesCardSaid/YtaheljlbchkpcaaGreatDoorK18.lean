/- SpacingSuffixes: parts of its proof (DvG). -/
import Derived.Test.YtaheljlbchkpcaaGreatDoorK17
set_option linter.unusedVariables false
set_option linter.unusedSimpArgs false
noncomputable section
namespace Go.aw
variable {e:Env} {aj:Bool}
def fG(K:cF)(dd:List FuncId)(h:ab):DV->Prop:=λv=>K v dd h []
def uM(K:cF)(dd:List FuncId)(h:ab):bF×(Nat->DV)->Prop:=λp=>K (p.2 h.next) dd (h.new p.1) []
def Gp(K:cF)(dd:List FuncId)(h:ab):bF->Prop:=λo=>K (.v (.pointer (some ⟨h.next,0,none⟩))) dd (h.new o) []
def yS(K:cF)(dd:List FuncId):ab×Nat->Prop:=λp=>K dj dd p.1 [p.2]
def Gq(K:cF)(dd:List FuncId):DV×ab×List Nat->Prop:=λp=>K p.1 dd p.2.1 p.2.2
def R8(K:cF)(dd:List FuncId):DV×ab×Nat->Prop:=λp=>K p.1 dd p.2.1 [p.2.2]
def aq(e:Env)(aj:Bool)(K:cF)(dd:List FuncId)(h:ab):FuncId×List DV->Prop:=λp=>c8 e aj p.1 p.2 h λv h' T=>K v dd h' T
def Gr(K:cF)(dd:List FuncId)(h:ab):FuncId×List DV->Prop:=λp=>K dj (p.1::dd) h []
def BS(e:Env)(aj:Bool)(ops r:List Oper)(t:Tr DV)(n:Nat)(K:DS->Prop)(dst:Option Tmp):cF:=λv dd h _=>fj e aj ops r (cJ dst v t) n dd h K
section
variable (K:cF) (dd:List FuncId) (h:ab)
theorem R9(v:DV):fG K dd h v=K v dd h []:=(rfl)
theorem Sa(o:bF)(f:Nat->DV):uM K dd h (o,f)=K (f h.next) dd (h.new o) []:=(rfl)
theorem Sb(o:bF):Gp K dd h o=K (.v (.pointer (some ⟨h.next,0,none⟩))) dd (h.new o) []:=(rfl)
theorem Sc(h':ab)(b:Nat):yS K dd (h',b)=K dj dd h' [b]:=(rfl)
theorem Sd(v:DV)(h':ab)(T:List Nat):Gq K dd (v,h',T)=K v dd h' T:=(rfl)
theorem Se(f:FuncId)(a:List DV):Gr K dd h (f,a)=K dj (f::dd) h []:=(rfl)
theorem Sf(ops r:List Oper)(t:Tr DV)(n:Nat)(K:DS->Prop)(dst:Option Tmp)(v:DV)(T:List Nat):BS e aj ops r t n K dst v dd h T=fj e aj ops r (cJ dst v t) n dd h K:=(rfl)
end
theorem aq.mk{K:cF}{dd:List FuncId}{h:ab}{f:FuncId}{args:List DV}{dv:DV}(hf:ax e aj f args dv)(hk:∀N,h.next<=N->K dv dd (h.up N) []):aq e aj K dd h (f,args):=c8.of hf hk
theorem aq.pl{K:cF}{dd:List FuncId}{h:ab}{f:FuncId}{args aa:List DV}{u:Value}(hf:ax e aj f aa (.v u))(hz:cP (allRows h) args aa)(hk:∀N,h.next<=N->K (.v u) dd (h.up N) []):aq e aj K dd h (f,args):=c8.plain hf hz hk
theorem aq.fz{K:cF}{dd:List FuncId}{h:ab}{f:FuncId}{args aa:List DV}{dv:DV}(hf:ax e aj f aa dv)(l:List Nat)(hl:∀i∈l,(h.get i).isSome=true)(hz:cP (rowsOf h l) args aa)(hk:∀N,h.next<=N->K dv dd ((gb h l).up N) l):aq e aj K dd h (f,args):=c8.fz hf l hl hz hk
theorem Sg(v:DV)(t:Tr DV):cJ none v t=t:=(rfl)
theorem Sh(d:Nat)(v:DV)(t:Tr DV):cJ (some d) v t=t.set d (some v):=(rfl)
section
variable (ops:List Oper) (dst:Option Tmp) (op:Op) (ty:TypeId) (pos:String) (af:Array Edge) (r:List Oper) (t:Tr DV) (n:Nat) (dd:List FuncId) (h:ab) (K:DS->Prop) (w:Bool)
def mF(e:Env)(aj:Bool)(ops:List Oper)(op:Op)(dst:Option Tmp)(r:List Oper)(t:Tr DV)(n:Nat)(dd:List FuncId)(h:ab)(K:DS->Prop)(w:Bool):DV->Prop:=λg=>aG (match some g with
 |some (.v (.bool b))=>some (b==w)
 |some (.v (.tuple _))=>some false
 |some (.bg _)=>some false
 |_=>none) λx=>match x with
 |true=>cr e aj op t dd h λv dd h _=>fj e aj ops r (cJ dst v t) n dd h K
 |false=>fj e aj ops r (cJ dst dj t) n dd h K
def BU(e:Env)(aj:Bool)(ops:List Oper)(op:Op)(dst:Option Tmp)(r:List Oper)(t:Tr DV)(n:Nat)(dd:List FuncId)(h:ab)(K:DS->Prop)(w:Bool):Tmp->Prop:=λd=>aG (t.get d) (mF e aj ops op dst r t n dd h K w)
theorem Si:fj e aj ops [] t n dd h K=K ⟨t,n,dd,h⟩:=(rfl)
theorem Sj:fj e aj ops (⟨dst,op,ty,pos,af,none⟩::r) t n dd h K=(dB dst n/\cr e aj op t dd h (BS e aj ops r t n K dst)):=by
 simp only[fj,iS,gZ];rfl
theorem Sk(j:Nat):fj e aj ops (⟨dst,op,ty,pos,af,some (j,w)⟩::r) t n dd h K=(dB dst n/\aG ((ops[j]?).bind (·.dst)) (BU e aj ops op dst r t n dd h K w)):=by
 simp only[fj,iS];cases(ops[j]?).bind (·.dst)with
 |none=>simp[aG]
 |some d=>
  simp only[gZ,BU];cases t.get d with
  |none=>simp[aG]
  |some g=>simp only[gZ,mF];rfl
theorem Sl(d:Tmp):BU e aj ops op dst r t n dd h K w d=aG (t.get d) (mF e aj ops op dst r t n dd h K w):=(rfl)
theorem Sm:mF e aj ops op dst r t n dd h K w (.v (.bool w))=cr e aj op t dd h (BS e aj ops r t n K dst):=by
 simp only[mF,beq_self_eq_true,gZ];rfl
theorem Sn:mF e aj ops op dst r t n dd h K true (.v (.bool false))=fj e aj ops r (cJ dst dj t) n dd h K:=by
 simp[mF,gZ]
theorem So:mF e aj ops op dst r t n dd h K false (.v (.bool true))=fj e aj ops r (cJ dst dj t) n dd h K:=by
 simp[mF,gZ]
theorem Gs(vs:Array Value):mF e aj ops op dst r t n dd h K w (.v (.tuple vs))=fj e aj ops r (cJ dst dj t) n dd h K:=by
 simp[mF,gZ]
end
section
variable (t:Tr DV) (dd:List FuncId) (h:ab) (K:cF)
theorem Sq(x:Operand):cr e aj (.move x) t dd h K=aG (aB e t x) (fG K dd h):=(rfl)
theorem Sr(x:Operand):cr e aj (.assign x) t dd h K=aG (aB e t x) (fG K dd h):=(rfl)
theorem Ss(c a b:Operand):cr e aj (.pick c a b) t dd h K=aG (ri (aB e t c) (aB e t a) (aB e t b)) (fG K dd h):=(rfl)
theorem St(ty:TypeId)(l:List (Nat×Operand)):cr e aj (.build ty l.toArray) t dd h K=aG ((fY e t l).bind (eV e ty)) (fG K dd h):=by simp[cr,aT,fG];rfl
theorem Su(ty:TypeId)(a:Operand):cr e aj (.load ty a) t dd h K=aG ((aB e t a).bind (jl e h ty)) (fG K dd h):=(rfl)
theorem Sv(x:Operand):cr e aj (.nilCheck x) t dd h K=aG ((aB e t x).bind lD) (fG K dd h):=(rfl)
theorem Sw(op:BinOp)(ty:TypeId)(x y:Operand)(z:TypeId):cr e aj (.binOp op ty x y z) t dd h K=aG (gK (jK e op ty x y) (aB e t x) (aB e t y)) (fG K dd h):=(rfl)
theorem Sx(op:UnOp)(ty:TypeId)(x:Operand):cr e aj (.unOp op ty x) t dd h K=aG ((aB e t x).bind (l7 (oy e op))) (fG K dd h):=(rfl)
theorem Sy(s d:TypeId)(x:Operand):cr e aj (.convert s d x) t dd h K=aG ((aB e t x).bind (nr e h s d)) (fG K dd h):=(rfl)
theorem Sz(f:FuncId)(a c:List Operand):cr e aj (.makeFunc (.func f) a.toArray c.toArray) t dd h K=aG (oH f (cO e t a) (cO e t c)) (fG K dd h):=by simp[cr,aT,fG];rfl
theorem SA(ty:TypeId)(x:Operand)(lo hi mx:Option Operand):cr e aj (.slice ty x lo hi mx) t dd h K=aG (dX e h ty (aB e t x) (eM e t lo) (eM e t hi) (eM e t mx)) (fG K dd h):=(rfl)
theorem SB(s:TypeId)(x:Operand)(f:Nat):cr e aj (.fieldAddr s x f) t dd h K=aG ((aB e t x).bind (kR e s f)) (fG K dd h):=(rfl)
theorem SC(ty:TypeId)(x ix:Operand):cr e aj (.indexAddr ty x ix) t dd h K=aG (gK (λa b=>iQ e ty a (gr b)) (aB e t x) (aB e t ix)) (fG K dd h):=(rfl)
theorem SE(ty:TypeId)(x ix:Operand):cr e aj (.index ty x ix) t dd h K=aG (gK (oG e ty) (aB e t x) (aB e t ix)) (fG K dd h):=(rfl)
theorem SF(ty:TypeId)(m k:Operand)(ok:Bool):cr e aj (.lookup ty m k ok) t dd h K=aG (gK (lF e h ty ok) (aB e t m) (aB e t k)) (fG K dd h):=(rfl)
theorem SG(x:Operand)(i:Nat):cr e aj (.extract x i) t dd h K=aG ((aB e t x).bind (mC i)) (fG K dd h):=(rfl)
theorem SH(ty:TypeId):cr e aj (.alloc ty) t dd h K=aG (dY e t (.alloc ty)) (uM K dd h):=(rfl)
theorem SJ(ty:TypeId)(x:Operand):cr e aj (.box ty x) t dd h K=aG (dY e t (.box ty x)) (uM K dd h):=(rfl)
theorem SK(ty:TypeId)(n:Nat)(ps:Array (Nat×Operand)):cr e aj (.buildSlice ty n ps) t dd h K=aG (dY e t (.buildSlice ty n ps)) (uM K dd h):=(rfl)
theorem SL(ty:TypeId)(n:Option Operand):cr e aj (.makeMap ty n) t dd h K=aG (dY e t (.makeMap ty n)) (uM K dd h):=(rfl)
theorem SM(ty:TypeId)(l c:Operand):cr e aj (.makeSlice ty l c) t dd h K=aG (dY e t (.makeSlice ty l c)) (uM K dd h):=(rfl)
theorem SN(ty:TypeId)(a x:Operand):cr e aj (.store ty a x) t dd h K=aG (ma e h ty (aB e t a) (aB e t x)) (yS K dd):=(rfl)
theorem SO(ty:TypeId)(m k v:Operand):cr e aj (.mapUpdate ty m k v) t dd h K=aG (jL e h ty (aB e t m) (aB e t k) (aB e t v)) (yS K dd):=(rfl)
theorem SP(ty:TypeId)(m k v:Operand):cr e aj (.insert ty m k v) t dd h K=aG (jL e h ty (aB e t m) (aB e t k) (aB e t v)) (yS K dd):=(rfl)
theorem SQ(ty:TypeId)(x:Operand):cr e aj (.range ty x) t dd h K=aG ((aB e t x).bind (mb e h ty)) (Gp K dd h):=(rfl)
def SR(e:Env)(t:Tr DV)(dd:List FuncId)(h:ab)(it:Operand)(s:Bool)(K:cF):Prop:=(aG ((aB e t it).bind (kV h · s)) (R8 K dd))\/(s=false/\aG (aB e t it) λd=>yR h d λv h r=>K v dd h [r])
theorem SS(it:Operand)(s:Bool):cr e false (.next it s) t dd h K=SR e t dd h it s K:=(rfl)
theorem SU(it:Operand):cr e aj (.entry it) t dd h K=aG ((aB e t it).bind (uL h)) (fG K dd h):=(rfl)
theorem SV(f:Operand)(args:List Operand)(ad:Array TypeId):cr e aj (.call ⟨.value f,args.toArray,ad⟩) t dd h K=aG (jM (aB e t f) (cO e t args)) (aq e aj K dd h):=by simp[cr];rfl
theorem SW(f:Operand)(args:List Operand)(ad:Array TypeId):cr e aj (.defer ⟨.value f,args.toArray,ad⟩) t dd h K=aG (jM (aB e t f) (cO e t args)) (Gr K dd h):=by simp[cr];rfl
theorem SX(args:List Operand)(ad:Array TypeId):cr e aj (.call ⟨.builtin .append,args.toArray,ad⟩) t dd h K=aG (kU e h ad (cO e t args)) (Gq K dd):=by simp[cr];rfl
theorem SY(x:Operand)(ty:TypeId)(ad:List TypeId):cr e aj (.call ⟨.builtin .len,#[x],(ty::ad).toArray⟩) t dd h K=aG ((aB e t x).bind (iz e h ty)) (fG K dd h):=by
 simp only[cr,aT,cO];cases aB e t x<;>simp[fG,aG,pY]
theorem SZ(args:List Operand)(ad:Array TypeId):cr e aj (.call ⟨.builtin .min,args.toArray,ad⟩) t dd h K=aG (((cO e t args).bind rj).bind λl=>(qO e l).map .v) (fG K dd h):=by simp[cr,aT,fG];rfl
theorem S0(args:List Operand)(ad:Array TypeId):cr e aj (.call ⟨.builtin .max,args.toArray,ad⟩) t dd h K=aG (((cO e t args).bind rj).bind λl=>(sM e l).map .v) (fG K dd h):=by simp[cr,aT,fG];rfl
end
section
variable (t:Tr DV)
theorem S1(i:Nat):aB e t (.tmp i)=t.get i:=(rfl)
theorem S2(f:FuncId):aB e t (.func f)=some (.fn f [] []):=(rfl)
theorem S3(k:IntKind)(n:Int):aB e t (.const (.int k n))=some (.v (.int k n)):=(rfl)
theorem S4(b:Bool):aB e t (.const (.bool b))=some (.v (.bool b)):=(rfl)
theorem S5(s:ByteArray):aB e t (.const (.string s))=some (.v (.string s)):=(rfl)
theorem S6:aB e t (.const (.pointer none))=some (.v (.pointer none)):=(rfl)
theorem S7(l k:Nat):aB e t (.const (.slice none l k))=some (.v (.slice none l k)):=(rfl)
theorem S8:aB e t (.const (.map none))=some (.v (.map none)):=(rfl)
theorem S9:aB e t (.const .nilFunc)=some (.v .nilFunc):=(rfl)
def BV(e:Env)(t:Tr DV)(r:List Operand):Option DV->Option (List DV)
 |none=>none
 |some v=>(cO e t r).map (v::·)
theorem Ta:cO e t []=some []:=(rfl)
theorem Tb(o:Operand)(r:List Operand):cO e t (o::r)=BV e t r (aB e t o):=by
 simp only[cO,BV];cases aB e t o<;>rfl
theorem Tc(r:List Operand)(v:DV):BV e t r (some v)=(cO e t r).map (v::·):=(rfl)
def BW(e:Env)(t:Tr DV)(i:Nat)(r:List (Nat×Operand)):Option DV->Option (List (Nat×DV))
 |none=>none
 |some v=>(fY e t r).map ((i,v)::·)
theorem Td:fY e t []=some []:=(rfl)
theorem Te(i:Nat)(o:Operand)(r:List (Nat×Operand)):fY e t ((i,o)::r)=BW e t i r (aB e t o):=by
 simp only[fY,BW];cases aB e t o<;>rfl
theorem Tf(i:Nat)(r:List (Nat×Operand))(v:DV):BW e t i r (some v)=(fY e t r).map ((i,v)::·):=(rfl)
theorem Tg:eM e t none=some none:=(rfl)
theorem Th(o:Operand):eM e t (some o)=(aB e t o).map some:=(rfl)
end
theorem Ti(a:List DV):iT a=Tr.ofList a 0 .nil:=(rfl)
theorem Tj(i:Nat)(t:Tr DV):Tr.ofList [] i t=t:=(rfl)
theorem Tk(v:DV)(l:List DV)(i:Nat)(t:Tr DV):Tr.ofList (v::l) i t=Tr.ofList l (i+1) (t.set i (some v)):=(rfl)
theorem Tl(f:FuncId)(a c args:List DV):jM (some (.fn f a c)) (some args)=some (f,a++args++c):=(rfl)
theorem Gt{α:Type}(f:DV->DV->Option α)(a b:DV):gK f (some a) (some b)=f a b:=(rfl)
section
variable (op:BinOp) (ty:TypeId) (x y:Operand) (k:IntKind) (n m:Int)
theorem Tm(a b:Value):jK e op ty x y (.v a) (.v b)=(cS e op ty x y a b).map .v:=(rfl)
end
theorem Tn(f:Value->Option Value)(v:Value):l7 f (.v v)=(f v).map .v:=(rfl)
theorem To(a b:Option DV):ri (some (.v (.bool true))) a b=a:=(rfl)
theorem Tp(a b:Option DV):ri (some (.v (.bool false))) a b=b:=(rfl)
theorem Tq(a:Addr):lD (.v (.pointer (some a)))=some (.v (.pointer (some a))):=(rfl)
theorem Ts(xs:List DV)(o:Nat):lD (.ptr xs o)=some (.ptr xs o):=(rfl)
theorem Tt(i:Nat)(l:List DV):mC i (.bg l)=l[i]? :=(rfl)
theorem Tu(f:FuncId)(a c:List DV):oH f (some a) (some c)=some (.fn f a c):=(rfl)
theorem Tv(k:IntKind)(i:Int):gr (.v (.int k i))=some i:=(rfl)
def BX(l:Option (Option Nat))(o:Nat):Option bF->Option DV
 |some (.row cs _ _)=>fy l cs o
 |_=>none
theorem Tw(h:ab)(ty:TypeId)(b o:Nat):jl e h ty (.v (.pointer (some ⟨b,o,none⟩)))=BX (e.ld ty) o (h.get b):=by
 simp only[jl,BX];cases h.get b with
 |none=>rfl
 |some ob=>cases ob<;>rfl
theorem Tx(l:Option (Option Nat))(o:Nat)(cs:List DV)(wr:Bool)(ah:Nat):BX l o (some (.row cs wr ah))=fy l cs o:=(rfl)
theorem Ty(h:ab)(ty:TypeId)(xs:List DV)(o:Nat):jl e h ty (.ptr xs o)=fy (e.ld ty) xs o:=(rfl)
theorem Tz(cs:List DV)(o:Nat):fy (some none) cs o=cs[o]? :=(rfl)
theorem TA(cs:List DV)(o n:Nat):fy (some (some (n+1))) cs o=if o+(n+1)<=cs.length then some (.agg ((cs.drop o).take (n+1)))else none:=(rfl)
def Gu(b o:Nat):Option Nat->Option DV
 |none=>none
 |some k=>some (.v (.pointer (some ⟨b,o+k,none⟩)))
def Gv(xs:List DV)(o:Nat):Option Nat->Option DV
 |none=>none
 |some k=>some (.ptr xs (o+k))
theorem TB(s f b o:Nat):kR e s f (.v (.pointer (some ⟨b,o,none⟩)))=Gu b o (e.off s f):=by
 simp only[kR];cases e.off s f<;>rfl
theorem TE(s f o:Nat)(xs:List DV):kR e s f (.ptr xs o)=Gv xs o (e.off s f):=by
 simp only[kR];cases e.off s f<;>rfl
theorem TF(b o k:Nat):Gu b o (some k)=some (.v (.pointer (some ⟨b,o+k,none⟩))):=(rfl)
theorem TG(xs:List DV)(o k:Nat):Gv xs o (some k)=some (.ptr xs (o+k)):=(rfl)
theorem TH(ty b o len c:Nat)(i:Int):iQ e ty (.v (.slice (some ⟨b,o,none⟩) len c)) (some i)=(oA b o len i (e.elem ty)).map .v:=(rfl)
theorem TI(ty b o:Nat)(i:Int):iQ e ty (.v (.pointer (some ⟨b,o,none⟩))) (some i)=(oB b o i (e.arr ty)).map .v:=(rfl)
def yT(i:Int)(k:Nat)(xs:List (List DV)):Option Nat->Option DV
 |none=>none
 |some s=>if s=k then q9 i xs else none
theorem TJ(ty k:Nat)(xs:List (List DV))(i:Int):iQ e ty (.sl k xs) (some i)=yT i k xs (e.elem ty):=by
 simp only[iQ,yT];cases e.elem ty with
 |none=>rfl
 |some s=>simp only[Option.some.injEq]
theorem TK(i:Int)(k:Nat)(xs:List (List DV)):yT i k xs (some k)=q9 i xs:=by simp[yT]
def BY(n:Nat):Option Nat->Option DV
 |none=>none
 |some _=>some (.v (.int .i64 n))
theorem TL(n s:Nat):BY n (some s)=some (.v (.int .i64 n)):=(rfl)
theorem TM(h:ab)(ty k:Nat)(xs:List (List DV)):iz e h ty (.sl k xs)=BY xs.length (e.elem ty):=by
 simp only[iz];cases e.elem ty<;>rfl
theorem TN(h:ab)(ty:Nat)(a:Option Addr)(l c:Nat):iz e h ty (.v (.slice a l c))=BY l (e.elem ty):=by
 simp only[iz];cases e.elem ty<;>rfl
theorem TO(h:ab)(ty:Nat)(s:ByteArray):iz e h ty (.v (.string s))=(fU e ⟨.nil,0⟩ ty (.string s)).map .v:=(rfl)
theorem mG(h:ab)(o:bF)(j:Nat):(h.new o).get j=if j=h.next then some o else h.get j:=ab.dT _ _ _
theorem TP(h:ab)(i:Nat)(o:Option bF):(h.set i o).get i=o:=by rw[ab.bw,if_pos rfl]
def BZ:Option DV->Option (bF×(Nat->DV))
 |none=>none
 |some d=>if(cE d).all di=true then some (.row (cE d) true 0,λi=>.v (.pointer (some ⟨i,0,none⟩)))else none
theorem TQ(t:Tr DV)(ty:TypeId)(x:Operand):dY e t (.box ty x)=BZ (aB e t x):=by
 simp only[dY,BZ];cases aB e t x<;>rfl
theorem TR(d:DV):BZ (some d)=if(cE d).all di=true then some (.row (cE d) true 0,λi=>.v (.pointer (some ⟨i,0,none⟩)))else none:=(rfl)
def B6:Option Value->Option (bF×(Nat->DV))
 |none=>none
 |some z=>some (.row (z.cells.toList.map .v) true 0,λi=>.v (.pointer (some ⟨i,0,none⟩)))
theorem TT(t:Tr DV)(ty:TypeId):dY e t (.alloc ty)=B6 (e.zero ty):=by
 simp only[dY,B6];cases e.zero ty<;>rfl
theorem TU(z:Value):B6 (some z)=some (.row (z.cells.toList.map .v) true 0,λi=>.v (.pointer (some ⟨i,0,none⟩))):=(rfl)
theorem TV(t:Tr DV)(ty:TypeId):dY e t (.makeMap ty none)=some (.map [] 0,λi=>.v (.map (some i))):=(rfl)
theorem TW(l:List DV):cE (.agg l)=l:=(rfl)
theorem TX(v:Value):cE (.v v)=[.v v]:=(rfl)
theorem TY(f:FuncId)(a c:List DV):cE (.fn f a c)=[.fn f a c]:=(rfl)
theorem TZ(k:Nat)(xs:List (List DV)):cE (.sl k xs)=[.sl k xs]:=(rfl)
theorem T7(xs:List DV)(o:Nat):cE (.ptr xs o)=[.ptr xs o]:=(rfl)
theorem T8(v:Value):di (.v v)=dL v:=(rfl)
theorem Ua(f:FuncId)(a c:List DV):di (.fn f a c)=true:=(rfl)
theorem Ub(k:Nat)(xs:List (List DV)):di (.sl k xs)=true:=(rfl)
theorem Uc(xs:List DV)(o:Nat):di (.ptr xs o)=true:=(rfl)
def B7(h:ab)(b o:Nat)(d:DV):Option bF->Option Nat->Option (ab×Nat)
 |some (.row cs true ah),some n=>if(cE d).length=n/\0<n/\o+n<=cs.length/\(cE d).all di=true then some (h.set b (some (.row (cs.take o++cE d++cs.drop (o+n)) true ah)),b)else none
 |_,_=>none
theorem Ud(h:ab)(ty:TypeId)(b o:Nat)(d:DV):ma e h ty (some (.v (.pointer (some ⟨b,o,none⟩)))) (some d)=B7 h b o d (h.get b) (e.size ty):=by
 simp only[ma,B7];cases h.get b with
 |none=>rfl
 |some ob=>
  cases ob with
  |row cs wr ah=>cases wr<;>cases e.size ty<;>rfl
  |_=>rfl
theorem Ue(h:ab)(b o:Nat)(d:DV)(cs:List DV)(ah n:Nat):B7 h b o d (some (.row cs true ah)) (some n)=if(cE d).length=n/\0<n/\o+n<=cs.length/\(cE d).all di=true then some (h.set b (some (.row (cs.take o++cE d++cs.drop (o+n)) true ah)),b)else none:=(rfl)
def uN(h:ab)(base:Option Addr)(len cap:Nat)(x:DV):Option (Nat×Nat)->Option Nat->Option (DV×ab×List Nat)
 |some (sz,b),some _=>match gu h sz x with
  |some (n,new)=>eW h base len cap sz b n new
  |none=>none
 |_,_=>none
theorem B8(h:ab)(st xt:TypeId)(r:List TypeId)(base:Option Addr)(len cap:Nat)(x:DV):kU e h (st::xt::r).toArray (some [.v (.slice base len cap),x])=uN h base len cap x (e.ap st) (e.elem xt):=by
 simp only[kU,List.getElem?_toArray,List.getElem?_cons_zero,List.getElem?_cons_succ,uN];cases e.ap st with
 |none=>rfl
 |some p=>cases e.elem xt<;>rfl
def B9(h:ab)(base:Option Addr)(len cap sz b:Nat):Option (Nat×List DV)->Option (DV×ab×List Nat)
 |some (n,new)=>eW h base len cap sz b n new
 |none=>none
theorem Uf(h:ab)(base:Option Addr)(len cap:Nat)(x:DV)(sz b s:Nat):uN h base len cap x (some (sz,b)) (some s)=B9 h base len cap sz b (gu h sz x):=by
 simp only[uN,B9]
theorem Ug(h:ab)(base:Option Addr)(len cap sz b n:Nat)(new:List DV):B9 h base len cap sz b (some (n,new))=eW h base len cap sz b n new:=(rfl)
theorem Uh(h:ab)(k:Nat)(xs:List (List DV)):gu h k (.sl k xs)=some (xs.length,xs.flatten):=by simp[gu]
def Ca(o n sz:Nat):Option bF->Option (Nat×List DV)
 |some (.row cs _ _)=>if o+n*sz<=cs.length then some (n,(cs.drop o).take (n*sz))else none
 |_=>none
theorem Ui(h:ab)(sz b o n c:Nat):gu h sz (.v (.slice (some ⟨b,o,none⟩) n c))=Ca o n sz (h.get b):=by
 simp only[gu,Ca];cases h.get b with
 |none=>rfl
 |some ob=>cases ob<;>rfl
theorem Uj(o n sz:Nat)(cs:List DV)(wr:Bool)(ah:Nat):Ca o n sz (some (.row cs wr ah))=if o+n*sz<=cs.length then some (n,(cs.drop o).take (n*sz))else none:=(rfl)
theorem oI(h:ab)(base:Option Addr)(len cap sz b:Nat)(new:List DV)(hc:len<=cap):eW h base len cap sz b 0 new=some (.v (.slice base len cap),h,[]):=by simp[eW,hc]
theorem s9(h:ab)(sz b n:Nat)(new:List DV)(hn:0<n)(hb:n*(b+1)<=1073741824):eW h none 0 0 sz b n new=some (.v (.slice (some ⟨h.next,0,none⟩) n n),h.new (.row new true sz),[]):=by
 have:n≠0:=by omega
 simp[eW,hb,this]
theorem wP(h:ab)(i len sz b n:Nat)(cs new:List DV)(hg:h.get i=some (.row cs true sz))(hc:cs.length=len*sz)(hs:0<sz)(hn:0<n)(h1:new.all di=true)(hb:(len+n)*(b+1)<=1073741824):
 eW h (some ⟨i,0,none⟩) len len sz b n new=some (.v (.slice (some ⟨h.next,0,none⟩) (len+n) (len+n)),(h.set i none).new (.row (cs++new) true sz),[i]):=by
 have a1:¬len+n<=len:=by omega
 have a2:sz≠0:=by omega
 have a3:cs.take (len*sz)=cs:=by rw[<-hc];exact List.take_length
 simp[eW,a1,hb,hg,hc,a2,h1,a3]
theorem Gw(h:ab)(i len sz b n:Nat)(cs new:List DV)(wr:Bool)(hg:h.get i=some (.row cs wr 0))(hc:cs.length=len*sz)(hn:0<n)(hb:(len+n)*(b+1)<=1073741824):
 eW h (some ⟨i,0,none⟩) len len sz b n new=some (.v (.slice (some ⟨h.next,0,none⟩) (len+n) (len+n)),h.new (.row (cs++new) true sz),[]):=by
 have a1:¬len+n<=len:=by omega
 have a3:cs.take (len*sz)=cs:=by rw[<-hc];exact List.take_length
 simp[eW,a1,hb,hg,hc,a3]
def pZ(s:Nat):Nat->List (Nat×DV)->Option (List DV)
 |_,[]=>some []
 |i,(j,v)::r=>if j=i/\(cE v).length=s/\(cE v).all di=true then(pZ s (i+1) r).map (cE v++·)else none
theorem Gx{s:Nat}:∀{ps:List (Nat×DV)} {i:Nat} {cs done rest:List DV},pZ s i ps=some cs->done.length=i*s->rest.length=ps.length*s->ko (λi=>some (i*s,s)) (done++rest) ps=some (done++cs)
 |[],i,cs,done,rest,h,h1,h2=>by
  simp only[pZ,Option.some.injEq]at h;subst h;have:rest=[]:=List.eq_nil_of_length_eq_zero (by simpa using h2);subst this;rfl
 |(j,v)::r,i,cs,done,rest,h,h1,h2=>by
  simp only[pZ]at h
  split at h
  . rename_i hc;obtain⟨rfl,hv,ho⟩:=hc;simp only[Option.map_eq_some_iff]at h;obtain⟨cs',h3,rfl⟩:=h;simp only[List.length_cons,Nat.add_mul,Nat.one_mul]at h2;have hle:j*s+s<=(done++rest).length:=by simp only[List.length_append];omega
    simp only[ko];rw[if_pos ⟨hv,hle,ho⟩];have e1:(done++rest).take (j*s)++cE v++(done++rest).drop (j*s+(cE v).length)=(done++cE v)++rest.drop s:=by
     rw[<-h1,List.take_left,hv,List.drop_append,List.drop_eq_nil_of_le (by omega)];simp
    rw[e1,Gx h3 (by simp only[List.length_append,h1,hv,Nat.add_mul,Nat.one_mul]) (by rw[List.length_drop];omega),List.append_assoc]
  . cases h
def yU(e:Env)(t:Tr DV)(st n:Nat)(l:List (Nat×Operand)):Option (bF×(Nat->DV)):=dY e t (.buildSlice st n l.toArray)
def yV(e:Env)(t:Tr DV)(st n:Nat)(l:List (Nat×Operand)):Option (List DV)->Option (bF×(Nat->DV))
 |some cs=>some (.row cs true 0,λi=>.v (.slice (some ⟨i,0,none⟩) n n))
 |none=>yU e t st n l
def Cb(e:Env)(t:Tr DV)(st n:Nat)(l:List (Nat×Operand)):Option (Nat×Value)->Option (List (Nat×DV))->Option (bF×(Nat->DV))
 |some (s,z),some ps=>if z.cells.toList.length=s/\0<s/\n*s<=16777216/\ps.length=n then yV e t st n l (pZ s 0 ps)else yU e t st n l
 |_,_=>yU e t st n l
theorem Uk(t:Tr DV)(st n:Nat)(l:List (Nat×Operand)):dY e t (.buildSlice st n l.toArray)=Cb e t st n l (e.hD st) (fY e t l):=by
 unfold Cb
 split
 . rename_i s z ps hz hp
   split
   . rename_i hc;obtain⟨h1,h2,h3,h4⟩:=hc;unfold yV
     split
     . rename_i cs hr;unfold Env.hD at hz
       split at hz
       . rename_i el hu
         split at hz
         . rename_i s' z' k1 k2;cases hz;simp only[dY,hu,hp,k1,k2];rw[if_pos ⟨h3,h1,h2⟩];have:=Gx (s:=s) (done:=[]) (rest:=(fu z.cells.toList (n*s)).map .v) hr (by simp) (by rw[List.length_map,FX,h4]);simp only[List.nil_append]at this;rw[this]
         . cases hz
       . cases hz
     . rfl
   . rfl
 . rfl
theorem Ul(t:Tr DV)(st n:Nat)(l:List (Nat×Operand))(s:Nat)(z:Value)(ps:List (Nat×DV)):Cb e t st n l (some (s,z)) (some ps)=if z.cells.toList.length=s/\0<s/\n*s<=16777216/\ps.length=n then yV e t st n l (pZ s 0 ps)else yU e t st n l:=(rfl)
theorem Um(t:Tr DV)(st n:Nat)(l:List (Nat×Operand))(cs:List DV):yV e t st n l (some cs)=some (.row cs true 0,λi=>.v (.slice (some ⟨i,0,none⟩) n n)):=(rfl)
theorem Un(s i:Nat):pZ s i []=some []:=(rfl)
theorem Uo(s i j:Nat)(v:DV)(r:List (Nat×DV)):pZ s i ((j,v)::r)=if j=i/\(cE v).length=s/\(cE v).all di=true then(pZ s (i+1) r).map (cE v++·)else none:=(rfl)
def ry(e:Env)(t:TypeId)(cells:List DV)(ps:List (Nat×DV)):Option (List DV):=ko (e.place t) cells ps
def Cc(e:Env)(t:TypeId)(cells:List DV)(v:DV)(r:List (Nat×DV)):Option (Nat×Nat)->Option (List DV)
 |none=>none
 |some (off,size)=>if(cE v).length=size/\off+size<=cells.length/\(cE v).all di=true then ry e t (cells.take off++cE v++cells.drop (off+(cE v).length)) r else none
theorem Up(t:TypeId)(cells:List DV):ry e t cells []=some cells:=(rfl)
theorem Uq(t:TypeId)(cells:List DV)(i:Nat)(v:DV)(r:List (Nat×DV)):ry e t cells ((i,v)::r)=Cc e t cells v r (e.place t i):=by
 simp only[ry,ko,Cc];cases e.place t i with
 |none=>rfl
 |some p=>obtain⟨off,size⟩:=p;rfl
theorem Ur(t:TypeId)(cells:List DV)(v:DV)(r:List (Nat×DV))(off size:Nat):Cc e t cells v r (some (off,size))=if(cE v).length=size/\off+size<=cells.length/\(cE v).all di=true then ry e t (cells.take off++cE v++cells.drop (off+(cE v).length)) r else none:=(rfl)
def ia(e:Env)(t:TypeId)(ps:List (Nat×DV)):Option Value->Option DV
 |none=>none
 |some z=>(ry e t (z.cells.toList.map .v) ps).map .agg
theorem Us(t:TypeId)(ps:List (Nat×DV))(z:Value):ia e t ps (some z)=(ry e t (z.cells.toList.map .v) ps).map .agg:=(rfl)
theorem jm{t:TypeId}(ps:List (Nat×DV))(h:(e.place t 0).isSome=true)(hs:∃d,e.under t=some d/\j7 d=true):eV e t ps=ia e t ps (e.zero t):=by
 obtain⟨d,hd,ha⟩:=hs;simp only[eV,ia,ry,hd];cases hz:e.zero t with
 |none=>rfl
 |some z=>
  cases d with
  |struct fields=>
   have:e.place t=kH e fields:=by funext i;simp[Env.place,hd]
   simp only[this]
  |array n el=>
   simp only;cases he:e.size el with
   |none=>
    have hp:e.place t=λ_=>none:=by funext i;simp[Env.place,hd,he]
    rw[hp]at h;cases h
   |some s=>
    have:e.place t=λi=>some (i*s,s):=by funext i;simp[Env.place,hd,he]
    simp only[this]
  |_=>cases ha
def yW(e:Env)(aj:Bool)(b:Code)(K:bn->DS->Prop):bn->DS->Prop:=λx s1=>match x with|.normal=>RD e aj b s1 K|.exit i=>K (.exit i) s1|.ret=>K .ret s1
def yX(id:Nat)(K:bn->DS->Prop):bn->DS->Prop:=λx s1=>match x with|.normal=>K .normal s1|.exit i=>if i=id then K .normal s1 else K (.exit i) s1|.ret=>K .ret s1
def oJ(e:Env)(aj:Bool)(a b:Code)(s:DS)(K:bn->DS->Prop):DV->Prop:=λv=>match v with|.v (.bool v)=>(v=true->RD e aj a s K)/\(v=false->RD e aj b s K)|_=>False
section
variable (s:DS) (K:bn->DS->Prop)
theorem Ut(b:Code):yW e aj b K .normal s=RD e aj b s K:=(rfl)
theorem Uu(b:Code)(i:Nat):yW e aj b K (.exit i) s=K (.exit i) s:=(rfl)
theorem Uv(b:Code):yW e aj b K .ret s=K .ret s:=(rfl)
theorem Uw(id:Nat):yX id K .normal s=K .normal s:=(rfl)
theorem Ux(id i:Nat):yX id K (.exit i) s=if i=id then K .normal s else K (.exit i) s:=(rfl)
theorem Uy(id:Nat):yX id K .ret s=K .ret s:=(rfl)
theorem Uz(a b:Code):oJ e aj a b s K (.v (.bool true))=RD e aj a s K:=by simp[oJ]
theorem UA(a b:Code):oJ e aj a b s K (.v (.bool false))=RD e aj b s K:=by simp[oJ]
theorem oJ.mk{a b:Code}{p:Prop}[Decidable p](h1:p->RD e aj a s K)(h2:¬p->RD e aj b s K):oJ e aj a b s K (.v (.bool (decide p))):=⟨λh=>h1 (of_decide_eq_true h),λh=>h2 (of_decide_eq_false h)⟩
theorem UB:RD e aj .skip s K=K .normal s:=(rfl)
theorem UC(l:Nat):RD e aj (.label l) s K=K .normal s:=(rfl)
theorem UD(c:Code):RD e aj (.scope c) s K=RD e aj c s K:=(rfl)
theorem UE(id:Nat):RD e aj (.exit id) s K=K (.exit id) s:=(rfl)
theorem UF:RD e aj .ret s K=K .ret s:=(rfl)
theorem UG(a b:Code):RD e aj (.seq a b) s K=RD e aj a s (yW e aj b K):=(rfl)
theorem UH(id:Nat)(c:Code):RD e aj (.block id c) s K=RD e aj c s (yX id K):=(rfl)
theorem UI(c:Operand)(a b:Code)(t:Tr DV)(n:Nat)(dd:List FuncId)(h:ab):RD e aj (.cond c a b) ⟨t,n,dd,h⟩ K=aG (aB e t c) (oJ e aj a b ⟨t,n,dd,h⟩ K):=(rfl)
theorem UJ(id:Nat)(l:List Oper)(t:Tr DV)(n:Nat)(dd:List FuncId)(h:ab):RD e aj (.region id l.toArray false) ⟨t,n,dd,h⟩ K=fj e aj l l t n dd h (K .normal):=by simp[RD]
theorem UK(c:Code):RD e aj (.loop c) s K=WD e aj (.loop c) s K:=(rfl)
theorem UL(I:Nat->DS->Prop)(j:Nat):KI I j K .normal s=∃j',j'<j/\∃d',aA s d'/\I j' d':=(rfl)
theorem UM(I:Nat->DS->Prop)(j:Nat)(i:Nat):KI I j K (.exit i) s=K (.exit i) s:=(rfl)
theorem UN(I:Nat->DS->Prop)(j:Nat):KI I j K .ret s=K .ret s:=(rfl)
end
def wQ(K:DV->ab->Prop)(h:ab):List DV->Prop:=λl=>K (kp l) h
theorem UO(K:DV->ab->Prop)(h:ab)(l:List DV):wQ K h l=K (kp l) h:=(rfl)
theorem UP(v:DV):kp [v]=v:=(rfl)
theorem UQ:kp []=.bg []:=(rfl)
theorem UR(v w:DV)(r:List DV):kp (v::w::r)=.bg (v::w::r):=(rfl)
theorem US(rs:List ResultVar)(K:DV->ab->Prop)(t:Tr DV)(n:Nat)(h:ab):jN e rs K .ret ⟨t,n,[],h⟩=aG (gw e ⟨t,n,[],h⟩ rs) (wQ K h):=by
 simp[jN,wQ,aG]
theorem UT(rs:List ResultVar)(K:DV->ab->Prop)(t:Tr DV)(n:Nat)(h:ab):jN e rs K .normal ⟨t,n,[],h⟩=aG (gw e ⟨t,n,[],h⟩ rs) (wQ K h):=by
 simp[jN,wQ,aG]
def wR(e:Env)(s:DS)(r:List ResultVar):Option DV->Option (List DV)
 |none=>none
 |some v=>(gw e s r).map (v::·)
theorem UU(s:DS):gw e s []=some []:=(rfl)
theorem UW(t:Tr DV)(n:Nat)(dd:List FuncId)(h:ab)(i:Nat)(r:List ResultVar):gw e ⟨t,n,dd,h⟩ (.tmp i::r)=wR e ⟨t,n,dd,h⟩ r (t.get i):=by
 simp only[gw,wR];cases t.get i with
 |none=>rfl
 |some v=>cases gw e ⟨t,n,dd,h⟩ r<;>rfl
theorem UX(t:Tr DV)(n:Nat)(dd:List FuncId)(h:ab)(i ty:Nat)(r:List ResultVar):gw e ⟨t,n,dd,h⟩ (.cell i ty::r)=wR e ⟨t,n,dd,h⟩ r ((t.get i).bind (jl e h ty)):=by
 simp only[gw,wR];cases(t.get i).bind (jl e h ty)with
 |none=>rfl
 |some v=>cases gw e ⟨t,n,dd,h⟩ r<;>rfl
theorem UY(s:DS)(r:List ResultVar)(v:DV):wR e s r (some v)=(gw e s r).map (v::·):=(rfl)
attribute [go_sem] R9 Sa Sb Sc Sd Se Sf Sg Sh Si Sj Sk Sl Sm Sn So Gs SS SU Sq Sr Ss St Su Sv Sw Sx Sy Sz SA SB SC SE SF SG SH SJ SK SL SM SN SO SP SQ SV SW SX SY SZ S0 S1 S2 S3 S4 S5 S6 S7 S8 S9 Ta Tb Tc Td Te Tf Tg Th Ti Tl Gt Tm Tn To Tp Tq Ts Tt Tu Tv Tw Tx Ty Tz TA TB TE TF TG TH TI TJ TK TL TM TN TO TP ab.get_none ab.uI ab.aS ab.aZ ab.FZ ab.kj TQ TR TT TU TV TW TX TY TZ T7 T8 Ua Ub Uc Ud Ue B8 Uf Ug Uh Ui Uj Uk Ul Um Un Uo Up Uq Ur Us Ut Uu Uv Uw Ux Uy Uz UA UB UC UD UE UF UG UH UI UJ UK UL UM UN UO UP UQ UR US UT UU UW UX UY
end Go.aw
end

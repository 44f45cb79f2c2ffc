/- SpacingIndependent: parts of its proof. -/
import Derived.Test.YtmhjnafgdhaemaaGreatDoorK14
open Option.some renaming injEq->qe
open List renaming take_length->xS,length_append->DE
set_option linter.all false
set_option maxRecDepth 100000
noncomputable section
namespace Go.au
variable {e:Env} {aj:Bool}
def eV(K:ck)(dd:List FuncId)(h:ab):DV->Prop:=λv=>K v dd h []
def sR(K:ck)(dd:List FuncId)(h:ab):bx×(Nat->DV)->Prop:=λp=>K (p.2 h.next) dd (h.new p.1) []
def EX(K:ck)(dd:List FuncId)(h:ab):bx->Prop:=λo=>K (.v (.pointer (some ⟨h.next,0,none⟩))) dd (h.new o) []
def xo(K:ck)(dd:List FuncId):ab×Nat->Prop:=λp=>K cP dd p.1 [p.2]
def EY(K:ck)(dd:List FuncId):DV×ab×List Nat->Prop:=λp=>K p.1 dd p.2.1 p.2.2
def QN(K:ck)(dd:List FuncId):DV×ab×Nat->Prop:=λp=>K p.1 dd p.2.1 [p.2.2]
def an(e:Env)(aj:Bool)(K:ck)(dd:List FuncId)(h:ab):FuncId×List DV->Prop:=λp=>cJ e aj p.1 p.2 h λv h' T=>K v dd h' T
def EZ(K:ck)(dd:List FuncId)(h:ab):FuncId×List DV->Prop:=λp=>K cP (p.1::dd) h []
def Al(e:Env)(aj:Bool)(ops r:List Oper)(t:Tr DV)(n:Nat)(K:DS->Prop)(dst:Option Tmp):ck:=λv dd h _=>eI e aj ops r (cq dst v t) n dd h K
section
variable (K:ck) (dd:List FuncId) (h:ab)
theorem QO(v:DV):eV K dd h v=K v dd h []:=(rfl)
theorem QP(o:bx)(f:Nat->DV):sR K dd h (o,f)=K (f h.next) dd (h.new o) []:=(rfl)
theorem QQ(o:bx):EX K dd h o=K (.v (.pointer (some ⟨h.next,0,none⟩))) dd (h.new o) []:=(rfl)
theorem QR(h':ab)(b:Nat):xo K dd (h',b)=K cP dd h' [b]:=(rfl)
theorem QS(v:DV)(h':ab)(T:List Nat):EY K dd (v,h',T)=K v dd h' T:=(rfl)
theorem QT(f:FuncId)(a:List DV):EZ K dd h (f,a)=K cP (f::dd) h []:=(rfl)
theorem QU(ops r:List Oper)(t:Tr DV)(n:Nat)(K:DS->Prop)(dst:Option Tmp)(v:DV)(T:List Nat):Al e aj ops r t n K dst v dd h T=eI e aj ops r (cq dst v t) n dd h K:=(rfl)
end
theorem an.mk{K:ck}{dd:List FuncId}{h:ab}{f:FuncId}{args:List DV}{dv:DV}(hf:ay e aj f args dv)(hk:∀N,h.next<=N->K dv dd (h.up N) []):an e aj K dd h (f,args):=cJ.of hf hk
theorem an.pl{K:ck}{dd:List FuncId}{h:ab}{f:FuncId}{args aa:List DV}{u:Value}(hf:ay e aj f aa (.v u))(hz:cA (allRows h) args aa)(hk:∀N,h.next<=N->K (.v u) dd (h.up N) []):an e aj K dd h (f,args):=cJ.plain hf hz hk
theorem an.fz{K:ck}{dd:List FuncId}{h:ab}{f:FuncId}{args aa:List DV}{dv:DV}(hf:ay e aj f aa dv)(l:List Nat)(hl:∀i∈l,(h.get i).isSome=true)(hz:cA (rowsOf h l) args aa)(hk:∀N,h.next<=N->K dv dd ((fA h l).up N) l):an e aj K dd h (f,args):=cJ.fz hf l hl hz hk
theorem QV(v:DV)(t:Tr DV):cq none v t=t:=(rfl)
theorem QW(d:Nat)(v:DV)(t:Tr DV):cq (some d) v t=t.set d (some v):=(rfl)
section
variable (ops:List Oper) (dst:Option Tmp) (op:Op) (ty:TypeId) (pos:String) (af:Array Edge) (r:List Oper) (t:Tr DV) (n:Nat) (dd:List FuncId) (h:ab) (K:DS->Prop) (w:Bool)
def lJ(e:Env)(aj:Bool)(ops:List Oper)(op:Op)(dst:Option Tmp)(r:List Oper)(t:Tr DV)(n:Nat)(dd:List FuncId)(h:ab)(K:DS->Prop)(w:Bool):DV->Prop:=λg=>aG (match some g with
 |some (.v (.bool b))=>some (b==w)
 |some (.v (.tuple _))=>some false
 |some (.bb _)=>some false
 |_=>none) λx=>match x with
 |true=>bY e aj op t dd h λv dd h _=>eI e aj ops r (cq dst v t) n dd h K
 |false=>eI e aj ops r (cq dst cP t) n dd h K
def Am(e:Env)(aj:Bool)(ops:List Oper)(op:Op)(dst:Option Tmp)(r:List Oper)(t:Tr DV)(n:Nat)(dd:List FuncId)(h:ab)(K:DS->Prop)(w:Bool):Tmp->Prop:=λd=>aG (t.get d) (lJ e aj ops op dst r t n dd h K w)
theorem QX:eI e aj ops [] t n dd h K=K ⟨t,n,dd,h⟩:=(rfl)
theorem QY:eI e aj ops (⟨dst,op,ty,pos,af,none⟩::r) t n dd h K=(c9 dst n/\bY e aj op t dd h (Al e aj ops r t n K dst)):=by
 simp only[eI,ic,fR];rfl
theorem QZ(j:Nat):eI e aj ops (⟨dst,op,ty,pos,af,some (j,w)⟩::r) t n dd h K=(c9 dst n/\aG ((ops[j]?).bind (·.dst)) (Am e aj ops op dst r t n dd h K w)):=by
 simp only[eI,ic];cases(ops[j]?).bind (·.dst)with
 |none=>simp[aG]
 |some d=>
  simp only[fR,Am];cases t.get d with
  |none=>simp[aG]
  |some g=>simp only[fR,lJ];rfl
theorem Q0(d:Tmp):Am e aj ops op dst r t n dd h K w d=aG (t.get d) (lJ e aj ops op dst r t n dd h K w):=(rfl)
theorem Q2:lJ e aj ops op dst r t n dd h K w (.v (.bool w))=bY e aj op t dd h (Al e aj ops r t n K dst):=by
 simp only[lJ,beq_self_eq_true,fR];rfl
theorem Q3:lJ e aj ops op dst r t n dd h K true (.v (.bool false))=eI e aj ops r (cq dst cP t) n dd h K:=by
 simp[lJ,fR]
theorem Q7:lJ e aj ops op dst r t n dd h K false (.v (.bool true))=eI e aj ops r (cq dst cP t) n dd h K:=by
 simp[lJ,fR]
theorem E0(vs:Array Value):lJ e aj ops op dst r t n dd h K w (.v (.tuple vs))=eI e aj ops r (cq dst cP t) n dd h K:=by
 simp[lJ,fR]
end
section
variable (t:Tr DV) (dd:List FuncId) (h:ab) (K:ck)
theorem Q8(x:Operand):bY e aj (.move x) t dd h K=aG (aB e t x) (eV K dd h):=(rfl)
theorem Q9(x:Operand):bY e aj (.assign x) t dd h K=aG (aB e t x) (eV K dd h):=(rfl)
theorem Ra(c a b:Operand):bY e aj (.pick c a b) t dd h K=aG (pX (aB e t c) (aB e t a) (aB e t b)) (eV K dd h):=(rfl)
theorem Rb(ty:TypeId)(l:List (Nat×Operand)):bY e aj (.build ty l.toArray) t dd h K=aG ((fw e t l).bind (eA e ty)) (eV K dd h):=by simp[bY,aS,eV];rfl
theorem Rc(ty:TypeId)(a:Operand):bY e aj (.load ty a) t dd h K=aG ((aB e t a).bind (iA e h ty)) (eV K dd h):=(rfl)
theorem Re(x:Operand):bY e aj (.nilCheck x) t dd h K=aG ((aB e t x).bind kJ) (eV K dd h):=(rfl)
theorem Rf(op:BinOp)(ty:TypeId)(x y:Operand)(z:TypeId):bY e aj (.binOp op ty x y z) t dd h K=aG (fI (iY e op ty x y) (aB e t x) (aB e t y)) (eV K dd h):=(rfl)
theorem Rg(op:UnOp)(ty:TypeId)(x:Operand):bY e aj (.unOp op ty x) t dd h K=aG ((aB e t x).bind (kV (np e op))) (eV K dd h):=(rfl)
theorem Rh(s d:TypeId)(x:Operand):bY e aj (.convert s d x) t dd h K=aG ((aB e t x).bind (mv e h s d)) (eV K dd h):=(rfl)
theorem Ri(f:FuncId)(a c:List Operand):bY e aj (.makeFunc (.func f) a.toArray c.toArray) t dd h K=aG (nB f (cz e t a) (cz e t c)) (eV K dd h):=by simp[bY,aS,eV];rfl
theorem Rj(ty:TypeId)(x:Operand)(lo hi mx:Option Operand):bY e aj (.slice ty x lo hi mx) t dd h K=aG (dz e h ty (aB e t x) (eh e t lo) (eh e t hi) (eh e t mx)) (eV K dd h):=(rfl)
theorem Rk(s:TypeId)(x:Operand)(f:Nat):bY e aj (.fieldAddr s x f) t dd h K=aG ((aB e t x).bind (kc e s f)) (eV K dd h):=(rfl)
theorem Rm(ty:TypeId)(x ix:Operand):bY e aj (.indexAddr ty x ix) t dd h K=aG (fI (λa b=>ia e ty a (fx b)) (aB e t x) (aB e t ix)) (eV K dd h):=(rfl)
theorem Rn(ty:TypeId)(x ix:Operand):bY e aj (.index ty x ix) t dd h K=aG (fI (mr e ty) (aB e t x) (aB e t ix)) (eV K dd h):=(rfl)
theorem Ro(ty:TypeId)(m k:Operand)(ok:Bool):bY e aj (.lookup ty m k ok) t dd h K=aG (fI (kK e h ty ok) (aB e t m) (aB e t k)) (eV K dd h):=(rfl)
theorem Rp(x:Operand)(i:Nat):bY e aj (.extract x i) t dd h K=aG ((aB e t x).bind (lG i)) (eV K dd h):=(rfl)
theorem Rq(ty:TypeId):bY e aj (.alloc ty) t dd h K=aG (dH e t (.alloc ty)) (sR K dd h):=(rfl)
theorem Rr(ty:TypeId)(x:Operand):bY e aj (.box ty x) t dd h K=aG (dH e t (.box ty x)) (sR K dd h):=(rfl)
theorem Rs(ty:TypeId)(n:Nat)(ps:Array (Nat×Operand)):bY e aj (.buildSlice ty n ps) t dd h K=aG (dH e t (.buildSlice ty n ps)) (sR K dd h):=(rfl)
theorem Rt(ty:TypeId)(n:Option Operand):bY e aj (.makeMap ty n) t dd h K=aG (dH e t (.makeMap ty n)) (sR K dd h):=(rfl)
theorem Ru(ty:TypeId)(l c:Operand):bY e aj (.makeSlice ty l c) t dd h K=aG (dH e t (.makeSlice ty l c)) (sR K dd h):=(rfl)
theorem Rv(ty:TypeId)(a x:Operand):bY e aj (.store ty a x) t dd h K=aG (kY e h ty (aB e t a) (aB e t x)) (xo K dd):=(rfl)
theorem Rw(ty:TypeId)(m k v:Operand):bY e aj (.mapUpdate ty m k v) t dd h K=aG (ja e h ty (aB e t m) (aB e t k) (aB e t v)) (xo K dd):=(rfl)
theorem Rx(ty:TypeId)(m k v:Operand):bY e aj (.insert ty m k v) t dd h K=aG (ja e h ty (aB e t m) (aB e t k) (aB e t v)) (xo K dd):=(rfl)
theorem Ry(ty:TypeId)(x:Operand):bY e aj (.range ty x) t dd h K=aG ((aB e t x).bind (kZ e h ty)) (EX K dd h):=(rfl)
def Rz(e:Env)(t:Tr DV)(dd:List FuncId)(h:ab)(it:Operand)(s:Bool)(K:ck):Prop:=(aG ((aB e t it).bind (kh h · s)) (QN K dd))\/(s=false/\aG (aB e t it) λd=>xn h d λv h r=>K v dd h [r])
theorem RA(it:Operand)(s:Bool):bY e false (.next it s) t dd h K=Rz e t dd h it s K:=(rfl)
theorem RB(it:Operand):bY e aj (.entry it) t dd h K=aG ((aB e t it).bind (sQ h)) (eV K dd h):=(rfl)
theorem RC(f:Operand)(args:List Operand)(ad:Array TypeId):bY e aj (.call ⟨.value f,args.toArray,ad⟩) t dd h K=aG (jc (aB e t f) (cz e t args)) (an e aj K dd h):=by simp[bY];rfl
theorem RE(f:Operand)(args:List Operand)(ad:Array TypeId):bY e aj (.defer ⟨.value f,args.toArray,ad⟩) t dd h K=aG (jc (aB e t f) (cz e t args)) (EZ K dd h):=by simp[bY];rfl
theorem RF(args:List Operand)(ad:Array TypeId):bY e aj (.call ⟨.builtin .append,args.toArray,ad⟩) t dd h K=aG (jb e h ad (cz e t args)) (EY K dd):=by simp[bY];rfl
theorem RG(x:Operand)(ty:TypeId)(ad:List TypeId):bY e aj (.call ⟨.builtin .len,#[x],(ty::ad).toArray⟩) t dd h K=aG ((aB e t x).bind (gO e h ty)) (eV K dd h):=by
 simp only[bY,aS,cz];cases aB e t x<;>simp[eV,aG,oI]
theorem RH(args:List Operand)(ad:Array TypeId):bY e aj (.call ⟨.builtin .min,args.toArray,ad⟩) t dd h K=aG (((cz e t args).bind pY).bind λl=>(pJ e l).map .v) (eV K dd h):=by simp[bY,aS,eV];rfl
theorem RI(args:List Operand)(ad:Array TypeId):bY e aj (.call ⟨.builtin .max,args.toArray,ad⟩) t dd h K=aG (((cz e t args).bind pY).bind λl=>(qZ e l).map .v) (eV K dd h):=by simp[bY,aS,eV];rfl
end
section
variable (t:Tr DV)
theorem RJ(i:Nat):aB e t (.tmp i)=t.get i:=(rfl)
theorem RK(f:FuncId):aB e t (.func f)=some (.fn f [] []):=(rfl)
theorem RL(k:IntKind)(n:Int):aB e t (.const (.int k n))=some (.v (.int k n)):=(rfl)
theorem RN(b:Bool):aB e t (.const (.bool b))=some (.v (.bool b)):=(rfl)
theorem RO(s:ByteArray):aB e t (.const (.string s))=some (.v (.string s)):=(rfl)
theorem RP:aB e t (.const (.pointer none))=some (.v (.pointer none)):=(rfl)
theorem RR(l k:Nat):aB e t (.const (.slice none l k))=some (.v (.slice none l k)):=(rfl)
theorem RT:aB e t (.const (.map none))=some (.v (.map none)):=(rfl)
theorem RU:aB e t (.const .nilFunc)=some (.v .nilFunc):=(rfl)
def Ao(e:Env)(t:Tr DV)(r:List Operand):Option DV->Option (List DV)
 |none=>none
 |some v=>(cz e t r).map (v::·)
theorem RV:cz e t []=some []:=(rfl)
theorem RW(o:Operand)(r:List Operand):cz e t (o::r)=Ao e t r (aB e t o):=by
 simp only[cz,Ao];cases aB e t o<;>rfl
theorem RX(r:List Operand)(v:DV):Ao e t r (some v)=(cz e t r).map (v::·):=(rfl)
def Ap(e:Env)(t:Tr DV)(i:Nat)(r:List (Nat×Operand)):Option DV->Option (List (Nat×DV))
 |none=>none
 |some v=>(fw e t r).map ((i,v)::·)
theorem RY:fw e t []=some []:=(rfl)
theorem RZ(i:Nat)(o:Operand)(r:List (Nat×Operand)):fw e t ((i,o)::r)=Ap e t i r (aB e t o):=by
 simp only[fw,Ap];cases aB e t o<;>rfl
theorem R0(i:Nat)(r:List (Nat×Operand))(v:DV):Ap e t i r (some v)=(fw e t r).map ((i,v)::·):=(rfl)
theorem R3:eh e t none=some none:=(rfl)
theorem R4(o:Operand):eh e t (some o)=(aB e t o).map some:=(rfl)
end
theorem R5(a:List DV):ie a=Tr.ofList a 0 .nil:=(rfl)
theorem R6(i:Nat)(t:Tr DV):Tr.ofList [] i t=t:=(rfl)
theorem R7(v:DV)(l:List DV)(i:Nat)(t:Tr DV):Tr.ofList (v::l) i t=Tr.ofList l (i+1) (t.set i (some v)):=(rfl)
theorem R8(f:FuncId)(a c args:List DV):jc (some (.fn f a c)) (some args)=some (f,a++args++c):=(rfl)
theorem E1{α:Type}(f:DV->DV->Option α)(a b:DV):fI f (some a) (some b)=f a b:=(rfl)
section
variable (op:BinOp) (ty:TypeId) (x y:Operand) (k:IntKind) (n m:Int)
theorem R9(a b:Value):iY e op ty x y (.v a) (.v b)=(cD e op ty x y a b).map .v:=(rfl)
end
theorem Sa(f:Value->Option Value)(v:Value):kV f (.v v)=(f v).map .v:=(rfl)
theorem Sb(a b:Option DV):pX (some (.v (.bool true))) a b=a:=(rfl)
theorem Sc(a b:Option DV):pX (some (.v (.bool false))) a b=b:=(rfl)
theorem Sd(a:Addr):kJ (.v (.pointer (some a)))=some (.v (.pointer (some a))):=(rfl)
theorem Se(xs:List DV)(o:Nat):kJ (.ptr xs o)=some (.ptr xs o):=(rfl)
theorem Sf(i:Nat)(l:List DV):lG i (.bb l)=l[i]? :=(rfl)
theorem Sg(f:FuncId)(a c:List DV):nB f (some a) (some c)=some (.fn f a c):=(rfl)
theorem Sh(k:IntKind)(i:Int):fx (.v (.int k i))=some i:=(rfl)
def Aq(l:Option (Option Nat))(o:Nat):Option bx->Option DV
 |some (.row cs _ _)=>eQ l cs o
 |_=>none
theorem Si(h:ab)(ty:TypeId)(b o:Nat):iA e h ty (.v (.pointer (some ⟨b,o,none⟩)))=Aq (e.ld ty) o (h.get b):=by
 simp only[iA,Aq];cases h.get b with
 |none=>rfl
 |some ob=>cases ob<;>rfl
theorem Sj(l:Option (Option Nat))(o:Nat)(cs:List DV)(wr:Bool)(ah:Nat):Aq l o (some (.row cs wr ah))=eQ l cs o:=(rfl)
theorem Sk(h:ab)(ty:TypeId)(xs:List DV)(o:Nat):iA e h ty (.ptr xs o)=eQ (e.ld ty) xs o:=(rfl)
theorem Sl(cs:List DV)(o:Nat):eQ (some none) cs o=cs[o]? :=(rfl)
theorem Sm(cs:List DV)(o n:Nat):eQ (some (some (n+1))) cs o=if o+(n+1)<=cs.length then some (.agg ((cs.drop o).take (n+1)))else none:=(rfl)
def E2(b o:Nat):Option Nat->Option DV
 |none=>none
 |some k=>some (.v (.pointer (some ⟨b,o+k,none⟩)))
def E3(xs:List DV)(o:Nat):Option Nat->Option DV
 |none=>none
 |some k=>some (.ptr xs (o+k))
theorem Sn(s f b o:Nat):kc e s f (.v (.pointer (some ⟨b,o,none⟩)))=E2 b o (e.off s f):=by
 simp only[kc];cases e.off s f<;>rfl
theorem So(s f o:Nat)(xs:List DV):kc e s f (.ptr xs o)=E3 xs o (e.off s f):=by
 simp only[kc];cases e.off s f<;>rfl
theorem Sq(b o k:Nat):E2 b o (some k)=some (.v (.pointer (some ⟨b,o+k,none⟩))):=(rfl)
theorem Sr(xs:List DV)(o k:Nat):E3 xs o (some k)=some (.ptr xs (o+k)):=(rfl)
theorem Ss(ty b o len c:Nat)(i:Int):ia e ty (.v (.slice (some ⟨b,o,none⟩) len c)) (some i)=(nr b o len i (e.elem ty)).map .v:=(rfl)
theorem St(ty b o:Nat)(i:Int):ia e ty (.v (.pointer (some ⟨b,o,none⟩))) (some i)=(nu b o i (e.arr ty)).map .v:=(rfl)
def xp(i:Int)(k:Nat)(xs:List (List DV)):Option Nat->Option DV
 |none=>none
 |some s=>if s=k then pV i xs else none
theorem Su(ty k:Nat)(xs:List (List DV))(i:Int):ia e ty (.sl k xs) (some i)=xp i k xs (e.elem ty):=by
 simp only[ia,xp];cases e.elem ty with
 |none=>rfl
 |some s=>simp only[qe]
theorem Sv(i:Int)(k:Nat)(xs:List (List DV)):xp i k xs (some k)=pV i xs:=by simp[xp]
def Ar(n:Nat):Option Nat->Option DV
 |none=>none
 |some _=>some (.v (.int .i64 n))
theorem Sw(n s:Nat):Ar n (some s)=some (.v (.int .i64 n)):=(rfl)
theorem Sx(h:ab)(ty k:Nat)(xs:List (List DV)):gO e h ty (.sl k xs)=Ar xs.length (e.elem ty):=by
 simp only[gO];cases e.elem ty<;>rfl
theorem Sy(h:ab)(ty:Nat)(a:Option Addr)(l c:Nat):gO e h ty (.v (.slice a l c))=Ar l (e.elem ty):=by
 simp only[gO];cases e.elem ty<;>rfl
theorem Sz(h:ab)(ty:Nat)(s:ByteArray):gO e h ty (.v (.string s))=(fk e ⟨.nil,0⟩ ty (.string s)).map .v:=(rfl)
theorem lK(h:ab)(o:bx)(j:Nat):(h.new o).get j=if j=h.next then some o else h.get j:=ab.di _ _ _
theorem SA(h:ab)(i:Nat)(o:Option bx):(h.set i o).get i=o:=by rw[ab.bn,if_pos rfl]
def As:Option DV->Option (bx×(Nat->DV))
 |none=>none
 |some d=>if(ca d).all cO=true then some (.row (ca d) true 0,λi=>.v (.pointer (some ⟨i,0,none⟩)))else none
theorem SB(t:Tr DV)(ty:TypeId)(x:Operand):dH e t (.box ty x)=As (aB e t x):=by
 simp only[dH,As];cases aB e t x<;>rfl
theorem SC(d:DV):As (some d)=if(ca d).all cO=true then some (.row (ca d) true 0,λi=>.v (.pointer (some ⟨i,0,none⟩)))else none:=(rfl)
def At:Option Value->Option (bx×(Nat->DV))
 |none=>none
 |some z=>some (.row (z.cells.toList.map .v) true 0,λi=>.v (.pointer (some ⟨i,0,none⟩)))
theorem SE(t:Tr DV)(ty:TypeId):dH e t (.alloc ty)=At (e.zero ty):=by
 simp only[dH,At];cases e.zero ty<;>rfl
theorem SF(z:Value):At (some z)=some (.row (z.cells.toList.map .v) true 0,λi=>.v (.pointer (some ⟨i,0,none⟩))):=(rfl)
theorem SG(t:Tr DV)(ty:TypeId):dH e t (.makeMap ty none)=some (.map [] 0,λi=>.v (.map (some i))):=(rfl)
theorem SH(l:List DV):ca (.agg l)=l:=(rfl)
theorem SJ(v:Value):ca (.v v)=[.v v]:=(rfl)
theorem SK(f:FuncId)(a c:List DV):ca (.fn f a c)=[.fn f a c]:=(rfl)
theorem SL(k:Nat)(xs:List (List DV)):ca (.sl k xs)=[.sl k xs]:=(rfl)
theorem SM(xs:List DV)(o:Nat):ca (.ptr xs o)=[.ptr xs o]:=(rfl)
theorem SN(v:Value):cO (.v v)=dw v:=(rfl)
theorem SO(f:FuncId)(a c:List DV):cO (.fn f a c)=true:=(rfl)
theorem SP(k:Nat)(xs:List (List DV)):cO (.sl k xs)=true:=(rfl)
theorem SQ(xs:List DV)(o:Nat):cO (.ptr xs o)=true:=(rfl)
def Au(h:ab)(b o:Nat)(d:DV):Option bx->Option Nat->Option (ab×Nat)
 |some (.row cs true ah),some n=>if(ca d).length=n/\0<n/\o+n<=cs.length/\(ca d).all cO=true then some (h.set b (some (.row (cs.take o++ca d++cs.drop (o+n)) true ah)),b)else none
 |_,_=>none
theorem SR(h:ab)(ty:TypeId)(b o:Nat)(d:DV):kY e h ty (some (.v (.pointer (some ⟨b,o,none⟩)))) (some d)=Au h b o d (h.get b) (e.size ty):=by
 simp only[kY,Au];cases h.get b with
 |none=>rfl
 |some ob=>
  cases ob with
  |row cs wr ah=>cases wr<;>cases e.size ty<;>rfl
  |_=>rfl
theorem SS(h:ab)(b o:Nat)(d:DV)(cs:List DV)(ah n:Nat):Au h b o d (some (.row cs true ah)) (some n)=if(ca d).length=n/\0<n/\o+n<=cs.length/\(ca d).all cO=true then some (h.set b (some (.row (cs.take o++ca d++cs.drop (o+n)) true ah)),b)else none:=(rfl)
def sS(h:ab)(base:Option Addr)(len cap:Nat)(x:DV):Option (Nat×Nat)->Option Nat->Option (DV×ab×List Nat)
 |some (sz,b),some _=>match fy h sz x with
  |some (n,new)=>eo h base len cap sz b n new
  |none=>none
 |_,_=>none
theorem xq(h:ab)(st xt:TypeId)(r:List TypeId)(base:Option Addr)(len cap:Nat)(x:DV):jb e h (st::xt::r).toArray (some [.v (.slice base len cap),x])=sS h base len cap x (e.ap st) (e.elem xt):=by
 simp only[jb,List.getElem?_toArray,List.getElem?_cons_zero,List.getElem?_cons_succ,sS];cases e.ap st with
 |none=>rfl
 |some p=>cases e.elem xt<;>rfl
def Av(h:ab)(base:Option Addr)(len cap sz b:Nat):Option (Nat×List DV)->Option (DV×ab×List Nat)
 |some (n,new)=>eo h base len cap sz b n new
 |none=>none
theorem E4(h:ab)(base:Option Addr)(len cap:Nat)(x:DV)(sz b s:Nat):sS h base len cap x (some (sz,b)) (some s)=Av h base len cap sz b (fy h sz x):=by
 simp only[sS,Av]
theorem SU(h:ab)(base:Option Addr)(len cap sz b n:Nat)(new:List DV):Av h base len cap sz b (some (n,new))=eo h base len cap sz b n new:=(rfl)
theorem SV(h:ab)(k:Nat)(xs:List (List DV)):fy h k (.sl k xs)=some (xs.length,xs.flatten):=by simp[fy]
def Aw(o n sz:Nat):Option bx->Option (Nat×List DV)
 |some (.row cs _ _)=>if o+n*sz<=cs.length then some (n,(cs.drop o).take (n*sz))else none
 |_=>none
theorem SW(h:ab)(sz b o n c:Nat):fy h sz (.v (.slice (some ⟨b,o,none⟩) n c))=Aw o n sz (h.get b):=by
 simp only[fy,Aw];cases h.get b with
 |none=>rfl
 |some ob=>cases ob<;>rfl
theorem SX(o n sz:Nat)(cs:List DV)(wr:Bool)(ah:Nat):Aw o n sz (some (.row cs wr ah))=if o+n*sz<=cs.length then some (n,(cs.drop o).take (n*sz))else none:=(rfl)
theorem nC(h:ab)(base:Option Addr)(len cap sz b:Nat)(new:List DV)(hc:len<=cap):eo h base len cap sz b 0 new=some (.v (.slice base len cap),h,[]):=by simp[eo,hc]
theorem rD(h:ab)(sz b n:Nat)(new:List DV)(hn:0<n)(hb:n*(b+1)<=1073741824):eo h none 0 0 sz b n new=some (.v (.slice (some ⟨h.next,0,none⟩) n n),h.new (.row new true sz),[]):=by
 have:n≠0:=by omega
 simp[eo,hb,this]
theorem uR(h:ab)(i len sz b n:Nat)(cs new:List DV)(hg:h.get i=some (.row cs true sz))(hc:cs.length=len*sz)(hs:0<sz)(hn:0<n)(h1:new.all cO=true)(hb:(len+n)*(b+1)<=1073741824):
 eo h (some ⟨i,0,none⟩) len len sz b n new=some (.v (.slice (some ⟨h.next,0,none⟩) (len+n) (len+n)),(h.set i none).new (.row (cs++new) true sz),[i]):=by
 have a1:¬len+n<=len:=by omega
 have a2:sz≠0:=by omega
 have a3:cs.take (len*sz)=cs:=by rw[<-hc];exact xS
 simp[eo,a1,hb,hg,hc,a2,h1,a3]
theorem E5(h:ab)(i len sz b n:Nat)(cs new:List DV)(wr:Bool)(hg:h.get i=some (.row cs wr 0))(hc:cs.length=len*sz)(hn:0<n)(hb:(len+n)*(b+1)<=1073741824):
 eo h (some ⟨i,0,none⟩) len len sz b n new=some (.v (.slice (some ⟨h.next,0,none⟩) (len+n) (len+n)),h.new (.row (cs++new) true sz),[]):=by
 have a1:¬len+n<=len:=by omega
 have a3:cs.take (len*sz)=cs:=by rw[<-hc];exact xS
 simp[eo,a1,hb,hg,hc,a3]
def oJ(s:Nat):Nat->List (Nat×DV)->Option (List DV)
 |_,[]=>some []
 |i,(j,v)::r=>if j=i/\(ca v).length=s/\(ca v).all cO=true then(oJ s (i+1) r).map (ca v++·)else none
theorem E6{s:Nat}:∀{ps:List (Nat×DV)} {i:Nat} {cs done rest:List DV},oJ s i ps=some cs->done.length=i*s->rest.length=ps.length*s->jH (λi=>some (i*s,s)) (done++rest) ps=some (done++cs)
 |[],i,cs,done,rest,h,h1,h2=>by
  simp only[oJ,qe]at h;subst h;have:rest=[]:=List.eq_nil_of_length_eq_zero (by simpa using h2);subst this;rfl
 |(j,v)::r,i,cs,done,rest,h,h1,h2=>by
  simp only[oJ]at h
  split at h
  . rename_i hc;obtain⟨rfl,hv,ho⟩:=hc;simp only[Option.map_eq_some_iff]at h;obtain⟨cs',h3,rfl⟩:=h;simp only[List.length_cons,Nat.add_mul,Nat.one_mul]at h2;have hle:j*s+s<=(done++rest).length:=by simp only[DE];omega
    simp only[jH];rw[if_pos ⟨hv,hle,ho⟩];have e1:(done++rest).take (j*s)++ca v++(done++rest).drop (j*s+(ca v).length)=(done++ca v)++rest.drop s:=by
     rw[<-h1,List.take_left,hv,List.drop_append,List.drop_eq_nil_of_le (by omega)];simp
    rw[e1,E6 h3 (by simp only[DE,h1,hv,Nat.add_mul,Nat.one_mul]) (by rw[List.length_drop];omega),List.append_assoc]
  . cases h
def xr(e:Env)(t:Tr DV)(st n:Nat)(l:List (Nat×Operand)):Option (bx×(Nat->DV)):=dH e t (.buildSlice st n l.toArray)
def xu(e:Env)(t:Tr DV)(st n:Nat)(l:List (Nat×Operand)):Option (List DV)->Option (bx×(Nat->DV))
 |some cs=>some (.row cs true 0,λi=>.v (.slice (some ⟨i,0,none⟩) n n))
 |none=>xr e t st n l
def Ax(e:Env)(t:Tr DV)(st n:Nat)(l:List (Nat×Operand)):Option (Nat×Value)->Option (List (Nat×DV))->Option (bx×(Nat->DV))
 |some (s,z),some ps=>if z.cells.toList.length=s/\0<s/\n*s<=16777216/\ps.length=n then xu e t st n l (oJ s 0 ps)else xr e t st n l
 |_,_=>xr e t st n l
theorem SY(t:Tr DV)(st n:Nat)(l:List (Nat×Operand)):dH e t (.buildSlice st n l.toArray)=Ax e t st n l (e.gq st) (fw e t l):=by
 unfold Ax
 split
 . rename_i s z ps hz hp
   split
   . rename_i hc;obtain⟨h1,h2,h3,h4⟩:=hc;unfold xu
     split
     . rename_i cs hr;unfold Env.gq at hz
       split at hz
       . rename_i el hu
         split at hz
         . rename_i s' z' k1 k2;cases hz;simp only[dH,hu,hp,k1,k2];rw[if_pos ⟨h3,h1,h2⟩];have:=E6 (s:=s) (done:=[]) (rest:=(eN z.cells.toList (n*s)).map .v) hr (by simp) (by rw[List.length_map,Ev,h4]);simp only[List.nil_append]at this;rw[this]
         . cases hz
       . cases hz
     . rfl
   . rfl
 . rfl
theorem SZ(t:Tr DV)(st n:Nat)(l:List (Nat×Operand))(s:Nat)(z:Value)(ps:List (Nat×DV)):Ax e t st n l (some (s,z)) (some ps)=if z.cells.toList.length=s/\0<s/\n*s<=16777216/\ps.length=n then xu e t st n l (oJ s 0 ps)else xr e t st n l:=(rfl)
theorem S0(t:Tr DV)(st n:Nat)(l:List (Nat×Operand))(cs:List DV):xu e t st n l (some cs)=some (.row cs true 0,λi=>.v (.slice (some ⟨i,0,none⟩) n n)):=(rfl)
theorem S1(s i:Nat):oJ s i []=some []:=(rfl)
theorem S2(s i j:Nat)(v:DV)(r:List (Nat×DV)):oJ s i ((j,v)::r)=if j=i/\(ca v).length=s/\(ca v).all cO=true then(oJ s (i+1) r).map (ca v++·)else none:=(rfl)
def p9(e:Env)(t:TypeId)(cells:List DV)(ps:List (Nat×DV)):Option (List DV):=jH (e.place t) cells ps
def Ay(e:Env)(t:TypeId)(cells:List DV)(v:DV)(r:List (Nat×DV)):Option (Nat×Nat)->Option (List DV)
 |none=>none
 |some (off,size)=>if(ca v).length=size/\off+size<=cells.length/\(ca v).all cO=true then p9 e t (cells.take off++ca v++cells.drop (off+(ca v).length)) r else none
theorem S3(t:TypeId)(cells:List DV):p9 e t cells []=some cells:=(rfl)
theorem S4(t:TypeId)(cells:List DV)(i:Nat)(v:DV)(r:List (Nat×DV)):p9 e t cells ((i,v)::r)=Ay e t cells v r (e.place t i):=by
 simp only[p9,jH,Ay];cases e.place t i with
 |none=>rfl
 |some p=>obtain⟨off,size⟩:=p;rfl
theorem S5(t:TypeId)(cells:List DV)(v:DV)(r:List (Nat×DV))(off size:Nat):Ay e t cells v r (some (off,size))=if(ca v).length=size/\off+size<=cells.length/\(ca v).all cO=true then p9 e t (cells.take off++ca v++cells.drop (off+(ca v).length)) r else none:=(rfl)
def gu(e:Env)(t:TypeId)(ps:List (Nat×DV)):Option Value->Option DV
 |none=>none
 |some z=>(p9 e t (z.cells.toList.map .v) ps).map .agg
theorem S6(t:TypeId)(ps:List (Nat×DV))(z:Value):gu e t ps (some z)=(p9 e t (z.cells.toList.map .v) ps).map .agg:=(rfl)
theorem iB{t:TypeId}(ps:List (Nat×DV))(h:(e.place t 0).isSome=true)(hs:∃d,e.under t=some d/\jz d=true):eA e t ps=gu e t ps (e.zero t):=by
 obtain⟨d,hd,ha⟩:=hs;simp only[eA,gu,p9,hd];cases hz:e.zero t with
 |none=>rfl
 |some z=>
  cases d with
  |struct fields=>
   have:e.place t=jW e fields:=by funext i;simp[Env.place,hd]
   simp only[this]
  |array n el=>
   simp only;cases he:e.size el with
   |none=>
    have hp:e.place t=λ_=>none:=by funext i;simp[Env.place,hd,he]
    rw[hp]at h;cases h
   |some s=>
    have:e.place t=λi=>some (i*s,s):=by funext i;simp[Env.place,hd,he]
    simp only[this]
  |_=>cases ha
def xw(e:Env)(aj:Bool)(b:Code)(K:bk->DS->Prop):bk->DS->Prop:=λx s1=>match x with|.normal=>RD e aj b s1 K|.exit i=>K (.exit i) s1|.ret=>K .ret s1
def xy(id:Nat)(K:bk->DS->Prop):bk->DS->Prop:=λx s1=>match x with|.normal=>K .normal s1|.exit i=>if i=id then K .normal s1 else K (.exit i) s1|.ret=>K .ret s1
def nD(e:Env)(aj:Bool)(a b:Code)(s:DS)(K:bk->DS->Prop):DV->Prop:=λv=>match v with|.v (.bool v)=>(v=true->RD e aj a s K)/\(v=false->RD e aj b s K)|_=>False
section
variable (s:DS) (K:bk->DS->Prop)
theorem S7(b:Code):xw e aj b K .normal s=RD e aj b s K:=(rfl)
theorem S8(b:Code)(i:Nat):xw e aj b K (.exit i) s=K (.exit i) s:=(rfl)
theorem S9(b:Code):xw e aj b K .ret s=K .ret s:=(rfl)
theorem Ta(id:Nat):xy id K .normal s=K .normal s:=(rfl)
theorem Tb(id i:Nat):xy id K (.exit i) s=if i=id then K .normal s else K (.exit i) s:=(rfl)
theorem Tc(id:Nat):xy id K .ret s=K .ret s:=(rfl)
theorem Td(a b:Code):nD e aj a b s K (.v (.bool true))=RD e aj a s K:=by simp[nD]
theorem Te(a b:Code):nD e aj a b s K (.v (.bool false))=RD e aj b s K:=by simp[nD]
theorem nD.mk{a b:Code}{p:Prop}[Decidable p](h1:p->RD e aj a s K)(h2:¬p->RD e aj b s K):nD e aj a b s K (.v (.bool (decide p))):=⟨λh=>h1 (of_decide_eq_true h),λh=>h2 (of_decide_eq_false h)⟩
theorem Tf:RD e aj .skip s K=K .normal s:=(rfl)
theorem Tg(l:Nat):RD e aj (.label l) s K=K .normal s:=(rfl)
theorem Th(c:Code):RD e aj (.scope c) s K=RD e aj c s K:=(rfl)
theorem Ti(id:Nat):RD e aj (.exit id) s K=K (.exit id) s:=(rfl)
theorem Tj:RD e aj .ret s K=K .ret s:=(rfl)
theorem Tk(a b:Code):RD e aj (.seq a b) s K=RD e aj a s (xw e aj b K):=(rfl)
theorem Tl(id:Nat)(c:Code):RD e aj (.block id c) s K=RD e aj c s (xy id K):=(rfl)
theorem Tm(c:Operand)(a b:Code)(t:Tr DV)(n:Nat)(dd:List FuncId)(h:ab):RD e aj (.cond c a b) ⟨t,n,dd,h⟩ K=aG (aB e t c) (nD e aj a b ⟨t,n,dd,h⟩ K):=(rfl)
theorem Tn(id:Nat)(l:List Oper)(t:Tr DV)(n:Nat)(dd:List FuncId)(h:ab):RD e aj (.region id l.toArray false) ⟨t,n,dd,h⟩ K=eI e aj l l t n dd h (K .normal):=by simp[RD]
theorem To(c:Code):RD e aj (.loop c) s K=WD e aj (.loop c) s K:=(rfl)
theorem Tp(I:Nat->DS->Prop)(j:Nat):KI I j K .normal s=∃j',j'<j/\∃d',ax s d'/\I j' d':=(rfl)
theorem Tq(I:Nat->DS->Prop)(j:Nat)(i:Nat):KI I j K (.exit i) s=K (.exit i) s:=(rfl)
theorem Ts(I:Nat->DS->Prop)(j:Nat):KI I j K .ret s=K .ret s:=(rfl)
end
def uS(K:DV->ab->Prop)(h:ab):List DV->Prop:=λl=>K (jI l) h
theorem Tt(K:DV->ab->Prop)(h:ab)(l:List DV):uS K h l=K (jI l) h:=(rfl)
theorem Tu(v:DV):jI [v]=v:=(rfl)
theorem Tv:jI []=.bb []:=(rfl)
theorem Tw(v w:DV)(r:List DV):jI (v::w::r)=.bb (v::w::r):=(rfl)
theorem Tx(rs:List ResultVar)(K:DV->ab->Prop)(t:Tr DV)(n:Nat)(h:ab):jd e rs K .ret ⟨t,n,[],h⟩=aG (fJ e ⟨t,n,[],h⟩ rs) (uS K h):=by
 simp[jd,uS,aG]
theorem Ty(rs:List ResultVar)(K:DV->ab->Prop)(t:Tr DV)(n:Nat)(h:ab):jd e rs K .normal ⟨t,n,[],h⟩=aG (fJ e ⟨t,n,[],h⟩ rs) (uS K h):=by
 simp[jd,uS,aG]
def uT(e:Env)(s:DS)(r:List ResultVar):Option DV->Option (List DV)
 |none=>none
 |some v=>(fJ e s r).map (v::·)
theorem Tz(s:DS):fJ e s []=some []:=(rfl)
theorem TA(t:Tr DV)(n:Nat)(dd:List FuncId)(h:ab)(i:Nat)(r:List ResultVar):fJ e ⟨t,n,dd,h⟩ (.tmp i::r)=uT e ⟨t,n,dd,h⟩ r (t.get i):=by
 simp only[fJ,uT];cases t.get i with
 |none=>rfl
 |some v=>cases fJ e ⟨t,n,dd,h⟩ r<;>rfl
theorem TB(t:Tr DV)(n:Nat)(dd:List FuncId)(h:ab)(i ty:Nat)(r:List ResultVar):fJ e ⟨t,n,dd,h⟩ (.cell i ty::r)=uT e ⟨t,n,dd,h⟩ r ((t.get i).bind (iA e h ty)):=by
 simp only[fJ,uT];cases(t.get i).bind (iA e h ty)with
 |none=>rfl
 |some v=>cases fJ e ⟨t,n,dd,h⟩ r<;>rfl
theorem TE(s:DS)(r:List ResultVar)(v:DV):uT e s r (some v)=(fJ e s r).map (v::·):=(rfl)
attribute [go_sem] QO QP QQ QR QS QT QU QV QW QX QY QZ Q0 Q2 Q3 Q7 E0 RA RB Q8 Q9 Ra Rb Rc Re Rf Rg Rh Ri Rj Rk Rm Rn Ro Rp Rq Rr Rs Rt Ru Rv Rw Rx Ry RC RE RF RG RH RI RJ RK RL RN RO RP RR RT RU RV RW RX RY RZ R0 R3 R4 R5 R8 E1 R9 Sa Sb Sc Sd Se Sf Sg Sh Si Sj Sk Sl Sm Sn So Sq Sr Ss St Su Sv Sw Sx Sy Sz SA ab.get_none ab.sN ab.aR ab.aX ab.Ex ab.fH SB SC SE SF SG SH SJ SK SL SM SN SO SP SQ SR SS xq E4 SU SV SW SX SY SZ S0 S1 S2 S3 S4 S5 S6 S7 S8 S9 Ta Tb Tc Td Te Tf Tg Th Ti Tj Tk Tl Tm Tn To Tp Tq Ts Tt Tu Tv Tw Tx Ty Tz TA TB TE
end Go.au
end

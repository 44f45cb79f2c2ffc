/- Parts of a proof. -/
import Derived.Laws.Strings
import Derived.Test.YtlgccnjcmfighaaGreatDoorK06
open Option.some renaming injEq->qG
open Prod.mk renaming injEq->yy
open Option renaming map_some->yB,bind_eq_some_iff->FQ,map_eq_some_iff->KE,bind_some->RK,map_none->afy
open List renaming map_cons->E2,map_nil->RC,length_map->RW,map_take->Xy,map_drop->YN,getElem?_map->Zf,map_append->ab8,all_eq_true->adr,mem_map->adv,map_map->afj,mem_flatMap->afx,map_congr_left->afC,mem_of_getElem?->afD,mem_range->afH,filter_cons->afI
open Bool renaming and_eq_true->Vs,eq_iff_iff->afF
open Eq renaming trans->YT
open Nat renaming ble->afv,blt->afw,beq->afz,le_of_ble_eq_true->afA,lt_of_lt_of_le->afE,add_right_cancel_iff->afG,eq_of_beq_eq_true->afJ
open BitVec renaming ofInt->afB
set_option linter.all false
set_option maxRecDepth 100000
noncomputable section
namespace Go.aD
variable {e:Env}
def lQ(P:Program){α β:Type}(s:Sem α)(k:α->Sem β):b9 P (s>>=k)=(b9 P s).bind λa=>b9 P (k a):=by
 show b9 P (Sem.bind s k)=_
 induction s<;>simp_all[Sem.bind,b9]
theorem jN(P:Program){α:Type}(a:α):b9 P (pure a)=some a:=rfl
def Xo(P:Program){op:BinOp}(h1:op≠.eql)(h2:op≠.neq)(t:TypeId)(x y:Operand)(a b:Value):b9 P (eqGuard op t x y a b)=some ():=by
 unfold eqGuard;cases op<;>first|rfl|exact absurd rfl h1|exact absurd rfl h2
def tM{ty:TypeId}{x y:Operand}{k k':IntKind}{n m:Int}{op:BinOp}(h1:op≠.eql)(h2:op≠.neq)(hn:∀k n m,kY op k n m=none){r:Value}(hr:b9 e.P (binOp op ty (.int k n) (.int k' m))=some r)(hp:plain r=true):
 cO e op ty x y (.int k n) (.int k' m)=some r:=by
 unfold cO;have:(bif decide (k=k')then kY op k n m else none)=none:=by cases decide (k=k')<;>simp[hn]
 have ha:∀k n,plain (.int k n)=true:=λ_ _=>rfl;simp only[this,ha,Bool.and_self,cond_true,eV,lQ,Xo e.P h1 h2,RK,hr,hp]
def Xp(P:Program)(op:BinOp)(t:TypeId)(x y:Operand)(a b:ByteArray):b9 P (eqGuard op t x y (.string a) (.string b))=some ():=by
 unfold eqGuard;cases op<;>rfl
def BK{ty:TypeId}{x y:Operand}{a b:ByteArray}{op:BinOp}{r:Value}(hr:b9 e.P (binOp op ty (.string a) (.string b))=some r)(hp:plain r=true):
 cO e op ty x y (.string a) (.string b)=some r:=by
 unfold cO;have ha:∀s,plain (.string s)=true:=λ_=>rfl;simp only[ha,Bool.and_self,cond_true,eV,lQ,Xp,RK,hr,hp]
section
variable (ty:TypeId) (x y:Operand) (k k':IntKind) (n m:Int)
def Xq(h:m≠0):cO e .rem ty x y (.int k n) (.int k m)=some (.int k (n.tmod m)):=by
 refine tM aC aC (λ_ _ _=>rfl) ?_ rfl;simp[binOp,Op.intDiv,h,jN]
def Xr(h:m≠0):cO e .quo ty x y (.int k n) (.int k m)=some (.int k (k.wrap (n.tdiv m))):=by
 refine tM aC aC (λ_ _ _=>rfl) ?_ rfl;simp[binOp,Op.intDiv,h,jN]
def Xs(h:0<=m):cO e .shr ty x y (.int k n) (.int k' m)=some (.int k (n.fdiv (2^(min m.toNat k.bits)))):=by
 refine tM aC aC (λ_ _ _=>rfl) ?_ rfl;simp[binOp,Op.shift,show¬m<0 by omega,jN]
def Xt(h:0<=m):cO e .shl ty x y (.int k n) (.int k' m)=some (.int k (k.wrap (n*2^(min m.toNat k.bits)))):=by
 refine tM aC aC (λ_ _ _=>rfl) ?_ rfl;simp[binOp,Op.shift,show¬m<0 by omega,jN]
def BL:cO e .and ty x y (.int k n) (.int k m)=some (.int k (k.wrap ((afB k.bits n&&&afB k.bits m).toNat:Nat))):=by
 refine tM aC aC (λ_ _ _=>rfl) ?_ rfl;simp[binOp,Op.intBits,jN]
def Xu:cO e .or ty x y (.int k n) (.int k m)=some (.int k (k.wrap ((afB k.bits n|||afB k.bits m).toNat:Nat))):=by
 refine tM aC aC (λ_ _ _=>rfl) ?_ rfl;simp[binOp,Op.intBits,jN]
def tN(a b:ByteArray)(h:a.size+b.size<=9223372036854775807):cO e .add ty x y (.string a) (.string b)=some (.string (a++b)):=by
 refine BK ?_ rfl;have:¬((a.size+b.size:Nat):Int)>IntKind.i64.max:=by
  have:IntKind.i64.max=9223372036854775807:=aC;omega
 simp only[binOp,Op.stringOp,this,if_false,jN]
def toList_inj{a b:ByteArray}:a.toList=b.toList↔a=b:=by
 rw[ByteArray.toList_eq,ByteArray.toList_eq];constructor
 . intro h;cases a;cases b;congr;exact Array.toList_inj.1 h
 . intro h;rw[h]
def Xv(a b:ByteArray):cO e .eql ty x y (.string a) (.string b)=some (.bool (decide (a=b))):=by
 have:(a.toList==b.toList)=decide (a=b):=by
  rw[afF];simp[toList_inj]
 refine BK ?_ rfl;simp[binOp,Op.stringOp,jN,this]
def Xw(a b:ByteArray):cO e .neq ty x y (.string a) (.string b)=some (.bool (!decide (a=b))):=by
 have:(a.toList==b.toList)=decide (a=b):=by
  rw[afF];simp[toList_inj]
 refine BK ?_ rfl;simp[binOp,Op.stringOp,jN,this]
end
def Xx{ty:TypeId}(hu:e.P.underlying ty=some .string)(aa:e.under ty=some .string)(s:ByteArray)(k:IntKind)(i:Int)(b:UInt8)(h0:0<=i)(hb:s[i.toNat]? =some b):oY e ty (.string s) (.int k i)=some (.int .u8 b.toNat):=by
 simp only[oY,aa];have pu:b9 e.P (underlying ty)=some .string:=by
  simp only[underlying,lQ];show b9 e.P (match e.P.underlying ty with|some d=>pure d|none=>stuck "no such type" :Sem TypeDesc)=some .string;rw[hu];rfl
 have:b9 e.P (Instr.index ty (.string s) (.int k i))=some (.int .u8 b.toNat):=by
  simp[Instr.index,lQ,asIntOf,jN,pu,h0,hb]
 simp[eV,this,plain,ew]
end Go.aD
end
noncomputable section
namespace Go.aD
variable {e:Env} {N:Nat}
def jm:Value->Bool
 |.pointer (some _)=>false
 |.slice (some _) _ _=>false
 |.map (some _)=>false
 |_=>true
def GQ:DV->Bool
 |.v x=>jm x
 |_=>false
def dD:DV->Bool
 |.v x=>jm x
 |.agg l=>l.all GQ
 |_=>false
def jn:Option DV->Bool
 |some d=>dD d
 |none=>true
def eR(N:Nat)(a:Addr):Addr:=⟨a.block+N,a.off,a.spot⟩
def bY(N:Nat):Value->Value
 |.pointer (some a)=>.pointer (some (eR N a))
 |.slice (some a) l c=>.slice (some (eR N a)) l c
 |.map (some r)=>.map (some (r+N))
 |v=>v
mutual
def sh(N:Nat):DV->DV
 |.v x=>.v (bY N x)
 |.agg l=>.agg (oa N l)
 |.bp l=>.bp (oa N l)
 |.fn f a c=>.fn f (oa N a) (oa N c)
 |.sl k xs=>.sl k (vV N xs)
 |.ptr xs off=>.ptr (oa N xs) off
def oa(N:Nat):List DV->List DV
 |[]=>[]
 |d::l=>sh N d::oa N l
def vV(N:Nat):List (List DV)->List (List DV)
 |[]=>[]
 |x::xs=>oa N x::vV N xs
end
def tS:∀(l:List DV),oa N l=l.map (sh N)
 |[]=>by simp[oa]
 |d::l=>by simp[oa,tS l]
def GR:∀(l:List (List DV)),vV N l=l.map λx=>x.map (sh N)
 |[]=>by simp[vV]
 |d::l=>by simp[vV,GR l,tS]
def bT(x:Value):sh N (.v x)=.v (bY N x):=by simp[sh]
def kj(l:List DV):sh N (.agg l)=.agg (l.map (sh N)):=by simp[sh,tS]
def jO(l:List DV):sh N (.bp l)=.bp (l.map (sh N)):=by simp[sh,tS]
def py(f:FuncId)(a c:List DV):sh N (.fn f a c)=.fn f (a.map (sh N)) (c.map (sh N)):=by simp[sh,tS]
def mq(k:Nat)(xs:List (List DV)):sh N (.sl k xs)=.sl k (xs.map λx=>x.map (sh N)):=by simp[sh,GR]
def nj(xs:List DV)(o:Nat):sh N (.ptr xs o)=.ptr (xs.map (sh N)) o:=by simp[sh,tS]
def qD{x:Value}(h:jm x=true):bY N x=x:=by
 unfold bY
 split
 . simp[jm]at h
 . simp[jm]at h
 . simp[jm]at h
 . rfl
def XP{d:DV}(h:GQ d=true):sh N d=d:=by
 cases d with
 |v x=>rw[bT,qD h]
 |_=>cases h
def gP{d:DV}(h:dD d=true):sh N d=d:=by
 cases d with
 |v x=>rw[bT,qD h]
 |agg l=>
  rw[kj];congr 1;simp only[dD,adr]at h;exact(afC λd hd=>XP (h d hd)).trans (List.map_id' l)
 |_=>cases h
def tT{l:List Value}(h:l.all jm=true):(l.map .v).map (sh N)=l.map .v:=by
 rw[afj];simp only[adr]at h;exact afC λx hx=>by simp[bT,qD (h x hx)]
def GS{n:Nat}{v:Value}(h:ew n v=true):jm v=true:=by
 cases n with
 |zero=>simp[ew]at h
 |succ n=>
  unfold jm
  split
  . simp[ew]at h
  . simp[ew]at h
  . simp[ew]at h
  . rfl
def XQ{cs:Array Value}(h:plain (.agg cs)=true):cs.toList.all jm=true:=by
 have h:cs.toList.all (ew 5)=true:=h;simp only[adr]at h⊢;exactλx hx=>GS (h x hx)
def GU{v:Value}(h:plain v=true):sh N (fZ v)=fZ v:=by
 unfold fZ
 split
 . rw[kj,tT (XQ h)]
 . rw[bT,qD (GS h)]
def BN(d:DV):cC (sh N d)=(cC d).map (sh N):=by cases d<;>simp[cC,bT,kj,jO,py,mq,nj]
def XR(x:Value):dF (bY N x)=dF x:=by
 unfold bY
 split<;>rfl
def XS(d:DV):cZ (sh N d)=cZ d:=by cases d<;>simp[cZ,bT,kj,jO,py,mq,nj,XR]
def vW(l:List DV):(l.map (sh N)).all cZ=l.all cZ:=by rw[List.all_map];congr 1;funext d;exact XS d
def gq(N:Nat)(x:bH):bH:=⟨x.key,sh N x.val,x.born⟩
def gB(N:Nat):bF->bF
 |.row cs wr aj=>.row (cs.map (sh N)) wr aj
 |.map es clock=>.map (es.map (gq N)) clock
 |.cF m since seen last=>.cF (m.map (·+N)) since seen last
 |.eY s pos=>.eY s pos
def TS(N:Nat)(t0 t:Tr DV):Prop:=∀i,t.get i=(t0.get i).map (sh N)
structure HS(N:Nat)(h0 h:ae):Prop where
 next:h.next=h0.next+N
 get:∀k,h.get (k+N)=(h0.get k).map (gB N)
def TS.put{t0 t:Tr DV}(ht:TS N t0 t)(dst:Option Tmp)(d:DV):TS N (cH dst d t0) (cH dst (sh N d) t):=by
 cases dst with
 |none=>exact ht
 |some i=>
  intro j;simp only[cH,Tr.bu]
  split
  . rfl
  . exact ht j
def HS.set{h0 h:ae}(hh:HS N h0 h)(k:Nat)(o:Option bF):HS N (h0.set k o) (h.set (k+N) (o.map (gB N))):=by
 refine⟨by rw[ae.aY,ae.aY,hh.next],λj=> ?_⟩;simp only[ae.bu,afG]
 split
 . rfl
 . exact hh.get j
def HS.new{h0 h:ae}(hh:HS N h0 h)(o:bF):HS N (h0.new o) (h.new (gB N o)):=by
 refine⟨by rw[ae.bm,ae.bm,hh.next];omega,λj=> ?_⟩;simp only[ae.dN,hh.next,afG]
 split
 . rfl
 . exact hh.get j
def HS.row{h0 h:ae}(hh:HS N h0 h){b:Nat}{cs:List DV}{wr:Bool}{aj:Nat}(hg:h0.get b=some (.row cs wr aj)):h.get (b+N)=some (.row (cs.map (sh N)) wr aj):=by rw[hh.get,hg];rfl
def HS.mp{h0 h:ae}(hh:HS N h0 h){b:Nat}{es:List bH}{c:Nat}(hg:h0.get b=some (.map es c)):h.get (b+N)=some (.map (es.map (gq N)) c):=by rw[hh.get,hg];rfl
abbrev Env.bf(e:Env):Env:=e
def XT:sh N (.ptr qt 0)=.ptr qt 0:=by
 rw[nj,qt,afj];exact congrArg (λl=>DV.ptr l 0) (afC λv hv=>by
  obtain⟨n,_,rfl⟩:=adv.1 hv;simp[bT,bY])
variable {t0 t:Tr DV} {h0 h:ae}
def eh(ht:TS N t0 t){o:Operand}{d:DV}(hd:aJ e.bf t0 o=some d):aJ e t o=some (sh N d):=by
 cases o with
 |tmp i=>
  have:t0.get i=some d:=hd;show t.get i=_;rw[ht i,this];rfl
 |const v=>
  simp only[aJ]at hd⊢;obtain⟨hp,hd⟩:=cg hd;cases hd;rw[GU hp,hp];rfl
 |global g=>
  simp only[aJ]at hd⊢;obtain⟨hp,hd⟩:=cg hd;rw[hp,cond_true];by_cases hg:g=dW
  . rw[if_pos hg]at hd⊢;simp only[qG]at hd;subst hd;rw[XT]
  . rw[if_neg hg]at hd;cases hd
 |func f=>
  simp only[aJ,qG]at hd;subst hd;simp[aJ,py]
def oc(ht:TS N t0 t):∀{l:List Operand} {ds:List DV},cJ e.bf t0 l=some ds->cJ e t l=some (ds.map (sh N))
 |[],ds,h=>by simp only[cJ,qG]at h;subst h;rfl
 |o::r,ds,h=>by
  simp only[cJ]at h
  split at h
  . cases h
  . rename_i d hd;simp only[KE]at h;obtain⟨ah,h1,rfl⟩:=h;simp only[cJ,eh ht hd,oc ht h1,yB,E2]
def vX(N:Nat)(p:Nat×DV):Nat×DV:=(p.1,sh N p.2)
def BO(ht:TS N t0 t):∀{l:List (Nat×Operand)} {ds:List (Nat×DV)},gb e.bf t0 l=some ds->gb e t l=some (ds.map (vX N))
 |[],ds,h=>by simp only[gb,qG]at h;subst h;rfl
 |(i,o)::r,ds,h=>by
  simp only[gb]at h
  split at h
  . cases h
  . rename_i d hd;simp only[KE]at h;obtain⟨ah,h1,rfl⟩:=h;simp only[gb,eh ht hd,BO ht h1,yB,E2,vX]
def BP(ht:TS N t0 t){o:Option Operand}{d:Option DV}(hd:eO e.bf t0 o=some d):eO e t o=some (d.map (sh N)):=by
 cases o with
 |none=>simp only[eO,qG]at hd;subst hd;rfl
 |some o=>
  simp only[eO,KE]at hd;obtain⟨d,h1,rfl⟩:=hd;simp only[eO,eh ht h1,yB]
def GW{l:Option (Option Nat)}{cs:List DV}{o:Nat}{d:DV}(hd:fy l cs o=some d):fy l (cs.map (sh N)) o=some (sh N d):=by
 unfold fy at hd
 split at hd
 . simp only[fy,Zf,hd,yB]
 . split at hd
   . rename_i hc;cases hd;simp only[fy,RW,hc,if_true,kj,Xy,YN]
   . cases hd
 . cases hd
def GX(hh:HS N h0 h){ty:TypeId}{d r:DV}(hd:ji e.bf h0 ty d=some r):ji e h ty (sh N d)=some (sh N r):=by
 unfold ji at hd
 split at hd
 . rename_i b o
   split at hd
   . rename_i cs wr aj hg;simp only[bT,bY,eR,ji,hh.row hg];exact GW hd
   . cases hd
 . simp only[nj,ji];exact GW hd
 . cases hd
def XU{s f:Nat}{d r:DV}(hd:kK e.bf s f d=some r):kK e s f (sh N d)=some (sh N r):=by
 unfold kK at hd
 split at hd
 . simp only[KE]at hd;obtain⟨k,h1,rfl⟩:=hd;have h1:e.off s f=some k:=h1;simp only[bT,bY,eR,kK,h1,yB]
 . simp only[KE]at hd;obtain⟨k,h1,rfl⟩:=hd;have h1:e.off s f=some k:=h1;simp only[nj,kK,h1,yB]
 . cases hd
def GY{p:Option (Nat×Option Nat)}{l:List DV}{d:DV}(hd:kL p l=some d):kL p (l.map (sh N))=some (sh N d):=by
 unfold kL at hd
 split at hd
 . simp only[kL,Zf,hd,yB]
 . cases hd;simp only[kL,kj,Xy,YN]
 . cases hd
def XV{ty f:Nat}{d r:DV}(hd:qu e.bf ty f d=some r):qu e ty f (sh N d)=some (sh N r):=by
 unfold qu at hd
 split at hd
 . simp only[kj,qu];exact GY hd
 . cases hd
def GZ{d:DV}{i:Int}(hd:gd d=some i):gd (sh N d)=some i:=by
 unfold gd at hd
 split at hd
 . simp only[bT,bY,gd];exact hd
 . cases hd
def XW{b o len:Nat}{i:Int}{s:Option Nat}{v:Value}(h:nU b o len i s=some v):nU (b+N) o len i s=some (bY N v):=by
 cases s with
 |none=>cases h
 |some s=>
  simp only[nU]at h⊢
  split at h
  . rename_i hc;cases h;rw[if_pos hc];rfl
  . cases h
def XX{b o:Nat}{i:Int}{s:Option (Nat×Nat)}{v:Value}(h:nV b o i s=some v):nV (b+N) o i s=some (bY N v):=by
 cases s with
 |none=>cases h
 |some s=>
  simp only[nV]at h⊢
  split at h
  . rename_i hc;cases h;rw[if_pos hc];rfl
  . cases h
def XY{i:Int}{xs:List (List DV)}{d:DV}(h:qv i xs=some d):qv i (xs.map λx=>x.map (sh N))=some (sh N d):=by
 unfold qv at h⊢
 split at h
 . rename_i hc;simp only[KE]at h;obtain⟨r,h1,rfl⟩:=h;simp only[hc,if_true,Zf,h1,yB,nj]
 . cases h
def XZ{ty:TypeId}{d c r:DV}(hd:gZ e.bf ty d (gd c)=some r):gZ e ty (sh N d) (gd (sh N c))=some (sh N r):=by
 cases hi:gd c with
 |none=>rw[hi]at hd;unfold gZ at hd;split at hd<;>simp_all
 |some i=>
  rw[hi]at hd;rw[GZ hi];unfold gZ at hd
  split at hd
  . rename_i b o len cap i' he;cases he;simp only[KE]at hd;obtain⟨v,h1,rfl⟩:=hd;have h1:nU b o len i (e.elem ty)=some v:=h1;simp only[bT,bY,eR,gZ,XW h1,yB]
  . rename_i b o i' he;cases he;simp only[KE]at hd;obtain⟨v,h1,rfl⟩:=hd;have h1:nV b o i (e.arr ty)=some v:=h1;simp only[bT,bY,eR,gZ,XX h1,yB]
  . rename_i k xs i' he;cases he
    split at hd
    . rename_i hk;have hk:e.elem ty=some k:=hk;simp only[mq,gZ,hk,if_true];exact XY hd
    . cases hd
  . rename_i xs off i' he;cases he
    split at hd
    . rename_i n s ha;have ha:e.arr ty=some (n,s):=ha
      split at hd
      . rename_i hc;cases hd;simp only[nj,gZ,ha,hc,and_self,if_true]
      . cases hd
    . cases hd
  . cases hd
def X0{ty:TypeId}{d c r:DV}(hn:dD c=true)(ai:∀x,d=.v x->dD d=true/\dD r=true)(hd:mY e.bf ty d c=some r):mY e ty (sh N d) (sh N c)=some (sh N r):=by
 rw[gP hn];unfold mY at hd
 split at hd
 . rename_i l k i
   split at hd
   . rename_i n s ld hp;have hp:e.AT ty=some (n,s,ld):=hp
     split at hd
     . rename_i hc;simp only[kj,mY,hp,hc,and_self,if_true];exact GY hd
     . cases hd
   . cases hd
 . rename_i x y;obtain⟨h1,h2⟩:=ai x rfl;rw[gP h1,gP h2];exact hd
 . cases hd
def X5{i:Nat}{d r:DV}(hd:mh i d=some r)(hn:∀x,d=.v x->dD r=true):mh i (sh N d)=some (sh N r):=by
 unfold mh at hd
 split at hd
 . simp only[jO,mh,Zf,hd,yB]
 . rw[gP (hn _ rfl)];exact hd
 . cases hd
def X6{d r:DV}(hd:lp d=some r):lp (sh N d)=some (sh N r):=by
 unfold lp at hd
 split at hd
 . cases hd;simp only[bT,bY,lp]
 . cases hd;simp only[nj,lp]
 . cases hd;simp only[py,lp]
 . cases hd
def G5(hh:HS N h0 h){sz:Nat}{d:DV}{n:Nat}{cs:List DV}(hd:gj h0 sz d=some (n,cs)):gj h sz (sh N d)=some (n,cs.map (sh N)):=by
 unfold gj at hd
 split at hd
 . rename_i k xs
   split at hd
   . rename_i hk;simp only[qG,yy]at hd;obtain⟨rfl,rfl⟩:=hd;simp only[mq,gj,hk,if_true,RW,List.map_flatten]
   . cases hd
 . rename_i n' c
   split at hd
   . rename_i hk;simp only[qG,yy]at hd;obtain⟨rfl,rfl⟩:=hd;simp only[bT,bY,gj,hk,if_true,RC]
   . cases hd
 . rename_i b o n' c
   split at hd
   . rename_i cs' wr aj hg
     split at hd
     . rename_i hc;simp only[qG,yy]at hd;obtain⟨rfl,rfl⟩:=hd;simp only[bT,bY,eR,gj,hh.row hg,RW,hc,if_true,Xy,YN]
     . cases hd
   . cases hd
 . cases hd
def G6:∀{l:List DV} {ns:List Int},lL l=some ns->lL (l.map (sh N))=some ns
 |[],_,h=>h
 |d::l,ns,h=>by
  unfold lL at h
  split at h
  . contradiction
  . rename_i n r he;cases he;simp only[KE]at h;obtain⟨r,h1,rfl⟩:=h;simp only[E2,bT,bY,lL,G6 h1,yB]
  . cases h
def X7(hh:HS N h0 h){s d:TypeId}{x r:DV}(hn:(e.mi s d||(dD x&&dD r))=true)(hd:mZ e.bf h0 s d x=some r):mZ e h s d (sh N x)=some (sh N r):=by
 unfold mZ at hd⊢
 split at hd
 . rename_i hb;have hb:e.mi s d=true:=hb;simp only[hb];unfold sc at hd
   split at hd
   . rename_i n cs aa;simp only[KE]at hd;obtain⟨ns,h1,rfl⟩:=hd;rw[G5 hh aa];simp only[sc,G6 h1,yB,bT,bY]
   . cases hd
 . rename_i hb;have hb:e.mi s d=false:=hb;simp only[hb,Bool.false_or,Vs]at hn⊢;rw[gP hn.1,gP hn.2];exact hd
def BQ{d:Option DV}{i:Option Int}(hd:fK d=some i):fK (d.map (sh N))=some i:=by
 cases d with
 |none=>exact hd
 |some d=>
  simp only[fK,KE,yB]at hd⊢;obtain⟨i,h1,rfl⟩:=hd;exact⟨i,GZ h1,rfl⟩
def X8(hh:HS N h0 h){ty:TypeId}{x r:DV}{lo hi mx:Option Int}(hd:jH e.bf h0 ty x lo hi mx=some r):jH e h ty (sh N x) lo hi mx=some (sh N r):=by
 have he:e.bf.elem ty=e.elem ty:=rfl;unfold jH at hd;rw[he]at hd
 split at hd
 . rename_i k xs s hs;simp only[mq,jH,hs,RW];cases h1:dR mx xs.length xs.length with
   |none=>rw[h1]at hd;cases hd
   |some m=>
    rw[h1]at hd;simp only at hd⊢;cases h2:dR hi m xs.length with
    |none=>rw[h2]at hd;cases hd
    |some h'=>
     rw[h2]at hd;simp only at hd⊢;cases h3:dR lo h' 0 with
     |none=>rw[h3]at hd;cases hd
     |some l=>
      rw[h3]at hd;simp only at hd⊢
      split at hd
      . rename_i hc;cases hd;rw[if_pos hc,mq,Xy,YN]
      . cases hd
 . rename_i len cap s hs;simp only[bT,bY,jH,hs];cases h1:dR mx cap cap with
   |none=>rw[h1]at hd;cases hd
   |some m=>
    rw[h1]at hd;simp only at hd⊢;cases h2:dR hi m len with
    |none=>rw[h2]at hd;cases hd
    |some h'=>
     rw[h2]at hd;simp only at hd⊢;cases h3:dR lo h' 0 with
     |none=>rw[h3]at hd;cases hd
     |some l=>
      rw[h3]at hd;simp only at hd⊢
      split at hd
      . rename_i hc;cases hd;rw[if_pos hc];simp only[bT,bY,eR]
      . cases hd
 . rename_i b o len cap s hs;simp only[bT,bY,eR,jH,hs,hh.get b];cases hg:h0.get b with
   |none=>rw[hg]at hd;cases hd
   |some ob=>
    cases ob with
    |row cs wr aj=>
     rw[hg]at hd;simp only[yB,gB]at hd⊢;cases h1:dR mx cap cap with
     |none=>rw[h1]at hd;cases hd
     |some m=>
      rw[h1]at hd;simp only at hd⊢;cases h2:dR hi m len with
      |none=>rw[h2]at hd;cases hd
      |some h'=>
       rw[h2]at hd;simp only at hd⊢;cases h3:dR lo h' 0 with
       |none=>rw[h3]at hd;cases hd
       |some l=>
        rw[h3]at hd;simp only at hd⊢
        split at hd
        . rename_i hc;cases hd;rw[if_pos hc];simp only[bT,bY,eR]
        . cases hd
    |_=>rw[hg]at hd;cases hd
 . cases hd
def X9(hh:HS N h0 h){ty:TypeId}{x:Option DV}{lo hi mx:Option (Option DV)}{r:DV}(hn:∀s,x=some (.v (.string s))->dD r=true/\(∀d,lo=some (some d)->dD d=true)/\(∀d,hi=some (some d)->dD d=true)/\(∀d,mx=some (some d)->dD d=true))
 (hd:de e.bf h0 ty x lo hi mx=some r):de e h ty (x.map (sh N)) (lo.map λd=>d.map (sh N)) (hi.map λd=>d.map (sh N)) (mx.map λd=>d.map (sh N))=some (sh N r):=by
 have hm:∀(y:Option (Option DV)),(∀d,y=some (some d)->dD d=true)->(y.map λd=>d.map (sh N))=y:=λy hy=>by
  cases y with
  |none=>rfl
  |some y=>cases y with
   |none=>rfl
   |some d=>simp only[yB,gP (hy d rfl)]
 unfold de at hd
 split at hd
 . obtain⟨h1,h2,h3,h4⟩:=hn _ rfl;rename_i s lo hi mx;rw[hm _ h2,hm _ h3,hm _ h4,gP h1];exact hd
 . rename_i x lo hi mx hx
   split at hd
   . rename_i aq av aw b1 b2 b3;simp only[yB];have key:=X8 hh hd;unfold de
     split
     . rename_i s _ _ _ e1 _ _ _;exfalso;simp only[qG]at e1;cases x<;>simp[bT,kj,jO,py,mq,nj]at e1;rename_i y;have:y=.string s:=by
        revert e1;unfold bY
        split<;>first|(intro h;cases h;done)|exact id
       subst this;exact hx s rfl
     . rename_i _ e1 e2 e3 e4;cases e1;cases e2;cases e3;cases e4;simp only[BQ b1,BQ b2,BQ b3];exact key
     . rename_i ak;exact(ak _ _ _ _ rfl rfl rfl rfl).elim
   . cases hd
 . cases hd
def BR{P:Program}{kt:TypeId}{k:Value}:∀{es:List bH} {r:Option DV},findD P kt k es=some r->findD P kt k (es.map (gq N))=some (r.map (sh N))
 |[],r,h=>by simp only[findD,qG]at h;subst h;rfl
 |x::es,r,h=>by
  simp only[findD]at h;simp only[E2,findD];have:(gq N x).key=x.key:=rfl;rw[this]
  split at h
  . cases h
  . cases h;rfl
  . exact BR h
def G7{ty:TypeId}{ok:Bool}{k:Value}{es:List bH}{r:DV}(hd:lK e.bf ty ok k es=some r):lK e ty ok k (es.map (gq N))=some (sh N r):=by
 unfold lK at hd;have hu:e.bf.under=e.under:=rfl;have hP:e.bf.P=e.P:=rfl;have hz:e.bf.zero=e.zero:=rfl;rw[hu,hP,hz]at hd
 split at hd
 . rename_i kt et h1;unfold lK;simp only[h1]
   split at hd
   . cases hd
   . rename_i kd h2
     split at hd
     . rename_i hc;rw[if_pos (by simpa using hc)]
       split at hd
       . cases hd
       . rename_i d h3;rw[BR h3];cases hd;cases ok<;>simp[jO,bT,bY]
       . rename_i h3;rw[BR h3];simp only[afy]
         split at hd
         . cases hd
         . rename_i z hz
           split at hd
           . rename_i hp;rw[if_pos hp];cases hd;cases ok<;>simp[jO,bT,bY,GU hp]
           . cases hd
     . cases hd
 . cases hd
def Ya(hh:HS N h0 h){ty:TypeId}{ok:Bool}{m k r:DV}(hk:dD k=true)(hd:lq e.bf h0 ty ok m k=some r):lq e h ty ok (sh N m) (sh N k)=some (sh N r):=by
 rw[gP hk];unfold lq at hd
 split at hd
 . rename_i kv ad;simp only[bT,bY,lq,ad];exact G7 (es:=[]) hd
 . rename_i b kv ad;simp only[bT,bY,lq,ad]
   split at hd
   . rename_i es c hg;rw[hh.mp hg];exact G7 hd
   . cases hd
 . cases hd
def G8(x:ab)(ty:TypeId)(v:Value):fV e.bf x ty v=fV e x ty v:=(rfl)
def Yb(hh:HS N h0 h){ty:TypeId}{d r:DV}(hd:iC e.bf h0 ty d=some r)(hn:dD r=true):iC e h ty (sh N d)=some (sh N r):=by
 have he:e.bf.elem ty=e.elem ty:=rfl;have hu:e.bf.under ty=e.under ty:=rfl;rw[gP hn];unfold iC at hd;rw[he,hu]at hd
 split at hd
 . simp only[mq,iC,RW]
   split at hd
   . exact hd
   . cases hd
 . rename_i a l c;have:∃a',sh N (.v (.slice a l c))=.v (.slice a' l c):=by cases a<;>exact⟨_,by simp only[bT,bY];rfl⟩
   obtain⟨a',ha⟩:=this;rw[ha]
   split at hd
   . rename_i s hs;simp only[iC,hs];exact hd
   . cases hd
 . simp only[bT,bY,iC];rw[<-G8];exact hd
 . simp only[bT,bY,iC];rw[<-G8];exact hd
 . rename_i b
   split at hd
   . rename_i k v es c an hg;simp only[bT,bY,iC,an,hh.mp hg,RW];exact hd
   . cases hd
 . cases hd
def Yc{op:BinOp}{ty:TypeId}{x y:Operand}{a b r:DV}(ha:dD a=true)(hb:dD b=true)(hr:dD r=true)(hd:jG e.bf op ty x y a b=some r):jG e op ty x y (sh N a) (sh N b)=some (sh N r):=by
 rw[gP ha,gP hb,gP hr];exact hd
def ym{place:Nat->Option (Nat×Nat)}:∀{ps:List (Nat×DV)} {cs r:List DV},kc place cs ps=some r->kc place (cs.map (sh N)) (ps.map (vX N))=some (r.map (sh N))
 |[],cs,r,h=>by simp only[kc,qG]at h;subst h;rfl
 |(i,v)::ps,cs,r,h=>by
  simp only[kc]at h;simp only[E2,vX,kc]
  split at h
  . cases h
  . rename_i off size hp
    split at h
    . rename_i hc;have:=ym h;simp only[ab8,Xy,YN]at this;simp only[BN,RW,vW];rw[if_pos hc];exact this
    . cases h
def od(e:Env)(ty:TypeId):Bool:=match e.zero ty with
 |some z=>z.cells.toList.all jm
 |none=>true
def Yd{ty:TypeId}{ps:List (Nat×DV)}{r:DV}(hz:od e ty=true)(hd:eD e.bf ty ps=some r):eD e ty (ps.map (vX N))=some (sh N r):=by
 unfold eD at hd⊢;have h1:e.bf.zero=e.zero:=rfl;have h2:e.bf.under=e.under:=rfl;have h3:e.bf.size=e.size:=rfl;have h4:kA e.bf=kA e:=rfl;rw[h1,h2,h3,h4]at hd;unfold od at hz
 split at hd
 . rename_i z fields g1 g2;rw[g1]at hz;simp only[KE]at hd⊢;obtain⟨cs,q1,rfl⟩:=hd;have:=ym (N:=N) q1;rw[tT hz]at this;exact⟨_,this,(kj _).symm⟩
 . rename_i z n elem g1 g2;rw[g1]at hz
   split at hd
   . cases hd
   . rename_i s hs;simp only[KE]at hd⊢;obtain⟨cs,q1,rfl⟩:=hd;have:=ym (N:=N) q1;rw[tT hz]at this;exact⟨_,this,(kj _).symm⟩
 . cases hd
def Ye{f:FuncId}{a c:Option (List DV)}{r:DV}(hd:nZ f a c=some r):nZ f (a.map λl=>l.map (sh N)) (c.map λl=>l.map (sh N))=some (sh N r):=by
 unfold nZ at hd
 split at hd
 . cases hd;simp only[yB,nZ,py]
 . cases hd
def G9{f:Option DV}{af:Option (List DV)}{g:FuncId}{l:List DV}(hd:jK f af=some (g,l)):jK (f.map (sh N)) (af.map λl=>l.map (sh N))=some (g,l.map (sh N)):=by
 unfold jK at hd
 split at hd
 . cases hd;simp only[yB,py,jK,ab8]
 . cases hd
def yn(ht:TS N t0 t){ops:List Oper}{o:Oper}{b:Bool}(hd:iW ops t0 o=some b):iW ops t o=some b:=by
 unfold iW at hd⊢
 split at hd
 . exact hd
 . split at hd
   . cases hd
   . rename_i j want _ d hj;rw[ht d]
     split at hd
     . rename_i hg;rw[hg];simp only[yB,bT,bY];exact hd
     . rename_i hg;rw[hg];simp only[yB,bT,bY];exact hd
     . rename_i hg;rw[hg];simp only[yB,jO];exact hd
     . cases hd
def isVal:Option DV->Bool
 |some (.v _)=>true
 |_=>false
def isStr:Option DV->Bool
 |some (.v (.string _))=>true
 |_=>false
def BS:Option (Option DV)->Bool
 |some (some d)=>dD d
 |_=>true
def jP(e:Env)(t:Tr DV)(op:Op)(r:DV):Bool:=match op with
 |.binOp _ _ x y _=>jn (aJ e t x)&&jn (aJ e t y)&&dD r
 |.unOp _ _ x=>jn (aJ e t x)&&dD r
 |.makeInterface _ x=>jn (aJ e t x)&&dD r
 |.convert s d x=>e.mi s d||(jn (aJ e t x)&&dD r)
 |.slice _ x lo hi mx=> !isStr (aJ e t x)||(dD r&&BS (eO e t lo)&&BS (eO e t hi)&&BS (eO e t mx))
 |.index _ x i=>jn (aJ e t i)&&(!isVal (aJ e t x)||(jn (aJ e t x)&&dD r))
 |.extract x _=> !isVal (aJ e t x)||dD r
 |.lookup _ _ k _=>jn (aJ e t k)
 |.build ty _=>od e ty
 |.call c=>dD r&&match c.callee with
  |.builtin .len=>true
  |_=>match cJ e t c.args.toList with|some l=>l.all dD|none=>true
 |_=>true
def Yf(hh:HS N h0 h)(ht:TS N t0 t){op:Op}{r:DV}(hg:jP e.bf t0 op r=true)(hd:ba e.bf h0 t0 op=some r):ba e h t op=some (sh N r):=by
 cases op with
 |move x=>exact eh ht hd
 |assign x=>exact eh ht hd
 |pick c a b=>
  simp only[ba,qw]at hd⊢
  split at hd
  . rename_i hc;simp only[eh ht hc,bT,bY];exact eh ht hd
  . rename_i hc;simp only[eh ht hc,bT,bY];exact eh ht hd
  . cases hd
 |build ty parts=>
  obtain⟨ps,h1,h2⟩:=FQ.1 hd;simp only[ba,BO ht h1,RK];exact Yd (e:=e) hg h2
 |load ty a=>
  obtain⟨x,h1,h2⟩:=FQ.1 hd;simp only[ba,eh ht h1,RK];exact GX hh h2
 |nilCheck x=>
  obtain⟨x,h1,h2⟩:=FQ.1 hd;simp only[ba,eh ht h1,RK];exact X6 h2
 |binOp o ty x y z=>
  simp only[ba,gO]at hd⊢
  split at hd
  . rename_i a b ha hb;simp only[jP,ha,hb,jn,Vs]at hg;simp only[eh ht ha,eh ht hb];exact Yc hg.1.1 hg.1.2 hg.2 hd
  . cases hd
 |unOp o ty x=>
  obtain⟨a,h1,h2⟩:=FQ.1 hd;simp only[jP,h1,jn,Vs]at hg;simp only[ba,eh ht h1,RK,gP hg.1,gP hg.2];exact h2
 |convert s d x=>
  obtain⟨a,h1,h2⟩:=FQ.1 hd;simp only[jP,h1,jn]at hg;simp only[ba,eh ht h1,RK];exact X7 hh hg h2
 |makeInterface ty x=>
  obtain⟨a,h1,h2⟩:=FQ.1 hd;simp only[jP,h1,jn,Vs]at hg;simp only[ba,eh ht h1,RK,gP hg.1,gP hg.2];exact h2
 |makeFunc fn first cap=>
  cases fn with
  |func f=>
   simp only[ba]at hd⊢;have key:=Ye (N:=N) hd;unfold nZ at hd
   split at hd
   . rename_i a c ha hc;rw[ha,hc]at key;rw[oc ht ha,oc ht hc];exact key
   . cases hd
  |_=>cases hd
 |slice ty x lo hi mx=>
  simp only[ba]at hd⊢;obtain⟨a,ha⟩:∃y,aJ e.bf t0 x=some y:=by
   cases hq:aJ e.bf t0 x with
   |none=>rw[hq]at hd;unfold de at hd;split at hd<;>simp_all
   |some y=>exact⟨y,rfl⟩
  rw[ha]at hd;obtain⟨l,hl⟩:∃y,eO e.bf t0 lo=some y:=by
   cases hq:eO e.bf t0 lo with
   |none=>rw[hq]at hd;unfold de at hd;split at hd<;>simp_all
   |some y=>exact⟨y,rfl⟩
  rw[hl]at hd;obtain⟨m,hm⟩:∃y,eO e.bf t0 hi=some y:=by
   cases hq:eO e.bf t0 hi with
   |none=>rw[hq]at hd;unfold de at hd;split at hd<;>simp_all
   |some y=>exact⟨y,rfl⟩
  rw[hm]at hd;obtain⟨n,hn⟩:∃y,eO e.bf t0 mx=some y:=by
   cases hq:eO e.bf t0 mx with
   |none=>rw[hq]at hd;unfold de at hd;split at hd<;>simp_all
   |some y=>exact⟨y,rfl⟩
  rw[hn]at hd;rw[eh ht ha,BP ht hl,BP ht hm,BP ht hn];refine X9 (e:=e) hh (x:=some a) (lo:=some l) (hi:=some m) (mx:=some n) (λs hs=> ?_) hd;cases hs;simp only[jP,ha,hl,hm,hn,isStr,Bool.not_true,Bool.false_or,Vs]at hg;refine⟨hg.1.1.1,λd hd=> ?_,λd hd=> ?_,λd hd=> ?_⟩
  . cases hd;exact hg.1.1.2
  . cases hd;exact hg.1.2
  . cases hd;exact hg.2
 |fieldAddr s x f=>
  obtain⟨a,h1,h2⟩:=FQ.1 hd;simp only[ba,eh ht h1,RK];exact XU h2
 |field ty x f=>
  obtain⟨a,h1,h2⟩:=FQ.1 hd;simp only[ba,eh ht h1,RK];exact XV h2
 |indexAddr ty x ix=>
  simp only[ba,gO]at hd⊢
  split at hd
  . rename_i a b ha hb;simp only[eh ht ha,eh ht hb];exact XZ hd
  . cases hd
 |index ty x ix=>
  simp only[ba,gO]at hd⊢
  split at hd
  . rename_i a b ha hb;simp only[jP,ha,hb,jn,Vs]at hg;simp only[eh ht ha,eh ht hb];refine X0 hg.1 (λx hx=> ?_) hd;subst hx;simpa[isVal]using hg.2
  . cases hd
 |lookup ty m k ok=>
  simp only[ba,gO]at hd⊢
  split at hd
  . rename_i a b ha hb;simp only[jP,hb,jn]at hg;simp only[eh ht ha,eh ht hb];exact Ya hh hg hd
  . cases hd
 |extract x i=>
  obtain⟨a,h1,h2⟩:=FQ.1 hd;simp only[ba,eh ht h1,RK];refine X5 h2 λx hx=> ?_;subst hx;simpa[jP,h1,isVal]using hg
 |call c=>
  obtain⟨callee,args,az⟩:=c;have hl:∀l:List DV,l.all dD=true->l.map (sh N)=l:=λl hl=>by
   simp only[adr]at hl;exact(afC λd hd=>gP (hl d hd)).trans (List.map_id' l)
  cases callee with
  |builtin b=>
   cases b with
   |len=>
    simp only[ba]at hd⊢;simp only[jP,Bool.and_true]at hg;unfold pq at hd
    split at hd
    . rename_i x hx
      split at hd
      . cases hd
      . rename_i ty ao;rw[oc ht hx];simp only[E2,RC,pq,ao];exact Yb hh hd hg
    . cases hd
   |min=>
    simp only[ba]at hd⊢;obtain⟨vs,h1,h2⟩:=FQ.1 hd;obtain⟨l,h3,h4⟩:=FQ.1 h1;simp only[jP,h3,Vs]at hg;rw[oc ht h3,hl l hg.2,gP hg.1];simp only[RK,h4];exact h2
   |max=>
    simp only[ba]at hd⊢;obtain⟨vs,h1,h2⟩:=FQ.1 hd;obtain⟨l,h3,h4⟩:=FQ.1 h1;simp only[jP,h3,Vs]at hg;rw[oc ht h3,hl l hg.2,gP hg.1];simp only[RK,h4];exact h2
   |_=>cases hd
  |_=>cases hd
 |_=>cases hd
end Go.aD
end
noncomputable section
namespace Go.aD
variable {e:Env} {N:Nat} {t0 t:Tr DV} {h0 h:ae}
def vY(e:Env):Op->Bool
 |.alloc ty=>od e ty
 |.buildSlice st _ _=>match e.under st with|some (.slice el)=>od e el|_=>false
 |.makeSlice st _ _=>match e.under st with|some (.slice el)=>od e el|_=>false
 |_=>true
def Ha{zs:List Value}{n:Nat}(h:zs.all jm=true):(ey zs n).all jm=true:=by
 simp only[adr]at h⊢;intro x hx;simp only[ey,adv,afH]at hx;obtain⟨i,_,rfl⟩:=hx;cases hq:zs[i%zs.length]? with
 |none=>rfl
 |some y=>exact h y (afD hq)
def BU{ty:TypeId}{z:Value}(h:od e ty=true)(hz:e.zero ty=some z):z.cells.toList.all jm=true:=by
 unfold od at h;rw[hz]at h;exact h
def Hb(ht:TS N t0 t){op:Op}{o:bF}{f:Nat->DV}(hg:vY e op=true)(hd:dX e.bf t0 op=some (o,f)):∃f',dX e t op=some (gB N o,f')/\∀i,f' (i+N)=sh N (f i):=by
 have h1:e.bf.zero=e.zero:=rfl;have h2:e.bf.under=e.under:=rfl;have h3:e.bf.size=e.size:=rfl;have h4:e.bf.bytes=e.bytes:=rfl;have hp:∀i,(DV.v (.pointer (some ⟨i+N,0,none⟩)))=sh N (DV.v (.pointer (some ⟨i,0,none⟩))):=λi=>by simp only[bT,bY,eR]
 have hs:∀i a b,(DV.v (.slice (some ⟨i+N,0,none⟩) a b))=sh N (DV.v (.slice (some ⟨i,0,none⟩) a b)):=λi a b=>by simp only[bT,bY,eR]
 cases op with
 |alloc ty=>
  simp only[dX]at hd⊢;rw[h1]at hd
  split at hd
  . cases hd
  . rename_i z hz;simp only[qG,yy]at hd;obtain⟨rfl,rfl⟩:=hd;refine⟨λi=>.v (.pointer (some ⟨i,0,none⟩)), ?_,hp⟩;simp only[gB,tT (BU hg hz)]
 |box ty x=>
  simp only[dX]at hd⊢
  split at hd
  . cases hd
  . rename_i d hx;rw[eh ht hx];simp only[BN,vW]
    split at hd
    . simp only[qG,yy]at hd;obtain⟨rfl,rfl⟩:=hd;rename_i hb;exact⟨λi=>.v (.pointer (some ⟨i,0,none⟩)),if_pos hb,hp⟩
    . cases hd
 |buildSlice st n parts=>
  simp only[dX]at hd⊢;rw[h2]at hd
  split at hd
  . rename_i elem ps hu ak;simp only[vY,hu]at hg;rw[BO ht ak];rw[h3,h1]at hd;simp only[hu]
    split at hd
    . rename_i s z an hz
      split at hd
      . rename_i hc;rw[if_pos hc]
        split at hd
        . cases hd
        . rename_i cs hf;simp only[qG,yy]at hd;obtain⟨rfl,rfl⟩:=hd;have:=ym (N:=N) hf;rw[tT (Ha (BU hg hz))]at this;rw[this];exact⟨_,rfl,λi=>hs i _ _⟩
      . cases hd
    . cases hd
  . cases hd
 |makeMap ty x=>
  cases x with
  |none=>
   simp only[dX,qG,yy]at hd⊢;obtain⟨rfl,rfl⟩:=hd;exact⟨_,⟨rfl,rfl⟩,λi=>by simp only[bT,bY]⟩
  |some x=>cases hd
 |makeSlice st l c=>
  simp only[dX]at hd⊢;rw[h2]at hd;have hi:∀(x:Operand) (n:Int),(aJ e.bf t0 x).bind exact=some (.int .i64 n)->(aJ e t x).bind exact=some (.int .i64 n):=λx n hx=>by
   obtain⟨d,q1,q2⟩:=FQ.1 hx;rw[eh ht q1];cases d with
   |v w=>simp only[exact,qG]at q2;subst q2;simp only[bT,bY];rfl
   |agg l=>simp[exact]at q2
   |_=>simp[exact]at q2
  split at hd
  . rename_i elem l' c' hu hl hc;simp only[vY,hu]at hg;rw[hi _ _ hl,hi _ _ hc];rw[h3,h1,h4]at hd;simp only[hu]
    split at hd
    . rename_i s z b an hz hb
      split at hd
      . rename_i hc;rw[if_pos hc];simp only[qG,yy]at hd;obtain⟨rfl,rfl⟩:=hd;refine⟨λi=>.v (.slice (some ⟨i,0,none⟩) l'.toNat c'.toNat), ?_,λi=>hs i _ _⟩;simp only[gB,tT (Ha (BU hg hz))]
      . cases hd
    . cases hd
  . cases hd
 |_=>cases hd
def Yg(hh:HS N h0 h){ty:TypeId}{p d:Option DV}{h1:ae}{b:Nat}(hd:lM e.bf h0 ty p d=some (h1,b)):∃h',lM e h ty (p.map (sh N)) (d.map (sh N))=some (h',b+N)/\HS N h1 h':=by
 have h3:e.bf.size=e.size:=rfl;unfold lM at hd
 split at hd
 . rename_i b' o d;rw[h3]at hd
   split at hd
   . rename_i cs aj n hg hs
     split at hd
     . rename_i hc;simp only[qG,yy]at hd;obtain⟨rfl,rfl⟩:=hd;refine⟨_, ?_,HS.set hh _ _⟩;simp only[yB,bT,bY,eR,lM,hh.row hg,hs,BN,RW,vW];rw[if_pos hc];simp only[gB,ab8,Xy,YN]
     . cases hd
   . cases hd
 . cases hd
def BV{P:Program}{kt:TypeId}{k:Value}:∀{es:List bH} {r:Option Nat} (i:Nat),m9 P kt k es i=some r->m9 P kt k (es.map (gq N)) i=some r
 |[],r,i,h=>h
 |x::es,r,i,h=>by
  simp only[m9]at h;simp only[E2,m9];have:(gq N x).key=x.key:=rfl;rw[this]
  split at h
  . cases h
  . exact h
  . exact BV (i+1) h
def Yh{es:List bH}{k:Value}{d:DV}(i:Nat):(es.modify i λx=>{x with key:=k,val:=d}).map (gq N)=(es.map (gq N)).modify i λx=>{x with key:=k,val:=sh N d}:=by
 induction es generalizing i with
 |nil=>cases i<;>rfl
 |cons x es ih=>cases i with
  |zero=>rfl
  |succ i=>simp only[List.modify_succ_cons,E2,ih]
def Yi{ty:TypeId}{k:Value}{d:DV}{es:List bH}{clock:Nat}{o:bF}(hd:kM e.bf ty k d es clock=some o):kM e ty k (sh N d) (es.map (gq N)) clock=some (gB N o):=by
 unfold kM at hd;have hu:e.bf.under=e.under:=rfl;have hP:e.bf.P=e.P:=rfl;rw[hu,hP]at hd;unfold kM
 split at hd
 . rename_i kt et h1
   split at hd
   . cases hd
   . rename_i kd h2
     split at hd
     . rename_i hc;rw[if_pos hc]
       split at hd
       . cases hd
       . rename_i i h3;rw[BV 0 h3];have:((es.map (gq N))[i]?).map (·.key)=(es[i]?).map (·.key):=by
          rw[Zf,Option.map_map];rfl
         simp only[this]
         split at hd
         . rename_i hs;rw[if_pos hs];cases hd;simp only[gB,Yh]
         . cases hd
       . rename_i h3;rw[BV 0 h3];cases hd;simp only[gB,ab8,E2,RC,gq]
     . cases hd
 . cases hd
def Yj(hh:HS N h0 h){ty:TypeId}{m k d:Option DV}{h1:ae}{b:Nat}(hk:jn k=true)(hd:jI e.bf h0 ty m k d=some (h1,b)):∃h',jI e h ty (m.map (sh N)) (k.map (sh N)) (d.map (sh N))=some (h',b+N)/\HS N h1 h':=by
 unfold jI at hd
 split at hd
 . rename_i r k d
   split at hd
   . rename_i es clock kv hg ao;simp only[KE]at hd;obtain⟨o,h4,h5⟩:=hd;simp only[yy]at h5;obtain⟨rfl,rfl⟩:=h5;refine⟨_, ?_,HS.set hh _ _⟩;have hk:dD k=true:=hk;simp only[yB,gP hk,bT,bY,jI,hh.mp hg,ao,Yi h4]
   . cases hd
 . cases hd
def Yk(hh:HS N h0 h){base:Option Addr}{len cap sz b n:Nat}{new:List DV}{d:DV}{h1:ae}{T:List Nat}(hd:eP h0 base len cap sz b n new=some (d,h1,T)):
 ∃h',eP h (base.map (eR N)) len cap sz b n (new.map (sh N))=some (sh N d,h',T.map (·+N))/\HS N h1 h':=by
 unfold eP at hd
 split at hd
 . rename_i hle
   split at hd
   . rename_i hn;simp only[qG,yy]at hd;obtain⟨rfl,rfl,rfl⟩:=hd;refine⟨h, ?_,hh⟩;unfold eP;rw[if_pos hle,if_pos hn];cases base<;>simp only[afy,yB,bT,bY,RC]
   . rename_i hn
     split at hd
     . rename_i i o
       split at hd
       . rename_i cs aj hg
         split at hd
         . rename_i hc;simp only[qG,yy]at hd;obtain⟨rfl,rfl,rfl⟩:=hd;refine⟨_, ?_,HS.set hh _ _⟩;unfold eP;rw[if_pos hle,if_neg hn];simp only[yB,eR,hh.row hg,RW,vW];rw[if_pos hc];simp only[bT,bY,eR,gB,ab8,Xy,YN,E2,RC]
         . cases hd
       . cases hd
     . cases hd
 . rename_i hle
   split at hd
   . rename_i hb
     split at hd
     . split at hd
       . rename_i hc;simp only[qG,yy]at hd;obtain⟨rfl,rfl,rfl⟩:=hd;refine⟨_, ?_,HS.new hh _⟩;unfold eP;rw[if_neg hle,if_pos hb];simp only[afy];rw[if_pos hc];simp only[bT,bY,eR,gB,hh.next,RC]
       . cases hd
     . rename_i i o
       split at hd
       . rename_i cs wr aj hg
         split at hd
         . rename_i hl
           split at hd
           . rename_i hc;simp only[qG,yy]at hd;obtain⟨rfl,rfl,rfl⟩:=hd;refine⟨_, ?_,HS.new hh _⟩;unfold eP;rw[if_neg hle,if_pos hb];simp only[yB,eR,hh.row hg,RW];rw[if_pos hl,if_pos hc];simp only[bT,bY,eR,gB,hh.next,ab8,Xy,YN,RC]
           . rename_i hc
             split at hd
             . rename_i aq;simp only[qG,yy]at hd;obtain⟨rfl,rfl,rfl⟩:=hd;refine⟨_, ?_,HS.new (HS.set hh i none) _⟩;unfold eP;rw[if_neg hle,if_pos hb];simp only[yB,eR,hh.row hg,RW,vW];rw[if_pos hl,if_neg hc,if_pos aq];simp only[bT,bY,eR,gB,hh.next,ab8,Xy,YN,RC,E2,afy]
             . cases hd
         . cases hd
       . cases hd
     . cases hd
   . cases hd
def Yl(hh:HS N h0 h){ad:Array TypeId}{ds:Option (List DV)}{d:DV}{h1:ae}{T:List Nat}(hd:jJ e.bf h0 ad ds=some (d,h1,T)):
 ∃h',jJ e h ad (ds.map λl=>l.map (sh N))=some (sh N d,h',T.map (·+N))/\HS N h1 h':=by
 have ha:e.bf.ap=e.ap:=rfl;have he:e.bf.elem=e.elem:=rfl;unfold jJ at hd
 split at hd
 . rename_i base len cap x
   split at hd
   . rename_i st xt h2 h3;rw[ha,he]at hd
     split at hd
     . rename_i sz b u h4 h5
       split at hd
       . rename_i n new h6;obtain⟨h',q1,q2⟩:=Yk hh hd;refine⟨h', ?_,q2⟩;have:∃aa,sh N (.v (.slice base len cap))=.v (.slice aa len cap)/\aa=base.map (eR N):=by
          cases base
          . exact⟨_,by simp only[bT,bY];rfl,rfl⟩
          . exact⟨_,by simp only[bT,bY];rfl,rfl⟩
         obtain⟨aa,q3,q4⟩:=this;subst q4;simp only[yB,E2,RC,q3,jJ,h2,h3,h4,h5,G5 hh h6];exact q1
       . cases hd
     . cases hd
   . cases hd
 . cases hd
def Ym(hh:HS N h0 h){ty:TypeId}{x:DV}{o:bF}(hd:lO e.bf h0 ty x=some o):lO e h ty (sh N x)=some (gB N o):=by
 have hu:e.bf.under=e.under:=rfl;unfold lO at hd;rw[hu]at hd
 split at hd
 . rename_i h1;cases hd;simp only[bT,bY,lO,h1,gB]
 . rename_i h1;cases hd;simp only[bT,bY,lO,h1,gB,afy]
 . rename_i h1
   split at hd
   . rename_i hg;cases hd;simp only[bT,bY,lO,h1,hh.mp hg,gB,yB]
   . cases hd
 . cases hd
def Hd:DV->Bool
 |.bp [_,k,_]=>dD k
 |_=>true
def yo{f:bH->Bool}(hf:∀x,f (gq N x)=f x)(es:List bH):(es.map (gq N)).filter f=(es.filter f).map (gq N):=by
 induction es with
 |nil=>rfl
 |cons x es ih=>
  simp only[E2,afI,hf x,ih]
  split<;>rfl
def Yn(hh:HS N h0 h){it v:DV}{s:Bool}{h1:ae}{r:Nat}(hn:Hd v=true)(hd:kN h0 it s=some (v,h1,r)):∃h',kN h (sh N it) s=some (sh N v,h',r+N)/\HS N h1 h':=by
 unfold kN at hd
 split at hd
 . rename_i b
   split at hd
   . rename_i st pos hg;have ab:h.get (b+N)=some (.eY st pos):=by rw[hh.get,hg];rfl
     split at hd
     . rename_i hc;simp only[qG,yy]at hd;obtain⟨rfl,rfl,rfl⟩:=hd;refine⟨_, ?_,HS.set hh _ _⟩;simp only[bT,bY,eR,kN,ab];rw[if_pos hc];simp only[jO,E2,RC,bT,bY,gB,yB]
     . rename_i hc;simp only[qG,yy]at hd;obtain⟨rfl,rfl,rfl⟩:=hd;refine⟨h, ?_,hh⟩;simp only[bT,bY,eR,kN,ab];rw[if_neg hc];simp only[jO,E2,RC,bT,bY]
   . rename_i a b' c hg;simp only[qG,yy]at hd;obtain⟨rfl,rfl,rfl⟩:=hd;have ab:h.get (b+N)=some (.cF none a b' c):=by rw[hh.get,hg];rfl
     refine⟨h, ?_,hh⟩;simp only[bT,bY,eR,kN,ab,jO,E2,RC]
   . rename_i m since seen last hg;have ab:h.get (b+N)=some (.cF (some (m+N)) since seen last):=by rw[hh.get,hg];rfl
     split at hd
     . rename_i es clock hm
       split at hd
       . cases hd
       . rename_i hc;have af:¬(!seen.isEmpty&& !(es.map (gq N)).isEmpty&&(es.map (gq N)).all λx=>afv last x.born)=true:=by
          have h1:(es.map (gq N)).isEmpty=es.isEmpty:=by cases es<;>rfl
          have h2:((es.map (gq N)).all λx=>afv last x.born)=es.all λx=>afv last x.born:=by rw[List.all_map];rfl
          rw[h1,h2];exact hc
         have ah:((es.map (gq N)).filter λx=> !seen.contains x.born).filter (λx=>decide (x.born<since))=((es.filter λx=> !seen.contains x.born).filter λx=>decide (x.born<since)).map (gq N):=by
          rw[yo (λx=>rfl),yo (λx=>rfl)]
         have ai:((es.map (gq N)).filter λx=> !seen.contains x.born).filter (λx=>decide (x.born>=since))=((es.filter λx=> !seen.contains x.born).filter λx=>decide (x.born>=since)).map (gq N):=by
          rw[yo (λx=>rfl),yo (λx=>rfl)]
         split at hd
         . rename_i e1 e2;simp only[qG,yy]at hd;obtain⟨rfl,rfl,rfl⟩:=hd;refine⟨h, ?_,hh⟩;simp only[bT,bY,eR,kN,ab,hh.mp hm];rw[if_neg af,ah,ai,e1,e2];simp only[jO,E2,RC,bT,bY]
         . rename_i x e1 e2;simp only[qG,yy]at hd;obtain⟨rfl,rfl,rfl⟩:=hd;refine⟨_, ?_,HS.set hh _ _⟩;simp only[bT,bY,eR,kN,ab,hh.mp hm];rw[if_neg af,ah,ai,e1,e2];have hk:dD (fZ x.key)=true:=hn;have av:fZ (gq N x).key=sh N (fZ x.key):=(gP hk).symm;simp only[jO,E2,RC,bT,bY,av,gB,yB];rfl
         . cases hd
     . cases hd
   . cases hd
 . cases hd
end Go.aD
end
noncomputable section
namespace Go.aD
abbrev Yo:=FuncId->List DV->ae->Option (DV×ae)
abbrev jo:=FuncId->List DV->ae->Option (DV×ae×List Nat)
def jq(e:Env)(h:ae)(t:Tr DV)(op:Op):Option DV:=match ba e h t op with
 |none=>none
 |some r=>bif jP e t op r then some r else none
def oe(e:Env)(t:Tr DV)(dd:List FuncId)(h:ae)(op:Op):Option (DV×List FuncId×ae×List Nat):=
 bif vY e op then match dX e t op with
  |none=>none
  |some (o,f)=>some (f h.next,dd,h.new o,[])
 else none
def yp(e:Env)(t:Tr DV)(dd:List FuncId)(h:ae)(ty:TypeId)(m k v:Operand):Option (DV×List FuncId×ae×List Nat):=
 bif jn (aJ e t k)then match jI e h ty (aJ e t m) (aJ e t k) (aJ e t v)with
  |none=>none
  |some (h,b)=>some (cU,dd,h,[b])
 else none
def pz(e:Env)(cf:jo)(op:Op)(t:Tr DV)(dd:List FuncId)(h:ae):Option (DV×List FuncId×ae×List Nat):=
 match op with
 |.alloc ty=>oe e t dd h (.alloc ty)
 |.box ty x=>oe e t dd h (.box ty x)
 |.buildSlice ty n ps=>oe e t dd h (.buildSlice ty n ps)
 |.makeMap ty n=>oe e t dd h (.makeMap ty n)
 |.makeSlice ty l c=>oe e t dd h (.makeSlice ty l c)
 |.store ty a x=>match lM e h ty (aJ e t a) (aJ e t x)with
  |none=>none
  |some (h,b)=>some (cU,dd,h,[b])
 |.mapUpdate ty m k v=>yp e t dd h ty m k v
 |.insert ty m k v=>yp e t dd h ty m k v
 |.range ty x=>match(aJ e t x).bind (lO e h ty)with
  |none=>none
  |some o=>some (.v (.pointer (some ⟨h.next,0,none⟩)),dd,h.new o,[])
 |.next it s=>match(aJ e t it).bind (kN h · s)with
  |none=>none
  |some (v,h,r)=>bif Hd v then some (v,dd,h,[r])else none
 |.defer c=>match c.callee with
  |.value f=>match jK (aJ e t f) (cJ e t c.args.toList)with
   |none=>none
   |some (g,_)=>some (cU,g::dd,h,[])
  |_=>none
 |.call c=>match c.callee with
  |.value f=>match jK (aJ e t f) (cJ e t c.args.toList)with
   |none=>none
   |some (g,l)=>match cf g l h with
    |none=>none
    |some (v,h,T)=>some (v,dd,h,T)
  |.builtin .append=>match jJ e h c.argTypes (cJ e t c.args.toList)with
   |none=>none
   |some (v,h,T)=>some (v,dd,h,T)
  |_=>match jq e h t (.call c)with
   |none=>none
   |some v=>some (v,dd,h,[])
 |op=>match jq e h t op with
  |none=>none
  |some v=>some (v,dd,h,[])
def fin(dd:List FuncId)(h:ae):Option DV->Option (DV×List FuncId×ae×List Nat)
 |none=>none
 |some v=>some (v,dd,h,[])
def tU(b:DV->Bool):Option DV->Option DV
 |none=>none
 |some r=>bif b r then some r else none
def Yp(e:Env)(t:Tr DV)(c a b:Operand):Option DV:=qw (aJ e t c) (aJ e t a) (aJ e t b)
def Hf(e:Env)(t:Tr DV)(ty:TypeId)(ps:Array (Nat×Operand)):Option DV:=bif od e ty then(match gb e t ps.toList with|none=>none|some l=>eD e ty l)else none
def Hg(e:Env)(t:Tr DV)(o:UnOp)(x:Operand):Option DV:=match aJ e t x with
 |none=>none
 |some a=>bif dD a then tU dD (lJ (nR e o) a)else none
def Yq(e:Env)(t:Tr DV)(dd:List FuncId)(h:ae)(cf:jo)(f:Operand)(an:Array Operand):Option (DV×List FuncId×ae×List Nat):=match jK (aJ e t f) (cJ e t an.toList)with
 |none=>none
 |some (g,l)=>match cf g l h with
  |none=>none
  |some (v,h,T)=>some (v,dd,h,T)
def Yr(e:Env)(t:Tr DV)(dd:List FuncId)(h:ae)(cf:jo)(c:Call):Option (DV×List FuncId×ae×List Nat):=match c.callee with
 |.value f=>Yq e t dd h cf f c.args
 |.builtin .append=>(match jJ e h c.argTypes (cJ e t c.args.toList)with
  |none=>none
  |some (v,h,T)=>some (v,dd,h,T))
 |_=>fin dd h (jq e h t (.call c))
def Ys(e:Env)(t:Tr DV)(dd:List FuncId)(h:ae)(ty:TypeId)(a x:Operand):Option (DV×List FuncId×ae×List Nat):=match lM e h ty (aJ e t a) (aJ e t x)with
 |none=>none
 |some (h,b)=>some (cU,dd,h,[b])
def nk:Operand->Env->Tr DV->Option DV
 |.tmp i=>λ_ t=>t.get i
 |.const v=>λ_ _=>bif plain v then some (fZ v)else none
 |.global g=>λe _=>bif afw g e.oD then(if g=dW then some (.ptr qt 0)else none)else none
 |.func f=>λ_ _=>some (.fn f [] [])
def pA(o:Operand)(e:Env)(t:Tr DV):nk o e t=aJ e t o:=by cases o<;>rfl
abbrev kl:=Env->jo->Tr DV->List FuncId->ae->Option (DV×List FuncId×ae×List Nat)
def yq(x:Operand):kl:=λe _ t dd h=>fin dd h (nk x e t)
def Yt(c a b:Operand):kl:=λe _ t dd h=>fin dd h (Yp e t c a b)
def Yu(ty:TypeId)(ps:Array (Nat×Operand)):kl:=λe _ t dd h=>fin dd h (Hf e t ty ps)
def Hh(ty:TypeId)(a:Operand):kl:=λe _ t dd h=>match nk a e t with|none=>none|some d=>fin dd h (ji e h ty d)
def Hi(a:Operand):kl:=λe _ t dd h=>match nk a e t with|none=>none|some d=>fin dd h (lp d)
def Hj(o:BinOp)(ty:TypeId)(x y:Operand):kl:=λe _ t dd h=>match nk x e t with
 |none=>none
 |some a=>match nk y e t with
  |none=>none
  |some b=>bif dD a&&dD b then fin dd h (tU dD (jG e o ty x y a b))else none
def Yv(o:UnOp)(x:Operand):kl:=λe _ t dd h=>fin dd h (Hg e t o x)
def Hk(s:TypeId)(x:Operand)(f:Nat):kl:=λe _ t dd h=>match nk x e t with|none=>none|some d=>fin dd h (kK e s f d)
def Hl(s:TypeId)(x:Operand)(f:Nat):kl:=λe _ t dd h=>match nk x e t with|none=>none|some d=>fin dd h (qu e s f d)
def Hm(ty:TypeId)(x ix:Operand):kl:=λe _ t dd h=>match nk x e t with
 |none=>none
 |some a=>match nk ix e t with
  |none=>none
  |some b=>fin dd h (gZ e ty a (gd b))
def Ho(x:Operand)(i:Nat):kl:=λe _ t dd h=>match nk x e t with
 |none=>none
 |some d=>fin dd h (tU (λr=> !isVal (some d)||dD r) (mh i d))
def Yw(ty:TypeId)(a x:Operand):kl:=λe _ t dd h=>Ys e t dd h ty a x
def Yx(c:Call):kl:=λe cf t dd h=>Yr e t dd h cf c
def Hp(op:Op):kl:=λe _ t dd h=>oe e t dd h op
def Yy(op:Op):kl:=λe cf t dd h=>pz e cf op t dd h
def mr(op:Op):kl:=
 match op with
 |.move x=>yq x
 |.assign x=>yq x
 |.pick c a b=>Yt c a b
 |.build ty ps=>Yu ty ps
 |.load ty a=>Hh ty a
 |.nilCheck a=>Hi a
 |.binOp o ty x y _=>Hj o ty x y
 |.unOp o _ x=>Yv o x
 |.fieldAddr s x f=>Hk s x f
 |.field s x f=>Hl s x f
 |.indexAddr ty x ix=>Hm ty x ix
 |.extract x i=>Ho x i
 |.store ty a x=>Yw ty a x
 |.call c=>Yx c
 |.alloc ty=>Hp (.alloc ty)
 |.box ty x=>Hp (.box ty x)
 |op=>Yy op
def lR(e:Env)(cf:jo)(op:Op)(t:Tr DV)(dd:List FuncId)(h:ae):Option (DV×List FuncId×ae×List Nat):=mr op e cf t dd h
def Hq(e:Env)(cf:jo)(op:Op)(t:Tr DV)(dd:List FuncId)(h:ae):lR e cf op t dd h=pz e cf op t dd h:=by
 have key:∀op r,jq e h t op=r->(match jq e h t op with|none=>none|some v=>some (v,dd,h,([]:List Nat)))=fin dd h r:=λop r hr=>by subst hr;cases jq e h t op<;>rfl
 have af:∀(x:Option DV),(match x with|none=>none|some r=>bif true then some r else none)=x:=λx=>by cases x<;>rfl
 cases op with
 |move x=>
  refine YT ?_ (key (.move x) _ (af _)).symm;simp only[lR,mr,yq,pA,ba]
 |assign x=>
  refine YT ?_ (key (.assign x) _ (af _)).symm;simp only[lR,mr,yq,pA,ba]
 |pick c a b=>exact(key (.pick c a b) _ (af _)).symm
 |build ty ps=>
  refine(key (.build ty ps) _ ?_).symm;simp only[jq,ba,jP,Hf];cases gb e t ps.toList<;>simp
  . cases eD e ty _<;>cases od e ty<;>rfl
 |load ty a=>
  refine YT ?_ (key (.load ty a) _ (af _)).symm;simp only[lR,mr,Hh,pA,ba];cases aJ e t a<;>rfl
 |nilCheck a=>
  refine YT ?_ (key (.nilCheck a) _ (af _)).symm;simp only[lR,mr,Hi,pA,ba];cases aJ e t a<;>rfl
 |binOp o ty x y z=>
  refine YT ?_ (key (.binOp o ty x y z) _ rfl).symm;simp only[lR,mr,Hj,pA,jq,ba,jP,gO];cases aJ e t x<;>cases aJ e t y<;>simp[jn,fin];rename_i a b;cases jG e o ty x y a b<;>cases dD a<;>cases dD b<;>simp[tU,fin]
 |unOp o ty x=>
  refine(key (.unOp o ty x) _ ?_).symm;simp only[jq,ba,jP,Hg];cases aJ e t x<;>simp[jn];rename_i a;cases lJ (nR e o) a<;>cases dD a<;>simp[tU]
 |fieldAddr s x f=>
  refine YT ?_ (key (.fieldAddr s x f) _ (af _)).symm;simp only[lR,mr,Hk,pA,ba];cases aJ e t x<;>rfl
 |field s x f=>
  refine YT ?_ (key (.field s x f) _ (af _)).symm;simp only[lR,mr,Hl,pA,ba];cases aJ e t x<;>rfl
 |indexAddr ty x ix=>
  refine YT ?_ (key (.indexAddr ty x ix) _ (af _)).symm;simp only[lR,mr,Hm,pA,ba,gO];cases aJ e t x<;>cases aJ e t ix<;>rfl
 |extract x i=>
  refine YT ?_ (key (.extract x i) _ rfl).symm;simp only[lR,mr,Ho,pA,jq,ba,jP];cases aJ e t x<;>simp[fin];rename_i d;cases mh i d<;>simp[tU]
 |store ty a x=>rfl
 |call c=>
  obtain⟨callee,args,ah⟩:=c;cases callee with
  |value f=>rfl
  |builtin b=>cases b<;>first|rfl|exact(key (.call ⟨.builtin _,args,ah⟩) _ rfl).symm
  |invoke a b=>exact(key (.call ⟨.invoke a b,args,ah⟩) _ rfl).symm
 |_=>rfl
def vZ(dst:Option Tmp)(n:Nat):Bool:=match dst with
 |none=>true
 |some d=>afw d n
def so(e:Env)(cf:jo)(all:List Oper):List Oper->Tr DV->Nat->List FuncId->ae->Option DS
 |[],t,n,dd,h=>some ⟨t,n,dd,h⟩
 |o::r,t,n,dd,h=>bif vZ o.dst n then match iW all t o with
  |none=>none
  |some true=>match lR e cf o.op t dd h with
   |none=>none
   |some (v,dd,h,_)=>so e cf all r (cH o.dst v t) n dd h
  |some false=>so e cf all r (cH o.dst cU t) n dd h
  else none
abbrev wa:=Tr DV->Nat->List FuncId->ae->Option DS
def Yz(ih:wa)(dst:Option Tmp)(n:Nat)(t:Tr DV):Option (DV×List FuncId×ae×List Nat)->Option DS
 |none=>none
 |some (v,dd,h,_)=>ih (cH dst v t) n dd h
def BW(e:Env)(cf:jo)(all:List Oper)(o:Oper)(ih:wa):wa:=λt n dd h=>bif vZ o.dst n then match iW all t o with
 |none=>none
 |some true=>Yz ih o.dst n t (mr o.op e cf t dd h)
 |some false=>ih (cH o.dst cU t) n dd h
 else none
def ql(e:Env)(cf:jo)(all:List Oper)(l:List Oper):wa:=List.rec (motive:=λ_=>wa) (λt n dd h=>some ⟨t,n,dd,h⟩) (λo _ ih=>BW e cf all o ih) l
def Hr(e:Env)(cf:jo)(all:List Oper):∀(l:List Oper) (t:Tr DV) (n:Nat) (dd:List FuncId) (h:ae),ql e cf all l t n dd h=so e cf all l t n dd h
 |[],_,_,_,_=>rfl
 |o::r,t,n,dd,h=>by
  have ih:=Hr e cf all r;show BW e cf all o (ql e cf all r) t n dd h=_;unfold BW;simp only[so];cases vZ o.dst n<;>simp;cases iW all t o with
  |none=>rfl
  |some w=>cases w with
   |true=>
    simp only[lR];cases mr o.op e cf t dd h with
    |none=>rfl
    |some q=>exact ih _ _ _ _
   |false=>exact ih _ _ _ _
def iF(N0:Nat)(T:List Nat):Option Nat->Bool
 |none=>true
 |some b=>afw b N0&& !T.contains b
def nn(e:Env)(cf:jo)(ops:List Oper)(N0:Nat):List Oper->List PJ->Nat->Nat->Nat->Tr DV->Nat->List FuncId->ae->fB->List Nat->List (Nat×Nat)->Option DS
 |[],_,_,_,_,t,n,dd,h,aA,_,_=>some ⟨t,n,dd,mn h aA⟩
 |_::_,[],_,_,_,_,_,_,_,_,_,_=>none
 |o::r,p::pl,i,id,c,t,n,dd,h,aA,T,L=>bif vZ o.dst n then match iW ops t o with
  |none=>none
  |some true=>match p.c with
   |.pure=>match jq e h t o.op with
    |none=>none
    |some v=>nn e cf ops N0 r pl (i+1) id c (cH o.dst v t) n dd h aA T L
   |.read=>match jq e (fL h p.m aA) t o.op with
    |none=>none
    |some v=>bif !p.bl||iF N0 T (dK e t o.op)then nn e cf ops N0 r pl (i+1) id c (cH o.dst v t) n dd h aA T (kO p.dy (dK e t o.op) L)else none
   |.alloc=>bif vY e o.op then match dX e t o.op with
    |none=>none
    |some (ob,f)=>nn e cf ops N0 r pl (i+1) (id+1) c (cH o.dst (f id) t) n dd h ((i,id,ob)::aA) T L
    else none
   |.effect=>match lR e cf o.op t dd (fL h p.m aA)with
    |none=>none
    |some (v,dd,h,T')=>bif L.all (λq=> !Nat.ble (c+1) q.2|| !T'.contains q.1)then nn e cf ops N0 r pl (i+1) id (c+1) (cH o.dst v t) n dd h (jj p.m aA) (T'++T) L else none
   |.bad=>none
  |some false=>match p.c with
   |.alloc=>nn e cf ops N0 r pl (i+1) (id+1) c (cH o.dst cU t) n dd h aA T L
   |.effect=>nn e cf ops N0 r pl (i+1) id (c+1) (cH o.dst cU t) n dd h aA T L
   |.bad=>none
   |_=>nn e cf ops N0 r pl (i+1) id c (cH o.dst cU t) n dd h aA T L
  else none
def Hs(oms:List ((Oper×Nat)×Nat)):Nat->List Nat->List Nat
 |0,acc=>acc
 |k+1,acc=>
  let more:=acc.flatMap λi=>match oms[i]? with
   |none=>[]
   |some ((o,_),_)=>match cls o.op with
    |.alloc=>[]
    |_=>(slotsOf o.op).flatMap λt=>(oms.filter λx=>match x.1.1.dst with|some d=>afz d t|none=>false).map (·.2)
  let new:=(more.filter λx=> !acc.contains x).eraseDups
  match new with
  |[]=>acc
  |_=>Hs oms k (acc++new)
def BX(ops:List Oper):List PJ:=
 let oms:=(ops.zip (bx ops)).zipIdx
 let ef:=j0 (ops.zip (bx ops)) 0
 let need:=Hs oms 60 ((oms.filter λx=>decide (cls x.1.1.op=.read)&&afw (ef.filter λp=>x.1.2.testBit p.1).length (ef.filter λp=> !p.2.testBit x.2).length).map (·.2))
 oms.map λx=>
  let lo:=(ef.filter λp=>x.1.2.testBit p.1).length
  let hi:=(ef.filter λp=> !p.2.testBit x.2).length
  ⟨cls x.1.1.op,x.1.2,(bif decide (cls x.1.1.op=.read)&&afw lo hi then some (lo,hi+1-lo)else none),need.contains x.2⟩
abbrev jQ:=Code->DS->Option (bB×DS)
def og(e:Env)(ev:jQ):Yo:=λf args h=>match e.fn f with
 |none=>none
 |some fn=>match fn.body with
  |none=>none
  |some c=>match ev c ⟨iX args,args.length+(fn.ntmps-args.length),[],h⟩with
   |none=>none
   |some (.exit _,_)=>none
   |some (_,s)=>bif s.dd.all e.idle then match gz e s fn.results.toList with
    |none=>none
    |some l=>some (ke l,s.h)
    else none
def tV(h':ae):Nat->Nat->Tr bF->Tr bF
 |0,_,m=>m
 |k+1,i,m=>match h'.get i with
  |some o=>tV h' k (i+1) (m.set i (some o))
  |none=>tV h' k (i+1) m
def lu(h h':ae):ae:=⟨tV h' (h'.next-h.next) h.next h.m,h'.next⟩
def chunks(cs:List DV)(o k:Nat)(f:DV->DV):Nat->List (List DV)
 |0=>[]
 |n+1=>((cs.drop o).take k).map f::chunks cs (o+k) k f n
def sq(cs:List DV)(o c aj:Nat):Nat:=bif afz aj 0 then Nat.div (cs.length-o) c else aj
def wb(cs:List DV)(o n c k:Nat):Bool:=afw 0 k&&afv n c&&afv (o+n*k) cs.length
def Ht(f:DV->DV)(d:DV)(o n c:Nat):Option bF->DV
 |some (.row cs _ aj)=>bif wb cs o n c (sq cs o c aj)then .sl (sq cs o c aj) (chunks cs o (sq cs o c aj) f n)else d
 |_=>d
def mv(h:ae):Nat->DV->DV
 |0,d=>d
 |m+1,d=>match d with
  |.v (.slice (some ⟨b,o,none⟩) n c)=>Ht (mv h m) (.v (.slice (some ⟨b,o,none⟩) n c)) o n c (h.get b)
  |.agg l=>.agg (l.map (mv h m))
  |d=>d
def Hu(h:ae):DV->Bool
 |.v (.slice (some a) _ _)=>(h.get a.block).isSome
 |_=>false
def Hv(h:ae):DV->Bool
 |.v x=>Hu h (.v x)
 |.agg l=>l.any (Hu h)
 |_=>false
def BY(f:DV->List Nat)(b o n c:Nat):Option bF->List Nat
 |some (.row cs _ aj)=>bif wb cs o n c (sq cs o c aj)then b::cs.flatMap f else []
 |_=>[]
def qE(h:ae):Nat->DV->List Nat
 |0,_=>[]
 |m+1,d=>match d with
  |.v (.slice (some ⟨b,o,none⟩) n c)=>BY (qE h m) b o n c (h.get b)
  |.agg l=>l.flatMap (qE h m)
  |_=>[]
def BZ:DV->Bool
 |.v u=>jm u
 |_=>false
def Hw(h:ae)(v:DV)(h':ae)(l:List Nat):Option (DV×ae×List Nat):=some (v,lu (gk h l) h',l)
def B6(args:List DV)(h:ae):Option (DV×ae)->Option (DV×ae×List Nat)
 |none=>none
 |some (v,h')=>bif BZ v then some (v,h.up h'.next,[])else Hw h v h' (args.flatMap (qE h 4))
def B7(h:ae):Option (DV×ae)->Option (DV×ae×List Nat)
 |none=>none
 |some (v,h')=>some (v,lu h h',[])
def wc(e:Env)(ev:jQ):jo:=λf args h=>bif args.any (Hv h)then B6 args h (og e ev f (args.map (mv h 4)) ⟨.nil,h.next⟩)else B7 h (og e ev f args ⟨.nil,h.next⟩)
def Hx:Option (DV×ae)->Option (DV×ae×List Nat)
 |none=>none
 |some (v,h)=>some (v,h,[])
def wg(e:Env)(ev:jQ):jo:=λf args h=>Hx (og e ev f args h)
def Hy(e:Env)(ev:jQ)(l:List Oper)(draw:Bool)(s:DS):Option DS:=match s with
 |⟨t,n,dd,h⟩=>match draw with
  |false=>ql e (wg e ev) l l t n dd h
  |true=>bif vN l (BX l)then nn e (wc e ev) l h.next l (BX l) 0 h.next 0 t n dd (h.up (h.next+(l.filter λo=>cls o.op==.alloc).length)) [] [] []else none
abbrev tW:=Env->jQ->DS->Option (bB×DS)
def tX(ops:Array Oper)(draw:Bool):tW:=λe ev s=>match Hy e ev ops.toList draw s with
 |none=>none
 |some s=>some (.normal,s)
def tY(a b:Code):tW:=λ_ ev s=>match ev a s with
 |some (.normal,s)=>ev b s
 |r=>r
def tZ(c:Operand)(a b:Code):tW:=λe ev s=>match aJ e s.t c with
 |some (.v (.bool true))=>ev a s
 |some (.v (.bool false))=>ev b s
 |_=>none
def ua(id:Nat)(c:Code):tW:=λ_ ev s=>match ev c s with
 |some (.exit i,s)=>bif afz i id then some (.normal,s)else some (.exit i,s)
 |r=>r
def ub(c:Code):tW:=λ_ ev s=>match ev c s with
 |some (.normal,s)=>ev (.loop c) s
 |r=>r
def pB(c:Code):tW:=match c with
 |.skip=>λ_ _ s=>some (.normal,s)
 |.exit id=>λ_ _ s=>some (.exit id,s)
 |.ret=>λ_ _ s=>some (.ret,s)
 |.region _ ops draw=>tX ops draw
 |.seq a b=>tY a b
 |.cond c a b=>tZ c a b
 |.block id c=>ua id c
 |.loop c=>ub c
 |_=>λ_ _ _=>none
def np(e:Env)(ev:jQ):jQ:=λc s=>pB c e ev s
def oh(e:Env):Nat->jQ
 |0=>λ_ _=>none
 |n+1=>np e (oh e n)
variable {e:Env} {N:Nat}
def B8{t0 t:Tr DV}{h0 h:ae}(hh:HS N h0 h)(ht:TS N t0 t){op:Op}{r:DV}(hd:jq e.bf h0 t0 op=some r):ba e h t op=some (sh N r):=by
 unfold jq at hd
 split at hd
 . cases hd
 . rename_i r' h1;obtain⟨h2,h3⟩:=cg hd;cases h3;exact Yf hh ht h2 h1
def sr(e:Env)(N:Nat)(pu:Bool)(cf:jo):Prop:=∀f args h0 v h1 T0,cf f args h0=some (v,h1,T0)->∀h,HS N h0 h->∀K:DV->ae->List Nat->Prop,(∀h',HS N h1 h'->∀T,(pu=true->T=T0.map (·+N))->K (sh N v) h' T)->c8 e true f (args.map (sh N)) h K
def YA{t0 t:Tr DV}{h0 h h1:ae}(hh:HS N h0 h)(ht:TS N t0 t){op:Op}{dd ad:List FuncId}{v:DV}{T:List Nat}(hd:oe e.bf t0 dd h0 op=some (v,ad,h1,T))(K:cD)(hk:∀h',HS N h1 h'->K (sh N v) ad h' []):
 aO (dX e t op) λp=>K (p.2 h.next) dd (h.new p.1) []:=by
 unfold oe at hd;obtain⟨hg,hd⟩:=cg hd
 split at hd
 . cases hd
 . rename_i o f ha;simp only[qG,yy]at hd;obtain⟨rfl,rfl,rfl,rfl⟩:=hd;obtain⟨f',h2,h3⟩:=Hb (e:=e) ht hg ha;refine⟨_,h2, ?_⟩;simp only;rw[hh.next,h3];exact hk _ (hh.new o)
def Hz{t0 t:Tr DV}{h0 h h1:ae}(hh:HS N h0 h)(ht:TS N t0 t){ty:TypeId}{m k x:Operand}{dd ad:List FuncId}{v:DV}{T:List Nat}(hd:yp e.bf t0 dd h0 ty m k x=some (v,ad,h1,T))(K:cD)(hk:∀h',HS N h1 h'->K (sh N v) ad h' (T.map (·+N))):
 aO (jI e h ty (aJ e t m) (aJ e t k) (aJ e t x)) λp=>K cU dd p.1 [p.2]:=by
 unfold yp at hd;obtain⟨hg,hd⟩:=cg hd
 split at hd
 . cases hd
 . rename_i h' b hm;simp only[qG,yy]at hd;obtain⟨rfl,rfl,rfl,rfl⟩:=hd;obtain⟨h2,q1,q2⟩:=Yj hh hg hm;have hs:∀o:Operand,aJ e.bf t0 o≠none->aJ e t o=(aJ e.bf t0 o).map (sh N):=λo ho=>by
    cases hq:aJ e.bf t0 o with
    |none=>exact absurd hq ho
    |some d=>rw[eh ht hq];rfl
   have h3:aJ e.bf t0 m≠none/\aJ e.bf t0 k≠none/\aJ e.bf t0 x≠none:=by
    unfold jI at hm
    split at hm
    . rename_i e1 e2 e3;simp[e1,e2,e3]
    . cases hm
   rw[hs m h3.1,hs k h3.2.1,hs x h3.2.2];exact⟨_,q1,hk h2 q2⟩
def yr{t0 t:Tr DV}(ht:TS N t0 t){o:Operand}(ho:aJ e.bf t0 o≠none):aJ e t o=(aJ e.bf t0 o).map (sh N):=by
 cases hq:aJ e.bf t0 o with
 |none=>exact absurd hq ho
 |some d=>rw[eh ht hq];rfl
def HA{pu:Bool}{cf:jo}(ab:sr e N pu cf){t0 t:Tr DV}{h0 h h1:ae}(hh:HS N h0 h)(ht:TS N t0 t){op:Op}{dd ad:List FuncId}{v:DV}{T:List Nat}(hd:pz e.bf cf op t0 dd h0=some (v,ad,h1,T))(K:cD)
 (hk:∀h',HS N h1 h'->∀T',(pu=true->T'=T.map (·+N))->K (sh N v) ad h' T'):cu e true op t dd h K:=by
 have val:∀op,(match jq e.bf h0 t0 op with|none=>none|some v=>some (v,dd,h0,([]:List Nat)))=some (v,ad,h1,T)->aO (ba e h t op) λv=>K v dd h []:=λop hv=>by
  split at hv
  . cases hv
  . rename_i r hr;simp only[qG,yy]at hv;obtain⟨rfl,rfl,rfl,rfl⟩:=hv;exact⟨_,B8 hh ht hr,hk h hh [] λ_=>rfl⟩
 have nw:∀op,oe e.bf t0 dd h0 op=some (v,ad,h1,T)->aO (dX e t op) λp=>K (p.2 h.next) dd (h.new p.1) []:=λop hn=>by
  refine YA hh ht hn K λh' h2=>hk h' h2 [] λ_=> ?_;unfold oe at hn;obtain⟨_,hn⟩:=cg hn
  split at hn
  . cases hn
  . simp only[qG,yy]at hn;rw[<-hn.2.2.2];rfl
 cases op with
 |alloc ty=>exact nw _ hd
 |box ty x=>exact nw _ hd
 |buildSlice ty n ps=>exact nw _ hd
 |makeMap ty n=>exact nw _ hd
 |makeSlice ty l c=>exact nw _ hd
 |store ty a x=>
  simp only[pz]at hd;simp only[cu]
  split at hd
  . cases hd
  . rename_i h' b hs;simp only[qG,yy]at hd;obtain⟨rfl,rfl,rfl,rfl⟩:=hd;obtain⟨h2,q1,q2⟩:=Yg hh hs;have h3:aJ e.bf t0 a≠none/\aJ e.bf t0 x≠none:=by
     unfold lM at hs
     split at hs
     . rename_i e1 e2;simp[e1,e2]
     . cases hs
    rw[yr ht h3.1,yr ht h3.2];exact⟨_,q1,hk h2 q2 _ λ_=>rfl⟩
 |mapUpdate ty m k x=>exact Hz hh ht hd K λh' h2=>hk h' h2 _ λ_=>rfl
 |insert ty m k x=>exact Hz hh ht hd K λh' h2=>hk h' h2 _ λ_=>rfl
 |range ty x=>
  simp only[pz]at hd;simp only[cu]
  split at hd
  . cases hd
  . rename_i o hx;simp only[qG,yy]at hd;obtain⟨rfl,rfl,rfl,rfl⟩:=hd;obtain⟨d,q1,q2⟩:=FQ.1 hx;refine⟨gB N o,by rw[eh ht q1];exact Ym hh q2, ?_⟩;have:=hk _ (hh.new o) [] λ_=>rfl;simp only[bT,bY,eR]at this;rw[hh.next];exact this
 |next it s=>
  simp only[pz]at hd;simp only[cu]
  split at hd
  . cases hd
  . rename_i v' h' r hx;obtain⟨hg,hd⟩:=cg hd;simp only[qG,yy]at hd;obtain⟨rfl,rfl,rfl,rfl⟩:=hd;obtain⟨d,q1,q2⟩:=FQ.1 hx;obtain⟨h2,q3,q4⟩:=Yn hh hg q2;refine⟨_,by rw[eh ht q1];exact q3,hk _ q4 _ λ_=>rfl⟩
 |defer c=>
  simp only[pz]at hd;simp only[cu]
  split at hd
  . rename_i f hf;simp only[hf]
    split at hd
    . cases hd
    . rename_i g l hx;simp only[qG,yy]at hd;obtain⟨rfl,rfl,rfl,rfl⟩:=hd;have h3:aJ e.bf t0 f≠none/\∃l,cJ e.bf t0 c.args.toList=some l:=by
       unfold jK at hx
       split at hx
       . rename_i e1 e2;exact⟨by simp[e1],_,e2⟩
       . cases hx
      obtain⟨h3,l',h4⟩:=h3;have key:=G9 (N:=N) hx;rw[h4]at key;refine⟨(g,l.map (sh N)),by rw[yr ht h3,oc ht h4];exact key, ?_⟩;have:=hk h hh [] λ_=>rfl;rwa[bT,qD (by rfl)]at this
  . cases hd
 |call c=>
  simp only[pz]at hd;simp only[cu]
  split at hd
  . rename_i f hf;simp only[hf]
    split at hd
    . cases hd
    . rename_i g l hx
      split at hd
      . cases hd
      . rename_i v' h' T' hc;simp only[qG,yy]at hd;obtain⟨rfl,rfl,rfl,rfl⟩:=hd;have h3:aJ e.bf t0 f≠none/\∃l,cJ e.bf t0 c.args.toList=some l:=by
         unfold jK at hx
         split at hx
         . rename_i e1 e2;exact⟨by simp[e1],_,e2⟩
         . cases hx
        obtain⟨h3,l',h4⟩:=h3;have key:=G9 (N:=N) hx;rw[h4]at key;refine⟨(g,l.map (sh N)),by rw[yr ht h3,oc ht h4];exact key, ?_⟩;exact ab g l h0 _ _ _ hc h hh _ λh2 q T' hT=>hk h2 q T' hT
  . rename_i hf;simp only[hf]
    split at hd
    . cases hd
    . rename_i v' h' T' hx;simp only[qG,yy]at hd;obtain⟨rfl,rfl,rfl,rfl⟩:=hd;have h4:∃l,cJ e.bf t0 c.args.toList=some l:=by
       cases hq:cJ e.bf t0 c.args.toList with
       |none=>rw[hq]at hx;simp[jJ]at hx
       |some l=>exact⟨l,rfl⟩
      obtain⟨l',h4⟩:=h4;obtain⟨h2,q1,q2⟩:=Yl hh hx;rw[h4]at q1;refine⟨_,by rw[oc ht h4];exact q1,hk h2 q2 _ λ_=>rfl⟩
  . rename_i h5 h6;obtain⟨callee,args,ah⟩:=c;cases callee with
    |value f=>exact absurd rfl (h5 f)
    |builtin b=>cases b<;>first|exact absurd rfl h6|exact val _ hd|(simp[jq,ba]at hd)
    |invoke a b=>exact val _ hd
 |entry it=>simp[pz,jq,ba]at hd
 |_=>exact val _ hd
def HB{dst:Option Tmp}{n:Nat}(h:vZ dst n=true):dA dst n:=by
 cases dst with
 |none=>trivial
 |some d=>exact afA h
def HC:sh N cU=cU:=by rw[bT,qD (by rfl)]
def B9{pu:Bool}{cf:jo}(ab:sr e N pu cf){all:List Oper}:∀{r:List Oper} {t0 t:Tr DV} {n:Nat} {dd:List FuncId} {h0 h:ae} {s1:DS},HS N h0 h->TS N t0 t->so e.bf cf all r t0 n dd h0=some s1->∀(K:DS->Prop),(∀t' h',TS N s1.t t'->HS N s1.h h'->K ⟨t',s1.n,s1.dd,h'⟩)->fg e true all r t n dd h K
 |[],t0,t,n,dd,h0,h,s1,hh,ht,hd,K,hk=>by
  simp only[so,qG]at hd;subst hd;exact hk t h ht hh
 |o::r,t0,t,n,dd,h0,h,s1,hh,ht,hd,K,hk=>by
  simp only[so]at hd;obtain⟨hs,hd⟩:=cg hd;refine⟨HB hs, ?_⟩
  split at hd
  . cases hd
  . rename_i hw;refine⟨true,yn ht hw, ?_⟩
    split at hd
    . cases hd
    . rename_i v ad h' T ho;rw[Hq]at ho;exact HA ab hh ht ho _ λh2 q T' _=>B9 ab q (ht.put _ _) hd K hk
  . rename_i hw;refine⟨false,yn ht hw, ?_⟩;have:=ht.put o.dst cU;rw[HC]at this;exact B9 ab hh this hd K hk
def qF(N:Nat)(q:Nat×Nat×bF):Nat×Nat×bF:=(q.1,q.2.1+N,gB N q.2.2)
def yu{h0 h:ae}(hh:HS N h0 h)(m:Nat):∀(p:fB),HS N (fL h0 m p) (fL h m (p.map (qF N)))
 |[]=>hh
 |(i,id,o)::r=>by
  simp only[E2,qF,fL]
  split
  . exact(yu hh m r).set id (some o)
  . exact yu hh m r
def HD{h0 h:ae}(hh:HS N h0 h):∀(p:fB),HS N (mn h0 p) (mn h (p.map (qF N)))
 |[]=>hh
 |(i,id,o)::r=>by
  simp only[E2,qF,mn];exact(HD hh r).set id (some o)
def YB(m:Nat)(p:fB):jj m (p.map (qF N))=(jj m p).map (qF N):=by
 unfold jj
 induction p with
 |nil=>rfl
 |cons q p ih=>
  simp only[E2,afI,ih,qF]
  split<;>rfl
def HE(d:DV):jM (some (sh N d))=(jM (some d)).map (·+N):=by
 cases d with
 |v x=>
  rw[bT];unfold bY
  split<;>first|rfl|skip
  rename_i h1 h2 h3;simp only[jM,nh]
  split
  . rename_i a he;cases he;exact absurd rfl (h1 _)
  . rename_i a _ _ he;cases he;exact absurd rfl (h2 _ _ _)
  . rename_i a he;cases he;exact absurd rfl (h3 _)
  . rfl
 |agg l=>rw[kj];rfl
 |bp l=>rw[jO];rfl
 |fn f a c=>rw[py];rfl
 |sl k xs=>rw[mq];rfl
 |ptr xs o=>rw[nj];rfl
def HF{t0 t:Tr DV}(ht:TS N t0 t){h0:ae}{op:Op}{r:DV}(hd:ba e.bf h0 t0 op=some r):dK e t op=(dK e.bf t0 op).map (·+N):=by
 have one:∀(x:Operand),aJ e.bf t0 x≠none->jM (aJ e t x)=(jM (aJ e.bf t0 x)).map (·+N):=λx hx=>by
  cases hq:aJ e.bf t0 x with
  |none=>exact absurd hq hx
  |some d=>rw[eh ht hq];exact HE d
 cases op with
 |load ty a=>
  obtain⟨d,h1,_⟩:=FQ.1 hd;exact one a (by simp[h1])
 |convert s d x=>
  obtain⟨d,h1,_⟩:=FQ.1 hd;exact one x (by simp[h1])
 |lookup ty m k ok=>
  simp only[ba,gO]at hd
  split at hd
  . rename_i h1 h2;exact one m (by simp[h1])
  . cases hd
 |slice ty x lo hi mx=>
  refine one x ?_;intro h1;simp only[ba,h1]at hd;simp[de]at hd
 |call c=>
  simp only[dK];cases hq:cJ e.bf t0 c.args.toList with
  |some l=>
   rw[oc ht hq]
   match l with
   |[]=>rfl
   |[x]=>exact HE x
   |_::_::_=>rfl
  |none=>
   exfalso;simp only[ba]at hd
   split at hd
   . rw[hq]at hd;simp[pq]at hd
   . rw[hq]at hd;simp at hd
   . rw[hq]at hd;simp at hd
   . cases hd
 |_=>rfl
def YC{N0:Nat}{T:List Nat}{b:Option Nat}(h:iF N0 T b=true):si (N0+N) (T.map (·+N)) (b.map (·+N)):=by
 cases b with
 |none=>trivial
 |some b=>
  simp only[iF,Vs,Bool.not_eq_true',List.contains_eq_mem,decide_eq_false_iff_not]at h;refine⟨by have:=afA h.1;show b+N<_;omega,λhm=> ?_⟩;obtain⟨a,h1,h2⟩:=adv.1 hm;have:a=b:=by simp only at h2;omega
  subst this;exact h.2 h1
def yv(N:Nat)(q:Nat×Nat):Nat×Nat:=(q.1+N,q.2)
def YD(dy:Option (Nat×Nat))(b:Option Nat)(L:List (Nat×Nat)):kO dy (b.map (·+N)) (L.map (yv N))=(kO dy b L).map (yv N):=by
 cases dy<;>cases b<;>rfl
def pC{cf:jo}(ab:sr e N true cf){ops:List Oper}{N0:Nat}:∀{r:List Oper} {pl:List PJ} {i id c:Nat} {t0 t:Tr DV} {n:Nat} {dd:List FuncId} {h0 h:ae} {aA:fB} {T:List Nat} {L:List (Nat×Nat)} {s1:DS},HS N h0 h->TS N t0 t->
 nn e.bf cf ops N0 r pl i id c t0 n dd h0 aA T L=some s1->∀(K:DS->Prop),(∀t' h',TS N s1.t t'->HS N s1.h h'->K ⟨t',s1.n,s1.dd,h'⟩)->df e ops (N0+N) r pl i (id+N) c t n dd h (aA.map (qF N)) (T.map (·+N)) (L.map (yv N)) K
 |[],pl,i,id,c,t0,t,n,dd,h0,h,aA,T,L,s1,hh,ht,hd,K,hk=>by
  simp only[nn,qG]at hd;subst hd;cases pl<;>exact hk t _ ht (HD hh aA)
 |o::r,[],i,id,c,t0,t,n,dd,h0,h,aA,T,L,s1,hh,ht,hd,K,hk=>by cases hd
 |o::r,p::pl,i,id,c,t0,t,n,dd,h0,h,aA,T,L,s1,hh,ht,hd,K,hk=>by
  simp only[nn]at hd;obtain⟨hs,hd⟩:=cg hd;have ak:id+N+1=id+1+N:=aa;refine⟨HB hs, ?_⟩
  split at hd
  . cases hd
  . rename_i hw;refine⟨true,yn ht hw, ?_⟩;obtain⟨pc,pm,ao,ai⟩:=p;cases pc with
    |pure=>
     simp only at hd⊢
     split at hd
     . cases hd
     . rename_i v hv;exact⟨_,B8 hh ht hv,pC ab hh (ht.put _ _) hd K hk⟩
    |read=>
     simp only at hd⊢
     split at hd
     . cases hd
     . rename_i v hv;obtain⟨hb,hd⟩:=cg hd;have aq:∃r,ba e.bf (fL h0 pm aA) t0 o.op=some r:=by
        unfold jq at hv
        split at hv
        . cases hv
        . rename_i r hr;exact⟨r,hr⟩
       obtain⟨r',hr⟩:=aq;refine⟨_,B8 (yu hh pm aA) ht hv,λho=> ?_, ?_⟩
       . rw[HF ht hr];subst ho;exact YC (by simpa using hb)
       . rw[HF ht hr,YD];exact pC ab hh (ht.put _ _) hd K hk
    |alloc=>
     simp only at hd⊢;obtain⟨hg,hd⟩:=cg hd
     split at hd
     . cases hd
     . rename_i ob f ha;obtain⟨f',q1,q2⟩:=Hb (e:=e) (N:=N) ht hg ha;refine⟨_,q1, ?_⟩;simp only;rw[q2,ak];exact pC ab hh (ht.put _ _) hd K hk
    |effect=>
     simp only at hd⊢
     split at hd
     . cases hd
     . rename_i v ad h' T' ho;rw[Hq]at ho;obtain⟨hl,hd⟩:=cg hd;refine HA ab (yu hh pm aA) ht ho _ λh2 q T2 hT=>⟨?_, ?_⟩
       . rw[hT rfl];intro x hx hc hm;obtain⟨y,h1,rfl⟩:=adv.1 hx;obtain⟨z,h3,h4⟩:=adv.1 hm;simp only[adr]at hl;have:=hl y h1;have e1:z=y.1:=by simp only[yv]at h4;omega
         subst e1;have e2:afv (c+1) y.2=true:=Nat.ble_eq_true_of_le hc;simp[e2,h3]at this
       . rw[hT rfl,YB,<-ab8];exact pC ab q (ht.put _ _) hd K hk
    |bad=>cases hd
  . rename_i hw;refine⟨false,yn ht hw, ?_⟩;have hu:=ht.put o.dst cU;rw[HC]at hu;obtain⟨pc,pm,ao,ai⟩:=p;cases pc with
    |alloc=>simp only at hd⊢;rw[ak];exact pC ab hh hu hd K hk
    |effect=>simp only at hd⊢;exact pC ab hh hu hd K hk
    |bad=>cases hd
    |pure=>simp only at hd⊢;exact pC ab hh hu hd K hk
    |read=>simp only at hd⊢;exact pC ab hh hu hd K hk
end Go.aD
end
noncomputable section
namespace Go.aD
variable {e:Env} {N:Nat}
def HG:∀(l:List DV) (i:Nat) {t0 t:Tr DV},TS N t0 t->TS N (Tr.ofList l i t0) (Tr.ofList (l.map (sh N)) i t)
 |[],_,_,_,ht=>ht
 |d::l,i,_,_,ht=>by
  simp only[E2,Tr.ofList];exact HG l (i+1) (ht.put (some i) d)
def YE(l:List DV):TS N (iX l) (iX (l.map (sh N))):=HG l 0 λi=>by rw[Tr.get_nil];rfl
def YF(l:List DV):ke (l.map (sh N))=sh N (ke l):=by
 match l with
 |[]=>simp only[RC,ke,jO]
 |[v]=>rfl
 |v::w::l=>simp only[E2,ke,jO]
def HH{s0 s:DS}(ht:TS N s0.t s.t)(hh:HS N s0.h s.h):∀{rs:List ResultVar} {l:List DV},gz e.bf s0 rs=some l->gz e s rs=some (l.map (sh N))
 |[],l,h=>by simp only[gz,qG]at h;subst h;rfl
 |r::rs,l,h=>by
  simp only[gz]at h
  split at h
  . rename_i v vs h1 h2;cases h;have h3:=HH ht hh h2;simp only[gz];rw[h3];cases r with
    |tmp i=>
     simp only at h1⊢;rw[ht i,h1];rfl
    |cell a ty=>
     obtain⟨p,h4,h5⟩:=FQ.1 h1;simp only;rw[ht a,h4];simp only[yB,RK,GX hh h5];rfl
  . cases h
structure su(e:Env)(N:Nat)(ev:jQ):Prop where
 run:∀c d0 x d1,ev c d0=some (x,d1)->∀t h (K:bB->DS->Prop),TS N d0.t t->HS N d0.h h->(∀t' h',TS N d1.t t'->HS N d1.h h'->K x ⟨t',d1.n,d1.dd,h'⟩)->RD e true c ⟨t,d0.n,d0.dd,h⟩ K
def HI{ev:jQ}{f:FuncId}{args:List DV}{h0:ae}{v:DV}{h1:ae}(hd:og e ev f args h0=some (v,h1)):
 ∃fn c x s l,e.fn f=some fn/\fn.body=some c/\ev c ⟨iX args,args.length+(fn.ntmps-args.length),[],h0⟩=some (x,s)/\(∀i,x≠.exit i)/\s.dd.all e.idle=true/\gz e s fn.results.toList=some l/\v=ke l/\h1=s.h:=by
 unfold og at hd
 split at hd
 . cases hd
 . rename_i fn aM
   split at hd
   . cases hd
   . rename_i c hb
     split at hd
     . cases hd
     . cases hd
     . rename_i x s hx he;obtain⟨h2,hd⟩:=cg hd
       split at hd
       . cases hd
       . rename_i l hr;simp only[qG,yy]at hd;exact⟨fn,c,x,s,l,aM,hb,he,λi hi=>by subst hi;exact(hx i rfl).elim,h2,hr,hd.1.symm,hd.2.symm⟩
def yw{ev:jQ}(an:su e N ev){f:FuncId}{args:List DV}{h0 h:ae}{v:DV}{h1:ae}(hd:og e.bf ev f args h0=some (v,h1))(hh:HS N h0 h):
 ∃fn c,e.fn f=some fn/\fn.body=some c/\∀K:DV->ae->Prop,(∀h',HS N h1 h'->K (sh N v) h')->RD e true c ⟨iX (args.map (sh N)),(args.map (sh N)).length+(fn.ntmps-(args.map (sh N)).length),[],h⟩ (jL e fn.results.toList K):=by
 obtain⟨fn,c,x,s,l,q1,q2,q3,q4,q5,q6,rfl,rfl⟩:=HI hd;refine⟨fn,c,q1,q2,λK hk=> ?_⟩;rw[RW];refine an.run _ _ _ _ q3 _ _ _ (YE args) hh λt' h' ht h2=>⟨q4,λg hg=> ?_,l.map (sh N),HH ht h2 q6, ?_⟩
 . simp only[adr]at q5;exact q5 g hg
 . show K (ke (l.map (sh N))) h';rw[YF];exact hk _ h2
def YG(he:e.Ok)(ad:e.P.follows .mixedOrders=true)(ab:Idle e){ev:jQ}(an:su e N ev):sr e N false (wg e.bf ev):=by
 intro f args h0 v h1 T0 hd h hh K hk;unfold wg Hx at hd
 split at hd
 . cases hd
 rename_i v h1 hc;simp only[qG,yy]at hd;obtain⟨rfl,rfl,rfl⟩:=hd;have hd:=hc;obtain⟨fn,c,q1,q2,q3⟩:=yw an hd hh;intro G ha az x hr;obtain⟨u,h',r1,d,af,G',r2,r3,r4,r5⟩:=c8.body (ar:=true) (K:=λd af=>d=sh N v/\HS N h1 af) he ad ab q1 q2 rfl (rs:=fn.results.toList) aw (q3 _ λh' h2=>⟨rfl,h2⟩) G ha az x hr;obtain⟨rfl,r5⟩:=r5;exact⟨u,h',r1,sh N v,af,G',List.range ha.next,r2,r3,r4,λi hi hn=>absurd (afH.2 hi) hn,hk af r5 _ λhp=>by cases hp⟩
def HS.none(n:Nat):HS N (⟨.nil,n⟩:ae) (ae.none (n+N)):=⟨rfl,λk=>by
 rw[ae.get_none];show _=Option.map _ (Tr.nil.get k);rw[Tr.get_nil];rfl⟩
def HS.up{h0 h:ae}(hh:HS N h0 h)(n:Nat):HS N (h0.up n) (h.up (n+N)):=⟨rfl,λk=>hh.get k⟩
def Ca(h':ae)(j:Nat):∀(k i:Nat) (m:Tr bF),(tV h' k i m).get j=if i<=j/\j<i+k then(match h'.get j with|some o=>some o|none=>m.get j)else m.get j
 |0,i,m=>by rw[if_neg aa];rfl
 |k+1,i,m=>by
  simp only[tV];cases hq:h'.get i with
  |none=>
   simp only;rw[Ca h' j k (i+1) m];by_cases hj:j=i
   . subst hj;rw[if_neg aa,if_pos aa,hq]
   . by_cases h2:i+1<=j/\j<i+1+k
     . rw[if_pos h2,if_pos aa]
     . rw[if_neg h2,if_neg aa]
  |some o=>
   simp only;rw[Ca h' j k (i+1)];by_cases hj:j=i
   . subst hj;rw[if_neg aa,if_pos aa,hq,Tr.bu,if_pos rfl]
   . by_cases h2:i+1<=j/\j<i+1+k
     . rw[if_pos h2,if_pos aa,Tr.bu,if_neg hj]
     . rw[if_neg h2,if_neg aa,Tr.bu,if_neg hj]
def uc(h h':ae)(j:Nat):(lu h h').get j=if h.next<=j/\j<h'.next then(match h'.get j with|some o=>some o|none=>h.get j)else h.get j:=by
 show(tV h' _ _ h.m).get j=_;rw[Ca];by_cases h2:h.next<=j/\j<h'.next
 . rw[if_pos aa,if_pos h2];rfl
 . rw[if_neg aa,if_neg h2];rfl
def HS.merge{h0 h h1 h':ae}(hh:HS N h0 h)(h2:HS N h1 h'):HS N (lu h0 h1) (lu h h'):=by
 refine⟨h2.next,λk=> ?_⟩;rw[uc,uc,hh.get,h2.get,hh.next,h2.next];by_cases hc:h0.next<=k/\k<h1.next
 . rw[if_pos hc,if_pos aa];cases h1.get k<;>rfl
 . rw[if_neg hc,if_neg aa]
def HJ(he:e.Ok)(ad:e.P.follows .mixedOrders=true)(ab:Idle e){ev:jQ}(an:su e N ev){f:FuncId}{args:List DV}{h0 h aq:ae}{v':DV}(hc:og e.bf ev f args ⟨.nil,h0.next⟩=some (v',aq))(hh:HS N h0 h){K:DV->ae->List Nat->Prop}(hk:∀h',HS N (lu h0 aq) h'->K (sh N v') h' []):c8 e true f (args.map (sh N)) h K:=by
 have aF:HS N (⟨.nil,h0.next⟩:ae) (ae.none h.next):=by rw[hh.next];exact HS.none _
 obtain⟨fn,c,q1,q2,q3⟩:=yw an hc aF;intro G ha az x hr;have x0:bO G ha (ae.none h.next):=⟨x.fD,x.next,λi o ho=>(by rw[ae.get_none]at ho;cases ho),λi hi=>⟨(x.still i hi).1,ae.get_none _ _⟩⟩;obtain⟨u,h',r1,d,af,G',r2,r3,r4,rfl,r5⟩:=c8.body (ar:=true) (K:=λd af=>d=sh N v'/\HS N aq af) he ad ab q1 q2 rfl (rs:=fn.results.toList) aw (q3 _ λh' h2=>⟨rfl,h2⟩) G ha az x0 hr;have same:∀i,i<ha.next->h'.get i=ha.get i:=λi hi=>(r3.same i hi (ae.get_none _ _)).1;have hG:∀i,G i->i<ha.next:=λi hi=>(x.still i hi).1;have hm:∀i r,aQ ha G i=some r->aQ h' G' i=some r:=jg λi hg=>⟨r3.up i hg,same i (hG i hg)⟩;have bl:∀i,i<ha.next->G' i->G i:=λi hi hg=>by
  rcases r3.bl i hi hg with h2|h2
  . exact h2
  . rw[ae.get_none]at h2;cases h2
 have ak:∀i,¬i<ha.next->h.get i=none:=λi hi=>by
  cases hq:h.get i with
  |none=>rfl
  |some o=>exact absurd (x.obj i o hq).1 hi
 have lo:∀i,i<ha.next->(lu h af).get i=h.get i:=λi hi=>by
  rw[uc,if_neg];have:=x.next;omega
 have aJ:∀i,¬i<ha.next->∀o,(lu h af).get i=some o->af.get i=some o:=λi hi o ho=>by
  rw[uc]at ho
  split at ho
  . split at ho
    . rename_i o' hq;cases ho;exact hq
    . rw[ak i hi]at ho;cases ho
  . rw[ak i hi]at ho;cases ho
 refine⟨u,h',r1,sh N v',lu h af,G',[],⟨r2.fD,r2.next,λi o ho=> ?_,λi hi=>⟨(r2.still i hi).1, ?_⟩⟩,⟨r3.next,λi hi hd=>⟨same i hi,by rw[lo i hi];exact hd⟩,r3.up,λi hi hg=>.inl (bl i hi hg)⟩,r4,λi hi _=>⟨same i hi,lo i hi⟩,hk _ (hh.merge r5)⟩
 . by_cases aK:i<ha.next
   . rw[lo i aK]at ho;obtain⟨h2,ao,h3,h4⟩:=x.obj i o ho;exact⟨afE h2 r3.next,ao,by rw[same i h2];exact h3,h4.mono hm⟩
   . exact r2.obj i o (aJ i aK o ho)
 . by_cases dU:i<ha.next
   . rw[lo i dU];exact(x.still i (bl i dU hi)).2
   . cases hq:(lu h af).get i with
     |none=>rfl
     |some o=>
      have:=aJ i dU o hq;rw[(r2.still i hi).2]at this;cases this
def yx(cs:List DV)(k:Nat)(f:DV->DV):∀(n o:Nat),(chunks cs o k f n).length=n
 |0,_=>rfl
 |n+1,o=>by simp only[chunks,List.length_cons,yx cs k f n]
def HK(cs:List DV)(k:Nat)(f:DV->DV):∀(n o j:Nat) (x:List DV),(chunks cs o k f n)[j]? =some x->x=((cs.drop (o+j*k)).take k).map f
 |0,_,_,_,h=>by simp[chunks]at h
 |n+1,o,0,x,h=>by
  simp only[chunks,List.getElem?_cons_zero,qG]at h;rw[<-h];simp
 |n+1,o,j+1,x,h=>by
  simp only[chunks,List.getElem?_cons_succ]at h;rw[HK cs k f n (o+k) j x h];congr 3;rw[Nat.add_mul];omega
def HL(cs:List DV)(k:Nat)(f g:DV->DV):∀(n o:Nat),(chunks cs o k f n).map (λx=>x.map g)=chunks cs o k (λd=>g (f d)) n
 |0,_=>rfl
 |n+1,o=>by simp only[chunks,E2,HL cs k f g n,afj];rfl
def HM{f:DV->DV}{x:List DV}{i:Nat}{v:DV}(h:(x.map f)[i]? =some v):∃u,x[i]? =some u/\v=f u:=by
 rw[Zf,KE]at h;obtain⟨u,h1,h2⟩:=h;exact⟨u,h1,h2.symm⟩
def Cb{N:Nat}{h0:ae}{S:eQ}:∀(m:Nat) (d:DV),(∀b∈qE h0 m d,∀cs wr aj,h0.get b=some (.row cs wr aj)->S (b+N)=some (cs.map (sh N),aj))->Fz S (sh N d) (sh N (mv h0 m d))
 |0,d,_=>.refl _
 |m+1,d,hS=>by
  have ih:= @Cb N h0 S m;unfold qE at hS;unfold mv
  split
  . rename_i b o n c;cases hg:h0.get b with
    |none=>exact .refl _
    |some ob=>
     cases ob with
     |row cs wr aj=>
      simp only[BY,hg]at hS;simp only[Ht];generalize hk:sq cs o c aj=k at hS⊢;cases hb:wb cs o n c k with
      |false=>exact .refl _
      |true=>
       rw[hb]at hS;simp only[wb,Vs]at hb;unfold sq at hk;have aN:0<k:=afA hb.1.1;have aS:n<=c:=afA hb.1.2;have aG:o+n*k<=cs.length:=afA hb.2;have he:aj=0\/aj=k:=by
        cases hq:afz aj 0 with
        |true=>exact .inl (afJ hq)
        |false=>rw[hq]at hk;exact .inr hk
       show Fz S _ (sh N (.sl k (chunks cs o k (mv h0 m) n)));simp only[bT,bY,eR,mq];rw[HL];have aH:S (b+N)=some (cs.map (sh N),aj):=hS b List.mem_cons_self _ _ _ hg;have hl:∀j x,(chunks cs o k (λd=>sh N (mv h0 m d)) n)[j]? =some x->j<n/\x=((cs.drop (o+j*k)).take k).map λd=>sh N (mv h0 m d):=λj x hx=>by
        have:=(List.getElem?_eq_some_iff.1 hx).1;rw[yx]at this;exact⟨this,HK cs k _ n o j x hx⟩
       have aT:∀j,j<n->o+j*k+k<=cs.length:=λj hj=>by
        have:(j+1)*k<=n*k:=Nat.mul_le_mul_right _ hj;rw[Nat.add_mul]at this;omega
       refine .sl aH he aN (yx ..).symm aS (λx hx=> ?_) (by rw[yx,RW];exact aG) λj x i v d h1 h2 h3=> ?_
       . obtain⟨j,hj⟩:=List.getElem?_of_mem hx;obtain⟨q1,rfl⟩:=hl j x hj;have:=aT j q1;rw[RW,List.length_take,List.length_drop];omega
       . obtain⟨q1,rfl⟩:=hl j x h1;obtain⟨u,q2,rfl⟩:=HM h2;obtain⟨w,q3,rfl⟩:=HM h3;rw[List.getElem?_take]at q2
         split at q2
         . rw[List.getElem?_drop,q3]at q2;cases q2;exact ih u λb' aI=>hS b' (List.mem_cons_of_mem _ (afx.2 ⟨u,afD q3,aI⟩))
         . cases q2
     |_=>exact .refl _
  . rename_i l;rw[kj,kj];refine .agg aw λi v d h1 h2=> ?_;rw[afj,Zf,KE]at h2;rw[Zf,KE]at h1;obtain⟨u,h1,rfl⟩:=h1;obtain⟨w,h2,rfl⟩:=h2;rw[h1]at h2;cases h2;exact ih u λb' aI=>hS b' (afx.2 ⟨u,afD h1,aI⟩)
  . exact .refl _
def Cc{S:eQ}{f g:DV->DV}:∀(l:List DV),(∀d∈l,Fz S (f d) (g d))->cI S (l.map f) (l.map g)
 |[],_=>.nil
 |d::l,hf=>.cons (hf d aw) (Cc l λd hd=>hf d (by simp[hd]))
def YH{h0 h:ae}(hh:HS N h0 h){b:Nat}{cs:List DV}{wr:Bool}{aj:Nat}(hg:h0.get b=some (.row cs wr aj)):allRows h (b+N)=some (cs.map (sh N),aj):=by unfold allRows;rw[hh.row hg]
def YI(he:e.Ok)(ad:e.P.follows .mixedOrders=true)(ab:Idle e){ev:jQ}(an:su e N ev){f:FuncId}{args:List DV}{h0 h aq:ae}{w:Value}(hc:og e.bf ev f (args.map (mv h0 4)) ⟨.nil,h0.next⟩=some (.v w,aq))(hw:jm w=true)(hh:HS N h0 h){K:DV->ae->List Nat->Prop}(hk:∀h',HS N (h0.up aq.next) h'->K (sh N (.v w)) h' []):c8 e true f (args.map (sh N)) h K:=by
 have aF:HS N (⟨.nil,h0.next⟩:ae) (ae.none h.next):=by rw[hh.next];exact HS.none _
 obtain⟨fn,c,q1,q2,q3⟩:=yw an hc aF;intro G ha az x hr;have aU:cz (aQ ha (λi=>i<ha.next)) az ((args.map (mv h0 4)).map (sh N)):=cz.fz (S:=allRows h) x (λi cs aj hr=>by
  unfold allRows at hr
  split at hr
  . rename_i cs' wr aW hg;cases hr;exact⟨(x.obj _ _ hg).1,wr,hg⟩
  . cases hr) (λi hg=>(x.still i hg).1) (by rw[afj];exact Cc args λd _=>Cb 4 d λb _ cs wr aj hg=>YH hh hg) hr
 have x0:bO (λi=>i<ha.next) ha (ae.none h.next):=⟨x.fD.mono (jg λi hg=>⟨(x.still i hg).1,rfl⟩),x.next,λi o ho=>(by rw[ae.get_none]at ho;cases ho),λi hi=>⟨hi,ae.get_none _ _⟩⟩;obtain⟨u,h',r1,d,af,G',r2,r3,r4,rfl,r5⟩:=c8.body (ar:=true) (K:=λd af=>d=sh N (.v w)/\HS N aq af) he ad ab q1 q2 rfl (rs:=fn.results.toList) aw (q3 _ λh' h2=>⟨rfl,h2⟩) _ ha az x0 aU;have same:∀i,i<ha.next->h'.get i=ha.get i:=λi hi=>(r3.same i hi (ae.get_none _ _)).1;have hG:∀i,G i->i<ha.next:=λi hi=>(x.still i hi).1;have hm:∀i r,aQ ha G i=some r->aQ h' G i=some r:=jg λi hg=>⟨hg,same i (hG i hg)⟩;refine⟨u,h',r1,sh N (.v w),h.up af.next,G,[],⟨x.fD.mono hm,r2.next,λi o ho=> ?_,λi hi=>⟨afE (hG i hi) r3.next,(x.still i hi).2⟩⟩,⟨r3.next,λi hi hd=>⟨same i hi,hd⟩,λi hg=>hg,λi hi hg=>.inl hg⟩, ?_,λi hi _=>⟨same i hi,rfl⟩, ?_⟩
 . obtain⟨h2,ao,h3,h4⟩:=x.obj i o ho;exact⟨afE h2 r3.next,ao,by rw[same i h2];exact h3,h4.mono hm⟩
 . rw[bT]at r4⊢;rw[r4.cQ];exact .v _
 . rw[r5.next];exact hk _ (hh.up aq.next)
def c8.still{ar:Bool}{f:FuncId}{av dargs':List DV}{dh:ae}{K:DV->ae->List Nat->Prop}(l:List Nat)(hl:∀i∈l,(dh.get i).isSome=true)(hz:cI (rowsOf dh l) av dargs')(hc:c8 e ar f dargs' (gk dh l) λv af T=>K v af (T++l)):c8 e ar f av dh K:=by
 intro G h args x ha;obtain⟨k1,k2⟩:=x.drop l hl;have aX:cz (aQ h (λi=>G i\/i∈l)) args dargs':=cz.fz x (λi cs aj hr=>⟨.inr (vG hr).1,(vG hr).2⟩) (λi hg=>.inl hg) hz ha;have key:=hc (λi=>G i\/i∈l) h args k1 aX;have fin:∀v h',nc (λi=>G i\/i∈l) h (gk dh l) (λv af T=>K v af (T++l)) v h'->nc G h dh K v h':=λv h' ⟨d,af,G',T,r2,r3,r4,r5,r6⟩=>by
  refine⟨d,af,G',T++l,r2,k2.trans r3,r4,λi hi hT=> ?_,r6⟩;rw[List.mem_append,not_or]at hT;obtain⟨h1,h2⟩:=r5 i hi hT.1;exact⟨h1,by rw[h2,ng,if_neg hT.2]⟩
 cases ar with
 |true=>obtain⟨v,h',h1,h2⟩:=key;exact⟨v,h',h1,fin v h' h2⟩
 |false=>exact fJ.mono key fin
def HS.drop{h0 h:ae}(hh:HS N h0 h):∀(l:List Nat),HS N (gk h0 l) (gk h (l.map (·+N)))
 |[]=>hh
 |i::l=>HS.set (HS.drop hh l) i Option.none
def Cd(h:ae):∀(m:Nat) (d:DV),∀b∈qE h m d,(h.get b).isSome=true
 |0,d,b,hb=>by cases hb
 |m+1,d,b,hb=>by
  unfold qE at hb
  split at hb
  . rename_i b' o n c;cases hg:h.get b' with
    |none=>rw[hg]at hb;cases hb
    |some ob=>
     rw[hg]at hb;cases ob with
     |row cs wr aj=>
      simp only[BY]at hb;cases hq:wb cs o n c (sq cs o c aj)with
      |true=>
       simp only[hq,cond_true,List.mem_cons,afx]at hb;rcases hb with rfl|⟨u,_,hb⟩
       . rw[hg];rfl
       . exact Cd h m u b hb
      |false=>rw[hq]at hb;cases hb
     |_=>cases hb
  . obtain⟨u,_,hb⟩:=afx.1 hb;exact Cd h m u b hb
  . cases hb
def YJ(he:e.Ok)(ad:e.P.follows .mixedOrders=true)(ab:Idle e){ev:jQ}(an:su e N ev){f:FuncId}{args:List DV}{h0 h aq:ae}{v':DV}{l:List Nat}(hl:args.flatMap (qE h0 4)=l)(hc:og e.bf ev f (args.map (mv h0 4)) ⟨.nil,h0.next⟩=some (v',aq))(hh:HS N h0 h){K:DV->ae->List Nat->Prop}(hk:∀h',HS N (lu (gk h0 l) aq) h'->K (sh N v') h' (l.map (·+N))):c8 e true f (args.map (sh N)) h K:=by
 have aC:∀b∈l,(h0.get b).isSome=true:=λb hb=>by
  rw[<-hl]at hb;obtain⟨d,_,hb⟩:=afx.1 hb;exact Cd h0 4 d b hb
 refine c8.still (dargs':=(args.map (mv h0 4)).map (sh N)) (l.map (·+N)) (λi hi=> ?_) ?_ ?_
 . obtain⟨b,hb,rfl⟩:=adv.1 hi;show(h.get (b+N)).isSome=true;rw[hh.get,Option.isSome_map];exact aC b hb
 . rw[afj];refine Cc args λd hd=>Cb 4 d λb hb cs wr aj hg=>fA (adv.2 ⟨b, ?_,rfl⟩) (hh.row hg);rw[<-hl];exact afx.2 ⟨d,hd,hb⟩
 . refine HJ (h0:=gk h0 l) he ad ab an (by rw[vF];exact hc) (hh.drop l) λh' h2=> ?_;exact hk h' h2
def YK(he:e.Ok)(ad:e.P.follows .mixedOrders=true)(ab:Idle e){ev:jQ}(an:su e N ev):sr e N true (wc e.bf ev):=by
 intro f args h0 v h1 T0 hd h hh K hk;unfold wc at hd;cases hq:args.any (Hv h0)with
 |true=>
  rw[hq]at hd;change B6 _ _ _=_ at hd;unfold B6 at hd
  split at hd
  . cases hd
  . rename_i v' aq hc;cases hp:BZ v' with
    |true=>
     rw[hp]at hd;simp only[cond_true,qG,yy]at hd;obtain⟨rfl,rfl,rfl⟩:=hd;unfold BZ at hp
     split at hp
     . exact YI he ad ab an hc hp hh λh' h2=>hk h' h2 [] λ_=>rfl
     . cases hp
    |false=>
     rw[hp]at hd;simp only[cond_false,Hw,qG,yy]at hd;obtain⟨rfl,rfl,rfl⟩:=hd;exact YJ he ad ab an rfl hc hh λh' h2=>hk h' h2 _ λ_=>rfl
 |false=>
  rw[hq]at hd;change B7 _ _=_ at hd;unfold B7 at hd
  split at hd
  . cases hd
  . rename_i v' aq hc;simp only[qG,yy]at hd;obtain⟨rfl,rfl,rfl⟩:=hd;exact HJ he ad ab an hc hh λh' h2=>hk h' h2 [] λ_=>rfl
def YL{cf cp:jo}{ev:jQ}(h1:sr e N false (wg e.bf ev))(h2:sr e N true (wc e.bf ev)){ops:Array Oper}{id:Nat}{draw:Bool}{d0 d1:DS}(hd:Hy e.bf ev ops.toList draw d0=some d1){t:Tr DV}{h:ae}{K:bB->DS->Prop}
 (ht:TS N d0.t t) (hh:HS N d0.h h) (hk:∀t' h',TS N d1.t t'->HS N d1.h h'->K .normal ⟨t',d1.n,d1.dd,h'⟩):RD e true (.region id ops draw) ⟨t,d0.n,d0.dd,h⟩ K:=by
 obtain⟨t0,n,dd,h0⟩:=d0;cases draw with
 |false=>
  have hd:ql e.bf _ _ _ t0 n dd h0=some d1:=hd;rw[Hr]at hd;exact B9 (e:=e) h1 hh ht hd (K .normal) hk
 |true=>
  obtain⟨hp,hd⟩:=cg hd;have key:=pC (e:=e) h2 (N0:=h0.next) (id:=h0.next) (aA:=[]) (T:=[]) (L:=[]) (hh.up (h0.next+(ops.toList.filter λo=>cls o.op==.alloc).length)) ht hd (K .normal) hk;have e1:h0.next+N=h.next:=hh.next.symm;have e2:h0.next+(ops.toList.filter λo=>cls o.op==.alloc).length+N=h.next+(ops.toList.filter λo=>cls o.op==.alloc).length:=by rw[<-e1];omega
  rw[e1,e2]at key;have:=kh (e:=e) (BX ops.toList) hp _ (Nat.beq_refl _) h.next rfl key;exact this
def YM(he:e.Ok)(ad:e.P.follows .mixedOrders=true)(ab:Idle e)(n:Nat):su e N (oh e.bf n):=by
 induction n using Nat.strongRecOn with
 |_ n IH=>
 cases n with
 |zero=>exact⟨λc d0 x d1 h=>by cases h⟩
 |succ n=>
  have ih:=IH n (Nat.lt_succ_self n);have hc:=YG he ad ab ih;have hp:=YK he ad ab ih;refine⟨λc d0 x d1 hd t h K ht hh hk=> ?_⟩;have hd:np e.bf (oh e.bf n) c d0=some (x,d1):=hd;cases c with
  |skip=>
   simp only[np,pB,qG,yy]at hd;obtain⟨rfl,rfl⟩:=hd;exact hk _ _ ht hh
  |exit id=>
   simp only[np,pB,qG,yy]at hd;obtain⟨rfl,rfl⟩:=hd;exact hk _ _ ht hh
  |ret=>
   simp only[np,pB,qG,yy]at hd;obtain⟨rfl,rfl⟩:=hd;exact hk _ _ ht hh
  |region id ops draw=>
   simp only[np,pB,tX,tY,tZ,ua,ub]at hd
   split at hd
   . cases hd
   . rename_i s hs;simp only[qG,yy]at hd;obtain⟨rfl,rfl⟩:=hd;exact YL (cf:=wg e.bf (oh e.bf n)) (cp:=wc e.bf (oh e.bf n)) hc hp hs ht hh hk
  |seq a b=>
   simp only[np,pB,tX,tY,tZ,ua,ub]at hd;simp only[RD]
   split at hd
   . rename_i s hs;refine ih.run _ _ _ _ hs t h _ ht hh λt' h' ah ai=> ?_;exact ih.run _ _ _ _ hd t' h' _ ah ai hk
   . rename_i hn;refine ih.run _ _ _ _ hd t h _ ht hh λt' h' ah ai=> ?_;cases x with
     |normal=>exact absurd hd (hn d1)
     |exit i=>exact hk _ _ ah ai
     |ret=>exact hk _ _ ah ai
  |cond c a b=>
   simp only[np,pB,tX,tY,tZ,ua,ub]at hd;simp only[RD]
   split at hd
   . rename_i hb;refine⟨_,eh ht hb, ?_⟩;simp only[bT,bY];exact⟨λ_=>ih.run _ _ _ _ hd t h _ ht hh hk,λhf=>by cases hf⟩
   . rename_i hb;refine⟨_,eh ht hb, ?_⟩;simp only[bT,bY];exact⟨λhf=>(by cases hf),λ_=>ih.run _ _ _ _ hd t h _ ht hh hk⟩
   . cases hd
  |block id c=>
   simp only[np,pB,tX,tY,tZ,ua,ub]at hd;simp only[RD]
   split at hd
   . rename_i i s hs;refine ih.run _ _ _ _ hs t h _ ht hh λt' h' ah ai=> ?_;simp only;cases hq:afz i id with
     |true=>
      rw[hq]at hd;simp only[cond_true,qG,yy]at hd;obtain⟨rfl,rfl⟩:=hd;rw[if_pos (afJ hq)];exact hk _ _ ah ai
     |false=>
      rw[hq]at hd;simp only[cond_false,qG,yy]at hd;obtain⟨rfl,rfl⟩:=hd;rw[if_neg (Nat.ne_of_beq_eq_false hq)];exact hk _ _ ah ai
   . rename_i hn;refine ih.run _ _ _ _ hd t h _ ht hh λt' h' ah ai=> ?_;cases x with
     |normal=>exact hk _ _ ah ai
     |exit i=>exact absurd hd (hn i d1)
     |ret=>exact hk _ _ ah ai
  |loop c=>
   have key:∀m,m<=n+1->∀d0,oh e.bf m (.loop c) d0=some (x,d1)->∀t h,TS N d0.t t->HS N d0.h h->RD e true c ⟨t,d0.n,d0.dd,h⟩ (KI (λj d=>∃d0,j<=n+1/\oh e.bf j (.loop c) d0=some (x,d1)/\TS N d0.t d.t/\HS N d0.h d.h/\d.n=d0.n/\d.dd=d0.dd) m K):=λm hm d0 hd t h ht hh=>by
    cases m with
    |zero=>cases hd
    |succ m=>
     have aL:=IH m aa;have hd:np e.bf (oh e.bf m) (.loop c) d0=some (x,d1):=hd;simp only[np,pB,tX,tY,tZ,ua,ub]at hd
     split at hd
     . rename_i s hs;refine aL.run _ _ _ _ hs t h _ ht hh λt' h' ah ai=> ?_;exact⟨m,aa,_,aB.refl _,s,aa,hd,ah,ai,rfl,rfl⟩
     . rename_i hn;refine aL.run _ _ _ _ hd t h _ ht hh λt' h' ah ai=> ?_;cases x with
       |normal=>exact absurd hd (hn d1)
       |exit i=>exact hk _ _ ah ai
       |ret=>exact hk _ _ ah ai
   show WD e true (.loop c) _ K;refine WD.loop he ad (λj d=>∃d0,j<=n+1/\oh e.bf j (.loop c) d0=some (x,d1)/\TS N d0.t d.t/\HS N d0.h d.h/\d.n=d0.n/\d.dd=d0.dd) (λj d hI=> ?_) (n+1) _ ⟨_,aB.refl _,d0,Nat.le_refl _,hd,ht,hh,rfl,rfl⟩;obtain⟨d2,h1,h2,h3,h4,h5,h6⟩:=hI;obtain⟨dt,dn,aY,dh⟩:=d;simp only at h3 h4 h5 h6;subst h5;subst h6;exact key j h1 d2 h2 dt dh h3 h4
  |_=>cases hd
end Go.aD
end

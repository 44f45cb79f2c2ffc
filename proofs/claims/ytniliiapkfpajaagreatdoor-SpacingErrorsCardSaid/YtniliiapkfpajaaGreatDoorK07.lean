/- Parts of a proof. -/
import Derived.Laws.Strings
import Derived.Test.YtniliiapkfpajaaGreatDoorK06
open Option.some renaming injEq->oY
open Prod.mk renaming injEq->yx
open Option renaming map_some->Ey,bind_eq_some_iff->HT,map_eq_some_iff->Q0,bind_some->Rm,map_none->afj
open List renaming map_cons->Fj,map_nil->Rb,length_map->UR,map_take->Xt,map_drop->Yt,getElem?_map->adr,map_append->afc,all_eq_true->afd,mem_map->afe,map_map->aff,mem_flatMap->afi,map_congr_left->afn,mem_of_getElem?->afo,mem_range->afs,filter_cons->aft
open Bool renaming and_eq_true->WZ,eq_iff_iff->afq
open Eq renaming trans->YN
open Nat renaming ble->afg,blt->afh,beq->afk,le_of_ble_eq_true->afl,lt_of_lt_of_le->afp,add_right_cancel_iff->afr,eq_of_beq_eq_true->afu
open BitVec renaming ofInt->afm
set_option linter.all false
set_option maxRecDepth 100000
noncomputable section
namespace Go.aD
variable {e:Env}
def mW(P:Program){α β:Type}(s:Sem α)(k:α->Sem β):b8 P (s>>=k)=(b8 P s).bind λa=>b8 P (k a):=by
 show b8 P (Sem.bind s k)=_
 induction s<;>simp_all[Sem.bind,b8]
theorem kB(P:Program){α:Type}(a:α):b8 P (pure a)=some a:=rfl
def WM(P:Program){op:BinOp}(h1:op≠.eql)(h2:op≠.neq)(t:TypeId)(x y:Operand)(a b:Value):b8 P (eqGuard op t x y a b)=some ():=by
 unfold eqGuard;cases op<;>first|rfl|exact absurd rfl h1|exact absurd rfl h2
def tQ{ty:TypeId}{x y:Operand}{k k':IntKind}{n m:Int}{op:BinOp}(h1:op≠.eql)(h2:op≠.neq)(hn:∀k n m,kK op k n m=none){r:Value}(hr:b8 e.P (binOp op ty (.int k n) (.int k' m))=some r)(hp:plain r=true):
 cL e op ty x y (.int k n) (.int k' m)=some r:=by
 unfold cL;have:(bif decide (k=k')then kK op k n m else none)=none:=by cases decide (k=k')<;>simp[hn]
 have ha:∀k n,plain (.int k n)=true:=λ_ _=>rfl;simp only[this,ha,Bool.and_self,cond_true,eI,mW,WM e.P h1 h2,Rm,hr,hp]
def WN(P:Program)(op:BinOp)(t:TypeId)(x y:Operand)(a b:ByteArray):b8 P (eqGuard op t x y (.string a) (.string b))=some ():=by
 unfold eqGuard;cases op<;>rfl
def BH{ty:TypeId}{x y:Operand}{a b:ByteArray}{op:BinOp}{r:Value}(hr:b8 e.P (binOp op ty (.string a) (.string b))=some r)(hp:plain r=true):
 cL e op ty x y (.string a) (.string b)=some r:=by
 unfold cL;have ha:∀s,plain (.string s)=true:=λ_=>rfl;simp only[ha,Bool.and_self,cond_true,eI,mW,WN,Rm,hr,hp]
section
variable (ty:TypeId) (x y:Operand) (k k':IntKind) (n m:Int)
def WO(h:m≠0):cL e .rem ty x y (.int k n) (.int k m)=some (.int k (n.tmod m)):=by
 refine tQ aA aA (λ_ _ _=>rfl) ?_ rfl;simp[binOp,Op.intDiv,h,kB]
def WS(h:m≠0):cL e .quo ty x y (.int k n) (.int k m)=some (.int k (k.wrap (n.tdiv m))):=by
 refine tQ aA aA (λ_ _ _=>rfl) ?_ rfl;simp[binOp,Op.intDiv,h,kB]
def WT(h:0<=m):cL e .shr ty x y (.int k n) (.int k' m)=some (.int k (n.fdiv (2^(min m.toNat k.bits)))):=by
 refine tQ aA aA (λ_ _ _=>rfl) ?_ rfl;simp[binOp,Op.shift,show¬m<0 by omega,kB]
def WU(h:0<=m):cL e .shl ty x y (.int k n) (.int k' m)=some (.int k (k.wrap (n*2^(min m.toNat k.bits)))):=by
 refine tQ aA aA (λ_ _ _=>rfl) ?_ rfl;simp[binOp,Op.shift,show¬m<0 by omega,kB]
def Gn:cL e .and ty x y (.int k n) (.int k m)=some (.int k (k.wrap ((afm k.bits n&&&afm k.bits m).toNat:Nat))):=by
 refine tQ aA aA (λ_ _ _=>rfl) ?_ rfl;simp[binOp,Op.intBits,kB]
def WV:cL e .or ty x y (.int k n) (.int k m)=some (.int k (k.wrap ((afm k.bits n|||afm k.bits m).toNat:Nat))):=by
 refine tQ aA aA (λ_ _ _=>rfl) ?_ rfl;simp[binOp,Op.intBits,kB]
def tR(a b:ByteArray)(h:a.size+b.size<=9223372036854775807):cL e .add ty x y (.string a) (.string b)=some (.string (a++b)):=by
 refine BH ?_ rfl;have:¬((a.size+b.size:Nat):Int)>IntKind.i64.max:=by
  have:IntKind.i64.max=9223372036854775807:=aA;omega
 simp only[binOp,Op.stringOp,this,if_false,kB]
def toList_inj{a b:ByteArray}:a.toList=b.toList↔a=b:=by
 rw[ByteArray.toList_eq,ByteArray.toList_eq];constructor
 . intro h;cases a;cases b;congr;exact Array.toList_inj.1 h
 . intro h;rw[h]
def WW(a b:ByteArray):cL e .eql ty x y (.string a) (.string b)=some (.bool (decide (a=b))):=by
 have:(a.toList==b.toList)=decide (a=b):=by
  rw[afq];simp[toList_inj]
 refine BH ?_ rfl;simp[binOp,Op.stringOp,kB,this]
def WX(a b:ByteArray):cL e .neq ty x y (.string a) (.string b)=some (.bool (!decide (a=b))):=by
 have:(a.toList==b.toList)=decide (a=b):=by
  rw[afq];simp[toList_inj]
 refine BH ?_ rfl;simp[binOp,Op.stringOp,kB,this]
end
def WY{ty:TypeId}(hu:e.P.underlying ty=some .string)(aa:e.under ty=some .string)(s:ByteArray)(k:IntKind)(i:Int)(b:UInt8)(h0:0<=i)(hb:s[i.toNat]? =some b):oN e ty (.string s) (.int k i)=some (.int .u8 b.toNat):=by
 simp only[oN,aa];have pu:b8 e.P (underlying ty)=some .string:=by
  simp only[underlying,mW];show b8 e.P (match e.P.underlying ty with|some d=>pure d|none=>stuck "no such type" :Sem TypeDesc)=some .string;rw[hu];rfl
 have:b8 e.P (Instr.index ty (.string s) (.int k i))=some (.int .u8 b.toNat):=by
  simp[Instr.index,mW,asIntOf,kB,pu,h0,hb]
 simp[eI,this,plain,ep]
end Go.aD
end
noncomputable section
namespace Go.aD
variable {e:Env} {N:Nat}
def iT:Value->Bool
 |.pointer (some _)=>false
 |.slice (some _) _ _=>false
 |.map (some _)=>false
 |_=>true
def Gz:DV->Bool
 |.v x=>iT x
 |_=>false
def dD:DV->Bool
 |.v x=>iT x
 |.agg l=>l.all Gz
 |_=>false
def iU:Option DV->Bool
 |some d=>dD d
 |none=>true
def eK(N:Nat)(a:Addr):Addr:=⟨a.block+N,a.off,a.spot⟩
def bY(N:Nat):Value->Value
 |.pointer (some a)=>.pointer (some (eK N a))
 |.slice (some a) l c=>.slice (some (eK N a)) l c
 |.map (some r)=>.map (some (r+N))
 |v=>v
mutual
def sh(N:Nat):DV->DV
 |.v x=>.v (bY N x)
 |.agg l=>.agg (nU N l)
 |.bf l=>.bf (nU N l)
 |.fn f a c=>.fn f (nU N a) (nU N c)
 |.sl k xs=>.sl k (vX N xs)
 |.ptr xs off=>.ptr (nU N xs) off
def nU(N:Nat):List DV->List DV
 |[]=>[]
 |d::l=>sh N d::nU N l
def vX(N:Nat):List (List DV)->List (List DV)
 |[]=>[]
 |x::xs=>nU N x::vX N xs
end
def tX:∀(l:List DV),nU N l=l.map (sh N)
 |[]=>by simp[nU]
 |d::l=>by simp[nU,tX l]
def GA:∀(l:List (List DV)),vX N l=l.map λx=>x.map (sh N)
 |[]=>by simp[vX]
 |d::l=>by simp[vX,GA l,tX]
def bT(x:Value):sh N (.v x)=.v (bY N x):=by simp[sh]
def jZ(l:List DV):sh N (.agg l)=.agg (l.map (sh N)):=by simp[sh,tX]
def js(l:List DV):sh N (.bf l)=.bf (l.map (sh N)):=by simp[sh,tX]
def pg(f:FuncId)(a c:List DV):sh N (.fn f a c)=.fn f (a.map (sh N)) (c.map (sh N)):=by simp[sh,tX]
def mn(k:Nat)(xs:List (List DV)):sh N (.sl k xs)=.sl k (xs.map λx=>x.map (sh N)):=by simp[sh,GA]
def mX(xs:List DV)(o:Nat):sh N (.ptr xs o)=.ptr (xs.map (sh N)) o:=by simp[sh,tX]
def qy{x:Value}(h:iT x=true):bY N x=x:=by
 unfold bY
 split
 . simp[iT]at h
 . simp[iT]at h
 . simp[iT]at h
 . rfl
def Xz{d:DV}(h:Gz d=true):sh N d=d:=by
 cases d with
 |v x=>rw[bT,qy h]
 |_=>cases h
def gH{d:DV}(h:dD d=true):sh N d=d:=by
 cases d with
 |v x=>rw[bT,qy h]
 |agg l=>
  rw[jZ];congr 1;simp only[dD,afd]at h;exact(afn λd hd=>Xz (h d hd)).trans (List.map_id' l)
 |_=>cases h
def tY{l:List Value}(h:l.all iT=true):(l.map .v).map (sh N)=l.map .v:=by
 rw[aff];simp only[afd]at h;exact afn λx hx=>by simp[bT,qy (h x hx)]
def GB{n:Nat}{v:Value}(h:ep n v=true):iT v=true:=by
 cases n with
 |zero=>simp[ep]at h
 |succ n=>
  unfold iT
  split
  . simp[ep]at h
  . simp[ep]at h
  . simp[ep]at h
  . rfl
def XA{cs:Array Value}(h:plain (.agg cs)=true):cs.toList.all iT=true:=by
 have h:cs.toList.all (ep 5)=true:=h;simp only[afd]at h⊢;exactλx hx=>GB (h x hx)
def GC{v:Value}(h:plain v=true):sh N (fO v)=fO v:=by
 unfold fO
 split
 . rw[jZ,tY (XA h)]
 . rw[bT,qy (GB h)]
def BS(d:DV):cG (sh N d)=(cG d).map (sh N):=by cases d<;>simp[cG,bT,jZ,js,pg,mn,mX]
def XB(x:Value):dF (bY N x)=dF x:=by
 unfold bY
 split<;>rfl
def XC(d:DV):cD (sh N d)=cD d:=by cases d<;>simp[cD,bT,jZ,js,pg,mn,mX,XB]
def vY(l:List DV):(l.map (sh N)).all cD=l.all cD:=by rw[List.all_map];congr 1;funext d;exact XC d
def fR(N:Nat)(x:bG):bG:=⟨x.key,sh N x.val,x.born⟩
def gk(N:Nat):bJ->bJ
 |.row cs wr ak=>.row (cs.map (sh N)) wr ak
 |.map es clock=>.map (es.map (fR N)) clock
 |.cC m since seen last=>.cC (m.map (·+N)) since seen last
 |.eO s pos=>.eO s pos
def TS(N:Nat)(t0 t:Tr DV):Prop:=∀i,t.get i=(t0.get i).map (sh N)
structure HS(N:Nat)(h0 h:ah):Prop where
 next:h.next=h0.next+N
 get:∀k,h.get (k+N)=(h0.get k).map (gk N)
def TS.put{t0 t:Tr DV}(ht:TS N t0 t)(dst:Option Tmp)(d:DV):TS N (cH dst d t0) (cH dst (sh N d) t):=by
 cases dst with
 |none=>exact ht
 |some i=>
  intro j;simp only[cH,Tr.bD]
  split
  . rfl
  . exact ht j
def HS.set{h0 h:ah}(hh:HS N h0 h)(k:Nat)(o:Option bJ):HS N (h0.set k o) (h.set (k+N) (o.map (gk N))):=by
 refine⟨by rw[ah.aW,ah.aW,hh.next],λj=> ?_⟩;simp only[ah.bD,afr]
 split
 . rfl
 . exact hh.get j
def HS.new{h0 h:ah}(hh:HS N h0 h)(o:bJ):HS N (h0.new o) (h.new (gk N o)):=by
 refine⟨by rw[ah.bb,ah.bb,hh.next];omega,λj=> ?_⟩;simp only[ah.cW,hh.next,afr]
 split
 . rfl
 . exact hh.get j
def HS.row{h0 h:ah}(hh:HS N h0 h){b:Nat}{cs:List DV}{wr:Bool}{ak:Nat}(hg:h0.get b=some (.row cs wr ak)):h.get (b+N)=some (.row (cs.map (sh N)) wr ak):=by rw[hh.get,hg];rfl
def HS.mp{h0 h:ah}(hh:HS N h0 h){b:Nat}{es:List bG}{c:Nat}(hg:h0.get b=some (.map es c)):h.get (b+N)=some (.map (es.map (fR N)) c):=by rw[hh.get,hg];rfl
abbrev Env.ba(e:Env):Env:=e
def XD:sh N (.ptr ql 0)=.ptr ql 0:=by
 rw[mX,ql,aff];exact congrArg (λl=>DV.ptr l 0) (afn λv hv=>by
  obtain⟨n,_,rfl⟩:=afe.1 hv;simp[bT,bY])
variable {t0 t:Tr DV} {h0 h:ah}
def ee(ht:TS N t0 t){o:Operand}{d:DV}(hd:aJ e.ba t0 o=some d):aJ e t o=some (sh N d):=by
 cases o with
 |tmp i=>
  have:t0.get i=some d:=hd;show t.get i=_;rw[ht i,this];rfl
 |const v=>
  simp only[aJ]at hd⊢;obtain⟨hp,hd⟩:=cg hd;cases hd;rw[GC hp,hp];rfl
 |global g=>
  simp only[aJ]at hd⊢;obtain⟨hp,hd⟩:=cg hd;rw[hp,cond_true];by_cases hg:g=ez
  . rw[if_pos hg]at hd⊢;simp only[oY]at hd;subst hd;rw[XD]
  . rw[if_neg hg]at hd;cases hd
 |func f=>
  simp only[aJ,oY]at hd;subst hd;simp[aJ,pg]
def nV(ht:TS N t0 t):∀{l:List Operand} {ds:List DV},cM e.ba t0 l=some ds->cM e t l=some (ds.map (sh N))
 |[],ds,h=>by simp only[cM,oY]at h;subst h;rfl
 |o::r,ds,h=>by
  simp only[cM]at h
  split at h
  . cases h
  . rename_i d hd;simp only[Q0]at h;obtain⟨af,h1,rfl⟩:=h;simp only[cM,ee ht hd,nV ht h1,Ey,Fj]
def vZ(N:Nat)(p:Nat×DV):Nat×DV:=(p.1,sh N p.2)
def BU(ht:TS N t0 t):∀{l:List (Nat×Operand)} {ds:List (Nat×DV)},fP e.ba t0 l=some ds->fP e t l=some (ds.map (vZ N))
 |[],ds,h=>by simp only[fP,oY]at h;subst h;rfl
 |(i,o)::r,ds,h=>by
  simp only[fP]at h
  split at h
  . cases h
  . rename_i d hd;simp only[Q0]at h;obtain⟨af,h1,rfl⟩:=h;simp only[fP,ee ht hd,BU ht h1,Ey,Fj,vZ]
def BV(ht:TS N t0 t){o:Option Operand}{d:Option DV}(hd:eJ e.ba t0 o=some d):eJ e t o=some (d.map (sh N)):=by
 cases o with
 |none=>simp only[eJ,oY]at hd;subst hd;rfl
 |some o=>
  simp only[eJ,Q0]at hd;obtain⟨d,h1,rfl⟩:=hd;simp only[eJ,ee ht h1,Ey]
def GD{l:Option (Option Nat)}{cs:List DV}{o:Nat}{d:DV}(hd:fg l cs o=some d):fg l (cs.map (sh N)) o=some (sh N d):=by
 unfold fg at hd
 split at hd
 . simp only[fg,adr,hd,Ey]
 . split at hd
   . rename_i hc;cases hd;simp only[fg,UR,hc,if_true,jZ,Xt,Yt]
   . cases hd
 . cases hd
def GF(hh:HS N h0 h){ty:TypeId}{d r:DV}(hd:iN e.ba h0 ty d=some r):iN e h ty (sh N d)=some (sh N r):=by
 unfold iN at hd
 split at hd
 . rename_i b o
   split at hd
   . rename_i cs wr ak hg;simp only[bT,bY,eK,iN,hh.row hg];exact GD hd
   . cases hd
 . simp only[mX,iN];exact GD hd
 . cases hd
def XE{s f:Nat}{d r:DV}(hd:kr e.ba s f d=some r):kr e s f (sh N d)=some (sh N r):=by
 unfold kr at hd
 split at hd
 . simp only[Q0]at hd;obtain⟨k,h1,rfl⟩:=hd;have h1:e.off s f=some k:=h1;simp only[bT,bY,eK,kr,h1,Ey]
 . simp only[Q0]at hd;obtain⟨k,h1,rfl⟩:=hd;have h1:e.off s f=some k:=h1;simp only[mX,kr,h1,Ey]
 . cases hd
def GG{p:Option (Nat×Option Nat)}{l:List DV}{d:DV}(hd:ku p l=some d):ku p (l.map (sh N))=some (sh N d):=by
 unfold ku at hd
 split at hd
 . simp only[ku,adr,hd,Ey]
 . cases hd;simp only[ku,jZ,Xt,Yt]
 . cases hd
def XF{ty f:Nat}{d r:DV}(hd:qm e.ba ty f d=some r):qm e ty f (sh N d)=some (sh N r):=by
 unfold qm at hd
 split at hd
 . simp only[jZ,qm];exact GG hd
 . cases hd
def GH{d:DV}{i:Int}(hd:fX d=some i):fX (sh N d)=some i:=by
 unfold fX at hd
 split at hd
 . simp only[bT,bY,fX];exact hd
 . cases hd
def XG{b o len:Nat}{i:Int}{s:Option Nat}{v:Value}(h:nL b o len i s=some v):nL (b+N) o len i s=some (bY N v):=by
 cases s with
 |none=>cases h
 |some s=>
  simp only[nL]at h⊢
  split at h
  . rename_i hc;cases h;rw[if_pos hc];rfl
  . cases h
def XH{b o:Nat}{i:Int}{s:Option (Nat×Nat)}{v:Value}(h:nM b o i s=some v):nM (b+N) o i s=some (bY N v):=by
 cases s with
 |none=>cases h
 |some s=>
  simp only[nM]at h⊢
  split at h
  . rename_i hc;cases h;rw[if_pos hc];rfl
  . cases h
def XI{i:Int}{xs:List (List DV)}{d:DV}(h:qn i xs=some d):qn i (xs.map λx=>x.map (sh N))=some (sh N d):=by
 unfold qn at h⊢
 split at h
 . rename_i hc;simp only[Q0]at h;obtain⟨r,h1,rfl⟩:=h;simp only[hc,if_true,adr,h1,Ey,mX]
 . cases h
def XJ{ty:TypeId}{d c r:DV}(hd:iB e.ba ty d (fX c)=some r):iB e ty (sh N d) (fX (sh N c))=some (sh N r):=by
 cases hi:fX c with
 |none=>rw[hi]at hd;unfold iB at hd;split at hd<;>simp_all
 |some i=>
  rw[hi]at hd;rw[GH hi];unfold iB at hd
  split at hd
  . rename_i b o len cap i' he;cases he;simp only[Q0]at hd;obtain⟨v,h1,rfl⟩:=hd;have h1:nL b o len i (e.elem ty)=some v:=h1;simp only[bT,bY,eK,iB,XG h1,Ey]
  . rename_i b o i' he;cases he;simp only[Q0]at hd;obtain⟨v,h1,rfl⟩:=hd;have h1:nM b o i (e.arr ty)=some v:=h1;simp only[bT,bY,eK,iB,XH h1,Ey]
  . rename_i k xs i' he;cases he
    split at hd
    . rename_i hk;have hk:e.elem ty=some k:=hk;simp only[mn,iB,hk,if_true];exact XI hd
    . cases hd
  . rename_i xs off i' he;cases he
    split at hd
    . rename_i n s ha;have ha:e.arr ty=some (n,s):=ha
      split at hd
      . rename_i hc;cases hd;simp only[mX,iB,ha,hc,and_self,if_true]
      . cases hd
    . cases hd
  . cases hd
def XK{ty:TypeId}{d c r:DV}(hn:dD c=true)(ai:∀x,d=.v x->dD d=true/\dD r=true)(hd:mQ e.ba ty d c=some r):mQ e ty (sh N d) (sh N c)=some (sh N r):=by
 rw[gH hn];unfold mQ at hd
 split at hd
 . rename_i l k i
   split at hd
   . rename_i n s ld hp;have hp:e.AS ty=some (n,s,ld):=hp
     split at hd
     . rename_i hc;simp only[jZ,mQ,hp,hc,and_self,if_true];exact GG hd
     . cases hd
   . cases hd
 . rename_i x y;obtain⟨h1,h2⟩:=ai x rfl;rw[gH h1,gH h2];exact hd
 . cases hd
def XL{i:Nat}{d r:DV}(hd:ma i d=some r)(hn:∀x,d=.v x->dD r=true):ma i (sh N d)=some (sh N r):=by
 unfold ma at hd
 split at hd
 . simp only[js,ma,adr,hd,Ey]
 . rw[gH (hn _ rfl)];exact hd
 . cases hd
def XM{d r:DV}(hd:kR d=some r):kR (sh N d)=some (sh N r):=by
 unfold kR at hd
 split at hd
 . cases hd;simp only[bT,bY,kR]
 . cases hd;simp only[mX,kR]
 . cases hd;simp only[pg,kR]
 . cases hd
def GJ(hh:HS N h0 h){sz:Nat}{d:DV}{n:Nat}{cs:List DV}(hd:fh h0 sz d=some (n,cs)):fh h sz (sh N d)=some (n,cs.map (sh N)):=by
 unfold fh at hd
 split at hd
 . rename_i k xs
   split at hd
   . rename_i hk;simp only[oY,yx]at hd;obtain⟨rfl,rfl⟩:=hd;simp only[mn,fh,hk,if_true,UR,List.map_flatten]
   . cases hd
 . rename_i n' c
   split at hd
   . rename_i hk;simp only[oY,yx]at hd;obtain⟨rfl,rfl⟩:=hd;simp only[bT,bY,fh,hk,if_true,Rb]
   . cases hd
 . rename_i b o n' c
   split at hd
   . rename_i cs' wr ak hg
     split at hd
     . rename_i hc;simp only[oY,yx]at hd;obtain⟨rfl,rfl⟩:=hd;simp only[bT,bY,eK,fh,hh.row hg,UR,hc,if_true,Xt,Yt]
     . cases hd
   . cases hd
 . cases hd
def GK:∀{l:List DV} {ns:List Int},lz l=some ns->lz (l.map (sh N))=some ns
 |[],_,h=>h
 |d::l,ns,h=>by
  unfold lz at h
  split at h
  . contradiction
  . rename_i n r he;cases he;simp only[Q0]at h;obtain⟨r,h1,rfl⟩:=h;simp only[Fj,bT,bY,lz,GK h1,Ey]
  . cases h
def XN(hh:HS N h0 h){s d:TypeId}{x r:DV}(hn:(e.mb s d||(dD x&&dD r))=true)(hd:mR e.ba h0 s d x=some r):mR e h s d (sh N x)=some (sh N r):=by
 unfold mR at hd⊢
 split at hd
 . rename_i hb;have hb:e.mb s d=true:=hb;simp only[hb];unfold rV at hd
   split at hd
   . rename_i n cs aa;simp only[Q0]at hd;obtain⟨ns,h1,rfl⟩:=hd;rw[GJ hh aa];simp only[rV,GK h1,Ey,bT,bY]
   . cases hd
 . rename_i hb;have hb:e.mb s d=false:=hb;simp only[hb,Bool.false_or,WZ]at hn⊢;rw[gH hn.1,gH hn.2];exact hd
def BW{d:Option DV}{i:Option Int}(hd:fQ d=some i):fQ (d.map (sh N))=some i:=by
 cases d with
 |none=>exact hd
 |some d=>
  simp only[fQ,Q0,Ey]at hd⊢;obtain⟨i,h1,rfl⟩:=hd;exact⟨i,GH h1,rfl⟩
def XO(hh:HS N h0 h){ty:TypeId}{x r:DV}{lo hi mx:Option Int}(hd:jQ e.ba h0 ty x lo hi mx=some r):jQ e h ty (sh N x) lo hi mx=some (sh N r):=by
 have he:e.ba.elem ty=e.elem ty:=rfl;unfold jQ at hd;rw[he]at hd
 split at hd
 . rename_i k xs s hs;simp only[mn,jQ,hs,UR];cases h1:dU mx xs.length xs.length with
   |none=>rw[h1]at hd;cases hd
   |some m=>
    rw[h1]at hd;simp only at hd⊢;cases h2:dU hi m xs.length with
    |none=>rw[h2]at hd;cases hd
    |some h'=>
     rw[h2]at hd;simp only at hd⊢;cases h3:dU lo h' 0 with
     |none=>rw[h3]at hd;cases hd
     |some l=>
      rw[h3]at hd;simp only at hd⊢
      split at hd
      . rename_i hc;cases hd;rw[if_pos hc,mn,Xt,Yt]
      . cases hd
 . rename_i len cap s hs;simp only[bT,bY,jQ,hs];cases h1:dU mx cap cap with
   |none=>rw[h1]at hd;cases hd
   |some m=>
    rw[h1]at hd;simp only at hd⊢;cases h2:dU hi m len with
    |none=>rw[h2]at hd;cases hd
    |some h'=>
     rw[h2]at hd;simp only at hd⊢;cases h3:dU lo h' 0 with
     |none=>rw[h3]at hd;cases hd
     |some l=>
      rw[h3]at hd;simp only at hd⊢
      split at hd
      . rename_i hc;cases hd;rw[if_pos hc];simp only[bT,bY,eK]
      . cases hd
 . rename_i b o len cap s hs;simp only[bT,bY,eK,jQ,hs,hh.get b];cases hg:h0.get b with
   |none=>rw[hg]at hd;cases hd
   |some ob=>
    cases ob with
    |row cs wr ak=>
     rw[hg]at hd;simp only[Ey,gk]at hd⊢;cases h1:dU mx cap cap with
     |none=>rw[h1]at hd;cases hd
     |some m=>
      rw[h1]at hd;simp only at hd⊢;cases h2:dU hi m len with
      |none=>rw[h2]at hd;cases hd
      |some h'=>
       rw[h2]at hd;simp only at hd⊢;cases h3:dU lo h' 0 with
       |none=>rw[h3]at hd;cases hd
       |some l=>
        rw[h3]at hd;simp only at hd⊢
        split at hd
        . rename_i hc;cases hd;rw[if_pos hc];simp only[bT,bY,eK]
        . cases hd
    |_=>rw[hg]at hd;cases hd
 . cases hd
def XP(hh:HS N h0 h){ty:TypeId}{x:Option DV}{lo hi mx:Option (Option DV)}{r:DV}(hn:∀s,x=some (.v (.string s))->dD r=true/\(∀d,lo=some (some d)->dD d=true)/\(∀d,hi=some (some d)->dD d=true)/\(∀d,mx=some (some d)->dD d=true))
 (hd:ed e.ba h0 ty x lo hi mx=some r):ed e h ty (x.map (sh N)) (lo.map λd=>d.map (sh N)) (hi.map λd=>d.map (sh N)) (mx.map λd=>d.map (sh N))=some (sh N r):=by
 have hm:∀(y:Option (Option DV)),(∀d,y=some (some d)->dD d=true)->(y.map λd=>d.map (sh N))=y:=λy hy=>by
  cases y with
  |none=>rfl
  |some y=>cases y with
   |none=>rfl
   |some d=>simp only[Ey,gH (hy d rfl)]
 unfold ed at hd
 split at hd
 . obtain⟨h1,h2,h3,h4⟩:=hn _ rfl;rename_i s lo hi mx;rw[hm _ h2,hm _ h3,hm _ h4,gH h1];exact hd
 . rename_i x lo hi mx hx
   split at hd
   . rename_i av aw az b1 b2 b3;simp only[Ey];have key:=XO hh hd;unfold ed
     split
     . rename_i s _ _ _ e1 _ _ _;exfalso;simp only[oY]at e1;cases x<;>simp[bT,jZ,js,pg,mn,mX]at e1;rename_i y;have:y=.string s:=by
        revert e1;unfold bY
        split<;>first|(intro h;cases h;done)|exact id
       subst this;exact hx s rfl
     . rename_i _ e1 e2 e3 e4;cases e1;cases e2;cases e3;cases e4;simp only[BW b1,BW b2,BW b3];exact key
     . rename_i aj;exact(aj _ _ _ _ rfl rfl rfl rfl).elim
   . cases hd
 . cases hd
def BX{P:Program}{kt:TypeId}{k:Value}:∀{es:List bG} {r:Option DV},findD P kt k es=some r->findD P kt k (es.map (fR N))=some (r.map (sh N))
 |[],r,h=>by simp only[findD,oY]at h;subst h;rfl
 |x::es,r,h=>by
  simp only[findD]at h;simp only[Fj,findD];have:(fR N x).key=x.key:=rfl;rw[this]
  split at h
  . cases h
  . cases h;rfl
  . exact BX h
def GL{ty:TypeId}{ok:Bool}{k:Value}{es:List bG}{r:DV}(hd:ly e.ba ty ok k es=some r):ly e ty ok k (es.map (fR N))=some (sh N r):=by
 unfold ly at hd;have hu:e.ba.under=e.under:=rfl;have hP:e.ba.P=e.P:=rfl;have hz:e.ba.zero=e.zero:=rfl;rw[hu,hP,hz]at hd
 split at hd
 . rename_i kt et h1;unfold ly;simp only[h1]
   split at hd
   . cases hd
   . rename_i kd h2
     split at hd
     . rename_i hc;rw[if_pos (by simpa using hc)]
       split at hd
       . cases hd
       . rename_i d h3;rw[BX h3];cases hd;cases ok<;>simp[js,bT,bY]
       . rename_i h3;rw[BX h3];simp only[afj]
         split at hd
         . cases hd
         . rename_i z hz
           split at hd
           . rename_i hp;rw[if_pos hp];cases hd;cases ok<;>simp[js,bT,bY,GC hp]
           . cases hd
     . cases hd
 . cases hd
def XQ(hh:HS N h0 h){ty:TypeId}{ok:Bool}{m k r:DV}(hk:dD k=true)(hd:kS e.ba h0 ty ok m k=some r):kS e h ty ok (sh N m) (sh N k)=some (sh N r):=by
 rw[gH hk];unfold kS at hd
 split at hd
 . rename_i kv ad;simp only[bT,bY,kS,ad];exact GL (es:=[]) hd
 . rename_i b kv ad;simp only[bT,bY,kS,ad]
   split at hd
   . rename_i es c hg;rw[hh.mp hg];exact GL hd
   . cases hd
 . cases hd
def GM(x:ab)(ty:TypeId)(v:Value):fK e.ba x ty v=fK e x ty v:=(rfl)
def XR(hh:HS N h0 h){ty:TypeId}{d r:DV}(hd:fp e.ba h0 ty d=some r)(hn:dD r=true):fp e h ty (sh N d)=some (sh N r):=by
 have he:e.ba.elem ty=e.elem ty:=rfl;have hu:e.ba.under ty=e.under ty:=rfl;rw[gH hn];unfold fp at hd;rw[he,hu]at hd
 split at hd
 . simp only[mn,fp,UR]
   split at hd
   . exact hd
   . cases hd
 . rename_i a l c;have:∃a',sh N (.v (.slice a l c))=.v (.slice a' l c):=by cases a<;>exact⟨_,by simp only[bT,bY];rfl⟩
   obtain⟨a',ha⟩:=this;rw[ha]
   split at hd
   . rename_i s hs;simp only[fp,hs];exact hd
   . cases hd
 . simp only[bT,bY,fp];rw[<-GM];exact hd
 . simp only[bT,bY,fp];rw[<-GM];exact hd
 . rename_i b
   split at hd
   . rename_i k v es c an hg;simp only[bT,bY,fp,an,hh.mp hg,UR];exact hd
   . cases hd
 . cases hd
def XS{op:BinOp}{ty:TypeId}{x y:Operand}{a b r:DV}(ha:dD a=true)(hb:dD b=true)(hr:dD r=true)(hd:iC e.ba op ty x y a b=some r):iC e op ty x y (sh N a) (sh N b)=some (sh N r):=by
 rw[gH ha,gH hb,gH hr];exact hd
def yl{place:Nat->Option (Nat×Nat)}:∀{ps:List (Nat×DV)} {cs r:List DV},jR place cs ps=some r->jR place (cs.map (sh N)) (ps.map (vZ N))=some (r.map (sh N))
 |[],cs,r,h=>by simp only[jR,oY]at h;subst h;rfl
 |(i,v)::ps,cs,r,h=>by
  simp only[jR]at h;simp only[Fj,vZ,jR]
  split at h
  . cases h
  . rename_i off size hp
    split at h
    . rename_i hc;have:=yl h;simp only[afc,Xt,Yt]at this;simp only[BS,UR,vY];rw[if_pos hc];exact this
    . cases h
def nW(e:Env)(ty:TypeId):Bool:=match e.zero ty with
 |some z=>z.cells.toList.all iT
 |none=>true
def XT{ty:TypeId}{ps:List (Nat×DV)}{r:DV}(hz:nW e ty=true)(hd:eo e.ba ty ps=some r):eo e ty (ps.map (vZ N))=some (sh N r):=by
 unfold eo at hd⊢;have h1:e.ba.zero=e.zero:=rfl;have h2:e.ba.under=e.under:=rfl;have h3:e.ba.size=e.size:=rfl;have h4:ke e.ba=ke e:=rfl;rw[h1,h2,h3,h4]at hd;unfold nW at hz
 split at hd
 . rename_i z fields g1 g2;rw[g1]at hz;simp only[Q0]at hd⊢;obtain⟨cs,q1,rfl⟩:=hd;have:=yl (N:=N) q1;rw[tY hz]at this;exact⟨_,this,(jZ _).symm⟩
 . rename_i z n elem g1 g2;rw[g1]at hz
   split at hd
   . cases hd
   . rename_i s hs;simp only[Q0]at hd⊢;obtain⟨cs,q1,rfl⟩:=hd;have:=yl (N:=N) q1;rw[tY hz]at this;exact⟨_,this,(jZ _).symm⟩
 . cases hd
def XU{f:FuncId}{a c:Option (List DV)}{r:DV}(hd:nQ f a c=some r):nQ f (a.map λl=>l.map (sh N)) (c.map λl=>l.map (sh N))=some (sh N r):=by
 unfold nQ at hd
 split at hd
 . cases hd;simp only[Ey,nQ,pg]
 . cases hd
def GN{f:Option DV}{ae:Option (List DV)}{g:FuncId}{l:List DV}(hd:jo f ae=some (g,l)):jo (f.map (sh N)) (ae.map λl=>l.map (sh N))=some (g,l.map (sh N)):=by
 unfold jo at hd
 split at hd
 . cases hd;simp only[Ey,pg,jo,afc]
 . cases hd
def ym(ht:TS N t0 t){ops:List Oper}{o:Oper}{b:Bool}(hd:iD ops t0 o=some b):iD ops t o=some b:=by
 unfold iD at hd⊢
 split at hd
 . exact hd
 . split at hd
   . cases hd
   . rename_i j want _ d hj;rw[ht d]
     split at hd
     . rename_i hg;rw[hg];simp only[Ey,bT,bY];exact hd
     . rename_i hg;rw[hg];simp only[Ey,bT,bY];exact hd
     . rename_i hg;rw[hg];simp only[Ey,js];exact hd
     . cases hd
def isVal:Option DV->Bool
 |some (.v _)=>true
 |_=>false
def isStr:Option DV->Bool
 |some (.v (.string _))=>true
 |_=>false
def BY:Option (Option DV)->Bool
 |some (some d)=>dD d
 |_=>true
def jt(e:Env)(t:Tr DV)(op:Op)(r:DV):Bool:=match op with
 |.binOp _ _ x y _=>iU (aJ e t x)&&iU (aJ e t y)&&dD r
 |.unOp _ _ x=>iU (aJ e t x)&&dD r
 |.makeInterface _ x=>iU (aJ e t x)&&dD r
 |.convert s d x=>e.mb s d||(iU (aJ e t x)&&dD r)
 |.slice _ x lo hi mx=> !isStr (aJ e t x)||(dD r&&BY (eJ e t lo)&&BY (eJ e t hi)&&BY (eJ e t mx))
 |.index _ x i=>iU (aJ e t i)&&(!isVal (aJ e t x)||(iU (aJ e t x)&&dD r))
 |.extract x _=> !isVal (aJ e t x)||dD r
 |.lookup _ _ k _=>iU (aJ e t k)
 |.build ty _=>nW e ty
 |.call c=>dD r&&match c.callee with
  |.builtin .len=>true
  |_=>match cM e t c.args.toList with|some l=>l.all dD|none=>true
 |_=>true
def XV(hh:HS N h0 h)(ht:TS N t0 t){op:Op}{r:DV}(hg:jt e.ba t0 op r=true)(hd:aZ e.ba h0 t0 op=some r):aZ e h t op=some (sh N r):=by
 cases op with
 |move x=>exact ee ht hd
 |assign x=>exact ee ht hd
 |pick c a b=>
  simp only[aZ,qp]at hd⊢
  split at hd
  . rename_i hc;simp only[ee ht hc,bT,bY];exact ee ht hd
  . rename_i hc;simp only[ee ht hc,bT,bY];exact ee ht hd
  . cases hd
 |build ty parts=>
  obtain⟨ps,h1,h2⟩:=HT.1 hd;simp only[aZ,BU ht h1,Rm];exact XT (e:=e) hg h2
 |load ty a=>
  obtain⟨x,h1,h2⟩:=HT.1 hd;simp only[aZ,ee ht h1,Rm];exact GF hh h2
 |nilCheck x=>
  obtain⟨x,h1,h2⟩:=HT.1 hd;simp only[aZ,ee ht h1,Rm];exact XM h2
 |binOp o ty x y z=>
  simp only[aZ,fY]at hd⊢
  split at hd
  . rename_i a b ha hb;simp only[jt,ha,hb,iU,WZ]at hg;simp only[ee ht ha,ee ht hb];exact XS hg.1.1 hg.1.2 hg.2 hd
  . cases hd
 |unOp o ty x=>
  obtain⟨a,h1,h2⟩:=HT.1 hd;simp only[jt,h1,iU,WZ]at hg;simp only[aZ,ee ht h1,Rm,gH hg.1,gH hg.2];exact h2
 |convert s d x=>
  obtain⟨a,h1,h2⟩:=HT.1 hd;simp only[jt,h1,iU]at hg;simp only[aZ,ee ht h1,Rm];exact XN hh hg h2
 |makeInterface ty x=>
  obtain⟨a,h1,h2⟩:=HT.1 hd;simp only[jt,h1,iU,WZ]at hg;simp only[aZ,ee ht h1,Rm,gH hg.1,gH hg.2];exact h2
 |makeFunc fn first cap=>
  cases fn with
  |func f=>
   simp only[aZ]at hd⊢;have key:=XU (N:=N) hd;unfold nQ at hd
   split at hd
   . rename_i a c ha hc;rw[ha,hc]at key;rw[nV ht ha,nV ht hc];exact key
   . cases hd
  |_=>cases hd
 |slice ty x lo hi mx=>
  simp only[aZ]at hd⊢;obtain⟨a,ha⟩:∃y,aJ e.ba t0 x=some y:=by
   cases hq:aJ e.ba t0 x with
   |none=>rw[hq]at hd;unfold ed at hd;split at hd<;>simp_all
   |some y=>exact⟨y,rfl⟩
  rw[ha]at hd;obtain⟨l,hl⟩:∃y,eJ e.ba t0 lo=some y:=by
   cases hq:eJ e.ba t0 lo with
   |none=>rw[hq]at hd;unfold ed at hd;split at hd<;>simp_all
   |some y=>exact⟨y,rfl⟩
  rw[hl]at hd;obtain⟨m,hm⟩:∃y,eJ e.ba t0 hi=some y:=by
   cases hq:eJ e.ba t0 hi with
   |none=>rw[hq]at hd;unfold ed at hd;split at hd<;>simp_all
   |some y=>exact⟨y,rfl⟩
  rw[hm]at hd;obtain⟨n,hn⟩:∃y,eJ e.ba t0 mx=some y:=by
   cases hq:eJ e.ba t0 mx with
   |none=>rw[hq]at hd;unfold ed at hd;split at hd<;>simp_all
   |some y=>exact⟨y,rfl⟩
  rw[hn]at hd;rw[ee ht ha,BV ht hl,BV ht hm,BV ht hn];refine XP (e:=e) hh (x:=some a) (lo:=some l) (hi:=some m) (mx:=some n) (λs hs=> ?_) hd;cases hs;simp only[jt,ha,hl,hm,hn,isStr,Bool.not_true,Bool.false_or,WZ]at hg;refine⟨hg.1.1.1,λd hd=> ?_,λd hd=> ?_,λd hd=> ?_⟩
  . cases hd;exact hg.1.1.2
  . cases hd;exact hg.1.2
  . cases hd;exact hg.2
 |fieldAddr s x f=>
  obtain⟨a,h1,h2⟩:=HT.1 hd;simp only[aZ,ee ht h1,Rm];exact XE h2
 |field ty x f=>
  obtain⟨a,h1,h2⟩:=HT.1 hd;simp only[aZ,ee ht h1,Rm];exact XF h2
 |indexAddr ty x ix=>
  simp only[aZ,fY]at hd⊢
  split at hd
  . rename_i a b ha hb;simp only[ee ht ha,ee ht hb];exact XJ hd
  . cases hd
 |index ty x ix=>
  simp only[aZ,fY]at hd⊢
  split at hd
  . rename_i a b ha hb;simp only[jt,ha,hb,iU,WZ]at hg;simp only[ee ht ha,ee ht hb];refine XK hg.1 (λx hx=> ?_) hd;subst hx;simpa[isVal]using hg.2
  . cases hd
 |lookup ty m k ok=>
  simp only[aZ,fY]at hd⊢
  split at hd
  . rename_i a b ha hb;simp only[jt,hb,iU]at hg;simp only[ee ht ha,ee ht hb];exact XQ hh hg hd
  . cases hd
 |extract x i=>
  obtain⟨a,h1,h2⟩:=HT.1 hd;simp only[aZ,ee ht h1,Rm];refine XL h2 λx hx=> ?_;subst hx;simpa[jt,h1,isVal]using hg
 |call c=>
  obtain⟨callee,args,aA⟩:=c;have hl:∀l:List DV,l.all dD=true->l.map (sh N)=l:=λl hl=>by
   simp only[afd]at hl;exact(afn λd hd=>gH (hl d hd)).trans (List.map_id' l)
  cases callee with
  |builtin b=>
   cases b with
   |len=>
    simp only[aZ]at hd⊢;simp only[jt,Bool.and_true]at hg;unfold oS at hd
    split at hd
    . rename_i x hx
      split at hd
      . cases hd
      . rename_i ty ao;rw[nV ht hx];simp only[Fj,Rb,oS,ao];exact XR hh hd hg
    . cases hd
   |min=>
    simp only[aZ]at hd⊢;obtain⟨vs,h1,h2⟩:=HT.1 hd;obtain⟨l,h3,h4⟩:=HT.1 h1;simp only[jt,h3,WZ]at hg;rw[nV ht h3,hl l hg.2,gH hg.1];simp only[Rm,h4];exact h2
   |max=>
    simp only[aZ]at hd⊢;obtain⟨vs,h1,h2⟩:=HT.1 hd;obtain⟨l,h3,h4⟩:=HT.1 h1;simp only[jt,h3,WZ]at hg;rw[nV ht h3,hl l hg.2,gH hg.1];simp only[Rm,h4];exact h2
   |_=>cases hd
  |_=>cases hd
 |_=>cases hd
end Go.aD
end
noncomputable section
namespace Go.aD
variable {e:Env} {N:Nat} {t0 t:Tr DV} {h0 h:ah}
def wa(e:Env):Op->Bool
 |.alloc ty=>nW e ty
 |.buildSlice st _ _=>match e.under st with|some (.slice el)=>nW e el|_=>false
 |.makeSlice st _ _=>match e.under st with|some (.slice el)=>nW e el|_=>false
 |_=>true
def GO{zs:List Value}{n:Nat}(h:zs.all iT=true):(dY zs n).all iT=true:=by
 simp only[afd]at h⊢;intro x hx;simp only[dY,afe,afs]at hx;obtain⟨i,_,rfl⟩:=hx;cases hq:zs[i%zs.length]? with
 |none=>rfl
 |some y=>exact h y (afo hq)
def BZ{ty:TypeId}{z:Value}(h:nW e ty=true)(hz:e.zero ty=some z):z.cells.toList.all iT=true:=by
 unfold nW at h;rw[hz]at h;exact h
def GP(ht:TS N t0 t){op:Op}{o:bJ}{f:Nat->DV}(hg:wa e op=true)(hd:dV e.ba t0 op=some (o,f)):∃f',dV e t op=some (gk N o,f')/\∀i,f' (i+N)=sh N (f i):=by
 have h1:e.ba.zero=e.zero:=rfl;have h2:e.ba.under=e.under:=rfl;have h3:e.ba.size=e.size:=rfl;have h4:e.ba.bytes=e.bytes:=rfl;have hp:∀i,(DV.v (.pointer (some ⟨i+N,0,none⟩)))=sh N (DV.v (.pointer (some ⟨i,0,none⟩))):=λi=>by simp only[bT,bY,eK]
 have hs:∀i a b,(DV.v (.slice (some ⟨i+N,0,none⟩) a b))=sh N (DV.v (.slice (some ⟨i,0,none⟩) a b)):=λi a b=>by simp only[bT,bY,eK]
 cases op with
 |alloc ty=>
  simp only[dV]at hd⊢;rw[h1]at hd
  split at hd
  . cases hd
  . rename_i z hz;simp only[oY,yx]at hd;obtain⟨rfl,rfl⟩:=hd;refine⟨λi=>.v (.pointer (some ⟨i,0,none⟩)), ?_,hp⟩;simp only[gk,tY (BZ hg hz)]
 |box ty x=>
  simp only[dV]at hd⊢
  split at hd
  . cases hd
  . rename_i d hx;rw[ee ht hx];simp only[BS,vY]
    split at hd
    . simp only[oY,yx]at hd;obtain⟨rfl,rfl⟩:=hd;rename_i hb;exact⟨λi=>.v (.pointer (some ⟨i,0,none⟩)),if_pos hb,hp⟩
    . cases hd
 |buildSlice st n parts=>
  simp only[dV]at hd⊢;rw[h2]at hd
  split at hd
  . rename_i elem ps hu aj;simp only[wa,hu]at hg;rw[BU ht aj];rw[h3,h1]at hd;simp only[hu]
    split at hd
    . rename_i s z an hz
      split at hd
      . rename_i hc;rw[if_pos hc]
        split at hd
        . cases hd
        . rename_i cs hf;simp only[oY,yx]at hd;obtain⟨rfl,rfl⟩:=hd;have:=yl (N:=N) hf;rw[tY (GO (BZ hg hz))]at this;rw[this];exact⟨_,rfl,λi=>hs i _ _⟩
      . cases hd
    . cases hd
  . cases hd
 |makeMap ty x=>
  cases x with
  |none=>
   simp only[dV,oY,yx]at hd⊢;obtain⟨rfl,rfl⟩:=hd;exact⟨_,⟨rfl,rfl⟩,λi=>by simp only[bT,bY]⟩
  |some x=>cases hd
 |makeSlice st l c=>
  simp only[dV]at hd⊢;rw[h2]at hd;have hi:∀(x:Operand) (n:Int),(aJ e.ba t0 x).bind exact=some (.int .i64 n)->(aJ e t x).bind exact=some (.int .i64 n):=λx n hx=>by
   obtain⟨d,q1,q2⟩:=HT.1 hx;rw[ee ht q1];cases d with
   |v w=>simp only[exact,oY]at q2;subst q2;simp only[bT,bY];rfl
   |agg l=>simp[exact]at q2
   |_=>simp[exact]at q2
  split at hd
  . rename_i elem l' c' hu hl hc;simp only[wa,hu]at hg;rw[hi _ _ hl,hi _ _ hc];rw[h3,h1,h4]at hd;simp only[hu]
    split at hd
    . rename_i s z b an hz hb
      split at hd
      . rename_i hc;rw[if_pos hc];simp only[oY,yx]at hd;obtain⟨rfl,rfl⟩:=hd;refine⟨λi=>.v (.slice (some ⟨i,0,none⟩) l'.toNat c'.toNat), ?_,λi=>hs i _ _⟩;simp only[gk,tY (GO (BZ hg hz))]
      . cases hd
    . cases hd
  . cases hd
 |_=>cases hd
def XW(hh:HS N h0 h){ty:TypeId}{p d:Option DV}{h1:ah}{b:Nat}(hd:lC e.ba h0 ty p d=some (h1,b)):∃h',lC e h ty (p.map (sh N)) (d.map (sh N))=some (h',b+N)/\HS N h1 h':=by
 have h3:e.ba.size=e.size:=rfl;unfold lC at hd
 split at hd
 . rename_i b' o d;rw[h3]at hd
   split at hd
   . rename_i cs ak n hg hs
     split at hd
     . rename_i hc;simp only[oY,yx]at hd;obtain⟨rfl,rfl⟩:=hd;refine⟨_, ?_,HS.set hh _ _⟩;simp only[Ey,bT,bY,eK,lC,hh.row hg,hs,BS,UR,vY];rw[if_pos hc];simp only[gk,afc,Xt,Yt]
     . cases hd
   . cases hd
 . cases hd
def B6{P:Program}{kt:TypeId}{k:Value}:∀{es:List bG} {r:Option Nat} (i:Nat),mS P kt k es i=some r->mS P kt k (es.map (fR N)) i=some r
 |[],r,i,h=>h
 |x::es,r,i,h=>by
  simp only[mS]at h;simp only[Fj,mS];have:(fR N x).key=x.key:=rfl;rw[this]
  split at h
  . cases h
  . exact h
  . exact B6 (i+1) h
def XX{es:List bG}{k:Value}{d:DV}(i:Nat):(es.modify i λx=>{x with key:=k,val:=d}).map (fR N)=(es.map (fR N)).modify i λx=>{x with key:=k,val:=sh N d}:=by
 induction es generalizing i with
 |nil=>cases i<;>rfl
 |cons x es ih=>cases i with
  |zero=>rfl
  |succ i=>simp only[List.modify_succ_cons,Fj,ih]
def XY{ty:TypeId}{k:Value}{d:DV}{es:List bG}{clock:Nat}{o:bJ}(hd:ky e.ba ty k d es clock=some o):ky e ty k (sh N d) (es.map (fR N)) clock=some (gk N o):=by
 unfold ky at hd;have hu:e.ba.under=e.under:=rfl;have hP:e.ba.P=e.P:=rfl;rw[hu,hP]at hd;unfold ky
 split at hd
 . rename_i kt et h1
   split at hd
   . cases hd
   . rename_i kd h2
     split at hd
     . rename_i hc;rw[if_pos hc]
       split at hd
       . cases hd
       . rename_i i h3;rw[B6 0 h3];have:((es.map (fR N))[i]?).map (·.key)=(es[i]?).map (·.key):=by
          rw[adr,Option.map_map];rfl
         simp only[this]
         split at hd
         . rename_i hs;rw[if_pos hs];cases hd;simp only[gk,XX]
         . cases hd
       . rename_i h3;rw[B6 0 h3];cases hd;simp only[gk,afc,Fj,Rb,fR]
     . cases hd
 . cases hd
def XZ(hh:HS N h0 h){ty:TypeId}{m k d:Option DV}{h1:ah}{b:Nat}(hk:iU k=true)(hd:jn e.ba h0 ty m k d=some (h1,b)):∃h',jn e h ty (m.map (sh N)) (k.map (sh N)) (d.map (sh N))=some (h',b+N)/\HS N h1 h':=by
 unfold jn at hd
 split at hd
 . rename_i r k d
   split at hd
   . rename_i es clock kv hg ao;simp only[Q0]at hd;obtain⟨o,h4,h5⟩:=hd;simp only[yx]at h5;obtain⟨rfl,rfl⟩:=h5;refine⟨_, ?_,HS.set hh _ _⟩;have hk:dD k=true:=hk;simp only[Ey,gH hk,bT,bY,jn,hh.mp hg,ao,XY h4]
   . cases hd
 . cases hd
def X0(hh:HS N h0 h){base:Option Addr}{len cap sz b n:Nat}{new:List DV}{d:DV}{h1:ah}{T:List Nat}(hd:eA h0 base len cap sz b n new=some (d,h1,T)):
 ∃h',eA h (base.map (eK N)) len cap sz b n (new.map (sh N))=some (sh N d,h',T.map (·+N))/\HS N h1 h':=by
 unfold eA at hd
 split at hd
 . rename_i hle
   split at hd
   . rename_i hn;simp only[oY,yx]at hd;obtain⟨rfl,rfl,rfl⟩:=hd;refine⟨h, ?_,hh⟩;unfold eA;rw[if_pos hle,if_pos hn];cases base<;>simp only[afj,Ey,bT,bY,Rb]
   . rename_i hn
     split at hd
     . rename_i i o
       split at hd
       . rename_i cs ak hg
         split at hd
         . rename_i hc;simp only[oY,yx]at hd;obtain⟨rfl,rfl,rfl⟩:=hd;refine⟨_, ?_,HS.set hh _ _⟩;unfold eA;rw[if_pos hle,if_neg hn];simp only[Ey,eK,hh.row hg,UR,vY];rw[if_pos hc];simp only[bT,bY,eK,gk,afc,Xt,Yt,Fj,Rb]
         . cases hd
       . cases hd
     . cases hd
 . rename_i hle
   split at hd
   . rename_i hb
     split at hd
     . split at hd
       . rename_i hc;simp only[oY,yx]at hd;obtain⟨rfl,rfl,rfl⟩:=hd;refine⟨_, ?_,HS.new hh _⟩;unfold eA;rw[if_neg hle,if_pos hb];simp only[afj];rw[if_pos hc];simp only[bT,bY,eK,gk,hh.next,Rb]
       . cases hd
     . rename_i i o
       split at hd
       . rename_i cs wr ak hg
         split at hd
         . rename_i hl
           split at hd
           . rename_i hc;simp only[oY,yx]at hd;obtain⟨rfl,rfl,rfl⟩:=hd;refine⟨_, ?_,HS.new hh _⟩;unfold eA;rw[if_neg hle,if_pos hb];simp only[Ey,eK,hh.row hg,UR];rw[if_pos hl,if_pos hc];simp only[bT,bY,eK,gk,hh.next,afc,Xt,Yt,Rb]
           . rename_i hc
             split at hd
             . rename_i av;simp only[oY,yx]at hd;obtain⟨rfl,rfl,rfl⟩:=hd;refine⟨_, ?_,HS.new (HS.set hh i none) _⟩;unfold eA;rw[if_neg hle,if_pos hb];simp only[Ey,eK,hh.row hg,UR,vY];rw[if_pos hl,if_neg hc,if_pos av];simp only[bT,bY,eK,gk,hh.next,afc,Xt,Yt,Rb,Fj,afj]
             . cases hd
         . cases hd
       . cases hd
     . cases hd
   . cases hd
def X1(hh:HS N h0 h){ad:Array TypeId}{ds:Option (List DV)}{d:DV}{h1:ah}{T:List Nat}(hd:iO e.ba h0 ad ds=some (d,h1,T)):
 ∃h',iO e h ad (ds.map λl=>l.map (sh N))=some (sh N d,h',T.map (·+N))/\HS N h1 h':=by
 have ha:e.ba.ap=e.ap:=rfl;have he:e.ba.elem=e.elem:=rfl;unfold iO at hd
 split at hd
 . rename_i base len cap x
   split at hd
   . rename_i st xt h2 h3;rw[ha,he]at hd
     split at hd
     . rename_i sz b u h4 h5
       split at hd
       . rename_i n new h6;obtain⟨h',q1,q2⟩:=X0 hh hd;refine⟨h', ?_,q2⟩;have:∃aa,sh N (.v (.slice base len cap))=.v (.slice aa len cap)/\aa=base.map (eK N):=by
          cases base
          . exact⟨_,by simp only[bT,bY];rfl,rfl⟩
          . exact⟨_,by simp only[bT,bY];rfl,rfl⟩
         obtain⟨aa,q3,q4⟩:=this;subst q4;simp only[Ey,Fj,Rb,q3,iO,h2,h3,h4,h5,GJ hh h6];exact q1
       . cases hd
     . cases hd
   . cases hd
 . cases hd
def X2(hh:HS N h0 h){ty:TypeId}{x:DV}{o:bJ}(hd:lD e.ba h0 ty x=some o):lD e h ty (sh N x)=some (gk N o):=by
 have hu:e.ba.under=e.under:=rfl;unfold lD at hd;rw[hu]at hd
 split at hd
 . rename_i h1;cases hd;simp only[bT,bY,lD,h1,gk]
 . rename_i h1;cases hd;simp only[bT,bY,lD,h1,gk,afj]
 . rename_i h1
   split at hd
   . rename_i hg;cases hd;simp only[bT,bY,lD,h1,hh.mp hg,gk,Ey]
   . cases hd
 . cases hd
def GQ:DV->Bool
 |.bf [_,k,_]=>dD k
 |_=>true
def yn{f:bG->Bool}(hf:∀x,f (fR N x)=f x)(es:List bG):(es.map (fR N)).filter f=(es.filter f).map (fR N):=by
 induction es with
 |nil=>rfl
 |cons x es ih=>
  simp only[Fj,aft,hf x,ih]
  split<;>rfl
def X3(hh:HS N h0 h){it v:DV}{s:Bool}{h1:ah}{r:Nat}(hn:GQ v=true)(hd:kz h0 it s=some (v,h1,r)):∃h',kz h (sh N it) s=some (sh N v,h',r+N)/\HS N h1 h':=by
 unfold kz at hd
 split at hd
 . rename_i b
   split at hd
   . rename_i st pos hg;have ab:h.get (b+N)=some (.eO st pos):=by rw[hh.get,hg];rfl
     split at hd
     . rename_i hc;simp only[oY,yx]at hd;obtain⟨rfl,rfl,rfl⟩:=hd;refine⟨_, ?_,HS.set hh _ _⟩;simp only[bT,bY,eK,kz,ab];rw[if_pos hc];simp only[js,Fj,Rb,bT,bY,gk,Ey]
     . rename_i hc;simp only[oY,yx]at hd;obtain⟨rfl,rfl,rfl⟩:=hd;refine⟨h, ?_,hh⟩;simp only[bT,bY,eK,kz,ab];rw[if_neg hc];simp only[js,Fj,Rb,bT,bY]
   . rename_i a b' c hg;simp only[oY,yx]at hd;obtain⟨rfl,rfl,rfl⟩:=hd;have ab:h.get (b+N)=some (.cC none a b' c):=by rw[hh.get,hg];rfl
     refine⟨h, ?_,hh⟩;simp only[bT,bY,eK,kz,ab,js,Fj,Rb]
   . rename_i m since seen last hg;have ab:h.get (b+N)=some (.cC (some (m+N)) since seen last):=by rw[hh.get,hg];rfl
     split at hd
     . rename_i es clock hm
       split at hd
       . cases hd
       . rename_i hc;have ae:¬(!seen.isEmpty&& !(es.map (fR N)).isEmpty&&(es.map (fR N)).all λx=>afg last x.born)=true:=by
          have h1:(es.map (fR N)).isEmpty=es.isEmpty:=by cases es<;>rfl
          have h2:((es.map (fR N)).all λx=>afg last x.born)=es.all λx=>afg last x.born:=by rw[List.all_map];rfl
          rw[h1,h2];exact hc
         have af:((es.map (fR N)).filter λx=> !seen.contains x.born).filter (λx=>decide (x.born<since))=((es.filter λx=> !seen.contains x.born).filter λx=>decide (x.born<since)).map (fR N):=by
          rw[yn (λx=>rfl),yn (λx=>rfl)]
         have ai:((es.map (fR N)).filter λx=> !seen.contains x.born).filter (λx=>decide (x.born>=since))=((es.filter λx=> !seen.contains x.born).filter λx=>decide (x.born>=since)).map (fR N):=by
          rw[yn (λx=>rfl),yn (λx=>rfl)]
         split at hd
         . rename_i e1 e2;simp only[oY,yx]at hd;obtain⟨rfl,rfl,rfl⟩:=hd;refine⟨h, ?_,hh⟩;simp only[bT,bY,eK,kz,ab,hh.mp hm];rw[if_neg ae,af,ai,e1,e2];simp only[js,Fj,Rb,bT,bY]
         . rename_i x e1 e2;simp only[oY,yx]at hd;obtain⟨rfl,rfl,rfl⟩:=hd;refine⟨_, ?_,HS.set hh _ _⟩;simp only[bT,bY,eK,kz,ab,hh.mp hm];rw[if_neg ae,af,ai,e1,e2];have hk:dD (fO x.key)=true:=hn;have aw:fO (fR N x).key=sh N (fO x.key):=(gH hk).symm;simp only[js,Fj,Rb,bT,bY,aw,gk,Ey];rfl
         . cases hd
     . cases hd
   . cases hd
 . cases hd
end Go.aD
end
noncomputable section
namespace Go.aD
abbrev X4:=FuncId->List DV->ah->Option (DV×ah)
abbrev iW:=FuncId->List DV->ah->Option (DV×ah×List Nat)
def iX(e:Env)(h:ah)(t:Tr DV)(op:Op):Option DV:=match aZ e h t op with
 |none=>none
 |some r=>bif jt e t op r then some r else none
def nX(e:Env)(t:Tr DV)(dd:List FuncId)(h:ah)(op:Op):Option (DV×List FuncId×ah×List Nat):=
 bif wa e op then match dV e t op with
  |none=>none
  |some (o,f)=>some (f h.next,dd,h.new o,[])
 else none
def yo(e:Env)(t:Tr DV)(dd:List FuncId)(h:ah)(ty:TypeId)(m k v:Operand):Option (DV×List FuncId×ah×List Nat):=
 bif iU (aJ e t k)then match jn e h ty (aJ e t m) (aJ e t k) (aJ e t v)with
  |none=>none
  |some (h,b)=>some (cX,dd,h,[b])
 else none
def ph(e:Env)(cf:iW)(op:Op)(t:Tr DV)(dd:List FuncId)(h:ah):Option (DV×List FuncId×ah×List Nat):=
 match op with
 |.alloc ty=>nX e t dd h (.alloc ty)
 |.box ty x=>nX e t dd h (.box ty x)
 |.buildSlice ty n ps=>nX e t dd h (.buildSlice ty n ps)
 |.makeMap ty n=>nX e t dd h (.makeMap ty n)
 |.makeSlice ty l c=>nX e t dd h (.makeSlice ty l c)
 |.store ty a x=>match lC e h ty (aJ e t a) (aJ e t x)with
  |none=>none
  |some (h,b)=>some (cX,dd,h,[b])
 |.mapUpdate ty m k v=>yo e t dd h ty m k v
 |.insert ty m k v=>yo e t dd h ty m k v
 |.range ty x=>match(aJ e t x).bind (lD e h ty)with
  |none=>none
  |some o=>some (.v (.pointer (some ⟨h.next,0,none⟩)),dd,h.new o,[])
 |.next it s=>match(aJ e t it).bind (kz h · s)with
  |none=>none
  |some (v,h,r)=>bif GQ v then some (v,dd,h,[r])else none
 |.defer c=>match c.callee with
  |.value f=>match jo (aJ e t f) (cM e t c.args.toList)with
   |none=>none
   |some (g,_)=>some (cX,g::dd,h,[])
  |_=>none
 |.call c=>match c.callee with
  |.value f=>match jo (aJ e t f) (cM e t c.args.toList)with
   |none=>none
   |some (g,l)=>match cf g l h with
    |none=>none
    |some (v,h,T)=>some (v,dd,h,T)
  |.builtin .append=>match iO e h c.argTypes (cM e t c.args.toList)with
   |none=>none
   |some (v,h,T)=>some (v,dd,h,T)
  |_=>match iX e h t (.call c)with
   |none=>none
   |some v=>some (v,dd,h,[])
 |op=>match iX e h t op with
  |none=>none
  |some v=>some (v,dd,h,[])
def fin(dd:List FuncId)(h:ah):Option DV->Option (DV×List FuncId×ah×List Nat)
 |none=>none
 |some v=>some (v,dd,h,[])
def tZ(b:DV->Bool):Option DV->Option DV
 |none=>none
 |some r=>bif b r then some r else none
def X5(e:Env)(t:Tr DV)(c a b:Operand):Option DV:=qp (aJ e t c) (aJ e t a) (aJ e t b)
def GR(e:Env)(t:Tr DV)(ty:TypeId)(ps:Array (Nat×Operand)):Option DV:=bif nW e ty then(match fP e t ps.toList with|none=>none|some l=>eo e ty l)else none
def GS(e:Env)(t:Tr DV)(o:UnOp)(x:Operand):Option DV:=match aJ e t x with
 |none=>none
 |some a=>bif dD a then tZ dD (lx (nI e o) a)else none
def X6(e:Env)(t:Tr DV)(dd:List FuncId)(h:ah)(cf:iW)(f:Operand)(an:Array Operand):Option (DV×List FuncId×ah×List Nat):=match jo (aJ e t f) (cM e t an.toList)with
 |none=>none
 |some (g,l)=>match cf g l h with
  |none=>none
  |some (v,h,T)=>some (v,dd,h,T)
def X7(e:Env)(t:Tr DV)(dd:List FuncId)(h:ah)(cf:iW)(c:Call):Option (DV×List FuncId×ah×List Nat):=match c.callee with
 |.value f=>X6 e t dd h cf f c.args
 |.builtin .append=>(match iO e h c.argTypes (cM e t c.args.toList)with
  |none=>none
  |some (v,h,T)=>some (v,dd,h,T))
 |_=>fin dd h (iX e h t (.call c))
def X8(e:Env)(t:Tr DV)(dd:List FuncId)(h:ah)(ty:TypeId)(a x:Operand):Option (DV×List FuncId×ah×List Nat):=match lC e h ty (aJ e t a) (aJ e t x)with
 |none=>none
 |some (h,b)=>some (cX,dd,h,[b])
def mY:Operand->Env->Tr DV->Option DV
 |.tmp i=>λ_ t=>t.get i
 |.const v=>λ_ _=>bif plain v then some (fO v)else none
 |.global g=>λe _=>bif afh g e.oq then(if g=ez then some (.ptr ql 0)else none)else none
 |.func f=>λ_ _=>some (.fn f [] [])
def pq(o:Operand)(e:Env)(t:Tr DV):mY o e t=aJ e t o:=by cases o<;>rfl
abbrev j0:=Env->iW->Tr DV->List FuncId->ah->Option (DV×List FuncId×ah×List Nat)
def yp(x:Operand):j0:=λe _ t dd h=>fin dd h (mY x e t)
def X9(c a b:Operand):j0:=λe _ t dd h=>fin dd h (X5 e t c a b)
def Ya(ty:TypeId)(ps:Array (Nat×Operand)):j0:=λe _ t dd h=>fin dd h (GR e t ty ps)
def GU(ty:TypeId)(a:Operand):j0:=λe _ t dd h=>match mY a e t with|none=>none|some d=>fin dd h (iN e h ty d)
def GW(a:Operand):j0:=λe _ t dd h=>match mY a e t with|none=>none|some d=>fin dd h (kR d)
def GX(o:BinOp)(ty:TypeId)(x y:Operand):j0:=λe _ t dd h=>match mY x e t with
 |none=>none
 |some a=>match mY y e t with
  |none=>none
  |some b=>bif dD a&&dD b then fin dd h (tZ dD (iC e o ty x y a b))else none
def Yb(o:UnOp)(x:Operand):j0:=λe _ t dd h=>fin dd h (GS e t o x)
def GY(s:TypeId)(x:Operand)(f:Nat):j0:=λe _ t dd h=>match mY x e t with|none=>none|some d=>fin dd h (kr e s f d)
def GZ(s:TypeId)(x:Operand)(f:Nat):j0:=λe _ t dd h=>match mY x e t with|none=>none|some d=>fin dd h (qm e s f d)
def G5(ty:TypeId)(x ix:Operand):j0:=λe _ t dd h=>match mY x e t with
 |none=>none
 |some a=>match mY ix e t with
  |none=>none
  |some b=>fin dd h (iB e ty a (fX b))
def G6(x:Operand)(i:Nat):j0:=λe _ t dd h=>match mY x e t with
 |none=>none
 |some d=>fin dd h (tZ (λr=> !isVal (some d)||dD r) (ma i d))
def Yc(ty:TypeId)(a x:Operand):j0:=λe _ t dd h=>X8 e t dd h ty a x
def Yd(c:Call):j0:=λe cf t dd h=>X7 e t dd h cf c
def G7(op:Op):j0:=λe _ t dd h=>nX e t dd h op
def Ye(op:Op):j0:=λe cf t dd h=>ph e cf op t dd h
def mo(op:Op):j0:=
 match op with
 |.move x=>yp x
 |.assign x=>yp x
 |.pick c a b=>X9 c a b
 |.build ty ps=>Ya ty ps
 |.load ty a=>GU ty a
 |.nilCheck a=>GW a
 |.binOp o ty x y _=>GX o ty x y
 |.unOp o _ x=>Yb o x
 |.fieldAddr s x f=>GY s x f
 |.field s x f=>GZ s x f
 |.indexAddr ty x ix=>G5 ty x ix
 |.extract x i=>G6 x i
 |.store ty a x=>Yc ty a x
 |.call c=>Yd c
 |.alloc ty=>G7 (.alloc ty)
 |.box ty x=>G7 (.box ty x)
 |op=>Ye op
def lM(e:Env)(cf:iW)(op:Op)(t:Tr DV)(dd:List FuncId)(h:ah):Option (DV×List FuncId×ah×List Nat):=mo op e cf t dd h
def G8(e:Env)(cf:iW)(op:Op)(t:Tr DV)(dd:List FuncId)(h:ah):lM e cf op t dd h=ph e cf op t dd h:=by
 have key:∀op r,iX e h t op=r->(match iX e h t op with|none=>none|some v=>some (v,dd,h,([]:List Nat)))=fin dd h r:=λop r hr=>by subst hr;cases iX e h t op<;>rfl
 have ae:∀(x:Option DV),(match x with|none=>none|some r=>bif true then some r else none)=x:=λx=>by cases x<;>rfl
 cases op with
 |move x=>
  refine YN ?_ (key (.move x) _ (ae _)).symm;simp only[lM,mo,yp,pq,aZ]
 |assign x=>
  refine YN ?_ (key (.assign x) _ (ae _)).symm;simp only[lM,mo,yp,pq,aZ]
 |pick c a b=>exact(key (.pick c a b) _ (ae _)).symm
 |build ty ps=>
  refine(key (.build ty ps) _ ?_).symm;simp only[iX,aZ,jt,GR];cases fP e t ps.toList<;>simp
  . cases eo e ty _<;>cases nW e ty<;>rfl
 |load ty a=>
  refine YN ?_ (key (.load ty a) _ (ae _)).symm;simp only[lM,mo,GU,pq,aZ];cases aJ e t a<;>rfl
 |nilCheck a=>
  refine YN ?_ (key (.nilCheck a) _ (ae _)).symm;simp only[lM,mo,GW,pq,aZ];cases aJ e t a<;>rfl
 |binOp o ty x y z=>
  refine YN ?_ (key (.binOp o ty x y z) _ rfl).symm;simp only[lM,mo,GX,pq,iX,aZ,jt,fY];cases aJ e t x<;>cases aJ e t y<;>simp[iU,fin];rename_i a b;cases iC e o ty x y a b<;>cases dD a<;>cases dD b<;>simp[tZ,fin]
 |unOp o ty x=>
  refine(key (.unOp o ty x) _ ?_).symm;simp only[iX,aZ,jt,GS];cases aJ e t x<;>simp[iU];rename_i a;cases lx (nI e o) a<;>cases dD a<;>simp[tZ]
 |fieldAddr s x f=>
  refine YN ?_ (key (.fieldAddr s x f) _ (ae _)).symm;simp only[lM,mo,GY,pq,aZ];cases aJ e t x<;>rfl
 |field s x f=>
  refine YN ?_ (key (.field s x f) _ (ae _)).symm;simp only[lM,mo,GZ,pq,aZ];cases aJ e t x<;>rfl
 |indexAddr ty x ix=>
  refine YN ?_ (key (.indexAddr ty x ix) _ (ae _)).symm;simp only[lM,mo,G5,pq,aZ,fY];cases aJ e t x<;>cases aJ e t ix<;>rfl
 |extract x i=>
  refine YN ?_ (key (.extract x i) _ rfl).symm;simp only[lM,mo,G6,pq,iX,aZ,jt];cases aJ e t x<;>simp[fin];rename_i d;cases ma i d<;>simp[tZ]
 |store ty a x=>rfl
 |call c=>
  obtain⟨callee,args,af⟩:=c;cases callee with
  |value f=>rfl
  |builtin b=>cases b<;>first|rfl|exact(key (.call ⟨.builtin _,args,af⟩) _ rfl).symm
  |invoke a b=>exact(key (.call ⟨.invoke a b,args,af⟩) _ rfl).symm
 |_=>rfl
def wb(dst:Option Tmp)(n:Nat):Bool:=match dst with
 |none=>true
 |some d=>afh d n
def sf(e:Env)(cf:iW)(all:List Oper):List Oper->Tr DV->Nat->List FuncId->ah->Option DS
 |[],t,n,dd,h=>some ⟨t,n,dd,h⟩
 |o::r,t,n,dd,h=>bif wb o.dst n then match iD all t o with
  |none=>none
  |some true=>match lM e cf o.op t dd h with
   |none=>none
   |some (v,dd,h,_)=>sf e cf all r (cH o.dst v t) n dd h
  |some false=>sf e cf all r (cH o.dst cX t) n dd h
  else none
abbrev wc:=Tr DV->Nat->List FuncId->ah->Option DS
def Yf(ih:wc)(dst:Option Tmp)(n:Nat)(t:Tr DV):Option (DV×List FuncId×ah×List Nat)->Option DS
 |none=>none
 |some (v,dd,h,_)=>ih (cH dst v t) n dd h
def B7(e:Env)(cf:iW)(all:List Oper)(o:Oper)(ih:wc):wc:=λt n dd h=>bif wb o.dst n then match iD all t o with
 |none=>none
 |some true=>Yf ih o.dst n t (mo o.op e cf t dd h)
 |some false=>ih (cH o.dst cX t) n dd h
 else none
def qc(e:Env)(cf:iW)(all:List Oper)(l:List Oper):wc:=List.rec (motive:=λ_=>wc) (λt n dd h=>some ⟨t,n,dd,h⟩) (λo _ ih=>B7 e cf all o ih) l
def G9(e:Env)(cf:iW)(all:List Oper):∀(l:List Oper) (t:Tr DV) (n:Nat) (dd:List FuncId) (h:ah),qc e cf all l t n dd h=sf e cf all l t n dd h
 |[],_,_,_,_=>rfl
 |o::r,t,n,dd,h=>by
  have ih:=G9 e cf all r;show B7 e cf all o (qc e cf all r) t n dd h=_;unfold B7;simp only[sf];cases wb o.dst n<;>simp;cases iD all t o with
  |none=>rfl
  |some w=>cases w with
   |true=>
    simp only[lM];cases mo o.op e cf t dd h with
    |none=>rfl
    |some q=>exact ih _ _ _ _
   |false=>exact ih _ _ _ _
def ic(N0:Nat)(T:List Nat):Option Nat->Bool
 |none=>true
 |some b=>afh b N0&& !T.contains b
def mZ(e:Env)(cf:iW)(ops:List Oper)(N0:Nat):List Oper->List PJ->Nat->Nat->Nat->Tr DV->Nat->List FuncId->ah->eW->List Nat->List (Nat×Nat)->Option DS
 |[],_,_,_,_,t,n,dd,h,ax,_,_=>some ⟨t,n,dd,kV h ax⟩
 |_::_,[],_,_,_,_,_,_,_,_,_,_=>none
 |o::r,p::pl,i,id,c,t,n,dd,h,ax,T,L=>bif wb o.dst n then match iD ops t o with
  |none=>none
  |some true=>match p.c with
   |.pure=>match iX e h t o.op with
    |none=>none
    |some v=>mZ e cf ops N0 r pl (i+1) id c (cH o.dst v t) n dd h ax T L
   |.read=>match iX e (fD h p.m ax) t o.op with
    |none=>none
    |some v=>bif !p.bp||ic N0 T (dL e t o.op)then mZ e cf ops N0 r pl (i+1) id c (cH o.dst v t) n dd h ax T (kA p.dy (dL e t o.op) L)else none
   |.alloc=>bif wa e o.op then match dV e t o.op with
    |none=>none
    |some (ob,f)=>mZ e cf ops N0 r pl (i+1) (id+1) c (cH o.dst (f id) t) n dd h ((i,id,ob)::ax) T L
    else none
   |.effect=>match lM e cf o.op t dd (fD h p.m ax)with
    |none=>none
    |some (v,dd,h,T')=>bif L.all (λq=> !Nat.ble (c+1) q.2|| !T'.contains q.1)then mZ e cf ops N0 r pl (i+1) id (c+1) (cH o.dst v t) n dd h (iP p.m ax) (T'++T) L else none
   |.bad=>none
  |some false=>match p.c with
   |.alloc=>mZ e cf ops N0 r pl (i+1) (id+1) c (cH o.dst cX t) n dd h ax T L
   |.effect=>mZ e cf ops N0 r pl (i+1) id (c+1) (cH o.dst cX t) n dd h ax T L
   |.bad=>none
   |_=>mZ e cf ops N0 r pl (i+1) id c (cH o.dst cX t) n dd h ax T L
  else none
def Ha(oms:List ((Oper×Nat)×Nat)):Nat->List Nat->List Nat
 |0,acc=>acc
 |k+1,acc=>
  let more:=acc.flatMap λi=>match oms[i]? with
   |none=>[]
   |some ((o,_),_)=>match cls o.op with
    |.alloc=>[]
    |_=>(slotsOf o.op).flatMap λt=>(oms.filter λx=>match x.1.1.dst with|some d=>afk d t|none=>false).map (·.2)
  let new:=(more.filter λx=> !acc.contains x).eraseDups
  match new with
  |[]=>acc
  |_=>Ha oms k (acc++new)
def B8(ops:List Oper):List PJ:=
 let oms:=(ops.zip (bz ops)).zipIdx
 let ef:=jJ (ops.zip (bz ops)) 0
 let need:=Ha oms 60 ((oms.filter λx=>decide (cls x.1.1.op=.read)&&afh (ef.filter λp=>x.1.2.testBit p.1).length (ef.filter λp=> !p.2.testBit x.2).length).map (·.2))
 oms.map λx=>
  let lo:=(ef.filter λp=>x.1.2.testBit p.1).length
  let hi:=(ef.filter λp=> !p.2.testBit x.2).length
  ⟨cls x.1.1.op,x.1.2,(bif decide (cls x.1.1.op=.read)&&afh lo hi then some (lo,hi+1-lo)else none),need.contains x.2⟩
abbrev ju:=Code->DS->Option (bu×DS)
def nY(e:Env)(ev:ju):X4:=λf args h=>match e.fn f with
 |none=>none
 |some fn=>match fn.body with
  |none=>none
  |some c=>match ev c ⟨gD args,args.length+(fn.ntmps-args.length),[],h⟩with
   |none=>none
   |some (.exit _,_)=>none
   |some (_,s)=>bif s.dd.all e.idle then match fZ e s fn.results.toList with
    |none=>none
    |some l=>some (jS l,s.h)
    else none
def ua(h':ah):Nat->Nat->Tr bJ->Tr bJ
 |0,_,m=>m
 |k+1,i,m=>match h'.get i with
  |some o=>ua h' k (i+1) (m.set i (some o))
  |none=>ua h' k (i+1) m
def kX(h h':ah):ah:=⟨ua h' (h'.next-h.next) h.next h.m,h'.next⟩
def chunks(cs:List DV)(o k:Nat)(f:DV->DV):Nat->List (List DV)
 |0=>[]
 |n+1=>((cs.drop o).take k).map f::chunks cs (o+k) k f n
def sg(cs:List DV)(o c ak:Nat):Nat:=bif afk ak 0 then Nat.div (cs.length-o) c else ak
def we(cs:List DV)(o n c k:Nat):Bool:=afh 0 k&&afg n c&&afg (o+n*k) cs.length
def Hb(f:DV->DV)(d:DV)(o n c:Nat):Option bJ->DV
 |some (.row cs _ ak)=>bif we cs o n c (sg cs o c ak)then .sl (sg cs o c ak) (chunks cs o (sg cs o c ak) f n)else d
 |_=>d
def mq(h:ah):Nat->DV->DV
 |0,d=>d
 |m+1,d=>match d with
  |.v (.slice (some ⟨b,o,none⟩) n c)=>Hb (mq h m) (.v (.slice (some ⟨b,o,none⟩) n c)) o n c (h.get b)
  |.agg l=>.agg (l.map (mq h m))
  |d=>d
def Hc(h:ah):DV->Bool
 |.v (.slice (some a) _ _)=>(h.get a.block).isSome
 |_=>false
def Hd(h:ah):DV->Bool
 |.v x=>Hc h (.v x)
 |.agg l=>l.any (Hc h)
 |_=>false
def B9(f:DV->List Nat)(b o n c:Nat):Option bJ->List Nat
 |some (.row cs _ ak)=>bif we cs o n c (sg cs o c ak)then b::cs.flatMap f else []
 |_=>[]
def qz(h:ah):Nat->DV->List Nat
 |0,_=>[]
 |m+1,d=>match d with
  |.v (.slice (some ⟨b,o,none⟩) n c)=>B9 (qz h m) b o n c (h.get b)
  |.agg l=>l.flatMap (qz h m)
  |_=>[]
def Ca:DV->Bool
 |.v u=>iT u
 |_=>false
def He(h:ah)(v:DV)(h':ah)(l:List Nat):Option (DV×ah×List Nat):=some (v,kX (eV h l) h',l)
def Cb(args:List DV)(h:ah):Option (DV×ah)->Option (DV×ah×List Nat)
 |none=>none
 |some (v,h')=>bif Ca v then some (v,h.up h'.next,[])else He h v h' (args.flatMap (qz h 4))
def Cc(h:ah):Option (DV×ah)->Option (DV×ah×List Nat)
 |none=>none
 |some (v,h')=>some (v,kX h h',[])
def wg(e:Env)(ev:ju):iW:=λf args h=>bif args.any (Hd h)then Cb args h (nY e ev f (args.map (mq h 4)) ⟨.nil,h.next⟩)else Cc h (nY e ev f args ⟨.nil,h.next⟩)
def Hf:Option (DV×ah)->Option (DV×ah×List Nat)
 |none=>none
 |some (v,h)=>some (v,h,[])
def wh(e:Env)(ev:ju):iW:=λf args h=>Hf (nY e ev f args h)
def Hg(e:Env)(ev:ju)(l:List Oper)(draw:Bool)(s:DS):Option DS:=match s with
 |⟨t,n,dd,h⟩=>match draw with
  |false=>qc e (wh e ev) l l t n dd h
  |true=>bif vN l (B8 l)then mZ e (wg e ev) l h.next l (B8 l) 0 h.next 0 t n dd (h.up (h.next+(l.filter λo=>cls o.op==.alloc).length)) [] [] []else none
abbrev ub:=Env->ju->DS->Option (bu×DS)
def uc(ops:Array Oper)(draw:Bool):ub:=λe ev s=>match Hg e ev ops.toList draw s with
 |none=>none
 |some s=>some (.normal,s)
def ud(a b:Code):ub:=λ_ ev s=>match ev a s with
 |some (.normal,s)=>ev b s
 |r=>r
def ue(c:Operand)(a b:Code):ub:=λe ev s=>match aJ e s.t c with
 |some (.v (.bool true))=>ev a s
 |some (.v (.bool false))=>ev b s
 |_=>none
def uf(id:Nat)(c:Code):ub:=λ_ ev s=>match ev c s with
 |some (.exit i,s)=>bif afk i id then some (.normal,s)else some (.exit i,s)
 |r=>r
def ug(c:Code):ub:=λ_ ev s=>match ev c s with
 |some (.normal,s)=>ev (.loop c) s
 |r=>r
def px(c:Code):ub:=match c with
 |.skip=>λ_ _ s=>some (.normal,s)
 |.exit id=>λ_ _ s=>some (.exit id,s)
 |.ret=>λ_ _ s=>some (.ret,s)
 |.region _ ops draw=>uc ops draw
 |.seq a b=>ud a b
 |.cond c a b=>ue c a b
 |.block id c=>uf id c
 |.loop c=>ug c
 |_=>λ_ _ _=>none
def m8(e:Env)(ev:ju):ju:=λc s=>px c e ev s
def nZ(e:Env):Nat->ju
 |0=>λ_ _=>none
 |n+1=>m8 e (nZ e n)
variable {e:Env} {N:Nat}
def Cd{t0 t:Tr DV}{h0 h:ah}(hh:HS N h0 h)(ht:TS N t0 t){op:Op}{r:DV}(hd:iX e.ba h0 t0 op=some r):aZ e h t op=some (sh N r):=by
 unfold iX at hd
 split at hd
 . cases hd
 . rename_i r' h1;obtain⟨h2,h3⟩:=cg hd;cases h3;exact XV hh ht h2 h1
def si(e:Env)(N:Nat)(pu:Bool)(cf:iW):Prop:=∀f args h0 v h1 T0,cf f args h0=some (v,h1,T0)->∀h,HS N h0 h->∀K:DV->ah->List Nat->Prop,(∀h',HS N h1 h'->∀T,(pu=true->T=T0.map (·+N))->K (sh N v) h' T)->cJ e true f (args.map (sh N)) h K
def Yg{t0 t:Tr DV}{h0 h h1:ah}(hh:HS N h0 h)(ht:TS N t0 t){op:Op}{dd ad:List FuncId}{v:DV}{T:List Nat}(hd:nX e.ba t0 dd h0 op=some (v,ad,h1,T))(K:b9)(hk:∀h',HS N h1 h'->K (sh N v) ad h' []):
 aN (dV e t op) λp=>K (p.2 h.next) dd (h.new p.1) []:=by
 unfold nX at hd;obtain⟨hg,hd⟩:=cg hd
 split at hd
 . cases hd
 . rename_i o f ha;simp only[oY,yx]at hd;obtain⟨rfl,rfl,rfl,rfl⟩:=hd;obtain⟨f',h2,h3⟩:=GP (e:=e) ht hg ha;refine⟨_,h2, ?_⟩;simp only;rw[hh.next,h3];exact hk _ (hh.new o)
def Hh{t0 t:Tr DV}{h0 h h1:ah}(hh:HS N h0 h)(ht:TS N t0 t){ty:TypeId}{m k x:Operand}{dd ad:List FuncId}{v:DV}{T:List Nat}(hd:yo e.ba t0 dd h0 ty m k x=some (v,ad,h1,T))(K:b9)(hk:∀h',HS N h1 h'->K (sh N v) ad h' (T.map (·+N))):
 aN (jn e h ty (aJ e t m) (aJ e t k) (aJ e t x)) λp=>K cX dd p.1 [p.2]:=by
 unfold yo at hd;obtain⟨hg,hd⟩:=cg hd
 split at hd
 . cases hd
 . rename_i h' b hm;simp only[oY,yx]at hd;obtain⟨rfl,rfl,rfl,rfl⟩:=hd;obtain⟨h2,q1,q2⟩:=XZ hh hg hm;have hs:∀o:Operand,aJ e.ba t0 o≠none->aJ e t o=(aJ e.ba t0 o).map (sh N):=λo ho=>by
    cases hq:aJ e.ba t0 o with
    |none=>exact absurd hq ho
    |some d=>rw[ee ht hq];rfl
   have h3:aJ e.ba t0 m≠none/\aJ e.ba t0 k≠none/\aJ e.ba t0 x≠none:=by
    unfold jn at hm
    split at hm
    . rename_i e1 e2 e3;simp[e1,e2,e3]
    . cases hm
   rw[hs m h3.1,hs k h3.2.1,hs x h3.2.2];exact⟨_,q1,hk h2 q2⟩
def yq{t0 t:Tr DV}(ht:TS N t0 t){o:Operand}(ho:aJ e.ba t0 o≠none):aJ e t o=(aJ e.ba t0 o).map (sh N):=by
 cases hq:aJ e.ba t0 o with
 |none=>exact absurd hq ho
 |some d=>rw[ee ht hq];rfl
def Hi{pu:Bool}{cf:iW}(ab:si e N pu cf){t0 t:Tr DV}{h0 h h1:ah}(hh:HS N h0 h)(ht:TS N t0 t){op:Op}{dd ad:List FuncId}{v:DV}{T:List Nat}(hd:ph e.ba cf op t0 dd h0=some (v,ad,h1,T))(K:b9)
 (hk:∀h',HS N h1 h'->∀T',(pu=true->T'=T.map (·+N))->K (sh N v) ad h' T'):cx e true op t dd h K:=by
 have val:∀op,(match iX e.ba h0 t0 op with|none=>none|some v=>some (v,dd,h0,([]:List Nat)))=some (v,ad,h1,T)->aN (aZ e h t op) λv=>K v dd h []:=λop hv=>by
  split at hv
  . cases hv
  . rename_i r hr;simp only[oY,yx]at hv;obtain⟨rfl,rfl,rfl,rfl⟩:=hv;exact⟨_,Cd hh ht hr,hk h hh [] λ_=>rfl⟩
 have nw:∀op,nX e.ba t0 dd h0 op=some (v,ad,h1,T)->aN (dV e t op) λp=>K (p.2 h.next) dd (h.new p.1) []:=λop hn=>by
  refine Yg hh ht hn K λh' h2=>hk h' h2 [] λ_=> ?_;unfold nX at hn;obtain⟨_,hn⟩:=cg hn
  split at hn
  . cases hn
  . simp only[oY,yx]at hn;rw[<-hn.2.2.2];rfl
 cases op with
 |alloc ty=>exact nw _ hd
 |box ty x=>exact nw _ hd
 |buildSlice ty n ps=>exact nw _ hd
 |makeMap ty n=>exact nw _ hd
 |makeSlice ty l c=>exact nw _ hd
 |store ty a x=>
  simp only[ph]at hd;simp only[cx]
  split at hd
  . cases hd
  . rename_i h' b hs;simp only[oY,yx]at hd;obtain⟨rfl,rfl,rfl,rfl⟩:=hd;obtain⟨h2,q1,q2⟩:=XW hh hs;have h3:aJ e.ba t0 a≠none/\aJ e.ba t0 x≠none:=by
     unfold lC at hs
     split at hs
     . rename_i e1 e2;simp[e1,e2]
     . cases hs
    rw[yq ht h3.1,yq ht h3.2];exact⟨_,q1,hk h2 q2 _ λ_=>rfl⟩
 |mapUpdate ty m k x=>exact Hh hh ht hd K λh' h2=>hk h' h2 _ λ_=>rfl
 |insert ty m k x=>exact Hh hh ht hd K λh' h2=>hk h' h2 _ λ_=>rfl
 |range ty x=>
  simp only[ph]at hd;simp only[cx]
  split at hd
  . cases hd
  . rename_i o hx;simp only[oY,yx]at hd;obtain⟨rfl,rfl,rfl,rfl⟩:=hd;obtain⟨d,q1,q2⟩:=HT.1 hx;refine⟨gk N o,by rw[ee ht q1];exact X2 hh q2, ?_⟩;have:=hk _ (hh.new o) [] λ_=>rfl;simp only[bT,bY,eK]at this;rw[hh.next];exact this
 |next it s=>
  simp only[ph]at hd;simp only[cx]
  split at hd
  . cases hd
  . rename_i v' h' r hx;obtain⟨hg,hd⟩:=cg hd;simp only[oY,yx]at hd;obtain⟨rfl,rfl,rfl,rfl⟩:=hd;obtain⟨d,q1,q2⟩:=HT.1 hx;obtain⟨h2,q3,q4⟩:=X3 hh hg q2;refine⟨_,by rw[ee ht q1];exact q3,hk _ q4 _ λ_=>rfl⟩
 |defer c=>
  simp only[ph]at hd;simp only[cx]
  split at hd
  . rename_i f hf;simp only[hf]
    split at hd
    . cases hd
    . rename_i g l hx;simp only[oY,yx]at hd;obtain⟨rfl,rfl,rfl,rfl⟩:=hd;have h3:aJ e.ba t0 f≠none/\∃l,cM e.ba t0 c.args.toList=some l:=by
       unfold jo at hx
       split at hx
       . rename_i e1 e2;exact⟨by simp[e1],_,e2⟩
       . cases hx
      obtain⟨h3,l',h4⟩:=h3;have key:=GN (N:=N) hx;rw[h4]at key;refine⟨(g,l.map (sh N)),by rw[yq ht h3,nV ht h4];exact key, ?_⟩;have:=hk h hh [] λ_=>rfl;rwa[bT,qy (by rfl)]at this
  . cases hd
 |call c=>
  simp only[ph]at hd;simp only[cx]
  split at hd
  . rename_i f hf;simp only[hf]
    split at hd
    . cases hd
    . rename_i g l hx
      split at hd
      . cases hd
      . rename_i v' h' T' hc;simp only[oY,yx]at hd;obtain⟨rfl,rfl,rfl,rfl⟩:=hd;have h3:aJ e.ba t0 f≠none/\∃l,cM e.ba t0 c.args.toList=some l:=by
         unfold jo at hx
         split at hx
         . rename_i e1 e2;exact⟨by simp[e1],_,e2⟩
         . cases hx
        obtain⟨h3,l',h4⟩:=h3;have key:=GN (N:=N) hx;rw[h4]at key;refine⟨(g,l.map (sh N)),by rw[yq ht h3,nV ht h4];exact key, ?_⟩;exact ab g l h0 _ _ _ hc h hh _ λh2 q T' hT=>hk h2 q T' hT
  . rename_i hf;simp only[hf]
    split at hd
    . cases hd
    . rename_i v' h' T' hx;simp only[oY,yx]at hd;obtain⟨rfl,rfl,rfl,rfl⟩:=hd;have h4:∃l,cM e.ba t0 c.args.toList=some l:=by
       cases hq:cM e.ba t0 c.args.toList with
       |none=>rw[hq]at hx;simp[iO]at hx
       |some l=>exact⟨l,rfl⟩
      obtain⟨l',h4⟩:=h4;obtain⟨h2,q1,q2⟩:=X1 hh hx;rw[h4]at q1;refine⟨_,by rw[nV ht h4];exact q1,hk h2 q2 _ λ_=>rfl⟩
  . rename_i h5 h6;obtain⟨callee,args,af⟩:=c;cases callee with
    |value f=>exact absurd rfl (h5 f)
    |builtin b=>cases b<;>first|exact absurd rfl h6|exact val _ hd|(simp[iX,aZ]at hd)
    |invoke a b=>exact val _ hd
 |entry it=>simp[ph,iX,aZ]at hd
 |_=>exact val _ hd
def Hj{dst:Option Tmp}{n:Nat}(h:wb dst n=true):dB dst n:=by
 cases dst with
 |none=>trivial
 |some d=>exact afl h
def Hk:sh N cX=cX:=by rw[bT,qy (by rfl)]
def Ce{pu:Bool}{cf:iW}(ab:si e N pu cf){all:List Oper}:∀{r:List Oper} {t0 t:Tr DV} {n:Nat} {dd:List FuncId} {h0 h:ah} {s1:DS},HS N h0 h->TS N t0 t->sf e.ba cf all r t0 n dd h0=some s1->∀(K:DS->Prop),(∀t' h',TS N s1.t t'->HS N s1.h h'->K ⟨t',s1.n,s1.dd,h'⟩)->eU e true all r t n dd h K
 |[],t0,t,n,dd,h0,h,s1,hh,ht,hd,K,hk=>by
  simp only[sf,oY]at hd;subst hd;exact hk t h ht hh
 |o::r,t0,t,n,dd,h0,h,s1,hh,ht,hd,K,hk=>by
  simp only[sf]at hd;obtain⟨hs,hd⟩:=cg hd;refine⟨Hj hs, ?_⟩
  split at hd
  . cases hd
  . rename_i hw;refine⟨true,ym ht hw, ?_⟩
    split at hd
    . cases hd
    . rename_i v ad h' T ho;rw[G8]at ho;exact Hi ab hh ht ho _ λh2 q T' _=>Ce ab q (ht.put _ _) hd K hk
  . rename_i hw;refine⟨false,ym ht hw, ?_⟩;have:=ht.put o.dst cX;rw[Hk]at this;exact Ce ab hh this hd K hk
def qA(N:Nat)(q:Nat×Nat×bJ):Nat×Nat×bJ:=(q.1,q.2.1+N,gk N q.2.2)
def yr{h0 h:ah}(hh:HS N h0 h)(m:Nat):∀(p:eW),HS N (fD h0 m p) (fD h m (p.map (qA N)))
 |[]=>hh
 |(i,id,o)::r=>by
  simp only[Fj,qA,fD]
  split
  . exact(yr hh m r).set id (some o)
  . exact yr hh m r
def Hl{h0 h:ah}(hh:HS N h0 h):∀(p:eW),HS N (kV h0 p) (kV h (p.map (qA N)))
 |[]=>hh
 |(i,id,o)::r=>by
  simp only[Fj,qA,kV];exact(Hl hh r).set id (some o)
def Yh(m:Nat)(p:eW):iP m (p.map (qA N))=(iP m p).map (qA N):=by
 unfold iP
 induction p with
 |nil=>rfl
 |cons q p ih=>
  simp only[Fj,aft,ih,qA]
  split<;>rfl
def Hm(d:DV):jq (some (sh N d))=(jq (some d)).map (·+N):=by
 cases d with
 |v x=>
  rw[bT];unfold bY
  split<;>first|rfl|skip
  rename_i h1 h2 h3;simp only[jq,mV]
  split
  . rename_i a he;cases he;exact absurd rfl (h1 _)
  . rename_i a _ _ he;cases he;exact absurd rfl (h2 _ _ _)
  . rename_i a he;cases he;exact absurd rfl (h3 _)
  . rfl
 |agg l=>rw[jZ];rfl
 |bf l=>rw[js];rfl
 |fn f a c=>rw[pg];rfl
 |sl k xs=>rw[mn];rfl
 |ptr xs o=>rw[mX];rfl
def Hn{t0 t:Tr DV}(ht:TS N t0 t){h0:ah}{op:Op}{r:DV}(hd:aZ e.ba h0 t0 op=some r):dL e t op=(dL e.ba t0 op).map (·+N):=by
 have one:∀(x:Operand),aJ e.ba t0 x≠none->jq (aJ e t x)=(jq (aJ e.ba t0 x)).map (·+N):=λx hx=>by
  cases hq:aJ e.ba t0 x with
  |none=>exact absurd hq hx
  |some d=>rw[ee ht hq];exact Hm d
 cases op with
 |load ty a=>
  obtain⟨d,h1,_⟩:=HT.1 hd;exact one a (by simp[h1])
 |convert s d x=>
  obtain⟨d,h1,_⟩:=HT.1 hd;exact one x (by simp[h1])
 |lookup ty m k ok=>
  simp only[aZ,fY]at hd
  split at hd
  . rename_i h1 h2;exact one m (by simp[h1])
  . cases hd
 |slice ty x lo hi mx=>
  refine one x ?_;intro h1;simp only[aZ,h1]at hd;simp[ed]at hd
 |call c=>
  simp only[dL];cases hq:cM e.ba t0 c.args.toList with
  |some l=>
   rw[nV ht hq]
   match l with
   |[]=>rfl
   |[x]=>exact Hm x
   |_::_::_=>rfl
  |none=>
   exfalso;simp only[aZ]at hd
   split at hd
   . rw[hq]at hd;simp[oS]at hd
   . rw[hq]at hd;simp at hd
   . rw[hq]at hd;simp at hd
   . cases hd
 |_=>rfl
def Yi{N0:Nat}{T:List Nat}{b:Option Nat}(h:ic N0 T b=true):sa (N0+N) (T.map (·+N)) (b.map (·+N)):=by
 cases b with
 |none=>trivial
 |some b=>
  simp only[ic,WZ,Bool.not_eq_true',List.contains_eq_mem,decide_eq_false_iff_not]at h;refine⟨by have:=afl h.1;show b+N<_;omega,λhm=> ?_⟩;obtain⟨a,h1,h2⟩:=afe.1 hm;have:a=b:=by simp only at h2;omega
  subst this;exact h.2 h1
def yu(N:Nat)(q:Nat×Nat):Nat×Nat:=(q.1+N,q.2)
def Yj(dy:Option (Nat×Nat))(b:Option Nat)(L:List (Nat×Nat)):kA dy (b.map (·+N)) (L.map (yu N))=(kA dy b L).map (yu N):=by
 cases dy<;>cases b<;>rfl
def py{cf:iW}(ab:si e N true cf){ops:List Oper}{N0:Nat}:∀{r:List Oper} {pl:List PJ} {i id c:Nat} {t0 t:Tr DV} {n:Nat} {dd:List FuncId} {h0 h:ah} {ax:eW} {T:List Nat} {L:List (Nat×Nat)} {s1:DS},HS N h0 h->TS N t0 t->
 mZ e.ba cf ops N0 r pl i id c t0 n dd h0 ax T L=some s1->∀(K:DS->Prop),(∀t' h',TS N s1.t t'->HS N s1.h h'->K ⟨t',s1.n,s1.dd,h'⟩)->df e ops (N0+N) r pl i (id+N) c t n dd h (ax.map (qA N)) (T.map (·+N)) (L.map (yu N)) K
 |[],pl,i,id,c,t0,t,n,dd,h0,h,ax,T,L,s1,hh,ht,hd,K,hk=>by
  simp only[mZ,oY]at hd;subst hd;cases pl<;>exact hk t _ ht (Hl hh ax)
 |o::r,[],i,id,c,t0,t,n,dd,h0,h,ax,T,L,s1,hh,ht,hd,K,hk=>by cases hd
 |o::r,p::pl,i,id,c,t0,t,n,dd,h0,h,ax,T,L,s1,hh,ht,hd,K,hk=>by
  simp only[mZ]at hd;obtain⟨hs,hd⟩:=cg hd;have aj:id+N+1=id+1+N:=aa;refine⟨Hj hs, ?_⟩
  split at hd
  . cases hd
  . rename_i hw;refine⟨true,ym ht hw, ?_⟩;obtain⟨pc,pm,ao,ai⟩:=p;cases pc with
    |pure=>
     simp only at hd⊢
     split at hd
     . cases hd
     . rename_i v hv;exact⟨_,Cd hh ht hv,py ab hh (ht.put _ _) hd K hk⟩
    |read=>
     simp only at hd⊢
     split at hd
     . cases hd
     . rename_i v hv;obtain⟨hb,hd⟩:=cg hd;have av:∃r,aZ e.ba (fD h0 pm ax) t0 o.op=some r:=by
        unfold iX at hv
        split at hv
        . cases hv
        . rename_i r hr;exact⟨r,hr⟩
       obtain⟨r',hr⟩:=av;refine⟨_,Cd (yr hh pm ax) ht hv,λho=> ?_, ?_⟩
       . rw[Hn ht hr];subst ho;exact Yi (by simpa using hb)
       . rw[Hn ht hr,Yj];exact py ab hh (ht.put _ _) hd K hk
    |alloc=>
     simp only at hd⊢;obtain⟨hg,hd⟩:=cg hd
     split at hd
     . cases hd
     . rename_i ob f ha;obtain⟨f',q1,q2⟩:=GP (e:=e) (N:=N) ht hg ha;refine⟨_,q1, ?_⟩;simp only;rw[q2,aj];exact py ab hh (ht.put _ _) hd K hk
    |effect=>
     simp only at hd⊢
     split at hd
     . cases hd
     . rename_i v ad h' T' ho;rw[G8]at ho;obtain⟨hl,hd⟩:=cg hd;refine Hi ab (yr hh pm ax) ht ho _ λh2 q T2 hT=>⟨?_, ?_⟩
       . rw[hT rfl];intro x hx hc hm;obtain⟨y,h1,rfl⟩:=afe.1 hx;obtain⟨z,h3,h4⟩:=afe.1 hm;simp only[afd]at hl;have:=hl y h1;have e1:z=y.1:=by simp only[yu]at h4;omega
         subst e1;have e2:afg (c+1) y.2=true:=Nat.ble_eq_true_of_le hc;simp[e2,h3]at this
       . rw[hT rfl,Yh,<-afc];exact py ab q (ht.put _ _) hd K hk
    |bad=>cases hd
  . rename_i hw;refine⟨false,ym ht hw, ?_⟩;have hu:=ht.put o.dst cX;rw[Hk]at hu;obtain⟨pc,pm,ao,ai⟩:=p;cases pc with
    |alloc=>simp only at hd⊢;rw[aj];exact py ab hh hu hd K hk
    |effect=>simp only at hd⊢;exact py ab hh hu hd K hk
    |bad=>cases hd
    |pure=>simp only at hd⊢;exact py ab hh hu hd K hk
    |read=>simp only at hd⊢;exact py ab hh hu hd K hk
end Go.aD
end
noncomputable section
namespace Go.aD
variable {e:Env} {N:Nat}
def Ho:∀(l:List DV) (i:Nat) {t0 t:Tr DV},TS N t0 t->TS N (Tr.ofList l i t0) (Tr.ofList (l.map (sh N)) i t)
 |[],_,_,_,ht=>ht
 |d::l,i,_,_,ht=>by
  simp only[Fj,Tr.ofList];exact Ho l (i+1) (ht.put (some i) d)
def Yk(l:List DV):TS N (gD l) (gD (l.map (sh N))):=Ho l 0 λi=>by rw[Tr.get_nil];rfl
def Yl(l:List DV):jS (l.map (sh N))=sh N (jS l):=by
 match l with
 |[]=>simp only[Rb,jS,js]
 |[v]=>rfl
 |v::w::l=>simp only[Fj,jS,js]
def Hp{s0 s:DS}(ht:TS N s0.t s.t)(hh:HS N s0.h s.h):∀{rs:List ResultVar} {l:List DV},fZ e.ba s0 rs=some l->fZ e s rs=some (l.map (sh N))
 |[],l,h=>by simp only[fZ,oY]at h;subst h;rfl
 |r::rs,l,h=>by
  simp only[fZ]at h
  split at h
  . rename_i v vs h1 h2;cases h;have h3:=Hp ht hh h2;simp only[fZ];rw[h3];cases r with
    |tmp i=>
     simp only at h1⊢;rw[ht i,h1];rfl
    |cell a ty=>
     obtain⟨p,h4,h5⟩:=HT.1 h1;simp only;rw[ht a,h4];simp only[Ey,Rm,GF hh h5];rfl
  . cases h
structure sj(e:Env)(N:Nat)(ev:ju):Prop where
 run:∀c d0 x d1,ev c d0=some (x,d1)->∀t h (K:bu->DS->Prop),TS N d0.t t->HS N d0.h h->(∀t' h',TS N d1.t t'->HS N d1.h h'->K x ⟨t',d1.n,d1.dd,h'⟩)->RD e true c ⟨t,d0.n,d0.dd,h⟩ K
def Hq{ev:ju}{f:FuncId}{args:List DV}{h0:ah}{v:DV}{h1:ah}(hd:nY e ev f args h0=some (v,h1)):
 ∃fn c x s l,e.fn f=some fn/\fn.body=some c/\ev c ⟨gD args,args.length+(fn.ntmps-args.length),[],h0⟩=some (x,s)/\(∀i,x≠.exit i)/\s.dd.all e.idle=true/\fZ e s fn.results.toList=some l/\v=jS l/\h1=s.h:=by
 unfold nY at hd
 split at hd
 . cases hd
 . rename_i fn aO
   split at hd
   . cases hd
   . rename_i c hb
     split at hd
     . cases hd
     . cases hd
     . rename_i x s hx he;obtain⟨h2,hd⟩:=cg hd
       split at hd
       . cases hd
       . rename_i l hr;simp only[oY,yx]at hd;exact⟨fn,c,x,s,l,aO,hb,he,λi hi=>by subst hi;exact(hx i rfl).elim,h2,hr,hd.1.symm,hd.2.symm⟩
def yv{ev:ju}(an:sj e N ev){f:FuncId}{args:List DV}{h0 h:ah}{v:DV}{h1:ah}(hd:nY e.ba ev f args h0=some (v,h1))(hh:HS N h0 h):
 ∃fn c,e.fn f=some fn/\fn.body=some c/\∀K:DV->ah->Prop,(∀h',HS N h1 h'->K (sh N v) h')->RD e true c ⟨gD (args.map (sh N)),(args.map (sh N)).length+(fn.ntmps-(args.map (sh N)).length),[],h⟩ (ib e fn.results.toList K):=by
 obtain⟨fn,c,x,s,l,q1,q2,q3,q4,q5,q6,rfl,rfl⟩:=Hq hd;refine⟨fn,c,q1,q2,λK hk=> ?_⟩;rw[UR];refine an.run _ _ _ _ q3 _ _ _ (Yk args) hh λt' h' ht h2=>⟨q4,λg hg=> ?_,l.map (sh N),Hp ht h2 q6, ?_⟩
 . simp only[afd]at q5;exact q5 g hg
 . show K (jS (l.map (sh N))) h';rw[Yl];exact hk _ h2
def Ym(he:e.Ok)(ad:e.P.follows .mixedOrders=true)(ab:Idle e){ev:ju}(an:sj e N ev):si e N false (wh e.ba ev):=by
 intro f args h0 v h1 T0 hd h hh K hk;unfold wh Hf at hd
 split at hd
 . cases hd
 rename_i v h1 hc;simp only[oY,yx]at hd;obtain⟨rfl,rfl,rfl⟩:=hd;have hd:=hc;obtain⟨fn,c,q1,q2,q3⟩:=yv an hd hh;intro G ha aA x hr;obtain⟨u,h',r1,d,ae,G',r2,r3,r4,r5⟩:=cJ.body (ar:=true) (K:=λd ae=>d=sh N v/\HS N h1 ae) he ad ab q1 q2 rfl (rs:=fn.results.toList) aw (q3 _ λh' h2=>⟨rfl,h2⟩) G ha aA x hr;obtain⟨rfl,r5⟩:=r5;exact⟨u,h',r1,sh N v,ae,G',List.range ha.next,r2,r3,r4,λi hi hn=>absurd (afs.2 hi) hn,hk ae r5 _ λhp=>by cases hp⟩
def HS.none(n:Nat):HS N (⟨.nil,n⟩:ah) (ah.none (n+N)):=⟨rfl,λk=>by
 rw[ah.get_none];show _=Option.map _ (Tr.nil.get k);rw[Tr.get_nil];rfl⟩
def HS.up{h0 h:ah}(hh:HS N h0 h)(n:Nat):HS N (h0.up n) (h.up (n+N)):=⟨rfl,λk=>hh.get k⟩
def Cf(h':ah)(j:Nat):∀(k i:Nat) (m:Tr bJ),(ua h' k i m).get j=if i<=j/\j<i+k then(match h'.get j with|some o=>some o|none=>m.get j)else m.get j
 |0,i,m=>by rw[if_neg aa];rfl
 |k+1,i,m=>by
  simp only[ua];cases hq:h'.get i with
  |none=>
   simp only;rw[Cf h' j k (i+1) m];by_cases hj:j=i
   . subst hj;rw[if_neg aa,if_pos aa,hq]
   . by_cases h2:i+1<=j/\j<i+1+k
     . rw[if_pos h2,if_pos aa]
     . rw[if_neg h2,if_neg aa]
  |some o=>
   simp only;rw[Cf h' j k (i+1)];by_cases hj:j=i
   . subst hj;rw[if_neg aa,if_pos aa,hq,Tr.bD,if_pos rfl]
   . by_cases h2:i+1<=j/\j<i+1+k
     . rw[if_pos h2,if_pos aa,Tr.bD,if_neg hj]
     . rw[if_neg h2,if_neg aa,Tr.bD,if_neg hj]
def uh(h h':ah)(j:Nat):(kX h h').get j=if h.next<=j/\j<h'.next then(match h'.get j with|some o=>some o|none=>h.get j)else h.get j:=by
 show(ua h' _ _ h.m).get j=_;rw[Cf];by_cases h2:h.next<=j/\j<h'.next
 . rw[if_pos aa,if_pos h2];rfl
 . rw[if_neg aa,if_neg h2];rfl
def HS.merge{h0 h h1 h':ah}(hh:HS N h0 h)(h2:HS N h1 h'):HS N (kX h0 h1) (kX h h'):=by
 refine⟨h2.next,λk=> ?_⟩;rw[uh,uh,hh.get,h2.get,hh.next,h2.next];by_cases hc:h0.next<=k/\k<h1.next
 . rw[if_pos hc,if_pos aa];cases h1.get k<;>rfl
 . rw[if_neg hc,if_neg aa]
def Hr(he:e.Ok)(ad:e.P.follows .mixedOrders=true)(ab:Idle e){ev:ju}(an:sj e N ev){f:FuncId}{args:List DV}{h0 h av:ah}{v':DV}(hc:nY e.ba ev f args ⟨.nil,h0.next⟩=some (v',av))(hh:HS N h0 h){K:DV->ah->List Nat->Prop}(hk:∀h',HS N (kX h0 av) h'->K (sh N v') h' []):cJ e true f (args.map (sh N)) h K:=by
 have aE:HS N (⟨.nil,h0.next⟩:ah) (ah.none h.next):=by rw[hh.next];exact HS.none _
 obtain⟨fn,c,q1,q2,q3⟩:=yv an hc aE;intro G ha aA x hr;have x0:bP G ha (ah.none h.next):=⟨x.e9,x.next,λi o ho=>(by rw[ah.get_none]at ho;cases ho),λi hi=>⟨(x.still i hi).1,ah.get_none _ _⟩⟩;obtain⟨u,h',r1,d,ae,G',r2,r3,r4,rfl,r5⟩:=cJ.body (ar:=true) (K:=λd ae=>d=sh N v'/\HS N av ae) he ad ab q1 q2 rfl (rs:=fn.results.toList) aw (q3 _ λh' h2=>⟨rfl,h2⟩) G ha aA x0 hr;have same:∀i,i<ha.next->h'.get i=ha.get i:=λi hi=>(r3.same i hi (ah.get_none _ _)).1;have hG:∀i,G i->i<ha.next:=λi hi=>(x.still i hi).1;have hm:∀i r,aP ha G i=some r->aP h' G' i=some r:=iA λi hg=>⟨r3.up i hg,same i (hG i hg)⟩;have bp:∀i,i<ha.next->G' i->G i:=λi hi hg=>by
  rcases r3.bp i hi hg with h2|h2
  . exact h2
  . rw[ah.get_none]at h2;cases h2
 have aj:∀i,¬i<ha.next->h.get i=none:=λi hi=>by
  cases hq:h.get i with
  |none=>rfl
  |some o=>exact absurd (x.obj i o hq).1 hi
 have lo:∀i,i<ha.next->(kX h ae).get i=h.get i:=λi hi=>by
  rw[uh,if_neg];have:=x.next;omega
 have aK:∀i,¬i<ha.next->∀o,(kX h ae).get i=some o->ae.get i=some o:=λi hi o ho=>by
  rw[uh]at ho
  split at ho
  . split at ho
    . rename_i o' hq;cases ho;exact hq
    . rw[aj i hi]at ho;cases ho
  . rw[aj i hi]at ho;cases ho
 refine⟨u,h',r1,sh N v',kX h ae,G',[],⟨r2.e9,r2.next,λi o ho=> ?_,λi hi=>⟨(r2.still i hi).1, ?_⟩⟩,⟨r3.next,λi hi hd=>⟨same i hi,by rw[lo i hi];exact hd⟩,r3.up,λi hi hg=>.inl (bp i hi hg)⟩,r4,λi hi _=>⟨same i hi,lo i hi⟩,hk _ (hh.merge r5)⟩
 . by_cases aL:i<ha.next
   . rw[lo i aL]at ho;obtain⟨h2,ao,h3,h4⟩:=x.obj i o ho;exact⟨afp h2 r3.next,ao,by rw[same i h2];exact h3,h4.mono hm⟩
   . exact r2.obj i o (aK i aL o ho)
 . by_cases dS:i<ha.next
   . rw[lo i dS];exact(x.still i (bp i dS hi)).2
   . cases hq:(kX h ae).get i with
     |none=>rfl
     |some o=>
      have:=aK i dS o hq;rw[(r2.still i hi).2]at this;cases this
def yw(cs:List DV)(k:Nat)(f:DV->DV):∀(n o:Nat),(chunks cs o k f n).length=n
 |0,_=>rfl
 |n+1,o=>by simp only[chunks,List.length_cons,yw cs k f n]
def Ht(cs:List DV)(k:Nat)(f:DV->DV):∀(n o j:Nat) (x:List DV),(chunks cs o k f n)[j]? =some x->x=((cs.drop (o+j*k)).take k).map f
 |0,_,_,_,h=>by simp[chunks]at h
 |n+1,o,0,x,h=>by
  simp only[chunks,List.getElem?_cons_zero,oY]at h;rw[<-h];simp
 |n+1,o,j+1,x,h=>by
  simp only[chunks,List.getElem?_cons_succ]at h;rw[Ht cs k f n (o+k) j x h];congr 3;rw[Nat.add_mul];omega
def Hu(cs:List DV)(k:Nat)(f g:DV->DV):∀(n o:Nat),(chunks cs o k f n).map (λx=>x.map g)=chunks cs o k (λd=>g (f d)) n
 |0,_=>rfl
 |n+1,o=>by simp only[chunks,Fj,Hu cs k f g n,aff];rfl
def Hv{f:DV->DV}{x:List DV}{i:Nat}{v:DV}(h:(x.map f)[i]? =some v):∃u,x[i]? =some u/\v=f u:=by
 rw[adr,Q0]at h;obtain⟨u,h1,h2⟩:=h;exact⟨u,h1,h2.symm⟩
def Cg{N:Nat}{h0:ah}{S:fB}:∀(m:Nat) (d:DV),(∀b∈qz h0 m d,∀cs wr ak,h0.get b=some (.row cs wr ak)->S (b+N)=some (cs.map (sh N),ak))->Fz S (sh N d) (sh N (mq h0 m d))
 |0,d,_=>.refl _
 |m+1,d,hS=>by
  have ih:= @Cg N h0 S m;unfold qz at hS;unfold mq
  split
  . rename_i b o n c;cases hg:h0.get b with
    |none=>exact .refl _
    |some ob=>
     cases ob with
     |row cs wr ak=>
      simp only[B9,hg]at hS;simp only[Hb];generalize hk:sg cs o c ak=k at hS⊢;cases hb:we cs o n c k with
      |false=>exact .refl _
      |true=>
       rw[hb]at hS;simp only[we,WZ]at hb;unfold sg at hk;have aR:0<k:=afl hb.1.1;have aS:n<=c:=afl hb.1.2;have aG:o+n*k<=cs.length:=afl hb.2;have he:ak=0\/ak=k:=by
        cases hq:afk ak 0 with
        |true=>exact .inl (afu hq)
        |false=>rw[hq]at hk;exact .inr hk
       show Fz S _ (sh N (.sl k (chunks cs o k (mq h0 m) n)));simp only[bT,bY,eK,mn];rw[Hu];have aH:S (b+N)=some (cs.map (sh N),ak):=hS b List.mem_cons_self _ _ _ hg;have hl:∀j x,(chunks cs o k (λd=>sh N (mq h0 m d)) n)[j]? =some x->j<n/\x=((cs.drop (o+j*k)).take k).map λd=>sh N (mq h0 m d):=λj x hx=>by
        have:=(List.getElem?_eq_some_iff.1 hx).1;rw[yw]at this;exact⟨this,Ht cs k _ n o j x hx⟩
       have aT:∀j,j<n->o+j*k+k<=cs.length:=λj hj=>by
        have:(j+1)*k<=n*k:=Nat.mul_le_mul_right _ hj;rw[Nat.add_mul]at this;omega
       refine .sl aH he aR (yw ..).symm aS (λx hx=> ?_) (by rw[yw,UR];exact aG) λj x i v d h1 h2 h3=> ?_
       . obtain⟨j,hj⟩:=List.getElem?_of_mem hx;obtain⟨q1,rfl⟩:=hl j x hj;have:=aT j q1;rw[UR,List.length_take,List.length_drop];omega
       . obtain⟨q1,rfl⟩:=hl j x h1;obtain⟨u,q2,rfl⟩:=Hv h2;obtain⟨w,q3,rfl⟩:=Hv h3;rw[List.getElem?_take]at q2
         split at q2
         . rw[List.getElem?_drop,q3]at q2;cases q2;exact ih u λb' aJ=>hS b' (List.mem_cons_of_mem _ (afi.2 ⟨u,afo q3,aJ⟩))
         . cases q2
     |_=>exact .refl _
  . rename_i l;rw[jZ,jZ];refine .agg aw λi v d h1 h2=> ?_;rw[aff,adr,Q0]at h2;rw[adr,Q0]at h1;obtain⟨u,h1,rfl⟩:=h1;obtain⟨w,h2,rfl⟩:=h2;rw[h1]at h2;cases h2;exact ih u λb' aJ=>hS b' (afi.2 ⟨u,afo h1,aJ⟩)
  . exact .refl _
def Ch{S:fB}{f g:DV->DV}:∀(l:List DV),(∀d∈l,Fz S (f d) (g d))->de S (l.map f) (l.map g)
 |[],_=>.nil
 |d::l,hf=>.cons (hf d aw) (Ch l λd hd=>hf d (by simp[hd]))
def Yn{h0 h:ah}(hh:HS N h0 h){b:Nat}{cs:List DV}{wr:Bool}{ak:Nat}(hg:h0.get b=some (.row cs wr ak)):allRows h (b+N)=some (cs.map (sh N),ak):=by unfold allRows;rw[hh.row hg]
def Yo(he:e.Ok)(ad:e.P.follows .mixedOrders=true)(ab:Idle e){ev:ju}(an:sj e N ev){f:FuncId}{args:List DV}{h0 h av:ah}{w:Value}(hc:nY e.ba ev f (args.map (mq h0 4)) ⟨.nil,h0.next⟩=some (.v w,av))(hw:iT w=true)(hh:HS N h0 h){K:DV->ah->List Nat->Prop}(hk:∀h',HS N (h0.up av.next) h'->K (sh N (.v w)) h' []):cJ e true f (args.map (sh N)) h K:=by
 have aE:HS N (⟨.nil,h0.next⟩:ah) (ah.none h.next):=by rw[hh.next];exact HS.none _
 obtain⟨fn,c,q1,q2,q3⟩:=yv an hc aE;intro G ha aA x hr;have aV:cj (aP ha (λi=>i<ha.next)) aA ((args.map (mq h0 4)).map (sh N)):=cj.fz (S:=allRows h) x (λi cs ak hr=>by
  unfold allRows at hr
  split at hr
  . rename_i cs' wr aW hg;cases hr;exact⟨(x.obj _ _ hg).1,wr,hg⟩
  . cases hr) (λi hg=>(x.still i hg).1) (by rw[aff];exact Ch args λd _=>Cg 4 d λb _ cs wr ak hg=>Yn hh hg) hr
 have x0:bP (λi=>i<ha.next) ha (ah.none h.next):=⟨x.e9.mono (iA λi hg=>⟨(x.still i hg).1,rfl⟩),x.next,λi o ho=>(by rw[ah.get_none]at ho;cases ho),λi hi=>⟨hi,ah.get_none _ _⟩⟩;obtain⟨u,h',r1,d,ae,G',r2,r3,r4,rfl,r5⟩:=cJ.body (ar:=true) (K:=λd ae=>d=sh N (.v w)/\HS N av ae) he ad ab q1 q2 rfl (rs:=fn.results.toList) aw (q3 _ λh' h2=>⟨rfl,h2⟩) _ ha aA x0 aV;have same:∀i,i<ha.next->h'.get i=ha.get i:=λi hi=>(r3.same i hi (ah.get_none _ _)).1;have hG:∀i,G i->i<ha.next:=λi hi=>(x.still i hi).1;have hm:∀i r,aP ha G i=some r->aP h' G i=some r:=iA λi hg=>⟨hg,same i (hG i hg)⟩;refine⟨u,h',r1,sh N (.v w),h.up ae.next,G,[],⟨x.e9.mono hm,r2.next,λi o ho=> ?_,λi hi=>⟨afp (hG i hi) r3.next,(x.still i hi).2⟩⟩,⟨r3.next,λi hi hd=>⟨same i hi,hd⟩,λi hg=>hg,λi hi hg=>.inl hg⟩, ?_,λi hi _=>⟨same i hi,rfl⟩, ?_⟩
 . obtain⟨h2,ao,h3,h4⟩:=x.obj i o ho;exact⟨afp h2 r3.next,ao,by rw[same i h2];exact h3,h4.mono hm⟩
 . rw[bT]at r4⊢;rw[r4.cT];exact .v _
 . rw[r5.next];exact hk _ (hh.up av.next)
def cJ.still{ar:Bool}{f:FuncId}{az dargs':List DV}{dh:ah}{K:DV->ah->List Nat->Prop}(l:List Nat)(hl:∀i∈l,(dh.get i).isSome=true)(hz:de (rowsOf dh l) az dargs')(hc:cJ e ar f dargs' (eV dh l) λv ae T=>K v ae (T++l)):cJ e ar f az dh K:=by
 intro G h args x ha;obtain⟨k1,k2⟩:=x.drop l hl;have aX:cj (aP h (λi=>G i\/i∈l)) args dargs':=cj.fz x (λi cs ak hr=>⟨.inr (rW hr).1,(rW hr).2⟩) (λi hg=>.inl hg) hz ha;have key:=hc (λi=>G i\/i∈l) h args k1 aX;have fin:∀v h',lF (λi=>G i\/i∈l) h (eV dh l) (λv ae T=>K v ae (T++l)) v h'->lF G h dh K v h':=λv h' ⟨d,ae,G',T,r2,r3,r4,r5,r6⟩=>by
  refine⟨d,ae,G',T++l,r2,k2.trans r3,r4,λi hi hT=> ?_,r6⟩;rw[List.mem_append,not_or]at hT;obtain⟨h1,h2⟩:=r5 i hi hT.1;exact⟨h1,by rw[h2,kU,if_neg hT.2]⟩
 cases ar with
 |true=>obtain⟨v,h',h1,h2⟩:=key;exact⟨v,h',h1,fin v h' h2⟩
 |false=>exact fm.mono key fin
def HS.drop{h0 h:ah}(hh:HS N h0 h):∀(l:List Nat),HS N (eV h0 l) (eV h (l.map (·+N)))
 |[]=>hh
 |i::l=>HS.set (HS.drop hh l) i Option.none
def Ci(h:ah):∀(m:Nat) (d:DV),∀b∈qz h m d,(h.get b).isSome=true
 |0,d,b,hb=>by cases hb
 |m+1,d,b,hb=>by
  unfold qz at hb
  split at hb
  . rename_i b' o n c;cases hg:h.get b' with
    |none=>rw[hg]at hb;cases hb
    |some ob=>
     rw[hg]at hb;cases ob with
     |row cs wr ak=>
      simp only[B9]at hb;cases hq:we cs o n c (sg cs o c ak)with
      |true=>
       simp only[hq,cond_true,List.mem_cons,afi]at hb;rcases hb with rfl|⟨u,_,hb⟩
       . rw[hg];rfl
       . exact Ci h m u b hb
      |false=>rw[hq]at hb;cases hb
     |_=>cases hb
  . obtain⟨u,_,hb⟩:=afi.1 hb;exact Ci h m u b hb
  . cases hb
def Yp(he:e.Ok)(ad:e.P.follows .mixedOrders=true)(ab:Idle e){ev:ju}(an:sj e N ev){f:FuncId}{args:List DV}{h0 h av:ah}{v':DV}{l:List Nat}(hl:args.flatMap (qz h0 4)=l)(hc:nY e.ba ev f (args.map (mq h0 4)) ⟨.nil,h0.next⟩=some (v',av))(hh:HS N h0 h){K:DV->ah->List Nat->Prop}(hk:∀h',HS N (kX (eV h0 l) av) h'->K (sh N v') h' (l.map (·+N))):cJ e true f (args.map (sh N)) h K:=by
 have aC:∀b∈l,(h0.get b).isSome=true:=λb hb=>by
  rw[<-hl]at hb;obtain⟨d,_,hb⟩:=afi.1 hb;exact Ci h0 4 d b hb
 refine cJ.still (dargs':=(args.map (mq h0 4)).map (sh N)) (l.map (·+N)) (λi hi=> ?_) ?_ ?_
 . obtain⟨b,hb,rfl⟩:=afe.1 hi;show(h.get (b+N)).isSome=true;rw[hh.get,Option.isSome_map];exact aC b hb
 . rw[aff];refine Ch args λd hd=>Cg 4 d λb hb cs wr ak hg=>fq (afe.2 ⟨b, ?_,rfl⟩) (hh.row hg);rw[<-hl];exact afi.2 ⟨d,hd,hb⟩
 . refine Hr (h0:=eV h0 l) he ad ab an (by rw[tL];exact hc) (hh.drop l) λh' h2=> ?_;exact hk h' h2
def Yq(he:e.Ok)(ad:e.P.follows .mixedOrders=true)(ab:Idle e){ev:ju}(an:sj e N ev):si e N true (wg e.ba ev):=by
 intro f args h0 v h1 T0 hd h hh K hk;unfold wg at hd;cases hq:args.any (Hd h0)with
 |true=>
  rw[hq]at hd;change Cb _ _ _=_ at hd;unfold Cb at hd
  split at hd
  . cases hd
  . rename_i v' av hc;cases hp:Ca v' with
    |true=>
     rw[hp]at hd;simp only[cond_true,oY,yx]at hd;obtain⟨rfl,rfl,rfl⟩:=hd;unfold Ca at hp
     split at hp
     . exact Yo he ad ab an hc hp hh λh' h2=>hk h' h2 [] λ_=>rfl
     . cases hp
    |false=>
     rw[hp]at hd;simp only[cond_false,He,oY,yx]at hd;obtain⟨rfl,rfl,rfl⟩:=hd;exact Yp he ad ab an rfl hc hh λh' h2=>hk h' h2 _ λ_=>rfl
 |false=>
  rw[hq]at hd;change Cc _ _=_ at hd;unfold Cc at hd
  split at hd
  . cases hd
  . rename_i v' av hc;simp only[oY,yx]at hd;obtain⟨rfl,rfl,rfl⟩:=hd;exact Hr he ad ab an hc hh λh' h2=>hk h' h2 [] λ_=>rfl
def Yr{cf cp:iW}{ev:ju}(h1:si e N false (wh e.ba ev))(h2:si e N true (wg e.ba ev)){ops:Array Oper}{id:Nat}{draw:Bool}{d0 d1:DS}(hd:Hg e.ba ev ops.toList draw d0=some d1){t:Tr DV}{h:ah}{K:bu->DS->Prop}
 (ht:TS N d0.t t) (hh:HS N d0.h h) (hk:∀t' h',TS N d1.t t'->HS N d1.h h'->K .normal ⟨t',d1.n,d1.dd,h'⟩):RD e true (.region id ops draw) ⟨t,d0.n,d0.dd,h⟩ K:=by
 obtain⟨t0,n,dd,h0⟩:=d0;cases draw with
 |false=>
  have hd:qc e.ba _ _ _ t0 n dd h0=some d1:=hd;rw[G9]at hd;exact Ce (e:=e) h1 hh ht hd (K .normal) hk
 |true=>
  obtain⟨hp,hd⟩:=cg hd;have key:=py (e:=e) h2 (N0:=h0.next) (id:=h0.next) (ax:=[]) (T:=[]) (L:=[]) (hh.up (h0.next+(ops.toList.filter λo=>cls o.op==.alloc).length)) ht hd (K .normal) hk;have e1:h0.next+N=h.next:=hh.next.symm;have e2:h0.next+(ops.toList.filter λo=>cls o.op==.alloc).length+N=h.next+(ops.toList.filter λo=>cls o.op==.alloc).length:=by rw[<-e1];omega
  rw[e1,e2]at key;have:=jU (e:=e) (B8 ops.toList) hp _ (Nat.beq_refl _) h.next rfl key;exact this
def Ys(he:e.Ok)(ad:e.P.follows .mixedOrders=true)(ab:Idle e)(n:Nat):sj e N (nZ e.ba n):=by
 induction n using Nat.strongRecOn with
 |_ n IH=>
 cases n with
 |zero=>exact⟨λc d0 x d1 h=>by cases h⟩
 |succ n=>
  have ih:=IH n (Nat.lt_succ_self n);have hc:=Ym he ad ab ih;have hp:=Yq he ad ab ih;refine⟨λc d0 x d1 hd t h K ht hh hk=> ?_⟩;have hd:m8 e.ba (nZ e.ba n) c d0=some (x,d1):=hd;cases c with
  |skip=>
   simp only[m8,px,oY,yx]at hd;obtain⟨rfl,rfl⟩:=hd;exact hk _ _ ht hh
  |exit id=>
   simp only[m8,px,oY,yx]at hd;obtain⟨rfl,rfl⟩:=hd;exact hk _ _ ht hh
  |ret=>
   simp only[m8,px,oY,yx]at hd;obtain⟨rfl,rfl⟩:=hd;exact hk _ _ ht hh
  |region id ops draw=>
   simp only[m8,px,uc,ud,ue,uf,ug]at hd
   split at hd
   . cases hd
   . rename_i s hs;simp only[oY,yx]at hd;obtain⟨rfl,rfl⟩:=hd;exact Yr (cf:=wh e.ba (nZ e.ba n)) (cp:=wg e.ba (nZ e.ba n)) hc hp hs ht hh hk
  |seq a b=>
   simp only[m8,px,uc,ud,ue,uf,ug]at hd;simp only[RD]
   split at hd
   . rename_i s hs;refine ih.run _ _ _ _ hs t h _ ht hh λt' h' af ai=> ?_;exact ih.run _ _ _ _ hd t' h' _ af ai hk
   . rename_i hn;refine ih.run _ _ _ _ hd t h _ ht hh λt' h' af ai=> ?_;cases x with
     |normal=>exact absurd hd (hn d1)
     |exit i=>exact hk _ _ af ai
     |ret=>exact hk _ _ af ai
  |cond c a b=>
   simp only[m8,px,uc,ud,ue,uf,ug]at hd;simp only[RD]
   split at hd
   . rename_i hb;refine⟨_,ee ht hb, ?_⟩;simp only[bT,bY];exact⟨λ_=>ih.run _ _ _ _ hd t h _ ht hh hk,λhf=>by cases hf⟩
   . rename_i hb;refine⟨_,ee ht hb, ?_⟩;simp only[bT,bY];exact⟨λhf=>(by cases hf),λ_=>ih.run _ _ _ _ hd t h _ ht hh hk⟩
   . cases hd
  |block id c=>
   simp only[m8,px,uc,ud,ue,uf,ug]at hd;simp only[RD]
   split at hd
   . rename_i i s hs;refine ih.run _ _ _ _ hs t h _ ht hh λt' h' af ai=> ?_;simp only;cases hq:afk i id with
     |true=>
      rw[hq]at hd;simp only[cond_true,oY,yx]at hd;obtain⟨rfl,rfl⟩:=hd;rw[if_pos (afu hq)];exact hk _ _ af ai
     |false=>
      rw[hq]at hd;simp only[cond_false,oY,yx]at hd;obtain⟨rfl,rfl⟩:=hd;rw[if_neg (Nat.ne_of_beq_eq_false hq)];exact hk _ _ af ai
   . rename_i hn;refine ih.run _ _ _ _ hd t h _ ht hh λt' h' af ai=> ?_;cases x with
     |normal=>exact hk _ _ af ai
     |exit i=>exact absurd hd (hn i d1)
     |ret=>exact hk _ _ af ai
  |loop c=>
   have key:∀m,m<=n+1->∀d0,nZ e.ba m (.loop c) d0=some (x,d1)->∀t h,TS N d0.t t->HS N d0.h h->RD e true c ⟨t,d0.n,d0.dd,h⟩ (KI (λj d=>∃d0,j<=n+1/\nZ e.ba j (.loop c) d0=some (x,d1)/\TS N d0.t d.t/\HS N d0.h d.h/\d.n=d0.n/\d.dd=d0.dd) m K):=λm hm d0 hd t h ht hh=>by
    cases m with
    |zero=>cases hd
    |succ m=>
     have aM:=IH m aa;have hd:m8 e.ba (nZ e.ba m) (.loop c) d0=some (x,d1):=hd;simp only[m8,px,uc,ud,ue,uf,ug]at hd
     split at hd
     . rename_i s hs;refine aM.run _ _ _ _ hs t h _ ht hh λt' h' af ai=> ?_;exact⟨m,aa,_,aB.refl _,s,aa,hd,af,ai,rfl,rfl⟩
     . rename_i hn;refine aM.run _ _ _ _ hd t h _ ht hh λt' h' af ai=> ?_;cases x with
       |normal=>exact absurd hd (hn d1)
       |exit i=>exact hk _ _ af ai
       |ret=>exact hk _ _ af ai
   show WD e true (.loop c) _ K;refine WD.loop he ad (λj d=>∃d0,j<=n+1/\nZ e.ba j (.loop c) d0=some (x,d1)/\TS N d0.t d.t/\HS N d0.h d.h/\d.n=d0.n/\d.dd=d0.dd) (λj d hI=> ?_) (n+1) _ ⟨_,aB.refl _,d0,Nat.le_refl _,hd,ht,hh,rfl,rfl⟩;obtain⟨d2,h1,h2,h3,h4,h5,h6⟩:=hI;obtain⟨dt,dn,aY,dh⟩:=d;simp only at h3 h4 h5 h6;subst h5;subst h6;exact key j h1 d2 h2 dt dh h3 h4
  |_=>cases hd
end Go.aD
end

/- Parts of a proof. -/
import GoSem.Step
import Derived.KernelRfl
import Derived.Laws.Sem
import Derived.Laws.Cells
import Derived.Laws.CopyRow
open Nat renaming beq->oY,blt->yx,le_refl->Fj,rec->HT,ble->Q0,div->Rb,lt_of_lt_of_le->Rm,le_trans->Yt,ne_of_lt->adr,le_of_ble_eq_true->afc,eq_of_beq_eq_true->afd,lt_succ_self->afj
open Option.some renaming injEq->Ey
open Ne renaming symm->UR
open Array renaming length_toList->WZ,getElem?_eq_some_iff->Xt,getElem?_eq_getElem->afh,getElem?_push->afi,getElem?_setIfInBounds->afk
open List renaming getElem?_take->YN,getElem?_drop->afe,all_eq_true->afg,length_append->afl,length_take->afm,length_drop->afn,size_toArray->afo,drop_zero->afp,getElem?_map->afq,getElem?_range->afr,getElem?_eq_getElem->aft
open Bool renaming and_eq_true->aff
open Option renaming map_some->afs
set_option linter.all false
set_option maxRecDepth 100000
noncomputable section
namespace Go
def aa{P:Prop}(h:P:=by omega):P:=h
def aA{P:Prop}(h:P:=by decide):P:=h
def aw{P:Prop}(h:P:=by simp):P:=h
def ai{P:Prop}(h:P:=by simp(disch:=omega)[go_sem]):P:=h
def aL{P Q:Prop}(q:Q)(h:Q->P:=by intro q;simp(disch:=omega)[go_sem];exact q):P:=h q
def cr{P Q:Prop}(p:P)(h:P->Q:=by intro p;simp(disch:=omega)[go_sem]at p;exact p):Q:=h p
def cY{P P' Q Q':Prop}(q:P'->Q')(e:P->P':=by intro p;simp(disch:=omega)[go_sem]at p;exact p)(h:Q'->Q:=by intro q;simp(disch:=omega)[go_sem];exact q)(p:P):Q:=h (q (e p))
def aR{P P' Q:Prop}(q:P'->Q)(e:P->P':=by intro p;simp(disch:=omega)[go_sem]at p;exact p)(p:P):Q:=q (e p)
def an{P:Prop}(h:P:=by kernel_rfl):P:=h
end Go
namespace Go.aD
inductive D4 where
 |a|b|c|d
inductive Od(α:Type)where
 |nil
 |node (v:Option α) (a b c d:Od α)
def digit(j:Nat):D4:=
 HT (motive:=λ_=>D4) .a (λk _=>HT (motive:=λ_=>D4) .b (λk _=>HT (motive:=λ_=>D4) .c (λ_ _=>.d) k) k) (Nat.mod j 4)
def sW(n:Nat):Nat->List D4:=
 HT (motive:=λ_=>Nat->List D4) (λ_=>[]) (λ_ ih i=>HT (motive:=λ_=>List D4) [] (λj _=>digit j::ih (Rb j 4)) i) n
def path(i:Nat):List D4:=HT (motive:=λ_=>List D4) [] (λk _=>digit k::sW k (Rb k 4)) i
def sX{α:Type}(p:List D4):Od α->Option α:=
 List.rec (motive:=λ_=>Od α->Option α) (λt=>Od.rec (motive:=λ_=>Option α) none (λv _ _ _ _ _ _ _ _=>v) t)
  (λx _ ih t=>Od.rec (motive:=λ_=>Option α) none (λ_ a b c d _ _ _ _=>D4.rec (motive:=λ_=>Option α) (ih a) (ih b) (ih c) (ih d) x) t) p
def wU{α:Type}(p:List D4)(x:Option α):Od α->Od α:=
 List.rec (motive:=λ_=>Od α->Od α) (λt=>Od.rec (motive:=λ_=>Od α) (.node x .nil .nil .nil .nil) (λ_ a b c d _ _ _ _=>.node x a b c d) t)
  (λy _ ih t=>Od.rec (motive:=λ_=>Od α)
   (D4.rec (motive:=λ_=>Od α) (.node none (ih .nil) .nil .nil .nil) (.node none .nil (ih .nil) .nil .nil) (.node none .nil .nil (ih .nil) .nil) (.node none .nil .nil .nil (ih .nil)) y)
   (λv a b c d _ _ _ _=>D4.rec (motive:=λ_=>Od α) (.node v (ih a) b c d) (.node v a (ih b) c d) (.node v a b (ih c) d) (.node v a b c (ih d)) y) t) p
structure bn(α:Type)where
 a0:α
 a1:α
 a2:α
 a3:α
 a4:α
 a5:α
 a6:α
 a7:α
 a8:α
 a9:α
 dX:α
 dR:α
 eE:α
 eF:α
 eG:α
 eH:α
structure Bx(α:Type)where
 run:α
def bn.all{α:Type}(x:α):bn α:=⟨x,x,x,x,x,x,x,x,x,x,x,x,x,x,x,x⟩
def bZ{α:Type}(d:Nat):Bx (bn α->α):=
 match d with
 |0=>⟨λv=>v.a0⟩
 |1=>⟨λv=>v.a1⟩
 |2=>⟨λv=>v.a2⟩
 |3=>⟨λv=>v.a3⟩
 |4=>⟨λv=>v.a4⟩
 |5=>⟨λv=>v.a5⟩
 |6=>⟨λv=>v.a6⟩
 |7=>⟨λv=>v.a7⟩
 |8=>⟨λv=>v.a8⟩
 |9=>⟨λv=>v.a9⟩
 |10=>⟨λv=>v.dX⟩
 |11=>⟨λv=>v.dR⟩
 |12=>⟨λv=>v.eE⟩
 |13=>⟨λv=>v.eF⟩
 |14=>⟨λv=>v.eG⟩
 |_=>⟨λv=>v.eH⟩
def eN{α:Type}(d:Nat):Bx (α->bn α->bn α):=
 match d with
 |0=>⟨λx v=>bn.rec (motive:=λ_=>bn α) (λ_ a1 a2 a3 a4 a5 a6 a7 a8 a9 dX dR eE eF eG eH=>bn.mk x a1 a2 a3 a4 a5 a6 a7 a8 a9 dX dR eE eF eG eH) v⟩
 |1=>⟨λx v=>bn.rec (motive:=λ_=>bn α) (λa0 _ a2 a3 a4 a5 a6 a7 a8 a9 dX dR eE eF eG eH=>bn.mk a0 x a2 a3 a4 a5 a6 a7 a8 a9 dX dR eE eF eG eH) v⟩
 |2=>⟨λx v=>bn.rec (motive:=λ_=>bn α) (λa0 a1 _ a3 a4 a5 a6 a7 a8 a9 dX dR eE eF eG eH=>bn.mk a0 a1 x a3 a4 a5 a6 a7 a8 a9 dX dR eE eF eG eH) v⟩
 |3=>⟨λx v=>bn.rec (motive:=λ_=>bn α) (λa0 a1 a2 _ a4 a5 a6 a7 a8 a9 dX dR eE eF eG eH=>bn.mk a0 a1 a2 x a4 a5 a6 a7 a8 a9 dX dR eE eF eG eH) v⟩
 |4=>⟨λx v=>bn.rec (motive:=λ_=>bn α) (λa0 a1 a2 a3 _ a5 a6 a7 a8 a9 dX dR eE eF eG eH=>bn.mk a0 a1 a2 a3 x a5 a6 a7 a8 a9 dX dR eE eF eG eH) v⟩
 |5=>⟨λx v=>bn.rec (motive:=λ_=>bn α) (λa0 a1 a2 a3 a4 _ a6 a7 a8 a9 dX dR eE eF eG eH=>bn.mk a0 a1 a2 a3 a4 x a6 a7 a8 a9 dX dR eE eF eG eH) v⟩
 |6=>⟨λx v=>bn.rec (motive:=λ_=>bn α) (λa0 a1 a2 a3 a4 a5 _ a7 a8 a9 dX dR eE eF eG eH=>bn.mk a0 a1 a2 a3 a4 a5 x a7 a8 a9 dX dR eE eF eG eH) v⟩
 |7=>⟨λx v=>bn.rec (motive:=λ_=>bn α) (λa0 a1 a2 a3 a4 a5 a6 _ a8 a9 dX dR eE eF eG eH=>bn.mk a0 a1 a2 a3 a4 a5 a6 x a8 a9 dX dR eE eF eG eH) v⟩
 |8=>⟨λx v=>bn.rec (motive:=λ_=>bn α) (λa0 a1 a2 a3 a4 a5 a6 a7 _ a9 dX dR eE eF eG eH=>bn.mk a0 a1 a2 a3 a4 a5 a6 a7 x a9 dX dR eE eF eG eH) v⟩
 |9=>⟨λx v=>bn.rec (motive:=λ_=>bn α) (λa0 a1 a2 a3 a4 a5 a6 a7 a8 _ dX dR eE eF eG eH=>bn.mk a0 a1 a2 a3 a4 a5 a6 a7 a8 x dX dR eE eF eG eH) v⟩
 |10=>⟨λx v=>bn.rec (motive:=λ_=>bn α) (λa0 a1 a2 a3 a4 a5 a6 a7 a8 a9 _ dR eE eF eG eH=>bn.mk a0 a1 a2 a3 a4 a5 a6 a7 a8 a9 x dR eE eF eG eH) v⟩
 |11=>⟨λx v=>bn.rec (motive:=λ_=>bn α) (λa0 a1 a2 a3 a4 a5 a6 a7 a8 a9 dX _ eE eF eG eH=>bn.mk a0 a1 a2 a3 a4 a5 a6 a7 a8 a9 dX x eE eF eG eH) v⟩
 |12=>⟨λx v=>bn.rec (motive:=λ_=>bn α) (λa0 a1 a2 a3 a4 a5 a6 a7 a8 a9 dX dR _ eF eG eH=>bn.mk a0 a1 a2 a3 a4 a5 a6 a7 a8 a9 dX dR x eF eG eH) v⟩
 |13=>⟨λx v=>bn.rec (motive:=λ_=>bn α) (λa0 a1 a2 a3 a4 a5 a6 a7 a8 a9 dX dR eE _ eG eH=>bn.mk a0 a1 a2 a3 a4 a5 a6 a7 a8 a9 dX dR eE x eG eH) v⟩
 |14=>⟨λx v=>bn.rec (motive:=λ_=>bn α) (λa0 a1 a2 a3 a4 a5 a6 a7 a8 a9 dX dR eE eF _ eH=>bn.mk a0 a1 a2 a3 a4 a5 a6 a7 a8 a9 dX dR eE eF x eH) v⟩
 |_=>⟨λx v=>bn.rec (motive:=λ_=>bn α) (λa0 a1 a2 a3 a4 a5 a6 a7 a8 a9 dX dR eE eF eG _=>bn.mk a0 a1 a2 a3 a4 a5 a6 a7 a8 a9 dX dR eE eF eG x) v⟩
structure Tr(α:Type)where
 small:bn (bn (Option α))
 qS:bn (bn (bn (bn (Option α))))
 over:Od α
def v1(α:Type):bn (Option α):=bn.all none
def v2(α:Type):bn (bn (Option α)):=bn.all (v1 α)
def v3(α:Type):bn (bn (bn (Option α))):=bn.all (v2 α)
def v4(α:Type):bn (bn (bn (bn (Option α)))):=bn.all (v3 α)
def Tr.nil{α:Type}:Tr α:=⟨v2 α,v4 α,.nil⟩
def lo(i:Nat):Nat:=Nat.mod i 16
def hi(i:Nat):Nat:=Rb i 16
def dS(i:Nat):Nat:=Rb i 256
def oi(i:Nat):Nat:=Rb i 4096
def oj{α:Type}(i:Nat):Bx (Tr α->Option α):=
 match yx i 256,yx i 65536 with
 |true,_=>⟨λt=>(bZ (lo i)).run ((bZ (hi i)).run t.small)⟩
 |false,true=>⟨λt=>(bZ (lo i)).run ((bZ (lo (hi i))).run ((bZ (lo (dS i))).run ((bZ (oi i)).run t.qS)))⟩
 |false,false=>⟨λt=>sX (path i) t.over⟩
def oo{α:Type}(i:Nat):Bx (Option α->Tr α->Tr α):=
 match yx i 256,yx i 65536 with
 |true,_=>⟨λx t=>Tr.rec (motive:=λ_=>Tr α) (λs m o=>Tr.mk ((eN (hi i)).run ((eN (lo i)).run x ((bZ (hi i)).run s)) s) m o) t⟩
 |false,true=>⟨λx t=>Tr.rec (motive:=λ_=>Tr α) (λs m o=>Tr.mk s ((eN (oi i)).run ((eN (lo (dS i))).run ((eN (lo (hi i))).run ((eN (lo i)).run x ((bZ (lo (hi i))).run ((bZ (lo (dS i))).run ((bZ (oi i)).run m))))
  ((bZ (lo (dS i))).run ((bZ (oi i)).run m))) ((bZ (oi i)).run m)) m) o) t⟩
 |false,false=>⟨λx t=>Tr.rec (motive:=λ_=>Tr α) (λs m o=>Tr.mk s m (wU (path i) x o)) t⟩
def Tr.get{α:Type}(t:Tr α)(i:Nat):Option α:=
 HT (motive:=λ_=>Option α) ((oj 0).run t) (λk _=>(oj (Nat.succ k)).run t) i
def Tr.set{α:Type}(t:Tr α)(i:Nat)(x:Option α):Tr α:=
 HT (motive:=λ_=>Tr α) ((oo 0).run x t) (λk _=>(oo (Nat.succ k)).run x t) i
def Tr.ofList{α:Type}:List α->Nat->Tr α->Tr α
 |[],_,t=>t
 |a::l,i,t=>Tr.ofList l (i+1) (t.set i (some a))
inductive bR where
 |row (cs:List Value) (wr:Bool) (ak:Nat)
 |map (es:List MapEntry) (clock:Nat)
 |cC (m:Option Nat) (since:Nat) (seen:List Nat) (last:Nat)
 |eO (s:ByteArray) (pos:Nat)
 |loop (st:LoopState) (ax:Option Code) (t:Tr Value) (n:Nat) (params:List Tmp) (bX body:Code) (fJ:Nat)
 |fJ (empty:Bool)
structure ab where
 m:Tr bR
 next:Nat
def ab.get(h:ab)(i:Nat):Option bR:=h.m.get i
def ab.set(h:ab)(i:Nat)(o:Option bR):ab:={h with m:=h.m.set i o}
def ab.new(h:ab)(o:bR):ab:={m:=h.m.set h.next (some o),next:=h.next+1}
structure Pl where
 bh:Nat
 off:Nat
 n:Nat
 cap:Nat
 ak:Nat
 K6:Obj->Prop:=λ_=>True
structure Env where
 P:Program
 under:Nat->Option TypeDesc
 size:Nat->Option Nat
 bytes:Nat->Option Nat
 zero:Nat->Option Value
 fn:Nat->Option Func
 idle:Nat->Bool
 oq:Nat
 j9:Nat->List Value->ab->Option (Value×ab)
 pins:List (Nat×Pl):=[]
def b8{α:Type}(P:Program):Sem α->Option α
 |.pure a=>some a
 |.program k=>b8 P (k P)
 |_=>none
def ep:Nat->Value->Bool
 |0,_=>false
 |n+1,v=>match v with
  |.bool _|.int _ _|.string _|.pointer none|.slice none _ _|.map none|.nilFunc|.nilIface=>true
  |.iface _ v=>ep n v
  |.agg cs=>cs.toList.all (ep n)
  |.tuple cs=>cs.toList.all (ep n)
  |_=>false
def plain(v:Value):Bool:=ep 6 v
def eI(P:Program)(s:Sem Value):Option Value:=
 match b8 P s with
 |none=>none
 |some v=>bif plain v then some v else none
def aE(e:Env)(t:Tr Value):Operand->Option Value
 |.tmp i=>t.get i
 |.const v=>bif plain v then some v else none
 |.global g=>bif yx g e.oq then some (.pointer (some ⟨g,0,none⟩))else none
 |.func f=>some (.func (.func f) #[] #[])
def db(e:Env)(t:Tr Value):List Operand->Option (List Value)
 |[]=>some []
 |o::r=>match aE e t o with
  |none=>none
  |some v=>match db e t r with
   |none=>none
   |some vs=>some (v::vs)
def jH:TypeDesc->Bool
 |.struct _|.array _ _=>true
 |_=>false
def fV(h:ab)(a:Addr)(n:Nat):Option (List Value):=
 match h.get a.block with
 |some (.row cs _ _)=>let r:=(cs.drop a.off).take n
  bif oY r.length n then some r else none
 |_=>none
def iq(e:Env)(h:ab)(t:TypeId)(a:Addr):Option Value:=
 match e.under t with
 |none=>none
 |some d=>bif jH d then
  match e.size t with
  |none=>none
  |some n=>match fV h a n with
   |none=>none
   |some cs=>some (.agg cs.toArray)
  else match fV h a 1 with
   |some [v]=>some v
   |_=>none
def dF:Value->Bool
 |.agg _|.tuple _=>false
 |_=>true
def dN(cs:List Value)(off:Nat)(vs:List Value):List Value:=cs.take off++vs++cs.drop (off+vs.length)
def kc(h:ab)(a:Addr)(vs:List Value):Option ab:=
 match vs with
 |[]=>some h
 |_=>match h.get a.block with
  |some (.row cs true ak)=>bif Q0 (a.off+vs.length) cs.length&&vs.all dF then some (h.set a.block (some (.row (dN cs a.off vs) true ak)))else none
  |_=>none
def ot(e:Env)(h:ab)(t:TypeId)(a:Addr)(v:Value):Option ab:=
 match e.size t with
 |none=>none
 |some n=>bif oY v.cells.toList.length n then kc h a v.cells.toList else none
def iJ(place:Nat->Option (Nat×Nat)):List Value->List (Nat×Value)->Option (List Value)
 |cells,[]=>some cells
 |cells,(i,v)::rest=>match place i with
  |none=>none
  |some (off,size)=>let vs:=v.cells.toList
   bif oY vs.length size&&Q0 (off+size) cells.length then iJ place (dN cells off vs) rest else none
def fx(e:Env)(t:Tr Value):List (Nat×Operand)->Option (List (Nat×Value))
 |[]=>some []
 |(i,o)::r=>match aE e t o with
  |none=>none
  |some v=>match fx e t r with
   |none=>none
   |some vs=>some ((i,v)::vs)
def dY(zs:List Value)(n:Nat):List Value:=(List.range n).map λi=>zs[i%zs.length]?.getD default
def ke(e:Env)(fields:Array Field)(i:Nat):Option (Nat×Nat):=
 match fields[i]? with
 |none=>none
 |some f=>match e.size f.type with
  |none=>none
  |some s=>some (f.offset,s)
def pR(e:Env)(t:TypeId)(parts:List (Nat×Value)):Option Value:=
 match e.zero t,e.under t with
 |some z,some (.struct fields)=>match iJ (ke e fields) z.cells.toList parts with
  |none=>none
  |some cs=>some (.agg cs.toArray)
 |some z,some (.array _ elem)=>match e.size elem with
  |none=>none
  |some s=>match iJ (λi=>some (i*s,s)) z.cells.toList parts with
   |none=>none
   |some cs=>some (.agg cs.toArray)
 |_,_=>none
def nt(e:Env)(t:TypeId)(cs:List Value)(off:Nat):Option Value:=
 match e.under t with
 |none=>none
 |some d=>bif jH d then match e.size t with
  |none=>none
  |some n=>some (.agg ((cs.drop off).take n).toArray)
  else cs[off]?
def ou:Value->Option Int
 |.int .i64 n=>some n
 |_=>none
def cU(e:Env)(t:Tr Value):Op->Option (bR×(Nat->Value))
 |.alloc elem=>match e.zero elem with
  |none=>none
  |some z=>some (.row z.cells.toList true 0,λi=>.pointer (some ⟨i,0,none⟩))
 |.box _ x=>match aE e t x with
  |none=>none
  |some v=>some (.row v.cells.toList true 0,λi=>.pointer (some ⟨i,0,none⟩))
 |.buildSlice st len parts=>match e.under st,fx e t parts.toList with
  |some (.slice elem),some ps=>match e.size elem,e.zero elem with
   |some s,some z=>bif Q0 (len*s) 16777216&&oY z.cells.toList.length s&&yx 0 s then
    match iJ (λi=>some (i*s,s)) (dY z.cells.toList (len*s)) ps with
    |none=>none
    |some cs=>some (.row cs true 0,λi=>.slice (some ⟨i,0,none⟩) len len)
    else none
   |_,_=>none
  |_,_=>none
 |.makeMap _ none=>some (.map [] 0,λi=>.map (some i))
 |.makeSlice st l c=>match e.under st,(aE e t l).bind ou,(aE e t c).bind ou with
  |some (.slice elem),some l,some c=>match e.size elem,e.zero elem,e.bytes elem with
   |some s,some z,some b=>bif decide (0<=l)&&decide (l<=c)&&decide (c<=1099511627776)&&Q0 (b*c.toNat) 1099511627776&&oY z.cells.toList.length s&&yx 0 s then
    some (.row (dY z.cells.toList (c.toNat*s)) true 0,λi=>.slice (some ⟨i,0,none⟩) l.toNat c.toNat)
    else none
   |_,_,_=>none
  |_,_,_=>none
 |_=>none
def kg(P:Program)(kt:TypeId)(k x:Value):Option Bool:=
 match k with
 |.int j a=>match x with|.int j' b=>bif decide (j=j')then some (a==b)else none|_=>none
 |.string a=>match x with|.string b=>some (a==b)|_=>none
 |.bool a=>match x with|.bool b=>some (a==b)|_=>none
 |.agg _=>b8 P (Op.equal kt k x)
 |_=>none
def gr(P:Program)(kt:TypeId)(k:Value):List MapEntry->Nat->Option (Option (Nat×Value))
 |[],_=>some none
 |e::es,i=>match kg P kt k e.key with
  |none=>none
  |some true=>some (some (i,e.val))
  |some false=>gr P kt k es (i+1)
def nu(d:TypeDesc)(k:Value):Bool:=
 match d,k with
 |.int _,.int _ _|.string,.string _|.bool,.bool _|.struct _,.agg _|.array _ _,.agg _=>true
 |_,_=>false
def pS(e:Env)(h:ab)(t:TypeId)(m k:Value)(ok:Bool):Option Value:=
 match e.under t with
 |some (.map kt et)=>match(match m with
  |.map none=>some []
  |.map (some r)=>(match h.get r with|some (.map es _)=>some es|_=>none)
  |_=>none)with
  |none=>none
  |some es=>match e.under kt with
   |none=>none
   |some kd=>bif plain k&&nu kd k then match b8 e.P (Instr.checkKey es.isEmpty 10000 kt k)with
    |none=>none
    |some _=>match gr e.P kt k es 0 with
     |none=>none
     |some (some (_,v))=>some (bif ok then .tuple #[v,.bool true]else v)
     |some none=>match e.zero et with
      |none=>none
      |some z=>bif plain z then some (bif ok then .tuple #[z,.bool false]else z)else none
    else none
 |_=>none
def qT(e:Env)(h:ab)(t:TypeId)(m k v:Value):Option ab:=
 match e.under t,m with
 |some (.map kt _),.map (some r)=>match h.get r with
  |some (.map es clock)=>match e.under kt with
   |none=>none
   |some kd=>bif plain k&&nu kd k then match b8 e.P (Instr.checkKey false 10000 kt k)with
    |none=>none
    |some _=>match gr e.P kt k es 0 with
     |none=>none
     |some (some (i,_))=>bif Instr.sameBits 10000 (((es[i]?).map (·.key)).getD k) k then
      some (h.set r (some (.map (es.modify i λx=>{x with key:=k,val:=v}) clock)))
      else none
     |some none=>some (h.set r (some (.map (es++[{key:=k,val:=v,born:=clock}]) (clock+1))))
    else none
  |_=>none
 |_,_=>none
def intOf:Value->Option Int
 |.int _ n=>some n
 |_=>none
def ew(v:Option Value)(aC aG:Nat):Option Nat:=
 match v with
 |none=>some aG
 |some v=>match intOf v with
  |none=>none
  |some i=>bif decide (0<=i)&&decide (i<=(aC:Int))then some i.toNat else none
def sY:Option Value->Bool
 |none=>true
 |some v=>plain v
def mC(h:ab)(a:Addr)(s:Nat):Bool:=
 match h.get a.block with
 |some (.row _ _ ak)=>oY ak 0||oY ak s
 |_=>false
def jI(e:Env)(hp:ab)(t:TypeId)(x:Value)(lo hi mx:Option Value):Option Value:=
 match e.under t,x with
 |some (.slice elem),.slice base len cap=>match e.size elem,ew mx cap cap with
  |some s,some m=>match ew hi m len with
   |none=>none
   |some h=>bif Q0 h m&&(mx.isNone||hi.isSome)then match ew lo h 0 with
    |none=>none
    |some l=>match base with
     |none=>some (.slice none (h-l) (m-l))
     |some a=>bif mC hp a s then some (.slice (some (a.add (l*s))) (h-l) (m-l))else none
    else none
  |_,_=>none
 |some (.array n elem),.pointer (some a)=>match e.size elem,mx with
  |some s,none=>match ew hi n n with
   |none=>none
   |some h=>match ew lo h 0 with
    |none=>none
    |some l=>some (.slice (some (if n=l then a else a.add (l*s))) (h-l) (n-l))
  |_,_=>none
 |some .string,.string s=>bif sY lo&&(sY hi&&sY mx)then eI e.P (Instr.sliceAt t (.string s) lo hi mx)else none
 |_,_=>none
def pT:Value->Option Nat
 |.slice _ n _=>some n
 |.string s=>some s.size
 |_=>none
def ir(h:ab)(s n:Nat):Value->Option (List Value)
 |.slice (some a) _ _=>fV h a (n*s)
 |.slice none _ _=>some []
 |.string b=>some (((b.extract 0 n).data.toList).map λx=>.int .u8 x.toNat)
 |_=>none
def ov:TypeDesc->Bool
 |.int _=>true
 |_=>false
def sZ(made:Bool)(b:Nat)(x:Value):Option Nat:=
 bif made then match ou x with
  |some l=>bif decide (0<=l)&&decide (l<=1099511627776)&&Q0 (b*l.toNat) 1099511627776 then some l.toNat else none
  |none=>none
 else pT x
def s8(h:ab)(made:Bool)(zs:List Value)(n sz:Nat)(x:Value):Option (List Value):=
 bif made then some (dY zs (n*sz))else ir h sz n x
def pU(h:ab)(base:Option Addr)(len cap sz b n:Nat)(new:List Value):Option (Value×ab):=
 bif Q0 (len+n) cap then match base with
  |none=>bif oY n 0 then some (.slice base (len+n) cap,h)else none
  |some a=>match kc h (a.add (len*sz)) new with
   |none=>none
   |some h'=>some (.slice base (len+n) cap,h')
 else bif Q0 ((len+n)*(b+1)) 1073741824 then match base with
  |none=>bif oY len 0&&oY cap 0 then some (.slice (some ⟨h.next,0,none⟩) (len+n) (len+n),h.new (.row new true sz))else none
  |some a=>match fV h a (len*sz),h.get a.block with
   |some bp,some (.row cs wr ak)=>
    bif oY ak 0||(oY ak sz&&yx (a.off+cap*sz) cs.length)then some (.slice (some ⟨h.next,0,none⟩) (len+n) (len+n),h.new (.row (bp++new) true sz))
    else bif wr&&oY ak sz&&new.all dF then some (.slice (some ⟨h.next,0,none⟩) (len+n) (len+n),(h.set a.block none).new (.row (bp++new) true sz))
    else none
   |_,_=>none
 else none
def nv(e:Env)(h:ab)(af:Array TypeId)(s x:Value):Option (Value×ab):=
 match af[0]?,af[1]?,s with
 |some st,some xt,.slice base len cap=>match e.under st,e.under xt with
  |some (.slice elem),some xd=>match e.size elem,e.zero elem,e.bytes elem with
   |some sz,some z,some b=>match sZ (ov xd) b x with
    |none=>none
    |some n=>match s8 h (ov xd) z.cells.toList n sz x with
     |none=>none
     |some new=>bif yx 0 sz&&oY z.cells.toList.length sz&&oY new.length (n*sz)then pU h base len cap sz b n new else none
   |_,_,_=>none
  |_,_=>none
 |_,_,_=>none
def wV(e:Env)(h:ab)(af:Array TypeId)(d x:Value):Option (Value×ab):=
 match af[0]?,d with
 |some dt,.slice base aH _=>match e.under dt,pT x with
  |some (.slice elem),some xl=>match e.size elem with
   |none=>none
   |some sz=>let n:=Nat.min xl aH
    match ir h sz n x with
    |none=>none
    |some cs=>bif oY cs.length (n*sz)then match base with
     |none=>some (.int .i64 n,h)
     |some a=>match kc h a cs with
      |none=>none
      |some h'=>some (.int .i64 n,h')
     else none
  |_,_=>none
 |_,_=>none
def uX(e:Env)(h:ab)(af:Array TypeId)(x:Value):Option (Value×ab):=
 match af[0]?,x with
 |some st,.slice base n _=>match e.under st with
  |some (.slice elem)=>match e.size elem,e.zero elem with
   |some sz,some z=>bif yx 0 sz&&oY z.cells.toList.length sz then match base with
    |none=>some (.tuple #[],h)
    |some a=>(kc h a (dY z.cells.toList (n*sz))).map λh'=>(.tuple #[],h')
    else none
   |_,_=>none
  |_=>none
 |_,_=>none
def fK(e:Env)(h:ab)(t:TypeId)(x:Value):Option Value:=
 match e.under t,x with
 |some .string,.string s=>some (.int .i64 s.size)
 |some (.array n _),_=>some (.int .i64 n)
 |some (.pointer arr),_=>match e.under arr with
  |some (.array n _)=>some (.int .i64 n)
  |_=>none
 |some (.slice _),.slice _ n _=>some (.int .i64 n)
 |some (.map _ _),.map none=>some (.int .i64 0)
 |some (.map _ _),.map (some r)=>match h.get r with
  |some (.map es _)=>some (.int .i64 es.length)
  |_=>none
 |_,_=>none
def qU(e:Env)(h:ab)(t:TypeId)(x:Value):Option Value:=
 match e.under t,x with
 |some (.slice _),.slice none _ n=>some (.int .i64 n)
 |some (.slice elem),.slice (some a) _ n=>match h.get a.block,e.size elem with
  |some (.row cs _ ak),some s=>bif oY ak 0||(oY ak s&&yx (a.off+n*s) cs.length)then some (.int .i64 n)else none
  |_,_=>none
 |_,_=>none
def fL(d:TypeDesc)(x:Value):Option Bool:=
 match d with
 |.pointer _=>match x with|.pointer a=>some a.isNone|_=>none
 |.slice _=>match x with|.slice a _ _=>some a.isNone|_=>none
 |.map _ _=>match x with|.map r=>some r.isNone|_=>none
 |.func _ _ _=>match x with|.nilFunc=>some true|.func _ _ _=>some false|_=>none
 |.interface _=>match x with|.nilIface=>some true|.iface _ _=>some false|_=>none
 |_=>none
def s9(d:TypeDesc)(x y:Value):Bool:=
 match fL d x,fL d y with
 |some true,some false=>true
 |some false,some true=>true
 |_,_=>false
def kK(op:BinOp)(k:IntKind)(a b:Int):Option Value:=
 match op with
 |.add=>some (.int k (k.wrap (a+b)))
 |.sub=>some (.int k (k.wrap (a-b)))
 |.mul=>some (.int k (k.wrap (a*b)))
 |.eql=>some (.bool (decide (a=b)))
 |.neq=>some (.bool (!decide (a=b)))
 |.lss=>some (.bool (decide (a<b)))
 |.leq=>some (.bool (decide (a<=b)))
 |.gtr=>some (.bool (decide (b<a)))
 |.geq=>some (.bool (decide (b<=a)))
 |_=>none
def cL(e:Env)(op:BinOp)(t:TypeId)(x y:Operand)(a b:Value):Option Value:=
 match(match a,b with
  |.int k n,.int k' m=>bif decide (k=k')then kK op k n m else none
  |_,_=>none)with
 |some v=>some v
 |none=>bif plain a&&plain b then eI e.P (do eqGuard op t x y a b;binOp op t a b)
  else match e.under t with
   |none=>none
   |some d=>bif s9 d a b then match op with
    |.eql=>some (.bool false)
    |.neq=>some (.bool true)
    |_=>none
    else none
inductive AR where
 |val (v:Value) (h:ab)
 |skip (h:ab)
 |enter (f:FuncId) (args:List Value) (h:ab)
 |round (l:Nat) (args:List Value) (h:ab)
 |defer (f:FuncId) (args:List Value) (cap:List Value) (h:ab)
def ny(f:Value)(args:List Value):Option (Fn×List Value×List Value):=
 match f with
 |.func fn first cap=>some (fn,first.toList++args,cap.toList)
 |_=>none
def iu:Value->Option Addr
 |.pointer (some a)=>some a
 |_=>none
def pV(h:ab)(it:Value)(isString:Bool):Option (Value×ab):=
 match it with
 |.pointer (some ⟨r,0,none⟩)=>match h.get r,isString with
  |some (.eO s pos),true=>
   bif yx pos s.size then
    let d:=Utf8.decode s pos
    some (.tuple #[.bool true,.int .i64 pos,.int .i32 d.1],h.set r (some (.eO s (pos+d.2))))
   else some (.tuple #[.bool false],h)
  |some (.cC none _ _ _),false=>some (.tuple #[.bool false],h)
  |some (.cC (some m) since seen last),false=>match h.get m with
   |some (.map es clock)=>
    bif (!seen.isEmpty&& !es.isEmpty&&es.all λx=>Q0 last x.born)then none else
    let left:=es.filter λx=> !seen.contains x.born
    let bp:=left.filter λx=>decide (x.born<since)
    let new:=left.filter λx=>decide (x.born>=since)
    match bp,new with
    |[],[]=>some (.tuple #[.bool false],h)
    |[x],[]=>some (.tuple #[.bool true,x.key,x.val],h.set r (some (.cC (some m) since (seen++[x.born]) clock)))
    |_,_=>none
   |_=>none
  |_,_=>none
 |_=>none
def qV(h:ab)(it:Value):Option Value:=
 match it with
 |.pointer (some ⟨r,0,none⟩)=>match h.get r with
  |some (.cC (some m) _ seen ae)=>match seen.getLast?,h.get m with
   |some ah,some (.map es clock)=>bif oY clock ae then match es.find? λx=>x.born==ah with
    |some x=>some (.tuple #[x.key,x.val])
    |none=>none
    else none
   |_,_=>none
  |_=>none
 |_=>none
def lr(e:Env)(h:ab)(t:Tr Value)(c:Call):Option AR:=
 match db e t c.args.toList with
 |none=>none
 |some args=>match c.callee with
  |.value f=>match aE e t f with
   |none=>none
   |some fv=>match ny fv args with
    |some (.func g,az,cap)=>some (.enter g (az++cap) h)
    |some (.yield l,az,_)=>some (.round l az h)
    |_=>none
  |.invoke _ _=>none
  |.builtin b=>match b,args with
   |.append,[s,x]=>(nv e h c.argTypes s x).map λr=>.val r.1 r.2
   |.copy,[d,x]=>(wV e h c.argTypes d x).map λr=>.val r.1 r.2
   |.clear,[x]=>(uX e h c.argTypes x).map λr=>.val r.1 r.2
   |.len,[x]=>match c.argTypes[0]? with
    |none=>none
    |some ty=>(fK e h ty x).map λv=>.val v h
   |.cap,[x]=>match c.argTypes[0]? with
    |none=>none
    |some ty=>(qU e h ty x).map λv=>.val v h
   |.min,_=>bif args.all plain then(eI e.P (Builtin.min_ #[] 0 args.toArray)).map λv=>.val v h else none
   |.max,_=>bif args.all plain then(eI e.P (Builtin.max_ #[] 0 args.toArray)).map λv=>.val v h else none
   |_,_=>none
def qW:List Value->Option (List Int)
 |[]=>some []
 |.int .u8 n::r=>(qW r).map (n::·)
 |_=>none
def strOf(ns:List Int):ByteArray:=ns.foldl (λr n=>r.push (UInt8.ofNat n.toNat)) ByteArray.empty
def ow(e:Env)(h:ab)(s d:TypeId)(x:Value):Option Value:=
 match x,e.under s,e.under d with
 |.slice (some a) len _,some (.slice el),some .string=>match e.under el with
  |some (.int .u8)=>match fV h a len with
   |some cs=>(qW cs).map λns=>.string (strOf ns)
   |none=>none
  |_=>none
 |_,_,_=>none
def aS(e:Env)(h:ab)(t:Tr Value)(op:Op):Option AR:=
 match op with
 |.move x|.assign x=>(aE e t x).map λv=>.val v h
 |.pick c a b=>match aE e t c with
  |some (.bool true)=>(aE e t a).map λv=>.val v h
  |some (.bool false)=>(aE e t b).map λv=>.val v h
  |_=>none
 |.alloc _|.box _ _|.buildSlice _ _ _|.makeMap _ _|.makeSlice _ _ _=>match cU e t op with
  |none=>none
  |some (o,f)=>some (.val (f h.next) (h.new o))
 |.build ty parts=>match fx e t parts.toList with
  |none=>none
  |some ps=>(pR e ty ps).map λv=>.val v h
 |.load ty a=>match(aE e t a).bind iu with
  |none=>none
  |some a=>(iq e h ty a).map λv=>.val v h
 |.store ty a x=>match(aE e t a).bind iu,aE e t x with
  |some a,some v=>(ot e h ty a v).map .skip
  |_,_=>none
 |.nilCheck x=>match aE e t x with
  |some (.pointer (some a))=>some (.val (.pointer (some a)) h)
  |some (.func (.func f) a b)=>some (.val (.func (.func f) a b) h)
  |_=>none
 |.binOp op ty x y _=>match aE e t x,aE e t y with
  |some a,some b=>(cL e op ty x y a b).map λv=>.val v h
  |_,_=>none
 |.unOp op _ x=>match aE e t x with
  |some a=>bif plain a then(eI e.P (Op.unary op a)).map λv=>.val v h else none
  |_=>none
 |.convert s d x=>match aE e t x with
  |some a=>bif plain a then(eI e.P (convert s d a)).map λv=>.val v h else(ow e h s d a).map λv=>.val v h
  |_=>none
 |.makeInterface ty x=>match aE e t x,e.under ty with
  |some _,some (.interface _)=>none
  |some v,some _=>some (.val (.iface ty v) h)
  |_,_=>none
 |.makeFunc (.func f) first cap=>match db e t first.toList,db e t cap.toList with
  |some a,some b=>some (.val (.func (.func f) a.toArray b.toArray) h)
  |_,_=>none
 |.slice ty x lo hi mx=>match aE e t x,(match lo with|none=>some none|some o=>(aE e t o).map some),(match hi with|none=>some none|some o=>(aE e t o).map some),(match mx with|none=>some none|some o=>(aE e t o).map some)with
  |some x,some lo,some hi,some mx=>(jI e h ty x lo hi mx).map λv=>.val v h
  |_,_,_,_=>none
 |.fieldAddr s x f=>match(aE e t x).bind iu,e.under s with
  |some a,some (.struct fields)=>match ke e fields f with
   |some (off,size)=>bif yx 0 size then some (.val (.pointer (some (a.add off))) h)else none
   |none=>none
  |_,_=>none
 |.field ty x f=>match aE e t x,e.under ty with
  |some (.agg cs),some (.struct fields)=>match fields[f]? with
   |none=>none
   |some fd=>(nt e fd.type cs.toList fd.offset).map λv=>.val v h
  |_,_=>none
 |.indexAddr ty x ix=>match aE e t x,(aE e t ix).bind intOf,e.under ty with
  |some (.pointer (some a)),some i,some (.array len elem)=>match e.size elem with
   |none=>none
   |some s=>bif decide (0<=i)&&decide (i<(len:Int))then some (.val (.pointer (some (a.add (i.toNat*s)))) h)else none
  |some (.slice (some a) len _),some i,some (.slice elem)=>match e.size elem with
   |none=>none
   |some s=>bif decide (0<=i)&&decide (i<(len:Int))then some (.val (.pointer (some (a.add (i.toNat*s)))) h)else none
  |_,_,_=>none
 |.index ty x ix=>match aE e t x,aE e t ix,e.under ty with
  |some (.agg cs),some (.int _ i),some (.array len elem)=>match e.size elem with
   |none=>none
   |some s=>bif decide (0<=i)&&decide (i<(len:Int))then(nt e elem cs.toList (i.toNat*s)).map λv=>.val v h else none
  |some (.string s),some (.int k i),some .string=>(eI e.P (Instr.index ty (.string s) (.int k i))).map λv=>.val v h
  |_,_,_=>none
 |.lookup ty m k ok=>match aE e t m,aE e t k with
  |some m,some k=>(pS e h ty m k ok).map λv=>.val v h
  |_,_=>none
 |.mapUpdate ty m k v|.insert ty m k v=>match aE e t m,aE e t k,aE e t v with
  |some m,some k,some v=>(qT e h ty m k v).map .skip
  |_,_,_=>none
 |.range ty x=>match aE e t x,e.under ty with
  |some (.string s),some .string=>some (.val (.pointer (some ⟨h.next,0,none⟩)) (h.new (.eO s 0)))
  |some (.map none),some (.map _ _)=>some (.val (.pointer (some ⟨h.next,0,none⟩)) (h.new (.cC none 0 [] 0)))
  |some (.map (some m)),some (.map _ _)=>match h.get m with
   |some (.map _ clock)=>some (.val (.pointer (some ⟨h.next,0,none⟩)) (h.new (.cC (some m) clock [] clock)))
   |_=>none
  |_,_=>none
 |.next it s=>match aE e t it with
  |none=>none
  |some it=>(pV h it s).map λr=>.val r.1 r.2
 |.entry it=>match aE e t it with
  |none=>none
  |some it=>(qV h it).map λv=>.val v h
 |.extract x i=>match aE e t x with
  |some (.tuple vs)=>(vs[i]?).map λv=>.val v h
  |_=>none
 |.call c=>lr e h t c
 |.defer c=>match c.callee,db e t c.args.toList with
  |.value f,some args=>match(aE e t f).bind (ny · args)with
   |some (.func g,az,cap)=>some (.defer g az cap h)
   |_=>none
  |_,_=>none
 |_=>none
def K7(e:Env)(h:ab)(t:Tr Value)(x:Operand):Option AR:=(aE e t x).map λv=>.val v h
def K8(e:Env)(h:ab)(t:Tr Value)(x:Operand):Option AR:=(aE e t x).map λv=>.val v h
def K9(e:Env)(h:ab)(t:Tr Value)(c:Operand)(a:Operand)(b:Operand):Option AR:=match aE e t c with
 |some (.bool true)=>(aE e t a).map λv=>.val v h
 |some (.bool false)=>(aE e t b).map λv=>.val v h
 |_=>none
def uY(e:Env)(h:ab)(t:Tr Value)(op:Op):Option AR:=match cU e t op with
 |none=>none
 |some (o,f)=>some (.val (f h.next) (h.new o))
def La(e:Env)(h:ab)(t:Tr Value)(ty:TypeId)(parts:Array (Nat×Operand)):Option AR:=match fx e t parts.toList with
 |none=>none
 |some ps=>(pR e ty ps).map λv=>.val v h
def Lb(e:Env)(h:ab)(t:Tr Value)(ty:TypeId)(a:Operand):Option AR:=match(aE e t a).bind iu with
 |none=>none
 |some a=>(iq e h ty a).map λv=>.val v h
def Lc(e:Env)(h:ab)(t:Tr Value)(ty:TypeId)(a:Operand)(x:Operand):Option AR:=match(aE e t a).bind iu,aE e t x with
 |some a,some v=>(ot e h ty a v).map .skip
 |_,_=>none
def Ld(e:Env)(h:ab)(t:Tr Value)(x:Operand):Option AR:=match aE e t x with
 |some (.pointer (some a))=>some (.val (.pointer (some a)) h)
 |some (.func (.func f) a b)=>some (.val (.func (.func f) a b) h)
 |_=>none
def Le(e:Env)(h:ab)(t:Tr Value)(op:BinOp)(ty:TypeId)(x:Operand)(y:Operand)(u4:TypeId):Option AR:=match aE e t x,aE e t y with
 |some a,some b=>(cL e op ty x y a b).map λv=>.val v h
 |_,_=>none
def Lg(e:Env)(h:ab)(t:Tr Value)(op:UnOp)(u1:TypeId)(x:Operand):Option AR:=match aE e t x with
 |some a=>bif plain a then(eI e.P (Op.unary op a)).map λv=>.val v h else none
 |_=>none
def Lh(e:Env)(h:ab)(t:Tr Value)(s:TypeId)(d:TypeId)(x:Operand):Option AR:=match aE e t x with
 |some a=>bif plain a then(eI e.P (convert s d a)).map λv=>.val v h else(ow e h s d a).map λv=>.val v h
 |_=>none
def Li(e:Env)(h:ab)(t:Tr Value)(ty:TypeId)(x:Operand):Option AR:=match aE e t x,e.under ty with
 |some _,some (.interface _)=>none
 |some v,some _=>some (.val (.iface ty v) h)
 |_,_=>none
def Lj(e:Env)(h:ab)(t:Tr Value)(f:FuncId)(first cap:Array Operand):Option AR:=match db e t first.toList,db e t cap.toList with
 |some a,some b=>some (.val (.func (.func f) a.toArray b.toArray) h)
 |_,_=>none
def Lk(e:Env)(h:ab)(t:Tr Value)(ty:TypeId)(x:Operand)(lo:Option Operand)(hi:Option Operand)(mx:Option Operand):Option AR:=match aE e t x,(match lo with|none=>some none|some o=>(aE e t o).map some),(match hi with|none=>some none|some o=>(aE e t o).map some),(match mx with|none=>some none|some o=>(aE e t o).map some)with
 |some x,some lo,some hi,some mx=>(jI e h ty x lo hi mx).map λv=>.val v h
 |_,_,_,_=>none
def Ll(e:Env)(h:ab)(t:Tr Value)(s:TypeId)(x:Operand)(f:Nat):Option AR:=match(aE e t x).bind iu,e.under s with
 |some a,some (.struct fields)=>match ke e fields f with
  |some (off,size)=>bif yx 0 size then some (.val (.pointer (some (a.add off))) h)else none
  |none=>none
 |_,_=>none
def Lm(e:Env)(h:ab)(t:Tr Value)(ty:TypeId)(x:Operand)(f:Nat):Option AR:=match aE e t x,e.under ty with
 |some (.agg cs),some (.struct fields)=>match fields[f]? with
  |none=>none
  |some fd=>(nt e fd.type cs.toList fd.offset).map λv=>.val v h
 |_,_=>none
def Lo(e:Env)(h:ab)(t:Tr Value)(ty:TypeId)(x:Operand)(ix:Operand):Option AR:=match aE e t x,(aE e t ix).bind intOf,e.under ty with
 |some (.pointer (some a)),some i,some (.array len elem)=>match e.size elem with
  |none=>none
  |some s=>bif decide (0<=i)&&decide (i<(len:Int))then some (.val (.pointer (some (a.add (i.toNat*s)))) h)else none
 |some (.slice (some a) len _),some i,some (.slice elem)=>match e.size elem with
  |none=>none
  |some s=>bif decide (0<=i)&&decide (i<(len:Int))then some (.val (.pointer (some (a.add (i.toNat*s)))) h)else none
 |_,_,_=>none
def Lp(e:Env)(h:ab)(t:Tr Value)(ty:TypeId)(x:Operand)(ix:Operand):Option AR:=match aE e t x,aE e t ix,e.under ty with
 |some (.agg cs),some (.int _ i),some (.array len elem)=>match e.size elem with
  |none=>none
  |some s=>bif decide (0<=i)&&decide (i<(len:Int))then(nt e elem cs.toList (i.toNat*s)).map λv=>.val v h else none
 |some (.string s),some (.int k i),some .string=>(eI e.P (Instr.index ty (.string s) (.int k i))).map λv=>.val v h
 |_,_,_=>none
def Lq(e:Env)(h:ab)(t:Tr Value)(ty:TypeId)(m:Operand)(k:Operand)(ok:Bool):Option AR:=match aE e t m,aE e t k with
 |some m,some k=>(pS e h ty m k ok).map λv=>.val v h
 |_,_=>none
def Lr(e:Env)(h:ab)(t:Tr Value)(ty:TypeId)(m:Operand)(k:Operand)(v:Operand):Option AR:=match aE e t m,aE e t k,aE e t v with
 |some m,some k,some v=>(qT e h ty m k v).map .skip
 |_,_,_=>none
def Ls(e:Env)(h:ab)(t:Tr Value)(ty:TypeId)(m:Operand)(k:Operand)(v:Operand):Option AR:=match aE e t m,aE e t k,aE e t v with
 |some m,some k,some v=>(qT e h ty m k v).map .skip
 |_,_,_=>none
def Lt(e:Env)(h:ab)(t:Tr Value)(ty:TypeId)(x:Operand):Option AR:=match aE e t x,e.under ty with
 |some (.string s),some .string=>some (.val (.pointer (some ⟨h.next,0,none⟩)) (h.new (.eO s 0)))
 |some (.map none),some (.map _ _)=>some (.val (.pointer (some ⟨h.next,0,none⟩)) (h.new (.cC none 0 [] 0)))
 |some (.map (some m)),some (.map _ _)=>match h.get m with
  |some (.map _ clock)=>some (.val (.pointer (some ⟨h.next,0,none⟩)) (h.new (.cC (some m) clock [] clock)))
  |_=>none
 |_,_=>none
def Lu(e:Env)(h:ab)(t:Tr Value)(it:Operand)(s:Bool):Option AR:=match aE e t it with
 |none=>none
 |some it=>(pV h it s).map λr=>.val r.1 r.2
def Lv(e:Env)(h:ab)(t:Tr Value)(it:Operand):Option AR:=match aE e t it with
 |none=>none
 |some it=>(qV h it).map λv=>.val v h
def Lw(e:Env)(h:ab)(t:Tr Value)(x:Operand)(i:Nat):Option AR:=match aE e t x with
 |some (.tuple vs)=>(vs[i]?).map λv=>.val v h
 |_=>none
def Lx(e:Env)(h:ab)(t:Tr Value)(c:Call):Option AR:=match c.callee,db e t c.args.toList with
 |.value f,some args=>match(aE e t f).bind (ny · args)with
  |some (.func g,az,cap)=>some (.defer g az cap h)
  |_=>none
 |_,_=>none
def DQ(e:Env)(h:ab)(t:Tr Value)(op:Op):Option AR:=
 match op with
 |.move x=>K7 e h t x
 |.assign x=>K8 e h t x
 |.pick c a b=>K9 e h t c a b
 |.alloc x0=>uY e h t (.alloc x0)
 |.box x0 x1=>uY e h t (.box x0 x1)
 |.buildSlice x0 x1 x2=>uY e h t (.buildSlice x0 x1 x2)
 |.makeMap x0 x1=>uY e h t (.makeMap x0 x1)
 |.makeSlice x0 x1 x2=>uY e h t (.makeSlice x0 x1 x2)
 |.build ty parts=>La e h t ty parts
 |.load ty a=>Lb e h t ty a
 |.store ty a x=>Lc e h t ty a x
 |.nilCheck x=>Ld e h t x
 |.binOp op ty x y u4=>Le e h t op ty x y u4
 |.unOp op u1 x=>Lg e h t op u1 x
 |.convert s d x=>Lh e h t s d x
 |.makeInterface ty x=>Li e h t ty x
 |.makeFunc (.func f) first cap=>Lj e h t f first cap
 |.slice ty x lo hi mx=>Lk e h t ty x lo hi mx
 |.fieldAddr s x f=>Ll e h t s x f
 |.field ty x f=>Lm e h t ty x f
 |.indexAddr ty x ix=>Lo e h t ty x ix
 |.index ty x ix=>Lp e h t ty x ix
 |.lookup ty m k ok=>Lq e h t ty m k ok
 |.mapUpdate ty m k v=>Lr e h t ty m k v
 |.insert ty m k v=>Ls e h t ty m k v
 |.range ty x=>Lt e h t ty x
 |.next it s=>Lu e h t it s
 |.entry it=>Lv e h t it
 |.extract x i=>Lw e h t x i
 |.call c=>lr e h t c
 |.defer c=>Lx e h t c
 |_=>none
def Ly(e:Env)(h:ab)(t:Tr Value)(op:Op):DQ e h t op=aS e h t op:=by
 cases op<;>first|rfl|(rename_i fn _ _;cases fn<;>rfl)
structure aM where
 t:Tr Value
 n:Nat
 ds:List Deferred
 h:ab
inductive bu where
 |normal
 |exit (id:Nat)
 |ret
 deriving DecidableEq
abbrev eP:=FuncId->List Value->ab->Option (Value×ab)
abbrev gP:=Nat->List Value->ab->Option (Value×ab)
def fy(s:aM)(dst:Option Tmp)(v:Value):Option aM:=
 match dst with
 |none=>some s
 |some d=>match s with
  |⟨t,n,ds,h⟩=>bif yx d n then some ⟨t.set d (some v),n,ds,h⟩else none
def qX(s:aM)(dst:Option Tmp)(v:Value):fy s dst v=match dst with
 |none=>some s
 |some d=>bif yx d s.n then some {s with t:=s.t.set d (some v)}else none:=by cases dst<;>rfl
def mD(e:Env)(cf:eP)(rf:gP)(ro:Option Nat)(o:Oper)(s:aM):Option aM:=
 match s with
 |⟨t,n,ds,h⟩=>match DQ e h t o.op with
  |none=>none
  |some (.val v h)=>fy ⟨t,n,ds,h⟩ o.dst v
  |some (.skip h)=>fy ⟨t,n,ds,h⟩ o.dst undef
  |some (.enter f args h)=>match cf f args h with
   |none=>none
   |some (v,h)=>fy ⟨t,n,ds,h⟩ o.dst v
  |some (.round l args h)=>match rf l args h with
   |none=>none
   |some (v,h)=>fy ⟨t,n,ds,h⟩ o.dst v
  |some (.defer f args cap h)=>match ro with
   |some _=>none
   |none=>fy ⟨t,n,{target:=.fn (.func f) cap.toArray,args:=args.toArray}::ds,h⟩ o.dst undef
def wW(e:Env)(cf:eP)(rf:gP)(ro:Option Nat)(o:Oper)(s:aM):mD e cf rf ro o s=match aS e s.h s.t o.op with
 |none=>none
 |some (.val v h)=>fy {s with h} o.dst v
 |some (.skip h)=>fy {s with h} o.dst undef
 |some (.enter f args h)=>match cf f args h with
  |none=>none
  |some (v,h)=>fy {s with h} o.dst v
 |some (.round l args h)=>match rf l args h with
  |none=>none
  |some (v,h)=>fy {s with h} o.dst v
 |some (.defer f args cap h)=>match ro with
  |some _=>none
  |none=>fy {s with h,ds:={target:=.fn (.func f) cap.toArray,args:=args.toArray}::s.ds} o.dst undef:=by
 rw[<-Ly];rfl
def cZ(ops:List Oper)(s:aM)(o:Oper):Option Bool:=
 match o.guard with
 |none=>some true
 |some (j,want)=>match(ops[j]?).bind (·.dst)with
  |none=>none
  |some d=>match s.t.get d with
   |some (.bool b)=>some (b==want)
   |some (.tuple _)=>some false
   |_=>none
def qY(e:Env)(cf:eP)(rf:gP)(ro:Option Nat)(ops:List Oper):List Oper->aM->Option aM
 |[],s=>some s
 |o::r,s=>match cZ ops s o with
  |none=>none
  |some true=>match mD e cf rf ro o s with
   |none=>none
   |some s=>qY e cf rf ro ops r s
  |some false=>match fy s o.dst undef with
   |none=>none
   |some s=>qY e cf rf ro ops r s
inductive ta where
 |pure|read|alloc|effect|bad
 deriving DecidableEq
def cls:Op->ta
 |.move _|.assign _|.pick _ _ _|.build _ _|.nilCheck _|.binOp _ _ _ _ _|.unOp _ _ _|.makeInterface _ _|.makeFunc _ _ _
 |.fieldAddr _ _ _|.field _ _ _|.indexAddr _ _ _|.index _ _ _|.extract _ _=>.pure
 |.load _ _|.lookup _ _ _ _|.entry _|.slice _ _ _ _ _|.convert _ _ _=>.read
 |.alloc _|.box _ _|.buildSlice _ _ _|.makeMap _ _|.makeSlice _ _ _=>.alloc
 |.call c=>match c.callee with
  |.builtin .len|.builtin .cap|.builtin .min|.builtin .max=>.read
  |_=>.effect
 |.store _ _ _|.mapUpdate _ _ _ _|.insert _ _ _ _|.range _ _|.next _ _=>.effect
 |_=>.bad
def lZ:List Oper->List Nat->List Nat
 |[],acc=>acc.reverse
 |o::r,acc=>
  let look (i:Nat):Nat:=acc.reverse.getD i 0
  lZ r (o.after.toList.foldl (λs x=>bif Region.binds .any x then Nat.lor s (Nat.lor (2^x.on) (look x.on))else s) 0::acc)
def bz(ops:List Oper):List Nat:=lZ ops []
def tmpsOf(o:Oper):List Tmp:=o.op.operands.toList.filterMap λ|.tmp t=>some t|_=>none
def pW(ops:List Oper)(ms:List Nat):Bool:=
 let io:=ops.zipIdx
 (io.all λ(o,i)=>o.after.toList.all λx=> !Region.binds .any x||yx x.on i)&&
 (io.all λ(o,i)=>match o.guard with|none=>true|some (j,_)=>(ms.getD i 0).testBit j)&&
 (io.all λ(o,i)=>match o.dst with
  |none=>true
  |some d=>io.all λ(p,j)=>oY i j||((match p.dst with|some d'=> !Nat.beq d d'|none=>true)&&(!(tmpsOf p).contains d||(bif yx i j then(ms.getD j 0).testBit i else(ms.getD i 0).testBit j))))&&
 (io.all λ(o,_)=>match o.dst with|none=>true|some d=> !(tmpsOf o).contains d)&&
 (let es:=io.filter λ(o,_)=>cls o.op==.effect
  es.all λ(_,i)=>es.all λ(_,j)=> !Nat.blt i j||(ms.getD j 0).testBit i)
abbrev dA:=List (Nat×Nat×bR)
def cq(h:ab)(m:Nat):dA->ab
 |[]=>h
 |(i,id,o)::r=>bif m.testBit i then(cq h m r).set id (some o)else cq h m r
def uZ:Nat->Value->Value->Bool
 |0,_,_=>false
 |n+1,a,b=>match a,b with
  |.bool a,.bool b=>a==b
  |.int j a,.int k b=>decide (j=k)&&decide (a=b)
  |.string a,.string b=>decide (a=b)
  |.pointer a,.pointer b=>decide (a=b)
  |.slice a l c,.slice b m d=>decide (a=b)&&oY l m&&oY c d
  |.map a,.map b=>decide (a=b)
  |.nilFunc,.nilFunc=>true
  |.nilIface,.nilIface=>true
  |.iface t v,.iface u w=>decide (t=u)&&uZ n v w
  |.agg a,.agg b=>qZ n a.toList b.toList
  |.tuple a,.tuple b=>qZ n a.toList b.toList
  |.func f a c,.func g b d=>decide (f=g)&&qZ n a.toList b.toList&&qZ n c.toList d.toList
  |_,_=>false
where
 qZ (n:Nat):List Value->List Value->Bool
 |[],[]=>true
 |a::x,b::y=>uZ n a b&&qZ n x y
 |_,_=>false
structure cF where
 s:aM
 ax:dA
 all:dA
 bK:List (Nat×ab)
 di:List (Tr Value)
def tg(e:Env)(cf:eP)(rf:gP)(ro:Option Nat)(ops:List Oper)(i id m:Nat)(o:Oper)(x:cF):Option cF:=
 match cZ ops x.s o with
 |none=>none
 |some false=>match fy x.s o.dst undef with
  |none=>none
  |some s=>match cls o.op with
   |.effect=>some {x with s,bK:=((x.bK.head?.map (·.1)).getD 0,s.h)::x.bK}
   |.bad=>none
   |_=>some {x with s}
 |some true=>match cls o.op with
  |.pure=>match aS e x.s.h x.s.t o.op with
   |some (.val v _)=>(fy x.s o.dst v).map λs=>{x with s}
   |_=>none
  |.read=>match aS e (cq x.s.h m x.ax) x.s.t o.op with
   |some (.val v _)=>(fy x.s o.dst v).map λs=>{x with s}
   |_=>none
  |.alloc=>match cU e x.s.t o.op with
   |none=>none
   |some (ob,f)=>(fy x.s o.dst (f id)).map λs=>{x with s,ax:=(i,id,ob)::x.ax,all:=(i,id,ob)::x.all}
  |.effect=>match mD e cf rf ro o {x.s with h:=cq x.s.h m x.ax}with
   |none=>none
   |some s=>some {x with s,ax:=x.ax.filter λp=> !m.testBit p.1,bK:=(Nat.lor ((x.bK.head?.map (·.1)).getD 0) m,s.h)::x.bK}
  |.bad=>none
def nextId(o:Oper)(id:Nat):Nat:=bif cls o.op==.alloc then id+1 else id
def mE(e:Env)(dK:Nat->eP)(rf:gP)(ro:Option Nat)(ops:List Oper):List (Oper×Nat)->Nat->Nat->cF->Option cF
 |[],_,_,x=>some x
 |(o,m)::r,i,id,x=>match tg e (dK i) rf ro ops i id m o {x with di:=x.s.t::x.di}with
  |none=>none
  |some x=>mE e dK rf ro ops r (i+1) (nextId o id) x
def Lz(e:Env)(x:cF)(bK:List (Nat×ab))(dc:List (Nat×Nat))(i m:Nat)(o:Oper)(t:Tr Value):Bool:=
 let lo:=(dc.filter λp=>m.testBit p.1).length
 let hi:=(dc.filter λp=> !p.2.testBit i).length
 bif Q0 hi lo then true else
 match o.dst with
 |none=>false
 |some d=>match x.s.t.get d with
  |none=>false
  |some v=>((bK.drop lo).take (hi+1-lo)).all λ(inc,h)=>
   match aS e (cq h m (x.all.filter λp=> !inc.testBit p.1)) t o.op with
   |some (.val v' _)=>uZ 12 v v'
   |_=>false
def DR(e:Env)(ops:List Oper)(x:cF)(bK:List (Nat×ab))(dc:List (Nat×Nat)):List (Oper×Nat)->List (Tr Value)->Nat->Bool
 |(o,m)::r,t::ts,i=>(bif cls o.op==.read then(match cZ ops {x.s with t} o with
  |some true=>Lz e x bK dc i m o t
  |_=>true)else true)&&DR e ops x bK dc r ts (i+1)
 |[],_,_=>true
 |_,_,_=>false
def jJ:List (Oper×Nat)->Nat->List (Nat×Nat)
 |[],_=>[]
 |(o,m)::r,i=>bif cls o.op==.effect then(i,m)::jJ r (i+1)else jJ r (i+1)
def e8(h:ab):dA->ab
 |[]=>h
 |(_,id,o)::r=>(e8 h r).set id (some o)
def LA(e:Env)(cf:eP)(rf:gP)(ro:Option Nat)(ops:List Oper)(draw:Bool)(s:aM):Option aM:=
 bif draw then
  let ms:=bz ops
  let oms:=ops.zip ms
  let dc:=jJ oms 0
  bif pW ops ms then
   match mE e (λ_=>cf) rf ro ops oms 0 s.h.next {s:={s with h:={s.h with next:=s.h.next+(ops.filter λo=>cls o.op==.alloc).length}},ax:=[],all:=[],bK:=[(0,{s.h with next:=s.h.next+(ops.filter λo=>cls o.op==.alloc).length})],di:=[]}with
   |none=>none
   |some x=>bif (oY dc.length 0)||DR e ops x x.bK.reverse dc oms x.di.reverse 0 then some {x.s with h:=e8 x.s.h x.ax}else none
  else none
 else qY e cf rf ro ops ops s
def gZ(e:Env)(s:aM):List ResultVar->Option (List Value)
 |[]=>some []
 |r::rs=>match(match r with
  |.tmp t=>s.t.get t
  |.cell a t=>match(s.t.get a).bind iu with
   |none=>none
   |some ad=>iq e s.h t ad),gZ e s rs with
  |some v,some vs=>some (v::vs)
  |_,_=>none
def kL(e:Env):List Deferred->ab->Option ab
 |[],h=>some h
 |d::ds,h=>match d.target with
  |.collected r=>match h.get r with
   |some (.fJ true)=>kL e ds (h.set r (some (.fJ false)))
   |_=>none
  |.fn (.func g) _=>bif e.idle g then kL e ds h else none
  |_=>none
def gQ(args:List Value):Tr Value:=Tr.ofList args 0 .nil
abbrev ox:=Option Nat->Code->aM->Option (bu×aM)
def pX(e:Env)(ev:ox):eP:=λf args h=>
 match e.fn f with
 |none=>none
 |some fn=>match fn.body with
  |none=>none
  |some c=>match ev none c {t:=gQ args,n:=args.length+(fn.ntmps-args.length),ds:=[],h}with
   |none=>none
   |some (.exit _,_)=>none
   |some (_,s)=>match kL e s.ds s.h with
    |none=>none
    |some h=>match gZ e {s with h} fn.results.toList with
     |some [v]=>some (v,h)
     |some vs=>some (.tuple vs.toArray,h)
     |none=>none
def DT(n:Nat):List Tmp->List Value->Tr Value->Option (Tr Value)
 |[],[],t=>some t
 |p::ps,v::vs,t=>bif yx p n then DT n ps vs (t.set p (some v))else none
 |_,_,_=>none
def zD:bu->Option Code
 |.normal=>none
 |.ret=>some .ret
 |.exit id=>some (.exit id)
def LB(ev:ox):gP:=λl args h=>
 match h.get l with
 |some (.loop .ready _ t n params bX body _)=>match DT n params args t with
  |none=>none
  |some t'=>match ev (some l) bX {t:=t',n,ds:=[],h}with
   |some (.normal,s)=>match s.h.get l with
    |some (.loop .ready aj t2 n2 params2 aJ ao aK)=>match ev (some l) body {s with h:=s.h.set l (some (.loop .busy aj t2 n2 params2 aJ ao aK))}with
     |none=>none
     |some (x,s)=>match s.h.get l with
      |some (.loop _ _ t3 n3 params3 aO av aP)=>
       some (.bool (zD x).isNone,s.h.set l (some (.loop (if(zD x).isNone then .ready else .done) (zD x) t3 n3 params3 aO av aP)))
      |_=>none
    |_=>none
   |_=>none
 |_=>none
def LC(e:Env)(ev:ox)(cf:eP)(ro:Option Nat)(g:Operand)(params:Array Tmp)(bX body:Code)(s:aM):Option (bu×aM):=
 match(match ro with
  |some l=>(match s.h.get l with|some (.loop _ _ _ _ _ _ _ fJ)=>some (fJ,[],s.h)|_=>none)
  |none=>some (s.h.next,[({target:=.collected s.h.next,args:=#[]}:Deferred)],s.h.new (.fJ true)))with
 |none=>none
 |some (fJ,mark,h)=>
  let l:=h.next
  let h:=h.new (.loop .ready none s.t s.n params.toList bX body fJ)
  match(aE e s.t g).bind (ny · [.func (.yield l) #[] #[]])with
  |some (.func f,az,cap)=>match cf f (az++cap) h with
   |none=>none
   |some (_,h)=>match h.get l with
    |some (.loop st ax t n params bX body fJ)=>bif st==.busy then none else
     let s:aM:={s with h:=h.set l (some (.loop .exhausted ax t n params bX body fJ)),ds:=mark++s.ds}
     match ax with
     |none=>some (.normal,s)
     |some c=>ev ro c s
    |_=>none
  |_=>none
def DU(e:Env)(cf:eP):eP:=λf args h=>
 match e.j9 f args h with
 |some r=>some r
 |none=>cf f args h
def LD(e:Env)(ev:ox):ox:=λro c s=>
 match c with
 |.skip|.label _=>some (.normal,s)
 |.scope c=>ev ro c s
 |.region _ ops draw=>(LA e (DU e (pX e ev)) (LB ev) ro ops.toList draw s).map λs=>(.normal,s)
 |.seq a b=>match ev ro a s with
  |some (.normal,s)=>ev ro b s
  |r=>r
 |.cond c a b=>match aE e s.t c with
  |some (.bool true)=>ev ro a s
  |some (.bool false)=>ev ro b s
  |_=>none
 |.block id c=>match ev ro c s with
  |some (.exit aT,s)=>bif oY aT id then some (.normal,s)else some (.exit aT,s)
  |r=>r
 |.loop c=>match ev ro c s with
  |some (.normal,s)=>ev ro (.loop c) s
  |r=>r
 |.rangeFunc g params bX body=>LC e ev (DU e (pX e ev)) ro g params bX body s
 |.exit id=>some (.exit id,s)
 |.ret=>some (.ret,s)
 |_=>none
def ev(e:Env):Nat->ox
 |0=>λ_ _ _=>none
 |n+1=>LD e (ev e n)
def call(e:Env)(n:Nat):eP:=pX e (ev e n)
end Go.aD
end
noncomputable section
namespace Go.aD
def wX{α:Type}:∀p:List D4,sX p (Od.nil:Od α)=none
 |[]=>rfl
 |_::_=>rfl
def DW{α:Type}(x:Option α):∀(p:List D4) (t:Od α),sX p (wU p x t)=x
 |[],t=>by cases t<;>rfl
 |y::p,t=>by
  cases t<;>cases y<;>exact DW x p _
def zE{α:Type}(x:Option α):∀(p q:List D4) (t:Od α),q≠p->sX q (wU p x t)=sX q t
 |[],[],_,h=>absurd rfl h
 |[],z::q,t,_=>by cases t<;>cases z<;>first|rfl|exact wX q
 |y::p,[],t,_=>by cases t<;>cases y<;>rfl
 |y::p,z::q,t,h=>by
  have h':y=z->q≠p:=λe1 e2=>h (by rw[e1,e2]);cases t with
  |nil=>cases y<;>cases z<;>first|exact wX q|exact(zE x p q .nil (h' rfl)).trans (wX q)
  |node v a b c d=>cases y<;>cases z<;>first|rfl|exact zE x p q _ (h' rfl)
def LF{i j:Nat}(h:digit i=digit j):i%4=j%4:=by
 have e:∀k,k<4->(k=0\/k=1\/k=2\/k=3):=λk hk=>aa;have hd:∀k m,k%4=m->digit k=HT (motive:=λ_=>D4) .a (λk _=>HT (motive:=λ_=>D4) .b (λk _=>HT (motive:=λ_=>D4) .c (λ_ _=>.d) k) k) m:=λk m hm=>by
  unfold digit;rw[show Nat.mod k 4=m from hm]
 rcases e (i%4) aa with h1|h1|h1|h1<;>rcases e (j%4) aa with h2|h2|h2|h2<;>first|omega|(rw[hd i _ h1,hd j _ h2]at h;cases h)
def DX:∀(n m i j:Nat),i<=n->j<=m->sW n i=sW m j->i=j
 |0,0,i,j,h1,h2,_=>aa
 |0,m+1,i,j,h1,h2,h=>by
  obtain rfl:i=0:=aa;cases j with
  |zero=>rfl
  |succ j=>cases h
 |n+1,0,i,j,h1,h2,h=>by
  obtain rfl:j=0:=aa;cases i with
  |zero=>rfl
  |succ i=>cases h
 |n+1,m+1,i,j,h1,h2,h=>by
  cases i with
  |zero=>
   cases j with
   |zero=>rfl
   |succ j=>cases h
  |succ i=>
   cases j with
   |zero=>cases h
   |succ j=>
    have h:digit i::sW n (Rb i 4)=digit j::sW m (Rb j 4):=h;injection h with h3 h4
    have q1:=LF h3;have q2:=DX n m (Rb i 4) (Rb j 4) (by show i/4<=n;omega) (by show j/4<=m;omega) h4;have q2:i/4=j/4:=q2;omega
def DY(i:Nat):path i=sW i i:=by cases i<;>rfl
def LG{i j:Nat}(h:path i=path j):i=j:=by
 rw[DY,DY]at h;exact DX i j i j (Fj _) (Fj _) h
def zF{α:Type}(t:Tr α)(i:Nat):t.get i=(oj i).run t:=by cases i<;>rfl
def LH{α:Type}(t:Tr α)(i:Nat)(x:Option α):t.set i x=(oo i).run x t:=by cases i<;>rfl
def th{α:Type}(x:α)(d:Nat):(bZ d).run (bn.all x)=x:=by
 match d with
 |0=>rfl
 |1=>rfl
 |2=>rfl
 |3=>rfl
 |4=>rfl
 |5=>rfl
 |6=>rfl
 |7=>rfl
 |8=>rfl
 |9=>rfl
 |10=>rfl
 |11=>rfl
 |12=>rfl
 |13=>rfl
 |14=>rfl
 |_+15=>rfl
def LI{α:Type}(x:α)(v:bn α)(d:Nat)(h:d<16):(bZ d).run ((eN 0).run x v)=if d=0 then x else(bZ d).run v:=by
 match d,h with
 |0,_=>rfl
 |1,_=>rfl
 |2,_=>rfl
 |3,_=>rfl
 |4,_=>rfl
 |5,_=>rfl
 |6,_=>rfl
 |7,_=>rfl
 |8,_=>rfl
 |9,_=>rfl
 |10,_=>rfl
 |11,_=>rfl
 |12,_=>rfl
 |13,_=>rfl
 |14,_=>rfl
 |15,_=>rfl
 |n+16,h=>omega
def LJ{α:Type}(x:α)(v:bn α)(d:Nat)(h:d<16):(bZ d).run ((eN 1).run x v)=if d=1 then x else(bZ d).run v:=by
 match d,h with
 |0,_=>rfl
 |1,_=>rfl
 |2,_=>rfl
 |3,_=>rfl
 |4,_=>rfl
 |5,_=>rfl
 |6,_=>rfl
 |7,_=>rfl
 |8,_=>rfl
 |9,_=>rfl
 |10,_=>rfl
 |11,_=>rfl
 |12,_=>rfl
 |13,_=>rfl
 |14,_=>rfl
 |15,_=>rfl
 |n+16,h=>omega
def LK{α:Type}(x:α)(v:bn α)(d:Nat)(h:d<16):(bZ d).run ((eN 2).run x v)=if d=2 then x else(bZ d).run v:=by
 match d,h with
 |0,_=>rfl
 |1,_=>rfl
 |2,_=>rfl
 |3,_=>rfl
 |4,_=>rfl
 |5,_=>rfl
 |6,_=>rfl
 |7,_=>rfl
 |8,_=>rfl
 |9,_=>rfl
 |10,_=>rfl
 |11,_=>rfl
 |12,_=>rfl
 |13,_=>rfl
 |14,_=>rfl
 |15,_=>rfl
 |n+16,h=>omega
def LL{α:Type}(x:α)(v:bn α)(d:Nat)(h:d<16):(bZ d).run ((eN 3).run x v)=if d=3 then x else(bZ d).run v:=by
 match d,h with
 |0,_=>rfl
 |1,_=>rfl
 |2,_=>rfl
 |3,_=>rfl
 |4,_=>rfl
 |5,_=>rfl
 |6,_=>rfl
 |7,_=>rfl
 |8,_=>rfl
 |9,_=>rfl
 |10,_=>rfl
 |11,_=>rfl
 |12,_=>rfl
 |13,_=>rfl
 |14,_=>rfl
 |15,_=>rfl
 |n+16,h=>omega
def LM{α:Type}(x:α)(v:bn α)(d:Nat)(h:d<16):(bZ d).run ((eN 4).run x v)=if d=4 then x else(bZ d).run v:=by
 match d,h with
 |0,_=>rfl
 |1,_=>rfl
 |2,_=>rfl
 |3,_=>rfl
 |4,_=>rfl
 |5,_=>rfl
 |6,_=>rfl
 |7,_=>rfl
 |8,_=>rfl
 |9,_=>rfl
 |10,_=>rfl
 |11,_=>rfl
 |12,_=>rfl
 |13,_=>rfl
 |14,_=>rfl
 |15,_=>rfl
 |n+16,h=>omega
def LN{α:Type}(x:α)(v:bn α)(d:Nat)(h:d<16):(bZ d).run ((eN 5).run x v)=if d=5 then x else(bZ d).run v:=by
 match d,h with
 |0,_=>rfl
 |1,_=>rfl
 |2,_=>rfl
 |3,_=>rfl
 |4,_=>rfl
 |5,_=>rfl
 |6,_=>rfl
 |7,_=>rfl
 |8,_=>rfl
 |9,_=>rfl
 |10,_=>rfl
 |11,_=>rfl
 |12,_=>rfl
 |13,_=>rfl
 |14,_=>rfl
 |15,_=>rfl
 |n+16,h=>omega
def LO{α:Type}(x:α)(v:bn α)(d:Nat)(h:d<16):(bZ d).run ((eN 6).run x v)=if d=6 then x else(bZ d).run v:=by
 match d,h with
 |0,_=>rfl
 |1,_=>rfl
 |2,_=>rfl
 |3,_=>rfl
 |4,_=>rfl
 |5,_=>rfl
 |6,_=>rfl
 |7,_=>rfl
 |8,_=>rfl
 |9,_=>rfl
 |10,_=>rfl
 |11,_=>rfl
 |12,_=>rfl
 |13,_=>rfl
 |14,_=>rfl
 |15,_=>rfl
 |n+16,h=>omega
def LP{α:Type}(x:α)(v:bn α)(d:Nat)(h:d<16):(bZ d).run ((eN 7).run x v)=if d=7 then x else(bZ d).run v:=by
 match d,h with
 |0,_=>rfl
 |1,_=>rfl
 |2,_=>rfl
 |3,_=>rfl
 |4,_=>rfl
 |5,_=>rfl
 |6,_=>rfl
 |7,_=>rfl
 |8,_=>rfl
 |9,_=>rfl
 |10,_=>rfl
 |11,_=>rfl
 |12,_=>rfl
 |13,_=>rfl
 |14,_=>rfl
 |15,_=>rfl
 |n+16,h=>omega
def LQ{α:Type}(x:α)(v:bn α)(d:Nat)(h:d<16):(bZ d).run ((eN 8).run x v)=if d=8 then x else(bZ d).run v:=by
 match d,h with
 |0,_=>rfl
 |1,_=>rfl
 |2,_=>rfl
 |3,_=>rfl
 |4,_=>rfl
 |5,_=>rfl
 |6,_=>rfl
 |7,_=>rfl
 |8,_=>rfl
 |9,_=>rfl
 |10,_=>rfl
 |11,_=>rfl
 |12,_=>rfl
 |13,_=>rfl
 |14,_=>rfl
 |15,_=>rfl
 |n+16,h=>omega
def LR{α:Type}(x:α)(v:bn α)(d:Nat)(h:d<16):(bZ d).run ((eN 9).run x v)=if d=9 then x else(bZ d).run v:=by
 match d,h with
 |0,_=>rfl
 |1,_=>rfl
 |2,_=>rfl
 |3,_=>rfl
 |4,_=>rfl
 |5,_=>rfl
 |6,_=>rfl
 |7,_=>rfl
 |8,_=>rfl
 |9,_=>rfl
 |10,_=>rfl
 |11,_=>rfl
 |12,_=>rfl
 |13,_=>rfl
 |14,_=>rfl
 |15,_=>rfl
 |n+16,h=>omega
def LS{α:Type}(x:α)(v:bn α)(d:Nat)(h:d<16):(bZ d).run ((eN 10).run x v)=if d=10 then x else(bZ d).run v:=by
 match d,h with
 |0,_=>rfl
 |1,_=>rfl
 |2,_=>rfl
 |3,_=>rfl
 |4,_=>rfl
 |5,_=>rfl
 |6,_=>rfl
 |7,_=>rfl
 |8,_=>rfl
 |9,_=>rfl
 |10,_=>rfl
 |11,_=>rfl
 |12,_=>rfl
 |13,_=>rfl
 |14,_=>rfl
 |15,_=>rfl
 |n+16,h=>omega
def LU{α:Type}(x:α)(v:bn α)(d:Nat)(h:d<16):(bZ d).run ((eN 11).run x v)=if d=11 then x else(bZ d).run v:=by
 match d,h with
 |0,_=>rfl
 |1,_=>rfl
 |2,_=>rfl
 |3,_=>rfl
 |4,_=>rfl
 |5,_=>rfl
 |6,_=>rfl
 |7,_=>rfl
 |8,_=>rfl
 |9,_=>rfl
 |10,_=>rfl
 |11,_=>rfl
 |12,_=>rfl
 |13,_=>rfl
 |14,_=>rfl
 |15,_=>rfl
 |n+16,h=>omega
def LV{α:Type}(x:α)(v:bn α)(d:Nat)(h:d<16):(bZ d).run ((eN 12).run x v)=if d=12 then x else(bZ d).run v:=by
 match d,h with
 |0,_=>rfl
 |1,_=>rfl
 |2,_=>rfl
 |3,_=>rfl
 |4,_=>rfl
 |5,_=>rfl
 |6,_=>rfl
 |7,_=>rfl
 |8,_=>rfl
 |9,_=>rfl
 |10,_=>rfl
 |11,_=>rfl
 |12,_=>rfl
 |13,_=>rfl
 |14,_=>rfl
 |15,_=>rfl
 |n+16,h=>omega
def LW{α:Type}(x:α)(v:bn α)(d:Nat)(h:d<16):(bZ d).run ((eN 13).run x v)=if d=13 then x else(bZ d).run v:=by
 match d,h with
 |0,_=>rfl
 |1,_=>rfl
 |2,_=>rfl
 |3,_=>rfl
 |4,_=>rfl
 |5,_=>rfl
 |6,_=>rfl
 |7,_=>rfl
 |8,_=>rfl
 |9,_=>rfl
 |10,_=>rfl
 |11,_=>rfl
 |12,_=>rfl
 |13,_=>rfl
 |14,_=>rfl
 |15,_=>rfl
 |n+16,h=>omega
def LX{α:Type}(x:α)(v:bn α)(d:Nat)(h:d<16):(bZ d).run ((eN 14).run x v)=if d=14 then x else(bZ d).run v:=by
 match d,h with
 |0,_=>rfl
 |1,_=>rfl
 |2,_=>rfl
 |3,_=>rfl
 |4,_=>rfl
 |5,_=>rfl
 |6,_=>rfl
 |7,_=>rfl
 |8,_=>rfl
 |9,_=>rfl
 |10,_=>rfl
 |11,_=>rfl
 |12,_=>rfl
 |13,_=>rfl
 |14,_=>rfl
 |15,_=>rfl
 |n+16,h=>omega
def LY{α:Type}(x:α)(v:bn α)(d:Nat)(h:d<16):(bZ d).run ((eN 15).run x v)=if d=15 then x else(bZ d).run v:=by
 match d,h with
 |0,_=>rfl
 |1,_=>rfl
 |2,_=>rfl
 |3,_=>rfl
 |4,_=>rfl
 |5,_=>rfl
 |6,_=>rfl
 |7,_=>rfl
 |8,_=>rfl
 |9,_=>rfl
 |10,_=>rfl
 |11,_=>rfl
 |12,_=>rfl
 |13,_=>rfl
 |14,_=>rfl
 |15,_=>rfl
 |n+16,h=>omega
def ti{α:Type}(x:α)(v:bn α)(d e:Nat)(h:d<16)(h':e<16):(bZ d).run ((eN e).run x v)=if d=e then x else(bZ d).run v:=by
 match e,h' with
 |0,_=>exact LI x v d h
 |1,_=>exact LJ x v d h
 |2,_=>exact LK x v d h
 |3,_=>exact LL x v d h
 |4,_=>exact LM x v d h
 |5,_=>exact LN x v d h
 |6,_=>exact LO x v d h
 |7,_=>exact LP x v d h
 |8,_=>exact LQ x v d h
 |9,_=>exact LR x v d h
 |10,_=>exact LS x v d h
 |11,_=>exact LU x v d h
 |12,_=>exact LV x v d h
 |13,_=>exact LW x v d h
 |14,_=>exact LX x v d h
 |15,_=>exact LY x v d h
 |n+16,h=>omega
def wY{i n:Nat}(h:i<n):yx i n=true:=Nat.blt_eq.mpr h
def tj{i n:Nat}(h:¬i<n):yx i n=false:=by rw[Bool.eq_false_iff];exactλe=>h (Nat.blt_eq.mp e)
def q9{α:Type}{i:Nat}(h:i<256)(t:Tr α):(oj i).run t=(bZ (i%16)).run ((bZ (i/16)).run t.small):=by
 unfold oj;rw[wY h];rfl
def re{α:Type}{i:Nat}(h:¬i<256)(h2:i<65536)(t:Tr α):(oj i).run t=(bZ (i%16)).run ((bZ (i/16%16)).run ((bZ (i/256%16)).run ((bZ (i/4096)).run t.qS))):=by
 unfold oj;rw[tj h,wY h2];rfl
def rh{α:Type}{i:Nat}(h:¬i<65536)(t:Tr α):(oj i).run t=sX (path i) t.over:=by
 unfold oj;rw[tj (show¬i<256 by omega),tj h]
def LZ{α:Type}{i:Nat}(h:i<256)(x:Option α)(t:Tr α):(oo i).run x t={t with small:=(eN (i/16)).run ((eN (i%16)).run x ((bZ (i/16)).run t.small)) t.small}:=by
 unfold oo;rw[wY h];rfl
def L0{α : Type}{i : Nat}(h : ¬ i < 256)(h2 : i < 65536)(x : Option α)(t : Tr α) : (oo i).run x t = { t with qS := (eN (i / 4096)).run ((eN (i / 256 % 16)).run ((eN (i / 16 % 16)).run ((eN (i % 16)).run x
 ((bZ (i/16%16)).run ((bZ (i/256%16)).run ((bZ (i/4096)).run t.qS)))) ((bZ (i/256%16)).run ((bZ (i/4096)).run t.qS))) ((bZ (i/4096)).run t.qS)) t.qS}:=by
 unfold oo;rw[tj h,wY h2];rfl
def L3{α:Type}{i:Nat}(h:¬i<65536)(x:Option α)(t:Tr α):(oo i).run x t={t with over:=wU (path i) x t.over}:=by
 unfold oo;rw[tj (show¬i<256 by omega),tj h]
def Tr.get_nil{α:Type}(i:Nat):(Tr.nil:Tr α).get i=none:=by
 rw[zF];by_cases h:i<256
 . rw[q9 h];show(bZ (i%16)).run ((bZ (i/16)).run (bn.all (bn.all none)))=none;rw[th,th]
 . by_cases h2:i<65536
   . rw[re h h2];show(bZ (i%16)).run ((bZ (i/16%16)).run ((bZ (i/256%16)).run ((bZ (i/4096)).run (bn.all (bn.all (bn.all (bn.all none)))))))=none;rw[th,th,th,th]
   . rw[rh h2];exact wX _
def Tr.bD{α:Type}(t:Tr α)(i j:Nat)(x:Option α):(t.set i x).get j=if j=i then x else t.get j:=by
 rw[LH,zF,zF];by_cases hi:i<256
 . rw[LZ hi];by_cases hj:j<256
   . rw[q9 hj,q9 hj];simp only;rw[ti _ _ _ _ aa aa];by_cases e:j/16=i/16
     . rw[if_pos e,ti _ _ _ _ aa aa,e];by_cases e2:j%16=i%16
       . rw[if_pos e2,if_pos aa]
       . rw[if_neg e2,if_neg (λe3=>e2 (by rw[e3]))]
     . rw[if_neg e,if_neg (λe3=>e (by rw[e3]))]
   . rw[if_neg aa];by_cases af:j<65536
     . rw[re hj af,re hj af]
     . rw[rh af,rh af]
 . by_cases dS:i<65536
   . rw[L0 hi dS];by_cases hj:j<256
     . rw[if_neg aa,q9 hj,q9 hj]
     . by_cases af:j<65536
       . rw[re hj af,re hj af];simp only;rw[ti _ _ _ _ aa aa];by_cases e:j/4096=i/4096
         . rw[if_pos e,e,ti _ _ _ _ aa aa];by_cases e2:j/256%16=i/256%16
           . rw[if_pos e2,e2,ti _ _ _ _ aa aa];by_cases e3:j/16%16=i/16%16
             . rw[if_pos e3,e3,ti _ _ _ _ aa aa];by_cases e4:j%16=i%16
               . rw[if_pos e4,if_pos aa]
               . rw[if_neg e4,if_neg (λq=>e4 (by rw[q]))]
             . rw[if_neg e3,if_neg (λq=>e3 (by rw[q]))]
           . rw[if_neg e2,if_neg (λq=>e2 (by rw[q]))]
         . rw[if_neg e,if_neg (λq=>e (by rw[q]))]
       . rw[if_neg aa,rh af,rh af]
   . rw[L3 dS];by_cases hj:j<256
     . rw[if_neg aa,q9 hj,q9 hj]
     . by_cases af:j<65536
       . rw[if_neg aa,re hj af,re hj af]
       . rw[rh af,rh af];simp only;by_cases h:j=i
         . subst h;rw[if_pos rfl];exact DW x _ _
         . rw[if_neg h];exact zE x _ _ _ (λe=>h (LG e))
def ab.bD(h:ab)(i j:Nat)(o:Option bR):(h.set i o).get j=if j=i then o else h.get j:=Tr.bD _ _ _ _
def ab.cW(h:ab)(j:Nat)(o:bR):(h.new o).get j=if j=h.next then some o else h.get j:=Tr.bD _ _ _ _
theorem ab.aW(h:ab)(i:Nat)(o:Option bR):(h.set i o).next=h.next:=rfl
theorem ab.bb(h:ab)(o:bR):(h.new o).next=h.next+1:=rfl
inductive aU{α β:Type}(R:α->β->Prop):List α->List β->Prop
 |nil:aU R [] []
 |cons {a b x y}:R a b->aU R x y->aU R (a::x) (b::y)
def aU.length{α β:Type}{R:α->β->Prop}{x:List α}{y:List β}(h:aU R x y):x.length=y.length:=by
 induction h with
 |nil=>rfl
 |cons _ _ ih=>simp[ih]
def aU.mono{α β:Type}{R S:α->β->Prop}{x:List α}{y:List β}(h:aU R x y)(hr:∀a b,R a b->S a b):aU S x y:=by
 induction h with
 |nil=>exact .nil
 |cons h _ ih=>exact .cons (hr _ _ h) ih
def aU.append{α β:Type}{R:α->β->Prop}{x x':List α}{y y':List β}(h:aU R x y)(h':aU R x' y'):aU R (x++x') (y++y'):=by
 induction h with
 |nil=>exact h'
 |cons h _ ih=>exact .cons h ih
def aU.get{α β:Type}{R:α->β->Prop}{x:List α}{y:List β}(h:aU R x y):∀(i:Nat) (a:α),x[i]? =some a->∃b,y[i]? =some b/\R a b:=by
 induction h with
 |nil=>intro i a h;simp at h
 |cons h _ ih=>
  intro i a hi;cases i with
  |zero=>simp at hi;subst hi;exact⟨_,rfl,h⟩
  |succ i=>simpa using ih i a (by simpa using hi)
def aU.ri{α β:Type}{R:α->β->Prop}:∀{x:List α} {y:List β},x.length=y.length->(∀(i:Nat) (a:α) (b:β),x[i]? =some a->y[i]? =some b->R a b)->aU R x y
 |[],[],_,_=>.nil
 |[],_::_,h,_=>by simp at h
 |_::_,[],h,_=>by simp at h
 |a::x,b::y,h,hr=>.cons (hr 0 a b rfl rfl) (aU.ri (by simpa using h) λi c d hc hd=>hr (i+1) c d (by simpa using hc) (by simpa using hd))
def aU.drop{α β:Type}{R:α->β->Prop}{x:List α}{y:List β}(h:aU R x y)(n:Nat):aU R (x.drop n) (y.drop n):=by
 induction h generalizing n with
 |nil=>simpa using aU.nil
 |cons h t ih=>cases n with
  |zero=>exact .cons h t
  |succ n=>simpa using ih n
def aU.take{α β:Type}{R:α->β->Prop}{x:List α}{y:List β}(h:aU R x y)(n:Nat):aU R (x.take n) (y.take n):=by
 induction h generalizing n with
 |nil=>simpa using aU.nil
 |cons h t ih=>cases n with
  |zero=>exact .nil
  |succ n=>simpa using aU.cons h (ih n)
abbrev aH:=Nat->Option Pl
def zG(pl:Pl)(a:Addr)(len cap:Nat)(c:Addr)(an:Nat):Prop:=
 (c=⟨pl.bh,pl.off+a.off,none⟩/\(an=cap\/(0<pl.ak/\a.off+cap*pl.ak=pl.n/\a.off+an*pl.ak=pl.cap/\cap<=an)))\/(len=0/\cap=0/\an=0)
inductive kh(ρ:aH):Fn->Fn->Prop
 |func (f:FuncId):kh ρ (.func f) (.func f)
 |yield {l:Nat} {pl:Pl}:ρ l=some pl->kh ρ (.yield l) (.yield pl.bh)
inductive aQ(ρ:aH):Value->Value->Prop
 |bool (b:Bool):aQ ρ (.bool b) (.bool b)
 |int (k:IntKind) (n:Int):aQ ρ (.int k n) (.int k n)
 |string (s:ByteArray):aQ ρ (.string s) (.string s)
 |rj:aQ ρ (.pointer none) (.pointer none)
 |ptr {a:Addr} {pl:Pl}:ρ a.block=some pl->aQ ρ (.pointer (some a)) (.pointer (some ⟨pl.bh,pl.off+a.off,none⟩))
 |ki (l k:Nat):aQ ρ (.slice none l k) (.slice none l k)
 |sl {a c:Addr} {l k k':Nat} {pl:Pl}:ρ a.block=some pl->zG pl a l k c k'->aQ ρ (.slice (some a) l k) (.slice (some c) l k')
 |oy:aQ ρ (.map none) (.map none)
 |map {r:Nat} {pl:Pl}:ρ r=some pl->aQ ρ (.map (some r)) (.map (some pl.bh))
 |func {fn aO:Fn} {a a' c c':Array Value}:kh ρ fn aO->a.size=a'.size->(∀(i:Nat) (v v':Value),a[i]? =some v->a'[i]? =some v'->aQ ρ v v')->c.size=c'.size->
  (∀(i:Nat) (v v':Value),c[i]? =some v->c'[i]? =some v'->aQ ρ v v')->aQ ρ (.func fn a c) (.func aO a' c')
 |nilFunc:aQ ρ .nilFunc .nilFunc
 |iface {t:TypeId} {v v':Value}:aQ ρ v v'->aQ ρ (.iface t v) (.iface t v')
 |nilIface:aQ ρ .nilIface .nilIface
 |agg {a a':Array Value}:a.size=a'.size->(∀(i:Nat) (v v':Value),a[i]? =some v->a'[i]? =some v'->aQ ρ v v')->aQ ρ (.agg a) (.agg a')
 |tuple {a a':Array Value}:a.size=a'.size->(∀(i:Nat) (v v':Value),a[i]? =some v->a'[i]? =some v'->aQ ρ v v')->aQ ρ (.tuple a) (.tuple a')
def Ext(ρ ad:aH):Prop:=∀i pl,ρ i=some pl->ad i=some pl
def Ext.refl(ρ:aH):Ext ρ ρ:=λ_ _ h=>h
def Ext.trans{ρ ad ah:aH}(h:Ext ρ ad)(h':Ext ad ah):Ext ρ ah:=λi pl x=>h' i pl (h i pl x)
def kh.mono{ρ ad:aH}(hx:Ext ρ ad){f g:Fn}(h:kh ρ f g):kh ad f g:=by
 cases h with
 |func f=>exact .func f
 |yield h=>exact .yield (hx _ _ h)
def aQ.mono{ρ ad:aH}(hx:Ext ρ ad){v v':Value}(h:aQ ρ v v'):aQ ad v v':=by
 induction h with
 |bool b=>exact .bool b
 |int k n=>exact .int k n
 |string s=>exact .string s
 |rj=>exact .rj
 |ptr h=>exact .ptr (hx _ _ h)
 |ki l k=>exact .ki l k
 |sl h hs=>exact .sl (hx _ _ h) hs
 |oy=>exact .oy
 |map h=>exact .map (hx _ _ h)
 |func hf h1 _ h2 _ aS aT=>exact .func (hf.mono hx) h1 aS h2 aT
 |nilFunc=>exact .nilFunc
 |iface _ ih=>exact .iface ih
 |nilIface=>exact .nilIface
 |agg h1 _ ih=>exact .agg h1 ih
 |tuple h1 _ ih=>exact .tuple h1 ih
abbrev bQ(ρ:aH):=aU (aQ ρ)
def bQ.mono{ρ ad:aH}(hx:Ext ρ ad){x y:List Value}(h:bQ ρ x y):bQ ad x y:=aU.mono h λ_ _=>aQ.mono hx
def rk{ρ:aH}{a a':Array Value}(h:a.size=a'.size)(hr:∀(i:Nat) (v v':Value),a[i]? =some v->a'[i]? =some v'->aQ ρ v v'):bQ ρ a.toList a'.toList:=
 aU.ri (by simpa using h) λi v v' hv av=>hr i v v' (by simpa using hv) (by simpa using av)
def tp{ρ:aH}{a a':Array Value}(h:bQ ρ a.toList a'.toList):a.size=a'.size/\∀(i:Nat) (v v':Value),a[i]? =some v->a'[i]? =some v'->aQ ρ v v':=by
 refine⟨by simpa using h.length,λi v v' hv av=> ?_⟩;obtain⟨b,hb,hr⟩:=h.get i v (by simpa using hv);have:a'[i]? =some b:=by simpa using hb
 rw[this]at av;cases av;exact hr
def aQ.L4{ρ:aH}{a a':Array Value}:aQ ρ (.agg a) (.agg a')↔bQ ρ a.toList a'.toList:=
 ⟨λh=>by cases h with|agg h1 h2=>exact rk h1 h2,λh=>.agg (tp h).1 (tp h).2⟩
def aQ.kj{ρ:aH}{a a':Array Value}:aQ ρ (.tuple a) (.tuple a')↔bQ ρ a.toList a'.toList:=
 ⟨λh=>by cases h with|tuple h1 h2=>exact rk h1 h2,λh=>.tuple (tp h).1 (tp h).2⟩
def aQ.pY{ρ:aH}{a:Array Value}{v':Value}(h:aQ ρ (.agg a) v'):∃a',v'=.agg a'/\bQ ρ a.toList a'.toList:=by
 cases h with|agg h1 h2=>exact⟨_,rfl,rk h1 h2⟩
def aQ.DZ{ρ:aH}{a:Array Value}{v':Value}(h:aQ ρ (.tuple a) v'):∃a',v'=.tuple a'/\bQ ρ a.toList a'.toList:=by
 cases h with|tuple h1 h2=>exact⟨_,rfl,rk h1 h2⟩
def aQ.wZ{ρ:aH}{l:List Value}{a':Array Value}(h:bQ ρ l a'.toList):aQ ρ (.agg l.toArray) (.agg a'):=aQ.L4.2 (by simpa using h)
def zH{ρ:aH}:∀(n:Nat) (v:Value),ep n v=true->aQ ρ v v
 |0,_,h=>by simp[ep]at h
 |n+1,v,h=>by
  have arr:∀a:Array Value,a.toList.all (ep n)=true->∀(i:Nat) (v v':Value),a[i]? =some v->a[i]? =some v'->aQ ρ v v':=λa ha i v v' hv av=>by
   rw[hv]at av;cases av;exact zH n v (afg.1 ha v (by
    have:a.toList[i]? =some v:=by simpa using hv
    exact List.mem_of_getElem? this))
  cases v with
  |bool b=>exact .bool b
  |int k n=>exact .int k n
  |string s=>exact .string s
  |pointer a=>cases a with
   |none=>exact .rj
   |some a=>simp[ep]at h
  |slice a l k=>cases a with
   |none=>exact .ki l k
   |some a=>simp[ep]at h
  |map r=>cases r with
   |none=>exact .oy
   |some a=>simp[ep]at h
  |nilFunc=>exact .nilFunc
  |nilIface=>exact .nilIface
  |iface t v=>exact .iface (zH n v (by simpa[ep]using h))
  |agg a=>exact .agg rfl (arr a (by simpa[ep]using h))
  |tuple a=>exact .tuple rfl (arr a (by simpa[ep]using h))
  |_=>simp[ep]at h
def nz{ρ:aH}{v:Value}(h:plain v=true):aQ ρ v v:=zH 6 v h
def zI{ρ:aH}:∀(n:Nat) (v v':Value),ep n v=true->aQ ρ v v'->v'=v
 |0,_,_,h,_=>by simp[ep]at h
 |n+1,v,v',h,hr=>by
  have arr:∀a a':Array Value,a.toList.all (ep n)=true->a.size=a'.size->(∀(i:Nat) (v v':Value),a[i]? =some v->a'[i]? =some v'->aQ ρ v v')->a'=a:=λa a' ha hs hv=>by
   apply Array.ext aa;intro i h1 h2;exact zI n _ _ (afg.1 ha a[i] aw) (hv i _ _ (afh h2) (afh h1))
  cases hr with
  |iface hv=>rw[zI n _ _ (by simpa[ep]using h) hv]
  |agg hs hv=>rw[arr _ _ (by simpa[ep]using h) hs hv]
  |tuple hs hv=>rw[arr _ _ (by simpa[ep]using h) hs hv]
  |ptr _=>simp[ep]at h
  |sl _ _=>simp[ep]at h
  |map _=>simp[ep]at h
  |func _ _ _ _ _=>simp[ep]at h
  |_=>rfl
def pZ{ρ:aH}{v v':Value}(h:plain v=true)(hr:aQ ρ v v'):v'=v:=zI 6 v v' h hr
def bR.wr:bR->Bool
 |.row _ wr _=>wr
 |_=>true
structure eM(ρ:aH)(x y:MapEntry):Prop where
 key:y.key=x.key
 plain:plain x.key=true
 val:aQ ρ x.val y.val
 born:y.born=x.born
def jK(ρ:aH)(t:Tr Value)(n:Nat)(a:Array Value):Prop:=a.size=n/\∀i v,t.get i=some v->i<n/\aQ ρ v (a.getD i undef)
def iv(ρ:aH)(w:World)(pl:Pl):bR->Prop
 |.row cs wr ak=>∃c el fz,w.heap[pl.bh]? =some (.cells c el fz)/\(wr=true->fz=(0,0))/\pl.n=cs.length/\pl.ak=ak/\pl.n<=pl.cap/\pl.off+pl.cap<=c.size/\(ak=0->pl.cap=pl.n)/\
  bQ ρ cs ((c.toList.drop pl.off).take pl.n)/\(cs=[]->pl.K6 (.cells c el fz))
 |.map es clock=>pl.off=0/\∃aC,w.heap[pl.bh]? =some (.map aC clock)/\aU (eM ρ) es aC.toList
 |.cC m since seen last=>pl.off=0/\∃m',w.heap[pl.bh]? =some (.mapIter m' since seen.toArray last)/\aQ ρ (.map m) (.map m')
 |.eO s pos=>pl.off=0/\w.heap[pl.bh]? =some (.stringIter s pos)
 |.loop st ax t n params bX body fJ=>pl.off=0/\∃fn tmps aE,ρ fJ=some aE/\jK ρ t n tmps/\
  w.heap[pl.bh]? =some (.loop {state:=st,pending:=ax,fn,tmps,params:=params.toArray,assign:=bX,body,defers:=aE.bh})
 |.fJ empty=>pl.off=0/\w.heap[pl.bh]? =some (.deferred (if empty then some []else none))
def eM.mono{ρ ad:aH}(hx:Ext ρ ad){x y:MapEntry}(h:eM ρ x y):eM ad x y:=⟨h.key,h.plain,h.val.mono hx,h.born⟩
def jK.mono{ρ ad:aH}(hx:Ext ρ ad){t:Tr Value}{n:Nat}{a:Array Value}(h:jK ρ t n a):jK ad t n a:=⟨h.1,λi v hv=>⟨(h.2 i v hv).1,(h.2 i v hv).2.mono hx⟩⟩
def iv.mono{ρ ad:aH}{w w':World}{pl:Pl}{o:bR}(hx:Ext ρ ad)(hw:w'.heap[pl.bh]? =w.heap[pl.bh]?)(h:iv ρ w pl o):iv ad w' pl o:=by
 cases o with
 |row cs wr ak=>
  obtain⟨c,el,fz,h1,h2,h3,h4,h5,h6,h7,h8⟩:=h;exact⟨c,el,fz,hw▸h1,h2,h3,h4,h5,h6,h7,h8.1.mono hx,h8.2⟩
 |map es clock=>obtain⟨h0,aC,h1,h2⟩:=h;exact⟨h0,aC,hw▸h1,h2.mono λ_ _=>eM.mono hx⟩
 |cC m since seen last=>obtain⟨h0,m',h1,h2⟩:=h;exact⟨h0,m',hw▸h1,h2.mono hx⟩
 |eO s pos=>exact⟨h.1,hw▸h.2⟩
 |loop st ax t n params bX body fJ=>
  obtain⟨h0,fn,tmps,aE,h1,h2,h3⟩:=h;exact⟨h0,fn,tmps,aE,hx _ _ h1,h2.mono hx,hw▸h3⟩
 |fJ e=>exact⟨h.1,hw▸h.2⟩
def iv.lt{ρ:aH}{w:World}{pl:Pl}{o:bR}(h:iv ρ w pl o):pl.bh<w.heap.size:=by
 have key:∀{x:Obj},w.heap[pl.bh]? =some x->pl.bh<w.heap.size:=λhx=>(Xt.1 hx).1;cases o with
 |row cs wr ak=>obtain⟨c,el,fz,h1,_⟩:=h;exact key h1
 |map es clock=>obtain⟨_,aC,h1,_⟩:=h;exact key h1
 |cC m since seen last=>obtain⟨_,m',h1,_⟩:=h;exact key h1
 |eO s pos=>exact key h.2
 |loop st ax t n params bX body fJ=>obtain⟨_,fn,tmps,aE,_,_,h3⟩:=h;exact key h3
 |fJ e=>exact key h.2
structure bA(ρ:aH)(h:ab)(w:World):Prop where
 hD:∀i pl,ρ i=some pl->i<h.next
 obj:∀i o,h.get i=some o->∃pl,ρ i=some pl/\iv ρ w pl o
 sep:∀i j o p pi pj,i≠j->h.get i=some o->o.wr=true->h.get j=some p->ρ i=some pi->ρ j=some pj->pi.bh≠pj.bh
def Host(ρ:aH)(h:ab)(b:Nat):Prop:=∃i o pl,h.get i=some o/\o.wr=true/\ρ i=some pl/\pl.bh=b
structure Fr(b:Nat)(ρ:aH)(h:ab)(w:World)(ad:aH)(h':ab)(w':World):Prop where
 ext:Ext ρ ad
 os:w'.os=w.os
 output:w'.output=w.output
 size:w.heap.size<=w'.heap.size
 frozen:∀a,a.block<w.heap.size->w'.frozen? a=w.frozen? a
 kept:∀k,k<w.heap.size->¬Host ρ h k->w'.heap[k]? =w.heap[k]?
 new:∀i o pl,h'.get i=some o->o.wr=true->ad i=some pl->Host ρ h pl.bh\/w.heap.size<=pl.bh
 ro:∀i o,h'.get i=some o->o.wr=false->h.get i=some o
 ids:∀i,ρ i=none->ad i≠none->b<=i
 bp:∀i o,h'.get i=some o->i<b->∃p,h.get i=some p
 next:h.next<=h'.next
def Fr.refl(b:Nat)(ρ:aH)(h:ab)(w:World):Fr b ρ h w ρ h w:=
 ⟨Ext.refl _,rfl,rfl,Fj _,λ_ _=>rfl,λ_ _ _=>rfl,λi o pl h1 h2 h3=>.inl ⟨i,o,pl,h1,h2,h3,rfl⟩,λ_ _ h _=>h,λ_ h h'=>absurd h h',λ_ o h _=>⟨o,h⟩,Fj _⟩
def Fr.mono{b b':Nat}{ρ ad:aH}{h h':ab}{w w':World}(x:Fr b ρ h w ad h' w')(hb:b'<=b):Fr b' ρ h w ad h' w':=
 ⟨x.ext,x.os,x.output,x.size,x.frozen,x.kept,x.new,x.ro,λi h1 h2=>Yt hb (x.ids i h1 h2),λi o h1 h2=>x.bp i o h1 (Rm h2 hb),x.next⟩
def Fr.trans{b:Nat}{ρ ad ah:aH}{h h' aP:ab}{w w' aR:World}(x:Fr b ρ h w ad h' w')(y:Fr b ad h' w' ah aP aR):Fr b ρ h w ah aP aR:=by
 refine⟨x.ext.trans y.ext,y.os.trans x.os,y.output.trans x.output,Yt x.size y.size,λa ha=>(y.frozen a (Rm ha x.size)).trans (x.frozen a ha), ?_, ?_, ?_, ?_,λi o h1 h2=>let⟨p,hp⟩:=y.bp i o h1 h2;x.bp i p hp h2,Yt x.next y.next⟩
 . intro k hb hh;rw[y.kept k (Rm hb x.size) ?_,x.kept k hb hh];rintro⟨i,o,pl,h1,h2,h3,rfl⟩;rcases x.new i o pl h1 h2 h3 with h4|h4
   . exact hh h4
   . omega
 . intro i o pl h1 h2 h3;rcases y.new i o pl h1 h2 h3 with⟨j,p,pj,g1,g2,g3,g4⟩|h4
   . rw[<-g4];exact x.new j p pj g1 g2 g3
   . exact .inr (Yt x.size h4)
 . intro i o h1 h2;exact x.ro i o (y.ro i o h1 h2) h2
 . intro i h1 h2;by_cases h3:ad i=none
   . exact y.ids i h3 h2
   . exact x.ids i h1 h3
def bA.sub{ρ:aH}{h g:ab}{w:World}(x:bA ρ h w)(hs:∀i o,g.get i=some o->h.get i=some o)(hn:h.next<=g.next):bA ρ g w:=
 ⟨λi pl hp=>Rm (x.hD i pl hp) hn,λi o ho=>x.obj i o (hs i o ho),λi j o p pi pj aj h1 h2 h3=>x.sep i j o p pi pj aj (hs i o h1) h2 (hs j p h3)⟩
def D0{ρ:aH}{h:ab}{w w':World}(hh:w'.heap=w.heap)(ho:w'.os=w.os)(hu:w'.output=w.output)(b:Nat):Fr b ρ h w ρ h w':=
 ⟨Ext.refl _,ho,hu,by rw[hh];exact Fj _,λa _=>by simp[World.frozen?,hh],λ_ _ _=>by rw[hh],λi o pl h1 h2 h3=>.inl ⟨i,o,pl,h1,h2,h3,rfl⟩,λ_ _ h _=>h,λ_ h h'=>absurd h h',λ_ o h _=>⟨o,h⟩,Fj _⟩
def bA.draw{ρ:aH}{h:ab}{w w':World}(x:bA ρ h w)(hh:w'.heap=w.heap):bA ρ h w':=
 ⟨x.hD,λi o ho=>let⟨pl,h1,h2⟩:=x.obj i o ho;⟨pl,h1,h2.mono (Ext.refl _) (by rw[hh])⟩,x.sep⟩
def aH.put(ρ:aH)(i:Nat)(pl:Pl):aH:=λj=>if j=i then some pl else ρ j
def aH.kM(ρ:aH)(i:Nat)(pl:Pl):ρ.put i pl i=some pl:=by simp[aH.put]
def aH.jL(ρ:aH){i j:Nat}(pl:Pl)(h:j≠i):ρ.put i pl j=ρ j:=by simp[aH.put,h]
def aH.rm{ρ:aH}{i:Nat}(pl:Pl)(h:ρ i=none):Ext ρ (ρ.put i pl):=λj p hj=>by
 have:j≠i:=λe=>by rw[e,h]at hj;cases hj
 rw[aH.jL _ _ this];exact hj
def bA.fresh{ρ:aH}{h:ab}{w:World}(x:bA ρ h w):ρ h.next=none:=by
 cases e:ρ h.next with
 |none=>rfl
 |some pl=>exact absurd (x.hD _ _ e) (Nat.lt_irrefl _)
def World.add(w:World)(o:Obj):World:={w with heap:=w.heap.push o}
def w8(w:World)(o:Obj):(World.add w o).heap[w.heap.size]? =some o:=by
 show(w.heap.push o)[w.heap.size]? =some o;rw[afi,if_pos rfl]
def zJ(w:World)(o:Obj){b:Nat}(hb:b<w.heap.size):(World.add w o).heap[b]? =w.heap[b]? :=by
 show(w.heap.push o)[b]? =_;rw[afi,if_neg (adr hb)]
def D1(w:World)(o:Obj):(World.add w o).heap.size=w.heap.size+1:=by
 show(w.heap.push o).size=_;simp
def Obj.kN:Obj->Bool
 |.cells _ _ fz=>fz==(0,0)
 |_=>true
def L5(w:World)(o:Obj)(ho:Obj.kN o=true)(a:Addr):(World.add w o).frozen? a=w.frozen? a:=by
 by_cases h:a.block<w.heap.size
 . simp only[World.frozen?,zJ w o h]
 . have e2:w.heap[a.block]? =none:=by simp;omega
   by_cases h':a.block=w.heap.size
   . have e1:(World.add w o).heap[a.block]? =some o:=by rw[h'];exact w8 w o
     simp only[World.frozen?,e1,e2];cases o<;>simp_all[Obj.kN]
   . have e1:(World.add w o).heap[a.block]? =none:=by rw[Array.getElem?_eq_none_iff,D1];omega
     simp only[World.frozen?,e1,e2]
structure Slot(b:Nat)(ρ:aH)(h:ab)(id:Nat)(ao:bR)(h':ab):Prop where
 free:ρ id=none
 ge:b<=id
 get:∀j,h'.get j=if j=id then some ao else h.get j
 next:h.next<=h'.next
 lt:id<h'.next
def bA.slot{ρ:aH}{h:ab}{w:World}(x:bA ρ h w)(ao:bR):Slot h.next ρ h h.next ao (h.new ao):=
 ⟨x.fresh,Fj _,λj=>ab.cW _ _ _,Nat.le_succ _,afj _⟩
def zK{b id:Nat}{ρ:aH}{h h':ab}{w:World}{ao:bR}{o:Obj}{pl:Pl}(x:bA ρ h w)(s:Slot b ρ h id ao h')(hu:Obj.kN o=true)(hb:pl.bh=w.heap.size)
 (hr:iv (ρ.put id pl) (World.add w o) pl ao) (hw:ao.wr=true):bA (ρ.put id pl) h' (World.add w o)/\Fr b ρ h w (ρ.put id pl) h' (World.add w o):=by
 have ae:Ext ρ (ρ.put id pl):=aH.rm pl s.free;refine⟨⟨?_, ?_, ?_⟩,⟨ae,rfl,rfl,by rw[D1];omega,λa _=>L5 w o hu a,λb aV _=>zJ w o aV, ?_, ?_, ?_, ?_,s.next⟩⟩
 . intro i p hp;by_cases e:i=id
   . rw[e];exact s.lt
   . rw[aH.jL _ _ e]at hp;exact Rm (x.hD i p hp) s.next
 . intro i o' az;rw[s.get]at az;by_cases e:i=id
   . rw[if_pos e]at az;cases az;subst e;exact⟨pl,aH.kM _ _ _,hr⟩
   . rw[if_neg e]at az;obtain⟨pi,h1,h2⟩:=x.obj i o' az;exact⟨pi,ae _ _ h1,h2.mono ae (zJ w o h2.lt)⟩
 . intro i j o' p pi pj aj h1 h2 h3 h4 h5;rw[s.get]at h1 h3;by_cases ei:i=id
   . by_cases ej:j=id
     . exact absurd (ei.trans ej.symm) aj
     . rw[if_neg ej]at h3;rw[ei,aH.kM]at h4;cases h4;rw[aH.jL _ _ ej]at h5;obtain⟨aY,g1,g2⟩:=x.obj j p h3;rw[g1]at h5;cases h5;have:=g2.lt;omega
   . rw[if_neg ei]at h1;rw[aH.jL _ _ ei]at h4;obtain⟨aZ,g1,g2⟩:=x.obj i o' h1;rw[g1]at h4;cases h4;by_cases ej:j=id
     . rw[ej,aH.kM]at h5;cases h5;have:=g2.lt;omega
     . rw[if_neg ej]at h3;rw[aH.jL _ _ ej]at h5;exact x.sep i j o' p pi pj aj h1 h2 h3 g1 h5
 . intro i o' p h1 h2 h3;rw[s.get]at h1;by_cases e:i=id
   . rw[e,aH.kM]at h3;cases h3;exact .inr (Nat.le_of_eq hb.symm)
   . rw[if_neg e]at h1;rw[aH.jL _ _ e]at h3;exact .inl ⟨i,o',p,h1,h2,h3,rfl⟩
 . intro i o' h1 h2;rw[s.get]at h1;by_cases e:i=id
   . rw[if_pos e]at h1;cases h1;rw[hw]at h2;cases h2
   . rw[if_neg e]at h1;exact h1
 . intro i h1 h2;by_cases e:i=id
   . rw[e];exact s.ge
   . rw[aH.jL _ _ e]at h2;exact absurd h1 h2
 . intro i o' h1 h2;rw[s.get,if_neg (adr (Rm h2 s.ge))]at h1;exact⟨o',h1⟩
def World.gu(w:World)(b:Nat)(o:Obj):World:={w with heap:=w.heap.setIfInBounds b o}
def oz(w:World)(b:Nat)(o:Obj)(hb:b<w.heap.size):(World.gu w b o).heap[b]? =some o:=by
 simp[World.gu,hb]
def u0(w:World){b c:Nat}(o:Obj)(h:c≠b):(World.gu w b o).heap[c]? =w.heap[c]? :=by
 simp[World.gu,afk,UR h]
def D2(w:World)(b:Nat)(o p:Obj)(hp:w.heap[b]? =some p)(h1:Obj.kN o=true)(h2:Obj.kN p=true)(a:Addr):
 (World.gu w b o).frozen? a=w.frozen? a:=by
 by_cases e:a.block=b
 . have hb:b<w.heap.size:=(Xt.1 hp).1;simp only[World.frozen?,e,oz w b o hb,hp];cases o<;>cases p<;>simp_all[Obj.kN]
 . simp only[World.frozen?,u0 w o e]
def iv.kN{ρ:aH}{w:World}{pl:Pl}{o:bR}(h:iv ρ w pl o)(hw:o.wr=true):∃p,w.heap[pl.bh]? =some p/\Obj.kN p=true:=by
 cases o with
 |row cs wr ak=>
  obtain⟨c,el,fz,h1,h2,_⟩:=h;exact⟨_,h1,by simp[Obj.kN,h2 hw]⟩
 |map es clock=>obtain⟨_,aC,h1,_⟩:=h;exact⟨_,h1,rfl⟩
 |cC m since seen last=>obtain⟨_,m',h1,_⟩:=h;exact⟨_,h1,rfl⟩
 |eO s pos=>exact⟨_,h.2,rfl⟩
 |loop st ax t n params bX body fJ=>obtain⟨_,fn,tmps,aE,_,_,h3⟩:=h;exact⟨_,h3,rfl⟩
 |fJ e=>exact⟨_,h.2,rfl⟩
def rn{b:Nat}{ρ:aH}{h:ab}{w:World}{i:Nat}{ao ao':bR}{o:Obj}{pl:Pl}(x:bA ρ h w)(hi:h.get i=some ao)(hw:ao.wr=true)(hp:ρ i=some pl)
 (hu:Obj.kN o=true) (hr:iv ρ (World.gu w pl.bh o) pl ao') (aJ:ao'.wr=true):
 bA ρ (h.set i (some ao')) (World.gu w pl.bh o)/\Fr b ρ h w ρ (h.set i (some ao')) (World.gu w pl.bh o):=by
 obtain⟨pl',e1,e2⟩:=x.obj i ao hi;rw[hp]at e1;cases e1;obtain⟨p,aK,aL⟩:=e2.kN hw;refine⟨⟨x.hD, ?_, ?_⟩,⟨Ext.refl _,rfl,rfl,by simp[World.gu],λa _=>D2 w _ o p aK hu aL a, ?_, ?_, ?_,λ_ h h'=>absurd h h', ?_,Fj _⟩⟩
 . intro j q hj;rw[ab.bD]at hj;by_cases e:j=i
   . rw[if_pos e]at hj;cases hj;subst e;exact⟨pl,hp,hr⟩
   . rw[if_neg e]at hj;obtain⟨pj,g1,g2⟩:=x.obj j q hj;exact⟨pj,g1,g2.mono (Ext.refl _) (u0 w o (UR (x.sep i j ao q pl pj (UR e) hi hw hj hp g1)))⟩
 . intro j k q r pj pk aA h1 h2 h3 h4 h5;rw[ab.bD]at h1 h3;by_cases ej:j=i
   . by_cases ek:k=i
     . exact absurd (ej.trans ek.symm) aA
     . rw[if_neg ek]at h3;subst ej;exact x.sep _ _ ao r pj pk aA hi hw h3 h4 h5
   . rw[if_neg ej]at h1;by_cases ek:k=i
     . subst ek;exact x.sep _ _ q ao pj pk aA h1 h2 hi h4 h5
     . rw[if_neg ek]at h3;exact x.sep j k q r pj pk aA h1 h2 h3 h4 h5
 . intro b _ hh;refine u0 w o λe=>hh ⟨i,ao,pl,hi,hw,hp,e.symm⟩
 . intro j q pj h1 h2 h3;rw[ab.bD]at h1;by_cases e:j=i
   . subst e;rw[hp]at h3;cases h3;exact .inl ⟨_,ao,pl,hi,hw,hp,rfl⟩
   . rw[if_neg e]at h1;exact .inl ⟨j,q,pj,h1,h2,h3,rfl⟩
 . intro j q h1 h2;rw[ab.bD]at h1;by_cases e:j=i
   . rw[if_pos e]at h1;cases h1;rw[aJ]at h2;cases h2
   . rw[if_neg e]at h1;exact h1
 . intro j q h1 _;rw[ab.bD]at h1;by_cases e:j=i
   . subst e;exact⟨ao,hi⟩
   . rw[if_neg e]at h1;exact⟨q,h1⟩
def L6{ρ:aH}{h:ab}{w:World}{i:Nat}{ao ao':bR}{o:Obj}{pl pl':Pl}(x:bA ρ h w)(hi:h.get i=some ao)(hw:ao.wr=true)(hp:ρ i=some pl)
 (hu:Obj.kN o=true) (hb:pl'.bh=pl.bh) (hr:iv (ρ.put h.next pl') (World.gu w pl.bh o) pl' ao') (aJ:ao'.wr=true):
 bA (ρ.put h.next pl') ((h.set i none).new ao') (World.gu w pl.bh o)/\Fr h.next ρ h w (ρ.put h.next pl') ((h.set i none).new ao') (World.gu w pl.bh o):=by
 obtain⟨ba,e1,e2⟩:=x.obj i ao hi;rw[hp]at e1;cases e1;obtain⟨p,aK,aL⟩:=e2.kN hw;have ae:Ext ρ (ρ.put h.next pl'):=aH.rm pl' x.fresh;have ai:∀j,((h.set i none).new ao').get j=if j=h.next then some ao' else if j=i then none else h.get j:=λj=>by rw[ab.cW,ab.bD];rfl
 have hold:∀j o',h.get j=some o'->j≠h.next:=λj o' az e=>by
  obtain⟨pi,h1,_⟩:=x.obj j o' az;rw[e,x.fresh]at h1;cases h1
 refine⟨⟨?_, ?_, ?_⟩,⟨ae,rfl,rfl,by simp[World.gu],λa _=>D2 w _ o p aK hu aL a, ?_, ?_, ?_, ?_, ?_,Nat.le_succ _⟩⟩
 . intro j q hj;by_cases e:j=h.next
   . rw[e];exact afj _
   . rw[aH.jL _ _ e]at hj;exact Nat.lt_succ_of_lt (x.hD j q hj)
 . intro j q hj;rw[ai]at hj;by_cases e:j=h.next
   . rw[if_pos e]at hj;cases hj;subst e;exact⟨pl',aH.kM _ _ _,hr⟩
   . rw[if_neg e]at hj;by_cases e':j=i
     . rw[if_pos e']at hj;cases hj
     . rw[if_neg e']at hj;obtain⟨pj,g1,g2⟩:=x.obj j q hj;exact⟨pj,ae _ _ g1,g2.mono ae (u0 w o (UR (x.sep i j ao q pl pj (UR e') hi hw hj hp g1)))⟩
 . intro j k q r pj pk aA h1 h2 h3 h4 h5;rw[ai]at h1 h3;by_cases ej:j=h.next
   . by_cases ek:k=h.next
     . exact absurd (ej.trans ek.symm) aA
     . rw[if_neg ek]at h3;by_cases aG:k=i
       . rw[if_pos aG]at h3;cases h3
       . rw[if_neg aG]at h3;rw[ej,aH.kM]at h4;cases h4;rw[aH.jL _ _ ek]at h5;rw[hb];exact x.sep i k ao r pl pk (UR aG) hi hw h3 hp h5
   . rw[if_neg ej]at h1;by_cases aM:j=i
     . rw[if_pos aM]at h1;cases h1
     . rw[if_neg aM]at h1;rw[aH.jL _ _ ej]at h4;by_cases ek:k=h.next
       . rw[ek,aH.kM]at h5;cases h5;rw[hb];exact x.sep j i q ao pj pl aM h1 h2 hi h4 hp
       . rw[if_neg ek]at h3;by_cases aG:k=i
         . rw[if_pos aG]at h3;cases h3
         . rw[if_neg aG]at h3;rw[aH.jL _ _ ek]at h5;exact x.sep j k q r pj pk aA h1 h2 h3 h4 h5
 . intro b _ hh;exact u0 w o λe=>hh ⟨i,ao,pl,hi,hw,hp,e.symm⟩
 . intro j q pj h1 h2 h3;rw[ai]at h1;by_cases e:j=h.next
   . rw[e,aH.kM]at h3;cases h3;exact .inl ⟨i,ao,pl,hi,hw,hp,hb.symm⟩
   . rw[if_neg e]at h1;by_cases e':j=i
     . rw[if_pos e']at h1;cases h1
     . rw[if_neg e']at h1;rw[aH.jL _ _ e]at h3;exact .inl ⟨j,q,pj,h1,h2,h3,rfl⟩
 . intro j q h1 h2;rw[ai]at h1;by_cases e:j=h.next
   . rw[if_pos e]at h1;cases h1;rw[aJ]at h2;cases h2
   . rw[if_neg e]at h1;by_cases e':j=i
     . rw[if_pos e']at h1;cases h1
     . rw[if_neg e']at h1;exact h1
 . intro j h1 h2;by_cases e:j=h.next
   . exact Nat.le_of_eq e.symm
   . rw[aH.jL _ _ e]at h2;exact absurd h1 h2
 . intro j q h1 h2;rw[ai,if_neg (adr h2)]at h1;by_cases e':j=i
   . subst e';exact⟨ao,hi⟩
   . rw[if_neg e']at h1;exact⟨q,h1⟩
def bA.kill{ρ:aH}{h:ab}{w:World}(x:bA ρ h w)(i b:Nat):bA ρ (h.set i none) w/\Fr b ρ h w ρ (h.set i none) w:=by
 have hs:∀j o,(h.set i none).get j=some o->h.get j=some o:=λj o hj=>by
  rw[ab.bD]at hj;by_cases e:j=i
  . rw[if_pos e]at hj;cases hj
  . rw[if_neg e]at hj;exact hj
 exact⟨x.sub hs (Fj _),⟨Ext.refl _,rfl,rfl,Fj _,λ_ _=>rfl,λ_ _ _=>rfl,λj o pl h1 h2 h3=>.inl ⟨j,o,pl,hs j o h1,h2,h3,rfl⟩,
  λj o h1 _=>hs j o h1,λ_ h h'=>absurd h h',λj o h1 _=>⟨o,hs j o h1⟩,Fj _⟩⟩
def bA.extend{b:Nat}{ρ ad:aH}{u g g' u':ab}{w w':World}(x:bA ρ u w)(hs:∀i o,g.get i=some o->u.get i=some o)(y:bA ad g' w')(f:Fr b ρ g w ad g' w')
 (hu:∀i o,u'.get i=some o->g'.get i=some o\/(u.get i=some o/\g.get i=none)) (hn:u.next<=u'.next) (aX:g'.next<=u'.next):bA ad u' w'/\Fr b ρ u w ad u' w':=by
 have host:∀{k},Host ρ g k->Host ρ u k:=λ⟨i,o,pl,h1,h2,h3,h4⟩=>⟨i,o,pl,hs i o h1,h2,h3,h4⟩;have aside:∀{i o pl},u.get i=some o->g.get i=none->ρ i=some pl->¬Host ρ g pl.bh:=λ{i o pl} h1 h2 h3 ⟨j,p,pj,g1,g2,g3,g4⟩=>by
  have aj:j≠i:=λe=>by rw[e,h2]at g1;cases g1
  exact x.sep j i p o pj pl aj (hs j p g1) g2 h1 g3 h3 g4
 have key:∀{i o pl j p pj},u.get i=some o->g.get i=none->ρ i=some pl->g'.get j=some p->p.wr=true->ad j=some pj->pj.bh≠pl.bh:=λ{i o pl j p pj} h1 h2 h3 h4 h5 h6 e=>by
  rcases f.new j p pj h4 h5 h6 with h7|h7
  . rw[e]at h7;exact aside h1 h2 h3 h7
  . obtain⟨pl',q1,q2⟩:=x.obj i o h1;rw[h3]at q1;cases q1;have:=q2.lt;omega
 refine⟨⟨λi pl h=>Rm (y.hD i pl h) aX,λi o h=> ?_,λi j o p pi pj aj h1 h2 h3 h4 h5=> ?_⟩,
  ⟨f.ext,f.os,f.output,f.size,f.frozen,λk hk hh=>f.kept k hk λh=>hh (host h),λi o pl h1 h2 h3=> ?_,λi o h1 h2=> ?_,f.ids,λi o h1 h2=> ?_,hn⟩⟩
 . rcases hu i o h with h|⟨h1,h2⟩
   . exact y.obj i o h
   . obtain⟨pl,q1,q2⟩:=x.obj i o h1;exact⟨pl,f.ext _ _ q1,q2.mono f.ext (f.kept _ q2.lt (aside h1 h2 q1))⟩
 . rcases hu i o h1 with a1|⟨a1,a2⟩
   . rcases hu j p h3 with b1|⟨b1,b2⟩
     . exact y.sep i j o p pi pj aj a1 h2 b1 h4 h5
     . obtain⟨pl,q1,q2⟩:=x.obj j p b1;rw[f.ext _ _ q1]at h5;cases h5;exact key b1 b2 q1 a1 h2 h4
   . obtain⟨pl,q1,q2⟩:=x.obj i o a1;rw[f.ext _ _ q1]at h4;cases h4;rcases hu j p h3 with b1|⟨b1,b2⟩
     . cases hw:p.wr with
       |true=>exact UR (key a1 a2 q1 b1 hw h5)
       |false=>
        have hg:=f.ro j p b1 hw;obtain⟨pl',r1,r2⟩:=x.obj j p (hs j p hg);rw[f.ext _ _ r1]at h5;cases h5;exact x.sep i j o p _ _ aj a1 h2 (hs j p hg) q1 r1
     . obtain⟨pl',r1,r2⟩:=x.obj j p b1;rw[f.ext _ _ r1]at h5;cases h5;exact x.sep i j o p _ _ aj a1 h2 b1 q1 r1
 . rcases hu i o h1 with a1|⟨a1,a2⟩
   . exact(f.new i o pl a1 h2 h3).imp host id
   . obtain⟨pl',q1,q2⟩:=x.obj i o a1;rw[f.ext _ _ q1]at h3;cases h3;exact .inl ⟨i,o,_,a1,h2,q1,rfl⟩
 . rcases hu i o h1 with a1|⟨a1,a2⟩
   . exact hs _ _ (f.ro i o a1 h2)
   . exact a1
 . rcases hu i o h1 with a1|⟨a1,a2⟩
   . obtain⟨p,hp⟩:=f.bp i o a1 h2;exact⟨p,hs _ _ hp⟩
   . exact⟨o,a1⟩
def cg{α:Type}{b:Bool}{x:Option α}{r:α}(h:(bif b then x else none)=some r):b=true/\x=some r:=by
 cases b with
 |true=>exact⟨rfl,h⟩
 |false=>cases h
def u5{α:Type}(P:Program):∀(s:Sem α) (a:α),b8 P s=some a->∀w,s.run P w=.ok a w
 |.pure a,b,h,w=>by simp only[b8,Ey]at h;subst h;rfl
 |.program k,b,h,w=>u5 P (k P) b h w
 |.load _ _ _,_,h,_|.store _ _ _ _,_,h,_|.new _ _,_,h,_|.shape _ _,_,h,_|.freeze _ _ _,_,h,_|.frozen _ _,_,h,_|.getObj _ _,_,h,_|.setObj _ _ _,_,h,_
 |.choose _ _,_,h,_|.sys _ _,_,h,_|.mark _ _,_,h,_|.halt _,_,h,_=>by simp[b8]at h
structure Env.Ok(e:Env):Prop where
 under:∀t d,e.under t=some d->e.P.underlying t=some d
 size:∀t n,e.size t=some n->∃i,e.P.info? t=some i/\i.size=n
 bytes:∀t n,e.bytes t=some n->∃i,e.P.info? t=some i/\i.bytes=n
 zero:∀t z,e.zero t=some z->∃i,e.P.info? t=some i/\i.zero=some z/\plain z=true
 fields:∀t fs,e.under t=some (.struct fs)->∀f∈fs.toList,∃n,e.size f.type=some n
 fn:∀f fn,e.fn f=some fn->e.P.funcs[f]? =some fn/\∀args w,(callFunc f args).run e.P w=.ok (.enter f args) w
def Gl(e:Env)(ρ:aH):Prop:=(∀g,g<e.oq->∃pl,ρ g=some pl/\pl.bh=g/\pl.off=0)/\∀p∈e.pins,ρ p.1=some p.2
def Gl.mono{e:Env}{ρ ah:aH}(hx:Ext ρ ah)(h:Gl e ρ):Gl e ah:=⟨λg hg=>let⟨pl,h1,h2⟩:=h.1 g hg;⟨pl,hx _ _ h1,h2⟩,λp hp=>hx _ _ (h.2 p hp)⟩
section runs
variable {P:Program} {w:World}
def run_underlying{t:TypeId}{d:TypeDesc}(h:P.underlying t=some d):(underlying t).run P w=.ok d w:=by simp[underlying,h]
def run_typeInfo{t:TypeId}{i:TypeInfo}(h:P.info? t=some i):(typeInfo t).run P w=.ok i w:=by simp[typeInfo,h]
def run_sizeOf{t:TypeId}{i:TypeInfo}{n:Nat}(h:P.info? t=some i/\i.size=n):(sizeOf t).run P w=.ok n w:=by simp[sizeOf,run_typeInfo h.1,h.2]
def L7{t:TypeId}{i:TypeInfo}{z:Value}(h:P.info? t=some i)(hz:i.zero=some z):(zeroValue t).run P w=.ok z w:=by simp[zeroValue,run_typeInfo h,hz]
def L8{t:TypeId}{d:TypeDesc}(h:P.underlying t=some d):(isAgg t).run P w=.ok (jH d) w:=by
 cases d<;>simp[isAgg,run_underlying h,jH]
end runs
variable {e:Env}
def Env.Ok.dj(he:e.Ok){t:TypeId}{d:TypeDesc}(h:e.under t=some d)(w:World):(underlying t).run e.P w=.ok d w:=run_underlying (he.under t d h)
def Env.Ok.iw(he:e.Ok){t:TypeId}{n:Nat}(h:e.size t=some n)(w:World):(sizeOf t).run e.P w=.ok n w:=let⟨_,h1⟩:=he.size t n h;run_sizeOf h1
def Env.Ok.nA(he:e.Ok){t:TypeId}{z:Value}(h:e.zero t=some z)(w:World):(zeroValue t).run e.P w=.ok z w:=let⟨_,h1,h2,_⟩:=he.zero t z h;L7 h1 h2
def Env.Ok.w9(he:e.Ok){t:TypeId}{d:TypeDesc}(h:e.under t=some d)(w:World):(isAgg t).run e.P w=.ok (jH d) w:=L8 (he.under t d h)
def Env.Ok.L9(he:e.Ok){t:TypeId}{n:Nat}(h:e.bytes t=some n)(w:World):∃i,(typeInfo t).run e.P w=.ok i w/\i.bytes=n:=let⟨i,h1,h2⟩:=he.bytes t n h;⟨i,run_typeInfo h1,h2⟩
def kl{ρ:aH}{t:Tr Value}{n:Nat}{a:Array Value}(hg:Gl e ρ)(ht:jK ρ t n a){o:Operand}{v:Value}(h:aE e t o=some v)(ds:List Deferred):
 aQ ρ v ((Act.mk a ds).eval o):=by
 cases o with
 |tmp i=>exact(ht.2 i v h).2
 |const x=>
  simp only[aE]at h;cases hp:plain x<;>simp[hp]at h;subst h;exact nz hp
 |global g=>
  simp only[aE]at h;cases hp:yx g e.oq<;>simp[hp]at h;subst h;obtain⟨pl,h1,h2,h3⟩:=hg.1 g (afc hp);have:=aQ.ptr (ρ:=ρ) (a:=⟨g,0,none⟩) h1;rw[h2,h3]at this;exact this
 |func f=>
  simp only[aE,Ey]at h;subst h;exact .func (.func f) rfl (λi v v' h=>by simp at h) rfl (λi v v' h=>by simp at h)
def u6{ρ:aH}{t:Tr Value}{n:Nat}{a:Array Value}(hg:Gl e ρ)(ht:jK ρ t n a)(ds:List Deferred):∀{os:List Operand} {vs:List Value},db e t os=some vs->
 bQ ρ vs (os.map (Act.mk a ds).eval)
 |[],vs,h=>by simp only[db,Ey]at h;subst h;exact .nil
 |o::os,vs,h=>by
  simp only[db]at h;cases h1:aE e t o with
  |none=>simp[h1]at h
  |some v=>
   cases h2:db e t os with
   |none=>simp[h1,h2]at h
   |some xs=>
    simp only[h1,h2,Ey]at h;subst h;exact .cons (kl hg ht h1 ds) (u6 hg ht ds h2)
inductive tq(ρ:aH):List (Nat×Value)->List (Nat×Value)->Prop
 |nil:tq ρ [] []
 |cons {i:Nat} {v v':Value} {x y:List (Nat×Value)}:aQ ρ v v'->tq ρ x y->tq ρ ((i,v)::x) ((i,v')::y)
def zL{ρ:aH}{t:Tr Value}{n:Nat}{a:Array Value}(hg:Gl e ρ)(ht:jK ρ t n a)(ds:List Deferred):∀{os:List (Nat×Operand)} {vs:List (Nat×Value)},fx e t os=some vs->
 tq ρ vs (os.map λp=>(p.1,(Act.mk a ds).eval p.2))
 |[],vs,h=>by simp only[fx,Ey]at h;subst h;exact .nil
 |(i,o)::os,vs,h=>by
  simp only[fx]at h;cases h1:aE e t o with
  |none=>simp[h1]at h
  |some v=>
   cases h2:fx e t os with
   |none=>simp[h1,h2]at h
   |some xs=>
    simp only[h1,h2,Ey]at h;subst h;exact .cons (kl hg ht h1 ds) (zL hg ht ds h2)
def oA(b o j:Nat):(⟨b,o,none⟩:Addr).add j=⟨b,o+j,none⟩:=by unfold Addr.add;split<;>simp_all
def Addr.tr(a:Addr)(n:Nat):(a.add n).block=a.block:=by unfold Addr.add;split<;>rfl
def Addr.rp(a:Addr)(n:Nat):(a.add n).off=a.off+n:=by unfold Addr.add;split<;>simp_all
def tu{ρ:aH}{h:ab}{w:World}(x:bA ρ h w){a:Addr}{pl:Pl}(hp:ρ a.block=some pl){n:Nat}{cs:List Value}(hr:fV h a n=some cs):
 ∃cs',bQ ρ cs cs'/\cs'.length=n/\∀(j:Nat) (v:Value),cs'[j]? =some v->w.cell? ((⟨pl.bh,pl.off+a.off,none⟩:Addr).add j)=some v:=by
 unfold fV at hr;cases ho:h.get a.block with
 |none=>simp[ho]at hr
 |some o=>
  cases o with
  |row rs wr ak=>
   simp only[ho]at hr;obtain⟨hl,hr⟩:=cg hr
   . cases hr;obtain⟨pl',g1,c,el,fz,g2,g3,g4,g5,g6,g7,g8,g9⟩:=x.obj _ _ ho;rw[hp]at g1;cases g1;refine⟨(((c.toList.drop pl.off).take pl.n).drop a.off).take n,(g9.1.drop a.off).take n, ?_, ?_⟩
     . rw[<-((g9.1.drop a.off).take n).length];exact afd hl
     . intro j v hv;rw[oA];have hj:j<n:=by
        rcases Nat.lt_or_ge j n with h|h
        . exact h
        . rw[YN,if_neg aa]at hv;cases hv
       rw[YN,if_pos hj,afe,YN]at hv
       split at hv
       . rw[afe]at hv;simp only[World.cell?,g2,Option.isSome_none,Bool.false_eq_true,if_false];rw[<-hv,<-Array.getElem?_toList];congr 1;omega
       . cases hv
  |_=>simp[ho]at hr
def D3(he:e.Ok){ρ:aH}{h:ab}{w:World}(x:bA ρ h w){a:Addr}{pl:Pl}(hp:ρ a.block=some pl){t:TypeId}{v:Value}(hr:iq e h t a=some v):
 ∃v',(loadVar t ⟨pl.bh,pl.off+a.off,none⟩).run e.P w=.ok v' w/\aQ ρ v v':=by
 unfold iq at hr;cases hd:e.under t with
 |none=>simp[hd]at hr
 |some d=>
  simp only[hd]at hr;cases ha:jH d with
  |true=>
   simp only[ha,cond_true]at hr;cases hs:e.size t with
   |none=>simp[hs]at hr
   |some n=>
    simp only[hs]at hr;cases hc:fV h a n with
    |none=>simp[hc]at hr
    |some cs=>
     simp only[hc,Ey]at hr;subst hr;obtain⟨cs',g1,g2,g3⟩:=tu x hp hc;refine⟨.agg cs'.toArray, ?_,aQ.wZ (by simpa using g1)⟩;have:=run_loadCells_list (P:=e.P) w ⟨pl.bh,pl.off+a.off,none⟩ cs' g3;rw[g2]at this;simp[loadVar,he.w9 hd,ha,he.iw hs,this]
  |false=>
   simp only[ha,cond_false]at hr;cases hc:fV h a 1 with
   |none=>simp[hc]at hr
   |some cs=>
    obtain⟨cs',g1,g2,g3⟩:=tu x hp hc
    match cs,hc,hr,g1 with
    |[u],hc,hr,g1=>
     simp only[hc,Ey]at hr;subst hr
     match cs',g1 with
     |[u'],.cons g1 _=>
      have:=g3 0 u' rfl;refine⟨u', ?_,g1⟩;have hz:(⟨pl.bh,pl.off+a.off,none⟩:Addr).add 0=⟨pl.bh,pl.off+a.off,none⟩:=by simp[Addr.add]
      rw[hz]at this;simp[loadVar,he.w9 hd,ha,this]
    |[],hc,hr,_=>simp[hc]at hr
    |_::_::_,hc,hr,_=>simp[hc]at hr
def aQ.dF{ρ:aH}{v v':Value}(h:aQ ρ v v'):dF v'=dF v:=by cases h<;>rfl
def Ma(v:Value):v.oneCell'=dF v:=by cases v<;>rfl
def bQ.dF{ρ:aH}{x y:List Value}(h:bQ ρ x y)(hx:x.all dF=true):∀v∈y,v.oneCell'=true:=by
 induction h with
 |nil=>intro v hv;cases hv
 |cons h _ ih=>
  simp only[List.all_cons,aff]at hx;intro v hv;cases hv with
  |head=>rw[Ma,h.dF];exact hx.1
  |tail _ hv=>exact ih hx.2 v hv
def D5(w:World)(g:Nat)(cur:Array Value)(el:TypeId)(fz:Nat×Nat)(new:Array Value)(hg:w.heap[g]? =some (.cells cur el fz)):
 w.setRow g new=World.gu w g (.cells new el fz):=by
 obtain⟨ae,hv⟩:=Xt.1 hg;unfold World.setRow World.gu;congr 1;apply Array.ext_getElem?;intro i;rw[Array.getElem?_modify,afk];by_cases h:g=i
 . subst h;rw[if_pos rfl,if_pos rfl,if_pos ae,hg];rfl
 . rw[if_neg h,if_neg h]
def D6(cs:List Value)(off:Nat)(vs:List Value)(h:off+vs.length<=cs.length):(dN cs off vs).length=cs.length:=by
 unfold dN;simp;omega
def aU.dN{ρ:aH}{cs cs' vs ad:List Value}(h:bQ ρ cs cs')(hv:bQ ρ vs ad)(off:Nat):bQ ρ (dN cs off vs) (dN cs' off ad):=by
 unfold Go.aD.dN;rw[hv.length];exact((h.take off).append hv).append (h.drop _)
def D7(c:List Value)(o n k:Nat)(vs:List Value)(h:k+vs.length<=n)(hc:o+n<=c.length):
 ((c.take (o+k)++vs++c.drop (o+k+vs.length)).drop o).take n=dN ((c.drop o).take n) k vs:=by
 unfold dN;apply List.ext_getElem?;intro i;simp only[YN,afe,List.getElem?_append,afl,afm,afn];have h1:min (o+k) c.length=o+k:=aa;have h2:min k (min n (c.length-o))=k:=aa;rw[h1,h2];by_cases hi:i<n
 . simp only[hi,if_true];by_cases hk:i<k
   . have e1:o+i<o+k+vs.length:=aa;have e2:o+i<o+k:=aa;have e3:i<k+vs.length:=aa;simp[hk,e1,e2,e3]
   . by_cases hv:i<k+vs.length
     . have e1:o+i<o+k+vs.length:=aa;have e2:¬o+i<o+k:=aa;simp only[e1,e2,hk,hv,if_true,if_false];congr 1;omega
     . have e1:¬o+i<o+k+vs.length:=aa;simp only[e1,hv,if_false];have e4:k+vs.length+(i-(k+vs.length))<n:=aa;rw[if_pos e4];congr 1;omega
 . simp only[hi,if_false];have hk:¬i<k:=aa;have hv:¬i<k+vs.length:=aa;simp only[hk,hv,if_false];have e4:¬k+vs.length+(i-(k+vs.length))<n:=aa;rw[if_neg e4]
def xa(P:Program){b:Nat}{ρ:aH}{h h':ab}{w:World}(x:bA ρ h w){a:Addr}{pl:Pl}(hp:ρ a.block=some pl){vs ad:List Value}(hv:bQ ρ vs ad)(hr:kc h a vs=some h'):
 ∃w',(storeCells ⟨pl.bh,pl.off+a.off,none⟩ ad).run P w=.ok () w'/\bA ρ h' w'/\Fr b ρ h w ρ h' w':=by
 unfold kc at hr
 match vs,ad,hv with
 |[],[],_=>
  simp only[Ey]at hr;subst hr;exact⟨w,rfl,x,Fr.refl _ _ _ _⟩
 |u::us,u'::af,hv=>
  simp only at hr;cases ho:h.get a.block with
  |none=>simp[ho]at hr
  |some o=>
   cases o with
   |row rs wr ak=>
    cases wr with
    |false=>simp[ho]at hr
    |true=>
     simp only[ho]at hr;obtain⟨hb,hr⟩:=cg hr
     . cases hr;rw[aff]at hb;have hle:a.off+(u::us).length<=rs.length:=afc hb.1;obtain⟨pl',g1,c,el,fz,g2,g3,g4,g5,g6,g7,g8,g9⟩:=x.obj _ _ ho;rw[hp]at g1;cases g1;have aj:=g3 rfl;subst aj;have hl:=hv.length;have ai:=run_storeCells_at (P:=P) pl.bh (pl.off+a.off) el (u'::af) 0 c w g2 (by rw[<-hl];omega) (hv.dF hb.2);rw[D5 w pl.bh c el (0,0) _ g2]at ai;refine⟨_,ai, ?_⟩;refine rn x ho rfl hp rfl ?_ rfl;have ae:pl.bh<w.heap.size:=(Xt.1 g2).1;have an:(u'::af).length=(u::us).length:=hl.symm;refine⟨_,el,(0,0),oz w _ _ ae,λ_=>rfl, ?_,g5,g6, ?_,g8, ?_,λe0=>by
        have h0:=congrArg List.length e0;rw[D6 _ _ _ hle,List.length_nil]at h0;simp only[List.length_cons]at hle;omega⟩
       . rw[D6 _ _ _ hle];exact g4
       . simp only[afo,afl,afm,afn,WZ];omega
       . simp only[Nat.add_zero];rw[D7 c.toList pl.off pl.n a.off (u'::af) aa (by simp;omega)];exact aU.dN g9.1 hv _
   |_=>simp[ho]at hr
def aQ.cells{ρ:aH}{v v':Value}(h:aQ ρ v v'):bQ ρ v.cells.toList v'.cells.toList:=by
 cases h with
 |agg h1 h2=>exact rk h1 h2
 |bool b=>exact .cons (.bool b) .nil
 |int k n=>exact .cons (.int k n) .nil
 |string s=>exact .cons (.string s) .nil
 |rj=>exact .cons .rj .nil
 |ptr h=>exact .cons (.ptr h) .nil
 |ki l k=>exact .cons (.ki l k) .nil
 |sl h hs=>exact .cons (.sl h hs) .nil
 |oy=>exact .cons .oy .nil
 |map h=>exact .cons (.map h) .nil
 |func hf h1 h2 h3 h4=>exact .cons (.func hf h1 h2 h3 h4) .nil
 |nilFunc=>exact .cons .nilFunc .nil
 |iface h=>exact .cons (.iface h) .nil
 |nilIface=>exact .cons .nilIface .nil
 |tuple h1 h2=>exact .cons (.tuple h1 h2) .nil
def Mb(he:e.Ok){b:Nat}{ρ:aH}{h h':ab}{w:World}(x:bA ρ h w){a:Addr}{pl:Pl}(hp:ρ a.block=some pl){t:TypeId}{v v':Value}(hv:aQ ρ v v')(hr:ot e h t a v=some h'):
 ∃w',(storeVar t ⟨pl.bh,pl.off+a.off,none⟩ v').run e.P w=.ok () w'/\bA ρ h' w'/\Fr b ρ h w ρ h' w':=by
 unfold ot at hr;cases hs:e.size t with
 |none=>simp[hs]at hr
 |some n=>
  simp only[hs]at hr;obtain⟨hb,hr⟩:=cg hr
  . obtain⟨w',g1,g2⟩:=xa e.P x hp hv.cells hr;refine⟨w', ?_,g2⟩;have hl:=hv.cells.length;have hn:=afd hb;have:v'.cells.size=n:=by rw[<-WZ,<-hl];exact hn
    simp[storeVar,he.iw hs,this,g1]
end Go.aD
end
noncomputable section
namespace Go.aD
variable {e:Env}
def Mc(vs:List Value):∀(off k:Nat) (cs:Array Value),off+k+vs.length<=cs.size->
 ((vs.zipIdx k).foldl (λcs (p:Value×Nat)=>cs.setIfInBounds (off+p.2) p.1) cs).toList=dN cs.toList (off+k) vs:=by
 induction vs with
 |nil=>
  intro off k cs h;simp[dN]
 |cons v vs ih=>
  intro off k cs h;simp only[List.zipIdx_cons,List.foldl_cons];have:=ih off (k+1) (cs.setIfInBounds (off+k) v) (by simp at h⊢;omega);rw[this];have e:=list_seg_step cs.toList (off+k) v vs (by simp at h⊢;omega);unfold dN;simpa[Array.toList_setIfInBounds,Nat.add_assoc,Nat.add_comm 1 vs.length]using e
def zM{ρ:aH}{place place':Nat->Option (Nat×Nat)}(af:∀i x,place i=some x->place' i=some x):∀{cells:List Value} {ps ps':List (Nat×Value)} {cells':Array Value} {cs:List Value},
 bQ ρ cells cells'.toList->tq ρ ps ps'->iJ place cells ps=some cs->∃cs':Array Value,Instr.fill place' cells' ps'=some cs'/\bQ ρ cs cs'.toList:=by
 intro cells ps ps' cells' cs hc hp
 induction hp generalizing cells cells' with
 |nil=>
  intro h;simp only[iJ,Ey]at h;subst h;exact⟨cells',rfl,hc⟩
 | @cons i v v' x y hv _ ih=>
  intro h;simp only[iJ]at h;cases hi:place i with
  |none=>simp[hi]at h
  |some p=>
   obtain⟨off,size⟩:=p;simp only[hi]at h;obtain⟨hb,h⟩:=cg h;rw[aff]at hb;have hl:=hv.cells.length;have h1:v.cells.toList.length=size:=afd hb.1;have h2:off+size<=cells.length:=afc hb.2;have h3:cells.length=cells'.size:=by simpa using hc.length
   have h4:v'.cells.size=size:=by rw[<-WZ,<-hl];exact h1
   have hf:=Mc v'.cells.toList off 0 cells' (by simp only[WZ];omega);simp only[Nat.add_zero]at hf;have hz:v'.cells.zipIdx.foldl (λcs (p:Value×Nat)=>cs.setIfInBounds (off+p.2) p.1) cells'=(v'.cells.toList.zipIdx.foldl (λcs (p:Value×Nat)=>cs.setIfInBounds (off+p.2) p.1) cells'):=by
    rw[<-Array.foldl_toList,Array.toList_zipIdx]
   obtain⟨cs',g1,g2⟩:=ih (cells:=dN cells off v.cells.toList) (cells':=v'.cells.zipIdx.foldl (λcs (p:Value×Nat)=>cs.setIfInBounds (off+p.2) p.1) cells') (by
    rw[hz,hf];exact aU.dN hc hv.cells off) h
   refine⟨cs', ?_,g2⟩;rw[Instr.fill,af i _ hi];have ae:((v'.cells.size !=size)||decide (off+v'.cells.size>cells'.size))=false:=by
    simp[h4];omega
   simp only[ne_eq,h4,not_true_eq_false,decide_false,Bool.false_or];rw[if_neg (by simp;omega)];exact g1
def Md(he:e.Ok){fs:Array Field}(hf:∀f∈fs.toList,∃n,e.size f.type=some n)(w:World):
 ∃places:Array (Nat×Nat),(fs.mapM (λ(f:Field)=>(do pure (f.offset,<-sizeOf f.type):Sem (Nat×Nat)))).run e.P w=.ok places w/\∀i x,ke e fs i=some x->places[i]? =some x:=by
 have key:∀(l:List Field),(∀f∈l,∃n,e.size f.type=some n)->∃ps:List (Nat×Nat),(l.mapM (λ(f:Field)=>(do pure (f.offset,<-sizeOf f.type):Sem (Nat×Nat)))).run e.P w=.ok ps w/\
  ∀(i:Nat) (f:Field) (s:Nat),l[i]? =some f->e.size f.type=some s->ps[i]? =some (f.offset,s):=by
  intro l
  induction l with
  |nil=>intro _;exact⟨[],rfl,λi f s h=>by simp at h⟩
  |cons f l ih=>
   intro h;obtain⟨n,hn⟩:=h f aw;obtain⟨ps,h1,h2⟩:=ih λg hg=>h g (by simp[hg]);refine⟨(f.offset,n)::ps,by simp only[List.mapM_cons,Sem.run_bind,he.iw hn,Result.andThen_ok,Sem.run_pure,h1],λi g s hi hs=> ?_⟩;cases i with
   |zero=>simp at hi;subst hi;rw[hn]at hs;cases hs;rfl
   |succ i=>simpa using h2 i g s (by simpa using hi) hs
 obtain⟨ps,h1,h2⟩:=key fs.toList hf;refine⟨ps.toArray, ?_,λi x hx=> ?_⟩
 . rw[Array.mapM_eq_mapM_toList,Sem.run_map,h1];rfl
 . unfold ke at hx;cases hi:fs[i]? with
   |none=>simp[hi]at hx
   |some f=>
    simp only[hi]at hx;cases hs:e.size f.type with
    |none=>simp[hs]at hx
    |some s=>
     simp only[hs,Ey]at hx;subst hx;simpa using h2 i f s (by simpa using hi) hs
def Env.Ok.ru(he:e.Ok){t:TypeId}{z:Value}(h:e.zero t=some z)(ρ:aH):bQ ρ z.cells.toList z.cells.toList:=
 let⟨_,_,_,hp⟩:=he.zero t z h;(nz hp).cells
def Me(he:e.Ok){ρ:aH}(w:World){t:TypeId}{ps:List (Nat×Value)}{ps':Array (Nat×Value)}{v:Value}(hp:tq ρ ps ps'.toList)(h:pR e t ps=some v):
 ∃v',(Instr.build t ps').run e.P w=.ok v' w/\aQ ρ v v':=by
 unfold pR at h;cases hz:e.zero t with
 |none=>simp[hz]at h
 |some z=>
  cases hu:e.under t with
  |none=>simp[hz,hu]at h
  |some d=>
   cases d with
   |struct fields=>
    simp only[hz,hu]at h;cases hf:iJ (ke e fields) z.cells.toList ps with
    |none=>simp[hf]at h
    |some cs=>
     simp only[hf,Ey]at h;subst h;obtain⟨places,g1,g2⟩:=Md he (he.fields t fields hu) w;obtain⟨cs',g3,g4⟩:=zM (place':=(places[·]?)) g2 (he.ru hz ρ) hp hf;refine⟨.agg cs', ?_,aQ.wZ g4⟩;simp only[Instr.build,Sem.run_bind,he.nA hz,Result.andThen_ok,he.dj hu,g1,g3,Sem.run_pure]
   |array n elem=>
    simp only[hz,hu]at h;cases hs:e.size elem with
    |none=>simp[hs]at h
    |some s=>
     simp only[hs]at h;cases hf:iJ (λi=>some (i*s,s)) z.cells.toList ps with
     |none=>simp[hf]at h
     |some cs=>
      simp only[hf,Ey]at h;subst h;obtain⟨cs',g3,g4⟩:=zM (place':=λi=>some (i*s,s)) (λ_ _ h=>h) (he.ru hz ρ) hp hf;refine⟨.agg cs', ?_,aQ.wZ g4⟩;simp only[Instr.build,Sem.run_bind,he.nA hz,Result.andThen_ok,he.dj hu,he.iw hs,g3,Sem.run_pure]
   |_=>simp[hz,hu]at h
def D8(he:e.Ok){ρ:aH}(w:World){t:TypeId}{cs:List Value}{cs':Array Value}{off:Nat}{v:Value}(hc:bQ ρ cs cs'.toList)(h:nt e t cs off=some v):
 ∃v',(part t cs' off).run e.P w=.ok v' w/\aQ ρ v v':=by
 unfold nt at h;cases hd:e.under t with
 |none=>simp[hd]at h
 |some d=>
  simp only[hd]at h;cases ha:jH d with
  |true=>
   simp only[ha,cond_true]at h;cases hs:e.size t with
   |none=>simp[hs]at h
   |some n=>
    simp only[hs,Ey]at h;subst h;refine⟨.agg (cs'.extract off (off+n)), ?_,aQ.wZ ?_⟩
    . simp[part,he.w9 hd,ha,he.iw hs]
    . have:=(hc.drop off).take n;simpa[Array.toList_extract,List.extract_eq_take_drop]using this
  |false=>
   simp only[ha,cond_false]at h;obtain⟨v',g1,g2⟩:=hc.get off v h;refine⟨v', ?_,g2⟩;have:cs'[off]? =some v':=by simpa using g1
   simp[part,he.w9 hd,ha,this]
def u7{ρ:aH}{i:Nat}{pl:Pl}(h:ρ i=some pl)(h0:pl.off=0):aQ ρ (.pointer (some ⟨i,0,none⟩)) (.pointer (some ⟨pl.bh,0,none⟩)):=by
 have:=aQ.ptr (ρ:=ρ) (a:=⟨i,0,none⟩) h;rw[h0]at this;exact this
def xe{b id:Nat}{ρ:aH}{h h':ab}{w:World}{cs:List Value}(x:bA ρ h w)(s:Slot b ρ h id (.row cs true 0) h'){cs':Array Value}(hv:bQ ρ cs cs'.toList)(el:TypeId):
 ∃aa pl,aa id=some pl/\pl.bh=w.heap.size/\pl.off=0/\pl.n=cs.length/\pl.cap=cs.length/\pl.ak=0/\bA aa h' (World.add w (.cells cs' el))/\
  Fr b ρ h w aa h' (World.add w (.cells cs' el))/\∀j,j≠id->aa j=ρ j:=by
 let pl:Pl:={bh:=w.heap.size,off:=0,n:=cs.length,cap:=cs.length,ak:=0}
 have hl:cs.length=cs'.size:=by simpa using hv.length
 have hx:Ext ρ (ρ.put id pl):=aH.rm pl s.free;have hr:iv (ρ.put id pl) (World.add w (.cells cs' el)) pl (.row cs true 0):=by
  refine⟨cs',el,(0,0),w8 _ _,λ_=>rfl,rfl,rfl,Fj _, ?_,λ_=>rfl, ?_,λ_=>trivial⟩
  . show 0+cs.length<=cs'.size;omega
  . show bQ _ cs ((cs'.toList.drop 0).take cs.length);rw[hv.length,afp,List.take_length];exact hv.mono hx
 obtain⟨g1,g2⟩:=zK x s (o:=.cells cs' el) rfl rfl hr rfl;exact⟨_,pl,aH.kM _ _ _,rfl,rfl,rfl,rfl,rfl,g1,g2,λ_ h=>aH.jL _ _ h⟩
def Mf{b id:Nat}{ρ:aH}{h h':ab}{w:World}{cs:List Value}{s:Nat}(x:bA ρ h w)(sl:Slot b ρ h id (.row cs true s) h'){cs' rest:Array Value}(hv:bQ ρ cs cs'.toList)(el:TypeId)(hs:0<s):
 ∃aa pl,aa id=some pl/\pl.bh=w.heap.size/\pl.off=0/\pl.n=cs.length/\pl.cap=cs.length+rest.size/\pl.ak=s/\bA aa h' (World.add w (.cells (cs'++rest) el))/\
  Fr b ρ h w aa h' (World.add w (.cells (cs'++rest) el)):=by
 let pl:Pl:={bh:=w.heap.size,off:=0,n:=cs.length,cap:=cs.length+rest.size,ak:=s}
 have hl:cs.length=cs'.size:=by simpa using hv.length
 have hx:Ext ρ (ρ.put id pl):=aH.rm pl sl.free;have hr:iv (ρ.put id pl) (World.add w (.cells (cs'++rest) el)) pl (.row cs true s):=by
  refine⟨cs'++rest,el,(0,0),w8 _ _,λ_=>rfl,rfl,rfl, ?_, ?_,λh=>absurd h (Nat.ne_of_gt hs), ?_,λ_=>trivial⟩
  . show cs.length<=cs.length+rest.size;omega
  . show 0+(cs.length+rest.size)<=(cs'++rest).size;simp;omega
  . show bQ _ cs (((cs'++rest).toList.drop 0).take cs.length);rw[afp,Array.toList_append,hl,<-WZ,List.take_left];exact hv.mono hx
 obtain⟨g1,g2⟩:=zK x sl (o:=.cells (cs'++rest) el) rfl rfl hr rfl;exact⟨_,pl,aH.kM _ _ _,rfl,rfl,rfl,rfl,rfl,g1,g2⟩
def xg{b id:Nat}{ρ:aH}{h h':ab}{w:World}{ao:bR}(x:bA ρ h w)(s:Slot b ρ h id ao h')(o:Obj)(hu:Obj.kN o=true)(hw:ao.wr=true)
 (hr:∀(aa:aH) (w':World) (pl:Pl),Ext ρ aa->pl.off=0->w'.heap[pl.bh]? =some o->iv aa w' pl ao):
 ∃aa pl,aa id=some pl/\pl.bh=w.heap.size/\pl.off=0/\bA aa h' (World.add w o)/\Fr b ρ h w aa h' (World.add w o)/\∀j,j≠id->aa j=ρ j:=by
 let pl:Pl:={bh:=w.heap.size,off:=0,n:=0,cap:=0,ak:=0}
 obtain⟨g1,g2⟩:=zK (pl:=pl) x s hu rfl (hr _ _ pl (aH.rm pl s.free) rfl (w8 _ _)) hw;exact⟨_,pl,aH.kM _ _ _,rfl,rfl,g1,g2,λ_ h=>aH.jL _ _ h⟩
def zN{ρ:aH}{zs ad:List Value}(hz:bQ ρ zs ad)(n:Nat)(h0:0<zs.length):bQ ρ (dY zs n) (((Array.range n).map (ad.toArray[·%ad.toArray.size]!)).toList):=by
 refine aU.ri (by simp[dY]) λi a b ha hb=> ?_;have hi:i<n:=by
  rcases Nat.lt_or_ge i n with h|h
  . exact h
  . rw[dY,List.getElem?_eq_none (by simpa using h)]at ha;cases ha
 have hl:=hz.length;have hm:i%zs.length<zs.length:=Nat.mod_lt _ h0;simp only[dY,afq,afr hi,afs,Ey]at ha;rw[aft hm,Option.getD_some]at ha;subst ha;simp only[Array.toList_map,Array.toList_range,afq,afr hi,afs,Ey]at hb;obtain⟨u,g1,g2⟩:=hz.get (i%zs.length) _ (aft hm);have:ad.toArray[i%ad.toArray.size]! =u:=by
  rw[afo,<-hl];simp only[getElem!_def];rw[List.getElem?_toArray,g1]
 rw[<-hb,this];exact g2
end Go.aD
end

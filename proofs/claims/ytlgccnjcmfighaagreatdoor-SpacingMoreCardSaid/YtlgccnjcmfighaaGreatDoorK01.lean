/- Parts of a proof. -/
import GoSem.Step
import Derived.KernelRfl
import Derived.Laws.Sem
import Derived.Laws.Cells
import Derived.Laws.CopyRow
open Nat renaming beq->qG,blt->yy,le_refl->E2,rec->FQ,ble->KE,div->RC,lt_of_lt_of_le->RK,le_trans->YN,ne_of_lt->Zf,le_of_ble_eq_true->ab8,eq_of_beq_eq_true->adr,lt_succ_self->afy
open Option.some renaming injEq->yB
open Ne renaming symm->RW
open Array renaming length_toList->Vs,getElem?_eq_some_iff->Xy,getElem?_eq_getElem->afw,getElem?_push->afx,getElem?_setIfInBounds->afz
open List renaming getElem?_take->YT,getElem?_drop->adv,all_eq_true->afv,length_append->afA,length_take->afB,length_drop->afC,size_toArray->afD,drop_zero->afE,getElem?_map->afF,getElem?_range->afG,getElem?_eq_getElem->afI
open Bool renaming and_eq_true->afj
open Option renaming map_some->afH
set_option linter.all false
set_option maxRecDepth 100000
noncomputable section
namespace Go
def aa{P:Prop}(h:P:=by omega):P:=h
def aC{P:Prop}(h:P:=by decide):P:=h
def aw{P:Prop}(h:P:=by simp):P:=h
def ah{P:Prop}(h:P:=by simp(disch:=omega)[go_sem]):P:=h
def aL{P Q:Prop}(q:Q)(h:Q->P:=by intro q;simp(disch:=omega)[go_sem];exact q):P:=h q
def cq{P Q:Prop}(p:P)(h:P->Q:=by intro p;simp(disch:=omega)[go_sem]at p;exact p):Q:=h p
def dI{P P' Q Q':Prop}(q:P'->Q')(e:P->P':=by intro p;simp(disch:=omega)[go_sem]at p;exact p)(h:Q'->Q:=by intro q;simp(disch:=omega)[go_sem];exact q)(p:P):Q:=h (q (e p))
def aT{P P' Q:Prop}(q:P'->Q)(e:P->P':=by intro p;simp(disch:=omega)[go_sem]at p;exact p)(p:P):Q:=q (e p)
def ak{P:Prop}(h:P:=by kernel_rfl):P:=h
end Go
namespace Go.aD
inductive D4 where
 |a|b|c|d
inductive Od(α:Type)where
 |nil
 |node (v:Option α) (a b c d:Od α)
def digit(j:Nat):D4:=
 FQ (motive:=λ_=>D4) .a (λk _=>FQ (motive:=λ_=>D4) .b (λk _=>FQ (motive:=λ_=>D4) .c (λ_ _=>.d) k) k) (Nat.mod j 4)
def sX(n:Nat):Nat->List D4:=
 FQ (motive:=λ_=>Nat->List D4) (λ_=>[]) (λ_ ih i=>FQ (motive:=λ_=>List D4) [] (λj _=>digit j::ih (RC j 4)) i) n
def path(i:Nat):List D4:=FQ (motive:=λ_=>List D4) [] (λk _=>digit k::sX k (RC k 4)) i
def sY{α:Type}(p:List D4):Od α->Option α:=
 List.rec (motive:=λ_=>Od α->Option α) (λt=>Od.rec (motive:=λ_=>Option α) none (λv _ _ _ _ _ _ _ _=>v) t)
  (λx _ ih t=>Od.rec (motive:=λ_=>Option α) none (λ_ a b c d _ _ _ _=>D4.rec (motive:=λ_=>Option α) (ih a) (ih b) (ih c) (ih d) x) t) p
def wV{α:Type}(p:List D4)(x:Option α):Od α->Od α:=
 List.rec (motive:=λ_=>Od α->Od α) (λt=>Od.rec (motive:=λ_=>Od α) (.node x .nil .nil .nil .nil) (λ_ a b c d _ _ _ _=>.node x a b c d) t)
  (λy _ ih t=>Od.rec (motive:=λ_=>Od α)
   (D4.rec (motive:=λ_=>Od α) (.node none (ih .nil) .nil .nil .nil) (.node none .nil (ih .nil) .nil .nil) (.node none .nil .nil (ih .nil) .nil) (.node none .nil .nil .nil (ih .nil)) y)
   (λv a b c d _ _ _ _=>D4.rec (motive:=λ_=>Od α) (.node v (ih a) b c d) (.node v a (ih b) c d) (.node v a b (ih c) d) (.node v a b c (ih d)) y) t) p
structure bq(α:Type)where
 a0:α
 a1:α
 a2:α
 a3:α
 a4:α
 a5:α
 a6:α
 a7:α
 a8:α
 a9:α
 ee:α
 dT:α
 eK:α
 eL:α
 eM:α
 eN:α
structure Bx(α:Type)where
 run:α
def bq.all{α:Type}(x:α):bq α:=⟨x,x,x,x,x,x,x,x,x,x,x,x,x,x,x,x⟩
def b8{α:Type}(d:Nat):Bx (bq α->α):=
 match d with
 |0=>⟨λv=>v.a0⟩
 |1=>⟨λv=>v.a1⟩
 |2=>⟨λv=>v.a2⟩
 |3=>⟨λv=>v.a3⟩
 |4=>⟨λv=>v.a4⟩
 |5=>⟨λv=>v.a5⟩
 |6=>⟨λv=>v.a6⟩
 |7=>⟨λv=>v.a7⟩
 |8=>⟨λv=>v.a8⟩
 |9=>⟨λv=>v.a9⟩
 |10=>⟨λv=>v.ee⟩
 |11=>⟨λv=>v.dT⟩
 |12=>⟨λv=>v.eK⟩
 |13=>⟨λv=>v.eL⟩
 |14=>⟨λv=>v.eM⟩
 |_=>⟨λv=>v.eN⟩
def eX{α:Type}(d:Nat):Bx (α->bq α->bq α):=
 match d with
 |0=>⟨λx v=>bq.rec (motive:=λ_=>bq α) (λ_ a1 a2 a3 a4 a5 a6 a7 a8 a9 ee dT eK eL eM eN=>bq.mk x a1 a2 a3 a4 a5 a6 a7 a8 a9 ee dT eK eL eM eN) v⟩
 |1=>⟨λx v=>bq.rec (motive:=λ_=>bq α) (λa0 _ a2 a3 a4 a5 a6 a7 a8 a9 ee dT eK eL eM eN=>bq.mk a0 x a2 a3 a4 a5 a6 a7 a8 a9 ee dT eK eL eM eN) v⟩
 |2=>⟨λx v=>bq.rec (motive:=λ_=>bq α) (λa0 a1 _ a3 a4 a5 a6 a7 a8 a9 ee dT eK eL eM eN=>bq.mk a0 a1 x a3 a4 a5 a6 a7 a8 a9 ee dT eK eL eM eN) v⟩
 |3=>⟨λx v=>bq.rec (motive:=λ_=>bq α) (λa0 a1 a2 _ a4 a5 a6 a7 a8 a9 ee dT eK eL eM eN=>bq.mk a0 a1 a2 x a4 a5 a6 a7 a8 a9 ee dT eK eL eM eN) v⟩
 |4=>⟨λx v=>bq.rec (motive:=λ_=>bq α) (λa0 a1 a2 a3 _ a5 a6 a7 a8 a9 ee dT eK eL eM eN=>bq.mk a0 a1 a2 a3 x a5 a6 a7 a8 a9 ee dT eK eL eM eN) v⟩
 |5=>⟨λx v=>bq.rec (motive:=λ_=>bq α) (λa0 a1 a2 a3 a4 _ a6 a7 a8 a9 ee dT eK eL eM eN=>bq.mk a0 a1 a2 a3 a4 x a6 a7 a8 a9 ee dT eK eL eM eN) v⟩
 |6=>⟨λx v=>bq.rec (motive:=λ_=>bq α) (λa0 a1 a2 a3 a4 a5 _ a7 a8 a9 ee dT eK eL eM eN=>bq.mk a0 a1 a2 a3 a4 a5 x a7 a8 a9 ee dT eK eL eM eN) v⟩
 |7=>⟨λx v=>bq.rec (motive:=λ_=>bq α) (λa0 a1 a2 a3 a4 a5 a6 _ a8 a9 ee dT eK eL eM eN=>bq.mk a0 a1 a2 a3 a4 a5 a6 x a8 a9 ee dT eK eL eM eN) v⟩
 |8=>⟨λx v=>bq.rec (motive:=λ_=>bq α) (λa0 a1 a2 a3 a4 a5 a6 a7 _ a9 ee dT eK eL eM eN=>bq.mk a0 a1 a2 a3 a4 a5 a6 a7 x a9 ee dT eK eL eM eN) v⟩
 |9=>⟨λx v=>bq.rec (motive:=λ_=>bq α) (λa0 a1 a2 a3 a4 a5 a6 a7 a8 _ ee dT eK eL eM eN=>bq.mk a0 a1 a2 a3 a4 a5 a6 a7 a8 x ee dT eK eL eM eN) v⟩
 |10=>⟨λx v=>bq.rec (motive:=λ_=>bq α) (λa0 a1 a2 a3 a4 a5 a6 a7 a8 a9 _ dT eK eL eM eN=>bq.mk a0 a1 a2 a3 a4 a5 a6 a7 a8 a9 x dT eK eL eM eN) v⟩
 |11=>⟨λx v=>bq.rec (motive:=λ_=>bq α) (λa0 a1 a2 a3 a4 a5 a6 a7 a8 a9 ee _ eK eL eM eN=>bq.mk a0 a1 a2 a3 a4 a5 a6 a7 a8 a9 ee x eK eL eM eN) v⟩
 |12=>⟨λx v=>bq.rec (motive:=λ_=>bq α) (λa0 a1 a2 a3 a4 a5 a6 a7 a8 a9 ee dT _ eL eM eN=>bq.mk a0 a1 a2 a3 a4 a5 a6 a7 a8 a9 ee dT x eL eM eN) v⟩
 |13=>⟨λx v=>bq.rec (motive:=λ_=>bq α) (λa0 a1 a2 a3 a4 a5 a6 a7 a8 a9 ee dT eK _ eM eN=>bq.mk a0 a1 a2 a3 a4 a5 a6 a7 a8 a9 ee dT eK x eM eN) v⟩
 |14=>⟨λx v=>bq.rec (motive:=λ_=>bq α) (λa0 a1 a2 a3 a4 a5 a6 a7 a8 a9 ee dT eK eL _ eN=>bq.mk a0 a1 a2 a3 a4 a5 a6 a7 a8 a9 ee dT eK eL x eN) v⟩
 |_=>⟨λx v=>bq.rec (motive:=λ_=>bq α) (λa0 a1 a2 a3 a4 a5 a6 a7 a8 a9 ee dT eK eL eM _=>bq.mk a0 a1 a2 a3 a4 a5 a6 a7 a8 a9 ee dT eK eL eM x) v⟩
structure Tr(α:Type)where
 small:bq (bq (Option α))
 qY:bq (bq (bq (bq (Option α))))
 over:Od α
def v1(α:Type):bq (Option α):=bq.all none
def v2(α:Type):bq (bq (Option α)):=bq.all (v1 α)
def v3(α:Type):bq (bq (bq (Option α))):=bq.all (v2 α)
def v4(α:Type):bq (bq (bq (bq (Option α)))):=bq.all (v3 α)
def Tr.nil{α:Type}:Tr α:=⟨v2 α,v4 α,.nil⟩
def lo(i:Nat):Nat:=Nat.mod i 16
def hi(i:Nat):Nat:=RC i 16
def dU(i:Nat):Nat:=RC i 256
def oA(i:Nat):Nat:=RC i 4096
def oB{α:Type}(i:Nat):Bx (Tr α->Option α):=
 match yy i 256,yy i 65536 with
 |true,_=>⟨λt=>(b8 (lo i)).run ((b8 (hi i)).run t.small)⟩
 |false,true=>⟨λt=>(b8 (lo i)).run ((b8 (lo (hi i))).run ((b8 (lo (dU i))).run ((b8 (oA i)).run t.qY)))⟩
 |false,false=>⟨λt=>sY (path i) t.over⟩
def oC{α:Type}(i:Nat):Bx (Option α->Tr α->Tr α):=
 match yy i 256,yy i 65536 with
 |true,_=>⟨λx t=>Tr.rec (motive:=λ_=>Tr α) (λs m o=>Tr.mk ((eX (hi i)).run ((eX (lo i)).run x ((b8 (hi i)).run s)) s) m o) t⟩
 |false,true=>⟨λx t=>Tr.rec (motive:=λ_=>Tr α) (λs m o=>Tr.mk s ((eX (oA i)).run ((eX (lo (dU i))).run ((eX (lo (hi i))).run ((eX (lo i)).run x ((b8 (lo (hi i))).run ((b8 (lo (dU i))).run ((b8 (oA i)).run m))))
  ((b8 (lo (dU i))).run ((b8 (oA i)).run m))) ((b8 (oA i)).run m)) m) o) t⟩
 |false,false=>⟨λx t=>Tr.rec (motive:=λ_=>Tr α) (λs m o=>Tr.mk s m (wV (path i) x o)) t⟩
def Tr.get{α:Type}(t:Tr α)(i:Nat):Option α:=
 FQ (motive:=λ_=>Option α) ((oB 0).run t) (λk _=>(oB (Nat.succ k)).run t) i
def Tr.set{α:Type}(t:Tr α)(i:Nat)(x:Option α):Tr α:=
 FQ (motive:=λ_=>Tr α) ((oC 0).run x t) (λk _=>(oC (Nat.succ k)).run x t) i
def Tr.ofList{α:Type}:List α->Nat->Tr α->Tr α
 |[],_,t=>t
 |a::l,i,t=>Tr.ofList l (i+1) (t.set i (some a))
inductive bP where
 |row (cs:List Value) (wr:Bool) (aj:Nat)
 |map (es:List MapEntry) (clock:Nat)
 |cF (m:Option Nat) (since:Nat) (seen:List Nat) (last:Nat)
 |eY (s:ByteArray) (pos:Nat)
 |loop (st:LoopState) (aA:Option Code) (t:Tr Value) (n:Nat) (params:List Tmp) (bX body:Code) (fU:Nat)
 |fU (empty:Bool)
structure ab where
 m:Tr bP
 next:Nat
def ab.get(h:ab)(i:Nat):Option bP:=h.m.get i
def ab.set(h:ab)(i:Nat)(o:Option bP):ab:={h with m:=h.m.set i o}
def ab.new(h:ab)(o:bP):ab:={m:=h.m.set h.next (some o),next:=h.next+1}
structure Pl where
 bh:Nat
 off:Nat
 n:Nat
 cap:Nat
 aj:Nat
 LC:Obj->Prop:=λ_=>True
structure Env where
 P:Program
 under:Nat->Option TypeDesc
 size:Nat->Option Nat
 bytes:Nat->Option Nat
 zero:Nat->Option Value
 fn:Nat->Option Func
 idle:Nat->Bool
 oD:Nat
 ky:Nat->List Value->ab->Option (Value×ab)
 pins:List (Nat×Pl):=[]
def b9{α:Type}(P:Program):Sem α->Option α
 |.pure a=>some a
 |.program k=>b9 P (k P)
 |_=>none
def ew:Nat->Value->Bool
 |0,_=>false
 |n+1,v=>match v with
  |.bool _|.int _ _|.string _|.pointer none|.slice none _ _|.map none|.nilFunc|.nilIface=>true
  |.iface _ v=>ew n v
  |.agg cs=>cs.toList.all (ew n)
  |.tuple cs=>cs.toList.all (ew n)
  |_=>false
def plain(v:Value):Bool:=ew 6 v
def eV(P:Program)(s:Sem Value):Option Value:=
 match b9 P s with
 |none=>none
 |some v=>bif plain v then some v else none
def aF(e:Env)(t:Tr Value):Operand->Option Value
 |.tmp i=>t.get i
 |.const v=>bif plain v then some v else none
 |.global g=>bif yy g e.oD then some (.pointer (some ⟨g,0,none⟩))else none
 |.func f=>some (.func (.func f) #[] #[])
def db(e:Env)(t:Tr Value):List Operand->Option (List Value)
 |[]=>some []
 |o::r=>match aF e t o with
  |none=>none
  |some v=>match db e t r with
   |none=>none
   |some vs=>some (v::vs)
def jZ:TypeDesc->Bool
 |.struct _|.array _ _=>true
 |_=>false
def gx(h:ab)(a:Addr)(n:Nat):Option (List Value):=
 match h.get a.block with
 |some (.row cs _ _)=>let r:=(cs.drop a.off).take n
  bif qG r.length n then some r else none
 |_=>none
def iN(e:Env)(h:ab)(t:TypeId)(a:Addr):Option Value:=
 match e.under t with
 |none=>none
 |some d=>bif jZ d then
  match e.size t with
  |none=>none
  |some n=>match gx h a n with
   |none=>none
   |some cs=>some (.agg cs.toArray)
  else match gx h a 1 with
   |some [v]=>some v
   |_=>none
def dF:Value->Bool
 |.agg _|.tuple _=>false
 |_=>true
def dM(cs:List Value)(off:Nat)(vs:List Value):List Value:=cs.take off++vs++cs.drop (off+vs.length)
def kz(h:ab)(a:Addr)(vs:List Value):Option ab:=
 match vs with
 |[]=>some h
 |_=>match h.get a.block with
  |some (.row cs true aj)=>bif KE (a.off+vs.length) cs.length&&vs.all dF then some (h.set a.block (some (.row (dM cs a.off vs) true aj)))else none
  |_=>none
def oE(e:Env)(h:ab)(t:TypeId)(a:Addr)(v:Value):Option ab:=
 match e.size t with
 |none=>none
 |some n=>bif qG v.cells.toList.length n then kz h a v.cells.toList else none
def jc(place:Nat->Option (Nat×Nat)):List Value->List (Nat×Value)->Option (List Value)
 |cells,[]=>some cells
 |cells,(i,v)::rest=>match place i with
  |none=>none
  |some (off,size)=>let vs:=v.cells.toList
   bif qG vs.length size&&KE (off+size) cells.length then jc place (dM cells off vs) rest else none
def fG(e:Env)(t:Tr Value):List (Nat×Operand)->Option (List (Nat×Value))
 |[]=>some []
 |(i,o)::r=>match aF e t o with
  |none=>none
  |some v=>match fG e t r with
   |none=>none
   |some vs=>some ((i,v)::vs)
def ey(zs:List Value)(n:Nat):List Value:=(List.range n).map λi=>zs[i%zs.length]?.getD default
def kA(e:Env)(fields:Array Field)(i:Nat):Option (Nat×Nat):=
 match fields[i]? with
 |none=>none
 |some f=>match e.size f.type with
  |none=>none
  |some s=>some (f.offset,s)
def pY(e:Env)(t:TypeId)(parts:List (Nat×Value)):Option Value:=
 match e.zero t,e.under t with
 |some z,some (.struct fields)=>match jc (kA e fields) z.cells.toList parts with
  |none=>none
  |some cs=>some (.agg cs.toArray)
 |some z,some (.array _ elem)=>match e.size elem with
  |none=>none
  |some s=>match jc (λi=>some (i*s,s)) z.cells.toList parts with
   |none=>none
   |some cs=>some (.agg cs.toArray)
 |_,_=>none
def nE(e:Env)(t:TypeId)(cs:List Value)(off:Nat):Option Value:=
 match e.under t with
 |none=>none
 |some d=>bif jZ d then match e.size t with
  |none=>none
  |some n=>some (.agg ((cs.drop off).take n).toArray)
  else cs[off]?
def oF:Value->Option Int
 |.int .i64 n=>some n
 |_=>none
def cT(e:Env)(t:Tr Value):Op->Option (bP×(Nat->Value))
 |.alloc elem=>match e.zero elem with
  |none=>none
  |some z=>some (.row z.cells.toList true 0,λi=>.pointer (some ⟨i,0,none⟩))
 |.box _ x=>match aF e t x with
  |none=>none
  |some v=>some (.row v.cells.toList true 0,λi=>.pointer (some ⟨i,0,none⟩))
 |.buildSlice st len parts=>match e.under st,fG e t parts.toList with
  |some (.slice elem),some ps=>match e.size elem,e.zero elem with
   |some s,some z=>bif KE (len*s) 16777216&&qG z.cells.toList.length s&&yy 0 s then
    match jc (λi=>some (i*s,s)) (ey z.cells.toList (len*s)) ps with
    |none=>none
    |some cs=>some (.row cs true 0,λi=>.slice (some ⟨i,0,none⟩) len len)
    else none
   |_,_=>none
  |_,_=>none
 |.makeMap _ none=>some (.map [] 0,λi=>.map (some i))
 |.makeSlice st l c=>match e.under st,(aF e t l).bind oF,(aF e t c).bind oF with
  |some (.slice elem),some l,some c=>match e.size elem,e.zero elem,e.bytes elem with
   |some s,some z,some b=>bif decide (0<=l)&&decide (l<=c)&&decide (c<=1099511627776)&&KE (b*c.toNat) 1099511627776&&qG z.cells.toList.length s&&yy 0 s then
    some (.row (ey z.cells.toList (c.toNat*s)) true 0,λi=>.slice (some ⟨i,0,none⟩) l.toNat c.toNat)
    else none
   |_,_,_=>none
  |_,_,_=>none
 |_=>none
def kB(P:Program)(kt:TypeId)(k x:Value):Option Bool:=
 match k with
 |.int j a=>match x with|.int j' b=>bif decide (j=j')then some (a==b)else none|_=>none
 |.string a=>match x with|.string b=>some (a==b)|_=>none
 |.bool a=>match x with|.bool b=>some (a==b)|_=>none
 |.agg _=>b9 P (Op.equal kt k x)
 |_=>none
def gF(P:Program)(kt:TypeId)(k:Value):List MapEntry->Nat->Option (Option (Nat×Value))
 |[],_=>some none
 |e::es,i=>match kB P kt k e.key with
  |none=>none
  |some true=>some (some (i,e.val))
  |some false=>gF P kt k es (i+1)
def nF(d:TypeDesc)(k:Value):Bool:=
 match d,k with
 |.int _,.int _ _|.string,.string _|.bool,.bool _|.struct _,.agg _|.array _ _,.agg _=>true
 |_,_=>false
def pZ(e:Env)(h:ab)(t:TypeId)(m k:Value)(ok:Bool):Option Value:=
 match e.under t with
 |some (.map kt et)=>match(match m with
  |.map none=>some []
  |.map (some r)=>(match h.get r with|some (.map es _)=>some es|_=>none)
  |_=>none)with
  |none=>none
  |some es=>match e.under kt with
   |none=>none
   |some kd=>bif plain k&&nF kd k then match b9 e.P (Instr.checkKey es.isEmpty 10000 kt k)with
    |none=>none
    |some _=>match gF e.P kt k es 0 with
     |none=>none
     |some (some (_,v))=>some (bif ok then .tuple #[v,.bool true]else v)
     |some none=>match e.zero et with
      |none=>none
      |some z=>bif plain z then some (bif ok then .tuple #[z,.bool false]else z)else none
    else none
 |_=>none
def qZ(e:Env)(h:ab)(t:TypeId)(m k v:Value):Option ab:=
 match e.under t,m with
 |some (.map kt _),.map (some r)=>match h.get r with
  |some (.map es clock)=>match e.under kt with
   |none=>none
   |some kd=>bif plain k&&nF kd k then match b9 e.P (Instr.checkKey false 10000 kt k)with
    |none=>none
    |some _=>match gF e.P kt k es 0 with
     |none=>none
     |some (some (i,_))=>bif Instr.sameBits 10000 (((es[i]?).map (·.key)).getD k) k then
      some (h.set r (some (.map (es.modify i λx=>{x with key:=k,val:=v}) clock)))
      else none
     |some none=>some (h.set r (some (.map (es++[{key:=k,val:=v,born:=clock}]) (clock+1))))
    else none
  |_=>none
 |_,_=>none
def intOf:Value->Option Int
 |.int _ n=>some n
 |_=>none
def eB(v:Option Value)(av aG:Nat):Option Nat:=
 match v with
 |none=>some aG
 |some v=>match intOf v with
  |none=>none
  |some i=>bif decide (0<=i)&&decide (i<=(av:Int))then some i.toNat else none
def q9:Option Value->Bool
 |none=>true
 |some v=>plain v
def mK(h:ab)(a:Addr)(s:Nat):Bool:=
 match h.get a.block with
 |some (.row _ _ aj)=>qG aj 0||qG aj s
 |_=>false
def jB(e:Env)(hp:ab)(t:TypeId)(x:Value)(lo hi mx:Option Value):Option Value:=
 match e.under t,x with
 |some (.slice elem),.slice base len cap=>match e.size elem,eB mx cap cap with
  |some s,some m=>match eB hi m len with
   |none=>none
   |some h=>bif KE h m&&(mx.isNone||hi.isSome)then match eB lo h 0 with
    |none=>none
    |some l=>match base with
     |none=>some (.slice none (h-l) (m-l))
     |some a=>bif mK hp a s then some (.slice (some (a.add (l*s))) (h-l) (m-l))else none
    else none
  |_,_=>none
 |some (.array n elem),.pointer (some a)=>match e.size elem,mx with
  |some s,none=>match eB hi n n with
   |none=>none
   |some h=>match eB lo h 0 with
    |none=>none
    |some l=>some (.slice (some (if n=l then a else a.add (l*s))) (h-l) (n-l))
  |_,_=>none
 |some .string,.string s=>bif q9 lo&&(q9 hi&&q9 mx)then eV e.P (Instr.sliceAt t (.string s) lo hi mx)else none
 |_,_=>none
def p7:Value->Option Nat
 |.slice _ n _=>some n
 |.string s=>some s.size
 |_=>none
def iO(h:ab)(s n:Nat):Value->Option (List Value)
 |.slice (some a) _ _=>gx h a (n*s)
 |.slice none _ _=>some []
 |.string b=>some (((b.extract 0 n).data.toList).map λx=>.int .u8 x.toNat)
 |_=>none
def oG:TypeDesc->Bool
 |.int _=>true
 |_=>false
def sZ(made:Bool)(b:Nat)(x:Value):Option Nat:=
 bif made then match oF x with
  |some l=>bif decide (0<=l)&&decide (l<=1099511627776)&&KE (b*l.toNat) 1099511627776 then some l.toNat else none
  |none=>none
 else p7 x
def s8(h:ab)(made:Bool)(zs:List Value)(n sz:Nat)(x:Value):Option (List Value):=
 bif made then some (ey zs (n*sz))else iO h sz n x
def p8(h:ab)(base:Option Addr)(len cap sz b n:Nat)(new:List Value):Option (Value×ab):=
 bif KE (len+n) cap then match base with
  |none=>bif qG n 0 then some (.slice base (len+n) cap,h)else none
  |some a=>match kz h (a.add (len*sz)) new with
   |none=>none
   |some h'=>some (.slice base (len+n) cap,h')
 else bif KE ((len+n)*(b+1)) 1073741824 then match base with
  |none=>bif qG len 0&&qG cap 0 then some (.slice (some ⟨h.next,0,none⟩) (len+n) (len+n),h.new (.row new true sz))else none
  |some a=>match gx h a (len*sz),h.get a.block with
   |some bl,some (.row cs wr aj)=>
    bif qG aj 0||(qG aj sz&&yy (a.off+cap*sz) cs.length)then some (.slice (some ⟨h.next,0,none⟩) (len+n) (len+n),h.new (.row (bl++new) true sz))
    else bif wr&&qG aj sz&&new.all dF then some (.slice (some ⟨h.next,0,none⟩) (len+n) (len+n),(h.set a.block none).new (.row (bl++new) true sz))
    else none
   |_,_=>none
 else none
def nG(e:Env)(h:ab)(af:Array TypeId)(s x:Value):Option (Value×ab):=
 match af[0]?,af[1]?,s with
 |some st,some xt,.slice base len cap=>match e.under st,e.under xt with
  |some (.slice elem),some xd=>match e.size elem,e.zero elem,e.bytes elem with
   |some sz,some z,some b=>match sZ (oG xd) b x with
    |none=>none
    |some n=>match s8 h (oG xd) z.cells.toList n sz x with
     |none=>none
     |some new=>bif yy 0 sz&&qG z.cells.toList.length sz&&qG new.length (n*sz)then p8 h base len cap sz b n new else none
   |_,_,_=>none
  |_,_=>none
 |_,_,_=>none
def wW(e:Env)(h:ab)(af:Array TypeId)(d x:Value):Option (Value×ab):=
 match af[0]?,d with
 |some dt,.slice base aH _=>match e.under dt,p7 x with
  |some (.slice elem),some xl=>match e.size elem with
   |none=>none
   |some sz=>let n:=Nat.min xl aH
    match iO h sz n x with
    |none=>none
    |some cs=>bif qG cs.length (n*sz)then match base with
     |none=>some (.int .i64 n,h)
     |some a=>match kz h a cs with
      |none=>none
      |some h'=>some (.int .i64 n,h')
     else none
  |_,_=>none
 |_,_=>none
def uS(e:Env)(h:ab)(af:Array TypeId)(x:Value):Option (Value×ab):=
 match af[0]?,x with
 |some st,.slice base n _=>match e.under st with
  |some (.slice elem)=>match e.size elem,e.zero elem with
   |some sz,some z=>bif yy 0 sz&&qG z.cells.toList.length sz then match base with
    |none=>some (.tuple #[],h)
    |some a=>(kz h a (ey z.cells.toList (n*sz))).map λh'=>(.tuple #[],h')
    else none
   |_,_=>none
  |_=>none
 |_,_=>none
def fV(e:Env)(h:ab)(t:TypeId)(x:Value):Option Value:=
 match e.under t,x with
 |some .string,.string s=>some (.int .i64 s.size)
 |some (.array n _),_=>some (.int .i64 n)
 |some (.pointer arr),_=>match e.under arr with
  |some (.array n _)=>some (.int .i64 n)
  |_=>none
 |some (.slice _),.slice _ n _=>some (.int .i64 n)
 |some (.map _ _),.map none=>some (.int .i64 0)
 |some (.map _ _),.map (some r)=>match h.get r with
  |some (.map es _)=>some (.int .i64 es.length)
  |_=>none
 |_,_=>none
def rh(e:Env)(h:ab)(t:TypeId)(x:Value):Option Value:=
 match e.under t,x with
 |some (.slice _),.slice none _ n=>some (.int .i64 n)
 |some (.slice elem),.slice (some a) _ n=>match h.get a.block,e.size elem with
  |some (.row cs _ aj),some s=>bif qG aj 0||(qG aj s&&yy (a.off+n*s) cs.length)then some (.int .i64 n)else none
  |_,_=>none
 |_,_=>none
def fW(d:TypeDesc)(x:Value):Option Bool:=
 match d with
 |.pointer _=>match x with|.pointer a=>some a.isNone|_=>none
 |.slice _=>match x with|.slice a _ _=>some a.isNone|_=>none
 |.map _ _=>match x with|.map r=>some r.isNone|_=>none
 |.func _ _ _=>match x with|.nilFunc=>some true|.func _ _ _=>some false|_=>none
 |.interface _=>match x with|.nilIface=>some true|.iface _ _=>some false|_=>none
 |_=>none
def uT(d:TypeDesc)(x y:Value):Bool:=
 match fW d x,fW d y with
 |some true,some false=>true
 |some false,some true=>true
 |_,_=>false
def kY(op:BinOp)(k:IntKind)(a b:Int):Option Value:=
 match op with
 |.add=>some (.int k (k.wrap (a+b)))
 |.sub=>some (.int k (k.wrap (a-b)))
 |.mul=>some (.int k (k.wrap (a*b)))
 |.eql=>some (.bool (decide (a=b)))
 |.neq=>some (.bool (!decide (a=b)))
 |.lss=>some (.bool (decide (a<b)))
 |.leq=>some (.bool (decide (a<=b)))
 |.gtr=>some (.bool (decide (b<a)))
 |.geq=>some (.bool (decide (b<=a)))
 |_=>none
def cO(e:Env)(op:BinOp)(t:TypeId)(x y:Operand)(a b:Value):Option Value:=
 match(match a,b with
  |.int k n,.int k' m=>bif decide (k=k')then kY op k n m else none
  |_,_=>none)with
 |some v=>some v
 |none=>bif plain a&&plain b then eV e.P (do eqGuard op t x y a b;binOp op t a b)
  else match e.under t with
   |none=>none
   |some d=>bif uT d a b then match op with
    |.eql=>some (.bool false)
    |.neq=>some (.bool true)
    |_=>none
    else none
inductive AR where
 |val (v:Value) (h:ab)
 |skip (h:ab)
 |enter (f:FuncId) (args:List Value) (h:ab)
 |round (l:Nat) (args:List Value) (h:ab)
 |defer (f:FuncId) (args:List Value) (cap:List Value) (h:ab)
def nH(f:Value)(args:List Value):Option (Fn×List Value×List Value):=
 match f with
 |.func fn first cap=>some (fn,first.toList++args,cap.toList)
 |_=>none
def iP:Value->Option Addr
 |.pointer (some a)=>some a
 |_=>none
def p9(h:ab)(it:Value)(isString:Bool):Option (Value×ab):=
 match it with
 |.pointer (some ⟨r,0,none⟩)=>match h.get r,isString with
  |some (.eY s pos),true=>
   bif yy pos s.size then
    let d:=Utf8.decode s pos
    some (.tuple #[.bool true,.int .i64 pos,.int .i32 d.1],h.set r (some (.eY s (pos+d.2))))
   else some (.tuple #[.bool false],h)
  |some (.cF none _ _ _),false=>some (.tuple #[.bool false],h)
  |some (.cF (some m) since seen last),false=>match h.get m with
   |some (.map es clock)=>
    bif (!seen.isEmpty&& !es.isEmpty&&es.all λx=>KE last x.born)then none else
    let left:=es.filter λx=> !seen.contains x.born
    let bl:=left.filter λx=>decide (x.born<since)
    let new:=left.filter λx=>decide (x.born>=since)
    match bl,new with
    |[],[]=>some (.tuple #[.bool false],h)
    |[x],[]=>some (.tuple #[.bool true,x.key,x.val],h.set r (some (.cF (some m) since (seen++[x.born]) clock)))
    |_,_=>none
   |_=>none
  |_,_=>none
 |_=>none
def ri(h:ab)(it:Value):Option Value:=
 match it with
 |.pointer (some ⟨r,0,none⟩)=>match h.get r with
  |some (.cF (some m) _ seen ae)=>match seen.getLast?,h.get m with
   |some ai,some (.map es clock)=>bif qG clock ae then match es.find? λx=>x.born==ai with
    |some x=>some (.tuple #[x.key,x.val])
    |none=>none
    else none
   |_,_=>none
  |_=>none
 |_=>none
def lG(e:Env)(h:ab)(t:Tr Value)(c:Call):Option AR:=
 match db e t c.args.toList with
 |none=>none
 |some args=>match c.callee with
  |.value f=>match aF e t f with
   |none=>none
   |some fv=>match nH fv args with
    |some (.func g,az,cap)=>some (.enter g (az++cap) h)
    |some (.yield l,az,_)=>some (.round l az h)
    |_=>none
  |.invoke _ _=>none
  |.builtin b=>match b,args with
   |.append,[s,x]=>(nG e h c.argTypes s x).map λr=>.val r.1 r.2
   |.copy,[d,x]=>(wW e h c.argTypes d x).map λr=>.val r.1 r.2
   |.clear,[x]=>(uS e h c.argTypes x).map λr=>.val r.1 r.2
   |.len,[x]=>match c.argTypes[0]? with
    |none=>none
    |some ty=>(fV e h ty x).map λv=>.val v h
   |.cap,[x]=>match c.argTypes[0]? with
    |none=>none
    |some ty=>(rh e h ty x).map λv=>.val v h
   |.min,_=>bif args.all plain then(eV e.P (Builtin.min_ #[] 0 args.toArray)).map λv=>.val v h else none
   |.max,_=>bif args.all plain then(eV e.P (Builtin.max_ #[] 0 args.toArray)).map λv=>.val v h else none
   |_,_=>none
def rj:List Value->Option (List Int)
 |[]=>some []
 |.int .u8 n::r=>(rj r).map (n::·)
 |_=>none
def strOf(ns:List Int):ByteArray:=ns.foldl (λr n=>r.push (UInt8.ofNat n.toNat)) ByteArray.empty
def oH(e:Env)(h:ab)(s d:TypeId)(x:Value):Option Value:=
 match x,e.under s,e.under d with
 |.slice (some a) len _,some (.slice el),some .string=>match e.under el with
  |some (.int .u8)=>match gx h a len with
   |some cs=>(rj cs).map λns=>.string (strOf ns)
   |none=>none
  |_=>none
 |_,_,_=>none
def aS(e:Env)(h:ab)(t:Tr Value)(op:Op):Option AR:=
 match op with
 |.move x|.assign x=>(aF e t x).map λv=>.val v h
 |.pick c a b=>match aF e t c with
  |some (.bool true)=>(aF e t a).map λv=>.val v h
  |some (.bool false)=>(aF e t b).map λv=>.val v h
  |_=>none
 |.alloc _|.box _ _|.buildSlice _ _ _|.makeMap _ _|.makeSlice _ _ _=>match cT e t op with
  |none=>none
  |some (o,f)=>some (.val (f h.next) (h.new o))
 |.build ty parts=>match fG e t parts.toList with
  |none=>none
  |some ps=>(pY e ty ps).map λv=>.val v h
 |.load ty a=>match(aF e t a).bind iP with
  |none=>none
  |some a=>(iN e h ty a).map λv=>.val v h
 |.store ty a x=>match(aF e t a).bind iP,aF e t x with
  |some a,some v=>(oE e h ty a v).map .skip
  |_,_=>none
 |.nilCheck x=>match aF e t x with
  |some (.pointer (some a))=>some (.val (.pointer (some a)) h)
  |some (.func (.func f) a b)=>some (.val (.func (.func f) a b) h)
  |_=>none
 |.binOp op ty x y _=>match aF e t x,aF e t y with
  |some a,some b=>(cO e op ty x y a b).map λv=>.val v h
  |_,_=>none
 |.unOp op _ x=>match aF e t x with
  |some a=>bif plain a then(eV e.P (Op.unary op a)).map λv=>.val v h else none
  |_=>none
 |.convert s d x=>match aF e t x with
  |some a=>bif plain a then(eV e.P (convert s d a)).map λv=>.val v h else(oH e h s d a).map λv=>.val v h
  |_=>none
 |.makeInterface ty x=>match aF e t x,e.under ty with
  |some _,some (.interface _)=>none
  |some v,some _=>some (.val (.iface ty v) h)
  |_,_=>none
 |.makeFunc (.func f) first cap=>match db e t first.toList,db e t cap.toList with
  |some a,some b=>some (.val (.func (.func f) a.toArray b.toArray) h)
  |_,_=>none
 |.slice ty x lo hi mx=>match aF e t x,(match lo with|none=>some none|some o=>(aF e t o).map some),(match hi with|none=>some none|some o=>(aF e t o).map some),(match mx with|none=>some none|some o=>(aF e t o).map some)with
  |some x,some lo,some hi,some mx=>(jB e h ty x lo hi mx).map λv=>.val v h
  |_,_,_,_=>none
 |.fieldAddr s x f=>match(aF e t x).bind iP,e.under s with
  |some a,some (.struct fields)=>match kA e fields f with
   |some (off,size)=>bif yy 0 size then some (.val (.pointer (some (a.add off))) h)else none
   |none=>none
  |_,_=>none
 |.field ty x f=>match aF e t x,e.under ty with
  |some (.agg cs),some (.struct fields)=>match fields[f]? with
   |none=>none
   |some fd=>(nE e fd.type cs.toList fd.offset).map λv=>.val v h
  |_,_=>none
 |.indexAddr ty x ix=>match aF e t x,(aF e t ix).bind intOf,e.under ty with
  |some (.pointer (some a)),some i,some (.array len elem)=>match e.size elem with
   |none=>none
   |some s=>bif decide (0<=i)&&decide (i<(len:Int))then some (.val (.pointer (some (a.add (i.toNat*s)))) h)else none
  |some (.slice (some a) len _),some i,some (.slice elem)=>match e.size elem with
   |none=>none
   |some s=>bif decide (0<=i)&&decide (i<(len:Int))then some (.val (.pointer (some (a.add (i.toNat*s)))) h)else none
  |_,_,_=>none
 |.index ty x ix=>match aF e t x,aF e t ix,e.under ty with
  |some (.agg cs),some (.int _ i),some (.array len elem)=>match e.size elem with
   |none=>none
   |some s=>bif decide (0<=i)&&decide (i<(len:Int))then(nE e elem cs.toList (i.toNat*s)).map λv=>.val v h else none
  |some (.string s),some (.int k i),some .string=>(eV e.P (Instr.index ty (.string s) (.int k i))).map λv=>.val v h
  |_,_,_=>none
 |.lookup ty m k ok=>match aF e t m,aF e t k with
  |some m,some k=>(pZ e h ty m k ok).map λv=>.val v h
  |_,_=>none
 |.mapUpdate ty m k v|.insert ty m k v=>match aF e t m,aF e t k,aF e t v with
  |some m,some k,some v=>(qZ e h ty m k v).map .skip
  |_,_,_=>none
 |.range ty x=>match aF e t x,e.under ty with
  |some (.string s),some .string=>some (.val (.pointer (some ⟨h.next,0,none⟩)) (h.new (.eY s 0)))
  |some (.map none),some (.map _ _)=>some (.val (.pointer (some ⟨h.next,0,none⟩)) (h.new (.cF none 0 [] 0)))
  |some (.map (some m)),some (.map _ _)=>match h.get m with
   |some (.map _ clock)=>some (.val (.pointer (some ⟨h.next,0,none⟩)) (h.new (.cF (some m) clock [] clock)))
   |_=>none
  |_,_=>none
 |.next it s=>match aF e t it with
  |none=>none
  |some it=>(p9 h it s).map λr=>.val r.1 r.2
 |.entry it=>match aF e t it with
  |none=>none
  |some it=>(ri h it).map λv=>.val v h
 |.extract x i=>match aF e t x with
  |some (.tuple vs)=>(vs[i]?).map λv=>.val v h
  |_=>none
 |.call c=>lG e h t c
 |.defer c=>match c.callee,db e t c.args.toList with
  |.value f,some args=>match(aF e t f).bind (nH · args)with
   |some (.func g,az,cap)=>some (.defer g az cap h)
   |_=>none
  |_,_=>none
 |_=>none
def LD(e:Env)(h:ab)(t:Tr Value)(x:Operand):Option AR:=(aF e t x).map λv=>.val v h
def LF(e:Env)(h:ab)(t:Tr Value)(x:Operand):Option AR:=(aF e t x).map λv=>.val v h
def LG(e:Env)(h:ab)(t:Tr Value)(c:Operand)(a:Operand)(b:Operand):Option AR:=match aF e t c with
 |some (.bool true)=>(aF e t a).map λv=>.val v h
 |some (.bool false)=>(aF e t b).map λv=>.val v h
 |_=>none
def uU(e:Env)(h:ab)(t:Tr Value)(op:Op):Option AR:=match cT e t op with
 |none=>none
 |some (o,f)=>some (.val (f h.next) (h.new o))
def LH(e:Env)(h:ab)(t:Tr Value)(ty:TypeId)(parts:Array (Nat×Operand)):Option AR:=match fG e t parts.toList with
 |none=>none
 |some ps=>(pY e ty ps).map λv=>.val v h
def LI(e:Env)(h:ab)(t:Tr Value)(ty:TypeId)(a:Operand):Option AR:=match(aF e t a).bind iP with
 |none=>none
 |some a=>(iN e h ty a).map λv=>.val v h
def LJ(e:Env)(h:ab)(t:Tr Value)(ty:TypeId)(a:Operand)(x:Operand):Option AR:=match(aF e t a).bind iP,aF e t x with
 |some a,some v=>(oE e h ty a v).map .skip
 |_,_=>none
def LK(e:Env)(h:ab)(t:Tr Value)(x:Operand):Option AR:=match aF e t x with
 |some (.pointer (some a))=>some (.val (.pointer (some a)) h)
 |some (.func (.func f) a b)=>some (.val (.func (.func f) a b) h)
 |_=>none
def LL(e:Env)(h:ab)(t:Tr Value)(op:BinOp)(ty:TypeId)(x:Operand)(y:Operand)(u4:TypeId):Option AR:=match aF e t x,aF e t y with
 |some a,some b=>(cO e op ty x y a b).map λv=>.val v h
 |_,_=>none
def LM(e:Env)(h:ab)(t:Tr Value)(op:UnOp)(u1:TypeId)(x:Operand):Option AR:=match aF e t x with
 |some a=>bif plain a then(eV e.P (Op.unary op a)).map λv=>.val v h else none
 |_=>none
def LN(e:Env)(h:ab)(t:Tr Value)(s:TypeId)(d:TypeId)(x:Operand):Option AR:=match aF e t x with
 |some a=>bif plain a then(eV e.P (convert s d a)).map λv=>.val v h else(oH e h s d a).map λv=>.val v h
 |_=>none
def LO(e:Env)(h:ab)(t:Tr Value)(ty:TypeId)(x:Operand):Option AR:=match aF e t x,e.under ty with
 |some _,some (.interface _)=>none
 |some v,some _=>some (.val (.iface ty v) h)
 |_,_=>none
def LP(e:Env)(h:ab)(t:Tr Value)(f:FuncId)(first cap:Array Operand):Option AR:=match db e t first.toList,db e t cap.toList with
 |some a,some b=>some (.val (.func (.func f) a.toArray b.toArray) h)
 |_,_=>none
def LQ(e:Env)(h:ab)(t:Tr Value)(ty:TypeId)(x:Operand)(lo:Option Operand)(hi:Option Operand)(mx:Option Operand):Option AR:=match aF e t x,(match lo with|none=>some none|some o=>(aF e t o).map some),(match hi with|none=>some none|some o=>(aF e t o).map some),(match mx with|none=>some none|some o=>(aF e t o).map some)with
 |some x,some lo,some hi,some mx=>(jB e h ty x lo hi mx).map λv=>.val v h
 |_,_,_,_=>none
def LR(e:Env)(h:ab)(t:Tr Value)(s:TypeId)(x:Operand)(f:Nat):Option AR:=match(aF e t x).bind iP,e.under s with
 |some a,some (.struct fields)=>match kA e fields f with
  |some (off,size)=>bif yy 0 size then some (.val (.pointer (some (a.add off))) h)else none
  |none=>none
 |_,_=>none
def LS(e:Env)(h:ab)(t:Tr Value)(ty:TypeId)(x:Operand)(f:Nat):Option AR:=match aF e t x,e.under ty with
 |some (.agg cs),some (.struct fields)=>match fields[f]? with
  |none=>none
  |some fd=>(nE e fd.type cs.toList fd.offset).map λv=>.val v h
 |_,_=>none
def LU(e:Env)(h:ab)(t:Tr Value)(ty:TypeId)(x:Operand)(ix:Operand):Option AR:=match aF e t x,(aF e t ix).bind intOf,e.under ty with
 |some (.pointer (some a)),some i,some (.array len elem)=>match e.size elem with
  |none=>none
  |some s=>bif decide (0<=i)&&decide (i<(len:Int))then some (.val (.pointer (some (a.add (i.toNat*s)))) h)else none
 |some (.slice (some a) len _),some i,some (.slice elem)=>match e.size elem with
  |none=>none
  |some s=>bif decide (0<=i)&&decide (i<(len:Int))then some (.val (.pointer (some (a.add (i.toNat*s)))) h)else none
 |_,_,_=>none
def LV(e:Env)(h:ab)(t:Tr Value)(ty:TypeId)(x:Operand)(ix:Operand):Option AR:=match aF e t x,aF e t ix,e.under ty with
 |some (.agg cs),some (.int _ i),some (.array len elem)=>match e.size elem with
  |none=>none
  |some s=>bif decide (0<=i)&&decide (i<(len:Int))then(nE e elem cs.toList (i.toNat*s)).map λv=>.val v h else none
 |some (.string s),some (.int k i),some .string=>(eV e.P (Instr.index ty (.string s) (.int k i))).map λv=>.val v h
 |_,_,_=>none
def LW(e:Env)(h:ab)(t:Tr Value)(ty:TypeId)(m:Operand)(k:Operand)(ok:Bool):Option AR:=match aF e t m,aF e t k with
 |some m,some k=>(pZ e h ty m k ok).map λv=>.val v h
 |_,_=>none
def LX(e:Env)(h:ab)(t:Tr Value)(ty:TypeId)(m:Operand)(k:Operand)(v:Operand):Option AR:=match aF e t m,aF e t k,aF e t v with
 |some m,some k,some v=>(qZ e h ty m k v).map .skip
 |_,_,_=>none
def LY(e:Env)(h:ab)(t:Tr Value)(ty:TypeId)(m:Operand)(k:Operand)(v:Operand):Option AR:=match aF e t m,aF e t k,aF e t v with
 |some m,some k,some v=>(qZ e h ty m k v).map .skip
 |_,_,_=>none
def LZ(e:Env)(h:ab)(t:Tr Value)(ty:TypeId)(x:Operand):Option AR:=match aF e t x,e.under ty with
 |some (.string s),some .string=>some (.val (.pointer (some ⟨h.next,0,none⟩)) (h.new (.eY s 0)))
 |some (.map none),some (.map _ _)=>some (.val (.pointer (some ⟨h.next,0,none⟩)) (h.new (.cF none 0 [] 0)))
 |some (.map (some m)),some (.map _ _)=>match h.get m with
  |some (.map _ clock)=>some (.val (.pointer (some ⟨h.next,0,none⟩)) (h.new (.cF (some m) clock [] clock)))
  |_=>none
 |_,_=>none
def L0(e:Env)(h:ab)(t:Tr Value)(it:Operand)(s:Bool):Option AR:=match aF e t it with
 |none=>none
 |some it=>(p9 h it s).map λr=>.val r.1 r.2
def L3(e:Env)(h:ab)(t:Tr Value)(it:Operand):Option AR:=match aF e t it with
 |none=>none
 |some it=>(ri h it).map λv=>.val v h
def L4(e:Env)(h:ab)(t:Tr Value)(x:Operand)(i:Nat):Option AR:=match aF e t x with
 |some (.tuple vs)=>(vs[i]?).map λv=>.val v h
 |_=>none
def L5(e:Env)(h:ab)(t:Tr Value)(c:Call):Option AR:=match c.callee,db e t c.args.toList with
 |.value f,some args=>match(aF e t f).bind (nH · args)with
  |some (.func g,az,cap)=>some (.defer g az cap h)
  |_=>none
 |_,_=>none
def El(e:Env)(h:ab)(t:Tr Value)(op:Op):Option AR:=
 match op with
 |.move x=>LD e h t x
 |.assign x=>LF e h t x
 |.pick c a b=>LG e h t c a b
 |.alloc x0=>uU e h t (.alloc x0)
 |.box x0 x1=>uU e h t (.box x0 x1)
 |.buildSlice x0 x1 x2=>uU e h t (.buildSlice x0 x1 x2)
 |.makeMap x0 x1=>uU e h t (.makeMap x0 x1)
 |.makeSlice x0 x1 x2=>uU e h t (.makeSlice x0 x1 x2)
 |.build ty parts=>LH e h t ty parts
 |.load ty a=>LI e h t ty a
 |.store ty a x=>LJ e h t ty a x
 |.nilCheck x=>LK e h t x
 |.binOp op ty x y u4=>LL e h t op ty x y u4
 |.unOp op u1 x=>LM e h t op u1 x
 |.convert s d x=>LN e h t s d x
 |.makeInterface ty x=>LO e h t ty x
 |.makeFunc (.func f) first cap=>LP e h t f first cap
 |.slice ty x lo hi mx=>LQ e h t ty x lo hi mx
 |.fieldAddr s x f=>LR e h t s x f
 |.field ty x f=>LS e h t ty x f
 |.indexAddr ty x ix=>LU e h t ty x ix
 |.index ty x ix=>LV e h t ty x ix
 |.lookup ty m k ok=>LW e h t ty m k ok
 |.mapUpdate ty m k v=>LX e h t ty m k v
 |.insert ty m k v=>LY e h t ty m k v
 |.range ty x=>LZ e h t ty x
 |.next it s=>L0 e h t it s
 |.entry it=>L3 e h t it
 |.extract x i=>L4 e h t x i
 |.call c=>lG e h t c
 |.defer c=>L5 e h t c
 |_=>none
def L6(e:Env)(h:ab)(t:Tr Value)(op:Op):El e h t op=aS e h t op:=by
 cases op<;>first|rfl|(rename_i fn _ _;cases fn<;>rfl)
structure aN where
 t:Tr Value
 n:Nat
 ds:List Deferred
 h:ab
inductive bB where
 |normal
 |exit (id:Nat)
 |ret
 deriving DecidableEq
abbrev eZ:=FuncId->List Value->ab->Option (Value×ab)
abbrev gX:=Nat->List Value->ab->Option (Value×ab)
def fH(s:aN)(dst:Option Tmp)(v:Value):Option aN:=
 match dst with
 |none=>some s
 |some d=>match s with
  |⟨t,n,ds,h⟩=>bif yy d n then some ⟨t.set d (some v),n,ds,h⟩else none
def rk(s:aN)(dst:Option Tmp)(v:Value):fH s dst v=match dst with
 |none=>some s
 |some d=>bif yy d s.n then some {s with t:=s.t.set d (some v)}else none:=by cases dst<;>rfl
def mL(e:Env)(cf:eZ)(rf:gX)(ro:Option Nat)(o:Oper)(s:aN):Option aN:=
 match s with
 |⟨t,n,ds,h⟩=>match El e h t o.op with
  |none=>none
  |some (.val v h)=>fH ⟨t,n,ds,h⟩ o.dst v
  |some (.skip h)=>fH ⟨t,n,ds,h⟩ o.dst undef
  |some (.enter f args h)=>match cf f args h with
   |none=>none
   |some (v,h)=>fH ⟨t,n,ds,h⟩ o.dst v
  |some (.round l args h)=>match rf l args h with
   |none=>none
   |some (v,h)=>fH ⟨t,n,ds,h⟩ o.dst v
  |some (.defer f args cap h)=>match ro with
   |some _=>none
   |none=>fH ⟨t,n,{target:=.fn (.func f) cap.toArray,args:=args.toArray}::ds,h⟩ o.dst undef
def wX(e:Env)(cf:eZ)(rf:gX)(ro:Option Nat)(o:Oper)(s:aN):mL e cf rf ro o s=match aS e s.h s.t o.op with
 |none=>none
 |some (.val v h)=>fH {s with h} o.dst v
 |some (.skip h)=>fH {s with h} o.dst undef
 |some (.enter f args h)=>match cf f args h with
  |none=>none
  |some (v,h)=>fH {s with h} o.dst v
 |some (.round l args h)=>match rf l args h with
  |none=>none
  |some (v,h)=>fH {s with h} o.dst v
 |some (.defer f args cap h)=>match ro with
  |some _=>none
  |none=>fH {s with h,ds:={target:=.fn (.func f) cap.toArray,args:=args.toArray}::s.ds} o.dst undef:=by
 rw[<-L6];rfl
def cX(ops:List Oper)(s:aN)(o:Oper):Option Bool:=
 match o.guard with
 |none=>some true
 |some (j,want)=>match(ops[j]?).bind (·.dst)with
  |none=>none
  |some d=>match s.t.get d with
   |some (.bool b)=>some (b==want)
   |some (.tuple _)=>some false
   |_=>none
def rn(e:Env)(cf:eZ)(rf:gX)(ro:Option Nat)(ops:List Oper):List Oper->aN->Option aN
 |[],s=>some s
 |o::r,s=>match cX ops s o with
  |none=>none
  |some true=>match mL e cf rf ro o s with
   |none=>none
   |some s=>rn e cf rf ro ops r s
  |some false=>match fH s o.dst undef with
   |none=>none
   |some s=>rn e cf rf ro ops r s
inductive s9 where
 |pure|read|alloc|effect|bad
 deriving DecidableEq
def cls:Op->s9
 |.move _|.assign _|.pick _ _ _|.build _ _|.nilCheck _|.binOp _ _ _ _ _|.unOp _ _ _|.makeInterface _ _|.makeFunc _ _ _
 |.fieldAddr _ _ _|.field _ _ _|.indexAddr _ _ _|.index _ _ _|.extract _ _=>.pure
 |.load _ _|.lookup _ _ _ _|.entry _|.slice _ _ _ _ _|.convert _ _ _=>.read
 |.alloc _|.box _ _|.buildSlice _ _ _|.makeMap _ _|.makeSlice _ _ _=>.alloc
 |.call c=>match c.callee with
  |.builtin .len|.builtin .cap|.builtin .min|.builtin .max=>.read
  |_=>.effect
 |.store _ _ _|.mapUpdate _ _ _ _|.insert _ _ _ _|.range _ _|.next _ _=>.effect
 |_=>.bad
def l9:List Oper->List Nat->List Nat
 |[],acc=>acc.reverse
 |o::r,acc=>
  let look (i:Nat):Nat:=acc.reverse.getD i 0
  l9 r (o.after.toList.foldl (λs x=>bif Region.binds .any x then Nat.lor s (Nat.lor (2^x.on) (look x.on))else s) 0::acc)
def bx(ops:List Oper):List Nat:=l9 ops []
def tmpsOf(o:Oper):List Tmp:=o.op.operands.toList.filterMap λ|.tmp t=>some t|_=>none
def qa(ops:List Oper)(ms:List Nat):Bool:=
 let io:=ops.zipIdx
 (io.all λ(o,i)=>o.after.toList.all λx=> !Region.binds .any x||yy x.on i)&&
 (io.all λ(o,i)=>match o.guard with|none=>true|some (j,_)=>(ms.getD i 0).testBit j)&&
 (io.all λ(o,i)=>match o.dst with
  |none=>true
  |some d=>io.all λ(p,j)=>qG i j||((match p.dst with|some d'=> !Nat.beq d d'|none=>true)&&(!(tmpsOf p).contains d||(bif yy i j then(ms.getD j 0).testBit i else(ms.getD i 0).testBit j))))&&
 (io.all λ(o,_)=>match o.dst with|none=>true|some d=> !(tmpsOf o).contains d)&&
 (let es:=io.filter λ(o,_)=>cls o.op==.effect
  es.all λ(_,i)=>es.all λ(_,j)=> !Nat.blt i j||(ms.getD j 0).testBit i)
abbrev dz:=List (Nat×Nat×bP)
def cr(h:ab)(m:Nat):dz->ab
 |[]=>h
 |(i,id,o)::r=>bif m.testBit i then(cr h m r).set id (some o)else cr h m r
def uW:Nat->Value->Value->Bool
 |0,_,_=>false
 |n+1,a,b=>match a,b with
  |.bool a,.bool b=>a==b
  |.int j a,.int k b=>decide (j=k)&&decide (a=b)
  |.string a,.string b=>decide (a=b)
  |.pointer a,.pointer b=>decide (a=b)
  |.slice a l c,.slice b m d=>decide (a=b)&&qG l m&&qG c d
  |.map a,.map b=>decide (a=b)
  |.nilFunc,.nilFunc=>true
  |.nilIface,.nilIface=>true
  |.iface t v,.iface u w=>decide (t=u)&&uW n v w
  |.agg a,.agg b=>rp n a.toList b.toList
  |.tuple a,.tuple b=>rp n a.toList b.toList
  |.func f a c,.func g b d=>decide (f=g)&&rp n a.toList b.toList&&rp n c.toList d.toList
  |_,_=>false
where
 rp (n:Nat):List Value->List Value->Bool
 |[],[]=>true
 |a::x,b::y=>uW n a b&&rp n x y
 |_,_=>false
structure cG where
 s:aN
 aA:dz
 all:dz
 bJ:List (Nat×ab)
 di:List (Tr Value)
def ta(e:Env)(cf:eZ)(rf:gX)(ro:Option Nat)(ops:List Oper)(i id m:Nat)(o:Oper)(x:cG):Option cG:=
 match cX ops x.s o with
 |none=>none
 |some false=>match fH x.s o.dst undef with
  |none=>none
  |some s=>match cls o.op with
   |.effect=>some {x with s,bJ:=((x.bJ.head?.map (·.1)).getD 0,s.h)::x.bJ}
   |.bad=>none
   |_=>some {x with s}
 |some true=>match cls o.op with
  |.pure=>match aS e x.s.h x.s.t o.op with
   |some (.val v _)=>(fH x.s o.dst v).map λs=>{x with s}
   |_=>none
  |.read=>match aS e (cr x.s.h m x.aA) x.s.t o.op with
   |some (.val v _)=>(fH x.s o.dst v).map λs=>{x with s}
   |_=>none
  |.alloc=>match cT e x.s.t o.op with
   |none=>none
   |some (ob,f)=>(fH x.s o.dst (f id)).map λs=>{x with s,aA:=(i,id,ob)::x.aA,all:=(i,id,ob)::x.all}
  |.effect=>match mL e cf rf ro o {x.s with h:=cr x.s.h m x.aA}with
   |none=>none
   |some s=>some {x with s,aA:=x.aA.filter λp=> !m.testBit p.1,bJ:=(Nat.lor ((x.bJ.head?.map (·.1)).getD 0) m,s.h)::x.bJ}
  |.bad=>none
def nextId(o:Oper)(id:Nat):Nat:=bif cls o.op==.alloc then id+1 else id
def mM(e:Env)(dJ:Nat->eZ)(rf:gX)(ro:Option Nat)(ops:List Oper):List (Oper×Nat)->Nat->Nat->cG->Option cG
 |[],_,_,x=>some x
 |(o,m)::r,i,id,x=>match ta e (dJ i) rf ro ops i id m o {x with di:=x.s.t::x.di}with
  |none=>none
  |some x=>mM e dJ rf ro ops r (i+1) (nextId o id) x
def L7(e:Env)(x:cG)(bJ:List (Nat×ab))(dc:List (Nat×Nat))(i m:Nat)(o:Oper)(t:Tr Value):Bool:=
 let lo:=(dc.filter λp=>m.testBit p.1).length
 let hi:=(dc.filter λp=> !p.2.testBit i).length
 bif KE hi lo then true else
 match o.dst with
 |none=>false
 |some d=>match x.s.t.get d with
  |none=>false
  |some v=>((bJ.drop lo).take (hi+1-lo)).all λ(inc,h)=>
   match aS e (cr h m (x.all.filter λp=> !inc.testBit p.1)) t o.op with
   |some (.val v' _)=>uW 12 v v'
   |_=>false
def Em(e:Env)(ops:List Oper)(x:cG)(bJ:List (Nat×ab))(dc:List (Nat×Nat)):List (Oper×Nat)->List (Tr Value)->Nat->Bool
 |(o,m)::r,t::ts,i=>(bif cls o.op==.read then(match cX ops {x.s with t} o with
  |some true=>L7 e x bJ dc i m o t
  |_=>true)else true)&&Em e ops x bJ dc r ts (i+1)
 |[],_,_=>true
 |_,_,_=>false
def j0:List (Oper×Nat)->Nat->List (Nat×Nat)
 |[],_=>[]
 |(o,m)::r,i=>bif cls o.op==.effect then(i,m)::j0 r (i+1)else j0 r (i+1)
def fw(h:ab):dz->ab
 |[]=>h
 |(_,id,o)::r=>(fw h r).set id (some o)
def L8(e:Env)(cf:eZ)(rf:gX)(ro:Option Nat)(ops:List Oper)(draw:Bool)(s:aN):Option aN:=
 bif draw then
  let ms:=bx ops
  let oms:=ops.zip ms
  let dc:=j0 oms 0
  bif qa ops ms then
   match mM e (λ_=>cf) rf ro ops oms 0 s.h.next {s:={s with h:={s.h with next:=s.h.next+(ops.filter λo=>cls o.op==.alloc).length}},aA:=[],all:=[],bJ:=[(0,{s.h with next:=s.h.next+(ops.filter λo=>cls o.op==.alloc).length})],di:=[]}with
   |none=>none
   |some x=>bif (qG dc.length 0)||Em e ops x x.bJ.reverse dc oms x.di.reverse 0 then some {x.s with h:=fw x.s.h x.aA}else none
  else none
 else rn e cf rf ro ops ops s
def iz(e:Env)(s:aN):List ResultVar->Option (List Value)
 |[]=>some []
 |r::rs=>match(match r with
  |.tmp t=>s.t.get t
  |.cell a t=>match(s.t.get a).bind iP with
   |none=>none
   |some ad=>iN e s.h t ad),iz e s rs with
  |some v,some vs=>some (v::vs)
  |_,_=>none
def kZ(e:Env):List Deferred->ab->Option ab
 |[],h=>some h
 |d::ds,h=>match d.target with
  |.collected r=>match h.get r with
   |some (.fU true)=>kZ e ds (h.set r (some (.fU false)))
   |_=>none
  |.fn (.func g) _=>bif e.idle g then kZ e ds h else none
  |_=>none
def gY(args:List Value):Tr Value:=Tr.ofList args 0 .nil
abbrev oI:=Option Nat->Code->aN->Option (bB×aN)
def qb(e:Env)(ev:oI):eZ:=λf args h=>
 match e.fn f with
 |none=>none
 |some fn=>match fn.body with
  |none=>none
  |some c=>match ev none c {t:=gY args,n:=args.length+(fn.ntmps-args.length),ds:=[],h}with
   |none=>none
   |some (.exit _,_)=>none
   |some (_,s)=>match kZ e s.ds s.h with
    |none=>none
    |some h=>match iz e {s with h} fn.results.toList with
     |some [v]=>some (v,h)
     |some vs=>some (.tuple vs.toArray,h)
     |none=>none
def En(n:Nat):List Tmp->List Value->Tr Value->Option (Tr Value)
 |[],[],t=>some t
 |p::ps,v::vs,t=>bif yy p n then En n ps vs (t.set p (some v))else none
 |_,_,_=>none
def zE:bB->Option Code
 |.normal=>none
 |.ret=>some .ret
 |.exit id=>some (.exit id)
def L9(ev:oI):gX:=λl args h=>
 match h.get l with
 |some (.loop .ready _ t n params bX body _)=>match En n params args t with
  |none=>none
  |some t'=>match ev (some l) bX {t:=t',n,ds:=[],h}with
   |some (.normal,s)=>match s.h.get l with
    |some (.loop .ready an t2 n2 params2 aI ao aJ)=>match ev (some l) body {s with h:=s.h.set l (some (.loop .busy an t2 n2 params2 aI ao aJ))}with
     |none=>none
     |some (x,s)=>match s.h.get l with
      |some (.loop _ _ t3 n3 params3 aK aq aM)=>
       some (.bool (zE x).isNone,s.h.set l (some (.loop (if(zE x).isNone then .ready else .done) (zE x) t3 n3 params3 aK aq aM)))
      |_=>none
    |_=>none
   |_=>none
 |_=>none
def Ma(e:Env)(ev:oI)(cf:eZ)(ro:Option Nat)(g:Operand)(params:Array Tmp)(bX body:Code)(s:aN):Option (bB×aN):=
 match(match ro with
  |some l=>(match s.h.get l with|some (.loop _ _ _ _ _ _ _ fU)=>some (fU,[],s.h)|_=>none)
  |none=>some (s.h.next,[({target:=.collected s.h.next,args:=#[]}:Deferred)],s.h.new (.fU true)))with
 |none=>none
 |some (fU,mark,h)=>
  let l:=h.next
  let h:=h.new (.loop .ready none s.t s.n params.toList bX body fU)
  match(aF e s.t g).bind (nH · [.func (.yield l) #[] #[]])with
  |some (.func f,az,cap)=>match cf f (az++cap) h with
   |none=>none
   |some (_,h)=>match h.get l with
    |some (.loop st aA t n params bX body fU)=>bif st==.busy then none else
     let s:aN:={s with h:=h.set l (some (.loop .exhausted aA t n params bX body fU)),ds:=mark++s.ds}
     match aA with
     |none=>some (.normal,s)
     |some c=>ev ro c s
    |_=>none
  |_=>none
def Eo(e:Env)(cf:eZ):eZ:=λf args h=>
 match e.ky f args h with
 |some r=>some r
 |none=>cf f args h
def Mb(e:Env)(ev:oI):oI:=λro c s=>
 match c with
 |.skip|.label _=>some (.normal,s)
 |.scope c=>ev ro c s
 |.region _ ops draw=>(L8 e (Eo e (qb e ev)) (L9 ev) ro ops.toList draw s).map λs=>(.normal,s)
 |.seq a b=>match ev ro a s with
  |some (.normal,s)=>ev ro b s
  |r=>r
 |.cond c a b=>match aF e s.t c with
  |some (.bool true)=>ev ro a s
  |some (.bool false)=>ev ro b s
  |_=>none
 |.block id c=>match ev ro c s with
  |some (.exit aQ,s)=>bif qG aQ id then some (.normal,s)else some (.exit aQ,s)
  |r=>r
 |.loop c=>match ev ro c s with
  |some (.normal,s)=>ev ro (.loop c) s
  |r=>r
 |.rangeFunc g params bX body=>Ma e ev (Eo e (qb e ev)) ro g params bX body s
 |.exit id=>some (.exit id,s)
 |.ret=>some (.ret,s)
 |_=>none
def ev(e:Env):Nat->oI
 |0=>λ_ _ _=>none
 |n+1=>Mb e (ev e n)
def call(e:Env)(n:Nat):eZ:=qb e (ev e n)
end Go.aD
end
noncomputable section
namespace Go.aD
def wY{α:Type}:∀p:List D4,sY p (Od.nil:Od α)=none
 |[]=>rfl
 |_::_=>rfl
def Ep{α:Type}(x:Option α):∀(p:List D4) (t:Od α),sY p (wV p x t)=x
 |[],t=>by cases t<;>rfl
 |y::p,t=>by
  cases t<;>cases y<;>exact Ep x p _
def zF{α:Type}(x:Option α):∀(p q:List D4) (t:Od α),q≠p->sY q (wV p x t)=sY q t
 |[],[],_,h=>absurd rfl h
 |[],z::q,t,_=>by cases t<;>cases z<;>first|rfl|exact wY q
 |y::p,[],t,_=>by cases t<;>cases y<;>rfl
 |y::p,z::q,t,h=>by
  have h':y=z->q≠p:=λe1 e2=>h (by rw[e1,e2]);cases t with
  |nil=>cases y<;>cases z<;>first|exact wY q|exact(zF x p q .nil (h' rfl)).trans (wY q)
  |node v a b c d=>cases y<;>cases z<;>first|rfl|exact zF x p q _ (h' rfl)
def Mc{i j:Nat}(h:digit i=digit j):i%4=j%4:=by
 have e:∀k,k<4->(k=0\/k=1\/k=2\/k=3):=λk hk=>aa;have hd:∀k m,k%4=m->digit k=FQ (motive:=λ_=>D4) .a (λk _=>FQ (motive:=λ_=>D4) .b (λk _=>FQ (motive:=λ_=>D4) .c (λ_ _=>.d) k) k) m:=λk m hm=>by
  unfold digit;rw[show Nat.mod k 4=m from hm]
 rcases e (i%4) aa with h1|h1|h1|h1<;>rcases e (j%4) aa with h2|h2|h2|h2<;>first|omega|(rw[hd i _ h1,hd j _ h2]at h;cases h)
def Er:∀(n m i j:Nat),i<=n->j<=m->sX n i=sX m j->i=j
 |0,0,i,j,h1,h2,_=>aa
 |0,m+1,i,j,h1,h2,h=>by
  obtain rfl:i=0:=aa;cases j with
  |zero=>rfl
  |succ j=>cases h
 |n+1,0,i,j,h1,h2,h=>by
  obtain rfl:j=0:=aa;cases i with
  |zero=>rfl
  |succ i=>cases h
 |n+1,m+1,i,j,h1,h2,h=>by
  cases i with
  |zero=>
   cases j with
   |zero=>rfl
   |succ j=>cases h
  |succ i=>
   cases j with
   |zero=>cases h
   |succ j=>
    have h:digit i::sX n (RC i 4)=digit j::sX m (RC j 4):=h;injection h with h3 h4
    have q1:=Mc h3;have q2:=Er n m (RC i 4) (RC j 4) (by show i/4<=n;omega) (by show j/4<=m;omega) h4;have q2:i/4=j/4:=q2;omega
def Es(i:Nat):path i=sX i i:=by cases i<;>rfl
def Md{i j:Nat}(h:path i=path j):i=j:=by
 rw[Es,Es]at h;exact Er i j i j (E2 _) (E2 _) h
def zG{α:Type}(t:Tr α)(i:Nat):t.get i=(oB i).run t:=by cases i<;>rfl
def Me{α:Type}(t:Tr α)(i:Nat)(x:Option α):t.set i x=(oC i).run x t:=by cases i<;>rfl
def te{α:Type}(x:α)(d:Nat):(b8 d).run (bq.all x)=x:=by
 match d with
 |0=>rfl
 |1=>rfl
 |2=>rfl
 |3=>rfl
 |4=>rfl
 |5=>rfl
 |6=>rfl
 |7=>rfl
 |8=>rfl
 |9=>rfl
 |10=>rfl
 |11=>rfl
 |12=>rfl
 |13=>rfl
 |14=>rfl
 |_+15=>rfl
def Mf{α:Type}(x:α)(v:bq α)(d:Nat)(h:d<16):(b8 d).run ((eX 0).run x v)=if d=0 then x else(b8 d).run v:=by
 match d,h with
 |0,_=>rfl
 |1,_=>rfl
 |2,_=>rfl
 |3,_=>rfl
 |4,_=>rfl
 |5,_=>rfl
 |6,_=>rfl
 |7,_=>rfl
 |8,_=>rfl
 |9,_=>rfl
 |10,_=>rfl
 |11,_=>rfl
 |12,_=>rfl
 |13,_=>rfl
 |14,_=>rfl
 |15,_=>rfl
 |n+16,h=>omega
def Mg{α:Type}(x:α)(v:bq α)(d:Nat)(h:d<16):(b8 d).run ((eX 1).run x v)=if d=1 then x else(b8 d).run v:=by
 match d,h with
 |0,_=>rfl
 |1,_=>rfl
 |2,_=>rfl
 |3,_=>rfl
 |4,_=>rfl
 |5,_=>rfl
 |6,_=>rfl
 |7,_=>rfl
 |8,_=>rfl
 |9,_=>rfl
 |10,_=>rfl
 |11,_=>rfl
 |12,_=>rfl
 |13,_=>rfl
 |14,_=>rfl
 |15,_=>rfl
 |n+16,h=>omega
def Mh{α:Type}(x:α)(v:bq α)(d:Nat)(h:d<16):(b8 d).run ((eX 2).run x v)=if d=2 then x else(b8 d).run v:=by
 match d,h with
 |0,_=>rfl
 |1,_=>rfl
 |2,_=>rfl
 |3,_=>rfl
 |4,_=>rfl
 |5,_=>rfl
 |6,_=>rfl
 |7,_=>rfl
 |8,_=>rfl
 |9,_=>rfl
 |10,_=>rfl
 |11,_=>rfl
 |12,_=>rfl
 |13,_=>rfl
 |14,_=>rfl
 |15,_=>rfl
 |n+16,h=>omega
def Mi{α:Type}(x:α)(v:bq α)(d:Nat)(h:d<16):(b8 d).run ((eX 3).run x v)=if d=3 then x else(b8 d).run v:=by
 match d,h with
 |0,_=>rfl
 |1,_=>rfl
 |2,_=>rfl
 |3,_=>rfl
 |4,_=>rfl
 |5,_=>rfl
 |6,_=>rfl
 |7,_=>rfl
 |8,_=>rfl
 |9,_=>rfl
 |10,_=>rfl
 |11,_=>rfl
 |12,_=>rfl
 |13,_=>rfl
 |14,_=>rfl
 |15,_=>rfl
 |n+16,h=>omega
def Mj{α:Type}(x:α)(v:bq α)(d:Nat)(h:d<16):(b8 d).run ((eX 4).run x v)=if d=4 then x else(b8 d).run v:=by
 match d,h with
 |0,_=>rfl
 |1,_=>rfl
 |2,_=>rfl
 |3,_=>rfl
 |4,_=>rfl
 |5,_=>rfl
 |6,_=>rfl
 |7,_=>rfl
 |8,_=>rfl
 |9,_=>rfl
 |10,_=>rfl
 |11,_=>rfl
 |12,_=>rfl
 |13,_=>rfl
 |14,_=>rfl
 |15,_=>rfl
 |n+16,h=>omega
def Mk{α:Type}(x:α)(v:bq α)(d:Nat)(h:d<16):(b8 d).run ((eX 5).run x v)=if d=5 then x else(b8 d).run v:=by
 match d,h with
 |0,_=>rfl
 |1,_=>rfl
 |2,_=>rfl
 |3,_=>rfl
 |4,_=>rfl
 |5,_=>rfl
 |6,_=>rfl
 |7,_=>rfl
 |8,_=>rfl
 |9,_=>rfl
 |10,_=>rfl
 |11,_=>rfl
 |12,_=>rfl
 |13,_=>rfl
 |14,_=>rfl
 |15,_=>rfl
 |n+16,h=>omega
def Ml{α:Type}(x:α)(v:bq α)(d:Nat)(h:d<16):(b8 d).run ((eX 6).run x v)=if d=6 then x else(b8 d).run v:=by
 match d,h with
 |0,_=>rfl
 |1,_=>rfl
 |2,_=>rfl
 |3,_=>rfl
 |4,_=>rfl
 |5,_=>rfl
 |6,_=>rfl
 |7,_=>rfl
 |8,_=>rfl
 |9,_=>rfl
 |10,_=>rfl
 |11,_=>rfl
 |12,_=>rfl
 |13,_=>rfl
 |14,_=>rfl
 |15,_=>rfl
 |n+16,h=>omega
def Mm{α:Type}(x:α)(v:bq α)(d:Nat)(h:d<16):(b8 d).run ((eX 7).run x v)=if d=7 then x else(b8 d).run v:=by
 match d,h with
 |0,_=>rfl
 |1,_=>rfl
 |2,_=>rfl
 |3,_=>rfl
 |4,_=>rfl
 |5,_=>rfl
 |6,_=>rfl
 |7,_=>rfl
 |8,_=>rfl
 |9,_=>rfl
 |10,_=>rfl
 |11,_=>rfl
 |12,_=>rfl
 |13,_=>rfl
 |14,_=>rfl
 |15,_=>rfl
 |n+16,h=>omega
def Mn{α:Type}(x:α)(v:bq α)(d:Nat)(h:d<16):(b8 d).run ((eX 8).run x v)=if d=8 then x else(b8 d).run v:=by
 match d,h with
 |0,_=>rfl
 |1,_=>rfl
 |2,_=>rfl
 |3,_=>rfl
 |4,_=>rfl
 |5,_=>rfl
 |6,_=>rfl
 |7,_=>rfl
 |8,_=>rfl
 |9,_=>rfl
 |10,_=>rfl
 |11,_=>rfl
 |12,_=>rfl
 |13,_=>rfl
 |14,_=>rfl
 |15,_=>rfl
 |n+16,h=>omega
def Mo{α:Type}(x:α)(v:bq α)(d:Nat)(h:d<16):(b8 d).run ((eX 9).run x v)=if d=9 then x else(b8 d).run v:=by
 match d,h with
 |0,_=>rfl
 |1,_=>rfl
 |2,_=>rfl
 |3,_=>rfl
 |4,_=>rfl
 |5,_=>rfl
 |6,_=>rfl
 |7,_=>rfl
 |8,_=>rfl
 |9,_=>rfl
 |10,_=>rfl
 |11,_=>rfl
 |12,_=>rfl
 |13,_=>rfl
 |14,_=>rfl
 |15,_=>rfl
 |n+16,h=>omega
def Mp{α:Type}(x:α)(v:bq α)(d:Nat)(h:d<16):(b8 d).run ((eX 10).run x v)=if d=10 then x else(b8 d).run v:=by
 match d,h with
 |0,_=>rfl
 |1,_=>rfl
 |2,_=>rfl
 |3,_=>rfl
 |4,_=>rfl
 |5,_=>rfl
 |6,_=>rfl
 |7,_=>rfl
 |8,_=>rfl
 |9,_=>rfl
 |10,_=>rfl
 |11,_=>rfl
 |12,_=>rfl
 |13,_=>rfl
 |14,_=>rfl
 |15,_=>rfl
 |n+16,h=>omega
def Mq{α:Type}(x:α)(v:bq α)(d:Nat)(h:d<16):(b8 d).run ((eX 11).run x v)=if d=11 then x else(b8 d).run v:=by
 match d,h with
 |0,_=>rfl
 |1,_=>rfl
 |2,_=>rfl
 |3,_=>rfl
 |4,_=>rfl
 |5,_=>rfl
 |6,_=>rfl
 |7,_=>rfl
 |8,_=>rfl
 |9,_=>rfl
 |10,_=>rfl
 |11,_=>rfl
 |12,_=>rfl
 |13,_=>rfl
 |14,_=>rfl
 |15,_=>rfl
 |n+16,h=>omega
def Mr{α:Type}(x:α)(v:bq α)(d:Nat)(h:d<16):(b8 d).run ((eX 12).run x v)=if d=12 then x else(b8 d).run v:=by
 match d,h with
 |0,_=>rfl
 |1,_=>rfl
 |2,_=>rfl
 |3,_=>rfl
 |4,_=>rfl
 |5,_=>rfl
 |6,_=>rfl
 |7,_=>rfl
 |8,_=>rfl
 |9,_=>rfl
 |10,_=>rfl
 |11,_=>rfl
 |12,_=>rfl
 |13,_=>rfl
 |14,_=>rfl
 |15,_=>rfl
 |n+16,h=>omega
def Ms{α:Type}(x:α)(v:bq α)(d:Nat)(h:d<16):(b8 d).run ((eX 13).run x v)=if d=13 then x else(b8 d).run v:=by
 match d,h with
 |0,_=>rfl
 |1,_=>rfl
 |2,_=>rfl
 |3,_=>rfl
 |4,_=>rfl
 |5,_=>rfl
 |6,_=>rfl
 |7,_=>rfl
 |8,_=>rfl
 |9,_=>rfl
 |10,_=>rfl
 |11,_=>rfl
 |12,_=>rfl
 |13,_=>rfl
 |14,_=>rfl
 |15,_=>rfl
 |n+16,h=>omega
def Mu{α:Type}(x:α)(v:bq α)(d:Nat)(h:d<16):(b8 d).run ((eX 14).run x v)=if d=14 then x else(b8 d).run v:=by
 match d,h with
 |0,_=>rfl
 |1,_=>rfl
 |2,_=>rfl
 |3,_=>rfl
 |4,_=>rfl
 |5,_=>rfl
 |6,_=>rfl
 |7,_=>rfl
 |8,_=>rfl
 |9,_=>rfl
 |10,_=>rfl
 |11,_=>rfl
 |12,_=>rfl
 |13,_=>rfl
 |14,_=>rfl
 |15,_=>rfl
 |n+16,h=>omega
def Mv{α:Type}(x:α)(v:bq α)(d:Nat)(h:d<16):(b8 d).run ((eX 15).run x v)=if d=15 then x else(b8 d).run v:=by
 match d,h with
 |0,_=>rfl
 |1,_=>rfl
 |2,_=>rfl
 |3,_=>rfl
 |4,_=>rfl
 |5,_=>rfl
 |6,_=>rfl
 |7,_=>rfl
 |8,_=>rfl
 |9,_=>rfl
 |10,_=>rfl
 |11,_=>rfl
 |12,_=>rfl
 |13,_=>rfl
 |14,_=>rfl
 |15,_=>rfl
 |n+16,h=>omega
def tg{α:Type}(x:α)(v:bq α)(d e:Nat)(h:d<16)(h':e<16):(b8 d).run ((eX e).run x v)=if d=e then x else(b8 d).run v:=by
 match e,h' with
 |0,_=>exact Mf x v d h
 |1,_=>exact Mg x v d h
 |2,_=>exact Mh x v d h
 |3,_=>exact Mi x v d h
 |4,_=>exact Mj x v d h
 |5,_=>exact Mk x v d h
 |6,_=>exact Ml x v d h
 |7,_=>exact Mm x v d h
 |8,_=>exact Mn x v d h
 |9,_=>exact Mo x v d h
 |10,_=>exact Mp x v d h
 |11,_=>exact Mq x v d h
 |12,_=>exact Mr x v d h
 |13,_=>exact Ms x v d h
 |14,_=>exact Mu x v d h
 |15,_=>exact Mv x v d h
 |n+16,h=>omega
def wZ{i n:Nat}(h:i<n):yy i n=true:=Nat.blt_eq.mpr h
def th{i n:Nat}(h:¬i<n):yy i n=false:=by rw[Bool.eq_false_iff];exactλe=>h (Nat.blt_eq.mp e)
def ru{α:Type}{i:Nat}(h:i<256)(t:Tr α):(oB i).run t=(b8 (i%16)).run ((b8 (i/16)).run t.small):=by
 unfold oB;rw[wZ h];rfl
def ry{α:Type}{i:Nat}(h:¬i<256)(h2:i<65536)(t:Tr α):(oB i).run t=(b8 (i%16)).run ((b8 (i/16%16)).run ((b8 (i/256%16)).run ((b8 (i/4096)).run t.qY))):=by
 unfold oB;rw[th h,wZ h2];rfl
def rz{α:Type}{i:Nat}(h:¬i<65536)(t:Tr α):(oB i).run t=sY (path i) t.over:=by
 unfold oB;rw[th (show¬i<256 by omega),th h]
def Mw{α:Type}{i:Nat}(h:i<256)(x:Option α)(t:Tr α):(oC i).run x t={t with small:=(eX (i/16)).run ((eX (i%16)).run x ((b8 (i/16)).run t.small)) t.small}:=by
 unfold oC;rw[wZ h];rfl
def Mx{α : Type}{i : Nat}(h : ¬ i < 256)(h2 : i < 65536)(x : Option α)(t : Tr α) : (oC i).run x t = { t with qY := (eX (i / 4096)).run ((eX (i / 256 % 16)).run ((eX (i / 16 % 16)).run ((eX (i % 16)).run x
 ((b8 (i/16%16)).run ((b8 (i/256%16)).run ((b8 (i/4096)).run t.qY)))) ((b8 (i/256%16)).run ((b8 (i/4096)).run t.qY))) ((b8 (i/4096)).run t.qY)) t.qY}:=by
 unfold oC;rw[th h,wZ h2];rfl
def My{α:Type}{i:Nat}(h:¬i<65536)(x:Option α)(t:Tr α):(oC i).run x t={t with over:=wV (path i) x t.over}:=by
 unfold oC;rw[th (show¬i<256 by omega),th h]
def Tr.get_nil{α:Type}(i:Nat):(Tr.nil:Tr α).get i=none:=by
 rw[zG];by_cases h:i<256
 . rw[ru h];show(b8 (i%16)).run ((b8 (i/16)).run (bq.all (bq.all none)))=none;rw[te,te]
 . by_cases h2:i<65536
   . rw[ry h h2];show(b8 (i%16)).run ((b8 (i/16%16)).run ((b8 (i/256%16)).run ((b8 (i/4096)).run (bq.all (bq.all (bq.all (bq.all none)))))))=none;rw[te,te,te,te]
   . rw[rz h2];exact wY _
def Tr.bu{α:Type}(t:Tr α)(i j:Nat)(x:Option α):(t.set i x).get j=if j=i then x else t.get j:=by
 rw[Me,zG,zG];by_cases hi:i<256
 . rw[Mw hi];by_cases hj:j<256
   . rw[ru hj,ru hj];simp only;rw[tg _ _ _ _ aa aa];by_cases e:j/16=i/16
     . rw[if_pos e,tg _ _ _ _ aa aa,e];by_cases e2:j%16=i%16
       . rw[if_pos e2,if_pos aa]
       . rw[if_neg e2,if_neg (λe3=>e2 (by rw[e3]))]
     . rw[if_neg e,if_neg (λe3=>e (by rw[e3]))]
   . rw[if_neg aa];by_cases af:j<65536
     . rw[ry hj af,ry hj af]
     . rw[rz af,rz af]
 . by_cases dU:i<65536
   . rw[Mx hi dU];by_cases hj:j<256
     . rw[if_neg aa,ru hj,ru hj]
     . by_cases af:j<65536
       . rw[ry hj af,ry hj af];simp only;rw[tg _ _ _ _ aa aa];by_cases e:j/4096=i/4096
         . rw[if_pos e,e,tg _ _ _ _ aa aa];by_cases e2:j/256%16=i/256%16
           . rw[if_pos e2,e2,tg _ _ _ _ aa aa];by_cases e3:j/16%16=i/16%16
             . rw[if_pos e3,e3,tg _ _ _ _ aa aa];by_cases e4:j%16=i%16
               . rw[if_pos e4,if_pos aa]
               . rw[if_neg e4,if_neg (λq=>e4 (by rw[q]))]
             . rw[if_neg e3,if_neg (λq=>e3 (by rw[q]))]
           . rw[if_neg e2,if_neg (λq=>e2 (by rw[q]))]
         . rw[if_neg e,if_neg (λq=>e (by rw[q]))]
       . rw[if_neg aa,rz af,rz af]
   . rw[My dU];by_cases hj:j<256
     . rw[if_neg aa,ru hj,ru hj]
     . by_cases af:j<65536
       . rw[if_neg aa,ry hj af,ry hj af]
       . rw[rz af,rz af];simp only;by_cases h:j=i
         . subst h;rw[if_pos rfl];exact Ep x _ _
         . rw[if_neg h];exact zF x _ _ _ (λe=>h (Md e))
def ab.bu(h:ab)(i j:Nat)(o:Option bP):(h.set i o).get j=if j=i then o else h.get j:=Tr.bu _ _ _ _
def ab.dN(h:ab)(j:Nat)(o:bP):(h.new o).get j=if j=h.next then some o else h.get j:=Tr.bu _ _ _ _
theorem ab.aY(h:ab)(i:Nat)(o:Option bP):(h.set i o).next=h.next:=rfl
theorem ab.bm(h:ab)(o:bP):(h.new o).next=h.next+1:=rfl
inductive aV{α β:Type}(R:α->β->Prop):List α->List β->Prop
 |nil:aV R [] []
 |cons {a b x y}:R a b->aV R x y->aV R (a::x) (b::y)
def aV.length{α β:Type}{R:α->β->Prop}{x:List α}{y:List β}(h:aV R x y):x.length=y.length:=by
 induction h with
 |nil=>rfl
 |cons _ _ ih=>simp[ih]
def aV.mono{α β:Type}{R S:α->β->Prop}{x:List α}{y:List β}(h:aV R x y)(hr:∀a b,R a b->S a b):aV S x y:=by
 induction h with
 |nil=>exact .nil
 |cons h _ ih=>exact .cons (hr _ _ h) ih
def aV.append{α β:Type}{R:α->β->Prop}{x x':List α}{y y':List β}(h:aV R x y)(h':aV R x' y'):aV R (x++x') (y++y'):=by
 induction h with
 |nil=>exact h'
 |cons h _ ih=>exact .cons h ih
def aV.get{α β:Type}{R:α->β->Prop}{x:List α}{y:List β}(h:aV R x y):∀(i:Nat) (a:α),x[i]? =some a->∃b,y[i]? =some b/\R a b:=by
 induction h with
 |nil=>intro i a h;simp at h
 |cons h _ ih=>
  intro i a hi;cases i with
  |zero=>simp at hi;subst hi;exact⟨_,rfl,h⟩
  |succ i=>simpa using ih i a (by simpa using hi)
def aV.rA{α β:Type}{R:α->β->Prop}:∀{x:List α} {y:List β},x.length=y.length->(∀(i:Nat) (a:α) (b:β),x[i]? =some a->y[i]? =some b->R a b)->aV R x y
 |[],[],_,_=>.nil
 |[],_::_,h,_=>by simp at h
 |_::_,[],h,_=>by simp at h
 |a::x,b::y,h,hr=>.cons (hr 0 a b rfl rfl) (aV.rA (by simpa using h) λi c d hc hd=>hr (i+1) c d (by simpa using hc) (by simpa using hd))
def aV.drop{α β:Type}{R:α->β->Prop}{x:List α}{y:List β}(h:aV R x y)(n:Nat):aV R (x.drop n) (y.drop n):=by
 induction h generalizing n with
 |nil=>simpa using aV.nil
 |cons h t ih=>cases n with
  |zero=>exact .cons h t
  |succ n=>simpa using ih n
def aV.take{α β:Type}{R:α->β->Prop}{x:List α}{y:List β}(h:aV R x y)(n:Nat):aV R (x.take n) (y.take n):=by
 induction h generalizing n with
 |nil=>simpa using aV.nil
 |cons h t ih=>cases n with
  |zero=>exact .nil
  |succ n=>simpa using aV.cons h (ih n)
abbrev aH:=Nat->Option Pl
def zH(pl:Pl)(a:Addr)(len cap:Nat)(c:Addr)(an:Nat):Prop:=
 (c=⟨pl.bh,pl.off+a.off,none⟩/\(an=cap\/(0<pl.aj/\a.off+cap*pl.aj=pl.n/\a.off+an*pl.aj=pl.cap/\cap<=an)))\/(len=0/\cap=0/\an=0)
inductive kC(ρ:aH):Fn->Fn->Prop
 |func (f:FuncId):kC ρ (.func f) (.func f)
 |yield {l:Nat} {pl:Pl}:ρ l=some pl->kC ρ (.yield l) (.yield pl.bh)
inductive aR(ρ:aH):Value->Value->Prop
 |bool (b:Bool):aR ρ (.bool b) (.bool b)
 |int (k:IntKind) (n:Int):aR ρ (.int k n) (.int k n)
 |string (s:ByteArray):aR ρ (.string s) (.string s)
 |rB:aR ρ (.pointer none) (.pointer none)
 |ptr {a:Addr} {pl:Pl}:ρ a.block=some pl->aR ρ (.pointer (some a)) (.pointer (some ⟨pl.bh,pl.off+a.off,none⟩))
 |kD (l k:Nat):aR ρ (.slice none l k) (.slice none l k)
 |sl {a c:Addr} {l k k':Nat} {pl:Pl}:ρ a.block=some pl->zH pl a l k c k'->aR ρ (.slice (some a) l k) (.slice (some c) l k')
 |oJ:aR ρ (.map none) (.map none)
 |map {r:Nat} {pl:Pl}:ρ r=some pl->aR ρ (.map (some r)) (.map (some pl.bh))
 |func {fn aM:Fn} {a a' c c':Array Value}:kC ρ fn aM->a.size=a'.size->(∀(i:Nat) (v v':Value),a[i]? =some v->a'[i]? =some v'->aR ρ v v')->c.size=c'.size->
  (∀(i:Nat) (v v':Value),c[i]? =some v->c'[i]? =some v'->aR ρ v v')->aR ρ (.func fn a c) (.func aM a' c')
 |nilFunc:aR ρ .nilFunc .nilFunc
 |iface {t:TypeId} {v v':Value}:aR ρ v v'->aR ρ (.iface t v) (.iface t v')
 |nilIface:aR ρ .nilIface .nilIface
 |agg {a a':Array Value}:a.size=a'.size->(∀(i:Nat) (v v':Value),a[i]? =some v->a'[i]? =some v'->aR ρ v v')->aR ρ (.agg a) (.agg a')
 |tuple {a a':Array Value}:a.size=a'.size->(∀(i:Nat) (v v':Value),a[i]? =some v->a'[i]? =some v'->aR ρ v v')->aR ρ (.tuple a) (.tuple a')
def Ext(ρ ad:aH):Prop:=∀i pl,ρ i=some pl->ad i=some pl
def Ext.refl(ρ:aH):Ext ρ ρ:=λ_ _ h=>h
def Ext.trans{ρ ad ah:aH}(h:Ext ρ ad)(h':Ext ad ah):Ext ρ ah:=λi pl x=>h' i pl (h i pl x)
def kC.mono{ρ ad:aH}(hx:Ext ρ ad){f g:Fn}(h:kC ρ f g):kC ad f g:=by
 cases h with
 |func f=>exact .func f
 |yield h=>exact .yield (hx _ _ h)
def aR.mono{ρ ad:aH}(hx:Ext ρ ad){v v':Value}(h:aR ρ v v'):aR ad v v':=by
 induction h with
 |bool b=>exact .bool b
 |int k n=>exact .int k n
 |string s=>exact .string s
 |rB=>exact .rB
 |ptr h=>exact .ptr (hx _ _ h)
 |kD l k=>exact .kD l k
 |sl h hs=>exact .sl (hx _ _ h) hs
 |oJ=>exact .oJ
 |map h=>exact .map (hx _ _ h)
 |func hf h1 _ h2 _ aS aT=>exact .func (hf.mono hx) h1 aS h2 aT
 |nilFunc=>exact .nilFunc
 |iface _ ih=>exact .iface ih
 |nilIface=>exact .nilIface
 |agg h1 _ ih=>exact .agg h1 ih
 |tuple h1 _ ih=>exact .tuple h1 ih
abbrev bN(ρ:aH):=aV (aR ρ)
def bN.mono{ρ ad:aH}(hx:Ext ρ ad){x y:List Value}(h:bN ρ x y):bN ad x y:=aV.mono h λ_ _=>aR.mono hx
def rC{ρ:aH}{a a':Array Value}(h:a.size=a'.size)(hr:∀(i:Nat) (v v':Value),a[i]? =some v->a'[i]? =some v'->aR ρ v v'):bN ρ a.toList a'.toList:=
 aV.rA (by simpa using h) λi v v' hv aq=>hr i v v' (by simpa using hv) (by simpa using aq)
def ti{ρ:aH}{a a':Array Value}(h:bN ρ a.toList a'.toList):a.size=a'.size/\∀(i:Nat) (v v':Value),a[i]? =some v->a'[i]? =some v'->aR ρ v v':=by
 refine⟨by simpa using h.length,λi v v' hv aq=> ?_⟩;obtain⟨b,hb,hr⟩:=h.get i v (by simpa using hv);have:a'[i]? =some b:=by simpa using hb
 rw[this]at aq;cases aq;exact hr
def aR.Mz{ρ:aH}{a a':Array Value}:aR ρ (.agg a) (.agg a')↔bN ρ a.toList a'.toList:=
 ⟨λh=>by cases h with|agg h1 h2=>exact rC h1 h2,λh=>.agg (ti h).1 (ti h).2⟩
def aR.kE{ρ:aH}{a a':Array Value}:aR ρ (.tuple a) (.tuple a')↔bN ρ a.toList a'.toList:=
 ⟨λh=>by cases h with|tuple h1 h2=>exact rC h1 h2,λh=>.tuple (ti h).1 (ti h).2⟩
def aR.qc{ρ:aH}{a:Array Value}{v':Value}(h:aR ρ (.agg a) v'):∃a',v'=.agg a'/\bN ρ a.toList a'.toList:=by
 cases h with|agg h1 h2=>exact⟨_,rfl,rC h1 h2⟩
def aR.Et{ρ:aH}{a:Array Value}{v':Value}(h:aR ρ (.tuple a) v'):∃a',v'=.tuple a'/\bN ρ a.toList a'.toList:=by
 cases h with|tuple h1 h2=>exact⟨_,rfl,rC h1 h2⟩
def aR.w8{ρ:aH}{l:List Value}{a':Array Value}(h:bN ρ l a'.toList):aR ρ (.agg l.toArray) (.agg a'):=aR.Mz.2 (by simpa using h)
def zI{ρ:aH}:∀(n:Nat) (v:Value),ew n v=true->aR ρ v v
 |0,_,h=>by simp[ew]at h
 |n+1,v,h=>by
  have arr:∀a:Array Value,a.toList.all (ew n)=true->∀(i:Nat) (v v':Value),a[i]? =some v->a[i]? =some v'->aR ρ v v':=λa ha i v v' hv aq=>by
   rw[hv]at aq;cases aq;exact zI n v (afv.1 ha v (by
    have:a.toList[i]? =some v:=by simpa using hv
    exact List.mem_of_getElem? this))
  cases v with
  |bool b=>exact .bool b
  |int k n=>exact .int k n
  |string s=>exact .string s
  |pointer a=>cases a with
   |none=>exact .rB
   |some a=>simp[ew]at h
  |slice a l k=>cases a with
   |none=>exact .kD l k
   |some a=>simp[ew]at h
  |map r=>cases r with
   |none=>exact .oJ
   |some a=>simp[ew]at h
  |nilFunc=>exact .nilFunc
  |nilIface=>exact .nilIface
  |iface t v=>exact .iface (zI n v (by simpa[ew]using h))
  |agg a=>exact .agg rfl (arr a (by simpa[ew]using h))
  |tuple a=>exact .tuple rfl (arr a (by simpa[ew]using h))
  |_=>simp[ew]at h
def nI{ρ:aH}{v:Value}(h:plain v=true):aR ρ v v:=zI 6 v h
def zJ{ρ:aH}:∀(n:Nat) (v v':Value),ew n v=true->aR ρ v v'->v'=v
 |0,_,_,h,_=>by simp[ew]at h
 |n+1,v,v',h,hr=>by
  have arr:∀a a':Array Value,a.toList.all (ew n)=true->a.size=a'.size->(∀(i:Nat) (v v':Value),a[i]? =some v->a'[i]? =some v'->aR ρ v v')->a'=a:=λa a' ha hs hv=>by
   apply Array.ext aa;intro i h1 h2;exact zJ n _ _ (afv.1 ha a[i] aw) (hv i _ _ (afw h2) (afw h1))
  cases hr with
  |iface hv=>rw[zJ n _ _ (by simpa[ew]using h) hv]
  |agg hs hv=>rw[arr _ _ (by simpa[ew]using h) hs hv]
  |tuple hs hv=>rw[arr _ _ (by simpa[ew]using h) hs hv]
  |ptr _=>simp[ew]at h
  |sl _ _=>simp[ew]at h
  |map _=>simp[ew]at h
  |func _ _ _ _ _=>simp[ew]at h
  |_=>rfl
def qd{ρ:aH}{v v':Value}(h:plain v=true)(hr:aR ρ v v'):v'=v:=zJ 6 v v' h hr
def bP.wr:bP->Bool
 |.row _ wr _=>wr
 |_=>true
structure eW(ρ:aH)(x y:MapEntry):Prop where
 key:y.key=x.key
 plain:plain x.key=true
 val:aR ρ x.val y.val
 born:y.born=x.born
def j5(ρ:aH)(t:Tr Value)(n:Nat)(a:Array Value):Prop:=a.size=n/\∀i v,t.get i=some v->i<n/\aR ρ v (a.getD i undef)
def iQ(ρ:aH)(w:World)(pl:Pl):bP->Prop
 |.row cs wr aj=>∃c el fz,w.heap[pl.bh]? =some (.cells c el fz)/\(wr=true->fz=(0,0))/\pl.n=cs.length/\pl.aj=aj/\pl.n<=pl.cap/\pl.off+pl.cap<=c.size/\(aj=0->pl.cap=pl.n)/\
  bN ρ cs ((c.toList.drop pl.off).take pl.n)/\(cs=[]->pl.LC (.cells c el fz))
 |.map es clock=>pl.off=0/\∃aC,w.heap[pl.bh]? =some (.map aC clock)/\aV (eW ρ) es aC.toList
 |.cF m since seen last=>pl.off=0/\∃m',w.heap[pl.bh]? =some (.mapIter m' since seen.toArray last)/\aR ρ (.map m) (.map m')
 |.eY s pos=>pl.off=0/\w.heap[pl.bh]? =some (.stringIter s pos)
 |.loop st aA t n params bX body fU=>pl.off=0/\∃fn tmps aF,ρ fU=some aF/\j5 ρ t n tmps/\
  w.heap[pl.bh]? =some (.loop {state:=st,pending:=aA,fn,tmps,params:=params.toArray,assign:=bX,body,defers:=aF.bh})
 |.fU empty=>pl.off=0/\w.heap[pl.bh]? =some (.deferred (if empty then some []else none))
def eW.mono{ρ ad:aH}(hx:Ext ρ ad){x y:MapEntry}(h:eW ρ x y):eW ad x y:=⟨h.key,h.plain,h.val.mono hx,h.born⟩
def j5.mono{ρ ad:aH}(hx:Ext ρ ad){t:Tr Value}{n:Nat}{a:Array Value}(h:j5 ρ t n a):j5 ad t n a:=⟨h.1,λi v hv=>⟨(h.2 i v hv).1,(h.2 i v hv).2.mono hx⟩⟩
def iQ.mono{ρ ad:aH}{w w':World}{pl:Pl}{o:bP}(hx:Ext ρ ad)(hw:w'.heap[pl.bh]? =w.heap[pl.bh]?)(h:iQ ρ w pl o):iQ ad w' pl o:=by
 cases o with
 |row cs wr aj=>
  obtain⟨c,el,fz,h1,h2,h3,h4,h5,h6,h7,h8⟩:=h;exact⟨c,el,fz,hw▸h1,h2,h3,h4,h5,h6,h7,h8.1.mono hx,h8.2⟩
 |map es clock=>obtain⟨h0,aC,h1,h2⟩:=h;exact⟨h0,aC,hw▸h1,h2.mono λ_ _=>eW.mono hx⟩
 |cF m since seen last=>obtain⟨h0,m',h1,h2⟩:=h;exact⟨h0,m',hw▸h1,h2.mono hx⟩
 |eY s pos=>exact⟨h.1,hw▸h.2⟩
 |loop st aA t n params bX body fU=>
  obtain⟨h0,fn,tmps,aF,h1,h2,h3⟩:=h;exact⟨h0,fn,tmps,aF,hx _ _ h1,h2.mono hx,hw▸h3⟩
 |fU e=>exact⟨h.1,hw▸h.2⟩
def iQ.lt{ρ:aH}{w:World}{pl:Pl}{o:bP}(h:iQ ρ w pl o):pl.bh<w.heap.size:=by
 have key:∀{x:Obj},w.heap[pl.bh]? =some x->pl.bh<w.heap.size:=λhx=>(Xy.1 hx).1;cases o with
 |row cs wr aj=>obtain⟨c,el,fz,h1,_⟩:=h;exact key h1
 |map es clock=>obtain⟨_,aC,h1,_⟩:=h;exact key h1
 |cF m since seen last=>obtain⟨_,m',h1,_⟩:=h;exact key h1
 |eY s pos=>exact key h.2
 |loop st aA t n params bX body fU=>obtain⟨_,fn,tmps,aF,_,_,h3⟩:=h;exact key h3
 |fU e=>exact key h.2
structure bz(ρ:aH)(h:ab)(w:World):Prop where
 iA:∀i pl,ρ i=some pl->i<h.next
 obj:∀i o,h.get i=some o->∃pl,ρ i=some pl/\iQ ρ w pl o
 sep:∀i j o p pi pj,i≠j->h.get i=some o->o.wr=true->h.get j=some p->ρ i=some pi->ρ j=some pj->pi.bh≠pj.bh
def Host(ρ:aH)(h:ab)(b:Nat):Prop:=∃i o pl,h.get i=some o/\o.wr=true/\ρ i=some pl/\pl.bh=b
structure Fr(b:Nat)(ρ:aH)(h:ab)(w:World)(ad:aH)(h':ab)(w':World):Prop where
 ext:Ext ρ ad
 os:w'.os=w.os
 output:w'.output=w.output
 size:w.heap.size<=w'.heap.size
 frozen:∀a,a.block<w.heap.size->w'.frozen? a=w.frozen? a
 kept:∀k,k<w.heap.size->¬Host ρ h k->w'.heap[k]? =w.heap[k]?
 new:∀i o pl,h'.get i=some o->o.wr=true->ad i=some pl->Host ρ h pl.bh\/w.heap.size<=pl.bh
 ro:∀i o,h'.get i=some o->o.wr=false->h.get i=some o
 ids:∀i,ρ i=none->ad i≠none->b<=i
 bl:∀i o,h'.get i=some o->i<b->∃p,h.get i=some p
 next:h.next<=h'.next
def Fr.refl(b:Nat)(ρ:aH)(h:ab)(w:World):Fr b ρ h w ρ h w:=
 ⟨Ext.refl _,rfl,rfl,E2 _,λ_ _=>rfl,λ_ _ _=>rfl,λi o pl h1 h2 h3=>.inl ⟨i,o,pl,h1,h2,h3,rfl⟩,λ_ _ h _=>h,λ_ h h'=>absurd h h',λ_ o h _=>⟨o,h⟩,E2 _⟩
def Fr.mono{b b':Nat}{ρ ad:aH}{h h':ab}{w w':World}(x:Fr b ρ h w ad h' w')(hb:b'<=b):Fr b' ρ h w ad h' w':=
 ⟨x.ext,x.os,x.output,x.size,x.frozen,x.kept,x.new,x.ro,λi h1 h2=>YN hb (x.ids i h1 h2),λi o h1 h2=>x.bl i o h1 (RK h2 hb),x.next⟩
def Fr.trans{b:Nat}{ρ ad ah:aH}{h h' aN:ab}{w w' aQ:World}(x:Fr b ρ h w ad h' w')(y:Fr b ad h' w' ah aN aQ):Fr b ρ h w ah aN aQ:=by
 refine⟨x.ext.trans y.ext,y.os.trans x.os,y.output.trans x.output,YN x.size y.size,λa ha=>(y.frozen a (RK ha x.size)).trans (x.frozen a ha), ?_, ?_, ?_, ?_,λi o h1 h2=>let⟨p,hp⟩:=y.bl i o h1 h2;x.bl i p hp h2,YN x.next y.next⟩
 . intro k hb hh;rw[y.kept k (RK hb x.size) ?_,x.kept k hb hh];rintro⟨i,o,pl,h1,h2,h3,rfl⟩;rcases x.new i o pl h1 h2 h3 with h4|h4
   . exact hh h4
   . omega
 . intro i o pl h1 h2 h3;rcases y.new i o pl h1 h2 h3 with⟨j,p,pj,g1,g2,g3,g4⟩|h4
   . rw[<-g4];exact x.new j p pj g1 g2 g3
   . exact .inr (YN x.size h4)
 . intro i o h1 h2;exact x.ro i o (y.ro i o h1 h2) h2
 . intro i h1 h2;by_cases h3:ad i=none
   . exact y.ids i h3 h2
   . exact x.ids i h1 h3
def bz.sub{ρ:aH}{h g:ab}{w:World}(x:bz ρ h w)(hs:∀i o,g.get i=some o->h.get i=some o)(hn:h.next<=g.next):bz ρ g w:=
 ⟨λi pl hp=>RK (x.iA i pl hp) hn,λi o ho=>x.obj i o (hs i o ho),λi j o p pi pj ak h1 h2 h3=>x.sep i j o p pi pj ak (hs i o h1) h2 (hs j p h3)⟩
def Eu{ρ:aH}{h:ab}{w w':World}(hh:w'.heap=w.heap)(ho:w'.os=w.os)(hu:w'.output=w.output)(b:Nat):Fr b ρ h w ρ h w':=
 ⟨Ext.refl _,ho,hu,by rw[hh];exact E2 _,λa _=>by simp[World.frozen?,hh],λ_ _ _=>by rw[hh],λi o pl h1 h2 h3=>.inl ⟨i,o,pl,h1,h2,h3,rfl⟩,λ_ _ h _=>h,λ_ h h'=>absurd h h',λ_ o h _=>⟨o,h⟩,E2 _⟩
def bz.draw{ρ:aH}{h:ab}{w w':World}(x:bz ρ h w)(hh:w'.heap=w.heap):bz ρ h w':=
 ⟨x.iA,λi o ho=>let⟨pl,h1,h2⟩:=x.obj i o ho;⟨pl,h1,h2.mono (Ext.refl _) (by rw[hh])⟩,x.sep⟩
def aH.put(ρ:aH)(i:Nat)(pl:Pl):aH:=λj=>if j=i then some pl else ρ j
def aH.lg(ρ:aH)(i:Nat)(pl:Pl):ρ.put i pl i=some pl:=by simp[aH.put]
def aH.j6(ρ:aH){i j:Nat}(pl:Pl)(h:j≠i):ρ.put i pl j=ρ j:=by simp[aH.put,h]
def aH.rD{ρ:aH}{i:Nat}(pl:Pl)(h:ρ i=none):Ext ρ (ρ.put i pl):=λj p hj=>by
 have:j≠i:=λe=>by rw[e,h]at hj;cases hj
 rw[aH.j6 _ _ this];exact hj
def bz.fresh{ρ:aH}{h:ab}{w:World}(x:bz ρ h w):ρ h.next=none:=by
 cases e:ρ h.next with
 |none=>rfl
 |some pl=>exact absurd (x.iA _ _ e) (Nat.lt_irrefl _)
def World.add(w:World)(o:Obj):World:={w with heap:=w.heap.push o}
def w9(w:World)(o:Obj):(World.add w o).heap[w.heap.size]? =some o:=by
 show(w.heap.push o)[w.heap.size]? =some o;rw[afx,if_pos rfl]
def zK(w:World)(o:Obj){b:Nat}(hb:b<w.heap.size):(World.add w o).heap[b]? =w.heap[b]? :=by
 show(w.heap.push o)[b]? =_;rw[afx,if_neg (Zf hb)]
def Ev(w:World)(o:Obj):(World.add w o).heap.size=w.heap.size+1:=by
 show(w.heap.push o).size=_;simp
def Obj.lh:Obj->Bool
 |.cells _ _ fz=>fz==(0,0)
 |_=>true
def MA(w:World)(o:Obj)(ho:Obj.lh o=true)(a:Addr):(World.add w o).frozen? a=w.frozen? a:=by
 by_cases h:a.block<w.heap.size
 . simp only[World.frozen?,zK w o h]
 . have e2:w.heap[a.block]? =none:=by simp;omega
   by_cases h':a.block=w.heap.size
   . have e1:(World.add w o).heap[a.block]? =some o:=by rw[h'];exact w9 w o
     simp only[World.frozen?,e1,e2];cases o<;>simp_all[Obj.lh]
   . have e1:(World.add w o).heap[a.block]? =none:=by rw[Array.getElem?_eq_none_iff,Ev];omega
     simp only[World.frozen?,e1,e2]
structure Slot(b:Nat)(ρ:aH)(h:ab)(id:Nat)(ao:bP)(h':ab):Prop where
 free:ρ id=none
 ge:b<=id
 get:∀j,h'.get j=if j=id then some ao else h.get j
 next:h.next<=h'.next
 lt:id<h'.next
def bz.slot{ρ:aH}{h:ab}{w:World}(x:bz ρ h w)(ao:bP):Slot h.next ρ h h.next ao (h.new ao):=
 ⟨x.fresh,E2 _,λj=>ab.dN _ _ _,Nat.le_succ _,afy _⟩
def zL{b id:Nat}{ρ:aH}{h h':ab}{w:World}{ao:bP}{o:Obj}{pl:Pl}(x:bz ρ h w)(s:Slot b ρ h id ao h')(hu:Obj.lh o=true)(hb:pl.bh=w.heap.size)
 (hr:iQ (ρ.put id pl) (World.add w o) pl ao) (hw:ao.wr=true):bz (ρ.put id pl) h' (World.add w o)/\Fr b ρ h w (ρ.put id pl) h' (World.add w o):=by
 have ae:Ext ρ (ρ.put id pl):=aH.rD pl s.free;refine⟨⟨?_, ?_, ?_⟩,⟨ae,rfl,rfl,by rw[Ev];omega,λa _=>MA w o hu a,λb aU _=>zK w o aU, ?_, ?_, ?_, ?_,s.next⟩⟩
 . intro i p hp;by_cases e:i=id
   . rw[e];exact s.lt
   . rw[aH.j6 _ _ e]at hp;exact RK (x.iA i p hp) s.next
 . intro i o' av;rw[s.get]at av;by_cases e:i=id
   . rw[if_pos e]at av;cases av;subst e;exact⟨pl,aH.lg _ _ _,hr⟩
   . rw[if_neg e]at av;obtain⟨pi,h1,h2⟩:=x.obj i o' av;exact⟨pi,ae _ _ h1,h2.mono ae (zK w o h2.lt)⟩
 . intro i j o' p pi pj ak h1 h2 h3 h4 h5;rw[s.get]at h1 h3;by_cases ei:i=id
   . by_cases ej:j=id
     . exact absurd (ei.trans ej.symm) ak
     . rw[if_neg ej]at h3;rw[ei,aH.lg]at h4;cases h4;rw[aH.j6 _ _ ej]at h5;obtain⟨aX,g1,g2⟩:=x.obj j p h3;rw[g1]at h5;cases h5;have:=g2.lt;omega
   . rw[if_neg ei]at h1;rw[aH.j6 _ _ ei]at h4;obtain⟨ba,g1,g2⟩:=x.obj i o' h1;rw[g1]at h4;cases h4;by_cases ej:j=id
     . rw[ej,aH.lg]at h5;cases h5;have:=g2.lt;omega
     . rw[if_neg ej]at h3;rw[aH.j6 _ _ ej]at h5;exact x.sep i j o' p pi pj ak h1 h2 h3 g1 h5
 . intro i o' p h1 h2 h3;rw[s.get]at h1;by_cases e:i=id
   . rw[e,aH.lg]at h3;cases h3;exact .inr (Nat.le_of_eq hb.symm)
   . rw[if_neg e]at h1;rw[aH.j6 _ _ e]at h3;exact .inl ⟨i,o',p,h1,h2,h3,rfl⟩
 . intro i o' h1 h2;rw[s.get]at h1;by_cases e:i=id
   . rw[if_pos e]at h1;cases h1;rw[hw]at h2;cases h2
   . rw[if_neg e]at h1;exact h1
 . intro i h1 h2;by_cases e:i=id
   . rw[e];exact s.ge
   . rw[aH.j6 _ _ e]at h2;exact absurd h1 h2
 . intro i o' h1 h2;rw[s.get,if_neg (Zf (RK h2 s.ge))]at h1;exact⟨o',h1⟩
def World.gH(w:World)(b:Nat)(o:Obj):World:={w with heap:=w.heap.setIfInBounds b o}
def oK(w:World)(b:Nat)(o:Obj)(hb:b<w.heap.size):(World.gH w b o).heap[b]? =some o:=by
 simp[World.gH,hb]
def uX(w:World){b c:Nat}(o:Obj)(h:c≠b):(World.gH w b o).heap[c]? =w.heap[c]? :=by
 simp[World.gH,afz,RW h]
def Ew(w:World)(b:Nat)(o p:Obj)(hp:w.heap[b]? =some p)(h1:Obj.lh o=true)(h2:Obj.lh p=true)(a:Addr):
 (World.gH w b o).frozen? a=w.frozen? a:=by
 by_cases e:a.block=b
 . have hb:b<w.heap.size:=(Xy.1 hp).1;simp only[World.frozen?,e,oK w b o hb,hp];cases o<;>cases p<;>simp_all[Obj.lh]
 . simp only[World.frozen?,uX w o e]
def iQ.lh{ρ:aH}{w:World}{pl:Pl}{o:bP}(h:iQ ρ w pl o)(hw:o.wr=true):∃p,w.heap[pl.bh]? =some p/\Obj.lh p=true:=by
 cases o with
 |row cs wr aj=>
  obtain⟨c,el,fz,h1,h2,_⟩:=h;exact⟨_,h1,by simp[Obj.lh,h2 hw]⟩
 |map es clock=>obtain⟨_,aC,h1,_⟩:=h;exact⟨_,h1,rfl⟩
 |cF m since seen last=>obtain⟨_,m',h1,_⟩:=h;exact⟨_,h1,rfl⟩
 |eY s pos=>exact⟨_,h.2,rfl⟩
 |loop st aA t n params bX body fU=>obtain⟨_,fn,tmps,aF,_,_,h3⟩:=h;exact⟨_,h3,rfl⟩
 |fU e=>exact⟨_,h.2,rfl⟩
def rE{b:Nat}{ρ:aH}{h:ab}{w:World}{i:Nat}{ao ao':bP}{o:Obj}{pl:Pl}(x:bz ρ h w)(hi:h.get i=some ao)(hw:ao.wr=true)(hp:ρ i=some pl)
 (hu:Obj.lh o=true) (hr:iQ ρ (World.gH w pl.bh o) pl ao') (aI:ao'.wr=true):
 bz ρ (h.set i (some ao')) (World.gH w pl.bh o)/\Fr b ρ h w ρ (h.set i (some ao')) (World.gH w pl.bh o):=by
 obtain⟨pl',e1,e2⟩:=x.obj i ao hi;rw[hp]at e1;cases e1;obtain⟨p,aJ,aK⟩:=e2.lh hw;refine⟨⟨x.iA, ?_, ?_⟩,⟨Ext.refl _,rfl,rfl,by simp[World.gH],λa _=>Ew w _ o p aJ hu aK a, ?_, ?_, ?_,λ_ h h'=>absurd h h', ?_,E2 _⟩⟩
 . intro j q hj;rw[ab.bu]at hj;by_cases e:j=i
   . rw[if_pos e]at hj;cases hj;subst e;exact⟨pl,hp,hr⟩
   . rw[if_neg e]at hj;obtain⟨pj,g1,g2⟩:=x.obj j q hj;exact⟨pj,g1,g2.mono (Ext.refl _) (uX w o (RW (x.sep i j ao q pl pj (RW e) hi hw hj hp g1)))⟩
 . intro j k q r pj pk az h1 h2 h3 h4 h5;rw[ab.bu]at h1 h3;by_cases ej:j=i
   . by_cases ek:k=i
     . exact absurd (ej.trans ek.symm) az
     . rw[if_neg ek]at h3;subst ej;exact x.sep _ _ ao r pj pk az hi hw h3 h4 h5
   . rw[if_neg ej]at h1;by_cases ek:k=i
     . subst ek;exact x.sep _ _ q ao pj pk az h1 h2 hi h4 h5
     . rw[if_neg ek]at h3;exact x.sep j k q r pj pk az h1 h2 h3 h4 h5
 . intro b _ hh;refine uX w o λe=>hh ⟨i,ao,pl,hi,hw,hp,e.symm⟩
 . intro j q pj h1 h2 h3;rw[ab.bu]at h1;by_cases e:j=i
   . subst e;rw[hp]at h3;cases h3;exact .inl ⟨_,ao,pl,hi,hw,hp,rfl⟩
   . rw[if_neg e]at h1;exact .inl ⟨j,q,pj,h1,h2,h3,rfl⟩
 . intro j q h1 h2;rw[ab.bu]at h1;by_cases e:j=i
   . rw[if_pos e]at h1;cases h1;rw[aI]at h2;cases h2
   . rw[if_neg e]at h1;exact h1
 . intro j q h1 _;rw[ab.bu]at h1;by_cases e:j=i
   . subst e;exact⟨ao,hi⟩
   . rw[if_neg e]at h1;exact⟨q,h1⟩
def MB{ρ:aH}{h:ab}{w:World}{i:Nat}{ao ao':bP}{o:Obj}{pl pl':Pl}(x:bz ρ h w)(hi:h.get i=some ao)(hw:ao.wr=true)(hp:ρ i=some pl)
 (hu:Obj.lh o=true) (hb:pl'.bh=pl.bh) (hr:iQ (ρ.put h.next pl') (World.gH w pl.bh o) pl' ao') (aI:ao'.wr=true):
 bz (ρ.put h.next pl') ((h.set i none).new ao') (World.gH w pl.bh o)/\Fr h.next ρ h w (ρ.put h.next pl') ((h.set i none).new ao') (World.gH w pl.bh o):=by
 obtain⟨bb,e1,e2⟩:=x.obj i ao hi;rw[hp]at e1;cases e1;obtain⟨p,aJ,aK⟩:=e2.lh hw;have ae:Ext ρ (ρ.put h.next pl'):=aH.rD pl' x.fresh;have ai:∀j,((h.set i none).new ao').get j=if j=h.next then some ao' else if j=i then none else h.get j:=λj=>by rw[ab.dN,ab.bu];rfl
 have hold:∀j o',h.get j=some o'->j≠h.next:=λj o' av e=>by
  obtain⟨pi,h1,_⟩:=x.obj j o' av;rw[e,x.fresh]at h1;cases h1
 refine⟨⟨?_, ?_, ?_⟩,⟨ae,rfl,rfl,by simp[World.gH],λa _=>Ew w _ o p aJ hu aK a, ?_, ?_, ?_, ?_, ?_,Nat.le_succ _⟩⟩
 . intro j q hj;by_cases e:j=h.next
   . rw[e];exact afy _
   . rw[aH.j6 _ _ e]at hj;exact Nat.lt_succ_of_lt (x.iA j q hj)
 . intro j q hj;rw[ai]at hj;by_cases e:j=h.next
   . rw[if_pos e]at hj;cases hj;subst e;exact⟨pl',aH.lg _ _ _,hr⟩
   . rw[if_neg e]at hj;by_cases e':j=i
     . rw[if_pos e']at hj;cases hj
     . rw[if_neg e']at hj;obtain⟨pj,g1,g2⟩:=x.obj j q hj;exact⟨pj,ae _ _ g1,g2.mono ae (uX w o (RW (x.sep i j ao q pl pj (RW e') hi hw hj hp g1)))⟩
 . intro j k q r pj pk az h1 h2 h3 h4 h5;rw[ai]at h1 h3;by_cases ej:j=h.next
   . by_cases ek:k=h.next
     . exact absurd (ej.trans ek.symm) az
     . rw[if_neg ek]at h3;by_cases aG:k=i
       . rw[if_pos aG]at h3;cases h3
       . rw[if_neg aG]at h3;rw[ej,aH.lg]at h4;cases h4;rw[aH.j6 _ _ ek]at h5;rw[hb];exact x.sep i k ao r pl pk (RW aG) hi hw h3 hp h5
   . rw[if_neg ej]at h1;by_cases aL:j=i
     . rw[if_pos aL]at h1;cases h1
     . rw[if_neg aL]at h1;rw[aH.j6 _ _ ej]at h4;by_cases ek:k=h.next
       . rw[ek,aH.lg]at h5;cases h5;rw[hb];exact x.sep j i q ao pj pl aL h1 h2 hi h4 hp
       . rw[if_neg ek]at h3;by_cases aG:k=i
         . rw[if_pos aG]at h3;cases h3
         . rw[if_neg aG]at h3;rw[aH.j6 _ _ ek]at h5;exact x.sep j k q r pj pk az h1 h2 h3 h4 h5
 . intro b _ hh;exact uX w o λe=>hh ⟨i,ao,pl,hi,hw,hp,e.symm⟩
 . intro j q pj h1 h2 h3;rw[ai]at h1;by_cases e:j=h.next
   . rw[e,aH.lg]at h3;cases h3;exact .inl ⟨i,ao,pl,hi,hw,hp,hb.symm⟩
   . rw[if_neg e]at h1;by_cases e':j=i
     . rw[if_pos e']at h1;cases h1
     . rw[if_neg e']at h1;rw[aH.j6 _ _ e]at h3;exact .inl ⟨j,q,pj,h1,h2,h3,rfl⟩
 . intro j q h1 h2;rw[ai]at h1;by_cases e:j=h.next
   . rw[if_pos e]at h1;cases h1;rw[aI]at h2;cases h2
   . rw[if_neg e]at h1;by_cases e':j=i
     . rw[if_pos e']at h1;cases h1
     . rw[if_neg e']at h1;exact h1
 . intro j h1 h2;by_cases e:j=h.next
   . exact Nat.le_of_eq e.symm
   . rw[aH.j6 _ _ e]at h2;exact absurd h1 h2
 . intro j q h1 h2;rw[ai,if_neg (Zf h2)]at h1;by_cases e':j=i
   . subst e';exact⟨ao,hi⟩
   . rw[if_neg e']at h1;exact⟨q,h1⟩
def bz.kill{ρ:aH}{h:ab}{w:World}(x:bz ρ h w)(i b:Nat):bz ρ (h.set i none) w/\Fr b ρ h w ρ (h.set i none) w:=by
 have hs:∀j o,(h.set i none).get j=some o->h.get j=some o:=λj o hj=>by
  rw[ab.bu]at hj;by_cases e:j=i
  . rw[if_pos e]at hj;cases hj
  . rw[if_neg e]at hj;exact hj
 exact⟨x.sub hs (E2 _),⟨Ext.refl _,rfl,rfl,E2 _,λ_ _=>rfl,λ_ _ _=>rfl,λj o pl h1 h2 h3=>.inl ⟨j,o,pl,hs j o h1,h2,h3,rfl⟩,
  λj o h1 _=>hs j o h1,λ_ h h'=>absurd h h',λj o h1 _=>⟨o,hs j o h1⟩,E2 _⟩⟩
def bz.extend{b:Nat}{ρ ad:aH}{u g g' u':ab}{w w':World}(x:bz ρ u w)(hs:∀i o,g.get i=some o->u.get i=some o)(y:bz ad g' w')(f:Fr b ρ g w ad g' w')
 (hu:∀i o,u'.get i=some o->g'.get i=some o\/(u.get i=some o/\g.get i=none)) (hn:u.next<=u'.next) (aW:g'.next<=u'.next):bz ad u' w'/\Fr b ρ u w ad u' w':=by
 have host:∀{k},Host ρ g k->Host ρ u k:=λ⟨i,o,pl,h1,h2,h3,h4⟩=>⟨i,o,pl,hs i o h1,h2,h3,h4⟩;have aside:∀{i o pl},u.get i=some o->g.get i=none->ρ i=some pl->¬Host ρ g pl.bh:=λ{i o pl} h1 h2 h3 ⟨j,p,pj,g1,g2,g3,g4⟩=>by
  have ak:j≠i:=λe=>by rw[e,h2]at g1;cases g1
  exact x.sep j i p o pj pl ak (hs j p g1) g2 h1 g3 h3 g4
 have key:∀{i o pl j p pj},u.get i=some o->g.get i=none->ρ i=some pl->g'.get j=some p->p.wr=true->ad j=some pj->pj.bh≠pl.bh:=λ{i o pl j p pj} h1 h2 h3 h4 h5 h6 e=>by
  rcases f.new j p pj h4 h5 h6 with h7|h7
  . rw[e]at h7;exact aside h1 h2 h3 h7
  . obtain⟨pl',q1,q2⟩:=x.obj i o h1;rw[h3]at q1;cases q1;have:=q2.lt;omega
 refine⟨⟨λi pl h=>RK (y.iA i pl h) aW,λi o h=> ?_,λi j o p pi pj ak h1 h2 h3 h4 h5=> ?_⟩,
  ⟨f.ext,f.os,f.output,f.size,f.frozen,λk hk hh=>f.kept k hk λh=>hh (host h),λi o pl h1 h2 h3=> ?_,λi o h1 h2=> ?_,f.ids,λi o h1 h2=> ?_,hn⟩⟩
 . rcases hu i o h with h|⟨h1,h2⟩
   . exact y.obj i o h
   . obtain⟨pl,q1,q2⟩:=x.obj i o h1;exact⟨pl,f.ext _ _ q1,q2.mono f.ext (f.kept _ q2.lt (aside h1 h2 q1))⟩
 . rcases hu i o h1 with a1|⟨a1,a2⟩
   . rcases hu j p h3 with b1|⟨b1,b2⟩
     . exact y.sep i j o p pi pj ak a1 h2 b1 h4 h5
     . obtain⟨pl,q1,q2⟩:=x.obj j p b1;rw[f.ext _ _ q1]at h5;cases h5;exact key b1 b2 q1 a1 h2 h4
   . obtain⟨pl,q1,q2⟩:=x.obj i o a1;rw[f.ext _ _ q1]at h4;cases h4;rcases hu j p h3 with b1|⟨b1,b2⟩
     . cases hw:p.wr with
       |true=>exact RW (key a1 a2 q1 b1 hw h5)
       |false=>
        have hg:=f.ro j p b1 hw;obtain⟨pl',r1,r2⟩:=x.obj j p (hs j p hg);rw[f.ext _ _ r1]at h5;cases h5;exact x.sep i j o p _ _ ak a1 h2 (hs j p hg) q1 r1
     . obtain⟨pl',r1,r2⟩:=x.obj j p b1;rw[f.ext _ _ r1]at h5;cases h5;exact x.sep i j o p _ _ ak a1 h2 b1 q1 r1
 . rcases hu i o h1 with a1|⟨a1,a2⟩
   . exact(f.new i o pl a1 h2 h3).imp host id
   . obtain⟨pl',q1,q2⟩:=x.obj i o a1;rw[f.ext _ _ q1]at h3;cases h3;exact .inl ⟨i,o,_,a1,h2,q1,rfl⟩
 . rcases hu i o h1 with a1|⟨a1,a2⟩
   . exact hs _ _ (f.ro i o a1 h2)
   . exact a1
 . rcases hu i o h1 with a1|⟨a1,a2⟩
   . obtain⟨p,hp⟩:=f.bl i o a1 h2;exact⟨p,hs _ _ hp⟩
   . exact⟨o,a1⟩
def cg{α:Type}{b:Bool}{x:Option α}{r:α}(h:(bif b then x else none)=some r):b=true/\x=some r:=by
 cases b with
 |true=>exact⟨rfl,h⟩
 |false=>cases h
def uY{α:Type}(P:Program):∀(s:Sem α) (a:α),b9 P s=some a->∀w,s.run P w=.ok a w
 |.pure a,b,h,w=>by simp only[b9,yB]at h;subst h;rfl
 |.program k,b,h,w=>uY P (k P) b h w
 |.load _ _ _,_,h,_|.store _ _ _ _,_,h,_|.new _ _,_,h,_|.shape _ _,_,h,_|.freeze _ _ _,_,h,_|.frozen _ _,_,h,_|.getObj _ _,_,h,_|.setObj _ _ _,_,h,_
 |.choose _ _,_,h,_|.sys _ _,_,h,_|.mark _ _,_,h,_|.halt _,_,h,_=>by simp[b9]at h
structure Env.Ok(e:Env):Prop where
 under:∀t d,e.under t=some d->e.P.underlying t=some d
 size:∀t n,e.size t=some n->∃i,e.P.info? t=some i/\i.size=n
 bytes:∀t n,e.bytes t=some n->∃i,e.P.info? t=some i/\i.bytes=n
 zero:∀t z,e.zero t=some z->∃i,e.P.info? t=some i/\i.zero=some z/\plain z=true
 fields:∀t fs,e.under t=some (.struct fs)->∀f∈fs.toList,∃n,e.size f.type=some n
 fn:∀f fn,e.fn f=some fn->e.P.funcs[f]? =some fn/\∀args w,(callFunc f args).run e.P w=.ok (.enter f args) w
def Gl(e:Env)(ρ:aH):Prop:=(∀g,g<e.oD->∃pl,ρ g=some pl/\pl.bh=g/\pl.off=0)/\∀p∈e.pins,ρ p.1=some p.2
def Gl.mono{e:Env}{ρ ah:aH}(hx:Ext ρ ah)(h:Gl e ρ):Gl e ah:=⟨λg hg=>let⟨pl,h1,h2⟩:=h.1 g hg;⟨pl,hx _ _ h1,h2⟩,λp hp=>hx _ _ (h.2 p hp)⟩
section runs
variable {P:Program} {w:World}
def run_underlying{t:TypeId}{d:TypeDesc}(h:P.underlying t=some d):(underlying t).run P w=.ok d w:=by simp[underlying,h]
def run_typeInfo{t:TypeId}{i:TypeInfo}(h:P.info? t=some i):(typeInfo t).run P w=.ok i w:=by simp[typeInfo,h]
def run_sizeOf{t:TypeId}{i:TypeInfo}{n:Nat}(h:P.info? t=some i/\i.size=n):(sizeOf t).run P w=.ok n w:=by simp[sizeOf,run_typeInfo h.1,h.2]
def MC{t:TypeId}{i:TypeInfo}{z:Value}(h:P.info? t=some i)(hz:i.zero=some z):(zeroValue t).run P w=.ok z w:=by simp[zeroValue,run_typeInfo h,hz]
def MD{t:TypeId}{d:TypeDesc}(h:P.underlying t=some d):(isAgg t).run P w=.ok (jZ d) w:=by
 cases d<;>simp[isAgg,run_underlying h,jZ]
end runs
variable {e:Env}
def Env.Ok.dj(he:e.Ok){t:TypeId}{d:TypeDesc}(h:e.under t=some d)(w:World):(underlying t).run e.P w=.ok d w:=run_underlying (he.under t d h)
def Env.Ok.iR(he:e.Ok){t:TypeId}{n:Nat}(h:e.size t=some n)(w:World):(sizeOf t).run e.P w=.ok n w:=let⟨_,h1⟩:=he.size t n h;run_sizeOf h1
def Env.Ok.nJ(he:e.Ok){t:TypeId}{z:Value}(h:e.zero t=some z)(w:World):(zeroValue t).run e.P w=.ok z w:=let⟨_,h1,h2,_⟩:=he.zero t z h;MC h1 h2
def Env.Ok.xa(he:e.Ok){t:TypeId}{d:TypeDesc}(h:e.under t=some d)(w:World):(isAgg t).run e.P w=.ok (jZ d) w:=MD (he.under t d h)
def Env.Ok.ME(he:e.Ok){t:TypeId}{n:Nat}(h:e.bytes t=some n)(w:World):∃i,(typeInfo t).run e.P w=.ok i w/\i.bytes=n:=let⟨i,h1,h2⟩:=he.bytes t n h;⟨i,run_typeInfo h1,h2⟩
def kF{ρ:aH}{t:Tr Value}{n:Nat}{a:Array Value}(hg:Gl e ρ)(ht:j5 ρ t n a){o:Operand}{v:Value}(h:aF e t o=some v)(ds:List Deferred):
 aR ρ v ((Act.mk a ds).eval o):=by
 cases o with
 |tmp i=>exact(ht.2 i v h).2
 |const x=>
  simp only[aF]at h;cases hp:plain x<;>simp[hp]at h;subst h;exact nI hp
 |global g=>
  simp only[aF]at h;cases hp:yy g e.oD<;>simp[hp]at h;subst h;obtain⟨pl,h1,h2,h3⟩:=hg.1 g (ab8 hp);have:=aR.ptr (ρ:=ρ) (a:=⟨g,0,none⟩) h1;rw[h2,h3]at this;exact this
 |func f=>
  simp only[aF,yB]at h;subst h;exact .func (.func f) rfl (λi v v' h=>by simp at h) rfl (λi v v' h=>by simp at h)
def uZ{ρ:aH}{t:Tr Value}{n:Nat}{a:Array Value}(hg:Gl e ρ)(ht:j5 ρ t n a)(ds:List Deferred):∀{os:List Operand} {vs:List Value},db e t os=some vs->
 bN ρ vs (os.map (Act.mk a ds).eval)
 |[],vs,h=>by simp only[db,yB]at h;subst h;exact .nil
 |o::os,vs,h=>by
  simp only[db]at h;cases h1:aF e t o with
  |none=>simp[h1]at h
  |some v=>
   cases h2:db e t os with
   |none=>simp[h1,h2]at h
   |some xs=>
    simp only[h1,h2,yB]at h;subst h;exact .cons (kF hg ht h1 ds) (uZ hg ht ds h2)
inductive tj(ρ:aH):List (Nat×Value)->List (Nat×Value)->Prop
 |nil:tj ρ [] []
 |cons {i:Nat} {v v':Value} {x y:List (Nat×Value)}:aR ρ v v'->tj ρ x y->tj ρ ((i,v)::x) ((i,v')::y)
def zM{ρ:aH}{t:Tr Value}{n:Nat}{a:Array Value}(hg:Gl e ρ)(ht:j5 ρ t n a)(ds:List Deferred):∀{os:List (Nat×Operand)} {vs:List (Nat×Value)},fG e t os=some vs->
 tj ρ vs (os.map λp=>(p.1,(Act.mk a ds).eval p.2))
 |[],vs,h=>by simp only[fG,yB]at h;subst h;exact .nil
 |(i,o)::os,vs,h=>by
  simp only[fG]at h;cases h1:aF e t o with
  |none=>simp[h1]at h
  |some v=>
   cases h2:fG e t os with
   |none=>simp[h1,h2]at h
   |some xs=>
    simp only[h1,h2,yB]at h;subst h;exact .cons (kF hg ht h1 ds) (zM hg ht ds h2)
def oL(b o j:Nat):(⟨b,o,none⟩:Addr).add j=⟨b,o+j,none⟩:=by unfold Addr.add;split<;>simp_all
def Addr.tm(a:Addr)(n:Nat):(a.add n).block=a.block:=by unfold Addr.add;split<;>rfl
def Addr.rF(a:Addr)(n:Nat):(a.add n).off=a.off+n:=by unfold Addr.add;split<;>simp_all
def tn{ρ:aH}{h:ab}{w:World}(x:bz ρ h w){a:Addr}{pl:Pl}(hp:ρ a.block=some pl){n:Nat}{cs:List Value}(hr:gx h a n=some cs):
 ∃cs',bN ρ cs cs'/\cs'.length=n/\∀(j:Nat) (v:Value),cs'[j]? =some v->w.cell? ((⟨pl.bh,pl.off+a.off,none⟩:Addr).add j)=some v:=by
 unfold gx at hr;cases ho:h.get a.block with
 |none=>simp[ho]at hr
 |some o=>
  cases o with
  |row rs wr aj=>
   simp only[ho]at hr;obtain⟨hl,hr⟩:=cg hr
   . cases hr;obtain⟨pl',g1,c,el,fz,g2,g3,g4,g5,g6,g7,g8,g9⟩:=x.obj _ _ ho;rw[hp]at g1;cases g1;refine⟨(((c.toList.drop pl.off).take pl.n).drop a.off).take n,(g9.1.drop a.off).take n, ?_, ?_⟩
     . rw[<-((g9.1.drop a.off).take n).length];exact adr hl
     . intro j v hv;rw[oL];have hj:j<n:=by
        rcases Nat.lt_or_ge j n with h|h
        . exact h
        . rw[YT,if_neg aa]at hv;cases hv
       rw[YT,if_pos hj,adv,YT]at hv
       split at hv
       . rw[adv]at hv;simp only[World.cell?,g2,Option.isSome_none,Bool.false_eq_true,if_false];rw[<-hv,<-Array.getElem?_toList];congr 1;omega
       . cases hv
  |_=>simp[ho]at hr
def Ex(he:e.Ok){ρ:aH}{h:ab}{w:World}(x:bz ρ h w){a:Addr}{pl:Pl}(hp:ρ a.block=some pl){t:TypeId}{v:Value}(hr:iN e h t a=some v):
 ∃v',(loadVar t ⟨pl.bh,pl.off+a.off,none⟩).run e.P w=.ok v' w/\aR ρ v v':=by
 unfold iN at hr;cases hd:e.under t with
 |none=>simp[hd]at hr
 |some d=>
  simp only[hd]at hr;cases ha:jZ d with
  |true=>
   simp only[ha,cond_true]at hr;cases hs:e.size t with
   |none=>simp[hs]at hr
   |some n=>
    simp only[hs]at hr;cases hc:gx h a n with
    |none=>simp[hc]at hr
    |some cs=>
     simp only[hc,yB]at hr;subst hr;obtain⟨cs',g1,g2,g3⟩:=tn x hp hc;refine⟨.agg cs'.toArray, ?_,aR.w8 (by simpa using g1)⟩;have:=run_loadCells_list (P:=e.P) w ⟨pl.bh,pl.off+a.off,none⟩ cs' g3;rw[g2]at this;simp[loadVar,he.xa hd,ha,he.iR hs,this]
  |false=>
   simp only[ha,cond_false]at hr;cases hc:gx h a 1 with
   |none=>simp[hc]at hr
   |some cs=>
    obtain⟨cs',g1,g2,g3⟩:=tn x hp hc
    match cs,hc,hr,g1 with
    |[u],hc,hr,g1=>
     simp only[hc,yB]at hr;subst hr
     match cs',g1 with
     |[u'],.cons g1 _=>
      have:=g3 0 u' rfl;refine⟨u', ?_,g1⟩;have hz:(⟨pl.bh,pl.off+a.off,none⟩:Addr).add 0=⟨pl.bh,pl.off+a.off,none⟩:=by simp[Addr.add]
      rw[hz]at this;simp[loadVar,he.xa hd,ha,this]
    |[],hc,hr,_=>simp[hc]at hr
    |_::_::_,hc,hr,_=>simp[hc]at hr
def aR.dF{ρ:aH}{v v':Value}(h:aR ρ v v'):dF v'=dF v:=by cases h<;>rfl
def MF(v:Value):v.oneCell'=dF v:=by cases v<;>rfl
def bN.dF{ρ:aH}{x y:List Value}(h:bN ρ x y)(hx:x.all dF=true):∀v∈y,v.oneCell'=true:=by
 induction h with
 |nil=>intro v hv;cases hv
 |cons h _ ih=>
  simp only[List.all_cons,afj]at hx;intro v hv;cases hv with
  |head=>rw[MF,h.dF];exact hx.1
  |tail _ hv=>exact ih hx.2 v hv
def Ey(w:World)(g:Nat)(cur:Array Value)(el:TypeId)(fz:Nat×Nat)(new:Array Value)(hg:w.heap[g]? =some (.cells cur el fz)):
 w.setRow g new=World.gH w g (.cells new el fz):=by
 obtain⟨ae,hv⟩:=Xy.1 hg;unfold World.setRow World.gH;congr 1;apply Array.ext_getElem?;intro i;rw[Array.getElem?_modify,afz];by_cases h:g=i
 . subst h;rw[if_pos rfl,if_pos rfl,if_pos ae,hg];rfl
 . rw[if_neg h,if_neg h]
def Ez(cs:List Value)(off:Nat)(vs:List Value)(h:off+vs.length<=cs.length):(dM cs off vs).length=cs.length:=by
 unfold dM;simp;omega
def aV.dM{ρ:aH}{cs cs' vs ad:List Value}(h:bN ρ cs cs')(hv:bN ρ vs ad)(off:Nat):bN ρ (dM cs off vs) (dM cs' off ad):=by
 unfold Go.aD.dM;rw[hv.length];exact((h.take off).append hv).append (h.drop _)
def EA(c:List Value)(o n k:Nat)(vs:List Value)(h:k+vs.length<=n)(hc:o+n<=c.length):
 ((c.take (o+k)++vs++c.drop (o+k+vs.length)).drop o).take n=dM ((c.drop o).take n) k vs:=by
 unfold dM;apply List.ext_getElem?;intro i;simp only[YT,adv,List.getElem?_append,afA,afB,afC];have h1:min (o+k) c.length=o+k:=aa;have h2:min k (min n (c.length-o))=k:=aa;rw[h1,h2];by_cases hi:i<n
 . simp only[hi,if_true];by_cases hk:i<k
   . have e1:o+i<o+k+vs.length:=aa;have e2:o+i<o+k:=aa;have e3:i<k+vs.length:=aa;simp[hk,e1,e2,e3]
   . by_cases hv:i<k+vs.length
     . have e1:o+i<o+k+vs.length:=aa;have e2:¬o+i<o+k:=aa;simp only[e1,e2,hk,hv,if_true,if_false];congr 1;omega
     . have e1:¬o+i<o+k+vs.length:=aa;simp only[e1,hv,if_false];have e4:k+vs.length+(i-(k+vs.length))<n:=aa;rw[if_pos e4];congr 1;omega
 . simp only[hi,if_false];have hk:¬i<k:=aa;have hv:¬i<k+vs.length:=aa;simp only[hk,hv,if_false];have e4:¬k+vs.length+(i-(k+vs.length))<n:=aa;rw[if_neg e4]
def xe(P:Program){b:Nat}{ρ:aH}{h h':ab}{w:World}(x:bz ρ h w){a:Addr}{pl:Pl}(hp:ρ a.block=some pl){vs ad:List Value}(hv:bN ρ vs ad)(hr:kz h a vs=some h'):
 ∃w',(storeCells ⟨pl.bh,pl.off+a.off,none⟩ ad).run P w=.ok () w'/\bz ρ h' w'/\Fr b ρ h w ρ h' w':=by
 unfold kz at hr
 match vs,ad,hv with
 |[],[],_=>
  simp only[yB]at hr;subst hr;exact⟨w,rfl,x,Fr.refl _ _ _ _⟩
 |u::us,u'::af,hv=>
  simp only at hr;cases ho:h.get a.block with
  |none=>simp[ho]at hr
  |some o=>
   cases o with
   |row rs wr aj=>
    cases wr with
    |false=>simp[ho]at hr
    |true=>
     simp only[ho]at hr;obtain⟨hb,hr⟩:=cg hr
     . cases hr;rw[afj]at hb;have hle:a.off+(u::us).length<=rs.length:=ab8 hb.1;obtain⟨pl',g1,c,el,fz,g2,g3,g4,g5,g6,g7,g8,g9⟩:=x.obj _ _ ho;rw[hp]at g1;cases g1;have ak:=g3 rfl;subst ak;have hl:=hv.length;have ai:=run_storeCells_at (P:=P) pl.bh (pl.off+a.off) el (u'::af) 0 c w g2 (by rw[<-hl];omega) (hv.dF hb.2);rw[Ey w pl.bh c el (0,0) _ g2]at ai;refine⟨_,ai, ?_⟩;refine rE x ho rfl hp rfl ?_ rfl;have ae:pl.bh<w.heap.size:=(Xy.1 g2).1;have an:(u'::af).length=(u::us).length:=hl.symm;refine⟨_,el,(0,0),oK w _ _ ae,λ_=>rfl, ?_,g5,g6, ?_,g8, ?_,λe0=>by
        have h0:=congrArg List.length e0;rw[Ez _ _ _ hle,List.length_nil]at h0;simp only[List.length_cons]at hle;omega⟩
       . rw[Ez _ _ _ hle];exact g4
       . simp only[afD,afA,afB,afC,Vs];omega
       . simp only[Nat.add_zero];rw[EA c.toList pl.off pl.n a.off (u'::af) aa (by simp;omega)];exact aV.dM g9.1 hv _
   |_=>simp[ho]at hr
def aR.cells{ρ:aH}{v v':Value}(h:aR ρ v v'):bN ρ v.cells.toList v'.cells.toList:=by
 cases h with
 |agg h1 h2=>exact rC h1 h2
 |bool b=>exact .cons (.bool b) .nil
 |int k n=>exact .cons (.int k n) .nil
 |string s=>exact .cons (.string s) .nil
 |rB=>exact .cons .rB .nil
 |ptr h=>exact .cons (.ptr h) .nil
 |kD l k=>exact .cons (.kD l k) .nil
 |sl h hs=>exact .cons (.sl h hs) .nil
 |oJ=>exact .cons .oJ .nil
 |map h=>exact .cons (.map h) .nil
 |func hf h1 h2 h3 h4=>exact .cons (.func hf h1 h2 h3 h4) .nil
 |nilFunc=>exact .cons .nilFunc .nil
 |iface h=>exact .cons (.iface h) .nil
 |nilIface=>exact .cons .nilIface .nil
 |tuple h1 h2=>exact .cons (.tuple h1 h2) .nil
def MG(he:e.Ok){b:Nat}{ρ:aH}{h h':ab}{w:World}(x:bz ρ h w){a:Addr}{pl:Pl}(hp:ρ a.block=some pl){t:TypeId}{v v':Value}(hv:aR ρ v v')(hr:oE e h t a v=some h'):
 ∃w',(storeVar t ⟨pl.bh,pl.off+a.off,none⟩ v').run e.P w=.ok () w'/\bz ρ h' w'/\Fr b ρ h w ρ h' w':=by
 unfold oE at hr;cases hs:e.size t with
 |none=>simp[hs]at hr
 |some n=>
  simp only[hs]at hr;obtain⟨hb,hr⟩:=cg hr
  . obtain⟨w',g1,g2⟩:=xe e.P x hp hv.cells hr;refine⟨w', ?_,g2⟩;have hl:=hv.cells.length;have hn:=adr hb;have:v'.cells.size=n:=by rw[<-Vs,<-hl];exact hn
    simp[storeVar,he.iR hs,this,g1]
end Go.aD
end
noncomputable section
namespace Go.aD
variable {e:Env}
def MH(vs:List Value):∀(off k:Nat) (cs:Array Value),off+k+vs.length<=cs.size->
 ((vs.zipIdx k).foldl (λcs (p:Value×Nat)=>cs.setIfInBounds (off+p.2) p.1) cs).toList=dM cs.toList (off+k) vs:=by
 induction vs with
 |nil=>
  intro off k cs h;simp[dM]
 |cons v vs ih=>
  intro off k cs h;simp only[List.zipIdx_cons,List.foldl_cons];have:=ih off (k+1) (cs.setIfInBounds (off+k) v) (by simp at h⊢;omega);rw[this];have e:=list_seg_step cs.toList (off+k) v vs (by simp at h⊢;omega);unfold dM;simpa[Array.toList_setIfInBounds,Nat.add_assoc,Nat.add_comm 1 vs.length]using e
def zN{ρ:aH}{place place':Nat->Option (Nat×Nat)}(af:∀i x,place i=some x->place' i=some x):∀{cells:List Value} {ps ps':List (Nat×Value)} {cells':Array Value} {cs:List Value},
 bN ρ cells cells'.toList->tj ρ ps ps'->jc place cells ps=some cs->∃cs':Array Value,Instr.fill place' cells' ps'=some cs'/\bN ρ cs cs'.toList:=by
 intro cells ps ps' cells' cs hc hp
 induction hp generalizing cells cells' with
 |nil=>
  intro h;simp only[jc,yB]at h;subst h;exact⟨cells',rfl,hc⟩
 | @cons i v v' x y hv _ ih=>
  intro h;simp only[jc]at h;cases hi:place i with
  |none=>simp[hi]at h
  |some p=>
   obtain⟨off,size⟩:=p;simp only[hi]at h;obtain⟨hb,h⟩:=cg h;rw[afj]at hb;have hl:=hv.cells.length;have h1:v.cells.toList.length=size:=adr hb.1;have h2:off+size<=cells.length:=ab8 hb.2;have h3:cells.length=cells'.size:=by simpa using hc.length
   have h4:v'.cells.size=size:=by rw[<-Vs,<-hl];exact h1
   have hf:=MH v'.cells.toList off 0 cells' (by simp only[Vs];omega);simp only[Nat.add_zero]at hf;have hz:v'.cells.zipIdx.foldl (λcs (p:Value×Nat)=>cs.setIfInBounds (off+p.2) p.1) cells'=(v'.cells.toList.zipIdx.foldl (λcs (p:Value×Nat)=>cs.setIfInBounds (off+p.2) p.1) cells'):=by
    rw[<-Array.foldl_toList,Array.toList_zipIdx]
   obtain⟨cs',g1,g2⟩:=ih (cells:=dM cells off v.cells.toList) (cells':=v'.cells.zipIdx.foldl (λcs (p:Value×Nat)=>cs.setIfInBounds (off+p.2) p.1) cells') (by
    rw[hz,hf];exact aV.dM hc hv.cells off) h
   refine⟨cs', ?_,g2⟩;rw[Instr.fill,af i _ hi];have ae:((v'.cells.size !=size)||decide (off+v'.cells.size>cells'.size))=false:=by
    simp[h4];omega
   simp only[ne_eq,h4,not_true_eq_false,decide_false,Bool.false_or];rw[if_neg (by simp;omega)];exact g1
def MJ(he:e.Ok){fs:Array Field}(hf:∀f∈fs.toList,∃n,e.size f.type=some n)(w:World):
 ∃places:Array (Nat×Nat),(fs.mapM (λ(f:Field)=>(do pure (f.offset,<-sizeOf f.type):Sem (Nat×Nat)))).run e.P w=.ok places w/\∀i x,kA e fs i=some x->places[i]? =some x:=by
 have key:∀(l:List Field),(∀f∈l,∃n,e.size f.type=some n)->∃ps:List (Nat×Nat),(l.mapM (λ(f:Field)=>(do pure (f.offset,<-sizeOf f.type):Sem (Nat×Nat)))).run e.P w=.ok ps w/\
  ∀(i:Nat) (f:Field) (s:Nat),l[i]? =some f->e.size f.type=some s->ps[i]? =some (f.offset,s):=by
  intro l
  induction l with
  |nil=>intro _;exact⟨[],rfl,λi f s h=>by simp at h⟩
  |cons f l ih=>
   intro h;obtain⟨n,hn⟩:=h f aw;obtain⟨ps,h1,h2⟩:=ih λg hg=>h g (by simp[hg]);refine⟨(f.offset,n)::ps,by simp only[List.mapM_cons,Sem.run_bind,he.iR hn,Result.andThen_ok,Sem.run_pure,h1],λi g s hi hs=> ?_⟩;cases i with
   |zero=>simp at hi;subst hi;rw[hn]at hs;cases hs;rfl
   |succ i=>simpa using h2 i g s (by simpa using hi) hs
 obtain⟨ps,h1,h2⟩:=key fs.toList hf;refine⟨ps.toArray, ?_,λi x hx=> ?_⟩
 . rw[Array.mapM_eq_mapM_toList,Sem.run_map,h1];rfl
 . unfold kA at hx;cases hi:fs[i]? with
   |none=>simp[hi]at hx
   |some f=>
    simp only[hi]at hx;cases hs:e.size f.type with
    |none=>simp[hs]at hx
    |some s=>
     simp only[hs,yB]at hx;subst hx;simpa using h2 i f s (by simpa using hi) hs
def Env.Ok.rG(he:e.Ok){t:TypeId}{z:Value}(h:e.zero t=some z)(ρ:aH):bN ρ z.cells.toList z.cells.toList:=
 let⟨_,_,_,hp⟩:=he.zero t z h;(nI hp).cells
def MK(he:e.Ok){ρ:aH}(w:World){t:TypeId}{ps:List (Nat×Value)}{ps':Array (Nat×Value)}{v:Value}(hp:tj ρ ps ps'.toList)(h:pY e t ps=some v):
 ∃v',(Instr.build t ps').run e.P w=.ok v' w/\aR ρ v v':=by
 unfold pY at h;cases hz:e.zero t with
 |none=>simp[hz]at h
 |some z=>
  cases hu:e.under t with
  |none=>simp[hz,hu]at h
  |some d=>
   cases d with
   |struct fields=>
    simp only[hz,hu]at h;cases hf:jc (kA e fields) z.cells.toList ps with
    |none=>simp[hf]at h
    |some cs=>
     simp only[hf,yB]at h;subst h;obtain⟨places,g1,g2⟩:=MJ he (he.fields t fields hu) w;obtain⟨cs',g3,g4⟩:=zN (place':=(places[·]?)) g2 (he.rG hz ρ) hp hf;refine⟨.agg cs', ?_,aR.w8 g4⟩;simp only[Instr.build,Sem.run_bind,he.nJ hz,Result.andThen_ok,he.dj hu,g1,g3,Sem.run_pure]
   |array n elem=>
    simp only[hz,hu]at h;cases hs:e.size elem with
    |none=>simp[hs]at h
    |some s=>
     simp only[hs]at h;cases hf:jc (λi=>some (i*s,s)) z.cells.toList ps with
     |none=>simp[hf]at h
     |some cs=>
      simp only[hf,yB]at h;subst h;obtain⟨cs',g3,g4⟩:=zN (place':=λi=>some (i*s,s)) (λ_ _ h=>h) (he.rG hz ρ) hp hf;refine⟨.agg cs', ?_,aR.w8 g4⟩;simp only[Instr.build,Sem.run_bind,he.nJ hz,Result.andThen_ok,he.dj hu,he.iR hs,g3,Sem.run_pure]
   |_=>simp[hz,hu]at h
def EB(he:e.Ok){ρ:aH}(w:World){t:TypeId}{cs:List Value}{cs':Array Value}{off:Nat}{v:Value}(hc:bN ρ cs cs'.toList)(h:nE e t cs off=some v):
 ∃v',(part t cs' off).run e.P w=.ok v' w/\aR ρ v v':=by
 unfold nE at h;cases hd:e.under t with
 |none=>simp[hd]at h
 |some d=>
  simp only[hd]at h;cases ha:jZ d with
  |true=>
   simp only[ha,cond_true]at h;cases hs:e.size t with
   |none=>simp[hs]at h
   |some n=>
    simp only[hs,yB]at h;subst h;refine⟨.agg (cs'.extract off (off+n)), ?_,aR.w8 ?_⟩
    . simp[part,he.xa hd,ha,he.iR hs]
    . have:=(hc.drop off).take n;simpa[Array.toList_extract,List.extract_eq_take_drop]using this
  |false=>
   simp only[ha,cond_false]at h;obtain⟨v',g1,g2⟩:=hc.get off v h;refine⟨v', ?_,g2⟩;have:cs'[off]? =some v':=by simpa using g1
   simp[part,he.xa hd,ha,this]
def u0{ρ:aH}{i:Nat}{pl:Pl}(h:ρ i=some pl)(h0:pl.off=0):aR ρ (.pointer (some ⟨i,0,none⟩)) (.pointer (some ⟨pl.bh,0,none⟩)):=by
 have:=aR.ptr (ρ:=ρ) (a:=⟨i,0,none⟩) h;rw[h0]at this;exact this
def xg{b id:Nat}{ρ:aH}{h h':ab}{w:World}{cs:List Value}(x:bz ρ h w)(s:Slot b ρ h id (.row cs true 0) h'){cs':Array Value}(hv:bN ρ cs cs'.toList)(el:TypeId):
 ∃aa pl,aa id=some pl/\pl.bh=w.heap.size/\pl.off=0/\pl.n=cs.length/\pl.cap=cs.length/\pl.aj=0/\bz aa h' (World.add w (.cells cs' el))/\
  Fr b ρ h w aa h' (World.add w (.cells cs' el))/\∀j,j≠id->aa j=ρ j:=by
 let pl:Pl:={bh:=w.heap.size,off:=0,n:=cs.length,cap:=cs.length,aj:=0}
 have hl:cs.length=cs'.size:=by simpa using hv.length
 have hx:Ext ρ (ρ.put id pl):=aH.rD pl s.free;have hr:iQ (ρ.put id pl) (World.add w (.cells cs' el)) pl (.row cs true 0):=by
  refine⟨cs',el,(0,0),w9 _ _,λ_=>rfl,rfl,rfl,E2 _, ?_,λ_=>rfl, ?_,λ_=>trivial⟩
  . show 0+cs.length<=cs'.size;omega
  . show bN _ cs ((cs'.toList.drop 0).take cs.length);rw[hv.length,afE,List.take_length];exact hv.mono hx
 obtain⟨g1,g2⟩:=zL x s (o:=.cells cs' el) rfl rfl hr rfl;exact⟨_,pl,aH.lg _ _ _,rfl,rfl,rfl,rfl,rfl,g1,g2,λ_ h=>aH.j6 _ _ h⟩
def ML{b id:Nat}{ρ:aH}{h h':ab}{w:World}{cs:List Value}{s:Nat}(x:bz ρ h w)(sl:Slot b ρ h id (.row cs true s) h'){cs' rest:Array Value}(hv:bN ρ cs cs'.toList)(el:TypeId)(hs:0<s):
 ∃aa pl,aa id=some pl/\pl.bh=w.heap.size/\pl.off=0/\pl.n=cs.length/\pl.cap=cs.length+rest.size/\pl.aj=s/\bz aa h' (World.add w (.cells (cs'++rest) el))/\
  Fr b ρ h w aa h' (World.add w (.cells (cs'++rest) el)):=by
 let pl:Pl:={bh:=w.heap.size,off:=0,n:=cs.length,cap:=cs.length+rest.size,aj:=s}
 have hl:cs.length=cs'.size:=by simpa using hv.length
 have hx:Ext ρ (ρ.put id pl):=aH.rD pl sl.free;have hr:iQ (ρ.put id pl) (World.add w (.cells (cs'++rest) el)) pl (.row cs true s):=by
  refine⟨cs'++rest,el,(0,0),w9 _ _,λ_=>rfl,rfl,rfl, ?_, ?_,λh=>absurd h (Nat.ne_of_gt hs), ?_,λ_=>trivial⟩
  . show cs.length<=cs.length+rest.size;omega
  . show 0+(cs.length+rest.size)<=(cs'++rest).size;simp;omega
  . show bN _ cs (((cs'++rest).toList.drop 0).take cs.length);rw[afE,Array.toList_append,hl,<-Vs,List.take_left];exact hv.mono hx
 obtain⟨g1,g2⟩:=zL x sl (o:=.cells (cs'++rest) el) rfl rfl hr rfl;exact⟨_,pl,aH.lg _ _ _,rfl,rfl,rfl,rfl,rfl,g1,g2⟩
def xh{b id:Nat}{ρ:aH}{h h':ab}{w:World}{ao:bP}(x:bz ρ h w)(s:Slot b ρ h id ao h')(o:Obj)(hu:Obj.lh o=true)(hw:ao.wr=true)
 (hr:∀(aa:aH) (w':World) (pl:Pl),Ext ρ aa->pl.off=0->w'.heap[pl.bh]? =some o->iQ aa w' pl ao):
 ∃aa pl,aa id=some pl/\pl.bh=w.heap.size/\pl.off=0/\bz aa h' (World.add w o)/\Fr b ρ h w aa h' (World.add w o)/\∀j,j≠id->aa j=ρ j:=by
 let pl:Pl:={bh:=w.heap.size,off:=0,n:=0,cap:=0,aj:=0}
 obtain⟨g1,g2⟩:=zL (pl:=pl) x s hu rfl (hr _ _ pl (aH.rD pl s.free) rfl (w9 _ _)) hw;exact⟨_,pl,aH.lg _ _ _,rfl,rfl,g1,g2,λ_ h=>aH.j6 _ _ h⟩
def zO{ρ:aH}{zs ad:List Value}(hz:bN ρ zs ad)(n:Nat)(h0:0<zs.length):bN ρ (ey zs n) (((Array.range n).map (ad.toArray[·%ad.toArray.size]!)).toList):=by
 refine aV.rA (by simp[ey]) λi a b ha hb=> ?_;have hi:i<n:=by
  rcases Nat.lt_or_ge i n with h|h
  . exact h
  . rw[ey,List.getElem?_eq_none (by simpa using h)]at ha;cases ha
 have hl:=hz.length;have hm:i%zs.length<zs.length:=Nat.mod_lt _ h0;simp only[ey,afF,afG hi,afH,yB]at ha;rw[afI hm,Option.getD_some]at ha;subst ha;simp only[Array.toList_map,Array.toList_range,afF,afG hi,afH,yB]at hb;obtain⟨u,g1,g2⟩:=hz.get (i%zs.length) _ (afI hm);have:ad.toArray[i%ad.toArray.size]! =u:=by
  rw[afD,<-hl];simp only[getElem!_def];rw[List.getElem?_toArray,g1]
 rw[<-hb,this];exact g2
end Go.aD
end

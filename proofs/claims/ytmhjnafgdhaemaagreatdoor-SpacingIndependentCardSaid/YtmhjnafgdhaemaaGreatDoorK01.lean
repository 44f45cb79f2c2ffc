/- SpacingIndependent: parts of its proof. -/
import GoSem.Step
open Nat renaming beq->qe,blt->xS,ble->DE,rec->Er,div->GP
set_option linter.all false
set_option maxRecDepth 100000
noncomputable section
namespace Go.au
inductive D4 where
 |a|b|c|d
inductive Od(α:Type)where
 |nil
 |node (v:Option α) (a b c d:Od α)
def digit(j:Nat):D4:=
 Er (motive:=λ_=>D4) .a (λk _=>Er (motive:=λ_=>D4) .b (λk _=>Er (motive:=λ_=>D4) .c (λ_ _=>.d) k) k) (Nat.mod j 4)
def se(n:Nat):Nat->List D4:=
 Er (motive:=λ_=>Nat->List D4) (λ_=>[]) (λ_ ih i=>Er (motive:=λ_=>List D4) [] (λj _=>digit j::ih (GP j 4)) i) n
def path(i:Nat):List D4:=Er (motive:=λ_=>List D4) [] (λk _=>digit k::se k (GP k 4)) i
def sf{α:Type}(p:List D4):Od α->Option α:=
 List.rec (motive:=λ_=>Od α->Option α) (λt=>Od.rec (motive:=λ_=>Option α) none (λv _ _ _ _ _ _ _ _=>v) t)
  (λx _ ih t=>Od.rec (motive:=λ_=>Option α) none (λ_ a b c d _ _ _ _=>D4.rec (motive:=λ_=>Option α) (ih a) (ih b) (ih c) (ih d) x) t) p
def wg{α:Type}(p:List D4)(x:Option α):Od α->Od α:=
 List.rec (motive:=λ_=>Od α->Od α) (λt=>Od.rec (motive:=λ_=>Od α) (.node x .nil .nil .nil .nil) (λ_ a b c d _ _ _ _=>.node x a b c d) t)
  (λy _ ih t=>Od.rec (motive:=λ_=>Od α)
   (D4.rec (motive:=λ_=>Od α) (.node none (ih .nil) .nil .nil .nil) (.node none .nil (ih .nil) .nil .nil) (.node none .nil .nil (ih .nil) .nil) (.node none .nil .nil .nil (ih .nil)) y)
   (λv a b c d _ _ _ _=>D4.rec (motive:=λ_=>Od α) (.node v (ih a) b c d) (.node v a (ih b) c d) (.node v a b (ih c) d) (.node v a b c (ih d)) y) t) p
structure aZ(α:Type)where
 a0:α
 a1:α
 a2:α
 a3:α
 a4:α
 a5:α
 a6:α
 a7:α
 a8:α
 a9:α
 dJ:α
 dD:α
 dZ:α
 ed:α
 ee:α
 eg:α
structure Bx(α:Type)where
 run:α
def aZ.all{α:Type}(x:α):aZ α:=⟨x,x,x,x,x,x,x,x,x,x,x,x,x,x,x,x⟩
def bN{α:Type}(d:Nat):Bx (aZ α->α):=
 match d with
 |0=>⟨λv=>v.a0⟩
 |1=>⟨λv=>v.a1⟩
 |2=>⟨λv=>v.a2⟩
 |3=>⟨λv=>v.a3⟩
 |4=>⟨λv=>v.a4⟩
 |5=>⟨λv=>v.a5⟩
 |6=>⟨λv=>v.a6⟩
 |7=>⟨λv=>v.a7⟩
 |8=>⟨λv=>v.a8⟩
 |9=>⟨λv=>v.a9⟩
 |10=>⟨λv=>v.dJ⟩
 |11=>⟨λv=>v.dD⟩
 |12=>⟨λv=>v.dZ⟩
 |13=>⟨λv=>v.ed⟩
 |14=>⟨λv=>v.ee⟩
 |_=>⟨λv=>v.eg⟩
def eB{α:Type}(d:Nat):Bx (α->aZ α->aZ α):=
 match d with
 |0=>⟨λx v=>aZ.rec (motive:=λ_=>aZ α) (λ_ a1 a2 a3 a4 a5 a6 a7 a8 a9 dJ dD dZ ed ee eg=>aZ.mk x a1 a2 a3 a4 a5 a6 a7 a8 a9 dJ dD dZ ed ee eg) v⟩
 |1=>⟨λx v=>aZ.rec (motive:=λ_=>aZ α) (λa0 _ a2 a3 a4 a5 a6 a7 a8 a9 dJ dD dZ ed ee eg=>aZ.mk a0 x a2 a3 a4 a5 a6 a7 a8 a9 dJ dD dZ ed ee eg) v⟩
 |2=>⟨λx v=>aZ.rec (motive:=λ_=>aZ α) (λa0 a1 _ a3 a4 a5 a6 a7 a8 a9 dJ dD dZ ed ee eg=>aZ.mk a0 a1 x a3 a4 a5 a6 a7 a8 a9 dJ dD dZ ed ee eg) v⟩
 |3=>⟨λx v=>aZ.rec (motive:=λ_=>aZ α) (λa0 a1 a2 _ a4 a5 a6 a7 a8 a9 dJ dD dZ ed ee eg=>aZ.mk a0 a1 a2 x a4 a5 a6 a7 a8 a9 dJ dD dZ ed ee eg) v⟩
 |4=>⟨λx v=>aZ.rec (motive:=λ_=>aZ α) (λa0 a1 a2 a3 _ a5 a6 a7 a8 a9 dJ dD dZ ed ee eg=>aZ.mk a0 a1 a2 a3 x a5 a6 a7 a8 a9 dJ dD dZ ed ee eg) v⟩
 |5=>⟨λx v=>aZ.rec (motive:=λ_=>aZ α) (λa0 a1 a2 a3 a4 _ a6 a7 a8 a9 dJ dD dZ ed ee eg=>aZ.mk a0 a1 a2 a3 a4 x a6 a7 a8 a9 dJ dD dZ ed ee eg) v⟩
 |6=>⟨λx v=>aZ.rec (motive:=λ_=>aZ α) (λa0 a1 a2 a3 a4 a5 _ a7 a8 a9 dJ dD dZ ed ee eg=>aZ.mk a0 a1 a2 a3 a4 a5 x a7 a8 a9 dJ dD dZ ed ee eg) v⟩
 |7=>⟨λx v=>aZ.rec (motive:=λ_=>aZ α) (λa0 a1 a2 a3 a4 a5 a6 _ a8 a9 dJ dD dZ ed ee eg=>aZ.mk a0 a1 a2 a3 a4 a5 a6 x a8 a9 dJ dD dZ ed ee eg) v⟩
 |8=>⟨λx v=>aZ.rec (motive:=λ_=>aZ α) (λa0 a1 a2 a3 a4 a5 a6 a7 _ a9 dJ dD dZ ed ee eg=>aZ.mk a0 a1 a2 a3 a4 a5 a6 a7 x a9 dJ dD dZ ed ee eg) v⟩
 |9=>⟨λx v=>aZ.rec (motive:=λ_=>aZ α) (λa0 a1 a2 a3 a4 a5 a6 a7 a8 _ dJ dD dZ ed ee eg=>aZ.mk a0 a1 a2 a3 a4 a5 a6 a7 a8 x dJ dD dZ ed ee eg) v⟩
 |10=>⟨λx v=>aZ.rec (motive:=λ_=>aZ α) (λa0 a1 a2 a3 a4 a5 a6 a7 a8 a9 _ dD dZ ed ee eg=>aZ.mk a0 a1 a2 a3 a4 a5 a6 a7 a8 a9 x dD dZ ed ee eg) v⟩
 |11=>⟨λx v=>aZ.rec (motive:=λ_=>aZ α) (λa0 a1 a2 a3 a4 a5 a6 a7 a8 a9 dJ _ dZ ed ee eg=>aZ.mk a0 a1 a2 a3 a4 a5 a6 a7 a8 a9 dJ x dZ ed ee eg) v⟩
 |12=>⟨λx v=>aZ.rec (motive:=λ_=>aZ α) (λa0 a1 a2 a3 a4 a5 a6 a7 a8 a9 dJ dD _ ed ee eg=>aZ.mk a0 a1 a2 a3 a4 a5 a6 a7 a8 a9 dJ dD x ed ee eg) v⟩
 |13=>⟨λx v=>aZ.rec (motive:=λ_=>aZ α) (λa0 a1 a2 a3 a4 a5 a6 a7 a8 a9 dJ dD dZ _ ee eg=>aZ.mk a0 a1 a2 a3 a4 a5 a6 a7 a8 a9 dJ dD dZ x ee eg) v⟩
 |14=>⟨λx v=>aZ.rec (motive:=λ_=>aZ α) (λa0 a1 a2 a3 a4 a5 a6 a7 a8 a9 dJ dD dZ ed _ eg=>aZ.mk a0 a1 a2 a3 a4 a5 a6 a7 a8 a9 dJ dD dZ ed x eg) v⟩
 |_=>⟨λx v=>aZ.rec (motive:=λ_=>aZ α) (λa0 a1 a2 a3 a4 a5 a6 a7 a8 a9 dJ dD dZ ed ee _=>aZ.mk a0 a1 a2 a3 a4 a5 a6 a7 a8 a9 dJ dD dZ ed ee x) v⟩
structure Tr(α:Type)where
 small:aZ (aZ (Option α))
 qy:aZ (aZ (aZ (aZ (Option α))))
 over:Od α
def v1(α:Type):aZ (Option α):=aZ.all none
def v2(α:Type):aZ (aZ (Option α)):=aZ.all (v1 α)
def v3(α:Type):aZ (aZ (aZ (Option α))):=aZ.all (v2 α)
def v4(α:Type):aZ (aZ (aZ (aZ (Option α)))):=aZ.all (v3 α)
def Tr.nil{α:Type}:Tr α:=⟨v2 α,v4 α,.nil⟩
def lo(i:Nat):Nat:=Nat.mod i 16
def hi(i:Nat):Nat:=GP i 16
def dE(i:Nat):Nat:=GP i 256
def nY(i:Nat):Nat:=GP i 4096
def nZ{α:Type}(i:Nat):Bx (Tr α->Option α):=
 match xS i 256,xS i 65536 with
 |true,_=>⟨λt=>(bN (lo i)).run ((bN (hi i)).run t.small)⟩
 |false,true=>⟨λt=>(bN (lo i)).run ((bN (lo (hi i))).run ((bN (lo (dE i))).run ((bN (nY i)).run t.qy)))⟩
 |false,false=>⟨λt=>sf (path i) t.over⟩
def n7{α:Type}(i:Nat):Bx (Option α->Tr α->Tr α):=
 match xS i 256,xS i 65536 with
 |true,_=>⟨λx t=>Tr.rec (motive:=λ_=>Tr α) (λs m o=>Tr.mk ((eB (hi i)).run ((eB (lo i)).run x ((bN (hi i)).run s)) s) m o) t⟩
 |false,true=>⟨λx t=>Tr.rec (motive:=λ_=>Tr α) (λs m o=>Tr.mk s ((eB (nY i)).run ((eB (lo (dE i))).run ((eB (lo (hi i))).run ((eB (lo i)).run x ((bN (lo (hi i))).run ((bN (lo (dE i))).run ((bN (nY i)).run m))))
  ((bN (lo (dE i))).run ((bN (nY i)).run m))) ((bN (nY i)).run m)) m) o) t⟩
 |false,false=>⟨λx t=>Tr.rec (motive:=λ_=>Tr α) (λs m o=>Tr.mk s m (wg (path i) x o)) t⟩
def Tr.get{α:Type}(t:Tr α)(i:Nat):Option α:=
 Er (motive:=λ_=>Option α) ((nZ 0).run t) (λk _=>(nZ (Nat.succ k)).run t) i
def Tr.set{α:Type}(t:Tr α)(i:Nat)(x:Option α):Tr α:=
 Er (motive:=λ_=>Tr α) ((n7 0).run x t) (λk _=>(n7 (Nat.succ k)).run x t) i
def Tr.ofList{α:Type}:List α->Nat->Tr α->Tr α
 |[],_,t=>t
 |a::l,i,t=>Tr.ofList l (i+1) (t.set i (some a))
inductive bF where
 |row (cs:List Value) (wr:Bool) (ah:Nat)
 |map (es:List MapEntry) (clock:Nat)
 |cj (m:Option Nat) (since:Nat) (seen:List Nat) (last:Nat)
 |eC (s:ByteArray) (pos:Nat)
 |loop (st:LoopState) (aq:Option Code) (t:Tr Value) (n:Nat) (params:List Tmp) (bL body:Code) (fj:Nat)
 |fj (empty:Bool)
structure aa where
 m:Tr bF
 next:Nat
def aa.get(h:aa)(i:Nat):Option bF:=h.m.get i
def aa.set(h:aa)(i:Nat)(o:Option bF):aa:={h with m:=h.m.set i o}
def aa.new(h:aa)(o:bF):aa:={m:=h.m.set h.next (some o),next:=h.next+1}
structure Pl where
 aV:Nat
 off:Nat
 n:Nat
 cap:Nat
 ah:Nat
 JM:Obj->Prop:=λ_=>True
structure Env where
 P:Program
 under:Nat->Option TypeDesc
 size:Nat->Option Nat
 bytes:Nat->Option Nat
 zero:Nat->Option Value
 fn:Nat->Option Func
 idle:Nat->Bool
 n8:Nat
 jV:Nat->List Value->aa->Option (Value×aa)
 pins:List (Nat×Pl):=[]
def bQ{α:Type}(P:Program):Sem α->Option α
 |.pure a=>some a
 |.program k=>bQ P (k P)
 |_=>none
def dP:Nat->Value->Bool
 |0,_=>false
 |n+1,v=>match v with
  |.bool _|.int _ _|.string _|.pointer none|.slice none _ _|.map none|.nilFunc|.nilIface=>true
  |.iface _ v=>dP n v
  |.agg cs=>cs.toList.all (dP n)
  |.tuple cs=>cs.toList.all (dP n)
  |_=>false
def plain(v:Value):Bool:=dP 6 v
def eD(P:Program)(s:Sem Value):Option Value:=
 match bQ P s with
 |none=>none
 |some v=>bif plain v then some v else none
def aw(e:Env)(t:Tr Value):Operand->Option Value
 |.tmp i=>t.get i
 |.const v=>bif plain v then some v else none
 |.global g=>bif xS g e.n8 then some (.pointer (some ⟨g,0,none⟩))else none
 |.func f=>some (.func (.func f) #[] #[])
def cR(e:Env)(t:Tr Value):List Operand->Option (List Value)
 |[]=>some []
 |o::r=>match aw e t o with
  |none=>none
  |some v=>match cR e t r with
   |none=>none
   |some vs=>some (v::vs)
def jz:TypeDesc->Bool
 |.struct _|.array _ _=>true
 |_=>false
def fF(h:aa)(a:Addr)(n:Nat):Option (List Value):=
 match h.get a.block with
 |some (.row cs _ _)=>let r:=(cs.drop a.off).take n
  bif qe r.length n then some r else none
 |_=>none
def gV(e:Env)(h:aa)(t:TypeId)(a:Addr):Option Value:=
 match e.under t with
 |none=>none
 |some d=>bif jz d then
  match e.size t with
  |none=>none
  |some n=>match fF h a n with
   |none=>none
   |some cs=>some (.agg cs.toArray)
  else match fF h a 1 with
   |some [v]=>some v
   |_=>none
def dw:Value->Bool
 |.agg _|.tuple _=>false
 |_=>true
def dN(cs:List Value)(off:Nat)(vs:List Value):List Value:=cs.take off++vs++cs.drop (off+vs.length)
def ly(h:aa)(a:Addr)(vs:List Value):Option aa:=
 match vs with
 |[]=>some h
 |_=>match h.get a.block with
  |some (.row cs true ah)=>bif DE (a.off+vs.length) cs.length&&vs.all dw then some (h.set a.block (some (.row (dN cs a.off vs) true ah)))else none
  |_=>none
def n9(e:Env)(h:aa)(t:TypeId)(a:Addr)(v:Value):Option aa:=
 match e.size t with
 |none=>none
 |some n=>bif qe v.cells.toList.length n then ly h a v.cells.toList else none
def iv(place:Nat->Option (Nat×Nat)):List Value->List (Nat×Value)->Option (List Value)
 |cells,[]=>some cells
 |cells,(i,v)::rest=>match place i with
  |none=>none
  |some (off,size)=>let vs:=v.cells.toList
   bif qe vs.length size&&DE (off+size) cells.length then iv place (dN cells off vs) rest else none
def eY(e:Env)(t:Tr Value):List (Nat×Operand)->Option (List (Nat×Value))
 |[]=>some []
 |(i,o)::r=>match aw e t o with
  |none=>none
  |some v=>match eY e t r with
   |none=>none
   |some vs=>some ((i,v)::vs)
def eN(zs:List Value)(n:Nat):List Value:=(List.range n).map λi=>zs[i%zs.length]?.getD default
def jW(e:Env)(fields:Array Field)(i:Nat):Option (Nat×Nat):=
 match fields[i]? with
 |none=>none
 |some f=>match e.size f.type with
  |none=>none
  |some s=>some (f.offset,s)
def pt(e:Env)(t:TypeId)(parts:List (Nat×Value)):Option Value:=
 match e.zero t,e.under t with
 |some z,some (.struct fields)=>match iv (jW e fields) z.cells.toList parts with
  |none=>none
  |some cs=>some (.agg cs.toArray)
 |some z,some (.array _ elem)=>match e.size elem with
  |none=>none
  |some s=>match iv (λi=>some (i*s,s)) z.cells.toList parts with
   |none=>none
   |some cs=>some (.agg cs.toArray)
 |_,_=>none
def mW(e:Env)(t:TypeId)(cs:List Value)(off:Nat):Option Value:=
 match e.under t with
 |none=>none
 |some d=>bif jz d then match e.size t with
  |none=>none
  |some n=>some (.agg ((cs.drop off).take n).toArray)
  else cs[off]?
def oa:Value->Option Int
 |.int .i64 n=>some n
 |_=>none
def cF(e:Env)(t:Tr Value):Op->Option (bF×(Nat->Value))
 |.alloc elem=>match e.zero elem with
  |none=>none
  |some z=>some (.row z.cells.toList true 0,λi=>.pointer (some ⟨i,0,none⟩))
 |.box _ x=>match aw e t x with
  |none=>none
  |some v=>some (.row v.cells.toList true 0,λi=>.pointer (some ⟨i,0,none⟩))
 |.buildSlice st len parts=>match e.under st,eY e t parts.toList with
  |some (.slice elem),some ps=>match e.size elem,e.zero elem with
   |some s,some z=>bif DE (len*s) 16777216&&qe z.cells.toList.length s&&xS 0 s then
    match iv (λi=>some (i*s,s)) (eN z.cells.toList (len*s)) ps with
    |none=>none
    |some cs=>some (.row cs true 0,λi=>.slice (some ⟨i,0,none⟩) len len)
    else none
   |_,_=>none
  |_,_=>none
 |.makeMap _ none=>some (.map [] 0,λi=>.map (some i))
 |.makeSlice st l c=>match e.under st,(aw e t l).bind oa,(aw e t c).bind oa with
  |some (.slice elem),some l,some c=>match e.size elem,e.zero elem,e.bytes elem with
   |some s,some z,some b=>bif decide (0<=l)&&decide (l<=c)&&decide (c<=1099511627776)&&DE (b*c.toNat) 1099511627776&&qe z.cells.toList.length s&&xS 0 s then
    some (.row (eN z.cells.toList (c.toNat*s)) true 0,λi=>.slice (some ⟨i,0,none⟩) l.toNat c.toNat)
    else none
   |_,_,_=>none
  |_,_,_=>none
 |_=>none
def jX(P:Program)(kt:TypeId)(k x:Value):Option Bool:=
 match k with
 |.int j a=>match x with|.int j' b=>bif decide (j=j')then some (a==b)else none|_=>none
 |.string a=>match x with|.string b=>some (a==b)|_=>none
 |.bool a=>match x with|.bool b=>some (a==b)|_=>none
 |.agg _=>bQ P (Op.equal kt k x)
 |_=>none
def fN(P:Program)(kt:TypeId)(k:Value):List MapEntry->Nat->Option (Option (Nat×Value))
 |[],_=>some none
 |e::es,i=>match jX P kt k e.key with
  |none=>none
  |some true=>some (some (i,e.val))
  |some false=>fN P kt k es (i+1)
def mX(d:TypeDesc)(k:Value):Bool:=
 match d,k with
 |.int _,.int _ _|.string,.string _|.bool,.bool _|.struct _,.agg _|.array _ _,.agg _=>true
 |_,_=>false
def px(e:Env)(h:aa)(t:TypeId)(m k:Value)(ok:Bool):Option Value:=
 match e.under t with
 |some (.map kt et)=>match(match m with
  |.map none=>some []
  |.map (some r)=>(match h.get r with|some (.map es _)=>some es|_=>none)
  |_=>none)with
  |none=>none
  |some es=>match e.under kt with
   |none=>none
   |some kd=>bif plain k&&mX kd k then match bQ e.P (Instr.checkKey es.isEmpty 10000 kt k)with
    |none=>none
    |some _=>match fN e.P kt k es 0 with
     |none=>none
     |some (some (_,v))=>some (bif ok then .tuple #[v,.bool true]else v)
     |some none=>match e.zero et with
      |none=>none
      |some z=>bif plain z then some (bif ok then .tuple #[z,.bool false]else z)else none
    else none
 |_=>none
def qz(e:Env)(h:aa)(t:TypeId)(m k v:Value):Option aa:=
 match e.under t,m with
 |some (.map kt _),.map (some r)=>match h.get r with
  |some (.map es clock)=>match e.under kt with
   |none=>none
   |some kd=>bif plain k&&mX kd k then match bQ e.P (Instr.checkKey false 10000 kt k)with
    |none=>none
    |some _=>match fN e.P kt k es 0 with
     |none=>none
     |some (some (i,_))=>bif Instr.sameBits 10000 (((es[i]?).map (·.key)).getD k) k then
      some (h.set r (some (.map (es.modify i λx=>{x with key:=k,val:=v}) clock)))
      else none
     |some none=>some (h.set r (some (.map (es++[{key:=k,val:=v,born:=clock}]) (clock+1))))
    else none
  |_=>none
 |_,_=>none
def intOf:Value->Option Int
 |.int _ n=>some n
 |_=>none
def dS(v:Option Value)(aA aB:Nat):Option Nat:=
 match v with
 |none=>some aB
 |some v=>match intOf v with
  |none=>none
  |some i=>bif decide (0<=i)&&decide (i<=(aA:Int))then some i.toNat else none
def sg:Option Value->Bool
 |none=>true
 |some v=>plain v
def l9(h:aa)(a:Addr)(s:Nat):Bool:=
 match h.get a.block with
 |some (.row _ _ ah)=>qe ah 0||qe ah s
 |_=>false
def jA(e:Env)(hp:aa)(t:TypeId)(x:Value)(lo hi mx:Option Value):Option Value:=
 match e.under t,x with
 |some (.slice elem),.slice base len cap=>match e.size elem,dS mx cap cap with
  |some s,some m=>match dS hi m len with
   |none=>none
   |some h=>bif DE h m&&(mx.isNone||hi.isSome)then match dS lo h 0 with
    |none=>none
    |some l=>match base with
     |none=>some (.slice none (h-l) (m-l))
     |some a=>bif l9 hp a s then some (.slice (some (a.add (l*s))) (h-l) (m-l))else none
    else none
  |_,_=>none
 |some (.array n elem),.pointer (some a)=>match e.size elem,mx with
  |some s,none=>match dS hi n n with
   |none=>none
   |some h=>match dS lo h 0 with
    |none=>none
    |some l=>some (.slice (some (if n=l then a else a.add (l*s))) (h-l) (n-l))
  |_,_=>none
 |some .string,.string s=>bif sg lo&&(sg hi&&sg mx)then eD e.P (Instr.sliceAt t (.string s) lo hi mx)else none
 |_,_=>none
def py:Value->Option Nat
 |.slice _ n _=>some n
 |.string s=>some s.size
 |_=>none
def gW(h:aa)(s n:Nat):Value->Option (List Value)
 |.slice (some a) _ _=>fF h a (n*s)
 |.slice none _ _=>some []
 |.string b=>some (((b.extract 0 n).data.toList).map λx=>.int .u8 x.toNat)
 |_=>none
def oc:TypeDesc->Bool
 |.int _=>true
 |_=>false
def si(made:Bool)(b:Nat)(x:Value):Option Nat:=
 bif made then match oa x with
  |some l=>bif decide (0<=l)&&decide (l<=1099511627776)&&DE (b*l.toNat) 1099511627776 then some l.toNat else none
  |none=>none
 else py x
def sj(h:aa)(made:Bool)(zs:List Value)(n sz:Nat)(x:Value):Option (List Value):=
 bif made then some (eN zs (n*sz))else gW h sz n x
def pz(h:aa)(base:Option Addr)(len cap sz b n:Nat)(new:List Value):Option (Value×aa):=
 bif DE (len+n) cap then match base with
  |none=>bif qe n 0 then some (.slice base (len+n) cap,h)else none
  |some a=>match ly h (a.add (len*sz)) new with
   |none=>none
   |some h'=>some (.slice base (len+n) cap,h')
 else bif DE ((len+n)*(b+1)) 1073741824 then match base with
  |none=>bif qe len 0&&qe cap 0 then some (.slice (some ⟨h.next,0,none⟩) (len+n) (len+n),h.new (.row new true sz))else none
  |some a=>match fF h a (len*sz),h.get a.block with
   |some aY,some (.row cs wr ah)=>
    bif qe ah 0||(qe ah sz&&xS (a.off+cap*sz) cs.length)then some (.slice (some ⟨h.next,0,none⟩) (len+n) (len+n),h.new (.row (aY++new) true sz))
    else bif wr&&qe ah sz&&new.all dw then some (.slice (some ⟨h.next,0,none⟩) (len+n) (len+n),(h.set a.block none).new (.row (aY++new) true sz))
    else none
   |_,_=>none
 else none
def mY(e:Env)(h:aa)(av:Array TypeId)(s x:Value):Option (Value×aa):=
 match av[0]?,av[1]?,s with
 |some st,some xt,.slice base len cap=>match e.under st,e.under xt with
  |some (.slice elem),some xd=>match e.size elem,e.zero elem,e.bytes elem with
   |some sz,some z,some b=>match si (oc xd) b x with
    |none=>none
    |some n=>match sj h (oc xd) z.cells.toList n sz x with
     |none=>none
     |some new=>bif xS 0 sz&&qe z.cells.toList.length sz&&qe new.length (n*sz)then pz h base len cap sz b n new else none
   |_,_,_=>none
  |_,_=>none
 |_,_,_=>none
def wh(e:Env)(h:aa)(av:Array TypeId)(d x:Value):Option (Value×aa):=
 match av[0]?,d with
 |some dt,.slice base aC _=>match e.under dt,py x with
  |some (.slice elem),some xl=>match e.size elem with
   |none=>none
   |some sz=>let n:=Nat.min xl aC
    match gW h sz n x with
    |none=>none
    |some cs=>bif qe cs.length (n*sz)then match base with
     |none=>some (.int .i64 n,h)
     |some a=>match ly h a cs with
      |none=>none
      |some h'=>some (.int .i64 n,h')
     else none
  |_,_=>none
 |_,_=>none
def fk(e:Env)(h:aa)(t:TypeId)(x:Value):Option Value:=
 match e.under t,x with
 |some .string,.string s=>some (.int .i64 s.size)
 |some (.array n _),_=>some (.int .i64 n)
 |some (.pointer arr),_=>match e.under arr with
  |some (.array n _)=>some (.int .i64 n)
  |_=>none
 |some (.slice _),.slice _ n _=>some (.int .i64 n)
 |some (.map _ _),.map none=>some (.int .i64 0)
 |some (.map _ _),.map (some r)=>match h.get r with
  |some (.map es _)=>some (.int .i64 es.length)
  |_=>none
 |_,_=>none
def qA(e:Env)(h:aa)(t:TypeId)(x:Value):Option Value:=
 match e.under t,x with
 |some (.slice _),.slice none _ n=>some (.int .i64 n)
 |some (.slice elem),.slice (some a) _ n=>match h.get a.block,e.size elem with
  |some (.row cs _ ah),some s=>bif qe ah 0||(qe ah s&&xS (a.off+n*s) cs.length)then some (.int .i64 n)else none
  |_,_=>none
 |_,_=>none
def fm(d:TypeDesc)(x:Value):Option Bool:=
 match d with
 |.pointer _=>match x with|.pointer a=>some a.isNone|_=>none
 |.slice _=>match x with|.slice a _ _=>some a.isNone|_=>none
 |.map _ _=>match x with|.map r=>some r.isNone|_=>none
 |.func _ _ _=>match x with|.nilFunc=>some true|.func _ _ _=>some false|_=>none
 |.interface _=>match x with|.nilIface=>some true|.iface _ _=>some false|_=>none
 |_=>none
def uc(d:TypeDesc)(x y:Value):Bool:=
 match fm d x,fm d y with
 |some true,some false=>true
 |some false,some true=>true
 |_,_=>false
def kC(op:BinOp)(k:IntKind)(a b:Int):Option Value:=
 match op with
 |.add=>some (.int k (k.wrap (a+b)))
 |.sub=>some (.int k (k.wrap (a-b)))
 |.mul=>some (.int k (k.wrap (a*b)))
 |.eql=>some (.bool (decide (a=b)))
 |.neq=>some (.bool (!decide (a=b)))
 |.lss=>some (.bool (decide (a<b)))
 |.leq=>some (.bool (decide (a<=b)))
 |.gtr=>some (.bool (decide (b<a)))
 |.geq=>some (.bool (decide (b<=a)))
 |_=>none
def cD(e:Env)(op:BinOp)(t:TypeId)(x y:Operand)(a b:Value):Option Value:=
 match(match a,b with
  |.int k n,.int k' m=>bif decide (k=k')then kC op k n m else none
  |_,_=>none)with
 |some v=>some v
 |none=>bif plain a&&plain b then eD e.P (do eqGuard op t x y a b;binOp op t a b)
  else match e.under t with
   |none=>none
   |some d=>bif uc d a b then match op with
    |.eql=>some (.bool false)
    |.neq=>some (.bool true)
    |_=>none
    else none
inductive AR where
 |val (v:Value) (h:aa)
 |skip (h:aa)
 |enter (f:FuncId) (args:List Value) (h:aa)
 |round (l:Nat) (args:List Value) (h:aa)
 |defer (f:FuncId) (args:List Value) (cap:List Value) (h:aa)
def mZ(f:Value)(args:List Value):Option (Fn×List Value×List Value):=
 match f with
 |.func fn first cap=>some (fn,first.toList++args,cap.toList)
 |_=>none
def gX:Value->Option Addr
 |.pointer (some a)=>some a
 |_=>none
def pA(h:aa)(it:Value)(isString:Bool):Option (Value×aa):=
 match it with
 |.pointer (some ⟨r,0,none⟩)=>match h.get r,isString with
  |some (.eC s pos),true=>
   bif xS pos s.size then
    let d:=Utf8.decode s pos
    some (.tuple #[.bool true,.int .i64 pos,.int .i32 d.1],h.set r (some (.eC s (pos+d.2))))
   else some (.tuple #[.bool false],h)
  |some (.cj none _ _ _),false=>some (.tuple #[.bool false],h)
  |some (.cj (some m) since seen last),false=>match h.get m with
   |some (.map es clock)=>
    bif (!seen.isEmpty&& !es.isEmpty&&es.all λx=>DE last x.born)then none else
    let left:=es.filter λx=> !seen.contains x.born
    let aY:=left.filter λx=>decide (x.born<since)
    let new:=left.filter λx=>decide (x.born>=since)
    match aY,new with
    |[],[]=>some (.tuple #[.bool false],h)
    |[x],[]=>some (.tuple #[.bool true,x.key,x.val],h.set r (some (.cj (some m) since (seen++[x.born]) clock)))
    |_,_=>none
   |_=>none
  |_,_=>none
 |_=>none
def qB(h:aa)(it:Value):Option Value:=
 match it with
 |.pointer (some ⟨r,0,none⟩)=>match h.get r with
  |some (.cj (some m) _ seen ab)=>match seen.getLast?,h.get m with
   |some ae,some (.map es clock)=>bif qe clock ab then match es.find? λx=>x.born==ae with
    |some x=>some (.tuple #[x.key,x.val])
    |none=>none
    else none
   |_,_=>none
  |_=>none
 |_=>none
def lz(e:Env)(h:aa)(t:Tr Value)(c:Call):Option AR:=
 match cR e t c.args.toList with
 |none=>none
 |some args=>match c.callee with
  |.value f=>match aw e t f with
   |none=>none
   |some fv=>match mZ fv args with
    |some (.func g,az,cap)=>some (.enter g (az++cap) h)
    |some (.yield l,az,_)=>some (.round l az h)
    |_=>none
  |.invoke _ _=>none
  |.builtin b=>match b,args with
   |.append,[s,x]=>(mY e h c.argTypes s x).map λr=>.val r.1 r.2
   |.copy,[d,x]=>(wh e h c.argTypes d x).map λr=>.val r.1 r.2
   |.len,[x]=>match c.argTypes[0]? with
    |none=>none
    |some ty=>(fk e h ty x).map λv=>.val v h
   |.cap,[x]=>match c.argTypes[0]? with
    |none=>none
    |some ty=>(qA e h ty x).map λv=>.val v h
   |.min,_=>bif args.all plain then(eD e.P (Builtin.min_ #[] 0 args.toArray)).map λv=>.val v h else none
   |.max,_=>bif args.all plain then(eD e.P (Builtin.max_ #[] 0 args.toArray)).map λv=>.val v h else none
   |_,_=>none
def qC:List Value->Option (List Int)
 |[]=>some []
 |.int .u8 n::r=>(qC r).map (n::·)
 |_=>none
def strOf(ns:List Int):ByteArray:=ns.foldl (λr n=>r.push (UInt8.ofNat n.toNat)) ByteArray.empty
def od(e:Env)(h:aa)(s d:TypeId)(x:Value):Option Value:=
 match x,e.under s,e.under d with
 |.slice (some a) len _,some (.slice el),some .string=>match e.under el with
  |some (.int .u8)=>match fF h a len with
   |some cs=>(qC cs).map λns=>.string (strOf ns)
   |none=>none
  |_=>none
 |_,_,_=>none
def aK(e:Env)(h:aa)(t:Tr Value)(op:Op):Option AR:=
 match op with
 |.move x|.assign x=>(aw e t x).map λv=>.val v h
 |.pick c a b=>match aw e t c with
  |some (.bool true)=>(aw e t a).map λv=>.val v h
  |some (.bool false)=>(aw e t b).map λv=>.val v h
  |_=>none
 |.alloc _|.box _ _|.buildSlice _ _ _|.makeMap _ _|.makeSlice _ _ _=>match cF e t op with
  |none=>none
  |some (o,f)=>some (.val (f h.next) (h.new o))
 |.build ty parts=>match eY e t parts.toList with
  |none=>none
  |some ps=>(pt e ty ps).map λv=>.val v h
 |.load ty a=>match(aw e t a).bind gX with
  |none=>none
  |some a=>(gV e h ty a).map λv=>.val v h
 |.store ty a x=>match(aw e t a).bind gX,aw e t x with
  |some a,some v=>(n9 e h ty a v).map .skip
  |_,_=>none
 |.nilCheck x=>match aw e t x with
  |some (.pointer (some a))=>some (.val (.pointer (some a)) h)
  |some (.func (.func f) a b)=>some (.val (.func (.func f) a b) h)
  |_=>none
 |.binOp op ty x y _=>match aw e t x,aw e t y with
  |some a,some b=>(cD e op ty x y a b).map λv=>.val v h
  |_,_=>none
 |.unOp op _ x=>match aw e t x with
  |some a=>bif plain a then(eD e.P (Op.unary op a)).map λv=>.val v h else none
  |_=>none
 |.convert s d x=>match aw e t x with
  |some a=>bif plain a then(eD e.P (convert s d a)).map λv=>.val v h else(od e h s d a).map λv=>.val v h
  |_=>none
 |.makeInterface ty x=>match aw e t x,e.under ty with
  |some _,some (.interface _)=>none
  |some v,some _=>some (.val (.iface ty v) h)
  |_,_=>none
 |.makeFunc (.func f) first cap=>match cR e t first.toList,cR e t cap.toList with
  |some a,some b=>some (.val (.func (.func f) a.toArray b.toArray) h)
  |_,_=>none
 |.slice ty x lo hi mx=>match aw e t x,(match lo with|none=>some none|some o=>(aw e t o).map some),(match hi with|none=>some none|some o=>(aw e t o).map some),(match mx with|none=>some none|some o=>(aw e t o).map some)with
  |some x,some lo,some hi,some mx=>(jA e h ty x lo hi mx).map λv=>.val v h
  |_,_,_,_=>none
 |.fieldAddr s x f=>match(aw e t x).bind gX,e.under s with
  |some a,some (.struct fields)=>match jW e fields f with
   |some (off,size)=>bif xS 0 size then some (.val (.pointer (some (a.add off))) h)else none
   |none=>none
  |_,_=>none
 |.field ty x f=>match aw e t x,e.under ty with
  |some (.agg cs),some (.struct fields)=>match fields[f]? with
   |none=>none
   |some fd=>(mW e fd.type cs.toList fd.offset).map λv=>.val v h
  |_,_=>none
 |.indexAddr ty x ix=>match aw e t x,(aw e t ix).bind intOf,e.under ty with
  |some (.pointer (some a)),some i,some (.array len elem)=>match e.size elem with
   |none=>none
   |some s=>bif decide (0<=i)&&decide (i<(len:Int))then some (.val (.pointer (some (a.add (i.toNat*s)))) h)else none
  |some (.slice (some a) len _),some i,some (.slice elem)=>match e.size elem with
   |none=>none
   |some s=>bif decide (0<=i)&&decide (i<(len:Int))then some (.val (.pointer (some (a.add (i.toNat*s)))) h)else none
  |_,_,_=>none
 |.index ty x ix=>match aw e t x,aw e t ix,e.under ty with
  |some (.agg cs),some (.int _ i),some (.array len elem)=>match e.size elem with
   |none=>none
   |some s=>bif decide (0<=i)&&decide (i<(len:Int))then(mW e elem cs.toList (i.toNat*s)).map λv=>.val v h else none
  |some (.string s),some (.int k i),some .string=>(eD e.P (Instr.index ty (.string s) (.int k i))).map λv=>.val v h
  |_,_,_=>none
 |.lookup ty m k ok=>match aw e t m,aw e t k with
  |some m,some k=>(px e h ty m k ok).map λv=>.val v h
  |_,_=>none
 |.mapUpdate ty m k v|.insert ty m k v=>match aw e t m,aw e t k,aw e t v with
  |some m,some k,some v=>(qz e h ty m k v).map .skip
  |_,_,_=>none
 |.range ty x=>match aw e t x,e.under ty with
  |some (.string s),some .string=>some (.val (.pointer (some ⟨h.next,0,none⟩)) (h.new (.eC s 0)))
  |some (.map none),some (.map _ _)=>some (.val (.pointer (some ⟨h.next,0,none⟩)) (h.new (.cj none 0 [] 0)))
  |some (.map (some m)),some (.map _ _)=>match h.get m with
   |some (.map _ clock)=>some (.val (.pointer (some ⟨h.next,0,none⟩)) (h.new (.cj (some m) clock [] clock)))
   |_=>none
  |_,_=>none
 |.next it s=>match aw e t it with
  |none=>none
  |some it=>(pA h it s).map λr=>.val r.1 r.2
 |.entry it=>match aw e t it with
  |none=>none
  |some it=>(qB h it).map λv=>.val v h
 |.extract x i=>match aw e t x with
  |some (.tuple vs)=>(vs[i]?).map λv=>.val v h
  |_=>none
 |.call c=>lz e h t c
 |.defer c=>match c.callee,cR e t c.args.toList with
  |.value f,some args=>match(aw e t f).bind (mZ · args)with
   |some (.func g,az,cap)=>some (.defer g az cap h)
   |_=>none
  |_,_=>none
 |_=>none
def JN(e:Env)(h:aa)(t:Tr Value)(x:Operand):Option AR:=(aw e t x).map λv=>.val v h
def JO(e:Env)(h:aa)(t:Tr Value)(x:Operand):Option AR:=(aw e t x).map λv=>.val v h
def JP(e:Env)(h:aa)(t:Tr Value)(c:Operand)(a:Operand)(b:Operand):Option AR:=match aw e t c with
 |some (.bool true)=>(aw e t a).map λv=>.val v h
 |some (.bool false)=>(aw e t b).map λv=>.val v h
 |_=>none
def ud(e:Env)(h:aa)(t:Tr Value)(op:Op):Option AR:=match cF e t op with
 |none=>none
 |some (o,f)=>some (.val (f h.next) (h.new o))
def JQ(e:Env)(h:aa)(t:Tr Value)(ty:TypeId)(parts:Array (Nat×Operand)):Option AR:=match eY e t parts.toList with
 |none=>none
 |some ps=>(pt e ty ps).map λv=>.val v h
def JR(e:Env)(h:aa)(t:Tr Value)(ty:TypeId)(a:Operand):Option AR:=match(aw e t a).bind gX with
 |none=>none
 |some a=>(gV e h ty a).map λv=>.val v h
def JS(e:Env)(h:aa)(t:Tr Value)(ty:TypeId)(a:Operand)(x:Operand):Option AR:=match(aw e t a).bind gX,aw e t x with
 |some a,some v=>(n9 e h ty a v).map .skip
 |_,_=>none
def JT(e:Env)(h:aa)(t:Tr Value)(x:Operand):Option AR:=match aw e t x with
 |some (.pointer (some a))=>some (.val (.pointer (some a)) h)
 |some (.func (.func f) a b)=>some (.val (.func (.func f) a b) h)
 |_=>none
def JU(e:Env)(h:aa)(t:Tr Value)(op:BinOp)(ty:TypeId)(x:Operand)(y:Operand)(u4:TypeId):Option AR:=match aw e t x,aw e t y with
 |some a,some b=>(cD e op ty x y a b).map λv=>.val v h
 |_,_=>none
def JV(e:Env)(h:aa)(t:Tr Value)(op:UnOp)(u1:TypeId)(x:Operand):Option AR:=match aw e t x with
 |some a=>bif plain a then(eD e.P (Op.unary op a)).map λv=>.val v h else none
 |_=>none
def JW(e:Env)(h:aa)(t:Tr Value)(s:TypeId)(d:TypeId)(x:Operand):Option AR:=match aw e t x with
 |some a=>bif plain a then(eD e.P (convert s d a)).map λv=>.val v h else(od e h s d a).map λv=>.val v h
 |_=>none
def JX(e:Env)(h:aa)(t:Tr Value)(ty:TypeId)(x:Operand):Option AR:=match aw e t x,e.under ty with
 |some _,some (.interface _)=>none
 |some v,some _=>some (.val (.iface ty v) h)
 |_,_=>none
def JY(e:Env)(h:aa)(t:Tr Value)(f:FuncId)(first cap:Array Operand):Option AR:=match cR e t first.toList,cR e t cap.toList with
 |some a,some b=>some (.val (.func (.func f) a.toArray b.toArray) h)
 |_,_=>none
def JZ(e:Env)(h:aa)(t:Tr Value)(ty:TypeId)(x:Operand)(lo:Option Operand)(hi:Option Operand)(mx:Option Operand):Option AR:=match aw e t x,(match lo with|none=>some none|some o=>(aw e t o).map some),(match hi with|none=>some none|some o=>(aw e t o).map some),(match mx with|none=>some none|some o=>(aw e t o).map some)with
 |some x,some lo,some hi,some mx=>(jA e h ty x lo hi mx).map λv=>.val v h
 |_,_,_,_=>none
def J0(e:Env)(h:aa)(t:Tr Value)(s:TypeId)(x:Operand)(f:Nat):Option AR:=match(aw e t x).bind gX,e.under s with
 |some a,some (.struct fields)=>match jW e fields f with
  |some (off,size)=>bif xS 0 size then some (.val (.pointer (some (a.add off))) h)else none
  |none=>none
 |_,_=>none
def J1(e:Env)(h:aa)(t:Tr Value)(ty:TypeId)(x:Operand)(f:Nat):Option AR:=match aw e t x,e.under ty with
 |some (.agg cs),some (.struct fields)=>match fields[f]? with
  |none=>none
  |some fd=>(mW e fd.type cs.toList fd.offset).map λv=>.val v h
 |_,_=>none
def J2(e:Env)(h:aa)(t:Tr Value)(ty:TypeId)(x:Operand)(ix:Operand):Option AR:=match aw e t x,(aw e t ix).bind intOf,e.under ty with
 |some (.pointer (some a)),some i,some (.array len elem)=>match e.size elem with
  |none=>none
  |some s=>bif decide (0<=i)&&decide (i<(len:Int))then some (.val (.pointer (some (a.add (i.toNat*s)))) h)else none
 |some (.slice (some a) len _),some i,some (.slice elem)=>match e.size elem with
  |none=>none
  |some s=>bif decide (0<=i)&&decide (i<(len:Int))then some (.val (.pointer (some (a.add (i.toNat*s)))) h)else none
 |_,_,_=>none
def J3(e:Env)(h:aa)(t:Tr Value)(ty:TypeId)(x:Operand)(ix:Operand):Option AR:=match aw e t x,aw e t ix,e.under ty with
 |some (.agg cs),some (.int _ i),some (.array len elem)=>match e.size elem with
  |none=>none
  |some s=>bif decide (0<=i)&&decide (i<(len:Int))then(mW e elem cs.toList (i.toNat*s)).map λv=>.val v h else none
 |some (.string s),some (.int k i),some .string=>(eD e.P (Instr.index ty (.string s) (.int k i))).map λv=>.val v h
 |_,_,_=>none
def J4(e:Env)(h:aa)(t:Tr Value)(ty:TypeId)(m:Operand)(k:Operand)(ok:Bool):Option AR:=match aw e t m,aw e t k with
 |some m,some k=>(px e h ty m k ok).map λv=>.val v h
 |_,_=>none
def J5(e:Env)(h:aa)(t:Tr Value)(ty:TypeId)(m:Operand)(k:Operand)(v:Operand):Option AR:=match aw e t m,aw e t k,aw e t v with
 |some m,some k,some v=>(qz e h ty m k v).map .skip
 |_,_,_=>none
def J6(e:Env)(h:aa)(t:Tr Value)(ty:TypeId)(m:Operand)(k:Operand)(v:Operand):Option AR:=match aw e t m,aw e t k,aw e t v with
 |some m,some k,some v=>(qz e h ty m k v).map .skip
 |_,_,_=>none
def J7(e:Env)(h:aa)(t:Tr Value)(ty:TypeId)(x:Operand):Option AR:=match aw e t x,e.under ty with
 |some (.string s),some .string=>some (.val (.pointer (some ⟨h.next,0,none⟩)) (h.new (.eC s 0)))
 |some (.map none),some (.map _ _)=>some (.val (.pointer (some ⟨h.next,0,none⟩)) (h.new (.cj none 0 [] 0)))
 |some (.map (some m)),some (.map _ _)=>match h.get m with
  |some (.map _ clock)=>some (.val (.pointer (some ⟨h.next,0,none⟩)) (h.new (.cj (some m) clock [] clock)))
  |_=>none
 |_,_=>none
def J8(e:Env)(h:aa)(t:Tr Value)(it:Operand)(s:Bool):Option AR:=match aw e t it with
 |none=>none
 |some it=>(pA h it s).map λr=>.val r.1 r.2
def J9(e:Env)(h:aa)(t:Tr Value)(it:Operand):Option AR:=match aw e t it with
 |none=>none
 |some it=>(qB h it).map λv=>.val v h
def Ka(e:Env)(h:aa)(t:Tr Value)(x:Operand)(i:Nat):Option AR:=match aw e t x with
 |some (.tuple vs)=>(vs[i]?).map λv=>.val v h
 |_=>none
def Kb(e:Env)(h:aa)(t:Tr Value)(c:Call):Option AR:=match c.callee,cR e t c.args.toList with
 |.value f,some args=>match(aw e t f).bind (mZ · args)with
  |some (.func g,az,cap)=>some (.defer g az cap h)
  |_=>none
 |_,_=>none
def CY(e:Env)(h:aa)(t:Tr Value)(op:Op):Option AR:=
 match op with
 |.move x=>JN e h t x
 |.assign x=>JO e h t x
 |.pick c a b=>JP e h t c a b
 |.alloc x0=>ud e h t (.alloc x0)
 |.box x0 x1=>ud e h t (.box x0 x1)
 |.buildSlice x0 x1 x2=>ud e h t (.buildSlice x0 x1 x2)
 |.makeMap x0 x1=>ud e h t (.makeMap x0 x1)
 |.makeSlice x0 x1 x2=>ud e h t (.makeSlice x0 x1 x2)
 |.build ty parts=>JQ e h t ty parts
 |.load ty a=>JR e h t ty a
 |.store ty a x=>JS e h t ty a x
 |.nilCheck x=>JT e h t x
 |.binOp op ty x y u4=>JU e h t op ty x y u4
 |.unOp op u1 x=>JV e h t op u1 x
 |.convert s d x=>JW e h t s d x
 |.makeInterface ty x=>JX e h t ty x
 |.makeFunc (.func f) first cap=>JY e h t f first cap
 |.slice ty x lo hi mx=>JZ e h t ty x lo hi mx
 |.fieldAddr s x f=>J0 e h t s x f
 |.field ty x f=>J1 e h t ty x f
 |.indexAddr ty x ix=>J2 e h t ty x ix
 |.index ty x ix=>J3 e h t ty x ix
 |.lookup ty m k ok=>J4 e h t ty m k ok
 |.mapUpdate ty m k v=>J5 e h t ty m k v
 |.insert ty m k v=>J6 e h t ty m k v
 |.range ty x=>J7 e h t ty x
 |.next it s=>J8 e h t it s
 |.entry it=>J9 e h t it
 |.extract x i=>Ka e h t x i
 |.call c=>lz e h t c
 |.defer c=>Kb e h t c
 |_=>none
theorem Kc(e:Env)(h:aa)(t:Tr Value)(op:Op):CY e h t op=aK e h t op:=by
 cases op<;>first|rfl|(rename_i fn _ _;cases fn<;>rfl)
structure aE where
 t:Tr Value
 n:Nat
 ds:List Deferred
 h:aa
inductive bk where
 |normal
 |exit (id:Nat)
 |ret
 deriving DecidableEq
abbrev eE:=FuncId->List Value->aa->Option (Value×aa)
abbrev gk:=Nat->List Value->aa->Option (Value×aa)
def eZ(s:aE)(dst:Option Tmp)(v:Value):Option aE:=
 match dst with
 |none=>some s
 |some d=>match s with
  |⟨t,n,ds,h⟩=>bif xS d n then some ⟨t.set d (some v),n,ds,h⟩else none
theorem qD(s:aE)(dst:Option Tmp)(v:Value):eZ s dst v=match dst with
 |none=>some s
 |some d=>bif xS d s.n then some {s with t:=s.t.set d (some v)}else none:=by cases dst<;>rfl
def ma(e:Env)(cf:eE)(rf:gk)(ro:Option Nat)(o:Oper)(s:aE):Option aE:=
 match s with
 |⟨t,n,ds,h⟩=>match CY e h t o.op with
  |none=>none
  |some (.val v h)=>eZ ⟨t,n,ds,h⟩ o.dst v
  |some (.skip h)=>eZ ⟨t,n,ds,h⟩ o.dst undef
  |some (.enter f args h)=>match cf f args h with
   |none=>none
   |some (v,h)=>eZ ⟨t,n,ds,h⟩ o.dst v
  |some (.round l args h)=>match rf l args h with
   |none=>none
   |some (v,h)=>eZ ⟨t,n,ds,h⟩ o.dst v
  |some (.defer f args cap h)=>match ro with
   |some _=>none
   |none=>eZ ⟨t,n,{target:=.fn (.func f) cap.toArray,args:=args.toArray}::ds,h⟩ o.dst undef
theorem wi(e:Env)(cf:eE)(rf:gk)(ro:Option Nat)(o:Oper)(s:aE):ma e cf rf ro o s=match aK e s.h s.t o.op with
 |none=>none
 |some (.val v h)=>eZ {s with h} o.dst v
 |some (.skip h)=>eZ {s with h} o.dst undef
 |some (.enter f args h)=>match cf f args h with
  |none=>none
  |some (v,h)=>eZ {s with h} o.dst v
 |some (.round l args h)=>match rf l args h with
  |none=>none
  |some (v,h)=>eZ {s with h} o.dst v
 |some (.defer f args cap h)=>match ro with
  |some _=>none
  |none=>eZ {s with h,ds:={target:=.fn (.func f) cap.toArray,args:=args.toArray}::s.ds} o.dst undef:=by
 rw[<-Kc];rfl
def cH(ops:List Oper)(s:aE)(o:Oper):Option Bool:=
 match o.guard with
 |none=>some true
 |some (j,want)=>match(ops[j]?).bind (·.dst)with
  |none=>none
  |some d=>match s.t.get d with
   |some (.bool b)=>some (b==want)
   |some (.tuple _)=>some false
   |_=>none
def qE(e:Env)(cf:eE)(rf:gk)(ro:Option Nat)(ops:List Oper):List Oper->aE->Option aE
 |[],s=>some s
 |o::r,s=>match cH ops s o with
  |none=>none
  |some true=>match ma e cf rf ro o s with
   |none=>none
   |some s=>qE e cf rf ro ops r s
  |some false=>match eZ s o.dst undef with
   |none=>none
   |some s=>qE e cf rf ro ops r s
inductive sk where
 |pure|read|alloc|effect|bad
 deriving DecidableEq
def cls:Op->sk
 |.move _|.assign _|.pick _ _ _|.build _ _|.nilCheck _|.binOp _ _ _ _ _|.unOp _ _ _|.makeInterface _ _|.makeFunc _ _ _
 |.fieldAddr _ _ _|.field _ _ _|.indexAddr _ _ _|.index _ _ _|.extract _ _=>.pure
 |.load _ _|.lookup _ _ _ _|.entry _|.slice _ _ _ _ _|.convert _ _ _=>.read
 |.alloc _|.box _ _|.buildSlice _ _ _|.makeMap _ _|.makeSlice _ _ _=>.alloc
 |.call c=>match c.callee with
  |.builtin .len|.builtin .cap|.builtin .min|.builtin .max=>.read
  |_=>.effect
 |.store _ _ _|.mapUpdate _ _ _ _|.insert _ _ _ _|.range _ _|.next _ _=>.effect
 |_=>.bad
def lA:List Oper->List Nat->List Nat
 |[],acc=>acc.reverse
 |o::r,acc=>
  let look (i:Nat):Nat:=acc.reverse.getD i 0
  lA r (o.after.toList.foldl (λs x=>bif Region.binds .any x then Nat.lor s (Nat.lor (2^x.on) (look x.on))else s) 0::acc)
def bf(ops:List Oper):List Nat:=lA ops []
def tmpsOf(o:Oper):List Tmp:=o.op.operands.toList.filterMap λ|.tmp t=>some t|_=>none
def pB(ops:List Oper)(ms:List Nat):Bool:=
 let io:=ops.zipIdx
 (io.all λ(o,i)=>o.after.toList.all λx=> !Region.binds .any x||xS x.on i)&&
 (io.all λ(o,i)=>match o.guard with|none=>true|some (j,_)=>(ms.getD i 0).testBit j)&&
 (io.all λ(o,i)=>match o.dst with
  |none=>true
  |some d=>io.all λ(p,j)=>qe i j||((match p.dst with|some d'=> !Nat.beq d d'|none=>true)&&(!(tmpsOf p).contains d||(bif xS i j then(ms.getD j 0).testBit i else(ms.getD i 0).testBit j))))&&
 (io.all λ(o,_)=>match o.dst with|none=>true|some d=> !(tmpsOf o).contains d)&&
 (let es:=io.filter λ(o,_)=>cls o.op==.effect
  es.all λ(_,i)=>es.all λ(_,j)=> !Nat.blt i j||(ms.getD j 0).testBit i)
abbrev cZ:=List (Nat×Nat×bF)
def bW(h:aa)(m:Nat):cZ->aa
 |[]=>h
 |(i,id,o)::r=>bif m.testBit i then(bW h m r).set id (some o)else bW h m r
def ue:Nat->Value->Value->Bool
 |0,_,_=>false
 |n+1,a,b=>match a,b with
  |.bool a,.bool b=>a==b
  |.int j a,.int k b=>decide (j=k)&&decide (a=b)
  |.string a,.string b=>decide (a=b)
  |.pointer a,.pointer b=>decide (a=b)
  |.slice a l c,.slice b m d=>decide (a=b)&&qe l m&&qe c d
  |.map a,.map b=>decide (a=b)
  |.nilFunc,.nilFunc=>true
  |.nilIface,.nilIface=>true
  |.iface t v,.iface u w=>decide (t=u)&&ue n v w
  |.agg a,.agg b=>qF n a.toList b.toList
  |.tuple a,.tuple b=>qF n a.toList b.toList
  |.func f a c,.func g b d=>decide (f=g)&&qF n a.toList b.toList&&qF n c.toList d.toList
  |_,_=>false
where
 qF (n:Nat):List Value->List Value->Bool
 |[],[]=>true
 |a::x,b::y=>ue n a b&&qF n x y
 |_,_=>false
structure cm where
 s:aE
 aq:cZ
 all:cZ
 bw:List (Nat×aa)
 cS:List (Tr Value)
def so(e:Env)(cf:eE)(rf:gk)(ro:Option Nat)(ops:List Oper)(i id m:Nat)(o:Oper)(x:cm):Option cm:=
 match cH ops x.s o with
 |none=>none
 |some false=>match eZ x.s o.dst undef with
  |none=>none
  |some s=>match cls o.op with
   |.effect=>some {x with s,bw:=((x.bw.head?.map (·.1)).getD 0,s.h)::x.bw}
   |.bad=>none
   |_=>some {x with s}
 |some true=>match cls o.op with
  |.pure=>match aK e x.s.h x.s.t o.op with
   |some (.val v _)=>(eZ x.s o.dst v).map λs=>{x with s}
   |_=>none
  |.read=>match aK e (bW x.s.h m x.aq) x.s.t o.op with
   |some (.val v _)=>(eZ x.s o.dst v).map λs=>{x with s}
   |_=>none
  |.alloc=>match cF e x.s.t o.op with
   |none=>none
   |some (ob,f)=>(eZ x.s o.dst (f id)).map λs=>{x with s,aq:=(i,id,ob)::x.aq,all:=(i,id,ob)::x.all}
  |.effect=>match ma e cf rf ro o {x.s with h:=bW x.s.h m x.aq}with
   |none=>none
   |some s=>some {x with s,aq:=x.aq.filter λp=> !m.testBit p.1,bw:=(Nat.lor ((x.bw.head?.map (·.1)).getD 0) m,s.h)::x.bw}
  |.bad=>none
def nextId(o:Oper)(id:Nat):Nat:=bif cls o.op==.alloc then id+1 else id
def mb(e:Env)(dx:Nat->eE)(rf:gk)(ro:Option Nat)(ops:List Oper):List (Oper×Nat)->Nat->Nat->cm->Option cm
 |[],_,_,x=>some x
 |(o,m)::r,i,id,x=>match so e (dx i) rf ro ops i id m o {x with cS:=x.s.t::x.cS}with
  |none=>none
  |some x=>mb e dx rf ro ops r (i+1) (nextId o id) x
def Ke(e:Env)(x:cm)(bw:List (Nat×aa))(cN:List (Nat×Nat))(i m:Nat)(o:Oper)(t:Tr Value):Bool:=
 let lo:=(cN.filter λp=>m.testBit p.1).length
 let hi:=(cN.filter λp=> !p.2.testBit i).length
 bif DE hi lo then true else
 match o.dst with
 |none=>false
 |some d=>match x.s.t.get d with
  |none=>false
  |some v=>((bw.drop lo).take (hi+1-lo)).all λ(inc,h)=>
   match aK e (bW h m (x.all.filter λp=> !inc.testBit p.1)) t o.op with
   |some (.val v' _)=>ue 12 v v'
   |_=>false
def CZ(e:Env)(ops:List Oper)(x:cm)(bw:List (Nat×aa))(cN:List (Nat×Nat)):List (Oper×Nat)->List (Tr Value)->Nat->Bool
 |(o,m)::r,t::ts,i=>(bif cls o.op==.read then(match cH ops {x.s with t} o with
  |some true=>Ke e x bw cN i m o t
  |_=>true)else true)&&CZ e ops x bw cN r ts (i+1)
 |[],_,_=>true
 |_,_,_=>false
def jB:List (Oper×Nat)->Nat->List (Nat×Nat)
 |[],_=>[]
 |(o,m)::r,i=>bif cls o.op==.effect then(i,m)::jB r (i+1)else jB r (i+1)
def eO(h:aa):cZ->aa
 |[]=>h
 |(_,id,o)::r=>(eO h r).set id (some o)
def Kf(e:Env)(cf:eE)(rf:gk)(ro:Option Nat)(ops:List Oper)(draw:Bool)(s:aE):Option aE:=
 bif draw then
  let ms:=bf ops
  let oms:=ops.zip ms
  let cN:=jB oms 0
  bif pB ops ms then
   match mb e (λ_=>cf) rf ro ops oms 0 s.h.next {s:={s with h:={s.h with next:=s.h.next+(ops.filter λo=>cls o.op==.alloc).length}},aq:=[],all:=[],bw:=[(0,{s.h with next:=s.h.next+(ops.filter λo=>cls o.op==.alloc).length})],cS:=[]}with
   |none=>none
   |some x=>bif (qe cN.length 0)||CZ e ops x x.bw.reverse cN oms x.cS.reverse 0 then some {x.s with h:=eO x.s.h x.aq}else none
  else none
 else qE e cf rf ro ops ops s
def gL(e:Env)(s:aE):List ResultVar->Option (List Value)
 |[]=>some []
 |r::rs=>match(match r with
  |.tmp t=>s.t.get t
  |.cell a t=>match(s.t.get a).bind gX with
   |none=>none
   |some ad=>gV e s.h t ad),gL e s rs with
  |some v,some vs=>some (v::vs)
  |_,_=>none
def kD(e:Env):List Deferred->aa->Option aa
 |[],h=>some h
 |d::ds,h=>match d.target with
  |.collected r=>match h.get r with
   |some (.fj true)=>kD e ds (h.set r (some (.fj false)))
   |_=>none
  |.fn (.func g) _=>bif e.idle g then kD e ds h else none
  |_=>none
def gl(args:List Value):Tr Value:=Tr.ofList args 0 .nil
abbrev oe:=Option Nat->Code->aE->Option (bk×aE)
def pC(e:Env)(ev:oe):eE:=λf args h=>
 match e.fn f with
 |none=>none
 |some fn=>match fn.body with
  |none=>none
  |some c=>match ev none c {t:=gl args,n:=args.length+(fn.ntmps-args.length),ds:=[],h}with
   |none=>none
   |some (.exit _,_)=>none
   |some (_,s)=>match kD e s.ds s.h with
    |none=>none
    |some h=>match gL e {s with h} fn.results.toList with
     |some [v]=>some (v,h)
     |some vs=>some (.tuple vs.toArray,h)
     |none=>none
def C0(n:Nat):List Tmp->List Value->Tr Value->Option (Tr Value)
 |[],[],t=>some t
 |p::ps,v::vs,t=>bif xS p n then C0 n ps vs (t.set p (some v))else none
 |_,_,_=>none
def yQ:bk->Option Code
 |.normal=>none
 |.ret=>some .ret
 |.exit id=>some (.exit id)
def Kg(ev:oe):gk:=λl args h=>
 match h.get l with
 |some (.loop .ready _ t n params bL body _)=>match C0 n params args t with
  |none=>none
  |some t'=>match ev (some l) bL {t:=t',n,ds:=[],h}with
   |some (.normal,s)=>match s.h.get l with
    |some (.loop .ready af t2 n2 params2 aD ai aF)=>match ev (some l) body {s with h:=s.h.set l (some (.loop .busy af t2 n2 params2 aD ai aF))}with
     |none=>none
     |some (x,s)=>match s.h.get l with
      |some (.loop _ _ t3 n3 params3 aI ao aL)=>
       some (.bool (yQ x).isNone,s.h.set l (some (.loop (if(yQ x).isNone then .ready else .done) (yQ x) t3 n3 params3 aI ao aL)))
      |_=>none
    |_=>none
   |_=>none
 |_=>none
def Kh(e:Env)(ev:oe)(cf:eE)(ro:Option Nat)(g:Operand)(params:Array Tmp)(bL body:Code)(s:aE):Option (bk×aE):=
 match(match ro with
  |some l=>(match s.h.get l with|some (.loop _ _ _ _ _ _ _ fj)=>some (fj,[],s.h)|_=>none)
  |none=>some (s.h.next,[({target:=.collected s.h.next,args:=#[]}:Deferred)],s.h.new (.fj true)))with
 |none=>none
 |some (fj,mark,h)=>
  let l:=h.next
  let h:=h.new (.loop .ready none s.t s.n params.toList bL body fj)
  match(aw e s.t g).bind (mZ · [.func (.yield l) #[] #[]])with
  |some (.func f,az,cap)=>match cf f (az++cap) h with
   |none=>none
   |some (_,h)=>match h.get l with
    |some (.loop st aq t n params bL body fj)=>bif st==.busy then none else
     let s:aE:={s with h:=h.set l (some (.loop .exhausted aq t n params bL body fj)),ds:=mark++s.ds}
     match aq with
     |none=>some (.normal,s)
     |some c=>ev ro c s
    |_=>none
  |_=>none
def C1(e:Env)(cf:eE):eE:=λf args h=>
 match e.jV f args h with
 |some r=>some r
 |none=>cf f args h
def Ki(e:Env)(ev:oe):oe:=λro c s=>
 match c with
 |.skip|.label _=>some (.normal,s)
 |.scope c=>ev ro c s
 |.region _ ops draw=>(Kf e (C1 e (pC e ev)) (Kg ev) ro ops.toList draw s).map λs=>(.normal,s)
 |.seq a b=>match ev ro a s with
  |some (.normal,s)=>ev ro b s
  |r=>r
 |.cond c a b=>match aw e s.t c with
  |some (.bool true)=>ev ro a s
  |some (.bool false)=>ev ro b s
  |_=>none
 |.block id c=>match ev ro c s with
  |some (.exit aM,s)=>bif qe aM id then some (.normal,s)else some (.exit aM,s)
  |r=>r
 |.loop c=>match ev ro c s with
  |some (.normal,s)=>ev ro (.loop c) s
  |r=>r
 |.rangeFunc g params bL body=>Kh e ev (C1 e (pC e ev)) ro g params bL body s
 |.exit id=>some (.exit id,s)
 |.ret=>some (.ret,s)
 |_=>none
def ev(e:Env):Nat->oe
 |0=>λ_ _ _=>none
 |n+1=>Ki e (ev e n)
def call(e:Env)(n:Nat):eE:=pC e (ev e n)
end Go.au
end

/- SpacingSuffixes: parts of its proof (AbsA). -/
import GoSem.Step
set_option linter.unusedVariables false
set_option linter.unusedSimpArgs false
noncomputable section
namespace Go.aw
inductive D4 where
 |a|b|c|d
inductive Od(α:Type)where
 |nil
 |node (v:Option α) (a b c d:Od α)
def digit(j:Nat):D4:=
 Nat.rec (motive:=λ_=>D4) .a (λk _=>Nat.rec (motive:=λ_=>D4) .b (λk _=>Nat.rec (motive:=λ_=>D4) .c (λ_ _=>.d) k) k) (Nat.mod j 4)
def ub(n:Nat):Nat->List D4:=
 Nat.rec (motive:=λ_=>Nat->List D4) (λ_=>[]) (λ_ ih i=>Nat.rec (motive:=λ_=>List D4) [] (λj _=>digit j::ih (Nat.div j 4)) i) n
def path(i:Nat):List D4:=Nat.rec (motive:=λ_=>List D4) [] (λk _=>digit k::ub k (Nat.div k 4)) i
def uc{α:Type}(p:List D4):Od α->Option α:=
 List.rec (motive:=λ_=>Od α->Option α) (λt=>Od.rec (motive:=λ_=>Option α) none (λv _ _ _ _ _ _ _ _=>v) t)
  (λx _ ih t=>Od.rec (motive:=λ_=>Option α) none (λ_ a b c d _ _ _ _=>D4.rec (motive:=λ_=>Option α) (ih a) (ih b) (ih c) (ih d) x) t) p
def xY{α:Type}(p:List D4)(x:Option α):Od α->Od α:=
 List.rec (motive:=λ_=>Od α->Od α) (λt=>Od.rec (motive:=λ_=>Od α) (.node x .nil .nil .nil .nil) (λ_ a b c d _ _ _ _=>.node x a b c d) t)
  (λy _ ih t=>Od.rec (motive:=λ_=>Od α)
   (D4.rec (motive:=λ_=>Od α) (.node none (ih .nil) .nil .nil .nil) (.node none .nil (ih .nil) .nil .nil) (.node none .nil .nil (ih .nil) .nil) (.node none .nil .nil .nil (ih .nil)) y)
   (λv a b c d _ _ _ _=>D4.rec (motive:=λ_=>Od α) (.node v (ih a) b c d) (.node v a (ih b) c d) (.node v a b (ih c) d) (.node v a b c (ih d)) y) t) p
structure bb(α:Type)where
 a0:α
 a1:α
 a2:α
 a3:α
 a4:α
 a5:α
 a6:α
 a7:α
 a8:α
 a9:α
 dZ:α
 dR:α
 eI:α
 eJ:α
 eK:α
 eL:α
structure Bx(α:Type)where
 run:α
def bb.all{α:Type}(x:α):bb α:=⟨x,x,x,x,x,x,x,x,x,x,x,x,x,x,x,x⟩
def bW{α:Type}(d:Nat):Bx (bb α->α):=
 match d with
 |0=>⟨λv=>v.a0⟩
 |1=>⟨λv=>v.a1⟩
 |2=>⟨λv=>v.a2⟩
 |3=>⟨λv=>v.a3⟩
 |4=>⟨λv=>v.a4⟩
 |5=>⟨λv=>v.a5⟩
 |6=>⟨λv=>v.a6⟩
 |7=>⟨λv=>v.a7⟩
 |8=>⟨λv=>v.a8⟩
 |9=>⟨λv=>v.a9⟩
 |10=>⟨λv=>v.dZ⟩
 |11=>⟨λv=>v.dR⟩
 |12=>⟨λv=>v.eI⟩
 |13=>⟨λv=>v.eJ⟩
 |14=>⟨λv=>v.eK⟩
 |_=>⟨λv=>v.eL⟩
def eZ{α:Type}(d:Nat):Bx (α->bb α->bb α):=
 match d with
 |0=>⟨λx v=>bb.rec (motive:=λ_=>bb α) (λ_ a1 a2 a3 a4 a5 a6 a7 a8 a9 dZ dR eI eJ eK eL=>bb.mk x a1 a2 a3 a4 a5 a6 a7 a8 a9 dZ dR eI eJ eK eL) v⟩
 |1=>⟨λx v=>bb.rec (motive:=λ_=>bb α) (λa0 _ a2 a3 a4 a5 a6 a7 a8 a9 dZ dR eI eJ eK eL=>bb.mk a0 x a2 a3 a4 a5 a6 a7 a8 a9 dZ dR eI eJ eK eL) v⟩
 |2=>⟨λx v=>bb.rec (motive:=λ_=>bb α) (λa0 a1 _ a3 a4 a5 a6 a7 a8 a9 dZ dR eI eJ eK eL=>bb.mk a0 a1 x a3 a4 a5 a6 a7 a8 a9 dZ dR eI eJ eK eL) v⟩
 |3=>⟨λx v=>bb.rec (motive:=λ_=>bb α) (λa0 a1 a2 _ a4 a5 a6 a7 a8 a9 dZ dR eI eJ eK eL=>bb.mk a0 a1 a2 x a4 a5 a6 a7 a8 a9 dZ dR eI eJ eK eL) v⟩
 |4=>⟨λx v=>bb.rec (motive:=λ_=>bb α) (λa0 a1 a2 a3 _ a5 a6 a7 a8 a9 dZ dR eI eJ eK eL=>bb.mk a0 a1 a2 a3 x a5 a6 a7 a8 a9 dZ dR eI eJ eK eL) v⟩
 |5=>⟨λx v=>bb.rec (motive:=λ_=>bb α) (λa0 a1 a2 a3 a4 _ a6 a7 a8 a9 dZ dR eI eJ eK eL=>bb.mk a0 a1 a2 a3 a4 x a6 a7 a8 a9 dZ dR eI eJ eK eL) v⟩
 |6=>⟨λx v=>bb.rec (motive:=λ_=>bb α) (λa0 a1 a2 a3 a4 a5 _ a7 a8 a9 dZ dR eI eJ eK eL=>bb.mk a0 a1 a2 a3 a4 a5 x a7 a8 a9 dZ dR eI eJ eK eL) v⟩
 |7=>⟨λx v=>bb.rec (motive:=λ_=>bb α) (λa0 a1 a2 a3 a4 a5 a6 _ a8 a9 dZ dR eI eJ eK eL=>bb.mk a0 a1 a2 a3 a4 a5 a6 x a8 a9 dZ dR eI eJ eK eL) v⟩
 |8=>⟨λx v=>bb.rec (motive:=λ_=>bb α) (λa0 a1 a2 a3 a4 a5 a6 a7 _ a9 dZ dR eI eJ eK eL=>bb.mk a0 a1 a2 a3 a4 a5 a6 a7 x a9 dZ dR eI eJ eK eL) v⟩
 |9=>⟨λx v=>bb.rec (motive:=λ_=>bb α) (λa0 a1 a2 a3 a4 a5 a6 a7 a8 _ dZ dR eI eJ eK eL=>bb.mk a0 a1 a2 a3 a4 a5 a6 a7 a8 x dZ dR eI eJ eK eL) v⟩
 |10=>⟨λx v=>bb.rec (motive:=λ_=>bb α) (λa0 a1 a2 a3 a4 a5 a6 a7 a8 a9 _ dR eI eJ eK eL=>bb.mk a0 a1 a2 a3 a4 a5 a6 a7 a8 a9 x dR eI eJ eK eL) v⟩
 |11=>⟨λx v=>bb.rec (motive:=λ_=>bb α) (λa0 a1 a2 a3 a4 a5 a6 a7 a8 a9 dZ _ eI eJ eK eL=>bb.mk a0 a1 a2 a3 a4 a5 a6 a7 a8 a9 dZ x eI eJ eK eL) v⟩
 |12=>⟨λx v=>bb.rec (motive:=λ_=>bb α) (λa0 a1 a2 a3 a4 a5 a6 a7 a8 a9 dZ dR _ eJ eK eL=>bb.mk a0 a1 a2 a3 a4 a5 a6 a7 a8 a9 dZ dR x eJ eK eL) v⟩
 |13=>⟨λx v=>bb.rec (motive:=λ_=>bb α) (λa0 a1 a2 a3 a4 a5 a6 a7 a8 a9 dZ dR eI _ eK eL=>bb.mk a0 a1 a2 a3 a4 a5 a6 a7 a8 a9 dZ dR eI x eK eL) v⟩
 |14=>⟨λx v=>bb.rec (motive:=λ_=>bb α) (λa0 a1 a2 a3 a4 a5 a6 a7 a8 a9 dZ dR eI eJ _ eL=>bb.mk a0 a1 a2 a3 a4 a5 a6 a7 a8 a9 dZ dR eI eJ x eL) v⟩
 |_=>⟨λx v=>bb.rec (motive:=λ_=>bb α) (λa0 a1 a2 a3 a4 a5 a6 a7 a8 a9 dZ dR eI eJ eK _=>bb.mk a0 a1 a2 a3 a4 a5 a6 a7 a8 a9 dZ dR eI eJ eK x) v⟩
structure Tr(α:Type)where
 small:bb (bb (Option α))
 sd:bb (bb (bb (bb (Option α))))
 over:Od α
def v1(α:Type):bb (Option α):=bb.all none
def v2(α:Type):bb (bb (Option α)):=bb.all (v1 α)
def v3(α:Type):bb (bb (bb (Option α))):=bb.all (v2 α)
def v4(α:Type):bb (bb (bb (bb (Option α)))):=bb.all (v3 α)
def Tr.nil{α:Type}:Tr α:=⟨v2 α,v4 α,.nil⟩
def lo(i:Nat):Nat:=Nat.mod i 16
def hi(i:Nat):Nat:=Nat.div i 16
def dS(i:Nat):Nat:=Nat.div i 256
def pq(i:Nat):Nat:=Nat.div i 4096
def pr{α:Type}(i:Nat):Bx (Tr α->Option α):=
 match Nat.blt i 256,Nat.blt i 65536 with
 |true,_=>⟨λt=>(bW (lo i)).run ((bW (hi i)).run t.small)⟩
 |false,true=>⟨λt=>(bW (lo i)).run ((bW (lo (hi i))).run ((bW (lo (dS i))).run ((bW (pq i)).run t.sd)))⟩
 |false,false=>⟨λt=>uc (path i) t.over⟩
def pt{α:Type}(i:Nat):Bx (Option α->Tr α->Tr α):=
 match Nat.blt i 256,Nat.blt i 65536 with
 |true,_=>⟨λx t=>Tr.rec (motive:=λ_=>Tr α) (λs m o=>Tr.mk ((eZ (hi i)).run ((eZ (lo i)).run x ((bW (hi i)).run s)) s) m o) t⟩
 |false,true=>⟨λx t=>Tr.rec (motive:=λ_=>Tr α) (λs m o=>Tr.mk s ((eZ (pq i)).run ((eZ (lo (dS i))).run ((eZ (lo (hi i))).run ((eZ (lo i)).run x ((bW (lo (hi i))).run ((bW (lo (dS i))).run ((bW (pq i)).run m))))
  ((bW (lo (dS i))).run ((bW (pq i)).run m))) ((bW (pq i)).run m)) m) o) t⟩
 |false,false=>⟨λx t=>Tr.rec (motive:=λ_=>Tr α) (λs m o=>Tr.mk s m (xY (path i) x o)) t⟩
def Tr.get{α:Type}(t:Tr α)(i:Nat):Option α:=
 Nat.rec (motive:=λ_=>Option α) ((pr 0).run t) (λk _=>(pr (Nat.succ k)).run t) i
def Tr.set{α:Type}(t:Tr α)(i:Nat)(x:Option α):Tr α:=
 Nat.rec (motive:=λ_=>Tr α) ((pt 0).run x t) (λk _=>(pt (Nat.succ k)).run x t) i
def Tr.ofList{α:Type}:List α->Nat->Tr α->Tr α
 |[],_,t=>t
 |a::l,i,t=>Tr.ofList l (i+1) (t.set i (some a))
inductive bK where
 |row (cs:List Value) (wr:Bool) (ah:Nat)
 |map (es:List MapEntry) (clock:Nat)
 |cD (m:Option Nat) (since:Nat) (seen:List Nat) (last:Nat)
 |e8 (s:ByteArray) (pos:Nat)
 |loop (st:LoopState) (an:Option Code) (t:Tr Value) (n:Nat) (params:List Tmp) (bT body:Code) (fT:Nat)
 |fT (empty:Bool)
structure aa where
 m:Tr bK
 next:Nat
def aa.get(h:aa)(i:Nat):Option bK:=h.m.get i
def aa.set(h:aa)(i:Nat)(o:Option bK):aa:={h with m:=h.m.set i o}
def aa.new(h:aa)(o:bK):aa:={m:=h.m.set h.next (some o),next:=h.next+1}
structure Pl where
 aW:Nat
 off:Nat
 n:Nat
 cap:Nat
 ah:Nat
 Lb:Obj->Prop:=λ_=>True
structure Env where
 P:Program
 under:Nat->Option TypeDesc
 size:Nat->Option Nat
 bytes:Nat->Option Nat
 zero:Nat->Option Value
 fn:Nat->Option Func
 idle:Nat->Bool
 px:Nat
 kG:Nat->List Value->aa->Option (Value×aa)
 pins:List (Nat×Pl):=[]
def bY{α:Type}(P:Program):Sem α->Option α
 |.pure a=>some a
 |.program k=>bY P (k P)
 |_=>none
def ez:Nat->Value->Bool
 |0,_=>false
 |n+1,v=>match v with
  |.bool _|.int _ _|.string _|.pointer none|.slice none _ _|.map none|.nilFunc|.nilIface=>true
  |.iface _ v=>ez n v
  |.agg cs=>cs.toList.all (ez n)
  |.tuple cs=>cs.toList.all (ez n)
  |_=>false
def plain(v:Value):Bool:=ez 6 v
def e9(P:Program)(s:Sem Value):Option Value:=
 match bY P s with
 |none=>none
 |some v=>bif plain v then some v else none
def au(e:Env)(t:Tr Value):Operand->Option Value
 |.tmp i=>t.get i
 |.const v=>bif plain v then some v else none
 |.global g=>bif Nat.blt g e.px then some (.pointer (some ⟨g,0,none⟩))else none
 |.func f=>some (.func (.func f) #[] #[])
def df(e:Env)(t:Tr Value):List Operand->Option (List Value)
 |[]=>some []
 |o::r=>match au e t o with
  |none=>none
  |some v=>match df e t r with
   |none=>none
   |some vs=>some (v::vs)
def j7:TypeDesc->Bool
 |.struct _|.array _ _=>true
 |_=>false
def gm(h:aa)(a:Addr)(n:Nat):Option (List Value):=
 match h.get a.block with
 |some (.row cs _ _)=>let r:=(cs.drop a.off).take n
  bif Nat.beq r.length n then some r else none
 |_=>none
def iJ(e:Env)(h:aa)(t:TypeId)(a:Addr):Option Value:=
 match e.under t with
 |none=>none
 |some d=>bif j7 d then
  match e.size t with
  |none=>none
  |some n=>match gm h a n with
   |none=>none
   |some cs=>some (.agg cs.toArray)
  else match gm h a 1 with
   |some [v]=>some v
   |_=>none
def dL:Value->Bool
 |.agg _|.tuple _=>false
 |_=>true
def eo(cs:List Value)(off:Nat)(vs:List Value):List Value:=cs.take off++vs++cs.drop (off+vs.length)
def mv(h:aa)(a:Addr)(vs:List Value):Option aa:=
 match vs with
 |[]=>some h
 |_=>match h.get a.block with
  |some (.row cs true ah)=>bif Nat.ble (a.off+vs.length) cs.length&&vs.all dL then some (h.set a.block (some (.row (eo cs a.off vs) true ah)))else none
  |_=>none
def py(e:Env)(h:aa)(t:TypeId)(a:Addr)(v:Value):Option aa:=
 match e.size t with
 |none=>none
 |some n=>bif Nat.beq v.cells.toList.length n then mv h a v.cells.toList else none
def jg(place:Nat->Option (Nat×Nat)):List Value->List (Nat×Value)->Option (List Value)
 |cells,[]=>some cells
 |cells,(i,v)::rest=>match place i with
  |none=>none
  |some (off,size)=>let vs:=v.cells.toList
   bif Nat.beq vs.length size&&Nat.ble (off+size) cells.length then jg place (eo cells off vs) rest else none
def fM(e:Env)(t:Tr Value):List (Nat×Operand)->Option (List (Nat×Value))
 |[]=>some []
 |(i,o)::r=>match au e t o with
  |none=>none
  |some v=>match fM e t r with
   |none=>none
   |some vs=>some ((i,v)::vs)
def fu(zs:List Value)(n:Nat):List Value:=(List.range n).map λi=>zs[i%zs.length]?.getD default
def kH(e:Env)(fields:Array Field)(i:Nat):Option (Nat×Nat):=
 match fields[i]? with
 |none=>none
 |some f=>match e.size f.type with
  |none=>none
  |some s=>some (f.offset,s)
def qB(e:Env)(t:TypeId)(parts:List (Nat×Value)):Option Value:=
 match e.zero t,e.under t with
 |some z,some (.struct fields)=>match jg (kH e fields) z.cells.toList parts with
  |none=>none
  |some cs=>some (.agg cs.toArray)
 |some z,some (.array _ elem)=>match e.size elem with
  |none=>none
  |some s=>match jg (λi=>some (i*s,s)) z.cells.toList parts with
   |none=>none
   |some cs=>some (.agg cs.toArray)
 |_,_=>none
def od(e:Env)(t:TypeId)(cs:List Value)(off:Nat):Option Value:=
 match e.under t with
 |none=>none
 |some d=>bif j7 d then match e.size t with
  |none=>none
  |some n=>some (.agg ((cs.drop off).take n).toArray)
  else cs[off]?
def pz:Value->Option Int
 |.int .i64 n=>some n
 |_=>none
def cU(e:Env)(t:Tr Value):Op->Option (bK×(Nat->Value))
 |.alloc elem=>match e.zero elem with
  |none=>none
  |some z=>some (.row z.cells.toList true 0,λi=>.pointer (some ⟨i,0,none⟩))
 |.box _ x=>match au e t x with
  |none=>none
  |some v=>some (.row v.cells.toList true 0,λi=>.pointer (some ⟨i,0,none⟩))
 |.buildSlice st len parts=>match e.under st,fM e t parts.toList with
  |some (.slice elem),some ps=>match e.size elem,e.zero elem with
   |some s,some z=>bif Nat.ble (len*s) 16777216&&Nat.beq z.cells.toList.length s&&Nat.blt 0 s then
    match jg (λi=>some (i*s,s)) (fu z.cells.toList (len*s)) ps with
    |none=>none
    |some cs=>some (.row cs true 0,λi=>.slice (some ⟨i,0,none⟩) len len)
    else none
   |_,_=>none
  |_,_=>none
 |.makeMap _ none=>some (.map [] 0,λi=>.map (some i))
 |.makeSlice st l c=>match e.under st,(au e t l).bind pz,(au e t c).bind pz with
  |some (.slice elem),some l,some c=>match e.size elem,e.zero elem,e.bytes elem with
   |some s,some z,some b=>bif decide (0<=l)&&decide (l<=c)&&decide (c<=1099511627776)&&Nat.ble (b*c.toNat) 1099511627776&&Nat.beq z.cells.toList.length s&&Nat.blt 0 s then
    some (.row (fu z.cells.toList (c.toNat*s)) true 0,λi=>.slice (some ⟨i,0,none⟩) l.toNat c.toNat)
    else none
   |_,_,_=>none
  |_,_,_=>none
 |_=>none
def kI(P:Program)(kt:TypeId)(k x:Value):Option Bool:=
 match k with
 |.int j a=>match x with|.int j' b=>bif decide (j=j')then some (a==b)else none|_=>none
 |.string a=>match x with|.string b=>some (a==b)|_=>none
 |.bool a=>match x with|.bool b=>some (a==b)|_=>none
 |.agg _=>bY P (Op.equal kt k x)
 |_=>none
def gB(P:Program)(kt:TypeId)(k:Value):List MapEntry->Nat->Option (Option (Nat×Value))
 |[],_=>some none
 |e::es,i=>match kI P kt k e.key with
  |none=>none
  |some true=>some (some (i,e.val))
  |some false=>gB P kt k es (i+1)
def oe(d:TypeDesc)(k:Value):Bool:=
 match d,k with
 |.int _,.int _ _|.string,.string _|.bool,.bool _|.struct _,.agg _|.array _ _,.agg _=>true
 |_,_=>false
def qC(e:Env)(h:aa)(t:TypeId)(m k:Value)(ok:Bool):Option Value:=
 match e.under t with
 |some (.map kt et)=>match(match m with
  |.map none=>some []
  |.map (some r)=>(match h.get r with|some (.map es _)=>some es|_=>none)
  |_=>none)with
  |none=>none
  |some es=>match e.under kt with
   |none=>none
   |some kd=>bif plain k&&oe kd k then match bY e.P (Instr.checkKey es.isEmpty 10000 kt k)with
    |none=>none
    |some _=>match gB e.P kt k es 0 with
     |none=>none
     |some (some (_,v))=>some (bif ok then .tuple #[v,.bool true]else v)
     |some none=>match e.zero et with
      |none=>none
      |some z=>bif plain z then some (bif ok then .tuple #[z,.bool false]else z)else none
    else none
 |_=>none
def se(e:Env)(h:aa)(t:TypeId)(m k v:Value):Option aa:=
 match e.under t,m with
 |some (.map kt _),.map (some r)=>match h.get r with
  |some (.map es clock)=>match e.under kt with
   |none=>none
   |some kd=>bif plain k&&oe kd k then match bY e.P (Instr.checkKey false 10000 kt k)with
    |none=>none
    |some _=>match gB e.P kt k es 0 with
     |none=>none
     |some (some (i,_))=>bif Instr.sameBits 10000 (((es[i]?).map (·.key)).getD k) k then
      some (h.set r (some (.map (es.modify i λx=>{x with key:=k,val:=v}) clock)))
      else none
     |some none=>some (h.set r (some (.map (es++[{key:=k,val:=v,born:=clock}]) (clock+1))))
    else none
  |_=>none
 |_,_=>none
def intOf:Value->Option Int
 |.int _ n=>some n
 |_=>none
def eC(v:Option Value)(ay aB:Nat):Option Nat:=
 match v with
 |none=>some aB
 |some v=>match intOf v with
  |none=>none
  |some i=>bif decide (0<=i)&&decide (i<=(ay:Int))then some i.toNat else none
def ud:Option Value->Bool
 |none=>true
 |some v=>plain v
def mZ(h:aa)(a:Addr)(s:Nat):Bool:=
 match h.get a.block with
 |some (.row _ _ ah)=>Nat.beq ah 0||Nat.beq ah s
 |_=>false
def j8(e:Env)(hp:aa)(t:TypeId)(x:Value)(lo hi mx:Option Value):Option Value:=
 match e.under t,x with
 |some (.slice elem),.slice base len cap=>match e.size elem,eC mx cap cap with
  |some s,some m=>match eC hi m len with
   |none=>none
   |some h=>bif Nat.ble h m&&(mx.isNone||hi.isSome)then match eC lo h 0 with
    |none=>none
    |some l=>match base with
     |none=>some (.slice none (h-l) (m-l))
     |some a=>bif mZ hp a s then some (.slice (some (a.add (l*s))) (h-l) (m-l))else none
    else none
  |_,_=>none
 |some (.array n elem),.pointer (some a)=>match e.size elem,mx with
  |some s,none=>match eC hi n n with
   |none=>none
   |some h=>match eC lo h 0 with
    |none=>none
    |some l=>some (.slice (some (if n=l then a else a.add (l*s))) (h-l) (n-l))
  |_,_=>none
 |some .string,.string s=>bif ud lo&&(ud hi&&ud mx)then e9 e.P (Instr.sliceAt t (.string s) lo hi mx)else none
 |_,_=>none
def qD:Value->Option Nat
 |.slice _ n _=>some n
 |.string s=>some s.size
 |_=>none
def iK(h:aa)(s n:Nat):Value->Option (List Value)
 |.slice (some a) _ _=>gm h a (n*s)
 |.slice none _ _=>some []
 |.string b=>some (((b.extract 0 n).data.toList).map λx=>.int .u8 x.toNat)
 |_=>none
def pA:TypeDesc->Bool
 |.int _=>true
 |_=>false
def ue(made:Bool)(b:Nat)(x:Value):Option Nat:=
 bif made then match pz x with
  |some l=>bif decide (0<=l)&&decide (l<=1099511627776)&&Nat.ble (b*l.toNat) 1099511627776 then some l.toNat else none
  |none=>none
 else qD x
def uf(h:aa)(made:Bool)(zs:List Value)(n sz:Nat)(x:Value):Option (List Value):=
 bif made then some (fu zs (n*sz))else iK h sz n x
def qE(h:aa)(base:Option Addr)(len cap sz b n:Nat)(new:List Value):Option (Value×aa):=
 bif Nat.ble (len+n) cap then match base with
  |none=>bif Nat.beq n 0 then some (.slice base (len+n) cap,h)else none
  |some a=>match mv h (a.add (len*sz)) new with
   |none=>none
   |some h'=>some (.slice base (len+n) cap,h')
 else bif Nat.ble ((len+n)*(b+1)) 1073741824 then match base with
  |none=>bif Nat.beq len 0&&Nat.beq cap 0 then some (.slice (some ⟨h.next,0,none⟩) (len+n) (len+n),h.new (.row new true sz))else none
  |some a=>match gm h a (len*sz),h.get a.block with
   |some ba,some (.row cs wr ah)=>
    bif Nat.beq ah 0||(Nat.beq ah sz&&Nat.blt (a.off+cap*sz) cs.length)then some (.slice (some ⟨h.next,0,none⟩) (len+n) (len+n),h.new (.row (ba++new) true sz))
    else bif wr&&Nat.beq ah sz&&new.all dL then some (.slice (some ⟨h.next,0,none⟩) (len+n) (len+n),(h.set a.block none).new (.row (ba++new) true sz))
    else none
   |_,_=>none
 else none
def og(e:Env)(h:aa)(av:Array TypeId)(s x:Value):Option (Value×aa):=
 match av[0]?,av[1]?,s with
 |some st,some xt,.slice base len cap=>match e.under st,e.under xt with
  |some (.slice elem),some xd=>match e.size elem,e.zero elem,e.bytes elem with
   |some sz,some z,some b=>match ue (pA xd) b x with
    |none=>none
    |some n=>match uf h (pA xd) z.cells.toList n sz x with
     |none=>none
     |some new=>bif Nat.blt 0 sz&&Nat.beq z.cells.toList.length sz&&Nat.beq new.length (n*sz)then qE h base len cap sz b n new else none
   |_,_,_=>none
  |_,_=>none
 |_,_,_=>none
def xZ(e:Env)(h:aa)(av:Array TypeId)(d x:Value):Option (Value×aa):=
 match av[0]?,d with
 |some dt,.slice base aD _=>match e.under dt,qD x with
  |some (.slice elem),some xl=>match e.size elem with
   |none=>none
   |some sz=>let n:=Nat.min xl aD
    match iK h sz n x with
    |none=>none
    |some cs=>bif Nat.beq cs.length (n*sz)then match base with
     |none=>some (.int .i64 n,h)
     |some a=>match mv h a cs with
      |none=>none
      |some h'=>some (.int .i64 n,h')
     else none
  |_,_=>none
 |_,_=>none
def fU(e:Env)(h:aa)(t:TypeId)(x:Value):Option Value:=
 match e.under t,x with
 |some .string,.string s=>some (.int .i64 s.size)
 |some (.array n _),_=>some (.int .i64 n)
 |some (.pointer arr),_=>match e.under arr with
  |some (.array n _)=>some (.int .i64 n)
  |_=>none
 |some (.slice _),.slice _ n _=>some (.int .i64 n)
 |some (.map _ _),.map none=>some (.int .i64 0)
 |some (.map _ _),.map (some r)=>match h.get r with
  |some (.map es _)=>some (.int .i64 es.length)
  |_=>none
 |_,_=>none
def sf(e:Env)(h:aa)(t:TypeId)(x:Value):Option Value:=
 match e.under t,x with
 |some (.slice _),.slice none _ n=>some (.int .i64 n)
 |some (.slice elem),.slice (some a) _ n=>match h.get a.block,e.size elem with
  |some (.row cs _ ah),some s=>bif Nat.beq ah 0||(Nat.beq ah s&&Nat.blt (a.off+n*s) cs.length)then some (.int .i64 n)else none
  |_,_=>none
 |_,_=>none
def fV(d:TypeDesc)(x:Value):Option Bool:=
 match d with
 |.pointer _=>match x with|.pointer a=>some a.isNone|_=>none
 |.slice _=>match x with|.slice a _ _=>some a.isNone|_=>none
 |.map _ _=>match x with|.map r=>some r.isNone|_=>none
 |.func _ _ _=>match x with|.nilFunc=>some true|.func _ _ _=>some false|_=>none
 |.interface _=>match x with|.nilIface=>some true|.iface _ _=>some false|_=>none
 |_=>none
def vX(d:TypeDesc)(x y:Value):Bool:=
 match fV d x,fV d y with
 |some true,some false=>true
 |some false,some true=>true
 |_,_=>false
def lr(op:BinOp)(k:IntKind)(a b:Int):Option Value:=
 match op with
 |.add=>some (.int k (k.wrap (a+b)))
 |.sub=>some (.int k (k.wrap (a-b)))
 |.mul=>some (.int k (k.wrap (a*b)))
 |.eql=>some (.bool (decide (a=b)))
 |.neq=>some (.bool (!decide (a=b)))
 |.lss=>some (.bool (decide (a<b)))
 |.leq=>some (.bool (decide (a<=b)))
 |.gtr=>some (.bool (decide (b<a)))
 |.geq=>some (.bool (decide (b<=a)))
 |_=>none
def cS(e:Env)(op:BinOp)(t:TypeId)(x y:Operand)(a b:Value):Option Value:=
 match(match a,b with
  |.int k n,.int k' m=>bif decide (k=k')then lr op k n m else none
  |_,_=>none)with
 |some v=>some v
 |none=>bif plain a&&plain b then e9 e.P (do eqGuard op t x y a b;binOp op t a b)
  else match e.under t with
   |none=>none
   |some d=>bif vX d a b then match op with
    |.eql=>some (.bool false)
    |.neq=>some (.bool true)
    |_=>none
    else none
inductive AR where
 |val (v:Value) (h:aa)
 |skip (h:aa)
 |enter (f:FuncId) (args:List Value) (h:aa)
 |round (l:Nat) (args:List Value) (h:aa)
 |defer (f:FuncId) (args:List Value) (cap:List Value) (h:aa)
def oh(f:Value)(args:List Value):Option (Fn×List Value×List Value):=
 match f with
 |.func fn first cap=>some (fn,first.toList++args,cap.toList)
 |_=>none
def iL:Value->Option Addr
 |.pointer (some a)=>some a
 |_=>none
def qF(h:aa)(it:Value)(isString:Bool):Option (Value×aa):=
 match it with
 |.pointer (some ⟨r,0,none⟩)=>match h.get r,isString with
  |some (.e8 s pos),true=>
   bif Nat.blt pos s.size then
    let d:=Utf8.decode s pos
    some (.tuple #[.bool true,.int .i64 pos,.int .i32 d.1],h.set r (some (.e8 s (pos+d.2))))
   else some (.tuple #[.bool false],h)
  |some (.cD none _ _ _),false=>some (.tuple #[.bool false],h)
  |some (.cD (some m) since seen last),false=>match h.get m with
   |some (.map es clock)=>
    bif (!seen.isEmpty&& !es.isEmpty&&es.all λx=>Nat.ble last x.born)then none else
    let left:=es.filter λx=> !seen.contains x.born
    let ba:=left.filter λx=>decide (x.born<since)
    let new:=left.filter λx=>decide (x.born>=since)
    match ba,new with
    |[],[]=>some (.tuple #[.bool false],h)
    |[x],[]=>some (.tuple #[.bool true,x.key,x.val],h.set r (some (.cD (some m) since (seen++[x.born]) clock)))
    |_,_=>none
   |_=>none
  |_,_=>none
 |_=>none
def sg(h:aa)(it:Value):Option Value:=
 match it with
 |.pointer (some ⟨r,0,none⟩)=>match h.get r with
  |some (.cD (some m) _ seen ab)=>match seen.getLast?,h.get m with
   |some ae,some (.map es clock)=>bif Nat.beq clock ab then match es.find? λx=>x.born==ae with
    |some x=>some (.tuple #[x.key,x.val])
    |none=>none
    else none
   |_,_=>none
  |_=>none
 |_=>none
def mw(e:Env)(h:aa)(t:Tr Value)(c:Call):Option AR:=
 match df e t c.args.toList with
 |none=>none
 |some args=>match c.callee with
  |.value f=>match au e t f with
   |none=>none
   |some fv=>match oh fv args with
    |some (.func g,az,cap)=>some (.enter g (az++cap) h)
    |some (.yield l,az,_)=>some (.round l az h)
    |_=>none
  |.invoke _ _=>none
  |.builtin b=>match b,args with
   |.append,[s,x]=>(og e h c.argTypes s x).map λr=>.val r.1 r.2
   |.copy,[d,x]=>(xZ e h c.argTypes d x).map λr=>.val r.1 r.2
   |.len,[x]=>match c.argTypes[0]? with
    |none=>none
    |some ty=>(fU e h ty x).map λv=>.val v h
   |.cap,[x]=>match c.argTypes[0]? with
    |none=>none
    |some ty=>(sf e h ty x).map λv=>.val v h
   |.min,_=>bif args.all plain then(e9 e.P (Builtin.min_ #[] 0 args.toArray)).map λv=>.val v h else none
   |.max,_=>bif args.all plain then(e9 e.P (Builtin.max_ #[] 0 args.toArray)).map λv=>.val v h else none
   |_,_=>none
def si:List Value->Option (List Int)
 |[]=>some []
 |.int .u8 n::r=>(si r).map (n::·)
 |_=>none
def strOf(ns:List Int):ByteArray:=ns.foldl (λr n=>r.push (UInt8.ofNat n.toNat)) ByteArray.empty
def pB(e:Env)(h:aa)(s d:TypeId)(x:Value):Option Value:=
 match x,e.under s,e.under d with
 |.slice (some a) len _,some (.slice el),some .string=>match e.under el with
  |some (.int .u8)=>match gm h a len with
   |some cs=>(si cs).map λns=>.string (strOf ns)
   |none=>none
  |_=>none
 |_,_,_=>none
def aL(e:Env)(h:aa)(t:Tr Value)(op:Op):Option AR:=
 match op with
 |.move x|.assign x=>(au e t x).map λv=>.val v h
 |.pick c a b=>match au e t c with
  |some (.bool true)=>(au e t a).map λv=>.val v h
  |some (.bool false)=>(au e t b).map λv=>.val v h
  |_=>none
 |.alloc _|.box _ _|.buildSlice _ _ _|.makeMap _ _|.makeSlice _ _ _=>match cU e t op with
  |none=>none
  |some (o,f)=>some (.val (f h.next) (h.new o))
 |.build ty parts=>match fM e t parts.toList with
  |none=>none
  |some ps=>(qB e ty ps).map λv=>.val v h
 |.load ty a=>match(au e t a).bind iL with
  |none=>none
  |some a=>(iJ e h ty a).map λv=>.val v h
 |.store ty a x=>match(au e t a).bind iL,au e t x with
  |some a,some v=>(py e h ty a v).map .skip
  |_,_=>none
 |.nilCheck x=>match au e t x with
  |some (.pointer (some a))=>some (.val (.pointer (some a)) h)
  |some (.func (.func f) a b)=>some (.val (.func (.func f) a b) h)
  |_=>none
 |.binOp op ty x y _=>match au e t x,au e t y with
  |some a,some b=>(cS e op ty x y a b).map λv=>.val v h
  |_,_=>none
 |.unOp op _ x=>match au e t x with
  |some a=>bif plain a then(e9 e.P (Op.unary op a)).map λv=>.val v h else none
  |_=>none
 |.convert s d x=>match au e t x with
  |some a=>bif plain a then(e9 e.P (convert s d a)).map λv=>.val v h else(pB e h s d a).map λv=>.val v h
  |_=>none
 |.makeInterface ty x=>match au e t x,e.under ty with
  |some _,some (.interface _)=>none
  |some v,some _=>some (.val (.iface ty v) h)
  |_,_=>none
 |.makeFunc (.func f) first cap=>match df e t first.toList,df e t cap.toList with
  |some a,some b=>some (.val (.func (.func f) a.toArray b.toArray) h)
  |_,_=>none
 |.slice ty x lo hi mx=>match au e t x,(match lo with|none=>some none|some o=>(au e t o).map some),(match hi with|none=>some none|some o=>(au e t o).map some),(match mx with|none=>some none|some o=>(au e t o).map some)with
  |some x,some lo,some hi,some mx=>(j8 e h ty x lo hi mx).map λv=>.val v h
  |_,_,_,_=>none
 |.fieldAddr s x f=>match(au e t x).bind iL,e.under s with
  |some a,some (.struct fields)=>match kH e fields f with
   |some (off,size)=>bif Nat.blt 0 size then some (.val (.pointer (some (a.add off))) h)else none
   |none=>none
  |_,_=>none
 |.field ty x f=>match au e t x,e.under ty with
  |some (.agg cs),some (.struct fields)=>match fields[f]? with
   |none=>none
   |some fd=>(od e fd.type cs.toList fd.offset).map λv=>.val v h
  |_,_=>none
 |.indexAddr ty x ix=>match au e t x,(au e t ix).bind intOf,e.under ty with
  |some (.pointer (some a)),some i,some (.array len elem)=>match e.size elem with
   |none=>none
   |some s=>bif decide (0<=i)&&decide (i<(len:Int))then some (.val (.pointer (some (a.add (i.toNat*s)))) h)else none
  |some (.slice (some a) len _),some i,some (.slice elem)=>match e.size elem with
   |none=>none
   |some s=>bif decide (0<=i)&&decide (i<(len:Int))then some (.val (.pointer (some (a.add (i.toNat*s)))) h)else none
  |_,_,_=>none
 |.index ty x ix=>match au e t x,au e t ix,e.under ty with
  |some (.agg cs),some (.int _ i),some (.array len elem)=>match e.size elem with
   |none=>none
   |some s=>bif decide (0<=i)&&decide (i<(len:Int))then(od e elem cs.toList (i.toNat*s)).map λv=>.val v h else none
  |some (.string s),some (.int k i),some .string=>(e9 e.P (Instr.index ty (.string s) (.int k i))).map λv=>.val v h
  |_,_,_=>none
 |.lookup ty m k ok=>match au e t m,au e t k with
  |some m,some k=>(qC e h ty m k ok).map λv=>.val v h
  |_,_=>none
 |.mapUpdate ty m k v|.insert ty m k v=>match au e t m,au e t k,au e t v with
  |some m,some k,some v=>(se e h ty m k v).map .skip
  |_,_,_=>none
 |.range ty x=>match au e t x,e.under ty with
  |some (.string s),some .string=>some (.val (.pointer (some ⟨h.next,0,none⟩)) (h.new (.e8 s 0)))
  |some (.map none),some (.map _ _)=>some (.val (.pointer (some ⟨h.next,0,none⟩)) (h.new (.cD none 0 [] 0)))
  |some (.map (some m)),some (.map _ _)=>match h.get m with
   |some (.map _ clock)=>some (.val (.pointer (some ⟨h.next,0,none⟩)) (h.new (.cD (some m) clock [] clock)))
   |_=>none
  |_,_=>none
 |.next it s=>match au e t it with
  |none=>none
  |some it=>(qF h it s).map λr=>.val r.1 r.2
 |.entry it=>match au e t it with
  |none=>none
  |some it=>(sg h it).map λv=>.val v h
 |.extract x i=>match au e t x with
  |some (.tuple vs)=>(vs[i]?).map λv=>.val v h
  |_=>none
 |.call c=>mw e h t c
 |.defer c=>match c.callee,df e t c.args.toList with
  |.value f,some args=>match(au e t f).bind (oh · args)with
   |some (.func g,az,cap)=>some (.defer g az cap h)
   |_=>none
  |_,_=>none
 |_=>none
def Lc(e:Env)(h:aa)(t:Tr Value)(x:Operand):Option AR:=(au e t x).map λv=>.val v h
def Ld(e:Env)(h:aa)(t:Tr Value)(x:Operand):Option AR:=(au e t x).map λv=>.val v h
def Le(e:Env)(h:aa)(t:Tr Value)(c:Operand)(a:Operand)(b:Operand):Option AR:=match au e t c with
 |some (.bool true)=>(au e t a).map λv=>.val v h
 |some (.bool false)=>(au e t b).map λv=>.val v h
 |_=>none
def vY(e:Env)(h:aa)(t:Tr Value)(op:Op):Option AR:=match cU e t op with
 |none=>none
 |some (o,f)=>some (.val (f h.next) (h.new o))
def Lg(e:Env)(h:aa)(t:Tr Value)(ty:TypeId)(parts:Array (Nat×Operand)):Option AR:=match fM e t parts.toList with
 |none=>none
 |some ps=>(qB e ty ps).map λv=>.val v h
def Lh(e:Env)(h:aa)(t:Tr Value)(ty:TypeId)(a:Operand):Option AR:=match(au e t a).bind iL with
 |none=>none
 |some a=>(iJ e h ty a).map λv=>.val v h
def Li(e:Env)(h:aa)(t:Tr Value)(ty:TypeId)(a:Operand)(x:Operand):Option AR:=match(au e t a).bind iL,au e t x with
 |some a,some v=>(py e h ty a v).map .skip
 |_,_=>none
def Lj(e:Env)(h:aa)(t:Tr Value)(x:Operand):Option AR:=match au e t x with
 |some (.pointer (some a))=>some (.val (.pointer (some a)) h)
 |some (.func (.func f) a b)=>some (.val (.func (.func f) a b) h)
 |_=>none
def Lk(e:Env)(h:aa)(t:Tr Value)(op:BinOp)(ty:TypeId)(x:Operand)(y:Operand)(u4:TypeId):Option AR:=match au e t x,au e t y with
 |some a,some b=>(cS e op ty x y a b).map λv=>.val v h
 |_,_=>none
def Ll(e:Env)(h:aa)(t:Tr Value)(op:UnOp)(u1:TypeId)(x:Operand):Option AR:=match au e t x with
 |some a=>bif plain a then(e9 e.P (Op.unary op a)).map λv=>.val v h else none
 |_=>none
def Lm(e:Env)(h:aa)(t:Tr Value)(s:TypeId)(d:TypeId)(x:Operand):Option AR:=match au e t x with
 |some a=>bif plain a then(e9 e.P (convert s d a)).map λv=>.val v h else(pB e h s d a).map λv=>.val v h
 |_=>none
def Lo(e:Env)(h:aa)(t:Tr Value)(ty:TypeId)(x:Operand):Option AR:=match au e t x,e.under ty with
 |some _,some (.interface _)=>none
 |some v,some _=>some (.val (.iface ty v) h)
 |_,_=>none
def Lp(e:Env)(h:aa)(t:Tr Value)(f:FuncId)(first cap:Array Operand):Option AR:=match df e t first.toList,df e t cap.toList with
 |some a,some b=>some (.val (.func (.func f) a.toArray b.toArray) h)
 |_,_=>none
def Lq(e:Env)(h:aa)(t:Tr Value)(ty:TypeId)(x:Operand)(lo:Option Operand)(hi:Option Operand)(mx:Option Operand):Option AR:=match au e t x,(match lo with|none=>some none|some o=>(au e t o).map some),(match hi with|none=>some none|some o=>(au e t o).map some),(match mx with|none=>some none|some o=>(au e t o).map some)with
 |some x,some lo,some hi,some mx=>(j8 e h ty x lo hi mx).map λv=>.val v h
 |_,_,_,_=>none
def Lr(e:Env)(h:aa)(t:Tr Value)(s:TypeId)(x:Operand)(f:Nat):Option AR:=match(au e t x).bind iL,e.under s with
 |some a,some (.struct fields)=>match kH e fields f with
  |some (off,size)=>bif Nat.blt 0 size then some (.val (.pointer (some (a.add off))) h)else none
  |none=>none
 |_,_=>none
def Ls(e:Env)(h:aa)(t:Tr Value)(ty:TypeId)(x:Operand)(f:Nat):Option AR:=match au e t x,e.under ty with
 |some (.agg cs),some (.struct fields)=>match fields[f]? with
  |none=>none
  |some fd=>(od e fd.type cs.toList fd.offset).map λv=>.val v h
 |_,_=>none
def Lt(e:Env)(h:aa)(t:Tr Value)(ty:TypeId)(x:Operand)(ix:Operand):Option AR:=match au e t x,(au e t ix).bind intOf,e.under ty with
 |some (.pointer (some a)),some i,some (.array len elem)=>match e.size elem with
  |none=>none
  |some s=>bif decide (0<=i)&&decide (i<(len:Int))then some (.val (.pointer (some (a.add (i.toNat*s)))) h)else none
 |some (.slice (some a) len _),some i,some (.slice elem)=>match e.size elem with
  |none=>none
  |some s=>bif decide (0<=i)&&decide (i<(len:Int))then some (.val (.pointer (some (a.add (i.toNat*s)))) h)else none
 |_,_,_=>none
def Lu(e:Env)(h:aa)(t:Tr Value)(ty:TypeId)(x:Operand)(ix:Operand):Option AR:=match au e t x,au e t ix,e.under ty with
 |some (.agg cs),some (.int _ i),some (.array len elem)=>match e.size elem with
  |none=>none
  |some s=>bif decide (0<=i)&&decide (i<(len:Int))then(od e elem cs.toList (i.toNat*s)).map λv=>.val v h else none
 |some (.string s),some (.int k i),some .string=>(e9 e.P (Instr.index ty (.string s) (.int k i))).map λv=>.val v h
 |_,_,_=>none
def Lv(e:Env)(h:aa)(t:Tr Value)(ty:TypeId)(m:Operand)(k:Operand)(ok:Bool):Option AR:=match au e t m,au e t k with
 |some m,some k=>(qC e h ty m k ok).map λv=>.val v h
 |_,_=>none
def Lw(e:Env)(h:aa)(t:Tr Value)(ty:TypeId)(m:Operand)(k:Operand)(v:Operand):Option AR:=match au e t m,au e t k,au e t v with
 |some m,some k,some v=>(se e h ty m k v).map .skip
 |_,_,_=>none
def Lx(e:Env)(h:aa)(t:Tr Value)(ty:TypeId)(m:Operand)(k:Operand)(v:Operand):Option AR:=match au e t m,au e t k,au e t v with
 |some m,some k,some v=>(se e h ty m k v).map .skip
 |_,_,_=>none
def Ly(e:Env)(h:aa)(t:Tr Value)(ty:TypeId)(x:Operand):Option AR:=match au e t x,e.under ty with
 |some (.string s),some .string=>some (.val (.pointer (some ⟨h.next,0,none⟩)) (h.new (.e8 s 0)))
 |some (.map none),some (.map _ _)=>some (.val (.pointer (some ⟨h.next,0,none⟩)) (h.new (.cD none 0 [] 0)))
 |some (.map (some m)),some (.map _ _)=>match h.get m with
  |some (.map _ clock)=>some (.val (.pointer (some ⟨h.next,0,none⟩)) (h.new (.cD (some m) clock [] clock)))
  |_=>none
 |_,_=>none
def Lz(e:Env)(h:aa)(t:Tr Value)(it:Operand)(s:Bool):Option AR:=match au e t it with
 |none=>none
 |some it=>(qF h it s).map λr=>.val r.1 r.2
def LA(e:Env)(h:aa)(t:Tr Value)(it:Operand):Option AR:=match au e t it with
 |none=>none
 |some it=>(sg h it).map λv=>.val v h
def LB(e:Env)(h:aa)(t:Tr Value)(x:Operand)(i:Nat):Option AR:=match au e t x with
 |some (.tuple vs)=>(vs[i]?).map λv=>.val v h
 |_=>none
def LC(e:Env)(h:aa)(t:Tr Value)(c:Call):Option AR:=match c.callee,df e t c.args.toList with
 |.value f,some args=>match(au e t f).bind (oh · args)with
  |some (.func g,az,cap)=>some (.defer g az cap h)
  |_=>none
 |_,_=>none
def El(e:Env)(h:aa)(t:Tr Value)(op:Op):Option AR:=
 match op with
 |.move x=>Lc e h t x
 |.assign x=>Ld e h t x
 |.pick c a b=>Le e h t c a b
 |.alloc x0=>vY e h t (.alloc x0)
 |.box x0 x1=>vY e h t (.box x0 x1)
 |.buildSlice x0 x1 x2=>vY e h t (.buildSlice x0 x1 x2)
 |.makeMap x0 x1=>vY e h t (.makeMap x0 x1)
 |.makeSlice x0 x1 x2=>vY e h t (.makeSlice x0 x1 x2)
 |.build ty parts=>Lg e h t ty parts
 |.load ty a=>Lh e h t ty a
 |.store ty a x=>Li e h t ty a x
 |.nilCheck x=>Lj e h t x
 |.binOp op ty x y u4=>Lk e h t op ty x y u4
 |.unOp op u1 x=>Ll e h t op u1 x
 |.convert s d x=>Lm e h t s d x
 |.makeInterface ty x=>Lo e h t ty x
 |.makeFunc (.func f) first cap=>Lp e h t f first cap
 |.slice ty x lo hi mx=>Lq e h t ty x lo hi mx
 |.fieldAddr s x f=>Lr e h t s x f
 |.field ty x f=>Ls e h t ty x f
 |.indexAddr ty x ix=>Lt e h t ty x ix
 |.index ty x ix=>Lu e h t ty x ix
 |.lookup ty m k ok=>Lv e h t ty m k ok
 |.mapUpdate ty m k v=>Lw e h t ty m k v
 |.insert ty m k v=>Lx e h t ty m k v
 |.range ty x=>Ly e h t ty x
 |.next it s=>Lz e h t it s
 |.entry it=>LA e h t it
 |.extract x i=>LB e h t x i
 |.call c=>mw e h t c
 |.defer c=>LC e h t c
 |_=>none
theorem LD(e:Env)(h:aa)(t:Tr Value)(op:Op):El e h t op=aL e h t op:=by
 cases op<;>first|rfl|(rename_i fn _ _;cases fn<;>rfl)
structure aE where
 t:Tr Value
 n:Nat
 ds:List Deferred
 h:aa
inductive bn where
 |normal
 |exit (id:Nat)
 |ret
 deriving DecidableEq
abbrev ff:=FuncId->List Value->aa->Option (Value×aa)
abbrev gW:=Nat->List Value->aa->Option (Value×aa)
def fN(s:aE)(dst:Option Tmp)(v:Value):Option aE:=
 match dst with
 |none=>some s
 |some d=>match s with
  |⟨t,n,ds,h⟩=>bif Nat.blt d n then some ⟨t.set d (some v),n,ds,h⟩else none
theorem sj(s:aE)(dst:Option Tmp)(v:Value):fN s dst v=match dst with
 |none=>some s
 |some d=>bif Nat.blt d s.n then some {s with t:=s.t.set d (some v)}else none:=by cases dst<;>rfl
def m9(e:Env)(cf:ff)(rf:gW)(ro:Option Nat)(o:Oper)(s:aE):Option aE:=
 match s with
 |⟨t,n,ds,h⟩=>match El e h t o.op with
  |none=>none
  |some (.val v h)=>fN ⟨t,n,ds,h⟩ o.dst v
  |some (.skip h)=>fN ⟨t,n,ds,h⟩ o.dst undef
  |some (.enter f args h)=>match cf f args h with
   |none=>none
   |some (v,h)=>fN ⟨t,n,ds,h⟩ o.dst v
  |some (.round l args h)=>match rf l args h with
   |none=>none
   |some (v,h)=>fN ⟨t,n,ds,h⟩ o.dst v
  |some (.defer f args cap h)=>match ro with
   |some _=>none
   |none=>fN ⟨t,n,{target:=.fn (.func f) cap.toArray,args:=args.toArray}::ds,h⟩ o.dst undef
theorem x4(e:Env)(cf:ff)(rf:gW)(ro:Option Nat)(o:Oper)(s:aE):m9 e cf rf ro o s=match aL e s.h s.t o.op with
 |none=>none
 |some (.val v h)=>fN {s with h} o.dst v
 |some (.skip h)=>fN {s with h} o.dst undef
 |some (.enter f args h)=>match cf f args h with
  |none=>none
  |some (v,h)=>fN {s with h} o.dst v
 |some (.round l args h)=>match rf l args h with
  |none=>none
  |some (v,h)=>fN {s with h} o.dst v
 |some (.defer f args cap h)=>match ro with
  |some _=>none
  |none=>fN {s with h,ds:={target:=.fn (.func f) cap.toArray,args:=args.toArray}::s.ds} o.dst undef:=by
 rw[<-LD];rfl
def cY(ops:List Oper)(s:aE)(o:Oper):Option Bool:=
 match o.guard with
 |none=>some true
 |some (j,want)=>match(ops[j]?).bind (·.dst)with
  |none=>none
  |some d=>match s.t.get d with
   |some (.bool b)=>some (b==want)
   |some (.tuple _)=>some false
   |_=>none
def sk(e:Env)(cf:ff)(rf:gW)(ro:Option Nat)(ops:List Oper):List Oper->aE->Option aE
 |[],s=>some s
 |o::r,s=>match cY ops s o with
  |none=>none
  |some true=>match m9 e cf rf ro o s with
   |none=>none
   |some s=>sk e cf rf ro ops r s
  |some false=>match fN s o.dst undef with
   |none=>none
   |some s=>sk e cf rf ro ops r s
inductive ug where
 |pure|read|alloc|effect|bad
 deriving DecidableEq
def cls:Op->ug
 |.move _|.assign _|.pick _ _ _|.build _ _|.nilCheck _|.binOp _ _ _ _ _|.unOp _ _ _|.makeInterface _ _|.makeFunc _ _ _
 |.fieldAddr _ _ _|.field _ _ _|.indexAddr _ _ _|.index _ _ _|.extract _ _=>.pure
 |.load _ _|.lookup _ _ _ _|.entry _|.slice _ _ _ _ _|.convert _ _ _=>.read
 |.alloc _|.box _ _|.buildSlice _ _ _|.makeMap _ _|.makeSlice _ _ _=>.alloc
 |.call c=>match c.callee with
  |.builtin .len|.builtin .cap|.builtin .min|.builtin .max=>.read
  |_=>.effect
 |.store _ _ _|.mapUpdate _ _ _ _|.insert _ _ _ _|.range _ _|.next _ _=>.effect
 |_=>.bad
def my:List Oper->List Nat->List Nat
 |[],acc=>acc.reverse
 |o::r,acc=>
  let look (i:Nat):Nat:=acc.reverse.getD i 0
  my r (o.after.toList.foldl (λs x=>bif Region.binds .any x then Nat.lor s (Nat.lor (2^x.on) (look x.on))else s) 0::acc)
def bl(ops:List Oper):List Nat:=my ops []
def tmpsOf(o:Oper):List Tmp:=o.op.operands.toList.filterMap λ|.tmp t=>some t|_=>none
def qG(ops:List Oper)(ms:List Nat):Bool:=
 let io:=ops.zipIdx
 (io.all λ(o,i)=>o.after.toList.all λx=> !Region.binds .any x||Nat.blt x.on i)&&
 (io.all λ(o,i)=>match o.guard with|none=>true|some (j,_)=>(ms.getD i 0).testBit j)&&
 (io.all λ(o,i)=>match o.dst with
  |none=>true
  |some d=>io.all λ(p,j)=>Nat.beq i j||((match p.dst with|some d'=> !Nat.beq d d'|none=>true)&&(!(tmpsOf p).contains d||(bif Nat.blt i j then(ms.getD j 0).testBit i else(ms.getD i 0).testBit j))))&&
 (io.all λ(o,_)=>match o.dst with|none=>true|some d=> !(tmpsOf o).contains d)&&
 (let es:=io.filter λ(o,_)=>cls o.op==.effect
  es.all λ(_,i)=>es.all λ(_,j)=> !Nat.blt i j||(ms.getD j 0).testBit i)
abbrev dz:=List (Nat×Nat×bK)
def cg(h:aa)(m:Nat):dz->aa
 |[]=>h
 |(i,id,o)::r=>bif m.testBit i then(cg h m r).set id (some o)else cg h m r
def vZ:Nat->Value->Value->Bool
 |0,_,_=>false
 |n+1,a,b=>match a,b with
  |.bool a,.bool b=>a==b
  |.int j a,.int k b=>decide (j=k)&&decide (a=b)
  |.string a,.string b=>decide (a=b)
  |.pointer a,.pointer b=>decide (a=b)
  |.slice a l c,.slice b m d=>decide (a=b)&&Nat.beq l m&&Nat.beq c d
  |.map a,.map b=>decide (a=b)
  |.nilFunc,.nilFunc=>true
  |.nilIface,.nilIface=>true
  |.iface t v,.iface u w=>decide (t=u)&&vZ n v w
  |.agg a,.agg b=>so n a.toList b.toList
  |.tuple a,.tuple b=>so n a.toList b.toList
  |.func f a c,.func g b d=>decide (f=g)&&so n a.toList b.toList&&so n c.toList d.toList
  |_,_=>false
where
 so (n:Nat):List Value->List Value->Bool
 |[],[]=>true
 |a::x,b::y=>vZ n a b&&so n x y
 |_,_=>false
structure cH where
 s:aE
 an:dz
 all:dz
 bE:List (Nat×aa)
 dg:List (Tr Value)
def uh(e:Env)(cf:ff)(rf:gW)(ro:Option Nat)(ops:List Oper)(i id m:Nat)(o:Oper)(x:cH):Option cH:=
 match cY ops x.s o with
 |none=>none
 |some false=>match fN x.s o.dst undef with
  |none=>none
  |some s=>match cls o.op with
   |.effect=>some {x with s,bE:=((x.bE.head?.map (·.1)).getD 0,s.h)::x.bE}
   |.bad=>none
   |_=>some {x with s}
 |some true=>match cls o.op with
  |.pure=>match aL e x.s.h x.s.t o.op with
   |some (.val v _)=>(fN x.s o.dst v).map λs=>{x with s}
   |_=>none
  |.read=>match aL e (cg x.s.h m x.an) x.s.t o.op with
   |some (.val v _)=>(fN x.s o.dst v).map λs=>{x with s}
   |_=>none
  |.alloc=>match cU e x.s.t o.op with
   |none=>none
   |some (ob,f)=>(fN x.s o.dst (f id)).map λs=>{x with s,an:=(i,id,ob)::x.an,all:=(i,id,ob)::x.all}
  |.effect=>match m9 e cf rf ro o {x.s with h:=cg x.s.h m x.an}with
   |none=>none
   |some s=>some {x with s,an:=x.an.filter λp=> !m.testBit p.1,bE:=(Nat.lor ((x.bE.head?.map (·.1)).getD 0) m,s.h)::x.bE}
  |.bad=>none
def nextId(o:Oper)(id:Nat):Nat:=bif cls o.op==.alloc then id+1 else id
def nc(e:Env)(dM:Nat->ff)(rf:gW)(ro:Option Nat)(ops:List Oper):List (Oper×Nat)->Nat->Nat->cH->Option cH
 |[],_,_,x=>some x
 |(o,m)::r,i,id,x=>match uh e (dM i) rf ro ops i id m o {x with dg:=x.s.t::x.dg}with
  |none=>none
  |some x=>nc e dM rf ro ops r (i+1) (nextId o id) x
def LF(e:Env)(x:cH)(bE:List (Nat×aa))(dc:List (Nat×Nat))(i m:Nat)(o:Oper)(t:Tr Value):Bool:=
 let lo:=(dc.filter λp=>m.testBit p.1).length
 let hi:=(dc.filter λp=> !p.2.testBit i).length
 bif Nat.ble hi lo then true else
 match o.dst with
 |none=>false
 |some d=>match x.s.t.get d with
  |none=>false
  |some v=>((bE.drop lo).take (hi+1-lo)).all λ(inc,h)=>
   match aL e (cg h m (x.all.filter λp=> !inc.testBit p.1)) t o.op with
   |some (.val v' _)=>vZ 12 v v'
   |_=>false
def Em(e:Env)(ops:List Oper)(x:cH)(bE:List (Nat×aa))(dc:List (Nat×Nat)):List (Oper×Nat)->List (Tr Value)->Nat->Bool
 |(o,m)::r,t::ts,i=>(bif cls o.op==.read then(match cY ops {x.s with t} o with
  |some true=>LF e x bE dc i m o t
  |_=>true)else true)&&Em e ops x bE dc r ts (i+1)
 |[],_,_=>true
 |_,_,_=>false
def j9:List (Oper×Nat)->Nat->List (Nat×Nat)
 |[],_=>[]
 |(o,m)::r,i=>bif cls o.op==.effect then(i,m)::j9 r (i+1)else j9 r (i+1)
def fw(h:aa):dz->aa
 |[]=>h
 |(_,id,o)::r=>(fw h r).set id (some o)
def LG(e:Env)(cf:ff)(rf:gW)(ro:Option Nat)(ops:List Oper)(draw:Bool)(s:aE):Option aE:=
 bif draw then
  let ms:=bl ops
  let oms:=ops.zip ms
  let dc:=j9 oms 0
  bif qG ops ms then
   match nc e (λ_=>cf) rf ro ops oms 0 s.h.next {s:={s with h:={s.h with next:=s.h.next+(ops.filter λo=>cls o.op==.alloc).length}},an:=[],all:=[],bE:=[(0,{s.h with next:=s.h.next+(ops.filter λo=>cls o.op==.alloc).length})],dg:=[]}with
   |none=>none
   |some x=>bif (Nat.beq dc.length 0)||Em e ops x x.bE.reverse dc oms x.dg.reverse 0 then some {x.s with h:=fw x.s.h x.an}else none
  else none
 else sk e cf rf ro ops ops s
def iv(e:Env)(s:aE):List ResultVar->Option (List Value)
 |[]=>some []
 |r::rs=>match(match r with
  |.tmp t=>s.t.get t
  |.cell a t=>match(s.t.get a).bind iL with
   |none=>none
   |some ad=>iJ e s.h t ad),iv e s rs with
  |some v,some vs=>some (v::vs)
  |_,_=>none
def lu(e:Env):List Deferred->aa->Option aa
 |[],h=>some h
 |d::ds,h=>match d.target with
  |.collected r=>match h.get r with
   |some (.fT true)=>lu e ds (h.set r (some (.fT false)))
   |_=>none
  |.fn (.func g) _=>bif e.idle g then lu e ds h else none
  |_=>none
def gX(args:List Value):Tr Value:=Tr.ofList args 0 .nil
abbrev pC:=Option Nat->Code->aE->Option (bn×aE)
def qH(e:Env)(ev:pC):ff:=λf args h=>
 match e.fn f with
 |none=>none
 |some fn=>match fn.body with
  |none=>none
  |some c=>match ev none c {t:=gX args,n:=args.length+(fn.ntmps-args.length),ds:=[],h}with
   |none=>none
   |some (.exit _,_)=>none
   |some (_,s)=>match lu e s.ds s.h with
    |none=>none
    |some h=>match iv e {s with h} fn.results.toList with
     |some [v]=>some (v,h)
     |some vs=>some (.tuple vs.toArray,h)
     |none=>none
def En(n:Nat):List Tmp->List Value->Tr Value->Option (Tr Value)
 |[],[],t=>some t
 |p::ps,v::vs,t=>bif Nat.blt p n then En n ps vs (t.set p (some v))else none
 |_,_,_=>none
def Ao:bn->Option Code
 |.normal=>none
 |.ret=>some .ret
 |.exit id=>some (.exit id)
def LH(ev:pC):gW:=λl args h=>
 match h.get l with
 |some (.loop .ready _ t n params bT body _)=>match En n params args t with
  |none=>none
  |some t'=>match ev (some l) bT {t:=t',n,ds:=[],h}with
   |some (.normal,s)=>match s.h.get l with
    |some (.loop .ready af t2 n2 params2 aF ai aI)=>match ev (some l) body {s with h:=s.h.set l (some (.loop .busy af t2 n2 params2 aF ai aI))}with
     |none=>none
     |some (x,s)=>match s.h.get l with
      |some (.loop _ _ t3 n3 params3 aJ ao aN)=>
       some (.bool (Ao x).isNone,s.h.set l (some (.loop (if(Ao x).isNone then .ready else .done) (Ao x) t3 n3 params3 aJ ao aN)))
      |_=>none
    |_=>none
   |_=>none
 |_=>none
def LI(e:Env)(ev:pC)(cf:ff)(ro:Option Nat)(g:Operand)(params:Array Tmp)(bT body:Code)(s:aE):Option (bn×aE):=
 match(match ro with
  |some l=>(match s.h.get l with|some (.loop _ _ _ _ _ _ _ fT)=>some (fT,[],s.h)|_=>none)
  |none=>some (s.h.next,[({target:=.collected s.h.next,args:=#[]}:Deferred)],s.h.new (.fT true)))with
 |none=>none
 |some (fT,mark,h)=>
  let l:=h.next
  let h:=h.new (.loop .ready none s.t s.n params.toList bT body fT)
  match(au e s.t g).bind (oh · [.func (.yield l) #[] #[]])with
  |some (.func f,az,cap)=>match cf f (az++cap) h with
   |none=>none
   |some (_,h)=>match h.get l with
    |some (.loop st an t n params bT body fT)=>bif st==.busy then none else
     let s:aE:={s with h:=h.set l (some (.loop .exhausted an t n params bT body fT)),ds:=mark++s.ds}
     match an with
     |none=>some (.normal,s)
     |some c=>ev ro c s
    |_=>none
  |_=>none
def Eo(e:Env)(cf:ff):ff:=λf args h=>
 match e.kG f args h with
 |some r=>some r
 |none=>cf f args h
def LJ(e:Env)(ev:pC):pC:=λro c s=>
 match c with
 |.skip|.label _=>some (.normal,s)
 |.scope c=>ev ro c s
 |.region _ ops draw=>(LG e (Eo e (qH e ev)) (LH ev) ro ops.toList draw s).map λs=>(.normal,s)
 |.seq a b=>match ev ro a s with
  |some (.normal,s)=>ev ro b s
  |r=>r
 |.cond c a b=>match au e s.t c with
  |some (.bool true)=>ev ro a s
  |some (.bool false)=>ev ro b s
  |_=>none
 |.block id c=>match ev ro c s with
  |some (.exit aO,s)=>bif Nat.beq aO id then some (.normal,s)else some (.exit aO,s)
  |r=>r
 |.loop c=>match ev ro c s with
  |some (.normal,s)=>ev ro (.loop c) s
  |r=>r
 |.rangeFunc g params bT body=>LI e ev (Eo e (qH e ev)) ro g params bT body s
 |.exit id=>some (.exit id,s)
 |.ret=>some (.ret,s)
 |_=>none
def ev(e:Env):Nat->pC
 |0=>λ_ _ _=>none
 |n+1=>LJ e (ev e n)
def call(e:Env)(n:Nat):ff:=qH e (ev e n)
end Go.aw
end

/- SpacingSuffixes: parts of its proof (SpD DvM Te1 SpE). -/
import Derived.Test.YtaheljlbchkpcaaGreatDoorK19
import Derived.Test.YtaheljlbchkpcaaGreatDoorK21
set_option linter.unusedVariables false
set_option linter.unusedSimpArgs false
noncomputable section
open Go Go.aw Go.Proofs
namespace Go.Sp
set_option maxRecDepth 100000
variable {aj:Bool}
theorem bc{f:FuncId}{fn:Func}{c:Code}{aa:List DV}{dv:DV}(ad:E.fn f=some fn)(hb:fn.body=some c){n:Nat}(hn:fn.ntmps=n){rs:List ResultVar}(ae:fn.results=rs.toArray)
 (hq:∀N,RD E aj c ⟨iT aa,aa.length+(n-aa.length),[],ab.none N⟩ (jN E rs λd h=>Fz (allRows h) d dv)):ax E aj f aa dv:=ax.of (kN []) lY (uH []) ad hb hn ae hq
theorem cx{c:Code}{K:bn->DS->Prop}{d:DS}(I:Nat->DS->Prop)(j:Nat)(hw:∃d',aA d d'/\I j d')(hI:∀j d,I j d->RD E aj c d (KI I j K)):WD E aj (.loop c) d K:=WD.loop (kN []) lY I hI j d hw
theorem YR(e:Env)(ops:List Oper)(op:Op)(dst:Option Tmp)(r:List Oper)(t:Tr DV)(n:Nat)(dd:List FuncId)(h:ab)(K:DS->Prop)(w:Bool):mF e aj ops op dst r t n dd h K w dj=fj e aj ops r (cJ dst dj t) n dd h K:=Gs ..
theorem YS(h:ab):gb h []=h:=(rfl)
theorem YT(h:ab)(i:Nat)(l:List Nat):gb h (i::l)=(gb h l).set i none:=(rfl)
attribute [go_sem] uF YR YS YT
theorem YU{α:Type}{a b:Nat}{x y:α}(h:a≠b):(if a=b then x else y)=y:=if_neg h
theorem YV{α:Type}{a b:Nat}{x y:α}(h:a=b):(if a=b then x else y)=x:=if_pos h
attribute [go_sem] ab.bw ab.dT YU YV
def bQ:List (Nat×DV)->Tr DV
 |[]=>.nil
 |(i,v)::l=>(bQ l).set i (some v)
def cK(N:Nat):List (Nat×bF)->ab
 |[]=>ab.none N
 |(i,o)::l=>(cK N l).set i (some o)
theorem GY(i:Nat):(bQ []).get i=none:=Tr.get_nil i
theorem Cs(i j:Nat)(v:DV)(l:List (Nat×DV)):(bQ ((i,v)::l)).get j=if j=i then some v else(bQ l).get j:=Tr.bw _ _ _ _
theorem zd(N i:Nat):(cK N []).get i=none:=ab.get_none _ _
theorem wY(N i j:Nat)(o:bF)(l:List (Nat×bF)):(cK N ((i,o)::l)).get j=if j=i then some o else(cK N l).get j:=ab.bw _ _ _ _
theorem wZ(N:Nat):∀(l:List (Nat×bF)),(cK N l).next=N
 |[]=>rfl
 |_::l=>wZ N l
theorem w8{t:Tr DV}:∀{l:List (Nat×DV)},(∀p∈l,t.get p.1=some p.2)->∀i v,(bQ l).get i=some v->t.get i=some v
 |[],_,i,v,h=>by rw[GY]at h;cases h
 |(j,u)::l,hl,i,v,h=>by
  rw[Cs]at h
  split at h
  . rename_i hi;subst hi;cases h;exact hl (i,u) (by simp)
  . exact w8 (λp hp=>hl p (List.mem_cons_of_mem _ hp)) i v h
theorem Ct{h:ab}{N:Nat}:∀{l:List (Nat×bF)},(∀p∈l,h.get p.1=some p.2)->∀i o,(cK N l).get i=some o->h.get i=some o
 |[],_,i,v,h=>by rw[zd]at h;cases h
 |(j,u)::l,hl,i,v,h=>by
  rw[wY]at h
  split at h
  . rename_i hi;subst hi;cases h;exact hl (i,u) (by simp)
  . exact Ct (λp hp=>hl p (List.mem_cons_of_mem _ hp)) i v h
def nC(t:Tr DV):List (Nat×DV)->Prop
 |[]=>True
 |p::l=>t.get p.1=some p.2/\nC t l
def p7(h:ab):List (Nat×bF)->Prop
 |[]=>True
 |p::l=>h.get p.1=some p.2/\p7 h l
theorem YW(t:Tr DV):nC t []=True:=(rfl)
theorem YX(t:Tr DV)(i:Nat)(v:DV)(l:List (Nat×DV)):nC t ((i,v)::l)=(t.get i=some v/\nC t l):=(rfl)
theorem YY(h:ab):p7 h []=True:=(rfl)
theorem YZ(h:ab)(i:Nat)(v:bF)(l:List (Nat×bF)):p7 h ((i,v)::l)=(h.get i=some v/\p7 h l):=(rfl)
theorem nC.mem{t:Tr DV}:∀{l:List (Nat×DV)},nC t l->∀p∈l,t.get p.1=some p.2
 |_::_,⟨h1,h2⟩,p,hp=>by
  rcases List.mem_cons.1 hp with rfl|hp
  . exact h1
  . exact h2.mem p hp
theorem p7.mem{t:ab}:∀{l:List (Nat×bF)},p7 t l->∀p∈l,t.get p.1=some p.2
 |_::_,⟨h1,h2⟩,p,hp=>by
  rcases List.mem_cons.1 hp with rfl|hp
  . exact h1
  . exact h2.mem p hp
theorem aA.mk{t:Tr DV}{n N:Nat}{dd:List FuncId}{h:ab}{l:List (Nat×DV)}{r:List (Nat×bF)}(hN:h.next=N)(ht:nC t l)(hh:p7 h r):aA ⟨t,n,dd,h⟩ ⟨bQ l,n,dd,cK N r⟩:=
 aA.forget (by rw[wZ,hN]) (w8 ht.mem) (Ct hh.mem)
attribute [go_sem] YW YX YY YZ
attribute [go_sem] GY Cs zd wY wZ
abbrev iV(n:Int):DV:=.v (.int .i64 n)
abbrev bV(b:Bool):DV:=.v (.bool b)
abbrev sV(s:ByteArray):DV:=.v (.string s)
abbrev eN:DV:=.v (.slice none 0 0)
abbrev uV(n:Int):DV:=.v (.int .u8 n)
section
variable {S:fA}
theorem w9(d:DV):Fz S d d=True:=eq_true (.refl d)
theorem Y0(l:List DV):cP S l l=True:=eq_true (cP.refl l)
theorem xa:cP S [] []=True:=eq_true .nil
theorem xe(a b:DV)(x y:List DV):cP S (a::x) (b::y)=(Fz S a b/\cP S x y):=propext ⟨λh=>by cases h with|cons h1 h2=>exact⟨h1,h2⟩,λ⟨h1,h2⟩=>.cons h1 h2⟩
theorem GZ(x y:List DV):Fz S (.agg x) (.agg y)=cP S x y:=propext ⟨λh=>by
 cases h with
 |refl _=>exact cP.refl _
 |agg h1 h2=>exact aP.sv h1 h2,Fz.dV⟩
theorem Y1(x y:List DV):Fz S (.bg x) (.bg y)=cP S x y:=propext ⟨λh=>by
 cases h with
 |refl _=>exact cP.refl _
 |bg h1 h2=>exact aP.sv h1 h2,Fz.ki⟩
theorem Y2(c k:Nat):Fz S (.v (.slice none 0 c)) (.sl (k+1) [])=True:=eq_true (.nil (Nat.succ_pos k))
theorem th{k:Nat}:∀{xs:List (List DV)} (j i:Nat) (x:List DV) (d:DV),(∀x∈xs,x.length=k)->xs[j]? =some x->x[i]? =some d->xs.flatten[j*k+i]? =some d
 |[],j,i,x,d,_,h,_=>by simp at h
 |y::xs,0,i,x,d,hl,h,hi=>by
  simp only[List.getElem?_cons_zero,Option.some.injEq]at h;subst h;have:=(List.getElem?_eq_some_iff.1 hi).1;rw[List.flatten_cons,List.getElem?_append_left (by omega)];simpa using hi
 |y::xs,j+1,i,x,d,hl,h,hi=>by
  have hy:y.length=k:=hl y (by simp);rw[List.flatten_cons,List.getElem?_append_right (by rw[hy,Nat.add_mul];omega),hy];have:=th j i x d (λz hz=>hl z (List.mem_cons_of_mem _ hz)) (by simpa using h) hi;rw[<-this];congr 1;rw[Nat.add_mul];omega
theorem fQ{k:Nat}:∀{xs:List (List DV)},(∀x∈xs,x.length=k)->xs.flatten.length=xs.length*k
 |[],_=>by simp
 |y::xs,h=>by
  rw[List.flatten_cons,List.length_append,h y (by simp),fQ λx hx=>h x (List.mem_cons_of_mem _ hx),List.length_cons,Nat.add_mul];omega
theorem eO{r n c k ah:Nat}{xs:List (List DV)}(hr:S r=some (xs.flatten,ah))(he:ah=0\/ah=k)(hk:0<k)(hn:n=xs.length)(hc:n<=c)(hx:∀x∈xs,x.length=k):Fz S (.v (.slice (some ⟨r,0,none⟩) n c)) (.sl k xs):=
 .sl hr he hk hn hc hx (by rw[fQ hx];omega) λj x i v d h1 h2 h3=>by
  have:=th j i x d hx h1 h2;rw[Nat.zero_add,this]at h3;cases h3;exact .refl _
theorem iW{r n c k ah:Nat}{cs:List DV}{xs:List (List DV)}(hr:S r=some (cs,ah))(he:ah=0\/ah=k)(hk:0<k)(hn:n=xs.length)(hc:n<=c)(hx:∀x∈xs,x.length=k)(hz:cP S cs xs.flatten):Fz S (.v (.slice (some ⟨r,0,none⟩) n c)) (.sl k xs):=
 .sl hr he hk hn hc hx (by rw[aP.length hz,fQ hx];omega) λj x i v d h1 h2 h3=>by
  have h4:=th j i x d hx h1 h2;rw[Nat.zero_add]at h3;obtain⟨d',h5,h6⟩:=aP.get hz _ v h3;rw[h4]at h5;cases h5;exact h6
end
attribute [go_sem] q9 w9 Y0 xa xe GZ Y1 Y2 YI YJ YK YL Cr YM uP YN YO
theorem cN{h:ab}{i:Nat}{cs:List DV}{wr:Bool}{ah:Nat}(hg:h.get i=some (.row cs wr ah)):allRows h i=some (cs,ah):=by unfold allRows;rw[hg]
theorem kY{h:ab}{i len sz b n:Nat}{cs new:List DV}{K:DV×ab×List Nat->Prop}(hg:h.get i=some (.row cs true sz))(hc:cs.length=len*sz)(hs:0<sz)(hn:0<n)(h1:new.all di=true)(hb:(len+n)*(b+1)<=1073741824)
 (hk:K (.v (.slice (some ⟨h.next,0,none⟩) (len+n) (len+n)),(h.set i none).new (.row (cs++new) true sz),[i])):aG (eW h (some ⟨i,0,none⟩) len len sz b n new) K:=⟨_,wP h i len sz b n cs new hg hc hs hn h1 hb,hk⟩
theorem gd{h:ab}{i len sz b n:Nat}{cs new:List DV}{wr:Bool}{K:DV×ab×List Nat->Prop}(hg:h.get i=some (.row cs wr 0))(hc:cs.length=len*sz)(hn:0<n)(hb:(len+n)*(b+1)<=1073741824)
 (hk:K (.v (.slice (some ⟨h.next,0,none⟩) (len+n) (len+n)),h.new (.row (cs++new) true sz),[])):aG (eW h (some ⟨i,0,none⟩) len len sz b n new) K:=⟨_,Gw h i len sz b n cs new wr hg hc hn hb,hk⟩
theorem Y3{h:ab}{sz b n:Nat}{new:List DV}{K:DV×ab×List Nat->Prop}(hn:0<n)(hb:n*(b+1)<=1073741824)(hk:K (.v (.slice (some ⟨h.next,0,none⟩) n n),h.new (.row new true sz),[])):aG (eW h none 0 0 sz b n new) K:=⟨_,s9 h sz b n new hn hb,hk⟩
def gv(r:Option Nat)(n:Nat):DV:=match r with
 |none=>eN
 |some r=>.v (.slice (some ⟨r,0,none⟩) n n)
def gh(r:Option Nat)(k:Nat)(cs:List DV):List (Nat×bF):=match r with
 |none=>[]
 |some r=>[(r,.row cs true k)]
theorem Y4(n:Nat):gv none n=eN:=(rfl)
theorem Y5(r n:Nat):gv (some r) n=.v (.slice (some ⟨r,0,none⟩) n n):=(rfl)
theorem Y6(k:Nat)(cs:List DV):gh none k cs=[]:=(rfl)
theorem Y7(r k:Nat)(cs:List DV):gh (some r) k cs=[(r,.row cs true k)]:=(rfl)
attribute [go_sem] Y4 Y5 Y6 Y7
structure Dg where
 nodes:List (Int×Int×Int)
 root:Int
structure aY where
 kind:Int
 lo:Int
 hi:Int
 a:Int
 b:Int
structure Tok where
 name:ByteArray
 cls:Int
 lit:ByteArray
 pat:List aY
 jo:ByteArray
 cond:Dg
structure Sym where
 tok:Bool
 idx:Int
structure mI where
 kind:Int
 a:Int
 b:Int
structure G5 where
 opens:Bool
 declares:Int
 kind:Int
 xg:Int
 allowed:Int
structure aR where
 name:ByteArray
 left:Int
 right:List Sym
 cond:Dg
 bracket:Bool
 fk:Int
 layout:List mI
 scope:G5
structure dG where
 ak:List Int
 assoc:Int
 cond:Dg
structure bj where
 kind:Int
 parent:Int
 at_:Int
 child:Int
 left:Int
 token:Int
 ar:List Int
 cond:Dg
structure ai where
 conds:List ByteArray
 family:Dg
 ar:List Tok
 aH:List ByteArray
 ak:List aR
 start:Int
 bd:List dG
 bp:List bj
def de(x:Int×Int×Int):List DV:=[iV x.1,iV x.2.1,iV x.2.2]
abbrev ints(l:List Int):DV:=.sl 1 (l.map λn=>[iV n])
abbrev strs(l:List ByteArray):DV:=.sl 1 (l.map λs=>[sV s])
def Dg.e(d:Dg):List DV:=[.sl 3 (d.nodes.map de),iV d.root]
def aY.e(x:aY):List DV:=[iV x.kind,iV x.lo,iV x.hi,iV x.a,iV x.b]
def Tok.e(x:Tok):List DV:=[sV x.name,iV x.cls,sV x.lit,.sl 5 (x.pat.map aY.e),sV x.jo,.sl 3 (x.cond.nodes.map de),iV x.cond.root]
def Sym.e(x:Sym):List DV:=[bV x.tok,iV x.idx]
def mI.e(x:mI):List DV:=[iV x.kind,iV x.a,iV x.b]
def aR.e(x:aR):List DV:=[sV x.name,iV x.left,.sl 2 (x.right.map Sym.e),.sl 3 (x.cond.nodes.map de),iV x.cond.root,bV x.bracket,iV x.fk,.sl 3 (x.layout.map mI.e),bV x.scope.opens,iV x.scope.declares,iV x.scope.kind,iV x.scope.xg,iV x.scope.allowed]
def dG.e(x:dG):List DV:=[ints x.ak,iV x.assoc,.sl 3 (x.cond.nodes.map de),iV x.cond.root]
def bj.e(x:bj):List DV:=[iV x.kind,iV x.parent,iV x.at_,iV x.child,iV x.left,iV x.token,ints x.ar,.sl 3 (x.cond.nodes.map de),iV x.cond.root]
def ai.e(x:ai):List DV:=[strs x.conds,.sl 3 (x.family.nodes.map de),iV x.family.root,.sl 7 (x.ar.map Tok.e),strs x.aH,.sl 13 (x.ak.map aR.e),iV x.start,.sl 4 (x.bd.map dG.e),.sl 9 (x.bp.map bj.e)]
def eE:List DV:=[eN,eN,iV 0,eN,eN,eN,iV 0,eN,eN]
end Go.Sp
end
noncomputable section
namespace Go.aw
variable {e:Env} {N:Nat}
def jq:Value->Bool
 |.pointer (some _)=>false
 |.slice (some _) _ _=>false
 |.map (some _)=>false
 |_=>true
def G6:DV->Bool
 |.v x=>jq x
 |_=>false
def dD:DV->Bool
 |.v x=>jq x
 |.agg l=>l.all G6
 |_=>false
def jr:Option DV->Bool
 |some d=>dD d
 |none=>true
def eP(N:Nat)(a:Addr):Addr:=⟨a.block+N,a.off,a.spot⟩
def bU(N:Nat):Value->Value
 |.pointer (some a)=>.pointer (some (eP N a))
 |.slice (some a) l c=>.slice (some (eP N a)) l c
 |.map (some r)=>.map (some (r+N))
 |v=>v
mutual
def sh(N:Nat):DV->DV
 |.v x=>.v (bU N x)
 |.agg l=>.agg (oK N l)
 |.bg l=>.bg (oK N l)
 |.fn f a c=>.fn f (oK N a) (oK N c)
 |.sl k xs=>.sl k (xh N xs)
 |.ptr xs off=>.ptr (oK N xs) off
def oK(N:Nat):List DV->List DV
 |[]=>[]
 |d::l=>sh N d::oK N l
def xh(N:Nat):List (List DV)->List (List DV)
 |[]=>[]
 |x::xs=>oK N x::xh N xs
end
theorem uQ:∀(l:List DV),oK N l=l.map (sh N)
 |[]=>by simp[oK]
 |d::l=>by simp[oK,uQ l]
theorem G7:∀(l:List (List DV)),xh N l=l.map λx=>x.map (sh N)
 |[]=>by simp[xh]
 |d::l=>by simp[xh,G7 l,uQ]
theorem bR(x:Value):sh N (.v x)=.v (bU N x):=by simp[sh]
theorem ku(l:List DV):sh N (.agg l)=.agg (l.map (sh N)):=by simp[sh,uQ]
theorem jP(l:List DV):sh N (.bg l)=.bg (l.map (sh N)):=by simp[sh,uQ]
theorem p8(f:FuncId)(a c:List DV):sh N (.fn f a c)=.fn f (a.map (sh N)) (c.map (sh N)):=by simp[sh,uQ]
theorem mJ(k:Nat)(xs:List (List DV)):sh N (.sl k xs)=.sl k (xs.map λx=>x.map (sh N)):=by simp[sh,G7]
theorem nD(xs:List DV)(o:Nat):sh N (.ptr xs o)=.ptr (xs.map (sh N)) o:=by simp[sh,uQ]
theorem rA{x:Value}(h:jq x=true):bU N x=x:=by
 unfold bU
 split
 . simp[jq]at h
 . simp[jq]at h
 . simp[jq]at h
 . rfl
theorem Y8{d:DV}(h:G6 d=true):sh N d=d:=by
 cases d with
 |v x=>rw[bR,rA h]
 |_=>cases h
theorem gL{d:DV}(h:dD d=true):sh N d=d:=by
 cases d with
 |v x=>rw[bR,rA h]
 |agg l=>
  rw[ku];congr 1;simp only[dD,List.all_eq_true]at h;exact(List.map_congr_left λd hd=>Y8 (h d hd)).trans (List.map_id' l)
 |_=>cases h
theorem uR{l:List Value}(h:l.all jq=true):(l.map .v).map (sh N)=l.map .v:=by
 rw[List.map_map];simp only[List.all_eq_true]at h;exact List.map_congr_left λx hx=>by simp[bR,rA (h x hx)]
theorem G8{n:Nat}{v:Value}(h:ez n v=true):jq v=true:=by
 cases n with
 |zero=>simp[ez]at h
 |succ n=>
  unfold jq
  split
  . simp[ez]at h
  . simp[ez]at h
  . simp[ez]at h
  . rfl
theorem Y9{cs:Array Value}(h:plain (.agg cs)=true):cs.toList.all jq=true:=by
 have h:cs.toList.all (ez 5)=true:=h;simp only[List.all_eq_true]at h⊢;exactλx hx=>G8 (h x hx)
theorem G9{v:Value}(h:plain v=true):sh N (fX v)=fX v:=by
 unfold fX
 split
 . rw[ku,uR (Y9 h)]
 . rw[bR,rA (G8 h)]
theorem Cu(d:DV):cE (sh N d)=(cE d).map (sh N):=by cases d<;>simp[cE,bR,ku,jP,p8,mJ,nD]
theorem Za(x:Value):dL (bU N x)=dL x:=by
 unfold bU
 split<;>rfl
theorem Zb(d:DV):di (sh N d)=di d:=by cases d<;>simp[di,bR,ku,jP,p8,mJ,nD,Za]
theorem xi(l:List DV):(l.map (sh N)).all di=l.all di:=by rw[List.all_map];congr 1;funext d;exact Zb d
def gj(N:Nat)(x:bA):bA:=⟨x.key,sh N x.val,x.born⟩
def gx(N:Nat):bF->bF
 |.row cs wr ah=>.row (cs.map (sh N)) wr ah
 |.map es clock=>.map (es.map (gj N)) clock
 |.cD m since seen last=>.cD (m.map (·+N)) since seen last
 |.e8 s pos=>.e8 s pos
def TS(N:Nat)(t0 t:Tr DV):Prop:=∀i,t.get i=(t0.get i).map (sh N)
structure HS(N:Nat)(h0 h:ab):Prop where
 next:h.next=h0.next+N
 get:∀k,h.get (k+N)=(h0.get k).map (gx N)
theorem TS.put{t0 t:Tr DV}(ht:TS N t0 t)(dst:Option Tmp)(d:DV):TS N (cJ dst d t0) (cJ dst (sh N d) t):=by
 cases dst with
 |none=>exact ht
 |some i=>
  intro j;simp only[cJ,Tr.bw]
  split
  . rfl
  . exact ht j
theorem HS.set{h0 h:ab}(hh:HS N h0 h)(k:Nat)(o:Option bF):HS N (h0.set k o) (h.set (k+N) (o.map (gx N))):=by
 refine⟨by rw[ab.aS,ab.aS,hh.next],λj=> ?_⟩;simp only[ab.bw,Nat.add_right_cancel_iff]
 split
 . rfl
 . exact hh.get j
theorem HS.new{h0 h:ab}(hh:HS N h0 h)(o:bF):HS N (h0.new o) (h.new (gx N o)):=by
 refine⟨by rw[ab.aZ,ab.aZ,hh.next];omega,λj=> ?_⟩;simp only[ab.dT,hh.next,Nat.add_right_cancel_iff]
 split
 . rfl
 . exact hh.get j
theorem HS.row{h0 h:ab}(hh:HS N h0 h){b:Nat}{cs:List DV}{wr:Bool}{ah:Nat}(hg:h0.get b=some (.row cs wr ah)):h.get (b+N)=some (.row (cs.map (sh N)) wr ah):=by rw[hh.get,hg];rfl
theorem HS.mp{h0 h:ab}(hh:HS N h0 h){b:Nat}{es:List bA}{c:Nat}(hg:h0.get b=some (.map es c)):h.get (b+N)=some (.map (es.map (gj N)) c):=by rw[hh.get,hg];rfl
abbrev Env.aU(e:Env):Env:=e
theorem Zc:sh N (.ptr qY 0)=.ptr qY 0:=by
 rw[nD,qY,List.map_map];exact congrArg (λl=>DV.ptr l 0) (List.map_congr_left λv hv=>by
  obtain⟨n,_,rfl⟩:=List.mem_map.1 hv;simp[bR,bU])
variable {t0 t:Tr DV} {h0 h:ab}
theorem ee(ht:TS N t0 t){o:Operand}{d:DV}(hd:aB e.aU t0 o=some d):aB e t o=some (sh N d):=by
 cases o with
 |tmp i=>
  have:t0.get i=some d:=hd;show t.get i=_;rw[ht i,this];rfl
 |const v=>
  simp only[aB]at hd⊢;obtain⟨hp,hd⟩:=ca hd;cases hd;rw[G9 hp,hp];rfl
 |global g=>
  simp only[aB]at hd⊢;obtain⟨hp,hd⟩:=ca hd;rw[hp,cond_true];by_cases hg:g=0
  . rw[if_pos hg]at hd⊢;simp only[Option.some.injEq]at hd;subst hd;rw[Zc]
  . rw[if_neg hg]at hd;cases hd
 |func f=>
  simp only[aB,Option.some.injEq]at hd;subst hd;simp[aB,p8]
theorem oL(ht:TS N t0 t):∀{l:List Operand} {ds:List DV},cO e.aU t0 l=some ds->cO e t l=some (ds.map (sh N))
 |[],ds,h=>by simp only[cO,Option.some.injEq]at h;subst h;rfl
 |o::r,ds,h=>by
  simp only[cO]at h
  split at h
  . cases h
  . rename_i d hd;simp only[Option.map_eq_some_iff]at h;obtain⟨af,h1,rfl⟩:=h;simp only[cO,ee ht hd,oL ht h1,Option.map_some,List.map_cons]
def xj(N:Nat)(p:Nat×DV):Nat×DV:=(p.1,sh N p.2)
theorem Cv(ht:TS N t0 t):∀{l:List (Nat×Operand)} {ds:List (Nat×DV)},fY e.aU t0 l=some ds->fY e t l=some (ds.map (xj N))
 |[],ds,h=>by simp only[fY,Option.some.injEq]at h;subst h;rfl
 |(i,o)::r,ds,h=>by
  simp only[fY]at h
  split at h
  . cases h
  . rename_i d hd;simp only[Option.map_eq_some_iff]at h;obtain⟨af,h1,rfl⟩:=h;simp only[fY,ee ht hd,Cv ht h1,Option.map_some,List.map_cons,xj]
theorem Cw(ht:TS N t0 t){o:Option Operand}{d:Option DV}(hd:eM e.aU t0 o=some d):eM e t o=some (d.map (sh N)):=by
 cases o with
 |none=>simp only[eM,Option.some.injEq]at hd;subst hd;rfl
 |some o=>
  simp only[eM,Option.map_eq_some_iff]at hd;obtain⟨d,h1,rfl⟩:=hd;simp only[eM,ee ht h1,Option.map_some]
theorem Ha{l:Option (Option Nat)}{cs:List DV}{o:Nat}{d:DV}(hd:fy l cs o=some d):fy l (cs.map (sh N)) o=some (sh N d):=by
 unfold fy at hd
 split at hd
 . simp only[fy,List.getElem?_map,hd,Option.map_some]
 . split at hd
   . rename_i hc;cases hd;simp only[fy,List.length_map,hc,if_true,ku,List.map_take,List.map_drop]
   . cases hd
 . cases hd
theorem Hb(hh:HS N h0 h){ty:TypeId}{d r:DV}(hd:jl e.aU h0 ty d=some r):jl e h ty (sh N d)=some (sh N r):=by
 unfold jl at hd
 split at hd
 . rename_i b o
   split at hd
   . rename_i cs wr ah hg;simp only[bR,bU,eP,jl,hh.row hg];exact Ha hd
   . cases hd
 . simp only[nD,jl];exact Ha hd
 . cases hd
theorem Zd{s f:Nat}{d r:DV}(hd:kR e.aU s f d=some r):kR e s f (sh N d)=some (sh N r):=by
 unfold kR at hd
 split at hd
 . simp only[Option.map_eq_some_iff]at hd;obtain⟨k,h1,rfl⟩:=hd;have h1:e.off s f=some k:=h1;simp only[bR,bU,eP,kR,h1,Option.map_some]
 . simp only[Option.map_eq_some_iff]at hd;obtain⟨k,h1,rfl⟩:=hd;have h1:e.off s f=some k:=h1;simp only[nD,kR,h1,Option.map_some]
 . cases hd
theorem Hd{p:Option (Nat×Option Nat)}{l:List DV}{d:DV}(hd:kS p l=some d):kS p (l.map (sh N))=some (sh N d):=by
 unfold kS at hd
 split at hd
 . simp only[kS,List.getElem?_map,hd,Option.map_some]
 . cases hd;simp only[kS,ku,List.map_take,List.map_drop]
 . cases hd
theorem Ze{ty f:Nat}{d r:DV}(hd:qZ e.aU ty f d=some r):qZ e ty f (sh N d)=some (sh N r):=by
 unfold qZ at hd
 split at hd
 . simp only[ku,qZ];exact Hd hd
 . cases hd
theorem He{d:DV}{i:Int}(hd:gr d=some i):gr (sh N d)=some i:=by
 unfold gr at hd
 split at hd
 . simp only[bR,bU,gr];exact hd
 . cases hd
theorem Zf{b o len:Nat}{i:Int}{s:Option Nat}{v:Value}(h:oA b o len i s=some v):oA (b+N) o len i s=some (bU N v):=by
 cases s with
 |none=>cases h
 |some s=>
  simp only[oA]at h⊢
  split at h
  . rename_i hc;cases h;rw[if_pos hc];rfl
  . cases h
theorem Zg{b o:Nat}{i:Int}{s:Option (Nat×Nat)}{v:Value}(h:oB b o i s=some v):oB (b+N) o i s=some (bU N v):=by
 cases s with
 |none=>cases h
 |some s=>
  simp only[oB]at h⊢
  split at h
  . rename_i hc;cases h;rw[if_pos hc];rfl
  . cases h
theorem Zh{i:Int}{xs:List (List DV)}{d:DV}(h:q9 i xs=some d):q9 i (xs.map λx=>x.map (sh N))=some (sh N d):=by
 unfold q9 at h⊢
 split at h
 . rename_i hc;simp only[Option.map_eq_some_iff]at h;obtain⟨r,h1,rfl⟩:=h;simp only[hc,if_true,List.getElem?_map,h1,Option.map_some,nD]
 . cases h
theorem Zi{ty:TypeId}{d c r:DV}(hd:iQ e.aU ty d (gr c)=some r):iQ e ty (sh N d) (gr (sh N c))=some (sh N r):=by
 cases hi:gr c with
 |none=>rw[hi]at hd;unfold iQ at hd;split at hd<;>simp_all
 |some i=>
  rw[hi]at hd;rw[He hi];unfold iQ at hd
  split at hd
  . rename_i b o len cap i' he;cases he;simp only[Option.map_eq_some_iff]at hd;obtain⟨v,h1,rfl⟩:=hd;have h1:oA b o len i (e.elem ty)=some v:=h1;simp only[bR,bU,eP,iQ,Zf h1,Option.map_some]
  . rename_i b o i' he;cases he;simp only[Option.map_eq_some_iff]at hd;obtain⟨v,h1,rfl⟩:=hd;have h1:oB b o i (e.arr ty)=some v:=h1;simp only[bR,bU,eP,iQ,Zg h1,Option.map_some]
  . rename_i k xs i' he;cases he
    split at hd
    . rename_i hk;have hk:e.elem ty=some k:=hk;simp only[mJ,iQ,hk,if_true];exact Zh hd
    . cases hd
  . rename_i xs off i' he;cases he
    split at hd
    . rename_i n s ha;have ha:e.arr ty=some (n,s):=ha
      split at hd
      . rename_i hc;cases hd;simp only[nD,iQ,ha,hc,and_self,if_true]
      . cases hd
    . cases hd
  . cases hd
theorem Zj{ty:TypeId}{d c r:DV}(hn:dD c=true)(ai:∀x,d=.v x->dD d=true/\dD r=true)(hd:oG e.aU ty d c=some r):oG e ty (sh N d) (sh N c)=some (sh N r):=by
 rw[gL hn];unfold oG at hd
 split at hd
 . rename_i l k i
   split at hd
   . rename_i n s ld hp;have hp:e.BG ty=some (n,s,ld):=hp
     split at hd
     . rename_i hc;simp only[ku,oG,hp,hc,and_self,if_true];exact Hd hd
     . cases hd
   . cases hd
 . rename_i x y;obtain⟨h1,h2⟩:=ai x rfl;rw[gL h1,gL h2];exact hd
 . cases hd
theorem Zk{i:Nat}{d r:DV}(hd:mC i d=some r)(hn:∀x,d=.v x->dD r=true):mC i (sh N d)=some (sh N r):=by
 unfold mC at hd
 split at hd
 . simp only[jP,mC,List.getElem?_map,hd,Option.map_some]
 . rw[gL (hn _ rfl)];exact hd
 . cases hd
theorem Zl{d r:DV}(hd:lD d=some r):lD (sh N d)=some (sh N r):=by
 unfold lD at hd
 split at hd
 . cases hd;simp only[bR,bU,lD]
 . cases hd;simp only[nD,lD]
 . cases hd;simp only[p8,lD]
 . cases hd
theorem Hf(hh:HS N h0 h){sz:Nat}{d:DV}{n:Nat}{cs:List DV}(hd:gu h0 sz d=some (n,cs)):gu h sz (sh N d)=some (n,cs.map (sh N)):=by
 unfold gu at hd
 split at hd
 . rename_i k xs
   split at hd
   . rename_i hk;simp only[Option.some.injEq,Prod.mk.injEq]at hd;obtain⟨rfl,rfl⟩:=hd;simp only[mJ,gu,hk,if_true,List.length_map,List.map_flatten]
   . cases hd
 . rename_i n' c
   split at hd
   . rename_i hk;simp only[Option.some.injEq,Prod.mk.injEq]at hd;obtain⟨rfl,rfl⟩:=hd;simp only[bR,bU,gu,hk,if_true,List.map_nil]
   . cases hd
 . rename_i b o n' c
   split at hd
   . rename_i cs' wr ah hg
     split at hd
     . rename_i hc;simp only[Option.some.injEq,Prod.mk.injEq]at hd;obtain⟨rfl,rfl⟩:=hd;simp only[bR,bU,eP,gu,hh.row hg,List.length_map,hc,if_true,List.map_take,List.map_drop]
     . cases hd
   . cases hd
 . cases hd
theorem Hg:∀{l:List DV} {ns:List Int},l9 l=some ns->l9 (l.map (sh N))=some ns
 |[],_,h=>h
 |d::l,ns,h=>by
  unfold l9 at h
  split at h
  . contradiction
  . rename_i n r he;cases he;simp only[Option.map_eq_some_iff]at h;obtain⟨r,h1,rfl⟩:=h;simp only[List.map_cons,bR,bU,l9,Hg h1,Option.map_some]
  . cases h
theorem Zm(hh:HS N h0 h){s d:TypeId}{x r:DV}(hn:(e.mD s d||(dD x&&dD r))=true)(hd:nr e.aU h0 s d x=some r):nr e h s d (sh N x)=some (sh N r):=by
 unfold nr at hd⊢
 split at hd
 . rename_i hb;have hb:e.mD s d=true:=hb;simp only[hb];unfold sZ at hd
   split at hd
   . rename_i n cs ad;simp only[Option.map_eq_some_iff]at hd;obtain⟨ns,h1,rfl⟩:=hd;rw[Hf hh ad];simp only[sZ,Hg h1,Option.map_some,bR,bU]
   . cases hd
 . rename_i hb;have hb:e.mD s d=false:=hb;simp only[hb,Bool.false_or,Bool.and_eq_true]at hn⊢;rw[gL hn.1,gL hn.2];exact hd
theorem Cx{d:Option DV}{i:Option Int}(hd:fZ d=some i):fZ (d.map (sh N))=some i:=by
 cases d with
 |none=>exact hd
 |some d=>
  simp only[fZ,Option.map_eq_some_iff,Option.map_some]at hd⊢;obtain⟨i,h1,rfl⟩:=hd;exact⟨i,He h1,rfl⟩
theorem Zn(hh:HS N h0 h){ty:TypeId}{x r:DV}{lo hi mx:Option Int}(hd:kl e.aU h0 ty x lo hi mx=some r):kl e h ty (sh N x) lo hi mx=some (sh N r):=by
 have he:e.aU.elem ty=e.elem ty:=rfl;unfold kl at hd;rw[he]at hd
 split at hd
 . rename_i k xs s hs;simp only[mJ,kl,hs,List.length_map];cases h1:dW mx xs.length xs.length with
   |none=>rw[h1]at hd;cases hd
   |some m=>
    rw[h1]at hd;simp only at hd⊢;cases h2:dW hi m xs.length with
    |none=>rw[h2]at hd;cases hd
    |some h'=>
     rw[h2]at hd;simp only at hd⊢;cases h3:dW lo h' 0 with
     |none=>rw[h3]at hd;cases hd
     |some l=>
      rw[h3]at hd;simp only at hd⊢
      split at hd
      . rename_i hc;cases hd;rw[if_pos hc,mJ,List.map_take,List.map_drop]
      . cases hd
 . rename_i len cap s hs;simp only[bR,bU,kl,hs];cases h1:dW mx cap cap with
   |none=>rw[h1]at hd;cases hd
   |some m=>
    rw[h1]at hd;simp only at hd⊢;cases h2:dW hi m len with
    |none=>rw[h2]at hd;cases hd
    |some h'=>
     rw[h2]at hd;simp only at hd⊢;cases h3:dW lo h' 0 with
     |none=>rw[h3]at hd;cases hd
     |some l=>
      rw[h3]at hd;simp only at hd⊢
      split at hd
      . rename_i hc;cases hd;rw[if_pos hc];simp only[bR,bU,eP]
      . cases hd
 . rename_i b o len cap s hs;simp only[bR,bU,eP,kl,hs,hh.get b];cases hg:h0.get b with
   |none=>rw[hg]at hd;cases hd
   |some ob=>
    cases ob with
    |row cs wr ah=>
     rw[hg]at hd;simp only[Option.map_some,gx]at hd⊢;cases h1:dW mx cap cap with
     |none=>rw[h1]at hd;cases hd
     |some m=>
      rw[h1]at hd;simp only at hd⊢;cases h2:dW hi m len with
      |none=>rw[h2]at hd;cases hd
      |some h'=>
       rw[h2]at hd;simp only at hd⊢;cases h3:dW lo h' 0 with
       |none=>rw[h3]at hd;cases hd
       |some l=>
        rw[h3]at hd;simp only at hd⊢
        split at hd
        . rename_i hc;cases hd;rw[if_pos hc];simp only[bR,bU,eP]
        . cases hd
    |_=>rw[hg]at hd;cases hd
 . cases hd
theorem Zo(hh:HS N h0 h){ty:TypeId}{x:Option DV}{lo hi mx:Option (Option DV)}{r:DV}(hn:∀s,x=some (.v (.string s))->dD r=true/\(∀d,lo=some (some d)->dD d=true)/\(∀d,hi=some (some d)->dD d=true)/\(∀d,mx=some (some d)->dD d=true))
 (hd:dX e.aU h0 ty x lo hi mx=some r):dX e h ty (x.map (sh N)) (lo.map λd=>d.map (sh N)) (hi.map λd=>d.map (sh N)) (mx.map λd=>d.map (sh N))=some (sh N r):=by
 have hm:∀(y:Option (Option DV)),(∀d,y=some (some d)->dD d=true)->(y.map λd=>d.map (sh N))=y:=λy hy=>by
  cases y with
  |none=>rfl
  |some y=>cases y with
   |none=>rfl
   |some d=>simp only[Option.map_some,gL (hy d rfl)]
 unfold dX at hd
 split at hd
 . obtain⟨h1,h2,h3,h4⟩:=hn _ rfl;rename_i s lo hi mx;rw[hm _ h2,hm _ h3,hm _ h4,gL h1];exact hd
 . rename_i x lo hi mx hx
   split at hd
   . rename_i ay az aD b1 b2 b3;simp only[Option.map_some];have key:=Zn hh hd;unfold dX
     split
     . rename_i s _ _ _ e1 _ _ _;exfalso;simp only[Option.some.injEq]at e1;cases x<;>simp[bR,ku,jP,p8,mJ,nD]at e1;rename_i y;have:y=.string s:=by
        revert e1;unfold bU
        split<;>first|(intro h;cases h;done)|exact id
       subst this;exact hx s rfl
     . rename_i _ e1 e2 e3 e4;cases e1;cases e2;cases e3;cases e4;simp only[Cx b1,Cx b2,Cx b3];exact key
     . rename_i ao;exact(ao _ _ _ _ rfl rfl rfl rfl).elim
   . cases hd
 . cases hd
theorem Cy{P:Program}{kt:TypeId}{k:Value}:∀{es:List bA} {r:Option DV},findD P kt k es=some r->findD P kt k (es.map (gj N))=some (r.map (sh N))
 |[],r,h=>by simp only[findD,Option.some.injEq]at h;subst h;rfl
 |x::es,r,h=>by
  simp only[findD]at h;simp only[List.map_cons,findD];have:(gj N x).key=x.key:=rfl;rw[this]
  split at h
  . cases h
  . cases h;rfl
  . exact Cy h
theorem Hh{ty:TypeId}{ok:Bool}{k:Value}{es:List bA}{r:DV}(hd:l8 e.aU ty ok k es=some r):l8 e ty ok k (es.map (gj N))=some (sh N r):=by
 unfold l8 at hd;have hu:e.aU.under=e.under:=rfl;have hP:e.aU.P=e.P:=rfl;have hz:e.aU.zero=e.zero:=rfl;rw[hu,hP,hz]at hd
 split at hd
 . rename_i kt et h1;unfold l8;simp only[h1]
   split at hd
   . cases hd
   . rename_i kd h2
     split at hd
     . rename_i hc;rw[if_pos (by simpa using hc)]
       split at hd
       . cases hd
       . rename_i d h3;rw[Cy h3];cases hd;cases ok<;>simp[jP,bR,bU]
       . rename_i h3;rw[Cy h3];simp only[Option.map_none]
         split at hd
         . cases hd
         . rename_i z hz
           split at hd
           . rename_i hp;rw[if_pos hp];cases hd;cases ok<;>simp[jP,bR,bU,G9 hp]
           . cases hd
     . cases hd
 . cases hd
theorem Zp(hh:HS N h0 h){ty:TypeId}{ok:Bool}{m k r:DV}(hk:dD k=true)(hd:lF e.aU h0 ty ok m k=some r):lF e h ty ok (sh N m) (sh N k)=some (sh N r):=by
 rw[gL hk];unfold lF at hd
 split at hd
 . rename_i kv ae;simp only[bR,bU,lF,ae];exact Hh (es:=[]) hd
 . rename_i b kv ae;simp only[bR,bU,lF,ae]
   split at hd
   . rename_i es c hg;rw[hh.mp hg];exact Hh hd
   . cases hd
 . cases hd
theorem Hi(x:aa)(ty:TypeId)(v:Value):fU e.aU x ty v=fU e x ty v:=(rfl)
theorem Zq(hh:HS N h0 h){ty:TypeId}{d r:DV}(hd:iz e.aU h0 ty d=some r)(hn:dD r=true):iz e h ty (sh N d)=some (sh N r):=by
 have he:e.aU.elem ty=e.elem ty:=rfl;have hu:e.aU.under ty=e.under ty:=rfl;rw[gL hn];unfold iz at hd;rw[he,hu]at hd
 split at hd
 . simp only[mJ,iz,List.length_map]
   split at hd
   . exact hd
   . cases hd
 . rename_i a l c;have:∃a',sh N (.v (.slice a l c))=.v (.slice a' l c):=by cases a<;>exact⟨_,by simp only[bR,bU];rfl⟩
   obtain⟨a',ha⟩:=this;rw[ha]
   split at hd
   . rename_i s hs;simp only[iz,hs];exact hd
   . cases hd
 . simp only[bR,bU,iz];rw[<-Hi];exact hd
 . simp only[bR,bU,iz];rw[<-Hi];exact hd
 . rename_i b
   split at hd
   . rename_i k v es c au hg;simp only[bR,bU,iz,au,hh.mp hg,List.length_map];exact hd
   . cases hd
 . cases hd
theorem Zr{op:BinOp}{ty:TypeId}{x y:Operand}{a b r:DV}(ha:dD a=true)(hb:dD b=true)(hr:dD r=true)(hd:jK e.aU op ty x y a b=some r):jK e op ty x y (sh N a) (sh N b)=some (sh N r):=by
 rw[gL ha,gL hb,gL hr];exact hd
theorem ze{place:Nat->Option (Nat×Nat)}:∀{ps:List (Nat×DV)} {cs r:List DV},ko place cs ps=some r->ko place (cs.map (sh N)) (ps.map (xj N))=some (r.map (sh N))
 |[],cs,r,h=>by simp only[ko,Option.some.injEq]at h;subst h;rfl
 |(i,v)::ps,cs,r,h=>by
  simp only[ko]at h;simp only[List.map_cons,xj,ko]
  split at h
  . cases h
  . rename_i off size hp
    split at h
    . rename_i hc;have:=ze h;simp only[List.map_append,List.map_take,List.map_drop]at this;simp only[Cu,List.length_map,xi];rw[if_pos hc];exact this
    . cases h
def oM(e:Env)(ty:TypeId):Bool:=match e.zero ty with
 |some z=>z.cells.toList.all jq
 |none=>true
theorem Zs{ty:TypeId}{ps:List (Nat×DV)}{r:DV}(hz:oM e ty=true)(hd:eV e.aU ty ps=some r):eV e ty (ps.map (xj N))=some (sh N r):=by
 unfold eV at hd⊢;have h1:e.aU.zero=e.zero:=rfl;have h2:e.aU.under=e.under:=rfl;have h3:e.aU.size=e.size:=rfl;have h4:kH e.aU=kH e:=rfl;rw[h1,h2,h3,h4]at hd;unfold oM at hz
 split at hd
 . rename_i z fields g1 g2;rw[g1]at hz;simp only[Option.map_eq_some_iff]at hd⊢;obtain⟨cs,q1,rfl⟩:=hd;have:=ze (N:=N) q1;rw[uR hz]at this;exact⟨_,this,(ku _).symm⟩
 . rename_i z n elem g1 g2;rw[g1]at hz
   split at hd
   . cases hd
   . rename_i s hs;simp only[Option.map_eq_some_iff]at hd⊢;obtain⟨cs,q1,rfl⟩:=hd;have:=ze (N:=N) q1;rw[uR hz]at this;exact⟨_,this,(ku _).symm⟩
 . cases hd
theorem Zt{f:FuncId}{a c:Option (List DV)}{r:DV}(hd:oH f a c=some r):oH f (a.map λl=>l.map (sh N)) (c.map λl=>l.map (sh N))=some (sh N r):=by
 unfold oH at hd
 split at hd
 . cases hd;simp only[Option.map_some,oH,p8]
 . cases hd
theorem Hj{f:Option DV}{avs:Option (List DV)}{g:FuncId}{l:List DV}(hd:jM f avs=some (g,l)):jM (f.map (sh N)) (avs.map λl=>l.map (sh N))=some (g,l.map (sh N)):=by
 unfold jM at hd
 split at hd
 . cases hd;simp only[Option.map_some,p8,jM,List.map_append]
 . cases hd
theorem zf(ht:TS N t0 t){ops:List Oper}{o:Oper}{b:Bool}(hd:iS ops t0 o=some b):iS ops t o=some b:=by
 unfold iS at hd⊢
 split at hd
 . exact hd
 . split at hd
   . cases hd
   . rename_i j want _ d hj;rw[ht d]
     split at hd
     . rename_i hg;rw[hg];simp only[Option.map_some,bR,bU];exact hd
     . rename_i hg;rw[hg];simp only[Option.map_some,bR,bU];exact hd
     . rename_i hg;rw[hg];simp only[Option.map_some,jP];exact hd
     . cases hd
def isVal:Option DV->Bool
 |some (.v _)=>true
 |_=>false
def isStr:Option DV->Bool
 |some (.v (.string _))=>true
 |_=>false
def Cz:Option (Option DV)->Bool
 |some (some d)=>dD d
 |_=>true
def jQ(e:Env)(t:Tr DV)(op:Op)(r:DV):Bool:=match op with
 |.binOp _ _ x y _=>jr (aB e t x)&&jr (aB e t y)&&dD r
 |.unOp _ _ x=>jr (aB e t x)&&dD r
 |.makeInterface _ x=>jr (aB e t x)&&dD r
 |.convert s d x=>e.mD s d||(jr (aB e t x)&&dD r)
 |.slice _ x lo hi mx=> !isStr (aB e t x)||(dD r&&Cz (eM e t lo)&&Cz (eM e t hi)&&Cz (eM e t mx))
 |.index _ x i=>jr (aB e t i)&&(!isVal (aB e t x)||(jr (aB e t x)&&dD r))
 |.extract x _=> !isVal (aB e t x)||dD r
 |.lookup _ _ k _=>jr (aB e t k)
 |.build ty _=>oM e ty
 |.call c=>dD r&&match c.callee with
  |.builtin .len=>true
  |_=>match cO e t c.args.toList with|some l=>l.all dD|none=>true
 |_=>true
theorem Zu(hh:HS N h0 h)(ht:TS N t0 t){op:Op}{r:DV}(hg:jQ e.aU t0 op r=true)(hd:aT e.aU h0 t0 op=some r):aT e h t op=some (sh N r):=by
 cases op with
 |move x=>exact ee ht hd
 |assign x=>exact ee ht hd
 |pick c a b=>
  simp only[aT,ri]at hd⊢
  split at hd
  . rename_i hc;simp only[ee ht hc,bR,bU];exact ee ht hd
  . rename_i hc;simp only[ee ht hc,bR,bU];exact ee ht hd
  . cases hd
 |build ty parts=>
  obtain⟨ps,h1,h2⟩:=Option.bind_eq_some_iff.1 hd;simp only[aT,Cv ht h1,Option.bind_some];exact Zs (e:=e) hg h2
 |load ty a=>
  obtain⟨x,h1,h2⟩:=Option.bind_eq_some_iff.1 hd;simp only[aT,ee ht h1,Option.bind_some];exact Hb hh h2
 |nilCheck x=>
  obtain⟨x,h1,h2⟩:=Option.bind_eq_some_iff.1 hd;simp only[aT,ee ht h1,Option.bind_some];exact Zl h2
 |binOp o ty x y z=>
  simp only[aT,gK]at hd⊢
  split at hd
  . rename_i a b ha hb;simp only[jQ,ha,hb,jr,Bool.and_eq_true]at hg;simp only[ee ht ha,ee ht hb];exact Zr hg.1.1 hg.1.2 hg.2 hd
  . cases hd
 |unOp o ty x=>
  obtain⟨a,h1,h2⟩:=Option.bind_eq_some_iff.1 hd;simp only[jQ,h1,jr,Bool.and_eq_true]at hg;simp only[aT,ee ht h1,Option.bind_some,gL hg.1,gL hg.2];exact h2
 |convert s d x=>
  obtain⟨a,h1,h2⟩:=Option.bind_eq_some_iff.1 hd;simp only[jQ,h1,jr]at hg;simp only[aT,ee ht h1,Option.bind_some];exact Zm hh hg h2
 |makeInterface ty x=>
  obtain⟨a,h1,h2⟩:=Option.bind_eq_some_iff.1 hd;simp only[jQ,h1,jr,Bool.and_eq_true]at hg;simp only[aT,ee ht h1,Option.bind_some,gL hg.1,gL hg.2];exact h2
 |makeFunc fn first cap=>
  cases fn with
  |func f=>
   simp only[aT]at hd⊢;have key:=Zt (N:=N) hd;unfold oH at hd
   split at hd
   . rename_i a c ha hc;rw[ha,hc]at key;rw[oL ht ha,oL ht hc];exact key
   . cases hd
  |_=>cases hd
 |slice ty x lo hi mx=>
  simp only[aT]at hd⊢;obtain⟨a,ha⟩:∃y,aB e.aU t0 x=some y:=by
   cases hq:aB e.aU t0 x with
   |none=>rw[hq]at hd;unfold dX at hd;split at hd<;>simp_all
   |some y=>exact⟨y,rfl⟩
  rw[ha]at hd;obtain⟨l,hl⟩:∃y,eM e.aU t0 lo=some y:=by
   cases hq:eM e.aU t0 lo with
   |none=>rw[hq]at hd;unfold dX at hd;split at hd<;>simp_all
   |some y=>exact⟨y,rfl⟩
  rw[hl]at hd;obtain⟨m,hm⟩:∃y,eM e.aU t0 hi=some y:=by
   cases hq:eM e.aU t0 hi with
   |none=>rw[hq]at hd;unfold dX at hd;split at hd<;>simp_all
   |some y=>exact⟨y,rfl⟩
  rw[hm]at hd;obtain⟨n,hn⟩:∃y,eM e.aU t0 mx=some y:=by
   cases hq:eM e.aU t0 mx with
   |none=>rw[hq]at hd;unfold dX at hd;split at hd<;>simp_all
   |some y=>exact⟨y,rfl⟩
  rw[hn]at hd;rw[ee ht ha,Cw ht hl,Cw ht hm,Cw ht hn];refine Zo (e:=e) hh (x:=some a) (lo:=some l) (hi:=some m) (mx:=some n) (λs hs=> ?_) hd;cases hs;simp only[jQ,ha,hl,hm,hn,isStr,Bool.not_true,Bool.false_or,Bool.and_eq_true]at hg;refine⟨hg.1.1.1,λd hd=> ?_,λd hd=> ?_,λd hd=> ?_⟩
  . cases hd;exact hg.1.1.2
  . cases hd;exact hg.1.2
  . cases hd;exact hg.2
 |fieldAddr s x f=>
  obtain⟨a,h1,h2⟩:=Option.bind_eq_some_iff.1 hd;simp only[aT,ee ht h1,Option.bind_some];exact Zd h2
 |field ty x f=>
  obtain⟨a,h1,h2⟩:=Option.bind_eq_some_iff.1 hd;simp only[aT,ee ht h1,Option.bind_some];exact Ze h2
 |indexAddr ty x ix=>
  simp only[aT,gK]at hd⊢
  split at hd
  . rename_i a b ha hb;simp only[ee ht ha,ee ht hb];exact Zi hd
  . cases hd
 |index ty x ix=>
  simp only[aT,gK]at hd⊢
  split at hd
  . rename_i a b ha hb;simp only[jQ,ha,hb,jr,Bool.and_eq_true]at hg;simp only[ee ht ha,ee ht hb];refine Zj hg.1 (λx hx=> ?_) hd;subst hx;simpa[isVal]using hg.2
  . cases hd
 |lookup ty m k ok=>
  simp only[aT,gK]at hd⊢
  split at hd
  . rename_i a b ha hb;simp only[jQ,hb,jr]at hg;simp only[ee ht ha,ee ht hb];exact Zp hh hg hd
  . cases hd
 |extract x i=>
  obtain⟨a,h1,h2⟩:=Option.bind_eq_some_iff.1 hd;simp only[aT,ee ht h1,Option.bind_some];refine Zk h2 λx hx=> ?_;subst hx;simpa[jQ,h1,isVal]using hg
 |call c=>
  obtain⟨callee,args,aE⟩:=c;have hl:∀l:List DV,l.all dD=true->l.map (sh N)=l:=λl hl=>by
   simp only[List.all_eq_true]at hl;exact(List.map_congr_left λd hd=>gL (hl d hd)).trans (List.map_id' l)
  cases callee with
  |builtin b=>
   cases b with
   |len=>
    simp only[aT]at hd⊢;simp only[jQ,Bool.and_true]at hg;unfold pY at hd
    split at hd
    . rename_i x hx
      split at hd
      . cases hd
      . rename_i ty av;rw[oL ht hx];simp only[List.map_cons,List.map_nil,pY,av];exact Zq hh hd hg
    . cases hd
   |min=>
    simp only[aT]at hd⊢;obtain⟨vs,h1,h2⟩:=Option.bind_eq_some_iff.1 hd;obtain⟨l,h3,h4⟩:=Option.bind_eq_some_iff.1 h1;simp only[jQ,h3,Bool.and_eq_true]at hg;rw[oL ht h3,hl l hg.2,gL hg.1];simp only[Option.bind_some,h4];exact h2
   |max=>
    simp only[aT]at hd⊢;obtain⟨vs,h1,h2⟩:=Option.bind_eq_some_iff.1 hd;obtain⟨l,h3,h4⟩:=Option.bind_eq_some_iff.1 h1;simp only[jQ,h3,Bool.and_eq_true]at hg;rw[oL ht h3,hl l hg.2,gL hg.1];simp only[Option.bind_some,h4];exact h2
   |_=>cases hd
  |_=>cases hd
 |_=>cases hd
end Go.aw
end
noncomputable section
open Go Go.aw Go.Proofs
namespace Go.Sp
set_option maxRecDepth 100000
variable {aj:Bool}
theorem Io(g:ai)(p:Int)(b1:g.bd.length<=4096)(b2:∀l∈g.bd,l.ak.length<=4096):ax E aj 47 [.agg g.e,iV p] (bV (g.bd.any λl=>decide (p∈l.ak))):=by
 refine bc VR rfl Tryz.ntmps47 Tryz.results47 λN=> ?_;simp[go_sem,ai.e];refine cx (λj d=>∃k,j+k=g.bd.length/\d=⟨bQ [(1,iV p),(2,.v (.pointer (some ⟨N,0,none⟩))),(5,iV k)],36,[],cK (N+1) [(N,.row g.e true 0)]⟩/\∀l∈g.bd.take k,p∉l.ak) g.bd.length ⟨_,aA.mk rfl ?_ ?_,0,rfl,rfl,by simp⟩ ?_
 . simp[go_sem]
 . simp[go_sem,ai.e,mG]
 . rintro j _ ⟨k,hk,rfl,hp⟩;by_cases aa:k<g.bd.length
   . obtain⟨l,hl⟩:∃l,g.bd[k]? =some l:=⟨_,List.getElem?_eq_getElem aa⟩;have ad:=List.mem_of_getElem? hl;have ae:=b2 l ad;simp[go_sem,ai.e,aa,hl,-getElem?_pos];refine cx (λi d=>∃m,i+m=l.ak.length/\d=⟨bQ [(1,iV p),(2,.v (.pointer (some ⟨N,0,none⟩))),(5,iV k),(6,iV m)],36,[],cK (N+1) [(N,.row g.e true 0)]⟩/\p∉l.ak.take m) l.ak.length ⟨_,aA.mk rfl ?_ ?_,0,rfl,rfl,by simp⟩ ?_
     . simp[go_sem]
     . simp[go_sem,ai.e]
     . rintro i _ ⟨m,hm,rfl,hq⟩;by_cases ab:m<l.ak.length
       . obtain⟨x,hx⟩:∃x,l.ak[m]? =some x:=⟨_,List.getElem?_eq_getElem ab⟩;simp[go_sem,ai.e,dG.e,hl,ab,hx,-getElem?_pos];refine oJ.mk _ _ (λh=> ?_) (λh=> ?_)
         . have:∃l∈g.bd,p∈l.ak:=⟨l,ad,h▸List.mem_of_getElem? hx⟩;have e:(g.bd.any λl=>decide (p∈l.ak))=true:=by simpa using this
           rw[e];simp[go_sem]
         . simp(disch:=omega)[go_sem,aD,-getElem?_pos];refine⟨i-1,by omega,_,aA.mk rfl ?_ ?_,m+1,by omega,rfl, ?_⟩
           . simp[go_sem]
           . simp[go_sem,ai.e]
           . rw[List.take_add_one,hx];simp[hq];exactλe=>h e.symm
       . rw[List.take_of_length_le (by omega)]at hq;simp(disch:=omega)[go_sem,ai.e,dG.e,hl,ab,aD,-getElem?_pos];refine⟨j-1,by omega,_,aA.mk rfl ?_ ?_,k+1,by omega,rfl, ?_⟩
         . simp[go_sem]
         . simp[go_sem,ai.e]
         . rw[List.take_add_one,hl];simp only[List.mem_append,Option.mem_toList,Option.some.injEq];rintro l' (h|rfl)
           . exact hp l' h
           . exact hq
   . rw[List.take_of_length_le (by omega)]at hp;simp[go_sem,ai.e,aa];have:¬∃l∈g.bd,p∈l.ak:=λ⟨l,h1,h2⟩=>hp l h1 h2;have e:(g.bd.any λl=>decide (p∈l.ak))=false:=by simpa using this
     rw[e];exact .refl _
end Go.Sp
end
noncomputable section
open Go Go.aw Go.Proofs
namespace Go.Sp
theorem aas{h:ab}{ty:TypeId}{b n c s ah:Nat}{cs:List DV}{wr:Bool}{k:IntKind}{z:Int}(hs:E.elem ty=some s)(hg:h.get b=some (.row cs wr ah))(he:ah=0\/ah=s)(h0:0<=z)(h1:z<=c):
 dX E h ty (some (.v (.slice (some ⟨b,0,none⟩) n c))) (some none) (some (some (.v (.int k z)))) (some none)=some (.v (.slice (some ⟨b,0,none⟩) z.toNat c)):=by
 have h2:z.toNat<=c:=by omega
 simp[dX,fZ,gr,kl,dW,hs,hg,he,h0,h1,h2]
theorem Iu{h:ab}{ty:TypeId}{b n c s ah:Nat}{cs:List DV}{wr:Bool}{k:IntKind}{z:Int}{K:DV->Prop}(hs:E.elem ty=some s)(hg:h.get b=some (.row cs wr ah))(he:ah=0\/ah=s)(h0:0<=z)(h1:z<=c)(hk:K (.v (.slice (some ⟨b,0,none⟩) z.toNat c))):
 aG (dX E h ty (some (.v (.slice (some ⟨b,0,none⟩) n c))) (some none) (some (some (.v (.int k z)))) (some none)) K:=⟨_,aas hs hg he h0 h1,hk⟩
theorem aat{S:fA}{r n c k ah:Nat}{xs:List (List DV)}(hr:S r=some (xs.flatten,ah))(he:ah=0\/ah=k)(hk:0<k)(hn:n<=xs.length)(hc:n<=c)(hx:∀x∈xs,x.length=k):Fz S (.v (.slice (some ⟨r,0,none⟩) n c)) (.sl k (xs.take n)):=by
 have hl:(xs.take n).length=n:=by rw[List.length_take];omega
 refine .sl hr he hk hl.symm hc (λx h=>hx x (List.mem_of_mem_take h)) ?_ λj x i v d h1 h2 h3=> ?_
 . rw[hl,fQ hx,Nat.zero_add];exact Nat.mul_le_mul_right _ hn
 . have h4:xs[j]? =some x:=by
    rw[List.getElem?_take]at h1
    split at h1
    . exact h1
    . cases h1
   have:=th j i x d hx h4 h2;rw[Nat.zero_add,this]at h3;cases h3;exact .refl _
theorem Iv{S:fA}{α:Type}{r n c k ah:Nat}{f:α->List DV}{l:List α}(hk:0<k)(hn:n<=l.length)(hc:n<=c)(hx:∀x,(f x).length=k)(he:ah=0\/ah=k)(hr:S r=some ((l.map f).flatten,ah)):Fz S (.v (.slice (some ⟨r,0,none⟩) n c)) (.sl k ((l.take n).map f)):=by
 rw[List.map_take];exact aat hr he hk (by simpa using hn) hc (λx h=>by obtain⟨y,_,rfl⟩:=List.mem_map.1 h;exact hx y)
end Go.Sp
end

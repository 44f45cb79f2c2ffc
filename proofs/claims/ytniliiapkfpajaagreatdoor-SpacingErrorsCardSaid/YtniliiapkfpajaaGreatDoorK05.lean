/- Parts of a proof. -/
import Derived.Test.YtniliiapkfpajaaGreatDoorK04
open Option.some renaming injEq->oY
open Option renaming map_eq_some_iff->yx,bind_eq_some_iff->Fj,map_some->Yt,pure_def->afo,bind_eq_bind->afp,bind_some->afq,isSome_iff_exists->afs
open Prod.mk renaming injEq->Ey
open Nat renaming blt->HT,beq_refl->Q0,ble_eq_true_of_le->Rb,ble->YN,add_mul->adr,beq->afc,le_refl->afe,le_of_ble_eq_true->afl,lt_of_lt_of_le->afn,mul_le_mul_right->afr
open List renaming replicate->Rm,length_take->WZ,length_drop->Xt,getElem?_eq_getElem->afd,eq_nil_of_length_eq_zero->aff,getElem?_eq_some_iff->afg,mapM_cons->afh,getElem?_take->afi,getElem?_drop->afj,mem_cons_of_mem->afk,getElem?_map->afm,length_nil->aft,length_replicate->afu,getElem?_eq_none_iff->afv,mem_cons_self->afw
open Bool renaming and_self->UR
set_option linter.all false
set_option maxRecDepth 100000
noncomputable section
namespace Go.aD
inductive DV where
 |v (x:Value)
 |agg (l:List DV)
 |bf (l:List DV)
 |fn (f:FuncId) (a c:List DV)
 |sl (k:Nat) (xs:List (List DV))
 |ptr (xs:List DV) (off:Nat)
 deriving Inhabited
abbrev Rows:=Nat->Option (List Value×Nat)
inductive Rel(R:Rows):Value->DV->Prop
 |v (x:Value):Rel R x (.v x)
 |agg {a:Array Value} {l:List DV}:a.toList.length=l.length->(∀(i:Nat) (v:Value) (d:DV),a.toList[i]? =some v->l[i]? =some d->Rel R v d)->Rel R (.agg a) (.agg l)
 |bf {a:Array Value} {l:List DV}:a.toList.length=l.length->(∀(i:Nat) (v:Value) (d:DV),a.toList[i]? =some v->l[i]? =some d->Rel R v d)->Rel R (.tuple a) (.bf l)
 |fn {f:FuncId} {a c:Array Value} {a' c':List DV}:a.toList.length=a'.length->(∀(i:Nat) (v:Value) (d:DV),a.toList[i]? =some v->a'[i]? =some d->Rel R v d)->c.toList.length=c'.length->(∀(i:Nat) (v:Value) (d:DV),c.toList[i]? =some v->c'[i]? =some d->Rel R v d)->
  Rel R (.func (.func f) a c) (.fn f a' c')
 |jO {c k:Nat}:0<k->Rel R (.slice none 0 c) (.sl k [])
 |sl {b o c k ak:Nat} {cs:List Value} {xs:List (List DV)}:R b=some (cs,ak)->(ak=0\/ak=k)->0<k->xs.length<=c->(∀x∈xs,x.length=k)->o+xs.length*k<=cs.length->
  (∀(j:Nat) (x:List DV) (i:Nat) (v:Value) (d:DV),xs[j]? =some x->x[i]? =some d->cs[o+j*k+i]? =some v->Rel R v d)->Rel R (.slice (some ⟨b,o,none⟩) xs.length c) (.sl k xs)
 |ptr {b o off ak:Nat} {cs:List Value} {xs:List DV}:R b=some (cs,ak)->o+xs.length<=cs.length->(∀(i:Nat) (v:Value) (d:DV),xs[i]? =some d->cs[o+i]? =some v->Rel R v d)->Rel R (.pointer (some ⟨b,o+off,none⟩)) (.ptr xs off)
def Rel.mono{R R':Rows}(hR:∀i r,R i=some r->R' i=some r){v:Value}{d:DV}(h:Rel R v d):Rel R' v d:=by
 induction h with
 |v x=>exact .v x
 |agg h1 _ ih=>exact .agg h1 ih
 |bf h1 _ ih=>exact .bf h1 ih
 |fn h1 _ h3 _ af ai=>exact .fn h1 af h3 ai
 |jO h=>exact .jO h
 |sl h1 h2 h3 h4 h5 h6 _ ih=>exact .sl (hR _ _ h1) h2 h3 h4 h5 h6 ih
 |ptr h1 h2 _ ih=>exact .ptr (hR _ _ h1) h2 ih
abbrev cj(R:Rows):List Value->List DV->Prop:=aU (Rel R)
def qi{R:Rows}{a:List Value}{l:List DV}(h1:a.length=l.length)(h2:∀(i:Nat) (v:Value) (d:DV),a[i]? =some v->l[i]? =some d->Rel R v d):cj R a l:=aU.ri h1 h2
def cj.rR{R:Rows}{a:List Value}{l:List DV}(h:cj R a l){i:Nat}{v:Value}{d:DV}(h1:a[i]? =some v)(h2:l[i]? =some d):Rel R v d:=by
 obtain⟨d',h3,h4⟩:=h.get i v h1;rw[h2]at h3;cases h3;exact h4
def cj.AL{R:Rows}{a:List Value}{l:List DV}(h:cj R a l){i:Nat}{d:DV}(h2:l[i]? =some d):∃v,a[i]? =some v/\Rel R v d:=by
 have hl:=(afg.1 h2).1;have:i<a.length:=by rw[h.length];exact hl
 exact⟨_,afd this,h.rR (afd this) h2⟩
def Rel.dG{R:Rows}{a:List Value}{l:List DV}(h:cj R a l):Rel R (.agg a.toArray) (.agg l):=.agg (by simpa using h.length) λi v d h1 h2=>h.rR (by simpa using h1) h2
def Rel.jP{R:Rows}{a:List Value}{l:List DV}(h:cj R a l):Rel R (.tuple a.toArray) (.bf l):=.bf (by simpa using h.length) λi v d h1 h2=>h.rR (by simpa using h1) h2
def Rel.Rt{R:Rows}{f:FuncId}{a c:List Value}{a' c':List DV}(h:cj R a a')(h':cj R c c'):Rel R (.func (.func f) a.toArray c.toArray) (.fn f a' c'):=
 .fn (by simpa using h.length) (λi v d h1 h2=>h.rR (by simpa using h1) h2) (by simpa using h'.length) λi v d h1 h2=>h'.rR (by simpa using h1) h2
def Rel.cT{R:Rows}{v u:Value}(h:Rel R v (.v u)):v=u:=by cases h;rfl
def Rel.pY{R:Rows}{v:Value}{l:List DV}(h:Rel R v (.agg l)):∃a:Array Value,v=.agg a/\cj R a.toList l:=by
 cases h with|agg h1 h2=>exact⟨_,rfl,qi h1 h2⟩
def Rel.AM{R:Rows}{v:Value}{l:List DV}(h:Rel R v (.bf l)):∃a:Array Value,v=.tuple a/\cj R a.toList l:=by
 cases h with|bf h1 h2=>exact⟨_,rfl,qi h1 h2⟩
def Rel.vA{R:Rows}{v:Value}{f:FuncId}{a c:List DV}(h:Rel R v (.fn f a c)):∃a' c':Array Value,v=.func (.func f) a' c'/\cj R a'.toList a/\cj R c'.toList c:=by
 cases h with|fn h1 h2 h3 h4=>exact⟨_,_,rfl,qi h1 h2,qi h3 h4⟩
def cj.mono{R R':Rows}(hR:∀i r,R i=some r->R' i=some r){a:List Value}{l:List DV}(h:cj R a l):cj R' a l:=aU.mono h λ_ _=>Rel.mono hR
structure bG where
 key:Value
 val:DV
 born:Nat
inductive bJ where
 |row (cs:List DV) (wr:Bool) (ak:Nat)
 |map (es:List bG) (clock:Nat)
 |cC (m:Option Nat) (since:Nat) (seen:List Nat) (last:Nat)
 |eO (s:ByteArray) (pos:Nat)
structure iL(R:Rows)(x:MapEntry)(y:bG):Prop where
 key:x.key=y.key
 val:Rel R x.val y.val
 born:x.born=y.born
inductive iM(R:Rows):bR->bJ->Prop
 |row {cs:List Value} {ds:List DV} {wr:Bool} {ak:Nat}:cj R cs ds->iM R (.row cs wr ak) (.row ds wr ak)
 |map {es:List MapEntry} {ds:List bG} {clock:Nat}:aU (iL R) es ds->iM R (.map es clock) (.map ds clock)
 |cC {m:Option Nat} {since:Nat} {seen:List Nat} {last:Nat}:iM R (.cC m since seen last) (.cC m since seen last)
 |eO {s:ByteArray} {pos:Nat}:iM R (.eO s pos) (.eO s pos)
def iM.mono{R R':Rows}(hR:∀i r,R i=some r->R' i=some r){o:bR}{d:bJ}(h:iM R o d):iM R' o d:=by
 cases h with
 |row h=>exact .row (h.mono hR)
 |map h=>exact .map (aU.mono h λ_ _ ⟨a,b,c⟩=>⟨a,b.mono hR,c⟩)
 |cC=>exact .cC
 |eO=>exact .eO
structure ah where
 m:Tr bJ
 next:Nat
def ah.get(h:ah)(i:Nat):Option bJ:=h.m.get i
def ah.set(h:ah)(i:Nat)(o:Option bJ):ah:=⟨h.m.set i o,h.next⟩
def ah.new(h:ah)(o:bJ):ah:=⟨h.m.set h.next (some o),h.next+1⟩
def ah.none(N:Nat):ah:=⟨.nil,N⟩
def ah.up(h:ah)(N:Nat):ah:=⟨h.m,N⟩
def ah.bD(h:ah)(i j:Nat)(o:Option bJ):(h.set i o).get j=if j=i then o else h.get j:=Tr.bD _ _ _ _
def ah.cW(h:ah)(j:Nat)(o:bJ):(h.new o).get j=if j=h.next then some o else h.get j:=Tr.bD _ _ _ _
def ah.get_none(N i:Nat):(ah.none N).get i=Option.none:=Tr.get_nil _
theorem ah.qj(h:ah)(N i:Nat):(h.up N).get i=h.get i:=rfl
theorem ah.aW(h:ah)(i:Nat)(o:Option bJ):(h.set i o).next=h.next:=rfl
theorem ah.bb(h:ah)(o:bJ):(h.new o).next=h.next+1:=rfl
theorem ah.Fq(N:Nat):(ah.none N).next=N:=rfl
theorem ah.gR(h:ah)(N:Nat):(h.up N).next=N:=rfl
open Classical in
def aP(h:ab)(G:Nat->Prop):Rows:=λi=>if G i then match h.get i with|some (.row cs _ ak)=>some (cs,ak)|_=>none else none
def qk{h:ab}{G:Nat->Prop}{i:Nat}{r:List Value×Nat}(hf:aP h G i=some r):G i/\∃wr,h.get i=some (.row r.1 wr r.2):=by
 unfold aP at hf
 split at hf
 . rename_i hg;refine⟨hg, ?_⟩
   split at hf
   . rename_i cs wr ak he;cases hf;exact⟨wr,he⟩
   . cases hf
 . cases hf
def rS{h:ab}{G:Nat->Prop}{i:Nat}{cs:List Value}{wr:Bool}{ak:Nat}(hg:G i)(hh:h.get i=some (.row cs wr ak)):aP h G i=some (cs,ak):=by
 unfold aP;rw[if_pos hg,hh]
def iA{h h':ab}{G G':Nat->Prop}(hk:∀i,G i->G' i/\h'.get i=h.get i):∀i r,aP h G i=some r->aP h' G' i=some r:=λi r hf=>by
 obtain⟨h1,wr,h2⟩:=qk hf;obtain⟨h3,h4⟩:=hk i h1;exact rS h3 (h4.trans h2)
def Ru:List Int:=[0,1,56,2,57,49,28,3,61,58,42,50,38,29,17,4,62,47,59,36,45,43,51,22,53,39,33,30,24,18,12,5,63,55,48,27,60,41,37,16,46,35,44,21,52,32,23,11,54,26,40,15,34,20,31,10,25,14,19,9,13,8,7,6]
def jm:List Value:=Ru.map λn=>.int .u8 n
def ql:List DV:=jm.map .v
abbrev ez:Nat:=0
def oQ(R:Rows):Prop:=∃z,R ez=some (jm,z)
def oQ.mono{R R':Rows}(h:oQ R)(hR:∀i r,R i=some r->R' i=some r):oQ R':=let⟨z,hz⟩:=h;⟨z,hR _ _ hz⟩
def oQ.rel{R:Rows}(h:oQ R):Rel R (.pointer (some ⟨ez,0,none⟩)) (.ptr ql 0):=by
 obtain⟨z,hz⟩:=h;exact Rel.ptr (o:=0) (off:=0) hz (by simp[ql]) λi v d h1 h2=>by
  rw[Nat.zero_add]at h2;rw[ql,afm,h2]at h1;cases h1;exact .v v
structure bP(G:Nat->Prop)(h:ab)(d:ah):Prop where
 e9:oQ (aP h G)
 next:h.next=d.next
 obj:∀i o,d.get i=some o->i<h.next/\∃ao,h.get i=some ao/\iM (aP h G) ao o
 still:∀i,G i->i<h.next/\d.get i=none
structure Kp(G:Nat->Prop)(h:ab)(d:ah)(G':Nat->Prop)(h':ab)(d':ah):Prop where
 next:h.next<=h'.next
 same:∀i,i<h.next->d.get i=none->h'.get i=h.get i/\d'.get i=none
 up:∀i,G i->G' i
 bp:∀i,i<h.next->G' i->G i\/(d.get i).isSome=true
def Kp.refl(G:Nat->Prop)(h:ab)(d:ah):Kp G h d G h d:=⟨afe _,λ_ _ h=>⟨rfl,h⟩,λ_ h=>h,λ_ _ h=>.inl h⟩
def Kp.trans{G G' aa:Nat->Prop}{h h' ad:ab}{d d' ae:ah}(a:Kp G h d G' h' d')(b:Kp G' h' d' aa ad ae):Kp G h d aa ad ae where
 next:=Nat.le_trans a.next b.next
 same i hi hd:=by
  obtain⟨h1,h2⟩:=a.same i hi hd;obtain⟨h3,h4⟩:=b.same i (afn hi a.next) h2;exact⟨h3.trans h1,h4⟩
 up i hg:=b.up i (a.up i hg)
 bp i hi hg:=by
  rcases b.bp i (afn hi a.next) hg with h1|h1
  . exact a.bp i hi h1
  . cases hd:d.get i with
    |some o=>exact .inr rfl
    |none=>rw[(a.same i hi hd).2]at h1;cases h1
def Kp.aP{G G':Nat->Prop}{h h':ab}{d d':ah}(k:Kp G h d G' h' d')(x:bP G h d):∀i r,aP h G i=some r->aD.aP h' G' i=some r:=
 iA λi hg=>⟨k.up i hg,(k.same i (x.still i hg).1 (x.still i hg).2).1⟩
structure DS where
 t:Tr DV
 n:Nat
 dd:List FuncId
 h:ah
def rT(d:Deferred)(g:FuncId):Prop:=∃cap args,d={target:=.fn (.func g) cap,args}
structure SD(G:Nat->Prop)(s:aM)(d:DS):Prop where
 n:s.n=d.n
 t:∀i v,d.t.get i=some v->∃u,s.t.get i=some u/\Rel (aP s.h G) u v
 dd:aU rT s.ds d.dd
 h:bP G s.h d.h
def vB:DV->Option Value
 |.v v=>some v
 |_=>none
def exact:DV->Option Value
 |.v v=>some v
 |.agg l=>(l.mapM vB).map λl=>.agg l.toArray
 |_=>none
def Fs{R:Rows}:∀{a:List Value} {l:List DV} {u:List Value},cj R a l->l.mapM vB=some u->a=u
 |_,_,u,.nil,h=>by simp at h;exact h.symm
 |_,_,u,.cons (a:=v) (b:=d) (x:=x) (y:=y) h1 h2,h=>by
  cases d with
  |v w=>
   simp only[afh,vB,afo,afp,afq,Fj,oY]at h;obtain⟨r,h3,rfl⟩:=h;rw[h1.cT,Fs h2 h3]
  |_=>simp[afh,vB]at h
def oR{R:Rows}{v u:Value}{d:DV}(h:Rel R v d)(he:exact d=some u):v=u:=by
 cases d with
 |v w=>simp only[exact,oY]at he;rw[h.cT,he]
 |agg l=>
  obtain⟨a,rfl,h2⟩:=h.pY;simp only[exact,yx]at he;obtain⟨u',h3,rfl⟩:=he;have:=Fs h2 h3;rw[<-this]
 |_=>cases he
def cG:DV->List DV
 |.agg l=>l
 |d=>[d]
def AN{R:Rows}{v:Value}{d:DV}(h:Rel R v d)(ho:∀u,d=.v u->dF u=true):cj R v.cells.toList (cG d):=by
 have one:∀u:Value,dF u=true->u.cells=#[u]:=λu hu=>by cases u<;>first|rfl|cases hu
 cases h with
 |v v=>rw[one v (ho v rfl)];exact .cons (.v v) .nil
 |agg h1 h2=>exact qi h1 h2
 |bf h1 h2=>exact .cons (.bf h1 h2) .nil
 |fn h1 h2 h3 h4=>exact .cons (.fn h1 h2 h3 h4) .nil
 |jO h=>exact .cons (.jO h) .nil
 |sl h1 h2 h3 h4 h5 h6 h7=>exact .cons (.sl h1 h2 h3 h4 h5 h6 h7) .nil
 |ptr h1 h2 h3=>exact .cons (.ptr h1 h2 h3) .nil
def cD:DV->Bool
 |.v v=>dF v
 |.agg _=>false
 |.bf _=>false
 |_=>true
def Rv{R:Rows}{v:Value}{d:DV}(h:Rel R v d)(ho:cD d=true):dF v=true:=by
 cases h<;>first|rfl|exact ho|cases ho
def xU{R:Rows}:∀{a:List Value} {l:List DV},cj R a l->l.all cD=true->a.all dF=true
 |_,_,.nil,_=>rfl
 |_,_,.cons h1 h2,h=>by
  simp only[List.all_cons,Bool.and_eq_true]at h⊢;exact⟨Rv h1 h.1,xU h2 h.2⟩
end Go.aD
end
noncomputable section
namespace Go.aD
variable {e:Env} {G:Nat->Prop} {h:ab} {dh:ah} {t:Tr Value} {dt:Tr DV} {R:Rows}
structure TD(R:Rows)(t:Tr Value)(dt:Tr DV):Prop where
 tb:oQ R
 all:∀i v,dt.get i=some v->∃u,t.get i=some u/\Rel R u v
instance {R:Rows} {t:Tr Value} {dt:Tr DV}:CoeFun (TD R t dt) (λ_=>∀i v,dt.get i=some v->∃u,t.get i=some u/\Rel R u v):=⟨TD.all⟩
def SD.td{G:Nat->Prop}{s:aM}{d:DS}(q:SD G s d):TD (aP s.h G) s.t d.t:=⟨q.h.e9,q.t⟩
def fO:Value->DV
 |.agg cs=>.agg (cs.toList.map .v)
 |v=>.v v
def tI(l:List Value):cj R l (l.map .v):=qi aw λi v d h1 h2=>by
 rw[afm,h1]at h2;cases h2;exact .v v
def tJ(v:Value):Rel R v (fO v):=by
 cases v with
 |agg cs=>
  have:cj R cs.toList (cs.toList.map .v):=tI _;exact .agg this.length λi v d h1 h2=>this.rR h1 h2
 |_=>exact .v _
def aJ(e:Env)(t:Tr DV):Operand->Option DV
 |.tmp i=>t.get i
 |.const v=>bif plain v then some (fO v)else none
 |.global g=>bif HT g e.oq then(if g=ez then some (.ptr ql 0)else none)else none
 |.func f=>some (.fn f [] [])
def ff(ht:TD R t dt){o:Operand}{d:DV}(hd:aJ e dt o=some d):∃v,aE e t o=some v/\Rel R v d:=by
 cases o with
 |tmp i=>exact ht i d hd
 |const v=>
  simp only[aJ]at hd;obtain⟨hp,hd⟩:=cg hd;cases hd;exact⟨v,by simp[aE,hp],tJ v⟩
 |global g=>
  simp only[aJ]at hd;obtain⟨hp,hd⟩:=cg hd;by_cases hg:g=ez
  . rw[if_pos hg]at hd;simp only[oY]at hd;subst hd;exact⟨.pointer (some ⟨g,0,none⟩),by simp only[aE,hp,cond_true],by rw[hg];exact ht.tb.rel⟩
  . rw[if_neg hg]at hd;cases hd
 |func f=>
  simp only[aJ,oY]at hd;subst hd;exact⟨_,rfl,.fn rfl (λi v d h1 _=>by simp at h1) rfl (λi v d h1 _=>by simp at h1)⟩
def cM(e:Env)(t:Tr DV):List Operand->Option (List DV)
 |[]=>some []
 |o::r=>match aJ e t o with
  |none=>none
  |some v=>(cM e t r).map (v::·)
def mP(ht:TD R t dt):∀{l:List Operand} {ds:List DV},cM e dt l=some ds->∃vs,db e t l=some vs/\cj R vs ds
 |[],ds,h=>by simp only[cM,oY]at h;subst h;exact⟨[],rfl,.nil⟩
 |o::r,ds,h=>by
  simp only[cM]at h
  split at h
  . cases h
  . rename_i d hd;simp only[yx]at h;obtain⟨bd,h1,rfl⟩:=h;obtain⟨v,h2,h3⟩:=ff ht hd;obtain⟨vs,h4,h5⟩:=mP ht h1;exact⟨v::vs,by simp only[db,h2,h4],.cons h3 h5⟩
def fP(e:Env)(t:Tr DV):List (Nat×Operand)->Option (List (Nat×DV))
 |[]=>some []
 |(i,o)::r=>match aJ e t o with
  |none=>none
  |some v=>(fP e t r).map ((i,v)::·)
def AO(R:Rows)(x:Nat×Value)(y:Nat×DV):Prop:=x.1=y.1/\Rel R x.2 y.2
def AP(ht:TD R t dt):∀{l:List (Nat×Operand)} {ds:List (Nat×DV)},fP e dt l=some ds->∃vs,fx e t l=some vs/\aU (AO R) vs ds
 |[],ds,h=>by simp only[fP,oY]at h;subst h;exact⟨[],rfl,.nil⟩
 |(i,o)::r,ds,h=>by
  simp only[fP]at h
  split at h
  . cases h
  . rename_i d hd;simp only[yx]at h;obtain⟨bd,h1,rfl⟩:=h;obtain⟨v,h2,h3⟩:=ff ht hd;obtain⟨vs,h4,h5⟩:=AP ht h1;exact⟨(i,v)::vs,by simp only[fx,h2,h4],.cons ⟨rfl,h3⟩ h5⟩
def eJ(e:Env)(t:Tr DV):Option Operand->Option (Option DV)
 |none=>some none
 |some o=>(aJ e t o).map some
inductive lu(R:Rows):Option Value->Option DV->Prop
 |none:lu R none none
 |some {v:Value} {d:DV}:Rel R v d->lu R (some v) (some d)
def AQ(ht:TD R t dt){o:Option Operand}{d:Option DV}(hd:eJ e dt o=some d):∃v,iz e t o=some v/\lu R v d:=by
 cases o with
 |none=>simp only[eJ,oY]at hd;subst hd;exact⟨none,rfl,.none⟩
 |some o=>
  simp only[eJ,yx]at hd;obtain⟨d,h1,rfl⟩:=hd;obtain⟨v,h2,h3⟩:=ff ht h1;exact⟨some v,by simp[iz,h2],.some h3⟩
def vD{cs:List Value}{ds:List DV}(h:cj R cs ds)(o n:Nat):cj R ((cs.drop o).take n) ((ds.drop o).take n):=(aU.drop h o).take n
def fg:Option (Option Nat)->List DV->Nat->Option DV
 |some none,cs,o=>cs[o]?
 |some (some (n+1)),cs,o=>if o+(n+1)<=cs.length then some (.agg ((cs.drop o).take (n+1)))else none
 |_,_,_=>none
def Ft{ty:TypeId}{b o n:Nat}{cs:List Value}{wr:Bool}{ak:Nat}(hl:e.ld ty=some (some (n+1)))(hg:h.get b=some (.row cs wr ak))(ho:o+(n+1)<=cs.length):iq e h ty ⟨b,o,none⟩=some (.agg ((cs.drop o).take (n+1)).toArray):=by
 unfold Env.ld at hl;unfold iq;cases hu:e.under ty with
 |none=>simp[hu]at hl
 |some d=>
  simp only[hu]at hl⊢;cases hd:jH d with
  |true=>
   simp only[hd,cond_true]at hl⊢;cases hs:e.size ty with
   |none=>simp[hs]at hl
   |some m=>
    simp only[hs,oY]at hl;subst hl;have:((cs.drop o).take (n+1)).length=n+1:=by rw[WZ,Xt];omega
    simp only[fV,hg,this,Q0,cond_true]
  |false=>simp[hd]at hl
def Rw{ty:TypeId}{b o:Nat}{cs:List Value}{wr:Bool}{ak:Nat}{ds:List DV}{d:DV}(hd:fg (e.ld ty) ds o=some d)(hg:h.get b=some (.row cs wr ak))(hr:cj R cs ds):∃v,iq e h ty ⟨b,o,none⟩=some v/\Rel R v d:=by
 unfold fg at hd
 split at hd
 . rename_i hl;obtain⟨v,h1,h2⟩:=hr.AL hd;exact⟨v,by rw[Am hl,c8 hg,h1],h2⟩
 . rename_i n hl
   split at hd
   . rename_i ho;cases hd;exact⟨_,Ft hl hg (by rw[hr.length];exact ho),Rel.dG (vD hr _ _)⟩
   . cases hd
 . cases hd
def Rx{ty:TypeId}{b o off:Nat}{cs:List Value}{wr:Bool}{ak:Nat}{xs:List DV}{d:DV}(hd:fg (e.ld ty) xs off=some d)(hg:h.get b=some (.row cs wr ak))(h2:o+xs.length<=cs.length)
 (h3:∀(i:Nat) (v:Value) (d:DV),xs[i]? =some d->cs[o+i]? =some v->Rel R v d):∃v,iq e h ty ⟨b,o+off,none⟩=some v/\Rel R v d:=by
 cases hl:e.ld ty with
 |none=>simp[hl,fg]at hd
 |some l=>
  cases l with
  |none=>
   simp only[hl,fg]at hd;have aX:=(afg.1 hd).1;have:o+off<cs.length:=aa;refine⟨cs[o+off],by rw[Am hl,c8 hg,afd this],h3 off _ d hd (afd this)⟩
  |some m=>
   cases m with
   |zero=>simp[hl,fg]at hd
   |succ n=>
    simp only[hl,fg]at hd
    split at hd
    . rename_i ho;cases hd;refine⟨_,Ft hl hg aa,Rel.dG (qi (by simp only[WZ,Xt];omega) λi v d h4 h5=> ?_)⟩;rw[afi]at h4 h5
      split at h4
      . rw[if_pos (by assumption)]at h5;rw[afj]at h4 h5;exact h3 (off+i) v d h5 (by rw[<-h4];congr 1;omega)
      . cases h4
    . cases hd
def iN(e:Env)(dh:ah)(ty:TypeId):DV->Option DV
 |.v (.pointer (some ⟨b,o,none⟩))=>match dh.get b with|some (.row cs _ _)=>fg (e.ld ty) cs o|_=>none
 |.ptr xs off=>fg (e.ld ty) xs off
 |_=>none
def Fu(x:bP G h dh){ty:TypeId}{v:Value}{d d':DV}(hv:Rel (aP h G) v d)(hd:iN e dh ty d=some d'):∃v',mL e h ty v=some v'/\Rel (aP h G) v' d':=by
 unfold iN at hd
 split at hd
 . rename_i b o;have:=hv.cT;subst this
   split at hd
   . rename_i cs wr ak hg;obtain⟨_,ao,h1,h2⟩:=x.obj _ _ hg;cases h2 with|row h2=>exact Rw hd h1 h2
   . cases hd
 . rename_i xs off;cases hv with
   |ptr h1 h2 h3=>
    obtain⟨_,wr,h4⟩:=qk h1;exact Rx hd h4 h2 h3
 . cases hd
def kr(e:Env)(s f:Nat):DV->Option DV
 |.v (.pointer (some ⟨b,o,none⟩))=>(e.off s f).map λk=>.v (.pointer (some ⟨b,o+k,none⟩))
 |.ptr xs off=>(e.off s f).map λk=>.ptr xs (off+k)
 |_=>none
def Ry{s f:Nat}{v:Value}{d d':DV}(hv:Rel R v d)(hd:kr e s f d=some d'):∃v',rF e s f v=some v'/\Rel R v' d':=by
 unfold kr at hd
 split at hd
 . have:=hv.cT;subst this;simp only[yx]at hd;obtain⟨k,h1,rfl⟩:=hd;exact⟨_,by rw[Au,h1];rfl,.v _⟩
 . simp only[yx]at hd;obtain⟨k,h1,rfl⟩:=hd;cases hv with
   | @ptr b o off ak cs xs h2 h3 h4=>exact⟨_,by rw[Au,h1];rfl,by rw[Nat.add_assoc];exact .ptr h2 h3 h4⟩
 . cases hd
def ku:Option (Nat×Option Nat)->List DV->Option DV
 |some (o,none),l=>l[o]?
 |some (o,some n),l=>some (.agg ((l.drop o).take n))
 |none,_=>none
def Fv{ty:TypeId}{cs:List Value}{ds:List DV}{o:Nat}{d:DV}(hr:cj R cs ds)(hd:ku ((e.ld ty).map λl=>(o,l)) ds=some d):∃v,nt e ty cs o=some v/\Rel R v d:=by
 unfold Env.ld at hd;unfold nt;cases hu:e.under ty with
 |none=>simp[hu,ku]at hd
 |some td=>
  simp only[hu]at hd⊢;cases ha:jH td with
  |false=>
   simp only[ha,cond_false,Yt,ku]at hd⊢;exact hr.AL hd
  |true=>
   simp only[ha,cond_true]at hd⊢;cases hs:e.size ty with
   |none=>simp[hs,ku]at hd
   |some n=>
    simp only[hs,Yt,ku,oY]at hd⊢;subst hd;exact⟨_,rfl,Rel.dG (vD hr _ _)⟩
def qm(e:Env)(ty f:Nat):DV->Option DV
 |.agg l=>ku (e.part ty f) l
 |_=>none
def Rz{ty f:Nat}{v:Value}{d d':DV}(hv:Rel R v d)(hd:qm e ty f d=some d'):∃v',tC e ty f v=some v'/\Rel R v' d':=by
 unfold qm at hd
 split at hd
 . obtain⟨a,rfl,hr⟩:=hv.pY;unfold Env.part at hd;unfold tC
   split at hd
   . rename_i fields hu;simp only[hu];cases hf:fields[f]? with
     |none=>simp[hf,ku]at hd
     |some fd=>
      simp only[hf]at hd⊢;refine Fv hr ?_;cases hl:e.ld fd.type with
      |none=>simp[hl,ku]at hd
      |some l=>simpa[hl]using hd
   . simp[ku]at hd
 . cases hd
def fX:DV->Option Int
 |.v (.int _ i)=>some i
 |_=>none
def Fw{v:Value}{d:DV}{i:Int}(hv:Rel R v d)(hd:fX d=some i):intOf v=some i:=by
 unfold fX at hd
 split at hd
 . have:=hv.cT;subst this;exact hd
 . cases hd
def qn(i:Int)(xs:List (List DV)):Option DV:=if 0<=i then(xs[i.toNat]?).map λr=>.ptr r 0 else none
def iB(e:Env)(ty:TypeId):DV->Option Int->Option DV
 |.v (.slice (some ⟨b,o,none⟩) len _),some i=>(nL b o len i (e.elem ty)).map .v
 |.v (.pointer (some ⟨b,o,none⟩)),some i=>(nM b o i (e.arr ty)).map .v
 |.sl k xs,some i=>if e.elem ty=some k then qn i xs else none
 |.ptr xs off,some i=>match e.arr ty with|some (n,s)=>if 0<=i/\i<n then some (.ptr xs (off+i.toNat*s))else none|none=>none
 |_,_=>none
def RA{ty:TypeId}{v w:Value}{d c d':DV}(hv:Rel R v d)(hw:Rel R w c)(hd:iB e ty d (fX c)=some d'):∃v',oM e ty v w=some v'/\Rel R v' d':=by
 cases hi:fX c with
 |none=>rw[hi]at hd;unfold iB at hd;split at hd<;>simp_all
 |some i=>
  have aO:=Fw hw hi;rw[hi]at hd;have aA:∃k,w=.int k i:=by
   unfold intOf at aO
   split at aO
   . cases aO;exact⟨_,rfl⟩
   . cases aO
  obtain⟨kd,rfl⟩:=aA;unfold iB at hd
  split at hd
  . rename_i b o len c' i' he;cases he;have:=hv.cT;subst this;simp only[yx]at hd;obtain⟨u,h1,rfl⟩:=hd;exact⟨u,by rw[Ax,h1],.v _⟩
  . rename_i b o i' he;cases he;have:=hv.cT;subst this;simp only[yx]at hd;obtain⟨u,h1,rfl⟩:=hd;exact⟨u,by rw[Ay,h1],.v _⟩
  . rename_i s xs i' he;cases he
    split at hd
    . rename_i hs;unfold qn at hd
      split at hd
      . rename_i h0;simp only[yx]at hd;obtain⟨r,hr,rfl⟩:=hd;have aX:=(afg.1 hr).1;cases hv with
        |jO _=>simp at hr
        | @sl b o cp _ ak cs _ h1 h2 h3 h4 h5 h6 h7=>
         refine⟨_,by rw[Ax,hs,tG _ _ _ _ _ h0 aa], ?_⟩;have hm:(i.toNat+1)*s<=xs.length*s:=afr _ aX;rw[adr,Nat.one_mul]at hm;have bg:r.length=s:=h5 r (List.mem_of_getElem? hr);have:=Rel.ptr (R:=R) (b:=b) (o:=o+i.toNat*s) (off:=0) (xs:=r) h1 (by rw[bg];omega) λj v d h8 h9=>h7 i.toNat r j v d hr h8 h9;exact this
      . cases hd
    . cases hd
  . rename_i xs off i' he;cases he
    split at hd
    . rename_i n s hs
      split at hd
      . rename_i h0;cases hd;cases hv with
        | @ptr b o _ ak cs _ h2 h3 h4=>exact⟨_,by rw[Ay,hs,dT _ _ _ _ _ h0.1 h0.2],by rw[Nat.add_assoc];exact .ptr h2 h3 h4⟩
      . cases hd
    . cases hd
  . cases hd
def Env.AS(e:Env)(ty:TypeId):Option (Nat×Nat×Option Nat):=
 match e.under ty with
 |some (.array n el)=>match e.size el,e.ld el with|some s,some l=>some (n,s,l)|_,_=>none
 |_=>none
def mQ(e:Env)(ty:TypeId):DV->DV->Option DV
 |.agg l,.v (.int _ i)=>match e.AS ty with|some (n,s,ld)=>if 0<=i/\i<n then ku (some (i.toNat*s,ld)) l else none|none=>none
 |.v x,.v y=>(oN e ty x y).map .v
 |_,_=>none
def RB{ty:TypeId}{v w:Value}{d c d':DV}(hv:Rel R v d)(hw:Rel R w c)(hd:mQ e ty d c=some d'):∃v',oN e ty v w=some v'/\Rel R v' d':=by
 unfold mQ at hd
 split at hd
 . rename_i l k i;obtain⟨a,rfl,hr⟩:=hv.pY;have:=hw.cT;subst this
   split at hd
   . rename_i n s ld hp
     split at hd
     . rename_i h0;unfold Env.AS at hp
       split at hp
       . rename_i n' el hu
         split at hp
         . rename_i s' l' h1 h2;cases hp;simp only[oN,hu,h1,h0.1,h0.2,decide_true,UR,cond_true];exact Fv hr (by rw[h2];exact hd)
         . cases hp
       . cases hp
     . cases hd
   . cases hd
 . have:=hv.cT;subst this;have:=hw.cT;subst this;simp only[yx]at hd;obtain⟨u,h1,rfl⟩:=hd;exact⟨u,h1,.v u⟩
 . cases hd
def ma(i:Nat):DV->Option DV
 |.bf l=>l[i]?
 |.v (.tuple vs)=>(vs[i]?).map .v
 |_=>none
def RC{i:Nat}{v:Value}{d d':DV}(hv:Rel R v d)(hd:ma i d=some d'):∃v',rH i v=some v'/\Rel R v' d':=by
 unfold ma at hd
 split at hd
 . obtain⟨a,rfl,hr⟩:=hv.AM;obtain⟨u,h1,h2⟩:=hr.AL hd;exact⟨u,by simpa[rH]using h1,h2⟩
 . have:=hv.cT;subst this;simp only[yx]at hd;obtain⟨u,h1,rfl⟩:=hd;exact⟨u,h1,.v u⟩
 . cases hd
def kR:DV->Option DV
 |.v (.pointer (some a))=>some (.v (.pointer (some a)))
 |.ptr xs off=>some (.ptr xs off)
 |.fn f a c=>some (.fn f a c)
 |_=>none
def RE{v:Value}{d d':DV}(hv:Rel R v d)(hd:kR d=some d'):∃v',rG v=some v'/\Rel R v' d':=by
 unfold kR at hd
 split at hd
 . have:=hv.cT;subst this;cases hd;exact⟨_,rfl,.v _⟩
 . cases hd;cases hv with
   |ptr h1 h2 h3=>exact⟨_,rfl,.ptr h1 h2 h3⟩
 . cases hd;cases hv with
   |fn h1 h2 h3 h4=>exact⟨_,rfl,.fn h1 h2 h3 h4⟩
 . cases hd
def fY{α:Type}(f:DV->DV->Option α):Option DV->Option DV->Option α
 |some a,some b=>f a b
 |_,_=>none
def iC(e:Env)(op:BinOp)(ty:TypeId)(x y:Operand)(a b:DV):Option DV:=match exact a,exact b with
 |some u,some w=>(cL e op ty x y u w).map .v
 |_,_=>none
def RF{op:BinOp}{ty:TypeId}{x y:Operand}{v w:Value}{a b d:DV}(hv:Rel R v a)(hw:Rel R w b)(hd:iC e op ty x y a b=some d):∃u,cL e op ty x y v w=some u/\Rel R u d:=by
 unfold iC at hd
 split at hd
 . rename_i u w' h1 h2;rw[oR hv h1,oR hw h2];simp only[yx]at hd;obtain⟨r,h3,rfl⟩:=hd;exact⟨r,h3,.v r⟩
 . cases hd
def lx(f:Value->Option Value)(d:DV):Option DV:=match exact d with
 |some v=>(f v).map .v
 |none=>none
def AT{f:Value->Option Value}{v:Value}{d d':DV}(hv:Rel R v d)(hd:lx f d=some d'):∃v',f v=some v'/\Rel R v' d':=by
 unfold lx at hd
 split at hd
 . rename_i u h1;rw[oR hv h1];simp only[yx]at hd;obtain⟨r,h3,rfl⟩:=hd;exact⟨r,h3,.v r⟩
 . cases hd
def Fx{vs:List Value}:∀{ds:List DV} {us:List Value},cj R vs ds->ds.mapM exact=some us->vs=us:=by
 induction vs with
 |nil=>intro ds us h1 h2;cases h1;simp at h2;exact h2.symm
 |cons v vs ih=>
  intro ds us h1 h2;cases h1 with
  |cons h3 h4=>
   simp only[afh,afo,afp,Fj,oY]at h2;obtain⟨u,h5,bw,h6,rfl⟩:=h2;rw[oR h3 h5,ih h4 h6]
def fp(e:Env)(dh:ah)(ty:TypeId):DV->Option DV
 |.sl _ xs=>match e.elem ty with|some _=>some (.v (.int .i64 xs.length))|none=>none
 |.v (.slice a l c)=>match e.elem ty with|some _=>some (.v (.int .i64 l))|none=>none
 |.v (.string s)=>(fK e ⟨.nil,0⟩ ty (.string s)).map .v
 |.v (.map none)=>(fK e ⟨.nil,0⟩ ty (.map none)).map .v
 |.v (.map (some r))=>match e.under ty,dh.get r with|some (.map _ _),some (.map es _)=>some (.v (.int .i64 es.length))|_,_=>none
 |_=>none
def RG(x:bP G h dh){ty:TypeId}{v:Value}{d d':DV}(hv:Rel (aP h G) v d)(hd:fp e dh ty d=some d'):∃v',fK e h ty v=some v'/\Rel (aP h G) v' d':=by
 unfold fp at hd
 split at hd
 . split at hd
   . rename_i s hs;cases hd;cases hv with
     |jO _=>exact⟨_,by rw[xG,hs];rfl,.v _⟩
     |sl h1 h2 h3 h4 h5 h6 h7=>exact⟨_,by rw[xG,hs];rfl,.v _⟩
   . cases hd
 . have:=hv.cT;subst this
   split at hd
   . rename_i s hs;cases hd;exact⟨_,by rw[xG,hs];rfl,.v _⟩
   . cases hd
 . have:=hv.cT;subst this;simp only[yx]at hd;obtain⟨u,h1,rfl⟩:=hd;refine⟨u, ?_,.v u⟩;rw[<-h1];unfold fK;split<;>first|rfl|contradiction|(simp_all;done)
 . have:=hv.cT;subst this;simp only[yx]at hd;obtain⟨u,h1,rfl⟩:=hd;refine⟨u, ?_,.v u⟩;rw[<-h1];unfold fK;split<;>first|rfl|contradiction|(simp_all;done)
 . have:=hv.cT;subst this
   split at hd
   . rename_i r k v es clock hu hg;cases hd;obtain⟨_,ao,h1,h2⟩:=x.obj _ _ hg;cases h2 with
     |map h2=>exact⟨_,by simp only[fK,hu,h1,h2.length],.v _⟩
   . cases hd
 . cases hd
def fQ:Option DV->Option (Option Int)
 |none=>some none
 |some d=>(fX d).map some
def dU(i:Option Int)(ae af:Nat):Option Nat:=match i with
 |none=>some af
 |some i=>if 0<=i/\i<=ae then some i.toNat else none
def AU{v:Option Value}{d:Option DV}{i:Option Int}(hr:lu R v d)(hd:fQ d=some i)(ae af:Nat):ew v ae af=dU i ae af:=by
 cases hr with
 |none=>simp only[fQ,oY]at hd;subst hd;rfl
 |some h=>
  simp only[fQ,yx]at hd;obtain⟨i,h1,rfl⟩:=hd;simp only[ew,Fw h h1,dU];by_cases h0:0<=i<;>by_cases h1:i<=(ae:Int)<;>simp[h0,h1]
def jQ(e:Env)(dh:ah)(ty:TypeId)(x:DV)(lo hi mx:Option Int):Option DV:=
 match x,e.elem ty with
 |.sl k xs,some s=>match dU mx xs.length xs.length with
  |some m=>match dU hi m xs.length with
   |some h=>match dU lo h 0 with
    |some l=>if h<=m/\(mx.isNone=true\/hi.isSome=true)/\k=s then some (.sl k ((xs.drop l).take (h-l)))else none
    |none=>none
   |none=>none
  |none=>none
 |.v (.slice none len cap),some _=>match dU mx cap cap with
  |some m=>match dU hi m len with
   |some h=>match dU lo h 0 with
    |some l=>if h<=m/\(mx.isNone=true\/hi.isSome=true)then some (.v (.slice none (h-l) (m-l)))else none
    |none=>none
   |none=>none
  |none=>none
 |.v (.slice (some ⟨b,o,none⟩) len cap),some s=>match dh.get b,dU mx cap cap with
  |some (.row _ _ ak),some m=>match dU hi m len with
   |some h=>match dU lo h 0 with
    |some l=>if h<=m/\(mx.isNone=true\/hi.isSome=true)/\(ak=0\/ak=s)then some (.v (.slice (some ⟨b,o+l*s,none⟩) (h-l) (m-l)))else none
    |none=>none
   |none=>none
  |_,_=>none
 |_,_=>none
def qo:Option DV->Option (Option Value)
 |none=>some none
 |some d=>(exact d).map some
def xV(e:Env)(ty:TypeId)(s:ByteArray)(lo hi mx:Option DV):Option DV:=
 match e.under ty,qo lo,qo hi,qo mx with
 |some .string,some lo,some hi,some mx=>(jI e ⟨.nil,0⟩ ty (.string s) lo hi mx).map .v
 |_,_,_,_=>none
def ed(e:Env)(dh:ah)(ty:TypeId):Option DV->Option (Option DV)->Option (Option DV)->Option (Option DV)->Option DV
 |some (.v (.string s)),some lo,some hi,some mx=>xV e ty s lo hi mx
 |some x,some lo,some hi,some mx=>match fQ lo,fQ hi,fQ mx with|some lo,some hi,some mx=>jQ e dh ty x lo hi mx|_,_,_=>none
 |_,_,_,_=>none
def RH{v:Option Value}{d:Option DV}{i:Option Int}(hr:lu R v d)(hd:fQ d=some i):v.isNone=i.isNone:=by
 cases hr with
 |none=>simp only[fQ,oY]at hd;subst hd;rfl
 |some h=>simp only[fQ,yx]at hd;obtain⟨i,_,rfl⟩:=hd;rfl
def RI{v:Option Value}{d:Option DV}{i:Option Int}(hr:lu R v d)(hd:fQ d=some i):v.isSome=i.isSome:=by
 cases hr with
 |none=>simp only[fQ,oY]at hd;subst hd;rfl
 |some h=>simp only[fQ,yx]at hd;obtain⟨i,_,rfl⟩:=hd;rfl
def Fy{ty s:Nat}(h:e.elem ty=some s):∃el,e.under ty=some (.slice el)/\e.size el=some s:=by
 unfold Env.elem at h
 split at h
 . rename_i el hu;exact⟨el,hu,h⟩
 . cases h
def FA{i:Option Int}{m k n:Nat}(h:dU i m k=some n)(hk:k<=m):n<=m:=by
 unfold dU at h
 split at h
 . cases h;exact hk
 . split at h
   . rename_i hc;cases h;omega
   . cases h
def FB{ai aj:Option Int}{n cap m hh:Nat}(hm:dU ai n n=some m)(an:dU aj m n=some hh)(hle:hh<=m)(hc:n<=cap):∃m',dU ai cap cap=some m'/\hh<=m'/\dU aj m' n=some hh:=by
 cases ai with
 |none=>
  simp only[dU,oY]at hm;subst hm;refine⟨cap,rfl,aa, ?_⟩;cases aj with
  |none=>exact an
  |some i=>
   simp only[dU]at an⊢
   split at an
   . rename_i aC;rw[if_pos ⟨aC.1,aa⟩];exact an
   . cases an
 |some i=>
  simp only[dU]at hm
  split at hm
  . rename_i aC;cases hm;exact⟨i.toNat,by simp only[dU];rw[if_pos ⟨aC.1,aa⟩],hle,an⟩
  . cases hm
def xW{ty s:Nat}{base:Option Addr}{len cap m hh l:Nat}{lo hi mx:Option Value}(hs:e.elem ty=some s)(q1:ew mx cap cap=some m)(q2:ew hi m len=some hh)(q3:ew lo hh 0=some l)(q4:hh<=m)(q5:(mx.isNone||hi.isSome)=true):
 jI e h ty (.slice base len cap) lo hi mx=match base with|none=>some (.slice none (hh-l) (m-l))|some a=>bif mC h a s then some (.slice (some (a.add (l*s))) (hh-l) (m-l))else none:=by
 obtain⟨el,hu,bk⟩:=Fy hs;simp only[jI,hu,bk,q1,q2,Rb q4,q5,UR,cond_true,q3];cases base<;>rfl
def RJ(x:bP G h dh){ty:TypeId}{v:Value}{d d':DV}{lo hi mx:Option Value}{aG aH aK:Option DV}{aY aj ai:Option Int}(hv:Rel (aP h G) v d)(r1:lu (aP h G) lo aG)(r2:lu (aP h G) hi aH)(r3:lu (aP h G) mx aK)
 (b1:fQ aG=some aY) (b2:fQ aH=some aj) (b3:fQ aK=some ai) (hd:jQ e dh ty d aY aj ai=some d'):∃v',jI e h ty v lo hi mx=some v'/\Rel (aP h G) v' d':=by
 have ad:(ai.isNone=true\/aj.isSome=true)->(mx.isNone||hi.isSome)=true:=λhc=>by rw[RH r3 b3,RI r2 b2];rcases hc with h|h<;>simp[h]
 have k1:=λm d=>AU r1 b1 m d;have k2:=λm d=>AU r2 b2 m d;have k3:=λm d=>AU r3 b3 m d;unfold jQ at hd
 split at hd
 . rename_i k xs s hs
   split at hd
   . rename_i m hm
     split at hd
     . rename_i hh av
       split at hd
       . rename_i l hl
         split at hd
         . rename_i hc;cases hd;obtain⟨ba,bb,rfl⟩:=hc;have aR:m<=xs.length:=FA hm (afe _);have bl:l<=hh:=FA hl (Nat.zero_le _);cases hv with
           | @jO c _ hk=>
            obtain⟨m',q1,q2,q3⟩:=FB hm av ba (cap:=c) (Nat.zero_le _);have hz:hh-l=0:=by simp at aR;omega
            refine⟨_,xW hs ((k3 _ _).trans q1) ((k2 _ _).trans q3) ((k1 _ _).trans hl) q2 (ad bb), ?_⟩;simp only[hz,List.drop_nil,List.take_nil];exact .jO hk
           | @sl b o c _ ak cs _ h1 h2 h3 h4 h5 h6 h7=>
            obtain⟨m',q1,q2,q3⟩:=FB hm av ba h4;obtain⟨_,wr,hg⟩:=qk h1;have aS:mC h ⟨b,o,none⟩ k=true:=by
             rcases h2 with h2|h2<;>simp[mC,hg,h2]
            refine⟨_,by rw[xW hs ((k3 _ _).trans q1) ((k2 _ _).trans q3) ((k1 _ _).trans hl) q2 (ad bb)];simp only[aS,cond_true];rfl, ?_⟩;rw[rO];have hlen:((xs.drop l).take (hh-l)).length=hh-l:=by rw[WZ,Xt];omega
            have hmul:(l+(hh-l))*k<=xs.length*k:=afr _ aa;rw[adr]at hmul;have:=Rel.sl (R:=aP h G) (b:=b) (o:=o+l*k) (c:=m'-l) (xs:=(xs.drop l).take (hh-l)) h1 h2 h3 (by rw[hlen];omega) (λy hy=>h5 y (List.mem_of_mem_drop (List.mem_of_mem_take hy))) (by rw[hlen];omega) λj y i v d e1 e2 e3=>by
             rw[afi]at e1
             split at e1
             . rw[afj]at e1;refine h7 (l+j) y i v d e1 e2 ?_;rw[<-e3];congr 1;rw[adr];omega
             . cases e1
            rwa[hlen]at this
         . cases hd
       . cases hd
     . cases hd
   . cases hd
 . rename_i len cap s hs;have:=hv.cT;subst this
   split at hd
   . rename_i m hm
     split at hd
     . rename_i hh av
       split at hd
       . rename_i l hl
         split at hd
         . rename_i hc;cases hd;exact⟨_,xW hs ((k3 _ _).trans hm) ((k2 _ _).trans av) ((k1 _ _).trans hl) hc.1 (ad hc.2),.v _⟩
         . cases hd
       . cases hd
     . cases hd
   . cases hd
 . rename_i b o len cap s hs;have:=hv.cT;subst this
   split at hd
   . rename_i cs wr ak m hg hm
     split at hd
     . rename_i hh av
       split at hd
       . rename_i l hl
         split at hd
         . rename_i hc;cases hd;obtain⟨_,ao,g1,g2⟩:=x.obj _ _ hg;cases g2 with
           |row g2=>
            have aS:mC h ⟨b,o,none⟩ s=true:=by
             rcases hc.2.2 with h2|h2<;>simp[mC,g1,h2]
            refine⟨_,by rw[xW hs ((k3 _ _).trans hm) ((k2 _ _).trans av) ((k1 _ _).trans hl) hc.1 (ad hc.2.1)];simp only[aS,cond_true,rO],.v _⟩
         . cases hd
       . cases hd
     . cases hd
   . cases hd
 . cases hd
def AV{v:Option Value}{d:Option DV}{u:Option Value}(hr:lu R v d)(hd:qo d=some u):v=u:=by
 cases hr with
 |none=>simpa[qo]using hd
 |some h=>
  simp only[qo,yx]at hd;obtain⟨w,h1,rfl⟩:=hd;rw[oR h h1]
def RK(x:bP G h dh){ty:TypeId}{v:Option Value}{dv:Option DV}{lo hi mx:Option (Option Value)}{aG aH aK:Option (Option DV)}{d':DV}(hv:∀d,dv=some d->∃u,v=some u/\Rel (aP h G) u d)
 (r1:∀d,aG=some d->∃u,lo=some u/\lu (aP h G) u d) (r2:∀d,aH=some d->∃u,hi=some u/\lu (aP h G) u d) (r3:∀d,aK=some d->∃u,mx=some u/\lu (aP h G) u d)
 (hd:ed e dh ty dv aG aH aK=some d'):∃v',tD e h ty v lo hi mx=some v'/\Rel (aP h G) v' d':=by
 unfold ed at hd
 split at hd
 . rename_i s bm aC bn;obtain⟨u,rfl,h1⟩:=hv _ rfl;obtain⟨u1,rfl,g1⟩:=r1 _ rfl;obtain⟨u2,rfl,g2⟩:=r2 _ rfl;obtain⟨u3,rfl,g3⟩:=r3 _ rfl;have:=h1.cT;subst this;unfold xV at hd
   split at hd
   . rename_i a b c hu e1 e2 e3;rw[AV g1 e1,AV g2 e2,AV g3 e3];simp only[yx]at hd;obtain⟨w,h3,rfl⟩:=hd;refine⟨w, ?_,.v w⟩;rw[<-h3];simp only[tD,jI,hu]
   . cases hd
 . rename_i x' bm aC bn _;obtain⟨u,rfl,h1⟩:=hv _ rfl;obtain⟨u1,rfl,g1⟩:=r1 _ rfl;obtain⟨u2,rfl,g2⟩:=r2 _ rfl;obtain⟨u3,rfl,g3⟩:=r3 _ rfl
   split at hd
   . rename_i e1 e2 e3;exact RJ x h1 g1 g2 g3 e1 e2 e3 hd
   . cases hd
 . cases hd
def findD(P:Program)(kt:TypeId)(k:Value):List bG->Option (Option DV)
 |[]=>some none
 |x::es=>match kg P kt k x.key with
  |none=>none
  |some true=>some (some x.val)
  |some false=>findD P kt k es
def AW{P:Program}{kt:TypeId}{k:Value}:∀{es:List MapEntry} {ds:List bG} {r:Option DV} (i:Nat),aU (iL R) es ds->findD P kt k ds=some r->∃r',gr P kt k es i=some r'/\(match r,r' with|none,none=>True|some d,some (_,v)=>Rel R v d|_,_=>False)
 |[],[],r,i,.nil,h=>by simp only[findD,oY]at h;subst h;exact⟨none,rfl,trivial⟩
 |x::es,y::ds,r,i,.cons h1 h2,h=>by
  simp only[findD]at h;simp only[gr,h1.key]
  split at h
  . cases h
  . rename_i hk;cases h;exact⟨_,by rw[hk],h1.val⟩
  . rename_i hk;simp only[hk];exact AW (i+1) h2 h
def ly(e:Env)(ty:TypeId)(ok:Bool)(k:Value)(es:List bG):Option DV:=
 match e.under ty with
 |some (.map kt et)=>match e.under kt with
  |none=>none
  |some kd=>if plain k=true/\nu kd k=true/\(b8 e.P (Instr.checkKey es.isEmpty 10000 kt k)).isSome=true then match findD e.P kt k es with
   |none=>none
   |some (some d)=>some (bif ok then .bf [d,.v (.bool true)]else d)
   |some none=>match e.zero et with
    |none=>none
    |some z=>if plain z=true then some (bif ok then .bf [fO z,.v (.bool false)]else fO z)else none
   else none
 |_=>none
def kS(e:Env)(dh:ah)(ty:TypeId)(ok:Bool)(m k:DV):Option DV:=
 match m,exact k with
 |.v (.map none),some k=>ly e ty ok k []
 |.v (.map (some r)),some k=>match dh.get r with|some (.map es _)=>ly e ty ok k es|_=>none
 |_,_=>none
def lookup_nil(ty:TypeId)(ok:Bool)(k:Value):nJ e h ty ok (.map none) k=mN e ty ok k (some (.map [] 0)):=by
 simp only[nJ,pS,mN];cases hu:e.under ty with
 |none=>rfl
 |some d=>cases d<;>rfl
def FC{ty:TypeId}{ok:Bool}{k:Value}{es:List MapEntry}{ds:List bG}{d:DV}{clock:Nat}(hr:aU (iL R) es ds)(hd:ly e ty ok k ds=some d):
 ∃v,mN e ty ok k (some (.map es clock))=some v/\Rel R v d:=by
 unfold ly at hd
 split at hd
 . rename_i kt et hu
   split at hd
   . cases hd
   . rename_i kd hk
     split at hd
     . rename_i hc;obtain⟨c1,c2,c3⟩:=hc;have aT:ds.isEmpty=es.isEmpty:=by cases hr<;>rfl
       rw[aT]at c3;obtain⟨u,bo⟩:=afs.1 c3;simp only[mN,hu,hk,c1,c2,UR,cond_true,bo]
       split at hd
       . cases hd
       . rename_i d' hf;obtain⟨r',h1,h2⟩:=AW 0 hr hf;cases r' with
         |none=>exact h2.elim
         |some p=>
          obtain⟨i,v⟩:=p;simp only[h1];cases hd;cases ok with
          |true=>exact⟨_,rfl,Rel.jP (a:=[v,.bool true]) (.cons h2 (.cons (.v _) .nil))⟩
          |false=>exact⟨_,rfl,h2⟩
       . rename_i hf;obtain⟨r',h1,h2⟩:=AW 0 hr hf;cases r' with
         |some p=>exact h2.elim
         |none=>
          simp only[h1]
          split at hd
          . cases hd
          . rename_i z hz
            split at hd
            . rename_i hp;cases hd;simp only[hz,hp,cond_true];cases ok with
              |true=>exact⟨_,rfl,Rel.jP (a:=[z,.bool false]) (.cons (tJ z) (.cons (.v _) .nil))⟩
              |false=>exact⟨_,rfl,tJ z⟩
            . cases hd
     . cases hd
 . cases hd
def RL(x:bP G h dh){ty:TypeId}{ok:Bool}{v w:Value}{m k d:DV}(hv:Rel (aP h G) v m)(hw:Rel (aP h G) w k)(hd:kS e dh ty ok m k=some d):∃u,nJ e h ty ok v w=some u/\Rel (aP h G) u d:=by
 unfold kS at hd
 split at hd
 . rename_i k' hk;have:=hv.cT;subst this;rw[oR hw hk];rw[lookup_nil];exact FC .nil hd
 . rename_i r k' hk;have:=hv.cT;subst this;rw[oR hw hk]
   split at hd
   . rename_i es clock hg;obtain⟨_,ao,g1,g2⟩:=x.obj _ _ hg;cases g2 with
     | @map bz _ _ g2=>rw[xN,g1];exact FC g2 hd
   . cases hd
 . cases hd
def jR(place:Nat->Option (Nat×Nat)):List DV->List (Nat×DV)->Option (List DV)
 |cells,[]=>some cells
 |cells,(i,v)::rest=>match place i with
  |none=>none
  |some (off,size)=>if(cG v).length=size/\off+size<=cells.length/\(cG v).all cD=true then jR place (cells.take off++cG v++cells.drop (off+(cG v).length)) rest else none
def AX{d:DV}(h:(cG d).all cD=true):∀u,d=.v u->dF u=true:=λu hu=>by subst hu;simpa[cG,cD]using h
def xX{place:Nat->Option (Nat×Nat)}:∀{ps:List (Nat×Value)} {az:List (Nat×DV)} {cs:List Value} {ds r:List DV},aU (AO R) ps az->cj R cs ds->jR place ds az=some r->∃cs',iJ place cs ps=some cs'/\cj R cs' r
 |[],[],cs,ds,r,.nil,h1,h=>by simp only[jR,oY]at h;subst h;exact⟨cs,rfl,h1⟩
 |(i,v)::ps,(j,d)::az,cs,ds,r,.cons ⟨h2,h3⟩ h4,h1,h=>by
  simp only at h2 h3;subst h2;simp only[jR]at h;simp only[iJ]
  split at h
  . cases h
  . rename_i off size hp;simp only[hp]
    split at h
    . rename_i hc;have aV:=AN h3 (AX hc.2.2);have e1:v.cells.toList.length=size:=by rw[aV.length];exact hc.1
      have e2:off+size<=cs.length:=by rw[h1.length];exact hc.2.1
      simp only[e1,Q0,Rb e2,UR,cond_true];refine xX h4 ?_ h;unfold dN;rw[aV.length];exact(aU.append (aU.append (aU.take h1 _) aV) (aU.drop h1 _))
    . cases h
def eo(e:Env)(ty:TypeId)(ps:List (Nat×DV)):Option DV:=
 match e.zero ty,e.under ty with
 |some z,some (.struct fields)=>(jR (ke e fields) (z.cells.toList.map .v) ps).map .agg
 |some z,some (.array _ elem)=>match e.size elem with
  |none=>none
  |some s=>(jR (λi=>some (i*s,s)) (z.cells.toList.map .v) ps).map .agg
 |_,_=>none
def RN{ty:TypeId}{ps:List (Nat×Value)}{az:List (Nat×DV)}{d:DV}(hp:aU (AO R) ps az)(hd:eo e ty az=some d):∃v,pR e ty ps=some v/\Rel R v d:=by
 unfold eo at hd;unfold pR
 split at hd
 . rename_i z fields hz hu;simp only[hz,hu];simp only[yx]at hd;obtain⟨r,h1,rfl⟩:=hd;obtain⟨cs,h2,h3⟩:=xX hp (tI _) h1;exact⟨_,by rw[h2],Rel.dG h3⟩
 . rename_i z n elem hz hu;simp only[hz,hu]
   split at hd
   . cases hd
   . rename_i s hs;simp only[hs];simp only[yx]at hd;obtain⟨r,h1,rfl⟩:=hd;obtain⟨cs,h2,h3⟩:=xX hp (tI _) h1;exact⟨_,by rw[h2],Rel.dG h3⟩
 . cases hd
def fh(dh:ah)(sz:Nat):DV->Option (Nat×List DV)
 |.sl k xs=>if k=sz then some (xs.length,xs.flatten)else none
 |.v (.slice none n _)=>if n=0 then some (0,[])else none
 |.v (.slice (some ⟨b,o,none⟩) n _)=>match dh.get b with|some (.row cs _ _)=>if o+n*sz<=cs.length then some (n,(cs.drop o).take (n*sz))else none|_=>none
 |_=>none
def FD{cs:List Value}{k:Nat}:∀{xs:List (List DV)} {o:Nat},(∀x∈xs,x.length=k)->o+xs.length*k<=cs.length->(∀(j:Nat) (x:List DV) (i:Nat) (v:Value) (d:DV),xs[j]? =some x->x[i]? =some d->cs[o+j*k+i]? =some v->Rel R v d)->cj R ((cs.drop o).take (xs.length*k)) xs.flatten
 |[],o,_,_,_=>by simp only[aft,Nat.zero_mul,List.take_zero,List.flatten_nil];exact .nil
 |x::xs,o,h1,h2,h3=>by
  have hx:x.length=k:=h1 x aw;simp only[List.length_cons,adr,Nat.one_mul]at h2⊢;have e1:(cs.drop o).take (xs.length*k+k)=(cs.drop o).take k++(cs.drop (o+k)).take (xs.length*k):=by
   rw[Nat.add_comm,List.take_add,List.drop_drop]
  rw[e1,List.flatten_cons];refine aU.append (qi (by rw[WZ,Xt,hx];omega) λi v d h4 h5=> ?_) (FD (λy hy=>h1 y (afk _ hy)) aa λj y i v d h4 h5 h6=>h3 (j+1) y i v d (by simpa using h4) h5 (by rw[<-h6];congr 1;rw[adr];omega));rw[afi]at h4
  split at h4
  . rw[afj]at h4;exact h3 0 x i v d rfl h5 (by rw[<-h4];congr 1;omega)
  . cases h4
def FE(x:bP G h dh){sz n:Nat}{v:Value}{d:DV}{cs:List DV}(hv:Rel (aP h G) v d)(hd:fh dh sz d=some (n,cs)):∃xb xc new,v=.slice xb n xc/\ir h sz n v=some new/\cj (aP h G) new cs/\new.length=n*sz:=by
 unfold fh at hd
 split at hd
 . rename_i k xs
   split at hd
   . rename_i hk;subst hk;simp only[oY,Ey]at hd;obtain⟨rfl,rfl⟩:=hd;cases hv with
     |jO _=>exact⟨_,_,[],rfl,rfl,.nil,aw⟩
     | @sl b o c _ ak aL _ h1 h2 h3 h4 h5 h6 h7=>
      obtain⟨_,wr,hg⟩:=qk h1;have hl:((aL.drop o).take (xs.length*k)).length=xs.length*k:=by rw[WZ,Xt];omega
      exact⟨_,_,(aL.drop o).take (xs.length*k),rfl,by simp only[ir,fV,hg,hl,Q0,cond_true],FD h5 h6 h7,hl⟩
   . cases hd
 . split at hd
   . rename_i hn;simp only[oY,Ey]at hd;obtain⟨rfl,rfl⟩:=hd;have:=hv.cT;subst this;subst hn;exact⟨_,_,[],rfl,rfl,.nil,aw⟩
   . cases hd
 . rename_i b o m c
   split at hd
   . rename_i bB wr ak hg
     split at hd
     . rename_i hl;simp only[oY,Ey]at hd;obtain⟨rfl,rfl⟩:=hd;have:=hv.cT;subst this;obtain⟨_,ao,g1,g2⟩:=x.obj _ _ hg;cases g2 with
       | @row aL _ _ _ g2=>
        have bc:((aL.drop o).take (m*sz)).length=m*sz:=by rw[WZ,Xt,g2.length];omega
        exact⟨_,_,(aL.drop o).take (m*sz),rfl,by simp only[ir,fV,g1,bc,Q0,cond_true],vD g2 _ _,bc⟩
     . cases hd
   . cases hd
 . cases hd
def lz:List DV->Option (List Int)
 |[]=>some []
 |.v (.int .u8 n)::r=>(lz r).map (n::·)
 |_=>none
def FG:∀{cs:List Value} {ds:List DV} {ns:List Int},cj R cs ds->lz ds=some ns->qW cs=some ns
 |[],_,ns,.nil,h=>by simp only[lz,oY]at h;subst h;rfl
 |c::cs,d::ds,ns,.cons h1 h2,h=>by
  match d,h1,h with
  |.v (.int .u8 n),h1,h=>
   simp only[lz,yx]at h;obtain⟨r,h3,rfl⟩:=h;have:=h1.cT;subst this;simp only[qW,FG h2 h3,Yt]
def Env.mb(e:Env)(s d:TypeId):Bool:=match e.under s,e.under d with
 |some (.slice el),some .string=>match e.under el with|some (.int .u8)=>true|_=>false
 |_,_=>false
def rU(e:Env)(s d:TypeId)(a:Value):Option Value:=bif plain a then eI e.P (convert s d a)else none
def rV:Option (Nat×List DV)->Option DV
 |some (n+1,cs)=>(lz cs).map λns=>.v (.string (strOf ns))
 |_=>none
def mR(e:Env)(dh:ah)(s d:TypeId)(x:DV):Option DV:=match e.mb s d with
 |true=>rV (fh dh 1 x)
 |false=>lx (rU e s d) x
def RO(x:bP G h dh){s d:TypeId}{v:Value}{c c':DV}(hv:Rel (aP h G) v c)(hd:mR e dh s d c=some c'):∃v',oL e h s d v=some v'/\Rel (aP h G) v' c':=by
 unfold mR at hd
 split at hd
 . rename_i hb;unfold Env.mb at hb
   split at hb
   . rename_i el hu bq
     split at hb
     . rename_i bs;unfold rV at hd
       split at hd
       . rename_i n cs aW;simp only[yx]at hd;obtain⟨ns,h1,rfl⟩:=hd;obtain⟨xb,xc,new,rfl,q1,q2,q3⟩:=FE x hv aW;cases xb with
         |none=>
          simp only[ir,oY]at q1;subst q1;simp at q3
         |some a=>
          simp only[ir,Nat.mul_one]at q1;refine⟨.string (strOf ns), ?_,.v _⟩;have:plain (.slice (some a) (n+1) xc)=false:=rfl;simp only[oL,this,cond_false,ow,hu,bq,bs,q1,FG q2 h1,Yt]
       . cases hd
     . cases hb
   . cases hb
 . refine AT (f:=oL e h s d) hv ?_;unfold lx at hd⊢
   split at hd
   . rename_i u hu;simp only[yx]at hd;obtain⟨w,h1,rfl⟩:=hd;unfold rU at h1;obtain⟨hp,h1⟩:=cg h1;simp only[oL,hp,cond_true,h1,Yt]
   . cases hd
def qp(c:Option DV)(a b:Option DV):Option DV:=match c with
 |some (.v (.bool true))=>a
 |some (.v (.bool false))=>b
 |_=>none
def nQ(f:FuncId):Option (List DV)->Option (List DV)->Option DV
 |some a,some b=>some (.fn f a b)
 |_,_=>none
def oS(e:Env)(dh:ah)(bt:Array TypeId):Option (List DV)->Option DV
 |some [x]=>match bt[0]? with|none=>none|some ty=>fp e dh ty x
 |_=>none
def lA(l:List DV):Option (List Value):=l.mapM exact
def aZ(e:Env)(dh:ah)(t:Tr DV):Op->Option DV
 |.move x|.assign x=>aJ e t x
 |.pick c a b=>qp (aJ e t c) (aJ e t a) (aJ e t b)
 |.build ty parts=>(fP e t parts.toList).bind (eo e ty)
 |.load ty a=>(aJ e t a).bind (iN e dh ty)
 |.nilCheck x=>(aJ e t x).bind kR
 |.binOp op ty x y _=>fY (iC e op ty x y) (aJ e t x) (aJ e t y)
 |.unOp op _ x=>(aJ e t x).bind (lx (nI e op))
 |.convert s d x=>(aJ e t x).bind (mR e dh s d)
 |.makeInterface ty x=>(aJ e t x).bind (lx (vp e ty))
 |.makeFunc (.func f) first cap=>nQ f (cM e t first.toList) (cM e t cap.toList)
 |.slice ty x lo hi mx=>ed e dh ty (aJ e t x) (eJ e t lo) (eJ e t hi) (eJ e t mx)
 |.fieldAddr s x f=>(aJ e t x).bind (kr e s f)
 |.field ty x f=>(aJ e t x).bind (qm e ty f)
 |.indexAddr ty x ix=>fY (λa b=>iB e ty a (fX b)) (aJ e t x) (aJ e t ix)
 |.index ty x ix=>fY (mQ e ty) (aJ e t x) (aJ e t ix)
 |.lookup ty m k ok=>fY (kS e dh ty ok) (aJ e t m) (aJ e t k)
 |.extract x i=>(aJ e t x).bind (ma i)
 |.call c=>match c.callee with
  |.builtin .len=>oS e dh c.argTypes (cM e t c.args.toList)
  |.builtin .min=>((cM e t c.args.toList).bind lA).bind λl=>(nK e l).map .v
  |.builtin .max=>((cM e t c.args.toList).bind lA).bind λl=>(rJ e l).map .v
  |_=>none
 |_=>none
def qq{f:DV->Option DV}{g:Value->Option Value}(ht:TD R t dt){o:Operand}{d:DV}(hf:∀v d,Rel R v d->∀d',f d=some d'->∃v',g v=some v'/\Rel R v' d')(hd:(aJ e dt o).bind f=some d):∃v,(aE e t o).bind g=some v/\Rel R v d:=by
 obtain⟨x,h1,h2⟩:=Fj.1 hd;obtain⟨v,h3,h4⟩:=ff ht h1;rw[h3];exact hf v x h4 d h2
def xY{f:DV->DV->Option DV}{g:Value->Value->Option Value}(ht:TD R t dt){o p:Operand}{d:DV}(hf:∀v w d c,Rel R v d->Rel R w c->∀d',f d c=some d'->∃v',g v w=some v'/\Rel R v' d')(hd:fY f (aJ e dt o) (aJ e dt p)=some d):∃v,gx g (aE e t o) (aE e t p)=some v/\Rel R v d:=by
 unfold fY at hd
 split at hd
 . rename_i x y hx hy;obtain⟨v,h3,h4⟩:=ff ht hx;obtain⟨w,h5,h6⟩:=ff ht hy;rw[h3,h5];exact hf v w x y h4 h6 d hd
 . cases hd
def xZ(x:bP G h dh)(ht:TD (aP h G) t dt){op:Op}{d:DV}(hd:aZ e dh dt op=some d):∃v,bI e h t op=some v/\Rel (aP h G) v d:=by
 cases op with
 |move o=>exact ff ht hd
 |assign o=>exact ff ht hd
 |pick c a b=>
  simp only[aZ,qp]at hd;simp only[bI,rI]
  split at hd
  . rename_i hc;obtain⟨v,h1,h2⟩:=ff ht hc;have:=h2.cT;subst this;simp only[h1];exact ff ht hd
  . rename_i hc;obtain⟨v,h1,h2⟩:=ff ht hc;have:=h2.cT;subst this;simp only[h1];exact ff ht hd
  . cases hd
 |build ty parts=>
  obtain⟨ps,h1,h2⟩:=Fj.1 hd;obtain⟨vs,h3,h4⟩:=AP ht h1;obtain⟨v,h5,h6⟩:=RN h4 h2;exact⟨v,by simp only[bI,mM,h3,h5],h6⟩
 |load ty a=>exact qq ht (λv d hv d' h'=>Fu x hv h') hd
 |nilCheck o=>exact qq ht (λv d hv d' h'=>RE hv h') hd
 |binOp op ty a b z=>exact xY ht (λv w d c hv hw d' h'=>RF hv hw h') hd
 |unOp op z o=>exact qq ht (λv d hv d' h'=>AT hv h') hd
 |convert s dd o=>exact qq ht (λv d hv d' h'=>RO x hv h') hd
 |makeInterface ty o=>exact qq ht (λv d hv d' h'=>AT hv h') hd
 |makeFunc fn first cap=>
  cases fn with
  |func f=>
   simp only[aZ,nQ]at hd
   split at hd
   . rename_i a b h1 h2;cases hd;obtain⟨vs,h3,h4⟩:=mP ht h1;obtain⟨ws,h5,h6⟩:=mP ht h2;exact⟨_,by simp only[bI,vq,h3,h5],Rel.Rt h4 h6⟩
   . cases hd
  |_=>simp[aZ]at hd
 |slice ty o lo hi mx=>
  exact RK x (λd h'=>ff ht h') (λd h'=>AQ ht h') (λd h'=>AQ ht h') (λd h'=>AQ ht h') hd
 |fieldAddr s o f=>exact qq ht (λv d hv d' h'=>Ry hv h') hd
 |field ty o f=>exact qq ht (λv d hv d' h'=>Rz hv h') hd
 |indexAddr ty a b=>exact xY ht (λv w d c hv hw d' h'=>RA hv hw h') hd
 |index ty a b=>exact xY ht (λv w d c hv hw d' h'=>RB hv hw h') hd
 |lookup ty a b ok=>exact xY ht (λv w d c hv hw d' h'=>RL x hv hw h') hd
 |extract o i=>exact qq ht (λv d hv d' h'=>RC hv h') hd
 |call c=>
  simp only[aZ]at hd;simp only[bI]
  split at hd
  . rename_i hc;simp only[hc];unfold oS at hd
    split at hd
    . rename_i y hy;obtain⟨vs,h1,h2⟩:=mP ht hy;cases h2 with
      | @cons v _ _ _ h2 h3=>
       cases h3;simp only[h1,vt]
       split at hd
       . cases hd
       . rename_i ty bu;simp only[bu];exact RG x h2 hd
    . cases hd
  . rename_i hc;simp only[hc];obtain⟨us,h1,h2⟩:=Fj.1 hd;obtain⟨ds,h3,h4⟩:=Fj.1 h1;obtain⟨vs,h5,h6⟩:=mP ht h3;simp only[yx]at h2;obtain⟨r,h7,rfl⟩:=h2;refine⟨r, ?_,.v r⟩;rw[h5,Fx h6 h4];exact h7
  . rename_i hc;simp only[hc];obtain⟨us,h1,h2⟩:=Fj.1 hd;obtain⟨ds,h3,h4⟩:=Fj.1 h1;obtain⟨vs,h5,h6⟩:=mP ht h3;simp only[yx]at h2;obtain⟨r,h7,rfl⟩:=h2;refine⟨r, ?_,.v r⟩;rw[h5,Fx h6 h4];exact h7
  . cases hd
 |_=>simp[aZ]at hd
end Go.aD
end
noncomputable section
namespace Go.aD
variable {e:Env} {G:Nat->Prop} {h:ab} {dh:ah} {t:Tr Value} {dt:Tr DV} {R:Rows}
def bP.new(x:bP G h dh){ao:bR}{o:bJ}(hr:iM (aP h G) ao o):bP G (h.new ao) (dh.new o)/\Kp G h dh G (h.new ao) (dh.new o):=by
 have hm:∀i r,aP h G i=some r->aP (h.new ao) G i=some r:=iA λi hg=>⟨hg,bO _ _ _ (by have:=(x.still i hg).1;omega)⟩;refine⟨⟨x.e9.mono hm,by rw[ab.bb,ah.bb,x.next],λi p hp=> ?_,λi hg=> ?_⟩,⟨Nat.le_succ _,λi hi hd=>⟨bO _ _ _ aa,by rw[ah.cW,if_neg (by have:=x.next;omega)];exact hd⟩,λ_ h=>h,λ_ _ h=>.inl h⟩⟩
 . rw[ah.cW]at hp;by_cases hi:i=dh.next
   . rw[if_pos hi]at hp;cases hp;subst hi;refine⟨by rw[ab.bb,x.next];omega,ao,by rw[<-x.next];exact qe _ _,hr.mono hm⟩
   . rw[if_neg hi]at hp;obtain⟨h1,ao',h2,h3⟩:=x.obj i p hp;exact⟨by rw[ab.bb];omega,ao',by rw[bO _ _ _ aa];exact h2,h3.mono hm⟩
 . obtain⟨h1,h2⟩:=x.still i hg;exact⟨by rw[ab.bb];omega,by rw[ah.cW,if_neg (by have:=x.next;omega)];exact h2⟩
def bP.set(x:bP G h dh){i:Nat}{o0:bJ}(hi:dh.get i=some o0){ao:bR}{o:bJ}(hr:iM (aP h G) ao o):bP G (h.set i (some ao)) (dh.set i (some o))/\Kp G h dh G (h.set i (some ao)) (dh.set i (some o)):=by
 have aM:∀j,G j->j≠i:=λj hg e=>by subst e;rw[(x.still j hg).2]at hi;cases hi
 have hm:∀j r,aP h G j=some r->aP (h.set i (some ao)) G j=some r:=iA λj hg=>⟨hg,bE _ _ _ _ (aM j hg)⟩;refine⟨⟨x.e9.mono hm,by rw[ab.aW,ah.aW,x.next],λj p hp=> ?_,λj hg=> ?_⟩,⟨afe _,λj hj hd=> ?_,λ_ h=>h,λ_ _ h=>.inl h⟩⟩
 . rw[ah.bD]at hp;by_cases aK:j=i
   . rw[if_pos aK]at hp;cases hp;subst aK;exact⟨(x.obj j o0 hi).1,ao,ey _ _ _,hr.mono hm⟩
   . rw[if_neg aK]at hp;obtain⟨h1,ao',h2,h3⟩:=x.obj j p hp;exact⟨h1,ao',by rw[bE _ _ _ _ aK];exact h2,h3.mono hm⟩
 . obtain⟨h1,h2⟩:=x.still j hg;exact⟨h1,by rw[ah.bD,if_neg (aM j hg)];exact h2⟩
 . have:j≠i:=λe=>by subst e;rw[hd]at hi;cases hi
   exact⟨bE _ _ _ _ this,by rw[ah.bD,if_neg this];exact hd⟩
def bP.kill(x:bP G h dh){i:Nat}{o0:bJ}(hi:dh.get i=some o0):bP G (h.set i none) (dh.set i none)/\Kp G h dh G (h.set i none) (dh.set i none):=by
 have aM:∀j,G j->j≠i:=λj hg e=>by subst e;rw[(x.still j hg).2]at hi;cases hi
 have hm:∀j r,aP h G j=some r->aP (h.set i none) G j=some r:=iA λj hg=>⟨hg,bE _ _ _ _ (aM j hg)⟩;refine⟨⟨x.e9.mono hm,by rw[ab.aW,ah.aW,x.next],λj p hp=> ?_,λj hg=> ?_⟩,⟨afe _,λj hj hd=> ?_,λ_ h=>h,λ_ _ h=>.inl h⟩⟩
 . rw[ah.bD]at hp;by_cases aK:j=i
   . rw[if_pos aK]at hp;cases hp
   . rw[if_neg aK]at hp;obtain⟨h1,ao',h2,h3⟩:=x.obj j p hp;exact⟨h1,ao',by rw[bE _ _ _ _ aK];exact h2,h3.mono hm⟩
 . obtain⟨h1,h2⟩:=x.still j hg;exact⟨h1,by rw[ah.bD,if_neg (aM j hg)];exact h2⟩
 . have:j≠i:=λe=>by subst e;rw[hd]at hi;cases hi
   exact⟨bE _ _ _ _ this,by rw[ah.bD,if_neg this];exact hd⟩
def dV(e:Env)(t:Tr DV):Op->Option (bJ×(Nat->DV))
 |.alloc elem=>match e.zero elem with
  |none=>none
  |some z=>some (.row (z.cells.toList.map .v) true 0,λi=>.v (.pointer (some ⟨i,0,none⟩)))
 |.box _ x=>match aJ e t x with
  |none=>none
  |some d=>if(cG d).all cD=true then some (.row (cG d) true 0,λi=>.v (.pointer (some ⟨i,0,none⟩)))else none
 |.buildSlice st len parts=>match e.under st,fP e t parts.toList with
  |some (.slice elem),some ps=>match e.size elem,e.zero elem with
   |some s,some z=>if len*s<=16777216/\z.cells.toList.length=s/\0<s then
    match jR (λi=>some (i*s,s)) ((dY z.cells.toList (len*s)).map .v) ps with
    |none=>none
    |some cs=>some (.row cs true 0,λi=>.v (.slice (some ⟨i,0,none⟩) len len))
    else none
   |_,_=>none
  |_,_=>none
 |.makeMap _ none=>some (.map [] 0,λi=>.v (.map (some i)))
 |.makeSlice st l c=>match e.under st,(aJ e t l).bind exact,(aJ e t c).bind exact with
  |some (.slice elem),some (.int .i64 l),some (.int .i64 c)=>match e.size elem,e.zero elem,e.bytes elem with
   |some s,some z,some b=>if 0<=l/\l<=c/\c<=1099511627776/\b*c.toNat<=1099511627776/\z.cells.toList.length=s/\0<s then
    some (.row ((dY z.cells.toList (c.toNat*s)).map .v) true 0,λi=>.v (.slice (some ⟨i,0,none⟩) l.toNat c.toNat))
    else none
   |_,_,_=>none
  |_,_,_=>none
 |_=>none
def FH(ht:TD R t dt){o:Operand}{v:Value}(hd:(aJ e dt o).bind exact=some v):aE e t o=some v:=by
 obtain⟨d,h1,h2⟩:=Fj.1 hd;obtain⟨u,h3,h4⟩:=ff ht h1;rw[h3,oR h4 h2]
def FI(ht:TD R t dt){op:Op}{o:bJ}{f:Nat->DV}(hd:dV e dt op=some (o,f)):∃ao af,cU e t op=some (ao,af)/\iM R ao o/\∀(R':Rows) (i:Nat),Rel R' (af i) (f i):=by
 unfold dV at hd;unfold cU
 split at hd
 . split at hd
   . cases hd
   . rename_i elem z hz;simp only[oY,Ey]at hd;obtain⟨rfl,rfl⟩:=hd;simp only[hz];exact⟨_,_,rfl,.row (tI _),λ_ i=>.v _⟩
 . split at hd
   . cases hd
   . rename_i ty x d hx;obtain⟨v,h1,h2⟩:=ff ht hx
     split at hd
     . rename_i hc;simp only[oY,Ey]at hd;obtain⟨rfl,rfl⟩:=hd;simp only[h1];exact⟨_,_,rfl,.row (AN h2 (AX hc)),λ_ i=>.v _⟩
     . cases hd
 . rename_i st len parts
   split at hd
   . rename_i elem ps hu hp;obtain⟨vs,h1,h2⟩:=AP ht hp;simp only[hu,h1]
     split at hd
     . rename_i s z hs hz
       split at hd
       . rename_i hc
         split at hd
         . cases hd
         . rename_i cs hf;simp only[oY,Ey]at hd;obtain⟨rfl,rfl⟩:=hd;obtain⟨cs',h3,h4⟩:=xX h2 (tI _) hf;have hb:HT 0 s=true:=Rb hc.2.2;simp only[hs,hz,Rb hc.1,hc.2.1,Q0,hb,UR,cond_true,h3];exact⟨_,_,rfl,.row h4,λ_ i=>.v _⟩
       . cases hd
     . cases hd
   . cases hd
 . simp only[oY,Ey]at hd;obtain⟨rfl,rfl⟩:=hd;exact⟨_,_,rfl,.map .nil,λ_ i=>.v _⟩
 . split at hd
   . rename_i st lo co elem l c hu hl hc;simp only[hu,FH ht hl,FH ht hc,afq,ou]
     split at hd
     . rename_i s z b hs hz hb
       split at hd
       . rename_i bl;simp only[oY,Ey]at hd;obtain⟨rfl,rfl⟩:=hd;obtain⟨c1,c2,c3,c4,c5,c6⟩:=bl;have aO:HT 0 s=true:=Rb c6;simp only[hs,hz,hb,c1,c2,c3,decide_true,Rb c4,c5,Q0,aO,UR,cond_true];exact⟨_,_,rfl,.row (tI _),λ_ i=>.v _⟩
       . cases hd
     . cases hd
   . cases hd
 . cases hd
def lC(e:Env)(dh:ah)(ty:TypeId):Option DV->Option DV->Option (ah×Nat)
 |some (.v (.pointer (some ⟨b,o,none⟩))),some d=>match dh.get b,e.size ty with
  |some (.row cs true ak),some n=>if(cG d).length=n/\0<n/\o+n<=cs.length/\(cG d).all cD=true then some (dh.set b (some (.row (cs.take o++cG d++cs.drop (o+n)) true ak)),b)else none
  |_,_=>none
 |_,_=>none
def RP(x:bP G h dh){ty:TypeId}{p v:Option Value}{dp d:Option DV}{ad:ah}{b:Nat}(hp:∀d,dp=some d->∃u,p=some u/\Rel (aP h G) u d)(hv:∀c,d=some c->∃u,v=some u/\Rel (aP h G) u c)
 (hd:lC e dh ty dp d=some (ad,b)):∃h',qa e h ty p v=some h'/\bP G h' ad/\Kp G h dh G h' ad/\∀i,i≠b->h'.get i=h.get i/\ad.get i=dh.get i:=by
 unfold lC at hd
 split at hd
 . rename_i b' o d;obtain⟨u,rfl,h1⟩:=hp _ rfl;obtain⟨w,rfl,h2⟩:=hv _ rfl;have:=h1.cT;subst this
   split at hd
   . rename_i cs ak n hg hs
     split at hd
     . rename_i hc;obtain⟨c1,c2,c3,c4⟩:=hc;simp only[oY,Ey]at hd;obtain⟨rfl,rfl⟩:=hd;obtain⟨_,ao,g1,g2⟩:=x.obj _ _ hg;cases g2 with
       | @row ai _ _ _ g2=>
        have aS:=AN h2 (AX c4);have e1:w.cells.toList.length=n:=by rw[aS.length];exact c1
        have hw:mK h b' o w.cells.toList=some (h.set b' (some (.row (dN ai o w.cells.toList) true ak))):=Al g1 (by rw[e1,g2.length];exact c3) (xU aS c4);refine⟨_,by rw[E6 hs e1 c2,hw], ?_⟩;have:iM (aP h G) (.row (dN ai o w.cells.toList) true ak) (.row (cs.take o++cG d++cs.drop (o+n)) true ak):=by
         refine .row ?_;unfold dN;rw[e1];exact aU.append (aU.append (aU.take g2 _) aS) (aU.drop g2 _)
        obtain⟨k1,k2⟩:=x.set hg this;exact⟨k1,k2,λi hi=>⟨bE _ _ _ _ hi,by rw[ah.bD,if_neg hi]⟩⟩
     . cases hd
   . cases hd
 . cases hd
def AY(e:Env)(dh:ah)(aA:Array TypeId):Option (List DV)->Option (ah×Nat)
 |some [.v (.slice (some ⟨b,o,none⟩) n _)]=>match aA[0]? with
  |some st=>match e.under st with
   |some (.slice elem)=>match dh.get b,e.size elem,e.zero elem with
    |some (.row cs true ak),some 1,some (.int k m)=>if 0<n/\o+n<=cs.length then some (dh.set b (some (.row (cs.take o++Rm n (.v (.int k m))++cs.drop (o+n)) true ak)),b)else none
    |_,_,_=>none
   |_=>none
  |_=>none
 |_=>none
def FJ(v:Value)(n:Nat):dY [v] n=Rm n v:=by
 unfold dY;rw[List.eq_replicate_iff];refine⟨aw,λb hb=> ?_⟩;obtain⟨i,_,rfl⟩:=List.mem_map.1 hb;simp[Nat.mod_one]
def FK(v:Value):∀n,cj R (Rm n v) (Rm n (.v v))
 |0=>.nil
 |n+1=>.cons (.v _) (FK v n)
def RR(x:bP G h dh){aA:Array TypeId}{args:Option (List Value)}{aj:Option (List DV)}(ha:∀l,aj=some l->∃vs,args=some vs/\cj (aP h G) vs l){ad:ah}{b:Nat}(hd:AY e dh aA aj=some (ad,b)):
 ∃v h',xB e h aA args=some (v,h')/\v=undef/\bP G h' ad/\Kp G h dh G h' ad/\∀i,i≠b->h'.get i=h.get i/\ad.get i=dh.get i:=by
 unfold AY at hd
 split at hd
 . rename_i b' o n c;obtain⟨vs,rfl,hr⟩:=ha _ rfl;cases hr with
   |cons h1 h2=>
    cases h2;have:=h1.cT;subst this
    split at hd
    . rename_i st bm
      split at hd
      . rename_i elem hu
        split at hd
        . rename_i cs ak k m hg hs hz
          split at hd
          . rename_i hc;simp only[oY,Ey]at hd;obtain⟨rfl,rfl⟩:=hd;obtain⟨_,ao,g1,g2⟩:=x.obj _ _ hg;cases g2 with
            | @row ai _ _ _ g2=>
             obtain⟨n,rfl⟩:∃q,n=q+1:=⟨n-1,aa⟩;have e1:dY [Value.int k m] (n+1)=Rm (n+1) (.int k m):=FJ _ _;have hw:mK h b' o (Rm (n+1) (.int k m))=some (h.set b' (some (.row (dN ai o (Rm (n+1) (.int k m))) true ak))):=Al g1 (by rw[afu,g2.length];exact hc.2) (by simp[dF]);have bn:kc h ⟨b',o,none⟩ (Rm (n+1) (.int k m))=some (h.set b' (some (.row (dN ai o (Rm (n+1) (.int k m))) true ak))):=by rw[<-hw];exact Ak
             have:iM (aP h G) (.row (dN ai o (Rm (n+1) (.int k m))) true ak) (.row (cs.take o++Rm (n+1) (.v (.int k m))++cs.drop (o+(n+1))) true ak):=by
              refine .row ?_;unfold dN;rw[afu];exact aU.append (aU.append (aU.take g2 _) (FK _ _)) (aU.drop g2 _)
             obtain⟨k1,k2⟩:=x.set hg this;refine⟨.tuple #[],_, ?_,rfl,k1,k2,λi hi=>⟨bE _ _ _ _ hi,by rw[ah.bD,if_neg hi]⟩⟩;have e2:(Value.int k m).cells.toList=[.int k m]:=rfl;simp only[xB,uX,bm,hu,hs,hz,e2,List.length_singleton,Nat.mul_one,e1,bn,Yt];rfl
          . cases hd
        . cases hd
      . cases hd
    . cases hd
 . cases hd
def mS(P:Program)(kt:TypeId)(k:Value):List bG->Nat->Option (Option Nat)
 |[],_=>some none
 |x::es,i=>match kg P kt k x.key with
  |none=>none
  |some true=>some (some i)
  |some false=>mS P kt k es (i+1)
def AZ{P:Program}{kt:TypeId}{k:Value}:∀{es:List MapEntry} {ds:List bG} {r:Option Nat} (i:Nat),aU (iL R) es ds->mS P kt k ds i=some r->∃r',gr P kt k es i=some r'/\r'.map (·.1)=r
 |[],[],r,i,.nil,h=>by simp only[mS,oY]at h;subst h;exact⟨none,rfl,rfl⟩
 |x::es,y::ds,r,i,.cons h1 h2,h=>by
  simp only[mS]at h;simp only[gr,h1.key]
  split at h
  . cases h
  . rename_i hk;cases h;exact⟨_,by rw[hk],rfl⟩
  . rename_i hk;simp only[hk];exact AZ (i+1) h2 h
def ky(e:Env)(ty:TypeId)(k:Value)(d:DV)(es:List bG)(clock:Nat):Option bJ:=
 match e.under ty with
 |some (.map kt _)=>match e.under kt with
  |none=>none
  |some kd=>if plain k=true/\nu kd k=true/\(b8 e.P (Instr.checkKey false 10000 kt k)).isSome=true then match mS e.P kt k es 0 with
   |none=>none
   |some (some i)=>if Instr.sameBits 10000 (((es[i]?).map (·.key)).getD k) k=true then some (.map (es.modify i λx=>{x with key:=k,val:=d}) clock)else none
   |some none=>some (.map (es++[⟨k,d,clock⟩]) (clock+1))
  else none
 |_=>none
def FL{k:Value}{v:Value}{d:DV}(hv:Rel R v d):∀{es:List MapEntry} {ds:List bG} (i:Nat),aU (iL R) es ds->aU (iL R) (es.modify i λx=>{x with key:=k,val:=v}) (ds.modify i λx=>{x with key:=k,val:=d})
 |_,_,i,.nil=>by cases i<;>exact .nil
 |_,_,0,.cons h1 h2=>.cons ⟨rfl,hv,h1.born⟩ h2
 |_,_,i+1,.cons h1 h2=>.cons h1 (FL hv i h2)
def RT{ty:TypeId}{k v:Value}{d:DV}{es:List MapEntry}{ds:List bG}{clock:Nat}{o:bJ}(hr:aU (iL R) es ds)(hv:Rel R v d)(hd:ky e ty k d ds clock=some o):∃ao,nN e ty k v es clock=some ao/\iM R ao o:=by
 unfold ky at hd;unfold nN
 split at hd
 . rename_i kt et hu;simp only[hu]
   split at hd
   . cases hd
   . rename_i kd hk;simp only[hk]
     split at hd
     . rename_i hc;obtain⟨c1,c2,c3⟩:=hc;obtain⟨u,bo⟩:=afs.1 c3;simp only[c1,c2,UR,cond_true,bo]
       split at hd
       . cases hd
       . rename_i i hp;obtain⟨r',h1,h2⟩:=AZ 0 hr hp;cases r' with
         |none=>cases h2
         |some q=>
          obtain⟨j,w⟩:=q;cases h2;simp only[h1]
          split at hd
          . rename_i hb;cases hd;have aT:(es[j]?).map (·.key)=(ds[j]?).map (·.key):=by
             cases hj:es[j]? with
             |none=>
              have:ds.length<=j:=by rw[<-hr.length];exact afv.1 hj
              rw[afv.2 this];rfl
             |some q=>
              obtain⟨q',h3,h4⟩:=hr.get j q hj;rw[h3];simp[h4.key]
            rw[<-aT]at hb;simp only[hb,cond_true];exact⟨_,rfl,.map (FL hv j hr)⟩
          . cases hd
       . rename_i hp;obtain⟨r',h1,h2⟩:=AZ 0 hr hp;cases r' with
         |some q=>cases h2
         |none=>
          cases hd;simp only[h1];exact⟨_,rfl,.map (aU.append hr (.cons ⟨rfl,hv,rfl⟩ .nil))⟩
     . cases hd
 . cases hd
def jn(e:Env)(dh:ah)(ty:TypeId):Option DV->Option DV->Option DV->Option (ah×Nat)
 |some (.v (.map (some r))),some k,some d=>match dh.get r,exact k with
  |some (.map es clock),some k=>(ky e ty k d es clock).map λo=>(dh.set r (some o),r)
  |_,_=>none
 |_,_,_=>none
def FN(x:bP G h dh){ty:TypeId}{m k v:Option Value}{dm dk dv:Option DV}{ad:ah}{b:Nat}(hm:∀d,dm=some d->∃u,m=some u/\Rel (aP h G) u d)(hk:∀d,dk=some d->∃u,k=some u/\Rel (aP h G) u d)(hv:∀d,dv=some d->∃u,v=some u/\Rel (aP h G) u d)
 (hd:jn e dh ty dm dk dv=some (ad,b)):∃h',oO e h ty m k v=some h'/\bP G h' ad/\Kp G h dh G h' ad/\∀i,i≠b->h'.get i=h.get i/\ad.get i=dh.get i:=by
 unfold jn at hd
 split at hd
 . rename_i r k' d;obtain⟨u,rfl,h1⟩:=hm _ rfl;obtain⟨w,rfl,h2⟩:=hk _ rfl;obtain⟨z,rfl,h3⟩:=hv _ rfl;have:=h1.cT;subst this
   split at hd
   . rename_i es clock kv hg bq;simp only[yx]at hd;obtain⟨o,h4,h5⟩:=hd;simp only[Ey]at h5;obtain⟨rfl,rfl⟩:=h5;obtain⟨_,ao,g1,g2⟩:=x.obj _ _ hg;cases g2 with
     | @map res _ _ g2=>
      have:=oR h2 bq;subst this;obtain⟨ao',q1,q2⟩:=RT g2 h3 h4;obtain⟨k1,k2⟩:=x.set hg q2;exact⟨_,by rw[Fh,g1,Fi,q1];rfl,k1,k2,λi hi=>⟨bE _ _ _ _ hi,by rw[ah.bD,if_neg hi]⟩⟩
   . cases hd
 . cases hd
def Env.ap(e:Env)(st:TypeId):Option (Nat×Nat):=
 match e.under st with
 |some (.slice el)=>match e.size el,e.zero el,e.bytes el with
  |some s,some z,some b=>if 0<s/\z.cells.toList.length=s then some (s,b)else none
  |_,_,_=>none
 |_=>none
def eA(dh:ah)(base:Option Addr)(len cap sz b n:Nat)(new:List DV):Option (DV×ah×List Nat):=
 if len+n<=cap then(if n=0 then some (.v (.slice base (len+n) cap),dh,[])else match base with
  |some ⟨i,o,none⟩=>match dh.get i with
   |some (.row cs true ak)=>if o+len*sz+new.length<=cs.length/\new.all cD=true then some (.v (.slice base (len+n) cap),dh.set i (some (.row (cs.take (o+len*sz)++new++cs.drop (o+len*sz+new.length)) true ak)),[i])else none
   |_=>none
  |_=>none)
 else if(len+n)*(b+1)<=1073741824 then match base with
  |none=>if len=0/\cap=0 then some (.v (.slice (some ⟨dh.next,0,none⟩) (len+n) (len+n)),dh.new (.row new true sz),[])else none
  |some ⟨i,o,none⟩=>match dh.get i with
   |some (.row cs wr ak)=>if o+len*sz<=cs.length then
    (if ak=0\/(ak=sz/\o+cap*sz<cs.length)then some (.v (.slice (some ⟨dh.next,0,none⟩) (len+n) (len+n)),dh.new (.row ((cs.drop o).take (len*sz)++new) true sz),[])
    else if wr=true/\ak=sz/\new.all cD=true then some (.v (.slice (some ⟨dh.next,0,none⟩) (len+n) (len+n)),(dh.set i none).new (.row ((cs.drop o).take (len*sz)++new) true sz),[i])else none)else none
   |_=>none
  |_=>none
 else none
def iO(e:Env)(dh:ah)(aA:Array TypeId):Option (List DV)->Option (DV×ah×List Nat)
 |some [.v (.slice base len cap),x]=>match aA[0]?,aA[1]? with
  |some st,some xt=>match e.ap st,e.elem xt with
   |some (sz,b),some _=>match fh dh sz x with
    |some (n,new)=>eA dh base len cap sz b n new
    |none=>none
   |_,_=>none
  |_,_=>none
 |_=>none
def RU(x:bP G h dh){base:Option Addr}{len cap sz b n:Nat}{new:List DV}{ae:List Value}(hr:cj (aP h G) ae new)(hl:ae.length=n*sz)(hs:0<sz){d:DV}{ad:ah}{T:List Nat}(hd:eA dh base len cap sz b n new=some (d,ad,T)):
 ∃v h',pU h base len cap sz b n ae=some (v,h')/\Rel (aP h' G) v d/\bP G h' ad/\Kp G h dh G h' ad/\∀i,i<h.next->i∉T->h'.get i=h.get i/\ad.get i=dh.get i:=by
 unfold eA at hd;unfold pU
 split at hd
 . rename_i hle;simp only[Rb hle,cond_true]
   split at hd
   . rename_i hn;subst hn;simp only[oY,Ey]at hd;obtain⟨rfl,rfl,rfl⟩:=hd;have:ae=[]:=aff (by simpa using hl);subst this;cases base with
     |none=>exact⟨_,_,rfl,.v _,x,Kp.refl _ _ _,λ_ _ _=>⟨rfl,rfl⟩⟩
     |some a=>exact⟨_,_,rfl,.v _,x,Kp.refl _ _ _,λ_ _ _=>⟨rfl,rfl⟩⟩
   . rename_i hn
     split at hd
     . rename_i i o
       split at hd
       . rename_i cs ak hg
         split at hd
         . rename_i hc;simp only[oY,Ey]at hd;obtain⟨rfl,rfl,rfl⟩:=hd;obtain⟨_,ao,g1,g2⟩:=x.obj _ _ hg;cases g2 with
           | @row ai _ _ _ g2=>
            have aV:=xU hr hc.2;have hlen:o+len*sz+ae.length<=ai.length:=by rw[hr.length,g2.length];exact hc.1
            have bs:0<n*sz:=Nat.mul_pos aa hs;have bt:ae≠[]:=λe=>by subst e;simp only[aft]at hl;omega
            have hw:kc h (Addr.add ⟨i,o,none⟩ (len*sz)) ae=some (h.set i (some (.row (dN ai (o+len*sz) ae) true ak))):=by
             rw[rO];cases bd:ae with
             |nil=>exact absurd bd bt
             |cons u us=>rw[Ak,<-bd];exact Al g1 hlen aV
            simp only[hw];have:iM (aP h G) (.row (dN ai (o+len*sz) ae) true ak) (.row (cs.take (o+len*sz)++new++cs.drop (o+len*sz+new.length)) true ak):=by
             refine .row ?_;unfold dN;rw[hr.length];exact aU.append (aU.append (aU.take g2 _) hr) (aU.drop g2 _)
            obtain⟨k1,k2⟩:=x.set hg this;exact⟨_,_,rfl,.v _,k1,k2,λj _ hj=>⟨bE _ _ _ _ (by simpa using hj),by rw[ah.bD,if_neg (by simpa using hj)]⟩⟩
         . cases hd
       . cases hd
     . cases hd
 . rename_i hle;have bu:YN (len+n) cap=false:=by
    cases hb:YN (len+n) cap with
    |false=>rfl
    |true=>exact absurd (afl hb) hle
   split at hd
   . rename_i hb;simp only[bu,cond_false,Rb hb,cond_true]
     split at hd
     . split at hd
       . rename_i hc;obtain⟨rfl,rfl⟩:=hc;simp only[oY,Ey]at hd;obtain⟨rfl,rfl,rfl⟩:=hd;simp only[Q0,UR,cond_true];obtain⟨k1,k2⟩:=x.new (ao:=.row ae true sz) (.row hr);exact⟨_,_,rfl,by rw[x.next];exact .v _,k1,k2,λi hi _=>⟨bO _ _ _ aa,by rw[ah.cW,if_neg (by have:=x.next;omega)]⟩⟩
       . cases hd
     . rename_i i o
       split at hd
       . rename_i cs wr ak hg
         split at hd
         . rename_i hlen;obtain⟨_,ao,g1,g2⟩:=x.obj _ _ hg;cases g2 with
           | @row ai _ _ _ g2=>
            have bw:((ai.drop o).take (len*sz)).length=len*sz:=by rw[WZ,Xt,g2.length];omega
            have bz:fV h ⟨i,o,none⟩ (len*sz)=some ((ai.drop o).take (len*sz)):=by simp only[fV,g1,bw,Q0,cond_true]
            simp only[bz,g1]
            split at hd
            . rename_i hc;simp only[oY,Ey]at hd;obtain⟨rfl,rfl,rfl⟩:=hd;have av:(afc ak 0||(afc ak sz&&HT (o+cap*sz) ai.length))=true:=by
               rcases hc with hc|⟨bB,aX⟩
               . simp[hc]
               . have:HT (o+cap*sz) ai.length=true:=Rb (by rw[g2.length];exact aX);simp[bB,this]
              simp only[av,cond_true];obtain⟨k1,k2⟩:=x.new (ao:=.row ((ai.drop o).take (len*sz)++ae) true sz) (.row (aU.append (vD g2 o _) hr));exact⟨_,_,rfl,by rw[x.next];exact .v _,k1,k2,λi hi _=>⟨bO _ _ _ aa,by rw[ah.cW,if_neg (by have:=x.next;omega)]⟩⟩
            . rename_i hc
              split at hd
              . rename_i aX;obtain⟨rfl,rfl,bF⟩:=aX;simp only[oY,Ey]at hd;obtain⟨rfl,rfl,rfl⟩:=hd;have av:(afc ak 0||(true&&HT (o+cap*ak) ai.length))=false:=by
                 have h1:afc ak 0=false:=by
                  cases aO:afc ak 0 with
                  |false=>rfl
                  |true=>exact absurd (.inl (Nat.eq_of_beq_eq_true aO)) hc
                 have h2:HT (o+cap*ak) ai.length=false:=by
                  cases aO:HT (o+cap*ak) ai.length with
                  |false=>rfl
                  |true=>exact absurd (.inr ⟨rfl,by rw[<-g2.length];exact afl aO⟩) hc
                 simp[h1,h2]
                simp only[av,cond_false,Q0,xU hr bF,UR,cond_true];obtain⟨k1,k2⟩:=x.kill hg;have hm:∀j r,aP h G j=some r->aP (h.set i none) G j=some r:=k2.aP x;obtain⟨k3,k4⟩:=k1.new (ao:=.row ((ai.drop o).take (len*ak)++ae) true ak) (.row ((aU.append (vD g2 o _) hr).mono λ_ _=>Rel.mono hm));refine⟨_,_,rfl, ?_,k3,k2.trans k4,λj hj bg=>⟨by rw[bO _ _ _ (by rw[ab.aW];omega),bE _ _ _ _ (by simpa using bg)],by rw[ah.cW,if_neg (by rw[ah.aW];have:=x.next;omega),ah.bD,if_neg (by simpa using bg)]⟩⟩
                . rw[x.next];exact .v _
              . cases hd
         . cases hd
       . cases hd
     . cases hd
   . cases hd
def RV(x:bP G h dh){aA:Array TypeId}{args:Option (List Value)}{aj:Option (List DV)}(ha:∀l,aj=some l->∃vs,args=some vs/\cj (aP h G) vs l){d:DV}{ad:ah}{T:List Nat}(hd:iO e dh aA aj=some (d,ad,T)):
 ∃v h',tE e h aA args=some (v,h')/\Rel (aP h' G) v d/\bP G h' ad/\Kp G h dh G h' ad/\∀i,i<h.next->i∉T->h'.get i=h.get i/\ad.get i=dh.get i:=by
 unfold iO at hd
 split at hd
 . rename_i base len cap y;obtain⟨vs,rfl,h1⟩:=ha _ rfl;cases h1 with
   | @cons v0 _ bY _ h1 h2=>
    cases h2 with
    | @cons v1 _ bH _ h2 h3=>
     cases h3;have:=h1.cT;subst this
     split at hd
     . rename_i st xt bI bL
       split at hd
       . rename_i sz b ss aC bM
         split at hd
         . rename_i n new aY;unfold Env.ap at aC
           split at aC
           . rename_i el hu
             split at aC
             . rename_i s z b' h4 h5 h6
               split at aC
               . rename_i hc;simp only[oY,Ey]at aC;obtain⟨rfl,rfl⟩:=aC;obtain⟨bN,bS,_⟩:=Fy bM;obtain⟨xb,xc,ae,rfl,q1,q2,q3⟩:=FE x h2 aY;obtain⟨v,h',k1,k2,k3,k4,k5⟩:=RU x q2 q3 hc.1 hd;refine⟨v,h', ?_,k2,k3,k4,k5⟩;have hb:HT 0 s=true:=Rb hc.1;have hi:ov (.slice bN)=false:=rfl;simp only[tE,nv,bI,bL,hu,bS,h4,h5,h6,hi,sZ,cond_false,pT,s8,q1,hb,hc.2,q3,Q0,UR,cond_true];exact k1
               . cases aC
             . cases aC
           . cases aC
         . cases hd
       . cases hd
     . cases hd
 . cases hd
def lD(e:Env)(dh:ah)(ty:TypeId)(x:DV):Option bJ:=match x,e.under ty with
 |.v (.string s),some .string=>some (.eO s 0)
 |.v (.map none),some (.map _ _)=>some (.cC none 0 [] 0)
 |.v (.map (some m)),some (.map _ _)=>match dh.get m with
  |some (.map _ clock)=>some (.cC (some m) clock [] clock)
  |_=>none
 |_,_=>none
def RW(x:bP G h dh){ty:TypeId}{v:Value}{d:DV}{o:bJ}(hv:Rel (aP h G) v d)(hd:lD e dh ty d=some o):∃ao,vu e h ty v=some ao/\iM (aP h G) ao o:=by
 unfold lD at hd;unfold vu
 split at hd
 . rename_i hu;have:=hv.cT;subst this;cases hd;exact⟨_,by simp only[hu],.eO⟩
 . rename_i hu;have:=hv.cT;subst this;cases hd;exact⟨_,by simp only[hu],.cC⟩
 . rename_i m _ _ hu;have:=hv.cT;subst this
   split at hd
   . rename_i es clock hg;cases hd;obtain⟨_,ao,g1,g2⟩:=x.obj _ _ hg;cases g2 with
     |map g2=>exact⟨_,by simp only[hu,g1],.cC⟩
   . cases hd
 . cases hd
def kz(dh:ah)(it:DV)(isString:Bool):Option (DV×ah×Nat):=
 match it with
 |.v (.pointer (some ⟨r,0,none⟩))=>match dh.get r,isString with
  |some (.eO s pos),true=>if pos<s.size then some (.bf [.v (.bool true),.v (.int .i64 pos),.v (.int .i32 (Utf8.decode s pos).1)],dh.set r (some (.eO s (pos+(Utf8.decode s pos).2))),r)else some (.bf [.v (.bool false)],dh,r)
  |some (.cC none _ _ _),false=>some (.bf [.v (.bool false)],dh,r)
  |some (.cC (some m) since seen last),false=>match dh.get m with
   |some (.map es clock)=>
    if(!seen.isEmpty&& !es.isEmpty&&es.all λx=>YN last x.born)=true then none else
    match(es.filter λx=> !seen.contains x.born).filter λx=>decide (x.born<since),(es.filter λx=> !seen.contains x.born).filter λx=>decide (x.born>=since)with
    |[],[]=>some (.bf [.v (.bool false)],dh,r)
    |[x],[]=>some (.bf [.v (.bool true),fO x.key,x.val],dh.set r (some (.cC (some m) since (seen++[x.born]) clock)),r)
    |_,_=>none
   |_=>none
  |_,_=>none
 |_=>none
def vE{f:MapEntry->Bool}{g:bG->Bool}(aG:∀x y,iL R x y->f x=g y):∀{es:List MapEntry} {ds:List bG},aU (iL R) es ds->aU (iL R) (es.filter f) (ds.filter g)
 |_,_,.nil=>.nil
 |_,_,.cons (a:=x) (b:=y) h1 h2=>by
  simp only[List.filter_cons,aG x y h1]
  split
  . exact .cons h1 (vE aG h2)
  . exact vE aG h2
def FO{f:MapEntry->Bool}{g:bG->Bool}(aG:∀x y,iL R x y->f x=g y):∀{es:List MapEntry} {ds:List bG},aU (iL R) es ds->es.all f=ds.all g
 |_,_,.nil=>rfl
 |_,_,.cons (a:=x) (b:=y) h1 h2=>by simp only[List.all_cons,aG x y h1,FO aG h2]
def RX(x:bP G h dh){it:Value}{aR d:DV}{s:Bool}{ad:ah}{b:Nat}(hv:Rel (aP h G) it aR)(hd:kz dh aR s=some (d,ad,b)):∃v h',pV h it s=some (v,h')/\Rel (aP h' G) v d/\bP G h' ad/\Kp G h dh G h' ad/\∀i,i≠b->h'.get i=h.get i/\ad.get i=dh.get i:=by
 unfold kz at hd;unfold pV
 split at hd
 . rename_i r;have:=hv.cT;subst this
   split at hd
   . rename_i st pos hg;obtain⟨_,ao,g1,g2⟩:=x.obj _ _ hg;cases g2 with
     |eO=>
      simp only[g1]
      split at hd
      . rename_i aZ;simp only[oY,Ey]at hd;obtain⟨rfl,rfl,rfl⟩:=hd;have:HT pos st.size=true:=Rb aZ;simp only[this,cond_true];obtain⟨k1,k2⟩:=x.set hg (ao:=.eO st (pos+(Utf8.decode st pos).2)) .eO;exact⟨_,_,rfl,Rel.jP (a:=[.bool true,.int .i64 pos,.int .i32 (Utf8.decode st pos).1]) (.cons (.v _) (.cons (.v _) (.cons (.v _) .nil))),k1,k2,λi hi=>⟨bE _ _ _ _ hi,by rw[ah.bD,if_neg hi]⟩⟩
      . rename_i aZ;simp only[oY,Ey]at hd;obtain⟨rfl,rfl,rfl⟩:=hd;have:HT pos st.size=false:=by
         cases hb:HT pos st.size with
         |false=>rfl
         |true=>exact absurd (afl hb) aZ
        simp only[this,cond_false];exact⟨_,_,rfl,Rel.jP (a:=[.bool false]) (.cons (.v _) .nil),x,Kp.refl _ _ _,λ_ _=>aw⟩
   . rename_i hg;obtain⟨_,ao,g1,g2⟩:=x.obj _ _ hg;cases g2 with
     |cC=>
      simp only[g1];simp only[oY,Ey]at hd;obtain⟨rfl,rfl,rfl⟩:=hd;exact⟨_,_,rfl,Rel.jP (a:=[.bool false]) (.cons (.v _) .nil),x,Kp.refl _ _ _,λ_ _=>⟨rfl,rfl⟩⟩
   . rename_i m since seen last hg;obtain⟨_,ao,g1,g2⟩:=x.obj _ _ hg;cases g2 with
     |cC=>
      simp only[g1]
      split at hd
      . rename_i es clock ba;obtain⟨_,bk,g3,g4⟩:=x.obj _ _ ba;cases g4 with
        | @map res _ _ g4=>
         simp only[g3]
         split at hd
         . cases hd
         . rename_i bT;have e1:res.isEmpty=es.isEmpty:=by cases g4<;>rfl
           have e2:(res.all λx=>YN last x.born)=es.all λx=>YN last x.born:=FO (λa b aH=>by rw[aH.born]) g4;have bc:(!seen.isEmpty&& !res.isEmpty&&res.all λx=>YN last x.born)=false:=by rw[e1,e2];simpa using bT
           have f0:=vE (f:=λx=> !seen.contains x.born) (g:=λx=> !seen.contains x.born) (λa b aH=>by rw[aH.born]) g4;have f1:=vE (f:=λx=>decide (x.born<since)) (g:=λx=>decide (x.born<since)) (λa b aH=>by rw[aH.born]) f0;have f2:=vE (f:=λx=>decide (x.born>=since)) (g:=λx=>decide (x.born>=since)) (λa b aH=>by rw[aH.born]) f0;simp only[bc,cond_false]
           split at hd
           . rename_i h1 h2;rw[h1]at f1;rw[h2]at f2;simp only[oY,Ey]at hd;obtain⟨rfl,rfl,rfl⟩:=hd;have z1:=f1.length;have z2:=f2.length;rw[aff z1,aff z2];exact⟨_,_,rfl,Rel.jP (a:=[.bool false]) (.cons (.v _) .nil),x,Kp.refl _ _ _,λ_ _=>⟨rfl,rfl⟩⟩
           . rename_i y h1 h2;rw[h1]at f1;rw[h2]at f2;simp only[oY,Ey]at hd;obtain⟨rfl,rfl,rfl⟩:=hd;have z2:=f2.length;rw[aff z2];generalize bZ:(res.filter λx=> !seen.contains x.born).filter (λx=>decide (x.born<since))=fe at f1;cases f1 with
             | @cons z _ _ _ hz hn=>
              cases hn;simp only;obtain⟨k1,k2⟩:=x.set hg (ao:=.cC (some m) since (seen++[z.born]) clock) (o:=.cC (some m) since (seen++[y.born]) clock) (by rw[hz.born];exact .cC);refine⟨_,_,rfl,Rel.jP (a:=[.bool true,z.key,z.val]) (.cons (.v _) (.cons (by rw[hz.key];exact tJ _) (.cons (hz.val.mono (k2.aP x)) .nil))),k1,k2,λi hi=>⟨bE _ _ _ _ hi,by rw[ah.bD,if_neg hi]⟩⟩
           . cases hd
      . cases hd
   . cases hd
 . cases hd
def FP{R:Rows}{f:MapEntry->Bool}{g:bG->Bool}(aG:∀x y,iL R x y->f x=g y):∀{es:List MapEntry} {ds:List bG},aU (iL R) es ds->∀{y:bG},ds.find? g=some y->∃x,es.find? f=some x/\iL R x y
 |_,_,.nil,y,h=>by cases h
 |_,_,.cons (a:=a) (b:=b) h1 h2,y,h=>by
  simp only[List.find?_cons,aG a b h1]at h⊢
  split at h
  . cases h;exact⟨a,rfl,h1⟩
  . exact FP aG h2 h
def tK(dh:ah):DV->Option DV
 |.v (.pointer (some ⟨r,0,none⟩))=>match dh.get r with
  |some (.cC (some m) _ seen an)=>match seen.getLast?,dh.get m with
   |some az,some (.map es clock)=>if clock=an then(es.find? λx=>x.born==az).map λx=>.bf [fO x.key,x.val]else none
   |_,_=>none
  |_=>none
 |_=>none
def RY(x:bP G h dh){it:Value}{aR d:DV}(hv:Rel (aP h G) it aR)(hd:tK dh aR=some d):∃v,qV h it=some v/\Rel (aP h G) v d:=by
 unfold tK at hd
 split at hd
 . rename_i r;have:=hv.cT;subst this
   split at hd
   . rename_i m s seen an hg;obtain⟨_,ao,g1,g2⟩:=x.obj _ _ hg;cases g2 with
     |cC=>
      split at hd
      . rename_i az es clock hl ba;obtain⟨_,bk,g3,g4⟩:=x.obj _ _ ba;cases g4 with
        | @map res _ _ g4=>
         split at hd
         . rename_i hc;subst hc;rw[yx]at hd;obtain⟨y,h1,rfl⟩:=hd;obtain⟨z,h2,h3⟩:=FP (f:=λx=>x.born==az) (λa b aH=>by rw[aH.born]) g4 h1;refine⟨.tuple #[z.key,z.val],by simp only[qV,g1,hl,g3,Q0,cond_true,h2],Rel.jP (a:=[z.key,z.val]) (.cons (by rw[h3.key];exact tJ _) (.cons h3.val .nil))⟩
         . cases hd
      . cases hd
   . cases hd
 . cases hd
def x4(dh:ah)(d:DV)(K:DV->ah->Nat->Prop):Prop:=∃r m since seen last es clock,d=.v (.pointer (some ⟨r,0,none⟩))/\dh.get r=some (.cC (some m) since seen last)/\dh.get m=some (.map es clock)/\(∀x∈es,x.born<since)/\since<=last/\
 ((∀x∈es,seen.contains x.born=true)->K (.bf [.v (.bool false)]) dh r)/\∀x∈es,seen.contains x.born=false->K (.bf [.v (.bool true),fO x.key,x.val]) (dh.set r (some (.cC (some m) since (seen++[x.born]) clock))) r
def FQ{R:Rows}:∀{es:List MapEntry} {ds:List bG},aU (iL R) es ds->(∀x∈es,∃y∈ds,iL R x y)/\∀y∈ds,∃x∈es,iL R x y
 |_,_,.nil=>⟨λ_ h=>(by cases h),λ_ h=>(by cases h)⟩
 |_,_,.cons (a:=a) (b:=b) h1 h2=>by
  obtain⟨h3,h4⟩:=FQ h2;refine⟨λx hx=> ?_,λy hy=> ?_⟩
  . rcases List.mem_cons.1 hx with rfl|hx
    . exact⟨b,afw,h1⟩
    . obtain⟨y,hy,hr⟩:=h3 x hx;exact⟨y,afk _ hy,hr⟩
  . rcases List.mem_cons.1 hy with rfl|hy
    . exact⟨a,afw,h1⟩
    . obtain⟨x,hx,hr⟩:=h4 y hy;exact⟨x,afk _ hx,hr⟩
def x4.ok(x:bP G h dh){v:Value}{d:DV}(hv:Rel (aP h G) v d){K:DV->ah->Nat->Prop}(hs:x4 dh d K):
 AK h v λu h'=>∃d ad b,bP G h' ad/\Kp G h dh G h' ad/\Rel (aP h' G) u d/\(∀i,i≠b->h'.get i=h.get i/\ad.get i=dh.get i)/\K d ad b:=by
 obtain⟨r,m,since,seen,last,es,clock,rfl,hr,hm,hold,bW,h0,h1⟩:=hs;have:=hv.cT;subst this;obtain⟨_,ao,g1,g2⟩:=x.obj _ _ hr;cases g2 with
 |cC=>
  obtain⟨_,bk,g3,g4⟩:=x.obj _ _ hm;cases g4 with
  | @map res _ _ g4=>
   obtain⟨m1,m2⟩:=FQ g4;refine⟨r,m,since,seen,last,res,clock,rfl,g1,g3,λz hz=> ?_,bW,λha=> ?_,λz hz bX=> ?_⟩
   . obtain⟨y,hy,aL⟩:=m1 z hz;rw[aL.born];exact hold y hy
   . exact⟨_,dh,r,x,Kp.refl _ _ _,Rel.jP (a:=[.bool false]) (.cons (.v _) .nil),λ_ _=>⟨rfl,rfl⟩,h0 λy hy=>by
      obtain⟨z,hz,aL⟩:=m2 y hy;rw[<-aL.born];exact ha z hz⟩
   . obtain⟨y,hy,aL⟩:=m1 z hz;obtain⟨k1,k2⟩:=x.set hr (ao:=.cC (some m) since (seen++[z.born]) clock) (o:=.cC (some m) since (seen++[y.born]) clock) (by rw[aL.born];exact .cC);exact⟨_,_,r,k1,k2,Rel.jP (a:=[.bool true,z.key,z.val]) (.cons (.v _) (.cons (by rw[aL.key];exact tJ _) (.cons (aL.val.mono (k2.aP x)) .nil))),λi hi=>⟨bE _ _ _ _ hi,by rw[ah.bD,if_neg hi]⟩,h1 y hy (by rw[<-aL.born];exact bX)⟩
end Go.aD
end
noncomputable section
namespace Go.aD
variable {e:Env} {G:Nat->Prop} {h:ab} {dh:ah} {t:Tr Value} {dt:Tr DV} {R:Rows} {ar:Bool}
abbrev cX:DV:=.v undef
def oT:Rel R undef cX:=.v _
abbrev b9:Type:=DV->List FuncId->ah->List Nat->Prop
def lF(G:Nat->Prop)(h:ab)(dh:ah)(K:DV->ah->List Nat->Prop)(v:Value)(h':ab):Prop:=
 ∃d ad G' T,bP G' h' ad/\Kp G h dh G' h' ad/\Rel (aP h' G') v d/\(∀i,i<h.next->i∉T->h'.get i=h.get i/\ad.get i=dh.get i)/\K d ad T
def vF(G:Nat->Prop)(h:ab)(dh:ah)(K:b9)(v:Value)(aG:List Deferred)(h':ab):Prop:=
 ∃d aC ad G' T,bP G' h' ad/\Kp G h dh G' h' ad/\Rel (aP h' G') v d/\aU rT aG aC/\(∀i,i<h.next->i∉T->h'.get i=h.get i/\ad.get i=dh.get i)/\K d aC ad T
def cJ(e:Env)(ar:Bool)(f:FuncId)(aA:List DV)(dh:ah)(K:DV->ah->List Nat->Prop):Prop:=
 ∀G h args,bP G h dh->cj (aP h G) args aA->match ar with
  |true=>∃v h',bU e f args h v h'/\lF G h dh K v h'
  |false=>fm e f args h (lF G h dh K)
def jo:Option DV->Option (List DV)->Option (FuncId×List DV)
 |some (.fn f a c),some args=>some (f,a++args++c)
 |_,_=>none
def RZ(ht:TD R t dt){f:Operand}{l:List Operand}{p:FuncId×List DV}(hd:jo (aJ e dt f) (cM e dt l)=some p):∃args,qb (aE e t f) (db e t l)=some (p.1,args)/\cj R args p.2:=by
 unfold jo at hd
 split at hd
 . rename_i g a c args h1 h2;cases hd;obtain⟨v,h3,h4⟩:=ff ht h1;obtain⟨vs,h5,h6⟩:=mP ht h2;obtain⟨a',c',rfl,h7,h8⟩:=h4.vA;exact⟨(a'.toList++vs)++c'.toList,by rw[h3,h5];rfl,aU.append (aU.append h7 h6) h8⟩
 . cases hd
def cx(e:Env)(ar:Bool)(op:Op)(t:Tr DV)(dd:List FuncId)(h:ah)(K:b9):Prop:=
 match op with
 |.alloc ty=>aN (dV e t (.alloc ty)) λp=>K (p.2 h.next) dd (h.new p.1) []
 |.box ty x=>aN (dV e t (.box ty x)) λp=>K (p.2 h.next) dd (h.new p.1) []
 |.buildSlice ty n ps=>aN (dV e t (.buildSlice ty n ps)) λp=>K (p.2 h.next) dd (h.new p.1) []
 |.makeMap ty n=>aN (dV e t (.makeMap ty n)) λp=>K (p.2 h.next) dd (h.new p.1) []
 |.makeSlice ty l c=>aN (dV e t (.makeSlice ty l c)) λp=>K (p.2 h.next) dd (h.new p.1) []
 |.store ty a x=>aN (lC e h ty (aJ e t a) (aJ e t x)) λp=>K cX dd p.1 [p.2]
 |.mapUpdate ty m k v=>aN (jn e h ty (aJ e t m) (aJ e t k) (aJ e t v)) λp=>K cX dd p.1 [p.2]
 |.insert ty m k v=>aN (jn e h ty (aJ e t m) (aJ e t k) (aJ e t v)) λp=>K cX dd p.1 [p.2]
 |.range ty x=>aN ((aJ e t x).bind (lD e h ty)) λo=>K (.v (.pointer (some ⟨h.next,0,none⟩))) dd (h.new o) []
 |.next it s=>match ar with
  |true=>aN ((aJ e t it).bind (kz h · s)) λp=>K p.1 dd p.2.1 [p.2.2]
  |false=>(aN ((aJ e t it).bind (kz h · s)) λp=>K p.1 dd p.2.1 [p.2.2])\/(s=false/\aN (aJ e t it) λd=>x4 h d λv h r=>K v dd h [r])
 |.entry it=>aN ((aJ e t it).bind (tK h)) λv=>K v dd h []
 |.defer c=>match c.callee with
  |.value f=>aN (jo (aJ e t f) (cM e t c.args.toList)) λp=>K cX (p.1::dd) h []
  |_=>False
 |.call c=>match c.callee with
  |.value f=>aN (jo (aJ e t f) (cM e t c.args.toList)) λp=>cJ e ar p.1 p.2 h λv h' T=>K v dd h' T
  |.builtin .append=>aN (iO e h c.argTypes (cM e t c.args.toList)) λp=>K p.1 dd p.2.1 p.2.2
  |.builtin .clear=>aN (AY e h c.argTypes (cM e t c.args.toList)) λp=>K cX dd p.1 [p.2]
  |_=>aN (aZ e h t (.call c)) λv=>K v dd h []
 |op=>aN (aZ e h t op) λv=>K v dd h []
def qt(ht:TD R t dt)(o:Operand):∀d,aJ e dt o=some d->∃u,aE e t o=some u/\Rel R u d:=λd hd=>ff ht hd
def ia(e:Env)(ar:Bool)(op:Op)(t:Tr Value)(ds:List Deferred)(h:ab)(K:Kt):Prop:=match ar with
 |true=>bL e none op t ds h K
 |false=>jl e none op t ds h K
def ia.of{op:Op}{ds:List Deferred}{K:Kt}(hs:bL e none op t ds h K)(hc:∀c f,op=.call c->c.callee≠.value f):ia e ar op t ds h K:=by
 cases ar with
 |true=>exact hs
 |false=>
  show jl e none op t ds h K;cases op with
  |call c=>
   unfold jl;simp only
   split
   . rename_i f hf;exact absurd hf (hc c f rfl)
   . exact hs
  |next it s=>exact .inl hs
  |_=>exact hs
def cx.x(x:bP G h dh)(ht:TD (aP h G) t dt){ds:List Deferred}{dd:List FuncId}(aj:aU rT ds dd){op:Op}{K:b9}(hs:cx e ar op dt dd dh K):ia e ar op t ds h (vF G h dh K):=by
 have val:∀{d:DV},aZ e dh dt op=some d->K d dd dh []->∃v,bI e h t op=some v/\vF G h dh K v ds h:=λhv hk=>by
  obtain⟨v,h1,h2⟩:=xZ x ht hv;exact⟨v,h1,_,dd,dh,G,[],x,Kp.refl _ _ _,h2,aj,λ_ _ _=>⟨rfl,rfl⟩,hk⟩
 have alloc:∀{p:bJ×(Nat->DV)},dV e dt op=some p->K (p.2 dh.next) dd (dh.new p.1) []->∃p:bR×(Nat->Value),cU e t op=some p/\vF G h dh K (p.2 h.next) ds (h.new p.1):=λ{p} hv hk=>by
  obtain⟨o,f⟩:=p;obtain⟨ao,af,h1,h2,h3⟩:=FI ht hv;obtain⟨k1,k2⟩:=x.new h2;refine⟨(ao,af),h1,_,dd,_,G,[],k1,k2, ?_,aj,λi hi _=>⟨bO _ _ _ aa,by rw[ah.cW,if_neg (by have:=x.next;omega)]⟩,hk⟩;rw[x.next];exact h3 _ _
 cases op with
 |alloc ty=>obtain⟨p,h1,h2⟩:=hs;exact ia.of (alloc h1 h2) (λc f hc=>by cases hc)
 |box ty o=>obtain⟨p,h1,h2⟩:=hs;exact ia.of (alloc h1 h2) (λc f hc=>by cases hc)
 |buildSlice ty n ps=>obtain⟨p,h1,h2⟩:=hs;exact ia.of (alloc h1 h2) (λc f hc=>by cases hc)
 |makeMap ty n=>obtain⟨p,h1,h2⟩:=hs;exact ia.of (alloc h1 h2) (λc f hc=>by cases hc)
 |makeSlice ty l c=>obtain⟨p,h1,h2⟩:=hs;exact ia.of (alloc h1 h2) (λc f hc=>by cases hc)
 |store ty a o=>
  obtain⟨⟨ad,b⟩,h1,h2⟩:=hs;obtain⟨h',k1,k2,k3,k4⟩:=RP x (qt ht a) (qt ht o) h1;exact ia.of ⟨h',k1,cX,dd,ad,G,[b],k2,k3,oT,aj,λi _ hi=>k4 i (by simpa using hi),h2⟩ (λc f hc=>by cases hc)
 |mapUpdate ty m k v=>
  obtain⟨⟨ad,b⟩,h1,h2⟩:=hs;obtain⟨h',k1,k2,k3,k4⟩:=FN x (qt ht m) (qt ht k) (qt ht v) h1;exact ia.of ⟨h',k1,cX,dd,ad,G,[b],k2,k3,oT,aj,λi _ hi=>k4 i (by simpa using hi),h2⟩ (λc f hc=>by cases hc)
 |insert ty m k v=>
  obtain⟨⟨ad,b⟩,h1,h2⟩:=hs;obtain⟨h',k1,k2,k3,k4⟩:=FN x (qt ht m) (qt ht k) (qt ht v) h1;exact ia.of ⟨h',k1,cX,dd,ad,G,[b],k2,k3,oT,aj,λi _ hi=>k4 i (by simpa using hi),h2⟩ (λc f hc=>by cases hc)
 |range ty o=>
  obtain⟨ob,h1,h2⟩:=hs;obtain⟨d,h3,h4⟩:=Fj.1 h1;obtain⟨v,h5,h6⟩:=ff ht h3;obtain⟨ao,h7,h8⟩:=RW x h6 h4;obtain⟨k1,k2⟩:=x.new h8;refine ia.of ⟨ao,by rw[h5];exact h7,_,dd,_,G,[],k1,k2,by rw[x.next];exact .v _,aj,λi hi _=>⟨bO _ _ _ aa,by rw[ah.cW,if_neg (by have:=x.next;omega)]⟩,h2⟩ (λc f hc=>by cases hc)
 |next it s=>
  have one:(aN ((aJ e dt it).bind (kz dh · s)) λp=>K p.1 dd p.2.1 [p.2.2])->ia e ar (.next it s) t ds h (vF G h dh K):=λhs=>by
   obtain⟨⟨d,ad,b⟩,h1,h2⟩:=hs;obtain⟨aR,h3,h4⟩:=Fj.1 h1;obtain⟨v,h5,h6⟩:=ff ht h3;obtain⟨u,h',k1,k2,k3,k4,k5⟩:=RX x h6 h4;exact ia.of ⟨(u,h'),by rw[h5];exact k1,d,dd,ad,G,[b],k3,k4,k2,aj,λi _ hi=>k5 i (by simpa using hi),h2⟩ (λc f hc=>by cases hc)
  cases ar with
  |true=>exact one hs
  |false=>
   rcases hs with hs|⟨rfl,d,h1,h2⟩
   . exact one hs
   . obtain⟨v,h3,h4⟩:=ff ht h1;refine .inr ⟨rfl,v,h3, ?_⟩;obtain⟨r,m,since,seen,last,es,clock,q1,q2,q3,q4,q5,q6,q7⟩:=h2.ok x h4;have post:∀u h',(∃d ad b,bP G h' ad/\Kp G h dh G h' ad/\Rel (aP h' G) u d/\(∀i,i≠b->h'.get i=h.get i/\ad.get i=dh.get i)/\K d dd ad [b])->vF G h dh K u ds h':=λu h' ⟨d,ad,b,p1,p2,p3,p4,p5⟩=>
      ⟨d,dd,ad,G,[b],p1,p2,p3,aj,λi _ hi=>p4 i (by simpa using hi),p5⟩
     exact⟨r,m,since,seen,last,es,clock,q1,q2,q3,q4,q5,λha=>post _ _ (q6 ha),λy hy hn=>post _ _ (q7 y hy hn)⟩
 |entry it=>
  obtain⟨d,h1,h2⟩:=hs;obtain⟨aR,h3,h4⟩:=Fj.1 h1;obtain⟨v,h5,h6⟩:=ff ht h3;obtain⟨u,k1,k2⟩:=RY x h6 h4;exact ia.of ⟨u,by rw[h5];exact k1,d,dd,dh,G,[],x,Kp.refl _ _ _,k2,aj,λ_ _ _=>⟨rfl,rfl⟩,h2⟩ (λc f hc=>by cases hc)
 |defer c=>
  refine ia.of ?_ (λc f hc=>by cases hc);simp only[cx]at hs
  split at hs
  . rename_i f hf;simp only[bL,hf];obtain⟨p,h1,h2⟩:=hs;unfold jo at h1
    split at h1
    . rename_i g a cp args h3 h4;cases h1;obtain⟨v,h5,h6⟩:=ff ht h3;obtain⟨vs,h7,h8⟩:=mP ht h4;obtain⟨a',c',rfl,h9,aY⟩:=h6.vA;refine⟨trivial,vs,h7,_,by rw[h5];rfl, ?_⟩;exact⟨cX,g::dd,dh,G,[],x,Kp.refl _ _ _,oT,.cons ⟨_,_,rfl⟩ aj,λ_ _ _=>⟨rfl,rfl⟩,h2⟩
    . cases h1
  . cases hs
 |call c=>
  simp only[cx]at hs
  split at hs
  . rename_i f hf;obtain⟨p,h1,h2⟩:=hs;obtain⟨args,h3,h4⟩:=RZ ht h1;have h5:=h2 G h args x h4;cases ar with
    |true=>
     obtain⟨v,h',h6,d,ad,G',T,k1,k2,k3,k4,k5⟩:=h5;show bL e none (.call c) t ds h _;simp only[bL,hf];exact⟨_,h3,v,h',h6,d,dd,ad,G',T,k1,k2,k3,aj,k4,k5⟩
    |false=>
     show jl e none (.call c) t ds h _;simp only[jl,hf];exact⟨_,h3,h5.mono λv h' ⟨d,ad,G',T,k1,k2,k3,k4,k5⟩=>⟨d,dd,ad,G',T,k1,k2,k3,aj,k4,k5⟩⟩
  . rename_i hf;refine ia.of ?_ (λc' f hc hv=>by cases hc;rw[hf]at hv;cases hv);obtain⟨⟨d,ad,T⟩,h1,h2⟩:=hs;obtain⟨v,h',k1,k2,k3,k4,k5⟩:=RV x (λl hl=>mP ht hl) h1;simp only[bL,hf];exact⟨(v,h'),k1,d,dd,ad,G,T,k3,k4,k2,aj,k5,h2⟩
  . rename_i hf;refine ia.of ?_ (λc' f hc hv=>by cases hc;rw[hf]at hv;cases hv);obtain⟨⟨ad,b⟩,h1,h2⟩:=hs;obtain⟨v,h',k1,rfl,k3,k4,k5⟩:=RR x (λl hl=>mP ht hl) h1;simp only[bL,hf];exact⟨(undef,h'),k1,cX,dd,ad,G,[b],k3,k4,oT,aj,λi _ hi=>k5 i (by simpa using hi),h2⟩
  . rename_i aO aS aT;obtain⟨d,h1,h2⟩:=hs;refine ia.of ?_ (λc' f hc hv=>by cases hc;exact aO f hv);obtain⟨v,h3,h4⟩:=val h1 h2;simp only[bL]
    split
    . rename_i f hf;exact absurd hf (aO f)
    . rename_i hf;exact absurd hf aS
    . rename_i hf;simp[aZ,hf]at h1
    . rename_i hf;exact absurd hf aT
    . exact⟨v,h3,h4⟩
 |_=>obtain⟨d,h1,h2⟩:=hs;exact ia.of (val h1 h2) (λc f hc=>by cases hc)
def cH(dst:Option Tmp)(v:DV)(t:Tr DV):Tr DV:=match dst with|none=>t|some d=>t.set d (some v)
def TD.put(ht:TD R t dt)(dst:Option Tmp){v:Value}{d:DV}(hv:Rel R v d):TD R (bN dst v t) (cH dst d dt):=by
 cases dst with
 |none=>exact ht
 |some k=>
  refine⟨ht.tb,λi u hu=> ?_⟩;simp only[cH,Tr.bD]at hu;simp only[bN,Tr.bD]
  split at hu
  . rename_i hi;cases hu;exact⟨v,by rw[if_pos hi],hv⟩
  . rename_i hi;rw[if_neg hi];exact ht i u hu
def TD.mono{R':Rows}(hR:∀i r,R i=some r->R' i=some r)(ht:TD R t dt):TD R' t dt:=⟨ht.tb.mono hR,λi v hv=>let⟨u,h1,h2⟩:=ht i v hv;⟨u,h1,h2.mono hR⟩⟩
def iD(ops:List Oper)(t:Tr DV)(o:Oper):Option Bool:=
 match o.guard with
 |none=>some true
 |some (j,want)=>match(ops[j]?).bind (·.dst)with
  |none=>none
  |some d=>match t.get d with
   |some (.v (.bool b))=>some (b==want)
   |some (.v (.tuple _))=>some false
   |some (.bf _)=>some false
   |_=>none
def A8(ht:TD R t dt){ops:List Oper}{o:Oper}{b:Bool}{n:Nat}{ds:List Deferred}(hd:iD ops dt o=some b):cZ ops ⟨t,n,ds,h⟩ o=some b:=by
 unfold iD at hd;unfold cZ
 split at hd
 . rename_i hg;rw[hg];exact hd
 . rename_i j w hg;rw[hg];simp only
   split at hd
   . cases hd
   . rename_i d aV;simp only[aV]
     split at hd
     . rename_i q hq;obtain⟨u,h1,h2⟩:=ht d _ hq;have:=h2.cT;subst this;simp only[h1];exact hd
     . rename_i q hq;obtain⟨u,h1,h2⟩:=ht d _ hq;have:=h2.cT;subst this;simp only[h1];exact hd
     . rename_i q hq;obtain⟨u,h1,h2⟩:=ht d _ hq;obtain⟨a,rfl,_⟩:=h2.AM;simp only[h1];exact hd
     . cases hd
def eU(e:Env)(ar:Bool)(ops:List Oper):List Oper->Tr DV->Nat->List FuncId->ah->(DS->Prop)->Prop
 |[],t,n,dd,h,K=>K ⟨t,n,dd,h⟩
 |o::r,t,n,dd,h,K=>dB o.dst n/\aN (iD ops t o) λw=>match w with
  |true=>cx e ar o.op t dd h λv dd h _=>eU e ar ops r (cH o.dst v t) n dd h K
  |false=>eU e ar ops r (cH o.dst cX t) n dd h K
def mT(G:Nat->Prop)(h:ab)(dh:ah)(K:DS->Prop)(s':aM):Prop:=∃d' G',SD G' s' d'/\Kp G h dh G' s'.h d'.h/\K d'
def bL.mono{op:Op}{ds:List Deferred}{K K':Kt}(hk:∀v ds h,K v ds h->K' v ds h)(hs:bL e none op t ds h K):bL e none op t ds h K':=by
 cases op with
 |alloc ty=>obtain⟨p,h1,h2⟩:=hs;exact⟨p,h1,hk _ _ _ h2⟩
 |box ty x=>obtain⟨p,h1,h2⟩:=hs;exact⟨p,h1,hk _ _ _ h2⟩
 |buildSlice ty n ps=>obtain⟨p,h1,h2⟩:=hs;exact⟨p,h1,hk _ _ _ h2⟩
 |makeMap ty n=>obtain⟨p,h1,h2⟩:=hs;exact⟨p,h1,hk _ _ _ h2⟩
 |makeSlice ty l c=>obtain⟨p,h1,h2⟩:=hs;exact⟨p,h1,hk _ _ _ h2⟩
 |store ty a o=>obtain⟨p,h1,h2⟩:=hs;exact⟨p,h1,hk _ _ _ h2⟩
 |mapUpdate ty m k v=>obtain⟨p,h1,h2⟩:=hs;exact⟨p,h1,hk _ _ _ h2⟩
 |insert ty m k v=>obtain⟨p,h1,h2⟩:=hs;exact⟨p,h1,hk _ _ _ h2⟩
 |range ty o=>obtain⟨p,h1,h2⟩:=hs;exact⟨p,h1,hk _ _ _ h2⟩
 |next it s=>obtain⟨p,h1,h2⟩:=hs;exact⟨p,h1,hk _ _ _ h2⟩
 |entry it=>obtain⟨p,h1,h2⟩:=hs;exact⟨p,h1,hk _ _ _ h2⟩
 |defer c=>
  simp only[bL]at hs⊢
  split at hs
  . obtain⟨h0,a,h1,x,h2,h3⟩:=hs;refine⟨h0,a,h1,x,h2, ?_⟩
    split at h3
    . exact hk _ _ _ h3
    . exact h3.elim
  . exact hs
 |call c=>
  simp only[bL]at hs⊢
  split at hs
  . obtain⟨p,h1,v,h',h2,h3⟩:=hs;exact⟨p,h1,v,h',h2,hk _ _ _ h3⟩
  . obtain⟨p,h1,h2⟩:=hs;exact⟨p,h1,hk _ _ _ h2⟩
  . obtain⟨p,h1,h2⟩:=hs;exact⟨p,h1,hk _ _ _ h2⟩
  . obtain⟨p,h1,h2⟩:=hs;exact⟨p,h1,hk _ _ _ h2⟩
  . obtain⟨p,h1,h2⟩:=hs;exact⟨p,h1,hk _ _ _ h2⟩
 |_=>obtain⟨p,h1,h2⟩:=hs;exact⟨p,h1,hk _ _ _ h2⟩
def jl.mono{op:Op}{ds:List Deferred}{K K':Kt}(hk:∀v ds h,K v ds h->K' v ds h)(hs:jl e none op t ds h K):jl e none op t ds h K':=by
 cases op with
 |call c=>
  simp only[jl]at hs⊢
  split at hs
  . obtain⟨p,h1,h2⟩:=hs;exact⟨p,h1,h2.mono λv h'=>hk v ds h'⟩
  . exact bL.mono hk hs
 |next it s=>
  simp only[jl]at hs⊢;rcases hs with hs|⟨rfl,v,hv,r,m,since,seen,last,es,clock,q1,q2,q3,q4,q5,q6,q7⟩
  . exact .inl (bL.mono hk hs)
  . exact .inr ⟨rfl,v,hv,r,m,since,seen,last,es,clock,q1,q2,q3,q4,q5,λha=>hk _ _ _ (q6 ha),λy hy hn=>hk _ _ _ (q7 y hy hn)⟩
 |_=>simp only[jl]at hs⊢;exact bL.mono hk hs
def eU.A9{ops:List Oper}{n:Nat}{K:DS->Prop}:∀{l:List Oper} {G:Nat->Prop} {t:Tr Value} {dt:Tr DV} {ds:List Deferred} {dd:List FuncId} {h:ab} {dh:ah},bP G h dh->TD (aP h G) t dt->aU rT ds dd->eU e false ops l dt n dd dh K->nP e none ops l t n ds h (mT G h dh K)
 |[],G,t,dt,ds,dd,h,dh,x,ht,aj,hs=>⟨⟨dt,n,dd,dh⟩,G,⟨rfl,ht,aj,x⟩,Kp.refl _ _ _,hs⟩
 |o::r,G,t,dt,ds,dd,h,dh,x,ht,aj,hs=>by
  obtain⟨h1,w,h2,h3⟩:=hs;simp only[nP];rw[A8 ht h2];refine⟨h1, ?_⟩;have post:∀{G':Nat->Prop} {h':ab} {ad:ah},Kp G h dh G' h' ad->∀(s':aM),mT G' h' ad K s'->mT G h dh K s':=λk _ ⟨d',G2,q1,q2,q3⟩=>⟨d',G2,q1,k.trans q2,q3⟩;have mono:∀{l:List Oper} {t:Tr Value} {ds:List Deferred} {h:ab} {A B:aM->Prop},(∀s,A s->B s)->nP e none ops l t n ds h A->nP e none ops l t n ds h B:=by
   intro l
   induction l with
   |nil=>exactλav hs=>av _ hs
   |cons o r ih=>
    intro t ds h A B av hs;simp only[nP]at hs⊢;refine⟨hs.1, ?_⟩;have hs:=hs.2
    split at hs
    . exact hs
    . exact jl.mono (λv ds h=>ih av) hs
    . exact ih av hs
  cases w with
  |true=>exact jl.mono (λv aG h' ⟨d,aC,ad,G',T,k1,k2,k3,k4,_,k5⟩=>mono (post k2) (eU.A9 k1 ((ht.mono (k2.aP x)).put o.dst k3) k4 k5)) (cx.x (ar:=false) x ht aj h3)
  |false=>exact eU.A9 x (ht.put o.dst oT) aj h3
def eU.Bb{ops:List Oper}{n:Nat}{K:DS->Prop}:∀{l:List Oper} {G:Nat->Prop} {t:Tr Value} {dt:Tr DV} {ds:List Deferred} {dd:List FuncId} {h:ab} {dh:ah},bP G h dh->TD (aP h G) t dt->aU rT ds dd->eU e true ops l dt n dd dh K->iy e none ops l ⟨t,n,ds,h⟩ (mT G h dh K)
 |[],G,t,dt,ds,dd,h,dh,x,ht,aj,hs=>⟨⟨dt,n,dd,dh⟩,G,⟨rfl,ht,aj,x⟩,Kp.refl _ _ _,hs⟩
 |o::r,G,t,dt,ds,dd,h,dh,x,ht,aj,hs=>by
  obtain⟨h1,w,h2,h3⟩:=hs;simp only[iy];rw[A8 ht h2];have post:∀{G':Nat->Prop} {h':ab} {ad:ah},Kp G h dh G' h' ad->∀(s':aM),mT G' h' ad K s'->mT G h dh K s':=λk _ ⟨d',G2,q1,q2,q3⟩=>⟨d',G2,q1,k.trans q2,q3⟩;have mono:∀{l:List Oper} {s:aM} {A B:aM->Prop},(∀s,A s->B s)->iy e none ops l s A->iy e none ops l s B:=by
   intro l
   induction l with
   |nil=>exactλav hs=>av _ hs
   |cons o r ih=>
    intro s A B av h;simp only[iy]at h⊢
    split at h
    . exact h
    . unfold l7 at h⊢
      split at h
      . exact h
      . exact⟨_,h.choose_spec.1,ih av h.choose_spec.2⟩
      . exact⟨_,h.choose_spec.1,ih av h.choose_spec.2⟩
      . obtain⟨v,h',h1,s',h2,h3⟩:=h;exact⟨v,h',h1,s',h2,ih av h3⟩
      . exact h
      . exact⟨h.1,_,h.2.choose_spec.1,ih av h.2.choose_spec.2⟩
    . exact⟨_,h.choose_spec.1,ih av h.choose_spec.2⟩
  cases w with
  |true=>
   have:=cx.x (ar:=true) x ht aj h3;exact bL.xC this h1 λv aG h' ⟨d,aC,ad,G',T,k1,k2,k3,k4,_,k5⟩=>mono (post k2) (eU.Bb k1 ((ht.mono (k2.aP x)).put o.dst k3) k4 k5)
  |false=>exact⟨_,rK (s:=⟨t,n,ds,h⟩) h1,eU.Bb x (ht.put o.dst oT) aj h3⟩
def WQ(e:Env)(ar:Bool)(c:Code)(s:aM)(K:bu->aM->Prop):Prop:=match ar with
 |true=>∃x s',nG e none c s x s'/\K x s'
 |false=>WR e none c s K
def kT(G:Nat->Prop)(h:ab)(dh:ah)(K:bu->DS->Prop)(x:bu)(s':aM):Prop:=∃d' G',SD G' s' d'/\Kp G h dh G' s'.h d'.h/\K x d'
def WD(e:Env)(ar:Bool)(c:Code)(d:DS)(K:bu->DS->Prop):Prop:=∀G s,SD G s d->WQ e ar c s (kT G s.h d.h K)
def RD(e:Env)(ar:Bool):Code->DS->(bu->DS->Prop)->Prop
 |.skip,s,K=>K .normal s
 |.label _,s,K=>K .normal s
 |.scope c,s,K=>RD e ar c s K
 |.exit id,s,K=>K (.exit id) s
 |.ret,s,K=>K .ret s
 |.region _ ops true,s,K=>∀G r,SD G r s->l8 e none ops.toList r (mT G r.h s.h (K .normal))
 |.region _ ops false,s,K=>eU e ar ops.toList ops.toList s.t s.n s.dd s.h (K .normal)
 |.seq a b,s,K=>RD e ar a s λx s1=>match x with|.normal=>RD e ar b s1 K|.exit i=>K (.exit i) s1|.ret=>K .ret s1
 |.cond c a b,s,K=>aN (aJ e s.t c) λv=>match v with|.v (.bool v)=>(v=true->RD e ar a s K)/\(v=false->RD e ar b s K)|_=>False
 |.block id c,s,K=>RD e ar c s λx s1=>match x with|.normal=>K .normal s1|.exit i=>if i=id then K .normal s1 else K (.exit i) s1|.ret=>K .ret s1
 |.loop c,s,K=>WD e ar (.loop c) s K
 |_,_,_=>False
def kT.up{G G':Nat->Prop}{h h':ab}{dh ad:ah}{K:bu->DS->Prop}{x:bu}{s:aM}(k:Kp G h dh G' h' ad)(hp:kT G' h' ad K x s):kT G h dh K x s:=let⟨d,G2,q1,q2,q3⟩:=hp;⟨d,G2,q1,k.trans q2,q3⟩
def WQ.mono{c:Code}{s:aM}{K K':bu->aM->Prop}(h:WQ e ar c s K)(hk:∀x s,K x s->K' x s):WQ e ar c s K':=by
 cases ar with
 |true=>obtain⟨x,s',h1,h2⟩:=h;exact⟨x,s',h1,hk _ _ h2⟩
 |false=>exact WR.mono h hk
def WQ.seq{p q:Code}{s:aM}{K:bu->aM->Prop}(h:WQ e ar p s λx s1=>match x with|.normal=>WQ e ar q s1 K|x=>K x s1):WQ e ar (.seq p q) s K:=by
 cases ar with
 |false=>exact WR.seq h
 |true=>
  obtain⟨x,s1,h1,h2⟩:=h;cases x with
  |normal=>
   obtain⟨x2,s2,h3,h4⟩:=h2;exact⟨x2,s2,λρ a w ae n Q X ai hQ=>wpIn_seq (h1 ρ a w ae n _ X ai λa1 w1 an q1 f1=>h3 an a1 w1 ae n Q q1 (ai.mono f1.ext) λa2 w2 aW q2 f2=>hQ a2 w2 aW q2 (f1.trans (f2.mono f1.next))),h4⟩
  |exit i=>exact⟨_,s1,λρ a w ae n Q X ai hQ=>wpIn_seq (h1 ρ a w ae n _ X ai λa1 w1 an q1 f1=>hQ a1 w1 an q1 f1),h2⟩
  |ret=>exact⟨_,s1,λρ a w ae n Q X ai hQ=>wpIn_seq (h1 ρ a w ae n _ X ai λa1 w1 an q1 f1=>hQ a1 w1 an q1 f1),h2⟩
def WQ.cond{c:Operand}{p q:Code}{s:aM}{K:bu->aM->Prop}(v:Bool)(hv:aE e s.t c=some (.bool v))(ht:v=true->WQ e ar p s K)(hf:v=false->WQ e ar q s K):WQ e ar (.cond c p q) s K:=by
 cases ar with
 |false=>exact WR.cond v hv ht hf
 |true=>
  cases v with
  |true=>
   obtain⟨x,s1,h1,h2⟩:=ht rfl;exact⟨x,s1,λρ a w ae n Q X ai hQ=>wpIn_cond_true (kl X.g X.t hv a.defers).oB (h1 ρ a w ae n Q X ai hQ),h2⟩
  |false=>
   obtain⟨x,s1,h1,h2⟩:=hf rfl;exact⟨x,s1,λρ a w ae n Q X ai hQ=>wpIn_cond_false (kl X.g X.t hv a.defers).oB (h1 ρ a w ae n Q X ai hQ),h2⟩
def WQ.block{id:Nat}{c:Code}{s:aM}{K:bu->aM->Prop}(h:WQ e ar c s λx s1=>match x with|.exit i=>if i=id then K .normal s1 else K (.exit i) s1|x=>K x s1):WQ e ar (.block id c) s K:=by
 cases ar with
 |false=>exact WR.block h
 |true=>
  obtain⟨x,s1,h1,h2⟩:=h;cases x with
  |normal=>exact⟨.normal,s1,λρ a w ae n Q X ai hQ=>wpIn_block (h1 ρ a w ae n _ X ai λa1 w1 an q1 f1=>hQ a1 w1 an q1 f1),h2⟩
  |ret=>exact⟨.ret,s1,λρ a w ae n Q X ai hQ=>wpIn_block (h1 ρ a w ae n _ X ai λa1 w1 an q1 f1=>hQ a1 w1 an q1 f1),h2⟩
  |exit i=>
   by_cases aH:i=id
   . subst aH;simp only[if_true]at h2;refine⟨.normal,s1,λρ a w ae n Q X ai hQ=>wpIn_block (h1 ρ a w ae n _ X ai λa1 w1 an q1 f1=> ?_),h2⟩;show Exit.inBlock _ Q (.exit i) a1 w1;simp only[Exit.inBlock,if_true];exact hQ a1 w1 an q1 f1
   . simp only[aH,if_false]at h2;refine⟨.exit i,s1,λρ a w ae n Q X ai hQ=>wpIn_block (h1 ρ a w ae n _ X ai λa1 w1 an q1 f1=> ?_),h2⟩;show Exit.inBlock _ Q (.exit i) a1 w1;simp only[Exit.inBlock,aH,if_false];exact hQ a1 w1 an q1 f1
def WQ.loop{c:Code}{K:bu->aM->Prop}(I:Nat->aM->Prop)(hI:∀j s,I j s->WQ e ar c s λx s1=>match x with|.normal=>∃j',j'<j/\I j' s1|x=>K x s1)(j:Nat)(s:aM)(hs:I j s):WQ e ar (.loop c) s K:=by
 cases ar with
 |false=>exact WR.loop I hI j s hs
 |true=>
  have key:∀(j:Nat) (s:aM),I j s->∃k x s',nH e none c x s' k s/\K x s':=by
   intro j
   induction j using Nat.strongRecOn with
   |_ j ih=>
    intro s hs;obtain⟨x,s1,h1,h2⟩:=hI j s hs;cases x with
    |normal=>
     obtain⟨j',hj,h3⟩:=h2;obtain⟨k,x,s',h4,h5⟩:=ih j' hj s1 h3;exact⟨k+1,x,s',⟨s1,h1,h4⟩,h5⟩
    |exit i=>exact⟨0,_,s1,⟨h1,aw⟩,h2⟩
    |ret=>exact⟨0,_,s1,⟨h1,aw⟩,h2⟩
  obtain⟨k,x,s',h1,h2⟩:=key j s hs;exact⟨x,s',h1.runs k s,h2⟩
def RD.wd(he:e.Ok)(az:e.P.follows .mixedOrders=true):∀(c:Code) (d:DS) (K:bu->DS->Prop),RD e ar c d K->WD e ar c d K:=by
 intro c;have one:∀{c:Code} {s:aM} {x:bu} {K:bu->aM->Prop},nG e none c s x s->K x s->WQ e ar c s K:=λh hk=>by
  cases ar with
  |true=>exact⟨_,_,h,hk⟩
  |false=>exact h.wr hk
 induction c with
 |skip=>exactλd K h G s hs=>one (x:=.normal) (λρ a w ae n Q X ai hQ=>wpIn_skip (hQ a w ρ X (Fr.refl _ _ _ _))) ⟨d,G,hs,Kp.refl _ _ _,h⟩
 |label l=>exactλd K h G s hs=>one (x:=.normal) (λρ a w ae n Q X ai hQ=>wpIn_label (hQ a w ρ X (Fr.refl _ _ _ _))) ⟨d,G,hs,Kp.refl _ _ _,h⟩
 |scope c ih=>
  intro d K h G s hs;have h1:=ih d K h G s hs;cases ar with
  |true=>
   obtain⟨x,s',h2,h3⟩:=h1;refine⟨x,s',λρ a w ae n Q X ai hQ=>zU (h2 ρ a w ae n _ X ai λa' w' aX x' f'=> ?_),h3⟩;have:=hQ a' w' aX x' f';cases x<;>exact this
  |false=>
   intro ρ a w ae n Q X ai hQ;refine zU (h1 ρ a w ae n _ X ai λx s1 a1 w1 an k q1 f1=> ?_);have:=hQ x s1 a1 w1 an k q1 f1;cases x<;>exact this
 |exit id=>exactλd K h G s hs=>one (x:=.exit id) (λρ a w ae n Q X ai hQ=>wpIn_exit (hQ a w ρ X (Fr.refl _ _ _ _))) ⟨d,G,hs,Kp.refl _ _ _,h⟩
 |ret=>exactλd K h G s hs=>one (x:=.ret) (λρ a w ae n Q X ai hQ=>wpIn_ret (hQ a w ρ X (Fr.refl _ _ _ _))) ⟨d,G,hs,Kp.refl _ _ _,h⟩
 |region id ops draw=>
  intro d K h G s hs;cases draw with
  |true=>
   have h1:l8 e none ops.toList s (kT G s.h d.h K .normal):=h G s hs;cases ar with
   |true=>
    obtain⟨x,s',h2,h3⟩:=RQ.runs he az (.region id ops true) s (kT G s.h d.h K) h1;exact⟨x,s',h2,h3⟩
   |false=>exact WR.draw he az h1
  |false=>
   obtain⟨t,n,ds,hh⟩:=s;obtain⟨q1,q2,q3,q4⟩:=hs;simp only at q1 q2 q3 q4;subst q1;cases ar with
   |true=>
    have h1:=eU.Bb (l:=ops.toList) q4 ⟨q4.e9,q2⟩ q3 h;obtain⟨x,s',h2,h3⟩:=RQ.runs he az (.region id ops false) ⟨t,d.n,ds,hh⟩ (λx s'=>x=.normal/\mT G hh d.h (K .normal) s') (by
     show iy e none ops.toList ops.toList _ _;simpa using h1)
    obtain⟨rfl,h3⟩:=h3;exact⟨_,s',h2,h3⟩
   |false=>exact WR.ops he (eU.A9 (l:=ops.toList) q4 ⟨q4.e9,q2⟩ q3 h)
 |seq a b aK aL=>
  intro d K h G s hs;refine WQ.seq ((aK d _ h G s hs).mono λx s1 ⟨d1,G1,q1,q2,q3⟩=> ?_);cases x with
  |normal=>exact(aL d1 K q3 G1 s1 q1).mono λx s2=>kT.up q2
  |exit i=>exact⟨d1,G1,q1,q2,q3⟩
  |ret=>exact⟨d1,G1,q1,q2,q3⟩
 |cond c a b aK aL=>
  intro d K h G s hs;obtain⟨v,h1,h2⟩:=h
  split at h2
  . rename_i v;obtain⟨u,h3,h4⟩:=ff hs.td h1;have:=h4.cT;subst this;exact WQ.cond v h3 (λhv=>aK d K (h2.1 hv) G s hs) (λhv=>aL d K (h2.2 hv) G s hs)
  . exact h2.elim
 |block id c ih=>
  intro d K h G s hs;refine WQ.block ((ih d _ h G s hs).mono λx s1 ⟨d1,G1,q1,q2,q3⟩=> ?_);cases x with
  |normal=>exact⟨d1,G1,q1,q2,q3⟩
  |ret=>exact⟨d1,G1,q1,q2,q3⟩
  |exit i=>
   simp only at q3⊢
   split
   . rename_i hi;rw[if_pos hi]at q3;exact⟨d1,G1,q1,q2,q3⟩
   . rename_i hi;rw[if_neg hi]at q3;exact⟨d1,G1,q1,q2,q3⟩
 |loop c ih=>exactλd K h=>h
 |_=>exactλd K h=>h.elim
end Go.aD
end

/- Parts of a proof. -/
import Derived.Test.YtlgccnjcmfighaaGreatDoorK04
open Option.some renaming injEq->qG
open Option renaming map_eq_some_iff->yy,bind_eq_some_iff->E2,map_some->YN,pure_def->afD,bind_eq_bind->afE,bind_some->afF,isSome_iff_exists->afH
open Prod.mk renaming injEq->yB
open Nat renaming blt->FQ,beq_refl->KE,ble_eq_true_of_le->RC,ble->YT,add_mul->Zf,beq->ab8,le_refl->adv,le_of_ble_eq_true->afA,lt_of_lt_of_le->afC,mul_le_mul_right->afG
open List renaming replicate->RK,length_take->Vs,length_drop->Xy,getElem?_eq_getElem->adr,eq_nil_of_length_eq_zero->afj,getElem?_eq_some_iff->afv,mapM_cons->afw,getElem?_take->afx,getElem?_drop->afy,mem_cons_of_mem->afz,getElem?_map->afB,length_nil->afI,length_replicate->afJ,getElem?_eq_none_iff->afK,mem_cons_self->afL
open Bool renaming and_self->RW
set_option linter.all false
set_option maxRecDepth 100000
noncomputable section
namespace Go.aD
inductive DV where
 |v (x:Value)
 |agg (l:List DV)
 |bp (l:List DV)
 |fn (f:FuncId) (a c:List DV)
 |sl (k:Nat) (xs:List (List DV))
 |ptr (xs:List DV) (off:Nat)
 deriving Inhabited
abbrev Rows:=Nat->Option (List Value×Nat)
inductive Rel(R:Rows):Value->DV->Prop
 |v (x:Value):Rel R x (.v x)
 |agg {a:Array Value} {l:List DV}:a.toList.length=l.length->(∀(i:Nat) (v:Value) (d:DV),a.toList[i]? =some v->l[i]? =some d->Rel R v d)->Rel R (.agg a) (.agg l)
 |bp {a:Array Value} {l:List DV}:a.toList.length=l.length->(∀(i:Nat) (v:Value) (d:DV),a.toList[i]? =some v->l[i]? =some d->Rel R v d)->Rel R (.tuple a) (.bp l)
 |fn {f:FuncId} {a c:Array Value} {a' c':List DV}:a.toList.length=a'.length->(∀(i:Nat) (v:Value) (d:DV),a.toList[i]? =some v->a'[i]? =some d->Rel R v d)->c.toList.length=c'.length->(∀(i:Nat) (v:Value) (d:DV),c.toList[i]? =some v->c'[i]? =some d->Rel R v d)->
  Rel R (.func (.func f) a c) (.fn f a' c')
 |kJ {c k:Nat}:0<k->Rel R (.slice none 0 c) (.sl k [])
 |sl {b o c k aj:Nat} {cs:List Value} {xs:List (List DV)}:R b=some (cs,aj)->(aj=0\/aj=k)->0<k->xs.length<=c->(∀x∈xs,x.length=k)->o+xs.length*k<=cs.length->
  (∀(j:Nat) (x:List DV) (i:Nat) (v:Value) (d:DV),xs[j]? =some x->x[i]? =some d->cs[o+j*k+i]? =some v->Rel R v d)->Rel R (.slice (some ⟨b,o,none⟩) xs.length c) (.sl k xs)
 |ptr {b o off aj:Nat} {cs:List Value} {xs:List DV}:R b=some (cs,aj)->o+xs.length<=cs.length->(∀(i:Nat) (v:Value) (d:DV),xs[i]? =some d->cs[o+i]? =some v->Rel R v d)->Rel R (.pointer (some ⟨b,o+off,none⟩)) (.ptr xs off)
def Rel.mono{R R':Rows}(hR:∀i r,R i=some r->R' i=some r){v:Value}{d:DV}(h:Rel R v d):Rel R' v d:=by
 induction h with
 |v x=>exact .v x
 |agg h1 _ ih=>exact .agg h1 ih
 |bp h1 _ ih=>exact .bp h1 ih
 |fn h1 _ h3 _ ah ai=>exact .fn h1 ah h3 ai
 |kJ h=>exact .kJ h
 |sl h1 h2 h3 h4 h5 h6 _ ih=>exact .sl (hR _ _ h1) h2 h3 h4 h5 h6 ih
 |ptr h1 h2 _ ih=>exact .ptr (hR _ _ h1) h2 ih
abbrev cz(R:Rows):List Value->List DV->Prop:=aV (Rel R)
def qq{R:Rows}{a:List Value}{l:List DV}(h1:a.length=l.length)(h2:∀(i:Nat) (v:Value) (d:DV),a[i]? =some v->l[i]? =some d->Rel R v d):cz R a l:=aV.rA h1 h2
def cz.rZ{R:Rows}{a:List Value}{l:List DV}(h:cz R a l){i:Nat}{v:Value}{d:DV}(h1:a[i]? =some v)(h2:l[i]? =some d):Rel R v d:=by
 obtain⟨d',h3,h4⟩:=h.get i v h1;rw[h2]at h3;cases h3;exact h4
def cz.AM{R:Rows}{a:List Value}{l:List DV}(h:cz R a l){i:Nat}{d:DV}(h2:l[i]? =some d):∃v,a[i]? =some v/\Rel R v d:=by
 have hl:=(afv.1 h2).1;have:i<a.length:=by rw[h.length];exact hl
 exact⟨_,adr this,h.rZ (adr this) h2⟩
def Rel.dO{R:Rows}{a:List Value}{l:List DV}(h:cz R a l):Rel R (.agg a.toArray) (.agg l):=.agg (by simpa using h.length) λi v d h1 h2=>h.rZ (by simpa using h1) h2
def Rel.j9{R:Rows}{a:List Value}{l:List DV}(h:cz R a l):Rel R (.tuple a.toArray) (.bp l):=.bp (by simpa using h.length) λi v d h1 h2=>h.rZ (by simpa using h1) h2
def Rel.R5{R:Rows}{f:FuncId}{a c:List Value}{a' c':List DV}(h:cz R a a')(h':cz R c c'):Rel R (.func (.func f) a.toArray c.toArray) (.fn f a' c'):=
 .fn (by simpa using h.length) (λi v d h1 h2=>h.rZ (by simpa using h1) h2) (by simpa using h'.length) λi v d h1 h2=>h'.rZ (by simpa using h1) h2
def Rel.cQ{R:Rows}{v u:Value}(h:Rel R v (.v u)):v=u:=by cases h;rfl
def Rel.qc{R:Rows}{v:Value}{l:List DV}(h:Rel R v (.agg l)):∃a:Array Value,v=.agg a/\cz R a.toList l:=by
 cases h with|agg h1 h2=>exact⟨_,rfl,qq h1 h2⟩
def Rel.AN{R:Rows}{v:Value}{l:List DV}(h:Rel R v (.bp l)):∃a:Array Value,v=.tuple a/\cz R a.toList l:=by
 cases h with|bp h1 h2=>exact⟨_,rfl,qq h1 h2⟩
def Rel.vy{R:Rows}{v:Value}{f:FuncId}{a c:List DV}(h:Rel R v (.fn f a c)):∃a' c':Array Value,v=.func (.func f) a' c'/\cz R a'.toList a/\cz R c'.toList c:=by
 cases h with|fn h1 h2 h3 h4=>exact⟨_,_,rfl,qq h1 h2,qq h3 h4⟩
def cz.mono{R R':Rows}(hR:∀i r,R i=some r->R' i=some r){a:List Value}{l:List DV}(h:cz R a l):cz R' a l:=aV.mono h λ_ _=>Rel.mono hR
structure bH where
 key:Value
 val:DV
 born:Nat
inductive bF where
 |row (cs:List DV) (wr:Bool) (aj:Nat)
 |map (es:List bH) (clock:Nat)
 |cF (m:Option Nat) (since:Nat) (seen:List Nat) (last:Nat)
 |eY (s:ByteArray) (pos:Nat)
structure je(R:Rows)(x:MapEntry)(y:bH):Prop where
 key:x.key=y.key
 val:Rel R x.val y.val
 born:x.born=y.born
inductive jf(R:Rows):bP->bF->Prop
 |row {cs:List Value} {ds:List DV} {wr:Bool} {aj:Nat}:cz R cs ds->jf R (.row cs wr aj) (.row ds wr aj)
 |map {es:List MapEntry} {ds:List bH} {clock:Nat}:aV (je R) es ds->jf R (.map es clock) (.map ds clock)
 |cF {m:Option Nat} {since:Nat} {seen:List Nat} {last:Nat}:jf R (.cF m since seen last) (.cF m since seen last)
 |eY {s:ByteArray} {pos:Nat}:jf R (.eY s pos) (.eY s pos)
def jf.mono{R R':Rows}(hR:∀i r,R i=some r->R' i=some r){o:bP}{d:bF}(h:jf R o d):jf R' o d:=by
 cases h with
 |row h=>exact .row (h.mono hR)
 |map h=>exact .map (aV.mono h λ_ _ ⟨a,b,c⟩=>⟨a,b.mono hR,c⟩)
 |cF=>exact .cF
 |eY=>exact .eY
structure ae where
 m:Tr bF
 next:Nat
def ae.get(h:ae)(i:Nat):Option bF:=h.m.get i
def ae.set(h:ae)(i:Nat)(o:Option bF):ae:=⟨h.m.set i o,h.next⟩
def ae.new(h:ae)(o:bF):ae:=⟨h.m.set h.next (some o),h.next+1⟩
def ae.none(N:Nat):ae:=⟨.nil,N⟩
def ae.up(h:ae)(N:Nat):ae:=⟨h.m,N⟩
def ae.bu(h:ae)(i j:Nat)(o:Option bF):(h.set i o).get j=if j=i then o else h.get j:=Tr.bu _ _ _ _
def ae.dN(h:ae)(j:Nat)(o:bF):(h.new o).get j=if j=h.next then some o else h.get j:=Tr.bu _ _ _ _
def ae.get_none(N i:Nat):(ae.none N).get i=Option.none:=Tr.get_nil _
theorem ae.tF(h:ae)(N i:Nat):(h.up N).get i=h.get i:=rfl
theorem ae.aY(h:ae)(i:Nat)(o:Option bF):(h.set i o).next=h.next:=rfl
theorem ae.bm(h:ae)(o:bF):(h.new o).next=h.next+1:=rfl
theorem ae.FX(N:Nat):(ae.none N).next=N:=rfl
theorem ae.iU(h:ae)(N:Nat):(h.up N).next=N:=rfl
open Classical in
def aQ(h:ab)(G:Nat->Prop):Rows:=λi=>if G i then match h.get i with|some (.row cs _ aj)=>some (cs,aj)|_=>none else none
def qs{h:ab}{G:Nat->Prop}{i:Nat}{r:List Value×Nat}(hf:aQ h G i=some r):G i/\∃wr,h.get i=some (.row r.1 wr r.2):=by
 unfold aQ at hf
 split at hf
 . rename_i hg;refine⟨hg, ?_⟩
   split at hf
   . rename_i cs wr aj he;cases hf;exact⟨wr,he⟩
   . cases hf
 . cases hf
def r9{h:ab}{G:Nat->Prop}{i:Nat}{cs:List Value}{wr:Bool}{aj:Nat}(hg:G i)(hh:h.get i=some (.row cs wr aj)):aQ h G i=some (cs,aj):=by
 unfold aQ;rw[if_pos hg,hh]
def jg{h h':ab}{G G':Nat->Prop}(hk:∀i,G i->G' i/\h'.get i=h.get i):∀i r,aQ h G i=some r->aQ h' G' i=some r:=λi r hf=>by
 obtain⟨h1,wr,h2⟩:=qs hf;obtain⟨h3,h4⟩:=hk i h1;exact r9 h3 (h4.trans h2)
def R6:List Int:=[0,1,56,2,57,49,28,3,61,58,42,50,38,29,17,4,62,47,59,36,45,43,51,22,53,39,33,30,24,18,12,5,63,55,48,27,60,41,37,16,46,35,44,21,52,32,23,11,54,26,40,15,34,20,31,10,25,14,19,9,13,8,7,6]
def jh:List Value:=R6.map λn=>.int .u8 n
def qt:List DV:=jh.map .v
abbrev dW:Nat:=1
def pd(R:Rows):Prop:=∃z,R dW=some (jh,z)
def pd.mono{R R':Rows}(h:pd R)(hR:∀i r,R i=some r->R' i=some r):pd R':=let⟨z,hz⟩:=h;⟨z,hR _ _ hz⟩
def pd.rel{R:Rows}(h:pd R):Rel R (.pointer (some ⟨dW,0,none⟩)) (.ptr qt 0):=by
 obtain⟨z,hz⟩:=h;exact Rel.ptr (o:=0) (off:=0) hz (by simp[qt]) λi v d h1 h2=>by
  rw[Nat.zero_add]at h2;rw[qt,afB,h2]at h1;cases h1;exact .v v
structure bO(G:Nat->Prop)(h:ab)(d:ae):Prop where
 fD:pd (aQ h G)
 next:h.next=d.next
 obj:∀i o,d.get i=some o->i<h.next/\∃ao,h.get i=some ao/\jf (aQ h G) ao o
 still:∀i,G i->i<h.next/\d.get i=none
structure Kp(G:Nat->Prop)(h:ab)(d:ae)(G':Nat->Prop)(h':ab)(d':ae):Prop where
 next:h.next<=h'.next
 same:∀i,i<h.next->d.get i=none->h'.get i=h.get i/\d'.get i=none
 up:∀i,G i->G' i
 bl:∀i,i<h.next->G' i->G i\/(d.get i).isSome=true
def Kp.refl(G:Nat->Prop)(h:ab)(d:ae):Kp G h d G h d:=⟨adv _,λ_ _ h=>⟨rfl,h⟩,λ_ h=>h,λ_ _ h=>.inl h⟩
def Kp.trans{G G' aa:Nat->Prop}{h h' ad:ab}{d d' af:ae}(a:Kp G h d G' h' d')(b:Kp G' h' d' aa ad af):Kp G h d aa ad af where
 next:=Nat.le_trans a.next b.next
 same i hi hd:=by
  obtain⟨h1,h2⟩:=a.same i hi hd;obtain⟨h3,h4⟩:=b.same i (afC hi a.next) h2;exact⟨h3.trans h1,h4⟩
 up i hg:=b.up i (a.up i hg)
 bl i hi hg:=by
  rcases b.bl i (afC hi a.next) hg with h1|h1
  . exact a.bl i hi h1
  . cases hd:d.get i with
    |some o=>exact .inr rfl
    |none=>rw[(a.same i hi hd).2]at h1;cases h1
def Kp.aQ{G G':Nat->Prop}{h h':ab}{d d':ae}(k:Kp G h d G' h' d')(x:bO G h d):∀i r,aQ h G i=some r->aD.aQ h' G' i=some r:=
 jg λi hg=>⟨k.up i hg,(k.same i (x.still i hg).1 (x.still i hg).2).1⟩
structure DS where
 t:Tr DV
 n:Nat
 dd:List FuncId
 h:ae
def sa(d:Deferred)(g:FuncId):Prop:=∃cap args,d={target:=.fn (.func g) cap,args}
structure SD(G:Nat->Prop)(s:aN)(d:DS):Prop where
 n:s.n=d.n
 t:∀i v,d.t.get i=some v->∃u,s.t.get i=some u/\Rel (aQ s.h G) u v
 dd:aV sa s.ds d.dd
 h:bO G s.h d.h
def vz:DV->Option Value
 |.v v=>some v
 |_=>none
def exact:DV->Option Value
 |.v v=>some v
 |.agg l=>(l.mapM vz).map λl=>.agg l.toArray
 |_=>none
def FY{R:Rows}:∀{a:List Value} {l:List DV} {u:List Value},cz R a l->l.mapM vz=some u->a=u
 |_,_,u,.nil,h=>by simp at h;exact h.symm
 |_,_,u,.cons (a:=v) (b:=d) (x:=x) (y:=y) h1 h2,h=>by
  cases d with
  |v w=>
   simp only[afw,vz,afD,afE,afF,E2,qG]at h;obtain⟨r,h3,rfl⟩:=h;rw[h1.cQ,FY h2 h3]
  |_=>simp[afw,vz]at h
def pg{R:Rows}{v u:Value}{d:DV}(h:Rel R v d)(he:exact d=some u):v=u:=by
 cases d with
 |v w=>simp only[exact,qG]at he;rw[h.cQ,he]
 |agg l=>
  obtain⟨a,rfl,h2⟩:=h.qc;simp only[exact,yy]at he;obtain⟨u',h3,rfl⟩:=he;have:=FY h2 h3;rw[<-this]
 |_=>cases he
def cC:DV->List DV
 |.agg l=>l
 |d=>[d]
def AO{R:Rows}{v:Value}{d:DV}(h:Rel R v d)(ho:∀u,d=.v u->dF u=true):cz R v.cells.toList (cC d):=by
 have one:∀u:Value,dF u=true->u.cells=#[u]:=λu hu=>by cases u<;>first|rfl|cases hu
 cases h with
 |v v=>rw[one v (ho v rfl)];exact .cons (.v v) .nil
 |agg h1 h2=>exact qq h1 h2
 |bp h1 h2=>exact .cons (.bp h1 h2) .nil
 |fn h1 h2 h3 h4=>exact .cons (.fn h1 h2 h3 h4) .nil
 |kJ h=>exact .cons (.kJ h) .nil
 |sl h1 h2 h3 h4 h5 h6 h7=>exact .cons (.sl h1 h2 h3 h4 h5 h6 h7) .nil
 |ptr h1 h2 h3=>exact .cons (.ptr h1 h2 h3) .nil
def cZ:DV->Bool
 |.v v=>dF v
 |.agg _=>false
 |.bp _=>false
 |_=>true
def R7{R:Rows}{v:Value}{d:DV}(h:Rel R v d)(ho:cZ d=true):dF v=true:=by
 cases h<;>first|rfl|exact ho|cases ho
def xW{R:Rows}:∀{a:List Value} {l:List DV},cz R a l->l.all cZ=true->a.all dF=true
 |_,_,.nil,_=>rfl
 |_,_,.cons h1 h2,h=>by
  simp only[List.all_cons,Bool.and_eq_true]at h⊢;exact⟨R7 h1 h.1,xW h2 h.2⟩
end Go.aD
end
noncomputable section
namespace Go.aD
variable {e:Env} {G:Nat->Prop} {h:ab} {dh:ae} {t:Tr Value} {dt:Tr DV} {R:Rows}
structure TD(R:Rows)(t:Tr Value)(dt:Tr DV):Prop where
 tb:pd R
 all:∀i v,dt.get i=some v->∃u,t.get i=some u/\Rel R u v
instance {R:Rows} {t:Tr Value} {dt:Tr DV}:CoeFun (TD R t dt) (λ_=>∀i v,dt.get i=some v->∃u,t.get i=some u/\Rel R u v):=⟨TD.all⟩
def SD.td{G:Nat->Prop}{s:aN}{d:DS}(q:SD G s d):TD (aQ s.h G) s.t d.t:=⟨q.h.fD,q.t⟩
def fZ:Value->DV
 |.agg cs=>.agg (cs.toList.map .v)
 |v=>.v v
def tG(l:List Value):cz R l (l.map .v):=qq aw λi v d h1 h2=>by
 rw[afB,h1]at h2;cases h2;exact .v v
def tH(v:Value):Rel R v (fZ v):=by
 cases v with
 |agg cs=>
  have:cz R cs.toList (cs.toList.map .v):=tG _;exact .agg this.length λi v d h1 h2=>this.rZ h1 h2
 |_=>exact .v _
def aJ(e:Env)(t:Tr DV):Operand->Option DV
 |.tmp i=>t.get i
 |.const v=>bif plain v then some (fZ v)else none
 |.global g=>bif FQ g e.oD then(if g=dW then some (.ptr qt 0)else none)else none
 |.func f=>some (.fn f [] [])
def fx(ht:TD R t dt){o:Operand}{d:DV}(hd:aJ e dt o=some d):∃v,aF e t o=some v/\Rel R v d:=by
 cases o with
 |tmp i=>exact ht i d hd
 |const v=>
  simp only[aJ]at hd;obtain⟨hp,hd⟩:=cg hd;cases hd;exact⟨v,by simp[aF,hp],tH v⟩
 |global g=>
  simp only[aJ]at hd;obtain⟨hp,hd⟩:=cg hd;by_cases hg:g=dW
  . rw[if_pos hg]at hd;simp only[qG]at hd;subst hd;exact⟨.pointer (some ⟨g,0,none⟩),by simp only[aF,hp,cond_true],by rw[hg];exact ht.tb.rel⟩
  . rw[if_neg hg]at hd;cases hd
 |func f=>
  simp only[aJ,qG]at hd;subst hd;exact⟨_,rfl,.fn rfl (λi v d h1 _=>by simp at h1) rfl (λi v d h1 _=>by simp at h1)⟩
def cJ(e:Env)(t:Tr DV):List Operand->Option (List DV)
 |[]=>some []
 |o::r=>match aJ e t o with
  |none=>none
  |some v=>(cJ e t r).map (v::·)
def mX(ht:TD R t dt):∀{l:List Operand} {ds:List DV},cJ e dt l=some ds->∃vs,db e t l=some vs/\cz R vs ds
 |[],ds,h=>by simp only[cJ,qG]at h;subst h;exact⟨[],rfl,.nil⟩
 |o::r,ds,h=>by
  simp only[cJ]at h
  split at h
  . cases h
  . rename_i d hd;simp only[yy]at h;obtain⟨bf,h1,rfl⟩:=h;obtain⟨v,h2,h3⟩:=fx ht hd;obtain⟨vs,h4,h5⟩:=mX ht h1;exact⟨v::vs,by simp only[db,h2,h4],.cons h3 h5⟩
def gb(e:Env)(t:Tr DV):List (Nat×Operand)->Option (List (Nat×DV))
 |[]=>some []
 |(i,o)::r=>match aJ e t o with
  |none=>none
  |some v=>(gb e t r).map ((i,v)::·)
def AP(R:Rows)(x:Nat×Value)(y:Nat×DV):Prop:=x.1=y.1/\Rel R x.2 y.2
def AQ(ht:TD R t dt):∀{l:List (Nat×Operand)} {ds:List (Nat×DV)},gb e dt l=some ds->∃vs,fG e t l=some vs/\aV (AP R) vs ds
 |[],ds,h=>by simp only[gb,qG]at h;subst h;exact⟨[],rfl,.nil⟩
 |(i,o)::r,ds,h=>by
  simp only[gb]at h
  split at h
  . cases h
  . rename_i d hd;simp only[yy]at h;obtain⟨bf,h1,rfl⟩:=h;obtain⟨v,h2,h3⟩:=fx ht hd;obtain⟨vs,h4,h5⟩:=AQ ht h1;exact⟨(i,v)::vs,by simp only[fG,h2,h4],.cons ⟨rfl,h3⟩ h5⟩
def eO(e:Env)(t:Tr DV):Option Operand->Option (Option DV)
 |none=>some none
 |some o=>(aJ e t o).map some
inductive lI(R:Rows):Option Value->Option DV->Prop
 |none:lI R none none
 |some {v:Value} {d:DV}:Rel R v d->lI R (some v) (some d)
def AS(ht:TD R t dt){o:Option Operand}{d:Option DV}(hd:eO e dt o=some d):∃v,iT e t o=some v/\lI R v d:=by
 cases o with
 |none=>simp only[eO,qG]at hd;subst hd;exact⟨none,rfl,.none⟩
 |some o=>
  simp only[eO,yy]at hd;obtain⟨d,h1,rfl⟩:=hd;obtain⟨v,h2,h3⟩:=fx ht h1;exact⟨some v,by simp[iT,h2],.some h3⟩
def vA{cs:List Value}{ds:List DV}(h:cz R cs ds)(o n:Nat):cz R ((cs.drop o).take n) ((ds.drop o).take n):=(aV.drop h o).take n
def fy:Option (Option Nat)->List DV->Nat->Option DV
 |some none,cs,o=>cs[o]?
 |some (some (n+1)),cs,o=>if o+(n+1)<=cs.length then some (.agg ((cs.drop o).take (n+1)))else none
 |_,_,_=>none
def FZ{ty:TypeId}{b o n:Nat}{cs:List Value}{wr:Bool}{aj:Nat}(hl:e.ld ty=some (some (n+1)))(hg:h.get b=some (.row cs wr aj))(ho:o+(n+1)<=cs.length):iN e h ty ⟨b,o,none⟩=some (.agg ((cs.drop o).take (n+1)).toArray):=by
 unfold Env.ld at hl;unfold iN;cases hu:e.under ty with
 |none=>simp[hu]at hl
 |some d=>
  simp only[hu]at hl⊢;cases hd:jZ d with
  |true=>
   simp only[hd,cond_true]at hl⊢;cases hs:e.size ty with
   |none=>simp[hs]at hl
   |some m=>
    simp only[hs,qG]at hl;subst hl;have:((cs.drop o).take (n+1)).length=n+1:=by rw[Vs,Xy];omega
    simp only[gx,hg,this,KE,cond_true]
  |false=>simp[hd]at hl
def R8{ty:TypeId}{b o:Nat}{cs:List Value}{wr:Bool}{aj:Nat}{ds:List DV}{d:DV}(hd:fy (e.ld ty) ds o=some d)(hg:h.get b=some (.row cs wr aj))(hr:cz R cs ds):∃v,iN e h ty ⟨b,o,none⟩=some v/\Rel R v d:=by
 unfold fy at hd
 split at hd
 . rename_i hl;obtain⟨v,h1,h2⟩:=hr.AM hd;exact⟨v,by rw[Ao hl,cY hg,h1],h2⟩
 . rename_i n hl
   split at hd
   . rename_i ho;cases hd;exact⟨_,FZ hl hg (by rw[hr.length];exact ho),Rel.dO (vA hr _ _)⟩
   . cases hd
 . cases hd
def R9{ty:TypeId}{b o off:Nat}{cs:List Value}{wr:Bool}{aj:Nat}{xs:List DV}{d:DV}(hd:fy (e.ld ty) xs off=some d)(hg:h.get b=some (.row cs wr aj))(h2:o+xs.length<=cs.length)
 (h3:∀(i:Nat) (v:Value) (d:DV),xs[i]? =some d->cs[o+i]? =some v->Rel R v d):∃v,iN e h ty ⟨b,o+off,none⟩=some v/\Rel R v d:=by
 cases hl:e.ld ty with
 |none=>simp[hl,fy]at hd
 |some l=>
  cases l with
  |none=>
   simp only[hl,fy]at hd;have aX:=(afv.1 hd).1;have:o+off<cs.length:=aa;refine⟨cs[o+off],by rw[Ao hl,cY hg,adr this],h3 off _ d hd (adr this)⟩
  |some m=>
   cases m with
   |zero=>simp[hl,fy]at hd
   |succ n=>
    simp only[hl,fy]at hd
    split at hd
    . rename_i ho;cases hd;refine⟨_,FZ hl hg aa,Rel.dO (qq (by simp only[Vs,Xy];omega) λi v d h4 h5=> ?_)⟩;rw[afx]at h4 h5
      split at h4
      . rw[if_pos (by assumption)]at h5;rw[afy]at h4 h5;exact h3 (off+i) v d h5 (by rw[<-h4];congr 1;omega)
      . cases h4
    . cases hd
def ji(e:Env)(dh:ae)(ty:TypeId):DV->Option DV
 |.v (.pointer (some ⟨b,o,none⟩))=>match dh.get b with|some (.row cs _ _)=>fy (e.ld ty) cs o|_=>none
 |.ptr xs off=>fy (e.ld ty) xs off
 |_=>none
def F0(x:bO G h dh){ty:TypeId}{v:Value}{d d':DV}(hv:Rel (aQ h G) v d)(hd:ji e dh ty d=some d'):∃v',mT e h ty v=some v'/\Rel (aQ h G) v' d':=by
 unfold ji at hd
 split at hd
 . rename_i b o;have:=hv.cQ;subst this
   split at hd
   . rename_i cs wr aj hg;obtain⟨_,ao,h1,h2⟩:=x.obj _ _ hg;cases h2 with|row h2=>exact R8 hd h1 h2
   . cases hd
 . rename_i xs off;cases hv with
   |ptr h1 h2 h3=>
    obtain⟨_,wr,h4⟩:=qs h1;exact R9 hd h4 h2 h3
 . cases hd
def kK(e:Env)(s f:Nat):DV->Option DV
 |.v (.pointer (some ⟨b,o,none⟩))=>(e.off s f).map λk=>.v (.pointer (some ⟨b,o+k,none⟩))
 |.ptr xs off=>(e.off s f).map λk=>.ptr xs (off+k)
 |_=>none
def Sa{s f:Nat}{v:Value}{d d':DV}(hv:Rel R v d)(hd:kK e s f d=some d'):∃v',rN e s f v=some v'/\Rel R v' d':=by
 unfold kK at hd
 split at hd
 . have:=hv.cQ;subst this;simp only[yy]at hd;obtain⟨k,h1,rfl⟩:=hd;exact⟨_,by rw[Av,h1];rfl,.v _⟩
 . simp only[yy]at hd;obtain⟨k,h1,rfl⟩:=hd;cases hv with
   | @ptr b o off aj cs xs h2 h3 h4=>exact⟨_,by rw[Av,h1];rfl,by rw[Nat.add_assoc];exact .ptr h2 h3 h4⟩
 . cases hd
def kL:Option (Nat×Option Nat)->List DV->Option DV
 |some (o,none),l=>l[o]?
 |some (o,some n),l=>some (.agg ((l.drop o).take n))
 |none,_=>none
def F1{ty:TypeId}{cs:List Value}{ds:List DV}{o:Nat}{d:DV}(hr:cz R cs ds)(hd:kL ((e.ld ty).map λl=>(o,l)) ds=some d):∃v,nE e ty cs o=some v/\Rel R v d:=by
 unfold Env.ld at hd;unfold nE;cases hu:e.under ty with
 |none=>simp[hu,kL]at hd
 |some td=>
  simp only[hu]at hd⊢;cases ha:jZ td with
  |false=>
   simp only[ha,cond_false,YN,kL]at hd⊢;exact hr.AM hd
  |true=>
   simp only[ha,cond_true]at hd⊢;cases hs:e.size ty with
   |none=>simp[hs,kL]at hd
   |some n=>
    simp only[hs,YN,kL,qG]at hd⊢;subst hd;exact⟨_,rfl,Rel.dO (vA hr _ _)⟩
def qu(e:Env)(ty f:Nat):DV->Option DV
 |.agg l=>kL (e.part ty f) l
 |_=>none
def Sb{ty f:Nat}{v:Value}{d d':DV}(hv:Rel R v d)(hd:qu e ty f d=some d'):∃v',tx e ty f v=some v'/\Rel R v' d':=by
 unfold qu at hd
 split at hd
 . obtain⟨a,rfl,hr⟩:=hv.qc;unfold Env.part at hd;unfold tx
   split at hd
   . rename_i fields hu;simp only[hu];cases hf:fields[f]? with
     |none=>simp[hf,kL]at hd
     |some fd=>
      simp only[hf]at hd⊢;refine F1 hr ?_;cases hl:e.ld fd.type with
      |none=>simp[hl,kL]at hd
      |some l=>simpa[hl]using hd
   . simp[kL]at hd
 . cases hd
def gd:DV->Option Int
 |.v (.int _ i)=>some i
 |_=>none
def F2{v:Value}{d:DV}{i:Int}(hv:Rel R v d)(hd:gd d=some i):intOf v=some i:=by
 unfold gd at hd
 split at hd
 . have:=hv.cQ;subst this;exact hd
 . cases hd
def qv(i:Int)(xs:List (List DV)):Option DV:=if 0<=i then(xs[i.toNat]?).map λr=>.ptr r 0 else none
def gZ(e:Env)(ty:TypeId):DV->Option Int->Option DV
 |.v (.slice (some ⟨b,o,none⟩) len _),some i=>(nU b o len i (e.elem ty)).map .v
 |.v (.pointer (some ⟨b,o,none⟩)),some i=>(nV b o i (e.arr ty)).map .v
 |.sl k xs,some i=>if e.elem ty=some k then qv i xs else none
 |.ptr xs off,some i=>match e.arr ty with|some (n,s)=>if 0<=i/\i<n then some (.ptr xs (off+i.toNat*s))else none|none=>none
 |_,_=>none
def Sc{ty:TypeId}{v w:Value}{d c d':DV}(hv:Rel R v d)(hw:Rel R w c)(hd:gZ e ty d (gd c)=some d'):∃v',oX e ty v w=some v'/\Rel R v' d':=by
 cases hi:gd c with
 |none=>rw[hi]at hd;unfold gZ at hd;split at hd<;>simp_all
 |some i=>
  have aL:=F2 hw hi;rw[hi]at hd;have az:∃k,w=.int k i:=by
   unfold intOf at aL
   split at aL
   . cases aL;exact⟨_,rfl⟩
   . cases aL
  obtain⟨kd,rfl⟩:=az;unfold gZ at hd
  split at hd
  . rename_i b o len c' i' he;cases he;have:=hv.cQ;subst this;simp only[yy]at hd;obtain⟨u,h1,rfl⟩:=hd;exact⟨u,by rw[Ay,h1],.v _⟩
  . rename_i b o i' he;cases he;have:=hv.cQ;subst this;simp only[yy]at hd;obtain⟨u,h1,rfl⟩:=hd;exact⟨u,by rw[Az,h1],.v _⟩
  . rename_i s xs i' he;cases he
    split at hd
    . rename_i hs;unfold qv at hd
      split at hd
      . rename_i h0;simp only[yy]at hd;obtain⟨r,hr,rfl⟩:=hd;have aX:=(afv.1 hr).1;cases hv with
        |kJ _=>simp at hr
        | @sl b o cp _ aj cs _ h1 h2 h3 h4 h5 h6 h7=>
         refine⟨_,by rw[Ay,hs,tC _ _ _ _ _ h0 aa], ?_⟩;have hm:(i.toNat+1)*s<=xs.length*s:=afG _ aX;rw[Zf,Nat.one_mul]at hm;have bg:r.length=s:=h5 r (List.mem_of_getElem? hr);have:=Rel.ptr (R:=R) (b:=b) (o:=o+i.toNat*s) (off:=0) (xs:=r) h1 (by rw[bg];omega) λj v d h8 h9=>h7 i.toNat r j v d hr h8 h9;exact this
      . cases hd
    . cases hd
  . rename_i xs off i' he;cases he
    split at hd
    . rename_i n s hs
      split at hd
      . rename_i h0;cases hd;cases hv with
        | @ptr b o _ aj cs _ h2 h3 h4=>exact⟨_,by rw[Az,hs,dV _ _ _ _ _ h0.1 h0.2],by rw[Nat.add_assoc];exact .ptr h2 h3 h4⟩
      . cases hd
    . cases hd
  . cases hd
def Env.AT(e:Env)(ty:TypeId):Option (Nat×Nat×Option Nat):=
 match e.under ty with
 |some (.array n el)=>match e.size el,e.ld el with|some s,some l=>some (n,s,l)|_,_=>none
 |_=>none
def mY(e:Env)(ty:TypeId):DV->DV->Option DV
 |.agg l,.v (.int _ i)=>match e.AT ty with|some (n,s,ld)=>if 0<=i/\i<n then kL (some (i.toNat*s,ld)) l else none|none=>none
 |.v x,.v y=>(oY e ty x y).map .v
 |_,_=>none
def Sd{ty:TypeId}{v w:Value}{d c d':DV}(hv:Rel R v d)(hw:Rel R w c)(hd:mY e ty d c=some d'):∃v',oY e ty v w=some v'/\Rel R v' d':=by
 unfold mY at hd
 split at hd
 . rename_i l k i;obtain⟨a,rfl,hr⟩:=hv.qc;have:=hw.cQ;subst this
   split at hd
   . rename_i n s ld hp
     split at hd
     . rename_i h0;unfold Env.AT at hp
       split at hp
       . rename_i n' el hu
         split at hp
         . rename_i s' l' h1 h2;cases hp;simp only[oY,hu,h1,h0.1,h0.2,decide_true,RW,cond_true];exact F1 hr (by rw[h2];exact hd)
         . cases hp
       . cases hp
     . cases hd
   . cases hd
 . have:=hv.cQ;subst this;have:=hw.cQ;subst this;simp only[yy]at hd;obtain⟨u,h1,rfl⟩:=hd;exact⟨u,h1,.v u⟩
 . cases hd
def mh(i:Nat):DV->Option DV
 |.bp l=>l[i]?
 |.v (.tuple vs)=>(vs[i]?).map .v
 |_=>none
def Se{i:Nat}{v:Value}{d d':DV}(hv:Rel R v d)(hd:mh i d=some d'):∃v',rP i v=some v'/\Rel R v' d':=by
 unfold mh at hd
 split at hd
 . obtain⟨a,rfl,hr⟩:=hv.AN;obtain⟨u,h1,h2⟩:=hr.AM hd;exact⟨u,by simpa[rP]using h1,h2⟩
 . have:=hv.cQ;subst this;simp only[yy]at hd;obtain⟨u,h1,rfl⟩:=hd;exact⟨u,h1,.v u⟩
 . cases hd
def lp:DV->Option DV
 |.v (.pointer (some a))=>some (.v (.pointer (some a)))
 |.ptr xs off=>some (.ptr xs off)
 |.fn f a c=>some (.fn f a c)
 |_=>none
def Sf{v:Value}{d d':DV}(hv:Rel R v d)(hd:lp d=some d'):∃v',rO v=some v'/\Rel R v' d':=by
 unfold lp at hd
 split at hd
 . have:=hv.cQ;subst this;cases hd;exact⟨_,rfl,.v _⟩
 . cases hd;cases hv with
   |ptr h1 h2 h3=>exact⟨_,rfl,.ptr h1 h2 h3⟩
 . cases hd;cases hv with
   |fn h1 h2 h3 h4=>exact⟨_,rfl,.fn h1 h2 h3 h4⟩
 . cases hd
def gO{α:Type}(f:DV->DV->Option α):Option DV->Option DV->Option α
 |some a,some b=>f a b
 |_,_=>none
def jG(e:Env)(op:BinOp)(ty:TypeId)(x y:Operand)(a b:DV):Option DV:=match exact a,exact b with
 |some u,some w=>(cO e op ty x y u w).map .v
 |_,_=>none
def Sg{op:BinOp}{ty:TypeId}{x y:Operand}{v w:Value}{a b d:DV}(hv:Rel R v a)(hw:Rel R w b)(hd:jG e op ty x y a b=some d):∃u,cO e op ty x y v w=some u/\Rel R u d:=by
 unfold jG at hd
 split at hd
 . rename_i u w' h1 h2;rw[pg hv h1,pg hw h2];simp only[yy]at hd;obtain⟨r,h3,rfl⟩:=hd;exact⟨r,h3,.v r⟩
 . cases hd
def lJ(f:Value->Option Value)(d:DV):Option DV:=match exact d with
 |some v=>(f v).map .v
 |none=>none
def AU{f:Value->Option Value}{v:Value}{d d':DV}(hv:Rel R v d)(hd:lJ f d=some d'):∃v',f v=some v'/\Rel R v' d':=by
 unfold lJ at hd
 split at hd
 . rename_i u h1;rw[pg hv h1];simp only[yy]at hd;obtain⟨r,h3,rfl⟩:=hd;exact⟨r,h3,.v r⟩
 . cases hd
def F3{vs:List Value}:∀{ds:List DV} {us:List Value},cz R vs ds->ds.mapM exact=some us->vs=us:=by
 induction vs with
 |nil=>intro ds us h1 h2;cases h1;simp at h2;exact h2.symm
 |cons v vs ih=>
  intro ds us h1 h2;cases h1 with
  |cons h3 h4=>
   simp only[afw,afD,afE,E2,qG]at h2;obtain⟨u,h5,bx,h6,rfl⟩:=h2;rw[pg h3 h5,ih h4 h6]
def iC(e:Env)(dh:ae)(ty:TypeId):DV->Option DV
 |.sl _ xs=>match e.elem ty with|some _=>some (.v (.int .i64 xs.length))|none=>none
 |.v (.slice a l c)=>match e.elem ty with|some _=>some (.v (.int .i64 l))|none=>none
 |.v (.string s)=>(fV e ⟨.nil,0⟩ ty (.string s)).map .v
 |.v (.map none)=>(fV e ⟨.nil,0⟩ ty (.map none)).map .v
 |.v (.map (some r))=>match e.under ty,dh.get r with|some (.map _ _),some (.map es _)=>some (.v (.int .i64 es.length))|_,_=>none
 |_=>none
def Sh(x:bO G h dh){ty:TypeId}{v:Value}{d d':DV}(hv:Rel (aQ h G) v d)(hd:iC e dh ty d=some d'):∃v',fV e h ty v=some v'/\Rel (aQ h G) v' d':=by
 unfold iC at hd
 split at hd
 . split at hd
   . rename_i s hs;cases hd;cases hv with
     |kJ _=>exact⟨_,by rw[xI,hs];rfl,.v _⟩
     |sl h1 h2 h3 h4 h5 h6 h7=>exact⟨_,by rw[xI,hs];rfl,.v _⟩
   . cases hd
 . have:=hv.cQ;subst this
   split at hd
   . rename_i s hs;cases hd;exact⟨_,by rw[xI,hs];rfl,.v _⟩
   . cases hd
 . have:=hv.cQ;subst this;simp only[yy]at hd;obtain⟨u,h1,rfl⟩:=hd;refine⟨u, ?_,.v u⟩;rw[<-h1];unfold fV;split<;>first|rfl|contradiction|(simp_all;done)
 . have:=hv.cQ;subst this;simp only[yy]at hd;obtain⟨u,h1,rfl⟩:=hd;refine⟨u, ?_,.v u⟩;rw[<-h1];unfold fV;split<;>first|rfl|contradiction|(simp_all;done)
 . have:=hv.cQ;subst this
   split at hd
   . rename_i r k v es clock hu hg;cases hd;obtain⟨_,ao,h1,h2⟩:=x.obj _ _ hg;cases h2 with
     |map h2=>exact⟨_,by simp only[fV,hu,h1,h2.length],.v _⟩
   . cases hd
 . cases hd
def fK:Option DV->Option (Option Int)
 |none=>some none
 |some d=>(gd d).map some
def dR(i:Option Int)(af ah:Nat):Option Nat:=match i with
 |none=>some ah
 |some i=>if 0<=i/\i<=af then some i.toNat else none
def AV{v:Option Value}{d:Option DV}{i:Option Int}(hr:lI R v d)(hd:fK d=some i)(af ah:Nat):eB v af ah=dR i af ah:=by
 cases hr with
 |none=>simp only[fK,qG]at hd;subst hd;rfl
 |some h=>
  simp only[fK,yy]at hd;obtain⟨i,h1,rfl⟩:=hd;simp only[eB,F2 h h1,dR];by_cases h0:0<=i<;>by_cases h1:i<=(af:Int)<;>simp[h0,h1]
def jH(e:Env)(dh:ae)(ty:TypeId)(x:DV)(lo hi mx:Option Int):Option DV:=
 match x,e.elem ty with
 |.sl k xs,some s=>match dR mx xs.length xs.length with
  |some m=>match dR hi m xs.length with
   |some h=>match dR lo h 0 with
    |some l=>if h<=m/\(mx.isNone=true\/hi.isSome=true)/\k=s then some (.sl k ((xs.drop l).take (h-l)))else none
    |none=>none
   |none=>none
  |none=>none
 |.v (.slice none len cap),some _=>match dR mx cap cap with
  |some m=>match dR hi m len with
   |some h=>match dR lo h 0 with
    |some l=>if h<=m/\(mx.isNone=true\/hi.isSome=true)then some (.v (.slice none (h-l) (m-l)))else none
    |none=>none
   |none=>none
  |none=>none
 |.v (.slice (some ⟨b,o,none⟩) len cap),some s=>match dh.get b,dR mx cap cap with
  |some (.row _ _ aj),some m=>match dR hi m len with
   |some h=>match dR lo h 0 with
    |some l=>if h<=m/\(mx.isNone=true\/hi.isSome=true)/\(aj=0\/aj=s)then some (.v (.slice (some ⟨b,o+l*s,none⟩) (h-l) (m-l)))else none
    |none=>none
   |none=>none
  |_,_=>none
 |_,_=>none
def ph:Option DV->Option (Option Value)
 |none=>some none
 |some d=>(exact d).map some
def vB(e:Env)(ty:TypeId)(s:ByteArray)(lo hi mx:Option DV):Option DV:=
 match e.under ty,ph lo,ph hi,ph mx with
 |some .string,some lo,some hi,some mx=>(jB e ⟨.nil,0⟩ ty (.string s) lo hi mx).map .v
 |_,_,_,_=>none
def de(e:Env)(dh:ae)(ty:TypeId):Option DV->Option (Option DV)->Option (Option DV)->Option (Option DV)->Option DV
 |some (.v (.string s)),some lo,some hi,some mx=>vB e ty s lo hi mx
 |some x,some lo,some hi,some mx=>match fK lo,fK hi,fK mx with|some lo,some hi,some mx=>jH e dh ty x lo hi mx|_,_,_=>none
 |_,_,_,_=>none
def Si{v:Option Value}{d:Option DV}{i:Option Int}(hr:lI R v d)(hd:fK d=some i):v.isNone=i.isNone:=by
 cases hr with
 |none=>simp only[fK,qG]at hd;subst hd;rfl
 |some h=>simp only[fK,yy]at hd;obtain⟨i,_,rfl⟩:=hd;rfl
def Sj{v:Option Value}{d:Option DV}{i:Option Int}(hr:lI R v d)(hd:fK d=some i):v.isSome=i.isSome:=by
 cases hr with
 |none=>simp only[fK,qG]at hd;subst hd;rfl
 |some h=>simp only[fK,yy]at hd;obtain⟨i,_,rfl⟩:=hd;rfl
def F4{ty s:Nat}(h:e.elem ty=some s):∃el,e.under ty=some (.slice el)/\e.size el=some s:=by
 unfold Env.elem at h
 split at h
 . rename_i el hu;exact⟨el,hu,h⟩
 . cases h
def F5{i:Option Int}{m k n:Nat}(h:dR i m k=some n)(hk:k<=m):n<=m:=by
 unfold dR at h
 split at h
 . cases h;exact hk
 . split at h
   . rename_i hc;cases h;omega
   . cases h
def F6{ai ak:Option Int}{n cap m hh:Nat}(hm:dR ai n n=some m)(an:dR ak m n=some hh)(hle:hh<=m)(hc:n<=cap):∃m',dR ai cap cap=some m'/\hh<=m'/\dR ak m' n=some hh:=by
 cases ai with
 |none=>
  simp only[dR,qG]at hm;subst hm;refine⟨cap,rfl,aa, ?_⟩;cases ak with
  |none=>exact an
  |some i=>
   simp only[dR]at an⊢
   split at an
   . rename_i aC;rw[if_pos ⟨aC.1,aa⟩];exact an
   . cases an
 |some i=>
  simp only[dR]at hm
  split at hm
  . rename_i aC;cases hm;exact⟨i.toNat,by simp only[dR];rw[if_pos ⟨aC.1,aa⟩],hle,an⟩
  . cases hm
def xX{ty s:Nat}{base:Option Addr}{len cap m hh l:Nat}{lo hi mx:Option Value}(hs:e.elem ty=some s)(q1:eB mx cap cap=some m)(q2:eB hi m len=some hh)(q3:eB lo hh 0=some l)(q4:hh<=m)(q5:(mx.isNone||hi.isSome)=true):
 jB e h ty (.slice base len cap) lo hi mx=match base with|none=>some (.slice none (hh-l) (m-l))|some a=>bif mK h a s then some (.slice (some (a.add (l*s))) (hh-l) (m-l))else none:=by
 obtain⟨el,hu,bj⟩:=F4 hs;simp only[jB,hu,bj,q1,q2,RC q4,q5,RW,cond_true,q3];cases base<;>rfl
def Sk(x:bO G h dh){ty:TypeId}{v:Value}{d d':DV}{lo hi mx:Option Value}{aG aH aI:Option DV}{aY ak ai:Option Int}(hv:Rel (aQ h G) v d)(r1:lI (aQ h G) lo aG)(r2:lI (aQ h G) hi aH)(r3:lI (aQ h G) mx aI)
 (b1:fK aG=some aY) (b2:fK aH=some ak) (b3:fK aI=some ai) (hd:jH e dh ty d aY ak ai=some d'):∃v',jB e h ty v lo hi mx=some v'/\Rel (aQ h G) v' d':=by
 have ad:(ai.isNone=true\/ak.isSome=true)->(mx.isNone||hi.isSome)=true:=λhc=>by rw[Si r3 b3,Sj r2 b2];rcases hc with h|h<;>simp[h]
 have k1:=λm d=>AV r1 b1 m d;have k2:=λm d=>AV r2 b2 m d;have k3:=λm d=>AV r3 b3 m d;unfold jH at hd
 split at hd
 . rename_i k xs s hs
   split at hd
   . rename_i m hm
     split at hd
     . rename_i hh aq
       split at hd
       . rename_i l hl
         split at hd
         . rename_i hc;cases hd;obtain⟨bb,bc,rfl⟩:=hc;have aM:m<=xs.length:=F5 hm (adv _);have bk:l<=hh:=F5 hl (Nat.zero_le _);cases hv with
           | @kJ c _ hk=>
            obtain⟨m',q1,q2,q3⟩:=F6 hm aq bb (cap:=c) (Nat.zero_le _);have hz:hh-l=0:=by simp at aM;omega
            refine⟨_,xX hs ((k3 _ _).trans q1) ((k2 _ _).trans q3) ((k1 _ _).trans hl) q2 (ad bc), ?_⟩;simp only[hz,List.drop_nil,List.take_nil];exact .kJ hk
           | @sl b o c _ aj cs _ h1 h2 h3 h4 h5 h6 h7=>
            obtain⟨m',q1,q2,q3⟩:=F6 hm aq bb h4;obtain⟨_,wr,hg⟩:=qs h1;have aS:mK h ⟨b,o,none⟩ k=true:=by
             rcases h2 with h2|h2<;>simp[mK,hg,h2]
            refine⟨_,by rw[xX hs ((k3 _ _).trans q1) ((k2 _ _).trans q3) ((k1 _ _).trans hl) q2 (ad bc)];simp only[aS,cond_true];rfl, ?_⟩;rw[rW];have hlen:((xs.drop l).take (hh-l)).length=hh-l:=by rw[Vs,Xy];omega
            have hmul:(l+(hh-l))*k<=xs.length*k:=afG _ aa;rw[Zf]at hmul;have:=Rel.sl (R:=aQ h G) (b:=b) (o:=o+l*k) (c:=m'-l) (xs:=(xs.drop l).take (hh-l)) h1 h2 h3 (by rw[hlen];omega) (λy hy=>h5 y (List.mem_of_mem_drop (List.mem_of_mem_take hy))) (by rw[hlen];omega) λj y i v d e1 e2 e3=>by
             rw[afx]at e1
             split at e1
             . rw[afy]at e1;refine h7 (l+j) y i v d e1 e2 ?_;rw[<-e3];congr 1;rw[Zf];omega
             . cases e1
            rwa[hlen]at this
         . cases hd
       . cases hd
     . cases hd
   . cases hd
 . rename_i len cap s hs;have:=hv.cQ;subst this
   split at hd
   . rename_i m hm
     split at hd
     . rename_i hh aq
       split at hd
       . rename_i l hl
         split at hd
         . rename_i hc;cases hd;exact⟨_,xX hs ((k3 _ _).trans hm) ((k2 _ _).trans aq) ((k1 _ _).trans hl) hc.1 (ad hc.2),.v _⟩
         . cases hd
       . cases hd
     . cases hd
   . cases hd
 . rename_i b o len cap s hs;have:=hv.cQ;subst this
   split at hd
   . rename_i cs wr aj m hg hm
     split at hd
     . rename_i hh aq
       split at hd
       . rename_i l hl
         split at hd
         . rename_i hc;cases hd;obtain⟨_,ao,g1,g2⟩:=x.obj _ _ hg;cases g2 with
           |row g2=>
            have aS:mK h ⟨b,o,none⟩ s=true:=by
             rcases hc.2.2 with h2|h2<;>simp[mK,g1,h2]
            refine⟨_,by rw[xX hs ((k3 _ _).trans hm) ((k2 _ _).trans aq) ((k1 _ _).trans hl) hc.1 (ad hc.2.1)];simp only[aS,cond_true,rW],.v _⟩
         . cases hd
       . cases hd
     . cases hd
   . cases hd
 . cases hd
def AW{v:Option Value}{d:Option DV}{u:Option Value}(hr:lI R v d)(hd:ph d=some u):v=u:=by
 cases hr with
 |none=>simpa[ph]using hd
 |some h=>
  simp only[ph,yy]at hd;obtain⟨w,h1,rfl⟩:=hd;rw[pg h h1]
def Sl(x:bO G h dh){ty:TypeId}{v:Option Value}{dv:Option DV}{lo hi mx:Option (Option Value)}{aG aH aI:Option (Option DV)}{d':DV}(hv:∀d,dv=some d->∃u,v=some u/\Rel (aQ h G) u d)
 (r1:∀d,aG=some d->∃u,lo=some u/\lI (aQ h G) u d) (r2:∀d,aH=some d->∃u,hi=some u/\lI (aQ h G) u d) (r3:∀d,aI=some d->∃u,mx=some u/\lI (aQ h G) u d)
 (hd:de e dh ty dv aG aH aI=some d'):∃v',tz e h ty v lo hi mx=some v'/\Rel (aQ h G) v' d':=by
 unfold de at hd
 split at hd
 . rename_i s bm aC bo;obtain⟨u,rfl,h1⟩:=hv _ rfl;obtain⟨u1,rfl,g1⟩:=r1 _ rfl;obtain⟨u2,rfl,g2⟩:=r2 _ rfl;obtain⟨u3,rfl,g3⟩:=r3 _ rfl;have:=h1.cQ;subst this;unfold vB at hd
   split at hd
   . rename_i a b c hu e1 e2 e3;rw[AW g1 e1,AW g2 e2,AW g3 e3];simp only[yy]at hd;obtain⟨w,h3,rfl⟩:=hd;refine⟨w, ?_,.v w⟩;rw[<-h3];simp only[tz,jB,hu]
   . cases hd
 . rename_i x' bm aC bo _;obtain⟨u,rfl,h1⟩:=hv _ rfl;obtain⟨u1,rfl,g1⟩:=r1 _ rfl;obtain⟨u2,rfl,g2⟩:=r2 _ rfl;obtain⟨u3,rfl,g3⟩:=r3 _ rfl
   split at hd
   . rename_i e1 e2 e3;exact Sk x h1 g1 g2 g3 e1 e2 e3 hd
   . cases hd
 . cases hd
def findD(P:Program)(kt:TypeId)(k:Value):List bH->Option (Option DV)
 |[]=>some none
 |x::es=>match kB P kt k x.key with
  |none=>none
  |some true=>some (some x.val)
  |some false=>findD P kt k es
def AX{P:Program}{kt:TypeId}{k:Value}:∀{es:List MapEntry} {ds:List bH} {r:Option DV} (i:Nat),aV (je R) es ds->findD P kt k ds=some r->∃r',gF P kt k es i=some r'/\(match r,r' with|none,none=>True|some d,some (_,v)=>Rel R v d|_,_=>False)
 |[],[],r,i,.nil,h=>by simp only[findD,qG]at h;subst h;exact⟨none,rfl,trivial⟩
 |x::es,y::ds,r,i,.cons h1 h2,h=>by
  simp only[findD]at h;simp only[gF,h1.key]
  split at h
  . cases h
  . rename_i hk;cases h;exact⟨_,by rw[hk],h1.val⟩
  . rename_i hk;simp only[hk];exact AX (i+1) h2 h
def lK(e:Env)(ty:TypeId)(ok:Bool)(k:Value)(es:List bH):Option DV:=
 match e.under ty with
 |some (.map kt et)=>match e.under kt with
  |none=>none
  |some kd=>if plain k=true/\nF kd k=true/\(b9 e.P (Instr.checkKey es.isEmpty 10000 kt k)).isSome=true then match findD e.P kt k es with
   |none=>none
   |some (some d)=>some (bif ok then .bp [d,.v (.bool true)]else d)
   |some none=>match e.zero et with
    |none=>none
    |some z=>if plain z=true then some (bif ok then .bp [fZ z,.v (.bool false)]else fZ z)else none
   else none
 |_=>none
def lq(e:Env)(dh:ae)(ty:TypeId)(ok:Bool)(m k:DV):Option DV:=
 match m,exact k with
 |.v (.map none),some k=>lK e ty ok k []
 |.v (.map (some r)),some k=>match dh.get r with|some (.map es _)=>lK e ty ok k es|_=>none
 |_,_=>none
def lookup_nil(ty:TypeId)(ok:Bool)(k:Value):nS e h ty ok (.map none) k=mV e ty ok k (some (.map [] 0)):=by
 simp only[nS,pZ,mV];cases hu:e.under ty with
 |none=>rfl
 |some d=>cases d<;>rfl
def F7{ty:TypeId}{ok:Bool}{k:Value}{es:List MapEntry}{ds:List bH}{d:DV}{clock:Nat}(hr:aV (je R) es ds)(hd:lK e ty ok k ds=some d):
 ∃v,mV e ty ok k (some (.map es clock))=some v/\Rel R v d:=by
 unfold lK at hd
 split at hd
 . rename_i kt et hu
   split at hd
   . cases hd
   . rename_i kd hk
     split at hd
     . rename_i hc;obtain⟨c1,c2,c3⟩:=hc;have aT:ds.isEmpty=es.isEmpty:=by cases hr<;>rfl
       rw[aT]at c3;obtain⟨u,bq⟩:=afH.1 c3;simp only[mV,hu,hk,c1,c2,RW,cond_true,bq]
       split at hd
       . cases hd
       . rename_i d' hf;obtain⟨r',h1,h2⟩:=AX 0 hr hf;cases r' with
         |none=>exact h2.elim
         |some p=>
          obtain⟨i,v⟩:=p;simp only[h1];cases hd;cases ok with
          |true=>exact⟨_,rfl,Rel.j9 (a:=[v,.bool true]) (.cons h2 (.cons (.v _) .nil))⟩
          |false=>exact⟨_,rfl,h2⟩
       . rename_i hf;obtain⟨r',h1,h2⟩:=AX 0 hr hf;cases r' with
         |some p=>exact h2.elim
         |none=>
          simp only[h1]
          split at hd
          . cases hd
          . rename_i z hz
            split at hd
            . rename_i hp;cases hd;simp only[hz,hp,cond_true];cases ok with
              |true=>exact⟨_,rfl,Rel.j9 (a:=[z,.bool false]) (.cons (tH z) (.cons (.v _) .nil))⟩
              |false=>exact⟨_,rfl,tH z⟩
            . cases hd
     . cases hd
 . cases hd
def Sm(x:bO G h dh){ty:TypeId}{ok:Bool}{v w:Value}{m k d:DV}(hv:Rel (aQ h G) v m)(hw:Rel (aQ h G) w k)(hd:lq e dh ty ok m k=some d):∃u,nS e h ty ok v w=some u/\Rel (aQ h G) u d:=by
 unfold lq at hd
 split at hd
 . rename_i k' hk;have:=hv.cQ;subst this;rw[pg hw hk];rw[lookup_nil];exact F7 .nil hd
 . rename_i r k' hk;have:=hv.cQ;subst this;rw[pg hw hk]
   split at hd
   . rename_i es clock hg;obtain⟨_,ao,g1,g2⟩:=x.obj _ _ hg;cases g2 with
     | @map bA _ _ g2=>rw[xP,g1];exact F7 g2 hd
   . cases hd
 . cases hd
def kc(place:Nat->Option (Nat×Nat)):List DV->List (Nat×DV)->Option (List DV)
 |cells,[]=>some cells
 |cells,(i,v)::rest=>match place i with
  |none=>none
  |some (off,size)=>if(cC v).length=size/\off+size<=cells.length/\(cC v).all cZ=true then kc place (cells.take off++cC v++cells.drop (off+(cC v).length)) rest else none
def AY{d:DV}(h:(cC d).all cZ=true):∀u,d=.v u->dF u=true:=λu hu=>by subst hu;simpa[cC,cZ]using h
def xY{place:Nat->Option (Nat×Nat)}:∀{ps:List (Nat×Value)} {av:List (Nat×DV)} {cs:List Value} {ds r:List DV},aV (AP R) ps av->cz R cs ds->kc place ds av=some r->∃cs',jc place cs ps=some cs'/\cz R cs' r
 |[],[],cs,ds,r,.nil,h1,h=>by simp only[kc,qG]at h;subst h;exact⟨cs,rfl,h1⟩
 |(i,v)::ps,(j,d)::av,cs,ds,r,.cons ⟨h2,h3⟩ h4,h1,h=>by
  simp only at h2 h3;subst h2;simp only[kc]at h;simp only[jc]
  split at h
  . cases h
  . rename_i off size hp;simp only[hp]
    split at h
    . rename_i hc;have aU:=AO h3 (AY hc.2.2);have e1:v.cells.toList.length=size:=by rw[aU.length];exact hc.1
      have e2:off+size<=cs.length:=by rw[h1.length];exact hc.2.1
      simp only[e1,KE,RC e2,RW,cond_true];refine xY h4 ?_ h;unfold dM;rw[aU.length];exact(aV.append (aV.append (aV.take h1 _) aU) (aV.drop h1 _))
    . cases h
def eD(e:Env)(ty:TypeId)(ps:List (Nat×DV)):Option DV:=
 match e.zero ty,e.under ty with
 |some z,some (.struct fields)=>(kc (kA e fields) (z.cells.toList.map .v) ps).map .agg
 |some z,some (.array _ elem)=>match e.size elem with
  |none=>none
  |some s=>(kc (λi=>some (i*s,s)) (z.cells.toList.map .v) ps).map .agg
 |_,_=>none
def Sn{ty:TypeId}{ps:List (Nat×Value)}{av:List (Nat×DV)}{d:DV}(hp:aV (AP R) ps av)(hd:eD e ty av=some d):∃v,pY e ty ps=some v/\Rel R v d:=by
 unfold eD at hd;unfold pY
 split at hd
 . rename_i z fields hz hu;simp only[hz,hu];simp only[yy]at hd;obtain⟨r,h1,rfl⟩:=hd;obtain⟨cs,h2,h3⟩:=xY hp (tG _) h1;exact⟨_,by rw[h2],Rel.dO h3⟩
 . rename_i z n elem hz hu;simp only[hz,hu]
   split at hd
   . cases hd
   . rename_i s hs;simp only[hs];simp only[yy]at hd;obtain⟨r,h1,rfl⟩:=hd;obtain⟨cs,h2,h3⟩:=xY hp (tG _) h1;exact⟨_,by rw[h2],Rel.dO h3⟩
 . cases hd
def gj(dh:ae)(sz:Nat):DV->Option (Nat×List DV)
 |.sl k xs=>if k=sz then some (xs.length,xs.flatten)else none
 |.v (.slice none n _)=>if n=0 then some (0,[])else none
 |.v (.slice (some ⟨b,o,none⟩) n _)=>match dh.get b with|some (.row cs _ _)=>if o+n*sz<=cs.length then some (n,(cs.drop o).take (n*sz))else none|_=>none
 |_=>none
def F8{cs:List Value}{k:Nat}:∀{xs:List (List DV)} {o:Nat},(∀x∈xs,x.length=k)->o+xs.length*k<=cs.length->(∀(j:Nat) (x:List DV) (i:Nat) (v:Value) (d:DV),xs[j]? =some x->x[i]? =some d->cs[o+j*k+i]? =some v->Rel R v d)->cz R ((cs.drop o).take (xs.length*k)) xs.flatten
 |[],o,_,_,_=>by simp only[afI,Nat.zero_mul,List.take_zero,List.flatten_nil];exact .nil
 |x::xs,o,h1,h2,h3=>by
  have hx:x.length=k:=h1 x aw;simp only[List.length_cons,Zf,Nat.one_mul]at h2⊢;have e1:(cs.drop o).take (xs.length*k+k)=(cs.drop o).take k++(cs.drop (o+k)).take (xs.length*k):=by
   rw[Nat.add_comm,List.take_add,List.drop_drop]
  rw[e1,List.flatten_cons];refine aV.append (qq (by rw[Vs,Xy,hx];omega) λi v d h4 h5=> ?_) (F8 (λy hy=>h1 y (afz _ hy)) aa λj y i v d h4 h5 h6=>h3 (j+1) y i v d (by simpa using h4) h5 (by rw[<-h6];congr 1;rw[Zf];omega));rw[afx]at h4
  split at h4
  . rw[afy]at h4;exact h3 0 x i v d rfl h5 (by rw[<-h4];congr 1;omega)
  . cases h4
def F9(x:bO G h dh){sz n:Nat}{v:Value}{d:DV}{cs:List DV}(hv:Rel (aQ h G) v d)(hd:gj dh sz d=some (n,cs)):∃xb xc new,v=.slice xb n xc/\iO h sz n v=some new/\cz (aQ h G) new cs/\new.length=n*sz:=by
 unfold gj at hd
 split at hd
 . rename_i k xs
   split at hd
   . rename_i hk;subst hk;simp only[qG,yB]at hd;obtain⟨rfl,rfl⟩:=hd;cases hv with
     |kJ _=>exact⟨_,_,[],rfl,rfl,.nil,aw⟩
     | @sl b o c _ aj aK _ h1 h2 h3 h4 h5 h6 h7=>
      obtain⟨_,wr,hg⟩:=qs h1;have hl:((aK.drop o).take (xs.length*k)).length=xs.length*k:=by rw[Vs,Xy];omega
      exact⟨_,_,(aK.drop o).take (xs.length*k),rfl,by simp only[iO,gx,hg,hl,KE,cond_true],F8 h5 h6 h7,hl⟩
   . cases hd
 . split at hd
   . rename_i hn;simp only[qG,yB]at hd;obtain⟨rfl,rfl⟩:=hd;have:=hv.cQ;subst this;subst hn;exact⟨_,_,[],rfl,rfl,.nil,aw⟩
   . cases hd
 . rename_i b o m c
   split at hd
   . rename_i bB wr aj hg
     split at hd
     . rename_i hl;simp only[qG,yB]at hd;obtain⟨rfl,rfl⟩:=hd;have:=hv.cQ;subst this;obtain⟨_,ao,g1,g2⟩:=x.obj _ _ hg;cases g2 with
       | @row aK _ _ _ g2=>
        have bd:((aK.drop o).take (m*sz)).length=m*sz:=by rw[Vs,Xy,g2.length];omega
        exact⟨_,_,(aK.drop o).take (m*sz),rfl,by simp only[iO,gx,g1,bd,KE,cond_true],vA g2 _ _,bd⟩
     . cases hd
   . cases hd
 . cases hd
def lL:List DV->Option (List Int)
 |[]=>some []
 |.v (.int .u8 n)::r=>(lL r).map (n::·)
 |_=>none
def Ga:∀{cs:List Value} {ds:List DV} {ns:List Int},cz R cs ds->lL ds=some ns->rj cs=some ns
 |[],_,ns,.nil,h=>by simp only[lL,qG]at h;subst h;rfl
 |c::cs,d::ds,ns,.cons h1 h2,h=>by
  match d,h1,h with
  |.v (.int .u8 n),h1,h=>
   simp only[lL,yy]at h;obtain⟨r,h3,rfl⟩:=h;have:=h1.cQ;subst this;simp only[rj,Ga h2 h3,YN]
def Env.mi(e:Env)(s d:TypeId):Bool:=match e.under s,e.under d with
 |some (.slice el),some .string=>match e.under el with|some (.int .u8)=>true|_=>false
 |_,_=>false
def sb(e:Env)(s d:TypeId)(a:Value):Option Value:=bif plain a then eV e.P (convert s d a)else none
def sc:Option (Nat×List DV)->Option DV
 |some (n+1,cs)=>(lL cs).map λns=>.v (.string (strOf ns))
 |_=>none
def mZ(e:Env)(dh:ae)(s d:TypeId)(x:DV):Option DV:=match e.mi s d with
 |true=>sc (gj dh 1 x)
 |false=>lJ (sb e s d) x
def So(x:bO G h dh){s d:TypeId}{v:Value}{c c':DV}(hv:Rel (aQ h G) v c)(hd:mZ e dh s d c=some c'):∃v',oW e h s d v=some v'/\Rel (aQ h G) v' c':=by
 unfold mZ at hd
 split at hd
 . rename_i hb;unfold Env.mi at hb
   split at hb
   . rename_i el hu bs
     split at hb
     . rename_i bt;unfold sc at hd
       split at hd
       . rename_i n cs aW;simp only[yy]at hd;obtain⟨ns,h1,rfl⟩:=hd;obtain⟨xb,xc,new,rfl,q1,q2,q3⟩:=F9 x hv aW;cases xb with
         |none=>
          simp only[iO,qG]at q1;subst q1;simp at q3
         |some a=>
          simp only[iO,Nat.mul_one]at q1;refine⟨.string (strOf ns), ?_,.v _⟩;have:plain (.slice (some a) (n+1) xc)=false:=rfl;simp only[oW,this,cond_false,oH,hu,bs,bt,q1,Ga q2 h1,YN]
       . cases hd
     . cases hb
   . cases hb
 . refine AU (f:=oW e h s d) hv ?_;unfold lJ at hd⊢
   split at hd
   . rename_i u hu;simp only[yy]at hd;obtain⟨w,h1,rfl⟩:=hd;unfold sb at h1;obtain⟨hp,h1⟩:=cg h1;simp only[oW,hp,cond_true,h1,YN]
   . cases hd
def qw(c:Option DV)(a b:Option DV):Option DV:=match c with
 |some (.v (.bool true))=>a
 |some (.v (.bool false))=>b
 |_=>none
def nZ(f:FuncId):Option (List DV)->Option (List DV)->Option DV
 |some a,some b=>some (.fn f a b)
 |_,_=>none
def pq(e:Env)(dh:ae)(bu:Array TypeId):Option (List DV)->Option DV
 |some [x]=>match bu[0]? with|none=>none|some ty=>iC e dh ty x
 |_=>none
def qx(l:List DV):Option (List Value):=l.mapM exact
def ba(e:Env)(dh:ae)(t:Tr DV):Op->Option DV
 |.move x|.assign x=>aJ e t x
 |.pick c a b=>qw (aJ e t c) (aJ e t a) (aJ e t b)
 |.build ty parts=>(gb e t parts.toList).bind (eD e ty)
 |.load ty a=>(aJ e t a).bind (ji e dh ty)
 |.nilCheck x=>(aJ e t x).bind lp
 |.binOp op ty x y _=>gO (jG e op ty x y) (aJ e t x) (aJ e t y)
 |.unOp op _ x=>(aJ e t x).bind (lJ (nR e op))
 |.convert s d x=>(aJ e t x).bind (mZ e dh s d)
 |.makeInterface ty x=>(aJ e t x).bind (lJ (vn e ty))
 |.makeFunc (.func f) first cap=>nZ f (cJ e t first.toList) (cJ e t cap.toList)
 |.slice ty x lo hi mx=>de e dh ty (aJ e t x) (eO e t lo) (eO e t hi) (eO e t mx)
 |.fieldAddr s x f=>(aJ e t x).bind (kK e s f)
 |.field ty x f=>(aJ e t x).bind (qu e ty f)
 |.indexAddr ty x ix=>gO (λa b=>gZ e ty a (gd b)) (aJ e t x) (aJ e t ix)
 |.index ty x ix=>gO (mY e ty) (aJ e t x) (aJ e t ix)
 |.lookup ty m k ok=>gO (lq e dh ty ok) (aJ e t m) (aJ e t k)
 |.extract x i=>(aJ e t x).bind (mh i)
 |.call c=>match c.callee with
  |.builtin .len=>pq e dh c.argTypes (cJ e t c.args.toList)
  |.builtin .min=>((cJ e t c.args.toList).bind qx).bind λl=>(qi e l).map .v
  |.builtin .max=>((cJ e t c.args.toList).bind qx).bind λl=>(rR e l).map .v
  |_=>none
 |_=>none
def qy{f:DV->Option DV}{g:Value->Option Value}(ht:TD R t dt){o:Operand}{d:DV}(hf:∀v d,Rel R v d->∀d',f d=some d'->∃v',g v=some v'/\Rel R v' d')(hd:(aJ e dt o).bind f=some d):∃v,(aF e t o).bind g=some v/\Rel R v d:=by
 obtain⟨x,h1,h2⟩:=E2.1 hd;obtain⟨v,h3,h4⟩:=fx ht h1;rw[h3];exact hf v x h4 d h2
def xZ{f:DV->DV->Option DV}{g:Value->Value->Option Value}(ht:TD R t dt){o p:Operand}{d:DV}(hf:∀v w d c,Rel R v d->Rel R w c->∀d',f d c=some d'->∃v',g v w=some v'/\Rel R v' d')(hd:gO f (aJ e dt o) (aJ e dt p)=some d):∃v,gJ g (aF e t o) (aF e t p)=some v/\Rel R v d:=by
 unfold gO at hd
 split at hd
 . rename_i x y hx hy;obtain⟨v,h3,h4⟩:=fx ht hx;obtain⟨w,h5,h6⟩:=fx ht hy;rw[h3,h5];exact hf v w x y h4 h6 d hd
 . cases hd
def x4(x:bO G h dh)(ht:TD (aQ h G) t dt){op:Op}{d:DV}(hd:ba e dh dt op=some d):∃v,bI e h t op=some v/\Rel (aQ h G) v d:=by
 cases op with
 |move o=>exact fx ht hd
 |assign o=>exact fx ht hd
 |pick c a b=>
  simp only[ba,qw]at hd;simp only[bI,rQ]
  split at hd
  . rename_i hc;obtain⟨v,h1,h2⟩:=fx ht hc;have:=h2.cQ;subst this;simp only[h1];exact fx ht hd
  . rename_i hc;obtain⟨v,h1,h2⟩:=fx ht hc;have:=h2.cQ;subst this;simp only[h1];exact fx ht hd
  . cases hd
 |build ty parts=>
  obtain⟨ps,h1,h2⟩:=E2.1 hd;obtain⟨vs,h3,h4⟩:=AQ ht h1;obtain⟨v,h5,h6⟩:=Sn h4 h2;exact⟨v,by simp only[bI,mU,h3,h5],h6⟩
 |load ty a=>exact qy ht (λv d hv d' h'=>F0 x hv h') hd
 |nilCheck o=>exact qy ht (λv d hv d' h'=>Sf hv h') hd
 |binOp op ty a b z=>exact xZ ht (λv w d c hv hw d' h'=>Sg hv hw h') hd
 |unOp op z o=>exact qy ht (λv d hv d' h'=>AU hv h') hd
 |convert s dd o=>exact qy ht (λv d hv d' h'=>So x hv h') hd
 |makeInterface ty o=>exact qy ht (λv d hv d' h'=>AU hv h') hd
 |makeFunc fn first cap=>
  cases fn with
  |func f=>
   simp only[ba,nZ]at hd
   split at hd
   . rename_i a b h1 h2;cases hd;obtain⟨vs,h3,h4⟩:=mX ht h1;obtain⟨ws,h5,h6⟩:=mX ht h2;exact⟨_,by simp only[bI,vo,h3,h5],Rel.R5 h4 h6⟩
   . cases hd
  |_=>simp[ba]at hd
 |slice ty o lo hi mx=>
  exact Sl x (λd h'=>fx ht h') (λd h'=>AS ht h') (λd h'=>AS ht h') (λd h'=>AS ht h') hd
 |fieldAddr s o f=>exact qy ht (λv d hv d' h'=>Sa hv h') hd
 |field ty o f=>exact qy ht (λv d hv d' h'=>Sb hv h') hd
 |indexAddr ty a b=>exact xZ ht (λv w d c hv hw d' h'=>Sc hv hw h') hd
 |index ty a b=>exact xZ ht (λv w d c hv hw d' h'=>Sd hv hw h') hd
 |lookup ty a b ok=>exact xZ ht (λv w d c hv hw d' h'=>Sm x hv hw h') hd
 |extract o i=>exact qy ht (λv d hv d' h'=>Se hv h') hd
 |call c=>
  simp only[ba]at hd;simp only[bI]
  split at hd
  . rename_i hc;simp only[hc];unfold pq at hd
    split at hd
    . rename_i y hy;obtain⟨vs,h1,h2⟩:=mX ht hy;cases h2 with
      | @cons v _ _ _ h2 h3=>
       cases h3;simp only[h1,vp]
       split at hd
       . cases hd
       . rename_i ty bw;simp only[bw];exact Sh x h2 hd
    . cases hd
  . rename_i hc;simp only[hc];obtain⟨us,h1,h2⟩:=E2.1 hd;obtain⟨ds,h3,h4⟩:=E2.1 h1;obtain⟨vs,h5,h6⟩:=mX ht h3;simp only[yy]at h2;obtain⟨r,h7,rfl⟩:=h2;refine⟨r, ?_,.v r⟩;rw[h5,F3 h6 h4];exact h7
  . rename_i hc;simp only[hc];obtain⟨us,h1,h2⟩:=E2.1 hd;obtain⟨ds,h3,h4⟩:=E2.1 h1;obtain⟨vs,h5,h6⟩:=mX ht h3;simp only[yy]at h2;obtain⟨r,h7,rfl⟩:=h2;refine⟨r, ?_,.v r⟩;rw[h5,F3 h6 h4];exact h7
  . cases hd
 |_=>simp[ba]at hd
end Go.aD
end
noncomputable section
namespace Go.aD
variable {e:Env} {G:Nat->Prop} {h:ab} {dh:ae} {t:Tr Value} {dt:Tr DV} {R:Rows}
def bO.new(x:bO G h dh){ao:bP}{o:bF}(hr:jf (aQ h G) ao o):bO G (h.new ao) (dh.new o)/\Kp G h dh G (h.new ao) (dh.new o):=by
 have hm:∀i r,aQ h G i=some r->aQ (h.new ao) G i=some r:=jg λi hg=>⟨hg,bM _ _ _ (by have:=(x.still i hg).1;omega)⟩;refine⟨⟨x.fD.mono hm,by rw[ab.bm,ae.bm,x.next],λi p hp=> ?_,λi hg=> ?_⟩,⟨Nat.le_succ _,λi hi hd=>⟨bM _ _ _ aa,by rw[ae.dN,if_neg (by have:=x.next;omega)];exact hd⟩,λ_ h=>h,λ_ _ h=>.inl h⟩⟩
 . rw[ae.dN]at hp;by_cases hi:i=dh.next
   . rw[if_pos hi]at hp;cases hp;subst hi;refine⟨by rw[ab.bm,x.next];omega,ao,by rw[<-x.next];exact qn _ _,hr.mono hm⟩
   . rw[if_neg hi]at hp;obtain⟨h1,ao',h2,h3⟩:=x.obj i p hp;exact⟨by rw[ab.bm];omega,ao',by rw[bM _ _ _ aa];exact h2,h3.mono hm⟩
 . obtain⟨h1,h2⟩:=x.still i hg;exact⟨by rw[ab.bm];omega,by rw[ae.dN,if_neg (by have:=x.next;omega)];exact h2⟩
def bO.set(x:bO G h dh){i:Nat}{o0:bF}(hi:dh.get i=some o0){ao:bP}{o:bF}(hr:jf (aQ h G) ao o):bO G (h.set i (some ao)) (dh.set i (some o))/\Kp G h dh G (h.set i (some ao)) (dh.set i (some o)):=by
 have aL:∀j,G j->j≠i:=λj hg e=>by subst e;rw[(x.still j hg).2]at hi;cases hi
 have hm:∀j r,aQ h G j=some r->aQ (h.set i (some ao)) G j=some r:=jg λj hg=>⟨hg,bD _ _ _ _ (aL j hg)⟩;refine⟨⟨x.fD.mono hm,by rw[ab.aY,ae.aY,x.next],λj p hp=> ?_,λj hg=> ?_⟩,⟨adv _,λj hj hd=> ?_,λ_ h=>h,λ_ _ h=>.inl h⟩⟩
 . rw[ae.bu]at hp;by_cases aI:j=i
   . rw[if_pos aI]at hp;cases hp;subst aI;exact⟨(x.obj j o0 hi).1,ao,eC _ _ _,hr.mono hm⟩
   . rw[if_neg aI]at hp;obtain⟨h1,ao',h2,h3⟩:=x.obj j p hp;exact⟨h1,ao',by rw[bD _ _ _ _ aI];exact h2,h3.mono hm⟩
 . obtain⟨h1,h2⟩:=x.still j hg;exact⟨h1,by rw[ae.bu,if_neg (aL j hg)];exact h2⟩
 . have:j≠i:=λe=>by subst e;rw[hd]at hi;cases hi
   exact⟨bD _ _ _ _ this,by rw[ae.bu,if_neg this];exact hd⟩
def bO.kill(x:bO G h dh){i:Nat}{o0:bF}(hi:dh.get i=some o0):bO G (h.set i none) (dh.set i none)/\Kp G h dh G (h.set i none) (dh.set i none):=by
 have aL:∀j,G j->j≠i:=λj hg e=>by subst e;rw[(x.still j hg).2]at hi;cases hi
 have hm:∀j r,aQ h G j=some r->aQ (h.set i none) G j=some r:=jg λj hg=>⟨hg,bD _ _ _ _ (aL j hg)⟩;refine⟨⟨x.fD.mono hm,by rw[ab.aY,ae.aY,x.next],λj p hp=> ?_,λj hg=> ?_⟩,⟨adv _,λj hj hd=> ?_,λ_ h=>h,λ_ _ h=>.inl h⟩⟩
 . rw[ae.bu]at hp;by_cases aI:j=i
   . rw[if_pos aI]at hp;cases hp
   . rw[if_neg aI]at hp;obtain⟨h1,ao',h2,h3⟩:=x.obj j p hp;exact⟨h1,ao',by rw[bD _ _ _ _ aI];exact h2,h3.mono hm⟩
 . obtain⟨h1,h2⟩:=x.still j hg;exact⟨h1,by rw[ae.bu,if_neg (aL j hg)];exact h2⟩
 . have:j≠i:=λe=>by subst e;rw[hd]at hi;cases hi
   exact⟨bD _ _ _ _ this,by rw[ae.bu,if_neg this];exact hd⟩
def dX(e:Env)(t:Tr DV):Op->Option (bF×(Nat->DV))
 |.alloc elem=>match e.zero elem with
  |none=>none
  |some z=>some (.row (z.cells.toList.map .v) true 0,λi=>.v (.pointer (some ⟨i,0,none⟩)))
 |.box _ x=>match aJ e t x with
  |none=>none
  |some d=>if(cC d).all cZ=true then some (.row (cC d) true 0,λi=>.v (.pointer (some ⟨i,0,none⟩)))else none
 |.buildSlice st len parts=>match e.under st,gb e t parts.toList with
  |some (.slice elem),some ps=>match e.size elem,e.zero elem with
   |some s,some z=>if len*s<=16777216/\z.cells.toList.length=s/\0<s then
    match kc (λi=>some (i*s,s)) ((ey z.cells.toList (len*s)).map .v) ps with
    |none=>none
    |some cs=>some (.row cs true 0,λi=>.v (.slice (some ⟨i,0,none⟩) len len))
    else none
   |_,_=>none
  |_,_=>none
 |.makeMap _ none=>some (.map [] 0,λi=>.v (.map (some i)))
 |.makeSlice st l c=>match e.under st,(aJ e t l).bind exact,(aJ e t c).bind exact with
  |some (.slice elem),some (.int .i64 l),some (.int .i64 c)=>match e.size elem,e.zero elem,e.bytes elem with
   |some s,some z,some b=>if 0<=l/\l<=c/\c<=1099511627776/\b*c.toNat<=1099511627776/\z.cells.toList.length=s/\0<s then
    some (.row ((ey z.cells.toList (c.toNat*s)).map .v) true 0,λi=>.v (.slice (some ⟨i,0,none⟩) l.toNat c.toNat))
    else none
   |_,_,_=>none
  |_,_,_=>none
 |_=>none
def Gb(ht:TD R t dt){o:Operand}{v:Value}(hd:(aJ e dt o).bind exact=some v):aF e t o=some v:=by
 obtain⟨d,h1,h2⟩:=E2.1 hd;obtain⟨u,h3,h4⟩:=fx ht h1;rw[h3,pg h4 h2]
def Gc(ht:TD R t dt){op:Op}{o:bF}{f:Nat->DV}(hd:dX e dt op=some (o,f)):∃ao af,cT e t op=some (ao,af)/\jf R ao o/\∀(R':Rows) (i:Nat),Rel R' (af i) (f i):=by
 unfold dX at hd;unfold cT
 split at hd
 . split at hd
   . cases hd
   . rename_i elem z hz;simp only[qG,yB]at hd;obtain⟨rfl,rfl⟩:=hd;simp only[hz];exact⟨_,_,rfl,.row (tG _),λ_ i=>.v _⟩
 . split at hd
   . cases hd
   . rename_i ty x d hx;obtain⟨v,h1,h2⟩:=fx ht hx
     split at hd
     . rename_i hc;simp only[qG,yB]at hd;obtain⟨rfl,rfl⟩:=hd;simp only[h1];exact⟨_,_,rfl,.row (AO h2 (AY hc)),λ_ i=>.v _⟩
     . cases hd
 . rename_i st len parts
   split at hd
   . rename_i elem ps hu hp;obtain⟨vs,h1,h2⟩:=AQ ht hp;simp only[hu,h1]
     split at hd
     . rename_i s z hs hz
       split at hd
       . rename_i hc
         split at hd
         . cases hd
         . rename_i cs hf;simp only[qG,yB]at hd;obtain⟨rfl,rfl⟩:=hd;obtain⟨cs',h3,h4⟩:=xY h2 (tG _) hf;have hb:FQ 0 s=true:=RC hc.2.2;simp only[hs,hz,RC hc.1,hc.2.1,KE,hb,RW,cond_true,h3];exact⟨_,_,rfl,.row h4,λ_ i=>.v _⟩
       . cases hd
     . cases hd
   . cases hd
 . simp only[qG,yB]at hd;obtain⟨rfl,rfl⟩:=hd;exact⟨_,_,rfl,.map .nil,λ_ i=>.v _⟩
 . split at hd
   . rename_i st lo co elem l c hu hl hc;simp only[hu,Gb ht hl,Gb ht hc,afF,oF]
     split at hd
     . rename_i s z b hs hz hb
       split at hd
       . rename_i bj;simp only[qG,yB]at hd;obtain⟨rfl,rfl⟩:=hd;obtain⟨c1,c2,c3,c4,c5,c6⟩:=bj;have aM:FQ 0 s=true:=RC c6;simp only[hs,hz,hb,c1,c2,c3,decide_true,RC c4,c5,KE,aM,RW,cond_true];exact⟨_,_,rfl,.row (tG _),λ_ i=>.v _⟩
       . cases hd
     . cases hd
   . cases hd
 . cases hd
def lM(e:Env)(dh:ae)(ty:TypeId):Option DV->Option DV->Option (ae×Nat)
 |some (.v (.pointer (some ⟨b,o,none⟩))),some d=>match dh.get b,e.size ty with
  |some (.row cs true aj),some n=>if(cC d).length=n/\0<n/\o+n<=cs.length/\(cC d).all cZ=true then some (dh.set b (some (.row (cs.take o++cC d++cs.drop (o+n)) true aj)),b)else none
  |_,_=>none
 |_,_=>none
def Sq(x:bO G h dh){ty:TypeId}{p v:Option Value}{dp d:Option DV}{ad:ae}{b:Nat}(hp:∀d,dp=some d->∃u,p=some u/\Rel (aQ h G) u d)(hv:∀c,d=some c->∃u,v=some u/\Rel (aQ h G) u c)
 (hd:lM e dh ty dp d=some (ad,b)):∃h',qj e h ty p v=some h'/\bO G h' ad/\Kp G h dh G h' ad/\∀i,i≠b->h'.get i=h.get i/\ad.get i=dh.get i:=by
 unfold lM at hd
 split at hd
 . rename_i b' o d;obtain⟨u,rfl,h1⟩:=hp _ rfl;obtain⟨w,rfl,h2⟩:=hv _ rfl;have:=h1.cQ;subst this
   split at hd
   . rename_i cs aj n hg hs
     split at hd
     . rename_i hc;obtain⟨c1,c2,c3,c4⟩:=hc;simp only[qG,yB]at hd;obtain⟨rfl,rfl⟩:=hd;obtain⟨_,ao,g1,g2⟩:=x.obj _ _ hg;cases g2 with
       | @row ai _ _ _ g2=>
        have aS:=AO h2 (AY c4);have e1:w.cells.toList.length=n:=by rw[aS.length];exact c1
        have hw:mS h b' o w.cells.toList=some (h.set b' (some (.row (dM ai o w.cells.toList) true aj))):=Am g1 (by rw[e1,g2.length];exact c3) (xW aS c4);refine⟨_,by rw[FD hs e1 c2,hw], ?_⟩;have:jf (aQ h G) (.row (dM ai o w.cells.toList) true aj) (.row (cs.take o++cC d++cs.drop (o+n)) true aj):=by
         refine .row ?_;unfold dM;rw[e1];exact aV.append (aV.append (aV.take g2 _) aS) (aV.drop g2 _)
        obtain⟨k1,k2⟩:=x.set hg this;exact⟨k1,k2,λi hi=>⟨bD _ _ _ _ hi,by rw[ae.bu,if_neg hi]⟩⟩
     . cases hd
   . cases hd
 . cases hd
def tI(e:Env)(dh:ae)(az:Array TypeId):Option (List DV)->Option (ae×Nat)
 |some [.v (.slice (some ⟨b,o,none⟩) n _)]=>match az[0]? with
  |some st=>match e.under st with
   |some (.slice elem)=>match dh.get b,e.size elem,e.zero elem with
    |some (.row cs true aj),some 1,some (.int k m)=>if 0<n/\o+n<=cs.length then some (dh.set b (some (.row (cs.take o++RK n (.v (.int k m))++cs.drop (o+n)) true aj)),b)else none
    |_,_,_=>none
   |_=>none
  |_=>none
 |_=>none
def Sr(v:Value)(n:Nat):ey [v] n=RK n v:=by
 unfold ey;rw[List.eq_replicate_iff];refine⟨aw,λb hb=> ?_⟩;obtain⟨i,_,rfl⟩:=List.mem_map.1 hb;simp[Nat.mod_one]
def Gd(v:Value):∀n,cz R (RK n v) (RK n (.v v))
 |0=>.nil
 |n+1=>.cons (.v _) (Gd v n)
def Ss(x:bO G h dh){az:Array TypeId}{args:Option (List Value)}{ak:Option (List DV)}(ha:∀l,ak=some l->∃vs,args=some vs/\cz (aQ h G) vs l){ad:ae}{b:Nat}(hd:tI e dh az ak=some (ad,b)):
 ∃v h',xC e h az args=some (v,h')/\v=undef/\bO G h' ad/\Kp G h dh G h' ad/\∀i,i≠b->h'.get i=h.get i/\ad.get i=dh.get i:=by
 unfold tI at hd
 split at hd
 . rename_i b' o n c;obtain⟨vs,rfl,hr⟩:=ha _ rfl;cases hr with
   |cons h1 h2=>
    cases h2;have:=h1.cQ;subst this
    split at hd
    . rename_i st bk
      split at hd
      . rename_i elem hu
        split at hd
        . rename_i cs aj k m hg hs hz
          split at hd
          . rename_i hc;simp only[qG,yB]at hd;obtain⟨rfl,rfl⟩:=hd;obtain⟨_,ao,g1,g2⟩:=x.obj _ _ hg;cases g2 with
            | @row ai _ _ _ g2=>
             obtain⟨n,rfl⟩:∃q,n=q+1:=⟨n-1,aa⟩;have e1:ey [Value.int k m] (n+1)=RK (n+1) (.int k m):=Sr _ _;have hw:mS h b' o (RK (n+1) (.int k m))=some (h.set b' (some (.row (dM ai o (RK (n+1) (.int k m))) true aj))):=Am g1 (by rw[afJ,g2.length];exact hc.2) (by simp[dF]);have bo:kz h ⟨b',o,none⟩ (RK (n+1) (.int k m))=some (h.set b' (some (.row (dM ai o (RK (n+1) (.int k m))) true aj))):=by rw[<-hw];exact Al
             have:jf (aQ h G) (.row (dM ai o (RK (n+1) (.int k m))) true aj) (.row (cs.take o++RK (n+1) (.v (.int k m))++cs.drop (o+(n+1))) true aj):=by
              refine .row ?_;unfold dM;rw[afJ];exact aV.append (aV.append (aV.take g2 _) (Gd _ _)) (aV.drop g2 _)
             obtain⟨k1,k2⟩:=x.set hg this;refine⟨.tuple #[],_, ?_,rfl,k1,k2,λi hi=>⟨bD _ _ _ _ hi,by rw[ae.bu,if_neg hi]⟩⟩;have e2:(Value.int k m).cells.toList=[.int k m]:=rfl;simp only[xC,uS,bk,hu,hs,hz,e2,List.length_singleton,Nat.mul_one,e1,bo,YN];rfl
          . cases hd
        . cases hd
      . cases hd
    . cases hd
 . cases hd
def m9(P:Program)(kt:TypeId)(k:Value):List bH->Nat->Option (Option Nat)
 |[],_=>some none
 |x::es,i=>match kB P kt k x.key with
  |none=>none
  |some true=>some (some i)
  |some false=>m9 P kt k es (i+1)
def AZ{P:Program}{kt:TypeId}{k:Value}:∀{es:List MapEntry} {ds:List bH} {r:Option Nat} (i:Nat),aV (je R) es ds->m9 P kt k ds i=some r->∃r',gF P kt k es i=some r'/\r'.map (·.1)=r
 |[],[],r,i,.nil,h=>by simp only[m9,qG]at h;subst h;exact⟨none,rfl,rfl⟩
 |x::es,y::ds,r,i,.cons h1 h2,h=>by
  simp only[m9]at h;simp only[gF,h1.key]
  split at h
  . cases h
  . rename_i hk;cases h;exact⟨_,by rw[hk],rfl⟩
  . rename_i hk;simp only[hk];exact AZ (i+1) h2 h
def kM(e:Env)(ty:TypeId)(k:Value)(d:DV)(es:List bH)(clock:Nat):Option bF:=
 match e.under ty with
 |some (.map kt _)=>match e.under kt with
  |none=>none
  |some kd=>if plain k=true/\nF kd k=true/\(b9 e.P (Instr.checkKey false 10000 kt k)).isSome=true then match m9 e.P kt k es 0 with
   |none=>none
   |some (some i)=>if Instr.sameBits 10000 (((es[i]?).map (·.key)).getD k) k=true then some (.map (es.modify i λx=>{x with key:=k,val:=d}) clock)else none
   |some none=>some (.map (es++[⟨k,d,clock⟩]) (clock+1))
  else none
 |_=>none
def Ge{k:Value}{v:Value}{d:DV}(hv:Rel R v d):∀{es:List MapEntry} {ds:List bH} (i:Nat),aV (je R) es ds->aV (je R) (es.modify i λx=>{x with key:=k,val:=v}) (ds.modify i λx=>{x with key:=k,val:=d})
 |_,_,i,.nil=>by cases i<;>exact .nil
 |_,_,0,.cons h1 h2=>.cons ⟨rfl,hv,h1.born⟩ h2
 |_,_,i+1,.cons h1 h2=>.cons h1 (Ge hv i h2)
def St{ty:TypeId}{k v:Value}{d:DV}{es:List MapEntry}{ds:List bH}{clock:Nat}{o:bF}(hr:aV (je R) es ds)(hv:Rel R v d)(hd:kM e ty k d ds clock=some o):∃ao,nW e ty k v es clock=some ao/\jf R ao o:=by
 unfold kM at hd;unfold nW
 split at hd
 . rename_i kt et hu;simp only[hu]
   split at hd
   . cases hd
   . rename_i kd hk;simp only[hk]
     split at hd
     . rename_i hc;obtain⟨c1,c2,c3⟩:=hc;obtain⟨u,bq⟩:=afH.1 c3;simp only[c1,c2,RW,cond_true,bq]
       split at hd
       . cases hd
       . rename_i i hp;obtain⟨r',h1,h2⟩:=AZ 0 hr hp;cases r' with
         |none=>cases h2
         |some q=>
          obtain⟨j,w⟩:=q;cases h2;simp only[h1]
          split at hd
          . rename_i hb;cases hd;have aT:(es[j]?).map (·.key)=(ds[j]?).map (·.key):=by
             cases hj:es[j]? with
             |none=>
              have:ds.length<=j:=by rw[<-hr.length];exact afK.1 hj
              rw[afK.2 this];rfl
             |some q=>
              obtain⟨q',h3,h4⟩:=hr.get j q hj;rw[h3];simp[h4.key]
            rw[<-aT]at hb;simp only[hb,cond_true];exact⟨_,rfl,.map (Ge hv j hr)⟩
          . cases hd
       . rename_i hp;obtain⟨r',h1,h2⟩:=AZ 0 hr hp;cases r' with
         |some q=>cases h2
         |none=>
          cases hd;simp only[h1];exact⟨_,rfl,.map (aV.append hr (.cons ⟨rfl,hv,rfl⟩ .nil))⟩
     . cases hd
 . cases hd
def jI(e:Env)(dh:ae)(ty:TypeId):Option DV->Option DV->Option DV->Option (ae×Nat)
 |some (.v (.map (some r))),some k,some d=>match dh.get r,exact k with
  |some (.map es clock),some k=>(kM e ty k d es clock).map λo=>(dh.set r (some o),r)
  |_,_=>none
 |_,_,_=>none
def Gf(x:bO G h dh){ty:TypeId}{m k v:Option Value}{dm dk dv:Option DV}{ad:ae}{b:Nat}(hm:∀d,dm=some d->∃u,m=some u/\Rel (aQ h G) u d)(hk:∀d,dk=some d->∃u,k=some u/\Rel (aQ h G) u d)(hv:∀d,dv=some d->∃u,v=some u/\Rel (aQ h G) u d)
 (hd:jI e dh ty dm dk dv=some (ad,b)):∃h',oZ e h ty m k v=some h'/\bO G h' ad/\Kp G h dh G h' ad/\∀i,i≠b->h'.get i=h.get i/\ad.get i=dh.get i:=by
 unfold jI at hd
 split at hd
 . rename_i r k' d;obtain⟨u,rfl,h1⟩:=hm _ rfl;obtain⟨w,rfl,h2⟩:=hk _ rfl;obtain⟨z,rfl,h3⟩:=hv _ rfl;have:=h1.cQ;subst this
   split at hd
   . rename_i es clock kv hg bs;simp only[yy]at hd;obtain⟨o,h4,h5⟩:=hd;simp only[yB]at h5;obtain⟨rfl,rfl⟩:=h5;obtain⟨_,ao,g1,g2⟩:=x.obj _ _ hg;cases g2 with
     | @map res _ _ g2=>
      have:=pg h2 bs;subst this;obtain⟨ao',q1,q2⟩:=St g2 h3 h4;obtain⟨k1,k2⟩:=x.set hg q2;exact⟨_,by rw[FO,g1,FP,q1];rfl,k1,k2,λi hi=>⟨bD _ _ _ _ hi,by rw[ae.bu,if_neg hi]⟩⟩
   . cases hd
 . cases hd
def Env.ap(e:Env)(st:TypeId):Option (Nat×Nat):=
 match e.under st with
 |some (.slice el)=>match e.size el,e.zero el,e.bytes el with
  |some s,some z,some b=>if 0<s/\z.cells.toList.length=s then some (s,b)else none
  |_,_,_=>none
 |_=>none
def eP(dh:ae)(base:Option Addr)(len cap sz b n:Nat)(new:List DV):Option (DV×ae×List Nat):=
 if len+n<=cap then(if n=0 then some (.v (.slice base (len+n) cap),dh,[])else match base with
  |some ⟨i,o,none⟩=>match dh.get i with
   |some (.row cs true aj)=>if o+len*sz+new.length<=cs.length/\new.all cZ=true then some (.v (.slice base (len+n) cap),dh.set i (some (.row (cs.take (o+len*sz)++new++cs.drop (o+len*sz+new.length)) true aj)),[i])else none
   |_=>none
  |_=>none)
 else if(len+n)*(b+1)<=1073741824 then match base with
  |none=>if len=0/\cap=0 then some (.v (.slice (some ⟨dh.next,0,none⟩) (len+n) (len+n)),dh.new (.row new true sz),[])else none
  |some ⟨i,o,none⟩=>match dh.get i with
   |some (.row cs wr aj)=>if o+len*sz<=cs.length then
    (if aj=0\/(aj=sz/\o+cap*sz<cs.length)then some (.v (.slice (some ⟨dh.next,0,none⟩) (len+n) (len+n)),dh.new (.row ((cs.drop o).take (len*sz)++new) true sz),[])
    else if wr=true/\aj=sz/\new.all cZ=true then some (.v (.slice (some ⟨dh.next,0,none⟩) (len+n) (len+n)),(dh.set i none).new (.row ((cs.drop o).take (len*sz)++new) true sz),[i])else none)else none
   |_=>none
  |_=>none
 else none
def jJ(e:Env)(dh:ae)(az:Array TypeId):Option (List DV)->Option (DV×ae×List Nat)
 |some [.v (.slice base len cap),x]=>match az[0]?,az[1]? with
  |some st,some xt=>match e.ap st,e.elem xt with
   |some (sz,b),some _=>match gj dh sz x with
    |some (n,new)=>eP dh base len cap sz b n new
    |none=>none
   |_,_=>none
  |_,_=>none
 |_=>none
def Su(x:bO G h dh){base:Option Addr}{len cap sz b n:Nat}{new:List DV}{ah:List Value}(hr:cz (aQ h G) ah new)(hl:ah.length=n*sz)(hs:0<sz){d:DV}{ad:ae}{T:List Nat}(hd:eP dh base len cap sz b n new=some (d,ad,T)):
 ∃v h',p8 h base len cap sz b n ah=some (v,h')/\Rel (aQ h' G) v d/\bO G h' ad/\Kp G h dh G h' ad/\∀i,i<h.next->i∉T->h'.get i=h.get i/\ad.get i=dh.get i:=by
 unfold eP at hd;unfold p8
 split at hd
 . rename_i hle;simp only[RC hle,cond_true]
   split at hd
   . rename_i hn;subst hn;simp only[qG,yB]at hd;obtain⟨rfl,rfl,rfl⟩:=hd;have:ah=[]:=afj (by simpa using hl);subst this;cases base with
     |none=>exact⟨_,_,rfl,.v _,x,Kp.refl _ _ _,λ_ _ _=>⟨rfl,rfl⟩⟩
     |some a=>exact⟨_,_,rfl,.v _,x,Kp.refl _ _ _,λ_ _ _=>⟨rfl,rfl⟩⟩
   . rename_i hn
     split at hd
     . rename_i i o
       split at hd
       . rename_i cs aj hg
         split at hd
         . rename_i hc;simp only[qG,yB]at hd;obtain⟨rfl,rfl,rfl⟩:=hd;obtain⟨_,ao,g1,g2⟩:=x.obj _ _ hg;cases g2 with
           | @row ai _ _ _ g2=>
            have aU:=xW hr hc.2;have hlen:o+len*sz+ah.length<=ai.length:=by rw[hr.length,g2.length];exact hc.1
            have bt:0<n*sz:=Nat.mul_pos aa hs;have bw:ah≠[]:=λe=>by subst e;simp only[afI]at hl;omega
            have hw:kz h (Addr.add ⟨i,o,none⟩ (len*sz)) ah=some (h.set i (some (.row (dM ai (o+len*sz) ah) true aj))):=by
             rw[rW];cases bd:ah with
             |nil=>exact absurd bd bw
             |cons u us=>rw[Al,<-bd];exact Am g1 hlen aU
            simp only[hw];have:jf (aQ h G) (.row (dM ai (o+len*sz) ah) true aj) (.row (cs.take (o+len*sz)++new++cs.drop (o+len*sz+new.length)) true aj):=by
             refine .row ?_;unfold dM;rw[hr.length];exact aV.append (aV.append (aV.take g2 _) hr) (aV.drop g2 _)
            obtain⟨k1,k2⟩:=x.set hg this;exact⟨_,_,rfl,.v _,k1,k2,λj _ hj=>⟨bD _ _ _ _ (by simpa using hj),by rw[ae.bu,if_neg (by simpa using hj)]⟩⟩
         . cases hd
       . cases hd
     . cases hd
 . rename_i hle;have bx:YT (len+n) cap=false:=by
    cases hb:YT (len+n) cap with
    |false=>rfl
    |true=>exact absurd (afA hb) hle
   split at hd
   . rename_i hb;simp only[bx,cond_false,RC hb,cond_true]
     split at hd
     . split at hd
       . rename_i hc;obtain⟨rfl,rfl⟩:=hc;simp only[qG,yB]at hd;obtain⟨rfl,rfl,rfl⟩:=hd;simp only[KE,RW,cond_true];obtain⟨k1,k2⟩:=x.new (ao:=.row ah true sz) (.row hr);exact⟨_,_,rfl,by rw[x.next];exact .v _,k1,k2,λi hi _=>⟨bM _ _ _ aa,by rw[ae.dN,if_neg (by have:=x.next;omega)]⟩⟩
       . cases hd
     . rename_i i o
       split at hd
       . rename_i cs wr aj hg
         split at hd
         . rename_i hlen;obtain⟨_,ao,g1,g2⟩:=x.obj _ _ hg;cases g2 with
           | @row ai _ _ _ g2=>
            have bA:((ai.drop o).take (len*sz)).length=len*sz:=by rw[Vs,Xy,g2.length];omega
            have bB:gx h ⟨i,o,none⟩ (len*sz)=some ((ai.drop o).take (len*sz)):=by simp only[gx,g1,bA,KE,cond_true]
            simp only[bB,g1]
            split at hd
            . rename_i hc;simp only[qG,yB]at hd;obtain⟨rfl,rfl,rfl⟩:=hd;have aq:(ab8 aj 0||(ab8 aj sz&&FQ (o+cap*sz) ai.length))=true:=by
               rcases hc with hc|⟨bE,aW⟩
               . simp[hc]
               . have:FQ (o+cap*sz) ai.length=true:=RC (by rw[g2.length];exact aW);simp[bE,this]
              simp only[aq,cond_true];obtain⟨k1,k2⟩:=x.new (ao:=.row ((ai.drop o).take (len*sz)++ah) true sz) (.row (aV.append (vA g2 o _) hr));exact⟨_,_,rfl,by rw[x.next];exact .v _,k1,k2,λi hi _=>⟨bM _ _ _ aa,by rw[ae.dN,if_neg (by have:=x.next;omega)]⟩⟩
            . rename_i hc
              split at hd
              . rename_i aW;obtain⟨rfl,rfl,bG⟩:=aW;simp only[qG,yB]at hd;obtain⟨rfl,rfl,rfl⟩:=hd;have aq:(ab8 aj 0||(true&&FQ (o+cap*aj) ai.length))=false:=by
                 have h1:ab8 aj 0=false:=by
                  cases aM:ab8 aj 0 with
                  |false=>rfl
                  |true=>exact absurd (.inl (Nat.eq_of_beq_eq_true aM)) hc
                 have h2:FQ (o+cap*aj) ai.length=false:=by
                  cases aM:FQ (o+cap*aj) ai.length with
                  |false=>rfl
                  |true=>exact absurd (.inr ⟨rfl,by rw[<-g2.length];exact afA aM⟩) hc
                 simp[h1,h2]
                simp only[aq,cond_false,KE,xW hr bG,RW,cond_true];obtain⟨k1,k2⟩:=x.kill hg;have hm:∀j r,aQ h G j=some r->aQ (h.set i none) G j=some r:=k2.aQ x;obtain⟨k3,k4⟩:=k1.new (ao:=.row ((ai.drop o).take (len*aj)++ah) true aj) (.row ((aV.append (vA g2 o _) hr).mono λ_ _=>Rel.mono hm));refine⟨_,_,rfl, ?_,k3,k2.trans k4,λj hj bf=>⟨by rw[bM _ _ _ (by rw[ab.aY];omega),bD _ _ _ _ (by simpa using bf)],by rw[ae.dN,if_neg (by rw[ae.aY];have:=x.next;omega),ae.bu,if_neg (by simpa using bf)]⟩⟩
                . rw[x.next];exact .v _
              . cases hd
         . cases hd
       . cases hd
     . cases hd
   . cases hd
def Sv(x:bO G h dh){az:Array TypeId}{args:Option (List Value)}{ak:Option (List DV)}(ha:∀l,ak=some l->∃vs,args=some vs/\cz (aQ h G) vs l){d:DV}{ad:ae}{T:List Nat}(hd:jJ e dh az ak=some (d,ad,T)):
 ∃v h',tA e h az args=some (v,h')/\Rel (aQ h' G) v d/\bO G h' ad/\Kp G h dh G h' ad/\∀i,i<h.next->i∉T->h'.get i=h.get i/\ad.get i=dh.get i:=by
 unfold jJ at hd
 split at hd
 . rename_i base len cap y;obtain⟨vs,rfl,h1⟩:=ha _ rfl;cases h1 with
   | @cons v0 _ bY _ h1 h2=>
    cases h2 with
    | @cons v1 _ bI _ h2 h3=>
     cases h3;have:=h1.cQ;subst this
     split at hd
     . rename_i st xt bK bL
       split at hd
       . rename_i sz b ss aC bQ
         split at hd
         . rename_i n new aX;unfold Env.ap at aC
           split at aC
           . rename_i el hu
             split at aC
             . rename_i s z b' h4 h5 h6
               split at aC
               . rename_i hc;simp only[qG,yB]at aC;obtain⟨rfl,rfl⟩:=aC;obtain⟨bR,bS,_⟩:=F4 bQ;obtain⟨xb,xc,ah,rfl,q1,q2,q3⟩:=F9 x h2 aX;obtain⟨v,h',k1,k2,k3,k4,k5⟩:=Su x q2 q3 hc.1 hd;refine⟨v,h', ?_,k2,k3,k4,k5⟩;have hb:FQ 0 s=true:=RC hc.1;have hi:oG (.slice bR)=false:=rfl;simp only[tA,nG,bK,bL,hu,bS,h4,h5,h6,hi,sZ,cond_false,p7,s8,q1,hb,hc.2,q3,KE,RW,cond_true];exact k1
               . cases aC
             . cases aC
           . cases aC
         . cases hd
       . cases hd
     . cases hd
 . cases hd
def lO(e:Env)(dh:ae)(ty:TypeId)(x:DV):Option bF:=match x,e.under ty with
 |.v (.string s),some .string=>some (.eY s 0)
 |.v (.map none),some (.map _ _)=>some (.cF none 0 [] 0)
 |.v (.map (some m)),some (.map _ _)=>match dh.get m with
  |some (.map _ clock)=>some (.cF (some m) clock [] clock)
  |_=>none
 |_,_=>none
def Sw(x:bO G h dh){ty:TypeId}{v:Value}{d:DV}{o:bF}(hv:Rel (aQ h G) v d)(hd:lO e dh ty d=some o):∃ao,vq e h ty v=some ao/\jf (aQ h G) ao o:=by
 unfold lO at hd;unfold vq
 split at hd
 . rename_i hu;have:=hv.cQ;subst this;cases hd;exact⟨_,by simp only[hu],.eY⟩
 . rename_i hu;have:=hv.cQ;subst this;cases hd;exact⟨_,by simp only[hu],.cF⟩
 . rename_i m _ _ hu;have:=hv.cQ;subst this
   split at hd
   . rename_i es clock hg;cases hd;obtain⟨_,ao,g1,g2⟩:=x.obj _ _ hg;cases g2 with
     |map g2=>exact⟨_,by simp only[hu,g1],.cF⟩
   . cases hd
 . cases hd
def kN(dh:ae)(it:DV)(isString:Bool):Option (DV×ae×Nat):=
 match it with
 |.v (.pointer (some ⟨r,0,none⟩))=>match dh.get r,isString with
  |some (.eY s pos),true=>if pos<s.size then some (.bp [.v (.bool true),.v (.int .i64 pos),.v (.int .i32 (Utf8.decode s pos).1)],dh.set r (some (.eY s (pos+(Utf8.decode s pos).2))),r)else some (.bp [.v (.bool false)],dh,r)
  |some (.cF none _ _ _),false=>some (.bp [.v (.bool false)],dh,r)
  |some (.cF (some m) since seen last),false=>match dh.get m with
   |some (.map es clock)=>
    if(!seen.isEmpty&& !es.isEmpty&&es.all λx=>YT last x.born)=true then none else
    match(es.filter λx=> !seen.contains x.born).filter λx=>decide (x.born<since),(es.filter λx=> !seen.contains x.born).filter λx=>decide (x.born>=since)with
    |[],[]=>some (.bp [.v (.bool false)],dh,r)
    |[x],[]=>some (.bp [.v (.bool true),fZ x.key,x.val],dh.set r (some (.cF (some m) since (seen++[x.born]) clock)),r)
    |_,_=>none
   |_=>none
  |_,_=>none
 |_=>none
def vD{f:MapEntry->Bool}{g:bH->Bool}(aG:∀x y,je R x y->f x=g y):∀{es:List MapEntry} {ds:List bH},aV (je R) es ds->aV (je R) (es.filter f) (ds.filter g)
 |_,_,.nil=>.nil
 |_,_,.cons (a:=x) (b:=y) h1 h2=>by
  simp only[List.filter_cons,aG x y h1]
  split
  . exact .cons h1 (vD aG h2)
  . exact vD aG h2
def Gg{f:MapEntry->Bool}{g:bH->Bool}(aG:∀x y,je R x y->f x=g y):∀{es:List MapEntry} {ds:List bH},aV (je R) es ds->es.all f=ds.all g
 |_,_,.nil=>rfl
 |_,_,.cons (a:=x) (b:=y) h1 h2=>by simp only[List.all_cons,aG x y h1,Gg aG h2]
def Sx(x:bO G h dh){it:Value}{aN d:DV}{s:Bool}{ad:ae}{b:Nat}(hv:Rel (aQ h G) it aN)(hd:kN dh aN s=some (d,ad,b)):∃v h',p9 h it s=some (v,h')/\Rel (aQ h' G) v d/\bO G h' ad/\Kp G h dh G h' ad/\∀i,i≠b->h'.get i=h.get i/\ad.get i=dh.get i:=by
 unfold kN at hd;unfold p9
 split at hd
 . rename_i r;have:=hv.cQ;subst this
   split at hd
   . rename_i st pos hg;obtain⟨_,ao,g1,g2⟩:=x.obj _ _ hg;cases g2 with
     |eY=>
      simp only[g1]
      split at hd
      . rename_i ba;simp only[qG,yB]at hd;obtain⟨rfl,rfl,rfl⟩:=hd;have:FQ pos st.size=true:=RC ba;simp only[this,cond_true];obtain⟨k1,k2⟩:=x.set hg (ao:=.eY st (pos+(Utf8.decode st pos).2)) .eY;exact⟨_,_,rfl,Rel.j9 (a:=[.bool true,.int .i64 pos,.int .i32 (Utf8.decode st pos).1]) (.cons (.v _) (.cons (.v _) (.cons (.v _) .nil))),k1,k2,λi hi=>⟨bD _ _ _ _ hi,by rw[ae.bu,if_neg hi]⟩⟩
      . rename_i ba;simp only[qG,yB]at hd;obtain⟨rfl,rfl,rfl⟩:=hd;have:FQ pos st.size=false:=by
         cases hb:FQ pos st.size with
         |false=>rfl
         |true=>exact absurd (afA hb) ba
        simp only[this,cond_false];exact⟨_,_,rfl,Rel.j9 (a:=[.bool false]) (.cons (.v _) .nil),x,Kp.refl _ _ _,λ_ _=>aw⟩
   . rename_i hg;obtain⟨_,ao,g1,g2⟩:=x.obj _ _ hg;cases g2 with
     |cF=>
      simp only[g1];simp only[qG,yB]at hd;obtain⟨rfl,rfl,rfl⟩:=hd;exact⟨_,_,rfl,Rel.j9 (a:=[.bool false]) (.cons (.v _) .nil),x,Kp.refl _ _ _,λ_ _=>⟨rfl,rfl⟩⟩
   . rename_i m since seen last hg;obtain⟨_,ao,g1,g2⟩:=x.obj _ _ hg;cases g2 with
     |cF=>
      simp only[g1]
      split at hd
      . rename_i es clock bb;obtain⟨_,bg,g3,g4⟩:=x.obj _ _ bb;cases g4 with
        | @map res _ _ g4=>
         simp only[g3]
         split at hd
         . cases hd
         . rename_i bT;have e1:res.isEmpty=es.isEmpty:=by cases g4<;>rfl
           have e2:(res.all λx=>YT last x.born)=es.all λx=>YT last x.born:=Gg (λa b aH=>by rw[aH.born]) g4;have bc:(!seen.isEmpty&& !res.isEmpty&&res.all λx=>YT last x.born)=false:=by rw[e1,e2];simpa using bT
           have f0:=vD (f:=λx=> !seen.contains x.born) (g:=λx=> !seen.contains x.born) (λa b aH=>by rw[aH.born]) g4;have f1:=vD (f:=λx=>decide (x.born<since)) (g:=λx=>decide (x.born<since)) (λa b aH=>by rw[aH.born]) f0;have f2:=vD (f:=λx=>decide (x.born>=since)) (g:=λx=>decide (x.born>=since)) (λa b aH=>by rw[aH.born]) f0;simp only[bc,cond_false]
           split at hd
           . rename_i h1 h2;rw[h1]at f1;rw[h2]at f2;simp only[qG,yB]at hd;obtain⟨rfl,rfl,rfl⟩:=hd;have z1:=f1.length;have z2:=f2.length;rw[afj z1,afj z2];exact⟨_,_,rfl,Rel.j9 (a:=[.bool false]) (.cons (.v _) .nil),x,Kp.refl _ _ _,λ_ _=>⟨rfl,rfl⟩⟩
           . rename_i y h1 h2;rw[h1]at f1;rw[h2]at f2;simp only[qG,yB]at hd;obtain⟨rfl,rfl,rfl⟩:=hd;have z2:=f2.length;rw[afj z2];generalize bZ:(res.filter λx=> !seen.contains x.born).filter (λx=>decide (x.born<since))=fe at f1;cases f1 with
             | @cons z _ _ _ hz hn=>
              cases hn;simp only;obtain⟨k1,k2⟩:=x.set hg (ao:=.cF (some m) since (seen++[z.born]) clock) (o:=.cF (some m) since (seen++[y.born]) clock) (by rw[hz.born];exact .cF);refine⟨_,_,rfl,Rel.j9 (a:=[.bool true,z.key,z.val]) (.cons (.v _) (.cons (by rw[hz.key];exact tH _) (.cons (hz.val.mono (k2.aQ x)) .nil))),k1,k2,λi hi=>⟨bD _ _ _ _ hi,by rw[ae.bu,if_neg hi]⟩⟩
           . cases hd
      . cases hd
   . cases hd
 . cases hd
def Gh{R:Rows}{f:MapEntry->Bool}{g:bH->Bool}(aG:∀x y,je R x y->f x=g y):∀{es:List MapEntry} {ds:List bH},aV (je R) es ds->∀{y:bH},ds.find? g=some y->∃x,es.find? f=some x/\je R x y
 |_,_,.nil,y,h=>by cases h
 |_,_,.cons (a:=a) (b:=b) h1 h2,y,h=>by
  simp only[List.find?_cons,aG a b h1]at h⊢
  split at h
  . cases h;exact⟨a,rfl,h1⟩
  . exact Gh aG h2 h
def tJ(dh:ae):DV->Option DV
 |.v (.pointer (some ⟨r,0,none⟩))=>match dh.get r with
  |some (.cF (some m) _ seen an)=>match seen.getLast?,dh.get m with
   |some av,some (.map es clock)=>if clock=an then(es.find? λx=>x.born==av).map λx=>.bp [fZ x.key,x.val]else none
   |_,_=>none
  |_=>none
 |_=>none
def Sy(x:bO G h dh){it:Value}{aN d:DV}(hv:Rel (aQ h G) it aN)(hd:tJ dh aN=some d):∃v,ri h it=some v/\Rel (aQ h G) v d:=by
 unfold tJ at hd
 split at hd
 . rename_i r;have:=hv.cQ;subst this
   split at hd
   . rename_i m s seen an hg;obtain⟨_,ao,g1,g2⟩:=x.obj _ _ hg;cases g2 with
     |cF=>
      split at hd
      . rename_i av es clock hl bb;obtain⟨_,bg,g3,g4⟩:=x.obj _ _ bb;cases g4 with
        | @map res _ _ g4=>
         split at hd
         . rename_i hc;subst hc;rw[yy]at hd;obtain⟨y,h1,rfl⟩:=hd;obtain⟨z,h2,h3⟩:=Gh (f:=λx=>x.born==av) (λa b aH=>by rw[aH.born]) g4 h1;refine⟨.tuple #[z.key,z.val],by simp only[ri,g1,hl,g3,KE,cond_true,h2],Rel.j9 (a:=[z.key,z.val]) (.cons (by rw[h3.key];exact tH _) (.cons h3.val .nil))⟩
         . cases hd
      . cases hd
   . cases hd
 . cases hd
def x5(dh:ae)(d:DV)(K:DV->ae->Nat->Prop):Prop:=∃r m since seen last es clock,d=.v (.pointer (some ⟨r,0,none⟩))/\dh.get r=some (.cF (some m) since seen last)/\dh.get m=some (.map es clock)/\(∀x∈es,x.born<since)/\since<=last/\
 ((∀x∈es,seen.contains x.born=true)->K (.bp [.v (.bool false)]) dh r)/\∀x∈es,seen.contains x.born=false->K (.bp [.v (.bool true),fZ x.key,x.val]) (dh.set r (some (.cF (some m) since (seen++[x.born]) clock))) r
def Gi{R:Rows}:∀{es:List MapEntry} {ds:List bH},aV (je R) es ds->(∀x∈es,∃y∈ds,je R x y)/\∀y∈ds,∃x∈es,je R x y
 |_,_,.nil=>⟨λ_ h=>(by cases h),λ_ h=>(by cases h)⟩
 |_,_,.cons (a:=a) (b:=b) h1 h2=>by
  obtain⟨h3,h4⟩:=Gi h2;refine⟨λx hx=> ?_,λy hy=> ?_⟩
  . rcases List.mem_cons.1 hx with rfl|hx
    . exact⟨b,afL,h1⟩
    . obtain⟨y,hy,hr⟩:=h3 x hx;exact⟨y,afz _ hy,hr⟩
  . rcases List.mem_cons.1 hy with rfl|hy
    . exact⟨a,afL,h1⟩
    . obtain⟨x,hx,hr⟩:=h4 y hy;exact⟨x,afz _ hx,hr⟩
def x5.ok(x:bO G h dh){v:Value}{d:DV}(hv:Rel (aQ h G) v d){K:DV->ae->Nat->Prop}(hs:x5 dh d K):
 AL h v λu h'=>∃d ad b,bO G h' ad/\Kp G h dh G h' ad/\Rel (aQ h' G) u d/\(∀i,i≠b->h'.get i=h.get i/\ad.get i=dh.get i)/\K d ad b:=by
 obtain⟨r,m,since,seen,last,es,clock,rfl,hr,hm,hold,bW,h0,h1⟩:=hs;have:=hv.cQ;subst this;obtain⟨_,ao,g1,g2⟩:=x.obj _ _ hr;cases g2 with
 |cF=>
  obtain⟨_,bg,g3,g4⟩:=x.obj _ _ hm;cases g4 with
  | @map res _ _ g4=>
   obtain⟨m1,m2⟩:=Gi g4;refine⟨r,m,since,seen,last,res,clock,rfl,g1,g3,λz hz=> ?_,bW,λha=> ?_,λz hz bX=> ?_⟩
   . obtain⟨y,hy,aK⟩:=m1 z hz;rw[aK.born];exact hold y hy
   . exact⟨_,dh,r,x,Kp.refl _ _ _,Rel.j9 (a:=[.bool false]) (.cons (.v _) .nil),λ_ _=>⟨rfl,rfl⟩,h0 λy hy=>by
      obtain⟨z,hz,aK⟩:=m2 y hy;rw[<-aK.born];exact ha z hz⟩
   . obtain⟨y,hy,aK⟩:=m1 z hz;obtain⟨k1,k2⟩:=x.set hr (ao:=.cF (some m) since (seen++[z.born]) clock) (o:=.cF (some m) since (seen++[y.born]) clock) (by rw[aK.born];exact .cF);exact⟨_,_,r,k1,k2,Rel.j9 (a:=[.bool true,z.key,z.val]) (.cons (.v _) (.cons (by rw[aK.key];exact tH _) (.cons (aK.val.mono (k2.aQ x)) .nil))),λi hi=>⟨bD _ _ _ _ hi,by rw[ae.bu,if_neg hi]⟩,h1 y hy (by rw[<-aK.born];exact bX)⟩
end Go.aD
end
noncomputable section
namespace Go.aD
variable {e:Env} {G:Nat->Prop} {h:ab} {dh:ae} {t:Tr Value} {dt:Tr DV} {R:Rows} {ar:Bool}
abbrev cU:DV:=.v undef
def pr:Rel R undef cU:=.v _
abbrev cD:Type:=DV->List FuncId->ae->List Nat->Prop
def nc(G:Nat->Prop)(h:ab)(dh:ae)(K:DV->ae->List Nat->Prop)(v:Value)(h':ab):Prop:=
 ∃d ad G' T,bO G' h' ad/\Kp G h dh G' h' ad/\Rel (aQ h' G') v d/\(∀i,i<h.next->i∉T->h'.get i=h.get i/\ad.get i=dh.get i)/\K d ad T
def vE(G:Nat->Prop)(h:ab)(dh:ae)(K:cD)(v:Value)(aG:List Deferred)(h':ab):Prop:=
 ∃d aC ad G' T,bO G' h' ad/\Kp G h dh G' h' ad/\Rel (aQ h' G') v d/\aV sa aG aC/\(∀i,i<h.next->i∉T->h'.get i=h.get i/\ad.get i=dh.get i)/\K d aC ad T
def c8(e:Env)(ar:Bool)(f:FuncId)(az:List DV)(dh:ae)(K:DV->ae->List Nat->Prop):Prop:=
 ∀G h args,bO G h dh->cz (aQ h G) args az->match ar with
  |true=>∃v h',bU e f args h v h'/\nc G h dh K v h'
  |false=>fJ e f args h (nc G h dh K)
def jK:Option DV->Option (List DV)->Option (FuncId×List DV)
 |some (.fn f a c),some args=>some (f,a++args++c)
 |_,_=>none
def Sz(ht:TD R t dt){f:Operand}{l:List Operand}{p:FuncId×List DV}(hd:jK (aJ e dt f) (cJ e dt l)=some p):∃args,qk (aF e t f) (db e t l)=some (p.1,args)/\cz R args p.2:=by
 unfold jK at hd
 split at hd
 . rename_i g a c args h1 h2;cases hd;obtain⟨v,h3,h4⟩:=fx ht h1;obtain⟨vs,h5,h6⟩:=mX ht h2;obtain⟨a',c',rfl,h7,h8⟩:=h4.vy;exact⟨(a'.toList++vs)++c'.toList,by rw[h3,h5];rfl,aV.append (aV.append h7 h6) h8⟩
 . cases hd
def cu(e:Env)(ar:Bool)(op:Op)(t:Tr DV)(dd:List FuncId)(h:ae)(K:cD):Prop:=
 match op with
 |.alloc ty=>aO (dX e t (.alloc ty)) λp=>K (p.2 h.next) dd (h.new p.1) []
 |.box ty x=>aO (dX e t (.box ty x)) λp=>K (p.2 h.next) dd (h.new p.1) []
 |.buildSlice ty n ps=>aO (dX e t (.buildSlice ty n ps)) λp=>K (p.2 h.next) dd (h.new p.1) []
 |.makeMap ty n=>aO (dX e t (.makeMap ty n)) λp=>K (p.2 h.next) dd (h.new p.1) []
 |.makeSlice ty l c=>aO (dX e t (.makeSlice ty l c)) λp=>K (p.2 h.next) dd (h.new p.1) []
 |.store ty a x=>aO (lM e h ty (aJ e t a) (aJ e t x)) λp=>K cU dd p.1 [p.2]
 |.mapUpdate ty m k v=>aO (jI e h ty (aJ e t m) (aJ e t k) (aJ e t v)) λp=>K cU dd p.1 [p.2]
 |.insert ty m k v=>aO (jI e h ty (aJ e t m) (aJ e t k) (aJ e t v)) λp=>K cU dd p.1 [p.2]
 |.range ty x=>aO ((aJ e t x).bind (lO e h ty)) λo=>K (.v (.pointer (some ⟨h.next,0,none⟩))) dd (h.new o) []
 |.next it s=>match ar with
  |true=>aO ((aJ e t it).bind (kN h · s)) λp=>K p.1 dd p.2.1 [p.2.2]
  |false=>(aO ((aJ e t it).bind (kN h · s)) λp=>K p.1 dd p.2.1 [p.2.2])\/(s=false/\aO (aJ e t it) λd=>x5 h d λv h r=>K v dd h [r])
 |.entry it=>aO ((aJ e t it).bind (tJ h)) λv=>K v dd h []
 |.defer c=>match c.callee with
  |.value f=>aO (jK (aJ e t f) (cJ e t c.args.toList)) λp=>K cU (p.1::dd) h []
  |_=>False
 |.call c=>match c.callee with
  |.value f=>aO (jK (aJ e t f) (cJ e t c.args.toList)) λp=>c8 e ar p.1 p.2 h λv h' T=>K v dd h' T
  |.builtin .append=>aO (jJ e h c.argTypes (cJ e t c.args.toList)) λp=>K p.1 dd p.2.1 p.2.2
  |.builtin .clear=>aO (tI e h c.argTypes (cJ e t c.args.toList)) λp=>K cU dd p.1 [p.2]
  |_=>aO (ba e h t (.call c)) λv=>K v dd h []
 |op=>aO (ba e h t op) λv=>K v dd h []
def qz(ht:TD R t dt)(o:Operand):∀d,aJ e dt o=some d->∃u,aF e t o=some u/\Rel R u d:=λd hd=>fx ht hd
def iD(e:Env)(ar:Bool)(op:Op)(t:Tr Value)(ds:List Deferred)(h:ab)(K:Kt):Prop:=match ar with
 |true=>bK e none op t ds h K
 |false=>jF e none op t ds h K
def iD.of{op:Op}{ds:List Deferred}{K:Kt}(hs:bK e none op t ds h K)(hc:∀c f,op=.call c->c.callee≠.value f):iD e ar op t ds h K:=by
 cases ar with
 |true=>exact hs
 |false=>
  show jF e none op t ds h K;cases op with
  |call c=>
   unfold jF;simp only
   split
   . rename_i f hf;exact absurd hf (hc c f rfl)
   . exact hs
  |next it s=>exact .inl hs
  |_=>exact hs
def cu.x(x:bO G h dh)(ht:TD (aQ h G) t dt){ds:List Deferred}{dd:List FuncId}(ak:aV sa ds dd){op:Op}{K:cD}(hs:cu e ar op dt dd dh K):iD e ar op t ds h (vE G h dh K):=by
 have val:∀{d:DV},ba e dh dt op=some d->K d dd dh []->∃v,bI e h t op=some v/\vE G h dh K v ds h:=λhv hk=>by
  obtain⟨v,h1,h2⟩:=x4 x ht hv;exact⟨v,h1,_,dd,dh,G,[],x,Kp.refl _ _ _,h2,ak,λ_ _ _=>⟨rfl,rfl⟩,hk⟩
 have alloc:∀{p:bF×(Nat->DV)},dX e dt op=some p->K (p.2 dh.next) dd (dh.new p.1) []->∃p:bP×(Nat->Value),cT e t op=some p/\vE G h dh K (p.2 h.next) ds (h.new p.1):=λ{p} hv hk=>by
  obtain⟨o,f⟩:=p;obtain⟨ao,af,h1,h2,h3⟩:=Gc ht hv;obtain⟨k1,k2⟩:=x.new h2;refine⟨(ao,af),h1,_,dd,_,G,[],k1,k2, ?_,ak,λi hi _=>⟨bM _ _ _ aa,by rw[ae.dN,if_neg (by have:=x.next;omega)]⟩,hk⟩;rw[x.next];exact h3 _ _
 cases op with
 |alloc ty=>obtain⟨p,h1,h2⟩:=hs;exact iD.of (alloc h1 h2) (λc f hc=>by cases hc)
 |box ty o=>obtain⟨p,h1,h2⟩:=hs;exact iD.of (alloc h1 h2) (λc f hc=>by cases hc)
 |buildSlice ty n ps=>obtain⟨p,h1,h2⟩:=hs;exact iD.of (alloc h1 h2) (λc f hc=>by cases hc)
 |makeMap ty n=>obtain⟨p,h1,h2⟩:=hs;exact iD.of (alloc h1 h2) (λc f hc=>by cases hc)
 |makeSlice ty l c=>obtain⟨p,h1,h2⟩:=hs;exact iD.of (alloc h1 h2) (λc f hc=>by cases hc)
 |store ty a o=>
  obtain⟨⟨ad,b⟩,h1,h2⟩:=hs;obtain⟨h',k1,k2,k3,k4⟩:=Sq x (qz ht a) (qz ht o) h1;exact iD.of ⟨h',k1,cU,dd,ad,G,[b],k2,k3,pr,ak,λi _ hi=>k4 i (by simpa using hi),h2⟩ (λc f hc=>by cases hc)
 |mapUpdate ty m k v=>
  obtain⟨⟨ad,b⟩,h1,h2⟩:=hs;obtain⟨h',k1,k2,k3,k4⟩:=Gf x (qz ht m) (qz ht k) (qz ht v) h1;exact iD.of ⟨h',k1,cU,dd,ad,G,[b],k2,k3,pr,ak,λi _ hi=>k4 i (by simpa using hi),h2⟩ (λc f hc=>by cases hc)
 |insert ty m k v=>
  obtain⟨⟨ad,b⟩,h1,h2⟩:=hs;obtain⟨h',k1,k2,k3,k4⟩:=Gf x (qz ht m) (qz ht k) (qz ht v) h1;exact iD.of ⟨h',k1,cU,dd,ad,G,[b],k2,k3,pr,ak,λi _ hi=>k4 i (by simpa using hi),h2⟩ (λc f hc=>by cases hc)
 |range ty o=>
  obtain⟨ob,h1,h2⟩:=hs;obtain⟨d,h3,h4⟩:=E2.1 h1;obtain⟨v,h5,h6⟩:=fx ht h3;obtain⟨ao,h7,h8⟩:=Sw x h6 h4;obtain⟨k1,k2⟩:=x.new h8;refine iD.of ⟨ao,by rw[h5];exact h7,_,dd,_,G,[],k1,k2,by rw[x.next];exact .v _,ak,λi hi _=>⟨bM _ _ _ aa,by rw[ae.dN,if_neg (by have:=x.next;omega)]⟩,h2⟩ (λc f hc=>by cases hc)
 |next it s=>
  have one:(aO ((aJ e dt it).bind (kN dh · s)) λp=>K p.1 dd p.2.1 [p.2.2])->iD e ar (.next it s) t ds h (vE G h dh K):=λhs=>by
   obtain⟨⟨d,ad,b⟩,h1,h2⟩:=hs;obtain⟨aM,h3,h4⟩:=E2.1 h1;obtain⟨v,h5,h6⟩:=fx ht h3;obtain⟨u,h',k1,k2,k3,k4,k5⟩:=Sx x h6 h4;exact iD.of ⟨(u,h'),by rw[h5];exact k1,d,dd,ad,G,[b],k3,k4,k2,ak,λi _ hi=>k5 i (by simpa using hi),h2⟩ (λc f hc=>by cases hc)
  cases ar with
  |true=>exact one hs
  |false=>
   rcases hs with hs|⟨rfl,d,h1,h2⟩
   . exact one hs
   . obtain⟨v,h3,h4⟩:=fx ht h1;refine .inr ⟨rfl,v,h3, ?_⟩;obtain⟨r,m,since,seen,last,es,clock,q1,q2,q3,q4,q5,q6,q7⟩:=h2.ok x h4;have post:∀u h',(∃d ad b,bO G h' ad/\Kp G h dh G h' ad/\Rel (aQ h' G) u d/\(∀i,i≠b->h'.get i=h.get i/\ad.get i=dh.get i)/\K d dd ad [b])->vE G h dh K u ds h':=λu h' ⟨d,ad,b,p1,p2,p3,p4,p5⟩=>
      ⟨d,dd,ad,G,[b],p1,p2,p3,ak,λi _ hi=>p4 i (by simpa using hi),p5⟩
     exact⟨r,m,since,seen,last,es,clock,q1,q2,q3,q4,q5,λha=>post _ _ (q6 ha),λy hy hn=>post _ _ (q7 y hy hn)⟩
 |entry it=>
  obtain⟨d,h1,h2⟩:=hs;obtain⟨aM,h3,h4⟩:=E2.1 h1;obtain⟨v,h5,h6⟩:=fx ht h3;obtain⟨u,k1,k2⟩:=Sy x h6 h4;exact iD.of ⟨u,by rw[h5];exact k1,d,dd,dh,G,[],x,Kp.refl _ _ _,k2,ak,λ_ _ _=>⟨rfl,rfl⟩,h2⟩ (λc f hc=>by cases hc)
 |defer c=>
  refine iD.of ?_ (λc f hc=>by cases hc);simp only[cu]at hs
  split at hs
  . rename_i f hf;simp only[bK,hf];obtain⟨p,h1,h2⟩:=hs;unfold jK at h1
    split at h1
    . rename_i g a cp args h3 h4;cases h1;obtain⟨v,h5,h6⟩:=fx ht h3;obtain⟨vs,h7,h8⟩:=mX ht h4;obtain⟨a',c',rfl,h9,aY⟩:=h6.vy;refine⟨trivial,vs,h7,_,by rw[h5];rfl, ?_⟩;exact⟨cU,g::dd,dh,G,[],x,Kp.refl _ _ _,pr,.cons ⟨_,_,rfl⟩ ak,λ_ _ _=>⟨rfl,rfl⟩,h2⟩
    . cases h1
  . cases hs
 |call c=>
  simp only[cu]at hs
  split at hs
  . rename_i f hf;obtain⟨p,h1,h2⟩:=hs;obtain⟨args,h3,h4⟩:=Sz ht h1;have h5:=h2 G h args x h4;cases ar with
    |true=>
     obtain⟨v,h',h6,d,ad,G',T,k1,k2,k3,k4,k5⟩:=h5;show bK e none (.call c) t ds h _;simp only[bK,hf];exact⟨_,h3,v,h',h6,d,dd,ad,G',T,k1,k2,k3,ak,k4,k5⟩
    |false=>
     show jF e none (.call c) t ds h _;simp only[jF,hf];exact⟨_,h3,h5.mono λv h' ⟨d,ad,G',T,k1,k2,k3,k4,k5⟩=>⟨d,dd,ad,G',T,k1,k2,k3,ak,k4,k5⟩⟩
  . rename_i hf;refine iD.of ?_ (λc' f hc hv=>by cases hc;rw[hf]at hv;cases hv);obtain⟨⟨d,ad,T⟩,h1,h2⟩:=hs;obtain⟨v,h',k1,k2,k3,k4,k5⟩:=Sv x (λl hl=>mX ht hl) h1;simp only[bK,hf];exact⟨(v,h'),k1,d,dd,ad,G,T,k3,k4,k2,ak,k5,h2⟩
  . rename_i hf;refine iD.of ?_ (λc' f hc hv=>by cases hc;rw[hf]at hv;cases hv);obtain⟨⟨ad,b⟩,h1,h2⟩:=hs;obtain⟨v,h',k1,rfl,k3,k4,k5⟩:=Ss x (λl hl=>mX ht hl) h1;simp only[bK,hf];exact⟨(undef,h'),k1,cU,dd,ad,G,[b],k3,k4,pr,ak,λi _ hi=>k5 i (by simpa using hi),h2⟩
  . rename_i aL aS aT;obtain⟨d,h1,h2⟩:=hs;refine iD.of ?_ (λc' f hc hv=>by cases hc;exact aL f hv);obtain⟨v,h3,h4⟩:=val h1 h2;simp only[bK]
    split
    . rename_i f hf;exact absurd hf (aL f)
    . rename_i hf;exact absurd hf aS
    . rename_i hf;simp[ba,hf]at h1
    . rename_i hf;exact absurd hf aT
    . exact⟨v,h3,h4⟩
 |_=>obtain⟨d,h1,h2⟩:=hs;exact iD.of (val h1 h2) (λc f hc=>by cases hc)
def cH(dst:Option Tmp)(v:DV)(t:Tr DV):Tr DV:=match dst with|none=>t|some d=>t.set d (some v)
def TD.put(ht:TD R t dt)(dst:Option Tmp){v:Value}{d:DV}(hv:Rel R v d):TD R (bL dst v t) (cH dst d dt):=by
 cases dst with
 |none=>exact ht
 |some k=>
  refine⟨ht.tb,λi u hu=> ?_⟩;simp only[cH,Tr.bu]at hu;simp only[bL,Tr.bu]
  split at hu
  . rename_i hi;cases hu;exact⟨v,by rw[if_pos hi],hv⟩
  . rename_i hi;rw[if_neg hi];exact ht i u hu
def TD.mono{R':Rows}(hR:∀i r,R i=some r->R' i=some r)(ht:TD R t dt):TD R' t dt:=⟨ht.tb.mono hR,λi v hv=>let⟨u,h1,h2⟩:=ht i v hv;⟨u,h1,h2.mono hR⟩⟩
def iW(ops:List Oper)(t:Tr DV)(o:Oper):Option Bool:=
 match o.guard with
 |none=>some true
 |some (j,want)=>match(ops[j]?).bind (·.dst)with
  |none=>none
  |some d=>match t.get d with
   |some (.v (.bool b))=>some (b==want)
   |some (.v (.tuple _))=>some false
   |some (.bp _)=>some false
   |_=>none
def A8(ht:TD R t dt){ops:List Oper}{o:Oper}{b:Bool}{n:Nat}{ds:List Deferred}(hd:iW ops dt o=some b):cX ops ⟨t,n,ds,h⟩ o=some b:=by
 unfold iW at hd;unfold cX
 split at hd
 . rename_i hg;rw[hg];exact hd
 . rename_i j w hg;rw[hg];simp only
   split at hd
   . cases hd
   . rename_i d aU;simp only[aU]
     split at hd
     . rename_i q hq;obtain⟨u,h1,h2⟩:=ht d _ hq;have:=h2.cQ;subst this;simp only[h1];exact hd
     . rename_i q hq;obtain⟨u,h1,h2⟩:=ht d _ hq;have:=h2.cQ;subst this;simp only[h1];exact hd
     . rename_i q hq;obtain⟨u,h1,h2⟩:=ht d _ hq;obtain⟨a,rfl,_⟩:=h2.AN;simp only[h1];exact hd
     . cases hd
def fg(e:Env)(ar:Bool)(ops:List Oper):List Oper->Tr DV->Nat->List FuncId->ae->(DS->Prop)->Prop
 |[],t,n,dd,h,K=>K ⟨t,n,dd,h⟩
 |o::r,t,n,dd,h,K=>dA o.dst n/\aO (iW ops t o) λw=>match w with
  |true=>cu e ar o.op t dd h λv dd h _=>fg e ar ops r (cH o.dst v t) n dd h K
  |false=>fg e ar ops r (cH o.dst cU t) n dd h K
def nf(G:Nat->Prop)(h:ab)(dh:ae)(K:DS->Prop)(s':aN):Prop:=∃d' G',SD G' s' d'/\Kp G h dh G' s'.h d'.h/\K d'
def bK.mono{op:Op}{ds:List Deferred}{K K':Kt}(hk:∀v ds h,K v ds h->K' v ds h)(hs:bK e none op t ds h K):bK e none op t ds h K':=by
 cases op with
 |alloc ty=>obtain⟨p,h1,h2⟩:=hs;exact⟨p,h1,hk _ _ _ h2⟩
 |box ty x=>obtain⟨p,h1,h2⟩:=hs;exact⟨p,h1,hk _ _ _ h2⟩
 |buildSlice ty n ps=>obtain⟨p,h1,h2⟩:=hs;exact⟨p,h1,hk _ _ _ h2⟩
 |makeMap ty n=>obtain⟨p,h1,h2⟩:=hs;exact⟨p,h1,hk _ _ _ h2⟩
 |makeSlice ty l c=>obtain⟨p,h1,h2⟩:=hs;exact⟨p,h1,hk _ _ _ h2⟩
 |store ty a o=>obtain⟨p,h1,h2⟩:=hs;exact⟨p,h1,hk _ _ _ h2⟩
 |mapUpdate ty m k v=>obtain⟨p,h1,h2⟩:=hs;exact⟨p,h1,hk _ _ _ h2⟩
 |insert ty m k v=>obtain⟨p,h1,h2⟩:=hs;exact⟨p,h1,hk _ _ _ h2⟩
 |range ty o=>obtain⟨p,h1,h2⟩:=hs;exact⟨p,h1,hk _ _ _ h2⟩
 |next it s=>obtain⟨p,h1,h2⟩:=hs;exact⟨p,h1,hk _ _ _ h2⟩
 |entry it=>obtain⟨p,h1,h2⟩:=hs;exact⟨p,h1,hk _ _ _ h2⟩
 |defer c=>
  simp only[bK]at hs⊢
  split at hs
  . obtain⟨h0,a,h1,x,h2,h3⟩:=hs;refine⟨h0,a,h1,x,h2, ?_⟩
    split at h3
    . exact hk _ _ _ h3
    . exact h3.elim
  . exact hs
 |call c=>
  simp only[bK]at hs⊢
  split at hs
  . obtain⟨p,h1,v,h',h2,h3⟩:=hs;exact⟨p,h1,v,h',h2,hk _ _ _ h3⟩
  . obtain⟨p,h1,h2⟩:=hs;exact⟨p,h1,hk _ _ _ h2⟩
  . obtain⟨p,h1,h2⟩:=hs;exact⟨p,h1,hk _ _ _ h2⟩
  . obtain⟨p,h1,h2⟩:=hs;exact⟨p,h1,hk _ _ _ h2⟩
  . obtain⟨p,h1,h2⟩:=hs;exact⟨p,h1,hk _ _ _ h2⟩
 |_=>obtain⟨p,h1,h2⟩:=hs;exact⟨p,h1,hk _ _ _ h2⟩
def jF.mono{op:Op}{ds:List Deferred}{K K':Kt}(hk:∀v ds h,K v ds h->K' v ds h)(hs:jF e none op t ds h K):jF e none op t ds h K':=by
 cases op with
 |call c=>
  simp only[jF]at hs⊢
  split at hs
  . obtain⟨p,h1,h2⟩:=hs;exact⟨p,h1,h2.mono λv h'=>hk v ds h'⟩
  . exact bK.mono hk hs
 |next it s=>
  simp only[jF]at hs⊢;rcases hs with hs|⟨rfl,v,hv,r,m,since,seen,last,es,clock,q1,q2,q3,q4,q5,q6,q7⟩
  . exact .inl (bK.mono hk hs)
  . exact .inr ⟨rfl,v,hv,r,m,since,seen,last,es,clock,q1,q2,q3,q4,q5,λha=>hk _ _ _ (q6 ha),λy hy hn=>hk _ _ _ (q7 y hy hn)⟩
 |_=>simp only[jF]at hs⊢;exact bK.mono hk hs
def fg.A9{ops:List Oper}{n:Nat}{K:DS->Prop}:∀{l:List Oper} {G:Nat->Prop} {t:Tr Value} {dt:Tr DV} {ds:List Deferred} {dd:List FuncId} {h:ab} {dh:ae},bO G h dh->TD (aQ h G) t dt->aV sa ds dd->fg e false ops l dt n dd dh K->nY e none ops l t n ds h (nf G h dh K)
 |[],G,t,dt,ds,dd,h,dh,x,ht,ak,hs=>⟨⟨dt,n,dd,dh⟩,G,⟨rfl,ht,ak,x⟩,Kp.refl _ _ _,hs⟩
 |o::r,G,t,dt,ds,dd,h,dh,x,ht,ak,hs=>by
  obtain⟨h1,w,h2,h3⟩:=hs;simp only[nY];rw[A8 ht h2];refine⟨h1, ?_⟩;have post:∀{G':Nat->Prop} {h':ab} {ad:ae},Kp G h dh G' h' ad->∀(s':aN),nf G' h' ad K s'->nf G h dh K s':=λk _ ⟨d',G2,q1,q2,q3⟩=>⟨d',G2,q1,k.trans q2,q3⟩;have mono:∀{l:List Oper} {t:Tr Value} {ds:List Deferred} {h:ab} {A B:aN->Prop},(∀s,A s->B s)->nY e none ops l t n ds h A->nY e none ops l t n ds h B:=by
   intro l
   induction l with
   |nil=>exactλaq hs=>aq _ hs
   |cons o r ih=>
    intro t ds h A B aq hs;simp only[nY]at hs⊢;refine⟨hs.1, ?_⟩;have hs:=hs.2
    split at hs
    . exact hs
    . exact jF.mono (λv ds h=>ih aq) hs
    . exact ih aq hs
  cases w with
  |true=>exact jF.mono (λv aG h' ⟨d,aC,ad,G',T,k1,k2,k3,k4,_,k5⟩=>mono (post k2) (fg.A9 k1 ((ht.mono (k2.aQ x)).put o.dst k3) k4 k5)) (cu.x (ar:=false) x ht ak h3)
  |false=>exact fg.A9 x (ht.put o.dst pr) ak h3
def fg.Bb{ops:List Oper}{n:Nat}{K:DS->Prop}:∀{l:List Oper} {G:Nat->Prop} {t:Tr Value} {dt:Tr DV} {ds:List Deferred} {dd:List FuncId} {h:ab} {dh:ae},bO G h dh->TD (aQ h G) t dt->aV sa ds dd->fg e true ops l dt n dd dh K->iS e none ops l ⟨t,n,ds,h⟩ (nf G h dh K)
 |[],G,t,dt,ds,dd,h,dh,x,ht,ak,hs=>⟨⟨dt,n,dd,dh⟩,G,⟨rfl,ht,ak,x⟩,Kp.refl _ _ _,hs⟩
 |o::r,G,t,dt,ds,dd,h,dh,x,ht,ak,hs=>by
  obtain⟨h1,w,h2,h3⟩:=hs;simp only[iS];rw[A8 ht h2];have post:∀{G':Nat->Prop} {h':ab} {ad:ae},Kp G h dh G' h' ad->∀(s':aN),nf G' h' ad K s'->nf G h dh K s':=λk _ ⟨d',G2,q1,q2,q3⟩=>⟨d',G2,q1,k.trans q2,q3⟩;have mono:∀{l:List Oper} {s:aN} {A B:aN->Prop},(∀s,A s->B s)->iS e none ops l s A->iS e none ops l s B:=by
   intro l
   induction l with
   |nil=>exactλaq hs=>aq _ hs
   |cons o r ih=>
    intro s A B aq h;simp only[iS]at h⊢
    split at h
    . exact h
    . unfold ma at h⊢
      split at h
      . exact h
      . exact⟨_,h.choose_spec.1,ih aq h.choose_spec.2⟩
      . exact⟨_,h.choose_spec.1,ih aq h.choose_spec.2⟩
      . obtain⟨v,h',h1,s',h2,h3⟩:=h;exact⟨v,h',h1,s',h2,ih aq h3⟩
      . exact h
      . exact⟨h.1,_,h.2.choose_spec.1,ih aq h.2.choose_spec.2⟩
    . exact⟨_,h.choose_spec.1,ih aq h.choose_spec.2⟩
  cases w with
  |true=>
   have:=cu.x (ar:=true) x ht ak h3;exact bK.xD this h1 λv aG h' ⟨d,aC,ad,G',T,k1,k2,k3,k4,_,k5⟩=>mono (post k2) (fg.Bb k1 ((ht.mono (k2.aQ x)).put o.dst k3) k4 k5)
  |false=>exact⟨_,rS (s:=⟨t,n,ds,h⟩) h1,fg.Bb x (ht.put o.dst pr) ak h3⟩
def WQ(e:Env)(ar:Bool)(c:Code)(s:aN)(K:bB->aN->Prop):Prop:=match ar with
 |true=>∃x s',nP e none c s x s'/\K x s'
 |false=>WR e none c s K
def mj(G:Nat->Prop)(h:ab)(dh:ae)(K:bB->DS->Prop)(x:bB)(s':aN):Prop:=∃d' G',SD G' s' d'/\Kp G h dh G' s'.h d'.h/\K x d'
def WD(e:Env)(ar:Bool)(c:Code)(d:DS)(K:bB->DS->Prop):Prop:=∀G s,SD G s d->WQ e ar c s (mj G s.h d.h K)
def RD(e:Env)(ar:Bool):Code->DS->(bB->DS->Prop)->Prop
 |.skip,s,K=>K .normal s
 |.label _,s,K=>K .normal s
 |.scope c,s,K=>RD e ar c s K
 |.exit id,s,K=>K (.exit id) s
 |.ret,s,K=>K .ret s
 |.region _ ops true,s,K=>∀G r,SD G r s->mb e none ops.toList r (nf G r.h s.h (K .normal))
 |.region _ ops false,s,K=>fg e ar ops.toList ops.toList s.t s.n s.dd s.h (K .normal)
 |.seq a b,s,K=>RD e ar a s λx s1=>match x with|.normal=>RD e ar b s1 K|.exit i=>K (.exit i) s1|.ret=>K .ret s1
 |.cond c a b,s,K=>aO (aJ e s.t c) λv=>match v with|.v (.bool v)=>(v=true->RD e ar a s K)/\(v=false->RD e ar b s K)|_=>False
 |.block id c,s,K=>RD e ar c s λx s1=>match x with|.normal=>K .normal s1|.exit i=>if i=id then K .normal s1 else K (.exit i) s1|.ret=>K .ret s1
 |.loop c,s,K=>WD e ar (.loop c) s K
 |_,_,_=>False
def mj.up{G G':Nat->Prop}{h h':ab}{dh ad:ae}{K:bB->DS->Prop}{x:bB}{s:aN}(k:Kp G h dh G' h' ad)(hp:mj G' h' ad K x s):mj G h dh K x s:=let⟨d,G2,q1,q2,q3⟩:=hp;⟨d,G2,q1,k.trans q2,q3⟩
def WQ.mono{c:Code}{s:aN}{K K':bB->aN->Prop}(h:WQ e ar c s K)(hk:∀x s,K x s->K' x s):WQ e ar c s K':=by
 cases ar with
 |true=>obtain⟨x,s',h1,h2⟩:=h;exact⟨x,s',h1,hk _ _ h2⟩
 |false=>exact WR.mono h hk
def WQ.seq{p q:Code}{s:aN}{K:bB->aN->Prop}(h:WQ e ar p s λx s1=>match x with|.normal=>WQ e ar q s1 K|x=>K x s1):WQ e ar (.seq p q) s K:=by
 cases ar with
 |false=>exact WR.seq h
 |true=>
  obtain⟨x,s1,h1,h2⟩:=h;cases x with
  |normal=>
   obtain⟨x2,s2,h3,h4⟩:=h2;exact⟨x2,s2,λρ a w ah n Q X ai hQ=>wpIn_seq (h1 ρ a w ah n _ X ai λa1 w1 an q1 f1=>h3 an a1 w1 ah n Q q1 (ai.mono f1.ext) λa2 w2 aW q2 f2=>hQ a2 w2 aW q2 (f1.trans (f2.mono f1.next))),h4⟩
  |exit i=>exact⟨_,s1,λρ a w ah n Q X ai hQ=>wpIn_seq (h1 ρ a w ah n _ X ai λa1 w1 an q1 f1=>hQ a1 w1 an q1 f1),h2⟩
  |ret=>exact⟨_,s1,λρ a w ah n Q X ai hQ=>wpIn_seq (h1 ρ a w ah n _ X ai λa1 w1 an q1 f1=>hQ a1 w1 an q1 f1),h2⟩
def WQ.cond{c:Operand}{p q:Code}{s:aN}{K:bB->aN->Prop}(v:Bool)(hv:aF e s.t c=some (.bool v))(ht:v=true->WQ e ar p s K)(hf:v=false->WQ e ar q s K):WQ e ar (.cond c p q) s K:=by
 cases ar with
 |false=>exact WR.cond v hv ht hf
 |true=>
  cases v with
  |true=>
   obtain⟨x,s1,h1,h2⟩:=ht rfl;exact⟨x,s1,λρ a w ah n Q X ai hQ=>wpIn_cond_true (kF X.g X.t hv a.defers).oM (h1 ρ a w ah n Q X ai hQ),h2⟩
  |false=>
   obtain⟨x,s1,h1,h2⟩:=hf rfl;exact⟨x,s1,λρ a w ah n Q X ai hQ=>wpIn_cond_false (kF X.g X.t hv a.defers).oM (h1 ρ a w ah n Q X ai hQ),h2⟩
def WQ.block{id:Nat}{c:Code}{s:aN}{K:bB->aN->Prop}(h:WQ e ar c s λx s1=>match x with|.exit i=>if i=id then K .normal s1 else K (.exit i) s1|x=>K x s1):WQ e ar (.block id c) s K:=by
 cases ar with
 |false=>exact WR.block h
 |true=>
  obtain⟨x,s1,h1,h2⟩:=h;cases x with
  |normal=>exact⟨.normal,s1,λρ a w ah n Q X ai hQ=>wpIn_block (h1 ρ a w ah n _ X ai λa1 w1 an q1 f1=>hQ a1 w1 an q1 f1),h2⟩
  |ret=>exact⟨.ret,s1,λρ a w ah n Q X ai hQ=>wpIn_block (h1 ρ a w ah n _ X ai λa1 w1 an q1 f1=>hQ a1 w1 an q1 f1),h2⟩
  |exit i=>
   by_cases aH:i=id
   . subst aH;simp only[if_true]at h2;refine⟨.normal,s1,λρ a w ah n Q X ai hQ=>wpIn_block (h1 ρ a w ah n _ X ai λa1 w1 an q1 f1=> ?_),h2⟩;show Exit.inBlock _ Q (.exit i) a1 w1;simp only[Exit.inBlock,if_true];exact hQ a1 w1 an q1 f1
   . simp only[aH,if_false]at h2;refine⟨.exit i,s1,λρ a w ah n Q X ai hQ=>wpIn_block (h1 ρ a w ah n _ X ai λa1 w1 an q1 f1=> ?_),h2⟩;show Exit.inBlock _ Q (.exit i) a1 w1;simp only[Exit.inBlock,aH,if_false];exact hQ a1 w1 an q1 f1
def WQ.loop{c:Code}{K:bB->aN->Prop}(I:Nat->aN->Prop)(hI:∀j s,I j s->WQ e ar c s λx s1=>match x with|.normal=>∃j',j'<j/\I j' s1|x=>K x s1)(j:Nat)(s:aN)(hs:I j s):WQ e ar (.loop c) s K:=by
 cases ar with
 |false=>exact WR.loop I hI j s hs
 |true=>
  have key:∀(j:Nat) (s:aN),I j s->∃k x s',nQ e none c x s' k s/\K x s':=by
   intro j
   induction j using Nat.strongRecOn with
   |_ j ih=>
    intro s hs;obtain⟨x,s1,h1,h2⟩:=hI j s hs;cases x with
    |normal=>
     obtain⟨j',hj,h3⟩:=h2;obtain⟨k,x,s',h4,h5⟩:=ih j' hj s1 h3;exact⟨k+1,x,s',⟨s1,h1,h4⟩,h5⟩
    |exit i=>exact⟨0,_,s1,⟨h1,aw⟩,h2⟩
    |ret=>exact⟨0,_,s1,⟨h1,aw⟩,h2⟩
  obtain⟨k,x,s',h1,h2⟩:=key j s hs;exact⟨x,s',h1.runs k s,h2⟩
def RD.wd(he:e.Ok)(av:e.P.follows .mixedOrders=true):∀(c:Code) (d:DS) (K:bB->DS->Prop),RD e ar c d K->WD e ar c d K:=by
 intro c;have one:∀{c:Code} {s:aN} {x:bB} {K:bB->aN->Prop},nP e none c s x s->K x s->WQ e ar c s K:=λh hk=>by
  cases ar with
  |true=>exact⟨_,_,h,hk⟩
  |false=>exact h.wr hk
 induction c with
 |skip=>exactλd K h G s hs=>one (x:=.normal) (λρ a w ah n Q X ai hQ=>wpIn_skip (hQ a w ρ X (Fr.refl _ _ _ _))) ⟨d,G,hs,Kp.refl _ _ _,h⟩
 |label l=>exactλd K h G s hs=>one (x:=.normal) (λρ a w ah n Q X ai hQ=>wpIn_label (hQ a w ρ X (Fr.refl _ _ _ _))) ⟨d,G,hs,Kp.refl _ _ _,h⟩
 |scope c ih=>
  intro d K h G s hs;have h1:=ih d K h G s hs;cases ar with
  |true=>
   obtain⟨x,s',h2,h3⟩:=h1;refine⟨x,s',λρ a w ah n Q X ai hQ=>zV (h2 ρ a w ah n _ X ai λa' w' aX x' f'=> ?_),h3⟩;have:=hQ a' w' aX x' f';cases x<;>exact this
  |false=>
   intro ρ a w ah n Q X ai hQ;refine zV (h1 ρ a w ah n _ X ai λx s1 a1 w1 an k q1 f1=> ?_);have:=hQ x s1 a1 w1 an k q1 f1;cases x<;>exact this
 |exit id=>exactλd K h G s hs=>one (x:=.exit id) (λρ a w ah n Q X ai hQ=>wpIn_exit (hQ a w ρ X (Fr.refl _ _ _ _))) ⟨d,G,hs,Kp.refl _ _ _,h⟩
 |ret=>exactλd K h G s hs=>one (x:=.ret) (λρ a w ah n Q X ai hQ=>wpIn_ret (hQ a w ρ X (Fr.refl _ _ _ _))) ⟨d,G,hs,Kp.refl _ _ _,h⟩
 |region id ops draw=>
  intro d K h G s hs;cases draw with
  |true=>
   have h1:mb e none ops.toList s (mj G s.h d.h K .normal):=h G s hs;cases ar with
   |true=>
    obtain⟨x,s',h2,h3⟩:=RQ.runs he av (.region id ops true) s (mj G s.h d.h K) h1;exact⟨x,s',h2,h3⟩
   |false=>exact WR.draw he av h1
  |false=>
   obtain⟨t,n,ds,hh⟩:=s;obtain⟨q1,q2,q3,q4⟩:=hs;simp only at q1 q2 q3 q4;subst q1;cases ar with
   |true=>
    have h1:=fg.Bb (l:=ops.toList) q4 ⟨q4.fD,q2⟩ q3 h;obtain⟨x,s',h2,h3⟩:=RQ.runs he av (.region id ops false) ⟨t,d.n,ds,hh⟩ (λx s'=>x=.normal/\nf G hh d.h (K .normal) s') (by
     show iS e none ops.toList ops.toList _ _;simpa using h1)
    obtain⟨rfl,h3⟩:=h3;exact⟨_,s',h2,h3⟩
   |false=>exact WR.ops he (fg.A9 (l:=ops.toList) q4 ⟨q4.fD,q2⟩ q3 h)
 |seq a b aI aK=>
  intro d K h G s hs;refine WQ.seq ((aI d _ h G s hs).mono λx s1 ⟨d1,G1,q1,q2,q3⟩=> ?_);cases x with
  |normal=>exact(aK d1 K q3 G1 s1 q1).mono λx s2=>mj.up q2
  |exit i=>exact⟨d1,G1,q1,q2,q3⟩
  |ret=>exact⟨d1,G1,q1,q2,q3⟩
 |cond c a b aI aK=>
  intro d K h G s hs;obtain⟨v,h1,h2⟩:=h
  split at h2
  . rename_i v;obtain⟨u,h3,h4⟩:=fx hs.td h1;have:=h4.cQ;subst this;exact WQ.cond v h3 (λhv=>aI d K (h2.1 hv) G s hs) (λhv=>aK d K (h2.2 hv) G s hs)
  . exact h2.elim
 |block id c ih=>
  intro d K h G s hs;refine WQ.block ((ih d _ h G s hs).mono λx s1 ⟨d1,G1,q1,q2,q3⟩=> ?_);cases x with
  |normal=>exact⟨d1,G1,q1,q2,q3⟩
  |ret=>exact⟨d1,G1,q1,q2,q3⟩
  |exit i=>
   simp only at q3⊢
   split
   . rename_i hi;rw[if_pos hi]at q3;exact⟨d1,G1,q1,q2,q3⟩
   . rename_i hi;rw[if_neg hi]at q3;exact⟨d1,G1,q1,q2,q3⟩
 |loop c ih=>exactλd K h=>h
 |_=>exactλd K h=>h.elim
end Go.aD
end

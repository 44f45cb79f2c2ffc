/- SpacingSuffixes: parts of its proof (DvA). -/
import Derived.Test.YtaheljlbchkpcaaGreatDoorK12
set_option linter.unusedVariables false
set_option linter.unusedSimpArgs false
noncomputable section
namespace Go.aw
inductive DV where
 |v (x:Value)
 |agg (l:List DV)
 |bg (l:List DV)
 |fn (f:FuncId) (a c:List DV)
 |sl (k:Nat) (xs:List (List DV))
 |ptr (xs:List DV) (off:Nat)
 deriving Inhabited
abbrev Rows:=Nat->Option (List Value×Nat)
inductive Rel(R:Rows):Value->DV->Prop
 |v (x:Value):Rel R x (.v x)
 |agg {a:Array Value} {l:List DV}:a.toList.length=l.length->(∀(i:Nat) (v:Value) (d:DV),a.toList[i]? =some v->l[i]? =some d->Rel R v d)->Rel R (.agg a) (.agg l)
 |bg {a:Array Value} {l:List DV}:a.toList.length=l.length->(∀(i:Nat) (v:Value) (d:DV),a.toList[i]? =some v->l[i]? =some d->Rel R v d)->Rel R (.tuple a) (.bg l)
 |fn {f:FuncId} {a c:Array Value} {a' c':List DV}:a.toList.length=a'.length->(∀(i:Nat) (v:Value) (d:DV),a.toList[i]? =some v->a'[i]? =some d->Rel R v d)->c.toList.length=c'.length->(∀(i:Nat) (v:Value) (d:DV),c.toList[i]? =some v->c'[i]? =some d->Rel R v d)->
  Rel R (.func (.func f) a c) (.fn f a' c')
 |kQ {c k:Nat}:0<k->Rel R (.slice none 0 c) (.sl k [])
 |sl {b o c k ah:Nat} {cs:List Value} {xs:List (List DV)}:R b=some (cs,ah)->(ah=0\/ah=k)->0<k->xs.length<=c->(∀x∈xs,x.length=k)->o+xs.length*k<=cs.length->
  (∀(j:Nat) (x:List DV) (i:Nat) (v:Value) (d:DV),xs[j]? =some x->x[i]? =some d->cs[o+j*k+i]? =some v->Rel R v d)->Rel R (.slice (some ⟨b,o,none⟩) xs.length c) (.sl k xs)
 |ptr {b o off ah:Nat} {cs:List Value} {xs:List DV}:R b=some (cs,ah)->o+xs.length<=cs.length->(∀(i:Nat) (v:Value) (d:DV),xs[i]? =some d->cs[o+i]? =some v->Rel R v d)->Rel R (.pointer (some ⟨b,o+off,none⟩)) (.ptr xs off)
theorem Rel.mono{R R':Rows}(hR:∀i r,R i=some r->R' i=some r){v:Value}{d:DV}(h:Rel R v d):Rel R' v d:=by
 induction h with
 |v x=>exact .v x
 |agg h1 _ ih=>exact .agg h1 ih
 |bg h1 _ ih=>exact .bg h1 ih
 |fn h1 _ h3 _ ai au=>exact .fn h1 ai h3 au
 |kQ h=>exact .kQ h
 |sl h1 h2 h3 h4 h5 h6 _ ih=>exact .sl (hR _ _ h1) h2 h3 h4 h5 h6 ih
 |ptr h1 h2 _ ih=>exact .ptr (hR _ _ h1) h2 ih
abbrev cw(R:Rows):List Value->List DV->Prop:=aP (Rel R)
theorem qW{R:Rows}{a:List Value}{l:List DV}(h1:a.length=l.length)(h2:∀(i:Nat) (v:Value) (d:DV),a[i]? =some v->l[i]? =some d->Rel R v d):cw R a l:=aP.sv h1 h2
theorem cw.sU{R:Rows}{a:List Value}{l:List DV}(h:cw R a l){i:Nat}{v:Value}{d:DV}(h1:a[i]? =some v)(h2:l[i]? =some d):Rel R v d:=by
 obtain⟨d',h3,h4⟩:=h.get i v h1;rw[h2]at h3;cases h3;exact h4
theorem cw.BA{R:Rows}{a:List Value}{l:List DV}(h:cw R a l){i:Nat}{d:DV}(h2:l[i]? =some d):∃v,a[i]? =some v/\Rel R v d:=by
 have hl:=(List.getElem?_eq_some_iff.1 h2).1;have:i<a.length:=by rw[h.length];exact hl
 exact⟨_,List.getElem?_eq_getElem this,h.sU (List.getElem?_eq_getElem this) h2⟩
theorem Rel.dV{R:Rows}{a:List Value}{l:List DV}(h:cw R a l):Rel R (.agg a.toArray) (.agg l):=.agg (by simpa using h.length) λi v d h1 h2=>h.sU (by simpa using h1) h2
theorem Rel.ki{R:Rows}{a:List Value}{l:List DV}(h:cw R a l):Rel R (.tuple a.toArray) (.bg l):=.bg (by simpa using h.length) λi v d h1 h2=>h.sU (by simpa using h1) h2
theorem Rel.Ry{R:Rows}{f:FuncId}{a c:List Value}{a' c':List DV}(h:cw R a a')(h':cw R c c'):Rel R (.func (.func f) a.toArray c.toArray) (.fn f a' c'):=
 .fn (by simpa using h.length) (λi v d h1 h2=>h.sU (by simpa using h1) h2) (by simpa using h'.length) λi v d h1 h2=>h'.sU (by simpa using h1) h2
theorem Rel.cW{R:Rows}{v u:Value}(h:Rel R v (.v u)):v=u:=by cases h;rfl
theorem Rel.qI{R:Rows}{v:Value}{l:List DV}(h:Rel R v (.agg l)):∃a:Array Value,v=.agg a/\cw R a.toList l:=by
 cases h with|agg h1 h2=>exact⟨_,rfl,qW h1 h2⟩
theorem Rel.BB{R:Rows}{v:Value}{l:List DV}(h:Rel R v (.bg l)):∃a:Array Value,v=.tuple a/\cw R a.toList l:=by
 cases h with|bg h1 h2=>exact⟨_,rfl,qW h1 h2⟩
theorem Rel.wI{R:Rows}{v:Value}{f:FuncId}{a c:List DV}(h:Rel R v (.fn f a c)):∃a' c':Array Value,v=.func (.func f) a' c'/\cw R a'.toList a/\cw R c'.toList c:=by
 cases h with|fn h1 h2 h3 h4=>exact⟨_,_,rfl,qW h1 h2,qW h3 h4⟩
theorem cw.mono{R R':Rows}(hR:∀i r,R i=some r->R' i=some r){a:List Value}{l:List DV}(h:cw R a l):cw R' a l:=aP.mono h λ_ _=>Rel.mono hR
structure bA where
 key:Value
 val:DV
 born:Nat
inductive bF where
 |row (cs:List DV) (wr:Bool) (ah:Nat)
 |map (es:List bA) (clock:Nat)
 |cD (m:Option Nat) (since:Nat) (seen:List Nat) (last:Nat)
 |e8 (s:ByteArray) (pos:Nat)
structure ji(R:Rows)(x:MapEntry)(y:bA):Prop where
 key:x.key=y.key
 val:Rel R x.val y.val
 born:x.born=y.born
inductive jI(R:Rows):bK->bF->Prop
 |row {cs:List Value} {ds:List DV} {wr:Bool} {ah:Nat}:cw R cs ds->jI R (.row cs wr ah) (.row ds wr ah)
 |map {es:List MapEntry} {ds:List bA} {clock:Nat}:aP (ji R) es ds->jI R (.map es clock) (.map ds clock)
 |cD {m:Option Nat} {since:Nat} {seen:List Nat} {last:Nat}:jI R (.cD m since seen last) (.cD m since seen last)
 |e8 {s:ByteArray} {pos:Nat}:jI R (.e8 s pos) (.e8 s pos)
theorem jI.mono{R R':Rows}(hR:∀i r,R i=some r->R' i=some r){o:bK}{d:bF}(h:jI R o d):jI R' o d:=by
 cases h with
 |row h=>exact .row (h.mono hR)
 |map h=>exact .map (aP.mono h λ_ _ ⟨a,b,c⟩=>⟨a,b.mono hR,c⟩)
 |cD=>exact .cD
 |e8=>exact .e8
structure ab where
 m:Tr bF
 next:Nat
def ab.get(h:ab)(i:Nat):Option bF:=h.m.get i
def ab.set(h:ab)(i:Nat)(o:Option bF):ab:=⟨h.m.set i o,h.next⟩
def ab.new(h:ab)(o:bF):ab:=⟨h.m.set h.next (some o),h.next+1⟩
def ab.none(N:Nat):ab:=⟨.nil,N⟩
def ab.up(h:ab)(N:Nat):ab:=⟨h.m,N⟩
theorem ab.bw(h:ab)(i j:Nat)(o:Option bF):(h.set i o).get j=if j=i then o else h.get j:=Tr.bw _ _ _ _
theorem ab.dT(h:ab)(j:Nat)(o:bF):(h.new o).get j=if j=h.next then some o else h.get j:=Tr.bw _ _ _ _
theorem ab.get_none(N i:Nat):(ab.none N).get i=Option.none:=Tr.get_nil _
theorem ab.uI(h:ab)(N i:Nat):(h.up N).get i=h.get i:=rfl
theorem ab.aS(h:ab)(i:Nat)(o:Option bF):(h.set i o).next=h.next:=rfl
theorem ab.aZ(h:ab)(o:bF):(h.new o).next=h.next+1:=rfl
theorem ab.FZ(N:Nat):(ab.none N).next=N:=rfl
theorem ab.kj(h:ab)(N:Nat):(h.up N).next=N:=rfl
open Classical in
def aI(h:aa)(G:Nat->Prop):Rows:=λi=>if G i then match h.get i with|some (.row cs _ ah)=>some (cs,ah)|_=>none else none
theorem qX{h:aa}{G:Nat->Prop}{i:Nat}{r:List Value×Nat}(hf:aI h G i=some r):G i/\∃wr,h.get i=some (.row r.1 wr r.2):=by
 unfold aI at hf
 split at hf
 . rename_i hg;refine⟨hg, ?_⟩
   split at hf
   . rename_i cs wr ah he;cases hf;exact⟨wr,he⟩
   . cases hf
 . cases hf
theorem sW{h:aa}{G:Nat->Prop}{i:Nat}{cs:List Value}{wr:Bool}{ah:Nat}(hg:G i)(hh:h.get i=some (.row cs wr ah)):aI h G i=some (cs,ah):=by
 unfold aI;rw[if_pos hg,hh]
theorem jj{h h':aa}{G G':Nat->Prop}(hk:∀i,G i->G' i/\h'.get i=h.get i):∀i r,aI h G i=some r->aI h' G' i=some r:=λi r hf=>by
 obtain⟨h1,wr,h2⟩:=qX hf;obtain⟨h3,h4⟩:=hk i h1;exact sW h3 (h4.trans h2)
def Rz:List Int:=[0,1,56,2,57,49,28,3,61,58,42,50,38,29,17,4,62,47,59,36,45,43,51,22,53,39,33,30,24,18,12,5,63,55,48,27,60,41,37,16,46,35,44,21,52,32,23,11,54,26,40,15,34,20,31,10,25,14,19,9,13,8,7,6]
def jJ:List Value:=Rz.map λn=>.int .u8 n
def qY:List DV:=jJ.map .v
def pW(R:Rows):Prop:=∃z,R 0=some (jJ,z)
theorem pW.mono{R R':Rows}(h:pW R)(hR:∀i r,R i=some r->R' i=some r):pW R':=let⟨z,hz⟩:=h;⟨z,hR _ _ hz⟩
theorem pW.rel{R:Rows}(h:pW R):Rel R (.pointer (some ⟨0,0,none⟩)) (.ptr qY 0):=by
 obtain⟨z,hz⟩:=h;exact Rel.ptr (o:=0) (off:=0) hz (by simp[qY]) λi v d h1 h2=>by
  rw[Nat.zero_add]at h2;rw[qY,List.getElem?_map,h2]at h1;cases h1;exact .v v
structure bM(G:Nat->Prop)(h:aa)(d:ab):Prop where
 fF:pW (aI h G)
 next:h.next=d.next
 obj:∀i o,d.get i=some o->i<h.next/\∃ao,h.get i=some ao/\jI (aI h G) ao o
 still:∀i,G i->i<h.next/\d.get i=none
structure Kp(G:Nat->Prop)(h:aa)(d:ab)(G':Nat->Prop)(h':aa)(d':ab):Prop where
 next:h.next<=h'.next
 same:∀i,i<h.next->d.get i=none->h'.get i=h.get i/\d'.get i=none
 up:∀i,G i->G' i
 ba:∀i,i<h.next->G' i->G i\/(d.get i).isSome=true
theorem Kp.refl(G:Nat->Prop)(h:aa)(d:ab):Kp G h d G h d:=⟨Nat.le_refl _,λ_ _ h=>⟨rfl,h⟩,λ_ h=>h,λ_ _ h=>.inl h⟩
theorem Kp.trans{G G' ad:Nat->Prop}{h h' ae:aa}{d d' af:ab}(a:Kp G h d G' h' d')(b:Kp G' h' d' ad ae af):Kp G h d ad ae af where
 next:=Nat.le_trans a.next b.next
 same i hi hd:=by
  obtain⟨h1,h2⟩:=a.same i hi hd;obtain⟨h3,h4⟩:=b.same i (Nat.lt_of_lt_of_le hi a.next) h2;exact⟨h3.trans h1,h4⟩
 up i hg:=b.up i (a.up i hg)
 ba i hi hg:=by
  rcases b.ba i (Nat.lt_of_lt_of_le hi a.next) hg with h1|h1
  . exact a.ba i hi h1
  . cases hd:d.get i with
    |some o=>exact .inr rfl
    |none=>rw[(a.same i hi hd).2]at h1;cases h1
theorem Kp.aI{G G':Nat->Prop}{h h':aa}{d d':ab}(k:Kp G h d G' h' d')(x:bM G h d):∀i r,aI h G i=some r->aw.aI h' G' i=some r:=
 jj λi hg=>⟨k.up i hg,(k.same i (x.still i hg).1 (x.still i hg).2).1⟩
structure DS where
 t:Tr DV
 n:Nat
 dd:List FuncId
 h:ab
def sX(d:Deferred)(g:FuncId):Prop:=∃cap args,d={target:=.fn (.func g) cap,args}
structure SD(G:Nat->Prop)(s:aE)(d:DS):Prop where
 n:s.n=d.n
 t:∀i v,d.t.get i=some v->∃u,s.t.get i=some u/\Rel (aI s.h G) u v
 dd:aP sX s.ds d.dd
 h:bM G s.h d.h
def wJ:DV->Option Value
 |.v v=>some v
 |_=>none
def exact:DV->Option Value
 |.v v=>some v
 |.agg l=>(l.mapM wJ).map λl=>.agg l.toArray
 |_=>none
theorem F0{R:Rows}:∀{a:List Value} {l:List DV} {u:List Value},cw R a l->l.mapM wJ=some u->a=u
 |_,_,u,.nil,h=>by simp at h;exact h.symm
 |_,_,u,.cons (a:=v) (b:=d) (x:=x) (y:=y) h1 h2,h=>by
  cases d with
  |v w=>
   simp only[List.mapM_cons,wJ,Option.pure_def,Option.bind_eq_bind,Option.bind_some,Option.bind_eq_some_iff,Option.some.injEq]at h;obtain⟨r,h3,rfl⟩:=h;rw[h1.cW,F0 h2 h3]
  |_=>simp[List.mapM_cons,wJ]at h
theorem pX{R:Rows}{v u:Value}{d:DV}(h:Rel R v d)(he:exact d=some u):v=u:=by
 cases d with
 |v w=>simp only[exact,Option.some.injEq]at he;rw[h.cW,he]
 |agg l=>
  obtain⟨a,rfl,h2⟩:=h.qI;simp only[exact,Option.map_eq_some_iff]at he;obtain⟨u',h3,rfl⟩:=he;have:=F0 h2 h3;rw[<-this]
 |_=>cases he
def cE:DV->List DV
 |.agg l=>l
 |d=>[d]
theorem BC{R:Rows}{v:Value}{d:DV}(h:Rel R v d)(ho:∀u,d=.v u->dL u=true):cw R v.cells.toList (cE d):=by
 have one:∀u:Value,dL u=true->u.cells=#[u]:=λu hu=>by cases u<;>first|rfl|cases hu
 cases h with
 |v v=>rw[one v (ho v rfl)];exact .cons (.v v) .nil
 |agg h1 h2=>exact qW h1 h2
 |bg h1 h2=>exact .cons (.bg h1 h2) .nil
 |fn h1 h2 h3 h4=>exact .cons (.fn h1 h2 h3 h4) .nil
 |kQ h=>exact .cons (.kQ h) .nil
 |sl h1 h2 h3 h4 h5 h6 h7=>exact .cons (.sl h1 h2 h3 h4 h5 h6 h7) .nil
 |ptr h1 h2 h3=>exact .cons (.ptr h1 h2 h3) .nil
def di:DV->Bool
 |.v v=>dL v
 |.agg _=>false
 |.bg _=>false
 |_=>true
theorem RA{R:Rows}{v:Value}{d:DV}(h:Rel R v d)(ho:di d=true):dL v=true:=by
 cases h<;>first|rfl|exact ho|cases ho
theorem yL{R:Rows}:∀{a:List Value} {l:List DV},cw R a l->l.all di=true->a.all dL=true
 |_,_,.nil,_=>rfl
 |_,_,.cons h1 h2,h=>by
  simp only[List.all_cons,Bool.and_eq_true]at h⊢;exact⟨RA h1 h.1,yL h2 h.2⟩
end Go.aw
end

/- SpacingSuffixes: parts of its proof (AbsC AbsD AbsE). -/
import Derived.Test.YtaheljlbchkpcaaGreatDoorK02
set_option linter.unusedVariables false
set_option linter.unusedSimpArgs false
noncomputable section
namespace Go.aw
theorem ca{α:Type}{b:Bool}{x:Option α}{r:α}(h:(bif b then x else none)=some r):b=true/\x=some r:=by
 cases b with
 |true=>exact⟨rfl,h⟩
 |false=>cases h
theorem wb{α:Type}(P:Program):∀(s:Sem α) (a:α),bY P s=some a->∀w,s.run P w=.ok a w
 |.pure a,b,h,w=>by simp only[bY,Option.some.injEq]at h;subst h;rfl
 |.program k,b,h,w=>wb P (k P) b h w
 |.load _ _ _,_,h,_|.store _ _ _ _,_,h,_|.new _ _,_,h,_|.shape _ _,_,h,_|.freeze _ _ _,_,h,_|.frozen _ _,_,h,_|.getObj _ _,_,h,_|.setObj _ _ _,_,h,_
 |.choose _ _,_,h,_|.sys _ _,_,h,_|.mark _ _,_,h,_|.halt _,_,h,_=>by simp[bY]at h
structure Env.Ok(e:Env):Prop where
 under:∀t d,e.under t=some d->e.P.underlying t=some d
 size:∀t n,e.size t=some n->∃i,e.P.info? t=some i/\i.size=n
 bytes:∀t n,e.bytes t=some n->∃i,e.P.info? t=some i/\i.bytes=n
 zero:∀t z,e.zero t=some z->∃i,e.P.info? t=some i/\i.zero=some z/\plain z=true
 fields:∀t fs,e.under t=some (.struct fs)->∀f∈fs.toList,∃n,e.size f.type=some n
 fn:∀f fn,e.fn f=some fn->e.P.funcs[f]? =some fn/\∀args w,(callFunc f args).run e.P w=.ok (.enter f args) w
def Gl(e:Env)(ρ:ay):Prop:=(∀g,g<e.px->∃pl,ρ g=some pl/\pl.aW=g/\pl.off=0)/\∀p∈e.pins,ρ p.1=some p.2
theorem Gl.mono{e:Env}{ρ af:ay}(hx:Ext ρ af)(h:Gl e ρ):Gl e af:=⟨λg hg=>let⟨pl,h1,h2⟩:=h.1 g hg;⟨pl,hx _ _ h1,h2⟩,λp hp=>hx _ _ (h.2 p hp)⟩
section runs
variable {P:Program} {w:World}
theorem run_underlying{t:TypeId}{d:TypeDesc}(h:P.underlying t=some d):(underlying t).run P w=.ok d w:=by simp[underlying,h]
theorem run_typeInfo{t:TypeId}{i:TypeInfo}(h:P.info? t=some i):(typeInfo t).run P w=.ok i w:=by simp[typeInfo,h]
theorem run_sizeOf{t:TypeId}{i:TypeInfo}{n:Nat}(h:P.info? t=some i/\i.size=n):(sizeOf t).run P w=.ok n w:=by simp[sizeOf,run_typeInfo h.1,h.2]
theorem Mc{t:TypeId}{i:TypeInfo}{z:Value}(h:P.info? t=some i)(hz:i.zero=some z):(zeroValue t).run P w=.ok z w:=by simp[zeroValue,run_typeInfo h,hz]
theorem Md{t:TypeId}{d:TypeDesc}(h:P.underlying t=some d):(isAgg t).run P w=.ok (j7 d) w:=by
 cases d<;>simp[isAgg,run_underlying h,j7]
end runs
variable {e:Env}
theorem Env.Ok.dA(he:e.Ok){t:TypeId}{d:TypeDesc}(h:e.under t=some d)(w:World):(underlying t).run e.P w=.ok d w:=run_underlying (he.under t d h)
theorem Env.Ok.iN(he:e.Ok){t:TypeId}{n:Nat}(h:e.size t=some n)(w:World):(sizeOf t).run e.P w=.ok n w:=let⟨_,h1⟩:=he.size t n h;run_sizeOf h1
theorem Env.Ok.pF(he:e.Ok){t:TypeId}{z:Value}(h:e.zero t=some z)(w:World):(zeroValue t).run e.P w=.ok z w:=let⟨_,h1,h2,_⟩:=he.zero t z h;Mc h1 h2
theorem Env.Ok.x9(he:e.Ok){t:TypeId}{d:TypeDesc}(h:e.under t=some d)(w:World):(isAgg t).run e.P w=.ok (j7 d) w:=Md (he.under t d h)
theorem Env.Ok.Me(he:e.Ok){t:TypeId}{n:Nat}(h:e.bytes t=some n)(w:World):∃i,(typeInfo t).run e.P w=.ok i w/\i.bytes=n:=let⟨i,h1,h2⟩:=he.bytes t n h;⟨i,run_typeInfo h1,h2⟩
theorem kM{ρ:ay}{t:Tr Value}{n:Nat}{a:Array Value}(hg:Gl e ρ)(ht:kc ρ t n a){o:Operand}{v:Value}(h:au e t o=some v)(ds:List Deferred):
 aK ρ v ((Act.mk a ds).eval o):=by
 cases o with
 |tmp i=>exact(ht.2 i v h).2
 |const x=>
  simp only[au]at h;cases hp:plain x<;>simp[hp]at h;subst h;exact oi hp
 |global g=>
  simp only[au]at h;cases hp:Nat.blt g e.px<;>simp[hp]at h;subst h;obtain⟨pl,h1,h2,h3⟩:=hg.1 g (Nat.le_of_ble_eq_true hp);have:=aK.ptr (ρ:=ρ) (a:=⟨g,0,none⟩) h1;rw[h2,h3]at this;exact this
 |func f=>
  simp only[au,Option.some.injEq]at h;subst h;exact .func (.func f) rfl (λi v v' h=>by simp at h) rfl (λi v v' h=>by simp at h)
theorem wc{ρ:ay}{t:Tr Value}{n:Nat}{a:Array Value}(hg:Gl e ρ)(ht:kc ρ t n a)(ds:List Deferred):∀{os:List Operand} {vs:List Value},df e t os=some vs->
 bJ ρ vs (os.map (Act.mk a ds).eval)
 |[],vs,h=>by simp only[df,Option.some.injEq]at h;subst h;exact .nil
 |o::os,vs,h=>by
  simp only[df]at h;cases h1:au e t o with
  |none=>simp[h1]at h
  |some v=>
   cases h2:df e t os with
   |none=>simp[h1,h2]at h
   |some xs=>
    simp only[h1,h2,Option.some.injEq]at h;subst h;exact .cons (kM hg ht h1 ds) (wc hg ht ds h2)
inductive uq(ρ:ay):List (Nat×Value)->List (Nat×Value)->Prop
 |nil:uq ρ [] []
 |cons {i:Nat} {v v':Value} {x y:List (Nat×Value)}:aK ρ v v'->uq ρ x y->uq ρ ((i,v)::x) ((i,v')::y)
theorem Aw{ρ:ay}{t:Tr Value}{n:Nat}{a:Array Value}(hg:Gl e ρ)(ht:kc ρ t n a)(ds:List Deferred):∀{os:List (Nat×Operand)} {vs:List (Nat×Value)},fM e t os=some vs->
 uq ρ vs (os.map λp=>(p.1,(Act.mk a ds).eval p.2))
 |[],vs,h=>by simp only[fM,Option.some.injEq]at h;subst h;exact .nil
 |(i,o)::os,vs,h=>by
  simp only[fM]at h;cases h1:au e t o with
  |none=>simp[h1]at h
  |some v=>
   cases h2:fM e t os with
   |none=>simp[h1,h2]at h
   |some xs=>
    simp only[h1,h2,Option.some.injEq]at h;subst h;exact .cons (kM hg ht h1 ds) (Aw hg ht ds h2)
theorem pG(b o j:Nat):(⟨b,o,none⟩:Addr).add j=⟨b,o+j,none⟩:=by unfold Addr.add;split<;>simp_all
theorem Addr.ur(a:Addr)(n:Nat):(a.add n).block=a.block:=by unfold Addr.add;split<;>rfl
theorem Addr.sB(a:Addr)(n:Nat):(a.add n).off=a.off+n:=by unfold Addr.add;split<;>simp_all
theorem uu{ρ:ay}{h:aa}{w:World}(x:bm ρ h w){a:Addr}{pl:Pl}(hp:ρ a.block=some pl){n:Nat}{cs:List Value}(hr:gm h a n=some cs):
 ∃cs',bJ ρ cs cs'/\cs'.length=n/\∀(j:Nat) (v:Value),cs'[j]? =some v->w.cell? ((⟨pl.aW,pl.off+a.off,none⟩:Addr).add j)=some v:=by
 unfold gm at hr;cases ho:h.get a.block with
 |none=>simp[ho]at hr
 |some o=>
  cases o with
  |row rs wr ah=>
   simp only[ho]at hr;obtain⟨hl,hr⟩:=ca hr
   . cases hr;obtain⟨pl',g1,c,el,fz,g2,g3,g4,g5,g6,g7,g8,g9⟩:=x.obj _ _ ho;rw[hp]at g1;cases g1;refine⟨(((c.toList.drop pl.off).take pl.n).drop a.off).take n,(g9.1.drop a.off).take n, ?_, ?_⟩
     . rw[<-((g9.1.drop a.off).take n).length];exact Nat.eq_of_beq_eq_true hl
     . intro j v hv;rw[pG];have hj:j<n:=by
        rcases Nat.lt_or_ge j n with h|h
        . exact h
        . rw[List.getElem?_take,if_neg (by omega)]at hv;cases hv
       rw[List.getElem?_take,if_pos hj,List.getElem?_drop,List.getElem?_take]at hv
       split at hv
       . rw[List.getElem?_drop]at hv;simp only[World.cell?,g2,Option.isSome_none,Bool.false_eq_true,if_false];rw[<-hv,<-Array.getElem?_toList];congr 1;omega
       . cases hv
  |_=>simp[ho]at hr
theorem Ex(he:e.Ok){ρ:ay}{h:aa}{w:World}(x:bm ρ h w){a:Addr}{pl:Pl}(hp:ρ a.block=some pl){t:TypeId}{v:Value}(hr:iJ e h t a=some v):
 ∃v',(loadVar t ⟨pl.aW,pl.off+a.off,none⟩).run e.P w=.ok v' w/\aK ρ v v':=by
 unfold iJ at hr;cases hd:e.under t with
 |none=>simp[hd]at hr
 |some d=>
  simp only[hd]at hr;cases ha:j7 d with
  |true=>
   simp only[ha,cond_true]at hr;cases hs:e.size t with
   |none=>simp[hs]at hr
   |some n=>
    simp only[hs]at hr;cases hc:gm h a n with
    |none=>simp[hc]at hr
    |some cs=>
     simp only[hc,Option.some.injEq]at hr;subst hr;obtain⟨cs',g1,g2,g3⟩:=uu x hp hc;refine⟨.agg cs'.toArray, ?_,aK.x7 (by simpa using g1)⟩;have:=run_loadCells_list (P:=e.P) w ⟨pl.aW,pl.off+a.off,none⟩ cs' g3;rw[g2]at this;simp[loadVar,he.x9 hd,ha,he.iN hs,this]
  |false=>
   simp only[ha,cond_false]at hr;cases hc:gm h a 1 with
   |none=>simp[hc]at hr
   |some cs=>
    obtain⟨cs',g1,g2,g3⟩:=uu x hp hc
    match cs,hc,hr,g1 with
    |[u],hc,hr,g1=>
     simp only[hc,Option.some.injEq]at hr;subst hr
     match cs',g1 with
     |[u'],.cons g1 _=>
      have:=g3 0 u' rfl;refine⟨u', ?_,g1⟩;have hz:(⟨pl.aW,pl.off+a.off,none⟩:Addr).add 0=⟨pl.aW,pl.off+a.off,none⟩:=by simp[Addr.add]
      rw[hz]at this;simp[loadVar,he.x9 hd,ha,this]
    |[],hc,hr,_=>simp[hc]at hr
    |_::_::_,hc,hr,_=>simp[hc]at hr
theorem aK.dL{ρ:ay}{v v':Value}(h:aK ρ v v'):dL v'=dL v:=by cases h<;>rfl
theorem Mf(v:Value):v.oneCell'=dL v:=by cases v<;>rfl
theorem bJ.dL{ρ:ay}{x y:List Value}(h:bJ ρ x y)(hx:x.all dL=true):∀v∈y,v.oneCell'=true:=by
 induction h with
 |nil=>intro v hv;cases hv
 |cons h _ ih=>
  simp only[List.all_cons,Bool.and_eq_true]at hx;intro v hv;cases hv with
  |head=>rw[Mf,h.dL];exact hx.1
  |tail _ hv=>exact ih hx.2 v hv
theorem Ey(w:World)(g:Nat)(cur:Array Value)(el:TypeId)(fz:Nat×Nat)(new:Array Value)(hg:w.heap[g]? =some (.cells cur el fz)):
 w.setRow g new=World.gD w g (.cells new el fz):=by
 obtain⟨ad,hv⟩:=Array.getElem?_eq_some_iff.1 hg;unfold World.setRow World.gD;congr 1;apply Array.ext_getElem?;intro i;rw[Array.getElem?_modify,Array.getElem?_setIfInBounds];by_cases h:g=i
 . subst h;rw[if_pos rfl,if_pos rfl,if_pos ad,hg];rfl
 . rw[if_neg h,if_neg h]
theorem Ez(cs:List Value)(off:Nat)(vs:List Value)(h:off+vs.length<=cs.length):(eo cs off vs).length=cs.length:=by
 unfold eo;simp;omega
theorem aP.eo{ρ:ay}{cs cs' vs ab:List Value}(h:bJ ρ cs cs')(hv:bJ ρ vs ab)(off:Nat):bJ ρ (eo cs off vs) (eo cs' off ab):=by
 unfold Go.aw.eo;rw[hv.length];exact((h.take off).append hv).append (h.drop _)
theorem EA(c:List Value)(o n k:Nat)(vs:List Value)(h:k+vs.length<=n)(hc:o+n<=c.length):
 ((c.take (o+k)++vs++c.drop (o+k+vs.length)).drop o).take n=eo ((c.drop o).take n) k vs:=by
 unfold eo;apply List.ext_getElem?;intro i;simp only[List.getElem?_take,List.getElem?_drop,List.getElem?_append,List.length_append,List.length_take,List.length_drop];have h1:min (o+k) c.length=o+k:=by omega
 have h2:min k (min n (c.length-o))=k:=by omega
 rw[h1,h2];by_cases hi:i<n
 . simp only[hi,if_true];by_cases hk:i<k
   . have e1:o+i<o+k+vs.length:=by omega
     have e2:o+i<o+k:=by omega
     have e3:i<k+vs.length:=by omega
     simp[hk,e1,e2,e3]
   . by_cases hv:i<k+vs.length
     . have e1:o+i<o+k+vs.length:=by omega
       have e2:¬o+i<o+k:=by omega
       simp only[e1,e2,hk,hv,if_true,if_false];congr 1;omega
     . have e1:¬o+i<o+k+vs.length:=by omega
       simp only[e1,hv,if_false];have e4:k+vs.length+(i-(k+vs.length))<n:=by omega
       rw[if_pos e4];congr 1;omega
 . simp only[hi,if_false];have hk:¬i<k:=by omega
   have hv:¬i<k+vs.length:=by omega
   simp only[hk,hv,if_false];have e4:¬k+vs.length+(i-(k+vs.length))<n:=by omega
   rw[if_neg e4]
theorem Ax(P:Program){b:Nat}{ρ:ay}{h h':aa}{w:World}(x:bm ρ h w){a:Addr}{pl:Pl}(hp:ρ a.block=some pl){vs ab:List Value}(hv:bJ ρ vs ab)(hr:mv h a vs=some h'):
 ∃w',(storeCells ⟨pl.aW,pl.off+a.off,none⟩ ab).run P w=.ok () w'/\bm ρ h' w'/\Fr b ρ h w ρ h' w':=by
 unfold mv at hr
 match vs,ab,hv with
 |[],[],_=>
  simp only[Option.some.injEq]at hr;subst hr;exact⟨w,rfl,x,Fr.refl _ _ _ _⟩
 |u::us,u'::ae,hv=>
  simp only at hr;cases ho:h.get a.block with
  |none=>simp[ho]at hr
  |some o=>
   cases o with
   |row rs wr ah=>
    cases wr with
    |false=>simp[ho]at hr
    |true=>
     simp only[ho]at hr;obtain⟨hb,hr⟩:=ca hr
     . cases hr;rw[Bool.and_eq_true]at hb;have hle:a.off+(u::us).length<=rs.length:=Nat.le_of_ble_eq_true hb.1;obtain⟨pl',g1,c,el,fz,g2,g3,g4,g5,g6,g7,g8,g9⟩:=x.obj _ _ ho;rw[hp]at g1;cases g1;have ao:=g3 rfl;subst ao;have hl:=hv.length;have ai:=run_storeCells_at (P:=P) pl.aW (pl.off+a.off) el (u'::ae) 0 c w g2 (by rw[<-hl];omega) (hv.dL hb.2);rw[Ey w pl.aW c el (0,0) _ g2]at ai;refine⟨_,ai, ?_⟩;refine sA x ho rfl hp rfl ?_ rfl;have ad:pl.aW<w.heap.size:=(Array.getElem?_eq_some_iff.1 g2).1;have av:(u'::ae).length=(u::us).length:=hl.symm;refine⟨_,el,(0,0),pE w _ _ ad,λ_=>rfl, ?_,g5,g6, ?_,g8, ?_,λe0=>by
        have h0:=congrArg List.length e0;rw[Ez _ _ _ hle,List.length_nil]at h0;simp only[List.length_cons]at hle;omega⟩
       . rw[Ez _ _ _ hle];exact g4
       . simp only[List.size_toArray,List.length_append,List.length_take,List.length_drop,Array.length_toList];omega
       . simp only[Nat.add_zero];rw[EA c.toList pl.off pl.n a.off (u'::ae) (by omega) (by simp;omega)];exact aP.eo g9.1 hv _
   |_=>simp[ho]at hr
theorem aK.cells{ρ:ay}{v v':Value}(h:aK ρ v v'):bJ ρ v.cells.toList v'.cells.toList:=by
 cases h with
 |agg h1 h2=>exact sx h1 h2
 |bool b=>exact .cons (.bool b) .nil
 |int k n=>exact .cons (.int k n) .nil
 |string s=>exact .cons (.string s) .nil
 |sw=>exact .cons .sw .nil
 |ptr h=>exact .cons (.ptr h) .nil
 |kK l k=>exact .cons (.kK l k) .nil
 |sl h hs=>exact .cons (.sl h hs) .nil
 |pD=>exact .cons .pD .nil
 |map h=>exact .cons (.map h) .nil
 |func hf h1 h2 h3 h4=>exact .cons (.func hf h1 h2 h3 h4) .nil
 |nilFunc=>exact .cons .nilFunc .nil
 |iface h=>exact .cons (.iface h) .nil
 |nilIface=>exact .cons .nilIface .nil
 |tuple h1 h2=>exact .cons (.tuple h1 h2) .nil
theorem Mg(he:e.Ok){b:Nat}{ρ:ay}{h h':aa}{w:World}(x:bm ρ h w){a:Addr}{pl:Pl}(hp:ρ a.block=some pl){t:TypeId}{v v':Value}(hv:aK ρ v v')(hr:py e h t a v=some h'):
 ∃w',(storeVar t ⟨pl.aW,pl.off+a.off,none⟩ v').run e.P w=.ok () w'/\bm ρ h' w'/\Fr b ρ h w ρ h' w':=by
 unfold py at hr;cases hs:e.size t with
 |none=>simp[hs]at hr
 |some n=>
  simp only[hs]at hr;obtain⟨hb,hr⟩:=ca hr
  . obtain⟨w',g1,g2⟩:=Ax e.P x hp hv.cells hr;refine⟨w', ?_,g2⟩;have hl:=hv.cells.length;have hn:=Nat.eq_of_beq_eq_true hb;have:v'.cells.size=n:=by rw[<-Array.length_toList,<-hl];exact hn
    simp[storeVar,he.iN hs,this,g1]
end Go.aw
end
noncomputable section
namespace Go.aw
variable {e:Env}
theorem Mh(vs:List Value):∀(off k:Nat) (cs:Array Value),off+k+vs.length<=cs.size->
 ((vs.zipIdx k).foldl (λcs (p:Value×Nat)=>cs.setIfInBounds (off+p.2) p.1) cs).toList=eo cs.toList (off+k) vs:=by
 induction vs with
 |nil=>
  intro off k cs h;simp[eo]
 |cons v vs ih=>
  intro off k cs h;simp only[List.zipIdx_cons,List.foldl_cons];have:=ih off (k+1) (cs.setIfInBounds (off+k) v) (by simp at h⊢;omega);rw[this];have e:=list_seg_step cs.toList (off+k) v vs (by simp at h⊢;omega);unfold eo;simpa[Array.toList_setIfInBounds,Nat.add_assoc,Nat.add_comm 1 vs.length]using e
theorem Ay{ρ:ay}{place place':Nat->Option (Nat×Nat)}(af:∀i x,place i=some x->place' i=some x):∀{cells:List Value} {ps ps':List (Nat×Value)} {cells':Array Value} {cs:List Value},
 bJ ρ cells cells'.toList->uq ρ ps ps'->jg place cells ps=some cs->∃cs':Array Value,Instr.fill place' cells' ps'=some cs'/\bJ ρ cs cs'.toList:=by
 intro cells ps ps' cells' cs hc hp
 induction hp generalizing cells cells' with
 |nil=>
  intro h;simp only[jg,Option.some.injEq]at h;subst h;exact⟨cells',rfl,hc⟩
 | @cons i v v' x y hv _ ih=>
  intro h;simp only[jg]at h;cases hi:place i with
  |none=>simp[hi]at h
  |some p=>
   obtain⟨off,size⟩:=p;simp only[hi]at h;obtain⟨hb,h⟩:=ca h;rw[Bool.and_eq_true]at hb;have hl:=hv.cells.length;have h1:v.cells.toList.length=size:=Nat.eq_of_beq_eq_true hb.1;have h2:off+size<=cells.length:=Nat.le_of_ble_eq_true hb.2;have h3:cells.length=cells'.size:=by simpa using hc.length
   have h4:v'.cells.size=size:=by rw[<-Array.length_toList,<-hl];exact h1
   have hf:=Mh v'.cells.toList off 0 cells' (by simp only[Array.length_toList];omega);simp only[Nat.add_zero]at hf;have hz:v'.cells.zipIdx.foldl (λcs (p:Value×Nat)=>cs.setIfInBounds (off+p.2) p.1) cells'=(v'.cells.toList.zipIdx.foldl (λcs (p:Value×Nat)=>cs.setIfInBounds (off+p.2) p.1) cells'):=by
    rw[<-Array.foldl_toList,Array.toList_zipIdx]
   obtain⟨cs',g1,g2⟩:=ih (cells:=eo cells off v.cells.toList) (cells':=v'.cells.zipIdx.foldl (λcs (p:Value×Nat)=>cs.setIfInBounds (off+p.2) p.1) cells') (by
    rw[hz,hf];exact aP.eo hc hv.cells off) h
   refine⟨cs', ?_,g2⟩;rw[Instr.fill,af i _ hi];have ae:((v'.cells.size !=size)||decide (off+v'.cells.size>cells'.size))=false:=by
    simp[h4];omega
   simp only[ne_eq,h4,not_true_eq_false,decide_false,Bool.false_or];rw[if_neg (by simp;omega)];exact g1
theorem Mi(he:e.Ok){fs:Array Field}(hf:∀f∈fs.toList,∃n,e.size f.type=some n)(w:World):
 ∃places:Array (Nat×Nat),(fs.mapM (λ(f:Field)=>(do pure (f.offset,<-sizeOf f.type):Sem (Nat×Nat)))).run e.P w=.ok places w/\∀i x,kH e fs i=some x->places[i]? =some x:=by
 have key:∀(l:List Field),(∀f∈l,∃n,e.size f.type=some n)->∃ps:List (Nat×Nat),(l.mapM (λ(f:Field)=>(do pure (f.offset,<-sizeOf f.type):Sem (Nat×Nat)))).run e.P w=.ok ps w/\
  ∀(i:Nat) (f:Field) (s:Nat),l[i]? =some f->e.size f.type=some s->ps[i]? =some (f.offset,s):=by
  intro l
  induction l with
  |nil=>intro _;exact⟨[],rfl,λi f s h=>by simp at h⟩
  |cons f l ih=>
   intro h;obtain⟨n,hn⟩:=h f (by simp);obtain⟨ps,h1,h2⟩:=ih λg hg=>h g (by simp[hg]);refine⟨(f.offset,n)::ps,by simp only[List.mapM_cons,Sem.run_bind,he.iN hn,Result.andThen_ok,Sem.run_pure,h1],λi g s hi hs=> ?_⟩;cases i with
   |zero=>simp at hi;subst hi;rw[hn]at hs;cases hs;rfl
   |succ i=>simpa using h2 i g s (by simpa using hi) hs
 obtain⟨ps,h1,h2⟩:=key fs.toList hf;refine⟨ps.toArray, ?_,λi x hx=> ?_⟩
 . rw[Array.mapM_eq_mapM_toList,Sem.run_map,h1];rfl
 . unfold kH at hx;cases hi:fs[i]? with
   |none=>simp[hi]at hx
   |some f=>
    simp only[hi]at hx;cases hs:e.size f.type with
    |none=>simp[hs]at hx
    |some s=>
     simp only[hs,Option.some.injEq]at hx;subst hx;simpa using h2 i f s (by simpa using hi) hs
theorem Env.Ok.uv(he:e.Ok){t:TypeId}{z:Value}(h:e.zero t=some z)(ρ:ay):bJ ρ z.cells.toList z.cells.toList:=
 let⟨_,_,_,hp⟩:=he.zero t z h;(oi hp).cells
theorem Mj(he:e.Ok){ρ:ay}(w:World){t:TypeId}{ps:List (Nat×Value)}{ps':Array (Nat×Value)}{v:Value}(hp:uq ρ ps ps'.toList)(h:qB e t ps=some v):
 ∃v',(Instr.build t ps').run e.P w=.ok v' w/\aK ρ v v':=by
 unfold qB at h;cases hz:e.zero t with
 |none=>simp[hz]at h
 |some z=>
  cases hu:e.under t with
  |none=>simp[hz,hu]at h
  |some d=>
   cases d with
   |struct fields=>
    simp only[hz,hu]at h;cases hf:jg (kH e fields) z.cells.toList ps with
    |none=>simp[hf]at h
    |some cs=>
     simp only[hf,Option.some.injEq]at h;subst h;obtain⟨places,g1,g2⟩:=Mi he (he.fields t fields hu) w;obtain⟨cs',g3,g4⟩:=Ay (place':=(places[·]?)) g2 (he.uv hz ρ) hp hf;refine⟨.agg cs', ?_,aK.x7 g4⟩;simp only[Instr.build,Sem.run_bind,he.pF hz,Result.andThen_ok,he.dA hu,g1,g3,Sem.run_pure]
   |array n elem=>
    simp only[hz,hu]at h;cases hs:e.size elem with
    |none=>simp[hs]at h
    |some s=>
     simp only[hs]at h;cases hf:jg (λi=>some (i*s,s)) z.cells.toList ps with
     |none=>simp[hf]at h
     |some cs=>
      simp only[hf,Option.some.injEq]at h;subst h;obtain⟨cs',g3,g4⟩:=Ay (place':=λi=>some (i*s,s)) (λ_ _ h=>h) (he.uv hz ρ) hp hf;refine⟨.agg cs', ?_,aK.x7 g4⟩;simp only[Instr.build,Sem.run_bind,he.pF hz,Result.andThen_ok,he.dA hu,he.iN hs,g3,Sem.run_pure]
   |_=>simp[hz,hu]at h
theorem EB(he:e.Ok){ρ:ay}(w:World){t:TypeId}{cs:List Value}{cs':Array Value}{off:Nat}{v:Value}(hc:bJ ρ cs cs'.toList)(h:od e t cs off=some v):
 ∃v',(part t cs' off).run e.P w=.ok v' w/\aK ρ v v':=by
 unfold od at h;cases hd:e.under t with
 |none=>simp[hd]at h
 |some d=>
  simp only[hd]at h;cases ha:j7 d with
  |true=>
   simp only[ha,cond_true]at h;cases hs:e.size t with
   |none=>simp[hs]at h
   |some n=>
    simp only[hs,Option.some.injEq]at h;subst h;refine⟨.agg (cs'.extract off (off+n)), ?_,aK.x7 ?_⟩
    . simp[part,he.x9 hd,ha,he.iN hs]
    . have:=(hc.drop off).take n;simpa[Array.toList_extract,List.extract_eq_take_drop]using this
  |false=>
   simp only[ha,cond_false]at h;obtain⟨v',g1,g2⟩:=hc.get off v h;refine⟨v', ?_,g2⟩;have:cs'[off]? =some v':=by simpa using g1
   simp[part,he.x9 hd,ha,this]
theorem we{ρ:ay}{i:Nat}{pl:Pl}(h:ρ i=some pl)(h0:pl.off=0):aK ρ (.pointer (some ⟨i,0,none⟩)) (.pointer (some ⟨pl.aW,0,none⟩)):=by
 have:=aK.ptr (ρ:=ρ) (a:=⟨i,0,none⟩) h;rw[h0]at this;exact this
theorem ya{b id:Nat}{ρ:ay}{h h':aa}{w:World}{cs:List Value}(x:bm ρ h w)(s:Slot b ρ h id (.row cs true 0) h'){cs':Array Value}(hv:bJ ρ cs cs'.toList)(el:TypeId):
 ∃ab pl,ab id=some pl/\pl.aW=w.heap.size/\pl.off=0/\pl.n=cs.length/\pl.cap=cs.length/\pl.ah=0/\bm ab h' (World.add w (.cells cs' el))/\
  Fr b ρ h w ab h' (World.add w (.cells cs' el))/\∀j,j≠id->ab j=ρ j:=by
 let pl:Pl:={aW:=w.heap.size,off:=0,n:=cs.length,cap:=cs.length,ah:=0}
 have hl:cs.length=cs'.size:=by simpa using hv.length
 have hx:Ext ρ (ρ.put id pl):=ay.sy pl s.free;have hr:iM (ρ.put id pl) (World.add w (.cells cs' el)) pl (.row cs true 0):=by
  refine⟨cs',el,(0,0),x8 _ _,λ_=>rfl,rfl,rfl,Nat.le_refl _, ?_,λ_=>rfl, ?_,λ_=>trivial⟩
  . show 0+cs.length<=cs'.size;omega
  . show bJ _ cs ((cs'.toList.drop 0).take cs.length);rw[hv.length,List.drop_zero,List.take_length];exact hv.mono hx
 obtain⟨g1,g2⟩:=Av x s (o:=.cells cs' el) rfl rfl hr rfl;exact⟨_,pl,ay.lx _ _ _,rfl,rfl,rfl,rfl,rfl,g1,g2,λ_ h=>ay.ke _ _ h⟩
theorem Mk{b id:Nat}{ρ:ay}{h h':aa}{w:World}{cs:List Value}{s:Nat}(x:bm ρ h w)(sl:Slot b ρ h id (.row cs true s) h'){cs' rest:Array Value}(hv:bJ ρ cs cs'.toList)(el:TypeId)(hs:0<s):
 ∃ab pl,ab id=some pl/\pl.aW=w.heap.size/\pl.off=0/\pl.n=cs.length/\pl.cap=cs.length+rest.size/\pl.ah=s/\bm ab h' (World.add w (.cells (cs'++rest) el))/\
  Fr b ρ h w ab h' (World.add w (.cells (cs'++rest) el)):=by
 let pl:Pl:={aW:=w.heap.size,off:=0,n:=cs.length,cap:=cs.length+rest.size,ah:=s}
 have hl:cs.length=cs'.size:=by simpa using hv.length
 have hx:Ext ρ (ρ.put id pl):=ay.sy pl sl.free;have hr:iM (ρ.put id pl) (World.add w (.cells (cs'++rest) el)) pl (.row cs true s):=by
  refine⟨cs'++rest,el,(0,0),x8 _ _,λ_=>rfl,rfl,rfl, ?_, ?_,λh=>absurd h (Nat.ne_of_gt hs), ?_,λ_=>trivial⟩
  . show cs.length<=cs.length+rest.size;omega
  . show 0+(cs.length+rest.size)<=(cs'++rest).size;simp;omega
  . show bJ _ cs (((cs'++rest).toList.drop 0).take cs.length);rw[List.drop_zero,Array.toList_append,hl,<-Array.length_toList,List.take_left];exact hv.mono hx
 obtain⟨g1,g2⟩:=Av x sl (o:=.cells (cs'++rest) el) rfl rfl hr rfl;exact⟨_,pl,ay.lx _ _ _,rfl,rfl,rfl,rfl,rfl,g1,g2⟩
theorem yb{b id:Nat}{ρ:ay}{h h':aa}{w:World}{ao:bK}(x:bm ρ h w)(s:Slot b ρ h id ao h')(o:Obj)(hu:Obj.ly o=true)(hw:ao.wr=true)
 (hr:∀(ab:ay) (w':World) (pl:Pl),Ext ρ ab->pl.off=0->w'.heap[pl.aW]? =some o->iM ab w' pl ao):
 ∃ab pl,ab id=some pl/\pl.aW=w.heap.size/\pl.off=0/\bm ab h' (World.add w o)/\Fr b ρ h w ab h' (World.add w o)/\∀j,j≠id->ab j=ρ j:=by
 let pl:Pl:={aW:=w.heap.size,off:=0,n:=0,cap:=0,ah:=0}
 obtain⟨g1,g2⟩:=Av (pl:=pl) x s hu rfl (hr _ _ pl (ay.sy pl s.free) rfl (x8 _ _)) hw;exact⟨_,pl,ay.lx _ _ _,rfl,rfl,g1,g2,λ_ h=>ay.ke _ _ h⟩
theorem Az{ρ:ay}{zs ad:List Value}(hz:bJ ρ zs ad)(n:Nat)(h0:0<zs.length):bJ ρ (fu zs n) (((Array.range n).map (ad.toArray[·%ad.toArray.size]!)).toList):=by
 refine aP.sv (by simp[fu]) λi a b ha hb=> ?_;have hi:i<n:=by
  rcases Nat.lt_or_ge i n with h|h
  . exact h
  . rw[fu,List.getElem?_eq_none (by simpa using h)]at ha;cases ha
 have hl:=hz.length;have hm:i%zs.length<zs.length:=Nat.mod_lt _ h0;simp only[fu,List.getElem?_map,List.getElem?_range hi,Option.map_some,Option.some.injEq]at ha;rw[List.getElem?_eq_getElem hm,Option.getD_some]at ha;subst ha;simp only[Array.toList_map,Array.toList_range,List.getElem?_map,List.getElem?_range hi,Option.map_some,Option.some.injEq]at hb;obtain⟨u,g1,g2⟩:=hz.get (i%zs.length) _ (List.getElem?_eq_getElem hm);have:ad.toArray[i%ad.toArray.size]! =u:=by
  rw[List.size_toArray,<-hl];simp only[getElem!_def];rw[List.getElem?_toArray,g1]
 rw[<-hb,this];exact g2
end Go.aw
end
noncomputable section
namespace Go.aw
variable {e:Env}
def gY(b:Nat)(P:Program)(ρ:ay)(h:aa)(w:World)(s:Sem Value)(v:Value)(h':aa):Prop:=
 ∃v' w' ab,s.run P w=.ok v' w'/\aK ab v v'/\bm ab h' w'/\Fr b ρ h w ab h' w'
theorem gY.same{b:Nat}{P:Program}{ρ:ay}{h:aa}{w:World}{s:Sem Value}{v v':Value}(x:bm ρ h w)(hr:s.run P w=.ok v' w)(hv:aK ρ v v'):gY b P ρ h w s v h:=
 ⟨v',w,ρ,hr,hv,x,Fr.refl _ _ _ _⟩
theorem wrap_small{n:Int}(h0:0<=n)(h1:n<=1099511627776):IntKind.i64.wrap n=n:=by
 have h2:n%(2^64:Int)=n:=Int.emod_eq_of_lt h0 (by omega);have h3:¬n>=(2^63:Int):=by omega
 show(if(true&&decide (n%(2^64:Int)>=(2^63:Int)))=true then n%(2^64:Int)-2^64 else n%(2^64:Int))=n;simp only[h2,h3,decide_false,Bool.and_false,Bool.false_eq_true,if_false]
theorem oj{α β:Type}{x:Option α}{f:α->Option β}{r:β}(h:x.bind f=some r):∃a,x=some a/\f a=some r:=by
 cases x with
 |none=>cases h
 |some a=>exact⟨a,rfl,h⟩
theorem AA{v:Value}{n:Int}(h:pz v=some n):v=.int .i64 n:=by
 unfold pz at h
 split at h
 . cases h;rfl
 . cases h
theorem of_int{v:Value}{n:Int}(h:intOf v=some n):∃k,v=.int k n:=by
 unfold intOf at h
 split at h
 . cases h;exact⟨_,rfl⟩
 . cases h
theorem wg{v:Value}{a:Addr}(h:iL v=some a):v=.pointer (some a):=by
 unfold iL at h
 split at h
 . cases h;rfl
 . cases h
theorem aK.nf{ρ:ay}{k:IntKind}{n:Int}{v:Value}(h:aK ρ (.int k n) v):v=.int k n:=by cases h;rfl
theorem aK.pH{ρ:ay}{b:Bool}{v:Value}(h:aK ρ (.bool b) v):v=.bool b:=by cases h;rfl
theorem aK.pI{ρ:ay}{a:Addr}{v:Value}(h:aK ρ (.pointer (some a)) v):∃pl,ρ a.block=some pl/\v=.pointer (some ⟨pl.aW,pl.off+a.off,none⟩):=by cases h with|ptr h=>exact⟨_,h,rfl⟩
theorem wh(P:Program)(w:World)(t:TypeId)(cs:Array Value):(newRow t cs).run P w=.ok ⟨w.heap.size,0,none⟩ (World.add w (.cells cs t)):=rfl
theorem EC(P:Program)(w:World)(t:TypeId)(v:Value):(newVar t v).run P w=.ok ⟨w.heap.size,0,none⟩ (World.add w (.cells v.cells t)):=rfl
theorem ED(he:e.Ok){b id n:Nat}{ρ:ay}{h h':aa}{w:World}{t:Tr Value}{a:Array Value}{ds:List Deferred}(hg:Gl e ρ)(ht:kc ρ t n a)(x:bm ρ h w)
 {o:Oper} {ob:bK} {f:Nat->Value} (hA:cU e t o.op=some (ob,f)) (s:Slot b ρ h id ob h'):
 ∃v' w' ab,(execOp (Act.mk a ds).eval o).run e.P w=.ok (.value v') w'/\aK ab (f id) v'/\bm ab h' w'/\Fr b ρ h w ab h' w'/\∀j,j≠id->ab j=ρ j:=by
 obtain⟨dst,op,ty,pos,after,guard⟩:=o;cases op with
 |alloc elem=>
  simp only[cU]at hA;cases hz:e.zero elem with
  |none=>simp[hz]at hA
  |some z=>
   simp only[hz,Option.some.injEq,Prod.mk.injEq]at hA;obtain⟨rfl,rfl⟩:=hA;obtain⟨ab,pl,g1,g2,g3,_,_,_,g4,g5⟩:=ya x s (he.uv hz ρ) elem;refine⟨_,_,ab, ?_,we g1 g3,g4,g5⟩;simp only[execOp,Instr.alloc,Sem.run_bind,he.pF hz,Result.andThen_ok,EC,Sem.run_pure,g2]
 |box elem y=>
  simp only[cU]at hA;cases hy:au e t y with
  |none=>simp[hy]at hA
  |some v=>
   simp only[hy,Option.some.injEq,Prod.mk.injEq]at hA;obtain⟨rfl,rfl⟩:=hA;obtain⟨ab,pl,g1,g2,g3,_,_,_,g4,g5⟩:=ya x s (kM hg ht hy ds).cells elem;refine⟨_,_,ab, ?_,we g1 g3,g4,g5⟩;simp only[execOp,Instr.box,Sem.run_bind,Result.andThen_ok,EC,Sem.run_pure,g2]
 |buildSlice st len parts=>
  simp only[cU]at hA;cases hu:e.under st with
  |none=>simp[hu]at hA
  |some d=>
   cases d with
   |slice elem=>
    simp only[hu]at hA;cases hp:fM e t parts.toList with
    |none=>simp[hp]at hA
    |some ps=>
     simp only[hp]at hA;cases hs:e.size elem with
     |none=>simp[hs]at hA
     |some sz=>
      cases hz:e.zero elem with
      |none=>simp[hs,hz]at hA
      |some z=>
       simp only[hs,hz]at hA;obtain⟨hb,hA⟩:=ca hA;simp only[Bool.and_eq_true]at hb;obtain⟨⟨ae,ai⟩,af⟩:=hb;have ae:=Nat.le_of_ble_eq_true ae;have ai:=Nat.eq_of_beq_eq_true ai;have af:0<sz:=Nat.le_of_ble_eq_true af;cases hf:jg (λi=>some (i*sz,sz)) (fu z.cells.toList (len*sz)) ps with
       |none=>simp[hf]at hA
       |some cs=>
        simp only[hf,Option.some.injEq,Prod.mk.injEq]at hA;obtain⟨rfl,rfl⟩:=hA;have ad:=Aw hg ht ds hp;have ao:bJ ρ (fu z.cells.toList (len*sz)) (((Array.range (len*sz)).map ((if len*sz=0 then#[]else z.cells)[·%(if len*sz=0 then#[]else z.cells).size]!)).toList):=by
         by_cases h0:len*sz=0
         . simp only[h0,if_true];simpa[fu]using (aP.nil:bJ ρ [] [])
         . simp only[h0,if_false];have:=Az (he.uv hz ρ) (len*sz) (by omega);simpa using this
        obtain⟨cs',g6,g7⟩:=Ay (place':=λi=>some (i*sz,sz)) (ps':=(parts.map λ(i,y)=>(i,(Act.mk a ds).eval y)).toList) (λ_ _ h=>h) ao (by simpa using ad) hf;obtain⟨ab,pl,g1,g2,g3,aL,aM,aN,g4,g5⟩:=ya x s g7 elem;refine⟨_,_,ab, ?_,.sl (a:=⟨id,0,none⟩) (c:=⟨w.heap.size,0,none⟩) (k':=len) g1 (.inl ⟨by simp[g2,g3],.inl rfl⟩),g4,g5⟩;have hn:¬len*sz>2^24:=by omega
        simp only[execOp,Instr.buildSlice,Sem.run_bind,he.dA hu,Result.andThen_ok,he.iN hs,hn,if_false,Sem.run_pure];by_cases h0:len*sz=0
        . simp only[h0,if_true,Sem.run_pure,Result.andThen_ok]at g6⊢;simp only[g6,Sem.run_bind,wh,Result.andThen_ok,Sem.run_pure]
        . simp only[h0,if_false,Sem.run_bind,he.pF hz,Sem.run_pure,Result.andThen_ok]at g6⊢;simp only[g6,Sem.run_bind,wh,Result.andThen_ok,Sem.run_pure]
   |_=>simp[hu]at hA
 |makeMap mt r=>
  cases r with
  |some r=>simp[cU]at hA
  |none=>
   simp only[cU,Option.some.injEq,Prod.mk.injEq]at hA;obtain⟨rfl,rfl⟩:=hA;obtain⟨ab,pl,g1,g2,g3,g4,g5⟩:=yb x s (.map #[] 0) rfl rfl (λab w' pl _ h0 hw=>⟨h0,#[],hw,.nil⟩);refine⟨_,_,ab, ?_,aK.map g1,g4,g5⟩;rw[g2];rfl
 |makeSlice st l c=>
  simp only[cU]at hA;cases hu:e.under st with
  |none=>simp[hu]at hA
  |some d=>
   cases d with
   |slice elem=>
    cases hl:(au e t l).bind pz with
    |none=>simp[hu,hl]at hA
    |some lv=>
     cases hc:(au e t c).bind pz with
     |none=>simp[hu,hl,hc]at hA
     |some cv=>
      simp only[hu,hl,hc]at hA;obtain⟨aR,hl,av⟩:=oj hl;obtain⟨aS,hc,az⟩:=oj hc;have av:=AA av;subst av;have az:=AA az;subst az;cases hs:e.size elem with
      |none=>simp[hs]at hA
      |some sz=>
       cases hz:e.zero elem with
       |none=>simp[hs,hz]at hA
       |some z=>
        cases aB:e.bytes elem with
        |none=>simp[hs,hz,aB]at hA
        |some aF=>
         simp only[hs,hz,aB]at hA;obtain⟨hb,hA⟩:=ca hA;simp only[Bool.and_eq_true,decide_eq_true_eq]at hb;obtain⟨⟨⟨⟨⟨ae,ai⟩,af⟩,aD⟩,aI⟩,aJ⟩:=hb;have aD:=Nat.le_of_ble_eq_true aD;have aI:=Nat.eq_of_beq_eq_true aI;have aJ:0<sz:=Nat.le_of_ble_eq_true aJ;simp only[Option.some.injEq,Prod.mk.injEq]at hA;obtain⟨rfl,rfl⟩:=hA;have rl:aK ρ (.int .i64 lv) ((Act.mk a ds).eval l):=kM hg ht hl ds;have rc:aK ρ (.int .i64 cv) ((Act.mk a ds).eval c):=kM hg ht hc ds;have el:=rl.nf;have ec:=rc.nf;have ao:bJ ρ (fu z.cells.toList (cv.toNat*sz)) (((Array.range (cv.toNat*sz)).map ((if cv.toNat*sz=0 then#[]else z.cells)[·%(if cv.toNat*sz=0 then#[]else z.cells).size]!)).toList):=by
          by_cases h0:cv.toNat*sz=0
          . simp only[h0,if_true];simpa[fu]using (aP.nil:bJ ρ [] [])
          . simp only[h0,if_false];have:=Az (he.uv hz ρ) (cv.toNat*sz) (by omega);simpa using this
         obtain⟨ab,pl,g1,g2,g3,aL,aM,aN,g4,g5⟩:=ya x s ao elem;refine⟨_,_,ab, ?_,.sl (a:=⟨id,0,none⟩) (c:=⟨w.heap.size,0,none⟩) (k':=cv.toNat) g1 (.inl ⟨by simp[g2,g3],.inl rfl⟩),g4,g5⟩;obtain⟨i,aO,dS⟩:=he.Me aB w;have w1:IntKind.i64.wrap lv=lv:=wrap_small ae (by omega);have w2:IntKind.i64.wrap cv=cv:=wrap_small (by omega) af;have aQ:(cv.toNat:Int)=cv:=Int.toNat_of_nonneg (by omega);have aE:¬((aF:Int)*cv>2^48):=by
          have:=Int.ofNat_le.2 aD;rw[Int.natCast_mul,aQ]at this;omega
         have c1:decide (cv<0)=false:=by simp;omega
         have c2:decide ((aF:Int)*cv>2^48)=false:=by simpa using aE
         have c3:decide (lv<0)=false:=by simp;omega
         have c4:decide (lv>cv)=false:=by simp;omega
         simp only[execOp,Instr.makeSlice,Sem.run_bind,he.dA hu,Result.andThen_ok,el,ec,asInt,asIntOf,Sem.run_pure,aO,dS,w1,w2,c1,c2,c3,c4,Bool.or_false,Bool.false_eq_true,if_false,run_askRoom,he.iN hs];by_cases h0:cv.toNat*sz=0
         . simp only[h0,if_true,Sem.run_pure,Result.andThen_ok,Sem.run_bind,wh]
         . simp only[h0,if_false,Sem.run_bind,he.pF hz,Sem.run_pure,Result.andThen_ok,wh]
   |_=>simp[hu]at hA
 |_=>simp[cU]at hA
end Go.aw
end

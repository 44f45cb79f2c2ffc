/- SpacingIndependent: parts of its proof. -/
import Derived.Test.YtmhjnafgdhaemaaGreatDoorK02
open Option.some renaming injEq->qe
open Nat renaming le_of_ble_eq_true->xS,eq_of_beq_eq_true->DE
open Bool renaming and_eq_true->Er,false_eq_true->TF
open Array renaming length_toList->GP,range->VK,getElem?_eq_some_iff->W2
open Prod.mk renaming injEq->PO
open List renaming getElem?_take->PX,getElem?_drop->Qc,length_append->W9,length_take->Xw,length_drop->Zj,size_toArray->Zr,drop_zero->ZJ,getElem?_map->ZL,getElem?_range->Z4,getElem?_eq_getElem->ab8
open Option renaming map_some->abR
set_option linter.all false
set_option maxRecDepth 100000
noncomputable section
namespace Go.au
theorem bU{α:Type}{b:Bool}{x:Option α}{r:α}(h:(bif b then x else none)=some r):b=true/\x=some r:=by
 cases b with
 |true=>exact⟨rfl,h⟩
 |false=>cases h
theorem ug{α:Type}(P:Program):∀(s:Sem α) (a:α),bQ P s=some a->∀w,s.run P w=.ok a w
 |.pure a,b,h,w=>by simp only[bQ,qe]at h;subst h;rfl
 |.program k,b,h,w=>ug P (k P) b h w
 |.load _ _ _,_,h,_|.store _ _ _ _,_,h,_|.new _ _,_,h,_|.shape _ _,_,h,_|.freeze _ _ _,_,h,_|.frozen _ _,_,h,_|.getObj _ _,_,h,_|.setObj _ _ _,_,h,_
 |.choose _ _,_,h,_|.sys _ _,_,h,_|.mark _ _,_,h,_|.halt _,_,h,_=>by simp[bQ]at h
structure Env.Ok(e:Env):Prop where
 under:∀t d,e.under t=some d->e.P.underlying t=some d
 size:∀t n,e.size t=some n->∃i,e.P.info? t=some i/\i.size=n
 bytes:∀t n,e.bytes t=some n->∃i,e.P.info? t=some i/\i.bytes=n
 zero:∀t z,e.zero t=some z->∃i,e.P.info? t=some i/\i.zero=some z/\plain z=true
 fields:∀t fs,e.under t=some (.struct fs)->∀f∈fs.toList,∃n,e.size f.type=some n
 fn:∀f fn,e.fn f=some fn->e.P.funcs[f]? =some fn/\∀args w,(callFunc f args).run e.P w=.ok (.enter f args) w
def Gl(e:Env)(ρ:aA):Prop:=(∀g,g<e.n8->∃pl,ρ g=some pl/\pl.aV=g/\pl.off=0)/\∀p∈e.pins,ρ p.1=some p.2
theorem Gl.mono{e:Env}{ρ af:aA}(hx:Ext ρ af)(h:Gl e ρ):Gl e af:=⟨λg hg=>let⟨pl,h1,h2⟩:=h.1 g hg;⟨pl,hx _ _ h1,h2⟩,λp hp=>hx _ _ (h.2 p hp)⟩
section runs
variable {P:Program} {w:World}
theorem run_underlying{t:TypeId}{d:TypeDesc}(h:P.underlying t=some d):(underlying t).run P w=.ok d w:=by simp[underlying,h]
theorem run_typeInfo{t:TypeId}{i:TypeInfo}(h:P.info? t=some i):(typeInfo t).run P w=.ok i w:=by simp[typeInfo,h]
theorem run_sizeOf{t:TypeId}{i:TypeInfo}{n:Nat}(h:P.info? t=some i/\i.size=n):(sizeOf t).run P w=.ok n w:=by simp[sizeOf,run_typeInfo h.1,h.2]
theorem KU{t:TypeId}{i:TypeInfo}{z:Value}(h:P.info? t=some i)(hz:i.zero=some z):(zeroValue t).run P w=.ok z w:=by simp[zeroValue,run_typeInfo h,hz]
theorem KW{t:TypeId}{d:TypeDesc}(h:P.underlying t=some d):(isAgg t).run P w=.ok (jz d) w:=by
 cases d<;>simp[isAgg,run_underlying h,jz]
end runs
variable {e:Env}
theorem Env.Ok.c8(he:e.Ok){t:TypeId}{d:TypeDesc}(h:e.under t=some d)(w:World):(underlying t).run e.P w=.ok d w:=run_underlying (he.under t d h)
theorem Env.Ok.gZ(he:e.Ok){t:TypeId}{n:Nat}(h:e.size t=some n)(w:World):(sizeOf t).run e.P w=.ok n w:=let⟨_,h1⟩:=he.size t n h;run_sizeOf h1
theorem Env.Ok.oi(he:e.Ok){t:TypeId}{z:Value}(h:e.zero t=some z)(w:World):(zeroValue t).run e.P w=.ok z w:=let⟨_,h1,h2,_⟩:=he.zero t z h;KU h1 h2
theorem Env.Ok.wq(he:e.Ok){t:TypeId}{d:TypeDesc}(h:e.under t=some d)(w:World):(isAgg t).run e.P w=.ok (jz d) w:=KW (he.under t d h)
theorem Env.Ok.KX(he:e.Ok){t:TypeId}{n:Nat}(h:e.bytes t=some n)(w:World):∃i,(typeInfo t).run e.P w=.ok i w/\i.bytes=n:=let⟨i,h1,h2⟩:=he.bytes t n h;⟨i,run_typeInfo h1,h2⟩
theorem j5{ρ:aA}{t:Tr Value}{n:Nat}{a:Array Value}(hg:Gl e ρ)(ht:jC ρ t n a){o:Operand}{v:Value}(h:aw e t o=some v)(ds:List Deferred):
 aJ ρ v ((Act.mk a ds).eval o):=by
 cases o with
 |tmp i=>exact(ht.2 i v h).2
 |const x=>
  simp only[aw]at h;cases hp:plain x<;>simp[hp]at h;subst h;exact m9 hp
 |global g=>
  simp only[aw]at h;cases hp:Nat.blt g e.n8<;>simp[hp]at h;subst h;obtain⟨pl,h1,h2,h3⟩:=hg.1 g (xS hp);have:=aJ.ptr (ρ:=ρ) (a:=⟨g,0,none⟩) h1;rw[h2,h3]at this;exact this
 |func f=>
  simp only[aw,qe]at h;subst h;exact .func (.func f) rfl (λi v v' h=>by simp at h) rfl (λi v v' h=>by simp at h)
theorem uh{ρ:aA}{t:Tr Value}{n:Nat}{a:Array Value}(hg:Gl e ρ)(ht:jC ρ t n a)(ds:List Deferred):∀{os:List Operand} {vs:List Value},cR e t os=some vs->
 bE ρ vs (os.map (Act.mk a ds).eval)
 |[],vs,h=>by simp only[cR,qe]at h;subst h;exact .nil
 |o::os,vs,h=>by
  simp only[cR]at h;cases h1:aw e t o with
  |none=>simp[h1]at h
  |some v=>
   cases h2:cR e t os with
   |none=>simp[h1,h2]at h
   |some xs=>
    simp only[h1,h2,qe]at h;subst h;exact .cons (j5 hg ht h1 ds) (uh hg ht ds h2)
inductive sw(ρ:aA):List (Nat×Value)->List (Nat×Value)->Prop
 |nil:sw ρ [] []
 |cons {i:Nat} {v v':Value} {x y:List (Nat×Value)}:aJ ρ v v'->sw ρ x y->sw ρ ((i,v)::x) ((i,v')::y)
theorem yY{ρ:aA}{t:Tr Value}{n:Nat}{a:Array Value}(hg:Gl e ρ)(ht:jC ρ t n a)(ds:List Deferred):∀{os:List (Nat×Operand)} {vs:List (Nat×Value)},eY e t os=some vs->
 sw ρ vs (os.map λp=>(p.1,(Act.mk a ds).eval p.2))
 |[],vs,h=>by simp only[eY,qe]at h;subst h;exact .nil
 |(i,o)::os,vs,h=>by
  simp only[eY]at h;cases h1:aw e t o with
  |none=>simp[h1]at h
  |some v=>
   cases h2:eY e t os with
   |none=>simp[h1,h2]at h
   |some xs=>
    simp only[h1,h2,qe]at h;subst h;exact .cons (j5 hg ht h1 ds) (yY hg ht ds h2)
theorem oj(b o j:Nat):(⟨b,o,none⟩:Addr).add j=⟨b,o+j,none⟩:=by unfold Addr.add;split<;>simp_all
theorem Addr.sx(a:Addr)(n:Nat):(a.add n).block=a.block:=by unfold Addr.add;split<;>rfl
theorem Addr.qO(a:Addr)(n:Nat):(a.add n).off=a.off+n:=by unfold Addr.add;split<;>simp_all
theorem sy{ρ:aA}{h:aa}{w:World}(x:bh ρ h w){a:Addr}{pl:Pl}(hp:ρ a.block=some pl){n:Nat}{cs:List Value}(hr:fF h a n=some cs):
 ∃cs',bE ρ cs cs'/\cs'.length=n/\∀(j:Nat) (v:Value),cs'[j]? =some v->w.cell? ((⟨pl.aV,pl.off+a.off,none⟩:Addr).add j)=some v:=by
 unfold fF at hr;cases ho:h.get a.block with
 |none=>simp[ho]at hr
 |some o=>
  cases o with
  |row rs wr ah=>
   simp only[ho]at hr;obtain⟨hl,hr⟩:=bU hr
   . cases hr;obtain⟨pl',g1,c,el,fz,g2,g3,g4,g5,g6,g7,g8,g9⟩:=x.obj _ _ ho;rw[hp]at g1;cases g1;refine⟨(((c.toList.drop pl.off).take pl.n).drop a.off).take n,(g9.1.drop a.off).take n, ?_, ?_⟩
     . rw[<-((g9.1.drop a.off).take n).length];exact DE hl
     . intro j v hv;rw[oj];have hj:j<n:=by
        rcases Nat.lt_or_ge j n with h|h
        . exact h
        . rw[PX,if_neg (by omega)]at hv;cases hv
       rw[PX,if_pos hj,Qc,PX]at hv
       split at hv
       . rw[Qc]at hv;simp only[World.cell?,g2,Option.isSome_none,TF,if_false];rw[<-hv,<-Array.getElem?_toList];congr 1;omega
       . cases hv
  |_=>simp[ho]at hr
theorem C9(he:e.Ok){ρ:aA}{h:aa}{w:World}(x:bh ρ h w){a:Addr}{pl:Pl}(hp:ρ a.block=some pl){t:TypeId}{v:Value}(hr:gV e h t a=some v):
 ∃v',(loadVar t ⟨pl.aV,pl.off+a.off,none⟩).run e.P w=.ok v' w/\aJ ρ v v':=by
 unfold gV at hr;cases hd:e.under t with
 |none=>simp[hd]at hr
 |some d=>
  simp only[hd]at hr;cases ha:jz d with
  |true=>
   simp only[ha,cond_true]at hr;cases hs:e.size t with
   |none=>simp[hs]at hr
   |some n=>
    simp only[hs]at hr;cases hc:fF h a n with
    |none=>simp[hc]at hr
    |some cs=>
     simp only[hc,qe]at hr;subst hr;obtain⟨cs',g1,g2,g3⟩:=sy x hp hc;refine⟨.agg cs'.toArray, ?_,aJ.wm (by simpa using g1)⟩;have:=run_loadCells_list (P:=e.P) w ⟨pl.aV,pl.off+a.off,none⟩ cs' g3;rw[g2]at this;simp[loadVar,he.wq hd,ha,he.gZ hs,this]
  |false=>
   simp only[ha,cond_false]at hr;cases hc:fF h a 1 with
   |none=>simp[hc]at hr
   |some cs=>
    obtain⟨cs',g1,g2,g3⟩:=sy x hp hc
    match cs,hc,hr,g1 with
    |[u],hc,hr,g1=>
     simp only[hc,qe]at hr;subst hr
     match cs',g1 with
     |[u'],.cons g1 _=>
      have:=g3 0 u' rfl;refine⟨u', ?_,g1⟩;have hz:(⟨pl.aV,pl.off+a.off,none⟩:Addr).add 0=⟨pl.aV,pl.off+a.off,none⟩:=by simp[Addr.add]
      rw[hz]at this;simp[loadVar,he.wq hd,ha,this]
    |[],hc,hr,_=>simp[hc]at hr
    |_::_::_,hc,hr,_=>simp[hc]at hr
theorem aJ.dw{ρ:aA}{v v':Value}(h:aJ ρ v v'):dw v'=dw v:=by cases h<;>rfl
theorem KY(v:Value):v.oneCell'=dw v:=by cases v<;>rfl
theorem bE.dw{ρ:aA}{x y:List Value}(h:bE ρ x y)(hx:x.all dw=true):∀v∈y,v.oneCell'=true:=by
 induction h with
 |nil=>intro v hv;cases hv
 |cons h _ ih=>
  simp only[List.all_cons,Er]at hx;intro v hv;cases hv with
  |head=>rw[KY,h.dw];exact hx.1
  |tail _ hv=>exact ih hx.2 v hv
theorem Da(w:World)(g:Nat)(cur:Array Value)(el:TypeId)(fz:Nat×Nat)(new:Array Value)(hg:w.heap[g]? =some (.cells cur el fz)):
 w.setRow g new=World.fO w g (.cells new el fz):=by
 obtain⟨ad,hv⟩:=W2.1 hg;unfold World.setRow World.fO;congr 1;apply Array.ext_getElem?;intro i;rw[Array.getElem?_modify,Array.getElem?_setIfInBounds];by_cases h:g=i
 . subst h;rw[if_pos rfl,if_pos rfl,if_pos ad,hg];rfl
 . rw[if_neg h,if_neg h]
theorem Db(cs:List Value)(off:Nat)(vs:List Value)(h:off+vs.length<=cs.length):(dN cs off vs).length=cs.length:=by
 unfold dN;simp;omega
theorem aO.dN{ρ:aA}{cs cs' vs ab:List Value}(h:bE ρ cs cs')(hv:bE ρ vs ab)(off:Nat):bE ρ (dN cs off vs) (dN cs' off ab):=by
 unfold Go.au.dN;rw[hv.length];exact((h.take off).append hv).append (h.drop _)
theorem Dc(c:List Value)(o n k:Nat)(vs:List Value)(h:k+vs.length<=n)(hc:o+n<=c.length):
 ((c.take (o+k)++vs++c.drop (o+k+vs.length)).drop o).take n=dN ((c.drop o).take n) k vs:=by
 unfold dN;apply List.ext_getElem?;intro i;simp only[PX,Qc,List.getElem?_append,W9,Xw,Zj];have h1:min (o+k) c.length=o+k:=by omega
 have h2:min k (min n (c.length-o))=k:=by omega
 rw[h1,h2];by_cases hi:i<n
 . simp only[hi,if_true];by_cases hk:i<k
   . have e1:o+i<o+k+vs.length:=by omega
     have e2:o+i<o+k:=by omega
     have e3:i<k+vs.length:=by omega
     simp[hk,e1,e2,e3]
   . by_cases hv:i<k+vs.length
     . have e1:o+i<o+k+vs.length:=by omega
       have e2:¬o+i<o+k:=by omega
       simp only[e1,e2,hk,hv,if_true,if_false];congr 1;omega
     . have e1:¬o+i<o+k+vs.length:=by omega
       simp only[e1,hv,if_false];have e4:k+vs.length+(i-(k+vs.length))<n:=by omega
       rw[if_pos e4];congr 1;omega
 . simp only[hi,if_false];have hk:¬i<k:=by omega
   have hv:¬i<k+vs.length:=by omega
   simp only[hk,hv,if_false];have e4:¬k+vs.length+(i-(k+vs.length))<n:=by omega
   rw[if_neg e4]
theorem yZ(P:Program){b:Nat}{ρ:aA}{h h':aa}{w:World}(x:bh ρ h w){a:Addr}{pl:Pl}(hp:ρ a.block=some pl){vs ab:List Value}(hv:bE ρ vs ab)(hr:ly h a vs=some h'):
 ∃w',(storeCells ⟨pl.aV,pl.off+a.off,none⟩ ab).run P w=.ok () w'/\bh ρ h' w'/\Fr b ρ h w ρ h' w':=by
 unfold ly at hr
 match vs,ab,hv with
 |[],[],_=>
  simp only[qe]at hr;subst hr;exact⟨w,rfl,x,Fr.refl _ _ _ _⟩
 |u::us,u'::ae,hv=>
  simp only at hr;cases ho:h.get a.block with
  |none=>simp[ho]at hr
  |some o=>
   cases o with
   |row rs wr ah=>
    cases wr with
    |false=>simp[ho]at hr
    |true=>
     simp only[ho]at hr;obtain⟨hb,hr⟩:=bU hr
     . cases hr;rw[Er]at hb;have hle:a.off+(u::us).length<=rs.length:=xS hb.1;obtain⟨pl',g1,c,el,fz,g2,g3,g4,g5,g6,g7,g8,g9⟩:=x.obj _ _ ho;rw[hp]at g1;cases g1;have ao:=g3 rfl;subst ao;have hl:=hv.length;have ai:=run_storeCells_at (P:=P) pl.aV (pl.off+a.off) el (u'::ae) 0 c w g2 (by rw[<-hl];omega) (hv.dw hb.2);rw[Da w pl.aV c el (0,0) _ g2]at ai;refine⟨_,ai, ?_⟩;refine qN x ho rfl hp rfl ?_ rfl;have ad:pl.aV<w.heap.size:=(W2.1 g2).1;have av:(u'::ae).length=(u::us).length:=hl.symm;refine⟨_,el,(0,0),oh w _ _ ad,λ_=>rfl, ?_,g5,g6, ?_,g8, ?_,λe0=>by
        have h0:=congrArg List.length e0;rw[Db _ _ _ hle,List.length_nil]at h0;simp only[List.length_cons]at hle;omega⟩
       . rw[Db _ _ _ hle];exact g4
       . simp only[Zr,W9,Xw,Zj,GP];omega
       . simp only[Nat.add_zero];rw[Dc c.toList pl.off pl.n a.off (u'::ae) (by omega) (by simp;omega)];exact aO.dN g9.1 hv _
   |_=>simp[ho]at hr
theorem aJ.cells{ρ:aA}{v v':Value}(h:aJ ρ v v'):bE ρ v.cells.toList v'.cells.toList:=by
 cases h with
 |agg h1 h2=>exact qL h1 h2
 |bool b=>exact .cons (.bool b) .nil
 |int k n=>exact .cons (.int k n) .nil
 |string s=>exact .cons (.string s) .nil
 |qK=>exact .cons .qK .nil
 |ptr h=>exact .cons (.ptr h) .nil
 |jZ l k=>exact .cons (.jZ l k) .nil
 |sl h hs=>exact .cons (.sl h hs) .nil
 |og=>exact .cons .og .nil
 |map h=>exact .cons (.map h) .nil
 |func hf h1 h2 h3 h4=>exact .cons (.func hf h1 h2 h3 h4) .nil
 |nilFunc=>exact .cons .nilFunc .nil
 |iface h=>exact .cons (.iface h) .nil
 |nilIface=>exact .cons .nilIface .nil
 |tuple h1 h2=>exact .cons (.tuple h1 h2) .nil
theorem KZ(he:e.Ok){b:Nat}{ρ:aA}{h h':aa}{w:World}(x:bh ρ h w){a:Addr}{pl:Pl}(hp:ρ a.block=some pl){t:TypeId}{v v':Value}(hv:aJ ρ v v')(hr:n9 e h t a v=some h'):
 ∃w',(storeVar t ⟨pl.aV,pl.off+a.off,none⟩ v').run e.P w=.ok () w'/\bh ρ h' w'/\Fr b ρ h w ρ h' w':=by
 unfold n9 at hr;cases hs:e.size t with
 |none=>simp[hs]at hr
 |some n=>
  simp only[hs]at hr;obtain⟨hb,hr⟩:=bU hr
  . obtain⟨w',g1,g2⟩:=yZ e.P x hp hv.cells hr;refine⟨w', ?_,g2⟩;have hl:=hv.cells.length;have hn:=DE hb;have:v'.cells.size=n:=by rw[<-GP,<-hl];exact hn
    simp[storeVar,he.gZ hs,this,g1]
end Go.au
end
noncomputable section
namespace Go.au
variable {e:Env}
theorem K0(vs:List Value):∀(off k:Nat) (cs:Array Value),off+k+vs.length<=cs.size->
 ((vs.zipIdx k).foldl (λcs (p:Value×Nat)=>cs.setIfInBounds (off+p.2) p.1) cs).toList=dN cs.toList (off+k) vs:=by
 induction vs with
 |nil=>
  intro off k cs h;simp[dN]
 |cons v vs ih=>
  intro off k cs h;simp only[List.zipIdx_cons,List.foldl_cons];have:=ih off (k+1) (cs.setIfInBounds (off+k) v) (by simp at h⊢;omega);rw[this];have e:=list_seg_step cs.toList (off+k) v vs (by simp at h⊢;omega);unfold dN;simpa[Array.toList_setIfInBounds,Nat.add_assoc,Nat.add_comm 1 vs.length]using e
theorem y5{ρ:aA}{place place':Nat->Option (Nat×Nat)}(af:∀i x,place i=some x->place' i=some x):∀{cells:List Value} {ps ps':List (Nat×Value)} {cells':Array Value} {cs:List Value},
 bE ρ cells cells'.toList->sw ρ ps ps'->iv place cells ps=some cs->∃cs':Array Value,Instr.fill place' cells' ps'=some cs'/\bE ρ cs cs'.toList:=by
 intro cells ps ps' cells' cs hc hp
 induction hp generalizing cells cells' with
 |nil=>
  intro h;simp only[iv,qe]at h;subst h;exact⟨cells',rfl,hc⟩
 | @cons i v v' x y hv _ ih=>
  intro h;simp only[iv]at h;cases hi:place i with
  |none=>simp[hi]at h
  |some p=>
   obtain⟨off,size⟩:=p;simp only[hi]at h;obtain⟨hb,h⟩:=bU h;rw[Er]at hb;have hl:=hv.cells.length;have h1:v.cells.toList.length=size:=DE hb.1;have h2:off+size<=cells.length:=xS hb.2;have h3:cells.length=cells'.size:=by simpa using hc.length
   have h4:v'.cells.size=size:=by rw[<-GP,<-hl];exact h1
   have hf:=K0 v'.cells.toList off 0 cells' (by simp only[GP];omega);simp only[Nat.add_zero]at hf;have hz:v'.cells.zipIdx.foldl (λcs (p:Value×Nat)=>cs.setIfInBounds (off+p.2) p.1) cells'=(v'.cells.toList.zipIdx.foldl (λcs (p:Value×Nat)=>cs.setIfInBounds (off+p.2) p.1) cells'):=by
    rw[<-Array.foldl_toList,Array.toList_zipIdx]
   obtain⟨cs',g1,g2⟩:=ih (cells:=dN cells off v.cells.toList) (cells':=v'.cells.zipIdx.foldl (λcs (p:Value×Nat)=>cs.setIfInBounds (off+p.2) p.1) cells') (by
    rw[hz,hf];exact aO.dN hc hv.cells off) h
   refine⟨cs', ?_,g2⟩;rw[Instr.fill,af i _ hi];have ae:((v'.cells.size !=size)||decide (off+v'.cells.size>cells'.size))=false:=by
    simp[h4];omega
   simp only[ne_eq,h4,not_true_eq_false,decide_false,Bool.false_or];rw[if_neg (by simp;omega)];exact g1
theorem K2(he:e.Ok){fs:Array Field}(hf:∀f∈fs.toList,∃n,e.size f.type=some n)(w:World):
 ∃places:Array (Nat×Nat),(fs.mapM (λ(f:Field)=>(do pure (f.offset,<-sizeOf f.type):Sem (Nat×Nat)))).run e.P w=.ok places w/\∀i x,jW e fs i=some x->places[i]? =some x:=by
 have key:∀(l:List Field),(∀f∈l,∃n,e.size f.type=some n)->∃ps:List (Nat×Nat),(l.mapM (λ(f:Field)=>(do pure (f.offset,<-sizeOf f.type):Sem (Nat×Nat)))).run e.P w=.ok ps w/\
  ∀(i:Nat) (f:Field) (s:Nat),l[i]? =some f->e.size f.type=some s->ps[i]? =some (f.offset,s):=by
  intro l
  induction l with
  |nil=>intro _;exact⟨[],rfl,λi f s h=>by simp at h⟩
  |cons f l ih=>
   intro h;obtain⟨n,hn⟩:=h f (by simp);obtain⟨ps,h1,h2⟩:=ih λg hg=>h g (by simp[hg]);refine⟨(f.offset,n)::ps,by simp only[List.mapM_cons,Sem.run_bind,he.gZ hn,Result.andThen_ok,Sem.run_pure,h1],λi g s hi hs=> ?_⟩;cases i with
   |zero=>simp at hi;subst hi;rw[hn]at hs;cases hs;rfl
   |succ i=>simpa using h2 i g s (by simpa using hi) hs
 obtain⟨ps,h1,h2⟩:=key fs.toList hf;refine⟨ps.toArray, ?_,λi x hx=> ?_⟩
 . rw[Array.mapM_eq_mapM_toList,Sem.run_map,h1];rfl
 . unfold jW at hx;cases hi:fs[i]? with
   |none=>simp[hi]at hx
   |some f=>
    simp only[hi]at hx;cases hs:e.size f.type with
    |none=>simp[hs]at hx
    |some s=>
     simp only[hs,qe]at hx;subst hx;simpa using h2 i f s (by simpa using hi) hs
theorem Env.Ok.sA(he:e.Ok){t:TypeId}{z:Value}(h:e.zero t=some z)(ρ:aA):bE ρ z.cells.toList z.cells.toList:=
 let⟨_,_,_,hp⟩:=he.zero t z h;(m9 hp).cells
theorem K3(he:e.Ok){ρ:aA}(w:World){t:TypeId}{ps:List (Nat×Value)}{ps':Array (Nat×Value)}{v:Value}(hp:sw ρ ps ps'.toList)(h:pt e t ps=some v):
 ∃v',(Instr.build t ps').run e.P w=.ok v' w/\aJ ρ v v':=by
 unfold pt at h;cases hz:e.zero t with
 |none=>simp[hz]at h
 |some z=>
  cases hu:e.under t with
  |none=>simp[hz,hu]at h
  |some d=>
   cases d with
   |struct fields=>
    simp only[hz,hu]at h;cases hf:iv (jW e fields) z.cells.toList ps with
    |none=>simp[hf]at h
    |some cs=>
     simp only[hf,qe]at h;subst h;obtain⟨places,g1,g2⟩:=K2 he (he.fields t fields hu) w;obtain⟨cs',g3,g4⟩:=y5 (place':=(places[·]?)) g2 (he.sA hz ρ) hp hf;refine⟨.agg cs', ?_,aJ.wm g4⟩;simp only[Instr.build,Sem.run_bind,he.oi hz,Result.andThen_ok,he.c8 hu,g1,g3,Sem.run_pure]
   |array n elem=>
    simp only[hz,hu]at h;cases hs:e.size elem with
    |none=>simp[hs]at h
    |some s=>
     simp only[hs]at h;cases hf:iv (λi=>some (i*s,s)) z.cells.toList ps with
     |none=>simp[hf]at h
     |some cs=>
      simp only[hf,qe]at h;subst h;obtain⟨cs',g3,g4⟩:=y5 (place':=λi=>some (i*s,s)) (λ_ _ h=>h) (he.sA hz ρ) hp hf;refine⟨.agg cs', ?_,aJ.wm g4⟩;simp only[Instr.build,Sem.run_bind,he.oi hz,Result.andThen_ok,he.c8 hu,he.gZ hs,g3,Sem.run_pure]
   |_=>simp[hz,hu]at h
theorem Dd(he:e.Ok){ρ:aA}(w:World){t:TypeId}{cs:List Value}{cs':Array Value}{off:Nat}{v:Value}(hc:bE ρ cs cs'.toList)(h:mW e t cs off=some v):
 ∃v',(part t cs' off).run e.P w=.ok v' w/\aJ ρ v v':=by
 unfold mW at h;cases hd:e.under t with
 |none=>simp[hd]at h
 |some d=>
  simp only[hd]at h;cases ha:jz d with
  |true=>
   simp only[ha,cond_true]at h;cases hs:e.size t with
   |none=>simp[hs]at h
   |some n=>
    simp only[hs,qe]at h;subst h;refine⟨.agg (cs'.extract off (off+n)), ?_,aJ.wm ?_⟩
    . simp[part,he.wq hd,ha,he.gZ hs]
    . have:=(hc.drop off).take n;simpa[Array.toList_extract,List.extract_eq_take_drop]using this
  |false=>
   simp only[ha,cond_false]at h;obtain⟨v',g1,g2⟩:=hc.get off v h;refine⟨v', ?_,g2⟩;have:cs'[off]? =some v':=by simpa using g1
   simp[part,he.wq hd,ha,this]
theorem ui{ρ:aA}{i:Nat}{pl:Pl}(h:ρ i=some pl)(h0:pl.off=0):aJ ρ (.pointer (some ⟨i,0,none⟩)) (.pointer (some ⟨pl.aV,0,none⟩)):=by
 have:=aJ.ptr (ρ:=ρ) (a:=⟨i,0,none⟩) h;rw[h0]at this;exact this
theorem wu{b id:Nat}{ρ:aA}{h h':aa}{w:World}{cs:List Value}(x:bh ρ h w)(s:Slot b ρ h id (.row cs true 0) h'){cs':Array Value}(hv:bE ρ cs cs'.toList)(el:TypeId):
 ∃ab pl,ab id=some pl/\pl.aV=w.heap.size/\pl.off=0/\pl.n=cs.length/\pl.cap=cs.length/\pl.ah=0/\bh ab h' (World.add w (.cells cs' el))/\
  Fr b ρ h w ab h' (World.add w (.cells cs' el))/\∀j,j≠id->ab j=ρ j:=by
 let pl:Pl:={aV:=w.heap.size,off:=0,n:=cs.length,cap:=cs.length,ah:=0}
 have hl:cs.length=cs'.size:=by simpa using hv.length
 have hx:Ext ρ (ρ.put id pl):=aA.qM pl s.free;have hr:gY (ρ.put id pl) (World.add w (.cells cs' el)) pl (.row cs true 0):=by
  refine⟨cs',el,(0,0),wo _ _,λ_=>rfl,rfl,rfl,Nat.le_refl _, ?_,λ_=>rfl, ?_,λ_=>trivial⟩
  . show 0+cs.length<=cs'.size;omega
  . show bE _ cs ((cs'.toList.drop 0).take cs.length);rw[hv.length,ZJ,List.take_length];exact hv.mono hx
 obtain⟨g1,g2⟩:=yX x s (o:=.cells cs' el) rfl rfl hr rfl;exact⟨_,pl,aA.kE _ _ _,rfl,rfl,rfl,rfl,rfl,g1,g2,λ_ h=>aA.jD _ _ h⟩
theorem K4{b id:Nat}{ρ:aA}{h h':aa}{w:World}{cs:List Value}{s:Nat}(x:bh ρ h w)(sl:Slot b ρ h id (.row cs true s) h'){cs' rest:Array Value}(hv:bE ρ cs cs'.toList)(el:TypeId)(hs:0<s):
 ∃ab pl,ab id=some pl/\pl.aV=w.heap.size/\pl.off=0/\pl.n=cs.length/\pl.cap=cs.length+rest.size/\pl.ah=s/\bh ab h' (World.add w (.cells (cs'++rest) el))/\
  Fr b ρ h w ab h' (World.add w (.cells (cs'++rest) el)):=by
 let pl:Pl:={aV:=w.heap.size,off:=0,n:=cs.length,cap:=cs.length+rest.size,ah:=s}
 have hl:cs.length=cs'.size:=by simpa using hv.length
 have hx:Ext ρ (ρ.put id pl):=aA.qM pl sl.free;have hr:gY (ρ.put id pl) (World.add w (.cells (cs'++rest) el)) pl (.row cs true s):=by
  refine⟨cs'++rest,el,(0,0),wo _ _,λ_=>rfl,rfl,rfl, ?_, ?_,λh=>absurd h (Nat.ne_of_gt hs), ?_,λ_=>trivial⟩
  . show cs.length<=cs.length+rest.size;omega
  . show 0+(cs.length+rest.size)<=(cs'++rest).size;simp;omega
  . show bE _ cs (((cs'++rest).toList.drop 0).take cs.length);rw[ZJ,Array.toList_append,hl,<-GP,List.take_left];exact hv.mono hx
 obtain⟨g1,g2⟩:=yX x sl (o:=.cells (cs'++rest) el) rfl rfl hr rfl;exact⟨_,pl,aA.kE _ _ _,rfl,rfl,rfl,rfl,rfl,g1,g2⟩
theorem wv{b id:Nat}{ρ:aA}{h h':aa}{w:World}{ao:bF}(x:bh ρ h w)(s:Slot b ρ h id ao h')(o:Obj)(hu:Obj.kF o=true)(hw:ao.wr=true)
 (hr:∀(ab:aA) (w':World) (pl:Pl),Ext ρ ab->pl.off=0->w'.heap[pl.aV]? =some o->gY ab w' pl ao):
 ∃ab pl,ab id=some pl/\pl.aV=w.heap.size/\pl.off=0/\bh ab h' (World.add w o)/\Fr b ρ h w ab h' (World.add w o)/\∀j,j≠id->ab j=ρ j:=by
 let pl:Pl:={aV:=w.heap.size,off:=0,n:=0,cap:=0,ah:=0}
 obtain⟨g1,g2⟩:=yX (pl:=pl) x s hu rfl (hr _ _ pl (aA.qM pl s.free) rfl (wo _ _)) hw;exact⟨_,pl,aA.kE _ _ _,rfl,rfl,g1,g2,λ_ h=>aA.jD _ _ h⟩
theorem y6{ρ:aA}{zs ad:List Value}(hz:bE ρ zs ad)(n:Nat)(h0:0<zs.length):bE ρ (eN zs n) (((VK n).map (ad.toArray[·%ad.toArray.size]!)).toList):=by
 refine aO.qJ (by simp[eN]) λi a b ha hb=> ?_;have hi:i<n:=by
  rcases Nat.lt_or_ge i n with h|h
  . exact h
  . rw[eN,List.getElem?_eq_none (by simpa using h)]at ha;cases ha
 have hl:=hz.length;have hm:i%zs.length<zs.length:=Nat.mod_lt _ h0;simp only[eN,ZL,Z4 hi,abR,qe]at ha;rw[ab8 hm,Option.getD_some]at ha;subst ha;simp only[Array.toList_map,Array.toList_range,ZL,Z4 hi,abR,qe]at hb;obtain⟨u,g1,g2⟩:=hz.get (i%zs.length) _ (ab8 hm);have:ad.toArray[i%ad.toArray.size]! =u:=by
  rw[Zr,<-hl];simp only[getElem!_def];rw[List.getElem?_toArray,g1]
 rw[<-hb,this];exact g2
end Go.au
end
noncomputable section
namespace Go.au
variable {e:Env}
def gm(b:Nat)(P:Program)(ρ:aA)(h:aa)(w:World)(s:Sem Value)(v:Value)(h':aa):Prop:=
 ∃v' w' ab,s.run P w=.ok v' w'/\aJ ab v v'/\bh ab h' w'/\Fr b ρ h w ab h' w'
theorem gm.same{b:Nat}{P:Program}{ρ:aA}{h:aa}{w:World}{s:Sem Value}{v v':Value}(x:bh ρ h w)(hr:s.run P w=.ok v' w)(hv:aJ ρ v v'):gm b P ρ h w s v h:=
 ⟨v',w,ρ,hr,hv,x,Fr.refl _ _ _ _⟩
theorem wrap_small{n:Int}(h0:0<=n)(h1:n<=1099511627776):IntKind.i64.wrap n=n:=by
 have h2:n%(2^64:Int)=n:=Int.emod_eq_of_lt h0 (by omega);have h3:¬n>=(2^63:Int):=by omega
 show(if(true&&decide (n%(2^64:Int)>=(2^63:Int)))=true then n%(2^64:Int)-2^64 else n%(2^64:Int))=n;simp only[h2,h3,decide_false,Bool.and_false,TF,if_false]
theorem nc{α β:Type}{x:Option α}{f:α->Option β}{r:β}(h:x.bind f=some r):∃a,x=some a/\f a=some r:=by
 cases x with
 |none=>cases h
 |some a=>exact⟨a,rfl,h⟩
theorem y7{v:Value}{n:Int}(h:oa v=some n):v=.int .i64 n:=by
 unfold oa at h
 split at h
 . cases h;rfl
 . cases h
theorem of_int{v:Value}{n:Int}(h:intOf v=some n):∃k,v=.int k n:=by
 unfold intOf at h
 split at h
 . cases h;exact⟨_,rfl⟩
 . cases h
theorem uj{v:Value}{a:Addr}(h:gX v=some a):v=.pointer (some a):=by
 unfold gX at h
 split at h
 . cases h;rfl
 . cases h
theorem aJ.mg{ρ:aA}{k:IntKind}{n:Int}{v:Value}(h:aJ ρ (.int k n) v):v=.int k n:=by cases h;rfl
theorem aJ.oo{ρ:aA}{b:Bool}{v:Value}(h:aJ ρ (.bool b) v):v=.bool b:=by cases h;rfl
theorem aJ.oq{ρ:aA}{a:Addr}{v:Value}(h:aJ ρ (.pointer (some a)) v):∃pl,ρ a.block=some pl/\v=.pointer (some ⟨pl.aV,pl.off+a.off,none⟩):=by cases h with|ptr h=>exact⟨_,h,rfl⟩
theorem uk(P:Program)(w:World)(t:TypeId)(cs:Array Value):(newRow t cs).run P w=.ok ⟨w.heap.size,0,none⟩ (World.add w (.cells cs t)):=rfl
theorem De(P:Program)(w:World)(t:TypeId)(v:Value):(newVar t v).run P w=.ok ⟨w.heap.size,0,none⟩ (World.add w (.cells v.cells t)):=rfl
theorem Df(he:e.Ok){b id n:Nat}{ρ:aA}{h h':aa}{w:World}{t:Tr Value}{a:Array Value}{ds:List Deferred}(hg:Gl e ρ)(ht:jC ρ t n a)(x:bh ρ h w)
 {o:Oper} {ob:bF} {f:Nat->Value} (hA:cF e t o.op=some (ob,f)) (s:Slot b ρ h id ob h'):
 ∃v' w' ab,(execOp (Act.mk a ds).eval o).run e.P w=.ok (.value v') w'/\aJ ab (f id) v'/\bh ab h' w'/\Fr b ρ h w ab h' w'/\∀j,j≠id->ab j=ρ j:=by
 obtain⟨dst,op,ty,pos,after,guard⟩:=o;cases op with
 |alloc elem=>
  simp only[cF]at hA;cases hz:e.zero elem with
  |none=>simp[hz]at hA
  |some z=>
   simp only[hz,qe,PO]at hA;obtain⟨rfl,rfl⟩:=hA;obtain⟨ab,pl,g1,g2,g3,_,_,_,g4,g5⟩:=wu x s (he.sA hz ρ) elem;refine⟨_,_,ab, ?_,ui g1 g3,g4,g5⟩;simp only[execOp,Instr.alloc,Sem.run_bind,he.oi hz,Result.andThen_ok,De,Sem.run_pure,g2]
 |box elem y=>
  simp only[cF]at hA;cases hy:aw e t y with
  |none=>simp[hy]at hA
  |some v=>
   simp only[hy,qe,PO]at hA;obtain⟨rfl,rfl⟩:=hA;obtain⟨ab,pl,g1,g2,g3,_,_,_,g4,g5⟩:=wu x s (j5 hg ht hy ds).cells elem;refine⟨_,_,ab, ?_,ui g1 g3,g4,g5⟩;simp only[execOp,Instr.box,Sem.run_bind,Result.andThen_ok,De,Sem.run_pure,g2]
 |buildSlice st len parts=>
  simp only[cF]at hA;cases hu:e.under st with
  |none=>simp[hu]at hA
  |some d=>
   cases d with
   |slice elem=>
    simp only[hu]at hA;cases hp:eY e t parts.toList with
    |none=>simp[hp]at hA
    |some ps=>
     simp only[hp]at hA;cases hs:e.size elem with
     |none=>simp[hs]at hA
     |some sz=>
      cases hz:e.zero elem with
      |none=>simp[hs,hz]at hA
      |some z=>
       simp only[hs,hz]at hA;obtain⟨hb,hA⟩:=bU hA;simp only[Er]at hb;obtain⟨⟨ae,ai⟩,af⟩:=hb;have ae:=xS ae;have ai:=DE ai;have af:0<sz:=xS af;cases hf:iv (λi=>some (i*sz,sz)) (eN z.cells.toList (len*sz)) ps with
       |none=>simp[hf]at hA
       |some cs=>
        simp only[hf,qe,PO]at hA;obtain⟨rfl,rfl⟩:=hA;have ad:=yY hg ht ds hp;have ao:bE ρ (eN z.cells.toList (len*sz)) (((VK (len*sz)).map ((if len*sz=0 then#[]else z.cells)[·%(if len*sz=0 then#[]else z.cells).size]!)).toList):=by
         by_cases h0:len*sz=0
         . simp only[h0,if_true];simpa[eN]using (aO.nil:bE ρ [] [])
         . simp only[h0,if_false];have:=y6 (he.sA hz ρ) (len*sz) (by omega);simpa using this
        obtain⟨cs',g6,g7⟩:=y5 (place':=λi=>some (i*sz,sz)) (ps':=(parts.map λ(i,y)=>(i,(Act.mk a ds).eval y)).toList) (λ_ _ h=>h) ao (by simpa using ad) hf;obtain⟨ab,pl,g1,g2,g3,aK,aL,aM,g4,g5⟩:=wu x s g7 elem;refine⟨_,_,ab, ?_,.sl (a:=⟨id,0,none⟩) (c:=⟨w.heap.size,0,none⟩) (k':=len) g1 (.inl ⟨by simp[g2,g3],.inl rfl⟩),g4,g5⟩;have hn:¬len*sz>2^24:=by omega
        simp only[execOp,Instr.buildSlice,Sem.run_bind,he.c8 hu,Result.andThen_ok,he.gZ hs,hn,if_false,Sem.run_pure];by_cases h0:len*sz=0
        . simp only[h0,if_true,Sem.run_pure,Result.andThen_ok]at g6⊢;simp only[g6,Sem.run_bind,uk,Result.andThen_ok,Sem.run_pure]
        . simp only[h0,if_false,Sem.run_bind,he.oi hz,Sem.run_pure,Result.andThen_ok]at g6⊢;simp only[g6,Sem.run_bind,uk,Result.andThen_ok,Sem.run_pure]
   |_=>simp[hu]at hA
 |makeMap mt r=>
  cases r with
  |some r=>simp[cF]at hA
  |none=>
   simp only[cF,qe,PO]at hA;obtain⟨rfl,rfl⟩:=hA;obtain⟨ab,pl,g1,g2,g3,g4,g5⟩:=wv x s (.map #[] 0) rfl rfl (λab w' pl _ h0 hw=>⟨h0,#[],hw,.nil⟩);refine⟨_,_,ab, ?_,aJ.map g1,g4,g5⟩;rw[g2];rfl
 |makeSlice st l c=>
  simp only[cF]at hA;cases hu:e.under st with
  |none=>simp[hu]at hA
  |some d=>
   cases d with
   |slice elem=>
    cases hl:(aw e t l).bind oa with
    |none=>simp[hu,hl]at hA
    |some lv=>
     cases hc:(aw e t c).bind oa with
     |none=>simp[hu,hl,hc]at hA
     |some cv=>
      simp only[hu,hl,hc]at hA;obtain⟨aQ,hl,av⟩:=nc hl;obtain⟨aR,hc,az⟩:=nc hc;have av:=y7 av;subst av;have az:=y7 az;subst az;cases hs:e.size elem with
      |none=>simp[hs]at hA
      |some sz=>
       cases hz:e.zero elem with
       |none=>simp[hs,hz]at hA
       |some z=>
        cases aB:e.bytes elem with
        |none=>simp[hs,hz,aB]at hA
        |some aE=>
         simp only[hs,hz,aB]at hA;obtain⟨hb,hA⟩:=bU hA;simp only[Er,decide_eq_true_eq]at hb;obtain⟨⟨⟨⟨⟨ae,ai⟩,af⟩,aC⟩,aF⟩,aI⟩:=hb;have aC:=xS aC;have aF:=DE aF;have aI:0<sz:=xS aI;simp only[qe,PO]at hA;obtain⟨rfl,rfl⟩:=hA;have rl:aJ ρ (.int .i64 lv) ((Act.mk a ds).eval l):=j5 hg ht hl ds;have rc:aJ ρ (.int .i64 cv) ((Act.mk a ds).eval c):=j5 hg ht hc ds;have el:=rl.mg;have ec:=rc.mg;have ao:bE ρ (eN z.cells.toList (cv.toNat*sz)) (((VK (cv.toNat*sz)).map ((if cv.toNat*sz=0 then#[]else z.cells)[·%(if cv.toNat*sz=0 then#[]else z.cells).size]!)).toList):=by
          by_cases h0:cv.toNat*sz=0
          . simp only[h0,if_true];simpa[eN]using (aO.nil:bE ρ [] [])
          . simp only[h0,if_false];have:=y6 (he.sA hz ρ) (cv.toNat*sz) (by omega);simpa using this
         obtain⟨ab,pl,g1,g2,g3,aK,aL,aM,g4,g5⟩:=wu x s ao elem;refine⟨_,_,ab, ?_,.sl (a:=⟨id,0,none⟩) (c:=⟨w.heap.size,0,none⟩) (k':=cv.toNat) g1 (.inl ⟨by simp[g2,g3],.inl rfl⟩),g4,g5⟩;obtain⟨i,aN,dE⟩:=he.KX aB w;have w1:IntKind.i64.wrap lv=lv:=wrap_small ae (by omega);have w2:IntKind.i64.wrap cv=cv:=wrap_small (by omega) af;have aP:(cv.toNat:Int)=cv:=Int.toNat_of_nonneg (by omega);have aD:¬((aE:Int)*cv>2^48):=by
          have:=Int.ofNat_le.2 aC;rw[Int.natCast_mul,aP]at this;omega
         have c1:decide (cv<0)=false:=by simp;omega
         have c2:decide ((aE:Int)*cv>2^48)=false:=by simpa using aD
         have c3:decide (lv<0)=false:=by simp;omega
         have c4:decide (lv>cv)=false:=by simp;omega
         simp only[execOp,Instr.makeSlice,Sem.run_bind,he.c8 hu,Result.andThen_ok,el,ec,asInt,asIntOf,Sem.run_pure,aN,dE,w1,w2,c1,c2,c3,c4,Bool.or_false,TF,if_false,run_askRoom,he.gZ hs];by_cases h0:cv.toNat*sz=0
         . simp only[h0,if_true,Sem.run_pure,Result.andThen_ok,Sem.run_bind,uk]
         . simp only[h0,if_false,Sem.run_bind,he.oi hz,Sem.run_pure,Result.andThen_ok,uk]
   |_=>simp[hu]at hA
 |_=>simp[cF]at hA
end Go.au
end

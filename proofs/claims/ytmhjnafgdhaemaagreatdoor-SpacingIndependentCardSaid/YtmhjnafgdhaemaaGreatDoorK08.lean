/- SpacingIndependent: parts of its proof. -/
import Derived.Test.YtmhjnafgdhaemaaGreatDoorK07
open Option renaming bind_eq_some_iff->qe,bind_some->Zr,map_eq_some_iff->ab8
open Option.some renaming injEq->xS
open Array renaming getElem?_eq_getElem->DE,getElem?_eq_some_iff->Er,getD_eq_getD_getElem?->PO,replicate->Xw
open Nat renaming le_refl->GP,zero_le->Qc,not_lt_zero->W2,le_add_right->ZL
open List renaming getElem?_eq_some_iff->PX,range->TF,length_cons->VK,drop_eq_nil_of_le->W9,all_eq_true->Zj,filter_cons->ZJ,mem_of_getElem?->Z4,drop_eq_getElem_cons->abR
set_option linter.all false
set_option maxRecDepth 100000
noncomputable section
namespace Go.au
variable {e:Env}
def qU(l:List Bool):Nat:=(l.filter (!·)).length
theorem zq:∀(l:List Bool) (i:Nat),l[i]? =some false->qU (l.set i true)+1=qU l
 |[],_,h=>by simp at h
 |b::l,0,h=>by simp at h;subst h;simp[qU]
 |b::l,i+1,h=>by
  have:=zq l i (by simpa using h);unfold qU at this⊢;rw[List.set_cons_succ,ZJ,ZJ]
  split
  . rw[VK,VK];omega
  . exact this
theorem LJ{l:List Bool}(h:qU l=0){i:Nat}:l[i]? ≠some false:=by
 intro hi;have:=zq l i hi;omega
def On(listed:Array Bool)(i:Nat):Prop:=listed.getD i false=true
theorem LK{listed:Array Bool}{i:Nat}(hi:i<listed.size)(j:Nat):On (listed.setIfInBounds i true) j↔On listed j\/j=i:=by
 unfold On;by_cases h:i=j
 . subst h;simp[hi]
 . rw[getD_set_ne false h];exact⟨.inl,λhh=>hh.resolve_right (Ne.symm h)⟩
theorem DT{listed:Array Bool}{i:Nat}(h:listed.getD i true=false):¬On listed i/\listed.toList[i]? =some false:=by
 rw[PO]at h;cases hg:listed[i]? with
 |none=>rw[hg]at h;cases h
 |some b=>
  rw[hg]at h;have:b=false:=h;subst this;refine⟨λho=> ?_,by simpa using hg⟩;unfold On at ho;rw[PO,hg]at ho;cases ho
theorem LL(he:e.Ok){dx:Nat->eE}{rf:gk}(aB:∀i,ng e (dx i))(aC:uq e rf){ro ao:Option Nat}{ops:Array Oper}{s0:aE}{base N:Nat}{xf:cm}{fp:aA}{h0:aa}{w0:World}(aD:gN fp ro ao)
 (G:oy e dx rf ro ops.toList s0 base N xf) (n:Nat) (Q:Exit->Act->World->Prop)
 (hQ:∀ρ a w t h m inc H (S:Nat->Prop),(∀i,i<ops.size->S i)->Inv e ops.toList s0 base N xf S fp h0 w0 ρ a w t h m inc H->Q .normal a w):
 ∀(fuel:Nat) (listed:Array Bool) (ρ:aA) (a:Act) (w:World) (t:Tr Value) (h:aa) (m inc:Nat) (H:aa),listed.size=ops.size->qU listed.toList=fuel->
  Inv e ops.toList s0 base N xf (On listed) fp h0 w0 ρ a w t h m inc H->wpAnyIn (FF ao) n e.P .any ops Q fuel listed a w:=by
 have all:∀(listed:Array Bool),listed.size=ops.size->Region.ready .any ops listed=[]->∀i,i<ops.size->On listed i:=by
  intro listed hs hr i
  induction i using Nat.strongRecOn with
  |_ i ih=>
   intro hi;cases hg:listed.getD i false with
   |true=>exact hg
   |false=>
    exfalso;have ad:i∈Region.ready .any ops listed:=by
     rw[mem_ready];have aF:i<listed.size:=by omega
     refine⟨?_,ops[i],DE hi,λx hx hb=> ?_⟩
     . rw[PO,DE aF]at hg⊢;exact hg
     . have:=G.f.back i ops[i] (by simp[hi]) x (by simpa using hx) hb;exact ih x.on this (Nat.lt_trans this hi)
    rw[hr]at ad;cases ad
 intro fuel
 induction fuel with
 |zero=>
  intro listed ρ a w t h m inc H hs hu I;have hr:Region.ready .any ops listed=[]:=by
   cases hr:Region.ready .any ops listed with
   |nil=>rfl
   |cons i r=>
    have ad:i∈Region.ready .any ops listed:=by rw[hr];exact List.mem_cons_self ..
    rw[mem_ready]at ad;exact absurd (DT ad.1).2 (LJ hu)
  exact⟨hr,hQ ρ a w t h m inc H _ (all listed hs hr) I⟩
 |succ fuel ih=>
  intro listed ρ a w t h m inc H hs hu I;refine⟨λhr=>hQ ρ a w t h m inc H _ (all listed hs hr) I,λi ad=> ?_⟩;rw[mem_ready]at ad;obtain⟨h1,o,ho,hb⟩:=ad;obtain⟨hi,hl⟩:=DT h1;have aI:ops.toList[i]? =some o:=by simpa using ho
  have aF:i<listed.size:=by
   have:=(PX.1 hl).1;simpa using this
  obtain⟨id,x,x',mc,aP,v,R⟩:=G.zp i o aI;have hm:∀j,((bf ops.toList).getD i 0).testBit j=true->On listed j:=λj hj=>by
   obtain⟨y,y1,y2,y3⟩:=DK aI hj;have hy:On listed y.on:=hb y (by simpa using y1) y2;rcases y3 with rfl|y3
   . exact hy
   . exact I.closed y.on hy j y3
  refine I.step he (aB i) aC aD G R aI hi hm (LK aF) rfl n λai a' w' t' h' m' av H' I'=> ?_;refine ih (listed.setIfInBounds i true) ai a' w' t' h' m' av H' (by simpa using hs) ?_ I';have:=zq listed.toList i hl;simp only[Array.toList_setIfInBounds];omega
theorem DU(he:e.Ok)(aK:e.P.follows .mixedOrders=true){dx:Nat->eE}{rf:gk}(aB:∀i,ng e (dx i))(aC:uq e rf)(ro:Option Nat)(ops:Array Oper)(s:aE)(aQ:pB ops.toList (bf ops.toList)=true)(xf:cm)
 (hd:mb e dx rf ro ops.toList (ops.toList.zip (bf ops.toList)) 0 s.h.next {s:={s with h:={s.h with next:=s.h.next+(ops.toList.filter λo=>cls o.op==.alloc).length}},aq:=[],all:=[],bw:=[(0,{s.h with next:=s.h.next+(ops.toList.filter λo=>cls o.op==.alloc).length})],cS:=[]}=some xf)
 (aR:(cN ops.toList).length=0\/ni e ops.toList xf xf.bw.reverse (cN ops.toList) (ops.toList.zip (bf ops.toList)) xf.cS.reverse 0)
 (ρ:aA) (a:Act) (w:World) (ao:Option Nat) (n:Nat) (Q:Exit->Act->World->Prop) (id:Nat) (X:cX e ρ s a w) (aD:gN ρ ro ao)
 (hQ:∀a' w' ai,cX e ai {xf.s with h:=eO xf.s.h xf.aq} a' w'->Fr s.h.next ρ s.h w ai (eO xf.s.h xf.aq) w'->Q .normal a' w'):(Code.region id ops true).wpIn (FF ao) n e.P Q a w:=by
 have F:=Lz aQ
 let N:=s.h.next+((ops.toList.filter λo=>cls o.op==.alloc).length)
 let H0:aa:={s.h with next:=N}
 let s0:aE:={s with h:=H0}
 let x0:cm:={s:=s0,aq:=[],all:=[],bw:=[(0,H0)],cS:=[]}
 have aS:∀k,H0.get k=s.h.get k:=λ_=>rfl;have aL:pH s0 s.h.next N ops.toList 0 s.h.next x0 0 0:=
  ⟨rfl,rfl,λ_ _=>rfl,⟨[],rfl⟩,rfl,⟨Qc _,λp i k _=>⟨λh=>absurd h (W2 _),λh=>absurd h (W2 _)⟩⟩,λp=>(by simp[x0]),
   λp hp=>(by cases hp),λp q hp=>(by cases hp),λj hj=>(by simp at hj),rfl,GP _,rfl⟩
 obtain⟨zp,l0,aT,mf,aU,pf⟩:=LG F (ops.toList.length) 0 s.h.next x0 0 0 (by simp) (Qc _) (by rw[List.drop_zero];exact hd) aL;have hN:aT=N:=by
  have:=pf.sum;rw[W9 (GP _)]at this;simpa using this
 have G:oy e dx rf ro ops.toList s0 s.h.next N xf:=by
  refine⟨F,λi o ho=> ?_,λd aW=> ?_,λp hp=> ?_,pf.inj, ?_⟩
  . obtain⟨id,x,x',m,inc,v,r1,r2,r3,r4,r5⟩:=zp i o (Qc _) ho;exact⟨id,x,x',m,inc,v,r1,r2,r3,r4,r5⟩
  . exact l0.t d λj o _ ho=>aW j o ho
  . obtain⟨_,g2,g3⟩:=pf.ox p hp;exact⟨g2,by rw[<-hN];exact g3⟩
  . exact aR
 refine wpIn_region_any aK ?_;have m0:bh ρ H0 {w with drawn:=w.drawn+1}:=(X.m.sub (g:=H0) (λi o h=>h) (ZL _ _)).draw rfl;have f0:Fr s.h.next ρ s.h w ρ H0 {w with drawn:=w.drawn+1}:=(C6 (h:=s.h) (w:=w) (w':={w with drawn:=w.drawn+1}) rfl rfl rfl s.h.next).trans (Fr.less (λi o h=>h) (ZL _ _));have ab:∀i,¬On (Xw ops.size false) i:=λi h=>by
  unfold On at h;rw[PO]at h;cases hg:(Xw ops.size false)[i]? with
  |none=>rw[hg]at h;cases h
  |some b=>
   rw[hg]at h;obtain⟨h1,h2⟩:=Er.1 hg;simp at h2;subst h2;cases h
 have ae:∀p∈xf.all,ρ p.2.1=none:=λp hp=>by
  cases hx:ρ p.2.1 with
  |none=>rfl
  |some pl=>
   have h1:=X.m.gM _ _ hx;have h2:=(G.wF p hp).1;omega
 have I0:Inv e ops.toList s0 s.h.next N xf (On (Xw ops.size false)) ρ s.h w ρ a {w with drawn:=w.drawn+1} s.t H0 0 0 H0:=by
  refine⟨λi hi=>absurd hi (ab i),λj o d hj=>absurd hj (ab j),λd _=>rfl,⟨X.g,X.t,X.d,m0⟩,f0,⟨Qc _,λp i k _=>⟨λh=>absurd h (ab i),λh=>absurd h (W2 _)⟩⟩, ?_,
   λp _ hs=>absurd hs (ab _),λk o h=>h,λp hp _=> ?_,rfl,GP _,λp hp _=>ae p hp,λj hj=>by simp at hj⟩
  . exact wG (q:=(0,H0)) (tl:=[]) (x:=x0) rfl rfl l0
  . cases hg:H0.get p.2.1 with
    |none=>rfl
    |some ob=>
     obtain⟨pl,g1,_⟩:=X.m.obj _ _ (show s.h.get p.2.1=some ob from hg);rw[ae p hp]at g1;cases g1
 refine LL he aB aC aD G n Q ?_ ops.size _ ρ a _ s.t H0 0 0 H0 (by simp) ?_ I0
 . intro ai a' w' t' h' m' av H' S af I;have e1:m'=mf:=I.fG.uniq pf.fG λp i k hp=>by
    obtain⟨o,q1,_⟩:=ux hp;have hl:=(PX.1 q1).1;exact⟨λ_=>hl,λ_=>af i (by simpa using hl)⟩
   subst e1;obtain⟨tl,aX⟩:=pf.iw;have aM:=wG aX pf.len (iS.refl ops.toList ops.toList.length xf);rw[I.iw]at aM;cases aM;have aw:∀k ob,(eO xf.s.h xf.aq).get k=some ob->h'.get k=some ob:=λk ob hk=>by
    rcases DN (λp q hp hq=>pf.inj p q ((pf.aq p).1 hp).1 ((pf.aq q).1 hq).1) hk with⟨p,hp,rfl,rfl⟩|hk
    . obtain⟨g1,g2⟩:=(pf.aq p).1 hp;exact I.m1 p g1 (af p.1 (by have:=(pf.ox p g1).1;simpa using this)) g2
    . exact I.m3 k ob hk
   have aN:h'.next<=(eO xf.s.h xf.aq).next:=by rw[uz];exact Nat.le_of_eq I.m5
   have ht:∀d,xf.s.t.get d=t'.get d:=λd=>by
    by_cases hw:∃(j:Nat) (o:Oper),ops.toList[j]? =some o/\o.dst=some d
    . obtain⟨j,o,hj,az⟩:=hw;exact(I.t1 j o d (af j (by have:=(PX.1 hj).1;simpa using this)) hj az).symm
    . rw[G.t0 d λj o hj az=>hw ⟨j,o,hj,az⟩,I.t2 d λj o _ hj az=>hw ⟨j,o,hj,az⟩]
   refine hQ a' w' ai ⟨I.rel.g, ?_, ?_,I.rel.m.sub aw aN⟩ (I.fr.trans (Fr.less aw aN))
   . refine⟨?_,λd v hv=> ?_⟩
     . show a'.tmps.size=xf.s.n;rw[pf.n];exact I.rel.t.1
     . show d<xf.s.n/\_;rw[pf.n];exact I.rel.t.2 d v (by rw[<-hv];exact(ht d).symm)
   . show aO _ xf.s.ds _;rw[pf.ds];exact I.rel.d
 . simp[qU]
end Go.au
end
noncomputable section
namespace Go.au
theorem DW{α:Type}:∀(l:List α) (i:Nat) (t:Tr α) (j:Nat),(Tr.ofList l i t).get j=if i<=j/\j<i+l.length then l[j-i]? else t.get j
 |[],i,t,j=>by
  simp only[Tr.ofList,List.length_nil,Nat.add_zero];rw[if_neg (by omega)]
 |a::l,i,t,j=>by
  simp only[Tr.ofList,DW l (i+1),Tr.bn,VK];by_cases h1:i+1<=j/\j<i+1+l.length
  . rw[if_pos h1,if_pos (by omega)];have:j-i=(j-(i+1))+1:=by omega
    rw[this];rfl
  . rw[if_neg h1];by_cases h2:j=i
    . subst h2;rw[if_pos rfl,if_pos (by omega)];simp
    . rw[if_neg h2,if_neg (by omega)]
theorem DX{α:Type}(a:Array α)(j:Nat):(Tr.ofList a.toList 0 .nil).get j=a[j]? :=by
 rw[DW];by_cases h:0<=j/\j<0+a.toList.length
 . rw[if_pos h];simp
 . rw[if_neg h,Tr.get_nil];have:a.size<=j:=by simp at h;omega
   simp[this]
def zr(tt:Tr TypeInfo)(t:Nat):Option TypeDesc:=
 match tt.get t with
 |none=>none
 |some i=>match i.desc with
  |.named _ u=>match tt.get u with
   |none=>none
   |some j=>some j.desc
  |d=>some d
def wH(tt:Tr TypeInfo)(t:Nat):Option Nat:=
 match tt.get t with
 |none=>none
 |some i=>some i.size
def DY(tt:Tr TypeInfo)(t:Nat):Option Nat:=
 match tt.get t with
 |none=>none
 |some i=>some i.bytes
def DZ(tt:Tr TypeInfo)(t:Nat):Option Value:=
 match tt.get t with
 |none=>none
 |some i=>match i.zero with
  |none=>none
  |some z=>bif plain z then some z else none
def D0(ft:Tr Func)(f:Nat):Option Func:=
 match ft.get f with
 |none=>none
 |some fn=>match fn.body with
  |none=>none
  |some _=>some fn
def oz(P:Program)(tt:Tr TypeInfo)(ft:Tr Func)(idle:Nat->Bool)(n8:Nat)(jV:Nat->List Value->aa->Option (Value×aa)):Env:=
 {P,under:=zr tt,size:=wH tt,bytes:=DY tt,zero:=DZ tt,fn:=D0 ft,idle,n8,jV}
def D1(tt:Tr TypeInfo)(l:List TypeInfo):Bool:=
 l.all λi=>match i.desc with
  |.struct fs=>fs.toList.all λf=>(tt.get f.type).isSome
  |_=>true
def D2(l:List Func):Bool:=l.all λfn=> !(fn.name== "runtime.NumGoroutine")
theorem LM{P:Program}{tt:Tr TypeInfo}{ft:Tr Func}(idle:Nat->Bool)(n8:Nat)(jV:Nat->List Value->aa->Option (Value×aa))(ht:tt=Tr.ofList P.types.toList 0 .nil)(hf:ft=Tr.ofList P.funcs.toList 0 .nil)
 (ab:D1 tt P.types.toList=true) (ad:D2 P.funcs.toList=true):(oz P tt ft idle n8 jV).Ok:=by
 have gi:∀t i,tt.get t=some i->P.types[t]? =some i:=λt i h=>by rw[ht,DX]at h;exact h
 have inf:∀t i,tt.get t=some i->P.info? t=some i:=λt i h=>by
  have h1:=gi t i h;have hl:=(Er.1 h1).1;show P.toTables.info? t=some i;unfold Tables.info?;rw[if_pos hl];exact h1
 have gf:∀f fn,ft.get f=some fn->P.funcs[f]? =some fn:=λf fn h=>by rw[hf,DX]at h;exact h
 refine⟨λt d h=> ?_,λt n h=> ?_,λt n h=> ?_,λt z h=> ?_,λt fs h f af=> ?_,λf fn h=> ?_⟩
 . show P.underlying t=some d;simp only[oz,zr]at h;unfold Program.underlying;cases hi:tt.get t with
   |none=>simp[hi]at h
   |some i=>
    simp only[hi]at h;rw[inf t i hi];obtain⟨desc,sz,bt,zv,nm⟩:=i;simp only at h
    split at h
    . rename_i u hd
      split at h
      . cases h
      . rename_i j hj;cases h;simp[inf _ _ hj]
    . rename_i hd;cases h
      split
      . rename_i u _ heq;exact absurd (by cases heq;rfl) (hd _ _)
      . rename_i j heq;cases heq;rfl
      . rename_i heq;cases heq
 . simp only[oz,wH]at h;cases hi:tt.get t with
   |none=>simp[hi]at h
   |some i=>simp only[hi,xS]at h;exact⟨i,inf t i hi,h⟩
 . simp only[oz,DY]at h;cases hi:tt.get t with
   |none=>simp[hi]at h
   |some i=>simp only[hi,xS]at h;exact⟨i,inf t i hi,h⟩
 . simp only[oz,DZ]at h;cases hi:tt.get t with
   |none=>simp[hi]at h
   |some i=>
    simp only[hi]at h;cases hz:i.zero with
    |none=>simp[hz]at h
    |some z'=>
     simp only[hz]at h;obtain⟨h1,h2⟩:=bU h;cases h2;exact⟨i,inf t i hi,hz,h1⟩
 . simp only[oz,zr]at h;have key:∀k i,tt.get k=some i->i.desc=.struct fs->∃n,wH tt f.type=some n:=λk i hk hd=>by
    have hm:i∈P.types.toList:=by
     have:=gi k i hk;exact Z4 (i:=k) (by simpa using this)
    have:=Zj.1 ab i hm;rw[hd]at this;have:=Zj.1 this f af;cases hx:tt.get f.type with
    |none=>rw[hx]at this;cases this
    |some j=>exact⟨j.size,by simp only[wH,hx]⟩
   cases hi:tt.get t with
   |none=>simp[hi]at h
   |some i=>
    simp only[hi]at h
    split at h
    . split at h
      . cases h
      . rename_i j hj;simp only[xS]at h;exact key _ j hj h
    . simp only[xS]at h;exact key t i hi h
 . simp only[oz,D0]at h;cases hi:ft.get f with
   |none=>simp[hi]at h
   |some g=>
    simp only[hi]at h;cases hb:g.body with
    |none=>simp[hb]at h
    |some c=>
     simp only[hb,xS]at h;subst h;refine⟨gf f g hi,λargs w=> ?_⟩;have hm:g∈P.funcs.toList:=Z4 (i:=f) (by simpa using gf f g hi);have hn:=Zj.1 ad g hm;simp only[Bool.not_eq_true']at hn;simp only[callFunc,Sem.run_bind,run_program,Result.andThen_ok,oz,gf f g hi,hn,hb];rfl
structure uA where
 f:Nat
 args:List Value
 rows:List (Nat×List Value×Nat)
 res:Value
 top:Nat
def D3(h:aa):List (Nat×List Value×Nat)->Bool
 |[]=>true
 |(i,cs,ah)::r=>match h.get i with
  |some (.row cs' _ ae)=>Nat.beq ae ah&&(ue.qF 6 cs' cs&&D3 h r)
  |_=>false
def LN(k:uA)(f:Nat)(args:List Value)(h:aa):Bool:=
 Nat.beq f k.f&&(ue.qF 6 args k.args&&(Nat.ble h.next k.top&&D3 h k.rows))
def wI:List uA->Nat->List Value->aa->Option (Value×aa)
 |[],_,_,_=>none
 |k::r,f,args,h=>bif Nat.beq f k.f then(bif LN k f args h then some (k.res,h)else wI r f args h)else wI r f args h
variable {e:Env}
def nj(e:Env)(ro:Option Nat)(c:Code)(s:aE)(x:bk)(s':aE):Prop:=∀ρ a w ab n Q,cX e ρ s a w->gN ρ ro ab->
 (∀a' w' ae,cX e ae s' a' w'->Fr s.h.next ρ s.h w ae s'.h w'->Q x.to a' w')->c.wpIn (FF ab) n e.P Q a w
def bK(e:Env)(f:FuncId)(args:List Value)(h:aa)(v:Value)(h':aa):Prop:=(∃fn,e.fn f=some fn)/\∀ρ w (af:Array Value),Gl e ρ->bE ρ args af.toList->bh ρ h w->
 Calls e.P f af w λen w'=>∃v' ae,en=.returned v'/\aJ ae v v'/\bh ae h' w'/\Fr h.next ρ h w ae h' w'
open Classical in
def wJ(f:FuncId)(args:List Value)(h:aa)(v:Value)(h':aa):eE:=λf' a' g=>if f'=f/\a'=args/\g=h then some (v,h')else none
theorem LO{f:FuncId}{args:List Value}{h:aa}{v:Value}{h':aa}(hr:bK e f args h v h'):ng e (wJ f args h v h'):=by
 intro f' a' g v' g' hc;unfold wJ at hc
 split at hc
 . rename_i hk;obtain⟨rfl,rfl,rfl⟩:=hk;cases hc;exact hr
 . cases hc
theorem LP{f:FuncId}{args:List Value}{h:aa}{v:Value}{h':aa}:wJ f args h v h' f args h=some (v,h'):=by
 unfold wJ;rw[if_pos ⟨rfl,rfl,rfl⟩]
theorem mj:ng e (λ_ _ _=>none):=λ_ _ _ _ _ h=>by cases h
theorem wK:uq e (λ_ _ _=>none):=λ_ _ _ _ _ h=>by cases h
def fP(dst:Option Tmp)(v:Value)(s:aE)(K:aE->Prop):Prop:=∃s',eZ s dst v=some s'/\K s'
def lC(e:Env)(ro:Option Nat)(o:Oper)(s:aE)(K:aE->Prop):Prop:=
 match aK e s.h s.t o.op with
 |none=>False
 |some (.val v h)=>fP o.dst v {s with h} K
 |some (.skip h)=>fP o.dst undef {s with h} K
 |some (.enter f args h)=>∃v h',bK e f args h v h'/\fP o.dst v {s with h:=h'} K
 |some (.round _ _ _)=>False
 |some (.defer f args cap h)=>ro=none/\fP o.dst undef {s with h,ds:={target:=.fn (.func f) cap.toArray,args:=args.toArray}::s.ds} K
theorem lC.cf{ro:Option Nat}{o:Oper}{s:aE}{K:aE->Prop}(h:lC e ro o s K):∃cf s',ng e cf/\ma e cf (λ_ _ _=>none) ro o s=some s'/\K s':=by
 unfold lC at h;simp only[wi]
 split at h
 . cases h
 . rename_i v h1 hr;obtain⟨s',h2,h3⟩:=h;exact⟨_,s',mj,by rw[hr];exact h2,h3⟩
 . rename_i h1 hr;obtain⟨s',h2,h3⟩:=h;exact⟨_,s',mj,by rw[hr];exact h2,h3⟩
 . rename_i f args h1 hr;obtain⟨v,h',hf,s',h2,h3⟩:=h;exact⟨_,s',LO hf,by rw[hr];simp only[LP];exact h2,h3⟩
 . cases h
 . rename_i f args cap h1 hr;obtain⟨rfl,s',h2,h3⟩:=h;exact⟨_,s',mj,by rw[hr];exact h2,h3⟩
def hD(e:Env)(ro:Option Nat)(ops:List Oper):List Oper->aE->(aE->Prop)->Prop
 |[],s,K=>K s
 |o::r,s,K=>match cH ops s o with
  |none=>False
  |some true=>lC e ro o s λs=>hD e ro ops r s K
  |some false=>fP o.dst undef s λs=>hD e ro ops r s K
theorem LQ(he:e.Ok){ro:Option Nat}{ops:Array Oper}{K:aE->Prop}:∀(l:List Oper) (k:Nat) (s:aE),ops.toList.drop k=l->hD e ro ops.toList l s K->∃s',K s'/\∀ab n Q (ρ:aA) (a:Act) (w:World),cX e ρ s a w->gN ρ ro ab->
 (∀a' w' ae,cX e ae s' a' w'->Fr s.h.next ρ s.h w ae s'.h w'->Q .normal a' w')->wpOpsIn (FF ab) n e.P ops Q ((TF ops.size).drop k) a w:=by
 intro l
 induction l with
 |nil=>
  intro k s hl h;have hk:ops.size<=k:=by
   have:=congrArg List.length hl;simp at this;omega
  refine⟨s,h,λab n Q ρ a w x _ hQ=> ?_⟩;rw[W9 (by simpa using hk)];exact hQ a w ρ x (Fr.refl _ _ _ _)
 |cons o r ih=>
  intro k s hl h;have hk:k<ops.size:=by
   rcases Nat.lt_or_ge k ops.size with h|h
   . exact h
   . rw[W9 (by simpa using h)]at hl;cases hl
  have bb:ops[k]? =some o:=by
   have:(ops.toList.drop k)[0]? =some o:=by rw[hl];rfl
   simpa[List.getElem?_drop]using this
  have hr:ops.toList.drop (k+1)=r:=by rw[<-List.drop_drop,hl];rfl
  have aB:(TF ops.size).drop k=k::(TF ops.size).drop (k+1):=by
   rw[abR (by simpa using hk)];simp
  rw[aB];simp only[hD]at h;simp only[wpOpsIn,bb];cases hw:cH ops.toList s o with
  |none=>simp[hw]at h
  |some b=>
   cases b with
   |true=>
    simp only[hw]at h;obtain⟨cf,s1,aQ,hs,h⟩:=h.cf;obtain⟨s2,h2,h3⟩:=ih (k+1) s1 hr h;refine⟨s2,h2,λab n Q ρ a w x ad hQ=> ?_⟩;rw[ou hw x,if_pos rfl];refine uu he aQ wK hs x ad n λa1 w1 ai x1 f1=> ?_;refine h3 ab n Q ai a1 w1 x1 (ad.mono f1.ext) λa2 w2 aC x2 f2=> ?_;exact hQ a2 w2 aC x2 (f1.trans (f2.mono f1.next))
   |false=>
    simp only[hw]at h;obtain⟨s1,hs,h⟩:=h;obtain⟨s2,h2,h3⟩:=ih (k+1) s1 hr h;refine⟨s2,h2,λab n Q ρ a w x ad hQ=> ?_⟩;rw[ou hw x,if_neg (by simp)];refine⟨λf _=>trivial, ?_⟩;obtain⟨p1,p2⟩:=mh x hs (ur _);refine h3 ab n Q ρ _ w p1 ad λa2 w2 aC x2 f2=> ?_;rw[p2]at f2;exact hQ a2 w2 aC x2 f2
def ml(e:Env)(ro:Option Nat)(ops:List Oper)(i id m:Nat)(o:Oper)(x:cm)(K:cm->Prop):Prop:=
 match cH ops x.s o with
 |none=>False
 |some false=>match cls o.op with
  |.effect=>fP o.dst undef x.s λs=>K {x with s,bw:=((x.bw.head?.map (·.1)).getD 0,s.h)::x.bw}
  |.bad=>False
  |_=>fP o.dst undef x.s λs=>K {x with s}
 |some true=>match cls o.op with
  |.pure=>match aK e x.s.h x.s.t o.op with
   |some (.val v _)=>fP o.dst v x.s λs=>K {x with s}
   |_=>False
  |.read=>match aK e (bW x.s.h m x.aq) x.s.t o.op with
   |some (.val v _)=>fP o.dst v x.s λs=>K {x with s}
   |_=>False
  |.alloc=>match cF e x.s.t o.op with
   |none=>False
   |some (ob,f)=>fP o.dst (f id) x.s λs=>K {x with s,aq:=(i,id,ob)::x.aq,all:=(i,id,ob)::x.all}
  |.effect=>lC e ro o {x.s with h:=bW x.s.h m x.aq} λs=>K {x with s,aq:=x.aq.filter λp=> !m.testBit p.1,bw:=(Nat.lor ((x.bw.head?.map (·.1)).getD 0) m,s.h)::x.bw}
  |.bad=>False
theorem ml.cf{ro:Option Nat}{ops:List Oper}{i id m:Nat}{o:Oper}{x:cm}{K:cm->Prop}(h:ml e ro ops i id m o x K):∃cf x',ng e cf/\so e cf (λ_ _ _=>none) ro ops i id m o x=some x'/\K x':=by
 unfold ml at h;unfold so;cases hw:cH ops x.s o with
 |none=>simp[hw]at h
 |some b=>
  cases b with
  |false=>
   simp only[hw]at h⊢;cases hc:cls o.op with
   |effect=>simp only[hc]at h;obtain⟨s,h1,h2⟩:=h;exact⟨_,_,mj,by rw[h1],h2⟩
   |bad=>simp[hc]at h
   |pure=>simp only[hc]at h;obtain⟨s,h1,h2⟩:=h;exact⟨_,_,mj,by rw[h1],h2⟩
   |read=>simp only[hc]at h;obtain⟨s,h1,h2⟩:=h;exact⟨_,_,mj,by rw[h1],h2⟩
   |alloc=>simp only[hc]at h;obtain⟨s,h1,h2⟩:=h;exact⟨_,_,mj,by rw[h1],h2⟩
  |true=>
   simp only[hw]at h⊢;cases hc:cls o.op with
   |pure=>
    simp only[hc]at h⊢
    split at h
    . rename_i v h1 hr;obtain⟨s,h2,h3⟩:=h;exact⟨_,_,mj,by rw[hr];simp only;rw[h2];rfl,h3⟩
    . cases h
   |read=>
    simp only[hc]at h⊢
    split at h
    . rename_i v h1 hr;obtain⟨s,h2,h3⟩:=h;exact⟨_,_,mj,by rw[hr];simp only;rw[h2];rfl,h3⟩
    . cases h
   |alloc=>
    simp only[hc]at h⊢
    split at h
    . cases h
    . rename_i ob f hr;obtain⟨s,h2,h3⟩:=h;exact⟨_,_,mj,by rw[hr];simp only;rw[h2];rfl,h3⟩
   |effect=>
    simp only[hc]at h⊢;obtain⟨cf,s,aQ,h2,h3⟩:=h.cf;exact⟨cf,_,aQ,by rw[h2],h3⟩
   |bad=>simp[hc]at h
def kH(e:Env)(ro:Option Nat)(ops:List Oper):List (Oper×Nat)->Nat->Nat->cm->(cm->Prop)->Prop
 |[],_,_,x,K=>K x
 |(o,m)::r,i,id,x,K=>ml e ro ops i id m o {x with cS:=x.s.t::x.cS} λx=>kH e ro ops r (i+1) (nextId o id) x K
theorem D5{ro:Option Nat}{ops:List Oper}{dx cfs':Nat->eE}{rf:gk}:∀(l:List (Oper×Nat)) (i id:Nat) (x:cm),(∀j,i<=j->dx j=cfs' j)->mb e dx rf ro ops l i id x=mb e cfs' rf ro ops l i id x
 |[],_,_,_,_=>rfl
 |(o,m)::r,i,id,x,h=>by
  simp only[mb,h i (GP _)]
  split
  . rfl
  . exact D5 r (i+1) _ _ λj hj=>h j (by omega)
theorem kH.dx{ro:Option Nat}{ops:List Oper}{K:cm->Prop}:∀(l:List (Oper×Nat)) (i id:Nat) (x:cm),kH e ro ops l i id x K->∃(dx:Nat->eE) (x':cm),(∀j,ng e (dx j))/\mb e dx (λ_ _ _=>none) ro ops l i id x=some x'/\K x'
 |[],_,_,x,h=>⟨λ_ _ _ _=>none,x,λ_=>mj,rfl,h⟩
 |(o,m)::r,i,id,x,h=>by
  obtain⟨cf,x1,h1,h2,h3⟩:=ml.cf (h:ml e ro ops i id m o {x with cS:=x.s.t::x.cS} _);obtain⟨dx,x2,h4,h5,h6⟩:=kH.dx r (i+1) _ x1 h3;refine⟨λj=>if j=i then cf else dx j,x2,λj=> ?_, ?_,h6⟩
  . by_cases hj:j=i
    . simp only[hj,if_true];exact h1
    . simp only[hj,if_false];exact h4 j
  . simp only[mb,if_true,h2];rw[D5 r (i+1) _ x1 (cfs':=dx) λj hj=>by rw[if_neg (by omega)]];exact h5
def lD(e:Env)(ro:Option Nat)(ops:List Oper)(s:aE)(K:aE->Prop):Prop:=
 pB ops (bf ops)=true/\kH e ro ops (ops.zip (bf ops)) 0 s.h.next {s:={s with h:={s.h with next:=s.h.next+(ops.filter λo=>cls o.op==.alloc).length}},aq:=[],all:=[],bw:=[(0,{s.h with next:=s.h.next+(ops.filter λo=>cls o.op==.alloc).length})],cS:=[]}
  λx=>((cN ops).length=0\/ni e ops x x.bw.reverse (cN ops) (ops.zip (bf ops)) x.cS.reverse 0)/\K {x.s with h:=eO x.s.h x.aq}
def nk(e:Env)(ro:Option Nat)(c:Code)(x:bk)(s':aE):Nat->aE->Prop
 |0,s=>nj e ro c s x s'/\x≠.normal
 |n+1,s=>∃s1,nj e ro c s .normal s1/\nk e ro c x s' n s1
theorem nk.runs{ro:Option Nat}{c:Code}{x:bk}{s':aE}:∀(k:Nat) (s:aE),nk e ro c x s' k s->nj e ro (.loop c) s x s':=by
 intro k s hk ρ a w ab n Q X ad hQ;have key:∀k (s:aE),nk e ro c x s' k s->∀(ρ:aA) (a:Act) (w:World),cX e ρ s a w->gN ρ ro ab->(∀a' w' ae,cX e ae s' a' w'->Fr s.h.next ρ s.h w ae s'.h w'->Q x.to a' w')->c.roundsIn (FF ab) n e.P Q (k+1) a w:=by
  intro k
  induction k with
  |zero=>
   intro s hk ρ a w X ad hQ;rw[roundsIn_succ];obtain⟨h1,h2⟩:=hk;refine h1 ρ a w ab n _ X ad λa1 w1 ai q1 f1=> ?_;cases x with
   |normal=>exact absurd rfl h2
   |exit id=>exact hQ a1 w1 ai q1 f1
   |ret=>exact hQ a1 w1 ai q1 f1
  |succ k ih=>
   intro s hk ρ a w X ad hQ;rw[roundsIn_succ];obtain⟨s1,h1,h2⟩:=hk;refine h1 ρ a w ab n _ X ad λa1 w1 ai q1 f1=> ?_;exact ih s1 h2 ai a1 w1 q1 (ad.mono f1.ext) λa2 w2 aC q2 f2=>hQ a2 w2 aC q2 (f1.trans (f2.mono f1.next))
 exact wpIn_loop_rounds (k+1) (key k s hk ρ a w X ad hQ)
def RQ(e:Env)(ro:Option Nat):Code->aE->(bk->aE->Prop)->Prop
 |.skip,s,K=>K .normal s
 |.label _,s,K=>K .normal s
 |.exit id,s,K=>K (.exit id) s
 |.ret,s,K=>K .ret s
 |.scope c,s,K=>RQ e ro c s K
 |.region _ ops true,s,K=>lD e ro ops.toList s (K .normal)
 |.region _ ops false,s,K=>hD e ro ops.toList ops.toList s (K .normal)
 |.seq a b,s,K=>RQ e ro a s λx s1=>match x with|.normal=>RQ e ro b s1 K|.exit i=>K (.exit i) s1|.ret=>K .ret s1
 |.cond c a b,s,K=>∃v,aw e s.t c=some (.bool v)/\(v=true->RQ e ro a s K)/\(v=false->RQ e ro b s K)
 |.block id c,s,K=>RQ e ro c s λx s1=>match x with|.normal=>K .normal s1|.exit i=>if i=id then K .normal s1 else K (.exit i) s1|.ret=>K .ret s1
 |.loop c,s,K=>∃x s',nj e ro (.loop c) s x s'/\K x s'
 |_,_,_=>False
theorem RQ.runs(he:e.Ok)(aD:e.P.follows .mixedOrders=true){ro:Option Nat}:∀(c:Code) (s:aE) (K:bk->aE->Prop),RQ e ro c s K->∃x s',nj e ro c s x s'/\K x s':=by
 intro c
 induction c with
 |skip=>exactλs K h=>⟨.normal,s,λρ a w ab n Q X ad hQ=>wpIn_skip (hQ a w ρ X (Fr.refl _ _ _ _)),h⟩
 |label l=>exactλs K h=>⟨.normal,s,λρ a w ab n Q X ad hQ=>wpIn_label (hQ a w ρ X (Fr.refl _ _ _ _)),h⟩
 |exit id=>exactλs K h=>⟨.exit id,s,λρ a w ab n Q X ad hQ=>wpIn_exit (hQ a w ρ X (Fr.refl _ _ _ _)),h⟩
 |ret=>exactλs K h=>⟨.ret,s,λρ a w ab n Q X ad hQ=>wpIn_ret (hQ a w ρ X (Fr.refl _ _ _ _)),h⟩
 |scope c ih=>
  intro s K h;obtain⟨x,s',h1,h2⟩:=ih s K h;refine⟨x,s',λρ a w ab n Q X ad hQ=>ze (h1 ρ a w ab n _ X ad λa' w' ae x' f'=> ?_),h2⟩;have:=hQ a' w' ae x' f';cases x<;>exact this
 |region id ops draw=>
  intro s K h;cases draw with
  |true=>
   obtain⟨h1,h2⟩:=(h:lD e ro ops.toList s (K .normal));obtain⟨dx,x,h3,h4,h5,h6⟩:=h2.dx;exact⟨_,_,λρ a w ab n Q X ad hQ=>DU he aD h3 wK ro ops s h1 x h4 h5 ρ a w ab n Q id X ad hQ,h6⟩
  |false=>
   have h0:∃s',K .normal s'/\∀ab n Q (ρ:aA) (a:Act) (w:World),cX e ρ s a w->gN ρ ro ab->
    (∀a' w' ae,cX e ae s' a' w'->Fr s.h.next ρ s.h w ae s'.h w'->Q .normal a' w')->wpOpsIn (FF ab) n e.P ops Q ((TF ops.size).drop 0) a w:=by
    have:hD e ro ops.toList (ops.toList.drop 0) s (K .normal):=h;exact LQ he _ 0 s rfl this
   obtain⟨s',h1,h2⟩:=h0;refine⟨_,s',λρ a w ab n Q X ad hQ=>wpIn_region ?_,h1⟩;have:=h2 ab n Q ρ a w X ad hQ;simpa using this
 |seq p q aR aS=>
  intro s K h;obtain⟨x,s1,h1,h2⟩:=aR s _ h;cases x with
  |normal=>
   obtain⟨x2,s2,h3,h4⟩:=aS s1 K h2;exact⟨x2,s2,λρ a w ab n Q X ad hQ=>wpIn_seq (h1 ρ a w ab n _ X ad λa1 w1 ai q1 f1=>h3 ai a1 w1 ab n Q q1 (ad.mono f1.ext) λa2 w2 aC q2 f2=>hQ a2 w2 aC q2 (f1.trans (f2.mono f1.next))),h4⟩
  |exit i=>exact⟨_,s1,λρ a w ab n Q X ad hQ=>wpIn_seq (h1 ρ a w ab n _ X ad λa1 w1 ai q1 f1=>hQ a1 w1 ai q1 f1),h2⟩
  |ret=>exact⟨_,s1,λρ a w ab n Q X ad hQ=>wpIn_seq (h1 ρ a w ab n _ X ad λa1 w1 ai q1 f1=>hQ a1 w1 ai q1 f1),h2⟩
 |cond c p q aR aS=>
  intro s K h;obtain⟨v,hv,ht,hf⟩:=h;cases v with
  |true=>
   obtain⟨x,s1,h1,h2⟩:=aR s K (ht rfl);exact⟨x,s1,λρ a w ab n Q X ad hQ=>wpIn_cond_true (j5 X.g X.t hv a.defers).oo (h1 ρ a w ab n Q X ad hQ),h2⟩
  |false=>
   obtain⟨x,s1,h1,h2⟩:=aS s K (hf rfl);exact⟨x,s1,λρ a w ab n Q X ad hQ=>wpIn_cond_false (j5 X.g X.t hv a.defers).oo (h1 ρ a w ab n Q X ad hQ),h2⟩
 |block id c ih=>
  intro s K h;obtain⟨x,s1,h1,h2⟩:=ih s _ h;cases x with
  |normal=>exact⟨.normal,s1,λρ a w ab n Q X ad hQ=>wpIn_block (h1 ρ a w ab n _ X ad λa1 w1 ai q1 f1=>hQ a1 w1 ai q1 f1),h2⟩
  |ret=>exact⟨.ret,s1,λρ a w ab n Q X ad hQ=>wpIn_block (h1 ρ a w ab n _ X ad λa1 w1 ai q1 f1=>hQ a1 w1 ai q1 f1),h2⟩
  |exit i=>
   by_cases aT:i=id
   . subst aT;simp only[if_true]at h2;refine⟨.normal,s1,λρ a w ab n Q X ad hQ=>wpIn_block (h1 ρ a w ab n _ X ad λa1 w1 ai q1 f1=> ?_),h2⟩;show Exit.inBlock _ Q (.exit i) a1 w1;simp only[Exit.inBlock,if_true];exact hQ a1 w1 ai q1 f1
   . simp only[aT,if_false]at h2;refine⟨.exit i,s1,λρ a w ab n Q X ad hQ=>wpIn_block (h1 ρ a w ab n _ X ad λa1 w1 ai q1 f1=> ?_),h2⟩;show Exit.inBlock _ Q (.exit i) a1 w1;simp only[Exit.inBlock,aT,if_false];exact hQ a1 w1 ai q1 f1
 |loop c ih=>exactλs K h=>h
 |_=>exactλs K h=>h.elim
open Classical in
def pI(c:Code)(s:aE)(x:bk)(s':aE):oe:=λro c' s1=>if ro=none/\c'=c/\s1=s then some (x,s')else none
theorem zt{c:Code}{s:aE}{x:bk}{s':aE}(h:nj e none c s x s'):Dz e (pI c s x s'):=by
 intro ro c' s1 x1 s2 hc;unfold pI at hc
 split at hc
 . rename_i hk;obtain⟨rfl,rfl,rfl⟩:=hk;cases hc;exact h
 . cases hc
def jE:List Value->Value
 |[v]=>v
 |vs=>.tuple vs.toArray
def oA(e:Env)(rs:List ResultVar)(K:Value->aa->Prop)(x:bk)(s:aE):Prop:=
 (∀i,x≠.exit i)/\∃h1 vs,kD e s.ds s.h=some h1/\gL e {s with h:=h1} rs=some vs/\K (jE vs) h1
theorem bK.of(he:e.Ok)(aD:e.P.follows .mixedOrders=true)(aI:Idle e){f:FuncId}{fn:Func}{c:Code}{args:List Value}{h:aa}{K:Value->aa->Prop}(bc:e.fn f=some fn)(hb:fn.body=some c)
 (hq:RQ e none c {t:=gl args,n:=args.length+(fn.ntmps-args.length),ds:=[],h} (oA e fn.results.toList K)):∃v h',bK e f args h v h'/\K v h':=by
 obtain⟨x,s',h1,hx,h2,vs,h3,h4,h5⟩:=hq.runs he aD;refine⟨jE vs,h2, ?_,h5⟩;have:=zg he aI (zt h1) f args h (jE vs) h2 (by
  unfold pC;simp only[bc,hb];have:pI c {t:=gl args,n:=args.length+(fn.ntmps-args.length),ds:=[],h} x s' none c {t:=gl args,n:=args.length+(fn.ntmps-args.length),ds:=[],h}=some (x,s'):=by
   unfold pI;rw[if_pos ⟨rfl,rfl,rfl⟩]
  rw[this];cases x with
  |exit i=>exact absurd rfl (hx i)
  |normal=>
   simp only[h3,h4]
   match vs with
   |[]=>rfl
   |[v]=>rfl
   |_::_::_=>rfl
  |ret=>
   simp only[h3,h4]
   match vs with
   |[]=>rfl
   |[v]=>rfl
   |_::_::_=>rfl)
 exact this
theorem bK.drop{f:FuncId}{args:List Value}{h:aa}{v:Value}{h1 g:aa}(hr:bK e f args h v h1)(hs:∀i o,g.get i=some o->h1.get i=some o)(hn:h1.next<=g.next):bK e f args h v g:=by
 refine⟨hr.1,λρ w af hg ha x=>(hr.2 ρ w af hg ha x).mono ?_⟩;rintro en w' ⟨v',ae,rfl,q1,q2,q3⟩;exact⟨v',ae,rfl,q1,q2.sub hs hn,q3.trans (Fr.less hs hn)⟩
theorem jY.back{ρ ae:aA}(hx:Ext ρ ae){f g g':Fn}(h:jY ρ f g)(h':jY ae f g'):jY ρ f g':=by
 cases h with
 |func f=>cases h';exact .func f
 |yield hp=>cases h' with|yield az=>rw[hx _ _ hp]at az;cases az;exact .yield hp
theorem aJ.back{ρ ae:aA}(hx:Ext ρ ae){v u:Value}(h:aJ ρ v u):∀{v':Value},aJ ae v v'->aJ ρ v v':=by
 induction h with
 |bool b=>intro v' h';cases h';exact .bool b
 |int k n=>intro v' h';cases h';exact .int k n
 |string s=>intro v' h';cases h';exact .string s
 |qK=>intro v' h';cases h';exact .qK
 |ptr hp=>intro v' h';cases h' with|ptr az=>rw[hx _ _ hp]at az;cases az;exact .ptr hp
 |jZ l k=>intro v' h';cases h';exact .jZ l k
 |sl hp hs=>intro v' h';cases h' with|sl az aL=>rw[hx _ _ hp]at az;cases az;exact .sl hp aL
 |og=>intro v' h';cases h';exact .og
 |map hp=>intro v' h';cases h' with|map az=>rw[hx _ _ hp]at az;cases az;exact .map hp
 | @func fn aX a a' c c' hf h1 g1 h2 g2 bd bg=>
  intro v' h';cases h' with
  | @func _ zu _ a2 _ c2 bl ao bm av bn=>
   refine .func (hf.back hx bl) ao (λi x x' hi aF=> ?_) av (λi x x' hi aF=> ?_)
   . have hl:=(Er.1 hi).1;exact bd i x _ hi (DE (by omega)) (bm i x x' hi aF)
   . have hl:=(Er.1 hi).1;exact bg i x _ hi (DE (by omega)) (bn i x x' hi aF)
 |nilFunc=>intro v' h';cases h';exact .nilFunc
 |iface _ ih=>intro v' h';cases h' with|iface h1=>exact .iface (ih h1)
 |nilIface=>intro v' h';cases h';exact .nilIface
 | @agg a a' hs hh ih=>
  intro v' h';cases h' with
  | @agg _ a2 aL aU=>
   refine .agg aL λi x x' hi aF=> ?_;have hl:=(Er.1 hi).1;exact ih i x _ hi (DE (by omega)) (aU i x x' hi aF)
 | @tuple a a' hs hh ih=>
  intro v' h';cases h' with
  | @tuple _ a2 aL aU=>
   refine .tuple aL λi x x' hi aF=> ?_;have hl:=(Er.1 hi).1;exact ih i x _ hi (DE (by omega)) (aU i x x' hi aF)
theorem bE.back{ρ ae:aA}(hx:Ext ρ ae):∀{x y y':List Value},bE ρ x y->bE ae x y'->bE ρ x y'
 |_,_,_,.nil,.nil=>.nil
 |_,_,_,.cons h1 h2,.cons ao av=>.cons (h1.back hx ao) (bE.back hx h2 av)
theorem D6{ρ ae:aA}(hx:Ext ρ ae):∀{x y y':List MapEntry},aO (ez ρ) x y->aO (ez ae) x y'->aO (ez ρ) x y'
 |_,_,_,.nil,.nil=>.nil
 |_,_,_,.cons h1 h2,.cons ao av=>.cons ⟨ao.key,ao.plain,h1.val.back hx ao.val,ao.born⟩ (D6 hx h2 av)
theorem gY.back{ρ ae:aA}{w w':World}{pl:Pl}{o:bF}(hx:Ext ρ ae)(h:gY ρ w pl o)(h':gY ae w' pl o):gY ρ w' pl o:=by
 cases o with
 |row cs wr ah=>
  obtain⟨c,el,fz,h1,h2,h3,h4,h5,h6,h7,h8⟩:=h;obtain⟨c',bo,bp,ao,av,aM,bq,bs,bt,bu,aZ⟩:=h';exact⟨c',bo,bp,ao,av,aM,bq,bs,bt,bu,bE.back hx h8.1 aZ.1,aZ.2⟩
 |map es clock=>
  obtain⟨h0,bB,h1,h2⟩:=h;obtain⟨aN,aW,ao,av⟩:=h';exact⟨aN,aW,ao,D6 hx h2 av⟩
 |cj m since seen last=>
  obtain⟨h0,m1,h1,h2⟩:=h;obtain⟨aN,bx,ao,av⟩:=h';exact⟨aN,bx,ao,h2.back hx av⟩
 |eC s pos=>exact h'
 |loop st aq t n params bL body fj=>
  obtain⟨h0,fn,tmps,bz,h1,h2,h3⟩:=h;obtain⟨aN,aX,aP,bA,ao,av,aM⟩:=h';rw[hx _ _ h1]at ao;cases ao;refine⟨aN,aX,aP,bz,h1,⟨av.1,λi v hv=> ?_⟩,aM⟩;obtain⟨a1,a2⟩:=h2.2 i v hv;obtain⟨b1,b2⟩:=av.2 i v hv;exact⟨b1,a2.back hx b2⟩
 |fj e=>exact h'
theorem bK.pure{f:FuncId}{args:List Value}{h:aa}{v:Value}{h1:aa}(hr:bK e f args h v h1)(hs:∀i o,h.get i=some o->h1.get i=some o)
 (hv:∀ρ w (af:List Value),Gl e ρ->bE ρ args af->bh ρ h w->∃u,aJ ρ v u):bK e f args h v h:=by
 refine⟨hr.1,λρ w af hg ha x=>(hr.2 ρ w af hg ha x).mono ?_⟩;rintro en w' ⟨v',ae,rfl,q1,q2,q3⟩;obtain⟨u,hu⟩:=hv ρ w af.toList hg ha x;refine⟨v',ρ,rfl,hu.back q3.ext q1,⟨x.gM,λi o ho=> ?_,x.sep⟩, ?_⟩
 . obtain⟨pl,h2,h3⟩:=x.obj i o ho;obtain⟨pl',av,aM⟩:=q2.obj i o (hs i o ho);rw[q3.ext _ _ h2]at av;cases av;exact⟨pl,h2,h3.back q3.ext aM⟩
 . exact⟨Ext.refl _,q3.os,q3.output,q3.size,q3.frozen,q3.kept,λi o pl a b c=>.inl ⟨i,o,pl,a,b,c,rfl⟩,λ_ _ a _=>a,λ_ a b=>absurd a b,λ_ o a _=>⟨o,a⟩,GP _⟩
end Go.au
end
noncomputable section
namespace Go.au
variable {e:Env} {ro:Option Nat}
def rd(h:aa)(b o:Nat):Option Value:=
 match h.get b with
 |some (.row cs _ _)=>cs[o]?
 |_=>none
def iT(h:aa)(b o:Nat):Nat->Option (List Value)
 |0=>some []
 |n+1=>match rd h b o with
  |none=>none
  |some v=>(iT h b (o+1) n).map (v::·)
theorem D7{h:aa}{b:Nat}{cs:List Value}{wr:Bool}{ah:Nat}(hg:h.get b=some (.row cs wr ah)):∀(n o:Nat) (l:List Value),iT h b o n=some l->(cs.drop o).take n=l/\l.length=n
 |0,o,l,hl=>by simp only[iT,xS]at hl;subst hl;simp
 |n+1,o,l,hl=>by
  simp only[iT,rd,hg]at hl;cases hc:cs[o]? with
  |none=>simp[hc]at hl
  |some v=>
   simp only[hc,ab8]at hl;obtain⟨r,h1,rfl⟩:=hl;obtain⟨h2,h3⟩:=D7 hg n (o+1) r h1;obtain⟨ad,hv⟩:=PX.1 hc;rw[abR ad,List.take_succ_cons,h2,hv];exact⟨rfl,by simp[h3]⟩
theorem D8{h:aa}{b o n:Nat}{l:List Value}{sp:Option Nat}(hl:iT h b o (n+1)=some l):fF h ⟨b,o,sp⟩ (n+1)=some l:=by
 unfold fF;simp only;cases hg:h.get b with
 |none=>simp[iT,rd,hg]at hl
 |some ob=>
  cases ob with
  |row cs wr ah=>
   obtain⟨h1,h2⟩:=D7 hg _ _ _ hl;simp only[h1,h2,Nat.beq_refl,cond_true]
  |_=>simp[iT,rd,hg]at hl
theorem cI{h:aa}{b o:Nat}{cs:List Value}{wr:Bool}{ah:Nat}(hg:h.get b=some (.row cs wr ah)):rd h b o=cs[o]? :=by unfold rd;rw[hg]
def nn(h:aa)(b o:Nat)(vs:List Value):Option aa:=
 match h.get b with
 |some (.row cs true ah)=>if o+vs.length<=cs.length/\vs.all dw=true then some (h.set b (some (.row (dN cs o vs) true ah)))else none
 |_=>none
theorem D9{h:aa}{b o:Nat}{v:Value}{vs:List Value}{sp:Option Nat}:ly h ⟨b,o,sp⟩ (v::vs)=nn h b o (v::vs):=by
 unfold ly nn;simp only;cases hg:h.get b with
 |none=>rfl
 |some ob=>
  cases ob with
  |row cs wr ah=>
   cases wr with
   |false=>rfl
   |true=>
    simp only;by_cases hc:o+(v::vs).length<=cs.length/\(v::vs).all dw=true
    . rw[if_pos hc,Nat.ble_eq_true_of_le hc.1,hc.2];rfl
    . rw[if_neg hc];cases hb:(Nat.ble (o+(v::vs).length) cs.length&&(v::vs).all dw)with
      |false=>rfl
      |true=>
       rw[Bool.and_eq_true]at hb;exact absurd ⟨Nat.le_of_ble_eq_true hb.1,hb.2⟩ hc
  |_=>rfl
theorem Ea{h:aa}{b o:Nat}{vs:List Value}{cs:List Value}{ah:Nat}(hg:h.get b=some (.row cs true ah))(hl:o+vs.length<=cs.length)(hv:vs.all dw=true):nn h b o vs=some (h.set b (some (.row (dN cs o vs) true ah))):=by
 unfold nn;rw[hg];simp only;rw[if_pos ⟨hl,hv⟩]
def Env.ld(e:Env)(t:TypeId):Option (Option Nat):=
 match e.under t with
 |none=>none
 |some d=>bif jz d then(match e.size t with|none=>none|some n=>some (some n))else some none
def Env.off(e:Env)(s f:Nat):Option Nat:=
 match e.under s with
 |some (.struct fields)=>match jW e fields f with
  |some (off,size)=>bif Nat.blt 0 size then some off else none
  |none=>none
 |_=>none
def Env.elem(e:Env)(t:TypeId):Option Nat:=
 match e.under t with
 |some (.slice el)=>e.size el
 |_=>none
def Env.arr(e:Env)(t:TypeId):Option (Nat×Nat):=
 match e.under t with
 |some (.array n el)=>match e.size el with|none=>none|some s=>some (n,s)
 |_=>none
def Env.part(e:Env)(s f:Nat):Option (Nat×Option Nat):=
 match e.under s with
 |some (.struct fields)=>match fields[f]? with
  |none=>none
  |some fd=>match e.ld fd.type with|none=>none|some l=>some (fd.offset,l)
 |_=>none
theorem zw{h:aa}{t:TypeId}{b o:Nat}(hl:e.ld t=some none):gV e h t ⟨b,o,none⟩=rd h b o:=by
 unfold Env.ld at hl;unfold gV;cases hu:e.under t with
 |none=>simp[hu]at hl
 |some d=>
  simp only[hu]at hl⊢;cases hd:jz d with
  |true=>
   simp only[hd,cond_true]at hl
   split at hl<;>cases hl
  |false=>
   simp only[cond_false];cases hr:rd h b o with
   |some v=>
    have:iT h b o (0+1)=some [v]:=by simp[iT,hr]
    rw[show(1:Nat)=0+1 from rfl,D8 this]
   |none=>
    unfold rd at hr;unfold fF;simp only;cases hg:h.get b with
    |none=>rfl
    |some ob=>
     cases ob with
     |row cs wr ah=>
      simp only[hg]at hr⊢;have:cs.drop o=[]:=by
       rw[List.drop_eq_nil_iff];exact List.getElem?_eq_none_iff.1 hr
      simp[this];rfl
     |_=>rfl
theorem LR{h:aa}{t:TypeId}{b o n:Nat}{l:List Value}(hl:e.ld t=some (some (n+1)))(hr:iT h b o (n+1)=some l):gV e h t ⟨b,o,none⟩=some (.agg l.toArray):=by
 unfold Env.ld at hl;unfold gV;cases hu:e.under t with
 |none=>simp[hu]at hl
 |some d=>
  simp only[hu]at hl⊢;cases hd:jz d with
  |true=>
   simp only[hd,cond_true]at hl⊢;cases hs:e.size t with
   |none=>simp[hs]at hl
   |some m=>
    simp only[hs,xS]at hl;subst hl;simp only[D8 hr]
  |false=>simp[hd]at hl
def fQ(f:Value->Value->Option Value):Option Value->Option Value->Option Value
 |some a,some b=>f a b
 |_,_=>none
theorem sF(f:Value->Value->Option Value)(a b:Value):fQ f (some a) (some b)=f a b:=rfl
def mm(e:Env)(h:aa)(ty:TypeId)(v:Value):Option Value:=match gX v with|none=>none|some a=>gV e h ty a
def qV(e:Env)(s f:Nat)(v:Value):Option Value:=match gX v with|none=>none|some a=>(e.off s f).map λo=>.pointer (some (a.add o))
def sG(e:Env)(ty f:Nat)(v:Value):Option Value:=match v,e.under ty with
 |.agg cs,some (.struct fields)=>match fields[f]? with
  |none=>none
  |some fd=>mW e fd.type cs.toList fd.offset
 |_,_=>none
def np(e:Env)(op:UnOp)(a:Value):Option Value:=bif plain a then eD e.P (Op.unary op a)else none
def oB(e:Env)(h:aa)(s d:TypeId)(a:Value):Option Value:=bif plain a then eD e.P (convert s d a)else od e h s d a
def oC(e:Env)(ty:TypeId)(x ix:Value):Option Value:=match x,intOf ix,e.under ty with
 |.pointer (some a),some i,some (.array len elem)=>match e.size elem with
  |none=>none
  |some s=>bif decide (0<=i)&&decide (i<(len:Int))then some (.pointer (some (a.add (i.toNat*s))))else none
 |.slice (some a) len _,some i,some (.slice elem)=>match e.size elem with
  |none=>none
  |some s=>bif decide (0<=i)&&decide (i<(len:Int))then some (.pointer (some (a.add (i.toNat*s))))else none
 |_,_,_=>none
def oD(e:Env)(ty:TypeId)(x ix:Value):Option Value:=match x,ix,e.under ty with
 |.agg cs,.int _ i,some (.array len elem)=>match e.size elem with
  |none=>none
  |some s=>bif decide (0<=i)&&decide (i<(len:Int))then mW e elem cs.toList (i.toNat*s)else none
 |.string s,.int k i,some .string=>eD e.P (Instr.index ty (.string s) (.int k i))
 |_,_,_=>none
def qW(x:Value):Option Value:=match x with
 |.pointer (some a)=>some (.pointer (some a))
 |.func (.func f) a b=>some (.func (.func f) a b)
 |_=>none
def qX(i:Nat)(x:Value):Option Value:=match x with
 |.tuple vs=>vs[i]?
 |_=>none
def qY(c:Option Value)(a b:Option Value):Option Value:=match c with
 |some (.bool true)=>a
 |some (.bool false)=>b
 |_=>none
def uB(e:Env)(ty:TypeId)(v:Value):Option Value:=match e.under ty with
 |some (.interface _)=>none
 |some _=>some (.iface ty v)
 |_=>none
def nq(e:Env)(h:aa)(ty:TypeId)(ok:Bool)(m k:Value):Option Value:=px e h ty m k ok
def hY(e:Env)(t:Tr Value):Option Operand->Option (Option Value)
 |none=>some none
 |some o=>(aw e t o).map some
def sH(e:Env)(h:aa)(ty:TypeId):Option Value->Option (Option Value)->Option (Option Value)->Option (Option Value)->Option Value
 |some x,some lo,some hi,some mx=>jA e h ty x lo hi mx
 |_,_,_,_=>none
def mn(e:Env)(ty:TypeId):Option (List (Nat×Value))->Option Value
 |some ps=>pt e ty ps
 |none=>none
def uC(f:FuncId):Option (List Value)->Option (List Value)->Option Value
 |some a,some b=>some (.func (.func f) a.toArray b.toArray)
 |_,_=>none
def uD(e:Env)(h:aa)(ab:Array TypeId)(x:Value):Option Value:=match ab[0]? with|none=>none|some ty=>fk e h ty x
def zx(e:Env)(h:aa)(ab:Array TypeId)(x:Value):Option Value:=match ab[0]? with|none=>none|some ty=>qA e h ty x
def pJ(e:Env)(args:List Value):Option Value:=bif args.all plain then eD e.P (Builtin.min_ #[] 0 args.toArray)else none
def qZ(e:Env)(args:List Value):Option Value:=bif args.all plain then eD e.P (Builtin.max_ #[] 0 args.toArray)else none
def bu(e:Env)(h:aa)(t:Tr Value):Op->Option Value
 |.move x|.assign x=>aw e t x
 |.pick c a b=>qY (aw e t c) (aw e t a) (aw e t b)
 |.build ty parts=>mn e ty (eY e t parts.toList)
 |.load ty a=>(aw e t a).bind (mm e h ty)
 |.nilCheck x=>(aw e t x).bind qW
 |.binOp op ty x y _=>fQ (cD e op ty x y) (aw e t x) (aw e t y)
 |.unOp op _ x=>(aw e t x).bind (np e op)
 |.convert s d x=>(aw e t x).bind (oB e h s d)
 |.makeInterface ty x=>(aw e t x).bind (uB e ty)
 |.makeFunc (.func f) first cap=>uC f (cR e t first.toList) (cR e t cap.toList)
 |.slice ty x lo hi mx=>sH e h ty (aw e t x) (hY e t lo) (hY e t hi) (hY e t mx)
 |.fieldAddr s x f=>(aw e t x).bind (qV e s f)
 |.field ty x f=>(aw e t x).bind (sG e ty f)
 |.indexAddr ty x ix=>fQ (oC e ty) (aw e t x) (aw e t ix)
 |.index ty x ix=>fQ (oD e ty) (aw e t x) (aw e t ix)
 |.lookup ty m k ok=>fQ (nq e h ty ok) (aw e t m) (aw e t k)
 |.extract x i=>(aw e t x).bind (qX i)
 |.call c=>match c.callee with
  |.builtin .len=>match cR e t c.args.toList with|some [x]=>uD e h c.argTypes x|_=>none
  |.builtin .cap=>match cR e t c.args.toList with|some [x]=>zx e h c.argTypes x|_=>none
  |.builtin .min=>(cR e t c.args.toList).bind (pJ e)
  |.builtin .max=>(cR e t c.args.toList).bind (qZ e)
  |_=>none
 |_=>none
theorem wL{h:aa}{t:Tr Value}{op:Op}{v:Value}(hv:bu e h t op=some v):aK e h t op=some (.val v h):=by
 cases op with
 |move x=>simp only[bu]at hv;simp[aK,hv]
 |assign x=>simp only[bu]at hv;simp[aK,hv]
 |pick c a b=>
  simp only[bu,qY]at hv;simp only[aK]
  split at hv
  . rename_i hc;simp[hc,hv]
  . rename_i hc;simp[hc,hv]
  . cases hv
 |build ty parts=>
  simp only[bu,mn]at hv;simp only[aK]
  split at hv
  . rename_i ps hp;simp[hp,hv]
  . cases hv
 |load ty a=>
  simp only[bu,qe,mm]at hv;obtain⟨x,h1,h2⟩:=hv;simp only[aK,h1,Zr]
  split at h2
  . cases h2
  . rename_i a ha;simp[ha,h2]
 |nilCheck x=>
  simp only[bu,qe,qW]at hv;obtain⟨y,h1,h2⟩:=hv;simp only[aK,h1]
  split at h2
  . cases h2;rfl
  . cases h2;rfl
  . cases h2
 |binOp op ty x y z=>
  simp only[bu]at hv;simp only[aK];cases hx:aw e t x with
  |none=>simp[hx,fQ]at hv
  |some a=>
   cases hy:aw e t y with
   |none=>simp[hx,hy,fQ]at hv
   |some b=>simp only[hx,hy,sF]at hv;simp[hv]
 |unOp op z x=>
  simp only[bu,qe,np]at hv;obtain⟨y,h1,h2⟩:=hv;simp only[aK,h1];obtain⟨hb,h2⟩:=bU h2;simp[hb,h2]
 |convert s d x=>
  simp only[bu,qe,oB]at hv;obtain⟨y,h1,h2⟩:=hv;simp only[aK,h1];cases hb:plain y with
  |true=>rw[hb]at h2;simp only[cond_true]at h2⊢;simp[h2]
  |false=>rw[hb]at h2;simp only[cond_false]at h2⊢;simp[h2]
 |makeInterface ty x=>
  simp only[bu,qe,uB]at hv;obtain⟨y,h1,h2⟩:=hv;simp only[aK,h1];cases hu:e.under ty with
  |none=>simp[hu]at h2
  |some d=>
   simp only[hu]at h2;cases d<;>simp_all
 |makeFunc fn first cap=>
  cases fn with
  |func f=>
   simp only[bu,uC]at hv;simp only[aK]
   split at hv
   . rename_i h1 h2;cases hv;simp[h1,h2]
   . cases hv
  |_=>simp[bu]at hv
 |slice ty x lo hi mx=>
  have e0:aK e h t (.slice ty x lo hi mx)=match aw e t x,hY e t lo,hY e t hi,hY e t mx with
   |some x,some lo,some hi,some mx=>(jA e h ty x lo hi mx).map λv=>.val v h
   |_,_,_,_=>none:=by cases lo<;>cases hi<;>cases mx<;>rfl
  rw[e0];simp only[bu,sH]at hv
  split at hv
  . rename_i h1 h2 h3 h4;simp only[h1,h2,h3,h4,hv];rfl
  . cases hv
 |fieldAddr s x f=>
  simp only[bu,qe,qV]at hv;obtain⟨y,h1,h2⟩:=hv;simp only[aK,h1,Zr]
  split at h2
  . cases h2
  . rename_i a ha;simp only[ab8,Env.off]at h2;obtain⟨o,h3,rfl⟩:=h2;simp only[ha]
    split at h3
    . rename_i fields hu;simp only[hu]
      split at h3
      . rename_i off size hp;obtain⟨hb,h3⟩:=bU h3;cases h3;simp[hp,hb]
      . cases h3
    . cases h3
 |field ty x f=>
  simp only[bu,qe,sG]at hv;obtain⟨y,h1,h2⟩:=hv;simp only[aK,h1]
  split at h2
  . rename_i cs fields hu;simp only[hu]
    split at h2
    . cases h2
    . rename_i fd hf;simp[hf,h2]
  . cases h2
 |indexAddr ty x ix=>
  simp only[bu]at hv;simp only[aK];cases hx:aw e t x with
  |none=>simp[hx,fQ]at hv
  |some a=>
   cases hy:aw e t ix with
   |none=>simp[hx,hy,fQ]at hv
   |some b=>
    simp only[hx,hy,sF,oC]at hv;simp only[Zr]
    split at hv
    . rename_i a i len elem h1 h2;simp only[h1,h2]
      split at hv
      . cases hv
      . rename_i s hs;obtain⟨hb,hv⟩:=bU hv;cases hv;simp only[hs];rw[hb];rfl
    . rename_i a len cp i elem h1 h2;simp only[h1,h2]
      split at hv
      . cases hv
      . rename_i s hs;obtain⟨hb,hv⟩:=bU hv;cases hv;simp only[hs];rw[hb];rfl
    . cases hv
 |index ty x ix=>
  simp only[bu]at hv;simp only[aK];cases hx:aw e t x with
  |none=>simp[hx,fQ]at hv
  |some a=>
   cases hy:aw e t ix with
   |none=>simp[hx,hy,fQ]at hv
   |some b=>
    simp only[hx,hy,sF,oD]at hv
    split at hv
    . rename_i cs k i len elem h2;simp only[h2]
      split at hv
      . cases hv
      . rename_i s hs;obtain⟨hb,hv⟩:=bU hv;simp only[hs];rw[hb];simp[hv]
    . rename_i s k i h2;simp only[h2,hv];rfl
    . cases hv
 |lookup ty m k ok=>
  simp only[bu]at hv;simp only[aK];cases hx:aw e t m with
  |none=>simp[hx,fQ]at hv
  |some a=>
   cases hy:aw e t k with
   |none=>simp[hx,hy,fQ]at hv
   |some b=>simp only[hx,hy,sF,nq]at hv;simp[hv]
 |extract x i=>
  simp only[bu,qe,qX]at hv;obtain⟨y,h1,h2⟩:=hv;simp only[aK,h1]
  split at h2
  . simp[h2]
  . cases h2
 |call c=>
  simp only[bu]at hv;simp only[aK,lz]
  split at hv
  . rename_i hc
    split at hv
    . rename_i x hx;unfold uD at hv;simp only[hx,hc]
      split at hv
      . cases hv
      . rename_i ty ht;simp[ht,hv]
    . cases hv
  . rename_i hc
    split at hv
    . rename_i x hx;unfold zx at hv;simp only[hx,hc]
      split at hv
      . cases hv
      . rename_i ty ht;simp[ht,hv]
    . cases hv
  . rename_i hc;simp only[qe,pJ]at hv;obtain⟨l,h1,h2⟩:=hv;obtain⟨hb,h2⟩:=bU h2;simp only[h1,hc,hb,h2,cond_true];rfl
  . rename_i hc;simp only[qe,qZ]at hv;obtain⟨l,h1,h2⟩:=hv;obtain⟨hb,h2⟩:=bU h2;simp only[h1,hc,hb,h2,cond_true];rfl
  . cases hv
 |_=>simp[bu]at hv
end Go.au
end

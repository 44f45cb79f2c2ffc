/- SpacingIndependent: parts of its proof. -/
import Derived.Maps.RangeRun
import Derived.Test.YtmhjnafgdhaemaaGreatDoorK10
open Nat renaming beq_refl->qe,ble_eq_true_of_le->xS,ble->DE,blt->GP,le_of_ble_eq_true->PO,le_refl->TF,lt_of_lt_of_le->Z4
open Bool renaming and_self->Er
open Option.some renaming injEq->PX
open List renaming drop_eq_nil_of_le->Qc,range->VK,drop_zero->W2,take_length->W9,length_append->Zj,mem_cons_self->Zr,mem_cons_of_mem->ZJ,getElem?_eq_getElem->ZL,mapM_cons->abR
open Option renaming map_eq_some_iff->Xw
set_option linter.all false
set_option maxRecDepth 100000
noncomputable section
namespace Go.au
variable {e:Env} {ro:Option Nat}
structure w8(e:Env)(st:TypeId)(sz ab:Nat):Prop where
 el:∃el z,e.under st=some (.slice el)/\e.size el=some sz/\e.zero el=some z/\e.bytes el=some ab/\z.cells.toList.length=sz
 pos:0<sz
theorem PY(h:aa)(st:TypeId)(r:List TypeId)(s x:Value):sI e h (st::r).toArray (some [s,x])=mY e h (st::r).toArray s x:=rfl
theorem Es{h:aa}{st:TypeId}{sz ab:Nat}(hE:w8 e st sz ab){base:Option Addr}{len cap:Nat}{xb:Option Addr}{n xc:Nat}{new:List Value}(hx:gW h sz n (.slice xb n xc)=some new)(hl:new.length=n*sz):
 mY e h #[st,st] (.slice base len cap) (.slice xb n xc)=pz h base len cap sz ab n new:=by
 obtain⟨el,z,h1,h2,h3,h4,h5⟩:=hE.el;have hs:GP 0 sz=true:=xS hE.pos;unfold mY;simp only[List.getElem?_toArray,List.getElem?_cons_zero,List.getElem?_cons_succ,h1,h2,h3,h4];have hi:oc (.slice el)=false:=rfl;simp only[hi,si,cond_false,py,sj,hx,hs,h5,hl,qe,Er,cond_true]
theorem append_nil{h:aa}{st:TypeId}{sz ab:Nat}(hE:w8 e st sz ab){xb:Option Addr}{n xc:Nat}{new:List Value}(hx:gW h sz n (.slice xb n xc)=some new)(hl:new.length=n*sz)(hn:0<n)(hb:n*(ab+1)<=1073741824):
 mY e h #[st,st] (.slice none 0 0) (.slice xb n xc)=some (.slice (some ⟨h.next,0,none⟩) n n,h.new (.row new true sz)):=by
 rw[Es hE hx hl];unfold pz;have h1:DE n 0=false:=by
  cases ad:DE n 0 with
  |false=>rfl
  |true=>have:=PO ad;omega
 have h2:DE (n*(ab+1)) 1073741824=true:=xS hb;simp only[Nat.zero_add,h1,h2,cond_false,cond_true,qe,Er]
theorem Et{h:aa}{st:TypeId}{sz ab:Nat}(hE:w8 e st sz ab){xb:Option Addr}{n xc:Nat}{new:List Value}(hx:gW h sz n (.slice xb n xc)=some new)(hl:new.length=n*sz)(hn:0<n){i len:Nat}{cs:List Value}
 (hg:h.get i=some (.row cs true sz)) (hc:cs.length=len*sz) (ae:new.all dw=true) (hb:(len+n)*(ab+1)<=1073741824):
 mY e h #[st,st] (.slice (some ⟨i,0,none⟩) len len) (.slice xb n xc)=some (.slice (some ⟨h.next,0,none⟩) (len+n) (len+n),(h.set i none).new (.row (cs++new) true sz)):=by
 rw[Es hE hx hl];unfold pz;have hs:=hE.pos;have h1:DE (len+n) len=false:=by
  cases ad:DE (len+n) len with
  |false=>rfl
  |true=>have:=PO ad;omega
 have h2:DE ((len+n)*(ab+1)) 1073741824=true:=xS hb;have h3:fF h ⟨i,0,none⟩ (len*sz)=some cs:=by
  unfold fF;simp only[hg,W2,<-hc,W9,qe,cond_true]
 have h4:Nat.beq sz 0=false:=by
  cases ad:Nat.beq sz 0 with
  |false=>rfl
  |true=>have:=Nat.eq_of_beq_eq_true ad;omega
 have h5:GP (0+len*sz) cs.length=false:=by
  cases ad:GP (0+len*sz) cs.length with
  |false=>rfl
  |true=>have:=PO ad;omega
 simp only[h1,h2,cond_false,cond_true,h3,hg,h4,qe,h5,Bool.and_false,Bool.or_self,Er,ae]
theorem w9{h:aa}{sz n xc i:Nat}{cs:List Value}{wr:Bool}{ah:Nat}(hg:h.get i=some (.row cs wr ah))(hl:cs.length=n*sz):gW h sz n (.slice (some ⟨i,0,none⟩) n xc)=some cs:=by
 simp only[gW,fF,hg,W2,<-hl,W9,qe,cond_true]
def Env.gq(e:Env)(st:TypeId):Option (Nat×Value):=
 match e.under st with
 |some (.slice el)=>match e.size el,e.zero el with
  |some s,some z=>some (s,z)
  |_,_=>none
 |_=>none
def ny(s:Nat):Nat->List (Nat×Value)->Option (List Value)
 |_,[]=>some []
 |i,(j,v)::r=>if j=i/\v.cells.toList.length=s then(ny s (i+1) r).map (v.cells.toList++·)else none
theorem Eu{s:Nat}:∀{ps:List (Nat×Value)} {i:Nat} {cs done rest:List Value},ny s i ps=some cs->done.length=i*s->rest.length=ps.length*s->iv (λi=>some (i*s,s)) (done++rest) ps=some (done++cs)
 |[],i,cs,done,rest,h,h1,h2=>by
  simp only[ny,PX]at h;subst h;have:rest=[]:=List.eq_nil_of_length_eq_zero (by simpa using h2);subst this;rfl
 |(j,v)::r,i,cs,done,rest,h,h1,h2=>by
  simp only[ny]at h
  split at h
  . rename_i hc;obtain⟨rfl,hv⟩:=hc;simp only[Xw]at h;obtain⟨cs',h3,rfl⟩:=h;simp only[List.length_cons,Nat.add_mul,Nat.one_mul]at h2;have hle:j*s+s<=(done++rest).length:=by simp only[Zj];omega
    simp only[iv,hv,qe,xS hle,Er,cond_true];have e1:dN (done++rest) (j*s) v.cells.toList=(done++v.cells.toList)++rest.drop s:=by
     unfold dN;rw[<-h1,List.take_left,hv,List.drop_append,Qc (by omega)];simp
    rw[e1,Eu h3 (by simp only[Zj,h1,hv,Nat.add_mul,Nat.one_mul]) (by rw[List.length_drop];omega),List.append_assoc]
  . cases h
theorem Ev(zs:List Value)(n:Nat):(eN zs n).length=n:=by simp[eN]
theorem PZ{t:Tr Value}{st n:Nat}{l:List (Nat×Operand)}{s:Nat}{z:Value}{ps:List (Nat×Value)}{cs:List Value}(hz:e.gq st=some (s,z))(af:z.cells.toList.length=s)(hs:0<s)(hn:n*s<=16777216)(hp:eY e t l=some ps)(ai:ps.length=n)(hr:ny s 0 ps=some cs):
 cF e t (.buildSlice st n l.toArray)=some (.row cs true 0,λi=>.slice (some ⟨i,0,none⟩) n n):=by
 unfold Env.gq at hz
 split at hz
 . rename_i el hu
   split at hz
   . rename_i s' z' h1 h2;cases hz;have hb:GP 0 s=true:=xS hs;simp only[cF,hu,hp,h1,h2,af,qe,hb,xS hn,Er,cond_true];have:=Eu (s:=s) (done:=[]) (rest:=eN z.cells.toList (n*s)) hr (by simp) (by rw[Ev,ai]);simp only[List.nil_append]at this;rw[this]
   . cases hz
 . cases hz
def xa(e:Env)(t:Tr Value)(st n:Nat)(l:List (Nat×Operand)):Option (bF×(Nat->Value)):=cF e t (.buildSlice st n l.toArray)
def xe(e:Env)(t:Tr Value)(st n:Nat)(l:List (Nat×Operand)):Option (List Value)->Option (bF×(Nat->Value))
 |some cs=>some (.row cs true 0,λi=>.slice (some ⟨i,0,none⟩) n n)
 |none=>xa e t st n l
def zR(e:Env)(t:Tr Value)(st n:Nat)(l:List (Nat×Operand)):Option (Nat×Value)->Option (List (Nat×Value))->Option (bF×(Nat->Value))
 |some (s,z),some ps=>if z.cells.toList.length=s/\0<s/\n*s<=16777216/\ps.length=n then xe e t st n l (ny s 0 ps)else xa e t st n l
 |_,_=>xa e t st n l
theorem P6(t:Tr Value)(st n:Nat)(l:List (Nat×Operand)):cF e t (.buildSlice st n l.toArray)=zR e t st n l (e.gq st) (eY e t l):=by
 unfold zR
 split
 . rename_i s z ps hz hp
   split
   . rename_i hc;obtain⟨h1,h2,h3,h4⟩:=hc;unfold xe
     split
     . rename_i cs hr;exact PZ hz h1 h2 h3 hp h4 hr
     . rfl
   . rfl
 . rfl
theorem P7(t:Tr Value)(st n:Nat)(l:List (Nat×Operand))(s:Nat)(z:Value)(ps:List (Nat×Value)):zR e t st n l (some (s,z)) (some ps)=if z.cells.toList.length=s/\0<s/\n*s<=16777216/\ps.length=n then xe e t st n l (ny s 0 ps)else xa e t st n l:=rfl
theorem P8(t:Tr Value)(st n:Nat)(l:List (Nat×Operand))(cs:List Value):xe e t st n l (some cs)=some (.row cs true 0,λi=>.slice (some ⟨i,0,none⟩) n n):=rfl
theorem P9(s i:Nat):ny s i []=some []:=rfl
theorem Qa(s i j:Nat)(v:Value)(r:List (Nat×Value)):ny s i ((j,v)::r)=if j=i/\v.cells.toList.length=s then(ny s (i+1) r).map (v.cells.toList++·)else none:=rfl
theorem Qb(t:Tr Value)(ty:TypeId):cF e t (.makeMap ty none)=some (.map [] 0,λi=>.map (some i)):=rfl
attribute [go_sem] Nat.testBit_eq_decide_div_mod_eq PY P9 Qa Qb P6 P7 P8
end Go.au
end
noncomputable section
namespace Go.au
variable {e:Env} {ro:Option Nat}
def e8(e:Env)(f:FuncId)(args:List Value)(h:aa)(K:Value->aa->Prop):Prop:=(∃fn,e.fn f=some fn)/\∀ρ w (ad:Array Value),Gl e ρ->bE ρ args ad.toList->bh ρ h w->
 Calls e.P f ad w λen w'=>∃v h' v' ab,K v h'/\en=.returned v'/\aJ ab v v'/\bh ab h' w'/\Fr h.next ρ h w ab h' w'
theorem bK.k{f:FuncId}{args:List Value}{h:aa}{v:Value}{h':aa}{K:Value->aa->Prop}(hr:bK e f args h v h')(hk:K v h'):e8 e f args h K:=
 ⟨hr.1,λρ w ad hg ha x=>(hr.2 ρ w ad hg ha x).mono λen w' ⟨v',ab,h1,h2,h3,h4⟩=>⟨v,h',v',ab,hk,h1,h2,h3,h4⟩⟩
theorem e8.mono{f:FuncId}{args:List Value}{h:aa}{K K':Value->aa->Prop}(hr:e8 e f args h K)(hk:∀v h',K v h'->K' v h'):e8 e f args h K':=
 ⟨hr.1,λρ w ad hg ha x=>(hr.2 ρ w ad hg ha x).mono λen w' ⟨v,h',v',ab,h0,h1,h2,h3,h4⟩=>⟨v,h',v',ab,hk _ _ h0,h1,h2,h3,h4⟩⟩
theorem Qd{b:Nat}{ρ:aA}{h:aa}{w:World}(x:bh ρ h w):bh ρ h w.drew/\Fr b ρ h w ρ h w.drew:=
 ⟨⟨x.gM,x.obj,x.sep⟩,⟨Ext.refl _,rfl,rfl,TF _,λ_ _=>rfl,λ_ _ _=>rfl,(Fr.refl b ρ h w).new,λ_ _ h _=>h,λ_ h h'=>absurd h h',(Fr.refl b ρ h w).aY,TF _⟩⟩
def zS(h:aa)(it:Value)(K:Value->aa->Prop):Prop:=∃r m since seen last es clock,it=.pointer (some ⟨r,0,none⟩)/\h.get r=some (.cj (some m) since seen last)/\h.get m=some (.map es clock)/\(∀x∈es,x.born<since)/\since<=last/\
 ((∀x∈es,seen.contains x.born=true)->K (.tuple #[.bool false]) h)/\∀x∈es,seen.contains x.born=false->K (.tuple #[.bool true,x.key,x.val]) (h.set r (some (.cj (some m) since (seen++[x.born]) clock)))
theorem Ew{ρ:aA}{es aC:List MapEntry}(h:aO (ez ρ) es aC):∀y∈aC,∃x∈es,ez ρ x y:=by
 induction h with
 |nil=>intro y hy;cases hy
 |cons h1 _ ih=>
  intro y hy;rcases List.mem_cons.1 hy with rfl|hy
  . exact⟨_,Zr,h1⟩
  . obtain⟨x,hx,hr⟩:=ih y hy;exact⟨x,ZJ _ hx,hr⟩
theorem Qe{ρ:aA}{es aC:List MapEntry}(h:aO (ez ρ) es aC):∀x∈es,∃y∈aC,ez ρ x y:=by
 induction h with
 |nil=>intro y hy;cases hy
 |cons h1 _ ih=>
  intro y hy;rcases List.mem_cons.1 hy with rfl|hy
  . exact⟨_,Zr,h1⟩
  . obtain⟨x,hx,hr⟩:=ih y hy;exact⟨x,ZJ _ hx,hr⟩
theorem Qf{b:Nat}(P:Program){ρ:aA}{h:aa}{w:World}(x:bh ρ h w){it bg:Value}(hi:aJ ρ it bg){K:Value->aa->Prop}(hs:zS h it K)(ty:TypeId):∃v h',K v h'/\gm b P ρ h w (Instr.next bg false ty) v h':=by
 obtain⟨r,m,since,seen,last,es,clock,rfl,hr,hm,hold,bp,h0,h1⟩:=hs;obtain⟨pl,hp,rfl⟩:=hi.oq;obtain⟨pl',g1,g2,m',g3,g4⟩:=x.obj _ _ hr;rw[hp]at g1;cases g1;obtain⟨aX,bl,bq⟩:=g4.map_some;cases bq;obtain⟨pl',q1,q2,aC,q3,q4⟩:=x.obj _ _ hm;rw[bl]at q1;cases q1;have hz:pl.off+0=0:=by rw[g2]
 rw[hz];have aP:∀y∈aC.toList,y.born<since:=λy hy=>by
  obtain⟨z,hz,aD⟩:=Ew q4 y hy;rw[aD.born];exact hold z hz
 have bs:pl.aV<w.heap.size:=(Array.getElem?_eq_some_iff.1 g3).1;rcases run_next_at (P:=P) w ty pl.aV aX.aV since last seen.toArray aC clock g3 q3 aP bp with⟨hl,aL⟩|⟨y,hy,w1,bm,aL⟩
 . refine⟨_,_,h0 λz hz=> ?_,gm.same x (v':=.tuple #[.bool false]) aL (aJ.j0.2 (.cons (.bool _) .nil))⟩;obtain⟨y,hy,aD⟩:=Qe q4 z hz;have he:leftOf aC seen.toArray=#[]:=Array.eq_empty_of_size_eq_zero hl;unfold leftOf at he;rw[Array.filter_eq_empty_iff]at he;have:=he y (by simpa using hy);rw[aD.born]at this;simpa using this
 . have bn:y∈aC.toList/\seen.contains y.born=false:=by
    unfold leftOf at hy;simp at hy;refine⟨by simpa using hy.1,by simpa using hy.2⟩
   obtain⟨z,hz,aD⟩:=Ew q4 y bn.1;have aZ:=h1 z hz (by rw[<-aD.born];exact bn.2);refine⟨_,_,aZ, ?_⟩;have hw:bh ρ h w1/\Fr b ρ h w ρ h w1:=by
    rcases bm with rfl|rfl
    . exact⟨x,Fr.refl _ _ _ _⟩
    . exact Qd x
   have bt:pl.aV<w1.heap.size:=by rcases bm with rfl|rfl<;>exact bs
   obtain⟨k1,k2⟩:=qN (b:=b) (o:=.mapIter (some aX.aV) since (seen.toArray.push y.born) clock) (ao':=.cj (some m) since (seen++[z.born]) clock) hw.1 hr rfl hp rfl
    ⟨g2,some aX.aV,by rw[oh _ _ _ bt,aD.born];simp,.map bl⟩ rfl
   exact⟨.tuple #[.bool true,y.key,y.val],_,ρ,aL,aJ.j0.2 (.cons (.bool _) (.cons (by rw[aD.key];exact m9 aD.plain) (.cons aD.val .nil))),k1,hw.2.trans k2⟩
def iU(e:Env)(ro:Option Nat)(op:Op)(t:Tr Value)(ds:List Deferred)(h:aa)(K:Kt):Prop:=
 match op with
 |.call c=>match c.callee with
  |.value f=>aG (pL (aw e t f) (cR e t c.args.toList)) λp=>e8 e p.1 p.2 h λv h'=>K v ds h'
  |_=>bA e ro (.call c) t ds h K
 |.next it s=>bA e ro (.next it s) t ds h K\/(s=false/\aG (aw e t it) λv=>zS h v λv h=>K v ds h)
 |op=>bA e ro op t ds h K
theorem bA.Qg{o:Oper}{t:Tr Value}{n:Nat}{ds:List Deferred}{h:aa}{K:Kt}(hs:bA e ro o.op t ds h K)(ai:c9 o.dst n):lC e ro o ⟨t,n,ds,h⟩ λs=>∃v ds h,K v ds h/\s=⟨bB o.dst v t,n,ds,h⟩:=
 hs.wM ai λv ds h hk=>⟨v,ds,h,hk,rfl⟩
theorem bA.wp(he:e.Ok){o:Oper}{t:Tr Value}{n:Nat}{ds:List Deferred}{h:aa}{K:Kt}(hs:bA e ro o.op t ds h K)(ai:c9 o.dst n){ρ:aA}{a:Act}{w:World}(x:cX e ρ ⟨t,n,ds,h⟩ a w)
 {ae:Option Nat} (ao:gN ρ ro ae) (N:Nat) {next:Act->World->Prop} {Q:Exit->Act->World->Prop} (av:∀v aF h' a' w' ab,K v aF h'->cX e ab ⟨bB o.dst v t,n,aF,h'⟩ a' w'->Fr h.next ρ h w ab h' w'->next a' w'):
 o.wpIn (FF ae) N e.P a w next Q:=by
 obtain⟨cf,s',h1,h2,v,aF,h',h3,rfl⟩:=(hs.Qg ai).cf;exact uu he h1 wK h2 x ao N λa' w' ab x' f'=>av v aF h' a' w' ab h3 x' f'
theorem Qh{h:aa}{t:Tr Value}{c:Call}{f:Operand}{p:FuncId×List Value}(hc:c.callee=.value f)(hp:pL (aw e t f) (cR e t c.args.toList)=some p):aK e h t (.call c)=some (.enter p.1 p.2 h):=by
 simp only[pL]at hp;simp only[aK,lz,hc]
 split at hp
 . rename_i fv args h4 h5
   split at hp
   . rename_i g az cap h6;cases hp;simp only[h4,h5,h6]
   . cases hp
 . cases hp
theorem iU.wp(he:e.Ok){o:Oper}{t:Tr Value}{n:Nat}{ds:List Deferred}{h:aa}{K:Kt}(hs:iU e ro o.op t ds h K)(ai:c9 o.dst n){ρ:aA}{a:Act}{w:World}(x:cX e ρ ⟨t,n,ds,h⟩ a w)
 {ae:Option Nat} (ao:gN ρ ro ae) (N:Nat) {next:Act->World->Prop} {Q:Exit->Act->World->Prop} (av:∀v aF h' a' w' ab,K v aF h'->cX e ab ⟨bB o.dst v t,n,aF,h'⟩ a' w'->Fr h.next ρ h w ab h' w'->next a' w'):
 o.wpIn (FF ae) N e.P a w next Q:=by
 have aY:bA e ro o.op t ds h K->o.wpIn (FF ae) N e.P a w next Q:=λhs=>hs.wp he ai x ao N av
 cases aI:o.op with
 |call c=>
  rw[aI]at hs aY;unfold iU at hs;simp only at hs
  split at hs
  . rename_i f hf;obtain⟨⟨g,args⟩,h1,⟨fn,aW⟩,aQ⟩:=hs;have hr:aK e h t o.op=some (.enter g args h):=by rw[aI];exact Qh (h:=h) hf h1
    have key:=Dx he (ds:=a.defers) x.g x.t x.m hr;obtain⟨_,ad,k1,k2⟩:=key;have ha:(Act.mk a.tmps a.defers)=a:=rfl;rw[ha]at k2;have aM:Oper.semAt (FF ae).round a.eval o=execOp a.eval o:=Oper.semAt_eq _ _ _ λc' aR=>by rw[aI]at aR;cases aR
    refine⟨λf _=>trivial, ?_⟩;rw[aM,k2 fn aW,Oper.uponIn_enter];refine⟨zd _ _,Dy ((aQ ρ w ad x.g k1 x.m).mono ?_)⟩;rintro en w' ⟨v,h',v',ab,hk,rfl,q1,q2,q3⟩;obtain⟨p1,p2⟩:=mh (x.with q2 q3) (q9 (s:=⟨t,n,ds,h'⟩) (v:=v) ai) q1;exact av v ds h' _ _ _ hk p1 q3
  . exact aY hs
 |next it s=>
  rw[aI]at hs aY;rcases hs with hs|⟨rfl,v,hv,hn⟩
  . exact aY hs
  . have bo:=j5 x.g x.t hv a.defers;have aM:Oper.semAt (FF ae).round a.eval o=execOp a.eval o:=Oper.semAt_eq _ _ _ λc' aR=>by rw[aI]at aR;cases aR
    have ha:(Act.mk a.tmps a.defers)=a:=rfl;rw[ha]at bo;obtain⟨u,h',hk,bu⟩:=Qf (b:=h.next) e.P x.m bo hn o.type;obtain⟨v',w',ab,k1,k2,k3,k4⟩:=dK.gives bu;have k1:(execOp a.eval o).run e.P w=.ok (.value v') w':=by
     obtain⟨dst,op,ty,pos,af,g⟩:=o;simp only at aI;subst aI;exact k1
    refine⟨λf _=>trivial, ?_⟩;rw[aM,k1,Oper.uponIn_value];obtain⟨p1,p2⟩:=mh (x.with k3 k4) (q9 (s:=⟨t,n,ds,h'⟩) (v:=u) ai) k2;exact av u ds h' _ _ _ hk p1 k4
 |_=>rw[aI]at hs aY;exact aY hs
def nz(e:Env)(ro:Option Nat)(ops:List Oper):List Oper->Tr Value->Nat->List Deferred->aa->(aE->Prop)->Prop
 |[],t,n,ds,h,K=>K ⟨t,n,ds,h⟩
 |o::r,t,n,ds,h,K=>c9 o.dst n/\match cH ops ⟨t,n,ds,h⟩ o with
  |none=>False
  |some true=>iU e ro o.op t ds h λv ds h=>nz e ro ops r (bB o.dst v t) n ds h K
  |some false=>nz e ro ops r (bB o.dst undef t) n ds h K
theorem Qi(he:e.Ok){ops:Array Oper}{n:Nat}{K:aE->Prop}(ae:Option Nat)(N:Nat)(Q:Exit->Act->World->Prop):∀(l:List Oper) (k:Nat) (t:Tr Value) (ds:List Deferred) (h:aa) (ρ:aA) (a:Act) (w:World),ops.toList.drop k=l->nz e ro ops.toList l t n ds h K->cX e ρ ⟨t,n,ds,h⟩ a w->gN ρ ro ae->
 (∀s' a' w' ab,K s'->cX e ab s' a' w'->Fr h.next ρ h w ab s'.h w'->Q .normal a' w')->wpOpsIn (FF ae) N e.P ops Q ((VK ops.size).drop k) a w:=by
 intro l
 induction l with
 |nil=>
  intro k t ds h ρ a w hl hs x _ hQ;have hk:ops.size<=k:=by
   have:=congrArg List.length hl;simp at this;omega
  rw[Qc (by simpa using hk)];exact hQ _ a w ρ hs x (Fr.refl _ _ _ _)
 |cons o r ih=>
  intro k t ds h ρ a w hl hs x ao hQ;have hk:k<ops.size:=by
   rcases Nat.lt_or_ge k ops.size with h|h
   . exact h
   . rw[Qc (by simpa using h)]at hl;cases hl
  have bx:ops[k]? =some o:=by
   have:(ops.toList.drop k)[0]? =some o:=by rw[hl];rfl
   simpa[List.getElem?_drop]using this
  have hr:ops.toList.drop (k+1)=r:=by rw[<-List.drop_drop,hl];rfl
  have aN:(VK ops.size).drop k=k::(VK ops.size).drop (k+1):=by
   rw[List.drop_eq_getElem_cons (by simpa using hk)];simp
  rw[aN];simp only[nz]at hs;obtain⟨ai,hs⟩:=hs;simp only[wpOpsIn,bx];cases hw:cH ops.toList ⟨t,n,ds,h⟩ o with
  |none=>simp[hw]at hs
  |some b=>
   cases b with
   |true=>
    simp only[hw]at hs;rw[ou hw x,if_pos rfl];refine hs.wp he ai x ao N λv aF h' a1 w1 aB hk x1 f1=> ?_;exact ih (k+1) _ aF h' aB a1 w1 hr hk x1 (ao.mono f1.ext) λs2 a2 w2 aS hK x2 f2=>hQ s2 a2 w2 aS hK x2 (f1.trans (f2.mono f1.next))
   |false=>
    simp only[hw]at hs;rw[ou hw x,if_neg (by simp)];refine⟨λf _=>trivial, ?_⟩;obtain⟨p1,_⟩:=mh x (q9 (s:=⟨t,n,ds,h⟩) (v:=undef) ai) (ur _);exact ih (k+1) _ ds h ρ _ w hr hs p1 ao hQ
def WR(e:Env)(ro:Option Nat)(c:Code)(s:aE)(K:bk->aE->Prop):Prop:=∀ρ a w ae n Q,cX e ρ s a w->gN ρ ro ae->
 (∀x s' a' w' ab,K x s'->cX e ab s' a' w'->Fr s.h.next ρ s.h w ab s'.h w'->Q x.to a' w')->c.wpIn (FF ae) n e.P Q a w
theorem nj.wr{c:Code}{s s':aE}{x:bk}{K:bk->aE->Prop}(h:nj e ro c s x s')(hk:K x s'):WR e ro c s K:=
 λρ a w ae n Q X ao hQ=>h ρ a w ae n Q X ao λa' w' ab x' f'=>hQ x s' a' w' ab hk x' f'
theorem WR.mono{c:Code}{s:aE}{K K':bk->aE->Prop}(h:WR e ro c s K)(hk:∀x s,K x s->K' x s):WR e ro c s K':=
 λρ a w ae n Q X ao hQ=>h ρ a w ae n Q X ao λx s' a' w' ab h1 x' f'=>hQ x s' a' w' ab (hk _ _ h1) x' f'
theorem WR.skip{s:aE}{K:bk->aE->Prop}(h:K .normal s):WR e ro .skip s K:=λρ a w ae n Q X ao hQ=>wpIn_skip (hQ .normal s a w ρ h X (Fr.refl _ _ _ _))
theorem WR.exit{s:aE}{id:Nat}{K:bk->aE->Prop}(h:K (.exit id) s):WR e ro (.exit id) s K:=λρ a w ae n Q X ao hQ=>wpIn_exit (hQ (.exit id) s a w ρ h X (Fr.refl _ _ _ _))
theorem WR.ret{s:aE}{K:bk->aE->Prop}(h:K .ret s):WR e ro .ret s K:=λρ a w ae n Q X ao hQ=>wpIn_ret (hQ .ret s a w ρ h X (Fr.refl _ _ _ _))
theorem WR.seq{p q:Code}{s:aE}{K:bk->aE->Prop}(h:WR e ro p s λx s1=>match x with|.normal=>WR e ro q s1 K|x=>K x s1):WR e ro (.seq p q) s K:=by
 intro ρ a w ae n Q X ao hQ;refine wpIn_seq (h ρ a w ae n _ X ao λx s1 a1 w1 aB k q1 f1=> ?_);cases x with
 |normal=>exact k aB a1 w1 ae n Q q1 (ao.mono f1.ext) λx s2 a2 w2 aS k2 q2 f2=>hQ x s2 a2 w2 aS k2 q2 (f1.trans (f2.mono f1.next))
 |exit i=>exact hQ (.exit i) s1 a1 w1 aB k q1 f1
 |ret=>exact hQ .ret s1 a1 w1 aB k q1 f1
theorem WR.cond{c:Operand}{p q:Code}{s:aE}{K:bk->aE->Prop}(v:Bool)(hv:aw e s.t c=some (.bool v))(ht:v=true->WR e ro p s K)(hf:v=false->WR e ro q s K):WR e ro (.cond c p q) s K:=by
 intro ρ a w ae n Q X ao hQ;cases v with
 |true=>exact wpIn_cond_true (j5 X.g X.t hv a.defers).oo (ht rfl ρ a w ae n Q X ao hQ)
 |false=>exact wpIn_cond_false (j5 X.g X.t hv a.defers).oo (hf rfl ρ a w ae n Q X ao hQ)
theorem WR.block{id:Nat}{c:Code}{s:aE}{K:bk->aE->Prop}(h:WR e ro c s λx s1=>match x with|.exit i=>if i=id then K .normal s1 else K (.exit i) s1|x=>K x s1):WR e ro (.block id c) s K:=by
 intro ρ a w ae n Q X ao hQ;refine wpIn_block (h ρ a w ae n _ X ao λx s1 a1 w1 aB k q1 f1=> ?_);cases x with
 |normal=>exact hQ .normal s1 a1 w1 aB k q1 f1
 |ret=>exact hQ .ret s1 a1 w1 aB k q1 f1
 |exit i=>
  show Exit.inBlock _ Q (.exit i) a1 w1;by_cases bb:i=id
  . subst bb;simp only[if_true]at k;simp only[Exit.inBlock,if_true];exact hQ .normal s1 a1 w1 aB k q1 f1
  . simp only[bb,if_false]at k;simp only[Exit.inBlock,bb,if_false];exact hQ (.exit i) s1 a1 w1 aB k q1 f1
theorem WR.ops(he:e.Ok){id:Nat}{ops:Array Oper}{s:aE}{K:bk->aE->Prop}(h:nz e ro ops.toList ops.toList s.t s.n s.ds s.h (K .normal)):WR e ro (.region id ops false) s K:=by
 intro ρ a w ae n Q X ao hQ;refine wpIn_region ?_;have:=Qi he ae n Q ops.toList 0 s.t s.ds s.h ρ a w rfl h X ao λs' a' w' ab k x' f'=>hQ .normal s' a' w' ab k x' f';simpa using this
theorem WR.draw(he:e.Ok)(bc:e.P.follows .mixedOrders=true){id:Nat}{ops:Array Oper}{s:aE}{K:bk->aE->Prop}(h:lD e ro ops.toList s (K .normal)):WR e ro (.region id ops true) s K:=by
 obtain⟨h1,h2⟩:=h;obtain⟨dx,x,h3,h4,h5,h6⟩:=h2.dx;exactλρ a w ae n Q X ao hQ=>DU he bc h3 wK ro ops s h1 x h4 h5 ρ a w ae n Q id X ao λa' w' ab x' f'=>hQ .normal _ a' w' ab h6 x' f'
theorem WR.loop{c:Code}{K:bk->aE->Prop}(I:Nat->aE->Prop)(hI:∀j s,I j s->WR e ro c s λx s1=>match x with|.normal=>∃j',j'<j/\I j' s1|x=>K x s1)(j:Nat)(s:aE)(hs:I j s):WR e ro (.loop c) s K:=by
 intro ρ a w ae n Q X ao hQ;have key:∀(k j:Nat) (s:aE),j<k->I j s->∀(ρ:aA) (a:Act) (w:World),cX e ρ s a w->gN ρ ro ae->(∀x s' a' w' ab,K x s'->cX e ab s' a' w'->Fr s.h.next ρ s.h w ab s'.h w'->Q x.to a' w')->c.roundsIn (FF ae) n e.P Q k a w:=by
  intro k
  induction k with
  |zero=>intro j s hj;omega
  |succ k ih=>
   intro j s hj hs ρ a w X ao hQ;rw[roundsIn_succ];refine hI j s hs ρ a w ae n _ X ao λx s1 a1 w1 aB h1 q1 f1=> ?_;cases x with
   |normal=>
    obtain⟨j',bI,bz⟩:=h1;exact ih j' s1 (by omega) bz aB a1 w1 q1 (ao.mono f1.ext) λx s2 a2 w2 aS k2 q2 f2=>hQ x s2 a2 w2 aS k2 q2 (f1.trans (f2.mono f1.next))
   |exit i=>exact hQ (.exit i) s1 a1 w1 aB h1 q1 f1
   |ret=>exact hQ .ret s1 a1 w1 aB h1 q1 f1
 exact wpIn_loop_rounds (j+1) (key (j+1) j s (by omega) hs ρ a w X ao hQ)
theorem e8.of(he:e.Ok)(aT:Idle e){f:FuncId}{fn:Func}{c:Code}{args:List Value}{h:aa}{K:Value->aa->Prop}(aW:e.fn f=some fn)(hb:fn.body=some c)
 (hq:WR e none c {t:=gl args,n:=args.length+(fn.ntmps-args.length),ds:=[],h} (oA e fn.results.toList K)):e8 e f args h K:=by
 refine⟨⟨fn,aW⟩,λρ w ad hg ha x=> ?_⟩;have hl:args.length=ad.size:=by simpa using ha.length
 have bD:cX e ρ {t:=gl args,n:=args.length+(fn.ntmps-args.length),ds:=[],h} {tmps:=ad++Array.replicate (fn.ntmps-ad.size) undef,defers:=[]} w:=
  ⟨hg,DB ha fn.ntmps,.nil,x⟩
 have out:∀s a' w' ab,(∃h1 vs,kD e s.ds s.h=some h1/\gL e {s with h:=h1} fn.results.toList=some vs/\K (jE vs) h1)->cX e ab s a' w'->Fr h.next ρ h w ab s.h w'->
  LeavesInM Fence.wide 0 e.P fn a'.tmps (λen w'=>∃v h' v' ab,K v h'/\en=.returned v'/\aJ ab v v'/\bh ab h' w'/\Fr h.next ρ h w ab h' w') a'.defers .returning w':=by
  rintro s a' w' ab ⟨h2,vs,bF,bG,hk⟩ x' f';refine DD he aT 0 bF x'.d x'.m λw2 m2 f2=> ?_;have x2:cX e ab {s with h:=h2} a' w2:=⟨x'.g,x'.t,x'.d,m2⟩;obtain⟨aU,q1,q2⟩:=zf he x2 bG;have hm:(fn.results.mapM (qS a'.tmps)).run e.P w2=.ok aU.toArray w2:=by
   rw[Array.mapM_eq_mapM_toList,Sem.run_map,q1];rfl
  have bd:Fr h.next ρ h w ab h2 w2:=f'.trans (f2.mono f'.next);have bf:(results fn a'.tmps).run e.P w2=.ok (if h:aU.toArray.size=1 then aU.toArray[0]else .tuple aU.toArray) w2:=by
   rw[DC,Sem.run_bind,hm];rfl
  refine⟨_,bf,jE vs,h2,_,ab,hk,rfl, ?_,m2,bd⟩
  match vs,aU,q2 with
  |[u],[u'],.cons hu _=>simpa[jE]using hu
  |[],[],_=>exact aJ.j0.2 .nil
  |_::_::_,_::_::_,q2=>
   rw[dif_neg (by simp)];exact aJ.j0.2 (by simpa using q2)
 rw[<-callsIn_wide (n:=0)];refine callsIn_of_wp_marks (he.fn f fn aW).1 hb trivial ?_;refine hq ρ _ w none 0 (bodyPostM Fence.wide 0 e.P fn λen w'=>∃v h' v' ab,K v h'/\en=.returned v'/\aJ ab v v'/\bh ab h' w'/\Fr h.next ρ h w ab h' w') bD .none λx s a' w' ab hk x' f'=> ?_;cases x with
 |normal=>exact out s a' w' ab hk.2 x' f'
 |ret=>exact out s a' w' ab hk.2 x' f'
 |exit id=>exact absurd rfl (hk.1 id)
end Go.au
end
noncomputable section
namespace Go.au
inductive DV where
 |v (x:Value)
 |agg (l:List DV)
 |bb (l:List DV)
 |fn (f:FuncId) (a c:List DV)
 |sl (k:Nat) (xs:List (List DV))
 |ptr (xs:List DV) (off:Nat)
 deriving Inhabited
abbrev Rows:=Nat->Option (List Value×Nat)
inductive Rel(R:Rows):Value->DV->Prop
 |v (x:Value):Rel R x (.v x)
 |agg {a:Array Value} {l:List DV}:a.toList.length=l.length->(∀(i:Nat) (v:Value) (d:DV),a.toList[i]? =some v->l[i]? =some d->Rel R v d)->Rel R (.agg a) (.agg l)
 |bb {a:Array Value} {l:List DV}:a.toList.length=l.length->(∀(i:Nat) (v:Value) (d:DV),a.toList[i]? =some v->l[i]? =some d->Rel R v d)->Rel R (.tuple a) (.bb l)
 |fn {f:FuncId} {a c:Array Value} {a' c':List DV}:a.toList.length=a'.length->(∀(i:Nat) (v:Value) (d:DV),a.toList[i]? =some v->a'[i]? =some d->Rel R v d)->c.toList.length=c'.length->(∀(i:Nat) (v:Value) (d:DV),c.toList[i]? =some v->c'[i]? =some d->Rel R v d)->
  Rel R (.func (.func f) a c) (.fn f a' c')
 |j9 {c k:Nat}:0<k->Rel R (.slice none 0 c) (.sl k [])
 |sl {b o c k ah:Nat} {cs:List Value} {xs:List (List DV)}:R b=some (cs,ah)->(ah=0\/ah=k)->0<k->xs.length<=c->(∀x∈xs,x.length=k)->o+xs.length*k<=cs.length->
  (∀(j:Nat) (x:List DV) (i:Nat) (v:Value) (d:DV),xs[j]? =some x->x[i]? =some d->cs[o+j*k+i]? =some v->Rel R v d)->Rel R (.slice (some ⟨b,o,none⟩) xs.length c) (.sl k xs)
 |ptr {b o off ah:Nat} {cs:List Value} {xs:List DV}:R b=some (cs,ah)->o+xs.length<=cs.length->(∀(i:Nat) (v:Value) (d:DV),xs[i]? =some d->cs[o+i]? =some v->Rel R v d)->Rel R (.pointer (some ⟨b,o+off,none⟩)) (.ptr xs off)
theorem Rel.mono{R R':Rows}(hR:∀i r,R i=some r->R' i=some r){v:Value}{d:DV}(h:Rel R v d):Rel R' v d:=by
 induction h with
 |v x=>exact .v x
 |agg h1 _ ih=>exact .agg h1 ih
 |bb h1 _ ih=>exact .bb h1 ih
 |fn h1 _ h3 _ ai av=>exact .fn h1 ai h3 av
 |j9 h=>exact .j9 h
 |sl h1 h2 h3 h4 h5 h6 _ ih=>exact .sl (hR _ _ h1) h2 h3 h4 h5 h6 ih
 |ptr h1 h2 _ ih=>exact .ptr (hR _ _ h1) h2 ih
abbrev b8(R:Rows):List Value->List DV->Prop:=aO (Rel R)
theorem pR{R:Rows}{a:List Value}{l:List DV}(h1:a.length=l.length)(h2:∀(i:Nat) (v:Value) (d:DV),a[i]? =some v->l[i]? =some d->Rel R v d):b8 R a l:=aO.qJ h1 h2
theorem b8.ru{R:Rows}{a:List Value}{l:List DV}(h:b8 R a l){i:Nat}{v:Value}{d:DV}(h1:a[i]? =some v)(h2:l[i]? =some d):Rel R v d:=by
 obtain⟨d',h3,h4⟩:=h.get i v h1;rw[h2]at h3;cases h3;exact h4
theorem b8.zT{R:Rows}{a:List Value}{l:List DV}(h:b8 R a l){i:Nat}{d:DV}(h2:l[i]? =some d):∃v,a[i]? =some v/\Rel R v d:=by
 have hl:=(List.getElem?_eq_some_iff.1 h2).1;have:i<a.length:=by rw[h.length];exact hl
 exact⟨_,ZL this,h.ru (ZL this) h2⟩
theorem Rel.dG{R:Rows}{a:List Value}{l:List DV}(h:b8 R a l):Rel R (.agg a.toArray) (.agg l):=.agg (by simpa using h.length) λi v d h1 h2=>h.ru (by simpa using h1) h2
theorem Rel.jG{R:Rows}{a:List Value}{l:List DV}(h:b8 R a l):Rel R (.tuple a.toArray) (.bb l):=.bb (by simpa using h.length) λi v d h1 h2=>h.ru (by simpa using h1) h2
theorem Rel.Qj{R:Rows}{f:FuncId}{a c:List Value}{a' c':List DV}(h:b8 R a a')(h':b8 R c c'):Rel R (.func (.func f) a.toArray c.toArray) (.fn f a' c'):=
 .fn (by simpa using h.length) (λi v d h1 h2=>h.ru (by simpa using h1) h2) (by simpa using h'.length) λi v d h1 h2=>h'.ru (by simpa using h1) h2
theorem Rel.cG{R:Rows}{v u:Value}(h:Rel R v (.v u)):v=u:=by cases h;rfl
theorem Rel.pD{R:Rows}{v:Value}{l:List DV}(h:Rel R v (.agg l)):∃a:Array Value,v=.agg a/\b8 R a.toList l:=by
 cases h with|agg h1 h2=>exact⟨_,rfl,pR h1 h2⟩
theorem Rel.zU{R:Rows}{v:Value}{l:List DV}(h:Rel R v (.bb l)):∃a:Array Value,v=.tuple a/\b8 R a.toList l:=by
 cases h with|bb h1 h2=>exact⟨_,rfl,pR h1 h2⟩
theorem Rel.uK{R:Rows}{v:Value}{f:FuncId}{a c:List DV}(h:Rel R v (.fn f a c)):∃a' c':Array Value,v=.func (.func f) a' c'/\b8 R a'.toList a/\b8 R c'.toList c:=by
 cases h with|fn h1 h2 h3 h4=>exact⟨_,_,rfl,pR h1 h2,pR h3 h4⟩
theorem b8.mono{R R':Rows}(hR:∀i r,R i=some r->R' i=some r){a:List Value}{l:List DV}(h:b8 R a l):b8 R' a l:=aO.mono h λ_ _=>Rel.mono hR
structure bq where
 key:Value
 val:DV
 born:Nat
inductive bx where
 |row (cs:List DV) (wr:Bool) (ah:Nat)
 |map (es:List bq) (clock:Nat)
 |cj (m:Option Nat) (since:Nat) (seen:List Nat) (last:Nat)
 |eC (s:ByteArray) (pos:Nat)
structure iy(R:Rows)(x:MapEntry)(y:bq):Prop where
 key:x.key=y.key
 val:Rel R x.val y.val
 born:x.born=y.born
inductive iW(R:Rows):bF->bx->Prop
 |row {cs:List Value} {ds:List DV} {wr:Bool} {ah:Nat}:b8 R cs ds->iW R (.row cs wr ah) (.row ds wr ah)
 |map {es:List MapEntry} {ds:List bq} {clock:Nat}:aO (iy R) es ds->iW R (.map es clock) (.map ds clock)
 |cj {m:Option Nat} {since:Nat} {seen:List Nat} {last:Nat}:iW R (.cj m since seen last) (.cj m since seen last)
 |eC {s:ByteArray} {pos:Nat}:iW R (.eC s pos) (.eC s pos)
theorem iW.mono{R R':Rows}(hR:∀i r,R i=some r->R' i=some r){o:bF}{d:bx}(h:iW R o d):iW R' o d:=by
 cases h with
 |row h=>exact .row (h.mono hR)
 |map h=>exact .map (aO.mono h λ_ _ ⟨a,b,c⟩=>⟨a,b.mono hR,c⟩)
 |cj=>exact .cj
 |eC=>exact .eC
structure ab where
 m:Tr bx
 next:Nat
def ab.get(h:ab)(i:Nat):Option bx:=h.m.get i
def ab.set(h:ab)(i:Nat)(o:Option bx):ab:=⟨h.m.set i o,h.next⟩
def ab.new(h:ab)(o:bx):ab:=⟨h.m.set h.next (some o),h.next+1⟩
def ab.none(N:Nat):ab:=⟨.nil,N⟩
def ab.up(h:ab)(N:Nat):ab:=⟨h.m,N⟩
theorem ab.bn(h:ab)(i j:Nat)(o:Option bx):(h.set i o).get j=if j=i then o else h.get j:=Tr.bn _ _ _ _
theorem ab.di(h:ab)(j:Nat)(o:bx):(h.new o).get j=if j=h.next then some o else h.get j:=Tr.bn _ _ _ _
theorem ab.get_none(N i:Nat):(ab.none N).get i=Option.none:=Tr.get_nil _
theorem ab.sN(h:ab)(N i:Nat):(h.up N).get i=h.get i:=rfl
theorem ab.aR(h:ab)(i:Nat)(o:Option bx):(h.set i o).next=h.next:=rfl
theorem ab.aX(h:ab)(o:bx):(h.new o).next=h.next+1:=rfl
theorem ab.Ex(N:Nat):(ab.none N).next=N:=rfl
theorem ab.fH(h:ab)(N:Nat):(h.up N).next=N:=rfl
open Classical in
def aI(h:aa)(G:Nat->Prop):Rows:=λi=>if G i then match h.get i with|some (.row cs _ ah)=>some (cs,ah)|_=>none else none
theorem pS{h:aa}{G:Nat->Prop}{i:Nat}{r:List Value×Nat}(hf:aI h G i=some r):G i/\∃wr,h.get i=some (.row r.1 wr r.2):=by
 unfold aI at hf
 split at hf
 . rename_i hg;refine⟨hg, ?_⟩
   split at hf
   . rename_i cs wr ah he;cases hf;exact⟨wr,he⟩
   . cases hf
 . cases hf
theorem ry{h:aa}{G:Nat->Prop}{i:Nat}{cs:List Value}{wr:Bool}{ah:Nat}(hg:G i)(hh:h.get i=some (.row cs wr ah)):aI h G i=some (cs,ah):=by
 unfold aI;rw[if_pos hg,hh]
theorem iz{h h':aa}{G G':Nat->Prop}(hk:∀i,G i->G' i/\h'.get i=h.get i):∀i r,aI h G i=some r->aI h' G' i=some r:=λi r hf=>by
 obtain⟨h1,wr,h2⟩:=pS hf;obtain⟨h3,h4⟩:=hk i h1;exact ry h3 (h4.trans h2)
def Qk:List Int:=[0,1,56,2,57,49,28,3,61,58,42,50,38,29,17,4,62,47,59,36,45,43,51,22,53,39,33,30,24,18,12,5,63,55,48,27,60,41,37,16,46,35,44,21,52,32,23,11,54,26,40,15,34,20,31,10,25,14,19,9,13,8,7,6]
def iX:List Value:=Qk.map λn=>.int .u8 n
def pT:List DV:=iX.map .v
def oG(R:Rows):Prop:=∃z,R 0=some (iX,z)
theorem oG.mono{R R':Rows}(h:oG R)(hR:∀i r,R i=some r->R' i=some r):oG R':=let⟨z,hz⟩:=h;⟨z,hR _ _ hz⟩
theorem oG.rel{R:Rows}(h:oG R):Rel R (.pointer (some ⟨0,0,none⟩)) (.ptr pT 0):=by
 obtain⟨z,hz⟩:=h;exact Rel.ptr (o:=0) (off:=0) hz (by simp[pT]) λi v d h1 h2=>by
  rw[Nat.zero_add]at h2;rw[pT,List.getElem?_map,h2]at h1;cases h1;exact .v v
structure bH(G:Nat->Prop)(h:aa)(d:ab):Prop where
 eU:oG (aI h G)
 next:h.next=d.next
 obj:∀i o,d.get i=some o->i<h.next/\∃ao,h.get i=some ao/\iW (aI h G) ao o
 still:∀i,G i->i<h.next/\d.get i=none
structure Kp(G:Nat->Prop)(h:aa)(d:ab)(G':Nat->Prop)(h':aa)(d':ab):Prop where
 next:h.next<=h'.next
 same:∀i,i<h.next->d.get i=none->h'.get i=h.get i/\d'.get i=none
 up:∀i,G i->G' i
 aY:∀i,i<h.next->G' i->G i\/(d.get i).isSome=true
theorem Kp.refl(G:Nat->Prop)(h:aa)(d:ab):Kp G h d G h d:=⟨TF _,λ_ _ h=>⟨rfl,h⟩,λ_ h=>h,λ_ _ h=>.inl h⟩
theorem Kp.trans{G G' ad:Nat->Prop}{h h' ae:aa}{d d' af:ab}(a:Kp G h d G' h' d')(b:Kp G' h' d' ad ae af):Kp G h d ad ae af where
 next:=Nat.le_trans a.next b.next
 same i hi hd:=by
  obtain⟨h1,h2⟩:=a.same i hi hd;obtain⟨h3,h4⟩:=b.same i (Z4 hi a.next) h2;exact⟨h3.trans h1,h4⟩
 up i hg:=b.up i (a.up i hg)
 aY i hi hg:=by
  rcases b.aY i (Z4 hi a.next) hg with h1|h1
  . exact a.aY i hi h1
  . cases hd:d.get i with
    |some o=>exact .inr rfl
    |none=>rw[(a.same i hi hd).2]at h1;cases h1
theorem Kp.aI{G G':Nat->Prop}{h h':aa}{d d':ab}(k:Kp G h d G' h' d')(x:bH G h d):∀i r,aI h G i=some r->au.aI h' G' i=some r:=
 iz λi hg=>⟨k.up i hg,(k.same i (x.still i hg).1 (x.still i hg).2).1⟩
structure DS where
 t:Tr DV
 n:Nat
 dd:List FuncId
 h:ab
def rz(d:Deferred)(g:FuncId):Prop:=∃cap args,d={target:=.fn (.func g) cap,args}
structure SD(G:Nat->Prop)(s:aE)(d:DS):Prop where
 n:s.n=d.n
 t:∀i v,d.t.get i=some v->∃u,s.t.get i=some u/\Rel (aI s.h G) u v
 dd:aO rz s.ds d.dd
 h:bH G s.h d.h
def uL:DV->Option Value
 |.v v=>some v
 |_=>none
def exact:DV->Option Value
 |.v v=>some v
 |.agg l=>(l.mapM uL).map λl=>.agg l.toArray
 |_=>none
theorem Ey{R:Rows}:∀{a:List Value} {l:List DV} {u:List Value},b8 R a l->l.mapM uL=some u->a=u
 |_,_,u,.nil,h=>by simp at h;exact h.symm
 |_,_,u,.cons (a:=v) (b:=d) (x:=x) (y:=y) h1 h2,h=>by
  cases d with
  |v w=>
   simp only[abR,uL,Option.pure_def,Option.bind_eq_bind,Option.bind_some,Option.bind_eq_some_iff,PX]at h;obtain⟨r,h3,rfl⟩:=h;rw[h1.cG,Ey h2 h3]
  |_=>simp[abR,uL]at h
theorem oH{R:Rows}{v u:Value}{d:DV}(h:Rel R v d)(he:exact d=some u):v=u:=by
 cases d with
 |v w=>simp only[exact,PX]at he;rw[h.cG,he]
 |agg l=>
  obtain⟨a,rfl,h2⟩:=h.pD;simp only[exact,Xw]at he;obtain⟨u',h3,rfl⟩:=he;have:=Ey h2 h3;rw[<-this]
 |_=>cases he
def ca:DV->List DV
 |.agg l=>l
 |d=>[d]
theorem zV{R:Rows}{v:Value}{d:DV}(h:Rel R v d)(ho:∀u,d=.v u->dw u=true):b8 R v.cells.toList (ca d):=by
 have one:∀u:Value,dw u=true->u.cells=#[u]:=λu hu=>by cases u<;>first|rfl|cases hu
 cases h with
 |v v=>rw[one v (ho v rfl)];exact .cons (.v v) .nil
 |agg h1 h2=>exact pR h1 h2
 |bb h1 h2=>exact .cons (.bb h1 h2) .nil
 |fn h1 h2 h3 h4=>exact .cons (.fn h1 h2 h3 h4) .nil
 |j9 h=>exact .cons (.j9 h) .nil
 |sl h1 h2 h3 h4 h5 h6 h7=>exact .cons (.sl h1 h2 h3 h4 h5 h6 h7) .nil
 |ptr h1 h2 h3=>exact .cons (.ptr h1 h2 h3) .nil
def cO:DV->Bool
 |.v v=>dw v
 |.agg _=>false
 |.bb _=>false
 |_=>true
theorem Ql{R:Rows}{v:Value}{d:DV}(h:Rel R v d)(ho:cO d=true):dw v=true:=by
 cases h<;>first|rfl|exact ho|cases ho
theorem xg{R:Rows}:∀{a:List Value} {l:List DV},b8 R a l->l.all cO=true->a.all dw=true
 |_,_,.nil,_=>rfl
 |_,_,.cons h1 h2,h=>by
  simp only[List.all_cons,Bool.and_eq_true]at h⊢;exact⟨Ql h1 h.1,xg h2 h.2⟩
end Go.au
end

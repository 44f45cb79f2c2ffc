/- SpacingIndependent: parts of its proof. -/
import Derived.Test.YtmhjnafgdhaemaaGreatDoorK51
open List renaming getElem?_eq_some_iff->qe,all_eq_true->xS,getElem?_eq_getElem->Er,mem_map->PX,length_map->TF,mem_of_getElem?->W2,mem_cons->W9,foldl_cons->Xw,range->Zj,mem_cons_of_mem->ZJ,take_add_one->ZL,mem_append->abR,take_of_length_le->ab8,not_mem_nil->adr,map_append->adS,mem_filter->adU
open Nat renaming le_refl->DE,mul_one->VK,pow_le_pow_right->adT,le_of_ble_eq_true->adV
open Bool renaming and_eq_true->GP,or_eq_true->Zr
open Int renaming toNat_of_nonneg->PO
open Iff renaming rfl->Qc
open Option renaming toList_some->Z4
set_option linter.all false
set_option maxRecDepth 100000
noncomputable section
open Go Go.au Go.Proofs
namespace Go.Sp
theorem Jg(l:List Nat):∀x∈l.map λn=>[iV (n:Nat)],x.length=1:=λx hx=>by obtain⟨y,_,rfl⟩:=PX.1 hx;rfl
theorem Jh(l:List Nat)(n:Nat)(hl:l.length<=1000000):ay E true 40 [dq l,iV (n:Nat)] (bV (decide (n∈l))):=by
 refine aW Tryz.ntmps40 Tryz.results40 λN=> ?_;simp(disch:=omega)[go_sem];obtain⟨I,hI⟩:∃I:Nat->DS->Prop,∀j d,I j d↔∃(k:Nat) (H:ab),j+k=l.length/\n∉l.take k/\d=⟨bz [(0,dq l),(1,iV (n:Nat)),(5,iV (k:Nat))],18,[],H⟩:=⟨_,λ_ _=>Qc⟩;refine bO I l.length ⟨_,ax.bg (l:=[(0,dq l),(1,iV (n:Nat)),(5,iV (0:Nat))]) ?_,(hI _ _).2 ⟨0,_,rfl,by simp,rfl⟩⟩ ?_
 . simp(disch:=omega)[go_sem]
 . intro j ds ao;obtain⟨k,H,hj,aA,rfl⟩:=(hI _ _).1 ao;clear ao;by_cases aw:k<l.length
   . have aa:(k:Int)<l.length:=by omega
     obtain⟨x,hx⟩:∃x,l[k]? =some x:=⟨_,Er aw⟩;by_cases aB:x=n
     . have ad:n∈l:=aB▸W2 hx;simp(disch:=omega)[go_sem,aa,hx,-getElem?_pos,aB,ad]
     . have aD:¬(x:Int)=n:=by omega
       simp(disch:=omega)[go_sem,aa,hx,-getElem?_pos,aD,aC];refine⟨j-1,by omega,_,ax.bg (l:=[(0,dq l),(1,iV (n:Nat)),(5,iV (k+1:Nat))]) ?_,(hI _ _).2 ⟨k+1,_,by omega, ?_,rfl⟩⟩
       . simp(disch:=omega)[go_sem]
       . rw[ZL,hx,Z4,abR,List.mem_singleton];rintro(h|h)
         . exact aA h
         . exact aB h.symm
   . have aa:¬(k:Int)<l.length:=by omega
     rw[ab8 (by omega)]at aA;simp(disch:=omega)[go_sem,aa,aA]
def nV(out:List Nat)(x:Nat):List Nat:=if x∈out then out else out++[x]
def fi(l m:List Nat):List Nat:=m.foldl nV l
def lr(H:ab)(B:Nat)(l:List Nat)(pv:DV):Prop:=∃R ah,B<=R/\R<H.next/\pv=.v (.slice (some ⟨R,0,none⟩) l.length l.length)/\(ah=0\/ah=1)/\H.get R=some (.row (l.map λn=>[iV (n:Nat)]).flatten true ah)
theorem CL(l:List Nat):(l.map λn=>[iV (n:Nat)]).flatten.length=l.length:=by rw[eW (k:=1) (Jg l),TF,VK]
theorem Ji(l:List Nat):((l.map λn=>[iV (n:Nat)]).flatten).all cO=true:=by
 simp only[xS,List.mem_flatten,PX];rintro x ⟨_,⟨s,_,rfl⟩,hx⟩;simp only[W9,adr,or_false]at hx;subst hx;rfl
theorem lr.fz{H:ab}{B:Nat}{l:List Nat}{pv:DV}(h:lr H B l pv):Fz (allRows H) pv (dq l):=by
 obtain⟨R,ah,h1,h2,rfl,h4,h5⟩:=h;exact dU (ah:=ah) (cx h5) h4 (by decide) (by simp) (DE _) (Jg l)
theorem lr.same{H H':ab}{B:Nat}{l:List Nat}{pv:DV}(h:lr H B l pv)(hs:∀j,B<=j->j<H.next->H'.get j=H.get j)(hN:H.next<=H'.next):lr H' B l pv:=by
 obtain⟨R,ah,h1,h2,h3,h4,h5⟩:=h;exact⟨R,ah,h1,by omega,h3,h4,by rw[hs R h1 h2,h5]⟩
theorem lr.app{H:ab}{B:Nat}{l m:List Nat}{pv:DV}{K:DV×ab×List Nat->Prop}(h:lr H B l pv)(hb:(l.length+m.length)*9<=1073741824){x:DV}(hx:fy H 1 x=some (m.length,(m.map λn=>[iV (n:Nat)]).flatten))
 (hk:∀H' af T,lr H' B (l++m) af->H.next<=H'.next->(∀j,j<B->H'.get j=H.get j)->(∀i∈T,B<=i)->ca af=[af]->K (af,H',T)):aG (jb E H [49,49].toArray (some [pv,x])) K:=by
 obtain⟨R,ah,h1,h2,rfl,h4,h5⟩:=h;have e:jb E H [49,49].toArray (some [.v (.slice (some ⟨R,0,none⟩) l.length l.length),x])=eo H (some ⟨R,0,none⟩) l.length l.length 1 8 m.length (m.map λn=>[iV (n:Nat)]).flatten:=by
  have:=xq (e:=E) H 49 49 [] (some ⟨R,0,none⟩) l.length l.length x;rw[uW,uU,E4,hx]at this;exact this
 rw[e];refine yu h5 h4 (by rw[CL,VK]) (by decide) (by rw[CL,VK]) (Ji m) hb h2 λR' h' T ai g1 g2 g3 g4 g5 g6 g7=> ?_;have e2:=hk h' (.v (.slice (some ⟨R',0,none⟩) (l.length+m.length) (l.length+m.length))) T ⟨R',ai,by omega,g4,by rw[List.length_append],g1,by rw[adS,List.flatten_append];exact g2⟩ g5 (λj hj=>g6 j (by omega) (by omega)) (λi hi=>by rw[g7 i hi];exact h1) rfl;exact e2
set_option maxHeartbeats 4000000 in
theorem Jj(l m:List Nat)(hl:l.length<=400000)(hm:m.length<=400000):ay E true 80 [dq l,dq m] (dq (fi l m)):=by
 refine aW Tryz.ntmps80 Tryz.results80 λN=> ?_;obtain⟨az,av⟩:∃az,fi l m=az:=⟨_,rfl⟩;rw[av];obtain⟨I,hI⟩:∃I:Nat->DS->Prop,∀j d,I j d↔∃(k:Nat) (out:List Nat) (H:ab) (pv:DV),j+k=m.length/\out.length<=l.length+k/\fi out (m.drop k)=az/\N<=H.next/\lr H N out pv/\d=⟨bz [(1,dq m),(5,pv),(6,iV (k:Nat))],31,[],H⟩:=⟨_,λ_ _=>Qc⟩;simp(disch:=omega)[go_sem];refine yu (R:=N) (ah:=0) (cs:=[]) (by simp(disch:=omega)[go_sem]) (.inl rfl) rfl (by decide) (by rw[CL,VK]) (Ji l) (by omega) (by simp(disch:=omega)[go_sem]) λR' h' T ai g1 g2 g3 g4 g5 g6 g7=> ?_;simp(disch:=omega)[go_sem]at g2 g3 g5⊢;refine bO I m.length ⟨_,ax.bg (l:=[(1,dq m),(5,.v (.slice (some ⟨R',0,none⟩) l.length l.length)),(6,iV (0:Nat))]) ?_,(hI _ _).2 ⟨0,l,h',_,rfl,by omega,av,by omega,⟨R',ai,by omega,g4,rfl,g1,g2⟩,rfl⟩⟩ ?_
 . simp(disch:=omega)[go_sem]
 . intro j ds ao;obtain⟨k,out,H,pv,hj,aF,ae,hN,hgr,rfl⟩:=(hI _ _).1 ao;clear ao;by_cases aw:k<m.length
   . have aa:(k:Int)<m.length:=by omega
     obtain⟨x,hx⟩:∃x,m[k]? =some x:=⟨_,Er aw⟩;have aE:m.drop k=x::m.drop (k+1):=by rw[List.drop_eq_getElem_cons aw,(qe.1 hx).2]
     rw[aE]at ae;simp only[fi,Xw]at ae;simp(disch:=omega)[go_sem,aa,hx,-getElem?_pos];refine an.pl (Jh out x (by omega)) (.cons hgr.fz (.cons (.refl _) .nil)) λM hM=> ?_;by_cases ad:x∈out
     . rw[show nV out x=out from if_pos ad]at ae;simp(disch:=omega)[go_sem,ad,aC];refine⟨j-1,by omega,_,ax.bg (l:=[(1,dq m),(5,pv),(6,iV (k+1:Nat))]) ?_,(hI _ _).2 ⟨k+1,out,H.up M,pv,by omega,by omega,ae, ?_,hgr.same (λ_ _ _=>rfl) (by rw[ab.fH];omega),rfl⟩⟩
       . simp(disch:=omega)[go_sem]
       . rw[ab.fH];omega
     . rw[show nV out x=out++[x]from if_neg ad]at ae;simp(disch:=omega)[go_sem,ad,hx,-getElem?_pos];refine lr.app (m:=[x]) (hgr.same (λq q1 q2=>by rw[ab.di,if_neg (by rw[ab.fH];omega)];rfl) (by rw[ab.aX,ab.fH];omega)) (by simp;omega) (by simp(disch:=omega)[go_sem]) λH' af T q1 q2 q3 q4 q5=> ?_;simp(disch:=omega)[go_sem]at q2;simp(disch:=omega)[go_sem,aC];refine⟨j-1,by omega,_,ax.bg (l:=[(1,dq m),(5,af),(6,iV (k+1:Nat))]) ?_,(hI _ _).2 ⟨k+1,out++[x],H',af,by omega,by simp;omega,ae,by omega,q1,rfl⟩⟩;simp(disch:=omega)[go_sem]
   . have aa:¬(k:Int)<m.length:=by omega
     rw[List.drop_eq_nil_of_le (by omega)]at ae;have ae:out=az:=ae;subst ae;simp(disch:=omega)[go_sem,aa];exact hgr.fz
inductive Mt(p:List aL)(s:List UInt8):Nat->Nat->Nat->Prop
 |gj {i a:Nat} {x:aL} {c:UInt8} (h1:p[i]? =some x) (h2:x.kind=1) (h3:s[a]? =some c) (h4:x.lo<=c.toNat) (h5:(c.toNat:Int)<=x.hi):Mt p s i a (a+1)
 |seq {i a b c:Nat} {x:aL} (h1:p[i]? =some x) (h2:x.kind=2) (h3:Mt p s x.a.toNat a b) (h4:Mt p s x.b.toNat b c):Mt p s i a c
 |qu {i a b:Nat} {x:aL} (h1:p[i]? =some x) (h2:x.kind=3) (h3:Mt p s x.a.toNat a b):Mt p s i a b
 |qv {i a b:Nat} {x:aL} (h1:p[i]? =some x) (h2:x.kind=3) (h3:Mt p s x.b.toNat a b):Mt p s i a b
 |mV {i a:Nat} {x:aL} (h1:p[i]? =some x) (h2:x.kind=4):Mt p s i a a
 |tW {i a b c:Nat} {x:aL} (h1:p[i]? =some x) (h2:x.kind=4) (h3:Mt p s i a b) (h4:Mt p s x.a.toNat b c):Mt p s i a c
theorem Mt.ext{p:List aL}{s:List UInt8}{i a b c:Nat}{x y:aL}(hx:p[i]? =some x)(hk:x.kind=2)(hy:p[x.b.toNat]? =some y)(ab:y.kind=4)(h:Mt p s i a b)(h2:Mt p s y.a.toNat b c):Mt p s i a c:=by
 cases h with
 |seq h1 h3 h4 h5=>rw[hx]at h1;cases h1;exact .seq hx hk h4 (.tW hy ab h5 h2)
 |gj h1 h3=>rw[hx]at h1;cases h1;omega
 |qu h1 h3=>rw[hx]at h1;cases h1;omega
 |qv h1 h3=>rw[hx]at h1;cases h1;omega
 |mV h1 h3=>rw[hx]at h1;cases h1;omega
 |tW h1 h3=>rw[hx]at h1;cases h1;omega
def Wq(p:List aL)(s:List UInt8)(q:Nat->Option Nat)(i j:Nat):Prop:=match q i with
 |none=>j=0
 |some n=>Mt p s n 0 j
def Kd(m:bP)(i:Nat):Prop:=∃x,m.p[i]? =some x/\x.kind=1
structure Good(m:bP)(q:Nat->Option Nat):Prop where
 emp:m.empty=false
 first:∀i∈bits m.first,Kd m i/\q i=none
 step:∀(s:List UInt8) (i j:Nat) (x:aL) (c:UInt8) (f:Nat),m.p[i]? =some x->x.kind=1->s[j]? =some c->x.lo<=c.toNat->(c.toNat:Int)<=x.hi->Wq m.p s q i j->m.follow[i]? =some f->(∀i'∈bits f,Kd m i'/\Wq m.p s q i' (j+1))/\(i∈bits m.last->Mt m.p s (m.p.length-1) 0 (j+1))
theorem acJ:Good fY (λi=>if i=1 then some 3 else none)where
 emp:=rfl
 first:=λi hi=>by
  obtain rfl:i=0:=by simpa using (show i∈([0]:List Nat)from hi)
  exact⟨⟨_,rfl,rfl⟩,rfl⟩
 step:=λs i j x c f hx hk hc h1 h2 hw hf=>by
  rcases i with _|_|_|_|i
  . cases hx;cases hf;obtain rfl:j=0:=hw;have h3:Mt fD s 3 0 1:=.seq rfl rfl (.gj rfl rfl hc h1 h2) (.mV rfl rfl);exact⟨λi' aa=>by
     obtain rfl:i'=1:=by simpa using (show i'∈([1]:List Nat)from aa)
     exact⟨⟨_,rfl,rfl⟩,h3⟩,λ_=>h3⟩
  . cases hx;cases hf;have h3:Mt fD s 3 0 j:=hw;have h4:Mt fD s 3 0 (j+1):=h3.ext rfl rfl rfl rfl (.gj rfl rfl hc h1 h2);exact⟨λi' aa=>by
     obtain rfl:i'=1:=by simpa using (show i'∈([1]:List Nat)from aa)
     exact⟨⟨_,rfl,rfl⟩,h4⟩,λ_=>h4⟩
  . cases hx;cases hk
  . cases hx;cases hk
  . cases hx
theorem acK:Good lj (λi=>if i=0 then none else some 3)where
 emp:=rfl
 first:=λi hi=>by
  obtain rfl:i=0:=by simpa using (show i∈([0]:List Nat)from hi)
  exact⟨⟨_,rfl,rfl⟩,rfl⟩
 step:=λs i j x c f hx hk hc h1 h2 hw hf=>by
  have go:∀k,Mt ky s 3 0 k->∀i'∈bits 18,Kd lj i'/\Wq ky s (λi=>if i=0 then none else some 3) i' k:=λk h i' aa=>by
   rcases(by simpa using (show i'∈([1,4]:List Nat)from aa):i'=1\/i'=4)with rfl|rfl
   . exact⟨⟨_,rfl,rfl⟩,h⟩
   . exact⟨⟨_,rfl,rfl⟩,h⟩
  have no:∀k,k∈bits lj.last->k=4:=λk h=>by simpa using (show k∈([4]:List Nat)from h)
  rcases i with _|_|_|_|_|_|i
  . cases hx;cases hf;obtain rfl:j=0:=hw;exact⟨go 1 (.seq rfl rfl (.gj rfl rfl hc h1 h2) (.mV rfl rfl)),λh=>absurd (no _ h) (by decide)⟩
  . cases hx;cases hf;have h3:Mt ky s 3 0 j:=hw;exact⟨go (j+1) (h3.ext rfl rfl rfl rfl (.gj rfl rfl hc h1 h2)),λh=>absurd (no _ h) (by decide)⟩
  . cases hx;cases hk
  . cases hx;cases hk
  . cases hx;cases hf;have h3:Mt ky s 3 0 j:=hw;exact⟨λi' aa=>(by cases aa),λ_=>.seq rfl rfl h3 (.gj rfl rfl hc h1 h2)⟩
  . cases hx;cases hk
  . cases hx
theorem acL:Good tR (λi=>if i=0 then none else if i=1 then some 0 else some 5)where
 emp:=rfl
 first:=λi hi=>by
  obtain rfl:i=0:=by simpa using (show i∈([0]:List Nat)from hi)
  exact⟨⟨_,rfl,rfl⟩,rfl⟩
 step:=λs i j x c f hx hk hc h1 h2 hw hf=>by
  have go:∀k,Mt nR s 5 0 k->∀i'∈bits 8,Kd tR i'/\Wq nR s (λi=>if i=0 then none else if i=1 then some 0 else some 5) i' k:=λk h i' aa=>by
   obtain rfl:i'=3:=by simpa using (show i'∈([3]:List Nat)from aa)
   exact⟨⟨_,rfl,rfl⟩,h⟩
  have no:∀k,k∈bits tR.last->k=1\/k=3:=λk h=>by simpa using (show k∈([1,3]:List Nat)from h)
  rcases i with _|_|_|_|_|_|i
  . cases hx;cases hf;obtain rfl:j=0:=hw;exact⟨λi' aa=>by
     obtain rfl:i'=1:=by simpa using (show i'∈([1]:List Nat)from aa)
     exact⟨⟨_,rfl,rfl⟩,.gj rfl rfl hc h1 h2⟩,λh=>absurd (no _ h) (by decide)⟩
  . cases hx;cases hf;have h3:Mt nR s 0 0 j:=hw;have h4:Mt nR s 5 0 (j+1):=.seq rfl rfl (.seq rfl rfl h3 (.gj rfl rfl hc h1 h2)) (.mV rfl rfl);exact⟨go _ h4,λ_=>h4⟩
  . cases hx;cases hk
  . cases hx;cases hf;have h3:Mt nR s 5 0 j:=hw;have h4:Mt nR s 5 0 (j+1):=h3.ext rfl rfl rfl rfl (.gj rfl rfl hc h1 h2);exact⟨go _ h4,λ_=>h4⟩
  . cases hx;cases hk
  . cases hx;cases hk
  . cases hx
theorem acM:Good vQ (λi=>if i=0 then none else some 0)where
 emp:=rfl
 first:=λi hi=>by
  obtain rfl:i=0:=by simpa using (show i∈([0]:List Nat)from hi)
  exact⟨⟨_,rfl,rfl⟩,rfl⟩
 step:=λs i j x c f hx hk hc h1 h2 hw hf=>by
  have no:∀k,k∈bits vQ.last->k=1:=λk h=>by simpa using (show k∈([1]:List Nat)from h)
  rcases i with _|_|_|i
  . cases hx;cases hf;obtain rfl:j=0:=hw;exact⟨λi' aa=>by
     obtain rfl:i'=1:=by simpa using (show i'∈([1]:List Nat)from aa)
     exact⟨⟨_,rfl,rfl⟩,.gj rfl rfl hc h1 h2⟩,λh=>absurd (no _ h) (by decide)⟩
  . cases hx;cases hf;have h3:Mt vP s 0 0 j:=hw;exact⟨λi' aa=>(by cases aa),λ_=>.seq rfl rfl h3 (.gj rfl rfl hc h1 h2)⟩
  . cases hx;cases hk
  . cases hx
theorem acN:Good vO (λi=>if i=0 then none else some 5)where
 emp:=rfl
 first:=λi hi=>by
  obtain rfl:i=0:=by simpa using (show i∈([0]:List Nat)from hi)
  exact⟨⟨_,rfl,rfl⟩,rfl⟩
 step:=λs i j x c f hx hk hc h1 h2 hw hf=>by
  have go:∀k,Mt nL s 5 0 k->∀i'∈bits 6,Kd vO i'/\Wq nL s (λi=>if i=0 then none else some 5) i' k:=λk h i' aa=>by
   rcases(by simpa using (show i'∈([1,2]:List Nat)from aa):i'=1\/i'=2)with rfl|rfl
   . exact⟨⟨_,rfl,rfl⟩,h⟩
   . exact⟨⟨_,rfl,rfl⟩,h⟩
  rcases i with _|_|_|_|_|_|i
  . cases hx;cases hf;obtain rfl:j=0:=hw;have h4:Mt nL s 5 0 1:=.seq rfl rfl (.gj rfl rfl hc h1 h2) (.mV rfl rfl);exact⟨go _ h4,λ_=>h4⟩
  . cases hx;cases hf;have h3:Mt nL s 5 0 j:=hw;have h4:Mt nL s 5 0 (j+1):=h3.ext rfl rfl rfl rfl (.qu rfl rfl (.gj rfl rfl hc h1 h2));exact⟨go _ h4,λ_=>h4⟩
  . cases hx;cases hf;have h3:Mt nL s 5 0 j:=hw;have h4:Mt nL s 5 0 (j+1):=h3.ext rfl rfl rfl rfl (.qv rfl rfl (.gj rfl rfl hc h1 h2));exact⟨go _ h4,λ_=>h4⟩
  . cases hx;cases hk
  . cases hx;cases hk
  . cases hx;cases hk
  . cases hx
theorem acO:Good vN (λi=>if i<2 then none else some 7)where
 emp:=rfl
 first:=λi hi=>by
  rcases(by simpa using (show i∈([0,1]:List Nat)from hi):i=0\/i=1)with rfl|rfl
  . exact⟨⟨_,rfl,rfl⟩,rfl⟩
  . exact⟨⟨_,rfl,rfl⟩,rfl⟩
 step:=λs i j x c f hx hk hc h1 h2 hw hf=>by
  have go:∀k,Mt mH s 7 0 k->∀i'∈bits 24,Kd vN i'/\Wq mH s (λi=>if i<2 then none else some 7) i' k:=λk h i' aa=>by
   rcases(by simpa using (show i'∈([3,4]:List Nat)from aa):i'=3\/i'=4)with rfl|rfl
   . exact⟨⟨_,rfl,rfl⟩,h⟩
   . exact⟨⟨_,rfl,rfl⟩,h⟩
  rcases i with _|_|_|_|_|_|_|_|i
  . cases hx;cases hf;obtain rfl:j=0:=hw;have h4:Mt mH s 7 0 1:=.seq rfl rfl (.qu rfl rfl (.gj rfl rfl hc h1 h2)) (.mV rfl rfl);exact⟨go _ h4,λ_=>h4⟩
  . cases hx;cases hf;obtain rfl:j=0:=hw;have h4:Mt mH s 7 0 1:=.seq rfl rfl (.qv rfl rfl (.gj rfl rfl hc h1 h2)) (.mV rfl rfl);exact⟨go _ h4,λ_=>h4⟩
  . cases hx;cases hk
  . cases hx;cases hf;have h3:Mt mH s 7 0 j:=hw;have h4:Mt mH s 7 0 (j+1):=h3.ext rfl rfl rfl rfl (.qu rfl rfl (.gj rfl rfl hc h1 h2));exact⟨go _ h4,λ_=>h4⟩
  . cases hx;cases hf;have h3:Mt mH s 7 0 j:=hw;have h4:Mt mH s 7 0 (j+1):=h3.ext rfl rfl rfl rfl (.qv rfl rfl (.gj rfl rfl hc h1 h2));exact⟨go _ h4,λ_=>h4⟩
  . cases hx;cases hk
  . cases hx;cases hk
  . cases hx;cases hk
  . cases hx
theorem acP(m:bP)(hm:m∈cW):∃q,Good m q:=by
 simp only[cW,W9,adr,or_false]at hm;rcases hm with rfl|rfl|rfl|rfl|rfl|rfl
 . exact⟨_,acJ⟩
 . exact⟨_,acO⟩
 . exact⟨_,acN⟩
 . exact⟨_,acK⟩
 . exact⟨_,acL⟩
 . exact⟨_,acM⟩
theorem CM(w:Nat)(h:w<256)(i:Nat):i∈bits w↔w.testBit i=true:=by
 have hk:((Zj 256).all λw=>(Zj 8).all λi=>(bits w).contains i==w.testBit i)=true:=by kernel_rfl
 rcases Nat.lt_or_ge i 8 with hi|hi
 . have:=xS.1 (xS.1 hk w (by simpa using h)) i (by simpa using hi);rw[<-List.contains_iff_mem,eq_of_beq this]
 . have h1:w.testBit i=false:=Nat.testBit_lt_two_pow (Nat.lt_of_lt_of_le h (adT (n:=2) (by decide) hi));rw[h1];exact⟨λhm=>absurd (IF 8 (DE _) w h i hm) (by omega),λhf=>by cases hf⟩
theorem CN{m:bP}(b:Int):∀(l:List Nat) (s:Nat×Nat) (k:Nat),((l.foldl (λs i=>gH m b i s) s).1.testBit k=true->s.1.testBit k=true\/k∈l/\∃x f,m.p[k]? =some x/\m.follow[k]? =some f/\x.lo<=b/\b<=x.hi)/\
 ((l.foldl (λs i=>gH m b i s) s).2.testBit k=true->s.2.testBit k=true\/∃i∈l,∃x f,m.p[i]? =some x/\m.follow[i]? =some f/\x.lo<=b/\b<=x.hi/\f.testBit k=true)
 |[],s,k=>⟨.inl,.inl⟩
 |i::l,s,k=>by
  obtain⟨h1,h2⟩:=CN (m:=m) b l (gH m b i s) k;simp only[Xw];have key:(gH m b i s=s)\/∃x f,m.p[i]? =some x/\m.follow[i]? =some f/\x.lo<=b/\b<=x.hi/\gH m b i s=(s.1|||2^i,s.2|||f):=by
   unfold gH
   split
   . rename_i x f hx hf
     split
     . rename_i hc;exact .inr ⟨x,f,hx,hf,hc.1,hc.2,rfl⟩
     . exact .inl rfl
   . exact .inl rfl
  refine⟨λh=> ?_,λh=> ?_⟩
  . rcases h1 h with h|⟨h,h'⟩
    . rcases key with e|⟨x,f,hx,hf,e1,e2,e⟩
      . rw[e]at h;exact .inl h
      . rw[e]at h;simp only[Nat.testBit_or,Zr,Nat.testBit_two_pow,decide_eq_true_eq]at h;rcases h with h|rfl
        . exact .inl h
        . exact .inr ⟨by simp,x,f,hx,hf,e1,e2⟩
    . exact .inr ⟨ZJ _ h,h'⟩
  . rcases h2 h with h|⟨i',h,h'⟩
    . rcases key with e|⟨x,f,hx,hf,e1,e2,e⟩
      . rw[e]at h;exact .inl h
      . rw[e]at h;simp only[Nat.testBit_or,Zr]at h;rcases h with h|h
        . exact .inl h
        . exact .inr ⟨i,by simp,x,f,hx,hf,e1,e2,h⟩
    . exact .inr ⟨i',ZJ _ h,h'⟩
theorem bP.Ok.lt{m:bP}(hm:m.Ok):2^m.p.length<=256:=adT (n:=2) (by decide) hm.len
theorem acQ{m:bP}(hm:m.Ok){q:Nat->Option Nat}(hg:Good m q)(s:List UInt8)(now n:Nat)(b:UInt8)(hn:now<2^m.p.length)(hb:s[n]? =some b)(hw:∀i∈bits now,Kd m i/\Wq m.p s q i n):
 (∀i∈bits (eX m b.toNat now).2,Kd m i/\Wq m.p s q i (n+1))/\((eX m b.toNat now).1&&&m.last≠0->Mt m.p s (m.p.length-1) 0 (n+1)):=by
 have ai:=Ct hm (b.toNat:Int) now hn;have ae:=hm.lt;have st:∀k∈bits now,∀x f,m.p[k]? =some x->m.follow[k]? =some f->x.lo<=(b.toNat:Int)->(b.toNat:Int)<=x.hi->(∀i'∈bits f,Kd m i'/\Wq m.p s q i' (n+1))/\(k∈bits m.last->Mt m.p s (m.p.length-1) 0 (n+1)):=λk hk x f hx hf h1 h2=>by
  obtain⟨⟨y,hy,ab⟩,af⟩:=hw k hk;rw[hx]at hy;cases hy;exact hg.step s k n x b f hx ab hb h1 h2 af hf
 refine⟨λi hi=> ?_,λh=> ?_⟩
 . rw[CM _ (by omega)]at hi;rcases(CN (m:=m) (b.toNat:Int) (bits now) (0,0) i).2 hi with h|⟨k,hk,x,f,hx,hf,h1,h2,h3⟩
   . simp at h
   . exact(st k hk x f hx hf h1 h2).1 i ((CM f (by have:=hm.follow f (W2 hf);omega) i).2 h3)
 . obtain⟨k,hk⟩:∃k,((eX m b.toNat now).1&&&m.last).testBit k=true:=by
    rcases Nat.eq_zero_or_pos ((eX m b.toNat now).1&&&m.last)with h0|h0
    . exact absurd h0 h
    . exact Nat.exists_testBit_of_ne_zero h
   rw[Nat.testBit_and,GP]at hk;rcases(CN (m:=m) (b.toNat:Int) (bits now) (0,0) k).1 hk.1 with h|⟨h0,x,f,hx,hf,h1,h2⟩
   . simp at h
   . exact(st k h0 x f hx hf h1 h2).2 ((CM m.last (by have:=hm.last;omega) k).2 hk.2)
theorem Jk{m:bP}(hm:m.Ok){q:Nat->Option Nat}(hg:Good m q)(t:ByteArray):∀(r pre:List UInt8) (now:Nat) (g:Bool),t.data.toList=pre++r->now<2^m.p.length->(∀i∈bits now,Kd m i/\Wq m.p t.data.toList q i pre.length)->(g=true->Mt m.p t.data.toList (m.p.length-1) 0 t.size)->
 runM m (kQ t) now pre.length r g=true->Mt m.p t.data.toList (m.p.length-1) 0 t.size
 |[],pre,now,g,ht,hn,hw,ad,h=>ad h
 |b::r,pre,now,g,ht,hn,hw,ad,h=>by
  have hb:t.data.toList[pre.length]? =some b:=by rw[ht,List.getElem?_append_right (DE _),Nat.sub_self];rfl
  obtain⟨h1,h2⟩:=acQ hm hg t.data.toList now pre.length b hn hb hw;simp only[runM]at h
  split at h
  . exact ad h
  . have e:(pre++[b]).length=pre.length+1:=by simp
    rw[<-e]at h h1;refine Jk hm hg t r (pre++[b]) _ _ (by rw[ht];simp) (Ct hm _ now hn).2 h1 (λhq=> ?_) h;simp only[kQ,GP,decide_eq_true_eq]at hq;rw[<-hq.1,e];exact h2 hq.2
theorem acR(m:bP)(hm:m∈cW)(t:ByteArray)(h:jS m t=true):Mt m.p t.data.toList (m.p.length-1) 0 t.size:=by
 obtain⟨q,hg⟩:=acP m hm;have ho:=yC m hm;refine Jk ho hg t t.data.toList [] m.first _ rfl ho.first (λi hi=> ?_) (λhq=> ?_) h
 . obtain⟨h1,h2⟩:=hg.first i hi;refine⟨h1, ?_⟩;unfold Wq;rw[h2];rfl
 . rw[hg.emp,Bool.and_false]at hq;cases hq
theorem yL(l:List Nat):dq l=ints (l.map λn:Nat=>(n:Int)):=by simp[List.map_map]
def Jl(p:List aL):Prop:=∀(i:Nat) (x:aL),p[i]? =some x->x.kind=1\/(x.kind=2\/x.kind=3)/\(0<=x.a/\x.a<i)/\(0<=x.b/\x.b<i)\/x.kind=4/\0<=x.a/\x.a<i
theorem acS(m:bP)(hm:m∈cW):Jl m.p:=by
 have h:(cW.all λm=>(Zj m.p.length).all λi=>match m.p[i]? with
  |some x=>decide (x.kind=1)||(decide (x.kind=2)||decide (x.kind=3))&&(decide (0<=x.a)&&decide (x.a<i))&&(decide (0<=x.b)&&decide (x.b<i))||decide (x.kind=4)&&(decide (0<=x.a)&&decide (x.a<i))
  |none=>true)=true:=by kernel_rfl
 intro i x hx;have h2:=xS.1 (xS.1 h m hm) i (by simpa using (qe.1 hx).1);rw[hx]at h2;simp only[Zr,GP,decide_eq_true_eq]at h2;rcases h2 with(h2|⟨⟨h2,h3⟩,h4⟩)|h2
 . exact .inl h2
 . exact .inr (.inl ⟨h2,h3,h4⟩)
 . exact .inr (.inr ⟨h2.1,h2.2.1,h2.2.2⟩)
def Pl(s:ByteArray)(l:List Nat):Prop:=l.Nodup/\∀a∈l,a<=s.size
theorem Pl.len{s:ByteArray}{l:List Nat}(h:Pl s l):l.length<=s.size+1:=ye (s.size+1) l h.1 λx hx=>by have:=h.2 x hx;omega
theorem yM{s:ByteArray}:∀{m l:List Nat},Pl s l->(∀a∈m,a<=s.size)->Pl s (fi l m)/\(∀a∈l,a∈fi l m)/\(∀a∈m,a∈fi l m)/\l.length<=(fi l m).length/\((fi l m).length=l.length->fi l m=l)
 |[],l,h,_=>⟨h,λ_ ha=>ha,λ_ ha=>(by cases ha),DE _,λ_=>rfl⟩
 |x::m,l,h,hm=>by
  have hx:Pl s (nV l x)/\(∀a∈l,a∈nV l x)/\x∈nV l x/\l.length<=(nV l x).length/\((nV l x).length=l.length->nV l x=l):=by
   unfold nV
   split
   . rename_i ad;exact⟨h,λ_ ha=>ha,ad,DE _,λ_=>rfl⟩
   . rename_i ad;refine⟨⟨List.nodup_append.2 ⟨h.1,by simp,λa ha b hb=>by rintro rfl;simp at hb;subst hb;exact ad ha⟩,λa ha=> ?_⟩,λa ha=>by simp[ha],by simp,by simp,λe=>by simp at e⟩;rcases abR.1 ha with ha|ha
     . exact h.2 a ha
     . simp at ha;subst ha;exact hm a (by simp)
  obtain⟨h1,h2,h3,h4,h5⟩:=hx;obtain⟨g1,g2,g3,g4,g5⟩:=yM (m:=m) h1 λa ha=>hm a (by simp[ha]);refine⟨g1,λa ha=>g2 a (h2 a ha),λa ha=> ?_,Nat.le_trans h4 g4,λe=> ?_⟩
  . rcases W9.1 ha with rfl|ha
    . exact g2 _ h3
    . exact g3 a ha
  . simp only[fi,Xw]at e g4 g5⊢;rw[g5 (by omega),h5 (by omega)]
def kB(x:aL)(s:ByteArray)(a:Nat):Bool:=match s[a]? with
 |some c=>decide (x.lo<=(c.toNat:Int))&&decide ((c.toNat:Int)<=x.hi)
 |none=>false
set_option maxHeartbeats 4000000 in
theorem acT(p:List aL)(i:Nat)(x:aL)(hx:p[i]? =some x)(hk:x.kind=1)(s:ByteArray)(hs:s.size<=100000)(l:List Nat)(hl:Pl s l):
 ay E true 41 [.sl 5 (p.map aL.e),iV (i:Nat),sV s,dq l] (dq ((l.filter (kB x s)).map (·+1))):=by
 have hi:=(qe.1 hx).1;obtain⟨aA,ao⟩:∃aA,(l.filter (kB x s)).map (·+1)=aA:=⟨_,rfl⟩;have bc:=hl.len;rw[ao];refine aW Tryz.ntmps41 Tryz.results41 λN=> ?_;simp(disch:=omega)[go_sem,hx,-getElem?_pos,aL.e,hk];obtain⟨I,hI⟩:∃I:Nat->DS->Prop,∀j d,I j d↔∃(k:Nat) (H:ab) (pv:DV),j+k=l.length/\N+1<H.next/\H.get N=some (.row [iV x.kind,iV x.lo,iV x.hi,iV x.a,iV x.b] true 0)/\lr H (N+1) (((l.take k).filter (kB x s)).map (·+1)) pv/\d=⟨bz [(2,sV s),(3,dq l),(9,.v (.pointer (some ⟨N,0,none⟩))),(10,pv),(11,iV (k:Nat))],115,[],H⟩:=⟨_,λ_ _=>Qc⟩;refine bO I l.length ⟨_,ax.bg (l:=[(2,sV s),(3,dq l),(9,.v (.pointer (some ⟨N,0,none⟩))),(10,.v (.slice (some ⟨N+1,0,none⟩) 0 0)),(11,iV (0:Nat))]) ?_,(hI _ _).2 ⟨0,_,_,rfl, ?_, ?_,⟨N+1,0,DE _, ?_,rfl,.inl rfl, ?_⟩,rfl⟩⟩ ?_
 . simp(disch:=omega)[go_sem]
 . simp(disch:=omega)[go_sem]
 . simp(disch:=omega)[go_sem,hk]
 . simp(disch:=omega)[go_sem]
 . simp(disch:=omega)[go_sem]
 . intro j ds aB;obtain⟨k,H,pv,hj,hN,f1,hgr,rfl⟩:=(hI _ _).1 aB;clear aB;by_cases aR:k<l.length
   . have aa:(k:Int)<l.length:=by omega
     obtain⟨a,ha⟩:∃a,l[k]? =some a:=⟨_,Er aR⟩;have has:=hl.2 a (W2 ha);have av:((l.take (k+1)).filter (kB x s)).map (·+1)=((l.take k).filter (kB x s)).map (·+1)++if kB x s a then [a+1]else []:=by
      rw[ZL,ha,Z4,List.filter_append,adS];cases hb:kB x s a<;>simp[hb]
     have fin:∀(H':ab) (aw:DV) (T:Tr DV),N+1<H'.next->H'.get N=some (.row [iV x.kind,iV x.lo,iV x.hi,iV x.a,iV x.b] true 0)->lr H' (N+1) (((l.take (k+1)).filter (kB x s)).map (·+1)) aw->jM T [(2,sV s),(3,dq l),(9,.v (.pointer (some ⟨N,0,none⟩))),(10,aw),(11,iV (k+1:Nat))]->∃j',j'<j/\∃d',ax ⟨T,115,[],H'⟩ d'/\I j' d':=λH' aw T h1 h2 h3 h4=>⟨j-1,by omega,_,ax.bg h4,(hI _ _).2 ⟨k+1,H',aw,by omega,h1,h2,h3,rfl⟩⟩;have hlen:(((l.take k).filter (kB x s)).map (·+1)).length<=k:=by
      rw[TF];exact Nat.le_trans (List.length_filter_le _ _) (by rw[List.length_take];omega)
     cases ad:kB x s a with
     |true=>
      rw[ad,if_pos rfl]at av;obtain⟨c,hc,h1,h2⟩:∃c,s[a]? =some c/\x.lo<=(c.toNat:Int)/\(c.toNat:Int)<=x.hi:=by
       unfold kB at ad
       split at ad
       . rename_i c hc;simp only[GP,decide_eq_true_eq]at ad;exact⟨c,hc,ad.1,ad.2⟩
       . cases ad
      have aQ:a<s.size:=(getElem?_eq_some_iff.1 hc).1;have af:(a:Int)<s.size:=by omega
      have aI:=Cs s a c hc;have aS:c.toNat<256:=c.toNat_lt;simp(disch:=omega)[go_sem,aa,ha,-getElem?_pos];refine bR [ae 0,ae 0,ae 3,aD 7,ae 0,aD 16,ae 63,ae 127,ae 255,ae 255,ae 255,ae 1791,aD 3839,ae 8191,aD 16383,ae 255,aD 33023,ae 131071,ae 262143,ae 524287,ae 1048575,ae 1048575,ae 1048575,ae 7340031,aD 15728639,ae 33554431,aD 67108863,ae 1048575,aD 135266303,ae 536870911,ae 1073741823] (by kernel_rfl) 0 rfl ?_;simp(disch:=omega)[go_sem,aa,ha,-getElem?_pos,f1,gI,af,aI,h1,h2,aC];refine lr.app (m:=[a+1]) (hgr.same (λq q1 q2=>by rw[ab.di,if_neg (by rw[ab.fH];omega)];rfl) (by rw[ab.aX,ab.fH];omega)) (by have:=hlen;simp only[TF,List.length_singleton]at this⊢;omega) (by simp(disch:=omega)[go_sem]) λH' aw T q1 q2 q3 q4 q5=> ?_;simp(disch:=omega)[go_sem]at q2;simp(disch:=omega)[go_sem,aC];refine fin _ aw _ ?_ ?_ (by rw[av];exact q1) ?_
      . omega
      . rw[q3 N (by omega),ab.di,if_neg (by rw[ab.fH];omega)];exact f1
      . simp(disch:=omega)[go_sem]
     |false=>
      rw[ad,if_neg (by decide),List.append_nil]at av;simp(disch:=omega)[go_sem,aa,ha,-getElem?_pos];refine bR [ae 0,ae 0,ae 3,aD 7,ae 0,aD 16,ae 63,ae 127,ae 255,ae 255,ae 255,ae 1791,aD 3839,ae 8191,aD 16383,ae 255,aD 33023,ae 131071,ae 262143,ae 524287,ae 1048575,ae 1048575,ae 1048575,ae 7340031,aD 15728639,ae 33554431,aD 67108863,ae 1048575,aD 135266303,ae 536870911,ae 1073741823] (by kernel_rfl) 0 rfl ?_;by_cases aQ:a<s.size
      . have af:(a:Int)<s.size:=by omega
        obtain⟨c,hc⟩:∃c,s[a]? =some c:=⟨_,getElem?_eq_some_iff.2 ⟨aQ,rfl⟩⟩;have aI:=Cs s a c hc;have aS:c.toNat<256:=c.toNat_lt;by_cases h1:x.lo<=(c.toNat:Int)
        . have h2:¬(c.toNat:Int)<=x.hi:=λh2=>by
           unfold kB at ad;rw[hc]at ad;simp[h1,h2]at ad
          simp(disch:=omega)[go_sem,aa,ha,-getElem?_pos,f1,gI,af,aI,h1,h2,aC];refine fin H pv _ hN f1 (by rw[av];exact hgr) ?_;simp(disch:=omega)[go_sem]
        . simp(disch:=omega)[go_sem,aa,ha,-getElem?_pos,f1,gI,af,aI,h1,aC];refine fin H pv _ hN f1 (by rw[av];exact hgr) ?_;simp(disch:=omega)[go_sem]
      . have af:¬(a:Int)<s.size:=by omega
        simp(disch:=omega)[go_sem,aa,ha,-getElem?_pos,f1,gI,af,aC];refine fin H pv _ hN f1 (by rw[av];exact hgr) ?_;simp(disch:=omega)[go_sem]
   . have aa:¬(k:Int)<l.length:=by omega
     rw[ab8 (by omega),ao]at hgr;simp(disch:=omega)[go_sem,aa];exact hgr.fz
def nW(p:List aL)(s:ByteArray)(i:Nat):Prop:=∀l:List Nat,Pl s l->∃out,Pl s out/\ay E true 41 [.sl 5 (p.map aL.e),iV (i:Nat),sV s,dq l] (dq out)/\∀a∈l,∀b,Mt p s.data.toList i a b->b∈out
theorem acU{x:aL}{s:ByteArray}{a:Nat}{c:UInt8}(h:s.data.toList[a]? =some c)(h1:x.lo<=(c.toNat:Int))(h2:(c.toNat:Int)<=x.hi):kB x s a=true/\a<s.size:=by
 have hl:a<s.size:=by have:=(qe.1 h).1;simpa using this
 have:s[a]? =some c:=by
  rw[getElem?_eq_some_iff];refine⟨hl, ?_⟩;have:=(qe.1 h).2;exact(by simpa using this:s.data[a]=c)
 unfold kB;rw[this];exact⟨by simp[h1,h2],hl⟩
theorem bh1(p:List aL)(i:Nat)(x:aL)(hx:p[i]? =some x)(hk:x.kind=1)(s:ByteArray)(hs:s.size<=100000):nW p s i:=λl hl=>by
 refine⟨_,⟨?_,λa ha=> ?_⟩,acT p i x hx hk s hs l hl,λa ha b hm=> ?_⟩
 . exact List.Pairwise.map (·+1) (λa b aT h=>aT (by omega)) (hl.1.filter _)
 . obtain⟨a',h1,rfl⟩:=PX.1 ha;have h2:=(adU.1 h1).2;unfold kB at h2
   split at h2
   . rename_i c hc;exact(getElem?_eq_some_iff.1 hc).1
   . cases h2
 . cases hm with
   |gj h1 h2 h3 h4 h5=>
    rw[hx]at h1;cases h1;exact PX.2 ⟨a,adU.2 ⟨ha,(acU h3 h4 h5).1⟩,rfl⟩
   |seq h1 h2=>rw[hx]at h1;cases h1;omega
   |qu h1 h2=>rw[hx]at h1;cases h1;omega
   |qv h1 h2=>rw[hx]at h1;cases h1;omega
   |mV h1 h2=>rw[hx]at h1;cases h1;omega
   |tW h1 h2=>rw[hx]at h1;cases h1;omega
theorem bh2(p:List aL)(i:Nat)(x:aL)(hx:p[i]? =some x)(hk:x.kind=2)(s:ByteArray)(aE:0<=x.a)(aM:0<=x.b)(ha:nW p s x.a.toNat)(hb:nW p s x.b.toNat):nW p s i:=λl hl=>by
 obtain⟨o1,p1,f1,g1⟩:=ha l hl;obtain⟨o2,p2,f2,g2⟩:=hb o1 p1;rw[PO aE]at f1;rw[PO aM]at f2;simp only[yL]at f1 f2;refine⟨o2,p2,by rw[yL,yL];exact yG p i s _ _ _ x hx hk f1 f2,λa az b hm=> ?_⟩;cases hm with
 |seq h1 h2 h3 h4=>rw[hx]at h1;cases h1;exact g2 _ (g1 a az _ h3) _ h4
 |gj h1 h2=>rw[hx]at h1;cases h1;omega
 |qu h1 h2=>rw[hx]at h1;cases h1;omega
 |qv h1 h2=>rw[hx]at h1;cases h1;omega
 |mV h1 h2=>rw[hx]at h1;cases h1;omega
 |tW h1 h2=>rw[hx]at h1;cases h1;omega
theorem bh3(p:List aL)(i:Nat)(x:aL)(hx:p[i]? =some x)(hk:x.kind=3)(s:ByteArray)(hs:s.size<=100000)(aE:0<=x.a)(aM:0<=x.b)(ha:nW p s x.a.toNat)(hb:nW p s x.b.toNat):nW p s i:=λl hl=>by
 have hi:=(qe.1 hx).1;obtain⟨o1,p1,f1,g1⟩:=ha l hl;obtain⟨o2,p2,f2,g2⟩:=hb l hl;rw[PO aE]at f1;rw[PO aM]at f2;obtain⟨t1,t2,t3,-,-⟩:=yM p1 p2.2;have ht:=Jj o1 o2 (by have:=p1.len;omega) (by have:=p2.len;omega);refine⟨fi o1 o2,t1, ?_,λa az b hm=> ?_⟩
 . obtain⟨aA,ao⟩:∃aA,fi o1 o2=aA:=⟨_,rfl⟩;rw[ao]at ht⊢;refine aW Tryz.ntmps41 Tryz.results41 λN=> ?_;simp(disch:=omega)[go_sem,hx,-getElem?_pos,aL.e,hk];refine bR [ae 0,ae 0,aD 2,ae 0,ae 0,aN 31,ae 0,kj 0,dc 128,ae 0,ae 0,aN 2047,aN 4095,ae 8191] (by kernel_rfl) 0 rfl ?_;simp(disch:=omega)[go_sem,hx,-getElem?_pos,aL.e,hk];refine an.mk f1 λM hM=> ?_;simp(disch:=omega)[go_sem]at hM;simp(disch:=omega)[go_sem,hk];refine an.mk f2 λM2 aP=> ?_;simp(disch:=omega)[go_sem]at aP;simp(disch:=omega)[go_sem];refine an.mk ht λM3 aU=> ?_;simp(disch:=omega)[go_sem]at aU;simp(disch:=omega)[go_sem]
 . cases hm with
   |qu h1 h2 h3=>rw[hx]at h1;cases h1;exact t2 _ (g1 a az b h3)
   |qv h1 h2 h3=>rw[hx]at h1;cases h1;exact t3 _ (g2 a az b h3)
   |gj h1 h2=>rw[hx]at h1;cases h1;omega
   |seq h1 h2=>rw[hx]at h1;cases h1;omega
   |mV h1 h2=>rw[hx]at h1;cases h1;omega
   |tW h1 h2=>rw[hx]at h1;cases h1;omega
def rep(nx:List Nat->List Nat):Nat->List Nat->List Nat
 |0,o=>o
 |n+1,o=>if(fi o (nx o)).length=o.length then fi o (nx o)else rep nx n (fi o (nx o))
theorem Jm{s:ByteArray}{nx:List Nat->List Nat}{R:Nat->Nat->Prop}(h:∀o,Pl s o->Pl s (nx o)/\∀a∈o,∀b,R a b->b∈nx o):∀(n:Nat) (o:List Nat),Pl s o->s.size+1<o.length+n->Pl s (rep nx n o)/\(∀a∈o,a∈rep nx n o)/\∀a∈rep nx n o,∀b,R a b->b∈rep nx n o
 |0,o,ho,hn=>absurd ho.len (by omega)
 |n+1,o,ho,hn=>by
  obtain⟨h1,h2⟩:=h o ho;obtain⟨t1,t2,t3,t4,t5⟩:=yM ho h1.2;unfold rep
  split
  . rename_i e;have e2:=t5 e;refine⟨t1,t2,λa ha b hb=>t3 b (h2 a (by rw[e2]at ha;exact ha) b hb)⟩
  . rename_i e;obtain⟨g1,g2,g3⟩:=Jm h n (fi o (nx o)) t1 (by omega);exact⟨g1,λa ha=>g2 a (t2 a ha),g3⟩
set_option maxHeartbeats 4000000 in
theorem bh4(p:List aL)(i:Nat)(x:aL)(hx:p[i]? =some x)(hk:x.kind=4)(s:ByteArray)(hs:s.size<=100000)(aE:0<=x.a)(ha:nW p s x.a.toNat):nW p s i:=λl hl=>by
 have hi:=(qe.1 hx).1;obtain⟨nx,aK⟩:∃nx:List Nat->List Nat,∀o,Pl s o->Pl s (nx o)/\ay E true 41 [.sl 5 (p.map aL.e),iV (x.a.toNat:Nat),sV s,dq o] (dq (nx o))/\∀a∈o,∀b,Mt p s.data.toList x.a.toNat a b->b∈nx o:=by
  have h:∀o,∃q,Pl s o->Pl s q/\ay E true 41 [.sl 5 (p.map aL.e),iV (x.a.toNat:Nat),sV s,dq o] (dq q)/\∀a∈o,∀b,Mt p s.data.toList x.a.toNat a b->b∈q:=λo=>by
   by_cases h:Pl s o
   . obtain⟨q,h⟩:=ha o h;exact⟨q,λ_=>h⟩
   . exact⟨[],λh2=>absurd h2 h⟩
  exact⟨λo=>Classical.choose (h o),λo=>Classical.choose_spec (h o)⟩
 rw[PO aE]at aK;obtain⟨h1,h2,h3⟩:=Jm (R:=Mt p s.data.toList x.a.toNat) (λo h=>⟨(aK o h).1,(aK o h).2.2⟩) (s.size+2) l hl (by omega);obtain⟨out,aF⟩:∃out,rep nx (s.size+2) l=out:=⟨_,rfl⟩;rw[aF]at h1 h2 h3;have hf:ay E true 41 [.sl 5 (p.map aL.e),iV (i:Nat),sV s,dq l] (dq out):=by
  refine aW Tryz.ntmps41 Tryz.results41 λN=> ?_;simp(disch:=omega)[go_sem,hx,-getElem?_pos,aL.e,hk];obtain⟨I,hI⟩:∃I:Nat->DS->Prop,∀j d,I j d↔∃(o:List Nat) (n:Int) (H:ab),Pl s o/\(n<o.length/\0<j/\s.size+1<o.length+(j-1)/\rep nx (j-1) o=out\/n=o.length/\o=out)/\N<H.next/\H.get N=some (.row [iV x.kind,iV x.lo,iV x.hi,iV x.a,iV x.b] true 0)/\
   d=⟨bz [(0,.sl 5 (p.map aL.e)),(2,sV s),(9,.v (.pointer (some ⟨N,0,none⟩))),(10,dq o),(12,iV n)],115,[],H⟩:=⟨_,λ_ _=>Qc⟩
  refine bO I (s.size+3) ⟨_,ax.bg (l:=[(0,.sl 5 (p.map aL.e)),(2,sV s),(9,.v (.pointer (some ⟨N,0,none⟩))),(10,dq l),(12,iV (-1))]) ?_,(hI _ _).2 ⟨l,-1,_,hl,.inl ⟨by omega,by omega,by omega,aF⟩, ?_, ?_,rfl⟩⟩ ?_
  . simp(disch:=omega)[go_sem,aL.e]
  . simp(disch:=omega)[go_sem]
  . simp(disch:=omega)[go_sem,hk]
  . intro j ds aB;obtain⟨o,n,H,ho,aZ,hN,f1,rfl⟩:=(hI _ _).1 aB;clear aB;rcases aZ with⟨hn,bd,bf,ai⟩|⟨rfl,rfl⟩
    . obtain⟨q1,q2,-⟩:=aK o ho;obtain⟨t1,-,-,t4,t5⟩:=yM ho q1.2;have ht:=Jj o (nx o) (by have:=ho.len;omega) (by have:=q1.len;omega);simp(disch:=omega)[go_sem,hn,f1];refine an.mk q2 λM hM=> ?_;simp(disch:=omega)[go_sem];refine an.mk ht λM2 aP=> ?_;simp(disch:=omega)[go_sem]at aP;simp(disch:=omega)[go_sem];obtain⟨m,rfl⟩:∃m,j=m+2:=⟨j-2,by have:=ho.len;omega⟩;have ai:(if(fi o (nx o)).length=o.length then fi o (nx o)else rep nx m (fi o (nx o)))=out:=ai;by_cases he:(fi o (nx o)).length=o.length
      . rw[if_pos he]at ai;refine⟨0,by omega,_,ax.bg (l:=[(0,.sl 5 (p.map aL.e)),(2,sV s),(9,.v (.pointer (some ⟨N,0,none⟩))),(10,dq (fi o (nx o))),(12,iV (o.length:Nat))]) ?_,(hI _ _).2 ⟨fi o (nx o),o.length,_,t1,.inr ⟨by rw[he],ai⟩, ?_, ?_,rfl⟩⟩
        . simp(disch:=omega)[go_sem]
        . simp(disch:=omega)[go_sem];omega
        . simp(disch:=omega)[go_sem,f1]
      . rw[if_neg he]at ai;refine⟨m+1,by omega,_,ax.bg (l:=[(0,.sl 5 (p.map aL.e)),(2,sV s),(9,.v (.pointer (some ⟨N,0,none⟩))),(10,dq (fi o (nx o))),(12,iV (o.length:Nat))]) ?_,(hI _ _).2 ⟨fi o (nx o),o.length,_,t1,.inl ⟨by omega,by omega,by omega,ai⟩, ?_, ?_,rfl⟩⟩
        . simp(disch:=omega)[go_sem]
        . simp(disch:=omega)[go_sem];omega
        . simp(disch:=omega)[go_sem,f1]
    . simp(disch:=omega)[go_sem]
 refine⟨out,h1,hf,λa az b hm=> ?_⟩;have:∀i' a b,Mt p s.data.toList i' a b->i'=i->a∈out->b∈out:=λi' a b hm=>by
  induction hm with
  |mV=>intro _ h;exact h
  |tW e1 e2 e3 e4 bb bk=>
   rintro rfl h;rw[hx]at e1;cases e1;exact h3 _ (bb rfl h) _ e4
  |gj e1 e2=>rintro rfl h;rw[hx]at e1;cases e1;omega
  |seq e1 e2=>rintro rfl h;rw[hx]at e1;cases e1;omega
  |qu e1 e2=>rintro rfl h;rw[hx]at e1;cases e1;omega
  |qv e1 e2=>rintro rfl h;rw[hx]at e1;cases e1;omega
 exact this i a b hm rfl (h2 a az)
theorem acV(p:List aL)(hp:Jl p)(s:ByteArray)(hs:s.size<=100000)(i:Nat):i<p.length->nW p s i:=by
 induction i using Nat.strongRecOn with
 |_ i ih=>
  intro hi;obtain⟨x,hx⟩:∃x,p[i]? =some x:=⟨_,Er hi⟩;rcases hp i x hx with h|⟨h|h,⟨a1,a2⟩,b1,b2⟩|⟨h,a1,a2⟩
  . exact bh1 p i x hx h s hs
  . exact bh2 p i x hx h s a1 b1 (ih _ (by omega) (by omega)) (ih _ (by omega) (by omega))
  . exact bh3 p i x hx h s hs a1 b1 (ih _ (by omega) (by omega)) (ih _ (by omega) (by omega))
  . exact bh4 p i x hx h s hs a1 (ih _ (by omega) (by omega))
theorem acW(m:bP)(hm:m∈cW)(t:ByteArray)(ht:t.size<=100000):∃b,ay E true 20 [.sl 5 (m.p.map aL.e),sV t] (bV b)/\(jS m t=true->b=true):=by
 have hlen:0<m.p.length/\m.p.length<=8:=by
  have h:(cW.all λm=>Nat.blt 0 m.p.length&&Nat.ble m.p.length 8)=true:=by kernel_rfl
  have h2:=xS.1 h m hm;simp only[GP]at h2;exact⟨adV h2.1,adV h2.2⟩
 obtain⟨out,h1,h2,h3⟩:=acV m.p (acS m hm) t ht (m.p.length-1) (by omega) [0] ⟨by simp,by simp⟩;have hh:=Jh out t.size (by have:=h1.len;omega);simp only[yL]at h2 hh;refine⟨_,CD m.p t _ _ hlen.1 (by omega) (CE m hm) h2 hh,λh=> ?_⟩;exact decide_eq_true (h3 0 (by simp) _ (acR m hm t h))
theorem Jn(g:ai)(s:ByteArray):∀(l:List Nat) (p:Nat×List Nat),(0<p.1->p.2≠[])->0<(ir g s l p).1->(ir g s l p).2≠[]
 |[],p,h=>h
 |t::l,p,h=>by
  refine Jn g s l (iQ (lenOf g s t) t p) ?_;unfold iQ;simp only
  split
  . rename_i h1;intro h2;rw[if_pos ⟨rfl,h2⟩];simp
  . intro h2
    split
    . simp
    . exact h h2
theorem acX{m t:Nat}{p:Nat×List Nat}{x:Nat}(h:x∈(iQ m t p).2):x∈p.2\/x=t:=by
 unfold iQ at h;simp only at h;by_cases h1:p.1<m
 . simp only[if_pos h1]at h
   split at h
   . right;simpa using h
   . cases h
 . simp only[if_neg h1]at h
   split at h
   . simpa using h
   . exact .inl h
theorem Jo(g:ai)(s:ByteArray):∀(l:List Nat) (p:Nat×List Nat),∀x∈(ir g s l p).2,x∈p.2\/x∈l
 |[],p,x,h=>.inl h
 |t::l,p,x,h=>by
  rcases Jo g s l (iQ (lenOf g s t) t p) x h with h1|h1
  . rcases acX h1 with h2|rfl
    . exact .inl h2
    . exact .inr (by simp)
  . exact .inr (ZJ _ h1)
theorem Jp(g:ai)(c:Nat)(s:ByteArray)(h:0<(firstM g c s).1):∃t tl tk,(firstM g c s).2=t::tl/\g.ar[t]? =some tk:=by
 have h1:=Jn g s (jx g c) (0,[]) (λh=>by cases h) h;cases hl:(firstM g c s).2 with
 |nil=>exact absurd hl h1
 |cons t tl=>
  have hm:t∈(firstM g c s).2:=by rw[hl];simp
  rcases Jo g s (jx g c) (0,[]) t hm with h2|h2
  . cases h2
  . exact⟨t,tl,_,rfl,Er (Jd g c t h2)⟩
def qw(g:ai)(l:List Nat):Int:=match l with
 |t::_=>match g.ar[t]? with|some tk=>tk.cls|none=>0
 |[]=>0
def tX(g:ai)(k:Int):ByteArray:=match g.ar[k.toNat]? with
 |some tk=>tk.lit
 |none=>⟨#[]⟩
def nX(g:ai)(c:Nat)(l:Lf)(f:bd):Bool:=decide (f.kind=5)&&decide (f.token=(l.tok:Int))&&eM f.cond c&&f.ar.any λt=>decide (tX g t=l.text)
def lu(g:ai)(c:Nat)(s:ByteArray)(l:Lf):Bool:=decide ((firstM g c s).1=l.text.size)&&decide (qw g (firstM g c s).2=0)&&((firstM g c s).2.any λt=>decide (l.tok=t))&& !(g.bj.any (nX g c l))
theorem CO(g:ai)(c:Nat):gP g c=[strs g.conds,.sl 3 (g.family.nodes.map cK),iV g.family.root,.sl 7 (g.ar.map Tok.e),strs g.aH,.sl 13 (g.ak.map aQ.e),iV g.start,.sl 4 (g.ba.map de.e),.sl 9 (g.bj.map bd.e),dq (jx g c),.fn 69 [] [.ptr g.e 0]]:=rfl
theorem acY(g:ai)(c:Nat)(l:Lf)(k:Int)(h0:0<=k)(tk:Tok)(hk:g.ar[k.toNat]? =some tk):ay E true 77 [iV k,.ptr [.ptr (gP g c) 0] 0,.ptr l.e 0] (bV (decide (tX g k=l.text))):=by
 have aL:=(qe.1 hk).1;have aR:tX g k=tk.lit:=by simp only[tX,hk]
 rw[aR];refine aW Tryz.ntmps77 Tryz.results77 λN=> ?_;simp(disch:=omega)[go_sem];refine bR [aD 0,ae 1,ae 3,ae 7,aD 15,ae 0,ae 63,ae 127,aD 255,ae 0,aD 512,ae 2047,ae 4095] (by kernel_rfl) 0 rfl ?_;simp(disch:=omega)[go_sem,CO,hk,h0,-getElem?_pos,Tok.e,Lf.e]
theorem acZ(g:ai)(hg:GV g)(c:Nat)(hc:c<8)(l:Lf)(f:bd)(hf:f∈g.bj):ay E true 75 [.agg f.e,.ptr l.e 0,.ptr [cV c] 0,.ptr [.ptr (gP g c) 0] 0] (bV (nX g c l f)):=by
 obtain⟨⟨cf,aS,aF⟩,aT⟩:=hg.bj.ok f hf;have hh:=vT cf c aF.1 hc;rw[<-aS]at hh;simp only[Dg.e]at hh;obtain⟨ab,aa⟩:∃ab,nX g c l f=ab:=⟨_,rfl⟩;rw[aa];refine aW Tryz.ntmps75 Tryz.results75 λN=> ?_;simp(disch:=omega)[go_sem,bd.e];by_cases h5:f.kind=5
 . have aI:f.kind=5/\∃t,mL g t f.ar:=by
    rcases aT with h|h|h|h|h
    . have:=h.1;omega
    . have:=h.1;omega
    . have:=h.1;omega
    . have:=h.1;omega
    . obtain⟨_,_,_,_,_,_,t,_,_,_,h9⟩:=h;exact⟨h5,_,h9⟩
   obtain⟨_,K,aB⟩:=aI;by_cases ht:f.token=(l.tok:Int)
   . simp(disch:=omega)[go_sem,h5,ht,Lf.e];refine an.mk hh λM hM=> ?_;simp(disch:=omega)[go_sem]at hM;cases aM:eM f.cond c with
     |false=>
      rw[show ab=false from by rw[<-aa];simp[nX,aM]];simp(disch:=omega)[go_sem]
     |true=>
      have az:=acE f.ar (λt=>decide (tX g t=l.text)) 77 [.ptr [.ptr (gP g c) 0] 0,.ptr l.e 0] (by have:=aB.len;omega) (λx hx=>by
       obtain⟨h0,t,h1,_⟩:=aB.tok x hx;exact acY g c l x h0 t h1)
      rw[show ab=f.ar.any (λt=>decide (tX g t=l.text))from by rw[<-aa];simp[nX,aM,h5,ht]];simp(disch:=omega)[go_sem];refine an.mk az λM2 aK=> ?_;simp(disch:=omega)[go_sem]at aK;simp(disch:=omega)[go_sem]
   . rw[show ab=false from by rw[<-aa];simp[nX,ht]];simp(disch:=omega)[go_sem,h5,ht,Lf.e]
 . rw[show ab=false from by rw[<-aa];simp[nX,h5]];simp(disch:=omega)[go_sem,h5]
theorem ac0{S:eR}{f:FuncId}{a b:List DV}(h:cA S a b):Fz S (.fn f [] a) (.fn f [] b):=
 .fn rfl (λi v d h1 _=>by simp at h1) h.length λi v d h1 h2=>by
  obtain⟨d',h3,h4⟩:=h.get i v h1;rw[h2]at h3;cases h3;exact h4
theorem ac1(l:List Nat):dq l=ints (l.map λ(n:Nat)=>(n:Int)):=by simp[List.map_map]
set_option maxHeartbeats 4000000 in
theorem ac2(g:ai)(hg:GV g)(ht:lq g)(c:Nat)(hc:c<8)(s:ByteArray)(hs:s.size<=1000000000)(l:Lf)(hl:0<l.text.size):ay E true 37 [.ptr (gP g c) 0,cV c,sV s,.agg l.e] (bV (lu g c s l)):=by
 have ao:=Jf g ht c s hs;obtain⟨ab,aa⟩:∃ab,lu g c s l=ab:=⟨_,rfl⟩;rw[aa];refine aW Tryz.ntmps37 Tryz.results37 λN=> ?_;obtain⟨RD,aC⟩:∃RD,gP g c=RD:=⟨_,rfl⟩;have aw:=CO g c;rw[aC]at ao aw;rw[aC];have bc:ca (.sl 1 [])=[.sl 1 []]:=rfl;simp(disch:=omega)[go_sem,Lf.e];refine an.mk ao λM hM=> ?_;simp(disch:=omega)[go_sem]at hM;simp(disch:=omega)[go_sem];refine bR [ae 0,ae 0,aD 2,aD 6,ae 15,ae 31,aD 63,ae 127,ae 255,ae 511,aD 1023,ae 63,ae 2111,aD 6207,ae 16383,ae 32767,aD 65535,ae 131071,ae 262143,ae 524287,ae 1048575,ae 1048575,aD 3145727,aN 8388607,ae 16777215,ae 33554431] (by kernel_rfl) 0 rfl ?_;by_cases hn:(firstM g c s).1=l.text.size
 . have aA:((firstM g c s).1:Int)=l.text.size:=by omega
   obtain⟨t,tl,tk,h1,h2⟩:=Jp g c s (by omega);have hlen:(firstM g c s).2.length<=100000:=by
    have h3:=Jc g s (jx g c) (0,[]);have h4:=Je g c;have h5:=ht.len;have h6:(firstM g c s).2.length<=(jx g c).length:=by simpa[firstM]using h3
    omega
   have aE:=acA ((firstM g c s).2.map λ(n:Nat)=>(n:Int)) (l.tok:Nat) (by rw[TF];exact hlen);rw[<-ac1,List.any_map]at aE;have av:qw g (firstM g c s).2=tk.cls:=by rw[h1];simp only[qw,h2]
   have aL:=(qe.1 h2).1;have af:((firstM g c s).2.map λ(n:Nat)=>[iV (n:Nat)])[0]? =some [iV (t:Nat)]:=by rw[h1];rfl
   have aU:0<(firstM g c s).2.length:=by rw[h1];simp
   have ad:ab=(decide ((firstM g c s).1=l.text.size)&&decide (qw g (firstM g c s).2=0)&&((firstM g c s).2.any λt=>decide (l.tok=t))&& !(g.bj.any (nX g c l))):=by rw[<-aa];rfl
   clear aa;generalize firstM g c s=FM at*;by_cases h0:tk.cls=0
   . simp(disch:=omega)[go_sem,gI,aA,aw,af,h2,Tok.e,h0,-getElem?_pos];refine an.mk aE λM2 aK=> ?_;simp(disch:=omega)[go_sem]at aK;have az:((λy=>decide ((l.tok:Int)=y))∘λ(n:Nat)=>(n:Int))=λt=>decide (l.tok=t):=by
      funext t
      simp only[Function.comp_def];rw[decide_eq_decide];omega
     rw[az];cases aP:FM.2.any λt=>decide (l.tok=t)with
     |false=>
      rw[show ab=false from by rw[ad,aP];simp];simp(disch:=omega)[go_sem]
     |true=>
      have aX:=acC g.bj bd.e (nX g c l) 75 [.ptr l.e 0,.ptr [cV c] 0,.ptr [.ptr (gP g c) 0] 0] (λ_=>rfl) (by have:=hg.bj.len;omega) (λf hf=>acZ g hg c hc l f hf);rw[show ab= !(g.bj.any (nX g c l))from by rw[ad,aP,av,hn,h0];simp];simp(disch:=omega)[go_sem,aw];refine an.pl aX (.cons (.refl _) (.cons (ac0 (.cons ?_ (.cons ?_ (.cons ?_ .nil)))) .nil)) λM3 aZ=> ?_
      . exact mK (ah:=0) (cx (wr:=true) (by simp(disch:=omega)[go_sem];try rfl))
      . exact mK (ah:=0) (cx (wr:=true) (by simp(disch:=omega)[go_sem];try rfl))
      . rw[aC,aw];exact mK (ah:=0) (cx (wr:=true) (by simp(disch:=omega)[go_sem];try rfl))
      simp(disch:=omega)[go_sem]at aZ;simp(disch:=omega)[go_sem]
   . simp(disch:=omega)[go_sem,gI,aA,aw,af,h2,Tok.e,h0,-getElem?_pos];rw[show ab=false from by rw[ad,av];simp[h0]];exact .refl _
 . have aA:¬((firstM g c s).1:Int)=l.text.size:=by omega
   rw[show ab=false from by rw[<-aa];simp[lu,hn]];simp(disch:=omega)[go_sem,gI,aA]
def jU:ByteArray:=⟨#[32]⟩
def vW(g:ai)(c:Nat)(s:ByteArray):Bool:=decide ((firstM g c (jU++s)).1=1)&&decide (qw g (firstM g c (jU++s)).2=1)
set_option maxHeartbeats 4000000 in
theorem ac3(g:ai)(ht:lq g)(c:Nat)(s:ByteArray)(hs:s.size<=900000000):ay E true 38 [.ptr (gP g c) 0,sV s] (bV (vW g c s)):=by
 have bb:(⟨#[32]⟩:ByteArray).size+s.size<=9223372036854775807:=by show 1+s.size<=_;omega
 have ao:=Jf g ht c (jU++s) (by rw[ByteArray.size_append];show 1+s.size<=_;omega);obtain⟨ab,aa⟩:∃ab,vW g c s=ab:=⟨_,rfl⟩;rw[aa];refine aW Tryz.ntmps38 Tryz.results38 λN=> ?_;obtain⟨RD,aC⟩:∃RD,gP g c=RD:=⟨_,rfl⟩;have aw:=CO g c;rw[aC]at ao aw⊢;simp only[jU]at ao;simp(disch:=omega)[go_sem,sU (h:=bb)];refine an.mk ao λM hM=> ?_;simp(disch:=omega)[go_sem]at hM;simp(disch:=omega)[go_sem];refine bR [ae 0,ae 1,ae 3,ae 7,ae 15,ae 31,ae 63,aD 127,ae 7,ae 263,aD 775,ae 2047,ae 4095,aD 8191,ae 16383,ae 32767,ae 65535] (by kernel_rfl) 0 rfl ?_;have ad:ab=(decide ((firstM g c (⟨#[32]⟩++s)).1=1)&&decide (qw g (firstM g c (⟨#[32]⟩++s)).2=1)):=by rw[<-aa];rfl
 clear aa;by_cases hn:(firstM g c (⟨#[32]⟩++s)).1=1
 . obtain⟨t,tl,tk,h1,h2⟩:=Jp g c (⟨#[32]⟩++s) (by omega);have av:qw g (firstM g c (⟨#[32]⟩++s)).2=tk.cls:=by rw[h1];simp only[qw,h2]
   have aL:=(qe.1 h2).1;have af:((firstM g c (⟨#[32]⟩++s)).2.map λ(n:Nat)=>[iV (n:Nat)])[0]? =some [iV (t:Nat)]:=by rw[h1];rfl
   have aU:0<(firstM g c (⟨#[32]⟩++s)).2.length:=by rw[h1];simp
   generalize firstM g c (⟨#[32]⟩++s)=FM at*;rw[show ab=decide (tk.cls=1)from by rw[ad,av,hn];simp];simp(disch:=omega)[go_sem,hn,aw,af,h2,Tok.e,-getElem?_pos]
 . have aA:¬((firstM g c (⟨#[32]⟩++s)).1:Int)=1:=by omega
   rw[show ab=false from by rw[ad];simp[hn]];simp(disch:=omega)[go_sem,aA]
end Go.Sp
end

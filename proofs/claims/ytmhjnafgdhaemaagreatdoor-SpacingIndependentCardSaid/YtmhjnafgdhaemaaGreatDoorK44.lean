/- SpacingIndependent: parts of its proof. -/
import Derived.Test.YtmhjnafgdhaemaaGreatDoorK43
open Iff renaming rfl->qe
open List renaming getElem?_eq_getElem->xS,map_cons->DE,mem_map->Er,foldl_cons->PO,mem_cons->PX,take_add_one->TF,foldl_append->W2,foldl_nil->W9,take_of_length_le->Xw,mem_of_getElem?->Zj,getElem?_eq_some_iff->Zr,mem_singleton->ZJ
open Nat renaming lt_or_ge->GP,lt_of_lt_of_le->Qc
open Option renaming toList_some->VK
open Std.Legacy.Range renaming forIn_eq_forIn_range'->ZL,size->Z4
set_option linter.all false
set_option maxRecDepth 100000
noncomputable section
open Go Go.au Go.Proofs
namespace Go.au
variable {e:Env}
def eG(h:ab):List Nat->ab
 |[]=>ab.none h.next
 |i::S=>(eG h S).set i (h.get i)
theorem Cb(h:ab):∀S,(eG h S).next=h.next
 |[]=>rfl
 |_::S=>Cb h S
theorem mO(h:ab)(j:Nat):∀S,(eG h S).get j=if j∈S then h.get j else none
 |[]=>by rw[eG,ab.get_none];simp
 |i::S=>by
  rw[eG,ab.bn,mO h j S];by_cases h1:j=i
  . subst h1;simp
  . simp[h1]
theorem cJ.read{aj:Bool}{f:FuncId}{args:List DV}{dh:ab}{K:DV->ab->List Nat->Prop}(S:List Nat)(hc:cJ e aj f args (eG dh S) λv aa _=>(∀i∈S,aa.get i=dh.get i)/\K v (dh.up aa.next) S):cJ e aj f args dh K:=by
 intro G h vs x ha;have kn:∀i,dh.get i=none->(eG dh S).get i=none:=λi hi=>by
  rw[mO];split
  . exact hi
  . rfl
 have x0:bH G h (eG dh S):=by
  refine⟨x.eU,by rw[Cb];exact x.next,λi o ho=> ?_,λi hi=>⟨(x.still i hi).1,kn i (x.still i hi).2⟩⟩;rw[mO]at ho
  split at ho
  . exact x.obj i o ho
  . cases ho
 have key:=hc G h vs x0 ha;have fin:∀v h',my G h (eG dh S) (λv aa _=>(∀i∈S,aa.get i=dh.get i)/\K v (dh.up aa.next) S) v h'->my G h dh K v h':=λv h' ⟨d,aa,G',T,r2,r3,r4,r5,r6,r7⟩=>by
  have ad:∀i,¬i<h.next->dh.get i=none:=λi hi=>by
   cases hq:dh.get i with
   |none=>rfl
   |some o=>exact absurd (x.obj i o hq).1 hi
  have out:∀i,i<h.next->i∉S->h'.get i=h.get i:=λi hi hS=>(r3.same i hi (by rw[mO,if_neg hS])).1;have hm:∀i r,aI h G i=some r->aI h' G' i=some r:=iz λi hg=>by
   obtain⟨h1,h2⟩:=x.still i hg;exact⟨r3.up i hg,(r3.same i h1 (kn i h2)).1⟩
  refine⟨d,dh.up aa.next,G',S,⟨r2.eU,r2.next,λi o ho=> ?_,λi hi=>⟨(r2.still i hi).1, ?_⟩⟩,⟨r3.next,λi hi hd=>⟨(r3.same i hi (kn i hd)).1,hd⟩,r3.up,λi hi hg=> ?_⟩,r4,λi hi hS=>⟨out i hi hS,rfl⟩,r7⟩
  . have ho:dh.get i=some o:=ho;by_cases hS:i∈S
    . exact r2.obj i o (by rw[r6 i hS];exact ho)
    . obtain⟨h1,ao,h2,h3⟩:=x.obj i o ho;exact⟨Qc h1 r3.next,ao,by rw[out i h1 hS];exact h2,h3.mono hm⟩
  . show dh.get i=none;by_cases aB:i<h.next
    . by_cases hS:i∈S
      . rw[<-r6 i hS];exact(r2.still i hi).2
      . rcases r3.aY i aB hi with h1|h1
        . exact(x.still i h1).2
        . rw[mO,if_neg hS]at h1;cases h1
    . exact ad i aB
  . rcases r3.aY i hi hg with h1|h1
    . exact .inl h1
    . rw[mO]at h1
      split at h1
      . exact .inr h1
      . cases h1
 cases aj with
 |true=>obtain⟨v,h',h1,h2⟩:=key;exact⟨v,h',h1,fin v h' h2⟩
 |false=>exact e8.mono key fin
def qm(h h':ab):List Nat->ab
 |[]=>h
 |i::S=>(qm h h' S).set i (h'.get i)
theorem Cc(h h':ab):∀S,(qm h h' S).next=h.next
 |[]=>rfl
 |_::S=>Cc h h' S
theorem Cd(h h':ab)(j:Nat):∀S,(qm h h' S).get j=if j∈S then h'.get j else h.get j
 |[]=>by simp[qm]
 |i::S=>by
  rw[qm,ab.bn,Cd h h' j S];by_cases h1:j=i
  . subst h1;simp
  . simp[h1]
theorem cJ.frame{aj:Bool}{f:FuncId}{args:List DV}{dh:ab}{K:DV->ab->List Nat->Prop}(S:List Nat)(hS:∀i∈S,i<dh.next)
 (hc:cJ e aj f args (eG dh S) λv aa _=>∀af:ab,af.next=aa.next->(∀i,(i∈S\/dh.next<=i)->af.get i=aa.get i)->(∀i,i<dh.next->i∉S->af.get i=dh.get i)->K v af S):cJ e aj f args dh K:=by
 intro G h vs x ha;have kn:∀i,dh.get i=none->(eG dh S).get i=none:=λi hi=>by
  rw[mO];split
  . exact hi
  . rfl
 have x0:bH G h (eG dh S):=by
  refine⟨x.eU,by rw[Cb];exact x.next,λi o ho=> ?_,λi hi=>⟨(x.still i hi).1,kn i (x.still i hi).2⟩⟩;rw[mO]at ho
  split at ho
  . exact x.obj i o ho
  . cases ho
 have key:=hc G h vs x0 ha;have fin:∀v h',my G h (eG dh S) (λv aa _=>∀af:ab,af.next=aa.next->(∀i,(i∈S\/dh.next<=i)->af.get i=aa.get i)->(∀i,i<dh.next->i∉S->af.get i=dh.get i)->K v af S) v h'->my G h dh K v h':=λv h' ⟨d,aa,G',T,r2,r3,r4,r5,r7⟩=>by
  have ad:∀i,¬i<h.next->dh.get i=none:=λi hi=>by
   cases hq:dh.get i with
   |none=>rfl
   |some o=>exact absurd (x.obj i o hq).1 hi
  have hn:dh.next=h.next:=x.next.symm;have out:∀i,i<h.next->i∉S->h'.get i=h.get i:=λi hi hS=>(r3.same i hi (by rw[mO,if_neg hS])).1;have hm:∀i r,aI h G i=some r->aI h' G' i=some r:=iz λi hg=>by
   obtain⟨h1,h2⟩:=x.still i hg;exact⟨r3.up i hg,(r3.same i h1 (kn i h2)).1⟩
  have lo:∀i,i<dh.next->i∉S->(kL (qm dh aa S) aa).get i=dh.get i:=λi hi hS=>by
   rw[ti,if_neg (by rw[Cc];omega),Cd,if_neg hS]
  have aK:∀i,(i∈S\/dh.next<=i)->(kL (qm dh aa S) aa).get i=aa.get i:=λi hi=>by
   rw[ti,Cc,Cd];by_cases aB:i<dh.next
   . have aL:i∈S:=by rcases hi with h1|h1;exact h1;omega
     rw[if_neg (by omega),if_pos aL]
   . have hb:(if i∈S then aa.get i else dh.get i)=if i∈S then aa.get i else none:=by
      split
      . rfl
      . exact ad i (by omega)
     rw[hb];cases hq:aa.get i with
     |some o=>
      have:=(r2.obj i o hq).1;have h2:=r2.next;rw[if_pos (by omega)]
     |none=>
      rw[show(if i∈S then(none:Option bx)else none)=none from by split<;>rfl]
      split<;>rfl
  refine⟨d,kL (qm dh aa S) aa,G',S,⟨r2.eU,r2.next,λi o ho=> ?_,λi hi=>⟨(r2.still i hi).1, ?_⟩⟩,⟨r3.next,λi hi hd=>⟨(r3.same i hi (kn i hd)).1, ?_⟩,r3.up,λi hi hg=> ?_⟩,r4,λi hi hS=>⟨out i hi hS,lo i (by omega) hS⟩,r7 _ rfl aK lo⟩
  . by_cases hc:i∈S\/dh.next<=i
    . rw[aK i hc]at ho;exact r2.obj i o ho
    . have h1:i<dh.next/\i∉S:=by
       refine⟨?_,λh=>hc (.inl h)⟩;rcases GP i dh.next with h|h
       . exact h
       . exact absurd (.inr h) hc
      rw[lo i h1.1 h1.2]at ho;obtain⟨h2,ao,h3,h4⟩:=x.obj i o ho;exact⟨Qc h2 r3.next,ao,by rw[out i h2 h1.2];exact h3,h4.mono hm⟩
  . by_cases hc:i∈S\/dh.next<=i
    . rw[aK i hc];exact(r2.still i hi).2
    . have h1:i<dh.next/\i∉S:=by
       refine⟨?_,λh=>hc (.inl h)⟩;rcases GP i dh.next with h|h
       . exact h
       . exact absurd (.inr h) hc
      rw[lo i h1.1 h1.2];rcases r3.aY i (by omega) hi with h2|h2
      . exact(x.still i h2).2
      . rw[mO,if_neg h1.2]at h2;cases h2
  . by_cases aL:i∈S
    . rw[aK i (.inl aL)];exact(r3.same i hi (kn i hd)).2
    . rw[lo i (by omega) aL];exact hd
  . rcases r3.aY i hi hg with h1|h1
    . exact .inl h1
    . rw[mO]at h1
      split at h1
      . exact .inr h1
      . cases h1
 cases aj with
 |true=>obtain⟨v,h',h1,h2⟩:=key;exact⟨v,h',h1,fin v h' h2⟩
 |false=>exact e8.mono key fin
end Go.au
namespace Go.Sp
theorem tK{aj:Bool}{f:FuncId}{fn:Func}{c:Code}{args:List DV}{K:ck}{dd:List FuncId}{h:ab}(S:List Nat){n:Nat}(hn:fn.ntmps=n){rs:List ResultVar}(aT:fn.results=rs.toArray)
 (hq:RD E aj c ⟨ie args,args.length+(n-args.length),[],eG h S⟩ (jd E rs λd h'=>∀_:List Nat,(∀i∈S,h'.get i=h.get i)/\K d dd (h.up h'.next) S))(aS:E.fn f=some fn:=by kernel_rfl)(hb:fn.body=some c:=by rfl):an E aj K dd h (f,args):=by
 refine cJ.read S ?_;exact gD (K:=λv _ h' _=>(∀i∈S,h'.get i=h.get i)/\K v dd (h.up h'.next) S) (dd:=dd) hn aT hq aS hb
theorem qn{aj:Bool}(d:Dg):ay E aj 94 [.agg d.e,iV 0] (.agg d.e):=by
 refine aW Tryz.ntmps94 Tryz.results94 λN=> ?_;simp(disch:=omega)[go_sem,Dg.e]
theorem Ce{aj:Bool}(b:Bool):ay E aj 98 [bV b] (.agg (aP b).e):=by
 refine aW Tryz.ntmps98 Tryz.results98 λN=> ?_;cases b<;>simp[go_sem,lK,aP,Dg.e]
theorem rX:E.under 127=some (.map 3 33):=by kernel_rfl
theorem HM:E.zero 33=some (.agg #[.slice none 0 0,.int .i64 0]):=by kernel_rfl
abbrev iK(es:List bq)(l:List (Int×Nat)):Prop:=eT rU (λc:Nat=>.agg (aF c).e) es l
def cC{κ:Type}[DecidableEq κ](l:List (κ×Nat))(k:κ):Nat:=(bc l k).getD 0
theorem HN:aF 0=aP false:=rfl
theorem vG{aj:Bool}{K:ck}{dd:List FuncId}{h:ab}{r:Nat}{es:List bq}{clock:Nat}{l:List (Int×Nat)}{k:Int}(hm:h.get r=some (.map es clock))(hr:r<h.next)(hl:iK es l)
 (hk:∀N,h.next<=N->K (.agg (aF (cC l k)).e) dd (h.up N) [r]):an E aj K dd h (102,[.v (.map (some r)),iV k]):=by
 refine tK [r] Tryz.ntmps102 Tryz.results102 ?_;simp only[eG,hm];cases ha:bc l k with
 |none=>
  have h1:=rQ jQ rX hl k true HM rfl ha;have hg:cC l k=0:=by simp[cC,ha]
  rw[hg,HN]at hk;simp(disch:=omega)[go_sem];refine⟨_,lg (es:=es) (clock:=clock) (by simp(disch:=omega)[go_sem]) rfl h1, ?_⟩;simp(disch:=omega)[go_sem,fu];refine an.mk (Ce false) λM hM=> ?_;simp(disch:=omega)[go_sem]at hM;simp(disch:=omega)[go_sem,Dg.e]at hk⊢;exact⟨hm.symm,hk M (by omega)⟩
 |some c=>
  have h1:=rP jQ rX hl k true ha;have hg:cC l k=c:=by simp[cC,ha]
  rw[hg]at hk;simp(disch:=omega)[go_sem];refine⟨_,lg (es:=es) (clock:=clock) (by simp(disch:=omega)[go_sem]) rfl h1, ?_⟩;simp(disch:=omega)[go_sem,Dg.e]at hk⊢;exact⟨hm.symm,hk _ (by omega)⟩
def fE(l:List (Int×Nat))(c:Nat)(syms:List Sym):Nat:=syms.foldl (λc s=>if s.tok=true\/c=0 then c else c&&&cC l s.idx) c
theorem ym{c:Nat}(hc:c<256):(aF c).root=0↔c=0:=by
 have h:((List.range 256).all λc=>decide ((aF c).root=0)==decide (c=0))=true:=by kernel_rfl
 have:=List.all_eq_true.1 h c (by simpa using hc);simpa using eq_of_beq this
theorem tL{l:List (Int×Nat)}(hl:∀k c,bc l k=some c->c<256)(k:Int):cC l k<256:=by
 unfold cC;cases h:bc l k with
 |none=>simp
 |some c=>simpa using hl k c h
theorem yn(l:List (Int×Nat))(syms:List Sym):∀(c:Nat),c<256->fE l c syms<256:=by
 induction syms with
 |nil=>exactλc h=>h
 |cons s r ih=>
  intro c h;simp only[fE,PO];refine ih _ ?_
  split
  . exact h
  . exact Nat.lt_of_le_of_lt Nat.and_le_left h
set_option maxHeartbeats 2000000 in
theorem aas{K:ck}{dd:List FuncId}{h:ab}{r:Nat}{es:List bq}{clock:Nat}{l:List (Int×Nat)}{syms:List Sym}{c:Nat}(hm:h.get r=some (.map es clock))(hr:r<h.next)(hl:iK es l)(aU:∀k c,bc l k=some c->c<256)(hc:c<256)(hs:syms.length<=1000)
 (hk:∀N,h.next<=N->K (.agg (aF (fE l c syms)).e) dd (h.up N) [r]):an E true K dd h (97,[.agg (aF c).e,.sl 2 (syms.map Sym.e),.v (.map (some r))]):=by
 refine tK [r] Tryz.ntmps97 Tryz.results97 ?_;simp only[eG,hm];obtain⟨N,hN⟩:∃N,h.next=N:=⟨_,rfl⟩;rw[hN]at hr hk⊢;simp(disch:=omega)[go_sem,Dg.e];obtain⟨I,hI⟩:∃I:Nat->DS->Prop,∀j d,I j d↔∃(k P:Nat),j+k=syms.length/\N+1<P/\d=⟨bz [(2,.v (.map (some r))),(3,.v (.pointer (some ⟨N,0,none⟩))),(6,.v (.pointer (some ⟨N+1,0,none⟩))),(9,.sl 2 (syms.map Sym.e)),(10,iV syms.length),(11,iV k)],34,[],cw P [(r,.map es clock),(N,.row (aF (fE l c (syms.take k))).e true 0),(N+1,.row [.v (.slice none 0 0),.v (.int .i64 0)] true 0)]⟩:=⟨_,λ_ _=>qe⟩;refine bO I syms.length ⟨_,ax.mk (N:=N+2) ?_ ?_ ?_,(hI _ _).2 ⟨0,N+2,rfl,by omega,rfl⟩⟩ ?_
 . simp(disch:=omega)[go_sem]
 . simp(disch:=omega)[go_sem]
 . simp(disch:=omega)[go_sem,Dg.e,fE]
 . intro j ds aM;obtain⟨k,P,hj,hP,rfl⟩:=(hI _ _).1 aM;clear aM;by_cases aB:k<syms.length
   . have az:(k:Int)<syms.length:=by omega
     obtain⟨s,hx⟩:∃s,syms[k]? =some s:=⟨_,xS aB⟩;have av:fE l c (syms.take (k+1))=if s.tok=true\/fE l c (syms.take k)=0 then fE l c (syms.take k)else fE l c (syms.take k)&&&cC l s.idx:=by
      unfold fE;rw[TF,hx,VK,W2,PO,W9]
     have aQ:=yn l (syms.take k) c hc;generalize bd:fE l c (syms.take k)=cc at*;have aR:=ym aQ;by_cases ai:s.tok=true\/cc=0
     . rw[if_pos ai]at av;have aE:∀(st:DS),ax st ⟨bz [(2,.v (.map (some r))),(3,.v (.pointer (some ⟨N,0,none⟩))),(6,.v (.pointer (some ⟨N+1,0,none⟩))),(9,.sl 2 (syms.map Sym.e)),(10,iV syms.length),(11,iV (k+1:Nat))],34,[],cw (P+1) [(r,.map es clock),(N,.row (aF cc).e true 0),(N+1,.row [.v (.slice none 0 0),.v (.int .i64 0)] true 0)]⟩->∃j',j'<j/\∃d',ax st d'/\I j' d':=λst hw=>
        ⟨j-1,by omega,_,hw,(hI _ _).2 ⟨k+1,P+1,by omega,by omega,by rw[av]⟩⟩
       cases ht:s.tok with
       |true=>
        simp(disch:=omega)[go_sem,az,hx,-getElem?_pos,Sym.e,ht,aC];refine aE _ (ax.mk ?_ ?_ ?_)
        . simp(disch:=omega)[go_sem]
        . simp(disch:=omega)[go_sem,Sym.e]
        . simp(disch:=omega)[go_sem,Dg.e]
       |false=>
        have hz:cc=0:=by simpa[ht]using ai
        have aw:=aR.2 hz;simp(disch:=omega)[go_sem,az,hx,-getElem?_pos,Sym.e,ht,Dg.e,aw,aC];refine aE _ (ax.mk ?_ ?_ ?_)
        . simp(disch:=omega)[go_sem]
        . simp(disch:=omega)[go_sem,Sym.e]
        . simp(disch:=omega)[go_sem,Dg.e,aw]
     . rw[if_neg ai]at av;have ht:s.tok=false:=by simpa using λh=>ai (.inl h)
       have hz:¬cc=0:=λh=>ai (.inr h);have aw:¬(aF cc).root=0:=λh=>hz (aR.1 h);have aX:=tL aU s.idx;have hand:=vF cc (cC l s.idx) aQ aX;have aA:=qn (aj:=true) (aF (cc&&&cC l s.idx));simp only[Dg.e]at hand aA;simp(disch:=omega)[go_sem,az,hx,-getElem?_pos,Sym.e,ht,Dg.e,aw];refine bR [dc 0,ae 0,ae 0,aD 4,aN 14,aN 31,ae 63,ae 63,aN 255,aN 511] (by kernel_rfl) 0 rfl ?_;simp(disch:=omega)[go_sem,Sym.e,Dg.e];refine vG (es:=es) (clock:=clock) (l:=l) (by simp(disch:=omega)[go_sem]) (by simp(disch:=omega)[go_sem];try omega) hl λM hM=> ?_;simp(disch:=omega)[go_sem]at hM;simp(disch:=omega)[go_sem,Dg.e];refine⟨by omega, ?_⟩;refine an.mk hand λM2 aZ=> ?_;simp(disch:=omega)[go_sem]at aZ;simp(disch:=omega)[go_sem];refine an.mk aA λM3 bb=> ?_;simp(disch:=omega)[go_sem]at bb;simp(disch:=omega)[go_sem,aC];refine⟨j-1,by omega,_,ax.mk (N:=M3) ?_ ?_ ?_,(hI _ _).2 ⟨k+1,M3,by omega,by omega,rfl⟩⟩
       . simp(disch:=omega)[go_sem]
       . simp(disch:=omega)[go_sem,Sym.e]
       . simp(disch:=omega)[go_sem,Dg.e,av]
   . have az:¬(k:Int)<syms.length:=by omega
     rw[Xw (by omega)];simp(disch:=omega)[go_sem,az,Dg.e]at hk⊢;exact⟨hm.symm,hk _ (by omega)⟩
end Go.Sp
end
noncomputable section
open Go Go.au Go.Proofs
namespace Go.Sp
theorem Cf(l:List (Int×Nat))(k i:Int)(c:Nat):cC (put l k c) i=if i=k then c else cC l i:=by
 unfold cC;rw[mq]
 split<;>rfl
def mu(n:Nat)(l:List (Int×Nat)):Nat:=((List.range n).map λ(i:Nat)=>255-cC l (i:Int)).sum
theorem HP(l:List Nat)(f g:Nat->Nat)(h:∀i∈l,f i<=g i):(l.map f).sum<=(l.map g).sum:=by
 induction l with
 |nil=>simp
 |cons x l ih=>
  simp only[DE,List.sum_cons];have:=h x (by simp);have:=ih λi hi=>h i (by simp[hi]);omega
theorem aay(l:List Nat)(f g:Nat->Nat)(h:∀i∈l,f i<=g i)(k:Nat)(hk:k∈l)(ai:f k<g k):(l.map f).sum<(l.map g).sum:=by
 induction l with
 |nil=>cases hk
 |cons x l ih=>
  simp only[DE,List.sum_cons];have h1:=h x (by simp);have h2:=HP l f g λi hi=>h i (by simp[hi]);rcases PX.1 hk with rfl|hk
  . omega
  . have:=ih (λi hi=>h i (by simp[hi])) hk;omega
theorem HQ{n:Nat}{l:List (Int×Nat)}{k:Int}{c:Nat}(h0:0<=k)(h1:k<n)(hc:c<256)(ai:cC l k<c):mu n (put l k c)<mu n l:=by
 refine aay _ _ _ (λi hi=> ?_) k.toNat (by simp;omega) ?_
 . rw[Cf]
   split
   . rename_i h;rw[<-h]at ai;omega
   . exact Nat.le_refl _
 . rw[Cf,if_pos (by omega),show((k.toNat:Nat):Int)=k from Int.toNat_of_nonneg h0];omega
def ju{κ:Type}[DecidableEq κ](l:List (κ×Nat)):Prop:=∀k c,bc l k=some c->c<256
theorem ju.put{κ:Type}[DecidableEq κ]{l:List (κ×Nat)}(h:ju l){k:κ}{c:Nat}(hc:c<256):ju (Go.au.put l k c):=λi d hd=>by
 rw[mq]at hd
 split at hd
 . cases hd;exact hc
 . exact h i d hd
theorem vH{a b:Nat}(ha:a<256)(hb:b<256):a|||b<256:=Nat.or_lt_two_pow (n:=8) ha hb
set_option maxHeartbeats 2000000 in
theorem aaz{K:ck}{dd:List FuncId}{h:ab}{M B2 C:Nat}{es:List bq}{clock:Nat}{l:List (Int×Nat)}{k:Int}{d:Nat}{ch:Bool}(hB:h.get B2=some (.row [.v (.map (some M))] true 0))(hC:h.get C=some (.row [bV ch] true 0))(hM:h.get M=some (.map es clock))
 (l1:M<h.next) (l2:B2<h.next) (l3:C<h.next) (n1:M≠B2) (n2:M≠C) (n3:B2≠C) (hl:iK es l) (ai:ju l) (hd:d<256)
 (hk:∀h' T ao aa l' av,iK ao l'->((l'=l/\av=ch)\/(d≠0/\l'=put l k (cC l k|||d)/\cC l k|||d≠cC l k/\av=true))->h.next<=h'.next->h'.get M=some (.map ao aa)->h'.get C=some (.row [bV av] true 0)->(∀i,i<h.next->i≠M->i≠C->h'.get i=h.get i)->K (.bb []) dd h' T):
 an E true K dd h (165,[iV k,.agg (aF d).e,.v (.pointer (some ⟨B2,0,none⟩)),.v (.pointer (some ⟨C,0,none⟩))]):=by
 have n4:=n1.symm;have n5:=n2.symm;have n6:=n3.symm;have aA:=ym hd;have aw:=tL ai k;have aB:=Ca (cC l k) d aw hd;have ae:=qn (aj:=true) (aF (cC l k|||d));have af:=HO (cC l k) (cC l k|||d) aw (vH aw hd);obtain⟨N,hN⟩:∃N,h.next=N:=⟨_,rfl⟩;rw[hN]at l1 l2 l3 hk;refine gD Tryz.ntmps165 Tryz.results165 ?_;simp only[Dg.e]at aB ae af;by_cases hz:d=0
 . have ad:=aA.2 hz;simp(disch:=omega)[go_sem,Dg.e,ad];intro T;refine hk _ T es clock l ch hl (.inl ⟨rfl,rfl⟩) ?_ ?_ ?_ λi hi q1 q2=> ?_
   . simp[go_sem,hN]
   . simp(disch:=omega)[go_sem,hN,hM]
   . simp(disch:=omega)[go_sem,hN,hC]
   . simp(disch:=omega)[go_sem,hN]
 . have ad:¬(aF d).root=0:=λh=>hz (aA.1 h);simp(disch:=omega)[go_sem,Dg.e,ad,hB,hN];refine vG (es:=es) (clock:=clock) (l:=l) (by simp(disch:=omega)[go_sem,hN,hM]) (by simp(disch:=omega)[go_sem,hN];try omega) hl λP hP=> ?_;simp(disch:=omega)[go_sem,hN]at hP;simp(disch:=omega)[go_sem,Dg.e,hN];refine an.mk aB λP2 aC=> ?_;simp(disch:=omega)[go_sem]at aC;simp(disch:=omega)[go_sem];refine an.mk ae λP3 aD=> ?_;simp(disch:=omega)[go_sem]at aD;simp(disch:=omega)[go_sem];refine an.mk af λP4 aE=> ?_;simp(disch:=omega)[go_sem]at aE;by_cases he:cC l k=cC l k|||d
   . have az:decide (cC l k=cC l k|||d)=true:=decide_eq_true he;simp(disch:=omega)[go_sem,az];intro T;refine hk _ T es clock l ch hl (.inl ⟨rfl,rfl⟩) ?_ ?_ ?_ λi hi q1 q2=> ?_
     . simp[go_sem];omega
     . simp(disch:=omega)[go_sem,hN,hM]
     . simp(disch:=omega)[go_sem,hN,hC]
     . simp(disch:=omega)[go_sem,hN]
   . have az:decide (cC l k=cC l k|||d)=false:=decide_eq_false he;obtain⟨ao,aa,h2,h3⟩:=oW jQ rX hl k clock (cC l k|||d);simp(disch:=omega)[go_sem,az,hB,hN];refine⟨_,rT (es:=es) (clock:=clock) (by simp(disch:=omega)[go_sem,hN,hM]) rfl h2, ?_⟩;simp(disch:=omega)[go_sem,hC,hN];intro T;refine hk _ T ao aa _ true h3 (.inr ⟨hz,rfl,λh=>he h.symm,rfl⟩) ?_ ?_ ?_ λi hi q1 q2=> ?_
     . simp[go_sem];omega
     . simp(disch:=omega)[go_sem,hN]
     . simp(disch:=omega)[go_sem,hN]
     . simp(disch:=omega)[go_sem,hN,q1,q2]
structure An where
 g:ai
 dg:List Nat
def An.e(a:An):List DV:=a.g.e++[.sl 2 (a.dg.map λc=>(aF c).e)]
structure An.Ok(a:An):Prop where
 len:a.dg.length=a.g.ak.length
 lt:∀c∈a.dg,c<256
 ak:a.g.ak.length<=2000
 aH:a.g.aH.length<=2000
 left:∀p∈a.g.ak,0<=p.left/\p.left<a.g.aH.length
 right:∀p∈a.g.ak,p.right.length<=16
def yo(p:aQ):Prop:=∀s∈p.right,s.tok=false
def rY(a:An)(NU:Int->Prop):Prop:=∀p∈a.g.ak,yo p->(∀s∈p.right,NU s.idx)->NU p.left
def pa(NU:Int->Prop)(l:List (Int×Nat)):Prop:=∀k,cC l k≠0->NU k
theorem Cg(l:List (Int×Nat)):∀(syms:List Sym) (c:Nat),fE l c syms≠0->c≠0/\∀s∈syms,s.tok=false->cC l s.idx≠0
 |[],c,h=>⟨h,λs hs=>by cases hs⟩
 |s::r,c,h=>by
  have h':fE l (if s.tok=true\/c=0 then c else c&&&cC l s.idx) r≠0:=h;obtain⟨h1,h2⟩:=Cg l r _ h';by_cases hs:s.tok=true\/c=0
  . rw[if_pos hs]at h1;refine⟨h1,λx hx ht=> ?_⟩;rcases PX.1 hx with rfl|hx
    . rcases hs with hs|hs
      . rw[hs]at ht;cases ht
      . exact absurd hs h1
    . exact h2 x hx ht
  . rw[if_neg hs]at h1;refine⟨λhc=>hs (.inr hc),λx hx ht=> ?_⟩;rcases PX.1 hx with rfl|hx
    . intro h0;rw[h0]at h1;simp at h1
    . exact h2 x hx ht
theorem HR{a b:Nat}(h:a|||b≠a):a<a|||b:=Nat.lt_of_le_of_ne Nat.left_le_or (Ne.symm h)
set_option maxHeartbeats 4000000 in
theorem aaA{K:ck}{dd:List FuncId}{h:ab}{Ba Be Bs B2 M C:Nat}{es:List bq}{clock:Nat}{l:List (Int×Nat)}{ch:Bool}(a:An)(ha:a.Ok)(NU:Int->Prop)(bu:rY a NU)
 (o1:Ba<Be) (o2:Be<M) (o3:M<Bs) (o4:Bs<B2) (o5:B2<C) (o6:C<h.next)
 (g1:h.get Ba=some (.row [.ptr a.e 0] true 0)) (g2:h.get Be=some (.row [bV true] true 0)) (g3:h.get M=some (.map es clock)) (g4:h.get Bs=some (.row [.v (.map (some M))] true 0)) (g5:h.get B2=some (.row [.v (.map (some M))] true 0)) (g6:h.get C=some (.row [bV ch] true 0))
 (hl:iK es l) (bx:ju l) (bA:pa NU l)
 (hk:∀h' T bk aB l' aE,iK bk l'->ju l'->pa NU l'->((l'=l/\aE=ch)\/(mu a.g.aH.length l'<mu a.g.aH.length l/\aE=true))->h.next<=h'.next->h'.get M=some (.map bk aB)->h'.get C=some (.row [bV aE] true 0)->(∀i,i<h.next->i≠M->i≠C->h'.get i=h.get i)->K (.bb []) dd h' T):
 an E true K dd h (139,[.fn 165 [] [.v (.pointer (some ⟨B2,0,none⟩)),.v (.pointer (some ⟨C,0,none⟩))],.v (.pointer (some ⟨Ba,0,none⟩)),.v (.pointer (some ⟨Be,0,none⟩)),.v (.pointer (some ⟨Bs,0,none⟩))]):=by
 refine cJ.frame [Ba,Be,M,Bs,B2,C] (by simp;omega) ?_;obtain⟨N,hN⟩:∃N,h.next=N:=⟨_,rfl⟩;refine gD (K:=λv _ bl _=>∀af:ab,af.next=bl.next->(∀i,(i∈[Ba,Be,M,Bs,B2,C]\/h.next<=i)->af.get i=bl.get i)->(∀i,i<h.next->i∉[Ba,Be,M,Bs,B2,C]->af.get i=h.get i)->K v dd af [Ba,Be,M,Bs,B2,C]) (dd:=dd) Tryz.ntmps139 Tryz.results139 ?_;simp only[eG,g1,g2,g3,g4,g5,g6];rw[hN]at o6⊢;have bN:=ha.ak;simp(disch:=omega)[go_sem,An.e,ai.e];obtain⟨aR,aL⟩:∃aR,aR=DV.fn 165 [] [.v (.pointer (some ⟨B2,0,none⟩)),.v (.pointer (some ⟨C,0,none⟩))]:=⟨_,rfl⟩;rw[<-aL];obtain⟨I,hI⟩:∃I:Nat->DS->Prop,∀j d,I j d↔∃(k P:Nat) (es:List bq) (clock:Nat) (l':List (Int×Nat)) (aE:Bool),j+k=a.g.ak.length/\N<=P/\iK es l'/\ju l'/\pa NU l'/\((l'=l/\aE=ch)\/(mu a.g.aH.length l'<mu a.g.aH.length l/\aE=true))/\
  d=⟨bz [(0,aR),(1,.v (.pointer (some ⟨Ba,0,none⟩))),(2,.v (.pointer (some ⟨Be,0,none⟩))),(3,.v (.pointer (some ⟨Bs,0,none⟩))),(13,.sl 13 (a.g.ak.map aQ.e)),(14,iV a.g.ak.length),(15,iV k)],49,[],cw P [(Ba,.row [.ptr a.e 0] true 0),(Be,.row [bV true] true 0),(M,.map es clock),(Bs,.row [.v (.map (some M))] true 0),(B2,.row [.v (.map (some M))] true 0),(C,.row [bV aE] true 0)]⟩:=⟨_,λ_ _=>qe⟩
 refine bO I a.g.ak.length ⟨_,ax.mk (N:=N) ?_ ?_ ?_,(hI _ _).2 ⟨0,N,es,clock,l,ch,rfl,Nat.le_refl _,hl,bx,bA,.inl ⟨rfl,rfl⟩,rfl⟩⟩ ?_
 . simp(disch:=omega)[go_sem]
 . simp(disch:=omega)[go_sem]
 . simp(disch:=omega)[go_sem,An.e,ai.e]
 . intro j ds bm;obtain⟨k,P,aM,aa,l1,aS,hj,hP,aT,ad,ao,aw,rfl⟩:=(hI _ _).1 bm;clear bm;by_cases bn:k<a.g.ak.length
   . have aI:(k:Int)<a.g.ak.length:=by omega
     obtain⟨p,hx⟩:∃p,a.g.ak[k]? =some p:=⟨_,xS bn⟩;have aU:=Zj hx;obtain⟨c,hc⟩:∃c,a.dg[k]? =some c:=⟨_,xS (by rw[ha.len];exact bn)⟩;have bo:=ha.lt c (Zj hc);have aA:=ha.left p aU;have bP:=ha.right p aU;simp(disch:=omega)[go_sem,aI,hx,-getElem?_pos,aQ.e];obtain⟨J,hJ⟩:∃J:Nat->DS->Prop,∀j d,J j d↔∃(m P2:Nat),j+m=p.right.length/\P<P2/\(∀i s,i<m->p.right[i]? =some s->s.tok=false)/\
      d=⟨bz [(0,aR),(1,.v (.pointer (some ⟨Ba,0,none⟩))),(2,.v (.pointer (some ⟨Be,0,none⟩))),(3,.v (.pointer (some ⟨Bs,0,none⟩))),(13,.sl 13 (a.g.ak.map aQ.e)),(14,iV a.g.ak.length),(15,iV k),(5,iV k),(6,.v (.pointer (some ⟨P,0,none⟩))),(21,.sl 2 (p.right.map Sym.e)),(22,iV p.right.length),(23,iV m)],49,[],cw P2 [(Ba,.row [.ptr a.e 0] true 0),(Be,.row [bV true] true 0),(M,.map aM aa),(Bs,.row [.v (.map (some M))] true 0),(B2,.row [.v (.map (some M))] true 0),(C,.row [bV aS] true 0),(P,.row p.e true 0)]⟩:=⟨_,λ_ _=>qe⟩
     refine bO J p.right.length ⟨_,ax.mk (N:=P+1) ?_ ?_ ?_,(hJ _ _).2 ⟨0,P+1,rfl,by omega,λi s hi=>by omega,rfl⟩⟩ ?_
     . simp(disch:=omega)[go_sem]
     . simp(disch:=omega)[go_sem,aQ.e]
     . simp(disch:=omega)[go_sem,aQ.e]
     . intro j2 bQ bp;obtain⟨m,P2,bS,bT,bs,rfl⟩:=(hJ _ _).1 bp;clear bp;by_cases bB:m<p.right.length
       . have az:(m:Int)<p.right.length:=by omega
         obtain⟨s,hs⟩:∃s,p.right[m]? =some s:=⟨_,xS bB⟩;cases ht:s.tok with
         |true=>
          simp(disch:=omega)[go_sem,az,hs,-getElem?_pos,Sym.e,ht,aC];refine⟨j-1,by omega,_,ax.mk (N:=P2+1) ?_ ?_ ?_,(hI _ _).2 ⟨k+1,P2+1,aM,aa,l1,aS,by omega,by omega,aT,ad,ao,aw,rfl⟩⟩
          . simp(disch:=omega)[go_sem]
          . simp(disch:=omega)[go_sem]
          . simp(disch:=omega)[go_sem]
         |false=>
          simp(disch:=omega)[go_sem,az,hs,-getElem?_pos,Sym.e,ht,aC];refine⟨j2-1,by omega,_,ax.mk (N:=P2+1) ?_ ?_ ?_,(hJ _ _).2 ⟨m+1,P2+1,by omega,by omega,λi s' hi aW=> ?_,rfl⟩⟩
          . simp(disch:=omega)[go_sem]
          . simp(disch:=omega)[go_sem,Sym.e]
          . simp(disch:=omega)[go_sem]
          . rcases GP i m with h1|h1
            . exact bs i s' h1 aW
            . have:i=m:=by omega
              subst this;rw[hs]at aW;cases aW;exact ht
       . have az:¬(m:Int)<p.right.length:=by omega
         have bt:yo p:=λs hs=>by
          obtain⟨i,hi⟩:=List.getElem?_of_mem hs;exact bs i s (by have:=(Zr.1 hi).1;omega) hi
         simp(disch:=omega)[go_sem,az];refine bR [ae 0,kj 0,dc 2,aD 0,ae 8,ae 24,aD 56,ae 0,ae 248,aD 504,ae 0,aD 1024,aD 0,aN 8184,aN 16383] (by kernel_rfl) 0 rfl ?_;simp(disch:=omega)[go_sem,aQ.e,An.e,ai.e,hc,-getElem?_pos,Dg.e];refine⟨by omega, ?_⟩;refine aas (es:=aM) (clock:=aa) (l:=l1) (by simp(disch:=omega)[go_sem]) (by simp(disch:=omega)[go_sem];try omega) aT ad bo (by omega) λN2 bD=> ?_;simp(disch:=omega)[go_sem]at bD;subst aL;simp(disch:=omega)[go_sem,Dg.e];refine⟨by omega, ?_⟩;have aX:=yn l1 p.right c bo;refine aaz (M:=M) (B2:=B2) (C:=C) (es:=aM) (clock:=aa) (l:=l1) (k:=p.left) (d:=fE l1 c p.right) (ch:=aS) (by simp(disch:=omega)[go_sem]) (by simp(disch:=omega)[go_sem]) (by simp(disch:=omega)[go_sem]) (by simp(disch:=omega)[go_sem];try omega) (by simp(disch:=omega)[go_sem];try omega) (by simp(disch:=omega)[go_sem];try omega) (by omega) (by omega) (by omega) aT ad aX λh2 T bF aK l2 aZ bG av bI bJ bL aP=> ?_;simp(disch:=omega)[go_sem]at bI aP;have bc:pa NU l2:=by
          rcases av with⟨rfl,_⟩|⟨bd,rfl,_,_⟩
          . exact ao
          . intro i hi;rw[Cf]at hi
            split at hi
            . rename_i he;subst he;exact bu p aU bt λs hs=>ao _ ((Cg l1 p.right c bd).2 s hs (bt s hs))
            . exact ao i hi
         have bf:ju l2:=by
          rcases av with⟨rfl,_⟩|⟨bd,rfl,_,_⟩
          . exact ad
          . exact ad.put (vH (tL ad _) aX)
         have bg:(l2=l/\aZ=ch)\/(mu a.g.aH.length l2<mu a.g.aH.length l/\aZ=true):=by
          rcases av with⟨rfl,rfl⟩|⟨bd,rfl,bM,rfl⟩
          . exact aw
          . have:=HQ (l:=l1) aA.1 aA.2 (vH (tL ad p.left) aX) (HR bM);refine .inr ⟨?_,rfl⟩;rcases aw with⟨rfl,_⟩|⟨h3,_⟩
            . exact this
            . omega
         simp(disch:=omega)[go_sem,aC];refine⟨j-1,by omega,_,ax.mk (N:=h2.next) rfl ?_ ?_,(hI _ _).2 ⟨k+1,h2.next,bF,aK,l2,aZ,by omega,by omega,bG,bf,bc,bg,rfl⟩⟩
         . simp(disch:=omega)[go_sem]
         . simp(disch:=omega)[go_sem,bJ,bL,aP,An.e,ai.e,Dg.e]
   . have aI:¬(k:Int)<a.g.ak.length:=by omega
     simp(disch:=omega)[go_sem,aI];intro af q1 q2 q3;refine hk af _ aM aa l1 aS aT ad ao aw (by omega) ?_ ?_ λi hi i1 i2=> ?_
     . have:=q2 M (.inl (by simp));simpa(disch:=omega)[go_sem]using this
     . have:=q2 C (.inl (by simp));simpa(disch:=omega)[go_sem]using this
     . by_cases z1:i=Ba
       . subst z1;have:=q2 i (.inl (by simp));rw[g1];simpa using this
       . by_cases z2:i=Be
         . subst z2;have:=q2 i (.inl (by simp));rw[g2];simpa(disch:=omega)[go_sem]using this
         . by_cases z3:i=Bs
           . subst z3;have:=q2 i (.inl (by simp));rw[g4];simpa(disch:=omega)[go_sem]using this
           . by_cases z4:i=B2
             . subst z4;have:=q2 i (.inl (by simp));rw[g5];simpa(disch:=omega)[go_sem]using this
             . exact q3 i (by omega) z1 z2 i1 z3 z4 i2
set_option maxHeartbeats 4000000 in
theorem aaB{K:ck}{dd:List FuncId}{h:ab}{Ba Be Bs M:Nat}{es:List bq}{clock:Nat}{l:List (Int×Nat)}(a:An)(ha:a.Ok)(NU:Int->Prop)(aE:rY a NU)
 (o1:Ba<Be) (o2:Be<M) (o3:M<Bs) (o4:Bs<h.next)
 (g1:h.get Ba=some (.row [.ptr a.e 0] true 0)) (g2:h.get Be=some (.row [bV true] true 0)) (g3:h.get M=some (.map es clock)) (g4:h.get Bs=some (.row [.v (.map (some M))] true 0))
 (hl:iK es l) (aU:ju l) (aW:pa NU l)
 (hk:∀h' T aM ao l',iK aM l'->ju l'->pa NU l'->h.next<=h'.next->h'.get M=some (.map aM ao)->(∀i,i<h.next->i≠M->h'.get i=h.get i)->K (.bb []) dd h' T):
 an E true K dd h (138,[.v (.map (some M)),.fn 139 [] [.v (.pointer (some ⟨Ba,0,none⟩)),.v (.pointer (some ⟨Be,0,none⟩)),.v (.pointer (some ⟨Bs,0,none⟩))]]):=by
 refine cJ.frame [Ba,Be,M,Bs] (by simp;omega) ?_;obtain⟨N,hN⟩:∃N,h.next=N:=⟨_,rfl⟩;refine gD (K:=λv _ aN _=>∀ad:ab,ad.next=aN.next->(∀i,(i∈[Ba,Be,M,Bs]\/h.next<=i)->ad.get i=aN.get i)->(∀i,i<h.next->i∉[Ba,Be,M,Bs]->ad.get i=h.get i)->K v dd ad [Ba,Be,M,Bs]) (dd:=dd) Tryz.ntmps138 Tryz.results138 ?_;simp only[eG,g1,g2,g3,g4];rw[hN]at o4⊢;simp(disch:=omega)[go_sem];obtain⟨aF,az⟩:∃aF,aF=DV.fn 139 [] [.v (.pointer (some ⟨Ba,0,none⟩)),.v (.pointer (some ⟨Be,0,none⟩)),.v (.pointer (some ⟨Bs,0,none⟩))]:=⟨_,rfl⟩;rw[<-az];obtain⟨I,hI⟩:∃I:Nat->DS->Prop,∀j d,I j d↔∃(P C:Nat) (es:List bq) (clock:Nat) (l':List (Int×Nat)) (ch:Bool),j=2*mu a.g.aH.length l'+(if ch then 1 else 0)/\N<C/\C<P/\iK es l'/\ju l'/\pa NU l'/\
  d=⟨bz [(1,aF),(2,.v (.pointer (some ⟨N,0,none⟩))),(4,.v (.pointer (some ⟨C,0,none⟩)))],10,[],cw P [(Ba,.row [.ptr a.e 0] true 0),(Be,.row [bV true] true 0),(M,.map es clock),(Bs,.row [.v (.map (some M))] true 0),(N,.row [.v (.map (some M))] true 0),(C,.row [bV ch] true 0)]⟩:=⟨_,λ_ _=>qe⟩
 refine bO I (2*mu a.g.aH.length l+1) ⟨_,ax.mk (N:=N+2) ?_ ?_ ?_,(hI _ _).2 ⟨N+2,N+1,es,clock,l,true,rfl,by omega,by omega,hl,aU,aW,rfl⟩⟩ ?_
 . simp(disch:=omega)[go_sem]
 . simp(disch:=omega)[go_sem]
 . simp(disch:=omega)[go_sem,An.e,ai.e]
 . intro j ds aP;obtain⟨P,C,aQ,af,l1,ch,hj,hC,hP,aR,aA,aB,rfl⟩:=(hI _ _).1 aP;clear aP;cases ch with
   |false=>
    simp(disch:=omega)[go_sem];intro ad q1 q2 q3;refine hk ad _ aQ af l1 aR aA aB (by omega) ?_ λi hi i1=> ?_
    . have:=q2 M (.inl (by simp));simpa(disch:=omega)[go_sem]using this
    . by_cases z1:i=Ba
      . subst z1;have:=q2 i (.inl (by simp));rw[g1];simpa using this
      . by_cases z2:i=Be
        . subst z2;have:=q2 i (.inl (by simp));rw[g2];simpa(disch:=omega)[go_sem]using this
        . by_cases z3:i=Bs
          . subst z3;have:=q2 i (.inl (by simp));rw[g4];simpa(disch:=omega)[go_sem]using this
          . exact q3 i (by omega) z1 z2 i1 z3
   |true=>
    simp only[if_true]at hj;subst az;simp(disch:=omega)[go_sem];refine aaA (Ba:=Ba) (Be:=Be) (Bs:=Bs) (B2:=N) (M:=M) (C:=C) (es:=aQ) (clock:=af) (l:=l1) (ch:=false) a ha NU aE o1 o2 o3 (by omega) hC (by simp(disch:=omega)[go_sem];try omega) (by simp(disch:=omega)[go_sem]) (by simp(disch:=omega)[go_sem]) (by simp(disch:=omega)[go_sem]) (by simp(disch:=omega)[go_sem]) (by simp(disch:=omega)[go_sem]) (by simp(disch:=omega)[go_sem]) aR aA aB λh2 T aI aa l2 aS aK av aw aC aL aD aT ae=> ?_;simp(disch:=omega)[go_sem]at aL ae;simp(disch:=omega)[go_sem,aT];refine⟨2*mu a.g.aH.length l2+(if aS then 1 else 0), ?_,_,ax.mk (N:=h2.next+1) ?_ ?_ ?_,(hI _ _).2 ⟨h2.next+1,h2.next,aI,aa,l2,aS,rfl,by omega,by omega,aK,av,aw,rfl⟩⟩
    . rcases aC with⟨rfl,rfl⟩|⟨h3,rfl⟩
      . simp;omega
      . simp;omega
    . simp(disch:=omega)[go_sem]
    . simp(disch:=omega)[go_sem]
    . simp(disch:=omega)[go_sem,aD,aT,ae]
theorem aaC(NU:Int->Prop):pa NU []:=λk h=>absurd rfl h
theorem HT{κ:Type}[DecidableEq κ]:ju ([]:List (κ×Nat)):=λk c h=>by cases h
theorem aaD{K:ck}{dd:List FuncId}{h:ab}(a:An)(ha:a.Ok)(NU:Int->Prop)(aE:rY a NU)
 (hk:∀h' T M es clock l,iK es l->ju l->pa NU l->h.next<=M->M<h'.next->h'.get M=some (.map es clock)->(∀i,i<h.next->h'.get i=h.get i)->K (.v (.map (some M))) dd h' T):
 an E true K dd h (96,[.ptr a.e 0,bV true]):=by
 obtain⟨N,hN⟩:∃N,h.next=N:=⟨_,rfl⟩;refine gD Tryz.ntmps96 Tryz.results96 ?_;simp(disch:=omega)[go_sem,hN];refine aaB (Ba:=N) (Be:=N+1) (M:=N+2) (Bs:=N+3) (es:=[]) (clock:=0) (l:=[]) a ha NU aE (by omega) (by omega) (by omega) (by simp(disch:=omega)[go_sem,hN];try omega) (by simp(disch:=omega)[go_sem,hN]) (by simp(disch:=omega)[go_sem,hN]) (by simp(disch:=omega)[go_sem,hN]) (by simp(disch:=omega)[go_sem,hN]) rfl HT (aaC NU) λh2 T aI aa l2 aK av aw aL aD ae=> ?_;simp(disch:=omega)[go_sem,hN]at aL ae;simp(disch:=omega)[go_sem,aD,ae];intro T2;refine hk h2 T2 (N+2) aI aa l2 aK av aw (by omega) (by omega) aD λi hi=> ?_;simp(disch:=omega)[ae,go_sem,hN]
end Go.Sp
end
noncomputable section
open Go Go.au Go.Proofs
namespace Go.au
variable {e:Env}
theorem cJ.any{aj:Bool}{f:FuncId}{args:List DV}{dh:ab}{K:DV->ab->List Nat->Prop}(hc:cJ e true f args dh K):cJ e aj f args dh K:=by
 cases aj with
 |true=>exact hc
 |false=>
  intro G h vs x ha;obtain⟨v,h',h1,h2⟩:=hc G h vs x ha;exact h1.k h2
theorem an.any{aj:Bool}{K:ck}{dd:List FuncId}{h:ab}{p:FuncId×List DV}(hc:an e true K dd h p):an e aj K dd h p:=cJ.any hc
def kP(es:List bq)(clock:Nat):Prop:=(∀x∈es,x.born<clock)/\(es.map (·.born)).Nodup
theorem kP.nil(clock:Nat):kP [] clock:=⟨λ_ h=>(by cases h),List.nodup_nil⟩
theorem aaE(es:List bq)(i:Nat)(k:Value)(d:DV):(es.modify i λx=>{x with key:=k,val:=d}).map (·.born)=es.map (·.born):=by
 induction es generalizing i with
 |nil=>cases i<;>rfl
 |cons x es ih=>cases i with
  |zero=>rfl
  |succ i=>simp only[List.modify_succ_cons,DE,ih]
theorem kP.up{ty:TypeId}{k:Value}{d:DV}{es ad:List bq}{clock aa:Nat}(hb:kP es clock)(hu:kg e ty k d es clock=some (.map ad aa)):kP ad aa:=by
 unfold kg at hu
 split at hu
 . split at hu
   . cases hu
   . split at hu
     . split at hu
       . cases hu
       . split at hu
         . cases hu;rename_i i _ _;have hm:=aaE es i k d;refine⟨λx hx=> ?_,by rw[hm];exact hb.2⟩;have:x.born∈es.map (·.born):=by rw[<-hm];exact Er.2 ⟨x,hx,rfl⟩
           obtain⟨y,hy,ae⟩:=Er.1 this;rw[<-ae];exact hb.1 y hy
         . cases hu
       . cases hu;refine⟨λx hx=> ?_, ?_⟩
         . rcases List.mem_append.1 hx with hx|hx
           . have:=hb.1 x hx;omega
           . simp only[ZJ]at hx;subst hx;exact Nat.lt_succ_self _
         . rw[List.map_append,List.nodup_append];refine⟨hb.2,by simp,λa ha b af ai=> ?_⟩;simp only[DE,List.map_nil,ZJ]at af;obtain⟨y,hy,ao⟩:=Er.1 ha;have:=hb.1 y hy;omega
     . cases hu
 . cases hu
end Go.au
namespace Go.Sp
theorem aaF:E.under 182=some (.array 2 3):=by kernel_rfl
theorem vI:E.under 180=some (.map 182 33):=by kernel_rfl
theorem qo:E.under 184=some (.map 3 49):=by kernel_rfl
theorem Ch:E.zero 49=some (.slice none 0 0):=by kernel_rfl
def qp(x:Int×Int):Value:=.agg #[.int .i64 x.1,.int .i64 x.2]
theorem aaG(d:Nat)(a b a' b':Int):bQ Tryz.prog (Op.equalIn (d+1+1) 182 (.agg #[.int .i64 a,.int .i64 b]) (.agg #[.int .i64 a',.int .i64 b']))=some (decide (a=a')&&decide (b=b')):=by
 rw[Op.equalIn];by_cases h1:a=a'<;>by_cases h2:b=b'<;>
  simp[h1,h2,lV,tu _ _ Tryz.underlying182,tw,rS,x4,Hd,eq_int d 3 .i64 _ _ Tryz.underlying3,List.range',ZL,Z4]
theorem aaH(a b a' b':Int):bQ Tryz.prog (Op.equal 182 (.agg #[.int .i64 a,.int .i64 b]) (.agg #[.int .i64 a',.int .i64 b']))=some (decide (a=a')&&decide (b=b')):=by
 obtain⟨d,hd⟩:=x5;unfold Op.equal;rw[hd];exact aaG d a b a' b'
theorem yp:j8 E 182 qp:=by
 refine⟨⟨_,aaF,λk=>rfl⟩,λk=>rfl,λk b=>⟨(),by kernel_rfl⟩,λa b=> ?_,λk=>by simp[qp,Instr.sameBits]⟩;obtain⟨a1,a2⟩:=a;obtain⟨b1,b2⟩:=b;show bQ Tryz.prog (Op.equal 182 (qp _) (qp _))=_;rw[qp,qp,aaH];congr 1;simp only[Prod.mk.injEq,Bool.decide_and]
abbrev yq(es:List bq)(l:List ((Int×Int)×Nat)):Prop:=eT qp (λc:Nat=>.agg (aF c).e) es l
theorem aaI{aj:Bool}{K:ck}{dd:List FuncId}{h:ab}{r:Nat}{es:List bq}{clock:Nat}{l:List ((Int×Int)×Nat)}{x y:Int}(hm:h.get r=some (.map es clock))(hr:r<h.next)(hl:yq es l)
 (hk:∀N,h.next<=N->K (.agg (aF (cC l (x,y))).e) dd (h.up N) [r]):an E aj K dd h (100,[.v (.map (some r)),.agg [iV x,iV y]]):=by
 refine tK [r] Tryz.ntmps100 Tryz.results100 ?_;simp only[eG,hm];cases ha:bc l (x,y)with
 |none=>
  have h1:=rQ yp vI hl (x,y) true HM rfl ha;have hg:cC l (x,y)=0:=by simp[cC,ha]
  rw[hg,HN]at hk;simp(disch:=omega)[go_sem];refine⟨_,lg (es:=es) (clock:=clock) (by simp(disch:=omega)[go_sem]) rfl h1, ?_⟩;simp(disch:=omega)[go_sem,fu];refine an.mk (Ce false) λM hM=> ?_;simp(disch:=omega)[go_sem]at hM;simp(disch:=omega)[go_sem,Dg.e]at hk⊢;exact⟨hm.symm,hk M (by omega)⟩
 |some c=>
  have h1:=rP yp vI hl (x,y) true ha;have hg:cC l (x,y)=c:=by simp[cC,ha]
  rw[hg]at hk;simp(disch:=omega)[go_sem];refine⟨_,lg (es:=es) (clock:=clock) (by simp(disch:=omega)[go_sem]) rfl h1, ?_⟩;simp(disch:=omega)[go_sem,Dg.e]at hk⊢;exact⟨hm.symm,hk _ (by omega)⟩
end Go.Sp
end
noncomputable section
open Go Go.au Go.Proofs
namespace Go.Sp
theorem aaJ(syms:List Sym):∀(k:Nat) (s:Sym),syms[k]? =some s->((syms.map Sym.e).flatten.drop (k*2)).take 2=s.e:=by
 induction syms with
 |nil=>intro k s h;simp at h
 |cons x r ih=>
  intro k s h;cases k with
  |zero=>simp at h;subst h;simp[Sym.e]
  |succ k=>
   have:=ih k s (by simpa using h);rw[DE,List.flatten_cons,show(k+1)*2=(Sym.e x).length+k*2 by simp[Sym.e];omega,<-List.drop_drop,List.drop_left];exact this
theorem aaK(syms:List Sym)(k:Nat)(s:Sym)(h:syms[k]? =some s):eQ (some (some 2)) (syms.map Sym.e).flatten (k*2)=some (.agg [bV s.tok,iV s.idx]):=by
 have hl:(syms.map Sym.e).flatten.length=syms.length*2:=by rw[eW (k:=2) (λx hx=>by obtain⟨y,_,rfl⟩:=Er.1 hx;rfl),List.length_map]
 have hk:=(Zr.1 h).1;simp only[eQ];rw[if_pos (by omega)];exact congrArg (λx=>some (DV.agg x)) (aaJ syms k s h)
set_option maxHeartbeats 2000000 in
theorem aaL{K:ck}{dd:List FuncId}{h:ab}{r:Nat}{es:List bq}{clock:Nat}{l:List (Int×Nat)}{syms:List Sym}{c:Nat}(hm:h.get r=some (.map es clock))(hr:r<h.next){R ah:Nat}{wr:Bool}(hR:h.get R=some (.row (syms.map Sym.e).flatten wr ah))(aE:R<h.next)(aI:R≠r)(hl:iK es l)(aK:∀k c,bc l k=some c->c<256)(hc:c<256)(hs:syms.length<=1000)
 (hk:∀N,h.next<=N->K (.agg (aF (fE l c syms)).e) dd (h.up N) [r,R]):an E true K dd h (97,[.agg (aF c).e,.v (.slice (some ⟨R,0,none⟩) syms.length syms.length),.v (.map (some r))]):=by
 refine tK [r,R] Tryz.ntmps97 Tryz.results97 ?_;have aR:=aI.symm;simp only[eG,hm,hR];obtain⟨N,hN⟩:∃N,h.next=N:=⟨_,rfl⟩;rw[hN]at hr aE hk⊢;simp(disch:=omega)[go_sem,Dg.e];obtain⟨I,hI⟩:∃I:Nat->DS->Prop,∀j d,I j d↔∃(k P:Nat),j+k=syms.length/\N+1<P/\d=⟨bz [(2,.v (.map (some r))),(3,.v (.pointer (some ⟨N,0,none⟩))),(6,.v (.pointer (some ⟨N+1,0,none⟩))),(9,.v (.slice (some ⟨R,0,none⟩) syms.length syms.length)),(10,iV syms.length),(11,iV k)],34,[],cw P [(r,.map es clock),(R,.row (syms.map Sym.e).flatten wr ah),(N,.row (aF (fE l c (syms.take k))).e true 0),(N+1,.row [.v (.slice none 0 0),.v (.int .i64 0)] true 0)]⟩:=⟨_,λ_ _=>qe⟩;refine bO I syms.length ⟨_,ax.mk (N:=N+2) ?_ ?_ ?_,(hI _ _).2 ⟨0,N+2,rfl,by omega,rfl⟩⟩ ?_
 . simp(disch:=omega)[go_sem]
 . simp(disch:=omega)[go_sem]
 . simp(disch:=omega)[go_sem,Dg.e,fE]
 . intro j ds az;obtain⟨k,P,hj,hP,rfl⟩:=(hI _ _).1 az;clear az;by_cases aL:k<syms.length
   . have ai:(k:Int)<syms.length:=by omega
     obtain⟨s,hx⟩:∃s,syms[k]? =some s:=⟨_,xS aL⟩;have aw:=aaK syms k s hx;have ad:fE l c (syms.take (k+1))=if s.tok=true\/fE l c (syms.take k)=0 then fE l c (syms.take k)else fE l c (syms.take k)&&&cC l s.idx:=by
      unfold fE;rw[TF,hx,VK,W2,PO,W9]
     have aA:=yn l (syms.take k) c hc;generalize aS:fE l c (syms.take k)=cc at*;have aB:=ym aA;by_cases aa:s.tok=true\/cc=0
     . rw[if_pos aa]at ad;have av:∀(st:DS),ax st ⟨bz [(2,.v (.map (some r))),(3,.v (.pointer (some ⟨N,0,none⟩))),(6,.v (.pointer (some ⟨N+1,0,none⟩))),(9,.v (.slice (some ⟨R,0,none⟩) syms.length syms.length)),(10,iV syms.length),(11,iV (k+1:Nat))],34,[],cw (P+1) [(r,.map es clock),(R,.row (syms.map Sym.e).flatten wr ah),(N,.row (aF cc).e true 0),(N+1,.row [.v (.slice none 0 0),.v (.int .i64 0)] true 0)]⟩->∃j',j'<j/\∃d',ax st d'/\I j' d':=λst hw=>
        ⟨j-1,by omega,_,hw,(hI _ _).2 ⟨k+1,P+1,by omega,by omega,by rw[ad]⟩⟩
       cases ht:s.tok with
       |true=>
        simp(disch:=omega)[go_sem,ai,aw,hx,-getElem?_pos,Sym.e,ht,aC];refine av _ (ax.mk ?_ ?_ ?_)
        . simp(disch:=omega)[go_sem]
        . simp(disch:=omega)[go_sem,Sym.e]
        . simp(disch:=omega)[go_sem,Dg.e]
       |false=>
        have hz:cc=0:=by simpa[ht]using aa
        have af:=aB.2 hz;simp(disch:=omega)[go_sem,ai,aw,hx,-getElem?_pos,Sym.e,ht,Dg.e,af,aC];refine av _ (ax.mk ?_ ?_ ?_)
        . simp(disch:=omega)[go_sem]
        . simp(disch:=omega)[go_sem,Sym.e]
        . simp(disch:=omega)[go_sem,Dg.e,af]
     . rw[if_neg aa]at ad;have ht:s.tok=false:=by simpa using λh=>aa (.inl h)
       have hz:¬cc=0:=λh=>aa (.inr h);have af:¬(aF cc).root=0:=λh=>hz (aB.1 h);have aM:=tL aK s.idx;have hand:=vF cc (cC l s.idx) aA aM;have ao:=qn (aj:=true) (aF (cc&&&cC l s.idx));simp only[Dg.e]at hand ao;simp(disch:=omega)[go_sem,ai,aw,hx,-getElem?_pos,Sym.e,ht,Dg.e,af];refine bR [dc 0,ae 0,ae 0,aD 4,aN 14,aN 31,ae 63,ae 63,aN 255,aN 511] (by kernel_rfl) 0 rfl ?_;simp(disch:=omega)[go_sem,Sym.e,Dg.e];refine vG (es:=es) (clock:=clock) (l:=l) (by simp(disch:=omega)[go_sem]) (by simp(disch:=omega)[go_sem];try omega) hl λM hM=> ?_;simp(disch:=omega)[go_sem]at hM;simp(disch:=omega)[go_sem,Dg.e];refine⟨by omega, ?_⟩;refine an.mk hand λM2 aP=> ?_;simp(disch:=omega)[go_sem]at aP;simp(disch:=omega)[go_sem];refine an.mk ao λM3 aQ=> ?_;simp(disch:=omega)[go_sem]at aQ;simp(disch:=omega)[go_sem,aC];refine⟨j-1,by omega,_,ax.mk (N:=M3) ?_ ?_ ?_,(hI _ _).2 ⟨k+1,M3,by omega,by omega,rfl⟩⟩
       . simp(disch:=omega)[go_sem]
       . simp(disch:=omega)[go_sem,Sym.e]
       . simp(disch:=omega)[go_sem,Dg.e,ad]
   . have ai:¬(k:Int)<syms.length:=by omega
     rw[Xw (by omega)];simp(disch:=omega)[go_sem,ai,Dg.e]at hk⊢;exact⟨⟨hm.symm,hR.symm⟩,hk _ (by omega)⟩
end Go.Sp
end

/- Parts of a proof. -/
import Derived.Test.YtlgccnjcmfighaaGreatDoorK20
open Nat renaming le_refl->qG,le_trans->afx,zero_le->afI,lt_or_ge->afJ,zero_add->afX,not_lt_zero->agb
open List renaming getElem?_eq_getElem->yy,mem_of_getElem?->yB,length_append->E2,mem_map->FQ,length_map->RC,length_take->RK,take_of_length_le->Vs,length_cons->YN,getElem?_eq_some_iff->YT,length_drop->adr,drop_drop->adv,all_eq_true->afj,mem_cons->afv,mem_filter->afw,length_filter_le->afy,mem_range->afz,take_succ_cons->afA,length->afB,map_append->afC,take_append_of_le_length->afE,foldl_cons->afF,range->afG,getElem?_map->afH,append_assoc->afK,drop_eq_nil_of_le->afL,any_eq_true->afM,replicate->afN,filter_append->afO,append_nil->afP,nil_append->afQ,mem_append->afR,not_mem_nil->afS,take_length_add_append->afT,drop_eq_getElem_cons->afU,head?_drop->afV,getElem?_cons_zero->afW,take_add_one->afY,map_cons->af0,extract_eq_take_drop->af4,drop_left->af5,drop_succ_cons->af6,isEmpty_nil->af7,flatten_cons->af9,flatten_append->aga
open Iff renaming rfl->KE
open Bool renaming and_eq_true->RW,false_eq_true->afZ,false_and->af1
open Option.some renaming injEq->Xy
open ByteArray renaming size_append->Zf,size_extract->afD,data_extract->af2
open Prod.mk renaming injEq->ab8
open Array renaming toList_extract->af3
open Option renaming bind_some->af8
set_option linter.all false
set_option maxRecDepth 100000
noncomputable section
open Go Go.aD Go.Proofs
namespace Go.Sp
def K0{g:aq}{c:Nat}:∀(k:Nat) {L:List Lf} {gs:List Bool} {t:ByteArray},dL g c L=some (gs,t)->gs.length=L.length/\∃t',dL g c (L.drop k)=some (gs.drop k,t')
 |k,[],gs,t,h=>by
  simp only[dL,Xy,ab8]at h;obtain⟨rfl,rfl⟩:=h;exact⟨rfl,⟨#[]⟩,by simp[dL]⟩
 |k,l::L,gs,t,h=>by
  have h0:=h;simp only[dL]at h;cases hs:dL g c L with
  |none=>rw[hs]at h;cases h
  |some q=>
   obtain⟨af,t1⟩:=q;simp only[hs]at h;have hg:∃b,gs=b::af:=by
    split at h
    . cases h;exact⟨_,rfl⟩
    . split at h
      . cases h;exact⟨_,rfl⟩
      . cases h
   obtain⟨b,rfl⟩:=hg;have ih:=λk=>K0 k hs;refine⟨by simp[(ih 0).1], ?_⟩;cases k with
   |zero=>exact⟨t,h0⟩
   |succ k=>exact(ih k).2
def aev(d:Dg):∀t∈lW d,(t.lit=⟨#[]⟩->∃m∈ep,t.pat=m.p)/\t.lit.size<=4:=by
 have hl:∀s∈lits++iv,s≠⟨#[]⟩/\s.size<=4:=by
  have h:((lits++iv).all λs=> !decide (s=⟨#[]⟩)&&decide (s.size<=4))=true:=ak;intro s hs;simpa using afj.1 h s hs
 intro t ht;simp only[lW,au,afR,afv,FQ,afS,or_false]at ht;rcases ht with((rfl|⟨s,ab,rfl⟩)|rfl|rfl)|⟨s,ab,rfl⟩|rfl|rfl|rfl
 . exact⟨λ_=>⟨_,gw 0 ir rfl,rfl⟩,aC⟩
 . have:=hl s (afR.2 (.inl ab));exact⟨λh=>absurd h this.1,this.2⟩
 . exact⟨λ_=>⟨_,gw 1 zf rfl,rfl⟩,aC⟩
 . exact⟨λ_=>⟨_,gw 2 Ds rfl,rfl⟩,aC⟩
 . have:=hl s (afR.2 (.inr ab));exact⟨λh=>absurd h this.1,this.2⟩
 . exact⟨λ_=>⟨_,gw 3 ow rfl,rfl⟩,afI _⟩
 . exact⟨λ_=>⟨_,gw 4 Dt rfl,rfl⟩,aC⟩
 . exact⟨λ_=>⟨_,gw 5 Du rfl,rfl⟩,aC⟩
def D1(r:dP)(hr:r.Ok)(t:Tok)(ht:t∈(bG r).au):((t.lit=⟨#[]⟩->∃m∈ep,t.pat=m.p)/\t.lit.size<=4)/\∃ct,t.cond=aM ct/\ct<256:=by
 have h:=uH r hr;obtain⟨t',h1,h2⟩:=J7 h.strip ht;have ad:(au++gu r.marks (cB bA r.x).conds.length).Sublist (lW (cE bA r.marks (cB bA r.x).conds.length)):=List.Sublist.append (List.Sublist.refl _) (uG _ _);obtain⟨_,b2,b3,_⟩:=DY h2;have q:=aev _ t' (ad.subset h1);rw[<-b2,<-b3]at q;obtain⟨c0,c1,c2⟩:=h.cond t ht;exact⟨q,c0,c1,c2.1⟩
def zx(r:dP)(hr:r.Ok):kV (bG r):=by
 refine⟨λt ht=>(D1 r hr t ht).1.1, ?_,λt ht=>(D1 r hr t ht).2⟩;have:=(J8 (uH r hr) (qW r).1).len;omega
def aew:∀q∈mI,0<q.2.size/\q.2.size<=4:=by
 have h:(mI.all λq=>decide (0<q.2.size)&&decide (q.2.size<=4))=true:=ak;intro q hq;simpa using afj.1 h q hq
def size_pos{s:ByteArray}(h:s≠⟨#[]⟩):0<s.size:=by
 rcases Nat.eq_zero_or_pos s.size with h0|h0
 . exact absurd (ByteArray.size_eq_zero_iff.1 h0) h
 . exact h0
def D2(r:dP)(hr:r.Ok)(c:Nat):∀l∈ku r c,uJ (bG r) c l:=by
 intro l hl;obtain⟨h1,h2⟩:=afw.1 hl;obtain⟨b,hb,rfl⟩:=FQ.1 h1;have ah:=hr.leaves b (List.mem_of_mem_take hb);unfold kr at h2;cases ht:(bG r).au[(fT (bG r).au b).tok]? with
 |none=>rw[ht]at h2;cases h2
 |some t=>
  simp only[ht,kX,RW,decide_eq_true_eq]at h2;obtain⟨⟨a1,a2⟩,a3⟩:=h2;have ae:(fT (bG r).au b).text=jY t (fT (bG r).au b).tok b:=by
   show jY (((bG r).au[(b%(bG r).au.length).toNat]?).getD iG) _ b=_;have:(bG r).au[(b%(bG r).au.length).toNat]? =some t:=ht;rw[this];rfl
  have hq:=D1 r hr t (yB ht);by_cases h0:t.lit=⟨#[]⟩
  . obtain⟨q,q1,q2,q3⟩:=DZ r hr _ t b ht ah a1 h0;rw[<-ae]at q3;refine⟨⟨t,ht,a1,a2,.inr ⟨h0, ?_⟩⟩,by rw[q3];exact aew q q1⟩;rw[q2,q3];exact DN q q1
  . have aa:(fT (bG r).au b).text=t.lit:=by rw[ae];unfold jY;rw[if_neg h0]
    exact⟨⟨t,ht,a1,a2,.inl ⟨h0,aa⟩⟩,by rw[aa];exact⟨size_pos h0,hq.1.2⟩⟩
def D3(r:dP)(c:Nat):(ku r c).length<=12:=by
 unfold ku;refine afx (afy _ _) ?_;rw[RC,RK];omega
def K2(r:dP)(hr:r.Ok)(c:Nat)(hc:c∈iw (bG r))(k:Nat):aE E true 7 [.agg (bG r).e,cV c,.sl 4 (((ku r c).drop k).map Lf.e)] (pV (dL (bG r) c ((ku r c).drop k))):=by
 obtain⟨h1,h2⟩:=afw.1 hc;have ai:c<8:=afz.1 h1;have h3:(bG r).conds.length<=3:=by rw[(qW r).1];have:=(pO r.x hr.x).room.conds;omega
 refine KB _ _ _ (Kz (bG r) (wI r hr) (zx r hr) (aE.ar rfl (J9 r hr)) c ai h2 h3 _ (λl hl=>D2 r hr c l (List.mem_of_mem_drop hl)) ?_);have:=D3 r c;rw[adr];omega
def iy(m:cN):Nat->List UInt8->Bool
 |_,[]=>false
 |now,b::r=>if(eI m b.toNat now).1=0 then false else match r with
  |[]=>decide ((eI m b.toNat now).1&&&m.last≠0)
  |_::_=>iy m (eI m b.toNat now).2 r
def K3(m:cN)(t:ByteArray):∀(r:List UInt8) (now n:Nat),r≠[]->n+r.length=t.size->runM m (mF t) now n r false=iy m now r
 |[],_,_,h,_=>absurd rfl h
 |[b],now,n,_,hn=>by
  simp only[runM,iy]
  split
  . rfl
  . have:n+1=t.size:=by simpa using hn
    simp[mF,this]
 |b::c::r,now,n,_,hn=>by
  simp only[runM,iy]
  split
  . rfl
  . have h1:¬n+1=t.size:=by simp only[YN]at hn;omega
    have h2:=K3 m t (c::r) (eI m b.toNat now).2 (n+1) aw (by simp only[YN]at hn⊢;omega);simp only[mF,h1,decide_false,af1];simp only[runM,iy]at h2;exact h2
def K4(m:cN)(t:ByteArray)(h:t.data.toList≠[]):mG m t=iy m m.first t.data.toList:=by
 unfold mG;have h0:decide (t=⟨#[]⟩)=false:=by
  rw[decide_eq_false_iff_not];rintro rfl;exact h rfl
 rw[h0,af1];exact K3 m t _ _ 0 h aw
def aex(m:cN)(now:Nat)(b:UInt8)(r:List UInt8)(h:(eI m b.toNat now).1≠0):iy m now ((b::r).take 1)=decide ((eI m b.toNat now).1&&&m.last≠0):=by
 simp only[afA,List.take_zero,iy,if_neg h]
def aey(m:cN)(now:Nat)(b:UInt8)(r:List UInt8)(h:(eI m b.toNat now).1≠0)(k:Nat)(hk:0<k)(hr:k<=r.length):iy m now ((b::r).take (k+1))=iy m (eI m b.toNat now).2 (r.take k):=by
 cases r with
 |nil=>simp at hr;omega
 |cons c r=>
  obtain⟨k,rfl⟩:∃j,k=j+1:=⟨k-1,aa⟩;rw[afA,afA]
  conv=>lhs;unfold iy
  rw[if_neg h]
def aez(m:cN)(now:Nat)(b:UInt8)(r:List UInt8)(h:(eI m b.toNat now).1=0)(k:Nat):iy m now ((b::r).take k)=false:=by
 cases k with
 |zero=>rfl
 |succ k=>
  rw[afA];unfold iy;rw[if_pos h]
def uM(m:cN):∀(r:List UInt8) (now n g:Nat),(runM m iu now n r g=g/\∀k,k<=r.length->iy m now (r.take k)=false)\/∃k,0<k/\k<=r.length/\runM m iu now n r g=n+k/\iy m now (r.take k)=true/\∀k',k<k'->k'<=r.length->iy m now (r.take k')=false
 |[],now,n,g=>.inl ⟨rfl,λk hk=>by simp[iy]⟩
 |b::r,now,n,g=>by
  by_cases h0:(eI m b.toNat now).1=0
  . exact .inl ⟨by simp only[runM,if_pos h0],λk _=>aez m now b r h0 k⟩
  . have ad:runM m iu now n (b::r) g=runM m iu (eI m b.toNat now).2 (n+1) r (iu g (n+1) (decide ((eI m b.toNat now).1&&&m.last≠0))):=by simp only[runM,if_neg h0]
    have h1:=aex m now b r h0;have h2:=aey m now b r h0;rw[ad];rcases uM m r (eI m b.toNat now).2 (n+1) (iu g (n+1) (decide ((eI m b.toNat now).1&&&m.last≠0)))with⟨e1,e2⟩|⟨k,k0,k1,e1,e2,e3⟩
    . rw[e1];cases hi:decide ((eI m b.toNat now).1&&&m.last≠0)with
      |true=>
       rw[hi]at h1;refine .inr ⟨1,aa,aw,by simp[iu],h1,λk' h3 h4=> ?_⟩;obtain⟨j,rfl⟩:∃j,k'=j+1:=⟨k'-1,aa⟩;simp only[YN]at h4;rw[h2 j aa aa];exact e2 j aa
      |false=>
       rw[hi]at h1;refine .inl ⟨by simp[iu],λk hk=> ?_⟩;simp only[YN]at hk;rcases k with _|_|k
       . rfl
       . exact h1
       . rw[h2 (k+1) aa aa];exact e2 _ aa
    . refine .inr ⟨k+1,aa,by simp;omega,by rw[e1];omega,by rw[h2 k k0 k1];exact e2,λk' h3 h4=> ?_⟩;obtain⟨j,rfl⟩:∃j,k'=j+1:=⟨k'-1,aa⟩;simp only[YN]at h4;rw[h2 j aa aa];exact e3 j aa aa
def K5(m:cN)(a b:List UInt8)(h:∀k,0<k->k<=b.length->iy m m.first (a++b.take k)=false):runM m iu m.first 0 (a++b) 0=runM m iu m.first 0 a 0:=by
 have tk:∀k,k<=a.length->(a++b).take k=a.take k:=λk hk=>by rw[afE hk]
 have no:∀k,a.length<k->k<=(a++b).length->iy m m.first ((a++b).take k)=false:=λk h1 h2=>by
  rw[E2]at h2;obtain⟨j,rfl⟩:∃j,k=a.length+j:=⟨k-a.length,aa⟩;rw[afT];exact h j aa aa
 rcases uM m (a++b) m.first 0 0 with⟨e1,e2⟩|⟨k,k0,k1,e1,e2,e3⟩
 . rcases uM m a m.first 0 0 with⟨f1,f2⟩|⟨k',l0,l1,f1,f2,f3⟩
   . rw[e1,f1]
   . have:=e2 k' (by rw[E2];omega);rw[tk k' l1,f2]at this;cases this
 . have hk:k<=a.length:=by
    rcases afJ a.length k with h1|h1
    . rw[no k h1 k1]at e2;cases e2
    . exact h1
   rw[tk k hk]at e2;rcases uM m a m.first 0 0 with⟨f1,f2⟩|⟨k',l0,l1,f1,f2,f3⟩
   . rw[f2 k hk]at e2;cases e2
   . have e:k=k':=by
      rcases Nat.lt_trichotomy k k' with h1|h1|h1
      . have:=e3 k' h1 (by rw[E2];omega);rw[tk k' l1,f2]at this;cases this
      . exact h1
      . rw[f3 k h1 hk]at e2;cases e2
     rw[e1,f1,e]
def jA(a b:ByteArray):(a++b).data.toList=a.data.toList++b.data.toList:=by rw[ByteArray.data_append,Array.toList_append]
def uN(a:ByteArray)(n:Nat):(a.extract 0 n).data.toList=a.data.toList.take n:=by
 rw[af2,af3,af4];simp
def bytes_inj{a b:ByteArray}(h:a.data.toList=b.data.toList):a=b:=by
 obtain⟨⟨a⟩⟩:=a;obtain⟨⟨b⟩⟩:=b;simp only at h;rw[h]
def sP(s p:ByteArray):gV s p=true↔s.data.toList.take p.data.toList.length=p.data.toList:=by
 unfold gV;have hs:s.data.toList.length=s.size:=aw;have hp:p.data.toList.length=p.size:=aw;rw[RW,decide_eq_true_eq,decide_eq_true_eq,hp];constructor
 . rintro⟨h1,h2⟩;rw[<-uN,h2]
 . intro h;refine⟨?_,bytes_inj (by rw[uN,h])⟩;have:=congrArg afB h;rw[RK,hs,hp]at this;omega
def D5(g:aq)(c:Nat)(s rest:ByteArray):Prop:=∀k∈fQ g c,∀t,g.au[k]? =some t->∀n,0<n->n<=rest.size->t.lit≠s++rest.extract 0 n/\(t.lit=⟨#[]⟩->∀m∈ep,t.pat=m.p->mG m (s++rest.extract 0 n)=false)
def aeA{t:Tok}{s rest:ByteArray}(hp:t.lit=⟨#[]⟩->∃m∈ep,t.pat=m.p)(h:∀n,0<n->n<=rest.size->t.lit≠s++rest.extract 0 n/\(t.lit=⟨#[]⟩->∀m∈ep,t.pat=m.p->mG m (s++rest.extract 0 n)=false)):fm t (s++rest)=fm t s:=by
 have hr:rest.data.toList.length=rest.size:=aw;by_cases h0:t.lit=⟨#[]⟩
 . obtain⟨m,m1,m2,e⟩:∃m∈ep,t.pat=m.p/\∀x,fm t x=kU m x:=by
    obtain⟨m0,q1,q2⟩:=hp h0;cases hf:ep.find? λm=>decide (eU m.p=eU t.pat)with
    |none=>
     have:=List.find?_eq_none.1 hf m0 q1;rw[q2]at this;simp at this
    |some m=>
     have hq:=List.find?_some hf;refine⟨m,List.mem_of_find?_eq_some hf,(Ks (of_decide_eq_true hq)).symm,λx=> ?_⟩;unfold fm;rw[if_pos h0,hf]
   rw[e,e];unfold kU;rw[jA];refine K5 m _ _ λk k0 k1=> ?_;rw[hr]at k1;have h2:=(h k k0 k1).2 h0 m m1 m2;rw[K4 m _ (by rw[jA,uN];intro hc;have:=congrArg afB hc;rw[E2,RK,hr,List.length_nil]at this;omega),jA,uN]at h2;exact h2
 . unfold fm;rw[if_neg h0,if_neg h0];have hb:gV (s++rest) t.lit=gV s t.lit:=by
    rw[Bool.eq_iff_iff,sP,sP,jA];rcases afJ s.data.toList.length t.lit.data.toList.length with h1|h1
    . constructor
      . intro h2;exfalso;obtain⟨n,hn⟩:∃n,t.lit.data.toList.length=s.data.toList.length+n:=⟨t.lit.data.toList.length-s.data.toList.length,aa⟩;have hl:=congrArg afB h2;rw[RK,E2,hr]at hl;refine(h n aa aa).1 (bytes_inj ?_);rw[jA,uN,<-h2,hn,afT]
      . intro h2;have hl:=congrArg afB h2;rw[RK]at hl;omega
    . rw[afE h1]
   rw[hb]
def aeB{g:aq}(hg:kV g){c:Nat}{s rest:ByteArray}(h:D5 g c s rest):firstM g c (s++rest)=firstM g c s:=by
 unfold firstM;have key:∀(l:List Nat),(∀k∈l,k∈fQ g c)->∀p,fp g (s++rest) l p=fp g s l p:=λl=>by
  induction l with
  |nil=>intro _ p;rfl
  |cons k l ih=>
   intro hl p;simp only[fp,afF]at ih⊢;have hk:lenOf g (s++rest) k=lenOf g s k:=by
    unfold lenOf;cases hq:g.au[k]? with
    |none=>rfl
    |some t=>exact aeA (hg.pat t (yB hq)) (h k (hl k aw) t hq)
   rw[hk];exact ih (λk' ae=>hl k' (by simp[ae])) _
 exact key _ (λ_ h=>h) _
def aeC{g:aq}(hg:kV g){c:Nat}{s rest:ByteArray}(h:D5 g c s rest)(l:Lf):gD g c (s++rest) l=gD g c s l:=by
 unfold gD;rw[aeB hg h]
def aeD(m:cN)(a b:List UInt8)(h:runM m iu m.first 0 (a++b) 0<=a.length):runM m iu m.first 0 (a++b) 0=runM m iu m.first 0 a 0:=by
 refine K5 m a b λk k0 k1=> ?_;have e:a++b.take k=(a++b).take (a.length+k):=by rw[afT]
 rw[e];rcases uM m (a++b) m.first 0 0 with⟨-,e2⟩|⟨j,-,-,e1,-,e3⟩
 . exact e2 _ (by rw[E2];omega)
 . exact e3 _ aa (by rw[E2];omega)
def aeE{t:Tok}{s r:ByteArray}(hp:t.lit=⟨#[]⟩->∃m∈ep,t.pat=m.p)(h:fm t (s++r)<=s.size):fm t (s++r)=fm t s:=by
 by_cases h0:t.lit=⟨#[]⟩
 . obtain⟨m0,q1,q2⟩:=hp h0;unfold fm at h⊢;rw[if_pos h0]at h⊢;rw[if_pos h0];cases hf:ep.find? λm=>decide (eU m.p=eU t.pat)with
   |none=>rfl
   |some m=>
    rw[hf]at h;simp only at h⊢;unfold kU at h⊢;rw[jA]at h⊢;exact aeD m _ _ (by simpa using h)
 . unfold fm at h⊢;rw[if_neg h0]at h⊢;rw[if_neg h0];have hl:t.lit.data.toList.length=t.lit.size:=aw;have af:s.data.toList.length=s.size:=aw;have hb:gV (s++r) t.lit=gV s t.lit:=by
    cases hq:gV (s++r) t.lit with
    |true=>
     rw[hq,if_pos rfl]at h;rw[sP,jA,afE aa]at hq;exact((sP _ _).2 hq).symm
    |false=>
     cases ab:gV s t.lit with
     |false=>rfl
     |true=>
      have hle:t.lit.size<=s.size:=by
       unfold gV at ab;rw[RW,decide_eq_true_eq]at ab;exact ab.1
      rw[sP]at ab;rw[(sP (s++r) t.lit).2 (by rw[jA,afE aa,ab])]at hq;cases hq
   rw[hb]
def K6(g:aq)(s:ByteArray):∀(l:List Nat) (p:Nat×List Nat),p.1<=(fp g s l p).1/\∀k∈l,lenOf g s k<=(fp g s l p).1
 |[],p=>⟨qG _,λk hk=>by cases hk⟩
 |t::l,p=>by
  obtain⟨h1,h2⟩:=K6 g s l (fR (lenOf g s t) t p);have h3:p.1<=(fR (lenOf g s t) t p).1/\lenOf g s t<=(fR (lenOf g s t) t p).1:=by
   unfold fR;simp only
   split<;>omega
  refine⟨by simp only[fp,afF]at h1⊢;omega,λk hk=> ?_⟩;simp only[fp,afF]at h1 h2⊢;rcases afv.1 hk with rfl|hk
  . omega
  . exact h2 k hk
def aeF{g:aq}(hg:kV g){c:Nat}{s r:ByteArray}(h:(firstM g c (s++r)).1<=s.size):firstM g c (s++r)=firstM g c s:=by
 have hle:∀k∈fQ g c,lenOf g (s++r) k<=s.size:=λk hk=>afx ((K6 g (s++r) (fQ g c) (0,[])).2 k hk) h;unfold firstM;have key:∀(l:List Nat),(∀k∈l,k∈fQ g c)->∀p,fp g (s++r) l p=fp g s l p:=λl=>by
  induction l with
  |nil=>intro _ p;rfl
  |cons k l ih=>
   intro hl p;simp only[fp,afF]at ih⊢;have hk:lenOf g (s++r) k=lenOf g s k:=by
    have h2:=hle k (hl k aw);unfold lenOf at h2⊢;cases hq:g.au[k]? with
    |none=>rfl
    |some t=>
     rw[hq]at h2;exact aeE (hg.pat t (yB hq)) h2
   rw[hk];exact ih (λk' ae=>hl k' (by simp[ae])) _
 exact key _ (λ_ h=>h) _
def ed:List Lf->List Bool->ByteArray
 |[],_=>⟨#[]⟩
 |l::L,gs=>l.text++((if gs.head? =some true then fq else⟨#[]⟩)++ed L gs.tail)
def zy(a:ByteArray):(⟨#[]⟩:ByteArray)++a=a:=bytes_inj (by rw[jA];rfl)
def zz(a b c:ByteArray):a++b++c=a++(b++c):=bytes_inj (by simp only[jA,afK])
def D6{g:aq}{c:Nat}:∀{L:List Lf} {gs:List Bool} {t:ByteArray},dL g c L=some (gs,t)->t=ed L gs/\gs.length=L.length
 |[],gs,t,h=>by
  simp only[dL,Xy,ab8]at h;obtain⟨rfl,rfl⟩:=h;exact⟨rfl,rfl⟩
 |l::L,gs,t,h=>by
  simp only[dL]at h
  split at h
  . cases h
  . rename_i ah rest hq;obtain⟨h1,h2⟩:=D6 hq
    split at h
    . simp only[Xy,ab8]at h;obtain⟨rfl,rfl⟩:=h;exact⟨by simp[ed,zy,<-h1],by simp[h2]⟩
    . split at h
      . simp only[Xy,ab8]at h;obtain⟨rfl,rfl⟩:=h;exact⟨by simp[ed,<-h1,zz],by simp[h2]⟩
      . cases h
def dS(L:List Lf)(gs:List Bool):Nat->ByteArray×List Nat
 |0=>(⟨#[]⟩,[])
 |k+1=>match L[k]? with
  |some l=>((dS L gs k).1++l.text++(if gs[k]? =some true then fq else⟨#[]⟩),(dS L gs k).2++[(dS L gs k).1.size])
  |none=>dS L gs k
def D7(a:ByteArray):a++(⟨#[]⟩:ByteArray)=a:=bytes_inj (by rw[jA];simp)
def wQ(L:List Lf)(gs:List Bool)(k:Nat)(l:Lf)(h:L[k]? =some l):dS L gs (k+1)=((dS L gs k).1++l.text++(if gs[k]? =some true then fq else⟨#[]⟩),(dS L gs k).2++[(dS L gs k).1.size]):=by
 rw[dS,h]
def D8(L:List Lf)(gs:List Bool):∀k,k<=L.length->(dS L gs k).1++ed (L.drop k) (gs.drop k)=ed L gs
 |0,_=>by rw[dS,zy];rfl
 |k+1,h=>by
  obtain⟨l,hl⟩:∃l,L[k]? =some l:=⟨_,yy aa⟩;have ih:=D8 L gs k aa;have hd:L.drop k=l::L.drop (k+1):=by rw[afU aa,(YT.1 hl).2]
  rw[hd]at ih;rw[wQ L gs k l hl,<-ih];simp only[ed,afV,List.tail_drop,zz]
def D9(L:List Lf)(gs:List Bool):(dS L gs L.length).1=ed L gs:=by
 have:=D8 L gs L.length (qG _);rw[afL (qG _)]at this;simp only[ed,D7]at this;exact this
def zA(L:List Lf)(gs:List Bool)(hL:∀l∈L,l.text.size<=100):∀k,(dS L gs k).1.size<=101*k/\(dS L gs k).2.length<=k
 |0=>⟨afI _,afI _⟩
 |k+1=>by
  obtain⟨h1,h2⟩:=zA L gs hL k;cases hq:L[k]? with
  |none=>rw[dS,hq];simp only;omega
  |some l=>
   have h3:=hL l (yB hq);rw[wQ L gs k l hq];simp only[Zf,E2,List.length_singleton];have h4:(if gs[k]? =some true then fq else(⟨#[]⟩:ByteArray)).size<=1:=by split<;>decide
   omega
set_option maxHeartbeats 4000000 in
def aeG(L:List Lf)(gs:List Bool)(hL:∀l∈L,l.text.size<=100)(hlen:L.length<=1000)(aF:gs.length<=1000):aE E true 19 [.sl 4 (L.map Lf.e),cx gs] (.bp [sV (ed L gs),dZ (dS L gs L.length).2]):=by
 refine bc Tryz.ntmps19 Tryz.results19 λN=> ?_;rw[<-D9];refine aL ?_;obtain⟨I,hI⟩:∃I:Nat->DS->Prop,∀j d,I j d↔∃(k:Nat) (s:ByteArray) (xs:List Nat) (H:ae) (pv:DV),j+k=L.length/\dS L gs k=(s,xs)/\N<=H.next/\cw H N H.next 1 (xs.map λn=>[iV (n:Nat)]) pv/\
  d=⟨bw [(0,.sl 4 (L.map Lf.e)),(1,.sl 1 (gs.map λb=>[bV b])),(6,sV s),(7,pv),(8,iV (k:Nat))],41,[],H⟩:=⟨_,λ_ _=>KE⟩
 refine bS I L.length ⟨_,aB.bb (l:=[(0,.sl 4 (L.map Lf.e)),(1,.sl 1 (gs.map λb=>[bV b])),(6,sV ⟨#[]⟩),(7,cK),(8,iV (0:Nat))]) ?_,(hI _ _).2 ⟨0,⟨#[]⟩,[],_,cK,rfl,rfl,qG _,.nil _ _ _ _,rfl⟩⟩ ?_
 . simp(disch:=omega)[go_sem,cx]
 . intro j ds ak;obtain⟨k,s,xs,H,pv,hj,ai,hN,hgr,rfl⟩:=(hI _ _).1 ak;clear ak;have an:∀x∈xs.map λn=>[iV (n:Nat)],x.length=1:=λx hx=>by obtain⟨y,_,rfl⟩:=FQ.1 hx;rfl
   have ao:=zA L gs hL k;rw[ai]at ao;simp only at ao;by_cases av:k<L.length
   . have ad:(k:Int)<L.length:=aa;obtain⟨l,hl⟩:∃l,L[k]? =some l:=⟨_,yy av⟩;have af:=wQ L gs k l hl;rw[ai]at af;simp only at af;have aH:=hL l (yB hl);simp(disch:=omega)[go_sem,ad,eJ];refine cw.app (st:=70) (xt:=70) (B:=N) (U:=H.next) (k:=1) (xs:=xs.map λn=>[iV (n:Nat)]) (hgr.same (λq q1 q2=>by rw[ae.dN,if_neg aa]) (qG _)) sf n9 aa ah (new:=[iV (s.size:Nat)]) ah aC rfl rfl an (by rw[RC];omega) λH' aq T q0 q1 q2 q3 q4=> ?_;replace q2:=cq q2;have fin:∀(s':ByteArray) (T:Tr DV),s++l.text++(if gs[k]? =some true then fq else⟨#[]⟩)=s'->gm T [(0,.sl 4 (L.map Lf.e)),(1,.sl 1 (gs.map λb=>[bV b])),(6,sV s'),(7,aq),(8,iV (k+1:Nat))]->∃j',j'<j/\∃d',aB ⟨T,41,[],H'⟩ d'/\I j' d':=λs' T h1 h2=>⟨j-1,aa,_,aB.bb h2,(hI _ _).2 ⟨k+1,s',xs++[s.size],H',aq,aa,by rw[af,h1],aa,by rw[afC];exact q1,rfl⟩⟩;have aI:s.size+l.text.size<=9223372036854775807:=aa;have aw:(s++l.text).size<=200000:=by rw[Zf];omega
     by_cases az:k<gs.length
     . have ab:(k:Int)<gs.length:=aa;obtain⟨b,hb⟩:∃b,gs[k]? =some b:=⟨_,yy az⟩;rw[hb]at fin;cases b with
       |true=>
        have aJ:(s++l.text).size+(⟨#[32]⟩:ByteArray).size<=9223372036854775807:=by show _+1<=_;omega
        simp(disch:=omega)[go_sem,hl,ab,hb,-getElem?_pos,Lf.e,aG];refine fin _ _ rfl ?_;simp(disch:=omega)[go_sem,fq]
       |false=>
        simp(disch:=omega)[go_sem,hl,ab,hb,-getElem?_pos,Lf.e,aG];refine fin _ _ (D7 _) ?_;exact ah
     . have ab:¬(k:Int)<gs.length:=aa;rw[List.getElem?_eq_none aa]at fin;simp(disch:=omega)[go_sem,hl,ab,-getElem?_pos,Lf.e,aG];refine fin _ _ (D7 _) ?_;exact ah
   . have ad:¬(k:Int)<L.length:=aa;obtain rfl:k=L.length:=aa;rw[ai];simp(disch:=omega)[go_sem,ad];exact hgr.fz aC an
structure Wd where
 fr:Nat
 to:Nat
 sQ:Int
 first:Bool
 au:List Nat
def Wd.e(w:Wd):List DV:=[iV (w.fr:Nat),iV (w.to:Nat),iV w.sQ,bV w.first,dZ w.au]
def pW(g:aq)(c:Nat)(lx:ByteArray)(t:Nat):Bool:=decide (fS g [t]=0)&& !(g.aZ.any (kW g c ⟨t,lx⟩))
def sR(C:Nat->Int×Bool)(a n:Nat)(l:List Nat):Wd:=⟨a,a+n,(C a).1,(C a).2,l⟩
def cS(g:aq)(c:Nat)(C:Nat->Int×Bool)(s:ByteArray):Nat->Nat->List Wd×List Wd×Int
 |0,_=>([],[],-1)
 |k+1,a=>if s.size<=a then([],[],-1)else
  if(firstM g c (s.extract a s.size)).1=0 then([],[],a)else
  if fS g (firstM g c (s.extract a s.size)).2=2 then
   ((cS g c C s k (a+(firstM g c (s.extract a s.size)).1)).1,sR C a (firstM g c (s.extract a s.size)).1 ((firstM g c (s.extract a s.size)).2.take 1)::(cS g c C s k (a+(firstM g c (s.extract a s.size)).1)).2.1,(cS g c C s k (a+(firstM g c (s.extract a s.size)).1)).2.2)
  else if fS g (firstM g c (s.extract a s.size)).2=0 then
   (sR C a (firstM g c (s.extract a s.size)).1 ((firstM g c (s.extract a s.size)).2.filter (pW g c (s.extract a (a+(firstM g c (s.extract a s.size)).1))))::(cS g c C s k (a+(firstM g c (s.extract a s.size)).1)).1,(cS g c C s k (a+(firstM g c (s.extract a s.size)).1)).2)
  else cS g c C s k (a+(firstM g c (s.extract a s.size)).1)
def okW(L:List Lf)(gs:List Bool)(ws:List Wd)(i:Nat):Bool:=match ws[i]?,L[i]? with
 |some w,some l=>decide (w.fr=(dS L gs i).1.size)&&decide (w.to=(dS L gs i).1.size+l.text.size)&&w.au.any λt=>decide (t=l.tok)
 |_,_=>false
def oy(g:aq)(c:Nat)(C:Nat->Int×Bool)(L:List Lf)(gs:List Bool):Bool:=
 let p:=cS g c C (ed L gs) ((ed L gs).size+1) 0
 decide (p.2.2=-1)&&p.2.1.isEmpty&&decide (p.1.length=L.length)&&(afG L.length).all (okW L gs p.1)
def uO(a:ByteArray)(i j:Nat):(a.extract i j).data.toList=(a.data.toList.drop i).take (j-i):=by
 rw[af2,af3,af4]
def lD(a:ByteArray):a.data.toList.length=a.size:=aw
def aeH(p q:ByteArray):(p++q).extract p.size (p++q).size=q:=bytes_inj (by
 rw[uO,jA,<-lD p,af5,Vs];rw[<-lD (p++q),jA,E2];omega)
def K7{s u v:ByteArray}{a:Nat}(h:s.extract a s.size=u++v):s.extract a (a+u.size)=u:=bytes_inj (by
 have h1:=congrArg (λx=>x.data.toList) h;simp only[uO,jA]at h1;have h2:s.data.toList.drop a=u.data.toList++v.data.toList:=by rw[<-h1,Vs];rw[adr,lD];omega
 rw[uO,h2,show a+u.size-a=u.data.toList.length from by rw[lD];omega,List.take_left])
def aeI{s u v:ByteArray}{a:Nat}(h:s.extract a s.size=u++v):s.extract (a+u.size) s.size=v:=bytes_inj (by
 have h1:=congrArg (λx=>x.data.toList) h;simp only[uO,jA]at h1;have h2:s.data.toList.drop a=u.data.toList++v.data.toList:=by rw[<-h1,Vs];rw[adr,lD];omega
 rw[uO,<-adv,h2,<-lD u,af5,Vs];have h3:=congrArg afB h2;rw[adr,E2,lD,lD,lD]at h3;rw[lD,lD];omega)
def wR{s v:ByteArray}{a:Nat}(h:s.extract a s.size=v)(h0:0<v.size):a<s.size:=by
 have h1:=congrArg ByteArray.size h;rw[<-lD,uO,RK,adr,lD]at h1;omega
section
variable {g:aq} {c:Nat} {C:Nat->Int×Bool}
def aeJ{s v:ByteArray}{a n:Nat}{l:Lf}(hs:s.extract a s.size=l.text++v)(h0:0<l.text.size)(ad:fS g [l.tok]=0)(hb:gD g c (l.text++v) l=true):
 ∃ts,ts.any (λt=>decide (t=l.tok))=true/\cS g c C s (n+1) a=(sR C a l.text.size ts::(cS g c C s n (a+l.text.size)).1,(cS g c C s n (a+l.text.size)).2):=by
 have ae:¬s.size<=a:=by have:=wR hs (by rw[Zf];omega);omega
 unfold gD at hb;simp only[RW,decide_eq_true_eq,Bool.not_eq_true']at hb;obtain⟨⟨⟨h1,h2⟩,h3⟩,h4⟩:=hb;refine⟨(firstM g c (l.text++v)).2.filter (pW g c l.text), ?_, ?_⟩
 . obtain⟨t,t1,t2⟩:=afM.1 h3;obtain rfl:=of_decide_eq_true t2;refine afM.2 ⟨l.tok,afw.2 ⟨t1, ?_⟩,aw⟩;show(decide (fS g [l.tok]=0)&& !(g.aZ.any (kW g c l)))=true;rw[h4,ad];rfl
 . rw[cS,if_neg ae,hs,h1,if_neg aa,if_neg (by rw[h2];decide),if_pos h2,K7 hs]
def aeK{s v:ByteArray}{a n:Nat}(hs:s.extract a s.size=fq++v)(hb:ox g c v=true):cS g c C s (n+1) a=cS g c C s n (a+1):=by
 have ae:¬s.size<=a:=by have:=wR hs (by rw[Zf];show 0<1+_;omega);omega
 unfold ox at hb;simp only[RW,decide_eq_true_eq]at hb;rw[cS,if_neg ae,hs,hb.1,if_neg aa,if_neg (by rw[hb.2];decide),if_neg (by rw[hb.2];decide)]
def zB(L:List Lf)(gs:List Bool)(k:Nat)(ws:List Wd):Prop:=∀i w,ws[i]? =some w->∀l,L[k+i]? =some l->w.fr=(dS L gs (k+i)).1.size/\w.to=(dS L gs (k+i)).1.size+l.text.size/\w.au.any (λt=>decide (t=l.tok))=true
def zB.cons{L:List Lf}{gs:List Bool}{k:Nat}{w:Wd}{ws:List Wd}{l:Lf}(hl:L[k]? =some l)(h1:w.fr=(dS L gs k).1.size/\w.to=(dS L gs k).1.size+l.text.size/\w.au.any (λt=>decide (t=l.tok))=true)(h2:zB L gs (k+1) ws):zB L gs k (w::ws):=by
 intro i w' hw l' af;cases i with
 |zero=>
  simp only[afW,Xy]at hw;subst hw;rw[Nat.add_zero,hl]at af;cases af;exact h1
 |succ i=>
  rw[List.getElem?_cons_succ]at hw;rw[show k+(i+1)=k+1+i from by omega]at af⊢;exact h2 i w' hw l' af
def sS(g:aq)(c:Nat):List Lf->List Bool->Prop
 |[],_=>True
 |l::L,gs=>gD g c (ed (l::L) gs) l=true/\(gs.head? =some true->ox g c (ed L gs.tail)=true)/\sS g c L gs.tail
def K8:∀{L:List Lf} {gs:List Bool} {t:ByteArray},dL g c L=some (gs,t)->sS g c L gs
 |[],_,_,_=>trivial
 |l::L,gs,t,h=>by
  simp only[dL]at h
  split at h
  . cases h
  . rename_i aH rest hq;obtain⟨e1,-⟩:=D6 hq;have ih:=K8 hq
    split at h
    . rename_i hb;simp only[Xy,ab8]at h;obtain⟨rfl,-⟩:=h;exact⟨by simpa[ed,zy,<-e1]using hb,aw,ih⟩
    . split at h
      . rename_i hb;rw[RW]at hb;simp only[Xy,ab8]at h;obtain⟨rfl,-⟩:=h;exact⟨by simpa[ed,<-e1,zz]using hb.1,λ_=>by simpa[<-e1]using hb.2,ih⟩
      . cases h
def K9:∀(k:Nat) {L:List Lf} {gs:List Bool},sS g c L gs->sS g c (L.drop k) (gs.drop k)
 |0,_,_,h=>h
 |k+1,[],_,_=>trivial
 |k+1,l::L,gs,h=>by
  have:=K9 k h.2.2;rw[<-List.drop_one,adv]at this;rw[af6,Nat.add_comm k 1];exact this
def La{L:List Lf}{gs:List Bool}(h:sS g c L gs)(hL:∀l∈L,0<l.text.size/\fS g [l.tok]=0):∀j k,k+j=L.length->∀n,(ed L gs).size<(dS L gs k).1.size+n->∃ws,cS g c C (ed L gs) n (dS L gs k).1.size=(ws,[],-1)/\ws.length=j/\zB L gs k ws
 |0,k,hk,n,hn=>by
  obtain rfl:k=L.length:=aa;rw[D9]at hn⊢;obtain⟨n,rfl⟩:∃m,n=m+1:=⟨n-1,aa⟩;exact⟨[],by rw[cS,if_pos (qG _)],rfl,λi w hw=>by simp at hw⟩
 |j+1,k,hk,n,hn=>by
  obtain⟨l,hl⟩:∃l,L[k]? =some l:=⟨_,yy aa⟩;obtain⟨l1,l2⟩:=hL l (yB hl);have hd:L.drop k=l::L.drop (k+1):=by rw[afU aa,(YT.1 hl).2]
  have ab:(ed L gs).extract (dS L gs k).1.size (ed L gs).size=ed (L.drop k) (gs.drop k):=by
   rw[<-D8 L gs k aa];exact aeH _ _
  have ah:=wQ L gs k l hl;have av:=K9 k h;rw[hd]at ab av;obtain⟨hb,az,-⟩:=av;rw[afV]at az;simp only[ed,afV]at ab hb;have ae:=wR ab (by rw[Zf];omega);obtain⟨n,rfl⟩:∃m,n=m+1:=⟨n-1,aa⟩;obtain⟨ts,q1,q2⟩:=aeJ (C:=C) (n:=n) ab l1 l2 hb;have an:=aeI ab;have sz:(dS L gs (k+1)).1.size=(dS L gs k).1.size+l.text.size+(if gs[k]? =some true then 1 else 0):=by
   rw[ah];simp only[Zf];split<;>rfl
  obtain⟨m,hm,ai⟩:∃m,(ed L gs).size<(dS L gs (k+1)).1.size+m/\cS g c C (ed L gs) n ((dS L gs k).1.size+l.text.size)=cS g c C (ed L gs) m (dS L gs (k+1)).1.size:=by
   by_cases hg:gs[k]? =some true
   . rw[if_pos hg]at an sz;have aF:=wR an (by rw[Zf];show 0<1+_;omega);obtain⟨n,rfl⟩:∃m,n=m+1:=⟨n-1,aa⟩;exact⟨n,aa,by rw[aeK an (az hg),sz]⟩
   . rw[if_neg hg]at sz;exact⟨n,aa,by rw[sz];rfl⟩
  obtain⟨ws,r1,r2,r3⟩:=La h hL j (k+1) aa m hm;rw[q2,ai,r1];exact⟨_,rfl,by rw[YN,r2],r3.cons hl ⟨rfl,rfl,q1⟩⟩
def Lb{L:List Lf}{gs:List Bool}(h:sS g c L gs)(hL:∀l∈L,0<l.text.size/\fS g [l.tok]=0):oy g c C L gs=true:=by
 obtain⟨ws,r1,r2,r3⟩:=La (C:=C) h hL L.length 0 aa ((ed L gs).size+1) aa;have e0:(dS L gs 0).1.size=0:=rfl;rw[e0]at r1;unfold oy;rw[r1];simp only[decide_true,af7,Bool.and_true,r2,Bool.true_and,afj,afz];intro i hi;obtain⟨l,hl⟩:∃l,L[i]? =some l:=⟨_,yy hi⟩;obtain⟨w,hw⟩:∃w,ws[i]? =some w:=⟨_,yy aa⟩;obtain⟨q1,q2,q3⟩:=r3 i w hw l (by rw[afX];exact hl);rw[afX]at q1 q2;simp only[okW,hw,hl,q1,q2,q3,decide_true,Bool.and_true]
def Lc{s:ByteArray}:∀(n a:Nat),∀w∈(cS g c C s n a).1,a<=w.fr
 |0,a,w,hw=>by simp[cS]at hw
 |n+1,a,w,hw=>by
  have ih:=Lc (s:=s) n (a+(firstM g c (s.extract a s.size)).1);rw[cS]at hw
  split at hw
  . cases hw
  . split at hw
    . cases hw
    . split at hw
      . have:=ih w hw;omega
      . split at hw
        . rcases afv.1 hw with rfl|hw
          . exact qG _
          . have:=ih w hw;omega
        . have:=ih w hw;omega
def aeL{l:Lf}{L:List Lf}{gs:List Bool}{v:ByteArray}(h:ed (l::L) gs=l.text++v)(hl:0<l.text.size)(hb:gD g c (l.text++v) l=false):oy g c C (l::L) gs=false:=by
 cases hr:oy g c C (l::L) gs with
 |false=>rfl
 |true=>
  exfalso;unfold oy at hr;rw[h]at hr;obtain⟨s,hs⟩:∃s,l.text++v=s:=⟨_,rfl⟩;have ak:s.extract 0 s.size=l.text++v:=by rw[JW,hs]
  have ae:=wR ak (by rw[Zf];omega);rw[hs]at hr;simp only[RW,decide_eq_true_eq,afj,afz]at hr;obtain⟨⟨⟨p1,p2⟩,p3⟩,p4⟩:=hr;have p4:=p4 0 aw;have aC:=Lc (g:=g) (c:=c) (C:=C) (s:=s) s.size (0+(firstM g c (s.extract 0 s.size)).1);rw[cS,if_neg aa,ak,hs]at p1 p2 p3 p4;rw[ak,hs]at aC
  split at p1
  . cases p1
  . rename_i aG;rw[if_neg aG]at p2 p4
    split at p1
    . rename_i ao;rw[if_pos ao]at p2;cases p2
    . rename_i ao;rw[if_neg ao]at p2 p4
      split at p1
      . rename_i ad;rw[if_pos ad]at p4;simp only[okW,afW,RW,decide_eq_true_eq]at p4;obtain⟨⟨q1,q2⟩,q3⟩:=p4;have q2:0+(firstM g c s).1=0+l.text.size:=q2;obtain⟨t,t1,t2⟩:=afM.1 q3;obtain rfl:=of_decide_eq_true t2;obtain⟨t3,t4⟩:=afw.1 t1;have hx:s.extract 0 (0+(firstM g c s).1)=l.text:=by rw[q2];exact K7 ak
        rw[hx]at t4;unfold pW at t4;rw[RW]at t4;have h4:(!(g.aZ.any (kW g c l)))=true:=t4.2;rw[hs]at hb;unfold gD at hb;rw[ad,h4,show(firstM g c s).1=l.text.size from by omega]at hb;have h5:((firstM g c s).2.any λt=>decide (l.tok=t))=true:=afM.2 ⟨l.tok,t3,aw⟩;rw[h5]at hb;simp at hb
      . rename_i ad;rw[if_neg ad]at p4;unfold okW at p4
        split at p4
        . rename_i w l' hw af;have h1:=aC w (yB hw);simp only[RW,decide_eq_true_eq]at p4;have h2:w.fr=0:=p4.1.1;omega
        . cases p4
end
end Go.Sp
end
noncomputable section
open Go Go.aD Go.Proofs
namespace Go.Sp
def Ld{H0:ae}(s:ByteArray)(a b:Nat)(h:a<=b)(hb:b<=s.size):de E H0 9 (some (sV s)) (some (some (iV (a:Nat)))) (some (some (iV (b:Nat)))) (some none)=some (sV (s.extract a b)):=by
 have h1:=zl a b .sliceB h;have h3:=zl b s.size .sliceAlen hb;have h2:b9 E.P (Instr.sliceAt 9 (.string s) (some (.int .i64 a)) (some (.int .i64 b)) none)=some (.string (s.extract a b)):=by
  simp only[Instr.sliceAt,lQ,Dz,af8,Instr.slice,Instr.sliceBounds,Option.isSome,jN];simp[lQ,jN]at h1 h3⊢;rw[h3,af8,DA,h1];rfl
 simp[de,vB,u9,ph,exact,jB,q9,plain,ew,eV,h2]
def l8(s:ByteArray):Nat->Int
 |0=>-1
 |n+1=>match s[n]? with
  |some b=>if b.toNat=10 then(n:Int)else l8 s n
  |none=>l8 s n
def Le(s:ByteArray):∀n,-1<=l8 s n/\l8 s n<n
 |0=>⟨Int.le_refl _,show(-1:Int)<0 by decide⟩
 |n+1=>by
  have ih:=Le s n;unfold l8
  split
  . split<;>omega
  . omega
def aeM(s:ByteArray)(hs:s.size<=1000000000):aE E true 141 [sV s,uV 10] (iV (l8 s s.size)):=by
 refine bc Tryz.ntmps141 Tryz.results141 λN=> ?_;obtain⟨R,hR⟩:∃R,l8 s s.size=R:=⟨_,rfl⟩;rw[hR];simp(disch:=omega)[go_sem,eJ,aG];obtain⟨I,hI⟩:∃I:Nat->DS->Prop,∀j d,I j d↔∃(P:Nat),j<=s.size/\l8 s j=R/\d=⟨bw [(0,sV s),(1,uV 10),(5,iV ((j:Int)-1))],19,[],cj P []⟩:=⟨_,λ_ _=>KE⟩;refine bS I s.size ⟨_,aB.mk (N:=N) ah ah ah,(hI _ _).2 ⟨N,qG _,hR,rfl⟩⟩ ?_
 . intro j ds ad;obtain⟨P,hj,hl,rfl⟩:=(hI _ _).1 ad;clear ad;cases j with
   |zero=>
    obtain rfl:R=-1:=hl.symm;exact ah
   |succ n=>
    have e:(((n+1:Nat):Int)-1)=(n:Nat):=aa;rw[e];obtain⟨b,hb⟩:∃b,s[n]? =some b:=⟨_,getElem?_pos s n aa⟩;have af:=zk s n b hb;have av:b.toNat<256:=b.toNat_lt;simp only[l8,hb]at hl;by_cases aw:b.toNat=10
    . rw[if_pos aw]at hl;subst hl;simp(disch:=omega)[go_sem,af,aw]
    . rw[if_neg aw]at hl;have az:¬((b.toNat:Int)=10):=aa;simp(disch:=omega)[go_sem,af,az,aG];exact⟨n,aa,_,aB.mk (N:=P) ah ah ah,(hI _ _).2 ⟨P,aa,hl,rfl⟩⟩
def uP(b:UInt8):Bool:=decide (b.toNat=9)||decide (b.toNat=32)
def bj:List DV:=(afG 256).map λi=>bV (decide (i=9)||decide (i=32))
def aeN(b:UInt8):bj[b.toNat]? =some (bV (uP b)):=by
 have av:b.toNat<256:=b.toNat_lt;unfold bj;rw[afH,List.getElem?_range av];rfl
def arA:E.arr 226=some (256,1):=ak
def xH:E.ld 226=some (some 256):=ak
def szA:E.size 226=some 256:=ak
def zeA:E.zero 226=some (.agg (afN 256 (.bool false)).toArray):=ak
def Lg(b:UInt8):aE E true 178 [.ptr bj 0,uV b.toNat] (bV (uP b)):=by
 have av:b.toNat<256:=b.toNat_lt;have hg:=aeN b;obtain⟨A,hA⟩:∃A,bj=A:=⟨_,rfl⟩;rw[hA]at hg⊢;refine bc Tryz.ntmps178 Tryz.results178 λN=> ?_;have af:gZ E 226 (.ptr A 0) (some (b.toNat:Int))=some (.ptr A b.toNat):=by
  have h2:(b.toNat:Int)<256:=aa;simp[gZ,arA,h2]
 simp(disch:=omega)[go_sem,af,hg,-getElem?_pos]
def uQ:Nat->ByteArray->ByteArray
 |0,s=>s
 |k+1,s=>match s[0]? with
  |some b=>if uP b then uQ k (s.extract 1 s.size)else s
  |none=>s
def oz:Nat->ByteArray->ByteArray
 |0,s=>s
 |k+1,s=>match s[k]? with
  |some b=>if uP b then oz k (s.extract 0 k)else s
  |none=>s
def Lh:∀(k:Nat) (s:ByteArray),(oz k s).size<=s.size
 |0,_=>qG _
 |k+1,s=>by
  unfold oz
  split
  . split
    . have:=Lh k (s.extract 0 k);rw[afD]at this;omega
    . exact qG _
  . exact qG _
def aeO(s:ByteArray)(hs:s.size<=1000000000):aE E true 145 [sV s,.ptr bj 0] (sV (uQ s.size s)):=by
 obtain⟨A,hA⟩:∃A,bj=A:=⟨_,rfl⟩;have ab:=Lg;rw[hA]at ab⊢;refine bc Tryz.ntmps145 Tryz.results145 λN=> ?_;obtain⟨R,hR⟩:∃R,uQ s.size s=R:=⟨_,rfl⟩;rw[hR];refine aL ?_;obtain⟨I,hI⟩:∃I:Nat->DS->Prop,∀j d,I j d↔∃(u:ByteArray) (P:Nat),u.size=j/\j<=1000000000/\uQ j u=R/\d=⟨bw [(0,sV u),(1,.ptr A 0)],16,[],cj P []⟩:=⟨_,λ_ _=>KE⟩;refine bS I s.size ⟨_,aB.mk (N:=N) ah ah ah,(hI _ _).2 ⟨s,N,rfl,hs,hR,rfl⟩⟩ ?_
 . intro j ds ad;obtain⟨u,P,hj,aJ,hl,rfl⟩:=(hI _ _).1 ad;clear ad;cases j with
   |zero=>
    have hl:u=R:=hl;subst hl;simp(disch:=omega)[go_sem,eJ,hj]
   |succ n=>
    have ai:0<u.size:=aa;obtain⟨b,hb⟩:∃b,u[0]? =some b:=⟨_,getElem?_pos u 0 aa⟩;have af:mY E 9 (sV u) (iV 0)=some (.v (.int .u8 b.toNat)):=zk u 0 b hb;have an:∀h,de E h 9 (some (sV u)) (some (some (iV 1))) (some none) (some none)=some (sV (u.extract 1 u.size)):=λh=>DB u 1 aa;simp only[uQ,hb]at hl;simp(disch:=omega)[go_sem,eJ,ai,af];refine ax.mk (ab b) λM=>aT λhM=> ?_;cases hw:uP b with
    |false=>
     rw[hw,if_neg aC]at hl;subst hl;exact ah
    |true=>
     rw[hw,if_pos rfl]at hl;simp(disch:=omega)[go_sem,an];refine⟨n,aa,_,aB.mk (N:=M) ?_ ?_ ?_,(hI _ _).2 ⟨u.extract 1 u.size,M,by rw[afD];omega,aa,hl,rfl⟩⟩
     . exact ah
     . exact ah
     . exact ah
def aeP(s:ByteArray)(hs:s.size<=1000000000):aE E true 146 [sV s,.ptr bj 0] (sV (oz s.size s)):=by
 obtain⟨A,hA⟩:∃A,bj=A:=⟨_,rfl⟩;have ab:=Lg;rw[hA]at ab⊢;refine bc Tryz.ntmps146 Tryz.results146 λN=> ?_;obtain⟨R,hR⟩:∃R,oz s.size s=R:=⟨_,rfl⟩;rw[hR];refine aL ?_;obtain⟨I,hI⟩:∃I:Nat->DS->Prop,∀j d,I j d↔∃(u:ByteArray) (P:Nat),u.size=j/\j<=1000000000/\oz j u=R/\d=⟨bw [(0,sV u),(1,.ptr A 0)],22,[],cj P []⟩:=⟨_,λ_ _=>KE⟩;refine bS I s.size ⟨_,aB.mk (N:=N) ah ah ah,(hI _ _).2 ⟨s,N,rfl,hs,hR,rfl⟩⟩ ?_
 . intro j ds ad;obtain⟨u,P,hj,aJ,hl,rfl⟩:=(hI _ _).1 ad;clear ad;cases j with
   |zero=>
    have hl:u=R:=hl;subst hl;simp(disch:=omega)[go_sem,eJ,hj]
   |succ n=>
    have ai:0<u.size:=aa;have aH:(u.size:Int)-1=(n:Nat):=aa;obtain⟨b,hb⟩:∃b,u[n]? =some b:=⟨_,getElem?_pos u n aa⟩;have af:=zk u n b hb;have an:∀h,de E h 9 (some (sV u)) (some none) (some (some (iV (n:Nat)))) (some none)=some (sV (u.extract 0 n)):=λh=>DC u n aa;simp only[oz,hb]at hl;simp(disch:=omega)[go_sem,eJ,ai,aG,aH,af];refine ax.mk (ab b) λM=>aT λhM=> ?_;cases hw:uP b with
    |false=>
     rw[hw,if_neg aC]at hl;subst hl;exact ah
    |true=>
     rw[hw,if_pos rfl]at hl;simp(disch:=omega)[go_sem,eJ,aG,aH,an];refine⟨n,aa,_,aB.mk (N:=M) ?_ ?_ ?_,(hI _ _).2 ⟨u.extract 0 n,M,by rw[afD];omega,aa,hl,rfl⟩⟩
     . exact ah
     . exact ah
     . exact ah
def aeQ:aE E true 144 [sV ⟨#[32,9]⟩] (.bp [.agg bj,bV true]):=HT 3000 ak
def wS(s:ByteArray):ByteArray:=if s=⟨#[]⟩then s else uQ (oz s.size s).size (oz s.size s)
def aeR(s:ByteArray)(hs:s.size<=1000000000):aE E true 88 [sV s,sV ⟨#[32,9]⟩] (sV (wS s)):=by
 have h1:=aeQ;have h2:=aeP s hs;have h3:=aeO (oz s.size s) (by have:=Lh s.size s;omega);have ao:bj.length=256:=by unfold bj;simp
 have aq:bj.all cZ=true:=ak;obtain⟨A,hA⟩:∃A,bj=A:=⟨_,rfl⟩;rw[hA]at h1 h2 h3 ao aq;obtain⟨R,hR⟩:∃R,wS s=R:=⟨_,rfl⟩;rw[hR];refine bc Tryz.ntmps88 Tryz.results88 λN=> ?_;have hn:¬((⟨#[32,9]⟩:ByteArray)=⟨#[]⟩):=aC;have aK:((⟨#[32,9]⟩:ByteArray)).size=2:=rfl;by_cases h0:s=⟨#[]⟩
 . rw[wS,if_pos h0]at hR;subst hR;simp(disch:=omega)[go_sem,h0]
 . rw[wS,if_neg h0]at hR;rw[hR]at h3;simp(disch:=omega)[go_sem,h0,hn,eJ,aK];refine ax.mk h1 λM=>aT λhM=> ?_;simp(disch:=omega)[go_sem,xH,szA,zeA,ao,aq];refine ax.pl h2 (.cons (.refl _) (.cons (im (aj:=0) (ck (wr:=true) ?_)) .nil)) λM2 aF=> ?_
   . simp(disch:=omega)[go_sem,ao,aq]
   replace aF:=cq aF;refine aL ?_;refine ax.pl h3 (.cons (.refl _) (.cons (im (aj:=0) (ck (wr:=true) ?_)) .nil)) λM3 aI=> ?_
   . simp(disch:=omega)[go_sem,ao,aq]
   replace aI:=cq aI;exact ah
def aeS(s:ByteArray)(hs:s.size<=1000000000):aE E true 87 [sV s,uV 10] (iV (l8 s s.size)):=by
 refine bc Tryz.ntmps87 Tryz.results87 λN=> ?_;refine aL ?_;refine ax.mk (aeM s hs) λM=>aT λhM=> ?_;exact ah
def Li(s:ByteArray)(hs:s.size<=1000000000)(a:Nat)(ha:a<=s.size):∃v:Int×Bool,aE E true 43 [sV s,iV (a:Nat)] (.bp [iV v.1,bV v.2]):=by
 obtain⟨u,hu⟩:∃u,s.extract 0 a=u:=⟨_,rfl⟩;have aM:u.size=a:=by rw[<-hu,afD];omega
 have h1:=aeS u aa;obtain⟨q1,q2⟩:=Le u u.size;obtain⟨p,hp⟩:∃p:Nat,l8 u u.size+1=p:=⟨(l8 u u.size+1).toNat,aa⟩;obtain⟨z,hz⟩:∃z,l8 u u.size=z:=⟨_,rfl⟩;rw[hz]at h1 hp q1 q2;have h2:=aeR (s.extract p a) (by rw[afD];omega);have c1:∀h,de E h 9 (some (sV s)) (some none) (some (some (iV (a:Nat)))) (some none)=some (sV u):=λh=>by rw[DC s a ha,hu]
 have c2:∀h,de E h 9 (some (sV s)) (some (some (iV (p:Nat)))) (some (some (iV (a:Nat)))) (some none)=some (sV (s.extract p a)):=λh=>Ld s p a aa ha;refine⟨((a:Int)-p,decide (wS (s.extract p a)=⟨#[]⟩)), ?_⟩;refine bc Tryz.ntmps43 Tryz.results43 λN=> ?_;simp(disch:=omega)[go_sem,c1];refine ax.mk h1 λM=>aT λhM=> ?_;simp(disch:=omega)[go_sem,aG,hp,c2];refine ax.mk h2 λM2=>aT λaF=> ?_;exact ah
def aeT(g:aq)(hg:kV g)(t:Tok)(ht:t∈g.au)(s:ByteArray)(hs:s.size<=1000000000)(a:Nat)(ha:a<=s.size):aE E true 42 [.agg t.e,sV s,iV (a:Nat)] (iV (fm t (s.extract a s.size):Nat)):=by
 obtain⟨u,hu⟩:∃u,s.extract a s.size=u:=⟨_,rfl⟩;obtain⟨R,hR⟩:∃R,fm t u=R:=⟨_,rfl⟩;have av:∀h,de E h 9 (some (sV s)) (some (some (iV (a:Nat)))) (some none) (some none)=some (sV u):=λh=>by rw[DB s a ha,hu]
 rw[hu,hR];refine bc Tryz.ntmps42 Tryz.results42 λN=> ?_;simp(disch:=omega)[go_sem,Tok.e];by_cases h0:t.lit=⟨#[]⟩
 . obtain⟨m,m1,m2,m3⟩:=zq (s:=u) h0 (hg.pat t ht h0);have hl:=J4 m m1 s hs a ha;rw[<-m2,hu,<-m3,hR]at hl;simp(disch:=omega)[go_sem,h0];refine ax.mk hl λM=>aT λhM=> ?_;exact ah
 . have hp:=Ko u t.lit;have aN:R=if gV u t.lit then t.lit.size else 0:=by rw[<-hR];unfold fm;rw[if_neg h0]
   simp(disch:=omega)[go_sem,h0];refine bZ [ai 0,ai 0,aK 3,ai 0,aK 8,aU 31] ak 0 rfl ?_;simp(disch:=omega)[go_sem,av];refine ax.mk hp λM=>aT λhM=> ?_;cases hb:gV u t.lit with
   |true=>
    rw[hb,if_pos rfl]at aN;subst aN;simp(disch:=omega)[go_sem,eJ]
   |false=>
    rw[hb,if_neg aC]at aN;subst aN;exact ah
def aeU(g:aq)(lx:ByteArray)(k:Int)(h0:0<=k)(tk:Tok)(hk:g.au[k.toNat]? =some tk):aE E true 91 [iV k,.ptr g.e 0,.ptr [sV lx] 0] (bV (decide (l7 g k=lx))):=by
 have bj:=(YT.1 hk).1;have bm:l7 g k=tk.lit:=by simp only[l7,hk]
 rw[bm];refine bc Tryz.ntmps91 Tryz.results91 λN=> ?_;refine aL ?_;refine bZ [ai 0,aK 1,ai 0,ai 7,ai 15,aK 31,aK 0,ai 127,ai 255] ak 0 rfl ?_;simp(disch:=omega)[go_sem,aq.e,hk,h0,-getElem?_pos,Tok.e]
def lF(g:aq)(k:Nat)(lx:ByteArray)(f:bk):Bool:=decide (f.kind=5)&&decide (f.token=(k:Int))&&f.au.any λt=>decide (l7 g t=lx)
set_option maxHeartbeats 4000000 in
def aeV(g:aq)(hg:GV g)(k:Nat)(lx:ByteArray):aE E true 47 [.agg g.e,iV (k:Nat),sV lx] (.sl 2 ((g.aZ.filter (lF g k lx)).map λf=>f.cond.e)):=by
 have bB:=hg.aZ.len;have ba:=aeU g lx;refine bc Tryz.ntmps47 Tryz.results47 λN=> ?_;obtain⟨ge,az⟩:∃ge,g.e=ge:=⟨_,rfl⟩;have af:ge=[strs g.conds,.sl 3 (g.family.nodes.map cL),iV g.family.root,.sl 7 (g.au.map Tok.e),strs g.aP,.sl 13 (g.ay.map aX.e),iV g.start,.sl 4 (g.bn.map dg.e),.sl 9 (g.aZ.map bk.e)]:=by rw[<-az];rfl
 rw[az]at ba⊢;simp(disch:=omega)[go_sem,af];rw[<-af]
 let F:Nat->List (List DV):=λk'=>((g.aZ.take k').filter (lF g k lx)).map λf=>f.cond.e
 obtain⟨I,hI⟩:∃I:Nat->DS->Prop,∀j d,I j d↔∃(i:Nat) (H:ae) (pv:DV),j+i=g.aZ.length/\N+2<=H.next/\cw H (N+2) H.next 2 (F i) pv/\H.get N=some (.row ge true 0)/\H.get (N+1)=some (.row [sV lx] true 0)/\
  d=⟨bw [(1,iV (k:Nat)),(3,aI N),(5,aI (N+1)),(7,pv),(11,.sl 9 (g.aZ.map bk.e)),(12,iV (g.aZ.length:Nat)),(13,iV (i:Nat))],37,[],H⟩:=⟨_,λ_ _=>KE⟩
 refine bS I g.aZ.length ⟨_,aB.bb (l:=[(1,iV (k:Nat)),(3,aI N),(5,aI (N+1)),(7,cK),(11,.sl 9 (g.aZ.map bk.e)),(12,iV (g.aZ.length:Nat)),(13,iV (0:Nat))]) ah,(hI _ _).2 ⟨0,_,cK,rfl,ah,.nil _ _ _ _, ?_,ah,rfl⟩⟩ ?_
 . simp(disch:=omega)[go_sem,af]
 . intro j ds aF;obtain⟨i,H,pv,hj,hN,hgr,f1,f2,rfl⟩:=(hI _ _).1 aF;clear aF;have bd:∀x∈F i,x.length=2:=λx hx=>by obtain⟨y,_,rfl⟩:=FQ.1 hx;rfl
   have bD:(F i).length<=i:=by
    simp only[F,RC];exact afx (afy _ _) (by rw[RK];omega)
   by_cases aQ:i<g.aZ.length
   . have ab:(i:Int)<g.aZ.length:=aa;obtain⟨f,hf⟩:∃f,g.aZ[i]? =some f:=⟨_,yy aQ⟩;have bo:=yB hf;have hF:F (i+1)=F i++if lF g k lx f then [f.cond.e]else []:=by
      simp only[F];rw[afY,hf,afO,afC];congr 1;cases hb:lF g k lx f<;>simp[hb]
     have next:∀(H':ae) (aw:DV) (T:Tr DV),N+2<=H'.next->cw H' (N+2) H'.next 2 (F (i+1)) aw->H'.get N=some (.row ge true 0)->H'.get (N+1)=some (.row [sV lx] true 0)->gm T [(1,iV (k:Nat)),(3,aI N),(5,aI (N+1)),(7,aw),(11,.sl 9 (g.aZ.map bk.e)),(12,iV (g.aZ.length:Nat)),(13,iV (i+1:Nat))]->∃j',j'<j/\∃d',aB ⟨T,37,[],H'⟩ d'/\I j' d':=λH' aw T h1 h2 h3 h4 h5=>
      ⟨j-1,aa,_,aB.bb h5,(hI _ _).2 ⟨i+1,H',aw,aa,h1,h2,h3,h4,rfl⟩⟩
     have skip:lF g k lx f=false->∀(H':ae) (T:Tr DV),H.next<=H'.next->(∀q,q<H.next->H'.get q=H.get q)->gm T [(1,iV (k:Nat)),(3,aI N),(5,aI (N+1)),(7,pv),(11,.sl 9 (g.aZ.map bk.e)),(12,iV (g.aZ.length:Nat)),(13,iV (i+1:Nat))]->∃j',j'<j/\∃d',aB ⟨T,37,[],H'⟩ d'/\I j' d':=λhb H' T h1 h2 h3=>by
      rw[hb]at hF;simp only[afZ,if_false,afP]at hF;exact next H' pv T aa (by rw[hF];exact hgr.same (λq _ q2=>h2 q q2) h1) (by rw[h2 _ aa,f1]) (by rw[h2 _ aa,f2]) h3
     by_cases h5:f.kind=5
     . by_cases ht:f.token=(k:Int)
       . have ao:∃t,mB g t f.au:=by
          obtain⟨_,bp⟩:=hg.aZ.ok f bo;rcases bp with h|h|h|h|h
          . have:=h.1;omega
          . have:=h.1;omega
          . have:=h.1;omega
          . have:=h.1;omega
          . obtain⟨_,_,_,_,_,_,t,_,_,_,h9⟩:=h;exact⟨_,h9⟩
         obtain⟨_,ao⟩:=ao;have aS:=Kr f.au (λt=>decide (l7 g t=lx)) 91 [.ptr ge 0,.ptr [sV lx] 0] (by have:=ao.len;omega) (λx hx=>by
          obtain⟨h0,t,h1,_⟩:=ao.tok x hx;exact ba x h0 t h1)
         simp(disch:=omega)[go_sem,ab,hf,-getElem?_pos,bk.e,h5,ht];refine ax.pl aS (.cons (.refl _) (.cons (DU (.cons (im (aj:=0) (ck (wr:=true) ?_)) (.cons (im (aj:=0) (ck (wr:=true) ?_)) .nil))) .nil)) λM hM=> ?_
         . simp(disch:=omega)[go_sem,f1]
         . simp(disch:=omega)[go_sem,f2]
         replace hM:=cq hM;cases hb:f.au.any (λt=>decide (l7 g t=lx))with
         |false=>
          simp(disch:=omega)[go_sem,aG];refine skip (by simp[lF,hb]) _ _ ?_ ?_ ah
          . simp(disch:=omega)[go_sem];omega
          . intro q hq;simp(disch:=omega)[go_sem]
         |true=>
          rw[show lF g k lx f=true from by simp[lF,hb,h5,ht],if_pos rfl]at hF;refine aL ?_;refine cw.app (st:=118) (xt:=118) (B:=N+2) (U:=H.next) (k:=2) (xs:=F i) (hgr.same (λq q1 q2=>ah) (qG _)) GA Gz aa (by simp(disch:=omega)[go_sem];omega) (new:=f.cond.e) (by simp(disch:=omega)[go_sem,Dg.e]) aC rfl rfl bd aa λH' aw T q0 q1 q2 q3 q4=> ?_;simp(disch:=omega)[go_sem]at q2 q3;simp(disch:=omega)[go_sem,aG];refine next _ aw _ aa ?_ ?_ ?_ ah
          . rw[hF];exact q1
          . rw[q3 _ aa (hgr.ne (.inl aa))];simp(disch:=omega)[go_sem,f1]
          . rw[q3 _ aa (hgr.ne (.inl aa))];simp(disch:=omega)[go_sem,f2]
       . simp(disch:=omega)[go_sem,ab,hf,-getElem?_pos,bk.e,h5,ht,aG];refine skip (by simp[lF,ht]) _ _ ah ?_ ah
         . intro q hq;simp(disch:=omega)[go_sem]
     . simp(disch:=omega)[go_sem,ab,hf,-getElem?_pos,bk.e,h5,aG];refine skip (by simp[lF,h5]) _ _ ah ?_ ah
       . intro q hq;simp(disch:=omega)[go_sem]
   . have ab:¬(i:Int)<g.aZ.length:=aa;have hF:F i=(g.aZ.filter (lF g k lx)).map λf=>f.cond.e:=by simp only[F];rw[Vs aa]
     simp(disch:=omega)[go_sem,ab];rw[<-hF];exact hgr.fz aC bd
def aeW{α:Type}(xs:List α)(en:α->List DV)(ps:α->Bool)(f:FuncId)(c:List DV)(hx:∀x,(en x).length=2)(hl:xs.length<=100000)(hf:∀x∈xs,aE E true f (.agg (en x)::c) (bV (ps x))):aE E true 90 [.sl 2 (xs.map en),.fn f [] c] (iV (fk (xs.map ps) 0)):=by
 refine bc Tryz.ntmps90 Tryz.results90 λN=> ?_;obtain⟨R,hR⟩:∃R,fk (xs.map ps) 0=R:=⟨_,rfl⟩;rw[hR];refine aL ?_;obtain⟨I,hI⟩:∃I:Nat->DS->Prop,∀j d,I j d↔∃(k P:Nat),j+k=xs.length/\fk ((xs.map ps).drop k) k=R/\d=⟨bw [(0,.sl 2 (xs.map en)),(1,.fn f [] c),(7,iV xs.length),(8,iV k)],19,[],cj P []⟩:=⟨_,λ_ _=>KE⟩;refine bS I xs.length ⟨_,aB.mk (N:=N) ah ah ah,(hI _ _).2 ⟨0,N,rfl,hR,rfl⟩⟩ ?_
 . intro j ds aF;obtain⟨k,P,hj,ad,rfl⟩:=(hI _ _).1 aF;clear aF;by_cases aQ:k<xs.length
   . have ab:(k:Int)<xs.length:=aa;obtain⟨y,hy⟩:∃y,xs[k]? =some y:=⟨_,yy aQ⟩;rw[zp (b:=ps y) (by rw[afH,hy];rfl)]at ad;have bq:=hf y (yB hy);have bs:=sC (hx y);simp(disch:=omega)[go_sem,ab,hy,-getElem?_pos,bs];refine ax.mk bq λP2 bE=> ?_;cases hb:ps y with
     |true=>
      rw[hb,if_pos rfl]at ad;subst ad;exact ah
     |false=>
      rw[hb,if_neg aC]at ad;simp(disch:=omega)[go_sem,aG];exact⟨j-1,aa,_,aB.mk (N:=P2) ah ah ah,(hI _ _).2 ⟨k+1,P2,aa,ad,rfl⟩⟩
   . have ab:¬(k:Int)<xs.length:=aa;rw[afL (by simp;omega)]at ad;have ad:(-1:Int)=R:=ad;simp(disch:=omega)[go_sem,ab,ad]
def aeX{α:Type}(xs:List α)(en:α->List DV)(ps:α->Bool)(f:FuncId)(c:List DV)(hx:∀x,(en x).length=2)(hl:xs.length<=100000)(hf:∀x∈xs,aE E true f (.agg (en x)::c) (bV (ps x))):aE E true 46 [.sl 2 (xs.map en),.fn f [] c] (bV (xs.any ps)):=by
 refine bc Tryz.ntmps46 Tryz.results46 λN=> ?_;have hr:=wK (xs.map ps) 0;rw[List.any_map]at hr;have bt:xs.any ps=decide (0<=fk (xs.map ps) 0):=hr.symm;rw[bt];refine aL ?_;refine ax.mk (aeW xs en ps f c hx hl hf) λM=>aT λhM=> ?_;exact ah
def Lj(ct c:Nat)(bu:ct<256)(hc:c<8):aE E true 41 [.agg (aM ct).e,.ptr [cV c] 0] (bV (er (aM ct) c)):=by
 have hh:=uI ct c bu hc;simp only[Dg.e]at hh;refine bc Tryz.ntmps41 Tryz.results41 λN=> ?_;simp(disch:=omega)[go_sem,Dg.e];refine ax.mk hh λM=>aT λhM=> ?_;exact ah
def aeY(g:aq)(c k:Nat)(lx:ByteArray):((g.aZ.filter (lF g k lx)).any λf=>er f.cond c)=g.aZ.any (kW g c ⟨k,lx⟩):=by
 rw[List.any_filter];congr 1
 funext f
 unfold lF kW;simp only;generalize decide (f.kind=5)=A;generalize decide (f.token=(k:Int))=B;generalize er f.cond c=C;generalize (f.au.any λt=>decide (l7 g t=lx))=D;cases A<;>cases B<;>cases C<;>cases D<;>rfl
set_option maxHeartbeats 4000000 in
def aeZ(g:aq)(hg:GV g)(c:Nat)(hc:c<8)(s:ByteArray)(a m:Nat)(bx:a+m<=s.size)(hs:s.size<=1000000000)(k:Nat)(tk:Tok)(hk:g.au[k]? =some tk):
 aE E true 45 [iV (k:Nat),.ptr g.e 0,.ptr [sV s] 0,.ptr [iV (a:Nat)] 0,.ptr [iV (m:Nat)] 0,.ptr [.fn 41 [] [.ptr [cV c] 0]] 0] (bV (!(pW g c (s.extract a (a+m)) k))):=by
 obtain⟨lx,bf⟩:∃lx,s.extract a (a+m)=lx:=⟨_,rfl⟩;have bj:=(YT.1 hk).1;have av:∀h,de E h 9 (some (sV s)) (some (some (iV (a:Nat)))) (some (some (.v (.int .i64 ((a:Int)+m))))) (some none)=some (sV lx):=λh=>by
  rw[<-bf,<-Ld (H0:=h) s a (a+m) aa bx];rfl
 have aH:=aeV g hg k lx;have aJ:=aeX (g.aZ.filter (lF g k lx)) (λf=>f.cond.e) (λf=>er f.cond c) 41 [.ptr [cV c] 0] (λ_=>rfl) (afx (afy _ _) (by have:=hg.aZ.len;omega)) (λf hf=>by
  obtain⟨⟨cf,bA,aW⟩,_⟩:=hg.aZ.ok f (afw.1 hf).1;have:=Lj cf c aW.1 hc;rw[<-bA]at this;exact this)
 rw[aeY]at aJ;obtain⟨bg,an⟩:∃bg,(!(pW g c lx k))=bg:=⟨_,rfl⟩;have aY:fS g [k]=tk.cls:=by simp only[fS,hk]
 rw[bf,an];unfold pW at an;rw[aY]at an;obtain⟨ge,az⟩:∃ge,g.e=ge:=⟨_,rfl⟩;have af:ge=[strs g.conds,.sl 3 (g.family.nodes.map cL),iV g.family.root,.sl 7 (g.au.map Tok.e),strs g.aP,.sl 13 (g.ay.map aX.e),iV g.start,.sl 4 (g.bn.map dg.e),.sl 9 (g.aZ.map bk.e)]:=by rw[<-az];rfl
 rw[az]at aH⊢;refine bc Tryz.ntmps45 Tryz.results45 λN=> ?_;refine aL ?_;refine bZ [ai 0,aK 1,ai 0,ai 7,ai 15,aK 31,ai 63,ai 127,aK 255,ai 255,aK 255,aK 255,aK 255,aK 255,ai 12543,aK 31999,aU 65535,dC 255,aU 262143,ai 524287,ai 1048575] ak 0 rfl ?_;by_cases h0:tk.cls=0
 . simp(disch:=omega)[go_sem,af,hk,-getElem?_pos,Tok.e,h0,aG,av];rw[<-af];refine ax.mk aH λM=>dI λhM=> ?_;refine ax.mk aJ λM2=>dI λbF=> ?_;rw[h0]at an;rw[<-an];simp;exact .refl _
 . simp(disch:=omega)[go_sem,af,hk,-getElem?_pos,Tok.e,h0];rw[<-an];simp[h0];exact .refl _
def ae0{h:ae}{st el b o n c aj:Nat}{k:IntKind}{m:Int}{cs:List DV}{K:ae×Nat->Prop}(hu:E.under st=some (.slice el))(hs:E.size el=some 1)(hz:E.zero el=some (.int k m))(hg:h.get b=some (.row cs true aj))(h0:0<n)(hn:o+n<=cs.length)
 (hk:K (h.set b (some (.row (cs.take o++afN n (.v (.int k m))++cs.drop (o+n)) true aj)),b)):aO (tI E h [st].toArray (some [.v (.slice (some ⟨b,o,none⟩) n c)])) K:=by
 refine⟨_, ?_,hk⟩;unfold tI;have e0:([st].toArray:Array TypeId)[0]? =some st:=rfl;simp only[e0,hu,hg,hs,hz];rw[if_pos ⟨h0,hn⟩]
def ae1{h:ae}{ty:TypeId}{b n c s aj:Nat}{cs:List DV}{wr:Bool}{z:Nat}(hs:E.elem ty=some s)(hg:h.get b=some (.row cs wr aj))(he:aj=0\/aj=s)(h1:z<=n)(hc:n<=c):
 de E h ty (some (.v (.slice (some ⟨b,0,none⟩) n c))) (some (some (iV (z:Nat)))) (some none) (some none)=some (.v (.slice (some ⟨b,z*s,none⟩) (n-z) (c-z))):=by
 have h2:(z:Int)<=n:=aa;simp[de,fK,gd,jH,dR,hs,hg,he,h1,h2,hc,Addr.add]
abbrev gW(l:List Nat):List DV:=l.map λ(n:Nat)=>iV (n:Nat)
def Ea(l:List Nat)(k:Nat):(gW l).drop k=gW (l.drop k):=List.map_drop.symm
def ae2(l:List Nat)(k:Nat):(gW l).take k=gW (l.take k):=List.map_take.symm
def ae3(a b:List Nat):gW (a++b)=gW a++gW b:=afC
def ae4:E.under 70=some (.slice 3):=ak
def Lk(l:List Nat):(l.map λ(n:Nat)=>[iV (n:Nat)]).flatten=gW l:=by
 induction l with
 |nil=>rfl
 |cons x l ih=>rw[af0,af9,ih];rfl
def Ll(bb:Nat->Bool):∀(l:List Nat) (i:Nat),(fk (l.map λx=> !(bb x)) i=-1/\l.filter bb=l)\/∃k,k<l.length/\fk (l.map λx=> !(bb x)) i=((i+k:Nat):Int)/\(l.take (k+1)).filter bb=l.take k
 |[],_=>.inl ⟨rfl,rfl⟩
 |x::l,i=>by
  cases hx:bb x with
  |false=>exact .inr ⟨0,aw,by simp[fk,hx],by simp[hx]⟩
  |true=>
   rcases Ll bb l (i+1)with⟨h1,h2⟩|⟨k,h1,h2,h3⟩
   . exact .inl ⟨by simp[fk,hx,h1],by simp[hx,h2]⟩
   . refine .inr ⟨k+1,by simpa using h1, ?_, ?_⟩
     . simp only[af0,hx,Bool.not_true,fk,afZ,if_false,h2];omega
     . rw[afA,afA,List.filter_cons,hx,if_pos rfl,h3]
set_option maxHeartbeats 8000000 in
def ae5{K:cD}{dd:List FuncId}{h:ae}{R aj:Nat}{l:List Nat}(bb:Nat->Bool)(F:FuncId)(ab ad:List DV)(S:List Nat)(hl:l.length<=100000)(he:aj=0\/aj=1)(bf:R<h.next)(hR:h.get R=some (.row (gW l) true aj))
 (hS:∀i∈S,i<h.next/\i≠R) (ai:∀H:ae,(∀i∈S,H.get i=h.get i)->cI (allRows H) ab ad) (hp:∀x∈l,aE E true F (iV (x:Nat)::ad) (bV (!(bb x))))
 (hk:∀h' T cs,h.next<=h'.next->(∀i,i<h.next->i≠R->h'.get i=h.get i)->h'.get R=some (.row cs true aj)->cs.length=l.length->cs.take (l.filter bb).length=gW (l.filter bb)->K (.v (.slice (some ⟨R,0,none⟩) (l.filter bb).length l.length)) dd h' T):
 ax E true K dd h (44,[.v (.slice (some ⟨R,0,none⟩) l.length l.length),.fn F [] ab]):=by
 obtain⟨N,hN⟩:∃N,h.next=N:=⟨_,rfl⟩;have aq:∀H:ae,(∀i∈S,H.get i=h.get i)->H.get R=some (.row (gW l) true aj)->cI (allRows H) [.v (.slice (some ⟨R,0,none⟩) l.length l.length),.fn F [] ab] [.sl 1 ((l.map λ(n:Nat)=>(n:Int)).map λn=>[iV n]),.fn F [] ad]:=λH h1 h2=>by
  refine .cons ?_ (.cons (DU (ai H h1)) .nil);rw[List.map_map];exact dY (aj:=aj) (ck (wr:=true) (by rw[h2];exact congrArg (λq=>some (bF.row q true aj)) (Lk l).symm)) he aC (by rw[RC]) (qG _) (λx hx=>by obtain⟨y,_,rfl⟩:=FQ.1 hx;rfl)
 have an:=Kq (l.map λ(n:Nat)=>(n:Int)) (λx=> !(bb x.toNat)) F ad (by rw[RC];exact hl) (λx hx=>by
  obtain⟨y,hy,rfl⟩:=FQ.1 hx;exact hp y hy)
 have av:((l.map λ(n:Nat)=>(n:Int)).map λx=> !(bb x.toNat))=l.map λx=> !(bb x):=by rw[List.map_map];rfl
 rw[av]at an;refine gR Tryz.ntmps44 Tryz.results44 ?_;refine aL ?_;refine ax.pl an (aq h (λ_ _=>rfl) hR) λM hM=> ?_;rcases Ll bb l 0 with⟨h1,h2⟩|⟨i0,h1,h2,h3⟩
 . rw[h1];rw[h2]at hk;refine aL ?_;intro T;exact hk (h.up M) T (gW l) (by rw[ae.iU];exact hM) (λ_ _ _=>rfl) hR aw (by rw[Vs aw])
 . rw[h2,afX];have aQ:¬((i0:Int)=-1):=aa;simp(disch:=omega)[go_sem,aQ,aG];obtain⟨I,hI⟩:∃I:Nat->DS->Prop,∀j d,I j d↔∃(k i:Nat) (cs:List DV) (H:ae),j+k=l.length/\i<k/\N<=H.next/\H.get R=some (.row cs true aj)/\cs.length=l.length/\i=((l.take k).filter bb).length/\cs.take i=gW ((l.take k).filter bb)/\cs.drop k=gW (l.drop k)/\(∀q,q<N->q≠R->H.get q=h.get q)/\
    d=⟨bw [(0,.v (.slice (some ⟨R,0,none⟩) l.length l.length)),(1,.fn F [] ab),(5,iV (i:Nat)),(6,iV (k:Nat))],42,[],H⟩:=⟨_,λ_ _=>KE⟩
   have aS:((l.take (i0+1)).filter bb).length=i0:=by rw[h3,RK];omega
   refine bS I (l.length-(i0+1)) ⟨_,aB.bb (l:=[(0,.v (.slice (some ⟨R,0,none⟩) l.length l.length)),(1,.fn F [] ab),(5,iV (i0:Nat)),(6,iV (i0+1:Nat))]) ?_,(hI _ _).2 ⟨i0+1,i0,gW l,_,by omega,by omega, ?_, ?_,by simp,aS.symm, ?_,Ea _ _, ?_,rfl⟩⟩ ?_
   . simp(disch:=omega)[go_sem]
   . rw[ae.iU];omega
   . exact hR
   . rw[h3,ae2]
   . intro q _ _;rfl
   . intro j ds aI;obtain⟨k,i,cs,H,hj,bg,bj,g1,g2,g3,g4,g5,g6,rfl⟩:=(hI _ _).1 aI;clear aI;have aT:∀q∈S,H.get q=h.get q:=λq hq=>g6 q (by have:=(hS q hq).1;omega) (hS q hq).2;by_cases aU:k<l.length
     . have af:(k:Int)<l.length:=aa;obtain⟨x,hx⟩:∃x,l[k]? =some x:=⟨_,yy aU⟩;have aW:cs[k]? =some (iV (x:Nat)):=by
        have:=congrArg (λq=>q[0]?) g5;simp only[List.getElem?_drop,Nat.add_zero,afH]at this;rw[this,hx];rfl
       have aJ:l.take (k+1)=l.take k++[x]:=by rw[afY,hx];rfl
       have aX:=hp x (yB hx);have bk:k<cs.length:=aa;have ba:i<cs.length:=aa;simp(disch:=omega)[go_sem,af,g1,aW,-getElem?_pos];refine ax.pl aX (.cons (.refl _) (ai H aT)) λM2 bm=> ?_;have aK:i<l.length:=aa;have az:(i:Int)<l.length:=aa;cases aM:bb x with
       |false=>
        have hf:(l.take (k+1)).filter bb=(l.take k).filter bb:=by rw[aJ,afO];simp[aM]
        simp(disch:=omega)[go_sem,aG];refine⟨j-1,aa,_,aB.bb (l:=[(0,.v (.slice (some ⟨R,0,none⟩) l.length l.length)),(1,.fn F [] ab),(5,iV (i:Nat)),(6,iV (k+1:Nat))]) ?_,(hI _ _).2 ⟨k+1,i,cs,_,aa,aa, ?_, ?_,g2,by rw[hf];exact g3,by rw[hf];exact g4, ?_, ?_,rfl⟩⟩
        . exact ah
        . simp(disch:=omega)[go_sem];omega
        . simp(disch:=omega)[go_sem,g1]
        . rw[<-adv,<-adv,g5,Ea]
        . intro q q1 q2;simp(disch:=omega)[go_sem,g6 q q1 q2]
       |true=>
        have hf:(l.take (k+1)).filter bb=(l.take k).filter bb++[x]:=by rw[aJ,afO];simp[aM]
        have aF:i+1<=cs.length:=ba;simp(disch:=omega)[go_sem,aG,az,g1,aF];have aH:(cs.take i).length=i:=by rw[RK];omega
        refine⟨j-1,aa,_,aB.bb (l:=[(0,.v (.slice (some ⟨R,0,none⟩) l.length l.length)),(1,.fn F [] ab),(5,iV (i+1:Nat)),(6,iV (k+1:Nat))]) ah,(hI _ _).2 ⟨k+1,i+1,cs.take i++iV (x:Nat)::cs.drop (i+1),_,aa,aa, ?_, ?_, ?_, ?_, ?_, ?_, ?_,rfl⟩⟩
        . simp(disch:=omega)[go_sem];omega
        . simp(disch:=omega)[go_sem,g1]
        . rw[E2,aH,YN,adr];omega
        . rw[hf,E2,<-g3];rfl
        . rw[hf,ae3,<-g4,List.take_append,aH,Vs aa,show i+1-i=1 from by omega];rfl
        . rw[List.drop_append,aH,afL aa,afQ,show k+1-i=(k-i)+1 from by omega,af6,adv,show i+1+(k-i)=k+1 from by omega,<-adv,<-adv,g5,Ea]
        . intro q q1 q2;simp(disch:=omega)[go_sem,g6 q q1 q2]
     . have af:¬(k:Int)<l.length:=aa;have aK:i<=l.length:=aa;rw[Vs (show l.length<=k by omega)]at g3 g4;simp(disch:=omega)[go_sem,af];have bc:=ae1 (h:=H) (ty:=70) (n:=l.length) (c:=l.length) n9 g1 he aK (qG _);simp(disch:=omega)[go_sem,bc];refine ae0 (el:=3) (k:=.i64) (m:=0) ae4 ak ak g1 aa aa ?_;have ao:(cs.take i++afN (l.length-i) (DV.v (.int .i64 0))++cs.drop (i+(l.length-i))).length=l.length:=by
        simp only[E2,RK,List.length_replicate,adr];omega
       obtain⟨row,hr⟩:∃row,cs.take i++afN (l.length-i) (DV.v (.int .i64 0))++cs.drop (i+(l.length-i))=row:=⟨_,rfl⟩;have aN:row.take i=cs.take i:=by
        rw[<-hr,afK,afE (by rw[RK];omega),List.take_take];simp
       rw[hr]at ao⊢;refine aL ?_;have bd:=Ih (h:=H.set R (some (.row row true aj))) (ty:=70) (b:=R) (n:=l.length) (c:=l.length) (k:=.i64) (z:=(i:Int)) n9 (by rw[ae.bu,if_pos rfl]) he aa aa;simp(disch:=omega)[go_sem,bd];intro T;rw[g3]at aN g4⊢;refine hk _ T row ?_ ?_ ?_ ao (by rw[aN,g4])
       . rw[ae.aY];omega
       . intro q q1 q2;rw[ae.bu,if_neg q2];exact g6 q aa q2
       . rw[ae.bu,if_pos rfl]
end Go.Sp
end
noncomputable section
open Go Go.aD Go.Proofs
namespace Go.aD
def aB.ae6{t:Tr DV}{n:Nat}{dd:List FuncId}{h:ae}{l:List (Nat×DV)}{R W k:Nat}{cs cs':List DV}{o:bF}(hR:h.get R=some o)(ab:W≠R)(hW:h.get W=some (.row cs true k))(hz:cI (rowsOf h [R]) cs cs')(ht:Go.Sp.gm t l):aB ⟨t,n,dd,h⟩ ⟨Go.Sp.bw l,n,dd,(h.set R none).set W (some (.row cs' true k))⟩:=
 aB.of [R] (λi hi=>by obtain rfl:=List.mem_singleton.1 hi;rw[hR];rfl) (by rw[ae.aY,ae.aY]) (λi v hv=>⟨v,Go.Sp.tR ht.mem i v hv,.refl v⟩) λi o ho=>by
  rw[ae.bu]at ho
  split at ho
  . rename_i hi;subst hi;cases ho;exact⟨by simpa using ab,.inr ⟨cs,cs',true,k,hW,rfl,hz⟩⟩
  . rw[ae.bu]at ho
    split at ho
    . cases ho
    . rename_i hi;exact⟨by simpa using hi,.inl ho⟩
def wT(t:Tr DV)(S:eQ):List (Nat×DV)->Prop
 |[]=>True
 |p::l=>(∃u,t.get p.1=some u/\Fz S u p.2)/\wT t S l
def wT.get{t:Tr DV}{S:eQ}:∀{l:List (Nat×DV)},wT t S l->∀i v,(Go.Sp.bw l).get i=some v->∃u,t.get i=some u/\Fz S u v
 |[],_,i,v,h=>by rw[Go.Sp.BM]at h;cases h
 |(j,d)::l,⟨h1,h2⟩,i,v,h=>by
  rw[Go.Sp.yk]at h
  split at h
  . rename_i hi;subst hi;cases h;exact h1
  . exact wT.get h2 i v h
def aB.mkZ{t:Tr DV}{n N:Nat}{dd:List FuncId}{h:ae}{l:List (Nat×DV)}{r:List (Nat×bF)}(F:List Nat)(hF:∀i∈F,(h.get i).isSome=true)(hN:h.next=N)(ht:wT t (rowsOf h F) l)(hh:Go.Sp.ni h r)(hr:∀p∈r,p.1∉F):aB ⟨t,n,dd,h⟩ ⟨Go.Sp.bw l,n,dd,Go.Sp.cj N r⟩:=
 aB.of F hF (by rw[Go.Sp.tQ,hN]) ht.get λj o ho=>by
  have h1:=Go.Sp.yl hh.mem j o ho;refine⟨λhj=> ?_,.inl h1⟩;have:∀{r:List (Nat×bF)},(∀p∈r,p.1∉F)->(Go.Sp.cj N r).get j=none:=by
   intro r
   induction r with
   |nil=>intro _;rw[Go.Sp.vQ]
   |cons x r ih=>
    intro hr;obtain⟨a,b⟩:=x;rw[Go.Sp.tP,if_neg (λh=>hr (a,b) aw (by rw[<-h];exact hj))];exact ih λp hp=>hr p (by simp[hp])
  rw[this hr]at ho;cases ho
end Go.aD
namespace Go.Sp
def ae7{S:eQ}{R c aj:Nat}{cs:List DV}{l:List Nat}(hS:S R=some (cs,aj))(he:aj=0\/aj=1)(ht:cs.take l.length=gW l)(hc:l.length<=c):Fz S (.v (.slice (some ⟨R,0,none⟩) l.length c)) (dZ l):=by
 have hl:=congrArg afB ht;rw[RK,RC]at hl;refine .sl hS he aC (by rw[RC]) hc (λx hx=>by obtain⟨y,_,rfl⟩:=FQ.1 hx;rfl) (by rw[RC];omega) λj x i v d h1 h2 h3=> ?_;rw[afH]at h1;obtain⟨y,hy,rfl⟩:=Option.map_eq_some_iff.1 h1;have hj:=(YT.1 hy).1;cases i with
 |succ i=>simp at h2
 |zero=>
  simp only[afW,Xy]at h2;subst h2;have h4:(cs.take l.length)[j]? =some (iV (y:Nat)):=by rw[ht,afH,hy];rfl
  rw[List.getElem?_take,if_pos hj]at h4;rw[show 0+j*1+0=j from by omega,h4]at h3;cases h3;exact .refl _
def ae8(t:Tok)(s:ByteArray):fm t s<=s.size:=by
 unfold fm
 split
 . split
   . rename_i m _;unfold kU;rcases uM m s.data.toList m.first 0 0 with⟨h,_⟩|⟨k,_,h1,h2,_⟩
     . rw[h];omega
     . rw[h2];rw[lD]at h1;omega
   . omega
 . split
   . rename_i h;unfold gV at h;rw[RW,decide_eq_true_eq]at h;exact h.1
   . omega
def Lm(g:aq)(s:ByteArray):∀(l:List Nat) (p:Nat×List Nat),p.1<=s.size->(fp g s l p).1<=s.size
 |[],_,h=>h
 |t::l,p,h=>by
  refine Lm g s l (fR (lenOf g s t) t p) ?_;have h1:lenOf g s t<=s.size:=by
   unfold lenOf
   split
   . exact ae8 _ _
   . omega
  unfold fR;simp only
  split<;>omega
def ae9(g:aq)(c:Nat)(s:ByteArray):(firstM g c s).1<=s.size:=Lm g s _ _ (afI _)
def cw.to{H H':ae}{B U U' k:Nat}{xs:List (List DV)}{pv:DV}(h:cw H B U k xs pv)(hs:∀j,fP pv=some j->B<=j->j<U->H'.get j=H.get j)(hU:U<=U'):cw H' B U' k xs pv:=by
 rcases h with h|⟨R,h1,h2,rfl,h4⟩
 . exact .inl h
 . exact .inr ⟨R,h1,aa,rfl,by rw[hs R rfl h1 h2,h4]⟩
def cw.pv{H:ae}{B U k:Nat}{xs:List (List DV)}{pv:DV}(h:cw H B U k xs pv):∀j,fP pv=some j->B<=j/\j<U:=by
 rcases h with⟨_,rfl⟩|⟨R,h1,h2,rfl,_⟩
 . intro j h;cases h
 . intro j h;simp only[fP,Xy]at h;omega
def Lo{t:Tr DV}{n:Nat}{dd:List FuncId}{He:ae}{l:List (Nat×DV)}{B U R Wr c:Nat}{xs:List Wd}{w:Wd}{pv:DV}{cs:List DV}(hgr:cw He B U 5 (xs.map Wd.e++[[iV (w.fr:Nat),iV (w.to:Nat),iV w.sQ,bV w.first,.v (.slice (some ⟨R,0,none⟩) w.au.length c)]]) pv)(ad:fP pv=some Wr)(ab:Wr≠R)(hR:He.get R=some (.row cs true 1))(af:cs.take w.au.length=gW w.au)(hc:w.au.length<=c)(ht:gm t l):
 ∃Hn,aB ⟨t,n,dd,He⟩ ⟨bw l,n,dd,Hn⟩/\cw Hn B U 5 ((xs++[w]).map Wd.e) pv/\(∀q,q≠R->q≠Wr->Hn.get q=He.get q)/\Hn.next=He.next:=by
 rcases hgr with⟨h1,_⟩|⟨R',r1,r2,rfl,r4⟩
 . simp at h1
 . obtain rfl:R'=Wr:=by simpa[fP]using ad
   refine⟨_,aB.ae6 (cs':=((xs++[w]).map Wd.e).flatten) hR ab r4 ?_ ht,.inr ⟨R',r1,r2,aw,by rw[ae.bu,if_pos rfl]⟩,λq q1 q2=>by rw[ae.bu,if_neg q2,ae.bu,if_neg q1],by rw[ae.aY,ae.aY]⟩;rw[aga,afC,aga];refine aV.append (cI.refl _) ?_;exact .cons (.refl _) (.cons (.refl _) (.cons (.refl _) (.cons (.refl _) (.cons (ae7 (fA (wr:=true) aw hR) (.inr rfl) af hc) .nil))))
def Lp(s:ByteArray)(p:List Wd×List Wd×Int):List DV:=[.sl 5 (p.1.map Wd.e),.sl 5 (p.2.1.map Wd.e),iV (s.size:Nat),iV p.2.2]
end Go.Sp
end
noncomputable section
open Go Go.aD Go.Proofs
namespace Go.Sp
set_option maxHeartbeats 16000000 in
def afa(g:aq)(hg:GV g)(ht:kV g)(aM:aE E true 34 [.agg g.e] (iV 0))(c:Nat)(hc:c<8)(bM:fj g c=true)(cD:g.conds.length<=3)(s:ByteArray)(hs:s.size<=1000000):
 ∃C:Nat->Int×Bool,aE E true 20 [.agg g.e,cV c,sV s] (.bp [.agg (Lp s (cS g c C s (s.size+1) 0)),iV 0]):=by
 obtain⟨C,hC⟩:∃C:Nat->Int×Bool,∀a,a<=s.size->aE E true 43 [sV s,iV (a:Nat)] (.bp [iV (C a).1,bV (C a).2]):=
  ⟨λa=>if h:a<=s.size then Classical.choose (Li s aa a h)else(0,false),λa h=>by simp only[dif_pos h];exact Classical.choose_spec (Li s aa a h)⟩
 refine⟨C, ?_⟩;have bP:aE E true 35 [.agg g.e,cV c] (bV (fj g c)):=DK g hg cD c hc;rw[bM]at bP;have hlen:=ht.len;have bd:=aeT g ht;have bf:=aeZ g hg c hc s;have cE:=zr g c;have bQ:=DP g c;obtain⟨an,aW⟩:∃an,cS g c C s (s.size+1) 0=an:=⟨_,rfl⟩;rw[aW];obtain⟨CL,cl⟩:∃CL,DV.ptr [.fn 41 [] [.ptr [cV c] 0]] 0=CL:=⟨_,rfl⟩;rw[cl]at bf;obtain⟨ge,bR⟩:∃ge,g.e=ge:=⟨_,rfl⟩;have ab:ge=[strs g.conds,.sl 3 (g.family.nodes.map cL),iV g.family.root,.sl 7 (g.au.map Tok.e),strs g.aP,.sl 13 (g.ay.map aX.e),iV g.start,.sl 4 (g.bn.map dg.e),.sl 9 (g.aZ.map bk.e)]:=by rw[<-bR];rfl
 rw[bR]at aM bP bf;rw[bR];refine qM Tryz.ntmps20 Tryz.results20 λN=> ?_;refine du ?_;simp(disch:=omega)[go_sem,ab];rw[<-ab];refine du ?_;simp(disch:=omega)[go_sem,ab];rw[<-ab];refine ax.mk aM λM1=>dI λc1=> ?_;refine du ?_;simp(disch:=omega)[go_sem,ab];rw[<-ab];refine ax.mk bP λM2=>aT λc2=> ?_;have bq:¬(1048576:Int)<s.size:=aa;refine aL ?_;refine du ?_;simp(disch:=omega)[go_sem,eJ,bq];refine du ?_;simp(disch:=omega)[go_sem,eJ,bq];refine du ?_;simp(disch:=omega)[go_sem,eJ];refine du ?_;simp(disch:=omega)[go_sem,ab];rw[<-ab]
 let F:Nat->List Nat:=λk=>(afG k).filter λi=>match g.au[i]? with
  |some t=>er t.cond c
  |none=>false
 obtain⟨Z,hZ⟩:∃Z:List DV,[cK,cK,iV 0,iV 0]=Z:=⟨_,rfl⟩;obtain⟨V,hV⟩:∃V:DS->Prop,∀d,V d↔∃P M,N+3<P/\P<M/\d=⟨bw [(3,.ptr ge 0),(5,.ptr [sV s] 0),(6,aI (N+3)),(9,CL),(10,aI P),(11,dZ (fQ g c))],144,[],cj M [(N+3,.row Z true 0),(P,.row [cK,cK,iV (s.size:Nat),iV (-1)] true 0)]⟩:=⟨_,λ_=>KE⟩;refine iJ V ?_ ?_
 . obtain⟨I,hI⟩:∃I:Nat->DS->Prop,∀j d,I j d↔∃(k:Nat) (H:ae) (pv:DV),j+k=g.au.length/\M2+2<=H.next/\cw H (M2+2) H.next 1 ((F k).map λn=>[iV (n:Nat)]) pv/\H.get N=some (.row ge true 0)/\H.get (N+1)=some (.row [cV c] true 0)/\H.get (N+2)=some (.row [sV s] true 0)/\H.get (N+3)=some (.row Z true 0)/\H.get M2=some (.row [.fn 41 [] [aI (N+1)]] true 0)/\H.get (M2+1)=some (.row [cK,cK,iV (s.size:Nat),iV (-1)] true 0)/\
    d=⟨bw [(3,aI N),(5,aI (N+2)),(6,aI (N+3)),(9,aI M2),(10,aI (M2+1)),(11,pv),(41,.sl 7 (g.au.map Tok.e)),(42,iV (g.au.length:Nat)),(43,iV (k:Nat))],144,[],H⟩:=⟨_,λ_ _=>KE⟩
   simp(disch:=omega)[go_sem,ab];rw[<-ab];refine bS I g.au.length ⟨_,aB.bb (l:=[(3,aI N),(5,aI (N+2)),(6,aI (N+3)),(9,aI M2),(10,aI (M2+1)),(11,cK),(41,.sl 7 (g.au.map Tok.e)),(42,iV (g.au.length:Nat)),(43,iV (0:Nat))]) ah,(hI _ _).2 ⟨0,_,cK,rfl,ah,.nil _ _ _ _,ah,ah,ah, ?_,ah,ah,rfl⟩⟩ ?_
   . simp(disch:=omega)[go_sem,hZ]
   . intro j ds cm;obtain⟨k,H,pv,hj,hN,hgr,f1,f2,f3,f4,f5,f6,rfl⟩:=(hI _ _).1 cm;clear cm;have bs:∀x∈(F k).map λn=>[iV (n:Nat)],x.length=1:=λx hx=>by obtain⟨y,_,rfl⟩:=FQ.1 hx;rfl
     have c3:(F k).length<=k:=by have:=afy (λi=>match g.au[i]? with|some t=>er t.cond c|none=>false) (afG k);simpa[F]using this
     by_cases cn:k<g.au.length
     . have az:(k:Int)<g.au.length:=aa;obtain⟨t,bg⟩:∃t,g.au[k]? =some t:=⟨_,yy cn⟩;obtain⟨ct,cF,bT⟩:=ht.cond t (yB bg);have hh:=Lj ct c bT hc;rw[<-cF]at hh;simp only[Dg.e]at hh;have hF:F (k+1)=F k++if er t.cond c then [k]else []:=by
        simp only[F,List.range_succ,afO];congr 1;cases hb:er t.cond c<;>simp[bg,hb]
       have next:∀(H':ae) (ad:DV) (T:Tr DV),H.next<=H'.next->(∀q,q<M2+2->H'.get q=H.get q)->cw H' (M2+2) H'.next 1 ((F (k+1)).map λn=>[iV (n:Nat)]) ad->gm T [(3,aI N),(5,aI (N+2)),(6,aI (N+3)),(9,aI M2),(10,aI (M2+1)),(11,ad),(41,.sl 7 (g.au.map Tok.e)),(42,iV (g.au.length:Nat)),(43,iV (k+1:Nat))]->∃j',j'<j/\∃d',aB ⟨T,144,[],H'⟩ d'/\I j' d':=λH' ad T h1 h2 h3 h4=>
        ⟨j-1,aa,_,aB.bb h4,(hI _ _).2 ⟨k+1,H',ad,aa,aa,h3,by rw[h2 _ aa,f1],by rw[h2 _ aa,f2],by rw[h2 _ aa,f3],by rw[h2 _ aa,f4],by rw[h2 _ aa,f5],by rw[h2 _ aa,f6],rfl⟩⟩
       simp(disch:=omega)[go_sem,az,bg,-getElem?_pos,Tok.e,f5];refine ax.pl hh (.cons (.refl _) (.cons (im (aj:=0) (ck (wr:=true) ?_)) .nil)) λM hM=> ?_
       . simp(disch:=omega)[go_sem,f2]
       replace hM:=cq hM;cases hb:er t.cond c with
       |true=>
        rw[hb,if_pos rfl]at hF;refine aL ?_;refine cw.app (st:=70) (xt:=70) (B:=M2+2) (U:=H.next) (k:=1) (xs:=(F k).map λn=>[iV (n:Nat)]) (hgr.same (λq q1 q2=>ah) (qG _)) sf n9 aa (by simp(disch:=omega)[go_sem];omega) (new:=[iV (k:Nat)]) ah aC rfl rfl bs (by rw[RC];omega) λH' ad T q0 q1 q2 q3 q4=> ?_;simp(disch:=omega)[go_sem]at q2 q3;simp(disch:=omega)[go_sem,aG];refine next H' ad _ aa (λq hq=> ?_) ?_ ah
        . rw[q3 _ aa (hgr.ne (.inl aa))];simp(disch:=omega)[go_sem]
        . rw[hF,afC];exact q1
       |false=>
        rw[hb]at hF;simp only[afZ,if_false,afP]at hF;simp(disch:=omega)[go_sem,aG];refine next _ pv _ ?_ (λq hq=>ah) ?_ ah
        . simp(disch:=omega)[go_sem];omega
        . rw[hF];exact hgr.same (λq q1 q2=>ah) (by simp(disch:=omega)[go_sem];omega)
     . have az:¬(k:Int)<g.au.length:=aa;obtain rfl:k=g.au.length:=aa;have cG:F g.au.length=fQ g c:=rfl;rw[cG]at hgr bs;simp(disch:=omega)[go_sem,az];have fin:∀(Fr:List Nat),(∀i∈Fr,i=N\/i=N+1\/i=N+2\/i=M2\/M2+2<=i)->(∀i∈Fr,(H.get i).isSome=true)->N∈Fr->N+1∈Fr->N+2∈Fr->M2∈Fr->Fz (rowsOf H Fr) pv (dZ (fQ g c))->∀T,gm T [(3,aI N),(5,aI (N+2)),(6,aI (N+3)),(9,aI M2),(10,aI (M2+1)),(11,pv)]->∃d',aB ⟨T,144,[],H⟩ d'/\V d':=λFr k1 k2 k3 k4 k5 k6 k7 T hT=>by
        obtain⟨t1,t2,t3,t4,t5,t6,_⟩:=hT;refine⟨_,aB.mkZ (N:=H.next) (l:=[(3,.ptr ge 0),(5,.ptr [sV s] 0),(6,aI (N+3)),(9,CL),(10,aI (M2+1)),(11,dZ (fQ g c))]) (r:=[(N+3,.row Z true 0),(M2+1,.row [cK,cK,iV (s.size:Nat),iV (-1)] true 0)]) Fr k2 rfl ⟨⟨_,t1,im (aj:=0) (fA (wr:=true) k3 f1)⟩,⟨_,t2,im (aj:=0) (fA (wr:=true) k5 f3)⟩,⟨_,t3,.refl _⟩,⟨_,t4, ?_⟩,⟨_,t5,.refl _⟩,⟨_,t6,k7⟩,trivial⟩ ⟨f4,f6,trivial⟩ ?_,(hV _).2 ⟨M2+1,H.next,aa,aa,rfl⟩⟩
        . rw[<-cl];exact wE (aj:=0) (fA (wr:=true) k6 f5) (.cons (CI (im (aj:=0) (fA (wr:=true) k4 f2))) .nil)
        . intro p hp;simp only[afv,afS,or_false]at hp;rcases hp with rfl|rfl
          . intro h;have:=k1 _ h;simp only at this;omega
          . intro h;have:=k1 _ h;simp only at this;omega
       rcases hgr with⟨h1,rfl⟩|⟨R,r1,r2,rfl,r4⟩
       . refine fin [N,N+1,N+2,M2] aw (by simp[f1,f2,f3,f5]) aw aw aw aw ?_ _ ah
         . show Fz _ _ (.sl 1 ((fQ g c).map λn=>[iV (n:Nat)]));rw[h1];exact .nil aC
       . refine fin [N,N+1,N+2,M2,R] (by simp;omega) (by simp[f1,f2,f3,f5,r4]) aw aw aw aw ?_ _ ?_
         . exact dY (aj:=1) (fA (wr:=true) aw r4) (.inr rfl) aC rfl (qG _) bs
         . exact ah
 intro d hd;obtain⟨P,M,hP,cH,rfl⟩:=(hV _).1 hd;clear hd;obtain⟨L,hL⟩:∃L,fQ g c=L:=⟨_,rfl⟩;rw[hL]at cE bQ;rw[hL];obtain⟨V2,bW⟩:∃V:DS->Prop,∀d,V d↔∃(H:ae) (ao av:DV) (U:Nat),cw H (P+1) U 5 (an.1.map Wd.e) ao/\cw H (P+1) U 5 (an.2.1.map Wd.e) av/\H.get (N+3)=some (.row Z true 0)/\H.get P=some (.row [ao,av,iV (s.size:Nat),iV an.2.2] true 0)/\d=⟨bw [(6,aI (N+3)),(10,aI P)],144,[],H⟩:=⟨_,λ_=>KE⟩;refine iJ V2 ?_ ?_
 . refine aL ?_;obtain⟨J,hJ⟩:∃J:Nat->DS->Prop,∀j d,J j d↔∃(a fu:Nat) (ws rs:List Wd) (ao av:DV) (H:ae) (A:Nat),j+a=s.size/\s.size<a+fu/\ws.length<=a/\rs.length<=a/\ws++(cS g c C s fu a).1=an.1/\rs++(cS g c C s fu a).2.1=an.2.1/\(cS g c C s fu a).2.2=an.2.2/\P<A/\A<H.next/\cw H (P+1) A 5 (ws.map Wd.e) ao/\cw H (P+1) A 5 (rs.map Wd.e) av/\(∀q,fP ao=some q->fP av≠some q)/\H.get (N+3)=some (.row Z true 0)/\H.get P=some (.row [ao,av,iV (s.size:Nat),iV (-1)] true 0)/\H.get A=some (.row [iV (a:Nat)] true 0)/\
    d=⟨bw [(3,.ptr ge 0),(5,.ptr [sV s] 0),(6,aI (N+3)),(9,CL),(10,aI P),(11,dZ L),(14,aI A)],144,[],H⟩:=⟨_,λ_ _=>KE⟩
   refine bS J s.size ⟨_,aB.bb (l:=[(3,.ptr ge 0),(5,.ptr [sV s] 0),(6,aI (N+3)),(9,CL),(10,aI P),(11,dZ L),(14,aI M)]) ah,(hJ _ _).2 ⟨0,s.size+1,[],[],cK,cK,_,M,rfl,aa,qG _,qG _,by rw[afQ,aW],by rw[afQ,aW],by rw[aW],cH,ah,.nil _ _ _ _,.nil _ _ _ _,λq h=>(by cases h),ah,ah,ah,rfl⟩⟩ ?_
   . intro j ds cp;obtain⟨a,fu,ws,rs,ao,av,H,A,hj,c4,c5,cI,e1,e2,e3,c6,cJ,aF,hgr,bj,f1,f2,f3,rfl⟩:=(hJ _ _).1 cp;clear cp;obtain⟨p1,p2⟩:=aF.cells;obtain⟨p3,p4⟩:=hgr.cells;obtain⟨fu,rfl⟩:∃m,fu=m+1:=⟨fu-1,aa⟩;by_cases cn:a<s.size
     . have az:(a:Int)<s.size:=aa;obtain⟨u,hu⟩:∃u,s.extract a s.size=u:=⟨_,rfl⟩;obtain⟨FM,bX⟩:∃FM,firstM g c u=FM:=⟨_,rfl⟩;have cr:=ae9 g c u;have cM:u.size=s.size-a:=by rw[<-hu,afD];omega
       have bY:=DR g c u;rw[bX]at cr bY;have aJ:cS g c C s (fu+1) a=if FM.1=0 then([],[],(a:Int))else if fS g FM.2=2 then((cS g c C s fu (a+FM.1)).1,sR C a FM.1 (FM.2.take 1)::(cS g c C s fu (a+FM.1)).2.1,(cS g c C s fu (a+FM.1)).2.2)else if fS g FM.2=0 then(sR C a FM.1 (FM.2.filter (pW g c (s.extract a (a+FM.1))))::(cS g c C s fu (a+FM.1)).1,(cS g c C s fu (a+FM.1)).2)else cS g c C s fu (a+FM.1):=by
        conv=>lhs;rw[cS]
        rw[if_neg aa,hu,bX]
       have bt:fp g u L (0,[])=FM:=by rw[<-bX,<-hL];rfl
       obtain⟨Q,hQ⟩:∃Q,H.next=Q:=⟨_,rfl⟩;rw[hQ]at cJ;simp(disch:=omega)[go_sem,f3,eJ,az,hQ];obtain⟨X,hX⟩:∃X:Nat->DS->Prop,∀j d,X j d↔∃(k n:Nat) (tl:List Nat) (H2:ae) (pv:DV),j+k=L.length/\tl.length<=k/\fp g u (L.drop k) (n,tl)=FM/\Q<H2.next/\H2.get Q=some (.row [iV (n:Nat)] true 0)/\(∀q,q<Q->H2.get q=H.get q)/\cw H2 (Q+1) H2.next 1 (tl.map λn=>[iV (n:Nat)]) pv/\
        d=⟨bw [(3,.ptr ge 0),(5,.ptr [sV s] 0),(6,aI (N+3)),(9,CL),(10,aI P),(11,dZ L),(14,aI A),(15,aI Q),(16,pv),(61,dZ L),(62,iV (L.length:Nat)),(63,iV (k:Nat))],144,[],H2⟩:=⟨_,λ_ _=>KE⟩
       refine bS X L.length ⟨_,aB.bb (l:=[(3,.ptr ge 0),(5,.ptr [sV s] 0),(6,aI (N+3)),(9,CL),(10,aI P),(11,dZ L),(14,aI A),(15,aI Q),(16,cK),(61,dZ L),(62,iV (L.length:Nat)),(63,iV (0:Nat))]) ah,(hX _ _).2 ⟨0,0,[],_,cK,rfl,qG _,bt, ?_, ?_, ?_,.nil _ _ _ _,rfl⟩⟩ ?_
       . simp(disch:=omega)[go_sem,hQ]
       . simp(disch:=omega)[go_sem,hQ]
       . intro q hq;simp(disch:=omega)[go_sem,hQ]
       . intro j2 c7 cu;obtain⟨k,n,tl,H2,pv,c9,cN,ba,cv,x1,x2,bx,rfl⟩:=(hX _ _).1 cu;clear cu;have y1:H2.get (N+3)=some (.row Z true 0):=by rw[x2 _ aa,f1]
         have y2:H2.get P=some (.row [ao,av,iV (s.size:Nat),iV (-1)] true 0):=by rw[x2 _ aa,f2]
         have y3:H2.get A=some (.row [iV (a:Nat)] true 0):=by rw[x2 _ aa,f3]
         have bs:∀x∈tl.map λn=>[iV (n:Nat)],x.length=1:=λx hx=>by obtain⟨y,_,rfl⟩:=FQ.1 hx;rfl
         by_cases cx:k<L.length
         . have aY:(k:Int)<L.length:=aa;obtain⟨t,bg⟩:∃t,L[k]? =some t:=⟨_,yy cx⟩;obtain⟨tk,bI⟩:∃tk,g.au[t]? =some tk:=⟨_,yy (bQ t (yB bg))⟩;have b0:=(YT.1 bI).1;have aH:=bd tk (yB bI) s aa a aa;rw[hu]at aH;have hm:lenOf g u t=fm tk u:=by simp only[lenOf,bI]
           have cP:L.drop k=t::L.drop (k+1):=by rw[afU cx,(YT.1 bg).2]
           rw[cP]at ba;simp only[fp,afF,hm]at ba;obtain⟨m,cQ⟩:∃m,fm tk u=m:=⟨_,rfl⟩;rw[cQ]at aH ba;simp only[Tok.e]at aH;have fin:∀(H':ae) (af:List Nat) (n':Nat) (ad:DV) (T:Tr DV),fR m t (n,tl)=(n',af)->Q<H'.next->af.length<=k+1->H'.get Q=some (.row [iV (n':Nat)] true 0)->(∀q,q<Q->H'.get q=H2.get q)->cw H' (Q+1) H'.next 1 (af.map λn=>[iV (n:Nat)]) ad->gm T [(3,.ptr ge 0),(5,.ptr [sV s] 0),(6,aI (N+3)),(9,CL),(10,aI P),(11,dZ L),(14,aI A),(15,aI Q),(16,ad),(61,dZ L),(62,iV (L.length:Nat)),(63,iV (k+1:Nat))]->∃j',j'<j2/\∃d',aB ⟨T,144,[],H'⟩ d'/\X j' d':=λH' af n' ad T h1 h2 h3 h4 h5 h6 h7=>
            ⟨j2-1,aa,_,aB.bb h7,(hX _ _).2 ⟨k+1,n',af,H',ad,aa,h3,by rw[<-h1];exact ba,h2,h4,λq hq=>by rw[h5 q hq,x2 q hq],h6,rfl⟩⟩
           simp(disch:=omega)[go_sem,aY,bg,-getElem?_pos];refine bZ [ai 0,aK 1,ai 0,ai 7,aK 15,aK 0,aK 0,aU 127,ai 255] ak 0 rfl ?_;simp(disch:=omega)[go_sem,ab,bI,-getElem?_pos,Tok.e,y3];rw[<-ab];refine ax.mk aH λM3=>aT λcy=> ?_;by_cases b1:n<m
           . have bm:(n:Int)<m:=aa;have cz:0<m:=aa;simp(disch:=omega)[go_sem,bm,cz,x1];refine GO aa aa ?_;simp(disch:=omega)[go_sem,aG];refine fin _ [t] m (.v (.slice (some ⟨M3+1,0,none⟩) 1 1)) _ ?_ ?_ aw ah ?_ (.inr ⟨M3+1,aa,ah,rfl,ah⟩) ah
             . simp only[fR,if_pos b1,cz,and_self,if_true,afQ]
             . simp(disch:=omega)[go_sem]<;>omega
             . intro q hq;have b2:¬q=M3:=aa;have cR:¬q=M3+1:=aa;simp(disch:=omega)[go_sem,b2,cR]
           . have bm:¬(n:Int)<m:=aa;by_cases cB:m=n/\0<n
             . obtain⟨rfl,bK⟩:=cB;simp(disch:=omega)[go_sem,bK,x1];refine cw.app (st:=70) (xt:=70) (B:=Q+1) (U:=H2.next) (k:=1) (xs:=tl.map λn=>[iV (n:Nat)]) (bx.same (λq q1 q2=>by rw[ae.dN,if_neg (by rw[ae.iU];omega)];rfl) (qG _)) sf n9 aa (by simp(disch:=omega)[go_sem];omega) (new:=[iV (t:Nat)]) ah aC rfl rfl bs (by rw[RC];omega) λH' ad T q0 q1 q2 q3 q4=> ?_;simp(disch:=omega)[go_sem]at q2 q3;simp(disch:=omega)[go_sem,aG];refine fin _ (tl++[t]) m ad _ ?_ aa ?_ ?_ ?_ ?_ ah
               . simp only[fR,if_neg b1,bK,and_self,if_true]
               . simp;omega
               . rw[q3 _ aa (bx.ne (.inl aa))];simp(disch:=omega)[go_sem,x1]
               . intro q hq;have b2:¬q=M3:=aa;rw[q3 _ aa (bx.ne (.inl aa))];simp(disch:=omega)[go_sem,b2]
               . rw[afC];exact q1
             . have hS:fR m t (n,tl)=(n,tl):=by
                unfold fR;simp only[if_neg b1];rw[if_neg cB]
               have done:∀(H':ae) (T:Tr DV),H2.next<=H'.next->(∀q,q<H2.next->H'.get q=H2.get q)->gm T [(3,.ptr ge 0),(5,.ptr [sV s] 0),(6,aI (N+3)),(9,CL),(10,aI P),(11,dZ L),(14,aI A),(15,aI Q),(16,pv),(61,dZ L),(62,iV (L.length:Nat)),(63,iV (k+1:Nat))]->∃j',j'<j2/\∃d',aB ⟨T,144,[],H'⟩ d'/\X j' d':=λH' T h1 h2 h3=>
                fin H' tl n pv T hS aa aa (by rw[h2 _ cv,x1]) (λq hq=>h2 q aa) (bx.same (λq _ h=>h2 q h) h1) h3
               by_cases b3:m=n
               . have bK:n=0:=aa;subst bK;subst b3;simp(disch:=omega)[go_sem,x1,aG];refine done _ _ ?_ ?_ ah
                 . simp(disch:=omega)[go_sem];omega
                 . intro q hq;simp(disch:=omega)[go_sem]
               . have b5:¬(m:Int)=n:=aa;simp(disch:=omega)[go_sem,bm,b5,x1,aG];refine done _ _ ?_ ?_ ah
                 . simp(disch:=omega)[go_sem];omega
                 . intro q hq;simp(disch:=omega)[go_sem]
         . have aY:¬(k:Int)<L.length:=aa;rw[afL aa]at ba;have ba:(n,tl)=FM:=ba;subst ba;simp only at cr bY aJ;have b6:∀x∈ws.map Wd.e,x.length=5:=λx hx=>by obtain⟨y,_,rfl⟩:=FQ.1 hx;rfl
           have b7:∀x∈rs.map Wd.e,x.length=5:=λx hx=>by obtain⟨y,_,rfl⟩:=FQ.1 hx;rfl
           by_cases hn:n=0
           . rw[if_pos hn]at aJ;rw[aJ]at e1 e2 e3;simp only[afP]at e1 e2 e3;subst hn;simp(disch:=omega)[go_sem,aY,x1,y2,y3,p1,p2,p3,p4];refine⟨_,aB.bb (l:=[(6,aI (N+3)),(10,aI P)]) ah,(bW _).2 ⟨_,ao,av,A, ?_, ?_, ?_, ?_,rfl⟩⟩
             . rw[<-e1];exact aF.same (λq q1 q2=>by simp(disch:=omega)[go_sem,x2 q aa]) (qG _)
             . rw[<-e2];exact hgr.same (λq q1 q2=>by simp(disch:=omega)[go_sem,x2 q aa]) (qG _)
             . simp(disch:=omega)[go_sem,y1]
             . rw[<-e3];simp(disch:=omega)[go_sem]
           . obtain⟨t,af,tk,h1,h2⟩:=bY aa;subst h1;rw[if_neg hn]at aJ;have b8:fS g (t::af)=tk.cls:=by simp only[fS,h2]
             rw[b8]at aJ;have b0:=(YT.1 h2).1;rcases bx with⟨h1,_⟩|⟨R,r1,r2,rfl,r4⟩
             . cases h1
             rw[Lk]at r4;have b9:=hC a aa;obtain⟨W,hW⟩:∃W,H2.next=W:=⟨_,rfl⟩;rw[hW]at r2 cv;have aN:∀(He Hn:ae) (T:Tr DV) (bA bB:List Wd) (aQ aS:DV) (A':Nat),aB ⟨T,144,[],He⟩ ⟨bw [(3,.ptr ge 0),(5,.ptr [sV s] 0),(6,aI (N+3)),(9,CL),(10,aI P),(11,dZ L),(14,aI A')],144,[],Hn⟩->bA.length<=a+n->bB.length<=a+n->bA++(cS g c C s fu (a+n)).1=an.1->bB++(cS g c C s fu (a+n)).2.1=an.2.1->(cS g c C s fu (a+n)).2.2=an.2.2->P<A'->A'<Hn.next->cw Hn (P+1) A' 5 (bA.map Wd.e) aQ->cw Hn (P+1) A' 5 (bB.map Wd.e) aS->(∀q,fP aQ=some q->fP aS≠some q)->Hn.get (N+3)=some (.row Z true 0)->Hn.get P=some (.row [aQ,aS,iV (s.size:Nat),iV (-1)] true 0)->Hn.get A'=some (.row [iV (a+n:Nat)] true 0)->∃j',j'<j/\∃d',aB ⟨T,144,[],He⟩ d'/\J j' d':=
              λHe Hn T bA bB aQ aS A' k1 k2 k3 k4 k5 k6 k7 k8 k9 bD bo bE bF bG=>⟨j-n,aa,_,k1,(hJ _ _).2 ⟨a+n,fu,bA,bB,aQ,aS,Hn,A',aa,aa,k2,k3,k4,k5,k6,k7,k8,k9,bD,bo,bE,bF,bG,rfl⟩⟩
             have ca:∀(He:ae) (T:Tr DV) (w:Wd) (ad:DV) (Wr A' cap:Nat) (cs:List DV),rs++w::(cS g c C s fu (a+n)).2.1=an.2.1->ws++(cS g c C s fu (a+n)).1=an.1->(cS g c C s fu (a+n)).2.2=an.2.2->cw He (P+1) A' 5 (rs.map Wd.e++[[iV (w.fr:Nat),iV (w.to:Nat),iV w.sQ,bV w.first,.v (.slice (some ⟨R,0,none⟩) w.au.length cap)]]) ad->fP ad=some Wr->W<Wr->A'<He.next->He.get R=some (.row cs true 1)->cs.take w.au.length=gW w.au->w.au.length<=cap->(∀q,q<Q->q≠P->q≠A->fP av≠some q->He.get q=H.get q)->He.get P=some (.row [ao,ad,iV (s.size:Nat),iV (-1)] true 0)->He.get A'=some (.row [iV (a+n:Nat)] true 0)->gm T [(3,.ptr ge 0),(5,.ptr [sV s] 0),(6,aI (N+3)),(9,CL),(10,aI P),(11,dZ L),(14,aI A')]->∃j',j'<j/\∃d',aB ⟨T,144,[],He⟩ d'/\J j' d':=
              λHe T w ad Wr A' cap cs k1 k2 k3 k4 k5 k6 k7 k8 k9 bD bo bE bF bG=>by
               have cU:=(k4.pv Wr k5).2;obtain⟨Hn,w1,w2,w3,w4⟩:=Lo (n:=144) (dd:=[]) k4 k5 aa k8 k9 bD bG;refine aN He Hn T ws (rs++[w]) ao ad A' w1 aa (by rw[E2];simp;omega) k2 (by rw[afK];exact k1) k3 aa aa (aF.to (λq q1 q2 q4=>by rw[w3 q aa aa,bo q aa aa aa (bj q q1)]) aa) w2 (λq q1 q2=> ?_) ?_ ?_ ?_
               . have:=aF.pv q q1;rw[k5]at q2;cases q2;omega
               . rw[w3 _ aa aa,bo _ aa aa aa (hgr.ne (.inl aa)),f1]
               . rw[w3 _ aa aa,bE]
               . rw[w3 _ aa aa,bF]
             have cb:∀(He:ae) (T:Tr DV) (w:Wd) (ad:DV) (Wr A' cap:Nat) (cs:List DV),ws++w::(cS g c C s fu (a+n)).1=an.1->rs++(cS g c C s fu (a+n)).2.1=an.2.1->(cS g c C s fu (a+n)).2.2=an.2.2->cw He (P+1) A' 5 (ws.map Wd.e++[[iV (w.fr:Nat),iV (w.to:Nat),iV w.sQ,bV w.first,.v (.slice (some ⟨R,0,none⟩) w.au.length cap)]]) ad->fP ad=some Wr->W<Wr->A'<He.next->He.get R=some (.row cs true 1)->cs.take w.au.length=gW w.au->w.au.length<=cap->(∀q,q<Q->q≠P->q≠A->fP ao≠some q->He.get q=H.get q)->He.get P=some (.row [ad,av,iV (s.size:Nat),iV (-1)] true 0)->He.get A'=some (.row [iV (a+n:Nat)] true 0)->gm T [(3,.ptr ge 0),(5,.ptr [sV s] 0),(6,aI (N+3)),(9,CL),(10,aI P),(11,dZ L),(14,aI A')]->∃j',j'<j/\∃d',aB ⟨T,144,[],He⟩ d'/\J j' d':=
              λHe T w ad Wr A' cap cs k1 k2 k3 k4 k5 k6 k7 k8 k9 bD bo bE bF bG=>by
               have cU:=(k4.pv Wr k5).2;obtain⟨Hn,w1,w2,w3,w4⟩:=Lo (n:=144) (dd:=[]) k4 k5 aa k8 k9 bD bG;refine aN He Hn T (ws++[w]) rs ad av A' w1 (by rw[E2];simp;omega) aa (by rw[afK];exact k1) k2 k3 aa aa w2 (hgr.to (λq q1 q2 q4=>by rw[w3 q aa aa,bo q aa aa aa (λh=>bj q h q1)]) aa) (λq q1 q2=> ?_) ?_ ?_ ?_
               . have:=hgr.pv q q2;rw[k5]at q1;cases q1;omega
               . rw[w3 _ aa aa,bo _ aa aa aa (aF.ne (.inl aa)),f1]
               . rw[w3 _ aa aa,bE]
               . rw[w3 _ aa aa,bF]
             have hle:(af.length+1:Nat)<=100000:=by simp only[YN]at cN;omega
             simp(disch:=omega)[go_sem,aY,x1,y3,hn,hW];refine ax.mk b9 λM3 cy=> ?_;simp(disch:=omega)[go_sem,hW]at cy;simp(disch:=omega)[go_sem,hW];refine bZ [ai 0,aK 1,ai 0,ai 4,aK 12,ai 31,ai 63,aK 127] ak 0 rfl ?_;simp(disch:=omega)[go_sem,ab,h2,-getElem?_pos,Tok.e,r4,hW];rw[<-ab];by_cases bH:tk.cls=2
             . rw[if_pos bH]at aJ;rw[aJ]at e1 e2 e3;simp(disch:=omega)[go_sem,bH,hW];refine Cq (b:=R) (cs:=gW (t::af)) (wr:=true) (aj:=1) n9 ?_ (.inr rfl) aC (by simp;omega) ?_
               . simp(disch:=omega)[go_sem,r4,hW]
               simp(disch:=omega)[go_sem,hW,y2,p1,p2,p3,p4];refine cw.app (st:=73) (xt:=73) (B:=P+1) (U:=A) (k:=5) (xs:=rs.map Wd.e) (hgr.same (λq q1 q2=>by simp(disch:=omega)[go_sem,hW,x2 q aa]) (qG _)) BC BB aa (by simp(disch:=omega)[go_sem,hW];omega) (new:=[iV (a:Nat),iV (a+n:Nat),iV (C a).1,bV (C a).2,.v (.slice (some ⟨R,0,none⟩) 1 (af.length+1))]) (by simp(disch:=omega)[go_sem,hW,aG]) aC rfl rfl b7 (by rw[RC];omega) λH' ad T q0 q1 q2 q3 q4=> ?_;simp(disch:=omega)[go_sem,hW]at q2 q3 q4;obtain⟨p5,p6⟩:=q1.cells;have o1:∀q,q<Q->fP av≠some q->H'.get q=H.get q:=λq h1 h2=>by rw[q3 q aa h2];simp(disch:=omega)[go_sem,hW,x2 q h1]
               have o2:H'.get Q=some (.row [iV (n:Nat)] true 0):=by rw[q3 Q aa (hgr.ne (.inr aa))];simp(disch:=omega)[go_sem,hW,x1]
               have o3:H'.get R=some (.row (gW (t::af)) true 1):=by rw[q3 R aa (hgr.ne (.inr aa))];simp(disch:=omega)[go_sem,hW,r4]
               have o4:H'.get P=some (.row [ao,av,iV (s.size:Nat),iV (-1)] true 0):=by rw[o1 P aa (hgr.ne (.inl aa)),f2]
               have o5:H'.get A=some (.row [iV (a:Nat)] true 0):=by rw[o1 A aa (hgr.ne (.inr aa)),f3]
               simp(disch:=omega)[go_sem,o2,o4,o5,p1,p2,p3,p4,p5,p6,aG];refine ca _ _ (sR C a n ((t::af).take 1)) ad _ H'.next (af.length+1) (gW (t::af)) e2 e1 e3 ?_ q4 aa ah ?_ rfl ?_ (λq h1 h2 h3 h4=> ?_) ah ah ah
               . refine q1.to (λj h1 h2 h3=> ?_) (qG _);rw[q4]at h1;cases h1;exact ah
               . simp(disch:=omega)[go_sem,o3]
               . show 1<=af.length+1;omega
               . refine aL ?_;exact o1 q h1 h4
             . rw[if_neg bH]at aJ;by_cases bL:tk.cls=0
               . rw[if_pos bL]at aJ;rw[aJ]at e1 e2 e3;have cc:∀x∈t::af,∃tk,g.au[x]? =some tk:=λx hx=>by
                  rcases DQ g u L (0,[]) x (by rw[bt];exact hx)with h|h
                  . cases h
                  . exact⟨_,yy (bQ x h)⟩
                 simp(disch:=omega)[go_sem,bH,bL,hW,aG];refine ae5 (l:=t::af) (R:=R) (aj:=1) (pW g c (s.extract a (a+n))) 45 [.ptr ge 0,.ptr [sV s] 0,aI A,aI Q,CL] [.ptr ge 0,.ptr [sV s] 0,.ptr [iV (a:Nat)] 0,.ptr [iV (n:Nat)] 0,CL] [A,Q] hle (.inr rfl) ?_ ?_ (λi hi=> ?_) (λH3 cC=> ?_) (λx hx=> ?_) λh' T0 cs k1 k2 k3 k4 k5=> ?_
                 . simp(disch:=omega)[go_sem,hW];omega
                 . simp(disch:=omega)[go_sem,hW,r4]
                 . simp only[afv,afS,or_false]at hi;have cY:i<W/\i≠R:=by rcases hi with rfl|rfl<;>omega
                   refine⟨?_,cY.2⟩;simp(disch:=omega)[go_sem,hW];omega
                 . refine .cons (.refl _) (.cons (.refl _) (.cons (im (aj:=0) (ck (wr:=true) ?_)) (.cons (im (aj:=0) (ck (wr:=true) ?_)) (.cons (.refl _) .nil))))
                   . rw[cC A aw];simp(disch:=omega)[go_sem,hW,y3]
                   . rw[cC Q aw];simp(disch:=omega)[go_sem,hW,x1]
                 . obtain⟨cZ,c0⟩:=cc x hx;exact bf a n aa aa x cZ c0
                 obtain⟨FL,cd⟩:∃FL,(t::af).filter (pW g c (s.extract a (a+n)))=FL:=⟨_,rfl⟩;have cg:FL.length<=af.length+1:=by rw[<-cd];exact afy _ _
                 rw[cd]at k5 e1;rw[cd];simp(disch:=omega)[go_sem,hW]at k1;have ch:∀i,i<M3->i≠R->h'.get i=(((H2.new (.row [iV (a:Nat),iV ((a:Int)+n),iV 0,bV false,cK] true 0)).up M3).set W (some (.row [iV (a:Nat),iV ((a:Int)+n),iV (C a).1,bV (C a).2,cK] true 0))).get i:=λi h1 h2=>by
                  rw[k2 i (by simp(disch:=omega)[go_sem,hW];omega) h2];by_cases hi:i=W<;>simp(disch:=omega)[go_sem,hW,hi]
                 have o1:∀q,q<Q->h'.get q=H.get q:=λq hq=>by rw[ch q aa aa];simp(disch:=omega)[go_sem,hW,x2 q hq]
                 have m1:h'.get W=some (.row [iV (a:Nat),iV ((a:Int)+n),iV (C a).1,bV (C a).2,cK] true 0):=by rw[ch W aa aa];simp(disch:=omega)[go_sem,hW]
                 have m2:h'.get P=some (.row [ao,av,iV (s.size:Nat),iV (-1)] true 0):=by rw[o1 P aa,f2]
                 have m3:h'.get A=some (.row [iV (a:Nat)] true 0):=by rw[o1 A aa,f3]
                 have m4:h'.get Q=some (.row [iV (n:Nat)] true 0):=by rw[ch Q aa aa];simp(disch:=omega)[go_sem,hW,x1]
                 simp(disch:=omega)[go_sem,m1,m2,p1,p2,p3,p4];obtain⟨M4,bc⟩:∃M4,h'.next=M4:=⟨_,rfl⟩;rw[bc]at k1;refine cw.app (st:=73) (xt:=73) (B:=P+1) (U:=A) (k:=5) (xs:=ws.map Wd.e) (aF.same (λq q1 q2=>by simp(disch:=omega)[go_sem,bc,o1 q aa]) (qG _)) BC BB aa (by simp(disch:=omega)[go_sem,bc];omega) (new:=[iV (a:Nat),iV (a+n:Nat),iV (C a).1,bV (C a).2,.v (.slice (some ⟨R,0,none⟩) FL.length (af.length+1))]) (by simp(disch:=omega)[go_sem,bc,aG]) aC rfl rfl b6 (by rw[RC];omega) λH' ad T q0 q1 q2 q3 q4=> ?_;simp(disch:=omega)[go_sem,bc]at q2 q3 q4;obtain⟨p5,p6⟩:=q1.cells;have u1:∀q,q<Q->fP ao≠some q->H'.get q=H.get q:=λq h1 h2=>by rw[q3 q aa h2];simp(disch:=omega)[go_sem,bc,o1 q h1]
                 have u2:H'.get Q=some (.row [iV (n:Nat)] true 0):=by rw[q3 Q aa (aF.ne (.inr aa))];simp(disch:=omega)[go_sem,bc,m4]
                 have u3:H'.get R=some (.row cs true 1):=by rw[q3 R aa (aF.ne (.inr aa))];simp(disch:=omega)[go_sem,bc,k3]
                 have u4:H'.get P=some (.row [ao,av,iV (s.size:Nat),iV (-1)] true 0):=by rw[u1 P aa (aF.ne (.inl aa)),f2]
                 have u5:H'.get A=some (.row [iV (a:Nat)] true 0):=by rw[u1 A aa (aF.ne (.inr aa)),f3]
                 simp(disch:=omega)[go_sem,u2,u4,u5,p1,p2,p3,p4,p5,p6,aG];refine cb _ _ (sR C a n FL) ad _ H'.next (af.length+1) cs e1 e2 e3 ?_ q4 aa ah ?_ k5 cg (λq h1 h2 h3 h4=> ?_) ah ah ah
                 . refine q1.to (λj h1 h2 h3=> ?_) (qG _);rw[q4]at h1;cases h1;exact ah
                 . simp(disch:=omega)[go_sem,u3]
                 . refine aL ?_;exact u1 q h1 h4
               . rw[if_neg bL]at aJ;rw[aJ]at e1 e2 e3;simp(disch:=omega)[go_sem,bH,bL,hW,x1,y3,aG];refine aN _ _ _ ws rs ao av _ (aB.bb (l:=[(3,.ptr ge 0),(5,.ptr [sV s] 0),(6,aI (N+3)),(9,CL),(10,aI P),(11,dZ L),(14,aI M3)]) ah) aa aa e1 e2 e3 aa ah (aF.same (λq q1 q2=> ?_) aa) (hgr.same (λq q1 q2=> ?_) aa) bj ?_ ?_ ah
                 . simp(disch:=omega)[go_sem,x2 q aa]
                 . simp(disch:=omega)[go_sem,x2 q aa]
                 . simp(disch:=omega)[go_sem,y1]
                 . simp(disch:=omega)[go_sem,y2]
     . have az:¬(a:Int)<s.size:=aa;rw[cS,if_pos aa]at e1 e2 e3;simp only[afP]at e1 e2 e3;simp(disch:=omega)[go_sem,f3,eJ,az];refine⟨_,aB.bb (l:=[(6,aI (N+3)),(10,aI P)]) ?_,(bW _).2 ⟨_,ao,av,A,by rw[<-e1];exact aF,by rw[<-e2];exact hgr,f1,by rw[<-e3];exact f2,rfl⟩⟩;exact ah
 intro d hd;obtain⟨H,ao,av,U,aF,hgr,f1,f2,rfl⟩:=(bW _).1 hd;clear hd;obtain⟨p1,p2⟩:=aF.cells;obtain⟨p3,p4⟩:=hgr.cells;have b6:∀x∈an.1.map Wd.e,x.length=5:=λx hx=>by obtain⟨y,_,rfl⟩:=FQ.1 hx;rfl
 have b7:∀x∈an.2.1.map Wd.e,x.length=5:=λx hx=>by obtain⟨y,_,rfl⟩:=FQ.1 hx;rfl
 subst hZ;refine qN ?_;simp(disch:=omega)[go_sem,f1,f2,p1,p2,p3,p4];refine .cons ((aF.same (U':=U) (λq q1 q2=> ?_) (qG _)).fz aC b6) (.cons ((hgr.same (U':=U) (λq q1 q2=> ?_) (qG _)).fz aC b7) (.cons (.refl _) (.cons (.refl _) .nil)))
 . rw[ae.bu,if_neg aa]
 . rw[ae.bu,if_neg aa]
def Lq(L:List Lf)(gs:List Bool):∀n,n<=L.length->(dS L gs n).2.length=n/\∀k,k<n->(dS L gs n).2[k]? =some (dS L gs k).1.size
 |0,_=>⟨rfl,λk h=>absurd h (agb _)⟩
 |n+1,h=>by
  obtain⟨l,hl⟩:∃l,L[n]? =some l:=⟨_,yy aa⟩;obtain⟨h1,h2⟩:=Lq L gs n aa;rw[wQ L gs n l hl];refine⟨by simp[h1],λk hk=> ?_⟩;simp only;rcases afJ k n with h3|h3
  . rw[List.getElem?_append_left aa];exact h2 k h3
  . obtain rfl:k=n:=aa;rw[List.getElem?_append_right aa,h1,Nat.sub_self];rfl
def afb(L:List Lf)(gs:List Bool)(hL:∀l∈L,l.text.size<=100):(ed L gs).size<=101*L.length:=by
 rw[<-D9];exact(zA L gs hL L.length).1
def Lr{g:aq}{c:Nat}{C:Nat->Int×Bool}{s:ByteArray}:∀(n a:Nat),∀w∈(cS g c C s n a).1,w.au.length<=g.au.length
 |0,a,w,hw=>by simp[cS]at hw
 |n+1,a,w,hw=>by
  have ih:=Lr (g:=g) (c:=c) (C:=C) (s:=s) n (a+(firstM g c (s.extract a s.size)).1);rw[cS]at hw
  split at hw
  . cases hw
  . split at hw
    . cases hw
    . split at hw
      . exact ih w hw
      . split at hw
        . rcases afv.1 hw with rfl|hw
          . have h3:=DO g (s.extract a s.size) (fQ g c) (0,[]);have h4:=zr g c;refine afx (afy _ _) (afx h3 ?_);simpa using h4
          . exact ih w hw
        . exact ih w hw
set_option maxHeartbeats 8000000 in
def afc(g:aq)(hg:GV g)(ht:kV g)(av:aE E true 34 [.agg g.e] (iV 0))(c:Nat)(hc:c<8)(aN:fj g c=true)(bf:g.conds.length<=3)(L:List Lf)(gs:List Bool)(hL:∀l∈L,l.text.size<=100)(hlen:L.length<=1000)(bg:gs.length<=1000):
 ∃C,aE E true 8 [.agg g.e,cV c,.sl 4 (L.map Lf.e),cx gs] (bV (oy g c C L gs)):=by
 have aQ:=aeG L gs hL hlen bg;have bj:=afb L gs hL;obtain⟨C,aF⟩:=afa g hg ht av c hc aN bf (ed L gs) aa;refine⟨C, ?_⟩;obtain⟨al,an⟩:=Lq L gs L.length (qG _);obtain⟨aw,ab⟩:∃aw,oy g c C L gs=aw:=⟨_,rfl⟩;rw[ab];unfold oy at ab;simp only at ab;have aW:=Lr (g:=g) (c:=c) (C:=C) (s:=ed L gs) ((ed L gs).size+1) 0;have bD:=ht.len;generalize hp:cS g c C (ed L gs) ((ed L gs).size+1) 0=p at aF ab aW;obtain⟨ws,rs,st⟩:=p;generalize bm:(dS L gs L.length).2=aJ at aQ al an;generalize bo:ed L gs=s at aQ aF bj;simp only[Lp]at aF;simp only at ab;obtain⟨ge,aY⟩:∃ge,g.e=ge:=⟨_,rfl⟩;have af:ge=[strs g.conds,.sl 3 (g.family.nodes.map cL),iV g.family.root,.sl 7 (g.au.map Tok.e),strs g.aP,.sl 13 (g.ay.map aX.e),iV g.start,.sl 4 (g.bn.map dg.e),.sl 9 (g.aZ.map bk.e)]:=by rw[<-aY];rfl
 rw[aY]at aF⊢;refine qM Tryz.ntmps8 Tryz.results8 λN=> ?_;refine du ?_;simp(disch:=omega)[go_sem,af];rw[<-af];refine du ?_;refine aL ?_;refine ax.mk aQ λM1=>dI λbE=> ?_;refine du ?_;simp(disch:=omega)[go_sem,af];rw[<-af];refine ax.mk aF λM2=>dI λbF=> ?_;refine du ?_;by_cases k1:st=-1
 rotate_left
 . have hR:aw=false:=by rw[<-ab];simp[k1]
   subst hR;simp(disch:=omega)[go_sem,k1]
 by_cases k2:rs=[]
 rotate_left
 . have hR:aw=false:=by rw[<-ab];simp[k2]
   subst hR;have bp:0<rs.length:=List.length_pos_iff.2 k2;simp(disch:=omega)[go_sem,k1,bp]
 by_cases k3:ws.length=L.length
 rotate_left
 . have hR:aw=false:=by rw[<-ab];simp[k3]
   subst hR;have bq:¬(ws.length:Int)=L.length:=aa;simp(disch:=omega)[go_sem,k1,k2,bq]
 subst k1;subst k2;simp only[decide_true,af7,k3,Bool.true_and]at ab;simp(disch:=omega)[go_sem,k3];refine du ?_;refine aL ?_;obtain⟨PL,aS⟩:∃PL,[DV.sl 5 (ws.map Wd.e),.sl 5 [],iV (s.size:Nat),iV (-1)]=PL:=⟨_,rfl⟩;obtain⟨I,hI⟩:∃I:Nat->DS->Prop,∀j d,I j d↔∃(k P:Nat),j+k=L.length/\(∀i,i<k->okW L gs ws i=true)/\M2<P/\d=⟨bw [(2,.sl 4 (L.map Lf.e)),(10,dZ aJ),(11,aI M2),(13,iV (k:Nat))],110,[],cj P [(M2,.row PL true 0)]⟩:=⟨_,λ_ _=>KE⟩;refine bS I L.length ⟨_,aB.mk (N:=M2+1) ah ah ?_,(hI _ _).2 ⟨0,M2+1,rfl,λi h=>absurd h (agb _),aa,rfl⟩⟩ ?_
 . simp(disch:=omega)[go_sem,<-aS]
 . intro j ds ba;obtain⟨k,P,hj,bb,hP,rfl⟩:=(hI _ _).1 ba;clear ba;by_cases aT:k<L.length
   . have az:(k:Int)<L.length:=aa;obtain⟨l,hl⟩:∃l,L[k]? =some l:=⟨_,yy aT⟩;obtain⟨w,hw⟩:∃w,ws[k]? =some w:=⟨_,yy aa⟩;have aH:=an k aT;have bG:=aW w (yB hw);have bH:=hL l (yB hl);have bs:=zA L gs hL k;obtain⟨o,ho⟩:∃o,(dS L gs k).1.size=o:=⟨_,rfl⟩;rw[ho]at aH bs;have bI:k<ws.length:=aa;have aU:(k:Int)<ws.length:=aa;have aM:(k:Int)<aJ.length:=aa;have ad:okW L gs ws k=(decide (w.fr=o)&&decide (w.to=o+l.text.size)&&w.au.any λt=>decide (t=l.tok)):=by simp only[okW,hw,hl,ho]
     have no:okW L gs ws k=false->aw=false:=λh=>by
      rw[<-ab];cases hq:(afG L.length).all (okW L gs ws)with
      |false=>rfl
      |true=>rw[afj.1 hq k (afz.2 aT)]at h;cases h
     have bK:w.e=[iV (w.fr:Nat),iV (w.to:Nat),iV w.sQ,bV w.first,dZ w.au]:=rfl;obtain⟨we,bt⟩:∃we,w.e=we:=⟨_,rfl⟩;simp(disch:=omega)[go_sem,az,<-aS,hw,-getElem?_pos,Wd.e,aU];obtain⟨Y,hY⟩:∃Y:Nat->DS->Prop,∀j d,Y j d↔∃(q:Nat),j+q=w.au.length/\d=⟨bw [(2,.sl 4 (L.map Lf.e)),(10,dZ aJ),(11,aI M2),(13,iV (k:Nat)),(14,aI P),(15,bV ((w.au.take q).any λt=>decide (t=l.tok))),(16,iV (q:Nat))],110,[],cj (P+1) [(M2,.row PL true 0),(P,.row [iV (w.fr:Nat),iV (w.to:Nat),iV w.sQ,bV w.first,dZ w.au] true 0)]⟩:=⟨_,λ_ _=>KE⟩;refine bS Y w.au.length ⟨_,aB.mk (N:=P+1) ah ah ?_,(hY _ _).2 ⟨0,rfl,rfl⟩⟩ ?_
     . simp(disch:=omega)[go_sem,<-aS]
     . intro j2 bL bc;obtain⟨q,bM,rfl⟩:=(hY _ _).1 bc;clear bc;by_cases bu:q<w.au.length
       . have aC:(q:Int)<w.au.length:=aa;obtain⟨t,bd⟩:∃t,w.au[q]? =some t:=⟨_,yy bu⟩;have ao:(w.au.take (q+1)).any (λt=>decide (t=l.tok))=((w.au.take q).any (λt=>decide (t=l.tok))||decide (t=l.tok)):=by rw[afY,bd,List.any_append];simp
         have fin:∀(H:ae) (T:Tr DV),H.next=P+1->gm T [(2,.sl 4 (L.map Lf.e)),(10,dZ aJ),(11,aI M2),(13,iV (k:Nat)),(14,aI P),(15,bV ((w.au.take (q+1)).any λt=>decide (t=l.tok))),(16,iV (q+1:Nat))]->ni H [(M2,.row PL true 0),(P,.row [iV (w.fr:Nat),iV (w.to:Nat),iV w.sQ,bV w.first,dZ w.au] true 0)]->∃j',j'<j2/\∃d',aB ⟨T,110,[],H⟩ d'/\Y j' d':=λH T h1 h2 h3=>⟨j2-1,aa,_,aB.mk h1 h2 h3,(hY _ _).2 ⟨q+1,aa,rfl⟩⟩;simp(disch:=omega)[go_sem,aC];refine bZ [ai 0,ai 1,ai 3,aK 7,ai 3,ai 31,aK 63,ai 3,ai 3,ai 387,ai 899,aK 1923,ai 4095,ai 8191,ai 16383] ak 0 rfl ?_;cases hb:(w.au.take q).any λt=>decide (t=l.tok)with
         |true=>
          rw[hb,Bool.true_or]at ao;rw[ao]at fin;simp(disch:=omega)[go_sem,aG];exact fin _ _ ah ah ah
         |false=>
          rw[hb,Bool.false_or]at ao;rw[ao]at fin;have bx:decide ((t:Int)=(l.tok:Int))=decide (t=l.tok):=by rw[decide_eq_decide];omega
          simp(disch:=omega)[go_sem,aG,bd,hl,-getElem?_pos,Lf.e,bx];exact fin _ _ ah ah ah
       . have aC:¬(q:Int)<w.au.length:=aa;rw[Vs aa];simp(disch:=omega)[go_sem,aC];refine bZ [ai 0,aK 1,ai 0,ai 0,ai 12,aK 28,ai 63,ai 127,ai 255,aK 511,ai 255,ai 255,ai 3327,aK 7423,ai 255,ai 255,ai 49407,ai 114943,aK 246015,aK 508159,ai 1047807,ai 2097151,ai 4194303,ai 8388607,ai 16777215,ai 33554431,ai 67108863] ak 0 rfl ?_;by_cases c1:w.fr=o
         . by_cases c2:w.to=o+l.text.size
           . cases c3:w.au.any λt=>decide (t=l.tok)with
             |true=>
              rw[c1,c2,c3]at ad;simp only[decide_true,Bool.and_self]at ad;simp(disch:=omega)[go_sem,aG,aH,hl,-getElem?_pos,Lf.e,c1,c2,eJ,aM];refine⟨j-1,aa,_,aB.mk (N:=P+1) ah ah ah,(hI _ _).2 ⟨k+1,P+1,aa,λi hi=> ?_,aa,rfl⟩⟩
              . rcases afJ i k with h|h
                . exact bb i h
                . obtain rfl:i=k:=aa;exact ad
             |false=>
              have hR:=no (by rw[ad,c3];simp);subst hR;simp(disch:=omega)[go_sem,aG,aH,hl,-getElem?_pos,Lf.e,c1,c2,eJ,aM]
           . have bA:¬((w.to:Int)=(o:Int)+l.text.size):=aa;have hR:=no (by rw[ad];simp[c2]);subst hR;simp(disch:=omega)[go_sem,aG,aH,hl,-getElem?_pos,Lf.e,c1,bA,eJ,aM]
         . have bB:¬((w.fr:Int)=(o:Int)):=aa;have hR:=no (by rw[ad];simp[c1]);subst hR;simp(disch:=omega)[go_sem,aG,aH,hl,-getElem?_pos,Lf.e,bB,eJ,aM]
   . have az:¬(k:Int)<L.length:=aa;obtain rfl:k=L.length:=aa;have hR:aw=true:=by rw[<-ab];exact afj.2 λi hi=>bb i (afz.1 hi)
     subst hR;simp(disch:=omega)[go_sem,az];refine qN ?_;exact ah
def afd:E.elem 42=some 4:=ak
def afe:E.elem 45=some 1:=ak
def aff{h:ae}(xs:List (List DV))(m:Nat)(hm:m<=xs.length):de E h 42 (some (.sl 4 xs)) (some (some (iV m))) (some none) (some none)=some (.sl 4 (xs.drop m)):=by
 have h1:(m:Int)<=xs.length:=aa;simp[de,fK,gd,jH,dR,afd,h1,hm];exact Vs aw
def afg{h:ae}(xs:List (List DV))(m:Nat)(hm:m<=xs.length):de E h 45 (some (.sl 1 xs)) (some (some (iV m))) (some none) (some none)=some (.sl 1 (xs.drop m)):=by
 have h1:(m:Int)<=xs.length:=aa;simp[de,fK,gd,jH,dR,afe,h1,hm];exact Vs aw
def zC:∀gs:List Bool,(gs.map λb=>[bV b]).flatten=gs.map bV
 |[]=>rfl
 |b::gs=>by rw[af0,af9,zC gs];rfl
def Ls{S:eQ}{R:Nat}(gs:List Bool)(h:S R=some (gs.map bV,1)):Fz S (.v (.slice (some ⟨R,0,none⟩) gs.length gs.length)) (cx gs):=
 dY (aj:=1) (by rw[zC];exact h) (.inr rfl) aC (by rw[RC]) (qG _) λx hx=>by obtain⟨y,_,rfl⟩:=FQ.1 hx;rfl
def afh{g:aq}{c:Nat}{l:Lf}{L:List Lf}{gs:List Bool}{t:ByteArray}(h:dL g c (l::L)=some (true::gs,t)):gD g c (l.text++ed L gs) l=false:=by
 simp only[dL]at h
 split at h
 . cases h
 . rename_i ad rest hq;obtain⟨e1,-⟩:=D6 hq
   split at h
   . simp at h
   . rename_i hb
     split at h
     . simp only[Xy,ab8,List.cons.injEq,true_and]at h;obtain⟨rfl,-⟩:=h;rw[<-e1];simpa using hb
     . cases h
def Lt(r:dP)(hr:r.Ok)(c:Nat):∀l∈ku r c,0<l.text.size/\fS (bG r) [l.tok]=0:=λl hl=>by
 have h:=D2 r hr c l hl;obtain⟨t,t1,t2,-⟩:=h.tok;exact⟨h.size.1,by simp only[fS,t1];exact t2⟩
def Lu(r:dP)(hr:r.Ok)(c:Nat)(hc:c∈iw (bG r))(L:List Lf)(gs:List Bool)(hL:∀l∈L,l∈ku r c)(hlen:L.length<=12)(af:gs.length<=12):∃C,aE E true 8 [.agg (bG r).e,cV c,.sl 4 (L.map Lf.e),cx gs] (bV (oy (bG r) c C L gs)):=by
 obtain⟨h1,h2⟩:=afw.1 hc;have ab:c<8:=afz.1 h1;have h3:(bG r).conds.length<=3:=by rw[(qW r).1];have:=(pO r.x hr.x).room.conds;omega
 exact afc (bG r) (wI r hr) (zx r hr) (aE.ar rfl (J9 r hr)) c ab h2 h3 L gs (λl hl=>by have:=(D2 r hr c l (hL l hl)).size.2;omega) aa aa
end Go.Sp
end

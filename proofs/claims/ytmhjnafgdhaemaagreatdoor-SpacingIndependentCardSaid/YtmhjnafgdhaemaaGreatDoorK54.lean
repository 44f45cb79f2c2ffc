/- SpacingIndependent: for all that a grammar and its leaves are made of the call returns true; the table math/bits.deBruijn64tab starts as the text lays it. -/
import Derived.Test.YtmhjnafgdhaemaaGreatDoorCards
import Derived.Test.YtmhjnafgdhaemaaGreatDoorTie
import Derived.Lib.LaidTab
import Derived.Test.YtmhjnafgdhaemaaGreatDoorK53
open List renaming length_append->qe,mem_of_getElem?->xS,mem_range->DE,getElem?_eq_getElem->GP,length_cons->PO,take_succ_cons->VK,take_append_of_le_length->W2,length->Xw,length_take->Zj,foldl_cons->Zr,length_map->Z4,any_eq_false->abR,map_drop->ab8,take_length_add_append->adS,find?_eq_none->adT,find?_some->adU,mem_of_find?_eq_some->adV,mem_cons->adW,getElem?_eq_some_iff->adX,mem_filter->adY,length_drop->ad0,drop_eq_getElem_cons->ad2,head?_drop->ad3,tail_drop->ad4,all_eq_true->ad5,any_eq_true->ad7,take_of_length_le->ad8,mem_of_mem_drop->ad9,not_mem_nil->aea
open Nat renaming le_refl->Er,lt_or_ge->W9
open Bool renaming and_eq_true->PX,false_and->adr,true_and->adZ
open Option.some renaming injEq->Qc,inj->ad1
open Prod.mk renaming injEq->TF
open ByteArray renaming size_append->ZJ,size_extract->ad6
open Iff renaming rfl->ZL
set_option linter.all false
set_option maxRecDepth 100000
noncomputable section
open Go Go.au Go.Proofs
namespace Go.Sp
def iu(m:bP):Nat->List UInt8->Bool
 |_,[]=>false
 |now,b::r=>if(eX m b.toNat now).1=0 then false else match r with
  |[]=>decide ((eX m b.toNat now).1&&&m.last≠0)
  |_::_=>iu m (eX m b.toNat now).2 r
theorem JB(m:bP)(t:ByteArray):∀(r:List UInt8) (now n:Nat),r≠[]->n+r.length=t.size->runM m (kQ t) now n r false=iu m now r
 |[],_,_,h,_=>absurd rfl h
 |[b],now,n,_,hn=>by
  simp only[runM,iu]
  split
  . rfl
  . have:n+1=t.size:=by simpa using hn
    simp[kQ,this]
 |b::c::r,now,n,_,hn=>by
  simp only[runM,iu]
  split
  . rfl
  . have h1:¬n+1=t.size:=by simp only[PO]at hn;omega
    have h2:=JB m t (c::r) (eX m b.toNat now).2 (n+1) (by simp) (by simp only[PO]at hn⊢;omega);simp only[kQ,h1,decide_false,adr];simp only[runM,iu]at h2;exact h2
theorem ado(m:bP)(t:ByteArray)(h:t.data.toList≠[]):jS m t=iu m m.first t.data.toList:=by
 unfold jS;have h0:decide (t=⟨#[]⟩)=false:=by
  rw[decide_eq_false_iff_not];rintro rfl;exact h rfl
 rw[h0,adr];exact JB m t _ _ 0 h (by simp)
theorem adp(m:bP)(now:Nat)(b:UInt8)(r:List UInt8)(h:(eX m b.toNat now).1≠0):iu m now ((b::r).take 1)=decide ((eX m b.toNat now).1&&&m.last≠0):=by
 simp only[VK,List.take_zero,iu,if_neg h]
theorem adq(m:bP)(now:Nat)(b:UInt8)(r:List UInt8)(h:(eX m b.toNat now).1≠0)(k:Nat)(hk:0<k)(hr:k<=r.length):iu m now ((b::r).take (k+1))=iu m (eX m b.toNat now).2 (r.take k):=by
 cases r with
 |nil=>simp at hr;omega
 |cons c r=>
  obtain⟨k,rfl⟩:∃j,k=j+1:=⟨k-1,by omega⟩;rw[VK,VK]
  conv=>lhs;unfold iu
  rw[if_neg h]
theorem ads(m:bP)(now:Nat)(b:UInt8)(r:List UInt8)(h:(eX m b.toNat now).1=0)(k:Nat):iu m now ((b::r).take k)=false:=by
 cases k with
 |zero=>rfl
 |succ k=>
  rw[VK];unfold iu;rw[if_pos h]
theorem wb(m:bP):∀(r:List UInt8) (now n g:Nat),(runM m jR now n r g=g/\∀k,k<=r.length->iu m now (r.take k)=false)\/∃k,0<k/\k<=r.length/\runM m jR now n r g=n+k/\iu m now (r.take k)=true/\∀k',k<k'->k'<=r.length->iu m now (r.take k')=false
 |[],now,n,g=>.inl ⟨rfl,λk hk=>by simp[iu]⟩
 |b::r,now,n,g=>by
  by_cases h0:(eX m b.toNat now).1=0
  . exact .inl ⟨by simp only[runM,if_pos h0],λk _=>ads m now b r h0 k⟩
  . have ab:runM m jR now n (b::r) g=runM m jR (eX m b.toNat now).2 (n+1) r (jR g (n+1) (decide ((eX m b.toNat now).1&&&m.last≠0))):=by simp only[runM,if_neg h0]
    have h1:=adp m now b r h0;have h2:=adq m now b r h0;rw[ab];rcases wb m r (eX m b.toNat now).2 (n+1) (jR g (n+1) (decide ((eX m b.toNat now).1&&&m.last≠0)))with⟨e1,e2⟩|⟨k,k0,k1,e1,e2,e3⟩
    . rw[e1];cases hi:decide ((eX m b.toNat now).1&&&m.last≠0)with
      |true=>
       rw[hi]at h1;refine .inr ⟨1,by omega,by simp,by simp[jR],h1,λk' h3 h4=> ?_⟩;obtain⟨j,rfl⟩:∃j,k'=j+1:=⟨k'-1,by omega⟩;simp only[PO]at h4;rw[h2 j (by omega) (by omega)];exact e2 j (by omega)
      |false=>
       rw[hi]at h1;refine .inl ⟨by simp[jR],λk hk=> ?_⟩;simp only[PO]at hk;rcases k with _|_|k
       . rfl
       . exact h1
       . rw[h2 (k+1) (by omega) (by omega)];exact e2 _ (by omega)
    . refine .inr ⟨k+1,by omega,by simp;omega,by rw[e1];omega,by rw[h2 k k0 k1];exact e2,λk' h3 h4=> ?_⟩;obtain⟨j,rfl⟩:∃j,k'=j+1:=⟨k'-1,by omega⟩;simp only[PO]at h4;rw[h2 j (by omega) (by omega)];exact e3 j (by omega) (by omega)
theorem JC(m:bP)(a b:List UInt8)(h:∀k,0<k->k<=b.length->iu m m.first (a++b.take k)=false):runM m jR m.first 0 (a++b) 0=runM m jR m.first 0 a 0:=by
 have tk:∀k,k<=a.length->(a++b).take k=a.take k:=λk hk=>by rw[W2 hk]
 have no:∀k,a.length<k->k<=(a++b).length->iu m m.first ((a++b).take k)=false:=λk h1 h2=>by
  rw[qe]at h2;obtain⟨j,rfl⟩:∃j,k=a.length+j:=⟨k-a.length,by omega⟩;rw[adS];exact h j (by omega) (by omega)
 rcases wb m (a++b) m.first 0 0 with⟨e1,e2⟩|⟨k,k0,k1,e1,e2,e3⟩
 . rcases wb m a m.first 0 0 with⟨f1,f2⟩|⟨k',l0,l1,f1,f2,f3⟩
   . rw[e1,f1]
   . have:=e2 k' (by rw[qe];omega);rw[tk k' l1,f2]at this;cases this
 . have hk:k<=a.length:=by
    rcases W9 a.length k with h1|h1
    . rw[no k h1 k1]at e2;cases e2
    . exact h1
   rw[tk k hk]at e2;rcases wb m a m.first 0 0 with⟨f1,f2⟩|⟨k',l0,l1,f1,f2,f3⟩
   . rw[f2 k hk]at e2;cases e2
   . have e:k=k':=by
      rcases Nat.lt_trichotomy k k' with h1|h1|h1
      . have:=e3 k' h1 (by rw[qe];omega);rw[tk k' l1,f2]at this;cases this
      . exact h1
      . rw[f3 k h1 hk]at e2;cases e2
     rw[e1,f1,e]
theorem lx(a b:ByteArray):(a++b).data.toList=a.data.toList++b.data.toList:=by rw[ByteArray.data_append,Array.toList_append]
theorem wc(a:ByteArray)(n:Nat):(a.extract 0 n).data.toList=a.data.toList.take n:=by
 rw[ByteArray.data_extract,Array.toList_extract,List.extract_eq_take_drop];simp
theorem bytes_inj{a b:ByteArray}(h:a.data.toList=b.data.toList):a=b:=by
 obtain⟨⟨a⟩⟩:=a;obtain⟨⟨b⟩⟩:=b;simp only at h;rw[h]
theorem ub(s p:ByteArray):iO s p=true↔s.data.toList.take p.data.toList.length=p.data.toList:=by
 unfold iO;have hs:s.data.toList.length=s.size:=by simp
 have hp:p.data.toList.length=p.size:=by simp
 rw[PX,decide_eq_true_eq,decide_eq_true_eq,hp];constructor
 . rintro⟨h1,h2⟩;rw[<-wc,h2]
 . intro h;refine⟨?_,bytes_inj (by rw[wc,h])⟩;have:=congrArg Xw h;rw[Zj,hs,hp]at this;omega
def we(g:ai)(c:Nat)(s rest:ByteArray):Prop:=∀k∈jx g c,∀t,g.ar[k]? =some t->∀n,0<n->n<=rest.size->t.lit≠s++rest.extract 0 n/\(t.lit=⟨#[]⟩->∀m∈cW,t.pat=m.p->jS m (s++rest.extract 0 n)=false)
theorem adt{t:Tok}{s rest:ByteArray}(hp:t.lit=⟨#[]⟩->∃m∈cW,t.pat=m.p)(h:∀n,0<n->n<=rest.size->t.lit≠s++rest.extract 0 n/\(t.lit=⟨#[]⟩->∀m∈cW,t.pat=m.p->jS m (s++rest.extract 0 n)=false)):iP t (s++rest)=iP t s:=by
 have hr:rest.data.toList.length=rest.size:=by simp
 by_cases h0:t.lit=⟨#[]⟩
 . obtain⟨m,m1,m2,e⟩:∃m∈cW,t.pat=m.p/\∀x,iP t x=nS m x:=by
    obtain⟨m0,q1,q2⟩:=hp h0;cases hf:cW.find? λm=>decide (gK m.p=gK t.pat)with
    |none=>
     have:=adT.1 hf m0 q1;rw[q2]at this;simp at this
    |some m=>
     have hq:=adU hf;refine⟨m,adV hf,(yK (of_decide_eq_true hq)).symm,λx=> ?_⟩;unfold iP;rw[if_pos h0,hf]
   rw[e,e];unfold nS;rw[lx];refine JC m _ _ λk k0 k1=> ?_;rw[hr]at k1;have h2:=(h k k0 k1).2 h0 m m1 m2;rw[ado m _ (by rw[lx,wc];intro hc;have:=congrArg Xw hc;rw[qe,Zj,hr,List.length_nil]at this;omega),lx,wc]at h2;exact h2
 . unfold iP;rw[if_neg h0,if_neg h0];have hb:iO (s++rest) t.lit=iO s t.lit:=by
    rw[Bool.eq_iff_iff,ub,ub,lx];rcases W9 s.data.toList.length t.lit.data.toList.length with h1|h1
    . constructor
      . intro h2;exfalso;obtain⟨n,hn⟩:∃n,t.lit.data.toList.length=s.data.toList.length+n:=⟨t.lit.data.toList.length-s.data.toList.length,by omega⟩;have hl:=congrArg Xw h2;rw[Zj,qe,hr]at hl;refine(h n (by omega) (by omega)).1 (bytes_inj ?_);rw[lx,wc,<-h2,hn,adS]
      . intro h2;have hl:=congrArg Xw h2;rw[Zj]at hl;omega
    . rw[W2 h1]
   rw[hb]
theorem adu{g:ai}(hg:lq g){c:Nat}{s rest:ByteArray}(h:we g c s rest):firstM g c (s++rest)=firstM g c s:=by
 unfold firstM;have key:∀(l:List Nat),(∀k∈l,k∈jx g c)->∀p,ir g (s++rest) l p=ir g s l p:=λl=>by
  induction l with
  |nil=>intro _ p;rfl
  |cons k l ih=>
   intro hl p;simp only[ir,Zr]at ih⊢;have hk:lenOf g (s++rest) k=lenOf g s k:=by
    unfold lenOf;cases hq:g.ar[k]? with
    |none=>rfl
    |some t=>exact adt (hg.pat t (xS hq)) (h k (hl k (by simp)) t hq)
   rw[hk];exact ih (λk' ad=>hl k' (by simp[ad])) _
 exact key _ (λ_ h=>h) _
theorem adv{g:ai}(hg:lq g){c:Nat}{s rest:ByteArray}(h:we g c s rest)(l:Lf):lu g c (s++rest) l=lu g c s l:=by
 unfold lu;rw[adu hg h]
theorem adw(m:bP)(a b:List UInt8)(h:runM m jR m.first 0 (a++b) 0<=a.length):runM m jR m.first 0 (a++b) 0=runM m jR m.first 0 a 0:=by
 refine JC m a b λk k0 k1=> ?_;have e:a++b.take k=(a++b).take (a.length+k):=by rw[adS]
 rw[e];rcases wb m (a++b) m.first 0 0 with⟨-,e2⟩|⟨j,-,-,e1,-,e3⟩
 . exact e2 _ (by rw[qe];omega)
 . exact e3 _ (by omega) (by rw[qe];omega)
theorem adx{t:Tok}{s r:ByteArray}(hp:t.lit=⟨#[]⟩->∃m∈cW,t.pat=m.p)(h:iP t (s++r)<=s.size):iP t (s++r)=iP t s:=by
 by_cases h0:t.lit=⟨#[]⟩
 . obtain⟨m0,q1,q2⟩:=hp h0;unfold iP at h⊢;rw[if_pos h0]at h⊢;rw[if_pos h0];cases hf:cW.find? λm=>decide (gK m.p=gK t.pat)with
   |none=>rfl
   |some m=>
    rw[hf]at h;simp only at h⊢;unfold nS at h⊢;rw[lx]at h⊢;exact adw m _ _ (by simpa using h)
 . unfold iP at h⊢;rw[if_neg h0]at h⊢;rw[if_neg h0];have hl:t.lit.data.toList.length=t.lit.size:=by simp
   have af:s.data.toList.length=s.size:=by simp
   have hb:iO (s++r) t.lit=iO s t.lit:=by
    cases hq:iO (s++r) t.lit with
    |true=>
     rw[hq,if_pos rfl]at h;rw[ub,lx,W2 (by omega)]at hq;exact((ub _ _).2 hq).symm
    |false=>
     cases aa:iO s t.lit with
     |false=>rfl
     |true=>
      have hle:t.lit.size<=s.size:=by
       unfold iO at aa;rw[PX,decide_eq_true_eq]at aa;exact aa.1
      rw[ub]at aa;rw[(ub (s++r) t.lit).2 (by rw[lx,W2 (by omega),aa])]at hq;cases hq
   rw[hb]
theorem JD(g:ai)(s:ByteArray):∀(l:List Nat) (p:Nat×List Nat),p.1<=(ir g s l p).1/\∀k∈l,lenOf g s k<=(ir g s l p).1
 |[],p=>⟨Er _,λk hk=>by cases hk⟩
 |t::l,p=>by
  obtain⟨h1,h2⟩:=JD g s l (iQ (lenOf g s t) t p);have h3:p.1<=(iQ (lenOf g s t) t p).1/\lenOf g s t<=(iQ (lenOf g s t) t p).1:=by
   unfold iQ;simp only
   split<;>omega
  refine⟨by simp only[ir,Zr]at h1⊢;omega,λk hk=> ?_⟩;simp only[ir,Zr]at h1 h2⊢;rcases adW.1 hk with rfl|hk
  . omega
  . exact h2 k hk
theorem ady{g:ai}(hg:lq g){c:Nat}{s r:ByteArray}(h:(firstM g c (s++r)).1<=s.size):firstM g c (s++r)=firstM g c s:=by
 have hle:∀k∈jx g c,lenOf g (s++r) k<=s.size:=λk hk=>Nat.le_trans ((JD g (s++r) (jx g c) (0,[])).2 k hk) h;unfold firstM;have key:∀(l:List Nat),(∀k∈l,k∈jx g c)->∀p,ir g (s++r) l p=ir g s l p:=λl=>by
  induction l with
  |nil=>intro _ p;rfl
  |cons k l ih=>
   intro hl p;simp only[ir,Zr]at ih⊢;have hk:lenOf g (s++r) k=lenOf g s k:=by
    have h2:=hle k (hl k (by simp));unfold lenOf at h2⊢;cases hq:g.ar[k]? with
    |none=>rfl
    |some t=>
     rw[hq]at h2;exact adx (hg.pat t (xS hq)) h2
   rw[hk];exact ih (λk' ad=>hl k' (by simp[ad])) _
 exact key _ (λ_ h=>h) _
def l8:List Lf->List Bool->ByteArray
 |[],_=>⟨#[]⟩
 |l::L,gs=>l.text++((if gs.head? =some true then jU else⟨#[]⟩)++l8 L gs.tail)
theorem JE(a:ByteArray):(⟨#[]⟩:ByteArray)++a=a:=bytes_inj (by rw[lx];rfl)
theorem JF(a b c:ByteArray):a++b++c=a++(b++c):=bytes_inj (by simp only[lx,List.append_assoc])
theorem CS{g:ai}{c:Nat}:∀{L:List Lf} {gs:List Bool} {t:ByteArray},dr g c L=some (gs,t)->t=l8 L gs/\gs.length=L.length
 |[],gs,t,h=>by
  simp only[dr,Qc,TF]at h;obtain⟨rfl,rfl⟩:=h;exact⟨rfl,rfl⟩
 |l::L,gs,t,h=>by
  simp only[dr]at h
  split at h
  . cases h
  . rename_i ae rest hq;obtain⟨h1,h2⟩:=CS hq
    split at h
    . simp only[Qc,TF]at h;obtain⟨rfl,rfl⟩:=h;exact⟨by simp[l8,JE,<-h1],by simp[h2]⟩
    . split at h
      . simp only[Qc,TF]at h;obtain⟨rfl,rfl⟩:=h;exact⟨by simp[l8,<-h1,JF],by simp[h2]⟩
      . cases h
theorem indep{g:ai}(hg:lq g){c:Nat}{l:Lf}{L:List Lf}{gs:List Bool}{t:ByteArray}(h:dr g c (l::L)=some (gs,t))(h1:(dr g c [l]).isSome=true)(hn:we g c l.text (l8 L gs.tail)):gs.head? =some false:=by
 simp only[dr]at h
 split at h
 . cases h
 . rename_i ae rest hq;obtain⟨e1,e2⟩:=CS hq
   split at h
   . simp only[Qc,TF]at h;obtain⟨rfl,rfl⟩:=h;rfl
   . rename_i hb
     split at h
     . simp only[Qc,TF]at h;obtain⟨rfl,rfl⟩:=h;exfalso;simp only[List.tail_cons]at hn;rw[<-e1]at hn;rw[adv hg hn]at hb;have e0:l.text++(⟨#[]⟩:ByteArray)=l.text:=bytes_inj (by rw[lx];simp);simp only[dr,e0]at h1;rw[if_neg hb]at h1
       split at h1
       . rename_i h3;rw[PX]at h3;have e3:(l.text++jU)++(⟨#[]⟩:ByteArray)=l.text++jU:=bytes_inj (by rw[lx];simp);rw[e3]at h3;have h4:(firstM g c (l.text++jU)).1=l.text.size:=by
          have:=h3.1;unfold lu at this;simp only[PX,decide_eq_true_eq]at this;exact this.1.1.1
         have h5:=ady hg (Nat.le_of_eq h4);apply hb;have h6:=h3.1;unfold lu at h6⊢;rw[<-h5];exact h6
       . cases h1
     . cases h
def jy(L:List Lf)(gs:List Bool):Nat->ByteArray×List Nat
 |0=>(⟨#[]⟩,[])
 |k+1=>match L[k]? with
  |some l=>((jy L gs k).1++l.text++(if gs[k]? =some true then jU else⟨#[]⟩),(jy L gs k).2++[(jy L gs k).1.size])
  |none=>jy L gs k
theorem CT(a:ByteArray):a++(⟨#[]⟩:ByteArray)=a:=bytes_inj (by rw[lx];simp)
theorem CU(L:List Lf)(gs:List Bool)(k:Nat)(l:Lf)(h:L[k]? =some l):jy L gs (k+1)=((jy L gs k).1++l.text++(if gs[k]? =some true then jU else⟨#[]⟩),(jy L gs k).2++[(jy L gs k).1.size]):=by
 rw[jy,h]
theorem JG(L:List Lf)(gs:List Bool):∀k,k<=L.length->(jy L gs k).1++l8 (L.drop k) (gs.drop k)=l8 L gs
 |0,_=>by rw[jy,JE];rfl
 |k+1,h=>by
  obtain⟨l,hl⟩:∃l,L[k]? =some l:=⟨_,GP (by omega)⟩;have ih:=JG L gs k (by omega);have hd:L.drop k=l::L.drop (k+1):=by rw[ad2 (by omega),(adX.1 hl).2]
  rw[hd]at ih;rw[CU L gs k l hl,<-ih];simp only[l8,ad3,ad4,JF]
theorem JH(L:List Lf)(gs:List Bool):(jy L gs L.length).1=l8 L gs:=by
 have:=JG L gs L.length (Er _);rw[List.drop_eq_nil_of_le (Er _)]at this;simp only[l8,CT]at this;exact this
theorem CV(L:List Lf)(gs:List Bool)(hL:∀l∈L,l.text.size<=100):∀k,(jy L gs k).1.size<=101*k/\(jy L gs k).2.length<=k
 |0=>⟨Nat.zero_le _,Nat.zero_le _⟩
 |k+1=>by
  obtain⟨h1,h2⟩:=CV L gs hL k;cases hq:L[k]? with
  |none=>rw[jy,hq];simp only;omega
  |some l=>
   have h3:=hL l (xS hq);rw[CU L gs k l hq];simp only[ZJ,qe,List.length_singleton];have h4:(if gs[k]? =some true then jU else(⟨#[]⟩:ByteArray)).size<=1:=by split<;>decide
   omega
set_option maxHeartbeats 4000000 in
theorem adz(L:List Lf)(gs:List Bool)(hL:∀l∈L,l.text.size<=100)(hlen:L.length<=1000)(aD:gs.length<=1000):ay E true 7 [.sl 4 (L.map Lf.e),b9 gs] (.bb [sV (l8 L gs),dq (jy L gs L.length).2]):=by
 refine aW Tryz.ntmps7 Tryz.results7 λN=> ?_;rw[<-JH];simp(disch:=omega)[go_sem];obtain⟨I,hI⟩:∃I:Nat->DS->Prop,∀j d,I j d↔∃(k:Nat) (s:ByteArray) (xs:List Nat) (H:ab) (pv:DV),j+k=L.length/\jy L gs k=(s,xs)/\N<=H.next/\dI H N H.next 1 (xs.map λn=>[iV (n:Nat)]) pv/\
  d=⟨bz [(0,.sl 4 (L.map Lf.e)),(1,.sl 1 (gs.map λb=>[bV b])),(6,sV s),(7,pv),(8,iV (k:Nat))],41,[],H⟩:=⟨_,λ_ _=>ZL⟩
 refine bO I L.length ⟨_,ax.bg (l:=[(0,.sl 4 (L.map Lf.e)),(1,.sl 1 (gs.map λb=>[bV b])),(6,sV ⟨#[]⟩),(7,dQ),(8,iV (0:Nat))]) ?_,(hI _ _).2 ⟨0,⟨#[]⟩,[],_,dQ,rfl,rfl,Er _,.nil _ _ _ _,rfl⟩⟩ ?_
 . simp(disch:=omega)[go_sem,b9]
 . intro j ds ai;obtain⟨k,s,xs,H,pv,hj,af,hN,hgr,rfl⟩:=(hI _ _).1 ai;clear ai;have ao:∀x∈xs.map λn=>[iV (n:Nat)],x.length=1:=λx hx=>by obtain⟨y,_,rfl⟩:=List.mem_map.1 hx;rfl
   have av:=CV L gs hL k;rw[af]at av;simp only at av;by_cases az:k<L.length
   . have ad:(k:Int)<L.length:=by omega
     obtain⟨l,hl⟩:∃l,L[k]? =some l:=⟨_,GP az⟩;have ae:=CU L gs k l hl;rw[af]at ae;simp only at ae;have aE:=hL l (xS hl);simp(disch:=omega)[go_sem,ad,gI];refine dI.app (st:=49) (xt:=49) (B:=N) (U:=H.next) (k:=1) (xs:=xs.map λn=>[iV (n:Nat)]) (hgr.same (λq q1 q2=>by rw[ab.di,if_neg (by omega)]) (Er _)) uW uU (by omega) (by simp(disch:=omega)[go_sem]) (new:=[iV (s.size:Nat)]) (by simp(disch:=omega)[go_sem]) (by decide) rfl rfl ao (by rw[Z4];omega) λH' aw T q0 q1 q2 q3 q4=> ?_;simp(disch:=omega)[go_sem]at q2;have fin:∀(s':ByteArray) (T:Tr DV),s++l.text++(if gs[k]? =some true then jU else⟨#[]⟩)=s'->jM T [(0,.sl 4 (L.map Lf.e)),(1,.sl 1 (gs.map λb=>[bV b])),(6,sV s'),(7,aw),(8,iV (k+1:Nat))]->∃j',j'<j/\∃d',ax ⟨T,41,[],H'⟩ d'/\I j' d':=λs' T h1 h2=>⟨j-1,by omega,_,ax.bg h2,(hI _ _).2 ⟨k+1,s',xs++[s.size],H',aw,by omega,by rw[ae,h1],by omega,by rw[List.map_append];exact q1,rfl⟩⟩;have aF:s.size+l.text.size<=9223372036854775807:=by omega
     have aA:(s++l.text).size<=200000:=by rw[ZJ];omega
     by_cases aB:k<gs.length
     . have aa:(k:Int)<gs.length:=by omega
       obtain⟨b,hb⟩:∃b,gs[k]? =some b:=⟨_,GP aB⟩;rw[hb]at fin;cases b with
       |true=>
        have aI:(s++l.text).size+(⟨#[32]⟩:ByteArray).size<=9223372036854775807:=by show _+1<=_;omega
        simp(disch:=omega)[go_sem,hl,aa,hb,-getElem?_pos,Lf.e,aC];refine fin _ _ rfl ?_;simp(disch:=omega)[go_sem,jU]
       |false=>
        simp(disch:=omega)[go_sem,hl,aa,hb,-getElem?_pos,Lf.e,aC];refine fin _ _ (CT _) ?_;simp(disch:=omega)[go_sem]
     . have aa:¬(k:Int)<gs.length:=by omega
       rw[List.getElem?_eq_none (by omega)]at fin;simp(disch:=omega)[go_sem,hl,aa,-getElem?_pos,Lf.e,aC];refine fin _ _ (CT _) ?_;simp(disch:=omega)[go_sem]
   . have ad:¬(k:Int)<L.length:=by omega
     obtain rfl:k=L.length:=by omega
     rw[af];simp(disch:=omega)[go_sem,ad];exact hgr.fz (by decide) ao
def CW(rmf:bP->ByteArray->Bool):Prop:=∀m∈cW,∀t,t.size<=100000->ay E true 20 [.sl 5 (m.p.map aL.e),sV t] (bV (rmf m t))/\(jS m t=true->rmf m t=true)
theorem adA:∃rmf,CW rmf:=by
 have h:∀(m:bP) (t:ByteArray),∃b,m∈cW->t.size<=100000->ay E true 20 [.sl 5 (m.p.map aL.e),sV t] (bV b)/\(jS m t=true->b=true):=λm t=>by
  by_cases h1:m∈cW
  . by_cases h2:t.size<=100000
    . obtain⟨b,h⟩:=acW m h1 t h2;exact⟨b,λ_ _=>h⟩
    . exact⟨true,λ_ h=>absurd h h2⟩
  . exact⟨true,λh=>absurd h h1⟩
 exact⟨λm t=>Classical.choose (h m t),λm hm t ht=>Classical.choose_spec (h m t) hm ht⟩
def pq(rmf:bP->ByteArray->Bool)(t:Tok)(x:ByteArray):Bool:=decide (t.lit=x)||decide (t.lit=⟨#[]⟩)&&(match cW.find? λm=>decide (gK m.p=gK t.pat)with
 |some m=>rmf m x
 |none=>false)
def pr(rmf:bP->ByteArray->Bool)(g:ai)(c:Nat)(s rest:ByteArray)(k:Nat):Bool:=match g.ar[k]? with
 |some t=>eM t.cond c&&(List.range rest.size).any λn=>pq rmf t (s++rest.extract 0 (n+1))
 |none=>false
def sd(rmf:bP->ByteArray->Bool)(g:ai)(c:Nat)(s rest:ByteArray):Bool:=(List.range g.ar.length).any (pr rmf g c s rest)
theorem adB{rmf:bP->ByteArray->Bool}(ab:CW rmf){g:ai}{c:Nat}{s rest:ByteArray}(hs:s.size+rest.size<=100000)(h:sd rmf g c s rest=false):we g c s rest:=by
 intro k hk t ht n n0 n1;obtain⟨h1,h2⟩:=adY.1 hk;rw[ht]at h2;simp only at h2;have h3:pr rmf g c s rest k=false:=by
  have:=abR.1 h k h1;simpa using this
 simp only[pr,ht,h2,adZ]at h3;have h4:=abR.1 h3 (n-1) (DE.2 (by omega));rw[show n-1+1=n by omega]at h4;simp only[pq,Bool.or_eq_true,not_or,PX,decide_eq_true_eq]at h4;refine⟨h4.1,λh0 m hm hp=> ?_⟩;cases hq:jS m (s++rest.extract 0 n)with
 |false=>rfl
 |true=>
  exfalso;apply h4.2;refine⟨h0, ?_⟩;cases hf:cW.find? λm=>decide (gK m.p=gK t.pat)with
  |none=>
   have:=adT.1 hf m hm;rw[hp]at this;simp at this
  |some m'=>
   have aa:=adV hf;have he:=adU hf;have he:m'.p=m.p:=(yK (of_decide_eq_true he)).trans hp;have ad:m'=m:=by
    have h:(cW.all λa=>cW.all λb=> !decide (gK a.p=gK b.p)||(decide (a.first=b.first)&&decide (a.last=b.last)&&decide (a.follow=b.follow)&&(a.empty==b.empty)))=true:=by kernel_rfl
    have h2:=ad5.1 (ad5.1 h m' aa) m hm;rw[he]at h2;simp at h2;obtain⟨a1,a2,a3,a4,a5⟩:=m';obtain⟨b1,b2,b3,b4,b5⟩:=m;simp only at h2 he;obtain⟨⟨⟨rfl,rfl⟩,rfl⟩,rfl⟩:=h2;rw[he]
   subst ad;simp only;exact(ab m' aa _ (by rw[ZJ,ad6];omega)).2 hq
theorem adC{rmf:bP->ByteArray->Bool}{g:ai}{c:Nat}{s rest:ByteArray}{k n:Nat}{t:Tok}(ht:g.ar[k]? =some t)(hi:eM t.cond c=true)(h0:0<n)(h1:n<=rest.size)(hh:pq rmf t (s++rest.extract 0 n)=true):sd rmf g c s rest=true:=by
 refine ad7.2 ⟨k,DE.2 (adX.1 ht).1, ?_⟩;simp only[pr,ht,hi,adZ];exact ad7.2 ⟨n-1,DE.2 (by omega),by rw[show n-1+1=n by omega];exact hh⟩
theorem adD{rmf:bP->ByteArray->Bool}{g:ai}{c:Nat}{s rest:ByteArray}(h:∀k,k<g.ar.length->pr rmf g c s rest k=false):sd rmf g c s rest=false:=by
 rw[sd,abR];intro k hk;rw[h k (DE.1 hk)];decide
set_option maxHeartbeats 8000000 in
theorem adE{rmf:bP->ByteArray->Bool}(aS:CW rmf)(g:ai)(hg:lq g)(c:Nat)(hc:c<8)(s rest:ByteArray)(hs:s.size<=1000)(hr:rest.size<=10000):ay E true 8 [.agg g.e,cV c,sV s,sV rest] (bV (sd rmf g c s rest)):=by
 have hlen:=hg.len;obtain⟨aF,aa⟩:∃aF,sd rmf g c s rest=aF:=⟨_,rfl⟩;rw[aa];have ae:g.e=[strs g.conds,.sl 3 (g.family.nodes.map cK),iV g.family.root,.sl 7 (g.ar.map Tok.e),strs g.aH,.sl 13 (g.ak.map aQ.e),iV g.start,.sl 4 (g.ba.map de.e),.sl 9 (g.bj.map bd.e)]:=rfl;obtain⟨ge,az⟩:∃ge,g.e=ge:=⟨_,rfl⟩;rw[az]at ae⊢;refine aW Tryz.ntmps8 Tryz.results8 λN=> ?_;simp(disch:=omega)[go_sem,ae];rw[<-ae];obtain⟨I,hI⟩:∃I:Nat->DS->Prop,∀j d,I j d↔∃(k:Nat) (H:ab),j+k=g.ar.length/\(∀k',k'<k->pr rmf g c s rest k'=false)/\N<H.next/\H.get N=some (.row ge true 0)/\
  d=⟨bz [(1,cV c),(2,sV s),(3,sV rest),(4,aM N),(9,iV (k:Nat))],66,[],H⟩:=⟨_,λ_ _=>ZL⟩
 refine bO I g.ar.length ⟨_,ax.bg (l:=[(1,cV c),(2,sV s),(3,sV rest),(4,aM N),(9,iV (0:Nat))]) ?_,(hI _ _).2 ⟨0,_,rfl,λk' h=>absurd h (Nat.not_lt_zero _), ?_, ?_,rfl⟩⟩ ?_
 . simp(disch:=omega)[go_sem]
 . simp(disch:=omega)[go_sem]
 . simp(disch:=omega)[go_sem,ae]
 . intro j ds aI;obtain⟨k,H,hj,aK,hN,f1,rfl⟩:=(hI _ _).1 aI;clear aI;by_cases aT:k<g.ar.length
   . have ad:(k:Int)<g.ar.length:=by omega
     obtain⟨t,ht⟩:∃t,g.ar[k]? =some t:=⟨_,GP aT⟩;obtain⟨ct,aU,aA⟩:=hg.cond t (xS ht);have aL:=CC ct c aA hc;rw[<-aU]at aL;have next:∀(H':ab) (T:Tr DV),pr rmf g c s rest k=false->N<H'.next->H'.get N=some (.row ge true 0)->jM T [(1,cV c),(2,sV s),(3,sV rest),(4,aM N),(9,iV (k+1:Nat))]->∃j',j'<j/\∃d',ax ⟨T,66,[],H'⟩ d'/\I j' d':=λH' T h1 h2 h3 h4=>⟨j-1,by omega,_,ax.bg h4,(hI _ _).2 ⟨k+1,H',by omega,λk' aX=>by
      rcases W9 k' k with h|h
      . exact aK k' h
      . rw[show k'=k by omega];exact h1,h2,h3,rfl⟩⟩
     simp(disch:=omega)[go_sem,ad,ht,-getElem?_pos,f1,ae,Tok.e];refine an.mk aL λM hM=> ?_;simp(disch:=omega)[go_sem];cases aB:eM t.cond c with
     |false=>
      simp(disch:=omega)[go_sem,aC];refine next _ _ (by simp only[pr,ht,aB,adr]) ?_ ?_ ?_
      . simp(disch:=omega)[go_sem];try omega
      . simp(disch:=omega)[go_sem,f1]
      . simp(disch:=omega)[go_sem]
     |true=>
      simp(disch:=omega)[go_sem];obtain⟨J,hJ⟩:∃J:Nat->DS->Prop,∀j d,J j d↔∃(n:Nat) (H:ab),j+n=rest.size+1/\1<=n/\(∀n',1<=n'->n'<n->pq rmf t (s++rest.extract 0 n')=false)/\N<H.next/\H.get N=some (.row ge true 0)/\
       d=⟨bz [(1,cV c),(2,sV s),(3,sV rest),(4,aM N),(9,iV (k:Nat)),(10,iV (n:Nat))],66,[],H⟩:=⟨_,λ_ _=>ZL⟩
      refine bO J rest.size ⟨_,ax.bg (l:=[(1,cV c),(2,sV s),(3,sV rest),(4,aM N),(9,iV (k:Nat)),(10,iV (1:Nat))]) ?_,(hJ _ _).2 ⟨1,_,rfl,Er _,λn' h1 h2=>absurd h1 (by omega), ?_, ?_,rfl⟩⟩ ?_
      . simp(disch:=omega)[go_sem]
      . simp(disch:=omega)[go_sem];try omega
      . simp(disch:=omega)[go_sem,f1]
      . intro j2 bc aN;obtain⟨n,H2,bf,aZ,av,aP,f2,rfl⟩:=(hJ _ _).1 aN;clear aN;by_cases hle:n<=rest.size
        . have ao:(n:Int)<=rest.size:=by omega
          have aD:=λH0=>IK (H0:=H0) rest n hle;have bk:(rest.extract 0 n).size<=10000:=by rw[ad6];omega
          have af:=adC (rmf:=rmf) (s:=s) ht aB aZ hle;have aE:(s++rest.extract 0 n).size<=100000:=by rw[ZJ];omega
          have more:∀(H':ab) (T:Tr DV),pq rmf t (s++rest.extract 0 n)=false->N<H'.next->H'.get N=some (.row ge true 0)->jM T [(1,cV c),(2,sV s),(3,sV rest),(4,aM N),(9,iV (k:Nat)),(10,iV (n+1:Nat))]->∃j',j'<j2/\∃d',ax ⟨T,66,[],H'⟩ d'/\J j' d':=λH' T h1 h2 h3 h4=>⟨j2-1,by omega,_,ax.bg h4,(hJ _ _).2 ⟨n+1,H',by omega,by omega,λn' h5 h6=>by
           rcases W9 n' n with h|h
           . exact av n' h5 h
           . rw[show n'=n by omega];exact h1,h2,h3,rfl⟩⟩
          simp(disch:=omega)[go_sem,ao,gI,aD];generalize hx:s++rest.extract 0 n=x at*;by_cases hl:t.lit=x
          . have hh:=af (by simp[pq,hl]);rw[hh]at aa;subst aa;simp(disch:=omega)[go_sem,ad,ht,-getElem?_pos,f2,ae,Tok.e,hl]
          . by_cases h0:t.lit=⟨#[]⟩
            . cases aw:cW.find? λm=>decide (gK m.p=gK t.pat)with
              |none=>
               obtain⟨m0,q1,q2⟩:=hg.pat t (xS ht) h0;have:=adT.1 aw m0 q1;rw[q2]at this;simp at this
              |some m=>
               have q1:=adV aw;have q2:=adU aw;have q2:m.p=t.pat:=yK (of_decide_eq_true q2);obtain⟨aR,-⟩:=aS m q1 x aE;rw[q2]at aR;have bb:¬(⟨#[]⟩:ByteArray)=x:=by rw[<-h0];exact hl
               simp(disch:=omega)[go_sem,ad,ht,-getElem?_pos,f2,ae,Tok.e,bb,h0];refine an.mk aR λM2 bl=> ?_;cases hb:rmf m x with
               |true=>
                have hh:=af (by simp[pq,h0,aw,hb]);rw[hh]at aa;subst aa;simp(disch:=omega)[go_sem]
               |false=>
                simp(disch:=omega)[go_sem,aC];refine more _ _ (by simp[pq,hl,aw,hb]) ?_ ?_ ?_
                . simp(disch:=omega)[go_sem];try omega
                . simp(disch:=omega)[go_sem,f2]
                . simp(disch:=omega)[go_sem]
            . simp(disch:=omega)[go_sem,ad,ht,-getElem?_pos,f2,ae,Tok.e,hl,h0,aC];refine more _ _ (by simp[pq,hl,h0]) aP f2 ?_;simp(disch:=omega)[go_sem]
        . have ao:¬(n:Int)<=rest.size:=by omega
          simp(disch:=omega)[go_sem,ao,gI,aC];refine next H2 _ ?_ aP f2 ?_
          . simp only[pr,ht,aB,adZ];rw[abR];intro m hm;rw[av (m+1) (by omega) (by have:=DE.1 hm;omega)];decide
          . simp(disch:=omega)[go_sem]
   . have ad:¬(k:Int)<g.ar.length:=by omega
     have hf:=adD λk' aX=>aK k' (by omega);rw[hf]at aa;subst aa;simp(disch:=omega)[go_sem,ad,f1,ae]
theorem JI:E.elem 42=some 4:=by kernel_rfl
theorem adF:E.elem 45=some 1:=by kernel_rfl
theorem adG{h:ab}(xs:List (List DV))(m:Nat)(hm:m<=xs.length):dz E h 42 (some (.sl 4 xs)) (some (some (iV m))) (some none) (some none)=some (.sl 4 (xs.drop m)):=by
 have h1:(m:Int)<=xs.length:=by omega
 simp[dz,e9,fx,iZ,dC,JI,h1,hm];exact ad8 (by simp)
theorem sliceB{h:ab}(xs:List (List DV))(m:Nat)(hm:m<=xs.length):dz E h 45 (some (.sl 1 xs)) (some (some (iV m))) (some none) (some none)=some (.sl 1 (xs.drop m)):=by
 have h1:(m:Int)<=xs.length:=by omega
 simp[dz,e9,fx,iZ,dC,adF,h1,hm];exact ad8 (by simp)
theorem adH{h:ab}(xs:List (List DV))(m:Nat)(hm:m+1<=xs.length):dz E h 42 (some (.sl 4 xs)) (some (some (iV m))) (some (some (.v (.int .i64 ((m:Int)+1))))) (some none)=some (.sl 4 ((xs.drop m).take 1)):=by
 have h1:(0:Int)<=(m:Int)+1:=by omega
 have h2:(m:Int)+1<=xs.length:=by omega
 have h3:m+1-m=1:=by omega
 have h4:(m:Int)<=(m:Int)+1:=by omega
 simp[dz,e9,fx,iZ,dC,JI,h1,h2,hm,h3,h4]
theorem adI(r:eL)(hr:r.Ok)(c:Nat)(hc:c∈gU (cu r))(L:List Lf)(hL:∀l∈L,l∈mU r c)(hlen:L.length<=12):ay E true 6 [.agg (cu r).e,cV c,.sl 4 (L.map Lf.e)] (qx (dr (cu r) c L)):=by
 obtain⟨h1,h2⟩:=adY.1 hc;have aE:c<8:=DE.1 h1;have h3:(cu r).conds.length<=3:=by rw[(tV r).1];have:=(tQ r.x hr.x).room.conds;omega
 exact Js _ _ _ (Jr (cu r) (Cx r hr) (Jz r hr) (ay.aj rfl (abY r hr)) c aE h2 h3 _ (λl hl=>JA r hr c l (hL l hl)) (by omega))
set_option maxHeartbeats 8000000 in
theorem adJ(r:eL)(hr:r.Ok):ay E true 3 [.agg r.e] (bV true):=by
 have h3:(cu r).conds.length<=3:=by rw[(tV r).1];have:=(tQ r.x hr.x).room.conds;omega
 obtain⟨c,hc,aF⟩:=ach (cu r) (Cx r hr).cL h3 r.config hr.config;have aE:c<8:=DE.1 (adY.1 hc).1;have aa:=acw r hr c aE aF;have ad:=adI r hr c hc;have hlen:=adn r c;have af:∀l∈mU r c,l.text.size<=4:=λl hl=>(JA r hr c l hl).size.2;have aI:=Jz r hr;have ai:=λk gs t=>Jy (g:=cu r) (c:=c) k (L:=mU r c) (gs:=gs) (t:=t);obtain⟨rmf,aS⟩:=adA;obtain⟨L,hL⟩:∃L,mU r c=L:=⟨_,rfl⟩;obtain⟨G,hG⟩:∃G,cu r=G:=⟨_,rfl⟩;rw[hL]at aa ad hlen af ai;rw[hG]at aa ad aI ai;have aw:=adE aS G aI c aE;have aK:r.e=[uV r.x.base,uV r.x.n,.sl 1 (r.x.family.map λb=>[uV b]),.sl 4 (r.x.lines.map Ln.e),.sl 5 (r.x.rules.map Rl.e),uV r.marks,uV r.config,.sl 1 (r.leaves.map λb=>[uV b])]:=rfl;obtain⟨re,aA⟩:∃re,r.e=re:=⟨_,rfl⟩;rw[aA]at aa aK;rw[aA];have av:G.e=[strs G.conds,.sl 3 (G.family.nodes.map cK),iV G.family.root,.sl 7 (G.ar.map Tok.e),strs G.aH,.sl 13 (G.ak.map aQ.e),iV G.start,.sl 4 (G.ba.map de.e),.sl 9 (G.bj.map bd.e)]:=rfl;obtain⟨ge,aL⟩:∃ge,G.e=ge:=⟨_,rfl⟩;rw[aL]at aa ad av aw;refine vq Tryz.ntmps3 Tryz.results3 λN=> ?_;refine fg ?_;simp(disch:=omega)[go_sem,aK];refine fg ?_;simp(disch:=omega)[go_sem];refine an.mk adk λM0 bc=> ?_;simp(disch:=omega)[go_sem]at bc⊢;refine fg ?_;simp(disch:=omega)[go_sem];rw[<-aK];refine an.mk aa λM1 bf=> ?_;simp(disch:=omega)[go_sem]at bf;simp(disch:=omega)[go_sem,av];rw[<-av];refine fg ?_;simp(disch:=omega)[go_sem,av];rw[<-av];refine an.mk (ad L (λ_ h=>h) hlen) λM2 bk=> ?_;simp(disch:=omega)[go_sem]at bk;cases aT:dr G c L with
 |none=>
  simp(disch:=omega)[go_sem,qx];refine fg ?_;simp(disch:=omega)[go_sem]
 |some q=>
  obtain⟨gs,t⟩:=q;obtain⟨ht,aU⟩:=CS aT;simp(disch:=omega)[go_sem,qx];refine fg ?_;simp(disch:=omega)[go_sem];refine fg ?_;simp(disch:=omega)[go_sem,aU];refine fg ?_;simp(disch:=omega)[go_sem,aU];obtain⟨I,hI⟩:∃I:Nat->DS->Prop,∀j d,I j d↔∃(k:Nat) (H:ab),j+k=L.length/\M1<H.next/\H.get M1=some (.row ge true 0)/\
   d=⟨bz [(3,bV true),(4,aM M1),(5,cV c),(6,.sl 4 (L.map Lf.e)),(7,.sl 1 (gs.map λb=>[bV b])),(9,iV (k:Nat))],91,[],H⟩:=⟨_,λ_ _=>ZL⟩
  refine bO I L.length ⟨_,ax.bg (l:=[(3,bV true),(4,aM M1),(5,cV c),(6,.sl 4 (L.map Lf.e)),(7,.sl 1 (gs.map λb=>[bV b])),(9,iV (0:Nat))]) ?_,(hI _ _).2 ⟨0,_,rfl, ?_, ?_,rfl⟩⟩ ?_
  . simp(disch:=omega)[go_sem]
  . simp(disch:=omega)[go_sem];try omega
  . simp(disch:=omega)[go_sem,av]
  . intro j ds aW;obtain⟨k,H,hj,hM,f1,rfl⟩:=(hI _ _).1 aW;clear aW;by_cases bF:k+1<L.length
    . have az:(k:Int)+1<L.length:=by omega
      obtain⟨l,hl⟩:∃l,L[k]? =some l:=⟨_,GP (by omega)⟩;obtain⟨b,hb⟩:∃b,gs[k]? =some b:=⟨_,GP (by omega)⟩;have aP:=xS hl;have hd:L.drop k=l::L.drop (k+1):=by rw[ad2 (by omega),(adX.1 hl).2]
      have bl:∀h,dz E h 42 (some (.sl 4 (L.map Lf.e))) (some (some (iV k))) (some (some (.v (.int .i64 ((k:Int)+1))))) (some none)=some (.sl 4 ([l].map Lf.e)):=λh=>by
       rw[adH (L.map Lf.e) k (by rw[Z4];omega),<-ab8,hd];rfl
      have bm:∀h,dz E h 42 (some (.sl 4 (L.map Lf.e))) (some (some (.v (.int .i64 ((k:Int)+1))))) (some none) (some none)=some (.sl 4 ((L.drop (k+1)).map Lf.e)):=λh=>by
       have:=adG (h:=h) (L.map Lf.e) (k+1) (by rw[Z4];omega);rw[<-ab8]at this;exact this
      have bn:∀h,dz E h 45 (some (.sl 1 (gs.map λb=>[bV b]))) (some (some (.v (.int .i64 ((k:Int)+1))))) (some none) (some none)=some (b9 (gs.drop (k+1))):=λh=>by
       have:=sliceB (h:=h) (gs.map λb=>[bV b]) (k+1) (by rw[Z4];omega);rw[<-ab8]at this;exact this
      have aX:=ad [l] (λx hx=>by obtain rfl:=List.mem_singleton.1 hx;exact aP) (by simp);have aZ:=adz (L.drop (k+1)) (gs.drop (k+1)) (λx hx=>by have:=af x (ad9 hx);omega) (by rw[ad0];omega) (by rw[ad0];omega);obtain⟨bG,aB⟩:∃t',dr G c (L.drop k)=some (gs.drop k,t'):=by
       obtain⟨-,t',h⟩:=ai k gs t aT;exact⟨t',h⟩
      rw[hd]at aB;have bo:(gs.drop k).head? =some b:=by rw[ad3];exact hb
      have bp:(gs.drop k).tail=gs.drop (k+1):=ad4;obtain⟨rest,ao⟩:∃rest,l8 (L.drop (k+1)) (gs.drop (k+1))=rest:=⟨_,rfl⟩;have aR:(dr G c [l]).isSome=true->we G c l.text rest->b=false:=λh1 h2=>by
       have:=indep aI aB h1 (by rw[bp,ao];exact h2);rw[bo]at this;cases this;rfl
      have bq:rest.size<=5000:=by
       have:=CV (L.drop (k+1)) (gs.drop (k+1)) (λx hx=>by have:=af x (ad9 hx);omega) (L.drop (k+1)).length;rw[JH,ao,ad0]at this;omega
      rw[ao,ab8]at aZ;have bs:=aw l.text rest (by have:=af l aP;omega) (by omega);have bt:=adB (g:=G) (c:=c) aS (s:=l.text) (rest:=rest) (by have:=af l aP;omega);have next:∀(H':ab) (T:Tr DV),M1<H'.next->H'.get M1=some (.row ge true 0)->jM T [(3,bV true),(4,aM M1),(5,cV c),(6,.sl 4 (L.map Lf.e)),(7,.sl 1 (gs.map λb=>[bV b])),(9,iV (k+1:Nat))]->∃j',j'<j/\∃d',ax ⟨T,91,[],H'⟩ d'/\I j' d':=λH' T h2 h3 h4=>⟨j-1,by omega,_,ax.bg h4,(hI _ _).2 ⟨k+1,H',by omega,h2,h3,rfl⟩⟩
      obtain⟨xs,er,hq,bu⟩:∃xs er,qx (dr G c [l])=.bb [.sl 1 xs,iV er]/\(er=0->(dr G c [l]).isSome=true):=by
       cases dr G c [l]with
       |none=>exact⟨_,_,rfl,λh=>by cases h⟩
       |some q=>exact⟨_,_,rfl,λ_=>rfl⟩
      rw[hq]at aX;simp(disch:=omega)[go_sem,az,aC];refine bR [aD 0,ae 0,ae 0,ae 0,ae 0,ae 16,aD 60,aN 127,ae 255,ae 511,ae 511,ae 1023,ae 4095] (by kernel_rfl) 0 rfl ?_;simp(disch:=omega)[go_sem,aC,bl,f1,av];rw[<-av];refine an.mk aX λM3 bx=> ?_
      try simp(disch:=omega)[go_sem]at bx
      simp(disch:=omega)[go_sem];refine bR [ae 0,ae 0,ae 2,aD 7,ae 0,ae 0,ae 32,aD 112,aN 255,ae 511,ae 1023,ae 1023,ae 2047,ae 8191] (by kernel_rfl) 0 rfl ?_;simp(disch:=omega)[go_sem,aC,bm,bn];refine an.mk aZ λM4 bA=> ?_
      try simp(disch:=omega)[go_sem]at bA
      simp(disch:=omega)[go_sem];refine bR [ae 0,ae 1,ae 3,aD 7,ae 7,ae 7,ae 7,ae 103,ae 231,aD 487,ae 7,aN 2047,ae 4095,ae 8191,ae 16383,ae 32767,ae 32767,ae 131071,aD 262143,ae 524287] (by kernel_rfl) 0 rfl ?_;by_cases he:er=0
      . subst he;have h1:=bu rfl;simp(disch:=omega)[go_sem,hl,-getElem?_pos,Lf.e,f1,av];rw[<-av];refine an.mk bs λM5 bB=> ?_
        try simp(disch:=omega)[go_sem]at bB
        cases bD:sd rmf G c l.text rest with
        |true=>
         simp(disch:=omega)[go_sem,aC];refine next _ _ ?_ ?_ ?_<;>simp(disch:=omega)[go_sem,f1]<;>omega
        |false=>
         obtain rfl:=aR h1 (bt bD);simp(disch:=omega)[go_sem,hb,-getElem?_pos,aC];refine next _ _ ?_ ?_ ?_<;>simp(disch:=omega)[go_sem,f1]<;>omega
      . simp(disch:=omega)[go_sem,he,aC];refine next _ _ ?_ ?_ ?_<;>simp(disch:=omega)[go_sem,f1]<;>omega
    . have az:¬(k:Int)+1<L.length:=by omega
      simp(disch:=omega)[go_sem,az,aC];refine vt ?_;simp(disch:=omega)[go_sem]
theorem adK(w:World)(el:TypeId)(fz:Nat×Nat)(ht:w.heap[0]? =some (.cells iX.toArray el fz))(r:eL)(hr:r.Ok)(cs:List Value)(aa:gw w cs r.e):
 Calls Tryz.prog 3 #[.agg cs.toArray] w λen w'=>en=.returned (.bool true)/\qT w w':=by
 obtain⟨ρ,h,ab,x,g,q1,q2⟩:=gw.cons (Rd.agg aa) (gw.nil w) _ _ (aca w el fz ht);have hz:0<h.next:=x.w.gM _ _ x.r0;obtain⟨v,h',r1,r2⟩:=adJ r hr (oS h) h ab ⟨λi hi=>hi,0,ry (G:=oS h) hz x.z⟩ q2;have hv:v=.bool true:=r2.2.2.cG;subst hv;refine(r1.2 ρ w #[.agg cs.toArray] ⟨λg hg=> ?_,λp hp=>(by cases hp)⟩ q1 x.w).mono ?_
 . obtain rfl:g=0:=Nat.lt_one_iff.1 hg;exact⟨_,x.r0,rfl,rfl⟩
 . rintro en w' ⟨v',ad,rfl,p1,p2,p3⟩;cases p1;refine⟨rfl,p3.os,p3.output,p3.size,p3.frozen,λj hj=>p3.kept j hj ?_⟩;rintro⟨i,o,pl,g1,g2,_,_⟩;rw[x.ro i o g1]at g2;cases g2
end Go.Sp
end
noncomputable section
namespace Go.Proofs.YtmhjnafgdhaemaaGreatDoor.independent
open Rows renaming spacingIndependentSpec->rS,spacingIndependentRow->rR
open Go.ChangeShapes Go.WideShapes Go.ChangeAt Go.RowKit Go.Joins Go.au
theorem own:ownKnob Tryz.prog.godebug=none:=by kernel_rfl
theorem laidOut:laidOutB Tryz.prog=true:=by kernel_rfl
theorem JK:Tryz.prog.globalNamed "math/bits.deBruijn64tab" =some 0:=by kernel_rfl
theorem adM:(Tryz.prog.globals[0]?).map (·.type)=some 249:=by kernel_rfl
theorem adN:Tryz.prog.cellsOf 249=64:=by kernel_rfl
theorem kz:Tryz.prog.cellsOf 5=1:=by kernel_rfl
theorem readable:∀t∈Tryz.f3.params.toList,Tryz.prog.readableRec t=true/\t<Tryz.prog.types.size:=by
 rw[Tryz.params3];intro t ht;have ht:t∈[28]:=ht;simp only[adW,aea,or_false]at ht;subst ht;exact⟨by kernel_rfl,of_decide_eq_true (by kernel_rfl)⟩
def JL:List Int:=[0,1,56,2,57,49,28,3,61,58,42,50,38,29,17,4,62,47,59,36,45,43,51,22,53,39,33,30,24,18,12,5,63,55,48,27,60,41,37,16,46,35,44,21,52,32,23,11,54,26,40,15,34,20,31,10,25,14,19,9,13,8,7,6]
theorem adO{W:World}(h:laidMetH Tryz.prog rR.laid W):∃(el:TypeId) (fz:Nat×Nat),W.heap[0]? =some (.cells iX.toArray el fz):=by
 have ht:Lib.TabIs Tryz.prog W "math/bits.deBruijn64tab" .u8 JL:=Lib.tabIs_of_head (rest:=[]) JK adM Tryz.underlying249 Tryz.underlying5 kz adN h;unfold Lib.TabIs World.var? at ht;rw[JK]at ht;simp only[Option.bind_some]at ht
 split at ht
 . rename_i cs el fz hg;refine⟨el,fz, ?_⟩;rw[hg];obtain rfl:=ad1 ht;rfl
 . cases ht
section
variable {H:Type}
set_option maxRecDepth 100000 in
theorem adP(enc:TypeId×Value->H)(W:World)(base:Nat)(args:Array Value)(ds gs:List (DataW H))(before:List MemPlace)
 (aa:∀(j:Nat) t v,Tryz.f3.params[j]? =some t->args[j]? =some v->Value.okWide Tryz.prog W .any base t v)
 (hW:DataW.Whole enc Tryz.prog Tryz.f3.params.toList rS.vars false W args.toList ds gs before) (hL:laidMetH Tryz.prog rR.laid W):
 Calls Tryz.prog 3 args W λe W'=>∃v,e=.returned v/\rS.post enc Tryz.prog Tryz.f3 false true false false W args v W':=by
 have ad:=hW;obtain⟨p,q,ae,hV,rfl,ao,av⟩:=hW;have hA:DataW.TrodAll enc Tryz.prog W 0 (λ_=>true) true Tryz.f3.params.toList args.toList ds p:=ae;rw[Tryz.params3]at hA aa;obtain⟨v0,aw,d0,az,p0,q0,ab,rfl,rfl,h0,r0⟩:=trodAll_cons hA;obtain⟨rfl,rfl,rfl⟩:=trodAll_nil r0;obtain rfl:args=#[v0]:=by cases args;simp_all
 obtain⟨rfl,rfl⟩:=trodVars_none hV;have w0:=aa 0 28 v0 rfl rfl;clear aa;obtain⟨cs,rfl,af⟩:=okWide_struct Tryz.underlying28 w0;obtain⟨fuel,hf⟩:=h0;obtain⟨x,hx,hr⟩:=Go.Sp.ab9 (cs:=cs.toList) (by rw[Array.length_toList,af];exact Go.Sp.ab2) hf;obtain⟨el,fz,ht⟩:=adO hL;refine(Go.Sp.adK W el fz ht x hx cs.toList hr).mono λe W' ⟨he,hk⟩=> ?_;subst he;exact⟨_,rfl,adL (tb:=4) ad rfl rfl rfl rfl laidOut readable (by kernel_rfl) Tryz.underlying4 hk⟩
end
def CX(os:Os):World:=
 { World.holding Tryz.prog os ⟨#[], #[], []⟩ with heap := (World.holding Tryz.prog os ⟨#[], #[], []⟩).heap.modify 0 fun
  |.cells _ t frozen=>.cells (JL.map λz=>Value.int .u8 z).toArray t frozen
  |o=>o}
def yP:Array Value:=#[.agg #[.int .u8 0,.int .u8 0,.slice none 0 0,.slice none 0 0,.slice none 0 0,.int .u8 0,.int .u8 0,.slice none 0 0]]
def adQ{H:Type}:List (DataW H):=[.agg [.agg [.lit (.int .u8 0),.lit (.int .u8 0),.nil,.nil,.nil],.lit (.int .u8 0),.lit (.int .u8 0),.nil]]
theorem adR(os:Os):laidMet Tryz.prog rR.laid ((CX os).forCall (λ_ _=>0) ⟨#[],yP,[]⟩).memory:=
 laidMet_of_run' 8 (by kernel_rfl) (by kernel_rfl)
theorem reads(os:Os){H:Type}(enc:TypeId×Value->H):∃places,DataW.whole enc Tryz.prog ((CX os).forCall (λ_ _=>0) ⟨#[],yP,[]⟩).memory Tryz.f3.params.toList rS.vars false yP.toList 8=some (adQ,[],places):=
 ⟨[],by kernel_rfl⟩
set_option maxRecDepth 100000 in
theorem lifted(os:Os)(started:os.Started)(H:Type)(enc:TypeId×Value->H)(F:Stop.Interp):
 ReturnsInHanded {} Tryz.checked os 3 .any ((OpenSpec.ofChange rS).preRow enc Tryz.prog Tryz.f3 rR.domain false rR.laid) (((OpenSpec.ofChange rS).at F).post enc Tryz.prog Tryz.f3 false true false false):=by
 obtain⟨places,hx⟩:=reads os enc;refine returnsInHanded_of_row (C:=Tryz.checked) (s:=OpenSpec.ofChange rS) own started (by kernel_rfl) Tryz.func3
  (witness_row_at (enc:=enc) (C:=Tryz.checked) false (CX os) yP rfl (by kernel_rfl) (by kernel_rfl) (by kernel_rfl)
   (OpenSpec.preRow_of_cond 8 hx (by kernel_rfl) (λk hk=>by cases hk) (by kernel_rfl) (adR os))) ?_
 intro W base args ds gs before aa hW _ _ _ hL _ _;exact adP enc W base args ds gs before aa hW hL
theorem said:Rows.SpacingIndependentSaid:=
 OpenClaim.holds_of_cond 3 Tryz.f3 rfl rfl rfl rfl rfl rfl rfl ⟨rfl,rfl,rfl,rfl,rfl⟩ rfl rfl rfl rfl rfl (by kernel_rfl) Tryz.func3 (by kernel_rfl)
  (of_decide_eq_true (by kernel_rfl)) (by unfold Func.isWrapper;first|(rw[if_pos (by decide+kernel)];kernel_rfl)|(rw[if_neg (by decide+kernel)];exact⟨rfl,rfl⟩))
  (λos started H enc _ F=>by rw[OpenClaim.pre_eq_preRow];exact lifted os started H enc F)
theorem plain(f:FuncId)(fn:Func)(hf:Tryz.pinned.checked.prog.funcNamed "koine/koinelaw24.SpacingIndependent" =some f)(ai:Tryz.pinned.checked.prog.funcs[f]? =some fn):
 true=Tryz.pinned.checked.prog.looks []/\∀(j:Nat) t,fn.params[j]? =some t->Tryz.pinned.checked.prog.wantsStandIn t=false:=by
 obtain rfl:f=3:=ad1 ((show Tryz.prog.funcNamed "koine/koinelaw24.SpacingIndependent" =some 3 by kernel_rfl).symm.trans hf)|>.symm;obtain rfl:fn=Tryz.f3:=(ad1 (Tryz.func3.symm.trans ai)).symm;refine⟨by kernel_rfl,λj t ht=> ?_⟩;rw[Tryz.params3]at ht;have hm:t∈[28]:=by simpa using Array.mem_of_getElem? ht
 simp only[adW,aea,or_false]at hm;subst hm;exact(show Tryz.prog.wantsStandIn 28=false by kernel_rfl)
theorem card:Rows.SpacingIndependentCardSaid:=
 Claim7.holds_tied_plain_at .later [] _ _ _ _ said (λ_ h=>by cases h) (by kernel_rfl) (λ_ h=>by cases h) spacingIndependent_row_tie rfl ⟨rfl,rfl⟩ (by kernel_rfl) rfl plain (by kernel_rfl)
#print axioms card
end Go.Proofs.YtmhjnafgdhaemaaGreatDoor.independent
end

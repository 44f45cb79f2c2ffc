/- SpacingSuffixes: parts of its proof (Fa1 Fa2 Fa3 Fa4 Fa5). -/
import Derived.Test.YtaheljlbchkpcaaGreatDoorK24
import Derived.Test.YtaheljlbchkpcaaGreatDoorK35
set_option linter.unusedVariables false
set_option linter.unusedSimpArgs false
noncomputable section
open Go Go.aw Go.Proofs
namespace Go.aw
variable {e:Env}
def fh(h:ab):List Nat->ab
 |[]=>ab.none h.next
 |i::S=>(fh h S).set i (h.get i)
theorem DC(h:ab):∀S,(fh h S).next=h.next
 |[]=>rfl
 |_::S=>DC h S
theorem nN(h:ab)(j:Nat):∀S,(fh h S).get j=if j∈S then h.get j else none
 |[]=>by rw[fh,ab.get_none];simp
 |i::S=>by
  rw[fh,ab.bw,nN h j S];by_cases h1:j=i
  . subst h1;simp
  . simp[h1]
theorem c8.read{aj:Bool}{f:FuncId}{args:List DV}{dh:ab}{K:DV->ab->List Nat->Prop}(S:List Nat)(hc:c8 e aj f args (fh dh S) λv aa _=>(∀i∈S,aa.get i=dh.get i)/\K v (dh.up aa.next) S):c8 e aj f args dh K:=by
 intro G h vs x ha;have kn:∀i,dh.get i=none->(fh dh S).get i=none:=λi hi=>by
  rw[nN];split
  . exact hi
  . rfl
 have x0:bM G h (fh dh S):=by
  refine⟨x.fF,by rw[DC];exact x.next,λi o ho=> ?_,λi hi=>⟨(x.still i hi).1,kn i (x.still i hi).2⟩⟩;rw[nN]at ho
  split at ho
  . exact x.obj i o ho
  . cases ho
 have key:=hc G h vs x0 ha;have fin:∀v h',nv G h (fh dh S) (λv aa _=>(∀i∈S,aa.get i=dh.get i)/\K v (dh.up aa.next) S) v h'->nv G h dh K v h':=λv h' ⟨d,aa,G',T,r2,r3,r4,r5,r6,r7⟩=>by
  have ad:∀i,¬i<h.next->dh.get i=none:=λi hi=>by
   cases hq:dh.get i with
   |none=>rfl
   |some o=>exact absurd (x.obj i o hq).1 hi
  have out:∀i,i<h.next->i∉S->h'.get i=h.get i:=λi hi hS=>(r3.same i hi (by rw[nN,if_neg hS])).1;have hm:∀i r,aI h G i=some r->aI h' G' i=some r:=jj λi hg=>by
   obtain⟨h1,h2⟩:=x.still i hg;exact⟨r3.up i hg,(r3.same i h1 (kn i h2)).1⟩
  refine⟨d,dh.up aa.next,G',S,⟨r2.fF,r2.next,λi o ho=> ?_,λi hi=>⟨(r2.still i hi).1, ?_⟩⟩,⟨r3.next,λi hi hd=>⟨(r3.same i hi (kn i hd)).1,hd⟩,r3.up,λi hi hg=> ?_⟩,r4,λi hi hS=>⟨out i hi hS,rfl⟩,r7⟩
  . have ho:dh.get i=some o:=ho;by_cases hS:i∈S
    . exact r2.obj i o (by rw[r6 i hS];exact ho)
    . obtain⟨h1,ao,h2,h3⟩:=x.obj i o ho;exact⟨Nat.lt_of_lt_of_le h1 r3.next,ao,by rw[out i h1 hS];exact h2,h3.mono hm⟩
  . show dh.get i=none;by_cases aB:i<h.next
    . by_cases hS:i∈S
      . rw[<-r6 i hS];exact(r2.still i hi).2
      . rcases r3.ba i aB hi with h1|h1
        . exact(x.still i h1).2
        . rw[nN,if_neg hS]at h1;cases h1
    . exact ad i aB
  . rcases r3.ba i hi hg with h1|h1
    . exact .inl h1
    . rw[nN]at h1
      split at h1
      . exact .inr h1
      . cases h1
 cases aj with
 |true=>obtain⟨v,h',h1,h2⟩:=key;exact⟨v,h',h1,fin v h' h2⟩
 |false=>exact fO.mono key fin
def rL(h h':ab):List Nat->ab
 |[]=>h
 |i::S=>(rL h h' S).set i (h'.get i)
theorem DD(h h':ab):∀S,(rL h h' S).next=h.next
 |[]=>rfl
 |_::S=>DD h h' S
theorem DE(h h':ab)(j:Nat):∀S,(rL h h' S).get j=if j∈S then h'.get j else h.get j
 |[]=>by simp[rL]
 |i::S=>by
  rw[rL,ab.bw,DE h h' j S];by_cases h1:j=i
  . subst h1;simp
  . simp[h1]
theorem c8.frame{aj:Bool}{f:FuncId}{args:List DV}{dh:ab}{K:DV->ab->List Nat->Prop}(S:List Nat)(hS:∀i∈S,i<dh.next)
 (hc:c8 e aj f args (fh dh S) λv aa _=>∀af:ab,af.next=aa.next->(∀i,(i∈S\/dh.next<=i)->af.get i=aa.get i)->(∀i,i<dh.next->i∉S->af.get i=dh.get i)->K v af S):c8 e aj f args dh K:=by
 intro G h vs x ha;have kn:∀i,dh.get i=none->(fh dh S).get i=none:=λi hi=>by
  rw[nN];split
  . exact hi
  . rfl
 have x0:bM G h (fh dh S):=by
  refine⟨x.fF,by rw[DC];exact x.next,λi o ho=> ?_,λi hi=>⟨(x.still i hi).1,kn i (x.still i hi).2⟩⟩;rw[nN]at ho
  split at ho
  . exact x.obj i o ho
  . cases ho
 have key:=hc G h vs x0 ha;have fin:∀v h',nv G h (fh dh S) (λv aa _=>∀af:ab,af.next=aa.next->(∀i,(i∈S\/dh.next<=i)->af.get i=aa.get i)->(∀i,i<dh.next->i∉S->af.get i=dh.get i)->K v af S) v h'->nv G h dh K v h':=λv h' ⟨d,aa,G',T,r2,r3,r4,r5,r7⟩=>by
  have ad:∀i,¬i<h.next->dh.get i=none:=λi hi=>by
   cases hq:dh.get i with
   |none=>rfl
   |some o=>exact absurd (x.obj i o hq).1 hi
  have hn:dh.next=h.next:=x.next.symm;have out:∀i,i<h.next->i∉S->h'.get i=h.get i:=λi hi hS=>(r3.same i hi (by rw[nN,if_neg hS])).1;have hm:∀i r,aI h G i=some r->aI h' G' i=some r:=jj λi hg=>by
   obtain⟨h1,h2⟩:=x.still i hg;exact⟨r3.up i hg,(r3.same i h1 (kn i h2)).1⟩
  have lo:∀i,i<dh.next->i∉S->(lI (rL dh aa S) aa).get i=dh.get i:=λi hi hS=>by
   rw[u5,if_neg (by rw[DD];omega),DE,if_neg hS]
  have aE:∀i,(i∈S\/dh.next<=i)->(lI (rL dh aa S) aa).get i=aa.get i:=λi hi=>by
   rw[u5,DD,DE];by_cases aB:i<dh.next
   . have aL:i∈S:=by rcases hi with h1|h1;exact h1;omega
     rw[if_neg (by omega),if_pos aL]
   . have hb:(if i∈S then aa.get i else dh.get i)=if i∈S then aa.get i else none:=by
      split
      . rfl
      . exact ad i (by omega)
     rw[hb];cases hq:aa.get i with
     |some o=>
      have:=(r2.obj i o hq).1;have h2:=r2.next;rw[if_pos (by omega)]
     |none=>
      rw[show(if i∈S then(none:Option bF)else none)=none from by split<;>rfl]
      split<;>rfl
  refine⟨d,lI (rL dh aa S) aa,G',S,⟨r2.fF,r2.next,λi o ho=> ?_,λi hi=>⟨(r2.still i hi).1, ?_⟩⟩,⟨r3.next,λi hi hd=>⟨(r3.same i hi (kn i hd)).1, ?_⟩,r3.up,λi hi hg=> ?_⟩,r4,λi hi hS=>⟨out i hi hS,lo i (by omega) hS⟩,r7 _ rfl aE lo⟩
  . by_cases hc:i∈S\/dh.next<=i
    . rw[aE i hc]at ho;exact r2.obj i o ho
    . have h1:i<dh.next/\i∉S:=by
       refine⟨?_,λh=>hc (.inl h)⟩;rcases Nat.lt_or_ge i dh.next with h|h
       . exact h
       . exact absurd (.inr h) hc
      rw[lo i h1.1 h1.2]at ho;obtain⟨h2,ao,h3,h4⟩:=x.obj i o ho;exact⟨Nat.lt_of_lt_of_le h2 r3.next,ao,by rw[out i h2 h1.2];exact h3,h4.mono hm⟩
  . by_cases hc:i∈S\/dh.next<=i
    . rw[aE i hc];exact(r2.still i hi).2
    . have h1:i<dh.next/\i∉S:=by
       refine⟨?_,λh=>hc (.inl h)⟩;rcases Nat.lt_or_ge i dh.next with h|h
       . exact h
       . exact absurd (.inr h) hc
      rw[lo i h1.1 h1.2];rcases r3.ba i (by omega) hi with h2|h2
      . exact(x.still i h2).2
      . rw[nN,if_neg h1.2]at h2;cases h2
  . by_cases aL:i∈S
    . rw[aE i (.inl aL)];exact(r3.same i hi (kn i hd)).2
    . rw[lo i (by omega) aL];exact hd
  . rcases r3.ba i hi hg with h1|h1
    . exact .inl h1
    . rw[nN]at h1
      split at h1
      . exact .inr h1
      . cases h1
 cases aj with
 |true=>obtain⟨v,h',h1,h2⟩:=key;exact⟨v,h',h1,fin v h' h2⟩
 |false=>exact fO.mono key fin
end Go.aw
namespace Go.Sp
set_option maxRecDepth 100000
theorem vx{aj:Bool}{f:FuncId}{fn:Func}{c:Code}{args:List DV}{K:cF}{dd:List FuncId}{h:ab}(S:List Nat)(aS:E.fn f=some fn)(hb:fn.body=some c){n:Nat}(hn:fn.ntmps=n){rs:List ResultVar}(aT:fn.results=rs.toArray)
 (hq:RD E aj c ⟨iT args,args.length+(n-args.length),[],fh h S⟩ (jN E rs λd h'=>∀_:List Nat,(∀i∈S,h'.get i=h.get i)/\K d dd (h.up h'.next) S)):aq E aj K dd h (f,args):=by
 refine c8.read S ?_;exact im (K:=λv _ h' _=>(∀i∈S,h'.get i=h.get i)/\K v dd (h.up h'.next) S) (dd:=dd) aS hb hn aT hq
theorem rM{aj:Bool}(d:Dg):ax E aj 92 [.agg d.e,iV 0] (.agg d.e):=by
 refine bc Wh rfl Tryz.ntmps92 Tryz.results92 λN=> ?_;simp(disch:=omega)[go_sem,Dg.e]
theorem DF{aj:Bool}(b:Bool):ax E aj 96 [bV b] (.agg (aQ b).e):=by
 refine bc Wk rfl Tryz.ntmps96 Tryz.results96 λN=> ?_;cases b<;>simp[go_sem,mG,aQ,Dg.e]
theorem tE:E.under 124=some (.map 3 33):=by kernel_rfl
theorem Js:E.zero 33=some (.agg #[.slice none 0 0,.int .i64 0]):=by kernel_rfl
abbrev jz(es:List bA)(l:List (Int×Nat)):Prop:=fC tB (λc:Nat=>.agg (aF c).e) es l
def cR{κ:Type}[DecidableEq κ](l:List (κ×Nat))(k:κ):Nat:=(bf l k).getD 0
theorem Jt:aF 0=aQ false:=rfl
theorem xH{aj:Bool}{K:cF}{dd:List FuncId}{h:ab}{r:Nat}{es:List bA}{clock:Nat}{l:List (Int×Nat)}{k:Int}(hm:h.get r=some (.map es clock))(hr:r<h.next)(hl:jz es l)
 (hk:∀N,h.next<=N->K (.agg (aF (cR l k)).e) dd (h.up N) [r]):aq E aj K dd h (100,[.v (.map (some r)),iV k]):=by
 refine vx [r] Wn rfl Tryz.ntmps100 Tryz.results100 ?_;simp only[fh,hm];cases ha:bf l k with
 |none=>
  have h1:=tw kA tE hl k true Js rfl ha;have hg:cR l k=0:=by simp[cR,ha]
  rw[hg,Jt]at hk;simp(disch:=omega)[go_sem];refine⟨_,mi (es:=es) (clock:=clock) (by simp(disch:=omega)[go_sem]) rfl h1, ?_⟩;simp(disch:=omega)[go_sem,fX];refine aq.mk (DF false) λM hM=> ?_;simp(disch:=omega)[go_sem]at hM;simp(disch:=omega)[go_sem,Dg.e]at hk⊢;exact⟨hm.symm,hk M (by omega)⟩
 |some c=>
  have h1:=tu kA tE hl k true ha;have hg:cR l k=c:=by simp[cR,ha]
  rw[hg]at hk;simp(disch:=omega)[go_sem];refine⟨_,mi (es:=es) (clock:=clock) (by simp(disch:=omega)[go_sem]) rfl h1, ?_⟩;simp(disch:=omega)[go_sem,Dg.e]at hk⊢;exact⟨hm.symm,hk _ (by omega)⟩
def gl(l:List (Int×Nat))(c:Nat)(syms:List Sym):Nat:=syms.foldl (λc s=>if s.tok=true\/c=0 then c else c&&&cR l s.idx) c
theorem zP{c:Nat}(hc:c<256):(aF c).root=0↔c=0:=by
 have h:((List.range 256).all λc=>decide ((aF c).root=0)==decide (c=0))=true:=by kernel_rfl
 have:=List.all_eq_true.1 h c (by simpa using hc);simpa using eq_of_beq this
theorem vy{l:List (Int×Nat)}(hl:∀k c,bf l k=some c->c<256)(k:Int):cR l k<256:=by
 unfold cR;cases h:bf l k with
 |none=>simp
 |some c=>simpa using hl k c h
theorem zQ(l:List (Int×Nat))(syms:List Sym):∀(c:Nat),c<256->gl l c syms<256:=by
 induction syms with
 |nil=>exactλc h=>h
 |cons s r ih=>
  intro c h;simp only[gl,List.foldl_cons];refine ih _ ?_
  split
  . exact h
  . exact Nat.lt_of_le_of_lt Nat.and_le_left h
set_option maxHeartbeats 2000000 in
theorem adj{K:cF}{dd:List FuncId}{h:ab}{r:Nat}{es:List bA}{clock:Nat}{l:List (Int×Nat)}{syms:List Sym}{c:Nat}(hm:h.get r=some (.map es clock))(hr:r<h.next)(hl:jz es l)(aU:∀k c,bf l k=some c->c<256)(hc:c<256)(hs:syms.length<=1000)
 (hk:∀N,h.next<=N->K (.agg (aF (gl l c syms)).e) dd (h.up N) [r]):aq E true K dd h (95,[.agg (aF c).e,.sl 2 (syms.map Sym.e),.v (.map (some r))]):=by
 refine vx [r] GH rfl Tryz.ntmps95 Tryz.results95 ?_;simp only[fh,hm];obtain⟨N,hN⟩:∃N,h.next=N:=⟨_,rfl⟩;rw[hN]at hr hk⊢;simp(disch:=omega)[go_sem,Dg.e];obtain⟨I,hI⟩:∃I:Nat->DS->Prop,∀j d,I j d↔∃(k P:Nat),j+k=syms.length/\N+1<P/\d=⟨bQ [(2,.v (.map (some r))),(3,.v (.pointer (some ⟨N,0,none⟩))),(6,.v (.pointer (some ⟨N+1,0,none⟩))),(9,.sl 2 (syms.map Sym.e)),(10,iV syms.length),(11,iV k)],34,[],cK P [(r,.map es clock),(N,.row (aF (gl l c (syms.take k))).e true 0),(N+1,.row [.v (.slice none 0 0),.v (.int .i64 0)] true 0)]⟩:=⟨_,λ_ _=>Iff.rfl⟩;refine cx I syms.length ⟨_,aA.mk (N:=N+2) ?_ ?_ ?_,(hI _ _).2 ⟨0,N+2,rfl,by omega,rfl⟩⟩ ?_
 . simp(disch:=omega)[go_sem]
 . simp(disch:=omega)[go_sem]
 . simp(disch:=omega)[go_sem,Dg.e,gl]
 . intro j ds aM;obtain⟨k,P,hj,hP,rfl⟩:=(hI _ _).1 aM;clear aM;by_cases aB:k<syms.length
   . have ay:(k:Int)<syms.length:=by omega
     obtain⟨s,hx⟩:∃s,syms[k]? =some s:=⟨_,List.getElem?_eq_getElem aB⟩;have au:gl l c (syms.take (k+1))=if s.tok=true\/gl l c (syms.take k)=0 then gl l c (syms.take k)else gl l c (syms.take k)&&&cR l s.idx:=by
      unfold gl;rw[List.take_add_one,hx,Option.toList_some,List.foldl_append,List.foldl_cons,List.foldl_nil]
     have aO:=zQ l (syms.take k) c hc;generalize bg:gl l c (syms.take k)=cc at*;have aR:=zP aO;by_cases ai:s.tok=true\/cc=0
     . rw[if_pos ai]at au;have aC:∀(st:DS),aA st ⟨bQ [(2,.v (.map (some r))),(3,.v (.pointer (some ⟨N,0,none⟩))),(6,.v (.pointer (some ⟨N+1,0,none⟩))),(9,.sl 2 (syms.map Sym.e)),(10,iV syms.length),(11,iV (k+1:Nat))],34,[],cK (P+1) [(r,.map es clock),(N,.row (aF cc).e true 0),(N+1,.row [.v (.slice none 0 0),.v (.int .i64 0)] true 0)]⟩->∃j',j'<j/\∃d',aA st d'/\I j' d':=λst hw=>
        ⟨j-1,by omega,_,hw,(hI _ _).2 ⟨k+1,P+1,by omega,by omega,by rw[au]⟩⟩
       cases ht:s.tok with
       |true=>
        simp(disch:=omega)[go_sem,ay,hx,-getElem?_pos,Sym.e,ht,aD];refine aC _ (aA.mk ?_ ?_ ?_)
        . simp(disch:=omega)[go_sem]
        . simp(disch:=omega)[go_sem,Sym.e]
        . simp(disch:=omega)[go_sem,Dg.e]
       |false=>
        have hz:cc=0:=by simpa[ht]using ai
        have av:=aR.2 hz;simp(disch:=omega)[go_sem,ay,hx,-getElem?_pos,Sym.e,ht,Dg.e,av,aD];refine aC _ (aA.mk ?_ ?_ ?_)
        . simp(disch:=omega)[go_sem]
        . simp(disch:=omega)[go_sem,Sym.e]
        . simp(disch:=omega)[go_sem,Dg.e,av]
     . rw[if_neg ai]at au;have ht:s.tok=false:=by simpa using λh=>ai (.inl h)
       have hz:¬cc=0:=λh=>ai (.inr h);have av:¬(aF cc).root=0:=λh=>hz (aR.1 h);have aY:=vy aU s.idx;have hand:=xG cc (cR l s.idx) aO aY;have az:=rM (aj:=true) (aF (cc&&&cR l s.idx));simp only[Dg.e]at hand az;simp(disch:=omega)[go_sem,ay,hx,-getElem?_pos,Sym.e,ht,Dg.e,av];refine ck [dF 0,ae 0,ae 0,aJ 4,aN 14,aN 31,ae 63,ae 63,aN 255,aN 511] (by kernel_rfl) 0 rfl ?_;simp(disch:=omega)[go_sem,Sym.e,Dg.e];refine xH (es:=es) (clock:=clock) (l:=l) (by simp(disch:=omega)[go_sem]) (by simp(disch:=omega)[go_sem];try omega) hl λM hM=> ?_;simp(disch:=omega)[go_sem]at hM;simp(disch:=omega)[go_sem,Dg.e];refine⟨by omega, ?_⟩;refine aq.mk hand λM2 aZ=> ?_;simp(disch:=omega)[go_sem]at aZ;simp(disch:=omega)[go_sem];refine aq.mk az λM3 bb=> ?_;simp(disch:=omega)[go_sem]at bb;simp(disch:=omega)[go_sem,aD];refine⟨j-1,by omega,_,aA.mk (N:=M3) ?_ ?_ ?_,(hI _ _).2 ⟨k+1,M3,by omega,by omega,rfl⟩⟩
       . simp(disch:=omega)[go_sem]
       . simp(disch:=omega)[go_sem,Sym.e]
       . simp(disch:=omega)[go_sem,Dg.e,au]
   . have ay:¬(k:Int)<syms.length:=by omega
     rw[List.take_of_length_le (by omega)];simp(disch:=omega)[go_sem,ay,Dg.e]at hk⊢;exact⟨hm.symm,hk _ (by omega)⟩
end Go.Sp
end
noncomputable section
open Go Go.aw Go.Proofs
namespace Go.Sp
set_option maxRecDepth 100000
theorem DG(l:List (Int×Nat))(k i:Int)(c:Nat):cR (put l k c) i=if i=k then c else cR l i:=by
 unfold cR;rw[nq]
 split<;>rfl
def mu(n:Nat)(l:List (Int×Nat)):Nat:=((List.range n).map λ(i:Nat)=>255-cR l (i:Int)).sum
theorem Jv(l:List Nat)(f g:Nat->Nat)(h:∀i∈l,f i<=g i):(l.map f).sum<=(l.map g).sum:=by
 induction l with
 |nil=>simp
 |cons x l ih=>
  simp only[List.map_cons,List.sum_cons];have:=h x (by simp);have:=ih λi hi=>h i (by simp[hi]);omega
theorem adp(l:List Nat)(f g:Nat->Nat)(h:∀i∈l,f i<=g i)(k:Nat)(hk:k∈l)(ai:f k<g k):(l.map f).sum<(l.map g).sum:=by
 induction l with
 |nil=>cases hk
 |cons x l ih=>
  simp only[List.map_cons,List.sum_cons];have h1:=h x (by simp);have h2:=Jv l f g λi hi=>h i (by simp[hi]);rcases List.mem_cons.1 hk with rfl|hk
  . omega
  . have:=ih (λi hi=>h i (by simp[hi])) hk;omega
theorem Jw{n:Nat}{l:List (Int×Nat)}{k:Int}{c:Nat}(h0:0<=k)(h1:k<n)(hc:c<256)(ai:cR l k<c):mu n (put l k c)<mu n l:=by
 refine adp _ _ _ (λi hi=> ?_) k.toNat (by simp;omega) ?_
 . rw[DG]
   split
   . rename_i h;rw[<-h]at ai;omega
   . exact Nat.le_refl _
 . rw[DG,if_pos (by omega),show((k.toNat:Nat):Int)=k from Int.toNat_of_nonneg h0];omega
def j5{κ:Type}[DecidableEq κ](l:List (κ×Nat)):Prop:=∀k c,bf l k=some c->c<256
theorem j5.put{κ:Type}[DecidableEq κ]{l:List (κ×Nat)}(h:j5 l){k:κ}{c:Nat}(hc:c<256):j5 (Go.aw.put l k c):=λi d hd=>by
 rw[nq]at hd
 split at hd
 . cases hd;exact hc
 . exact h i d hd
theorem xI{a b:Nat}(ha:a<256)(hb:b<256):a|||b<256:=Nat.or_lt_two_pow (n:=8) ha hb
set_option maxHeartbeats 2000000 in
theorem adq{K:cF}{dd:List FuncId}{h:ab}{M B2 C:Nat}{es:List bA}{clock:Nat}{l:List (Int×Nat)}{k:Int}{d:Nat}{ch:Bool}(hB:h.get B2=some (.row [.v (.map (some M))] true 0))(hC:h.get C=some (.row [bV ch] true 0))(hM:h.get M=some (.map es clock))
 (l1:M<h.next) (l2:B2<h.next) (l3:C<h.next) (n1:M≠B2) (n2:M≠C) (n3:B2≠C) (hl:jz es l) (ai:j5 l) (hd:d<256)
 (hk:∀h' T ao aa l' au,jz ao l'->((l'=l/\au=ch)\/(d≠0/\l'=put l k (cR l k|||d)/\cR l k|||d≠cR l k/\au=true))->h.next<=h'.next->h'.get M=some (.map ao aa)->h'.get C=some (.row [bV au] true 0)->(∀i,i<h.next->i≠M->i≠C->h'.get i=h.get i)->K (.bg []) dd h' T):
 aq E true K dd h (163,[iV k,.agg (aF d).e,.v (.pointer (some ⟨B2,0,none⟩)),.v (.pointer (some ⟨C,0,none⟩))]):=by
 have n4:=n1.symm;have n5:=n2.symm;have n6:=n3.symm;have az:=zP hd;have av:=vy ai k;have aB:=DB (cR l k) d av hd;have ae:=rM (aj:=true) (aF (cR l k|||d));have af:=Ju (cR l k) (cR l k|||d) av (xI av hd);obtain⟨N,hN⟩:∃N,h.next=N:=⟨_,rfl⟩;rw[hN]at l1 l2 l3 hk;refine im Xa rfl Tryz.ntmps163 Tryz.results163 ?_;simp only[Dg.e]at aB ae af;by_cases hz:d=0
 . have ad:=az.2 hz;simp(disch:=omega)[go_sem,Dg.e,ad];intro T;refine hk _ T es clock l ch hl (.inl ⟨rfl,rfl⟩) ?_ ?_ ?_ λi hi q1 q2=> ?_
   . simp[go_sem,hN]
   . simp(disch:=omega)[go_sem,hN,hM]
   . simp(disch:=omega)[go_sem,hN,hC]
   . simp(disch:=omega)[go_sem,hN]
 . have ad:¬(aF d).root=0:=λh=>hz (az.1 h);simp(disch:=omega)[go_sem,Dg.e,ad,hB,hN];refine xH (es:=es) (clock:=clock) (l:=l) (by simp(disch:=omega)[go_sem,hN,hM]) (by simp(disch:=omega)[go_sem,hN];try omega) hl λP hP=> ?_;simp(disch:=omega)[go_sem,hN]at hP;simp(disch:=omega)[go_sem,Dg.e,hN];refine aq.mk aB λP2 aC=> ?_;simp(disch:=omega)[go_sem]at aC;simp(disch:=omega)[go_sem];refine aq.mk ae λP3 aD=> ?_;simp(disch:=omega)[go_sem]at aD;simp(disch:=omega)[go_sem];refine aq.mk af λP4 aE=> ?_;simp(disch:=omega)[go_sem]at aE;by_cases he:cR l k=cR l k|||d
   . have ay:decide (cR l k=cR l k|||d)=true:=decide_eq_true he;simp(disch:=omega)[go_sem,ay];intro T;refine hk _ T es clock l ch hl (.inl ⟨rfl,rfl⟩) ?_ ?_ ?_ λi hi q1 q2=> ?_
     . simp[go_sem];omega
     . simp(disch:=omega)[go_sem,hN,hM]
     . simp(disch:=omega)[go_sem,hN,hC]
     . simp(disch:=omega)[go_sem,hN]
   . have ay:decide (cR l k=cR l k|||d)=false:=decide_eq_false he;obtain⟨ao,aa,h2,h3⟩:=qi kA tE hl k clock (cR l k|||d);simp(disch:=omega)[go_sem,ay,hB,hN];refine⟨_,tA (es:=es) (clock:=clock) (by simp(disch:=omega)[go_sem,hN,hM]) rfl h2, ?_⟩;simp(disch:=omega)[go_sem,hC,hN];intro T;refine hk _ T ao aa _ true h3 (.inr ⟨hz,rfl,λh=>he h.symm,rfl⟩) ?_ ?_ ?_ λi hi q1 q2=> ?_
     . simp[go_sem];omega
     . simp(disch:=omega)[go_sem,hN]
     . simp(disch:=omega)[go_sem,hN]
     . simp(disch:=omega)[go_sem,hN,q1,q2]
end Go.Sp
end
noncomputable section
open Go Go.aw Go.Proofs
namespace Go.Sp
set_option maxRecDepth 100000
structure An where
 g:ai
 dH:List Nat
def An.e(a:An):List DV:=a.g.e++[.sl 2 (a.dH.map λc=>(aF c).e)]
structure An.Ok(a:An):Prop where
 len:a.dH.length=a.g.ak.length
 lt:∀c∈a.dH,c<256
 ak:a.g.ak.length<=2000
 aH:a.g.aH.length<=2000
 left:∀p∈a.g.ak,0<=p.left/\p.left<a.g.aH.length
 right:∀p∈a.g.ak,p.right.length<=16
def zR(p:aR):Prop:=∀s∈p.right,s.tok=false
def tF(a:An)(NU:Int->Prop):Prop:=∀p∈a.g.ak,zR p->(∀s∈p.right,NU s.idx)->NU p.left
def qm(NU:Int->Prop)(l:List (Int×Nat)):Prop:=∀k,cR l k≠0->NU k
theorem DH(l:List (Int×Nat)):∀(syms:List Sym) (c:Nat),gl l c syms≠0->c≠0/\∀s∈syms,s.tok=false->cR l s.idx≠0
 |[],c,h=>⟨h,λs hs=>by cases hs⟩
 |s::r,c,h=>by
  have h':gl l (if s.tok=true\/c=0 then c else c&&&cR l s.idx) r≠0:=h;obtain⟨h1,h2⟩:=DH l r _ h';by_cases hs:s.tok=true\/c=0
  . rw[if_pos hs]at h1;refine⟨h1,λx hx ht=> ?_⟩;rcases List.mem_cons.1 hx with rfl|hx
    . rcases hs with hs|hs
      . rw[hs]at ht;cases ht
      . exact absurd hs h1
    . exact h2 x hx ht
  . rw[if_neg hs]at h1;refine⟨λhc=>hs (.inr hc),λx hx ht=> ?_⟩;rcases List.mem_cons.1 hx with rfl|hx
    . intro h0;rw[h0]at h1;simp at h1
    . exact h2 x hx ht
theorem Jx{a b:Nat}(h:a|||b≠a):a<a|||b:=Nat.lt_of_le_of_ne Nat.left_le_or (Ne.symm h)
set_option maxHeartbeats 4000000 in
theorem ads{K:cF}{dd:List FuncId}{h:ab}{Ba Be Bs B2 M C:Nat}{es:List bA}{clock:Nat}{l:List (Int×Nat)}{ch:Bool}(a:An)(ha:a.Ok)(NU:Int->Prop)(bw:tF a NU)
 (o1:Ba<Be) (o2:Be<M) (o3:M<Bs) (o4:Bs<B2) (o5:B2<C) (o6:C<h.next)
 (g1:h.get Ba=some (.row [.ptr a.e 0] true 0)) (g2:h.get Be=some (.row [bV true] true 0)) (g3:h.get M=some (.map es clock)) (g4:h.get Bs=some (.row [.v (.map (some M))] true 0)) (g5:h.get B2=some (.row [.v (.map (some M))] true 0)) (g6:h.get C=some (.row [bV ch] true 0))
 (hl:jz es l) (bx:j5 l) (bB:qm NU l)
 (hk:∀h' T bk aB l' aC,jz bk l'->j5 l'->qm NU l'->((l'=l/\aC=ch)\/(mu a.g.aH.length l'<mu a.g.aH.length l/\aC=true))->h.next<=h'.next->h'.get M=some (.map bk aB)->h'.get C=some (.row [bV aC] true 0)->(∀i,i<h.next->i≠M->i≠C->h'.get i=h.get i)->K (.bg []) dd h' T):
 aq E true K dd h (137,[.fn 163 [] [.v (.pointer (some ⟨B2,0,none⟩)),.v (.pointer (some ⟨C,0,none⟩))],.v (.pointer (some ⟨Ba,0,none⟩)),.v (.pointer (some ⟨Be,0,none⟩)),.v (.pointer (some ⟨Bs,0,none⟩))]):=by
 refine c8.frame [Ba,Be,M,Bs,B2,C] (by simp;omega) ?_;obtain⟨N,hN⟩:∃N,h.next=N:=⟨_,rfl⟩;refine im (K:=λv _ bl _=>∀af:ab,af.next=bl.next->(∀i,(i∈[Ba,Be,M,Bs,B2,C]\/h.next<=i)->af.get i=bl.get i)->(∀i,i<h.next->i∉[Ba,Be,M,Bs,B2,C]->af.get i=h.get i)->K v dd af [Ba,Be,M,Bs,B2,C]) (dd:=dd) WO rfl Tryz.ntmps137 Tryz.results137 ?_;simp only[fh,g1,g2,g3,g4,g5,g6];rw[hN]at o6⊢;have bO:=ha.ak;simp(disch:=omega)[go_sem,An.e,ai.e];obtain⟨aS,aL⟩:∃aS,aS=DV.fn 163 [] [.v (.pointer (some ⟨B2,0,none⟩)),.v (.pointer (some ⟨C,0,none⟩))]:=⟨_,rfl⟩;rw[<-aL];obtain⟨I,hI⟩:∃I:Nat->DS->Prop,∀j d,I j d↔∃(k P:Nat) (es:List bA) (clock:Nat) (l':List (Int×Nat)) (aC:Bool),j+k=a.g.ak.length/\N<=P/\jz es l'/\j5 l'/\qm NU l'/\((l'=l/\aC=ch)\/(mu a.g.aH.length l'<mu a.g.aH.length l/\aC=true))/\
  d=⟨bQ [(0,aS),(1,.v (.pointer (some ⟨Ba,0,none⟩))),(2,.v (.pointer (some ⟨Be,0,none⟩))),(3,.v (.pointer (some ⟨Bs,0,none⟩))),(13,.sl 13 (a.g.ak.map aR.e)),(14,iV a.g.ak.length),(15,iV k)],49,[],cK P [(Ba,.row [.ptr a.e 0] true 0),(Be,.row [bV true] true 0),(M,.map es clock),(Bs,.row [.v (.map (some M))] true 0),(B2,.row [.v (.map (some M))] true 0),(C,.row [bV aC] true 0)]⟩:=⟨_,λ_ _=>Iff.rfl⟩
 refine cx I a.g.ak.length ⟨_,aA.mk (N:=N) ?_ ?_ ?_,(hI _ _).2 ⟨0,N,es,clock,l,ch,rfl,Nat.le_refl _,hl,bx,bB,.inl ⟨rfl,rfl⟩,rfl⟩⟩ ?_
 . simp(disch:=omega)[go_sem]
 . simp(disch:=omega)[go_sem]
 . simp(disch:=omega)[go_sem,An.e,ai.e]
 . intro j ds bn;obtain⟨k,P,aO,aa,l1,aT,hj,hP,aU,ad,ao,av,rfl⟩:=(hI _ _).1 bn;clear bn;by_cases bo:k<a.g.ak.length
   . have aE:(k:Int)<a.g.ak.length:=by omega
     obtain⟨p,hx⟩:∃p,a.g.ak[k]? =some p:=⟨_,List.getElem?_eq_getElem bo⟩;have aX:=List.mem_of_getElem? hx;obtain⟨c,hc⟩:∃c,a.dH[k]? =some c:=⟨_,List.getElem?_eq_getElem (by rw[ha.len];exact bo)⟩;have bq:=ha.lt c (List.mem_of_getElem? hc);have az:=ha.left p aX;have bR:=ha.right p aX;simp(disch:=omega)[go_sem,aE,hx,-getElem?_pos,aR.e];obtain⟨J,hJ⟩:∃J:Nat->DS->Prop,∀j d,J j d↔∃(m P2:Nat),j+m=p.right.length/\P<P2/\(∀i s,i<m->p.right[i]? =some s->s.tok=false)/\
      d=⟨bQ [(0,aS),(1,.v (.pointer (some ⟨Ba,0,none⟩))),(2,.v (.pointer (some ⟨Be,0,none⟩))),(3,.v (.pointer (some ⟨Bs,0,none⟩))),(13,.sl 13 (a.g.ak.map aR.e)),(14,iV a.g.ak.length),(15,iV k),(5,iV k),(6,.v (.pointer (some ⟨P,0,none⟩))),(21,.sl 2 (p.right.map Sym.e)),(22,iV p.right.length),(23,iV m)],49,[],cK P2 [(Ba,.row [.ptr a.e 0] true 0),(Be,.row [bV true] true 0),(M,.map aO aa),(Bs,.row [.v (.map (some M))] true 0),(B2,.row [.v (.map (some M))] true 0),(C,.row [bV aT] true 0),(P,.row p.e true 0)]⟩:=⟨_,λ_ _=>Iff.rfl⟩
     refine cx J p.right.length ⟨_,aA.mk (N:=P+1) ?_ ?_ ?_,(hJ _ _).2 ⟨0,P+1,rfl,by omega,λi s hi=>by omega,rfl⟩⟩ ?_
     . simp(disch:=omega)[go_sem]
     . simp(disch:=omega)[go_sem,aR.e]
     . simp(disch:=omega)[go_sem,aR.e]
     . intro j2 bT bs;obtain⟨m,P2,bU,bW,bt,rfl⟩:=(hJ _ _).1 bs;clear bs;by_cases bD:m<p.right.length
       . have ay:(m:Int)<p.right.length:=by omega
         obtain⟨s,hs⟩:∃s,p.right[m]? =some s:=⟨_,List.getElem?_eq_getElem bD⟩;cases ht:s.tok with
         |true=>
          simp(disch:=omega)[go_sem,ay,hs,-getElem?_pos,Sym.e,ht,aD];refine⟨j-1,by omega,_,aA.mk (N:=P2+1) ?_ ?_ ?_,(hI _ _).2 ⟨k+1,P2+1,aO,aa,l1,aT,by omega,by omega,aU,ad,ao,av,rfl⟩⟩
          . simp(disch:=omega)[go_sem]
          . simp(disch:=omega)[go_sem]
          . simp(disch:=omega)[go_sem]
         |false=>
          simp(disch:=omega)[go_sem,ay,hs,-getElem?_pos,Sym.e,ht,aD];refine⟨j2-1,by omega,_,aA.mk (N:=P2+1) ?_ ?_ ?_,(hJ _ _).2 ⟨m+1,P2+1,by omega,by omega,λi s' hi aY=> ?_,rfl⟩⟩
          . simp(disch:=omega)[go_sem]
          . simp(disch:=omega)[go_sem,Sym.e]
          . simp(disch:=omega)[go_sem]
          . rcases Nat.lt_or_ge i m with h1|h1
            . exact bt i s' h1 aY
            . have:i=m:=by omega
              subst this;rw[hs]at aY;cases aY;exact ht
       . have ay:¬(m:Int)<p.right.length:=by omega
         have bu:zR p:=λs hs=>by
          obtain⟨i,hi⟩:=List.getElem?_of_mem hs;exact bt i s (by have:=(List.getElem?_eq_some_iff.1 hi).1;omega) hi
         simp(disch:=omega)[go_sem,ay];refine ck [ae 0,lH 0,dF 2,aJ 0,ae 8,ae 24,aJ 56,ae 0,ae 248,aJ 504,ae 0,aJ 1024,aJ 0,aN 8184,aN 16383] (by kernel_rfl) 0 rfl ?_;simp(disch:=omega)[go_sem,aR.e,An.e,ai.e,hc,-getElem?_pos,Dg.e];refine⟨by omega, ?_⟩;refine adj (es:=aO) (clock:=aa) (l:=l1) (by simp(disch:=omega)[go_sem]) (by simp(disch:=omega)[go_sem];try omega) aU ad bq (by omega) λN2 bF=> ?_;simp(disch:=omega)[go_sem]at bF;subst aL;simp(disch:=omega)[go_sem,Dg.e];refine⟨by omega, ?_⟩;have aZ:=zQ l1 p.right c bq;refine adq (M:=M) (B2:=B2) (C:=C) (es:=aO) (clock:=aa) (l:=l1) (k:=p.left) (d:=gl l1 c p.right) (ch:=aT) (by simp(disch:=omega)[go_sem]) (by simp(disch:=omega)[go_sem]) (by simp(disch:=omega)[go_sem]) (by simp(disch:=omega)[go_sem];try omega) (by simp(disch:=omega)[go_sem];try omega) (by simp(disch:=omega)[go_sem];try omega) (by omega) (by omega) (by omega) aU ad aZ λh2 T bG aI l2 bb bH au bI bK bL aQ=> ?_;simp(disch:=omega)[go_sem]at bI aQ;have bc:qm NU l2:=by
          rcases au with⟨rfl,_⟩|⟨bf,rfl,_,_⟩
          . exact ao
          . intro i hi;rw[DG]at hi
            split at hi
            . rename_i he;subst he;exact bw p aX bu λs hs=>ao _ ((DH l1 p.right c bf).2 s hs (bu s hs))
            . exact ao i hi
         have bh:j5 l2:=by
          rcases au with⟨rfl,_⟩|⟨bf,rfl,_,_⟩
          . exact ad
          . exact ad.put (xI (vy ad _) aZ)
         have bj:(l2=l/\bb=ch)\/(mu a.g.aH.length l2<mu a.g.aH.length l/\bb=true):=by
          rcases au with⟨rfl,rfl⟩|⟨bf,rfl,bN,rfl⟩
          . exact av
          . have:=Jw (l:=l1) az.1 az.2 (xI (vy ad p.left) aZ) (Jx bN);refine .inr ⟨?_,rfl⟩;rcases av with⟨rfl,_⟩|⟨h3,_⟩
            . exact this
            . omega
         simp(disch:=omega)[go_sem,aD];refine⟨j-1,by omega,_,aA.mk (N:=h2.next) rfl ?_ ?_,(hI _ _).2 ⟨k+1,h2.next,bG,aI,l2,bb,by omega,by omega,bH,bh,bc,bj,rfl⟩⟩
         . simp(disch:=omega)[go_sem]
         . simp(disch:=omega)[go_sem,bK,bL,aQ,An.e,ai.e,Dg.e]
   . have aE:¬(k:Int)<a.g.ak.length:=by omega
     simp(disch:=omega)[go_sem,aE];intro af q1 q2 q3;refine hk af _ aO aa l1 aT aU ad ao av (by omega) ?_ ?_ λi hi i1 i2=> ?_
     . have:=q2 M (.inl (by simp));simpa(disch:=omega)[go_sem]using this
     . have:=q2 C (.inl (by simp));simpa(disch:=omega)[go_sem]using this
     . by_cases z1:i=Ba
       . subst z1;have:=q2 i (.inl (by simp));rw[g1];simpa using this
       . by_cases z2:i=Be
         . subst z2;have:=q2 i (.inl (by simp));rw[g2];simpa(disch:=omega)[go_sem]using this
         . by_cases z3:i=Bs
           . subst z3;have:=q2 i (.inl (by simp));rw[g4];simpa(disch:=omega)[go_sem]using this
           . by_cases z4:i=B2
             . subst z4;have:=q2 i (.inl (by simp));rw[g5];simpa(disch:=omega)[go_sem]using this
             . exact q3 i (by omega) z1 z2 i1 z3 z4 i2
end Go.Sp
end
noncomputable section
open Go Go.aw Go.Proofs
namespace Go.Sp
set_option maxRecDepth 100000
set_option maxHeartbeats 4000000 in
theorem adt{K:cF}{dd:List FuncId}{h:ab}{Ba Be Bs M:Nat}{es:List bA}{clock:Nat}{l:List (Int×Nat)}(a:An)(ha:a.Ok)(NU:Int->Prop)(aE:tF a NU)
 (o1:Ba<Be) (o2:Be<M) (o3:M<Bs) (o4:Bs<h.next)
 (g1:h.get Ba=some (.row [.ptr a.e 0] true 0)) (g2:h.get Be=some (.row [bV true] true 0)) (g3:h.get M=some (.map es clock)) (g4:h.get Bs=some (.row [.v (.map (some M))] true 0))
 (hl:jz es l) (aU:j5 l) (aV:qm NU l)
 (hk:∀h' T aM ao l',jz aM l'->j5 l'->qm NU l'->h.next<=h'.next->h'.get M=some (.map aM ao)->(∀i,i<h.next->i≠M->h'.get i=h.get i)->K (.bg []) dd h' T):
 aq E true K dd h (136,[.v (.map (some M)),.fn 137 [] [.v (.pointer (some ⟨Ba,0,none⟩)),.v (.pointer (some ⟨Be,0,none⟩)),.v (.pointer (some ⟨Bs,0,none⟩))]]):=by
 refine c8.frame [Ba,Be,M,Bs] (by simp;omega) ?_;obtain⟨N,hN⟩:∃N,h.next=N:=⟨_,rfl⟩;refine im (K:=λv _ aN _=>∀ad:ab,ad.next=aN.next->(∀i,(i∈[Ba,Be,M,Bs]\/h.next<=i)->ad.get i=aN.get i)->(∀i,i<h.next->i∉[Ba,Be,M,Bs]->ad.get i=h.get i)->K v dd ad [Ba,Be,M,Bs]) (dd:=dd) WN rfl Tryz.ntmps136 Tryz.results136 ?_;simp only[fh,g1,g2,g3,g4];rw[hN]at o4⊢;simp(disch:=omega)[go_sem];obtain⟨aF,ay⟩:∃aF,aF=DV.fn 137 [] [.v (.pointer (some ⟨Ba,0,none⟩)),.v (.pointer (some ⟨Be,0,none⟩)),.v (.pointer (some ⟨Bs,0,none⟩))]:=⟨_,rfl⟩;rw[<-ay];obtain⟨I,hI⟩:∃I:Nat->DS->Prop,∀j d,I j d↔∃(P C:Nat) (es:List bA) (clock:Nat) (l':List (Int×Nat)) (ch:Bool),j=2*mu a.g.aH.length l'+(if ch then 1 else 0)/\N<C/\C<P/\jz es l'/\j5 l'/\qm NU l'/\
  d=⟨bQ [(1,aF),(2,.v (.pointer (some ⟨N,0,none⟩))),(4,.v (.pointer (some ⟨C,0,none⟩)))],10,[],cK P [(Ba,.row [.ptr a.e 0] true 0),(Be,.row [bV true] true 0),(M,.map es clock),(Bs,.row [.v (.map (some M))] true 0),(N,.row [.v (.map (some M))] true 0),(C,.row [bV ch] true 0)]⟩:=⟨_,λ_ _=>Iff.rfl⟩
 refine cx I (2*mu a.g.aH.length l+1) ⟨_,aA.mk (N:=N+2) ?_ ?_ ?_,(hI _ _).2 ⟨N+2,N+1,es,clock,l,true,rfl,by omega,by omega,hl,aU,aV,rfl⟩⟩ ?_
 . simp(disch:=omega)[go_sem]
 . simp(disch:=omega)[go_sem]
 . simp(disch:=omega)[go_sem,An.e,ai.e]
 . intro j ds aO;obtain⟨P,C,aQ,af,l1,ch,hj,hC,hP,aR,az,aB,rfl⟩:=(hI _ _).1 aO;clear aO;cases ch with
   |false=>
    simp(disch:=omega)[go_sem];intro ad q1 q2 q3;refine hk ad _ aQ af l1 aR az aB (by omega) ?_ λi hi i1=> ?_
    . have:=q2 M (.inl (by simp));simpa(disch:=omega)[go_sem]using this
    . by_cases z1:i=Ba
      . subst z1;have:=q2 i (.inl (by simp));rw[g1];simpa using this
      . by_cases z2:i=Be
        . subst z2;have:=q2 i (.inl (by simp));rw[g2];simpa(disch:=omega)[go_sem]using this
        . by_cases z3:i=Bs
          . subst z3;have:=q2 i (.inl (by simp));rw[g4];simpa(disch:=omega)[go_sem]using this
          . exact q3 i (by omega) z1 z2 i1 z3
   |true=>
    simp only[if_true]at hj;subst ay;simp(disch:=omega)[go_sem];refine ads (Ba:=Ba) (Be:=Be) (Bs:=Bs) (B2:=N) (M:=M) (C:=C) (es:=aQ) (clock:=af) (l:=l1) (ch:=false) a ha NU aE o1 o2 o3 (by omega) hC (by simp(disch:=omega)[go_sem];try omega) (by simp(disch:=omega)[go_sem]) (by simp(disch:=omega)[go_sem]) (by simp(disch:=omega)[go_sem]) (by simp(disch:=omega)[go_sem]) (by simp(disch:=omega)[go_sem]) (by simp(disch:=omega)[go_sem]) aR az aB λh2 T aI aa l2 aS aJ au av aC aL aD aT ae=> ?_;simp(disch:=omega)[go_sem]at aL ae;simp(disch:=omega)[go_sem,aT];refine⟨2*mu a.g.aH.length l2+(if aS then 1 else 0), ?_,_,aA.mk (N:=h2.next+1) ?_ ?_ ?_,(hI _ _).2 ⟨h2.next+1,h2.next,aI,aa,l2,aS,rfl,by omega,by omega,aJ,au,av,rfl⟩⟩
    . rcases aC with⟨rfl,rfl⟩|⟨h3,rfl⟩
      . simp;omega
      . simp;omega
    . simp(disch:=omega)[go_sem]
    . simp(disch:=omega)[go_sem]
    . simp(disch:=omega)[go_sem,aD,aT,ae]
theorem adu(NU:Int->Prop):qm NU []:=λk h=>absurd rfl h
theorem Jy{κ:Type}[DecidableEq κ]:j5 ([]:List (κ×Nat)):=λk c h=>by cases h
theorem adv{K:cF}{dd:List FuncId}{h:ab}(a:An)(ha:a.Ok)(NU:Int->Prop)(aE:tF a NU)
 (hk:∀h' T M es clock l,jz es l->j5 l->qm NU l->h.next<=M->M<h'.next->h'.get M=some (.map es clock)->(∀i,i<h.next->h'.get i=h.get i)->K (.v (.map (some M))) dd h' T):
 aq E true K dd h (94,[.ptr a.e 0,bV true]):=by
 obtain⟨N,hN⟩:∃N,h.next=N:=⟨_,rfl⟩;refine im Wj rfl Tryz.ntmps94 Tryz.results94 ?_;simp(disch:=omega)[go_sem,hN];refine adt (Ba:=N) (Be:=N+1) (M:=N+2) (Bs:=N+3) (es:=[]) (clock:=0) (l:=[]) a ha NU aE (by omega) (by omega) (by omega) (by simp(disch:=omega)[go_sem,hN];try omega) (by simp(disch:=omega)[go_sem,hN]) (by simp(disch:=omega)[go_sem,hN]) (by simp(disch:=omega)[go_sem,hN]) (by simp(disch:=omega)[go_sem,hN]) rfl Jy (adu NU) λh2 T aI aa l2 aJ au av aL aD ae=> ?_;simp(disch:=omega)[go_sem,hN]at aL ae;simp(disch:=omega)[go_sem,aD,ae];intro T2;refine hk h2 T2 (N+2) aI aa l2 aJ au av (by omega) (by omega) aD λi hi=> ?_;simp(disch:=omega)[ae,go_sem,hN]
end Go.Sp
end
noncomputable section
open Go Go.aw Go.Proofs
namespace Go.aw
variable {e:Env}
theorem c8.any{aj:Bool}{f:FuncId}{args:List DV}{dh:ab}{K:DV->ab->List Nat->Prop}(hc:c8 e true f args dh K):c8 e aj f args dh K:=by
 cases aj with
 |true=>exact hc
 |false=>
  intro G h vs x ha;obtain⟨v,h',h1,h2⟩:=hc G h vs x ha;exact h1.k h2
theorem aq.any{aj:Bool}{K:cF}{dd:List FuncId}{h:ab}{p:FuncId×List DV}(hc:aq e true K dd h p):aq e aj K dd h p:=c8.any hc
def lM(es:List bA)(clock:Nat):Prop:=(∀x∈es,x.born<clock)/\(es.map (·.born)).Nodup
theorem lM.nil(clock:Nat):lM [] clock:=⟨λ_ h=>(by cases h),List.nodup_nil⟩
theorem adw(es:List bA)(i:Nat)(k:Value)(d:DV):(es.modify i λx=>{x with key:=k,val:=d}).map (·.born)=es.map (·.born):=by
 induction es generalizing i with
 |nil=>cases i<;>rfl
 |cons x es ih=>cases i with
  |zero=>rfl
  |succ i=>simp only[List.modify_succ_cons,List.map_cons,ih]
theorem lM.up{ty:TypeId}{k:Value}{d:DV}{es ad:List bA}{clock aa:Nat}(hb:lM es clock)(hu:kT e ty k d es clock=some (.map ad aa)):lM ad aa:=by
 unfold kT at hu
 split at hu
 . split at hu
   . cases hu
   . split at hu
     . split at hu
       . cases hu
       . split at hu
         . cases hu;rename_i i _ _;have hm:=adw es i k d;refine⟨λx hx=> ?_,by rw[hm];exact hb.2⟩;have:x.born∈es.map (·.born):=by rw[<-hm];exact List.mem_map.2 ⟨x,hx,rfl⟩
           obtain⟨y,hy,ae⟩:=List.mem_map.1 this;rw[<-ae];exact hb.1 y hy
         . cases hu
       . cases hu;refine⟨λx hx=> ?_, ?_⟩
         . rcases List.mem_append.1 hx with hx|hx
           . have:=hb.1 x hx;omega
           . simp only[List.mem_singleton]at hx;subst hx;exact Nat.lt_succ_self _
         . rw[List.map_append,List.nodup_append];refine⟨hb.2,by simp,λa ha b af ai=> ?_⟩;simp only[List.map_cons,List.map_nil,List.mem_singleton]at af;obtain⟨y,hy,ao⟩:=List.mem_map.1 ha;have:=hb.1 y hy;omega
     . cases hu
 . cases hu
end Go.aw
namespace Go.Sp
set_option maxRecDepth 100000
theorem adx:E.under 179=some (.array 2 3):=by kernel_rfl
theorem xJ:E.under 177=some (.map 179 33):=by kernel_rfl
theorem rN:E.under 181=some (.map 3 105):=by kernel_rfl
theorem DJ:E.zero 105=some (.slice none 0 0):=by kernel_rfl
def rO(x:Int×Int):Value:=.agg #[.int .i64 x.1,.int .i64 x.2]
theorem ady(d:Nat)(a b a' b':Int):bY Tryz.prog (Op.equalIn (d+1+1) 179 (.agg #[.int .i64 a,.int .i64 b]) (.agg #[.int .i64 a',.int .i64 b']))=some (decide (a=a')&&decide (b=b')):=by
 rw[Op.equalIn];by_cases h1:a=a'<;>by_cases h2:b=b'<;>
  simp[h1,h2,mO,vh _ _ Tryz.underlying179,vi,tz,zy,IP,eq_int d 3 .i64 _ _ Tryz.underlying3,List.range',Std.Legacy.Range.forIn_eq_forIn_range',Std.Legacy.Range.size]
theorem adz(a b a' b':Int):bY Tryz.prog (Op.equal 179 (.agg #[.int .i64 a,.int .i64 b]) (.agg #[.int .i64 a',.int .i64 b']))=some (decide (a=a')&&decide (b=b')):=by
 obtain⟨d,hd⟩:=zz;unfold Op.equal;rw[hd];exact ady d a b a' b'
theorem zS:kP E 179 rO:=by
 refine⟨⟨_,adx,λk=>rfl⟩,λk=>rfl,λk b=>⟨(),by kernel_rfl⟩,λa b=> ?_,λk=>by simp[rO,Instr.sameBits]⟩;obtain⟨a1,a2⟩:=a;obtain⟨b1,b2⟩:=b;show bY Tryz.prog (Op.equal 179 (rO _) (rO _))=_;rw[rO,rO,adz];congr 1;simp only[Prod.mk.injEq,Bool.decide_and]
abbrev zT(es:List bA)(l:List ((Int×Int)×Nat)):Prop:=fC rO (λc:Nat=>.agg (aF c).e) es l
theorem adA{aj:Bool}{K:cF}{dd:List FuncId}{h:ab}{r:Nat}{es:List bA}{clock:Nat}{l:List ((Int×Int)×Nat)}{x y:Int}(hm:h.get r=some (.map es clock))(hr:r<h.next)(hl:zT es l)
 (hk:∀N,h.next<=N->K (.agg (aF (cR l (x,y))).e) dd (h.up N) [r]):aq E aj K dd h (98,[.v (.map (some r)),.agg [iV x,iV y]]):=by
 refine vx [r] Wm rfl Tryz.ntmps98 Tryz.results98 ?_;simp only[fh,hm];cases ha:bf l (x,y)with
 |none=>
  have h1:=tw zS xJ hl (x,y) true Js rfl ha;have hg:cR l (x,y)=0:=by simp[cR,ha]
  rw[hg,Jt]at hk;simp(disch:=omega)[go_sem];refine⟨_,mi (es:=es) (clock:=clock) (by simp(disch:=omega)[go_sem]) rfl h1, ?_⟩;simp(disch:=omega)[go_sem,fX];refine aq.mk (DF false) λM hM=> ?_;simp(disch:=omega)[go_sem]at hM;simp(disch:=omega)[go_sem,Dg.e]at hk⊢;exact⟨hm.symm,hk M (by omega)⟩
 |some c=>
  have h1:=tu zS xJ hl (x,y) true ha;have hg:cR l (x,y)=c:=by simp[cR,ha]
  rw[hg]at hk;simp(disch:=omega)[go_sem];refine⟨_,mi (es:=es) (clock:=clock) (by simp(disch:=omega)[go_sem]) rfl h1, ?_⟩;simp(disch:=omega)[go_sem,Dg.e]at hk⊢;exact⟨hm.symm,hk _ (by omega)⟩
end Go.Sp
end

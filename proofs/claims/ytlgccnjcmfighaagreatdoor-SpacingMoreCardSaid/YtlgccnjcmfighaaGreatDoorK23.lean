/- SpacingMore: for all that a grammar and its leaves are made of the call returns true; the table math/bits.deBruijn64tab starts as the text lays it. -/
import Derived.Test.YtlgccnjcmfighaaGreatDoorCards
import Derived.Test.YtlgccnjcmfighaaGreatDoorTie
import Derived.Lib.LaidTab
import Derived.Test.YtlgccnjcmfighaaGreatDoorK21
open List renaming replicate->qG,all_eq_true->yy,mem_range->FQ,foldl_cons->KE,length_replicate->RK,range->RW,mem_append->Vs,take_succ_cons->Xy,any_eq_true->Zf,mem_cons->ab8,mem_filter->adr,mem_map->adv,getElem?_append_left->afv,cons_append->afw,getElem?_map->afx,mem_of_getElem?->afy,append_nil->afz,mem_singleton->afA,not_mem_nil->afB
open Bool renaming and_eq_true->yB,not_eq_true'->RC,false_or->YN,or_eq_true->YT
open BitVec renaming ofInt->E2
open Option.some renaming inj->afj
set_option linter.all false
set_option maxRecDepth 100000
noncomputable section
open Go Go.aD Go.Proofs
namespace Go.Sp
def afk(sm:Int->Nat->Dg)(g:aq)(x:Rl):(ja sm g x).au[9]? =g.au[9]? :=by
 unfold ja kp;simp only
 split
 . split<;>rfl
 . split
   . split<;>rfl
   . split
     . rfl
     . split
       . rfl
       . unfold js;simp only;have h9:¬(x.a%9).toNat=9:=aa;rw[List.getElem?_modify];simp[h9]
def afl(sm:Int->Nat->Dg)(g:aq)(l:Ln)(k:Bool):(fO sm g l k).au[9]? =g.au[9]? :=by
 unfold fO;simp only
 split<;>rfl
def Ei{α:Type}(f:aq->α->aq)(hf:∀g x,(f g x).au[9]? =g.au[9]?):∀(l:List α) (g:aq),(l.foldl f g).au[9]? =g.au[9]?
 |[],_=>rfl
 |x::l,g=>by rw[KE,Ei f hf l,hf]
def afm(x:cM):(cB bA x).au[9]? =some mw:=by
 unfold cB;simp only;rw[Ei _ (afk _),Ei _ (λg l=>afl _ g l _)];have h1:(iI bA x (iH x)).au[9]? =(iH x).au[9]? :=by unfold iI;simp only;split<;>rfl
 rw[h1];have hc:([Ch,Ci,Cj,Ck,Cl,Cm].map λg=>g.au[9]?)=qG 6 (some mw):=ak;simp only[List.map_cons,List.map_nil,qG,List.cons.injEq,and_true]at hc;obtain⟨h1,h2,h3,h4,h5,h6⟩:=hc;unfold iH ic
 split
 . split
   . exact h1
   . split
     . exact h2
     . split
       . exact h3
       . split
         . exact h4
         . split
           . exact h5
           . exact h6
 . rfl
def Ej(r:dP)(hr:r.Ok)(h5:bW r.marks 5=false):(bG r).au[9]? =some mw:=by
 have aI:=(pO r.x hr.x).room.au;rw[(KX r hr).1,h5];show((cB bA r.x).au++_)[9]? =_;rw[afv aa];exact afm r.x
def uR(m:cN):Nat->List UInt8->Bool
 |_,[]=>false
 |now,b::r=>if(eI m b.toNat now).1=0 then true else uR m (eI m b.toNat now).2 r
def Lx(m:cN)(Y:List UInt8):∀(w:List UInt8) (now:Nat),uR m now w=true->iy m now (w++Y)=false
 |[],_,h=>by cases h
 |b::r,now,h=>by
  rw[uR]at h;rw[afw];unfold iy
  split
  . rfl
  . rename_i h0;rw[if_neg h0]at h;have ih:=Lx m Y r _ h;cases hr:r++Y with
    |nil=>
     obtain⟨rfl,-⟩:=List.append_eq_nil_iff.1 hr;cases h
    |cons c r'=>rw[hr]at ih;exact ih
def sW:List ByteArray:=mI.map (·.2)++(lits++iv)
def mJ(t:Tok):Bool:=(lits++iv).any (λs=>decide (t.lit=s))||(decide (t.lit=⟨#[]⟩)&& !decide (eU t.pat=eU pP)&& !decide (eU t.pat=eU qK))
def afn{t t':Tok}(h:t.strip=t'.strip):mJ t=mJ t':=by
 obtain⟨_,h2,h3,_⟩:=DY h;unfold mJ;rw[h2,h3]
def Ek(r:dP)(hr:r.Ok)(h5:bW r.marks 5=false)(k:Nat)(t:Tok)(hk:(bG r).au[k]? =some t)(h9:k≠9):mJ t=true:=by
 have hs:=(uH r hr).strip;have an:((au++gu r.marks (cB bA r.x).conds.length).map Tok.strip)[k]? =some t.strip:=by rw[<-hs,afx,hk];rfl
 rw[afx]at an;obtain⟨t0,h0,h1⟩:=Option.map_eq_some_iff.1 an;rw[afn h1.symm];rcases Nat.lt_or_ge k 11 with ae|ae
 . have hc:((RW 11).all λk=>decide (k=9)||(match au[k]? with|some t=>mJ t|none=>true))=true:=ak;have h2:=yy.1 hc k (FQ.2 ae);rw[afv (show k<au.length from ae)]at h0;rw[h0]at h2;simpa[h9]using h2
 . rw[List.getElem?_append_right (show au.length<=k from ae)]at h0;have hm:=afy h0;unfold gu at hm;rw[h5]at hm;simp only[Bool.false_and,Bool.false_eq_true,if_false,afz,Vs]at hm;rcases hm with(hm|hm)|hm
   . have:=(pU _ _ (pU _ _ (pU _ _ (List.Sublist.refl [])))).subset (by rw[J5]at hm;exact hm);have hc:([fN ⟨#[43,43]⟩,fN ⟨#[43,42]⟩,fN ⟨#[105,102,43]⟩].all mJ)=true:=ak;exact yy.1 hc _ this
   . split at hm
     . obtain rfl:=afA.1 hm;have hc:mJ (pR (aW true))=true:=ak;exact hc
     . cases hm
   . split at hm
     . obtain rfl:=afA.1 hm;have hc:mJ pS=true:=ak;exact hc
     . cases hm
def Ly:∀s∈lits++iv,(32:UInt8)∉s.data.toList/\s.data.toList≠[]:=by
 have h:((lits++iv).all λs=>s.data.toList.all (λb=> !decide (b=32))&& !s.data.toList.isEmpty)=true:=ak;intro s hs;have h2:=yy.1 h s hs;rw[yB,yy]at h2;refine⟨λaz=> ?_,λhe=> ?_⟩
 . have:=h2.1 32 az;simp at this
 . rw[he]at h2;cases h2.2
def zD(X:ByteArray):(fq++X).data.toList=32::X.data.toList:=by rw[jA];rfl
def afo(r:dP)(hr:r.Ok)(h5:bW r.marks 5=false)(c:Nat){u:ByteArray}(hu:u∈sW)(X:ByteArray):D5 (bG r) c u (fq++X):=by
 intro k hk t ht n h0 hn;obtain⟨Y,hY⟩:∃Y,(u++(fq++X).extract 0 n).data.toList=(u.data.toList++[32])++Y:=by
  obtain⟨n,rfl⟩:∃m,n=m+1:=⟨n-1,aa⟩;exact⟨X.data.toList.take n,by rw[jA,uN,zD,Xy];simp⟩
 have ao:(u++(fq++X).extract 0 n).data.toList≠[]:=by rw[hY];simp
 have ad:(ep.all λm=>decide (eU m.p=eU pP)||sW.all λu=>uR m m.first (u.data.toList++[32]))=true:=ak;have ai:t.lit∈lits++iv->t.lit≠u++(fq++X).extract 0 n/\t.lit≠⟨#[]⟩:=λhm=>by
  obtain⟨q1,q2⟩:=Ly _ hm;refine⟨λhe=>q1 ?_,λhe=>q2 ?_⟩
  . rw[he,hY];simp
  . rw[he]
 have af:t.lit=⟨#[]⟩->eU t.pat≠eU pP->t.lit≠u++(fq++X).extract 0 n/\(t.lit=⟨#[]⟩->∀m∈ep,t.pat=m.p->mG m (u++(fq++X).extract 0 n)=false):=λhe ho=>by
  refine⟨λh=>ao (by rw[<-h,he]),λ_ m hm hp=> ?_⟩;have h2:=yy.1 ad m hm;rw[<-hp]at h2;simp only[ho,decide_false,YN]at h2;rw[K4 m _ ao,hY];exact Lx m Y _ _ (yy.1 h2 u hu)
 by_cases h9:k=9
 . subst h9;rw[Ej r hr h5]at ht;cases ht;exact af rfl (of_decide_eq_false (show decide (eU qK = eU pP) = false from ak))
 . have ab:=Ek r hr h5 k t ht h9;unfold mJ at ab;rw[YT]at ab;rcases ab with ab|ab
   . obtain⟨s,s1,s2⟩:=Zf.1 ab;obtain⟨q1,q2⟩:=ai (by rw[of_decide_eq_true s2];exact s1);exact⟨q1,λh=>absurd h q2⟩
   . simp only[yB,decide_eq_true_eq,RC,decide_eq_false_iff_not]at ab;exact af ab.1.1 ab.1.2
def afp{t:Tok}(hp:t.lit=⟨#[]⟩->∃m∈ep,t.pat=m.p)(ab:mJ t=true)(X:ByteArray):fm t (fq++X)=0:=by
 have ad:(ep.all λm=>decide (eU m.p=eU pP)||decide (eU m.p=eU qK)||decide ((eI m 32 m.first).1=0))=true:=ak;unfold mJ at ab;rw[YT]at ab;rcases ab with ab|ab
 . obtain⟨s,s1,s2⟩:=Zf.1 ab;obtain⟨q1,q2⟩:=Ly _ s1;rw[<-of_decide_eq_true s2]at q1 q2;have h0:¬t.lit=⟨#[]⟩:=λh=>q2 (by rw[h]);unfold fm;rw[if_neg h0];cases hb:gV (fq++X) t.lit with
   |false=>rfl
   |true=>
    exfalso;rw[sP,zD]at hb;obtain⟨n,hn⟩:∃n,t.lit.data.toList.length=n+1:=⟨t.lit.data.toList.length-1,by have:=List.length_pos_iff.2 q2;omega⟩;rw[hn,Xy]at hb;exact q1 (by rw[<-hb];simp)
 . simp only[yB,decide_eq_true_eq,RC,decide_eq_false_iff_not]at ab;obtain⟨m,m1,m2,m3⟩:=zq (s:=fq++X) ab.1.1 (hp ab.1.1);have h2:=yy.1 ad m m1;rw[<-m2]at h2;simp only[ab.1.2,ab.2,decide_false,YN,decide_eq_true_eq]at h2;rw[m3];unfold kU;rw[zD];show runM m iu m.first 0 (32::X.data.toList) 0=0;unfold runM;exact if_pos h2
def afq{X:ByteArray}(hX:X=⟨#[]⟩\/∃u∈sW,∃Y,X=u++Y):fm mw (fq++X)=1:=by
 obtain⟨m,m1,m2,m3⟩:=zq (t:=mw) (s:=fq++X) rfl ⟨_,gw 1 zf rfl,rfl⟩;rw[m3];have hm:(ep.all λm=> !decide (eU m.p=eU qK)||(!decide ((eI m 32 m.first).1=0)&&decide ((eI m 32 m.first).1&&&m.last≠0)&&sW.all λu=>uR m (eI m 32 m.first).2 (u.data.toList.take 1)))=true:=ak;have h2:=yy.1 hm m m1;rw[<-m2]at h2;have aC:eU mw.pat=eU qK:=rfl;simp only[aC,decide_true,Bool.not_true,YN,yB,RC,decide_eq_false_iff_not,decide_eq_true_eq]at h2;obtain⟨⟨q1,q2⟩,q3⟩:=h2;unfold kU;rw[zD];have e1:runM m iu m.first 0 (32::X.data.toList) 0=runM m iu (eI m 32 m.first).2 1 X.data.toList 1:=by
  conv=>lhs;unfold runM
  show(if(eI m 32 m.first).1=0 then _ else runM m iu (eI m 32 m.first).2 1 X.data.toList (iu 0 1 (decide ((eI m 32 m.first).1&&&m.last≠0))))=_;rw[if_neg q1,decide_eq_true q2];rfl
 rw[e1];rcases hX with rfl|⟨u,hu,Y,rfl⟩
 . rfl
 . have h3:=yy.1 q3 u hu;rw[jA];cases hb:u.data.toList with
   |nil=>rw[hb]at h3;cases h3
   |cons b w=>
    rw[hb,Xy,List.take_zero,uR]at h3
    split at h3
    . rename_i h0;rw[afw];unfold runM;exact if_pos h0
    . cases h3
def Lz(g:aq)(s:ByteArray)(h9:lenOf g s 9=1):∀(l:List Nat),(∀k∈l,k≠9->lenOf g s k=0)->l.Nodup->(fp g s l (1,[9])=(1,[9])\/9∈l)/\(9∈l->fp g s l (0,[])=(1,[9]))
 |[],_,_=>⟨.inl rfl,λh=>by cases h⟩
 |k::l,hl,hn=>by
  obtain⟨n1,n2⟩:=List.nodup_cons.1 hn;obtain⟨i1,i2⟩:=Lz g s h9 l (λk' h=>hl k' (by simp[h])) n2;by_cases hk:k=9
  . subst hk;refine⟨.inr aw,λ_=> ?_⟩;rcases i1 with i1|i1
    . simp only[fp,KE,h9]at i1⊢;exact i1
    . exact absurd i1 n1
  . have h0:=hl k aw hk;refine⟨?_,λh=> ?_⟩
    . rcases i1 with i1|i1
      . left;simp only[fp,KE,h0]at i1⊢;exact i1
      . right;simp[i1]
    . have h:=i2 (by rcases ab8.1 h with h|h;exact absurd h.symm hk;exact h);simp only[fp,KE,h0]at h⊢;exact h
def afr(r:dP)(hr:r.Ok)(h5:bW r.marks 5=false){c:Nat}(hc:c<8){X:ByteArray}(hX:X=⟨#[]⟩\/∃u∈sW,∃Y,X=u++Y):ox (bG r) c X=true:=by
 have ht:=Ej r hr h5;have ah:=zx r hr;have aF:((RW 8).all (er (aW true)))=true:=ak;have h9:9∈fQ (bG r) c:=by
  refine adr.2 ⟨FQ.2 (List.getElem?_eq_some_iff.1 ht).1, ?_⟩;rw[ht];exact yy.1 aF c (FQ.2 hc)
 have hf:firstM (bG r) c (fq++X)=(1,[9]):=by
  refine(Lz _ _ ?_ _ (λk hk aG=> ?_) (List.nodup_range.filter _)).2 h9
  . unfold lenOf;rw[ht];exact afq hX
  . unfold lenOf;cases hq:(bG r).au[k]? with
    |none=>rfl
    |some t=>exact afp (ah.pat t (afy hq)) (Ek r hr h5 k t hq aG) X
 unfold ox;rw[hf];simp only[fS,ht];rfl
def afs(r:dP)(hr:r.Ok)(h5:bW r.marks 5=false)(c:Nat):∀l∈ku r c,l.text∈sW:=by
 intro l hl;obtain⟨h1,h2⟩:=adr.1 hl;obtain⟨b,hb,rfl⟩:=adv.1 h1;have aH:=hr.leaves b (List.mem_of_mem_take hb);unfold kr at h2;cases ht:(bG r).au[(fT (bG r).au b).tok]? with
 |none=>rw[ht]at h2;cases h2
 |some t=>
  simp only[ht,kX,yB,decide_eq_true_eq]at h2;have av:(fT (bG r).au b).text=jY t (fT (bG r).au b).tok b:=by
   show jY (((bG r).au[(b%(bG r).au.length).toNat]?).getD iG) _ b=_;have:(bG r).au[(b%(bG r).au.length).toNat]? =some t:=ht;rw[this];rfl
  by_cases h0:t.lit=⟨#[]⟩
  . obtain⟨q,q1,q2,q3⟩:=DZ r hr _ t b ht aH h2.1.1 h0;rw[av,q3];exact Vs.2 (.inl (adv.2 ⟨q,q1,rfl⟩))
  . rw[av];unfold jY;rw[if_neg h0];refine Vs.2 (.inr ?_);by_cases h9:(fT (bG r).au b).tok=9
    . rw[h9,Ej r hr h5]at ht;cases ht;exact absurd rfl h0
    . have ab:=Ek r hr h5 _ t ht h9;unfold mJ at ab;rw[YT]at ab;rcases ab with ab|ab
      . obtain⟨s,s1,s2⟩:=Zf.1 ab;rw[of_decide_eq_true s2];exact s1
      . simp only[yB,decide_eq_true_eq]at ab;exact absurd ab.1.1 h0
def LA{g:aq}(hg:kV g){c:Nat}{l:Lf}{v:ByteArray}(h:gD g c (l.text++v) l=true):gD g c l.text l=true:=by
 have h1:(firstM g c (l.text++v)).1=l.text.size:=by
  unfold gD at h;simp only[yB,decide_eq_true_eq]at h;exact h.1.1.1
 have h2:=aeF hg (Nat.le_of_eq h1);unfold gD at h⊢;rw[<-h2];exact h
def LB(r:dP)(hr:r.Ok)(h5:bW r.marks 5=false){c:Nat}(hc:c<8):∀{L:List Lf} {gs:List Bool} {t:ByteArray},dL (bG r) c L=some (gs,t)->(∀l∈L,l.text∈sW)->sS (bG r) c L (qG L.length true)
 |[],_,_,_,_=>trivial
 |l::L,gs,t,h,hL=>by
  have ah:=zx r hr;simp only[dL]at h
  split at h
  . cases h
  . rename_i aJ rest hq;have hb:gD (bG r) c l.text l=true:=by
     split at h
     . rename_i hb;exact LA ah hb
     . split at h
       . rename_i hb;rw[yB,zz]at hb;exact LA ah hb.1
       . cases h
    refine⟨?_,λ_=>afr r hr h5 hc ?_,LB r hr h5 hc hq λl' h'=>hL l' (by simp[h'])⟩
    . show gD (bG r) c (l.text++(fq++_)) l=true;rw[aeC ah (afo r hr h5 c (hL l aw) _)];exact hb
    . cases L with
      |nil=>exact .inl rfl
      |cons l2 L2=>exact .inr ⟨l2.text,hL l2 aw,_,rfl⟩
def aft(m:Int)(h0:0<=m)(h1:m<256):∃m':Int,IntKind.u8.wrap ((E2 IntKind.u8.bits m&&&E2 IntKind.u8.bits 31).toNat:Nat)=m'/\0<=m'/\m'<256/\bW m' 5=false:=by
 have hc:((RW 256).all λ(k:Nat)=>decide (0<=IntKind.u8.wrap ((E2 IntKind.u8.bits (k:Int)&&&E2 IntKind.u8.bits 31).toNat:Nat))&&decide (IntKind.u8.wrap ((E2 IntKind.u8.bits (k:Int)&&&E2 IntKind.u8.bits 31).toNat:Nat)<256)&& !bW (IntKind.u8.wrap ((E2 IntKind.u8.bits (k:Int)&&&E2 IntKind.u8.bits 31).toNat:Nat)) 5)=true:=ak;obtain⟨k,rfl⟩:∃k:Nat,m=k:=⟨m.toNat,aa⟩;have h2:=yy.1 hc k (FQ.2 aa);simp only[yB,decide_eq_true_eq,RC]at h2;exact⟨_,rfl,h2.1.1,h2.1.2,h2.2⟩
set_option maxHeartbeats 8000000 in
def afu(r:dP)(hr:r.Ok):aE E true 4 [.agg r.e] (bV true):=by
 obtain⟨m',ba,bb,bc,h5⟩:=aft r.marks hr.marks.1 hr.marks.2;have hand:∀ty x y,cO E .and ty x y (.int .u8 r.marks) (.int .u8 31)=some (.int .u8 m'):=λty x y=>by rw[BL,ba]
 obtain⟨r',aq⟩:∃r':dP,r'={r with marks:=m'}:=⟨_,rfl⟩;have an:r'.Ok:=by subst aq;exact⟨hr.x,⟨bb,bc⟩,hr.config,hr.leaves⟩
 have aN:bW r'.marks 5=false:=by subst aq;exact h5
 have h3:(bG r').conds.length<=3:=by rw[(qW r').1];have:=(pO r'.x an.x).room.conds;omega
 obtain⟨c,hc,aH⟩:=Kj (bG r') (wI r' an).cW h3 r'.config an.config;have aQ:c<8:=FQ.1 (adr.1 hc).1;have ad:=KZ r' an c aQ aH;have ae:=K2 r' an c hc 0;rw[List.drop_zero]at ae;have ab:=Lu r' an c hc;have hlen:=D3 r' c;have af:=Lt r' an c;have bd:=afs r' an aN c;have ai:=λgs t h=>LB r' an aN aQ (L:=ku r' c) (gs:=gs) (t:=t) h bd;have az:r'.e=[uV r.x.base,uV r.x.n,.sl 1 (r.x.family.map λb=>[uV b]),.sl 4 (r.x.lines.map Ln.e),.sl 5 (r.x.rules.map Rl.e),uV m',uV r.config,.sl 1 (r.leaves.map λb=>[uV b])]:=by subst aq;rfl
 obtain⟨L,hL⟩:∃L,ku r' c=L:=⟨_,rfl⟩;obtain⟨G,hG⟩:∃G,bG r'=G:=⟨_,rfl⟩;rw[hL]at ad ae hlen af ab ai;rw[hG]at ad ae af ab ai;have bf:r.e=[uV r.x.base,uV r.x.n,.sl 1 (r.x.family.map λb=>[uV b]),.sl 4 (r.x.lines.map Ln.e),.sl 5 (r.x.rules.map Rl.e),uV r.marks,uV r.config,.sl 1 (r.leaves.map λb=>[uV b])]:=rfl;obtain⟨aS,aJ⟩:∃aS,r'.e=aS:=⟨_,rfl⟩;rw[aJ]at ad az;rw[bf];have ao:G.e=[strs G.conds,.sl 3 (G.family.nodes.map cL),iV G.family.root,.sl 7 (G.au.map Tok.e),strs G.aP,.sl 13 (G.ay.map aX.e),iV G.start,.sl 4 (G.bn.map dg.e),.sl 9 (G.aZ.map bk.e)]:=rfl;obtain⟨ge,aK⟩:∃ge,G.e=ge:=⟨_,rfl⟩;rw[aK]at ad ae ao ab;refine qM Tryz.ntmps4 Tryz.results4 λN=> ?_;refine du ?_;refine aL ?_;refine du ?_;refine aL ?_;refine ax.mk KU λM0=>dI λbo=> ?_;refine du ?_;simp(disch:=omega)[go_sem,hand];refine du ?_;refine aL ?_;rw[<-az];refine ax.mk ad λM1=>aT λbp=> ?_;simp(disch:=omega)[go_sem,ao];rw[<-ao];refine du ?_;simp(disch:=omega)[go_sem,ao];rw[<-ao];refine ax.mk ae λM2=>aT λbq=> ?_;cases bg:dL G c L with
 |none=>
  simp(disch:=omega)[go_sem,pV];refine du ?_;exact ah
 |some q=>
  obtain⟨gs,t⟩:=q;obtain⟨C,aU⟩:=ab L (qG L.length true) (λl h=>h) hlen (by rw[RK];exact hlen);rw[Lb (ai gs t bg) af]at aU;simp(disch:=omega)[go_sem,pV];refine du ?_;refine aL ?_;refine du ?_;refine aL ?_;refine DD (n:=L.length) Kx s4 By b4 rfl aC aC ah ah aa ?_;have bj:List.map DV.v (ey (Value.bool false).cells.toList (L.length*1))=qG L.length (bV false):=Ky L.length;rw[bj];obtain⟨V,hV⟩:∃V:DS->Prop,∀d,V d↔∃R P,M1<R/\R<P/\d=⟨bw [(3,bV true),(4,aI M1),(5,cV c),(6,.sl 4 (L.map Lf.e)),(9,.v (.slice (some ⟨R,0,none⟩) L.length L.length))],56,[],cj P [(M1,.row ge true 0),(R,.row (qG L.length (bV true)) true 0)]⟩:=⟨_,λ_=>Iff.rfl⟩;refine aL ?_;refine iJ V ?_ ?_
  . refine aL ?_;obtain⟨I,hI⟩:∃I:Nat->DS->Prop,∀j d,I j d↔∃(k P:Nat),j+k=L.length/\M2<P/\d=⟨bw [(3,bV true),(4,aI M1),(5,cV c),(6,.sl 4 (L.map Lf.e)),(9,.v (.slice (some ⟨M2,0,none⟩) L.length L.length)),(10,iV (k:Nat))],56,[],cj P [(M1,.row ge true 0),(M2,.row (qG k (bV true)++qG (L.length-k) (bV false)) true 0)]⟩:=⟨_,λ_ _=>Iff.rfl⟩;refine bS I L.length ⟨_,aB.mk (N:=M2+1) ah ah ?_,(hI _ _).2 ⟨0,M2+1,rfl,aa,rfl⟩⟩ ?_
    . simp(disch:=omega)[go_sem,ao]
    . intro j ds aW;obtain⟨k,P,hj,hP,rfl⟩:=(hI _ _).1 aW;clear aW;by_cases bs:k<L.length
      . have av:(k:Int)<L.length:=aa;have aM:(qG k (bV true)++qG (L.length-k) (bV false)).length=L.length:=by rw[List.length_append,RK,RK];omega
        have aF:(qG k (bV true)++qG (L.length-k) (bV false)).take k++bV true::(qG k (bV true)++qG (L.length-k) (bV false)).drop (k+1)=qG (k+1) (bV true)++qG (L.length-(k+1)) (bV false):=by
         rw[List.take_left' aw,List.drop_append,List.drop_of_length_le aw,List.nil_append,RK,List.drop_replicate,List.replicate_succ',List.append_assoc];congr 3;omega
        obtain⟨row,hr⟩:∃row,qG k (bV true)++qG (L.length-k) (bV false)=row:=⟨_,rfl⟩;rw[hr]at aM aF⊢;have bm:k+1<=row.length:=aa;simp(disch:=omega)[go_sem,av,bm,aG,aF];exact⟨j-1,aa,_,aB.mk (N:=P) ah ah ah,(hI _ _).2 ⟨k+1,P,aa,hP,rfl⟩⟩
      . have av:¬(k:Int)<L.length:=aa;obtain rfl:k=L.length:=aa;rw[Nat.sub_self,List.replicate_zero,afz];simp(disch:=omega)[go_sem,av];exact⟨_,aB.mk (N:=P) ah ah ah,(hV _).2 ⟨M2,P,aa,aa,rfl⟩⟩
  . intro d hd;obtain⟨R,P,hR,hP,rfl⟩:=(hV _).1 hd;clear hd;refine qN ?_;simp(disch:=omega)[go_sem,ao];rw[<-ao];refine ax.pl aU (.cons (.refl _) (.cons (.refl _) (.cons (.refl _) (.cons ?_ .nil)))) λM3 aY=> ?_
    . refine dY (aj:=0) (ck (wr:=true) ?_) (.inl rfl) aC aw (Nat.le_refl _) λx hx=>by obtain⟨y,_,rfl⟩:=adv.1 hx;rfl
      rw[zC];exact ah
    replace aY:=cq aY;exact ah
end Go.Sp
end
noncomputable section
namespace Go.Proofs.YtlgccnjcmfighaaGreatDoor.more
open Go.ChangeShapes Go.WideShapes Go.ChangeAt Go.RowKit Go.Joins Go.aD
theorem own:ownKnob Tryz.prog.godebug=none:=ak
theorem laidOut:laidOutB Tryz.prog=true:=ak
theorem wU:Tryz.prog.globalNamed "math/bits.deBruijn64tab" =some dW:=ak
theorem Eb:(Tryz.prog.globals[dW]?).map (·.type)=some 275:=ak
theorem Ec:Tryz.prog.cellsOf 275=64:=ak
theorem jX:Tryz.prog.cellsOf 5=1:=ak
theorem readable:∀t∈Tryz.f4.params.toList,Tryz.prog.readableRec t=true/\t<Tryz.prog.types.size:=by
 rw[Tryz.params4];intro t ht;have ht:t∈[28]:=ht;simp only[ab8,afB,or_false]at ht;subst ht;exact⟨ak,of_decide_eq_true ak⟩
def Ed:List Int:=[0,1,56,2,57,49,28,3,61,58,42,50,38,29,17,4,62,47,59,36,45,43,51,22,53,39,33,30,24,18,12,5,63,55,48,27,60,41,37,16,46,35,44,21,52,32,23,11,54,26,40,15,34,20,31,10,25,14,19,9,13,8,7,6]
theorem Ee{W:World}(h:laidMetH Tryz.prog Rows.spacingMoreRow.laid W):∃(el:TypeId) (fz:Nat×Nat),W.heap[dW]? =some (.cells jh.toArray el fz):=by
 have ht:Lib.TabIs Tryz.prog W "math/bits.deBruijn64tab" .u8 Ed:=Lib.tabIs_of_head (rest:=[_,_]) wU Eb Tryz.underlying275 Tryz.underlying5 jX Ec h;unfold Lib.TabIs World.var? at ht;rw[wU]at ht;simp only[Option.bind_some]at ht
 split at ht
 . rename_i cs el fz hg;refine⟨el,fz, ?_⟩;rw[hg];obtain rfl:=afj ht;rfl
 . cases ht
section
variable {H:Type}
set_option maxRecDepth 100000 in
theorem Ef(enc:TypeId×Value->H)(W:World)(base:Nat)(args:Array Value)(ds gs:List (DataW H))(before:List MemPlace)
 (aa:∀(j:Nat) t v,Tryz.f4.params[j]? =some t->args[j]? =some v->Value.okWide Tryz.prog W .any base t v)
 (hW:DataW.Whole enc Tryz.prog Tryz.f4.params.toList Rows.spacingMoreSpec.vars false W args.toList ds gs before) (hL:laidMetH Tryz.prog Rows.spacingMoreRow.laid W):
 Calls Tryz.prog 4 args W λe W'=>∃v,e=.returned v/\Rows.spacingMoreSpec.post enc Tryz.prog Tryz.f4 false true false false W args v W':=by
 have ad:=hW;obtain⟨p,q,ae,hV,rfl,ai,an⟩:=hW;have hA:DataW.TrodAll enc Tryz.prog W 0 (λ_=>true) true Tryz.f4.params.toList args.toList ds p:=ae;rw[Tryz.params4]at hA aa;obtain⟨v0,ao,d0,aq,p0,q0,ab,rfl,rfl,h0,r0⟩:=trodAll_cons hA;obtain⟨rfl,rfl,rfl⟩:=trodAll_nil r0;obtain rfl:args=#[v0]:=by cases args;simp_all
 obtain⟨rfl,rfl⟩:=trodVars_none hV;have w0:=aa 0 28 v0 rfl rfl;clear aa;obtain⟨cs,rfl,af⟩:=okWide_struct Tryz.underlying28 w0;obtain⟨fuel,hf⟩:=h0;obtain⟨x,hx,hr⟩:=Go.Sp.Ke (cs:=cs.toList) (by rw[Array.length_toList,af];exact Go.Sp.Kc) hf;obtain⟨el,fz,ht⟩:=Ee hL;refine(Go.Sp.KF x (Go.Sp.afu x hx) W el fz ht cs.toList hr).mono λe W' ⟨he,hk⟩=> ?_;subst he;exact⟨_,rfl,Lw (tb:=4) ad rfl rfl rfl rfl laidOut readable ak Tryz.underlying4 hk⟩
end
def oj:DataW Unit->List Value
 |.agg l=>l.flatMap fun
  |.lit (.int k z)=>[.int k z]
  |.agg l'=>l'.flatMap fun
   |.lit (.int k z)=>[.int k z]
   |_=>[]
  |_=>[]
 |_=>[]
noncomputable def sT(g:Nat)(d:DataW Unit)(h:Array Obj):Array Obj:=h.modify g fun
 |.cells _ t frozen=>.cells (oj d).toArray t frozen
 |o=>o
noncomputable def sU(os:Os):World:=
 {World.holding Tryz.prog os ⟨#[],#[],[]⟩with heap:=sT 2 Rows.laid_unicode_utf8_first (sT 3 Rows.laid_unicode_utf8_acceptRanges (sT dW Rows.laid_math_bits_deBruijn64tab (World.holding Tryz.prog os ⟨#[],#[],[]⟩).heap))}
def pX:Array Value:=#[.agg #[.int .u8 0,.int .u8 0,.slice none 0 0,.slice none 0 0,.slice none 0 0,.int .u8 0,.int .u8 0,.slice none 0 0]]
def Eg{H:Type}:List (DataW H):=[.agg [.agg [.lit (.int .u8 0),.lit (.int .u8 0),.nil,.nil,.nil],.lit (.int .u8 0),.lit (.int .u8 0),.nil]]
theorem Eh(os:Os):laidMet Tryz.prog Rows.spacingMoreRow.laid ((sU os).forCall (λ_ _=>0) ⟨#[],pX,[]⟩).memory:=
 laidMet_of_run' 8 ak ak
theorem reads(os:Os){H:Type}(enc:TypeId×Value->H):∃places,DataW.whole enc Tryz.prog ((sU os).forCall (λ_ _=>0) ⟨#[],pX,[]⟩).memory Tryz.f4.params.toList Rows.spacingMoreSpec.vars false pX.toList 8=some (Eg,[],places):=
 ⟨[],ak⟩
set_option maxRecDepth 100000 in
theorem lifted(os:Os)(started:os.Started)(H:Type)(enc:TypeId×Value->H)(F:Stop.Interp):
 ReturnsInHanded {} Tryz.checked os 4 .any ((OpenSpec.ofChange Rows.spacingMoreSpec).preRow enc Tryz.prog Tryz.f4 Rows.spacingMoreRow.domain false Rows.spacingMoreRow.laid) (((OpenSpec.ofChange Rows.spacingMoreSpec).at F).post enc Tryz.prog Tryz.f4 false true false false):=by
 obtain⟨places,hx⟩:=reads os enc;refine returnsInHanded_of_row (C:=Tryz.checked) (s:=OpenSpec.ofChange Rows.spacingMoreSpec) own started ak Tryz.func4
  (witness_row_at (enc:=enc) (C:=Tryz.checked) false (sU os) pX rfl ak ak ak
   (OpenSpec.preRow_of_cond 8 hx ak (λk hk=>by cases hk) ak (Eh os))) ?_
 intro W base args ds gs before aa hW _ _ _ hL _ _;exact Ef enc W base args ds gs before aa hW hL
theorem said:Rows.SpacingMoreSaid:=
 OpenClaim.holds_of_cond 4 Tryz.f4 rfl rfl rfl rfl rfl rfl rfl ⟨rfl,rfl,rfl,rfl,rfl⟩ rfl rfl rfl rfl rfl ak Tryz.func4 ak
  (of_decide_eq_true ak) (by unfold Func.isWrapper;first|(rw[if_pos (by decide+kernel)];kernel_rfl)|(rw[if_neg (by decide+kernel)];exact⟨rfl,rfl⟩))
  (λos started H enc _ F=>by rw[OpenClaim.pre_eq_preRow];exact lifted os started H enc F)
theorem plain(f:FuncId)(fn:Func)(hf:Tryz.pinned.checked.prog.funcNamed "koine/koinelaw24.SpacingMore" =some f)(ah:Tryz.pinned.checked.prog.funcs[f]? =some fn):
 true=Tryz.pinned.checked.prog.looks []/\∀(j:Nat) t,fn.params[j]? =some t->Tryz.pinned.checked.prog.wantsStandIn t=false:=by
 obtain rfl:f=4:=afj ((show Tryz.prog.funcNamed "koine/koinelaw24.SpacingMore" =some 4 by kernel_rfl).symm.trans hf)|>.symm;obtain rfl:fn=Tryz.f4:=(afj (Tryz.func4.symm.trans ah)).symm;refine⟨ak,λj t ht=> ?_⟩;rw[Tryz.params4]at ht;have hm:t∈[28]:=by simpa using Array.mem_of_getElem? ht
 simp only[ab8,afB,or_false]at hm;subst hm;exact(show Tryz.prog.wantsStandIn 28=false by kernel_rfl)
theorem card:Rows.SpacingMoreCardSaid:=
 Claim7.holds_tied_plain_at .later [] _ _ _ _ said (λ_ h=>by cases h) ak (λ_ h=>by cases h) spacingMore_row_tie rfl ⟨rfl,rfl⟩ ak rfl plain ak
#print axioms card
end Go.Proofs.YtlgccnjcmfighaaGreatDoor.more
end

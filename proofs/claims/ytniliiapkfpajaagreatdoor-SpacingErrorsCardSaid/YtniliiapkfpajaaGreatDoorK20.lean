/- Parts of a proof. -/
import Derived.Test.YtniliiapkfpajaaGreatDoorK19
open Nat renaming le_refl->oY,mul_one->afd,le_trans->afm,mul_le_mul_right->afJ
open List renaming getElem?_eq_getElem->yx,mem_of_getElem?->Ey,getElem?_eq_some_iff->HT,length_map->Q0,take_of_length_le->Rb,mem_map->Rm,map_append->UR,drop_eq_getElem_cons->WZ,take_add_one->Xt,mem_singleton->Yt,mem_append->YN,all_eq_true->adr,drop_eq_nil_of_le->afc,length_append->afe,map_cons->afh,getD_eq_getElem?_getD->afi,getElem?_map->afj,foldl_cons->afk,length_cons->afl,append_nil->afn,range->afo,length_nil->afp,replicate->afq,mem_filter->afr,length_filter_le->afs,mem_cons->afu,length_take->afv,mem_cons_of_mem->afw,flatten_cons->afx,nil_append->afy,mem_flatten->afz,filter_append->afA,length_singleton->afB,drop_zero->afD,mem_cons_self->afE,mem_replicate->afF,length_pos_iff->afI
open Iff renaming rfl->Fj
open Bool renaming and_eq_true->aff,not_eq_true'->afC
open Int renaming toNat_of_nonneg->afg
open Option renaming toList_some->aft,map_some->afG
open Option.some renaming inj->afH
set_option linter.all false
set_option maxRecDepth 100000
noncomputable section
open Go Go.aD Go.Proofs
namespace Go.Sp
def lenOf(g:aj)(s:ByteArray)(k:Nat):Nat:=match g.aF[k]? with
 |some t=>qO t s
 |none=>0
def ln(m:Nat)(t:Nat)(p:Nat×List Nat):Nat×List Nat:=
 let n:=if p.1<m then m else p.1
 let l:=if p.1<m then []else p.2
 (n,if m=n/\0<n then l++[t]else l)
def pM(g:aj)(s:ByteArray)(l:List Nat)(p:Nat×List Nat):Nat×List Nat:=l.foldl (λp t=>ln (lenOf g s t) t p) p
def firstM(g:aj)(c:Nat)(s:ByteArray):Nat×List Nat:=pM g s (mB g c) (0,[])
def adw(m t:Nat)(p:Nat×List Nat):(ln m t p).2.length<=p.2.length+1:=by
 unfold ln;simp only
 split<;>split<;>simp
def J3(g:aj)(s:ByteArray):∀(l:List Nat) (p:Nat×List Nat),(pM g s l p).2.length<=p.2.length+l.length
 |[],p=>oY _
 |t::l,p=>by
  have h1:=J3 g s l (ln (lenOf g s t) t p);have h2:=adw (lenOf g s t) t p;simp only[pM,afk,afl]at h1⊢;omega
def J4(g:aj)(c:Nat):∀k∈mB g c,k<g.aF.length:=λk hk=>by
 have:=(afr.1 hk).1;simpa using this
def J5(g:aj)(c:Nat):(mB g c).length<=g.aF.length:=by
 unfold mB;exact afm (afs _ _) aw
set_option maxHeartbeats 4000000 in
def J6(g:aj)(hg:sL g)(c:Nat)(s:ByteArray)(hs:s.size<=1000000000):ay E true 157 [.ptr (ic g c) 0,sV s] (.bf [iV ((firstM g c s).1:Nat),cI (firstM g c s).2]):=by
 refine aV Tryz.ntmps157 Tryz.results157 λN=> ?_;have hlen:=hg.len;have aY:=J5 g c;have aP:=J4 g c;obtain⟨ao,av⟩:∃ao,firstM g c s=ao:=⟨_,rfl⟩;rw[av];obtain⟨L,hL⟩:∃L,mB g c=L:=⟨_,rfl⟩;have aL:pM g s L (0,[])=ao:=by rw[<-av,<-hL];rfl
 have az:ic g c=[strs g.conds,.sl 3 (g.family.nodes.map cB),iV g.family.root,.sl 7 (g.aF.map Tok.e),strs g.aI,.sl 13 (g.aq.map aK.e),iV g.start,.sl 4 (g.bj.map cP.e),.sl 9 (g.bx.map bl.e),cI L,.fn 154 [] [.ptr g.e 0]]:=by rw[<-hL];rfl
 rw[hL]at aY aP;obtain⟨RD,aZ⟩:∃RD,ic g c=RD:=⟨_,rfl⟩;rw[aZ]at az⊢;simp(disch:=omega)[go_sem,az];rw[<-az];obtain⟨I,hI⟩:∃I:Nat->DS->Prop,∀j d,I j d↔∃(k n:Nat) (tl:List Nat) (H:ah) (pv:DV),j+k=L.length/\tl.length<=k/\pM g s (L.drop k) (n,tl)=ao/\N<=H.next/\cz H N H.next 1 (tl.map λn=>[iV (n:Nat)]) pv/\
  d=⟨bw [(0,.ptr RD 0),(1,sV s),(6,iV (n:Nat)),(7,pv),(14,cI L),(15,iV (L.length:Nat)),(16,iV (k:Nat))],45,[],H⟩:=⟨_,λ_ _=>Fj⟩
 refine bM I L.length ⟨_,aB.bk (l:=[(0,.ptr RD 0),(1,sV s),(6,iV (0:Nat)),(7,cm),(14,cI L),(15,iV (L.length:Nat)),(16,iV (0:Nat))]) ai,(hI _ _).2 ⟨0,0,[],_,cm,rfl,oY _,aL,oY _,.nil _ _ _ _,rfl⟩⟩ ?_
 . intro j ds aR;obtain⟨k,n,tl,H,pv,hj,bd,ab,hN,hgr,rfl⟩:=(hI _ _).1 aR;clear aR;have aS:∀x∈tl.map λn=>[iV (n:Nat)],x.length=1:=λx hx=>by obtain⟨y,_,rfl⟩:=Rm.1 hx;rfl
   by_cases aT:k<L.length
   . have ae:(k:Int)<L.length:=aa;obtain⟨t,ht⟩:∃t,L[k]? =some t:=⟨_,yx aT⟩;obtain⟨tk,aW⟩:∃tk,g.aF[t]? =some tk:=⟨_,yx (aP t (Ey ht))⟩;have ad:=adu g hg t tk aW s hs;have hm:lenOf g s t=qO tk s:=by simp only[lenOf,aW]
     have ba:L.drop k=t::L.drop (k+1):=by rw[WZ aT,(HT.1 ht).2]
     rw[ba]at ab;simp only[pM,afk,hm]at ab;obtain⟨m,bb⟩:∃m,qO tk s=m:=⟨_,rfl⟩;rw[bb]at ad ab;simp(disch:=omega)[go_sem,ae,ht,-getElem?_pos,az];rw[<-az];refine au.mk ad λM hM=> ?_;have fin:∀(H':ah) (aC:List Nat) (n':Nat) (an:DV) (T:Tr DV),ln m t (n,tl)=(n',aC)->N<=H'.next->aC.length<=k+1->cz H' N H'.next 1 (aC.map λn=>[iV (n:Nat)]) an->iQ T [(0,.ptr RD 0),(1,sV s),(6,iV (n':Nat)),(7,an),(14,cI L),(15,iV (L.length:Nat)),(16,iV (k+1:Nat))]->∃j',j'<j/\∃d',aB ⟨T,45,[],H'⟩ d'/\I j' d':=λH' aC n' an T h1 h2 h3 h4 h5=>
      ⟨j-1,aa,_,aB.bk h5,(hI _ _).2 ⟨k+1,n',aC,H',an,aa,h3,by rw[<-h1];exact ab,h2,h4,rfl⟩⟩
     have aE:∀M',H.next<=M'->cz (H.up M') N M' 1 (tl.map λn=>[iV (n:Nat)]) pv:=λM' h=>hgr.same (λq _ _=>rfl) h;by_cases aM:n<m
     . have af:(n:Int)<m:=aa;have aX:0<m:=aa;simp(disch:=omega)[go_sem,af,aX];refine Xd aa aa ?_;simp(disch:=omega)[go_sem,aG];refine fin _ [t] m (.v (.slice (some ⟨M+1,0,none⟩) 1 1)) _ ?_ ?_ aw (.inr ⟨M+1,aa,ai,rfl,ai⟩) ai
       . simp only[ln,if_pos aM,aX,and_self,if_true,afy]
       . simp(disch:=omega)[go_sem];omega
     . have af:¬(n:Int)<m:=aa;by_cases bc:m=n/\0<n
       . obtain⟨rfl,aJ⟩:=bc;simp(disch:=omega)[go_sem,aJ];refine cz.app (st:=100) (xt:=100) (B:=N) (U:=M) (k:=1) (xs:=tl.map λn=>[iV (n:Nat)]) (hgr.same (λq q1 q2=>by rw[ah.cW,if_neg (by rw[ah.gR];omega)];rfl) hM) vJ vI aa ai (new:=[iV (t:Nat)]) ai aA rfl rfl aS (by rw[Q0];omega) λH' an T q0 q1 q2 q3 q4=> ?_;replace q2:=cr q2;simp(disch:=omega)[go_sem,aG];refine fin _ (tl++[t]) m an _ ?_ aa ?_ ?_ ai
         . simp only[ln,if_neg aM,aJ,and_self,if_true]
         . simp;omega
         . rw[UR];exact q1
       . by_cases aH:m=n
         . have aJ:n=0:=aa;subst aJ;subst aH;simp(disch:=omega)[go_sem,aG];refine fin _ tl 0 pv _ ?_ ?_ aa (aE M hM) ai
           . simp[ln]
           . simp(disch:=omega)[go_sem];omega
         . have aO:¬(m:Int)=n:=aa;simp(disch:=omega)[go_sem,af,aO,aG];refine fin _ tl n pv _ ?_ ?_ aa (aE M hM) ai
           . simp only[ln,if_neg aM,aH,false_and,if_false]
           . simp(disch:=omega)[go_sem];omega
   . have ae:¬(k:Int)<L.length:=aa;rw[afc aa]at ab;have ab:(n,tl)=ao:=ab;subst ab;simp(disch:=omega)[go_sem,ae];exact hgr.fz aA aS
def zk(l:List Nat):∀x∈l.map λn=>[iV (n:Nat)],x.length=1:=λx hx=>by obtain⟨y,_,rfl⟩:=Rm.1 hx;rfl
def J7(l:List Nat)(n:Nat)(hl:l.length<=1000000):ay E true 235 [cI l,iV (n:Nat)] (bV (decide (n∈l))):=by
 refine aV Tryz.ntmps235 Tryz.results235 λN=> ?_;refine aL ?_;obtain⟨I,hI⟩:∃I:Nat->DS->Prop,∀j d,I j d↔∃(k:Nat) (H:ah),j+k=l.length/\n∉l.take k/\d=⟨bw [(0,cI l),(1,iV (n:Nat)),(5,iV (k:Nat))],18,[],H⟩:=⟨_,λ_ _=>Fj⟩;refine bM I l.length ⟨_,aB.bk (l:=[(0,cI l),(1,iV (n:Nat)),(5,iV (0:Nat))]) ai,(hI _ _).2 ⟨0,_,rfl,aw,rfl⟩⟩ ?_
 . intro j ds an;obtain⟨k,H,hj,aC,rfl⟩:=(hI _ _).1 an;clear an;by_cases av:k<l.length
   . have ab:(k:Int)<l.length:=aa;obtain⟨x,hx⟩:∃x,l[k]? =some x:=⟨_,yx av⟩;by_cases aE:x=n
     . have ad:n∈l:=aE▸Ey hx;simp(disch:=omega)[go_sem,ab,hx,-getElem?_pos,aE,ad]
     . have aH:¬(x:Int)=n:=aa;simp(disch:=omega)[go_sem,ab,hx,-getElem?_pos,aH,aG];refine⟨j-1,aa,_,aB.bk (l:=[(0,cI l),(1,iV (n:Nat)),(5,iV (k+1:Nat))]) ai,(hI _ _).2 ⟨k+1,_,aa, ?_,rfl⟩⟩
       . rw[Xt,hx,aft,YN,Yt];rintro(h|h)
         . exact aC h
         . exact aE h.symm
   . have ab:¬(k:Int)<l.length:=aa;rw[Rb aa]at aC;simp(disch:=omega)[go_sem,ab,aC]
def uO(out:List Nat)(x:Nat):List Nat:=if x∈out then out else out++[x]
def iG(l m:List Nat):List Nat:=m.foldl uO l
def lV(H:ah)(B:Nat)(l:List Nat)(pv:DV):Prop:=∃R ak,B<=R/\R<H.next/\pv=.v (.slice (some ⟨R,0,none⟩) l.length l.length)/\(ak=0\/ak=1)/\H.get R=some (.row (l.map λn=>[iV (n:Nat)]).flatten true ak)
def Dy(l:List Nat):(l.map λn=>[iV (n:Nat)]).flatten.length=l.length:=by rw[fi (k:=1) (zk l),Q0,afd]
def J8(l:List Nat):((l.map λn=>[iV (n:Nat)]).flatten).all cD=true:=by
 simp only[adr,afz,Rm];rintro x ⟨_,⟨s,_,rfl⟩,hx⟩;simp only[afu,List.not_mem_nil,or_false]at hx;subst hx;rfl
def lV.fz{H:ah}{B:Nat}{l:List Nat}{pv:DV}(h:lV H B l pv):Fz (allRows H) pv (cI l):=by
 obtain⟨R,ak,h1,h2,rfl,h4,h5⟩:=h;exact dW (ak:=ak) (cu h5) h4 aA aw (oY _) (zk l)
def lV.same{H H':ah}{B:Nat}{l:List Nat}{pv:DV}(h:lV H B l pv)(hs:∀j,B<=j->j<H.next->H'.get j=H.get j)(hN:H.next<=H'.next):lV H' B l pv:=by
 obtain⟨R,ak,h1,h2,h3,h4,h5⟩:=h;exact⟨R,ak,h1,aa,h3,h4,by rw[hs R h1 h2,h5]⟩
def lV.app{H:ah}{B:Nat}{l m:List Nat}{pv:DV}{K:DV×ah×List Nat->Prop}(h:lV H B l pv)(hb:(l.length+m.length)*9<=1073741824){x:DV}(hx:fh H 1 x=some (m.length,(m.map λn=>[iV (n:Nat)]).flatten))
 (hk:∀H' af T,lV H' B (l++m) af->H.next<=H'.next->(∀j,j<B->H'.get j=H.get j)->(∀i∈T,B<=i)->cG af=[af]->K (af,H',T)):aN (iO E H [100,100].toArray (some [pv,x])) K:=by
 obtain⟨R,ak,h1,h2,rfl,h4,h5⟩:=h;have e:iO E H [100,100].toArray (some [.v (.slice (some ⟨R,0,none⟩) l.length l.length),x])=eA H (some ⟨R,0,none⟩) l.length l.length 1 8 m.length (m.map λn=>[iV (n:Nat)]).flatten:=by
  have:=mU (e:=E) H 100 100 [] (some ⟨R,0,none⟩) l.length l.length x;rw[vJ,vI,F3,hx]at this;exact this
 rw[e];refine uH h5 h4 (by rw[Dy,afd]) aA (by rw[Dy,afd]) (J8 m) hb h2 λR' h' T aj g1 g2 g3 g4 g5 g6 g7=> ?_;have e2:=hk h' (.v (.slice (some ⟨R',0,none⟩) (l.length+m.length) (l.length+m.length))) T ⟨R',aj,aa,g4,by rw[afe],g1,by rw[UR,List.flatten_append];exact g2⟩ g5 (λj hj=>g6 j aa aa) (λi hi=>by rw[g7 i hi];exact h1) rfl;exact e2
set_option maxHeartbeats 4000000 in
def J9(l m:List Nat)(hl:l.length<=400000)(hm:m.length<=400000):ay E true 267 [cI l,cI m] (cI (iG l m)):=by
 refine aV Tryz.ntmps267 Tryz.results267 λN=> ?_;obtain⟨az,ao⟩:∃az,iG l m=az:=⟨_,rfl⟩;rw[ao];obtain⟨I,hI⟩:∃I:Nat->DS->Prop,∀j d,I j d↔∃(k:Nat) (out:List Nat) (H:ah) (pv:DV),j+k=m.length/\out.length<=l.length+k/\iG out (m.drop k)=az/\N<=H.next/\lV H N out pv/\d=⟨bw [(1,cI m),(5,pv),(6,iV (k:Nat))],31,[],H⟩:=⟨_,λ_ _=>Fj⟩;refine aL ?_;refine uH (R:=N) (ak:=0) (cs:=[]) ai (.inl rfl) rfl aA (by rw[Dy,afd]) (J8 l) aa ai λR' h' T aj g1 g2 g3 g4 g5 g6 g7=> ?_;simp(disch:=omega)[go_sem]at g2 g3 g5⊢;refine bM I m.length ⟨_,aB.bk (l:=[(1,cI m),(5,.v (.slice (some ⟨R',0,none⟩) l.length l.length)),(6,iV (0:Nat))]) ai,(hI _ _).2 ⟨0,l,h',_,rfl,aa,ao,aa,⟨R',aj,aa,g4,rfl,g1,g2⟩,rfl⟩⟩ ?_
 . intro j ds an;obtain⟨k,out,H,pv,hj,aK,ae,hN,hgr,rfl⟩:=(hI _ _).1 an;clear an;by_cases av:k<m.length
   . have ab:(k:Int)<m.length:=aa;obtain⟨x,hx⟩:∃x,m[k]? =some x:=⟨_,yx av⟩;have aJ:m.drop k=x::m.drop (k+1):=by rw[WZ av,(HT.1 hx).2]
     rw[aJ]at ae;simp only[iG,afk]at ae;simp(disch:=omega)[go_sem,ab,hx,-getElem?_pos];refine au.pl (J7 out x aa) (.cons hgr.fz (.cons (.refl _) .nil)) λM hM=> ?_;by_cases ad:x∈out
     . rw[show uO out x=out from if_pos ad]at ae;simp(disch:=omega)[go_sem,ad,aG];refine⟨j-1,aa,_,aB.bk (l:=[(1,cI m),(5,pv),(6,iV (k+1:Nat))]) ?_,(hI _ _).2 ⟨k+1,out,H.up M,pv,aa,aa,ae, ?_,hgr.same (λ_ _ _=>rfl) (by rw[ah.gR];omega),rfl⟩⟩
       . exact ai
       . rw[ah.gR];omega
     . rw[show uO out x=out++[x]from if_neg ad]at ae;simp(disch:=omega)[go_sem,ad,hx,-getElem?_pos];refine lV.app (m:=[x]) (hgr.same (λq q1 q2=>by rw[ah.cW,if_neg (by rw[ah.gR];omega)];rfl) (by rw[ah.bb,ah.gR];omega)) (by simp;omega) ai λH' af T q1 q2 q3 q4 q5=> ?_;replace q2:=cr q2;simp(disch:=omega)[go_sem,aG];refine⟨j-1,aa,_,aB.bk (l:=[(1,cI m),(5,af),(6,iV (k+1:Nat))]) ?_,(hI _ _).2 ⟨k+1,out++[x],H',af,aa,by simp;omega,ae,aa,q1,rfl⟩⟩;exact ai
   . have ab:¬(k:Int)<m.length:=aa;rw[afc aa]at ae;have ae:out=az:=ae;subst ae;simp(disch:=omega)[go_sem,ab];exact hgr.fz
def zl(l:List Nat):cI l=ints (l.map λn:Nat=>(n:Int)):=by simp[List.map_map]
def Pl(s:ByteArray)(l:List Nat):Prop:=l.Nodup/\∀a∈l,a<=s.size
def Pl.len{s:ByteArray}{l:List Nat}(h:Pl s l):l.length<=s.size+1:=yM (s.size+1) l h.1 λx hx=>by have:=h.2 x hx;omega
def zm{s:ByteArray}:∀{m l:List Nat},Pl s l->(∀a∈m,a<=s.size)->Pl s (iG l m)/\l.length<=(iG l m).length
 |[],l,h,_=>⟨h,oY _⟩
 |x::m,l,h,hm=>by
  have hx:Pl s (uO l x)/\l.length<=(uO l x).length:=by
   unfold uO
   split
   . exact⟨h,oY _⟩
   . rename_i ad;refine⟨⟨List.nodup_append.2 ⟨h.1,aw,λa ha b hb=>by rintro rfl;simp at hb;subst hb;exact ad ha⟩,λa ha=> ?_⟩,aw⟩;rcases YN.1 ha with ha|ha
     . exact h.2 a ha
     . simp at ha;subst ha;exact hm a aw
  obtain⟨g1,g4⟩:=zm (m:=m) hx.1 λa ha=>hm a (by simp[ha]);exact⟨g1,afm hx.2 g4⟩
def lW(x:aY)(s:ByteArray)(a:Nat):Bool:=match s[a]? with
 |some c=>decide (x.lo<=(c.toNat:Int))&&decide ((c.toNat:Int)<=x.hi)
 |none=>false
set_option maxHeartbeats 4000000 in
def adx(p:List aY)(i:Nat)(x:aY)(hx:p[i]? =some x)(hk:x.kind=1)(s:ByteArray)(hs:s.size<=100000)(l:List Nat)(hl:Pl s l):
 ay E true 236 [.sl 5 (p.map aY.e),iV (i:Nat),sV s,cI l] (cI ((l.filter (lW x s)).map (·+1))):=by
 have hi:=(HT.1 hx).1;obtain⟨aE,ao⟩:∃aE,(l.filter (lW x s)).map (·+1)=aE:=⟨_,rfl⟩;have bd:=hl.len;rw[ao];refine aV Tryz.ntmps236 Tryz.results236 λN=> ?_;simp(disch:=omega)[go_sem,hx,-getElem?_pos,aY.e,hk];obtain⟨I,hI⟩:∃I:Nat->DS->Prop,∀j d,I j d↔∃(k:Nat) (H:ah) (pv:DV),j+k=l.length/\N+1<H.next/\H.get N=some (.row [iV x.kind,iV x.lo,iV x.hi,iV x.a,iV x.b] true 0)/\lV H (N+1) (((l.take k).filter (lW x s)).map (·+1)) pv/\d=⟨bw [(2,sV s),(3,cI l),(9,.v (.pointer (some ⟨N,0,none⟩))),(10,pv),(11,iV (k:Nat))],115,[],H⟩:=⟨_,λ_ _=>Fj⟩;refine bM I l.length ⟨_,aB.bk (l:=[(2,sV s),(3,cI l),(9,.v (.pointer (some ⟨N,0,none⟩))),(10,.v (.slice (some ⟨N+1,0,none⟩) 0 0)),(11,iV (0:Nat))]) ai,(hI _ _).2 ⟨0,_,_,rfl,ai, ?_,⟨N+1,0,oY _,ai,rfl,.inl rfl,ai⟩,rfl⟩⟩ ?_
 . simp(disch:=omega)[go_sem,hk]
 . intro j ds aH;obtain⟨k,H,pv,hj,hN,f1,hgr,rfl⟩:=(hI _ _).1 aH;clear aH;by_cases aW:k<l.length
   . have ab:(k:Int)<l.length:=aa;obtain⟨a,ha⟩:∃a,l[k]? =some a:=⟨_,yx aW⟩;have has:=hl.2 a (Ey ha);have av:((l.take (k+1)).filter (lW x s)).map (·+1)=((l.take k).filter (lW x s)).map (·+1)++if lW x s a then [a+1]else []:=by
      rw[Xt,ha,aft,afA,UR];cases hb:lW x s a<;>simp[hb]
     have fin:∀(H':ah) (az:DV) (T:Tr DV),N+1<H'.next->H'.get N=some (.row [iV x.kind,iV x.lo,iV x.hi,iV x.a,iV x.b] true 0)->lV H' (N+1) (((l.take (k+1)).filter (lW x s)).map (·+1)) az->iQ T [(2,sV s),(3,cI l),(9,.v (.pointer (some ⟨N,0,none⟩))),(10,az),(11,iV (k+1:Nat))]->∃j',j'<j/\∃d',aB ⟨T,115,[],H'⟩ d'/\I j' d':=λH' az T h1 h2 h3 h4=>⟨j-1,aa,_,aB.bk h4,(hI _ _).2 ⟨k+1,H',az,aa,h1,h2,h3,rfl⟩⟩;have hlen:(((l.take k).filter (lW x s)).map (·+1)).length<=k:=by
      rw[Q0];exact afm (afs _ _) (by rw[afv];omega)
     cases ad:lW x s a with
     |true=>
      rw[ad,if_pos rfl]at av;obtain⟨c,hc,h1,h2⟩:∃c,s[a]? =some c/\x.lo<=(c.toNat:Int)/\(c.toNat:Int)<=x.hi:=by
       unfold lW at ad
       split at ad
       . rename_i c hc;simp only[aff,decide_eq_true_eq]at ad;exact⟨c,hc,ad.1,ad.2⟩
       . cases ad
      have aS:a<s.size:=(getElem?_eq_some_iff.1 hc).1;have af:(a:Int)<s.size:=aa;have aM:=Dq s a c hc;have aX:c.toNat<256:=c.toNat_lt;simp(disch:=omega)[go_sem,ab,ha,-getElem?_pos];refine bH [ae 0,ae 0,ae 3,aC 7,ae 0,aC 16,ae 63,ae 127,ae 255,ae 255,ae 255,ae 1791,aC 3839,ae 8191,aC 16383,ae 255,aC 33023,ae 131071,ae 262143,ae 524287,ae 1048575,ae 1048575,ae 1048575,ae 7340031,aC 15728639,ae 33554431,aC 67108863,ae 1048575,aC 135266303,ae 536870911,ae 1073741823] an 0 rfl ?_;simp(disch:=omega)[go_sem,ab,ha,-getElem?_pos,f1,jd,af,aM,h1,h2,aG];refine lV.app (m:=[a+1]) (hgr.same (λq q1 q2=>by rw[ah.cW,if_neg (by rw[ah.gR];omega)];rfl) (by rw[ah.bb,ah.gR];omega)) (by have:=hlen;simp only[Q0,afB]at this⊢;omega) ai λH' az T q1 q2 q3 q4 q5=> ?_;replace q2:=cr q2;simp(disch:=omega)[go_sem,aG];refine fin _ az _ ?_ ?_ (by rw[av];exact q1) ?_
      . omega
      . rw[q3 N aa,ah.cW,if_neg (by rw[ah.gR];omega)];exact f1
      . exact ai
     |false=>
      rw[ad,if_neg aA,afn]at av;simp(disch:=omega)[go_sem,ab,ha,-getElem?_pos];refine bH [ae 0,ae 0,ae 3,aC 7,ae 0,aC 16,ae 63,ae 127,ae 255,ae 255,ae 255,ae 1791,aC 3839,ae 8191,aC 16383,ae 255,aC 33023,ae 131071,ae 262143,ae 524287,ae 1048575,ae 1048575,ae 1048575,ae 7340031,aC 15728639,ae 33554431,aC 67108863,ae 1048575,aC 135266303,ae 536870911,ae 1073741823] an 0 rfl ?_;by_cases aS:a<s.size
      . have af:(a:Int)<s.size:=aa;obtain⟨c,hc⟩:∃c,s[a]? =some c:=⟨_,getElem?_eq_some_iff.2 ⟨aS,rfl⟩⟩;have aM:=Dq s a c hc;have aX:c.toNat<256:=c.toNat_lt;by_cases h1:x.lo<=(c.toNat:Int)
        . have h2:¬(c.toNat:Int)<=x.hi:=λh2=>by
           unfold lW at ad;rw[hc]at ad;simp[h1,h2]at ad
          simp(disch:=omega)[go_sem,ab,ha,-getElem?_pos,f1,jd,af,aM,h1,h2,aG];refine fin H pv _ hN f1 (by rw[av];exact hgr) ?_;exact ai
        . simp(disch:=omega)[go_sem,ab,ha,-getElem?_pos,f1,jd,af,aM,h1,aG];refine fin H pv _ hN f1 (by rw[av];exact hgr) ?_;exact ai
      . have af:¬(a:Int)<s.size:=aa;simp(disch:=omega)[go_sem,ab,ha,-getElem?_pos,f1,jd,af,aG];refine fin H pv _ hN f1 (by rw[av];exact hgr) ?_;exact ai
   . have ab:¬(k:Int)<l.length:=aa;rw[Rb aa,ao]at hgr;simp(disch:=omega)[go_sem,ab];exact hgr.fz
def pN(p:List aY)(s:ByteArray)(i:Nat):Prop:=∀l:List Nat,Pl s l->∃out,Pl s out/\ay E true 236 [.sl 5 (p.map aY.e),iV (i:Nat),sV s,cI l] (cI out)
def Dz(p:List aY)(i:Nat)(x:aY)(hx:p[i]? =some x)(hk:x.kind=1)(s:ByteArray)(hs:s.size<=100000):pN p s i:=λl hl=>by
 refine⟨_,⟨List.Pairwise.map (·+1) (λa b aZ h=>aZ aa) (hl.1.filter _),λa ha=> ?_⟩,adx p i x hx hk s hs l hl⟩
 . obtain⟨a',h1,rfl⟩:=Rm.1 ha;have h2:=(afr.1 h1).2;unfold lW at h2
   split at h2
   . rename_i c hc;exact(getElem?_eq_some_iff.1 hc).1
   . cases h2
def bh2(p:List aY)(i:Nat)(x:aY)(hx:p[i]? =some x)(hk:x.kind=2)(s:ByteArray)(aJ:0<=x.a)(aO:0<=x.b)(ha:pN p s x.a.toNat)(hb:pN p s x.b.toNat):pN p s i:=λl hl=>by
 obtain⟨o1,p1,f1⟩:=ha l hl;obtain⟨o2,p2,f2⟩:=hb o1 p1;rw[afg aJ]at f1;rw[afg aO]at f2;simp only[zl]at f1 f2;exact⟨o2,p2,by rw[zl,zl];exact adg p i s _ _ _ x hx hk f1 f2⟩
def bh3(p:List aY)(i:Nat)(x:aY)(hx:p[i]? =some x)(hk:x.kind=3)(s:ByteArray)(hs:s.size<=100000)(aJ:0<=x.a)(aO:0<=x.b)(ha:pN p s x.a.toNat)(hb:pN p s x.b.toNat):pN p s i:=λl hl=>by
 have hi:=(HT.1 hx).1;obtain⟨o1,p1,f1⟩:=ha l hl;obtain⟨o2,p2,f2⟩:=hb l hl;rw[afg aJ]at f1;rw[afg aO]at f2;have ht:=J9 o1 o2 (by have:=p1.len;omega) (by have:=p2.len;omega);refine⟨iG o1 o2,(zm p1 p2.2).1, ?_⟩;obtain⟨aE,ao⟩:∃aE,iG o1 o2=aE:=⟨_,rfl⟩;rw[ao]at ht⊢;refine aV Tryz.ntmps236 Tryz.results236 λN=> ?_;simp(disch:=omega)[go_sem,hx,-getElem?_pos,aY.e,hk];refine bH [ae 0,ae 0,aC 2,ae 0,ae 0,aT 31,ae 0,jW 0,dq 128,ae 0,ae 0,aT 2047,aT 4095,ae 8191] an 0 rfl ?_;simp(disch:=omega)[go_sem,hx,-getElem?_pos,aY.e,hk];refine au.mk f1 λM=>aR λhM=> ?_;simp(disch:=omega)[go_sem,hk];refine au.mk f2 λM2=>cY λba=> ?_;refine au.mk ht λM3=>aR λbf=> ?_;exact ai
def rep(nx:List Nat->List Nat):Nat->List Nat->List Nat
 |0,o=>o
 |n+1,o=>if(iG o (nx o)).length=o.length then iG o (nx o)else rep nx n (iG o (nx o))
def Ka{s:ByteArray}{nx:List Nat->List Nat}(h:∀o,Pl s o->Pl s (nx o)):∀(n:Nat) (o:List Nat),Pl s o->Pl s (rep nx n o)
 |0,o,ho=>ho
 |n+1,o,ho=>by
  have t1:=(zm ho (h o ho).2).1;unfold rep
  split
  . exact t1
  . exact Ka h n _ t1
set_option maxHeartbeats 4000000 in
def bh4(p:List aY)(i:Nat)(x:aY)(hx:p[i]? =some x)(hk:x.kind=4)(s:ByteArray)(hs:s.size<=100000)(aJ:0<=x.a)(ha:pN p s x.a.toNat):pN p s i:=λl hl=>by
 have hi:=(HT.1 hx).1;obtain⟨nx,aP⟩:∃nx:List Nat->List Nat,∀o,Pl s o->Pl s (nx o)/\ay E true 236 [.sl 5 (p.map aY.e),iV (x.a.toNat:Nat),sV s,cI o] (cI (nx o)):=by
  have h:∀o,∃q,Pl s o->Pl s q/\ay E true 236 [.sl 5 (p.map aY.e),iV (x.a.toNat:Nat),sV s,cI o] (cI q):=λo=>by
   by_cases h:Pl s o
   . obtain⟨q,h⟩:=ha o h;exact⟨q,λ_=>h⟩
   . exact⟨[],λh2=>absurd h2 h⟩
  exact⟨λo=>Classical.choose (h o),λo=>Classical.choose_spec (h o)⟩
 rw[afg aJ]at aP;have h1:=Ka (λo h=>(aP o h).1) (s.size+2) l hl;obtain⟨out,aK⟩:∃out,rep nx (s.size+2) l=out:=⟨_,rfl⟩;rw[aK]at h1;refine⟨out,h1, ?_⟩;refine aV Tryz.ntmps236 Tryz.results236 λN=> ?_;simp(disch:=omega)[go_sem,hx,-getElem?_pos,aY.e,hk];obtain⟨I,hI⟩:∃I:Nat->DS->Prop,∀j d,I j d↔∃(o:List Nat) (n:Int) (H:ah),Pl s o/\(n<o.length/\0<j/\s.size+1<o.length+(j-1)/\rep nx (j-1) o=out\/n=o.length/\o=out)/\N<H.next/\H.get N=some (.row [iV x.kind,iV x.lo,iV x.hi,iV x.a,iV x.b] true 0)/\
  d=⟨bw [(0,.sl 5 (p.map aY.e)),(2,sV s),(9,.v (.pointer (some ⟨N,0,none⟩))),(10,cI o),(12,iV n)],115,[],H⟩:=⟨_,λ_ _=>Fj⟩
 refine bM I (s.size+3) ⟨_,aB.bk (l:=[(0,.sl 5 (p.map aY.e)),(2,sV s),(9,.v (.pointer (some ⟨N,0,none⟩))),(10,cI l),(12,iV (-1))]) ?_,(hI _ _).2 ⟨l,-1,_,hl,.inl ⟨aa,aa,aa,aK⟩,ai, ?_,rfl⟩⟩ ?_
 . simp(disch:=omega)[go_sem,aY.e]
 . simp(disch:=omega)[go_sem,hk]
 . intro j ds aH;obtain⟨o,n,H,ho,bc,hN,f1,rfl⟩:=(hI _ _).1 aH;clear aH;rcases bc with⟨hn,bg,bl,aj⟩|⟨rfl,rfl⟩
   . obtain⟨q1,q2⟩:=aP o ho;obtain⟨t1,t4⟩:=zm ho q1.2;have ht:=J9 o (nx o) (by have:=ho.len;omega) (by have:=q1.len;omega);simp(disch:=omega)[go_sem,hn,f1];refine au.mk q2 λM hM=> ?_;refine aL ?_;refine au.mk ht λM2=>cY λba=> ?_;obtain⟨m,rfl⟩:∃m,j=m+2:=⟨j-2,by have:=ho.len;omega⟩;have aj:(if(iG o (nx o)).length=o.length then iG o (nx o)else rep nx m (iG o (nx o)))=out:=aj;by_cases he:(iG o (nx o)).length=o.length
     . rw[if_pos he]at aj;refine⟨0,aa,_,aB.bk (l:=[(0,.sl 5 (p.map aY.e)),(2,sV s),(9,.v (.pointer (some ⟨N,0,none⟩))),(10,cI (iG o (nx o))),(12,iV (o.length:Nat))]) ai,(hI _ _).2 ⟨iG o (nx o),o.length,_,t1,.inr ⟨by rw[he],aj⟩, ?_, ?_,rfl⟩⟩
       . simp(disch:=omega)[go_sem];omega
       . simp(disch:=omega)[go_sem,f1]
     . rw[if_neg he]at aj;refine⟨m+1,aa,_,aB.bk (l:=[(0,.sl 5 (p.map aY.e)),(2,sV s),(9,.v (.pointer (some ⟨N,0,none⟩))),(10,cI (iG o (nx o))),(12,iV (o.length:Nat))]) ai,(hI _ _).2 ⟨iG o (nx o),o.length,_,t1,.inl ⟨aa,aa,aa,aj⟩, ?_, ?_,rfl⟩⟩
       . simp(disch:=omega)[go_sem];omega
       . simp(disch:=omega)[go_sem,f1]
   . exact ai
def ady(t:ByteArray)(ht:t.size<=100000):∃b,ay E true 188 [.sl 5 (mm.map aY.e),sV t] (bV b):=by
 have h3:=bh3 mm 3 _ rfl rfl t ht aA aA (Dz mm 1 _ rfl rfl t ht) (Dz mm 2 _ rfl rfl t ht);have h5:=bh2 mm 5 _ rfl rfl t aA aA (Dz mm 0 _ rfl rfl t ht) (bh4 mm 4 _ rfl rfl t ht aA h3);obtain⟨out,h1,h2⟩:=h5 [0] ⟨aw,aw⟩;have hh:=J7 out t.size (by have:=h1.len;omega);simp only[zl]at h2 hh;exact⟨_,adh mm t _ _ aA aA (adi uI (gY 2 uI rfl)) h2 hh⟩
def cJ.rz{e:Env}{ar:Bool}{f:FuncId}{args:List DV}{dh:ah}{K:DV->ah->List Nat->Prop}(hc:cJ e ar f args dh λv aa T=>∃l v',(∀i∈l,dh.next<=i/\(aa.get i).isSome=true)/\Fz (rowsOf aa l) v v'/\K v' (eV aa l) T):cJ e ar f args dh K:=by
 intro G h vs x ha;have key:=hc G h vs x ha;have fin:∀v h',lF G h dh (λv aa T=>∃l v',(∀i∈l,dh.next<=i/\(aa.get i).isSome=true)/\Fz (rowsOf aa l) v v'/\K v' (eV aa l) T) v h'->lF G h dh K v h':=λv h' ⟨d,aa,G',T,r2,r3,r4,r5,l,v',q1,q2,q3⟩=>by
  obtain⟨k1,k2⟩:=r2.drop l λi hi=>(q1 i hi).2;refine⟨v',eV aa l,_,T,k1,r3.trans k2,Rel.fz r2 (λi cs ak hr=>⟨.inr (rW hr).1,(rW hr).2⟩) (λi hg=>.inl hg) q2 r4,λi hi hT=> ?_,q3⟩;obtain⟨y1,y2⟩:=r5 i hi hT;refine⟨y1, ?_⟩;rw[kU,if_neg (λhl=> ?_)]
  . exact y2
  . have:=(q1 i hl).1;have:=x.next;omega
 cases ar with
 |true=>obtain⟨v,h',h1,h2⟩:=key;exact⟨v,h',h1,fin v h' h2⟩
 |false=>exact fm.mono key λv h' h2=>fin v h' h2
def pO:List ByteArray:=[⟨#[120]⟩,⟨#[121]⟩,⟨#[97,98]⟩,⟨#[105,102]⟩,⟨#[122]⟩,⟨#[101,108,115,101]⟩]
def jE:List ByteArray:=[⟨#[37]⟩,⟨#[37,97]⟩,⟨#[37,98,32,99]⟩]
def adz:∀s∈pO,ay E true 188 [.sl 5 (pd.map aY.e),sV s] (bV true):=bW an
def adA(s:ByteArray)(hs:s∈pO++jE):s≠⟨#[]⟩/\s.size<=4:=by
 have h:((pO++jE).all λs=> !decide (s=⟨#[]⟩)&&Nat.ble s.size 4)=true:=an;have h1:=adr.1 h s hs;simp only[aff,afC,decide_eq_false_iff_not]at h1;exact⟨h1.1,Nat.le_of_ble_eq_true h1.2⟩
def Kb{s:ByteArray}(hs:s∈jE):s≠⟨#[]⟩/\s.size<=4:=adA s (List.mem_append_right _ hs)
structure Nd where
 p:Int
 t:Int
 text:ByteArray
 rem:List ByteArray
def Nd.e(n:Nd):List DV:=[iV n.p,iV n.t,sV n.text,strs n.rem]
def Nd.c(n:Nd):List DV:=[iV n.p,iV n.t,sV n.text,if n.p=-1 then strs n.rem else cm]
def gO(g:aj)(c:Nat)(i:Int):Bool:=match g.aF[i.toNat]? with
 |some t=>dI t.cond c
 |none=>false
def dr(g:aj)(c:Nat)(p:aK):Bool:=p.right.all (λs=> !s.tok||gO g c s.idx)&&dI p.cond c
structure DA(g:aj)(c:Nat)(i:Int)(n:Nd):Prop where
 p:n.p=-1
 t:n.t=i
 tok:∃t,g.aF[i.toNat]? =some t/\dI t.cond c=true/\(t.lit≠⟨#[]⟩->n.text=t.lit)/\(t.lit=⟨#[]⟩->n.text∈pO)
 rem:∀s∈n.rem,s∈jE/\gO g c 10=true
 len:n.rem.length<=11
inductive fT(g:aj)(c:Nat):List Sym->List Nd->Prop
 |nil:fT g c [] []
 |leaf {i:Int} {n:Nd} {r:List Sym} {ns:List Nd}:DA g c i n->fT g c r ns->fT g c (⟨true,i⟩::r) (n::ns)
 |node {i:Int} {r:List Sym} {ns:List Nd} {p:Nat} {P:aK}:g.aq[p]? =some P->P.left=i->dr g c P=true->fT g c (P.right++r) ns->fT g c (⟨false,i⟩::r) (⟨p,-1,⟨#[]⟩,[]⟩::ns)
def fT.app{g:aj}{c:Nat}{a:List Sym}{x:List Nd}(h:fT g c a x){b:List Sym}{y:List Nd}(h2:fT g c b y):fT g c (a++b) (x++y):=by
 induction h with
 |nil=>exact h2
 |leaf h1 _ ih=>exact .leaf h1 ih
 |node h1 h2 h3 _ ih=>rw[List.append_assoc]at ih;exact .node h1 h2 h3 ih
def fT.none{g:aj}{c:Nat}{a:List Sym}(h:fT g c a []):a=[]:=by cases h;rfl
def fG(g:aj)(p:Int):List Sym:=if p<0 then []else match g.aq[p.toNat]? with
 |some P=>P.right
 |none=>[]
def fH(g:aj)(n:Int×Int):Sym:=if n.1<0 then⟨true,n.2⟩else⟨false,match g.aq[n.1.toNat]? with
 |some P=>P.left
 |none=>0⟩
def zn(g:aj)(n:Int×Int):Prop:=(n.1=-1/\0<=n.2/\n.2.toNat<g.aF.length)\/(0<=n.1/\n.1.toNat<g.aq.length/\n.2=-1)
inductive jF(g:aj):List Sym->List (Int×Int)->Prop
 |nil:jF g [] []
 |node {r:List Sym} {n:Int×Int} {ns:List (Int×Int)}:zn g n->jF g (fG g n.1++r) ns->jF g (fH g n::r) (n::ns)
def sM(g:aj):List (Int×Int)->Nat->Nat
 |[],_=>0
 |_::_,0=>0
 |n::l,k+1=>1+sM g l (k+(fG g n.1).length)
def adB(g:aj):∀l,sM g l 0=0
 |[]=>rfl
 |_::_=>rfl
def sN(g:aj)(ns:List (Int×Int))(j:Nat):Nat:=j+sM g (ns.drop j) 1
def sO(g:aj)(ns:List (Int×Int)):List Nat:=(afo ns.length).map (sN g ns)
abbrev jG:=List (Nat×List Sym)
def ax(st:jG):List Sym:=st.flatMap (·.2)
def fI(g:aj)(ns:List (Int×Int))(i:Nat):Nat->jG->Prop
 |_,[]=>True
 |acc,(j,r)::b=>j<i/\sN g ns j=i+sM g (ns.drop i) (acc+r.length)/\fI g ns i (acc+r.length) b
def fI.step{g:aj}{ns:List (Int×Int)}{i:Nat}{n:Int×Int}(hn:ns[i]? =some n):∀{acc:Nat} {st:jG},fI g ns i (acc+1) st->fI g ns (i+1) (acc+(fG g n.1).length) st
 |_,[],_=>trivial
 |acc,(j,r)::b,⟨h1,h2,h3⟩=>by
  have hd:ns.drop i=n::ns.drop (i+1):=by
   obtain⟨h4,h5⟩:=HT.1 hn;rw[WZ h4,h5]
  refine⟨aa, ?_, ?_⟩
  . rw[h2,hd,show acc+1+r.length=(acc+r.length)+1 by omega,sM,show acc+(fG g n.1).length+r.length=acc+r.length+(fG g n.1).length by omega];omega
  . rw[show acc+1+r.length=acc+r.length+1 by omega]at h3;have:=fI.step hn h3;rw[show acc+(fG g n.1).length+r.length=acc+r.length+(fG g n.1).length by omega];exact this
def fI.push{g:aj}{ns:List (Int×Int)}{i:Nat}{n:Int×Int}(hn:ns[i]? =some n){j:Nat}{s:Sym}{r:List Sym}{b:jG}(h:fI g ns i 0 ((j,s::r)::b)):fI g ns (i+1) 0 ((i,fG g n.1)::(j,r)::b):=by
 have hd:ns.drop i=n::ns.drop (i+1):=by
  obtain⟨h4,h5⟩:=HT.1 hn;rw[WZ h4,h5]
 obtain⟨h1,h2,h3⟩:=h;have e:0+(s::r).length=1+r.length:=by simp;omega
 rw[e]at h2 h3;have h4:fI g ns i 1 ((j,r)::b):=⟨h1,h2,h3⟩;have h5:=fI.step (acc:=0) hn h4;refine⟨aa, ?_,by simpa using h5⟩;unfold sN;rw[hd,sM];simp;omega
def fI.first{g:aj}{ns:List (Int×Int)}{n:Int×Int}(hn:ns[0]? =some n):fI g ns 1 0 [(0,fG g n.1)]:=by
 have hd:ns=n::ns.drop 1:=by
  obtain⟨h4,h5⟩:=HT.1 hn;have:=WZ h4;rw[h5]at this;simpa using this
 refine⟨aa, ?_,trivial⟩;unfold sN;rw[afD];generalize ns.drop 1=d at*;subst hd;rw[sM];simp
def fI.pop{g:aj}{ns:List (Int×Int)}{i j:Nat}{b:jG}(h:fI g ns i 0 ((j,[])::b)):sN g ns j=i/\fI g ns i 0 b:=by
 obtain⟨_,h2,h3⟩:=h;simp only[afp,Nat.add_zero]at h2 h3;rw[adB]at h2;exact⟨aa,h3⟩
def jF.take{g:aj}{ss:List Sym}{ns:List (Int×Int)}(h:jF g ss ns){n:Int×Int}{r:List (Int×Int)}(e:ns=n::r):∃rs,ss=fH g n::rs/\zn g n/\jF g (fG g n.1++rs) r:=by
 cases h with
 |nil=>cases e
 |node h1 h2=>cases e;exact⟨_,rfl,h1,h2⟩
def jF.none{g:aj}{ss:List Sym}(h:jF g ss []):ss=[]:=by cases h;rfl
def Nd.pt(n:Nd):Int×Int:=(n.p,n.t)
def fT.shp{g:aj}{c:Nat}(hg:∀i:Int,∀t,g.aF[i.toNat]? =some t->0<=i\/True){ss:List Sym}{ns:List Nd}(h:fT g c ss ns)(h0:∀P∈g.aq,∀s∈P.right,s.tok=true->0<=s.idx)(hs:∀s∈ss,s.tok=true->0<=s.idx):jF g ss (ns.map Nd.pt):=by
 induction h with
 |nil=>exact .nil
 | @leaf i n r ns h1 _ ih=>
  obtain⟨t,ht,_⟩:=h1.tok;have hl:=(HT.1 ht).1;have e:fH g n.pt=⟨true,i⟩:=by simp[fH,Nd.pt,h1.p,h1.t]
  rw[<-e,afh];refine .node (.inl ⟨h1.p, ?_, ?_⟩) ?_
  . show 0<=n.t;rw[h1.t];exact hs ⟨true,i⟩ afE rfl
  . show n.t.toNat<_;rw[h1.t];exact hl
  . have:fG g n.pt.1=[]:=by simp[fG,Nd.pt,h1.p]
    rw[this];exact ih λs hm=>hs s (afw _ hm)
 | @node i r ns p P h1 h2 h3 _ ih=>
  have hl:=(HT.1 h1).1;have hp:¬((p:Nat):Int)<0:=aa;have e:fH g (Nd.pt ⟨p,-1,⟨#[]⟩,[]⟩)=⟨false,i⟩:=by simp[fH,Nd.pt,hp,h1,h2]
  rw[<-e,afh];refine .node (.inr ⟨by show(0:Int)<=p;omega,by show(p:Int).toNat<_;omega,rfl⟩) ?_;have:fG g (Nd.pt ⟨p,-1,⟨#[]⟩,[]⟩).1=P.right:=by simp[fG,Nd.pt,hp,h1]
  rw[this];refine ih λs hm=> ?_;rcases YN.1 hm with h|h
  . exact h0 P (Ey h1) s h
  . exact hs s (afw _ h)
structure eZ(g:aj):Prop where
 tc:∀t∈g.aF,∃ct,ct<256/\t.cond=aO ct
 pc:∀P∈g.aq,∃cp,cp<256/\P.cond=aO cp
 rl:∀P∈g.aq,P.right.length<=16
 rs:∀P∈g.aq,∀s∈P.right,0<=s.idx/\(s.tok=true->s.idx.toNat<9)/\(s.tok=false->s.idx.toNat<g.aI.length)
 pl:∀P∈g.aq,0<=P.left/\P.left.toNat<g.aI.length
 pn:g.aq.length<=1000
 nn:g.aI.length<=3
 tk:g.aF.map Tok.strip=aF.map Tok.strip
def eZ.tn{g:aj}(hk:eZ g):g.aF.length=11:=by
 have h:=congrArg List.length hk.tk;rw[Q0,Q0]at h;exact h
set_option maxHeartbeats 4000000 in
def adC(g:aj)(hk:eZ g)(c:Nat)(hc:c<8)(p:Nat)(P:aK)(hP:g.aq[p]? =some P):ay E true 187 [.agg g.e,cV c,iV (p:Nat)] (bV (dr g c P)):=by
 have aE:=Ey hP;obtain⟨cp,bL,bd⟩:=hk.pc P aE;have bf:=zj cp c bL hc;rw[<-bd]at bf;have bN:=hk.rl P aE;obtain⟨av,ad⟩:∃av,dr g c P=av:=⟨_,rfl⟩;rw[ad];refine aV Tryz.ntmps187 Tryz.results187 λN=> ?_;obtain⟨ge,aY⟩:∃ge,g.e=ge:=⟨_,rfl⟩;have af:ge=[strs g.conds,.sl 3 (g.family.nodes.map cB),iV g.family.root,.sl 7 (g.aF.map Tok.e),strs g.aI,.sl 13 (g.aq.map aK.e),iV g.start,.sl 4 (g.bj.map cP.e),.sl 9 (g.bx.map bl.e)]:=by rw[<-aY];rfl
 obtain⟨pe,bD⟩:∃pe,P.e=pe:=⟨_,rfl⟩;have ao:pe=[sV P.name,iV P.left,.sl 2 (P.right.map Sym.e),.sl 3 (P.cond.nodes.map cB),iV P.cond.root,bV P.bracket,iV P.eR,.sl 3 (P.layout.map lH.e),bV P.scope.opens,iV P.scope.declares,iV P.scope.kind,iV P.scope.tS,iV P.scope.allowed]:=by rw[<-bD];rfl
 have bO:pe.length=13:=by rw[ao];rfl
 have bR:pe.all cD=true:=by rw[ao];rfl
 have bg:(∀d∈pe,cD d=true)=True:=eq_true (by simpa using bR);have bS:pe.take 13=pe:=Rb aa;rw[aY];simp(disch:=omega)[go_sem,af,hP,-getElem?_pos,bD,bO,bg,bS];rw[<-af];obtain⟨I,hI⟩:∃I:Nat->DS->Prop,∀j d,I j d↔∃(k:Nat) (H:ah),j+k=P.right.length/\N+2<=H.next/\((P.right.drop k).all (λs=> !s.tok||gO g c s.idx)&&dI P.cond c)=av/\H.get N=some (.row ge true 0)/\H.get (N+1)=some (.row pe true 0)/\d=⟨bw [(1,cV c),(3,aX N),(7,aX (N+1)),(8,iV (k:Nat))],47,[],H⟩:=⟨_,λ_ _=>Fj⟩;refine bM I P.right.length ⟨_,aB.bk (l:=[(1,cV c),(3,aX N),(7,aX (N+1)),(8,iV (0:Nat))]) ai,(hI _ _).2 ⟨0,_,rfl,ai,by simpa[dr]using ad, ?_, ?_,rfl⟩⟩ ?_
 . simp(disch:=omega)[go_sem,af]
 . simp(disch:=omega)[go_sem,ao]
 . intro j ds aH;obtain⟨k,H,hj,hN,hr,f1,f2,rfl⟩:=(hI _ _).1 aH;clear aH;by_cases aM:k<P.right.length
   . have ab:(k:Int)<P.right.length:=aa;obtain⟨s,hs⟩:∃s,P.right[k]? =some s:=⟨_,yx aM⟩;have bm:=Ey hs;have hd:P.right.drop k=s::P.right.drop (k+1):=by rw[WZ aM,(HT.1 hs).2]
     rw[hd,List.all_cons]at hr;obtain⟨h0,h1,h2⟩:=hk.rs P aE s bm;have next:∀(H':ah) (T:Tr DV),H.next<=H'.next->(∀q,q<H.next->H'.get q=H.get q)->((!s.tok||gO g c s.idx)=true)->iQ T [(1,cV c),(3,aX N),(7,aX (N+1)),(8,iV (k+1:Nat))]->∃j',j'<j/\∃d',aB ⟨T,47,[],H'⟩ d'/\I j' d':=λH' T a1 a2 a3 a4=>
      ⟨j-1,aa,_,aB.bk a4,(hI _ _).2 ⟨k+1,H',aa,aa,by rw[a3,Bool.true_and]at hr;exact hr,by rw[a2 _ aa,f1],by rw[a2 _ aa,f2],rfl⟩⟩
     simp(disch:=omega)[go_sem,ab,f1,f2,ao];refine bH [ae 0,aC 1,ae 0,ae 7,ae 15,aC 31,ae 63,ae 127,aC 255,ae 127,aC 639,ae 127,ae 3711,ae 7807,aC 15999,ae 32767,ae 65535,aC 131071,ae 127,aT 524287,ae 1048575,ae 2097151] an 0 rfl ?_;cases hb:s.tok with
     |false=>
      simp(disch:=omega)[go_sem,f1,f2,ao,hs,-getElem?_pos,Sym.e,hb,aG];refine next _ _ (oY _) (λ_ _=>rfl) (by rw[hb];rfl) ?_
      exact ai
     |true=>
      obtain⟨t,ht⟩:∃t,g.aF[s.idx.toNat]? =some t:=⟨_,yx (by have:=h1 hb;have:=hk.tn;omega)⟩;obtain⟨ct,bT,bn⟩:=hk.tc t (Ey ht);have aP:=zj ct c bT hc;rw[<-bn]at aP;have aS:gO g c s.idx=dI t.cond c:=by simp only[gO,ht]
      simp only[Dg.e]at aP;simp(disch:=omega)[go_sem,f1,f2,ao,af,hs,ht,h0,-getElem?_pos,Sym.e,Tok.e,hb];refine au.mk aP λM=>aR λhM=> ?_;cases aZ:dI t.cond c with
      |true=>
       simp(disch:=omega)[go_sem,aG];refine next _ _ ?_ (λq hq=> ?_) (by rw[aS,aZ];simp) ?_
       . simp(disch:=omega)[go_sem];omega
       . exact ai
       . exact ai
      |false=>
       rw[hb,aS,aZ]at hr;simp at hr;subst hr;exact ai
   . have ab:¬(k:Int)<P.right.length:=aa;rw[afc aa]at hr;simp only[List.all_nil,Bool.true_and]at hr;subst hr;simp only[Dg.e]at bf;simp(disch:=omega)[go_sem,ab,f1,f2,ao];refine au.mk bf λM hM=> ?_;exact ai
def DB(a b:Int):nK E [.int .i64 a,.int .i64 b]=some (.int .i64 (min a b)):=by
 have:(if b<a then b else a)=min a b:=by split<;>omega
 rw[<-this];rfl
def pr0(r:List Sym)(k:Nat)(s:Sym)(hs:r[k]? =some s):r.drop k=s::r.drop (k+1):=by
 obtain⟨h1,h2⟩:=HT.1 hs;rw[WZ h1,h2]
set_option maxHeartbeats 4000000 in
def Kc(g:aj)(hk:eZ g)(c:Nat)(hc:c<8)(p:Nat)(P:aK)(hP:g.aq[p]? =some P)(l:List Nat)(hl:l.length=g.aI.length)(hb:∀x∈l,x<=1000):ay E true 124 [.agg g.e,cV c,iV (p:Nat),cI l] (iV (bB (dr g c) l P:Nat)):=by
 have aE:=Ey hP;have aJ:=adC g hk c hc p P hP;have bN:=hk.rl P aE;obtain⟨av,ad⟩:∃av,bB (dr g c) l P=av:=⟨_,rfl⟩;rw[ad];unfold bB at ad;refine aV Tryz.ntmps124 Tryz.results124 λN=> ?_;simp only[aj.e]at aJ;simp(disch:=omega)[go_sem,aj.e];refine au.mk aJ λM=>aR λhM=> ?_;cases aZ:dr g c P with
 |false=>
  rw[aZ]at ad;simp at ad;subst ad;exact ai
 |true=>
  rw[aZ,if_pos rfl]at ad;simp(disch:=omega)[go_sem,hP,-getElem?_pos,aK.e];obtain⟨X,hX⟩:∃X,vT l P.right=X:=⟨_,rfl⟩;rw[hX]at ad;have bE:=hX;unfold vT at bE;obtain⟨I,hI⟩:∃I:Nat->DS->Prop,∀j d,I j d↔∃(k n:Nat) (H:ah),j+k=P.right.length/\n<=1000/\(P.right.drop k).foldl (λn s=>if s.tok=true then n else max n (l.getD s.idx.toNat 0)) n=X/\d=⟨bw [(3,cI l),(9,iV (n:Nat)),(10,.sl 2 (P.right.map Sym.e)),(11,iV (k:Nat))],48,[],H⟩:=⟨_,λ_ _=>Fj⟩;refine bM I P.right.length ⟨_,aB.bk (l:=[(3,cI l),(9,iV (0:Nat)),(10,.sl 2 (P.right.map Sym.e)),(11,iV (0:Nat))]) ai,(hI _ _).2 ⟨0,0,_,rfl,aa,bE,rfl⟩⟩ ?_
  . intro j ds aH;obtain⟨k,n,H,hj,hn,hr,rfl⟩:=(hI _ _).1 aH;clear aH;by_cases aM:k<P.right.length
    . have ab:(k:Int)<P.right.length:=aa;obtain⟨s,hs⟩:∃s,P.right[k]? =some s:=⟨_,yx aM⟩;have bm:=Ey hs;rw[pr0 _ _ _ hs,afk]at hr;obtain⟨h0,h1,h2⟩:=hk.rs P aE s bm;have next:∀(n':Nat) (H':ah) (T:Tr DV),n'<=1000->(if s.tok=true then n else max n (l.getD s.idx.toNat 0))=n'->iQ T [(3,cI l),(9,iV (n':Nat)),(10,.sl 2 (P.right.map Sym.e)),(11,iV (k+1:Nat))]->∃j',j'<j/\∃d',aB ⟨T,48,[],H'⟩ d'/\I j' d':=λn' H' T a1 a2 a3=>
       ⟨j-1,aa,_,aB.bk a3,(hI _ _).2 ⟨k+1,n',H',aa,a1,by rw[a2]at hr;exact hr,rfl⟩⟩
      cases ba:s.tok with
      |true=>
       simp(disch:=omega)[go_sem,ab,hs,-getElem?_pos,Sym.e,ba,aG];refine next n _ _ hn (by rw[ba,if_pos rfl]) ?_
       exact ai
      |false=>
       obtain⟨m,hm⟩:∃m,l[s.idx.toNat]? =some m:=⟨_,yx (by rw[hl];exact h2 ba)⟩;have b1:=hb m (Ey hm);have bW:max (n:Int) (m:Int)=((max n m:Nat):Int):=aa;simp(disch:=omega)[go_sem,ab,hs,h0,hm,-getElem?_pos,Sym.e,ba,aG,lA,exact,Ie,bW];refine next (max n m) _ _ aa (by rw[ba,if_neg aA,afi,hm];rfl) ?_
       exact ai
    . have ab:¬(k:Int)<P.right.length:=aa;rw[afc aa]at hr;have hr:n=X:=hr;subst hr;have bX:min ((n:Int)+1) 1000=(av:Int):=aa;simp(disch:=omega)[go_sem,ab,aG,lA,exact,DB,bX]
def iH(l:List Nat):List DV:=l.map λn=>iV (n:Nat)
def Kd(l:List Nat):(l.map λn=>[iV (n:Nat)]).flatten=iH l:=by induction l with
 |nil=>rfl
 |cons x l ih=>simp only[afh,afx,ih];rfl
def DC(l:List Nat):(iH l).length=l.length:=Q0 ..
def Ke{l:List Nat}{i n:Nat}(h:l[i]? =some n):(iH l)[i]? =some (iV (n:Nat)):=by unfold iH;rw[afj,h];rfl
def DD(l:List Nat)(i v:Nat)(h:i<l.length):(iH l).take i++iV (v:Nat)::(iH l).drop (i+1)=iH (l.set i v):=by
 unfold iH;rw[List.map_set,List.set_eq_take_append_cons_drop,if_pos (by simpa using h)]
def Kf(n:Nat):(dY (Value.int .i64 0).cells.toList (n*1)).map DV.v=iH (afq n 0):=by
 have h:dY (Value.int .i64 0).cells.toList (n*1)=afq n (Value.int .i64 0):=by
  rw[afd];exact FJ (.int .i64 0) n
 rw[h];simp[iH]
def DE{S:fB}{r ak:Nat}{l:List Nat}(h:S r=some (iH l,ak))(he:ak=0\/ak=1):Fz S (.v (.slice (some ⟨r,0,none⟩) l.length l.length)) (cI l):=by
 rw[<-Kd]at h;exact dW h he aA aw (oY _) (zk l)
def take_set{l:List Nat}{k v:Nat}{a:List Nat}(h:l.take k=a)(hk:k<l.length):(l.set k v).take (k+1)=a++[v]:=by
 subst h;rw[Xt,List.take_set_of_le (oY k),List.getElem?_set_self hk];rfl
abbrev fU(r n:Nat):DV:=.v (.slice (some ⟨r,0,none⟩) n n)
def s3:E.size 3=some 1:=an
def b3:E.bytes 3=some 8:=an
def DF:E.under 100=some (.slice 3):=an
def Kg{pr:aK->Bool}{l:List Nat}(P:aK)(h:∀x∈l,x<=1000):∀x∈kD pr l P,x<=1000:=by
 intro x hx;unfold kD at hx;have:=BO (pr:=pr) l P;rcases List.mem_or_eq_of_mem_set hx with h1|h1
 . exact h x h1
 . omega
set_option maxHeartbeats 4000000 in
def adD(g:aj)(hk:eZ g)(c:Nat)(hc:c<8):ay E true 69 [.agg g.e,cV c] (cI (jr (dr g c) g.aq g.aI.length)):=by
 obtain⟨av,ad⟩:∃av,jr (dr g c) g.aq g.aI.length=av:=⟨_,rfl⟩;have bF:av.length=g.aI.length:=by rw[<-ad,yj]
 have b2:=hk.nn;have b5:=hk.pn;have bG:=λp P hP l hl hb=>Kc g hk c hc p P hP l hl hb;rw[ad];refine aV Tryz.ntmps69 Tryz.results69 λN=> ?_;obtain⟨ge,aY⟩:∃ge,g.e=ge:=⟨_,rfl⟩;have af:ge=[strs g.conds,.sl 3 (g.family.nodes.map cB),iV g.family.root,.sl 7 (g.aF.map Tok.e),strs g.aI,.sl 13 (g.aq.map aK.e),iV g.start,.sl 4 (g.bj.map cP.e),.sl 9 (g.bx.map bl.e)]:=by rw[<-aY];rfl
 rw[aY]at bG⊢;simp(disch:=omega)[go_sem,af];rw[<-af];refine zg (n:=g.aI.length) DF s3 tP b3 rfl aA aA ai ai aa ?_;rw[Kf];refine aL ?_;obtain⟨n,hn⟩:∃n,n=g.aI.length:=⟨_,rfl⟩;rw[<-hn]at ad bF⊢;obtain⟨I,hI⟩:∃I:Nat->DS->Prop,∀j d,I j d↔∃(k:Nat) (l:List Nat) (H:ah),j+k=n/\l.length=n/\l.take k=afq k 1000/\N+2<=H.next/\H.get N=some (.row ge true 0)/\H.get (N+1)=some (.row (iH l) true 0)/\d=⟨bw [(1,cV c),(2,aX N),(5,fU (N+1) n),(6,iV (k:Nat))],57,[],H⟩:=⟨_,λ_ _=>Fj⟩;refine bM I n ⟨_,aB.bk (l:=[(1,cV c),(2,aX N),(5,fU (N+1) n),(6,iV (0:Nat))]) ?_,(hI _ _).2 ⟨0,afq n 0,_,rfl,aw,aw, ?_, ?_, ?_,rfl⟩⟩ ?_
 . exact ai
 . exact ai
 . simp(disch:=omega)[go_sem,af]
 . exact ai
 intro j ds aH;obtain⟨k,l,H,hj,hl,aS,hN,f1,f2,rfl⟩:=(hI _ _).1 aH;clear aH;by_cases aM:k<n
 . have ab:(k:Int)<n:=aa;have bo:=DD l k 1000 aa;have bc:=DC l;have bq:(k+1<=l.length)=True:=eq_true aa;simp(disch:=omega)[go_sem,ab,f2,bc,bq,aG];refine⟨j-1,aa,_,aB.bk (l:=[(1,cV c),(2,aX N),(5,fU (N+1) n),(6,iV (k+1:Nat))]) ai,(hI _ _).2 ⟨k+1,l.set k 1000,_,aa,by simp[hl], ?_, ?_, ?_, ?_,rfl⟩⟩
   . rw[take_set aS aa,List.replicate_succ']
   . simp(disch:=omega)[go_sem,hN]
   . simp(disch:=omega)[go_sem,f1]
   . simp(disch:=omega)[go_sem];simpa using bo
 have ab:¬(k:Int)<n:=aa;have bs:l=gj (dr g c) g.aq n 0:=by
  rw[show k=n by omega,Rb aa]at aS;exact aS
 simp(disch:=omega)[go_sem,ab];obtain⟨J,hJ⟩:∃J:Nat->DS->Prop,∀j d,J j d↔∃(r:Nat) (l:List Nat) (H:ah),j+r=n+1/\l=gj (dr g c) g.aq n r/\(∀x∈l,x<=1000)/\N+2<=H.next/\H.get N=some (.row ge true 0)/\H.get (N+1)=some (.row (iH l) true 0)/\d=⟨bw [(1,cV c),(2,aX N),(5,fU (N+1) n),(7,iV (r:Nat))],57,[],H⟩:=⟨_,λ_ _=>Fj⟩;refine bM J (n+1) ⟨_,aB.bk (l:=[(1,cV c),(2,aX N),(5,fU (N+1) n),(7,iV (0:Nat))]) ?_,(hJ _ _).2 ⟨0,l,H,aa,bs, ?_,hN,f1,f2,rfl⟩⟩ ?_
 . exact ai
 . rw[bs];intro x hx;simp only[gj,afF]at hx;omega
 clear f1 f2 bs aS hl hN aM ab hI I H l hj;intro j ds bI;obtain⟨r,l,H,hj,hl,hb,hN,f1,f2,rfl⟩:=(hJ _ _).1 bI;clear bI;by_cases aM:r<n+1
 . have ab:(r:Int)<n+1:=aa;simp(disch:=omega)[go_sem,ab,aG];obtain⟨L,hL⟩:∃L:Nat->DS->Prop,∀j d,L j d↔∃(k:Nat) (l:List Nat) (H:ah),j+k=g.aq.length/\l.length=n/\gF (dr g c) (g.aq.drop k) l=gj (dr g c) g.aq n (r+1)/\(∀x∈l,x<=1000)/\N+2<=H.next/\H.get N=some (.row ge true 0)/\H.get (N+1)=some (.row (iH l) true 0)/\d=⟨bw [(1,cV c),(2,aX N),(5,fU (N+1) n),(7,iV (r:Nat)),(8,iV (k:Nat))],57,[],H⟩:=⟨_,λ_ _=>Fj⟩;refine bM L g.aq.length ⟨_,aB.bk (l:=[(1,cV c),(2,aX N),(5,fU (N+1) n),(7,iV (r:Nat)),(8,iV (0:Nat))]) ?_,(hL _ _).2 ⟨0,l,H,aa,by rw[hl,vV],by rw[hl];rfl,hb,hN,f1,f2,rfl⟩⟩ ?_
   . exact ai
   clear f1 f2 hl hb hN H l;intro j2 b6 bJ;obtain⟨k,l,H,b7,hl,aW,hb,hN,f1,f2,rfl⟩:=(hL _ _).1 bJ;clear bJ;by_cases bb:k<g.aq.length
   . have az:(k:Int)<g.aq.length:=aa;obtain⟨P,hP⟩:∃P,g.aq[k]? =some P:=⟨_,yx bb⟩;have aE:=Ey hP;obtain⟨p0,p1⟩:=hk.pl P aE;have hh:=bG k P hP l (by rw[hl,hn]) hb;have hd:g.aq.drop k=P::g.aq.drop (k+1):=by rw[WZ bb,(HT.1 hP).2]
     rw[hd]at aW;obtain⟨v,hv⟩:∃v,l[P.left.toNat]? =some v:=⟨_,yx aa⟩;have bY:=Ke hv;have bc:=DC l;have bZ:l.getD P.left.toNat 0=v:=by rw[afi,hv];rfl
     obtain⟨q,hq⟩:∃q,bB (dr g c) l P=q:=⟨_,rfl⟩;rw[hq]at hh;have b0:kD (dr g c) l P=l.set P.left.toNat (min v q):=by unfold kD;rw[bZ,hq]
     have bo:=DD l P.left.toNat (min v q) aa;have bt:min (v:Int) (q:Int)=((min v q:Nat):Int):=aa;have bu:ge.take 9=ge:=by rw[af];rfl
     have bz:ge.length=9:=by rw[af];rfl
     simp(disch:=omega)[go_sem,az,f1,af,hP,-getElem?_pos,aK.e];refine bH [ae 0,ae 0,jW 0,jW 0,jW 12,dq 28,aC 0,ae 0,ae 0,ae 0,aT 960,aC 2044,ae 4095,aT 8191] an 0 rfl ?_;simp(disch:=omega)[go_sem,f1,f2,bu,bz,bY,p0,bc,-getElem?_pos];refine⟨aa, ?_⟩;refine au.pl hh (.cons (.refl _) (.cons (.refl _) (.cons (.refl _) (.cons ?_ .nil)))) λM hM=> ?_
     . have h1:=DE (S:=allRows H) (r:=N+1) (l:=l) (cu f2) (.inl rfl);rw[hl]at h1;exact h1
     replace hM:=cr hM;have bq:(P.left.toNat+1<=l.length)=True:=eq_true aa;simp(disch:=omega)[go_sem,f1,f2,lA,exact,DB,bt,p0,bc,bq,aG];refine⟨j2-1,aa,_,aB.bk (l:=[(1,cV c),(2,aX N),(5,fU (N+1) n),(7,iV (r:Nat)),(8,iV (k+1:Nat))]) ai,(hL _ _).2 ⟨k+1,kD (dr g c) l P,_,aa,by rw[BQ,hl],aW,Kg P hb, ?_, ?_, ?_,rfl⟩⟩
     . simp(disch:=omega)[go_sem];omega
     . simp(disch:=omega)[go_sem,f1]
     . simp(disch:=omega)[go_sem];rw[b0];exact bo
   . have az:¬(k:Int)<g.aq.length:=aa;rw[afc aa]at aW;have aW:l=gj (dr g c) g.aq n (r+1):=aW;simp(disch:=omega)[go_sem,az,f1,af,aG];refine⟨j-1,aa,_,aB.bk (l:=[(1,cV c),(2,aX N),(5,fU (N+1) n),(7,iV (r+1:Nat))]) ?_,(hJ _ _).2 ⟨r+1,l,H,aa,aW,hb,hN,f1,f2,rfl⟩⟩;exact ai
 . have ab:¬(r:Int)<n+1:=aa;have hr:l=av:=by rw[hl,show r=n+1 by omega,<-ad];rfl
   subst hr;simp(disch:=omega)[go_sem,ab,aG];have h1:=DE (S:=allRows H) (r:=N+1) (l:=l) (cu f2) (.inl rfl);rw[bF]at h1;exact h1
def cR(g:aj)(c:Nat)(L:List Int)(a:Nat)(hi pv:DV):List DV:=[strs g.conds,.sl 3 (g.family.nodes.map cB),iV g.family.root,.sl 7 (g.aF.map Tok.e),strs g.aI,.sl 13 (g.aq.map aK.e),iV g.start,.sl 4 (g.bj.map cP.e),.sl 9 (g.bx.map bl.e),cV c,.sl 1 (L.map λb=>[uV b]),iV (a:Nat),hi,pv]
def KzD(K:b9)(dd:List FuncId)(h:ah)(d:DV)(h':ah):Prop:=∃l v',(∀i∈l,h.next<=i/\(h'.get i).isSome=true)/\Fz (rowsOf h' l) d v'/\∀T,K v' dd (eV h' l) T
def adE{f:FuncId}{fn:Func}{c:Code}{args:List DV}{K:b9}{dd:List FuncId}{h:ah}{n:Nat}(hn:fn.ntmps=n){rs:List ResultVar}(bd:fn.results=rs.toArray)
 (hq:RD E true c ⟨gD args,args.length+(n-args.length),[],h⟩ (ib E rs (KzD K dd h))) (bf:E.fn f=some fn:=by kernel_rfl) (hb:fn.body=some c:=by rfl):au E true K dd h (f,args):=by
 refine cJ.rz ?_;intro G ha vs x hr;obtain⟨v,h',r1,d,bg,G',r2,r3,r4,l,v',q1,q2,q3⟩:=cJ.body (ar:=true) (jj []) ko (qf []) bf hb hn bd hq G ha vs x hr;exact⟨v,h',r1,d,bg,G',afo ha.next,r2,r3,r4,λi hi hn=>absurd (List.mem_range.2 hi) hn,l,v',q1,q2,q3 _⟩
set_option maxHeartbeats 4000000 in
def zo{K:b9}{dd:List FuncId}{H:ah}{X n:Nat}(g:aj)(c:Nat)(L:List Int)(a:Nat)(hi pv:DV)(hX:H.get X=some (.row (cR g c L a hi pv) true 0))(hL:∀b∈L,0<=b/\b<256)(bB:L.length<=1000)(hn:1<=n)(bD:n<=100000)
 (hk:∀(a' r:Nat) H' T,r<n->(a<L.length->a'=a+1)->(L.length<=a->a'=a)->H'.next=H.next->H'.get X=some (.row (cR g c L a' hi pv) true 0)->(∀j,j≠X->H'.get j=H.get j)->K (iV (r:Nat)) dd H' T):au E true K dd H (125,[aX X,iV (n:Nat)]):=by
 refine fw Tryz.ntmps125 Tryz.results125 ?_;have aW:¬(n:Int)<1:=aa;by_cases ha:a<L.length
 . have aJ:¬(L.length:Int)<=a:=aa;obtain⟨b,hb⟩:∃b,L[a]? =some b:=⟨_,yx ha⟩;obtain⟨b0,b1⟩:=hL b (Ey hb);have bE:0<=b%(n:Int):=Int.emod_nonneg _ aa;have bF:b%(n:Int)<n:=Int.emod_lt_of_pos _ aa;have bn:¬(n:Int)=0:=aa;have hr:b%(n:Int)=((b%(n:Int)).toNat:Int):=aa;refine aL ?_;refine bH [ae 0,ae 1,ae 3,aC 7,ae 0,ae 16,ae 48,aC 112,aC 240,ae 511,ae 1023,ae 2047,ae 4095,ae 8191] an 0 rfl ?_;simp(disch:=omega)[go_sem,hX,cR,aJ,aW,aG];refine bH [ae 0,ae 1,ae 3,aC 7,ae 0,ae 16,ae 48,aC 112,ae 240,ae 511,aC 1023,aC 2047,ae 0,ae 8191,ae 16383] an 0 rfl ?_;simp(disch:=omega)[go_sem,hX,cR,hb,-getElem?_pos,aG,dw,bn];rw[hr];intro T;refine hk (a+1) _ _ T aa (λ_=>rfl) (λh=>aa) ai ?_ (λj hj=> ?_)
   . simp(disch:=omega)[go_sem,cR]
   . simp(disch:=omega)[go_sem,hj]
 . have aJ:(L.length:Int)<=a:=aa;refine aL ?_;refine bH [ae 0,ae 1,ae 3,aC 7,ae 0,ae 16,ae 48,aC 112,aC 240,ae 511,ae 1023,ae 2047,ae 4095,ae 8191] an 0 rfl ?_;simp(disch:=omega)[go_sem,hX,cR,aJ,aW];intro T;exact hk a 0 _ T aa (λh=>aa) (λ_=>rfl) rfl hX λ_ _=>rfl
def Kh{t t':Tok}(h:t.strip=t'.strip):t.cls=t'.cls/\t.lit=t'.lit/\t.pat=t'.pat/\t.kW=t'.kW:=by
 have:=h;simp only[Tok.strip,Tok.mk.injEq]at this;exact⟨this.2.1,this.2.2.1,this.2.2.2.1,this.2.2.2.2.1⟩
def eZ.zp{g:aj}(hk:eZ g){k:Nat}{t:Tok}(ht:g.aF[k]? =some t):∃t0,aF[k]? =some t0/\t.cls=t0.cls/\t.lit=t0.lit/\t.pat=t0.pat/\t.kW=t0.kW:=by
 have h:=congrArg (·[k]?) hk.tk;simp only[afj,ht,afG]at h;cases h0:aF[k]? with
 |none=>rw[h0]at h;cases h
 |some t0=>
  rw[h0]at h;exact⟨t0,rfl,Kh (afH h)⟩
def DG:∀(k:Nat) (t0:Tok),aF[k]? =some t0->(t0.cls=2↔k=10)/\(k<9->t0.cls=0):=by
 intro k t0 h;have hl:k<11:=(HT.1 h).1;have h2:((afo 11).all λk=>match aF[k]? with|some t0=>(decide (t0.cls=2)==decide (k=10))&&(!decide (k<9)||decide (t0.cls=0))|none=>false)=true:=aA;have h3:=adr.1 h2 k (by simpa using hl);rw[h]at h3;simp only[aff,beq_iff_eq,decide_eq_decide,Bool.or_eq_true,afC,decide_eq_false_iff_not,decide_eq_true_eq]at h3;exact⟨h3.1,λh=>by rcases h3.2 with h4|h4;exact absurd h h4;exact h4⟩
def Ki(t:Tok)(s:ByteArray)(h0:t.lit=⟨#[]⟩)(b:Bool)(hm:ay E true 188 [.sl 5 (t.pat.map aY.e),sV s] (bV b)):ay E true 126 [.agg t.e,sV s] (bV b):=by
 refine aV Tryz.ntmps126 Tryz.results126 λN=> ?_;simp(disch:=omega)[go_sem,Tok.e,h0];refine au.mk hm λM hM=> ?_;exact ai
set_option maxHeartbeats 4000000 in
def adF(g:aj)(hk:eZ g)(c:Nat)(hc:c<8)(s:ByteArray)(hs:s∈jE):∃b,ay E true 128 [.agg g.e,cV c,sV s] (bV b)/\(b=true->gO g c 10=true):=by
 obtain⟨bo,bG⟩:=Kb hs;obtain⟨bm,hm⟩:=ady s aa;refine⟨gO g c 10&&bm, ?_,λh=>(aff _ _▸h).1⟩;have aM:=hk.tn;obtain⟨ao,av⟩:∃ao,(gO g c 10&&bm)=ao:=⟨_,rfl⟩;have aO:=λk t=>hk.zp (k:=k) (t:=t);have bq:=hk.tc;rw[av];refine aV Tryz.ntmps128 Tryz.results128 λN=> ?_;obtain⟨ge,aZ⟩:∃ge,g.e=ge:=⟨_,rfl⟩;have ab:ge=[strs g.conds,.sl 3 (g.family.nodes.map cB),iV g.family.root,.sl 7 (g.aF.map Tok.e),strs g.aI,.sl 13 (g.aq.map aK.e),iV g.start,.sl 4 (g.bj.map cP.e),.sl 9 (g.bx.map bl.e)]:=by rw[<-aZ];rfl
 rw[aZ];simp(disch:=omega)[go_sem,ab];rw[<-ab];obtain⟨I,hI⟩:∃I:Nat->DS->Prop,∀j d,I j d↔∃(k:Nat) (H:ah),j+k=11/\(k=11->ao=false)/\N+1<=H.next/\H.get N=some (.row ge true 0)/\d=⟨bw [(1,cV c),(2,sV s),(3,aX N),(7,iV (k:Nat))],39,[],H⟩:=⟨_,λ_ _=>Fj⟩;refine bM I 11 ⟨_,aB.bk (l:=[(1,cV c),(2,sV s),(3,aX N),(7,iV (0:Nat))]) ?_,(hI _ _).2 ⟨0,_,rfl,aa, ?_, ?_,rfl⟩⟩ ?_
 . exact ai
 . exact ai
 . simp(disch:=omega)[go_sem,ab]
 intro j ds ba;obtain⟨k,H,hj,hr,hN,f1,rfl⟩:=(hI _ _).1 ba;clear ba;by_cases bI:k<11
 . have ad:(k:Int)<11:=aa;obtain⟨t,ht⟩:∃t,g.aF[k]? =some t:=⟨_,yx aa⟩;obtain⟨t0,aP,bb,bs,bt,bJ⟩:=aO k t ht;obtain⟨bc,bL⟩:=DG k t0 aP;have next:(k=10->ao=false)->∀(H':ah) (T:Tr DV),H.next<=H'.next->H'.get N=some (.row ge true 0)->iQ T [(1,cV c),(2,sV s),(3,aX N),(7,iV (k+1:Nat))]->∃j',j'<j/\∃d',aB ⟨T,39,[],H'⟩ d'/\I j' d':=λa0 H' T a1 a2 a3=>
    ⟨j-1,aa,_,aB.bk a3,(hI _ _).2 ⟨k+1,H',aa,λh=>a0 aa,aa,a2,rfl⟩⟩
   obtain⟨te,aw⟩:∃te,t.e=te:=⟨_,rfl⟩;have af:te=[sV t.name,iV t.cls,sV t.lit,.sl 5 (t.pat.map aY.e),sV t.kW,.sl 3 (t.cond.nodes.map cB),iV t.cond.root]:=by rw[<-aw];rfl
   by_cases az:k=10
   . have aE:t.cls=2:=by rw[bb];exact bc.2 az
     subst az;have bu:aF[10]? =some tU:=rfl;rw[bu]at aP;cases aP;obtain⟨ct,bz,aS⟩:=bq t (Ey ht);have aT:=zj ct c bz hc;rw[<-aS]at aT;have aH:ao=(dI t.cond c&&bm):=by rw[<-av];simp only[gO];rw[show(10:Int).toNat=10 from rfl,ht]
     have hw:=Ki t s bs bm (by rw[bt];exact hm);simp only[Dg.e]at aT;rw[aw,af,aE]at hw;simp(disch:=omega)[go_sem,f1,ab,aM,ht,-getElem?_pos,aw,af,aE];refine au.mk aT λM=>aR λhM=> ?_;have no:ao=false->∀(H':ah) (T:Tr DV),_:=λh=>next λ_=>h
     cases hR:dI t.cond c with
     |false=>
      simp(disch:=omega)[go_sem,aG];refine no (by rw[aH,hR];rfl) _ _ ?_ ?_ ?_
      . simp(disch:=omega)[go_sem];omega
      . simp(disch:=omega)[go_sem,f1]
      . exact ai
     |true=>
      simp(disch:=omega)[go_sem,bo];refine au.mk hw λM2=>aR λbN=> ?_;rw[hR]at aH;cases bm with
      |true=>simp(disch:=omega)[go_sem,aH]
      |false=>
       simp(disch:=omega)[go_sem,aG];refine no aH _ _ ?_ ?_ ai
       . simp(disch:=omega)[go_sem];omega
       . simp(disch:=omega)[go_sem,f1]
   . have aE:¬t.cls=2:=λh=>az (bc.1 (by rw[<-bb];exact h));simp(disch:=omega)[go_sem,ad,f1,ab,aM,ht,-getElem?_pos,aw,af,aE,aG];refine next (λh=>absurd h az) _ _ ai ?_ ai
     . simp(disch:=omega)[go_sem,f1]
 . have ad:¬(k:Int)<11:=aa;have hr:=hr aa;subst hr;simp(disch:=omega)[go_sem,ad,f1,ab,aM]
def sP(l:List ByteArray):∀x∈l.map λs=>[sV s],x.length=1:=λx hx=>by obtain⟨y,_,rfl⟩:=Rm.1 hx;rfl
set_option maxHeartbeats 4000000 in
def DH{K:b9}{dd:List FuncId}{H:ah}{X:Nat}(g:aj)(hk:eZ g)(c:Nat)(hc:c<8)(L:List Int)(a:Nat)(hi pv:DV)(hX:H.get X=some (.row (cR g c L a hi pv) true 0))(hL:∀b∈L,0<=b/\b<256)(ba:L.length<=1000)(bb:X<H.next)
 (hK:∀(a':Nat) (rs:List ByteArray) H' T,(∀s∈rs,s∈jE/\gO g c 10=true)->a<=a'->a'<=max a L.length->H.next<=H'.next->H'.get X=some (.row (cR g c L a' hi pv) true 0)->(∀j,j<H.next->j≠X->H'.get j=H.get j)->rs.length<=11->K (strs rs) dd H' T):au E true K dd H (71,[aX X]):=by
 have bf:=λs hs=>adF g hk c hc s hs;refine adE Tryz.ntmps71 Tryz.results71 ?_;refine aL ?_;refine zo (n:=12) g c L a hi pv hX hL ba aA aA λa1 r H1 T1 q0 q1 q2 q3 q4 q5=> ?_;refine aL ?_;obtain⟨I,hI⟩:∃I:Nat->DS->Prop,∀j d,I j d↔∃(k a':Nat) (rs:List ByteArray) (H':ah) (aE:DV),j=k/\k<=11/\rs.length+k<=11/\(∀s∈rs,s∈jE/\gO g c 10=true)/\a<=a'/\a'<=max a L.length/\H.next<=H'.next/\H'.get X=some (.row (cR g c L a' hi pv) true 0)/\(∀j,j<H.next->j≠X->H'.get j=H.get j)/\cz H' H.next H'.next 1 (rs.map λs=>[sV s]) aE/\
  d=⟨bw [(0,aX X),(3,aE),(4,iV (k:Nat))],32,[],H'⟩:=⟨_,λ_ _=>Fj⟩
 refine bM I r ⟨_,aB.bk (l:=[(0,aX X),(3,cm),(4,iV (r:Nat))]) ?_,(hI _ _).2 ⟨r,a1,[],H1,cm,rfl,aa,by simp;omega,aw,aa,aa,aa,q4,λj h1 h2=>q5 j h2,.nil _ _ _ _,rfl⟩⟩ ?_
 . exact ai
 clear q0 q1 q2 q3 q4 q5 hX;intro j ds aW;obtain⟨k,a',rs,H',aE,hj,bT,cb,bg,b1,b2,b3,f1,f2,hgr,rfl⟩:=(hI _ _).1 aW;clear aW;by_cases bu:9<k
 . have af:(9:Int)<k:=aa;simp(disch:=omega)[go_sem,af];refine zo (n:=3) g c L a' hi pv (by simp(disch:=omega)[go_sem,f1]) hL ba aA aA λa2 r2 H2 T2 p0 p1 p2 p3 p4 p5=> ?_;replace p3:=cr p3;obtain⟨s,hs⟩:∃s,jE[r2]? =some s:=⟨_,yx (by simpa[jE]using p0)⟩;have bz:=Ey hs;have hB:=p5 H'.next aa;replace hB:=cr hB;have aY:[sV ⟨#[37]⟩,sV ⟨#[37,97]⟩,sV ⟨#[37,98,32,99]⟩][r2]? =some (sV s):=by
    have h1:=congrArg (Option.map sV) hs;rw[<-afj]at h1;exact h1
   obtain⟨bm,bD,bW⟩:=bf s bz;simp only[aj.e]at bD;have aO:cz H2 H.next H2.next 1 (rs.map λs=>[sV s]) aE:=hgr.same (λq q1 q2=>by rw[p5 q aa];simp(disch:=omega)[go_sem]) aa;have fr:∀j,j<H.next->j≠X->H2.get j=H.get j:=λj h1 h2=>by rw[p5 j h2,<-f2 j h1 h2];simp(disch:=omega)[go_sem]
   simp(disch:=omega)[go_sem,hB,aY,-getElem?_pos];refine bH [ae 0,ae 1,ae 3,aC 7,ae 0,ae 16,ae 48,aC 112,ae 0,aT 511] an 0 rfl ?_;simp(disch:=omega)[go_sem,p4,cR];refine au.mk bD λM=>aR λhM=> ?_;cases hb:bm with
   |false=>
    simp(disch:=omega)[go_sem,aG];refine⟨j-1,aa,_,aB.bk (l:=[(0,aX X),(3,aE),(4,iV (k-1:Nat))]) ?_,(hI _ _).2 ⟨k-1,a2,rs,H2.up M,aE,aa,aa,aa,bg,aa,aa,by simp(disch:=omega)[go_sem];omega,by simp(disch:=omega)[go_sem,p4],λj h1 h2=>by rw[<-fr j h1 h2];simp(disch:=omega)[go_sem],aO.same (λq _ _=>rfl) (by simp(disch:=omega)[go_sem];omega),rfl⟩⟩;refine aL ?_;omega
   |true=>
    refine aL ?_;refine cz.app (st:=30) (xt:=30) (B:=H.next) (U:=H2.next) (k:=1) (xs:=rs.map λs=>[sV s]) (aO.same (λq q1 q2=>by rw[ah.cW,if_neg (by show q≠M;omega)];rfl) (oY _)) yb ya aa (by simp(disch:=omega)[go_sem];omega) (new:=[sV s]) ai aA rfl rfl (sP rs) (by simp;omega) λH3 aJ T3 _ z1 z2 z3 _=> ?_;simp(disch:=omega)[go_sem]at z2 z3;have aZ:=aO.ne (j:=X) (.inl bb);simp(disch:=omega)[go_sem,aG];refine⟨j-1,aa,_,aB.bk (l:=[(0,aX X),(3,aJ),(4,iV (k-1:Nat))]) ?_,(hI _ _).2 ⟨k-1,a2,rs++[s],H3,aJ,aa,aa,by simp;omega, ?_,aa,aa,aa, ?_,λj h1 h2=> ?_,by simpa using z1,rfl⟩⟩
    . simp(disch:=omega)[go_sem];omega
    . intro x hx;rcases YN.1 hx with h|h
      . exact bg x h
      . rw[Yt.1 h];exact⟨bz,bW hb⟩
    . rw[z3 X aa aZ];simp(disch:=omega)[go_sem,p4]
    . rw[z3 j aa (aO.ne (.inl h1)),<-fr j h1 h2];exact if_neg aa
 . have af:¬(9:Int)<k:=aa;simp(disch:=omega)[go_sem,af];rcases hgr with⟨h0,rfl⟩|⟨R,r1,r2,rfl,r4⟩
   . have h0:rs=[]:=by simpa using h0
     subst h0;refine⟨[],strs [],aw,.nil aA,λT=> ?_⟩;exact hK a' [] H' T aw b1 b2 b3 f1 f2 aw
   . refine⟨[R],strs rs, ?_,dW (ak:=1) (fq (Yt.2 rfl) r4) (.inr rfl) aA rfl (oY _) (sP rs),λT=> ?_⟩
     . intro i bX;obtain rfl:=Yt.1 bX;exact⟨r1,by rw[r4];rfl⟩
     . refine hK a' rs _ T bg b1 b2 (by rw[tL];exact b3) ?_ (λj h1 h2=> ?_) aa
       . rw[kU,if_neg (by simp;omega),f1]
       . rw[kU,if_neg (by simp;omega),f2 j h1 h2]
abbrev cS(g:aj)(c:Nat):List Nat:=jr (dr g c) g.aq g.aI.length
def eZ.jr{g:aj}(hk:eZ g)(c:Nat):(∀p∈g.aq,(cS g c).getD p.left.toNat 0<=bB (dr g c) (cS g c) p\/bB (dr g c) (cS g c) p=1000)/\∀i,i<g.aI.length->(cS g c).getD i 0<1000->(cS g c).getD i 0<=3/\∃p∈g.aq,p.left.toNat=i/\bB (dr g c) (cS g c) p=(cS g c).getD i 0:=
 Xn hk.nn (λp hp=>(hk.pl p hp).2) (λp hp s hs ht=>(hk.rs p hp s hs).2.2 ht)
def Kj(g:aj)(hk:eZ g)(c:Nat):∀x∈cS g c,x<=1000:=by
 intro x hx;obtain⟨i,hi,rfl⟩:=List.mem_iff_getElem.1 hx;have hl:(cS g c).length=g.aI.length:=yj _ _;by_cases h:(cS g c).getD i 0<1000
 . have:(cS g c).getD i 0=(cS g c)[i]:=by rw[afi,yx hi];rfl
   omega
 . have key:∀n ps,∀k,∀x∈gj (dr g c) ps n k,x<=1000:=by
    intro n ps k
    induction k with
    |zero=>intro x hx;simp only[gj,afF]at hx;omega
    |succ k ih=>
     have:∀(qs:List aK) (l:List Nat),(∀x∈l,x<=1000)->∀x∈gF (dr g c) qs l,x<=1000:=by
      intro qs
      induction qs with
      |nil=>exactλl h=>h
      |cons q qs bY=>exactλl h=>bY _ (Kg q h)
     exact this _ _ ih
   exact key _ _ _ _ hx
set_option maxHeartbeats 8000000 in
def adG{K:b9}{dd:List FuncId}{H:ah}{X B:Nat}(g:aj)(hk:eZ g)(c:Nat)(hc:c<8)(L:List Int)(a:Nat)(pv:DV)(xs:List (List DV))(hX:H.get X=some (.row (cR g c L a (cI (cS g c)) pv) true 0))(hL:∀b∈L,0<=b/\b<256)(ba:L.length<=1000)(bb:X<H.next)(bZ:cz H B H.next 4 xs pv)
 (left:Int) (bl:0<=left) (hl:left.toNat<g.aI.length) (hf:(cS g c).getD left.toNat 0<1000)
 (hK:∀(p:Nat) P a' H' T,g.aq[p]? =some P->P.left=left->bB (dr g c) (cS g c) P<1000->(a'=a+1/\a<L.length\/a'=a/\bB (dr g c) (cS g c) P=(cS g c).getD left.toNat 0)->H.next<=H'.next->H'.get X=some (.row (cR g c L a' (cI (cS g c)) pv) true 0)->(∀j,j<H.next->j≠X->H'.get j=H.get j)->K (iV (p:Nat)) dd H' T):au E true K dd H (127,[aX X,iV left]):=by
 obtain⟨b0,bE⟩:=hk.jr c;obtain⟨_,P0,bF,cc,bn⟩:=bE left.toNat hl hf;have bG:(cS g c).length=g.aI.length:=yj _ _;have bI:=λp P hP=>Kc g hk c hc p P hP (cS g c) bG (Kj g hk c);have cd:=hk.pn;have bJ:=hk.pl;obtain⟨HS,bL⟩:∃HS,cS g c=HS:=⟨_,rfl⟩;rw[bL]at hX hf bn hK bG;simp only[bL]at bI;clear b0 bE;obtain⟨hv,bc⟩:∃hv,HS[left.toNat]? =some hv:=⟨_,yx aa⟩;have b5:HS.getD left.toNat 0=hv:=by rw[afi,bc];rfl
 rw[b5]at hf bn hK;have hlen:∀h,fp E h 42 pv=some (iV (xs.length:Nat)):=λh=>by
  rcases bZ with⟨rfl,rfl⟩|⟨R,_,_,rfl,_⟩<;>simp[go_sem]
 refine fw Tryz.ntmps127 Tryz.results127 ?_;refine aL ?_;obtain⟨I,hI⟩:∃I:Nat->DS->Prop,∀j d,I j d↔∃(k:Nat) (al:List Nat) (ab:Int) (H':ah) (aE:DV),j+k=g.aq.length/\al.length<=k/\(∀p∈al,∃P,g.aq[p]? =some P/\P.left=left/\bB (dr g c) HS P<1000)/\
  ((ab=-1/\∀p P,p<k->g.aq[p]? =some P->P.left=left->bB (dr g c) HS P≠hv)\/(al≠[]/\∃(p:Nat) (P:aK),ab=p/\g.aq[p]? =some P/\P.left=left/\bB (dr g c) HS P=hv))/\
  H.next<=H'.next/\(∀j,j<H.next->H'.get j=H.get j)/\cz H' H.next H'.next 1 (al.map λn=>[iV (n:Nat)]) aE/\d=⟨bw [(0,aX X),(1,iV left),(5,aE),(6,iV ab),(7,iV (k:Nat))],92,[],H'⟩:=⟨_,λ_ _=>Fj⟩
 refine bM I g.aq.length ⟨_,aB.bk (l:=[(0,aX X),(1,iV left),(5,cm),(6,iV (-1)),(7,iV (0:Nat))]) ?_,(hI _ _).2 ⟨0,[],-1,H,cm,rfl,aw,aw,.inl ⟨rfl,λp P h=>aa⟩,aa,λ_ _=>rfl,.nil _ _ _ _,rfl⟩⟩ ?_
 . exact ai
 intro j ds aW;obtain⟨k,al,ab,H',aE,hj,cg,az,aM,hN,fr,hgr,rfl⟩:=(hI _ _).1 aW;clear aW;have aH:H'.get X=some (.row (cR g c L a (cI HS) pv) true 0):=by rw[fr X bb,hX]
 by_cases bu:k<g.aq.length
 . have af:(k:Int)<g.aq.length:=aa;obtain⟨P,hP⟩:∃P,g.aq[k]? =some P:=⟨_,yx bu⟩;have hh:=bI k P hP;obtain⟨p0,p1⟩:=bJ P (Ey hP);obtain⟨q,hq⟩:∃q,bB (dr g c) HS P=q:=⟨_,rfl⟩;rw[hq]at hh;simp only[aj.e]at hh;have next:∀(aV:List Nat) (ad:Int) (H2:ah) (aJ:DV) (T:Tr DV),aV.length<=k+1->(∀p∈aV,∃P,g.aq[p]? =some P/\P.left=left/\bB (dr g c) HS P<1000)->((ad=-1/\∀p P,p<k+1->g.aq[p]? =some P->P.left=left->bB (dr g c) HS P≠hv)\/(aV≠[]/\∃(p:Nat) (P:aK),ad=p/\g.aq[p]? =some P/\P.left=left/\bB (dr g c) HS P=hv))->H'.next<=H2.next->(∀j,j<H.next->H2.get j=H'.get j)->cz H2 H.next H2.next 1 (aV.map λn=>[iV (n:Nat)]) aJ->iQ T [(0,aX X),(1,iV left),(5,aJ),(6,iV ad),(7,iV (k+1:Nat))]->∃j',j'<j/\∃d',aB ⟨T,92,[],H2⟩ d'/\I j' d':=λaV ad H2 aJ T a1 a2 a3 a4 a5 a6 a7=>
    ⟨j-1,aa,_,aB.bk a7,(hI _ _).2 ⟨k+1,aV,ad,H2,aJ,aa,a1,a2,a3,aa,λj h=>by rw[a5 j h,fr j h],a6,rfl⟩⟩
   have ao:bB (dr g c) HS P≠hv\/P.left≠left->((ab=-1/\∀p P,p<k+1->g.aq[p]? =some P->P.left=left->bB (dr g c) HS P≠hv)\/(al≠[]/\∃(p:Nat) (P:aK),ab=p/\g.aq[p]? =some P/\P.left=left/\bB (dr g c) HS P=hv)):=λh=>by
    rcases aM with⟨b1,b2⟩|b
    . refine .inl ⟨b1,λp Q hp hQ bN=> ?_⟩;by_cases b6:p=k
      . subst b6;rw[hP]at hQ;cases hQ;rcases h with h|h
        . exact h
        . exact absurd bN h
      . exact b2 p Q aa hQ bN
    . exact .inr b
   simp(disch:=omega)[go_sem,aH,cR,af];refine bH [ae 0,ae 1,ae 3,aC 7,ae 0,ae 16,ae 48,aC 112,ae 0,ae 0,ae 512,ae 1536,aC 3584,aT 8191,ae 16383] an 0 rfl ?_;simp(disch:=omega)[go_sem,aH,cR];refine au.mk hh λM=>aR λhM=> ?_;by_cases hle:P.left=left
   . by_cases ch:1000<=q
     . have aS:(1000:Int)<=q:=aa;simp(disch:=omega)[go_sem,aH,cR,hP,-getElem?_pos,aK.e,hle,aS,aG];refine next al ab _ aE _ aa az (ao (.inl aa)) ?_ (λ_ _=>rfl) (hgr.same (λ_ _ _=>rfl) ?_) ai
       . simp(disch:=omega)[go_sem];omega
       . simp(disch:=omega)[go_sem];omega
     . have aS:¬(1000:Int)<=q:=aa;have av:∀p∈al++[k],∃P,g.aq[p]? =some P/\P.left=left/\bB (dr g c) HS P<1000:=λp hp=>by
        rcases YN.1 hp with h|h
        . exact az p h
        . rw[Yt.1 h];exact⟨P,hP,hle,aa⟩
       simp(disch:=omega)[go_sem,aH,cR,hP,-getElem?_pos,aK.e,hle,aS];refine cz.app (st:=100) (xt:=100) (B:=H.next) (U:=H'.next) (k:=1) (xs:=al.map λn=>[iV (n:Nat)]) (hgr.same (λq q1 q2=>by rw[ah.cW,if_neg (by show q≠M;omega)];rfl) (oY _)) vJ vI aa (by simp(disch:=omega)[go_sem];omega) (new:=[iV (k:Nat)]) ai aA rfl rfl (zk al) (by simp;omega) λH3 aJ T3 _ z1 z2 z3 _=> ?_;simp(disch:=omega)[go_sem]at z2 z3;have bo:H3.get X=some (.row (cR g c L a (cI HS) pv) true 0):=by rw[z3 X aa (hgr.ne (.inl bb))];simp(disch:=omega)[go_sem,aH]
       have bq:∀j,j<H.next->H3.get j=H'.get j:=λj h=>by rw[z3 j aa (hgr.ne (.inl h))];exact if_neg aa
       have bs:cz H3 H.next H3.next 1 ((al++[k]).map λn=>[iV (n:Nat)]) aJ:=by simpa using z1
       by_cases cj:q=hv
       . have aP:(q:Int)=hv:=aa;by_cases hb:ab<0
         . simp(disch:=omega)[go_sem,bo,cR,bc,bl,-getElem?_pos,aP,hb,aG];refine next (al++[k]) k H3 aJ _ (by simp;omega) av (.inr ⟨aw,k,P,rfl,hP,hle,aa⟩) aa bq bs ?_
           exact ai
         . simp(disch:=omega)[go_sem,bo,cR,bc,bl,-getElem?_pos,aP,hb,aG];refine next (al++[k]) ab H3 aJ _ (by simp;omega) av (.inr ⟨aw, ?_⟩) aa bq bs ?_
           . rcases aM with⟨b1,_⟩|⟨_,b⟩
             . omega
             . exact b
           . exact ai
       . have aP:¬(q:Int)=hv:=aa;simp(disch:=omega)[go_sem,bo,cR,bc,bl,-getElem?_pos,aP,aG];refine next (al++[k]) ab H3 aJ _ (by simp;omega) av ?_ aa bq bs ?_
         . rcases ao (.inl aa)with b|⟨_,b⟩
           . exact .inl b
           . exact .inr ⟨aw,b⟩
         . exact ai
   . simp(disch:=omega)[go_sem,aH,cR,hP,-getElem?_pos,aK.e,hle,aG];refine next al ab _ aE _ aa az (ao (.inr hle)) ?_ (λ_ _=>rfl) (hgr.same (λ_ _ _=>rfl) ?_) ai
     . simp(disch:=omega)[go_sem];omega
     . simp(disch:=omega)[go_sem];omega
 . have af:¬(k:Int)<g.aq.length:=aa;obtain⟨aZ,p,P,hb,hP,bO,bR⟩:al≠[]/\∃(p:Nat) (P:aK),ab=p/\g.aq[p]? =some P/\P.left=left/\bB (dr g c) HS P=hv:=by
    rcases aM with⟨_,b2⟩|b
    . obtain⟨i,hi⟩:=List.mem_iff_getElem?.1 bF;have:=(HT.1 hi).1;have p0:=(bJ P0 bF).1;exact absurd bn (b2 i P0 aa hi aa)
    . exact b
   subst hb;have b7:0<al.length:=afI.2 aZ;have b8:∀h,fp E h 100 aE=some (iV (al.length:Nat)):=λh=>by
    rcases hgr with⟨h0,rfl⟩|⟨R,_,_,rfl,_⟩
    . exact absurd (by simpa using h0) aZ
    . simp[go_sem]
   simp(disch:=omega)[go_sem,aH,cR,af];refine bH [ae 0,ae 1,ae 3,aC 7,ae 0,ae 16,ae 48,aC 112,aC 240,ae 511,ae 1023,ae 2047,ae 4095,ae 8191,aC 16383,aC 32767,ae 65535,ae 131071] an 0 rfl ?_;by_cases h1:L.length<=a
   . have bd:(L.length:Int)<=a:=aa;simp(disch:=omega)[go_sem,aH,cR,bd];intro T;exact hK p P a H' T hP bO aa (.inr ⟨rfl,bR⟩) hN aH λj h _=>fr j h
   . have bd:¬(L.length:Int)<=a:=aa;by_cases h2:40<xs.length
     . have bt:(40:Int)<xs.length:=aa;simp(disch:=omega)[go_sem,aH,cR,bd,hlen,bt];intro T;exact hK p P a H' T hP bO aa (.inr ⟨rfl,bR⟩) hN aH λj h _=>fr j h
     . have bt:¬(40:Int)<xs.length:=aa;simp(disch:=omega)[go_sem,aH,cR,bd,hlen,bt,b8];refine zo (n:=al.length) g c L a (cI HS) pv aH hL ba aa aa λa1 r H1 T1 q0 q1 q2 q3 q4 q5=> ?_;rcases hgr with⟨h0,_⟩|⟨R,r1,r2,rfl,r4⟩
       . exact absurd (by simpa using h0) aZ
       obtain⟨p',bS⟩:∃p',al[r]? =some p':=⟨_,yx q0⟩;obtain⟨P',c1,c2,c3⟩:=az p' (Ey bS);have hR:=q5 R aa;rw[ah.qj,r4,Kd]at hR;have ca:=Ke bS;rw[ah.gR]at q3;simp(disch:=omega)[go_sem,hR,ca,-getElem?_pos];intro T;exact hK p' P' a1 H1 T c1 c2 c3 (.inl ⟨q1 aa,aa⟩) aa q4 λj h hj=>by rw[q5 j hj,ah.qj,fr j h]
def hS(Hs:List Nat)(s:Sym):Nat:=if s.tok=true then 0 else Hs.getD s.idx.toNat 0
structure sQ(g:aj)(c:Nat)(s:Sym):Prop where
 i0:0<=s.idx
 tok:s.tok=true->s.idx.toNat<9/\gO g c s.idx=true
 Kk:s.tok=false->s.idx.toNat<g.aI.length/\(cS g c).getD s.idx.toNat 0<1000
def sQ.of{g:aj}(hk:eZ g){c:Nat}{P:aK}(hP:P∈g.aq)(hh:bB (dr g c) (cS g c) P<1000):dr g c P=true/\∀s∈P.right,sQ g c s/\hS (cS g c) s<bB (dr g c) (cS g c) P:=by
 obtain⟨h1,h2,h3⟩:=(lI hh).1 (oY _);have hp:P.right.all (λs=> !s.tok||gO g c s.idx)=true:=by
  have:=h1;unfold dr at this;simp only[aff]at this;exact this.1
 refine⟨h1,λs hs=> ?_⟩;obtain⟨q1,q2,q3⟩:=hk.rs P hP s hs;refine⟨⟨q1,λht=>⟨q2 ht, ?_⟩,λht=>⟨q3 ht, ?_⟩⟩, ?_⟩
 . have:=adr.1 hp s hs;rw[ht]at this;simpa using this
 . have:=h3 s hs ht;omega
 . unfold hS
   split
   . omega
   . rename_i ht;have:=h3 s hs (by simpa using ht);omega
def CG:Nat:=70000
def Kl{Hs:List Nat}{s:Sym}(h:hS Hs s<=3):lK Hs s<=4369:=by
 unfold lK;unfold hS at h
 split
 . omega
 . rename_i h1;rw[if_neg h1]at h;exact Xo h
def adH{Hs:List Nat}{s:Sym}{v:Nat}(h:hS Hs s<v):lK Hs s<=ml (v-1):=by
 unfold lK;unfold hS at h
 split
 . exact Xp _
 . rename_i h1;rw[if_neg h1]at h;exact vW aa
def Nd.l(n:Nd):List DV:=n.c
def Km(l:List Nd):∀x∈l.map Nd.c,x.length=4:=λx hx=>by obtain⟨y,_,rfl⟩:=Rm.1 hx;rfl
def eZ.word{g:aj}(hk:eZ g){i:Int}{t:Tok}(ht:g.aF[i.toNat]? =some t)(hi:i.toNat<9)(h0:t.lit=⟨#[]⟩):t.pat=pd/\t.kW=⟨#[120]⟩:=by
 obtain⟨t0,av,bl,aZ,ba,bb⟩:=hk.zp ht;have h2:((afo 9).all λk=>match aF[k]? with|some t0=> !decide (t0.lit=⟨#[]⟩)||decide (k=0)|none=>false)=true:=aA;have h3:=adr.1 h2 i.toNat (by simpa using hi);rw[av]at h3;simp only[<-aZ,h0,decide_true,Bool.not_true,Bool.false_or,decide_eq_true_eq]at h3;rw[h3]at av;have e:aF[0]? =some kE:=rfl;rw[e]at av;cases av;exact⟨ba,bb⟩
def adI{r:Nat}{s:ByteArray}(hs:pO[r]? =some s):[sV ⟨#[120]⟩,sV ⟨#[121]⟩,sV ⟨#[97,98]⟩,sV ⟨#[105,102]⟩,sV ⟨#[122]⟩,sV ⟨#[101,108,115,101]⟩][r]? =some (sV s):=by
 have h1:=congrArg (Option.map sV) hs;rw[<-afj]at h1;exact h1
def Ko(g:aj)(c:Nat)(L:List Int)(X B:Nat)(H:ah)(a:Nat)(pv:DV)(ns:List Nd)(ss:List Sym)(sz:Nat)(H':ah):Prop:=
 ∃(a':Nat) (new:List Nd) (ab:DV),a<=a'/\a'<=max a L.length/\fT g c ss new/\new.length<=sz+(a'-a)*CG/\H'.get X=some (.row (cR g c L a' (cI (cS g c)) ab) true 0)/\cz H' B H'.next 4 ((ns++new).map Nd.c) ab/\H.next<=H'.next/\(∀j,j<H.next->j≠X->kI pv≠some j->H'.get j=H.get j)/\(∀j,kI ab=some j->kI pv=some j\/H.next<=j)
set_option maxHeartbeats 8000000 in
def adJ{K:b9}{dd:List FuncId}{H:ah}{X B:Nat}(g:aj)(hk:eZ g)(c:Nat)(hc:c<8)(L:List Int)(a:Nat)(pv:DV)(ns:List Nd)(s:Sym)(hs:sQ g c s)(ht:s.tok=true)(hX:H.get X=some (.row (cR g c L a (cI (cS g c)) pv) true 0))(hL:∀b∈L,0<=b/\b<256)(aE:L.length<=1000)(aJ:X<B)(hB:B<=H.next)(aG:cz H B H.next 4 (ns.map Nd.c) pv)(aL:ns.length<=8000000)
 (hK:∀H' T,Ko g c L X B H a pv ns [s] 1 H'->K (.bf []) dd H' T):au E true K dd H (70,[aX X,.agg s.e]):=by
 obtain⟨bc,bd⟩:=hs.tok ht;have aM:=hs.i0;obtain⟨t,af⟩:∃t,g.aF[s.idx.toNat]? =some t:=⟨_,yx (by have:=hk.tn;omega)⟩;have bg:dI t.cond c=true:=by simpa only[gO,af]using bd
 obtain⟨HS,aO⟩:∃HS,cI (cS g c)=HS:=⟨_,rfl⟩;have aH:∀(H':ah) (a':Nat) (n:Nd) (ab:DV),a<=a'->a'<=max a L.length->DA g c s.idx n->H'.get X=some (.row (cR g c L a' HS ab) true 0)->cz H' B H'.next 4 ((ns++[n]).map Nd.c) ab->H.next<=H'.next->(∀j,j<H.next->j≠X->kI pv≠some j->H'.get j=H.get j)->(∀j,kI ab=some j->H.next<=j)->∀T,K (.bf []) dd H' T:=λH' a' n ab h1 h2 h3 h4 h5 h6 h7 h8 T=>
  hK H' T ⟨a',[n],ab,h1,h2,by
   obtain⟨tok,idx⟩:=s;simp only at ht;subst ht;exact .leaf h3 .nil,by simp only[afB];omega,by rw[aO];exact h4,h5,h6,h7,λj hj=>.inr (h8 j hj)⟩
 rw[aO]at hX;refine fw Tryz.ntmps70 Tryz.results70 ?_;obtain⟨te,aw⟩:∃te,t.e=te:=⟨_,rfl⟩;have ad:te=[sV t.name,iV t.cls,sV t.lit,.sl 5 (t.pat.map aY.e),sV t.kW,.sl 3 (t.cond.nodes.map cB),iV t.cond.root]:=by rw[<-aw];rfl
 obtain⟨N,hN⟩:∃N,H.next=N:=⟨_,rfl⟩;rw[hN]at aG hB aH;simp(disch:=omega)[go_sem,Sym.e,ht,hN];refine bH [ae 0,ae 1,ae 3,ae 7,aC 15,ae 0,aC 32,ae 127,aC 255,cN 0,aT 1023] an 1 rfl ?_;have bm:X≠N:=aa;have aP:∀x∈ns.map Nd.c,x.length=4:=Km ns;have leaf:∀(az:ByteArray) (rs:List ByteArray),(t.lit≠⟨#[]⟩->az=t.lit)->(t.lit=⟨#[]⟩->az∈pO)->(∀s∈rs,s∈jE/\gO g c 10=true)->rs.length<=11->DA g c s.idx ⟨-1,s.idx,az,rs⟩:=λaz rs h1 h2 h3 h4=>⟨rfl,rfl,⟨t,af,bg,h1,h2⟩,h3,h4⟩;by_cases h0:t.lit=⟨#[]⟩
 . obtain⟨bk,bn⟩:=hk.word af bc h0;simp(disch:=omega)[go_sem,hX,cR,af,aM,-getElem?_pos,aw,ad,hN,h0];refine zo (n:=6) g c L a HS pv (by simp(disch:=omega)[go_sem,hX,cR,hN]) hL aE aA aA λa1 r H1 T1 q0 q1 q2 q3 q4 q5=> ?_;simp(disch:=omega)[go_sem,hN]at q3;obtain⟨w,hw⟩:∃w,pO[r]? =some w:=⟨_,yx (by simpa[pO]using q0)⟩;have aR:=Ey hw;have aS:=adz w aR;rw[<-bk]at aS;have aV:=Ki t w h0 true aS;have ao:=adI hw;rw[aw,ad,h0]at aV;have d1:=q5 (N+1) aa;have d2:=q5 (N+2) aa;simp(disch:=omega)[go_sem,hN]at d1 d2;simp(disch:=omega)[go_sem,ao,-getElem?_pos,d1,d2,q3];refine au.mk aV λM hM=> ?_;simp(disch:=omega)[go_sem,q3]at hM;simp(disch:=omega)[go_sem,d2];refine DH g hk c hc L a1 HS pv (by simp(disch:=omega)[go_sem,q4,cR,hN]) hL aE (by simp(disch:=omega)[go_sem,hN];omega) λa2 rs H3 T3 m1 m2 m3 m4 m5 m6 m7=> ?_;simp(disch:=omega)[go_sem,hN]at m4;have e1:=m6 (N+2) (by simp(disch:=omega)[go_sem,hN];omega) aa;simp(disch:=omega)[go_sem,hN]at e1;have fr:∀j,j<N->j≠X->H3.get j=H.get j:=λj h1 h2=>by
    have h3:=q5 j h2;simp(disch:=omega)[go_sem,hN]at h3;rw[m6 j (by simp(disch:=omega)[go_sem,hN];omega) h2];simp(disch:=omega)[go_sem,hN];exact h3
   have hgr:cz H3 B N 4 (ns.map Nd.c) pv:=aG.same (λq q1 q2=>fr q q2 aa) (oY _);simp(disch:=omega)[go_sem,e1];refine bH [ae 0,ae 0,ae 2,ae 6,aC 14,aC 0,cN 32,aT 126,ae 255,ae 511,aT 1023] an 1 rfl ?_;simp(disch:=omega)[go_sem,m5,cR,e1];refine cz.app (st:=42) (xt:=42) (B:=B) (U:=N) (k:=4) (xs:=ns.map Nd.c) (hgr.same (λq q1 q2=>ai) (oY _)) rZ rY aa (by simp(disch:=omega)[go_sem];omega) (new:=Nd.c ⟨-1,s.idx,w,rs⟩) (by simp(disch:=omega)[go_sem,Nd.c]) aA rfl rfl aP (by rw[Q0];omega) λH4 ab T4 t1 t2 t3 t4 t5=> ?_;simp(disch:=omega)[go_sem]at t3 t4 t5;have z0:(X=H3.next)=False:=eq_false aa;have z1:(X=N+1+1)=False:=eq_false aa;have f4:=t4 X aa (hgr.ne (.inl aJ));have e4:=t4 H3.next aa (hgr.ne (.inr aa));simp only[z0,z1,if_false,m5]at f4;simp only[if_true]at e4;obtain⟨p1,p2⟩:=t2.cells;simp(disch:=omega)[go_sem,f4,cR,e4,p1,p2];intro T;refine aH _ a2 ⟨-1,s.idx,w,rs⟩ ab aa aa (leaf _ _ (λh=>absurd h0 h) (λ_=>aR) m1 m7) ?_ ?_ ?_ (λj h1 h2 h3=> ?_) (λj h=> ?_) T
   . simp(disch:=omega)[go_sem,cR]
   . rw[UR];exact t2.same (λq q1 q2=>by rw[ah.bD,if_neg aa]) (oY _)
   . rw[ah.aW];omega
   . rw[ah.bD,if_neg h2,t4 j aa h3,if_neg aa,if_neg aa];exact fr j aa h2
   . rw[t5]at h;cases h;omega
 . simp(disch:=omega)[go_sem,hX,cR,af,aM,-getElem?_pos,aw,ad,hN,h0];refine DH g hk c hc L a HS pv (by simp(disch:=omega)[go_sem,hX,cR,hN]) hL aE (by simp(disch:=omega)[go_sem,hN]) λa2 rs H3 T3 m1 m2 m3 m4 m5 m6 m7=> ?_;simp(disch:=omega)[go_sem,hN]at m4;have e1:=m6 (N+2) (by simp(disch:=omega)[go_sem,hN]) aa;simp(disch:=omega)[go_sem,hN]at e1;have fr:∀j,j<N->j≠X->H3.get j=H.get j:=λj h1 h2=>by rw[m6 j (by simp(disch:=omega)[go_sem,hN]) h2];simp(disch:=omega)[go_sem,hN]
   have hgr:cz H3 B N 4 (ns.map Nd.c) pv:=aG.same (λq q1 q2=>fr q q2 aa) (oY _);simp(disch:=omega)[go_sem,e1];refine bH [ae 0,ae 0,ae 2,ae 6,aC 14,aC 0,cN 32,aT 126,ae 255,ae 511,aT 1023] an 1 rfl ?_;simp(disch:=omega)[go_sem,m5,cR,e1];refine cz.app (st:=42) (xt:=42) (B:=B) (U:=N) (k:=4) (xs:=ns.map Nd.c) (hgr.same (λq q1 q2=>ai) (oY _)) rZ rY aa (by simp(disch:=omega)[go_sem];omega) (new:=Nd.c ⟨-1,s.idx,t.lit,rs⟩) (by simp(disch:=omega)[go_sem,Nd.c]) aA rfl rfl aP (by rw[Q0];omega) λH4 ab T4 t1 t2 t3 t4 t5=> ?_;simp(disch:=omega)[go_sem]at t3 t4 t5;have z0:(X=H3.next)=False:=eq_false aa;have z1:(X=N+1+1)=False:=eq_false aa;have f4:=t4 X aa (hgr.ne (.inl aJ));have e4:=t4 H3.next aa (hgr.ne (.inr aa));simp only[z0,z1,if_false,m5]at f4;simp only[if_true]at e4;obtain⟨p1,p2⟩:=t2.cells;simp(disch:=omega)[go_sem,f4,cR,e4,p1,p2];intro T;refine aH _ a2 ⟨-1,s.idx,t.lit,rs⟩ ab m2 m3 (leaf _ _ (λ_=>rfl) (λh=>absurd h h0) m1 m7) ?_ ?_ ?_ (λj h1 h2 h3=> ?_) (λj h=> ?_) T
   . simp(disch:=omega)[go_sem,cR]
   . rw[UR];exact t2.same (λq q1 q2=>by rw[ah.bD,if_neg aa]) (oY _)
   . rw[ah.aW];omega
   . rw[ah.bD,if_neg h2,t4 j aa h3,if_neg aa,if_neg aa];exact fr j aa h2
   . rw[t5]at h;cases h;omega
def DJ{g:aj}(hk:eZ g){c:Nat}{s:Sym}(hs:sQ g c s):hS (cS g c) s<=3:=by
 unfold hS
 split
 . omega
 . rename_i h;obtain⟨h1,h2⟩:=hs.Kk (by simpa using h);exact((hk.jr c).2 _ h1 h2).1
set_option maxHeartbeats 8000000 in
def adK(g:aj)(hk:eZ g)(c:Nat)(hc:c<8)(L:List Int)(hL:∀b∈L,0<=b/\b<256)(bo:L.length<=100)(X B:Nat)(aR:X<B):∀(m:Nat) (K:b9) (dd:List FuncId) (H:ah) (a:Nat) (pv:DV) (ns:List Nd) (s:Sym),sQ g c s->(L.length-a)*4+hS (cS g c) s<=m->H.get X=some (.row (cR g c L a (cI (cS g c)) pv) true 0)->B<=H.next->cz H B H.next 4 (ns.map Nd.c) pv->ns.length+lK (cS g c) s+(L.length-a)*CG<=8000000->
 (∀H' T,Ko g c L X B H a pv ns [s] (lK (cS g c) s) H'->K (.bf []) dd H' T)->au E true K dd H (70,[aX X,.agg s.e]):=by
 intro m
 induction m using Nat.strongRecOn with
 |_ m ih=>
 intro K dd H a pv ns s hs hm hX hB aC av hK;have aH:X<H.next:=aa;cases ht:s.tok with
 |true=>
  refine adJ g hk c hc L a pv ns s hs ht hX hL aa aR hB aC aa λH' T h=>hK H' T ?_;have e:lK (cS g c) s=1:=by unfold lK;rw[if_pos ht]
  rw[e];exact h
 |false=>
  obtain⟨aZ,ba⟩:=hs.Kk ht;have bb:=hs.i0;refine fw Tryz.ntmps70 Tryz.results70 ?_;obtain⟨N,hN⟩:∃N,H.next=N:=⟨_,rfl⟩;rw[hN]at hB aC aH;simp(disch:=omega)[go_sem,Sym.e,ht,hN];refine adG (B:=B) g hk c hc L a pv (ns.map Nd.c) (by simp(disch:=omega)[go_sem,hX,hN]) hL aa (by simp(disch:=omega)[go_sem,hN]) (aC.same (λq q1 q2=>by simp(disch:=omega)[go_sem,hN]) (by simp(disch:=omega)[go_sem,hN])) s.idx bb aZ ba λp P a1 H1 T1 hP bc bg aJ q3 q4 q5=> ?_;simp(disch:=omega)[go_sem,hN]at q3 q5;have aS:=Ey hP;obtain⟨az,ab⟩:=sQ.of hk aS bg;have bq:=hk.rl P aS;have ad:cz H1 B N 4 (ns.map Nd.c) pv:=aC.same (λq q1 q2=>by rw[q5 q aa aa,if_neg aa]) (oY _);have bs:hS (cS g c) s=(cS g c).getD s.idx.toNat 0:=by unfold hS;rw[if_neg (by rw[ht];decide)]
  obtain⟨bd,bl,hq⟩:∃bd,(∀x∈P.right,lK (cS g c) x<=bd)/\1+16*bd<=lK (cS g c) s+(a1-a)*70000:=by
   rcases aJ with⟨h1,h2⟩|⟨h1,h2⟩
   . exact⟨4369,λx hx=>Kl (DJ hk (ab x hx).1),aa⟩
   . refine⟨ml (bB (dr g c) (cS g c) P-1),λx hx=>adH (ab x hx).2, ?_⟩;have h3:=Gs (pr:=dr g c) (cS g c) P;have h4:lK (cS g c) s=ml (bB (dr g c) (cS g c) P-1+1):=by
      unfold lK;rw[if_neg (by rw[ht];decide),<-h2];congr 1;omega
     rw[h4,ml];omega
  have aL:∀x∈P.right,∀a',a1<=a'->(L.length-a')*4+hS (cS g c) x<(L.length-a)*4+hS (cS g c) s:=λx hx a' h=>by
   have:=DJ hk (ab x hx).1;have:=(ab x hx).2;rcases aJ with⟨h1,h2⟩|⟨h1,h2⟩<;>omega
  have bt:a<=a1/\a1<=max a L.length:=by rcases aJ with⟨h1,h2⟩|⟨h1,h2⟩<;>omega
  have aE:CG=70000:=rfl;rw[aE]at av;obtain⟨nd,aT⟩:∃nd:Nd,nd=⟨p,-1,⟨#[]⟩,[]⟩:=⟨_,rfl⟩;have ae:nd.c=[iV (p:Nat),iV (-1),sV ⟨#[]⟩,cm]:=by
   subst aT;have:¬((p:Nat):Int)=-1:=aa;simp[Nd.c,this]
  simp(disch:=omega)[go_sem,q4,cR];refine cz.app (st:=42) (xt:=42) (B:=B) (U:=N) (k:=4) (xs:=ns.map Nd.c) (ad.same (λq q1 q2=>by rw[ah.cW,if_neg aa]) (oY _)) rZ rY aa (by simp(disch:=omega)[go_sem];omega) (new:=nd.c) (by simp(disch:=omega)[go_sem,ae]) aA (by rw[ae];rfl) (by rw[ae];rfl) (Km ns) (by rw[Q0];omega) λH2 aV T2 t1 t2 t3 t4 t5=> ?_;simp(disch:=omega)[go_sem]at t3 t4 t5;have z0:(X=H1.next)=False:=eq_false aa;have f4:=t4 X aa (ad.ne (.inl aR));simp only[z0,if_false,q4]at f4;obtain⟨p1,p2⟩:=t2.cells;simp(disch:=omega)[go_sem,f4,cR,p1,p2];obtain⟨I,hI⟩:∃I:Nat->DS->Prop,∀j d,I j d↔∃(k a':Nat) (nk:List Nd) (ao:DV) (H':ah),j+k=P.right.length/\a1<=a'/\a'<=max a L.length/\fT g c (P.right.take k) nk/\nk.length<=k*bd+(a'-a1)*70000/\H'.get X=some (.row (cR g c L a' (cI (cS g c)) ao) true 0)/\cz H' B H'.next 4 ((ns++nd::nk).map Nd.c) ao/\N<=H'.next/\(∀j,j<N->j≠X->kI pv≠some j->H'.get j=H.get j)/\(∀j,kI ao=some j->N<=j)/\
   d=⟨bw [(0,aX X),(8,iV (p:Nat)),(9,iV (k:Nat))],99,[],H'⟩:=⟨_,λ_ _=>Fj⟩
  refine bM I P.right.length ⟨_,aB.bk (l:=[(0,aX X),(8,iV (p:Nat)),(9,iV (0:Nat))]) ?_,(hI _ _).2 ⟨0,a1,[],aV,_,rfl,aa,aa,.nil,aw, ?_, ?_, ?_,λj h1 h2 h3=> ?_,λj h=> ?_,rfl⟩⟩ ?_
  . exact ai
  . simp(disch:=omega)[go_sem,cR]
  . rw[UR];exact t2.same (λq q1 q2=>by rw[ah.bD,if_neg aa]) (oY _)
  . rw[ah.aW];omega
  . rw[ah.bD,if_neg h2,t4 j aa h3,if_neg aa,q5 j aa h2,if_neg aa]
  . rw[t5]at h;cases h;omega
  clear t1 t2 t3 t4 t5 f4 p1 p2 H2 aV z0 q4 q5 ad;intro j ds aY;obtain⟨k,a',nk,ao,H',hj,b1,b2,af,bu,f1,hgr,bz,fr,aM,rfl⟩:=(hI _ _).1 aY;clear aY;by_cases bm:k<P.right.length
  . have an:(k:Int)<P.right.length:=aa;obtain⟨x,hx⟩:∃x,P.right[k]? =some x:=⟨_,yx bm⟩;have aO:=Ey hx;have bE:(k+1)*bd=k*bd+bd:=Nat.succ_mul k bd;have aP:(k+1)*bd<=16*bd:=afJ bd aa;have bF:=bl x aO;simp(disch:=omega)[go_sem,f1,cR,hP,-getElem?_pos,aK.e,an,hx,Sym.e];refine ih _ (Nat.lt_of_lt_of_le (aL x aO a' b1) hm) _ _ H' a' ao (ns++nd::nk) x (ab x aO).1 (oY _) f1 aa hgr (by rw[aE,afe,afl];omega) λH3 T3 hG=> ?_;obtain⟨a3,new,bn,g1,g2,g3,g4,g5,g6,g7,g8,g9⟩:=hG;rw[aE]at g4;simp(disch:=omega)[go_sem,aG];refine⟨j-1,aa,_,aB.bk (l:=[(0,aX X),(8,iV (p:Nat)),(9,iV (k+1:Nat))]) ai,(hI _ _).2 ⟨k+1,a3,nk++new,bn,H3,aa,aa,aa, ?_, ?_,g5, ?_,aa,λj h1 h2 h3=> ?_,λj h=> ?_,rfl⟩⟩
    . rw[Xt,hx];exact af.app g3
    . rw[afe];omega
    . simpa using g6
    . rw[g8 j aa h2 (λh=>by have:=aM j h;omega),fr j h1 h2 h3]
    . rcases g9 j h with h|h
      . exact aM j h
      . omega
  . have an:¬(k:Int)<P.right.length:=aa;have aP:k*bd<=16*bd:=afJ bd aa;rw[Rb aa]at af;simp(disch:=omega)[go_sem,f1,cR,hP,-getElem?_pos,aK.e,an];intro T;refine hK H' T ⟨a',nd::nk,ao,aa,b2, ?_, ?_,f1,hgr,aa,λj h1 h2 h3=>fr j aa h2 h3,λj h=>.inr (by have:=aM j h;omega)⟩
    . obtain⟨tok,idx⟩:=s;simp only at ht;subst ht;subst aT;exact .node hP bc az (by rw[afn];exact af)
    . rw[aE,afl];omega
end Go.Sp
end
noncomputable section
open Go Go.aD Go.Proofs
namespace Go.aD
def sR(e:Env)(f:FuncId)(ab:List DV)(Good:DV->Prop):Prop:=∀G h args,FR G h->cj (aP h G) args ab->∃dv,Good dv/\∃v h',bU e f args h v h'/\nR G h dv v h'
def Kq(Good:DV->Prop)(d:DV)(h:ah):Prop:=∃dv,Good dv/\Fz (allRows h) d dv
def au.gd{e:Env}{K:b9}{dd:List FuncId}{dh:ah}{f:FuncId}{args:List DV}{Good:DV->Prop}(hf:sR e f args Good)(hk:∀dv N,Good dv->dh.next<=N->K dv dd (dh.up N) []):au e true K dd dh (f,args):=by
 intro G h vs x ha;obtain⟨k1,k2⟩:=x.drop [] (λi hi=>by cases hi);have aM:cj (aP h (λi=>G i\/i∈[])) vs args:=cj.mono (iA λi hg=>⟨.inl hg,rfl⟩) ha;obtain⟨dv,hg,v,h',h1,h2⟩:=hf (λi=>G i\/i∈[]) h vs ⟨λi hi=>(k1.still i hi).1,k1.e9⟩ aM;exact⟨v,h',h1,nR.c (f:=f) (K:=λv aH T=>K v dd aH T) x [] (λi hi=>by cases hi) h2 λN hN=>hk dv N hg hN⟩
def sR.of{e:Env}(he:e.Ok)(ao:e.P.follows .mixedOrders=true)(ad:Idle e){f:FuncId}{fn:Func}{c:Code}{ab:List DV}{Good:DV->Prop}(av:e.fn f=some fn)(hb:fn.body=some c){n:Nat}(hn:fn.ntmps=n){rs:List ResultVar}(az:fn.results=rs.toArray)
 (hq:∀N,RD e true c ⟨gD ab,ab.length+(n-ab.length),[],ah.none N⟩ (ib e rs (Kq Good))):sR e f ab Good:=by
 intro G h args hG ha;have x:bP G h (ah.none h.next):=⟨hG.2,rfl,λi o ho=>(by rw[ah.get_none]at ho;cases ho),λi hi=>⟨hG.1 i hi,ah.get_none _ _⟩⟩;obtain⟨v,h',h1,d,aH,G',q1,q2,q3,dv,hg,q4⟩:=cJ.body he ao ad av hb hn az (hq h.next) G h args x ha;refine⟨dv,hg,v,h',h1,q2.next,λi hi=>(q2.same i hi (ah.get_none _ _)).1,Rel.fz (G':=qu G h h') q1 (λi cs ak hr=> ?_) (λi hg=> ?_) q4 q3⟩
 . unfold allRows at hr
   split at hr
   . rename_i cs' wr aO hg;cases hr;refine⟨.inr ⟨?_,(q1.obj _ _ hg).1⟩,wr,hg⟩;rcases Nat.lt_or_ge i h.next with hi|hi
     . rw[(q2.same i hi (ah.get_none _ _)).2]at hg;cases hg
     . exact hi
   . cases hr
 . rcases Nat.lt_or_ge i h.next with hi|hi
   . rcases q2.bp i hi hg with h1|h1
     . exact .inl h1
     . rw[ah.get_none]at h1;cases h1
   . exact .inr ⟨hi,(q1.still i hg).1⟩
end Go.aD
namespace Go.Sp
def Kr{f:FuncId}{fn:Func}{c:Code}{ab:List DV}{Good:DV->Prop}{n:Nat}(hn:fn.ntmps=n){rs:List ResultVar}(az:fn.results=rs.toArray)
 (hq:∀N,RD E true c ⟨gD ab,ab.length+(n-ab.length),[],ah.none N⟩ (ib E rs (Kq Good))) (av:E.fn f=some fn:=by kernel_rfl) (hb:fn.body=some c:=by rfl):sR E f ab Good:=sR.of (jj []) ko (qf []) av hb hn az hq
def gq(ns:List Nd)(tl:List ByteArray):DV:=.agg [.sl 4 (ns.map Nd.e),strs tl]
structure uP(g:aj)(c:Nat)(i:Int)(ns:List Nd)(tl:List ByteArray):Prop where
 uQ:fT g c [⟨false,i⟩] ns
 tail:∀s∈tl,s∈jE/\gO g c 10=true
 len:ns.length<=8000000
 DK:tl.length<=11
def adL(g:aj)(c:Nat)(i:Int)(dv:DV):Prop:=dv=.bf [.agg [cm,cm],bV false]\/∃ns tl,dv=.bf [gq ns tl,bV true]/\uP g c i ns tl
def fT.rem{g:aj}{c:Nat}{a:List Sym}{x:List Nd}(h:fT g c a x):∀n∈x,n.p≠-1->n.rem=[]:=by
 induction h with
 |nil=>intro n hn;cases hn
 |leaf h1 _ ih=>
  intro n hn hp;rcases afu.1 hn with rfl|hn
  . exact absurd h1.p hp
  . exact ih n hn hp
 |node h1 h2 h3 _ ih=>
  intro n hn hp;rcases afu.1 hn with rfl|hn
  . rfl
  . exact ih n hn hp
def Ks{S:fB}:∀(l:List Nd),(∀n∈l,n.p≠-1->n.rem=[])->de S (l.map Nd.c).flatten (l.map Nd.e).flatten
 |[],_=>.nil
 |n::l,h=>by
  simp only[afh,afx];refine aU.append ?_ (Ks l λm hm=>h m (afw _ hm));unfold Nd.c Nd.e
  split
  . exact de.refl _
  . rename_i hp;rw[h n afE hp];exact .cons (.refl _) (.cons (.refl _) (.cons (.refl _) (.cons (.nil aA) .nil)))
def sS(l:List Nd):∀x∈l.map Nd.e,x.length=4:=λx hx=>by obtain⟨y,_,rfl⟩:=Rm.1 hx;rfl
set_option maxHeartbeats 8000000 in
def adM(g:aj)(hk:eZ g)(c:Nat)(hc:c<8)(L:List Int)(hL:∀b∈L,0<=b/\b<256)(aS:L.length<=40)(i:Int)(aE:0<=i)(hi:i.toNat<g.aI.length):sR E 26 [.agg g.e,cV c,iV i,.sl 1 (L.map λb=>[uV b])] (adL g c i):=by
 have aJ:=adD g hk c hc;have hle:=Kj g hk c;have aV:(cS g c).length=g.aI.length:=yj _ _;obtain⟨v,hv⟩:∃v,(cS g c)[i.toNat]? =some v:=⟨_,yx aa⟩;have aW:(cS g c).getD i.toNat 0=v:=by rw[afi,hv];rfl
 refine Kr Tryz.ntmps26 Tryz.results26 λN=> ?_;simp only[aj.e]at aJ;simp(disch:=omega)[go_sem,aj.e];refine bH [dq 0,ae 0,ae 0,aC 0,ae 0,aT 24,ae 63,cN 127,ae 255] an 1 rfl ?_;refine aL ?_;refine au.mk aJ λM=>aR λhM=> ?_;by_cases hf:1000<=v
 . have aG:(1000:Int)<=v:=aa;simp(disch:=omega)[go_sem,hv,aE,-getElem?_pos,aG];exact⟨_,.inl rfl,.refl _⟩
 . have aG:¬(1000:Int)<=v:=aa;simp(disch:=omega)[go_sem,hv,aE,-getElem?_pos,aG];have af:sQ g c ⟨false,i⟩:=⟨aE,λh=>(by cases h),λ_=>⟨hi,by show(cS g c).getD i.toNat 0<1000;omega⟩⟩;have aX:lK (cS g c) ⟨false,i⟩<=4369:=Kl (DJ hk af);have aK:CG=70000:=rfl;refine adK g hk c hc L hL aa (N+1+1) (N+1+2) aa _ _ _ _ 0 cm [] ⟨false,i⟩ af (oY _) (by simp(disch:=omega)[go_sem,cR]) (by simp(disch:=omega)[go_sem];omega) (.nil _ _ _ _) (by rw[aK];simp only[afp];omega) λH1 T1 hG=> ?_;obtain⟨a1,ns,pv,g1,g2,g3,g4,g5,g6,g7,g8,g9⟩:=hG;rw[aK]at g4;replace g7:=cr g7;simp only[afy]at g6;obtain⟨p1,p2⟩:=g6.cells;have e1:=g8 (N+1) (by simp(disch:=omega)[go_sem];omega) aa (by intro h;cases h);replace e1:=cr e1;simp(disch:=omega)[go_sem,g5,cR,p1,p2];refine DH g hk c hc L a1 _ pv (by simp(disch:=omega)[go_sem,g5,cR];rfl) hL aa (by simp(disch:=omega)[go_sem];omega) λa2 tl H3 T3 m1 m2 m3 m4 m5 m6 m7=> ?_;replace m4:=cr m4;have e2:=m6 (N+1) (by simp(disch:=omega)[go_sem];omega) aa;have e3:=m6 H1.next ai aa;simp(disch:=omega)[go_sem,e1]at e2 e3;simp(disch:=omega)[go_sem,e2,e3,p1,p2];refine⟨.bf [gq ns tl,bV true],.inr ⟨ns,tl,rfl,g3,m1,aa,m7⟩,Fz.jP (.cons (Fz.dG (.cons ?_ (.cons (.refl _) .nil))) (.cons (.refl _) .nil))⟩;have hgr:cz _ (N+1+2) H1.next 4 (ns.map Nd.c) pv:=g6.same (H':=(H3.set H1.next (some (.row [pv,.sl 1 (tl.map λs=>[sV s])] true 0))).set (N+1) (some (.row [pv,.sl 1 (tl.map λs=>[sV s])] true 0))) (λq q1 q2=>by
    rw[ah.bD,if_neg aa,ah.bD,if_neg aa,m6 q ai aa];simp(disch:=omega)[go_sem]) (oY _)
   exact hgr.Dx aA aw (sS ns) (Ks ns g3.rem) λR cs _ _ h=>cu h
end Go.Sp
end
noncomputable section
open Go Go.aD Go.Proofs
namespace Go.Sp
def Kv(x:cK)(hx:x.Ok):eZ (ig dQ x):=by
 have hg:=za x hx;have ao:∀i:Int,∀t,(ig dQ x).aF[i.toNat]? =some t->t.cls=0->i.toNat<9:=by
  intro i t ht hc;have h:=congrArg (·[i.toNat]?) hg.tk;simp only[afj,ht,afG]at h;cases h0:aF[i.toNat]? with
  |none=>rw[h0]at h;cases h
  |some t0=>
   rw[h0]at h;have h1:=(Kh (afH h)).1;have hl:i.toNat<11:=(HT.1 h0).1;rcases(show i.toNat<9\/i.toNat=9\/i.toNat=10 by omega)with h2|h2|h2
   . exact h2
   . rw[h2]at h0;have e:aF[9]? =some tT:=rfl;rw[e]at h0;cases h0;rw[hc]at h1;exact absurd h1 aA
   . rw[h2]at h0;have e:aF[10]? =some tU:=rfl;rw[e]at h0;cases h0;rw[hc]at h1;exact absurd h1 aA
 refine⟨λt ht=> ?_,λP hP=> ?_,λP hP=>(hg.ok P hP).ar.len,λP hP s hs=> ?_,λP hP=> ?_,by have:=hg.mz;omega,hg.room.aI.2,hg.tk⟩
 . obtain⟨ct,h1,h2⟩:=hg.tc t ht;exact⟨ct,h2.1,h1⟩
 . obtain⟨cp,h1,h2⟩:=(hg.ok P hP).cond;exact⟨cp,h2.1,h1⟩
 . have h:=(hg.ok P hP).right s hs;unfold pB at h
   split at h
   . rename_i ht;exact⟨h.1,λh2=>(by rw[ht]at h2;cases h2),λ_=>aa⟩
   . rename_i ht;obtain⟨t,h1,h2,h3⟩:=h;exact⟨h1,λ_=>ao _ t h2 h3,λh4=>by rw[ht]at h4;cases h4⟩
 . have:=(hg.ok P hP).left;exact⟨this.1,aa⟩
structure og where
 x:cK
 config:Int
 l:List Int
 lines:List Int
def og.e(r:og):List DV:=[uV r.x.base,uV r.x.n,.sl 1 (r.x.family.map λb=>[uV b]),.sl 4 (r.x.lines.map Ln.e),.sl 5 (r.x.rules.map Rl.e),uV r.config,.sl 1 (r.l.map λb=>[uV b]),.sl 1 (r.lines.map λb=>[uV b])]
structure og.Ok(r:og):Prop where
 x:r.x.Ok
 config:0<=r.config/\r.config<256
 l:∀b∈r.l,0<=b/\b<256
 lines:∀b∈r.lines,0<=b/\b<256
def Kw(g:aj)(dv:DV):Prop:=∃c,c∈fF g/\(dv=.bf [.agg g.e,cV c,.agg [cm,cm],bV false]\/∃ns tl,dv=.bf [.agg g.e,cV c,gq ns tl,bV true]/\uP g c g.start ns tl)
set_option maxHeartbeats 8000000 in
def adP(r:og)(hr:r.Ok):sR E 7 [.agg r.e] (Kw (ig dQ r.x)):=by
 have av:=Z9 r.x hr.x;have ah:=za r.x hr.x;have aG:=Kv r.x hr.x;obtain⟨G,hG⟩:∃G,ig dQ r.x=G:=⟨_,rfl⟩;rw[hG]at av ah aG⊢;obtain⟨c,hc,ai⟩:=adf G ah.cO ah.room.conds r.config hr.config;have aL:c<8:=by have:=(afr.1 hc).1;simpa using this
 have ao:G.start=0:=ah.aI.2;have aw:=adM G aG c aL (r.l.take 40) (λb hb=>hr.l b (List.mem_of_mem_take hb)) (by rw[afv];omega) 0 aA (by have:=ah.room.aI;omega);rw[List.map_take]at aw;obtain⟨xl,az⟩:∃xl,r.l.map (λb=>[uV b])=xl:=⟨_,rfl⟩;have aE:xl.length=r.l.length:=by rw[<-az,Q0]
 rw[az]at aw;obtain⟨ge,aH⟩:∃ge,G.e=ge:=⟨_,rfl⟩;have ab:ge=[strs G.conds,.sl 3 (G.family.nodes.map cB),iV G.family.root,.sl 7 (G.aF.map Tok.e),strs G.aI,.sl 13 (G.aq.map aK.e),iV G.start,.sl 4 (G.bj.map cP.e),.sl 9 (G.bx.map bl.e)]:=by rw[<-aH];rfl
 have ad:(∀d∈ge,cD d=true)=True:=eq_true (by rw[ab];intro d hd;simp at hd;rcases hd with rfl|rfl|rfl|rfl|rfl|rfl|rfl|rfl|rfl<;>rfl);have af:ge.length=9:=by rw[ab];rfl
 have bB:ge.take 9=ge:=Rb aa;refine Kr Tryz.ntmps7 Tryz.results7 λN=> ?_;unfold Kw;rw[aH]at av ai aw⊢;simp only[cK.e]at av;simp(disch:=omega)[go_sem,og.e];refine au.mk av λM=>aR λhM=> ?_;simp(disch:=omega)[go_sem,af,ad,bB];refine au.mk ai λM2=>aR λaV=> ?_;simp(disch:=omega)[go_sem,af,ad,bB];refine bH [aC 0,ae 0,ae 0,aC 4,ae 0,aC 16,ae 0,aC 64,aC 192,aC 448,aC 1008,aT 2047,ae 4095,ae 8191,ae 8191,cN 0,aT 49151,ae 131071] an 1 rfl ?_;have aM:ge[6]? =some (iV 0):=by rw[ab,ao];rfl
 have aO:∀h,ed E h 22 (some (.sl 1 xl)) (some none) (some (some (.v (.int .i64 (min (r.l.length:Int) 40))))) (some none)=some (.sl 1 (xl.take 40)):=λh=>by
  have h0:(0:Int)<=min (r.l.length:Int) 40:=aa;have h1:(min (r.l.length:Int) 40).toNat=min 40 xl.length:=aa;have h2:min 40 xl.length<=xl.length:=aa;have h3:xl.take (min 40 xl.length)=xl.take 40:=by rw[List.take_eq_take_iff];omega
  have h5:min (r.l.length:Int) 40<=xl.length:=aa;simp[ed,fQ,fX,jQ,dU,F8,h0,h1,h2,h3,h5]
 simp(disch:=omega)[go_sem,af,ad,bB,az,aE,lA,exact,DB,aM,aO,-getElem?_pos];refine au.gd aw λdv M3 aP aJ=> ?_;replace aJ:=cr aJ;rcases aP with rfl|⟨ns,tl,rfl,aS⟩
 . simp(disch:=omega)[go_sem,af,ad,bB];refine bH [aC 0,ae 0,dq 0,ae 0,aT 1,ae 19,aT 55,ae 127] an 0 rfl ?_;simp(disch:=omega)[go_sem,af,ad,bB]
   repeat refine⟨aa, ?_⟩
   exact⟨_,⟨c,hc,.inl rfl⟩,.refl _⟩
 . unfold gq;simp(disch:=omega)[go_sem,af,ad,bB];refine bH [aC 0,ae 0,dq 0,ae 0,aT 1,ae 19,aT 55,ae 127] an 0 rfl ?_;simp(disch:=omega)[go_sem,af,ad,bB]
   repeat refine⟨aa, ?_⟩
   exact⟨_,⟨c,hc,.inr ⟨ns,tl,rfl,by rw[ao];exact aS⟩⟩,.refl _⟩
def Nd.bare(n:Nd):Nd:={n with rem:=[]}
def uR(n:Nd):List DV:=[iV n.p,iV n.t,sV n.text,cm]
def Kx{S:fB}:∀l:List Nd,de S (l.map uR).flatten ((l.map Nd.bare).map Nd.e).flatten
 |[]=>.nil
 |n::l=>by
  simp only[afh,afx];exact aU.append (.cons (.refl _) (.cons (.refl _) (.cons (.refl _) (.cons (.nil aA) .nil)))) (Kx l)
def adQ(l:List Nd):∀x∈l.map uR,x.length=4:=λx hx=>by obtain⟨y,_,rfl⟩:=Rm.1 hx;rfl
def adR{α β:Type}(f:α->β){l:List α}{k:Nat}{x:α}(h:l[k]? =some x):(l.take (k+1)).map f=(l.take k).map f++[f x]:=by
 rw[Xt,h];simp
def cz.apps{H:ah}{B U k b st xt:Nat}{xs ys:List (List DV)}{pv:DV}{K:DV×ah×List Nat->Prop}(h:cz H B U k xs pv)(av:E.ap st=some (k,b)){z:Nat}(az:E.elem xt=some z)(hB:B<=U)(hU:U<=H.next)(aJ:0<k)(hy:∀y∈ys,y.length=k)(h1:(ys.flatten).all cD=true)(hx:∀x∈xs,x.length=k)(hb:(xs.length+ys.length)*(b+1)<=1073741824)
 (hk:∀H' aC T,(∀i∈T,B<=i/\i<U)->cz H' B H'.next k (xs++ys) aC->H.next<=H'.next->(∀j,j<H.next->kI pv≠some j->H'.get j=H.get j)->K (aC,H',T)):aN (iO E H [st,xt].toArray (some [pv,.sl k ys])) K:=by
 have ad:fh H k (.sl k ys)=some (ys.length,ys.flatten):=F4 H k ys;by_cases h0:ys=[]
 . subst h0;refine⟨(pv,H,[]), ?_,hk H pv [] aw (by rw[afn];exact h.same (λ_ _ _=>rfl) hU) (oY _) λ_ _ _=>rfl⟩;rcases h with⟨rfl,rfl⟩|⟨R,r1,r2,rfl,r4⟩
   . rw[mU,av,az];simp only[lG,ad];rw[afp,mi _ _ _ _ _ _ _ (oY _)]
   . rw[mU,av,az];simp only[lG,ad];rw[afp,mi _ _ _ _ _ _ _ (oY _)]
 . have hn:0<ys.length:=afI.2 h0;rcases h with⟨rfl,rfl⟩|⟨R,r1,r2,rfl,r4⟩
   . refine⟨_, ?_,hk (H.new (.row ys.flatten true k)) (.v (.slice (some ⟨H.next,0,none⟩) ys.length ys.length)) [] aw (.inr ⟨H.next,aa,by rw[ah.bb];omega,rfl, ?_⟩) (by rw[ah.bb];omega) (λj j1 j2=> ?_)⟩
     . rw[mU,av,az];simp only[lG,ad];rw[oU _ _ _ _ _ hn (by simpa using hb)]
     . rw[ah.cW,if_pos rfl];simp
     . rw[ah.cW,if_neg aa]
   . have aK:xs.flatten.length=xs.length*k:=fi hx;refine⟨_, ?_,hk ((H.set R none).new (.row (xs.flatten++ys.flatten) true k)) (.v (.slice (some ⟨H.next,0,none⟩) (xs.length+ys.length) (xs.length+ys.length))) [R] (by simp;omega) (.inr ⟨H.next,aa,by rw[ah.bb,ah.aW];omega,aw, ?_⟩) (by rw[ah.bb,ah.aW];omega) (λj j1 j2=> ?_)⟩
     . rw[mU,av,az];simp only[lG,ad];rw[rX _ _ _ _ _ _ _ _ r4 aK aJ hn h1 hb]
     . rw[ah.cW,ah.aW,if_pos rfl];simp
     . rw[ah.cW,ah.aW,if_neg aa,ah.bD,if_neg (λh=>j2 (by rw[h];rfl))]
set_option maxHeartbeats 4000000 in
def adS(ns:List Nd)(tl:List ByteArray)(hl:ns.length<=8000000):ay E true 8 [gq ns tl] (gq (ns.map Nd.bare) []):=by
 refine aV Tryz.ntmps8 Tryz.results8 λN=> ?_;unfold gq;refine aL ?_;obtain⟨I,hI⟩:∃I:Nat->DS->Prop,∀j d,I j d↔∃(k:Nat) (H:ah) (pv:DV),j+k=ns.length/\N+3<=H.next/\H.get N=some (.row [.sl 4 (ns.map Nd.e),strs tl] true 0)/\H.get (N+1)=some (.row [cm,cm] true 0)/\H.get (N+2)=some (.row [pv,cm] true 0)/\cz H (N+3) H.next 4 ((ns.take k).map uR) pv/\d=⟨bw [(1,aX N),(2,aX (N+1)),(3,aX (N+2)),(4,iV (k:Nat))],26,[],H⟩:=⟨_,λ_ _=>Fj⟩;refine bM I ns.length ⟨_,aB.bk (l:=[(1,aX N),(2,aX (N+1)),(3,aX (N+2)),(4,iV (0:Nat))]) ?_,(hI _ _).2 ⟨0,_,cm,rfl, ?_, ?_, ?_, ?_,.nil _ _ _ _,rfl⟩⟩ ?_
 . exact ai
 . exact ai
 . exact ai
 . exact ai
 . exact ai
 intro j ds ae;obtain⟨k,H,pv,hj,hN,f1,f2,f3,hgr,rfl⟩:=(hI _ _).1 ae;clear ae;by_cases an:k<ns.length
 . have ab:(k:Int)<ns.length:=aa;obtain⟨n,hn⟩:∃n,ns[k]? =some n:=⟨_,yx an⟩;simp(disch:=omega)[go_sem,f1,f3,ab,hn,-getElem?_pos,Nd.e];refine cz.app (st:=42) (xt:=42) (B:=N+3) (U:=H.next) (k:=4) (xs:=(ns.take k).map uR) (hgr.same (λq q1 q2=>ai) (oY _)) rZ rY aa (by simp(disch:=omega)[go_sem]<;>omega) (new:=uR n) (by simp(disch:=omega)[go_sem,uR]) aA rfl rfl (adQ _) (by simp;omega) λH3 af T3 _ z1 z2 z3 z4=> ?_;simp(disch:=omega)[go_sem]at z2 z4;obtain⟨p1,p2⟩:=z1.cells;have g1:=z3 N (by simp(disch:=omega)[go_sem]<;>omega) (hgr.ne (.inl aa));have g2:=z3 (N+1) (by simp(disch:=omega)[go_sem]<;>omega) (hgr.ne (.inl aa));have g3:=z3 (N+2) (by simp(disch:=omega)[go_sem]<;>omega) (hgr.ne (.inl aa));simp(disch:=omega)[go_sem,f1,f2,f3]at g1 g2 g3;simp(disch:=omega)[go_sem,g3,p1,p2,aG];refine⟨j-1,aa,_,aB.bk (l:=[(1,aX N),(2,aX (N+1)),(3,aX (N+2)),(4,iV (k+1:Nat))]) ai,(hI _ _).2 ⟨k+1,_,af,aa, ?_, ?_, ?_,ai, ?_,rfl⟩⟩
   . rw[ah.aW];omega
   . simp(disch:=omega)[go_sem,g1]
   . simp(disch:=omega)[go_sem,g2]
   . rw[adR _ hn];exact z1.same (λq q1 q2=>by rw[ah.bD,if_neg aa]) (oY _)
 . have ab:¬(k:Int)<ns.length:=aa;rw[Rb aa]at hgr;obtain⟨p1,p2⟩:=hgr.cells;simp(disch:=omega)[go_sem,f1,f2,f3,ab,p1,p2];rw[<-List.map_map];obtain⟨H',aE⟩:∃H',H.set (N+1) (some (.row [pv,cm] true 0))=H':=⟨_,rfl⟩;rw[aE];exact⟨hgr.Dx aA aw (sS _) (Kx ns) λR cs r1 _ h=>cu (wr:=true) (by rw[<-aE,ah.bD,if_neg aa];exact h),.nil aA⟩
set_option maxHeartbeats 4000000 in
def adT(ns:List Nd)(tl:List ByteArray)(hl:ns.length<=8000000):ay E true 11 [gq ns tl] (.sl 4 ((ns.filter λn=>decide (n.p<0)).map Nd.e)):=by
 refine aV Tryz.ntmps11 Tryz.results11 λN=> ?_;unfold gq;refine aL ?_
 let F:Nat->List Nd:=λk=>(ns.take k).filter λn=>decide (n.p<0)
 have hF:∀k n,ns[k]? =some n->F (k+1)=if n.p<0 then F k++[n]else F k:=λk n h=>by
  simp only[F,Xt,h,aft,afA];by_cases hp:n.p<0<;>simp[hp]
 have aM:∀k,(F k).length<=k:=λk=>by
  simp only[F];exact afm (afs _ _) (by rw[afv];omega)
 obtain⟨I,hI⟩:∃I:Nat->DS->Prop,∀j d,I j d↔∃(k:Nat) (H:ah) (pv:DV),j+k=ns.length/\N+1<=H.next/\H.get N=some (.row [.sl 4 (ns.map Nd.e),strs tl] true 0)/\cz H (N+1) H.next 4 ((F k).map Nd.e) pv/\d=⟨bw [(1,aX N),(3,pv),(4,iV (k:Nat))],28,[],H⟩:=⟨_,λ_ _=>Fj⟩;refine bM I ns.length ⟨_,aB.bk (l:=[(1,aX N),(3,cm),(4,iV (0:Nat))]) ?_,(hI _ _).2 ⟨0,_,cm,rfl, ?_, ?_,.nil _ _ _ _,rfl⟩⟩ ?_
 . exact ai
 . exact ai
 . exact ai
 intro j ds ae;obtain⟨k,H,pv,hj,hN,f1,hgr,rfl⟩:=(hI _ _).1 ae;clear ae;by_cases an:k<ns.length
 . have ab:(k:Int)<ns.length:=aa;obtain⟨n,hn⟩:∃n,ns[k]? =some n:=⟨_,yx an⟩;have aj:=hF k n hn;have aO:=aM k;by_cases hp:n.p<0
   . rw[if_pos hp]at aj;simp(disch:=omega)[go_sem,f1,ab,hn,-getElem?_pos,Nd.e,hp];refine cz.app (st:=42) (xt:=42) (B:=N+1) (U:=H.next) (k:=4) (xs:=(F k).map Nd.e) (hgr.same (λq q1 q2=>ai) (oY _)) rZ rY aa (by simp(disch:=omega)[go_sem]<;>omega) (new:=n.e) (by simp(disch:=omega)[go_sem,Nd.e]) aA rfl rfl (sS _) (by rw[Q0];omega) λH3 af T3 _ z1 z2 z3 z4=> ?_;replace z2:=cr z2;have g1:=z3 N (by simp(disch:=omega)[go_sem]<;>omega) (hgr.ne (.inl aa));simp(disch:=omega)[go_sem,f1]at g1;simp(disch:=omega)[go_sem,aG];refine⟨j-1,aa,_,aB.bk (l:=[(1,aX N),(3,af),(4,iV (k+1:Nat))]) ?_,(hI _ _).2 ⟨k+1,H3,af,aa,aa,g1,by rw[aj,UR];exact z1,rfl⟩⟩;exact ai
   . rw[if_neg hp]at aj;simp(disch:=omega)[go_sem,f1,ab,hn,-getElem?_pos,Nd.e,hp,aG];refine⟨j-1,aa,_,aB.bk (l:=[(1,aX N),(3,pv),(4,iV (k+1:Nat))]) ?_,(hI _ _).2 ⟨k+1,H,pv,aa,aa,f1,by rw[aj];exact hgr,rfl⟩⟩;exact ai
 . have ab:¬(k:Int)<ns.length:=aa;have aj:F k=ns.filter λn=>decide (n.p<0):=by simp only[F];rw[Rb aa]
   rw[aj]at hgr;simp(disch:=omega)[go_sem,f1,ab];exact hgr.fz aA (sS _)
set_option maxHeartbeats 4000000 in
def adU(ns:List Nd)(tl:List ByteArray)(hl:ns.length<=60)(hr:∀n∈ns,n.rem.length<=20)(ht:tl.length<=20):ay E true 12 [gq ns tl] (strs (ns.flatMap Nd.rem++tl)):=by
 refine aV Tryz.ntmps12 Tryz.results12 λN=> ?_;unfold gq;refine aL ?_;have ao:∀l:List ByteArray,((l.map λs=>[sV s]).flatten).all cD=true:=λl=>by
  simp only[adr,afz,Rm];rintro x ⟨_,⟨s,_,rfl⟩,hx⟩;rw[Yt.1 hx];rfl
 obtain⟨I,hI⟩:∃I:Nat->DS->Prop,∀j d,I j d↔∃(k:Nat) (H:ah) (pv:DV),j+k=ns.length/\N+1<=H.next/\((ns.take k).flatMap Nd.rem).length<=20*k/\H.get N=some (.row [.sl 4 (ns.map Nd.e),strs tl] true 0)/\cz H (N+1) H.next 1 (((ns.take k).flatMap Nd.rem).map λs=>[sV s]) pv/\d=⟨bw [(1,aX N),(3,pv),(4,iV (k:Nat))],24,[],H⟩:=⟨_,λ_ _=>Fj⟩;refine bM I ns.length ⟨_,aB.bk (l:=[(1,aX N),(3,cm),(4,iV (0:Nat))]) ?_,(hI _ _).2 ⟨0,_,cm,rfl, ?_,aw, ?_,.nil _ _ _ _,rfl⟩⟩ ?_
 . exact ai
 . exact ai
 . exact ai
 intro j ds ae;obtain⟨k,H,pv,hj,hN,hlen,f1,hgr,rfl⟩:=(hI _ _).1 ae;clear ae;by_cases an:k<ns.length
 . have ab:(k:Int)<ns.length:=aa;obtain⟨n,hn⟩:∃n,ns[k]? =some n:=⟨_,yx an⟩;have aP:=hr n (Ey hn);have aH:(ns.take (k+1)).flatMap Nd.rem=(ns.take k).flatMap Nd.rem++n.rem:=by rw[Xt,hn];simp
   simp(disch:=omega)[go_sem,f1,ab,hn,-getElem?_pos,Nd.e];refine cz.apps (st:=30) (xt:=30) (B:=N+1) (U:=H.next) (k:=1) (xs:=((ns.take k).flatMap Nd.rem).map λs=>[sV s]) (ys:=n.rem.map λs=>[sV s]) hgr yb ya aa (oY _) aA (sP _) (ao _) (sP _) (by rw[Q0,Q0];omega) λH3 af T3 _ z1 z2 z3=> ?_;have g1:=z3 N aa (hgr.ne (.inl aa));rw[f1]at g1;simp(disch:=omega)[go_sem,aG];refine⟨j-1,aa,_,aB.bk (l:=[(1,aX N),(3,af),(4,iV (k+1:Nat))]) ?_,(hI _ _).2 ⟨k+1,H3,af,aa,aa,by rw[aH,afe];omega,g1,by rw[aH,UR];exact z1,rfl⟩⟩;exact ai
 . have ab:¬(k:Int)<ns.length:=aa;rw[Rb aa]at hgr hlen;simp(disch:=omega)[go_sem,f1,ab];refine cz.apps (st:=30) (xt:=30) (B:=N+1) (U:=H.next) (k:=1) (xs:=(ns.flatMap Nd.rem).map λs=>[sV s]) (ys:=tl.map λs=>[sV s]) hgr yb ya aa (oY _) aA (sP _) (ao _) (sP _) (by rw[Q0,Q0];omega) λH3 af T3 _ z1 z2 z3=> ?_;refine aL ?_;rw[<-UR]at z1;exact z1.fz aA (sP _)
def wL(s:Sym):Value:=.agg #[.bool s.tok,.int .i64 s.idx]
def adV(x y:Sym)(o p:Operand):cL E .neq 136 o p (wL x) (wL y)=some (.bool (!decide (x.tok=y.tok/\x.idx=y.idx))):=by
 have hg:Tryz.prog.eqGuardType Tryz.prog.depth 136=false:=an;show eI Tryz.prog _=_;obtain⟨x1,x2⟩:=x;obtain⟨y1,y2⟩:=y;simp[eI,wL,eqGuard,binOp,lQ,sx,qF,hg,Ik,-bind_pure_comp,yD,plain]
 try rfl
def adW(x y:Sym)(o p:Operand):iC E .neq 136 o p (.agg [bV x.tok,iV x.idx]) (.agg [bV y.tok,iV y.idx])=some (bV (!decide (x.tok=y.tok/\x.idx=y.idx))):=by
 have h:=adV x y o p;show(cL E .neq 136 o p (wL x) (wL y)).map DV.v=_;rw[h];rfl
def adX(g:aj)(n:Int×Int)(hn:zn g n):ay E true 169 [.agg g.e,iV n.1,iV n.2] (.agg [bV (fH g n).tok,iV (fH g n).idx]):=by
 refine aV Tryz.ntmps169 Tryz.results169 λN=> ?_;by_cases h:n.1<0
 . simp(disch:=omega)[go_sem,aj.e,h,fH]
 . obtain⟨P,hP⟩:∃P,g.aq[n.1.toNat]? =some P:=by
    rcases hn with h1|h1
    . omega
    . exact⟨_,yx h1.2.1⟩
   have h0:0<=n.1:=aa;simp(disch:=omega)[go_sem,aj.e,h,fH,hP,h0,-getElem?_pos,aK.e]
def wM(e:Nat×List Sym)(x:List DV):Prop:=x=[iV (e.1:Nat),.sl 2 (e.2.map Sym.e)]\/(e.2=[]/\x=[iV (e.1:Nat),cm])
def zq:jG->List (List DV)->Prop
 |[],ys=>ys=[]
 |e::b,ys=>∃zs x,ys=zs++[x]/\wM e x/\zq b zs
def wM.len{e:Nat×List Sym}{x:List DV}(h:wM e x):x.length=2:=by rcases h with rfl|⟨_,rfl⟩<;>rfl
def zq.len:∀{st:jG} {ys:List (List DV)},zq st ys->ys.length=st.length/\∀y∈ys,y.length=2
 |[],ys,h=>by subst h;exact⟨rfl,λy hy=>by cases hy⟩
 |e::b,ys,⟨zs,x,h1,h2,h3⟩=>by
  subst h1;obtain⟨h4,h5⟩:=h3.len;refine⟨by simp[h4],λy hy=> ?_⟩;rcases YN.1 hy with h|h
  . exact h5 y h
  . rw[Yt.1 h];exact h2.len
def j8(H:ah)(B U:Nat)(st:jG)(pv:DV):Prop:=(st=[]/\pv=cm)\/∃R cap ys ab,B<=R/\R<U/\pv=.v (.slice (some ⟨R,0,none⟩) st.length cap)/\st.length<=cap/\zq st ys/\H.get R=some (.row (ys.flatten++ab) true 2)/\ab.length=(cap-st.length)*2
def j8.same{H H':ah}{B U U':Nat}{st:jG}{pv:DV}(h:j8 H B U st pv)(hs:∀j,B<=j->j<U->H'.get j=H.get j)(hU:U<=U'):j8 H' B U' st pv:=by
 rcases h with h|⟨R,cap,ys,ab,h1,h2,h3,h4,h5,h6,h7⟩
 . exact .inl h
 . exact .inr ⟨R,cap,ys,ab,h1,aa,h3,h4,h5,by rw[hs R h1 h2,h6],h7⟩
def j8.len{H:ah}{B U:Nat}{st:jG}{pv:DV}(h:j8 H B U st pv)(h':ah)(t:TypeId)(s:Nat)(hs:E.elem t=some s):fp E h' t pv=some (iV (st.length:Nat)):=by
 rcases h with⟨rfl,rfl⟩|⟨R,cap,ys,ab,h1,h2,rfl,h4,h5,h6,h7⟩<;>simp[go_sem,hs]
def j8.ne{H:ah}{B U:Nat}{st:jG}{pv:DV}(h:j8 H B U st pv){j:Nat}(hj:j<B\/U<=j):kI pv≠some j:=by
 rcases h with⟨_,rfl⟩|⟨R,cap,ys,ab,h1,h2,rfl,_⟩
 . intro h;cases h
 . intro h;simp only[kI,Option.some.injEq]at h;omega
def j8.push{H:ah}{B U b st xt q:Nat}{sk:jG}{pv:DV}{new:List DV}{e:Nat×List Sym}{K:DV×ah×List Nat->Prop}(h:j8 H B U sk pv)(he:wM e new)(af:E.ap st=some (2,b)){z:Nat}(ai:E.elem xt=some z)(hB:B<=U)(hU:U<=H.next)(hq:H.get q=some (.row new true 0))(h1:new.all cD=true)(hb:(sk.length+1)*(b+1)<=1073741824)
 (hk:∀H' av T,j8 H' B H'.next (e::sk) av->H.next<=H'.next->(∀j,j<H.next->kI pv≠some j->H'.get j=H.get j)->K (av,H',T)):aN (iO E H [st,xt].toArray (some [pv,.v (.slice (some ⟨q,0,none⟩) 1 1)])) K:=by
 have ao:=he.len;have ad:fh H 2 (.v (.slice (some ⟨q,0,none⟩) 1 1))=some (1,new):=by
  simp only[fh,hq];rw[if_pos aa];rw[Nat.one_mul,afD,Rb aa]
 rcases h with⟨rfl,rfl⟩|⟨R,cap,ys,ab,r1,r2,rfl,r3,r4,r5,r6⟩
 . refine⟨_, ?_,hk (H.new (.row new true 2)) (.v (.slice (some ⟨H.next,0,none⟩) 1 1)) [] (.inr ⟨H.next,1,[new],[],aa,by rw[ah.bb];omega,rfl,oY _,⟨[],new,rfl,he,rfl⟩, ?_,rfl⟩) (by rw[ah.bb];omega) (λj j1 j2=> ?_)⟩
   . rw[mU,af,ai];simp only[lG,ad];rw[oU _ _ _ _ _ aA (by simpa using hb)]
   . rw[ah.cW,if_pos rfl];simp
   . rw[ah.cW,if_neg aa]
 . obtain⟨y1,y2⟩:=r4.len;have ae:ys.flatten.length=sk.length*2:=by rw[fi y2,y1]
   by_cases hc:sk.length+1<=cap
   ·
    have aH:2<=ab.length:=aa;have az:(ys.flatten++ab).take (0+sk.length*2)=ys.flatten:=by rw[Nat.zero_add,<-ae,List.take_left]
    have aC:(ys.flatten++ab).drop (0+sk.length*2+new.length)=ab.drop 2:=by
     rw[Nat.zero_add,ao,<-ae,<-List.drop_drop,List.drop_left]
    refine⟨_, ?_,hk (H.set R (some (.row (ys.flatten++new++ab.drop 2) true 2))) (.v (.slice (some ⟨R,0,none⟩) (sk.length+1) cap)) [R] (.inr ⟨R,cap,ys++[new],ab.drop 2,r1,by rw[ah.aW];omega,rfl,hc,⟨ys,new,rfl,he,r4⟩, ?_, ?_⟩) (by rw[ah.aW];omega) (λj j1 j2=> ?_)⟩
    . rw[mU,af,ai];simp only[lG,ad,eA];rw[if_pos hc,if_neg aA,r5];simp only;rw[if_pos ⟨by rw[afe,ae];omega,h1⟩,az,aC]
    . rw[ah.bD,if_pos rfl];simp
    . rw[List.length_drop,r6,afl];omega
    . rw[ah.bD,if_neg (λh=>j2 (by rw[h];rfl))]
   . have aE:cap=sk.length:=aa;subst aE;have aG:ab=[]:=List.eq_nil_of_length_eq_zero aa;subst aG;rw[afn]at r5;refine⟨_, ?_,hk ((H.set R none).new (.row (ys.flatten++new) true 2)) (.v (.slice (some ⟨H.next,0,none⟩) (sk.length+1) (sk.length+1))) [R] (.inr ⟨H.next,sk.length+1,ys++[new],[],aa,by rw[ah.bb,ah.aW];omega,rfl,oY _,⟨ys,new,rfl,he,r4⟩, ?_,aw⟩) (by rw[ah.bb,ah.aW];omega) (λj j1 j2=> ?_)⟩
     . rw[mU,af,ai];simp only[lG,ad];rw[rX _ _ _ _ _ _ _ _ r5 ae aA aA h1 hb]
     . rw[ah.cW,ah.aW,if_pos rfl];simp
     . rw[ah.cW,ah.aW,if_neg aa,ah.bD,if_neg (λh=>j2 (by rw[h];rfl))]
end Go.Sp
end

/- Parts of a proof. -/
import Derived.Test.YtlgccnjcmfighaaGreatDoorK09
open List renaming getElem?_eq_getElem->qG,map_cons->yB,mem_cons->FQ,range->KE,mem_of_getElem?->RW,mem_cons_of_mem->Xy,take_of_length_le->YN,mem_range->ab8,getElem?_append_left->adv,prefix_refl->afj,not_mem_nil->afv,flatMap_cons->afw,getElem?_eq_some_iff->afx,mem_map->afy,prefix_append->afz,length_map->afA,mem_singleton->afB,take_add_one->afD,foldl_append->afF,foldl_cons->afG,foldl_nil->afH,length_append->afM,nodup_append->afR,zipIdx_cons->afT,mem_append->afU,all_eq_true->afV
open Nat renaming le_refl->yy,lt_or_ge->RK,lt_of_lt_of_le->Vs,zero_add->Zf,strongRecOn->afP
open Option renaming map_some->E2,bind_some->adr,toList_some->afE,map_none->afJ,isSome_iff_exists->afK,getD_some->afS
open Bool renaming false_eq_true->RC,decide_and->afL,and_eq_true->afW
open Prod.mk renaming injEq->YT
open Int renaming toNat_natCast->afC,natCast_add->afN,cast_ofNat_Int->afO
open List.cons renaming injEq->afI
open Option.some renaming inj->afQ
open Std.Legacy.Range renaming forIn_eq_forIn_range'->afX,size->afY
set_option linter.all false
set_option maxRecDepth 100000
noncomputable section
open Go Go.aD Go.Proofs
namespace Go.Sp
def Ik{N:Nat}:∀{r s:List (Nat×bF)} {i:Nat} {o:bF},(cj N (r++s)).get i=some o->(i,o)∈r\/(cj N s).get i=some o
 |[],s,i,o,h=>.inr h
 |(j,u)::r,s,i,o,h=>by
  rw[List.cons_append,tP]at h
  split at h
  . rename_i hi;subst hi;cases h;exact .inl aw
  . rcases Ik h with h|h
    . exact .inl (Xy _ h)
    . exact .inr h
def aB.Zg{t:Tr DV}{n N:Nat}{dd:List FuncId}{h:ae}{ts:List (Nat×DV)}{r:List (Nat×bF)}(l:List Nat){b:Nat}{cs cs':List DV}{wr:Bool}{aj:Nat}(hl:∀i∈l,(h.get i).isSome=true)(hN:h.next=N)(ht:gm t ts)(hh:ni h r)
 (hr:∀p∈r,p.1∉l) (hb:h.get b=some (.row cs wr aj)) (bq:b∉l) (hz:cI (rowsOf h l) cs cs'):aB ⟨t,n,dd,h⟩ ⟨bw ts,n,dd,cj N (r++[(b,.row cs' wr aj)])⟩:=by
 refine aB.of l hl (by rw[tQ,hN]) (λi v hv=>⟨v,tR ht.mem i v hv,.refl v⟩) λi o ho=> ?_;rcases Ik ho with h1|h1
 . exact⟨hr _ h1,.inl (hh.mem _ h1)⟩
 . rw[tP]at h1
   split at h1
   . rename_i hi;subst hi;cases h1;exact⟨bq,.inr ⟨cs,cs',wr,aj,hb,rfl,hz⟩⟩
   . rw[vQ]at h1;cases h1
def Il(md:List Int->Nat->Dg):Prop:=∀(l:List Int) (n:Nat),(∀b∈l,0<=b/\b<256)->n<=3->aE E true 25 [.sl 1 (l.map λb=>[uV b]),iV n] (.agg (md l n).e)
def Im(md:List Int->Nat->Dg):Prop:=∀(b:Int) (n:Nat),0<=b->b<256->n<=3->aE E true 98 [.agg (cE md b n).e,iV n] (bV true)
def MI(N M:Nat)(kb:Bool)(ab:Nat)(x:cM)(g:aq)(ts:List (Nat×DV))(d:DS):Prop:=∃P,(N+1<M/\M<P)/\d=⟨bw ([(1,.v (.pointer (some ⟨N,0,none⟩))),(2,.v (.pointer (some ⟨N+1,0,none⟩))),(3,bV kb),(4,.v (.pointer (some ⟨M,0,none⟩))),(5,iV ab)]++ts),99,[],cj P [(N,.row x.e true 0),(N+1,.row eE true 0),(M,.row g.e true 0)]⟩
set_option maxHeartbeats 8000000 in
def Zh(hc:Cn)(md:List Int->Nat->Dg)(bg:Il md)(aS:Im md)(x:cM)(hx:x.Ok):aE E true 12 [.agg x.e] (.agg (cB md x).e):=by
 obtain⟨R,hR⟩:∃R,R=DV.agg (cB md x).e:=⟨_,rfl⟩;rw[<-hR];have hb:=hx.base;have hn:=hx.n;have hw:IntKind.u8.wrap (x.base%8)=x.base%8:=wrap_u8 aa aa;have aF:∀(b:Int) (n:Nat),0<=b->b<256->n<=3->aE E true 15 [uV b,iV n] (.agg (cE md b n).e):=λb n h0 h1 h2=>HY hc md bg b n h0 h1 h2;obtain⟨g0,aN⟩:∃g0,iH x=g0:=⟨_,rfl⟩;obtain⟨kb,aQ⟩:∃kb,decide (x.base%8<6)=kb:=⟨_,rfl⟩;obtain⟨ab,an⟩:∃ab:Nat,(if kb then 6 else 10)=ab:=⟨_,rfl⟩;have bs:ab<=10:=by rw[<-an];split<;>omega
 have af:=Ig x hx;rw[aN]at af;refine qM Tryz.ntmps12 Tryz.results12 λN=> ?_;refine du ?_;simp(disch:=omega)[go_sem,cM.e];refine du ?_;simp(disch:=omega)[go_sem,dq,hw,cM.e,aQ];refine du ?_;simp(disch:=omega)[go_sem,dq,hw,cM.e];refine ax.mk (Y0 (x.base%8) (by simp;omega)) λM hM=> ?_;replace hM:=cq hM;simp(disch:=omega)[go_sem,aq.e,cM.e];refine du ?_;refine aL ?_;refine iJ (MI N M kb ab x g0 []) ?_ ?_
 . refine aL ?_;cases kb with
   |false=>
    have hk:=of_decide_eq_false aQ;have hq:IntKind.u8.wrap (x.n/4)=x.n/4:=wrap_u8 aa aa;have hr:IntKind.u8.wrap (x.n%4)=x.n%4:=wrap_u8 aa aa;obtain⟨n1,bj⟩:∃n1:Nat,1+x.n/4%3=n1:=⟨(1+x.n/4%3).toNat,aa⟩;obtain⟨n2,bk⟩:∃n2:Nat,x.n%4=n2:=⟨(x.n%4).toNat,aa⟩;have bt:IntKind.u8.wrap n2=n2:=wrap_u8 aa aa;have aH:n1<=3:=aa;have aI:n2<=3:=aa;have he:g0.e=[.sl 1 ((oo.take n2).map λs=>[sV s]),.sl 3 ((aW true).nodes.map cL),iV (aW true).root,.sl 7 (au.map Tok.e),strs (uf.take n1),.sl 13 [(bE ⟨#[102,105,114,115,116]⟩ 0 [⟨true,0⟩] (aW true)).e],iV 0,.sl 4 [],.sl 9 []]:=by
     rw[<-aN];simp only[iH,hk,if_false,bj,bk,afC];simp[aq.e]
    simp(disch:=omega)[go_sem,aq.e,cM.e,jR,dq,hq,hr,aG];refine Cq (wr:=true) rfl (by simp(disch:=omega)[go_sem];try rfl) (.inl rfl) aa aa ?_;refine aL ?_;simp only[bj,afC];refine ax.fz (YY (uf.take n1)) [M+1] ?_ ?_ λM2 aY=> ?_
    . exact ah
    . exact .cons (Ii (aj:=0) aC aH aH (λ_=>rfl) (.inl rfl) (fA (wr:=true) aw (by simp(disch:=omega)[go_sem,uf]))) .nil
    replace aY:=cq aY;simp(disch:=omega)[go_sem,yA,cM.e,jR,dq,hr,bk,bt,aG];refine Cq (wr:=true) rfl (by simp(disch:=omega)[go_sem];try rfl) (.inl rfl) aa aa ?_;simp(disch:=omega)[go_sem,yA];refine bZ [lr 0,⟨.read,1,some (0,3),true⟩,aU 0,cR 4,aU 12,cR 28,aU 63,ai 127,aU 255] ak 2 rfl ?_;refine aL ?_;refine ax.mk (HU 0) λM3=>dI λbG=> ?_;refine YZ ⟨#[102,105,114,115,116]⟩ 0 [⟨true,0⟩] (by simp(disch:=omega)[go_sem,Sym.e];try rfl) rfl (yy _) λM4 bm=> ?_;replace bm:=cq bm;simp(disch:=omega)[go_sem,ko,se,aW,cM.e,Sym.e]
    repeat refine⟨aa, ?_⟩
    refine⟨_,aB.Zg (r:=[(N,.row x.e true 0),(N+1,.row eE true 0)]) (cs':=g0.e) [M2,M4] (b:=M) ?_ (by simp(disch:=omega)[go_sem];try rfl) ?_ ?_ ?_ (by simp(disch:=omega)[go_sem];try rfl) ?_ ?_,_,⟨aa, ?_⟩,rfl⟩
    . intro i hi;simp only[FQ,afv,or_false]at hi;rcases hi with rfl|rfl<;>simp(disch:=omega)[go_sem]
    . simp(disch:=omega)[go_sem,<-an]
    . simp(disch:=omega)[go_sem,cM.e,eE]
    . simp;omega
    . simp;omega
    . rw[he];exact .cons (Ii (aj:=0) aC aI aI (λ_=>rfl) (.inl rfl) (fA (wr:=true) aw (by simp(disch:=omega)[go_sem,oo]))) (.cons (.refl _) (.cons (.refl _) (.cons (.refl _) (.cons (.refl _) (.cons (dY (aj:=13) (fA (wr:=true) aw (by simp(disch:=omega)[go_sem,bE,aX.e,Sym.e,aW,jr])) (.inr rfl) aC rfl (yy _) (by simp[aX.e])) (.cons (.refl _) (.cons (.nil aC) (.cons (.nil aC) .nil))))))))
    . omega
   |true=>
    have hk:=of_decide_eq_true aQ;have he:g0=ic (x.base%8):=by rw[<-aN];simp only[iH,hk,if_true]
    refine aL ?_;refine⟨_,aB.mk (N:=M+1) ah ?_ ?_,_,⟨aa,Nat.lt_succ_self M⟩,rfl⟩
    . simp(disch:=omega)[go_sem,<-an]
    . simp(disch:=omega)[go_sem,cM.e,eE,he,aq.e]
 . rintro d' ⟨P,⟨h1,h2⟩,rfl⟩;have bu:g0.conds.length<=3:=af.1.conds;refine du ?_;simp(disch:=omega)[go_sem,cM.e,aq.e];refine ax.mk (bg x.family g0.conds.length hx.family bu) λM2=>aT λaY=> ?_;obtain⟨d,hd⟩:∃d,md x.family g0.conds.length=d:=⟨_,rfl⟩;rw[hd];have aJ:iI md x g0=if 0<x.family.length/\d.root≠0 then{g0 with family:=d}else g0:=by simp only[iI,hd]
   simp(disch:=omega)[go_sem,Dg.e];refine iJ (MI N M kb ab x (iI md x g0) []) ?_ ?_
   . by_cases hf:x.family=[]
     . simp(disch:=omega)[go_sem,cM.e,hf];refine⟨_,aB.mk (N:=M2+1) ah ah ?_,_,⟨aa,aa⟩,rfl⟩
       . simp(disch:=omega)[go_sem,cM.e,eE,aq.e,aJ,hf]
     have bo:0<x.family.length:=List.length_pos_iff.2 hf;have bx:(0:Int)<x.family.length:=aa;by_cases hr:d.root=0
     all_goals
      simp(disch:=omega)[go_sem,Dg.e,cM.e,bo,bx,hr];refine⟨_,aB.mk (N:=M2+1) ah ah ?_,_,⟨aa,aa⟩,rfl⟩
      . simp(disch:=omega)[go_sem,cM.e,eE,aq.e,aJ,bo,hr,Dg.e]
   . rintro d' ⟨P,⟨h3,h4⟩,rfl⟩;have bA:=eo.cW af.1 md x;obtain⟨G1,ba⟩:∃G1,(x.lines.take ab).foldl (λg l=>fO (cE md) g l kb) (iI md x g0)=G1:=⟨_,rfl⟩;refine iJ (λd=>eo G1 0/\MI N M kb ab x G1 [] d) ?_ ?_
     . refine aL ?_;obtain⟨I,hI⟩:∃I:Nat->DS->Prop,∀j d,I j d↔∃(k:Nat) (g:aq),j+k=x.lines.length/\k<=ab/\eo g 0/\g.ay.length<=10+k/\g=(x.lines.take k).foldl (λg l=>fO (cE md) g l kb) (iI md x g0)/\MI N M kb ab x g [(7,iV k)] d:=⟨_,λ_ _=>Iff.rfl⟩;refine bS I x.lines.length ⟨_,aB.mk (N:=P) ah ?_ ?_,(hI _ _).2 ⟨0,iI md x g0,rfl,aa,bA.1,aa,rfl,P,⟨h3,h4⟩,rfl⟩⟩ ?_
       . simp[go_sem]
       . simp(disch:=omega)[go_sem,cM.e,eE,aq.e]
       . intro j ds aM;obtain⟨k,g,hj,bp,hgr,bH,ad,P,⟨-,hP⟩,rfl⟩:=(hI _ _).1 aM;clear aM;by_cases l1:k<x.lines.length
         . have ao:(k:Int)<x.lines.length:=aa;obtain⟨l,hl⟩:∃l,x.lines[k]? =some l:=⟨_,qG l1⟩;by_cases l2:k<ab
           . have av:(k:Int)<ab:=aa;have bb:=hx.lines l (RW hl);simp(disch:=omega)[go_sem,cM.e,ao,av,hl,-getElem?_pos];refine bZ [aK 0,ai 0,aK 2,ai 0,ai 14,aK 30,ai 0,aU 127,aU 255] ak 0 rfl ?_;simp(disch:=omega)[go_sem,cM.e,Ln.e,hl,aq.e,-getElem?_pos];have bc:=Y9 (cE md) aF g l kb bb hgr.aP.1 hgr.aP.2 hgr.conds aa;refine ax.mk bc λP2=>aT λbB=> ?_;generalize az:fO (cE md) g l kb=gg at*;simp(disch:=omega)[go_sem,aq.e,aG];refine⟨j-1,aa,_,aB.mk (N:=P2) ah ?_ ?_,(hI _ _).2 ⟨k+1,gg,aa,aa,az▸hgr.line .., ?_, ?_,P2,⟨h3,aa⟩,rfl⟩⟩
             . simp(disch:=omega)[go_sem,aG]
             . simp(disch:=omega)[go_sem,aq.e,cM.e,eE]
             . have:=Za (cE md) g l kb;rw[az]at this;omega
             . rw[afD,hl,afE,afF,<-ad,afG,afH,az]
           . have av:¬(k:Int)<ab:=aa;rw[show k=ab by omega,ba]at ad;simp(disch:=omega)[go_sem,cM.e,ao,av,hl,-getElem?_pos];refine⟨_,aB.mk (N:=P) ah ah ?_,ad▸hgr,P,⟨h3,hP⟩,rfl⟩
             . simp(disch:=omega)[go_sem,cM.e,eE,aq.e,ad]
         . have ao:¬(k:Int)<x.lines.length:=aa;rw[YN aa,<-YN (i:=ab) (l:=x.lines) aa,ba]at ad;simp(disch:=omega)[go_sem,cM.e,ao,-getElem?_pos];refine⟨_,aB.mk (N:=P) ah ah ?_,ad▸hgr,P,⟨h3,hP⟩,rfl⟩
           . simp(disch:=omega)[go_sem,cM.e,eE,aq.e,ad]
     . rintro d' ⟨bd,P,⟨-,h5⟩,rfl⟩;obtain⟨G2,bf⟩:∃G2,(x.rules.take 6).foldl (ja (cE md)) G1=G2:=⟨_,rfl⟩;have bD:R=DV.agg G2.e:=by
        rw[hR,<-bf,<-ba];simp only[cB,aN,aQ,an]
       refine iJ (MI N M kb ab x G2 []) ?_ ?_
       . refine aL ?_;obtain⟨J,hJ⟩:∃J:Nat->DS->Prop,∀j d,J j d↔∃(k:Nat) (g:aq),j+k=x.rules.length/\k<=6/\eo g k/\g=(x.rules.take k).foldl (ja (cE md)) G1/\MI N M kb ab x g [(8,iV k)] d:=⟨_,λ_ _=>Iff.rfl⟩;refine bS J x.rules.length ⟨_,aB.mk (N:=P) ah ?_ ?_,(hJ _ _).2 ⟨0,G1,rfl,aa,bd,rfl,P,⟨h3,h5⟩,rfl⟩⟩ ?_
         . simp[go_sem]
         . simp(disch:=omega)[go_sem,cM.e,eE,aq.e]
         . intro j ds aM;obtain⟨k,g,hj,bp,hgr,ad,P,⟨-,hP⟩,rfl⟩:=(hJ _ _).1 aM;clear aM;by_cases l1:k<x.rules.length
           . have ao:(k:Int)<x.rules.length:=aa;obtain⟨l,hl⟩:∃l,x.rules[k]? =some l:=⟨_,qG l1⟩;by_cases l2:k<6
             . have av:(k:Int)<6:=aa;have bb:=hx.rules l (RW hl);simp(disch:=omega)[go_sem,cM.e,ao,av,hl,-getElem?_pos];refine bZ [aK 0,ai 0,aK 2,ai 0,ai 14,aK 30,aU 63,aU 127] ak 0 rfl ?_;simp(disch:=omega)[go_sem,cM.e,Rl.e,hl,aq.e,-getElem?_pos];have bc:=Y7 (cE md) aF aS g (hgr.ok bp) l bb;refine ax.mk bc λP2=>aT λbB=> ?_;generalize az:ja (cE md) g l=gg at*;simp(disch:=omega)[go_sem,aq.e,aG];refine⟨j-1,aa,_,aB.mk (N:=P2) ah ?_ ?_,(hJ _ _).2 ⟨k+1,gg,aa,aa,az▸hgr.Cp .., ?_,P2,⟨h3,aa⟩,rfl⟩⟩
               . simp(disch:=omega)[go_sem,aG]
               . simp(disch:=omega)[go_sem,aq.e,cM.e,eE]
               . rw[afD,hl,afE,afF,<-ad,afG,afH,az]
             . have av:¬(k:Int)<6:=aa;rw[show k=6 by omega,bf]at ad;simp(disch:=omega)[go_sem,cM.e,ao,av,hl,-getElem?_pos];refine⟨_,aB.mk (N:=P) ah ah ?_,P,⟨h3,hP⟩,rfl⟩
               . simp(disch:=omega)[go_sem,cM.e,eE,aq.e,ad]
           . have ao:¬(k:Int)<x.rules.length:=aa;rw[YN aa,<-YN (i:=6) (l:=x.rules) aa,bf]at ad;simp(disch:=omega)[go_sem,cM.e,ao,-getElem?_pos];refine⟨_,aB.mk (N:=P) ah ah ?_,P,⟨h3,hP⟩,rfl⟩
             . simp(disch:=omega)[go_sem,cM.e,eE,aq.e,ad]
       . rintro d' ⟨P,⟨-,h6⟩,rfl⟩;refine qN ?_;simp(disch:=omega)[go_sem,cM.e,aq.e,eE,bD]
end Go.Sp
end
noncomputable section
open Go Go.aD Go.Proofs
namespace Go.aD
variable {e:Env}
section
variable {κ ν:Type} [DecidableEq κ]
def fC(kf:κ->Value)(vf:ν->DV)(es:List bH)(l:List (κ×ν)):Prop:=es.map (λx=>(x.key,x.val))=l.map λp=>(kf p.1,vf p.2)
omit [DecidableEq κ]in
theorem fC.nil(kf:κ->Value)(vf:ν->DV):fC kf vf [] []:=rfl
def Cv{kt:TypeId}{kf:κ->Value}{vf:ν->DV}(hk:kI e kt kf):∀{es:List bH} {l:List (κ×ν)} (a:κ),fC kf vf es l->findD e.P kt (kf a) es=some ((bj l a).map vf)
 |[],[],a,_=>rfl
 |[],_::_,a,h=>by simp[fC]at h
 |_::_,[],a,h=>by simp[fC]at h
 |x::es,(k,v)::l,a,h=>by
  simp only[fC,yB,afI,YT]at h;obtain⟨⟨h1,h2⟩,h3⟩:=h;simp only[findD,h1,hk.eq];by_cases e1:a=k
  . subst e1;simp only[decide_true,bj,if_true,h2,E2]
  . simp only[e1,decide_false,bj,if_false];exact Cv hk a (show fC kf vf es l from h3)
def Iu{kt:TypeId}{kf:κ->Value}{vf:ν->DV}(hk:kI e kt kf):∀{es:List bH} {l:List (κ×ν)} (a:κ) (i:Nat),fC kf vf es l->∃r,m9 e.P kt (kf a) es i=some r/\
 (match bj l a with|none=>r=none|some _=>∃j,r=some (i+j)/\∃x,es[j]? =some x/\x.key=kf a/\∀w,fC kf vf (es.modify j λx=>{x with key:=kf a,val:=vf w}) (put l a w))
 |[],[],a,i,_=>⟨none,rfl,by simp[bj]⟩
 |[],_::_,a,i,h=>by simp[fC]at h
 |_::_,[],a,i,h=>by simp[fC]at h
 |x::es,(k,v)::l,a,i,h=>by
  simp only[fC,yB,afI,YT]at h;obtain⟨⟨h1,h2⟩,h3⟩:=h;simp only[m9,h1,hk.eq];by_cases e1:a=k
  . subst e1;simp only[decide_true,bj,if_true];refine⟨_,rfl,0,rfl,x,rfl,h1,λw=> ?_⟩;simp only[fC,put,if_true,yB,List.modify_cons,if_pos];exact congrArg _ h3
  . simp only[e1,decide_false,bj,if_false];obtain⟨r,h4,h5⟩:=Iu hk (vf:=vf) a (i+1) (show fC kf vf es l from h3);refine⟨r,h4, ?_⟩;cases ha:bj l a with
    |none=>simpa[ha]using h5
    |some v'=>
     simp only[ha]at h5⊢;obtain⟨j,h6,y,h7,h8,h9⟩:=h5;refine⟨j+1,by rw[h6];congr 1;omega,y,h7,h8,λw=> ?_⟩;have:=h9 w;simp only[fC]at this⊢;simp only[put,if_neg e1,yB,List.modify_succ_cons,this,h1,h2]
def sy{ty kt et:TypeId}{kf:κ->Value}{vf:ν->DV}(hk:kI e kt kf)(hu:e.under ty=some (.map kt et)){es:List bH}{l:List (κ×ν)}(hl:fC kf vf es l)(a:κ)(ok:Bool){v:ν}(hv:bj l a=some v):
 lK e ty ok (kf a) es=some (bif ok then .bp [vf v,.v (.bool true)]else vf v):=by
 obtain⟨kd,h1,h2⟩:=hk.kd;obtain⟨u,h3⟩:=hk.check a es.isEmpty;simp only[lK,hu,h1,Cv hk a hl,hv,E2];rw[if_pos ⟨hk.plain a,h2 a,by rw[h3];rfl⟩]
def sA{ty kt et:TypeId}{kf:κ->Value}{vf:ν->DV}(hk:kI e kt kf)(hu:e.under ty=some (.map kt et)){es:List bH}{l:List (κ×ν)}(hl:fC kf vf es l)(a:κ)(ok:Bool){z:Value}(hz:e.zero et=some z)(hp:aD.plain z=true)(hv:bj l a=none):
 lK e ty ok (kf a) es=some (bif ok then .bp [fZ z,.v (.bool false)]else fZ z):=by
 obtain⟨kd,h1,h2⟩:=hk.kd;obtain⟨u,h3⟩:=hk.check a es.isEmpty;simp only[lK,hu,h1,Cv hk a hl,hv,afJ,hz,hp,if_true];rw[if_pos ⟨hk.plain a,h2 a,by rw[h3];rfl⟩]
def pI{ty kt et:TypeId}{kf:κ->Value}{vf:ν->DV}(hk:kI e kt kf)(hu:e.under ty=some (.map kt et)){es:List bH}{l:List (κ×ν)}(hl:fC kf vf es l)(a:κ)(clock:Nat)(w:ν):
 ∃ab aa,kM e ty (kf a) (vf w) es clock=some (.map ab aa)/\fC kf vf ab (put l a w):=by
 obtain⟨kd,h1,h2⟩:=hk.kd;obtain⟨u,h3⟩:=hk.check a false;obtain⟨r,h4,h5⟩:=Iu hk (vf:=vf) a 0 hl;have hc:aD.plain (kf a)=true/\nF kd (kf a)=true/\(b9 e.P (Instr.checkKey false 10000 kt (kf a))).isSome=true:=⟨hk.plain a,h2 a,by rw[h3];rfl⟩;cases hv:bj l a with
 |none=>
  rw[hv]at h5;simp only at h5;subst h5;refine⟨es++[⟨kf a,vf w,clock⟩],clock+1, ?_, ?_⟩
  . simp only[kM,hu,h1,h4];rw[if_pos hc]
  . have:=hl;simp only[fC]at this⊢;rw[qp hv];simp[this]
 |some v=>
  rw[hv]at h5;obtain⟨j,rfl,x,h6,h7,h8⟩:=h5;have hb:Instr.sameBits 10000 (((es[0+j]?).map (·.key)).getD (kf a)) (kf a)=true:=by
   rw[Zf,h6];show Instr.sameBits 10000 x.key (kf a)=true;rw[h7];exact hk.bits a
  refine⟨es.modify (0+j) λx=>{x with key:=kf a,val:=vf w},clock, ?_, ?_⟩
  . simp only[kM,hu,h1,h4];rw[if_pos hc,if_pos hb]
  . rw[Zf];exact h8 w
end
def ax.inl(he:e.Ok)(ah:e.P.follows .mixedOrders=true)(ad:Idle e){ar:Bool}{f:FuncId}{fn:Func}{c:Code}{args:List DV}{K:cD}{dd:List FuncId}{h:ae}(ai:e.fn f=some fn)(hb:fn.body=some c){n:Nat}(hn:fn.ntmps=n){rs:List ResultVar}(an:fn.results=rs.toArray)
 (hq:RD e ar c ⟨iX args,args.length+(n-args.length),[],h⟩ (jL e rs λd h'=>∀T,K d dd h' T)):ax e ar K dd h (f,args):=by
 intro G ha vs x hr;have key:=c8.body he ah ad ai hb hn an hq G ha vs x hr;have fin:∀v h',(∃d af G',bO G' h' af/\Kp G ha h G' h' af/\Rel (aQ h' G') v d/\∀T,K d dd af T)->nc G ha h (λv h' T=>K v dd h' T) v h':=λv h' ⟨d,af,G',r2,r3,r4,r5⟩=>
  ⟨d,af,G',KE ha.next,r2,r3,r4,λi hi hn=>absurd (ab8.2 hi) hn,r5 _⟩
 cases ar with
 |true=>obtain⟨v,h',r1,r2⟩:=key;exact⟨v,h',r1,fin v h' r2⟩
 |false=>exact fJ.mono key fin
end Go.aD
namespace Go.Sp
def gR{ar:Bool}{f:FuncId}{fn:Func}{c:Code}{args:List DV}{K:cD}{dd:List FuncId}{h:ae}{n:Nat}(hn:fn.ntmps=n){rs:List ResultVar}(an:fn.results=rs.toArray)
 (hq:RD E ar c ⟨iX args,args.length+(n-args.length),[],h⟩ (jL E rs λd h'=>∀T,K d dd h' T)) (ai:E.fn f=some fn:=by kernel_rfl) (hb:fn.body=some c:=by rfl):ax E ar K dd h (f,args):=ax.inl (kG []) lH (tE []) ai hb hn an hq
def yC(s:ByteArray):Value:=.string s
def u9:E.under 9=some .string:=ak
def Iv(a b:ByteArray):(a==b)=decide (a=b):=by
 have h:∀x y:ByteArray,(x==y)=true↔x=y:=λx y=>by
  obtain⟨x⟩:=x;obtain⟨y⟩:=y;show(x==y)=true↔_;simp
 rw[Bool.eq_iff_iff,h];simp
def Cw:kI E 9 yC:=by
 refine⟨⟨_,u9,λk=>rfl⟩,λk=>rfl,λk b=>⟨(),ak⟩,λa b=> ?_,λk=>by simp[yC,Instr.sameBits,Iv]⟩;simp only[kB,yC];congr 1;exact Iv a b
def Cx:E.under 270=some (.map 9 4):=ak
def z4:E.zero 4=some (.bool false):=ak
abbrev sB(es:List bH)(l:List (ByteArray×Unit)):Prop:=fC yC (λ_:Unit=>bV true) es l
def yD{ar:Bool}{K:cD}{dd:List FuncId}{h:ae}{b r aj:Nat}{wr:Bool}{es:List bH}{clock:Nat}{l:List (ByteArray×Unit)}{s:ByteArray}(hb:h.get b=some (.row [.v (.map (some r))] wr aj))(hm:h.get r=some (.map es clock))(hl:sB es l)(hs:bj l s=none)
 (hk:∀ab aa T,sB ab (put l s ())->K (bV true) dd (h.set r (some (.map ab aa))) T):ax E ar K dd h (192,[sV s,.v (.pointer (some ⟨b,0,none⟩))]):=by
 refine gR Tryz.ntmps192 Tryz.results192 ?_;have h1:=sA Cw Cx hl s false z4 rfl hs;obtain⟨ab,aa,h2,h3⟩:=pI Cw Cx hl s clock ();simp(disch:=omega)[go_sem,hb];refine⟨bV false,by simp only[lq,exact,hm];exact h1, ?_⟩;simp(disch:=omega)[go_sem,hb];refine⟨(h.set r (some (.map ab aa)),r),by simp only[jI,exact,hm];exact congrArg (Option.map _) h2, ?_⟩;simp(disch:=omega)[go_sem,hb];intro T;exact hk ab aa T h3
end Go.Sp
end
noncomputable section
open Go Go.aD Go.Proofs
namespace Go.Sp
def mA(P:Program){α β:Type}(s:Sem α)(k:α->Sem β):b9 P (s>>=k)=(b9 P s).bind λa=>b9 P (k a):=by
 induction s with
 |pure a=>rfl
 |program k' ih=>exact ih P
 |_=>rfl
def ug(P:Program)(t:TypeId){d:TypeDesc}(h:P.underlying t=some d):b9 P (underlying t)=some d:=by
 simp only[underlying,mA];show b9 P (match P.underlying t with|some d=>pure d|none=>stuck "no such type" :Sem TypeDesc)=some d;rw[h];rfl
theorem uh(P:Program):b9 P program=some P:=rfl
theorem sD(P:Program){α:Type}(a:α):b9 P (pure a)=some a:=rfl
def eq_int(d:Nat)(t:TypeId)(k:IntKind)(a b:Int)(h:Tryz.prog.underlying t=some (.int k)):b9 Tryz.prog (Op.equalIn (d+1) t (.int .i64 a) (.int .i64 b))=some (a==b):=by
 rw[Op.equalIn];simp only[mA,ug _ _ h,adr];rfl
def aaQ:b9 Tryz.prog (isAgg 3)=some false:=ak
def IA:b9 Tryz.prog (sizeOf 3)=some 1:=ak
def yH(cs:Array Value)(o:Nat):b9 Tryz.prog (part 3 cs o)=cs[o]? :=by
 unfold part;simp only[mA,aaQ,adr,RC,if_false];cases cs[o]? <;>rfl
def aaR(d:Nat)(a b c a' b' c':Int):b9 Tryz.prog (Op.equalIn (d+1+1) 137 (.agg #[.int .i64 a,.int .i64 b,.int .i64 c]) (.agg #[.int .i64 a',.int .i64 b',.int .i64 c']))=some (decide (a=a')&&(decide (b=b')&&decide (c=c'))):=by
 have hs:Tryz.prog.stoodInHeld 137=false:=ak;rw[Op.equalIn];have e0:=eq_int d 3 .i64 a a' Tryz.underlying3;have e1:=eq_int d 3 .i64 b b' Tryz.underlying3;have e2:=eq_int d 3 .i64 c c' Tryz.underlying3;by_cases h1:a=a'<;>by_cases h2:b=b'<;>by_cases h3:c=c'<;>
  simp[h1,h2,h3,mA,ug _ _ Tryz.underlying137,uh,hs,sD,yH,eq_int d 3 .i64 _ _ Tryz.underlying3]
def aaS(d:Nat)(a b c a' b' c':Int):b9 Tryz.prog (Op.equalIn (d+1+1) 232 (.agg #[.int .i64 a,.int .i64 b,.int .i64 c]) (.agg #[.int .i64 a',.int .i64 b',.int .i64 c']))=some (decide (a=a')&&(decide (b=b')&&decide (c=c'))):=by
 rw[Op.equalIn];by_cases h1:a=a'<;>by_cases h2:b=b'<;>by_cases h3:c=c'<;>
  simp[h1,h2,h3,mA,ug _ _ Tryz.underlying232,uh,sD,yH,IA,eq_int d 3 .i64 _ _ Tryz.underlying3,List.range',afX,afY]
def yI:∃d,Op.maxDepth=d+1+1:=⟨9998,rfl⟩
def IB(a b c a' b' c':Int):b9 Tryz.prog (Op.equal 137 (.agg #[.int .i64 a,.int .i64 b,.int .i64 c]) (.agg #[.int .i64 a',.int .i64 b',.int .i64 c']))=some (decide (a=a')&&(decide (b=b')&&decide (c=c'))):=by
 obtain⟨d,hd⟩:=yI;unfold Op.equal;rw[hd];exact aaR d a b c a' b' c'
def aaT(a b c a' b' c':Int):b9 Tryz.prog (Op.equal 232 (.agg #[.int .i64 a,.int .i64 b,.int .i64 c]) (.agg #[.int .i64 a',.int .i64 b',.int .i64 c']))=some (decide (a=a')&&(decide (b=b')&&decide (c=c'))):=by
 obtain⟨d,hd⟩:=yI;unfold Op.equal;rw[hd];exact aaS d a b c a' b' c'
def aaU:∃fs,E.under 137=some (.struct fs):=by
 have h:(E.under 137).isSome=true:=ak;obtain⟨d,hd⟩:=afK.1 h;have:=(kG []).under 137 d hd;rw[show(vw []).P=Tryz.prog from rfl,Tryz.underlying137]at this;cases this;exact⟨_,hd⟩
def CC(x y:Nat):decide ((x:Int)=(y:Int))=decide (x=y):=decide_eq_decide.2 Int.ofNat_inj
def aaV:E.under 232=some (.array 3 3):=ak
def u3:E.under 3=some (.int .i64):=ak
def CD:E.under 219=some (.map 137 3):=ak
def CE:E.under 279=some (.map 232 3):=ak
def pJ(x:Br):Value:=.agg #[.int .i64 x.1,.int .i64 x.2.1,.int .i64 x.2.2]
def oq(x:Nat×Nat×Nat):Value:=.agg #[.int .i64 x.1,.int .i64 x.2.1,.int .i64 x.2.2]
def iK(n:Nat):Value:=.int .i64 n
def CF:kI E 137 pJ:=by
 refine⟨?_,λk=>rfl,λk b=>⟨(),ak⟩,λa b=> ?_,λk=>by simp[pJ,Instr.sameBits]⟩
 . obtain⟨fs,h⟩:=aaU;exact⟨_,h,λk=>rfl⟩
 . obtain⟨a1,a2,a3⟩:=a;obtain⟨b1,b2,b3⟩:=b;show b9 Tryz.prog (Op.equal 137 (pJ _) (pJ _))=_;rw[pJ,pJ,IB];congr 1;simp only[CC,YT,afL]
def CG:kI E 232 oq:=by
 refine⟨⟨_,aaV,λk=>rfl⟩,λk=>rfl,λk b=>⟨(),ak⟩,λa b=> ?_,λk=>by simp[oq,Instr.sameBits]⟩;obtain⟨a1,a2,a3⟩:=a;obtain⟨b1,b2,b3⟩:=b;show b9 Tryz.prog (Op.equal 232 (oq _) (oq _))=_;rw[oq,oq,aaT];congr 1;simp only[CC,YT,afL]
def ui:kI E 3 iK:=by
 refine⟨⟨_,u3,λk=>rfl⟩,λk=>rfl,λk b=>⟨(),ak⟩,λa b=> ?_,λk=>by simp[iK,Instr.sameBits]⟩;simp only[kB,iK,decide_true,cond_true];congr 1;exact CC a b
def aaW(d:Nat)(t:TypeId)(a b:Bool)(h:Tryz.prog.underlying t=some .bool):b9 Tryz.prog (Op.equalIn (d+1) t (.bool a) (.bool b))=some (a==b):=by
 rw[Op.equalIn];simp only[mA,ug _ _ h,adr];rfl
def aaX:b9 Tryz.prog (isAgg 4)=some false:=ak
def aaY(cs:Array Value)(o:Nat):b9 Tryz.prog (part 4 cs o)=cs[o]? :=by
 unfold part;simp only[mA,aaX,adr,RC,if_false];cases cs[o]? <;>rfl
def aaZ(d:Nat)(a a':Bool)(i i':Int):b9 Tryz.prog (Op.equalIn (d+1+1) 90 (.agg #[.bool a,.int .i64 i]) (.agg #[.bool a',.int .i64 i']))=some (decide (a=a')&&decide (i=i')):=by
 have hs:Tryz.prog.stoodInHeld 90=false:=ak;rw[Op.equalIn];by_cases h1:a=a'<;>by_cases h2:i=i'<;>
  simp[h1,h2,mA,ug _ _ Tryz.underlying90,uh,hs,sD,yH,aaY,eq_int d 3 .i64 _ _ Tryz.underlying3,aaW d 4 _ _ Tryz.underlying4]
def eqS(a a':Bool)(i i':Int):b9 Tryz.prog (Op.equal 90 (.agg #[.bool a,.int .i64 i]) (.agg #[.bool a',.int .i64 i']))=some (decide (a=a')&&decide (i=i')):=by
 obtain⟨d,hd⟩:=yI;unfold Op.equal;rw[hd];exact aaZ d a a' i i'
def aa0(o p:Operand)(a a':Bool)(i i':Int):cO E .eql 90 o p (.agg #[.bool a,.int .i64 i]) (.agg #[.bool a',.int .i64 i'])=some (.bool (decide (a=a')&&decide (i=i'))):=by
 have hg:Tryz.prog.eqGuardType Tryz.prog.depth 90=false:=ak;show eV Tryz.prog _=_;simp[eV,eqGuard,binOp,mA,uh,sD,hg,eqS,-bind_pure_comp];rfl
def IC(o p:Operand)(a a':Bool)(i i':Int):jG E .eql 90 o p (.agg [.v (.bool a),.v (.int .i64 i)]) (.agg [.v (.bool a'),.v (.int .i64 i')])=some (.v (.bool (decide (a=a')&&decide (i=i')))):=by
 show(cO E .eql 90 o p (.agg #[.bool a,.int .i64 i]) (.agg #[.bool a',.int .i64 i'])).map DV.v=_;rw[aa0];rfl
def aa1(x y:Operand):jG E BinOp.neq 85 x y (.agg [bV false,iV 0,iV 0,iV 0,iV 0]) (.agg [.v (.bool false),.v (.int .i64 0),.v (.int .i64 0),.v (.int .i64 0),.v (.int .i64 0)])=some (bV false):=ak
def yL:xS E 31 3 24:=by
 have h:(E.under 31).isSome=true:=ak;obtain⟨d,hd⟩:=afK.1 h;have:=(kG []).under 31 d hd;rw[show(vw []).P=Tryz.prog from rfl,Tryz.underlying31]at this;cases this;exact⟨⟨137,_,hd,ak,GB,ak,rfl⟩,aC⟩
def KN(N:List Br):List (Br×Nat):=N.zipIdx.map λp=>(p.1,p.2+2)
def aba(N:List Br)(x:Br):KN (N++[x])=KN N++[(x,N.length+2)]:=by
 simp[KN,List.zipIdx_append]
def look(N:List Br)(x:Br):Option Nat:=bj (KN N) x
structure iq(h:ab)(B M i:Nat)(N:List Br):Prop where
 bh:∃sl,h.get B=some (.row [sl,.map (some M)] true 0)/\((N=[]/\sl=.slice none 0 0)\/(N≠[]/\sl=.slice (some ⟨i,0,none⟩) N.length N.length/\h.get i=some (.row (N.flatMap dG) true 3)/\i<h.next/\i≠B/\i≠M))
 map:∃es clock,h.get M=some (.map es clock)/\j8 pJ iK es (KN N)
 ne:B≠M
 lt:B<h.next/\M<h.next
structure CN(B M i:Nat)(h g:ab):Prop where
 next:h.next<=g.next
 get:∀j o,j<h.next->j≠B->j≠M->j≠i->h.get j=some o->g.get j=some o
def IT(N:List Br):(N.flatMap dG).length=N.length*3:=by
 induction N with
 |nil=>rfl
 |cons x r ih=>simp only[afw,afM,ih,List.length_cons,dG,List.length_nil];omega
def abb(h:ab)(B:Nat)(v l:Int):bU E 208 [.pointer (some ⟨B,0,none⟩),.int .i64 v,.int .i64 l,.int .i64 l] h (.int .i64 l) h:=by
 refine mg Tryz.ntmps208 Tryz.results208 rfl ?_;simp[go_sem]
def abc{h:ab}{B M i:Nat}{N:List Br}(hb:iq h B M i N){v l u n:Nat}(av:l≠u)(hk:look N (v,l,u)=some n):
 bU E 208 [.pointer (some ⟨B,0,none⟩),.int .i64 v,.int .i64 l,.int .i64 u] h (.int .i64 n) h:=by
 obtain⟨sl,hB,_⟩:=hb.bh;obtain⟨es,clock,hM,an⟩:=hb.map;have ae:=xR CF CD an (v,l,u) true clock hk;simp only[pJ,iK,cond_true]at ae;have af:¬(l:Int)=u:=aa;obtain⟨az,aF⟩:=hb.lt;have r1:rd h B 1=some (.map (some M)):=cY (o:=1) hB;refine mg Tryz.ntmps208 Tryz.results208 rfl ?_;simp(disch:=omega)[go_sem,af];refine ln [bg 0,bg 1,bg 3,dQ 7,dQ 0,dQ 31,bg 63,bg 127,bg 127,bg 255,bg 1023] ak 0 rfl ?_;simp(disch:=first|omega|(simp only[ab.bm,ab.aY,bQ];omega)) [go_sem,dr,ez,bM,bD,r1,hM,ae];exact((Sub.refl h).new _).set (yy _) _
def abd(h:ab)(B M i:Nat)(N:List Br)(x:Br)(v:Value)(g:ab):Prop:=v=.int .i64 (N.length+2:Nat)/\∃i',iq g B M i' (N++[x])/\CN B M i h g/\h.next<=i'
def abe{h:ab}{B M i:Nat}{N:List Br}(hb:iq h B M i N){v l u:Nat}(av:l≠u)(hk:look N (v,l,u)=none)(hN:N.length<=10000):
 ∃H' i',bU E 208 [.pointer (some ⟨B,0,none⟩),.int .i64 v,.int .i64 l,.int .i64 u] h (.int .i64 (N.length+2:Nat)) H'/\iq H' B M i' (N++[(v,l,u)])/\CN B M i h H'/\h.next<=i':=by
 suffices hs:∃v' H',bU E 208 [.pointer (some ⟨B,0,none⟩),.int .i64 v,.int .i64 l,.int .i64 u] h v' H'/\abd h B M i N (v,l,u) v' H' by
  obtain⟨v',H',h1,rfl,i',h2⟩:=hs;exact⟨H',i',h1,h2⟩
 obtain⟨sl,hB,aH⟩:=hb.bh;obtain⟨es,clock,hM,an⟩:=hb.map;have ae:=AJ CF CD an (v,l,u) true clock yc rfl hk;obtain⟨ao,ad,ai,ah⟩:=vx CF (vf:=iK) CD an (v,l,u) clock (N.length+2);rw[qp hk,<-aba]at ah;have hw:IntKind.i64.wrap ((N.length:Int)+1+1)=(N.length:Int)+2:=aG aa aa;simp only[pJ,iK,cond_true,afN,afO]at ae ai;have af:¬(l:Int)=u:=aa;obtain⟨az,aF⟩:=hb.lt;have aq:=hb.ne;have r1:rd h B 1=some (.map (some M)):=cY (o:=1) hB;have r0:rd h B 0=some sl:=cY (o:=0) hB;rcases aH with⟨rfl,rfl⟩|⟨aI,rfl,hi,aJ,dU,oA⟩
 . refine run Tryz.ntmps208 Tryz.results208 ?_;simp(disch:=omega)[go_sem,af];refine ln [bg 0,bg 1,bg 3,dQ 7,dQ 0,dQ 31,bg 63,bg 127,bg 127,bg 255,bg 1023] ak 0 rfl ?_;simp(disch:=first|omega|(simp only[ab.bm,ab.aY,bQ];omega)) [go_sem,dr,ez,bM,bD,r1,hM,ae];refine ln [bg 0,bg 0,bg 2,bg 6,dQ 14,dQ 0,AG 32,fY 126,bg 255,bg 511,fY 1023] ak 1 rfl ?_;simp(disch:=first|omega|(simp only[ab.bm,ab.aY,bQ];omega)) [go_sem,dr,ez,bM,bD,r0,r1,hM,ae];rw[append_nil yL (xT (eC _ _ _) rfl) rfl aC aC];simp(disch:=first|omega|(simp only[ab.bm,ab.aY,bQ];omega)) [go_sem,dr,ez,bM,bD,hB,hM,ae];refine ln [bg 0,bg 1,bg 3,dQ 7,dQ 0,bg 0,fY 63] ak 0 rfl ?_;replace ai:nW E 219 (.agg #[.int .i64 v,.int .i64 l,.int .i64 u]) (.int .i64 2) es clock=some (.map ao ad):=ai;simp(disch:=first|omega|(simp only[ab.bm,ab.aY,bQ];omega)) [go_sem,aG,dr,ez,bM,bD,hB,hM,ae,ai];refine⟨rfl,h.next+1+1,⟨⟨_, ?_,.inr ⟨aw,rfl, ?_, ?_, ?_, ?_⟩⟩,⟨ao,ad, ?_,ah⟩,aq, ?_, ?_⟩,⟨?_,λj o hj h1 h2 h3 ho=> ?_⟩, ?_⟩
   all_goals try simp(disch:=first|omega|(simp only[ab.bm,ab.aY,bQ];omega)) [go_sem,dB,bM,bD,dG]
   all_goals first|omega|exact ho|(simp only[ab.dN,ab.bm,ab.aY,bQ,if_true];done)|skip
 . refine run Tryz.ntmps208 Tryz.results208 ?_;simp(disch:=omega)[go_sem,af];refine ln [bg 0,bg 1,bg 3,dQ 7,dQ 0,dQ 31,bg 63,bg 127,bg 127,bg 255,bg 1023] ak 0 rfl ?_;simp(disch:=first|omega|(simp only[ab.bm,ab.aY,bQ];omega)) [go_sem,dr,ez,bM,bD,r1,hM,ae];refine ln [bg 0,bg 0,bg 2,bg 6,dQ 14,dQ 0,AG 32,fY 126,bg 255,bg 511,fY 1023] ak 1 rfl ?_;simp(disch:=first|omega|(simp only[ab.bm,ab.aY,bQ];omega)) [go_sem,dr,ez,bM,bD,r0,r1,hM,ae,hi];rw[FT yL (xT (eC _ _ _) rfl) rfl aC (i:=i) (cs:=N.flatMap dG) (by simp(disch:=first|omega|(simp only[ab.bm,ab.aY,bQ];omega)) [go_sem,bM,bD,hi]) (IT N) (by rfl) aa];simp(disch:=first|omega|(simp only[ab.bm,ab.aY,bQ];omega)) [go_sem,dr,ez,bM,bD,hB,hM,ae];rw[show(N.length:Int)+2=N.length+1+1 by omega]at ai;refine ln [bg 0,bg 1,bg 3,dQ 7,dQ 0,bg 0,fY 63] ak 0 rfl ?_;simp(disch:=first|omega|(simp only[ab.bm,ab.aY,bQ];omega)) [go_sem,aG,dr,ez,bM,bD,hB,hM,ae,ai];refine⟨congrArg (Value.int .i64) aa,h.next+1+1,⟨⟨_, ?_,.inr ⟨aw,rfl, ?_, ?_, ?_, ?_⟩⟩,⟨ao,ad, ?_,ah⟩,aq, ?_, ?_⟩,⟨?_,λj o hj h1 h2 h3 ho=> ?_⟩, ?_⟩
   all_goals try simp(disch:=first|omega|(simp only[ab.bm,ab.aY,bQ];omega)) [go_sem,dB,bM,bD,dG]
   all_goals first|omega|exact ho|(simp only[ab.dN,ab.bm,ab.aY,bQ,if_true];done)|skip
end Go.Sp
end
noncomputable section
namespace Go.Sp
abbrev dx:Type:=Nat->Bool
def c9(ρ:dx)(v:Nat)(b:Bool):dx:=λw=>if w=v then b else ρ w
def nu(N:List Br):Nat->Nat->dx->Bool
 |0,n,_=>n==1
 |f+1,n,ρ=>if n<2 then n==1 else match N[n-2]? with
  |none=>false
  |some (v,l,u)=>nu N f (if ρ v then u else l) ρ
def tb(N:List Br)(n:Nat)(ρ:dx):Bool:=nu N n n ρ
structure eG(N:List Br):Prop where
 ok:∀(k:Nat) x,N[k]? =some x->x.1<64/\x.2.1<k+2/\x.2.2<k+2/\x.2.1≠x.2.2/\x.1<cm N x.2.1/\x.1<cm N x.2.2
 nd:N.Nodup
def CO{N:List Br}(h:eG N):∀(f g n:Nat) (ρ:dx),n<=f->n<=g->nu N f n ρ=nu N g n ρ
 |0,g,n,ρ,hf,_=>by
  obtain rfl:n=0:=Nat.le_zero.1 hf;cases g<;>simp[nu]
 |f+1,0,n,ρ,_,hg=>by
  obtain rfl:n=0:=Nat.le_zero.1 hg;simp[nu]
 |f+1,g+1,n,ρ,hf,hg=>by
  simp only[nu]
  split
  . rfl
  . rename_i hn;cases hx:N[n-2]? with
    |none=>rfl
    |some x=>
     obtain⟨v,l,u⟩:=x;obtain⟨_,h1,h2,_⟩:=h.ok _ _ hx;simp only at h1 h2;simp only;apply CO h
     . split<;>omega
     . split<;>omega
theorem abf(N:List Br)(ρ:dx):tb N 0 ρ=false:=rfl
theorem abg(N:List Br)(ρ:dx):tb N 1 ρ=true:=rfl
def ot{N:List Br}{n:Nat}(hn:n<2)(ρ:dx):tb N n ρ=decide (n=1):=by
 match n,hn with
 |0,_=>rfl
 |1,_=>rfl
def kR{N:List Br}(h:eG N){n:Nat}(hn:2<=n){v l u:Nat}(hx:N[n-2]? =some (v,l,u))(ρ:dx):tb N n ρ=if ρ v then tb N u ρ else tb N l ρ:=by
 obtain⟨_,h1,h2,_⟩:=h.ok _ _ hx;simp only at h1 h2;unfold tb;obtain⟨m,rfl⟩:∃m,n=m+1:=⟨n-1,aa⟩;have aq:¬m+1<2:=aa;rw[nu,if_neg aq,hx];simp only
 split
 . exact CO h _ _ _ _ aa (yy _)
 . exact CO h _ _ _ _ aa (yy _)
def ou{N:List Br}{n:Nat}(hn:n<2):cm N n=64:=by simp[cm,hn]
def lV{N:List Br}{n:Nat}(hn:2<=n){x:Br}(hx:N[n-2]? =some x):cm N n=x.1:=by
 have:¬n<2:=aa;simp[cm,this,hx]
def abh{N:List Br}(h:eG N):∀(n:Nat) (ρ ae:dx),n<N.length+2->(∀w,cm N n<=w->ρ w=ae w)->tb N n ρ=tb N n ae:=by
 intro n
 induction n using afP with
 |_ n ih=>
  intro ρ ae hn ha;by_cases h2:n<2
  . rw[ot h2,ot h2]
  . obtain⟨⟨v,l,u⟩,hx⟩:∃x,N[n-2]? =some x:=⟨_,qG aa⟩;obtain⟨_,h3,h4,_,h5,h6⟩:=h.ok _ _ hx;simp only at h3 h4 h5 h6;have hl:cm N n=v:=lV aa hx;rw[kR h aa hx,kR h aa hx,ha v aa];rw[ih u aa ρ ae aa λw hw=>ha w aa,ih l aa ρ ae aa λw hw=>ha w aa]
def wm(ρ:dx)(v:Nat)(b:Bool):c9 ρ v b v=b:=by simp[c9]
def abi(ρ:dx){v w:Nat}(b:Bool)(h:w≠v):c9 ρ v b w=ρ w:=by simp[c9,h]
def jb{N:List Br}(h:eG N){n v:Nat}(hn:n<N.length+2)(hv:v<cm N n)(ρ:dx)(b:Bool):tb N n (c9 ρ v b)=tb N n ρ:=
 abh h n _ _ hn λw hw=>abi ρ b aa
def CP{N:List Br}(h:eG N):∀(K n m:Nat),n<=K->m<=K->n<N.length+2->m<N.length+2->(∀ρ,tb N n ρ=tb N m ρ)->n=m:=by
 intro K
 induction K with
 |zero=>intro n m h1 h2 _ _ _;omega
 |succ K ih=>
  have key:∀n m,n<=K+1->m<=K+1->n<N.length+2->m<N.length+2->(∀ρ,tb N n ρ=tb N m ρ)->2<=n->cm N n<cm N m->False:=by
   intro n m hn hm ak af ht h2 ab;obtain⟨⟨v,l,u⟩,hx⟩:∃x,N[n-2]? =some x:=⟨_,qG aa⟩;obtain⟨_,h3,h4,ah,h5,h6⟩:=h.ok _ _ hx;simp only at h3 h4 h5 h6 ah;have hl:cm N n=v:=lV h2 hx;rw[hl]at ab;refine ah (ih l u aa aa aa aa λρ=> ?_);have e0:=ht (c9 ρ v false);have e1:=ht (c9 ρ v true);rw[kR h h2 hx,wm,jb h af ab]at e0 e1;simp only[RC,if_false,if_true]at e0 e1;rw[jb h aa h5]at e0;rw[jb h aa h6]at e1;rw[e0,e1]
  intro n m hn hm ak af ht;rcases Nat.lt_trichotomy (cm N n) (cm N m)with ab|heq|ai
  . by_cases h2:n<2
    . rw[ou h2]at ab;by_cases h3:m<2
      . rw[ou h3]at ab;omega
      . obtain⟨x,hx⟩:∃x,N[m-2]? =some x:=⟨_,qG aa⟩;have:=(h.ok _ _ hx).1;rw[lV aa hx]at ab;omega
    . exact(key n m hn hm ak af ht aa ab).elim
  . by_cases h2:n<2
    . by_cases h3:m<2
      . have:=ht (λ_=>false);rw[ot h2,ot h3]at this;have:(n=1)↔(m=1):=by simpa using this
        omega
      . obtain⟨x,hx⟩:∃x,N[m-2]? =some x:=⟨_,qG aa⟩;have:=(h.ok _ _ hx).1;rw[ou h2,lV aa hx]at heq;omega
    . by_cases h3:m<2
      . obtain⟨x,hx⟩:∃x,N[n-2]? =some x:=⟨_,qG aa⟩;have:=(h.ok _ _ hx).1;rw[ou h3,lV aa hx]at heq;omega
      . obtain⟨⟨v,l,u⟩,hx⟩:∃x,N[n-2]? =some x:=⟨_,qG aa⟩;obtain⟨⟨v',l',u'⟩,ad⟩:∃x,N[m-2]? =some x:=⟨_,qG aa⟩;obtain⟨_,a1,a2,_,a3,a4⟩:=h.ok _ _ hx;obtain⟨_,b1,b2,_,b3,b4⟩:=h.ok _ _ ad;simp only at a1 a2 a3 a4 b1 b2 b3 b4;rw[lV aa hx,lV aa ad]at heq;simp only at heq;subst heq;have el:l=l':=ih l l' aa aa aa aa λρ=>by
         have e0:=ht (c9 ρ v false);rw[kR h aa hx,kR h aa ad,wm]at e0;simp only[RC,if_false]at e0;rwa[jb h aa a3,jb h aa b3]at e0
        have eu:u=u':=ih u u' aa aa aa aa λρ=>by
         have e0:=ht (c9 ρ v true);rw[kR h aa hx,kR h aa ad,wm]at e0;simp only[if_true]at e0;rwa[jb h aa a4,jb h aa b4]at e0
        subst el;subst eu;have ao:n-2<N.length:=aa;have dU:m-2<N.length:=aa;have:=(List.getElem_inj (i:=n-2) (j:=m-2) h.nd (h₀:=ao) (h₁:=dU)).1 (by
         rw[qG ao]at hx;rw[qG dU]at ad;rw[afQ hx,afQ ad])
        omega
  . by_cases h2:m<2
    . rw[ou h2]at ai;by_cases h3:n<2
      . rw[ou h3]at ai;omega
      . obtain⟨x,hx⟩:∃x,N[n-2]? =some x:=⟨_,qG aa⟩;have:=(h.ok _ _ hx).1;rw[lV aa hx]at ai;omega
    . exact(key m n hm hn af ak (λρ=>(ht ρ).symm) aa ai).elim
def yM{N:List Br}(x:Br){n:Nat}(hn:n<N.length+2):cm (N++[x]) n=cm N n:=by
 unfold cm
 split
 . rfl
 . rw[adv aa]
def IU{N N':List Br}(h:eG N)(hp:N<+:N'):∀(f n:Nat) (ρ:dx),n<N.length+2->nu N' f n ρ=nu N f n ρ
 |0,n,ρ,_=>rfl
 |f+1,n,ρ,hn=>by
  simp only[nu]
  split
  . rfl
  . obtain⟨r,rfl⟩:=hp;rw[adv aa];cases hx:N[n-2]? with
    |none=>rfl
    |some x=>
     obtain⟨v,l,u⟩:=x;obtain⟨_,h1,h2,_⟩:=h.ok _ _ hx;simp only at h1 h2;exact IU h ⟨r,rfl⟩ f _ ρ (by split<;>omega)
def yN{N N':List Br}(h:eG N)(hp:N<+:N'){n:Nat}(hn:n<N.length+2)(ρ:dx):tb N' n ρ=tb N n ρ:=IU h hp n n ρ hn
def eG.snoc{N:List Br}(h:eG N){v l u:Nat}(hv:v<64)(hl:l<N.length+2)(hu:u<N.length+2)(ah:l≠u)(h1:v<cm N l)(h2:v<cm N u)(an:(v,l,u)∉N):eG (N++[(v,l,u)]):=by
 refine⟨λk x hx=> ?_, ?_⟩
 . rcases RK k N.length with hk|hk
   . rw[adv hk]at hx;obtain⟨a1,a2,a3,a4,a5,a6⟩:=h.ok k x hx;exact⟨a1,a2,a3,a4,by rwa[yM _ aa],by rwa[yM _ aa]⟩
   . have av:k=N.length:=by
      have:=(afx.1 hx).1;simp at this;omega
     subst av;simp at hx;subst hx;exact⟨hv,hl,hu,ah,by rwa[yM _ hl],by rwa[yM _ hu]⟩
 . rw[afR];exact⟨h.nd,aw,λa ha b hb=>by simp at hb;subst hb;exactλe=>an (e▸ha)⟩
end Go.Sp
end
noncomputable section
open Go Go.aD Go.Proofs
namespace Go.Sp
def abj(a b c:Int):qi E [.int .i64 a,.int .i64 b,.int .i64 c]=some (.int .i64 (min (min a b) c)):=by
 have h:qi E [.int .i64 a,.int .i64 b,.int .i64 c]=eV Tryz.prog (Builtin.min_ #[] 0 #[.int .i64 a,.int .i64 b,.int .i64 c]):=rfl;rw[h];unfold eV;have h2:b9 Tryz.prog (Builtin.min_ #[] 0 #[.int .i64 a,.int .i64 b,.int .i64 c])=some (.int .i64 (min (min a b) c)):=by
  simp[Builtin.min_,Builtin.min2,mA,sD,Int.min_def]
  split<;>split<;>(try split)<;>omega
 rw[h2];rfl
def yO{N:List Br}(h:eG N){n v:Nat}(hn:n<N.length+2)(hv:v<64)(hd:∀(ρ:dx) w b,w<=v->tb N n (c9 ρ w b)=tb N n ρ):v<cm N n:=by
 by_cases h2:n<2
 . rw[ou h2];exact hv
 . obtain⟨⟨w,l,u⟩,hx⟩:∃x,N[n-2]? =some x:=⟨_,qG aa⟩;obtain⟨_,h3,h4,ab,h5,h6⟩:=h.ok _ _ hx;simp only at h3 h4 h5 h6 ab;rw[lV aa hx];show v<w;rcases RK v w with h7|h7
   . exact h7
   . exfalso;refine ab (CP h n l u aa aa aa aa λρ=> ?_);have e0:=hd ρ w false h7;have e1:=hd ρ w true h7;rw[kR h aa hx,wm]at e0 e1;simp only[RC,if_false,if_true]at e0 e1;rw[jb h aa h5]at e0;rw[jb h aa h6]at e1;rw[e0,e1]
structure ov where
 sl:Value
 ns:List Br
 r:Nat
def ov.ok(h:ab)(d:ov):Prop:=kH 3 h d.sl (d.ns.map dG)/\eG d.ns/\(∀x∈d.ns,x.1<3)/\d.ns.length<=300
def ov.ok.sub{h g:ab}{d:ov}(hd:d.ok h)(a:Sub h g):d.ok g:=⟨hd.1.sub a,hd.2⟩
section
variable (b:Nat) (h0:ab) (d0 d1 d2:ov) (fo:Nat) (cap:List Value) (op:Bool->Bool->Bool->Bool)
structure yP:Prop where
 b:h0.next=b
 d0:d0.ok h0
 d1:d1.ok h0
 d2:d2.ok h0
 op:∀H,Sub h0 H->∀x y z,bU E fo ([.bool x,.bool y,.bool z]++cap) H (.bool (op x y z)) H
def uq:Value:=.func (.func 206) #[] #[.pointer (some ⟨b+1,0,none⟩),.pointer (some ⟨b+7,0,none⟩),.pointer (some ⟨b,0,none⟩),.pointer (some ⟨b+8,0,none⟩),.pointer (some ⟨b+5,0,none⟩)]
structure pK(H:ab)(i:Nat)(N:List Br)(L:List ((Nat×Nat×Nat)×Nat)):Prop where
 sub:Sub h0 H
 nx:b+9<=H.next
 lB:H.get b=some (.row [d0.sl,.int .i64 d0.r,d1.sl,.int .i64 d1.r,d2.sl,.int .i64 d2.r] true 0)
 CQ:H.get (b+1)=some (.row [.func (.func fo) #[] cap.toArray] true 0)
 bC:H.get (b+5)=some (.row [.pointer (some ⟨b+4,0,none⟩)] true 0)
 nv:H.get (b+7)=some (.row [.map (some (b+6))] true 0)
 yQ:H.get (b+8)=some (.row [uq b] true 0)
 wo:iq H (b+4) (b+3) i N
 ii:N≠[]->b+9<=i
 il:i<H.next
 ky:∃es clock,H.get (b+6)=some (.map es clock)/\j8 oq iK es L
 jU:eG N
 v3:∀x∈N,x.1<3
 CS:∀x y z r,bj L (x,y,z)=some r->r<N.length+2/\∀ρ,tb N r ρ=op (tb d0.ns x ρ) (tb d1.ns y ρ) (tb d2.ns z ρ)
end
def CT(b:Nat)(h0:ab)(d0 d1 d2:ov)(fo:Nat)(cap:List Value)(op:Bool->Bool->Bool->Bool)(H:ab)(i:Nat)(N:List Br)(x y z:Nat)(v:Value)(H':ab):Prop:=
 ∃(r i':Nat) (N':List Br) (L':List ((Nat×Nat×Nat)×Nat)),v=.int .i64 r/\pK b h0 d0 d1 d2 fo cap op H' i' N' L'/\N<+:N'/\r<N'.length+2/\(∀ρ,tb N' r ρ=op (tb d0.ns x ρ) (tb d1.ns y ρ) (tb d2.ns z ρ))/\
  (H.next<=H'.next/\∀j o,j<H.next->j≠b+3->j≠b+4->j≠b+6->j≠i->H.get j=some o->H'.get j=some o)/\(i'=i\/H.next<=i')
def iq.sub{h g:ab}{B M i:Nat}{N:List Br}(hb:iq h B M i N)(a:Sub h g):iq g B M i N:=by
 obtain⟨⟨sl,h1,h2⟩,⟨es,cl,h3,h4⟩,h5,h6,h7⟩:=hb;refine⟨⟨sl,a.get _ _ h6 h1, ?_⟩,⟨es,cl,a.get _ _ h7 h3,h4⟩,h5,Vs h6 a.next,Vs h7 a.next⟩;rcases h2 with h2|⟨e1,e2,e3,e4,e5⟩
 . exact .inl h2
 . exact .inr ⟨e1,e2,a.get _ _ e4 e3,Vs e4 a.next,e5⟩
def pK.mono{b:Nat}{h0:ab}{d0 d1 d2:ov}{fo:Nat}{cap:List Value}{op:Bool->Bool->Bool->Bool}{H G:ab}{i:Nat}{N:List Br}{L:List ((Nat×Nat×Nat)×Nat)}(I:pK b h0 d0 d1 d2 fo cap op H i N L)(a:Sub H G):pK b h0 d0 d1 d2 fo cap op G i N L:=by
 have hn:=I.nx;obtain⟨es,cl,h3,h4⟩:=I.ky;exact⟨I.sub.trans a,Nat.le_trans hn a.next,a.get _ _ aa I.lB,a.get _ _ aa I.CQ,a.get _ _ aa I.bC,a.get _ _ aa I.nv,a.get _ _ aa I.yQ,I.wo.sub a,I.ii,Vs I.il a.next,
  ⟨es,cl,a.get _ _ aa h3,h4⟩,I.jU,I.v3,I.CS⟩
def mC(b:Nat):List Value:=[.pointer (some ⟨b+1,0,none⟩),.pointer (some ⟨b+7,0,none⟩),.pointer (some ⟨b,0,none⟩),.pointer (some ⟨b+8,0,none⟩),.pointer (some ⟨b+5,0,none⟩)]
section
variable {b:Nat} {h0:ab} {d0 d1 d2:ov} {fo:Nat} {cap:List Value} {op:Bool->Bool->Bool->Bool} {H:ab} {i:Nat} {N:List Br} {L:List ((Nat×Nat×Nat)×Nat)}
def abk(S:yP b h0 d0 d1 d2 fo cap op)(I:pK b h0 d0 d1 d2 fo cap op H i N L){x y z:Nat}(hx:x<2)(hy:y<2)(hz:z<2):
 bU E 206 (.agg #[.int .i64 x,.int .i64 y,.int .i64 z]::mC b) H (.int .i64 (if op (decide (x=1)) (decide (y=1)) (decide (z=1))then 1 else 0:Nat)) H:=by
 have r1:rd H (b+1) 0=some (.func (.func fo) #[] cap.toArray):=cY (o:=0) I.CQ;have hn:=I.nx;have ae:(x:Int)<2:=aa;have af:(y:Int)<2:=aa;have ah:(z:Int)<2:=aa;refine mg Tryz.ntmps206 Tryz.results206 rfl ?_;simp(disch:=omega)[go_sem,mC,dV,dr,ae,af,ah,r1];have one:∀n:Nat,decide ((n:Int)=1)=decide (n=1):=λn=>decide_eq_decide.2 aa;rw[one,one,one];refine KC.mk (S.op _ (I.sub.new _) _ _ _) ?_;cases op (decide (x=1)) (decide (y=1)) (decide (z=1))with
 |true=>
  refine aL ?_;exact(Sub.refl H).new _
 |false=>
  refine aL ?_;exact(Sub.refl H).new _
def abl(I:pK b h0 d0 d1 d2 fo cap op H i N L){x y z r:Nat}(hc:¬(x<2/\y<2/\z<2))(hk:bj L (x,y,z)=some r):
 bU E 206 (.agg #[.int .i64 x,.int .i64 y,.int .i64 z]::mC b) H (.int .i64 r) H:=by
 have r1:rd H (b+7) 0=some (.map (some (b+6))):=cY (o:=0) I.nv;have hn:=I.nx;obtain⟨es,clock,hM,ai⟩:=I.ky;have ad:=xR CG CE ai (x,y,z) true clock hk;simp only[oq,iK,cond_true]at ad;refine mg Tryz.ntmps206 Tryz.results206 rfl ?_;have fin:∀a o,Sub H ((H.new a).set H.next o):=λa o=>((Sub.refl H).new a).set (yy _) o;by_cases hx:(x:Int)<2
 . by_cases hy:(y:Int)<2
   . have hz:¬(z:Int)<2:=aa;simp(disch:=omega)[go_sem,mC,dV,dr,bM,hx,hy,hz,r1,hM,ad];exact(Sub.refl H).new _
   . simp(disch:=omega)[go_sem,mC,dV,dr,bM,hx,hy,r1,hM,ad];exact(Sub.refl H).new _
 . simp(disch:=omega)[go_sem,mC,dV,dr,bM,hx,r1,hM,ad];exact(Sub.refl H).new _
end
end Go.Sp
end
noncomputable section
namespace Go.Sp
def CU{N:List Br}(h:eG N){n v:Nat}(hn:n<N.length+2)(hv:v<64)(b:Bool):side N n v b<=n/\(cm N n=v->side N n v b<n):=by
 unfold side;by_cases hl:cm N n=v
 . rw[if_pos hl];have h2:2<=n:=by
    rcases RK n 2 with h2|h2
    . rw[ou h2]at hl;omega
    . exact h2
   obtain⟨x,hx⟩:∃x,N[n-2]? =some x:=⟨_,qG aa⟩;obtain⟨_,h3,h4,_⟩:=h.ok _ _ hx;rw[hx];cases b<;>simp<;>omega
 . rw[if_neg hl];exact⟨yy _,λh=>absurd h hl⟩
def CV{N:List Br}(h:eG N){n v:Nat}(hn:n<N.length+2)(hv:v<64)(hle:v<=cm N n)(b:Bool)(ρ:dx):tb N (side N n v b) ρ=tb N n (c9 ρ v b):=by
 unfold side;by_cases hl:cm N n=v
 . rw[if_pos hl];have h2:2<=n:=by
    rcases RK n 2 with h2|h2
    . rw[ou h2]at hl;omega
    . exact h2
   obtain⟨⟨w,l,u⟩,hx⟩:∃x,N[n-2]? =some x:=⟨_,qG aa⟩;obtain⟨_,h3,h4,_,h5,h6⟩:=h.ok _ _ hx;simp only at h3 h4 h5 h6;have hw:w=v:=by rw[lV h2 hx]at hl;exact hl
   subst hw;rw[kR h h2 hx,wm,hx];cases b
   . simp only[E2,afS,RC,if_false];exact(jb h aa h5 ρ false).symm
   . simp only[E2,afS,if_true];exact(jb h aa h6 ρ true).symm
 . rw[if_neg hl];exact(jb h hn aa ρ b).symm
def abm(ρ:dx)(v:Nat):c9 ρ v (ρ v)=ρ:=by
 funext w
 unfold c9
 split
 . rename_i h;rw[h]
 . rfl
def abn(ρ:dx)(v:Nat)(a b:Bool):c9 (c9 ρ v a) v b=c9 ρ v b:=by
 funext w
 unfold c9
 split<;>rfl
def abo(ρ:dx){v w:Nat}(h:v≠w)(a b:Bool):c9 (c9 ρ v a) w b=c9 (c9 ρ w b) v a:=by
 funext u
 unfold c9
 split
 . rename_i h1;subst h1;rw[if_neg (λh2=>h h2.symm)]
 . rfl
def IV{N:List Br}{T:dx->Bool}{v r0 r1:Nat}(h0:∀ρ,tb N r0 ρ=T (c9 ρ v false))(h1:∀ρ,tb N r1 ρ=T (c9 ρ v true))(ρ:dx):T ρ=if ρ v then tb N r1 ρ else tb N r0 ρ:=by
 rw[h0,h1];have:=abm ρ v;cases hv:ρ v
 . rw[hv]at this;simp[this]
 . rw[hv]at this;simp[this]
def IW{N:List Br}(h:eG N){T:dx->Bool}{v r:Nat}{b:Bool}(hr:r<N.length+2)(hv:v<64)(hT:∀ρ w c,w<v->T (c9 ρ w c)=T ρ)(h0:∀ρ,tb N r ρ=T (c9 ρ v b))(yO:∀{n v:Nat},n<N.length+2->v<64->(∀(ρ:dx) w b,w<=v->tb N n (c9 ρ w b)=tb N n ρ)->v<cm N n):v<cm N r:=by
 refine yO hr hv λρ w c hw=> ?_;rw[h0,h0];rcases RK w v with h1|h1
 . rw[abo ρ aa,hT _ _ _ h1]
 . have:w=v:=aa;subst this;rw[abn]
def yR:∀(k:Nat) (l:List Nat),l.Nodup->(∀x∈l,x<k)->l.length<=k
 |0,l,_,h=>by
  cases l with
  |nil=>simp
  |cons a r=>exact absurd (h a aw) aa
 |k+1,l,hn,h=>by
  have h1:=yR k (l.erase k) (hn.erase k) λx hx=>by
   have h2:=h x (List.mem_of_mem_erase hx);have h3:x≠k:=λe=>by
    subst e;exact(hn.not_mem_erase) hx
   omega
  have:l.length<=(l.erase k).length+1:=by
   rw[List.length_erase]
   split<;>omega
  omega
def bX(k:Nat):dx:=λv=>k.testBit v
def code(f:dx->Bool):Nat:=(KE 8).foldl (λa k=>2*a+(if f (bX k)then 1 else 0)) 0
theorem ur(f:dx->Bool):code f=2*(2*(2*(2*(2*(2*(2*(2*0+(if f (bX 0)then 1 else 0))+(if f (bX 1)then 1 else 0))+(if f (bX 2)then 1 else 0))+(if f (bX 3)then 1 else 0))+(if f (bX 4)then 1 else 0))+(if f (bX 5)then 1 else 0))+(if f (bX 6)then 1 else 0))+(if f (bX 7)then 1 else 0):=rfl
def eH(b:Bool):(if b then 1 else 0:Nat)<=1:=by cases b<;>simp
def abp(f:dx->Bool):code f<256:=by
 rw[ur];have:=eH (f (bX 0));have:=eH (f (bX 1));have:=eH (f (bX 2));have:=eH (f (bX 3));have:=eH (f (bX 4));have:=eH (f (bX 5));have:=eH (f (bX 6));have:=eH (f (bX 7));omega
def abq{a b:Bool}(h:(if a then 1 else 0:Nat)=if b then 1 else 0):a=b:=by cases a<;>cases b<;>simp at h⊢
def abr{f g:dx->Bool}(h:code f=code g):∀k,k<8->f (bX k)=g (bX k):=by
 rw[ur,ur]at h;have a0:=eH (f (bX 0));have a1:=eH (f (bX 1));have a2:=eH (f (bX 2));have a3:=eH (f (bX 3));have a4:=eH (f (bX 4));have a5:=eH (f (bX 5));have a6:=eH (f (bX 6));have a7:=eH (f (bX 7));have b0:=eH (g (bX 0));have b1:=eH (g (bX 1));have b2:=eH (g (bX 2));have b3:=eH (g (bX 3));have b4:=eH (g (bX 4));have b5:=eH (g (bX 5));have b6:=eH (g (bX 6));have b7:=eH (g (bX 7));intro k hk;have:k=0\/k=1\/k=2\/k=3\/k=4\/k=5\/k=6\/k=7:=aa;rcases this with rfl|rfl|rfl|rfl|rfl|rfl|rfl|rfl<;>exact abq aa
def abt(ρ:dx):∃k,k<8/\∀v,v<3->bX k v=ρ v:=by
 refine⟨(if ρ 0 then 1 else 0)+(if ρ 1 then 2 else 0)+(if ρ 2 then 4 else 0), ?_,λv hv=> ?_⟩
 . cases ρ 0<;>cases ρ 1<;>cases ρ 2<;>simp
 . have:v=0\/v=1\/v=2:=aa;rcases this with rfl|rfl|rfl<;>cases ρ 0<;>cases ρ 1<;>cases ρ 2<;>rfl
def CW{N:List Br}(h:eG N)(h3:∀x∈N,x.1<3):∀(n:Nat) (ρ ab:dx),n<N.length+2->(∀w,w<3->ρ w=ab w)->tb N n ρ=tb N n ab:=by
 intro n
 induction n using afP with
 |_ n ih=>
  intro ρ ab hn ha;by_cases h2:n<2
  . rw[ot h2,ot h2]
  . obtain⟨⟨v,l,u⟩,hx⟩:∃x,N[n-2]? =some x:=⟨_,qG aa⟩;obtain⟨_,h4,h5,_⟩:=h.ok _ _ hx;simp only at h4 h5;have hv:v<3:=h3 _ (RW hx);rw[kR h aa hx,kR h aa hx,ha v hv,ih u aa ρ ab aa ha,ih l aa ρ ab aa ha]
def CX{N:List Br}(h:eG N)(h3:∀x∈N,x.1<3):N.length<=254:=by
 have:=yR 256 ((KE (N.length+2)).map λn=>code (tb N n)) ?_ λx hx=> ?_
 . simp at this;omega
 . show List.Pairwise _ _;rw[List.pairwise_map];refine List.Pairwise.imp_of_mem (λ{n m} hn hm ad he=>ad ?_) (List.nodup_range:(KE (N.length+2)).Pairwise (·≠·));rw[ab8]at hn hm;refine CP h (N.length+2) n m aa aa hn hm λρ=> ?_;obtain⟨k,hk,ha⟩:=abt ρ;rw[CW h h3 n ρ (bX k) hn λw hw=>(ha w hw).symm,CW h h3 m ρ (bX k) hm λw hw=>(ha w hw).symm];exact abr he k hk
 . simp only[afy,ab8]at hx;obtain⟨n,_,rfl⟩:=hx;exact abp _
end Go.Sp
end
noncomputable section
open Go Go.aD Go.Proofs
namespace Go.Sp
def IX(x:Br):∀(N:List Br) (k:Nat),bj ((N.zipIdx k).map λp=>(p.1,p.2+2)) x=none->x∉N
 |[],_,_=>aw
 |y::r,k,h=>by
  simp only[afT,yB,bj]at h
  split at h
  . cases h
  . rename_i ad;rw[FQ,not_or];exact⟨ad,IX x r (k+1) h⟩
def IY(x:Br):∀(N:List Br) (k n:Nat),bj ((N.zipIdx k).map λp=>(p.1,p.2+2)) x=some n->k+2<=n/\N[n-2-k]? =some x
 |[],_,_,h=>by simp[bj]at h
 |y::r,k,n,h=>by
  simp only[afT,yB,bj]at h
  split at h
  . rename_i he;cases h;subst he;refine⟨yy _, ?_⟩;rw[show k+2-2-k=0 by omega];rfl
  . obtain⟨h1,h2⟩:=IY x r (k+1) n h;refine⟨aa, ?_⟩;rw[show n-2-k=(n-2-(k+1))+1 by omega];simpa using h2
def abu{N:List Br}{x:Br}(h:look N x=none):x∉N:=IX x N 0 h
def abv{N:List Br}{x:Br}{n:Nat}(h:look N x=some n):2<=n/\N[n-2]? =some x:=by
 have:=IY x N 0 n h;simpa using this
def IZ{h:ab}{B M i:Nat}{N:List Br}(hb:iq h B M i N)(ok:eG N)(v3:∀x∈N,x.1<3){v l u:Nat}(hv:v<3)(hl:l<N.length+2)(hu:u<N.length+2)(h1:v<cm N l)(h2:v<cm N u)(hN:N.length<=10000)(hi:i<h.next):
 ∃r H' i' N',bU E 208 [.pointer (some ⟨B,0,none⟩),.int .i64 v,.int .i64 l,.int .i64 u] h (.int .i64 (r:Nat)) H'/\iq H' B M i' N'/\N<+:N'/\eG N'/\(∀x∈N',x.1<3)/\r<N'.length+2/\
  (∀ρ,tb N' r ρ=if ρ v then tb N u ρ else tb N l ρ)/\CN B M i h H'/\(i'=i\/h.next<=i')/\i'<H'.next/\(N'≠[]->N=[]->h.next<=i'):=by
 by_cases ad:l=u
 . subst ad;exact⟨l,h,i,N,abb h B v l,hb,afj _,ok,v3,hl,λρ=>aw,⟨yy _,λ_ _ _ _ _ _ h=>h⟩,.inl rfl,hi,λh1 h2=>absurd h2 h1⟩
 . cases hk:look N (v,l,u)with
   |some n=>
    obtain⟨h3,h4⟩:=abv hk;have h5:=(afx.1 h4).1;exact⟨n,h,i,N,abc hb ad hk,hb,afj _,ok,v3,aa,λρ=>kR ok h3 h4 ρ,⟨yy _,λ_ _ _ _ _ _ h=>h⟩,.inl rfl,hi,λh1 h2=>absurd h2 h1⟩
   |none=>
    obtain⟨H',i',e1,e2,e3,e4⟩:=abe hb ad hk hN;have ae:=ok.snoc aa hl hu ad h1 h2 (abu hk);refine⟨N.length+2,H',i',N++[(v,l,u)],e1,e2,afz _ _,ae,λx hx=> ?_,aw,λρ=> ?_,e3,.inr e4, ?_,λ_ _=>e4⟩
    . rw[afU]at hx;rcases hx with hx|hx
      . exact v3 x hx
      . simp at hx;subst hx;exact hv
    . rw[kR ae aa (v:=v) (l:=l) (u:=u) aw,yN ok (afz _ _) hu,yN ok (afz _ _) hl]
    . obtain⟨sl,_,h3⟩:=e2.bh;rcases h3 with⟨h3,_⟩|⟨_,_,_,h3,_⟩
      . simp at h3
      . exact h3
def iq.I3{h:ab}{B M i:Nat}(k:Nat)(hb:iq h B M i []):iq h B M k []:=by
 obtain⟨⟨sl,h1,h2⟩,h3,h5,h6⟩:=hb;refine⟨⟨sl,h1, ?_⟩,h3,h5,h6⟩;rcases h2 with h2|⟨e1,_⟩
 . exact .inl h2
 . exact absurd rfl e1
def iq.put{h:ab}{B M i j:Nat}{N:List Br}(hb:iq h B M i N)(o:Option bP)(h1:j≠B)(h2:j≠M)(h3:N≠[]->j≠i):iq (h.set j o) B M i N:=by
 obtain⟨⟨sl,a1,a2⟩,⟨es,cl,a3,a4⟩,a5,a6,a7⟩:=hb;refine⟨⟨sl, ?_, ?_⟩,⟨es,cl, ?_,a4⟩,a5,a6,a7⟩
 . rw[bD _ _ _ _ aa];exact a1
 . rcases a2 with a2|⟨e1,e2,e3,e4,e5⟩
   . exact .inl a2
   . exact .inr ⟨e1,e2,by rw[bD _ _ _ _ (by have:=h3 e1;omega)];exact e3,e4,e5⟩
 . rw[bD _ _ _ _ aa];exact a3
def abw{h:ab}{B M i:Nat}{N:List Br}(hb:iq h B M i N)(ok:eG N)(v3:∀x∈N,x.1<3){v l u:Nat}(hv:v<3)(hl:l<N.length+2)(hu:u<N.length+2)(h1:v<cm N l)(h2:v<cm N u)(hi:i<h.next):
 ∃r H' i' N',bU E 208 [.pointer (some ⟨B,0,none⟩),.int .i64 v,.int .i64 l,.int .i64 u] h (.int .i64 (r:Nat)) H'/\iq H' B M i' N'/\N<+:N'/\eG N'/\(∀x∈N',x.1<3)/\r<N'.length+2/\
  (∀ρ,tb N' r ρ=if ρ v then tb N u ρ else tb N l ρ)/\(h.next<=H'.next/\∀j o,j<h.next->j≠B->j≠M->(N≠[]->j≠i)->h.get j=some o->H'.get j=some o)/\(i'=i\/h.next<=i')/\i'<H'.next/\(N'≠[]->N=[]->h.next<=i'):=by
 have hN:=CX ok v3;by_cases hn:N=[]
 . subst hn;obtain⟨r,H',i',N',a1,a2,a3,a4,a5,a6,a7,a8,a9,ee,dT⟩:=IZ (hb.I3 B) ok v3 hv hl hu h1 h2 aa hb.lt.1;by_cases aX:N'=[]
   . subst aX;exact⟨r,H',i,[],a1,a2.I3 i,a3,a4,a5,a6,a7,⟨a8.next,λj o b1 b2 b3 _ b4=>a8.get j o b1 b2 b3 b2 b4⟩,.inl rfl,Vs hi a8.next,λh=>absurd rfl h⟩
   . exact⟨r,H',i',N',a1,a2,a3,a4,a5,a6,a7,⟨a8.next,λj o b1 b2 b3 _ b4=>a8.get j o b1 b2 b3 b2 b4⟩,.inr (dT aX rfl),ee,dT⟩
 . obtain⟨r,H',i',N',a1,a2,a3,a4,a5,a6,a7,a8,a9,ee,dT⟩:=IZ hb ok v3 hv hl hu h1 h2 aa hi;exact⟨r,H',i',N',a1,a2,a3,a4,a5,a6,a7,⟨a8.next,λj o b1 b2 b3 b4 b5=>a8.get j o b1 b2 b3 (b4 hn) b5⟩,a9,ee,dT⟩
def CY{N:List Br}(v3:∀x∈N,x.1<3){n:Nat}(hn:n<N.length+2)(h2:¬n<2):cm N n<3:=by
 obtain⟨⟨v,l,u⟩,hx⟩:∃x,N[n-2]? =some x:=⟨_,qG aa⟩;rw[lV aa hx];exact v3 _ (RW hx)
def KC.of{K:Kt}{ds:List Deferred}{h:ab}{f:FuncId}{args:List Value}{P:Value->ab->Prop}(hr:∃v h',bU E f args h v h'/\P v h')(hk:∀v h',P v h'->K v ds h'):KC E K ds h (f,args):=by
 obtain⟨v,h',h1,h2⟩:=hr;exact⟨v,h',h1,hk v h' h2⟩
section
variable {b:Nat} {h0:ab} {d0 d1 d2:ov} {fo:Nat} {cap:List Value} {op:Bool->Bool->Bool->Bool} {H:ab} {i:Nat} {N:List Br} {L:List ((Nat×Nat×Nat)×Nat)}
set_option maxHeartbeats 0 in
def abx(S:yP b h0 d0 d1 d2 fo cap op)(I:pK b h0 d0 d1 d2 fo cap op H i N L){x y z:Nat}(hc:¬(x<2/\y<2/\z<2))(hk:bj L (x,y,z)=none)
 (an:x<d0.ns.length+2) (ao:y<d1.ns.length+2) (aq:z<d2.ns.length+2)
 (IH:∀(x' y' z':Nat) (H1:ab) (i1:Nat) (N1:List Br) (L1:List ((Nat×Nat×Nat)×Nat)),x'+y'+z'<x+y+z->x'<d0.ns.length+2->y'<d1.ns.length+2->z'<d2.ns.length+2->pK b h0 d0 d1 d2 fo cap op H1 i1 N1 L1->
  ∃v' H',bU E 206 (.agg #[.int .i64 x',.int .i64 y',.int .i64 z']::mC b) H1 v' H'/\CT b h0 d0 d1 d2 fo cap op H1 i1 N1 x' y' z' v' H'):
 ∃v H',bU E 206 (.agg #[.int .i64 x,.int .i64 y,.int .i64 z]::mC b) H v H'/\CT b h0 d0 d1 d2 fo cap op H i N x y z v H':=by
 have r1:rd H (b+7) 0=some (.map (some (b+6))):=cY (o:=0) I.nv;have hn:=I.nx;obtain⟨es,clock,hM,bu⟩:=I.ky;have aC:=AJ CG CE bu (x,y,z) true clock yc rfl hk;simp only[oq,cond_true]at aC;have l0:rd H b 0=some d0.sl:=cY (o:=0) I.lB;have l1:rd H b 1=some (.int .i64 d0.r):=cY (o:=1) I.lB;have l2:rd H b 2=some d1.sl:=cY (o:=2) I.lB;have l3:rd H b 3=some (.int .i64 d1.r):=cY (o:=3) I.lB;have l4:rd H b 4=some d2.sl:=cY (o:=4) I.lB;have l5:rd H b 5=some (.int .i64 d2.r):=cY (o:=5) I.lB;have hS:∀a,Sub h0 (H.new a):=λa=>I.sub.new a;refine run Tryz.ntmps206 Tryz.results206 ?_;have bw:(¬(x:Int)<2)\/((x:Int)<2/\¬(y:Int)<2)\/((x:Int)<2/\(y:Int)<2/\¬(z:Int)<2):=aa;obtain⟨v,hv,bZ,b0⟩:∃v:Nat,min ((cm d0.ns x:Nat):Int) (min ((cm d1.ns y:Nat):Int) ((cm d2.ns z:Nat):Int))=(v:Int)/\v<3/\v=min (cm d0.ns x) (min (cm d1.ns y) (cm d2.ns z)):=by
  refine⟨min (cm d0.ns x) (min (cm d1.ns y) (cm d2.ns z)),aa, ?_,rfl⟩;have q0:=λh=>CY S.d0.2.2.1 an h;have q1:=λh=>CY S.d1.2.2.1 ao h;have q2:=λh=>CY S.d2.2.2.1 aq h;omega
 have ad:v<64:=aa;have aF:=λb=>CU S.d0.2.1 an ad b;have aH:=λb=>CU S.d1.2.1 ao ad b;have aI:=λb=>CU S.d2.2.1 aq ad b;have av:∀b,side d0.ns x v b+side d1.ns y v b+side d2.ns z v b<x+y+z:=λb=>by
  have a0:=aF b;have a1:=aH b;have a2:=aI b;have:cm d0.ns x=v\/cm d1.ns y=v\/cm d2.ns z=v:=aa;rcases this with h|h|h
  . have:=a0.2 h;omega
  . have:=a1.2 h;omega
  . have:=a2.2 h;omega
 have bx:=λb ρ=>CV S.d0.2.1 an ad aa b ρ;have bA:=λb ρ=>CV S.d1.2.1 ao ad aa b ρ;have bB:=λb ρ=>CV S.d2.2.1 aq ad aa b ρ;obtain⟨T,hT⟩:∃T:dx->Bool,∀ρ,T ρ=op (tb d0.ns x ρ) (tb d1.ns y ρ) (tb d2.ns z ρ):=⟨_,λ_=>rfl⟩;have ba:∀b ρ,op (tb d0.ns (side d0.ns x v b) ρ) (tb d1.ns (side d1.ns y v b) ρ) (tb d2.ns (side d2.ns z v b) ρ)=T (c9 ρ v b):=λb ρ=>by rw[hT,bx,bA,bB]
 have bb:∀ρ w c,w<v->T (c9 ρ w c)=T ρ:=λρ w c hw=>by
  rw[hT,hT,jb S.d0.2.1 an aa,jb S.d1.2.1 ao aa,jb S.d2.2.1 aq aa]
 rcases bw with hx|⟨hx,hy⟩|⟨hx,hy,hz⟩
 all_goals
 . first
    |simp(disch:=omega)[go_sem,mC,dV,dr,bM,r1,hM,aC,hx,hy,hz]
    |simp(disch:=omega)[go_sem,mC,dV,dr,bM,r1,hM,aC,hx,hy]
    |simp(disch:=omega)[go_sem,mC,dV,dr,bM,r1,hM,aC,hx]
   refine ln [bg 0,dQ 1,bg 0,dQ 4,fY 15,bg 0,⟨.read,32,some (0,2)⟩,bg 0,⟨.read,128,some (0,2)⟩,fY 511,bg 0,⟨.read,1024,some (0,3)⟩,bg 0,⟨.read,4096,some (0,3)⟩,fY 16383,dQ 32767,bg 65535] ak 0 rfl ?_;simp(disch:=omega)[go_sem,dV,dr,gM,ez,bM,dB,bD,l0,l1,l2,l3,l4,l5,hv,aG];refine KC.mk (wk _ _ (S.d0.sub (hS _)).1 an (by have:=S.d0.2.2.2;omega)) ?_;simp(disch:=omega)[go_sem,dV,dr,gM,ez,bM,dB,bD,l0,l1,l2,l3,l4,l5,hv,aG];refine KC.mk (wk _ _ (S.d1.sub (hS _)).1 ao (by have:=S.d1.2.2.2;omega)) ?_;simp(disch:=omega)[go_sem,dV,dr,gM,ez,bM,dB,bD,l0,l1,l2,l3,l4,l5,hv,aG];refine KC.mk (wk _ _ (S.d2.sub (hS _)).1 aq (by have:=S.d2.2.2.2;omega)) ?_;simp(disch:=omega)[go_sem,dV,dr,gM,ez,bM,dB,bD,l0,l1,l2,l3,l4,l5,hv,abj];refine xN ?_;simp(disch:=first|omega|(simp only[ab.bm,ab.aY,bQ];omega)) [go_sem,dV,dr,gM,ez,bM,dB,bD,l0,l1,l2,l3,l4,l5,hv,aG];refine ln [bg 0,bg 0,bg 0,bg 4,dQ 12,bg 0,bg 32,dQ 96,bg 0,fY 508,bg 1020,bg 2044,bg 2044,bg 4093,fY 12285,bg 32767,fY 65535] ak 0 rfl ?_;simp(disch:=first|omega|(simp only[ab.bm,ab.aY,bQ];omega)) [go_sem,dV,dr,gM,ez,bM,dB,bD,l0,l1,l2,l3,l4,l5,hv,aG];refine KC.mk (CB _ _ _ (S.d0.sub (((hS _).new _).new _)).1 an (by have:=S.d0.2.2.2;omega) ad) ?_;simp(disch:=first|omega|(simp only[ab.bm,ab.aY,bQ];omega)) [go_sem,dV,dr,gM,ez,bM,dB,bD,l0,l1,l2,l3,l4,l5,hv,aG];refine xN ?_;simp(disch:=first|omega|(simp only[ab.bm,ab.aY,bQ];omega)) [go_sem,dV,dr,gM,ez,bM,dB,bD,l0,l1,l2,l3,l4,l5,hv,aG];refine ln [bg 0,bg 0,bg 0,bg 4,dQ 12,bg 0,bg 32,dQ 96,bg 0,fY 508,bg 1020,bg 2044,bg 2044,bg 4093,fY 12285,bg 32767,fY 65535] ak 0 rfl ?_;simp(disch:=first|omega|(simp only[ab.bm,ab.aY,bQ];omega)) [go_sem,dV,dr,gM,ez,bM,dB,bD,l0,l1,l2,l3,l4,l5,hv,aG];have bc:∀a b c,Sub h0 (((H.new a).new b).new c):=λa b c=>((hS a).new b).new c;have ae:∀g o j,Sub h0 g->b+9<=j->Sub h0 (g.set j o):=λg o j hg hj=>hg.set (by have:=S.b;omega) o;refine KC.mk (CB _ _ _ (S.d1.sub (ae _ _ _ (ae _ _ _ (bc _ _ _) aa) aa)).1 ao (by have:=S.d1.2.2.2;omega) ad) ?_;simp(disch:=first|omega|(simp only[ab.bm,ab.aY,bQ];omega)) [go_sem,dV,dr,gM,ez,bM,dB,bD,l0,l1,l2,l3,l4,l5,hv,aG];refine xN ?_;simp(disch:=first|omega|(simp only[ab.bm,ab.aY,bQ];omega)) [go_sem,dV,dr,gM,ez,bM,dB,bD,l0,l1,l2,l3,l4,l5,hv,aG];refine ln [bg 0,bg 0,bg 0,bg 4,dQ 12,bg 0,bg 32,dQ 96,bg 0,fY 508,bg 1020,bg 2044,bg 2044,bg 4093,fY 12285,bg 32767,fY 65535] ak 0 rfl ?_;simp(disch:=first|omega|(simp only[ab.bm,ab.aY,bQ];omega)) [go_sem,dV,dr,gM,ez,bM,dB,bD,l0,l1,l2,l3,l4,l5,hv,aG];refine KC.mk (CB _ _ _ (S.d2.sub (ae _ _ _ (ae _ _ _ (ae _ _ _ (ae _ _ _ (bc _ _ _) aa) aa) aa) aa)).1 aq (by have:=S.d2.2.2.2;omega) ad) ?_;simp(disch:=first|omega|(simp only[ab.bm,ab.aY,bQ];omega)) [go_sem,dV,dr,gM,ez,bM,dB,bD,l0,l1,l2,l3,l4,l5,hv,aG];refine xN ?_;simp(disch:=first|omega|(simp only[ab.bm,ab.aY,bQ];omega)) [go_sem,dV,dr,gM,ez,bM,dB,bD,l0,l1,l2,l3,l4,l5,hv,aG];have a8:rd H (b+8) 0=some (uq b):=cY (o:=0) I.yQ;simp(disch:=first|omega|(simp only[ab.bm,ab.aY,bQ];omega)) [go_sem,dV,dr,gM,ez,bM,dB,bD,l0,l1,l2,l3,l4,l5,hv,aG,a8,uq];refine KC.of (IH _ _ _ _ _ _ _ (av false) (by have:=aF false;omega) (by have:=aH false;omega) (by have:=aI false;omega) (I.mono ?_)) ?_
   . repeat first|exact Sub.refl _|refine Sub.new ?_ _|refine Sub.set ?_ aa _
   . rintro _ H1 ⟨r,i1,N1,L1,rfl,I1,bE,bF,bG,⟨bH,aJ⟩,bI⟩;have gp:H1.get H.next=some (.row [.int .i64 x,.int .i64 y,.int .i64 z] true 0):=aJ _ _ (by simp only[ab.bm,ab.aY,bQ];omega) aa aa aa (by have:=I.il;omega) (by simp(disch:=first|omega|(simp only[ab.bm,ab.aY,bQ];omega)) [eC,bD,bM,dB]);have gh:H1.get (H.next+1+1)=some (.row [.int .i64 (side d0.ns x v true),.int .i64 (side d1.ns y v true),.int .i64 (side d2.ns z v true)] true 0):=aJ _ _ (by simp only[ab.bm,ab.aY,bQ];omega) aa aa aa (by have:=I.il;omega) (by simp(disch:=first|omega|(simp only[ab.bm,ab.aY,bQ];omega)) [eC,bD,bM,dB]);simp only[ab.bm,ab.aY,bQ]at bH bI;have p0:rd H1 H.next 0=some (.int .i64 x):=cY (o:=0) gp;have p1:rd H1 H.next 1=some (.int .i64 y):=cY (o:=1) gp;have p2:rd H1 H.next 2=some (.int .i64 z):=cY (o:=2) gp;have g0:rd H1 (H.next+1+1) 0=some (.int .i64 (side d0.ns x v true)):=cY (o:=0) gh;have g1:rd H1 (H.next+1+1) 1=some (.int .i64 (side d1.ns y v true)):=cY (o:=1) gh;have g2:rd H1 (H.next+1+1) 2=some (.int .i64 (side d2.ns z v true)):=cY (o:=2) gh;have bd:rd H1 (b+8) 0=some (uq b):=cY (o:=0) I1.yQ;have aK:rd H1 (b+5) 0=some (.pointer (some ⟨b+4,0,none⟩)):=cY (o:=0) I1.bC;simp(disch:=first|omega|(simp only[ab.bm,ab.aY,bQ];omega)) [go_sem,bd,aK,p0,p1,p2,g0,g1,g2,uq];refine ln [⟨.read,0,some (0,2)⟩,bg 0,bg 0,dQ 0,dQ 0,fY 24,fY 63,bg 127] ak 0 rfl ?_;simp(disch:=first|omega|(simp only[ab.bm,ab.aY,bQ];omega)) [go_sem,bd,aK,p0,p1,p2,g0,g1,g2,uq];refine KC.of (IH _ _ _ _ _ _ _ (av true) (by have:=aF true;omega) (by have:=aH true;omega) (by have:=aI true;omega) I1) ?_;rintro _ H2 ⟨r',i2,N2,L2,rfl,I2,aL,bf,bK,⟨Ak,bk⟩,dU⟩;have b6:=I.il;have bL:H2.get H.next=some (.row [.int .i64 x,.int .i64 y,.int .i64 z] true 0):=bk _ _ aa aa aa aa aa gp;have t1:∀ρ,tb N2 r ρ=T (c9 ρ v false):=λρ=>by rw[yN I1.jU aL bF,bG,ba]
     have t2:∀ρ,tb N2 r' ρ=T (c9 ρ v true):=λρ=>by rw[bK,ba]
     have aw:r<N2.length+2:=by have:=aL.length_le;omega
     obtain⟨rb,H3,i3,N3,aM,bR,aN,bS,bT,bo,bp,⟨VU,bW⟩,oA,aQ,aS⟩:=abw I2.wo I2.jU I2.v3 (v:=v) (l:=r) (u:=r') aa aw bf
      (IW I2.jU aw ad bb t1 λa b c=>yO I2.jU a b c) (IW I2.jU bf ad bb t2 λa b c=>yO I2.jU a b c) I2.il
     simp(disch:=first|omega|(simp only[ab.bm,ab.aY,bQ];omega)) [go_sem,aG];refine KC.mk aM ?_;have b7:=I2.nx;have k3:∀j o,j<H2.next->j≠b+4->j≠b+3->(b+9<=j->j≠i2)->H2.get j=some o->H3.get j=some o:=λj o h1 h2 h3 h4 h5=>bW j o h1 h2 h3 (λaz=>by
      have:=I2.ii az;rcases RK j (b+9)with h|h
      . omega
      . exact h4 h) h5
     have aT:=k3 _ _ aa aa aa (λ_=>aa) bL;obtain⟨b8,ai,bX,aU⟩:=I2.ky;have bY:=k3 _ _ aa aa aa (λh=>aa) bX;have m3:rd H3 (b+7) 0=some (.map (some (b+6))):=cY (o:=0) (k3 _ _ aa aa aa (λh=>aa) I2.nv);obtain⟨bq,af,bs,aW⟩:=vx CG (vf:=iK) CE aU (x,y,z) ai rb;simp only[oq,iK]at bs;have q0:rd H3 H.next 0=some (.int .i64 x):=cY (o:=0) aT;have q1:rd H3 H.next 1=some (.int .i64 y):=cY (o:=1) aT;have q2:rd H3 H.next 2=some (.int .i64 z):=cY (o:=2) aT;simp(disch:=first|omega|(simp only[ab.bm,ab.aY,bQ];omega)) [go_sem,aG,m3,q0,q1,q2,bY,bs];refine⟨⟨aK,cY (o:=0) I2.bC⟩,rb,i3,N3,put L2 (x,y,z) rb,rfl, ?_,(bE.trans aL).trans aN,bo,λρ=> ?_,⟨?_,λj o h1 h2 h3 h4 h5 h6=> ?_⟩,aa⟩
     . have hs:=I2.sub;have b9:=S.b;have kk:∀j o,j<H2.next->j≠b+4->j≠b+3->j≠b+6->(b+9<=j->j≠i2)->H2.get j=some o->(H3.set (b+6) (some (bP.map bq af))).get j=some o:=λj o h1 h2 h3 h4 h5 h6=>by
        rw[bD _ _ _ _ h4];exact k3 j o h1 h2 h3 h5 h6
       have bt:N3≠[]->b+9<=i3:=λaz=>by
        by_cases h:N2=[]
        . have:=aS az h;omega
        . have:=I2.ii h;omega
       refine⟨⟨?_,λj o hj ho=>kk j o ?_ aa aa aa (λ_=>aa) (hs.get j o hj ho)⟩, ?_,kk _ _ aa aa aa aa (λ_=>aa) I2.lB,kk _ _ aa aa aa aa (λ_=>aa) I2.CQ,kk _ _ aa aa aa aa (λ_=>aa) I2.bC,
        kk _ _ aa aa aa aa (λ_=>aa) I2.nv,kk _ _ aa aa aa aa (λ_=>aa) I2.yQ,bR.put _ aa aa (λaz=>by have:=bt az;omega),bt,aQ,⟨bq,af,eC _ _ _,aW⟩,bS,bT,λx' y' z' ca ah=> ?_⟩
       . have:=hs.next;simp only[ab.aY];omega
       . have:=hs.next;omega
       . simp only[ab.aY];omega
       . rw[mW]at ah
         split at ah
         . rename_i he;cases ah;cases he;exact⟨bo,λρ=>by rw[bp,<-hT,IV t1 t2]⟩
         . obtain⟨c1,c2⟩:=I2.CS _ _ _ _ ah;exact⟨by have:=aN.length_le;omega,λρ=>by rw[yN I2.jU aN c1,c2]⟩
     . rw[bp,<-hT,IV t1 t2]
     . simp only[ab.aY];omega
     . rw[bD _ _ _ _ aa];refine k3 j o aa h3 h2 (λ_=>aa) (bk j o aa h2 h3 h4 aa (aJ j o (by simp only[ab.bm,ab.aY,bQ];omega) h2 h3 h4 h5 ?_));simp(disch:=first|omega|(simp only[ab.bm,ab.aY,bQ];omega)) only[bD,bM];exact h6
def I4(S:yP b h0 d0 d1 d2 fo cap op):∀(n x y z:Nat) (H:ab) (i:Nat) (N:List Br) (L:List ((Nat×Nat×Nat)×Nat)),x+y+z<n->x<d0.ns.length+2->y<d1.ns.length+2->z<d2.ns.length+2->pK b h0 d0 d1 d2 fo cap op H i N L->
 ∃v H',bU E 206 (.agg #[.int .i64 x,.int .i64 y,.int .i64 z]::mC b) H v H'/\CT b h0 d0 d1 d2 fo cap op H i N x y z v H'
 |0,_,_,_,_,_,_,_,h,_,_,_,_=>absurd h aa
 |n+1,x,y,z,H,i,N,L,h,hx,hy,hz,I=>by
  by_cases hc:x<2/\y<2/\z<2
  . obtain⟨c0,c1,c2⟩:=hc;refine⟨_,_,abk S I c0 c1 c2,_,i,N,L,rfl,I,afj _, ?_,λρ=> ?_,⟨yy _,λ_ _ _ _ _ _ _ h=>h⟩,.inl rfl⟩
    . split<;>omega
    . rw[ot c0,ot c1,ot c2];cases op (decide (x=1)) (decide (y=1)) (decide (z=1))<;>simp[ot]
  . cases hk:bj L (x,y,z)with
    |some r=>
     obtain⟨c0,c1⟩:=I.CS _ _ _ _ hk;exact⟨_,_,abl I hc hk,r,i,N,L,rfl,I,afj _,c0,c1,⟨yy _,λ_ _ _ _ _ _ _ h=>h⟩,.inl rfl⟩
    |none=>
     exact abx S I hc hk hx hy hz λx' y' z' H1 i1 N1 L1 hs c0 c1 c2 I1=>I4 S n x' y' z' H1 i1 N1 L1 aa c0 c1 c2 I1
end
end Go.Sp
end
noncomputable section
open Go Go.aD Go.Proofs
namespace Go.Sp
abbrev Seen:Type:=List (Nat×Nat)×List Br
def gS(node:Nat->Option Br):Nat->Nat->Seen->Nat×Seen
 |0,_,s=>(0,s)
 |k+1,n,s=>match bj s.1 n with
  |some m=>(m,s)
  |none=>match node n with
   |none=>(0,s)
   |some x=>
    let a:=gS node k x.2.1 s
    let b:=gS node k x.2.2 a.2
    (b.2.2.length+2,put b.2.1 n (b.2.2.length+2),b.2.2++[(x.1,a.1,b.1)])
def jV(N:List Br)(n:Nat):Option Br:=if n<2 then none else N[n-2]?
def yS{node:Nat->Option Br}(aL:∀n x,node n=some x->x.2.1<n/\x.2.2<n):∀(k m:Nat) (s:Seen) (q:Nat),m<q->bj s.1 q=none->bj (gS node k m s).2.1 q=none
 |0,_,_,_,_,h=>h
 |k+1,m,s,q,hm,h=>by
  simp only[gS]
  split
  . exact h
  . split
    . exact h
    . rename_i x hx;obtain⟨h1,h2⟩:=aL _ _ hx;simp only;rw[mW,if_neg aa];exact yS aL k _ _ q aa (yS aL k _ _ q aa h)
def yT{N:List Br}(h:eG N):∀n x,jV N n=some x->x.2.1<n/\x.2.2<n:=λn x hx=>by
 unfold jV at hx
 split at hx
 . cases hx
 . obtain⟨_,h4,h5,_⟩:=h.ok _ _ hx;omega
def I5{κ ν:Type}[DecidableEq κ]{a:κ}:∀{l:List (κ×ν)},bj l a=none->∀p∈l,p.1≠a
 |[],_,p,hp=>by cases hp
 |(k,v)::r,h,p,hp=>by
  simp only[bj]at h
  split at h
  . cases h
  . rename_i bd;rcases FQ.1 hp with rfl|hp
    . exactλe=>bd e.symm
    . exact I5 h p hp
def uu:E.under 256=some (.map 3 3):=ak
def uv(c:Nat):Value:=.func (.func 177) #[] #[.pointer (some ⟨c+4,0,none⟩),.pointer (some ⟨c,0,none⟩),.pointer (some ⟨c+5,0,none⟩),.pointer (some ⟨c+2,0,none⟩)]
def uw(c:Nat):List Value:=[.pointer (some ⟨c+4,0,none⟩),.pointer (some ⟨c,0,none⟩),.pointer (some ⟨c+5,0,none⟩),.pointer (some ⟨c+2,0,none⟩)]
structure wq(c:Nat)(h0:ab)(B:Nat)(N:List Br):Prop where
 c:h0.next=c
 wo:∃sl m,h0.get B=some (.row [sl,m] true 0)/\kH 3 h0 sl (N.map dG)
 lt:B<h0.next
 jU:eG N
 v3:∀x∈N,x.1<3
structure mD(c:Nat)(h0:ab)(B:Nat)(N:List Br)(H:ab)(i:Nat)(s:Seen):Prop where
 sub:Sub h0 H
 nx:c+6<=H.next
 bC:H.get c=some (.row [.pointer (some ⟨B,0,none⟩)] true 0)
 out:∃sl,H.get (c+2)=some (.row [sl,.int .i64 0] true 0)/\((s.2=[]/\sl=.slice none 0 0)\/(s.2≠[]/\sl=.slice (some ⟨i,0,none⟩) s.2.length s.2.length/\H.get i=some (.row (s.2.flatMap dG) true 3)/\c+6<=i/\i<H.next))
 ky:∃es clock,H.get (c+3)=some (.map es clock)/\j8 iK iK es s.1
 nv:H.get (c+4)=some (.row [.map (some (c+3))] true 0)
 vC:H.get (c+5)=some (.row [uv c] true 0)
 nd:(s.1.map (·.1)).Nodup
 ks:∀p∈s.1,p.1<N.length+2
 len:s.1.length=s.2.length+2
 base:bj s.1 0=some 0/\bj s.1 1=some 1
def mD.small{c:Nat}{h0:ab}{B:Nat}{N:List Br}{H:ab}{i:Nat}{s:Seen}(S:wq c h0 B N)(I:mD c h0 B N H i s):s.2.length<=254:=by
 have:=CX S.jU S.v3;have:=yR (N.length+2) _ I.nd λx hx=>by
  obtain⟨p,hp,rfl⟩:=afy.1 hx;exact I.ks p hp
 have:=I.len;simp only[afA]at*;omega
def yU(c:Nat)(h0:ab)(B:Nat)(N:List Br)(H:ab)(i:Nat)(s:Seen)(k n:Nat)(v:Value)(H':ab):Prop:=
 ∃i',v=.int .i64 (gS (jV N) k n s).1/\mD c h0 B N H' i' (gS (jV N) k n s).2/\(H.next<=H'.next/\∀j o,j<H.next->j≠c+2->j≠c+3->(s.2≠[]->j≠i)->H.get j=some o->H'.get j=some o)/\((gS (jV N) k n s).2.2≠[]->(s.2≠[]/\i'=i)\/H.next<=i')
def mD.mono{c:Nat}{h0:ab}{B:Nat}{N:List Br}{H G:ab}{i:Nat}{s:Seen}(I:mD c h0 B N H i s)(a:Sub H G):mD c h0 B N G i s:=by
 have hn:=I.nx;obtain⟨es,cl,h3,h4⟩:=I.ky;obtain⟨sl,o1,o2⟩:=I.out;refine⟨I.sub.trans a,Nat.le_trans hn a.next,a.get _ _ aa I.bC,⟨sl,a.get _ _ aa o1, ?_⟩,⟨es,cl,a.get _ _ aa h3,h4⟩,a.get _ _ aa I.nv,a.get _ _ aa I.vC,I.nd,I.ks,I.len,I.base⟩;rcases o2 with o2|⟨b1,b2,b3,b4,b5⟩
 . exact .inl o2
 . exact .inr ⟨b1,b2,a.get _ _ b5 b3,b4,Vs b5 a.next⟩
def mD.il{c:Nat}{h0:ab}{B:Nat}{N:List Br}{H:ab}{i:Nat}{s:Seen}(I:mD c h0 B N H i s)(h:s.2≠[]):c+6<=i/\i<H.next:=by
 obtain⟨sl,o1,o2⟩:=I.out;rcases o2 with o2|⟨b1,b2,b3,b4,b5⟩
 . exact absurd o2.1 h
 . exact⟨b4,b5⟩
section
variable {c:Nat} {h0:ab} {B:Nat} {N:List Br} {H:ab} {i:Nat} {s:Seen}
def aby(I:mD c h0 B N H i s){n r:Nat}(hk:bj s.1 n=some r):
 bU E 177 (.int .i64 n::uw c) H (.int .i64 r) H:=by
 have r1:rd H (c+4) 0=some (.map (some (c+3))):=cY (o:=0) I.nv;have hn:=I.nx;obtain⟨es,clock,hM,aM⟩:=I.ky;have av:=xR ui uu aM n true clock hk;simp only[iK,cond_true]at av;refine mg Tryz.ntmps177 Tryz.results177 rfl ?_;simp(disch:=omega)[go_sem,uw,dr,bM,r1,hM,av]
def abz(S:wq c h0 B N)(I:mD c h0 B N H i s){k n:Nat}{x:Br}(hk:bj s.1 n=none)(h2:2<=n)(hx:N[n-2]? =some x)
 (IH:∀(m:Nat) (H1:ab) (i1:Nat) (s1:Seen),m=x.2.1\/m=x.2.2->mD c h0 B N H1 i1 s1->∃v' H',bU E 177 (.int .i64 m::uw c) H1 v' H'/\yU c h0 B N H1 i1 s1 k m v' H'):
 ∃v H',bU E 177 (.int .i64 n::uw c) H v H'/\yU c h0 B N H i s (k+1) n v H':=by
 have r1:rd H (c+4) 0=some (.map (some (c+3))):=cY (o:=0) I.nv;have hn:=I.nx;have hc:=S.c;obtain⟨es,clock,hM,aM⟩:=I.ky;have av:=AJ ui uu aM n true clock yc rfl hk;simp only[iK,cond_true]at av;obtain⟨sl,m,hB,bf⟩:=S.wo;have aN:=S.lt;obtain⟨b,o,cp,rfl,hb,hj,af⟩:=bf.at (j:=n-2) (x:=dG x) (by simp[hx]);have e1:((n:Int)-2).toNat=n-2:=aa;simp only[afA]at hj hB⊢;have hN:=CX S.jU S.v3;have bg:rd H B 0=some (.slice (some ⟨b,o,none⟩) N.length cp):=I.sub.rd aN (cY (o:=0) hB);have bk:rd H c 0=some (.pointer (some ⟨B,0,none⟩)):=cY (o:=0) I.bC;have x0:rd H b (o+(n-2)*3)=some (.int .i64 x.1):=I.sub.rd hb (af 0 _ rfl);have x1:rd H b (o+(n-2)*3+1)=some (.int .i64 x.2.1):=I.sub.rd hb (af 1 _ rfl);have x2:rd H b (o+(n-2)*3+1+1)=some (.int .i64 x.2.2):=I.sub.rd hb (af 2 _ rfl);have v0:rd H (c+5) 0=some (uv c):=cY (o:=0) I.vC;refine run Tryz.ntmps177 Tryz.results177 ?_;simp(disch:=first|omega|(simp only[ab.bm,ab.aY,bQ];omega)) [go_sem,uw,aG,tC,dr,bM,r1,hM,av,bg,bk,x0,x1,x2,e1,v0,uv,ez,gM];refine KC.of (IH _ _ _ _ (.inl rfl) (I.mono (((Sub.refl H).new _).set (yy _) _))) ?_;rintro _ H1 ⟨i1,rfl,I1,⟨aW,aH⟩,ao⟩;have g1:H1.get H.next=some (.row [.int .i64 x.1,.int .i64 x.2.1,.int .i64 x.2.2] true 0):=aH _ _ (by simp only[ab.bm,ab.aY];omega) aa aa (λh=>by have:=I.il h;omega) (eC _ _ _);simp only[ab.bm,ab.aY]at aW ao;have v1:rd H1 (c+5) 0=some (uv c):=cY (o:=0) I1.vC;have y2:rd H1 H.next 2=some (.int .i64 x.2.2):=cY (o:=2) g1;simp(disch:=first|omega|(simp only[ab.bm,ab.aY,bQ];omega)) [go_sem,v1,y2,uv];refine KC.of (IH _ _ _ _ (.inr rfl) I1) ?_;rintro _ H2 ⟨i2,rfl,I2,⟨Ak,aQ⟩,dU⟩;have g2:H2.get H.next=some (.row [.int .i64 x.1,.int .i64 x.2.1,.int .i64 x.2.2] true 0):=aQ _ _ aa aa aa (λh=>by
  rcases ao h with⟨a1,a2⟩|a1
  . have:=I.il a1;omega
  . omega) g1
 have z0:rd H2 H.next 0=some (.int .i64 x.1):=cY (o:=0) g2;obtain⟨A,hA⟩:∃A,gS (jV N) k x.2.1 s=A:=⟨_,rfl⟩;rw[hA]at I1 ao dU aQ I2⊢;obtain⟨Bq,aS⟩:∃A',gS (jV N) k x.2.2 A.2=A':=⟨_,rfl⟩;rw[aS]at I2 dU⊢;have az:gS (jV N) (k+1) n s=(Bq.2.2.length+2,put Bq.2.1 n (Bq.2.2.length+2),Bq.2.2++[(x.1,A.1,Bq.1)]):=by
  simp only[gS,hk,jV,if_neg (show¬n<2 by omega),hx,hA,aS]
 have bx:=I2.small S;obtain⟨aT,ah,aX,aU⟩:=I2.ky;obtain⟨aI,ad,an,aF⟩:=vx ui (vf:=iK) uu aU n ah (Bq.2.2.length+2);have ae:=xR ui uu aF n false ad (v:=Bq.2.2.length+2) (by rw[mW,if_pos rfl]);simp only[iK,cond_false,afN,afO]at an ae;have m2:rd H2 (c+4) 0=some (.map (some (c+3))):=cY (o:=0) I2.nv;obtain⟨aq,ho,aJ⟩:=I2.out;have o0:rd H2 (c+2) 0=some aq:=cY (o:=0) ho;have bA:=I2.nx;have ai:bj Bq.2.1 n=none:=by
  obtain⟨q1,q2⟩:=yT S.jU n x (by rw[jV,if_neg aa,hx]);rw[<-aS,<-hA];exact yS (yT S.jU) k _ _ n q2 (yS (yT S.jU) k _ _ n q1 hk)
 have fin:∀(G:ab),H2.next+2<=G.next->(∀j o,j<H2.next->j≠c+2->j≠c+3->(Bq.2.2≠[]->j≠i2)->H2.get j=some o->G.get j=some o)->
  G.get (c+2)=some (.row [.slice (some ⟨H2.next+1,0,none⟩) (Bq.2.2.length+1) (Bq.2.2.length+1),.int .i64 0] true 0)->G.get (H2.next+1)=some (.row ((Bq.2.2++[(x.1,A.1,Bq.1)]).flatMap dG) true 3)->G.get (c+3)=some (.map aI ad)->
  yU c h0 B N H i s (k+1) n (.int .i64 (Bq.2.2.length+2:Nat)) G:=λG f1 f2 f3 f4 f5=>by
  have hs:=I2.sub;have aK:∀j o,j<c+6->j≠c+2->j≠c+3->H2.get j=some o->G.get j=some o:=λj o h1 h2 h3 h4=>f2 j o aa h2 h3 (λh=>by have:=I2.il h;omega) h4;refine⟨H2.next+1, ?_, ?_,⟨aa,λj o h1 h2 h3 h4 h5=> ?_⟩,λ_=>.inr aa⟩
  . rw[az]
  . rw[az];refine⟨⟨?_,λj o hj ho=>aK j o aa aa aa (hs.get j o hj ho)⟩,aa,aK _ _ aa aa aa I2.bC,⟨_,f3,.inr ⟨aw,aw,f4,aa,aa⟩⟩,⟨aI,ad,f5,aF⟩,aK _ _ aa aa aa I2.nv,aK _ _ aa aa aa I2.vC, ?_, ?_, ?_, ?_⟩
    . have:=hs.next;omega
    . simp only[qp ai,List.map_append,yB,List.map_nil];rw[afR];refine⟨I2.nd,aw,λa ha b hb=> ?_⟩;obtain⟨p,hp,rfl⟩:=afy.1 ha;simp only[afB]at hb;subst hb;exact I5 ai p hp
    . simp only[qp ai];intro p hp;rcases afU.1 hp with hp|hp
      . exact I2.ks p hp
      . simp only[afB]at hp;subst hp;simp only;omega
    . have:=I2.len;simp only[qp ai,afM,List.length_singleton];omega
    . simp only[mW];rw[if_neg aa,if_neg aa];exact I2.base
  . refine f2 j o aa h2 h3 (λh=> ?_) (aQ j o aa h2 h3 (λh=> ?_) (aH j o (by simp only[ab.bm,ab.aY];omega) h2 h3 h4 ?_))
    . rcases dU h with⟨a1,a2⟩|a1
      . rcases ao a1 with⟨b1,b2⟩|b1
        . have:=h4 b1;omega
        . omega
      . omega
    . rcases ao h with⟨b1,b2⟩|b1
      . have:=h4 b1;omega
      . omega
    . rw[bD _ _ _ _ aa,bM _ _ _ aa];exact h5
 rcases aJ with⟨he,rfl⟩|⟨he,rfl,bo,bB,bE⟩
 . have e0:Bq.2.2.length=0:=by rw[he];rfl
   rw[e0]at an ae fin;simp(disch:=first|omega|(simp only[ab.bm,ab.aY,bQ];omega)) [go_sem,z0,o0,m2];rw[append_nil yL (xT (qn _ _) rfl) rfl aC aC];replace an:nW E 256 (.int .i64 n) (.int .i64 2) aT ah=some (.map aI ad):=an;replace ae:mV E 256 false (.int .i64 n) (some (.map aI ad))=some (.int .i64 2):=ae;simp(disch:=first|omega|(simp only[ab.bm,ab.aY,bQ];omega)) [go_sem,aG,dr,ez,bM,bD,ho,m2,aX,an,ae];refine fin _ (by simp only[ab.bm,ab.aY];omega) (λj o h1 h2 h3 h4 h5=> ?_) ?_ ?_ ?_
   all_goals simp(disch:=first|omega|(simp only[ab.bm,ab.aY,bQ];omega)) only[bD,bM,dB,eC]
   . exact h5
   . rw[he];rfl
 . simp(disch:=first|omega|(simp only[ab.bm,ab.aY,bQ];omega)) [go_sem,z0,o0,m2];rw[FT yL (xT (qn _ _) rfl) rfl aC (i:=i2) (cs:=Bq.2.2.flatMap dG) (by rw[bM _ _ _ aa];exact bo) (IT _) (by rfl) aa];rw[show(Bq.2.2.length:Int)+2=Bq.2.2.length+1+1 by omega]at an ae;simp(disch:=first|omega|(simp only[ab.bm,ab.aY,bQ];omega)) [go_sem,aG,dr,ez,bM,bD,ho,m2,aX,an,ae];simp only[show((Bq.2.2.length+2:Nat):Int)=Bq.2.2.length+1+1 by omega]at fin;refine fin _ (by simp only[ab.bm,ab.aY];omega) (λj o h1 h2 h3 h4 h5=> ?_) ?_ ?_ ?_
   . have:=h4 he;simp(disch:=first|omega|(simp only[ab.bm,ab.aY,bQ];omega)) only[bD,bM];exact h5
   all_goals simp(disch:=first|omega|(simp only[ab.bm,ab.aY,bQ];omega)) only[bD,bM,dB,eC]
   simp[dG]
def CZ(S:wq c h0 B N):∀(k n:Nat) (H:ab) (i:Nat) (s:Seen),1<=k->4<=cm N n+k->n<N.length+2->mD c h0 B N H i s->
 ∃v H',bU E 177 (.int .i64 n::uw c) H v H'/\yU c h0 B N H i s k n v H'
 |0,_,_,_,_,h,_,_,_=>absurd h aa
 |k+1,n,H,i,s,_,hk,hn,I=>by
  cases ha:bj s.1 n with
  |some r=>
   have hv:gS (jV N) (k+1) n s=(r,s):=by simp only[gS,ha]
   refine⟨_,_,aby I ha,i, ?_, ?_,⟨yy _,λ_ _ _ _ _ _ h=>h⟩,λh=> ?_⟩
   . rw[hv]
   . rw[hv];exact I
   . rw[hv]at h;exact .inl ⟨h,rfl⟩
  |none=>
   have h2:2<=n:=by
    rcases RK n 2 with h2|h2
    . have hb:=I.base
      match n,h2 with
      |0,_=>rw[hb.1]at ha;cases ha
      |1,_=>rw[hb.2]at ha;cases ha
    . exact h2
   obtain⟨⟨v,l,u⟩,hx⟩:∃x,N[n-2]? =some x:=⟨_,qG aa⟩;obtain⟨_,h4,h5,_,h6,h7⟩:=S.jU.ok _ _ hx;have h3:=S.v3 _ (RW hx);rw[lV h2 hx]at hk;simp only at h3 h4 h5 h6 h7 hk;refine abz S I ha h2 hx λm H1 i1 s1 hm I1=> ?_;rcases hm with rfl|rfl
   . exact CZ S k m H1 i1 s1 aa aa aa I1
   . exact CZ S k m H1 i1 s1 aa aa aa I1
end
def I6{x:Br}{k:Nat}{u:Value}(hu:(dG x)[k]? =some u):∀(N:List Br) (j:Nat),N[j]? =some x->(N.flatMap dG)[j*3+k]? =some u
 |[],j,h=>by simp at h
 |y::r,0,h=>by
  simp only[List.getElem?_cons_zero,Option.some.injEq]at h;subst h;have hk:k<(dG y).length:=(afx.1 hu).1;rw[afw,Nat.zero_mul,Zf,adv hk];exact hu
 |y::r,j+1,h=>by
  rw[afw,List.getElem?_append_right (by simp[dG];omega),show(j+1)*3+k-(dG y).length=j*3+k by simp[dG];omega];exact I6 hu r j (by simpa using h)
def abA{h:ab}{i l c:Nat}{N:List Br}(hg:h.get i=some (.row (N.flatMap dG) true 3))(hl:l=N.length)(hi:i<h.next):kH 3 h (.slice (some ⟨i,0,none⟩) l c) (N.map dG):=by
 refine .inr ⟨i,0,c,by rw[afA,hl],hi,λj x hx k u hu=> ?_⟩;rw[List.getElem?_map]at hx;cases hy:N[j]? with
 |none=>rw[hy]at hx;cases hx
 |some y=>
  rw[hy]at hx;cases hx;rw[cY hg,Zf];exact I6 hu N j hy
def iq.stat{h:ab}{B M i:Nat}{N:List Br}(hb:iq h B M i N)(ok:eG N)(v3:∀x∈N,x.1<3):wq h.next h B N:=by
 obtain⟨sl,h1,h2⟩:=hb.bh;refine⟨rfl,⟨sl,_,h1, ?_⟩,hb.lt.1,ok,v3⟩;rcases h2 with⟨rfl,rfl⟩|⟨h3,rfl,h4,h5,_⟩
 . exact .inl ⟨rfl,_,_,rfl⟩
 . exact abA h4 rfl h5
def lA(N:List Br)(n:Nat):Nat×Seen:=gS (jV N) 4 n ([(0,0),(1,1)],[])
def ux(n0:Nat)(h:ab)(v:Value)(cs:List Br):Prop:=(cs=[]/\v=.slice none 0 0)\/(cs≠[]/\∃b,v=.slice (some ⟨b,0,none⟩) cs.length cs.length/\h.get b=some (.row (cs.flatMap dG) true 3)/\n0<=b/\b<h.next)
def abB{h:ab}{B:Nat}{N:List Br}(S:wq h.next h B N){n:Nat}(hn:n<N.length+2):
 ∃v H',bU E 136 [.pointer (some ⟨B,0,none⟩),.int .i64 n] h v H'/\(∃sl,v=.agg #[sl,.int .i64 (lA N n).1]/\ux h.next H' sl (lA N n).2.2)/\Sub h H':=by
 refine run Tryz.ntmps136 Tryz.results136 (K:=λv H'=>(∃sl,v=.agg #[sl,.int .i64 (lA N n).1]/\ux h.next H' sl (lA N n).2.2)/\Sub h H') ?_;obtain⟨bF,bp,ba,bq⟩:=vx ui (vf:=iK) uu (es:=[]) (l:=[]) rfl 0 0 0;obtain⟨aT,bs,bb,bt⟩:=vx ui (vf:=iK) uu bq 1 bp 1;simp only[iK,Int.natCast_zero,Int.natCast_one]at ba bb;simp(disch:=first|omega|(simp only[ab.bm,ab.aY,bQ];omega)) [go_sem,aG,dr,ez,gM,dB,bM,bD,eC,ba,bb];refine KC.of (CZ S 4 n _ 0 ([(0,0),(1,1)],[]) aa aa hn ⟨?_, ?_, ?_,⟨.slice none 0 0, ?_,.inl ⟨rfl,rfl⟩⟩,⟨aT,bs, ?_,bt⟩, ?_, ?_,aw, ?_,rfl,⟨rfl,rfl⟩⟩) ?_
 . repeat first|exact Sub.refl _|refine Sub.new ?_ _|refine Sub.set ?_ aa _
 . simp only[ab.bm,ab.aY];omega
 . simp(disch:=first|omega|(simp only[ab.bm,ab.aY,bQ];omega)) only[bD,bM,dB,eC]
 . simp(disch:=first|omega|(simp only[ab.bm,ab.aY,bQ];omega)) only[bD,bM,dB,eC]
 . simp(disch:=first|omega|(simp only[ab.bm,ab.aY,bQ];omega)) only[bD,bM,dB,eC]
 . simp(disch:=first|omega|(simp only[ab.bm,ab.aY,bQ];omega)) only[bD,bM,dB,eC]
 . simp(disch:=first|omega|(simp only[ab.bm,ab.aY,bQ];omega)) only[bD,bM,dB,eC,uv]
 . intro p hp;simp only[FQ,afv,or_false]at hp;rcases hp with rfl|rfl<;>simp only<;>omega
 . rintro _ H1 ⟨i1,rfl,I1,⟨aW,aH⟩,ao⟩;obtain⟨aq,ho,aJ⟩:=I1.out;have bc:H1.get (h.next+1+1)=some (.row [aq,.int .i64 0] true 0):=ho;have h4:H1.get (h.next+1)=some (.row [.slice none 0 0,.int .i64 0] true 0):=aH _ _ (by simp only[ab.bm,ab.aY];omega) aa aa (λh=>absurd rfl h) (by simp(disch:=first|omega|(simp only[ab.bm,ab.aY,bQ];omega)) only[bD,bM,dB,eC]);have o0:rd H1 (h.next+1+1) 0=some aq:=cY (o:=0) bc;have bu:dF aq=true:=by rcases aJ with⟨_,rfl⟩|⟨_,rfl,_⟩<;>rfl
   have bG:=I1.nx;have bw:=I1.sub;simp(disch:=first|omega|(simp only[ab.bm,ab.aY,bQ];omega)) [go_sem,bc,h4,o0,ez,dr,bD,bu];refine⟨⟨aq,⟨rfl,rfl⟩, ?_⟩,(bw.set aa _).set aa _⟩
   . rcases aJ with⟨e1,rfl⟩|⟨e1,rfl,h5,h6,h7⟩
     . exact .inl ⟨by rw[lA,e1],rfl⟩
     . refine .inr ⟨e1,i1,rfl, ?_,aa,by simp only[ab.aY];omega⟩;rw[bD _ _ _ _ aa,bD _ _ _ _ aa];exact h5
def abC{h:ab}{B M i:Nat}{N:List Br}(hb:iq h B M i N)(ok:eG N)(v3:∀x∈N,x.1<3){n:Nat}(hn:n<N.length+2):
 ∃v H',bU E 136 [.pointer (some ⟨B,0,none⟩),.int .i64 n] h v H'/\(∃sl,v=.agg #[sl,.int .i64 (lA N n).1]/\ux h.next H' sl (lA N n).2.2)/\Sub h H':=abB (hb.stat ok v3) hn
end Go.Sp
end
noncomputable section
open Go Go.aD Go.Proofs
namespace Go.Sp
def abD(h:ab):∃v H',bU E 205 [] h v H'/\v=.pointer (some ⟨h.next+1,0,none⟩)/\H'=(h.new (.map [] 0)).new (.row [.slice none 0 0,.map (some h.next)] true 0):=by
 refine run Tryz.ntmps205 Tryz.results205 (K:=λv H'=>v=.pointer (some ⟨h.next+1,0,none⟩)/\H'=(h.new (.map [] 0)).new (.row [.slice none 0 0,.map (some h.next)] true 0)) ?_;simp(disch:=first|omega|(simp only[ab.bm,ab.aY,bQ];omega)) [go_sem,aG,dr,ez,gM,bM,dB,bD,eC]
def abE{h:ab}{d0 d1 d2:ov}(k0:d0.ok h)(k1:d1.ok h)(k2:d2.ok h)(r0:d0.r<d0.ns.length+2)(r1:d1.r<d1.ns.length+2)(r2:d2.r<d2.ns.length+2){fo:Nat}{cap:List Value}{op:Bool->Bool->Bool->Bool}
 (ah:∀H,Sub h H->∀x y z,bU E fo ([.bool x,.bool y,.bool z]++cap) H (.bool (op x y z)) H):
 ∃v H',bU E 188 [.agg #[d0.sl,.int .i64 d0.r,d1.sl,.int .i64 d1.r,d2.sl,.int .i64 d2.r],.func (.func fo) #[] cap.toArray] h v H'/\
  (∃sl N n,v=.agg #[sl,.int .i64 (lA N n).1]/\ux h.next H' sl (lA N n).2.2/\eG N/\(∀x∈N,x.1<3)/\n<N.length+2/\∀ρ,tb N n ρ=op (tb d0.ns d0.r ρ) (tb d1.ns d1.r ρ) (tb d2.ns d2.r ρ))/\Sub h H':=by
 refine run Tryz.ntmps188 Tryz.results188 (K:=λv H'=>(∃sl N n,v=.agg #[sl,.int .i64 (lA N n).1]/\ux h.next H' sl (lA N n).2.2/\eG N/\(∀x∈N,x.1<3)/\n<N.length+2/\∀ρ,tb N n ρ=op (tb d0.ns d0.r ρ) (tb d1.ns d1.r ρ) (tb d2.ns d2.r ρ))/\Sub h H') ?_;simp(disch:=first|omega|(simp only[ab.bm,ab.aY,bQ];omega)) [go_sem,aG,dr,ez,gM,bM,dB,bD,eC];obtain⟨_,_,hb,rfl,rfl⟩:=abD (((h.new (.row [d0.sl,.int .i64 d0.r,d1.sl,.int .i64 d1.r,d2.sl,.int .i64 d2.r] true 0)).new (.row [.func (.func fo) #[] cap.toArray] true 0)).new (.row [.slice none 0 0,.int .i64 0] true 0));refine KC.mk hb ?_;simp(disch:=first|omega|(simp only[ab.bm,ab.aY,bQ];omega)) [go_sem,aG,dr,ez,gM,bM,dB,bD,eC];refine ln [⟨.read,0,some (0,2)⟩,dQ 0,bg 0,bg 4,dQ 12,bg 0,bg 32,dQ 96,bg 0,bg 256,dQ 768,bg 2044,fY 4094,fY 8191,fY 16383] ak 0 rfl ?_;simp(disch:=first|omega|(simp only[ab.bm,ab.aY,bQ];omega)) [go_sem,dV,aG,dr,ez,gM,bM,dB,bD,eC];have S:yP h.next h d0 d1 d2 fo cap op:=⟨rfl,k0,k1,k2,ah⟩;refine KC.of (I4 S (d0.r+d1.r+d2.r+1) d0.r d1.r d2.r _ h.next [] [] aa r0 r1 r2 ⟨?_, ?_, ?_, ?_, ?_, ?_, ?_,⟨⟨.slice none 0 0, ?_,.inl ⟨rfl,rfl⟩⟩,⟨[],0, ?_,rfl⟩,aa, ?_⟩,λh=>absurd rfl h, ?_,⟨[],0, ?_,rfl⟩,⟨λk x hx=>by simp at hx,aw⟩,λx hx=>by simp at hx,λx y z r hr=>by simp[bj]at hr⟩) ?_
 . repeat first|exact Sub.refl _|refine Sub.new ?_ _|refine Sub.set ?_ aa _
 . simp only[ab.bm,ab.aY];omega
 . simp(disch:=first|omega|(simp only[ab.bm,ab.aY,bQ];omega)) only[bD,bM,dB,eC]
 . simp(disch:=first|omega|(simp only[ab.bm,ab.aY,bQ];omega)) only[bD,bM,dB,eC]
 . simp(disch:=first|omega|(simp only[ab.bm,ab.aY,bQ];omega)) only[bD,bM,dB,eC]
 . simp(disch:=first|omega|(simp only[ab.bm,ab.aY,bQ];omega)) only[bD,bM,dB,eC]
 . simp(disch:=first|omega|(simp only[ab.bm,ab.aY,bQ];omega)) only[bD,bM,dB,eC];rfl
 . simp(disch:=first|omega|(simp only[ab.bm,ab.aY,bQ];omega)) only[bD,bM,dB,eC]
 . simp(disch:=first|omega|(simp only[ab.bm,ab.aY,bQ];omega)) only[bD,bM,dB,eC]
 . simp only[ab.bm,ab.aY];omega
 . simp only[ab.bm,ab.aY];omega
 . simp(disch:=first|omega|(simp only[ab.bm,ab.aY,bQ];omega)) only[bD,bM,dB,eC]
 . rintro _ H1 ⟨r,i1,N1,L1,rfl,I1,az,ae,ai,⟨aC,an⟩,aF⟩;have h4:H1.get (h.next+1+1)=some (.row [.slice none 0 0,.int .i64 0] true 0):=an _ _ (by simp only[ab.bm,ab.aY];omega) aa aa aa aa (by simp(disch:=first|omega|(simp only[ab.bm,ab.aY,bQ];omega)) only[bD,bM,dB,eC]);have b5:rd H1 (h.next+5) 0=some (.pointer (some ⟨h.next+4,0,none⟩)):=cY (o:=0) I1.bC;simp(disch:=first|omega|(simp only[ab.bm,ab.aY,bQ];omega)) [go_sem,dV,aG];refine KC.of (abC I1.wo I1.jU I1.v3 ae) ?_;rintro _ H2 ⟨⟨sl,rfl,af⟩,ad⟩;have aH:=I1.nx;have ao:=ad.get _ _ aa h4;have aq:dF sl=true:=by rcases af with⟨_,rfl⟩|⟨_,b,rfl,_⟩<;>rfl
   have aI:=ad.next;simp(disch:=first|omega|(simp only[ab.bm,ab.aY,bQ];omega)) [go_sem,ao,aq];refine⟨⟨?_,b5⟩,⟨sl,N1,r,⟨rfl,rfl⟩, ?_,I1.jU,λv l u hx=>I1.v3 _ hx,ae,ai⟩,(I1.sub.trans ad).set aa _⟩
   . simp(disch:=first|omega|(simp only[ab.bm,ab.aY,bQ];omega)) [ez,dr,gM,FC];rfl
   . have av:=I1.sub.next;rcases af with⟨q1,q2⟩|⟨q1,b,q2,q3,q4,q5⟩
     . exact .inl ⟨q1,q2⟩
     . refine .inr ⟨q1,b,q2, ?_,aa,by simp only[ab.aY];omega⟩;rw[bD _ _ _ _ aa];exact q3
def idx(ρ:dx):Nat:=(if ρ 0 then 1 else 0)+(if ρ 1 then 2 else 0)+(if ρ 2 then 4 else 0)
def C0(ρ:dx):idx ρ<8:=by unfold idx;cases ρ 0<;>cases ρ 1<;>cases ρ 2<;>simp
def abF(ρ:dx):∀w,w<3->ρ w=bX (idx ρ) w:=λw hw=>by
 unfold idx;have:w=0\/w=1\/w=2:=aa;rcases this with rfl|rfl|rfl<;>cases ρ 0<;>cases ρ 1<;>cases ρ 2<;>rfl
def wu(c:Nat)(ρ:dx):Bool:=c.testBit (7-idx ρ)
def I7(f:dx->Bool)(k:Nat)(hk:k<8):(code f).testBit (7-k)=f (bX k):=by
 have h1:∀b:Bool,decide ((if b then 1 else 0:Nat)=1)=b:=aC;rw[ur,Nat.testBit_eq_decide_div_mod_eq,<-h1 (f (bX k)),decide_eq_decide];have:=eH (f (bX 0));have:=eH (f (bX 1));have:=eH (f (bX 2));have:=eH (f (bX 3));have:=eH (f (bX 4));have:=eH (f (bX 5));have:=eH (f (bX 6));have:=eH (f (bX 7));have:k=0\/k=1\/k=2\/k=3\/k=4\/k=5\/k=6\/k=7:=aa;rcases this with rfl|rfl|rfl|rfl|rfl|rfl|rfl|rfl<;>simp only[Nat.reducePow,Nat.reduceSub]<;>omega
def C3(f:dx->Bool):Prop:=∀ρ ae:dx,(∀w,w<3->ρ w=ae w)->f ρ=f ae
def yV{f:dx->Bool}(hf:C3 f)(ρ:dx):wu (code f) ρ=f ρ:=by
 rw[wu,I7 f _ (C0 ρ)];exact hf _ _ λw hw=>(abF ρ w hw).symm
def jt(c v:Nat)(b:Bool):Nat:=code λρ=>wu c (c9 ρ v b)
def yW{f:dx->Bool}(hf:C3 f)(v:Nat)(b:Bool):jt (code f) v b=code λρ=>f (c9 ρ v b):=by
 unfold jt;congr 1
 funext ρ
 exact yV hf _
def uy(c:Nat):Option Br:=
 if jt c 0 false≠jt c 0 true then some (0,jt c 0 false,jt c 0 true)
 else if jt c 1 false≠jt c 1 true then some (1,jt c 1 false,jt c 1 true)
 else if jt c 2 false≠jt c 2 true then some (2,jt c 2 false,jt c 2 true)
 else none
section
variable {N:List Br} (h:eG N) (v3:∀x∈N,x.1<3)
include h v3
def yX{n:Nat}(hn:n<N.length+2):C3 (tb N n):=λρ ae=>CW h v3 n ρ ae hn
def I8{n m:Nat}(hn:n<N.length+2)(hm:m<N.length+2)(he:code (tb N n)=code (tb N m)):n=m:=by
 refine CP h (N.length+2) n m aa aa hn hm λρ=> ?_;rw[<-yV (yX h v3 hn),<-yV (yX h v3 hm),he]
def abG{n:Nat}(hn:n<N.length+2):uy (code (tb N n))=(jV N n).map λx=>(x.1,code (tb N x.2.1),code (tb N x.2.2)):=by
 have hd:=yX h v3 hn;have low:∀w,w<3->w<cm N n->jt (code (tb N n)) w false=jt (code (tb N n)) w true:=λw hw hl=>by
  rw[yW hd,yW hd];congr 1
  funext ρ
  rw[jb h hn hl,jb h hn hl]
 by_cases h2:n<2
 . have hl:cm N n=64:=ou h2;simp only[uy,jV,if_pos h2,low 0 aa aa,low 1 aa aa,low 2 aa aa,ne_eq,not_true_eq_false,if_false,afJ]
 . obtain⟨⟨v,l,u⟩,hx⟩:∃x,N[n-2]? =some x:=⟨_,qG aa⟩;obtain⟨_,h4,h5,af,h6,h7⟩:=h.ok _ _ hx;have hv:=v3 _ (RW hx);simp only at h4 h5 af h6 h7 hv;have hl:cm N n=v:=lV aa hx;have hf:jt (code (tb N n)) v false=code (tb N l):=by
    rw[yW hd];congr 1
    funext ρ
    rw[kR h aa hx,show c9 ρ v false v=false by simp[c9]];simp only[RC,if_false];exact jb h aa h6 ρ false
   have ht:jt (code (tb N n)) v true=code (tb N u):=by
    rw[yW hd];congr 1
    funext ρ
    rw[kR h aa hx,show c9 ρ v true v=true by simp[c9]];simp only[if_true];exact jb h aa h7 ρ true
   have ad:code (tb N l)≠code (tb N u):=λe=>af (I8 h v3 aa aa e);have ah:v=0\/v=1\/v=2:=aa;rcases ah with rfl|rfl|rfl
   . simp only[uy,jV,if_neg h2,hx,E2,hf,ht,if_pos ad]
   . simp only[uy,jV,if_neg h2,hx,E2,hf,ht,if_pos ad,low 0 aa aa,ne_eq,not_true_eq_false,if_false]
   . simp only[uy,jV,if_neg h2,hx,E2,hf,ht,if_pos ad,low 0 aa aa,low 1 aa aa,ne_eq,not_true_eq_false,if_false]
end
def mp(φ:Nat->Nat)(l:List (Nat×Nat)):List (Nat×Nat):=l.map λp=>(φ p.1,p.2)
def I9{φ:Nat->Nat}{D:Nat}(hi:∀n m,n<D->m<D->φ n=φ m->n=m):∀(l:List (Nat×Nat)) (n:Nat),n<D->(∀p∈l,p.1<D)->bj (mp φ l) (φ n)=bj l n
 |[],_,_,_=>rfl
 |(k,v)::r,n,hn,hl=>by
  have hk:=hl (k,v) aw;simp only[mp,yB,bj];by_cases e:n=k
  . subst e;simp
  . rw[if_neg e,if_neg λe'=>e (hi _ _ hn hk e')];exact I9 hi r n hn λp hp=>hl p (Xy _ hp)
def Ja{φ:Nat->Nat}{D:Nat}(hi:∀n m,n<D->m<D->φ n=φ m->n=m)(v:Nat):∀(l:List (Nat×Nat)) (n:Nat),n<D->(∀p∈l,p.1<D)->put (mp φ l) (φ n) v=mp φ (put l n v)
 |[],_,_,_=>rfl
 |(k,w)::r,n,hn,hl=>by
  have hk:=hl (k,w) aw;simp only[mp,yB,put];by_cases e:n=k
  . subst e;simp
  . rw[if_neg e,if_neg λe'=>e (hi _ _ hn hk e')];simp only[yB];congr 1;exact Ja hi v r n hn λp hp=>hl p (Xy _ hp)
def Jb{D:Nat}{v:Nat}:∀(l:List (Nat×Nat)) (n:Nat),n<D->(∀p∈l,p.1<D)->∀p∈put l n v,p.1<D
 |[],n,hn,_,p,hp=>by
  simp only[put,afB]at hp;subst hp;exact hn
 |(k,w)::r,n,hn,hl,p,hp=>by
  simp only[put]at hp
  split at hp
  . rcases FQ.1 hp with rfl|hp
    . exact hn
    . exact hl p (Xy _ hp)
  . rcases FQ.1 hp with rfl|hp
    . exact hl _ aw
    . exact Jb r n hn (λp hp=>hl p (Xy _ hp)) p hp
def C4{node ab:Nat->Option Br}{φ:Nat->Nat}{D:Nat}(hi:∀n m,n<D->m<D->φ n=φ m->n=m)(hs:∀n,n<D->ab (φ n)=(node n).map λx=>(x.1,φ x.2.1,φ x.2.2))(hd:∀n x,n<D->node n=some x->x.2.1<D/\x.2.2<D):
 ∀(k n:Nat) (s:Seen),n<D->(∀p∈s.1,p.1<D)->gS ab k (φ n) (mp φ s.1,s.2)=((gS node k n s).1,(mp φ (gS node k n s).2.1,(gS node k n s).2.2))/\∀p∈(gS node k n s).2.1,p.1<D
 |0,_,_,_,hl=>⟨rfl,hl⟩
 |k+1,n,(seen,out),hn,hl=>by
  simp only[gS];rw[I9 hi seen n hn hl];cases bj seen n with
  |some m=>exact⟨rfl,hl⟩
  |none=>
   simp only;rw[hs n hn];cases hx:node n with
   |none=>exact⟨rfl,hl⟩
   |some x=>
    obtain⟨h1,h2⟩:=hd n x hn hx;obtain⟨a1,a2⟩:=C4 hi hs hd k x.2.1 (seen,out) h1 hl;obtain⟨b1,b2⟩:=C4 hi hs hd k x.2.2 (gS node k x.2.1 (seen,out)).2 h2 a2;simp only[E2];simp only at a1;rw[a1];simp only;rw[b1];simp only;exact⟨by rw[Ja hi _ _ _ hn b2],Jb _ _ hn b2⟩
def eT(c:Nat):Nat×Seen:=gS uy 4 c ([(0,0),(255,1)],[])
def abH{N:List Br}(h:eG N)(v3:∀x∈N,x.1<3){n:Nat}(hn:n<N.length+2):(lA N n).1=(eT (code (tb N n))).1/\(lA N n).2.2=(eT (code (tb N n))).2.2:=by
 obtain⟨h1,_⟩:=C4 (φ:=λn=>code (tb N n)) (λn m=>I8 h v3) (λn=>abG h v3) (λn x hn hx=>by
  have:=yT h n x hx;omega) 4 n ([(0,0),(1,1)],[]) hn (λp hp=>by
  simp only[FQ,afv,or_false]at hp;rcases hp with rfl|rfl<;>simp only<;>omega)
 have e0:code (tb N 0)=0:=by simp[ur,abf]
 have e1:code (tb N 1)=255:=by simp[ur,abg]
 simp only[mp,yB,List.map_nil,e0,e1]at h1;unfold eT lA;rw[h1];exact⟨rfl,rfl⟩
end Go.Sp
end
noncomputable section
open Go Go.aD Go.Proofs
namespace Go.Sp
def C5(c:Nat):Bool:=
 let d:=eT c
 let N:=d.2.2
 decide (N.length<=20)&&decide (d.1<N.length+2)&&(N.zipIdx.all λp=>decide (p.1.1<3)&&decide (p.1.2.1<p.2+2)&&decide (p.1.2.2<p.2+2)&&decide (p.1.2.1≠p.1.2.2)&&decide (p.1.1<cm N p.1.2.1)&&decide (p.1.1<cm N p.1.2.2))&&
  decide N.Nodup&&(code (tb N d.1)).beq c
def abI:(KE 256).all C5=true:=ak
def abJ{c:Nat}(hc:c<256):C5 c=true:=afV.1 abI c (ab8.2 hc)
structure abK(c:Nat)(N:List Br)(r:Nat):Prop where
 len:N.length<=20
 rl:r<N.length+2
 ok:eG N
 v3:∀x∈N,x.1<3
 set:∀ρ,tb N r ρ=wu c ρ
def C6{c:Nat}(hc:c<256):abK c (eT c).2.2 (eT c).1:=by
 have h:=abJ hc;obtain⟨N,hN⟩:∃N,(eT c).2.2=N:=⟨_,rfl⟩;obtain⟨r,hr⟩:∃r,(eT c).1=r:=⟨_,rfl⟩;simp only[C5,hN,hr,afW,decide_eq_true_eq,afV]at h;obtain⟨⟨⟨⟨h1,h2⟩,h3⟩,h4⟩,h5⟩:=h;have ab:∀k x,N[k]? =some x->((((x.1<3/\x.2.1<k+2)/\x.2.2<k+2)/\x.2.1≠x.2.2)/\x.1<cm N x.2.1)/\x.1<cm N x.2.2:=λk x hx=>by
  have:=h3 (x,k) (List.mem_zipIdx_iff_getElem?.2 hx);simpa only[afW,decide_eq_true_eq]using this
 have ok:eG N:=⟨λk x hx=>by
  obtain⟨⟨⟨⟨⟨a1,a2⟩,a3⟩,a4⟩,a5⟩,a6⟩:=ab k x hx;exact⟨aa,a2,a3,a4,a5,a6⟩,h4⟩
 have v3:∀x∈N,x.1<3:=λx hx=>by
  obtain⟨k,hk⟩:=List.getElem?_of_mem hx;exact(ab k x hk).1.1.1.1.1
 rw[hN,hr];refine⟨h1,h2,ok,v3,λρ=> ?_⟩;rw[<-yV (yX ok v3 h2) ρ,Nat.eq_of_beq_eq_true h5]
abbrev acZ(n:Nat):DV:=.v (.int .u64 n)
def pl(w:Nat):List DV:=[.v (.int .u64 w),.v (.int .u64 0),.v (.int .u64 0),.v (.int .u64 0),.v (.int .u64 0),.v (.int .u64 0),.v (.int .u64 0),.v (.int .u64 0)]
structure cN where
 p:List bd
 first:Nat
 last:Nat
 follow:List Nat
 empty:Bool
def cN.e(m:cN):List DV:=[.sl 5 (m.p.map bd.e)]++pl m.first++pl m.last++[.sl 8 (m.follow.map pl),bV m.empty]
def ir:cN:=⟨ib,1,3,[2,2,0,0],false⟩
def zf:cN:=⟨qK,3,27,[24,24,0,24,24,0,0,0],false⟩
def Ds:cN:=⟨Cg,1,7,[6,6,6,0,0,0],false⟩
def nB:List bd:=[⟨1,97,122,0,0⟩,⟨1,48,57,0,0⟩,⟨4,0,0,1,0⟩,⟨2,0,0,0,2⟩,⟨1,43,43,0,0⟩,⟨2,0,0,3,4⟩]
def ow:cN:=⟨nB,1,16,[18,18,0,0,0,0],false⟩
def zg:List bd:=[⟨1,42,42,0,0⟩,⟨1,43,43,0,0⟩,⟨2,0,0,0,1⟩,⟨1,97,122,0,0⟩,⟨4,0,0,3,0⟩,⟨2,0,0,2,4⟩]
def Dt:cN:=⟨zg,1,10,[2,8,0,8,0,0],false⟩
def pP:List bd:=[⟨1,32,32,0,0⟩,⟨1,120,120,0,0⟩,⟨2,0,0,0,1⟩]
def Du:cN:=⟨pP,1,2,[2,0,0],false⟩
def ep:List cN:=[ir,zf,Ds,ow,Dt,Du]
def qV:∀m∈ep,aE E true 73 [.sl 5 (m.p.map bd.e)] (iV 0):=bR ak
def nC(w:Nat):Nat:=((KE 8).find? λi=>w.testBit i).getD 0
def ac0:∀w∈KE 255,aE E true 176 [acZ (w+1)] (iV (nC (w+1):Nat)):=bR ak
def ac1:∀p∈([(⟨#[91,97,45,122,93,91,97,45,122,93,42]⟩,ib),(⟨#[91,97,45,122,93,91,48,45,57,93,42,43]⟩,nB),(⟨#[92,120,50,97,43,91,97,45,122,93,42]⟩,zg),(⟨#[92,120,50,48,120]⟩,pP)]:List (ByteArray×List bd)),aE E true 14 [sV p.1] (.bp [.sl 5 (p.2.map bd.e),iV 0]):=bR ak
end Go.Sp
end

/- Parts of a proof. -/
import Derived.DataReads
import Derived.Test.YtniliiapkfpajaaGreatDoorK09
open List renaming getElem?_eq_getElem->oY,map_cons->Ey,mem_cons->Rb,range->Rm,mem_of_getElem?->WZ,mem_cons_of_mem->Yt,take_of_length_le->YN,mem_range->afc,length_map->afd,getElem?_append_left->aff,prefix_refl->afg,not_mem_nil->afh,flatMap_cons->afi,getElem?_eq_some_iff->afj,mem_map->afl,prefix_append->afm,mem_singleton->afn,take_add_one->afq,foldl_append->afs,foldl_cons->aft,foldl_nil->afu,length_append->afz,nodup_append->afE,zipIdx_cons->afG,mem_append->afH,all_eq_true->afI,getElem?_take->afK
open Nat renaming le_refl->yx,lt_or_ge->HT,lt_of_lt_of_le->Q0,zero_add->Xt,le_trans->afk,lt_succ_self->afp,strongRecOn->afC
open Option renaming map_some->Fj,bind_some->afe,toList_some->afr,map_none->afw,isSome_iff_exists->afx,getD_some->afF
open Bool renaming false_eq_true->UR,decide_and->afy,and_eq_true->afJ
open Prod.mk renaming injEq->adr
open Int renaming toNat_natCast->afo,natCast_add->afA,cast_ofNat_Int->afB
open List.cons renaming injEq->afv
open Option.some renaming inj->afD
open Std.Legacy.Range renaming forIn_eq_forIn_range'->afL,size->afM
set_option linter.all false
set_option maxRecDepth 100000
noncomputable section
open Go Go.aD Go.Proofs
namespace Go.Sp
def HU{N:Nat}:∀{r s:List (Nat×bJ)} {i:Nat} {o:bJ},(cA N (r++s)).get i=some o->(i,o)∈r\/(cA N s).get i=some o
 |[],s,i,o,h=>.inr h
 |(j,u)::r,s,i,o,h=>by
  rw[List.cons_append,vQ]at h
  split at h
  . rename_i hi;subst hi;cases h;exact .inl aw
  . rcases HU h with h|h
    . exact .inl (Yt _ h)
    . exact .inr h
def aB.YO{t:Tr DV}{n N:Nat}{dd:List FuncId}{h:ah}{ts:List (Nat×DV)}{r:List (Nat×bJ)}(l:List Nat){b:Nat}{cs cs':List DV}{wr:Bool}{ak:Nat}(hl:∀i∈l,(h.get i).isSome=true)(hN:h.next=N)(ht:iQ t ts)(hh:oX h r)
 (hr:∀p∈r,p.1∉l) (hb:h.get b=some (.row cs wr ak)) (bo:b∉l) (hz:de (rowsOf h l) cs cs'):aB ⟨t,n,dd,h⟩ ⟨bw ts,n,dd,cA N (r++[(b,.row cs' wr ak)])⟩:=by
 refine aB.of l hl (by rw[vR,hN]) (λi v hv=>⟨v,vS ht.mem i v hv,.refl v⟩) λi o ho=> ?_;rcases HU ho with h1|h1
 . exact⟨hr _ h1,.inl (hh.mem _ h1)⟩
 . rw[vQ]at h1
   split at h1
   . rename_i hi;subst hi;cases h1;exact⟨bo,.inr ⟨cs,cs',wr,ak,hb,rfl,hz⟩⟩
   . rw[yh]at h1;cases h1
def HV(md:List Int->Nat->Dg):Prop:=∀(l:List Int) (n:Nat),(∀b∈l,0<=b/\b<256)->n<=3->ay E true 58 [.sl 1 (l.map λb=>[uV b]),iV n] (.agg (md l n).e)
def HW(md:List Int->Nat->Dg):Prop:=∀(b:Int) (n:Nat),0<=b->b<256->n<=3->ay E true 178 [.agg (dg md b n).e,iV n] (bV true)
def MI(N M:Nat)(kb:Bool)(ab:Nat)(x:cK)(g:aj)(ts:List (Nat×DV))(d:DS):Prop:=∃P,(N+1<M/\M<P)/\d=⟨bw ([(1,.v (.pointer (some ⟨N,0,none⟩))),(2,.v (.pointer (some ⟨N+1,0,none⟩))),(3,bV kb),(4,.v (.pointer (some ⟨M,0,none⟩))),(5,iV ab)]++ts),99,[],cA P [(N,.row x.e true 0),(N+1,.row eX true 0),(M,.row g.e true 0)]⟩
set_option maxHeartbeats 8000000 in
def YP(hc:Cl)(md:List Int->Nat->Dg)(bd:HV md)(aW:HW md)(x:cK)(hx:x.Ok):ay E true 18 [.agg x.e] (.agg (ig md x).e):=by
 obtain⟨R,hR⟩:∃R,R=DV.agg (ig md x).e:=⟨_,rfl⟩;rw[<-hR];have hb:=hx.base;have hn:=hx.n;have hw:IntKind.u8.wrap (x.base%8)=x.base%8:=wrap_u8 aa aa;have aH:∀(b:Int) (n:Nat),0<=b->b<256->n<=3->ay E true 112 [uV b,iV n] (.agg (dg md b n).e):=λb n h0 h1 h2=>Yx hc md bd b n h0 h1 h2;obtain⟨g0,aS⟩:∃g0,jA x=g0:=⟨_,rfl⟩;obtain⟨kb,aV⟩:∃kb,decide (x.base%8<6)=kb:=⟨_,rfl⟩;obtain⟨ab,ao⟩:∃ab:Nat,(if kb then 6 else 10)=ab:=⟨_,rfl⟩;have bq:ab<=10:=by rw[<-ao];split<;>omega
 have af:=HP x hx;rw[aS]at af;refine Cp Tryz.ntmps18 Tryz.results18 λN=> ?_;refine n9 ?_;simp(disch:=omega)[go_sem,cK.e];refine n9 ?_;simp(disch:=omega)[go_sem,dw,hw,cK.e,aV];refine n9 ?_;simp(disch:=omega)[go_sem,dw,hw,cK.e];refine au.mk (Yw (x.base%8) (by simp;omega)) λM hM=> ?_;replace hM:=cr hM;simp(disch:=omega)[go_sem,aj.e,cK.e];refine n9 ?_;refine aL ?_;refine nc (MI N M kb ab x g0 []) ?_ ?_
 . refine aL ?_;cases kb with
   |false=>
    have hk:=of_decide_eq_false aV;have hq:IntKind.u8.wrap (x.n/4)=x.n/4:=wrap_u8 aa aa;have hr:IntKind.u8.wrap (x.n%4)=x.n%4:=wrap_u8 aa aa;obtain⟨n1,bf⟩:∃n1:Nat,1+x.n/4%3=n1:=⟨(1+x.n/4%3).toNat,aa⟩;obtain⟨n2,bk⟩:∃n2:Nat,x.n%4=n2:=⟨(x.n%4).toNat,aa⟩;have bs:IntKind.u8.wrap n2=n2:=wrap_u8 aa aa;have aJ:n1<=3:=aa;have aM:n2<=3:=aa;have he:g0.e=[.sl 1 ((n8.take n2).map λs=>[sV s]),.sl 3 ((bg true).nodes.map cB),iV (bg true).root,.sl 7 (aF.map Tok.e),strs (uj.take n1),.sl 13 [(bF ⟨#[102,105,114,115,116]⟩ 0 [⟨true,0⟩] (bg true)).e],iV 0,.sl 4 [],.sl 9 []]:=by
     rw[<-aS];simp only[jA,hk,if_false,bf,bk,afo];simp[aj.e]
    simp(disch:=omega)[go_sem,aj.e,cK.e,jY,dw,hq,hr,aG];refine Co (wr:=true) rfl (by simp(disch:=omega)[go_sem];try rfl) (.inl rfl) aa aa ?_;refine aL ?_;simp only[bf,afo];refine au.fz (Xx (uj.take n1)) [M+1] ?_ ?_ λM2 aX=> ?_
    . exact ai
    . exact .cons (HQ (ak:=0) aA aJ aJ (λ_=>rfl) (.inl rfl) (fq (wr:=true) aw (by simp(disch:=omega)[go_sem,uj]))) .nil
    replace aX:=cr aX;simp(disch:=omega)[go_sem,yk,cK.e,jY,dw,hr,bk,bs,aG];refine Co (wr:=true) rfl (by simp(disch:=omega)[go_sem];try rfl) (.inl rfl) aa aa ?_;simp(disch:=omega)[go_sem,yk];refine bH [jW 0,⟨.read,1,some (0,3),true⟩,aT 0,cN 4,aT 12,cN 28,aT 63,ae 127,aT 255] an 2 rfl ?_;refine aL ?_;refine au.mk (Gu 0) λM3=>cY λbE=> ?_;refine Xy ⟨#[102,105,114,115,116]⟩ 0 [⟨true,0⟩] (by simp(disch:=omega)[go_sem,Sym.e];try rfl) rfl (yx _) λM4 bl=> ?_;replace bl:=cr bl;simp(disch:=omega)[go_sem,jX,oU,bg,cK.e,Sym.e]
    repeat refine⟨aa, ?_⟩
    refine⟨_,aB.YO (r:=[(N,.row x.e true 0),(N+1,.row eX true 0)]) (cs':=g0.e) [M2,M4] (b:=M) ?_ (by simp(disch:=omega)[go_sem];try rfl) ?_ ?_ ?_ (by simp(disch:=omega)[go_sem];try rfl) ?_ ?_,_,⟨aa, ?_⟩,rfl⟩
    . intro i hi;simp only[Rb,afh,or_false]at hi;rcases hi with rfl|rfl<;>simp(disch:=omega)[go_sem]
    . simp(disch:=omega)[go_sem,<-ao]
    . simp(disch:=omega)[go_sem,cK.e,eX]
    . simp;omega
    . simp;omega
    . rw[he];exact .cons (HQ (ak:=0) aA aM aM (λ_=>rfl) (.inl rfl) (fq (wr:=true) aw (by simp(disch:=omega)[go_sem,n8]))) (.cons (.refl _) (.cons (.refl _) (.cons (.refl _) (.cons (.refl _) (.cons (dW (ak:=13) (fq (wr:=true) aw (by simp(disch:=omega)[go_sem,bF,aK.e,Sym.e,bg,iS])) (.inr rfl) aA rfl (yx _) (by simp[aK.e])) (.cons (.refl _) (.cons (.nil aA) (.cons (.nil aA) .nil))))))))
    . omega
   |true=>
    have hk:=of_decide_eq_true aV;have he:g0=ie (x.base%8):=by rw[<-aS];simp only[jA,hk,if_true]
    refine aL ?_;refine⟨_,aB.mk (N:=M+1) ai ?_ ?_,_,⟨aa,afp M⟩,rfl⟩
    . simp(disch:=omega)[go_sem,<-ao]
    . simp(disch:=omega)[go_sem,cK.e,eX,he,aj.e]
 . rintro d' ⟨P,⟨h1,h2⟩,rfl⟩;have bt:g0.conds.length<=3:=af.1.conds;refine n9 ?_;simp(disch:=omega)[go_sem,cK.e,aj.e];refine au.mk (bd x.family g0.conds.length hx.family bt) λM2=>aR λaX=> ?_;obtain⟨d,hd⟩:∃d,md x.family g0.conds.length=d:=⟨_,rfl⟩;rw[hd];have aO:iY md x g0=if 0<x.family.length/\d.root≠0 then{g0 with family:=d}else g0:=by simp only[iY,hd]
   simp(disch:=omega)[go_sem,Dg.e];refine nc (MI N M kb ab x (iY md x g0) []) ?_ ?_
   . by_cases hf:x.family=[]
     . simp(disch:=omega)[go_sem,cK.e,hf];refine⟨_,aB.mk (N:=M2+1) ai ai ?_,_,⟨aa,aa⟩,rfl⟩
       . simp(disch:=omega)[go_sem,cK.e,eX,aj.e,aO,hf]
     have bm:0<x.family.length:=List.length_pos_iff.2 hf;have bu:(0:Int)<x.family.length:=aa;by_cases hr:d.root=0
     all_goals
      simp(disch:=omega)[go_sem,Dg.e,cK.e,bm,bu,hr];refine⟨_,aB.mk (N:=M2+1) ai ai ?_,_,⟨aa,aa⟩,rfl⟩
      . simp(disch:=omega)[go_sem,cK.e,eX,aj.e,aO,bm,hr,Dg.e]
   . rintro d' ⟨P,⟨h3,h4⟩,rfl⟩;have bz:=eg.cO af.1 md x;obtain⟨G1,aY⟩:∃G1,(x.lines.take ab).foldl (λg l=>gm (dg md) g l kb) (iY md x g0)=G1:=⟨_,rfl⟩;refine nc (λd=>eg G1 0/\MI N M kb ab x G1 [] d) ?_ ?_
     . refine aL ?_;obtain⟨I,hI⟩:∃I:Nat->DS->Prop,∀j d,I j d↔∃(k:Nat) (g:aj),j+k=x.lines.length/\k<=ab/\eg g 0/\g.aq.length<=10+k/\g=(x.lines.take k).foldl (λg l=>gm (dg md) g l kb) (iY md x g0)/\MI N M kb ab x g [(7,iV k)] d:=⟨_,λ_ _=>Iff.rfl⟩;refine bM I x.lines.length ⟨_,aB.mk (N:=P) ai ?_ ?_,(hI _ _).2 ⟨0,iY md x g0,rfl,aa,bz.1,aa,rfl,P,⟨h3,h4⟩,rfl⟩⟩ ?_
       . simp[go_sem]
       . simp(disch:=omega)[go_sem,cK.e,eX,aj.e]
       . intro j ds aP;obtain⟨k,g,hj,bn,hgr,bG,ad,P,⟨-,hP⟩,rfl⟩:=(hI _ _).1 aP;clear aP;by_cases l1:k<x.lines.length
         . have av:(k:Int)<x.lines.length:=aa;obtain⟨l,hl⟩:∃l,x.lines[k]? =some l:=⟨_,oY l1⟩;by_cases l2:k<ab
           . have az:(k:Int)<ab:=aa;have aZ:=hx.lines l (WZ hl);simp(disch:=omega)[go_sem,cK.e,av,az,hl,-getElem?_pos];refine bH [aC 0,ae 0,aC 2,ae 0,ae 14,aC 30,ae 0,aT 127,aT 255] an 0 rfl ?_;simp(disch:=omega)[go_sem,cK.e,Ln.e,hl,aj.e,-getElem?_pos];have ba:=YG (dg md) aH g l kb aZ hgr.aI.1 hgr.aI.2 hgr.conds aa;refine au.mk ba λP2=>aR λbB=> ?_;generalize aE:gm (dg md) g l kb=gg at*;simp(disch:=omega)[go_sem,aj.e,aG];refine⟨j-1,aa,_,aB.mk (N:=P2) ai ?_ ?_,(hI _ _).2 ⟨k+1,gg,aa,aa,aE▸hgr.line .., ?_, ?_,P2,⟨h3,aa⟩,rfl⟩⟩
             . simp(disch:=omega)[go_sem,aG]
             . simp(disch:=omega)[go_sem,aj.e,cK.e,eX]
             . have:=YH (dg md) g l kb;rw[aE]at this;omega
             . rw[afq,hl,afr,afs,<-ad,aft,afu,aE]
           . have az:¬(k:Int)<ab:=aa;rw[show k=ab by omega,aY]at ad;simp(disch:=omega)[go_sem,cK.e,av,az,hl,-getElem?_pos];refine⟨_,aB.mk (N:=P) ai ai ?_,ad▸hgr,P,⟨h3,hP⟩,rfl⟩
             . simp(disch:=omega)[go_sem,cK.e,eX,aj.e,ad]
         . have av:¬(k:Int)<x.lines.length:=aa;rw[YN aa,<-YN (i:=ab) (l:=x.lines) aa,aY]at ad;simp(disch:=omega)[go_sem,cK.e,av,-getElem?_pos];refine⟨_,aB.mk (N:=P) ai ai ?_,ad▸hgr,P,⟨h3,hP⟩,rfl⟩
           . simp(disch:=omega)[go_sem,cK.e,eX,aj.e,ad]
     . rintro d' ⟨bb,P,⟨-,h5⟩,rfl⟩;obtain⟨G2,bc⟩:∃G2,(x.rules.take 6).foldl (jx (dg md)) G1=G2:=⟨_,rfl⟩;have bD:R=DV.agg G2.e:=by
        rw[hR,<-bc,<-aY];simp only[ig,aS,aV,ao]
       refine nc (MI N M kb ab x G2 []) ?_ ?_
       . refine aL ?_;obtain⟨J,hJ⟩:∃J:Nat->DS->Prop,∀j d,J j d↔∃(k:Nat) (g:aj),j+k=x.rules.length/\k<=6/\eg g k/\g=(x.rules.take k).foldl (jx (dg md)) G1/\MI N M kb ab x g [(8,iV k)] d:=⟨_,λ_ _=>Iff.rfl⟩;refine bM J x.rules.length ⟨_,aB.mk (N:=P) ai ?_ ?_,(hJ _ _).2 ⟨0,G1,rfl,aa,bb,rfl,P,⟨h3,h5⟩,rfl⟩⟩ ?_
         . simp[go_sem]
         . simp(disch:=omega)[go_sem,cK.e,eX,aj.e]
         . intro j ds aP;obtain⟨k,g,hj,bn,hgr,ad,P,⟨-,hP⟩,rfl⟩:=(hJ _ _).1 aP;clear aP;by_cases l1:k<x.rules.length
           . have av:(k:Int)<x.rules.length:=aa;obtain⟨l,hl⟩:∃l,x.rules[k]? =some l:=⟨_,oY l1⟩;by_cases l2:k<6
             . have az:(k:Int)<6:=aa;have aZ:=hx.rules l (WZ hl);simp(disch:=omega)[go_sem,cK.e,av,az,hl,-getElem?_pos];refine bH [aC 0,ae 0,aC 2,ae 0,ae 14,aC 30,aT 63,aT 127] an 0 rfl ?_;simp(disch:=omega)[go_sem,cK.e,Rl.e,hl,aj.e,-getElem?_pos];have ba:=YE (dg md) aH aW g (hgr.ok bn) l aZ;refine au.mk ba λP2=>aR λbB=> ?_;generalize aE:jx (dg md) g l=gg at*;simp(disch:=omega)[go_sem,aj.e,aG];refine⟨j-1,aa,_,aB.mk (N:=P2) ai ?_ ?_,(hJ _ _).2 ⟨k+1,gg,aa,aa,aE▸hgr.Cn .., ?_,P2,⟨h3,aa⟩,rfl⟩⟩
               . simp(disch:=omega)[go_sem,aG]
               . simp(disch:=omega)[go_sem,aj.e,cK.e,eX]
               . rw[afq,hl,afr,afs,<-ad,aft,afu,aE]
             . have az:¬(k:Int)<6:=aa;rw[show k=6 by omega,bc]at ad;simp(disch:=omega)[go_sem,cK.e,av,az,hl,-getElem?_pos];refine⟨_,aB.mk (N:=P) ai ai ?_,P,⟨h3,hP⟩,rfl⟩
               . simp(disch:=omega)[go_sem,cK.e,eX,aj.e,ad]
           . have av:¬(k:Int)<x.rules.length:=aa;rw[YN aa,<-YN (i:=6) (l:=x.rules) aa,bc]at ad;simp(disch:=omega)[go_sem,cK.e,av,-getElem?_pos];refine⟨_,aB.mk (N:=P) ai ai ?_,P,⟨h3,hP⟩,rfl⟩
             . simp(disch:=omega)[go_sem,cK.e,eX,aj.e,ad]
       . rintro d' ⟨P,⟨-,h6⟩,rfl⟩;refine j6 ?_;simp(disch:=omega)[go_sem,cK.e,aj.e,eX,bD]
end Go.Sp
end
noncomputable section
open Go Go.aD Go.Proofs
namespace Go.aD
variable {e:Env}
section
variable {κ ν:Type} [DecidableEq κ]
def fj(kf:κ->Value)(vf:ν->DV)(es:List bG)(l:List (κ×ν)):Prop:=es.map (λx=>(x.key,x.val))=l.map λp=>(kf p.1,vf p.2)
omit [DecidableEq κ]in
theorem fj.nil(kf:κ->Value)(vf:ν->DV):fj kf vf [] []:=rfl
def Cu{kt:TypeId}{kf:κ->Value}{vf:ν->DV}(hk:kq e kt kf):∀{es:List bG} {l:List (κ×ν)} (a:κ),fj kf vf es l->findD e.P kt (kf a) es=some ((bq l a).map vf)
 |[],[],a,_=>rfl
 |[],_::_,a,h=>by simp[fj]at h
 |_::_,[],a,h=>by simp[fj]at h
 |x::es,(k,v)::l,a,h=>by
  simp only[fj,Ey,afv,adr]at h;obtain⟨⟨h1,h2⟩,h3⟩:=h;simp only[findD,h1,hk.eq];by_cases e1:a=k
  . subst e1;simp only[decide_true,bq,if_true,h2,Fj]
  . simp only[e1,decide_false,bq,if_false];exact Cu hk a (show fj kf vf es l from h3)
def H8{kt:TypeId}{kf:κ->Value}{vf:ν->DV}(hk:kq e kt kf):∀{es:List bG} {l:List (κ×ν)} (a:κ) (i:Nat),fj kf vf es l->∃r,mS e.P kt (kf a) es i=some r/\
 (match bq l a with|none=>r=none|some _=>∃j,r=some (i+j)/\∃x,es[j]? =some x/\x.key=kf a/\∀w,fj kf vf (es.modify j λx=>{x with key:=kf a,val:=vf w}) (put l a w))
 |[],[],a,i,_=>⟨none,rfl,by simp[bq]⟩
 |[],_::_,a,i,h=>by simp[fj]at h
 |_::_,[],a,i,h=>by simp[fj]at h
 |x::es,(k,v)::l,a,i,h=>by
  simp only[fj,Ey,afv,adr]at h;obtain⟨⟨h1,h2⟩,h3⟩:=h;simp only[mS,h1,hk.eq];by_cases e1:a=k
  . subst e1;simp only[decide_true,bq,if_true];refine⟨_,rfl,0,rfl,x,rfl,h1,λw=> ?_⟩;simp only[fj,put,if_true,Ey,List.modify_cons,if_pos];exact congrArg _ h3
  . simp only[e1,decide_false,bq,if_false];obtain⟨r,h4,h5⟩:=H8 hk (vf:=vf) a (i+1) (show fj kf vf es l from h3);refine⟨r,h4, ?_⟩;cases ha:bq l a with
    |none=>simpa[ha]using h5
    |some v'=>
     simp only[ha]at h5⊢;obtain⟨j,h6,y,h7,h8,h9⟩:=h5;refine⟨j+1,by rw[h6];congr 1;omega,y,h7,h8,λw=> ?_⟩;have:=h9 w;simp only[fj]at this⊢;simp only[put,if_neg e1,Ey,List.modify_succ_cons,this,h1,h2]
def su{ty kt et:TypeId}{kf:κ->Value}{vf:ν->DV}(hk:kq e kt kf)(hu:e.under ty=some (.map kt et)){es:List bG}{l:List (κ×ν)}(hl:fj kf vf es l)(a:κ)(ok:Bool){v:ν}(hv:bq l a=some v):
 ly e ty ok (kf a) es=some (bif ok then .bf [vf v,.v (.bool true)]else vf v):=by
 obtain⟨kd,h1,h2⟩:=hk.kd;obtain⟨u,h3⟩:=hk.check a es.isEmpty;simp only[ly,hu,h1,Cu hk a hl,hv,Fj];rw[if_pos ⟨hk.plain a,h2 a,by rw[h3];rfl⟩]
def sv{ty kt et:TypeId}{kf:κ->Value}{vf:ν->DV}(hk:kq e kt kf)(hu:e.under ty=some (.map kt et)){es:List bG}{l:List (κ×ν)}(hl:fj kf vf es l)(a:κ)(ok:Bool){z:Value}(hz:e.zero et=some z)(hp:aD.plain z=true)(hv:bq l a=none):
 ly e ty ok (kf a) es=some (bif ok then .bf [fO z,.v (.bool false)]else fO z):=by
 obtain⟨kd,h1,h2⟩:=hk.kd;obtain⟨u,h3⟩:=hk.check a es.isEmpty;simp only[ly,hu,h1,Cu hk a hl,hv,afw,hz,hp,if_true];rw[if_pos ⟨hk.plain a,h2 a,by rw[h3];rfl⟩]
def pA{ty kt et:TypeId}{kf:κ->Value}{vf:ν->DV}(hk:kq e kt kf)(hu:e.under ty=some (.map kt et)){es:List bG}{l:List (κ×ν)}(hl:fj kf vf es l)(a:κ)(clock:Nat)(w:ν):
 ∃ab aa,ky e ty (kf a) (vf w) es clock=some (.map ab aa)/\fj kf vf ab (put l a w):=by
 obtain⟨kd,h1,h2⟩:=hk.kd;obtain⟨u,h3⟩:=hk.check a false;obtain⟨r,h4,h5⟩:=H8 hk (vf:=vf) a 0 hl;have hc:aD.plain (kf a)=true/\nu kd (kf a)=true/\(b8 e.P (Instr.checkKey false 10000 kt (kf a))).isSome=true:=⟨hk.plain a,h2 a,by rw[h3];rfl⟩;cases hv:bq l a with
 |none=>
  rw[hv]at h5;simp only at h5;subst h5;refine⟨es++[⟨kf a,vf w,clock⟩],clock+1, ?_, ?_⟩
  . simp only[ky,hu,h1,h4];rw[if_pos hc]
  . have:=hl;simp only[fj]at this⊢;rw[qh hv];simp[this]
 |some v=>
  rw[hv]at h5;obtain⟨j,rfl,x,h6,h7,h8⟩:=h5;have hb:Instr.sameBits 10000 (((es[0+j]?).map (·.key)).getD (kf a)) (kf a)=true:=by
   rw[Xt,h6];show Instr.sameBits 10000 x.key (kf a)=true;rw[h7];exact hk.bits a
  refine⟨es.modify (0+j) λx=>{x with key:=kf a,val:=vf w},clock, ?_, ?_⟩
  . simp only[ky,hu,h1,h4];rw[if_pos hc,if_pos hb]
  . rw[Xt];exact h8 w
end
def au.inl(he:e.Ok)(af:e.P.follows .mixedOrders=true)(ad:Idle e){ar:Bool}{f:FuncId}{fn:Func}{c:Code}{args:List DV}{K:b9}{dd:List FuncId}{h:ah}(ai:e.fn f=some fn)(hb:fn.body=some c){n:Nat}(hn:fn.ntmps=n){rs:List ResultVar}(aj:fn.results=rs.toArray)
 (hq:RD e ar c ⟨gD args,args.length+(n-args.length),[],h⟩ (ib e rs λd h'=>∀T,K d dd h' T)):au e ar K dd h (f,args):=by
 intro G ha vs x hr;have key:=cJ.body he af ad ai hb hn aj hq G ha vs x hr;have fin:∀v h',(∃d ae G',bP G' h' ae/\Kp G ha h G' h' ae/\Rel (aP h' G') v d/\∀T,K d dd ae T)->lF G ha h (λv h' T=>K v dd h' T) v h':=λv h' ⟨d,ae,G',r2,r3,r4,r5⟩=>
  ⟨d,ae,G',Rm ha.next,r2,r3,r4,λi hi hn=>absurd (afc.2 hi) hn,r5 _⟩
 cases ar with
 |true=>obtain⟨v,h',r1,r2⟩:=key;exact⟨v,h',r1,fin v h' r2⟩
 |false=>exact fm.mono key fin
end Go.aD
namespace Go.Sp
def fw{ar:Bool}{f:FuncId}{fn:Func}{c:Code}{args:List DV}{K:b9}{dd:List FuncId}{h:ah}{n:Nat}(hn:fn.ntmps=n){rs:List ResultVar}(aj:fn.results=rs.toArray)
 (hq:RD E ar c ⟨gD args,args.length+(n-args.length),[],h⟩ (ib E rs λd h'=>∀T,K d dd h' T)) (ai:E.fn f=some fn:=by kernel_rfl) (hb:fn.body=some c:=by rfl):au E ar K dd h (f,args):=au.inl (jj []) ko (qf []) ai hb hn aj hq
def yy(s:ByteArray):Value:=.string s
def u9:E.under 9=some .string:=an
def H9(a b:ByteArray):(a==b)=decide (a=b):=by
 have h:∀x y:ByteArray,(x==y)=true↔x=y:=λx y=>by
  obtain⟨x⟩:=x;obtain⟨y⟩:=y;show(x==y)=true↔_;simp
 rw[Bool.eq_iff_iff,h];simp
def Cv:kq E 9 yy:=by
 refine⟨⟨_,u9,λk=>rfl⟩,λk=>rfl,λk b=>⟨(),an⟩,λa b=> ?_,λk=>by simp[yy,Instr.sameBits,H9]⟩;simp only[kg,yy];congr 1;exact H9 a b
def Cw:E.under 339=some (.map 9 4):=an
def z4:E.zero 4=some (.bool false):=an
abbrev qD(es:List bG)(l:List (ByteArray×Unit)):Prop:=fj yy (λ_:Unit=>bV true) es l
def wj{ar:Bool}{K:b9}{dd:List FuncId}{h:ah}{b r ak:Nat}{wr:Bool}{es:List bG}{clock:Nat}{l:List (ByteArray×Unit)}{s:ByteArray}(hb:h.get b=some (.row [.v (.map (some r))] wr ak))(hm:h.get r=some (.map es clock))(hl:qD es l)(hs:bq l s=none)
 (hk:∀ab aa T,qD ab (put l s ())->K (bV true) dd (h.set r (some (.map ab aa))) T):au E ar K dd h (243,[sV s,.v (.pointer (some ⟨b,0,none⟩))]):=by
 refine fw Tryz.ntmps243 Tryz.results243 ?_;have h1:=sv Cv Cw hl s false z4 rfl hs;obtain⟨ab,aa,h2,h3⟩:=pA Cv Cw hl s clock ();simp(disch:=omega)[go_sem,hb];refine⟨bV false,by simp only[kS,exact,hm];exact h1, ?_⟩;simp(disch:=omega)[go_sem,hb];refine⟨(h.set r (some (.map ab aa)),r),by simp only[jn,exact,hm];exact congrArg (Option.map _) h2, ?_⟩;simp(disch:=omega)[go_sem,hb];intro T;exact hk ab aa T h3
end Go.Sp
end
noncomputable section
open Go Go.aD Go.Proofs
namespace Go.Sp
abbrev Br:Type:=Nat×Nat×Nat
def dH(x:Br):List Value:=[.int .i64 x.1,.int .i64 x.2.1,.int .i64 x.2.2]
def ck(ns:List Br)(n:Nat):Nat:=if n<2 then 64 else(ns[n-2]?.map (·.1)).getD 64
def side(ns:List Br)(n v:Nat)(hi:Bool):Nat:=if ck ns n=v then(ns[n-2]?.map λx=>if hi then x.2.2 else x.2.1).getD 0 else n
def aal(h:ab)(ns:Value)(r k:Int)(hk:k<2):bU E 208 [.agg #[ns,.int .i64 r],.int .i64 k] h (.int .i64 64) h:=by
 refine l9 Tryz.ntmps208 Tryz.results208 rfl ?_;simp[go_sem,hk]
def aam(h:ab)(b o len cap:Nat)(r k v:Int)(h2:2<=k)(hk:k<len+2)(hb:b<h.next)(hr:rd h b (o+(k-2).toNat*3)=some (.int .i64 v))(hlen:len<=10000):
 bU E 208 [.agg #[.slice (some ⟨b,o,none⟩) len cap,.int .i64 r],.int .i64 k] h (.int .i64 v) h:=by
 refine l9 Tryz.ntmps208 Tryz.results208 rfl ?_;have h1:¬k<2:=aa;simp(disch:=omega)[go_sem,h1,aG,tG,du,hr];exact(Sub.refl h).new _
def wq{h:ab}{sl:Value}{ns:List Br}(r:Int)(n:Nat)(hs:kp 3 h sl (ns.map dH))(hn:n<ns.length+2)(hlen:ns.length<=10000):bU E 208 [.agg #[sl,.int .i64 r],.int .i64 n] h (.int .i64 (ck ns n)) h:=by
 by_cases h2:n<2
 . have:=aal h sl r n aa;rwa[show ck ns n=64 by simp[ck,h2]]
 . obtain⟨x,hx⟩:∃x,ns[n-2]? =some x:=⟨_,oY aa⟩;obtain⟨b,o,c,rfl,hb,hj,hc⟩:=hs.at (j:=n-2) (x:=dH x) (by simp[hx]);have:=aam h b o (ns.map dH).length c r n x.1 aa (by simp;omega) hb (by rw[show((n:Int)-2).toNat=n-2 by omega];exact hc 0 _ rfl) (by simpa using hlen);rwa[show ck ns n=x.1 by simp[ck,h2,hx]]
def aan{h:ab}{sl:Value}{ns:List Br}(r:Int)(n v:Nat)(hs:kp 3 h sl (ns.map dH))(hn:n<ns.length+2)(hlen:ns.length<=10000)(hv:ck ns n≠v):
 bU E 270 [.agg #[sl,.int .i64 r],.int .i64 n,.int .i64 v] h (.tuple #[.int .i64 n,.int .i64 n]) h:=by
 refine l9 Tryz.ntmps270 Tryz.results270 rfl ?_;refine aL ?_;refine KC.mk (wq r n (hs.sub ((Sub.refl h).new _)) hn hlen) ?_;have ad:((ck ns n:Nat):Int)≠v:=aa;simp(disch:=omega)[go_sem,ad];exact(Sub.refl h).new _
def aao{h:ab}{sl:Value}{ns:List Br}(r:Int)(n v:Nat)(hs:kp 3 h sl (ns.map dH))(hn:n<ns.length+2)(hlen:ns.length<=10000)(h2:2<=n){x:Br}(hx:ns[n-2]? =some x)(hv:x.1=v):
 bU E 270 [.agg #[sl,.int .i64 r],.int .i64 n,.int .i64 v] h (.tuple #[.int .i64 x.2.1,.int .i64 x.2.2]) h:=by
 have hl:ck ns n=v:=by simp[ck,hx,hv];omega
 obtain⟨b,o,c,rfl,hb,hj,hc⟩:=hs.at (j:=n-2) (x:=dH x) (by simp[hx]);have c1:=hc 1 _ rfl;have c2:=hc 2 _ rfl;simp only[afd]at hj hs⊢;have e1:((n:Int)-2).toNat=n-2:=aa;refine l9 Tryz.ntmps270 Tryz.results270 rfl ?_;refine aL ?_;refine KC.mk (wq r n (hs.sub ((Sub.refl h).new _)) hn hlen) ?_;simp(disch:=omega)[go_sem,hl];refine kQ [bc 0,dP 1,bc 0,bc 4,bc 15,bc 31,dP 63,bc 0,dP 128,bc 0,bc 512,bc 1920,bc 3968,dP 8064,bc 127,bc 32767] an 0 rfl ?_;simp(disch:=omega)[go_sem,aG,tG,du,e1,c1,c2];exact(Sub.refl h).new _
def CA{h:ab}{sl:Value}{ns:List Br}(r:Int)(n v:Nat)(hs:kp 3 h sl (ns.map dH))(hn:n<ns.length+2)(hlen:ns.length<=10000)(hv:v<64):
 bU E 270 [.agg #[sl,.int .i64 r],.int .i64 n,.int .i64 v] h (.tuple #[.int .i64 (side ns n v false),.int .i64 (side ns n v true)]) h:=by
 by_cases hl:ck ns n=v
 . have h2:2<=n:=by
    rcases HT n 2 with h2|h2
    . simp[ck,h2]at hl;omega
    . exact h2
   obtain⟨x,hx⟩:∃x,ns[n-2]? =some x:=⟨_,oY aa⟩;have h3:¬n<2:=aa;have:=aao r n v hs hn hlen h2 hx (by simpa[ck,h3,hx]using hl);simpa[side,hl,hx]using this
 . have:=aan r n v hs hn hlen hl;simpa[side,hl]using this
def lQ(P:Program){α β:Type}(s:Sem α)(k:α->Sem β):b8 P (s>>=k)=(b8 P s).bind λa=>b8 P (k a):=by
 induction s with
 |pure a=>rfl
 |program k' ih=>exact ih P
 |_=>rfl
def uk(P:Program)(t:TypeId){d:TypeDesc}(h:P.underlying t=some d):b8 P (underlying t)=some d:=by
 simp only[underlying,lQ];show b8 P (match P.underlying t with|some d=>pure d|none=>stuck "no such type" :Sem TypeDesc)=some d;rw[h];rfl
theorem sx(P:Program):b8 P program=some P:=rfl
theorem qF(P:Program){α:Type}(a:α):b8 P (pure a)=some a:=rfl
def eq_int(d:Nat)(t:TypeId)(k:IntKind)(a b:Int)(h:Tryz.prog.underlying t=some (.int k)):b8 Tryz.prog (Op.equalIn (d+1) t (.int .i64 a) (.int .i64 b))=some (a==b):=by
 rw[Op.equalIn];simp only[lQ,uk _ _ h,afe];rfl
def aap:b8 Tryz.prog (isAgg 3)=some false:=an
def Ii:b8 Tryz.prog (sizeOf 3)=some 1:=an
def yB(cs:Array Value)(o:Nat):b8 Tryz.prog (part 3 cs o)=cs[o]? :=by
 unfold part;simp only[lQ,aap,afe,UR,if_false];cases cs[o]? <;>rfl
def aaq(d:Nat)(a b c a' b' c':Int):b8 Tryz.prog (Op.equalIn (d+1+1) 247 (.agg #[.int .i64 a,.int .i64 b,.int .i64 c]) (.agg #[.int .i64 a',.int .i64 b',.int .i64 c']))=some (decide (a=a')&&(decide (b=b')&&decide (c=c'))):=by
 have hs:Tryz.prog.stoodInHeld 247=false:=an;rw[Op.equalIn];have e0:=eq_int d 3 .i64 a a' Tryz.underlying3;have e1:=eq_int d 3 .i64 b b' Tryz.underlying3;have e2:=eq_int d 3 .i64 c c' Tryz.underlying3;by_cases h1:a=a'<;>by_cases h2:b=b'<;>by_cases h3:c=c'<;>
  simp[h1,h2,h3,lQ,uk _ _ Tryz.underlying247,sx,hs,qF,yB,eq_int d 3 .i64 _ _ Tryz.underlying3]
def aar(d:Nat)(a b c a' b' c':Int):b8 Tryz.prog (Op.equalIn (d+1+1) 368 (.agg #[.int .i64 a,.int .i64 b,.int .i64 c]) (.agg #[.int .i64 a',.int .i64 b',.int .i64 c']))=some (decide (a=a')&&(decide (b=b')&&decide (c=c'))):=by
 rw[Op.equalIn];by_cases h1:a=a'<;>by_cases h2:b=b'<;>by_cases h3:c=c'<;>
  simp[h1,h2,h3,lQ,uk _ _ Tryz.underlying368,sx,qF,yB,Ii,eq_int d 3 .i64 _ _ Tryz.underlying3,List.range',afL,afM]
def yC:∃d,Op.maxDepth=d+1+1:=⟨9998,rfl⟩
def Ij(a b c a' b' c':Int):b8 Tryz.prog (Op.equal 247 (.agg #[.int .i64 a,.int .i64 b,.int .i64 c]) (.agg #[.int .i64 a',.int .i64 b',.int .i64 c']))=some (decide (a=a')&&(decide (b=b')&&decide (c=c'))):=by
 obtain⟨d,hd⟩:=yC;unfold Op.equal;rw[hd];exact aaq d a b c a' b' c'
def aas(a b c a' b' c':Int):b8 Tryz.prog (Op.equal 368 (.agg #[.int .i64 a,.int .i64 b,.int .i64 c]) (.agg #[.int .i64 a',.int .i64 b',.int .i64 c']))=some (decide (a=a')&&(decide (b=b')&&decide (c=c'))):=by
 obtain⟨d,hd⟩:=yC;unfold Op.equal;rw[hd];exact aar d a b c a' b' c'
def aat:∃fs,E.under 247=some (.struct fs):=by
 have h:(E.under 247).isSome=true:=an;obtain⟨d,hd⟩:=afx.1 h;have:=(jj []).under 247 d hd;rw[show(vy []).P=Tryz.prog from rfl,Tryz.underlying247]at this;cases this;exact⟨_,hd⟩
def yD(x y:Nat):decide ((x:Int)=(y:Int))=decide (x=y):=decide_eq_decide.2 Int.ofNat_inj
def aau:E.under 368=some (.array 3 3):=an
def u3:E.under 3=some (.int .i64):=an
def CB:E.under 312=some (.map 247 3):=an
def CC:E.under 366=some (.map 368 3):=an
def pC(x:Br):Value:=.agg #[.int .i64 x.1,.int .i64 x.2.1,.int .i64 x.2.2]
def oa(x:Nat×Nat×Nat):Value:=.agg #[.int .i64 x.1,.int .i64 x.2.1,.int .i64 x.2.2]
def ij(n:Nat):Value:=.int .i64 n
def CD:kq E 247 pC:=by
 refine⟨?_,λk=>rfl,λk b=>⟨(),an⟩,λa b=> ?_,λk=>by simp[pC,Instr.sameBits]⟩
 . obtain⟨fs,h⟩:=aat;exact⟨_,h,λk=>rfl⟩
 . obtain⟨a1,a2,a3⟩:=a;obtain⟨b1,b2,b3⟩:=b;show b8 Tryz.prog (Op.equal 247 (pC _) (pC _))=_;rw[pC,pC,Ij];congr 1;simp only[yD,adr,afy]
def CE:kq E 368 oa:=by
 refine⟨⟨_,aau,λk=>rfl⟩,λk=>rfl,λk b=>⟨(),an⟩,λa b=> ?_,λk=>by simp[oa,Instr.sameBits]⟩;obtain⟨a1,a2,a3⟩:=a;obtain⟨b1,b2,b3⟩:=b;show b8 Tryz.prog (Op.equal 368 (oa _) (oa _))=_;rw[oa,oa,aas];congr 1;simp only[yD,adr,afy]
def um:kq E 3 ij:=by
 refine⟨⟨_,u3,λk=>rfl⟩,λk=>rfl,λk b=>⟨(),an⟩,λa b=> ?_,λk=>by simp[ij,Instr.sameBits]⟩;simp only[kg,ij,decide_true,cond_true];congr 1;exact yD a b
def aav(d:Nat)(t:TypeId)(a b:Bool)(h:Tryz.prog.underlying t=some .bool):b8 Tryz.prog (Op.equalIn (d+1) t (.bool a) (.bool b))=some (a==b):=by
 rw[Op.equalIn];simp only[lQ,uk _ _ h,afe];rfl
def aaw:b8 Tryz.prog (isAgg 4)=some false:=an
def aax(cs:Array Value)(o:Nat):b8 Tryz.prog (part 4 cs o)=cs[o]? :=by
 unfold part;simp only[lQ,aaw,afe,UR,if_false];cases cs[o]? <;>rfl
def aay(d:Nat)(a a':Bool)(i i':Int):b8 Tryz.prog (Op.equalIn (d+1+1) 136 (.agg #[.bool a,.int .i64 i]) (.agg #[.bool a',.int .i64 i']))=some (decide (a=a')&&decide (i=i')):=by
 have hs:Tryz.prog.stoodInHeld 136=false:=an;rw[Op.equalIn];by_cases h1:a=a'<;>by_cases h2:i=i'<;>
  simp[h1,h2,lQ,uk _ _ Tryz.underlying136,sx,hs,qF,yB,aax,eq_int d 3 .i64 _ _ Tryz.underlying3,aav d 4 _ _ Tryz.underlying4]
def Ik(a a':Bool)(i i':Int):b8 Tryz.prog (Op.equal 136 (.agg #[.bool a,.int .i64 i]) (.agg #[.bool a',.int .i64 i']))=some (decide (a=a')&&decide (i=i')):=by
 obtain⟨d,hd⟩:=yC;unfold Op.equal;rw[hd];exact aay d a a' i i'
def aaz(o p:Operand)(a a':Bool)(i i':Int):cL E .eql 136 o p (.agg #[.bool a,.int .i64 i]) (.agg #[.bool a',.int .i64 i'])=some (.bool (decide (a=a')&&decide (i=i'))):=by
 have hg:Tryz.prog.eqGuardType Tryz.prog.depth 136=false:=an;show eI Tryz.prog _=_;simp[eI,eqGuard,binOp,lQ,sx,qF,hg,Ik,-bind_pure_comp];rfl
def Il(o p:Operand)(a a':Bool)(i i':Int):iC E .eql 136 o p (.agg [.v (.bool a),.v (.int .i64 i)]) (.agg [.v (.bool a'),.v (.int .i64 i')])=some (.v (.bool (decide (a=a')&&decide (i=i')))):=by
 show(cL E .eql 136 o p (.agg #[.bool a,.int .i64 i]) (.agg #[.bool a',.int .i64 i'])).map DV.v=_;rw[aaz];rfl
def aaA(x y:Operand):iC E BinOp.neq 85 x y (.agg [bV false,iV 0,iV 0,iV 0,iV 0]) (.agg [.v (.bool false),.v (.int .i64 0),.v (.int .i64 0),.v (.int .i64 0),.v (.int .i64 0)])=some (bV false):=an
def yG:xQ E 31 3 24:=by
 have h:(E.under 31).isSome=true:=an;obtain⟨d,hd⟩:=afx.1 h;have:=(jj []).under 31 d hd;rw[show(vy []).P=Tryz.prog from rfl,Tryz.underlying31]at this;cases this;exact⟨⟨247,_,hd,an,Gb,an,rfl⟩,aA⟩
def KN(N:List Br):List (Br×Nat):=N.zipIdx.map λp=>(p.1,p.2+2)
def aaI(N:List Br)(x:Br):KN (N++[x])=KN N++[(x,N.length+2)]:=by
 simp[KN,List.zipIdx_append]
def look(N:List Br)(x:Br):Option Nat:=bq (KN N) x
structure gX(h:ab)(B M i:Nat)(N:List Br):Prop where
 bh:∃sl,h.get B=some (.row [sl,.map (some M)] true 0)/\((N=[]/\sl=.slice none 0 0)\/(N≠[]/\sl=.slice (some ⟨i,0,none⟩) N.length N.length/\h.get i=some (.row (N.flatMap dH) true 3)/\i<h.next/\i≠B/\i≠M))
 map:∃es clock,h.get M=some (.map es clock)/\jN pC ij es (KN N)
 ne:B≠M
 lt:B<h.next/\M<h.next
structure CK(B M i:Nat)(h g:ab):Prop where
 next:h.next<=g.next
 get:∀j o,j<h.next->j≠B->j≠M->j≠i->h.get j=some o->g.get j=some o
def IB(N:List Br):(N.flatMap dH).length=N.length*3:=by
 induction N with
 |nil=>rfl
 |cons x r ih=>simp only[afi,afz,ih,List.length_cons,dH,List.length_nil];omega
def aaJ(h:ab)(B:Nat)(v l:Int):bU E 271 [.pointer (some ⟨B,0,none⟩),.int .i64 v,.int .i64 l,.int .i64 l] h (.int .i64 l) h:=by
 refine l9 Tryz.ntmps271 Tryz.results271 rfl ?_;simp[go_sem]
def aaK{h:ab}{B M i:Nat}{N:List Br}(hb:gX h B M i N){v l u n:Nat}(az:l≠u)(hk:look N (v,l,u)=some n):
 bU E 271 [.pointer (some ⟨B,0,none⟩),.int .i64 v,.int .i64 l,.int .i64 u] h (.int .i64 n) h:=by
 obtain⟨sl,hB,_⟩:=hb.bh;obtain⟨es,clock,hM,aj⟩:=hb.map;have ae:=xP CD CB aj (v,l,u) true clock hk;simp only[pC,ij,cond_true]at ae;have af:¬(l:Int)=u:=aa;obtain⟨aC,aE⟩:=hb.lt;have r1:rd h B 1=some (.map (some M)):=c8 (o:=1) hB;refine l9 Tryz.ntmps271 Tryz.results271 rfl ?_;simp(disch:=omega)[go_sem,af];refine kQ [bc 0,bc 1,bc 3,dP 7,dP 0,dP 31,bc 63,bc 127,bc 127,bc 255,bc 1023] an 0 rfl ?_;simp(disch:=first|omega|(simp only[ab.bb,ab.aW,bS];omega)) [go_sem,du,eh,bO,bE,r1,hM,ae];exact((Sub.refl h).new _).set (yx _) _
def aaL(h:ab)(B M i:Nat)(N:List Br)(x:Br)(v:Value)(g:ab):Prop:=v=.int .i64 (N.length+2:Nat)/\∃i',gX g B M i' (N++[x])/\CK B M i h g/\h.next<=i'
def aaM{h:ab}{B M i:Nat}{N:List Br}(hb:gX h B M i N){v l u:Nat}(az:l≠u)(hk:look N (v,l,u)=none)(hN:N.length<=10000):
 ∃H' i',bU E 271 [.pointer (some ⟨B,0,none⟩),.int .i64 v,.int .i64 l,.int .i64 u] h (.int .i64 (N.length+2:Nat)) H'/\gX H' B M i' (N++[(v,l,u)])/\CK B M i h H'/\h.next<=i':=by
 suffices hs:∃v' H',bU E 271 [.pointer (some ⟨B,0,none⟩),.int .i64 v,.int .i64 l,.int .i64 u] h v' H'/\aaL h B M i N (v,l,u) v' H' by
  obtain⟨v',H',h1,rfl,i',h2⟩:=hs;exact⟨H',i',h1,h2⟩
 obtain⟨sl,hB,aH⟩:=hb.bh;obtain⟨es,clock,hM,aj⟩:=hb.map;have ae:=AI CD CB aj (v,l,u) true clock tP rfl hk;obtain⟨ao,ad,ai,ah⟩:=vz CD (vf:=ij) CB aj (v,l,u) clock (N.length+2);rw[qh hk,<-aaI]at ah;have hw:IntKind.i64.wrap ((N.length:Int)+1+1)=(N.length:Int)+2:=aG aa aa;simp only[pC,ij,cond_true,afA,afB]at ae ai;have af:¬(l:Int)=u:=aa;obtain⟨aC,aE⟩:=hb.lt;have av:=hb.ne;have r1:rd h B 1=some (.map (some M)):=c8 (o:=1) hB;have r0:rd h B 0=some sl:=c8 (o:=0) hB;rcases aH with⟨rfl,rfl⟩|⟨aJ,rfl,hi,aK,dS,oi⟩
 . refine run Tryz.ntmps271 Tryz.results271 ?_;simp(disch:=omega)[go_sem,af];refine kQ [bc 0,bc 1,bc 3,dP 7,dP 0,dP 31,bc 63,bc 127,bc 127,bc 255,bc 1023] an 0 rfl ?_;simp(disch:=first|omega|(simp only[ab.bb,ab.aW,bS];omega)) [go_sem,du,eh,bO,bE,r1,hM,ae];refine kQ [bc 0,bc 0,bc 2,bc 6,dP 14,dP 0,AF 32,fN 126,bc 255,bc 511,fN 1023] an 1 rfl ?_;simp(disch:=first|omega|(simp only[ab.bb,ab.aW,bS];omega)) [go_sem,du,eh,bO,bE,r0,r1,hM,ae];rw[append_nil yG (xR (ey _ _ _) rfl) rfl aA aA];simp(disch:=first|omega|(simp only[ab.bb,ab.aW,bS];omega)) [go_sem,du,eh,bO,bE,hB,hM,ae];refine kQ [bc 0,bc 1,bc 3,dP 7,dP 0,bc 0,fN 63] an 0 rfl ?_;replace ai:nN E 312 (.agg #[.int .i64 v,.int .i64 l,.int .i64 u]) (.int .i64 2) es clock=some (.map ao ad):=ai;simp(disch:=first|omega|(simp only[ab.bb,ab.aW,bS];omega)) [go_sem,aG,du,eh,bO,bE,hB,hM,ae,ai];refine⟨rfl,h.next+1+1,⟨⟨_, ?_,.inr ⟨aw,rfl, ?_, ?_, ?_, ?_⟩⟩,⟨ao,ad, ?_,ah⟩,av, ?_, ?_⟩,⟨?_,λj o hj h1 h2 h3 ho=> ?_⟩, ?_⟩
   all_goals try simp(disch:=first|omega|(simp only[ab.bb,ab.aW,bS];omega)) [go_sem,dC,bO,bE,dH]
   all_goals first|omega|exact ho|(simp only[ab.cW,ab.bb,ab.aW,bS,if_true];done)|skip
 . refine run Tryz.ntmps271 Tryz.results271 ?_;simp(disch:=omega)[go_sem,af];refine kQ [bc 0,bc 1,bc 3,dP 7,dP 0,dP 31,bc 63,bc 127,bc 127,bc 255,bc 1023] an 0 rfl ?_;simp(disch:=first|omega|(simp only[ab.bb,ab.aW,bS];omega)) [go_sem,du,eh,bO,bE,r1,hM,ae];refine kQ [bc 0,bc 0,bc 2,bc 6,dP 14,dP 0,AF 32,fN 126,bc 255,bc 511,fN 1023] an 1 rfl ?_;simp(disch:=first|omega|(simp only[ab.bb,ab.aW,bS];omega)) [go_sem,du,eh,bO,bE,r0,r1,hM,ae,hi];rw[Fl yG (xR (ey _ _ _) rfl) rfl aA (i:=i) (cs:=N.flatMap dH) (by simp(disch:=first|omega|(simp only[ab.bb,ab.aW,bS];omega)) [go_sem,bO,bE,hi]) (IB N) (by rfl) aa];simp(disch:=first|omega|(simp only[ab.bb,ab.aW,bS];omega)) [go_sem,du,eh,bO,bE,hB,hM,ae];rw[show(N.length:Int)+2=N.length+1+1 by omega]at ai;refine kQ [bc 0,bc 1,bc 3,dP 7,dP 0,bc 0,fN 63] an 0 rfl ?_;simp(disch:=first|omega|(simp only[ab.bb,ab.aW,bS];omega)) [go_sem,aG,du,eh,bO,bE,hB,hM,ae,ai];refine⟨congrArg (Value.int .i64) aa,h.next+1+1,⟨⟨_, ?_,.inr ⟨aw,rfl, ?_, ?_, ?_, ?_⟩⟩,⟨ao,ad, ?_,ah⟩,av, ?_, ?_⟩,⟨?_,λj o hj h1 h2 h3 ho=> ?_⟩, ?_⟩
   all_goals try simp(disch:=first|omega|(simp only[ab.bb,ab.aW,bS];omega)) [go_sem,dC,bO,bE,dH]
   all_goals first|omega|exact ho|(simp only[ab.cW,ab.bb,ab.aW,bS,if_true];done)|skip
end Go.Sp
end
noncomputable section
namespace Go.Sp
abbrev dz:Type:=Nat->Bool
def c9(ρ:dz)(v:Nat)(b:Bool):dz:=λw=>if w=v then b else ρ w
def ng(N:List Br):Nat->Nat->dz->Bool
 |0,n,_=>n==1
 |f+1,n,ρ=>if n<2 then n==1 else match N[n-2]? with
  |none=>false
  |some (v,l,u)=>ng N f (if ρ v then u else l) ρ
def tb(N:List Br)(n:Nat)(ρ:dz):Bool:=ng N n n ρ
structure eC(N:List Br):Prop where
 ok:∀(k:Nat) x,N[k]? =some x->x.1<64/\x.2.1<k+2/\x.2.2<k+2/\x.2.1≠x.2.2/\x.1<ck N x.2.1/\x.1<ck N x.2.2
 nd:N.Nodup
def CL{N:List Br}(h:eC N):∀(f g n:Nat) (ρ:dz),n<=f->n<=g->ng N f n ρ=ng N g n ρ
 |0,g,n,ρ,hf,_=>by
  obtain rfl:n=0:=Nat.le_zero.1 hf;cases g<;>simp[ng]
 |f+1,0,n,ρ,_,hg=>by
  obtain rfl:n=0:=Nat.le_zero.1 hg;simp[ng]
 |f+1,g+1,n,ρ,hf,hg=>by
  simp only[ng]
  split
  . rfl
  . rename_i hn;cases hx:N[n-2]? with
    |none=>rfl
    |some x=>
     obtain⟨v,l,u⟩:=x;obtain⟨_,h1,h2,_⟩:=h.ok _ _ hx;simp only at h1 h2;simp only;apply CL h
     . split<;>omega
     . split<;>omega
theorem aaN(N:List Br)(ρ:dz):tb N 0 ρ=false:=rfl
theorem aaO(N:List Br)(ρ:dz):tb N 1 ρ=true:=rfl
def oc{N:List Br}{n:Nat}(hn:n<2)(ρ:dz):tb N n ρ=decide (n=1):=by
 match n,hn with
 |0,_=>rfl
 |1,_=>rfl
def kG{N:List Br}(h:eC N){n:Nat}(hn:2<=n){v l u:Nat}(hx:N[n-2]? =some (v,l,u))(ρ:dz):tb N n ρ=if ρ v then tb N u ρ else tb N l ρ:=by
 obtain⟨_,h1,h2,_⟩:=h.ok _ _ hx;simp only at h1 h2;unfold tb;obtain⟨m,rfl⟩:∃m,n=m+1:=⟨n-1,aa⟩;have ao:¬m+1<2:=aa;rw[ng,if_neg ao,hx];simp only
 split
 . exact CL h _ _ _ _ aa (yx _)
 . exact CL h _ _ _ _ aa (yx _)
def od{N:List Br}{n:Nat}(hn:n<2):ck N n=64:=by simp[ck,hn]
def lU{N:List Br}{n:Nat}(hn:2<=n){x:Br}(hx:N[n-2]? =some x):ck N n=x.1:=by
 have:¬n<2:=aa;simp[ck,this,hx]
def aaP{N:List Br}(h:eC N):∀(n:Nat) (ρ ae:dz),n<N.length+2->(∀w,ck N n<=w->ρ w=ae w)->tb N n ρ=tb N n ae:=by
 intro n
 induction n using afC with
 |_ n ih=>
  intro ρ ae hn ha;by_cases h2:n<2
  . rw[oc h2,oc h2]
  . obtain⟨⟨v,l,u⟩,hx⟩:∃x,N[n-2]? =some x:=⟨_,oY aa⟩;obtain⟨_,h3,h4,_,h5,h6⟩:=h.ok _ _ hx;simp only at h3 h4 h5 h6;have hl:ck N n=v:=lU aa hx;rw[kG h aa hx,kG h aa hx,ha v aa];rw[ih u aa ρ ae aa λw hw=>ha w aa,ih l aa ρ ae aa λw hw=>ha w aa]
def wu(ρ:dz)(v:Nat)(b:Bool):c9 ρ v b v=b:=by simp[c9]
def aaQ(ρ:dz){v w:Nat}(b:Bool)(h:w≠v):c9 ρ v b w=ρ w:=by simp[c9,h]
def iF{N:List Br}(h:eC N){n v:Nat}(hn:n<N.length+2)(hv:v<ck N n)(ρ:dz)(b:Bool):tb N n (c9 ρ v b)=tb N n ρ:=
 aaP h n _ _ hn λw hw=>aaQ ρ b aa
def CM{N:List Br}(h:eC N):∀(K n m:Nat),n<=K->m<=K->n<N.length+2->m<N.length+2->(∀ρ,tb N n ρ=tb N m ρ)->n=m:=by
 intro K
 induction K with
 |zero=>intro n m h1 h2 _ _ _;omega
 |succ K ih=>
  have key:∀n m,n<=K+1->m<=K+1->n<N.length+2->m<N.length+2->(∀ρ,tb N n ρ=tb N m ρ)->2<=n->ck N n<ck N m->False:=by
   intro n m hn hm ai af ht h2 ab;obtain⟨⟨v,l,u⟩,hx⟩:∃x,N[n-2]? =some x:=⟨_,oY aa⟩;obtain⟨_,h3,h4,ah,h5,h6⟩:=h.ok _ _ hx;simp only at h3 h4 h5 h6 ah;have hl:ck N n=v:=lU h2 hx;rw[hl]at ab;refine ah (ih l u aa aa aa aa λρ=> ?_);have e0:=ht (c9 ρ v false);have e1:=ht (c9 ρ v true);rw[kG h h2 hx,wu,iF h af ab]at e0 e1;simp only[UR,if_false,if_true]at e0 e1;rw[iF h aa h5]at e0;rw[iF h aa h6]at e1;rw[e0,e1]
  intro n m hn hm ai af ht;rcases Nat.lt_trichotomy (ck N n) (ck N m)with ab|heq|bB
  . by_cases h2:n<2
    . rw[od h2]at ab;by_cases h3:m<2
      . rw[od h3]at ab;omega
      . obtain⟨x,hx⟩:∃x,N[m-2]? =some x:=⟨_,oY aa⟩;have:=(h.ok _ _ hx).1;rw[lU aa hx]at ab;omega
    . exact(key n m hn hm ai af ht aa ab).elim
  . by_cases h2:n<2
    . by_cases h3:m<2
      . have:=ht (λ_=>false);rw[oc h2,oc h3]at this;have:(n=1)↔(m=1):=by simpa using this
        omega
      . obtain⟨x,hx⟩:∃x,N[m-2]? =some x:=⟨_,oY aa⟩;have:=(h.ok _ _ hx).1;rw[od h2,lU aa hx]at heq;omega
    . by_cases h3:m<2
      . obtain⟨x,hx⟩:∃x,N[n-2]? =some x:=⟨_,oY aa⟩;have:=(h.ok _ _ hx).1;rw[od h3,lU aa hx]at heq;omega
      . obtain⟨⟨v,l,u⟩,hx⟩:∃x,N[n-2]? =some x:=⟨_,oY aa⟩;obtain⟨⟨v',l',u'⟩,ad⟩:∃x,N[m-2]? =some x:=⟨_,oY aa⟩;obtain⟨_,a1,a2,_,a3,a4⟩:=h.ok _ _ hx;obtain⟨_,b1,b2,_,b3,b4⟩:=h.ok _ _ ad;simp only at a1 a2 a3 a4 b1 b2 b3 b4;rw[lU aa hx,lU aa ad]at heq;simp only at heq;subst heq;have el:l=l':=ih l l' aa aa aa aa λρ=>by
         have e0:=ht (c9 ρ v false);rw[kG h aa hx,kG h aa ad,wu]at e0;simp only[UR,if_false]at e0;rwa[iF h aa a3,iF h aa b3]at e0
        have eu:u=u':=ih u u' aa aa aa aa λρ=>by
         have e0:=ht (c9 ρ v true);rw[kG h aa hx,kG h aa ad,wu]at e0;simp only[if_true]at e0;rwa[iF h aa a4,iF h aa b4]at e0
        subst el;subst eu;have an:n-2<N.length:=aa;have dS:m-2<N.length:=aa;have:=(List.getElem_inj (i:=n-2) (j:=m-2) h.nd (h₀:=an) (h₁:=dS)).1 (by
         rw[oY an]at hx;rw[oY dS]at ad;rw[afD hx,afD ad])
        omega
  . by_cases h2:m<2
    . rw[od h2]at bB;by_cases h3:n<2
      . rw[od h3]at bB;omega
      . obtain⟨x,hx⟩:∃x,N[n-2]? =some x:=⟨_,oY aa⟩;have:=(h.ok _ _ hx).1;rw[lU aa hx]at bB;omega
    . exact(key m n hm hn af ai (λρ=>(ht ρ).symm) aa bB).elim
def yH{N:List Br}(x:Br){n:Nat}(hn:n<N.length+2):ck (N++[x]) n=ck N n:=by
 unfold ck
 split
 . rfl
 . rw[aff aa]
def IC{N N':List Br}(h:eC N)(hp:N<+:N'):∀(f n:Nat) (ρ:dz),n<N.length+2->ng N' f n ρ=ng N f n ρ
 |0,n,ρ,_=>rfl
 |f+1,n,ρ,hn=>by
  simp only[ng]
  split
  . rfl
  . obtain⟨r,rfl⟩:=hp;rw[aff aa];cases hx:N[n-2]? with
    |none=>rfl
    |some x=>
     obtain⟨v,l,u⟩:=x;obtain⟨_,h1,h2,_⟩:=h.ok _ _ hx;simp only at h1 h2;exact IC h ⟨r,rfl⟩ f _ ρ (by split<;>omega)
def yI{N N':List Br}(h:eC N)(hp:N<+:N'){n:Nat}(hn:n<N.length+2)(ρ:dz):tb N' n ρ=tb N n ρ:=IC h hp n n ρ hn
def eC.snoc{N:List Br}(h:eC N){v l u:Nat}(hv:v<64)(hl:l<N.length+2)(hu:u<N.length+2)(ah:l≠u)(h1:v<ck N l)(h2:v<ck N u)(aj:(v,l,u)∉N):eC (N++[(v,l,u)]):=by
 refine⟨λk x hx=> ?_, ?_⟩
 . rcases HT k N.length with hk|hk
   . rw[aff hk]at hx;obtain⟨a1,a2,a3,a4,a5,a6⟩:=h.ok k x hx;exact⟨a1,a2,a3,a4,by rwa[yH _ aa],by rwa[yH _ aa]⟩
   . have av:k=N.length:=by
      have:=(afj.1 hx).1;simp at this;omega
     subst av;simp at hx;subst hx;exact⟨hv,hl,hu,ah,by rwa[yH _ hl],by rwa[yH _ hu]⟩
 . rw[afE];exact⟨h.nd,aw,λa ha b hb=>by simp at hb;subst hb;exactλe=>aj (e▸ha)⟩
end Go.Sp
end
noncomputable section
open Go Go.aD Go.Proofs
namespace Go.Sp
def aaR(a b c:Int):nK E [.int .i64 a,.int .i64 b,.int .i64 c]=some (.int .i64 (min (min a b) c)):=by
 have h:nK E [.int .i64 a,.int .i64 b,.int .i64 c]=eI Tryz.prog (Builtin.min_ #[] 0 #[.int .i64 a,.int .i64 b,.int .i64 c]):=rfl;rw[h];unfold eI;have h2:b8 Tryz.prog (Builtin.min_ #[] 0 #[.int .i64 a,.int .i64 b,.int .i64 c])=some (.int .i64 (min (min a b) c)):=by
  simp[Builtin.min_,Builtin.min2,lQ,qF,Int.min_def]
  split<;>split<;>(try split)<;>omega
 rw[h2];rfl
def yJ{N:List Br}(h:eC N){n v:Nat}(hn:n<N.length+2)(hv:v<64)(hd:∀(ρ:dz) w b,w<=v->tb N n (c9 ρ w b)=tb N n ρ):v<ck N n:=by
 by_cases h2:n<2
 . rw[od h2];exact hv
 . obtain⟨⟨w,l,u⟩,hx⟩:∃x,N[n-2]? =some x:=⟨_,oY aa⟩;obtain⟨_,h3,h4,ab,h5,h6⟩:=h.ok _ _ hx;simp only at h3 h4 h5 h6 ab;rw[lU aa hx];show v<w;rcases HT v w with h7|h7
   . exact h7
   . exfalso;refine ab (CM h n l u aa aa aa aa λρ=> ?_);have e0:=hd ρ w false h7;have e1:=hd ρ w true h7;rw[kG h aa hx,wu]at e0 e1;simp only[UR,if_false,if_true]at e0 e1;rw[iF h aa h5]at e0;rw[iF h aa h6]at e1;rw[e0,e1]
structure oe where
 sl:Value
 ns:List Br
 r:Nat
def oe.ok(h:ab)(d:oe):Prop:=kp 3 h d.sl (d.ns.map dH)/\eC d.ns/\(∀x∈d.ns,x.1<3)/\d.ns.length<=300
def oe.ok.sub{h g:ab}{d:oe}(hd:d.ok h)(a:Sub h g):d.ok g:=⟨hd.1.sub a,hd.2⟩
section
variable (b:Nat) (h0:ab) (d0 d1 d2:oe) (fo:Nat) (cap:List Value) (op:Bool->Bool->Bool->Bool)
structure yK:Prop where
 b:h0.next=b
 d0:d0.ok h0
 d1:d1.ok h0
 d2:d2.ok h0
 op:∀H,Sub h0 H->∀x y z,bU E fo ([.bool x,.bool y,.bool z]++cap) H (.bool (op x y z)) H
def uw:Value:=.func (.func 269) #[] #[.pointer (some ⟨b+1,0,none⟩),.pointer (some ⟨b+7,0,none⟩),.pointer (some ⟨b,0,none⟩),.pointer (some ⟨b+8,0,none⟩),.pointer (some ⟨b+5,0,none⟩)]
structure pD(H:ab)(i:Nat)(N:List Br)(L:List ((Nat×Nat×Nat)×Nat)):Prop where
 sub:Sub h0 H
 nx:b+9<=H.next
 lB:H.get b=some (.row [d0.sl,.int .i64 d0.r,d1.sl,.int .i64 d1.r,d2.sl,.int .i64 d2.r] true 0)
 CN:H.get (b+1)=some (.row [.func (.func fo) #[] cap.toArray] true 0)
 bC:H.get (b+5)=some (.row [.pointer (some ⟨b+4,0,none⟩)] true 0)
 nh:H.get (b+7)=some (.row [.map (some (b+6))] true 0)
 yL:H.get (b+8)=some (.row [uw b] true 0)
 wv:gX H (b+4) (b+3) i N
 ii:N≠[]->b+9<=i
 il:i<H.next
 j9:∃es clock,H.get (b+6)=some (.map es clock)/\jN oa ij es L
 jB:eC N
 v3:∀x∈N,x.1<3
 CO:∀x y z r,bq L (x,y,z)=some r->r<N.length+2/\∀ρ,tb N r ρ=op (tb d0.ns x ρ) (tb d1.ns y ρ) (tb d2.ns z ρ)
end
def CP(b:Nat)(h0:ab)(d0 d1 d2:oe)(fo:Nat)(cap:List Value)(op:Bool->Bool->Bool->Bool)(H:ab)(i:Nat)(N:List Br)(x y z:Nat)(v:Value)(H':ab):Prop:=
 ∃(r i':Nat) (N':List Br) (L':List ((Nat×Nat×Nat)×Nat)),v=.int .i64 r/\pD b h0 d0 d1 d2 fo cap op H' i' N' L'/\N<+:N'/\r<N'.length+2/\(∀ρ,tb N' r ρ=op (tb d0.ns x ρ) (tb d1.ns y ρ) (tb d2.ns z ρ))/\
  (H.next<=H'.next/\∀j o,j<H.next->j≠b+3->j≠b+4->j≠b+6->j≠i->H.get j=some o->H'.get j=some o)/\(i'=i\/H.next<=i')
def gX.sub{h g:ab}{B M i:Nat}{N:List Br}(hb:gX h B M i N)(a:Sub h g):gX g B M i N:=by
 obtain⟨⟨sl,h1,h2⟩,⟨es,cl,h3,h4⟩,h5,h6,h7⟩:=hb;refine⟨⟨sl,a.get _ _ h6 h1, ?_⟩,⟨es,cl,a.get _ _ h7 h3,h4⟩,h5,Q0 h6 a.next,Q0 h7 a.next⟩;rcases h2 with h2|⟨e1,e2,e3,e4,e5⟩
 . exact .inl h2
 . exact .inr ⟨e1,e2,a.get _ _ e4 e3,Q0 e4 a.next,e5⟩
def pD.mono{b:Nat}{h0:ab}{d0 d1 d2:oe}{fo:Nat}{cap:List Value}{op:Bool->Bool->Bool->Bool}{H G:ab}{i:Nat}{N:List Br}{L:List ((Nat×Nat×Nat)×Nat)}(I:pD b h0 d0 d1 d2 fo cap op H i N L)(a:Sub H G):pD b h0 d0 d1 d2 fo cap op G i N L:=by
 have hn:=I.nx;obtain⟨es,cl,h3,h4⟩:=I.j9;exact⟨I.sub.trans a,afk hn a.next,a.get _ _ aa I.lB,a.get _ _ aa I.CN,a.get _ _ aa I.bC,a.get _ _ aa I.nh,a.get _ _ aa I.yL,I.wv.sub a,I.ii,Q0 I.il a.next,
  ⟨es,cl,a.get _ _ aa h3,h4⟩,I.jB,I.v3,I.CO⟩
def mv(b:Nat):List Value:=[.pointer (some ⟨b+1,0,none⟩),.pointer (some ⟨b+7,0,none⟩),.pointer (some ⟨b,0,none⟩),.pointer (some ⟨b+8,0,none⟩),.pointer (some ⟨b+5,0,none⟩)]
section
variable {b:Nat} {h0:ab} {d0 d1 d2:oe} {fo:Nat} {cap:List Value} {op:Bool->Bool->Bool->Bool} {H:ab} {i:Nat} {N:List Br} {L:List ((Nat×Nat×Nat)×Nat)}
def aaS(S:yK b h0 d0 d1 d2 fo cap op)(I:pD b h0 d0 d1 d2 fo cap op H i N L){x y z:Nat}(hx:x<2)(hy:y<2)(hz:z<2):
 bU E 269 (.agg #[.int .i64 x,.int .i64 y,.int .i64 z]::mv b) H (.int .i64 (if op (decide (x=1)) (decide (y=1)) (decide (z=1))then 1 else 0:Nat)) H:=by
 have r1:rd H (b+1) 0=some (.func (.func fo) #[] cap.toArray):=c8 (o:=0) I.CN;have hn:=I.nx;have ae:(x:Int)<2:=aa;have af:(y:Int)<2:=aa;have ah:(z:Int)<2:=aa;refine l9 Tryz.ntmps269 Tryz.results269 rfl ?_;simp(disch:=omega)[go_sem,mv,dT,du,ae,af,ah,r1];have one:∀n:Nat,decide ((n:Int)=1)=decide (n=1):=λn=>decide_eq_decide.2 aa;rw[one,one,one];refine KC.mk (S.op _ (I.sub.new _) _ _ _) ?_;cases op (decide (x=1)) (decide (y=1)) (decide (z=1))with
 |true=>
  refine aL ?_;exact(Sub.refl H).new _
 |false=>
  refine aL ?_;exact(Sub.refl H).new _
def aaT(I:pD b h0 d0 d1 d2 fo cap op H i N L){x y z r:Nat}(hc:¬(x<2/\y<2/\z<2))(hk:bq L (x,y,z)=some r):
 bU E 269 (.agg #[.int .i64 x,.int .i64 y,.int .i64 z]::mv b) H (.int .i64 r) H:=by
 have r1:rd H (b+7) 0=some (.map (some (b+6))):=c8 (o:=0) I.nh;have hn:=I.nx;obtain⟨es,clock,hM,ai⟩:=I.j9;have ad:=xP CE CC ai (x,y,z) true clock hk;simp only[oa,ij,cond_true]at ad;refine l9 Tryz.ntmps269 Tryz.results269 rfl ?_;have fin:∀a o,Sub H ((H.new a).set H.next o):=λa o=>((Sub.refl H).new a).set (yx _) o;by_cases hx:(x:Int)<2
 . by_cases hy:(y:Int)<2
   . have hz:¬(z:Int)<2:=aa;simp(disch:=omega)[go_sem,mv,dT,du,bO,hx,hy,hz,r1,hM,ad];exact(Sub.refl H).new _
   . simp(disch:=omega)[go_sem,mv,dT,du,bO,hx,hy,r1,hM,ad];exact(Sub.refl H).new _
 . simp(disch:=omega)[go_sem,mv,dT,du,bO,hx,r1,hM,ad];exact(Sub.refl H).new _
end
end Go.Sp
end
noncomputable section
namespace Go.Sp
def CQ{N:List Br}(h:eC N){n v:Nat}(hn:n<N.length+2)(hv:v<64)(b:Bool):side N n v b<=n/\(ck N n=v->side N n v b<n):=by
 unfold side;by_cases hl:ck N n=v
 . rw[if_pos hl];have h2:2<=n:=by
    rcases HT n 2 with h2|h2
    . rw[od h2]at hl;omega
    . exact h2
   obtain⟨x,hx⟩:∃x,N[n-2]? =some x:=⟨_,oY aa⟩;obtain⟨_,h3,h4,_⟩:=h.ok _ _ hx;rw[hx];cases b<;>simp<;>omega
 . rw[if_neg hl];exact⟨yx _,λh=>absurd h hl⟩
def CT{N:List Br}(h:eC N){n v:Nat}(hn:n<N.length+2)(hv:v<64)(hle:v<=ck N n)(b:Bool)(ρ:dz):tb N (side N n v b) ρ=tb N n (c9 ρ v b):=by
 unfold side;by_cases hl:ck N n=v
 . rw[if_pos hl];have h2:2<=n:=by
    rcases HT n 2 with h2|h2
    . rw[od h2]at hl;omega
    . exact h2
   obtain⟨⟨w,l,u⟩,hx⟩:∃x,N[n-2]? =some x:=⟨_,oY aa⟩;obtain⟨_,h3,h4,_,h5,h6⟩:=h.ok _ _ hx;simp only at h3 h4 h5 h6;have hw:w=v:=by rw[lU h2 hx]at hl;exact hl
   subst hw;rw[kG h h2 hx,wu,hx];cases b
   . simp only[Fj,afF,UR,if_false];exact(iF h aa h5 ρ false).symm
   . simp only[Fj,afF,if_true];exact(iF h aa h6 ρ true).symm
 . rw[if_neg hl];exact(iF h hn aa ρ b).symm
def aaU(ρ:dz)(v:Nat):c9 ρ v (ρ v)=ρ:=by
 funext w
 unfold c9
 split
 . rename_i h;rw[h]
 . rfl
def aaV(ρ:dz)(v:Nat)(a b:Bool):c9 (c9 ρ v a) v b=c9 ρ v b:=by
 funext w
 unfold c9
 split<;>rfl
def aaW(ρ:dz){v w:Nat}(h:v≠w)(a b:Bool):c9 (c9 ρ v a) w b=c9 (c9 ρ w b) v a:=by
 funext u
 unfold c9
 split
 . rename_i h1;subst h1;rw[if_neg (λh2=>h h2.symm)]
 . rfl
def ID{N:List Br}{T:dz->Bool}{v r0 r1:Nat}(h0:∀ρ,tb N r0 ρ=T (c9 ρ v false))(h1:∀ρ,tb N r1 ρ=T (c9 ρ v true))(ρ:dz):T ρ=if ρ v then tb N r1 ρ else tb N r0 ρ:=by
 rw[h0,h1];have:=aaU ρ v;cases hv:ρ v
 . rw[hv]at this;simp[this]
 . rw[hv]at this;simp[this]
def IE{N:List Br}(h:eC N){T:dz->Bool}{v r:Nat}{b:Bool}(hr:r<N.length+2)(hv:v<64)(hT:∀ρ w c,w<v->T (c9 ρ w c)=T ρ)(h0:∀ρ,tb N r ρ=T (c9 ρ v b))(yJ:∀{n v:Nat},n<N.length+2->v<64->(∀(ρ:dz) w b,w<=v->tb N n (c9 ρ w b)=tb N n ρ)->v<ck N n):v<ck N r:=by
 refine yJ hr hv λρ w c hw=> ?_;rw[h0,h0];rcases HT w v with h1|h1
 . rw[aaW ρ aa,hT _ _ _ h1]
 . have:w=v:=aa;subst this;rw[aaV]
def yM:∀(k:Nat) (l:List Nat),l.Nodup->(∀x∈l,x<k)->l.length<=k
 |0,l,_,h=>by
  cases l with
  |nil=>simp
  |cons a r=>exact absurd (h a aw) aa
 |k+1,l,hn,h=>by
  have h1:=yM k (l.erase k) (hn.erase k) λx hx=>by
   have h2:=h x (List.mem_of_mem_erase hx);have h3:x≠k:=λe=>by
    subst e;exact(hn.not_mem_erase) hx
   omega
  have:l.length<=(l.erase k).length+1:=by
   rw[List.length_erase]
   split<;>omega
  omega
def bX(k:Nat):dz:=λv=>k.testBit v
def code(f:dz->Bool):Nat:=(Rm 8).foldl (λa k=>2*a+(if f (bX k)then 1 else 0)) 0
theorem ux(f:dz->Bool):code f=2*(2*(2*(2*(2*(2*(2*(2*0+(if f (bX 0)then 1 else 0))+(if f (bX 1)then 1 else 0))+(if f (bX 2)then 1 else 0))+(if f (bX 3)then 1 else 0))+(if f (bX 4)then 1 else 0))+(if f (bX 5)then 1 else 0))+(if f (bX 6)then 1 else 0))+(if f (bX 7)then 1 else 0):=rfl
def eD(b:Bool):(if b then 1 else 0:Nat)<=1:=by cases b<;>simp
def aaX(f:dz->Bool):code f<256:=by
 rw[ux];have:=eD (f (bX 0));have:=eD (f (bX 1));have:=eD (f (bX 2));have:=eD (f (bX 3));have:=eD (f (bX 4));have:=eD (f (bX 5));have:=eD (f (bX 6));have:=eD (f (bX 7));omega
def aaY{a b:Bool}(h:(if a then 1 else 0:Nat)=if b then 1 else 0):a=b:=by cases a<;>cases b<;>simp at h⊢
def aaZ{f g:dz->Bool}(h:code f=code g):∀k,k<8->f (bX k)=g (bX k):=by
 rw[ux,ux]at h;have a0:=eD (f (bX 0));have a1:=eD (f (bX 1));have a2:=eD (f (bX 2));have a3:=eD (f (bX 3));have a4:=eD (f (bX 4));have a5:=eD (f (bX 5));have a6:=eD (f (bX 6));have a7:=eD (f (bX 7));have b0:=eD (g (bX 0));have b1:=eD (g (bX 1));have b2:=eD (g (bX 2));have b3:=eD (g (bX 3));have b4:=eD (g (bX 4));have b5:=eD (g (bX 5));have b6:=eD (g (bX 6));have b7:=eD (g (bX 7));intro k hk;have:k=0\/k=1\/k=2\/k=3\/k=4\/k=5\/k=6\/k=7:=aa;rcases this with rfl|rfl|rfl|rfl|rfl|rfl|rfl|rfl<;>exact aaY aa
def aa0(ρ:dz):∃k,k<8/\∀v,v<3->bX k v=ρ v:=by
 refine⟨(if ρ 0 then 1 else 0)+(if ρ 1 then 2 else 0)+(if ρ 2 then 4 else 0), ?_,λv hv=> ?_⟩
 . cases ρ 0<;>cases ρ 1<;>cases ρ 2<;>simp
 . have:v=0\/v=1\/v=2:=aa;rcases this with rfl|rfl|rfl<;>cases ρ 0<;>cases ρ 1<;>cases ρ 2<;>rfl
def CU{N:List Br}(h:eC N)(h3:∀x∈N,x.1<3):∀(n:Nat) (ρ ab:dz),n<N.length+2->(∀w,w<3->ρ w=ab w)->tb N n ρ=tb N n ab:=by
 intro n
 induction n using afC with
 |_ n ih=>
  intro ρ ab hn ha;by_cases h2:n<2
  . rw[oc h2,oc h2]
  . obtain⟨⟨v,l,u⟩,hx⟩:∃x,N[n-2]? =some x:=⟨_,oY aa⟩;obtain⟨_,h4,h5,_⟩:=h.ok _ _ hx;simp only at h4 h5;have hv:v<3:=h3 _ (WZ hx);rw[kG h aa hx,kG h aa hx,ha v hv,ih u aa ρ ab aa ha,ih l aa ρ ab aa ha]
def CV{N:List Br}(h:eC N)(h3:∀x∈N,x.1<3):N.length<=254:=by
 have:=yM 256 ((Rm (N.length+2)).map λn=>code (tb N n)) ?_ λx hx=> ?_
 . simp at this;omega
 . show List.Pairwise _ _;rw[List.pairwise_map];refine List.Pairwise.imp_of_mem (λ{n m} hn hm ad he=>ad ?_) (List.nodup_range:(Rm (N.length+2)).Pairwise (·≠·));rw[afc]at hn hm;refine CM h (N.length+2) n m aa aa hn hm λρ=> ?_;obtain⟨k,hk,ha⟩:=aa0 ρ;rw[CU h h3 n ρ (bX k) hn λw hw=>(ha w hw).symm,CU h h3 m ρ (bX k) hm λw hw=>(ha w hw).symm];exact aaZ he k hk
 . simp only[afl,afc]at hx;obtain⟨n,_,rfl⟩:=hx;exact aaX _
end Go.Sp
end
noncomputable section
open Go Go.aD Go.Proofs
namespace Go.Sp
def IF(x:Br):∀(N:List Br) (k:Nat),bq ((N.zipIdx k).map λp=>(p.1,p.2+2)) x=none->x∉N
 |[],_,_=>aw
 |y::r,k,h=>by
  simp only[afG,Ey,bq]at h
  split at h
  . cases h
  . rename_i ad;rw[Rb,not_or];exact⟨ad,IF x r (k+1) h⟩
def IG(x:Br):∀(N:List Br) (k n:Nat),bq ((N.zipIdx k).map λp=>(p.1,p.2+2)) x=some n->k+2<=n/\N[n-2-k]? =some x
 |[],_,_,h=>by simp[bq]at h
 |y::r,k,n,h=>by
  simp only[afG,Ey,bq]at h
  split at h
  . rename_i he;cases h;subst he;refine⟨yx _, ?_⟩;rw[show k+2-2-k=0 by omega];rfl
  . obtain⟨h1,h2⟩:=IG x r (k+1) n h;refine⟨aa, ?_⟩;rw[show n-2-k=(n-2-(k+1))+1 by omega];simpa using h2
def aa1{N:List Br}{x:Br}(h:look N x=none):x∉N:=IF x N 0 h
def aa2{N:List Br}{x:Br}{n:Nat}(h:look N x=some n):2<=n/\N[n-2]? =some x:=by
 have:=IG x N 0 n h;simpa using this
def II{h:ab}{B M i:Nat}{N:List Br}(hb:gX h B M i N)(ok:eC N)(v3:∀x∈N,x.1<3){v l u:Nat}(hv:v<3)(hl:l<N.length+2)(hu:u<N.length+2)(h1:v<ck N l)(h2:v<ck N u)(hN:N.length<=10000)(hi:i<h.next):
 ∃r H' i' N',bU E 271 [.pointer (some ⟨B,0,none⟩),.int .i64 v,.int .i64 l,.int .i64 u] h (.int .i64 (r:Nat)) H'/\gX H' B M i' N'/\N<+:N'/\eC N'/\(∀x∈N',x.1<3)/\r<N'.length+2/\
  (∀ρ,tb N' r ρ=if ρ v then tb N u ρ else tb N l ρ)/\CK B M i h H'/\(i'=i\/h.next<=i')/\i'<H'.next/\(N'≠[]->N=[]->h.next<=i'):=by
 by_cases ad:l=u
 . subst ad;exact⟨l,h,i,N,aaJ h B v l,hb,afg _,ok,v3,hl,λρ=>aw,⟨yx _,λ_ _ _ _ _ _ h=>h⟩,.inl rfl,hi,λh1 h2=>absurd h2 h1⟩
 . cases hk:look N (v,l,u)with
   |some n=>
    obtain⟨h3,h4⟩:=aa2 hk;have h5:=(afj.1 h4).1;exact⟨n,h,i,N,aaK hb ad hk,hb,afg _,ok,v3,aa,λρ=>kG ok h3 h4 ρ,⟨yx _,λ_ _ _ _ _ _ h=>h⟩,.inl rfl,hi,λh1 h2=>absurd h2 h1⟩
   |none=>
    obtain⟨H',i',e1,e2,e3,e4⟩:=aaM hb ad hk hN;have ae:=ok.snoc aa hl hu ad h1 h2 (aa1 hk);refine⟨N.length+2,H',i',N++[(v,l,u)],e1,e2,afm _ _,ae,λx hx=> ?_,aw,λρ=> ?_,e3,.inr e4, ?_,λ_ _=>e4⟩
    . rw[afH]at hx;rcases hx with hx|hx
      . exact v3 x hx
      . simp at hx;subst hx;exact hv
    . rw[kG ae aa (v:=v) (l:=l) (u:=u) aw,yI ok (afm _ _) hu,yI ok (afm _ _) hl]
    . obtain⟨sl,_,h3⟩:=e2.bh;rcases h3 with⟨h3,_⟩|⟨_,_,_,h3,_⟩
      . simp at h3
      . exact h3
def gX.IJ{h:ab}{B M i:Nat}(k:Nat)(hb:gX h B M i []):gX h B M k []:=by
 obtain⟨⟨sl,h1,h2⟩,h3,h5,h6⟩:=hb;refine⟨⟨sl,h1, ?_⟩,h3,h5,h6⟩;rcases h2 with h2|⟨e1,_⟩
 . exact .inl h2
 . exact absurd rfl e1
def gX.put{h:ab}{B M i j:Nat}{N:List Br}(hb:gX h B M i N)(o:Option bR)(h1:j≠B)(h2:j≠M)(h3:N≠[]->j≠i):gX (h.set j o) B M i N:=by
 obtain⟨⟨sl,a1,a2⟩,⟨es,cl,a3,a4⟩,a5,a6,a7⟩:=hb;refine⟨⟨sl, ?_, ?_⟩,⟨es,cl, ?_,a4⟩,a5,a6,a7⟩
 . rw[bE _ _ _ _ aa];exact a1
 . rcases a2 with a2|⟨e1,e2,e3,e4,e5⟩
   . exact .inl a2
   . exact .inr ⟨e1,e2,by rw[bE _ _ _ _ (by have:=h3 e1;omega)];exact e3,e4,e5⟩
 . rw[bE _ _ _ _ aa];exact a3
def aa3{h:ab}{B M i:Nat}{N:List Br}(hb:gX h B M i N)(ok:eC N)(v3:∀x∈N,x.1<3){v l u:Nat}(hv:v<3)(hl:l<N.length+2)(hu:u<N.length+2)(h1:v<ck N l)(h2:v<ck N u)(hi:i<h.next):
 ∃r H' i' N',bU E 271 [.pointer (some ⟨B,0,none⟩),.int .i64 v,.int .i64 l,.int .i64 u] h (.int .i64 (r:Nat)) H'/\gX H' B M i' N'/\N<+:N'/\eC N'/\(∀x∈N',x.1<3)/\r<N'.length+2/\
  (∀ρ,tb N' r ρ=if ρ v then tb N u ρ else tb N l ρ)/\(h.next<=H'.next/\∀j o,j<h.next->j≠B->j≠M->(N≠[]->j≠i)->h.get j=some o->H'.get j=some o)/\(i'=i\/h.next<=i')/\i'<H'.next/\(N'≠[]->N=[]->h.next<=i'):=by
 have hN:=CV ok v3;by_cases hn:N=[]
 . subst hn;obtain⟨r,H',i',N',a1,a2,a3,a4,a5,a6,a7,a8,a9,dX,dR⟩:=II (hb.IJ B) ok v3 hv hl hu h1 h2 aa hb.lt.1;by_cases aY:N'=[]
   . subst aY;exact⟨r,H',i,[],a1,a2.IJ i,a3,a4,a5,a6,a7,⟨a8.next,λj o b1 b2 b3 _ b4=>a8.get j o b1 b2 b3 b2 b4⟩,.inl rfl,Q0 hi a8.next,λh=>absurd rfl h⟩
   . exact⟨r,H',i',N',a1,a2,a3,a4,a5,a6,a7,⟨a8.next,λj o b1 b2 b3 _ b4=>a8.get j o b1 b2 b3 b2 b4⟩,.inr (dR aY rfl),dX,dR⟩
 . obtain⟨r,H',i',N',a1,a2,a3,a4,a5,a6,a7,a8,a9,dX,dR⟩:=II hb ok v3 hv hl hu h1 h2 aa hi;exact⟨r,H',i',N',a1,a2,a3,a4,a5,a6,a7,⟨a8.next,λj o b1 b2 b3 b4 b5=>a8.get j o b1 b2 b3 (b4 hn) b5⟩,a9,dX,dR⟩
def CW{N:List Br}(v3:∀x∈N,x.1<3){n:Nat}(hn:n<N.length+2)(h2:¬n<2):ck N n<3:=by
 obtain⟨⟨v,l,u⟩,hx⟩:∃x,N[n-2]? =some x:=⟨_,oY aa⟩;rw[lU aa hx];exact v3 _ (WZ hx)
def KC.of{K:Kt}{ds:List Deferred}{h:ab}{f:FuncId}{args:List Value}{P:Value->ab->Prop}(hr:∃v h',bU E f args h v h'/\P v h')(hk:∀v h',P v h'->K v ds h'):KC E K ds h (f,args):=by
 obtain⟨v,h',h1,h2⟩:=hr;exact⟨v,h',h1,hk v h' h2⟩
section
variable {b:Nat} {h0:ab} {d0 d1 d2:oe} {fo:Nat} {cap:List Value} {op:Bool->Bool->Bool->Bool} {H:ab} {i:Nat} {N:List Br} {L:List ((Nat×Nat×Nat)×Nat)}
set_option maxHeartbeats 0 in
def aa4(S:yK b h0 d0 d1 d2 fo cap op)(I:pD b h0 d0 d1 d2 fo cap op H i N L){x y z:Nat}(hc:¬(x<2/\y<2/\z<2))(hk:bq L (x,y,z)=none)
 (aj:x<d0.ns.length+2) (ao:y<d1.ns.length+2) (av:z<d2.ns.length+2)
 (IH:∀(x' y' z':Nat) (H1:ab) (i1:Nat) (N1:List Br) (L1:List ((Nat×Nat×Nat)×Nat)),x'+y'+z'<x+y+z->x'<d0.ns.length+2->y'<d1.ns.length+2->z'<d2.ns.length+2->pD b h0 d0 d1 d2 fo cap op H1 i1 N1 L1->
  ∃v' H',bU E 269 (.agg #[.int .i64 x',.int .i64 y',.int .i64 z']::mv b) H1 v' H'/\CP b h0 d0 d1 d2 fo cap op H1 i1 N1 x' y' z' v' H'):
 ∃v H',bU E 269 (.agg #[.int .i64 x,.int .i64 y,.int .i64 z]::mv b) H v H'/\CP b h0 d0 d1 d2 fo cap op H i N x y z v H':=by
 have r1:rd H (b+7) 0=some (.map (some (b+6))):=c8 (o:=0) I.nh;have hn:=I.nx;obtain⟨es,clock,hM,bt⟩:=I.j9;have aC:=AI CE CC bt (x,y,z) true clock tP rfl hk;simp only[oa,cond_true]at aC;have l0:rd H b 0=some d0.sl:=c8 (o:=0) I.lB;have l1:rd H b 1=some (.int .i64 d0.r):=c8 (o:=1) I.lB;have l2:rd H b 2=some d1.sl:=c8 (o:=2) I.lB;have l3:rd H b 3=some (.int .i64 d1.r):=c8 (o:=3) I.lB;have l4:rd H b 4=some d2.sl:=c8 (o:=4) I.lB;have l5:rd H b 5=some (.int .i64 d2.r):=c8 (o:=5) I.lB;have hS:∀a,Sub h0 (H.new a):=λa=>I.sub.new a;refine run Tryz.ntmps269 Tryz.results269 ?_;have bu:(¬(x:Int)<2)\/((x:Int)<2/\¬(y:Int)<2)\/((x:Int)<2/\(y:Int)<2/\¬(z:Int)<2):=aa;obtain⟨v,hv,bZ,b0⟩:∃v:Nat,min ((ck d0.ns x:Nat):Int) (min ((ck d1.ns y:Nat):Int) ((ck d2.ns z:Nat):Int))=(v:Int)/\v<3/\v=min (ck d0.ns x) (min (ck d1.ns y) (ck d2.ns z)):=by
  refine⟨min (ck d0.ns x) (min (ck d1.ns y) (ck d2.ns z)),aa, ?_,rfl⟩;have q0:=λh=>CW S.d0.2.2.1 aj h;have q1:=λh=>CW S.d1.2.2.1 ao h;have q2:=λh=>CW S.d2.2.2.1 av h;omega
 have ad:v<64:=aa;have aE:=λb=>CQ S.d0.2.1 aj ad b;have aH:=λb=>CQ S.d1.2.1 ao ad b;have aJ:=λb=>CQ S.d2.2.1 av ad b;have aw:∀b,side d0.ns x v b+side d1.ns y v b+side d2.ns z v b<x+y+z:=λb=>by
  have a0:=aE b;have a1:=aH b;have a2:=aJ b;have:ck d0.ns x=v\/ck d1.ns y=v\/ck d2.ns z=v:=aa;rcases this with h|h|h
  . have:=a0.2 h;omega
  . have:=a1.2 h;omega
  . have:=a2.2 h;omega
 have bw:=λb ρ=>CT S.d0.2.1 aj ad aa b ρ;have bz:=λb ρ=>CT S.d1.2.1 ao ad aa b ρ;have bB:=λb ρ=>CT S.d2.2.1 av ad aa b ρ;obtain⟨T,hT⟩:∃T:dz->Bool,∀ρ,T ρ=op (tb d0.ns x ρ) (tb d1.ns y ρ) (tb d2.ns z ρ):=⟨_,λ_=>rfl⟩;have aZ:∀b ρ,op (tb d0.ns (side d0.ns x v b) ρ) (tb d1.ns (side d1.ns y v b) ρ) (tb d2.ns (side d2.ns z v b) ρ)=T (c9 ρ v b):=λb ρ=>by rw[hT,bw,bz,bB]
 have ba:∀ρ w c,w<v->T (c9 ρ w c)=T ρ:=λρ w c hw=>by
  rw[hT,hT,iF S.d0.2.1 aj aa,iF S.d1.2.1 ao aa,iF S.d2.2.1 av aa]
 rcases bu with hx|⟨hx,hy⟩|⟨hx,hy,hz⟩
 all_goals
 . first
    |simp(disch:=omega)[go_sem,mv,dT,du,bO,r1,hM,aC,hx,hy,hz]
    |simp(disch:=omega)[go_sem,mv,dT,du,bO,r1,hM,aC,hx,hy]
    |simp(disch:=omega)[go_sem,mv,dT,du,bO,r1,hM,aC,hx]
   refine kQ [bc 0,dP 1,bc 0,dP 4,fN 15,bc 0,⟨.read,32,some (0,2)⟩,bc 0,⟨.read,128,some (0,2)⟩,fN 511,bc 0,⟨.read,1024,some (0,3)⟩,bc 0,⟨.read,4096,some (0,3)⟩,fN 16383,dP 32767,bc 65535] an 0 rfl ?_;simp(disch:=omega)[go_sem,dT,du,gA,eh,bO,dC,bE,l0,l1,l2,l3,l4,l5,hv,aG];refine KC.mk (wq _ _ (S.d0.sub (hS _)).1 aj (by have:=S.d0.2.2.2;omega)) ?_;simp(disch:=omega)[go_sem,dT,du,gA,eh,bO,dC,bE,l0,l1,l2,l3,l4,l5,hv,aG];refine KC.mk (wq _ _ (S.d1.sub (hS _)).1 ao (by have:=S.d1.2.2.2;omega)) ?_;simp(disch:=omega)[go_sem,dT,du,gA,eh,bO,dC,bE,l0,l1,l2,l3,l4,l5,hv,aG];refine KC.mk (wq _ _ (S.d2.sub (hS _)).1 av (by have:=S.d2.2.2.2;omega)) ?_;simp(disch:=omega)[go_sem,dT,du,gA,eh,bO,dC,bE,l0,l1,l2,l3,l4,l5,hv,aaR];refine xL ?_;simp(disch:=first|omega|(simp only[ab.bb,ab.aW,bS];omega)) [go_sem,dT,du,gA,eh,bO,dC,bE,l0,l1,l2,l3,l4,l5,hv,aG];refine kQ [bc 0,bc 0,bc 0,bc 4,dP 12,bc 0,bc 32,dP 96,bc 0,fN 508,bc 1020,bc 2044,bc 2044,bc 4093,fN 12285,bc 32767,fN 65535] an 0 rfl ?_;simp(disch:=first|omega|(simp only[ab.bb,ab.aW,bS];omega)) [go_sem,dT,du,gA,eh,bO,dC,bE,l0,l1,l2,l3,l4,l5,hv,aG];refine KC.mk (CA _ _ _ (S.d0.sub (((hS _).new _).new _)).1 aj (by have:=S.d0.2.2.2;omega) ad) ?_;simp(disch:=first|omega|(simp only[ab.bb,ab.aW,bS];omega)) [go_sem,dT,du,gA,eh,bO,dC,bE,l0,l1,l2,l3,l4,l5,hv,aG];refine xL ?_;simp(disch:=first|omega|(simp only[ab.bb,ab.aW,bS];omega)) [go_sem,dT,du,gA,eh,bO,dC,bE,l0,l1,l2,l3,l4,l5,hv,aG];refine kQ [bc 0,bc 0,bc 0,bc 4,dP 12,bc 0,bc 32,dP 96,bc 0,fN 508,bc 1020,bc 2044,bc 2044,bc 4093,fN 12285,bc 32767,fN 65535] an 0 rfl ?_;simp(disch:=first|omega|(simp only[ab.bb,ab.aW,bS];omega)) [go_sem,dT,du,gA,eh,bO,dC,bE,l0,l1,l2,l3,l4,l5,hv,aG];have bd:∀a b c,Sub h0 (((H.new a).new b).new c):=λa b c=>((hS a).new b).new c;have ae:∀g o j,Sub h0 g->b+9<=j->Sub h0 (g.set j o):=λg o j hg hj=>hg.set (by have:=S.b;omega) o;refine KC.mk (CA _ _ _ (S.d1.sub (ae _ _ _ (ae _ _ _ (bd _ _ _) aa) aa)).1 ao (by have:=S.d1.2.2.2;omega) ad) ?_;simp(disch:=first|omega|(simp only[ab.bb,ab.aW,bS];omega)) [go_sem,dT,du,gA,eh,bO,dC,bE,l0,l1,l2,l3,l4,l5,hv,aG];refine xL ?_;simp(disch:=first|omega|(simp only[ab.bb,ab.aW,bS];omega)) [go_sem,dT,du,gA,eh,bO,dC,bE,l0,l1,l2,l3,l4,l5,hv,aG];refine kQ [bc 0,bc 0,bc 0,bc 4,dP 12,bc 0,bc 32,dP 96,bc 0,fN 508,bc 1020,bc 2044,bc 2044,bc 4093,fN 12285,bc 32767,fN 65535] an 0 rfl ?_;simp(disch:=first|omega|(simp only[ab.bb,ab.aW,bS];omega)) [go_sem,dT,du,gA,eh,bO,dC,bE,l0,l1,l2,l3,l4,l5,hv,aG];refine KC.mk (CA _ _ _ (S.d2.sub (ae _ _ _ (ae _ _ _ (ae _ _ _ (ae _ _ _ (bd _ _ _) aa) aa) aa) aa)).1 av (by have:=S.d2.2.2.2;omega) ad) ?_;simp(disch:=first|omega|(simp only[ab.bb,ab.aW,bS];omega)) [go_sem,dT,du,gA,eh,bO,dC,bE,l0,l1,l2,l3,l4,l5,hv,aG];refine xL ?_;simp(disch:=first|omega|(simp only[ab.bb,ab.aW,bS];omega)) [go_sem,dT,du,gA,eh,bO,dC,bE,l0,l1,l2,l3,l4,l5,hv,aG];have a8:rd H (b+8) 0=some (uw b):=c8 (o:=0) I.yL;simp(disch:=first|omega|(simp only[ab.bb,ab.aW,bS];omega)) [go_sem,dT,du,gA,eh,bO,dC,bE,l0,l1,l2,l3,l4,l5,hv,aG,a8,uw];refine KC.of (IH _ _ _ _ _ _ _ (aw false) (by have:=aE false;omega) (by have:=aH false;omega) (by have:=aJ false;omega) (I.mono ?_)) ?_
   . repeat first|exact Sub.refl _|refine Sub.new ?_ _|refine Sub.set ?_ aa _
   . rintro _ H1 ⟨r,i1,N1,L1,rfl,I1,bD,bF,bG,⟨bH,aK⟩,bI⟩;have gp:H1.get H.next=some (.row [.int .i64 x,.int .i64 y,.int .i64 z] true 0):=aK _ _ (by simp only[ab.bb,ab.aW,bS];omega) aa aa aa (by have:=I.il;omega) (by simp(disch:=first|omega|(simp only[ab.bb,ab.aW,bS];omega)) [ey,bE,bO,dC]);have gh:H1.get (H.next+1+1)=some (.row [.int .i64 (side d0.ns x v true),.int .i64 (side d1.ns y v true),.int .i64 (side d2.ns z v true)] true 0):=aK _ _ (by simp only[ab.bb,ab.aW,bS];omega) aa aa aa (by have:=I.il;omega) (by simp(disch:=first|omega|(simp only[ab.bb,ab.aW,bS];omega)) [ey,bE,bO,dC]);simp only[ab.bb,ab.aW,bS]at bH bI;have p0:rd H1 H.next 0=some (.int .i64 x):=c8 (o:=0) gp;have p1:rd H1 H.next 1=some (.int .i64 y):=c8 (o:=1) gp;have p2:rd H1 H.next 2=some (.int .i64 z):=c8 (o:=2) gp;have g0:rd H1 (H.next+1+1) 0=some (.int .i64 (side d0.ns x v true)):=c8 (o:=0) gh;have g1:rd H1 (H.next+1+1) 1=some (.int .i64 (side d1.ns y v true)):=c8 (o:=1) gh;have g2:rd H1 (H.next+1+1) 2=some (.int .i64 (side d2.ns z v true)):=c8 (o:=2) gh;have bf:rd H1 (b+8) 0=some (uw b):=c8 (o:=0) I1.yL;have aL:rd H1 (b+5) 0=some (.pointer (some ⟨b+4,0,none⟩)):=c8 (o:=0) I1.bC;simp(disch:=first|omega|(simp only[ab.bb,ab.aW,bS];omega)) [go_sem,bf,aL,p0,p1,p2,g0,g1,g2,uw];refine kQ [⟨.read,0,some (0,2)⟩,bc 0,bc 0,dP 0,dP 0,fN 24,fN 63,bc 127] an 0 rfl ?_;simp(disch:=first|omega|(simp only[ab.bb,ab.aW,bS];omega)) [go_sem,bf,aL,p0,p1,p2,g0,g1,g2,uw];refine KC.of (IH _ _ _ _ _ _ _ (aw true) (by have:=aE true;omega) (by have:=aH true;omega) (by have:=aJ true;omega) I1) ?_;rintro _ H2 ⟨r',i2,N2,L2,rfl,I2,aM,bg,bJ,⟨Aj,bk⟩,dS⟩;have b6:=I.il;have bL:H2.get H.next=some (.row [.int .i64 x,.int .i64 y,.int .i64 z] true 0):=bk _ _ aa aa aa aa aa gp;have t1:∀ρ,tb N2 r ρ=T (c9 ρ v false):=λρ=>by rw[yI I1.jB aM bF,bG,aZ]
     have t2:∀ρ,tb N2 r' ρ=T (c9 ρ v true):=λρ=>by rw[bJ,aZ]
     have az:r<N2.length+2:=by have:=aM.length_le;omega
     obtain⟨rb,H3,i3,N3,aO,bM,aP,bN,bT,bl,bm,⟨Vm,bW⟩,oi,aR,aS⟩:=aa3 I2.wv I2.jB I2.v3 (v:=v) (l:=r) (u:=r') aa az bg
      (IE I2.jB az ad ba t1 λa b c=>yJ I2.jB a b c) (IE I2.jB bg ad ba t2 λa b c=>yJ I2.jB a b c) I2.il
     simp(disch:=first|omega|(simp only[ab.bb,ab.aW,bS];omega)) [go_sem,aG];refine KC.mk aO ?_;have b7:=I2.nx;have k3:∀j o,j<H2.next->j≠b+4->j≠b+3->(b+9<=j->j≠i2)->H2.get j=some o->H3.get j=some o:=λj o h1 h2 h3 h4 h5=>bW j o h1 h2 h3 (λaA=>by
      have:=I2.ii aA;rcases HT j (b+9)with h|h
      . omega
      . exact h4 h) h5
     have aT:=k3 _ _ aa aa aa (λ_=>aa) bL;obtain⟨b8,ai,bX,aV⟩:=I2.j9;have bY:=k3 _ _ aa aa aa (λh=>aa) bX;have m3:rd H3 (b+7) 0=some (.map (some (b+6))):=c8 (o:=0) (k3 _ _ aa aa aa (λh=>aa) I2.nh);obtain⟨bn,af,bo,aX⟩:=vz CE (vf:=ij) CC aV (x,y,z) ai rb;simp only[oa,ij]at bo;have q0:rd H3 H.next 0=some (.int .i64 x):=c8 (o:=0) aT;have q1:rd H3 H.next 1=some (.int .i64 y):=c8 (o:=1) aT;have q2:rd H3 H.next 2=some (.int .i64 z):=c8 (o:=2) aT;simp(disch:=first|omega|(simp only[ab.bb,ab.aW,bS];omega)) [go_sem,aG,m3,q0,q1,q2,bY,bo];refine⟨⟨aL,c8 (o:=0) I2.bC⟩,rb,i3,N3,put L2 (x,y,z) rb,rfl, ?_,(bD.trans aM).trans aP,bl,λρ=> ?_,⟨?_,λj o h1 h2 h3 h4 h5 h6=> ?_⟩,aa⟩
     . have hs:=I2.sub;have b9:=S.b;have kk:∀j o,j<H2.next->j≠b+4->j≠b+3->j≠b+6->(b+9<=j->j≠i2)->H2.get j=some o->(H3.set (b+6) (some (bR.map bn af))).get j=some o:=λj o h1 h2 h3 h4 h5 h6=>by
        rw[bE _ _ _ _ h4];exact k3 j o h1 h2 h3 h5 h6
       have bs:N3≠[]->b+9<=i3:=λaA=>by
        by_cases h:N2=[]
        . have:=aS aA h;omega
        . have:=I2.ii h;omega
       refine⟨⟨?_,λj o hj ho=>kk j o ?_ aa aa aa (λ_=>aa) (hs.get j o hj ho)⟩, ?_,kk _ _ aa aa aa aa (λ_=>aa) I2.lB,kk _ _ aa aa aa aa (λ_=>aa) I2.CN,kk _ _ aa aa aa aa (λ_=>aa) I2.bC,
        kk _ _ aa aa aa aa (λ_=>aa) I2.nh,kk _ _ aa aa aa aa (λ_=>aa) I2.yL,bM.put _ aa aa (λaA=>by have:=bs aA;omega),bs,aR,⟨bn,af,ey _ _ _,aX⟩,bN,bT,λx' y' z' ca ah=> ?_⟩
       . have:=hs.next;simp only[ab.aW];omega
       . have:=hs.next;omega
       . simp only[ab.aW];omega
       . rw[mO]at ah
         split at ah
         . rename_i he;cases ah;cases he;exact⟨bl,λρ=>by rw[bm,<-hT,ID t1 t2]⟩
         . obtain⟨c1,c2⟩:=I2.CO _ _ _ _ ah;exact⟨by have:=aP.length_le;omega,λρ=>by rw[yI I2.jB aP c1,c2]⟩
     . rw[bm,<-hT,ID t1 t2]
     . simp only[ab.aW];omega
     . rw[bE _ _ _ _ aa];refine k3 j o aa h3 h2 (λ_=>aa) (bk j o aa h2 h3 h4 aa (aK j o (by simp only[ab.bb,ab.aW,bS];omega) h2 h3 h4 h5 ?_));simp(disch:=first|omega|(simp only[ab.bb,ab.aW,bS];omega)) only[bE,bO];exact h6
def IK(S:yK b h0 d0 d1 d2 fo cap op):∀(n x y z:Nat) (H:ab) (i:Nat) (N:List Br) (L:List ((Nat×Nat×Nat)×Nat)),x+y+z<n->x<d0.ns.length+2->y<d1.ns.length+2->z<d2.ns.length+2->pD b h0 d0 d1 d2 fo cap op H i N L->
 ∃v H',bU E 269 (.agg #[.int .i64 x,.int .i64 y,.int .i64 z]::mv b) H v H'/\CP b h0 d0 d1 d2 fo cap op H i N x y z v H'
 |0,_,_,_,_,_,_,_,h,_,_,_,_=>absurd h aa
 |n+1,x,y,z,H,i,N,L,h,hx,hy,hz,I=>by
  by_cases hc:x<2/\y<2/\z<2
  . obtain⟨c0,c1,c2⟩:=hc;refine⟨_,_,aaS S I c0 c1 c2,_,i,N,L,rfl,I,afg _, ?_,λρ=> ?_,⟨yx _,λ_ _ _ _ _ _ _ h=>h⟩,.inl rfl⟩
    . split<;>omega
    . rw[oc c0,oc c1,oc c2];cases op (decide (x=1)) (decide (y=1)) (decide (z=1))<;>simp[oc]
  . cases hk:bq L (x,y,z)with
    |some r=>
     obtain⟨c0,c1⟩:=I.CO _ _ _ _ hk;exact⟨_,_,aaT I hc hk,r,i,N,L,rfl,I,afg _,c0,c1,⟨yx _,λ_ _ _ _ _ _ _ h=>h⟩,.inl rfl⟩
    |none=>
     exact aa4 S I hc hk hx hy hz λx' y' z' H1 i1 N1 L1 hs c0 c1 c2 I1=>IK S n x' y' z' H1 i1 N1 L1 aa c0 c1 c2 I1
end
end Go.Sp
end
noncomputable section
open Go Go.aD Go.Proofs
namespace Go.Sp
abbrev Seen:Type:=List (Nat×Nat)×List Br
def gJ(node:Nat->Option Br):Nat->Nat->Seen->Nat×Seen
 |0,_,s=>(0,s)
 |k+1,n,s=>match bq s.1 n with
  |some m=>(m,s)
  |none=>match node n with
   |none=>(0,s)
   |some x=>
    let a:=gJ node k x.2.1 s
    let b:=gJ node k x.2.2 a.2
    (b.2.2.length+2,put b.2.1 n (b.2.2.length+2),b.2.2++[(x.1,a.1,b.1)])
def jC(N:List Br)(n:Nat):Option Br:=if n<2 then none else N[n-2]?
def yN{node:Nat->Option Br}(aM:∀n x,node n=some x->x.2.1<n/\x.2.2<n):∀(k m:Nat) (s:Seen) (q:Nat),m<q->bq s.1 q=none->bq (gJ node k m s).2.1 q=none
 |0,_,_,_,_,h=>h
 |k+1,m,s,q,hm,h=>by
  simp only[gJ]
  split
  . exact h
  . split
    . exact h
    . rename_i x hx;obtain⟨h1,h2⟩:=aM _ _ hx;simp only;rw[mO,if_neg aa];exact yN aM k _ _ q aa (yN aM k _ _ q aa h)
def yO{N:List Br}(h:eC N):∀n x,jC N n=some x->x.2.1<n/\x.2.2<n:=λn x hx=>by
 unfold jC at hx
 split at hx
 . cases hx
 . obtain⟨_,h4,h5,_⟩:=h.ok _ _ hx;omega
def IL{κ ν:Type}[DecidableEq κ]{a:κ}:∀{l:List (κ×ν)},bq l a=none->∀p∈l,p.1≠a
 |[],_,p,hp=>by cases hp
 |(k,v)::r,h,p,hp=>by
  simp only[bq]at h
  split at h
  . cases h
  . rename_i bd;rcases Rb.1 hp with rfl|hp
    . exactλe=>bd e.symm
    . exact IL h p hp
def uy:E.under 344=some (.map 3 3):=an
def uz(c:Nat):Value:=.func (.func 249) #[] #[.pointer (some ⟨c+4,0,none⟩),.pointer (some ⟨c,0,none⟩),.pointer (some ⟨c+5,0,none⟩),.pointer (some ⟨c+2,0,none⟩)]
def uA(c:Nat):List Value:=[.pointer (some ⟨c+4,0,none⟩),.pointer (some ⟨c,0,none⟩),.pointer (some ⟨c+5,0,none⟩),.pointer (some ⟨c+2,0,none⟩)]
structure wx(c:Nat)(h0:ab)(B:Nat)(N:List Br):Prop where
 c:h0.next=c
 wv:∃sl m,h0.get B=some (.row [sl,m] true 0)/\kp 3 h0 sl (N.map dH)
 lt:B<h0.next
 jB:eC N
 v3:∀x∈N,x.1<3
structure mw(c:Nat)(h0:ab)(B:Nat)(N:List Br)(H:ab)(i:Nat)(s:Seen):Prop where
 sub:Sub h0 H
 nx:c+6<=H.next
 bC:H.get c=some (.row [.pointer (some ⟨B,0,none⟩)] true 0)
 out:∃sl,H.get (c+2)=some (.row [sl,.int .i64 0] true 0)/\((s.2=[]/\sl=.slice none 0 0)\/(s.2≠[]/\sl=.slice (some ⟨i,0,none⟩) s.2.length s.2.length/\H.get i=some (.row (s.2.flatMap dH) true 3)/\c+6<=i/\i<H.next))
 j9:∃es clock,H.get (c+3)=some (.map es clock)/\jN ij ij es s.1
 nh:H.get (c+4)=some (.row [.map (some (c+3))] true 0)
 vC:H.get (c+5)=some (.row [uz c] true 0)
 nd:(s.1.map (·.1)).Nodup
 ks:∀p∈s.1,p.1<N.length+2
 len:s.1.length=s.2.length+2
 base:bq s.1 0=some 0/\bq s.1 1=some 1
def mw.small{c:Nat}{h0:ab}{B:Nat}{N:List Br}{H:ab}{i:Nat}{s:Seen}(S:wx c h0 B N)(I:mw c h0 B N H i s):s.2.length<=254:=by
 have:=CV S.jB S.v3;have:=yM (N.length+2) _ I.nd λx hx=>by
  obtain⟨p,hp,rfl⟩:=afl.1 hx;exact I.ks p hp
 have:=I.len;simp only[afd]at*;omega
def yP(c:Nat)(h0:ab)(B:Nat)(N:List Br)(H:ab)(i:Nat)(s:Seen)(k n:Nat)(v:Value)(H':ab):Prop:=
 ∃i',v=.int .i64 (gJ (jC N) k n s).1/\mw c h0 B N H' i' (gJ (jC N) k n s).2/\(H.next<=H'.next/\∀j o,j<H.next->j≠c+2->j≠c+3->(s.2≠[]->j≠i)->H.get j=some o->H'.get j=some o)/\((gJ (jC N) k n s).2.2≠[]->(s.2≠[]/\i'=i)\/H.next<=i')
def mw.mono{c:Nat}{h0:ab}{B:Nat}{N:List Br}{H G:ab}{i:Nat}{s:Seen}(I:mw c h0 B N H i s)(a:Sub H G):mw c h0 B N G i s:=by
 have hn:=I.nx;obtain⟨es,cl,h3,h4⟩:=I.j9;obtain⟨sl,o1,o2⟩:=I.out;refine⟨I.sub.trans a,afk hn a.next,a.get _ _ aa I.bC,⟨sl,a.get _ _ aa o1, ?_⟩,⟨es,cl,a.get _ _ aa h3,h4⟩,a.get _ _ aa I.nh,a.get _ _ aa I.vC,I.nd,I.ks,I.len,I.base⟩;rcases o2 with o2|⟨b1,b2,b3,b4,b5⟩
 . exact .inl o2
 . exact .inr ⟨b1,b2,a.get _ _ b5 b3,b4,Q0 b5 a.next⟩
def mw.il{c:Nat}{h0:ab}{B:Nat}{N:List Br}{H:ab}{i:Nat}{s:Seen}(I:mw c h0 B N H i s)(h:s.2≠[]):c+6<=i/\i<H.next:=by
 obtain⟨sl,o1,o2⟩:=I.out;rcases o2 with o2|⟨b1,b2,b3,b4,b5⟩
 . exact absurd o2.1 h
 . exact⟨b4,b5⟩
section
variable {c:Nat} {h0:ab} {B:Nat} {N:List Br} {H:ab} {i:Nat} {s:Seen}
def aa5(I:mw c h0 B N H i s){n r:Nat}(hk:bq s.1 n=some r):
 bU E 249 (.int .i64 n::uA c) H (.int .i64 r) H:=by
 have r1:rd H (c+4) 0=some (.map (some (c+3))):=c8 (o:=0) I.nh;have hn:=I.nx;obtain⟨es,clock,hM,aO⟩:=I.j9;have az:=xP um uy aO n true clock hk;simp only[ij,cond_true]at az;refine l9 Tryz.ntmps249 Tryz.results249 rfl ?_;simp(disch:=omega)[go_sem,uA,du,bO,r1,hM,az]
def aa6(S:wx c h0 B N)(I:mw c h0 B N H i s){k n:Nat}{x:Br}(hk:bq s.1 n=none)(h2:2<=n)(hx:N[n-2]? =some x)
 (IH:∀(m:Nat) (H1:ab) (i1:Nat) (s1:Seen),m=x.2.1\/m=x.2.2->mw c h0 B N H1 i1 s1->∃v' H',bU E 249 (.int .i64 m::uA c) H1 v' H'/\yP c h0 B N H1 i1 s1 k m v' H'):
 ∃v H',bU E 249 (.int .i64 n::uA c) H v H'/\yP c h0 B N H i s (k+1) n v H':=by
 have r1:rd H (c+4) 0=some (.map (some (c+3))):=c8 (o:=0) I.nh;have hn:=I.nx;have hc:=S.c;obtain⟨es,clock,hM,aO⟩:=I.j9;have az:=AI um uy aO n true clock tP rfl hk;simp only[ij,cond_true]at az;obtain⟨sl,m,hB,bf⟩:=S.wv;have aP:=S.lt;obtain⟨b,o,cp,rfl,hb,hj,af⟩:=bf.at (j:=n-2) (x:=dH x) (by simp[hx]);have e1:((n:Int)-2).toNat=n-2:=aa;simp only[afd]at hj hB⊢;have hN:=CV S.jB S.v3;have bg:rd H B 0=some (.slice (some ⟨b,o,none⟩) N.length cp):=I.sub.rd aP (c8 (o:=0) hB);have bk:rd H c 0=some (.pointer (some ⟨B,0,none⟩)):=c8 (o:=0) I.bC;have x0:rd H b (o+(n-2)*3)=some (.int .i64 x.1):=I.sub.rd hb (af 0 _ rfl);have x1:rd H b (o+(n-2)*3+1)=some (.int .i64 x.2.1):=I.sub.rd hb (af 1 _ rfl);have x2:rd H b (o+(n-2)*3+1+1)=some (.int .i64 x.2.2):=I.sub.rd hb (af 2 _ rfl);have v0:rd H (c+5) 0=some (uz c):=c8 (o:=0) I.vC;refine run Tryz.ntmps249 Tryz.results249 ?_;simp(disch:=first|omega|(simp only[ab.bb,ab.aW,bS];omega)) [go_sem,uA,aG,tG,du,bO,r1,hM,az,bg,bk,x0,x1,x2,e1,v0,uz,eh,gA];refine KC.of (IH _ _ _ _ (.inl rfl) (I.mono (((Sub.refl H).new _).set (yx _) _))) ?_;rintro _ H1 ⟨i1,rfl,I1,⟨aX,aH⟩,ao⟩;have g1:H1.get H.next=some (.row [.int .i64 x.1,.int .i64 x.2.1,.int .i64 x.2.2] true 0):=aH _ _ (by simp only[ab.bb,ab.aW];omega) aa aa (λh=>by have:=I.il h;omega) (ey _ _ _);simp only[ab.bb,ab.aW]at aX ao;have v1:rd H1 (c+5) 0=some (uz c):=c8 (o:=0) I1.vC;have y2:rd H1 H.next 2=some (.int .i64 x.2.2):=c8 (o:=2) g1;simp(disch:=first|omega|(simp only[ab.bb,ab.aW,bS];omega)) [go_sem,v1,y2,uz];refine KC.of (IH _ _ _ _ (.inr rfl) I1) ?_;rintro _ H2 ⟨i2,rfl,I2,⟨Aj,aR⟩,dS⟩;have g2:H2.get H.next=some (.row [.int .i64 x.1,.int .i64 x.2.1,.int .i64 x.2.2] true 0):=aR _ _ aa aa aa (λh=>by
  rcases ao h with⟨a1,a2⟩|a1
  . have:=I.il a1;omega
  . omega) g1
 have z0:rd H2 H.next 0=some (.int .i64 x.1):=c8 (o:=0) g2;obtain⟨A,hA⟩:∃A,gJ (jC N) k x.2.1 s=A:=⟨_,rfl⟩;rw[hA]at I1 ao dS aR I2⊢;obtain⟨Bq,aS⟩:∃A',gJ (jC N) k x.2.2 A.2=A':=⟨_,rfl⟩;rw[aS]at I2 dS⊢;have aC:gJ (jC N) (k+1) n s=(Bq.2.2.length+2,put Bq.2.1 n (Bq.2.2.length+2),Bq.2.2++[(x.1,A.1,Bq.1)]):=by
  simp only[gJ,hk,jC,if_neg (show¬n<2 by omega),hx,hA,aS]
 have bw:=I2.small S;obtain⟨aT,ah,aY,aV⟩:=I2.j9;obtain⟨aJ,ad,aj,aE⟩:=vz um (vf:=ij) uy aV n ah (Bq.2.2.length+2);have ae:=xP um uy aE n false ad (v:=Bq.2.2.length+2) (by rw[mO,if_pos rfl]);simp only[ij,cond_false,afA,afB]at aj ae;have m2:rd H2 (c+4) 0=some (.map (some (c+3))):=c8 (o:=0) I2.nh;obtain⟨av,ho,aK⟩:=I2.out;have o0:rd H2 (c+2) 0=some av:=c8 (o:=0) ho;have bz:=I2.nx;have ai:bq Bq.2.1 n=none:=by
  obtain⟨q1,q2⟩:=yO S.jB n x (by rw[jC,if_neg aa,hx]);rw[<-aS,<-hA];exact yN (yO S.jB) k _ _ n q2 (yN (yO S.jB) k _ _ n q1 hk)
 have fin:∀(G:ab),H2.next+2<=G.next->(∀j o,j<H2.next->j≠c+2->j≠c+3->(Bq.2.2≠[]->j≠i2)->H2.get j=some o->G.get j=some o)->
  G.get (c+2)=some (.row [.slice (some ⟨H2.next+1,0,none⟩) (Bq.2.2.length+1) (Bq.2.2.length+1),.int .i64 0] true 0)->G.get (H2.next+1)=some (.row ((Bq.2.2++[(x.1,A.1,Bq.1)]).flatMap dH) true 3)->G.get (c+3)=some (.map aJ ad)->
  yP c h0 B N H i s (k+1) n (.int .i64 (Bq.2.2.length+2:Nat)) G:=λG f1 f2 f3 f4 f5=>by
  have hs:=I2.sub;have aL:∀j o,j<c+6->j≠c+2->j≠c+3->H2.get j=some o->G.get j=some o:=λj o h1 h2 h3 h4=>f2 j o aa h2 h3 (λh=>by have:=I2.il h;omega) h4;refine⟨H2.next+1, ?_, ?_,⟨aa,λj o h1 h2 h3 h4 h5=> ?_⟩,λ_=>.inr aa⟩
  . rw[aC]
  . rw[aC];refine⟨⟨?_,λj o hj ho=>aL j o aa aa aa (hs.get j o hj ho)⟩,aa,aL _ _ aa aa aa I2.bC,⟨_,f3,.inr ⟨aw,aw,f4,aa,aa⟩⟩,⟨aJ,ad,f5,aE⟩,aL _ _ aa aa aa I2.nh,aL _ _ aa aa aa I2.vC, ?_, ?_, ?_, ?_⟩
    . have:=hs.next;omega
    . simp only[qh ai,List.map_append,Ey,List.map_nil];rw[afE];refine⟨I2.nd,aw,λa ha b hb=> ?_⟩;obtain⟨p,hp,rfl⟩:=afl.1 ha;simp only[afn]at hb;subst hb;exact IL ai p hp
    . simp only[qh ai];intro p hp;rcases afH.1 hp with hp|hp
      . exact I2.ks p hp
      . simp only[afn]at hp;subst hp;simp only;omega
    . have:=I2.len;simp only[qh ai,afz,List.length_singleton];omega
    . simp only[mO];rw[if_neg aa,if_neg aa];exact I2.base
  . refine f2 j o aa h2 h3 (λh=> ?_) (aR j o aa h2 h3 (λh=> ?_) (aH j o (by simp only[ab.bb,ab.aW];omega) h2 h3 h4 ?_))
    . rcases dS h with⟨a1,a2⟩|a1
      . rcases ao a1 with⟨b1,b2⟩|b1
        . have:=h4 b1;omega
        . omega
      . omega
    . rcases ao h with⟨b1,b2⟩|b1
      . have:=h4 b1;omega
      . omega
    . rw[bE _ _ _ _ aa,bO _ _ _ aa];exact h5
 rcases aK with⟨he,rfl⟩|⟨he,rfl,bl,bB,bD⟩
 . have e0:Bq.2.2.length=0:=by rw[he];rfl
   rw[e0]at aj ae fin;simp(disch:=first|omega|(simp only[ab.bb,ab.aW,bS];omega)) [go_sem,z0,o0,m2];rw[append_nil yG (xR (qe _ _) rfl) rfl aA aA];replace aj:nN E 344 (.int .i64 n) (.int .i64 2) aT ah=some (.map aJ ad):=aj;replace ae:mN E 344 false (.int .i64 n) (some (.map aJ ad))=some (.int .i64 2):=ae;simp(disch:=first|omega|(simp only[ab.bb,ab.aW,bS];omega)) [go_sem,aG,du,eh,bO,bE,ho,m2,aY,aj,ae];refine fin _ (by simp only[ab.bb,ab.aW];omega) (λj o h1 h2 h3 h4 h5=> ?_) ?_ ?_ ?_
   all_goals simp(disch:=first|omega|(simp only[ab.bb,ab.aW,bS];omega)) only[bE,bO,dC,ey]
   . exact h5
   . rw[he];rfl
 . simp(disch:=first|omega|(simp only[ab.bb,ab.aW,bS];omega)) [go_sem,z0,o0,m2];rw[Fl yG (xR (qe _ _) rfl) rfl aA (i:=i2) (cs:=Bq.2.2.flatMap dH) (by rw[bO _ _ _ aa];exact bl) (IB _) (by rfl) aa];rw[show(Bq.2.2.length:Int)+2=Bq.2.2.length+1+1 by omega]at aj ae;simp(disch:=first|omega|(simp only[ab.bb,ab.aW,bS];omega)) [go_sem,aG,du,eh,bO,bE,ho,m2,aY,aj,ae];simp only[show((Bq.2.2.length+2:Nat):Int)=Bq.2.2.length+1+1 by omega]at fin;refine fin _ (by simp only[ab.bb,ab.aW];omega) (λj o h1 h2 h3 h4 h5=> ?_) ?_ ?_ ?_
   . have:=h4 he;simp(disch:=first|omega|(simp only[ab.bb,ab.aW,bS];omega)) only[bE,bO];exact h5
   all_goals simp(disch:=first|omega|(simp only[ab.bb,ab.aW,bS];omega)) only[bE,bO,dC,ey]
   simp[dH]
def CX(S:wx c h0 B N):∀(k n:Nat) (H:ab) (i:Nat) (s:Seen),1<=k->4<=ck N n+k->n<N.length+2->mw c h0 B N H i s->
 ∃v H',bU E 249 (.int .i64 n::uA c) H v H'/\yP c h0 B N H i s k n v H'
 |0,_,_,_,_,h,_,_,_=>absurd h aa
 |k+1,n,H,i,s,_,hk,hn,I=>by
  cases ha:bq s.1 n with
  |some r=>
   have hv:gJ (jC N) (k+1) n s=(r,s):=by simp only[gJ,ha]
   refine⟨_,_,aa5 I ha,i, ?_, ?_,⟨yx _,λ_ _ _ _ _ _ h=>h⟩,λh=> ?_⟩
   . rw[hv]
   . rw[hv];exact I
   . rw[hv]at h;exact .inl ⟨h,rfl⟩
  |none=>
   have h2:2<=n:=by
    rcases HT n 2 with h2|h2
    . have hb:=I.base
      match n,h2 with
      |0,_=>rw[hb.1]at ha;cases ha
      |1,_=>rw[hb.2]at ha;cases ha
    . exact h2
   obtain⟨⟨v,l,u⟩,hx⟩:∃x,N[n-2]? =some x:=⟨_,oY aa⟩;obtain⟨_,h4,h5,_,h6,h7⟩:=S.jB.ok _ _ hx;have h3:=S.v3 _ (WZ hx);rw[lU h2 hx]at hk;simp only at h3 h4 h5 h6 h7 hk;refine aa6 S I ha h2 hx λm H1 i1 s1 hm I1=> ?_;rcases hm with rfl|rfl
   . exact CX S k m H1 i1 s1 aa aa aa I1
   . exact CX S k m H1 i1 s1 aa aa aa I1
end
def IM{x:Br}{k:Nat}{u:Value}(hu:(dH x)[k]? =some u):∀(N:List Br) (j:Nat),N[j]? =some x->(N.flatMap dH)[j*3+k]? =some u
 |[],j,h=>by simp at h
 |y::r,0,h=>by
  simp only[List.getElem?_cons_zero,Option.some.injEq]at h;subst h;have hk:k<(dH y).length:=(afj.1 hu).1;rw[afi,Nat.zero_mul,Xt,aff hk];exact hu
 |y::r,j+1,h=>by
  rw[afi,List.getElem?_append_right (by simp[dH];omega),show(j+1)*3+k-(dH y).length=j*3+k by simp[dH];omega];exact IM hu r j (by simpa using h)
def aa7{h:ab}{i l c:Nat}{N:List Br}(hg:h.get i=some (.row (N.flatMap dH) true 3))(hl:l=N.length)(hi:i<h.next):kp 3 h (.slice (some ⟨i,0,none⟩) l c) (N.map dH):=by
 refine .inr ⟨i,0,c,by rw[afd,hl],hi,λj x hx k u hu=> ?_⟩;rw[List.getElem?_map]at hx;cases hy:N[j]? with
 |none=>rw[hy]at hx;cases hx
 |some y=>
  rw[hy]at hx;cases hx;rw[c8 hg,Xt];exact IM hu N j hy
def gX.stat{h:ab}{B M i:Nat}{N:List Br}(hb:gX h B M i N)(ok:eC N)(v3:∀x∈N,x.1<3):wx h.next h B N:=by
 obtain⟨sl,h1,h2⟩:=hb.bh;refine⟨rfl,⟨sl,_,h1, ?_⟩,hb.lt.1,ok,v3⟩;rcases h2 with⟨rfl,rfl⟩|⟨h3,rfl,h4,h5,_⟩
 . exact .inl ⟨rfl,_,_,rfl⟩
 . exact aa7 h4 rfl h5
def k9(N:List Br)(n:Nat):Nat×Seen:=gJ (jC N) 4 n ([(0,0),(1,1)],[])
def uB(n0:Nat)(h:ab)(v:Value)(cs:List Br):Prop:=(cs=[]/\v=.slice none 0 0)\/(cs≠[]/\∃b,v=.slice (some ⟨b,0,none⟩) cs.length cs.length/\h.get b=some (.row (cs.flatMap dH) true 3)/\n0<=b/\b<h.next)
def aa8{h:ab}{B:Nat}{N:List Br}(S:wx h.next h B N){n:Nat}(hn:n<N.length+2):
 ∃v H',bU E 209 [.pointer (some ⟨B,0,none⟩),.int .i64 n] h v H'/\(∃sl,v=.agg #[sl,.int .i64 (k9 N n).1]/\uB h.next H' sl (k9 N n).2.2)/\Sub h H':=by
 refine run Tryz.ntmps209 Tryz.results209 (K:=λv H'=>(∃sl,v=.agg #[sl,.int .i64 (k9 N n).1]/\uB h.next H' sl (k9 N n).2.2)/\Sub h H') ?_;obtain⟨bF,bm,aZ,bn⟩:=vz um (vf:=ij) uy (es:=[]) (l:=[]) rfl 0 0 0;obtain⟨aT,bo,ba,bs⟩:=vz um (vf:=ij) uy bn 1 bm 1;simp only[ij,Int.natCast_zero,Int.natCast_one]at aZ ba;simp(disch:=first|omega|(simp only[ab.bb,ab.aW,bS];omega)) [go_sem,aG,du,eh,gA,dC,bO,bE,ey,aZ,ba];refine KC.of (CX S 4 n _ 0 ([(0,0),(1,1)],[]) aa aa hn ⟨?_, ?_, ?_,⟨.slice none 0 0, ?_,.inl ⟨rfl,rfl⟩⟩,⟨aT,bo, ?_,bs⟩, ?_, ?_,aw, ?_,rfl,⟨rfl,rfl⟩⟩) ?_
 . repeat first|exact Sub.refl _|refine Sub.new ?_ _|refine Sub.set ?_ aa _
 . simp only[ab.bb,ab.aW];omega
 . simp(disch:=first|omega|(simp only[ab.bb,ab.aW,bS];omega)) only[bE,bO,dC,ey]
 . simp(disch:=first|omega|(simp only[ab.bb,ab.aW,bS];omega)) only[bE,bO,dC,ey]
 . simp(disch:=first|omega|(simp only[ab.bb,ab.aW,bS];omega)) only[bE,bO,dC,ey]
 . simp(disch:=first|omega|(simp only[ab.bb,ab.aW,bS];omega)) only[bE,bO,dC,ey]
 . simp(disch:=first|omega|(simp only[ab.bb,ab.aW,bS];omega)) only[bE,bO,dC,ey,uz]
 . intro p hp;simp only[Rb,afh,or_false]at hp;rcases hp with rfl|rfl<;>simp only<;>omega
 . rintro _ H1 ⟨i1,rfl,I1,⟨aX,aH⟩,ao⟩;obtain⟨av,ho,aK⟩:=I1.out;have bc:H1.get (h.next+1+1)=some (.row [av,.int .i64 0] true 0):=ho;have h4:H1.get (h.next+1)=some (.row [.slice none 0 0,.int .i64 0] true 0):=aH _ _ (by simp only[ab.bb,ab.aW];omega) aa aa (λh=>absurd rfl h) (by simp(disch:=first|omega|(simp only[ab.bb,ab.aW,bS];omega)) only[bE,bO,dC,ey]);have o0:rd H1 (h.next+1+1) 0=some av:=c8 (o:=0) bc;have bt:dF av=true:=by rcases aK with⟨_,rfl⟩|⟨_,rfl,_⟩<;>rfl
   have bG:=I1.nx;have bu:=I1.sub;simp(disch:=first|omega|(simp only[ab.bb,ab.aW,bS];omega)) [go_sem,bc,h4,o0,eh,du,bE,bt];refine⟨⟨av,⟨rfl,rfl⟩, ?_⟩,(bu.set aa _).set aa _⟩
   . rcases aK with⟨e1,rfl⟩|⟨e1,rfl,h5,h6,h7⟩
     . exact .inl ⟨by rw[k9,e1],rfl⟩
     . refine .inr ⟨e1,i1,rfl, ?_,aa,by simp only[ab.aW];omega⟩;rw[bE _ _ _ _ aa,bE _ _ _ _ aa];exact h5
def aa9{h:ab}{B M i:Nat}{N:List Br}(hb:gX h B M i N)(ok:eC N)(v3:∀x∈N,x.1<3){n:Nat}(hn:n<N.length+2):
 ∃v H',bU E 209 [.pointer (some ⟨B,0,none⟩),.int .i64 n] h v H'/\(∃sl,v=.agg #[sl,.int .i64 (k9 N n).1]/\uB h.next H' sl (k9 N n).2.2)/\Sub h H':=aa8 (hb.stat ok v3) hn
end Go.Sp
end
noncomputable section
open Go Go.aD Go.Proofs
namespace Go.Sp
def aba(h:ab):∃v H',bU E 268 [] h v H'/\v=.pointer (some ⟨h.next+1,0,none⟩)/\H'=(h.new (.map [] 0)).new (.row [.slice none 0 0,.map (some h.next)] true 0):=by
 refine run Tryz.ntmps268 Tryz.results268 (K:=λv H'=>v=.pointer (some ⟨h.next+1,0,none⟩)/\H'=(h.new (.map [] 0)).new (.row [.slice none 0 0,.map (some h.next)] true 0)) ?_;simp(disch:=first|omega|(simp only[ab.bb,ab.aW,bS];omega)) [go_sem,aG,du,eh,gA,bO,dC,bE,ey]
def abb{h:ab}{d0 d1 d2:oe}(k0:d0.ok h)(k1:d1.ok h)(k2:d2.ok h)(r0:d0.r<d0.ns.length+2)(r1:d1.r<d1.ns.length+2)(r2:d2.r<d2.ns.length+2){fo:Nat}{cap:List Value}{op:Bool->Bool->Bool->Bool}
 (ah:∀H,Sub h H->∀x y z,bU E fo ([.bool x,.bool y,.bool z]++cap) H (.bool (op x y z)) H):
 ∃v H',bU E 239 [.agg #[d0.sl,.int .i64 d0.r,d1.sl,.int .i64 d1.r,d2.sl,.int .i64 d2.r],.func (.func fo) #[] cap.toArray] h v H'/\
  (∃sl N n,v=.agg #[sl,.int .i64 (k9 N n).1]/\uB h.next H' sl (k9 N n).2.2/\eC N/\(∀x∈N,x.1<3)/\n<N.length+2/\∀ρ,tb N n ρ=op (tb d0.ns d0.r ρ) (tb d1.ns d1.r ρ) (tb d2.ns d2.r ρ))/\Sub h H':=by
 refine run Tryz.ntmps239 Tryz.results239 (K:=λv H'=>(∃sl N n,v=.agg #[sl,.int .i64 (k9 N n).1]/\uB h.next H' sl (k9 N n).2.2/\eC N/\(∀x∈N,x.1<3)/\n<N.length+2/\∀ρ,tb N n ρ=op (tb d0.ns d0.r ρ) (tb d1.ns d1.r ρ) (tb d2.ns d2.r ρ))/\Sub h H') ?_;simp(disch:=first|omega|(simp only[ab.bb,ab.aW,bS];omega)) [go_sem,aG,du,eh,gA,bO,dC,bE,ey];obtain⟨_,_,hb,rfl,rfl⟩:=aba (((h.new (.row [d0.sl,.int .i64 d0.r,d1.sl,.int .i64 d1.r,d2.sl,.int .i64 d2.r] true 0)).new (.row [.func (.func fo) #[] cap.toArray] true 0)).new (.row [.slice none 0 0,.int .i64 0] true 0));refine KC.mk hb ?_;simp(disch:=first|omega|(simp only[ab.bb,ab.aW,bS];omega)) [go_sem,aG,du,eh,gA,bO,dC,bE,ey];refine kQ [⟨.read,0,some (0,2)⟩,dP 0,bc 0,bc 4,dP 12,bc 0,bc 32,dP 96,bc 0,bc 256,dP 768,bc 2044,fN 4094,fN 8191,fN 16383] an 0 rfl ?_;simp(disch:=first|omega|(simp only[ab.bb,ab.aW,bS];omega)) [go_sem,dT,aG,du,eh,gA,bO,dC,bE,ey];have S:yK h.next h d0 d1 d2 fo cap op:=⟨rfl,k0,k1,k2,ah⟩;refine KC.of (IK S (d0.r+d1.r+d2.r+1) d0.r d1.r d2.r _ h.next [] [] aa r0 r1 r2 ⟨?_, ?_, ?_, ?_, ?_, ?_, ?_,⟨⟨.slice none 0 0, ?_,.inl ⟨rfl,rfl⟩⟩,⟨[],0, ?_,rfl⟩,aa, ?_⟩,λh=>absurd rfl h, ?_,⟨[],0, ?_,rfl⟩,⟨λk x hx=>by simp at hx,aw⟩,λx hx=>by simp at hx,λx y z r hr=>by simp[bq]at hr⟩) ?_
 . repeat first|exact Sub.refl _|refine Sub.new ?_ _|refine Sub.set ?_ aa _
 . simp only[ab.bb,ab.aW];omega
 . simp(disch:=first|omega|(simp only[ab.bb,ab.aW,bS];omega)) only[bE,bO,dC,ey]
 . simp(disch:=first|omega|(simp only[ab.bb,ab.aW,bS];omega)) only[bE,bO,dC,ey]
 . simp(disch:=first|omega|(simp only[ab.bb,ab.aW,bS];omega)) only[bE,bO,dC,ey]
 . simp(disch:=first|omega|(simp only[ab.bb,ab.aW,bS];omega)) only[bE,bO,dC,ey]
 . simp(disch:=first|omega|(simp only[ab.bb,ab.aW,bS];omega)) only[bE,bO,dC,ey];rfl
 . simp(disch:=first|omega|(simp only[ab.bb,ab.aW,bS];omega)) only[bE,bO,dC,ey]
 . simp(disch:=first|omega|(simp only[ab.bb,ab.aW,bS];omega)) only[bE,bO,dC,ey]
 . simp only[ab.bb,ab.aW];omega
 . simp only[ab.bb,ab.aW];omega
 . simp(disch:=first|omega|(simp only[ab.bb,ab.aW,bS];omega)) only[bE,bO,dC,ey]
 . rintro _ H1 ⟨r,i1,N1,L1,rfl,I1,aA,ae,ai,⟨aC,aj⟩,aE⟩;have h4:H1.get (h.next+1+1)=some (.row [.slice none 0 0,.int .i64 0] true 0):=aj _ _ (by simp only[ab.bb,ab.aW];omega) aa aa aa aa (by simp(disch:=first|omega|(simp only[ab.bb,ab.aW,bS];omega)) only[bE,bO,dC,ey]);have b5:rd H1 (h.next+5) 0=some (.pointer (some ⟨h.next+4,0,none⟩)):=c8 (o:=0) I1.bC;simp(disch:=first|omega|(simp only[ab.bb,ab.aW,bS];omega)) [go_sem,dT,aG];refine KC.of (aa9 I1.wv I1.jB I1.v3 ae) ?_;rintro _ H2 ⟨⟨sl,rfl,af⟩,ad⟩;have aH:=I1.nx;have ao:=ad.get _ _ aa h4;have av:dF sl=true:=by rcases af with⟨_,rfl⟩|⟨_,b,rfl,_⟩<;>rfl
   have aJ:=ad.next;simp(disch:=first|omega|(simp only[ab.bb,ab.aW,bS];omega)) [go_sem,ao,av];refine⟨⟨?_,b5⟩,⟨sl,N1,r,⟨rfl,rfl⟩, ?_,I1.jB,λv l u hx=>I1.v3 _ hx,ae,ai⟩,(I1.sub.trans ad).set aa _⟩
   . simp(disch:=first|omega|(simp only[ab.bb,ab.aW,bS];omega)) [eh,du,gA,E5];rfl
   . have az:=I1.sub.next;rcases af with⟨q1,q2⟩|⟨q1,b,q2,q3,q4,q5⟩
     . exact .inl ⟨q1,q2⟩
     . refine .inr ⟨q1,b,q2, ?_,aa,by simp only[ab.aW];omega⟩;rw[bE _ _ _ _ aa];exact q3
def idx(ρ:dz):Nat:=(if ρ 0 then 1 else 0)+(if ρ 1 then 2 else 0)+(if ρ 2 then 4 else 0)
def CY(ρ:dz):idx ρ<8:=by unfold idx;cases ρ 0<;>cases ρ 1<;>cases ρ 2<;>simp
def abc(ρ:dz):∀w,w<3->ρ w=bX (idx ρ) w:=λw hw=>by
 unfold idx;have:w=0\/w=1\/w=2:=aa;rcases this with rfl|rfl|rfl<;>cases ρ 0<;>cases ρ 1<;>cases ρ 2<;>rfl
def wy(c:Nat)(ρ:dz):Bool:=c.testBit (7-idx ρ)
def IN(f:dz->Bool)(k:Nat)(hk:k<8):(code f).testBit (7-k)=f (bX k):=by
 have h1:∀b:Bool,decide ((if b then 1 else 0:Nat)=1)=b:=aA;rw[ux,Nat.testBit_eq_decide_div_mod_eq,<-h1 (f (bX k)),decide_eq_decide];have:=eD (f (bX 0));have:=eD (f (bX 1));have:=eD (f (bX 2));have:=eD (f (bX 3));have:=eD (f (bX 4));have:=eD (f (bX 5));have:=eD (f (bX 6));have:=eD (f (bX 7));have:k=0\/k=1\/k=2\/k=3\/k=4\/k=5\/k=6\/k=7:=aa;rcases this with rfl|rfl|rfl|rfl|rfl|rfl|rfl|rfl<;>simp only[Nat.reducePow,Nat.reduceSub]<;>omega
def CZ(f:dz->Bool):Prop:=∀ρ ae:dz,(∀w,w<3->ρ w=ae w)->f ρ=f ae
def yQ{f:dz->Bool}(hf:CZ f)(ρ:dz):wy (code f) ρ=f ρ:=by
 rw[wy,IN f _ (CY ρ)];exact hf _ _ λw hw=>(abc ρ w hw).symm
def ja(c v:Nat)(b:Bool):Nat:=code λρ=>wy c (c9 ρ v b)
def yR{f:dz->Bool}(hf:CZ f)(v:Nat)(b:Bool):ja (code f) v b=code λρ=>f (c9 ρ v b):=by
 unfold ja;congr 1
 funext ρ
 exact yQ hf _
def uC(c:Nat):Option Br:=
 if ja c 0 false≠ja c 0 true then some (0,ja c 0 false,ja c 0 true)
 else if ja c 1 false≠ja c 1 true then some (1,ja c 1 false,ja c 1 true)
 else if ja c 2 false≠ja c 2 true then some (2,ja c 2 false,ja c 2 true)
 else none
section
variable {N:List Br} (h:eC N) (v3:∀x∈N,x.1<3)
include h v3
def yS{n:Nat}(hn:n<N.length+2):CZ (tb N n):=λρ ae=>CU h v3 n ρ ae hn
def IP{n m:Nat}(hn:n<N.length+2)(hm:m<N.length+2)(he:code (tb N n)=code (tb N m)):n=m:=by
 refine CM h (N.length+2) n m aa aa hn hm λρ=> ?_;rw[<-yQ (yS h v3 hn),<-yQ (yS h v3 hm),he]
def abd{n:Nat}(hn:n<N.length+2):uC (code (tb N n))=(jC N n).map λx=>(x.1,code (tb N x.2.1),code (tb N x.2.2)):=by
 have hd:=yS h v3 hn;have low:∀w,w<3->w<ck N n->ja (code (tb N n)) w false=ja (code (tb N n)) w true:=λw hw hl=>by
  rw[yR hd,yR hd];congr 1
  funext ρ
  rw[iF h hn hl,iF h hn hl]
 by_cases h2:n<2
 . have hl:ck N n=64:=od h2;simp only[uC,jC,if_pos h2,low 0 aa aa,low 1 aa aa,low 2 aa aa,ne_eq,not_true_eq_false,if_false,afw]
 . obtain⟨⟨v,l,u⟩,hx⟩:∃x,N[n-2]? =some x:=⟨_,oY aa⟩;obtain⟨_,h4,h5,af,h6,h7⟩:=h.ok _ _ hx;have hv:=v3 _ (WZ hx);simp only at h4 h5 af h6 h7 hv;have hl:ck N n=v:=lU aa hx;have hf:ja (code (tb N n)) v false=code (tb N l):=by
    rw[yR hd];congr 1
    funext ρ
    rw[kG h aa hx,show c9 ρ v false v=false by simp[c9]];simp only[UR,if_false];exact iF h aa h6 ρ false
   have ht:ja (code (tb N n)) v true=code (tb N u):=by
    rw[yR hd];congr 1
    funext ρ
    rw[kG h aa hx,show c9 ρ v true v=true by simp[c9]];simp only[if_true];exact iF h aa h7 ρ true
   have ad:code (tb N l)≠code (tb N u):=λe=>af (IP h v3 aa aa e);have ah:v=0\/v=1\/v=2:=aa;rcases ah with rfl|rfl|rfl
   . simp only[uC,jC,if_neg h2,hx,Fj,hf,ht,if_pos ad]
   . simp only[uC,jC,if_neg h2,hx,Fj,hf,ht,if_pos ad,low 0 aa aa,ne_eq,not_true_eq_false,if_false]
   . simp only[uC,jC,if_neg h2,hx,Fj,hf,ht,if_pos ad,low 0 aa aa,low 1 aa aa,ne_eq,not_true_eq_false,if_false]
end
def mp(φ:Nat->Nat)(l:List (Nat×Nat)):List (Nat×Nat):=l.map λp=>(φ p.1,p.2)
def IQ{φ:Nat->Nat}{D:Nat}(hi:∀n m,n<D->m<D->φ n=φ m->n=m):∀(l:List (Nat×Nat)) (n:Nat),n<D->(∀p∈l,p.1<D)->bq (mp φ l) (φ n)=bq l n
 |[],_,_,_=>rfl
 |(k,v)::r,n,hn,hl=>by
  have hk:=hl (k,v) aw;simp only[mp,Ey,bq];by_cases e:n=k
  . subst e;simp
  . rw[if_neg e,if_neg λe'=>e (hi _ _ hn hk e')];exact IQ hi r n hn λp hp=>hl p (Yt _ hp)
def IS{φ:Nat->Nat}{D:Nat}(hi:∀n m,n<D->m<D->φ n=φ m->n=m)(v:Nat):∀(l:List (Nat×Nat)) (n:Nat),n<D->(∀p∈l,p.1<D)->put (mp φ l) (φ n) v=mp φ (put l n v)
 |[],_,_,_=>rfl
 |(k,w)::r,n,hn,hl=>by
  have hk:=hl (k,w) aw;simp only[mp,Ey,put];by_cases e:n=k
  . subst e;simp
  . rw[if_neg e,if_neg λe'=>e (hi _ _ hn hk e')];simp only[Ey];congr 1;exact IS hi v r n hn λp hp=>hl p (Yt _ hp)
def IT{D:Nat}{v:Nat}:∀(l:List (Nat×Nat)) (n:Nat),n<D->(∀p∈l,p.1<D)->∀p∈put l n v,p.1<D
 |[],n,hn,_,p,hp=>by
  simp only[put,afn]at hp;subst hp;exact hn
 |(k,w)::r,n,hn,hl,p,hp=>by
  simp only[put]at hp
  split at hp
  . rcases Rb.1 hp with rfl|hp
    . exact hn
    . exact hl p (Yt _ hp)
  . rcases Rb.1 hp with rfl|hp
    . exact hl _ aw
    . exact IT r n hn (λp hp=>hl p (Yt _ hp)) p hp
def C0{node ab:Nat->Option Br}{φ:Nat->Nat}{D:Nat}(hi:∀n m,n<D->m<D->φ n=φ m->n=m)(hs:∀n,n<D->ab (φ n)=(node n).map λx=>(x.1,φ x.2.1,φ x.2.2))(hd:∀n x,n<D->node n=some x->x.2.1<D/\x.2.2<D):
 ∀(k n:Nat) (s:Seen),n<D->(∀p∈s.1,p.1<D)->gJ ab k (φ n) (mp φ s.1,s.2)=((gJ node k n s).1,(mp φ (gJ node k n s).2.1,(gJ node k n s).2.2))/\∀p∈(gJ node k n s).2.1,p.1<D
 |0,_,_,_,hl=>⟨rfl,hl⟩
 |k+1,n,(seen,out),hn,hl=>by
  simp only[gJ];rw[IQ hi seen n hn hl];cases bq seen n with
  |some m=>exact⟨rfl,hl⟩
  |none=>
   simp only;rw[hs n hn];cases hx:node n with
   |none=>exact⟨rfl,hl⟩
   |some x=>
    obtain⟨h1,h2⟩:=hd n x hn hx;obtain⟨a1,a2⟩:=C0 hi hs hd k x.2.1 (seen,out) h1 hl;obtain⟨b1,b2⟩:=C0 hi hs hd k x.2.2 (gJ node k x.2.1 (seen,out)).2 h2 a2;simp only[Fj];simp only at a1;rw[a1];simp only;rw[b1];simp only;exact⟨by rw[IS hi _ _ _ hn b2],IT _ _ hn b2⟩
def eL(c:Nat):Nat×Seen:=gJ uC 4 c ([(0,0),(255,1)],[])
def abe{N:List Br}(h:eC N)(v3:∀x∈N,x.1<3){n:Nat}(hn:n<N.length+2):(k9 N n).1=(eL (code (tb N n))).1/\(k9 N n).2.2=(eL (code (tb N n))).2.2:=by
 obtain⟨h1,_⟩:=C0 (φ:=λn=>code (tb N n)) (λn m=>IP h v3) (λn=>abd h v3) (λn x hn hx=>by
  have:=yO h n x hx;omega) 4 n ([(0,0),(1,1)],[]) hn (λp hp=>by
  simp only[Rb,afh,or_false]at hp;rcases hp with rfl|rfl<;>simp only<;>omega)
 have e0:code (tb N 0)=0:=by simp[ux,aaN]
 have e1:code (tb N 1)=255:=by simp[ux,aaO]
 simp only[mp,Ey,List.map_nil,e0,e1]at h1;unfold eL k9;rw[h1];exact⟨rfl,rfl⟩
end Go.Sp
end
noncomputable section
open Go Go.aD Go.Proofs
namespace Go.Sp
def C1(c:Nat):Bool:=
 let d:=eL c
 let N:=d.2.2
 decide (N.length<=20)&&decide (d.1<N.length+2)&&(N.zipIdx.all λp=>decide (p.1.1<3)&&decide (p.1.2.1<p.2+2)&&decide (p.1.2.2<p.2+2)&&decide (p.1.2.1≠p.1.2.2)&&decide (p.1.1<ck N p.1.2.1)&&decide (p.1.1<ck N p.1.2.2))&&
  decide N.Nodup&&(code (tb N d.1)).beq c
def abf:(Rm 256).all C1=true:=an
def abg{c:Nat}(hc:c<256):C1 c=true:=afI.1 abf c (afc.2 hc)
structure abh(c:Nat)(N:List Br)(r:Nat):Prop where
 len:N.length<=20
 rl:r<N.length+2
 ok:eC N
 v3:∀x∈N,x.1<3
 set:∀ρ,tb N r ρ=wy c ρ
def C2{c:Nat}(hc:c<256):abh c (eL c).2.2 (eL c).1:=by
 have h:=abg hc;obtain⟨N,hN⟩:∃N,(eL c).2.2=N:=⟨_,rfl⟩;obtain⟨r,hr⟩:∃r,(eL c).1=r:=⟨_,rfl⟩;simp only[C1,hN,hr,afJ,decide_eq_true_eq,afI]at h;obtain⟨⟨⟨⟨h1,h2⟩,h3⟩,h4⟩,h5⟩:=h;have ab:∀k x,N[k]? =some x->((((x.1<3/\x.2.1<k+2)/\x.2.2<k+2)/\x.2.1≠x.2.2)/\x.1<ck N x.2.1)/\x.1<ck N x.2.2:=λk x hx=>by
  have:=h3 (x,k) (List.mem_zipIdx_iff_getElem?.2 hx);simpa only[afJ,decide_eq_true_eq]using this
 have ok:eC N:=⟨λk x hx=>by
  obtain⟨⟨⟨⟨⟨a1,a2⟩,a3⟩,a4⟩,a5⟩,a6⟩:=ab k x hx;exact⟨aa,a2,a3,a4,a5,a6⟩,h4⟩
 have v3:∀x∈N,x.1<3:=λx hx=>by
  obtain⟨k,hk⟩:=List.getElem?_of_mem hx;exact(ab k x hk).1.1.1.1.1
 rw[hN,hr];refine⟨h1,h2,ok,v3,λρ=> ?_⟩;rw[<-yQ (yS ok v3 h2) ρ,Nat.eq_of_beq_eq_true h5]
abbrev acy(n:Nat):DV:=.v (.int .u64 n)
def pl(w:Nat):List DV:=[.v (.int .u64 w),.v (.int .u64 0),.v (.int .u64 0),.v (.int .u64 0),.v (.int .u64 0),.v (.int .u64 0),.v (.int .u64 0),.v (.int .u64 0)]
structure dM where
 p:List aY
 first:Nat
 last:Nat
 follow:List Nat
 empty:Bool
def dM.e(m:dM):List DV:=[.sl 5 (m.p.map aY.e)]++pl m.first++pl m.last++[.sl 8 (m.follow.map pl),bV m.empty]
def gK:dM:=⟨pd,1,3,[2,2,0,0],false⟩
def Dm:dM:=⟨BR,3,27,[24,24,0,24,24,0,0,0],false⟩
def uI:dM:=⟨mm,1,7,[6,6,6,0,0,0],false⟩
def Jy:List aY:=[⟨1,97,122,0,0⟩,⟨1,48,57,0,0⟩,⟨4,0,0,1,0⟩,⟨2,0,0,0,2⟩,⟨1,43,43,0,0⟩,⟨2,0,0,3,4⟩]
def sH:dM:=⟨Jy,1,16,[18,18,0,0,0,0],false⟩
def Jz:List aY:=[⟨1,42,42,0,0⟩,⟨1,43,43,0,0⟩,⟨2,0,0,0,1⟩,⟨1,97,122,0,0⟩,⟨4,0,0,3,0⟩,⟨2,0,0,2,4⟩]
def JA:dM:=⟨Jz,1,10,[2,8,0,8,0,0],false⟩
def JB:List aY:=[⟨1,32,32,0,0⟩,⟨1,120,120,0,0⟩,⟨2,0,0,0,1⟩]
def JC:dM:=⟨JB,1,2,[2,0,0],false⟩
def gL:List dM:=[gK,Dm,uI,sH,JA,JC]
def np:∀m∈gL,ay E true 150 [.sl 5 (m.p.map aY.e)] (iV 0):=bW an
def nq(w:Nat):Nat:=((Rm 8).find? λi=>w.testBit i).getD 0
def acz:∀w∈Rm 255,ay E true 250 [acy (w+1)] (iV (nq (w+1):Nat)):=bW an
end Go.Sp
end
noncomputable section
open Go
namespace Go.aD
def pQ(h:ab):Nat->Prop:=λi=>i<h.next
structure qR(W:World)(ρ:aH)(h:ab):Prop where
 w:bA ρ h W
 ro:∀i o,h.get i=some o->o.wr=false
 z:h.get ez=some (.row jm false 0)
 r0:ρ ez=some ⟨ez,0,64,64,0,λ_=>True⟩
 gl:∀g,g<ez+1->∃pl,ρ g=some pl/\pl.bh=g/\pl.off=0
structure kJ(ρ:aH)(h:ab)(ae:aH)(h':ab):Prop where
 ext:Ext ρ ae
 next:h.next<=h'.next
 same:∀i,i<h.next->h'.get i=h.get i
def kJ.refl(ρ:aH)(h:ab):kJ ρ h ρ h:=⟨Ext.refl _,yx _,λ_ _=>rfl⟩
def kJ.trans{ρ ae ai:aH}{h h' h2:ab}(a:kJ ρ h ae h')(b:kJ ae h' ai h2):kJ ρ h ai h2:=
 ⟨λi p hi=>b.ext _ _ (a.ext _ _ hi),afk a.next b.next,λi hi=>(b.same i (Q0 hi a.next)).trans (a.same i hi)⟩
def kJ.aP{ρ ae:aH}{h h':ab}(a:kJ ρ h ae h'):∀i r,aD.aP h (pQ h) i=some r->aD.aP h' (pQ h') i=some r:=
 iA λi hi=>⟨Q0 hi a.next,a.same i hi⟩
def Rd(W:World)(v:Value)(d:DV):Prop:=∀ρ h,qR W ρ h->∃ae h' av,qR W ae h'/\kJ ρ h ae h'/\aQ ae av v/\Rel (aP h' (pQ h')) av d
def iI(W:World)(vs:List Value)(ds:List DV):Prop:=∀ρ h,qR W ρ h->∃ae h' ad,qR W ae h'/\kJ ρ h ae h'/\bQ ae ad vs/\cj (aP h' (pQ h')) ad ds
def Rd.int(W:World)(k:IntKind)(n:Int):Rd W (.int k n) (.v (.int k n)):=λρ h x=>⟨ρ,h,_,x,kJ.refl _ _,.int k n,.v _⟩
theorem iI.nil(W:World):iI W [] []:=λρ h x=>⟨ρ,h,[],x,kJ.refl _ _,.nil,.nil⟩
def iI.cons{W:World}{v:Value}{vs:List Value}{d:DV}{ds:List DV}(a:Rd W v d)(b:iI W vs ds):iI W (v::vs) (d::ds):=λρ h x=>by
 obtain⟨aj,h1,av,x1,g1,r1,q1⟩:=a ρ h x;obtain⟨ai,h2,ad,x2,g2,r2,q2⟩:=b aj h1 x1;exact⟨ai,h2,av::ad,x2,g1.trans g2,.cons (r1.mono g2.ext) r2,.cons (q1.mono g2.aP) q2⟩
def iI.append{W:World}{vs aG:List Value}{ds aJ:List DV}(a:iI W vs ds)(b:iI W aG aJ):iI W (vs++aG) (ds++aJ):=λρ h x=>by
 obtain⟨aj,h1,av,x1,g1,r1,q1⟩:=a ρ h x;obtain⟨ai,h2,ad,x2,g2,r2,q2⟩:=b aj h1 x1;exact⟨ai,h2,av++ad,x2,g1.trans g2,aU.append (r1.mono g2.ext) r2,aU.append (q1.mono g2.aP) q2⟩
def Rd.agg{W:World}{vs:List Value}{ds:List DV}(a:iI W vs ds):Rd W (.agg vs.toArray) (.agg ds):=λρ h x=>by
 obtain⟨aj,h1,av,x1,g1,r1,q1⟩:=a ρ h x;refine⟨aj,h1,.agg av.toArray,x1,g1,.agg (by simpa using r1.length) λi v v' hv az=> ?_,Rel.dG q1⟩;have hv:av[i]? =some v:=by simpa using hv
 have az:vs[i]? =some v':=by simpa using az
 obtain⟨b,hb,hr⟩:=r1.get i v hv;rw[az]at hb;cases hb;exact hr
def qR.row{W:World}{ρ:aH}{h:ab}(x:qR W ρ h){b off:Nat}{c:Array Value}{el:TypeId}{fz:Nat×Nat}(hb:W.heap[b]? =some (.cells c el fz)){cs:List Value}(hn:off+cs.length<=c.size)(h0:cs≠[])(hv:bQ ρ cs ((c.toList.drop off).take cs.length)):
 qR W (ρ.put h.next ⟨b,off,cs.length,cs.length,0,λ_=>True⟩) (h.new (.row cs false 0))/\kJ ρ h (ρ.put h.next ⟨b,off,cs.length,cs.length,0,λ_=>True⟩) (h.new (.row cs false 0)):=by
 have an:ρ h.next=none:=by
  cases hp:ρ h.next with
  |none=>rfl
  |some pl=>exact absurd (x.w.hD _ _ hp) (Nat.lt_irrefl _)
 have hx:Ext ρ (ρ.put h.next ⟨b,off,cs.length,cs.length,0,λ_=>True⟩):=aH.rm _ an;have hold:∀i,i<h.next->(h.new (.row cs false 0)).get i=h.get i:=λi hi=>bO _ _ _ (Nat.ne_of_lt hi);have aA:(h.new (.row cs false 0)).get h.next=some (.row cs false 0):=qe _ _;have hz:ez<h.next:=x.w.hD _ _ x.r0;have each:∀i o,(h.new (.row cs false 0)).get i=some o->(i=h.next/\o=.row cs false 0)\/h.get i=some o:=λi o hi=>by
  by_cases he:i=h.next
  . subst he;rw[aA]at hi;cases hi;exact .inl ⟨rfl,rfl⟩
  . rw[bO _ _ _ he]at hi;exact .inr hi
 refine⟨⟨⟨λi pl hi=> ?_,λi o hi=> ?_,λi j o p pi pj aS h1 h2=> ?_⟩,λi o hi=> ?_, ?_,hx _ _ x.r0,λg hg=>let⟨pl,a,b⟩:=x.gl g hg;⟨pl,hx _ _ a,b⟩⟩,⟨hx,Nat.le_succ _,hold⟩⟩
 . show i<h.next+1;by_cases he:i=h.next
   . omega
   . rw[aH.jL _ _ he]at hi;have:=x.w.hD _ _ hi;omega
 . rcases each i o hi with⟨rfl,rfl⟩|hi
   . exact⟨_,aH.kM _ _ _,c,el,fz,hb,λh=>(by cases h),rfl,rfl,yx _,hn,λ_=>rfl,hv.mono hx,λh=>absurd h h0⟩
   . obtain⟨pl,h1,h2⟩:=x.w.obj i o hi;exact⟨pl,hx _ _ h1,h2.mono hx rfl⟩
 . rcases each i o h1 with⟨_,rfl⟩|h1
   . cases h2
   . rw[x.ro i o h1]at h2;cases h2
 . rcases each i o hi with⟨_,rfl⟩|hi
   . rfl
   . exact x.ro i o hi
 . rw[hold ez hz];exact x.z
def Rd.sl{W:World}{a:Addr}{len cap k:Nat}(hk:0<k)(hl:len<=cap){cells:List Value}(hc:cells.length=cap*k)(ah:∀j,j<cap*k->W.cell? (a.add j)=cells[j]?){xs:List (List DV)}(hx:xs.length=cap)(aK:∀x∈xs,x.length=k)(hr:iI W cells xs.flatten):Rd W (.slice (some a) len cap) (.sl k (xs.take len)):=λρ h x=>by
 rcases Nat.eq_zero_or_pos cap with h0|aC
 . subst h0;obtain rfl:len=0:=aa;refine⟨ρ,h,.slice (some ⟨ez,0,none⟩) 0 0,x,kJ.refl _ _,.sl x.r0 (.inr ⟨rfl,rfl,rfl⟩), ?_⟩;have hz:ez<h.next:=x.w.hD _ _ x.r0;exact Rel.sl (xs:=[]) (ak:=0) (o:=0) (rS (G:=pQ h) hz x.z) (.inl rfl) hk (yx _) (λx hx=>by cases hx) aw (λj x i v d h1=>by simp at h1)
 . obtain⟨aj,h1,ad,x1,g1,r1,q1⟩:=hr ρ h x;have ao:ad.length=cap*k:=by rw[r1.length,hc]
   have aM:0<cap*k:=Nat.mul_pos aC hk;obtain⟨b,off,sp⟩:=a;obtain⟨c,el,fz,hb,aO⟩:∃c el fz,W.heap[b]? =some (.cells c el fz)/\sp=none:=by
    have h3:=ah 0 aM;rw[oY aa]at h3;simp only[World.cell?,Addr.add,if_true]at h3
    split at h3
    . rename_i c el fz hb;refine⟨c,el,fz,hb, ?_⟩;cases sp with
      |none=>rfl
      |some s=>simp at h3
    . cases h3
   subst aO;have af:∀j,j<cap*k->c[off+j]? =cells[j]? :=λj hj=>by
    have h3:=ah j hj;have e:Addr.add ⟨b,off,none⟩ j=⟨b,off+j,none⟩:=by
     unfold Addr.add
     split
     . subst_vars;rfl
     . rfl
    rw[e]at h3;simpa[World.cell?,hb]using h3
   have aT:off+cap*k<=c.size:=by
    have h3:=af (cap*k-1) aa;rw[oY aa]at h3;have:=(Array.getElem?_eq_some_iff.1 h3).1;omega
   have aR:(c.toList.drop off).take ad.length=cells:=by
    rw[ao];apply List.ext_getElem?;intro j;rw[afK]
    split
    . rename_i hj;rw[List.getElem?_drop,Array.getElem?_toList];exact af j hj
    . rename_i hj;rw[List.getElem?_eq_none aa]
   obtain⟨y1,y2⟩:=x1.row (off:=off) hb (cs:=ad) aa (λh=>by rw[h]at ao;simp at ao;omega) (by rw[aR];exact r1);refine⟨_,_,.slice (some ⟨h1.next,0,none⟩) len cap,y1,g1.trans y2,.sl (aH.kM _ _ _) (.inl ⟨aw,.inl rfl⟩), ?_⟩;have aL:(xs.take len).length=len:=by rw[List.length_take];omega
   have aE:aP (h1.new (.row ad false 0)) (pQ (h1.new (.row ad false 0))) h1.next=some (ad,0):=rS (wr:=false) (afp _) (qe _ _);have:=Rel.sl (R:=aP (h1.new (.row ad false 0)) (pQ (h1.new (.row ad false 0)))) (b:=h1.next) (o:=0) (c:=cap) (xs:=xs.take len) aE (.inl rfl) hk aa (λx hx=>aK x (List.mem_of_mem_take hx)) (by rw[aL,ao,Xt];exact Nat.mul_le_mul_right _ hl) (λj x i v d e1 e2 e3=>by
    rw[afK]at e1
    split at e1
    . have e4:=Go.Sp.sc j i x d aK e1 e2;rw[Xt]at e3;exact(q1.rR e3 e4).mono y2.aP
    . cases e1)
   rwa[aL]at this
def Rd.sln(W:World){k:Nat}(hk:0<k)(c:Nat):Rd W (.slice none 0 c) (.sl k []):=λρ h x=>⟨ρ,h,_,x,kJ.refl _ _,.ki 0 c,.jO hk⟩
end Go.aD
end

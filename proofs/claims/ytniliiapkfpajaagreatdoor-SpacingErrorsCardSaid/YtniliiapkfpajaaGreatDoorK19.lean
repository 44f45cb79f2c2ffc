/- Parts of a proof. -/
import Derived.Test.YtniliiapkfpajaaGreatDoorK18
open List renaming all_eq_true->oY,range->yx,getElem?_eq_getElem->Q0,mem_of_getElem?->Rb,getElem?_eq_some_iff->Yt,mem_map->YN,length_map->afd,mem_cons->afe,not_mem_nil->aff,replicate->afg,getElem?_map->afk,drop_eq_nil_of_le->afl,map_append->afr,map->afs,mem_append->aft,drop_eq_getElem_cons->afv,foldl_cons->afw,take_of_length_le->afA,map_cons->afB,length_filter_le->afD,any_map->afE,nil_append->afI,flatten_append->afJ,flatten_cons->afK,length_set->afL,mem_or_eq_of_mem_set->afM,range_succ->afS,filter_append->afT
open BitVec renaming ofInt->Ey,ofNat->afh,toNat_ofNat->afm
open Iff renaming rfl->Fj
open Nat renaming le_of_ble_eq_true->HT,or_lt_two_pow->Rm,le_refl->UR,two_pow_pos->WZ,blt->Xt,lt_of_lt_of_le->adr,pow_le_pow_right->afc,mod_eq_of_lt->afn,beq->afo,eq_of_beq_eq_true->afp,ble->afq,and_le_left->afu,add_sub_cancel_left->afz,pow_lt_pow_right->afF,lt_of_le_of_lt->afG
open Bool renaming and_eq_true->afi,or_eq_true->afj,false_eq_true->afU
open Option renaming bind_some->afx,isSome->afH
open Int renaming toNat_natCast->afy,le_refl->afC,natCast_ediv->afN,natCast_pow->afO,cast_ofNat_Int->afP,emod_lt_of_pos->afQ,emod_nonneg->afR
set_option linter.all false
set_option maxRecDepth 100000
noncomputable section
open Go Go.aD Go.Proofs
namespace Go.Sp
def wrap_u64{x:Int}(h1:0<=x)(h2:x<256):IntKind.u64.wrap x=x:=by
 simp[IntKind.wrap,IntKind.bits,IntKind.signed];omega
def zd(a:Nat):Ey IntKind.u64.bits (a:Int)=afh 64 a:=by simp[IntKind.bits]
def sI(a b:Nat)(ha:a<256)(hb:b<256):IntKind.u64.wrap (((Ey IntKind.u64.bits (a:Int)|||Ey IntKind.u64.bits (b:Int)).toNat:Nat):Int)=((a|||b:Nat):Int):=by
 have h:a|||b<2^8:=Rm ha hb;rw[zd,zd];show IntKind.u64.wrap (((afh 64 a|||afh 64 b:BitVec 64).toNat:Nat):Int)=_;rw[BitVec.toNat_or,afm,afm,afn aa,afn aa];exact wrap_u64 aa aa
def Dn(a b:Nat)(ha:a<256)(hb:b<256):IntKind.u64.wrap (((Ey IntKind.u64.bits (a:Int)&&&Ey IntKind.u64.bits (b:Int)).toNat:Nat):Int)=((a&&&b:Nat):Int):=by
 have h:a&&&b<=a:=afu;rw[zd,zd];show IntKind.u64.wrap (((afh 64 a&&&afh 64 b:BitVec 64).toNat:Nat):Int)=_;rw[BitVec.toNat_and,afm,afm,afn aa,afn aa];exact wrap_u64 aa aa
def acA{a b:Nat}(ha:a<256)(hb:b<256):a|||b<256:=Rm (n:=8) ha hb
theorem nr(h:ah):h.up h.next=h:=rfl
def acB{i:Nat}(hi:i<8):2^i<256/\IntKind.u64.wrap ((2:Int)^i)=((2^i:Nat):Int):=by
 have:i=0\/i=1\/i=2\/i=3\/i=4\/i=5\/i=6\/i=7:=aa;rcases this with rfl|rfl|rfl|rfl|rfl|rfl|rfl|rfl<;>exact⟨aA,aA⟩
set_option maxHeartbeats 4000000 in
def JD{ar:Bool}{K:b9}{dd:List FuncId}{h:ah}{R w i z:Nat}(hw:w<256)(hi:i<8)(hR:h.get R=some (.row (pl w) true z))(hk:∀T,K (.bf []) dd (h.set R (some (.row (pl (w|||2^i)) true z))) T):
 au E ar K dd h (217,[.v (.pointer (some ⟨R,0,none⟩)),iV (i:Nat)]):=by
 refine fw Tryz.ntmps217 Tryz.results217 ?_;obtain⟨h2,h3⟩:=acB hi;have e1:(i:Int).tdiv 64=0:=Int.tdiv_eq_zero_of_lt aa aa;have e2:(i:Int).tmod 64=i:=Int.tmod_eq_of_lt aa aa;refine aL ?_;refine bH [ae 0,ae 0,ae 2,ae 1,ae 15,aC 31,ae 0,ae 64,ae 192,ae 511,ae 1,ae 2047,aT 4095] an 0 rfl ?_;have h4:=sI w (2^i) hw h2;simp(disch:=omega)[go_sem,h3]at h4;simp(disch:=omega)[go_sem,hR,pl,e1,e2,h3,h4,aG,dT,nr];exact hk
set_option maxHeartbeats 4000000 in
def sJ{ar:Bool}{K:b9}{dd:List FuncId}{h:ah}{R a b z:Nat}(ha:a<256)(hb:b<256)(hR:h.get R=some (.row (pl a) true z))(av:R<h.next)
 (hk:∀h' T,h'.next=h.next+1->h'.get R=some (.row (pl (a|||b)) true z)->(∀i,i<h.next->i≠R->h'.get i=h.get i)->K (.bf []) dd h' T):
 au E ar K dd h (215,[.v (.pointer (some ⟨R,0,none⟩)),.agg (pl b)]):=by
 refine fw Tryz.ntmps215 Tryz.results215 ?_;have h4:=sI a b ha hb;have h5:=sI 0 0 aA aA;simp(disch:=omega)[go_sem]at h4 h5;obtain⟨N,hN⟩:∃N,h.next=N:=⟨_,rfl⟩;rw[hN]at av hk;simp(disch:=omega)[go_sem,hN,pl];obtain⟨I,hI⟩:∃I:Nat->DS->Prop,∀j d,I j d↔∃(k:Nat) (H:ah),j+k=8/\H.next=N+1/\H.get R=some (.row (pl (if k=0 then a else a|||b)) true z)/\H.get N=some (.row (pl b) true 0)/\(∀i,i<N->i≠R->H.get i=h.get i)/\
  d=⟨bw [(0,.v (.pointer (some ⟨R,0,none⟩))),(3,.v (.pointer (some ⟨N,0,none⟩))),(5,iV (k:Nat))],20,[],H⟩:=⟨_,λ_ _=>Fj⟩
 refine bM I 8 ⟨_,aB.bk (l:=[(0,.v (.pointer (some ⟨R,0,none⟩))),(3,.v (.pointer (some ⟨N,0,none⟩))),(5,iV (0:Nat))]) ai,(hI _ _).2 ⟨0,_,rfl, ?_, ?_, ?_, ?_,rfl⟩⟩ ?_
 . simp(disch:=omega)[go_sem,hN]
 . simp(disch:=omega)[go_sem,hN,hR]
 . simp(disch:=omega)[go_sem,hN,pl]
 . intro i h1 h2;simp(disch:=omega)[go_sem,hN]
 . intro j ds ad;obtain⟨k,H,hj,hH,f1,f2,f3,rfl⟩:=(hI _ _).1 ad;clear ad;by_cases aw:k=8
   . subst aw;refine aL ?_;intro T;exact hk _ T aa f1 f3
   . by_cases af:k=0
     . subst af;simp only[if_true]at f1;refine aL ?_;refine bH [ae 0,ae 0,ae 1,ae 7,aC 15,ae 0,ae 32,aC 96,ae 255,ae 1,ae 1023,aT 2047] an 0 rfl ?_;simp(disch:=omega)[go_sem,f1,f2,pl,h4,dT,nr,aG];refine⟨7,aa,_,aB.bk (l:=[(0,.v (.pointer (some ⟨R,0,none⟩))),(3,.v (.pointer (some ⟨N,0,none⟩))),(5,iV (1:Nat))]) ai,(hI _ _).2 ⟨1,_,rfl, ?_, ?_, ?_, ?_,rfl⟩⟩
       . simp(disch:=omega)[go_sem,hH]
       . simp(disch:=omega)[go_sem,pl]
       . simp(disch:=omega)[go_sem,f2]
       . intro i h1 h2;simp(disch:=omega)[go_sem,f3,h1,h2]
     . rw[if_neg af]at f1;have az:(k:Int)<8:=aa;have ab:∀c:Nat,(pl c)[k]? =some (.v (.int .u64 0)):=λc=>by
        have:k=1\/k=2\/k=3\/k=4\/k=5\/k=6\/k=7:=aa;rcases this with rfl|rfl|rfl|rfl|rfl|rfl|rfl<;>rfl
       have aE:∀c:Nat,(pl c).take k++[.v (.int .u64 0)]++(pl c).drop (k+1)=pl c:=λc=>by
        have:k=1\/k=2\/k=3\/k=4\/k=5\/k=6\/k=7:=aa;rcases this with rfl|rfl|rfl|rfl|rfl|rfl|rfl<;>rfl
       simp(disch:=omega)[go_sem,az];refine bH [ae 0,ae 0,ae 1,ae 7,aC 15,ae 0,ae 32,aC 96,ae 255,ae 1,ae 1023,aT 2047] an 0 rfl ?_;have hlen:∀c:Nat,(pl c).length=8:=λc=>rfl;have aj:(pl (a|||b)).take k++.v (.int .u64 0)::(pl (a|||b)).drop (k+1)=pl (a|||b):=by simpa using aE (a|||b)
       have aH:∀c x,x∈(pl c).drop (k+1)->cD x=true:=λc x hx=>by
        have hx:=List.mem_of_mem_drop hx;simp only[pl,afe,aff,or_false]at hx;rcases hx with rfl|rfl|rfl|rfl|rfl|rfl|rfl|rfl<;>rfl
       simp(disch:=omega)[go_sem,f1,f2,dT,nr,aG,ab,h5,hlen,aj,show k<=7 from by omega];refine⟨j-1,aa,_,aB.bk (l:=[(0,.v (.pointer (some ⟨R,0,none⟩))),(3,.v (.pointer (some ⟨N,0,none⟩))),(5,iV (k+1:Nat))]) ai,(hI _ _).2 ⟨k+1,_,aa, ?_,ai, ?_, ?_,rfl⟩⟩
       . simp(disch:=omega)[go_sem,hH]
       . simp(disch:=omega)[go_sem,f2]
       . intro i h1 h2;simp(disch:=omega)[go_sem,f3,h1,h2]
set_option maxHeartbeats 4000000 in
def acC{ar:Bool}{K:b9}{dd:List FuncId}{h:ah}{R a b z:Nat}(ha:a<256)(hb:b<256)(hR:h.get R=some (.row (pl a) true z))(av:R<h.next)
 (hk:∀N,h.next<=N->K (bV (decide (a&&&b≠0))) dd (h.up N) [R]):
 au E ar K dd h (219,[.v (.pointer (some ⟨R,0,none⟩)),.agg (pl b)]):=by
 refine uE [R] Tryz.ntmps219 Tryz.results219 ?_;simp only[eS,hR];have h4:=Dn a b ha hb;have h5:=Dn 0 0 aA aA;simp(disch:=omega)[go_sem]at h4 h5;obtain⟨N,hN⟩:∃N,h.next=N:=⟨_,rfl⟩;rw[hN]at av hk;simp(disch:=omega)[go_sem,hN,pl];obtain⟨I,hI⟩:∃I:Nat->DS->Prop,∀j d,I j d↔∃(k:Nat) (H:ah),j+k=8/\(k≠0->a&&&b=0)/\H.next=N+1/\H.get R=some (.row (pl a) true z)/\H.get N=some (.row (pl b) true 0)/\
  d=⟨bw [(0,.v (.pointer (some ⟨R,0,none⟩))),(3,.v (.pointer (some ⟨N,0,none⟩))),(6,iV (k:Nat))],20,[],H⟩:=⟨_,λ_ _=>Fj⟩
 refine bM I 8 ⟨_,aB.bk (l:=[(0,.v (.pointer (some ⟨R,0,none⟩))),(3,.v (.pointer (some ⟨N,0,none⟩))),(6,iV (0:Nat))]) ai,(hI _ _).2 ⟨0,_,rfl,λh=>absurd rfl h, ?_, ?_, ?_,rfl⟩⟩ ?_
 . simp(disch:=omega)[go_sem,hN]
 . simp(disch:=omega)[go_sem,hN,hR];try rfl
 . simp(disch:=omega)[go_sem,hN,pl]
 . intro j ds ad;obtain⟨k,H,hj,hz,hH,f1,f2,rfl⟩:=(hI _ _).1 ad;clear ad;by_cases aw:k=8
   . subst aw;have aJ:=hz aA;refine aL ?_;refine⟨by first|rw[f1,hR]|simp[hR,pl], ?_⟩;have:=hk (N+1) aa;simpa[aJ,hH]using this
   . by_cases af:k=0
     . subst af;refine aL ?_;refine bH [ae 0,ae 0,ae 1,ae 7,aC 15,ae 0,ae 32,aC 96,ae 255,ae 511] an 0 rfl ?_;by_cases ao:a&&&b=0
       . simp(disch:=omega)[go_sem,f1,f2,pl,h4,ao,dT,nr,aG];refine⟨7,aa,_,aB.bk (l:=[(0,.v (.pointer (some ⟨R,0,none⟩))),(3,.v (.pointer (some ⟨N,0,none⟩))),(6,iV (1:Nat))]) ?_,(hI _ _).2 ⟨1,_,rfl,λ_=>ao,hH,f1,f2,rfl⟩⟩;exact ai
       . simp(disch:=omega)[go_sem,f1,f2,pl,h4,ao,dT,nr,aG];refine⟨by first|rw[f1,hR]|simp[hR,pl], ?_⟩;have:=hk (N+1) aa;simpa[ao,hH]using this
     . have az:(k:Int)<8:=aa;have ab:∀c:Nat,(pl c)[k]? =some (.v (.int .u64 0)):=λc=>by
        have:k=1\/k=2\/k=3\/k=4\/k=5\/k=6\/k=7:=aa;rcases this with rfl|rfl|rfl|rfl|rfl|rfl|rfl<;>rfl
       have hlen:∀c:Nat,(pl c).length=8:=λc=>rfl;simp(disch:=omega)[go_sem,az];refine bH [ae 0,ae 0,ae 1,ae 7,aC 15,ae 0,ae 32,aC 96,ae 255,ae 511] an 0 rfl ?_;simp(disch:=omega)[go_sem,f1,f2,dT,nr,aG,ab,h5,hlen];refine⟨j-1,aa,_,aB.bk (l:=[(0,.v (.pointer (some ⟨R,0,none⟩))),(3,.v (.pointer (some ⟨N,0,none⟩))),(6,iV (k+1:Nat))]) ?_,(hI _ _).2 ⟨k+1,_,aa,λ_=>hz af,hH,f1,f2,rfl⟩⟩;exact ai
def acD(w:Nat)(h0:0<w)(h1:w<256):ay E true 250 [.v (.int .u64 (w:Nat))] (iV (nq w:Nat)):=by
 have:=acz (w-1) (by simp;omega);rwa[show w-1+1=w by omega]at this
def acE(w:Nat)(h1:w<256):nq w<8/\(0<w->w&&&(w-1)<w):=by
 have h:((yx 256).all λw=>Xt (nq w) 8&&(afo w 0||Xt (w&&&(w-1)) w))=true:=an;have h2:=oY.1 h w (by simpa using h1);simp only[afi,afj]at h2;refine⟨HT h2.1,λh0=> ?_⟩;rcases h2.2 with h3|h3
 . have:=afp h3;omega
 . exact HT h3
def acF(w:Nat)(h0:0<w)(h1:w<256):IntKind.u64.wrap (((Ey IntKind.u64.bits (w:Int)&&&Ey IntKind.u64.bits (IntKind.u64.wrap ((w:Int)-1))).toNat:Nat):Int)=((w&&&(w-1):Nat):Int):=by
 rw[show((w:Int)-1)=((w-1:Nat):Int) by omega,wrap_u64 (x:=((w-1:Nat):Int)) aa aa];exact Dn w (w-1) h1 aa
set_option maxHeartbeats 4000000 in
def JE{K:b9}{dd:List FuncId}{h:ah}{w R:Nat}(hw:w<256)(f:FuncId)(ab:List DV)(Inv:Nat->ah->Prop)(hR:∀w' H,Inv w' H->∃z,H.get R=some (.row (pl w) true z))
 (ao:∀w' H (K':b9) aM,0<w'->w'<256->Inv w' H->(∀H' T,Inv (w'&&&(w'-1)) H'->K' (.bf []) aM H' T)->au E true K' aM H (f,iV (nq w':Nat)::ab))
 (aP:∀w' H M,H.next<=M->Inv w' H->Inv w' (H.up M)) (h0:Inv w h) (hk:∀H' T,Inv 0 H'->K (.bf []) dd H' T):
 au E true K dd h (213,[.v (.pointer (some ⟨R,0,none⟩)),.fn f [] ab]):=by
 refine fw Tryz.ntmps213 Tryz.results213 ?_;refine aL ?_;obtain⟨I,hI⟩:∃I:Nat->DS->Prop,∀j d,I j d↔∃(k:Nat) (H:ah),j+k=8/\Inv (if k=0 then w else 0) H/\
  d=⟨bw [(1,.fn f [] ab),(6,.v (.pointer (some ⟨R,0,none⟩))),(7,iV (k:Nat))],27,[],H⟩:=⟨_,λ_ _=>Fj⟩
 refine bM I 8 ⟨_,aB.bk (l:=[(1,.fn f [] ab),(6,.v (.pointer (some ⟨R,0,none⟩))),(7,iV (0:Nat))]) ai,(hI _ _).2 ⟨0,_,rfl,h0,rfl⟩⟩ ?_
 . intro j ds av;obtain⟨k,H,hj,af,rfl⟩:=(hI _ _).1 av;clear av;by_cases aR:k=8
   . subst aR;refine aL ?_;intro T;exact hk _ T af
   . have aS:(k:Int)<8:=aa;obtain⟨z,f1⟩:=hR _ _ af;have az:(pl w)[k]? =some (.v (.int .u64 ((if k=0 then w else 0:Nat):Nat))):=by
      have:k=0\/k=1\/k=2\/k=3\/k=4\/k=5\/k=6\/k=7:=aa;rcases this with rfl|rfl|rfl|rfl|rfl|rfl|rfl|rfl<;>rfl
     generalize hv:(if k=0 then w else 0)=v at af az;have aE:v<256:=by split at hv<;>omega
     have aT:v=0\/k=0:=by split at hv<;>omega
     clear hv;simp(disch:=omega)[go_sem,aS];refine bH [ae 0,ae 0,ae 2,aC 6,ae 1,ae 31] an 0 rfl ?_;simp(disch:=omega)[go_sem,f1,dT,nr,az];obtain⟨J,hJ⟩:∃J:Nat->DS->Prop,∀j d,J j d↔∃(H:ah),j<256/\(j=0\/k=0)/\Inv j H/\
      d=⟨bw [(1,.fn f [] ab),(4,iV (k:Nat)),(5,.v (.int .u64 (j:Nat))),(6,.v (.pointer (some ⟨R,0,none⟩))),(7,iV (k:Nat))],27,[],H⟩:=⟨_,λ_ _=>Fj⟩
     refine bM J v ⟨_,aB.bk (l:=[(1,.fn f [] ab),(4,iV (k:Nat)),(5,.v (.int .u64 (v:Nat))),(6,.v (.pointer (some ⟨R,0,none⟩))),(7,iV (k:Nat))]) ai,(hJ _ _).2 ⟨_,aE,aT,af,rfl⟩⟩ ?_
     . intro u ds av;obtain⟨H,hu,aZ,af,rfl⟩:=(hJ _ _).1 av;clear av;by_cases aO:u=0
       . subst aO;simp(disch:=omega)[go_sem,aG];refine⟨j-1,aa,_,aB.bk (l:=[(1,.fn f [] ab),(6,.v (.pointer (some ⟨R,0,none⟩))),(7,iV (k+1:Nat))]) ?_,(hI _ _).2 ⟨k+1,_,aa,by rw[if_neg aa];exact af,rfl⟩⟩;exact ai
       . have aV:k=0:=aa;subst aV;obtain⟨ht,aj⟩:=acE u hu;have aj:=aj aa;have aW:=acD u aa hu;have h6:=acF u aa hu;replace h6:=cr h6;simp(disch:=omega)[go_sem,aO];refine au.mk aW λM hM=> ?_;simp(disch:=omega)[go_sem,aG];refine ao u _ _ _ aa hu (aP _ _ _ hM af) λH' T aJ=> ?_;simp(disch:=omega)[go_sem,h6];refine⟨u&&&(u-1),aj,_,aB.bk (l:=[(1,.fn f [] ab),(4,iV (0:Nat)),(5,.v (.int .u64 ((u&&&(u-1):Nat):Nat))),(6,.v (.pointer (some ⟨R,0,none⟩))),(7,iV (0:Nat))]) ?_,(hJ _ _).2 ⟨_,aa,.inr rfl,aJ,rfl⟩⟩;exact ai
def kH(m:dM)(b:Int)(i:Nat)(s:Nat×Nat):Nat×Nat:=match m.p[i]?,m.follow[i]? with
 |some x,some f=>if x.lo<=b/\b<=x.hi then(s.1|||2^i,s.2|||f)else s
 |_,_=>s
structure dM.Ok(m:dM):Prop where
 first:m.first<2^m.p.length
 last:m.last<2^m.p.length
 follow:∀f∈m.follow,f<2^m.p.length
 len:m.p.length<=8
 ze:m.follow.length=m.p.length
def Dp:∀m∈gL,m.Ok:=by
 have h:(gL.all λm=>Xt m.first (2^m.p.length)&&Xt m.last (2^m.p.length)&&(m.follow.all λf=>Xt f (2^m.p.length))&&afq m.p.length 8&&afo m.follow.length m.p.length)=true:=an;intro m hm;have:=oY.1 h m hm;simp only[afi,oY]at this;obtain⟨⟨⟨⟨h1,h2⟩,h3⟩,h4⟩,h5⟩:=this;exact⟨HT h1,HT h2,λf hf=>HT (h3 f hf),HT h4,afp h5⟩
def dM.Ok.pow{m:dM}(hm:m.Ok){x:Nat}(h:x<2^m.p.length):x<256:=adr h (afc (n:=2) aA hm.len)
theorem dM.zf(m:dM):m.e=[.sl 5 (m.p.map aY.e),.v (.int .u64 m.first),.v (.int .u64 0),.v (.int .u64 0),.v (.int .u64 0),.v (.int .u64 0),.v (.int .u64 0),.v (.int .u64 0),.v (.int .u64 0),.v (.int .u64 m.last),.v (.int .u64 0),.v (.int .u64 0),.v (.int .u64 0),.v (.int .u64 0),.v (.int .u64 0),.v (.int .u64 0),.v (.int .u64 0),.sl 8 (m.follow.map pl),bV m.empty]:=rfl
theorem eY(c:Nat):(pl c).length=8:=rfl
theorem jc(c:Nat):(pl c).drop 8=[]:=rfl
def ik(c:Nat):(∀d∈pl c,cD d=true)=True:=eq_true λd hd=>by
 simp only[pl,afe,aff,or_false]at hd;rcases hd with rfl|rfl|rfl|rfl|rfl|rfl|rfl|rfl<;>rfl
theorem gM(c:Nat):(pl c).take 8=pl c:=rfl
def JF:E.P.underlying 9=some .string:=an
def Dq(t:ByteArray)(n:Nat)(b:UInt8)(h:t[n]? =some b):mQ E 9 (sV t) (iV (n:Nat))=some (.v (.int .u8 b.toNat)):=by
 have:=WY (e:=E) JF u9 t .i64 (n:Int) b aa (by simpa using h);simp[mQ,this]
set_option maxHeartbeats 4000000 in
def acG{K:b9}{dd:List FuncId}{h:ah}{m:dM}(hm:m.Ok){i n s x Bs Bn Bm Br Bx:Nat}{t:ByteArray}{b:UInt8}(hi:i<m.p.length)(hb:t[n]? =some b)(hs:s<256)(hx:x<256)
 (g1:h.get Bs=some (.row [sV t] true 0)) (g2:h.get Bn=some (.row [iV (n:Nat)] true 0)) (g3:h.get Bm=some (.row [.ptr m.e 0] true 0)) (g4:h.get Br=some (.row (pl s) true 0)) (g5:h.get Bx=some (.row (pl x) true 0))
 (ad:Br≠Bx/\Bs≠Br/\Bs≠Bx/\Bn≠Br/\Bn≠Bx/\Bm≠Br/\Bm≠Bx) (ba:Br<h.next/\Bx<h.next)
 (hk:∀h' T,h.next<=h'.next->h'.get Br=some (.row (pl (kH m b.toNat i (s,x)).1) true 0)->h'.get Bx=some (.row (pl (kH m b.toNat i (s,x)).2) true 0)->(∀j,j<h.next->j≠Br->j≠Bx->h'.get j=h.get j)->K (.bf []) dd h' T):
 au E true K dd h (218,[iV (i:Nat),.v (.pointer (some ⟨Bs,0,none⟩)),.v (.pointer (some ⟨Bn,0,none⟩)),.v (.pointer (some ⟨Bm,0,none⟩)),.v (.pointer (some ⟨Br,0,none⟩)),.v (.pointer (some ⟨Bx,0,none⟩))]):=by
 refine fw Tryz.ntmps218 Tryz.results218 ?_;obtain⟨p,hp⟩:∃p,m.p[i]? =some p:=⟨_,Q0 hi⟩;obtain⟨f,hf⟩:∃f,m.follow[i]? =some f:=⟨_,Q0 (by rw[hm.ze];exact hi)⟩;have bb:i<m.follow.length:=by rw[hm.ze];exact hi
 have hlen:=hm.len;rw[dM.zf]at g3;have aH:=Dq t n b hb;have bc:b.toNat<256:=b.toNat_lt;have aX:=hm.pow (hm.follow f (Rb hf));have aK:(m.follow.map pl)[i]? =some (pl f):=by rw[afk,hf];rfl
 by_cases c1:p.lo<=(b.toNat:Int)
 . by_cases c2:(b.toNat:Int)<=p.hi
   . have hv:kH m b.toNat i (s,x)=(s|||2^i,x|||f):=by simp only[kH,hp,hf];rw[if_pos ⟨c1,c2⟩]
     rw[hv]at hk;simp(disch:=omega)[go_sem,g1,g2,g3,hp,aH,-getElem?_pos,aY.e,aG,c1,c2];refine JD hs aa g4 λT=> ?_;simp(disch:=omega)[go_sem,g1,g2,g3,g4,g5,hp,aH,-getElem?_pos,aY.e,aG,c1,c2,ad.1,ad.2.1,ad.2.2.1,ad.2.2.2.1,ad.2.2.2.2.1,ad.2.2.2.2.2.1,aK,eY,gM];refine sJ (z:=0) hx aX (by simp(disch:=omega)[go_sem,g5,ad.1.symm]) (by simp(disch:=omega)[go_sem];omega) λh' T q1 q2 q3=> ?_;simp(disch:=omega)[go_sem]at q1 q3;refine aL ?_;intro T2;refine hk _ T2 aa ?_ q2 λj j1 j2 j3=> ?_
     . rw[q3 Br aa ad.1];simp
     . rw[q3 j aa j3];simp[j2]
   . have hv:kH m b.toNat i (s,x)=(s,x):=by simp only[kH,hp,hf];rw[if_neg (λh=>c2 h.2)]
     rw[hv]at hk;simp(disch:=omega)[go_sem,g1,g2,g3,hp,aH,-getElem?_pos,aY.e,aG,c1,c2];intro T;exact hk _ T (UR _) g4 g5 λ_ _ _ _=>rfl
 . have hv:kH m b.toNat i (s,x)=(s,x):=by simp only[kH,hp,hf];rw[if_neg (λh=>c1 h.1)]
   rw[hv]at hk;simp(disch:=omega)[go_sem,g1,g2,g3,hp,aH,-getElem?_pos,aY.e,aG,c1];intro T;exact hk _ T (UR _) g4 g5 λ_ _ _ _=>rfl
def JG{m:dM}(hm:m.Ok)(b:Int)(i:Nat)(hi:i<m.p.length)(s:Nat×Nat)(h1:s.1<2^m.p.length)(h2:s.2<2^m.p.length):(kH m b i s).1<2^m.p.length/\(kH m b i s).2<2^m.p.length:=by
 unfold kH
 split
 . rename_i x f hp hf
   split
   . exact⟨Rm h1 (afF aA hi),Rm h2 (hm.follow f (Rb hf))⟩
   . exact⟨h1,h2⟩
 . exact⟨h1,h2⟩
def JH:Nat->Nat->List Nat
 |0,_=>[]
 |k+1,w=>if w=0 then []else nq w::JH k (w&&&(w-1))
def bits(w:Nat):List Nat:=JH 8 w
theorem JI:bits 0=[]:=rfl
def JJ(w:Nat)(h0:0<w)(h1:w<256):bits w=nq w::bits (w&&&(w-1)):=by
 have h:((yx 256).all λw=>afo w 0||decide (bits w=nq w::bits (w&&&(w-1))))=true:=an;have h2:=oY.1 h w (by simpa using h1);simp only[afj,decide_eq_true_eq]at h2;rcases h2 with h2|h2
 . have:=afp h2;omega
 . exact h2
def JK(w n:Nat)(h0:0<w)(h1:w<2^n)(hn:n<=8):nq w<n:=by
 have h:((yx 9).all λn=>(yx 256).all λw=>afo w 0||afq (2^n) w||Xt (nq w) n)=true:=an;have h3:w<256:=adr h1 (afc (n:=2) aA hn);have h2:=oY.1 (oY.1 h n (by simp;omega)) w (by simpa using h3);simp only[afj]at h2;rcases h2 with(h2|h2)|h2
 . have:=afp h2;omega
 . have:=HT h2;omega
 . exact HT h2
def sK(m:dM)(b:Int)(now:Nat):Nat×Nat:=(bits now).foldl (λs i=>kH m b i s) (0,0)
def peq(w:Nat)(hw:w<256):iC E .eql 253 (.tmp 21) (.tmp 22) (.agg (pl w)) (.agg (pl 0))=some (bV (decide (w=0))):=by
 have h:((yx 256).all λw=>match iC E .eql 253 (.tmp 21) (.tmp 22) (.agg (pl w)) (.agg (pl 0))with|some (.v (.bool b))=>b==decide (w=0)|_=>false)=true:=an;have h2:=oY.1 h w (by simpa using hw)
 split at h2
 . rename_i b hb;rw[hb,eq_of_beq h2]
 . cases h2
def runM{γ:Type}(m:dM)(c9:γ->Nat->Bool->γ):Nat->Nat->List UInt8->γ->γ
 |_,_,[],g=>g
 |now,n,b::r,g=>if(sK m b.toNat now).1=0 then g else runM m c9 (sK m b.toNat now).2 (n+1) r (c9 g (n+1) (decide ((sK m b.toNat now).1&&&m.last≠0)))
def JL{m:dM}(hm:m.Ok)(b:Int):∀(l:List Nat) (s:Nat×Nat),(∀i∈l,i<m.p.length)->s.1<2^m.p.length->s.2<2^m.p.length->(l.foldl (λs i=>kH m b i s) s).1<2^m.p.length/\(l.foldl (λs i=>kH m b i s) s).2<2^m.p.length
 |[],s,_,h1,h2=>⟨h1,h2⟩
 |i::l,s,h,h1,h2=>by
  obtain⟨h3,h4⟩:=JG hm b i (h i aw) s h1 h2;exact JL hm b l _ (λj hj=>h j (List.mem_cons_of_mem _ hj)) h3 h4
def acH(n:Nat)(hn:n<=8):∀w,w<2^n->∀i∈bits w,i<n:=by
 have h:((yx 9).all λn=>(yx 256).all λw=>afq (2^n) w||(bits w).all λi=>Xt i n)=true:=an;intro w h1 i hi;have h3:w<256:=adr h1 (afc (n:=2) aA hn);have h2:=oY.1 (oY.1 h n (by simp;omega)) w (by simpa using h3);simp only[afj,oY]at h2;rcases h2 with h2|h2
 . have:=HT h2;omega
 . exact HT (h2 i hi)
def acI{m:dM}(hm:m.Ok)(b:Int)(now:Nat)(h:now<2^m.p.length):(sK m b now).1<2^m.p.length/\(sK m b now).2<2^m.p.length:=
 JL hm b _ _ (acH _ hm.len _ h) (WZ _) (WZ _)
def Dr{γ:Type}(cb:FuncId)(af:List DV)(B N0:Nat)(h0:ah)(val:γ->DV)(c9:γ->Nat->Bool->γ):Prop:=
 ∀(K:b9) (dd:List FuncId) (H:ah) (n:Nat) (is:Bool) (g:γ),N0<=H.next->(∀i,i<N0->i≠B->H.get i=h0.get i)->H.get B=some (.row [val g] true 0)->
  (∀h' T,(∀i∈T,i<N0)->H.next<=h'.next->h'.get B=some (.row [val (c9 g n is)] true 0)->(∀j,j≠B->j<H.next->h'.get j=H.get j)->K (bV true) dd h' T)->au E true K dd H (cb,iV (n:Nat)::bV is::af)
def jd(h:ab)(s:ByteArray):fK E h 9 (.string s)=some (.int .i64 s.size):=by simp[fK,u9]
def drop_cons{t:ByteArray}{k:Nat}(h:k<t.size):∃b,t[k]? =some b/\t.data.toList.drop k=b::t.data.toList.drop (k+1):=by
 refine⟨t[k],by rw[getElem?_pos], ?_⟩;have hl:k<t.data.toList.length:=by simpa using h
 rw[afv hl];rfl
set_option maxHeartbeats 8000000 in
def Ds{γ:Type}{K:b9}{dd:List FuncId}{h:ah}{m:dM}(hm:m.Ok)(t:ByteArray)(hlen:t.size<=1000000000)(cb:FuncId)(af:List DV)(B:Nat)(val:γ->DV)(c9:γ->Nat->Bool->γ)(g:γ)
 (hB:h.get B=some (.row [val g] true 0)) (aP:B<h.next) (aJ:Dr cb af B h.next h val c9)
 (hk:∀h' T,h.next<=h'.next->h'.get B=some (.row [val (runM m c9 m.first 0 t.data.toList g)] true 0)->(∀i,i<h.next->i≠B->h'.get i=h.get i)->K (.bf []) dd h' T):
 au E true K dd h (152,[.ptr m.e 0,sV t,.fn cb [] af]):=by
 refine fw Tryz.ntmps152 Tryz.results152 ?_;obtain⟨N,hN⟩:∃N,h.next=N:=⟨_,rfl⟩;obtain⟨G,hG⟩:∃G,runM m c9 m.first 0 t.data.toList g=G:=⟨_,rfl⟩;obtain⟨me,aE⟩:∃me,m.e=me:=⟨_,rfl⟩;have aj:=dM.zf m;rw[aE]at aj;rw[hG]at hk;rw[hN]at aP aJ hk;simp(disch:=omega)[go_sem,hN,aE];simp(disch:=omega)[go_sem,hN,aj,jd];obtain⟨I,hI⟩:∃I:Nat->DS->Prop,∀j d,I j d↔∃(k now:Nat) (g':γ) (H:ah),j+k=t.size/\now<2^m.p.length/\runM m c9 now k (t.data.toList.drop k) g'=G/\N+2<H.next/\H.get N=some (.row [.ptr me 0] true 0)/\H.get (N+1)=some (.row [sV t] true 0)/\H.get (N+2)=some (.row (pl now) true 0)/\H.get B=some (.row [val g'] true 0)/\(∀i,i<N->i≠B->H.get i=h.get i)/\
  d=⟨bw [(2,.fn cb [] af),(3,.v (.pointer (some ⟨N,0,none⟩))),(4,.v (.pointer (some ⟨N+1,0,none⟩))),(6,.v (.pointer (some ⟨N+2,0,none⟩))),(15,iV (t.size:Nat)),(16,iV (k:Nat))],38,[],H⟩:=⟨_,λ_ _=>Fj⟩
 refine bM I t.size ⟨_,aB.bk (l:=[(2,.fn cb [] af),(3,.v (.pointer (some ⟨N,0,none⟩))),(4,.v (.pointer (some ⟨N+1,0,none⟩))),(6,.v (.pointer (some ⟨N+2,0,none⟩))),(15,iV (t.size:Nat)),(16,iV (0:Nat))]) ai,(hI _ _).2 ⟨0,m.first,g,_,rfl,hm.first,hG, ?_, ?_, ?_, ?_, ?_, ?_,rfl⟩⟩ ?_
 . simp(disch:=omega)[go_sem,hN]
 . simp(disch:=omega)[go_sem,hN,aj]
 . simp(disch:=omega)[go_sem,hN]
 . simp(disch:=omega)[go_sem,hN,pl]
 . simp(disch:=omega)[go_sem,hN,hB]
 . intro i h1 h2;simp(disch:=omega)[go_sem,hN]
 . intro j ds aK;obtain⟨k,now,g',H,hj,ao,ad,hH,f1,f2,f3,f4,f5,rfl⟩:=(hI _ _).1 aK;clear aK;by_cases aR:k<t.size
   . have av:(k:Int)<t.size:=aa;obtain⟨b,aS,aV⟩:=drop_cons aR;rw[aV]at ad;have aH:=acI hm b.toNat now ao;simp only[runM]at ad;obtain⟨P,hP⟩:∃P,H.next=P:=⟨_,rfl⟩;rw[hP]at hH;simp(disch:=omega)[go_sem,av,hP];refine JE (hm.pow ao) 218 _ (λw H'=>∃s x:Nat,w<2^m.p.length/\s<2^m.p.length/\x<2^m.p.length/\(bits w).foldl (λs i=>kH m b.toNat i s) (s,x)=sK m b.toNat now/\P+2<H'.next/\H'.get (P+1)=some (.row (pl s) true 0)/\H'.get (P+1+1)=some (.row (pl x) true 0)/\H'.get P=some (.row [iV (k:Nat)] true 0)/\∀i,i<P->H'.get i=H.get i) ?_ ?_ ?_ ?_ ?_
     . rintro w' H' ⟨s,x,h1,h2,h3,h4,h5,h6,h7,h8,h9⟩;exact⟨0,by rw[h9 _ hH,f3]⟩
     . rintro w' H' K' aX aM az ⟨s,x,h1,h2,h3,h4,h5,h6,h7,h8,h9⟩ aW;rw[JJ w' aM az,afw]at h4;have aO:=JK w' _ aM h1 hm.len;have hv:=JG hm b.toNat _ aO (s,x) h2 h3;refine acG hm (s:=s) (x:=x) (n:=k) (t:=t) (b:=b) aO aS (hm.pow h2) (hm.pow h3) (by rw[h9 _ aa,f2]) h8 (by rw[h9 _ aa,f1,aE]) h6 h7 ⟨aa,aa,aa,aa,aa,aa,aa⟩ ⟨aa,aa⟩ λh' T q1 q2 q3 q4=>aW _ T ⟨_,_,afG afu h1,hv.1,hv.2,h4,aa,q2,q3, ?_,λi hi=> ?_⟩
       . rw[q4 P aa aa aa,h8]
       . rw[q4 i aa aa aa,h9 i hi]
     . rintro w' H' M hM ⟨s,x,h1,h2,h3,h4,h5,h6,h7,h8,h9⟩;exact⟨s,x,h1,h2,h3,h4,by rw[ah.gR];omega,h6,h7,h8,h9⟩
     . refine⟨0,0,ao,WZ _,WZ _,rfl, ?_, ?_, ?_, ?_,λi hi=> ?_⟩
       all_goals simp(disch:=omega)[go_sem,hP,pl]
     . rintro H' T ⟨s,x,_,h2,h3,h4,h5,h6,h7,h8,h9⟩;rw[JI]at h4;have h4:(s,x)=sK m b.toNat now:=h4;rw[<-h4]at ad aH;simp only at ad aH;have heq:iC E .eql 253 (.tmp 21) (.tmp 22) (.agg (pl s)) (.agg [.v (.int .u64 0),.v (.int .u64 0),.v (.int .u64 0),.v (.int .u64 0),.v (.int .u64 0),.v (.int .u64 0),.v (.int .u64 0),.v (.int .u64 0)])=some (bV (decide (s=0))):=peq s (hm.pow h2);have e1:H'.get N=some (.row [.ptr me 0] true 0):=by rw[h9 _ aa,f1]
       have e2:H'.get (N+1)=some (.row [sV t] true 0):=by rw[h9 _ aa,f2]
       have e3:H'.get (N+2)=some (.row (pl now) true 0):=by rw[h9 _ aa,f3]
       have e4:H'.get B=some (.row [val g'] true 0):=by rw[h9 _ aa,f4]
       refine aL ?_;refine bH [aC 0,ae 0,ae 3,ae 7,ae 15,dq 15,ae 47,aC 15,ae 143,ae 399,aC 911,aT 1935,aT 4095,ae 8191,ae 16383] an 0 rfl ?_;by_cases aA:s=0
       . rw[if_pos aA]at ad;subst ad;subst aA;simp(disch:=omega)[go_sem,h6,eY,gM,heq];intro T2;exact hk _ T2 (by rw[ah.gR];omega) e4 λi hi aw=>(by rw[ah.qj,h9 i aa,f5 i hi aw])
       . rw[if_neg aA]at ad;simp(disch:=omega)[go_sem,h6,eY,gM,heq,aA,h8,e1,aj,aG];refine⟨aa, ?_⟩;refine acC (z:=0) (a:=s) (b:=m.last) (hm.pow h2) (hm.pow hm.last) h6 (by rw[ah.gR];omega) λM hM=> ?_;rw[ah.gR]at hM;simp(disch:=omega)[go_sem,h8,aG];rw[show((k:Int)+1)=((k+1:Nat):Int) by omega];refine aJ _ _ _ (k+1) _ g' (by simp(disch:=omega)[go_sem];omega) (λi hi aw=>by simp(disch:=omega)[go_sem,h9,f5,hi,aw]) (by simp(disch:=omega)[go_sem,e4]) λh' T3 q0 q1 q2 q3=> ?_;simp(disch:=omega)[go_sem]at q1 q3;have e5:h'.get (P+1+1)=some (.row (pl x) true 0):=by rw[q3 _ aa aa,h7]
         have e6:h'.get (N+2)=some (.row (pl now) true 0):=by rw[q3 _ aa aa,e3]
         have e7:P∉T3:=λh=>by have:=q0 P h;omega
         simp(disch:=omega)[go_sem,e7,h8,e5,e6,eY,gM,jc,ik,aG];refine⟨j-1,aa,_,aB.bk (l:=[(2,.fn cb [] af),(3,.v (.pointer (some ⟨N,0,none⟩))),(4,.v (.pointer (some ⟨N+1,0,none⟩))),(6,.v (.pointer (some ⟨N+2,0,none⟩))),(15,iV (t.size:Nat)),(16,iV (k+1:Nat))]) ai,(hI _ _).2 ⟨k+1,x,_,_,aa,aH.2,ad, ?_, ?_, ?_, ?_, ?_,λi hi aw=> ?_,rfl⟩⟩
         . simp(disch:=omega)[go_sem];omega
         . simp(disch:=omega)[go_sem];rw[q3 _ aa aa,e1]
         . simp(disch:=omega)[go_sem];rw[q3 _ aa aa,e2]
         . simp(disch:=omega)[go_sem,e6]
         . simp(disch:=omega)[go_sem,q2]
         . simp(disch:=omega)[go_sem];rw[q3 _ aw aa,h9 _ aa,f5 _ hi aw]
   . have av:¬(k:Int)<t.size:=aa;have hd:t.data.toList.drop k=[]:=afl (by simp;omega);rw[hd]at ad;have ad:g'=G:=ad;subst ad;simp(disch:=omega)[go_sem,av];intro T;exact hk _ T aa f4 f5
def JM:b8 E.P (underlying 9)=some .string:=by
 simp only[underlying,mW];show b8 E.P (match E.P.underlying 9 with|some d=>pure d|none=>stuck "no such type" :Sem TypeDesc)=some .string;rw[JF];rfl
def JN(n c:Nat)(k:BoundsCode)(h:n<=c):b8 E.P (Instr.sliceBound (.int .i64 (n:Int)) c k)=some n:=by
 have h2:(n:Int)<=c:=aa;simp[Instr.sliceBound,mW,asIntOf,kB,h2,h]
def JO{α β:Type}(f:α->β)(s:Sem α):b8 E.P (Functor.map f s)=(b8 E.P s).map f:=by
 rw[<-bind_pure_comp,mW];cases b8 E.P s<;>rfl
def acJ(s:ByteArray):s.extract 0 s.size=s:=by
 have:(s.extract 0 s.size).data=s.data:=by rw[ByteArray.data_extract];exact Array.extract_size
 cases s;cases h:ByteArray.extract _ 0 _;simp_all
def acK{H0:ah}(s:ByteArray)(n:Nat)(h:n<=s.size):ed E H0 9 (some (sV s)) (some (some (iV (n:Nat)))) (some none) (some none)=some (sV (s.extract n s.size)):=by
 have h1:=JN n s.size .sliceB h;have h2:b8 E.P (Instr.sliceAt 9 (.string s) (some (.int .i64 n)) none none)=some (.string (s.extract n s.size)):=by
  simp only[Instr.sliceAt,mW,JM,afx,Instr.slice,Instr.sliceBounds,afH,kB];simp[mW,kB]at h1⊢;rw[JO,h1];simp
 simp[ed,xV,u9,qo,exact,jI,sY,plain,ep,eI,h2]
def acL{H0:ah}(s:ByteArray)(n:Nat)(h:n<=s.size):ed E H0 9 (some (sV s)) (some none) (some (some (iV (n:Nat)))) (some none)=some (sV (s.extract 0 n)):=by
 have h1:=JN n s.size .sliceAlen h;have h2:b8 E.P (Instr.sliceAt 9 (.string s) none (some (.int .i64 n)) none)=some (.string (s.extract 0 n)):=by
  simp only[Instr.sliceAt,mW,JM,afx,Instr.slice,Instr.sliceBounds,afH,kB];simp[mW,kB]at h1⊢;rw[JO,h1];simp
 simp[ed,xV,u9,qo,exact,jI,sY,plain,ep,eI,h2]
def JP{ar:Bool}{f:FuncId}{fn:Func}{c:Code}{args:List DV}{K:b9}{dd:List FuncId}{h:ah}(S:List Nat)(hS:∀i∈S,i<h.next){n:Nat}(hn:fn.ntmps=n){rs:List ResultVar}(aw:fn.results=rs.toArray)
 (hq:RD E ar c ⟨gD args,args.length+(n-args.length),[],eS h S⟩ (ib E rs λd h'=>∀_:List Nat,∀ab:ah,ab.next=h'.next->(∀i,(i∈S\/h.next<=i)->ab.get i=h'.get i)->(∀i,i<h.next->i∉S->ab.get i=h.get i)->K d dd ab S)) (az:E.fn f=some fn:=by kernel_rfl) (hb:fn.body=some c:=by rfl):au E ar K dd h (f,args):=by
 refine cJ.frame S hS ?_;exact fw (K:=λv _ ao _=>∀ab:ah,ab.next=ao.next->(∀i,(i∈S\/h.next<=i)->ab.get i=ao.get i)->(∀i,i<h.next->i∉S->ab.get i=h.get i)->K v dd ab S) (dd:=dd) hn aw hq az hb
def Dt:Nat->Nat->Bool->Nat:=λg n is=>if is then n else g
def acM(B N0:Nat)(av:B<N0)(h0:ah):Dr 220 [.v (.pointer (some ⟨B,0,none⟩))] B N0 h0 (λg:Nat=>iV (g:Nat)) Dt:=by
 intro K dd H n is g hN hold hB hk;refine JP [B] (by simp;omega) Tryz.ntmps220 Tryz.results220 ?_;simp only[eS,hB];have aH:B<H.next:=aa;cases is with
 |false=>
  refine aL ?_;intro ab q1 q2 aA q3;exact hk ab [B] (by simpa using av) aa (by rw[q2];rfl) λj ad af=>q3 j af ad
 |true=>
  refine aL ?_;intro ab q1 q2 aA q3;exact hk ab [B] (by simpa using av) aa (by rw[q2];rfl) λj ad af=>q3 j af ad
def pH(m:dM)(t:ByteArray):Nat:=runM m Dt m.first 0 t.data.toList 0
def acN(m:dM)(hm:m.Ok)(hc:ay E true 150 [.sl 5 (m.p.map aY.e)] (iV 0))(aE:ay E true 151 [.sl 5 (m.p.map aY.e)] (.ptr m.e 0))(t:ByteArray)(ht:t.size<=1000000000)(at_:Nat)(aG:at_<=t.size):
 ay E true 155 [.sl 5 (m.p.map aY.e),sV t,iV (at_:Nat)] (.bf [iV (pH m (t.extract at_ t.size):Nat),bV (decide (0<pH m (t.extract at_ t.size)))]):=by
 refine aV Tryz.ntmps155 Tryz.results155 λN=> ?_;obtain⟨me,aJ⟩:∃me,m.e=me:=⟨_,rfl⟩;refine aL ?_;refine au.mk hc λM=>aR λhM=> ?_;have jr:¬((t.size:Int)<at_):=aa;have aj:¬((at_:Int)<0):=aa;simp(disch:=omega)[go_sem,jd,jr,aj];refine bH [ae 0,aT 1,jW 0,jW 0,dq 12,ae 0,aT 63] an 0 rfl ?_;refine aL ?_;refine au.mk aE λM2=>aR λaK=> ?_;simp(disch:=omega)[go_sem,acK t at_ aG];refine Ds hm (t.extract at_ t.size) (by rw[ByteArray.size_extract];omega) _ _ M (λg:Nat=>iV (g:Nat)) Dt 0 ai (by simp(disch:=omega)[go_sem];omega) (acM M _ (by simp(disch:=omega)[go_sem];omega) _) λh' T q1 q2 q3=> ?_;obtain⟨n,hn⟩:∃n,pH m (t.extract at_ t.size)=n:=⟨_,rfl⟩;have q2:h'.get M=some (.row [iV (n:Nat)] true 0):=by rw[<-hn];exact q2
 simp(disch:=omega)[go_sem]at q1 q2;rw[hn];refine aL ?_;refine bH [aC 0,aC 0,ae 2,ae 1,ae 15] an 0 rfl ?_;simp(disch:=omega)[go_sem,q2]
def pI(t:ByteArray):Bool->Nat->Bool->Bool:=λ_ n is=>decide (n=t.size)&&is
def JQ(S B N0:Nat)(aG:B<N0)(az:S<N0)(af:S≠B)(t:ByteArray)(h0:ah)(hS:h0.get S=some (.row [sV t] true 0)):Dr 153 [.v (.pointer (some ⟨S,0,none⟩)),.v (.pointer (some ⟨B,0,none⟩))] B N0 h0 (λg:Bool=>bV g) (pI t):=by
 intro K dd H n is g hN hold hB hk;have aj:H.get S=some (.row [sV t] true 0):=by rw[hold S az af,hS]
 have aH:B<H.next:=aa;refine JP [B,S] (by simp;omega) Tryz.ntmps153 Tryz.results153 ?_;simp only[eS,hB,aj];have fin:∀(b:Bool) (ab:ah),b=pI t g n is->ab.next=H.next->ab.get B=some (.row [bV b] true 0)->ab.get S=H.get S->(∀i,i<H.next->i≠B->i≠S->ab.get i=H.get i)->K (bV true) dd ab [B,S]:=λb ab hb q1 q2 q3 q4=>
  hk ab [B,S] (by simp;omega) aa (by rw[q2,hb]) λj aA aC=>by
   by_cases ao:j=S
   . rw[ao,q3]
   . exact q4 j aC aA ao
 by_cases hn:n=t.size
 . have an:(n:Int)=t.size:=aa;cases is with
   |false=>
    simp(disch:=omega)[go_sem,jd,an];intro ab q1 q2 q3;exact fin false ab (by simp[pI]) q1 (by rw[q2 B (.inl (.inl rfl)),if_pos rfl]) (by rw[q2 S (.inl (.inr rfl)),if_neg af,if_pos rfl,aj]) q3
   |true=>
    simp(disch:=omega)[go_sem,jd,an];intro ab q1 q2 q3;exact fin true ab (by simp[pI,hn]) q1 (by rw[q2 B (.inl (.inl rfl)),if_pos rfl]) (by rw[q2 S (.inl (.inr rfl)),if_neg af,if_pos rfl,aj]) q3
 . have an:¬(n:Int)=t.size:=aa;simp(disch:=omega)[go_sem,jd,an];intro ab q1 q2 q3;exact fin false ab (by simp[pI,hn]) q1 (by rw[q2 B (.inl (.inl rfl)),if_pos rfl]) (by rw[q2 S (.inl (.inr rfl)),if_neg af,if_pos rfl,aj]) q3
def qM(m:dM)(t:ByteArray):Bool:=runM m (pI t) m.first 0 t.data.toList (decide (t=⟨#[]⟩)&&m.empty)
def acO(m:dM)(hm:m.Ok)(hc:ay E true 150 [.sl 5 (m.p.map aY.e)] (iV 0))(aE:ay E true 151 [.sl 5 (m.p.map aY.e)] (.ptr m.e 0))(t:ByteArray)(ht:t.size<=1000000000):
 ay E true 84 [.sl 5 (m.p.map aY.e),sV t] (bV (qM m t)):=by
 refine aV Tryz.ntmps84 Tryz.results84 λN=> ?_;obtain⟨r,hr⟩:∃r,qM m t=r:=⟨_,rfl⟩;have ae:∀g:Bool,g=(decide (t=⟨#[]⟩)&&m.empty)->runM m (pI t) m.first 0 t.data.toList g=r:=λg hg=>by rw[hg];exact hr
 rw[hr];refine aL ?_;refine au.mk hc λM=>cY λhM=> ?_;refine au.mk aE λM2=>aR λaJ=> ?_;have ad:=dM.zf m;by_cases h0:t=⟨#[]⟩
 . subst h0;obtain⟨me,av⟩:∃me,m.e=me:=⟨_,rfl⟩;rw[av]at ad⊢;simp(disch:=omega)[go_sem,ad];rw[<-ad,<-av];refine Ds hm ⟨#[]⟩ ht _ _ M2 (λg:Bool=>bV g) (pI ⟨#[]⟩) m.empty ai ai (JQ N M2 _ ai (by simp(disch:=omega)[go_sem];try omega) aa ⟨#[]⟩ _ ai) λh' T q1 q2 q3=> ?_;rw[ae m.empty aw]at q2;simp(disch:=omega)[go_sem,q2]
 . simp(disch:=omega)[go_sem,h0];refine Ds hm t ht _ _ M2 (λg:Bool=>bV g) (pI t) false ai ai (JQ N M2 _ ai (by simp(disch:=omega)[go_sem];try omega) aa t _ ai) λh' T q1 q2 q3=> ?_;rw[ae false (by simp[h0])]at q2;simp(disch:=omega)[go_sem,q2]
def zg{st el s b:Nat}{z:Value}(hu:E.under st=some (.slice el))(hs:E.size el=some s)(hz:E.zero el=some z)(hb:E.bytes el=some b)(aH:z.cells.toList.length=s)(aK:0<s)(aM:b<=1000){t:Tr DV}{l c:Operand}{n:Nat}(h1:aJ E t l=some (iV (n:Nat)))(h2:aJ E t c=some (iV (n:Nat)))(hn:n<=1000000){K:bJ×(Nat->DV)->Prop}
 (hk:K (.row ((dY z.cells.toList (n*s)).map .v) true 0,λi=>.v (.slice (some ⟨i,0,none⟩) n n))):aN (dV E t (.makeSlice st l c)) K:=by
 refine⟨_, ?_,hk⟩;have aS:b*n<=1000*1000000:=Nat.mul_le_mul aM hn;simp only[dV,hu,h1,h2,afx,exact,hs,hz,hb];rw[if_pos ⟨aa,aa,aa,by simp only[afy];omega,aH,aK⟩];simp
def acP:E.under 254=some (.slice 253):=an
def acQ:E.size 253=some 8:=an
def acR:E.bytes 253=some 64:=an
abbrev aX(i:Nat):DV:=.v (.pointer (some ⟨i,0,none⟩))
def acS(X Y:List DV)(c k:Nat)(hk:k<8):(X++(pl c++Y))[X.length+k]? =(pl c)[k]? :=by
 rw[List.getElem?_append_right aa,afz,List.getElem?_append_left (by rw[eY];exact hk)]
def acT(X Y:List DV)(c c' k:Nat)(v:DV)(hk:k<8)(h:(pl c).take k++v::(pl c).drop (k+1)=pl c'):(X++(pl c++Y)).take (X.length+k)++v::(X++(pl c++Y)).drop (X.length+k+1)=X++(pl c'++Y):=by
 have e1:(X++(pl c++Y)).take (X.length+k)=X++(pl c).take k:=by
  rw[List.take_append,afA aa,afz,List.take_append_of_le_length (by rw[eY];omega)]
 have e2:(X++(pl c++Y)).drop (X.length+k+1)=(pl c).drop (k+1)++Y:=by
  rw[Nat.add_assoc,List.drop_append,afl aa,afI,afz,List.drop_append_of_le_length (by rw[eY];omega)]
 rw[e1,e2,<-h];simp
set_option maxHeartbeats 4000000 in
def acU{ar:Bool}{K:b9}{dd:List FuncId}{h:ah}{R a b z o:Nat}{X Y:List DV}(ha:a<256)(hb:b<256)(hX:X.length=o)(hR:h.get R=some (.row (X++(pl a++Y)) true z))(aO:R<h.next)
 (hk:∀h' T,h'.next=h.next+1->h'.get R=some (.row (X++(pl (a|||b)++Y)) true z)->(∀i,i<h.next->i≠R->h'.get i=h.get i)->K (.bf []) dd h' T):
 au E ar K dd h (215,[.v (.pointer (some ⟨R,o,none⟩)),.agg (pl b)]):=by
 subst hX;refine fw Tryz.ntmps215 Tryz.results215 ?_;have h4:=sI a b ha hb;have h5:=sI 0 0 aA aA;simp(disch:=omega)[go_sem]at h4 h5;obtain⟨N,hN⟩:∃N,h.next=N:=⟨_,rfl⟩;rw[hN]at aO hk;simp(disch:=omega)[go_sem,hN,ik];obtain⟨I,hI⟩:∃I:Nat->DS->Prop,∀j d,I j d↔∃(k:Nat) (H:ah),j+k=8/\H.next=N+1/\H.get R=some (.row (X++(pl (if k=0 then a else a|||b)++Y)) true z)/\H.get N=some (.row (pl b) true 0)/\(∀i,i<N->i≠R->H.get i=h.get i)/\
  d=⟨bw [(0,.v (.pointer (some ⟨R,X.length,none⟩))),(3,.v (.pointer (some ⟨N,0,none⟩))),(5,iV (k:Nat))],20,[],H⟩:=⟨_,λ_ _=>Fj⟩
 refine bM I 8 ⟨_,aB.bk (l:=[(0,.v (.pointer (some ⟨R,X.length,none⟩))),(3,.v (.pointer (some ⟨N,0,none⟩))),(5,iV (0:Nat))]) ai,(hI _ _).2 ⟨0,_,rfl, ?_, ?_, ?_, ?_,rfl⟩⟩ ?_
 . simp(disch:=omega)[go_sem,hN]
 . simp(disch:=omega)[go_sem,hN,hR]
 . simp(disch:=omega)[go_sem,hN]
 . intro i h1 h2;simp(disch:=omega)[go_sem,hN]
 . intro j ds av;obtain⟨k,H,hj,hH,f1,f2,f3,rfl⟩:=(hI _ _).1 av;clear av;by_cases aP:k=8
   . subst aP;refine aL ?_;intro T;exact hk _ T aa f1 f3
   . have aR:(k:Int)<8:=aa;have aw:k<8:=aa;have hc:k=0\/k=1\/k=2\/k=3\/k=4\/k=5\/k=6\/k=7:=aa;obtain⟨u,w,hu,hw,r,aj,ad⟩:∃u w:Int,(pl (if k=0 then a else a|||b))[k]? =some (.v (.int .u64 u))/\(pl b)[k]? =some (.v (.int .u64 w))/\∃r:Int,IntKind.u64.wrap ↑((Ey IntKind.u64.bits u|||Ey IntKind.u64.bits w).toNat:Nat)=r/\(pl (if k=0 then a else a|||b)).take k++.v (.int .u64 r)::(pl (if k=0 then a else a|||b)).drop (k+1)=pl (a|||b):=by
      rcases hc with rfl|rfl|rfl|rfl|rfl|rfl|rfl|rfl
      . exact⟨a,b,rfl,rfl,_,sI a b ha hb,rfl⟩
      all_goals exact⟨0,0,rfl,rfl,0,sI 0 0 aA aA,rfl⟩
     generalize (if k=0 then a else a|||b)=c at f1 hu ad;have az:=(acS X Y c k aw).trans hu;have ao:=acT X Y c (a|||b) k _ aw ad;have aE:X.length+k<(X++(pl c++Y)).length:=by simp only[List.length_append,eY];omega
     generalize X++(pl c++Y)=row at f1 az ao aE;obtain⟨af,ab⟩:∃af,X++(pl (a|||b)++Y)=af:=⟨_,rfl⟩;rw[ab]at ao;replace aj:=cr aj;simp(disch:=omega)[go_sem,aR];refine bH [ae 0,ae 0,ae 1,ae 7,aC 15,ae 0,ae 32,aC 96,ae 255,ae 1,ae 1023,aT 2047] an 0 rfl ?_;simp(disch:=omega)[go_sem,f1,f2,dT,nr,aG,az,hw,aj,ao,eY,show X.length+k+1<=row.length from aE,-getElem?_pos];refine⟨j-1,aa,_,aB.bk (l:=[(0,.v (.pointer (some ⟨R,X.length,none⟩))),(3,.v (.pointer (some ⟨N,0,none⟩))),(5,iV (k+1:Nat))]) ai,(hI _ _).2 ⟨k+1,_,aa, ?_, ?_, ?_, ?_,rfl⟩⟩
     . simp(disch:=omega)[go_sem,hH]
     . rw[if_neg aa,ab];simp(disch:=omega)[go_sem]
     . simp(disch:=omega)[go_sem,f2]
     . intro i h1 h2;simp(disch:=omega)[go_sem,f3,h1,h2]
def gN(F:List Nat):List DV:=(F.map pl).flatten
def acV{F:List Nat}{i a:Nat}(h:F[i]? =some a):gN F=gN (F.take i)++(pl a++gN (F.drop (i+1)))/\(gN (F.take i)).length=i*8/\∀b,gN (F.set i b)=gN (F.take i)++(pl b++gN (F.drop (i+1))):=by
 obtain⟨hi,he⟩:=Yt.1 h;refine⟨?_, ?_,λb=> ?_⟩
 . have e:F=F.take i++(a::F.drop (i+1)):=by rw[<-he,<-afv hi,List.take_append_drop]
   have e2:=congrArg gN e;rw[e2];simp only[gN,afr,afB,afJ,afK]
 . have:=fi (k:=8) (xs:=(F.take i).map pl) (λx hx=>by obtain⟨y,_,rfl⟩:=YN.1 hx;rfl);rw[gN,this,afd,List.length_take];omega
 . rw[List.set_eq_take_append_cons_drop,if_pos hi];simp only[gN,afr,afB,afJ,afK]
def mA(g:Nat)(F:List Nat)(i:Nat):List Nat:=match F[i]? with
 |some a=>F.set i (a|||g)
 |none=>F
def pJ(l g:Nat)(F:List Nat):List Nat:=(bits l).foldl (mA g) F
set_option maxHeartbeats 4000000 in
def acW{K:b9}{dd:List FuncId}{h:ah}{M R G g i n z:Nat}{F:List Nat}{cs:List DV}(hi:i<F.length)(hn:F.length=n)(hF:∀a∈F,a<256)(hg:g<256)(hM:h.get M=some (.row cs true 0))(ad:cs[17]? =some (.v (.slice (some ⟨R,0,none⟩) n n)))
 (hR:h.get R=some (.row (gN F) true z)) (hG:h.get G=some (.row (pl g) true 0)) (af:R<h.next)
 (hk:∀h' T,h.next<=h'.next->h'.get R=some (.row (gN (mA g F i)) true z)->(∀j,j<h.next->j≠R->h'.get j=h.get j)->K (.bf []) dd h' T):
 au E true K dd h (214,[iV (i:Nat),.ptr [aX M] 0,aX G]):=by
 obtain⟨a,ha⟩:∃a,F[i]? =some a:=⟨_,Q0 hi⟩;obtain⟨e1,e2,e3⟩:=acV ha;have hl:mA g F i=F.set i (a|||g):=by simp only[mA,ha]
 rw[hl,e3]at hk;rw[e1]at hR;have av:=hF a (Rb ha);refine fw Tryz.ntmps214 Tryz.results214 ?_;refine aL ?_;refine bH [aC 0,ae 1,ae 3,aC 7,ae 0,ae 31,aC 0,aT 127] an 0 rfl ?_;simp(disch:=omega)[go_sem,hM,hG,nr,ad,eY,gM,-getElem?_pos];refine acU av hg e2 hR af λh' T q1 q2 q3=> ?_;refine aL ?_;intro T2;exact hk _ T2 aa q2 q3
def acX{n g:Nat}{F:List Nat}(hn:F.length=n)(hF:∀a∈F,a<256)(hg:g<256)(i:Nat):(mA g F i).length=n/\∀a∈mA g F i,a<256:=by
 unfold mA
 split
 . rename_i a ha;refine⟨by rw[afL,hn],λb hb=> ?_⟩;rcases afM hb with h|h
   . exact hF b h
   . rw[h];exact acA (hF a (Rb ha)) hg
 . exact⟨hn,hF⟩
set_option maxHeartbeats 4000000 in
def JR{K:b9}{dd:List FuncId}{h:ah}{M R l g n z:Nat}{F:List Nat}{cs:List DV}(hn:F.length=n)(ai:n<=8)(hF:∀a∈F,a<256)(hl:l<2^n)(hg:g<256)(hM:h.get M=some (.row cs true 0))(ad:cs[17]? =some (.v (.slice (some ⟨R,0,none⟩) n n)))
 (hR:h.get R=some (.row (gN F) true z)) (af:R<h.next) (aj:M<h.next) (aw:M≠R)
 (hk:∀h' T,h.next<=h'.next->h'.get R=some (.row (gN (pJ l g F)) true z)->(∀j,j<h.next->j≠R->h'.get j=h.get j)->K (.bf []) dd h' T):
 au E true K dd h (212,[.agg (pl l),.agg (pl g),.ptr [aX M] 0]):=by
 refine fw Tryz.ntmps212 Tryz.results212 ?_;obtain⟨N,hN⟩:∃N,h.next=N:=⟨_,rfl⟩;rw[hN]at af aj hk;simp(disch:=omega)[go_sem,hN,ik];refine JE (w:=l) (adr hl (afc (n:=2) aA ai)) 214 _ (λw H=>∃F',w<2^n/\F'.length=n/\(∀a∈F',a<256)/\(bits w).foldl (mA g) F'=pJ l g F/\N+1<H.next/\H.get N=some (.row (pl l) true 0)/\H.get (N+1)=some (.row (pl g) true 0)/\H.get R=some (.row (gN F') true z)/\∀j,j<N->j≠R->H.get j=h.get j) ?_ ?_ ?_ ?_ ?_
 . rintro w' H ⟨F',h1,h2,h3,h4,h5,h6,h7,h8,h9⟩;exact⟨0,h6⟩
 . rintro w' H K' aE ao ab ⟨F',h1,h2,h3,h4,h5,h6,h7,h8,h9⟩ az;rw[JJ w' ao ab,afw]at h4;have aG:=JK w' n ao h1 ai;obtain⟨k1,k2⟩:=acX h2 h3 hg (nq w');refine acW aa h2 h3 hg (by rw[h9 M aj aw,hM]) ad h8 h7 aa λh' T q1 q2 q3=>az _ T ⟨_,afG afu h1,k1,k2,h4,aa, ?_, ?_,q2,λj j1 j2=> ?_⟩
   . rw[q3 N aa aa,h6]
   . rw[q3 (N+1) aa aa,h7]
   . rw[q3 j aa j2,h9 j j1 j2]
 . rintro w' H P hP ⟨F',h1,h2,h3,h4,h5,h6⟩;exact⟨F',h1,h2,h3,h4,by rw[ah.gR];omega,h6⟩
 . refine⟨F,hl,hn,hF,rfl, ?_, ?_, ?_, ?_,λj j1 j2=> ?_⟩
   all_goals simp(disch:=omega)[go_sem,hN,hR]
 . rintro H' T ⟨F',h1,h2,h3,h4,h5,h6,h7,h8,h9⟩;rw[JI]at h4;have h4:F'=pJ l g F:=h4;subst h4;refine aL ?_;intro T2;exact hk _ T2 aa h8 h9
def ca(p:List aY):Nat->Nat->List Nat->(Nat×Nat×Bool)×List Nat
 |0,_,F=>((0,0,true),F)
 |n+1,i,F=>match p[i]? with
  |none=>((0,0,true),F)
  |some x=>
   if x.kind=1 then((2^i,2^i,false),F)
   else if x.kind=2 then
    let r:=ca p n x.a.toNat F
    let s:=ca p n x.b.toNat r.2
    ((if r.1.2.2 then r.1.1|||s.1.1 else r.1.1,if s.1.2.2 then s.1.2.1|||r.1.2.1 else s.1.2.1,r.1.2.2&&s.1.2.2),pJ r.1.2.1 s.1.1 s.2)
   else if x.kind=3 then
    let r:=ca p n x.a.toNat F
    let s:=ca p n x.b.toNat r.2
    ((r.1.1|||s.1.1,r.1.2.1|||s.1.2.1,r.1.2.2||s.1.2.2),s.2)
   else if x.kind=4 then
    let r:=ca p n x.a.toNat F
    ((r.1.1,r.1.2.1,true),pJ r.1.2.1 r.1.1 r.2)
   else((0,0,true),F)
def acY:∀m∈gL,ca m.p 9 (m.p.length-1) (afg m.p.length 0)=((m.first,m.last,m.empty),m.follow):=by
 have h:(gL.all λm=>decide (ca m.p 9 (m.p.length-1) (afg m.p.length 0)=((m.first,m.last,m.empty),m.follow)))=true:=an;exactλm hm=>of_decide_eq_true (oY.1 h m hm)
def PV(p:List aY):Prop:=∀(i:Nat) x,p[i]? =some x->((x.kind=2\/x.kind=3)->(0<=x.a/\x.a<i)/\0<=x.b/\x.b<i)/\(x.kind=4->0<=x.a/\x.a<i)
def acZ:∀m∈gL,PV m.p:=by
 have h:(gL.all λm=>(yx m.p.length).all λi=>match m.p[i]? with
  |some x=>(!(decide (x.kind=2)||decide (x.kind=3))||decide ((0<=x.a/\x.a<i)/\0<=x.b/\x.b<i))&&(!decide (x.kind=4)||decide (0<=x.a/\x.a<i))
  |none=>true)=true:=an
 intro m hm i x hx;have h2:=oY.1 (oY.1 h m hm) i (by have:=(Yt.1 hx).1;simpa using this);rw[hx]at h2;simp only[afi,afj,Bool.not_eq_true',decide_eq_true_eq,Bool.or_eq_false_iff,decide_eq_false_iff_not]at h2;refine⟨λh3=> ?_,λh3=> ?_⟩
 . rcases h2.1 with h4|h4
   . omega
   . exact h4
 . rcases h2.2 with h4|h4
   . exact absurd h3 h4
   . exact h4
def JS{n l g:Nat}{F:List Nat}(hg:g<2^n)(hF:∀a∈F,a<2^n):∀a∈pJ l g F,a<2^n:=by
 have:∀(b:List Nat) (F:List Nat),(∀a∈F,a<2^n)->∀a∈b.foldl (mA g) F,a<2^n:=by
  intro b
  induction b with
  |nil=>exactλF h=>h
  |cons i b ih=>
   intro F h;refine ih _ λa ha=> ?_;unfold mA at ha
   split at ha
   . rename_i x hx;rcases afM ha with h1|h1
     . exact h a h1
     . rw[h1];exact Rm (h x (Rb hx)) hg
   . exact h a ha
 exact this _ F hF
def JT{l g:Nat}{F:List Nat}:(pJ l g F).length=F.length:=by
 have:∀(b:List Nat) (F:List Nat),(b.foldl (mA g) F).length=F.length:=by
  intro b
  induction b with
  |nil=>exactλF=>rfl
  |cons i b ih=>
   intro F;rw[afw,ih];unfold mA
   split
   . rw[afL]
   . rfl
 exact this _ F
structure CR(n:Nat)(r:(Nat×Nat×Bool)×List Nat):Prop where
 f:r.1.1<2^n
 l:r.1.2.1<2^n
 len:r.2.length=n
 F:∀a∈r.2,a<2^n
def uJ(p:List aY):∀(n i:Nat) (F:List Nat),F.length=p.length->(∀a∈F,a<2^p.length)->CR p.length (ca p n i F)
 |0,i,F,h1,h2=>⟨WZ _,WZ _,h1,h2⟩
 |n+1,i,F,h1,h2=>by
  have ih:=uJ p n;have z:CR p.length ((0,0,true),F):=⟨WZ _,WZ _,h1,h2⟩;unfold ca
  split
  . exact z
  . rename_i x hx;have hi:=(Yt.1 hx).1;have hp:2^i<2^p.length:=afF aA hi;have r:=ih x.a.toNat F h1 h2;have s:=ih x.b.toNat _ r.len r.F;simp only
    split
    . exact⟨hp,hp,h1,h2⟩
    split
    . refine⟨?_, ?_,by rw[JT];exact s.len,JS s.f s.F⟩
      . simp only;split
        . exact Rm r.f s.f
        . exact r.f
      . simp only;split
        . exact Rm s.l r.l
        . exact s.l
    split
    . exact⟨Rm r.f s.f,Rm r.l s.l,s.len,s.F⟩
    split
    . exact⟨r.f,r.l,by rw[JT];exact r.len,JS r.f r.F⟩
    . exact z
structure CH(p:List aY)(h:ah)(P0 W L M R:Nat)(F:List Nat):Prop where
 p0:h.get P0=some (.row [.sl 5 (p.map aY.e)] true 0)
 w:h.get W=some (.row [.fn 216 [] [aX P0,aX W,aX L]] true 0)
 l:h.get L=some (.row [.fn 212 [] [.ptr [aX M] 0]] true 0)
 m:∃cs,h.get M=some (.row cs true 0)/\cs[17]? =some (.v (.slice (some ⟨R,0,none⟩) p.length p.length))
 r:h.get R=some (.row (gN F) true 0)
 lt:P0<h.next/\W<h.next/\L<h.next/\M<h.next/\R<h.next
 ne:P0≠R/\W≠R/\L≠R/\M≠R
def CH.up{p:List aY}{h h':ah}{P0 W L M R:Nat}{F F':List Nat}(c:CH p h P0 W L M R F)(hn:h.next<=h'.next)(hr:h'.get R=some (.row (gN F') true 0))(ho:∀j,j<h.next->j≠R->h'.get j=h.get j):CH p h' P0 W L M R F':=by
 obtain⟨l1,l2,l3,l4,l5⟩:=c.lt;obtain⟨n1,n2,n3,n4⟩:=c.ne;obtain⟨cs,m1,m2⟩:=c.m;exact⟨by rw[ho _ l1 n1,c.p0],by rw[ho _ l2 n2,c.w],by rw[ho _ l3 n3,c.l],⟨cs,by rw[ho _ l4 n4,m1],m2⟩,hr,aa,c.ne⟩
set_option maxHeartbeats 8000000 in
def JU{p:List aY}(hv:PV p)(ao:p.length<=8):∀(n i:Nat) (F:List Nat) {K:b9} {dd:List FuncId} {h:ah} {P0 W L M R:Nat},i<n->i<p.length->F.length=p.length->(∀a∈F,a<2^p.length)->CH p h P0 W L M R F->
 (∀h' T,h.next<=h'.next->h'.get R=some (.row (gN (ca p n i F).2) true 0)->(∀j,j<h.next->j≠R->h'.get j=h.get j)->K (.bf [.agg (pl (ca p n i F).1.1),.agg (pl (ca p n i F).1.2.1),bV (ca p n i F).1.2.2]) dd h' T)->
 au E true K dd h (216,[iV (i:Nat),aX P0,aX W,aX L])
 |0,_,_,_,_,_,_,_,_,_,_,az,_,_,_,_,_=>aa
 |n+1,i,F,K,dd,h,P0,W,L,M,R,az,aE,av,hF,c,hk=>by
  have ih:= @JU p hv ao n;obtain⟨l1,l2,l3,l4,l5⟩:=c.lt;obtain⟨n1,n2,n3,n4⟩:=c.ne;obtain⟨x,hx⟩:∃x,p[i]? =some x:=⟨_,Q0 aE⟩;obtain⟨v1,v2⟩:=hv i x hx;refine fw Tryz.ntmps216 Tryz.results216 ?_;obtain⟨N,hN⟩:∃N,h.next=N:=⟨_,rfl⟩;have f1:=c.p0;have f2:=c.w;have f3:=c.l;have f4:=c.r;rw[hN]at l1 l2 l3 l4 l5;simp(disch:=omega)[go_sem,hN,f1,hx,-getElem?_pos,aY.e];by_cases k1:x.kind=1
  . have e:ca p (n+1) i F=((2^i,2^i,false),F):=by simp only[ca,hx];rw[if_pos k1]
    rw[e]at hk;simp(disch:=omega)[go_sem,hN,k1];refine JD (w:=0) (z:=0) aA aa (by simp(disch:=omega)[go_sem,hN,pl]) λT=> ?_;rw[Nat.zero_or];simp(disch:=omega)[go_sem,hN,eY,gM,jc,ik];intro T2;refine hk _ T2 (by simp(disch:=omega)[go_sem];omega) (by simp(disch:=omega)[go_sem,hN,f4]) λj j1 j2=> ?_;simp(disch:=omega)[go_sem,hN]
  by_cases k2:x.kind=2
  . obtain⟨⟨a0,a1⟩,b0,b1⟩:=v1 (.inl k2);obtain⟨a,ha⟩:∃a:Nat,x.a=a:=⟨x.a.toNat,aa⟩;obtain⟨b,hb⟩:∃b:Nat,x.b=b:=⟨x.b.toNat,aa⟩;have e:ca p (n+1) i F=((if(ca p n a F).1.2.2 then(ca p n a F).1.1|||(ca p n b (ca p n a F).2).1.1 else(ca p n a F).1.1,if(ca p n b (ca p n a F).2).1.2.2 then(ca p n b (ca p n a F).2).1.2.1|||(ca p n a F).1.2.1 else(ca p n b (ca p n a F).2).1.2.1,(ca p n a F).1.2.2&&(ca p n b (ca p n a F).2).1.2.2),pJ (ca p n a F).1.2.1 (ca p n b (ca p n a F).2).1.1 (ca p n b (ca p n a F).2).2):=by
     simp only[ca,hx];rw[if_neg k1,if_pos k2,ha,hb];rfl
    rw[e]at hk;have r:=uJ p n a F av hF;have s:=uJ p n b _ r.len r.F;obtain⟨ra,aj⟩:∃r,ca p n a F=r:=⟨_,rfl⟩;obtain⟨⟨fa,la,ea⟩,Fa⟩:=ra;rw[aj]at hk r s;obtain⟨rb,aw⟩:∃r,ca p n b Fa=r:=⟨_,rfl⟩;obtain⟨⟨fb,lb,eb⟩,Fb⟩:=rb;simp only at hk r s;rw[aw]at hk s;simp only at hk;obtain⟨r1,r2,r3,r4⟩:=r;obtain⟨s1,s2,s3,s4⟩:=s;simp only at r1 r2 r3 r4 s1 s2 s3 s4;have ad:∀x,x<2^p.length->x<256:=λx hx=>adr hx (afc (n:=2) aA ao);simp(disch:=omega)[go_sem,hN,k1,k2,f2,ha];refine ih a F aa aa av hF (c.up (h':=_) ?_ ?_ ?_) λh1 T q1 q2 q3=> ?_
    . simp(disch:=omega)[go_sem,hN];omega
    . simp(disch:=omega)[go_sem,hN,f4]
    . intro j j1 j2;simp(disch:=omega)[go_sem,hN]
    rw[aj]at q2⊢;simp(disch:=omega)[go_sem,hN]at q1 q2 q3;have c1:CH p h1 P0 W L M R Fa:=c.up aa q2 λj j1 j2=>by rw[hN]at j1;rw[q3 j aa j2];simp(disch:=omega)[go_sem,hN]
    obtain⟨N1,ab⟩:∃N1,h1.next=N1:=⟨_,rfl⟩;rw[ab]at q1;have f5:=c1.w;have f6:h1.get (N+1+1)=some (.row [iV 2,iV x.lo,iV x.hi,iV (a:Nat),iV (b:Nat)] true 0):=by rw[q3 _ aa aa];simp(disch:=omega)[go_sem,hN,k2,ha,hb]
    simp(disch:=omega)[go_sem,ab,f5,f6,eY,gM,jc,ik];refine ih b Fa aa aa r3 r4 (c1.up (h':=_) ?_ ?_ ?_) λh2 T2 u1 u2 u3=> ?_
    . simp(disch:=omega)[go_sem,ab];omega
    . simp(disch:=omega)[go_sem,ab,q2]
    . intro j j1 j2;rw[ab]at j1;simp(disch:=omega)[go_sem,ab]
    rw[aw]at u2⊢;simp(disch:=omega)[go_sem,ab]at u1 u2 u3;have c2:CH p h2 P0 W L M R Fb:=c1.up aa u2 λj j1 j2=>by rw[ab]at j1;rw[u3 j aa j2];simp(disch:=omega)[go_sem,ab]
    obtain⟨N2,af⟩:∃N2,h2.next=N2:=⟨_,rfl⟩;rw[af]at u1;have f7:=c2.l;obtain⟨cs,m1,m2⟩:=c2.m;have g1:h2.get N1=some (.row (pl fa) true 0):=by rw[u3 _ aa aa];simp(disch:=omega)[go_sem,ab]
    have g2:h2.get (N1+1)=some (.row (pl la) true 0):=by rw[u3 _ aa aa];simp(disch:=omega)[go_sem,ab]
    simp(disch:=omega)[go_sem,af,f7,g2,eY,gM,jc,ik];refine JR (z:=0) (F:=Fb) (cs:=cs) (M:=M) (R:=R) (n:=p.length) s3 ao (λa ha=>ad a (s4 a ha)) r2 (ad _ s1) ?_ m2 ?_ ?_ ?_ n4 λh3 T3 w1 w2 w3=> ?_
    . simp(disch:=omega)[go_sem,af,m1]
    . simp(disch:=omega)[go_sem,af,u2]
    . simp(disch:=omega)[go_sem,af];try omega
    . simp(disch:=omega)[go_sem,af];try omega
    simp(disch:=omega)[go_sem,af]at w1 w3;obtain⟨N3,aG⟩:∃N3,h3.next=N3:=⟨_,rfl⟩;rw[aG]at w1;have z0:h3.get N=some (.row (pl 0) true 0):=by rw[w3 _ aa aa];simp(disch:=omega)[go_sem,af];rw[u3 _ aa aa];simp(disch:=omega)[go_sem,ab];rw[q3 _ aa aa];simp(disch:=omega)[go_sem,hN,pl]
    have z1:h3.get (N+1)=some (.row (pl 0) true 0):=by rw[w3 _ aa aa];simp(disch:=omega)[go_sem,af];rw[u3 _ aa aa];simp(disch:=omega)[go_sem,ab];rw[q3 _ aa aa];simp(disch:=omega)[go_sem,hN,pl]
    have z2:h3.get N1=some (.row (pl fa) true 0):=by rw[w3 _ aa aa];simp(disch:=omega)[go_sem,af,g1]
    have z3:h3.get (N1+1)=some (.row (pl la) true 0):=by rw[w3 _ aa aa];simp(disch:=omega)[go_sem,af,g2]
    have z4:h3.get N2=some (.row (pl fb) true 0):=by rw[w3 _ aa aa];simp(disch:=omega)[go_sem,af]
    have z5:h3.get (N2+1)=some (.row (pl lb) true 0):=by rw[w3 _ aa aa];simp(disch:=omega)[go_sem,af]
    have z6:∀j,j<N->j≠R->h3.get j=h.get j:=λj j1 j2=>by rw[w3 _ aa aa];simp(disch:=omega)[go_sem,af];rw[u3 _ aa aa];simp(disch:=omega)[go_sem,ab];rw[q3 _ aa aa];simp(disch:=omega)[go_sem,hN]
    have fin:∀(H:ah) (T:List Nat) (fv lv:Nat),N<=H.next->H.get R=h3.get R->(∀j,j<N->j≠R->H.get j=h3.get j)->fv=(if ea=true then fa|||fb else fa)->lv=(if eb=true then lb|||la else lb)->K (.bf [.agg (pl fv),.agg (pl lv),bV (ea&&eb)]) dd H T:=λH T fv lv p1 p2 p3 p4 p5=>by
     rw[p4,p5];exact hk H T aa (by rw[p2,w2]) λj j1 j2=>by rw[p3 j aa j2,z6 j aa j2]
    cases ea
    . cases eb
      . simp(disch:=omega)[go_sem,z0,z1,z2,z3,z4,z5,eY,gM,jc,ik];intro T9;refine fin _ T9 _ _ (by simp(disch:=omega)[go_sem];omega) ?_ (λj j1 j2=> ?_) rfl rfl
        . exact ai
        . exact ai
      . simp(disch:=omega)[go_sem,z0,z1,z2,z3,z4,z5,eY,gM,jc,ik];refine sJ (z:=0) (a:=lb) (b:=la) (ad _ s2) (ad _ r2) z5 aa λh5 T5 x1 x2 x3=> ?_;have z0:h5.get N=some (.row (pl 0) true 0):=by rw[x3 _ aa aa,z0]
        have z1:h5.get (N+1)=some (.row (pl 0) true 0):=by rw[x3 _ aa aa,z1]
        have z2:h5.get N1=_:=(x3 _ aa aa).trans z2;have z5:=x2;simp(disch:=omega)[go_sem,z0,z1,z2,z5,eY,gM,jc,ik];intro T9;refine fin _ T9 _ _ (by simp(disch:=omega)[go_sem];omega) ?_ (λj j1 j2=> ?_) rfl rfl
        . simp(disch:=omega)[go_sem];rw[x3 _ aa aa]
        . simp(disch:=omega)[go_sem];rw[x3 _ aa aa]
    . cases eb
      . simp(disch:=omega)[go_sem,z0,z1,z2,z3,z4,z5,eY,gM,jc,ik];refine sJ (z:=0) (a:=fa) (b:=fb) (ad _ r1) (ad _ s1) z2 aa λh4 T4 y1 y2 y3=> ?_;have z0:h4.get N=some (.row (pl 0) true 0):=by rw[y3 _ aa aa,z0]
        have z1:h4.get (N+1)=some (.row (pl 0) true 0):=by rw[y3 _ aa aa,z1]
        have z3:h4.get (N1+1)=some (.row (pl la) true 0):=by rw[y3 _ aa aa,z3]
        have z5:h4.get (N2+1)=some (.row (pl lb) true 0):=by rw[y3 _ aa aa,z5]
        have z2:=y2;simp(disch:=omega)[go_sem,z0,z1,z2,z3,z5,eY,gM,jc,ik];intro T9;refine fin _ T9 _ _ (by simp(disch:=omega)[go_sem];omega) ?_ (λj j1 j2=> ?_) rfl rfl
        . simp(disch:=omega)[go_sem];rw[y3 _ aa aa]
        . simp(disch:=omega)[go_sem];rw[y3 _ aa aa]
      . simp(disch:=omega)[go_sem,z0,z1,z2,z3,z4,z5,eY,gM,jc,ik];refine sJ (z:=0) (a:=fa) (b:=fb) (ad _ r1) (ad _ s1) z2 aa λh4 T4 y1 y2 y3=> ?_;have z0:h4.get N=some (.row (pl 0) true 0):=by rw[y3 _ aa aa,z0]
        have z1:h4.get (N+1)=some (.row (pl 0) true 0):=by rw[y3 _ aa aa,z1]
        have z3:h4.get (N1+1)=some (.row (pl la) true 0):=by rw[y3 _ aa aa,z3]
        have z5:h4.get (N2+1)=some (.row (pl lb) true 0):=by rw[y3 _ aa aa,z5]
        have z2:=y2;simp(disch:=omega)[go_sem,z0,z1,z2,z3,z5,eY,gM,jc,ik];refine sJ (z:=0) (a:=lb) (b:=la) (ad _ s2) (ad _ r2) z5 aa λh5 T5 x1 x2 x3=> ?_;have z0:h5.get N=some (.row (pl 0) true 0):=by rw[x3 _ aa aa,z0]
        have z1:h5.get (N+1)=some (.row (pl 0) true 0):=by rw[x3 _ aa aa,z1]
        have z2:h5.get N1=_:=(x3 _ aa aa).trans z2;have z5:=x2;simp(disch:=omega)[go_sem,z0,z1,z2,z5,eY,gM,jc,ik];intro T9;refine fin _ T9 _ _ (by simp(disch:=omega)[go_sem];omega) ?_ (λj j1 j2=> ?_) rfl rfl
        . simp(disch:=omega)[go_sem];rw[x3 _ aa aa];rw[y3 _ aa aa]
        . simp(disch:=omega)[go_sem];rw[x3 _ aa aa];rw[y3 _ aa aa]
  by_cases k3:x.kind=3
  . obtain⟨⟨a0,a1⟩,b0,b1⟩:=v1 (.inr k3);obtain⟨a,ha⟩:∃a:Nat,x.a=a:=⟨x.a.toNat,aa⟩;obtain⟨b,hb⟩:∃b:Nat,x.b=b:=⟨x.b.toNat,aa⟩;have e:ca p (n+1) i F=(((ca p n a F).1.1|||(ca p n b (ca p n a F).2).1.1,(ca p n a F).1.2.1|||(ca p n b (ca p n a F).2).1.2.1,(ca p n a F).1.2.2||(ca p n b (ca p n a F).2).1.2.2),(ca p n b (ca p n a F).2).2):=by
     simp only[ca,hx];rw[if_neg k1,if_neg k2,if_pos k3,ha,hb];rfl
    rw[e]at hk;have r:=uJ p n a F av hF;have s:=uJ p n b _ r.len r.F;obtain⟨ra,aj⟩:∃r,ca p n a F=r:=⟨_,rfl⟩;obtain⟨⟨fa,la,ea⟩,Fa⟩:=ra;rw[aj]at hk r s;obtain⟨rb,aw⟩:∃r,ca p n b Fa=r:=⟨_,rfl⟩;obtain⟨⟨fb,lb,eb⟩,Fb⟩:=rb;simp only at hk r s;rw[aw]at hk s;simp only at hk;obtain⟨r1,r2,r3,r4⟩:=r;obtain⟨s1,s2,s3,s4⟩:=s;simp only at r1 r2 r3 r4 s1 s2 s3 s4;have ad:∀x,x<2^p.length->x<256:=λx hx=>adr hx (afc (n:=2) aA ao);simp(disch:=omega)[go_sem,hN,k1,k2,k3,f2,ha];refine ih a F aa aa av hF (c.up (h':=_) ?_ ?_ ?_) λh1 T q1 q2 q3=> ?_
    . simp(disch:=omega)[go_sem,hN];omega
    . simp(disch:=omega)[go_sem,hN,f4]
    . intro j j1 j2;simp(disch:=omega)[go_sem,hN]
    rw[aj]at q2⊢;simp(disch:=omega)[go_sem,hN]at q1 q2 q3;have c1:CH p h1 P0 W L M R Fa:=c.up aa q2 λj j1 j2=>by rw[hN]at j1;rw[q3 j aa j2];simp(disch:=omega)[go_sem,hN]
    obtain⟨N1,ab⟩:∃N1,h1.next=N1:=⟨_,rfl⟩;rw[ab]at q1;have f5:=c1.w;have f6:h1.get (N+1+1)=some (.row [iV 3,iV x.lo,iV x.hi,iV (a:Nat),iV (b:Nat)] true 0):=by rw[q3 _ aa aa];simp(disch:=omega)[go_sem,hN,k3,ha,hb]
    simp(disch:=omega)[go_sem,ab,f5,f6,eY,gM,jc,ik];refine ih b Fa aa aa r3 r4 (c1.up (h':=_) ?_ ?_ ?_) λh2 T2 u1 u2 u3=> ?_
    . simp(disch:=omega)[go_sem,ab];omega
    . simp(disch:=omega)[go_sem,ab,q2]
    . intro j j1 j2;rw[ab]at j1;simp(disch:=omega)[go_sem,ab]
    rw[aw]at u2⊢;simp(disch:=omega)[go_sem,ab]at u1 u2 u3;obtain⟨N2,af⟩:∃N2,h2.next=N2:=⟨_,rfl⟩;rw[af]at u1;have g1:h2.get N1=some (.row (pl fa) true 0):=by rw[u3 _ aa aa];simp(disch:=omega)[go_sem,ab]
    have g2:h2.get (N1+1)=some (.row (pl la) true 0):=by rw[u3 _ aa aa];simp(disch:=omega)[go_sem,ab]
    have z0:h2.get N=some (.row (pl 0) true 0):=by rw[u3 _ aa aa];simp(disch:=omega)[go_sem,ab];rw[q3 _ aa aa];simp(disch:=omega)[go_sem,hN,pl]
    have z1:h2.get (N+1)=some (.row (pl 0) true 0):=by rw[u3 _ aa aa];simp(disch:=omega)[go_sem,ab];rw[q3 _ aa aa];simp(disch:=omega)[go_sem,hN,pl]
    have z6:∀j,j<N->j≠R->h2.get j=h.get j:=λj j1 j2=>by rw[u3 _ aa aa];simp(disch:=omega)[go_sem,ab];rw[q3 _ aa aa];simp(disch:=omega)[go_sem,hN]
    simp(disch:=omega)[go_sem,af,g1,g2,eY,gM,jc,ik];refine sJ (z:=0) (a:=fa) (b:=fb) (ad _ r1) (ad _ s1) (by simp(disch:=omega)[go_sem,af,g1]) (by simp(disch:=omega)[go_sem,af];try omega) λh4 T4 y1 y2 y3=> ?_;simp(disch:=omega)[go_sem,af]at y1 y3;have w1:h4.get (N1+1)=some (.row (pl la) true 0):=by rw[y3 _ aa aa];simp(disch:=omega)[go_sem,af,g2]
    have w2:h4.get (N2+1)=some (.row (pl lb) true 0):=by rw[y3 _ aa aa];simp(disch:=omega)[go_sem,af]
    simp(disch:=omega)[go_sem,w1,w2,eY,gM,jc,ik];refine sJ (z:=0) (a:=la) (b:=lb) (ad _ r2) (ad _ s2) w1 aa λh5 T5 x1 x2 x3=> ?_;have v0:h5.get N=some (.row (pl 0) true 0):=by rw[x3 _ aa aa,y3 _ aa aa];simp(disch:=omega)[go_sem,af,z0]
    have v3:h5.get (N+1)=some (.row (pl 0) true 0):=by rw[x3 _ aa aa,y3 _ aa aa];simp(disch:=omega)[go_sem,af,z1]
    have v4:h5.get N1=some (.row (pl (fa|||fb)) true 0):=by rw[x3 _ aa aa,y2]
    cases ea
    all_goals
     simp(disch:=omega)[go_sem,v0,v3,v4,x2,eY,gM,jc,ik];intro T9;refine hk _ T9 ?_ ?_ λj j1 j2=> ?_
     . simp(disch:=omega)[go_sem];omega
     . simp(disch:=omega)[go_sem];rw[x3 _ aa aa,y3 _ aa aa];simp(disch:=omega)[go_sem,af,u2]
     . simp(disch:=omega)[go_sem];rw[x3 _ aa aa,y3 _ aa aa];simp(disch:=omega)[go_sem,af,z6,j2]
  by_cases k4:x.kind=4
  . obtain⟨a0,a1⟩:=v2 k4;obtain⟨a,ha⟩:∃a:Nat,x.a=a:=⟨x.a.toNat,aa⟩;have e:ca p (n+1) i F=(((ca p n a F).1.1,(ca p n a F).1.2.1,true),pJ (ca p n a F).1.2.1 (ca p n a F).1.1 (ca p n a F).2):=by
     simp only[ca,hx];rw[if_neg k1,if_neg k2,if_neg k3,if_pos k4,ha];rfl
    rw[e]at hk;have r:=uJ p n a F av hF;obtain⟨ra,aj⟩:∃r,ca p n a F=r:=⟨_,rfl⟩;obtain⟨⟨fa,la,ea⟩,Fa⟩:=ra;rw[aj]at hk r;simp only at hk r;obtain⟨r1,r2,r3,r4⟩:=r;simp only at r1 r2 r3 r4;have ad:∀x,x<2^p.length->x<256:=λx hx=>adr hx (afc (n:=2) aA ao);simp(disch:=omega)[go_sem,hN,k1,k2,k3,k4,f2,ha];refine ih a F aa aa av hF (c.up (h':=_) ?_ ?_ ?_) λh1 T q1 q2 q3=> ?_
    . simp(disch:=omega)[go_sem,hN];omega
    . simp(disch:=omega)[go_sem,hN,f4]
    . intro j j1 j2;simp(disch:=omega)[go_sem,hN]
    rw[aj]at q2⊢;simp(disch:=omega)[go_sem,hN]at q1 q2 q3;have c1:CH p h1 P0 W L M R Fa:=c.up aa q2 λj j1 j2=>by rw[hN]at j1;rw[q3 j aa j2];simp(disch:=omega)[go_sem,hN]
    obtain⟨N1,ab⟩:∃N1,h1.next=N1:=⟨_,rfl⟩;rw[ab]at q1;have f7:=c1.l;obtain⟨cs,m1,m2⟩:=c1.m;simp(disch:=omega)[go_sem,ab,f7,eY,gM,jc,ik];refine JR (z:=0) (F:=Fa) (cs:=cs) (M:=M) (R:=R) (n:=p.length) r3 ao (λa ha=>ad a (r4 a ha)) r2 (ad _ r1) ?_ m2 ?_ ?_ ?_ n4 λh3 T3 w1 w2 w3=> ?_
    . simp(disch:=omega)[go_sem,ab,m1]
    . simp(disch:=omega)[go_sem,ab,q2]
    . simp(disch:=omega)[go_sem,ab];try omega
    . simp(disch:=omega)[go_sem,ab];try omega
    simp(disch:=omega)[go_sem,ab]at w1 w3;have z0:h3.get N=some (.row (pl 0) true 0):=by rw[w3 _ aa aa];simp(disch:=omega)[go_sem,ab];rw[q3 _ aa aa];simp(disch:=omega)[go_sem,hN,pl]
    have z1:h3.get (N+1)=some (.row (pl 0) true 0):=by rw[w3 _ aa aa];simp(disch:=omega)[go_sem,ab];rw[q3 _ aa aa];simp(disch:=omega)[go_sem,hN,pl]
    have z2:h3.get N1=some (.row (pl fa) true 0):=by rw[w3 _ aa aa];simp(disch:=omega)[go_sem,ab]
    have z3:h3.get (N1+1)=some (.row (pl la) true 0):=by rw[w3 _ aa aa];simp(disch:=omega)[go_sem,ab]
    have z6:∀j,j<N->j≠R->h3.get j=h.get j:=λj j1 j2=>by rw[w3 _ aa aa];simp(disch:=omega)[go_sem,ab];rw[q3 _ aa aa];simp(disch:=omega)[go_sem,hN]
    refine aL ?_;refine bH [aC 0,dq 0,aT 1,aT 7,ae 15] an 0 rfl ?_;simp(disch:=omega)[go_sem,z0,z1,z2,z3,eY,gM,jc,ik,nr];refine⟨aa,aa,λT9=>hk _ T9 ?_ ?_ λj j1 j2=> ?_⟩
    . simp(disch:=omega)[go_sem];omega
    . simp(disch:=omega)[go_sem,w2]
    . simp(disch:=omega)[go_sem,z6,j2]
  . have e:ca p (n+1) i F=((0,0,true),F):=by
     simp only[ca,hx];rw[if_neg k1,if_neg k2,if_neg k3,if_neg k4]
    rw[e]at hk;simp(disch:=omega)[go_sem,hN,k1,k2,k3,k4];refine bH [aC 0,dq 0,aT 1,aT 7,ae 15] an 0 rfl ?_;simp(disch:=omega)[go_sem,hN,nr];intro T9;refine hk _ T9 ?_ ?_ λj j1 j2=>ai
    . simp(disch:=omega)[go_sem];omega
    . simp(disch:=omega)[go_sem,f4]
def ac0(n:Nat)(h:n<=8):afs DV.v (dY [.int .u64 0,.int .u64 0,.int .u64 0,.int .u64 0,.int .u64 0,.int .u64 0,.int .u64 0,.int .u64 0] (n*8))=gN (afg n 0):=by
 have:n=0\/n=1\/n=2\/n=3\/n=4\/n=5\/n=6\/n=7\/n=8:=aa;rcases this with rfl|rfl|rfl|rfl|rfl|rfl|rfl|rfl|rfl<;>rfl
def ac1(m:dM)(hm:m.Ok)(dO:0<m.p.length)(hv:PV m.p)(af:ca m.p 9 (m.p.length-1) (afg m.p.length 0)=((m.first,m.last,m.empty),m.follow)):ay E true 151 [.sl 5 (m.p.map aY.e)] (.ptr m.e 0):=by
 refine Cp Tryz.ntmps151 Tryz.results151 λN=> ?_;refine HR ?_;refine aL ?_;refine⟨_,aB.refl _,HR ?_⟩;refine aL ?_;refine bH [aC 0,aC 0,aC 2,cN 6,ae 15,cN 31,cN 0,aT 127] an 3 rfl ?_;refine aL ?_;have hlen:=hm.len;refine zg (n:=m.p.length) acP acQ Gc acR rfl aA aA ai ai aa ?_;refine aL ?_;obtain⟨Z,hZ⟩:∃Z,afs DV.v (dY [.int .u64 0,.int .u64 0,.int .u64 0,.int .u64 0,.int .u64 0,.int .u64 0,.int .u64 0,.int .u64 0] (m.p.length*8))=Z:=⟨_,rfl⟩;obtain⟨M0,ab⟩:∃M0,[DV.sl 5 (afs aY.e m.p),.v (.int .u64 0),.v (.int .u64 0),.v (.int .u64 0),.v (.int .u64 0),.v (.int .u64 0),.v (.int .u64 0),.v (.int .u64 0),.v (.int .u64 0),.v (.int .u64 0),.v (.int .u64 0),.v (.int .u64 0),.v (.int .u64 0),.v (.int .u64 0),.v (.int .u64 0),.v (.int .u64 0),.v (.int .u64 0),.v (.slice (some ⟨N+1,0,none⟩) m.p.length m.p.length),.v (.bool false)]=M0:=⟨_,rfl⟩;have ah:Z=gN (afg m.p.length 0):=by rw[<-hZ];exact ac0 _ hlen
 have aj:M0[17]? =some (.v (.slice (some ⟨N+1,0,none⟩) m.p.length m.p.length)):=by rw[<-ab];rfl
 rw[hZ,ab];refine⟨_,aB.Je (N:=N+4) (l:=[(1,.v (.pointer (some ⟨N,0,none⟩)))]) (r:=[(N,.row [.sl 5 (m.p.map aY.e)] true 0),(N+1,.row Z true 0),(N+2,.row M0 true 0)]) [N+3] (i:=3) (v:=.v (.pointer (some ⟨N+3,0,none⟩))) (d:=.ptr [.v (.pointer (some ⟨N+2,0,none⟩))] 0) ai ai ai (iZ (ak:=0) (fq (wr:=true) aw ai)) ai ai ?_,j6 ?_⟩
 . intro p hp;simp only[afe,aff,or_false]at hp;rcases hp with rfl|rfl|rfl<;>simp
 . refine aL ?_;refine bH [dq 0,⟨.read,0,some (0,3),true⟩,⟨.read,0,some (0,4),true⟩,aC 0,aC 0,aC 16,ae 48,aT 120,ae 248,ae 504,ae 504,ae 504,ae 1017,ae 5113,aT 13305,ae 30715,ae 63483,aT 129019,ae 262143,ae 524287,aT 1048575] an 0 rfl ?_;simp(disch:=omega)[go_sem,aG];rw[show((m.p.length:Int)-1)=((m.p.length-1:Nat):Int) by omega];have ad:=dM.zf m;refine JU hv hlen 9 (m.p.length-1) (afg m.p.length 0) (M:=N+2) (R:=N+1) aa aa aw (λa ha=> ?_) ⟨?_, ?_, ?_,⟨M0, ?_,aj⟩, ?_, ?_,aa,aa,aa,aa⟩ λh' T q1 q2 q3=> ?_
   . rw[List.eq_of_mem_replicate ha];exact WZ _
   . exact ai
   . exact ai
   . exact ai
   . exact ai
   . simp(disch:=omega)[go_sem,ah]
   . simp(disch:=omega)[go_sem];try omega
   rw[af]at q2⊢;simp only at q2⊢;simp(disch:=omega)[go_sem]at q1 q3;have e1:h'.get (N+2)=some (.row M0 true 0):=by rw[q3 _ aa aa];simp(disch:=omega)[go_sem]
   rw[<-ab]at e1;simp(disch:=omega)[go_sem,e1,eY,pl];rw[ad];refine y5 (ak:=0) (cu (wr:=true) (by simp(disch:=omega)[go_sem];try rfl)) ?_;have ao:Fz (allRows h') (.v (.slice (some ⟨N+1,0,none⟩) m.p.length m.p.length)) (.sl 8 (m.follow.map pl)):=by
    refine dW (ak:=0) (cu (wr:=true) q2) (.inl rfl) aA (by rw[afd,hm.ze]) (UR _) λx hx=> ?_;obtain⟨y,_,rfl⟩:=YN.1 hx;rfl
   refine aL ?_;refine dW (ak:=0) (cu (wr:=true) (cs:=gN m.follow) (by simp(disch:=omega)[go_sem,q2])) (.inl rfl) aA (by rw[afd,hm.ze]) (UR _) λx hx=> ?_;obtain⟨y,_,rfl⟩:=YN.1 hx;rfl
def JV(m:dM)(hm:m∈gL):ay E true 151 [.sl 5 (m.p.map aY.e)] (.ptr m.e 0):=by
 have h:(gL.all λm=>Xt 0 m.p.length)=true:=an;exact ac1 m (Dp m hm) (HT (oY.1 h m hm)) (acZ m hm) (acY m hm)
def ac2(m:dM)(hm:m∈gL)(t:ByteArray)(ht:t.size<=1000000000)(k:Nat)(hk:k<=t.size):ay E true 155 [.sl 5 (m.p.map aY.e),sV t,iV (k:Nat)] (.bf [iV (pH m (t.extract k t.size):Nat),bV (decide (0<pH m (t.extract k t.size)))]):=acN m (Dp m hm) (np m hm) (JV m hm) t ht k hk
def ac3(m:dM)(hm:m∈gL)(t:ByteArray)(ht:t.size<=1000000000):ay E true 155 [.sl 5 (m.p.map aY.e),sV t,iV 0] (.bf [iV (pH m t:Nat),bV (decide (0<pH m t))]):=by
 have h:=ac2 m hm t ht 0 (Nat.zero_le _);rw[acJ]at h;exact h
def uK(m:dM)(hm:m∈gL)(t:ByteArray)(ht:t.size<=1000000000):ay E true 84 [.sl 5 (m.p.map aY.e),sV t] (bV (qM m t)):=acO m (Dp m hm) (np m hm) (JV m hm) t ht
structure zh where
 x:cK
 marks:Int
 config:Int
 leaves:List Int
def zh.e(r:zh):List DV:=r.x.e++[uV r.marks,uV r.config,.sl 1 (r.leaves.map λb=>[uV b])]
structure zh.Ok(r:zh):Prop where
 x:r.x.Ok
 marks:0<=r.marks/\r.marks<256
 config:0<=r.config/\r.config<256
 leaves:∀b∈r.leaves,0<=b/\b<256
def Du:List ByteArray:=[⟨#[43,43]⟩,⟨#[43,42]⟩,⟨#[105,102,43]⟩]
def JW(d:Dg):Tok:=⟨⟨#[108,111,110,103]⟩,0,⟨#[]⟩,Jy,⟨#[120,43]⟩,d⟩
def JX:Tok:=⟨⟨#[110,111,116,101]⟩,2,⟨#[]⟩,Jz,⟨#[]⟩,bg true⟩
def JY:Tok:=⟨⟨#[111,100,100]⟩,1,⟨#[]⟩,JB,⟨#[]⟩,bg true⟩
def Dv(d:Dg):List Tok:=aF++(Du.map nT++[JW d,JX,JY])
structure lj(t:Tok):Prop where
 cls:0<=t.cls/\t.cls<=2
 k:Iz t
def lj.strip{t t':Tok}(h:t.strip=t'.strip)(q:lj t'):lj t:=by
 obtain⟨a,b,c,d,e,f⟩:=t;obtain⟨a',b',c',d',e',f'⟩:=t';simp only[Tok.strip,Tok.mk.injEq]at h;obtain⟨rfl,rfl,rfl,rfl,rfl,_⟩:=h;exact⟨q.cls,q.k⟩
def JZ:qM gK ⟨#[120]⟩=true:=an
def ac4:qM sH ⟨#[120,43]⟩=true:=an
def uL(s:ByteArray)(h:s≠⟨#[]⟩):lj (nT s):=⟨⟨afC 0,show(0:Int)<=2 by decide⟩,.inl ⟨h,rfl,rfl⟩⟩
def gY(i:Nat)(m:dM)(h:gL[i]? =some m):m∈gL:=Rb h
def ac5(d:Dg):∀t∈Dv d,lj t:=by
 have hl:∀s∈lits++Du,s≠⟨#[]⟩:=by
  have h:((lits++Du).all λs=> !decide (s=⟨#[]⟩))=true:=an;intro s hs;simpa using oY.1 h s hs
 have ad:lj kE:=⟨⟨aA,aA⟩,.inr ⟨rfl,np _ (gY 0 gK rfl),.inl ⟨rfl,aA,by have:=uK gK (gY 0 gK rfl) ⟨#[120]⟩ aA;rw[JZ]at this;exact this⟩⟩⟩;have aa:lj (JW d):=⟨⟨afC 0,show(0:Int)<=2 by decide⟩,.inr ⟨rfl,np _ (gY 3 sH rfl),.inl ⟨rfl,show(⟨#[120,43]⟩:ByteArray)≠⟨#[]⟩ by decide,by have:=uK sH (gY 3 sH rfl) ⟨#[120,43]⟩ aA;rw[ac4]at this;exact this⟩⟩⟩;have hs:lj tT:=⟨⟨aA,aA⟩,.inr ⟨rfl,np _ (gY 1 Dm rfl),.inr ⟨aA,rfl⟩⟩⟩;have hr:lj tU:=⟨⟨aA,aA⟩,.inr ⟨rfl,np _ (gY 2 uI rfl),.inr ⟨aA,rfl⟩⟩⟩;have hn:lj JX:=⟨⟨aA,aA⟩,.inr ⟨rfl,np _ (gY 4 JA rfl),.inr ⟨aA,rfl⟩⟩⟩;have ho:lj JY:=⟨⟨aA,aA⟩,.inr ⟨rfl,np _ (gY 5 JC rfl),.inr ⟨aA,rfl⟩⟩⟩;intro t ht;simp only[Dv,aF,aft,afe,YN,aff,or_false]at ht;rcases ht with((rfl|⟨s,ab,rfl⟩)|rfl|rfl)|⟨s,ab,rfl⟩|rfl|rfl|rfl
 . exact ad
 . exact uL s (hl s (aft.2 (.inl ab)))
 . exact hs
 . exact hr
 . exact uL s (hl s (aft.2 (.inr ab)))
 . exact aa
 . exact hn
 . exact ho
def ac6{l l':List Tok}(h:l.map Tok.strip=l'.map Tok.strip){t:Tok}(ht:t∈l):∃t'∈l',t.strip=t'.strip:=by
 have:t.strip∈l'.map Tok.strip:=by rw[<-h];exact List.mem_map_of_mem ht
 obtain⟨t',h1,h2⟩:=YN.1 this;exact⟨t',h1,h2.symm⟩
def ac7{l l':List Tok}(h:l.map Tok.strip=l'.map Tok.strip):l.map (·.name)=l'.map (·.name):=by
 have:=congrArg (afs (·.name)) h;simpa[List.map_map,Function.comp_def,Tok.strip]using this
def je(ns:List (Int×Int×Int))(c:Nat):Nat->Int->Int
 |0,r=>r
 |k+1,r=>if r<=1 then r else match ns[(r-2).toNat]? with
  |some x=>je ns c k (if c.testBit x.1.toNat then x.2.2 else x.2.1)
  |none=>r
def dI(d:Dg)(c:Nat):Bool:=decide (je d.nodes c d.root.toNat d.root=1)
def Dw(d:Dg):Prop:=(∀(i:Nat) x,d.nodes[i]? =some x->0<=x.1/\x.1<3/\0<=x.2.1/\x.2.1<i+2/\0<=x.2.2/\x.2.2<i+2)/\0<=d.root/\d.root<d.nodes.length+2
def J0(c:Nat)(hc:c<256):Dw (aO c):=by
 have h:((yx 256).all λc=>(yx (aO c).nodes.length).all (λi=>match(aO c).nodes[i]? with|some x=>decide (0<=x.1/\x.1<3/\0<=x.2.1/\x.2.1<i+2/\0<=x.2.2/\x.2.2<i+2)|none=>true)&&decide (0<=(aO c).root/\(aO c).root<(aO c).nodes.length+2))=true:=an;have h2:=oY.1 h c (by simpa using hc);rw[afi,decide_eq_true_eq]at h2;refine⟨λi x hx=> ?_,h2.2⟩;have h3:=oY.1 h2.1 i (by have:=(Yt.1 hx).1;simpa using this);rw[hx]at h3;exact of_decide_eq_true h3
def zi{ns:List (Int×Int×Int)}{c:Nat}(ho:∀(i:Nat) x,ns[i]? =some x->0<=x.1/\x.1<3/\0<=x.2.1/\x.2.1<i+2/\0<=x.2.2/\x.2.2<i+2):∀(k:Nat) (r:Int),r.toNat<=k->je ns c k r=je ns c r.toNat r
 |0,r,h=>by rw[show r.toNat=0 by omega]
 |k+1,r,h=>by
  by_cases h1:r<=1
  . rw[je,if_pos h1];cases hr:r.toNat with
    |zero=>rfl
    |succ n=>rw[je,if_pos h1]
  . obtain⟨n,hn⟩:∃n,r.toNat=n+1:=⟨r.toNat-1,aa⟩;rw[hn,je,je,if_neg h1,if_neg h1]
    split
    . rename_i x hx;obtain⟨_,_,h2,h3,h4,h5⟩:=ho _ _ hx;have e:∀q:Int,q<(r-2).toNat+2->0<=q->je ns c k q=je ns c n q:=λq q1 q2=>by rw[zi ho k q aa,zi ho n q aa]
      split
      . exact e _ h5 h4
      . exact e _ h3 h2
    . rfl
def J1(c v:Nat)(hc:c<8)(hv:v<3):IntKind.u64.wrap (((Ey IntKind.u64.bits ((c:Int).fdiv (2^(min v IntKind.u64.bits)))&&&Ey IntKind.u64.bits 1).toNat:Nat):Int)=if c.testBit v then 1 else 0:=by
 have h:((yx 8).all λc=>(yx 3).all λv=>decide (IntKind.u64.wrap (((Ey IntKind.u64.bits ((c:Int).fdiv (2^(min v IntKind.u64.bits)))&&&Ey IntKind.u64.bits 1).toNat:Nat):Int)=if c.testBit v then 1 else 0))=true:=an;exact of_decide_eq_true (oY.1 (oY.1 h c (by simpa using hc)) v (by simpa using hv))
abbrev cV(c:Nat):DV:=.v (.int .u64 (c:Nat))
set_option maxHeartbeats 4000000 in
def ac8(d:Dg)(hd:Dw d)(hl:d.nodes.length<=1000)(c:Nat)(hc:c<8):ay E true 120 [.agg d.e,cV c] (bV (dI d c)):=by
 obtain⟨ns,rt⟩:=d;obtain⟨ho,h0,h1⟩:=hd;simp only at ho h0 h1 hl;obtain⟨G,hG⟩:∃G,je ns c rt.toNat rt=G:=⟨_,rfl⟩;have ad:dI ⟨ns,rt⟩ c=decide (G=1):=by simp only[dI,hG]
 rw[ad];refine aV Tryz.ntmps120 Tryz.results120 λN=> ?_;simp(disch:=omega)[go_sem,Dg.e];obtain⟨I,hI⟩:∃I:Nat->DS->Prop,∀j d,I j d↔∃(r:Int) (P:Nat),j=r.toNat/\0<=r/\r<ns.length+2/\je ns c r.toNat r=G/\N<P/\d=⟨bw [(1,cV c),(2,.v (.pointer (some ⟨N,0,none⟩))),(5,iV r)],30,[],cA P [(N,.row [.sl 3 (ns.map cB),iV rt] true 0)]⟩:=⟨_,λ_ _=>Fj⟩;refine bM I rt.toNat ⟨_,aB.mk (N:=N+1) ai ai ai,(hI _ _).2 ⟨rt,N+1,rfl,h0,h1,hG,aa,rfl⟩⟩ ?_
 . intro j ds af;obtain⟨r,P,hj,aw,az,ab,hP,rfl⟩:=(hI _ _).1 af;clear af;by_cases hr:1<r
   . obtain⟨k,hk⟩:∃k,r.toNat=k+1:=⟨r.toNat-1,aa⟩;obtain⟨x,hx⟩:∃x,ns[(r-2).toNat]? =some x:=⟨_,Q0 aa⟩;obtain⟨q0,q1,q2,q3,q4,q5⟩:=ho _ _ hx;have ao:¬r<=1:=aa;rw[hk,je,if_neg ao,hx]at ab;simp only at ab;rw[zi ho k _ (by split<;>omega)]at ab;obtain⟨v,hv⟩:∃v:Nat,x.1=v:=⟨x.1.toNat,aa⟩;have hb:=J1 c v hc aa;rw[hv]at ab;simp only[afy]at ab;have hw:IntKind.u64.wrap (v:Int)=v:=wrap_u64 aa aa;have ah:2<=r:=aa;by_cases aj:c.testBit v=true
     . simp only[if_pos aj]at hb ab;replace hb:=cr hb;simp(disch:=omega)[go_sem,hr,ah,aG,hx,-getElem?_pos,cB,hv,hw,hb];exact⟨_,aa,_,aB.mk (N:=P+1) ai ai ai,(hI _ _).2 ⟨x.2.2,P+1,rfl,aa,aa,ab,aa,rfl⟩⟩
     . simp only[if_neg aj]at hb ab;replace hb:=cr hb;simp(disch:=omega)[go_sem,hr,ah,aG,hx,-getElem?_pos,cB,hv,hw,hb];exact⟨_,aa,_,aB.mk (N:=P+1) ai ai ai,(hI _ _).2 ⟨x.2.1,P+1,rfl,aa,aa,ab,aa,rfl⟩⟩
   . have ae:r=G:=by
      rw[<-ab];cases h:r.toNat with
      |zero=>rfl
      |succ k=>rw[je,if_pos aa]
     subst ae;simp(disch:=omega)[go_sem,hr]
set_option maxHeartbeats 4000000 in
def ac9(d:Dg)(hd:Dw d)(av:ay E true 148 [.agg d.e] (iV 0))(hl:d.nodes.length<=1000)(c:Nat)(hc:c<8):ay E true 81 [.agg d.e,cV c] (bV (dI d c)):=by
 obtain⟨ns,rt⟩:=d;obtain⟨ho,h0,h1⟩:=hd;simp only at ho h0 h1 hl;obtain⟨G,hG⟩:∃G,je ns c rt.toNat rt=G:=⟨_,rfl⟩;have ad:dI ⟨ns,rt⟩ c=decide (G=1):=by simp only[dI,hG]
 rw[ad];refine aV Tryz.ntmps81 Tryz.results81 λN=> ?_;simp only[Dg.e]at av;simp(disch:=omega)[go_sem,Dg.e];refine au.mk av λM=>cY λhM=> ?_;obtain⟨I,hI⟩:∃I:Nat->DS->Prop,∀j d,I j d↔∃(r:Int) (P:Nat),j=r.toNat/\0<=r/\r<ns.length+2/\je ns c r.toNat r=G/\N<P/\d=⟨bw [(1,cV c),(2,.v (.pointer (some ⟨N,0,none⟩))),(5,iV r)],32,[],cA P [(N,.row [.sl 3 (ns.map cB),iV rt] true 0)]⟩:=⟨_,λ_ _=>Fj⟩;refine bM I rt.toNat ⟨_,aB.mk (N:=M) ai ai ai,(hI _ _).2 ⟨rt,M,rfl,h0,h1,hG,aa,rfl⟩⟩ ?_
 . intro j ds af;obtain⟨r,P,hj,aw,az,ab,hP,rfl⟩:=(hI _ _).1 af;clear af;by_cases hr:1<r
   . obtain⟨k,hk⟩:∃k,r.toNat=k+1:=⟨r.toNat-1,aa⟩;obtain⟨x,hx⟩:∃x,ns[(r-2).toNat]? =some x:=⟨_,Q0 aa⟩;obtain⟨q0,q1,q2,q3,q4,q5⟩:=ho _ _ hx;have ao:¬r<=1:=aa;rw[hk,je,if_neg ao,hx]at ab;simp only at ab;rw[zi ho k _ (by split<;>omega)]at ab;obtain⟨v,hv⟩:∃v:Nat,x.1=v:=⟨x.1.toNat,aa⟩;have hb:=J1 c v hc aa;rw[hv]at ab;simp only[afy]at ab;have hw:IntKind.u64.wrap (v:Int)=v:=wrap_u64 aa aa;have ah:2<=r:=aa;by_cases aj:c.testBit v=true
     . simp only[if_pos aj]at hb ab;replace hb:=cr hb;simp(disch:=omega)[go_sem,hr,ah,aG,hx,-getElem?_pos,cB,hv,hw,hb];exact⟨_,aa,_,aB.mk (N:=P+1) ai ai ai,(hI _ _).2 ⟨x.2.2,P+1,rfl,aa,aa,ab,aa,rfl⟩⟩
     . simp only[if_neg aj]at hb ab;replace hb:=cr hb;simp(disch:=omega)[go_sem,hr,ah,aG,hx,-getElem?_pos,cB,hv,hw,hb];exact⟨_,aa,_,aB.mk (N:=P+1) ai ai ai,(hI _ _).2 ⟨x.2.1,P+1,rfl,aa,aa,ab,aa,rfl⟩⟩
   . have ae:r=G:=by
      rw[<-ab];cases h:r.toNat with
      |zero=>rfl
      |succ k=>rw[je,if_pos aa]
     subst ae;simp(disch:=omega)[go_sem,hr]
def zj(c k:Nat)(hc:c<256)(hk:k<8):ay E true 120 [.agg (aO c).e,cV k] (bV (dI (aO c) k)):=ac8 _ (J0 c hc) (by have:=yA c hc;omega) k hk
def qN(c k:Nat)(hc:c<256)(hk:k<8):ay E true 81 [.agg (aO c).e,cV k] (bV (dI (aO c) k)):=ac9 _ (J0 c hc) (Cs c hc) (by have:=yA c hc;omega) k hk
def cz(H:ah)(B U k:Nat)(xs:List (List DV))(pv:DV):Prop:=
 (xs=[]/\pv=cm)\/∃R,B<=R/\R<U/\pv=.v (.slice (some ⟨R,0,none⟩) xs.length xs.length)/\H.get R=some (.row xs.flatten true k)
theorem cz.nil(H:ah)(B U k:Nat):cz H B U k [] cm:=.inl ⟨rfl,rfl⟩
def cz.same{H H':ah}{B U U' k:Nat}{xs:List (List DV)}{pv:DV}(h:cz H B U k xs pv)(hs:∀j,B<=j->j<U->H'.get j=H.get j)(hU:U<=U'):cz H' B U' k xs pv:=by
 rcases h with h|⟨R,h1,h2,h3,h4⟩
 . exact .inl h
 . exact .inr ⟨R,h1,aa,h3,by rw[hs R h1 h2,h4]⟩
def cz.len{H:ah}{B U k:Nat}{xs:List (List DV)}{pv:DV}(h:cz H B U k xs pv)(t:TypeId)(s:Nat)(hs:E.elem t=some s):fp E H t pv=some (iV (xs.length:Nat)):=by
 rcases h with⟨rfl,rfl⟩|⟨R,h1,h2,rfl,h4⟩<;>simp[go_sem,hs]
def kI:DV->Option Nat
 |.v (.slice (some a) _ _)=>some a.block
 |_=>none
def cz.ne{H:ah}{B U k:Nat}{xs:List (List DV)}{pv:DV}(h:cz H B U k xs pv){j:Nat}(hj:j<B\/U<=j):kI pv≠some j:=by
 rcases h with⟨_,rfl⟩|⟨R,h1,h2,rfl,_⟩
 . intro h;cases h
 . intro h;simp only[kI,Option.some.injEq]at h;omega
def cz.app{H:ah}{B U k b st xt q:Nat}{xs:List (List DV)}{pv:DV}{new:List DV}{K:DV×ah×List Nat->Prop}(h:cz H B U k xs pv)(af:E.ap st=some (k,b)){z:Nat}(ai:E.elem xt=some z)(hB:B<=U)(hU:U<=H.next)(hq:H.get q=some (.row new true 0))(ab:0<k)(aj:new.length=k)(h1:new.all cD=true)(hx:∀x∈xs,x.length=k)(hb:(xs.length+1)*(b+1)<=1073741824)
 (hk:∀H' ae T,(∀i∈T,B<=i/\i<U)->cz H' B H'.next k (xs++[new]) ae->H'.next=H.next+1->(∀j,j<H.next->kI pv≠some j->H'.get j=H.get j)->kI ae=some H.next->K (ae,H',T)):aN (iO E H [st,xt].toArray (some [pv,.v (.slice (some ⟨q,0,none⟩) 1 1)])) K:=by
 have ad:fh H k (.v (.slice (some ⟨q,0,none⟩) 1 1))=some (1,new):=by
  simp only[fh,hq];rw[if_pos aa];rw[Nat.one_mul,List.drop_zero,afA aa]
 rcases h with⟨rfl,rfl⟩|⟨R,r1,r2,rfl,r4⟩
 . refine⟨_, ?_,hk (H.new (.row new true k)) (.v (.slice (some ⟨H.next,0,none⟩) 1 1)) [] aw (.inr ⟨H.next,aa,by rw[ah.bb];omega,rfl, ?_⟩) (ah.bb _ _) (λj j1 j2=> ?_) rfl⟩
   . rw[mU,af,ai];simp only[lG,ad];rw[oU _ _ _ _ _ aA (by simpa using hb)]
   . rw[ah.cW,if_pos rfl];simp
   . rw[ah.cW,if_neg aa]
 . have an:xs.flatten.length=xs.length*k:=fi hx;refine⟨_, ?_,hk ((H.set R none).new (.row (xs.flatten++new) true k)) (.v (.slice (some ⟨H.next,0,none⟩) (xs.length+1) (xs.length+1))) [R] (by simp;omega) (.inr ⟨H.next,aa,by rw[ah.bb,ah.aW];omega,aw, ?_⟩) (by rw[ah.bb,ah.aW]) (λj j1 j2=> ?_) rfl⟩
   . rw[mU,af,ai];simp only[lG,ad];rw[rX _ _ _ _ _ _ _ _ r4 an ab aA h1 hb]
   . rw[ah.cW,ah.aW,if_pos rfl];simp
   . rw[ah.cW,ah.aW,if_neg aa,ah.bD,if_neg (λh=>j2 (by rw[h];rfl))]
def cz.fz{H:ah}{B U k:Nat}{xs:List (List DV)}{pv:DV}(h:cz H B U k xs pv)(ab:0<k)(hx:∀x∈xs,x.length=k):Fz (allRows H) pv (.sl k xs):=by
 rcases h with⟨rfl,rfl⟩|⟨R,h1,h2,rfl,h4⟩
 . exact .nil ab
 . exact dW (ak:=k) (cu h4) (.inr rfl) ab rfl (UR _) hx
def cz.cells{H:ah}{B U k:Nat}{xs:List (List DV)}{pv:DV}(h:cz H B U k xs pv):cG pv=[pv]/\cD pv=true:=by
 rcases h with⟨_,rfl⟩|⟨R,_,_,rfl,_⟩<;>exact⟨rfl,rfl⟩
def cz.Dx{H:ah}{B U k:Nat}{xs ys:List (List DV)}{pv:DV}{S:fB}(h:cz H B U k xs pv)(ab:0<k)(hl:xs.length=ys.length)(hy:∀x∈ys,x.length=k)(hz:de S xs.flatten ys.flatten)(hS:∀R cs,B<=R->R<U->H.get R=some (.row cs true k)->S R=some (cs,k)):Fz S pv (.sl k ys):=by
 rcases h with⟨rfl,rfl⟩|⟨R,h1,h2,rfl,h4⟩
 . have:ys=[]:=List.eq_nil_of_length_eq_zero (by rw[<-hl];rfl);subst this;exact .nil ab
 . exact iR (hS R _ h1 h2 h4) (.inr rfl) ab hl (UR _) hy hz
def fE(g:aj)(k:Nat):Bool:=decide (k/2^g.conds.length=0)&&dI g.family k
def fdiv_pow(k n:Nat):(k:Int).fdiv (2^n)=((k/2^n:Nat):Int):=by
 rw[Int.fdiv_eq_ediv_of_nonneg _ (by exact Int.le_of_lt (Int.pow_pos aA))];simp
def ada(g:aj)(hn:g.conds.length<=3)(c:Nat)(hc:c<256)(hf:g.family=aO c)(k:Nat)(hk:k<8):ay E true 62 [.agg g.e,cV k] (bV (fE g k)):=by
 have ae:=zj c k hc hk;rw[<-hf]at ae;have af:=fdiv_pow k g.conds.length;have ao:¬(g.conds.length:Int)=64:=aa;have hw:IntKind.u64.wrap (g.conds.length:Int)=g.conds.length:=wrap_u64 aa aa;have ad:min g.conds.length 64=g.conds.length:=aa;refine aV Tryz.ntmps62 Tryz.results62 λN=> ?_;simp only[Dg.e]at ae;by_cases h:k/2^g.conds.length=0
 . have hr:fE g k=dI g.family k:=by simp[fE,h]
   rw[hr];simp(disch:=omega)[go_sem,aj.e,ao,hw,ad,af,h];refine au.mk ae λM=>aR λhM=> ?_;exact ai
 . have hr:fE g k=false:=by simp[fE,h]
   rw[hr];have h':decide (((k/2^g.conds.length:Nat):Int)=0)=false:=decide_eq_false aa;simp only[afN,afO,afP]at h';simp(disch:=omega)[go_sem,aj.e,ao,hw,ad,af,h']
def adb(g:aj)(hn:g.conds.length<=3)(c:Nat)(hc:c<256)(hf:g.family=aO c)(k:Nat)(hk:k<8):ay E true 76 [.agg g.e,cV k] (bV (fE g k)):=by
 have ae:=qN c k hc hk;rw[<-hf]at ae;have af:=fdiv_pow k g.conds.length;have ao:¬(g.conds.length:Int)=64:=aa;have hw:IntKind.u64.wrap (g.conds.length:Int)=g.conds.length:=wrap_u64 aa aa;have ad:min g.conds.length 64=g.conds.length:=aa;refine aV Tryz.ntmps76 Tryz.results76 λN=> ?_;simp only[Dg.e]at ae;by_cases h:k/2^g.conds.length=0
 . have hr:fE g k=dI g.family k:=by simp[fE,h]
   rw[hr];simp(disch:=omega)[go_sem,aj.e,ao,hw,ad,af,h];refine au.mk ae λM=>aR λhM=> ?_;exact ai
 . have hr:fE g k=false:=by simp[fE,h]
   rw[hr];have h':decide (((k/2^g.conds.length:Nat):Int)=0)=false:=decide_eq_false aa;simp only[afN,afO,afP]at h';simp(disch:=omega)[go_sem,aj.e,ao,hw,ad,af,h']
def wJ(g:aj)(hg:GV g)(hn:g.conds.length<=3)(k:Nat)(hk:k<8):ay E true 28 [.agg g.e,cV k] (bV (fE g k)):=by
 obtain⟨c,h1,h2,_⟩:=hg.cO.cO;have hw:=adb g hn c h2.1 h1 k hk;have hc:=CJ g hg;refine aV Tryz.ntmps28 Tryz.results28 λN=> ?_;simp only[aj.e]at hw hc;simp(disch:=omega)[go_sem,aj.e];refine au.mk hc λM=>cY λhM=> ?_;refine au.mk hw λM2=>aR λba=> ?_;exact ai
def fF(g:aj):List Nat:=(yx 8).filter (fE g)
def ade(g:aj)(hg:qE g)(hn:g.conds.length<=3):fF g≠[]:=by
 obtain⟨c,h1,h2,h3⟩:=hg.cO;have h:((yx 4).all λn=>(yx 256).all λc=> !((aO c).nodes.all λx=>decide (x.1<n))||decide ((aO c).root=0)||(yx 8).any λk=>decide (k/2^n=0)&&dI (aO c) k)=true:=an;have h4:=oY.1 (oY.1 h g.conds.length (by simp;omega)) c (by simpa using h2.1);have h5:((aO c).nodes.all λx=>decide (x.1<(g.conds.length:Int)))=true:=oY.2 λx hx=>decide_eq_true (h2.2 x hx);have h6:decide ((aO c).root=0)=false:=decide_eq_false (by rw[<-h1];exact h3);rw[h5,h6]at h4;simp only[Bool.not_true,Bool.false_or]at h4;obtain⟨k,k1,k2⟩:=List.any_eq_true.1 h4;have:k∈fF g:=List.mem_filter.2 ⟨k1,by rw[fE,h1];exact k2⟩;exactλhe=>by rw[he]at this;cases this
set_option maxHeartbeats 4000000 in
def adf(g:aj)(hg:qE g)(hn:g.conds.length<=3)(x:Int)(hx:0<=x/\x<256):∃k,k∈fF g/\ay E true 20 [.agg g.e,uV x] (cV k):=by
 obtain⟨c,h1,h2,_⟩:=hg.cO;have aT:=ade g hg hn;have hlen:0<(fF g).length:=List.length_pos_iff.2 aT;obtain⟨k,hk⟩:∃k,(fF g)[(x%(fF g).length).toNat]? =some k:=⟨_,Q0 (by
  have:=afQ x (b:=((fF g).length:Int)) aa;have:=afR x (b:=((fF g).length:Int)) aa;omega)⟩
 refine⟨k,Rb hk, ?_⟩;have bb:(fF g).length<=8:=by have:=afD (fE g) (yx 8);simpa[fF]using this
 refine aV Tryz.ntmps20 Tryz.results20 λN=> ?_;obtain⟨ge,aC⟩:∃ge,g.e=ge:=⟨_,rfl⟩;have aH:ge.all cD=true:=by rw[<-aC];rfl
 have aW:ge.length=9:=by rw[<-aC];rfl
 rw[aC];have av:(∀d∈ge,cD d=true)=True:=eq_true (by simpa using aH);have aX:ge.take 9=ge:=afA aa;simp(disch:=omega)[go_sem,av]
 let F:Nat->List (List DV):=λk=>((yx k).filter (fE g)).map λk=>[cV k]
 obtain⟨I,hI⟩:∃I:Nat->DS->Prop,∀j d,I j d↔∃(k:Nat) (H:ah) (pv:DV),j+k=8/\N<H.next/\cz H (N+1) H.next 1 (F k) pv/\H.get N=some (.row ge true 0)/\d=⟨bw [(1,uV x),(2,.v (.pointer (some ⟨N,0,none⟩))),(5,pv),(6,.v (.int .u64 (k:Nat)))],26,[],H⟩:=⟨_,λ_ _=>Fj⟩;refine bM I 8 ⟨_,aB.bk (l:=[(1,uV x),(2,.v (.pointer (some ⟨N,0,none⟩))),(5,cm),(6,.v (.int .u64 (0:Nat)))]) ai,(hI _ _).2 ⟨0,_,cm,rfl,ai,.nil _ _ _ _,ai,rfl⟩⟩ ?_
 . intro j ds aK;obtain⟨k',H,pv,hj,hN,hgr,f1,rfl⟩:=(hI _ _).1 aK;clear aK;have aM:∀y∈F k',y.length=1:=λy hy=>by obtain⟨z,_,rfl⟩:=YN.1 hy;rfl
   by_cases aY:k'<8
   . have aw:(k':Int)<8:=aa;have hh:=ada g hn c h2.1 h1 k' aY;rw[aC]at hh;have aE:F (k'+1)=F k'++if fE g k' then [[cV k']]else []:=by
      simp only[F,afS,afT,afr];cases hb:fE g k'<;>simp[hb]
     simp(disch:=omega)[go_sem,aw,f1,aW,aX];refine au.mk hh λM hM=> ?_;cases hb:fE g k' with
     |true=>
      rw[hb]at aE;refine aL ?_;refine cz.app (st:=155) (xt:=155) (B:=N+1) (U:=H.next) (k:=1) (xs:=F k') (hgr.same (λq q1 q2=>by rw[ah.cW,if_neg (by rw[ah.gR];omega)];rfl) (UR _)) Ga By aa (by simp(disch:=omega)[go_sem];omega) (new:=[cV k']) ai aA rfl rfl aM (by have:(F k').length<=k':=by{have:=afD (fE g) (yx k');simpa[F]using this};omega) λH' aP T _ q1 q2 q3 _=> ?_;simp(disch:=omega)[go_sem]at q2 q3;simp(disch:=omega)[go_sem,wrap_u64];refine⟨j-1,aa,_,aB.bk (l:=[(1,uV x),(2,.v (.pointer (some ⟨N,0,none⟩))),(5,aP),(6,.v (.int .u64 (k'+1:Nat)))]) ?_,(hI _ _).2 ⟨k'+1,_,aP,aa,aa,by rw[aE];exact q1, ?_,rfl⟩⟩
      . exact ai
      . rw[q3 N aa (hgr.ne (.inl aa))];simp(disch:=omega)[go_sem,f1]
     |false=>
      rw[hb]at aE;simp(disch:=omega)[go_sem,wrap_u64];refine⟨j-1,aa,_,aB.bk (l:=[(1,uV x),(2,.v (.pointer (some ⟨N,0,none⟩))),(5,pv),(6,.v (.int .u64 (k'+1:Nat)))]) ?_,(hI _ _).2 ⟨k'+1,_,pv,aa,by rw[ah.gR];omega,by rw[aE];simp;exact hgr.same (λj _ _=>rfl) (by rw[ah.gR];exact hM),by simp(disch:=omega)[go_sem,f1],rfl⟩⟩;exact ai
   . have aw:¬(k':Int)<8:=aa;obtain rfl:k'=8:=aa;refine aL ?_;have aS:F 8=(fF g).map λk=>[cV k]:=rfl;have ab:(F 8).length=(fF g).length:=by rw[aS,afd]
     have aZ:=hgr.len 155 1 By;rw[ab]at aZ;have bc:0<=x%((fF g).length:Int):=afR _ aa;have bd:x%((fF g).length:Int)<(fF g).length:=afQ _ aa;have aJ:¬((fF g).length:Int)=0:=aa;rcases hgr with⟨h0,_⟩|⟨R,r1,r2,rfl,r4⟩
     . rw[h0]at ab;simp at ab;omega
     have az:(F 8).flatten[(x%((fF g).length:Int)).toNat]? =some (cV k):=by
      have hq:(F 8)[(x%((fF g).length:Int)).toNat]? =some [cV k]:=by rw[aS,afk,hk];rfl
      have:=sc (k:=1) _ 0 _ (cV k) aM hq rfl;simpa using this
     rw[ab]at*;generalize (F 8).flatten=cells at*;generalize (fF g).length=L at*;simp(disch:=omega)[go_sem,aG,dw,aJ,r4,az,-getElem?_pos]
def adg(p:List aY)(i:Nat)(s:ByteArray)(l l1 l2:List Int)(x:aY)(hx:p[i]? =some x)(hk:x.kind=2)
 (h1:ay E true 236 [.sl 5 (p.map aY.e),iV x.a,sV s,ints l] (ints l1)) (h2:ay E true 236 [.sl 5 (p.map aY.e),iV x.b,sV s,ints l1] (ints l2)):
 ay E true 236 [.sl 5 (p.map aY.e),iV (i:Nat),sV s,ints l] (ints l2):=by
 have hi:=(Yt.1 hx).1;obtain⟨R,hR⟩:∃R,R=ints l2:=⟨_,rfl⟩;rw[<-hR]at h2⊢;refine aV Tryz.ntmps236 Tryz.results236 λN=> ?_;simp(disch:=omega)[go_sem,hx,-getElem?_pos,aY.e,hk];refine bH [ae 0,jW 0,dq 2,ae 0,ae 0,ae 0,aC 32,ae 0,ae 0,aT 496,aT 1023,ae 2047] an 0 rfl ?_;simp(disch:=omega)[go_sem,hx,-getElem?_pos,aY.e,hk];refine au.mk h1 λM=>cY λhM=> ?_;refine au.mk h2 λM2=>aR λaa=> ?_;simp(disch:=omega)[go_sem,hR]
def adh(p:List aY)(s:ByteArray)(l:List Int)(b:Bool)(hp:0<p.length)(ab:p.length<=1000)(h1:ay E true 234 [.sl 5 (p.map aY.e)] (iV 0))(h2:ay E true 236 [.sl 5 (p.map aY.e),iV ((p.length-1:Nat):Int),sV s,ints [0]] (ints l))(h3:ay E true 235 [ints l,iV (s.size:Nat)] (bV b)):
 ay E true 188 [.sl 5 (p.map aY.e),sV s] (bV b):=by
 obtain⟨L,hL⟩:∃L,L=ints l:=⟨_,rfl⟩;rw[<-hL]at h2 h3;refine aV Tryz.ntmps188 Tryz.results188 λN=> ?_;refine aL ?_;refine au.mk h1 λM=>aR λhM=> ?_;simp(disch:=omega)[go_sem,aG];rw[show((p.length:Int)-1)=((p.length-1:Nat):Int) by omega];refine au.fz h2 [M] ?_ ?_ λM2 aa=> ?_
 . exact ai
 . refine aL ?_;exact dW (fq (wr:=true) (ak:=0) aw (by simp(disch:=omega)[go_sem];try rfl)) (.inl rfl) aA aw aw aw
 replace aa:=cr aa;simp(disch:=omega)[go_sem,jd];refine au.mk h3 λM3=>aR λad=> ?_;exact ai
def adi:∀m∈gL,ay E true 234 [.sl 5 (m.p.map aY.e)] (iV 0):=bW an
def uM:List (dM×ByteArray):=[(gK,⟨#[120]⟩),(gK,⟨#[105,102]⟩),(gK,⟨#[101,108,115,101]⟩),(gK,⟨#[97,98]⟩),(sH,⟨#[120,43]⟩)]
def J2:∀q∈uM,ay E true 84 [.sl 5 (q.1.p.map aY.e),sV q.2] (bV true):=by
 have h:(uM.all λq=>qM q.1 q.2&&afq q.2.size 4)=true:=an;have hm:∀q∈uM,q.1∈gL:=λq hq=>by
  simp only[uM,afe,aff,or_false]at hq;rcases hq with rfl|rfl|rfl|rfl|rfl
  . exact gY 0 gK rfl
  . exact gY 0 gK rfl
  . exact gY 0 gK rfl
  . exact gY 0 gK rfl
  . exact gY 3 sH rfl
 intro q hq;have h2:=oY.1 h q hq;rw[afi]at h2;have:=uK q.1 (hm q hq) q.2 (by have:=HT h2.2;omega);rw[h2.1]at this;exact this
structure Lf where
 tok:Nat
 text:ByteArray
def Lf.e(l:Lf):List DV:=[iV (-1),iV (l.tok:Nat),sV l.text,.sl 1 []]
def Lf.c(l:Lf):List DV:=[iV (-1),iV (l.tok:Nat),sV l.text,cm]
def pK(s p:ByteArray):Bool:=decide (p.size<=s.size)&&decide (s.extract 0 p.size=p)
def adj(s p:ByteArray):ay E true 221 [sV s,sV p] (bV (pK s p)):=by
 refine aV Tryz.ntmps221 Tryz.results221 λN=> ?_;by_cases h:p.size<=s.size
 . have h2:(p.size:Int)<=s.size:=aa;have hr:pK s p=decide (s.extract 0 p.size=p):=by simp[pK,h]
   rw[hr];simp(disch:=omega)[go_sem,jd,h2,acL s p.size h]
 . have h2:¬(p.size:Int)<=s.size:=aa;have hr:pK s p=false:=by simp[pK,h]
   rw[hr];simp(disch:=omega)[go_sem,jd,h2]
def adk(s p:ByteArray):ay E true 156 [sV s,sV p] (bV (pK s p)):=by
 refine aV Tryz.ntmps156 Tryz.results156 λN=> ?_;refine aL ?_;refine au.mk (adj s p) λM=>aR λhM=> ?_;exact ai
def fk:List Bool->Nat->Int
 |[],_=>-1
 |b::l,i=>if b then i else fk l (i+1)
def uN:∀(l:List Bool) (i:Nat),decide (0<=fk l i)=l.any id
 |[],i=>by simp[fk]
 |b::l,i=>by
  cases b with
  |true=>simp[fk]
  |false=>simp[fk,uN l (i+1)]
def wK{l:List Bool}{k:Nat}{b:Bool}(h:l[k]? =some b):fk (l.drop k) k=if b then(k:Int)else fk (l.drop (k+1)) (k+1):=by
 have hk:=(Yt.1 h).1;rw[afv hk,(Yt.1 h).2];rfl
def adl(l:List Int)(x:Int)(hl:l.length<=100000):ay E true 222 [ints l,iV x] (iV (fk (l.map λy=>decide (x=y)) 0)):=by
 refine aV Tryz.ntmps222 Tryz.results222 λN=> ?_;obtain⟨R,hR⟩:∃R,fk (l.map λy=>decide (x=y)) 0=R:=⟨_,rfl⟩;rw[hR];refine aL ?_;obtain⟨I,hI⟩:∃I:Nat->DS->Prop,∀j d,I j d↔∃(k P:Nat),j+k=l.length/\fk ((l.map λy=>decide (x=y)).drop k) k=R/\d=⟨bw [(0,ints l),(1,iV x),(7,iV l.length),(8,iV k)],19,[],cA P []⟩:=⟨_,λ_ _=>Fj⟩;refine bM I l.length ⟨_,aB.mk (N:=N) ai ai ai,(hI _ _).2 ⟨0,N,rfl,hR,rfl⟩⟩ ?_
 . intro j ds ae;obtain⟨k,P,hj,ab,rfl⟩:=(hI _ _).1 ae;clear ae;by_cases af:k<l.length
   . have ad:(k:Int)<l.length:=aa;obtain⟨y,hy⟩:∃y,l[k]? =some y:=⟨_,Q0 af⟩;rw[wK (b:=decide (x=y)) (by rw[afk,hy];rfl)]at ab;by_cases aj:x=y
     . subst aj;simp only[decide_true,if_true]at ab;subst ab;simp(disch:=omega)[go_sem,ad,hy,-getElem?_pos]
     . simp only[aj,decide_false,afU,if_false]at ab;simp(disch:=omega)[go_sem,ad,hy,-getElem?_pos,aj,aG];exact⟨j-1,aa,_,aB.mk (N:=P) ai ai ai,(hI _ _).2 ⟨k+1,P,aa,ab,rfl⟩⟩
   . have ad:¬(k:Int)<l.length:=aa;rw[afl (by simp;omega)]at ab;have ab:(-1:Int)=R:=ab;simp(disch:=omega)[go_sem,ad,ab]
def adm(l:List Int)(x:Int)(hl:l.length<=100000):ay E true 158 [ints l,iV x] (bV (l.any λy=>decide (x=y))):=by
 refine aV Tryz.ntmps158 Tryz.results158 λN=> ?_;have hr:=uN (l.map λy=>decide (x=y)) 0;rw[afE]at hr;have ah:(l.any λy=>decide (x=y))=decide (0<=fk (l.map λy=>decide (x=y)) 0):=hr.symm;rw[ah];refine aL ?_;refine au.mk (adl l x hl) λM=>aR λhM=> ?_;exact ai
def adn{α:Type}(xs:List α)(en:α->List DV)(ps:α->Bool)(f:FuncId)(c:List DV)(hx:∀x,(en x).length=9)(hl:xs.length<=100000)(hf:∀x∈xs,ay E true f (.agg (en x)::c) (bV (ps x))):ay E true 223 [.sl 9 (xs.map en),.fn f [] c] (iV (fk (xs.map ps) 0)):=by
 refine aV Tryz.ntmps223 Tryz.results223 λN=> ?_;obtain⟨R,hR⟩:∃R,fk (xs.map ps) 0=R:=⟨_,rfl⟩;rw[hR];refine aL ?_;obtain⟨I,hI⟩:∃I:Nat->DS->Prop,∀j d,I j d↔∃(k P:Nat),j+k=xs.length/\fk ((xs.map ps).drop k) k=R/\d=⟨bw [(0,.sl 9 (xs.map en)),(1,.fn f [] c),(7,iV xs.length),(8,iV k)],19,[],cA P []⟩:=⟨_,λ_ _=>Fj⟩;refine bM I xs.length ⟨_,aB.mk (N:=N) ai ai ai,(hI _ _).2 ⟨0,N,rfl,hR,rfl⟩⟩ ?_
 . intro j ds ae;obtain⟨k,P,hj,ab,rfl⟩:=(hI _ _).1 ae;clear ae;by_cases af:k<xs.length
   . have ad:(k:Int)<xs.length:=aa;obtain⟨y,hy⟩:∃y,xs[k]? =some y:=⟨_,Q0 af⟩;rw[wK (b:=ps y) (by rw[afk,hy];rfl)]at ab;have an:=hf y (Rb hy);have ao:=sw (hx y);simp(disch:=omega)[go_sem,ad,hy,-getElem?_pos,ao];refine au.mk an λP2 av=> ?_;cases hb:ps y with
     |true=>
      rw[hb,if_pos rfl]at ab;subst ab;exact ai
     |false=>
      rw[hb,if_neg aA]at ab;simp(disch:=omega)[go_sem,aG];exact⟨j-1,aa,_,aB.mk (N:=P2) ai ai ai,(hI _ _).2 ⟨k+1,P2,aa,ab,rfl⟩⟩
   . have ad:¬(k:Int)<xs.length:=aa;rw[afl (by simp;omega)]at ab;have ab:(-1:Int)=R:=ab;simp(disch:=omega)[go_sem,ad,ab]
def ado{α:Type}(xs:List α)(en:α->List DV)(ps:α->Bool)(f:FuncId)(c:List DV)(hx:∀x,(en x).length=9)(hl:xs.length<=100000)(hf:∀x∈xs,ay E true f (.agg (en x)::c) (bV (ps x))):ay E true 159 [.sl 9 (xs.map en),.fn f [] c] (bV (xs.any ps)):=by
 refine aV Tryz.ntmps159 Tryz.results159 λN=> ?_;have hr:=uN (xs.map ps) 0;rw[afE]at hr;have ah:xs.any ps=decide (0<=fk (xs.map ps) 0):=hr.symm;rw[ah];refine aL ?_;refine au.mk (adn xs en ps f c hx hl hf) λM=>aR λhM=> ?_;exact ai
def adp(xs:List Int)(ps:Int->Bool)(f:FuncId)(c:List DV)(hl:xs.length<=100000)(hf:∀x∈xs,ay E true f (iV x::c) (bV (ps x))):ay E true 224 [.sl 1 (xs.map λn=>[iV n]),.fn f [] c] (iV (fk (xs.map ps) 0)):=by
 refine aV Tryz.ntmps224 Tryz.results224 λN=> ?_;obtain⟨R,hR⟩:∃R,fk (xs.map ps) 0=R:=⟨_,rfl⟩;rw[hR];refine aL ?_;obtain⟨I,hI⟩:∃I:Nat->DS->Prop,∀j d,I j d↔∃(k P:Nat),j+k=xs.length/\fk ((xs.map ps).drop k) k=R/\d=⟨bw [(0,.sl 1 (xs.map λn=>[iV n])),(1,.fn f [] c),(7,iV xs.length),(8,iV k)],19,[],cA P []⟩:=⟨_,λ_ _=>Fj⟩;refine bM I xs.length ⟨_,aB.mk (N:=N) ai ai ai,(hI _ _).2 ⟨0,N,rfl,hR,rfl⟩⟩ ?_
 . intro j ds ae;obtain⟨k,P,hj,ab,rfl⟩:=(hI _ _).1 ae;clear ae;by_cases af:k<xs.length
   . have ad:(k:Int)<xs.length:=aa;obtain⟨y,hy⟩:∃y,xs[k]? =some y:=⟨_,Q0 af⟩;rw[wK (b:=ps y) (by rw[afk,hy];rfl)]at ab;have an:=hf y (Rb hy);simp(disch:=omega)[go_sem,ad,hy,-getElem?_pos];refine au.mk an λP2 av=> ?_;cases hb:ps y with
     |true=>
      rw[hb,if_pos rfl]at ab;subst ab;exact ai
     |false=>
      rw[hb,if_neg aA]at ab;simp(disch:=omega)[go_sem,aG];exact⟨j-1,aa,_,aB.mk (N:=P2) ai ai ai,(hI _ _).2 ⟨k+1,P2,aa,ab,rfl⟩⟩
   . have ad:¬(k:Int)<xs.length:=aa;rw[afl (by simp;omega)]at ab;have ab:(-1:Int)=R:=ab;simp(disch:=omega)[go_sem,ad,ab]
def adq(xs:List Int)(ps:Int->Bool)(f:FuncId)(c:List DV)(hl:xs.length<=100000)(hf:∀x∈xs,ay E true f (iV x::c) (bV (ps x))):ay E true 161 [.sl 1 (xs.map λn=>[iV n]),.fn f [] c] (bV (xs.any ps)):=by
 refine aV Tryz.ntmps161 Tryz.results161 λN=> ?_;have hr:=uN (xs.map ps) 0;rw[afE]at hr;have ah:xs.any ps=decide (0<=fk (xs.map ps) 0):=hr.symm;rw[ah];refine aL ?_;refine au.mk (adp xs ps f c hl hf) λM=>aR λhM=> ?_;exact ai
structure sL(g:aj):Prop where
 pat:∀t∈g.aF,t.lit=⟨#[]⟩->∃m∈gL,t.pat=m.p
 len:g.aF.length<=1000
 cond:∀t∈g.aF,∃ct,t.cond=aO ct/\ct<256
def pL(p:List aY):List (Int×Int×Int×Int×Int):=p.map λx=>(x.kind,x.lo,x.hi,x.a,x.b)
def ads{p q:List aY}(h:pL p=pL q):p=q:=by
 induction p generalizing q with
 |nil=>cases q with
  |nil=>rfl
  |cons y q=>simp[pL]at h
 |cons x p ih=>cases q with
  |nil=>simp[pL]at h
  |cons y q=>
   simp only[pL,afB,List.cons.injEq,Prod.mk.injEq]at h;obtain⟨⟨h1,h2,h3,h4,h5⟩,h6⟩:=h;rw[ih h6];obtain⟨a,b,c,d,e⟩:=x;obtain⟨a',b',c',d',e'⟩:=y;simp only at h1 h2 h3 h4 h5;rw[h1,h2,h3,h4,h5]
def qO(t:Tok)(s:ByteArray):Nat:=if t.lit=⟨#[]⟩then(match gL.find? λm=>decide (pL m.p=pL t.pat)with|some m=>pH m s|none=>0)else if pK s t.lit then t.lit.size else 0
def adt{t:Tok}{s:ByteArray}(h0:t.lit=⟨#[]⟩)(h:∃m∈gL,t.pat=m.p):∃m∈gL,t.pat=m.p/\qO t s=pH m s:=by
 obtain⟨m0,m1,m2⟩:=h;cases hf:gL.find? λm=>decide (pL m.p=pL t.pat)with
 |none=>
  have:=List.find?_eq_none.1 hf m0 m1;rw[m2]at this;simp at this
 |some m=>
  have h1:=List.mem_of_find?_eq_some hf;have h2:=List.find?_some hf;refine⟨m,h1,(ads (of_decide_eq_true h2)).symm, ?_⟩;unfold qO;rw[if_pos h0,hf]
def adu(g:aj)(hg:sL g)(k:Nat)(t:Tok)(hk:g.aF[k]? =some t)(s:ByteArray)(hs:s.size<=1000000000):ay E true 154 [iV (k:Nat),sV s,.ptr g.e 0] (iV (qO t s:Nat)):=by
 have aH:=(Yt.1 hk).1;have hm:=Rb hk;obtain⟨R,hR⟩:∃R,qO t s=R:=⟨_,rfl⟩;rw[hR];refine aV Tryz.ntmps154 Tryz.results154 λN=> ?_;simp(disch:=omega)[go_sem,aj.e,hk,-getElem?_pos,Tok.e];by_cases h0:t.lit=⟨#[]⟩
 . obtain⟨m,m1,m2,m3⟩:=adt (s:=s) h0 (hg.pat t hm h0);have hl:=ac3 m m1 s hs;rw[<-m2,<-m3,hR]at hl;simp(disch:=omega)[go_sem,h0];refine au.mk hl λM=>aR λhM=> ?_;exact ai
 . have hp:=adk s t.lit;have ae:R=if pK s t.lit then t.lit.size else 0:=by rw[<-hR];unfold qO;rw[if_neg h0]
   simp(disch:=omega)[go_sem,h0];refine au.mk hp λM=>aR λhM=> ?_;cases hb:pK s t.lit with
   |true=>
    rw[hb,if_pos rfl]at ae;subst ae;simp(disch:=omega)[go_sem,jd]
   |false=>
    rw[hb,if_neg aA]at ae;subst ae;exact ai
def mB(g:aj)(c:Nat):List Nat:=(yx g.aF.length).filter λi=>match g.aF[i]? with
 |some t=>dI t.cond c
 |none=>false
abbrev cI(l:List Nat):DV:=.sl 1 (l.map λn=>[iV (n:Nat)])
def ic(g:aj)(c:Nat):List DV:=g.e++[cI (mB g c),.fn 154 [] [.ptr g.e 0]]
set_option maxHeartbeats 4000000 in
def adv(g:aj)(hg:sL g)(c:Nat)(hc:c<8):ay E true 85 [.agg g.e,cV c] (.ptr (ic g c) 0):=by
 refine aV Tryz.ntmps85 Tryz.results85 λN=> ?_;obtain⟨ao,ad⟩:∃ao,DV.ptr (ic g c) 0=ao:=⟨_,rfl⟩;rw[ad];have hlen:=hg.len;simp(disch:=omega)[go_sem,aj.e]
 let F:Nat->List Nat:=λk=>(yx k).filter λi=>match g.aF[i]? with
  |some t=>dI t.cond c
  |none=>false
 let af:DV->List DV:=λpv=>[strs g.conds,.sl 3 (g.family.nodes.map cB),iV g.family.root,.sl 7 (g.aF.map Tok.e),strs g.aI,.sl 13 (g.aq.map aK.e),iV g.start,.sl 4 (g.bj.map cP.e),.sl 9 (g.bx.map bl.e),pv,.v .nilFunc]
 obtain⟨I,hI⟩:∃I:Nat->DS->Prop,∀j d,I j d↔∃(k:Nat) (H:ah) (pv:DV),j+k=g.aF.length/\N+2<=H.next/\cz H (N+2) H.next 1 ((F k).map λn=>[iV (n:Nat)]) pv/\H.get N=some (.row g.e true 0)/\H.get (N+1)=some (.row (af pv) true 0)/\
  d=⟨bw [(1,cV c),(2,aX N),(5,aX (N+1)),(12,iV (g.aF.length:Nat)),(13,iV (k:Nat))],40,[],H⟩:=⟨_,λ_ _=>Fj⟩
 refine bM I g.aF.length ⟨_,aB.bk (l:=[(1,cV c),(2,aX N),(5,aX (N+1)),(12,iV (g.aF.length:Nat)),(13,iV (0:Nat))]) ai,(hI _ _).2 ⟨0,_,cm,rfl,ai,.nil _ _ _ _, ?_, ?_,rfl⟩⟩ ?_
 . simp(disch:=omega)[go_sem,aj.e]
 . simp(disch:=omega)[go_sem];rfl
 . intro j ds av;obtain⟨k,H,pv,hj,hN,hgr,f1,f2,rfl⟩:=(hI _ _).1 av;clear av;simp only[af]at f2;obtain⟨p1,p2⟩:=hgr.cells;have aw:∀x∈(F k).map λn=>[iV (n:Nat)],x.length=1:=λx hx=>by obtain⟨y,_,rfl⟩:=YN.1 hx;rfl
   have aJ:(F k).length<=k:=by have:=afD (λi=>match g.aF[i]? with|some t=>dI t.cond c|none=>false) (yx k);simpa[F]using this
   by_cases az:k<g.aF.length
   . have ab:(k:Int)<g.aF.length:=aa;obtain⟨t,ht⟩:∃t,g.aF[k]? =some t:=⟨_,Q0 az⟩;obtain⟨ct,aC,an⟩:=hg.cond t (Rb ht);have hh:=qN ct c an hc;rw[<-aC]at hh;simp only[Dg.e]at hh;have hF:F (k+1)=F k++if dI t.cond c then [k]else []:=by
      simp only[F,afS,afT];congr 1;cases hb:dI t.cond c<;>simp[ht,hb]
     simp(disch:=omega)[go_sem,ab,f1,aj.e,ht,-getElem?_pos,Tok.e];refine au.mk hh λM hM=> ?_;cases hb:dI t.cond c with
     |true=>
      rw[hb,if_pos rfl]at hF;simp(disch:=omega)[go_sem,f2];refine cz.app (st:=100) (xt:=100) (B:=N+2) (U:=H.next) (k:=1) (xs:=(F k).map λn=>[iV (n:Nat)]) (hgr.same (λq q1 q2=>by rw[ah.cW,if_neg (by rw[ah.gR];omega)];rfl) (UR _)) vJ vI aa (by simp(disch:=omega)[go_sem];omega) (new:=[iV (k:Nat)]) ai aA rfl rfl aw (by rw[afd];omega) λH' aE T q0 q1 q2 q3 q4=> ?_;simp(disch:=omega)[go_sem]at q2 q3;obtain⟨p3,p4⟩:=q1.cells;have e1:H'.get (N+1)=some (.row (af pv) true 0):=by rw[q3 _ aa (hgr.ne (.inl aa))];simp(disch:=omega)[go_sem,f2];rfl
      simp only[af]at e1;simp(disch:=omega)[go_sem,e1,p3,p4,aG];refine⟨j-1,aa,_,aB.bk (l:=[(1,cV c),(2,aX N),(5,aX (N+1)),(12,iV (g.aF.length:Nat)),(13,iV (k+1:Nat))]) ai,(hI _ _).2 ⟨k+1,_,aE,aa, ?_, ?_, ?_, ?_,rfl⟩⟩
      . simp(disch:=omega)[go_sem];omega
      . rw[hF,afr];exact q1.same (λq q5 q6=>by rw[ah.bD,if_neg aa]) (by rw[ah.aW];exact UR _)
      . simp(disch:=omega)[go_sem];rw[q3 _ aa (hgr.ne (.inl aa))];simp(disch:=omega)[go_sem,f1]
      . simp(disch:=omega)[go_sem];rfl
     |false=>
      rw[hb]at hF;simp(disch:=omega)[go_sem,aG];refine⟨j-1,aa,_,aB.bk (l:=[(1,cV c),(2,aX N),(5,aX (N+1)),(12,iV (g.aF.length:Nat)),(13,iV (k+1:Nat))]) ai,(hI _ _).2 ⟨k+1,_,pv,aa, ?_, ?_, ?_, ?_,rfl⟩⟩
      . simp(disch:=omega)[go_sem];omega
      . rw[hF];simp only[afU,if_false,List.append_nil];exact hgr.same (λq _ _=>rfl) (by rw[ah.gR];exact hM)
      . simp(disch:=omega)[go_sem,f1]
      . simp(disch:=omega)[go_sem,f2];rfl
   . have ab:¬(k:Int)<g.aF.length:=aa;simp(disch:=omega)[go_sem,ab,f2];obtain rfl:k=g.aF.length:=aa;rw[<-ad];refine y5 (ak:=0) (cu (wr:=true) (by simp(disch:=omega)[go_sem];try rfl)) ?_;have h1:Fz (allRows (H.set (N+1) (some (.row [strs g.conds,.sl 3 (g.family.nodes.map cB),iV g.family.root,.sl 7 (g.aF.map Tok.e),strs g.aI,.sl 13 (g.aq.map aK.e),iV g.start,.sl 4 (g.bj.map cP.e),.sl 9 (g.bx.map bl.e),pv,.fn 154 [] [aX N]] true 0)))) pv (cI (mB g c)):=
      hgr.Dx aA rfl aw (de.refl _) λR cs h1 h2 h3=>cu (wr:=true) (by rw[ah.bD,if_neg aa];exact h3)
     have h2:Fz (allRows (H.set (N+1) (some (.row [strs g.conds,.sl 3 (g.family.nodes.map cB),iV g.family.root,.sl 7 (g.aF.map Tok.e),strs g.aI,.sl 13 (g.aq.map aK.e),iV g.start,.sl 4 (g.bj.map cP.e),.sl 9 (g.bx.map bl.e),pv,.fn 154 [] [aX N]] true 0)))) (.fn 154 [] [aX N]) (.fn 154 [] [.ptr g.e 0]):=
      Im (iZ (ak:=0) (cu (wr:=true) (by rw[ah.bD,if_neg aa];exact f1)))
     simp only[ic,aj.e,List.cons_append,afI,BM,BL,BK,and_true,true_and];exact⟨h1,h2⟩
def adN:∀t∈aF,lj t:=by
 have hl:(lits.all λs=> !decide (s=⟨#[]⟩))=true:=an;intro t ht;simp only[aF,aft,afe,YN,aff,or_false]at ht;rcases ht with(rfl|⟨s,ae,rfl⟩)|rfl|rfl
 . exact⟨⟨aA,aA⟩,.inr ⟨rfl,np _ (gY 0 gK rfl),.inl ⟨rfl,aA,by have:=uK gK (gY 0 gK rfl) ⟨#[120]⟩ aA;rw[JZ]at this;exact this⟩⟩⟩
 . exact uL s (by simpa using oY.1 hl s ae)
 . exact⟨⟨aA,aA⟩,.inr ⟨rfl,np _ (gY 1 Dm rfl),.inr ⟨aA,rfl⟩⟩⟩
 . exact⟨⟨aA,aA⟩,.inr ⟨rfl,np _ (gY 2 uI rfl),.inr ⟨aA,rfl⟩⟩⟩
def Ku(x:cK)(hx:x.Ok):GV (ig dQ x):=by
 have hg:=za x hx;have ab:=hg.room;have hp:=hg.mz;have hn:kZ (aF.map (·.name)):=by
  have h:decide ((aF.map (·.name)).Nodup)=true:=an;have h2:((aF.map (·.name)).all λs=> !decide (s=⟨#[]⟩))=true:=an;exact⟨of_decide_eq_true h,λs hs=>by simpa using oY.1 h2 s hs⟩
 have hl:(ig dQ x).aF.length=11:=by have h:=congrArg List.length hg.tk;rw[afd,afd]at h;exact h
 have ht:uv (ig dQ x):=⟨by rw[ac7 hg.tk];exact hn,aa,λt ht=>by
  obtain⟨t',h1,h2⟩:=ac6 hg.tk ht;have q:=(adN t' h1).strip h2;exact⟨q.cls.1,q.cls.2,hg.tc t ht,q.k⟩⟩
 refine⟨⟨by have:=ab.conds;omega,ht.len,by have:=ab.bx;omega,by have:=ab.aI;omega,aa,by have:=ab.bj;omega,λp hp=> ?_⟩,
  ⟨hg.cO.new,hg.cO.id,hg.cO.len,hg.cO.cO⟩,ht,⟨hg.aI.1,by rw[hg.aI.2];exact afC 0,by rw[hg.aI.2];have:=ab.aI;omega⟩,
  ⟨hg.new,aa,λp hp=>hg.ok p hp⟩,
  ⟨hg.nd,by have:=ab.bj;omega,λl hl=>by have:=ab.mr l hl;omega,λl hl=>hg.pG l hl⟩,
  ⟨by have:=ab.bx;omega,λf hf=>hg.lh f hf⟩⟩
 have:=(hg.ok p hp).ar;exact⟨this.len,this.qG⟩
def adO(x:cK)(hx:x.Ok):ay E false 27 [.agg (ig dQ x).e] (iV 0):=by
 obtain⟨NU,hE⟩:=acx x hx;exact Jh _ (Ku x hx) NU (λdE p hp=>hE.Jv p hp) λdE p hp k s hk hs ad=>hE.Jw p hp k s hk hs ad
end Go.Sp
end

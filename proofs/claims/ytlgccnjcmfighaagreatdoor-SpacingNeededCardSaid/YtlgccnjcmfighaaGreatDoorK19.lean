/- Parts of a proof. -/
import Derived.Deep.Slices
import Derived.Lib.SmallJoins
import Derived.Test.YtlgccnjcmfighaaGreatDoorK18
open List renaming all_eq_true->qG,range->yy,singleton_inj->yB,mem_map->RC,getElem?_eq_getElem->YT,mem_of_getElem?->ab8,not_mem_nil->adr,flatten_cons->adv,replicate->afj,mem_cons->afw,getElem?_eq_some_iff->afz,map_append->afA,mem_append->afB,mem_cons_of_mem->afG,take_of_length_le->afH,map_cons->afI,length_map->afJ,map->afK,mem_range->afL,foldl_cons->afN,getElem?_append_left->afR,getElem?_map->afT,drop_eq_getElem_cons->afV,drop_eq_nil_of_le->afX,getElem?_append_right->afZ,length_append->af0,flatten_append->af1,length_set->af2,mem_or_eq_of_mem_set->af3,mem_cons_self->af6,length_filter_le->agc
open BitVec renaming ofInt->E2,ofNat->afv,toNat_ofNat->afC
open Nat renaming le_of_ble_eq_true->FQ,le_refl->KE,or_lt_two_pow->RK,two_pow_pos->Vs,blt->Xy,pow_le_pow_right->YN,lt_of_lt_of_le->Zf,mod_eq_of_lt->afD,beq->afE,eq_of_beq_eq_true->afF,and_le_left->afM,add_sub_cancel_left->afQ,pow_lt_pow_right->afU,lt_of_le_of_lt->afW
open Iff renaming rfl->RW
open Bool renaming and_eq_true->afx,or_eq_true->afy
open Option renaming bind_some->afO,isSome->afY
open Int renaming toNat_natCast->afP,le_refl->afS,natCast_ediv->af7,natCast_pow->af8,cast_ofNat_Int->af9,emod_lt_of_pos->aga,emod_nonneg->agb
open List.Sublist renaming refl->af4
open Option.some renaming injEq->af5
set_option linter.all false
set_option maxRecDepth 100000
noncomputable section
open Go Go.aD Go.Proofs
namespace Go.Sp
def wrap_u64{x:Int}(h1:0<=x)(h2:x<256):IntKind.u64.wrap x=x:=by
 simp[IntKind.wrap,IntKind.bits,IntKind.signed];omega
def zh(a:Nat):E2 IntKind.u64.bits (a:Int)=afv 64 a:=by simp[IntKind.bits]
def sM(a b:Nat)(ha:a<256)(hb:b<256):IntKind.u64.wrap (((E2 IntKind.u64.bits (a:Int)|||E2 IntKind.u64.bits (b:Int)).toNat:Nat):Int)=((a|||b:Nat):Int):=by
 have h:a|||b<2^8:=RK ha hb;rw[zh,zh];show IntKind.u64.wrap (((afv 64 a|||afv 64 b:BitVec 64).toNat:Nat):Int)=_;rw[BitVec.toNat_or,afC,afC,afD aa,afD aa];exact wrap_u64 aa aa
def Dv(a b:Nat)(ha:a<256)(hb:b<256):IntKind.u64.wrap (((E2 IntKind.u64.bits (a:Int)&&&E2 IntKind.u64.bits (b:Int)).toNat:Nat):Int)=((a&&&b:Nat):Int):=by
 have h:a&&&b<=a:=afM;rw[zh,zh];show IntKind.u64.wrap (((afv 64 a&&&afv 64 b:BitVec 64).toNat:Nat):Int)=_;rw[BitVec.toNat_and,afC,afC,afD aa,afD aa];exact wrap_u64 aa aa
def ac2{a b:Nat}(ha:a<256)(hb:b<256):a|||b<256:=RK (n:=8) ha hb
theorem nD(h:ae):h.up h.next=h:=rfl
def ac3{i:Nat}(hi:i<8):2^i<256/\IntKind.u64.wrap ((2:Int)^i)=((2^i:Nat):Int):=by
 have:i=0\/i=1\/i=2\/i=3\/i=4\/i=5\/i=6\/i=7:=aa;rcases this with rfl|rfl|rfl|rfl|rfl|rfl|rfl|rfl<;>exact⟨aC,aC⟩
set_option maxHeartbeats 4000000 in
def JN{ar:Bool}{K:cD}{dd:List FuncId}{h:ae}{R w i z:Nat}(hw:w<256)(hi:i<8)(hR:h.get R=some (.row (pl w) true z))(hk:∀T,K (.bp []) dd (h.set R (some (.row (pl (w|||2^i)) true z))) T):
 ax E ar K dd h (132,[.v (.pointer (some ⟨R,0,none⟩)),iV (i:Nat)]):=by
 refine gR Tryz.ntmps132 Tryz.results132 ?_;obtain⟨h2,h3⟩:=ac3 hi;have e1:(i:Int).tdiv 64=0:=Int.tdiv_eq_zero_of_lt aa aa;have e2:(i:Int).tmod 64=i:=Int.tmod_eq_of_lt aa aa;refine aL ?_;refine bZ [ai 0,ai 0,ai 2,ai 1,ai 15,aK 31,ai 0,ai 64,ai 192,ai 511,ai 1,ai 2047,aU 4095] ak 0 rfl ?_;have h4:=sM w (2^i) hw h2;simp(disch:=omega)[go_sem,h3]at h4;simp(disch:=omega)[go_sem,hR,pl,e1,e2,h3,h4,aG,dV,nD];exact hk
set_option maxHeartbeats 4000000 in
def sN{ar:Bool}{K:cD}{dd:List FuncId}{h:ae}{R a b z:Nat}(ha:a<256)(hb:b<256)(hR:h.get R=some (.row (pl a) true z))(aq:R<h.next)
 (hk:∀h' T,h'.next=h.next+1->h'.get R=some (.row (pl (a|||b)) true z)->(∀i,i<h.next->i≠R->h'.get i=h.get i)->K (.bp []) dd h' T):
 ax E ar K dd h (130,[.v (.pointer (some ⟨R,0,none⟩)),.agg (pl b)]):=by
 refine gR Tryz.ntmps130 Tryz.results130 ?_;have h4:=sM a b ha hb;have h5:=sM 0 0 aC aC;simp(disch:=omega)[go_sem]at h4 h5;obtain⟨N,hN⟩:∃N,h.next=N:=⟨_,rfl⟩;rw[hN]at aq hk;simp(disch:=omega)[go_sem,hN,pl];obtain⟨I,hI⟩:∃I:Nat->DS->Prop,∀j d,I j d↔∃(k:Nat) (H:ae),j+k=8/\H.next=N+1/\H.get R=some (.row (pl (if k=0 then a else a|||b)) true z)/\H.get N=some (.row (pl b) true 0)/\(∀i,i<N->i≠R->H.get i=h.get i)/\
  d=⟨bw [(0,.v (.pointer (some ⟨R,0,none⟩))),(3,.v (.pointer (some ⟨N,0,none⟩))),(5,iV (k:Nat))],20,[],H⟩:=⟨_,λ_ _=>RW⟩
 refine bS I 8 ⟨_,aB.bb (l:=[(0,.v (.pointer (some ⟨R,0,none⟩))),(3,.v (.pointer (some ⟨N,0,none⟩))),(5,iV (0:Nat))]) ah,(hI _ _).2 ⟨0,_,rfl, ?_, ?_, ?_, ?_,rfl⟩⟩ ?_
 . simp(disch:=omega)[go_sem,hN]
 . simp(disch:=omega)[go_sem,hN,hR]
 . simp(disch:=omega)[go_sem,hN,pl]
 . intro i h1 h2;simp(disch:=omega)[go_sem,hN]
 . intro j ds ad;obtain⟨k,H,hj,hH,f1,f2,f3,rfl⟩:=(hI _ _).1 ad;clear ad;by_cases av:k=8
   . subst av;refine aL ?_;intro T;exact hk _ T aa f1 f3
   . by_cases af:k=0
     . subst af;simp only[if_true]at f1;refine aL ?_;refine bZ [ai 0,ai 0,ai 1,ai 7,aK 15,ai 0,ai 32,aK 96,ai 255,ai 1,ai 1023,aU 2047] ak 0 rfl ?_;simp(disch:=omega)[go_sem,f1,f2,pl,h4,dV,nD,aG];refine⟨7,aa,_,aB.bb (l:=[(0,.v (.pointer (some ⟨R,0,none⟩))),(3,.v (.pointer (some ⟨N,0,none⟩))),(5,iV (1:Nat))]) ah,(hI _ _).2 ⟨1,_,rfl, ?_, ?_, ?_, ?_,rfl⟩⟩
       . simp(disch:=omega)[go_sem,hH]
       . simp(disch:=omega)[go_sem,pl]
       . simp(disch:=omega)[go_sem,f2]
       . intro i h1 h2;simp(disch:=omega)[go_sem,f3,h1,h2]
     . rw[if_neg af]at f1;have aw:(k:Int)<8:=aa;have ab:∀c:Nat,(pl c)[k]? =some (.v (.int .u64 0)):=λc=>by
        have:k=1\/k=2\/k=3\/k=4\/k=5\/k=6\/k=7:=aa;rcases this with rfl|rfl|rfl|rfl|rfl|rfl|rfl<;>rfl
       have az:∀c:Nat,(pl c).take k++[.v (.int .u64 0)]++(pl c).drop (k+1)=pl c:=λc=>by
        have:k=1\/k=2\/k=3\/k=4\/k=5\/k=6\/k=7:=aa;rcases this with rfl|rfl|rfl|rfl|rfl|rfl|rfl<;>rfl
       simp(disch:=omega)[go_sem,aw];refine bZ [ai 0,ai 0,ai 1,ai 7,aK 15,ai 0,ai 32,aK 96,ai 255,ai 1,ai 1023,aU 2047] ak 0 rfl ?_;have hlen:∀c:Nat,(pl c).length=8:=λc=>rfl;have an:(pl (a|||b)).take k++.v (.int .u64 0)::(pl (a|||b)).drop (k+1)=pl (a|||b):=by simpa using az (a|||b)
       have aF:∀c x,x∈(pl c).drop (k+1)->cZ x=true:=λc x hx=>by
        have hx:=List.mem_of_mem_drop hx;simp only[pl,afw,adr,or_false]at hx;rcases hx with rfl|rfl|rfl|rfl|rfl|rfl|rfl|rfl<;>rfl
       simp(disch:=omega)[go_sem,f1,f2,dV,nD,aG,ab,h5,hlen,an,show k<=7 from by omega];refine⟨j-1,aa,_,aB.bb (l:=[(0,.v (.pointer (some ⟨R,0,none⟩))),(3,.v (.pointer (some ⟨N,0,none⟩))),(5,iV (k+1:Nat))]) ah,(hI _ _).2 ⟨k+1,_,aa, ?_,ah, ?_, ?_,rfl⟩⟩
       . simp(disch:=omega)[go_sem,hH]
       . simp(disch:=omega)[go_sem,f2]
       . intro i h1 h2;simp(disch:=omega)[go_sem,f3,h1,h2]
set_option maxHeartbeats 4000000 in
def ac4{ar:Bool}{K:cD}{dd:List FuncId}{h:ae}{R a b z:Nat}(ha:a<256)(hb:b<256)(hR:h.get R=some (.row (pl a) true z))(aq:R<h.next)
 (hk:∀N,h.next<=N->K (bV (decide (a&&&b≠0))) dd (h.up N) [R]):
 ax E ar K dd h (134,[.v (.pointer (some ⟨R,0,none⟩)),.agg (pl b)]):=by
 refine uA [R] Tryz.ntmps134 Tryz.results134 ?_;simp only[e9,hR];have h4:=Dv a b ha hb;have h5:=Dv 0 0 aC aC;simp(disch:=omega)[go_sem]at h4 h5;obtain⟨N,hN⟩:∃N,h.next=N:=⟨_,rfl⟩;rw[hN]at aq hk;simp(disch:=omega)[go_sem,hN,pl];obtain⟨I,hI⟩:∃I:Nat->DS->Prop,∀j d,I j d↔∃(k:Nat) (H:ae),j+k=8/\(k≠0->a&&&b=0)/\H.next=N+1/\H.get R=some (.row (pl a) true z)/\H.get N=some (.row (pl b) true 0)/\
  d=⟨bw [(0,.v (.pointer (some ⟨R,0,none⟩))),(3,.v (.pointer (some ⟨N,0,none⟩))),(6,iV (k:Nat))],20,[],H⟩:=⟨_,λ_ _=>RW⟩
 refine bS I 8 ⟨_,aB.bb (l:=[(0,.v (.pointer (some ⟨R,0,none⟩))),(3,.v (.pointer (some ⟨N,0,none⟩))),(6,iV (0:Nat))]) ah,(hI _ _).2 ⟨0,_,rfl,λh=>absurd rfl h, ?_, ?_, ?_,rfl⟩⟩ ?_
 . simp(disch:=omega)[go_sem,hN]
 . simp(disch:=omega)[go_sem,hN,hR];try rfl
 . simp(disch:=omega)[go_sem,hN,pl]
 . intro j ds ad;obtain⟨k,H,hj,hz,hH,f1,f2,rfl⟩:=(hI _ _).1 ad;clear ad;by_cases av:k=8
   . subst av;have aH:=hz aC;refine aL ?_;refine⟨by first|rw[f1,hR]|simp[hR,pl], ?_⟩;have:=hk (N+1) aa;simpa[aH,hH]using this
   . by_cases af:k=0
     . subst af;refine aL ?_;refine bZ [ai 0,ai 0,ai 1,ai 7,aK 15,ai 0,ai 32,aK 96,ai 255,ai 511] ak 0 rfl ?_;by_cases ao:a&&&b=0
       . simp(disch:=omega)[go_sem,f1,f2,pl,h4,ao,dV,nD,aG];refine⟨7,aa,_,aB.bb (l:=[(0,.v (.pointer (some ⟨R,0,none⟩))),(3,.v (.pointer (some ⟨N,0,none⟩))),(6,iV (1:Nat))]) ?_,(hI _ _).2 ⟨1,_,rfl,λ_=>ao,hH,f1,f2,rfl⟩⟩;exact ah
       . simp(disch:=omega)[go_sem,f1,f2,pl,h4,ao,dV,nD,aG];refine⟨by first|rw[f1,hR]|simp[hR,pl], ?_⟩;have:=hk (N+1) aa;simpa[ao,hH]using this
     . have aw:(k:Int)<8:=aa;have ab:∀c:Nat,(pl c)[k]? =some (.v (.int .u64 0)):=λc=>by
        have:k=1\/k=2\/k=3\/k=4\/k=5\/k=6\/k=7:=aa;rcases this with rfl|rfl|rfl|rfl|rfl|rfl|rfl<;>rfl
       have hlen:∀c:Nat,(pl c).length=8:=λc=>rfl;simp(disch:=omega)[go_sem,aw];refine bZ [ai 0,ai 0,ai 1,ai 7,aK 15,ai 0,ai 32,aK 96,ai 255,ai 511] ak 0 rfl ?_;simp(disch:=omega)[go_sem,f1,f2,dV,nD,aG,ab,h5,hlen];refine⟨j-1,aa,_,aB.bb (l:=[(0,.v (.pointer (some ⟨R,0,none⟩))),(3,.v (.pointer (some ⟨N,0,none⟩))),(6,iV (k+1:Nat))]) ?_,(hI _ _).2 ⟨k+1,_,aa,λ_=>hz af,hH,f1,f2,rfl⟩⟩;exact ah
def ac5(w:Nat)(h0:0<w)(h1:w<256):aE E true 176 [.v (.int .u64 (w:Nat))] (iV (nC w:Nat)):=by
 have:=ac0 (w-1) (by simp;omega);rwa[show w-1+1=w by omega]at this
def ac6(w:Nat)(h1:w<256):nC w<8/\(0<w->w&&&(w-1)<w):=by
 have h:((yy 256).all λw=>Xy (nC w) 8&&(afE w 0||Xy (w&&&(w-1)) w))=true:=ak;have h2:=qG.1 h w (by simpa using h1);simp only[afx,afy]at h2;refine⟨FQ h2.1,λh0=> ?_⟩;rcases h2.2 with h3|h3
 . have:=afF h3;omega
 . exact FQ h3
def ac7(w:Nat)(h0:0<w)(h1:w<256):IntKind.u64.wrap (((E2 IntKind.u64.bits (w:Int)&&&E2 IntKind.u64.bits (IntKind.u64.wrap ((w:Int)-1))).toNat:Nat):Int)=((w&&&(w-1):Nat):Int):=by
 rw[show((w:Int)-1)=((w-1:Nat):Int) by omega,wrap_u64 (x:=((w-1:Nat):Int)) aa aa];exact Dv w (w-1) h1 aa
set_option maxHeartbeats 4000000 in
def JO{K:cD}{dd:List FuncId}{h:ae}{w R:Nat}(hw:w<256)(f:FuncId)(ab:List DV)(Inv:Nat->ae->Prop)(hR:∀w' H,Inv w' H->∃z,H.get R=some (.row (pl w) true z))
 (ao:∀w' H (K':cD) aJ,0<w'->w'<256->Inv w' H->(∀H' T,Inv (w'&&&(w'-1)) H'->K' (.bp []) aJ H' T)->ax E true K' aJ H (f,iV (nC w':Nat)::ab))
 (aN:∀w' H M,H.next<=M->Inv w' H->Inv w' (H.up M)) (h0:Inv w h) (hk:∀H' T,Inv 0 H'->K (.bp []) dd H' T):
 ax E true K dd h (128,[.v (.pointer (some ⟨R,0,none⟩)),.fn f [] ab]):=by
 refine gR Tryz.ntmps128 Tryz.results128 ?_;refine aL ?_;obtain⟨I,hI⟩:∃I:Nat->DS->Prop,∀j d,I j d↔∃(k:Nat) (H:ae),j+k=8/\Inv (if k=0 then w else 0) H/\
  d=⟨bw [(1,.fn f [] ab),(6,.v (.pointer (some ⟨R,0,none⟩))),(7,iV (k:Nat))],27,[],H⟩:=⟨_,λ_ _=>RW⟩
 refine bS I 8 ⟨_,aB.bb (l:=[(1,.fn f [] ab),(6,.v (.pointer (some ⟨R,0,none⟩))),(7,iV (0:Nat))]) ah,(hI _ _).2 ⟨0,_,rfl,h0,rfl⟩⟩ ?_
 . intro j ds aq;obtain⟨k,H,hj,af,rfl⟩:=(hI _ _).1 aq;clear aq;by_cases aQ:k=8
   . subst aQ;refine aL ?_;intro T;exact hk _ T af
   . have aS:(k:Int)<8:=aa;obtain⟨z,f1⟩:=hR _ _ af;have av:(pl w)[k]? =some (.v (.int .u64 ((if k=0 then w else 0:Nat):Nat))):=by
      have:k=0\/k=1\/k=2\/k=3\/k=4\/k=5\/k=6\/k=7:=aa;rcases this with rfl|rfl|rfl|rfl|rfl|rfl|rfl|rfl<;>rfl
     generalize hv:(if k=0 then w else 0)=v at af av;have az:v<256:=by split at hv<;>omega
     have aT:v=0\/k=0:=by split at hv<;>omega
     clear hv;simp(disch:=omega)[go_sem,aS];refine bZ [ai 0,ai 0,ai 2,aK 6,ai 1,ai 31] ak 0 rfl ?_;simp(disch:=omega)[go_sem,f1,dV,nD,av];obtain⟨J,hJ⟩:∃J:Nat->DS->Prop,∀j d,J j d↔∃(H:ae),j<256/\(j=0\/k=0)/\Inv j H/\
      d=⟨bw [(1,.fn f [] ab),(4,iV (k:Nat)),(5,.v (.int .u64 (j:Nat))),(6,.v (.pointer (some ⟨R,0,none⟩))),(7,iV (k:Nat))],27,[],H⟩:=⟨_,λ_ _=>RW⟩
     refine bS J v ⟨_,aB.bb (l:=[(1,.fn f [] ab),(4,iV (k:Nat)),(5,.v (.int .u64 (v:Nat))),(6,.v (.pointer (some ⟨R,0,none⟩))),(7,iV (k:Nat))]) ah,(hJ _ _).2 ⟨_,az,aT,af,rfl⟩⟩ ?_
     . intro u ds aq;obtain⟨H,hu,aY,af,rfl⟩:=(hJ _ _).1 aq;clear aq;by_cases aM:u=0
       . subst aM;simp(disch:=omega)[go_sem,aG];refine⟨j-1,aa,_,aB.bb (l:=[(1,.fn f [] ab),(6,.v (.pointer (some ⟨R,0,none⟩))),(7,iV (k+1:Nat))]) ?_,(hI _ _).2 ⟨k+1,_,aa,by rw[if_neg aa];exact af,rfl⟩⟩;exact ah
       . have aU:k=0:=aa;subst aU;obtain⟨ht,an⟩:=ac6 u hu;have an:=an aa;have aW:=ac5 u aa hu;have h6:=ac7 u aa hu;replace h6:=cq h6;simp(disch:=omega)[go_sem,aM];refine ax.mk aW λM hM=> ?_;simp(disch:=omega)[go_sem,aG];refine ao u _ _ _ aa hu (aN _ _ _ hM af) λH' T aH=> ?_;simp(disch:=omega)[go_sem,h6];refine⟨u&&&(u-1),an,_,aB.bb (l:=[(1,.fn f [] ab),(4,iV (0:Nat)),(5,.v (.int .u64 ((u&&&(u-1):Nat):Nat))),(6,.v (.pointer (some ⟨R,0,none⟩))),(7,iV (0:Nat))]) ?_,(hJ _ _).2 ⟨_,aa,.inr rfl,aH,rfl⟩⟩;exact ah
def kT(m:cN)(b:Int)(i:Nat)(s:Nat×Nat):Nat×Nat:=match m.p[i]?,m.follow[i]? with
 |some x,some f=>if x.lo<=b/\b<=x.hi then(s.1|||2^i,s.2|||f)else s
 |_,_=>s
structure cN.Ok(m:cN):Prop where
 first:m.first<2^m.p.length
 last:m.last<2^m.p.length
 follow:∀f∈m.follow,f<2^m.p.length
 len:m.p.length<=8
 zi:m.follow.length=m.p.length
def Dw:∀m∈ep,m.Ok:=by
 have h:(ep.all λm=>Xy m.first (2^m.p.length)&&Xy m.last (2^m.p.length)&&(m.follow.all λf=>Xy f (2^m.p.length))&&Nat.ble m.p.length 8&&afE m.follow.length m.p.length)=true:=ak;intro m hm;have:=qG.1 h m hm;simp only[afx,qG]at this;obtain⟨⟨⟨⟨h1,h2⟩,h3⟩,h4⟩,h5⟩:=this;exact⟨FQ h1,FQ h2,λf hf=>FQ (h3 f hf),FQ h4,afF h5⟩
def cN.Ok.pow{m:cN}(hm:m.Ok){x:Nat}(h:x<2^m.p.length):x<256:=Zf h (YN (n:=2) aC hm.len)
theorem cN.zj(m:cN):m.e=[.sl 5 (m.p.map bd.e),.v (.int .u64 m.first),.v (.int .u64 0),.v (.int .u64 0),.v (.int .u64 0),.v (.int .u64 0),.v (.int .u64 0),.v (.int .u64 0),.v (.int .u64 0),.v (.int .u64 m.last),.v (.int .u64 0),.v (.int .u64 0),.v (.int .u64 0),.v (.int .u64 0),.v (.int .u64 0),.v (.int .u64 0),.v (.int .u64 0),.sl 8 (m.follow.map pl),bV m.empty]:=rfl
theorem fi(c:Nat):(pl c).length=8:=rfl
theorem jx(c:Nat):(pl c).drop 8=[]:=rfl
def iL(c:Nat):(∀d∈pl c,cZ d=true)=True:=eq_true λd hd=>by
 simp only[pl,afw,adr,or_false]at hd;rcases hd with rfl|rfl|rfl|rfl|rfl|rfl|rfl|rfl<;>rfl
theorem gT(c:Nat):(pl c).take 8=pl c:=rfl
def JP:E.P.underlying 9=some .string:=ak
def zk(t:ByteArray)(n:Nat)(b:UInt8)(h:t[n]? =some b):mY E 9 (sV t) (iV (n:Nat))=some (.v (.int .u8 b.toNat)):=by
 have:=Xx (e:=E) JP u9 t .i64 (n:Int) b aa (by simpa using h);simp[mY,this]
set_option maxHeartbeats 4000000 in
def ac8{K:cD}{dd:List FuncId}{h:ae}{m:cN}(hm:m.Ok){i n s x Bs Bn Bm Br Bx:Nat}{t:ByteArray}{b:UInt8}(hi:i<m.p.length)(hb:t[n]? =some b)(hs:s<256)(hx:x<256)
 (g1:h.get Bs=some (.row [sV t] true 0)) (g2:h.get Bn=some (.row [iV (n:Nat)] true 0)) (g3:h.get Bm=some (.row [.ptr m.e 0] true 0)) (g4:h.get Br=some (.row (pl s) true 0)) (g5:h.get Bx=some (.row (pl x) true 0))
 (ad:Br≠Bx/\Bs≠Br/\Bs≠Bx/\Bn≠Br/\Bn≠Bx/\Bm≠Br/\Bm≠Bx) (ba:Br<h.next/\Bx<h.next)
 (hk:∀h' T,h.next<=h'.next->h'.get Br=some (.row (pl (kT m b.toNat i (s,x)).1) true 0)->h'.get Bx=some (.row (pl (kT m b.toNat i (s,x)).2) true 0)->(∀j,j<h.next->j≠Br->j≠Bx->h'.get j=h.get j)->K (.bp []) dd h' T):
 ax E true K dd h (133,[iV (i:Nat),.v (.pointer (some ⟨Bs,0,none⟩)),.v (.pointer (some ⟨Bn,0,none⟩)),.v (.pointer (some ⟨Bm,0,none⟩)),.v (.pointer (some ⟨Br,0,none⟩)),.v (.pointer (some ⟨Bx,0,none⟩))]):=by
 refine gR Tryz.ntmps133 Tryz.results133 ?_;obtain⟨p,hp⟩:∃p,m.p[i]? =some p:=⟨_,YT hi⟩;obtain⟨f,hf⟩:∃f,m.follow[i]? =some f:=⟨_,YT (by rw[hm.zi];exact hi)⟩;have bc:i<m.follow.length:=by rw[hm.zi];exact hi
 have hlen:=hm.len;rw[cN.zj]at g3;have aF:=zk t n b hb;have bf:b.toNat<256:=b.toNat_lt;have aX:=hm.pow (hm.follow f (ab8 hf));have aI:(m.follow.map pl)[i]? =some (pl f):=by rw[afT,hf];rfl
 by_cases c1:p.lo<=(b.toNat:Int)
 . by_cases c2:(b.toNat:Int)<=p.hi
   . have hv:kT m b.toNat i (s,x)=(s|||2^i,x|||f):=by simp only[kT,hp,hf];rw[if_pos ⟨c1,c2⟩]
     rw[hv]at hk;simp(disch:=omega)[go_sem,g1,g2,g3,hp,aF,-getElem?_pos,bd.e,aG,c1,c2];refine JN hs aa g4 λT=> ?_;simp(disch:=omega)[go_sem,g1,g2,g3,g4,g5,hp,aF,-getElem?_pos,bd.e,aG,c1,c2,ad.1,ad.2.1,ad.2.2.1,ad.2.2.2.1,ad.2.2.2.2.1,ad.2.2.2.2.2.1,aI,fi,gT];refine sN (z:=0) hx aX (by simp(disch:=omega)[go_sem,g5,ad.1.symm]) (by simp(disch:=omega)[go_sem];omega) λh' T q1 q2 q3=> ?_;simp(disch:=omega)[go_sem]at q1 q3;refine aL ?_;intro T2;refine hk _ T2 aa ?_ q2 λj j1 j2 j3=> ?_
     . rw[q3 Br aa ad.1];simp
     . rw[q3 j aa j3];simp[j2]
   . have hv:kT m b.toNat i (s,x)=(s,x):=by simp only[kT,hp,hf];rw[if_neg (λh=>c2 h.2)]
     rw[hv]at hk;simp(disch:=omega)[go_sem,g1,g2,g3,hp,aF,-getElem?_pos,bd.e,aG,c1,c2];intro T;exact hk _ T (KE _) g4 g5 λ_ _ _ _=>rfl
 . have hv:kT m b.toNat i (s,x)=(s,x):=by simp only[kT,hp,hf];rw[if_neg (λh=>c1 h.1)]
   rw[hv]at hk;simp(disch:=omega)[go_sem,g1,g2,g3,hp,aF,-getElem?_pos,bd.e,aG,c1];intro T;exact hk _ T (KE _) g4 g5 λ_ _ _ _=>rfl
def JQ{m:cN}(hm:m.Ok)(b:Int)(i:Nat)(hi:i<m.p.length)(s:Nat×Nat)(h1:s.1<2^m.p.length)(h2:s.2<2^m.p.length):(kT m b i s).1<2^m.p.length/\(kT m b i s).2<2^m.p.length:=by
 unfold kT
 split
 . rename_i x f hp hf
   split
   . exact⟨RK h1 (afU aC hi),RK h2 (hm.follow f (ab8 hf))⟩
   . exact⟨h1,h2⟩
 . exact⟨h1,h2⟩
def JR:Nat->Nat->List Nat
 |0,_=>[]
 |k+1,w=>if w=0 then []else nC w::JR k (w&&&(w-1))
def bits(w:Nat):List Nat:=JR 8 w
theorem JS:bits 0=[]:=rfl
def JT(w:Nat)(h0:0<w)(h1:w<256):bits w=nC w::bits (w&&&(w-1)):=by
 have h:((yy 256).all λw=>afE w 0||decide (bits w=nC w::bits (w&&&(w-1))))=true:=ak;have h2:=qG.1 h w (by simpa using h1);simp only[afy,decide_eq_true_eq]at h2;rcases h2 with h2|h2
 . have:=afF h2;omega
 . exact h2
def JU(w n:Nat)(h0:0<w)(h1:w<2^n)(hn:n<=8):nC w<n:=by
 have h:((yy 9).all λn=>(yy 256).all λw=>afE w 0||Nat.ble (2^n) w||Xy (nC w) n)=true:=ak;have h3:w<256:=Zf h1 (YN (n:=2) aC hn);have h2:=qG.1 (qG.1 h n (by simp;omega)) w (by simpa using h3);simp only[afy]at h2;rcases h2 with(h2|h2)|h2
 . have:=afF h2;omega
 . have:=FQ h2;omega
 . exact FQ h2
def eI(m:cN)(b:Int)(now:Nat):Nat×Nat:=(bits now).foldl (λs i=>kT m b i s) (0,0)
def peq(w:Nat)(hw:w<256):jG E .eql 149 (.tmp 21) (.tmp 22) (.agg (pl w)) (.agg (pl 0))=some (bV (decide (w=0))):=by
 have h:((yy 256).all λw=>match jG E .eql 149 (.tmp 21) (.tmp 22) (.agg (pl w)) (.agg (pl 0))with|some (.v (.bool b))=>b==decide (w=0)|_=>false)=true:=ak;have h2:=qG.1 h w (by simpa using hw)
 split at h2
 . rename_i b hb;rw[hb,eq_of_beq h2]
 . cases h2
def runM{γ:Type}(m:cN)(c9:γ->Nat->Bool->γ):Nat->Nat->List UInt8->γ->γ
 |_,_,[],g=>g
 |now,n,b::r,g=>if(eI m b.toNat now).1=0 then g else runM m c9 (eI m b.toNat now).2 (n+1) r (c9 g (n+1) (decide ((eI m b.toNat now).1&&&m.last≠0)))
def JV{m:cN}(hm:m.Ok)(b:Int):∀(l:List Nat) (s:Nat×Nat),(∀i∈l,i<m.p.length)->s.1<2^m.p.length->s.2<2^m.p.length->(l.foldl (λs i=>kT m b i s) s).1<2^m.p.length/\(l.foldl (λs i=>kT m b i s) s).2<2^m.p.length
 |[],s,_,h1,h2=>⟨h1,h2⟩
 |i::l,s,h,h1,h2=>by
  obtain⟨h3,h4⟩:=JQ hm b i (h i aw) s h1 h2;exact JV hm b l _ (λj hj=>h j (afG _ hj)) h3 h4
def ac9(n:Nat)(hn:n<=8):∀w,w<2^n->∀i∈bits w,i<n:=by
 have h:((yy 9).all λn=>(yy 256).all λw=>Nat.ble (2^n) w||(bits w).all λi=>Xy i n)=true:=ak;intro w h1 i hi;have h3:w<256:=Zf h1 (YN (n:=2) aC hn);have h2:=qG.1 (qG.1 h n (by simp;omega)) w (by simpa using h3);simp only[afy,qG]at h2;rcases h2 with h2|h2
 . have:=FQ h2;omega
 . exact FQ (h2 i hi)
def ada{m:cN}(hm:m.Ok)(b:Int)(now:Nat)(h:now<2^m.p.length):(eI m b now).1<2^m.p.length/\(eI m b now).2<2^m.p.length:=
 JV hm b _ _ (ac9 _ hm.len _ h) (Vs _) (Vs _)
def Dx{γ:Type}(cb:FuncId)(af:List DV)(B N0:Nat)(h0:ae)(val:γ->DV)(c9:γ->Nat->Bool->γ):Prop:=
 ∀(K:cD) (dd:List FuncId) (H:ae) (n:Nat) (is:Bool) (g:γ),N0<=H.next->(∀i,i<N0->i≠B->H.get i=h0.get i)->H.get B=some (.row [val g] true 0)->
  (∀h' T,(∀i∈T,i<N0)->H.next<=h'.next->h'.get B=some (.row [val (c9 g n is)] true 0)->(∀j,j≠B->j<H.next->h'.get j=H.get j)->K (bV true) dd h' T)->ax E true K dd H (cb,iV (n:Nat)::bV is::af)
def eJ(h:ab)(s:ByteArray):fV E h 9 (.string s)=some (.int .i64 s.size):=by simp[fV,u9]
def drop_cons{t:ByteArray}{k:Nat}(h:k<t.size):∃b,t[k]? =some b/\t.data.toList.drop k=b::t.data.toList.drop (k+1):=by
 refine⟨t[k],by rw[getElem?_pos], ?_⟩;have hl:k<t.data.toList.length:=by simpa using h
 rw[afV hl];rfl
set_option maxHeartbeats 8000000 in
def Dy{γ:Type}{K:cD}{dd:List FuncId}{h:ae}{m:cN}(hm:m.Ok)(t:ByteArray)(hlen:t.size<=1000000000)(cb:FuncId)(af:List DV)(B:Nat)(val:γ->DV)(c9:γ->Nat->Bool->γ)(g:γ)
 (hB:h.get B=some (.row [val g] true 0)) (aN:B<h.next) (aH:Dx cb af B h.next h val c9)
 (hk:∀h' T,h.next<=h'.next->h'.get B=some (.row [val (runM m c9 m.first 0 t.data.toList g)] true 0)->(∀i,i<h.next->i≠B->h'.get i=h.get i)->K (.bp []) dd h' T):
 ax E true K dd h (75,[.ptr m.e 0,sV t,.fn cb [] af]):=by
 refine gR Tryz.ntmps75 Tryz.results75 ?_;obtain⟨N,hN⟩:∃N,h.next=N:=⟨_,rfl⟩;obtain⟨G,hG⟩:∃G,runM m c9 m.first 0 t.data.toList g=G:=⟨_,rfl⟩;obtain⟨me,aC⟩:∃me,m.e=me:=⟨_,rfl⟩;have an:=cN.zj m;rw[aC]at an;rw[hG]at hk;rw[hN]at aN aH hk;simp(disch:=omega)[go_sem,hN,aC];simp(disch:=omega)[go_sem,hN,an,eJ];obtain⟨I,hI⟩:∃I:Nat->DS->Prop,∀j d,I j d↔∃(k now:Nat) (g':γ) (H:ae),j+k=t.size/\now<2^m.p.length/\runM m c9 now k (t.data.toList.drop k) g'=G/\N+2<H.next/\H.get N=some (.row [.ptr me 0] true 0)/\H.get (N+1)=some (.row [sV t] true 0)/\H.get (N+2)=some (.row (pl now) true 0)/\H.get B=some (.row [val g'] true 0)/\(∀i,i<N->i≠B->H.get i=h.get i)/\
  d=⟨bw [(2,.fn cb [] af),(3,.v (.pointer (some ⟨N,0,none⟩))),(4,.v (.pointer (some ⟨N+1,0,none⟩))),(6,.v (.pointer (some ⟨N+2,0,none⟩))),(15,iV (t.size:Nat)),(16,iV (k:Nat))],38,[],H⟩:=⟨_,λ_ _=>RW⟩
 refine bS I t.size ⟨_,aB.bb (l:=[(2,.fn cb [] af),(3,.v (.pointer (some ⟨N,0,none⟩))),(4,.v (.pointer (some ⟨N+1,0,none⟩))),(6,.v (.pointer (some ⟨N+2,0,none⟩))),(15,iV (t.size:Nat)),(16,iV (0:Nat))]) ah,(hI _ _).2 ⟨0,m.first,g,_,rfl,hm.first,hG, ?_, ?_, ?_, ?_, ?_, ?_,rfl⟩⟩ ?_
 . simp(disch:=omega)[go_sem,hN]
 . simp(disch:=omega)[go_sem,hN,an]
 . simp(disch:=omega)[go_sem,hN]
 . simp(disch:=omega)[go_sem,hN,pl]
 . simp(disch:=omega)[go_sem,hN,hB]
 . intro i h1 h2;simp(disch:=omega)[go_sem,hN]
 . intro j ds aI;obtain⟨k,now,g',H,hj,ao,ad,hH,f1,f2,f3,f4,f5,rfl⟩:=(hI _ _).1 aI;clear aI;by_cases aQ:k<t.size
   . have aq:(k:Int)<t.size:=aa;obtain⟨b,aS,aT⟩:=drop_cons aQ;rw[aT]at ad;have aF:=ada hm b.toNat now ao;simp only[runM]at ad;obtain⟨P,hP⟩:∃P,H.next=P:=⟨_,rfl⟩;rw[hP]at hH;simp(disch:=omega)[go_sem,aq,hP];refine JO (hm.pow ao) 133 _ (λw H'=>∃s x:Nat,w<2^m.p.length/\s<2^m.p.length/\x<2^m.p.length/\(bits w).foldl (λs i=>kT m b.toNat i s) (s,x)=eI m b.toNat now/\P+2<H'.next/\H'.get (P+1)=some (.row (pl s) true 0)/\H'.get (P+1+1)=some (.row (pl x) true 0)/\H'.get P=some (.row [iV (k:Nat)] true 0)/\∀i,i<P->H'.get i=H.get i) ?_ ?_ ?_ ?_ ?_
     . rintro w' H' ⟨s,x,h1,h2,h3,h4,h5,h6,h7,h8,h9⟩;exact⟨0,by rw[h9 _ hH,f3]⟩
     . rintro w' H' K' aX aJ aw ⟨s,x,h1,h2,h3,h4,h5,h6,h7,h8,h9⟩ aW;rw[JT w' aJ aw,afN]at h4;have aM:=JU w' _ aJ h1 hm.len;have hv:=JQ hm b.toNat _ aM (s,x) h2 h3;refine ac8 hm (s:=s) (x:=x) (n:=k) (t:=t) (b:=b) aM aS (hm.pow h2) (hm.pow h3) (by rw[h9 _ aa,f2]) h8 (by rw[h9 _ aa,f1,aC]) h6 h7 ⟨aa,aa,aa,aa,aa,aa,aa⟩ ⟨aa,aa⟩ λh' T q1 q2 q3 q4=>aW _ T ⟨_,_,afW afM h1,hv.1,hv.2,h4,aa,q2,q3, ?_,λi hi=> ?_⟩
       . rw[q4 P aa aa aa,h8]
       . rw[q4 i aa aa aa,h9 i hi]
     . rintro w' H' M hM ⟨s,x,h1,h2,h3,h4,h5,h6,h7,h8,h9⟩;exact⟨s,x,h1,h2,h3,h4,by rw[ae.iU];omega,h6,h7,h8,h9⟩
     . refine⟨0,0,ao,Vs _,Vs _,rfl, ?_, ?_, ?_, ?_,λi hi=> ?_⟩
       all_goals simp(disch:=omega)[go_sem,hP,pl]
     . rintro H' T ⟨s,x,_,h2,h3,h4,h5,h6,h7,h8,h9⟩;rw[JS]at h4;have h4:(s,x)=eI m b.toNat now:=h4;rw[<-h4]at ad aF;simp only at ad aF;have heq:jG E .eql 149 (.tmp 21) (.tmp 22) (.agg (pl s)) (.agg [.v (.int .u64 0),.v (.int .u64 0),.v (.int .u64 0),.v (.int .u64 0),.v (.int .u64 0),.v (.int .u64 0),.v (.int .u64 0),.v (.int .u64 0)])=some (bV (decide (s=0))):=peq s (hm.pow h2);have e1:H'.get N=some (.row [.ptr me 0] true 0):=by rw[h9 _ aa,f1]
       have e2:H'.get (N+1)=some (.row [sV t] true 0):=by rw[h9 _ aa,f2]
       have e3:H'.get (N+2)=some (.row (pl now) true 0):=by rw[h9 _ aa,f3]
       have e4:H'.get B=some (.row [val g'] true 0):=by rw[h9 _ aa,f4]
       refine aL ?_;refine bZ [aK 0,ai 0,ai 3,ai 7,ai 15,dC 15,ai 47,aK 15,ai 143,ai 399,aK 911,aU 1935,aU 4095,ai 8191,ai 16383] ak 0 rfl ?_;by_cases az:s=0
       . rw[if_pos az]at ad;subst ad;subst az;simp(disch:=omega)[go_sem,h6,fi,gT,heq];intro T2;exact hk _ T2 (by rw[ae.iU];omega) e4 λi hi av=>(by rw[ae.tF,h9 i aa,f5 i hi av])
       . rw[if_neg az]at ad;simp(disch:=omega)[go_sem,h6,fi,gT,heq,az,h8,e1,an,aG];refine⟨aa, ?_⟩;refine ac4 (z:=0) (a:=s) (b:=m.last) (hm.pow h2) (hm.pow hm.last) h6 (by rw[ae.iU];omega) λM hM=> ?_;rw[ae.iU]at hM;simp(disch:=omega)[go_sem,h8,aG];rw[show((k:Int)+1)=((k+1:Nat):Int) by omega];refine aH _ _ _ (k+1) _ g' (by simp(disch:=omega)[go_sem];omega) (λi hi av=>by simp(disch:=omega)[go_sem,h9,f5,hi,av]) (by simp(disch:=omega)[go_sem,e4]) λh' T3 q0 q1 q2 q3=> ?_;simp(disch:=omega)[go_sem]at q1 q3;have e5:h'.get (P+1+1)=some (.row (pl x) true 0):=by rw[q3 _ aa aa,h7]
         have e6:h'.get (N+2)=some (.row (pl now) true 0):=by rw[q3 _ aa aa,e3]
         have e7:P∉T3:=λh=>by have:=q0 P h;omega
         simp(disch:=omega)[go_sem,e7,h8,e5,e6,fi,gT,jx,iL,aG];refine⟨j-1,aa,_,aB.bb (l:=[(2,.fn cb [] af),(3,.v (.pointer (some ⟨N,0,none⟩))),(4,.v (.pointer (some ⟨N+1,0,none⟩))),(6,.v (.pointer (some ⟨N+2,0,none⟩))),(15,iV (t.size:Nat)),(16,iV (k+1:Nat))]) ah,(hI _ _).2 ⟨k+1,x,_,_,aa,aF.2,ad, ?_, ?_, ?_, ?_, ?_,λi hi av=> ?_,rfl⟩⟩
         . simp(disch:=omega)[go_sem];omega
         . simp(disch:=omega)[go_sem];rw[q3 _ aa aa,e1]
         . simp(disch:=omega)[go_sem];rw[q3 _ aa aa,e2]
         . simp(disch:=omega)[go_sem,e6]
         . simp(disch:=omega)[go_sem,q2]
         . simp(disch:=omega)[go_sem];rw[q3 _ av aa,h9 _ aa,f5 _ hi av]
   . have aq:¬(k:Int)<t.size:=aa;have hd:t.data.toList.drop k=[]:=afX (by simp;omega);rw[hd]at ad;have ad:g'=G:=ad;subst ad;simp(disch:=omega)[go_sem,aq];intro T;exact hk _ T aa f4 f5
def Dz:b9 E.P (underlying 9)=some .string:=by
 simp only[underlying,lQ];show b9 E.P (match E.P.underlying 9 with|some d=>pure d|none=>stuck "no such type" :Sem TypeDesc)=some .string;rw[JP];rfl
def zl(n c:Nat)(k:BoundsCode)(h:n<=c):b9 E.P (Instr.sliceBound (.int .i64 (n:Int)) c k)=some n:=by
 have h2:(n:Int)<=c:=aa;simp[Instr.sliceBound,lQ,asIntOf,jN,h2,h]
def DA{α β:Type}(f:α->β)(s:Sem α):b9 E.P (Functor.map f s)=(b9 E.P s).map f:=by
 rw[<-bind_pure_comp,lQ];cases b9 E.P s<;>rfl
def JW(s:ByteArray):s.extract 0 s.size=s:=by
 have:(s.extract 0 s.size).data=s.data:=by rw[ByteArray.data_extract];exact Array.extract_size
 cases s;cases h:ByteArray.extract _ 0 _;simp_all
def DB{H0:ae}(s:ByteArray)(n:Nat)(h:n<=s.size):de E H0 9 (some (sV s)) (some (some (iV (n:Nat)))) (some none) (some none)=some (sV (s.extract n s.size)):=by
 have h1:=zl n s.size .sliceB h;have h2:b9 E.P (Instr.sliceAt 9 (.string s) (some (.int .i64 n)) none none)=some (.string (s.extract n s.size)):=by
  simp only[Instr.sliceAt,lQ,Dz,afO,Instr.slice,Instr.sliceBounds,afY,jN];simp[lQ,jN]at h1⊢;rw[DA,h1];simp
 simp[de,vB,u9,ph,exact,jB,q9,plain,ew,eV,h2]
def DC{H0:ae}(s:ByteArray)(n:Nat)(h:n<=s.size):de E H0 9 (some (sV s)) (some none) (some (some (iV (n:Nat)))) (some none)=some (sV (s.extract 0 n)):=by
 have h1:=zl n s.size .sliceAlen h;have h2:b9 E.P (Instr.sliceAt 9 (.string s) none (some (.int .i64 n)) none)=some (.string (s.extract 0 n)):=by
  simp only[Instr.sliceAt,lQ,Dz,afO,Instr.slice,Instr.sliceBounds,afY,jN];simp[lQ,jN]at h1⊢;rw[DA,h1];simp
 simp[de,vB,u9,ph,exact,jB,q9,plain,ew,eV,h2]
def JX{ar:Bool}{f:FuncId}{fn:Func}{c:Code}{args:List DV}{K:cD}{dd:List FuncId}{h:ae}(S:List Nat)(hS:∀i∈S,i<h.next){n:Nat}(hn:fn.ntmps=n){rs:List ResultVar}(av:fn.results=rs.toArray)
 (hq:RD E ar c ⟨iX args,args.length+(n-args.length),[],e9 h S⟩ (jL E rs λd h'=>∀_:List Nat,∀ab:ae,ab.next=h'.next->(∀i,(i∈S\/h.next<=i)->ab.get i=h'.get i)->(∀i,i<h.next->i∉S->ab.get i=h.get i)->K d dd ab S)) (aw:E.fn f=some fn:=by kernel_rfl) (hb:fn.body=some c:=by rfl):ax E ar K dd h (f,args):=by
 refine c8.frame S hS ?_;exact gR (K:=λv _ ao _=>∀ab:ae,ab.next=ao.next->(∀i,(i∈S\/h.next<=i)->ab.get i=ao.get i)->(∀i,i<h.next->i∉S->ab.get i=h.get i)->K v dd ab S) (dd:=dd) hn av hq aw hb
def iu:Nat->Nat->Bool->Nat:=λg n is=>if is then n else g
def adb(B N0:Nat)(aq:B<N0)(h0:ae):Dx 137 [.v (.pointer (some ⟨B,0,none⟩))] B N0 h0 (λg:Nat=>iV (g:Nat)) iu:=by
 intro K dd H n is g hN hold hB hk;refine JX [B] (by simp;omega) Tryz.ntmps137 Tryz.results137 ?_;simp only[e9,hB];have aH:B<H.next:=aa;cases is with
 |false=>
  refine aL ?_;intro ab q1 q2 az q3;exact hk ab [B] (by simpa using aq) aa (by rw[q2];rfl) λj ad af=>q3 j af ad
 |true=>
  refine aL ?_;intro ab q1 q2 az q3;exact hk ab [B] (by simpa using aq) aa (by rw[q2];rfl) λj ad af=>q3 j af ad
def kU(m:cN)(t:ByteArray):Nat:=runM m iu m.first 0 t.data.toList 0
def ade(m:cN)(hm:m.Ok)(hc:aE E true 73 [.sl 5 (m.p.map bd.e)] (iV 0))(aC:aE E true 74 [.sl 5 (m.p.map bd.e)] (.ptr m.e 0))(t:ByteArray)(ht:t.size<=1000000000)(at_:Nat)(aF:at_<=t.size):
 aE E true 79 [.sl 5 (m.p.map bd.e),sV t,iV (at_:Nat)] (.bp [iV (kU m (t.extract at_ t.size):Nat),bV (decide (0<kU m (t.extract at_ t.size)))]):=by
 refine bc Tryz.ntmps79 Tryz.results79 λN=> ?_;obtain⟨me,aI⟩:∃me,m.e=me:=⟨_,rfl⟩;refine aL ?_;refine ax.mk hc λM=>aT λhM=> ?_;have aG:¬((t.size:Int)<at_):=aa;have an:¬((at_:Int)<0):=aa;simp(disch:=omega)[go_sem,eJ,aG,an];refine bZ [ai 0,aU 1,lr 0,lr 0,dC 12,ai 0,aU 63] ak 0 rfl ?_;refine aL ?_;refine ax.mk aC λM2=>aT λaJ=> ?_;simp(disch:=omega)[go_sem,DB t at_ aF];refine Dy hm (t.extract at_ t.size) (by rw[ByteArray.size_extract];omega) _ _ M (λg:Nat=>iV (g:Nat)) iu 0 ah (by simp(disch:=omega)[go_sem];omega) (adb M _ (by simp(disch:=omega)[go_sem];omega) _) λh' T q1 q2 q3=> ?_;obtain⟨n,hn⟩:∃n,kU m (t.extract at_ t.size)=n:=⟨_,rfl⟩;have q2:h'.get M=some (.row [iV (n:Nat)] true 0):=by rw[<-hn];exact q2
 simp(disch:=omega)[go_sem]at q1 q2;rw[hn];refine aL ?_;refine bZ [aK 0,aK 0,ai 2,ai 1,ai 15] ak 0 rfl ?_;simp(disch:=omega)[go_sem,q2]
def mF(t:ByteArray):Bool->Nat->Bool->Bool:=λ_ n is=>decide (n=t.size)&&is
def JY(S B N0:Nat)(aG:B<N0)(av:S<N0)(ai:S≠B)(t:ByteArray)(h0:ae)(hS:h0.get S=some (.row [sV t] true 0)):Dx 76 [.v (.pointer (some ⟨S,0,none⟩)),.v (.pointer (some ⟨B,0,none⟩))] B N0 h0 (λg:Bool=>bV g) (mF t):=by
 intro K dd H n is g hN hold hB hk;have ak:H.get S=some (.row [sV t] true 0):=by rw[hold S av ai,hS]
 have aH:B<H.next:=aa;refine JX [B,S] (by simp;omega) Tryz.ntmps76 Tryz.results76 ?_;simp only[e9,hB,ak];have fin:∀(b:Bool) (ab:ae),b=mF t g n is->ab.next=H.next->ab.get B=some (.row [bV b] true 0)->ab.get S=H.get S->(∀i,i<H.next->i≠B->i≠S->ab.get i=H.get i)->K (bV true) dd ab [B,S]:=λb ab hb q1 q2 q3 q4=>
  hk ab [B,S] (by simp;omega) aa (by rw[q2,hb]) λj az aC=>by
   by_cases ao:j=S
   . rw[ao,q3]
   . exact q4 j aC az ao
 by_cases hn:n=t.size
 . have an:(n:Int)=t.size:=aa;cases is with
   |false=>
    simp(disch:=omega)[go_sem,eJ,an];intro ab q1 q2 q3;exact fin false ab (by simp[mF]) q1 (by rw[q2 B (.inl (.inl rfl)),if_pos rfl]) (by rw[q2 S (.inl (.inr rfl)),if_neg ai,if_pos rfl,ak]) q3
   |true=>
    simp(disch:=omega)[go_sem,eJ,an];intro ab q1 q2 q3;exact fin true ab (by simp[mF,hn]) q1 (by rw[q2 B (.inl (.inl rfl)),if_pos rfl]) (by rw[q2 S (.inl (.inr rfl)),if_neg ai,if_pos rfl,ak]) q3
 . have an:¬(n:Int)=t.size:=aa;simp(disch:=omega)[go_sem,eJ,an];intro ab q1 q2 q3;exact fin false ab (by simp[mF,hn]) q1 (by rw[q2 B (.inl (.inl rfl)),if_pos rfl]) (by rw[q2 S (.inl (.inr rfl)),if_neg ai,if_pos rfl,ak]) q3
def mG(m:cN)(t:ByteArray):Bool:=runM m (mF t) m.first 0 t.data.toList (decide (t=⟨#[]⟩)&&m.empty)
def adf(m:cN)(hm:m.Ok)(hc:aE E true 73 [.sl 5 (m.p.map bd.e)] (iV 0))(aF:aE E true 74 [.sl 5 (m.p.map bd.e)] (.ptr m.e 0))(t:ByteArray)(ht:t.size<=1000000000):
 aE E true 36 [.sl 5 (m.p.map bd.e),sV t] (bV (mG m t)):=by
 refine bc Tryz.ntmps36 Tryz.results36 λN=> ?_;obtain⟨r,hr⟩:∃r,mG m t=r:=⟨_,rfl⟩;have af:∀g:Bool,g=(decide (t=⟨#[]⟩)&&m.empty)->runM m (mF t) m.first 0 t.data.toList g=r:=λg hg=>by rw[hg];exact hr
 rw[hr];refine aL ?_;refine ax.mk hc λM=>dI λhM=> ?_;refine ax.mk aF λM2=>aT λaI=> ?_;have ad:=cN.zj m;by_cases h0:t=⟨#[]⟩
 . subst h0;obtain⟨me,aq⟩:∃me,m.e=me:=⟨_,rfl⟩;rw[aq]at ad⊢;simp(disch:=omega)[go_sem,ad];rw[<-ad,<-aq];refine Dy hm ⟨#[]⟩ ht _ _ M2 (λg:Bool=>bV g) (mF ⟨#[]⟩) m.empty ah ah (JY N M2 _ ah (by simp(disch:=omega)[go_sem];try omega) aa ⟨#[]⟩ _ ah) λh' T q1 q2 q3=> ?_;rw[af m.empty aw]at q2;simp(disch:=omega)[go_sem,q2]
 . simp(disch:=omega)[go_sem,h0];refine Dy hm t ht _ _ M2 (λg:Bool=>bV g) (mF t) false ah ah (JY N M2 _ ah (by simp(disch:=omega)[go_sem];try omega) aa t _ ah) λh' T q1 q2 q3=> ?_;rw[af false (by simp[h0])]at q2;simp(disch:=omega)[go_sem,q2]
def DD{st el s b:Nat}{z:Value}(hu:E.under st=some (.slice el))(hs:E.size el=some s)(hz:E.zero el=some z)(hb:E.bytes el=some b)(aF:z.cells.toList.length=s)(aH:0<s)(aM:b<=1000){t:Tr DV}{l c:Operand}{n:Nat}(h1:aJ E t l=some (iV (n:Nat)))(h2:aJ E t c=some (iV (n:Nat)))(hn:n<=1000000){K:bF×(Nat->DV)->Prop}
 (hk:K (.row ((ey z.cells.toList (n*s)).map .v) true 0,λi=>.v (.slice (some ⟨i,0,none⟩) n n))):aO (dX E t (.makeSlice st l c)) K:=by
 refine⟨_, ?_,hk⟩;have aT:b*n<=1000*1000000:=Nat.mul_le_mul aM hn;simp only[dX,hu,h1,h2,afO,exact,hs,hz,hb];rw[if_pos ⟨aa,aa,aa,by simp only[afP];omega,aF,aH⟩];simp
def adg:E.under 150=some (.slice 149):=ak
def adh:E.size 149=some 8:=ak
def adi:E.bytes 149=some 64:=ak
abbrev aI(i:Nat):DV:=.v (.pointer (some ⟨i,0,none⟩))
def adj(X Y:List DV)(c k:Nat)(hk:k<8):(X++(pl c++Y))[X.length+k]? =(pl c)[k]? :=by
 rw[afZ aa,afQ,afR (by rw[fi];exact hk)]
def adk(X Y:List DV)(c c' k:Nat)(v:DV)(hk:k<8)(h:(pl c).take k++v::(pl c).drop (k+1)=pl c'):(X++(pl c++Y)).take (X.length+k)++v::(X++(pl c++Y)).drop (X.length+k+1)=X++(pl c'++Y):=by
 have e1:(X++(pl c++Y)).take (X.length+k)=X++(pl c).take k:=by
  rw[List.take_append,afH aa,afQ,List.take_append_of_le_length (by rw[fi];omega)]
 have e2:(X++(pl c++Y)).drop (X.length+k+1)=(pl c).drop (k+1)++Y:=by
  rw[Nat.add_assoc,List.drop_append,afX aa,List.nil_append,afQ,List.drop_append_of_le_length (by rw[fi];omega)]
 rw[e1,e2,<-h];simp
set_option maxHeartbeats 4000000 in
def adl{ar:Bool}{K:cD}{dd:List FuncId}{h:ae}{R a b z o:Nat}{X Y:List DV}(ha:a<256)(hb:b<256)(hX:X.length=o)(hR:h.get R=some (.row (X++(pl a++Y)) true z))(aN:R<h.next)
 (hk:∀h' T,h'.next=h.next+1->h'.get R=some (.row (X++(pl (a|||b)++Y)) true z)->(∀i,i<h.next->i≠R->h'.get i=h.get i)->K (.bp []) dd h' T):
 ax E ar K dd h (130,[.v (.pointer (some ⟨R,o,none⟩)),.agg (pl b)]):=by
 subst hX;refine gR Tryz.ntmps130 Tryz.results130 ?_;have h4:=sM a b ha hb;have h5:=sM 0 0 aC aC;simp(disch:=omega)[go_sem]at h4 h5;obtain⟨N,hN⟩:∃N,h.next=N:=⟨_,rfl⟩;rw[hN]at aN hk;simp(disch:=omega)[go_sem,hN,iL];obtain⟨I,hI⟩:∃I:Nat->DS->Prop,∀j d,I j d↔∃(k:Nat) (H:ae),j+k=8/\H.next=N+1/\H.get R=some (.row (X++(pl (if k=0 then a else a|||b)++Y)) true z)/\H.get N=some (.row (pl b) true 0)/\(∀i,i<N->i≠R->H.get i=h.get i)/\
  d=⟨bw [(0,.v (.pointer (some ⟨R,X.length,none⟩))),(3,.v (.pointer (some ⟨N,0,none⟩))),(5,iV (k:Nat))],20,[],H⟩:=⟨_,λ_ _=>RW⟩
 refine bS I 8 ⟨_,aB.bb (l:=[(0,.v (.pointer (some ⟨R,X.length,none⟩))),(3,.v (.pointer (some ⟨N,0,none⟩))),(5,iV (0:Nat))]) ah,(hI _ _).2 ⟨0,_,rfl, ?_, ?_, ?_, ?_,rfl⟩⟩ ?_
 . simp(disch:=omega)[go_sem,hN]
 . simp(disch:=omega)[go_sem,hN,hR]
 . simp(disch:=omega)[go_sem,hN]
 . intro i h1 h2;simp(disch:=omega)[go_sem,hN]
 . intro j ds aq;obtain⟨k,H,hj,hH,f1,f2,f3,rfl⟩:=(hI _ _).1 aq;clear aq;by_cases aQ:k=8
   . subst aQ;refine aL ?_;intro T;exact hk _ T aa f1 f3
   . have aS:(k:Int)<8:=aa;have av:k<8:=aa;have hc:k=0\/k=1\/k=2\/k=3\/k=4\/k=5\/k=6\/k=7:=aa;obtain⟨u,w,hu,hw,r,an,ad⟩:∃u w:Int,(pl (if k=0 then a else a|||b))[k]? =some (.v (.int .u64 u))/\(pl b)[k]? =some (.v (.int .u64 w))/\∃r:Int,IntKind.u64.wrap ↑((E2 IntKind.u64.bits u|||E2 IntKind.u64.bits w).toNat:Nat)=r/\(pl (if k=0 then a else a|||b)).take k++.v (.int .u64 r)::(pl (if k=0 then a else a|||b)).drop (k+1)=pl (a|||b):=by
      rcases hc with rfl|rfl|rfl|rfl|rfl|rfl|rfl|rfl
      . exact⟨a,b,rfl,rfl,_,sM a b ha hb,rfl⟩
      all_goals exact⟨0,0,rfl,rfl,0,sM 0 0 aC aC,rfl⟩
     generalize (if k=0 then a else a|||b)=c at f1 hu ad;have aw:=(adj X Y c k av).trans hu;have ao:=adk X Y c (a|||b) k _ av ad;have az:X.length+k<(X++(pl c++Y)).length:=by simp only[af0,fi];omega
     generalize X++(pl c++Y)=row at f1 aw ao az;obtain⟨af,ab⟩:∃af,X++(pl (a|||b)++Y)=af:=⟨_,rfl⟩;rw[ab]at ao;replace an:=cq an;simp(disch:=omega)[go_sem,aS];refine bZ [ai 0,ai 0,ai 1,ai 7,aK 15,ai 0,ai 32,aK 96,ai 255,ai 1,ai 1023,aU 2047] ak 0 rfl ?_;simp(disch:=omega)[go_sem,f1,f2,dV,nD,aG,aw,hw,an,ao,fi,show X.length+k+1<=row.length from az,-getElem?_pos];refine⟨j-1,aa,_,aB.bb (l:=[(0,.v (.pointer (some ⟨R,X.length,none⟩))),(3,.v (.pointer (some ⟨N,0,none⟩))),(5,iV (k+1:Nat))]) ah,(hI _ _).2 ⟨k+1,_,aa, ?_, ?_, ?_, ?_,rfl⟩⟩
     . simp(disch:=omega)[go_sem,hH]
     . rw[if_neg aa,ab];simp(disch:=omega)[go_sem]
     . simp(disch:=omega)[go_sem,f2]
     . intro i h1 h2;simp(disch:=omega)[go_sem,f3,h1,h2]
def gU(F:List Nat):List DV:=(F.map pl).flatten
def adm{F:List Nat}{i a:Nat}(h:F[i]? =some a):gU F=gU (F.take i)++(pl a++gU (F.drop (i+1)))/\(gU (F.take i)).length=i*8/\∀b,gU (F.set i b)=gU (F.take i)++(pl b++gU (F.drop (i+1))):=by
 obtain⟨hi,he⟩:=afz.1 h;refine⟨?_, ?_,λb=> ?_⟩
 . have e:F=F.take i++(a::F.drop (i+1)):=by rw[<-he,<-afV hi,List.take_append_drop]
   have e2:=congrArg gU e;rw[e2];simp only[gU,afA,afI,af1,adv]
 . have:=fF (k:=8) (xs:=(F.take i).map pl) (λx hx=>by obtain⟨y,_,rfl⟩:=RC.1 hx;rfl);rw[gU,this,afJ,List.length_take];omega
 . rw[List.set_eq_take_append_cons_drop,if_pos hi];simp only[gU,afA,afI,af1,adv]
def mH(g:Nat)(F:List Nat)(i:Nat):List Nat:=match F[i]? with
 |some a=>F.set i (a|||g)
 |none=>F
def pQ(l g:Nat)(F:List Nat):List Nat:=(bits l).foldl (mH g) F
set_option maxHeartbeats 4000000 in
def adn{K:cD}{dd:List FuncId}{h:ae}{M R G g i n z:Nat}{F:List Nat}{cs:List DV}(hi:i<F.length)(hn:F.length=n)(hF:∀a∈F,a<256)(hg:g<256)(hM:h.get M=some (.row cs true 0))(ad:cs[17]? =some (.v (.slice (some ⟨R,0,none⟩) n n)))
 (hR:h.get R=some (.row (gU F) true z)) (hG:h.get G=some (.row (pl g) true 0)) (af:R<h.next)
 (hk:∀h' T,h.next<=h'.next->h'.get R=some (.row (gU (mH g F i)) true z)->(∀j,j<h.next->j≠R->h'.get j=h.get j)->K (.bp []) dd h' T):
 ax E true K dd h (129,[iV (i:Nat),.ptr [aI M] 0,aI G]):=by
 obtain⟨a,ha⟩:∃a,F[i]? =some a:=⟨_,YT hi⟩;obtain⟨e1,e2,e3⟩:=adm ha;have hl:mH g F i=F.set i (a|||g):=by simp only[mH,ha]
 rw[hl,e3]at hk;rw[e1]at hR;have aq:=hF a (ab8 ha);refine gR Tryz.ntmps129 Tryz.results129 ?_;refine aL ?_;refine bZ [aK 0,ai 1,ai 3,aK 7,ai 0,ai 31,aK 0,aU 127] ak 0 rfl ?_;simp(disch:=omega)[go_sem,hM,hG,nD,ad,fi,gT,-getElem?_pos];refine adl aq hg e2 hR af λh' T q1 q2 q3=> ?_;refine aL ?_;intro T2;exact hk _ T2 aa q2 q3
def ado{n g:Nat}{F:List Nat}(hn:F.length=n)(hF:∀a∈F,a<256)(hg:g<256)(i:Nat):(mH g F i).length=n/\∀a∈mH g F i,a<256:=by
 unfold mH
 split
 . rename_i a ha;refine⟨by rw[af2,hn],λb hb=> ?_⟩;rcases af3 hb with h|h
   . exact hF b h
   . rw[h];exact ac2 (hF a (ab8 ha)) hg
 . exact⟨hn,hF⟩
set_option maxHeartbeats 4000000 in
def JZ{K:cD}{dd:List FuncId}{h:ae}{M R l g n z:Nat}{F:List Nat}{cs:List DV}(hn:F.length=n)(ah:n<=8)(hF:∀a∈F,a<256)(hl:l<2^n)(hg:g<256)(hM:h.get M=some (.row cs true 0))(ad:cs[17]? =some (.v (.slice (some ⟨R,0,none⟩) n n)))
 (hR:h.get R=some (.row (gU F) true z)) (af:R<h.next) (an:M<h.next) (av:M≠R)
 (hk:∀h' T,h.next<=h'.next->h'.get R=some (.row (gU (pQ l g F)) true z)->(∀j,j<h.next->j≠R->h'.get j=h.get j)->K (.bp []) dd h' T):
 ax E true K dd h (127,[.agg (pl l),.agg (pl g),.ptr [aI M] 0]):=by
 refine gR Tryz.ntmps127 Tryz.results127 ?_;obtain⟨N,hN⟩:∃N,h.next=N:=⟨_,rfl⟩;rw[hN]at af an hk;simp(disch:=omega)[go_sem,hN,iL];refine JO (w:=l) (Zf hl (YN (n:=2) aC ah)) 129 _ (λw H=>∃F',w<2^n/\F'.length=n/\(∀a∈F',a<256)/\(bits w).foldl (mH g) F'=pQ l g F/\N+1<H.next/\H.get N=some (.row (pl l) true 0)/\H.get (N+1)=some (.row (pl g) true 0)/\H.get R=some (.row (gU F') true z)/\∀j,j<N->j≠R->H.get j=h.get j) ?_ ?_ ?_ ?_ ?_
 . rintro w' H ⟨F',h1,h2,h3,h4,h5,h6,h7,h8,h9⟩;exact⟨0,h6⟩
 . rintro w' H K' az ao ab ⟨F',h1,h2,h3,h4,h5,h6,h7,h8,h9⟩ aw;rw[JT w' ao ab,afN]at h4;have aF:=JU w' n ao h1 ah;obtain⟨k1,k2⟩:=ado h2 h3 hg (nC w');refine adn aa h2 h3 hg (by rw[h9 M an av,hM]) ad h8 h7 aa λh' T q1 q2 q3=>aw _ T ⟨_,afW afM h1,k1,k2,h4,aa, ?_, ?_,q2,λj j1 j2=> ?_⟩
   . rw[q3 N aa aa,h6]
   . rw[q3 (N+1) aa aa,h7]
   . rw[q3 j aa j2,h9 j j1 j2]
 . rintro w' H P hP ⟨F',h1,h2,h3,h4,h5,h6⟩;exact⟨F',h1,h2,h3,h4,by rw[ae.iU];omega,h6⟩
 . refine⟨F,hl,hn,hF,rfl, ?_, ?_, ?_, ?_,λj j1 j2=> ?_⟩
   all_goals simp(disch:=omega)[go_sem,hN,hR]
 . rintro H' T ⟨F',h1,h2,h3,h4,h5,h6,h7,h8,h9⟩;rw[JS]at h4;have h4:F'=pQ l g F:=h4;subst h4;refine aL ?_;intro T2;exact hk _ T2 aa h8 h9
def ca(p:List bd):Nat->Nat->List Nat->(Nat×Nat×Bool)×List Nat
 |0,_,F=>((0,0,true),F)
 |n+1,i,F=>match p[i]? with
  |none=>((0,0,true),F)
  |some x=>
   if x.kind=1 then((2^i,2^i,false),F)
   else if x.kind=2 then
    let r:=ca p n x.a.toNat F
    let s:=ca p n x.b.toNat r.2
    ((if r.1.2.2 then r.1.1|||s.1.1 else r.1.1,if s.1.2.2 then s.1.2.1|||r.1.2.1 else s.1.2.1,r.1.2.2&&s.1.2.2),pQ r.1.2.1 s.1.1 s.2)
   else if x.kind=3 then
    let r:=ca p n x.a.toNat F
    let s:=ca p n x.b.toNat r.2
    ((r.1.1|||s.1.1,r.1.2.1|||s.1.2.1,r.1.2.2||s.1.2.2),s.2)
   else if x.kind=4 then
    let r:=ca p n x.a.toNat F
    ((r.1.1,r.1.2.1,true),pQ r.1.2.1 r.1.1 r.2)
   else((0,0,true),F)
def adp:∀m∈ep,ca m.p 9 (m.p.length-1) (afj m.p.length 0)=((m.first,m.last,m.empty),m.follow):=by
 have h:(ep.all λm=>decide (ca m.p 9 (m.p.length-1) (afj m.p.length 0)=((m.first,m.last,m.empty),m.follow)))=true:=ak;exactλm hm=>of_decide_eq_true (qG.1 h m hm)
def PV(p:List bd):Prop:=∀(i:Nat) x,p[i]? =some x->((x.kind=2\/x.kind=3)->(0<=x.a/\x.a<i)/\0<=x.b/\x.b<i)/\(x.kind=4->0<=x.a/\x.a<i)
def adq:∀m∈ep,PV m.p:=by
 have h:(ep.all λm=>(yy m.p.length).all λi=>match m.p[i]? with
  |some x=>(!(decide (x.kind=2)||decide (x.kind=3))||decide ((0<=x.a/\x.a<i)/\0<=x.b/\x.b<i))&&(!decide (x.kind=4)||decide (0<=x.a/\x.a<i))
  |none=>true)=true:=ak
 intro m hm i x hx;have h2:=qG.1 (qG.1 h m hm) i (by have:=(afz.1 hx).1;simpa using this);rw[hx]at h2;simp only[afx,afy,Bool.not_eq_true',decide_eq_true_eq,Bool.or_eq_false_iff,decide_eq_false_iff_not]at h2;refine⟨λh3=> ?_,λh3=> ?_⟩
 . rcases h2.1 with h4|h4
   . omega
   . exact h4
 . rcases h2.2 with h4|h4
   . exact absurd h3 h4
   . exact h4
def J0{n l g:Nat}{F:List Nat}(hg:g<2^n)(hF:∀a∈F,a<2^n):∀a∈pQ l g F,a<2^n:=by
 have:∀(b:List Nat) (F:List Nat),(∀a∈F,a<2^n)->∀a∈b.foldl (mH g) F,a<2^n:=by
  intro b
  induction b with
  |nil=>exactλF h=>h
  |cons i b ih=>
   intro F h;refine ih _ λa ha=> ?_;unfold mH at ha
   split at ha
   . rename_i x hx;rcases af3 ha with h1|h1
     . exact h a h1
     . rw[h1];exact RK (h x (ab8 hx)) hg
   . exact h a ha
 exact this _ F hF
def J1{l g:Nat}{F:List Nat}:(pQ l g F).length=F.length:=by
 have:∀(b:List Nat) (F:List Nat),(b.foldl (mH g) F).length=F.length:=by
  intro b
  induction b with
  |nil=>exactλF=>rfl
  |cons i b ih=>
   intro F;rw[afN,ih];unfold mH
   split
   . rw[af2]
   . rfl
 exact this _ F
structure CR(n:Nat)(r:(Nat×Nat×Bool)×List Nat):Prop where
 f:r.1.1<2^n
 l:r.1.2.1<2^n
 len:r.2.length=n
 F:∀a∈r.2,a<2^n
def uF(p:List bd):∀(n i:Nat) (F:List Nat),F.length=p.length->(∀a∈F,a<2^p.length)->CR p.length (ca p n i F)
 |0,i,F,h1,h2=>⟨Vs _,Vs _,h1,h2⟩
 |n+1,i,F,h1,h2=>by
  have ih:=uF p n;have z:CR p.length ((0,0,true),F):=⟨Vs _,Vs _,h1,h2⟩;unfold ca
  split
  . exact z
  . rename_i x hx;have hi:=(afz.1 hx).1;have hp:2^i<2^p.length:=afU aC hi;have r:=ih x.a.toNat F h1 h2;have s:=ih x.b.toNat _ r.len r.F;simp only
    split
    . exact⟨hp,hp,h1,h2⟩
    split
    . refine⟨?_, ?_,by rw[J1];exact s.len,J0 s.f s.F⟩
      . simp only;split
        . exact RK r.f s.f
        . exact r.f
      . simp only;split
        . exact RK s.l r.l
        . exact s.l
    split
    . exact⟨RK r.f s.f,RK r.l s.l,s.len,s.F⟩
    split
    . exact⟨r.f,r.l,by rw[J1];exact r.len,J0 r.f r.F⟩
    . exact z
structure CH(p:List bd)(h:ae)(P0 W L M R:Nat)(F:List Nat):Prop where
 p0:h.get P0=some (.row [.sl 5 (p.map bd.e)] true 0)
 w:h.get W=some (.row [.fn 131 [] [aI P0,aI W,aI L]] true 0)
 l:h.get L=some (.row [.fn 127 [] [.ptr [aI M] 0]] true 0)
 m:∃cs,h.get M=some (.row cs true 0)/\cs[17]? =some (.v (.slice (some ⟨R,0,none⟩) p.length p.length))
 r:h.get R=some (.row (gU F) true 0)
 lt:P0<h.next/\W<h.next/\L<h.next/\M<h.next/\R<h.next
 ne:P0≠R/\W≠R/\L≠R/\M≠R
def CH.up{p:List bd}{h h':ae}{P0 W L M R:Nat}{F F':List Nat}(c:CH p h P0 W L M R F)(hn:h.next<=h'.next)(hr:h'.get R=some (.row (gU F') true 0))(ho:∀j,j<h.next->j≠R->h'.get j=h.get j):CH p h' P0 W L M R F':=by
 obtain⟨l1,l2,l3,l4,l5⟩:=c.lt;obtain⟨n1,n2,n3,n4⟩:=c.ne;obtain⟨cs,m1,m2⟩:=c.m;exact⟨by rw[ho _ l1 n1,c.p0],by rw[ho _ l2 n2,c.w],by rw[ho _ l3 n3,c.l],⟨cs,by rw[ho _ l4 n4,m1],m2⟩,hr,aa,c.ne⟩
set_option maxHeartbeats 8000000 in
def J2{p:List bd}(hv:PV p)(ao:p.length<=8):∀(n i:Nat) (F:List Nat) {K:cD} {dd:List FuncId} {h:ae} {P0 W L M R:Nat},i<n->i<p.length->F.length=p.length->(∀a∈F,a<2^p.length)->CH p h P0 W L M R F->
 (∀h' T,h.next<=h'.next->h'.get R=some (.row (gU (ca p n i F).2) true 0)->(∀j,j<h.next->j≠R->h'.get j=h.get j)->K (.bp [.agg (pl (ca p n i F).1.1),.agg (pl (ca p n i F).1.2.1),bV (ca p n i F).1.2.2]) dd h' T)->
 ax E true K dd h (131,[iV (i:Nat),aI P0,aI W,aI L])
 |0,_,_,_,_,_,_,_,_,_,_,aw,_,_,_,_,_=>aa
 |n+1,i,F,K,dd,h,P0,W,L,M,R,aw,az,aq,hF,c,hk=>by
  have ih:= @J2 p hv ao n;obtain⟨l1,l2,l3,l4,l5⟩:=c.lt;obtain⟨n1,n2,n3,n4⟩:=c.ne;obtain⟨x,hx⟩:∃x,p[i]? =some x:=⟨_,YT az⟩;obtain⟨v1,v2⟩:=hv i x hx;refine gR Tryz.ntmps131 Tryz.results131 ?_;obtain⟨N,hN⟩:∃N,h.next=N:=⟨_,rfl⟩;have f1:=c.p0;have f2:=c.w;have f3:=c.l;have f4:=c.r;rw[hN]at l1 l2 l3 l4 l5;simp(disch:=omega)[go_sem,hN,f1,hx,-getElem?_pos,bd.e];by_cases k1:x.kind=1
  . have e:ca p (n+1) i F=((2^i,2^i,false),F):=by simp only[ca,hx];rw[if_pos k1]
    rw[e]at hk;simp(disch:=omega)[go_sem,hN,k1];refine JN (w:=0) (z:=0) aC aa (by simp(disch:=omega)[go_sem,hN,pl]) λT=> ?_;rw[Nat.zero_or];simp(disch:=omega)[go_sem,hN,fi,gT,jx,iL];intro T2;refine hk _ T2 (by simp(disch:=omega)[go_sem];omega) (by simp(disch:=omega)[go_sem,hN,f4]) λj j1 j2=> ?_;simp(disch:=omega)[go_sem,hN]
  by_cases k2:x.kind=2
  . obtain⟨⟨a0,a1⟩,b0,b1⟩:=v1 (.inl k2);obtain⟨a,ha⟩:∃a:Nat,x.a=a:=⟨x.a.toNat,aa⟩;obtain⟨b,hb⟩:∃b:Nat,x.b=b:=⟨x.b.toNat,aa⟩;have e:ca p (n+1) i F=((if(ca p n a F).1.2.2 then(ca p n a F).1.1|||(ca p n b (ca p n a F).2).1.1 else(ca p n a F).1.1,if(ca p n b (ca p n a F).2).1.2.2 then(ca p n b (ca p n a F).2).1.2.1|||(ca p n a F).1.2.1 else(ca p n b (ca p n a F).2).1.2.1,(ca p n a F).1.2.2&&(ca p n b (ca p n a F).2).1.2.2),pQ (ca p n a F).1.2.1 (ca p n b (ca p n a F).2).1.1 (ca p n b (ca p n a F).2).2):=by
     simp only[ca,hx];rw[if_neg k1,if_pos k2,ha,hb];rfl
    rw[e]at hk;have r:=uF p n a F aq hF;have s:=uF p n b _ r.len r.F;obtain⟨ra,an⟩:∃r,ca p n a F=r:=⟨_,rfl⟩;obtain⟨⟨fa,la,ea⟩,Fa⟩:=ra;rw[an]at hk r s;obtain⟨rb,av⟩:∃r,ca p n b Fa=r:=⟨_,rfl⟩;obtain⟨⟨fb,lb,eb⟩,Fb⟩:=rb;simp only at hk r s;rw[av]at hk s;simp only at hk;obtain⟨r1,r2,r3,r4⟩:=r;obtain⟨s1,s2,s3,s4⟩:=s;simp only at r1 r2 r3 r4 s1 s2 s3 s4;have ad:∀x,x<2^p.length->x<256:=λx hx=>Zf hx (YN (n:=2) aC ao);simp(disch:=omega)[go_sem,hN,k1,k2,f2,ha];refine ih a F aa aa aq hF (c.up (h':=_) ?_ ?_ ?_) λh1 T q1 q2 q3=> ?_
    . simp(disch:=omega)[go_sem,hN];omega
    . simp(disch:=omega)[go_sem,hN,f4]
    . intro j j1 j2;simp(disch:=omega)[go_sem,hN]
    rw[an]at q2⊢;simp(disch:=omega)[go_sem,hN]at q1 q2 q3;have c1:CH p h1 P0 W L M R Fa:=c.up aa q2 λj j1 j2=>by rw[hN]at j1;rw[q3 j aa j2];simp(disch:=omega)[go_sem,hN]
    obtain⟨N1,ab⟩:∃N1,h1.next=N1:=⟨_,rfl⟩;rw[ab]at q1;have f5:=c1.w;have f6:h1.get (N+1+1)=some (.row [iV 2,iV x.lo,iV x.hi,iV (a:Nat),iV (b:Nat)] true 0):=by rw[q3 _ aa aa];simp(disch:=omega)[go_sem,hN,k2,ha,hb]
    simp(disch:=omega)[go_sem,ab,f5,f6,fi,gT,jx,iL];refine ih b Fa aa aa r3 r4 (c1.up (h':=_) ?_ ?_ ?_) λh2 T2 u1 u2 u3=> ?_
    . simp(disch:=omega)[go_sem,ab];omega
    . simp(disch:=omega)[go_sem,ab,q2]
    . intro j j1 j2;rw[ab]at j1;simp(disch:=omega)[go_sem,ab]
    rw[av]at u2⊢;simp(disch:=omega)[go_sem,ab]at u1 u2 u3;have c2:CH p h2 P0 W L M R Fb:=c1.up aa u2 λj j1 j2=>by rw[ab]at j1;rw[u3 j aa j2];simp(disch:=omega)[go_sem,ab]
    obtain⟨N2,af⟩:∃N2,h2.next=N2:=⟨_,rfl⟩;rw[af]at u1;have f7:=c2.l;obtain⟨cs,m1,m2⟩:=c2.m;have g1:h2.get N1=some (.row (pl fa) true 0):=by rw[u3 _ aa aa];simp(disch:=omega)[go_sem,ab]
    have g2:h2.get (N1+1)=some (.row (pl la) true 0):=by rw[u3 _ aa aa];simp(disch:=omega)[go_sem,ab]
    simp(disch:=omega)[go_sem,af,f7,g2,fi,gT,jx,iL];refine JZ (z:=0) (F:=Fb) (cs:=cs) (M:=M) (R:=R) (n:=p.length) s3 ao (λa ha=>ad a (s4 a ha)) r2 (ad _ s1) ?_ m2 ?_ ?_ ?_ n4 λh3 T3 w1 w2 w3=> ?_
    . simp(disch:=omega)[go_sem,af,m1]
    . simp(disch:=omega)[go_sem,af,u2]
    . simp(disch:=omega)[go_sem,af];try omega
    . simp(disch:=omega)[go_sem,af];try omega
    simp(disch:=omega)[go_sem,af]at w1 w3;obtain⟨N3,aF⟩:∃N3,h3.next=N3:=⟨_,rfl⟩;rw[aF]at w1;have z0:h3.get N=some (.row (pl 0) true 0):=by rw[w3 _ aa aa];simp(disch:=omega)[go_sem,af];rw[u3 _ aa aa];simp(disch:=omega)[go_sem,ab];rw[q3 _ aa aa];simp(disch:=omega)[go_sem,hN,pl]
    have z1:h3.get (N+1)=some (.row (pl 0) true 0):=by rw[w3 _ aa aa];simp(disch:=omega)[go_sem,af];rw[u3 _ aa aa];simp(disch:=omega)[go_sem,ab];rw[q3 _ aa aa];simp(disch:=omega)[go_sem,hN,pl]
    have z2:h3.get N1=some (.row (pl fa) true 0):=by rw[w3 _ aa aa];simp(disch:=omega)[go_sem,af,g1]
    have z3:h3.get (N1+1)=some (.row (pl la) true 0):=by rw[w3 _ aa aa];simp(disch:=omega)[go_sem,af,g2]
    have z4:h3.get N2=some (.row (pl fb) true 0):=by rw[w3 _ aa aa];simp(disch:=omega)[go_sem,af]
    have z5:h3.get (N2+1)=some (.row (pl lb) true 0):=by rw[w3 _ aa aa];simp(disch:=omega)[go_sem,af]
    have z6:∀j,j<N->j≠R->h3.get j=h.get j:=λj j1 j2=>by rw[w3 _ aa aa];simp(disch:=omega)[go_sem,af];rw[u3 _ aa aa];simp(disch:=omega)[go_sem,ab];rw[q3 _ aa aa];simp(disch:=omega)[go_sem,hN]
    have fin:∀(H:ae) (T:List Nat) (fv lv:Nat),N<=H.next->H.get R=h3.get R->(∀j,j<N->j≠R->H.get j=h3.get j)->fv=(if ea=true then fa|||fb else fa)->lv=(if eb=true then lb|||la else lb)->K (.bp [.agg (pl fv),.agg (pl lv),bV (ea&&eb)]) dd H T:=λH T fv lv p1 p2 p3 p4 p5=>by
     rw[p4,p5];exact hk H T aa (by rw[p2,w2]) λj j1 j2=>by rw[p3 j aa j2,z6 j aa j2]
    cases ea
    . cases eb
      . simp(disch:=omega)[go_sem,z0,z1,z2,z3,z4,z5,fi,gT,jx,iL];intro T9;refine fin _ T9 _ _ (by simp(disch:=omega)[go_sem];omega) ?_ (λj j1 j2=> ?_) rfl rfl
        . exact ah
        . exact ah
      . simp(disch:=omega)[go_sem,z0,z1,z2,z3,z4,z5,fi,gT,jx,iL];refine sN (z:=0) (a:=lb) (b:=la) (ad _ s2) (ad _ r2) z5 aa λh5 T5 x1 x2 x3=> ?_;have z0:h5.get N=some (.row (pl 0) true 0):=by rw[x3 _ aa aa,z0]
        have z1:h5.get (N+1)=some (.row (pl 0) true 0):=by rw[x3 _ aa aa,z1]
        have z2:h5.get N1=_:=(x3 _ aa aa).trans z2;have z5:=x2;simp(disch:=omega)[go_sem,z0,z1,z2,z5,fi,gT,jx,iL];intro T9;refine fin _ T9 _ _ (by simp(disch:=omega)[go_sem];omega) ?_ (λj j1 j2=> ?_) rfl rfl
        . simp(disch:=omega)[go_sem];rw[x3 _ aa aa]
        . simp(disch:=omega)[go_sem];rw[x3 _ aa aa]
    . cases eb
      . simp(disch:=omega)[go_sem,z0,z1,z2,z3,z4,z5,fi,gT,jx,iL];refine sN (z:=0) (a:=fa) (b:=fb) (ad _ r1) (ad _ s1) z2 aa λh4 T4 y1 y2 y3=> ?_;have z0:h4.get N=some (.row (pl 0) true 0):=by rw[y3 _ aa aa,z0]
        have z1:h4.get (N+1)=some (.row (pl 0) true 0):=by rw[y3 _ aa aa,z1]
        have z3:h4.get (N1+1)=some (.row (pl la) true 0):=by rw[y3 _ aa aa,z3]
        have z5:h4.get (N2+1)=some (.row (pl lb) true 0):=by rw[y3 _ aa aa,z5]
        have z2:=y2;simp(disch:=omega)[go_sem,z0,z1,z2,z3,z5,fi,gT,jx,iL];intro T9;refine fin _ T9 _ _ (by simp(disch:=omega)[go_sem];omega) ?_ (λj j1 j2=> ?_) rfl rfl
        . simp(disch:=omega)[go_sem];rw[y3 _ aa aa]
        . simp(disch:=omega)[go_sem];rw[y3 _ aa aa]
      . simp(disch:=omega)[go_sem,z0,z1,z2,z3,z4,z5,fi,gT,jx,iL];refine sN (z:=0) (a:=fa) (b:=fb) (ad _ r1) (ad _ s1) z2 aa λh4 T4 y1 y2 y3=> ?_;have z0:h4.get N=some (.row (pl 0) true 0):=by rw[y3 _ aa aa,z0]
        have z1:h4.get (N+1)=some (.row (pl 0) true 0):=by rw[y3 _ aa aa,z1]
        have z3:h4.get (N1+1)=some (.row (pl la) true 0):=by rw[y3 _ aa aa,z3]
        have z5:h4.get (N2+1)=some (.row (pl lb) true 0):=by rw[y3 _ aa aa,z5]
        have z2:=y2;simp(disch:=omega)[go_sem,z0,z1,z2,z3,z5,fi,gT,jx,iL];refine sN (z:=0) (a:=lb) (b:=la) (ad _ s2) (ad _ r2) z5 aa λh5 T5 x1 x2 x3=> ?_;have z0:h5.get N=some (.row (pl 0) true 0):=by rw[x3 _ aa aa,z0]
        have z1:h5.get (N+1)=some (.row (pl 0) true 0):=by rw[x3 _ aa aa,z1]
        have z2:h5.get N1=_:=(x3 _ aa aa).trans z2;have z5:=x2;simp(disch:=omega)[go_sem,z0,z1,z2,z5,fi,gT,jx,iL];intro T9;refine fin _ T9 _ _ (by simp(disch:=omega)[go_sem];omega) ?_ (λj j1 j2=> ?_) rfl rfl
        . simp(disch:=omega)[go_sem];rw[x3 _ aa aa];rw[y3 _ aa aa]
        . simp(disch:=omega)[go_sem];rw[x3 _ aa aa];rw[y3 _ aa aa]
  by_cases k3:x.kind=3
  . obtain⟨⟨a0,a1⟩,b0,b1⟩:=v1 (.inr k3);obtain⟨a,ha⟩:∃a:Nat,x.a=a:=⟨x.a.toNat,aa⟩;obtain⟨b,hb⟩:∃b:Nat,x.b=b:=⟨x.b.toNat,aa⟩;have e:ca p (n+1) i F=(((ca p n a F).1.1|||(ca p n b (ca p n a F).2).1.1,(ca p n a F).1.2.1|||(ca p n b (ca p n a F).2).1.2.1,(ca p n a F).1.2.2||(ca p n b (ca p n a F).2).1.2.2),(ca p n b (ca p n a F).2).2):=by
     simp only[ca,hx];rw[if_neg k1,if_neg k2,if_pos k3,ha,hb];rfl
    rw[e]at hk;have r:=uF p n a F aq hF;have s:=uF p n b _ r.len r.F;obtain⟨ra,an⟩:∃r,ca p n a F=r:=⟨_,rfl⟩;obtain⟨⟨fa,la,ea⟩,Fa⟩:=ra;rw[an]at hk r s;obtain⟨rb,av⟩:∃r,ca p n b Fa=r:=⟨_,rfl⟩;obtain⟨⟨fb,lb,eb⟩,Fb⟩:=rb;simp only at hk r s;rw[av]at hk s;simp only at hk;obtain⟨r1,r2,r3,r4⟩:=r;obtain⟨s1,s2,s3,s4⟩:=s;simp only at r1 r2 r3 r4 s1 s2 s3 s4;have ad:∀x,x<2^p.length->x<256:=λx hx=>Zf hx (YN (n:=2) aC ao);simp(disch:=omega)[go_sem,hN,k1,k2,k3,f2,ha];refine ih a F aa aa aq hF (c.up (h':=_) ?_ ?_ ?_) λh1 T q1 q2 q3=> ?_
    . simp(disch:=omega)[go_sem,hN];omega
    . simp(disch:=omega)[go_sem,hN,f4]
    . intro j j1 j2;simp(disch:=omega)[go_sem,hN]
    rw[an]at q2⊢;simp(disch:=omega)[go_sem,hN]at q1 q2 q3;have c1:CH p h1 P0 W L M R Fa:=c.up aa q2 λj j1 j2=>by rw[hN]at j1;rw[q3 j aa j2];simp(disch:=omega)[go_sem,hN]
    obtain⟨N1,ab⟩:∃N1,h1.next=N1:=⟨_,rfl⟩;rw[ab]at q1;have f5:=c1.w;have f6:h1.get (N+1+1)=some (.row [iV 3,iV x.lo,iV x.hi,iV (a:Nat),iV (b:Nat)] true 0):=by rw[q3 _ aa aa];simp(disch:=omega)[go_sem,hN,k3,ha,hb]
    simp(disch:=omega)[go_sem,ab,f5,f6,fi,gT,jx,iL];refine ih b Fa aa aa r3 r4 (c1.up (h':=_) ?_ ?_ ?_) λh2 T2 u1 u2 u3=> ?_
    . simp(disch:=omega)[go_sem,ab];omega
    . simp(disch:=omega)[go_sem,ab,q2]
    . intro j j1 j2;rw[ab]at j1;simp(disch:=omega)[go_sem,ab]
    rw[av]at u2⊢;simp(disch:=omega)[go_sem,ab]at u1 u2 u3;obtain⟨N2,af⟩:∃N2,h2.next=N2:=⟨_,rfl⟩;rw[af]at u1;have g1:h2.get N1=some (.row (pl fa) true 0):=by rw[u3 _ aa aa];simp(disch:=omega)[go_sem,ab]
    have g2:h2.get (N1+1)=some (.row (pl la) true 0):=by rw[u3 _ aa aa];simp(disch:=omega)[go_sem,ab]
    have z0:h2.get N=some (.row (pl 0) true 0):=by rw[u3 _ aa aa];simp(disch:=omega)[go_sem,ab];rw[q3 _ aa aa];simp(disch:=omega)[go_sem,hN,pl]
    have z1:h2.get (N+1)=some (.row (pl 0) true 0):=by rw[u3 _ aa aa];simp(disch:=omega)[go_sem,ab];rw[q3 _ aa aa];simp(disch:=omega)[go_sem,hN,pl]
    have z6:∀j,j<N->j≠R->h2.get j=h.get j:=λj j1 j2=>by rw[u3 _ aa aa];simp(disch:=omega)[go_sem,ab];rw[q3 _ aa aa];simp(disch:=omega)[go_sem,hN]
    simp(disch:=omega)[go_sem,af,g1,g2,fi,gT,jx,iL];refine sN (z:=0) (a:=fa) (b:=fb) (ad _ r1) (ad _ s1) (by simp(disch:=omega)[go_sem,af,g1]) (by simp(disch:=omega)[go_sem,af];try omega) λh4 T4 y1 y2 y3=> ?_;simp(disch:=omega)[go_sem,af]at y1 y3;have w1:h4.get (N1+1)=some (.row (pl la) true 0):=by rw[y3 _ aa aa];simp(disch:=omega)[go_sem,af,g2]
    have w2:h4.get (N2+1)=some (.row (pl lb) true 0):=by rw[y3 _ aa aa];simp(disch:=omega)[go_sem,af]
    simp(disch:=omega)[go_sem,w1,w2,fi,gT,jx,iL];refine sN (z:=0) (a:=la) (b:=lb) (ad _ r2) (ad _ s2) w1 aa λh5 T5 x1 x2 x3=> ?_;have v0:h5.get N=some (.row (pl 0) true 0):=by rw[x3 _ aa aa,y3 _ aa aa];simp(disch:=omega)[go_sem,af,z0]
    have v3:h5.get (N+1)=some (.row (pl 0) true 0):=by rw[x3 _ aa aa,y3 _ aa aa];simp(disch:=omega)[go_sem,af,z1]
    have v4:h5.get N1=some (.row (pl (fa|||fb)) true 0):=by rw[x3 _ aa aa,y2]
    cases ea
    all_goals
     simp(disch:=omega)[go_sem,v0,v3,v4,x2,fi,gT,jx,iL];intro T9;refine hk _ T9 ?_ ?_ λj j1 j2=> ?_
     . simp(disch:=omega)[go_sem];omega
     . simp(disch:=omega)[go_sem];rw[x3 _ aa aa,y3 _ aa aa];simp(disch:=omega)[go_sem,af,u2]
     . simp(disch:=omega)[go_sem];rw[x3 _ aa aa,y3 _ aa aa];simp(disch:=omega)[go_sem,af,z6,j2]
  by_cases k4:x.kind=4
  . obtain⟨a0,a1⟩:=v2 k4;obtain⟨a,ha⟩:∃a:Nat,x.a=a:=⟨x.a.toNat,aa⟩;have e:ca p (n+1) i F=(((ca p n a F).1.1,(ca p n a F).1.2.1,true),pQ (ca p n a F).1.2.1 (ca p n a F).1.1 (ca p n a F).2):=by
     simp only[ca,hx];rw[if_neg k1,if_neg k2,if_neg k3,if_pos k4,ha];rfl
    rw[e]at hk;have r:=uF p n a F aq hF;obtain⟨ra,an⟩:∃r,ca p n a F=r:=⟨_,rfl⟩;obtain⟨⟨fa,la,ea⟩,Fa⟩:=ra;rw[an]at hk r;simp only at hk r;obtain⟨r1,r2,r3,r4⟩:=r;simp only at r1 r2 r3 r4;have ad:∀x,x<2^p.length->x<256:=λx hx=>Zf hx (YN (n:=2) aC ao);simp(disch:=omega)[go_sem,hN,k1,k2,k3,k4,f2,ha];refine ih a F aa aa aq hF (c.up (h':=_) ?_ ?_ ?_) λh1 T q1 q2 q3=> ?_
    . simp(disch:=omega)[go_sem,hN];omega
    . simp(disch:=omega)[go_sem,hN,f4]
    . intro j j1 j2;simp(disch:=omega)[go_sem,hN]
    rw[an]at q2⊢;simp(disch:=omega)[go_sem,hN]at q1 q2 q3;have c1:CH p h1 P0 W L M R Fa:=c.up aa q2 λj j1 j2=>by rw[hN]at j1;rw[q3 j aa j2];simp(disch:=omega)[go_sem,hN]
    obtain⟨N1,ab⟩:∃N1,h1.next=N1:=⟨_,rfl⟩;rw[ab]at q1;have f7:=c1.l;obtain⟨cs,m1,m2⟩:=c1.m;simp(disch:=omega)[go_sem,ab,f7,fi,gT,jx,iL];refine JZ (z:=0) (F:=Fa) (cs:=cs) (M:=M) (R:=R) (n:=p.length) r3 ao (λa ha=>ad a (r4 a ha)) r2 (ad _ r1) ?_ m2 ?_ ?_ ?_ n4 λh3 T3 w1 w2 w3=> ?_
    . simp(disch:=omega)[go_sem,ab,m1]
    . simp(disch:=omega)[go_sem,ab,q2]
    . simp(disch:=omega)[go_sem,ab];try omega
    . simp(disch:=omega)[go_sem,ab];try omega
    simp(disch:=omega)[go_sem,ab]at w1 w3;have z0:h3.get N=some (.row (pl 0) true 0):=by rw[w3 _ aa aa];simp(disch:=omega)[go_sem,ab];rw[q3 _ aa aa];simp(disch:=omega)[go_sem,hN,pl]
    have z1:h3.get (N+1)=some (.row (pl 0) true 0):=by rw[w3 _ aa aa];simp(disch:=omega)[go_sem,ab];rw[q3 _ aa aa];simp(disch:=omega)[go_sem,hN,pl]
    have z2:h3.get N1=some (.row (pl fa) true 0):=by rw[w3 _ aa aa];simp(disch:=omega)[go_sem,ab]
    have z3:h3.get (N1+1)=some (.row (pl la) true 0):=by rw[w3 _ aa aa];simp(disch:=omega)[go_sem,ab]
    have z6:∀j,j<N->j≠R->h3.get j=h.get j:=λj j1 j2=>by rw[w3 _ aa aa];simp(disch:=omega)[go_sem,ab];rw[q3 _ aa aa];simp(disch:=omega)[go_sem,hN]
    refine aL ?_;refine bZ [aK 0,dC 0,aU 1,aU 7,ai 15] ak 0 rfl ?_;simp(disch:=omega)[go_sem,z0,z1,z2,z3,fi,gT,jx,iL,nD];refine⟨aa,aa,λT9=>hk _ T9 ?_ ?_ λj j1 j2=> ?_⟩
    . simp(disch:=omega)[go_sem];omega
    . simp(disch:=omega)[go_sem,w2]
    . simp(disch:=omega)[go_sem,z6,j2]
  . have e:ca p (n+1) i F=((0,0,true),F):=by
     simp only[ca,hx];rw[if_neg k1,if_neg k2,if_neg k3,if_neg k4]
    rw[e]at hk;simp(disch:=omega)[go_sem,hN,k1,k2,k3,k4];refine bZ [aK 0,dC 0,aU 1,aU 7,ai 15] ak 0 rfl ?_;simp(disch:=omega)[go_sem,hN,nD];intro T9;refine hk _ T9 ?_ ?_ λj j1 j2=>ah
    . simp(disch:=omega)[go_sem];omega
    . simp(disch:=omega)[go_sem,f4]
def ads(n:Nat)(h:n<=8):afK DV.v (ey [.int .u64 0,.int .u64 0,.int .u64 0,.int .u64 0,.int .u64 0,.int .u64 0,.int .u64 0,.int .u64 0] (n*8))=gU (afj n 0):=by
 have:n=0\/n=1\/n=2\/n=3\/n=4\/n=5\/n=6\/n=7\/n=8:=aa;rcases this with rfl|rfl|rfl|rfl|rfl|rfl|rfl|rfl|rfl<;>rfl
def adt(m:cN)(hm:m.Ok)(eS:0<m.p.length)(hv:PV m.p)(ae:ca m.p 9 (m.p.length-1) (afj m.p.length 0)=((m.first,m.last,m.empty),m.follow)):aE E true 74 [.sl 5 (m.p.map bd.e)] (.ptr m.e 0):=by
 refine qM Tryz.ntmps74 Tryz.results74 λN=> ?_;refine Ij ?_;refine aL ?_;refine⟨_,aB.refl _,Ij ?_⟩;refine aL ?_;refine bZ [aK 0,aK 0,aK 2,cR 6,ai 15,cR 31,cR 0,aU 127] ak 3 rfl ?_;refine aL ?_;have hlen:=hm.len;refine DD (n:=m.p.length) adg adh GC adi rfl aC aC ah ah aa ?_;refine aL ?_;obtain⟨Z,hZ⟩:∃Z,afK DV.v (ey [.int .u64 0,.int .u64 0,.int .u64 0,.int .u64 0,.int .u64 0,.int .u64 0,.int .u64 0,.int .u64 0] (m.p.length*8))=Z:=⟨_,rfl⟩;obtain⟨M0,ab⟩:∃M0,[DV.sl 5 (afK bd.e m.p),.v (.int .u64 0),.v (.int .u64 0),.v (.int .u64 0),.v (.int .u64 0),.v (.int .u64 0),.v (.int .u64 0),.v (.int .u64 0),.v (.int .u64 0),.v (.int .u64 0),.v (.int .u64 0),.v (.int .u64 0),.v (.int .u64 0),.v (.int .u64 0),.v (.int .u64 0),.v (.int .u64 0),.v (.int .u64 0),.v (.slice (some ⟨N+1,0,none⟩) m.p.length m.p.length),.v (.bool false)]=M0:=⟨_,rfl⟩;have af:Z=gU (afj m.p.length 0):=by rw[<-hZ];exact ads _ hlen
 have an:M0[17]? =some (.v (.slice (some ⟨N+1,0,none⟩) m.p.length m.p.length)):=by rw[<-ab];rfl
 rw[hZ,ab];refine⟨_,aB.Js (N:=N+4) (l:=[(1,.v (.pointer (some ⟨N,0,none⟩)))]) (r:=[(N,.row [.sl 5 (m.p.map bd.e)] true 0),(N+1,.row Z true 0),(N+2,.row M0 true 0)]) [N+3] (i:=3) (v:=.v (.pointer (some ⟨N+3,0,none⟩))) (d:=.ptr [.v (.pointer (some ⟨N+2,0,none⟩))] 0) ah ah ah (im (aj:=0) (fA (wr:=true) aw ah)) ah ah ?_,qN ?_⟩
 . intro p hp;simp only[afw,adr,or_false]at hp;rcases hp with rfl|rfl|rfl<;>simp
 . refine aL ?_;refine bZ [dC 0,⟨.read,0,some (0,3),true⟩,⟨.read,0,some (0,4),true⟩,aK 0,aK 0,aK 16,ai 48,aU 120,ai 248,ai 504,ai 504,ai 504,ai 1017,ai 5113,aU 13305,ai 30715,ai 63483,aU 129019,ai 262143,ai 524287,aU 1048575] ak 0 rfl ?_;simp(disch:=omega)[go_sem,aG];rw[show((m.p.length:Int)-1)=((m.p.length-1:Nat):Int) by omega];have ad:=cN.zj m;refine J2 hv hlen 9 (m.p.length-1) (afj m.p.length 0) (M:=N+2) (R:=N+1) aa aa aw (λa ha=> ?_) ⟨?_, ?_, ?_,⟨M0, ?_,an⟩, ?_, ?_,aa,aa,aa,aa⟩ λh' T q1 q2 q3=> ?_
   . rw[List.eq_of_mem_replicate ha];exact Vs _
   . exact ah
   . exact ah
   . exact ah
   . exact ah
   . simp(disch:=omega)[go_sem,af]
   . simp(disch:=omega)[go_sem];try omega
   rw[ae]at q2⊢;simp only at q2⊢;simp(disch:=omega)[go_sem]at q1 q3;have e1:h'.get (N+2)=some (.row M0 true 0):=by rw[q3 _ aa aa];simp(disch:=omega)[go_sem]
   rw[<-ab]at e1;simp(disch:=omega)[go_sem,e1,fi,pl];rw[ad];refine wE (aj:=0) (ck (wr:=true) (by simp(disch:=omega)[go_sem];try rfl)) ?_;have ao:Fz (allRows h') (.v (.slice (some ⟨N+1,0,none⟩) m.p.length m.p.length)) (.sl 8 (m.follow.map pl)):=by
    refine dY (aj:=0) (ck (wr:=true) q2) (.inl rfl) aC (by rw[afJ,hm.zi]) (KE _) λx hx=> ?_;obtain⟨y,_,rfl⟩:=RC.1 hx;rfl
   refine aL ?_;refine dY (aj:=0) (ck (wr:=true) (cs:=gU m.follow) (by simp(disch:=omega)[go_sem,q2])) (.inl rfl) aC (by rw[afJ,hm.zi]) (KE _) λx hx=> ?_;obtain⟨y,_,rfl⟩:=RC.1 hx;rfl
def J3(m:cN)(hm:m∈ep):aE E true 74 [.sl 5 (m.p.map bd.e)] (.ptr m.e 0):=by
 have h:(ep.all λm=>Xy 0 m.p.length)=true:=ak;exact adt m (Dw m hm) (FQ (qG.1 h m hm)) (adq m hm) (adp m hm)
def J4(m:cN)(hm:m∈ep)(t:ByteArray)(ht:t.size<=1000000000)(k:Nat)(hk:k<=t.size):aE E true 79 [.sl 5 (m.p.map bd.e),sV t,iV (k:Nat)] (.bp [iV (kU m (t.extract k t.size):Nat),bV (decide (0<kU m (t.extract k t.size)))]):=ade m (Dw m hm) (qV m hm) (J3 m hm) t ht k hk
def adu(m:cN)(hm:m∈ep)(t:ByteArray)(ht:t.size<=1000000000):aE E true 79 [.sl 5 (m.p.map bd.e),sV t,iV 0] (.bp [iV (kU m t:Nat),bV (decide (0<kU m t))]):=by
 have h:=J4 m hm t ht 0 (Nat.zero_le _);rw[JW]at h;exact h
def zm(m:cN)(hm:m∈ep)(t:ByteArray)(ht:t.size<=1000000000):aE E true 36 [.sl 5 (m.p.map bd.e),sV t] (bV (mG m t)):=adf m (Dw m hm) (qV m hm) (J3 m hm) t ht
structure dP where
 x:cM
 marks:Int
 config:Int
 leaves:List Int
def dP.e(r:dP):List DV:=r.x.e++[uV r.marks,uV r.config,.sl 1 (r.leaves.map λb=>[uV b])]
structure dP.Ok(r:dP):Prop where
 x:r.x.Ok
 marks:0<=r.marks/\r.marks<256
 config:0<=r.config/\r.config<256
 leaves:∀b∈r.leaves,0<=b/\b<256
def iv:List ByteArray:=[⟨#[43,43]⟩,⟨#[43,42]⟩,⟨#[105,102,43]⟩]
def pR(d:Dg):Tok:=⟨⟨#[108,111,110,103]⟩,0,⟨#[]⟩,nB,⟨#[120,43]⟩,d⟩
def pS:Tok:=⟨⟨#[110,111,116,101]⟩,2,⟨#[]⟩,zg,⟨#[]⟩,aW true⟩
def pT:Tok:=⟨⟨#[111,100,100]⟩,1,⟨#[]⟩,pP,⟨#[]⟩,aW true⟩
def bW(m:Int)(k:Nat):Bool:=m.toNat.testBit k
def iM(m:Int)(k:Nat):List Tok:=(yy k).flatMap λi=>if bW m i then [fN (iv[i]?.getD ⟨#[]⟩)]else []
def gu(m:Int)(n:Nat):List Tok:=iM m 3++(if bW m 3 then [pR (cE bA m n)]else [])++(if bW m 4 then [pS]else [])++(if bW m 5&& !bW m 6 then [pT]else [])
def bG(r:dP):aq:=
 let g:=cB bA r.x
 let g':={g with au:=g.au++gu r.marks g.conds.length}
 if bW r.marks 5&&bW r.marks 6 then js g' 9 (aW false)else g'
def lW(d:Dg):List Tok:=au++(iv.map fN++[pR d,pS,pT])
theorem J5(m:Int):iM m 3=(if bW m 0 then [fN ⟨#[43,43]⟩]else [])++((if bW m 1 then [fN ⟨#[43,42]⟩]else [])++((if bW m 2 then [fN ⟨#[105,102,43]⟩]else [])++[])):=rfl
def pU{α:Type}(b:Bool)(x:α){l l':List α}(h:l.Sublist l'):((if b then [x]else [])++l).Sublist (x::l'):=by
 cases b with
 |true=>exact h.cons_cons x
 |false=>exact h.cons x
def uG(m:Int)(n:Nat):(gu m n).Sublist (iv.map fN++[pR (cE bA m n),pS,pT]):=by
 have e:gu m n=(if bW m 0 then [fN ⟨#[43,43]⟩]else [])++((if bW m 1 then [fN ⟨#[43,42]⟩]else [])++((if bW m 2 then [fN ⟨#[105,102,43]⟩]else [])++((if bW m 3 then [pR (cE bA m n)]else [])++((if bW m 4 then [pS]else [])++((if bW m 5&& !bW m 6 then [pT]else [])++[]))))):=by
  simp[gu,J5,List.append_assoc]
 rw[e];exact pU _ _ (pU _ _ (pU _ _ (pU _ _ (pU _ _ (pU _ _ (af4 []))))))
structure lY(t:Tok):Prop where
 cls:0<=t.cls/\t.cls<=2
 k:IQ t
def lY.strip{t t':Tok}(h:t.strip=t'.strip)(q:lY t'):lY t:=by
 obtain⟨a,b,c,d,e,f⟩:=t;obtain⟨a',b',c',d',e',f'⟩:=t';simp only[Tok.strip,Tok.mk.injEq]at h;obtain⟨rfl,rfl,rfl,rfl,rfl,_⟩:=h;exact⟨q.cls,q.k⟩
def adw:mG ir ⟨#[120]⟩=true:=ak
def adx:mG ow ⟨#[120,43]⟩=true:=ak
def wH(s:ByteArray)(h:s≠⟨#[]⟩):lY (fN s):=⟨⟨afS 0,show(0:Int)<=2 by decide⟩,.inl ⟨h,rfl,rfl⟩⟩
def gw(i:Nat)(m:cN)(h:ep[i]? =some m):m∈ep:=ab8 h
def J6(d:Dg):∀t∈lW d,lY t:=by
 have hl:∀s∈lits++iv,s≠⟨#[]⟩:=by
  have h:((lits++iv).all λs=> !decide (s=⟨#[]⟩))=true:=ak;intro s hs;simpa using qG.1 h s hs
 have an:lY iG:=⟨⟨aC,aC⟩,.inr ⟨rfl,qV _ (gw 0 ir rfl),.inl ⟨rfl,aC,by have:=zm ir (gw 0 ir rfl) ⟨#[120]⟩ aC;rw[adw]at this;exact this⟩⟩⟩;have ae:lY (pR d):=⟨⟨afS 0,show(0:Int)<=2 by decide⟩,.inr ⟨rfl,qV _ (gw 3 ow rfl),.inl ⟨rfl,show(⟨#[120,43]⟩:ByteArray)≠⟨#[]⟩ by decide,by have:=zm ow (gw 3 ow rfl) ⟨#[120,43]⟩ aC;rw[adx]at this;exact this⟩⟩⟩;have hs:lY mw:=⟨⟨aC,aC⟩,.inr ⟨rfl,qV _ (gw 1 zf rfl),.inr ⟨aC,rfl⟩⟩⟩;have hr:lY yz:=⟨⟨aC,aC⟩,.inr ⟨rfl,qV _ (gw 2 Ds rfl),.inr ⟨aC,rfl⟩⟩⟩;have hn:lY pS:=⟨⟨aC,aC⟩,.inr ⟨rfl,qV _ (gw 4 Dt rfl),.inr ⟨aC,rfl⟩⟩⟩;have ho:lY pT:=⟨⟨aC,aC⟩,.inr ⟨rfl,qV _ (gw 5 Du rfl),.inr ⟨aC,rfl⟩⟩⟩;intro t ht;simp only[lW,au,afB,afw,RC,adr,or_false]at ht;rcases ht with((rfl|⟨s,af,rfl⟩)|rfl|rfl)|⟨s,af,rfl⟩|rfl|rfl|rfl
 . exact an
 . exact wH s (hl s (afB.2 (.inl af)))
 . exact hs
 . exact hr
 . exact wH s (hl s (afB.2 (.inr af)))
 . exact ae
 . exact hn
 . exact ho
def ady(d:Dg):nr ((lW d).map (·.name)):=by
 have h:decide (((lW (aW true)).map (·.name)).Nodup)=true:=ak;have h2:(((lW (aW true)).map (·.name)).all λs=> !decide (s=⟨#[]⟩))=true:=ak;have e:(lW d).map (·.name)=(lW (aW true)).map (·.name):=rfl;rw[e];exact⟨of_decide_eq_true h,λs hs=>by simpa using qG.1 h2 s hs⟩
def J7{l l':List Tok}(h:l.map Tok.strip=l'.map Tok.strip){t:Tok}(ht:t∈l):∃t'∈l',t.strip=t'.strip:=by
 have:t.strip∈l'.map Tok.strip:=by rw[<-h];exact List.mem_map_of_mem ht
 obtain⟨t',h1,h2⟩:=RC.1 this;exact⟨t',h1,h2.symm⟩
def adz{l l':List Tok}(h:l.map Tok.strip=l'.map Tok.strip):l.map (·.name)=l'.map (·.name):=by
 have:=congrArg (afK (·.name)) h;simpa[List.map_map,Function.comp_def,Tok.strip]using this
structure DE(r:dP)(l:List Tok):Prop where
 strip:l.map Tok.strip=(au++gu r.marks (cB bA r.x).conds.length).map Tok.strip
 cond:∀t∈l,lz (cB bA r.x).conds.length t.cond
def uH(r:dP)(hr:r.Ok):DE r (bG r).au:=by
 have hg:=pO r.x hr.x;have ah:=hg.room.conds;have h0:DE r ((cB bA r.x).au++gu r.marks (cB bA r.x).conds.length):=by
  refine⟨by rw[afA,afA,hg.tk],λt ht=> ?_⟩;rcases afB.1 ht with ht|ht
  . exact hg.tc t ht
  . have:=(uG r.marks (cB bA r.x).conds.length).subset ht;simp only[afB,afw,RC,adr,or_false]at this;rcases this with⟨s,_,rfl⟩|rfl|rfl|rfl
    . exact uE _ ah
    . exact Dm _ _ hr.marks.1 hr.marks.2 ah
    . exact uE _ ah
    . exact uE _ ah
 unfold bG;simp only
 split
 . refine⟨by rw[<-h0.strip];exact Jx _ _ _,λt ht=> ?_⟩;rcases mem_modify ht with ht|ht
   . exact h0.cond t ht
   . rw[ht];have h:((yy 4).all λn=>uD n (aW false))=true:=ak;exact wF (qG.1 h _ (by simp;omega))
 . exact h0
def adA(r:dP):Ext (cB bA r.x) (bG r):=by
 have h0:Ext (cB bA r.x) {cB bA r.x with au:=(cB bA r.x).au++gu r.marks (cB bA r.x).conds.length}:=
  ⟨rfl,rfl,λi t ht=>⟨t,by
   show((cB bA r.x).au++gu r.marks (cB bA r.x).conds.length)[i]? =some t;rw[afR (afz.1 ht).1];exact ht,rfl,rfl⟩,λi p hp=>hp⟩
 unfold bG;simp only
 split
 . have h1:=Jw {cB bA r.x with au:=(cB bA r.x).au++gu r.marks (cB bA r.x).conds.length} 9 (aW false);exact⟨h1.conds.trans h0.conds,h1.aP.trans h0.aP,λi t ht=>by
    obtain⟨t',a,b,c⟩:=h0.au i t ht;obtain⟨t2,a2,b2,c2⟩:=h1.au i t' a;exact⟨t2,a2,b2.trans b,c2.trans c⟩,λi p hp=>h1.ay i p (h0.ay i p hp)⟩
 . exact h0
def qW(r:dP):(bG r).conds=(cB bA r.x).conds/\(bG r).family=(cB bA r.x).family/\(bG r).aP=(cB bA r.x).aP/\(bG r).ay=(cB bA r.x).ay/\(bG r).start=(cB bA r.x).start/\(bG r).bn=(cB bA r.x).bn/\(bG r).aZ=(cB bA r.x).aZ:=by
 unfold bG;simp only
 split<;>exact⟨rfl,rfl,rfl,rfl,rfl,rfl,rfl⟩
def J8{g:aq}{r:dP}(h:DE r g.au)(hc:g.conds=(cB bA r.x).conds):CM g:=by
 have ad:(au++gu r.marks (cB bA r.x).conds.length).Sublist (lW (cE bA r.marks (cB bA r.x).conds.length)):=List.Sublist.append (af4 _) (uG _ _);have hn:=ady (cE bA r.marks (cB bA r.x).conds.length);have hs:=ad.map (·.name);have hlen:=ad.length_le;have ao:(lW (cE bA r.marks (cB bA r.x).conds.length)).length=17:=rfl;have av:g.au.length=(au++gu r.marks (cB bA r.x).conds.length).length:=by have:=congrArg List.length h.strip;simpa using this
 refine⟨?_,aa,λt ht=> ?_⟩
 . rw[adz h.strip];exact⟨hn.1.sublist hs,λs af=>hn.2 s (hs.subset af)⟩
 . obtain⟨t',h1,h2⟩:=J7 h.strip ht;have q:=(J6 _ t' (ad.subset h1)).strip h2;exact⟨q.cls.1,q.cls.2,by rw[hc];exact h.cond t ht,q.k⟩
def wI(r:dP)(hr:r.Ok):GV (bG r):=by
 have hg:=pO r.x hr.x;have he:=adA r;have ht:=J8 (uH r hr) (qW r).1;obtain⟨e1,e2,e3,e4,e5,e6,e7⟩:=qW r;have ab:=hg.room;have hp:=hg.nA;refine⟨⟨by rw[e1];have:=ab.conds;omega,ht.len,by rw[e7];have:=ab.aZ;omega,by rw[e3];have:=ab.aP;omega,by rw[e4];omega,by rw[e6];have:=ab.bn;omega,λp hp=> ?_⟩,
  ⟨by rw[e1];exact hg.cW.new,by rw[e1];exact hg.cW.id,by rw[e1];exact hg.cW.len,by rw[e1,e2];exact hg.cW.cW⟩,ht,⟨by rw[e3];exact hg.aP.1,by rw[e5,hg.aP.2];exact afS 0,by rw[e3,e5,hg.aP.2];have:=ab.aP;omega⟩,
  ⟨by rw[e4];exact hg.new,by rw[e4];omega,λp hp=>(hg.ok p (by rw[<-e4];exact hp)).ext he⟩,
  ⟨by rw[e6];exact hg.nd,by rw[e6];have:=ab.bn;omega,λl hl=>by rw[e6]at hl;have:=ab.my l hl;omega,λl hl=>(hg.pN l (by rw[<-e6];exact hl)).ext he⟩,
  ⟨by rw[e7];have:=ab.aZ;omega,λf hf=>by rw[e7]at hf;rw[e1];exact⟨(hg.kS f hf).1,(hg.kS f hf).2.ext he⟩⟩⟩
 rw[e4]at hp;have:=(hg.ok p hp).ar;exact⟨this.len,this.qP⟩
def J9(r:dP)(hr:r.Ok):aE E false 34 [.agg (bG r).e] (iV 0):=by
 obtain⟨NU,hE⟩:=acY r.x hr.x;obtain⟨e1,e2,e3,e4,e5,e6,e7⟩:=qW r;refine Jv (bG r) (wI r hr) NU (λdE p hp=>hE.JK p (by rw[<-e4];exact hp)) (λdE p hp=> ?_)
 . intro k s hk hs ai;have:=hE.JL p (by rw[<-e4];exact hp) k s hk hs ai;exact⟨this.1,by show s.idx<(bG r).aP.length;rw[e3];exact this.2⟩
end Go.Sp
end
noncomputable section
open Go Go.aD Go.Proofs Go.ChangeShapes Go.WideShapes Go.ChangeAt Go.RowKit Go.Joins
namespace Go.Sp
def jX:Tryz.prog.cellsOf 5=1:=ak
def DF:Tryz.prog.cellsOf 22=1:=ak
def adB:Tryz.prog.cellsOf 23=1:=ak
def adC:Tryz.prog.cellsOf 24=1:=ak
def adD:Tryz.prog.cellsOf 26=5:=ak
def adE:Tryz.prog.cellsOf 95=4:=ak
def adF:Tryz.prog.cellsOf 98=5:=ak
def Ka{α:Type}{k:Nat}:∀{xs:List (List α)} (j i:Nat) (x:List α),(∀x∈xs,x.length=k)->xs[j]? =some x->i<k->xs.flatten[j*k+i]? =x[i]?
 |[],j,i,x,_,h,_=>by simp at h
 |y::xs,0,i,x,hl,h,hi=>by
  simp only[List.getElem?_cons_zero,af5]at h;subst h;have hy:y.length=k:=hl y aw;rw[adv,afR aa];simp
 |y::xs,j+1,i,x,hl,h,hi=>by
  have hy:y.length=k:=hl y aw;rw[adv,afZ (by rw[hy,Nat.add_mul];omega),hy];have:=Ka j i x (λz hz=>hl z (afG _ hz)) (by simpa using h) hi;rw[<-this];congr 1;rw[Nat.add_mul];omega
def adG{z:Int}(h:(Lit.int .u8 z).wf=true):0<=z/\z<256:=by
 simp only[Lit.wf,afx,decide_eq_true_eq]at h;have h1:IntKind.u8.min=0:=rfl;have h2:IntKind.u8.max=255:=rfl;omega
section
variable {H:Type} {enc:TypeId×Value->H}
def lZ{W:World}{n:Nat}{cs:List Value}{y:DataW H×List MemPlace}(h:DataW.trod enc Tryz.prog W 0 (λ_=>true) true n 5 cs=some y):∃z,cs=[.int .u8 z]/\0<=z/\z<256:=by
 obtain⟨z,e,_,hw⟩:=DataW.trod_int Tryz.underlying5 h;exact⟨z,e,adG hw⟩
def DG{W:World}{t el:TypeId}{k:Nat}{α:Type}[Inhabited α](Q:α->Prop)(f:α->List DV)(hu:Tryz.prog.underlying t=some (.slice el))(hk:Tryz.prog.cellsOf el=k)(ad:0<k)(hf:∀x,(f x).length=k)
 (ai:∀n cs y,cs.length=k->DataW.trod enc Tryz.prog W 0 (λ_=>true) true n el cs=some y->∃x,Q x/\hD W cs (f x)) {n:Nat} {cs:List Value} {y:DataW H×List MemPlace} (h:DataW.trod enc Tryz.prog W 0 (λ_=>true) true n t cs=some y):∃(v:Value) (xs:List α),cs=[v]/\(∀x∈xs,Q x)/\Rd W v (.sl k (xs.map f)):=by
 rcases Deep.open_slice hu h with⟨rfl,_⟩|⟨a,len,cap,m,n',D,Pl,rfl,_,hl,_,hm,_,af⟩
 . exact⟨_,[],rfl,λx hx=>absurd hx adr,Rd.YP W ad 0⟩
 . obtain rfl:m=cap:=by simpa using hm
   rw[hk]at af;have each:∀i,i<m->∃q:List Value×α,q.1.length=k/\(∀j,j<k->W.cell? ((a.add (i*k)).add j)=q.1[j]?)/\Q q.2/\hD W q.1 (f q.2):=λi hi=>by
    obtain⟨cs',hc,ht⟩:=af i hi;obtain⟨_,h5,ae⟩:=World.cells?_some hc;obtain⟨x,h6,h7⟩:=ai n' cs' _ h5 ht;exact⟨(cs',x),h5,ae,h6,h7⟩
   obtain⟨g,hg⟩:=Deep.choose_lt each;refine⟨_,((yy m).map λi=>(g i).2).take len,rfl,λx hx=> ?_, ?_⟩
   . obtain⟨i,hi,rfl⟩:=RC.1 (List.mem_of_mem_take hx);exact(hg i (afL.1 hi)).2.2.1
   . rw[List.map_take];have hL:∀l:List Nat,(∀i∈l,i<m)->hD W (l.map λi=>(g i).1).flatten ((l.map λi=>(g i).2).map f).flatten:=λl=>by
      induction l with
      |nil=>exactλ_=>hD.nil W
      |cons i l ih=>
       intro hm;simp only[afI,adv];exact(hg i (hm i (af6 ..))).2.2.2.append (ih λj hj=>hm j (afG _ hj))
     refine Rd.sl ad hl (cells:=((yy m).map λi=>(g i).1).flatten) ?_ (λj hj=> ?_) aw (λx hx=> ?_) (hL _ λi hi=>afL.1 hi)
     . have:∀l:List Nat,(∀i∈l,i<m)->((l.map λi=>(g i).1).flatten).length=l.length*k:=λl=>by
        induction l with
        |nil=>intro _;simp
        |cons i l ih=>
         intro hm;simp only[afI,adv,af0,List.length_cons];rw[ih λj hj=>hm j (afG _ hj),(hg i (hm i (af6 ..))).1,Nat.succ_mul];omega
       rw[this _ λi hi=>afL.1 hi,List.length_range]
     . obtain⟨i,r,hr,ah⟩:∃i r,j=i*k+r/\r<k:=⟨j/k,j%k,by rw[Nat.mul_comm];exact(Nat.div_add_mod j k).symm,Nat.mod_lt _ ad⟩;subst hr;have hi:i<m:=by
        rcases Nat.lt_or_ge i m with h|h
        . exact h
        . have:=Nat.mul_le_mul_right k h;omega
       obtain⟨q1,q2,_,_⟩:=hg i hi;rw[Ka i r (g i).1 (λx hx=>by obtain⟨z,hz,rfl⟩:=RC.1 hx;exact(hg z (afL.1 hz)).1) (by simp[hi]) ah,<-q2 r ah,Addr.add_add]
     . obtain⟨z,_,rfl⟩:=RC.1 hx;exact hf z
def DH{W:World}{n:Nat}{cs:List Value}{y:DataW H×List MemPlace}(h:DataW.trod enc Tryz.prog W 0 (λ_=>true) true n 22 cs=some y):∃(v:Value) (bs:List Int),cs=[v]/\(∀b∈bs,0<=b/\b<256)/\Rd W v (.sl 1 (bs.map λb=>[uV b])):=
 DG (λb=>0<=b/\b<256) (λb=>[uV b]) Tryz.underlying22 jX Nat.one_pos (λ_=>rfl) (λn cs y _ h=>by
  obtain⟨z,rfl,hz⟩:=lZ h;exact⟨z,hz,.cons (Rd.int W _ _) (.nil W)⟩) h
instance:Inhabited Ln:=⟨⟨0,[],0,0⟩⟩
instance:Inhabited Rl:=⟨⟨0,0,0,0,0⟩⟩
def jy{W:World}{n:Nat}{fs:Array Field}{cs:List Value}{xs:List (DataW H×List MemPlace)}(hl:xs.length=fs.size)(hf:∀(i:Nat) (f:Field),fs[i]? =some f->DataW.trod enc Tryz.prog W 0 (λ_=>true) true n f.type ((cs.drop f.offset).take (Tryz.prog.cellsOf f.type))=xs[i]?)(i:Nat)(f:Field)(hi:fs[i]? =some f)(t o:Nat){k:Nat}(ht:f.type=t)(ho:f.offset=o)(hk:Tryz.prog.cellsOf t=k):∃y,DataW.trod enc Tryz.prog W 0 (λ_=>true) true n t ((cs.drop o).take k)=some y:=by
 subst ht;subst ho;subst hk;have h:=hf i f hi;have an:=(Array.getElem?_eq_some_iff.1 hi).1;rw[YT aa]at h;exact⟨_,h⟩
def adH{W:World}{n:Nat}{cs:List Value}{y:DataW H×List MemPlace}(hl:cs.length=4)(h:DataW.trod enc Tryz.prog W 0 (λ_=>true) true n 95 cs=some y):∃x:Ln,x.Ok/\hD W cs x.e:=by
 obtain⟨xs,n',_,_,_,ab,hf⟩:=DataW.trod_struct Tryz.underlying95 h;obtain⟨c0,c1,c2,c3,rfl⟩:∃c0 c1 c2 c3,cs=[c0,c1,c2,c3]:=by
  match cs,hl with
  |[c0,c1,c2,c3],_=>exact⟨_,_,_,_,rfl⟩
 obtain⟨y0,h0⟩:=jy ab hf 0 _ rfl 5 0 rfl rfl jX;obtain⟨y1,h1⟩:=jy ab hf 1 _ rfl 22 1 rfl rfl DF;obtain⟨y2,h2⟩:=jy ab hf 2 _ rfl 5 2 rfl rfl jX;obtain⟨y3,h3⟩:=jy ab hf 3 _ rfl 5 3 rfl rfl jX;obtain⟨z0,e0,q0⟩:=lZ h0;obtain⟨v1,bs,e1,q1,r1⟩:=DH h1;obtain⟨z2,e2,q2⟩:=lZ h2;obtain⟨z3,e3,q3⟩:=lZ h3;obtain rfl:=yB.1 (show [c0]=_ from e0);obtain rfl:=yB.1 (show [c1]=_ from e1);obtain rfl:=yB.1 (show [c2]=_ from e2);obtain rfl:=yB.1 (show [c3]=_ from e3);exact⟨⟨z0,bs,z2,z3⟩,⟨q0,q1,q2,q3⟩,.cons (Rd.int W _ _) (.cons r1 (.cons (Rd.int W _ _) (.cons (Rd.int W _ _) (.nil W))))⟩
def adI{W:World}{n:Nat}{cs:List Value}{y:DataW H×List MemPlace}(hl:cs.length=5)(h:DataW.trod enc Tryz.prog W 0 (λ_=>true) true n 98 cs=some y):∃x:Rl,x.Ok/\hD W cs x.e:=by
 obtain⟨xs,n',_,_,_,ab,hf⟩:=DataW.trod_struct Tryz.underlying98 h;obtain⟨c0,c1,c2,c3,c4,rfl⟩:∃c0 c1 c2 c3 c4,cs=[c0,c1,c2,c3,c4]:=by
  match cs,hl with
  |[c0,c1,c2,c3,c4],_=>exact⟨_,_,_,_,_,rfl⟩
 obtain⟨y0,h0⟩:=jy ab hf 0 _ rfl 5 0 rfl rfl jX;obtain⟨y1,h1⟩:=jy ab hf 1 _ rfl 5 1 rfl rfl jX;obtain⟨y2,h2⟩:=jy ab hf 2 _ rfl 5 2 rfl rfl jX;obtain⟨y3,h3⟩:=jy ab hf 3 _ rfl 5 3 rfl rfl jX;obtain⟨y4,h4⟩:=jy ab hf 4 _ rfl 5 4 rfl rfl jX;obtain⟨z0,e0,q0⟩:=lZ h0;obtain⟨z1,e1,q1⟩:=lZ h1;obtain⟨z2,e2,q2⟩:=lZ h2;obtain⟨z3,e3,q3⟩:=lZ h3;obtain⟨z4,e4,q4⟩:=lZ h4;obtain rfl:=yB.1 (show [c0]=_ from e0);obtain rfl:=yB.1 (show [c1]=_ from e1);obtain rfl:=yB.1 (show [c2]=_ from e2);obtain rfl:=yB.1 (show [c3]=_ from e3);obtain rfl:=yB.1 (show [c4]=_ from e4);exact⟨⟨z0,z1,z2,z3,z4⟩,⟨q0,q1,q2,q3,q4⟩,.cons (Rd.int W _ _) (.cons (Rd.int W _ _) (.cons (Rd.int W _ _) (.cons (Rd.int W _ _) (.cons (Rd.int W _ _) (.nil W)))))⟩
end
end Go.Sp
end
noncomputable section
open Go Go.aD Go.Proofs
namespace Go.Sp
def fI:aH:=λi=>if i=dW then some ⟨dW,0,64,64,0,λ_=>True⟩else if i<dW then some ⟨i,0,0,0,0,λ_=>True⟩else none
def eS:ab:=⟨Tr.nil.set dW (some (.row jh false 0)),dW+1⟩
def Kb(ρ:aH):∀l:List Int,bN ρ (l.map λn=>Value.int .u8 n) (l.map λn=>Value.int .u8 n)
 |[]=>.nil
 |n::l=>.cons (.int _ _) (Kb ρ l)
def adJ(w:World)(el:TypeId)(fz:Nat×Nat)(ht:w.heap[dW]? =some (.cells jh.toArray el fz)):qI w fI eS:=by
 have only:∀i o,eS.get i=some o->i=dW/\o=.row jh false 0:=λi o h=>by
  have h:((Tr.nil:Tr bP).set dW (some (.row jh false 0))).get i=some o:=h;rw[Tr.bu]at h
  split at h
  . rename_i e;cases h;exact⟨e,rfl⟩
  . rw[Tr.get_nil]at h;cases h
 refine⟨⟨λi pl h=> ?_,λi o h=> ?_,λi j o p pi pj ad h1 h2=> ?_⟩,λi o h=> ?_, ?_,if_pos rfl,λg hg=> ?_⟩
 . show i<dW+1;simp only[fI]at h
   split at h
   . omega
   . split at h
     . omega
     . cases h
 . obtain⟨rfl,rfl⟩:=only i o h;refine⟨_,if_pos rfl,jh.toArray,el,fz,ht,λh=>(by cases h),rfl,rfl,KE _,KE _,λ_=>rfl, ?_,λ_=>trivial⟩;have e:(jh.toArray.toList.drop 0).take 64=jh:=afH (l:=jh) (KE 64);show bN fI jh ((jh.toArray.toList.drop 0).take 64);rw[e];unfold jh;exact Kb _ _
 . obtain⟨rfl,rfl⟩:=only i o h1;cases h2
 . obtain⟨rfl,rfl⟩:=only i o h;rfl
 . show((Tr.nil:Tr bP).set dW (some (.row jh false 0))).get dW=_;rw[Tr.bu,if_pos rfl]
 . by_cases h:g=dW
   . subst h;exact⟨_,if_pos rfl,rfl,rfl⟩
   . refine⟨⟨g,0,0,0,0,λ_=>True⟩, ?_,rfl,rfl⟩;simp only[fI];rw[if_neg h,if_pos aa]
end Go.Sp
end
noncomputable section
open Go Go.aD Go.Proofs Go.ChangeShapes Go.WideShapes Go.ChangeAt Go.RowKit Go.Joins
namespace Go.Sp
def Kc:Tryz.prog.cellsOf 28=8:=ak
section
variable {H:Type} {enc:TypeId×Value->H}
def Ke{W:World}{n:Nat}{cs:List Value}{y:DataW H×List MemPlace}(hl:cs.length=8)(h:DataW.trod enc Tryz.prog W 0 (λ_=>true) true n 28 cs=some y):∃x:dP,x.Ok/\hD W cs x.e:=by
 obtain⟨xs,n',_,_,_,ad,hf⟩:=DataW.trod_struct Tryz.underlying28 h;obtain⟨c0,c1,c2,c3,c4,c5,c6,c7,rfl⟩:∃c0 c1 c2 c3 c4 c5 c6 c7,cs=[c0,c1,c2,c3,c4,c5,c6,c7]:=by
  match cs,hl with
  |[c0,c1,c2,c3,c4,c5,c6,c7],_=>exact⟨_,_,_,_,_,_,_,_,rfl⟩
 obtain⟨y0,h0⟩:=jy ad hf 0 _ rfl 26 0 rfl rfl adD;obtain⟨y1,h1⟩:=jy ad hf 1 _ rfl 5 5 rfl rfl jX;obtain⟨y2,h2⟩:=jy ad hf 2 _ rfl 5 6 rfl rfl jX;obtain⟨y3,h3⟩:=jy ad hf 3 _ rfl 22 7 rfl rfl DF;obtain⟨zs,n2,_,_,_,aa,ab⟩:=DataW.trod_struct Tryz.underlying26 h0;obtain⟨w0,g0⟩:=jy aa ab 0 _ rfl 5 0 rfl rfl jX;obtain⟨w1,g1⟩:=jy aa ab 1 _ rfl 5 1 rfl rfl jX;obtain⟨w2,g2⟩:=jy aa ab 2 _ rfl 22 2 rfl rfl DF;obtain⟨w3,g3⟩:=jy aa ab 3 _ rfl 23 3 rfl rfl adB;obtain⟨w4,g4⟩:=jy aa ab 4 _ rfl 24 4 rfl rfl adC;obtain⟨z0,e0,q0⟩:=lZ g0;obtain⟨z1,e1,q1⟩:=lZ g1;obtain⟨v2,cW,e2,q2,r2⟩:=DH g2;obtain⟨v3,ae,e3,q3,r3⟩:=DG Ln.Ok Ln.e Tryz.underlying23 adE aC (λ_=>rfl) (λn cs y hl h=>adH hl h) g3;obtain⟨v4,af,e4,q4,r4⟩:=DG Rl.Ok Rl.e Tryz.underlying24 adF aC (λ_=>rfl) (λn cs y hl h=>adI hl h) g4;obtain⟨z5,e5,q5⟩:=lZ h1;obtain⟨z6,e6,q6⟩:=lZ h2;obtain⟨v7,ah,e7,q7,r7⟩:=DH h3;obtain rfl:=yB.1 (show [c0]=_ from e0);obtain rfl:=yB.1 (show [c1]=_ from e1);obtain rfl:=yB.1 (show [c2]=_ from e2);obtain rfl:=yB.1 (show [c3]=_ from e3);obtain rfl:=yB.1 (show [c4]=_ from e4);obtain rfl:=yB.1 (show [c5]=_ from e5);obtain rfl:=yB.1 (show [c6]=_ from e6);obtain rfl:=yB.1 (show [c7]=_ from e7);exact⟨⟨⟨z0,z1,cW,ae,af⟩,z5,z6,ah⟩,⟨⟨q0,q1,q2,q3,q4⟩,q5,q6,q7⟩,.cons (Rd.int W _ _) (.cons (Rd.int W _ _) (.cons r2 (.cons r3 (.cons r4 (.cons (Rd.int W _ _) (.cons (Rd.int W _ _) (.cons r7 (.nil W))))))))⟩
end
end Go.Sp
end
noncomputable section
open Go Go.aD Go.Proofs
namespace Go.Sp
def jz(ns:List (Int×Int×Int))(c:Nat):Nat->Int->Int
 |0,r=>r
 |k+1,r=>if r<=1 then r else match ns[(r-2).toNat]? with
  |some x=>jz ns c k (if c.testBit x.1.toNat then x.2.2 else x.2.1)
  |none=>r
def er(d:Dg)(c:Nat):Bool:=decide (jz d.nodes c d.root.toNat d.root=1)
def DJ(d:Dg):Prop:=(∀(i:Nat) x,d.nodes[i]? =some x->0<=x.1/\x.1<3/\0<=x.2.1/\x.2.1<i+2/\0<=x.2.2/\x.2.2<i+2)/\0<=d.root/\d.root<d.nodes.length+2
def Kf(c:Nat)(hc:c<256):DJ (aM c):=by
 have h:((yy 256).all λc=>(yy (aM c).nodes.length).all (λi=>match(aM c).nodes[i]? with|some x=>decide (0<=x.1/\x.1<3/\0<=x.2.1/\x.2.1<i+2/\0<=x.2.2/\x.2.2<i+2)|none=>true)&&decide (0<=(aM c).root/\(aM c).root<(aM c).nodes.length+2))=true:=ak;have h2:=qG.1 h c (by simpa using hc);rw[afx,decide_eq_true_eq]at h2;refine⟨λi x hx=> ?_,h2.2⟩;have h3:=qG.1 h2.1 i (by have:=(afz.1 hx).1;simpa using this);rw[hx]at h3;exact of_decide_eq_true h3
def zn{ns:List (Int×Int×Int)}{c:Nat}(ho:∀(i:Nat) x,ns[i]? =some x->0<=x.1/\x.1<3/\0<=x.2.1/\x.2.1<i+2/\0<=x.2.2/\x.2.2<i+2):∀(k:Nat) (r:Int),r.toNat<=k->jz ns c k r=jz ns c r.toNat r
 |0,r,h=>by rw[show r.toNat=0 by omega]
 |k+1,r,h=>by
  by_cases h1:r<=1
  . rw[jz,if_pos h1];cases hr:r.toNat with
    |zero=>rfl
    |succ n=>rw[jz,if_pos h1]
  . obtain⟨n,hn⟩:∃n,r.toNat=n+1:=⟨r.toNat-1,aa⟩;rw[hn,jz,jz,if_neg h1,if_neg h1]
    split
    . rename_i x hx;obtain⟨_,_,h2,h3,h4,h5⟩:=ho _ _ hx;have e:∀q:Int,q<(r-2).toNat+2->0<=q->jz ns c k q=jz ns c n q:=λq q1 q2=>by rw[zn ho k q aa,zn ho n q aa]
      split
      . exact e _ h5 h4
      . exact e _ h3 h2
    . rfl
def Kg(c v:Nat)(hc:c<8)(hv:v<3):IntKind.u64.wrap (((E2 IntKind.u64.bits ((c:Int).fdiv (2^(min v IntKind.u64.bits)))&&&E2 IntKind.u64.bits 1).toNat:Nat):Int)=if c.testBit v then 1 else 0:=by
 have h:((yy 8).all λc=>(yy 3).all λv=>decide (IntKind.u64.wrap (((E2 IntKind.u64.bits ((c:Int).fdiv (2^(min v IntKind.u64.bits)))&&&E2 IntKind.u64.bits 1).toNat:Nat):Int)=if c.testBit v then 1 else 0))=true:=ak;exact of_decide_eq_true (qG.1 (qG.1 h c (by simpa using hc)) v (by simpa using hv))
abbrev cV(c:Nat):DV:=.v (.int .u64 (c:Nat))
set_option maxHeartbeats 4000000 in
def adK(d:Dg)(hd:DJ d)(hl:d.nodes.length<=1000)(c:Nat)(hc:c<8):aE E true 32 [.agg d.e,cV c] (bV (er d c)):=by
 obtain⟨ns,rt⟩:=d;obtain⟨ho,h0,h1⟩:=hd;simp only at ho h0 h1 hl;obtain⟨G,hG⟩:∃G,jz ns c rt.toNat rt=G:=⟨_,rfl⟩;have ad:er ⟨ns,rt⟩ c=decide (G=1):=by simp only[er,hG]
 rw[ad];refine bc Tryz.ntmps32 Tryz.results32 λN=> ?_;simp(disch:=omega)[go_sem,Dg.e];obtain⟨I,hI⟩:∃I:Nat->DS->Prop,∀j d,I j d↔∃(r:Int) (P:Nat),j=r.toNat/\0<=r/\r<ns.length+2/\jz ns c r.toNat r=G/\N<P/\d=⟨bw [(1,cV c),(2,.v (.pointer (some ⟨N,0,none⟩))),(5,iV r)],30,[],cj P [(N,.row [.sl 3 (ns.map cL),iV rt] true 0)]⟩:=⟨_,λ_ _=>RW⟩;refine bS I rt.toNat ⟨_,aB.mk (N:=N+1) ah ah ah,(hI _ _).2 ⟨rt,N+1,rfl,h0,h1,hG,aa,rfl⟩⟩ ?_
 . intro j ds af;obtain⟨r,P,hj,av,aw,ab,hP,rfl⟩:=(hI _ _).1 af;clear af;by_cases hr:1<r
   . obtain⟨k,hk⟩:∃k,r.toNat=k+1:=⟨r.toNat-1,aa⟩;obtain⟨x,hx⟩:∃x,ns[(r-2).toNat]? =some x:=⟨_,YT aa⟩;obtain⟨q0,q1,q2,q3,q4,q5⟩:=ho _ _ hx;have ao:¬r<=1:=aa;rw[hk,jz,if_neg ao,hx]at ab;simp only at ab;rw[zn ho k _ (by split<;>omega)]at ab;obtain⟨v,hv⟩:∃v:Nat,x.1=v:=⟨x.1.toNat,aa⟩;have hb:=Kg c v hc aa;rw[hv]at ab;simp only[afP]at ab;have hw:IntKind.u64.wrap (v:Int)=v:=wrap_u64 aa aa;have ai:2<=r:=aa;by_cases an:c.testBit v=true
     . simp only[if_pos an]at hb ab;replace hb:=cq hb;simp(disch:=omega)[go_sem,hr,ai,aG,hx,-getElem?_pos,cL,hv,hw,hb];exact⟨_,aa,_,aB.mk (N:=P+1) ah ah ah,(hI _ _).2 ⟨x.2.2,P+1,rfl,aa,aa,ab,aa,rfl⟩⟩
     . simp only[if_neg an]at hb ab;replace hb:=cq hb;simp(disch:=omega)[go_sem,hr,ai,aG,hx,-getElem?_pos,cL,hv,hw,hb];exact⟨_,aa,_,aB.mk (N:=P+1) ah ah ah,(hI _ _).2 ⟨x.2.1,P+1,rfl,aa,aa,ab,aa,rfl⟩⟩
   . have ae:r=G:=by
      rw[<-ab];cases h:r.toNat with
      |zero=>rfl
      |succ k=>rw[jz,if_pos aa]
     subst ae;simp(disch:=omega)[go_sem,hr]
set_option maxHeartbeats 4000000 in
def adL(d:Dg)(hd:DJ d)(aq:aE E true 77 [.agg d.e] (iV 0))(hl:d.nodes.length<=1000)(c:Nat)(hc:c<8):aE E true 37 [.agg d.e,cV c] (bV (er d c)):=by
 obtain⟨ns,rt⟩:=d;obtain⟨ho,h0,h1⟩:=hd;simp only at ho h0 h1 hl;obtain⟨G,hG⟩:∃G,jz ns c rt.toNat rt=G:=⟨_,rfl⟩;have ad:er ⟨ns,rt⟩ c=decide (G=1):=by simp only[er,hG]
 rw[ad];refine bc Tryz.ntmps37 Tryz.results37 λN=> ?_;simp only[Dg.e]at aq;simp(disch:=omega)[go_sem,Dg.e];refine ax.mk aq λM=>dI λhM=> ?_;obtain⟨I,hI⟩:∃I:Nat->DS->Prop,∀j d,I j d↔∃(r:Int) (P:Nat),j=r.toNat/\0<=r/\r<ns.length+2/\jz ns c r.toNat r=G/\N<P/\d=⟨bw [(1,cV c),(2,.v (.pointer (some ⟨N,0,none⟩))),(5,iV r)],32,[],cj P [(N,.row [.sl 3 (ns.map cL),iV rt] true 0)]⟩:=⟨_,λ_ _=>RW⟩;refine bS I rt.toNat ⟨_,aB.mk (N:=M) ah ah ah,(hI _ _).2 ⟨rt,M,rfl,h0,h1,hG,aa,rfl⟩⟩ ?_
 . intro j ds af;obtain⟨r,P,hj,av,aw,ab,hP,rfl⟩:=(hI _ _).1 af;clear af;by_cases hr:1<r
   . obtain⟨k,hk⟩:∃k,r.toNat=k+1:=⟨r.toNat-1,aa⟩;obtain⟨x,hx⟩:∃x,ns[(r-2).toNat]? =some x:=⟨_,YT aa⟩;obtain⟨q0,q1,q2,q3,q4,q5⟩:=ho _ _ hx;have ao:¬r<=1:=aa;rw[hk,jz,if_neg ao,hx]at ab;simp only at ab;rw[zn ho k _ (by split<;>omega)]at ab;obtain⟨v,hv⟩:∃v:Nat,x.1=v:=⟨x.1.toNat,aa⟩;have hb:=Kg c v hc aa;rw[hv]at ab;simp only[afP]at ab;have hw:IntKind.u64.wrap (v:Int)=v:=wrap_u64 aa aa;have ai:2<=r:=aa;by_cases an:c.testBit v=true
     . simp only[if_pos an]at hb ab;replace hb:=cq hb;simp(disch:=omega)[go_sem,hr,ai,aG,hx,-getElem?_pos,cL,hv,hw,hb];exact⟨_,aa,_,aB.mk (N:=P+1) ah ah ah,(hI _ _).2 ⟨x.2.2,P+1,rfl,aa,aa,ab,aa,rfl⟩⟩
     . simp only[if_neg an]at hb ab;replace hb:=cq hb;simp(disch:=omega)[go_sem,hr,ai,aG,hx,-getElem?_pos,cL,hv,hw,hb];exact⟨_,aa,_,aB.mk (N:=P+1) ah ah ah,(hI _ _).2 ⟨x.2.1,P+1,rfl,aa,aa,ab,aa,rfl⟩⟩
   . have ae:r=G:=by
      rw[<-ab];cases h:r.toNat with
      |zero=>rfl
      |succ k=>rw[jz,if_pos aa]
     subst ae;simp(disch:=omega)[go_sem,hr]
def Kh(c k:Nat)(hc:c<256)(hk:k<8):aE E true 32 [.agg (aM c).e,cV k] (bV (er (aM c) k)):=adK _ (Kf c hc) (by have:=yF c hc;omega) k hk
def uI(c k:Nat)(hc:c<256)(hk:k<8):aE E true 37 [.agg (aM c).e,cV k] (bV (er (aM c) k)):=adL _ (Kf c hc) (Ct c hc) (by have:=yF c hc;omega) k hk
def cw(H:ae)(B U k:Nat)(xs:List (List DV))(pv:DV):Prop:=
 (xs=[]/\pv=cK)\/∃R,B<=R/\R<U/\pv=.v (.slice (some ⟨R,0,none⟩) xs.length xs.length)/\H.get R=some (.row xs.flatten true k)
theorem cw.nil(H:ae)(B U k:Nat):cw H B U k [] cK:=.inl ⟨rfl,rfl⟩
def cw.same{H H':ae}{B U U' k:Nat}{xs:List (List DV)}{pv:DV}(h:cw H B U k xs pv)(hs:∀j,B<=j->j<U->H'.get j=H.get j)(hU:U<=U'):cw H' B U' k xs pv:=by
 rcases h with h|⟨R,h1,h2,h3,h4⟩
 . exact .inl h
 . exact .inr ⟨R,h1,aa,h3,by rw[hs R h1 h2,h4]⟩
def cw.len{H:ae}{B U k:Nat}{xs:List (List DV)}{pv:DV}(h:cw H B U k xs pv)(t:TypeId)(s:Nat)(hs:E.elem t=some s):iC E H t pv=some (iV (xs.length:Nat)):=by
 rcases h with⟨rfl,rfl⟩|⟨R,h1,h2,rfl,h4⟩<;>simp[go_sem,hs]
def fP:DV->Option Nat
 |.v (.slice (some a) _ _)=>some a.block
 |_=>none
def cw.ne{H:ae}{B U k:Nat}{xs:List (List DV)}{pv:DV}(h:cw H B U k xs pv){j:Nat}(hj:j<B\/U<=j):fP pv≠some j:=by
 rcases h with⟨_,rfl⟩|⟨R,h1,h2,rfl,_⟩
 . intro h;cases h
 . intro h;simp only[fP,af5]at h;omega
def cw.app{H:ae}{B U k b st xt q:Nat}{xs:List (List DV)}{pv:DV}{new:List DV}{K:DV×ae×List Nat->Prop}(h:cw H B U k xs pv)(ah:E.ap st=some (k,b)){z:Nat}(ai:E.elem xt=some z)(hB:B<=U)(hU:U<=H.next)(hq:H.get q=some (.row new true 0))(ab:0<k)(ak:new.length=k)(h1:new.all cZ=true)(hx:∀x∈xs,x.length=k)(hb:(xs.length+1)*(b+1)<=1073741824)
 (hk:∀H' af T,(∀i∈T,B<=i/\i<U)->cw H' B H'.next k (xs++[new]) af->H'.next=H.next+1->(∀j,j<H.next->fP pv≠some j->H'.get j=H.get j)->fP af=some H.next->K (af,H',T)):aO (jJ E H [st,xt].toArray (some [pv,.v (.slice (some ⟨q,0,none⟩) 1 1)])) K:=by
 have ad:gj H k (.v (.slice (some ⟨q,0,none⟩) 1 1))=some (1,new):=by
  simp only[gj,hq];rw[if_pos aa];rw[Nat.one_mul,List.drop_zero,afH aa]
 rcases h with⟨rfl,rfl⟩|⟨R,r1,r2,rfl,r4⟩
 . refine⟨_, ?_,hk (H.new (.row new true k)) (.v (.slice (some ⟨H.next,0,none⟩) 1 1)) [] aw (.inr ⟨H.next,aa,by rw[ae.bm];omega,rfl, ?_⟩) (ae.bm _ _) (λj j1 j2=> ?_) rfl⟩
   . rw[x7,ah,ai];simp only[tL,ad];rw[se _ _ _ _ _ aC (by simpa using hb)]
   . rw[ae.dN,if_pos rfl];simp
   . rw[ae.dN,if_neg aa]
 . have an:xs.flatten.length=xs.length*k:=fF hx;refine⟨_, ?_,hk ((H.set R none).new (.row (xs.flatten++new) true k)) (.v (.slice (some ⟨H.next,0,none⟩) (xs.length+1) (xs.length+1))) [R] (by simp;omega) (.inr ⟨H.next,aa,by rw[ae.bm,ae.aY];omega,aw, ?_⟩) (by rw[ae.bm,ae.aY]) (λj j1 j2=> ?_) rfl⟩
   . rw[x7,ah,ai];simp only[tL,ad];rw[vI _ _ _ _ _ _ _ _ r4 an ab aC h1 hb]
   . rw[ae.dN,ae.aY,if_pos rfl];simp
   . rw[ae.dN,ae.aY,if_neg aa,ae.bu,if_neg (λh=>j2 (by rw[h];rfl))]
def cw.fz{H:ae}{B U k:Nat}{xs:List (List DV)}{pv:DV}(h:cw H B U k xs pv)(ab:0<k)(hx:∀x∈xs,x.length=k):Fz (allRows H) pv (.sl k xs):=by
 rcases h with⟨rfl,rfl⟩|⟨R,h1,h2,rfl,h4⟩
 . exact .nil ab
 . exact dY (aj:=k) (ck h4) (.inr rfl) ab rfl (KE _) hx
def cw.cells{H:ae}{B U k:Nat}{xs:List (List DV)}{pv:DV}(h:cw H B U k xs pv):cC pv=[pv]/\cZ pv=true:=by
 rcases h with⟨_,rfl⟩|⟨R,_,_,rfl,_⟩<;>exact⟨rfl,rfl⟩
def cw.Ki{H:ae}{B U k:Nat}{xs ys:List (List DV)}{pv:DV}{S:eQ}(h:cw H B U k xs pv)(ab:0<k)(hl:xs.length=ys.length)(hy:∀x∈ys,x.length=k)(hz:cI S xs.flatten ys.flatten)(hS:∀R cs,B<=R->R<U->H.get R=some (.row cs true k)->S R=some (cs,k)):Fz S pv (.sl k ys):=by
 rcases h with⟨rfl,rfl⟩|⟨R,h1,h2,rfl,h4⟩
 . have:ys=[]:=List.eq_nil_of_length_eq_zero (by rw[<-hl];rfl);subst this;exact .nil ab
 . exact iZ (hS R _ h1 h2 h4) (.inr rfl) ab hl (KE _) hy hz
def fj(g:aq)(k:Nat):Bool:=decide (k/2^g.conds.length=0)&&er g.family k
def fdiv_pow(k n:Nat):(k:Int).fdiv (2^n)=((k/2^n:Nat):Int):=by
 rw[Int.fdiv_eq_ediv_of_nonneg _ (by exact Int.le_of_lt (Int.pow_pos aC))];simp
def adM(g:aq)(hn:g.conds.length<=3)(c:Nat)(hc:c<256)(hf:g.family=aM c)(k:Nat)(hk:k<8):aE E true 31 [.agg g.e,cV k] (bV (fj g k)):=by
 have af:=Kh c k hc hk;rw[<-hf]at af;have ai:=fdiv_pow k g.conds.length;have an:¬(g.conds.length:Int)=64:=aa;have hw:IntKind.u64.wrap (g.conds.length:Int)=g.conds.length:=wrap_u64 aa aa;have ad:min g.conds.length 64=g.conds.length:=aa;refine bc Tryz.ntmps31 Tryz.results31 λN=> ?_;simp only[Dg.e]at af;by_cases h:k/2^g.conds.length=0
 . have hr:fj g k=er g.family k:=by simp[fj,h]
   rw[hr];simp(disch:=omega)[go_sem,aq.e,an,hw,ad,ai,h];refine ax.mk af λM=>aT λhM=> ?_;exact ah
 . have hr:fj g k=false:=by simp[fj,h]
   rw[hr];have h':decide (((k/2^g.conds.length:Nat):Int)=0)=false:=decide_eq_false aa;simp only[af7,af8,af9]at h';simp(disch:=omega)[go_sem,aq.e,an,hw,ad,ai,h']
def adN(g:aq)(hn:g.conds.length<=3)(c:Nat)(hc:c<256)(hf:g.family=aM c)(k:Nat)(hk:k<8):aE E true 72 [.agg g.e,cV k] (bV (fj g k)):=by
 have af:=uI c k hc hk;rw[<-hf]at af;have ai:=fdiv_pow k g.conds.length;have an:¬(g.conds.length:Int)=64:=aa;have hw:IntKind.u64.wrap (g.conds.length:Int)=g.conds.length:=wrap_u64 aa aa;have ad:min g.conds.length 64=g.conds.length:=aa;refine bc Tryz.ntmps72 Tryz.results72 λN=> ?_;simp only[Dg.e]at af;by_cases h:k/2^g.conds.length=0
 . have hr:fj g k=er g.family k:=by simp[fj,h]
   rw[hr];simp(disch:=omega)[go_sem,aq.e,an,hw,ad,ai,h];refine ax.mk af λM=>aT λhM=> ?_;exact ah
 . have hr:fj g k=false:=by simp[fj,h]
   rw[hr];have h':decide (((k/2^g.conds.length:Nat):Int)=0)=false:=decide_eq_false aa;simp only[af7,af8,af9]at h';simp(disch:=omega)[go_sem,aq.e,an,hw,ad,ai,h']
def DK(g:aq)(hg:GV g)(hn:g.conds.length<=3)(k:Nat)(hk:k<8):aE E true 35 [.agg g.e,cV k] (bV (fj g k)):=by
 obtain⟨c,h1,h2,_⟩:=hg.cW.cW;have hw:=adN g hn c h2.1 h1 k hk;have hc:=IS g hg;refine bc Tryz.ntmps35 Tryz.results35 λN=> ?_;simp only[aq.e]at hw hc;simp(disch:=omega)[go_sem,aq.e];refine ax.mk hc λM=>dI λhM=> ?_;refine ax.mk hw λM2=>aT λba=> ?_;exact ah
def iw(g:aq):List Nat:=(yy 8).filter (fj g)
def adO(g:aq)(hg:wj g)(hn:g.conds.length<=3):iw g≠[]:=by
 obtain⟨c,h1,h2,h3⟩:=hg.cW;have h:((yy 4).all λn=>(yy 256).all λc=> !((aM c).nodes.all λx=>decide (x.1<n))||decide ((aM c).root=0)||(yy 8).any λk=>decide (k/2^n=0)&&er (aM c) k)=true:=ak;have h4:=qG.1 (qG.1 h g.conds.length (by simp;omega)) c (by simpa using h2.1);have h5:((aM c).nodes.all λx=>decide (x.1<(g.conds.length:Int)))=true:=qG.2 λx hx=>decide_eq_true (h2.2 x hx);have h6:decide ((aM c).root=0)=false:=decide_eq_false (by rw[<-h1];exact h3);rw[h5,h6]at h4;simp only[Bool.not_true,Bool.false_or]at h4;obtain⟨k,k1,k2⟩:=List.any_eq_true.1 h4;have:k∈iw g:=List.mem_filter.2 ⟨k1,by rw[fj,h1];exact k2⟩;exactλhe=>by rw[he]at this;cases this
set_option maxHeartbeats 4000000 in
def Kj(g:aq)(hg:wj g)(hn:g.conds.length<=3)(x:Int)(hx:0<=x/\x<256):∃k,k∈iw g/\aE E true 16 [.agg g.e,uV x] (cV k):=by
 obtain⟨c,h1,h2,_⟩:=hg.cW;have aS:=adO g hg hn;have hlen:0<(iw g).length:=List.length_pos_iff.2 aS;obtain⟨k,hk⟩:∃k,(iw g)[(x%(iw g).length).toNat]? =some k:=⟨_,YT (by
  have:=aga x (b:=((iw g).length:Int)) aa;have:=agb x (b:=((iw g).length:Int)) aa;omega)⟩
 refine⟨k,ab8 hk, ?_⟩;have bd:(iw g).length<=8:=by have:=agc (fj g) (yy 8);simpa[iw]using this
 refine bc Tryz.ntmps16 Tryz.results16 λN=> ?_;obtain⟨ge,az⟩:∃ge,g.e=ge:=⟨_,rfl⟩;have aH:ge.all cZ=true:=by rw[<-az];rfl
 have aU:ge.length=9:=by rw[<-az];rfl
 rw[az];have ao:(∀d∈ge,cZ d=true)=True:=eq_true (by simpa using aH);have aW:ge.take 9=ge:=afH aa;simp(disch:=omega)[go_sem,ao]
 let F:Nat->List (List DV):=λk=>((yy k).filter (fj g)).map λk=>[cV k]
 obtain⟨I,hI⟩:∃I:Nat->DS->Prop,∀j d,I j d↔∃(k:Nat) (H:ae) (pv:DV),j+k=8/\N<H.next/\cw H (N+1) H.next 1 (F k) pv/\H.get N=some (.row ge true 0)/\d=⟨bw [(1,uV x),(2,.v (.pointer (some ⟨N,0,none⟩))),(5,pv),(6,.v (.int .u64 (k:Nat)))],26,[],H⟩:=⟨_,λ_ _=>RW⟩;refine bS I 8 ⟨_,aB.bb (l:=[(1,uV x),(2,.v (.pointer (some ⟨N,0,none⟩))),(5,cK),(6,.v (.int .u64 (0:Nat)))]) ah,(hI _ _).2 ⟨0,_,cK,rfl,ah,.nil _ _ _ _,ah,rfl⟩⟩ ?_
 . intro j ds aJ;obtain⟨k',H,pv,hj,hN,hgr,f1,rfl⟩:=(hI _ _).1 aJ;clear aJ;have aK:∀y∈F k',y.length=1:=λy hy=>by obtain⟨z,_,rfl⟩:=RC.1 hy;rfl
   by_cases aX:k'<8
   . have av:(k':Int)<8:=aa;have hh:=adM g hn c h2.1 h1 k' aX;rw[az]at hh;have aF:F (k'+1)=F k'++if fj g k' then [[cV k']]else []:=by
      simp only[F,List.range_succ,List.filter_append,afA];cases hb:fj g k'<;>simp[hb]
     simp(disch:=omega)[go_sem,av,f1,aU,aW];refine ax.mk hh λM hM=> ?_;cases hb:fj g k' with
     |true=>
      rw[hb]at aF;refine aL ?_;refine cw.app (st:=103) (xt:=103) (B:=N+1) (U:=H.next) (k:=1) (xs:=F k') (hgr.same (λq q1 q2=>by rw[ae.dN,if_neg (by rw[ae.iU];omega)];rfl) (KE _)) Gy BD aa (by simp(disch:=omega)[go_sem];omega) (new:=[cV k']) ah aC rfl rfl aK (by have:(F k').length<=k':=by{have:=agc (fj g) (yy k');simpa[F]using this};omega) λH' aN T _ q1 q2 q3 _=> ?_;simp(disch:=omega)[go_sem]at q2 q3;simp(disch:=omega)[go_sem,wrap_u64];refine⟨j-1,aa,_,aB.bb (l:=[(1,uV x),(2,.v (.pointer (some ⟨N,0,none⟩))),(5,aN),(6,.v (.int .u64 (k'+1:Nat)))]) ?_,(hI _ _).2 ⟨k'+1,_,aN,aa,aa,by rw[aF];exact q1, ?_,rfl⟩⟩
      . exact ah
      . rw[q3 N aa (hgr.ne (.inl aa))];simp(disch:=omega)[go_sem,f1]
     |false=>
      rw[hb]at aF;simp(disch:=omega)[go_sem,wrap_u64];refine⟨j-1,aa,_,aB.bb (l:=[(1,uV x),(2,.v (.pointer (some ⟨N,0,none⟩))),(5,pv),(6,.v (.int .u64 (k'+1:Nat)))]) ?_,(hI _ _).2 ⟨k'+1,_,pv,aa,by rw[ae.iU];omega,by rw[aF];simp;exact hgr.same (λj _ _=>rfl) (by rw[ae.iU];exact hM),by simp(disch:=omega)[go_sem,f1],rfl⟩⟩;exact ah
   . have av:¬(k':Int)<8:=aa;obtain rfl:k'=8:=aa;refine aL ?_;have aQ:F 8=(iw g).map λk=>[cV k]:=rfl;have ab:(F 8).length=(iw g).length:=by rw[aQ,afJ]
     have aY:=hgr.len 103 1 BD;rw[ab]at aY;have bf:0<=x%((iw g).length:Int):=agb _ aa;have bg:x%((iw g).length:Int)<(iw g).length:=aga _ aa;have aI:¬((iw g).length:Int)=0:=aa;rcases hgr with⟨h0,_⟩|⟨R,r1,r2,rfl,r4⟩
     . rw[h0]at ab;simp at ab;omega
     have aw:(F 8).flatten[(x%((iw g).length:Int)).toNat]? =some (cV k):=by
      have hq:(F 8)[(x%((iw g).length:Int)).toNat]? =some [cV k]:=by rw[aQ,afT,hk];rfl
      have:=sk (k:=1) _ 0 _ (cV k) aK hq rfl;simpa using this
     rw[ab]at*;generalize (F 8).flatten=cells at*;generalize (iw g).length=L at*;simp(disch:=omega)[go_sem,aG,dq,aI,r4,aw,-getElem?_pos]
inductive Mt(p:List bd)(s:List UInt8):Nat->Nat->Nat->Prop
 |rng {i a:Nat} {x:bd} {c:UInt8} (h1:p[i]? =some x) (h2:x.kind=1) (h3:s[a]? =some c) (h4:x.lo<=c.toNat) (h5:(c.toNat:Int)<=x.hi):Mt p s i a (a+1)
 |seq {i a b c:Nat} {x:bd} (h1:p[i]? =some x) (h2:x.kind=2) (h3:Mt p s x.a.toNat a b) (h4:Mt p s x.b.toNat b c):Mt p s i a c
 |aea {i a b:Nat} {x:bd} (h1:p[i]? =some x) (h2:x.kind=3) (h3:Mt p s x.a.toNat a b):Mt p s i a b
 |aeb {i a b:Nat} {x:bd} (h1:p[i]? =some x) (h2:x.kind=3) (h3:Mt p s x.b.toNat a b):Mt p s i a b
 |aec {i a:Nat} {x:bd} (h1:p[i]? =some x) (h2:x.kind=4):Mt p s i a a
 |KK {i a b c:Nat} {x:bd} (h1:p[i]? =some x) (h2:x.kind=4) (h3:Mt p s i a b) (h4:Mt p s x.a.toNat b c):Mt p s i a c
def Mt.ext{p:List bd}{s:List UInt8}{i a b c:Nat}{x y:bd}(hx:p[i]? =some x)(hk:x.kind=2)(hy:p[x.b.toNat]? =some y)(aa:y.kind=4)(h:Mt p s i a b)(h2:Mt p s y.a.toNat b c):Mt p s i a c:=by
 cases h with
 |seq h1 h3 h4 h5=>rw[hx]at h1;cases h1;exact .seq hx hk h4 (.KK hy aa h5 h2)
 |rng h1 h3=>rw[hx]at h1;cases h1;omega
 |aea h1 h3=>rw[hx]at h1;cases h1;omega
 |aeb h1 h3=>rw[hx]at h1;cases h1;omega
 |aec h1 h3=>rw[hx]at h1;cases h1;omega
 |KK h1 h3=>rw[hx]at h1;cases h1;omega
def cN.Ok.lt{m:cN}(hm:m.Ok):2^m.p.length<=256:=YN (n:=2) aC hm.len
end Go.Sp
end

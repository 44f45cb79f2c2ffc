/- SpacingIndependent: parts of its proof. -/
import Derived.Test.YtmhjnafgdhaemaaGreatDoorK47
open List renaming all_eq_true->qe,range->DE,mem_of_getElem?->W9,getElem?_eq_getElem->Zj,drop_eq_getElem_cons->abR,foldl_cons->ab8,drop_eq_nil_of_le->adT,map_append->adV,flatten_append->adW,flatten_cons->adX,replicate->adY
open Nat renaming le_of_ble_eq_true->xS,blt->Er,beq->GP,eq_of_beq_eq_true->PX,lt_of_lt_of_le->VK,pow_le_pow_right->W2,two_pow_pos->Xw,add_sub_cancel_left->ZJ,or_lt_two_pow->Z4,lt_of_le_of_lt->adr,and_le_left->adS
open Bool renaming or_eq_true->PO,and_eq_true->ZL
open BitVec renaming ofInt->Qc
open Iff renaming rfl->TF
open Option renaming bind_some->Zr,isSome->adU
set_option linter.all false
set_option maxRecDepth 100000
noncomputable section
open Go Go.au Go.Proofs
namespace Go.Sp
theorem abu(w:Nat)(h0:0<w)(h1:w<256):ay E true 155 [.v (.int .u64 (w:Nat))] (iV (mR w:Nat)):=by
 have:=abo (w-1) (by simp;omega);rwa[show w-1+1=w by omega]at this
theorem abv(w:Nat)(h1:w<256):mR w<8/\(0<w->w&&&(w-1)<w):=by
 have h:((DE 256).all λw=>Er (mR w) 8&&(GP w 0||Er (w&&&(w-1)) w))=true:=by kernel_rfl
 have h2:=qe.1 h w (by simpa using h1);simp only[ZL,PO]at h2;refine⟨xS h2.1,λh0=> ?_⟩;rcases h2.2 with h3|h3
 . have:=PX h3;omega
 . exact xS h3
theorem abw(w:Nat)(h0:0<w)(h1:w<256):IntKind.u64.wrap (((Qc IntKind.u64.bits (w:Int)&&&Qc IntKind.u64.bits (IntKind.u64.wrap ((w:Int)-1))).toNat:Nat):Int)=((w&&&(w-1):Nat):Int):=by
 rw[show((w:Int)-1)=((w-1:Nat):Int) by omega,wrap_u64 (x:=((w-1:Nat):Int)) (by omega) (by omega)];exact Cr w (w-1) h1 (by omega)
set_option maxHeartbeats 4000000 in
theorem Ix{K:ck}{dd:List FuncId}{h:ab}{w R:Nat}(hw:w<256)(f:FuncId)(aa:List DV)(Inv:Nat->ab->Prop)(hR:∀w' H,Inv w' H->∃z,H.get R=some (.row (pl w) true z))
 (ao:∀w' H (K':ck) aF,0<w'->w'<256->Inv w' H->(∀H' T,Inv (w'&&&(w'-1)) H'->K' (.bb []) aF H' T)->an E true K' aF H (f,iV (mR w':Nat)::aa))
 (aK:∀w' H M,H.next<=M->Inv w' H->Inv w' (H.up M)) (h0:Inv w h) (hk:∀H' T,Inv 0 H'->K (.bb []) dd H' T):
 an E true K dd h (114,[.v (.pointer (some ⟨R,0,none⟩)),.fn f [] aa]):=by
 refine gD Tryz.ntmps114 Tryz.results114 ?_;simp(disch:=omega)[go_sem];obtain⟨I,hI⟩:∃I:Nat->DS->Prop,∀j d,I j d↔∃(k:Nat) (H:ab),j+k=8/\Inv (if k=0 then w else 0) H/\
  d=⟨bz [(1,.fn f [] aa),(6,.v (.pointer (some ⟨R,0,none⟩))),(7,iV (k:Nat))],27,[],H⟩:=⟨_,λ_ _=>TF⟩
 refine bO I 8 ⟨_,ax.bg (l:=[(1,.fn f [] aa),(6,.v (.pointer (some ⟨R,0,none⟩))),(7,iV (0:Nat))]) ?_,(hI _ _).2 ⟨0,_,rfl,h0,rfl⟩⟩ ?_
 . simp(disch:=omega)[go_sem]
 . intro j ds av;obtain⟨k,H,hj,af,rfl⟩:=(hI _ _).1 av;clear av;by_cases aM:k=8
   . subst aM;simp(disch:=omega)[go_sem];intro T;exact hk _ T af
   . have aN:(k:Int)<8:=by omega
     obtain⟨z,f1⟩:=hR _ _ af;have aw:(pl w)[k]? =some (.v (.int .u64 ((if k=0 then w else 0:Nat):Nat))):=by
      have:k=0\/k=1\/k=2\/k=3\/k=4\/k=5\/k=6\/k=7:=by omega
      rcases this with rfl|rfl|rfl|rfl|rfl|rfl|rfl|rfl<;>rfl
     generalize hv:(if k=0 then w else 0)=v at af aw;have az:v<256:=by split at hv<;>omega
     have aP:v=0\/k=0:=by split at hv<;>omega
     clear hv;simp(disch:=omega)[go_sem,aN];refine bR [ae 0,ae 0,ae 2,aD 6,ae 1,ae 31] (by kernel_rfl) 0 rfl ?_;simp(disch:=omega)[go_sem,f1,dF,mS,aw];obtain⟨J,hJ⟩:∃J:Nat->DS->Prop,∀j d,J j d↔∃(H:ab),j<256/\(j=0\/k=0)/\Inv j H/\
      d=⟨bz [(1,.fn f [] aa),(4,iV (k:Nat)),(5,.v (.int .u64 (j:Nat))),(6,.v (.pointer (some ⟨R,0,none⟩))),(7,iV (k:Nat))],27,[],H⟩:=⟨_,λ_ _=>TF⟩
     refine bO J v ⟨_,ax.bg (l:=[(1,.fn f [] aa),(4,iV (k:Nat)),(5,.v (.int .u64 (v:Nat))),(6,.v (.pointer (some ⟨R,0,none⟩))),(7,iV (k:Nat))]) ?_,(hJ _ _).2 ⟨_,az,aP,af,rfl⟩⟩ ?_
     . simp(disch:=omega)[go_sem]
     . intro u ds av;obtain⟨H,hu,aT,af,rfl⟩:=(hJ _ _).1 av;clear av;by_cases aI:u=0
       . subst aI;simp(disch:=omega)[go_sem,aC];refine⟨j-1,by omega,_,ax.bg (l:=[(1,.fn f [] aa),(6,.v (.pointer (some ⟨R,0,none⟩))),(7,iV (k+1:Nat))]) ?_,(hI _ _).2 ⟨k+1,_,by omega,by rw[if_neg (by omega)];exact af,rfl⟩⟩;simp(disch:=omega)[go_sem]
       . have aQ:k=0:=by omega
         subst aQ;obtain⟨ht,ai⟩:=abv u hu;have ai:=ai (by omega);have aR:=abu u (by omega) hu;have h6:=abw u (by omega) hu;simp(disch:=omega)[go_sem]at h6;simp(disch:=omega)[go_sem,aI];refine an.mk aR λM hM=> ?_;simp(disch:=omega)[go_sem,aC];refine ao u _ _ _ (by omega) hu (aK _ _ _ hM af) λH' T aB=> ?_;simp(disch:=omega)[go_sem,h6];refine⟨u&&&(u-1),ai,_,ax.bg (l:=[(1,.fn f [] aa),(4,iV (0:Nat)),(5,.v (.int .u64 ((u&&&(u-1):Nat):Nat))),(6,.v (.pointer (some ⟨R,0,none⟩))),(7,iV (0:Nat))]) ?_,(hJ _ _).2 ⟨_,by omega,.inr rfl,aB,rfl⟩⟩;simp(disch:=omega)[go_sem]
def gH(m:bP)(b:Int)(i:Nat)(s:Nat×Nat):Nat×Nat:=match m.p[i]?,m.follow[i]? with
 |some x,some f=>if x.lo<=b/\b<=x.hi then(s.1|||2^i,s.2|||f)else s
 |_,_=>s
structure bP.Ok(m:bP):Prop where
 first:m.first<2^m.p.length
 last:m.last<2^m.p.length
 follow:∀f∈m.follow,f<2^m.p.length
 len:m.p.length<=8
 yB:m.follow.length=m.p.length
theorem yC:∀m∈cW,m.Ok:=by
 have h:(cW.all λm=>Er m.first (2^m.p.length)&&Er m.last (2^m.p.length)&&(m.follow.all λf=>Er f (2^m.p.length))&&Nat.ble m.p.length 8&&GP m.follow.length m.p.length)=true:=by kernel_rfl
 intro m hm;have:=qe.1 h m hm;simp only[ZL,qe]at this;obtain⟨⟨⟨⟨h1,h2⟩,h3⟩,h4⟩,h5⟩:=this;exact⟨xS h1,xS h2,λf hf=>xS (h3 f hf),xS h4,PX h5⟩
theorem bP.Ok.pow{m:bP}(hm:m.Ok){x:Nat}(h:x<2^m.p.length):x<256:=VK h (W2 (n:=2) (by decide) hm.len)
theorem bP.yD(m:bP):m.e=[.sl 5 (m.p.map aL.e),.v (.int .u64 m.first),.v (.int .u64 0),.v (.int .u64 0),.v (.int .u64 0),.v (.int .u64 0),.v (.int .u64 0),.v (.int .u64 0),.v (.int .u64 0),.v (.int .u64 m.last),.v (.int .u64 0),.v (.int .u64 0),.v (.int .u64 0),.v (.int .u64 0),.v (.int .u64 0),.v (.int .u64 0),.v (.int .u64 0),.sl 8 (m.follow.map pl),bV m.empty]:=rfl
theorem eK(c:Nat):(pl c).length=8:=rfl
theorem iL(c:Nat):(pl c).drop 8=[]:=rfl
theorem gS(c:Nat):(∀d∈pl c,cO d=true)=True:=eq_true λd hd=>by
 simp only[pl,List.mem_cons,List.not_mem_nil,or_false]at hd;rcases hd with rfl|rfl|rfl|rfl|rfl|rfl|rfl|rfl<;>rfl
theorem fZ(c:Nat):(pl c).take 8=pl c:=rfl
theorem Iy:E.P.underlying 9=some .string:=by kernel_rfl
theorem Cs(t:ByteArray)(n:Nat)(b:UInt8)(h:t[n]? =some b):mr E 9 (sV t) (iV (n:Nat))=some (.v (.int .u8 b.toNat)):=by
 have:=VJ (e:=E) Iy u9 t .i64 (n:Int) b (by omega) (by simpa using h);simp[mr,this]
set_option maxHeartbeats 4000000 in
theorem abx{K:ck}{dd:List FuncId}{h:ab}{m:bP}(hm:m.Ok){i n s x Bs Bn Bm Br Bx:Nat}{t:ByteArray}{b:UInt8}(hi:i<m.p.length)(hb:t[n]? =some b)(hs:s<256)(hx:x<256)
 (g1:h.get Bs=some (.row [sV t] true 0)) (g2:h.get Bn=some (.row [iV (n:Nat)] true 0)) (g3:h.get Bm=some (.row [.ptr m.e 0] true 0)) (g4:h.get Br=some (.row (pl s) true 0)) (g5:h.get Bx=some (.row (pl x) true 0))
 (ad:Br≠Bx/\Bs≠Br/\Bs≠Bx/\Bn≠Br/\Bn≠Bx/\Bm≠Br/\Bm≠Bx) (aU:Br<h.next/\Bx<h.next)
 (hk:∀h' T,h.next<=h'.next->h'.get Br=some (.row (pl (gH m b.toNat i (s,x)).1) true 0)->h'.get Bx=some (.row (pl (gH m b.toNat i (s,x)).2) true 0)->(∀j,j<h.next->j≠Br->j≠Bx->h'.get j=h.get j)->K (.bb []) dd h' T):
 an E true K dd h (119,[iV (i:Nat),.v (.pointer (some ⟨Bs,0,none⟩)),.v (.pointer (some ⟨Bn,0,none⟩)),.v (.pointer (some ⟨Bm,0,none⟩)),.v (.pointer (some ⟨Br,0,none⟩)),.v (.pointer (some ⟨Bx,0,none⟩))]):=by
 refine gD Tryz.ntmps119 Tryz.results119 ?_;obtain⟨p,hp⟩:∃p,m.p[i]? =some p:=⟨_,Zj hi⟩;obtain⟨f,hf⟩:∃f,m.follow[i]? =some f:=⟨_,Zj (by rw[hm.yB];exact hi)⟩;have aW:i<m.follow.length:=by rw[hm.yB];exact hi
 have hlen:=hm.len;rw[bP.yD]at g3;have aA:=Cs t n b hb;have aX:b.toNat<256:=b.toNat_lt;have aS:=hm.pow (hm.follow f (W9 hf));have aE:(m.follow.map pl)[i]? =some (pl f):=by rw[List.getElem?_map,hf];rfl
 by_cases c1:p.lo<=(b.toNat:Int)
 . by_cases c2:(b.toNat:Int)<=p.hi
   . have hv:gH m b.toNat i (s,x)=(s|||2^i,x|||f):=by simp only[gH,hp,hf];rw[if_pos ⟨c1,c2⟩]
     rw[hv]at hk;simp(disch:=omega)[go_sem,g1,g2,g3,hp,aA,-getElem?_pos,aL.e,aC,c1,c2];refine Iw hs (by omega) g4 λT=> ?_;simp(disch:=omega)[go_sem,g1,g2,g3,g4,g5,hp,aA,-getElem?_pos,aL.e,aC,c1,c2,ad.1,ad.2.1,ad.2.2.1,ad.2.2.2.1,ad.2.2.2.2.1,ad.2.2.2.2.2.1,aE,eK,fZ];refine sb (z:=0) hx aS (by simp(disch:=omega)[go_sem,g5,ad.1.symm]) (by simp(disch:=omega)[go_sem];omega) λh' T q1 q2 q3=> ?_;simp(disch:=omega)[go_sem]at q1 q3;simp(disch:=omega)[go_sem];intro T2;refine hk _ T2 (by omega) ?_ q2 λj j1 j2 j3=> ?_
     . rw[q3 Br (by omega) ad.1];simp
     . rw[q3 j (by omega) j3];simp[j2]
   . have hv:gH m b.toNat i (s,x)=(s,x):=by simp only[gH,hp,hf];rw[if_neg (λh=>c2 h.2)]
     rw[hv]at hk;simp(disch:=omega)[go_sem,g1,g2,g3,hp,aA,-getElem?_pos,aL.e,aC,c1,c2];intro T;exact hk _ T (Nat.le_refl _) g4 g5 λ_ _ _ _=>rfl
 . have hv:gH m b.toNat i (s,x)=(s,x):=by simp only[gH,hp,hf];rw[if_neg (λh=>c1 h.1)]
   rw[hv]at hk;simp(disch:=omega)[go_sem,g1,g2,g3,hp,aA,-getElem?_pos,aL.e,aC,c1];intro T;exact hk _ T (Nat.le_refl _) g4 g5 λ_ _ _ _=>rfl
theorem Iz{m:bP}(hm:m.Ok)(b:Int)(i:Nat)(hi:i<m.p.length)(s:Nat×Nat)(h1:s.1<2^m.p.length)(h2:s.2<2^m.p.length):(gH m b i s).1<2^m.p.length/\(gH m b i s).2<2^m.p.length:=by
 unfold gH
 split
 . rename_i x f hp hf
   split
   . exact⟨Z4 h1 (Nat.pow_lt_pow_right (by decide) hi),Z4 h2 (hm.follow f (W9 hf))⟩
   . exact⟨h1,h2⟩
 . exact⟨h1,h2⟩
def IA:Nat->Nat->List Nat
 |0,_=>[]
 |k+1,w=>if w=0 then []else mR w::IA k (w&&&(w-1))
def bits(w:Nat):List Nat:=IA 8 w
theorem IB:bits 0=[]:=rfl
theorem IC(w:Nat)(h0:0<w)(h1:w<256):bits w=mR w::bits (w&&&(w-1)):=by
 have h:((DE 256).all λw=>GP w 0||decide (bits w=mR w::bits (w&&&(w-1))))=true:=by kernel_rfl
 have h2:=qe.1 h w (by simpa using h1);simp only[PO,decide_eq_true_eq]at h2;rcases h2 with h2|h2
 . have:=PX h2;omega
 . exact h2
theorem ID(w n:Nat)(h0:0<w)(h1:w<2^n)(hn:n<=8):mR w<n:=by
 have h:((DE 9).all λn=>(DE 256).all λw=>GP w 0||Nat.ble (2^n) w||Er (mR w) n)=true:=by kernel_rfl
 have h3:w<256:=VK h1 (W2 (n:=2) (by decide) hn);have h2:=qe.1 (qe.1 h n (by simp;omega)) w (by simpa using h3);simp only[PO]at h2;rcases h2 with(h2|h2)|h2
 . have:=PX h2;omega
 . have:=xS h2;omega
 . exact xS h2
def eX(m:bP)(b:Int)(now:Nat):Nat×Nat:=(bits now).foldl (λs i=>gH m b i s) (0,0)
theorem peq(w:Nat)(hw:w<256):iY E .eql 133 (.tmp 21) (.tmp 22) (.agg (pl w)) (.agg (pl 0))=some (bV (decide (w=0))):=by
 have h:((DE 256).all λw=>match iY E .eql 133 (.tmp 21) (.tmp 22) (.agg (pl w)) (.agg (pl 0))with|some (.v (.bool b))=>b==decide (w=0)|_=>false)=true:=by kernel_rfl
 have h2:=qe.1 h w (by simpa using hw)
 split at h2
 . rename_i b hb;rw[hb,eq_of_beq h2]
 . cases h2
def runM{γ:Type}(m:bP)(cM:γ->Nat->Bool->γ):Nat->Nat->List UInt8->γ->γ
 |_,_,[],g=>g
 |now,n,b::r,g=>if(eX m b.toNat now).1=0 then g else runM m cM (eX m b.toNat now).2 (n+1) r (cM g (n+1) (decide ((eX m b.toNat now).1&&&m.last≠0)))
theorem IE{m:bP}(hm:m.Ok)(b:Int):∀(l:List Nat) (s:Nat×Nat),(∀i∈l,i<m.p.length)->s.1<2^m.p.length->s.2<2^m.p.length->(l.foldl (λs i=>gH m b i s) s).1<2^m.p.length/\(l.foldl (λs i=>gH m b i s) s).2<2^m.p.length
 |[],s,_,h1,h2=>⟨h1,h2⟩
 |i::l,s,h,h1,h2=>by
  obtain⟨h3,h4⟩:=Iz hm b i (h i (by simp)) s h1 h2;exact IE hm b l _ (λj hj=>h j (List.mem_cons_of_mem _ hj)) h3 h4
theorem IF(n:Nat)(hn:n<=8):∀w,w<2^n->∀i∈bits w,i<n:=by
 have h:((DE 9).all λn=>(DE 256).all λw=>Nat.ble (2^n) w||(bits w).all λi=>Er i n)=true:=by kernel_rfl
 intro w h1 i hi;have h3:w<256:=VK h1 (W2 (n:=2) (by decide) hn);have h2:=qe.1 (qe.1 h n (by simp;omega)) w (by simpa using h3);simp only[PO,qe]at h2;rcases h2 with h2|h2
 . have:=xS h2;omega
 . exact xS (h2 i hi)
theorem Ct{m:bP}(hm:m.Ok)(b:Int)(now:Nat)(h:now<2^m.p.length):(eX m b now).1<2^m.p.length/\(eX m b now).2<2^m.p.length:=
 IE hm b _ _ (IF _ hm.len _ h) (Xw _) (Xw _)
def Cu{γ:Type}(cb:FuncId)(af:List DV)(B N0:Nat)(h0:ab)(val:γ->DV)(cM:γ->Nat->Bool->γ):Prop:=
 ∀(K:ck) (dd:List FuncId) (H:ab) (n:Nat) (is:Bool) (g:γ),N0<=H.next->(∀i,i<N0->i≠B->H.get i=h0.get i)->H.get B=some (.row [val g] true 0)->
  (∀h' T,(∀i∈T,i<N0)->H.next<=h'.next->h'.get B=some (.row [val (cM g n is)] true 0)->(∀j,j≠B->j<H.next->h'.get j=H.get j)->K (bV true) dd h' T)->an E true K dd H (cb,iV (n:Nat)::bV is::af)
theorem gI(h:aa)(s:ByteArray):fk E h 9 (.string s)=some (.int .i64 s.size):=by simp[fk,u9]
theorem drop_cons{t:ByteArray}{k:Nat}(h:k<t.size):∃b,t[k]? =some b/\t.data.toList.drop k=b::t.data.toList.drop (k+1):=by
 refine⟨t[k],by rw[getElem?_pos], ?_⟩;have hl:k<t.data.toList.length:=by simpa using h
 rw[abR hl];rfl
set_option maxHeartbeats 8000000 in
theorem Cv{γ:Type}{K:ck}{dd:List FuncId}{h:ab}{m:bP}(hm:m.Ok)(t:ByteArray)(hlen:t.size<=1000000000)(cb:FuncId)(af:List DV)(B:Nat)(val:γ->DV)(cM:γ->Nat->Bool->γ)(g:γ)
 (hB:h.get B=some (.row [val g] true 0)) (aM:B<h.next) (aF:Cu cb af B h.next h val cM)
 (hk:∀h' T,h.next<=h'.next->h'.get B=some (.row [val (runM m cM m.first 0 t.data.toList g)] true 0)->(∀i,i<h.next->i≠B->h'.get i=h.get i)->K (.bb []) dd h' T):
 an E true K dd h (66,[.ptr m.e 0,sV t,.fn cb [] af]):=by
 refine gD Tryz.ntmps66 Tryz.results66 ?_;obtain⟨N,hN⟩:∃N,h.next=N:=⟨_,rfl⟩;obtain⟨G,hG⟩:∃G,runM m cM m.first 0 t.data.toList g=G:=⟨_,rfl⟩;obtain⟨me,aB⟩:∃me,m.e=me:=⟨_,rfl⟩;have ai:=bP.yD m;rw[aB]at ai;rw[hG]at hk;rw[hN]at aM aF hk;simp(disch:=omega)[go_sem,hN,aB];simp(disch:=omega)[go_sem,hN,ai,gI];obtain⟨I,hI⟩:∃I:Nat->DS->Prop,∀j d,I j d↔∃(k now:Nat) (g':γ) (H:ab),j+k=t.size/\now<2^m.p.length/\runM m cM now k (t.data.toList.drop k) g'=G/\N+2<H.next/\H.get N=some (.row [.ptr me 0] true 0)/\H.get (N+1)=some (.row [sV t] true 0)/\H.get (N+2)=some (.row (pl now) true 0)/\H.get B=some (.row [val g'] true 0)/\(∀i,i<N->i≠B->H.get i=h.get i)/\
  d=⟨bz [(2,.fn cb [] af),(3,.v (.pointer (some ⟨N,0,none⟩))),(4,.v (.pointer (some ⟨N+1,0,none⟩))),(6,.v (.pointer (some ⟨N+2,0,none⟩))),(15,iV (t.size:Nat)),(16,iV (k:Nat))],38,[],H⟩:=⟨_,λ_ _=>TF⟩
 refine bO I t.size ⟨_,ax.bg (l:=[(2,.fn cb [] af),(3,.v (.pointer (some ⟨N,0,none⟩))),(4,.v (.pointer (some ⟨N+1,0,none⟩))),(6,.v (.pointer (some ⟨N+2,0,none⟩))),(15,iV (t.size:Nat)),(16,iV (0:Nat))]) ?_,(hI _ _).2 ⟨0,m.first,g,_,rfl,hm.first,hG, ?_, ?_, ?_, ?_, ?_, ?_,rfl⟩⟩ ?_
 . simp(disch:=omega)[go_sem]
 . simp(disch:=omega)[go_sem,hN]
 . simp(disch:=omega)[go_sem,hN,ai]
 . simp(disch:=omega)[go_sem,hN]
 . simp(disch:=omega)[go_sem,hN,pl]
 . simp(disch:=omega)[go_sem,hN,hB]
 . intro i h1 h2;simp(disch:=omega)[go_sem,hN]
 . intro j ds aI;obtain⟨k,now,g',H,hj,ao,ad,hH,f1,f2,f3,f4,f5,rfl⟩:=(hI _ _).1 aI;clear aI;by_cases aP:k<t.size
   . have av:(k:Int)<t.size:=by omega
     obtain⟨b,aQ,aR⟩:=drop_cons aP;rw[aR]at ad;have aE:=Ct hm b.toNat now ao;simp only[runM]at ad;obtain⟨P,hP⟩:∃P,H.next=P:=⟨_,rfl⟩;rw[hP]at hH;simp(disch:=omega)[go_sem,av,hP];refine Ix (hm.pow ao) 119 _ (λw H'=>∃s x:Nat,w<2^m.p.length/\s<2^m.p.length/\x<2^m.p.length/\(bits w).foldl (λs i=>gH m b.toNat i s) (s,x)=eX m b.toNat now/\P+2<H'.next/\H'.get (P+1)=some (.row (pl s) true 0)/\H'.get (P+1+1)=some (.row (pl x) true 0)/\H'.get P=some (.row [iV (k:Nat)] true 0)/\∀i,i<P->H'.get i=H.get i) ?_ ?_ ?_ ?_ ?_
     . rintro w' H' ⟨s,x,h1,h2,h3,h4,h5,h6,h7,h8,h9⟩;exact⟨0,by rw[h9 _ hH,f3]⟩
     . rintro w' H' K' aT aK az ⟨s,x,h1,h2,h3,h4,h5,h6,h7,h8,h9⟩ aS;rw[IC w' aK az,ab8]at h4;have aL:=ID w' _ aK h1 hm.len;have hv:=Iz hm b.toNat _ aL (s,x) h2 h3;refine abx hm (s:=s) (x:=x) (n:=k) (t:=t) (b:=b) aL aQ (hm.pow h2) (hm.pow h3) (by rw[h9 _ (by omega),f2]) h8 (by rw[h9 _ (by omega),f1,aB]) h6 h7 ⟨by omega,by omega,by omega,by omega,by omega,by omega,by omega⟩ ⟨by omega,by omega⟩ λh' T q1 q2 q3 q4=>aS _ T ⟨_,_, ?_,hv.1,hv.2,h4,by omega,q2,q3, ?_,λi hi=> ?_⟩
       . exact adr adS h1
       . rw[q4 P (by omega) (by omega) (by omega),h8]
       . rw[q4 i (by omega) (by omega) (by omega),h9 i hi]
     . rintro w' H' M hM ⟨s,x,h1,h2,h3,h4,h5,h6,h7,h8,h9⟩;exact⟨s,x,h1,h2,h3,h4,by rw[ab.fH];omega,h6,h7,h8,h9⟩
     . refine⟨0,0,ao,Xw _,Xw _,rfl, ?_, ?_, ?_, ?_,λi hi=> ?_⟩
       all_goals simp(disch:=omega)[go_sem,hP,pl]
     . rintro H' T ⟨s,x,_,h2,h3,h4,h5,h6,h7,h8,h9⟩;rw[IB]at h4;have h4:(s,x)=eX m b.toNat now:=h4;rw[<-h4]at ad aE;simp only at ad aE;have heq:iY E .eql 133 (.tmp 21) (.tmp 22) (.agg (pl s)) (.agg [.v (.int .u64 0),.v (.int .u64 0),.v (.int .u64 0),.v (.int .u64 0),.v (.int .u64 0),.v (.int .u64 0),.v (.int .u64 0),.v (.int .u64 0)])=some (bV (decide (s=0))):=peq s (hm.pow h2);have e1:H'.get N=some (.row [.ptr me 0] true 0):=by rw[h9 _ (by omega),f1]
       have e2:H'.get (N+1)=some (.row [sV t] true 0):=by rw[h9 _ (by omega),f2]
       have e3:H'.get (N+2)=some (.row (pl now) true 0):=by rw[h9 _ (by omega),f3]
       have e4:H'.get B=some (.row [val g'] true 0):=by rw[h9 _ (by omega),f4]
       simp(disch:=omega)[go_sem];refine bR [aD 0,ae 0,ae 3,ae 7,ae 15,dc 15,ae 47,aD 15,ae 143,ae 399,aD 911,aN 1935,aN 4095,ae 8191,ae 16383] (by kernel_rfl) 0 rfl ?_;by_cases aA:s=0
       . rw[if_pos aA]at ad;subst ad;subst aA;simp(disch:=omega)[go_sem,h6,eK,fZ,heq];intro T2;exact hk _ T2 (by rw[ab.fH];omega) e4 λi hi aw=>(by rw[ab.sN,h9 i (by omega),f5 i hi aw])
       . rw[if_neg aA]at ad;simp(disch:=omega)[go_sem,h6,eK,fZ,heq,aA,h8,e1,ai,aC];refine⟨by omega, ?_⟩;refine abt (z:=0) (a:=s) (b:=m.last) (hm.pow h2) (hm.pow hm.last) h6 (by rw[ab.fH];omega) λM hM=> ?_;rw[ab.fH]at hM;simp(disch:=omega)[go_sem,h8,aC];rw[show((k:Int)+1)=((k+1:Nat):Int) by omega];refine aF _ _ _ (k+1) _ g' (by simp(disch:=omega)[go_sem];omega) (λi hi aw=>by simp(disch:=omega)[go_sem,h9,f5,hi,aw]) (by simp(disch:=omega)[go_sem,e4]) λh' T3 q0 q1 q2 q3=> ?_;simp(disch:=omega)[go_sem]at q1 q3;have e5:h'.get (P+1+1)=some (.row (pl x) true 0):=by rw[q3 _ (by omega) (by omega),h7]
         have e6:h'.get (N+2)=some (.row (pl now) true 0):=by rw[q3 _ (by omega) (by omega),e3]
         have e7:P∉T3:=λh=>by have:=q0 P h;omega
         simp(disch:=omega)[go_sem,e7,h8,e5,e6,eK,fZ,iL,gS,aC];refine⟨j-1,by omega,_,ax.bg (l:=[(2,.fn cb [] af),(3,.v (.pointer (some ⟨N,0,none⟩))),(4,.v (.pointer (some ⟨N+1,0,none⟩))),(6,.v (.pointer (some ⟨N+2,0,none⟩))),(15,iV (t.size:Nat)),(16,iV (k+1:Nat))]) ?_,(hI _ _).2 ⟨k+1,x,_,_,by omega,aE.2,ad, ?_, ?_, ?_, ?_, ?_,λi hi aw=> ?_,rfl⟩⟩
         . simp(disch:=omega)[go_sem]
         . simp(disch:=omega)[go_sem];omega
         . simp(disch:=omega)[go_sem];rw[q3 _ (by omega) (by omega),e1]
         . simp(disch:=omega)[go_sem];rw[q3 _ (by omega) (by omega),e2]
         . simp(disch:=omega)[go_sem,e6]
         . simp(disch:=omega)[go_sem,q2]
         . simp(disch:=omega)[go_sem];rw[q3 _ aw (by omega),h9 _ (by omega),f5 _ hi aw]
   . have av:¬(k:Int)<t.size:=by omega
     have hd:t.data.toList.drop k=[]:=adT (by simp;omega);rw[hd]at ad;have ad:g'=G:=ad;subst ad;simp(disch:=omega)[go_sem,av];intro T;exact hk _ T (by omega) f4 f5
theorem IG:bQ E.P (underlying 9)=some .string:=by
 simp only[underlying,mC];show bQ E.P (match E.P.underlying 9 with|some d=>pure d|none=>stuck "no such type" :Sem TypeDesc)=some .string;rw[Iy];rfl
theorem II(n c:Nat)(k:BoundsCode)(h:n<=c):bQ E.P (Instr.sliceBound (.int .i64 (n:Int)) c k)=some n:=by
 have h2:(n:Int)<=c:=by omega
 simp[Instr.sliceBound,mC,asIntOf,kl,h2,h]
theorem IJ{α β:Type}(f:α->β)(s:Sem α):bQ E.P (Functor.map f s)=(bQ E.P s).map f:=by
 rw[<-bind_pure_comp,mC];cases bQ E.P s<;>rfl
theorem aby(s:ByteArray):s.extract 0 s.size=s:=by
 have:(s.extract 0 s.size).data=s.data:=by rw[ByteArray.data_extract];exact Array.extract_size
 cases s;cases h:ByteArray.extract _ 0 _;simp_all
theorem abz{H0:ab}(s:ByteArray):dz E H0 9 (some (sV s)) (some (some (iV 0))) (some none) (some none)=some (sV s):=by
 have h1:=II 0 s.size .sliceB (Nat.zero_le _);have h2:bQ E.P (Instr.sliceAt 9 (.string s) (some (.int .i64 0)) none none)=some (.string s):=by
  simp only[Instr.sliceAt,mC,IG,Zr,Instr.slice,Instr.sliceBounds,adU,kl];simp[mC,kl]at h1⊢;rw[IJ,h1];simp[aby]
 simp[dz,xh,u9,pW,exact,jA,sg,plain,dP,eD,h2]
theorem IK{H0:ab}(s:ByteArray)(n:Nat)(h:n<=s.size):dz E H0 9 (some (sV s)) (some none) (some (some (iV (n:Nat)))) (some none)=some (sV (s.extract 0 n)):=by
 have h1:=II n s.size .sliceAlen h;have h2:bQ E.P (Instr.sliceAt 9 (.string s) none (some (.int .i64 n)) none)=some (.string (s.extract 0 n)):=by
  simp only[Instr.sliceAt,mC,IG,Zr,Instr.slice,Instr.sliceBounds,adU,kl];simp[mC,kl]at h1⊢;rw[IJ,h1];simp
 simp[dz,xh,u9,pW,exact,jA,sg,plain,dP,eD,h2]
theorem IL{aj:Bool}{f:FuncId}{fn:Func}{c:Code}{args:List DV}{K:ck}{dd:List FuncId}{h:ab}(S:List Nat)(hS:∀i∈S,i<h.next){n:Nat}(hn:fn.ntmps=n){rs:List ResultVar}(av:fn.results=rs.toArray)
 (hq:RD E aj c ⟨ie args,args.length+(n-args.length),[],eG h S⟩ (jd E rs λd h'=>∀_:List Nat,∀aa:ab,aa.next=h'.next->(∀i,(i∈S\/h.next<=i)->aa.get i=h'.get i)->(∀i,i<h.next->i∉S->aa.get i=h.get i)->K d dd aa S)) (aw:E.fn f=some fn:=by kernel_rfl) (hb:fn.body=some c:=by rfl):an E aj K dd h (f,args):=by
 refine cJ.frame S hS ?_;exact gD (K:=λv _ ai _=>∀aa:ab,aa.next=ai.next->(∀i,(i∈S\/h.next<=i)->aa.get i=ai.get i)->(∀i,i<h.next->i∉S->aa.get i=h.get i)->K v dd aa S) (dd:=dd) hn av hq aw hb
def jR:Nat->Nat->Bool->Nat:=λg n is=>if is then n else g
theorem abA(B N0:Nat)(ao:B<N0)(h0:ab):Cu 123 [.v (.pointer (some ⟨B,0,none⟩))] B N0 h0 (λg:Nat=>iV (g:Nat)) jR:=by
 intro K dd H n is g hN hold hB hk;refine IL [B] (by simp;omega) Tryz.ntmps123 Tryz.results123 ?_;simp only[eG,hB];have aE:B<H.next:=by omega
 cases is with
 |false=>
  simp(disch:=omega)[go_sem];intro aa q1 q2 az q3;exact hk aa [B] (by simpa using ao) (by omega) (by rw[q2];rfl) λj ad af=>q3 j af ad
 |true=>
  simp(disch:=omega)[go_sem];intro aa q1 q2 az q3;exact hk aa [B] (by simpa using ao) (by omega) (by rw[q2];rfl) λj ad af=>q3 j af ad
def nS(m:bP)(t:ByteArray):Nat:=runM m jR m.first 0 t.data.toList 0
theorem abB(m:bP)(hm:m.Ok)(hc:ay E true 64 [.sl 5 (m.p.map aL.e)] (iV 0))(aA:ay E true 65 [.sl 5 (m.p.map aL.e)] (.ptr m.e 0))(t:ByteArray)(ht:t.size<=1000000000):
 ay E true 70 [.sl 5 (m.p.map aL.e),sV t,iV 0] (.bb [iV (nS m t:Nat),bV (decide (0<nS m t))]):=by
 refine aW Tryz.ntmps70 Tryz.results70 λN=> ?_;obtain⟨me,aF⟩:∃me,m.e=me:=⟨_,rfl⟩;simp(disch:=omega)[go_sem];refine an.mk hc λM hM=> ?_;simp(disch:=omega)[go_sem]at hM;have aB:¬((t.size:Int)<0):=by omega
 simp(disch:=omega)[go_sem,gI,aB];refine bR [ae 0,aN 1,kj 0,kj 0,dc 12,ae 0,aN 63] (by kernel_rfl) 0 rfl ?_;simp(disch:=omega)[go_sem];refine an.mk aA λM2 aC=> ?_;simp(disch:=omega)[go_sem]at aC;simp(disch:=omega)[go_sem,abz];refine Cv hm t ht _ _ M (λg:Nat=>iV (g:Nat)) jR 0 (by simp(disch:=omega)[go_sem]) (by simp(disch:=omega)[go_sem];omega) (abA M _ (by simp(disch:=omega)[go_sem];omega) _) λh' T q1 q2 q3=> ?_;simp(disch:=omega)[go_sem]at q1 q2;obtain⟨n,hn⟩:∃n,nS m t=n:=⟨_,rfl⟩;have q2:h'.get M=some (.row [iV (n:Nat)] true 0):=by rw[<-hn];exact q2
 rw[hn];simp(disch:=omega)[go_sem];refine bR [aD 0,aD 0,ae 2,ae 1,ae 15] (by kernel_rfl) 0 rfl ?_;simp(disch:=omega)[go_sem,q2]
def kQ(t:ByteArray):Bool->Nat->Bool->Bool:=λ_ n is=>decide (n=t.size)&&is
theorem IM(S B N0:Nat)(aE:B<N0)(az:S<N0)(af:S≠B)(t:ByteArray)(h0:ab)(hS:h0.get S=some (.row [sV t] true 0)):Cu 67 [.v (.pointer (some ⟨S,0,none⟩)),.v (.pointer (some ⟨B,0,none⟩))] B N0 h0 (λg:Bool=>bV g) (kQ t):=by
 intro K dd H n is g hN hold hB hk;have ai:H.get S=some (.row [sV t] true 0):=by rw[hold S az af,hS]
 have aF:B<H.next:=by omega
 refine IL [B,S] (by simp;omega) Tryz.ntmps67 Tryz.results67 ?_;simp only[eG,hB,ai];have fin:∀(b:Bool) (aa:ab),b=kQ t g n is->aa.next=H.next->aa.get B=some (.row [bV b] true 0)->aa.get S=H.get S->(∀i,i<H.next->i≠B->i≠S->aa.get i=H.get i)->K (bV true) dd aa [B,S]:=λb aa hb q1 q2 q3 q4=>
  hk aa [B,S] (by simp;omega) (by omega) (by rw[q2,hb]) λj aA aB=>by
   by_cases av:j=S
   . rw[av,q3]
   . exact q4 j aB aA av
 by_cases hn:n=t.size
 . have ao:(n:Int)=t.size:=by omega
   cases is with
   |false=>
    simp(disch:=omega)[go_sem,gI,ao];intro aa q1 q2 q3;exact fin false aa (by simp[kQ]) q1 (by rw[q2 B (.inl (.inl rfl)),if_pos rfl]) (by rw[q2 S (.inl (.inr rfl)),if_neg af,if_pos rfl,ai]) q3
   |true=>
    simp(disch:=omega)[go_sem,gI,ao];intro aa q1 q2 q3;exact fin true aa (by simp[kQ,hn]) q1 (by rw[q2 B (.inl (.inl rfl)),if_pos rfl]) (by rw[q2 S (.inl (.inr rfl)),if_neg af,if_pos rfl,ai]) q3
 . have ao:¬(n:Int)=t.size:=by omega
   simp(disch:=omega)[go_sem,gI,ao];intro aa q1 q2 q3;exact fin false aa (by simp[kQ,hn]) q1 (by rw[q2 B (.inl (.inl rfl)),if_pos rfl]) (by rw[q2 S (.inl (.inr rfl)),if_neg af,if_pos rfl,ai]) q3
def jS(m:bP)(t:ByteArray):Bool:=runM m (kQ t) m.first 0 t.data.toList (decide (t=⟨#[]⟩)&&m.empty)
theorem abC(m:bP)(hm:m.Ok)(hc:ay E true 64 [.sl 5 (m.p.map aL.e)] (iV 0))(aC:ay E true 65 [.sl 5 (m.p.map aL.e)] (.ptr m.e 0))(t:ByteArray)(ht:t.size<=1000000000):
 ay E true 34 [.sl 5 (m.p.map aL.e),sV t] (bV (jS m t)):=by
 refine aW Tryz.ntmps34 Tryz.results34 λN=> ?_;obtain⟨r,hr⟩:∃r,jS m t=r:=⟨_,rfl⟩;have ae:∀g:Bool,g=(decide (t=⟨#[]⟩)&&m.empty)->runM m (kQ t) m.first 0 t.data.toList g=r:=λg hg=>by rw[hg];exact hr
 rw[hr];simp(disch:=omega)[go_sem];refine an.mk hc λM hM=> ?_;simp(disch:=omega)[go_sem]at hM;simp(disch:=omega)[go_sem];refine an.mk aC λM2 aD=> ?_;simp(disch:=omega)[go_sem]at aD;have ad:=bP.yD m;by_cases h0:t=⟨#[]⟩
 . subst h0;obtain⟨me,aw⟩:∃me,m.e=me:=⟨_,rfl⟩;rw[aw]at ad⊢;simp(disch:=omega)[go_sem,ad];rw[<-ad,<-aw];refine Cv hm ⟨#[]⟩ ht _ _ M2 (λg:Bool=>bV g) (kQ ⟨#[]⟩) m.empty (by simp(disch:=omega)[go_sem]) (by simp(disch:=omega)[go_sem]) (IM N M2 _ (by simp(disch:=omega)[go_sem]) (by simp(disch:=omega)[go_sem];try omega) (by omega) ⟨#[]⟩ _ (by simp(disch:=omega)[go_sem])) λh' T q1 q2 q3=> ?_;rw[ae m.empty (by simp)]at q2;simp(disch:=omega)[go_sem,q2]
 . simp(disch:=omega)[go_sem,h0];refine Cv hm t ht _ _ M2 (λg:Bool=>bV g) (kQ t) false (by simp(disch:=omega)[go_sem]) (by simp(disch:=omega)[go_sem]) (IM N M2 _ (by simp(disch:=omega)[go_sem]) (by simp(disch:=omega)[go_sem];try omega) (by omega) t _ (by simp(disch:=omega)[go_sem])) λh' T q1 q2 q3=> ?_;rw[ae false (by simp[h0])]at q2;simp(disch:=omega)[go_sem,q2]
theorem IN{st el s b:Nat}{z:Value}(hu:E.under st=some (.slice el))(hs:E.size el=some s)(hz:E.zero el=some z)(hb:E.bytes el=some b)(aE:z.cells.toList.length=s)(aF:0<s)(aI:b<=1000){t:Tr DV}{l c:Operand}{n:Nat}(h1:aB E t l=some (iV (n:Nat)))(h2:aB E t c=some (iV (n:Nat)))(hn:n<=1000000){K:bx×(Nat->DV)->Prop}
 (hk:K (.row ((eN z.cells.toList (n*s)).map .v) true 0,λi=>.v (.slice (some ⟨i,0,none⟩) n n))):aG (dH E t (.makeSlice st l c)) K:=by
 refine⟨_, ?_,hk⟩;have aQ:b*n<=1000*1000000:=Nat.mul_le_mul aI hn;simp only[dH,hu,h1,h2,Zr,exact,hs,hz,hb];rw[if_pos ⟨by omega,by omega,by omega,by simp only[Int.toNat_natCast];omega,aE,aF⟩];simp
theorem abD:E.under 134=some (.slice 133):=by kernel_rfl
theorem abE:E.size 133=some 8:=by kernel_rfl
theorem abF:E.bytes 133=some 64:=by kernel_rfl
abbrev aM(i:Nat):DV:=.v (.pointer (some ⟨i,0,none⟩))
theorem abG(X Y:List DV)(c k:Nat)(hk:k<8):(X++(pl c++Y))[X.length+k]? =(pl c)[k]? :=by
 rw[List.getElem?_append_right (by omega),ZJ,List.getElem?_append_left (by rw[eK];exact hk)]
theorem abH(X Y:List DV)(c c' k:Nat)(v:DV)(hk:k<8)(h:(pl c).take k++v::(pl c).drop (k+1)=pl c'):(X++(pl c++Y)).take (X.length+k)++v::(X++(pl c++Y)).drop (X.length+k+1)=X++(pl c'++Y):=by
 have e1:(X++(pl c++Y)).take (X.length+k)=X++(pl c).take k:=by
  rw[List.take_append,List.take_of_length_le (by omega),ZJ,List.take_append_of_le_length (by rw[eK];omega)]
 have e2:(X++(pl c++Y)).drop (X.length+k+1)=(pl c).drop (k+1)++Y:=by
  rw[Nat.add_assoc,List.drop_append,adT (by omega),List.nil_append,ZJ,List.drop_append_of_le_length (by rw[eK];omega)]
 rw[e1,e2,<-h];simp
set_option maxHeartbeats 4000000 in
theorem abI{aj:Bool}{K:ck}{dd:List FuncId}{h:ab}{R a b z o:Nat}{X Y:List DV}(ha:a<256)(hb:b<256)(hX:X.length=o)(hR:h.get R=some (.row (X++(pl a++Y)) true z))(aK:R<h.next)
 (hk:∀h' T,h'.next=h.next+1->h'.get R=some (.row (X++(pl (a|||b)++Y)) true z)->(∀i,i<h.next->i≠R->h'.get i=h.get i)->K (.bb []) dd h' T):
 an E aj K dd h (116,[.v (.pointer (some ⟨R,o,none⟩)),.agg (pl b)]):=by
 subst hX;refine gD Tryz.ntmps116 Tryz.results116 ?_;have h4:=sa a b ha hb;have h5:=sa 0 0 (by decide) (by decide);simp(disch:=omega)[go_sem]at h4 h5;obtain⟨N,hN⟩:∃N,h.next=N:=⟨_,rfl⟩;rw[hN]at aK hk;simp(disch:=omega)[go_sem,hN,gS];obtain⟨I,hI⟩:∃I:Nat->DS->Prop,∀j d,I j d↔∃(k:Nat) (H:ab),j+k=8/\H.next=N+1/\H.get R=some (.row (X++(pl (if k=0 then a else a|||b)++Y)) true z)/\H.get N=some (.row (pl b) true 0)/\(∀i,i<N->i≠R->H.get i=h.get i)/\
  d=⟨bz [(0,.v (.pointer (some ⟨R,X.length,none⟩))),(3,.v (.pointer (some ⟨N,0,none⟩))),(5,iV (k:Nat))],20,[],H⟩:=⟨_,λ_ _=>TF⟩
 refine bO I 8 ⟨_,ax.bg (l:=[(0,.v (.pointer (some ⟨R,X.length,none⟩))),(3,.v (.pointer (some ⟨N,0,none⟩))),(5,iV (0:Nat))]) ?_,(hI _ _).2 ⟨0,_,rfl, ?_, ?_, ?_, ?_,rfl⟩⟩ ?_
 . simp(disch:=omega)[go_sem]
 . simp(disch:=omega)[go_sem,hN]
 . simp(disch:=omega)[go_sem,hN,hR]
 . simp(disch:=omega)[go_sem,hN]
 . intro i h1 h2;simp(disch:=omega)[go_sem,hN]
 . intro j ds ao;obtain⟨k,H,hj,hH,f1,f2,f3,rfl⟩:=(hI _ _).1 ao;clear ao;by_cases aL:k=8
   . subst aL;simp(disch:=omega)[go_sem];intro T;exact hk _ T (by omega) f1 f3
   . have aP:(k:Int)<8:=by omega
     have av:k<8:=by omega
     have hc:k=0\/k=1\/k=2\/k=3\/k=4\/k=5\/k=6\/k=7:=by omega
     obtain⟨u,w,hu,hw,r,aw,ad⟩:∃u w:Int,(pl (if k=0 then a else a|||b))[k]? =some (.v (.int .u64 u))/\(pl b)[k]? =some (.v (.int .u64 w))/\∃r:Int,IntKind.u64.wrap ↑((Qc IntKind.u64.bits u|||Qc IntKind.u64.bits w).toNat:Nat)=r/\(pl (if k=0 then a else a|||b)).take k++.v (.int .u64 r)::(pl (if k=0 then a else a|||b)).drop (k+1)=pl (a|||b):=by
      rcases hc with rfl|rfl|rfl|rfl|rfl|rfl|rfl|rfl
      . exact⟨a,b,rfl,rfl,_,sa a b ha hb,rfl⟩
      all_goals exact⟨0,0,rfl,rfl,0,sa 0 0 (by decide) (by decide),rfl⟩
     generalize (if k=0 then a else a|||b)=c at f1 hu ad;have az:=(abG X Y c k av).trans hu;have ai:=abH X Y c (a|||b) k _ av ad;have aA:X.length+k<(X++(pl c++Y)).length:=by simp only[List.length_append,eK];omega
     generalize X++(pl c++Y)=row at f1 az ai aA;obtain⟨af,aa⟩:∃af,X++(pl (a|||b)++Y)=af:=⟨_,rfl⟩;rw[aa]at ai;simp(disch:=omega)[go_sem]at aw;simp(disch:=omega)[go_sem,aP];refine bR [ae 0,ae 0,ae 1,ae 7,aD 15,ae 0,ae 32,aD 96,ae 255,ae 1,ae 1023,aN 2047] (by kernel_rfl) 0 rfl ?_;simp(disch:=omega)[go_sem,f1,f2,dF,mS,aC,az,hw,aw,ai,eK,show X.length+k+1<=row.length from aA,-getElem?_pos];refine⟨j-1,by omega,_,ax.bg (l:=[(0,.v (.pointer (some ⟨R,X.length,none⟩))),(3,.v (.pointer (some ⟨N,0,none⟩))),(5,iV (k+1:Nat))]) ?_,(hI _ _).2 ⟨k+1,_,by omega, ?_, ?_, ?_, ?_,rfl⟩⟩
     . simp(disch:=omega)[go_sem]
     . simp(disch:=omega)[go_sem,hH]
     . rw[if_neg (by omega),aa];simp(disch:=omega)[go_sem]
     . simp(disch:=omega)[go_sem,f2]
     . intro i h1 h2;simp(disch:=omega)[go_sem,f3,h1,h2]
def gb(F:List Nat):List DV:=(F.map pl).flatten
theorem abJ{F:List Nat}{i a:Nat}(h:F[i]? =some a):gb F=gb (F.take i)++(pl a++gb (F.drop (i+1)))/\(gb (F.take i)).length=i*8/\∀b,gb (F.set i b)=gb (F.take i)++(pl b++gb (F.drop (i+1))):=by
 obtain⟨hi,he⟩:=List.getElem?_eq_some_iff.1 h;refine⟨?_, ?_,λb=> ?_⟩
 . have e:F=F.take i++(a::F.drop (i+1)):=by rw[<-he,<-abR hi,List.take_append_drop]
   have e2:=congrArg gb e;rw[e2];simp only[gb,adV,List.map_cons,adW,adX]
 . have:=eW (k:=8) (xs:=(F.take i).map pl) (λx hx=>by obtain⟨y,_,rfl⟩:=List.mem_map.1 hx;rfl);rw[gb,this,List.length_map,List.length_take];omega
 . rw[List.set_eq_take_append_cons_drop,if_pos hi];simp only[gb,adV,List.map_cons,adW,adX]
def l7(g:Nat)(F:List Nat)(i:Nat):List Nat:=match F[i]? with
 |some a=>F.set i (a|||g)
 |none=>F
def pg(l g:Nat)(F:List Nat):List Nat:=(bits l).foldl (l7 g) F
set_option maxHeartbeats 4000000 in
theorem abK{K:ck}{dd:List FuncId}{h:ab}{M R G g i n z:Nat}{F:List Nat}{cs:List DV}(hi:i<F.length)(hn:F.length=n)(hF:∀a∈F,a<256)(hg:g<256)(hM:h.get M=some (.row cs true 0))(ad:cs[17]? =some (.v (.slice (some ⟨R,0,none⟩) n n)))
 (hR:h.get R=some (.row (gb F) true z)) (hG:h.get G=some (.row (pl g) true 0)) (af:R<h.next)
 (hk:∀h' T,h.next<=h'.next->h'.get R=some (.row (gb (l7 g F i)) true z)->(∀j,j<h.next->j≠R->h'.get j=h.get j)->K (.bb []) dd h' T):
 an E true K dd h (115,[iV (i:Nat),.ptr [aM M] 0,aM G]):=by
 obtain⟨a,ha⟩:∃a,F[i]? =some a:=⟨_,Zj hi⟩;obtain⟨e1,e2,e3⟩:=abJ ha;have hl:l7 g F i=F.set i (a|||g):=by simp only[l7,ha]
 rw[hl,e3]at hk;rw[e1]at hR;have aw:=hF a (W9 ha);refine gD Tryz.ntmps115 Tryz.results115 ?_;simp(disch:=omega)[go_sem];refine bR [aD 0,ae 1,ae 3,aD 7,ae 0,ae 31,aD 0,aN 127] (by kernel_rfl) 0 rfl ?_;simp(disch:=omega)[go_sem,hM,hG,mS,ad,eK,fZ,-getElem?_pos];refine abI aw hg e2 hR af λh' T q1 q2 q3=> ?_;simp(disch:=omega)[go_sem];intro T2;exact hk _ T2 (by omega) q2 q3
theorem abL{n g:Nat}{F:List Nat}(hn:F.length=n)(hF:∀a∈F,a<256)(hg:g<256)(i:Nat):(l7 g F i).length=n/\∀a∈l7 g F i,a<256:=by
 unfold l7
 split
 . rename_i a ha;refine⟨by rw[List.length_set,hn],λb hb=> ?_⟩;rcases List.mem_or_eq_of_mem_set hb with h|h
   . exact hF b h
   . rw[h];exact abq (hF a (W9 ha)) hg
 . exact⟨hn,hF⟩
set_option maxHeartbeats 4000000 in
theorem IP{K:ck}{dd:List FuncId}{h:ab}{M R l g n z:Nat}{F:List Nat}{cs:List DV}(hn:F.length=n)(ai:n<=8)(hF:∀a∈F,a<256)(hl:l<2^n)(hg:g<256)(hM:h.get M=some (.row cs true 0))(ad:cs[17]? =some (.v (.slice (some ⟨R,0,none⟩) n n)))
 (hR:h.get R=some (.row (gb F) true z)) (af:R<h.next) (ao:M<h.next) (az:M≠R)
 (hk:∀h' T,h.next<=h'.next->h'.get R=some (.row (gb (pg l g F)) true z)->(∀j,j<h.next->j≠R->h'.get j=h.get j)->K (.bb []) dd h' T):
 an E true K dd h (113,[.agg (pl l),.agg (pl g),.ptr [aM M] 0]):=by
 refine gD Tryz.ntmps113 Tryz.results113 ?_;obtain⟨N,hN⟩:∃N,h.next=N:=⟨_,rfl⟩;rw[hN]at af ao hk;simp(disch:=omega)[go_sem,hN,gS];refine Ix (w:=l) (VK hl (W2 (n:=2) (by decide) ai)) 115 _ (λw H=>∃F',w<2^n/\F'.length=n/\(∀a∈F',a<256)/\(bits w).foldl (l7 g) F'=pg l g F/\N+1<H.next/\H.get N=some (.row (pl l) true 0)/\H.get (N+1)=some (.row (pl g) true 0)/\H.get R=some (.row (gb F') true z)/\∀j,j<N->j≠R->H.get j=h.get j) ?_ ?_ ?_ ?_ ?_
 . rintro w' H ⟨F',h1,h2,h3,h4,h5,h6,h7,h8,h9⟩;exact⟨0,h6⟩
 . rintro w' H K' aB av aa ⟨F',h1,h2,h3,h4,h5,h6,h7,h8,h9⟩ aA;rw[IC w' av aa,ab8]at h4;have aC:=ID w' n av h1 ai;obtain⟨k1,k2⟩:=abL h2 h3 hg (mR w');refine abK (by omega) h2 h3 hg (by rw[h9 M ao az,hM]) ad h8 h7 (by omega) λh' T q1 q2 q3=>aA _ T ⟨_,adr adS h1,k1,k2,h4,by omega, ?_, ?_,q2,λj j1 j2=> ?_⟩
   . rw[q3 N (by omega) (by omega),h6]
   . rw[q3 (N+1) (by omega) (by omega),h7]
   . rw[q3 j (by omega) j2,h9 j j1 j2]
 . rintro w' H P hP ⟨F',h1,h2,h3,h4,h5,h6⟩;exact⟨F',h1,h2,h3,h4,by rw[ab.fH];omega,h6⟩
 . refine⟨F,hl,hn,hF,rfl, ?_, ?_, ?_, ?_,λj j1 j2=> ?_⟩
   all_goals simp(disch:=omega)[go_sem,hN,hR]
 . rintro H' T ⟨F',h1,h2,h3,h4,h5,h6,h7,h8,h9⟩;rw[IB]at h4;have h4:F'=pg l g F:=h4;subst h4;simp(disch:=omega)[go_sem];intro T2;exact hk _ T2 (by omega) h8 h9
def bS(p:List aL):Nat->Nat->List Nat->(Nat×Nat×Bool)×List Nat
 |0,_,F=>((0,0,true),F)
 |n+1,i,F=>match p[i]? with
  |none=>((0,0,true),F)
  |some x=>
   if x.kind=1 then((2^i,2^i,false),F)
   else if x.kind=2 then
    let r:=bS p n x.a.toNat F
    let s:=bS p n x.b.toNat r.2
    ((if r.1.2.2 then r.1.1|||s.1.1 else r.1.1,if s.1.2.2 then s.1.2.1|||r.1.2.1 else s.1.2.1,r.1.2.2&&s.1.2.2),pg r.1.2.1 s.1.1 s.2)
   else if x.kind=3 then
    let r:=bS p n x.a.toNat F
    let s:=bS p n x.b.toNat r.2
    ((r.1.1|||s.1.1,r.1.2.1|||s.1.2.1,r.1.2.2||s.1.2.2),s.2)
   else if x.kind=4 then
    let r:=bS p n x.a.toNat F
    ((r.1.1,r.1.2.1,true),pg r.1.2.1 r.1.1 r.2)
   else((0,0,true),F)
theorem abM:∀m∈cW,bS m.p 9 (m.p.length-1) (adY m.p.length 0)=((m.first,m.last,m.empty),m.follow):=by
 have h:(cW.all λm=>decide (bS m.p 9 (m.p.length-1) (adY m.p.length 0)=((m.first,m.last,m.empty),m.follow)))=true:=by kernel_rfl
 exactλm hm=>of_decide_eq_true (qe.1 h m hm)
end Go.Sp
end

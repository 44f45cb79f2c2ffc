/- Parts of a proof. -/
import Derived.Test.YtniliiapkfpajaaGreatDoorK17
open List renaming all_eq_true->oY,mem_singleton->Ey,range->Fj,mem_map->HT,mem_append->Rb,getElem?_eq_getElem->Rm,mem_of_getElem?->UR,mem_cons->WZ,getElem?_eq_some_iff->afc,filter_cons_of_pos->afd,map_cons->afe,mem_cons_of_mem->aff,length_take->afg,length_map->afi,map_append->afj,filter_cons_of_neg->afk,length_cons->afm,not_mem_nil->afn,getElem?_modify->afp,any_eq_true->afq,mem_of_mem_take->afr,take_of_length_le->afs,length_append->afv,getElem?_of_mem->afw,map_nil->afx,drop_drop->afy,length_drop->afA,length_singleton->afB,getElem?_map->afC,nodup_append->afD,isEmpty_iff->afE
open Bool renaming and_eq_true->yx,not_eq_true'->adr,or_eq_true->afl
open Iff renaming rfl->Q0
open Nat renaming le_refl->Xt,beq->afh,le_of_ble_eq_true->afo,lt_of_le_of_lt->aft,and_le_left->afu,eq_zero_or_pos->afz
open Int renaming emod_lt_of_pos->Yt,emod_nonneg->YN
set_option linter.all false
set_option maxRecDepth 100000
noncomputable section
open Go Go.aD Go.Proofs
namespace Go.Sp
def abP(syms:List Sym):∀(k:Nat) (s:Sym),syms[k]? =some s->((syms.map Sym.e).flatten.drop (k*2)).take 2=s.e:=by
 induction syms with
 |nil=>intro k s h;simp at h
 |cons x r ih=>
  intro k s h;cases k with
  |zero=>simp at h;subst h;simp[Sym.e]
  |succ k=>
   have:=ih k s (by simpa using h);rw[afe,List.flatten_cons,show(k+1)*2=(Sym.e x).length+k*2 by simp[Sym.e];omega,<-afy,List.drop_left];exact this
def abQ(syms:List Sym)(k:Nat)(s:Sym)(h:syms[k]? =some s):fg (some (some 2)) (syms.map Sym.e).flatten (k*2)=some (.agg [bV s.tok,iV s.idx]):=by
 have hl:(syms.map Sym.e).flatten.length=syms.length*2:=by rw[fi (k:=2) (λx hx=>by obtain⟨y,_,rfl⟩:=HT.1 hx;rfl),afi]
 have hk:=(afc.1 h).1;simp only[fg];rw[if_pos aa];exact congrArg (λx=>some (DV.agg x)) (abP syms k s h)
set_option maxHeartbeats 2000000 in
def abR{K:b9}{dd:List FuncId}{h:ah}{r:Nat}{es:List bG}{clock:Nat}{l:List (Int×Nat)}{syms:List Sym}{c:Nat}(hm:h.get r=some (.map es clock))(hr:r<h.next){R ak:Nat}{wr:Bool}(hR:h.get R=some (.row (syms.map Sym.e).flatten wr ak))(aH:R<h.next)(aJ:R≠r)(hl:jb es l)(aK:∀k c,bq l k=some c->c<256)(hc:c<256)(hs:syms.length<=1000)
 (hk:∀N,h.next<=N->K (.agg (aO (fS l c syms)).e) dd (h.up N) [r,R]):au E true K dd h (133,[.agg (aO c).e,.v (.slice (some ⟨R,0,none⟩) syms.length syms.length),.v (.map (some r))]):=by
 refine uE [r,R] Tryz.ntmps133 Tryz.results133 ?_;have aP:=aJ.symm;simp only[eS,hm,hR];obtain⟨N,hN⟩:∃N,h.next=N:=⟨_,rfl⟩;rw[hN]at hr aH hk⊢;simp(disch:=omega)[go_sem,Dg.e];obtain⟨I,hI⟩:∃I:Nat->DS->Prop,∀j d,I j d↔∃(k P:Nat),j+k=syms.length/\N+1<P/\d=⟨bw [(2,.v (.map (some r))),(3,.v (.pointer (some ⟨N,0,none⟩))),(6,.v (.pointer (some ⟨N+1,0,none⟩))),(9,.v (.slice (some ⟨R,0,none⟩) syms.length syms.length)),(10,iV syms.length),(11,iV k)],34,[],cA P [(r,.map es clock),(R,.row (syms.map Sym.e).flatten wr ak),(N,.row (aO (fS l c (syms.take k))).e true 0),(N+1,.row [.v (.slice none 0 0),.v (.int .i64 0)] true 0)]⟩:=⟨_,λ_ _=>Q0⟩;refine bM I syms.length ⟨_,aB.mk (N:=N+2) ai ai ?_,(hI _ _).2 ⟨0,N+2,rfl,aa,rfl⟩⟩ ?_
 . simp(disch:=omega)[go_sem,Dg.e,fS]
 . intro j ds az;obtain⟨k,P,hj,hP,rfl⟩:=(hI _ _).1 az;clear az;by_cases aL:k<syms.length
   . have aj:(k:Int)<syms.length:=aa;obtain⟨s,hx⟩:∃s,syms[k]? =some s:=⟨_,Rm aL⟩;have aw:=abQ syms k s hx;have ad:fS l c (syms.take (k+1))=if s.tok=true\/fS l c (syms.take k)=0 then fS l c (syms.take k)else fS l c (syms.take k)&&&cQ l s.idx:=by
      unfold fS;rw[List.take_add_one,hx,Option.toList_some,List.foldl_append,List.foldl_cons,List.foldl_nil]
     have aA:=yV l (syms.take k) c hc;generalize aS:fS l c (syms.take k)=cc at*;have aE:=yU aA;by_cases ab:s.tok=true\/cc=0
     . rw[if_pos ab]at ad;have av:∀(st:DS),aB st ⟨bw [(2,.v (.map (some r))),(3,.v (.pointer (some ⟨N,0,none⟩))),(6,.v (.pointer (some ⟨N+1,0,none⟩))),(9,.v (.slice (some ⟨R,0,none⟩) syms.length syms.length)),(10,iV syms.length),(11,iV (k+1:Nat))],34,[],cA (P+1) [(r,.map es clock),(R,.row (syms.map Sym.e).flatten wr ak),(N,.row (aO cc).e true 0),(N+1,.row [.v (.slice none 0 0),.v (.int .i64 0)] true 0)]⟩->∃j',j'<j/\∃d',aB st d'/\I j' d':=λst hw=>
        ⟨j-1,aa,_,hw,(hI _ _).2 ⟨k+1,P+1,aa,aa,by rw[ad]⟩⟩
       cases ht:s.tok with
       |true=>
        simp(disch:=omega)[go_sem,aj,aw,hx,-getElem?_pos,Sym.e,ht,aG];refine av _ (aB.mk ai ?_ ?_)
        . simp(disch:=omega)[go_sem,Sym.e]
        . simp(disch:=omega)[go_sem,Dg.e]
       |false=>
        have hz:cc=0:=by simpa[ht]using ab
        have af:=aE.2 hz;simp(disch:=omega)[go_sem,aj,aw,hx,-getElem?_pos,Sym.e,ht,Dg.e,af,aG];refine av _ (aB.mk ai ?_ ?_)
        . simp(disch:=omega)[go_sem,Sym.e]
        . simp(disch:=omega)[go_sem,Dg.e,af]
     . rw[if_neg ab]at ad;have ht:s.tok=false:=by simpa using λh=>ab (.inl h)
       have hz:¬cc=0:=λh=>ab (.inr h);have af:¬(aO cc).root=0:=λh=>hz (aE.1 h);have aM:=uF aK s.idx;have hand:=wB cc (cQ l s.idx) aA aM;have ao:=qJ (ar:=true) (aO (cc&&&cQ l s.idx));simp only[Dg.e]at hand ao;simp(disch:=omega)[go_sem,aj,aw,hx,-getElem?_pos,Sym.e,ht,Dg.e,af];refine bH [dq 0,ae 0,ae 0,aC 4,aT 14,aT 31,ae 63,ae 63,aT 255,aT 511] an 0 rfl ?_;simp(disch:=omega)[go_sem,Sym.e,Dg.e];refine wC (es:=es) (clock:=clock) (l:=l) ai (by simp(disch:=omega)[go_sem];try omega) hl λM hM=> ?_;replace hM:=cr hM;simp(disch:=omega)[go_sem,Dg.e];refine⟨aa, ?_⟩;refine au.mk hand λM2=>cY λaV=> ?_;refine au.mk ao λM3=>aR λaW=> ?_;simp(disch:=omega)[go_sem,aG];refine⟨j-1,aa,_,aB.mk (N:=M3) ai ?_ ?_,(hI _ _).2 ⟨k+1,M3,aa,aa,rfl⟩⟩
       . simp(disch:=omega)[go_sem,Sym.e]
       . simp(disch:=omega)[go_sem,Dg.e,ad]
   . have aj:¬(k:Int)<syms.length:=aa;rw[afs aa];simp(disch:=omega)[go_sem,aj,Dg.e]at hk⊢;exact⟨⟨hm.symm,hR.symm⟩,hk _ aa⟩
abbrev zs(xs:List Int):List DV:=xs.map iV
def abS(xs:List Int):(zs xs).all cD=true:=by simp[cD,dF]
def abT(xs:List Int)(k:Nat)(y:Int)(h:xs[k]? =some y):fg (some none) (zs xs) (k*1)=some (iV y):=by
 simp[fg,h]
abbrev wF(p:Nat×List Int):DV:=.v (.slice (some ⟨p.1,0,none⟩) p.2.length p.2.length)
abbrev Dc(es:List bG)(l:List (Int×(Nat×List Int))):Prop:=fj sA wF es l
def wG(n N:Int)(l:List (Int×Nat))(q:List Int):Prop:=(∀k c,bq l k=some c->c<256/\n<k/\k<N)/\∀y∈q,∃c,bq l y=some c
def Hid(p:Prop):Prop:=p
def aB.bk{t:Tr DV}{n:Nat}{dd:List FuncId}{h:ah}{l:List (Nat×DV)}(ht:iQ t l):aB ⟨t,n,dd,h⟩ ⟨bw l,n,dd,h⟩:=aB.forget rfl (vS ht.mem) λ_ _ h=>h
def abU{h:ah}{R o b ak:Nat}{cs:List DV}{q:List Int}{y:Int}{K:DV×ah×List Nat->Prop}(hg:h.get R=some (.row cs true ak))(he:ak=0\/ak=1)(hc:cs.length=o+q.length)(hd:cs.drop o=zs q)(hb:(q.length+1)*(b+1)<=1073741824)(hR:R<h.next)
 (hk:∀h' T,h'.get h.next=some (.row (zs (q++[y])) true 1)->h'.next=h.next+1->(∀i,i≠R->i<h.next->h'.get i=h.get i)->(∀i∈T,i=R)->K (.v (.slice (some ⟨h.next,0,none⟩) (q.length+1) (q.length+1)),h',T)):aN (eA h (some ⟨R,o,none⟩) q.length q.length 1 b 1 [iV y]) K:=by
 have h1:o+q.length*1<=cs.length:=aa;have h2:¬(o+q.length<cs.length):=aa;have h3:(cs.drop o).take q.length++[iV y]=zs (q++[y]):=by
  rw[hd,afs aw,zs,zs,afj];rfl
 rcases he with rfl|rfl
 . refine⟨(.v (.slice (some ⟨h.next,0,none⟩) (q.length+1) (q.length+1)),h.new (.row (zs (q++[y])) true 1),[]), ?_,hk _ _ ?_ ?_ (λi hi hn=> ?_) (λi hi=>by cases hi)⟩
   . simp only[eA,hg,Nat.mul_one];rw[if_neg aa,if_pos aa,if_pos aa,if_pos aw,h3]
   . rw[ah.cW,if_pos rfl]
   . rw[ah.bb]
   . rw[ah.cW,if_neg aa]
 . refine⟨(.v (.slice (some ⟨h.next,0,none⟩) (q.length+1) (q.length+1)),(h.set R none).new (.row (zs (q++[y])) true 1),[R]), ?_,hk _ _ ?_ ?_ (λi hi hn=> ?_) (λi hi=>by simpa using hi)⟩
   . simp only[eA,hg,Nat.mul_one];rw[if_neg aa,if_pos aa,if_pos aa,if_neg aa,if_pos (by simp[cD,dF]),h3]
   . rw[ah.cW,ah.aW,if_pos rfl]
   . rw[ah.bb,ah.aW]
   . rw[ah.cW,ah.aW,if_neg aa,ah.bD,if_neg hi]
set_option maxHeartbeats 8000000 in
def I7{K:b9}{dd:List FuncId}{h:ah}{ST Bs NX Bn RM Br Q Bq:Nat}{aV aA es:List bG}{aE ab clk:Nat}{lS:List ((Int×Int)×Nat)}{lN:List (Int×(Nat×List Int))}{l:List (Int×Nat)}{q:List Int}{o ak:Nat}{cs:List DV}{n:Int}{N:Nat}{n0:Int}{c0 B:Nat}{R:Nat}{xs:List Int}
 (o1:ST<Bs) (o2:Bs<NX) (o3:NX<Bn) (o4:Bn<R) (o5:R<RM) (o6:RM<Br) (o7:Br<Q) (o8:Br<Bq) (o9:Q≠Bq) (bS:Q<h.next) (bT:Bq<h.next)
 (g1:h.get ST=some (.map aV aE)) (g2:h.get Bs=some (.row [.v (.map (some ST))] true 0)) (g3:h.get NX=some (.map aA ab)) (g4:h.get Bn=some (.row [.v (.map (some NX))] true 0)) (g5:h.get RM=some (.map es clk)) (g6:h.get Br=some (.row [.v (.map (some RM))] true 0))
 (g7:h.get Q=some (.row cs true ak)) (g8:h.get Bq=some (.row [.v (.slice (some ⟨Q,o,none⟩) q.length q.length)] true 0)) (g9:h.get R=some (.row (zs xs) true 1))
 (hS:yY aV lS) (bW:jD lS) (hN:Dc aA lN) (hl:jb es l) (bl:ak=0\/ak=1) (bX:cs.length=o+q.length) (bY:cs.drop o=zs q)
 (hn:0<=n) (b8:n<=n0) (hx:bq lN n0=some (R,xs)) (bZ:∀y∈xs,n0<y/\y<N/\∃c,bq lS (n0,y)=some c) (ca:xs.length<=100000) (hv:wG n N l q) (bB:c0<256) (hB:2*mu N l+q.length=B) (cb:B<=10000000)
 (hk:∀h' T aX bm l' q' Q' o' aJ cs',jb aX l'->wG n N l' q'->2*mu N l'+q'.length<=B->h.next<=h'.next->Br<Q'->Q'≠Bq->Q'<h'.next->(aJ=0\/aJ=1)->cs'.length=o'+q'.length->cs'.drop o'=zs q'->h'.get RM=some (.map aX bm)->h'.get Q'=some (.row cs' true aJ)->h'.get Bq=some (.row [.v (.slice (some ⟨Q',o',none⟩) q'.length q'.length)] true 0)->
  (∀i,i<h.next->i≠RM->i≠Q->i≠Bq->h'.get i=h.get i)->K (.bf []) dd h' T):
 au E true K dd h (137,[iV n0,.agg (aO c0).e,.v (.pointer (some ⟨Bn,0,none⟩)),.v (.pointer (some ⟨Br,0,none⟩)),.v (.pointer (some ⟨Bs,0,none⟩)),.v (.pointer (some ⟨Bq,0,none⟩))]):=by
 refine cJ.frame [ST,Bs,NX,Bn,R,RM,Br,Q,Bq] (by simp;omega) ?_;obtain⟨M,hM⟩:∃M,h.next=M:=⟨_,rfl⟩;refine fw (K:=λv _ bE _=>∀ad:ah,ad.next=bE.next->(∀i,(i∈[ST,Bs,NX,Bn,R,RM,Br,Q,Bq]\/h.next<=i)->ad.get i=bE.get i)->(∀i,i<h.next->i∉[ST,Bs,NX,Bn,R,RM,Br,Q,Bq]->ad.get i=h.get i)->K v dd ad [ST,Bs,NX,Bn,R,RM,Br,Q,Bq]) (dd:=dd) Tryz.ntmps137 Tryz.results137 ?_;simp only[eS,g1,g2,g3,g4,g5,g6,g7,g8,g9];rw[hM]at bS bT⊢;simp(disch:=omega)[go_sem,Dg.e];have h1:=su j7 qK hN n0 false hx;refine⟨_,lT (es:=aA) (clock:=ab) ai rfl h1, ?_⟩;refine aL ?_;obtain⟨I,hI⟩:∃I:Nat->DS->Prop,∀j d,I j d↔∃(k:Nat) (H:ah) (es:List bG) (clk:Nat) (l:List (Int×Nat)) (q:List Int) (Q' o ak:Nat) (cs:List DV),j+k=xs.length/\M<H.next/\jb es l/\wG n N l q/\2*mu N l+q.length<=B/\Br<Q'/\Q'≠Bq/\Q'≠M/\Hid (Q'=Q\/M<=Q')/\Q'<H.next/\(ak=0\/ak=1)/\cs.length=o+q.length/\cs.drop o=zs q/\
  H.get ST=some (.map aV aE)/\H.get Bs=some (.row [.v (.map (some ST))] true 0)/\H.get NX=some (.map aA ab)/\H.get Bn=some (.row [.v (.map (some NX))] true 0)/\H.get R=some (.row (zs xs) true 1)/\H.get RM=some (.map es clk)/\H.get Br=some (.row [.v (.map (some RM))] true 0)/\H.get Bq=some (.row [.v (.slice (some ⟨Q',o,none⟩) q.length q.length)] true 0)/\H.get M=some (.row (aO c0).e true 0)/\H.get Q'=some (.row cs true ak)/\
  d=⟨bw [(0,iV n0),(3,.v (.pointer (some ⟨Br,0,none⟩))),(4,.v (.pointer (some ⟨Bs,0,none⟩))),(5,.v (.pointer (some ⟨Bq,0,none⟩))),(7,.v (.pointer (some ⟨M,0,none⟩))),(14,.v (.slice (some ⟨R,0,none⟩) xs.length xs.length)),(15,iV xs.length),(16,iV k)],50,[],H⟩:=⟨_,λ_ _=>Q0⟩
 refine bM I xs.length ⟨_,aB.bk (l:=[(0,iV n0),(3,.v (.pointer (some ⟨Br,0,none⟩))),(4,.v (.pointer (some ⟨Bs,0,none⟩))),(5,.v (.pointer (some ⟨Bq,0,none⟩))),(7,.v (.pointer (some ⟨M,0,none⟩))),(14,.v (.slice (some ⟨R,0,none⟩) xs.length xs.length)),(15,iV xs.length),(16,iV (0:Nat))]) ?_,(hI _ _).2 ⟨0,_,es,clk,l,q,Q,o,ak,cs,rfl,ai,hl,hv,aa,aa,o9,aa,.inl rfl,ai,bl,bX,bY,ai,ai,ai,ai,ai,ai,ai,ai, ?_,ai,rfl⟩⟩ ?_
 . simp(disch:=omega)[go_sem,wF]
 . simp(disch:=omega)[go_sem,Dg.e]
 . intro j ds aZ;obtain⟨k,H,ba,af,l1,q1,Q1,bn,aK,bo,hj,hP,bc,aY,bF,bI,bJ,b0,bL,cc,aj,aM,aP,f1,f2,f3,f4,f5,f6,f7,f8,f9,f10,rfl⟩:=(hI _ _).1 aZ;clear aZ;by_cases b1:k<xs.length
   . have aS:(k:Int)<xs.length:=aa;obtain⟨y,hy⟩:∃y,xs[k]? =some y:=⟨_,Rm b1⟩;obtain⟨cd,cg,cy,bN⟩:=bZ y (UR hy);have b2:=abT xs k y hy;have bs:=bW _ _ bN;simp(disch:=omega)[go_sem,aS,b2,hy,-getElem?_pos,f5,f7];refine wC (es:=ba) (clock:=af) (l:=l1) f6 aa bc λM1 ch=> ?_;simp(disch:=omega)[go_sem,Dg.e];refine bH [⟨.read,0,some (0,3),true⟩,aC 0,aC 0,ae 0,ae 0,ae 24,aC 60,aT 126,ae 254,ae 254,aT 1022,aT 2047,ae 4095,ae 4095,aT 16383,cN 0,aT 65535] an 1 rfl ?_;simp(disch:=omega)[go_sem,Dg.e,f2,f9];have bd:=uF (λk c h=>(aY.1 k c h).1) y;have bt:c0&&&cy<256:=aft afu bB;obtain⟨go,bO⟩:∃go,cQ l1 y=go:=⟨_,rfl⟩;rw[bO]at bd⊢;obtain⟨ga,b5⟩:∃ga,c0&&&cy=ga:=⟨_,rfl⟩;have hand:=wB c0 cy bB bs;rw[b5]at bt hand;have ao:=qJ (ar:=true) (aO ga);have bu:=C4 go ga bd bt;have bg:=wD bd bt;obtain⟨gn,bR⟩:∃gn,go|||ga=gn:=⟨_,rfl⟩;rw[bR]at bu bg;have av:=qJ (ar:=true) (aO gn);have aH:=IY go gn bd bg;simp only[Dg.e]at hand ao bu av aH;have h2:=su yX wE hS (n0,y) false bN;refine⟨_,lT (es:=aV) (clock:=aE) (by simp(disch:=omega)[go_sem,f1]) rfl h2, ?_⟩;simp(disch:=omega)[go_sem,Dg.e];refine au.mk hand λM2=>cY λcj=> ?_;refine au.mk ao λM3=>cY λck=> ?_;refine au.mk bu λM4=>cY λcl=> ?_;refine au.mk av λM5=>cY λcm=> ?_;refine au.mk aH λM6=>aR λcn=> ?_;by_cases he:go=gn
     . have bz:decide (go=gn)=true:=decide_eq_true he;simp(disch:=omega)[go_sem,bz,aG];refine⟨j-1,aa,_,aB.bk (l:=[(0,iV n0),(3,.v (.pointer (some ⟨Br,0,none⟩))),(4,.v (.pointer (some ⟨Bs,0,none⟩))),(5,.v (.pointer (some ⟨Bq,0,none⟩))),(7,.v (.pointer (some ⟨M,0,none⟩))),(14,.v (.slice (some ⟨R,0,none⟩) xs.length xs.length)),(15,iV xs.length),(16,iV (k+1:Nat))]) ?_,(hI _ _).2 ⟨k+1,_,ba,af,l1,q1,Q1,bn,aK,bo,aa, ?_,bc,aY,bF,bI,bJ,b0,bL, ?_,aj,aM,aP, ?_, ?_, ?_, ?_, ?_, ?_, ?_, ?_, ?_, ?_,rfl⟩⟩
       all_goals simp(disch:=omega)[go_sem,f1,f2,f3,f4,f5,f6,f7,f8,f9,f10,Dg.e]
       all_goals omega
     . have bz:decide (go=gn)=false:=decide_eq_false he;obtain⟨aX,az,h8,h9⟩:=pA j7 sD bc y af gn;simp(disch:=omega)[go_sem,bz,f7];refine⟨_,sy (es:=ba) (clock:=af) (by simp(disch:=omega)[go_sem,f6]) rfl h8, ?_⟩;simp(disch:=omega)[go_sem,aG,f8];refine abU (cs:=bo) (ak:=aK) (by simp(disch:=omega)[go_sem,f10]) aj aM aP aa (by simp(disch:=omega)[go_sem];try omega) λH2 T2 w1 w2 w3 w4=> ?_;simp(disch:=omega)[go_sem]at w1 w2 w3;have v1:H2.get ST=some (.map aV aE):=by rw[w3 ST aa aa];simp(disch:=omega)[go_sem,f1]
       have v2:H2.get Bs=some (.row [.v (.map (some ST))] true 0):=by rw[w3 Bs aa aa];simp(disch:=omega)[go_sem,f2]
       have v3:H2.get NX=some (.map aA ab):=by rw[w3 NX aa aa];simp(disch:=omega)[go_sem,f3]
       have v4:H2.get Bn=some (.row [.v (.map (some NX))] true 0):=by rw[w3 Bn aa aa];simp(disch:=omega)[go_sem,f4]
       have v5:H2.get R=some (.row (zs xs) true 1):=by rw[w3 R aa aa];simp(disch:=omega)[go_sem,f5]
       have v6:H2.get RM=some (.map aX az):=by rw[w3 RM aa aa];simp(disch:=omega)[go_sem]
       have v7:H2.get Br=some (.row [.v (.map (some RM))] true 0):=by rw[w3 Br aa aa];simp(disch:=omega)[go_sem,f7]
       have v8:H2.get Bq=some (.row [.v (.slice (some ⟨Q1,bn,none⟩) q1.length q1.length)] true 0):=by rw[w3 Bq aa aa];simp(disch:=omega)[go_sem,f8]
       have v9:H2.get M=some (.row (aO c0).e true 0):=by rw[w3 M aa aa];simp(disch:=omega)[go_sem,f9]
       have cp:=I4 (n:=N) (l:=l1) (k:=y) (c:=gn) aa aa bg (by rw[bO];subst bR;exact I5 λh=>he h.symm);have b6:wG n N (Go.aD.put l1 y gn) (q1++[y]):=by
        refine⟨λk c h=> ?_,λz hz=> ?_⟩
        . rw[mO]at h
          split at h
          . rename_i e;subst e;cases h;exact⟨bg,aa,aa⟩
          . exact aY.1 k c h
        . rw[mO]
          split
          . exact⟨_,rfl⟩
          . rename_i b7;rcases Rb.1 hz with hz|hz
            . exact aY.2 z hz
            . exact absurd (by simpa using hz) b7
       simp(disch:=omega)[go_sem,aG,v8];refine⟨j-1,aa,_,aB.bk (l:=[(0,iV n0),(3,.v (.pointer (some ⟨Br,0,none⟩))),(4,.v (.pointer (some ⟨Bs,0,none⟩))),(5,.v (.pointer (some ⟨Bq,0,none⟩))),(7,.v (.pointer (some ⟨M,0,none⟩))),(14,.v (.slice (some ⟨R,0,none⟩) xs.length xs.length)),(15,iV xs.length),(16,iV (k+1:Nat))]) ?_,(hI _ _).2 ⟨k+1,_,aX,az,_,q1++[y],M6+1,0,1,zs (q1++[y]),aa, ?_,h9,b6,by simp;omega,aa,aa,aa,.inr aa, ?_,.inr rfl,aw,rfl, ?_, ?_, ?_, ?_, ?_, ?_, ?_, ?_, ?_, ?_,rfl⟩⟩
       all_goals simp(disch:=omega)[go_sem,v1,v2,v3,v4,v5,v6,v7,v8,v9,w1,w2]
       all_goals omega
   . have aS:¬(k:Int)<xs.length:=aa;simp(disch:=omega)[go_sem,aS];intro ad cq q2 q3;have hS:∀i,i∈[ST,Bs,NX,Bn,R,RM,Br,Q,Bq]->ad.get i=H.get i:=λi hi=>q2 i (.inl (by simpa using hi));refine hk ad _ ba af l1 q1 Q1 bn aK bo bc aY bF aa bI bJ aa aj aM aP ?_ ?_ ?_ λi hi h1 h2 h3=> ?_
     . rw[hS RM aw,f6]
     . rcases bL with h|h
       . rw[h]at f10;rw[h,hS Q aw,f10]
       . rw[q2 Q1 (.inr h),f10]
     . rw[hS Bq aw,f8]
     . by_cases z1:i=ST
       . subst z1;rw[hS i aw,f1,g1]
       . by_cases z2:i=Bs
         . subst z2;rw[hS i aw,f2,g2]
         . by_cases z3:i=NX
           . subst z3;rw[hS i aw,f3,g3]
           . by_cases z4:i=Bn
             . subst z4;rw[hS i aw,f4,g4]
             . by_cases z5:i=R
               . subst z5;rw[hS i aw,f5,g9]
               . by_cases z6:i=Br
                 . subst z6;rw[hS i aw,f7,g6]
                 . exact q3 i aa z1 z2 z3 z4 z5 h1 z6 h2 h3
set_option maxHeartbeats 2000000 in
def abV{K:b9}{dd:List FuncId}{h:ah}{Bs NX Bn Br Bq:Nat}{aA:List bG}{ab:Nat}{lN:List (Int×(Nat×List Int))}{n0:Int}{c0:Nat}
 (o3:NX<Bn) (o4:Bn<h.next) (g3:h.get NX=some (.map aA ab)) (g4:h.get Bn=some (.row [.v (.map (some NX))] true 0)) (hN:Dc aA lN) (hx:bq lN n0=none)
 (hk:∀P,h.next<=P->K (.bf []) dd (h.up P) [NX,Bn]):
 au E true K dd h (137,[iV n0,.agg (aO c0).e,.v (.pointer (some ⟨Bn,0,none⟩)),.v (.pointer (some ⟨Br,0,none⟩)),.v (.pointer (some ⟨Bs,0,none⟩)),.v (.pointer (some ⟨Bq,0,none⟩))]):=by
 refine uE [NX,Bn] Tryz.ntmps137 Tryz.results137 ?_;obtain⟨M,hM⟩:∃M,h.next=M:=⟨_,rfl⟩;simp only[eS,g3,g4];rw[hM]at o4 hk⊢;simp(disch:=omega)[go_sem,Dg.e];have h1:=sv j7 qK hN n0 false Db rfl hx;refine⟨_,lT (es:=aA) (clock:=ab) ai rfl h1, ?_⟩;simp(disch:=omega)[go_sem,fO];obtain⟨I,hI⟩:∃I:Nat->DS->Prop,∀j d,I j d↔d=⟨bw [(15,iV 0),(16,iV 0)],50,[],cA (M+1) [(NX,.map aA ab),(Bn,.row [.v (.map (some NX))] true 0)]⟩:=⟨_,λ_ _=>Q0⟩;refine bM I 0 ⟨_,aB.mk (N:=M+1) ai ai ai,(hI _ _).2 rfl⟩ ?_
 . intro j ds aZ;cases(hI _ _).1 aZ;refine aL ?_;exact⟨⟨g3.symm,g4.symm⟩,hk _ aa⟩
end Go.Sp
end
noncomputable section
open Go Go.aD Go.Proofs
namespace Go.aD
def abW{κ ν:Type}[DecidableEq κ]{l:List (κ×ν)}{p:κ×ν}(h:p∈l):∃c,bq l p.1=some c:=by
 induction l with
 |nil=>cases h
 |cons x r ih=>
  obtain⟨a,b⟩:=x;simp only[bq]
  split
  . exact⟨_,rfl⟩
  . rename_i ae;rcases WZ.1 h with rfl|h
    . exact absurd rfl ae
    . exact ih h
def abX{κ ν:Type}[DecidableEq κ]{l:List (κ×ν)}{k:κ}{v:ν}{p:κ×ν}(h:p∈put l k v):p∈l\/p=(k,v):=by
 induction l with
 |nil=>simpa[put]using h
 |cons x r ih=>
  obtain⟨a,b⟩:=x;simp only[put]at h
  split at h
  . rcases WZ.1 h with h|h
    . exact .inr h
    . exact .inl (aff _ h)
  . rcases WZ.1 h with h|h
    . exact .inl (h▸List.mem_cons_self)
    . rcases ih h with h|h
      . exact .inl (aff _ h)
      . exact .inr h
def fj.mem{κ ν:Type}[DecidableEq κ]{kf:κ->Value}{vf:ν->DV}{es:List bG}{l:List (κ×ν)}(h:fj kf vf es l){x:bG}(hx:x∈es):∃p∈l,x.key=kf p.1/\x.val=vf p.2:=by
 have h1:(x.key,x.val)∈es.map λx=>(x.key,x.val):=HT.2 ⟨x,hx,rfl⟩;rw[h]at h1;obtain⟨p,hp,he⟩:=HT.1 h1;simp only[Prod.mk.injEq]at he;exact⟨p,hp,he.1.symm,he.2.symm⟩
def lg.find{es:List bG}{clock:Nat}(hb:lg es clock){x:bG}(hx:x∈es):es.find? (λy=>y.born==x.born)=some x:=by
 have h:=hb.2;clear hb
 induction es with
 |nil=>cases hx
 |cons y r ih=>
  simp only[afe,List.nodup_cons]at h;rw[List.find?_cons];rcases WZ.1 hx with rfl|hx
  . simp
  . have:¬y.born=x.born:=λhe=>h.1 (by rw[he];exact HT.2 ⟨x,hx,rfl⟩);have hb:(y.born==x.born)=false:=by simpa using this
    rw[hb];exact ih hx h.2
def left(es:List bG)(seen:List Nat):Nat:=(es.filter λx=> !seen.contains x.born).length
def I8(es:List bG):left es []=es.length:=congrArg List.length (List.filter_eq_self.2 λx _=>rfl)
def I9{α:Type}{p q:α->Bool}(h:∀x,q x=true->p x=true):∀l:List α,(l.filter q).length<=(l.filter p).length
 |[]=>Xt _
 |y::r=>by
  have ih:=I9 h r;have hy:=h y;cases hq:q y with
  |true=>
   rw[afd hq,afd (hy hq)];exact Nat.succ_le_succ ih
  |false=>
   rw[afk (by simp[hq])];cases hp:p y with
   |true=>rw[afd hp];exact Nat.le_succ_of_le ih
   |false=>rw[afk (by simp[hp])];exact ih
def Ja{α:Type}{p q:α->Bool}(h:∀x,q x=true->p x=true){x:α}(hp:p x=true)(hq:q x=false):∀{l:List α},x∈l->(l.filter q).length<(l.filter p).length
 |y::r,hx=>by
  rcases WZ.1 hx with rfl|hx
  . rw[afd hp,afk (by simp[hq])];exact Nat.lt_succ_of_le (I9 h r)
  . have ih:=Ja h hp hq hx;have hy:=h y;cases af:q y with
    |true=>
     rw[afd af,afd (hy af)];exact Nat.succ_lt_succ ih
    |false=>
     rw[afk (by simp[af])];cases aj:p y with
     |true=>rw[afd aj];exact Nat.lt_succ_of_lt ih
     |false=>rw[afk (by simp[aj])];exact ih
def Jb{es:List bG}{seen:List Nat}{x:bG}(hx:x∈es)(hs:seen.contains x.born=false):left es (seen++[x.born])<left es seen:=
 Ja (λy hy=>by simp at hy⊢;exact hy.1) (by rw[hs];rfl) aw hx
end Go.aD
namespace Go.Sp
def Jc{h:ah}{ty a b:TypeId}{m:Nat}{es:List bG}{clock:Nat}(hu:E.under ty=some (.map a b))(hm:h.get m=some (.map es clock)):lD E h ty (.v (.map (some m)))=some (.cC (some m) clock [] clock):=by
 simp only[lD,hu,hm]
def Jd{h:ah}{r m since clock:Nat}{seen:List Nat}{es:List bG}{x:bG}(hr:h.get r=some (.cC (some m) since (seen++[x.born]) clock))(hm:h.get m=some (.map es clock))(hb:lg es clock)(hx:x∈es):tK h (.v (.pointer (some ⟨r,0,none⟩)))=some (.bf [fO x.key,x.val]):=by
 simp[tK,hr,hm,hb.find hx]
def nj(H:ah)(lo:Nat)(n:Int)(lS:List ((Int×Int)×Nat))(b:Nat)(lN:List (Int×(Nat×List Int))):Prop:=
 (∀k R xs,bq lN k=some (R,xs)->lo<R/\R<H.next/\H.get R=some (.row (zs xs) true 1)/\0<=k/\k<n/\xs≠[]/\xs.length<=b/\∀y∈xs,k<y/\y<n/\∃c,bq lS (k,y)=some c)/\
 ∀k k' R xs ao,bq lN k=some (R,xs)->bq lN k'=some (R,ao)->k=k'
theorem nj.nil(H:ah)(lo:Nat)(n:Int)(lS:List ((Int×Int)×Nat))(b:Nat):nj H lo n lS b []:=⟨λk R xs h=>by simp[bq]at h,λk k' R xs ao h=>by simp[bq]at h⟩
def nj.put{H H':ah}{lo:Nat}{n:Int}{lS:List ((Int×Int)×Nat)}{b:Nat}{lN:List (Int×(Nat×List Int))}(h:nj H lo n lS b lN){k y:Int}{c R':Nat}{xs:List Int}(hk:0<=k)(hy:k<y)(az:y<n)(hc:bq lS (k,y)=some c)
 (aA:(bq lN k=none/\xs=[])\/∃R,bq lN k=some (R,xs)) (aE:H.next<=R') (aC:R'<H'.next) (hg:H'.get R'=some (.row (zs (xs++[y])) true 1)) (ab:∀R,lo<R->R<H.next->(∀xs,bq lN k≠some (R,xs))->H'.get R=H.get R) (aG:lo<H.next):nj H' lo n lS (b+1) (Go.aD.put lN k (R',xs++[y])):=by
 have hold:xs.length<=b/\∀y∈xs,k<y/\y<n/\∃c,bq lS (k,y)=some c:=by
  rcases aA with⟨_,rfl⟩|⟨R,h1⟩
  . exact⟨Nat.zero_le _,λy hy=>by cases hy⟩
  . obtain⟨_,_,_,_,_,_,q1,q2⟩:=h.1 k R xs h1;exact⟨q1,q2⟩
 refine⟨λk2 R2 ad h2=> ?_,λk2 k3 R2 ad ai h2 h3=> ?_⟩
 . rw[mO]at h2
   split at h2
   . rename_i he;subst he;cases h2;refine⟨aa,aC,hg,hk,aa,aw,by simp;omega,λz hz=> ?_⟩;rcases Rb.1 hz with hz|hz
     . exact hold.2 z hz
     . simp only[Ey]at hz;subst hz;exact⟨hy,az,c,hc⟩
   . rename_i ae;obtain⟨q1,q2,q3,q4,q5,q6,q7,q8⟩:=h.1 k2 R2 ad h2;refine⟨q1,aa, ?_,q4,q5,q6,aa,q8⟩;rw[ab R2 q1 q2 λai h3=>ae (h.2 k2 k R2 ad ai h2 h3),q3]
 . have av:∀k R xs,bq lN k=some (R,xs)->R<H.next:=λk R xs h4=>(h.1 k R xs h4).2.1;rw[mO]at h2 h3
   split at h2
   . split at h3
     . rename_i e1 e2;rw[e1,e2]
     . cases h2;have:=av _ _ _ h3;omega
   . split at h3
     . cases h3;have:=av _ _ _ h2;omega
     . exact h.2 k2 k3 R2 ad ai h2 h3
def nj.same{H H':ah}{lo:Nat}{n:Int}{lS:List ((Int×Int)×Nat)}{b:Nat}{lN:List (Int×(Nat×List Int))}(h:nj H lo n lS b lN)(hs:∀R,lo<R->R<H.next->H'.get R=H.get R)(hn:H.next<=H'.next):nj H' lo n lS b lN:=
 ⟨λk R xs h1=>by
  obtain⟨q1,q2,q3,q4,q5,q6,q7,q8⟩:=h.1 k R xs h1;exact⟨q1,aa,by rw[hs R q1 q2,q3],q4,q5,q6,q7,q8⟩,h.2⟩
def abY:E.elem 100=some 1:=an
def abZ{h:ah}{R o len ak:Nat}{cs:List DV}(hg:h.get R=some (.row cs true ak))(he:ak=0\/ak=1)(hl:0<len):ed E h 100 (some (.v (.slice (some ⟨R,o,none⟩) len len))) (some (some (iV 1))) (some none) (some none)=some (.v (.slice (some ⟨R,o+1,none⟩) (len-1) (len-1))):=by
 have h1:(1:Int)<=len:=aa;simp[ed,fQ,fX,jQ,dU,abY,h1,hg,he]
def ab0{cs:List DV}{o:Nat}{m:Int}{q:List Int}(h:cs.drop o=zs (m::q)):cs[o]? =some (iV m):=by
 have:=congrArg (λl=>l[0]?) h;simpa using this
def ab1{cs:List DV}{o:Nat}{m:Int}{q:List Int}(h:cs.drop o=zs (m::q)):cs.drop (o+1)=zs q:=by
 rw[<-afy,h];rfl
def ab2(l:List Nat)(c:Nat):(l.map λ_=>c).sum=c*l.length:=by
 induction l with
 |nil=>rfl
 |cons x l ih=>rw[afe,List.sum_cons,ih,afm,Nat.mul_succ];omega
def Dd(n:Nat)(l:List (Int×Nat)):mu n l<=255*n:=by
 have h1:=IZ (Fj n) (λ(i:Nat)=>255-cQ l (i:Int)) (λ_=>255) λi _=>Nat.sub_le _ _;rw[ab2,List.length_range]at h1;exact h1
end Go.Sp
end
noncomputable section
open Go Go.aD Go.Proofs
namespace Go.Sp
def aB.Je{t:Tr DV}{n N:Nat}{dd:List FuncId}{h:ah}{l:List (Nat×DV)}{r:List (Nat×bJ)}(F:List Nat)(hF:∀i∈F,(h.get i).isSome=true)(hN:h.next=N){i:Nat}{v d:DV}(hi:t.get i=some v)(hz:Fz (rowsOf h F) v d)(ht:iQ t l)(hh:oX h r)(hr:∀p∈r,p.1∉F):aB ⟨t,n,dd,h⟩ ⟨bw ((i,d)::l),n,dd,cA N r⟩:=by
 refine aB.of F hF (by rw[vR,hN]) (λj w hw=> ?_) λj o ho=> ?_
 . rw[BI]at hw
   split at hw
   . rename_i he;subst he;cases hw;exact⟨v,hi,hz⟩
   . exact⟨w,vS ht.mem j w hw,.refl w⟩
 . have h1:=BJ hh.mem j o ho;refine⟨λhj=> ?_,.inl h1⟩;have:∀{r:List (Nat×bJ)},(∀p∈r,p.1∉F)->(cA N r).get j=none:=by
    intro r
    induction r with
    |nil=>intro _;rw[yh]
    |cons x r ih=>
     intro hr;rw[vQ]
     split
     . rename_i he;subst he;exact absurd hj (hr x aw)
     . exact ih λp hp=>hr p (aff _ hp)
   rw[this hr]at ho;cases ho
def yZ(a:An)(NU:Int->Prop):Prop:=∀p∈a.g.aq,∀(k:Nat) (s:Sym),p.right[k]? =some s->s.tok=false->(∀(i:Nat) (s':Sym),i≠k->p.right[i]? =some s'->s'.tok=false/\NU s'.idx)->p.left<s.idx/\s.idx<a.g.aI.length
def ab3{α:Type}(l:List α)(m i:Nat)(x:α)(h:l[i]? =some x)(hi:i≠m):x∈l.take m++l.drop (m+1):=by
 rw[Rb];rcases Nat.lt_or_ge i m with h1|h1
 . exact .inl (UR (i:=i) (by rw[List.getElem?_take,if_pos h1,h]))
 . exact .inr (UR (i:=i-(m+1)) (by rw[List.getElem?_drop,show m+1+(i-(m+1))=i by omega,h]))
def uG(n:Int)(l:List ((Int×Int)×Nat)):Prop:=∀x c,bq l x=some c->0<=x.1/\x.1<x.2/\x.2<n
def uG.put{n:Int}{l:List ((Int×Int)×Nat)}(h:uG n l){x:Int×Int}{c:Nat}(hx:0<=x.1/\x.1<x.2/\x.2<n):uG n (Go.aD.put l x c):=λy d hd=>by
 rw[mO]at hd
 split at hd
 . rename_i he;rw[he];exact hx
 . exact h y d hd
def uH{h:ah}{R len sz b n ak:Nat}{cs new:List DV}{K:DV×ah×List Nat->Prop}(hg:h.get R=some (.row cs true ak))(he:ak=0\/ak=sz)(hc:cs.length=len*sz)(hs:0<sz)(hn:new.length=n*sz)(h1:new.all cD=true)(hb:(len+n)*(b+1)<=1073741824)(hR:R<h.next)
 (hk:∀R' h' T bm,(bm=0\/bm=sz)->h'.get R'=some (.row (cs++new) true bm)->(R'=R\/h.next<=R')->R'<h'.next->h.next<=h'.next->(∀i,i≠R->i<h.next->h'.get i=h.get i)->(∀i∈T,i=R)->K (.v (.slice (some ⟨R',0,none⟩) (len+n) (len+n)),h',T)):aN (eA h (some ⟨R,0,none⟩) len len sz b n new) K:=by
 rcases afz n with rfl|bL
 . have:new=[]:=List.eq_nil_of_length_eq_zero aa;subst this;refine⟨(.v (.slice (some ⟨R,0,none⟩) (len+0) len),h,[]),by simp[eA], ?_⟩;have:=hk R h [] ak he (by simpa using hg) (.inl rfl) hR (Xt _) (λi _ _=>rfl) (λi hi=>by cases hi);simpa using this
 . rcases he with rfl|rfl
   . refine⟨_,F5 h R len sz b n cs new true hg hc bL hb,hk h.next _ [] sz (.inr rfl) ?_ (.inr (Xt _)) (by rw[ah.bb];omega) (by rw[ah.bb];omega) (λi _ hi=> ?_) (λi hi=>by cases hi)⟩
     . rw[ah.cW,if_pos rfl]
     . rw[ah.cW,if_neg aa]
   . refine⟨_,rX h R len ak b n cs new hg hc hs bL h1 hb,hk h.next _ [R] ak (.inr rfl) ?_ (.inr (Xt _)) (by rw[ah.bb,ah.aW];omega) (by rw[ah.bb,ah.aW];omega) (λi dC hi=> ?_) (λi hi=>by simpa using hi)⟩
     . rw[ah.cW,ah.aW,if_pos rfl]
     . rw[ah.cW,ah.aW,if_neg aa,ah.bD,if_neg dC]
def Jf(l:List Sym):((l.map Sym.e).flatten).all cD=true:=by
 simp only[oY,List.mem_flatten,HT];rintro x ⟨_,⟨s,_,rfl⟩,hx⟩;simp only[Sym.e,WZ,afn,or_false]at hx;rcases hx with rfl|rfl<;>rfl
def De(l:List Sym):((l.map Sym.e).flatten).length=l.length*2:=by
 rw[fi (k:=2) (λx hx=>by obtain⟨y,_,rfl⟩:=HT.1 hx;rfl),afi]
def Jg:E.elem 82=some 2:=an
def ab4{h:ah}(xs:List (List DV))(m:Nat)(hm:m<=xs.length):ed E h 82 (some (.sl 2 xs)) (some none) (some (some (iV m))) (some none)=some (.sl 2 (xs.take m)):=by
 have h1:(m:Int)<=xs.length:=aa;simp[ed,fQ,fX,jQ,dU,Jg,h1,hm]
def ab5{h:ah}(xs:List (List DV))(m:Nat)(hm:m<=xs.length):ed E h 82 (some (.sl 2 xs)) (some (some (iV m))) (some none) (some none)=some (.sl 2 (xs.drop m)):=by
 have h1:(m:Int)<=xs.length:=aa;simp[ed,fQ,fX,jQ,dU,Jg,h1,hm];exact afs aw
def ab6{h:ah}(xs:List (List DV))(m:Nat)(hm:m+1<=xs.length):ed E h 82 (some (.sl 2 xs)) (some (some (.v (.int .i64 ((m:Int)+1))))) (some none) (some none)=some (.sl 2 (xs.drop (m+1))):=ab5 xs (m+1) hm
def ab7{κ:Type}[DecidableEq κ]{l:List (κ×Nat)}(hl:jD l)(k:κ):cQ l k<256:=by
 unfold cQ;cases h:bq l k with
 |none=>simp
 |some c=>simpa using hl k c h
def ab8{e:Env}{ty:TypeId}{k:Value}{d:DV}{es aZ:List bG}{clock ad:Nat}(hu:ky e ty k d es clock=some (.map aZ ad)):aZ.length<=es.length+1:=by
 unfold ky at hu
 split at hu
 . split at hu
   . cases hu
   . split at hu
     . split at hu
       . cases hu
       . split at hu
         . cases hu;rw[List.length_modify];omega
         . cases hu
       . cases hu;rw[afv];exact Xt _
     . cases hu
 . cases hu
def ab9(n:Int):uG n []:=λx c h=>by cases h
set_option maxHeartbeats 8000000 in
def aca{K:b9}{dd:List FuncId}{h:ah}(a:An)(ha:a.Ok)(NU:Int->Prop)(dD:sE a NU)(hE:yZ a NU)(cj:∃c,a.g.family=aO c/\c<256)
 (hk:∀h' T R es clock lo,jb es lo->(∀p∈lo,p.2=0)->lg es clock->h.next<=R->R<h'.next->h'.get R=some (.map es clock)->(∀i,i<h.next->h'.get i=h.get i)->K (.v (.map (some R))) dd h' T):
 au E false K dd h (74,[.ptr a.e 0]):=by
 refine cJ.frame [] aw ?_;obtain⟨N,hN⟩:∃N,h.next=N:=⟨_,rfl⟩;refine fw (K:=λv _ cR _=>∀aH:ah,aH.next=cR.next->(∀i,(i∈[]\/h.next<=i)->aH.get i=cR.get i)->(∀i,i<h.next->i∉[]->aH.get i=h.get i)->K v dd aH []) (dd:=dd) Tryz.ntmps74 Tryz.results74 ?_;simp only[eS];rw[hN];have eO:=ha.aq;refine aL ?_;refine au.any (abJ a ha NU dD λh1 T M bN aM lE dF ck cl dG dH dI _=> ?_);simp only[ah.Fq]at dG;obtain⟨N1,cm⟩:∃N1,h1.next=N1:=⟨_,rfl⟩;rw[cm]at dH;simp(disch:=omega)[go_sem,cm,An.e,aj.e];obtain⟨I,hI⟩:∃I:Nat->DS->Prop,∀j d,I j d↔∃(k P:Nat) (es:List bG) (clock:Nat) (l:List ((Int×Int)×Nat)),j+k=a.g.aq.length/\N1+1<P/\yY es l/\jD l/\uG a.g.aI.length l/\lg es clock/\es.length<=16*k/\
  d=⟨bw [(0,.ptr a.e 0),(3,.v (.map (some M))),(4,.v (.pointer (some ⟨N1+1,0,none⟩))),(29,.sl 13 (a.g.aq.map aK.e)),(30,iV a.g.aq.length),(31,iV k)],166,[],cA P [(M,.map bN aM),(N1,.map es clock),(N1+1,.row [.v (.map (some N1))] true 0)]⟩:=⟨_,λ_ _=>Q0⟩
 refine bM I a.g.aq.length ⟨_,aB.mk (N:=N1+2) ?_ ?_ ?_,(hI _ _).2 ⟨0,N1+2,[],0,[],rfl,aa,rfl,I6,ab9 _,lg.nil 0,aw,rfl⟩⟩ ?_
 . simp(disch:=omega)[go_sem,cm]
 . simp(disch:=omega)[go_sem,An.e,aj.e]
 . simp(disch:=omega)[go_sem,dI]
 . intro j ds cS;obtain⟨k,P,az,ab,l1,hj,hP,b8,bn,bo,ca,dJ,rfl⟩:=(hI _ _).1 cS;clear cS;by_cases cT:k<a.g.aq.length
   . have bs:(k:Int)<a.g.aq.length:=aa;obtain⟨p,hx⟩:∃p,a.g.aq[k]? =some p:=⟨_,Rm cT⟩;have cn:=UR hx;obtain⟨c,hc⟩:∃c,a.dE[k]? =some c:=⟨_,Rm (by rw[ha.len];exact cT)⟩;have cX:=ha.lt c (UR hc);have bO:=ha.left p cn;have eP:=ha.right p cn;simp(disch:=omega)[go_sem,bs,hx,-getElem?_pos,aK.e];obtain⟨J,hJ⟩:∃J:Nat->DS->Prop,∀j d,J j d↔∃(m P2:Nat) (es:List bG) (clock:Nat) (l:List ((Int×Int)×Nat)),j+m=p.right.length/\P<P2/\yY es l/\jD l/\uG a.g.aI.length l/\lg es clock/\es.length<=16*k+m/\
      d=⟨bw [(0,.ptr a.e 0),(3,.v (.map (some M))),(4,.v (.pointer (some ⟨N1+1,0,none⟩))),(29,.sl 13 (a.g.aq.map aK.e)),(30,iV a.g.aq.length),(31,iV k),(5,iV k),(6,.v (.pointer (some ⟨P,0,none⟩))),(37,.sl 2 (p.right.map Sym.e)),(38,iV p.right.length),(39,iV m)],166,[],cA P2 [(M,.map bN aM),(N1,.map es clock),(N1+1,.row [.v (.map (some N1))] true 0),(P,.row p.e true 0)]⟩:=⟨_,λ_ _=>Q0⟩
     refine bM J p.right.length ⟨_,aB.mk (N:=P+1) ai ?_ ?_,(hJ _ _).2 ⟨0,P+1,az,ab,l1,rfl,aa,b8,bn,bo,ca,aa,rfl⟩⟩ ?_
     . simp(disch:=omega)[go_sem,aK.e]
     . simp(disch:=omega)[go_sem,aK.e]
     . intro j2 dK bR;obtain⟨m,P2,bt,ao,l2,dL,eQ,bS,aP,ba,cb,dM,rfl⟩:=(hJ _ _).1 bR;clear bR;by_cases dN:m<p.right.length
       . have bc:(m:Int)<p.right.length:=aa;obtain⟨s,hs⟩:∃s,p.right[m]? =some s:=⟨_,Rm dN⟩;cases ht:s.tok with
         |true=>
          simp(disch:=omega)[go_sem,bc,hs,-getElem?_pos,Sym.e,ht,aG];refine⟨j2-1,aa,_,aB.mk (N:=P2+1) ai ?_ ai,(hJ _ _).2 ⟨m+1,P2+1,bt,ao,l2,aa,aa,bS,aP,ba,cb,aa,rfl⟩⟩
          . simp(disch:=omega)[go_sem,Sym.e]
         |false=>
          simp(disch:=omega)[go_sem,bc,hs,-getElem?_pos,Sym.e,ht,aG];refine bH [cN 0,ae 0,aC 2,ae 0,aC 14,aT 31,jW 0,dq 64,jW 0,jW 256,dq 960,aT 2047,ae 4095] an 1 rfl ?_;simp(disch:=omega)[go_sem,aK.e,aG];refine⟨_,ab4 _ m (by simp;omega), ?_⟩;simp(disch:=omega)[go_sem,aK.e,aG];rw[<-List.map_take];refine uH (cs:=[]) (ak:=0) ai (.inl rfl) rfl aa (by rw[De,afg];omega) (Jf _) aa (by simp(disch:=omega)[go_sem];try omega) λR1 h2 T1 z1 q1 q2 q3 q4 q5 q6 q7=> ?_;simp(disch:=omega)[go_sem]at q3 q4 q5 q6;simp(disch:=omega)[go_sem,aK.e,aG,q6];refine⟨λh=>by have:=q7 P h;omega, ?_⟩;refine⟨_,ab6 _ m (by simp;omega), ?_⟩;simp(disch:=omega)[go_sem,aK.e,aG];rw[<-List.map_drop];have bf:((p.right.take m).map Sym.e).flatten.length=m*2:=by rw[De,afg];omega
          have bg:((p.right.drop (m+1)).map Sym.e).flatten.length=(p.right.length-(m+1))*2:=by rw[De,afA]
          refine uH (cs:=((p.right.take m).map Sym.e).flatten) (ak:=z1) (by simpa using q2) q1 bf aa bg (Jf _) aa q4 λR2 h3 T2 z2 w1 w2 w3 w4 w5 w6 w7=> ?_;have c1:h3.get M=some (.map bN aM):=by rw[w6 M aa aa,q6 M aa aa];simp(disch:=omega)[go_sem]
          have dO:h3.get N1=some (.map bt ao):=by rw[w6 N1 aa aa,q6 N1 aa aa];simp(disch:=omega)[go_sem]
          have dP:h3.get (N1+1)=some (.row [.v (.map (some N1))] true 0):=by rw[w6 (N1+1) aa aa,q6 (N1+1) aa aa];simp(disch:=omega)[go_sem]
          have c2:h3.get P=some (.row p.e true 0):=by rw[w6 P aa aa,q6 P aa aa];simp(disch:=omega)[go_sem,aK.e]
          have dQ:h3.get P2=some (.row [bV false,iV s.idx] true 0):=by rw[w6 P2 aa aa,q6 P2 aa aa];simp(disch:=omega)[go_sem]
          obtain⟨rest,aS⟩:∃rest,p.right.take m++p.right.drop (m+1)=rest:=⟨_,rfl⟩;obtain⟨L,hL⟩:∃L,m+(p.right.length-(m+1))=L:=⟨_,rfl⟩;have cp:rest.length=L:=by rw[<-aS,afv,afg,afA];omega
          have cq:h3.get R2=some (.row (rest.map Sym.e).flatten true z2):=by rw[w2,<-aS,afj,List.flatten_append]
          rw[hL];clear w2 bf bg;subst cp;simp(disch:=omega)[go_sem,aK.e,aG,An.e,aj.e,hc,-getElem?_pos,Dg.e];refine au.any (abR (es:=bN) (clock:=aM) (l:=lE) (R:=R2) (ak:=z2) (wr:=true) (syms:=rest) (c:=c) c1 aa cq aa aa dF ck cX aa λN4 eU=> ?_);have c3:=yV lE rest c cX;obtain⟨c4,bT⟩:∃c4,fS lE c rest=c4:=⟨_,rfl⟩;rw[bT]at c3⊢;simp(disch:=omega)[go_sem,Dg.e];obtain⟨Q,hQ⟩:∃Q:Nat->DS->Prop,∀j d,Q j d↔∃(q P3 c5:Nat),j+q=rest.length/\N4<P3/\c5<256/\(c5≠0->c5=c4/\∀(i:Nat) (s:Sym),i<q->rest[i]? =some s->s.tok=false)/\
           d=⟨bw [(68,.sl 2 (rest.map Sym.e)),(0,.ptr a.e 0),(3,.v (.map (some M))),(4,.v (.pointer (some ⟨N1+1,0,none⟩))),(29,.sl 13 (a.g.aq.map aK.e)),(30,iV a.g.aq.length),(31,iV k),(5,iV k),(6,.v (.pointer (some ⟨P,0,none⟩))),(37,.sl 2 (p.right.map Sym.e)),(38,iV p.right.length),(39,iV m),(8,.v (.pointer (some ⟨P2,0,none⟩))),(10,.v (.pointer (some ⟨N4,0,none⟩))),(69,iV rest.length),(70,iV q)],166,[],cA P3 [(M,.map bN aM),(N1,.map bt ao),(N1+1,.row [.v (.map (some N1))] true 0),(P,.row p.e true 0),(P2,.row s.e true 0),(N4,.row (aO c5).e true 0)]⟩:=⟨_,λ_ _=>Q0⟩
          refine bM Q rest.length ⟨_,aB.Je (N:=N4+1) [R2] ?_ ?_ (by simp(disch:=omega)[go_sem];rfl) ?_ ?_ ?_ ?_,(hQ _ _).2 ⟨0,N4+1,c4,rfl,aa,c3,λ_=>⟨rfl,λi s hi=>aa⟩,rfl⟩⟩ ?_
          . simp(disch:=omega)[go_sem,cq]
          . exact ai
          . exact dW (ak:=z2) (fq aw (by simp(disch:=omega)[go_sem,cq];rfl)) aa aa aw aw (λx h=>by obtain⟨y,_,rfl⟩:=HT.1 h;rfl)
          . simp(disch:=omega)[go_sem,An.e,aj.e,Dg.e]
          . simp(disch:=omega)[go_sem,c1,dO,dP,c2,dQ,aK.e,Sym.e,ht,Dg.e]
          . simp;omega
          . intro j3 dV bW;obtain⟨q,P3,c5,dY,c2,bF,bu,rfl⟩:=(hQ _ _).1 bW;clear bW;by_cases ea:q<rest.length
            . have aV:(q:Int)<rest.length:=aa;obtain⟨u,hu⟩:∃u,rest[q]? =some u:=⟨_,Rm ea⟩;cases ct:u.tok with
              |true=>
               simp(disch:=omega)[go_sem,aV,hu,-getElem?_pos,Sym.e,ct,aG];refine au.mk (C8 false) λM5=>aR λeV=> ?_;simp(disch:=omega)[go_sem,Dg.e,aG];refine⟨j3-1,aa,_,aB.mk (N:=M5) ai ai ?_,(hQ _ _).2 ⟨q+1,M5,0,aa,aa,aa,λh=>absurd rfl h,rfl⟩⟩
               . simp(disch:=omega)[go_sem,Dg.e,Sym.e];exact⟨rfl,rfl⟩
              |false=>
               simp(disch:=omega)[go_sem,aV,hu,-getElem?_pos,Sym.e,ct,aG];refine⟨j3-1,aa,_,aB.mk (N:=P3+1) ai ai ?_,(hQ _ _).2 ⟨q+1,P3+1,c5,aa,aa,bF,λh=>⟨(bu h).1,λi s' hi bX=> ?_⟩,rfl⟩⟩
               . simp(disch:=omega)[go_sem,Sym.e]
               . rcases Nat.lt_or_ge i q with h1|h1
                 . exact(bu h).2 i s' h1 bX
                 . have:i=q:=aa;subst this;rw[hu]at bX;cases bX;exact ct
            . have aV:¬(q:Int)<rest.length:=aa;have c6:=yU bF;by_cases hz:c5=0
              . have aX:=c6.2 hz;simp(disch:=omega)[go_sem,aV,Dg.e,aX,aG];exact⟨j2-1,aa,_,aB.mk (N:=P3) ai ai ai,(hJ _ _).2 ⟨m+1,P3,bt,ao,l2,aa,aa,bS,aP,ba,cb,aa,rfl⟩⟩
              . have aX:¬(aO c5).root=0:=λh=>hz (c6.1 h);obtain⟨cu,eb⟩:=bu hz;have ec:=Da lE rest c (by rw[bT,<-cu];exact hz);have c7:=hE p cn m s hs ht λi s' hi bX=>by
                 have c8:s'∈rest:=by rw[<-aS];exact ab3 _ _ _ _ bX hi
                 obtain⟨i2,dS⟩:=afw c8;have c9:=eb i2 s' (by have:=(afc.1 dS).1;omega) dS;exact⟨c9,cl _ (ec.2 s' c8 c9)⟩
                have da:=ab7 aP (p.left,s.idx);have db:=C4 (cQ l2 (p.left,s.idx)) c5 da bF;have bl:=qJ (ar:=true) (aO (cQ l2 (p.left,s.idx)|||c5));simp only[Dg.e]at db bl;simp(disch:=omega)[go_sem,aV,Dg.e,aX,aG,aK.e,Sym.e];refine bH [⟨.read,0,some (0,4),true⟩,⟨.read,0,some (0,4),true⟩,aC 0,aC 0,aT 12,dq 0,aT 60,ae 124,ae 124,aT 508,aT 1023] an 0 rfl ?_;simp(disch:=omega)[go_sem,aK.e,Sym.e,aG];refine⟨aa, ?_⟩;refine abO (es:=bt) (clock:=ao) (l:=l2) ai (by simp(disch:=omega)[go_sem];try omega) bS λM6 de=> ?_;replace de:=cr de;simp(disch:=omega)[go_sem,Dg.e];refine⟨aa,aa, ?_⟩;refine au.mk db λM7=>cY λeW=> ?_;refine au.mk bl λM8=>aR λeX=> ?_;obtain⟨aZ,ad,h8,h9⟩:=pA yX wE bS (p.left,s.idx) ao (cQ l2 (p.left,s.idx)|||c5);refine aL ?_;refine⟨_,sy (es:=bt) (clock:=ao) ai rfl h8, ?_⟩;simp(disch:=omega)[go_sem,aG];refine⟨j2-1,aa,_,aB.mk (N:=M8) ?_ ?_ ?_,(hJ _ _).2 ⟨m+1,M8,aZ,ad,_,aa,aa,h9,aP.put (wD da bF),ba.put ⟨bO.1,c7.1,c7.2⟩,cb.up h8,by have:=ab8 h8;omega,rfl⟩⟩
                . exact ai
                . exact ai
                . simp(disch:=omega)[go_sem,aK.e]
       . have bc:¬(m:Int)<p.right.length:=aa;simp(disch:=omega)[go_sem,bc,aG];exact⟨j-1,aa,_,aB.mk (N:=P2) ai ai ai,(hI _ _).2 ⟨k+1,P2,bt,ao,l2,aa,aa,bS,aP,ba,cb,aa,rfl⟩⟩
   . have bs:¬(k:Int)<a.g.aq.length:=aa;simp(disch:=omega)[go_sem,bs];refine⟨_,Jc (es:=az) (clock:=ab) wE ai, ?_⟩;refine aL ?_;obtain⟨n,hn⟩:∃n,a.g.aI.length=n:=⟨_,rfl⟩;have ee:=ha.aI;rw[hn]at bo ee;obtain⟨J,hJ⟩:∃J:Nat->DS->Prop,∀j d,J j d↔∃(seen:List Nat) (aJ:List bG) (av:Nat) (lN:List (Int×(Nat×List Int))) (b:Nat) (H:ah),j=left az seen/\j+b<=az.length/\P+2<H.next/\Dc aJ lN/\nj H (P+2) n l1 b lN/\
      H.get N1=some (.map az ab)/\H.get (N1+1)=some (.row [.v (.map (some N1))] true 0)/\H.get P=some (.map aJ av)/\H.get (P+1)=some (.row [.v (.map (some P))] true 0)/\H.get (P+2)=some (.cC (some N1) ab seen ab)/\
      d=⟨bw [(0,.ptr a.e 0),(4,.v (.pointer (some ⟨N1+1,0,none⟩))),(14,.v (.pointer (some ⟨P+1,0,none⟩))),(100,.v (.pointer (some ⟨P+2,0,none⟩)))],166,[],H⟩:=⟨_,λ_ _=>Q0⟩
     refine bM J az.length ⟨_,aB.bk (l:=[(0,.ptr a.e 0),(4,.v (.pointer (some ⟨N1+1,0,none⟩))),(14,.v (.pointer (some ⟨P+1,0,none⟩))),(100,.v (.pointer (some ⟨P+2,0,none⟩)))]) ?_,(hJ _ _).2 ⟨[],[],0,[],0,_,(I8 az).symm,aw,ai,.nil ..,.nil ..,ai,ai,ai,ai,ai,rfl⟩⟩ ?_
     . simp(disch:=omega)[go_sem,An.e,aj.e]
     . intro j2 dK bR;obtain⟨seen,aJ,av,lN,b,H,dL,eY,ef,hN,bY,f1,f2,f3,f4,f5,rfl⟩:=(hJ _ _).1 bR;clear bR;refine aL ?_;refine .inr ⟨rfl,_,ai,P+2,N1,ab,seen,ab,az,ab,rfl,f5,f1,ca.1,Xt _,λeg=> ?_,λx hx eh=> ?_⟩
       . obtain⟨cf,df,cv⟩:=cj;have bZ:a.g.family.nodes=(aO cf).nodes:=by rw[df]
         have b0:a.g.family.root=(aO cf).root:=by rw[df]
         obtain⟨O,hO⟩:∃O,H.next=O:=⟨_,rfl⟩;rw[hO]at ef;simp(disch:=omega)[go_sem,An.e,aj.e,hO];obtain⟨G,hG⟩:∃G:Nat->DS->Prop,∀j d,G j d↔∃(k:Nat) (H':ah) (es:List bG) (clk:Nat) (lo:List (Int×Nat)),j+k=n/\O<H'.next/\(∀i,i<O->H'.get i=H.get i)/\H'.get O=some (.map es clk)/\jb es lo/\(∀p∈lo,p.2=0)/\lg es clk/\
          d=⟨bw [(0,.ptr a.e 0),(4,.v (.pointer (some ⟨N1+1,0,none⟩))),(14,.v (.pointer (some ⟨P+1,0,none⟩))),(16,.v (.map (some O))),(122,iV n),(123,iV k)],166,[],H'⟩:=⟨_,λ_ _=>Q0⟩
         refine bM G n ⟨_,aB.bk (l:=[(0,.ptr a.e 0),(4,.v (.pointer (some ⟨N1+1,0,none⟩))),(14,.v (.pointer (some ⟨P+1,0,none⟩))),(16,.v (.map (some O))),(122,iV n),(123,iV (0:Nat))]) ?_,(hG _ _).2 ⟨0,_,[],0,[],rfl, ?_,λi hi=> ?_, ?_,rfl,λp h=>(by cases h),lg.nil 0,rfl⟩⟩ ?_
         . simp(disch:=omega)[go_sem,An.e,aj.e,hn]
         . simp(disch:=omega)[go_sem,hO]
         . simp(disch:=omega)[go_sem,hO]
         . simp(disch:=omega)[go_sem,hO]
         . intro j3 dV bW;obtain⟨k3,H3,bI,aA,dg,dY,dh,aE,cx,cy,cz,cB,rfl⟩:=(hG _ _).1 bW;clear bW;have e1:H3.get N1=some (.map az ab):=by rw[aE N1 aa,f1]
           have e2:H3.get (N1+1)=some (.row [.v (.map (some N1))] true 0):=by rw[aE (N1+1) aa,f2]
           have e3:H3.get P=some (.map aJ av):=by rw[aE P aa,f3]
           have e4:H3.get (P+1)=some (.row [.v (.map (some P))] true 0):=by rw[aE (P+1) aa,f4]
           by_cases eZ:k3<n
           . have bz:(k3:Int)<n:=aa;simp(disch:=omega)[go_sem,bz,e4];cases aY:bq lN k3 with
             |none=>
              have h1:=sv j7 qK hN k3 false Db rfl aY;refine⟨_,lT (es:=aJ) (clock:=av) e3 rfl h1, ?_⟩;simp(disch:=omega)[go_sem,fO,aG];refine⟨j3-1,aa,_,aB.bk (l:=[(0,.ptr a.e 0),(4,.v (.pointer (some ⟨N1+1,0,none⟩))),(14,.v (.pointer (some ⟨P+1,0,none⟩))),(16,.v (.map (some O))),(122,iV n),(123,iV (k3+1:Nat))]) ?_,(hG _ _).2 ⟨k3+1,H3,bI,aA,dg,aa,dh,aE,cx,cy,cz,cB,rfl⟩⟩;exact ai
             |some r=>
              obtain⟨R,xs⟩:=r;obtain⟨q1,q2,q3,q4,q5,q6,q7,q8⟩:=bY.1 _ _ _ aY;have h1:=su j7 qK hN k3 false aY;refine⟨_,lT (es:=aJ) (clock:=av) e3 rfl h1, ?_⟩;have ei:¬xs.length=0:=λh=>q6 (List.length_eq_zero_iff.1 h);have e5:H3.get R=some (.row (zs xs) true 1):=by rw[aE R aa,q3]
              obtain⟨X,hX⟩:∃X,H3.next=X:=⟨_,rfl⟩;rw[hX]at dh;simp(disch:=omega)[go_sem,wF,ei,q6,An.e,aj.e,bZ,b0,hX];refine au.any (I7 (N:=n) (n:=k3) (ST:=N1) (Bs:=N1+1) (NX:=P) (Bn:=P+1) (R:=R) (RM:=X) (Br:=X+1) (Q:=X+2) (Bq:=X+3) (es:=[]) (clk:=0) (l:=[]) (q:=[]) (cs:=[]) (o:=0) (ak:=0) (lS:=l1) (lN:=lN) (c0:=cf) (B:=2*mu n []) (xs:=xs) aa aa aa aa aa aa aa aa aa (by simp(disch:=omega)[go_sem,hX]) (by simp(disch:=omega)[go_sem,hX]) (by simp(disch:=omega)[go_sem,hX,e1];rfl) (by simp(disch:=omega)[go_sem,hX,e2]) (by simp(disch:=omega)[go_sem,hX,e3];rfl) (by simp(disch:=omega)[go_sem,hX,e4]) (by simp(disch:=omega)[go_sem,hX]) (by simp(disch:=omega)[go_sem,hX]) (by simp(disch:=omega)[go_sem,hX]) (by simp(disch:=omega)[go_sem,hX]) (by simp(disch:=omega)[go_sem,hX,e5]) b8 bn hN rfl (.inl rfl) rfl rfl aa aa aY q8 aa ⟨λk c h=>by simp[bq]at h,λy hy=>by cases hy⟩ cv rfl ?_ λH4 T4 cc bB l4 ej Q4 o4 z4 b1 dj dk ek dm dn b2 b5 dp bT dr g1 g2 g3 af=> ?_)
              . have:=Dd n [];omega
              simp(disch:=omega)[go_sem,hX]at dm af;have s1:H4.get N1=some (.map az ab):=by rw[af N1 aa aa aa aa];simp(disch:=omega)[go_sem,hX,e1]
              have s2:H4.get (N1+1)=some (.row [.v (.map (some N1))] true 0):=by rw[af (N1+1) aa aa aa aa];simp(disch:=omega)[go_sem,hX,e2]
              have s3:H4.get P=some (.map aJ av):=by rw[af P aa aa aa aa];simp(disch:=omega)[go_sem,hX,e3]
              have s4:H4.get (P+1)=some (.row [.v (.map (some P))] true 0):=by rw[af (P+1) aa aa aa aa];simp(disch:=omega)[go_sem,hX,e4]
              have s5:H4.get (X+1)=some (.row [.v (.map (some X))] true 0):=by rw[af (X+1) aa aa aa aa];simp(disch:=omega)[go_sem,hX]
              have s6:H4.get O=some (.map bI aA):=by rw[af O aa aa aa aa];simp(disch:=omega)[go_sem,hX,cx]
              have s7:∀i,i<O->H4.get i=H.get i:=λi hi=>by rw[af i aa aa aa aa,<-aE i hi];simp(disch:=omega)[go_sem,hX]
              obtain⟨V,hV⟩:∃V:Nat->DS->Prop,∀j d,V j d↔∃(H4:ah) (cc:List bG) (bB:Nat) (l4:List (Int×Nat)) (q4:List Int) (Q4 o4 z4:Nat) (b1:List DV),j=2*mu n l4+q4.length/\j<=1100000/\X+4<=H4.next/\jb cc l4/\wG k3 n l4 q4/\X+1<Q4/\Q4≠X+3/\Q4<H4.next/\(z4=0\/z4=1)/\b1.length=o4+q4.length/\b1.drop o4=zs q4/\
               H4.get X=some (.map cc bB)/\H4.get Q4=some (.row b1 true z4)/\H4.get (X+3)=some (.row [.v (.slice (some ⟨Q4,o4,none⟩) q4.length q4.length)] true 0)/\H4.get N1=some (.map az ab)/\H4.get (N1+1)=some (.row [.v (.map (some N1))] true 0)/\H4.get P=some (.map aJ av)/\H4.get (P+1)=some (.row [.v (.map (some P))] true 0)/\H4.get (X+1)=some (.row [.v (.map (some X))] true 0)/\H4.get O=some (.map bI aA)/\(∀i,i<O->H4.get i=H.get i)/\
               d=⟨bw [(0,.ptr a.e 0),(4,.v (.pointer (some ⟨N1+1,0,none⟩))),(14,.v (.pointer (some ⟨P+1,0,none⟩))),(16,.v (.map (some O))),(17,iV k3),(18,.v (.pointer (some ⟨X+1,0,none⟩))),(19,.v (.pointer (some ⟨X+3,0,none⟩))),(20,.fn 137 [] [.v (.pointer (some ⟨P+1,0,none⟩)),.v (.pointer (some ⟨X+1,0,none⟩)),.v (.pointer (some ⟨N1+1,0,none⟩)),.v (.pointer (some ⟨X+3,0,none⟩))]),(122,iV n),(123,iV k3)],166,[],H4⟩:=⟨_,λ_ _=>Q0⟩
              refine bM V _ ⟨_,aB.bk (l:=[(0,.ptr a.e 0),(4,.v (.pointer (some ⟨N1+1,0,none⟩))),(14,.v (.pointer (some ⟨P+1,0,none⟩))),(16,.v (.map (some O))),(17,iV k3),(18,.v (.pointer (some ⟨X+1,0,none⟩))),(19,.v (.pointer (some ⟨X+3,0,none⟩))),(20,.fn 137 [] [.v (.pointer (some ⟨P+1,0,none⟩)),.v (.pointer (some ⟨X+1,0,none⟩)),.v (.pointer (some ⟨N1+1,0,none⟩)),.v (.pointer (some ⟨X+3,0,none⟩))]),(122,iV n),(123,iV k3)]) ?_,(hV _ _).2 ⟨H4,cc,bB,l4,ej,Q4,o4,z4,b1,rfl,by have:=Dd n [];omega,aa,dj,dk,dn,b2,b5,dp,bT,dr,g1,g2,g3,s1,s2,s3,s4,s5,s6,s7,rfl⟩⟩ ?_
              . simp(disch:=omega)[go_sem,An.e,aj.e,bZ,b0]
              clear hX af dm dj dk dn b2 b5 dp bT dr g1 g2 g3 s1 s2 s3 s4 s5 s6 s7 ek;intro j4 e0 dt;obtain⟨H5,cd,bd,l5,q5,Q5,o5,z5,du,en,eo,e6,cg,bE,ep,b6,er,bu,bF,dv,g1,g2,g3,s1,s2,s3,s4,s5,s6,s7,rfl⟩:=(hV _ _).1 dt;clear dt;have hmul:=Dd n l5;cases q5 with
              |nil=>
               have et:cQ l5 (k3:Int)=0:=by
                unfold cQ;cases hq:bq l5 (k3:Int)with
                |none=>rfl
                |some c=>have:=(bE.1 _ _ hq).2.1;omega
               simp(disch:=omega)[go_sem,g3,s5];refine wC (r:=X) (es:=cd) (clock:=bd) (l:=l5) g1 aa cg λM9 cE=> ?_;rw[et];obtain⟨aZ,ad,h8,h9⟩:=pA j7 sD cy k3 aA 0;refine aL ?_;refine⟨_,sy (es:=bI) (clock:=aA) (by simp(disch:=omega)[go_sem,s6]) rfl h8, ?_⟩;simp(disch:=omega)[go_sem,aG];refine⟨j3-1,aa,_,aB.bk (l:=[(0,.ptr a.e 0),(4,.v (.pointer (some ⟨N1+1,0,none⟩))),(14,.v (.pointer (some ⟨P+1,0,none⟩))),(16,.v (.map (some O))),(122,iV n),(123,iV (k3+1:Nat))]) ai,(hG _ _).2 ⟨k3+1,_,aZ,ad,_,aa, ?_,λi hi=> ?_,ai,h9,λp hp=> ?_,cB.up h8,rfl⟩⟩
               . simp(disch:=omega)[go_sem];omega
               . simp(disch:=omega)[go_sem,s7]
               . rcases abX hp with h|h
                 . exact cz p h
                 . rw[h]
              |cons m q5=>
               obtain⟨c5,b7⟩:=bE.2 m aw;obtain⟨cF,e7,e8⟩:=bE.1 m c5 b7;have eu:¬m=(k3:Int):=aa;have ew:=ab0 dv;have dw:=ab1 dv;have dx:=abZ (h:=H5) (R:=Q5) (o:=o5) (len:=q5.length+1) g2 bu aa;rw[show q5.length+1-1=q5.length from rfl]at dx;rw[afm]at bF en;simp(disch:=omega)[go_sem,g3,s5,g2,ew,-getElem?_pos];refine⟨_,dx, ?_⟩;have h1:=su j7 sD cg m false b7;simp(disch:=omega)[go_sem,eu,s5,g3];refine⟨_,lT (es:=cd) (clock:=bd) (by simp(disch:=omega)[go_sem,g1]) rfl h1, ?_⟩;refine aL ?_;cases cG:bq lN m with
               |none=>
                refine au.any (abV (NX:=P) (Bn:=P+1) (c0:=c5) aa (by simp(disch:=omega)[go_sem];try omega) (by simp(disch:=omega)[go_sem,s3];rfl) (by simp(disch:=omega)[go_sem,s4]) hN cG λM9 cE=> ?_);replace cE:=cr cE;refine aL ?_;refine⟨2*mu n l5+q5.length,aa,_,aB.bk (l:=[(0,.ptr a.e 0),(4,.v (.pointer (some ⟨N1+1,0,none⟩))),(14,.v (.pointer (some ⟨P+1,0,none⟩))),(16,.v (.map (some O))),(17,iV k3),(18,.v (.pointer (some ⟨X+1,0,none⟩))),(19,.v (.pointer (some ⟨X+3,0,none⟩))),(20,.fn 137 [] [.v (.pointer (some ⟨P+1,0,none⟩)),.v (.pointer (some ⟨X+1,0,none⟩)),.v (.pointer (some ⟨N1+1,0,none⟩)),.v (.pointer (some ⟨X+3,0,none⟩))]),(122,iV n),(123,iV k3)]) ?_,(hV _ _).2 ⟨_,cd,bd,l5,q5,Q5,o5+1,z5,du,rfl,aa, ?_,cg,⟨bE.1,λy hy=>bE.2 y (by simp[hy])⟩,ep,b6, ?_,bu,aa,dw, ?_, ?_, ?_, ?_, ?_, ?_, ?_, ?_, ?_,λi hi=> ?_,rfl⟩⟩
                all_goals simp(disch:=omega)[go_sem,g1,g2,s1,s2,s3,s4,s5,s6,s7]
                all_goals omega
               |some r=>
                obtain⟨R2,ey⟩:=r;obtain⟨r1,r2,r3,r4,r5,r6,r7,r8⟩:=bY.1 _ _ _ cG;refine au.any (I7 (N:=n) (n:=k3) (ST:=N1) (Bs:=N1+1) (NX:=P) (Bn:=P+1) (R:=R2) (RM:=X) (Br:=X+1) (Q:=Q5) (Bq:=X+3) (es:=cd) (clk:=bd) (l:=l5) (q:=q5) (cs:=du) (o:=o5+1) (ak:=z5) (lS:=l1) (lN:=lN) (c0:=c5) (B:=2*mu n l5+q5.length) (xs:=ey) aa aa aa aa aa aa aa aa b6 (by simp(disch:=omega)[go_sem];try omega) (by simp(disch:=omega)[go_sem];try omega) (by simp(disch:=omega)[go_sem,s1];rfl) (by simp(disch:=omega)[go_sem,s2]) (by simp(disch:=omega)[go_sem,s3];rfl) (by simp(disch:=omega)[go_sem,s4]) (by simp(disch:=omega)[go_sem,g1];try rfl) (by simp(disch:=omega)[go_sem,s5]) (by simp(disch:=omega)[go_sem,g2]) ai (by simp(disch:=omega)[go_sem,s7,r3]) b8 bn hN cg bu aa dw aa aa cG r8 aa ⟨bE.1,λy hy=>bE.2 y (by simp[hy])⟩ cF rfl aa λH6 T6 ez cH l6 q6 Q6 o6 z6 eB eC eD fa eI eJ cI cK eK eL eM u1 u2 u3 af=> ?_);simp(disch:=omega)[go_sem]at eI af;have v1:H6.get N1=some (.map az ab):=by rw[af N1 aa aa aa aa];simp(disch:=omega)[go_sem,s1]
                have v2:H6.get (N1+1)=some (.row [.v (.map (some N1))] true 0):=by rw[af (N1+1) aa aa aa aa];simp(disch:=omega)[go_sem,s2]
                have v3:H6.get P=some (.map aJ av):=by rw[af P aa aa aa aa];simp(disch:=omega)[go_sem,s3]
                have v4:H6.get (P+1)=some (.row [.v (.map (some P))] true 0):=by rw[af (P+1) aa aa aa aa];simp(disch:=omega)[go_sem,s4]
                have v5:H6.get (X+1)=some (.row [.v (.map (some X))] true 0):=by rw[af (X+1) aa aa aa aa];simp(disch:=omega)[go_sem,s5]
                have v6:H6.get O=some (.map bI aA):=by rw[af O aa aa aa aa];simp(disch:=omega)[go_sem,s6]
                have v7:∀i,i<O->H6.get i=H.get i:=λi hi=>by rw[af i aa aa aa aa,<-s7 i hi];simp(disch:=omega)[go_sem]
                refine aL ?_;exact⟨2*mu n l6+q6.length,aa,_,aB.bk (l:=[(0,.ptr a.e 0),(4,.v (.pointer (some ⟨N1+1,0,none⟩))),(14,.v (.pointer (some ⟨P+1,0,none⟩))),(16,.v (.map (some O))),(17,iV k3),(18,.v (.pointer (some ⟨X+1,0,none⟩))),(19,.v (.pointer (some ⟨X+3,0,none⟩))),(20,.fn 137 [] [.v (.pointer (some ⟨P+1,0,none⟩)),.v (.pointer (some ⟨X+1,0,none⟩)),.v (.pointer (some ⟨N1+1,0,none⟩)),.v (.pointer (some ⟨X+3,0,none⟩))]),(122,iV n),(123,iV k3)]) ai,(hV _ _).2 ⟨H6,ez,cH,l6,q6,Q6,o6,z6,eB,rfl,aa,aa,eC,eD,eJ,cI,cK,eK,eL,eM,u1,u2,u3,v1,v2,v3,v4,v5,v6,v7,rfl⟩⟩
           . have bz:¬(k3:Int)<n:=aa;simp(disch:=omega)[go_sem,bz];intro aH w1 w2 w3;exact hk aH _ O bI aA dg cy cz cB aa aa (by rw[w2 O aa,cx]) λi hi=>w3 i aa
       . obtain⟨⟨⟨u,y⟩,c⟩,hp,dz,dA⟩:=b8.mem hx;obtain⟨c',ch⟩:=abW hp;obtain⟨hu,cM,cP⟩:=bo _ _ ch;simp only at dz dA hu cM cP ch;have fb:=Jb hx eh;have fc:=ca.find hx;refine aL ?_;refine⟨_,Jd (es:=az) (clock:=ab) (r:=P+2) (m:=N1) (since:=ab) (seen:=seen) (x:=x) ai (by simp(disch:=omega)[go_sem,f1]) ca hx, ?_⟩;rw[dz,dA,qL];simp(disch:=omega)[go_sem,fO];refine bH [dq 0,jW 0,dq 2,aC 0,ae 0,aC 16,aC 56,ae 0,aC 128,cN 384,aT 1016,aT 2047] an 1 rfl ?_;simp(disch:=omega)[go_sem,f4,dT]
         repeat refine⟨aa, ?_⟩
         cases aY:bq lN u with
         |none=>
          have h1:=sv j7 qK hN u false Db rfl aY;refine⟨_,lT (es:=aJ) (clock:=av) (by simp(disch:=omega)[go_sem,f3]) rfl h1, ?_⟩;simp(disch:=omega)[go_sem,fO,dT];refine⟨_,oU _ _ _ _ _ aa aa, ?_⟩;refine aL ?_;obtain⟨aZ,ad,h8,h9⟩:=pA j7 qK hN u av (H.next+1+1,[y]);simp only[wF,afB]at h8
          repeat refine⟨aa, ?_⟩
          refine⟨_,sy (es:=aJ) (clock:=av) (by simp(disch:=omega)[go_sem,f3]) rfl h8, ?_⟩;refine aL ?_;refine⟨left az (seen++[x.born]),aa,_,aB.bk (l:=[(0,.ptr a.e 0),(4,.v (.pointer (some ⟨N1+1,0,none⟩))),(14,.v (.pointer (some ⟨P+1,0,none⟩))),(100,.v (.pointer (some ⟨P+2,0,none⟩)))]) ?_,(hJ _ _).2 ⟨seen++[x.born],aZ,ad,_,b+1,_,rfl,aa, ?_,h9,nj.put bY (c:=c') (R':=H.next+1+1) (xs:=[]) hu cM cP ch (.inl ⟨aY,rfl⟩) aa ?_ ?_ (λR2 w1 w2 w3=> ?_) aa, ?_, ?_, ?_, ?_, ?_,rfl⟩⟩
          all_goals simp(disch:=omega)[go_sem,f1,f2,f3,f4,f5]
          all_goals omega
         |some r=>
          obtain⟨R,xs⟩:=r;have h1:=su j7 qK hN u false aY;refine⟨_,lT (es:=aJ) (clock:=av) (by simp(disch:=omega)[go_sem,f3]) rfl h1, ?_⟩;obtain⟨q1,q2,q3,q4,q5,q6,q7,q8⟩:=bY.1 _ _ _ aY;simp(disch:=omega)[go_sem,dT];refine⟨_,rX _ _ _ _ _ _ (zs xs) _ (by simp(disch:=omega)[go_sem,q3]) aw aa aa (abS [y]) aa, ?_⟩;refine aL ?_;obtain⟨aZ,ad,h8,h9⟩:=pA j7 qK hN u av (H.next+1+1,xs++[y]);have eN:(xs++[y]).length=xs.length+1:=aw;simp only[wF,eN]at h8
          repeat refine⟨aa, ?_⟩
          refine⟨_,sy (es:=aJ) (clock:=av) (by simp(disch:=omega)[go_sem,f3]) rfl h8, ?_⟩;refine aL ?_;refine⟨left az (seen++[x.born]),aa,_,aB.bk (l:=[(0,.ptr a.e 0),(4,.v (.pointer (some ⟨N1+1,0,none⟩))),(14,.v (.pointer (some ⟨P+1,0,none⟩))),(100,.v (.pointer (some ⟨P+2,0,none⟩)))]) ?_,(hJ _ _).2 ⟨seen++[x.born],aZ,ad,_,b+1,_,rfl,aa, ?_,h9,nj.put bY (c:=c') (R':=H.next+1+1) (xs:=xs) hu cM cP ch (.inr ⟨R,aY⟩) aa ?_ ?_ (λR2 w1 w2 w3=> ?_) aa, ?_, ?_, ?_, ?_, ?_,rfl⟩⟩
          all_goals try have w4:R2≠R:=λh=>w3 xs (by rw[h];exact aY)
          all_goals simp(disch:=omega)[go_sem,f1,f2,f3,f4,f5]
          all_goals omega
end Go.Sp
end
noncomputable section
open Go Go.aD Go.Proofs
namespace Go.aD
variable {e:Env} {ar:Bool}
def au.still{K:b9}{dd:List FuncId}{h:ah}{f:FuncId}{args av:List DV}(l:List Nat)(hl:∀i∈l,(h.get i).isSome=true)(hz:de (rowsOf h l) args av)(hc:au e ar (λv dd h' T=>K v dd h' (T++l)) dd (eV h l) (f,av)):au e ar K dd h (f,args):=cJ.still l hl hz hc
end Go.aD
namespace Go.Sp
set_option maxHeartbeats 4000000 in
def acb{K:b9}{dd:List FuncId}{h:ah}{F:Nat}(a:An)(ha:a.Ok)(NU:Int->Prop)(aM:sE a NU)(hE:yZ a NU)(aY:∃c,a.g.family=aO c/\c<256)(hF:h.get F=some (.row [bV false] true 0))(aH:F<h.next)
 (hk:∀h' T,h.next<=h'.next->(∀i,i<h.next->h'.get i=h.get i)->K (.bf []) dd h' T):
 au E false K dd h (73,[.ptr a.e 0,.v (.pointer (some ⟨F,0,none⟩))]):=by
 refine cJ.frame [F] (by simpa using aH) ?_;obtain⟨N,hN⟩:∃N,h.next=N:=⟨_,rfl⟩;refine fw (K:=λv _ aP _=>∀ab:ah,ab.next=aP.next->(∀i,(i∈[F]\/h.next<=i)->ab.get i=aP.get i)->(∀i,i<h.next->i∉[F]->ab.get i=h.get i)->K v dd ab [F]) (dd:=dd) Tryz.ntmps73 Tryz.results73 ?_;simp only[eS,hF];rw[hN]at aH⊢;refine aL ?_;refine aca a ha NU aM hE aY λh1 T R es clock lo bN hz hb bO bR bo hold=> ?_;simp(disch:=omega)[go_sem]at bO hold;obtain⟨N1,aJ⟩:∃N1,h1.next=N1:=⟨_,rfl⟩;rw[aJ]at bR;have bS:h1.get F=some (.row [bV false] true 0):=by rw[hold F aH];simp
 refine aL ?_;refine⟨_,Jc (es:=es) (clock:=clock) sD bo, ?_⟩;simp(disch:=omega)[go_sem,aJ];obtain⟨J,hJ⟩:∃J:Nat->DS->Prop,∀j d,J j d↔∃(seen:List Nat) (H:ah),j=left es seen/\N1<H.next/\H.get R=some (.map es clock)/\H.get F=some (.row [bV false] true 0)/\H.get N1=some (.cC (some R) clock seen clock)/\
  d=⟨bw [(1,.v (.pointer (some ⟨F,0,none⟩))),(7,.v (.pointer (some ⟨N1,0,none⟩)))],18,[],H⟩:=⟨_,λ_ _=>Q0⟩
 refine bM J es.length ⟨_,aB.bk (l:=[(1,.v (.pointer (some ⟨F,0,none⟩))),(7,.v (.pointer (some ⟨N1,0,none⟩)))]) ai,(hJ _ _).2 ⟨[],_,(I8 es).symm, ?_, ?_, ?_, ?_,rfl⟩⟩ ?_
 . simp(disch:=omega)[go_sem,aJ]
 . simp(disch:=omega)[go_sem,aJ,bo]
 . simp(disch:=omega)[go_sem,aJ,bS]
 . simp(disch:=omega)[go_sem,aJ]
 . intro j2 bT aS;obtain⟨seen,H,bW,bX,f1,f2,f3,rfl⟩:=(hJ _ _).1 aS;clear aS;refine aL ?_;refine .inr ⟨rfl,_,ai,N1,R,clock,seen,clock,es,clock,rfl,f3,f1,hb.1,Xt _,λbY=> ?_,λx hx bZ=> ?_⟩
   . refine aL ?_;intro ab q1 q2 b0 q3;refine hk ab _ aa λi hi=> ?_;by_cases dS:i=F
     . subst dS;rw[hF,q2,f2]
     . exact q3 i aa dS
   . obtain⟨⟨u,c⟩,hp,bq,bs⟩:=bN.mem hx;have b1:c=0:=hz _ hp;subst b1;have aW:(aO 0).root=0:=rfl;simp only at bq bs;have cv:=Jb hx bZ;refine aL ?_;refine⟨_,Jd (es:=es) (clock:=clock) (r:=N1) (m:=R) (since:=clock) (seen:=seen) (x:=x) ai (by simp(disch:=omega)[go_sem,f1]) hb hx, ?_⟩;rw[bq,bs,sA];simp(disch:=omega)[go_sem,fO,Dg.e,f2,aW];refine⟨left es (seen++[x.born]),aa,_,aB.bk (l:=[(1,.v (.pointer (some ⟨F,0,none⟩))),(7,.v (.pointer (some ⟨N1,0,none⟩)))]) ?_,(hJ _ _).2 ⟨seen++[x.born],_,rfl, ?_, ?_, ?_, ?_,rfl⟩⟩
     all_goals simp(disch:=omega)[go_sem,f1,f2,f3]
     all_goals omega
def sF(H:ah)(B U:Nat)(dE:List Nat)(pv:DV):Prop:=
 (dE=[]/\pv=cm)\/∃R,B<R/\R<U/\pv=.v (.slice (some ⟨R,0,none⟩) dE.length dE.length)/\H.get R=some (.row (dE.map λc=>(aO c).e).flatten true 2)
def y5{S:fB}{b ak:Nat}{cs xs:List DV}(h:S b=some (cs,ak))(hz:de S cs xs):Fz S (.v (.pointer (some ⟨b,0,none⟩))) (.ptr xs 0):=by
 have hl:=hz.length;exact Fz.ptr (o:=0) (off:=0) h aa λi v d h1 h2=>by
  rw[Nat.zero_add]at h2;obtain⟨d',h3,h4⟩:=hz.get i v h2;rw[h1]at h3;cases h3;exact h4
def sF.fz{H:ah}{M U:Nat}{dE:List Nat}{pv:DV}{g:aj}(h:sF H M U dE pv)(hM:H.get M=some (.row (g.e++[pv]) true 0)):∃l:List Nat,(∀i∈l,M<=i)/\(∀i∈l,(H.get i).isSome=true)/\Fz (rowsOf H l) (.v (.pointer (some ⟨M,0,none⟩))) (.ptr (An.e ⟨g,dE⟩) 0):=by
 rcases h with⟨rfl,rfl⟩|⟨R,h1,h2,rfl,h4⟩
 . refine⟨[M],aw,by simp[hM],y5 (ak:=0) (fq aw hM) ?_⟩;exact aU.append (de.refl _) (.cons (.nil aa) .nil)
 . refine⟨[M,R],by simp;omega,by simp[hM,h4],y5 (ak:=0) (fq aw hM) ?_⟩;refine aU.append (de.refl _) (.cons ?_ .nil);exact dW (ak:=2) (fq aw h4) (.inr rfl) aa aw (Xt _) (λx hx=>by obtain⟨y,_,rfl⟩:=HT.1 hx;rfl)
def sF.same{H H':ah}{B U U':Nat}{dE:List Nat}{pv:DV}(h:sF H B U dE pv)(hs:∀i,B<i->i<U->H'.get i=H.get i)(hU:U<=U'):sF H' B U' dE pv:=by
 rcases h with h|⟨R,h1,h2,h3,h4⟩
 . exact .inl h
 . exact .inr ⟨R,h1,aa,h3,by rw[hs R h1 h2,h4]⟩
set_option maxHeartbeats 4000000 in
def acd{K:b9}{dd:List FuncId}{h:ah}{F:Nat}(g:aj)(hg:GV g)(NU:Int->Prop)(aM:∀dE,sE ⟨g,dE⟩ NU)(hE:∀dE,yZ ⟨g,dE⟩ NU)(hF:h.get F=some (.row [bV false] true 0))(aH:F<h.next)
 (hk:∀h' T,h.next<=h'.next->(∀i,i<h.next->h'.get i=h.get i)->K (iV 0) dd h' T):
 au E false K dd h (72,[.agg g.e,.fn 73 [] [.v (.pointer (some ⟨F,0,none⟩))]]):=by
 obtain⟨cf,aZ,ba,b2⟩:=hg.cO.cO;have az:=ba.1;refine cJ.frame [F] (by simpa using aH) ?_;obtain⟨N,hN⟩:∃N,h.next=N:=⟨_,rfl⟩;refine fw (K:=λv _ aP _=>∀ab:ah,ab.next=aP.next->(∀i,(i∈[F]\/h.next<=i)->ab.get i=aP.get i)->(∀i,i<h.next->i∉[F]->ab.get i=h.get i)->K v dd ab [F]) (dd:=dd) Tryz.ntmps72 Tryz.results72 ?_;simp only[eS,hF];rw[hN]at aH⊢;have aX:=CJ g hg;simp(disch:=omega)[go_sem,aj.e]at aX⊢;refine au.any (au.mk aX λM=>aR λhM=> ?_);simp(disch:=omega)[go_sem,aj.e];have cx:=hg.aq.len;obtain⟨I,hI⟩:∃I:Nat->DS->Prop,∀j d,I j d↔∃(k:Nat) (H:ah) (dE:List Nat) (pv:DV),j+k=g.aq.length/\M<H.next/\dE.length=k/\(∀c∈dE,c<256)/\sF H M H.next dE pv/\H.get F=some (.row [bV false] true 0)/\H.get N=some (.row g.e true 0)/\H.get (N+1)=some (.row [iV 0] true 0)/\H.get M=some (.row (g.e++[pv]) true 0)/\
  d=⟨bw [(1,.fn 73 [] [.v (.pointer (some ⟨F,0,none⟩))]),(2,.v (.pointer (some ⟨N,0,none⟩))),(4,.v (.pointer (some ⟨N+1,0,none⟩))),(6,.v (.pointer (some ⟨M,0,none⟩))),(22,.sl 13 (g.aq.map aK.e)),(23,iV g.aq.length),(24,iV (k:Nat))],72,[129],H⟩:=⟨_,λ_ _=>Q0⟩
 refine bM I g.aq.length ⟨_,aB.bk (l:=[(1,.fn 73 [] [.v (.pointer (some ⟨F,0,none⟩))]),(2,.v (.pointer (some ⟨N,0,none⟩))),(4,.v (.pointer (some ⟨N+1,0,none⟩))),(6,.v (.pointer (some ⟨M,0,none⟩))),(22,.sl 13 (g.aq.map aK.e)),(23,iV g.aq.length),(24,iV (0:Nat))]) ai,(hI _ _).2 ⟨0,_,[],cm,rfl,ai,rfl,λc hc=>(by cases hc),.inl ⟨rfl,rfl⟩,ai, ?_,ai, ?_,rfl⟩⟩ ?_
 . simp(disch:=omega)[go_sem,aj.e]
 . simp(disch:=omega)[go_sem,aj.e]
 . intro j ds bt;obtain⟨k,H,dE,pv,hj,bX,bb,bu,bz,f1,f2,f3,f4,rfl⟩:=(hI _ _).1 bt;clear bt;by_cases b5:k<g.aq.length
   . have aA:(k:Int)<g.aq.length:=aa;obtain⟨p,hx⟩:∃p,g.aq[k]? =some p:=⟨_,Rm b5⟩;have bB:=UR hx;have bD:=hg.aq.ok p bB;have cy:=(hg.size.right p bB).1;obtain⟨cp,bE,bc⟩:=bD.cond;have bd:=bc.1;have hand:=wB cf cp az bd;have b6:cf&&&cp<256:=aft afu az;have ad:=qJ (ar:=true) (aO (cf&&&cp));have b7:g.family.nodes=(aO cf).nodes:=by rw[aZ]
     have b8:g.family.root=(aO cf).root:=by rw[aZ]
     have ca:p.cond.nodes=(aO cp).nodes:=by rw[bE]
     have cb:p.cond.root=(aO cp).root:=by rw[bE]
     simp only[Dg.e]at hand ad;simp(disch:=omega)[go_sem,aA,hx,-getElem?_pos,f2,aK.e,aj.e,b7,b8,ca,cb];refine au.any (au.mk hand λM2=>cY λcc=> ?_);refine au.any (au.mk ad λM3 bg=> ?_);replace bg:=cr bg;refine aL ?_;obtain⟨J,hJ⟩:∃J:Nat->DS->Prop,∀j d,J j d↔∃(m c D:Nat) (H':ah),j+m=p.right.length/\c<256/\H.next<=D/\D<H'.next/\sF H' M D dE pv/\H'.get F=some (.row [bV false] true 0)/\H'.get N=some (.row g.e true 0)/\H'.get (N+1)=some (.row [iV 0] true 0)/\H'.get M=some (.row (g.e++[pv]) true 0)/\H'.get D=some (.row (aO c).e true 0)/\
      d=⟨bw [(1,.fn 73 [] [.v (.pointer (some ⟨F,0,none⟩))]),(2,.v (.pointer (some ⟨N,0,none⟩))),(4,.v (.pointer (some ⟨N+1,0,none⟩))),(6,.v (.pointer (some ⟨M,0,none⟩))),(22,.sl 13 (g.aq.map aK.e)),(23,iV g.aq.length),(24,iV (k:Nat)),(9,.v (.pointer (some ⟨D,0,none⟩))),(37,.sl 2 (p.right.map Sym.e)),(38,iV p.right.length),(39,iV (m:Nat))],72,[129],H'⟩:=⟨_,λ_ _=>Q0⟩
     refine bM J p.right.length ⟨_,aB.bk (l:=[(1,.fn 73 [] [.v (.pointer (some ⟨F,0,none⟩))]),(2,.v (.pointer (some ⟨N,0,none⟩))),(4,.v (.pointer (some ⟨N+1,0,none⟩))),(6,.v (.pointer (some ⟨M,0,none⟩))),(22,.sl 13 (g.aq.map aK.e)),(23,iV g.aq.length),(24,iV (k:Nat)),(9,.v (.pointer (some ⟨M3,0,none⟩))),(37,.sl 2 (p.right.map Sym.e)),(38,iV p.right.length),(39,iV (0:Nat))]) ?_,(hJ _ _).2 ⟨0,cf&&&cp,M3,_,rfl,b6,by omega, ?_,bz.same (λi h1 h2=> ?_) (by omega), ?_, ?_, ?_, ?_, ?_,rfl⟩⟩ ?_
     . simp(disch:=omega)[go_sem]
     . simp(disch:=omega)[go_sem]
     . simp(disch:=omega)[go_sem]
     . simp(disch:=omega)[go_sem,f1]
     . simp(disch:=omega)[go_sem,f2]
     . simp(disch:=omega)[go_sem,f3]
     . simp(disch:=omega)[go_sem,f4]
     . simp(disch:=omega)[go_sem,Dg.e]
     . clear hand ad cc bg;intro j2 bT aS;obtain⟨m,c,D,H',bW,hc,bF,cz,aE,e1,e2,e3,e4,e5,rfl⟩:=(hJ _ _).1 aS;clear aS;by_cases cd:m<p.right.length
       . have ao:(m:Int)<p.right.length:=aa;obtain⟨s,hs⟩:∃s,p.right[m]? =some s:=⟨_,Rm cd⟩;have bG:=bD.right s (UR hs);cases ht:s.tok with
         |false=>
          simp(disch:=omega)[go_sem,ao,hs,-getElem?_pos,Sym.e,ht,aG];refine⟨j2-1,aa,_,aB.bk (l:=[(1,.fn 73 [] [.v (.pointer (some ⟨F,0,none⟩))]),(2,.v (.pointer (some ⟨N,0,none⟩))),(4,.v (.pointer (some ⟨N+1,0,none⟩))),(6,.v (.pointer (some ⟨M,0,none⟩))),(22,.sl 13 (g.aq.map aK.e)),(23,iV g.aq.length),(24,iV (k:Nat)),(9,.v (.pointer (some ⟨D,0,none⟩))),(37,.sl 2 (p.right.map Sym.e)),(38,iV p.right.length),(39,iV (m+1:Nat))]) ?_,(hJ _ _).2 ⟨m+1,c,D,_,aa,hc,bF, ?_,aE.same (λi h1 h2=> ?_) aa, ?_, ?_, ?_, ?_, ?_,rfl⟩⟩
          all_goals simp(disch:=omega)[go_sem,e1,e2,e3,e4,e5]
          all_goals omega
         |true=>
          rw[pB,ht]at bG;obtain⟨tk,z0,z1,z2⟩:=bG;obtain⟨_,_,⟨ct,bI,bl⟩,_⟩:=hg.aF.ok tk (UR z1);have bm:=bl.1;have cg:s.idx<g.aF.length:=by
           have:=(afc.1 z1).1;omega
          have hand:=wB c ct hc bm;have bn:c&&&ct<256:=aft afu hc;have ad:=qJ (ar:=true) (aO (c&&&ct));have ch:tk.cond.nodes=(aO ct).nodes:=by rw[bI]
          have cj:tk.cond.root=(aO ct).root:=by rw[bI]
          simp only[Dg.e]at hand ad;simp(disch:=omega)[go_sem,ao,hs,-getElem?_pos,Sym.e,ht,aG];refine bH [aC 0,ae 0,aC 2,ae 0,aC 8,ae 30,ae 62,aC 126,aT 255,ae 511,ae 511,aT 2047,aT 4095] an 0 rfl ?_;simp(disch:=omega)[go_sem,e5,e2,aj.e,Sym.e,Dg.e,cg,z1,z0,-getElem?_pos,Tok.e,ch,cj]
          repeat refine⟨aa, ?_⟩
          refine au.mk hand λM4=>cY λcB=> ?_;refine au.mk ad λM5=>aR λcD=> ?_;simp(disch:=omega)[go_sem,e5,Dg.e,aG];refine⟨j2-1,aa,_,aB.bk (l:=[(1,.fn 73 [] [.v (.pointer (some ⟨F,0,none⟩))]),(2,.v (.pointer (some ⟨N,0,none⟩))),(4,.v (.pointer (some ⟨N+1,0,none⟩))),(6,.v (.pointer (some ⟨M,0,none⟩))),(22,.sl 13 (g.aq.map aK.e)),(23,iV g.aq.length),(24,iV (k:Nat)),(9,.v (.pointer (some ⟨D,0,none⟩))),(37,.sl 2 (p.right.map Sym.e)),(38,iV p.right.length),(39,iV (m+1:Nat))]) ?_,(hJ _ _).2 ⟨m+1,c&&&ct,D,_,aa,bn,bF, ?_,aE.same (λi h1 h2=> ?_) aa, ?_, ?_, ?_, ?_, ?_,rfl⟩⟩
          all_goals simp(disch:=omega)[go_sem,e1,e2,e3,e4,e5,Dg.e]
          all_goals omega
       . have ao:¬(m:Int)<p.right.length:=aa;simp(disch:=omega)[go_sem,ao,aG];refine bH [ae 0,ae 0,ae 2,ae 6,aC 14,aC 0,cN 32,aT 126,ae 255,ae 511,aT 1023] an 1 rfl ?_;rcases aE with⟨dO,ck⟩|⟨R,r1,r2,r3,r4⟩
         . subst dO ck;simp(disch:=omega)[go_sem,e4,aj.e,e5,Dg.e];refine⟨_,oU _ _ _ _ _ aa aa, ?_⟩;simp(disch:=omega)[go_sem,e4,aj.e,aG];refine⟨j-1,aa,_,aB.bk (l:=[(1,.fn 73 [] [.v (.pointer (some ⟨F,0,none⟩))]),(2,.v (.pointer (some ⟨N,0,none⟩))),(4,.v (.pointer (some ⟨N+1,0,none⟩))),(6,.v (.pointer (some ⟨M,0,none⟩))),(22,.sl 13 (g.aq.map aK.e)),(23,iV g.aq.length),(24,iV (k+1:Nat))]) ?_,(hI _ _).2 ⟨k+1,_,[c],.v (.slice (some ⟨H'.next+1,0,none⟩) 1 1),aa, ?_,by simp at bb⊢;omega,λx hx=>by simp at hx;subst hx;exact hc,.inr ⟨H'.next+1,aa, ?_,rfl, ?_⟩, ?_, ?_, ?_, ?_,rfl⟩⟩
           all_goals simp(disch:=omega)[go_sem,e1,e2,e3,e4,aj.e,Dg.e]
           all_goals omega
         . subst r3;simp(disch:=omega)[go_sem,e4,aj.e,e5,Dg.e];have cl:(dE.map λc=>(aO c).e).flatten.length=dE.length*2:=by rw[fi (k:=2) (λx hx=>by obtain⟨y,_,rfl⟩:=HT.1 hx;rfl),afi]
           refine⟨_,rX _ _ _ _ _ _ (dE.map λc=>(aO c).e).flatten _ (by simp(disch:=omega)[go_sem,r4]) cl aa aa rfl aa, ?_⟩;simp(disch:=omega)[go_sem,e4,aj.e,aG];refine⟨j-1,aa,_,aB.bk (l:=[(1,.fn 73 [] [.v (.pointer (some ⟨F,0,none⟩))]),(2,.v (.pointer (some ⟨N,0,none⟩))),(4,.v (.pointer (some ⟨N+1,0,none⟩))),(6,.v (.pointer (some ⟨M,0,none⟩))),(22,.sl 13 (g.aq.map aK.e)),(23,iV g.aq.length),(24,iV (k+1:Nat))]) ?_,(hI _ _).2 ⟨k+1,_,dE++[c],.v (.slice (some ⟨H'.next+1,0,none⟩) (dE.length+1) (dE.length+1)),aa, ?_,by simpa using bb,λx hx=>(by
            rcases Rb.1 hx with h|h
            . exact bu x h
            . simp at h;subst h;exact hc),.inr ⟨H'.next+1,aa, ?_,aw, ?_⟩, ?_, ?_, ?_, ?_,rfl⟩⟩
           all_goals simp(disch:=omega)[go_sem,e1,e2,e3,e4,aj.e,Dg.e]
           all_goals omega
   . have aA:¬(k:Int)<g.aq.length:=aa;simp(disch:=omega)[go_sem,aA,f4,aj.e];obtain⟨l,bJ,cn,hz⟩:=bz.fz (g:=g) f4;refine au.still l cn (.cons hz (.cons (.refl _) .nil)) ?_;have bL:F∉l:=λh=>by have:=bJ F h;omega
     have cq:N+1∉l:=λh=>by have:=bJ _ h;omega
     refine acb (F:=F) ⟨g,dE⟩ ⟨bb.trans (by simp;omega),bu,hg.aq.len,hg.size.aI,λp hp=>(hg.aq.ok p hp).left,λp hp=>(hg.size.right p hp).1⟩ NU (aM dE) (hE dE) ⟨cf,aZ,az⟩ (by rw[kU,if_neg bL,f1]) (by rw[tL];omega) λH' T hn af=> ?_;rw[tL]at hn af;have e1:H'.get F=some (.row [bV false] true 0):=by rw[af F aa,kU,if_neg bL,f1]
     have e3:H'.get (N+1)=some (.row [iV 0] true 0):=by rw[af (N+1) aa,kU,if_neg cq,f3]
     simp(disch:=omega)[go_sem,e3];refine⟨λi h=>(by cases h),λg' cu=> ?_, ?_⟩
     . obtain rfl:g'=129:=by simpa using cu
       rfl
     . refine aL ?_;intro ab q1 q2 b0 q3;refine hk ab _ aa λi hi=> ?_;by_cases dS:i=F
       . subst dS;rw[hF,q2,e1]
       . exact q3 i aa dS
def Jh(g:aj)(hg:GV g)(NU:Int->Prop)(aM:∀dE,sE ⟨g,dE⟩ NU)(hE:∀dE,yZ ⟨g,dE⟩ NU):ay E false 27 [.agg g.e] (iV 0):=by
 refine aV Tryz.ntmps27 Tryz.results27 λN=> ?_;simp(disch:=omega)[go_sem,aj.e];refine acd (F:=N+1) g hg NU aM hE ai ai λh' T hn hs=> ?_;have e1:h'.get (N+1)=some (.row [bV false] true 0):=by rw[hs (N+1) ai];simp(disch:=omega)[go_sem]
 simp(disch:=omega)[go_sem,e1]
end Go.Sp
end
noncomputable section
open Go Go.aD Go.Proofs
namespace Go.Sp
def Df:∀p∈eB,yz p.1 p.2:=by
 have h:(eB.all λp=>Nat.blt p.1 256&&(aO p.1).nodes.all λx=>decide (x.1<p.2))=true:=an;intro p hp;have h1:=oY.1 h p hp;rw[yx]at h1;exact⟨afo h1.1,λx hx=>of_decide_eq_true (oY.1 h1.2 x hx)⟩
def Ji(b:Int)(n:Nat)(h0:0<=b)(h1:b<256)(hn:n<=3):lR n (dg dQ b n):=by
 obtain⟨c,h2,h3⟩:=H7 b n h0 h1 hn;exact⟨c,h2,Df (c,(n:Int)) h3⟩
def Tok.strip(t:Tok):Tok:={t with cond:=bg true}
structure Ext(g g':aj):Prop where
 conds:g'.conds=g.conds
 aI:g'.aI=g.aI
 aF:∀(i:Nat) t,g.aF[i]? =some t->∃t',g'.aF[i]? =some t'/\t'.cls=t.cls/\t'.lit=t.lit
 aq:∀(i:Nat) p,g.aq[i]? =some p->g'.aq[i]? =some p
def Ext.mz{g g':aj}(h:Ext g g'):g.aq.length<=g'.aq.length:=by
 rcases afz g.aq.length with h0|h0
 . omega
 . have h1:=h.aq (g.aq.length-1) _ (Rm aa);have:=(afc.1 h1).1;omega
def pB.ext{g g':aj}(h:Ext g g'){s:Sym}(hs:pB g s):pB g' s:=by
 obtain⟨tok,i⟩:=s;cases tok with
 |false=>exact(show 0<=i/\i<g'.aI.length from by rw[h.aI];exact hs)
 |true=>
  obtain⟨t,h0,h1,h2⟩:=(show∃t,0<=i/\g.aF[i.toNat]? =some t/\t.cls=0 from hs);obtain⟨t',h3,h4,_⟩:=h.aF _ t h1;exact(show∃t,0<=i/\g'.aF[i.toNat]? =some t/\t.cls=0 from⟨t',h0,h3,h4.trans h2⟩)
def ur.ext{g g':aj}(h:Ext g g'){p:aK}(hp:ur g p):ur g' p:=
 ⟨by rw[h.aI];exact hp.left,λs hs=>(hp.right s hs).ext h,by rw[h.conds];exact hp.cond,hp.eR,hp.ar⟩
def uu.ext{g g':aj}(h:Ext g g'){l:cP}(hl:uu g l):uu g' l:=
 ⟨hl.assoc,by rw[h.conds];exact hl.cond,λp hp=>by have:=hl.aq p hp;have:=h.mz;omega⟩
def nf.ext{g g':aj}(h:Ext g g'){K:Tok->Prop}(hK:∀t t':Tok,t'.cls=t.cls->t'.lit=t.lit->K t->K t'){l:List Int}(hl:nf g K l):nf g' K l:=
 ⟨hl.ne,hl.len,λn hn=>by
  obtain⟨h0,t,h1,h2⟩:=hl.tok n hn;obtain⟨t',h3,h4,h5⟩:=h.aF _ t h1;exact⟨h0,t',h3,hK t t' h4 h5 h2⟩,hl.up⟩
def sB.ext{g g':aj}(h:Ext g g'){f:bl}(hf:sB g f):sB g' f:=by
 obtain⟨p,c,s,p0,hp,c0,hc,a0,hs,rfl⟩:=hf.ex;exact⟨p,c,_,p0,h.aq _ _ hp,c0,h.aq _ _ hc,a0,hs,rfl⟩
def sC.ext{g g':aj}(h:Ext g g'){f:bl}(hf:sC g f):sC g' f:=by
 rcases hf with⟨a,b,c,d,e⟩|⟨a,b,c,d,e⟩|⟨a,b,c,d,e,i,j,k⟩|⟨a,b,c,d,e,i,j,k⟩|⟨a,b,c,d,e,i,t,j,k,l,m⟩
 . exact .inl ⟨a,b,c,d,e.ext h⟩
 . exact .inr (.inl ⟨a,b,c,d,e.ext h⟩)
 . exact .inr (.inr (.inl ⟨a,b,c,d,e,i,by rw[h.aI];exact j,k.ext h λ_ _ h1 _ h2=>h1.trans h2⟩))
 . exact .inr (.inr (.inr (.inl ⟨a,b,c,d,e,i,by rw[h.aI];exact j,k.ext h λ_ _ h1 _ h2=>h1.trans h2⟩)))
 . obtain⟨t',h3,h4,h5⟩:=h.aF _ t j;exact .inr (.inr (.inr (.inr ⟨a,b,c,d,e,i,t',h3,h4.trans k,h5.trans l,m.ext h λ_ _ _ h1 h2=>by rw[h1];exact h2⟩)))
structure GI(g:aj)(r m:Nat):Prop where
 room:eg g r
 cO:qE g
 tk:g.aF.map Tok.strip=aF.map Tok.strip
 tc:∀t∈g.aF,lR g.conds.length t.cond
 aI:kZ g.aI/\g.start=0
 mz:g.aq.length<=m
 new:kZ (g.aq.map (·.name))
 res:∀k,g.aq.length<=k->k<100->jz k∉g.aq.map (·.name)
 ok:∀p∈g.aq,ur g p
 nd:(g.bj.flatMap (·.aq)).Nodup
 pG:∀l∈g.bj,uu g l
 lh:∀f∈g.bx,lR g.conds.length f.cond/\sC g f
def GI.ord{g:aj}{r m:Nat}(h:GI g r m){i:Int}(h0:0<=i)(h1:i<9):∃t,g.aF[i.toNat]? =some t/\t.cls=0/\(t.lit=⟨#[]⟩↔i=0):=by
 have hl:=h.room.aF;obtain⟨t,ht⟩:∃t,g.aF[i.toNat]? =some t:=⟨_,Rm aa⟩;obtain⟨h2,h3⟩:=h.room.ord i.toNat t aa ht;exact⟨t,ht,h2,h3.trans aa⟩
def GI.er{g:aj}{r m:Nat}(h:GI g r m)(f:bl)(hc:lR g.conds.length f.cond)(hf:sC g f):GI (er g f) (r+1) m:=by
 have he:Ext g (Go.Sp.er g f):=⟨rfl,rfl,λi t ht=>⟨t,ht,rfl,rfl⟩,λi p hp=>hp⟩;refine⟨h.room.er f,⟨h.cO.new,h.cO.id,h.cO.len,h.cO.cO⟩,h.tk,h.tc,h.aI,h.mz,h.new,h.res,λp hp=>(h.ok p hp).ext he,h.nd,λl hl=>(h.pG l hl).ext he,λx hx=> ?_⟩;rcases Rb.1 hx with hx|hx
 . exact⟨(h.lh x hx).1,(h.lh x hx).2.ext he⟩
 . obtain rfl:=Ey.1 hx;exact⟨hc,hf.ext he⟩
def GI.more{g:aj}{r m:Nat}(h:GI g r m):GI g (r+1) m:=⟨h.room.more,h.cO,h.tk,h.tc,h.aI,h.mz,h.new,h.res,h.ok,h.nd,h.pG,h.lh⟩
def ace(g:aj)(k:Nat)(d:Dg):Ext g (j5 g k d):=by
 refine⟨rfl,rfl,λi t ht=> ?_,λi p hp=>hp⟩;by_cases hi:k=i
 . exact⟨{t with cond:=d},by simp[Go.Sp.j5,afp,ht,hi],rfl,rfl⟩
 . exact⟨t,by simp[Go.Sp.j5,afp,ht,hi],rfl,rfl⟩
def acf(l:List Tok)(k:Nat)(d:Dg):(l.modify k λx=>{x with cond:=d}).map Tok.strip=l.map Tok.strip:=by
 apply List.ext_getElem?;intro i;rw[afC,afC,afp];cases l[i]? with
 |none=>rfl
 |some t=>
  by_cases hi:k=i
  . simp[hi,Tok.strip]
  . simp[hi]
def mem_modify{l:List Tok}{k:Nat}{d:Dg}{t:Tok}(h:t∈l.modify k λx=>{x with cond:=d}):t∈l\/t.cond=d:=by
 obtain⟨i,hi⟩:=afw h;rw[afp]at hi;cases hl:l[i]? with
 |none=>rw[hl]at hi;cases hi
 |some x=>
  rw[hl]at hi;by_cases hk:k=i
  . simp[hk]at hi;exact .inr (by rw[<-hi])
  . simp[hk]at hi;exact .inl (hi▸UR hl)
def GI.j5{g:aj}{r m:Nat}(h:GI g r m)(k:Nat)(d:Dg)(hc:lR g.conds.length d):GI (j5 g k d) (r+1) m:=by
 have he:=ace g k d;refine⟨h.room.j5 k d,⟨h.cO.new,h.cO.id,h.cO.len,h.cO.cO⟩, ?_,λt ht=> ?_,h.aI,h.mz,h.new,h.res,λp hp=>(h.ok p hp).ext he,h.nd,λl hl=>(h.pG l hl).ext he,λx hx=>⟨(h.lh x hx).1,(h.lh x hx).2.ext he⟩⟩
 . rw[<-h.tk];exact acf _ _ _
 . rcases mem_modify ht with ht|ht
   . exact h.tc t ht
   . rw[ht];exact hc
def Jj{g:aj}{p:Int}(h:m9 g p=false):p∉g.bj.flatMap (·.aq):=by
 intro hm;obtain⟨l,h1,h2⟩:=List.mem_flatMap.1 hm;have:m9 g p=true:=afq.2 ⟨l,h1,decide_eq_true h2⟩;rw[h]at this;cases this
def GI.level{g:aj}{r m:Nat}(h:GI g r m)(a b c:Int)(d:Dg)(hc:lR g.conds.length d)(ha:0<=a/\a<g.aq.length)(hb:0<=b/\b<g.aq.length)(av:0<=c/\c<=3):GI (kF g a b c d) (r+1) m:=by
 have ab:=h.room.level a b c d;unfold kF at ab⊢
 split
 . exact h.more
 . rename_i af;rw[if_neg af]at ab;have af:m9 g a=false:=by simpa using af
   let L:cP:=⟨if b≠a/\m9 g b=false then [a,b]else [a],c,d⟩
   have he:Ext g {g with bj:=g.bj++[L]}:=⟨rfl,rfl,λi t ht=>⟨t,ht,rfl,rfl⟩,λi p hp=>hp⟩;refine⟨ab,⟨h.cO.new,h.cO.id,h.cO.len,h.cO.cO⟩,h.tk,h.tc,h.aI,h.mz,h.new,h.res,λp hp=>(h.ok p hp).ext he, ?_,λl hl=> ?_,λx hx=>⟨(h.lh x hx).1,(h.lh x hx).2.ext he⟩⟩
   . show((g.bj++[L]).flatMap (·.aq)).Nodup;rw[List.flatMap_append,afD];have hL:[L].flatMap (·.aq)=if b≠a/\m9 g b=false then [a,b]else [a]:=by simp[L]
     rw[hL];have ai:=Jj af;refine⟨h.nd, ?_,λx hx y hy=> ?_⟩
     . split
       . rename_i ah;simp;exactλh=>ah.1 h.symm
       . simp
     . split at hy
       . rename_i ah;have az:=Jj ah.2;rintro rfl;simp only[WZ,afn,or_false]at hy;rcases hy with rfl|rfl
         . exact ai hx
         . exact az hx
       . rintro rfl;obtain rfl:=Ey.1 hy;exact ai hx
   . rcases Rb.1 hl with hl|hl
     . exact(h.pG l hl).ext he
     . obtain rfl:=Ey.1 hl;refine⟨av,hc,λp hp=> ?_⟩;simp only[L]at hp
       split at hp
       . simp only[WZ,afn,or_false]at hp;rcases hp with rfl|rfl
         . exact ha
         . exact hb
       . obtain rfl:=Ey.1 hp;exact ha
def GI.Cn{g:aj}{r m:Nat}(h:GI g r m)(x:Rl)(hx:x.Ok):GI (jx (dg dQ) g x) (r+1) m:=by
 have hp:=h.room.aq;have hn:=h.room.aI.1;have hc:=Ji x.cond g.conds.length hx.cond.1 hx.cond.2 h.room.conds;have ha:0<=x.a%(g.aq.length:Int)/\x.a%(g.aq.length:Int)<g.aq.length:=⟨YN _ aa,Yt _ aa⟩;have hb:0<=x.b%(g.aq.length:Int)/\x.b%(g.aq.length:Int)<g.aq.length:=⟨YN _ aa,Yt _ aa⟩;have hl:0<=x.a%(g.aI.length:Int)/\x.a%(g.aI.length:Int)<g.aI.length:=⟨YN _ aa,Yt _ aa⟩;have aA:=hx.kind;unfold jx;simp only
 split
 . exact h.level _ _ _ _ hc ha hb aa
 split
 . rename_i h1 h2
   split
   . rename_i ad;refine h.er _ hc ?_;have ao:sB g ⟨x.kind%8-1,x.a%(g.aq.length:Int),x.c%16,x.b%(g.aq.length:Int),0,0,[],dg dQ x.cond g.conds.length⟩:=by
      unfold kY at ad
      split at ad
      . rename_i P C e1 e2
        split at ad
        . rename_i s e3;simp only[yx,adr,decide_eq_true_eq]at ad;exact⟨P,C,s,ha.1,e1,hb.1,e2,by simp only;omega,e3,by obtain⟨tok,i⟩:=s;simp only at ad;rw[ad.1,ad.2]⟩
        . cases ad
      . cases ad
     rcases h2 with h2|h2
     . exact .inl ⟨by simp only;omega,rfl,rfl,rfl,ao⟩
     . exact .inr (.inl ⟨by simp only;omega,rfl,rfl,rfl,ao⟩)
   . exact h.more
 split
 . rename_i h1 h2 h3;refine h.er _ hc ?_;have ae:nf g (λt=>t.cls=0) [x.b%9]:=⟨aw,aw,λn hn=>by
    obtain rfl:=Ey.1 hn;obtain⟨t,h4,h5,_⟩:=h.ord (i:=x.b%9) aa aa;exact⟨aa,t,h4,h5⟩,λi a b h4 h5=>by simp at h5⟩
   rcases h3 with h3|h3
   . exact .inr (.inr (.inl ⟨by simp only;omega,rfl,rfl,rfl,rfl,hl.1,hl.2,ae⟩))
   . exact .inr (.inr (.inr (.inl ⟨by simp only;omega,rfl,rfl,rfl,rfl,hl.1,hl.2,ae⟩)))
 split
 . refine h.er _ hc ?_;obtain⟨t,h4,h5,h6⟩:=h.ord (i:=0) aa aa;refine .inr (.inr (.inr (.inr ⟨rfl,rfl,rfl,rfl,rfl,Int.le_refl _,t,h4,h5,h6.2 rfl,aw,aw,λn hn=> ?_,λi a b h7 h8=>by simp at h8⟩)));obtain rfl:=Ey.1 hn;obtain⟨t,h4,h5,h6⟩:=h.ord (i:=5) aa aa;exact⟨aa,t,h4,λh=>by have:=h6.1 h;omega⟩
 . exact h.j5 _ _ hc
def Jk{l:Int}{r:List Sym}(h:qx l r=true):∃a b,a.tok=true/\b.tok=true/\r=[a,⟨false,l⟩,b]:=by
 unfold qx at h
 split at h
 . rename_i a b c;simp only[yx,adr,decide_eq_true_eq]at h;obtain⟨⟨⟨h1,h2⟩,h3⟩,h4⟩:=h;refine⟨a,c,h1,h2, ?_⟩;obtain⟨tok,i⟩:=b;simp only at h3 h4;rw[h3,h4]
 . cases h
def y6(r:List Sym)(k:Int):Bool:=match r[k.toNat]? with
 |some x=>x.tok
 |none=>false
def Jl{r:List Sym}{k:Int}(h:y6 r k=true):∃s,r[(k+1-1).toNat]? =some s/\s.tok=true:=by
 rw[show k+1-1=k by omega];unfold y6 at h
 split at h
 . rename_i x hx;exact⟨x,hx,h⟩
 . cases h
structure Jm(s:ByteArray)(l:Int)(r:List Sym)(c:Dg)(p:aK):Prop where
 name:p.name=s
 left:p.left=l
 right:p.right=r
 cond:p.cond=c
 eR:-1<=p.eR/\p.eR<=1
 ar:yF p
def Jn(s:ByteArray)(l:Int)(r:List Sym)(c:Dg)(m:Int)(hr:r.length<=4)(h0:0<=m)(h1:m<256):Jm s l r c (mark s l r c m):=by
 have plain:Jm s l r c (bF s l r c):=⟨rfl,rfl,rfl,rfl,⟨by simp[bF],by simp[bF]⟩,by simp[bF];omega,by simp[bF],by simp[bF],.inl ⟨rfl,rfl⟩,.inl ⟨rfl,rfl⟩,by simp[bF]⟩;have e:mark s l r c m=(if(r.length:Int)=0 then bF s l r c else
  if m%8=1 then{bF s l r c with eR:=1}
  else if m%8=2 then{bF s l r c with eR:=-1}
  else if m%8=3 then{bF s l r c with bracket:=qx l r}
  else if m%8=4 then{bF s l r c with layout:=[⟨1+m/8%4,m/8/4%(r.length:Int),if m/8%4=0 then 0 else(r.length:Int)-1⟩]}
  else if m%8=5 then{bF s l r c with scope:=⟨true,0,0,0,0⟩}
  else if m%8=6 then(if y6 r (m/8%(r.length:Int))then{bF s l r c with scope:=⟨false,m/8%(r.length:Int)+1,1+m/8%2,0,0⟩}else bF s l r c)
  else if m%8=7 then(if y6 r (m/8%(r.length:Int))then{bF s l r c with scope:=⟨false,0,0,m/8%(r.length:Int)+1,1+m/8%7⟩}else bF s l r c)
  else bF s l r c):=rfl
 rw[e]
 split
 . exact plain
 rename_i hn;have ae:0<(r.length:Int):=aa;have k0:0<=m/8%(r.length:Int):=YN _ hn;have k1:m/8%(r.length:Int)<r.length:=Yt _ ae;have k2:0<=m/8/4%(r.length:Int):=YN _ hn;have k3:m/8/4%(r.length:Int)<r.length:=Yt _ ae
 split
 . exact⟨rfl,rfl,rfl,rfl,⟨aw,aw⟩,plain.ar.len,plain.ar.lay,plain.ar.qG,plain.ar.uq,plain.ar.use,by simp[bF]⟩
 split
 . exact⟨rfl,rfl,rfl,rfl,⟨aw,aw⟩,plain.ar.len,plain.ar.lay,plain.ar.qG,plain.ar.uq,plain.ar.use,by simp[bF]⟩
 split
 . exact⟨rfl,rfl,rfl,rfl,plain.eR,plain.ar.len,plain.ar.lay,plain.ar.qG,plain.ar.uq,plain.ar.use,λhb=>⟨rfl,rfl,rfl,Jk hb⟩⟩
 split
 . refine⟨rfl,rfl,rfl,rfl,plain.eR,plain.ar.len,λx hx=> ?_,aw,plain.ar.uq,plain.ar.use,by simp[bF]⟩;obtain rfl:=Ey.1 hx;simp only[Io,bF];refine⟨aa,aa,k2,k3, ?_, ?_,λh=> ?_⟩
   . split<;>omega
   . split<;>omega
   . rw[if_pos aa]
 split
 . exact⟨rfl,rfl,rfl,rfl,plain.eR,plain.ar.len,plain.ar.lay,plain.ar.qG,plain.ar.uq,plain.ar.use,by simp[bF]⟩
 split
 . split
   . rename_i ht;refine⟨rfl,rfl,rfl,rfl,plain.eR,plain.ar.len,plain.ar.lay,plain.ar.qG,.inr ⟨by simp only;omega,Jl ht,by simp only;omega,by simp only;omega⟩,.inl ⟨rfl,rfl⟩,by simp[bF]⟩
   . exact plain
 split
 . split
   . rename_i ht;refine⟨rfl,rfl,rfl,rfl,plain.eR,plain.ar.len,plain.ar.lay,plain.ar.qG,.inl ⟨rfl,rfl⟩,.inr ⟨by simp only;omega,Jl ht,by simp only;omega,by simp only;omega⟩,by simp[bF]⟩
   . exact plain
 . exact plain
def acg:∀i j,i<100->j<100->jz i=jz j->i=j:=by
 have h:((Fj 100).all λi=>(Fj 100).all λj=> !decide (jz i=jz j)||afh i j)=true:=an;intro i j hi hj he;have h1:=oY.1 (oY.1 h i (by simpa using hi)) j (by simpa using hj);rw[decide_eq_true he]at h1;exact Nat.eq_of_beq_eq_true (by simpa using h1)
def ach(k:Nat)(hk:k<100):jz k≠⟨#[]⟩:=by
 have h:((Fj 100).all λi=> !decide (jz i=⟨#[]⟩))=true:=an;have h1:=oY.1 h k (by simpa using hk);simpa using h1
def GI.line{g:aj}{r m:Nat}(h:GI g r m)(x:Ln)(hx:x.Ok)(known:Bool)(hm:m<90):GI (gm (dg dQ) g x known) r (m+1):=by
 have ab:=h.room.line (dg dQ) x known;unfold gm at ab⊢;simp only at ab⊢
 split
 . exact⟨h.room,h.cO,h.tk,h.tc,h.aI,by have:=h.mz;omega,h.new,h.res,h.ok,h.nd,h.pG,h.lh⟩
 . rename_i hc;rw[if_neg hc]at ab;have hn:=h.room.aI.1;have hlen:((x.right.take 4).map (jy (g.aI.length:Int))).length<=4:=by rw[afi,afg];omega
   have mk:=Jn (jz g.aq.length) (x.left%(g.aI.length:Int)) ((x.right.take 4).map (jy (g.aI.length:Int))) (dg dQ x.cond g.conds.length) x.mark hlen hx.mark.1 hx.mark.2;generalize mark (jz g.aq.length) (x.left%(g.aI.length:Int)) ((x.right.take 4).map (jy (g.aI.length:Int))) (dg dQ x.cond g.conds.length) x.mark=P at mk ab⊢;have ah:=h.mz;have he:Ext g {g with aq:=g.aq++[P]}:=⟨rfl,rfl,λi t ht=>⟨t,ht,rfl,rfl⟩,λi p hp=>by
    show(g.aq++[P])[i]? =some p;rw[List.getElem?_append_left (afc.1 hp).1];exact hp⟩
   refine⟨ab,⟨h.cO.new,h.cO.id,h.cO.len,h.cO.cO⟩,h.tk,h.tc,h.aI,by simp;omega,⟨?_,λs hs=> ?_⟩,λk ad af hs=> ?_,λp hp=> ?_,h.nd,λl hl=>(h.pG l hl).ext he,λx hx=>⟨(h.lh x hx).1,(h.lh x hx).2.ext he⟩⟩
   . show((g.aq++[P]).map (·.name)).Nodup;rw[afj,afD];refine⟨h.new.1,aw,λa ha b hb=> ?_⟩;simp only[afe,afx,Ey]at hb;rintro rfl;rw[hb,mk.name]at ha;exact h.res g.aq.length (Xt _) aa ha
   . have hs:s∈(g.aq++[P]).map (·.name):=hs;rw[afj,Rb]at hs;rcases hs with hs|hs
     . exact h.new.2 s hs
     . simp only[afe,afx,Ey]at hs;rw[hs,mk.name];exact ach _ aa
   . have hs:jz k∈(g.aq++[P]).map (·.name):=hs;have ad:(g.aq++[P]).length<=k:=ad;rw[afv,afB]at ad;rw[afj,Rb]at hs;rcases hs with hs|hs
     . exact h.res k aa af hs
     . simp only[afe,afx,Ey]at hs;rw[mk.name]at hs;have:=acg _ _ af aa hs;omega
   . rcases Rb.1 hp with hp|hp
     . exact(h.ok p hp).ext he
     . obtain rfl:=Ey.1 hp;refine⟨?_,λs hs=> ?_, ?_,mk.eR,mk.ar⟩
       . rw[mk.left];exact⟨YN _ aa,Yt _ aa⟩
       . rw[mk.right]at hs;obtain⟨b,hb,rfl⟩:=HT.1 hs;have ai:=hx.right b (afr hb);unfold jy
         split
         . obtain⟨t,h1,h2,_⟩:=h.ord (i:=b%14) aa aa;exact(show∃t,0<=b%14/\g.aF[(b%14).toNat]? =some t/\t.cls=0 from⟨t,aa,h1,h2⟩)
         . exact(show 0<=(b%14-9)%(g.aI.length:Int)/\(b%14-9)%(g.aI.length:Int)<g.aI.length from⟨YN _ aa,Yt _ aa⟩)
       . rw[mk.cond];exact Ji _ _ hx.cond.1 hx.cond.2 h.room.conds
def GI.lines{r:Nat}(known:Bool):∀(ls:List Ln) {g:aj} {m:Nat},GI g r m->(∀l∈ls,l.Ok)->m+ls.length<90->GI (ls.foldl (λg l=>gm (dg dQ) g l known) g) r (m+ls.length)
 |[],_,_,h,_,_=>h
 |l::ls,g,m,h,hl,hm=>by
  simp only[afm]at hm⊢;have h1:=h.line l (hl l aw) known aa;have h2:=GI.lines known ls h1 (λx hx=>hl x (aff _ hx)) aa;rw[show m+(ls.length+1)=m+1+ls.length by omega];exact h2
def GI.rules{m:Nat}:∀(ls:List Rl) {g:aj} {r:Nat},GI g r m->(∀l∈ls,l.Ok)->GI (ls.foldl (jx (dg dQ)) g) (r+ls.length) m
 |[],_,_,h,_=>h
 |l::ls,g,r,h,hl=>by
  have h1:=h.Cn l (hl l aw);have h2:=GI.rules ls h1 (λx hx=>hl x (aff _ hx));simp only[afm];rw[show r+(ls.length+1)=r+1+ls.length by omega];exact h2
def Jo(n:Nat)(s:Sym):Bool:=decide (0<=s.idx)&&if s.tok then decide (s.idx<9)else decide (s.idx<n)
def y7(p:aK)(k v lo hi:Int):Bool:=(decide (k=0)&&decide (v=0))||(decide (0<k)&&(match p.right[(k-1).toNat]? with|some s=>s.tok|none=>false)&&decide (lo<=v)&&decide (v<=hi))
def Jp(n:Nat)(x:lH):Bool:=decide (1<=x.kind/\x.kind<=4/\0<=x.a/\x.a<n/\0<=x.b/\x.b<n/\(x.kind=1->x.b=0))
def wH(n:Nat)(d:Dg):Bool:=eB.any λq=>decide (q.2=n)&&decide ((aO q.1).nodes=d.nodes)&&decide ((aO q.1).root=d.root)
def Dh(p:aK):Bool:=Nat.ble p.right.length 16&&p.layout.all (Jp p.right.length)&&Nat.ble p.layout.length 16&&y7 p p.scope.declares p.scope.kind 1 7&&y7 p p.scope.tS p.scope.allowed 0 255&&
 (!p.bracket||(decide (p.eR=0)&&p.layout.isEmpty&& !p.scope.opens&&decide (p.scope.declares=0)&&decide (p.scope.kind=0)&&decide (p.scope.tS=0)&&decide (p.scope.allowed=0)&&qx p.left p.right))
def Di(n c:Nat)(p:aK):Bool:=decide (0<=p.left)&&decide (p.left<n)&&p.right.all (Jo n)&&wH c p.cond&&decide (-1<=p.eR/\p.eR<=1)&&Dh p
def y8{n:Nat}{d:Dg}(h:wH n d=true):lR n d:=by
 obtain⟨q,h1,h2⟩:=afq.1 h;simp only[yx,decide_eq_true_eq]at h2;obtain⟨⟨h3,h4⟩,h5⟩:=h2;refine⟨q.1, ?_,by rw[<-h3];exact Df q h1⟩;obtain⟨ns,rt⟩:=d;cases hq:aO q.1 with
 |mk a b=>rw[hq]at h4 h5;simp only at h4 h5;rw[h4,h5]
def Jq{p:aK}{k v lo hi:Int}(h:y7 p k v lo hi=true):yE p k v lo hi:=by
 simp only[y7,afl,yx,decide_eq_true_eq]at h;rcases h with⟨h1,h2⟩|⟨⟨⟨h1,h2⟩,h3⟩,h4⟩
 . exact .inl ⟨h1,h2⟩
 . refine .inr ⟨h1, ?_,h3,h4⟩
   split at h2
   . rename_i s hs;exact⟨s,hs,h2⟩
   . cases h2
def aci{p:aK}(h:Dh p=true):yF p:=by
 simp only[Dh,yx,afl,adr,oY,decide_eq_true_eq,afE,Jp]at h;obtain⟨⟨⟨⟨⟨h1,h2⟩,h3⟩,h4⟩,h5⟩,h6⟩:=h;refine⟨afo h1,h2,afo h3,Jq h4,Jq h5,λhb=> ?_⟩;rcases h6 with h6|⟨⟨⟨⟨⟨⟨⟨a,b⟩,c⟩,d⟩,e⟩,f⟩,g⟩,i⟩
 . rw[hb]at h6;cases h6
 . refine⟨a,b, ?_,Jk i⟩;cases hs:p.scope with
   |mk o x y z w=>rw[hs]at c d e f g;simp only at c d e f g;rw[c,d,e,f,g]
def acj{g:aj}{p:aK}(ht:g.aF=aF)(h:Di g.aI.length g.conds.length p=true):ur g p:=by
 simp only[Di,yx,decide_eq_true_eq,oY]at h;obtain⟨⟨⟨⟨⟨h1,h2⟩,h3⟩,h4⟩,h5⟩,h6⟩:=h;refine⟨⟨h1,h2⟩,λs hs=> ?_,y8 h4,h5,aci h6⟩;have:=h3 s hs;obtain⟨tok,i⟩:=s;simp only[Jo,yx,decide_eq_true_eq]at this;cases tok with
 |false=>exact(show 0<=i/\i<g.aI.length from⟨this.1,by simpa using this.2⟩)
 |true=>
  have h9:i<9:=by simpa using this.2
  have h0:=this.1;obtain⟨t,h7⟩:∃t,g.aF[i.toNat]? =some t:=⟨_,Rm (by rw[ht,HO];omega)⟩;refine(show∃t,0<=i/\g.aF[i.toNat]? =some t/\t.cls=0 from⟨t,h0,h7, ?_⟩);rw[ht]at h7;exact(HN _ _ aa h7).1
def Dj(c n:Nat)(l:cP):Bool:=decide (0<=l.assoc/\l.assoc<=3)&&wH c l.cond&&l.aq.all λp=>decide (0<=p)&&decide (p<n)
def ack{g:aj}{l:cP}(h:Dj g.conds.length g.aq.length l=true):uu g l:=by
 simp only[Dj,yx,decide_eq_true_eq,oY]at h;exact⟨h.1.1,y8 h.1.2,h.2⟩
def y9(q:Tok->Bool)(l:List Int):Bool:= !l.isEmpty&&Nat.ble l.length 1000&&(l.all λn=>decide (0<=n)&&match aF[n.toNat]? with|some t=>q t|none=>false)&&(Fj l.length).all λi=>match l[i]?,l[i+1]? with|some a,some b=>decide (a<b)|_,_=>true
def Jr{g:aj}{K:Tok->Prop}{q:Tok->Bool}(ht:g.aF=aF)(hq:∀t,q t=true->K t){l:List Int}(h:y9 q l=true):nf g K l:=by
 simp only[y9,yx,oY,decide_eq_true_eq,adr]at h;obtain⟨⟨⟨h1,h2⟩,h3⟩,h4⟩:=h;refine⟨λhl=>(by rw[hl]at h1;cases h1),afo h2,λn hn=> ?_,λi a b ha hb=> ?_⟩
 . obtain⟨h5,h6⟩:=h3 n hn;refine⟨h5, ?_⟩;rw[ht]
   split at h6
   . rename_i t he;exact⟨t,he,hq t h6⟩
   . cases h6
 . have:=h4 i (by have:=(afc.1 ha).1;simpa using this);rw[ha,hb]at this;simpa using this
def Dk(g:aj)(f:bl):Bool:=wH g.conds.length f.cond&&
 ((decide (f.kind=2)&&decide (f.left=0)&&decide (f.token=0)&&f.aF.isEmpty&&decide (0<=f.parent)&&decide (0<=f.child)&&decide (0<=f.at_)&&kY g f.parent f.at_ f.child)||
  ((decide (f.kind=3)||decide (f.kind=4))&&decide (f.parent=0)&&decide (f.at_=0)&&decide (f.child=0)&&decide (f.token=0)&&decide (0<=f.left)&&decide (f.left<g.aI.length)&&y9 (λt=>decide (t.cls=0)) f.aF)||
  (decide (f.kind=5)&&decide (f.parent=0)&&decide (f.at_=0)&&decide (f.child=0)&&decide (f.left=0)&&decide (f.token=0)&&y9 (λt=> !decide (t.lit=⟨#[]⟩)) f.aF))
def acm{g:aj}{p a c:Int}(h:kY g p a c=true):∃P C s,g.aq[p.toNat]? =some P/\g.aq[c.toNat]? =some C/\P.right[a.toNat]? =some s/\s=⟨false,C.left⟩:=by
 unfold kY at h
 split at h
 . rename_i P C e1 e2
   split at h
   . rename_i s e3;simp only[yx,adr,decide_eq_true_eq]at h;exact⟨P,C,s,e1,e2,e3,by obtain⟨tok,i⟩:=s;simp only at h;rw[h.1,h.2]⟩
   . cases h
 . cases h
def acn{g:aj}(ht:g.aF=aF){f:bl}(h:Dk g f=true):lR g.conds.length f.cond/\sC g f:=by
 simp only[Dk,yx,afl,decide_eq_true_eq,afE]at h;obtain⟨h1,h2⟩:=h;refine⟨y8 h1, ?_⟩;rcases h2 with(⟨⟨⟨⟨⟨⟨⟨a,b⟩,c⟩,d⟩,e⟩,i⟩,j⟩,k⟩|⟨⟨⟨⟨⟨⟨⟨a,b⟩,c⟩,d⟩,e⟩,i⟩,j⟩,k⟩)|⟨⟨⟨⟨⟨⟨a,b⟩,c⟩,d⟩,e⟩,i⟩,k⟩
 . obtain⟨P,C,s,e1,e2,e3,e4⟩:=acm k;exact .inr (.inl ⟨a,b,c,d,P,C,s,e,e1,i,e2,j,e3,e4⟩)
 . have hk:nf g (λt=>t.cls=0) f.aF:=Jr ht (λt h=>of_decide_eq_true h) k;rcases a with a|a
   . exact .inr (.inr (.inl ⟨a,b,c,d,e,i,j,hk⟩))
   . exact .inr (.inr (.inr (.inl ⟨a,b,c,d,e,i,j,hk⟩)))
 . refine .inr (.inr (.inr (.inr ⟨a,b,c,d,e,aa,kE, ?_,rfl,rfl,Jr ht (λt h=>by simpa using h) k⟩)));rw[ht,i];rfl
def wI(g:aj):Bool:=decide ((g.conds).Nodup)&&(g.conds.all λs=>n8.any λx=>decide (x=s))&&decide (g.aI.Nodup)&&(g.aI.all λs=> !decide (s=⟨#[]⟩))&&decide (g.start=0)&&decide ((g.aq.map (·.name)).Nodup)&&((g.aq.map (·.name)).all λs=> !decide (s=⟨#[]⟩))&&
 ((Fj 100).all λk=>(g.aq.map (·.name)).all λx=> !decide (x=jz k))&&g.aq.all (Di g.aI.length g.conds.length)&&decide ((g.bj.flatMap (·.aq)).Nodup)&&g.bj.all (Dj g.conds.length g.aq.length)&&g.bx.all (Dk g)
def aco:∀s∈n8,ay E true 198 [sV s] (bV true):=bW an
def Dl(n:Nat)(hn:n<=3):lR n (bg true):=by
 have h:((Fj 4).all λn=>wH n (bg true))=true:=an;exact y8 (oY.1 h n (by simp;omega))
def Js:∀s∈n8,Ib s/\s≠⟨#[]⟩:=λs hs=>by
 have h:(n8.all λs=> !decide (s=Cx)&& !decide (s=Cy)&& !decide (s=⟨#[]⟩))=true:=an;have h1:=oY.1 h s hs;simp only[yx,adr,decide_eq_false_iff_not]at h1;exact⟨⟨aco s hs,h1.1.1,h1.1.2⟩,h1.2⟩
def GI.base{g:aj}(hr:eg g 0)(hp:g.aq.length<=10)(ht:g.aF=aF)(hf:g.family=bg true)(h:wI g=true):GI g 0 10:=by
 simp only[wI,yx,decide_eq_true_eq,oY,afq,adr,decide_eq_false_iff_not]at h;obtain⟨⟨⟨⟨⟨⟨⟨⟨⟨⟨⟨h1,h2⟩,h3⟩,h4⟩,h5⟩,h6⟩,h7⟩,h8⟩,h9⟩,ae⟩,af⟩,ah⟩:=h;have hc:=hr.conds;have h2:∀s∈g.conds,s∈n8:=λs hs=>by obtain⟨x,hx,rfl⟩:=h2 s hs;exact hx
 refine⟨hr,⟨⟨h1,λs hs=>(Js s (h2 s hs)).2⟩,λs hs=>(Js s (h2 s hs)).1,aa, ?_⟩,by rw[ht],λt ad=> ?_,⟨⟨h3,h4⟩,h5⟩,hp,⟨h6,h7⟩,λk _ hk hm=>h8 k (by simpa using hk) _ hm rfl,λp hp=>acj ht (h9 p hp),ae,λl hl=>ack (af l hl),λf hf=>acn ht (ah f hf)⟩
 . obtain⟨c,c1,c2⟩:=Dl g.conds.length hc;exact⟨c,hf.trans c1,c2,by rw[hf];decide⟩
 . rw[ht]at ad;have:∀t∈aF,t.cond=bg true:=by
    intro t ht;simp only[aF,Rb,WZ,HT,afn,or_false]at ht;rcases ht with(rfl|⟨s,_,rfl⟩)|rfl|rfl<;>rfl
   rw[this t ad];exact Dl _ hc
def acp(b:Int):wI (ie b)=true/\(ie b).aF=aF/\(ie b).family=bg true:=by
 unfold ie
 split
 . exact⟨an,rfl,rfl⟩
 split
 . exact⟨an,rfl,rfl⟩
 split
 . exact⟨an,rfl,rfl⟩
 split
 . exact⟨an,rfl,rfl⟩
 split
 . exact⟨an,rfl,rfl⟩
 . exact⟨an,rfl,rfl⟩
def Jt(a b:Nat):aj:=⟨n8.take a,bg true,aF,uj.take b,[bF ⟨#[102,105,114,115,116]⟩ 0 [⟨true,0⟩] (bg true)],0,[],[]⟩
def acq(a b:Nat)(ha:a<4)(hb:b<4)(ai:0<b):wI (Jt a b)=true:=by
 have h:((Fj 4).all λa=>(Fj 4).all λb=>afh b 0||wI (Jt a b))=true:=an;have h1:=oY.1 (oY.1 h a (by simpa using ha)) b (by simpa using hb);have h2:afh b 0=false:=by cases b with|zero=>omega|succ n=>rfl
 rw[h2]at h1;simpa using h1
def Ju(x:cK)(hx:x.Ok):GI (jA x) 0 10:=by
 obtain⟨h1,h2⟩:=HP x hx;have hn:=hx.n;unfold jA at h1 h2⊢
 split
 . rename_i hk;rw[if_pos hk]at h1 h2;obtain⟨k1,k2,k3⟩:=acp (x.base%8);exact GI.base h1 h2 k2 k3 k1
 . rename_i hk;rw[if_neg hk]at h1 h2;have:=acq (x.n%4).toNat (1+x.n/4%3).toNat aa aa aa;exact GI.base h1 h2 rfl rfl this
def GI.iY{g:aj}{r m:Nat}(h:GI g r m)(x:cK)(hx:x.Ok):GI (iY dQ x g) r m:=by
 have ab:=(h.room.cO dQ x).1;unfold Go.Sp.iY at ab⊢;simp only at ab⊢
 split
 . rename_i hc;rw[if_pos hc]at ab;have he:Ext g {g with family:=dQ x.family g.conds.length}:=⟨rfl,rfl,λi t ht=>⟨t,ht,rfl,rfl⟩,λi p hp=>hp⟩;refine⟨ab,⟨h.cO.new,h.cO.id,h.cO.len, ?_⟩,h.tk,h.tc,h.aI,h.mz,h.new,h.res,λp hp=>(h.ok p hp).ext he,h.nd,λl hl=>(h.pG l hl).ext he,λx hx=>⟨(h.lh x hx).1,(h.lh x hx).2.ext he⟩⟩;refine⟨_,rfl,Df _ (HZ _ _ ?_ h.room.conds),hc.2⟩;have hf:=hc.1;cases hl:x.family with
   |nil=>rw[hl]at hf;simp at hf
   |cons b r=>
    have:=hx.family b (by rw[hl];simp);simp[hd];omega
 . exact h
def za(x:cK)(hx:x.Ok):GI (ig dQ x) 6 20:=by
 have h0:=(Ju x hx).iY x hx;unfold ig;simp only;have hm:∀{α:Type} (l:List α) (n:Nat),(l.take n).length<=n:=λl n=>by rw[afg];omega
 have ao:=hm x.lines (if decide (x.base%8<6)=true then 6 else 10);have av:(if decide (x.base%8<6)=true then 6 else 10)<=10:=by split<;>omega
 have h1:=GI.lines (decide (x.base%8<6)) (x.lines.take (if decide (x.base%8<6)=true then 6 else 10)) h0 (λl hl=>hx.lines l (afr hl)) aa;have h2:=GI.rules (x.rules.take 6) h1 (λl hl=>hx.rules l (afr hl));have aw:=hm x.rules 6;have up:∀{g:aj} {r m:Nat},GI g r m->∀r' m',r<=r'->m<=m'->GI g r' m':=λh r' m' h1 h2=>⟨⟨h.room.aq,h.room.aI,h.room.conds,by have:=h.room.bx;omega,by have:=h.room.bj;omega,h.room.aF,h.room.mr,h.room.ord⟩,h.cO,h.tk,h.tc,h.aI,by have:=h.mz;omega,h.new,h.res,h.ok,h.nd,h.pG,h.lh⟩;exact up h2 _ _ aa aa
structure EI(NU:Int->Prop)(n:Nat)(aq:List aK):Prop where
 Jv:∀p∈aq,yW p->(∀s∈p.right,NU s.idx)->NU p.left
 Jw:∀p∈aq,∀(k:Nat) (s:Sym),p.right[k]? =some s->s.tok=false->(∀(i:Nat) (s':Sym),i≠k->p.right[i]? =some s'->s'.tok=false/\NU s'.idx)->p.left<s.idx/\s.idx<n
def EI.add{NU:Int->Prop}{n:Nat}{l:List aK}{p:aK}(h:EI NU n l)(h1:yW p->(∀s∈p.right,NU s.idx)->NU p.left)(h2:∀(k:Nat) (s:Sym),p.right[k]? =some s->s.tok=false->(∀(i:Nat) (s':Sym),i≠k->p.right[i]? =some s'->s'.tok=false/\NU s'.idx)->p.left<s.idx/\s.idx<n):EI NU n (l++[p]):=by
 refine⟨λq hq=> ?_,λq hq=> ?_⟩
 . rcases Rb.1 hq with hq|hq
   . exact h.Jv q hq
   . obtain rfl:=Ey.1 hq;exact h1
 . rcases Rb.1 hq with hq|hq
   . exact h.Jw q hq
   . obtain rfl:=Ey.1 hq;exact h2
def zc(NU:Int->Bool)(n:Nat)(p:aK):Bool:=(!(p.right.all λs=> !s.tok)|| !(p.right.all λs=>NU s.idx)||NU p.left)&&
 (Fj p.right.length).all λk=>match p.right[k]? with
  |none=>true
  |some s=>s.tok|| !((Fj p.right.length).all λi=>afh i k||match p.right[i]? with|some s'=> !s'.tok&&NU s'.idx|none=>true)||(decide (p.left<s.idx)&&decide (s.idx<n))
def acr{NU:Int->Bool}{n:Nat}{l:List aK}(h:l.all (zc NU n)=true):EI (λi=>NU i=true) n l:=by
 refine⟨λp hp h1 h2=> ?_,λp hp k s hk hs ad=> ?_⟩
 . have h3:=oY.1 h p hp;simp only[zc,yx,afl,adr]at h3;rcases h3.1 with(h4|h4)|h4
   . have:(p.right.all λs=> !s.tok)=true:=oY.2 λs hs=>by rw[h1 s hs];rfl
     rw[this]at h4;cases h4
   . have:(p.right.all λs=>NU s.idx)=true:=oY.2 λs hs=>h2 s hs;rw[this]at h4;cases h4
   . exact h4
 . have h3:=oY.1 h p hp;simp only[zc,yx]at h3;have aG:=(afc.1 hk).1;have h4:=oY.1 h3.2 k (by simpa using aG);rw[hk]at h4;simp only[afl,yx,decide_eq_true_eq]at h4;rcases h4 with(h4|h4)|h4
   . rw[hs]at h4;cases h4
   . have:((Fj p.right.length).all λi=>afh i k||match p.right[i]? with|some s'=> !s'.tok&&NU s'.idx|none=>true)=true:=oY.2 λi hi=>by
      cases hb:afh i k with
      |true=>rfl
      |false=>
       have ao:i≠k:=λhe=>by subst he;rw[Nat.beq_refl]at hb;cases hb
       rw[Bool.false_or];cases hx:p.right[i]? with
       |none=>rfl
       |some s'=>
        obtain⟨a,b⟩:=ad i s' ao hx;simp only[a,b];rfl
     rw[this]at h4;cases h4
   . exact h4
def EI.line{NU:Int->Prop}{g:aj}(sm:Int->Nat->Dg)(x:Ln)(known:Bool)(hx:x.Ok)(hn:0<g.aI.length)(ae:known=false->∀i,NU i)(h:EI NU g.aI.length g.aq):EI NU (gm sm g x known).aI.length (gm sm g x known).aq:=by
 unfold gm;simp only
 split
 . exact h
 . rename_i hc;have hlen:((x.right.take 4).map (jy (g.aI.length:Int))).length<=4:=by rw[afi,afg];omega
   have mk:=Jn (jz g.aq.length) (x.left%(g.aI.length:Int)) ((x.right.take 4).map (jy (g.aI.length:Int))) (sm x.cond g.conds.length) x.mark hlen hx.mark.1 hx.mark.2;obtain⟨r,hr⟩:∃r,(x.right.take 4).map (jy (g.aI.length:Int))=r:=⟨_,rfl⟩;have av:∀s∈r,s.tok=false->s.idx<g.aI.length:=λs hs ht=>by
    rw[<-hr]at hs;obtain⟨b,_,rfl⟩:=HT.1 hs;unfold jy at ht⊢
    split at ht
    . cases ht
    . rename_i hb;rw[if_neg hb];exact Yt _ aa
   rw[hr]at mk hc⊢;generalize mark (jz g.aq.length) (x.left%(g.aI.length:Int)) r (sm x.cond g.conds.length) x.mark=P at mk⊢;have ab:=mk.right;have ah:=mk.left;by_cases ht:r.any (·.tok)=true
   . obtain⟨s0,aC,az⟩:=afq.1 ht;obtain⟨i0,aE⟩:=afw aC;refine h.add (λaH=> ?_) λk s hk hs ad=> ?_
     . have:=aH s0 (by rw[ab];exact aC);rw[az]at this;cases this
     . rw[ab]at hk ad;have ao:i0≠k:=λhe=>by subst he;rw[aE]at hk;cases hk;rw[az]at hs;cases hs
       have:=(ad i0 s0 ao aE).1;rw[az]at this;cases this
   . have hf:r.any (·.tok)=false:=by simpa using ht
     have hk:known=false/\(r.all λs=>s.tok||decide (x.left%(g.aI.length:Int)<s.idx))=true:=by
      cases known with
      |true=>exact absurd ⟨hf,.inl rfl⟩ hc
      |false=>
       refine⟨rfl, ?_⟩;cases ha:(r.all λs=>s.tok||decide (x.left%(g.aI.length:Int)<s.idx))with
       |true=>rfl
       |false=>exact absurd ⟨hf,.inr ha⟩ hc
     refine h.add (λ_ _=>ae hk.1 _) λk s af hs _=> ?_;rw[ab]at af;have hm:=UR af;have:=oY.1 hk.2 s hm;rw[hs,Bool.false_or,decide_eq_true_eq]at this;rw[ah];exact⟨this,av s hm hs⟩
def acs(sm:Int->Nat->Dg)(g:aj)(x:Ln)(known:Bool):(gm sm g x known).aI=g.aI:=by
 unfold gm;simp only
 split<;>rfl
def EI.lines{NU:Int->Prop}(sm:Int->Nat->Dg)(known:Bool)(ae:known=false->∀i,NU i):∀(ls:List Ln) {g:aj},(∀l∈ls,l.Ok)->0<g.aI.length->EI NU g.aI.length g.aq->EI NU (ls.foldl (λg l=>gm sm g l known) g).aI.length (ls.foldl (λg l=>gm sm g l known) g).aq
 |[],_,_,_,h=>h
 |l::ls,g,hl,hn,h=>EI.lines sm known ae ls (λx hx=>hl x (aff _ hx)) (by rw[acs];exact hn) (h.line sm l known (hl l aw) hn ae)
def acu(sm:Int->Nat->Dg)(g:aj)(x:Rl):(jx sm g x).aI=g.aI/\(jx sm g x).aq=g.aq:=by
 unfold jx kF;simp only
 repeat' split
 all_goals exact⟨rfl,rfl⟩
def Jx(sm:Int->Nat->Dg):∀(ls:List Rl) (g:aj),(ls.foldl (jx sm) g).aI=g.aI/\(ls.foldl (jx sm) g).aq=g.aq
 |[],_=>⟨rfl,rfl⟩
 |l::ls,g=>by
  obtain⟨h1,h2⟩:=Jx sm ls (jx sm g l);obtain⟨h3,h4⟩:=acu sm g l;exact⟨h1.trans h3,h2.trans h4⟩
def sG(b:Int):Int->Bool:=λi=>if b%6=2 then decide (i=0)else if b%6=4 then decide (i=2)else if b%6=5 then decide (i=1\/i=2)else false
def acv(b:Int):EI (λi=>sG b i=true) (ie b).aI.length (ie b).aq:=by
 have h:((Fj 6).all λb=>(ie (b:Nat)).aq.all (zc (sG (b:Nat)) (ie (b:Nat)).aI.length))=true:=an;have h2:∀c:Int,0<=c->c<6->EI (λi=>sG c i=true) (ie c).aI.length (ie c).aq:=λc h0 h1=>by
  have:=oY.1 h c.toNat (by simp;omega);rw[Int.toNat_of_nonneg h0]at this;exact acr this
 have e1:sG b=sG (b%6):=by funext i;simp only[sG,Int.emod_emod]
 have e2:ie b=ie (b%6):=by simp only[ie,Int.emod_emod]
 rw[e1,e2];exact h2 _ (YN _ aA) (Yt _ aA)
def acw(md:List Int->Nat->Dg)(x:cK)(g:aj):(iY md x g).aI=g.aI/\(iY md x g).aq=g.aq:=by
 unfold iY;simp only
 split<;>exact⟨rfl,rfl⟩
def acx(x:cK)(hx:x.Ok):∃NU:Int->Prop,EI NU (ig dQ x).aI.length (ig dQ x).aq:=by
 have ai:=(Ju x hx).room;have key:∀NU:Int->Prop,(decide (x.base%8<6)=false->∀i,NU i)->EI NU (jA x).aI.length (jA x).aq->EI NU (ig dQ x).aI.length (ig dQ x).aq:=λNU ae hb=>by
  unfold ig;simp only;obtain⟨e1,e2⟩:=Jx (dg dQ) (x.rules.take 6) ((x.lines.take (if decide (x.base%8<6)=true then 6 else 10)).foldl (λg l=>gm (dg dQ) g l (decide (x.base%8<6))) (iY dQ x (jA x)));rw[e1,e2];obtain⟨f1,f2⟩:=acw dQ x (jA x);exact EI.lines (dg dQ) _ ae _ (λl hl=>hx.lines l (afr hl)) (by rw[f1];exact ai.aI.1) (by rw[f1,f2];exact hb)
 by_cases hk:x.base%8<6
 . refine⟨λi=>sG (x.base%8) i=true,key _ (λh=>by simp[hk]at h) ?_⟩;have:jA x=ie (x.base%8):=by unfold jA;rw[if_pos hk]
   rw[this];exact acv _
 . refine⟨λ_=>True,key _ (λ_ _=>trivial) ?_⟩;have:(jA x).aq=[bF ⟨#[102,105,114,115,116]⟩ 0 [⟨true,0⟩] (bg true)]:=by unfold jA;rw[if_neg hk]
   rw[this];refine⟨λp hp _ _=>trivial,λp hp k s af hs _=> ?_⟩;obtain rfl:=Ey.1 hp;cases k with
   |zero=>simp[bF]at af;rw[<-af]at hs;cases hs
   |succ k=>simp[bF]at af
end Go.Sp
end

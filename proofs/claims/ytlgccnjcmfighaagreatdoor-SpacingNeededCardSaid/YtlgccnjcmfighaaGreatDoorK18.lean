/- Parts of a proof. -/
import Derived.Test.YtlgccnjcmfighaaGreatDoorK17
open List renaming all_eq_true->qG,mem_singleton->yB,range->E2,mem_map->FQ,mem_append->RC,getElem?_eq_getElem->RK,mem_of_getElem?->RW,mem_cons->Vs,getElem?_eq_some_iff->ab8,filter_cons_of_pos->adr,map_cons->adv,mem_cons_of_mem->afj,length_take->afv,length_map->afx,map_append->afy,filter_cons_of_neg->afz,length_cons->afB,not_mem_nil->afC,getElem?_modify->afE,any_eq_true->afF,mem_of_mem_take->afG,take_of_length_le->afH,length_append->afK,getElem?_of_mem->afL,map_nil->afM,drop_drop->afN,length_drop->afP,length_singleton->afQ,getElem?_map->afR,nodup_append->afS,isEmpty_iff->afT
open Bool renaming and_eq_true->yy,not_eq_true'->Zf,or_eq_true->afA
open Iff renaming rfl->KE
open Nat renaming le_refl->Xy,beq->afw,le_of_ble_eq_true->afD,lt_of_le_of_lt->afI,and_le_left->afJ,eq_zero_or_pos->afO
open Int renaming emod_lt_of_pos->YN,emod_nonneg->YT
set_option linter.all false
set_option maxRecDepth 100000
noncomputable section
open Go Go.aD Go.Proofs
namespace Go.Sp
def acj(syms:List Sym):∀(k:Nat) (s:Sym),syms[k]? =some s->((syms.map Sym.e).flatten.drop (k*2)).take 2=s.e:=by
 induction syms with
 |nil=>intro k s h;simp at h
 |cons x r ih=>
  intro k s h;cases k with
  |zero=>simp at h;subst h;simp[Sym.e]
  |succ k=>
   have:=ih k s (by simpa using h);rw[adv,List.flatten_cons,show(k+1)*2=(Sym.e x).length+k*2 by simp[Sym.e];omega,<-afN,List.drop_left];exact this
def ack(syms:List Sym)(k:Nat)(s:Sym)(h:syms[k]? =some s):fy (some (some 2)) (syms.map Sym.e).flatten (k*2)=some (.agg [bV s.tok,iV s.idx]):=by
 have hl:(syms.map Sym.e).flatten.length=syms.length*2:=by rw[fF (k:=2) (λx hx=>by obtain⟨y,_,rfl⟩:=FQ.1 hx;rfl),afx]
 have hk:=(ab8.1 h).1;simp only[fy];rw[if_pos aa];exact congrArg (λx=>some (DV.agg x)) (acj syms k s h)
set_option maxHeartbeats 2000000 in
def acm{K:cD}{dd:List FuncId}{h:ae}{r:Nat}{es:List bH}{clock:Nat}{l:List (Int×Nat)}{syms:List Sym}{c:Nat}(hm:h.get r=some (.map es clock))(hr:r<h.next){R aj:Nat}{wr:Bool}(hR:h.get R=some (.row (syms.map Sym.e).flatten wr aj))(aF:R<h.next)(aH:R≠r)(hl:ju es l)(aI:∀k c,bj l k=some c->c<256)(hc:c<256)(hs:syms.length<=1000)
 (hk:∀N,h.next<=N->K (.agg (aM (gr l c syms)).e) dd (h.up N) [r,R]):ax E true K dd h (111,[.agg (aM c).e,.v (.slice (some ⟨R,0,none⟩) syms.length syms.length),.v (.map (some r))]):=by
 refine uA [r,R] Tryz.ntmps111 Tryz.results111 ?_;have aN:=aH.symm;simp only[e9,hm,hR];obtain⟨N,hN⟩:∃N,h.next=N:=⟨_,rfl⟩;rw[hN]at hr aF hk⊢;simp(disch:=omega)[go_sem,Dg.e];obtain⟨I,hI⟩:∃I:Nat->DS->Prop,∀j d,I j d↔∃(k P:Nat),j+k=syms.length/\N+1<P/\d=⟨bw [(2,.v (.map (some r))),(3,.v (.pointer (some ⟨N,0,none⟩))),(6,.v (.pointer (some ⟨N+1,0,none⟩))),(9,.v (.slice (some ⟨R,0,none⟩) syms.length syms.length)),(10,iV syms.length),(11,iV k)],34,[],cj P [(r,.map es clock),(R,.row (syms.map Sym.e).flatten wr aj),(N,.row (aM (gr l c (syms.take k))).e true 0),(N+1,.row [.v (.slice none 0 0),.v (.int .i64 0)] true 0)]⟩:=⟨_,λ_ _=>KE⟩;refine bS I syms.length ⟨_,aB.mk (N:=N+2) ah ah ?_,(hI _ _).2 ⟨0,N+2,rfl,aa,rfl⟩⟩ ?_
 . simp(disch:=omega)[go_sem,Dg.e,gr]
 . intro j ds aw;obtain⟨k,P,hj,hP,rfl⟩:=(hI _ _).1 aw;clear aw;by_cases aJ:k<syms.length
   . have an:(k:Int)<syms.length:=aa;obtain⟨s,hx⟩:∃s,syms[k]? =some s:=⟨_,RK aJ⟩;have av:=ack syms k s hx;have ad:gr l c (syms.take (k+1))=if s.tok=true\/gr l c (syms.take k)=0 then gr l c (syms.take k)else gr l c (syms.take k)&&&cP l s.idx:=by
      unfold gr;rw[List.take_add_one,hx,Option.toList_some,List.foldl_append,List.foldl_cons,List.foldl_nil]
     have az:=y5 l (syms.take k) c hc;generalize aQ:gr l c (syms.take k)=cc at*;have aC:=yZ az;by_cases ab:s.tok=true\/cc=0
     . rw[if_pos ab]at ad;have aq:∀(st:DS),aB st ⟨bw [(2,.v (.map (some r))),(3,.v (.pointer (some ⟨N,0,none⟩))),(6,.v (.pointer (some ⟨N+1,0,none⟩))),(9,.v (.slice (some ⟨R,0,none⟩) syms.length syms.length)),(10,iV syms.length),(11,iV (k+1:Nat))],34,[],cj (P+1) [(r,.map es clock),(R,.row (syms.map Sym.e).flatten wr aj),(N,.row (aM cc).e true 0),(N+1,.row [.v (.slice none 0 0),.v (.int .i64 0)] true 0)]⟩->∃j',j'<j/\∃d',aB st d'/\I j' d':=λst hw=>
        ⟨j-1,aa,_,hw,(hI _ _).2 ⟨k+1,P+1,aa,aa,by rw[ad]⟩⟩
       cases ht:s.tok with
       |true=>
        simp(disch:=omega)[go_sem,an,av,hx,-getElem?_pos,Sym.e,ht,aG];refine aq _ (aB.mk ah ?_ ?_)
        . simp(disch:=omega)[go_sem,Sym.e]
        . simp(disch:=omega)[go_sem,Dg.e]
       |false=>
        have hz:cc=0:=by simpa[ht]using ab
        have af:=aC.2 hz;simp(disch:=omega)[go_sem,an,av,hx,-getElem?_pos,Sym.e,ht,Dg.e,af,aG];refine aq _ (aB.mk ah ?_ ?_)
        . simp(disch:=omega)[go_sem,Sym.e]
        . simp(disch:=omega)[go_sem,Dg.e,af]
     . rw[if_neg ab]at ad;have ht:s.tok=false:=by simpa using λh=>ab (.inl h)
       have hz:¬cc=0:=λh=>ab (.inr h);have af:¬(aM cc).root=0:=λh=>hz (aC.1 h);have aL:=uB aI s.idx;have hand:=wy cc (cP l s.idx) az aL;have ao:=qS (ar:=true) (aM (cc&&&cP l s.idx));simp only[Dg.e]at hand ao;simp(disch:=omega)[go_sem,an,av,hx,-getElem?_pos,Sym.e,ht,Dg.e,af];refine bZ [dC 0,ai 0,ai 0,aK 4,aU 14,aU 31,ai 63,ai 63,aU 255,aU 511] ak 0 rfl ?_;simp(disch:=omega)[go_sem,Sym.e,Dg.e];refine wz (es:=es) (clock:=clock) (l:=l) ah (by simp(disch:=omega)[go_sem];try omega) hl λM hM=> ?_;replace hM:=cq hM;simp(disch:=omega)[go_sem,Dg.e];refine⟨aa, ?_⟩;refine ax.mk hand λM2=>dI λaS=> ?_;refine ax.mk ao λM3=>aT λaW=> ?_;simp(disch:=omega)[go_sem,aG];refine⟨j-1,aa,_,aB.mk (N:=M3) ah ?_ ?_,(hI _ _).2 ⟨k+1,M3,aa,aa,rfl⟩⟩
       . simp(disch:=omega)[go_sem,Sym.e]
       . simp(disch:=omega)[go_sem,Dg.e,ad]
   . have an:¬(k:Int)<syms.length:=aa;rw[afH aa];simp(disch:=omega)[go_sem,an,Dg.e]at hk⊢;exact⟨⟨hm.symm,hR.symm⟩,hk _ aa⟩
abbrev zs(xs:List Int):List DV:=xs.map iV
def acn(xs:List Int):(zs xs).all cZ=true:=by simp[cZ,dF]
def aco(xs:List Int)(k:Nat)(y:Int)(h:xs[k]? =some y):fy (some none) (zs xs) (k*1)=some (iV y):=by
 simp[fy,h]
abbrev wC(p:Nat×List Int):DV:=.v (.slice (some ⟨p.1,0,none⟩) p.2.length p.2.length)
abbrev Dh(es:List bH)(l:List (Int×(Nat×List Int))):Prop:=fC sF wC es l
def wD(n N:Int)(l:List (Int×Nat))(q:List Int):Prop:=(∀k c,bj l k=some c->c<256/\n<k/\k<N)/\∀y∈q,∃c,bj l y=some c
def Hid(p:Prop):Prop:=p
def aB.bb{t:Tr DV}{n:Nat}{dd:List FuncId}{h:ae}{l:List (Nat×DV)}(ht:gm t l):aB ⟨t,n,dd,h⟩ ⟨bw l,n,dd,h⟩:=aB.forget rfl (tR ht.mem) λ_ _ h=>h
def acp{h:ae}{R o b aj:Nat}{cs:List DV}{q:List Int}{y:Int}{K:DV×ae×List Nat->Prop}(hg:h.get R=some (.row cs true aj))(he:aj=0\/aj=1)(hc:cs.length=o+q.length)(hd:cs.drop o=zs q)(hb:(q.length+1)*(b+1)<=1073741824)(hR:R<h.next)
 (hk:∀h' T,h'.get h.next=some (.row (zs (q++[y])) true 1)->h'.next=h.next+1->(∀i,i≠R->i<h.next->h'.get i=h.get i)->(∀i∈T,i=R)->K (.v (.slice (some ⟨h.next,0,none⟩) (q.length+1) (q.length+1)),h',T)):aO (eP h (some ⟨R,o,none⟩) q.length q.length 1 b 1 [iV y]) K:=by
 have h1:o+q.length*1<=cs.length:=aa;have h2:¬(o+q.length<cs.length):=aa;have h3:(cs.drop o).take q.length++[iV y]=zs (q++[y]):=by
  rw[hd,afH aw,zs,zs,afy];rfl
 rcases he with rfl|rfl
 . refine⟨(.v (.slice (some ⟨h.next,0,none⟩) (q.length+1) (q.length+1)),h.new (.row (zs (q++[y])) true 1),[]), ?_,hk _ _ ?_ ?_ (λi hi hn=> ?_) (λi hi=>by cases hi)⟩
   . simp only[eP,hg,Nat.mul_one];rw[if_neg aa,if_pos aa,if_pos aa,if_pos aw,h3]
   . rw[ae.dN,if_pos rfl]
   . rw[ae.bm]
   . rw[ae.dN,if_neg aa]
 . refine⟨(.v (.slice (some ⟨h.next,0,none⟩) (q.length+1) (q.length+1)),(h.set R none).new (.row (zs (q++[y])) true 1),[R]), ?_,hk _ _ ?_ ?_ (λi hi hn=> ?_) (λi hi=>by simpa using hi)⟩
   . simp only[eP,hg,Nat.mul_one];rw[if_neg aa,if_pos aa,if_pos aa,if_neg aa,if_pos (by simp[cZ,dF]),h3]
   . rw[ae.dN,ae.aY,if_pos rfl]
   . rw[ae.bm,ae.aY]
   . rw[ae.dN,ae.aY,if_neg aa,ae.bu,if_neg hi]
set_option maxHeartbeats 8000000 in
def Jl{K:cD}{dd:List FuncId}{h:ae}{ST Bs NX Bn RM Br Q Bq:Nat}{aS az es:List bH}{aC ab clk:Nat}{lS:List ((Int×Int)×Nat)}{lN:List (Int×(Nat×List Int))}{l:List (Int×Nat)}{q:List Int}{o aj:Nat}{cs:List DV}{n:Int}{N:Nat}{n0:Int}{c0 B:Nat}{R:Nat}{xs:List Int}
 (o1:ST<Bs) (o2:Bs<NX) (o3:NX<Bn) (o4:Bn<R) (o5:R<RM) (o6:RM<Br) (o7:Br<Q) (o8:Br<Bq) (o9:Q≠Bq) (bQ:Q<h.next) (bR:Bq<h.next)
 (g1:h.get ST=some (.map aS aC)) (g2:h.get Bs=some (.row [.v (.map (some ST))] true 0)) (g3:h.get NX=some (.map az ab)) (g4:h.get Bn=some (.row [.v (.map (some NX))] true 0)) (g5:h.get RM=some (.map es clk)) (g6:h.get Br=some (.row [.v (.map (some RM))] true 0))
 (g7:h.get Q=some (.row cs true aj)) (g8:h.get Bq=some (.row [.v (.slice (some ⟨Q,o,none⟩) q.length q.length)] true 0)) (g9:h.get R=some (.row (zs xs) true 1))
 (hS:y8 aS lS) (bT:jW lS) (hN:Dh az lN) (hl:ju es l) (bk:aj=0\/aj=1) (bW:cs.length=o+q.length) (bX:cs.drop o=zs q)
 (hn:0<=n) (b7:n<=n0) (hx:bj lN n0=some (R,xs)) (bY:∀y∈xs,n0<y/\y<N/\∃c,bj lS (n0,y)=some c) (b8:xs.length<=100000) (hv:wD n N l q) (bD:c0<256) (hB:2*mu N l+q.length=B) (b9:B<=10000000)
 (hk:∀h' T aW bo l' q' Q' o' aH cs',ju aW l'->wD n N l' q'->2*mu N l'+q'.length<=B->h.next<=h'.next->Br<Q'->Q'≠Bq->Q'<h'.next->(aH=0\/aH=1)->cs'.length=o'+q'.length->cs'.drop o'=zs q'->h'.get RM=some (.map aW bo)->h'.get Q'=some (.row cs' true aH)->h'.get Bq=some (.row [.v (.slice (some ⟨Q',o',none⟩) q'.length q'.length)] true 0)->
  (∀i,i<h.next->i≠RM->i≠Q->i≠Bq->h'.get i=h.get i)->K (.bp []) dd h' T):
 ax E true K dd h (115,[iV n0,.agg (aM c0).e,.v (.pointer (some ⟨Bn,0,none⟩)),.v (.pointer (some ⟨Br,0,none⟩)),.v (.pointer (some ⟨Bs,0,none⟩)),.v (.pointer (some ⟨Bq,0,none⟩))]):=by
 refine c8.frame [ST,Bs,NX,Bn,R,RM,Br,Q,Bq] (by simp;omega) ?_;obtain⟨M,hM⟩:∃M,h.next=M:=⟨_,rfl⟩;refine gR (K:=λv _ bE _=>∀ad:ae,ad.next=bE.next->(∀i,(i∈[ST,Bs,NX,Bn,R,RM,Br,Q,Bq]\/h.next<=i)->ad.get i=bE.get i)->(∀i,i<h.next->i∉[ST,Bs,NX,Bn,R,RM,Br,Q,Bq]->ad.get i=h.get i)->K v dd ad [ST,Bs,NX,Bn,R,RM,Br,Q,Bq]) (dd:=dd) Tryz.ntmps115 Tryz.results115 ?_;simp only[e9,g1,g2,g3,g4,g5,g6,g7,g8,g9];rw[hM]at bQ bR⊢;simp(disch:=omega)[go_sem,Dg.e];have h1:=sy kq qT hN n0 false hx;refine⟨_,lU (es:=az) (clock:=ab) ah rfl h1, ?_⟩;refine aL ?_;obtain⟨I,hI⟩:∃I:Nat->DS->Prop,∀j d,I j d↔∃(k:Nat) (H:ae) (es:List bH) (clk:Nat) (l:List (Int×Nat)) (q:List Int) (Q' o aj:Nat) (cs:List DV),j+k=xs.length/\M<H.next/\ju es l/\wD n N l q/\2*mu N l+q.length<=B/\Br<Q'/\Q'≠Bq/\Q'≠M/\Hid (Q'=Q\/M<=Q')/\Q'<H.next/\(aj=0\/aj=1)/\cs.length=o+q.length/\cs.drop o=zs q/\
  H.get ST=some (.map aS aC)/\H.get Bs=some (.row [.v (.map (some ST))] true 0)/\H.get NX=some (.map az ab)/\H.get Bn=some (.row [.v (.map (some NX))] true 0)/\H.get R=some (.row (zs xs) true 1)/\H.get RM=some (.map es clk)/\H.get Br=some (.row [.v (.map (some RM))] true 0)/\H.get Bq=some (.row [.v (.slice (some ⟨Q',o,none⟩) q.length q.length)] true 0)/\H.get M=some (.row (aM c0).e true 0)/\H.get Q'=some (.row cs true aj)/\
  d=⟨bw [(0,iV n0),(3,.v (.pointer (some ⟨Br,0,none⟩))),(4,.v (.pointer (some ⟨Bs,0,none⟩))),(5,.v (.pointer (some ⟨Bq,0,none⟩))),(7,.v (.pointer (some ⟨M,0,none⟩))),(14,.v (.slice (some ⟨R,0,none⟩) xs.length xs.length)),(15,iV xs.length),(16,iV k)],50,[],H⟩:=⟨_,λ_ _=>KE⟩
 refine bS I xs.length ⟨_,aB.bb (l:=[(0,iV n0),(3,.v (.pointer (some ⟨Br,0,none⟩))),(4,.v (.pointer (some ⟨Bs,0,none⟩))),(5,.v (.pointer (some ⟨Bq,0,none⟩))),(7,.v (.pointer (some ⟨M,0,none⟩))),(14,.v (.slice (some ⟨R,0,none⟩) xs.length xs.length)),(15,iV xs.length),(16,iV (0:Nat))]) ?_,(hI _ _).2 ⟨0,_,es,clk,l,q,Q,o,aj,cs,rfl,ah,hl,hv,aa,aa,o9,aa,.inl rfl,ah,bk,bW,bX,ah,ah,ah,ah,ah,ah,ah,ah, ?_,ah,rfl⟩⟩ ?_
 . simp(disch:=omega)[go_sem,wC]
 . simp(disch:=omega)[go_sem,Dg.e]
 . intro j ds ba;obtain⟨k,H,bc,af,l1,q1,Q1,bq,aI,bs,hj,hP,bd,aX,bF,bG,bI,b0,bK,ca,an,aJ,aN,f1,f2,f3,f4,f5,f6,f7,f8,f9,f10,rfl⟩:=(hI _ _).1 ba;clear ba;by_cases b1:k<xs.length
   . have aQ:(k:Int)<xs.length:=aa;obtain⟨y,hy⟩:∃y,xs[k]? =some y:=⟨_,RK b1⟩;obtain⟨cb,cc,cy,bL⟩:=bY y (RW hy);have b2:=aco xs k y hy;have bt:=bT _ _ bL;simp(disch:=omega)[go_sem,aQ,b2,hy,-getElem?_pos,f5,f7];refine wz (es:=bc) (clock:=af) (l:=l1) f6 aa bd λM1 cd=> ?_;simp(disch:=omega)[go_sem,Dg.e];refine bZ [⟨.read,0,some (0,3),true⟩,aK 0,aK 0,ai 0,ai 0,ai 24,aK 60,aU 126,ai 254,ai 254,aU 1022,aU 2047,ai 4095,ai 4095,aU 16383,cR 0,aU 65535] ak 1 rfl ?_;simp(disch:=omega)[go_sem,Dg.e,f2,f9];have bf:=uB (λk c h=>(aX.1 k c h).1) y;have bx:c0&&&cy<256:=afI afJ bD;obtain⟨go,bM⟩:∃go,cP l1 y=go:=⟨_,rfl⟩;rw[bM]at bf⊢;obtain⟨ga,b3⟩:∃ga,c0&&&cy=ga:=⟨_,rfl⟩;have hand:=wy c0 cy bD bt;rw[b3]at bx hand;have ao:=qS (ar:=true) (aM ga);have bA:=C8 go ga bf bx;have bg:=wA bf bx;obtain⟨gn,bP⟩:∃gn,go|||ga=gn:=⟨_,rfl⟩;rw[bP]at bA bg;have aq:=qS (ar:=true) (aM gn);have aF:=Jg go gn bf bg;simp only[Dg.e]at hand ao bA aq aF;have h2:=sy y7 wB hS (n0,y) false bL;refine⟨_,lU (es:=aS) (clock:=aC) (by simp(disch:=omega)[go_sem,f1]) rfl h2, ?_⟩;simp(disch:=omega)[go_sem,Dg.e];refine ax.mk hand λM2=>dI λcg=> ?_;refine ax.mk ao λM3=>dI λch=> ?_;refine ax.mk bA λM4=>dI λck=> ?_;refine ax.mk aq λM5=>dI λcl=> ?_;refine ax.mk aF λM6=>aT λcm=> ?_;by_cases he:go=gn
     . have bB:decide (go=gn)=true:=decide_eq_true he;simp(disch:=omega)[go_sem,bB,aG];refine⟨j-1,aa,_,aB.bb (l:=[(0,iV n0),(3,.v (.pointer (some ⟨Br,0,none⟩))),(4,.v (.pointer (some ⟨Bs,0,none⟩))),(5,.v (.pointer (some ⟨Bq,0,none⟩))),(7,.v (.pointer (some ⟨M,0,none⟩))),(14,.v (.slice (some ⟨R,0,none⟩) xs.length xs.length)),(15,iV xs.length),(16,iV (k+1:Nat))]) ?_,(hI _ _).2 ⟨k+1,_,bc,af,l1,q1,Q1,bq,aI,bs,aa, ?_,bd,aX,bF,bG,bI,b0,bK, ?_,an,aJ,aN, ?_, ?_, ?_, ?_, ?_, ?_, ?_, ?_, ?_, ?_,rfl⟩⟩
       all_goals simp(disch:=omega)[go_sem,f1,f2,f3,f4,f5,f6,f7,f8,f9,f10,Dg.e]
       all_goals omega
     . have bB:decide (go=gn)=false:=decide_eq_false he;obtain⟨aW,av,h8,h9⟩:=pI kq sI bd y af gn;simp(disch:=omega)[go_sem,bB,f7];refine⟨_,sE (es:=bc) (clock:=af) (by simp(disch:=omega)[go_sem,f6]) rfl h8, ?_⟩;simp(disch:=omega)[go_sem,aG,f8];refine acp (cs:=bs) (aj:=aI) (by simp(disch:=omega)[go_sem,f10]) an aJ aN aa (by simp(disch:=omega)[go_sem];try omega) λH2 T2 w1 w2 w3 w4=> ?_;simp(disch:=omega)[go_sem]at w1 w2 w3;have v1:H2.get ST=some (.map aS aC):=by rw[w3 ST aa aa];simp(disch:=omega)[go_sem,f1]
       have v2:H2.get Bs=some (.row [.v (.map (some ST))] true 0):=by rw[w3 Bs aa aa];simp(disch:=omega)[go_sem,f2]
       have v3:H2.get NX=some (.map az ab):=by rw[w3 NX aa aa];simp(disch:=omega)[go_sem,f3]
       have v4:H2.get Bn=some (.row [.v (.map (some NX))] true 0):=by rw[w3 Bn aa aa];simp(disch:=omega)[go_sem,f4]
       have v5:H2.get R=some (.row (zs xs) true 1):=by rw[w3 R aa aa];simp(disch:=omega)[go_sem,f5]
       have v6:H2.get RM=some (.map aW av):=by rw[w3 RM aa aa];simp(disch:=omega)[go_sem]
       have v7:H2.get Br=some (.row [.v (.map (some RM))] true 0):=by rw[w3 Br aa aa];simp(disch:=omega)[go_sem,f7]
       have v8:H2.get Bq=some (.row [.v (.slice (some ⟨Q1,bq,none⟩) q1.length q1.length)] true 0):=by rw[w3 Bq aa aa];simp(disch:=omega)[go_sem,f8]
       have v9:H2.get M=some (.row (aM c0).e true 0):=by rw[w3 M aa aa];simp(disch:=omega)[go_sem,f9]
       have cn:=Ji (n:=N) (l:=l1) (k:=y) (c:=gn) aa aa bg (by rw[bM];subst bP;exact Jj λh=>he h.symm);have b5:wD n N (Go.aD.put l1 y gn) (q1++[y]):=by
        refine⟨λk c h=> ?_,λz hz=> ?_⟩
        . rw[mW]at h
          split at h
          . rename_i e;subst e;cases h;exact⟨bg,aa,aa⟩
          . exact aX.1 k c h
        . rw[mW]
          split
          . exact⟨_,rfl⟩
          . rename_i b6;rcases RC.1 hz with hz|hz
            . exact aX.2 z hz
            . exact absurd (by simpa using hz) b6
       simp(disch:=omega)[go_sem,aG,v8];refine⟨j-1,aa,_,aB.bb (l:=[(0,iV n0),(3,.v (.pointer (some ⟨Br,0,none⟩))),(4,.v (.pointer (some ⟨Bs,0,none⟩))),(5,.v (.pointer (some ⟨Bq,0,none⟩))),(7,.v (.pointer (some ⟨M,0,none⟩))),(14,.v (.slice (some ⟨R,0,none⟩) xs.length xs.length)),(15,iV xs.length),(16,iV (k+1:Nat))]) ?_,(hI _ _).2 ⟨k+1,_,aW,av,_,q1++[y],M6+1,0,1,zs (q1++[y]),aa, ?_,h9,b5,by simp;omega,aa,aa,aa,.inr aa, ?_,.inr rfl,aw,rfl, ?_, ?_, ?_, ?_, ?_, ?_, ?_, ?_, ?_, ?_,rfl⟩⟩
       all_goals simp(disch:=omega)[go_sem,v1,v2,v3,v4,v5,v6,v7,v8,v9,w1,w2]
       all_goals omega
   . have aQ:¬(k:Int)<xs.length:=aa;simp(disch:=omega)[go_sem,aQ];intro ad cp q2 q3;have hS:∀i,i∈[ST,Bs,NX,Bn,R,RM,Br,Q,Bq]->ad.get i=H.get i:=λi hi=>q2 i (.inl (by simpa using hi));refine hk ad _ bc af l1 q1 Q1 bq aI bs bd aX bF aa bG bI aa an aJ aN ?_ ?_ ?_ λi hi h1 h2 h3=> ?_
     . rw[hS RM aw,f6]
     . rcases bK with h|h
       . rw[h]at f10;rw[h,hS Q aw,f10]
       . rw[q2 Q1 (.inr h),f10]
     . rw[hS Bq aw,f8]
     . by_cases z1:i=ST
       . subst z1;rw[hS i aw,f1,g1]
       . by_cases z2:i=Bs
         . subst z2;rw[hS i aw,f2,g2]
         . by_cases z3:i=NX
           . subst z3;rw[hS i aw,f3,g3]
           . by_cases z4:i=Bn
             . subst z4;rw[hS i aw,f4,g4]
             . by_cases z5:i=R
               . subst z5;rw[hS i aw,f5,g9]
               . by_cases z6:i=Br
                 . subst z6;rw[hS i aw,f7,g6]
                 . exact q3 i aa z1 z2 z3 z4 z5 h1 z6 h2 h3
set_option maxHeartbeats 2000000 in
def acq{K:cD}{dd:List FuncId}{h:ae}{Bs NX Bn Br Bq:Nat}{az:List bH}{ab:Nat}{lN:List (Int×(Nat×List Int))}{n0:Int}{c0:Nat}
 (o3:NX<Bn) (o4:Bn<h.next) (g3:h.get NX=some (.map az ab)) (g4:h.get Bn=some (.row [.v (.map (some NX))] true 0)) (hN:Dh az lN) (hx:bj lN n0=none)
 (hk:∀P,h.next<=P->K (.bp []) dd (h.up P) [NX,Bn]):
 ax E true K dd h (115,[iV n0,.agg (aM c0).e,.v (.pointer (some ⟨Bn,0,none⟩)),.v (.pointer (some ⟨Br,0,none⟩)),.v (.pointer (some ⟨Bs,0,none⟩)),.v (.pointer (some ⟨Bq,0,none⟩))]):=by
 refine uA [NX,Bn] Tryz.ntmps115 Tryz.results115 ?_;obtain⟨M,hM⟩:∃M,h.next=M:=⟨_,rfl⟩;simp only[e9,g3,g4];rw[hM]at o4 hk⊢;simp(disch:=omega)[go_sem,Dg.e];have h1:=sA kq qT hN n0 false Df rfl hx;refine⟨_,lU (es:=az) (clock:=ab) ah rfl h1, ?_⟩;simp(disch:=omega)[go_sem,fZ];obtain⟨I,hI⟩:∃I:Nat->DS->Prop,∀j d,I j d↔d=⟨bw [(15,iV 0),(16,iV 0)],50,[],cj (M+1) [(NX,.map az ab),(Bn,.row [.v (.map (some NX))] true 0)]⟩:=⟨_,λ_ _=>KE⟩;refine bS I 0 ⟨_,aB.mk (N:=M+1) ah ah ah,(hI _ _).2 rfl⟩ ?_
 . intro j ds ba;cases(hI _ _).1 ba;refine aL ?_;exact⟨⟨g3.symm,g4.symm⟩,hk _ aa⟩
end Go.Sp
end
noncomputable section
open Go Go.aD Go.Proofs
namespace Go.aD
def acr{κ ν:Type}[DecidableEq κ]{l:List (κ×ν)}{p:κ×ν}(h:p∈l):∃c,bj l p.1=some c:=by
 induction l with
 |nil=>cases h
 |cons x r ih=>
  obtain⟨a,b⟩:=x;simp only[bj]
  split
  . exact⟨_,rfl⟩
  . rename_i af;rcases Vs.1 h with rfl|h
    . exact absurd rfl af
    . exact ih h
def acs{κ ν:Type}[DecidableEq κ]{l:List (κ×ν)}{k:κ}{v:ν}{p:κ×ν}(h:p∈put l k v):p∈l\/p=(k,v):=by
 induction l with
 |nil=>simpa[put]using h
 |cons x r ih=>
  obtain⟨a,b⟩:=x;simp only[put]at h
  split at h
  . rcases Vs.1 h with h|h
    . exact .inr h
    . exact .inl (afj _ h)
  . rcases Vs.1 h with h|h
    . exact .inl (h▸List.mem_cons_self)
    . rcases ih h with h|h
      . exact .inl (afj _ h)
      . exact .inr h
def fC.mem{κ ν:Type}[DecidableEq κ]{kf:κ->Value}{vf:ν->DV}{es:List bH}{l:List (κ×ν)}(h:fC kf vf es l){x:bH}(hx:x∈es):∃p∈l,x.key=kf p.1/\x.val=vf p.2:=by
 have h1:(x.key,x.val)∈es.map λx=>(x.key,x.val):=FQ.2 ⟨x,hx,rfl⟩;rw[h]at h1;obtain⟨p,hp,he⟩:=FQ.1 h1;simp only[Prod.mk.injEq]at he;exact⟨p,hp,he.1.symm,he.2.symm⟩
def lC.find{es:List bH}{clock:Nat}(hb:lC es clock){x:bH}(hx:x∈es):es.find? (λy=>y.born==x.born)=some x:=by
 have h:=hb.2;clear hb
 induction es with
 |nil=>cases hx
 |cons y r ih=>
  simp only[adv,List.nodup_cons]at h;rw[List.find?_cons];rcases Vs.1 hx with rfl|hx
  . simp
  . have:¬y.born=x.born:=λhe=>h.1 (by rw[he];exact FQ.2 ⟨x,hx,rfl⟩);have hb:(y.born==x.born)=false:=by simpa using this
    rw[hb];exact ih hx h.2
def left(es:List bH)(seen:List Nat):Nat:=(es.filter λx=> !seen.contains x.born).length
def Jm(es:List bH):left es []=es.length:=congrArg List.length (List.filter_eq_self.2 λx _=>rfl)
def Jn{α:Type}{p q:α->Bool}(h:∀x,q x=true->p x=true):∀l:List α,(l.filter q).length<=(l.filter p).length
 |[]=>Xy _
 |y::r=>by
  have ih:=Jn h r;have hy:=h y;cases hq:q y with
  |true=>
   rw[adr hq,adr (hy hq)];exact Nat.succ_le_succ ih
  |false=>
   rw[afz (by simp[hq])];cases hp:p y with
   |true=>rw[adr hp];exact Nat.le_succ_of_le ih
   |false=>rw[afz (by simp[hp])];exact ih
def Jo{α:Type}{p q:α->Bool}(h:∀x,q x=true->p x=true){x:α}(hp:p x=true)(hq:q x=false):∀{l:List α},x∈l->(l.filter q).length<(l.filter p).length
 |y::r,hx=>by
  rcases Vs.1 hx with rfl|hx
  . rw[adr hp,afz (by simp[hq])];exact Nat.lt_succ_of_le (Jn h r)
  . have ih:=Jo h hp hq hx;have hy:=h y;cases ah:q y with
    |true=>
     rw[adr ah,adr (hy ah)];exact Nat.succ_lt_succ ih
    |false=>
     rw[afz (by simp[ah])];cases an:p y with
     |true=>rw[adr an];exact Nat.lt_succ_of_lt ih
     |false=>rw[afz (by simp[an])];exact ih
def Jp{es:List bH}{seen:List Nat}{x:bH}(hx:x∈es)(hs:seen.contains x.born=false):left es (seen++[x.born])<left es seen:=
 Jo (λy hy=>by simp at hy⊢;exact hy.1) (by rw[hs];rfl) aw hx
end Go.aD
namespace Go.Sp
def Jq{h:ae}{ty a b:TypeId}{m:Nat}{es:List bH}{clock:Nat}(hu:E.under ty=some (.map a b))(hm:h.get m=some (.map es clock)):lO E h ty (.v (.map (some m)))=some (.cF (some m) clock [] clock):=by
 simp only[lO,hu,hm]
def Jr{h:ae}{r m since clock:Nat}{seen:List Nat}{es:List bH}{x:bH}(hr:h.get r=some (.cF (some m) since (seen++[x.born]) clock))(hm:h.get m=some (.map es clock))(hb:lC es clock)(hx:x∈es):tJ h (.v (.pointer (some ⟨r,0,none⟩)))=some (.bp [fZ x.key,x.val]):=by
 simp[tJ,hr,hm,hb.find hx]
def nz(H:ae)(lo:Nat)(n:Int)(lS:List ((Int×Int)×Nat))(b:Nat)(lN:List (Int×(Nat×List Int))):Prop:=
 (∀k R xs,bj lN k=some (R,xs)->lo<R/\R<H.next/\H.get R=some (.row (zs xs) true 1)/\0<=k/\k<n/\xs≠[]/\xs.length<=b/\∀y∈xs,k<y/\y<n/\∃c,bj lS (k,y)=some c)/\
 ∀k k' R xs ao,bj lN k=some (R,xs)->bj lN k'=some (R,ao)->k=k'
theorem nz.nil(H:ae)(lo:Nat)(n:Int)(lS:List ((Int×Int)×Nat))(b:Nat):nz H lo n lS b []:=⟨λk R xs h=>by simp[bj]at h,λk k' R xs ao h=>by simp[bj]at h⟩
def nz.put{H H':ae}{lo:Nat}{n:Int}{lS:List ((Int×Int)×Nat)}{b:Nat}{lN:List (Int×(Nat×List Int))}(h:nz H lo n lS b lN){k y:Int}{c R':Nat}{xs:List Int}(hk:0<=k)(hy:k<y)(av:y<n)(hc:bj lS (k,y)=some c)
 (az:(bj lN k=none/\xs=[])\/∃R,bj lN k=some (R,xs)) (aF:H.next<=R') (aC:R'<H'.next) (hg:H'.get R'=some (.row (zs (xs++[y])) true 1)) (ab:∀R,lo<R->R<H.next->(∀xs,bj lN k≠some (R,xs))->H'.get R=H.get R) (aG:lo<H.next):nz H' lo n lS (b+1) (Go.aD.put lN k (R',xs++[y])):=by
 have hold:xs.length<=b/\∀y∈xs,k<y/\y<n/\∃c,bj lS (k,y)=some c:=by
  rcases az with⟨_,rfl⟩|⟨R,h1⟩
  . exact⟨Nat.zero_le _,λy hy=>by cases hy⟩
  . obtain⟨_,_,_,_,_,_,q1,q2⟩:=h.1 k R xs h1;exact⟨q1,q2⟩
 refine⟨λk2 R2 ad h2=> ?_,λk2 k3 R2 ad ai h2 h3=> ?_⟩
 . rw[mW]at h2
   split at h2
   . rename_i he;subst he;cases h2;refine⟨aa,aC,hg,hk,aa,aw,by simp;omega,λz hz=> ?_⟩;rcases RC.1 hz with hz|hz
     . exact hold.2 z hz
     . simp only[yB]at hz;subst hz;exact⟨hy,av,c,hc⟩
   . rename_i af;obtain⟨q1,q2,q3,q4,q5,q6,q7,q8⟩:=h.1 k2 R2 ad h2;refine⟨q1,aa, ?_,q4,q5,q6,aa,q8⟩;rw[ab R2 q1 q2 λai h3=>af (h.2 k2 k R2 ad ai h2 h3),q3]
 . have aq:∀k R xs,bj lN k=some (R,xs)->R<H.next:=λk R xs h4=>(h.1 k R xs h4).2.1;rw[mW]at h2 h3
   split at h2
   . split at h3
     . rename_i e1 e2;rw[e1,e2]
     . cases h2;have:=aq _ _ _ h3;omega
   . split at h3
     . cases h3;have:=aq _ _ _ h2;omega
     . exact h.2 k2 k3 R2 ad ai h2 h3
def nz.same{H H':ae}{lo:Nat}{n:Int}{lS:List ((Int×Int)×Nat)}{b:Nat}{lN:List (Int×(Nat×List Int))}(h:nz H lo n lS b lN)(hs:∀R,lo<R->R<H.next->H'.get R=H.get R)(hn:H.next<=H'.next):nz H' lo n lS b lN:=
 ⟨λk R xs h1=>by
  obtain⟨q1,q2,q3,q4,q5,q6,q7,q8⟩:=h.1 k R xs h1;exact⟨q1,aa,by rw[hs R q1 q2,q3],q4,q5,q6,q7,q8⟩,h.2⟩
def acu:E.elem 70=some 1:=ak
def acv{h:ae}{R o len aj:Nat}{cs:List DV}(hg:h.get R=some (.row cs true aj))(he:aj=0\/aj=1)(hl:0<len):de E h 70 (some (.v (.slice (some ⟨R,o,none⟩) len len))) (some (some (iV 1))) (some none) (some none)=some (.v (.slice (some ⟨R,o+1,none⟩) (len-1) (len-1))):=by
 have h1:(1:Int)<=len:=aa;simp[de,fK,gd,jH,dR,acu,h1,hg,he]
def acw{cs:List DV}{o:Nat}{m:Int}{q:List Int}(h:cs.drop o=zs (m::q)):cs[o]? =some (iV m):=by
 have:=congrArg (λl=>l[0]?) h;simpa using this
def acx{cs:List DV}{o:Nat}{m:Int}{q:List Int}(h:cs.drop o=zs (m::q)):cs.drop (o+1)=zs q:=by
 rw[<-afN,h];rfl
def acy(l:List Nat)(c:Nat):(l.map λ_=>c).sum=c*l.length:=by
 induction l with
 |nil=>rfl
 |cons x l ih=>rw[adv,List.sum_cons,ih,afB,Nat.mul_succ];omega
def Di(n:Nat)(l:List (Int×Nat)):mu n l<=255*n:=by
 have h1:=Jh (E2 n) (λ(i:Nat)=>255-cP l (i:Int)) (λ_=>255) λi _=>Nat.sub_le _ _;rw[acy,List.length_range]at h1;exact h1
end Go.Sp
end
noncomputable section
open Go Go.aD Go.Proofs
namespace Go.Sp
def aB.Js{t:Tr DV}{n N:Nat}{dd:List FuncId}{h:ae}{l:List (Nat×DV)}{r:List (Nat×bF)}(F:List Nat)(hF:∀i∈F,(h.get i).isSome=true)(hN:h.next=N){i:Nat}{v d:DV}(hi:t.get i=some v)(hz:Fz (rowsOf h F) v d)(ht:gm t l)(hh:ni h r)(hr:∀p∈r,p.1∉F):aB ⟨t,n,dd,h⟩ ⟨bw ((i,d)::l),n,dd,cj N r⟩:=by
 refine aB.of F hF (by rw[tQ,hN]) (λj w hw=> ?_) λj o ho=> ?_
 . rw[yk]at hw
   split at hw
   . rename_i he;subst he;cases hw;exact⟨v,hi,hz⟩
   . exact⟨w,tR ht.mem j w hw,.refl w⟩
 . have h1:=yl hh.mem j o ho;refine⟨λhj=> ?_,.inl h1⟩;have:∀{r:List (Nat×bF)},(∀p∈r,p.1∉F)->(cj N r).get j=none:=by
    intro r
    induction r with
    |nil=>intro _;rw[vQ]
    |cons x r ih=>
     intro hr;rw[tP]
     split
     . rename_i he;subst he;exact absurd hj (hr x aw)
     . exact ih λp hp=>hr p (afj _ hp)
   rw[this hr]at ho;cases ho
def y9(a:An)(NU:Int->Prop):Prop:=∀p∈a.g.ay,∀(k:Nat) (s:Sym),p.right[k]? =some s->s.tok=false->(∀(i:Nat) (s':Sym),i≠k->p.right[i]? =some s'->s'.tok=false/\NU s'.idx)->p.left<s.idx/\s.idx<a.g.aP.length
def acz{α:Type}(l:List α)(m i:Nat)(x:α)(h:l[i]? =some x)(hi:i≠m):x∈l.take m++l.drop (m+1):=by
 rw[RC];rcases Nat.lt_or_ge i m with h1|h1
 . exact .inl (RW (i:=i) (by rw[List.getElem?_take,if_pos h1,h]))
 . exact .inr (RW (i:=i-(m+1)) (by rw[List.getElem?_drop,show m+1+(i-(m+1))=i by omega,h]))
def uC(n:Int)(l:List ((Int×Int)×Nat)):Prop:=∀x c,bj l x=some c->0<=x.1/\x.1<x.2/\x.2<n
def uC.put{n:Int}{l:List ((Int×Int)×Nat)}(h:uC n l){x:Int×Int}{c:Nat}(hx:0<=x.1/\x.1<x.2/\x.2<n):uC n (Go.aD.put l x c):=λy d hd=>by
 rw[mW]at hd
 split at hd
 . rename_i he;rw[he];exact hx
 . exact h y d hd
def Dj{h:ae}{R len sz b n aj:Nat}{cs new:List DV}{K:DV×ae×List Nat->Prop}(hg:h.get R=some (.row cs true aj))(he:aj=0\/aj=sz)(hc:cs.length=len*sz)(hs:0<sz)(hn:new.length=n*sz)(h1:new.all cZ=true)(hb:(len+n)*(b+1)<=1073741824)(hR:R<h.next)
 (hk:∀R' h' T bp,(bp=0\/bp=sz)->h'.get R'=some (.row (cs++new) true bp)->(R'=R\/h.next<=R')->R'<h'.next->h.next<=h'.next->(∀i,i≠R->i<h.next->h'.get i=h.get i)->(∀i∈T,i=R)->K (.v (.slice (some ⟨R',0,none⟩) (len+n) (len+n)),h',T)):aO (eP h (some ⟨R,0,none⟩) len len sz b n new) K:=by
 rcases afO n with rfl|bK
 . have:new=[]:=List.eq_nil_of_length_eq_zero aa;subst this;refine⟨(.v (.slice (some ⟨R,0,none⟩) (len+0) len),h,[]),by simp[eP], ?_⟩;have:=hk R h [] aj he (by simpa using hg) (.inl rfl) hR (Xy _) (λi _ _=>rfl) (λi hi=>by cases hi);simpa using this
 . rcases he with rfl|rfl
   . refine⟨_,Gw h R len sz b n cs new true hg hc bK hb,hk h.next _ [] sz (.inr rfl) ?_ (.inr (Xy _)) (by rw[ae.bm];omega) (by rw[ae.bm];omega) (λi _ hi=> ?_) (λi hi=>by cases hi)⟩
     . rw[ae.dN,if_pos rfl]
     . rw[ae.dN,if_neg aa]
   . refine⟨_,vI h R len aj b n cs new hg hc hs bK h1 hb,hk h.next _ [R] aj (.inr rfl) ?_ (.inr (Xy _)) (by rw[ae.bm,ae.aY];omega) (by rw[ae.bm,ae.aY];omega) (λi dx hi=> ?_) (λi hi=>by simpa using hi)⟩
     . rw[ae.dN,ae.aY,if_pos rfl]
     . rw[ae.dN,ae.aY,if_neg aa,ae.bu,if_neg dx]
def Jt(l:List Sym):((l.map Sym.e).flatten).all cZ=true:=by
 simp only[qG,List.mem_flatten,FQ];rintro x ⟨_,⟨s,_,rfl⟩,hx⟩;simp only[Sym.e,Vs,afC,or_false]at hx;rcases hx with rfl|rfl<;>rfl
def Dk(l:List Sym):((l.map Sym.e).flatten).length=l.length*2:=by
 rw[fF (k:=2) (λx hx=>by obtain⟨y,_,rfl⟩:=FQ.1 hx;rfl),afx]
def Ju:E.elem 82=some 2:=ak
def acA{h:ae}(xs:List (List DV))(m:Nat)(hm:m<=xs.length):de E h 82 (some (.sl 2 xs)) (some none) (some (some (iV m))) (some none)=some (.sl 2 (xs.take m)):=by
 have h1:(m:Int)<=xs.length:=aa;simp[de,fK,gd,jH,dR,Ju,h1,hm]
def acB{h:ae}(xs:List (List DV))(m:Nat)(hm:m<=xs.length):de E h 82 (some (.sl 2 xs)) (some (some (iV m))) (some none) (some none)=some (.sl 2 (xs.drop m)):=by
 have h1:(m:Int)<=xs.length:=aa;simp[de,fK,gd,jH,dR,Ju,h1,hm];exact afH aw
def acC{h:ae}(xs:List (List DV))(m:Nat)(hm:m+1<=xs.length):de E h 82 (some (.sl 2 xs)) (some (some (.v (.int .i64 ((m:Int)+1))))) (some none) (some none)=some (.sl 2 (xs.drop (m+1))):=acB xs (m+1) hm
def acD{κ:Type}[DecidableEq κ]{l:List (κ×Nat)}(hl:jW l)(k:κ):cP l k<256:=by
 unfold cP;cases h:bj l k with
 |none=>simp
 |some c=>simpa using hl k c h
def acE{e:Env}{ty:TypeId}{k:Value}{d:DV}{es ba:List bH}{clock ad:Nat}(hu:kM e ty k d es clock=some (.map ba ad)):ba.length<=es.length+1:=by
 unfold kM at hu
 split at hu
 . split at hu
   . cases hu
   . split at hu
     . split at hu
       . cases hu
       . split at hu
         . cases hu;rw[List.length_modify];omega
         . cases hu
       . cases hu;rw[afK];exact Xy _
     . cases hu
 . cases hu
def acF(n:Int):uC n []:=λx c h=>by cases h
set_option maxHeartbeats 8000000 in
def acG{K:cD}{dd:List FuncId}{h:ae}(a:An)(ha:a.Ok)(NU:Int->Prop)(dz:sJ a NU)(hE:y9 a NU)(cg:∃c,a.g.family=aM c/\c<256)
 (hk:∀h' T R es clock lo,ju es lo->(∀p∈lo,p.2=0)->lC es clock->h.next<=R->R<h'.next->h'.get R=some (.map es clock)->(∀i,i<h.next->h'.get i=h.get i)->K (.v (.map (some R))) dd h' T):
 ax E false K dd h (70,[.ptr a.e 0]):=by
 refine c8.frame [] aw ?_;obtain⟨N,hN⟩:∃N,h.next=N:=⟨_,rfl⟩;refine gR (K:=λv _ cK _=>∀aF:ae,aF.next=cK.next->(∀i,(i∈[]\/h.next<=i)->aF.get i=cK.get i)->(∀i,i<h.next->i∉[]->aF.get i=h.get i)->K v dd aF []) (dd:=dd) Tryz.ntmps70 Tryz.results70 ?_;simp only[e9];rw[hN];have eI:=ha.ay;refine aL ?_;refine ax.any (acd a ha NU dz λh1 T M bL aI lE dB ch ck dD dF dG _=> ?_);simp only[ae.FX]at dD;obtain⟨N1,cl⟩:∃N1,h1.next=N1:=⟨_,rfl⟩;rw[cl]at dF;simp(disch:=omega)[go_sem,cl,An.e,aq.e];obtain⟨I,hI⟩:∃I:Nat->DS->Prop,∀j d,I j d↔∃(k P:Nat) (es:List bH) (clock:Nat) (l:List ((Int×Int)×Nat)),j+k=a.g.ay.length/\N1+1<P/\y8 es l/\jW l/\uC a.g.aP.length l/\lC es clock/\es.length<=16*k/\
  d=⟨bw [(0,.ptr a.e 0),(3,.v (.map (some M))),(4,.v (.pointer (some ⟨N1+1,0,none⟩))),(29,.sl 13 (a.g.ay.map aX.e)),(30,iV a.g.ay.length),(31,iV k)],166,[],cj P [(M,.map bL aI),(N1,.map es clock),(N1+1,.row [.v (.map (some N1))] true 0)]⟩:=⟨_,λ_ _=>KE⟩
 refine bS I a.g.ay.length ⟨_,aB.mk (N:=N1+2) ?_ ?_ ?_,(hI _ _).2 ⟨0,N1+2,[],0,[],rfl,aa,rfl,Jk,acF _,lC.nil 0,aw,rfl⟩⟩ ?_
 . simp(disch:=omega)[go_sem,cl]
 . simp(disch:=omega)[go_sem,An.e,aq.e]
 . simp(disch:=omega)[go_sem,dG]
 . intro j ds cL;obtain⟨k,P,av,ab,l1,hj,hP,b7,bq,bs,b8,dH,rfl⟩:=(hI _ _).1 cL;clear cL;by_cases cM:k<a.g.ay.length
   . have bt:(k:Int)<a.g.ay.length:=aa;obtain⟨p,hx⟩:∃p,a.g.ay[k]? =some p:=⟨_,RK cM⟩;have cm:=RW hx;obtain⟨c,hc⟩:∃c,a.dE[k]? =some c:=⟨_,RK (by rw[ha.len];exact cM)⟩;have cN:=ha.lt c (RW hc);have bM:=ha.left p cm;have eJ:=ha.right p cm;simp(disch:=omega)[go_sem,bt,hx,-getElem?_pos,aX.e];obtain⟨J,hJ⟩:∃J:Nat->DS->Prop,∀j d,J j d↔∃(m P2:Nat) (es:List bH) (clock:Nat) (l:List ((Int×Int)×Nat)),j+m=p.right.length/\P<P2/\y8 es l/\jW l/\uC a.g.aP.length l/\lC es clock/\es.length<=16*k+m/\
      d=⟨bw [(0,.ptr a.e 0),(3,.v (.map (some M))),(4,.v (.pointer (some ⟨N1+1,0,none⟩))),(29,.sl 13 (a.g.ay.map aX.e)),(30,iV a.g.ay.length),(31,iV k),(5,iV k),(6,.v (.pointer (some ⟨P,0,none⟩))),(37,.sl 2 (p.right.map Sym.e)),(38,iV p.right.length),(39,iV m)],166,[],cj P2 [(M,.map bL aI),(N1,.map es clock),(N1+1,.row [.v (.map (some N1))] true 0),(P,.row p.e true 0)]⟩:=⟨_,λ_ _=>KE⟩
     refine bS J p.right.length ⟨_,aB.mk (N:=P+1) ah ?_ ?_,(hJ _ _).2 ⟨0,P+1,av,ab,l1,rfl,aa,b7,bq,bs,b8,aa,rfl⟩⟩ ?_
     . simp(disch:=omega)[go_sem,aX.e]
     . simp(disch:=omega)[go_sem,aX.e]
     . intro j2 dJ bP;obtain⟨m,P2,bx,an,l2,dK,eO,bQ,aJ,bc,b9,dL,rfl⟩:=(hJ _ _).1 bP;clear bP;by_cases dM:m<p.right.length
       . have bd:(m:Int)<p.right.length:=aa;obtain⟨s,hs⟩:∃s,p.right[m]? =some s:=⟨_,RK dM⟩;cases ht:s.tok with
         |true=>
          simp(disch:=omega)[go_sem,bd,hs,-getElem?_pos,Sym.e,ht,aG];refine⟨j2-1,aa,_,aB.mk (N:=P2+1) ah ?_ ah,(hJ _ _).2 ⟨m+1,P2+1,bx,an,l2,aa,aa,bQ,aJ,bc,b9,aa,rfl⟩⟩
          . simp(disch:=omega)[go_sem,Sym.e]
         |false=>
          simp(disch:=omega)[go_sem,bd,hs,-getElem?_pos,Sym.e,ht,aG];refine bZ [cR 0,ai 0,aK 2,ai 0,aK 14,aU 31,lr 0,dC 64,lr 0,lr 256,dC 960,aU 2047,ai 4095] ak 1 rfl ?_;simp(disch:=omega)[go_sem,aX.e,aG];refine⟨_,acA _ m (by simp;omega), ?_⟩;simp(disch:=omega)[go_sem,aX.e,aG];rw[<-List.map_take];refine Dj (cs:=[]) (aj:=0) ah (.inl rfl) rfl aa (by rw[Dk,afv];omega) (Jt _) aa (by simp(disch:=omega)[go_sem];try omega) λR1 h2 T1 z1 q1 q2 q3 q4 q5 q6 q7=> ?_;simp(disch:=omega)[go_sem]at q3 q4 q5 q6;simp(disch:=omega)[go_sem,aX.e,aG,q6];refine⟨λh=>by have:=q7 P h;omega, ?_⟩;refine⟨_,acC _ m (by simp;omega), ?_⟩;simp(disch:=omega)[go_sem,aX.e,aG];rw[<-List.map_drop];have bg:((p.right.take m).map Sym.e).flatten.length=m*2:=by rw[Dk,afv];omega
          have bk:((p.right.drop (m+1)).map Sym.e).flatten.length=(p.right.length-(m+1))*2:=by rw[Dk,afP]
          refine Dj (cs:=((p.right.take m).map Sym.e).flatten) (aj:=z1) (by simpa using q2) q1 bg aa bk (Jt _) aa q4 λR2 h3 T2 z2 w1 w2 w3 w4 w5 w6 w7=> ?_;have cQ:h3.get M=some (.map bL aI):=by rw[w6 M aa aa,q6 M aa aa];simp(disch:=omega)[go_sem]
          have dO:h3.get N1=some (.map bx an):=by rw[w6 N1 aa aa,q6 N1 aa aa];simp(disch:=omega)[go_sem]
          have dP:h3.get (N1+1)=some (.row [.v (.map (some N1))] true 0):=by rw[w6 (N1+1) aa aa,q6 (N1+1) aa aa];simp(disch:=omega)[go_sem]
          have cS:h3.get P=some (.row p.e true 0):=by rw[w6 P aa aa,q6 P aa aa];simp(disch:=omega)[go_sem,aX.e]
          have dQ:h3.get P2=some (.row [bV false,iV s.idx] true 0):=by rw[w6 P2 aa aa,q6 P2 aa aa];simp(disch:=omega)[go_sem]
          obtain⟨rest,aN⟩:∃rest,p.right.take m++p.right.drop (m+1)=rest:=⟨_,rfl⟩;obtain⟨L,hL⟩:∃L,m+(p.right.length-(m+1))=L:=⟨_,rfl⟩;have cn:rest.length=L:=by rw[<-aN,afK,afv,afP];omega
          have cp:h3.get R2=some (.row (rest.map Sym.e).flatten true z2):=by rw[w2,<-aN,afy,List.flatten_append]
          rw[hL];clear w2 bg bk;subst cn;simp(disch:=omega)[go_sem,aX.e,aG,An.e,aq.e,hc,-getElem?_pos,Dg.e];refine ax.any (acm (es:=bL) (clock:=aI) (l:=lE) (R:=R2) (aj:=z2) (wr:=true) (syms:=rest) (c:=c) cQ aa cp aa aa dB ch cN aa λN4 eQ=> ?_);have cU:=y5 lE rest c cN;obtain⟨c4,bR⟩:∃c4,gr lE c rest=c4:=⟨_,rfl⟩;rw[bR]at cU⊢;simp(disch:=omega)[go_sem,Dg.e];obtain⟨Q,hQ⟩:∃Q:Nat->DS->Prop,∀j d,Q j d↔∃(q P3 c5:Nat),j+q=rest.length/\N4<P3/\c5<256/\(c5≠0->c5=c4/\∀(i:Nat) (s:Sym),i<q->rest[i]? =some s->s.tok=false)/\
           d=⟨bw [(68,.sl 2 (rest.map Sym.e)),(0,.ptr a.e 0),(3,.v (.map (some M))),(4,.v (.pointer (some ⟨N1+1,0,none⟩))),(29,.sl 13 (a.g.ay.map aX.e)),(30,iV a.g.ay.length),(31,iV k),(5,iV k),(6,.v (.pointer (some ⟨P,0,none⟩))),(37,.sl 2 (p.right.map Sym.e)),(38,iV p.right.length),(39,iV m),(8,.v (.pointer (some ⟨P2,0,none⟩))),(10,.v (.pointer (some ⟨N4,0,none⟩))),(69,iV rest.length),(70,iV q)],166,[],cj P3 [(M,.map bL aI),(N1,.map bx an),(N1+1,.row [.v (.map (some N1))] true 0),(P,.row p.e true 0),(P2,.row s.e true 0),(N4,.row (aM c5).e true 0)]⟩:=⟨_,λ_ _=>KE⟩
          refine bS Q rest.length ⟨_,aB.Js (N:=N4+1) [R2] ?_ ?_ (by simp(disch:=omega)[go_sem];rfl) ?_ ?_ ?_ ?_,(hQ _ _).2 ⟨0,N4+1,c4,rfl,aa,cU,λ_=>⟨rfl,λi s hi=>aa⟩,rfl⟩⟩ ?_
          . simp(disch:=omega)[go_sem,cp]
          . exact ah
          . exact dY (aj:=z2) (fA aw (by simp(disch:=omega)[go_sem,cp];rfl)) aa aa aw aw (λx h=>by obtain⟨y,_,rfl⟩:=FQ.1 h;rfl)
          . simp(disch:=omega)[go_sem,An.e,aq.e,Dg.e]
          . simp(disch:=omega)[go_sem,cQ,dO,dP,cS,dQ,aX.e,Sym.e,ht,Dg.e]
          . simp;omega
          . intro j3 dS bT;obtain⟨q,P3,c5,dW,cS,bG,bA,rfl⟩:=(hQ _ _).1 bT;clear bT;by_cases dX:q<rest.length
            . have aQ:(q:Int)<rest.length:=aa;obtain⟨u,hu⟩:∃u,rest[q]? =some u:=⟨_,RK dX⟩;cases cr:u.tok with
              |true=>
               simp(disch:=omega)[go_sem,aQ,hu,-getElem?_pos,Sym.e,cr,aG];refine ax.mk (Dc false) λM5=>aT λeR=> ?_;simp(disch:=omega)[go_sem,Dg.e,aG];refine⟨j3-1,aa,_,aB.mk (N:=M5) ah ah ?_,(hQ _ _).2 ⟨q+1,M5,0,aa,aa,aa,λh=>absurd rfl h,rfl⟩⟩
               . simp(disch:=omega)[go_sem,Dg.e,Sym.e];exact⟨rfl,rfl⟩
              |false=>
               simp(disch:=omega)[go_sem,aQ,hu,-getElem?_pos,Sym.e,cr,aG];refine⟨j3-1,aa,_,aB.mk (N:=P3+1) ah ah ?_,(hQ _ _).2 ⟨q+1,P3+1,c5,aa,aa,bG,λh=>⟨(bA h).1,λi s' hi bW=> ?_⟩,rfl⟩⟩
               . simp(disch:=omega)[go_sem,Sym.e]
               . rcases Nat.lt_or_ge i q with h1|h1
                 . exact(bA h).2 i s' h1 bW
                 . have:i=q:=aa;subst this;rw[hu]at bW;cases bW;exact cr
            . have aQ:¬(q:Int)<rest.length:=aa;have cY:=yZ bG;by_cases hz:c5=0
              . have aS:=cY.2 hz;simp(disch:=omega)[go_sem,aQ,Dg.e,aS,aG];exact⟨j2-1,aa,_,aB.mk (N:=P3) ah ah ah,(hJ _ _).2 ⟨m+1,P3,bx,an,l2,aa,aa,bQ,aJ,bc,b9,aa,rfl⟩⟩
              . have aS:¬(aM c5).root=0:=λh=>hz (cY.1 h);obtain⟨ct,dZ⟩:=bA hz;have ea:=De lE rest c (by rw[bR,<-ct];exact hz);have c1:=hE p cm m s hs ht λi s' hi bW=>by
                 have c2:s'∈rest:=by rw[<-aN];exact acz _ _ _ _ bW hi
                 obtain⟨i2,dU⟩:=afL c2;have c3:=dZ i2 s' (by have:=(ab8.1 dU).1;omega) dU;exact⟨c3,ck _ (ea.2 s' c2 c3)⟩
                have c6:=acD aJ (p.left,s.idx);have c7:=C8 (cP l2 (p.left,s.idx)) c5 c6 bG;have bo:=qS (ar:=true) (aM (cP l2 (p.left,s.idx)|||c5));simp only[Dg.e]at c7 bo;simp(disch:=omega)[go_sem,aQ,Dg.e,aS,aG,aX.e,Sym.e];refine bZ [⟨.read,0,some (0,4),true⟩,⟨.read,0,some (0,4),true⟩,aK 0,aK 0,aU 12,dC 0,aU 60,ai 124,ai 124,aU 508,aU 1023] ak 0 rfl ?_;simp(disch:=omega)[go_sem,aX.e,Sym.e,aG];refine⟨aa, ?_⟩;refine aci (es:=bx) (clock:=an) (l:=l2) ah (by simp(disch:=omega)[go_sem];try omega) bQ λM6 c9=> ?_;replace c9:=cq c9;simp(disch:=omega)[go_sem,Dg.e];refine⟨aa,aa, ?_⟩;refine ax.mk c7 λM7=>dI λeS=> ?_;refine ax.mk bo λM8=>aT λeT=> ?_;obtain⟨ba,ad,h8,h9⟩:=pI y7 wB bQ (p.left,s.idx) an (cP l2 (p.left,s.idx)|||c5);refine aL ?_;refine⟨_,sE (es:=bx) (clock:=an) ah rfl h8, ?_⟩;simp(disch:=omega)[go_sem,aG];refine⟨j2-1,aa,_,aB.mk (N:=M8) ?_ ?_ ?_,(hJ _ _).2 ⟨m+1,M8,ba,ad,_,aa,aa,h9,aJ.put (wA c6 bG),bc.put ⟨bM.1,c1.1,c1.2⟩,b9.up h8,by have:=acE h8;omega,rfl⟩⟩
                . exact ah
                . exact ah
                . simp(disch:=omega)[go_sem,aX.e]
       . have bd:¬(m:Int)<p.right.length:=aa;simp(disch:=omega)[go_sem,bd,aG];exact⟨j-1,aa,_,aB.mk (N:=P2) ah ah ah,(hI _ _).2 ⟨k+1,P2,bx,an,l2,aa,aa,bQ,aJ,bc,b9,aa,rfl⟩⟩
   . have bt:¬(k:Int)<a.g.ay.length:=aa;simp(disch:=omega)[go_sem,bt];refine⟨_,Jq (es:=av) (clock:=ab) wB ah, ?_⟩;refine aL ?_;obtain⟨n,hn⟩:∃n,a.g.aP.length=n:=⟨_,rfl⟩;have eb:=ha.aP;rw[hn]at bs eb;obtain⟨J,hJ⟩:∃J:Nat->DS->Prop,∀j d,J j d↔∃(seen:List Nat) (aH:List bH) (ao:Nat) (lN:List (Int×(Nat×List Int))) (b:Nat) (H:ae),j=left av seen/\j+b<=av.length/\P+2<H.next/\Dh aH lN/\nz H (P+2) n l1 b lN/\
      H.get N1=some (.map av ab)/\H.get (N1+1)=some (.row [.v (.map (some N1))] true 0)/\H.get P=some (.map aH ao)/\H.get (P+1)=some (.row [.v (.map (some P))] true 0)/\H.get (P+2)=some (.cF (some N1) ab seen ab)/\
      d=⟨bw [(0,.ptr a.e 0),(4,.v (.pointer (some ⟨N1+1,0,none⟩))),(14,.v (.pointer (some ⟨P+1,0,none⟩))),(100,.v (.pointer (some ⟨P+2,0,none⟩)))],166,[],H⟩:=⟨_,λ_ _=>KE⟩
     refine bS J av.length ⟨_,aB.bb (l:=[(0,.ptr a.e 0),(4,.v (.pointer (some ⟨N1+1,0,none⟩))),(14,.v (.pointer (some ⟨P+1,0,none⟩))),(100,.v (.pointer (some ⟨P+2,0,none⟩)))]) ?_,(hJ _ _).2 ⟨[],[],0,[],0,_,(Jm av).symm,aw,ah,.nil ..,.nil ..,ah,ah,ah,ah,ah,rfl⟩⟩ ?_
     . simp(disch:=omega)[go_sem,An.e,aq.e]
     . intro j2 dJ bP;obtain⟨seen,aH,ao,lN,b,H,dK,eU,ec,hN,bX,f1,f2,f3,f4,f5,rfl⟩:=(hJ _ _).1 bP;clear bP;refine aL ?_;refine .inr ⟨rfl,_,ah,P+2,N1,ab,seen,ab,av,ab,rfl,f5,f1,b8.1,Xy _,λed=> ?_,λx hx ef=> ?_⟩
       . obtain⟨cf,da,cu⟩:=cg;have bY:a.g.family.nodes=(aM cf).nodes:=by rw[da]
         have b0:a.g.family.root=(aM cf).root:=by rw[da]
         obtain⟨O,hO⟩:∃O,H.next=O:=⟨_,rfl⟩;rw[hO]at ec;simp(disch:=omega)[go_sem,An.e,aq.e,hO];obtain⟨G,hG⟩:∃G:Nat->DS->Prop,∀j d,G j d↔∃(k:Nat) (H':ae) (es:List bH) (clk:Nat) (lo:List (Int×Nat)),j+k=n/\O<H'.next/\(∀i,i<O->H'.get i=H.get i)/\H'.get O=some (.map es clk)/\ju es lo/\(∀p∈lo,p.2=0)/\lC es clk/\
          d=⟨bw [(0,.ptr a.e 0),(4,.v (.pointer (some ⟨N1+1,0,none⟩))),(14,.v (.pointer (some ⟨P+1,0,none⟩))),(16,.v (.map (some O))),(122,iV n),(123,iV k)],166,[],H'⟩:=⟨_,λ_ _=>KE⟩
         refine bS G n ⟨_,aB.bb (l:=[(0,.ptr a.e 0),(4,.v (.pointer (some ⟨N1+1,0,none⟩))),(14,.v (.pointer (some ⟨P+1,0,none⟩))),(16,.v (.map (some O))),(122,iV n),(123,iV (0:Nat))]) ?_,(hG _ _).2 ⟨0,_,[],0,[],rfl, ?_,λi hi=> ?_, ?_,rfl,λp h=>(by cases h),lC.nil 0,rfl⟩⟩ ?_
         . simp(disch:=omega)[go_sem,An.e,aq.e,hn]
         . simp(disch:=omega)[go_sem,hO]
         . simp(disch:=omega)[go_sem,hO]
         . simp(disch:=omega)[go_sem,hO]
         . intro j3 dS bT;obtain⟨k3,H3,bI,az,db,dW,df,aC,cv,cw,cx,cy,rfl⟩:=(hG _ _).1 bT;clear bT;have e1:H3.get N1=some (.map av ab):=by rw[aC N1 aa,f1]
           have e2:H3.get (N1+1)=some (.row [.v (.map (some N1))] true 0):=by rw[aC (N1+1) aa,f2]
           have e3:H3.get P=some (.map aH ao):=by rw[aC P aa,f3]
           have e4:H3.get (P+1)=some (.row [.v (.map (some P))] true 0):=by rw[aC (P+1) aa,f4]
           by_cases eV:k3<n
           . have bB:(k3:Int)<n:=aa;simp(disch:=omega)[go_sem,bB,e4];cases aW:bj lN k3 with
             |none=>
              have h1:=sA kq qT hN k3 false Df rfl aW;refine⟨_,lU (es:=aH) (clock:=ao) e3 rfl h1, ?_⟩;simp(disch:=omega)[go_sem,fZ,aG];refine⟨j3-1,aa,_,aB.bb (l:=[(0,.ptr a.e 0),(4,.v (.pointer (some ⟨N1+1,0,none⟩))),(14,.v (.pointer (some ⟨P+1,0,none⟩))),(16,.v (.map (some O))),(122,iV n),(123,iV (k3+1:Nat))]) ?_,(hG _ _).2 ⟨k3+1,H3,bI,az,db,aa,df,aC,cv,cw,cx,cy,rfl⟩⟩;exact ah
             |some r=>
              obtain⟨R,xs⟩:=r;obtain⟨q1,q2,q3,q4,q5,q6,q7,q8⟩:=bX.1 _ _ _ aW;have h1:=sy kq qT hN k3 false aW;refine⟨_,lU (es:=aH) (clock:=ao) e3 rfl h1, ?_⟩;have eh:¬xs.length=0:=λh=>q6 (List.length_eq_zero_iff.1 h);have e5:H3.get R=some (.row (zs xs) true 1):=by rw[aC R aa,q3]
              obtain⟨X,hX⟩:∃X,H3.next=X:=⟨_,rfl⟩;rw[hX]at df;simp(disch:=omega)[go_sem,wC,eh,q6,An.e,aq.e,bY,b0,hX];refine ax.any (Jl (N:=n) (n:=k3) (ST:=N1) (Bs:=N1+1) (NX:=P) (Bn:=P+1) (R:=R) (RM:=X) (Br:=X+1) (Q:=X+2) (Bq:=X+3) (es:=[]) (clk:=0) (l:=[]) (q:=[]) (cs:=[]) (o:=0) (aj:=0) (lS:=l1) (lN:=lN) (c0:=cf) (B:=2*mu n []) (xs:=xs) aa aa aa aa aa aa aa aa aa (by simp(disch:=omega)[go_sem,hX]) (by simp(disch:=omega)[go_sem,hX]) (by simp(disch:=omega)[go_sem,hX,e1];rfl) (by simp(disch:=omega)[go_sem,hX,e2]) (by simp(disch:=omega)[go_sem,hX,e3];rfl) (by simp(disch:=omega)[go_sem,hX,e4]) (by simp(disch:=omega)[go_sem,hX]) (by simp(disch:=omega)[go_sem,hX]) (by simp(disch:=omega)[go_sem,hX]) (by simp(disch:=omega)[go_sem,hX]) (by simp(disch:=omega)[go_sem,hX,e5]) b7 bq hN rfl (.inl rfl) rfl rfl aa aa aW q8 aa ⟨λk c h=>by simp[bj]at h,λy hy=>by cases hy⟩ cu rfl ?_ λH4 T4 ca bD l4 ei Q4 o4 z4 b1 dg dh ej dj dk b2 b3 dm bR dn g1 g2 g3 af=> ?_)
              . have:=Di n [];omega
              simp(disch:=omega)[go_sem,hX]at dj af;have s1:H4.get N1=some (.map av ab):=by rw[af N1 aa aa aa aa];simp(disch:=omega)[go_sem,hX,e1]
              have s2:H4.get (N1+1)=some (.row [.v (.map (some N1))] true 0):=by rw[af (N1+1) aa aa aa aa];simp(disch:=omega)[go_sem,hX,e2]
              have s3:H4.get P=some (.map aH ao):=by rw[af P aa aa aa aa];simp(disch:=omega)[go_sem,hX,e3]
              have s4:H4.get (P+1)=some (.row [.v (.map (some P))] true 0):=by rw[af (P+1) aa aa aa aa];simp(disch:=omega)[go_sem,hX,e4]
              have s5:H4.get (X+1)=some (.row [.v (.map (some X))] true 0):=by rw[af (X+1) aa aa aa aa];simp(disch:=omega)[go_sem,hX]
              have s6:H4.get O=some (.map bI az):=by rw[af O aa aa aa aa];simp(disch:=omega)[go_sem,hX,cv]
              have s7:∀i,i<O->H4.get i=H.get i:=λi hi=>by rw[af i aa aa aa aa,<-aC i hi];simp(disch:=omega)[go_sem,hX]
              obtain⟨V,hV⟩:∃V:Nat->DS->Prop,∀j d,V j d↔∃(H4:ae) (ca:List bH) (bD:Nat) (l4:List (Int×Nat)) (q4:List Int) (Q4 o4 z4:Nat) (b1:List DV),j=2*mu n l4+q4.length/\j<=1100000/\X+4<=H4.next/\ju ca l4/\wD k3 n l4 q4/\X+1<Q4/\Q4≠X+3/\Q4<H4.next/\(z4=0\/z4=1)/\b1.length=o4+q4.length/\b1.drop o4=zs q4/\
               H4.get X=some (.map ca bD)/\H4.get Q4=some (.row b1 true z4)/\H4.get (X+3)=some (.row [.v (.slice (some ⟨Q4,o4,none⟩) q4.length q4.length)] true 0)/\H4.get N1=some (.map av ab)/\H4.get (N1+1)=some (.row [.v (.map (some N1))] true 0)/\H4.get P=some (.map aH ao)/\H4.get (P+1)=some (.row [.v (.map (some P))] true 0)/\H4.get (X+1)=some (.row [.v (.map (some X))] true 0)/\H4.get O=some (.map bI az)/\(∀i,i<O->H4.get i=H.get i)/\
               d=⟨bw [(0,.ptr a.e 0),(4,.v (.pointer (some ⟨N1+1,0,none⟩))),(14,.v (.pointer (some ⟨P+1,0,none⟩))),(16,.v (.map (some O))),(17,iV k3),(18,.v (.pointer (some ⟨X+1,0,none⟩))),(19,.v (.pointer (some ⟨X+3,0,none⟩))),(20,.fn 115 [] [.v (.pointer (some ⟨P+1,0,none⟩)),.v (.pointer (some ⟨X+1,0,none⟩)),.v (.pointer (some ⟨N1+1,0,none⟩)),.v (.pointer (some ⟨X+3,0,none⟩))]),(122,iV n),(123,iV k3)],166,[],H4⟩:=⟨_,λ_ _=>KE⟩
              refine bS V _ ⟨_,aB.bb (l:=[(0,.ptr a.e 0),(4,.v (.pointer (some ⟨N1+1,0,none⟩))),(14,.v (.pointer (some ⟨P+1,0,none⟩))),(16,.v (.map (some O))),(17,iV k3),(18,.v (.pointer (some ⟨X+1,0,none⟩))),(19,.v (.pointer (some ⟨X+3,0,none⟩))),(20,.fn 115 [] [.v (.pointer (some ⟨P+1,0,none⟩)),.v (.pointer (some ⟨X+1,0,none⟩)),.v (.pointer (some ⟨N1+1,0,none⟩)),.v (.pointer (some ⟨X+3,0,none⟩))]),(122,iV n),(123,iV k3)]) ?_,(hV _ _).2 ⟨H4,ca,bD,l4,ei,Q4,o4,z4,b1,rfl,by have:=Di n [];omega,aa,dg,dh,dk,b2,b3,dm,bR,dn,g1,g2,g3,s1,s2,s3,s4,s5,s6,s7,rfl⟩⟩ ?_
              . simp(disch:=omega)[go_sem,An.e,aq.e,bY,b0]
              clear hX af dj dg dh dk b2 b3 dm bR dn g1 g2 g3 s1 s2 s3 s4 s5 s6 s7 ej;intro j4 eW dp;obtain⟨H5,cb,bf,l5,q5,Q5,o5,z5,dq,ek,en,eX,cc,bE,eo,b5,ep,bA,bG,dr,g1,g2,g3,s1,s2,s3,s4,s5,s6,s7,rfl⟩:=(hV _ _).1 dp;clear dp;have hmul:=Di n l5;cases q5 with
              |nil=>
               have er:cP l5 (k3:Int)=0:=by
                unfold cP;cases hq:bj l5 (k3:Int)with
                |none=>rfl
                |some c=>have:=(bE.1 _ _ hq).2.1;omega
               simp(disch:=omega)[go_sem,g3,s5];refine wz (r:=X) (es:=cb) (clock:=bf) (l:=l5) g1 aa cc λM9 cz=> ?_;rw[er];obtain⟨ba,ad,h8,h9⟩:=pI kq sI cw k3 az 0;refine aL ?_;refine⟨_,sE (es:=bI) (clock:=az) (by simp(disch:=omega)[go_sem,s6]) rfl h8, ?_⟩;simp(disch:=omega)[go_sem,aG];refine⟨j3-1,aa,_,aB.bb (l:=[(0,.ptr a.e 0),(4,.v (.pointer (some ⟨N1+1,0,none⟩))),(14,.v (.pointer (some ⟨P+1,0,none⟩))),(16,.v (.map (some O))),(122,iV n),(123,iV (k3+1:Nat))]) ah,(hG _ _).2 ⟨k3+1,_,ba,ad,_,aa, ?_,λi hi=> ?_,ah,h9,λp hp=> ?_,cy.up h8,rfl⟩⟩
               . simp(disch:=omega)[go_sem];omega
               . simp(disch:=omega)[go_sem,s7]
               . rcases acs hp with h|h
                 . exact cx p h
                 . rw[h]
              |cons m q5=>
               obtain⟨c5,b6⟩:=bE.2 m aw;obtain⟨cB,eY,eZ⟩:=bE.1 m c5 b6;have et:¬m=(k3:Int):=aa;have eu:=acw dr;have dt:=acx dr;have du:=acv (h:=H5) (R:=Q5) (o:=o5) (len:=q5.length+1) g2 bA aa;rw[show q5.length+1-1=q5.length from rfl]at du;rw[afB]at bG ek;simp(disch:=omega)[go_sem,g3,s5,g2,eu,-getElem?_pos];refine⟨_,du, ?_⟩;have h1:=sy kq sI cc m false b6;simp(disch:=omega)[go_sem,et,s5,g3];refine⟨_,lU (es:=cb) (clock:=bf) (by simp(disch:=omega)[go_sem,g1]) rfl h1, ?_⟩;refine aL ?_;cases cC:bj lN m with
               |none=>
                refine ax.any (acq (NX:=P) (Bn:=P+1) (c0:=c5) aa (by simp(disch:=omega)[go_sem];try omega) (by simp(disch:=omega)[go_sem,s3];rfl) (by simp(disch:=omega)[go_sem,s4]) hN cC λM9 cz=> ?_);replace cz:=cq cz;refine aL ?_;refine⟨2*mu n l5+q5.length,aa,_,aB.bb (l:=[(0,.ptr a.e 0),(4,.v (.pointer (some ⟨N1+1,0,none⟩))),(14,.v (.pointer (some ⟨P+1,0,none⟩))),(16,.v (.map (some O))),(17,iV k3),(18,.v (.pointer (some ⟨X+1,0,none⟩))),(19,.v (.pointer (some ⟨X+3,0,none⟩))),(20,.fn 115 [] [.v (.pointer (some ⟨P+1,0,none⟩)),.v (.pointer (some ⟨X+1,0,none⟩)),.v (.pointer (some ⟨N1+1,0,none⟩)),.v (.pointer (some ⟨X+3,0,none⟩))]),(122,iV n),(123,iV k3)]) ?_,(hV _ _).2 ⟨_,cb,bf,l5,q5,Q5,o5+1,z5,dq,rfl,aa, ?_,cc,⟨bE.1,λy hy=>bE.2 y (by simp[hy])⟩,eo,b5, ?_,bA,aa,dt, ?_, ?_, ?_, ?_, ?_, ?_, ?_, ?_, ?_,λi hi=> ?_,rfl⟩⟩
                all_goals simp(disch:=omega)[go_sem,g1,g2,s1,s2,s3,s4,s5,s6,s7]
                all_goals omega
               |some r=>
                obtain⟨R2,ew⟩:=r;obtain⟨r1,r2,r3,r4,r5,r6,r7,r8⟩:=bX.1 _ _ _ cC;refine ax.any (Jl (N:=n) (n:=k3) (ST:=N1) (Bs:=N1+1) (NX:=P) (Bn:=P+1) (R:=R2) (RM:=X) (Br:=X+1) (Q:=Q5) (Bq:=X+3) (es:=cb) (clk:=bf) (l:=l5) (q:=q5) (cs:=dq) (o:=o5+1) (aj:=z5) (lS:=l1) (lN:=lN) (c0:=c5) (B:=2*mu n l5+q5.length) (xs:=ew) aa aa aa aa aa aa aa aa b5 (by simp(disch:=omega)[go_sem];try omega) (by simp(disch:=omega)[go_sem];try omega) (by simp(disch:=omega)[go_sem,s1];rfl) (by simp(disch:=omega)[go_sem,s2]) (by simp(disch:=omega)[go_sem,s3];rfl) (by simp(disch:=omega)[go_sem,s4]) (by simp(disch:=omega)[go_sem,g1];try rfl) (by simp(disch:=omega)[go_sem,s5]) (by simp(disch:=omega)[go_sem,g2]) ah (by simp(disch:=omega)[go_sem,s7,r3]) b7 bq hN cc bA aa dt aa aa cC r8 aa ⟨bE.1,λy hy=>bE.2 y (by simp[hy])⟩ cB rfl aa λH6 T6 ey cE l6 q6 Q6 o6 z6 ez eA eB e0 eC eD cG cH eE eF eG u1 u2 u3 af=> ?_);simp(disch:=omega)[go_sem]at eC af;have v1:H6.get N1=some (.map av ab):=by rw[af N1 aa aa aa aa];simp(disch:=omega)[go_sem,s1]
                have v2:H6.get (N1+1)=some (.row [.v (.map (some N1))] true 0):=by rw[af (N1+1) aa aa aa aa];simp(disch:=omega)[go_sem,s2]
                have v3:H6.get P=some (.map aH ao):=by rw[af P aa aa aa aa];simp(disch:=omega)[go_sem,s3]
                have v4:H6.get (P+1)=some (.row [.v (.map (some P))] true 0):=by rw[af (P+1) aa aa aa aa];simp(disch:=omega)[go_sem,s4]
                have v5:H6.get (X+1)=some (.row [.v (.map (some X))] true 0):=by rw[af (X+1) aa aa aa aa];simp(disch:=omega)[go_sem,s5]
                have v6:H6.get O=some (.map bI az):=by rw[af O aa aa aa aa];simp(disch:=omega)[go_sem,s6]
                have v7:∀i,i<O->H6.get i=H.get i:=λi hi=>by rw[af i aa aa aa aa,<-s7 i hi];simp(disch:=omega)[go_sem]
                refine aL ?_;exact⟨2*mu n l6+q6.length,aa,_,aB.bb (l:=[(0,.ptr a.e 0),(4,.v (.pointer (some ⟨N1+1,0,none⟩))),(14,.v (.pointer (some ⟨P+1,0,none⟩))),(16,.v (.map (some O))),(17,iV k3),(18,.v (.pointer (some ⟨X+1,0,none⟩))),(19,.v (.pointer (some ⟨X+3,0,none⟩))),(20,.fn 115 [] [.v (.pointer (some ⟨P+1,0,none⟩)),.v (.pointer (some ⟨X+1,0,none⟩)),.v (.pointer (some ⟨N1+1,0,none⟩)),.v (.pointer (some ⟨X+3,0,none⟩))]),(122,iV n),(123,iV k3)]) ah,(hV _ _).2 ⟨H6,ey,cE,l6,q6,Q6,o6,z6,ez,rfl,aa,aa,eA,eB,eD,cG,cH,eE,eF,eG,u1,u2,u3,v1,v2,v3,v4,v5,v6,v7,rfl⟩⟩
           . have bB:¬(k3:Int)<n:=aa;simp(disch:=omega)[go_sem,bB];intro aF w1 w2 w3;exact hk aF _ O bI az db cw cx cy aa aa (by rw[w2 O aa,cv]) λi hi=>w3 i aa
       . obtain⟨⟨⟨u,y⟩,c⟩,hp,dv,dw⟩:=b7.mem hx;obtain⟨c',cd⟩:=acr hp;obtain⟨hu,cI,cJ⟩:=bs _ _ cd;simp only at dv dw hu cI cJ cd;have e6:=Jp hx ef;have e7:=b8.find hx;refine aL ?_;refine⟨_,Jr (es:=av) (clock:=ab) (r:=P+2) (m:=N1) (since:=ab) (seen:=seen) (x:=x) ah (by simp(disch:=omega)[go_sem,f1]) b8 hx, ?_⟩;rw[dv,dw,qU];simp(disch:=omega)[go_sem,fZ];refine bZ [dC 0,lr 0,dC 2,aK 0,ai 0,aK 16,aK 56,ai 0,aK 128,cR 384,aU 1016,aU 2047] ak 1 rfl ?_;simp(disch:=omega)[go_sem,f4,dV]
         repeat refine⟨aa, ?_⟩
         cases aW:bj lN u with
         |none=>
          have h1:=sA kq qT hN u false Df rfl aW;refine⟨_,lU (es:=aH) (clock:=ao) (by simp(disch:=omega)[go_sem,f3]) rfl h1, ?_⟩;simp(disch:=omega)[go_sem,fZ,dV];refine⟨_,se _ _ _ _ _ aa aa, ?_⟩;refine aL ?_;obtain⟨ba,ad,h8,h9⟩:=pI kq qT hN u ao (H.next+1+1,[y]);simp only[wC,afQ]at h8
          repeat refine⟨aa, ?_⟩
          refine⟨_,sE (es:=aH) (clock:=ao) (by simp(disch:=omega)[go_sem,f3]) rfl h8, ?_⟩;refine aL ?_;refine⟨left av (seen++[x.born]),aa,_,aB.bb (l:=[(0,.ptr a.e 0),(4,.v (.pointer (some ⟨N1+1,0,none⟩))),(14,.v (.pointer (some ⟨P+1,0,none⟩))),(100,.v (.pointer (some ⟨P+2,0,none⟩)))]) ?_,(hJ _ _).2 ⟨seen++[x.born],ba,ad,_,b+1,_,rfl,aa, ?_,h9,nz.put bX (c:=c') (R':=H.next+1+1) (xs:=[]) hu cI cJ cd (.inl ⟨aW,rfl⟩) aa ?_ ?_ (λR2 w1 w2 w3=> ?_) aa, ?_, ?_, ?_, ?_, ?_,rfl⟩⟩
          all_goals simp(disch:=omega)[go_sem,f1,f2,f3,f4,f5]
          all_goals omega
         |some r=>
          obtain⟨R,xs⟩:=r;have h1:=sy kq qT hN u false aW;refine⟨_,lU (es:=aH) (clock:=ao) (by simp(disch:=omega)[go_sem,f3]) rfl h1, ?_⟩;obtain⟨q1,q2,q3,q4,q5,q6,q7,q8⟩:=bX.1 _ _ _ aW;simp(disch:=omega)[go_sem,dV];refine⟨_,vI _ _ _ _ _ _ (zs xs) _ (by simp(disch:=omega)[go_sem,q3]) aw aa aa (acn [y]) aa, ?_⟩;refine aL ?_;obtain⟨ba,ad,h8,h9⟩:=pI kq qT hN u ao (H.next+1+1,xs++[y]);have eH:(xs++[y]).length=xs.length+1:=aw;simp only[wC,eH]at h8
          repeat refine⟨aa, ?_⟩
          refine⟨_,sE (es:=aH) (clock:=ao) (by simp(disch:=omega)[go_sem,f3]) rfl h8, ?_⟩;refine aL ?_;refine⟨left av (seen++[x.born]),aa,_,aB.bb (l:=[(0,.ptr a.e 0),(4,.v (.pointer (some ⟨N1+1,0,none⟩))),(14,.v (.pointer (some ⟨P+1,0,none⟩))),(100,.v (.pointer (some ⟨P+2,0,none⟩)))]) ?_,(hJ _ _).2 ⟨seen++[x.born],ba,ad,_,b+1,_,rfl,aa, ?_,h9,nz.put bX (c:=c') (R':=H.next+1+1) (xs:=xs) hu cI cJ cd (.inr ⟨R,aW⟩) aa ?_ ?_ (λR2 w1 w2 w3=> ?_) aa, ?_, ?_, ?_, ?_, ?_,rfl⟩⟩
          all_goals try have w4:R2≠R:=λh=>w3 xs (by rw[h];exact aW)
          all_goals simp(disch:=omega)[go_sem,f1,f2,f3,f4,f5]
          all_goals omega
end Go.Sp
end
noncomputable section
open Go Go.aD Go.Proofs
namespace Go.aD
variable {e:Env} {ar:Bool}
def ax.still{K:cD}{dd:List FuncId}{h:ae}{f:FuncId}{args ao:List DV}(l:List Nat)(hl:∀i∈l,(h.get i).isSome=true)(hz:cI (rowsOf h l) args ao)(hc:ax e ar (λv dd h' T=>K v dd h' (T++l)) dd (gk h l) (f,ao)):ax e ar K dd h (f,args):=c8.still l hl hz hc
end Go.aD
namespace Go.Sp
set_option maxHeartbeats 4000000 in
def acH{K:cD}{dd:List FuncId}{h:ae}{F:Nat}(a:An)(ha:a.Ok)(NU:Int->Prop)(aI:sJ a NU)(hE:y9 a NU)(aW:∃c,a.g.family=aM c/\c<256)(hF:h.get F=some (.row [bV false] true 0))(aF:F<h.next)
 (hk:∀h' T,h.next<=h'.next->(∀i,i<h.next->h'.get i=h.get i)->K (.bp []) dd h' T):
 ax E false K dd h (69,[.ptr a.e 0,.v (.pointer (some ⟨F,0,none⟩))]):=by
 refine c8.frame [F] (by simpa using aF) ?_;obtain⟨N,hN⟩:∃N,h.next=N:=⟨_,rfl⟩;refine gR (K:=λv _ aJ _=>∀ab:ae,ab.next=aJ.next->(∀i,(i∈[F]\/h.next<=i)->ab.get i=aJ.get i)->(∀i,i<h.next->i∉[F]->ab.get i=h.get i)->K v dd ab [F]) (dd:=dd) Tryz.ntmps69 Tryz.results69 ?_;simp only[e9,hF];rw[hN]at aF⊢;refine aL ?_;refine acG a ha NU aI hE aW λh1 T R es clock lo bL hz hb bM bP bq hold=> ?_;simp(disch:=omega)[go_sem]at bM hold;obtain⟨N1,aH⟩:∃N1,h1.next=N1:=⟨_,rfl⟩;rw[aH]at bP;have bQ:h1.get F=some (.row [bV false] true 0):=by rw[hold F aF];simp
 refine aL ?_;refine⟨_,Jq (es:=es) (clock:=clock) sI bq, ?_⟩;simp(disch:=omega)[go_sem,aH];obtain⟨J,hJ⟩:∃J:Nat->DS->Prop,∀j d,J j d↔∃(seen:List Nat) (H:ae),j=left es seen/\N1<H.next/\H.get R=some (.map es clock)/\H.get F=some (.row [bV false] true 0)/\H.get N1=some (.cF (some R) clock seen clock)/\
  d=⟨bw [(1,.v (.pointer (some ⟨F,0,none⟩))),(7,.v (.pointer (some ⟨N1,0,none⟩)))],18,[],H⟩:=⟨_,λ_ _=>KE⟩
 refine bS J es.length ⟨_,aB.bb (l:=[(1,.v (.pointer (some ⟨F,0,none⟩))),(7,.v (.pointer (some ⟨N1,0,none⟩)))]) ah,(hJ _ _).2 ⟨[],_,(Jm es).symm, ?_, ?_, ?_, ?_,rfl⟩⟩ ?_
 . simp(disch:=omega)[go_sem,aH]
 . simp(disch:=omega)[go_sem,aH,bq]
 . simp(disch:=omega)[go_sem,aH,bQ]
 . simp(disch:=omega)[go_sem,aH]
 . intro j2 bR aN;obtain⟨seen,H,bT,bW,f1,f2,f3,rfl⟩:=(hJ _ _).1 aN;clear aN;refine aL ?_;refine .inr ⟨rfl,_,ah,N1,R,clock,seen,clock,es,clock,rfl,f3,f1,hb.1,Xy _,λbX=> ?_,λx hx bY=> ?_⟩
   . refine aL ?_;intro ab q1 q2 b0 q3;refine hk ab _ aa λi hi=> ?_;by_cases dU:i=F
     . subst dU;rw[hF,q2,f2]
     . exact q3 i aa dU
   . obtain⟨⟨u,c⟩,hp,bs,bt⟩:=bL.mem hx;have b1:c=0:=hz _ hp;subst b1;have aQ:(aM 0).root=0:=rfl;simp only at bs bt;have cr:=Jp hx bY;refine aL ?_;refine⟨_,Jr (es:=es) (clock:=clock) (r:=N1) (m:=R) (since:=clock) (seen:=seen) (x:=x) ah (by simp(disch:=omega)[go_sem,f1]) hb hx, ?_⟩;rw[bs,bt,sF];simp(disch:=omega)[go_sem,fZ,Dg.e,f2,aQ];refine⟨left es (seen++[x.born]),aa,_,aB.bb (l:=[(1,.v (.pointer (some ⟨F,0,none⟩))),(7,.v (.pointer (some ⟨N1,0,none⟩)))]) ?_,(hJ _ _).2 ⟨seen++[x.born],_,rfl, ?_, ?_, ?_, ?_,rfl⟩⟩
     all_goals simp(disch:=omega)[go_sem,f1,f2,f3]
     all_goals omega
def sK(H:ae)(B U:Nat)(dE:List Nat)(pv:DV):Prop:=
 (dE=[]/\pv=cK)\/∃R,B<R/\R<U/\pv=.v (.slice (some ⟨R,0,none⟩) dE.length dE.length)/\H.get R=some (.row (dE.map λc=>(aM c).e).flatten true 2)
def wE{S:eQ}{b aj:Nat}{cs xs:List DV}(h:S b=some (cs,aj))(hz:cI S cs xs):Fz S (.v (.pointer (some ⟨b,0,none⟩))) (.ptr xs 0):=by
 have hl:=hz.length;exact Fz.ptr (o:=0) (off:=0) h aa λi v d h1 h2=>by
  rw[Nat.zero_add]at h2;obtain⟨d',h3,h4⟩:=hz.get i v h2;rw[h1]at h3;cases h3;exact h4
def sK.fz{H:ae}{M U:Nat}{dE:List Nat}{pv:DV}{g:aq}(h:sK H M U dE pv)(hM:H.get M=some (.row (g.e++[pv]) true 0)):∃l:List Nat,(∀i∈l,M<=i)/\(∀i∈l,(H.get i).isSome=true)/\Fz (rowsOf H l) (.v (.pointer (some ⟨M,0,none⟩))) (.ptr (An.e ⟨g,dE⟩) 0):=by
 rcases h with⟨rfl,rfl⟩|⟨R,h1,h2,rfl,h4⟩
 . refine⟨[M],aw,by simp[hM],wE (aj:=0) (fA aw hM) ?_⟩;exact aV.append (cI.refl _) (.cons (.nil aa) .nil)
 . refine⟨[M,R],by simp;omega,by simp[hM,h4],wE (aj:=0) (fA aw hM) ?_⟩;refine aV.append (cI.refl _) (.cons ?_ .nil);exact dY (aj:=2) (fA aw h4) (.inr rfl) aa aw (Xy _) (λx hx=>by obtain⟨y,_,rfl⟩:=FQ.1 hx;rfl)
def sK.same{H H':ae}{B U U':Nat}{dE:List Nat}{pv:DV}(h:sK H B U dE pv)(hs:∀i,B<i->i<U->H'.get i=H.get i)(hU:U<=U'):sK H' B U' dE pv:=by
 rcases h with h|⟨R,h1,h2,h3,h4⟩
 . exact .inl h
 . exact .inr ⟨R,h1,aa,h3,by rw[hs R h1 h2,h4]⟩
set_option maxHeartbeats 4000000 in
def acI{K:cD}{dd:List FuncId}{h:ae}{F:Nat}(g:aq)(hg:GV g)(NU:Int->Prop)(aI:∀dE,sJ ⟨g,dE⟩ NU)(hE:∀dE,y9 ⟨g,dE⟩ NU)(hF:h.get F=some (.row [bV false] true 0))(aF:F<h.next)
 (hk:∀h' T,h.next<=h'.next->(∀i,i<h.next->h'.get i=h.get i)->K (iV 0) dd h' T):
 ax E false K dd h (68,[.agg g.e,.fn 69 [] [.v (.pointer (some ⟨F,0,none⟩))]]):=by
 obtain⟨cf,aY,ba,b2⟩:=hg.cW.cW;have av:=ba.1;refine c8.frame [F] (by simpa using aF) ?_;obtain⟨N,hN⟩:∃N,h.next=N:=⟨_,rfl⟩;refine gR (K:=λv _ aJ _=>∀ab:ae,ab.next=aJ.next->(∀i,(i∈[F]\/h.next<=i)->ab.get i=aJ.get i)->(∀i,i<h.next->i∉[F]->ab.get i=h.get i)->K v dd ab [F]) (dd:=dd) Tryz.ntmps68 Tryz.results68 ?_;simp only[e9,hF];rw[hN]at aF⊢;have aS:=IS g hg;simp(disch:=omega)[go_sem,aq.e]at aS⊢;refine ax.any (ax.mk aS λM=>aT λhM=> ?_);simp(disch:=omega)[go_sem,aq.e];have cu:=hg.ay.len;obtain⟨I,hI⟩:∃I:Nat->DS->Prop,∀j d,I j d↔∃(k:Nat) (H:ae) (dE:List Nat) (pv:DV),j+k=g.ay.length/\M<H.next/\dE.length=k/\(∀c∈dE,c<256)/\sK H M H.next dE pv/\H.get F=some (.row [bV false] true 0)/\H.get N=some (.row g.e true 0)/\H.get (N+1)=some (.row [iV 0] true 0)/\H.get M=some (.row (g.e++[pv]) true 0)/\
  d=⟨bw [(1,.fn 69 [] [.v (.pointer (some ⟨F,0,none⟩))]),(2,.v (.pointer (some ⟨N,0,none⟩))),(4,.v (.pointer (some ⟨N+1,0,none⟩))),(6,.v (.pointer (some ⟨M,0,none⟩))),(22,.sl 13 (g.ay.map aX.e)),(23,iV g.ay.length),(24,iV (k:Nat))],72,[107],H⟩:=⟨_,λ_ _=>KE⟩
 refine bS I g.ay.length ⟨_,aB.bb (l:=[(1,.fn 69 [] [.v (.pointer (some ⟨F,0,none⟩))]),(2,.v (.pointer (some ⟨N,0,none⟩))),(4,.v (.pointer (some ⟨N+1,0,none⟩))),(6,.v (.pointer (some ⟨M,0,none⟩))),(22,.sl 13 (g.ay.map aX.e)),(23,iV g.ay.length),(24,iV (0:Nat))]) ah,(hI _ _).2 ⟨0,_,[],cK,rfl,ah,rfl,λc hc=>(by cases hc),.inl ⟨rfl,rfl⟩,ah, ?_,ah, ?_,rfl⟩⟩ ?_
 . simp(disch:=omega)[go_sem,aq.e]
 . simp(disch:=omega)[go_sem,aq.e]
 . intro j ds bu;obtain⟨k,H,dE,pv,hj,bW,bd,bx,bA,f1,f2,f3,f4,rfl⟩:=(hI _ _).1 bu;clear bu;by_cases b3:k<g.ay.length
   . have az:(k:Int)<g.ay.length:=aa;obtain⟨p,hx⟩:∃p,g.ay[k]? =some p:=⟨_,RK b3⟩;have bB:=RW hx;have bD:=hg.ay.ok p bB;have cv:=(hg.size.right p bB).1;obtain⟨cp,bE,bf⟩:=bD.cond;have bg:=bf.1;have hand:=wy cf cp av bg;have b5:cf&&&cp<256:=afI afJ av;have ad:=qS (ar:=true) (aM (cf&&&cp));have b6:g.family.nodes=(aM cf).nodes:=by rw[aY]
     have b7:g.family.root=(aM cf).root:=by rw[aY]
     have b8:p.cond.nodes=(aM cp).nodes:=by rw[bE]
     have b9:p.cond.root=(aM cp).root:=by rw[bE]
     simp only[Dg.e]at hand ad;simp(disch:=omega)[go_sem,az,hx,-getElem?_pos,f2,aX.e,aq.e,b6,b7,b8,b9];refine ax.any (ax.mk hand λM2=>dI λca=> ?_);refine ax.any (ax.mk ad λM3 bj=> ?_);replace bj:=cq bj;refine aL ?_;obtain⟨J,hJ⟩:∃J:Nat->DS->Prop,∀j d,J j d↔∃(m c D:Nat) (H':ae),j+m=p.right.length/\c<256/\H.next<=D/\D<H'.next/\sK H' M D dE pv/\H'.get F=some (.row [bV false] true 0)/\H'.get N=some (.row g.e true 0)/\H'.get (N+1)=some (.row [iV 0] true 0)/\H'.get M=some (.row (g.e++[pv]) true 0)/\H'.get D=some (.row (aM c).e true 0)/\
      d=⟨bw [(1,.fn 69 [] [.v (.pointer (some ⟨F,0,none⟩))]),(2,.v (.pointer (some ⟨N,0,none⟩))),(4,.v (.pointer (some ⟨N+1,0,none⟩))),(6,.v (.pointer (some ⟨M,0,none⟩))),(22,.sl 13 (g.ay.map aX.e)),(23,iV g.ay.length),(24,iV (k:Nat)),(9,.v (.pointer (some ⟨D,0,none⟩))),(37,.sl 2 (p.right.map Sym.e)),(38,iV p.right.length),(39,iV (m:Nat))],72,[107],H'⟩:=⟨_,λ_ _=>KE⟩
     refine bS J p.right.length ⟨_,aB.bb (l:=[(1,.fn 69 [] [.v (.pointer (some ⟨F,0,none⟩))]),(2,.v (.pointer (some ⟨N,0,none⟩))),(4,.v (.pointer (some ⟨N+1,0,none⟩))),(6,.v (.pointer (some ⟨M,0,none⟩))),(22,.sl 13 (g.ay.map aX.e)),(23,iV g.ay.length),(24,iV (k:Nat)),(9,.v (.pointer (some ⟨M3,0,none⟩))),(37,.sl 2 (p.right.map Sym.e)),(38,iV p.right.length),(39,iV (0:Nat))]) ?_,(hJ _ _).2 ⟨0,cf&&&cp,M3,_,rfl,b5,by omega, ?_,bA.same (λi h1 h2=> ?_) (by omega), ?_, ?_, ?_, ?_, ?_,rfl⟩⟩ ?_
     . simp(disch:=omega)[go_sem]
     . simp(disch:=omega)[go_sem]
     . simp(disch:=omega)[go_sem]
     . simp(disch:=omega)[go_sem,f1]
     . simp(disch:=omega)[go_sem,f2]
     . simp(disch:=omega)[go_sem,f3]
     . simp(disch:=omega)[go_sem,f4]
     . simp(disch:=omega)[go_sem,Dg.e]
     . clear hand ad ca bj;intro j2 bR aN;obtain⟨m,c,D,H',bT,hc,bF,cw,aC,e1,e2,e3,e4,e5,rfl⟩:=(hJ _ _).1 aN;clear aN;by_cases cb:m<p.right.length
       . have an:(m:Int)<p.right.length:=aa;obtain⟨s,hs⟩:∃s,p.right[m]? =some s:=⟨_,RK cb⟩;have bG:=bD.right s (RW hs);cases ht:s.tok with
         |false=>
          simp(disch:=omega)[go_sem,an,hs,-getElem?_pos,Sym.e,ht,aG];refine⟨j2-1,aa,_,aB.bb (l:=[(1,.fn 69 [] [.v (.pointer (some ⟨F,0,none⟩))]),(2,.v (.pointer (some ⟨N,0,none⟩))),(4,.v (.pointer (some ⟨N+1,0,none⟩))),(6,.v (.pointer (some ⟨M,0,none⟩))),(22,.sl 13 (g.ay.map aX.e)),(23,iV g.ay.length),(24,iV (k:Nat)),(9,.v (.pointer (some ⟨D,0,none⟩))),(37,.sl 2 (p.right.map Sym.e)),(38,iV p.right.length),(39,iV (m+1:Nat))]) ?_,(hJ _ _).2 ⟨m+1,c,D,_,aa,hc,bF, ?_,aC.same (λi h1 h2=> ?_) aa, ?_, ?_, ?_, ?_, ?_,rfl⟩⟩
          all_goals simp(disch:=omega)[go_sem,e1,e2,e3,e4,e5]
          all_goals omega
         |true=>
          rw[qO,ht]at bG;obtain⟨tk,z0,z1,z2⟩:=bG;obtain⟨_,_,⟨ct,bH,bk⟩,_⟩:=hg.au.ok tk (RW z1);have bm:=bk.1;have cc:s.idx<g.au.length:=by
           have:=(ab8.1 z1).1;omega
          have hand:=wy c ct hc bm;have bo:c&&&ct<256:=afI afJ hc;have ad:=qS (ar:=true) (aM (c&&&ct));have cd:tk.cond.nodes=(aM ct).nodes:=by rw[bH]
          have cg:tk.cond.root=(aM ct).root:=by rw[bH]
          simp only[Dg.e]at hand ad;simp(disch:=omega)[go_sem,an,hs,-getElem?_pos,Sym.e,ht,aG];refine bZ [aK 0,ai 0,aK 2,ai 0,aK 8,ai 30,ai 62,aK 126,aU 255,ai 511,ai 511,aU 2047,aU 4095] ak 0 rfl ?_;simp(disch:=omega)[go_sem,e5,e2,aq.e,Sym.e,Dg.e,cc,z1,z0,-getElem?_pos,Tok.e,cd,cg]
          repeat refine⟨aa, ?_⟩
          refine ax.mk hand λM4=>dI λcx=> ?_;refine ax.mk ad λM5=>aT λcy=> ?_;simp(disch:=omega)[go_sem,e5,Dg.e,aG];refine⟨j2-1,aa,_,aB.bb (l:=[(1,.fn 69 [] [.v (.pointer (some ⟨F,0,none⟩))]),(2,.v (.pointer (some ⟨N,0,none⟩))),(4,.v (.pointer (some ⟨N+1,0,none⟩))),(6,.v (.pointer (some ⟨M,0,none⟩))),(22,.sl 13 (g.ay.map aX.e)),(23,iV g.ay.length),(24,iV (k:Nat)),(9,.v (.pointer (some ⟨D,0,none⟩))),(37,.sl 2 (p.right.map Sym.e)),(38,iV p.right.length),(39,iV (m+1:Nat))]) ?_,(hJ _ _).2 ⟨m+1,c&&&ct,D,_,aa,bo,bF, ?_,aC.same (λi h1 h2=> ?_) aa, ?_, ?_, ?_, ?_, ?_,rfl⟩⟩
          all_goals simp(disch:=omega)[go_sem,e1,e2,e3,e4,e5,Dg.e]
          all_goals omega
       . have an:¬(m:Int)<p.right.length:=aa;simp(disch:=omega)[go_sem,an,aG];refine bZ [ai 0,ai 0,ai 2,ai 6,aK 14,aK 0,cR 32,aU 126,ai 255,ai 511,aU 1023] ak 1 rfl ?_;rcases aC with⟨eS,ch⟩|⟨R,r1,r2,r3,r4⟩
         . subst eS ch;simp(disch:=omega)[go_sem,e4,aq.e,e5,Dg.e];refine⟨_,se _ _ _ _ _ aa aa, ?_⟩;simp(disch:=omega)[go_sem,e4,aq.e,aG];refine⟨j-1,aa,_,aB.bb (l:=[(1,.fn 69 [] [.v (.pointer (some ⟨F,0,none⟩))]),(2,.v (.pointer (some ⟨N,0,none⟩))),(4,.v (.pointer (some ⟨N+1,0,none⟩))),(6,.v (.pointer (some ⟨M,0,none⟩))),(22,.sl 13 (g.ay.map aX.e)),(23,iV g.ay.length),(24,iV (k+1:Nat))]) ?_,(hI _ _).2 ⟨k+1,_,[c],.v (.slice (some ⟨H'.next+1,0,none⟩) 1 1),aa, ?_,by simp at bd⊢;omega,λx hx=>by simp at hx;subst hx;exact hc,.inr ⟨H'.next+1,aa, ?_,rfl, ?_⟩, ?_, ?_, ?_, ?_,rfl⟩⟩
           all_goals simp(disch:=omega)[go_sem,e1,e2,e3,e4,aq.e,Dg.e]
           all_goals omega
         . subst r3;simp(disch:=omega)[go_sem,e4,aq.e,e5,Dg.e];have ck:(dE.map λc=>(aM c).e).flatten.length=dE.length*2:=by rw[fF (k:=2) (λx hx=>by obtain⟨y,_,rfl⟩:=FQ.1 hx;rfl),afx]
           refine⟨_,vI _ _ _ _ _ _ (dE.map λc=>(aM c).e).flatten _ (by simp(disch:=omega)[go_sem,r4]) ck aa aa rfl aa, ?_⟩;simp(disch:=omega)[go_sem,e4,aq.e,aG];refine⟨j-1,aa,_,aB.bb (l:=[(1,.fn 69 [] [.v (.pointer (some ⟨F,0,none⟩))]),(2,.v (.pointer (some ⟨N,0,none⟩))),(4,.v (.pointer (some ⟨N+1,0,none⟩))),(6,.v (.pointer (some ⟨M,0,none⟩))),(22,.sl 13 (g.ay.map aX.e)),(23,iV g.ay.length),(24,iV (k+1:Nat))]) ?_,(hI _ _).2 ⟨k+1,_,dE++[c],.v (.slice (some ⟨H'.next+1,0,none⟩) (dE.length+1) (dE.length+1)),aa, ?_,by simpa using bd,λx hx=>(by
            rcases RC.1 hx with h|h
            . exact bx x h
            . simp at h;subst h;exact hc),.inr ⟨H'.next+1,aa, ?_,aw, ?_⟩, ?_, ?_, ?_, ?_,rfl⟩⟩
           all_goals simp(disch:=omega)[go_sem,e1,e2,e3,e4,aq.e,Dg.e]
           all_goals omega
   . have az:¬(k:Int)<g.ay.length:=aa;simp(disch:=omega)[go_sem,az,f4,aq.e];obtain⟨l,bI,cl,hz⟩:=bA.fz (g:=g) f4;refine ax.still l cl (.cons hz (.cons (.refl _) .nil)) ?_;have bK:F∉l:=λh=>by have:=bI F h;omega
     have cm:N+1∉l:=λh=>by have:=bI _ h;omega
     refine acH (F:=F) ⟨g,dE⟩ ⟨bd.trans (by simp;omega),bx,hg.ay.len,hg.size.aP,λp hp=>(hg.ay.ok p hp).left,λp hp=>(hg.size.right p hp).1⟩ NU (aI dE) (hE dE) ⟨cf,aY,av⟩ (by rw[ng,if_neg bK,f1]) (by rw[vF];omega) λH' T hn af=> ?_;rw[vF]at hn af;have e1:H'.get F=some (.row [bV false] true 0):=by rw[af F aa,ng,if_neg bK,f1]
     have e3:H'.get (N+1)=some (.row [iV 0] true 0):=by rw[af (N+1) aa,ng,if_neg cm,f3]
     simp(disch:=omega)[go_sem,e3];refine⟨λi h=>(by cases h),λg' cn=> ?_, ?_⟩
     . obtain rfl:g'=107:=by simpa using cn
       rfl
     . refine aL ?_;intro ab q1 q2 b0 q3;refine hk ab _ aa λi hi=> ?_;by_cases dU:i=F
       . subst dU;rw[hF,q2,e1]
       . exact q3 i aa dU
def Jv(g:aq)(hg:GV g)(NU:Int->Prop)(aI:∀dE,sJ ⟨g,dE⟩ NU)(hE:∀dE,y9 ⟨g,dE⟩ NU):aE E false 34 [.agg g.e] (iV 0):=by
 refine bc Tryz.ntmps34 Tryz.results34 λN=> ?_;simp(disch:=omega)[go_sem,aq.e];refine acI (F:=N+1) g hg NU aI hE ah ah λh' T hn hs=> ?_;have e1:h'.get (N+1)=some (.row [bV false] true 0):=by rw[hs (N+1) ah];simp(disch:=omega)[go_sem]
 simp(disch:=omega)[go_sem,e1]
end Go.Sp
end
noncomputable section
open Go Go.aD Go.Proofs
namespace Go.Sp
def Dl:∀p∈eF,yE p.1 p.2:=by
 have h:(eF.all λp=>Nat.blt p.1 256&&(aM p.1).nodes.all λx=>decide (x.1<p.2))=true:=ak;intro p hp;have h1:=qG.1 h p hp;rw[yy]at h1;exact⟨afD h1.1,λx hx=>of_decide_eq_true (qG.1 h1.2 x hx)⟩
def Dm(b:Int)(n:Nat)(h0:0<=b)(h1:b<256)(hn:n<=3):lz n (cE bA b n):=by
 obtain⟨c,h2,h3⟩:=It b n h0 h1 hn;exact⟨c,h2,Dl (c,(n:Int)) h3⟩
def Tok.strip(t:Tok):Tok:={t with cond:=aW true}
structure Ext(g g':aq):Prop where
 conds:g'.conds=g.conds
 aP:g'.aP=g.aP
 au:∀(i:Nat) t,g.au[i]? =some t->∃t',g'.au[i]? =some t'/\t'.cls=t.cls/\t'.lit=t.lit
 ay:∀(i:Nat) p,g.ay[i]? =some p->g'.ay[i]? =some p
def Ext.nA{g g':aq}(h:Ext g g'):g.ay.length<=g'.ay.length:=by
 rcases afO g.ay.length with h0|h0
 . omega
 . have h1:=h.ay (g.ay.length-1) _ (RK aa);have:=(ab8.1 h1).1;omega
def qO.ext{g g':aq}(h:Ext g g'){s:Sym}(hs:qO g s):qO g' s:=by
 obtain⟨tok,i⟩:=s;cases tok with
 |false=>exact(show 0<=i/\i<g'.aP.length from by rw[h.aP];exact hs)
 |true=>
  obtain⟨t,h0,h1,h2⟩:=(show∃t,0<=i/\g.au[i.toNat]? =some t/\t.cls=0 from hs);obtain⟨t',h3,h4,_⟩:=h.au _ t h1;exact(show∃t,0<=i/\g'.au[i.toNat]? =some t/\t.cls=0 from⟨t',h0,h3,h4.trans h2⟩)
def uk.ext{g g':aq}(h:Ext g g'){p:aX}(hp:uk g p):uk g' p:=
 ⟨by rw[h.aP];exact hp.left,λs hs=>(hp.right s hs).ext h,by rw[h.conds];exact hp.cond,hp.fh,hp.ar⟩
def um.ext{g g':aq}(h:Ext g g'){l:dg}(hl:um g l):um g' l:=
 ⟨hl.assoc,by rw[h.conds];exact hl.cond,λp hp=>by have:=hl.ay p hp;have:=h.nA;omega⟩
def mB.ext{g g':aq}(h:Ext g g'){K:Tok->Prop}(hK:∀t t':Tok,t'.cls=t.cls->t'.lit=t.lit->K t->K t'){l:List Int}(hl:mB g K l):mB g' K l:=
 ⟨hl.ne,hl.len,λn hn=>by
  obtain⟨h0,t,h1,h2⟩:=hl.tok n hn;obtain⟨t',h3,h4,h5⟩:=h.au _ t h1;exact⟨h0,t',h3,hK t t' h4 h5 h2⟩,hl.up⟩
def sG.ext{g g':aq}(h:Ext g g'){f:bk}(hf:sG g f):sG g' f:=by
 obtain⟨p,c,s,p0,hp,c0,hc,a0,hs,rfl⟩:=hf.ex;exact⟨p,c,_,p0,h.ay _ _ hp,c0,h.ay _ _ hc,a0,hs,rfl⟩
def sH.ext{g g':aq}(h:Ext g g'){f:bk}(hf:sH g f):sH g' f:=by
 rcases hf with⟨a,b,c,d,e⟩|⟨a,b,c,d,e⟩|⟨a,b,c,d,e,i,j,k⟩|⟨a,b,c,d,e,i,j,k⟩|⟨a,b,c,d,e,i,t,j,k,l,m⟩
 . exact .inl ⟨a,b,c,d,e.ext h⟩
 . exact .inr (.inl ⟨a,b,c,d,e.ext h⟩)
 . exact .inr (.inr (.inl ⟨a,b,c,d,e,i,by rw[h.aP];exact j,k.ext h λ_ _ h1 _ h2=>h1.trans h2⟩))
 . exact .inr (.inr (.inr (.inl ⟨a,b,c,d,e,i,by rw[h.aP];exact j,k.ext h λ_ _ h1 _ h2=>h1.trans h2⟩)))
 . obtain⟨t',h3,h4,h5⟩:=h.au _ t j;exact .inr (.inr (.inr (.inr ⟨a,b,c,d,e,i,t',h3,h4.trans k,h5.trans l,m.ext h λ_ _ _ h1 h2=>by rw[h1];exact h2⟩)))
structure GI(g:aq)(r m:Nat):Prop where
 room:eo g r
 cW:wj g
 tk:g.au.map Tok.strip=au.map Tok.strip
 tc:∀t∈g.au,lz g.conds.length t.cond
 aP:nr g.aP/\g.start=0
 nA:g.ay.length<=m
 new:nr (g.ay.map (·.name))
 res:∀k,g.ay.length<=k->k<100->jT k∉g.ay.map (·.name)
 ok:∀p∈g.ay,uk g p
 nd:(g.bn.flatMap (·.ay)).Nodup
 pN:∀l∈g.bn,um g l
 kS:∀f∈g.aZ,lz g.conds.length f.cond/\sH g f
def GI.ord{g:aq}{r m:Nat}(h:GI g r m){i:Int}(h0:0<=i)(h1:i<9):∃t,g.au[i.toNat]? =some t/\t.cls=0/\(t.lit=⟨#[]⟩↔i=0):=by
 have hl:=h.room.au;obtain⟨t,ht⟩:∃t,g.au[i.toNat]? =some t:=⟨_,RK aa⟩;obtain⟨h2,h3⟩:=h.room.ord i.toNat t aa ht;exact⟨t,ht,h2,h3.trans aa⟩
def GI.eA{g:aq}{r m:Nat}(h:GI g r m)(f:bk)(hc:lz g.conds.length f.cond)(hf:sH g f):GI (eA g f) (r+1) m:=by
 have he:Ext g (Go.Sp.eA g f):=⟨rfl,rfl,λi t ht=>⟨t,ht,rfl,rfl⟩,λi p hp=>hp⟩;refine⟨h.room.eA f,⟨h.cW.new,h.cW.id,h.cW.len,h.cW.cW⟩,h.tk,h.tc,h.aP,h.nA,h.new,h.res,λp hp=>(h.ok p hp).ext he,h.nd,λl hl=>(h.pN l hl).ext he,λx hx=> ?_⟩;rcases RC.1 hx with hx|hx
 . exact⟨(h.kS x hx).1,(h.kS x hx).2.ext he⟩
 . obtain rfl:=yB.1 hx;exact⟨hc,hf.ext he⟩
def GI.more{g:aq}{r m:Nat}(h:GI g r m):GI g (r+1) m:=⟨h.room.more,h.cW,h.tk,h.tc,h.aP,h.nA,h.new,h.res,h.ok,h.nd,h.pN,h.kS⟩
def Jw(g:aq)(k:Nat)(d:Dg):Ext g (js g k d):=by
 refine⟨rfl,rfl,λi t ht=> ?_,λi p hp=>hp⟩;by_cases hi:k=i
 . exact⟨{t with cond:=d},by simp[Go.Sp.js,afE,ht,hi],rfl,rfl⟩
 . exact⟨t,by simp[Go.Sp.js,afE,ht,hi],rfl,rfl⟩
def Jx(l:List Tok)(k:Nat)(d:Dg):(l.modify k λx=>{x with cond:=d}).map Tok.strip=l.map Tok.strip:=by
 apply List.ext_getElem?;intro i;rw[afR,afR,afE];cases l[i]? with
 |none=>rfl
 |some t=>
  by_cases hi:k=i
  . simp[hi,Tok.strip]
  . simp[hi]
def mem_modify{l:List Tok}{k:Nat}{d:Dg}{t:Tok}(h:t∈l.modify k λx=>{x with cond:=d}):t∈l\/t.cond=d:=by
 obtain⟨i,hi⟩:=afL h;rw[afE]at hi;cases hl:l[i]? with
 |none=>rw[hl]at hi;cases hi
 |some x=>
  rw[hl]at hi;by_cases hk:k=i
  . simp[hk]at hi;exact .inr (by rw[<-hi])
  . simp[hk]at hi;exact .inl (hi▸RW hl)
def GI.js{g:aq}{r m:Nat}(h:GI g r m)(k:Nat)(d:Dg)(hc:lz g.conds.length d):GI (js g k d) (r+1) m:=by
 have he:=Jw g k d;refine⟨h.room.js k d,⟨h.cW.new,h.cW.id,h.cW.len,h.cW.cW⟩, ?_,λt ht=> ?_,h.aP,h.nA,h.new,h.res,λp hp=>(h.ok p hp).ext he,h.nd,λl hl=>(h.pN l hl).ext he,λx hx=>⟨(h.kS x hx).1,(h.kS x hx).2.ext he⟩⟩
 . rw[<-h.tk];exact Jx _ _ _
 . rcases mem_modify ht with ht|ht
   . exact h.tc t ht
   . rw[ht];exact hc
def Jy{g:aq}{p:Int}(h:nq g p=false):p∉g.bn.flatMap (·.ay):=by
 intro hm;obtain⟨l,h1,h2⟩:=List.mem_flatMap.1 hm;have:nq g p=true:=afF.2 ⟨l,h1,decide_eq_true h2⟩;rw[h]at this;cases this
def GI.level{g:aq}{r m:Nat}(h:GI g r m)(a b c:Int)(d:Dg)(hc:lz g.conds.length d)(ha:0<=a/\a<g.ay.length)(hb:0<=b/\b<g.ay.length)(ao:0<=c/\c<=3):GI (kp g a b c d) (r+1) m:=by
 have ab:=h.room.level a b c d;unfold kp at ab⊢
 split
 . exact h.more
 . rename_i af;rw[if_neg af]at ab;have af:nq g a=false:=by simpa using af
   let L:dg:=⟨if b≠a/\nq g b=false then [a,b]else [a],c,d⟩
   have he:Ext g {g with bn:=g.bn++[L]}:=⟨rfl,rfl,λi t ht=>⟨t,ht,rfl,rfl⟩,λi p hp=>hp⟩;refine⟨ab,⟨h.cW.new,h.cW.id,h.cW.len,h.cW.cW⟩,h.tk,h.tc,h.aP,h.nA,h.new,h.res,λp hp=>(h.ok p hp).ext he, ?_,λl hl=> ?_,λx hx=>⟨(h.kS x hx).1,(h.kS x hx).2.ext he⟩⟩
   . show((g.bn++[L]).flatMap (·.ay)).Nodup;rw[List.flatMap_append,afS];have hL:[L].flatMap (·.ay)=if b≠a/\nq g b=false then [a,b]else [a]:=by simp[L]
     rw[hL];have ai:=Jy af;refine⟨h.nd, ?_,λx hx y hy=> ?_⟩
     . split
       . rename_i ah;simp;exactλh=>ah.1 h.symm
       . simp
     . split at hy
       . rename_i ah;have av:=Jy ah.2;rintro rfl;simp only[Vs,afC,or_false]at hy;rcases hy with rfl|rfl
         . exact ai hx
         . exact av hx
       . rintro rfl;obtain rfl:=yB.1 hy;exact ai hx
   . rcases RC.1 hl with hl|hl
     . exact(h.pN l hl).ext he
     . obtain rfl:=yB.1 hl;refine⟨ao,hc,λp hp=> ?_⟩;simp only[L]at hp
       split at hp
       . simp only[Vs,afC,or_false]at hp;rcases hp with rfl|rfl
         . exact ha
         . exact hb
       . obtain rfl:=yB.1 hp;exact ha
def GI.Cp{g:aq}{r m:Nat}(h:GI g r m)(x:Rl)(hx:x.Ok):GI (ja (cE bA) g x) (r+1) m:=by
 have hp:=h.room.ay;have hn:=h.room.aP.1;have hc:=Dm x.cond g.conds.length hx.cond.1 hx.cond.2 h.room.conds;have ha:0<=x.a%(g.ay.length:Int)/\x.a%(g.ay.length:Int)<g.ay.length:=⟨YT _ aa,YN _ aa⟩;have hb:0<=x.b%(g.ay.length:Int)/\x.b%(g.ay.length:Int)<g.ay.length:=⟨YT _ aa,YN _ aa⟩;have hl:0<=x.a%(g.aP.length:Int)/\x.a%(g.aP.length:Int)<g.aP.length:=⟨YT _ aa,YN _ aa⟩;have az:=hx.kind;unfold ja;simp only
 split
 . exact h.level _ _ _ _ hc ha hb aa
 split
 . rename_i h1 h2
   split
   . rename_i ad;refine h.eA _ hc ?_;have an:sG g ⟨x.kind%8-1,x.a%(g.ay.length:Int),x.c%16,x.b%(g.ay.length:Int),0,0,[],cE bA x.cond g.conds.length⟩:=by
      unfold ly at ad
      split at ad
      . rename_i P C e1 e2
        split at ad
        . rename_i s e3;simp only[yy,Zf,decide_eq_true_eq]at ad;exact⟨P,C,s,ha.1,e1,hb.1,e2,by simp only;omega,e3,by obtain⟨tok,i⟩:=s;simp only at ad;rw[ad.1,ad.2]⟩
        . cases ad
      . cases ad
     rcases h2 with h2|h2
     . exact .inl ⟨by simp only;omega,rfl,rfl,rfl,an⟩
     . exact .inr (.inl ⟨by simp only;omega,rfl,rfl,rfl,an⟩)
   . exact h.more
 split
 . rename_i h1 h2 h3;refine h.eA _ hc ?_;have ae:mB g (λt=>t.cls=0) [x.b%9]:=⟨aw,aw,λn hn=>by
    obtain rfl:=yB.1 hn;obtain⟨t,h4,h5,_⟩:=h.ord (i:=x.b%9) aa aa;exact⟨aa,t,h4,h5⟩,λi a b h4 h5=>by simp at h5⟩
   rcases h3 with h3|h3
   . exact .inr (.inr (.inl ⟨by simp only;omega,rfl,rfl,rfl,rfl,hl.1,hl.2,ae⟩))
   . exact .inr (.inr (.inr (.inl ⟨by simp only;omega,rfl,rfl,rfl,rfl,hl.1,hl.2,ae⟩)))
 split
 . refine h.eA _ hc ?_;obtain⟨t,h4,h5,h6⟩:=h.ord (i:=0) aa aa;refine .inr (.inr (.inr (.inr ⟨rfl,rfl,rfl,rfl,rfl,Int.le_refl _,t,h4,h5,h6.2 rfl,aw,aw,λn hn=> ?_,λi a b h7 h8=>by simp at h8⟩)));obtain rfl:=yB.1 hn;obtain⟨t,h4,h5,h6⟩:=h.ord (i:=5) aa aa;exact⟨aa,t,h4,λh=>by have:=h6.1 h;omega⟩
 . exact h.js _ _ hc
def Jz{l:Int}{r:List Sym}(h:qJ l r=true):∃a b,a.tok=true/\b.tok=true/\r=[a,⟨false,l⟩,b]:=by
 unfold qJ at h
 split at h
 . rename_i a b c;simp only[yy,Zf,decide_eq_true_eq]at h;obtain⟨⟨⟨h1,h2⟩,h3⟩,h4⟩:=h;refine⟨a,c,h1,h2, ?_⟩;obtain⟨tok,i⟩:=b;simp only at h3 h4;rw[h3,h4]
 . cases h
def za(r:List Sym)(k:Int):Bool:=match r[k.toNat]? with
 |some x=>x.tok
 |none=>false
def JA{r:List Sym}{k:Int}(h:za r k=true):∃s,r[(k+1-1).toNat]? =some s/\s.tok=true:=by
 rw[show k+1-1=k by omega];unfold za at h
 split at h
 . rename_i x hx;exact⟨x,hx,h⟩
 . cases h
structure JB(s:ByteArray)(l:Int)(r:List Sym)(c:Dg)(p:aX):Prop where
 name:p.name=s
 left:p.left=l
 right:p.right=r
 cond:p.cond=c
 fh:-1<=p.fh/\p.fh<=1
 ar:yK p
def JC(s:ByteArray)(l:Int)(r:List Sym)(c:Dg)(m:Int)(hr:r.length<=4)(h0:0<=m)(h1:m<256):JB s l r c (mark s l r c m):=by
 have plain:JB s l r c (bE s l r c):=⟨rfl,rfl,rfl,rfl,⟨by simp[bE],by simp[bE]⟩,by simp[bE];omega,by simp[bE],by simp[bE],.inl ⟨rfl,rfl⟩,.inl ⟨rfl,rfl⟩,by simp[bE]⟩;have e:mark s l r c m=(if(r.length:Int)=0 then bE s l r c else
  if m%8=1 then{bE s l r c with fh:=1}
  else if m%8=2 then{bE s l r c with fh:=-1}
  else if m%8=3 then{bE s l r c with bracket:=qJ l r}
  else if m%8=4 then{bE s l r c with layout:=[⟨1+m/8%4,m/8/4%(r.length:Int),if m/8%4=0 then 0 else(r.length:Int)-1⟩]}
  else if m%8=5 then{bE s l r c with scope:=⟨true,0,0,0,0⟩}
  else if m%8=6 then(if za r (m/8%(r.length:Int))then{bE s l r c with scope:=⟨false,m/8%(r.length:Int)+1,1+m/8%2,0,0⟩}else bE s l r c)
  else if m%8=7 then(if za r (m/8%(r.length:Int))then{bE s l r c with scope:=⟨false,0,0,m/8%(r.length:Int)+1,1+m/8%7⟩}else bE s l r c)
  else bE s l r c):=rfl
 rw[e]
 split
 . exact plain
 rename_i hn;have ae:0<(r.length:Int):=aa;have k0:0<=m/8%(r.length:Int):=YT _ hn;have k1:m/8%(r.length:Int)<r.length:=YN _ ae;have k2:0<=m/8/4%(r.length:Int):=YT _ hn;have k3:m/8/4%(r.length:Int)<r.length:=YN _ ae
 split
 . exact⟨rfl,rfl,rfl,rfl,⟨aw,aw⟩,plain.ar.len,plain.ar.lay,plain.ar.qP,plain.ar.uj,plain.ar.use,by simp[bE]⟩
 split
 . exact⟨rfl,rfl,rfl,rfl,⟨aw,aw⟩,plain.ar.len,plain.ar.lay,plain.ar.qP,plain.ar.uj,plain.ar.use,by simp[bE]⟩
 split
 . exact⟨rfl,rfl,rfl,rfl,plain.fh,plain.ar.len,plain.ar.lay,plain.ar.qP,plain.ar.uj,plain.ar.use,λhb=>⟨rfl,rfl,rfl,Jz hb⟩⟩
 split
 . refine⟨rfl,rfl,rfl,rfl,plain.fh,plain.ar.len,λx hx=> ?_,aw,plain.ar.uj,plain.ar.use,by simp[bE]⟩;obtain rfl:=yB.1 hx;simp only[ID,bE];refine⟨aa,aa,k2,k3, ?_, ?_,λh=> ?_⟩
   . split<;>omega
   . split<;>omega
   . rw[if_pos aa]
 split
 . exact⟨rfl,rfl,rfl,rfl,plain.fh,plain.ar.len,plain.ar.lay,plain.ar.qP,plain.ar.uj,plain.ar.use,by simp[bE]⟩
 split
 . split
   . rename_i ht;refine⟨rfl,rfl,rfl,rfl,plain.fh,plain.ar.len,plain.ar.lay,plain.ar.qP,.inr ⟨by simp only;omega,JA ht,by simp only;omega,by simp only;omega⟩,.inl ⟨rfl,rfl⟩,by simp[bE]⟩
   . exact plain
 split
 . split
   . rename_i ht;refine⟨rfl,rfl,rfl,rfl,plain.fh,plain.ar.len,plain.ar.lay,plain.ar.qP,.inl ⟨rfl,rfl⟩,.inr ⟨by simp only;omega,JA ht,by simp only;omega,by simp only;omega⟩,by simp[bE]⟩
   . exact plain
 . exact plain
def acJ:∀i j,i<100->j<100->jT i=jT j->i=j:=by
 have h:((E2 100).all λi=>(E2 100).all λj=> !decide (jT i=jT j)||afw i j)=true:=ak;intro i j hi hj he;have h1:=qG.1 (qG.1 h i (by simpa using hi)) j (by simpa using hj);rw[decide_eq_true he]at h1;exact Nat.eq_of_beq_eq_true (by simpa using h1)
def acK(k:Nat)(hk:k<100):jT k≠⟨#[]⟩:=by
 have h:((E2 100).all λi=> !decide (jT i=⟨#[]⟩))=true:=ak;have h1:=qG.1 h k (by simpa using hk);simpa using h1
def GI.line{g:aq}{r m:Nat}(h:GI g r m)(x:Ln)(hx:x.Ok)(known:Bool)(hm:m<90):GI (fO (cE bA) g x known) r (m+1):=by
 have ab:=h.room.line (cE bA) x known;unfold fO at ab⊢;simp only at ab⊢
 split
 . exact⟨h.room,h.cW,h.tk,h.tc,h.aP,by have:=h.nA;omega,h.new,h.res,h.ok,h.nd,h.pN,h.kS⟩
 . rename_i hc;rw[if_neg hc]at ab;have hn:=h.room.aP.1;have hlen:((x.right.take 4).map (jS (g.aP.length:Int))).length<=4:=by rw[afx,afv];omega
   have mk:=JC (jT g.ay.length) (x.left%(g.aP.length:Int)) ((x.right.take 4).map (jS (g.aP.length:Int))) (cE bA x.cond g.conds.length) x.mark hlen hx.mark.1 hx.mark.2;generalize mark (jT g.ay.length) (x.left%(g.aP.length:Int)) ((x.right.take 4).map (jS (g.aP.length:Int))) (cE bA x.cond g.conds.length) x.mark=P at mk ab⊢;have ah:=h.nA;have he:Ext g {g with ay:=g.ay++[P]}:=⟨rfl,rfl,λi t ht=>⟨t,ht,rfl,rfl⟩,λi p hp=>by
    show(g.ay++[P])[i]? =some p;rw[List.getElem?_append_left (ab8.1 hp).1];exact hp⟩
   refine⟨ab,⟨h.cW.new,h.cW.id,h.cW.len,h.cW.cW⟩,h.tk,h.tc,h.aP,by simp;omega,⟨?_,λs hs=> ?_⟩,λk ad af hs=> ?_,λp hp=> ?_,h.nd,λl hl=>(h.pN l hl).ext he,λx hx=>⟨(h.kS x hx).1,(h.kS x hx).2.ext he⟩⟩
   . show((g.ay++[P]).map (·.name)).Nodup;rw[afy,afS];refine⟨h.new.1,aw,λa ha b hb=> ?_⟩;simp only[adv,afM,yB]at hb;rintro rfl;rw[hb,mk.name]at ha;exact h.res g.ay.length (Xy _) aa ha
   . have hs:s∈(g.ay++[P]).map (·.name):=hs;rw[afy,RC]at hs;rcases hs with hs|hs
     . exact h.new.2 s hs
     . simp only[adv,afM,yB]at hs;rw[hs,mk.name];exact acK _ aa
   . have hs:jT k∈(g.ay++[P]).map (·.name):=hs;have ad:(g.ay++[P]).length<=k:=ad;rw[afK,afQ]at ad;rw[afy,RC]at hs;rcases hs with hs|hs
     . exact h.res k aa af hs
     . simp only[adv,afM,yB]at hs;rw[mk.name]at hs;have:=acJ _ _ af aa hs;omega
   . rcases RC.1 hp with hp|hp
     . exact(h.ok p hp).ext he
     . obtain rfl:=yB.1 hp;refine⟨?_,λs hs=> ?_, ?_,mk.fh,mk.ar⟩
       . rw[mk.left];exact⟨YT _ aa,YN _ aa⟩
       . rw[mk.right]at hs;obtain⟨b,hb,rfl⟩:=FQ.1 hs;have ai:=hx.right b (afG hb);unfold jS
         split
         . obtain⟨t,h1,h2,_⟩:=h.ord (i:=b%14) aa aa;exact(show∃t,0<=b%14/\g.au[(b%14).toNat]? =some t/\t.cls=0 from⟨t,aa,h1,h2⟩)
         . exact(show 0<=(b%14-9)%(g.aP.length:Int)/\(b%14-9)%(g.aP.length:Int)<g.aP.length from⟨YT _ aa,YN _ aa⟩)
       . rw[mk.cond];exact Dm _ _ hx.cond.1 hx.cond.2 h.room.conds
def GI.lines{r:Nat}(known:Bool):∀(ls:List Ln) {g:aq} {m:Nat},GI g r m->(∀l∈ls,l.Ok)->m+ls.length<90->GI (ls.foldl (λg l=>fO (cE bA) g l known) g) r (m+ls.length)
 |[],_,_,h,_,_=>h
 |l::ls,g,m,h,hl,hm=>by
  simp only[afB]at hm⊢;have h1:=h.line l (hl l aw) known aa;have h2:=GI.lines known ls h1 (λx hx=>hl x (afj _ hx)) aa;rw[show m+(ls.length+1)=m+1+ls.length by omega];exact h2
def GI.rules{m:Nat}:∀(ls:List Rl) {g:aq} {r:Nat},GI g r m->(∀l∈ls,l.Ok)->GI (ls.foldl (ja (cE bA)) g) (r+ls.length) m
 |[],_,_,h,_=>h
 |l::ls,g,r,h,hl=>by
  have h1:=h.Cp l (hl l aw);have h2:=GI.rules ls h1 (λx hx=>hl x (afj _ hx));simp only[afB];rw[show r+(ls.length+1)=r+1+ls.length by omega];exact h2
def JD(n:Nat)(s:Sym):Bool:=decide (0<=s.idx)&&if s.tok then decide (s.idx<9)else decide (s.idx<n)
def zc(p:aX)(k v lo hi:Int):Bool:=(decide (k=0)&&decide (v=0))||(decide (0<k)&&(match p.right[(k-1).toNat]? with|some s=>s.tok|none=>false)&&decide (lo<=v)&&decide (v<=hi))
def JE(n:Nat)(x:mo):Bool:=decide (1<=x.kind/\x.kind<=4/\0<=x.a/\x.a<n/\0<=x.b/\x.b<n/\(x.kind=1->x.b=0))
def uD(n:Nat)(d:Dg):Bool:=eF.any λq=>decide (q.2=n)&&decide ((aM q.1).nodes=d.nodes)&&decide ((aM q.1).root=d.root)
def Dn(p:aX):Bool:=Nat.ble p.right.length 16&&p.layout.all (JE p.right.length)&&Nat.ble p.layout.length 16&&zc p p.scope.declares p.scope.kind 1 7&&zc p p.scope.vU p.scope.allowed 0 255&&
 (!p.bracket||(decide (p.fh=0)&&p.layout.isEmpty&& !p.scope.opens&&decide (p.scope.declares=0)&&decide (p.scope.kind=0)&&decide (p.scope.vU=0)&&decide (p.scope.allowed=0)&&qJ p.left p.right))
def Dp(n c:Nat)(p:aX):Bool:=decide (0<=p.left)&&decide (p.left<n)&&p.right.all (JD n)&&uD c p.cond&&decide (-1<=p.fh/\p.fh<=1)&&Dn p
def wF{n:Nat}{d:Dg}(h:uD n d=true):lz n d:=by
 obtain⟨q,h1,h2⟩:=afF.1 h;simp only[yy,decide_eq_true_eq]at h2;obtain⟨⟨h3,h4⟩,h5⟩:=h2;refine⟨q.1, ?_,by rw[<-h3];exact Dl q h1⟩;obtain⟨ns,rt⟩:=d;cases hq:aM q.1 with
 |mk a b=>rw[hq]at h4 h5;simp only at h4 h5;rw[h4,h5]
def JF{p:aX}{k v lo hi:Int}(h:zc p k v lo hi=true):yJ p k v lo hi:=by
 simp only[zc,afA,yy,decide_eq_true_eq]at h;rcases h with⟨h1,h2⟩|⟨⟨⟨h1,h2⟩,h3⟩,h4⟩
 . exact .inl ⟨h1,h2⟩
 . refine .inr ⟨h1, ?_,h3,h4⟩
   split at h2
   . rename_i s hs;exact⟨s,hs,h2⟩
   . cases h2
def acL{p:aX}(h:Dn p=true):yK p:=by
 simp only[Dn,yy,afA,Zf,qG,decide_eq_true_eq,afT,JE]at h;obtain⟨⟨⟨⟨⟨h1,h2⟩,h3⟩,h4⟩,h5⟩,h6⟩:=h;refine⟨afD h1,h2,afD h3,JF h4,JF h5,λhb=> ?_⟩;rcases h6 with h6|⟨⟨⟨⟨⟨⟨⟨a,b⟩,c⟩,d⟩,e⟩,f⟩,g⟩,i⟩
 . rw[hb]at h6;cases h6
 . refine⟨a,b, ?_,Jz i⟩;cases hs:p.scope with
   |mk o x y z w=>rw[hs]at c d e f g;simp only at c d e f g;rw[c,d,e,f,g]
def acM{g:aq}{p:aX}(ht:g.au=au)(h:Dp g.aP.length g.conds.length p=true):uk g p:=by
 simp only[Dp,yy,decide_eq_true_eq,qG]at h;obtain⟨⟨⟨⟨⟨h1,h2⟩,h3⟩,h4⟩,h5⟩,h6⟩:=h;refine⟨⟨h1,h2⟩,λs hs=> ?_,wF h4,h5,acL h6⟩;have:=h3 s hs;obtain⟨tok,i⟩:=s;simp only[JD,yy,decide_eq_true_eq]at this;cases tok with
 |false=>exact(show 0<=i/\i<g.aP.length from⟨this.1,by simpa using this.2⟩)
 |true=>
  have h9:i<9:=by simpa using this.2
  have h0:=this.1;obtain⟨t,h7⟩:∃t,g.au[i.toNat]? =some t:=⟨_,RK (by rw[ht,Ie];omega)⟩;refine(show∃t,0<=i/\g.au[i.toNat]? =some t/\t.cls=0 from⟨t,h0,h7, ?_⟩);rw[ht]at h7;exact(Ic _ _ aa h7).1
def Dq(c n:Nat)(l:dg):Bool:=decide (0<=l.assoc/\l.assoc<=3)&&uD c l.cond&&l.ay.all λp=>decide (0<=p)&&decide (p<n)
def acN{g:aq}{l:dg}(h:Dq g.conds.length g.ay.length l=true):um g l:=by
 simp only[Dq,yy,decide_eq_true_eq,qG]at h;exact⟨h.1.1,wF h.1.2,h.2⟩
def zd(q:Tok->Bool)(l:List Int):Bool:= !l.isEmpty&&Nat.ble l.length 1000&&(l.all λn=>decide (0<=n)&&match au[n.toNat]? with|some t=>q t|none=>false)&&(E2 l.length).all λi=>match l[i]?,l[i+1]? with|some a,some b=>decide (a<b)|_,_=>true
def JG{g:aq}{K:Tok->Prop}{q:Tok->Bool}(ht:g.au=au)(hq:∀t,q t=true->K t){l:List Int}(h:zd q l=true):mB g K l:=by
 simp only[zd,yy,qG,decide_eq_true_eq,Zf]at h;obtain⟨⟨⟨h1,h2⟩,h3⟩,h4⟩:=h;refine⟨λhl=>(by rw[hl]at h1;cases h1),afD h2,λn hn=> ?_,λi a b ha hb=> ?_⟩
 . obtain⟨h5,h6⟩:=h3 n hn;refine⟨h5, ?_⟩;rw[ht]
   split at h6
   . rename_i t he;exact⟨t,he,hq t h6⟩
   . cases h6
 . have:=h4 i (by have:=(ab8.1 ha).1;simpa using this);rw[ha,hb]at this;simpa using this
def Dr(g:aq)(f:bk):Bool:=uD g.conds.length f.cond&&
 ((decide (f.kind=2)&&decide (f.left=0)&&decide (f.token=0)&&f.au.isEmpty&&decide (0<=f.parent)&&decide (0<=f.child)&&decide (0<=f.at_)&&ly g f.parent f.at_ f.child)||
  ((decide (f.kind=3)||decide (f.kind=4))&&decide (f.parent=0)&&decide (f.at_=0)&&decide (f.child=0)&&decide (f.token=0)&&decide (0<=f.left)&&decide (f.left<g.aP.length)&&zd (λt=>decide (t.cls=0)) f.au)||
  (decide (f.kind=5)&&decide (f.parent=0)&&decide (f.at_=0)&&decide (f.child=0)&&decide (f.left=0)&&decide (f.token=0)&&zd (λt=> !decide (t.lit=⟨#[]⟩)) f.au))
def acO{g:aq}{p a c:Int}(h:ly g p a c=true):∃P C s,g.ay[p.toNat]? =some P/\g.ay[c.toNat]? =some C/\P.right[a.toNat]? =some s/\s=⟨false,C.left⟩:=by
 unfold ly at h
 split at h
 . rename_i P C e1 e2
   split at h
   . rename_i s e3;simp only[yy,Zf,decide_eq_true_eq]at h;exact⟨P,C,s,e1,e2,e3,by obtain⟨tok,i⟩:=s;simp only at h;rw[h.1,h.2]⟩
   . cases h
 . cases h
def acP{g:aq}(ht:g.au=au){f:bk}(h:Dr g f=true):lz g.conds.length f.cond/\sH g f:=by
 simp only[Dr,yy,afA,decide_eq_true_eq,afT]at h;obtain⟨h1,h2⟩:=h;refine⟨wF h1, ?_⟩;rcases h2 with(⟨⟨⟨⟨⟨⟨⟨a,b⟩,c⟩,d⟩,e⟩,i⟩,j⟩,k⟩|⟨⟨⟨⟨⟨⟨⟨a,b⟩,c⟩,d⟩,e⟩,i⟩,j⟩,k⟩)|⟨⟨⟨⟨⟨⟨a,b⟩,c⟩,d⟩,e⟩,i⟩,k⟩
 . obtain⟨P,C,s,e1,e2,e3,e4⟩:=acO k;exact .inr (.inl ⟨a,b,c,d,P,C,s,e,e1,i,e2,j,e3,e4⟩)
 . have hk:mB g (λt=>t.cls=0) f.au:=JG ht (λt h=>of_decide_eq_true h) k;rcases a with a|a
   . exact .inr (.inr (.inl ⟨a,b,c,d,e,i,j,hk⟩))
   . exact .inr (.inr (.inr (.inl ⟨a,b,c,d,e,i,j,hk⟩)))
 . refine .inr (.inr (.inr (.inr ⟨a,b,c,d,e,aa,iG, ?_,rfl,rfl,JG ht (λt h=>by simpa using h) k⟩)));rw[ht,i];rfl
def wG(g:aq):Bool:=decide ((g.conds).Nodup)&&(g.conds.all λs=>oo.any λx=>decide (x=s))&&decide (g.aP.Nodup)&&(g.aP.all λs=> !decide (s=⟨#[]⟩))&&decide (g.start=0)&&decide ((g.ay.map (·.name)).Nodup)&&((g.ay.map (·.name)).all λs=> !decide (s=⟨#[]⟩))&&
 ((E2 100).all λk=>(g.ay.map (·.name)).all λx=> !decide (x=jT k))&&g.ay.all (Dp g.aP.length g.conds.length)&&decide ((g.bn.flatMap (·.ay)).Nodup)&&g.bn.all (Dq g.conds.length g.ay.length)&&g.aZ.all (Dr g)
def acQ:∀s∈oo,aE E true 166 [sV s] (bV true):=bR ak
def uE(n:Nat)(hn:n<=3):lz n (aW true):=by
 have h:((E2 4).all λn=>uD n (aW true))=true:=ak;exact wF (qG.1 h n (by simp;omega))
def JH:∀s∈oo,Ix s/\s≠⟨#[]⟩:=λs hs=>by
 have h:(oo.all λs=> !decide (s=Cy)&& !decide (s=Cz)&& !decide (s=⟨#[]⟩))=true:=ak;have h1:=qG.1 h s hs;simp only[yy,Zf,decide_eq_false_iff_not]at h1;exact⟨⟨acQ s hs,h1.1.1,h1.1.2⟩,h1.2⟩
def GI.base{g:aq}(hr:eo g 0)(hp:g.ay.length<=10)(ht:g.au=au)(hf:g.family=aW true)(h:wG g=true):GI g 0 10:=by
 simp only[wG,yy,decide_eq_true_eq,qG,afF,Zf,decide_eq_false_iff_not]at h;obtain⟨⟨⟨⟨⟨⟨⟨⟨⟨⟨⟨h1,h2⟩,h3⟩,h4⟩,h5⟩,h6⟩,h7⟩,h8⟩,h9⟩,ae⟩,af⟩,ah⟩:=h;have hc:=hr.conds;have h2:∀s∈g.conds,s∈oo:=λs hs=>by obtain⟨x,hx,rfl⟩:=h2 s hs;exact hx
 refine⟨hr,⟨⟨h1,λs hs=>(JH s (h2 s hs)).2⟩,λs hs=>(JH s (h2 s hs)).1,aa, ?_⟩,by rw[ht],λt ad=> ?_,⟨⟨h3,h4⟩,h5⟩,hp,⟨h6,h7⟩,λk _ hk hm=>h8 k (by simpa using hk) _ hm rfl,λp hp=>acM ht (h9 p hp),ae,λl hl=>acN (af l hl),λf hf=>acP ht (ah f hf)⟩
 . obtain⟨c,c1,c2⟩:=uE g.conds.length hc;exact⟨c,hf.trans c1,c2,by rw[hf];decide⟩
 . rw[ht]at ad;have:∀t∈au,t.cond=aW true:=by
    intro t ht;simp only[au,RC,Vs,FQ,afC,or_false]at ht;rcases ht with(rfl|⟨s,_,rfl⟩)|rfl|rfl<;>rfl
   rw[this t ad];exact uE _ hc
def acR(b:Int):wG (ic b)=true/\(ic b).au=au/\(ic b).family=aW true:=by
 unfold ic
 split
 . exact⟨ak,rfl,rfl⟩
 split
 . exact⟨ak,rfl,rfl⟩
 split
 . exact⟨ak,rfl,rfl⟩
 split
 . exact⟨ak,rfl,rfl⟩
 split
 . exact⟨ak,rfl,rfl⟩
 . exact⟨ak,rfl,rfl⟩
def JI(a b:Nat):aq:=⟨oo.take a,aW true,au,uf.take b,[bE ⟨#[102,105,114,115,116]⟩ 0 [⟨true,0⟩] (aW true)],0,[],[]⟩
def acS(a b:Nat)(ha:a<4)(hb:b<4)(ai:0<b):wG (JI a b)=true:=by
 have h:((E2 4).all λa=>(E2 4).all λb=>afw b 0||wG (JI a b))=true:=ak;have h1:=qG.1 (qG.1 h a (by simpa using ha)) b (by simpa using hb);have h2:afw b 0=false:=by cases b with|zero=>omega|succ n=>rfl
 rw[h2]at h1;simpa using h1
def JJ(x:cM)(hx:x.Ok):GI (iH x) 0 10:=by
 obtain⟨h1,h2⟩:=Ig x hx;have hn:=hx.n;unfold iH at h1 h2⊢
 split
 . rename_i hk;rw[if_pos hk]at h1 h2;obtain⟨k1,k2,k3⟩:=acR (x.base%8);exact GI.base h1 h2 k2 k3 k1
 . rename_i hk;rw[if_neg hk]at h1 h2;have:=acS (x.n%4).toNat (1+x.n/4%3).toNat aa aa aa;exact GI.base h1 h2 rfl rfl this
def GI.iI{g:aq}{r m:Nat}(h:GI g r m)(x:cM)(hx:x.Ok):GI (iI bA x g) r m:=by
 have ab:=(h.room.cW bA x).1;unfold Go.Sp.iI at ab⊢;simp only at ab⊢
 split
 . rename_i hc;rw[if_pos hc]at ab;have he:Ext g {g with family:=bA x.family g.conds.length}:=⟨rfl,rfl,λi t ht=>⟨t,ht,rfl,rfl⟩,λi p hp=>hp⟩;refine⟨ab,⟨h.cW.new,h.cW.id,h.cW.len, ?_⟩,h.tk,h.tc,h.aP,h.nA,h.new,h.res,λp hp=>(h.ok p hp).ext he,h.nd,λl hl=>(h.pN l hl).ext he,λx hx=>⟨(h.kS x hx).1,(h.kS x hx).2.ext he⟩⟩;refine⟨_,rfl,Dl _ (Is _ _ ?_ h.room.conds),hc.2⟩;have hf:=hc.1;cases hl:x.family with
   |nil=>rw[hl]at hf;simp at hf
   |cons b r=>
    have:=hx.family b (by rw[hl];simp);simp[hd];omega
 . exact h
def pO(x:cM)(hx:x.Ok):GI (cB bA x) 6 20:=by
 have h0:=(JJ x hx).iI x hx;unfold cB;simp only;have hm:∀{α:Type} (l:List α) (n:Nat),(l.take n).length<=n:=λl n=>by rw[afv];omega
 have an:=hm x.lines (if decide (x.base%8<6)=true then 6 else 10);have ao:(if decide (x.base%8<6)=true then 6 else 10)<=10:=by split<;>omega
 have h1:=GI.lines (decide (x.base%8<6)) (x.lines.take (if decide (x.base%8<6)=true then 6 else 10)) h0 (λl hl=>hx.lines l (afG hl)) aa;have h2:=GI.rules (x.rules.take 6) h1 (λl hl=>hx.rules l (afG hl));have av:=hm x.rules 6;have up:∀{g:aq} {r m:Nat},GI g r m->∀r' m',r<=r'->m<=m'->GI g r' m':=λh r' m' h1 h2=>⟨⟨h.room.ay,h.room.aP,h.room.conds,by have:=h.room.aZ;omega,by have:=h.room.bn;omega,h.room.au,h.room.my,h.room.ord⟩,h.cW,h.tk,h.tc,h.aP,by have:=h.nA;omega,h.new,h.res,h.ok,h.nd,h.pN,h.kS⟩;exact up h2 _ _ aa aa
structure EI(NU:Int->Prop)(n:Nat)(ay:List aX):Prop where
 JK:∀p∈ay,y6 p->(∀s∈p.right,NU s.idx)->NU p.left
 JL:∀p∈ay,∀(k:Nat) (s:Sym),p.right[k]? =some s->s.tok=false->(∀(i:Nat) (s':Sym),i≠k->p.right[i]? =some s'->s'.tok=false/\NU s'.idx)->p.left<s.idx/\s.idx<n
def EI.add{NU:Int->Prop}{n:Nat}{l:List aX}{p:aX}(h:EI NU n l)(h1:y6 p->(∀s∈p.right,NU s.idx)->NU p.left)(h2:∀(k:Nat) (s:Sym),p.right[k]? =some s->s.tok=false->(∀(i:Nat) (s':Sym),i≠k->p.right[i]? =some s'->s'.tok=false/\NU s'.idx)->p.left<s.idx/\s.idx<n):EI NU n (l++[p]):=by
 refine⟨λq hq=> ?_,λq hq=> ?_⟩
 . rcases RC.1 hq with hq|hq
   . exact h.JK q hq
   . obtain rfl:=yB.1 hq;exact h1
 . rcases RC.1 hq with hq|hq
   . exact h.JL q hq
   . obtain rfl:=yB.1 hq;exact h2
def ze(NU:Int->Bool)(n:Nat)(p:aX):Bool:=(!(p.right.all λs=> !s.tok)|| !(p.right.all λs=>NU s.idx)||NU p.left)&&
 (E2 p.right.length).all λk=>match p.right[k]? with
  |none=>true
  |some s=>s.tok|| !((E2 p.right.length).all λi=>afw i k||match p.right[i]? with|some s'=> !s'.tok&&NU s'.idx|none=>true)||(decide (p.left<s.idx)&&decide (s.idx<n))
def acT{NU:Int->Bool}{n:Nat}{l:List aX}(h:l.all (ze NU n)=true):EI (λi=>NU i=true) n l:=by
 refine⟨λp hp h1 h2=> ?_,λp hp k s hk hs ad=> ?_⟩
 . have h3:=qG.1 h p hp;simp only[ze,yy,afA,Zf]at h3;rcases h3.1 with(h4|h4)|h4
   . have:(p.right.all λs=> !s.tok)=true:=qG.2 λs hs=>by rw[h1 s hs];rfl
     rw[this]at h4;cases h4
   . have:(p.right.all λs=>NU s.idx)=true:=qG.2 λs hs=>h2 s hs;rw[this]at h4;cases h4
   . exact h4
 . have h3:=qG.1 h p hp;simp only[ze,yy]at h3;have aG:=(ab8.1 hk).1;have h4:=qG.1 h3.2 k (by simpa using aG);rw[hk]at h4;simp only[afA,yy,decide_eq_true_eq]at h4;rcases h4 with(h4|h4)|h4
   . rw[hs]at h4;cases h4
   . have:((E2 p.right.length).all λi=>afw i k||match p.right[i]? with|some s'=> !s'.tok&&NU s'.idx|none=>true)=true:=qG.2 λi hi=>by
      cases hb:afw i k with
      |true=>rfl
      |false=>
       have an:i≠k:=λhe=>by subst he;rw[Nat.beq_refl]at hb;cases hb
       rw[Bool.false_or];cases hx:p.right[i]? with
       |none=>rfl
       |some s'=>
        obtain⟨a,b⟩:=ad i s' an hx;simp only[a,b];rfl
     rw[this]at h4;cases h4
   . exact h4
def EI.line{NU:Int->Prop}{g:aq}(sm:Int->Nat->Dg)(x:Ln)(known:Bool)(hx:x.Ok)(hn:0<g.aP.length)(ae:known=false->∀i,NU i)(h:EI NU g.aP.length g.ay):EI NU (fO sm g x known).aP.length (fO sm g x known).ay:=by
 unfold fO;simp only
 split
 . exact h
 . rename_i hc;have hlen:((x.right.take 4).map (jS (g.aP.length:Int))).length<=4:=by rw[afx,afv];omega
   have mk:=JC (jT g.ay.length) (x.left%(g.aP.length:Int)) ((x.right.take 4).map (jS (g.aP.length:Int))) (sm x.cond g.conds.length) x.mark hlen hx.mark.1 hx.mark.2;obtain⟨r,hr⟩:∃r,(x.right.take 4).map (jS (g.aP.length:Int))=r:=⟨_,rfl⟩;have ao:∀s∈r,s.tok=false->s.idx<g.aP.length:=λs hs ht=>by
    rw[<-hr]at hs;obtain⟨b,_,rfl⟩:=FQ.1 hs;unfold jS at ht⊢
    split at ht
    . cases ht
    . rename_i hb;rw[if_neg hb];exact YN _ aa
   rw[hr]at mk hc⊢;generalize mark (jT g.ay.length) (x.left%(g.aP.length:Int)) r (sm x.cond g.conds.length) x.mark=P at mk⊢;have ab:=mk.right;have ah:=mk.left;by_cases ht:r.any (·.tok)=true
   . obtain⟨s0,az,av⟩:=afF.1 ht;obtain⟨i0,aF⟩:=afL az;refine h.add (λaH=> ?_) λk s hk hs ad=> ?_
     . have:=aH s0 (by rw[ab];exact az);rw[av]at this;cases this
     . rw[ab]at hk ad;have an:i0≠k:=λhe=>by subst he;rw[aF]at hk;cases hk;rw[av]at hs;cases hs
       have:=(ad i0 s0 an aF).1;rw[av]at this;cases this
   . have hf:r.any (·.tok)=false:=by simpa using ht
     have hk:known=false/\(r.all λs=>s.tok||decide (x.left%(g.aP.length:Int)<s.idx))=true:=by
      cases known with
      |true=>exact absurd ⟨hf,.inl rfl⟩ hc
      |false=>
       refine⟨rfl, ?_⟩;cases ha:(r.all λs=>s.tok||decide (x.left%(g.aP.length:Int)<s.idx))with
       |true=>rfl
       |false=>exact absurd ⟨hf,.inr ha⟩ hc
     refine h.add (λ_ _=>ae hk.1 _) λk s af hs _=> ?_;rw[ab]at af;have hm:=RW af;have:=qG.1 hk.2 s hm;rw[hs,Bool.false_or,decide_eq_true_eq]at this;rw[ah];exact⟨this,ao s hm hs⟩
def acU(sm:Int->Nat->Dg)(g:aq)(x:Ln)(known:Bool):(fO sm g x known).aP=g.aP:=by
 unfold fO;simp only
 split<;>rfl
def EI.lines{NU:Int->Prop}(sm:Int->Nat->Dg)(known:Bool)(ae:known=false->∀i,NU i):∀(ls:List Ln) {g:aq},(∀l∈ls,l.Ok)->0<g.aP.length->EI NU g.aP.length g.ay->EI NU (ls.foldl (λg l=>fO sm g l known) g).aP.length (ls.foldl (λg l=>fO sm g l known) g).ay
 |[],_,_,_,h=>h
 |l::ls,g,hl,hn,h=>EI.lines sm known ae ls (λx hx=>hl x (afj _ hx)) (by rw[acU];exact hn) (h.line sm l known (hl l aw) hn ae)
def acV(sm:Int->Nat->Dg)(g:aq)(x:Rl):(ja sm g x).aP=g.aP/\(ja sm g x).ay=g.ay:=by
 unfold ja kp;simp only
 repeat' split
 all_goals exact⟨rfl,rfl⟩
def JM(sm:Int->Nat->Dg):∀(ls:List Rl) (g:aq),(ls.foldl (ja sm) g).aP=g.aP/\(ls.foldl (ja sm) g).ay=g.ay
 |[],_=>⟨rfl,rfl⟩
 |l::ls,g=>by
  obtain⟨h1,h2⟩:=JM sm ls (ja sm g l);obtain⟨h3,h4⟩:=acV sm g l;exact⟨h1.trans h3,h2.trans h4⟩
def sL(b:Int):Int->Bool:=λi=>if b%6=2 then decide (i=0)else if b%6=4 then decide (i=2)else if b%6=5 then decide (i=1\/i=2)else false
def acW(b:Int):EI (λi=>sL b i=true) (ic b).aP.length (ic b).ay:=by
 have h:((E2 6).all λb=>(ic (b:Nat)).ay.all (ze (sL (b:Nat)) (ic (b:Nat)).aP.length))=true:=ak;have h2:∀c:Int,0<=c->c<6->EI (λi=>sL c i=true) (ic c).aP.length (ic c).ay:=λc h0 h1=>by
  have:=qG.1 h c.toNat (by simp;omega);rw[Int.toNat_of_nonneg h0]at this;exact acT this
 have e1:sL b=sL (b%6):=by funext i;simp only[sL,Int.emod_emod]
 have e2:ic b=ic (b%6):=by simp only[ic,Int.emod_emod]
 rw[e1,e2];exact h2 _ (YT _ aC) (YN _ aC)
def acX(md:List Int->Nat->Dg)(x:cM)(g:aq):(iI md x g).aP=g.aP/\(iI md x g).ay=g.ay:=by
 unfold iI;simp only
 split<;>exact⟨rfl,rfl⟩
def acY(x:cM)(hx:x.Ok):∃NU:Int->Prop,EI NU (cB bA x).aP.length (cB bA x).ay:=by
 have ai:=(JJ x hx).room;have key:∀NU:Int->Prop,(decide (x.base%8<6)=false->∀i,NU i)->EI NU (iH x).aP.length (iH x).ay->EI NU (cB bA x).aP.length (cB bA x).ay:=λNU ae hb=>by
  unfold cB;simp only;obtain⟨e1,e2⟩:=JM (cE bA) (x.rules.take 6) ((x.lines.take (if decide (x.base%8<6)=true then 6 else 10)).foldl (λg l=>fO (cE bA) g l (decide (x.base%8<6))) (iI bA x (iH x)));rw[e1,e2];obtain⟨f1,f2⟩:=acX bA x (iH x);exact EI.lines (cE bA) _ ae _ (λl hl=>hx.lines l (afG hl)) (by rw[f1];exact ai.aP.1) (by rw[f1,f2];exact hb)
 by_cases hk:x.base%8<6
 . refine⟨λi=>sL (x.base%8) i=true,key _ (λh=>by simp[hk]at h) ?_⟩;have:iH x=ic (x.base%8):=by unfold iH;rw[if_pos hk]
   rw[this];exact acW _
 . refine⟨λ_=>True,key _ (λ_ _=>trivial) ?_⟩;have:(iH x).ay=[bE ⟨#[102,105,114,115,116]⟩ 0 [⟨true,0⟩] (aW true)]:=by unfold iH;rw[if_neg hk]
   rw[this];refine⟨λp hp _ _=>trivial,λp hp k s af hs _=> ?_⟩;obtain rfl:=yB.1 hp;cases k with
   |zero=>simp[bE]at af;rw[<-af]at hs;cases hs
   |succ k=>simp[bE]at af
end Go.Sp
end

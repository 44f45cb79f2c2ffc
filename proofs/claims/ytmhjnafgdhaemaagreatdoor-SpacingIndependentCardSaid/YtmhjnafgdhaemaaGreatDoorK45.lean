/- SpacingIndependent: parts of its proof. -/
import Derived.Test.YtmhjnafgdhaemaaGreatDoorK44
open List renaming filter_cons_of_pos->qe,mem_cons->xS,filter_cons_of_neg->DE,mem_map->Er,mem_append->GP,mem_cons_of_mem->PO
set_option linter.all false
set_option maxRecDepth 100000
noncomputable section
open Go Go.au Go.Proofs
namespace Go.Sp
abbrev zs(xs:List Int):List DV:=xs.map iV
theorem aaM(xs:List Int):(zs xs).all cO=true:=by simp[cO,dw]
theorem aaN(xs:List Int)(k:Nat)(y:Int)(h:xs[k]? =some y):eQ (some none) (zs xs) (k*1)=some (iV y):=by
 simp[eQ,h]
abbrev vJ(p:Nat×List Int):DV:=.v (.slice (some ⟨p.1,0,none⟩) p.2.length p.2.length)
abbrev Ci(es:List bq)(l:List (Int×(Nat×List Int))):Prop:=eT rU vJ es l
def vK(n N:Int)(l:List (Int×Nat))(q:List Int):Prop:=(∀k c,bc l k=some c->c<256/\n<k/\k<N)/\∀y∈q,∃c,bc l y=some c
def Hid(p:Prop):Prop:=p
theorem ax.bg{t:Tr DV}{n:Nat}{dd:List FuncId}{h:ab}{l:List (Nat×DV)}(ht:jM t l):ax ⟨t,n,dd,h⟩ ⟨bz l,n,dd,h⟩:=ax.forget rfl (vb ht.mem) λ_ _ h=>h
theorem aaO{h:ab}{R o b ah:Nat}{cs:List DV}{q:List Int}{y:Int}{K:DV×ab×List Nat->Prop}(hg:h.get R=some (.row cs true ah))(he:ah=0\/ah=1)(hc:cs.length=o+q.length)(hd:cs.drop o=zs q)(hb:(q.length+1)*(b+1)<=1073741824)(hR:R<h.next)
 (hk:∀h' T,h'.get h.next=some (.row (zs (q++[y])) true 1)->h'.next=h.next+1->(∀i,i≠R->i<h.next->h'.get i=h.get i)->(∀i∈T,i=R)->K (.v (.slice (some ⟨h.next,0,none⟩) (q.length+1) (q.length+1)),h',T)):aG (eo h (some ⟨R,o,none⟩) q.length q.length 1 b 1 [iV y]) K:=by
 have h1:o+q.length*1<=cs.length:=by omega
 have h2:¬(o+q.length<cs.length):=by omega
 have h3:(cs.drop o).take q.length++[iV y]=zs (q++[y]):=by
  rw[hd,List.take_of_length_le (by simp),zs,zs,List.map_append];rfl
 rcases he with rfl|rfl
 . refine⟨(.v (.slice (some ⟨h.next,0,none⟩) (q.length+1) (q.length+1)),h.new (.row (zs (q++[y])) true 1),[]), ?_,hk _ _ ?_ ?_ (λi hi hn=> ?_) (λi hi=>by cases hi)⟩
   . simp only[eo,hg,Nat.mul_one];rw[if_neg (by omega),if_pos (by omega),if_pos (by omega),if_pos (by simp),h3]
   . rw[ab.di,if_pos rfl]
   . rw[ab.aX]
   . rw[ab.di,if_neg (by omega)]
 . refine⟨(.v (.slice (some ⟨h.next,0,none⟩) (q.length+1) (q.length+1)),(h.set R none).new (.row (zs (q++[y])) true 1),[R]), ?_,hk _ _ ?_ ?_ (λi hi hn=> ?_) (λi hi=>by simpa using hi)⟩
   . simp only[eo,hg,Nat.mul_one];rw[if_neg (by omega),if_pos (by omega),if_pos (by omega),if_neg (by omega),if_pos (by simp[cO,dw]),h3]
   . rw[ab.di,ab.aR,if_pos rfl]
   . rw[ab.aX,ab.aR]
   . rw[ab.di,ab.aR,if_neg (by omega),ab.bn,if_neg hi]
set_option maxHeartbeats 8000000 in
theorem HU{K:ck}{dd:List FuncId}{h:ab}{ST Bs NX Bn RM Br Q Bq:Nat}{aP az es:List bq}{aA aa clk:Nat}{lS:List ((Int×Int)×Nat)}{lN:List (Int×(Nat×List Int))}{l:List (Int×Nat)}{q:List Int}{o ah:Nat}{cs:List DV}{n:Int}{N:Nat}{n0:Int}{c0 B:Nat}{R:Nat}{xs:List Int}
 (o1:ST<Bs) (o2:Bs<NX) (o3:NX<Bn) (o4:Bn<R) (o5:R<RM) (o6:RM<Br) (o7:Br<Q) (o8:Br<Bq) (o9:Q≠Bq) (bL:Q<h.next) (bM:Bq<h.next)
 (g1:h.get ST=some (.map aP aA)) (g2:h.get Bs=some (.row [.v (.map (some ST))] true 0)) (g3:h.get NX=some (.map az aa)) (g4:h.get Bn=some (.row [.v (.map (some NX))] true 0)) (g5:h.get RM=some (.map es clk)) (g6:h.get Br=some (.row [.v (.map (some RM))] true 0))
 (g7:h.get Q=some (.row cs true ah)) (g8:h.get Bq=some (.row [.v (.slice (some ⟨Q,o,none⟩) q.length q.length)] true 0)) (g9:h.get R=some (.row (zs xs) true 1))
 (hS:yq aP lS) (bN:ju lS) (hN:Ci az lN) (hl:iK es l) (bf:ah=0\/ah=1) (bP:cs.length=o+q.length) (bQ:cs.drop o=zs q)
 (hn:0<=n) (b7:n<=n0) (hx:bc lN n0=some (R,xs)) (bS:∀y∈xs,n0<y/\y<N/\∃c,bc lS (n0,y)=some c) (b8:xs.length<=100000) (hv:vK n N l q) (bu:c0<256) (hB:2*mu N l+q.length=B) (b9:B<=10000000)
 (hk:∀h' T aQ bk l' q' Q' o' aE cs',iK aQ l'->vK n N l' q'->2*mu N l'+q'.length<=B->h.next<=h'.next->Br<Q'->Q'≠Bq->Q'<h'.next->(aE=0\/aE=1)->cs'.length=o'+q'.length->cs'.drop o'=zs q'->h'.get RM=some (.map aQ bk)->h'.get Q'=some (.row cs' true aE)->h'.get Bq=some (.row [.v (.slice (some ⟨Q',o',none⟩) q'.length q'.length)] true 0)->
  (∀i,i<h.next->i≠RM->i≠Q->i≠Bq->h'.get i=h.get i)->K (.bb []) dd h' T):
 an E true K dd h (101,[iV n0,.agg (aF c0).e,.v (.pointer (some ⟨Bn,0,none⟩)),.v (.pointer (some ⟨Br,0,none⟩)),.v (.pointer (some ⟨Bs,0,none⟩)),.v (.pointer (some ⟨Bq,0,none⟩))]):=by
 refine cJ.frame [ST,Bs,NX,Bn,R,RM,Br,Q,Bq] (by simp;omega) ?_;obtain⟨M,hM⟩:∃M,h.next=M:=⟨_,rfl⟩;refine gD (K:=λv _ bx _=>∀ad:ab,ad.next=bx.next->(∀i,(i∈[ST,Bs,NX,Bn,R,RM,Br,Q,Bq]\/h.next<=i)->ad.get i=bx.get i)->(∀i,i<h.next->i∉[ST,Bs,NX,Bn,R,RM,Br,Q,Bq]->ad.get i=h.get i)->K v dd ad [ST,Bs,NX,Bn,R,RM,Br,Q,Bq]) (dd:=dd) Tryz.ntmps101 Tryz.results101 ?_;simp only[eG,g1,g2,g3,g4,g5,g6,g7,g8,g9];rw[hM]at bL bM⊢;simp(disch:=omega)[go_sem,Dg.e];have h1:=rP jQ qo hN n0 false hx;refine⟨_,lg (es:=az) (clock:=aa) (by simp(disch:=omega)[go_sem]) rfl h1, ?_⟩;simp(disch:=omega)[go_sem];obtain⟨I,hI⟩:∃I:Nat->DS->Prop,∀j d,I j d↔∃(k:Nat) (H:ab) (es:List bq) (clk:Nat) (l:List (Int×Nat)) (q:List Int) (Q' o ah:Nat) (cs:List DV),j+k=xs.length/\M<H.next/\iK es l/\vK n N l q/\2*mu N l+q.length<=B/\Br<Q'/\Q'≠Bq/\Q'≠M/\Hid (Q'=Q\/M<=Q')/\Q'<H.next/\(ah=0\/ah=1)/\cs.length=o+q.length/\cs.drop o=zs q/\
  H.get ST=some (.map aP aA)/\H.get Bs=some (.row [.v (.map (some ST))] true 0)/\H.get NX=some (.map az aa)/\H.get Bn=some (.row [.v (.map (some NX))] true 0)/\H.get R=some (.row (zs xs) true 1)/\H.get RM=some (.map es clk)/\H.get Br=some (.row [.v (.map (some RM))] true 0)/\H.get Bq=some (.row [.v (.slice (some ⟨Q',o,none⟩) q.length q.length)] true 0)/\H.get M=some (.row (aF c0).e true 0)/\H.get Q'=some (.row cs true ah)/\
  d=⟨bz [(0,iV n0),(3,.v (.pointer (some ⟨Br,0,none⟩))),(4,.v (.pointer (some ⟨Bs,0,none⟩))),(5,.v (.pointer (some ⟨Bq,0,none⟩))),(7,.v (.pointer (some ⟨M,0,none⟩))),(14,.v (.slice (some ⟨R,0,none⟩) xs.length xs.length)),(15,iV xs.length),(16,iV k)],50,[],H⟩:=⟨_,λ_ _=>Iff.rfl⟩
 refine bO I xs.length ⟨_,ax.bg (l:=[(0,iV n0),(3,.v (.pointer (some ⟨Br,0,none⟩))),(4,.v (.pointer (some ⟨Bs,0,none⟩))),(5,.v (.pointer (some ⟨Bq,0,none⟩))),(7,.v (.pointer (some ⟨M,0,none⟩))),(14,.v (.slice (some ⟨R,0,none⟩) xs.length xs.length)),(15,iV xs.length),(16,iV (0:Nat))]) ?_,(hI _ _).2 ⟨0,_,es,clk,l,q,Q,o,ah,cs,rfl, ?_,hl,hv,by omega,by omega,o9,by omega,.inl rfl, ?_,bf,bP,bQ, ?_, ?_, ?_, ?_, ?_, ?_, ?_, ?_, ?_, ?_,rfl⟩⟩ ?_
 . simp(disch:=omega)[go_sem,vJ]
 . simp(disch:=omega)[go_sem]
 . simp(disch:=omega)[go_sem]
 . simp(disch:=omega)[go_sem]
 . simp(disch:=omega)[go_sem]
 . simp(disch:=omega)[go_sem]
 . simp(disch:=omega)[go_sem]
 . simp(disch:=omega)[go_sem]
 . simp(disch:=omega)[go_sem]
 . simp(disch:=omega)[go_sem]
 . simp(disch:=omega)[go_sem]
 . simp(disch:=omega)[go_sem,Dg.e]
 . simp(disch:=omega)[go_sem]
 . intro j ds aT;obtain⟨k,H,aU,af,l1,q1,Q1,bl,aI,bm,hj,hP,aW,aS,bA,bB,bD,bT,bF,ca,ai,aK,aL,f1,f2,f3,f4,f5,f6,f7,f8,f9,f10,rfl⟩:=(hI _ _).1 aT;clear aT;by_cases bU:k<xs.length
   . have aM:(k:Int)<xs.length:=by omega
     obtain⟨y,hy⟩:∃y,xs[k]? =some y:=⟨_,List.getElem?_eq_getElem bU⟩;obtain⟨cb,cc,cy,bG⟩:=bS y (List.mem_of_getElem? hy);have bW:=aaN xs k y hy;have bo:=bN _ _ bG;simp(disch:=omega)[go_sem,aM,bW,hy,-getElem?_pos,f5,f7];refine vG (es:=aU) (clock:=af) (l:=l1) f6 (by omega) aW λM1 cd=> ?_;simp(disch:=omega)[go_sem,Dg.e];refine bR [⟨.read,0,some (0,3),true⟩,aD 0,aD 0,ae 0,ae 0,ae 24,aD 60,aN 126,ae 254,ae 254,aN 1022,aN 2047,ae 4095,ae 4095,aN 16383,cE 0,aN 65535] (by kernel_rfl) 1 rfl ?_;simp(disch:=omega)[go_sem,Dg.e,f2,f9];have aZ:=tL (λk c h=>(aS.1 k c h).1) y;have bp:c0&&&cy<256:=Nat.lt_of_le_of_lt Nat.and_le_left bu;obtain⟨go,bI⟩:∃go,cC l1 y=go:=⟨_,rfl⟩;rw[bI]at aZ⊢;obtain⟨ga,bY⟩:∃ga,c0&&&cy=ga:=⟨_,rfl⟩;have hand:=vF c0 cy bu bo;rw[bY]at bp hand;have ao:=qn (aj:=true) (aF ga);have bs:=Ca go ga aZ bp;have bd:=vH aZ bp;obtain⟨gn,bJ⟩:∃gn,go|||ga=gn:=⟨_,rfl⟩;rw[bJ]at bs bd;have av:=qn (aj:=true) (aF gn);have aB:=HO go gn aZ bd;simp only[Dg.e]at hand ao bs av aB;have h2:=rP yp vI hS (n0,y) false bG;refine⟨_,lg (es:=aP) (clock:=aA) (by simp(disch:=omega)[go_sem,f1]) rfl h2, ?_⟩;simp(disch:=omega)[go_sem,Dg.e];refine an.mk hand λM2 bZ=> ?_;simp(disch:=omega)[go_sem]at bZ;simp(disch:=omega)[go_sem];refine an.mk ao λM3 b0=> ?_;simp(disch:=omega)[go_sem]at b0;simp(disch:=omega)[go_sem];refine an.mk bs λM4 b1=> ?_;simp(disch:=omega)[go_sem]at b1;simp(disch:=omega)[go_sem];refine an.mk av λM5 b2=> ?_;simp(disch:=omega)[go_sem]at b2;simp(disch:=omega)[go_sem];refine an.mk aB λM6 b3=> ?_;simp(disch:=omega)[go_sem]at b3;by_cases he:go=gn
     . have bt:decide (go=gn)=true:=decide_eq_true he;simp(disch:=omega)[go_sem,bt,aC];refine⟨j-1,by omega,_,ax.bg (l:=[(0,iV n0),(3,.v (.pointer (some ⟨Br,0,none⟩))),(4,.v (.pointer (some ⟨Bs,0,none⟩))),(5,.v (.pointer (some ⟨Bq,0,none⟩))),(7,.v (.pointer (some ⟨M,0,none⟩))),(14,.v (.slice (some ⟨R,0,none⟩) xs.length xs.length)),(15,iV xs.length),(16,iV (k+1:Nat))]) ?_,(hI _ _).2 ⟨k+1,_,aU,af,l1,q1,Q1,bl,aI,bm,by omega, ?_,aW,aS,bA,bB,bD,bT,bF, ?_,ai,aK,aL, ?_, ?_, ?_, ?_, ?_, ?_, ?_, ?_, ?_, ?_,rfl⟩⟩
       all_goals simp(disch:=omega)[go_sem,f1,f2,f3,f4,f5,f6,f7,f8,f9,f10,Dg.e]
       all_goals omega
     . have bt:decide (go=gn)=false:=decide_eq_false he;obtain⟨aQ,aw,h8,h9⟩:=oW jQ rX aW y af gn;simp(disch:=omega)[go_sem,bt,f7];refine⟨_,rT (es:=aU) (clock:=af) (by simp(disch:=omega)[go_sem,f6]) rfl h8, ?_⟩;simp(disch:=omega)[go_sem,aC,f8];refine aaO (cs:=bm) (ah:=aI) (by simp(disch:=omega)[go_sem,f10]) ai aK aL (by omega) (by simp(disch:=omega)[go_sem];try omega) λH2 T2 w1 w2 w3 w4=> ?_;simp(disch:=omega)[go_sem]at w1 w2 w3;have v1:H2.get ST=some (.map aP aA):=by rw[w3 ST (by omega) (by omega)];simp(disch:=omega)[go_sem,f1]
       have v2:H2.get Bs=some (.row [.v (.map (some ST))] true 0):=by rw[w3 Bs (by omega) (by omega)];simp(disch:=omega)[go_sem,f2]
       have v3:H2.get NX=some (.map az aa):=by rw[w3 NX (by omega) (by omega)];simp(disch:=omega)[go_sem,f3]
       have v4:H2.get Bn=some (.row [.v (.map (some NX))] true 0):=by rw[w3 Bn (by omega) (by omega)];simp(disch:=omega)[go_sem,f4]
       have v5:H2.get R=some (.row (zs xs) true 1):=by rw[w3 R (by omega) (by omega)];simp(disch:=omega)[go_sem,f5]
       have v6:H2.get RM=some (.map aQ aw):=by rw[w3 RM (by omega) (by omega)];simp(disch:=omega)[go_sem]
       have v7:H2.get Br=some (.row [.v (.map (some RM))] true 0):=by rw[w3 Br (by omega) (by omega)];simp(disch:=omega)[go_sem,f7]
       have v8:H2.get Bq=some (.row [.v (.slice (some ⟨Q1,bl,none⟩) q1.length q1.length)] true 0):=by rw[w3 Bq (by omega) (by omega)];simp(disch:=omega)[go_sem,f8]
       have v9:H2.get M=some (.row (aF c0).e true 0):=by rw[w3 M (by omega) (by omega)];simp(disch:=omega)[go_sem,f9]
       have cg:=HQ (n:=N) (l:=l1) (k:=y) (c:=gn) (by omega) (by omega) bd (by rw[bI];subst bJ;exact HR λh=>he h.symm);have b5:vK n N (Go.au.put l1 y gn) (q1++[y]):=by
        refine⟨λk c h=> ?_,λz hz=> ?_⟩
        . rw[mq]at h
          split at h
          . rename_i e;subst e;cases h;exact⟨bd,by omega,by omega⟩
          . exact aS.1 k c h
        . rw[mq]
          split
          . exact⟨_,rfl⟩
          . rename_i b6;rcases GP.1 hz with hz|hz
            . exact aS.2 z hz
            . exact absurd (by simpa using hz) b6
       simp(disch:=omega)[go_sem,aC,v8];refine⟨j-1,by omega,_,ax.bg (l:=[(0,iV n0),(3,.v (.pointer (some ⟨Br,0,none⟩))),(4,.v (.pointer (some ⟨Bs,0,none⟩))),(5,.v (.pointer (some ⟨Bq,0,none⟩))),(7,.v (.pointer (some ⟨M,0,none⟩))),(14,.v (.slice (some ⟨R,0,none⟩) xs.length xs.length)),(15,iV xs.length),(16,iV (k+1:Nat))]) ?_,(hI _ _).2 ⟨k+1,_,aQ,aw,_,q1++[y],M6+1,0,1,zs (q1++[y]),by omega, ?_,h9,b5,by simp;omega,by omega,by omega,by omega,.inr (by omega), ?_,.inr rfl,by simp,rfl, ?_, ?_, ?_, ?_, ?_, ?_, ?_, ?_, ?_, ?_,rfl⟩⟩
       all_goals simp(disch:=omega)[go_sem,v1,v2,v3,v4,v5,v6,v7,v8,v9,w1,w2]
       all_goals omega
   . have aM:¬(k:Int)<xs.length:=by omega
     simp(disch:=omega)[go_sem,aM];intro ad ch q2 q3;have hS:∀i,i∈[ST,Bs,NX,Bn,R,RM,Br,Q,Bq]->ad.get i=H.get i:=λi hi=>q2 i (.inl (by simpa using hi));refine hk ad _ aU af l1 q1 Q1 bl aI bm aW aS bA (by omega) bB bD (by omega) ai aK aL ?_ ?_ ?_ λi hi h1 h2 h3=> ?_
     . rw[hS RM (by simp),f6]
     . rcases bF with h|h
       . rw[h]at f10;rw[h,hS Q (by simp),f10]
       . rw[q2 Q1 (.inr h),f10]
     . rw[hS Bq (by simp),f8]
     . by_cases z1:i=ST
       . subst z1;rw[hS i (by simp),f1,g1]
       . by_cases z2:i=Bs
         . subst z2;rw[hS i (by simp),f2,g2]
         . by_cases z3:i=NX
           . subst z3;rw[hS i (by simp),f3,g3]
           . by_cases z4:i=Bn
             . subst z4;rw[hS i (by simp),f4,g4]
             . by_cases z5:i=R
               . subst z5;rw[hS i (by simp),f5,g9]
               . by_cases z6:i=Br
                 . subst z6;rw[hS i (by simp),f7,g6]
                 . exact q3 i (by omega) z1 z2 z3 z4 z5 h1 z6 h2 h3
set_option maxHeartbeats 2000000 in
theorem aaP{K:ck}{dd:List FuncId}{h:ab}{Bs NX Bn Br Bq:Nat}{az:List bq}{aa:Nat}{lN:List (Int×(Nat×List Int))}{n0:Int}{c0:Nat}
 (o3:NX<Bn) (o4:Bn<h.next) (g3:h.get NX=some (.map az aa)) (g4:h.get Bn=some (.row [.v (.map (some NX))] true 0)) (hN:Ci az lN) (hx:bc lN n0=none)
 (hk:∀P,h.next<=P->K (.bb []) dd (h.up P) [NX,Bn]):
 an E true K dd h (101,[iV n0,.agg (aF c0).e,.v (.pointer (some ⟨Bn,0,none⟩)),.v (.pointer (some ⟨Br,0,none⟩)),.v (.pointer (some ⟨Bs,0,none⟩)),.v (.pointer (some ⟨Bq,0,none⟩))]):=by
 refine tK [NX,Bn] Tryz.ntmps101 Tryz.results101 ?_;obtain⟨M,hM⟩:∃M,h.next=M:=⟨_,rfl⟩;simp only[eG,g3,g4];rw[hM]at o4 hk⊢;simp(disch:=omega)[go_sem,Dg.e];have h1:=rQ jQ qo hN n0 false Ch rfl hx;refine⟨_,lg (es:=az) (clock:=aa) (by simp(disch:=omega)[go_sem]) rfl h1, ?_⟩;simp(disch:=omega)[go_sem,fu];obtain⟨I,hI⟩:∃I:Nat->DS->Prop,∀j d,I j d↔d=⟨bz [(15,iV 0),(16,iV 0)],50,[],cw (M+1) [(NX,.map az aa),(Bn,.row [.v (.map (some NX))] true 0)]⟩:=⟨_,λ_ _=>Iff.rfl⟩;refine bO I 0 ⟨_,ax.mk (N:=M+1) ?_ ?_ ?_,(hI _ _).2 rfl⟩ ?_
 . simp(disch:=omega)[go_sem]
 . simp(disch:=omega)[go_sem]
 . simp(disch:=omega)[go_sem]
 . intro j ds aT;cases(hI _ _).1 aT;simp(disch:=omega)[go_sem];exact⟨⟨g3.symm,g4.symm⟩,hk _ (by omega)⟩
end Go.Sp
end
noncomputable section
open Go Go.au Go.Proofs
namespace Go.au
theorem aaQ{κ ν:Type}[DecidableEq κ]{l:List (κ×ν)}{p:κ×ν}(h:p∈l):∃c,bc l p.1=some c:=by
 induction l with
 |nil=>cases h
 |cons x r ih=>
  obtain⟨a,b⟩:=x;simp only[bc]
  split
  . exact⟨_,rfl⟩
  . rename_i ae;rcases xS.1 h with rfl|h
    . exact absurd rfl ae
    . exact ih h
theorem aaR{κ ν:Type}[DecidableEq κ]{l:List (κ×ν)}{k:κ}{v:ν}{p:κ×ν}(h:p∈put l k v):p∈l\/p=(k,v):=by
 induction l with
 |nil=>simpa[put]using h
 |cons x r ih=>
  obtain⟨a,b⟩:=x;simp only[put]at h
  split at h
  . rcases xS.1 h with h|h
    . exact .inr h
    . exact .inl (PO _ h)
  . rcases xS.1 h with h|h
    . exact .inl (h▸List.mem_cons_self)
    . rcases ih h with h|h
      . exact .inl (PO _ h)
      . exact .inr h
theorem eT.mem{κ ν:Type}[DecidableEq κ]{kf:κ->Value}{vf:ν->DV}{es:List bq}{l:List (κ×ν)}(h:eT kf vf es l){x:bq}(hx:x∈es):∃p∈l,x.key=kf p.1/\x.val=vf p.2:=by
 have h1:(x.key,x.val)∈es.map λx=>(x.key,x.val):=Er.2 ⟨x,hx,rfl⟩;rw[h]at h1;obtain⟨p,hp,he⟩:=Er.1 h1;simp only[Prod.mk.injEq]at he;exact⟨p,hp,he.1.symm,he.2.symm⟩
theorem kP.find{es:List bq}{clock:Nat}(hb:kP es clock){x:bq}(hx:x∈es):es.find? (λy=>y.born==x.born)=some x:=by
 have h:=hb.2;clear hb
 induction es with
 |nil=>cases hx
 |cons y r ih=>
  simp only[List.map_cons,List.nodup_cons]at h;rw[List.find?_cons];rcases xS.1 hx with rfl|hx
  . simp
  . have:¬y.born=x.born:=λhe=>h.1 (by rw[he];exact Er.2 ⟨x,hx,rfl⟩);have hb:(y.born==x.born)=false:=by simpa using this
    rw[hb];exact ih hx h.2
def left(es:List bq)(seen:List Nat):Nat:=(es.filter λx=> !seen.contains x.born).length
theorem HV(es:List bq):left es []=es.length:=congrArg List.length (List.filter_eq_self.2 λx _=>rfl)
theorem HW{α:Type}{p q:α->Bool}(h:∀x,q x=true->p x=true):∀l:List α,(l.filter q).length<=(l.filter p).length
 |[]=>Nat.le_refl _
 |y::r=>by
  have ih:=HW h r;have hy:=h y;cases hq:q y with
  |true=>
   rw[qe hq,qe (hy hq)];exact Nat.succ_le_succ ih
  |false=>
   rw[DE (by simp[hq])];cases hp:p y with
   |true=>rw[qe hp];exact Nat.le_succ_of_le ih
   |false=>rw[DE (by simp[hp])];exact ih
theorem HX{α:Type}{p q:α->Bool}(h:∀x,q x=true->p x=true){x:α}(hp:p x=true)(hq:q x=false):∀{l:List α},x∈l->(l.filter q).length<(l.filter p).length
 |y::r,hx=>by
  rcases xS.1 hx with rfl|hx
  . rw[qe hp,DE (by simp[hq])];exact Nat.lt_succ_of_le (HW h r)
  . have ih:=HX h hp hq hx;have hy:=h y;cases af:q y with
    |true=>
     rw[qe af,qe (hy af)];exact Nat.succ_lt_succ ih
    |false=>
     rw[DE (by simp[af])];cases ao:p y with
     |true=>rw[qe ao];exact Nat.lt_succ_of_lt ih
     |false=>rw[DE (by simp[ao])];exact ih
theorem HY{es:List bq}{seen:List Nat}{x:bq}(hx:x∈es)(hs:seen.contains x.born=false):left es (seen++[x.born])<left es seen:=
 HX (λy hy=>by simp at hy⊢;exact hy.1) (by rw[hs];rfl) (by simp) hx
end Go.au
namespace Go.Sp
theorem HZ{h:ab}{ty a b:TypeId}{m:Nat}{es:List bq}{clock:Nat}(hu:E.under ty=some (.map a b))(hm:h.get m=some (.map es clock)):kZ E h ty (.v (.map (some m)))=some (.cj (some m) clock [] clock):=by
 simp only[kZ,hu,hm]
theorem H7{h:ab}{r m since clock:Nat}{seen:List Nat}{es:List bq}{x:bq}(hr:h.get r=some (.cj (some m) since (seen++[x.born]) clock))(hm:h.get m=some (.map es clock))(hb:kP es clock)(hx:x∈es):sQ h (.v (.pointer (some ⟨r,0,none⟩)))=some (.bb [fu x.key,x.val]):=by
 simp[sQ,hr,hm,hb.find hx]
def mP(H:ab)(lo:Nat)(n:Int)(lS:List ((Int×Int)×Nat))(b:Nat)(lN:List (Int×(Nat×List Int))):Prop:=
 (∀k R xs,bc lN k=some (R,xs)->lo<R/\R<H.next/\H.get R=some (.row (zs xs) true 1)/\0<=k/\k<n/\xs≠[]/\xs.length<=b/\∀y∈xs,k<y/\y<n/\∃c,bc lS (k,y)=some c)/\
 ∀k k' R xs av,bc lN k=some (R,xs)->bc lN k'=some (R,av)->k=k'
theorem mP.nil(H:ab)(lo:Nat)(n:Int)(lS:List ((Int×Int)×Nat))(b:Nat):mP H lo n lS b []:=⟨λk R xs h=>by simp[bc]at h,λk k' R xs av h=>by simp[bc]at h⟩
theorem mP.put{H H':ab}{lo:Nat}{n:Int}{lS:List ((Int×Int)×Nat)}{b:Nat}{lN:List (Int×(Nat×List Int))}(h:mP H lo n lS b lN){k y:Int}{c R':Nat}{xs:List Int}(hk:0<=k)(hy:k<y)(az:y<n)(hc:bc lS (k,y)=some c)
 (aA:(bc lN k=none/\xs=[])\/∃R,bc lN k=some (R,xs)) (aC:H.next<=R') (aB:R'<H'.next) (hg:H'.get R'=some (.row (zs (xs++[y])) true 1)) (aa:∀R,lo<R->R<H.next->(∀xs,bc lN k≠some (R,xs))->H'.get R=H.get R) (aD:lo<H.next):mP H' lo n lS (b+1) (Go.au.put lN k (R',xs++[y])):=by
 have hold:xs.length<=b/\∀y∈xs,k<y/\y<n/\∃c,bc lS (k,y)=some c:=by
  rcases aA with⟨_,rfl⟩|⟨R,h1⟩
  . exact⟨Nat.zero_le _,λy hy=>by cases hy⟩
  . obtain⟨_,_,_,_,_,_,q1,q2⟩:=h.1 k R xs h1;exact⟨q1,q2⟩
 refine⟨λk2 R2 ad h2=> ?_,λk2 k3 R2 ad ai h2 h3=> ?_⟩
 . rw[mq]at h2
   split at h2
   . rename_i he;subst he;cases h2;refine⟨by omega,aB,hg,hk,by omega,by simp,by simp;omega,λz hz=> ?_⟩;rcases GP.1 hz with hz|hz
     . exact hold.2 z hz
     . simp only[List.mem_singleton]at hz;subst hz;exact⟨hy,az,c,hc⟩
   . rename_i ae;obtain⟨q1,q2,q3,q4,q5,q6,q7,q8⟩:=h.1 k2 R2 ad h2;refine⟨q1,by omega, ?_,q4,q5,q6,by omega,q8⟩;rw[aa R2 q1 q2 λai h3=>ae (h.2 k2 k R2 ad ai h2 h3),q3]
 . have aw:∀k R xs,bc lN k=some (R,xs)->R<H.next:=λk R xs h4=>(h.1 k R xs h4).2.1;rw[mq]at h2 h3
   split at h2
   . split at h3
     . rename_i e1 e2;rw[e1,e2]
     . cases h2;have:=aw _ _ _ h3;omega
   . split at h3
     . cases h3;have:=aw _ _ _ h2;omega
     . exact h.2 k2 k3 R2 ad ai h2 h3
theorem mP.same{H H':ab}{lo:Nat}{n:Int}{lS:List ((Int×Int)×Nat)}{b:Nat}{lN:List (Int×(Nat×List Int))}(h:mP H lo n lS b lN)(hs:∀R,lo<R->R<H.next->H'.get R=H.get R)(hn:H.next<=H'.next):mP H' lo n lS b lN:=
 ⟨λk R xs h1=>by
  obtain⟨q1,q2,q3,q4,q5,q6,q7,q8⟩:=h.1 k R xs h1;exact⟨q1,by omega,by rw[hs R q1 q2,q3],q4,q5,q6,q7,q8⟩,h.2⟩
theorem aaS:E.elem 49=some 1:=by kernel_rfl
theorem aaT{h:ab}{R o len ah:Nat}{cs:List DV}(hg:h.get R=some (.row cs true ah))(he:ah=0\/ah=1)(hl:0<len):dz E h 49 (some (.v (.slice (some ⟨R,o,none⟩) len len))) (some (some (iV 1))) (some none) (some none)=some (.v (.slice (some ⟨R,o+1,none⟩) (len-1) (len-1))):=by
 have h1:(1:Int)<=len:=by omega
 simp[dz,e9,fx,iZ,dC,aaS,h1,hg,he]
theorem aaU{cs:List DV}{o:Nat}{m:Int}{q:List Int}(h:cs.drop o=zs (m::q)):cs[o]? =some (iV m):=by
 have:=congrArg (λl=>l[0]?) h;simpa using this
theorem aaV{cs:List DV}{o:Nat}{m:Int}{q:List Int}(h:cs.drop o=zs (m::q)):cs.drop (o+1)=zs q:=by
 rw[<-List.drop_drop,h];rfl
theorem aaW(l:List Nat)(c:Nat):(l.map λ_=>c).sum=c*l.length:=by
 induction l with
 |nil=>rfl
 |cons x l ih=>rw[List.map_cons,List.sum_cons,ih,List.length_cons,Nat.mul_succ];omega
theorem Cj(n:Nat)(l:List (Int×Nat)):mu n l<=255*n:=by
 have h1:=HP (List.range n) (λ(i:Nat)=>255-cC l (i:Int)) (λ_=>255) λi _=>Nat.sub_le _ _;rw[aaW,List.length_range]at h1;exact h1
end Go.Sp
end

/- SpacingSuffixes: parts of its proof (Fa6 Fa6v Fa6w). -/
import Derived.Test.YtaheljlbchkpcaaGreatDoorK36
set_option linter.unusedVariables false
set_option linter.unusedSimpArgs false
noncomputable section
open Go Go.aw Go.Proofs
namespace Go.Sp
set_option maxRecDepth 100000
theorem adB(syms:List Sym):∀(k:Nat) (s:Sym),syms[k]? =some s->((syms.map Sym.e).flatten.drop (k*2)).take 2=s.e:=by
 induction syms with
 |nil=>intro k s h;simp at h
 |cons x r ih=>
  intro k s h;cases k with
  |zero=>simp at h;subst h;simp[Sym.e]
  |succ k=>
   have:=ih k s (by simpa using h);rw[List.map_cons,List.flatten_cons,show(k+1)*2=(Sym.e x).length+k*2 by simp[Sym.e];omega,<-List.drop_drop,List.drop_left];exact this
theorem adC(syms:List Sym)(k:Nat)(s:Sym)(h:syms[k]? =some s):fy (some (some 2)) (syms.map Sym.e).flatten (k*2)=some (.agg [bV s.tok,iV s.idx]):=by
 have hl:(syms.map Sym.e).flatten.length=syms.length*2:=by rw[fQ (k:=2) (λx hx=>by obtain⟨y,_,rfl⟩:=List.mem_map.1 hx;rfl),List.length_map]
 have hk:=(List.getElem?_eq_some_iff.1 h).1;simp only[fy];rw[if_pos (by omega)];exact congrArg (λx=>some (DV.agg x)) (adB syms k s h)
set_option maxHeartbeats 2000000 in
theorem adD{K:cF}{dd:List FuncId}{h:ab}{r:Nat}{es:List bA}{clock:Nat}{l:List (Int×Nat)}{syms:List Sym}{c:Nat}(hm:h.get r=some (.map es clock))(hr:r<h.next){R ah:Nat}{wr:Bool}(hR:h.get R=some (.row (syms.map Sym.e).flatten wr ah))(aC:R<h.next)(aE:R≠r)(hl:jz es l)(aI:∀k c,bf l k=some c->c<256)(hc:c<256)(hs:syms.length<=1000)
 (hk:∀N,h.next<=N->K (.agg (aF (gl l c syms)).e) dd (h.up N) [r,R]):aq E true K dd h (95,[.agg (aF c).e,.v (.slice (some ⟨R,0,none⟩) syms.length syms.length),.v (.map (some r))]):=by
 refine vx [r,R] GH rfl Tryz.ntmps95 Tryz.results95 ?_;have aR:=aE.symm;simp only[fh,hm,hR];obtain⟨N,hN⟩:∃N,h.next=N:=⟨_,rfl⟩;rw[hN]at hr aC hk⊢;simp(disch:=omega)[go_sem,Dg.e];obtain⟨I,hI⟩:∃I:Nat->DS->Prop,∀j d,I j d↔∃(k P:Nat),j+k=syms.length/\N+1<P/\d=⟨bQ [(2,.v (.map (some r))),(3,.v (.pointer (some ⟨N,0,none⟩))),(6,.v (.pointer (some ⟨N+1,0,none⟩))),(9,.v (.slice (some ⟨R,0,none⟩) syms.length syms.length)),(10,iV syms.length),(11,iV k)],34,[],cK P [(r,.map es clock),(R,.row (syms.map Sym.e).flatten wr ah),(N,.row (aF (gl l c (syms.take k))).e true 0),(N+1,.row [.v (.slice none 0 0),.v (.int .i64 0)] true 0)]⟩:=⟨_,λ_ _=>Iff.rfl⟩;refine cx I syms.length ⟨_,aA.mk (N:=N+2) ?_ ?_ ?_,(hI _ _).2 ⟨0,N+2,rfl,by omega,rfl⟩⟩ ?_
 . simp(disch:=omega)[go_sem]
 . simp(disch:=omega)[go_sem]
 . simp(disch:=omega)[go_sem,Dg.e,gl]
 . intro j ds ay;obtain⟨k,P,hj,hP,rfl⟩:=(hI _ _).1 ay;clear ay;by_cases aL:k<syms.length
   . have ai:(k:Int)<syms.length:=by omega
     obtain⟨s,hx⟩:∃s,syms[k]? =some s:=⟨_,List.getElem?_eq_getElem aL⟩;have av:=adC syms k s hx;have ad:gl l c (syms.take (k+1))=if s.tok=true\/gl l c (syms.take k)=0 then gl l c (syms.take k)else gl l c (syms.take k)&&&cR l s.idx:=by
      unfold gl;rw[List.take_add_one,hx,Option.toList_some,List.foldl_append,List.foldl_cons,List.foldl_nil]
     have az:=zQ l (syms.take k) c hc;generalize aS:gl l c (syms.take k)=cc at*;have aB:=zP az;by_cases aa:s.tok=true\/cc=0
     . rw[if_pos aa]at ad;have au:∀(st:DS),aA st ⟨bQ [(2,.v (.map (some r))),(3,.v (.pointer (some ⟨N,0,none⟩))),(6,.v (.pointer (some ⟨N+1,0,none⟩))),(9,.v (.slice (some ⟨R,0,none⟩) syms.length syms.length)),(10,iV syms.length),(11,iV (k+1:Nat))],34,[],cK (P+1) [(r,.map es clock),(R,.row (syms.map Sym.e).flatten wr ah),(N,.row (aF cc).e true 0),(N+1,.row [.v (.slice none 0 0),.v (.int .i64 0)] true 0)]⟩->∃j',j'<j/\∃d',aA st d'/\I j' d':=λst hw=>
        ⟨j-1,by omega,_,hw,(hI _ _).2 ⟨k+1,P+1,by omega,by omega,by rw[ad]⟩⟩
       cases ht:s.tok with
       |true=>
        simp(disch:=omega)[go_sem,ai,av,hx,-getElem?_pos,Sym.e,ht,aD];refine au _ (aA.mk ?_ ?_ ?_)
        . simp(disch:=omega)[go_sem]
        . simp(disch:=omega)[go_sem,Sym.e]
        . simp(disch:=omega)[go_sem,Dg.e]
       |false=>
        have hz:cc=0:=by simpa[ht]using aa
        have af:=aB.2 hz;simp(disch:=omega)[go_sem,ai,av,hx,-getElem?_pos,Sym.e,ht,Dg.e,af,aD];refine au _ (aA.mk ?_ ?_ ?_)
        . simp(disch:=omega)[go_sem]
        . simp(disch:=omega)[go_sem,Sym.e]
        . simp(disch:=omega)[go_sem,Dg.e,af]
     . rw[if_neg aa]at ad;have ht:s.tok=false:=by simpa using λh=>aa (.inl h)
       have hz:¬cc=0:=λh=>aa (.inr h);have af:¬(aF cc).root=0:=λh=>hz (aB.1 h);have aM:=vy aI s.idx;have hand:=xG cc (cR l s.idx) az aM;have ao:=rM (aj:=true) (aF (cc&&&cR l s.idx));simp only[Dg.e]at hand ao;simp(disch:=omega)[go_sem,ai,av,hx,-getElem?_pos,Sym.e,ht,Dg.e,af];refine ck [dF 0,ae 0,ae 0,aJ 4,aN 14,aN 31,ae 63,ae 63,aN 255,aN 511] (by kernel_rfl) 0 rfl ?_;simp(disch:=omega)[go_sem,Sym.e,Dg.e];refine xH (es:=es) (clock:=clock) (l:=l) (by simp(disch:=omega)[go_sem]) (by simp(disch:=omega)[go_sem];try omega) hl λM hM=> ?_;simp(disch:=omega)[go_sem]at hM;simp(disch:=omega)[go_sem,Dg.e];refine⟨by omega, ?_⟩;refine aq.mk hand λM2 aO=> ?_;simp(disch:=omega)[go_sem]at aO;simp(disch:=omega)[go_sem];refine aq.mk ao λM3 aQ=> ?_;simp(disch:=omega)[go_sem]at aQ;simp(disch:=omega)[go_sem,aD];refine⟨j-1,by omega,_,aA.mk (N:=M3) ?_ ?_ ?_,(hI _ _).2 ⟨k+1,M3,by omega,by omega,rfl⟩⟩
       . simp(disch:=omega)[go_sem]
       . simp(disch:=omega)[go_sem,Sym.e]
       . simp(disch:=omega)[go_sem,Dg.e,ad]
   . have ai:¬(k:Int)<syms.length:=by omega
     rw[List.take_of_length_le (by omega)];simp(disch:=omega)[go_sem,ai,Dg.e]at hk⊢;exact⟨⟨hm.symm,hR.symm⟩,hk _ (by omega)⟩
end Go.Sp
end
noncomputable section
open Go Go.aw Go.Proofs
namespace Go.Sp
set_option maxRecDepth 100000
abbrev zs(xs:List Int):List DV:=xs.map iV
theorem adE(xs:List Int):(zs xs).all di=true:=by simp[di,dL]
theorem adF(xs:List Int)(k:Nat)(y:Int)(h:xs[k]? =some y):fy (some none) (zs xs) (k*1)=some (iV y):=by
 simp[fy,h]
abbrev xK(p:Nat×List Int):DV:=.v (.slice (some ⟨p.1,0,none⟩) p.2.length p.2.length)
abbrev DK(es:List bA)(l:List (Int×(Nat×List Int))):Prop:=fC tB xK es l
def xL(n N:Int)(l:List (Int×Nat))(q:List Int):Prop:=(∀k c,bf l k=some c->c<256/\n<k/\k<N)/\∀y∈q,∃c,bf l y=some c
def Hid(p:Prop):Prop:=p
theorem aA.bN{t:Tr DV}{n:Nat}{dd:List FuncId}{h:ab}{l:List (Nat×DV)}(ht:nC t l):aA ⟨t,n,dd,h⟩ ⟨bQ l,n,dd,h⟩:=aA.forget rfl (w8 ht.mem) λ_ _ h=>h
theorem adG{h:ab}{R o b ah:Nat}{cs:List DV}{q:List Int}{y:Int}{K:DV×ab×List Nat->Prop}(hg:h.get R=some (.row cs true ah))(he:ah=0\/ah=1)(hc:cs.length=o+q.length)(hd:cs.drop o=zs q)(hb:(q.length+1)*(b+1)<=1073741824)(hR:R<h.next)
 (hk:∀h' T,h'.get h.next=some (.row (zs (q++[y])) true 1)->h'.next=h.next+1->(∀i,i≠R->i<h.next->h'.get i=h.get i)->(∀i∈T,i=R)->K (.v (.slice (some ⟨h.next,0,none⟩) (q.length+1) (q.length+1)),h',T)):aG (eW h (some ⟨R,o,none⟩) q.length q.length 1 b 1 [iV y]) K:=by
 have h1:o+q.length*1<=cs.length:=by omega
 have h2:¬(o+q.length<cs.length):=by omega
 have h3:(cs.drop o).take q.length++[iV y]=zs (q++[y]):=by
  rw[hd,List.take_of_length_le (by simp),zs,zs,List.map_append];rfl
 rcases he with rfl|rfl
 . refine⟨(.v (.slice (some ⟨h.next,0,none⟩) (q.length+1) (q.length+1)),h.new (.row (zs (q++[y])) true 1),[]), ?_,hk _ _ ?_ ?_ (λi hi hn=> ?_) (λi hi=>by cases hi)⟩
   . simp only[eW,hg,Nat.mul_one];rw[if_neg (by omega),if_pos (by omega),if_pos (by omega),if_pos (by simp),h3]
   . rw[ab.dT,if_pos rfl]
   . rw[ab.aZ]
   . rw[ab.dT,if_neg (by omega)]
 . refine⟨(.v (.slice (some ⟨h.next,0,none⟩) (q.length+1) (q.length+1)),(h.set R none).new (.row (zs (q++[y])) true 1),[R]), ?_,hk _ _ ?_ ?_ (λi hi hn=> ?_) (λi hi=>by simpa using hi)⟩
   . simp only[eW,hg,Nat.mul_one];rw[if_neg (by omega),if_pos (by omega),if_pos (by omega),if_neg (by omega),if_pos (by simp[di,dL]),h3]
   . rw[ab.dT,ab.aS,if_pos rfl]
   . rw[ab.aZ,ab.aS]
   . rw[ab.dT,ab.aS,if_neg (by omega),ab.bw,if_neg hi]
set_option maxHeartbeats 8000000 in
theorem Jz{K:cF}{dd:List FuncId}{h:ab}{ST Bs NX Bn RM Br Q Bq:Nat}{aO ay es:List bA}{az aa clk:Nat}{lS:List ((Int×Int)×Nat)}{lN:List (Int×(Nat×List Int))}{l:List (Int×Nat)}{q:List Int}{o ah:Nat}{cs:List DV}{n:Int}{N:Nat}{n0:Int}{c0 B:Nat}{R:Nat}{xs:List Int}
 (o1:ST<Bs) (o2:Bs<NX) (o3:NX<Bn) (o4:Bn<R) (o5:R<RM) (o6:RM<Br) (o7:Br<Q) (o8:Br<Bq) (o9:Q≠Bq) (bI:Q<h.next) (bK:Bq<h.next)
 (g1:h.get ST=some (.map aO az)) (g2:h.get Bs=some (.row [.v (.map (some ST))] true 0)) (g3:h.get NX=some (.map ay aa)) (g4:h.get Bn=some (.row [.v (.map (some NX))] true 0)) (g5:h.get RM=some (.map es clk)) (g6:h.get Br=some (.row [.v (.map (some RM))] true 0))
 (g7:h.get Q=some (.row cs true ah)) (g8:h.get Bq=some (.row [.v (.slice (some ⟨Q,o,none⟩) q.length q.length)] true 0)) (g9:h.get R=some (.row (zs xs) true 1))
 (hS:zT aO lS) (bL:j5 lS) (hN:DK ay lN) (hl:jz es l) (bc:ah=0\/ah=1) (bO:cs.length=o+q.length) (bP:cs.drop o=zs q)
 (hn:0<=n) (b6:n<=n0) (hx:bf lN n0=some (R,xs)) (bR:∀y∈xs,n0<y/\y<N/\∃c,bf lS (n0,y)=some c) (b7:xs.length<=100000) (hv:xL n N l q) (bs:c0<256) (hB:2*mu N l+q.length=B) (b8:B<=10000000)
 (hk:∀h' T aQ bh l' q' Q' o' aC cs',jz aQ l'->xL n N l' q'->2*mu N l'+q'.length<=B->h.next<=h'.next->Br<Q'->Q'≠Bq->Q'<h'.next->(aC=0\/aC=1)->cs'.length=o'+q'.length->cs'.drop o'=zs q'->h'.get RM=some (.map aQ bh)->h'.get Q'=some (.row cs' true aC)->h'.get Bq=some (.row [.v (.slice (some ⟨Q',o',none⟩) q'.length q'.length)] true 0)->
  (∀i,i<h.next->i≠RM->i≠Q->i≠Bq->h'.get i=h.get i)->K (.bg []) dd h' T):
 aq E true K dd h (99,[iV n0,.agg (aF c0).e,.v (.pointer (some ⟨Bn,0,none⟩)),.v (.pointer (some ⟨Br,0,none⟩)),.v (.pointer (some ⟨Bs,0,none⟩)),.v (.pointer (some ⟨Bq,0,none⟩))]):=by
 refine c8.frame [ST,Bs,NX,Bn,R,RM,Br,Q,Bq] (by simp;omega) ?_;obtain⟨M,hM⟩:∃M,h.next=M:=⟨_,rfl⟩;refine im (K:=λv _ bt _=>∀ad:ab,ad.next=bt.next->(∀i,(i∈[ST,Bs,NX,Bn,R,RM,Br,Q,Bq]\/h.next<=i)->ad.get i=bt.get i)->(∀i,i<h.next->i∉[ST,Bs,NX,Bn,R,RM,Br,Q,Bq]->ad.get i=h.get i)->K v dd ad [ST,Bs,NX,Bn,R,RM,Br,Q,Bq]) (dd:=dd) GJ rfl Tryz.ntmps99 Tryz.results99 ?_;simp only[fh,g1,g2,g3,g4,g5,g6,g7,g8,g9];rw[hM]at bI bK⊢;simp(disch:=omega)[go_sem,Dg.e];have h1:=tu kA rN hN n0 false hx;refine⟨_,mi (es:=ay) (clock:=aa) (by simp(disch:=omega)[go_sem]) rfl h1, ?_⟩;simp(disch:=omega)[go_sem];obtain⟨I,hI⟩:∃I:Nat->DS->Prop,∀j d,I j d↔∃(k:Nat) (H:ab) (es:List bA) (clk:Nat) (l:List (Int×Nat)) (q:List Int) (Q' o ah:Nat) (cs:List DV),j+k=xs.length/\M<H.next/\jz es l/\xL n N l q/\2*mu N l+q.length<=B/\Br<Q'/\Q'≠Bq/\Q'≠M/\Hid (Q'=Q\/M<=Q')/\Q'<H.next/\(ah=0\/ah=1)/\cs.length=o+q.length/\cs.drop o=zs q/\
  H.get ST=some (.map aO az)/\H.get Bs=some (.row [.v (.map (some ST))] true 0)/\H.get NX=some (.map ay aa)/\H.get Bn=some (.row [.v (.map (some NX))] true 0)/\H.get R=some (.row (zs xs) true 1)/\H.get RM=some (.map es clk)/\H.get Br=some (.row [.v (.map (some RM))] true 0)/\H.get Bq=some (.row [.v (.slice (some ⟨Q',o,none⟩) q.length q.length)] true 0)/\H.get M=some (.row (aF c0).e true 0)/\H.get Q'=some (.row cs true ah)/\
  d=⟨bQ [(0,iV n0),(3,.v (.pointer (some ⟨Br,0,none⟩))),(4,.v (.pointer (some ⟨Bs,0,none⟩))),(5,.v (.pointer (some ⟨Bq,0,none⟩))),(7,.v (.pointer (some ⟨M,0,none⟩))),(14,.v (.slice (some ⟨R,0,none⟩) xs.length xs.length)),(15,iV xs.length),(16,iV k)],50,[],H⟩:=⟨_,λ_ _=>Iff.rfl⟩
 refine cx I xs.length ⟨_,aA.bN (l:=[(0,iV n0),(3,.v (.pointer (some ⟨Br,0,none⟩))),(4,.v (.pointer (some ⟨Bs,0,none⟩))),(5,.v (.pointer (some ⟨Bq,0,none⟩))),(7,.v (.pointer (some ⟨M,0,none⟩))),(14,.v (.slice (some ⟨R,0,none⟩) xs.length xs.length)),(15,iV xs.length),(16,iV (0:Nat))]) ?_,(hI _ _).2 ⟨0,_,es,clk,l,q,Q,o,ah,cs,rfl, ?_,hl,hv,by omega,by omega,o9,by omega,.inl rfl, ?_,bc,bO,bP, ?_, ?_, ?_, ?_, ?_, ?_, ?_, ?_, ?_, ?_,rfl⟩⟩ ?_
 . simp(disch:=omega)[go_sem,xK]
 . simp(disch:=omega)[go_sem]
 . simp(disch:=omega)[go_sem]
 . simp(disch:=omega)[go_sem]
 . simp(disch:=omega)[go_sem]
 . simp(disch:=omega)[go_sem]
 . simp(disch:=omega)[go_sem]
 . simp(disch:=omega)[go_sem]
 . simp(disch:=omega)[go_sem]
 . simp(disch:=omega)[go_sem]
 . simp(disch:=omega)[go_sem]
 . simp(disch:=omega)[go_sem,Dg.e]
 . simp(disch:=omega)[go_sem]
 . intro j ds aT;obtain⟨k,H,aU,af,l1,q1,Q1,bj,aE,bk,hj,hP,aX,aR,bu,bx,bB,bT,bD,ca,ai,aI,aL,f1,f2,f3,f4,f5,f6,f7,f8,f9,f10,rfl⟩:=(hI _ _).1 aT;clear aT;by_cases bU:k<xs.length
   . have aM:(k:Int)<xs.length:=by omega
     obtain⟨y,hy⟩:∃y,xs[k]? =some y:=⟨_,List.getElem?_eq_getElem bU⟩;obtain⟨cb,cc,cy,bF⟩:=bR y (List.mem_of_getElem? hy);have bW:=adF xs k y hy;have bl:=bL _ _ bF;simp(disch:=omega)[go_sem,aM,bW,hy,-getElem?_pos,f5,f7];refine xH (es:=aU) (clock:=af) (l:=l1) f6 (by omega) aX λM1 cd=> ?_;simp(disch:=omega)[go_sem,Dg.e];refine ck [⟨.read,0,some (0,3),true⟩,aJ 0,aJ 0,ae 0,ae 0,ae 24,aJ 60,aN 126,ae 254,ae 254,aN 1022,aN 2047,ae 4095,ae 4095,aN 16383,cT 0,aN 65535] (by kernel_rfl) 1 rfl ?_;simp(disch:=omega)[go_sem,Dg.e,f2,f9];have aY:=vy (λk c h=>(aR.1 k c h).1) y;have bn:c0&&&cy<256:=Nat.lt_of_le_of_lt Nat.and_le_left bs;obtain⟨go,bG⟩:∃go,cR l1 y=go:=⟨_,rfl⟩;rw[bG]at aY⊢;obtain⟨ga,bX⟩:∃ga,c0&&&cy=ga:=⟨_,rfl⟩;have hand:=xG c0 cy bs bl;rw[bX]at bn hand;have ao:=rM (aj:=true) (aF ga);have bo:=DB go ga aY bn;have bb:=xI aY bn;obtain⟨gn,bH⟩:∃gn,go|||ga=gn:=⟨_,rfl⟩;rw[bH]at bo bb;have au:=rM (aj:=true) (aF gn);have aB:=Ju go gn aY bb;simp only[Dg.e]at hand ao bo au aB;have h2:=tu zS xJ hS (n0,y) false bF;refine⟨_,mi (es:=aO) (clock:=az) (by simp(disch:=omega)[go_sem,f1]) rfl h2, ?_⟩;simp(disch:=omega)[go_sem,Dg.e];refine aq.mk hand λM2 bY=> ?_;simp(disch:=omega)[go_sem]at bY;simp(disch:=omega)[go_sem];refine aq.mk ao λM3 bZ=> ?_;simp(disch:=omega)[go_sem]at bZ;simp(disch:=omega)[go_sem];refine aq.mk bo λM4 b0=> ?_;simp(disch:=omega)[go_sem]at b0;simp(disch:=omega)[go_sem];refine aq.mk au λM5 b1=> ?_;simp(disch:=omega)[go_sem]at b1;simp(disch:=omega)[go_sem];refine aq.mk aB λM6 b2=> ?_;simp(disch:=omega)[go_sem]at b2;by_cases he:go=gn
     . have bq:decide (go=gn)=true:=decide_eq_true he;simp(disch:=omega)[go_sem,bq,aD];refine⟨j-1,by omega,_,aA.bN (l:=[(0,iV n0),(3,.v (.pointer (some ⟨Br,0,none⟩))),(4,.v (.pointer (some ⟨Bs,0,none⟩))),(5,.v (.pointer (some ⟨Bq,0,none⟩))),(7,.v (.pointer (some ⟨M,0,none⟩))),(14,.v (.slice (some ⟨R,0,none⟩) xs.length xs.length)),(15,iV xs.length),(16,iV (k+1:Nat))]) ?_,(hI _ _).2 ⟨k+1,_,aU,af,l1,q1,Q1,bj,aE,bk,by omega, ?_,aX,aR,bu,bx,bB,bT,bD, ?_,ai,aI,aL, ?_, ?_, ?_, ?_, ?_, ?_, ?_, ?_, ?_, ?_,rfl⟩⟩
       all_goals simp(disch:=omega)[go_sem,f1,f2,f3,f4,f5,f6,f7,f8,f9,f10,Dg.e]
       all_goals omega
     . have bq:decide (go=gn)=false:=decide_eq_false he;obtain⟨aQ,av,h8,h9⟩:=qi kA tE aX y af gn;simp(disch:=omega)[go_sem,bq,f7];refine⟨_,tA (es:=aU) (clock:=af) (by simp(disch:=omega)[go_sem,f6]) rfl h8, ?_⟩;simp(disch:=omega)[go_sem,aD,f8];refine adG (cs:=bk) (ah:=aE) (by simp(disch:=omega)[go_sem,f10]) ai aI aL (by omega) (by simp(disch:=omega)[go_sem];try omega) λH2 T2 w1 w2 w3 w4=> ?_;simp(disch:=omega)[go_sem]at w1 w2 w3;have v1:H2.get ST=some (.map aO az):=by rw[w3 ST (by omega) (by omega)];simp(disch:=omega)[go_sem,f1]
       have v2:H2.get Bs=some (.row [.v (.map (some ST))] true 0):=by rw[w3 Bs (by omega) (by omega)];simp(disch:=omega)[go_sem,f2]
       have v3:H2.get NX=some (.map ay aa):=by rw[w3 NX (by omega) (by omega)];simp(disch:=omega)[go_sem,f3]
       have v4:H2.get Bn=some (.row [.v (.map (some NX))] true 0):=by rw[w3 Bn (by omega) (by omega)];simp(disch:=omega)[go_sem,f4]
       have v5:H2.get R=some (.row (zs xs) true 1):=by rw[w3 R (by omega) (by omega)];simp(disch:=omega)[go_sem,f5]
       have v6:H2.get RM=some (.map aQ av):=by rw[w3 RM (by omega) (by omega)];simp(disch:=omega)[go_sem]
       have v7:H2.get Br=some (.row [.v (.map (some RM))] true 0):=by rw[w3 Br (by omega) (by omega)];simp(disch:=omega)[go_sem,f7]
       have v8:H2.get Bq=some (.row [.v (.slice (some ⟨Q1,bj,none⟩) q1.length q1.length)] true 0):=by rw[w3 Bq (by omega) (by omega)];simp(disch:=omega)[go_sem,f8]
       have v9:H2.get M=some (.row (aF c0).e true 0):=by rw[w3 M (by omega) (by omega)];simp(disch:=omega)[go_sem,f9]
       have cg:=Jw (n:=N) (l:=l1) (k:=y) (c:=gn) (by omega) (by omega) bb (by rw[bG];subst bH;exact Jx λh=>he h.symm);have b3:xL n N (Go.aw.put l1 y gn) (q1++[y]):=by
        refine⟨λk c h=> ?_,λz hz=> ?_⟩
        . rw[nq]at h
          split at h
          . rename_i e;subst e;cases h;exact⟨bb,by omega,by omega⟩
          . exact aR.1 k c h
        . rw[nq]
          split
          . exact⟨_,rfl⟩
          . rename_i b5;rcases List.mem_append.1 hz with hz|hz
            . exact aR.2 z hz
            . exact absurd (by simpa using hz) b5
       simp(disch:=omega)[go_sem,aD,v8];refine⟨j-1,by omega,_,aA.bN (l:=[(0,iV n0),(3,.v (.pointer (some ⟨Br,0,none⟩))),(4,.v (.pointer (some ⟨Bs,0,none⟩))),(5,.v (.pointer (some ⟨Bq,0,none⟩))),(7,.v (.pointer (some ⟨M,0,none⟩))),(14,.v (.slice (some ⟨R,0,none⟩) xs.length xs.length)),(15,iV xs.length),(16,iV (k+1:Nat))]) ?_,(hI _ _).2 ⟨k+1,_,aQ,av,_,q1++[y],M6+1,0,1,zs (q1++[y]),by omega, ?_,h9,b3,by simp;omega,by omega,by omega,by omega,.inr (by omega), ?_,.inr rfl,by simp,rfl, ?_, ?_, ?_, ?_, ?_, ?_, ?_, ?_, ?_, ?_,rfl⟩⟩
       all_goals simp(disch:=omega)[go_sem,v1,v2,v3,v4,v5,v6,v7,v8,v9,w1,w2]
       all_goals omega
   . have aM:¬(k:Int)<xs.length:=by omega
     simp(disch:=omega)[go_sem,aM];intro ad ch q2 q3;have hS:∀i,i∈[ST,Bs,NX,Bn,R,RM,Br,Q,Bq]->ad.get i=H.get i:=λi hi=>q2 i (.inl (by simpa using hi));refine hk ad _ aU af l1 q1 Q1 bj aE bk aX aR bu (by omega) bx bB (by omega) ai aI aL ?_ ?_ ?_ λi hi h1 h2 h3=> ?_
     . rw[hS RM (by simp),f6]
     . rcases bD with h|h
       . rw[h]at f10;rw[h,hS Q (by simp),f10]
       . rw[q2 Q1 (.inr h),f10]
     . rw[hS Bq (by simp),f8]
     . by_cases z1:i=ST
       . subst z1;rw[hS i (by simp),f1,g1]
       . by_cases z2:i=Bs
         . subst z2;rw[hS i (by simp),f2,g2]
         . by_cases z3:i=NX
           . subst z3;rw[hS i (by simp),f3,g3]
           . by_cases z4:i=Bn
             . subst z4;rw[hS i (by simp),f4,g4]
             . by_cases z5:i=R
               . subst z5;rw[hS i (by simp),f5,g9]
               . by_cases z6:i=Br
                 . subst z6;rw[hS i (by simp),f7,g6]
                 . exact q3 i (by omega) z1 z2 z3 z4 z5 h1 z6 h2 h3
set_option maxHeartbeats 2000000 in
theorem adH{K:cF}{dd:List FuncId}{h:ab}{Bs NX Bn Br Bq:Nat}{ay:List bA}{aa:Nat}{lN:List (Int×(Nat×List Int))}{n0:Int}{c0:Nat}
 (o3:NX<Bn) (o4:Bn<h.next) (g3:h.get NX=some (.map ay aa)) (g4:h.get Bn=some (.row [.v (.map (some NX))] true 0)) (hN:DK ay lN) (hx:bf lN n0=none)
 (hk:∀P,h.next<=P->K (.bg []) dd (h.up P) [NX,Bn]):
 aq E true K dd h (99,[iV n0,.agg (aF c0).e,.v (.pointer (some ⟨Bn,0,none⟩)),.v (.pointer (some ⟨Br,0,none⟩)),.v (.pointer (some ⟨Bs,0,none⟩)),.v (.pointer (some ⟨Bq,0,none⟩))]):=by
 refine vx [NX,Bn] GJ rfl Tryz.ntmps99 Tryz.results99 ?_;obtain⟨M,hM⟩:∃M,h.next=M:=⟨_,rfl⟩;simp only[fh,g3,g4];rw[hM]at o4 hk⊢;simp(disch:=omega)[go_sem,Dg.e];have h1:=tw kA rN hN n0 false DJ rfl hx;refine⟨_,mi (es:=ay) (clock:=aa) (by simp(disch:=omega)[go_sem]) rfl h1, ?_⟩;simp(disch:=omega)[go_sem,fX];obtain⟨I,hI⟩:∃I:Nat->DS->Prop,∀j d,I j d↔d=⟨bQ [(15,iV 0),(16,iV 0)],50,[],cK (M+1) [(NX,.map ay aa),(Bn,.row [.v (.map (some NX))] true 0)]⟩:=⟨_,λ_ _=>Iff.rfl⟩;refine cx I 0 ⟨_,aA.mk (N:=M+1) ?_ ?_ ?_,(hI _ _).2 rfl⟩ ?_
 . simp(disch:=omega)[go_sem]
 . simp(disch:=omega)[go_sem]
 . simp(disch:=omega)[go_sem]
 . intro j ds aT;cases(hI _ _).1 aT;simp(disch:=omega)[go_sem];exact⟨⟨g3.symm,g4.symm⟩,hk _ (by omega)⟩
end Go.Sp
end
noncomputable section
open Go Go.aw Go.Proofs
namespace Go.aw
theorem adI{κ ν:Type}[DecidableEq κ]{l:List (κ×ν)}{p:κ×ν}(h:p∈l):∃c,bf l p.1=some c:=by
 induction l with
 |nil=>cases h
 |cons x r ih=>
  obtain⟨a,b⟩:=x;simp only[bf]
  split
  . exact⟨_,rfl⟩
  . rename_i ae;rcases List.mem_cons.1 h with rfl|h
    . exact absurd rfl ae
    . exact ih h
theorem adJ{κ ν:Type}[DecidableEq κ]{l:List (κ×ν)}{k:κ}{v:ν}{p:κ×ν}(h:p∈put l k v):p∈l\/p=(k,v):=by
 induction l with
 |nil=>simpa[put]using h
 |cons x r ih=>
  obtain⟨a,b⟩:=x;simp only[put]at h
  split at h
  . rcases List.mem_cons.1 h with h|h
    . exact .inr h
    . exact .inl (List.mem_cons_of_mem _ h)
  . rcases List.mem_cons.1 h with h|h
    . exact .inl (h▸List.mem_cons_self)
    . rcases ih h with h|h
      . exact .inl (List.mem_cons_of_mem _ h)
      . exact .inr h
theorem fC.mem{κ ν:Type}[DecidableEq κ]{kf:κ->Value}{vf:ν->DV}{es:List bA}{l:List (κ×ν)}(h:fC kf vf es l){x:bA}(hx:x∈es):∃p∈l,x.key=kf p.1/\x.val=vf p.2:=by
 have h1:(x.key,x.val)∈es.map λx=>(x.key,x.val):=List.mem_map.2 ⟨x,hx,rfl⟩;rw[h]at h1;obtain⟨p,hp,he⟩:=List.mem_map.1 h1;simp only[Prod.mk.injEq]at he;exact⟨p,hp,he.1.symm,he.2.symm⟩
theorem lM.find{es:List bA}{clock:Nat}(hb:lM es clock){x:bA}(hx:x∈es):es.find? (λy=>y.born==x.born)=some x:=by
 have h:=hb.2;clear hb
 induction es with
 |nil=>cases hx
 |cons y r ih=>
  simp only[List.map_cons,List.nodup_cons]at h;rw[List.find?_cons];rcases List.mem_cons.1 hx with rfl|hx
  . simp
  . have:¬y.born=x.born:=λhe=>h.1 (by rw[he];exact List.mem_map.2 ⟨x,hx,rfl⟩);have hb:(y.born==x.born)=false:=by simpa using this
    rw[hb];exact ih hx h.2
def left(es:List bA)(seen:List Nat):Nat:=(es.filter λx=> !seen.contains x.born).length
theorem JA(es:List bA):left es []=es.length:=congrArg List.length (List.filter_eq_self.2 λx _=>rfl)
theorem JB{α:Type}{p q:α->Bool}(h:∀x,q x=true->p x=true):∀l:List α,(l.filter q).length<=(l.filter p).length
 |[]=>Nat.le_refl _
 |y::r=>by
  have ih:=JB h r;have hy:=h y;cases hq:q y with
  |true=>
   rw[List.filter_cons_of_pos hq,List.filter_cons_of_pos (hy hq)];exact Nat.succ_le_succ ih
  |false=>
   rw[List.filter_cons_of_neg (by simp[hq])];cases hp:p y with
   |true=>rw[List.filter_cons_of_pos hp];exact Nat.le_succ_of_le ih
   |false=>rw[List.filter_cons_of_neg (by simp[hp])];exact ih
theorem JC{α:Type}{p q:α->Bool}(h:∀x,q x=true->p x=true){x:α}(hp:p x=true)(hq:q x=false):∀{l:List α},x∈l->(l.filter q).length<(l.filter p).length
 |y::r,hx=>by
  rcases List.mem_cons.1 hx with rfl|hx
  . rw[List.filter_cons_of_pos hp,List.filter_cons_of_neg (by simp[hq])];exact Nat.lt_succ_of_le (JB h r)
  . have ih:=JC h hp hq hx;have hy:=h y;cases af:q y with
    |true=>
     rw[List.filter_cons_of_pos af,List.filter_cons_of_pos (hy af)];exact Nat.succ_lt_succ ih
    |false=>
     rw[List.filter_cons_of_neg (by simp[af])];cases ao:p y with
     |true=>rw[List.filter_cons_of_pos ao];exact Nat.lt_succ_of_lt ih
     |false=>rw[List.filter_cons_of_neg (by simp[ao])];exact ih
theorem JD{es:List bA}{seen:List Nat}{x:bA}(hx:x∈es)(hs:seen.contains x.born=false):left es (seen++[x.born])<left es seen:=
 JC (λy hy=>by simp at hy⊢;exact hy.1) (by rw[hs];rfl) (by simp) hx
end Go.aw
namespace Go.Sp
set_option maxRecDepth 100000
theorem JE{h:ab}{ty a b:TypeId}{m:Nat}{es:List bA}{clock:Nat}(hu:E.under ty=some (.map a b))(hm:h.get m=some (.map es clock)):mb E h ty (.v (.map (some m)))=some (.cD (some m) clock [] clock):=by
 simp only[mb,hu,hm]
theorem JF{h:ab}{r m since clock:Nat}{seen:List Nat}{es:List bA}{x:bA}(hr:h.get r=some (.cD (some m) since (seen++[x.born]) clock))(hm:h.get m=some (.map es clock))(hb:lM es clock)(hx:x∈es):uL h (.v (.pointer (some ⟨r,0,none⟩)))=some (.bg [fX x.key,x.val]):=by
 simp[uL,hr,hm,hb.find hx]
def nO(H:ab)(lo:Nat)(n:Int)(lS:List ((Int×Int)×Nat))(b:Nat)(lN:List (Int×(Nat×List Int))):Prop:=
 (∀k R xs,bf lN k=some (R,xs)->lo<R/\R<H.next/\H.get R=some (.row (zs xs) true 1)/\0<=k/\k<n/\xs≠[]/\xs.length<=b/\∀y∈xs,k<y/\y<n/\∃c,bf lS (k,y)=some c)/\
 ∀k k' R xs au,bf lN k=some (R,xs)->bf lN k'=some (R,au)->k=k'
theorem nO.nil(H:ab)(lo:Nat)(n:Int)(lS:List ((Int×Int)×Nat))(b:Nat):nO H lo n lS b []:=⟨λk R xs h=>by simp[bf]at h,λk k' R xs au h=>by simp[bf]at h⟩
theorem nO.put{H H':ab}{lo:Nat}{n:Int}{lS:List ((Int×Int)×Nat)}{b:Nat}{lN:List (Int×(Nat×List Int))}(h:nO H lo n lS b lN){k y:Int}{c R':Nat}{xs:List Int}(hk:0<=k)(hy:k<y)(ay:y<n)(hc:bf lS (k,y)=some c)
 (az:(bf lN k=none/\xs=[])\/∃R,bf lN k=some (R,xs)) (aC:H.next<=R') (aB:R'<H'.next) (hg:H'.get R'=some (.row (zs (xs++[y])) true 1)) (aa:∀R,lo<R->R<H.next->(∀xs,bf lN k≠some (R,xs))->H'.get R=H.get R) (aD:lo<H.next):nO H' lo n lS (b+1) (Go.aw.put lN k (R',xs++[y])):=by
 have hold:xs.length<=b/\∀y∈xs,k<y/\y<n/\∃c,bf lS (k,y)=some c:=by
  rcases az with⟨_,rfl⟩|⟨R,h1⟩
  . exact⟨Nat.zero_le _,λy hy=>by cases hy⟩
  . obtain⟨_,_,_,_,_,_,q1,q2⟩:=h.1 k R xs h1;exact⟨q1,q2⟩
 refine⟨λk2 R2 ad h2=> ?_,λk2 k3 R2 ad ai h2 h3=> ?_⟩
 . rw[nq]at h2
   split at h2
   . rename_i he;subst he;cases h2;refine⟨by omega,aB,hg,hk,by omega,by simp,by simp;omega,λz hz=> ?_⟩;rcases List.mem_append.1 hz with hz|hz
     . exact hold.2 z hz
     . simp only[List.mem_singleton]at hz;subst hz;exact⟨hy,ay,c,hc⟩
   . rename_i ae;obtain⟨q1,q2,q3,q4,q5,q6,q7,q8⟩:=h.1 k2 R2 ad h2;refine⟨q1,by omega, ?_,q4,q5,q6,by omega,q8⟩;rw[aa R2 q1 q2 λai h3=>ae (h.2 k2 k R2 ad ai h2 h3),q3]
 . have av:∀k R xs,bf lN k=some (R,xs)->R<H.next:=λk R xs h4=>(h.1 k R xs h4).2.1;rw[nq]at h2 h3
   split at h2
   . split at h3
     . rename_i e1 e2;rw[e1,e2]
     . cases h2;have:=av _ _ _ h3;omega
   . split at h3
     . cases h3;have:=av _ _ _ h2;omega
     . exact h.2 k2 k3 R2 ad ai h2 h3
theorem nO.same{H H':ab}{lo:Nat}{n:Int}{lS:List ((Int×Int)×Nat)}{b:Nat}{lN:List (Int×(Nat×List Int))}(h:nO H lo n lS b lN)(hs:∀R,lo<R->R<H.next->H'.get R=H.get R)(hn:H.next<=H'.next):nO H' lo n lS b lN:=
 ⟨λk R xs h1=>by
  obtain⟨q1,q2,q3,q4,q5,q6,q7,q8⟩:=h.1 k R xs h1;exact⟨q1,by omega,by rw[hs R q1 q2,q3],q4,q5,q6,q7,q8⟩,h.2⟩
theorem adK:E.elem 105=some 1:=by kernel_rfl
theorem adL{h:ab}{R o len ah:Nat}{cs:List DV}(hg:h.get R=some (.row cs true ah))(he:ah=0\/ah=1)(hl:0<len):dX E h 105 (some (.v (.slice (some ⟨R,o,none⟩) len len))) (some (some (iV 1))) (some none) (some none)=some (.v (.slice (some ⟨R,o+1,none⟩) (len-1) (len-1))):=by
 have h1:(1:Int)<=len:=by omega
 simp[dX,fZ,gr,kl,dW,adK,h1,hg,he]
theorem adM{cs:List DV}{o:Nat}{m:Int}{q:List Int}(h:cs.drop o=zs (m::q)):cs[o]? =some (iV m):=by
 have:=congrArg (λl=>l[0]?) h;simpa using this
theorem adN{cs:List DV}{o:Nat}{m:Int}{q:List Int}(h:cs.drop o=zs (m::q)):cs.drop (o+1)=zs q:=by
 rw[<-List.drop_drop,h];rfl
theorem adO(l:List Nat)(c:Nat):(l.map λ_=>c).sum=c*l.length:=by
 induction l with
 |nil=>rfl
 |cons x l ih=>rw[List.map_cons,List.sum_cons,ih,List.length_cons,Nat.mul_succ];omega
theorem DL(n:Nat)(l:List (Int×Nat)):mu n l<=255*n:=by
 have h1:=Jv (List.range n) (λ(i:Nat)=>255-cR l (i:Int)) (λ_=>255) λi _=>Nat.sub_le _ _;rw[adO,List.length_range]at h1;exact h1
end Go.Sp
end

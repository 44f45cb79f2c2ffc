/- SpacingIndependent: parts of its proof. -/
import Derived.Test.YtmhjnafgdhaemaaGreatDoorK45
open Iff renaming rfl->qe
open List renaming mem_of_getElem?->xS,getElem?_eq_getElem->Er,mem_map->GP,length_take->PO,mem_append->PX,length_map->Qc,length_append->TF,length_drop->VK,getElem?_eq_some_iff->W2
open Nat renaming le_refl->DE,lt_of_le_of_lt->W9,and_le_left->Xw
set_option linter.all false
set_option maxRecDepth 100000
noncomputable section
open Go Go.au Go.Proofs
namespace Go.Sp
theorem ax.H8{t:Tr DV}{n N:Nat}{dd:List FuncId}{h:ab}{l:List (Nat×DV)}{r:List (Nat×bx)}(F:List Nat)(hF:∀i∈F,(h.get i).isSome=true)(hN:h.next=N){i:Nat}{v d:DV}(hi:t.get i=some v)(hz:Fz (rowsOf h F) v d)(ht:jM t l)(hh:oL h r)(hr:∀p∈r,p.1∉F):ax ⟨t,n,dd,h⟩ ⟨bz ((i,d)::l),n,dd,cw N r⟩:=by
 refine ax.of F hF (by rw[u7,hN]) (λj w hw=> ?_) λj o ho=> ?_
 . rw[AK]at hw
   split at hw
   . rename_i he;subst he;cases hw;exact⟨v,hi,hz⟩
   . exact⟨w,vb ht.mem j w hw,.refl w⟩
 . have h1:=AL hh.mem j o ho;refine⟨λhj=> ?_,.inl h1⟩;have:∀{r:List (Nat×bx)},(∀p∈r,p.1∉F)->(cw N r).get j=none:=by
    intro r
    induction r with
    |nil=>intro _;rw[xH]
    |cons x r ih=>
     intro hr;rw[u6]
     split
     . rename_i he;subst he;exact absurd hj (hr x (by simp))
     . exact ih λp hp=>hr p (List.mem_cons_of_mem _ hp)
   rw[this hr]at ho;cases ho
def yr(a:An)(NU:Int->Prop):Prop:=∀p∈a.g.ak,∀(k:Nat) (s:Sym),p.right[k]? =some s->s.tok=false->(∀(i:Nat) (s':Sym),i≠k->p.right[i]? =some s'->s'.tok=false/\NU s'.idx)->p.left<s.idx/\s.idx<a.g.aH.length
theorem aaX{α:Type}(l:List α)(m i:Nat)(x:α)(h:l[i]? =some x)(hi:i≠m):x∈l.take m++l.drop (m+1):=by
 rw[PX];rcases Nat.lt_or_ge i m with h1|h1
 . exact .inl (xS (i:=i) (by rw[List.getElem?_take,if_pos h1,h]))
 . exact .inr (xS (i:=i-(m+1)) (by rw[List.getElem?_drop,show m+1+(i-(m+1))=i by omega,h]))
def tM(n:Int)(l:List ((Int×Int)×Nat)):Prop:=∀x c,bc l x=some c->0<=x.1/\x.1<x.2/\x.2<n
theorem tM.put{n:Int}{l:List ((Int×Int)×Nat)}(h:tM n l){x:Int×Int}{c:Nat}(hx:0<=x.1/\x.1<x.2/\x.2<n):tM n (Go.au.put l x c):=λy d hd=>by
 rw[mq]at hd
 split at hd
 . rename_i he;rw[he];exact hx
 . exact h y d hd
theorem yu{h:ab}{R len sz b n ah:Nat}{cs new:List DV}{K:DV×ab×List Nat->Prop}(hg:h.get R=some (.row cs true ah))(he:ah=0\/ah=sz)(hc:cs.length=len*sz)(hs:0<sz)(hn:new.length=n*sz)(h1:new.all cO=true)(hb:(len+n)*(b+1)<=1073741824)(hR:R<h.next)
 (hk:∀R' h' T bk,(bk=0\/bk=sz)->h'.get R'=some (.row (cs++new) true bk)->(R'=R\/h.next<=R')->R'<h'.next->h.next<=h'.next->(∀i,i≠R->i<h.next->h'.get i=h.get i)->(∀i∈T,i=R)->K (.v (.slice (some ⟨R',0,none⟩) (len+n) (len+n)),h',T)):aG (eo h (some ⟨R,0,none⟩) len len sz b n new) K:=by
 rcases Nat.eq_zero_or_pos n with rfl|bF
 . have:new=[]:=List.eq_nil_of_length_eq_zero (by omega);subst this;refine⟨(.v (.slice (some ⟨R,0,none⟩) (len+0) len),h,[]),by simp[eo], ?_⟩;have:=hk R h [] ah he (by simpa using hg) (.inl rfl) hR (DE _) (λi _ _=>rfl) (λi hi=>by cases hi);simpa using this
 . rcases he with rfl|rfl
   . refine⟨_,E5 h R len sz b n cs new true hg hc bF hb,hk h.next _ [] sz (.inr rfl) ?_ (.inr (DE _)) (by rw[ab.aX];omega) (by rw[ab.aX];omega) (λi _ hi=> ?_) (λi hi=>by cases hi)⟩
     . rw[ab.di,if_pos rfl]
     . rw[ab.di,if_neg (by omega)]
   . refine⟨_,uR h R len ah b n cs new hg hc hs bF h1 hb,hk h.next _ [R] ah (.inr rfl) ?_ (.inr (DE _)) (by rw[ab.aX,ab.aR];omega) (by rw[ab.aX,ab.aR];omega) (λi dr hi=> ?_) (λi hi=>by simpa using hi)⟩
     . rw[ab.di,ab.aR,if_pos rfl]
     . rw[ab.di,ab.aR,if_neg (by omega),ab.bn,if_neg dr]
theorem H9(l:List Sym):((l.map Sym.e).flatten).all cO=true:=by
 simp only[List.all_eq_true,List.mem_flatten,GP];rintro x ⟨_,⟨s,_,rfl⟩,hx⟩;simp only[Sym.e,List.mem_cons,List.not_mem_nil,or_false]at hx;rcases hx with rfl|rfl<;>rfl
theorem Ck(l:List Sym):((l.map Sym.e).flatten).length=l.length*2:=by
 rw[eW (k:=2) (λx hx=>by obtain⟨y,_,rfl⟩:=GP.1 hx;rfl),Qc]
theorem Ia:E.elem 77=some 2:=by kernel_rfl
theorem aaY{h:ab}(xs:List (List DV))(m:Nat)(hm:m<=xs.length):dz E h 77 (some (.sl 2 xs)) (some none) (some (some (iV m))) (some none)=some (.sl 2 (xs.take m)):=by
 have h1:(m:Int)<=xs.length:=by omega
 simp[dz,e9,fx,iZ,dC,Ia,h1,hm]
theorem aaZ{h:ab}(xs:List (List DV))(m:Nat)(hm:m<=xs.length):dz E h 77 (some (.sl 2 xs)) (some (some (iV m))) (some none) (some none)=some (.sl 2 (xs.drop m)):=by
 have h1:(m:Int)<=xs.length:=by omega
 simp[dz,e9,fx,iZ,dC,Ia,h1,hm];exact List.take_of_length_le (by simp)
theorem aa0{h:ab}(xs:List (List DV))(m:Nat)(hm:m+1<=xs.length):dz E h 77 (some (.sl 2 xs)) (some (some (.v (.int .i64 ((m:Int)+1))))) (some none) (some none)=some (.sl 2 (xs.drop (m+1))):=aaZ xs (m+1) hm
theorem aa1{κ:Type}[DecidableEq κ]{l:List (κ×Nat)}(hl:ju l)(k:κ):cC l k<256:=by
 unfold cC;cases h:bc l k with
 |none=>simp
 |some c=>simpa using hl k c h
theorem aa2{e:Env}{ty:TypeId}{k:Value}{d:DV}{es aT:List bq}{clock ad:Nat}(hu:kg e ty k d es clock=some (.map aT ad)):aT.length<=es.length+1:=by
 unfold kg at hu
 split at hu
 . split at hu
   . cases hu
   . split at hu
     . split at hu
       . cases hu
       . split at hu
         . cases hu;rw[List.length_modify];omega
         . cases hu
       . cases hu;rw[TF];exact DE _
     . cases hu
 . cases hu
theorem aa3(n:Int):tM n []:=λx c h=>by cases h
set_option maxHeartbeats 8000000 in
theorem aa4{K:ck}{dd:List FuncId}{h:ab}(a:An)(ha:a.Ok)(NU:Int->Prop)(dt:rY a NU)(hE:yr a NU)(b9:∃c,a.g.family=aF c/\c<256)
 (hk:∀h' T R es clock lo,iK es lo->(∀p∈lo,p.2=0)->kP es clock->h.next<=R->R<h'.next->h'.get R=some (.map es clock)->(∀i,i<h.next->h'.get i=h.get i)->K (.v (.map (some R))) dd h' T):
 an E false K dd h (61,[.ptr a.e 0]):=by
 refine cJ.frame [] (by simp) ?_;obtain⟨N,hN⟩:∃N,h.next=N:=⟨_,rfl⟩;refine gD (K:=λv _ cG _=>∀aB:ab,aB.next=cG.next->(∀i,(i∈[]\/h.next<=i)->aB.get i=cG.get i)->(∀i,i<h.next->i∉[]->aB.get i=h.get i)->K v dd aB []) (dd:=dd) Tryz.ntmps61 Tryz.results61 ?_;simp only[eG];rw[hN];have eL:=ha.ak;simp(disch:=omega)[go_sem];refine an.any (aaD a ha NU dt λh1 T M bG aI lE du ca cb dv dw dx _=> ?_);simp only[ab.Ex]at dv;obtain⟨N1,cc⟩:∃N1,h1.next=N1:=⟨_,rfl⟩;rw[cc]at dw;simp(disch:=omega)[go_sem,cc,An.e,ai.e];obtain⟨I,hI⟩:∃I:Nat->DS->Prop,∀j d,I j d↔∃(k P:Nat) (es:List bq) (clock:Nat) (l:List ((Int×Int)×Nat)),j+k=a.g.ak.length/\N1+1<P/\yq es l/\ju l/\tM a.g.aH.length l/\kP es clock/\es.length<=16*k/\
  d=⟨bz [(0,.ptr a.e 0),(3,.v (.map (some M))),(4,.v (.pointer (some ⟨N1+1,0,none⟩))),(29,.sl 13 (a.g.ak.map aQ.e)),(30,iV a.g.ak.length),(31,iV k)],166,[],cw P [(M,.map bG aI),(N1,.map es clock),(N1+1,.row [.v (.map (some N1))] true 0)]⟩:=⟨_,λ_ _=>qe⟩
 refine bO I a.g.ak.length ⟨_,ax.mk (N:=N1+2) ?_ ?_ ?_,(hI _ _).2 ⟨0,N1+2,[],0,[],rfl,by omega,rfl,HT,aa3 _,kP.nil 0,by simp,rfl⟩⟩ ?_
 . simp(disch:=omega)[go_sem,cc]
 . simp(disch:=omega)[go_sem,An.e,ai.e]
 . simp(disch:=omega)[go_sem,dx]
 . intro j ds cI;obtain⟨k,P,aw,aa,l1,hj,hP,b1,bl,bm,b2,dA,rfl⟩:=(hI _ _).1 cI;clear cI;by_cases cK:k<a.g.ak.length
   . have bo:(k:Int)<a.g.ak.length:=by omega
     obtain⟨p,hx⟩:∃p,a.g.ak[k]? =some p:=⟨_,Er cK⟩;have cd:=xS hx;obtain⟨c,hc⟩:∃c,a.dg[k]? =some c:=⟨_,Er (by rw[ha.len];exact cK)⟩;have cM:=ha.lt c (xS hc);have bI:=ha.left p cd;have eM:=ha.right p cd;simp(disch:=omega)[go_sem,bo,hx,-getElem?_pos,aQ.e];obtain⟨J,hJ⟩:∃J:Nat->DS->Prop,∀j d,J j d↔∃(m P2:Nat) (es:List bq) (clock:Nat) (l:List ((Int×Int)×Nat)),j+m=p.right.length/\P<P2/\yq es l/\ju l/\tM a.g.aH.length l/\kP es clock/\es.length<=16*k+m/\
      d=⟨bz [(0,.ptr a.e 0),(3,.v (.map (some M))),(4,.v (.pointer (some ⟨N1+1,0,none⟩))),(29,.sl 13 (a.g.ak.map aQ.e)),(30,iV a.g.ak.length),(31,iV k),(5,iV k),(6,.v (.pointer (some ⟨P,0,none⟩))),(37,.sl 2 (p.right.map Sym.e)),(38,iV p.right.length),(39,iV m)],166,[],cw P2 [(M,.map bG aI),(N1,.map es clock),(N1+1,.row [.v (.map (some N1))] true 0),(P,.row p.e true 0)]⟩:=⟨_,λ_ _=>qe⟩
     refine bO J p.right.length ⟨_,ax.mk (N:=P+1) ?_ ?_ ?_,(hJ _ _).2 ⟨0,P+1,aw,aa,l1,rfl,by omega,b1,bl,bm,b2,by omega,rfl⟩⟩ ?_
     . simp(disch:=omega)[go_sem]
     . simp(disch:=omega)[go_sem,aQ.e]
     . simp(disch:=omega)[go_sem,aQ.e]
     . intro j2 dB bJ;obtain⟨m,P2,bp,ao,l2,dG,eN,bL,aK,aU,b3,dH,rfl⟩:=(hJ _ _).1 bJ;clear bJ;by_cases dI:m<p.right.length
       . have aW:(m:Int)<p.right.length:=by omega
         obtain⟨s,hs⟩:∃s,p.right[m]? =some s:=⟨_,Er dI⟩;cases ht:s.tok with
         |true=>
          simp(disch:=omega)[go_sem,aW,hs,-getElem?_pos,Sym.e,ht,aC];refine⟨j2-1,by omega,_,ax.mk (N:=P2+1) ?_ ?_ ?_,(hJ _ _).2 ⟨m+1,P2+1,bp,ao,l2,by omega,by omega,bL,aK,aU,b3,by omega,rfl⟩⟩
          . simp(disch:=omega)[go_sem]
          . simp(disch:=omega)[go_sem,Sym.e]
          . simp(disch:=omega)[go_sem]
         |false=>
          simp(disch:=omega)[go_sem,aW,hs,-getElem?_pos,Sym.e,ht,aC];refine bR [cE 0,ae 0,aD 2,ae 0,aD 14,aN 31,kj 0,dc 64,kj 0,kj 256,dc 960,aN 2047,ae 4095] (by kernel_rfl) 1 rfl ?_;simp(disch:=omega)[go_sem,aQ.e,aC];refine⟨_,aaY _ m (by simp;omega), ?_⟩;simp(disch:=omega)[go_sem,aQ.e,aC];rw[<-List.map_take];refine yu (cs:=[]) (ah:=0) (by simp(disch:=omega)[go_sem]) (.inl rfl) rfl (by omega) (by rw[Ck,PO];omega) (H9 _) (by omega) (by simp(disch:=omega)[go_sem];try omega) λR1 h2 T1 z1 q1 q2 q3 q4 q5 q6 q7=> ?_;simp(disch:=omega)[go_sem]at q3 q4 q5 q6;simp(disch:=omega)[go_sem,aQ.e,aC,q6];refine⟨λh=>by have:=q7 P h;omega, ?_⟩;refine⟨_,aa0 _ m (by simp;omega), ?_⟩;simp(disch:=omega)[go_sem,aQ.e,aC];rw[<-List.map_drop];have bb:((p.right.take m).map Sym.e).flatten.length=m*2:=by rw[Ck,PO];omega
          have bd:((p.right.drop (m+1)).map Sym.e).flatten.length=(p.right.length-(m+1))*2:=by rw[Ck,VK]
          refine yu (cs:=((p.right.take m).map Sym.e).flatten) (ah:=z1) (by simpa using q2) q1 bb (by omega) bd (H9 _) (by omega) q4 λR2 h3 T2 z2 w1 w2 w3 w4 w5 w6 w7=> ?_;have cP:h3.get M=some (.map bG aI):=by rw[w6 M (by omega) (by omega),q6 M (by omega) (by omega)];simp(disch:=omega)[go_sem]
          have dL:h3.get N1=some (.map bp ao):=by rw[w6 N1 (by omega) (by omega),q6 N1 (by omega) (by omega)];simp(disch:=omega)[go_sem]
          have dM:h3.get (N1+1)=some (.row [.v (.map (some N1))] true 0):=by rw[w6 (N1+1) (by omega) (by omega),q6 (N1+1) (by omega) (by omega)];simp(disch:=omega)[go_sem]
          have cQ:h3.get P=some (.row p.e true 0):=by rw[w6 P (by omega) (by omega),q6 P (by omega) (by omega)];simp(disch:=omega)[go_sem,aQ.e]
          have dN:h3.get P2=some (.row [bV false,iV s.idx] true 0):=by rw[w6 P2 (by omega) (by omega),q6 P2 (by omega) (by omega)];simp(disch:=omega)[go_sem]
          obtain⟨rest,aL⟩:∃rest,p.right.take m++p.right.drop (m+1)=rest:=⟨_,rfl⟩;obtain⟨L,hL⟩:∃L,m+(p.right.length-(m+1))=L:=⟨_,rfl⟩;have cg:rest.length=L:=by rw[<-aL,TF,PO,VK];omega
          have ch:h3.get R2=some (.row (rest.map Sym.e).flatten true z2):=by rw[w2,<-aL,List.map_append,List.flatten_append]
          rw[hL];clear w2 bb bd;subst cg;simp(disch:=omega)[go_sem,aQ.e,aC,An.e,ai.e,hc,-getElem?_pos,Dg.e];refine an.any (aaL (es:=bG) (clock:=aI) (l:=lE) (R:=R2) (ah:=z2) (wr:=true) (syms:=rest) (c:=c) cP (by omega) ch (by omega) (by omega) du ca cM (by omega) λN4 eO=> ?_);have cR:=yn lE rest c cM;obtain⟨c4,bM⟩:∃c4,fE lE c rest=c4:=⟨_,rfl⟩;rw[bM]at cR⊢;simp(disch:=omega)[go_sem,Dg.e];obtain⟨Q,hQ⟩:∃Q:Nat->DS->Prop,∀j d,Q j d↔∃(q P3 c5:Nat),j+q=rest.length/\N4<P3/\c5<256/\(c5≠0->c5=c4/\∀(i:Nat) (s:Sym),i<q->rest[i]? =some s->s.tok=false)/\
           d=⟨bz [(68,.sl 2 (rest.map Sym.e)),(0,.ptr a.e 0),(3,.v (.map (some M))),(4,.v (.pointer (some ⟨N1+1,0,none⟩))),(29,.sl 13 (a.g.ak.map aQ.e)),(30,iV a.g.ak.length),(31,iV k),(5,iV k),(6,.v (.pointer (some ⟨P,0,none⟩))),(37,.sl 2 (p.right.map Sym.e)),(38,iV p.right.length),(39,iV m),(8,.v (.pointer (some ⟨P2,0,none⟩))),(10,.v (.pointer (some ⟨N4,0,none⟩))),(69,iV rest.length),(70,iV q)],166,[],cw P3 [(M,.map bG aI),(N1,.map bp ao),(N1+1,.row [.v (.map (some N1))] true 0),(P,.row p.e true 0),(P2,.row s.e true 0),(N4,.row (aF c5).e true 0)]⟩:=⟨_,λ_ _=>qe⟩
          refine bO Q rest.length ⟨_,ax.H8 (N:=N4+1) [R2] ?_ ?_ (by simp(disch:=omega)[go_sem];rfl) ?_ ?_ ?_ ?_,(hQ _ _).2 ⟨0,N4+1,c4,rfl,by omega,cR,λ_=>⟨rfl,λi s hi=>by omega⟩,rfl⟩⟩ ?_
          . simp(disch:=omega)[go_sem,ch]
          . simp(disch:=omega)[go_sem]
          . exact dU (ah:=z2) (gr (by simp) (by simp(disch:=omega)[go_sem,ch];rfl)) (by omega) (by omega) (by simp) (by simp) (λx h=>by obtain⟨y,_,rfl⟩:=GP.1 h;rfl)
          . simp(disch:=omega)[go_sem,An.e,ai.e,Dg.e]
          . simp(disch:=omega)[go_sem,cP,dL,dM,cQ,dN,aQ.e,Sym.e,ht,Dg.e]
          . simp;omega
          . intro j3 dO bN;obtain⟨q,P3,c5,dP,cQ,bB,bs,rfl⟩:=(hQ _ _).1 bN;clear bN;by_cases dQ:q<rest.length
            . have aM:(q:Int)<rest.length:=by omega
              obtain⟨u,hu⟩:∃u,rest[q]? =some u:=⟨_,Er dQ⟩;cases cl:u.tok with
              |true=>
               simp(disch:=omega)[go_sem,aM,hu,-getElem?_pos,Sym.e,cl,aC];refine an.mk (Ce false) λM5 dR=> ?_;simp(disch:=omega)[go_sem]at dR;simp(disch:=omega)[go_sem,Dg.e,aC];refine⟨j3-1,by omega,_,ax.mk (N:=M5) ?_ ?_ ?_,(hQ _ _).2 ⟨q+1,M5,0,by omega,by omega,by omega,λh=>absurd rfl h,rfl⟩⟩
               . simp(disch:=omega)[go_sem]
               . simp(disch:=omega)[go_sem]
               . simp(disch:=omega)[go_sem,Dg.e,Sym.e];exact⟨rfl,rfl⟩
              |false=>
               simp(disch:=omega)[go_sem,aM,hu,-getElem?_pos,Sym.e,cl,aC];refine⟨j3-1,by omega,_,ax.mk (N:=P3+1) ?_ ?_ ?_,(hQ _ _).2 ⟨q+1,P3+1,c5,by omega,by omega,bB,λh=>⟨(bs h).1,λi s' hi bP=> ?_⟩,rfl⟩⟩
               . simp(disch:=omega)[go_sem]
               . simp(disch:=omega)[go_sem]
               . simp(disch:=omega)[go_sem,Sym.e]
               . rcases Nat.lt_or_ge i q with h1|h1
                 . exact(bs h).2 i s' h1 bP
                 . have:i=q:=by omega
                   subst this;rw[hu]at bP;cases bP;exact cl
            . have aM:¬(q:Int)<rest.length:=by omega
              have cT:=ym bB;by_cases hz:c5=0
              . have aP:=cT.2 hz;simp(disch:=omega)[go_sem,aM,Dg.e,aP,aC];refine⟨j2-1,by omega,_,ax.mk (N:=P3) ?_ ?_ ?_,(hJ _ _).2 ⟨m+1,P3,bp,ao,l2,by omega,by omega,bL,aK,aU,b3,by omega,rfl⟩⟩
                . simp(disch:=omega)[go_sem]
                . simp(disch:=omega)[go_sem]
                . simp(disch:=omega)[go_sem]
              . have aP:¬(aF c5).root=0:=λh=>hz (cT.1 h);obtain⟨cm,dS⟩:=bs hz;have dT:=Cg lE rest c (by rw[bM,<-cm];exact hz);have cU:=hE p cd m s hs ht λi s' hi bP=>by
                 have cW:s'∈rest:=by rw[<-aL];exact aaX _ _ _ _ bP hi
                 obtain⟨i2,dE⟩:=List.getElem?_of_mem cW;have cX:=dS i2 s' (by have:=(W2.1 dE).1;omega) dE;exact⟨cX,cb _ (dT.2 s' cW cX)⟩
                have cY:=aa1 aK (p.left,s.idx);have cZ:=Ca (cC l2 (p.left,s.idx)) c5 cY bB;have bf:=qn (aj:=true) (aF (cC l2 (p.left,s.idx)|||c5));simp only[Dg.e]at cZ bf;simp(disch:=omega)[go_sem,aM,Dg.e,aP,aC,aQ.e,Sym.e];refine bR [⟨.read,0,some (0,4),true⟩,⟨.read,0,some (0,4),true⟩,aD 0,aD 0,aN 12,dc 0,aN 60,ae 124,ae 124,aN 508,aN 1023] (by kernel_rfl) 0 rfl ?_;simp(disch:=omega)[go_sem,aQ.e,Sym.e,aC];refine⟨by omega, ?_⟩;refine aaI (es:=bp) (clock:=ao) (l:=l2) (by simp(disch:=omega)[go_sem]) (by simp(disch:=omega)[go_sem];try omega) bL λM6 dV=> ?_;simp(disch:=omega)[go_sem]at dV;simp(disch:=omega)[go_sem,Dg.e];refine⟨by omega,by omega, ?_⟩;refine an.mk cZ λM7 dW=> ?_;simp(disch:=omega)[go_sem]at dW;simp(disch:=omega)[go_sem];refine an.mk bf λM8 dX=> ?_;simp(disch:=omega)[go_sem]at dX;obtain⟨aT,ad,h8,h9⟩:=oW yp vI bL (p.left,s.idx) ao (cC l2 (p.left,s.idx)|||c5);simp(disch:=omega)[go_sem];refine⟨_,rT (es:=bp) (clock:=ao) (by simp(disch:=omega)[go_sem]) rfl h8, ?_⟩;simp(disch:=omega)[go_sem,aC];refine⟨j2-1,by omega,_,ax.mk (N:=M8) ?_ ?_ ?_,(hJ _ _).2 ⟨m+1,M8,aT,ad,_,by omega,by omega,h9,aK.put (vH cY bB),aU.put ⟨bI.1,cU.1,cU.2⟩,b3.up h8,by have:=aa2 h8;omega,rfl⟩⟩
                . simp(disch:=omega)[go_sem]
                . simp(disch:=omega)[go_sem]
                . simp(disch:=omega)[go_sem,aQ.e]
       . have aW:¬(m:Int)<p.right.length:=by omega
         simp(disch:=omega)[go_sem,aW,aC];refine⟨j-1,by omega,_,ax.mk (N:=P2) ?_ ?_ ?_,(hI _ _).2 ⟨k+1,P2,bp,ao,l2,by omega,by omega,bL,aK,aU,b3,by omega,rfl⟩⟩
         . simp(disch:=omega)[go_sem]
         . simp(disch:=omega)[go_sem]
         . simp(disch:=omega)[go_sem]
   . have bo:¬(k:Int)<a.g.ak.length:=by omega
     simp(disch:=omega)[go_sem,bo];refine⟨_,HZ (es:=aw) (clock:=aa) vI (by simp(disch:=omega)[go_sem]), ?_⟩;simp(disch:=omega)[go_sem];obtain⟨n,hn⟩:∃n,a.g.aH.length=n:=⟨_,rfl⟩;have dY:=ha.aH;rw[hn]at bm dY;obtain⟨J,hJ⟩:∃J:Nat->DS->Prop,∀j d,J j d↔∃(seen:List Nat) (aE:List bq) (av:Nat) (lN:List (Int×(Nat×List Int))) (b:Nat) (H:ab),j=left aw seen/\j+b<=aw.length/\P+2<H.next/\Ci aE lN/\mP H (P+2) n l1 b lN/\
      H.get N1=some (.map aw aa)/\H.get (N1+1)=some (.row [.v (.map (some N1))] true 0)/\H.get P=some (.map aE av)/\H.get (P+1)=some (.row [.v (.map (some P))] true 0)/\H.get (P+2)=some (.cj (some N1) aa seen aa)/\
      d=⟨bz [(0,.ptr a.e 0),(4,.v (.pointer (some ⟨N1+1,0,none⟩))),(14,.v (.pointer (some ⟨P+1,0,none⟩))),(100,.v (.pointer (some ⟨P+2,0,none⟩)))],166,[],H⟩:=⟨_,λ_ _=>qe⟩
     refine bO J aw.length ⟨_,ax.bg (l:=[(0,.ptr a.e 0),(4,.v (.pointer (some ⟨N1+1,0,none⟩))),(14,.v (.pointer (some ⟨P+1,0,none⟩))),(100,.v (.pointer (some ⟨P+2,0,none⟩)))]) ?_,(hJ _ _).2 ⟨[],[],0,[],0,_,(HV aw).symm,by simp, ?_,.nil ..,.nil .., ?_, ?_, ?_, ?_, ?_,rfl⟩⟩ ?_
     . simp(disch:=omega)[go_sem,An.e,ai.e]
     . simp(disch:=omega)[go_sem]
     . simp(disch:=omega)[go_sem]
     . simp(disch:=omega)[go_sem]
     . simp(disch:=omega)[go_sem]
     . simp(disch:=omega)[go_sem]
     . simp(disch:=omega)[go_sem]
     . intro j2 dB bJ;obtain⟨seen,aE,av,lN,b,H,dG,eP,ea,hN,bQ,f1,f2,f3,f4,f5,rfl⟩:=(hJ _ _).1 bJ;clear bJ;simp(disch:=omega)[go_sem];refine .inr ⟨rfl,_,by simp(disch:=omega)[go_sem],P+2,N1,aa,seen,aa,aw,aa,rfl,f5,f1,b2.1,DE _,λeb=> ?_,λx hx ec=> ?_⟩
       . obtain⟨cf,c1,cn⟩:=b9;have bS:a.g.family.nodes=(aF cf).nodes:=by rw[c1]
         have bT:a.g.family.root=(aF cf).root:=by rw[c1]
         obtain⟨O,hO⟩:∃O,H.next=O:=⟨_,rfl⟩;rw[hO]at ea;simp(disch:=omega)[go_sem,An.e,ai.e,hO];obtain⟨G,hG⟩:∃G:Nat->DS->Prop,∀j d,G j d↔∃(k:Nat) (H':ab) (es:List bq) (clk:Nat) (lo:List (Int×Nat)),j+k=n/\O<H'.next/\(∀i,i<O->H'.get i=H.get i)/\H'.get O=some (.map es clk)/\iK es lo/\(∀p∈lo,p.2=0)/\kP es clk/\
          d=⟨bz [(0,.ptr a.e 0),(4,.v (.pointer (some ⟨N1+1,0,none⟩))),(14,.v (.pointer (some ⟨P+1,0,none⟩))),(16,.v (.map (some O))),(122,iV n),(123,iV k)],166,[],H'⟩:=⟨_,λ_ _=>qe⟩
         refine bO G n ⟨_,ax.bg (l:=[(0,.ptr a.e 0),(4,.v (.pointer (some ⟨N1+1,0,none⟩))),(14,.v (.pointer (some ⟨P+1,0,none⟩))),(16,.v (.map (some O))),(122,iV n),(123,iV (0:Nat))]) ?_,(hG _ _).2 ⟨0,_,[],0,[],rfl, ?_,λi hi=> ?_, ?_,rfl,λp h=>(by cases h),kP.nil 0,rfl⟩⟩ ?_
         . simp(disch:=omega)[go_sem,An.e,ai.e,hn]
         . simp(disch:=omega)[go_sem,hO]
         . simp(disch:=omega)[go_sem,hO]
         . simp(disch:=omega)[go_sem,hO]
         . intro j3 dO bN;obtain⟨k3,H3,bD,az,c2,dP,c3,aA,cp,cq,cr,ct,rfl⟩:=(hG _ _).1 bN;clear bN;have e1:H3.get N1=some (.map aw aa):=by rw[aA N1 (by omega),f1]
           have e2:H3.get (N1+1)=some (.row [.v (.map (some N1))] true 0):=by rw[aA (N1+1) (by omega),f2]
           have e3:H3.get P=some (.map aE av):=by rw[aA P (by omega),f3]
           have e4:H3.get (P+1)=some (.row [.v (.map (some P))] true 0):=by rw[aA (P+1) (by omega),f4]
           by_cases eQ:k3<n
           . have bt:(k3:Int)<n:=by omega
             simp(disch:=omega)[go_sem,bt,e4];cases aS:bc lN k3 with
             |none=>
              have h1:=rQ jQ qo hN k3 false Ch rfl aS;refine⟨_,lg (es:=aE) (clock:=av) e3 rfl h1, ?_⟩;simp(disch:=omega)[go_sem,fu,aC];refine⟨j3-1,by omega,_,ax.bg (l:=[(0,.ptr a.e 0),(4,.v (.pointer (some ⟨N1+1,0,none⟩))),(14,.v (.pointer (some ⟨P+1,0,none⟩))),(16,.v (.map (some O))),(122,iV n),(123,iV (k3+1:Nat))]) ?_,(hG _ _).2 ⟨k3+1,H3,bD,az,c2,by omega,c3,aA,cp,cq,cr,ct,rfl⟩⟩;simp(disch:=omega)[go_sem]
             |some r=>
              obtain⟨R,xs⟩:=r;obtain⟨q1,q2,q3,q4,q5,q6,q7,q8⟩:=bQ.1 _ _ _ aS;have h1:=rP jQ qo hN k3 false aS;refine⟨_,lg (es:=aE) (clock:=av) e3 rfl h1, ?_⟩;have ef:¬xs.length=0:=λh=>q6 (List.length_eq_zero_iff.1 h);have e5:H3.get R=some (.row (zs xs) true 1):=by rw[aA R (by omega),q3]
              obtain⟨X,hX⟩:∃X,H3.next=X:=⟨_,rfl⟩;rw[hX]at c3;simp(disch:=omega)[go_sem,vJ,ef,q6,An.e,ai.e,bS,bT,hX];refine an.any (HU (N:=n) (n:=k3) (ST:=N1) (Bs:=N1+1) (NX:=P) (Bn:=P+1) (R:=R) (RM:=X) (Br:=X+1) (Q:=X+2) (Bq:=X+3) (es:=[]) (clk:=0) (l:=[]) (q:=[]) (cs:=[]) (o:=0) (ah:=0) (lS:=l1) (lN:=lN) (c0:=cf) (B:=2*mu n []) (xs:=xs) (by omega) (by omega) (by omega) (by omega) (by omega) (by omega) (by omega) (by omega) (by omega) (by simp(disch:=omega)[go_sem,hX]) (by simp(disch:=omega)[go_sem,hX]) (by simp(disch:=omega)[go_sem,hX,e1];rfl) (by simp(disch:=omega)[go_sem,hX,e2]) (by simp(disch:=omega)[go_sem,hX,e3];rfl) (by simp(disch:=omega)[go_sem,hX,e4]) (by simp(disch:=omega)[go_sem,hX]) (by simp(disch:=omega)[go_sem,hX]) (by simp(disch:=omega)[go_sem,hX]) (by simp(disch:=omega)[go_sem,hX]) (by simp(disch:=omega)[go_sem,hX,e5]) b1 bl hN rfl (.inl rfl) rfl rfl (by omega) (by omega) aS q8 (by omega) ⟨λk c h=>by simp[bc]at h,λy hy=>by cases hy⟩ cn rfl ?_ λH4 T4 b5 bu l4 eh Q4 o4 z4 bU c6 c7 ei c8 da bW bY db bM de g1 g2 g3 af=> ?_)
              . have:=Cj n [];omega
              simp(disch:=omega)[go_sem,hX]at c8 af;have s1:H4.get N1=some (.map aw aa):=by rw[af N1 (by omega) (by omega) (by omega) (by omega)];simp(disch:=omega)[go_sem,hX,e1]
              have s2:H4.get (N1+1)=some (.row [.v (.map (some N1))] true 0):=by rw[af (N1+1) (by omega) (by omega) (by omega) (by omega)];simp(disch:=omega)[go_sem,hX,e2]
              have s3:H4.get P=some (.map aE av):=by rw[af P (by omega) (by omega) (by omega) (by omega)];simp(disch:=omega)[go_sem,hX,e3]
              have s4:H4.get (P+1)=some (.row [.v (.map (some P))] true 0):=by rw[af (P+1) (by omega) (by omega) (by omega) (by omega)];simp(disch:=omega)[go_sem,hX,e4]
              have s5:H4.get (X+1)=some (.row [.v (.map (some X))] true 0):=by rw[af (X+1) (by omega) (by omega) (by omega) (by omega)];simp(disch:=omega)[go_sem,hX]
              have s6:H4.get O=some (.map bD az):=by rw[af O (by omega) (by omega) (by omega) (by omega)];simp(disch:=omega)[go_sem,hX,cp]
              have s7:∀i,i<O->H4.get i=H.get i:=λi hi=>by rw[af i (by omega) (by omega) (by omega) (by omega),<-aA i hi];simp(disch:=omega)[go_sem,hX]
              obtain⟨V,hV⟩:∃V:Nat->DS->Prop,∀j d,V j d↔∃(H4:ab) (b5:List bq) (bu:Nat) (l4:List (Int×Nat)) (q4:List Int) (Q4 o4 z4:Nat) (bU:List DV),j=2*mu n l4+q4.length/\j<=1100000/\X+4<=H4.next/\iK b5 l4/\vK k3 n l4 q4/\X+1<Q4/\Q4≠X+3/\Q4<H4.next/\(z4=0\/z4=1)/\bU.length=o4+q4.length/\bU.drop o4=zs q4/\
               H4.get X=some (.map b5 bu)/\H4.get Q4=some (.row bU true z4)/\H4.get (X+3)=some (.row [.v (.slice (some ⟨Q4,o4,none⟩) q4.length q4.length)] true 0)/\H4.get N1=some (.map aw aa)/\H4.get (N1+1)=some (.row [.v (.map (some N1))] true 0)/\H4.get P=some (.map aE av)/\H4.get (P+1)=some (.row [.v (.map (some P))] true 0)/\H4.get (X+1)=some (.row [.v (.map (some X))] true 0)/\H4.get O=some (.map bD az)/\(∀i,i<O->H4.get i=H.get i)/\
               d=⟨bz [(0,.ptr a.e 0),(4,.v (.pointer (some ⟨N1+1,0,none⟩))),(14,.v (.pointer (some ⟨P+1,0,none⟩))),(16,.v (.map (some O))),(17,iV k3),(18,.v (.pointer (some ⟨X+1,0,none⟩))),(19,.v (.pointer (some ⟨X+3,0,none⟩))),(20,.fn 101 [] [.v (.pointer (some ⟨P+1,0,none⟩)),.v (.pointer (some ⟨X+1,0,none⟩)),.v (.pointer (some ⟨N1+1,0,none⟩)),.v (.pointer (some ⟨X+3,0,none⟩))]),(122,iV n),(123,iV k3)],166,[],H4⟩:=⟨_,λ_ _=>qe⟩
              refine bO V _ ⟨_,ax.bg (l:=[(0,.ptr a.e 0),(4,.v (.pointer (some ⟨N1+1,0,none⟩))),(14,.v (.pointer (some ⟨P+1,0,none⟩))),(16,.v (.map (some O))),(17,iV k3),(18,.v (.pointer (some ⟨X+1,0,none⟩))),(19,.v (.pointer (some ⟨X+3,0,none⟩))),(20,.fn 101 [] [.v (.pointer (some ⟨P+1,0,none⟩)),.v (.pointer (some ⟨X+1,0,none⟩)),.v (.pointer (some ⟨N1+1,0,none⟩)),.v (.pointer (some ⟨X+3,0,none⟩))]),(122,iV n),(123,iV k3)]) ?_,(hV _ _).2 ⟨H4,b5,bu,l4,eh,Q4,o4,z4,bU,rfl,by have:=Cj n [];omega,by omega,c6,c7,da,bW,bY,db,bM,de,g1,g2,g3,s1,s2,s3,s4,s5,s6,s7,rfl⟩⟩ ?_
              . simp(disch:=omega)[go_sem,An.e,ai.e,bS,bT]
              clear hX af c8 c6 c7 da bW bY db bM de g1 g2 g3 s1 s2 s3 s4 s5 s6 s7 ei;intro j4 eR df;obtain⟨H5,b6,aZ,l5,q5,Q5,o5,z5,dh,ej,ek,eS,b7,bA,en,bZ,ep,bs,bB,dj,g1,g2,g3,s1,s2,s3,s4,s5,s6,s7,rfl⟩:=(hV _ _).1 df;clear df;have hmul:=Cj n l5;cases q5 with
              |nil=>
               have er:cC l5 (k3:Int)=0:=by
                unfold cC;cases hq:bc l5 (k3:Int)with
                |none=>rfl
                |some c=>have:=(bA.1 _ _ hq).2.1;omega
               simp(disch:=omega)[go_sem,g3,s5];refine vG (r:=X) (es:=b6) (clock:=aZ) (l:=l5) g1 (by omega) b7 λM9 dk=> ?_;rw[er];obtain⟨aT,ad,h8,h9⟩:=oW jQ rX cq k3 az 0;simp(disch:=omega)[go_sem];refine⟨_,rT (es:=bD) (clock:=az) (by simp(disch:=omega)[go_sem,s6]) rfl h8, ?_⟩;simp(disch:=omega)[go_sem,aC];refine⟨j3-1,by omega,_,ax.bg (l:=[(0,.ptr a.e 0),(4,.v (.pointer (some ⟨N1+1,0,none⟩))),(14,.v (.pointer (some ⟨P+1,0,none⟩))),(16,.v (.map (some O))),(122,iV n),(123,iV (k3+1:Nat))]) ?_,(hG _ _).2 ⟨k3+1,_,aT,ad,_,by omega, ?_,λi hi=> ?_, ?_,h9,λp hp=> ?_,ct.up h8,rfl⟩⟩
               . simp(disch:=omega)[go_sem]
               . simp(disch:=omega)[go_sem];omega
               . simp(disch:=omega)[go_sem,s7]
               . simp(disch:=omega)[go_sem]
               . rcases aaR hp with h|h
                 . exact cr p h
                 . rw[h]
              |cons m q5=>
               obtain⟨c5,b0⟩:=bA.2 m (by simp);obtain⟨cu,eT,eV⟩:=bA.1 m c5 b0;have et:¬m=(k3:Int):=by omega
               have eu:=aaU dj;have dm:=aaV dj;have dn:=aaT (h:=H5) (R:=Q5) (o:=o5) (len:=q5.length+1) g2 bs (by omega);rw[show q5.length+1-1=q5.length from rfl]at dn;rw[List.length_cons]at bB ej;simp(disch:=omega)[go_sem,g3,s5,g2,eu,-getElem?_pos];refine⟨_,dn, ?_⟩;have h1:=rP jQ rX b7 m false b0;simp(disch:=omega)[go_sem,et,s5,g3];refine⟨_,lg (es:=b6) (clock:=aZ) (by simp(disch:=omega)[go_sem,g1]) rfl h1, ?_⟩;simp(disch:=omega)[go_sem];cases cv:bc lN m with
               |none=>
                refine an.any (aaP (NX:=P) (Bn:=P+1) (c0:=c5) (by omega) (by simp(disch:=omega)[go_sem];try omega) (by simp(disch:=omega)[go_sem,s3];rfl) (by simp(disch:=omega)[go_sem,s4]) hN cv λM9 dk=> ?_);simp(disch:=omega)[go_sem]at dk;simp(disch:=omega)[go_sem];refine⟨2*mu n l5+q5.length,by omega,_,ax.bg (l:=[(0,.ptr a.e 0),(4,.v (.pointer (some ⟨N1+1,0,none⟩))),(14,.v (.pointer (some ⟨P+1,0,none⟩))),(16,.v (.map (some O))),(17,iV k3),(18,.v (.pointer (some ⟨X+1,0,none⟩))),(19,.v (.pointer (some ⟨X+3,0,none⟩))),(20,.fn 101 [] [.v (.pointer (some ⟨P+1,0,none⟩)),.v (.pointer (some ⟨X+1,0,none⟩)),.v (.pointer (some ⟨N1+1,0,none⟩)),.v (.pointer (some ⟨X+3,0,none⟩))]),(122,iV n),(123,iV k3)]) ?_,(hV _ _).2 ⟨_,b6,aZ,l5,q5,Q5,o5+1,z5,dh,rfl,by omega, ?_,b7,⟨bA.1,λy hy=>bA.2 y (by simp[hy])⟩,en,bZ, ?_,bs,by omega,dm, ?_, ?_, ?_, ?_, ?_, ?_, ?_, ?_, ?_,λi hi=> ?_,rfl⟩⟩
                all_goals simp(disch:=omega)[go_sem,g1,g2,s1,s2,s3,s4,s5,s6,s7]
                all_goals omega
               |some r=>
                obtain⟨R2,ew⟩:=r;obtain⟨r1,r2,r3,r4,r5,r6,r7,r8⟩:=bQ.1 _ _ _ cv;refine an.any (HU (N:=n) (n:=k3) (ST:=N1) (Bs:=N1+1) (NX:=P) (Bn:=P+1) (R:=R2) (RM:=X) (Br:=X+1) (Q:=Q5) (Bq:=X+3) (es:=b6) (clk:=aZ) (l:=l5) (q:=q5) (cs:=dh) (o:=o5+1) (ah:=z5) (lS:=l1) (lN:=lN) (c0:=c5) (B:=2*mu n l5+q5.length) (xs:=ew) (by omega) (by omega) (by omega) (by omega) (by omega) (by omega) (by omega) (by omega) bZ (by simp(disch:=omega)[go_sem];try omega) (by simp(disch:=omega)[go_sem];try omega) (by simp(disch:=omega)[go_sem,s1];rfl) (by simp(disch:=omega)[go_sem,s2]) (by simp(disch:=omega)[go_sem,s3];rfl) (by simp(disch:=omega)[go_sem,s4]) (by simp(disch:=omega)[go_sem,g1];try rfl) (by simp(disch:=omega)[go_sem,s5]) (by simp(disch:=omega)[go_sem,g2]) (by simp(disch:=omega)[go_sem]) (by simp(disch:=omega)[go_sem,s7,r3]) b1 bl hN b7 bs (by omega) dm (by omega) (by omega) cv r8 (by omega) ⟨bA.1,λy hy=>bA.2 y (by simp[hy])⟩ cu rfl (by omega) λH6 T6 ey cx l6 q6 Q6 o6 z6 ez eA eB eX eC eD cy cz eE eF eI u1 u2 u3 af=> ?_);simp(disch:=omega)[go_sem]at eC af;have v1:H6.get N1=some (.map aw aa):=by rw[af N1 (by omega) (by omega) (by omega) (by omega)];simp(disch:=omega)[go_sem,s1]
                have v2:H6.get (N1+1)=some (.row [.v (.map (some N1))] true 0):=by rw[af (N1+1) (by omega) (by omega) (by omega) (by omega)];simp(disch:=omega)[go_sem,s2]
                have v3:H6.get P=some (.map aE av):=by rw[af P (by omega) (by omega) (by omega) (by omega)];simp(disch:=omega)[go_sem,s3]
                have v4:H6.get (P+1)=some (.row [.v (.map (some P))] true 0):=by rw[af (P+1) (by omega) (by omega) (by omega) (by omega)];simp(disch:=omega)[go_sem,s4]
                have v5:H6.get (X+1)=some (.row [.v (.map (some X))] true 0):=by rw[af (X+1) (by omega) (by omega) (by omega) (by omega)];simp(disch:=omega)[go_sem,s5]
                have v6:H6.get O=some (.map bD az):=by rw[af O (by omega) (by omega) (by omega) (by omega)];simp(disch:=omega)[go_sem,s6]
                have v7:∀i,i<O->H6.get i=H.get i:=λi hi=>by rw[af i (by omega) (by omega) (by omega) (by omega),<-s7 i hi];simp(disch:=omega)[go_sem]
                simp(disch:=omega)[go_sem];exact⟨2*mu n l6+q6.length,by omega,_,ax.bg (l:=[(0,.ptr a.e 0),(4,.v (.pointer (some ⟨N1+1,0,none⟩))),(14,.v (.pointer (some ⟨P+1,0,none⟩))),(16,.v (.map (some O))),(17,iV k3),(18,.v (.pointer (some ⟨X+1,0,none⟩))),(19,.v (.pointer (some ⟨X+3,0,none⟩))),(20,.fn 101 [] [.v (.pointer (some ⟨P+1,0,none⟩)),.v (.pointer (some ⟨X+1,0,none⟩)),.v (.pointer (some ⟨N1+1,0,none⟩)),.v (.pointer (some ⟨X+3,0,none⟩))]),(122,iV n),(123,iV k3)]) (by simp(disch:=omega)[go_sem]),(hV _ _).2 ⟨H6,ey,cx,l6,q6,Q6,o6,z6,ez,rfl,by omega,by omega,eA,eB,eD,cy,cz,eE,eF,eI,u1,u2,u3,v1,v2,v3,v4,v5,v6,v7,rfl⟩⟩
           . have bt:¬(k3:Int)<n:=by omega
             simp(disch:=omega)[go_sem,bt];intro aB w1 w2 w3;exact hk aB _ O bD az c2 cq cr ct (by omega) (by omega) (by rw[w2 O (by omega),cp]) λi hi=>w3 i (by omega)
       . obtain⟨⟨⟨u,y⟩,c⟩,hp,dp,dq⟩:=b1.mem hx;obtain⟨c',b8⟩:=aaQ hp;obtain⟨hu,cA,cB⟩:=bm _ _ b8;simp only at dp dq hu cA cB b8;have eY:=HY hx ec;have eZ:=b2.find hx;simp(disch:=omega)[go_sem];refine⟨_,H7 (es:=aw) (clock:=aa) (r:=P+2) (m:=N1) (since:=aa) (seen:=seen) (x:=x) (by simp(disch:=omega)[go_sem]) (by simp(disch:=omega)[go_sem,f1]) b2 hx, ?_⟩;rw[dp,dq,qp];simp(disch:=omega)[go_sem,fu];refine bR [dc 0,kj 0,dc 2,aD 0,ae 0,aD 16,aD 56,ae 0,aD 128,cE 384,aN 1016,aN 2047] (by kernel_rfl) 1 rfl ?_;simp(disch:=omega)[go_sem,f4,dF]
         repeat refine⟨by omega, ?_⟩
         cases aS:bc lN u with
         |none=>
          have h1:=rQ jQ qo hN u false Ch rfl aS;refine⟨_,lg (es:=aE) (clock:=av) (by simp(disch:=omega)[go_sem,f3]) rfl h1, ?_⟩;simp(disch:=omega)[go_sem,fu,dF];refine⟨_,rD _ _ _ _ _ (by omega) (by omega), ?_⟩;simp(disch:=omega)[go_sem];obtain⟨aT,ad,h8,h9⟩:=oW jQ qo hN u av (H.next+1+1,[y]);simp only[vJ,List.length_singleton]at h8
          repeat refine⟨by omega, ?_⟩
          refine⟨_,rT (es:=aE) (clock:=av) (by simp(disch:=omega)[go_sem,f3]) rfl h8, ?_⟩;simp(disch:=omega)[go_sem];refine⟨left aw (seen++[x.born]),by omega,_,ax.bg (l:=[(0,.ptr a.e 0),(4,.v (.pointer (some ⟨N1+1,0,none⟩))),(14,.v (.pointer (some ⟨P+1,0,none⟩))),(100,.v (.pointer (some ⟨P+2,0,none⟩)))]) ?_,(hJ _ _).2 ⟨seen++[x.born],aT,ad,_,b+1,_,rfl,by omega, ?_,h9,mP.put bQ (c:=c') (R':=H.next+1+1) (xs:=[]) hu cA cB b8 (.inl ⟨aS,rfl⟩) (by omega) ?_ ?_ (λR2 w1 w2 w3=> ?_) (by omega), ?_, ?_, ?_, ?_, ?_,rfl⟩⟩
          all_goals simp(disch:=omega)[go_sem,f1,f2,f3,f4,f5]
          all_goals omega
         |some r=>
          obtain⟨R,xs⟩:=r;have h1:=rP jQ qo hN u false aS;refine⟨_,lg (es:=aE) (clock:=av) (by simp(disch:=omega)[go_sem,f3]) rfl h1, ?_⟩;obtain⟨q1,q2,q3,q4,q5,q6,q7,q8⟩:=bQ.1 _ _ _ aS;simp(disch:=omega)[go_sem,dF];refine⟨_,uR _ _ _ _ _ _ (zs xs) _ (by simp(disch:=omega)[go_sem,q3]) (by simp) (by omega) (by omega) (aaM [y]) (by omega), ?_⟩;simp(disch:=omega)[go_sem];obtain⟨aT,ad,h8,h9⟩:=oW jQ qo hN u av (H.next+1+1,xs++[y]);have eK:(xs++[y]).length=xs.length+1:=by simp
          simp only[vJ,eK]at h8
          repeat refine⟨by omega, ?_⟩
          refine⟨_,rT (es:=aE) (clock:=av) (by simp(disch:=omega)[go_sem,f3]) rfl h8, ?_⟩;simp(disch:=omega)[go_sem];refine⟨left aw (seen++[x.born]),by omega,_,ax.bg (l:=[(0,.ptr a.e 0),(4,.v (.pointer (some ⟨N1+1,0,none⟩))),(14,.v (.pointer (some ⟨P+1,0,none⟩))),(100,.v (.pointer (some ⟨P+2,0,none⟩)))]) ?_,(hJ _ _).2 ⟨seen++[x.born],aT,ad,_,b+1,_,rfl,by omega, ?_,h9,mP.put bQ (c:=c') (R':=H.next+1+1) (xs:=xs) hu cA cB b8 (.inr ⟨R,aS⟩) (by omega) ?_ ?_ (λR2 w1 w2 w3=> ?_) (by omega), ?_, ?_, ?_, ?_, ?_,rfl⟩⟩
          all_goals try have w4:R2≠R:=λh=>w3 xs (by rw[h];exact aS)
          all_goals simp(disch:=omega)[go_sem,f1,f2,f3,f4,f5]
          all_goals omega
end Go.Sp
end
noncomputable section
open Go Go.au Go.Proofs
namespace Go.au
variable {e:Env} {aj:Bool}
theorem an.still{K:ck}{dd:List FuncId}{h:ab}{f:FuncId}{args av:List DV}(l:List Nat)(hl:∀i∈l,(h.get i).isSome=true)(hz:cA (rowsOf h l) args av)(hc:an e aj (λv dd h' T=>K v dd h' (T++l)) dd (fA h l) (f,av)):an e aj K dd h (f,args):=cJ.still l hl hz hc
end Go.au
namespace Go.Sp
set_option maxHeartbeats 4000000 in
theorem aa5{K:ck}{dd:List FuncId}{h:ab}{F:Nat}(a:An)(ha:a.Ok)(NU:Int->Prop)(aI:rY a NU)(hE:yr a NU)(aR:∃c,a.g.family=aF c/\c<256)(hF:h.get F=some (.row [bV false] true 0))(aB:F<h.next)
 (hk:∀h' T,h.next<=h'.next->(∀i,i<h.next->h'.get i=h.get i)->K (.bb []) dd h' T):
 an E false K dd h (60,[.ptr a.e 0,.v (.pointer (some ⟨F,0,none⟩))]):=by
 refine cJ.frame [F] (by simpa using aB) ?_;obtain⟨N,hN⟩:∃N,h.next=N:=⟨_,rfl⟩;refine gD (K:=λv _ aK _=>∀aa:ab,aa.next=aK.next->(∀i,(i∈[F]\/h.next<=i)->aa.get i=aK.get i)->(∀i,i<h.next->i∉[F]->aa.get i=h.get i)->K v dd aa [F]) (dd:=dd) Tryz.ntmps60 Tryz.results60 ?_;simp only[eG,hF];rw[hN]at aB⊢;simp(disch:=omega)[go_sem];refine aa4 a ha NU aI hE aR λh1 T R es clock lo bI hz hb bJ bL bk hold=> ?_;simp(disch:=omega)[go_sem]at bJ hold;obtain⟨N1,aE⟩:∃N1,h1.next=N1:=⟨_,rfl⟩;rw[aE]at bL;have bM:h1.get F=some (.row [bV false] true 0):=by rw[hold F aB];simp
 simp(disch:=omega)[go_sem];refine⟨_,HZ (es:=es) (clock:=clock) rX bk, ?_⟩;simp(disch:=omega)[go_sem,aE];obtain⟨J,hJ⟩:∃J:Nat->DS->Prop,∀j d,J j d↔∃(seen:List Nat) (H:ab),j=left es seen/\N1<H.next/\H.get R=some (.map es clock)/\H.get F=some (.row [bV false] true 0)/\H.get N1=some (.cj (some R) clock seen clock)/\
  d=⟨bz [(1,.v (.pointer (some ⟨F,0,none⟩))),(7,.v (.pointer (some ⟨N1,0,none⟩)))],18,[],H⟩:=⟨_,λ_ _=>qe⟩
 refine bO J es.length ⟨_,ax.bg (l:=[(1,.v (.pointer (some ⟨F,0,none⟩))),(7,.v (.pointer (some ⟨N1,0,none⟩)))]) ?_,(hJ _ _).2 ⟨[],_,(HV es).symm, ?_, ?_, ?_, ?_,rfl⟩⟩ ?_
 . simp(disch:=omega)[go_sem]
 . simp(disch:=omega)[go_sem,aE]
 . simp(disch:=omega)[go_sem,aE,bk]
 . simp(disch:=omega)[go_sem,aE,bM]
 . simp(disch:=omega)[go_sem,aE]
 . intro j2 bN aL;obtain⟨seen,H,bP,bQ,f1,f2,f3,rfl⟩:=(hJ _ _).1 aL;clear aL;simp(disch:=omega)[go_sem];refine .inr ⟨rfl,_,by simp(disch:=omega)[go_sem],N1,R,clock,seen,clock,es,clock,rfl,f3,f1,hb.1,DE _,λbS=> ?_,λx hx bT=> ?_⟩
   . simp(disch:=omega)[go_sem];intro aa q1 q2 bU q3;refine hk aa _ (by omega) λi hi=> ?_;by_cases dE:i=F
     . subst dE;rw[hF,q2,f2]
     . exact q3 i (by omega) dE
   . obtain⟨⟨u,c⟩,hp,bl,bm⟩:=bI.mem hx;have bW:c=0:=hz _ hp;subst bW;have aM:(aF 0).root=0:=rfl;simp only at bl bm;have cm:=HY hx bT;simp(disch:=omega)[go_sem];refine⟨_,H7 (es:=es) (clock:=clock) (r:=N1) (m:=R) (since:=clock) (seen:=seen) (x:=x) (by simp(disch:=omega)[go_sem]) (by simp(disch:=omega)[go_sem,f1]) hb hx, ?_⟩;rw[bl,bm,rU];simp(disch:=omega)[go_sem,fu,Dg.e,f2,aM];refine⟨left es (seen++[x.born]),by omega,_,ax.bg (l:=[(1,.v (.pointer (some ⟨F,0,none⟩))),(7,.v (.pointer (some ⟨N1,0,none⟩)))]) ?_,(hJ _ _).2 ⟨seen++[x.born],_,rfl, ?_, ?_, ?_, ?_,rfl⟩⟩
     all_goals simp(disch:=omega)[go_sem,f1,f2,f3]
     all_goals omega
def rZ(H:ab)(B U:Nat)(dg:List Nat)(pv:DV):Prop:=
 (dg=[]/\pv=dQ)\/∃R,B<R/\R<U/\pv=.v (.slice (some ⟨R,0,none⟩) dg.length dg.length)/\H.get R=some (.row (dg.map λc=>(aF c).e).flatten true 2)
theorem yv{S:eR}{b ah:Nat}{cs xs:List DV}(h:S b=some (cs,ah))(hz:cA S cs xs):Fz S (.v (.pointer (some ⟨b,0,none⟩))) (.ptr xs 0):=by
 have hl:=hz.length;exact Fz.ptr (o:=0) (off:=0) h (by omega) λi v d h1 h2=>by
  rw[Nat.zero_add]at h2;obtain⟨d',h3,h4⟩:=hz.get i v h2;rw[h1]at h3;cases h3;exact h4
theorem rZ.fz{H:ab}{M U:Nat}{dg:List Nat}{pv:DV}{g:ai}(h:rZ H M U dg pv)(hM:H.get M=some (.row (g.e++[pv]) true 0)):∃l:List Nat,(∀i∈l,M<=i)/\(∀i∈l,(H.get i).isSome=true)/\Fz (rowsOf H l) (.v (.pointer (some ⟨M,0,none⟩))) (.ptr (An.e ⟨g,dg⟩) 0):=by
 rcases h with⟨rfl,rfl⟩|⟨R,h1,h2,rfl,h4⟩
 . refine⟨[M],by simp,by simp[hM],yv (ah:=0) (gr (by simp) hM) ?_⟩;exact aO.append (cA.refl _) (.cons (.nil (by omega)) .nil)
 . refine⟨[M,R],by simp;omega,by simp[hM,h4],yv (ah:=0) (gr (by simp) hM) ?_⟩;refine aO.append (cA.refl _) (.cons ?_ .nil);exact dU (ah:=2) (gr (by simp) h4) (.inr rfl) (by omega) (by simp) (DE _) (λx hx=>by obtain⟨y,_,rfl⟩:=GP.1 hx;rfl)
theorem rZ.same{H H':ab}{B U U':Nat}{dg:List Nat}{pv:DV}(h:rZ H B U dg pv)(hs:∀i,B<i->i<U->H'.get i=H.get i)(hU:U<=U'):rZ H' B U' dg pv:=by
 rcases h with h|⟨R,h1,h2,h3,h4⟩
 . exact .inl h
 . exact .inr ⟨R,h1,by omega,h3,by rw[hs R h1 h2,h4]⟩
set_option maxHeartbeats 4000000 in
theorem aa6{K:ck}{dd:List FuncId}{h:ab}{F:Nat}(g:ai)(hg:GV g)(NU:Int->Prop)(aI:∀dg,rY ⟨g,dg⟩ NU)(hE:∀dg,yr ⟨g,dg⟩ NU)(hF:h.get F=some (.row [bV false] true 0))(aB:F<h.next)
 (hk:∀h' T,h.next<=h'.next->(∀i,i<h.next->h'.get i=h.get i)->K (iV 0) dd h' T):
 an E false K dd h (59,[.agg g.e,.fn 60 [] [.v (.pointer (some ⟨F,0,none⟩))]]):=by
 obtain⟨cf,aS,aT,bY⟩:=hg.cL.cL;have aw:=aT.1;refine cJ.frame [F] (by simpa using aB) ?_;obtain⟨N,hN⟩:∃N,h.next=N:=⟨_,rfl⟩;refine gD (K:=λv _ aK _=>∀aa:ab,aa.next=aK.next->(∀i,(i∈[F]\/h.next<=i)->aa.get i=aK.get i)->(∀i,i<h.next->i∉[F]->aa.get i=h.get i)->K v dd aa [F]) (dd:=dd) Tryz.ntmps59 Tryz.results59 ?_;simp only[eG,hF];rw[hN]at aB⊢;have aP:=Ht g hg;simp(disch:=omega)[go_sem,ai.e]at aP⊢;refine an.any (an.mk aP λM hM=> ?_);simp(disch:=omega)[go_sem]at hM;simp(disch:=omega)[go_sem,ai.e];have cn:=hg.ak.len;obtain⟨I,hI⟩:∃I:Nat->DS->Prop,∀j d,I j d↔∃(k:Nat) (H:ab) (dg:List Nat) (pv:DV),j+k=g.ak.length/\M<H.next/\dg.length=k/\(∀c∈dg,c<256)/\rZ H M H.next dg pv/\H.get F=some (.row [bV false] true 0)/\H.get N=some (.row g.e true 0)/\H.get (N+1)=some (.row [iV 0] true 0)/\H.get M=some (.row (g.e++[pv]) true 0)/\
  d=⟨bz [(1,.fn 60 [] [.v (.pointer (some ⟨F,0,none⟩))]),(2,.v (.pointer (some ⟨N,0,none⟩))),(4,.v (.pointer (some ⟨N+1,0,none⟩))),(6,.v (.pointer (some ⟨M,0,none⟩))),(22,.sl 13 (g.ak.map aQ.e)),(23,iV g.ak.length),(24,iV (k:Nat))],72,[93],H⟩:=⟨_,λ_ _=>qe⟩
 refine bO I g.ak.length ⟨_,ax.bg (l:=[(1,.fn 60 [] [.v (.pointer (some ⟨F,0,none⟩))]),(2,.v (.pointer (some ⟨N,0,none⟩))),(4,.v (.pointer (some ⟨N+1,0,none⟩))),(6,.v (.pointer (some ⟨M,0,none⟩))),(22,.sl 13 (g.ak.map aQ.e)),(23,iV g.ak.length),(24,iV (0:Nat))]) ?_,(hI _ _).2 ⟨0,_,[],dQ,rfl, ?_,rfl,λc hc=>(by cases hc),.inl ⟨rfl,rfl⟩, ?_, ?_, ?_, ?_,rfl⟩⟩ ?_
 . simp(disch:=omega)[go_sem]
 . simp(disch:=omega)[go_sem]
 . simp(disch:=omega)[go_sem]
 . simp(disch:=omega)[go_sem,ai.e]
 . simp(disch:=omega)[go_sem]
 . simp(disch:=omega)[go_sem,ai.e]
 . intro j ds bn;obtain⟨k,H,dg,pv,hj,bQ,aU,bo,bp,f1,f2,f3,f4,rfl⟩:=(hI _ _).1 bn;clear bn;by_cases bZ:k<g.ak.length
   . have az:(k:Int)<g.ak.length:=by omega
     obtain⟨p,hx⟩:∃p,g.ak[k]? =some p:=⟨_,Er bZ⟩;have bq:=xS hx;have bs:=hg.ak.ok p bq;have cq:=(hg.size.right p bq).1;obtain⟨cp,bt,aX⟩:=bs.cond;have aZ:=aX.1;have hand:=vF cf cp aw aZ;have b0:cf&&&cp<256:=W9 Xw aw;have ad:=qn (aj:=true) (aF (cf&&&cp));have b1:g.family.nodes=(aF cf).nodes:=by rw[aS]
     have b2:g.family.root=(aF cf).root:=by rw[aS]
     have b3:p.cond.nodes=(aF cp).nodes:=by rw[bt]
     have b5:p.cond.root=(aF cp).root:=by rw[bt]
     simp only[Dg.e]at hand ad;simp(disch:=omega)[go_sem,az,hx,-getElem?_pos,f2,aQ.e,ai.e,b1,b2,b3,b5];refine an.any (an.mk hand λM2 bu=> ?_);simp(disch:=omega)[go_sem]at bu;simp(disch:=omega)[go_sem];refine an.any (an.mk ad λM3 bx=> ?_);simp(disch:=omega)[go_sem]at bx;simp(disch:=omega)[go_sem];obtain⟨J,hJ⟩:∃J:Nat->DS->Prop,∀j d,J j d↔∃(m c D:Nat) (H':ab),j+m=p.right.length/\c<256/\H.next<=D/\D<H'.next/\rZ H' M D dg pv/\H'.get F=some (.row [bV false] true 0)/\H'.get N=some (.row g.e true 0)/\H'.get (N+1)=some (.row [iV 0] true 0)/\H'.get M=some (.row (g.e++[pv]) true 0)/\H'.get D=some (.row (aF c).e true 0)/\
      d=⟨bz [(1,.fn 60 [] [.v (.pointer (some ⟨F,0,none⟩))]),(2,.v (.pointer (some ⟨N,0,none⟩))),(4,.v (.pointer (some ⟨N+1,0,none⟩))),(6,.v (.pointer (some ⟨M,0,none⟩))),(22,.sl 13 (g.ak.map aQ.e)),(23,iV g.ak.length),(24,iV (k:Nat)),(9,.v (.pointer (some ⟨D,0,none⟩))),(37,.sl 2 (p.right.map Sym.e)),(38,iV p.right.length),(39,iV (m:Nat))],72,[93],H'⟩:=⟨_,λ_ _=>qe⟩
     refine bO J p.right.length ⟨_,ax.bg (l:=[(1,.fn 60 [] [.v (.pointer (some ⟨F,0,none⟩))]),(2,.v (.pointer (some ⟨N,0,none⟩))),(4,.v (.pointer (some ⟨N+1,0,none⟩))),(6,.v (.pointer (some ⟨M,0,none⟩))),(22,.sl 13 (g.ak.map aQ.e)),(23,iV g.ak.length),(24,iV (k:Nat)),(9,.v (.pointer (some ⟨M3,0,none⟩))),(37,.sl 2 (p.right.map Sym.e)),(38,iV p.right.length),(39,iV (0:Nat))]) ?_,(hJ _ _).2 ⟨0,cf&&&cp,M3,_,rfl,b0,by omega, ?_,bp.same (λi h1 h2=> ?_) (by omega), ?_, ?_, ?_, ?_, ?_,rfl⟩⟩ ?_
     . simp(disch:=omega)[go_sem]
     . simp(disch:=omega)[go_sem]
     . simp(disch:=omega)[go_sem]
     . simp(disch:=omega)[go_sem,f1]
     . simp(disch:=omega)[go_sem,f2]
     . simp(disch:=omega)[go_sem,f3]
     . simp(disch:=omega)[go_sem,f4]
     . simp(disch:=omega)[go_sem,Dg.e]
     . clear hand ad bu bx;intro j2 bN aL;obtain⟨m,c,D,H',bP,hc,bA,cr,aA,e1,e2,e3,e4,e5,rfl⟩:=(hJ _ _).1 aL;clear aL;by_cases b6:m<p.right.length
       . have ao:(m:Int)<p.right.length:=by omega
         obtain⟨s,hs⟩:∃s,p.right[m]? =some s:=⟨_,Er b6⟩;have bB:=bs.right s (xS hs);cases ht:s.tok with
         |false=>
          simp(disch:=omega)[go_sem,ao,hs,-getElem?_pos,Sym.e,ht,aC];refine⟨j2-1,by omega,_,ax.bg (l:=[(1,.fn 60 [] [.v (.pointer (some ⟨F,0,none⟩))]),(2,.v (.pointer (some ⟨N,0,none⟩))),(4,.v (.pointer (some ⟨N+1,0,none⟩))),(6,.v (.pointer (some ⟨M,0,none⟩))),(22,.sl 13 (g.ak.map aQ.e)),(23,iV g.ak.length),(24,iV (k:Nat)),(9,.v (.pointer (some ⟨D,0,none⟩))),(37,.sl 2 (p.right.map Sym.e)),(38,iV p.right.length),(39,iV (m+1:Nat))]) ?_,(hJ _ _).2 ⟨m+1,c,D,_,by omega,hc,bA, ?_,aA.same (λi h1 h2=> ?_) (by omega), ?_, ?_, ?_, ?_, ?_,rfl⟩⟩
          all_goals simp(disch:=omega)[go_sem,e1,e2,e3,e4,e5]
          all_goals omega
         |true=>
          rw[qj,ht]at bB;obtain⟨tk,z0,z1,z2⟩:=bB;obtain⟨_,_,⟨ct,bD,bc⟩,_⟩:=hg.ar.ok tk (xS z1);have bd:=bc.1;have b7:s.idx<g.ar.length:=by
           have:=(W2.1 z1).1;omega
          have hand:=vF c ct hc bd;have bf:c&&&ct<256:=W9 Xw hc;have ad:=qn (aj:=true) (aF (c&&&ct));have b8:tk.cond.nodes=(aF ct).nodes:=by rw[bD]
          have b9:tk.cond.root=(aF ct).root:=by rw[bD]
          simp only[Dg.e]at hand ad;simp(disch:=omega)[go_sem,ao,hs,-getElem?_pos,Sym.e,ht,aC];refine bR [aD 0,ae 0,aD 2,ae 0,aD 8,ae 30,ae 62,aD 126,aN 255,ae 511,ae 511,aN 2047,aN 4095] (by kernel_rfl) 0 rfl ?_;simp(disch:=omega)[go_sem,e5,e2,ai.e,Sym.e,Dg.e,b7,z1,z0,-getElem?_pos,Tok.e,b8,b9]
          repeat refine⟨by omega, ?_⟩
          refine an.mk hand λM4 ca=> ?_;simp(disch:=omega)[go_sem]at ca;simp(disch:=omega)[go_sem];refine an.mk ad λM5 cb=> ?_;simp(disch:=omega)[go_sem]at cb;simp(disch:=omega)[go_sem,e5,Dg.e,aC];refine⟨j2-1,by omega,_,ax.bg (l:=[(1,.fn 60 [] [.v (.pointer (some ⟨F,0,none⟩))]),(2,.v (.pointer (some ⟨N,0,none⟩))),(4,.v (.pointer (some ⟨N+1,0,none⟩))),(6,.v (.pointer (some ⟨M,0,none⟩))),(22,.sl 13 (g.ak.map aQ.e)),(23,iV g.ak.length),(24,iV (k:Nat)),(9,.v (.pointer (some ⟨D,0,none⟩))),(37,.sl 2 (p.right.map Sym.e)),(38,iV p.right.length),(39,iV (m+1:Nat))]) ?_,(hJ _ _).2 ⟨m+1,c&&&ct,D,_,by omega,bf,bA, ?_,aA.same (λi h1 h2=> ?_) (by omega), ?_, ?_, ?_, ?_, ?_,rfl⟩⟩
          all_goals simp(disch:=omega)[go_sem,e1,e2,e3,e4,e5,Dg.e]
          all_goals omega
       . have ao:¬(m:Int)<p.right.length:=by omega
         simp(disch:=omega)[go_sem,ao,aC];refine bR [ae 0,ae 0,ae 2,ae 6,aD 14,aD 0,cE 32,aN 126,ae 255,ae 511,aN 1023] (by kernel_rfl) 1 rfl ?_;rcases aA with⟨ew,cc⟩|⟨R,r1,r2,r3,r4⟩
         . subst ew cc;simp(disch:=omega)[go_sem,e4,ai.e,e5,Dg.e];refine⟨_,rD _ _ _ _ _ (by omega) (by omega), ?_⟩;simp(disch:=omega)[go_sem,e4,ai.e,aC];refine⟨j-1,by omega,_,ax.bg (l:=[(1,.fn 60 [] [.v (.pointer (some ⟨F,0,none⟩))]),(2,.v (.pointer (some ⟨N,0,none⟩))),(4,.v (.pointer (some ⟨N+1,0,none⟩))),(6,.v (.pointer (some ⟨M,0,none⟩))),(22,.sl 13 (g.ak.map aQ.e)),(23,iV g.ak.length),(24,iV (k+1:Nat))]) ?_,(hI _ _).2 ⟨k+1,_,[c],.v (.slice (some ⟨H'.next+1,0,none⟩) 1 1),by omega, ?_,by simp at aU⊢;omega,λx hx=>by simp at hx;subst hx;exact hc,.inr ⟨H'.next+1,by omega, ?_,rfl, ?_⟩, ?_, ?_, ?_, ?_,rfl⟩⟩
           all_goals simp(disch:=omega)[go_sem,e1,e2,e3,e4,ai.e,Dg.e]
           all_goals omega
         . subst r3;simp(disch:=omega)[go_sem,e4,ai.e,e5,Dg.e];have cd:(dg.map λc=>(aF c).e).flatten.length=dg.length*2:=by rw[eW (k:=2) (λx hx=>by obtain⟨y,_,rfl⟩:=GP.1 hx;rfl),Qc]
           refine⟨_,uR _ _ _ _ _ _ (dg.map λc=>(aF c).e).flatten _ (by simp(disch:=omega)[go_sem,r4]) cd (by omega) (by omega) rfl (by omega), ?_⟩;simp(disch:=omega)[go_sem,e4,ai.e,aC];refine⟨j-1,by omega,_,ax.bg (l:=[(1,.fn 60 [] [.v (.pointer (some ⟨F,0,none⟩))]),(2,.v (.pointer (some ⟨N,0,none⟩))),(4,.v (.pointer (some ⟨N+1,0,none⟩))),(6,.v (.pointer (some ⟨M,0,none⟩))),(22,.sl 13 (g.ak.map aQ.e)),(23,iV g.ak.length),(24,iV (k+1:Nat))]) ?_,(hI _ _).2 ⟨k+1,_,dg++[c],.v (.slice (some ⟨H'.next+1,0,none⟩) (dg.length+1) (dg.length+1)),by omega, ?_,by simpa using aU,λx hx=>(by
            rcases PX.1 hx with h|h
            . exact bo x h
            . simp at h;subst h;exact hc),.inr ⟨H'.next+1,by omega, ?_,by simp, ?_⟩, ?_, ?_, ?_, ?_,rfl⟩⟩
           all_goals simp(disch:=omega)[go_sem,e1,e2,e3,e4,ai.e,Dg.e]
           all_goals omega
   . have az:¬(k:Int)<g.ak.length:=by omega
     simp(disch:=omega)[go_sem,az,f4,ai.e];obtain⟨l,bF,cg,hz⟩:=bp.fz (g:=g) f4;refine an.still l cg (.cons hz (.cons (.refl _) .nil)) ?_;have bG:F∉l:=λh=>by have:=bF F h;omega
     have ch:N+1∉l:=λh=>by have:=bF _ h;omega
     refine aa5 (F:=F) ⟨g,dg⟩ ⟨aU.trans (by simp;omega),bo,hg.ak.len,hg.size.aH,λp hp=>(hg.ak.ok p hp).left,λp hp=>(hg.size.right p hp).1⟩ NU (aI dg) (hE dg) ⟨cf,aS,aw⟩ (by rw[mA,if_neg bG,f1]) (by rw[uP];omega) λH' T hn af=> ?_;rw[uP]at hn af;have e1:H'.get F=some (.row [bV false] true 0):=by rw[af F (by omega),mA,if_neg bG,f1]
     have e3:H'.get (N+1)=some (.row [iV 0] true 0):=by rw[af (N+1) (by omega),mA,if_neg ch,f3]
     simp(disch:=omega)[go_sem,e3];refine⟨λi h=>(by cases h),λg' cl=> ?_, ?_⟩
     . obtain rfl:g'=93:=by simpa using cl
       rfl
     . simp(disch:=omega)[go_sem];intro aa q1 q2 bU q3;refine hk aa _ (by omega) λi hi=> ?_;by_cases dE:i=F
       . subst dE;rw[hF,q2,e1]
       . exact q3 i (by omega) dE
theorem Ib(g:ai)(hg:GV g)(NU:Int->Prop)(aI:∀dg,rY ⟨g,dg⟩ NU)(hE:∀dg,yr ⟨g,dg⟩ NU):ay E false 32 [.agg g.e] (iV 0):=by
 refine aW Tryz.ntmps32 Tryz.results32 λN=> ?_;simp(disch:=omega)[go_sem,ai.e];refine aa6 (F:=N+1) g hg NU aI hE (by simp(disch:=omega)[go_sem]) (by simp(disch:=omega)[go_sem]) λh' T hn hs=> ?_;have e1:h'.get (N+1)=some (.row [bV false] true 0):=by rw[hs (N+1) (by simp(disch:=omega)[go_sem])];simp(disch:=omega)[go_sem]
 simp(disch:=omega)[go_sem,e1]
end Go.Sp
end

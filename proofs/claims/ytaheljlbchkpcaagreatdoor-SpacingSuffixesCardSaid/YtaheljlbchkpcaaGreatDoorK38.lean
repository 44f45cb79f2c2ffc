/- SpacingSuffixes: parts of its proof (Fa7). -/
import Derived.Test.YtaheljlbchkpcaaGreatDoorK37
set_option linter.unusedVariables false
set_option linter.unusedSimpArgs false
noncomputable section
open Go Go.aw Go.Proofs
namespace Go.Sp
set_option maxRecDepth 100000
theorem aA.JG{t:Tr DV}{n N:Nat}{dd:List FuncId}{h:ab}{l:List (Nat×DV)}{r:List (Nat×bF)}(F:List Nat)(hF:∀i∈F,(h.get i).isSome=true)(hN:h.next=N){i:Nat}{v d:DV}(hi:t.get i=some v)(hz:Fz (rowsOf h F) v d)(ht:nC t l)(hh:p7 h r)(hr:∀p∈r,p.1∉F):aA ⟨t,n,dd,h⟩ ⟨bQ ((i,d)::l),n,dd,cK N r⟩:=by
 refine aA.of F hF (by rw[wZ,hN]) (λj w hw=> ?_) λj o ho=> ?_
 . rw[Cs]at hw
   split at hw
   . rename_i he;subst he;cases hw;exact⟨v,hi,hz⟩
   . exact⟨w,w8 ht.mem j w hw,.refl w⟩
 . have h1:=Ct hh.mem j o ho;refine⟨λhj=> ?_,.inl h1⟩;have:∀{r:List (Nat×bF)},(∀p∈r,p.1∉F)->(cK N r).get j=none:=by
    intro r
    induction r with
    |nil=>intro _;rw[zd]
    |cons x r ih=>
     intro hr;rw[wY]
     split
     . rename_i he;subst he;exact absurd hj (hr x (by simp))
     . exact ih λp hp=>hr p (List.mem_cons_of_mem _ hp)
   rw[this hr]at ho;cases ho
def zU(a:An)(NU:Int->Prop):Prop:=∀p∈a.g.ak,∀(k:Nat) (s:Sym),p.right[k]? =some s->s.tok=false->(∀(i:Nat) (s':Sym),i≠k->p.right[i]? =some s'->s'.tok=false/\NU s'.idx)->p.left<s.idx/\s.idx<a.g.aH.length
theorem adP{α:Type}(l:List α)(m i:Nat)(x:α)(h:l[i]? =some x)(hi:i≠m):x∈l.take m++l.drop (m+1):=by
 rw[List.mem_append];rcases Nat.lt_or_ge i m with h1|h1
 . exact .inl (List.mem_of_getElem? (i:=i) (by rw[List.getElem?_take,if_pos h1,h]))
 . exact .inr (List.mem_of_getElem? (i:=i-(m+1)) (by rw[List.getElem?_drop,show m+1+(i-(m+1))=i by omega,h]))
def vz(n:Int)(l:List ((Int×Int)×Nat)):Prop:=∀x c,bf l x=some c->0<=x.1/\x.1<x.2/\x.2<n
theorem vz.put{n:Int}{l:List ((Int×Int)×Nat)}(h:vz n l){x:Int×Int}{c:Nat}(hx:0<=x.1/\x.1<x.2/\x.2<n):vz n (Go.aw.put l x c):=λy d hd=>by
 rw[nq]at hd
 split at hd
 . rename_i he;rw[he];exact hx
 . exact h y d hd
theorem JH{h:ab}{R len sz b n ah:Nat}{cs new:List DV}{K:DV×ab×List Nat->Prop}(hg:h.get R=some (.row cs true ah))(he:ah=0\/ah=sz)(hc:cs.length=len*sz)(hs:0<sz)(hn:new.length=n*sz)(h1:new.all di=true)(hb:(len+n)*(b+1)<=1073741824)(hR:R<h.next)
 (hk:∀R' h' T bk,(bk=0\/bk=sz)->h'.get R'=some (.row (cs++new) true bk)->(R'=R\/h.next<=R')->R'<h'.next->h.next<=h'.next->(∀i,i≠R->i<h.next->h'.get i=h.get i)->(∀i∈T,i=R)->K (.v (.slice (some ⟨R',0,none⟩) (len+n) (len+n)),h',T)):aG (eW h (some ⟨R,0,none⟩) len len sz b n new) K:=by
 rcases Nat.eq_zero_or_pos n with rfl|bH
 . have:new=[]:=List.eq_nil_of_length_eq_zero (by omega);subst this;refine⟨(.v (.slice (some ⟨R,0,none⟩) (len+0) len),h,[]),by simp[eW], ?_⟩;have:=hk R h [] ah he (by simpa using hg) (.inl rfl) hR (Nat.le_refl _) (λi _ _=>rfl) (λi hi=>by cases hi);simpa using this
 . rcases he with rfl|rfl
   . refine⟨_,Gw h R len sz b n cs new true hg hc bH hb,hk h.next _ [] sz (.inr rfl) ?_ (.inr (Nat.le_refl _)) (by rw[ab.aZ];omega) (by rw[ab.aZ];omega) (λi _ hi=> ?_) (λi hi=>by cases hi)⟩
     . rw[ab.dT,if_pos rfl]
     . rw[ab.dT,if_neg (by omega)]
   . refine⟨_,wP h R len ah b n cs new hg hc hs bH h1 hb,hk h.next _ [R] ah (.inr rfl) ?_ (.inr (Nat.le_refl _)) (by rw[ab.aZ,ab.aS];omega) (by rw[ab.aZ,ab.aS];omega) (λi dz hi=> ?_) (λi hi=>by simpa using hi)⟩
     . rw[ab.dT,ab.aS,if_pos rfl]
     . rw[ab.dT,ab.aS,if_neg (by omega),ab.bw,if_neg dz]
theorem JI(l:List Sym):((l.map Sym.e).flatten).all di=true:=by
 simp only[List.all_eq_true,List.mem_flatten,List.mem_map];rintro x ⟨_,⟨s,_,rfl⟩,hx⟩;simp only[Sym.e,List.mem_cons,List.not_mem_nil,or_false]at hx;rcases hx with rfl|rfl<;>rfl
theorem DM(l:List Sym):((l.map Sym.e).flatten).length=l.length*2:=by
 rw[fQ (k:=2) (λx hx=>by obtain⟨y,_,rfl⟩:=List.mem_map.1 hx;rfl),List.length_map]
theorem JJ:E.elem 71=some 2:=by kernel_rfl
theorem adQ{h:ab}(xs:List (List DV))(m:Nat)(hm:m<=xs.length):dX E h 71 (some (.sl 2 xs)) (some none) (some (some (iV m))) (some none)=some (.sl 2 (xs.take m)):=by
 have h1:(m:Int)<=xs.length:=by omega
 simp[dX,fZ,gr,kl,dW,JJ,h1,hm]
theorem adR{h:ab}(xs:List (List DV))(m:Nat)(hm:m<=xs.length):dX E h 71 (some (.sl 2 xs)) (some (some (iV m))) (some none) (some none)=some (.sl 2 (xs.drop m)):=by
 have h1:(m:Int)<=xs.length:=by omega
 simp[dX,fZ,gr,kl,dW,JJ,h1,hm];exact List.take_of_length_le (by simp)
theorem adS{h:ab}(xs:List (List DV))(m:Nat)(hm:m+1<=xs.length):dX E h 71 (some (.sl 2 xs)) (some (some (.v (.int .i64 ((m:Int)+1))))) (some none) (some none)=some (.sl 2 (xs.drop (m+1))):=adR xs (m+1) hm
theorem adT{κ:Type}[DecidableEq κ]{l:List (κ×Nat)}(hl:j5 l)(k:κ):cR l k<256:=by
 unfold cR;cases h:bf l k with
 |none=>simp
 |some c=>simpa using hl k c h
theorem adU{e:Env}{ty:TypeId}{k:Value}{d:DV}{es aU:List bA}{clock ad:Nat}(hu:kT e ty k d es clock=some (.map aU ad)):aU.length<=es.length+1:=by
 unfold kT at hu
 split at hu
 . split at hu
   . cases hu
   . split at hu
     . split at hu
       . cases hu
       . split at hu
         . cases hu;rw[List.length_modify];omega
         . cases hu
       . cases hu;rw[List.length_append];exact Nat.le_refl _
     . cases hu
 . cases hu
theorem adV(n:Int):vz n []:=λx c h=>by cases h
set_option maxHeartbeats 8000000 in
theorem adW{K:cF}{dd:List FuncId}{h:ab}(a:An)(ha:a.Ok)(NU:Int->Prop)(dA:tF a NU)(hE:zU a NU)(cd:∃c,a.g.family=aF c/\c<256)
 (hk:∀h' T R es clock lo,jz es lo->(∀p∈lo,p.2=0)->lM es clock->h.next<=R->R<h'.next->h'.get R=some (.map es clock)->(∀i,i<h.next->h'.get i=h.get i)->K (.v (.map (some R))) dd h' T):
 aq E false K dd h (59,[.ptr a.e 0]):=by
 refine c8.frame [] (by simp) ?_;obtain⟨N,hN⟩:∃N,h.next=N:=⟨_,rfl⟩;refine im (K:=λv _ cM _=>∀aB:ab,aB.next=cM.next->(∀i,(i∈[]\/h.next<=i)->aB.get i=cM.get i)->(∀i,i<h.next->i∉[]->aB.get i=h.get i)->K v dd aB []) (dd:=dd) VW rfl Tryz.ntmps59 Tryz.results59 ?_;simp only[fh];rw[hN];have eX:=ha.ak;simp(disch:=omega)[go_sem];refine aq.any (adv a ha NU dA λh1 T M bI aE lE dC cg ch dD dG dI _=> ?_);simp only[ab.FZ]at dD;obtain⟨N1,cl⟩:∃N1,h1.next=N1:=⟨_,rfl⟩;rw[cl]at dG;simp(disch:=omega)[go_sem,cl,An.e,ai.e];obtain⟨I,hI⟩:∃I:Nat->DS->Prop,∀j d,I j d↔∃(k P:Nat) (es:List bA) (clock:Nat) (l:List ((Int×Int)×Nat)),j+k=a.g.ak.length/\N1+1<P/\zT es l/\j5 l/\vz a.g.aH.length l/\lM es clock/\es.length<=16*k/\
  d=⟨bQ [(0,.ptr a.e 0),(3,.v (.map (some M))),(4,.v (.pointer (some ⟨N1+1,0,none⟩))),(29,.sl 13 (a.g.ak.map aR.e)),(30,iV a.g.ak.length),(31,iV k)],166,[],cK P [(M,.map bI aE),(N1,.map es clock),(N1+1,.row [.v (.map (some N1))] true 0)]⟩:=⟨_,λ_ _=>Iff.rfl⟩
 refine cx I a.g.ak.length ⟨_,aA.mk (N:=N1+2) ?_ ?_ ?_,(hI _ _).2 ⟨0,N1+2,[],0,[],rfl,by omega,rfl,Jy,adV _,lM.nil 0,by simp,rfl⟩⟩ ?_
 . simp(disch:=omega)[go_sem,cl]
 . simp(disch:=omega)[go_sem,An.e,ai.e]
 . simp(disch:=omega)[go_sem,dI]
 . intro j ds cN;obtain⟨k,P,av,aa,l1,hj,hP,b5,bl,bn,b6,dJ,rfl⟩:=(hI _ _).1 cN;clear cN;by_cases cO:k<a.g.ak.length
   . have bo:(k:Int)<a.g.ak.length:=by omega
     obtain⟨p,hx⟩:∃p,a.g.ak[k]? =some p:=⟨_,List.getElem?_eq_getElem cO⟩;have cm:=List.mem_of_getElem? hx;obtain⟨c,hc⟩:∃c,a.dH[k]? =some c:=⟨_,List.getElem?_eq_getElem (by rw[ha.len];exact cO)⟩;have cP:=ha.lt c (List.mem_of_getElem? hc);have bK:=ha.left p cm;have eY:=ha.right p cm;simp(disch:=omega)[go_sem,bo,hx,-getElem?_pos,aR.e];obtain⟨J,hJ⟩:∃J:Nat->DS->Prop,∀j d,J j d↔∃(m P2:Nat) (es:List bA) (clock:Nat) (l:List ((Int×Int)×Nat)),j+m=p.right.length/\P<P2/\zT es l/\j5 l/\vz a.g.aH.length l/\lM es clock/\es.length<=16*k+m/\
      d=⟨bQ [(0,.ptr a.e 0),(3,.v (.map (some M))),(4,.v (.pointer (some ⟨N1+1,0,none⟩))),(29,.sl 13 (a.g.ak.map aR.e)),(30,iV a.g.ak.length),(31,iV k),(5,iV k),(6,.v (.pointer (some ⟨P,0,none⟩))),(37,.sl 2 (p.right.map Sym.e)),(38,iV p.right.length),(39,iV m)],166,[],cK P2 [(M,.map bI aE),(N1,.map es clock),(N1+1,.row [.v (.map (some N1))] true 0),(P,.row p.e true 0)]⟩:=⟨_,λ_ _=>Iff.rfl⟩
     refine cx J p.right.length ⟨_,aA.mk (N:=P+1) ?_ ?_ ?_,(hJ _ _).2 ⟨0,P+1,av,aa,l1,rfl,by omega,b5,bl,bn,b6,by omega,rfl⟩⟩ ?_
     . simp(disch:=omega)[go_sem]
     . simp(disch:=omega)[go_sem,aR.e]
     . simp(disch:=omega)[go_sem,aR.e]
     . intro j2 dK bL;obtain⟨m,P2,bq,ao,l2,dL,eZ,bO,aI,aY,b7,dM,rfl⟩:=(hJ _ _).1 bL;clear bL;by_cases dN:m<p.right.length
       . have bb:(m:Int)<p.right.length:=by omega
         obtain⟨s,hs⟩:∃s,p.right[m]? =some s:=⟨_,List.getElem?_eq_getElem dN⟩;cases ht:s.tok with
         |true=>
          simp(disch:=omega)[go_sem,bb,hs,-getElem?_pos,Sym.e,ht,aD];refine⟨j2-1,by omega,_,aA.mk (N:=P2+1) ?_ ?_ ?_,(hJ _ _).2 ⟨m+1,P2+1,bq,ao,l2,by omega,by omega,bO,aI,aY,b7,by omega,rfl⟩⟩
          . simp(disch:=omega)[go_sem]
          . simp(disch:=omega)[go_sem,Sym.e]
          . simp(disch:=omega)[go_sem]
         |false=>
          simp(disch:=omega)[go_sem,bb,hs,-getElem?_pos,Sym.e,ht,aD];refine ck [cT 0,ae 0,aJ 2,ae 0,aJ 14,aN 31,lH 0,dF 64,lH 0,lH 256,dF 960,aN 2047,ae 4095] (by kernel_rfl) 1 rfl ?_;simp(disch:=omega)[go_sem,aR.e,aD];refine⟨_,adQ _ m (by simp;omega), ?_⟩;simp(disch:=omega)[go_sem,aR.e,aD];rw[<-List.map_take];refine JH (cs:=[]) (ah:=0) (by simp(disch:=omega)[go_sem]) (.inl rfl) rfl (by omega) (by rw[DM,List.length_take];omega) (JI _) (by omega) (by simp(disch:=omega)[go_sem];try omega) λR1 h2 T1 z1 q1 q2 q3 q4 q5 q6 q7=> ?_;simp(disch:=omega)[go_sem]at q3 q4 q5 q6;simp(disch:=omega)[go_sem,aR.e,aD,q6];refine⟨λh=>by have:=q7 P h;omega, ?_⟩;refine⟨_,adS _ m (by simp;omega), ?_⟩;simp(disch:=omega)[go_sem,aR.e,aD];rw[<-List.map_drop];have bg:((p.right.take m).map Sym.e).flatten.length=m*2:=by rw[DM,List.length_take];omega
          have bh:((p.right.drop (m+1)).map Sym.e).flatten.length=(p.right.length-(m+1))*2:=by rw[DM,List.length_drop]
          refine JH (cs:=((p.right.take m).map Sym.e).flatten) (ah:=z1) (by simpa using q2) q1 bg (by omega) bh (JI _) (by omega) q4 λR2 h3 T2 z2 w1 w2 w3 w4 w5 w6 w7=> ?_;have cQ:h3.get M=some (.map bI aE):=by rw[w6 M (by omega) (by omega),q6 M (by omega) (by omega)];simp(disch:=omega)[go_sem]
          have dO:h3.get N1=some (.map bq ao):=by rw[w6 N1 (by omega) (by omega),q6 N1 (by omega) (by omega)];simp(disch:=omega)[go_sem]
          have dP:h3.get (N1+1)=some (.row [.v (.map (some N1))] true 0):=by rw[w6 (N1+1) (by omega) (by omega),q6 (N1+1) (by omega) (by omega)];simp(disch:=omega)[go_sem]
          have cW:h3.get P=some (.row p.e true 0):=by rw[w6 P (by omega) (by omega),q6 P (by omega) (by omega)];simp(disch:=omega)[go_sem,aR.e]
          have dQ:h3.get P2=some (.row [bV false,iV s.idx] true 0):=by rw[w6 P2 (by omega) (by omega),q6 P2 (by omega) (by omega)];simp(disch:=omega)[go_sem]
          obtain⟨rest,aL⟩:∃rest,p.right.take m++p.right.drop (m+1)=rest:=⟨_,rfl⟩;obtain⟨L,hL⟩:∃L,m+(p.right.length-(m+1))=L:=⟨_,rfl⟩;have cn:rest.length=L:=by rw[<-aL,List.length_append,List.length_take,List.length_drop];omega
          have cp:h3.get R2=some (.row (rest.map Sym.e).flatten true z2):=by rw[w2,<-aL,List.map_append,List.flatten_append]
          rw[hL];clear w2 bg bh;subst cn;simp(disch:=omega)[go_sem,aR.e,aD,An.e,ai.e,hc,-getElem?_pos,Dg.e];refine aq.any (adD (es:=bI) (clock:=aE) (l:=lE) (R:=R2) (ah:=z2) (wr:=true) (syms:=rest) (c:=c) cQ (by omega) cp (by omega) (by omega) dC cg cP (by omega) λN4 e0=> ?_);have cX:=zQ lE rest c cP;obtain⟨c4,bR⟩:∃c4,gl lE c rest=c4:=⟨_,rfl⟩;rw[bR]at cX⊢;simp(disch:=omega)[go_sem,Dg.e];obtain⟨Q,hQ⟩:∃Q:Nat->DS->Prop,∀j d,Q j d↔∃(q P3 c5:Nat),j+q=rest.length/\N4<P3/\c5<256/\(c5≠0->c5=c4/\∀(i:Nat) (s:Sym),i<q->rest[i]? =some s->s.tok=false)/\
           d=⟨bQ [(68,.sl 2 (rest.map Sym.e)),(0,.ptr a.e 0),(3,.v (.map (some M))),(4,.v (.pointer (some ⟨N1+1,0,none⟩))),(29,.sl 13 (a.g.ak.map aR.e)),(30,iV a.g.ak.length),(31,iV k),(5,iV k),(6,.v (.pointer (some ⟨P,0,none⟩))),(37,.sl 2 (p.right.map Sym.e)),(38,iV p.right.length),(39,iV m),(8,.v (.pointer (some ⟨P2,0,none⟩))),(10,.v (.pointer (some ⟨N4,0,none⟩))),(69,iV rest.length),(70,iV q)],166,[],cK P3 [(M,.map bI aE),(N1,.map bq ao),(N1+1,.row [.v (.map (some N1))] true 0),(P,.row p.e true 0),(P2,.row s.e true 0),(N4,.row (aF c5).e true 0)]⟩:=⟨_,λ_ _=>Iff.rfl⟩
          refine cx Q rest.length ⟨_,aA.JG (N:=N4+1) [R2] ?_ ?_ (by simp(disch:=omega)[go_sem];rfl) ?_ ?_ ?_ ?_,(hQ _ _).2 ⟨0,N4+1,c4,rfl,by omega,cX,λ_=>⟨rfl,λi s hi=>by omega⟩,rfl⟩⟩ ?_
          . simp(disch:=omega)[go_sem,cp]
          . simp(disch:=omega)[go_sem]
          . exact eO (ah:=z2) (hY (by simp) (by simp(disch:=omega)[go_sem,cp];rfl)) (by omega) (by omega) (by simp) (by simp) (λx h=>by obtain⟨y,_,rfl⟩:=List.mem_map.1 h;rfl)
          . simp(disch:=omega)[go_sem,An.e,ai.e,Dg.e]
          . simp(disch:=omega)[go_sem,cQ,dO,dP,cW,dQ,aR.e,Sym.e,ht,Dg.e]
          . simp;omega
          . intro j3 dV bT;obtain⟨q,P3,c5,dY,cW,bD,bs,rfl⟩:=(hQ _ _).1 bT;clear bT;by_cases ea:q<rest.length
            . have aO:(q:Int)<rest.length:=by omega
              obtain⟨u,hu⟩:∃u,rest[q]? =some u:=⟨_,List.getElem?_eq_getElem ea⟩;cases cr:u.tok with
              |true=>
               simp(disch:=omega)[go_sem,aO,hu,-getElem?_pos,Sym.e,cr,aD];refine aq.mk (DF false) λM5 eb=> ?_;simp(disch:=omega)[go_sem]at eb;simp(disch:=omega)[go_sem,Dg.e,aD];refine⟨j3-1,by omega,_,aA.mk (N:=M5) ?_ ?_ ?_,(hQ _ _).2 ⟨q+1,M5,0,by omega,by omega,by omega,λh=>absurd rfl h,rfl⟩⟩
               . simp(disch:=omega)[go_sem]
               . simp(disch:=omega)[go_sem]
               . simp(disch:=omega)[go_sem,Dg.e,Sym.e];exact⟨rfl,rfl⟩
              |false=>
               simp(disch:=omega)[go_sem,aO,hu,-getElem?_pos,Sym.e,cr,aD];refine⟨j3-1,by omega,_,aA.mk (N:=P3+1) ?_ ?_ ?_,(hQ _ _).2 ⟨q+1,P3+1,c5,by omega,by omega,bD,λh=>⟨(bs h).1,λi s' hi bU=> ?_⟩,rfl⟩⟩
               . simp(disch:=omega)[go_sem]
               . simp(disch:=omega)[go_sem]
               . simp(disch:=omega)[go_sem,Sym.e]
               . rcases Nat.lt_or_ge i q with h1|h1
                 . exact(bs h).2 i s' h1 bU
                 . have:i=q:=by omega
                   subst this;rw[hu]at bU;cases bU;exact cr
            . have aO:¬(q:Int)<rest.length:=by omega
              have cZ:=zP bD;by_cases hz:c5=0
              . have aQ:=cZ.2 hz;simp(disch:=omega)[go_sem,aO,Dg.e,aQ,aD];refine⟨j2-1,by omega,_,aA.mk (N:=P3) ?_ ?_ ?_,(hJ _ _).2 ⟨m+1,P3,bq,ao,l2,by omega,by omega,bO,aI,aY,b7,by omega,rfl⟩⟩
                . simp(disch:=omega)[go_sem]
                . simp(disch:=omega)[go_sem]
                . simp(disch:=omega)[go_sem]
              . have aQ:¬(aF c5).root=0:=λh=>hz (cZ.1 h);obtain⟨ct,ec⟩:=bs hz;have ee:=DH lE rest c (by rw[bR,<-ct];exact hz);have c1:=hE p cm m s hs ht λi s' hi bU=>by
                 have c2:s'∈rest:=by rw[<-aL];exact adP _ _ _ _ bU hi
                 obtain⟨i2,dS⟩:=List.getElem?_of_mem c2;have c3:=ec i2 s' (by have:=(List.getElem?_eq_some_iff.1 dS).1;omega) dS;exact⟨c3,ch _ (ee.2 s' c2 c3)⟩
                have c6:=adT aI (p.left,s.idx);have c7:=DB (cR l2 (p.left,s.idx)) c5 c6 bD;have bj:=rM (aj:=true) (aF (cR l2 (p.left,s.idx)|||c5));simp only[Dg.e]at c7 bj;simp(disch:=omega)[go_sem,aO,Dg.e,aQ,aD,aR.e,Sym.e];refine ck [⟨.read,0,some (0,4),true⟩,⟨.read,0,some (0,4),true⟩,aJ 0,aJ 0,aN 12,dF 0,aN 60,ae 124,ae 124,aN 508,aN 1023] (by kernel_rfl) 0 rfl ?_;simp(disch:=omega)[go_sem,aR.e,Sym.e,aD];refine⟨by omega, ?_⟩;refine adA (es:=bq) (clock:=ao) (l:=l2) (by simp(disch:=omega)[go_sem]) (by simp(disch:=omega)[go_sem];try omega) bO λM6 ef=> ?_;simp(disch:=omega)[go_sem]at ef;simp(disch:=omega)[go_sem,Dg.e];refine⟨by omega,by omega, ?_⟩;refine aq.mk c7 λM7 eg=> ?_;simp(disch:=omega)[go_sem]at eg;simp(disch:=omega)[go_sem];refine aq.mk bj λM8 eh=> ?_;simp(disch:=omega)[go_sem]at eh;obtain⟨aU,ad,h8,h9⟩:=qi zS xJ bO (p.left,s.idx) ao (cR l2 (p.left,s.idx)|||c5);simp(disch:=omega)[go_sem];refine⟨_,tA (es:=bq) (clock:=ao) (by simp(disch:=omega)[go_sem]) rfl h8, ?_⟩;simp(disch:=omega)[go_sem,aD];refine⟨j2-1,by omega,_,aA.mk (N:=M8) ?_ ?_ ?_,(hJ _ _).2 ⟨m+1,M8,aU,ad,_,by omega,by omega,h9,aI.put (xI c6 bD),aY.put ⟨bK.1,c1.1,c1.2⟩,b7.up h8,by have:=adU h8;omega,rfl⟩⟩
                . simp(disch:=omega)[go_sem]
                . simp(disch:=omega)[go_sem]
                . simp(disch:=omega)[go_sem,aR.e]
       . have bb:¬(m:Int)<p.right.length:=by omega
         simp(disch:=omega)[go_sem,bb,aD];refine⟨j-1,by omega,_,aA.mk (N:=P2) ?_ ?_ ?_,(hI _ _).2 ⟨k+1,P2,bq,ao,l2,by omega,by omega,bO,aI,aY,b7,by omega,rfl⟩⟩
         . simp(disch:=omega)[go_sem]
         . simp(disch:=omega)[go_sem]
         . simp(disch:=omega)[go_sem]
   . have bo:¬(k:Int)<a.g.ak.length:=by omega
     simp(disch:=omega)[go_sem,bo];refine⟨_,JE (es:=av) (clock:=aa) xJ (by simp(disch:=omega)[go_sem]), ?_⟩;simp(disch:=omega)[go_sem];obtain⟨n,hn⟩:∃n,a.g.aH.length=n:=⟨_,rfl⟩;have ei:=ha.aH;rw[hn]at bn ei;obtain⟨J,hJ⟩:∃J:Nat->DS->Prop,∀j d,J j d↔∃(seen:List Nat) (aC:List bA) (au:Nat) (lN:List (Int×(Nat×List Int))) (b:Nat) (H:ab),j=left av seen/\j+b<=av.length/\P+2<H.next/\DK aC lN/\nO H (P+2) n l1 b lN/\
      H.get N1=some (.map av aa)/\H.get (N1+1)=some (.row [.v (.map (some N1))] true 0)/\H.get P=some (.map aC au)/\H.get (P+1)=some (.row [.v (.map (some P))] true 0)/\H.get (P+2)=some (.cD (some N1) aa seen aa)/\
      d=⟨bQ [(0,.ptr a.e 0),(4,.v (.pointer (some ⟨N1+1,0,none⟩))),(14,.v (.pointer (some ⟨P+1,0,none⟩))),(100,.v (.pointer (some ⟨P+2,0,none⟩)))],166,[],H⟩:=⟨_,λ_ _=>Iff.rfl⟩
     refine cx J av.length ⟨_,aA.bN (l:=[(0,.ptr a.e 0),(4,.v (.pointer (some ⟨N1+1,0,none⟩))),(14,.v (.pointer (some ⟨P+1,0,none⟩))),(100,.v (.pointer (some ⟨P+2,0,none⟩)))]) ?_,(hJ _ _).2 ⟨[],[],0,[],0,_,(JA av).symm,by simp, ?_,.nil ..,.nil .., ?_, ?_, ?_, ?_, ?_,rfl⟩⟩ ?_
     . simp(disch:=omega)[go_sem,An.e,ai.e]
     . simp(disch:=omega)[go_sem]
     . simp(disch:=omega)[go_sem]
     . simp(disch:=omega)[go_sem]
     . simp(disch:=omega)[go_sem]
     . simp(disch:=omega)[go_sem]
     . simp(disch:=omega)[go_sem]
     . intro j2 dK bL;obtain⟨seen,aC,au,lN,b,H,dL,e6,ej,hN,bW,f1,f2,f3,f4,f5,rfl⟩:=(hJ _ _).1 bL;clear bL;simp(disch:=omega)[go_sem];refine .inr ⟨rfl,_,by simp(disch:=omega)[go_sem],P+2,N1,aa,seen,aa,av,aa,rfl,f5,f1,b6.1,Nat.le_refl _,λek=> ?_,λx hx en=> ?_⟩
       . obtain⟨cf,da,cu⟩:=cd;have bX:a.g.family.nodes=(aF cf).nodes:=by rw[da]
         have bY:a.g.family.root=(aF cf).root:=by rw[da]
         obtain⟨O,hO⟩:∃O,H.next=O:=⟨_,rfl⟩;rw[hO]at ej;simp(disch:=omega)[go_sem,An.e,ai.e,hO];obtain⟨G,hG⟩:∃G:Nat->DS->Prop,∀j d,G j d↔∃(k:Nat) (H':ab) (es:List bA) (clk:Nat) (lo:List (Int×Nat)),j+k=n/\O<H'.next/\(∀i,i<O->H'.get i=H.get i)/\H'.get O=some (.map es clk)/\jz es lo/\(∀p∈lo,p.2=0)/\lM es clk/\
          d=⟨bQ [(0,.ptr a.e 0),(4,.v (.pointer (some ⟨N1+1,0,none⟩))),(14,.v (.pointer (some ⟨P+1,0,none⟩))),(16,.v (.map (some O))),(122,iV n),(123,iV k)],166,[],H'⟩:=⟨_,λ_ _=>Iff.rfl⟩
         refine cx G n ⟨_,aA.bN (l:=[(0,.ptr a.e 0),(4,.v (.pointer (some ⟨N1+1,0,none⟩))),(14,.v (.pointer (some ⟨P+1,0,none⟩))),(16,.v (.map (some O))),(122,iV n),(123,iV (0:Nat))]) ?_,(hG _ _).2 ⟨0,_,[],0,[],rfl, ?_,λi hi=> ?_, ?_,rfl,λp h=>(by cases h),lM.nil 0,rfl⟩⟩ ?_
         . simp(disch:=omega)[go_sem,An.e,ai.e,hn]
         . simp(disch:=omega)[go_sem,hO]
         . simp(disch:=omega)[go_sem,hO]
         . simp(disch:=omega)[go_sem,hO]
         . intro j3 dV bT;obtain⟨k3,H3,bG,ay,db,dY,de,az,cv,cw,cy,cB,rfl⟩:=(hG _ _).1 bT;clear bT;have e1:H3.get N1=some (.map av aa):=by rw[az N1 (by omega),f1]
           have e2:H3.get (N1+1)=some (.row [.v (.map (some N1))] true 0):=by rw[az (N1+1) (by omega),f2]
           have e3:H3.get P=some (.map aC au):=by rw[az P (by omega),f3]
           have e4:H3.get (P+1)=some (.row [.v (.map (some P))] true 0):=by rw[az (P+1) (by omega),f4]
           by_cases e7:k3<n
           . have bt:(k3:Int)<n:=by omega
             simp(disch:=omega)[go_sem,bt,e4];cases aT:bf lN k3 with
             |none=>
              have h1:=tw kA rN hN k3 false DJ rfl aT;refine⟨_,mi (es:=aC) (clock:=au) e3 rfl h1, ?_⟩;simp(disch:=omega)[go_sem,fX,aD];refine⟨j3-1,by omega,_,aA.bN (l:=[(0,.ptr a.e 0),(4,.v (.pointer (some ⟨N1+1,0,none⟩))),(14,.v (.pointer (some ⟨P+1,0,none⟩))),(16,.v (.map (some O))),(122,iV n),(123,iV (k3+1:Nat))]) ?_,(hG _ _).2 ⟨k3+1,H3,bG,ay,db,by omega,de,az,cv,cw,cy,cB,rfl⟩⟩;simp(disch:=omega)[go_sem]
             |some r=>
              obtain⟨R,xs⟩:=r;obtain⟨q1,q2,q3,q4,q5,q6,q7,q8⟩:=bW.1 _ _ _ aT;have h1:=tu kA rN hN k3 false aT;refine⟨_,mi (es:=aC) (clock:=au) e3 rfl h1, ?_⟩;have eo:¬xs.length=0:=λh=>q6 (List.length_eq_zero_iff.1 h);have e5:H3.get R=some (.row (zs xs) true 1):=by rw[az R (by omega),q3]
              obtain⟨X,hX⟩:∃X,H3.next=X:=⟨_,rfl⟩;rw[hX]at de;simp(disch:=omega)[go_sem,xK,eo,q6,An.e,ai.e,bX,bY,hX];refine aq.any (Jz (N:=n) (n:=k3) (ST:=N1) (Bs:=N1+1) (NX:=P) (Bn:=P+1) (R:=R) (RM:=X) (Br:=X+1) (Q:=X+2) (Bq:=X+3) (es:=[]) (clk:=0) (l:=[]) (q:=[]) (cs:=[]) (o:=0) (ah:=0) (lS:=l1) (lN:=lN) (c0:=cf) (B:=2*mu n []) (xs:=xs) (by omega) (by omega) (by omega) (by omega) (by omega) (by omega) (by omega) (by omega) (by omega) (by simp(disch:=omega)[go_sem,hX]) (by simp(disch:=omega)[go_sem,hX]) (by simp(disch:=omega)[go_sem,hX,e1];rfl) (by simp(disch:=omega)[go_sem,hX,e2]) (by simp(disch:=omega)[go_sem,hX,e3];rfl) (by simp(disch:=omega)[go_sem,hX,e4]) (by simp(disch:=omega)[go_sem,hX]) (by simp(disch:=omega)[go_sem,hX]) (by simp(disch:=omega)[go_sem,hX]) (by simp(disch:=omega)[go_sem,hX]) (by simp(disch:=omega)[go_sem,hX,e5]) b5 bl hN rfl (.inl rfl) rfl rfl (by omega) (by omega) aT q8 (by omega) ⟨λk c h=>by simp[bf]at h,λy hy=>by cases hy⟩ cu rfl ?_ λH4 T4 b8 bu l4 ep Q4 o4 z4 bZ df dh er dj dk b0 b1 dm bR dn g1 g2 g3 af=> ?_)
              . have:=DL n [];omega
              simp(disch:=omega)[go_sem,hX]at dj af;have s1:H4.get N1=some (.map av aa):=by rw[af N1 (by omega) (by omega) (by omega) (by omega)];simp(disch:=omega)[go_sem,hX,e1]
              have s2:H4.get (N1+1)=some (.row [.v (.map (some N1))] true 0):=by rw[af (N1+1) (by omega) (by omega) (by omega) (by omega)];simp(disch:=omega)[go_sem,hX,e2]
              have s3:H4.get P=some (.map aC au):=by rw[af P (by omega) (by omega) (by omega) (by omega)];simp(disch:=omega)[go_sem,hX,e3]
              have s4:H4.get (P+1)=some (.row [.v (.map (some P))] true 0):=by rw[af (P+1) (by omega) (by omega) (by omega) (by omega)];simp(disch:=omega)[go_sem,hX,e4]
              have s5:H4.get (X+1)=some (.row [.v (.map (some X))] true 0):=by rw[af (X+1) (by omega) (by omega) (by omega) (by omega)];simp(disch:=omega)[go_sem,hX]
              have s6:H4.get O=some (.map bG ay):=by rw[af O (by omega) (by omega) (by omega) (by omega)];simp(disch:=omega)[go_sem,hX,cv]
              have s7:∀i,i<O->H4.get i=H.get i:=λi hi=>by rw[af i (by omega) (by omega) (by omega) (by omega),<-az i hi];simp(disch:=omega)[go_sem,hX]
              obtain⟨V,hV⟩:∃V:Nat->DS->Prop,∀j d,V j d↔∃(H4:ab) (b8:List bA) (bu:Nat) (l4:List (Int×Nat)) (q4:List Int) (Q4 o4 z4:Nat) (bZ:List DV),j=2*mu n l4+q4.length/\j<=1100000/\X+4<=H4.next/\jz b8 l4/\xL k3 n l4 q4/\X+1<Q4/\Q4≠X+3/\Q4<H4.next/\(z4=0\/z4=1)/\bZ.length=o4+q4.length/\bZ.drop o4=zs q4/\
               H4.get X=some (.map b8 bu)/\H4.get Q4=some (.row bZ true z4)/\H4.get (X+3)=some (.row [.v (.slice (some ⟨Q4,o4,none⟩) q4.length q4.length)] true 0)/\H4.get N1=some (.map av aa)/\H4.get (N1+1)=some (.row [.v (.map (some N1))] true 0)/\H4.get P=some (.map aC au)/\H4.get (P+1)=some (.row [.v (.map (some P))] true 0)/\H4.get (X+1)=some (.row [.v (.map (some X))] true 0)/\H4.get O=some (.map bG ay)/\(∀i,i<O->H4.get i=H.get i)/\
               d=⟨bQ [(0,.ptr a.e 0),(4,.v (.pointer (some ⟨N1+1,0,none⟩))),(14,.v (.pointer (some ⟨P+1,0,none⟩))),(16,.v (.map (some O))),(17,iV k3),(18,.v (.pointer (some ⟨X+1,0,none⟩))),(19,.v (.pointer (some ⟨X+3,0,none⟩))),(20,.fn 99 [] [.v (.pointer (some ⟨P+1,0,none⟩)),.v (.pointer (some ⟨X+1,0,none⟩)),.v (.pointer (some ⟨N1+1,0,none⟩)),.v (.pointer (some ⟨X+3,0,none⟩))]),(122,iV n),(123,iV k3)],166,[],H4⟩:=⟨_,λ_ _=>Iff.rfl⟩
              refine cx V _ ⟨_,aA.bN (l:=[(0,.ptr a.e 0),(4,.v (.pointer (some ⟨N1+1,0,none⟩))),(14,.v (.pointer (some ⟨P+1,0,none⟩))),(16,.v (.map (some O))),(17,iV k3),(18,.v (.pointer (some ⟨X+1,0,none⟩))),(19,.v (.pointer (some ⟨X+3,0,none⟩))),(20,.fn 99 [] [.v (.pointer (some ⟨P+1,0,none⟩)),.v (.pointer (some ⟨X+1,0,none⟩)),.v (.pointer (some ⟨N1+1,0,none⟩)),.v (.pointer (some ⟨X+3,0,none⟩))]),(122,iV n),(123,iV k3)]) ?_,(hV _ _).2 ⟨H4,b8,bu,l4,ep,Q4,o4,z4,bZ,rfl,by have:=DL n [];omega,by omega,df,dh,dk,b0,b1,dm,bR,dn,g1,g2,g3,s1,s2,s3,s4,s5,s6,s7,rfl⟩⟩ ?_
              . simp(disch:=omega)[go_sem,An.e,ai.e,bX,bY]
              clear hX af dj df dh dk b0 b1 dm bR dn g1 g2 g3 s1 s2 s3 s4 s5 s6 s7 er;intro j4 e8 dp;obtain⟨H5,ca,bc,l5,q5,Q5,o5,z5,dq,et,eu,e9,cb,bx,ew,b2,ez,bs,bD,dr,g1,g2,g3,s1,s2,s3,s4,s5,s6,s7,rfl⟩:=(hV _ _).1 dp;clear dp;have hmul:=DL n l5;cases q5 with
              |nil=>
               have eA:cR l5 (k3:Int)=0:=by
                unfold cR;cases hq:bf l5 (k3:Int)with
                |none=>rfl
                |some c=>have:=(bx.1 _ _ hq).2.1;omega
               simp(disch:=omega)[go_sem,g3,s5];refine xH (r:=X) (es:=ca) (clock:=bc) (l:=l5) g1 (by omega) cb λM9 dt=> ?_;rw[eA];obtain⟨aU,ad,h8,h9⟩:=qi kA tE cw k3 ay 0;simp(disch:=omega)[go_sem];refine⟨_,tA (es:=bG) (clock:=ay) (by simp(disch:=omega)[go_sem,s6]) rfl h8, ?_⟩;simp(disch:=omega)[go_sem,aD];refine⟨j3-1,by omega,_,aA.bN (l:=[(0,.ptr a.e 0),(4,.v (.pointer (some ⟨N1+1,0,none⟩))),(14,.v (.pointer (some ⟨P+1,0,none⟩))),(16,.v (.map (some O))),(122,iV n),(123,iV (k3+1:Nat))]) ?_,(hG _ _).2 ⟨k3+1,_,aU,ad,_,by omega, ?_,λi hi=> ?_, ?_,h9,λp hp=> ?_,cB.up h8,rfl⟩⟩
               . simp(disch:=omega)[go_sem]
               . simp(disch:=omega)[go_sem];omega
               . simp(disch:=omega)[go_sem,s7]
               . simp(disch:=omega)[go_sem]
               . rcases adJ hp with h|h
                 . exact cy p h
                 . rw[h]
              |cons m q5=>
               obtain⟨c5,b3⟩:=bx.2 m (by simp);obtain⟨cC,fa,fb⟩:=bx.1 m c5 b3;have eC:¬m=(k3:Int):=by omega
               have eD:=adM dr;have du:=adN dr;have dv:=adL (h:=H5) (R:=Q5) (o:=o5) (len:=q5.length+1) g2 bs (by omega);rw[show q5.length+1-1=q5.length from rfl]at dv;rw[List.length_cons]at bD et;simp(disch:=omega)[go_sem,g3,s5,g2,eD,-getElem?_pos];refine⟨_,dv, ?_⟩;have h1:=tu kA tE cb m false b3;simp(disch:=omega)[go_sem,eC,s5,g3];refine⟨_,mi (es:=ca) (clock:=bc) (by simp(disch:=omega)[go_sem,g1]) rfl h1, ?_⟩;simp(disch:=omega)[go_sem];cases cE:bf lN m with
               |none=>
                refine aq.any (adH (NX:=P) (Bn:=P+1) (c0:=c5) (by omega) (by simp(disch:=omega)[go_sem];try omega) (by simp(disch:=omega)[go_sem,s3];rfl) (by simp(disch:=omega)[go_sem,s4]) hN cE λM9 dt=> ?_);simp(disch:=omega)[go_sem]at dt;simp(disch:=omega)[go_sem];refine⟨2*mu n l5+q5.length,by omega,_,aA.bN (l:=[(0,.ptr a.e 0),(4,.v (.pointer (some ⟨N1+1,0,none⟩))),(14,.v (.pointer (some ⟨P+1,0,none⟩))),(16,.v (.map (some O))),(17,iV k3),(18,.v (.pointer (some ⟨X+1,0,none⟩))),(19,.v (.pointer (some ⟨X+3,0,none⟩))),(20,.fn 99 [] [.v (.pointer (some ⟨P+1,0,none⟩)),.v (.pointer (some ⟨X+1,0,none⟩)),.v (.pointer (some ⟨N1+1,0,none⟩)),.v (.pointer (some ⟨X+3,0,none⟩))]),(122,iV n),(123,iV k3)]) ?_,(hV _ _).2 ⟨_,ca,bc,l5,q5,Q5,o5+1,z5,dq,rfl,by omega, ?_,cb,⟨bx.1,λy hy=>bx.2 y (by simp[hy])⟩,ew,b2, ?_,bs,by omega,du, ?_, ?_, ?_, ?_, ?_, ?_, ?_, ?_, ?_,λi hi=> ?_,rfl⟩⟩
                all_goals simp(disch:=omega)[go_sem,g1,g2,s1,s2,s3,s4,s5,s6,s7]
                all_goals omega
               |some r=>
                obtain⟨R2,eE⟩:=r;obtain⟨r1,r2,r3,r4,r5,r6,r7,r8⟩:=bW.1 _ _ _ cE;refine aq.any (Jz (N:=n) (n:=k3) (ST:=N1) (Bs:=N1+1) (NX:=P) (Bn:=P+1) (R:=R2) (RM:=X) (Br:=X+1) (Q:=Q5) (Bq:=X+3) (es:=ca) (clk:=bc) (l:=l5) (q:=q5) (cs:=dq) (o:=o5+1) (ah:=z5) (lS:=l1) (lN:=lN) (c0:=c5) (B:=2*mu n l5+q5.length) (xs:=eE) (by omega) (by omega) (by omega) (by omega) (by omega) (by omega) (by omega) (by omega) b2 (by simp(disch:=omega)[go_sem];try omega) (by simp(disch:=omega)[go_sem];try omega) (by simp(disch:=omega)[go_sem,s1];rfl) (by simp(disch:=omega)[go_sem,s2]) (by simp(disch:=omega)[go_sem,s3];rfl) (by simp(disch:=omega)[go_sem,s4]) (by simp(disch:=omega)[go_sem,g1];try rfl) (by simp(disch:=omega)[go_sem,s5]) (by simp(disch:=omega)[go_sem,g2]) (by simp(disch:=omega)[go_sem]) (by simp(disch:=omega)[go_sem,s7,r3]) b5 bl hN cb bs (by omega) du (by omega) (by omega) cE r8 (by omega) ⟨bx.1,λy hy=>bx.2 y (by simp[hy])⟩ cC rfl (by omega) λH6 T6 eF cG l6 q6 Q6 o6 z6 eG eH eM fc eN eP cH cI eQ eR eU u1 u2 u3 af=> ?_);simp(disch:=omega)[go_sem]at eN af;have v1:H6.get N1=some (.map av aa):=by rw[af N1 (by omega) (by omega) (by omega) (by omega)];simp(disch:=omega)[go_sem,s1]
                have v2:H6.get (N1+1)=some (.row [.v (.map (some N1))] true 0):=by rw[af (N1+1) (by omega) (by omega) (by omega) (by omega)];simp(disch:=omega)[go_sem,s2]
                have v3:H6.get P=some (.map aC au):=by rw[af P (by omega) (by omega) (by omega) (by omega)];simp(disch:=omega)[go_sem,s3]
                have v4:H6.get (P+1)=some (.row [.v (.map (some P))] true 0):=by rw[af (P+1) (by omega) (by omega) (by omega) (by omega)];simp(disch:=omega)[go_sem,s4]
                have v5:H6.get (X+1)=some (.row [.v (.map (some X))] true 0):=by rw[af (X+1) (by omega) (by omega) (by omega) (by omega)];simp(disch:=omega)[go_sem,s5]
                have v6:H6.get O=some (.map bG ay):=by rw[af O (by omega) (by omega) (by omega) (by omega)];simp(disch:=omega)[go_sem,s6]
                have v7:∀i,i<O->H6.get i=H.get i:=λi hi=>by rw[af i (by omega) (by omega) (by omega) (by omega),<-s7 i hi];simp(disch:=omega)[go_sem]
                simp(disch:=omega)[go_sem];exact⟨2*mu n l6+q6.length,by omega,_,aA.bN (l:=[(0,.ptr a.e 0),(4,.v (.pointer (some ⟨N1+1,0,none⟩))),(14,.v (.pointer (some ⟨P+1,0,none⟩))),(16,.v (.map (some O))),(17,iV k3),(18,.v (.pointer (some ⟨X+1,0,none⟩))),(19,.v (.pointer (some ⟨X+3,0,none⟩))),(20,.fn 99 [] [.v (.pointer (some ⟨P+1,0,none⟩)),.v (.pointer (some ⟨X+1,0,none⟩)),.v (.pointer (some ⟨N1+1,0,none⟩)),.v (.pointer (some ⟨X+3,0,none⟩))]),(122,iV n),(123,iV k3)]) (by simp(disch:=omega)[go_sem]),(hV _ _).2 ⟨H6,eF,cG,l6,q6,Q6,o6,z6,eG,rfl,by omega,by omega,eH,eM,eP,cH,cI,eQ,eR,eU,u1,u2,u3,v1,v2,v3,v4,v5,v6,v7,rfl⟩⟩
           . have bt:¬(k3:Int)<n:=by omega
             simp(disch:=omega)[go_sem,bt];intro aB w1 w2 w3;exact hk aB _ O bG ay db cw cy cB (by omega) (by omega) (by rw[w2 O (by omega),cv]) λi hi=>w3 i (by omega)
       . obtain⟨⟨⟨u,y⟩,c⟩,hp,dw,dx⟩:=b5.mem hx;obtain⟨c',cc⟩:=adI hp;obtain⟨hu,cJ,cL⟩:=bn _ _ cc;simp only at dw dx hu cJ cL cc;have fe:=JD hx en;have ff:=b6.find hx;simp(disch:=omega)[go_sem];refine⟨_,JF (es:=av) (clock:=aa) (r:=P+2) (m:=N1) (since:=aa) (seen:=seen) (x:=x) (by simp(disch:=omega)[go_sem]) (by simp(disch:=omega)[go_sem,f1]) b6 hx, ?_⟩;rw[dw,dx,rO];simp(disch:=omega)[go_sem,fX];refine ck [dF 0,lH 0,dF 2,aJ 0,ae 0,aJ 16,aJ 56,ae 0,aJ 128,cT 384,aN 1016,aN 2047] (by kernel_rfl) 1 rfl ?_;simp(disch:=omega)[go_sem,f4,dU]
         repeat refine⟨by omega, ?_⟩
         cases aT:bf lN u with
         |none=>
          have h1:=tw kA rN hN u false DJ rfl aT;refine⟨_,mi (es:=aC) (clock:=au) (by simp(disch:=omega)[go_sem,f3]) rfl h1, ?_⟩;simp(disch:=omega)[go_sem,fX,dU];refine⟨_,s9 _ _ _ _ _ (by omega) (by omega), ?_⟩;simp(disch:=omega)[go_sem];obtain⟨aU,ad,h8,h9⟩:=qi kA rN hN u au (H.next+1+1,[y]);simp only[xK,List.length_singleton]at h8
          repeat refine⟨by omega, ?_⟩
          refine⟨_,tA (es:=aC) (clock:=au) (by simp(disch:=omega)[go_sem,f3]) rfl h8, ?_⟩;simp(disch:=omega)[go_sem];refine⟨left av (seen++[x.born]),by omega,_,aA.bN (l:=[(0,.ptr a.e 0),(4,.v (.pointer (some ⟨N1+1,0,none⟩))),(14,.v (.pointer (some ⟨P+1,0,none⟩))),(100,.v (.pointer (some ⟨P+2,0,none⟩)))]) ?_,(hJ _ _).2 ⟨seen++[x.born],aU,ad,_,b+1,_,rfl,by omega, ?_,h9,nO.put bW (c:=c') (R':=H.next+1+1) (xs:=[]) hu cJ cL cc (.inl ⟨aT,rfl⟩) (by omega) ?_ ?_ (λR2 w1 w2 w3=> ?_) (by omega), ?_, ?_, ?_, ?_, ?_,rfl⟩⟩
          all_goals simp(disch:=omega)[go_sem,f1,f2,f3,f4,f5]
          all_goals omega
         |some r=>
          obtain⟨R,xs⟩:=r;have h1:=tu kA rN hN u false aT;refine⟨_,mi (es:=aC) (clock:=au) (by simp(disch:=omega)[go_sem,f3]) rfl h1, ?_⟩;obtain⟨q1,q2,q3,q4,q5,q6,q7,q8⟩:=bW.1 _ _ _ aT;simp(disch:=omega)[go_sem,dU];refine⟨_,wP _ _ _ _ _ _ (zs xs) _ (by simp(disch:=omega)[go_sem,q3]) (by simp) (by omega) (by omega) (adE [y]) (by omega), ?_⟩;simp(disch:=omega)[go_sem];obtain⟨aU,ad,h8,h9⟩:=qi kA rN hN u au (H.next+1+1,xs++[y]);have eV:(xs++[y]).length=xs.length+1:=by simp
          simp only[xK,eV]at h8
          repeat refine⟨by omega, ?_⟩
          refine⟨_,tA (es:=aC) (clock:=au) (by simp(disch:=omega)[go_sem,f3]) rfl h8, ?_⟩;simp(disch:=omega)[go_sem];refine⟨left av (seen++[x.born]),by omega,_,aA.bN (l:=[(0,.ptr a.e 0),(4,.v (.pointer (some ⟨N1+1,0,none⟩))),(14,.v (.pointer (some ⟨P+1,0,none⟩))),(100,.v (.pointer (some ⟨P+2,0,none⟩)))]) ?_,(hJ _ _).2 ⟨seen++[x.born],aU,ad,_,b+1,_,rfl,by omega, ?_,h9,nO.put bW (c:=c') (R':=H.next+1+1) (xs:=xs) hu cJ cL cc (.inr ⟨R,aT⟩) (by omega) ?_ ?_ (λR2 w1 w2 w3=> ?_) (by omega), ?_, ?_, ?_, ?_, ?_,rfl⟩⟩
          all_goals try have w4:R2≠R:=λh=>w3 xs (by rw[h];exact aT)
          all_goals simp(disch:=omega)[go_sem,f1,f2,f3,f4,f5]
          all_goals omega
end Go.Sp
end

/- SpacingSuffixes: parts of its proof (Pt4 Pt5 Pt6 Pt7 Pt8). -/
import Derived.Test.YtaheljlbchkpcaaGreatDoorK27
import Derived.Test.YtaheljlbchkpcaaGreatDoorK40
set_option linter.unusedVariables false
set_option linter.unusedSimpArgs false
noncomputable section
open Go Go.aw Go.Proofs
namespace Go.Sp
set_option maxRecDepth 100000
def D1{γ:Type}(cb:FuncId)(af:List DV)(B N0:Nat)(h0:ab)(val:γ->DV)(db:γ->Nat->Bool->γ):Prop:=
 ∀(K:cF) (dd:List FuncId) (H:ab) (n:Nat) (is:Bool) (g:γ),N0<=H.next->(∀i,i<N0->i≠B->H.get i=h0.get i)->H.get B=some (.row [val g] true 0)->
  (∀h' T,(∀i∈T,i<N0)->H.next<=h'.next->h'.get B=some (.row [val (db g n is)] true 0)->(∀j,j≠B->j<H.next->h'.get j=H.get j)->K (bV true) dd h' T)->aq E true K dd H (cb,iV (n:Nat)::bV is::af)
theorem lO(h:aa)(s:ByteArray):fU E h 9 (.string s)=some (.int .i64 s.size):=by simp[fU,u9]
theorem drop_cons{t:ByteArray}{k:Nat}(h:k<t.size):∃b,t[k]? =some b/\t.data.toList.drop k=b::t.data.toList.drop (k+1):=by
 refine⟨t[k],by rw[getElem?_pos], ?_⟩;have hl:k<t.data.toList.length:=by simpa using h
 rw[List.drop_eq_getElem_cons hl];rfl
set_option maxHeartbeats 8000000 in
theorem D2{γ:Type}{K:cF}{dd:List FuncId}{h:ab}{m:dP}(hm:m.Ok)(t:ByteArray)(hlen:t.size<=1000000000)(cb:FuncId)(af:List DV)(B:Nat)(val:γ->DV)(db:γ->Nat->Bool->γ)(g:γ)
 (hB:h.get B=some (.row [val g] true 0)) (aM:B<h.next) (aE:D1 cb af B h.next h val db)
 (hk:∀h' T,h.next<=h'.next->h'.get B=some (.row [val (runM m db m.first 0 t.data.toList g)] true 0)->(∀i,i<h.next->i≠B->h'.get i=h.get i)->K (.bg []) dd h' T):
 aq E true K dd h (64,[.ptr m.e 0,sV t,.fn cb [] af]):=by
 refine im V0 rfl Tryz.ntmps64 Tryz.results64 ?_;obtain⟨N,hN⟩:∃N,h.next=N:=⟨_,rfl⟩;obtain⟨G,hG⟩:∃G,runM m db m.first 0 t.data.toList g=G:=⟨_,rfl⟩;obtain⟨me,aB⟩:∃me,m.e=me:=⟨_,rfl⟩;have ai:=dP.Ae m;rw[aB]at ai;rw[hG]at hk;rw[hN]at aM aE hk;simp(disch:=omega)[go_sem,hN,aB];simp(disch:=omega)[go_sem,hN,ai,lO];obtain⟨I,hI⟩:∃I:Nat->DS->Prop,∀j d,I j d↔∃(k now:Nat) (g':γ) (H:ab),j+k=t.size/\now<2^m.p.length/\runM m db now k (t.data.toList.drop k) g'=G/\N+2<H.next/\H.get N=some (.row [.ptr me 0] true 0)/\H.get (N+1)=some (.row [sV t] true 0)/\H.get (N+2)=some (.row (pl now) true 0)/\H.get B=some (.row [val g'] true 0)/\(∀i,i<N->i≠B->H.get i=h.get i)/\
  d=⟨bQ [(2,.fn cb [] af),(3,.v (.pointer (some ⟨N,0,none⟩))),(4,.v (.pointer (some ⟨N+1,0,none⟩))),(6,.v (.pointer (some ⟨N+2,0,none⟩))),(15,iV (t.size:Nat)),(16,iV (k:Nat))],38,[],H⟩:=⟨_,λ_ _=>Iff.rfl⟩
 refine cx I t.size ⟨_,aA.bN (l:=[(2,.fn cb [] af),(3,.v (.pointer (some ⟨N,0,none⟩))),(4,.v (.pointer (some ⟨N+1,0,none⟩))),(6,.v (.pointer (some ⟨N+2,0,none⟩))),(15,iV (t.size:Nat)),(16,iV (0:Nat))]) ?_,(hI _ _).2 ⟨0,m.first,g,_,rfl,hm.first,hG, ?_, ?_, ?_, ?_, ?_, ?_,rfl⟩⟩ ?_
 . simp(disch:=omega)[go_sem]
 . simp(disch:=omega)[go_sem,hN]
 . simp(disch:=omega)[go_sem,hN,ai]
 . simp(disch:=omega)[go_sem,hN]
 . simp(disch:=omega)[go_sem,hN,pl]
 . simp(disch:=omega)[go_sem,hN,hB]
 . intro i h1 h2;simp(disch:=omega)[go_sem,hN]
 . intro j ds aF;obtain⟨k,now,g',H,hj,ao,ad,hH,f1,f2,f3,f4,f5,rfl⟩:=(hI _ _).1 aF;clear aF;by_cases aO:k<t.size
   . have au:(k:Int)<t.size:=by omega
     obtain⟨b,aQ,aR⟩:=drop_cons aO;rw[aR]at ad;have aC:=aer hm b.toNat now ao;simp only[runM]at ad;obtain⟨P,hP⟩:∃P,H.next=P:=⟨_,rfl⟩;rw[hP]at hH;simp(disch:=omega)[go_sem,au,hP];refine J3 (hm.pow ao) 117 _ (λw H'=>∃s x:Nat,w<2^m.p.length/\s<2^m.p.length/\x<2^m.p.length/\(bits w).foldl (λs i=>lh m b.toNat i s) (s,x)=tK m b.toNat now/\P+2<H'.next/\H'.get (P+1)=some (.row (pl s) true 0)/\H'.get (P+1+1)=some (.row (pl x) true 0)/\H'.get P=some (.row [iV (k:Nat)] true 0)/\∀i,i<P->H'.get i=H.get i) ?_ ?_ ?_ ?_ ?_
     . rintro w' H' ⟨s,x,h1,h2,h3,h4,h5,h6,h7,h8,h9⟩;exact⟨0,by rw[h9 _ hH,f3]⟩
     . rintro w' H' K' aT aI ay ⟨s,x,h1,h2,h3,h4,h5,h6,h7,h8,h9⟩ aS;rw[J8 w' aI ay,List.foldl_cons]at h4;have aL:=J9 w' _ aI h1 hm.len;have hv:=J5 hm b.toNat _ aL (s,x) h2 h3;refine aep hm (s:=s) (x:=x) (n:=k) (t:=t) (b:=b) aL aQ (hm.pow h2) (hm.pow h3) (by rw[h9 _ (by omega),f2]) h8 (by rw[h9 _ (by omega),f1,aB]) h6 h7 ⟨by omega,by omega,by omega,by omega,by omega,by omega,by omega⟩ ⟨by omega,by omega⟩ λh' T q1 q2 q3 q4=>aS _ T ⟨_,_, ?_,hv.1,hv.2,h4,by omega,q2,q3, ?_,λi hi=> ?_⟩
       . exact Nat.lt_of_le_of_lt Nat.and_le_left h1
       . rw[q4 P (by omega) (by omega) (by omega),h8]
       . rw[q4 i (by omega) (by omega) (by omega),h9 i hi]
     . rintro w' H' M hM ⟨s,x,h1,h2,h3,h4,h5,h6,h7,h8,h9⟩;exact⟨s,x,h1,h2,h3,h4,by rw[ab.kj];omega,h6,h7,h8,h9⟩
     . refine⟨0,0,ao,Nat.two_pow_pos _,Nat.two_pow_pos _,rfl, ?_, ?_, ?_, ?_,λi hi=> ?_⟩
       all_goals simp(disch:=omega)[go_sem,hP,pl]
     . rintro H' T ⟨s,x,_,h2,h3,h4,h5,h6,h7,h8,h9⟩;rw[J7]at h4;have h4:(s,x)=tK m b.toNat now:=h4;rw[<-h4]at ad aC;simp only at ad aC;have heq:jK E .eql 130 (.tmp 21) (.tmp 22) (.agg (pl s)) (.agg [.v (.int .u64 0),.v (.int .u64 0),.v (.int .u64 0),.v (.int .u64 0),.v (.int .u64 0),.v (.int .u64 0),.v (.int .u64 0),.v (.int .u64 0)])=some (bV (decide (s=0))):=peq s (hm.pow h2);have e1:H'.get N=some (.row [.ptr me 0] true 0):=by rw[h9 _ (by omega),f1]
       have e2:H'.get (N+1)=some (.row [sV t] true 0):=by rw[h9 _ (by omega),f2]
       have e3:H'.get (N+2)=some (.row (pl now) true 0):=by rw[h9 _ (by omega),f3]
       have e4:H'.get B=some (.row [val g'] true 0):=by rw[h9 _ (by omega),f4]
       simp(disch:=omega)[go_sem];refine ck [aJ 0,ae 0,ae 3,ae 7,ae 15,dF 15,ae 47,aJ 15,ae 143,ae 399,aJ 911,aN 1935,aN 4095,ae 8191,ae 16383] (by kernel_rfl) 0 rfl ?_;by_cases az:s=0
       . rw[if_pos az]at ad;subst ad;subst az;simp(disch:=omega)[go_sem,h6,fm,gR,heq];intro T2;exact hk _ T2 (by rw[ab.kj];omega) e4 λi hi av=>(by rw[ab.uI,h9 i (by omega),f5 i hi av])
       . rw[if_neg az]at ad;simp(disch:=omega)[go_sem,h6,fm,gR,heq,az,h8,e1,ai,aD];refine⟨by omega, ?_⟩;refine aek (z:=0) (a:=s) (b:=m.last) (hm.pow h2) (hm.pow hm.last) h6 (by rw[ab.kj];omega) λM hM=> ?_;rw[ab.kj]at hM;simp(disch:=omega)[go_sem,h8,aD];rw[show((k:Int)+1)=((k+1:Nat):Int) by omega];refine aE _ _ _ (k+1) _ g' (by simp(disch:=omega)[go_sem];omega) (λi hi av=>by simp(disch:=omega)[go_sem,h9,f5,hi,av]) (by simp(disch:=omega)[go_sem,e4]) λh' T3 q0 q1 q2 q3=> ?_;simp(disch:=omega)[go_sem]at q1 q3;have e5:h'.get (P+1+1)=some (.row (pl x) true 0):=by rw[q3 _ (by omega) (by omega),h7]
         have e6:h'.get (N+2)=some (.row (pl now) true 0):=by rw[q3 _ (by omega) (by omega),e3]
         have e7:P∉T3:=λh=>by have:=q0 P h;omega
         simp(disch:=omega)[go_sem,e7,h8,e5,e6,fm,gR,jA,iD,aD];refine⟨j-1,by omega,_,aA.bN (l:=[(2,.fn cb [] af),(3,.v (.pointer (some ⟨N,0,none⟩))),(4,.v (.pointer (some ⟨N+1,0,none⟩))),(6,.v (.pointer (some ⟨N+2,0,none⟩))),(15,iV (t.size:Nat)),(16,iV (k+1:Nat))]) ?_,(hI _ _).2 ⟨k+1,x,_,_,by omega,aC.2,ad, ?_, ?_, ?_, ?_, ?_,λi hi av=> ?_,rfl⟩⟩
         . simp(disch:=omega)[go_sem]
         . simp(disch:=omega)[go_sem];omega
         . simp(disch:=omega)[go_sem];rw[q3 _ (by omega) (by omega),e1]
         . simp(disch:=omega)[go_sem];rw[q3 _ (by omega) (by omega),e2]
         . simp(disch:=omega)[go_sem,e6]
         . simp(disch:=omega)[go_sem,q2]
         . simp(disch:=omega)[go_sem];rw[q3 _ av (by omega),h9 _ (by omega),f5 _ hi av]
   . have au:¬(k:Int)<t.size:=by omega
     have hd:t.data.toList.drop k=[]:=List.drop_eq_nil_of_le (by simp;omega);rw[hd]at ad;have ad:g'=G:=ad;subst ad;simp(disch:=omega)[go_sem,au];intro T;exact hk _ T (by omega) f4 f5
end Go.Sp
end
noncomputable section
open Go Go.aw Go.Proofs
namespace Go.Sp
set_option maxRecDepth 100000
theorem Kb:bY E.P (underlying 9)=some .string:=by
 simp only[underlying,nB];show bY E.P (match E.P.underlying 9 with|some d=>pure d|none=>stuck "no such type" :Sem TypeDesc)=some .string;rw[J4];rfl
theorem Kc(n c:Nat)(k:BoundsCode)(h:n<=c):bY E.P (Instr.sliceBound (.int .i64 (n:Int)) c k)=some n:=by
 have h2:(n:Int)<=c:=by omega
 simp[Instr.sliceBound,nB,asIntOf,kX,h2,h]
theorem Kd{α β:Type}(f:α->β)(s:Sem α):bY E.P (Functor.map f s)=(bY E.P s).map f:=by
 rw[<-bind_pure_comp,nB];cases bY E.P s<;>rfl
theorem aes(s:ByteArray):s.extract 0 s.size=s:=by
 have:(s.extract 0 s.size).data=s.data:=by rw[ByteArray.data_extract];exact Array.extract_size
 cases s;cases h:ByteArray.extract _ 0 _;simp_all
theorem aet{H0:ab}(s:ByteArray):dX E H0 9 (some (sV s)) (some (some (iV 0))) (some none) (some none)=some (sV s):=by
 have h1:=Kc 0 s.size .sliceB (Nat.zero_le _);have h2:bY E.P (Instr.sliceAt 9 (.string s) (some (.int .i64 0)) none none)=some (.string s):=by
  simp only[Instr.sliceAt,nB,Kb,Option.bind_some,Instr.slice,Instr.sliceBounds,Option.isSome,kX];simp[nB,kX]at h1⊢;rw[Kd,h1];simp[aes]
 simp[dX,yM,u9,rh,exact,j8,ud,plain,ez,e9,h2]
theorem aeu{H0:ab}(s:ByteArray)(n:Nat)(h:n<=s.size):dX E H0 9 (some (sV s)) (some none) (some (some (iV (n:Nat)))) (some none)=some (sV (s.extract 0 n)):=by
 have h1:=Kc n s.size .sliceAlen h;have h2:bY E.P (Instr.sliceAt 9 (.string s) none (some (.int .i64 n)) none)=some (.string (s.extract 0 n)):=by
  simp only[Instr.sliceAt,nB,Kb,Option.bind_some,Instr.slice,Instr.sliceBounds,Option.isSome,kX];simp[nB,kX]at h1⊢;rw[Kd,h1];simp
 simp[dX,yM,u9,rh,exact,j8,ud,plain,ez,e9,h2]
theorem Ke{aj:Bool}{f:FuncId}{fn:Func}{c:Code}{args:List DV}{K:cF}{dd:List FuncId}{h:ab}(S:List Nat)(hS:∀i∈S,i<h.next)(au:E.fn f=some fn)(hb:fn.body=some c){n:Nat}(hn:fn.ntmps=n){rs:List ResultVar}(av:fn.results=rs.toArray)
 (hq:RD E aj c ⟨iT args,args.length+(n-args.length),[],fh h S⟩ (jN E rs λd h'=>∀_:List Nat,∀aa:ab,aa.next=h'.next->(∀i,(i∈S\/h.next<=i)->aa.get i=h'.get i)->(∀i,i<h.next->i∉S->aa.get i=h.get i)->K d dd aa S)):aq E aj K dd h (f,args):=by
 refine c8.frame S hS ?_;exact im (K:=λv _ ai _=>∀aa:ab,aa.next=ai.next->(∀i,(i∈S\/h.next<=i)->aa.get i=ai.get i)->(∀i,i<h.next->i∉S->aa.get i=h.get i)->K v dd aa S) (dd:=dd) au hb hn av hq
def D3:Nat->Nat->Bool->Nat:=λg n is=>if is then n else g
theorem aev(B N0:Nat)(ao:B<N0)(h0:ab):D1 121 [.v (.pointer (some ⟨B,0,none⟩))] B N0 h0 (λg:Nat=>iV (g:Nat)) D3:=by
 intro K dd H n is g hN hold hB hk;refine Ke [B] (by simp;omega) WG rfl Tryz.ntmps121 Tryz.results121 ?_;simp only[fh,hB];have aD:B<H.next:=by omega
 cases is with
 |false=>
  simp(disch:=omega)[go_sem];intro aa q1 q2 ay q3;exact hk aa [B] (by simpa using ao) (by omega) (by rw[q2];rfl) λj ad af=>q3 j af ad
 |true=>
  simp(disch:=omega)[go_sem];intro aa q1 q2 ay q3;exact hk aa [B] (by simpa using ao) (by omega) (by rw[q2];rfl) λj ad af=>q3 j af ad
def tL(m:dP)(t:ByteArray):Nat:=runM m D3 m.first 0 t.data.toList 0
theorem aew(m:dP)(hm:m.Ok)(hc:ax E true 62 [.sl 5 (m.p.map aY.e)] (iV 0))(az:ax E true 63 [.sl 5 (m.p.map aY.e)] (.ptr m.e 0))(t:ByteArray)(ht:t.size<=1000000000):
 ax E true 68 [.sl 5 (m.p.map aY.e),sV t,iV 0] (.bg [iV (tL m t:Nat),bV (decide (0<tL m t))]):=by
 refine bc V3 rfl Tryz.ntmps68 Tryz.results68 λN=> ?_;obtain⟨me,aE⟩:∃me,m.e=me:=⟨_,rfl⟩;simp(disch:=omega)[go_sem];refine aq.mk hc λM hM=> ?_;simp(disch:=omega)[go_sem]at hM;have aB:¬((t.size:Int)<0):=by omega
 simp(disch:=omega)[go_sem,lO,aB];refine ck [ae 0,aN 1,lH 0,lH 0,dF 12,ae 0,aN 63] (by kernel_rfl) 0 rfl ?_;simp(disch:=omega)[go_sem];refine aq.mk az λM2 aC=> ?_;simp(disch:=omega)[go_sem]at aC;simp(disch:=omega)[go_sem,aet];refine D2 hm t ht _ _ M (λg:Nat=>iV (g:Nat)) D3 0 (by simp(disch:=omega)[go_sem]) (by simp(disch:=omega)[go_sem];omega) (aev M _ (by simp(disch:=omega)[go_sem];omega) _) λh' T q1 q2 q3=> ?_;simp(disch:=omega)[go_sem]at q1 q2;obtain⟨n,hn⟩:∃n,tL m t=n:=⟨_,rfl⟩;have q2:h'.get M=some (.row [iV (n:Nat)] true 0):=by rw[<-hn];exact q2
 rw[hn];simp(disch:=omega)[go_sem];refine ck [aJ 0,aJ 0,ae 2,ae 1,ae 15] (by kernel_rfl) 0 rfl ?_;simp(disch:=omega)[go_sem,q2]
end Go.Sp
end
noncomputable section
open Go Go.aw Go.Proofs
namespace Go.Sp
set_option maxRecDepth 100000
def qo(t:ByteArray):Bool->Nat->Bool->Bool:=λ_ n is=>decide (n=t.size)&&is
theorem Kf(S B N0:Nat)(aE:B<N0)(ay:S<N0)(af:S≠B)(t:ByteArray)(h0:ab)(hS:h0.get S=some (.row [sV t] true 0)):D1 65 [.v (.pointer (some ⟨S,0,none⟩)),.v (.pointer (some ⟨B,0,none⟩))] B N0 h0 (λg:Bool=>bV g) (qo t):=by
 intro K dd H n is g hN hold hB hk;have ai:H.get S=some (.row [sV t] true 0):=by rw[hold S ay af,hS]
 have aF:B<H.next:=by omega
 refine Ke [B,S] (by simp;omega) V1 rfl Tryz.ntmps65 Tryz.results65 ?_;simp only[fh,hB,ai];have fin:∀(b:Bool) (aa:ab),b=qo t g n is->aa.next=H.next->aa.get B=some (.row [bV b] true 0)->aa.get S=H.get S->(∀i,i<H.next->i≠B->i≠S->aa.get i=H.get i)->K (bV true) dd aa [B,S]:=λb aa hb q1 q2 q3 q4=>
  hk aa [B,S] (by simp;omega) (by omega) (by rw[q2,hb]) λj az aB=>by
   by_cases au:j=S
   . rw[au,q3]
   . exact q4 j aB az au
 by_cases hn:n=t.size
 . have ao:(n:Int)=t.size:=by omega
   cases is with
   |false=>
    simp(disch:=omega)[go_sem,lO,ao];intro aa q1 q2 q3;exact fin false aa (by simp[qo]) q1 (by rw[q2 B (.inl (.inl rfl)),if_pos rfl]) (by rw[q2 S (.inl (.inr rfl)),if_neg af,if_pos rfl,ai]) q3
   |true=>
    simp(disch:=omega)[go_sem,lO,ao];intro aa q1 q2 q3;exact fin true aa (by simp[qo,hn]) q1 (by rw[q2 B (.inl (.inl rfl)),if_pos rfl]) (by rw[q2 S (.inl (.inr rfl)),if_neg af,if_pos rfl,ai]) q3
 . have ao:¬(n:Int)=t.size:=by omega
   simp(disch:=omega)[go_sem,lO,ao];intro aa q1 q2 q3;exact fin false aa (by simp[qo,hn]) q1 (by rw[q2 B (.inl (.inl rfl)),if_pos rfl]) (by rw[q2 S (.inl (.inr rfl)),if_neg af,if_pos rfl,ai]) q3
def tM(m:dP)(t:ByteArray):Bool:=runM m (qo t) m.first 0 t.data.toList (decide (t=⟨#[]⟩)&&m.empty)
theorem aex(m:dP)(hm:m.Ok)(hc:ax E true 62 [.sl 5 (m.p.map aY.e)] (iV 0))(aC:ax E true 63 [.sl 5 (m.p.map aY.e)] (.ptr m.e 0))(t:ByteArray)(ht:t.size<=1000000000):
 ax E true 32 [.sl 5 (m.p.map aY.e),sV t] (bV (tM m t)):=by
 refine bc VJ rfl Tryz.ntmps32 Tryz.results32 λN=> ?_;obtain⟨r,hr⟩:∃r,tM m t=r:=⟨_,rfl⟩;have ae:∀g:Bool,g=(decide (t=⟨#[]⟩)&&m.empty)->runM m (qo t) m.first 0 t.data.toList g=r:=λg hg=>by rw[hg];exact hr
 rw[hr];simp(disch:=omega)[go_sem];refine aq.mk hc λM hM=> ?_;simp(disch:=omega)[go_sem]at hM;simp(disch:=omega)[go_sem];refine aq.mk aC λM2 aD=> ?_;simp(disch:=omega)[go_sem]at aD;have ad:=dP.Ae m;by_cases h0:t=⟨#[]⟩
 . subst h0;obtain⟨me,av⟩:∃me,m.e=me:=⟨_,rfl⟩;rw[av]at ad⊢;simp(disch:=omega)[go_sem,ad];rw[<-ad,<-av];refine D2 hm ⟨#[]⟩ ht _ _ M2 (λg:Bool=>bV g) (qo ⟨#[]⟩) m.empty (by simp(disch:=omega)[go_sem]) (by simp(disch:=omega)[go_sem]) (Kf N M2 _ (by simp(disch:=omega)[go_sem]) (by simp(disch:=omega)[go_sem];try omega) (by omega) ⟨#[]⟩ _ (by simp(disch:=omega)[go_sem])) λh' T q1 q2 q3=> ?_;rw[ae m.empty (by simp)]at q2;simp(disch:=omega)[go_sem,q2]
 . simp(disch:=omega)[go_sem,h0];refine D2 hm t ht _ _ M2 (λg:Bool=>bV g) (qo t) false (by simp(disch:=omega)[go_sem]) (by simp(disch:=omega)[go_sem]) (Kf N M2 _ (by simp(disch:=omega)[go_sem]) (by simp(disch:=omega)[go_sem];try omega) (by omega) t _ (by simp(disch:=omega)[go_sem])) λh' T q1 q2 q3=> ?_;rw[ae false (by simp[h0])]at q2;simp(disch:=omega)[go_sem,q2]
end Go.Sp
end
noncomputable section
open Go Go.aw Go.Proofs
namespace Go.Sp
set_option maxRecDepth 100000
theorem Kg{st el s b:Nat}{z:Value}(hu:E.under st=some (.slice el))(hs:E.size el=some s)(hz:E.zero el=some z)(hb:E.bytes el=some b)(aC:z.cells.toList.length=s)(aE:0<s)(aF:b<=1000){t:Tr DV}{l c:Operand}{n:Nat}(h1:aB E t l=some (iV (n:Nat)))(h2:aB E t c=some (iV (n:Nat)))(hn:n<=1000000){K:bF×(Nat->DV)->Prop}
 (hk:K (.row ((fu z.cells.toList (n*s)).map .v) true 0,λi=>.v (.slice (some ⟨i,0,none⟩) n n))):aG (dY E t (.makeSlice st l c)) K:=by
 refine⟨_, ?_,hk⟩;have aQ:b*n<=1000*1000000:=Nat.mul_le_mul aF hn;simp only[dY,hu,h1,h2,Option.bind_some,exact,hs,hz,hb];rw[if_pos ⟨by omega,by omega,by omega,by simp only[Int.toNat_natCast];omega,aC,aE⟩];simp
theorem aey:E.under 131=some (.slice 130):=by kernel_rfl
theorem aez:E.size 130=some 8:=by kernel_rfl
theorem aeA:E.bytes 130=some 64:=by kernel_rfl
abbrev aO(i:Nat):DV:=.v (.pointer (some ⟨i,0,none⟩))
theorem aeB(X Y:List DV)(c k:Nat)(hk:k<8):(X++(pl c++Y))[X.length+k]? =(pl c)[k]? :=by
 rw[List.getElem?_append_right (by omega),Nat.add_sub_cancel_left,List.getElem?_append_left (by rw[fm];exact hk)]
theorem aeC(X Y:List DV)(c c' k:Nat)(v:DV)(hk:k<8)(h:(pl c).take k++v::(pl c).drop (k+1)=pl c'):(X++(pl c++Y)).take (X.length+k)++v::(X++(pl c++Y)).drop (X.length+k+1)=X++(pl c'++Y):=by
 have e1:(X++(pl c++Y)).take (X.length+k)=X++(pl c).take k:=by
  rw[List.take_append,List.take_of_length_le (by omega),Nat.add_sub_cancel_left,List.take_append_of_le_length (by rw[fm];omega)]
 have e2:(X++(pl c++Y)).drop (X.length+k+1)=(pl c).drop (k+1)++Y:=by
  rw[Nat.add_assoc,List.drop_append,List.drop_eq_nil_of_le (by omega),List.nil_append,Nat.add_sub_cancel_left,List.drop_append_of_le_length (by rw[fm];omega)]
 rw[e1,e2,<-h];simp
set_option maxHeartbeats 4000000 in
theorem aeD{aj:Bool}{K:cF}{dd:List FuncId}{h:ab}{R a b z o:Nat}{X Y:List DV}(ha:a<256)(hb:b<256)(hX:X.length=o)(hR:h.get R=some (.row (X++(pl a++Y)) true z))(aI:R<h.next)
 (hk:∀h' T,h'.next=h.next+1->h'.get R=some (.row (X++(pl (a|||b)++Y)) true z)->(∀i,i<h.next->i≠R->h'.get i=h.get i)->K (.bg []) dd h' T):
 aq E aj K dd h (114,[.v (.pointer (some ⟨R,o,none⟩)),.agg (pl b)]):=by
 subst hX;refine im GK rfl Tryz.ntmps114 Tryz.results114 ?_;have h4:=tI a b ha hb;have h5:=tI 0 0 (by decide) (by decide);simp(disch:=omega)[go_sem]at h4 h5;obtain⟨N,hN⟩:∃N,h.next=N:=⟨_,rfl⟩;rw[hN]at aI hk;simp(disch:=omega)[go_sem,hN,iD];obtain⟨I,hI⟩:∃I:Nat->DS->Prop,∀j d,I j d↔∃(k:Nat) (H:ab),j+k=8/\H.next=N+1/\H.get R=some (.row (X++(pl (if k=0 then a else a|||b)++Y)) true z)/\H.get N=some (.row (pl b) true 0)/\(∀i,i<N->i≠R->H.get i=h.get i)/\
  d=⟨bQ [(0,.v (.pointer (some ⟨R,X.length,none⟩))),(3,.v (.pointer (some ⟨N,0,none⟩))),(5,iV (k:Nat))],20,[],H⟩:=⟨_,λ_ _=>Iff.rfl⟩
 refine cx I 8 ⟨_,aA.bN (l:=[(0,.v (.pointer (some ⟨R,X.length,none⟩))),(3,.v (.pointer (some ⟨N,0,none⟩))),(5,iV (0:Nat))]) ?_,(hI _ _).2 ⟨0,_,rfl, ?_, ?_, ?_, ?_,rfl⟩⟩ ?_
 . simp(disch:=omega)[go_sem]
 . simp(disch:=omega)[go_sem,hN]
 . simp(disch:=omega)[go_sem,hN,hR]
 . simp(disch:=omega)[go_sem,hN]
 . intro i h1 h2;simp(disch:=omega)[go_sem,hN]
 . intro j ds ao;obtain⟨k,H,hj,hH,f1,f2,f3,rfl⟩:=(hI _ _).1 ao;clear ao;by_cases aL:k=8
   . subst aL;simp(disch:=omega)[go_sem];intro T;exact hk _ T (by omega) f1 f3
   . have aM:(k:Int)<8:=by omega
     have au:k<8:=by omega
     have hc:k=0\/k=1\/k=2\/k=3\/k=4\/k=5\/k=6\/k=7:=by omega
     obtain⟨u,w,hu,hw,r,av,ad⟩:∃u w:Int,(pl (if k=0 then a else a|||b))[k]? =some (.v (.int .u64 u))/\(pl b)[k]? =some (.v (.int .u64 w))/\∃r:Int,IntKind.u64.wrap ↑((BitVec.ofInt IntKind.u64.bits u|||BitVec.ofInt IntKind.u64.bits w).toNat:Nat)=r/\(pl (if k=0 then a else a|||b)).take k++.v (.int .u64 r)::(pl (if k=0 then a else a|||b)).drop (k+1)=pl (a|||b):=by
      rcases hc with rfl|rfl|rfl|rfl|rfl|rfl|rfl|rfl
      . exact⟨a,b,rfl,rfl,_,tI a b ha hb,rfl⟩
      all_goals exact⟨0,0,rfl,rfl,0,tI 0 0 (by decide) (by decide),rfl⟩
     generalize (if k=0 then a else a|||b)=c at f1 hu ad;have ay:=(aeB X Y c k au).trans hu;have ai:=aeC X Y c (a|||b) k _ au ad;have az:X.length+k<(X++(pl c++Y)).length:=by simp only[List.length_append,fm];omega
     generalize X++(pl c++Y)=row at f1 ay ai az;obtain⟨af,aa⟩:∃af,X++(pl (a|||b)++Y)=af:=⟨_,rfl⟩;rw[aa]at ai;simp(disch:=omega)[go_sem]at av;simp(disch:=omega)[go_sem,aM];refine ck [ae 0,ae 0,ae 1,ae 7,aJ 15,ae 0,ae 32,aJ 96,ae 255,ae 1,ae 1023,aN 2047] (by kernel_rfl) 0 rfl ?_;simp(disch:=omega)[go_sem,f1,f2,dU,nS,aD,ay,hw,av,ai,fm,show X.length+k+1<=row.length from az,-getElem?_pos];refine⟨j-1,by omega,_,aA.bN (l:=[(0,.v (.pointer (some ⟨R,X.length,none⟩))),(3,.v (.pointer (some ⟨N,0,none⟩))),(5,iV (k+1:Nat))]) ?_,(hI _ _).2 ⟨k+1,_,by omega, ?_, ?_, ?_, ?_,rfl⟩⟩
     . simp(disch:=omega)[go_sem]
     . simp(disch:=omega)[go_sem,hH]
     . rw[if_neg (by omega),aa];simp(disch:=omega)[go_sem]
     . simp(disch:=omega)[go_sem,f2]
     . intro i h1 h2;simp(disch:=omega)[go_sem,f3,h1,h2]
end Go.Sp
end
noncomputable section
open Go Go.aw Go.Proofs
namespace Go.Sp
set_option maxRecDepth 100000
def gS(F:List Nat):List DV:=(F.map pl).flatten
theorem aeE{F:List Nat}{i a:Nat}(h:F[i]? =some a):gS F=gS (F.take i)++(pl a++gS (F.drop (i+1)))/\(gS (F.take i)).length=i*8/\∀b,gS (F.set i b)=gS (F.take i)++(pl b++gS (F.drop (i+1))):=by
 obtain⟨hi,he⟩:=List.getElem?_eq_some_iff.1 h;refine⟨?_, ?_,λb=> ?_⟩
 . have e:F=F.take i++(a::F.drop (i+1)):=by rw[<-he,<-List.drop_eq_getElem_cons hi,List.take_append_drop]
   have e2:=congrArg gS e;rw[e2];simp only[gS,List.map_append,List.map_cons,List.flatten_append,List.flatten_cons]
 . have:=fQ (k:=8) (xs:=(F.take i).map pl) (λx hx=>by obtain⟨y,_,rfl⟩:=List.mem_map.1 hx;rfl);rw[gS,this,List.length_map,List.length_take];omega
 . rw[List.set_eq_take_append_cons_drop,if_pos hi];simp only[gS,List.map_append,List.map_cons,List.flatten_append,List.flatten_cons]
def mS(g:Nat)(F:List Nat)(i:Nat):List Nat:=match F[i]? with
 |some a=>F.set i (a|||g)
 |none=>F
def qp(l g:Nat)(F:List Nat):List Nat:=(bits l).foldl (mS g) F
set_option maxHeartbeats 4000000 in
theorem aeF{K:cF}{dd:List FuncId}{h:ab}{M R G g i n z:Nat}{F:List Nat}{cs:List DV}(hi:i<F.length)(hn:F.length=n)(hF:∀a∈F,a<256)(hg:g<256)(hM:h.get M=some (.row cs true 0))(ad:cs[17]? =some (.v (.slice (some ⟨R,0,none⟩) n n)))
 (hR:h.get R=some (.row (gS F) true z)) (hG:h.get G=some (.row (pl g) true 0)) (af:R<h.next)
 (hk:∀h' T,h.next<=h'.next->h'.get R=some (.row (gS (mS g F i)) true z)->(∀j,j<h.next->j≠R->h'.get j=h.get j)->K (.bg []) dd h' T):
 aq E true K dd h (113,[iV (i:Nat),.ptr [aO M] 0,aO G]):=by
 obtain⟨a,ha⟩:∃a,F[i]? =some a:=⟨_,List.getElem?_eq_getElem hi⟩;obtain⟨e1,e2,e3⟩:=aeE ha;have hl:mS g F i=F.set i (a|||g):=by simp only[mS,ha]
 rw[hl,e3]at hk;rw[e1]at hR;have av:=hF a (List.mem_of_getElem? ha);refine im Wy rfl Tryz.ntmps113 Tryz.results113 ?_;simp(disch:=omega)[go_sem];refine ck [aJ 0,ae 1,ae 3,aJ 7,ae 0,ae 31,aJ 0,aN 127] (by kernel_rfl) 0 rfl ?_;simp(disch:=omega)[go_sem,hM,hG,nS,ad,fm,gR,-getElem?_pos];refine aeD av hg e2 hR af λh' T q1 q2 q3=> ?_;simp(disch:=omega)[go_sem];intro T2;exact hk _ T2 (by omega) q2 q3
theorem aeG{n g:Nat}{F:List Nat}(hn:F.length=n)(hF:∀a∈F,a<256)(hg:g<256)(i:Nat):(mS g F i).length=n/\∀a∈mS g F i,a<256:=by
 unfold mS
 split
 . rename_i a ha;refine⟨by rw[List.length_set,hn],λb hb=> ?_⟩;rcases List.mem_or_eq_of_mem_set hb with h|h
   . exact hF b h
   . rw[h];exact aei (hF a (List.mem_of_getElem? ha)) hg
 . exact⟨hn,hF⟩
set_option maxHeartbeats 4000000 in
theorem Kh{K:cF}{dd:List FuncId}{h:ab}{M R l g n z:Nat}{F:List Nat}{cs:List DV}(hn:F.length=n)(ai:n<=8)(hF:∀a∈F,a<256)(hl:l<2^n)(hg:g<256)(hM:h.get M=some (.row cs true 0))(ad:cs[17]? =some (.v (.slice (some ⟨R,0,none⟩) n n)))
 (hR:h.get R=some (.row (gS F) true z)) (af:R<h.next) (ao:M<h.next) (ay:M≠R)
 (hk:∀h' T,h.next<=h'.next->h'.get R=some (.row (gS (qp l g F)) true z)->(∀j,j<h.next->j≠R->h'.get j=h.get j)->K (.bg []) dd h' T):
 aq E true K dd h (111,[.agg (pl l),.agg (pl g),.ptr [aO M] 0]):=by
 refine im Ww rfl Tryz.ntmps111 Tryz.results111 ?_;obtain⟨N,hN⟩:∃N,h.next=N:=⟨_,rfl⟩;rw[hN]at af ao hk;simp(disch:=omega)[go_sem,hN,iD];refine J3 (w:=l) (Nat.lt_of_lt_of_le hl (Nat.pow_le_pow_right (n:=2) (by decide) ai)) 113 _ (λw H=>∃F',w<2^n/\F'.length=n/\(∀a∈F',a<256)/\(bits w).foldl (mS g) F'=qp l g F/\N+1<H.next/\H.get N=some (.row (pl l) true 0)/\H.get (N+1)=some (.row (pl g) true 0)/\H.get R=some (.row (gS F') true z)/\∀j,j<N->j≠R->H.get j=h.get j) ?_ ?_ ?_ ?_ ?_
 . rintro w' H ⟨F',h1,h2,h3,h4,h5,h6,h7,h8,h9⟩;exact⟨0,h6⟩
 . rintro w' H K' aB au aa ⟨F',h1,h2,h3,h4,h5,h6,h7,h8,h9⟩ az;rw[J8 w' au aa,List.foldl_cons]at h4;have aC:=J9 w' n au h1 ai;obtain⟨k1,k2⟩:=aeG h2 h3 hg (nR w');refine aeF (by omega) h2 h3 hg (by rw[h9 M ao ay,hM]) ad h8 h7 (by omega) λh' T q1 q2 q3=>az _ T ⟨_,Nat.lt_of_le_of_lt Nat.and_le_left h1,k1,k2,h4,by omega, ?_, ?_,q2,λj j1 j2=> ?_⟩
   . rw[q3 N (by omega) (by omega),h6]
   . rw[q3 (N+1) (by omega) (by omega),h7]
   . rw[q3 j (by omega) j2,h9 j j1 j2]
 . rintro w' H P hP ⟨F',h1,h2,h3,h4,h5,h6⟩;exact⟨F',h1,h2,h3,h4,by rw[ab.kj];omega,h6⟩
 . refine⟨F,hl,hn,hF,rfl, ?_, ?_, ?_, ?_,λj j1 j2=> ?_⟩
   all_goals simp(disch:=omega)[go_sem,hN,hR]
 . rintro H' T ⟨F',h1,h2,h3,h4,h5,h6,h7,h8,h9⟩;rw[J7]at h4;have h4:F'=qp l g F:=h4;subst h4;simp(disch:=omega)[go_sem];intro T2;exact hk _ T2 (by omega) h8 h9
def bZ(p:List aY):Nat->Nat->List Nat->(Nat×Nat×Bool)×List Nat
 |0,_,F=>((0,0,true),F)
 |n+1,i,F=>match p[i]? with
  |none=>((0,0,true),F)
  |some x=>
   if x.kind=1 then((2^i,2^i,false),F)
   else if x.kind=2 then
    let r:=bZ p n x.a.toNat F
    let s:=bZ p n x.b.toNat r.2
    ((if r.1.2.2 then r.1.1|||s.1.1 else r.1.1,if s.1.2.2 then s.1.2.1|||r.1.2.1 else s.1.2.1,r.1.2.2&&s.1.2.2),qp r.1.2.1 s.1.1 s.2)
   else if x.kind=3 then
    let r:=bZ p n x.a.toNat F
    let s:=bZ p n x.b.toNat r.2
    ((r.1.1|||s.1.1,r.1.2.1|||s.1.2.1,r.1.2.2||s.1.2.2),s.2)
   else if x.kind=4 then
    let r:=bZ p n x.a.toNat F
    ((r.1.1,r.1.2.1,true),qp r.1.2.1 r.1.1 r.2)
   else((0,0,true),F)
theorem aeH:∀m∈gQ,bZ m.p 9 (m.p.length-1) (List.replicate m.p.length 0)=((m.first,m.last,m.empty),m.follow):=by
 have h:(gQ.all λm=>decide (bZ m.p 9 (m.p.length-1) (List.replicate m.p.length 0)=((m.first,m.last,m.empty),m.follow)))=true:=by kernel_rfl
 exactλm hm=>of_decide_eq_true (List.all_eq_true.1 h m hm)
end Go.Sp
end

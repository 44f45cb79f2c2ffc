/- SpacingIndependent: parts of its proof. -/
import Derived.Test.YtmhjnafgdhaemaaGreatDoorK50
open List renaming length_map->qe,getElem?_eq_getElem->DE,length_append->Er,map_append->PO,mem_of_getElem?->PX,mem_map->W2,getElem?_map->W9,append_nil->Xw,getElem?_eq_some_iff->Zj,drop_eq_nil_of_le->Zr,range_succ->ZJ,length_filter_le->ZL,any_map->Z4,range->abR,flatMap_append->ab8,length_cons->adr,take_of_length_le->adS,filter_append->adT,drop_eq_getElem_cons->adV,nil_append->adW,foldl_cons->adX
open Nat renaming le_refl->xS,ne_of_lt->Qc
open Iff renaming rfl->GP
open Bool renaming false_eq_true->TF
open BitVec renaming ofInt->VK
open Option renaming getD_some->adU
set_option linter.all false
set_option maxRecDepth 100000
noncomputable section
open Go Go.au Go.Proofs
namespace Go.Sp
set_option maxHeartbeats 8000000 in
theorem acw(r:eL)(hr:r.Ok)(c:Nat)(hc:c<8)(bG:ay E true 16 [.agg (cu r).e,uV r.config] (cV c)):ay E true 5 [.agg r.e] (.bb [.agg (cu r).e,cV c,.sl 4 ((mU r c).map Lf.e)]):=by
 obtain⟨b7,bo⟩:∃b7,DV.bb [.agg (cu r).e,cV c,.sl 4 ((mU r c).map Lf.e)]=b7:=⟨_,rfl⟩;rw[bo];refine vq Tryz.ntmps5 Tryz.results5 λN=> ?_;have aB:=YU r.x hr.x;obtain⟨g,hg⟩:∃g,cr bp r.x=g:=⟨_,rfl⟩;rw[hg]at aB;have av:r.e=[uV r.x.base,uV r.x.n,.sl 1 (r.x.family.map λb=>[uV b]),.sl 4 (r.x.lines.map Ln.e),.sl 5 (r.x.rules.map Rl.e),uV r.marks,uV r.config,.sl 1 (r.leaves.map λb=>[uV b])]:=rfl;simp only[cB.e]at aB;refine fg ?_;simp(disch:=omega)[go_sem,av];refine fg ?_;simp(disch:=omega)[go_sem];refine an.mk aB λM hM=> ?_;simp(disch:=omega)[go_sem]at hM;simp(disch:=omega)[go_sem,ai.e];refine fg ?_;simp(disch:=omega)[go_sem];refine an.mk (oT true) λM2 cl=> ?_;simp(disch:=omega)[go_sem]at cl;simp(disch:=omega)[go_sem,Dg.e,aP];refine fg ?_;simp(disch:=omega)[go_sem];have bI:=tQ r.x hr.x;rw[hg]at bI;have b8:=bI.room.ar;refine fB (wr:=true) (cs:=[]) (by simp(disch:=omega)[go_sem]) (by simp) (by omega) (by omega) ?_;simp(disch:=omega)[go_sem];refine fg ?_;simp(disch:=omega)[go_sem];refine jr (SI r g N M M2 g.ar (gT r.marks 3)) ?_ ?_
 . simp(disch:=omega)[go_sem];obtain⟨I,hI⟩:∃I:Nat->DS->Prop,∀j d,I j d↔∃(k:Nat) (H:ab) (pv:DV),j+k=3/\MS r g N M M2 g.ar (gT r.marks k) H pv/\M2+3<H.next/\H.get (M2+3)=some (.row (jT.map sV) true 0)/\nU pv≠some (M2+3)/\
    d=⟨bz [(1,aM N),(2,aM (N+1)),(5,aM M),(6,aM M2),(7,.v (.slice (some ⟨M2+3,0,none⟩) 3 3)),(8,iV (k:Nat))],184,[],H⟩:=⟨_,λ_ _=>GP⟩
   refine bO I 3 ⟨_,ax.bg (l:=[(1,aM N),(2,aM (N+1)),(5,aM M),(6,aM M2),(7,.v (.slice (some ⟨M2+3,0,none⟩) 3 3)),(8,iV (0:Nat))]) ?_,(hI _ _).2 ⟨0,_,.v (.slice (some ⟨M2+2,0,none⟩) g.ar.length g.ar.length),rfl,⟨?_, ?_, ?_, ?_, ?_, ?_⟩, ?_, ?_,by simp[nU],rfl⟩⟩ ?_
   . simp(disch:=omega)[go_sem]
   . simp(disch:=omega)[go_sem,av]
   . simp(disch:=omega)[go_sem,dV]
   . simp(disch:=omega)[go_sem,gE]
   . simp(disch:=omega)[go_sem,aP,Dg.e]
   . refine .inr ⟨M2+2,by omega,by simp(disch:=omega)[go_sem];try omega,by simp[gT],by simp(disch:=omega)[go_sem,gT]⟩
   . refine⟨by omega,by omega,by simp(disch:=omega)[go_sem];try omega⟩
   . simp(disch:=omega)[go_sem]
   . simp(disch:=omega)[go_sem,jT]
   . intro j ds bq;obtain⟨k,H,pv,hj,ms,hN,f1,b9,rfl⟩:=(hI _ _).1 bq;clear bq;obtain⟨m1,m2,m3,m4,m5,m6,m7,m8⟩:=ms;by_cases cm:k<3
     . have aT:(k:Int)<3:=by omega
       have hb:=acn r.marks hr.marks.1 hr.marks.2 k (by omega);have hw:IntKind.u64.wrap (k:Int)=k:=wrap_u64 (by omega) (by omega);have hX:gT r.marks (k+1)=gT r.marks k++if bZ r.marks k then [fV (jT[k]?.getD ⟨#[]⟩)]else []:=by simp only[gT,ZJ,ab8];simp
       by_cases ca:bZ r.marks k=true
       . simp only[if_pos ca]at hb hX;simp(disch:=omega)[go_sem]at hb;rw[av]at m1;simp(disch:=omega)[go_sem,aT,m1,hw,hb];refine bR [ae 0,aD 1,ae 0,ae 0,ae 12,aD 28,ae 0,ae 0,ae 192,aD 448,aD 0,ae 2044,cE 4092,aN 8191,ae 16383,aN 32767] (by kernel_rfl) 1 rfl ?_;obtain⟨s,hs⟩:∃s,jT[k]? =some s:=⟨_,DE (by simpa[jT]using cm)⟩;rw[hs]at hX;simp(disch:=omega)[go_sem,m3,gE,f1,hs,m4,Dg.e,aP,-getElem?_pos];have cK:(g.ar.map Tok.e++(gT r.marks k).map Tok.c).length<=30:=by
          have h1:=(tU r.marks 0).length_le;have h2:(gT r.marks k).length<=k:=by
           have:∀k,(gT r.marks k).length<=k:=λk=>by
            induction k with
            |zero=>simp[gT]
            |succ n ih=>
             have e:gT r.marks (n+1)=gT r.marks n++if bZ r.marks n then [fV (jT[n]?.getD ⟨#[]⟩)]else []:=by simp only[gT,ZJ,ab8];simp
             rw[e,Er]
             split<;>simp<;>omega
           exact this k
          rw[Er,qe,qe];omega
         refine dI.app (st:=34) (xt:=34) (B:=M2+1) (U:=H.next) (k:=7) (xs:=g.ar.map Tok.e++(gT r.marks k).map Tok.c) (m5.same (λq q1 q2=>by rw[ab.bn,if_neg (by omega)];rfl) (xS _)) AA Az (by omega) (by simp(disch:=omega)[go_sem]) (new:=(fV s).c) (by simp(disch:=omega)[go_sem];rfl) (by decide) rfl rfl (vV _ _) (by omega) λH' aU T q0 q1 q2 q3 q4=> ?_;simp(disch:=omega)[go_sem]at q2 q3;have e3:H'.get M=some (.row (gE g pv) true 0):=by rw[q3 _ (by omega) (m5.ne (.inl (by omega)))];simp(disch:=omega)[go_sem,m3]
         obtain⟨p1,p2⟩:=q1.cells;simp(disch:=omega)[go_sem,e3,gE,p1,p2,aC];refine⟨j-1,by omega,_,ax.bg (l:=[(1,aM N),(2,aM (N+1)),(5,aM M),(6,aM M2),(7,.v (.slice (some ⟨M2+3,0,none⟩) 3 3)),(8,iV (k+1:Nat))]) ?_,(hI _ _).2 ⟨k+1,_,aU,by omega,⟨?_, ?_, ?_, ?_, ?_,⟨m6,m7, ?_⟩⟩, ?_, ?_, ?_,rfl⟩⟩
         . simp(disch:=omega)[go_sem]
         . simp(disch:=omega)[go_sem];rw[q3 _ (by omega) (m5.ne (.inl (by omega))),av];simp(disch:=omega)[go_sem,m1]
         . simp(disch:=omega)[go_sem];rw[q3 _ (by omega) (m5.ne (.inl (by omega)))];simp(disch:=omega)[go_sem,m2]
         . simp(disch:=omega)[go_sem,gE]
         . simp(disch:=omega)[go_sem];rw[q3 _ (by omega) (m5.ne (.inl (by omega)))];simp(disch:=omega)[go_sem,m4]
         . rw[hX,PO,<-List.append_assoc];exact q1.same (λq q5 q6=>by rw[ab.bn,if_neg (by omega)]) (by rw[ab.aR];exact xS _)
         . simp(disch:=omega)[go_sem];omega
         . simp(disch:=omega)[go_sem];omega
         . simp(disch:=omega)[go_sem];rw[q3 _ (by omega) b9];simp(disch:=omega)[go_sem,f1]
         . rw[q4];simp(disch:=omega)[go_sem];omega
       . simp only[if_neg ca]at hb hX;simp(disch:=omega)[go_sem]at hb;rw[av]at m1;simp(disch:=omega)[go_sem,aT,m1,hw,hb,aC];refine⟨j-1,by omega,_,ax.bg (l:=[(1,aM N),(2,aM (N+1)),(5,aM M),(6,aM M2),(7,.v (.slice (some ⟨M2+3,0,none⟩) 3 3)),(8,iV (k+1:Nat))]) ?_,(hI _ _).2 ⟨k+1,_,pv,by omega,⟨by rw[av];exact m1,m2,m3,m4,by rw[hX];simpa using m5,⟨m6,m7,m8⟩⟩,hN,f1,b9,rfl⟩⟩;simp(disch:=omega)[go_sem]
     . have aT:¬(k:Int)<3:=by omega
       obtain rfl:k=3:=by omega
       simp(disch:=omega)[go_sem];refine⟨_,ax.bg (l:=[(1,aM N),(2,aM (N+1)),(5,aM M),(6,aM M2)]) ?_,_,pv,⟨m1,m2,m3,m4,m5,m6,m7,m8⟩,rfl⟩;simp(disch:=omega)[go_sem]
 rintro d ⟨H,pv,ms,rfl⟩;obtain⟨bf,aw,aa⟩:=aco r.marks hr.marks.1 hr.marks.2;have bJ:ay E true 15 [uV r.marks,iV (g.conds.length:Nat)] (.agg (cg bp r.marks g.conds.length).e):=GA GU bp GY r.marks g.conds.length hr.marks.1 hr.marks.2 bI.room.conds;have cn:g.ar.length+(gT r.marks 3).length<=20:=by
  have h1:=(tU r.marks 0).length_le;have:(gT r.marks 3).length<=(gd r.marks 0).length:=by simp only[gd,Er];omega
  simp only[Er,qe,adr,List.length_nil,jT]at h1;omega
 obtain⟨X1,cb⟩:∃X1,gT r.marks 3=X1:=⟨_,rfl⟩;rw[cb]at ms cn;refine jr (SI r g N M M2 g.ar (X1++if bZ r.marks 3 then [qs (cg bp r.marks g.conds.length)]else [])) ?_ ?_
 . have m1:=ms.r;have m3:=ms.g;rw[av]at m1;obtain⟨l1,l2,l3⟩:=ms.lt;by_cases hb:bZ r.marks 3=true
   . simp only[if_pos hb]at bf⊢;simp(disch:=omega)[go_sem]at bf;simp(disch:=omega)[go_sem,m1,bf];refine an.mk (CI 1 rfl) λP hP=> ?_;simp(disch:=omega)[go_sem];refine bR [kj 0,dc 1,ae 0,ae 0,aD 8,ae 0,aD 32,aD 96,aN 248,ae 508,cE 1020,aN 2047,ae 4095,aN 8191] (by kernel_rfl) 1 rfl ?_;simp(disch:=omega)[go_sem,m1,m3,gE];refine⟨by omega, ?_⟩;refine an.mk bJ λP2 aW=> ?_;simp(disch:=omega)[go_sem]at aW;simp(disch:=omega)[go_sem,Dg.e,m3,gE];refine ms.app (q:=P) (qs (cg bp r.marks g.conds.length)) (by omega) (by simp(disch:=omega)[go_sem];try omega) (λj hj=>by rw[ab.bn,if_neg (by omega)];rfl) (by simp(disch:=omega)[go_sem];rfl) λH' aU T q0 p1 p2 e3 q1 q3 bs=> ?_;have nT:∀j,j<M2+1->j∉T:=λj hj hm=>by have:=q0 j hm;omega
     simp(disch:=omega)[go_sem,e3,gE,p1,p2,nT];refine⟨_,ax.bg (l:=[(1,aM N),(2,aM (N+1)),(5,aM M),(6,aM M2)]) ?_,_,aU,by simpa[gE]using bs,rfl⟩;simp(disch:=omega)[go_sem]
   . simp only[if_neg hb]at bf⊢;simp(disch:=omega)[go_sem]at bf;simp(disch:=omega)[go_sem,m1,bf];refine⟨_,ax.bg (l:=[(1,aM N),(2,aM (N+1)),(5,aM M),(6,aM M2)]) ?_,_,pv,by simpa using ms,rfl⟩;simp(disch:=omega)[go_sem]
 rintro d ⟨H,pv,ms,rfl⟩;obtain⟨X2,bL⟩:∃X2,(X1++if bZ r.marks 3 then [qs (cg bp r.marks g.conds.length)]else [])=X2:=⟨_,rfl⟩;rw[bL]at ms;have cM:g.ar.length+X2.length<=21:=by rw[<-bL,Er];split<;>simp<;>omega
 refine jr (SI r g N M M2 g.ar (X2++if bZ r.marks 4 then [qt]else [])) ?_ ?_
 . have m1:=ms.r;have m3:=ms.g;have m4:=ms.c;rw[av]at m1;obtain⟨l1,l2,l3⟩:=ms.lt;by_cases hb:bZ r.marks 4=true
   . simp only[if_pos hb]at aw⊢;simp(disch:=omega)[go_sem]at aw;simp(disch:=omega)[go_sem,m1,aw];refine an.mk (CI 2 rfl) λP hP=> ?_;simp(disch:=omega)[go_sem,m3,gE,m4,Dg.e,aP];refine ms.app (q:=P) qt (by omega) (by simp(disch:=omega)[go_sem];try omega) (λj hj=>by rw[ab.di,if_neg (by rw[ab.fH];omega)];rfl) (by simp(disch:=omega)[go_sem];rfl) λH' aU T q0 p1 p2 e3 q1 q3 bs=> ?_;simp(disch:=omega)[go_sem,e3,gE,p1,p2];refine⟨_,ax.bg (l:=[(1,aM N),(2,aM (N+1)),(5,aM M),(6,aM M2)]) ?_,_,aU,by simpa[gE]using bs,rfl⟩;simp(disch:=omega)[go_sem]
   . simp only[if_neg hb]at aw⊢;simp(disch:=omega)[go_sem]at aw;simp(disch:=omega)[go_sem,m1,aw];refine⟨_,ax.bg (l:=[(1,aM N),(2,aM (N+1)),(5,aM M),(6,aM M2)]) ?_,_,pv,by simpa using ms,rfl⟩;simp(disch:=omega)[go_sem]
 rintro d ⟨H,pv,ms,rfl⟩;obtain⟨X3,bM⟩:∃X3,(X2++if bZ r.marks 4 then [qt]else [])=X3:=⟨_,rfl⟩;rw[bM]at ms;have cO:g.ar.length+X3.length<=22:=by rw[<-bM,Er];split<;>simp<;>omega
 refine jr (SI r g N M M2 g.ar (X3++if bZ r.marks 5&& !bZ r.marks 6 then [ph]else [])) ?_ ?_
 . have m1:=ms.r;have m3:=ms.g;have m4:=ms.c;rw[av]at m1;obtain⟨l1,l2,l3⟩:=ms.lt;by_cases hb:(bZ r.marks 5&& !bZ r.marks 6)=true
   . have bt:bZ r.marks 5=true/\bZ r.marks 6=false:=by simpa using hb
     simp only[if_pos hb];rw[bt.1,bt.2]at aa;simp(disch:=omega)[go_sem]at aa;simp(disch:=omega)[go_sem,m1,aa];refine an.mk (CI 3 rfl) λP hP=> ?_;simp(disch:=omega)[go_sem,m3,gE,m4,Dg.e,aP];refine ms.app (q:=P) ph (by omega) (by simp(disch:=omega)[go_sem];try omega) (λj hj=>by rw[ab.di,if_neg (by rw[ab.fH];omega)];rfl) (by simp(disch:=omega)[go_sem];rfl) λH' aU T q0 p1 p2 e3 q1 q3 bs=> ?_;simp(disch:=omega)[go_sem,e3,gE,p1,p2];refine⟨_,ax.bg (l:=[(1,aM N),(2,aM (N+1)),(5,aM M),(6,aM M2)]) ?_,_,aU,by simpa[gE]using bs,rfl⟩;simp(disch:=omega)[go_sem]
   . simp only[if_neg hb];have bu:IntKind.u8.wrap (((VK IntKind.u8.bits r.marks&&&VK IntKind.u8.bits 96).toNat:Nat):Int)≠32:=by
      rw[aa];cases h5:bZ r.marks 5<;>cases h6:bZ r.marks 6<;>simp[h5,h6]at hb⊢
     clear aa;simp(disch:=omega)[go_sem]at bu;simp(disch:=omega)[go_sem,m1,bu];refine⟨_,ax.bg (l:=[(1,aM N),(2,aM (N+1)),(5,aM M),(6,aM M2)]) ?_,_,pv,by simpa using ms,rfl⟩;simp(disch:=omega)[go_sem]
 rintro d ⟨H,pv,ms,rfl⟩;obtain⟨X4,bN⟩:∃X4,(X3++if bZ r.marks 5&& !bZ r.marks 6 then [ph]else [])=X4:=⟨_,rfl⟩;rw[bN]at ms;have cP:g.ar.length+X4.length<=23:=by
  have:(if bZ r.marks 5&& !bZ r.marks 6 then [ph]else []).length<=1:=by split<;>simp
  rw[<-bN,Er];omega
 refine jr (SI r g N M M2 (if bZ r.marks 5&&bZ r.marks 6 then g.ar.modify 9 (λx=>{x with cond:=aP false})else g.ar) X4) ?_ ?_
 . have m1:=ms.r;have m3:=ms.g;have m4:=ms.c;rw[av]at m1;obtain⟨l1,l2,l3⟩:=ms.lt;by_cases hb:(bZ r.marks 5&&bZ r.marks 6)=true
   . have bt:bZ r.marks 5=true/\bZ r.marks 6=true:=by simpa using hb
     simp only[if_pos hb];rw[bt.1,bt.2]at aa;simp(disch:=omega)[go_sem]at aa;simp(disch:=omega)[go_sem,m1,aa];refine bR [kj 0,dc 1,aN 0,ae 7,ae 15,aN 31] (by kernel_rfl) 0 rfl ?_;rcases ms.pv with⟨h0,_⟩|⟨R,r1,r2,rfl,r4⟩
     . have:=congrArg List.length h0;rw[Er,qe,b8]at this;simp at this
     simp(disch:=omega)[go_sem,m3,gE];refine⟨by omega, ?_⟩;refine an.mk (oT false) λP hP=> ?_;simp(disch:=omega)[go_sem]at hP;have cp:((g.ar.map Tok.e++X4.map Tok.c).flatten).length=(g.ar.length+X4.length)*7:=by rw[eW (vV _ _),Er,qe,qe]
     have bF:=acq g.ar ((X4.map Tok.c).flatten) 9 (by omega) (aP false);rw[<-List.flatten_append]at bF;simp only[aP,Dg.e]at bF;obtain⟨cells,af⟩:∃cells,(g.ar.map Tok.e++X4.map Tok.c).flatten=cells:=⟨_,rfl⟩;rw[af]at bF cp r4;have bP:List.take 68 cells++.sl 3 []::iV 0::List.drop 70 cells=((g.ar.modify 9 λx=>{x with cond:=aP false}).map Tok.e).flatten++(X4.map Tok.c).flatten:=bF;simp(disch:=omega)[go_sem,Dg.e,aP,r4,bP,show 70<=cells.length from by omega];refine⟨_,ax.bg (l:=[(1,aM N),(2,aM (N+1)),(5,aM M),(6,aM M2)]) ?_,_,.v (.slice (some ⟨R,0,none⟩) (g.ar.length+X4.length) (g.ar.length+X4.length)),⟨?_, ?_, ?_, ?_, ?_, ?_⟩,rfl⟩
     . simp(disch:=omega)[go_sem]
     . rw[av];simp(disch:=omega)[go_sem,m1]
     . simp(disch:=omega)[go_sem,ms.o]
     . simp(disch:=omega)[go_sem,m3,gE]
     . simp(disch:=omega)[go_sem,m4,aP,Dg.e]
     . refine .inr ⟨R,r1,by simp(disch:=omega)[go_sem];omega,by simp,by simp(disch:=omega)[go_sem,aP]⟩
     . exact⟨l1,l2,by simp(disch:=omega)[go_sem];omega⟩
   . simp only[if_neg hb];have bu:IntKind.u8.wrap (((VK IntKind.u8.bits r.marks&&&VK IntKind.u8.bits 96).toNat:Nat):Int)≠96:=by
      rw[aa];cases h5:bZ r.marks 5<;>cases h6:bZ r.marks 6<;>simp[h5,h6]at hb⊢
     clear aa;simp(disch:=omega)[go_sem]at bu;simp(disch:=omega)[go_sem,m1,bu];refine⟨_,ax.bg (l:=[(1,aM N),(2,aM (N+1)),(5,aM M),(6,aM M2)]) ?_,_,pv,by simpa using ms,rfl⟩;simp(disch:=omega)[go_sem]
 rintro d ⟨H,pv,ms,rfl⟩;obtain⟨B,hB⟩:∃B,(if bZ r.marks 5&&bZ r.marks 6 then g.ar.modify 9 (λx=>{x with cond:=aP false})else g.ar)=B:=⟨_,rfl⟩;rw[hB]at ms;obtain⟨az,aX⟩:=acs r hr;rw[hg]at az aX;rw[hB]at az;have bQ:X4=gd r.marks g.conds.length:=by rw[<-bN,<-bM,<-bL,<-cb];simp only[gd]
 rw[<-bQ]at az;rw[az]at aX;have bS:B.length=11:=by rw[<-hB];split<;>simp[b8]
 obtain⟨nt,bk⟩:∃nt,(B.map Tok.e++X4.map Tok.c).length=nt:=⟨_,rfl⟩;have bT:nt=(cu r).ar.length:=by rw[<-bk,az];simp
 have cq:11<=nt/\nt<=23:=by rw[<-bk,Er,qe,qe];omega
 have bU:∀R,nU pv=some R->M2<R/\R<H.next:=λR h3=>by
  rcases ms.pv with⟨_,rfl⟩|⟨R',h6,h5,rfl,_⟩
  . cases h3
  . simp only[nU,Option.some.injEq]at h3;omega
 have bW:∀{S:eR} (H':ab),(∀j,M2<j->j<H.next->H'.get j=H.get j)->(∀R cs z,H'.get R=some (.row cs true z)->S R=some (cs,z))->cA S (gE g pv) (cu r).e:=λ{S} H' h1 h2=>by
  rw[aX];refine ms.fz λR cs h3 h4=>h2 R cs 7 (by obtain⟨a,b⟩:=bU R h3;rw[h1 R a b];exact h4)
 have bY:∀(H':ab) (R:Nat) (cs:List DV) (z:Nat),H'.get R=some (.row cs true z)->allRows H' R=some (cs,z):=λH' R cs z h=>cx h;have m1:=ms.r;have m2:=ms.o;have m3:=ms.g;rw[av]at m1;obtain⟨l1,l2,l3⟩:=ms.lt;obtain⟨p1,p2⟩:=ms.pv.cells;refine fg ?_;simp(disch:=omega)[go_sem,m3,m1,gE];refine an.pl bG (.cons ?_ (.cons (.refl _) .nil)) λP hP=> ?_
 . rw[Fp];exact bW H (λ_ _ _=>rfl) (bY H)
 simp(disch:=omega)[go_sem];refine fg ?_;simp(disch:=omega)[go_sem]
 let T:=(cu r).ar
 let F:Nat->List Lf:=λk=>((r.leaves.take k).map (gJ T)).filter (kA T c)
 have hT:(cu r).ar=T:=rfl;refine jr (λd=>∃(H':ab) (ad:DV),H.next<=H'.next/\(∀j,j<H.next->H'.get j=H.get j)/\dI H' H.next H'.next 4 ((mU r c).map Lf.c) ad/\d=⟨bz [(2,aM (N+1)),(5,aM M),(15,cV c),(16,ad)],184,[],H'⟩) ?_ ?_
 . simp(disch:=omega)[go_sem];obtain⟨I,hI⟩:∃I:Nat->DS->Prop,∀j d,I j d↔∃(k:Nat) (H':ab) (ad:DV),j+k=12/\k<=r.leaves.length/\H.next<=H'.next/\(∀j,j<H.next->H'.get j=H.get j)/\dI H' H.next H'.next 4 ((F k).map Lf.c) ad/\
    d=⟨bz [(1,aM N),(2,aM (N+1)),(5,aM M),(15,cV c),(16,ad),(17,iV (k:Nat))],184,[],H'⟩:=⟨_,λ_ _=>GP⟩
   refine bO I 12 ⟨_,ax.bg (l:=[(1,aM N),(2,aM (N+1)),(5,aM M),(15,cV c),(16,dQ),(17,iV (0:Nat))]) ?_,(hI _ _).2 ⟨0,_,dQ,rfl,Nat.zero_le _, ?_,λj hj=> ?_,.nil _ _ _ _,rfl⟩⟩ ?_
   . simp(disch:=omega)[go_sem]
   . rw[ab.fH];exact hP
   . rfl
   . intro j ds bq;obtain⟨k,H',ad,hj,cQ,hn,hold,hgr,rfl⟩:=(hI _ _).1 bq;clear bq;have n1:H'.get N=some (.row r.e true 0):=by rw[hold N (by omega)];exact ms.r
     have n3:H'.get M=some (.row (gE g pv) true 0):=by rw[hold M (by omega)];exact ms.g
     rw[av]at n1;have done:(k=12\/k=r.leaves.length)->F k=mU r c:=λh=>by
      rcases h with rfl|rfl
      . rfl
      . show((r.leaves.take r.leaves.length).map (gJ T)).filter (kA T c)=((r.leaves.take 12).map (gJ T)).filter (kA T c);rw[adS (xS _),adS (by omega)]
     by_cases cv:k<r.leaves.length
     . have aK:(k:Int)<r.leaves.length:=by omega
       by_cases cR:k<12
       . have aZ:(k:Int)<12:=by omega
         obtain⟨b,hb⟩:∃b,r.leaves[k]? =some b:=⟨_,DE cv⟩;have cy:=hr.leaves b (PX hb);have hF:F (k+1)=F k++if kA T c (gJ T b)then [gJ T b]else []:=by
          simp only[F,List.take_add_one,hb,Option.toList_some,PO,adT,List.map_cons,List.map_nil];cases cz:kA T c (gJ T b)<;>simp[cz]
         simp(disch:=omega)[go_sem,n1,aK,aZ];refine bR [ae 0,aD 1,ae 0,ae 7,aD 15,aD 31,ae 0,aD 64,aD 192,ae 511,ae 1023] (by kernel_rfl) 0 rfl ?_;rcases ms.pv with⟨h0,_⟩|⟨R,r1,r2,bl,r4⟩
         . rw[h0]at bk;simp at bk;omega
         rw[bk]at bl;have r5:H'.get R=_:=(hold R r2).trans r4;have cC:T.length=nt:=bT.symm;have cU:0<=b%(nt:Int):=Int.emod_nonneg _ (by omega);have cW:b%(nt:Int)<nt:=Int.emod_lt_of_pos _ (by omega);obtain⟨kk,cc⟩:∃kk:Nat,b%(nt:Int)=kk:=⟨(b%(nt:Int)).toNat,by omega⟩;have bx:kk<nt:=by omega
         obtain⟨tk,cd⟩:∃tk,(B++X4)[kk]? =some tk:=⟨_,DE (by rw[<-bk]at bx;simpa using bx)⟩;obtain⟨d3,d1,d2,aL,ch⟩:=acv B X4 kk tk cd;obtain⟨cells,af⟩:∃cells,(B.map Tok.e++X4.map Tok.c).flatten=cells:=⟨_,rfl⟩;rw[af]at r5 aL ch;have b0:¬(nt:Int)=0:=by omega
         have ao:T[kk]? =some tk:=by show(cu r).ar[kk]? =some tk;rw[az];exact cd
         have bm:gJ T b=⟨kk,kS tk kk b⟩:=by
          simp only[gJ,cC,cc,Int.toNat_natCast,ao,adU]
         have b1:=I9 r hr kk tk b ao cy;have b2:=(vS r hr).cond tk (PX ao);obtain⟨ct,cG,b3,_⟩:=b2;have aA:=acm (cu r) kk tk ao (by omega) ct cG b3 c hc (kS tk kk b) b1 dQ rfl;simp(disch:=omega)[go_sem,n1,n3,hb,gE,bl,aC,cT,b0,cc,r5,aL,ch,d1,-getElem?_pos];have bc:∀Hc:ab,(∀j,M2<j->j<H.next->Hc.get j=H.get j)->cA (allRows Hc) (gE g (.v (.slice (some ⟨R,0,none⟩) nt nt))) (cu r).e:=λHc h=>by rw[<-bl];exact bW Hc h (bY Hc)
         have b5:∀x∈(F k).map Lf.c,x.length=4:=λx hx=>by obtain⟨y,_,rfl⟩:=W2.1 hx;rfl
         have cX:(F k).length<=k:=by
          have h1:=ZL (kA T c) ((r.leaves.take k).map (gJ T));rw[qe,List.length_take]at h1;show(((r.leaves.take k).map (gJ T)).filter (kA T c)).length<=k;omega
         have b6:M≠H'.next:=by omega
         have bd:M≠H'.next+1:=by omega
         by_cases hl:tk.lit=⟨#[]⟩
         . by_cases aI:kk=0
           . have q0:0<=b/16%4:=by omega
             have q1:b/16%4<4:=by omega
             have w1:IntKind.u8.wrap (b/16)=b/16:=wrap_u8 (by omega) (by omega);have w2:IntKind.i64.wrap (b/16)=b/16:=aC (by omega) (by omega);obtain⟨s,hs⟩:∃s,yI[(b/16%4).toNat]? =some s:=⟨_,DE (by simp[yI];omega)⟩;have cI:[sV ⟨#[120]⟩,sV ⟨#[105,102]⟩,sV ⟨#[101,108,115,101]⟩,sV ⟨#[97,98]⟩][(b/16%4).toNat]? =some (sV s):=by
              have:(yI.map sV)[(b/16%4).toNat]? =some (sV s):=by rw[W9,hs];rfl
              exact this
             have aE:kS tk kk b=s:=by simp only[kS,if_pos hl,if_pos aI,hs,adU]
             simp(disch:=omega)[go_sem,hl,aI,n1,n3,gE,bl,b6,bd,hb,jj,cT,w1,w2,q0,q1,cI,-getElem?_pos];rw[aE]at aA;have bA:kA T c (gJ T b)=kR tk c (s):=by rw[bm,aE];simp only[kA,ao]
             have aF:gJ T b=⟨kk,s⟩:=by rw[bm,aE]
             rw[bA,aF]at hF;refine an.pl aA (.cons (Fz.dG (bc _ λj j1 j2=> ?_)) (.cons (.refl _) (.cons ?_ .nil))) λP2 aW=> ?_
             . simp(disch:=omega)[go_sem,hold]
             . first|exact .refl _|(subst aI;exact .refl _)
             simp(disch:=omega)[go_sem]at aW;cases hv:kR tk c (s)with
             |true=>
              rw[hv,if_pos rfl]at hF;simp(disch:=omega)[go_sem];refine dI.app (st:=42) (xt:=42) (B:=H.next) (U:=H'.next) (k:=4) (xs:=(F k).map Lf.c) (hgr.same (λj j1 j2=>by simp(disch:=omega)[go_sem,Qc j2]) (xS _)) xB xA (by omega) (by simp(disch:=omega)[go_sem];omega) (new:=Lf.c ⟨kk,s⟩) (by simp(disch:=omega)[go_sem];first|rfl|(subst aI;rfl)) (by decide) rfl rfl b5 (by rw[qe];omega) λH2 aQ T2 cj bB bD aS ck=> ?_;simp(disch:=omega)[go_sem]at bD aS;simp(disch:=omega)[go_sem,aC];refine⟨j-1,by omega,_,ax.bg (l:=[(1,aM N),(2,aM (N+1)),(5,aM M),(15,cV c),(16,aQ),(17,iV (k+1:Nat))]) ?_,(hI _ _).2 ⟨k+1,_,aQ,by omega,by omega,by omega,λq hq=> ?_,by rw[hF,PO];exact bB,rfl⟩⟩
              . simp(disch:=omega)[go_sem]
              . rw[aS q (by omega) (hgr.ne (.inl (by omega)))];simp(disch:=omega)[go_sem,hold]
             |false=>
              rw[hv]at hF;simp(disch:=omega)[go_sem,aC];refine⟨j-1,by omega,_,ax.bg (l:=[(1,aM N),(2,aM (N+1)),(5,aM M),(15,cV c),(16,ad),(17,iV (k+1:Nat))]) ?_,(hI _ _).2 ⟨k+1,_,ad,by omega,by omega,by simp(disch:=omega)[go_sem];omega,λq hq=> ?_, ?_,rfl⟩⟩
              . simp(disch:=omega)[go_sem]
              . simp(disch:=omega)[go_sem,hold]
              . rw[hF];simp only[TF,if_false,Xw];exact hgr.same (λj j1 j2=>by simp(disch:=omega)[go_sem,Qc j2]) (by simp(disch:=omega)[go_sem];omega)
           . have aE:kS tk kk b=tk.iD:=by simp only[kS,if_pos hl,if_neg aI]
             simp(disch:=omega)[go_sem,hl,aI,n3,gE,bl,b6,bd];rw[aE]at aA;have bA:kA T c (gJ T b)=kR tk c (tk.iD):=by rw[bm,aE];simp only[kA,ao]
             have aF:gJ T b=⟨kk,tk.iD⟩:=by rw[bm,aE]
             rw[bA,aF]at hF;refine an.pl aA (.cons (Fz.dG (bc _ λj j1 j2=> ?_)) (.cons (.refl _) (.cons ?_ .nil))) λP2 aW=> ?_
             . simp(disch:=omega)[go_sem,hold]
             . first|exact .refl _|(subst aI;exact .refl _)
             simp(disch:=omega)[go_sem]at aW;cases hv:kR tk c (tk.iD)with
             |true=>
              rw[hv,if_pos rfl]at hF;simp(disch:=omega)[go_sem];refine dI.app (st:=42) (xt:=42) (B:=H.next) (U:=H'.next) (k:=4) (xs:=(F k).map Lf.c) (hgr.same (λj j1 j2=>by simp(disch:=omega)[go_sem,Qc j2]) (xS _)) xB xA (by omega) (by simp(disch:=omega)[go_sem];omega) (new:=Lf.c ⟨kk,tk.iD⟩) (by simp(disch:=omega)[go_sem];first|rfl|(subst aI;rfl)) (by decide) rfl rfl b5 (by rw[qe];omega) λH2 aQ T2 cj bB bD aS ck=> ?_;simp(disch:=omega)[go_sem]at bD aS;simp(disch:=omega)[go_sem,aC];refine⟨j-1,by omega,_,ax.bg (l:=[(1,aM N),(2,aM (N+1)),(5,aM M),(15,cV c),(16,aQ),(17,iV (k+1:Nat))]) ?_,(hI _ _).2 ⟨k+1,_,aQ,by omega,by omega,by omega,λq hq=> ?_,by rw[hF,PO];exact bB,rfl⟩⟩
              . simp(disch:=omega)[go_sem]
              . rw[aS q (by omega) (hgr.ne (.inl (by omega)))];simp(disch:=omega)[go_sem,hold]
             |false=>
              rw[hv]at hF;simp(disch:=omega)[go_sem,aC];refine⟨j-1,by omega,_,ax.bg (l:=[(1,aM N),(2,aM (N+1)),(5,aM M),(15,cV c),(16,ad),(17,iV (k+1:Nat))]) ?_,(hI _ _).2 ⟨k+1,_,ad,by omega,by omega,by simp(disch:=omega)[go_sem];omega,λq hq=> ?_, ?_,rfl⟩⟩
              . simp(disch:=omega)[go_sem]
              . simp(disch:=omega)[go_sem,hold]
              . rw[hF];simp only[TF,if_false,Xw];exact hgr.same (λj j1 j2=>by simp(disch:=omega)[go_sem,Qc j2]) (by simp(disch:=omega)[go_sem];omega)
         . have aE:kS tk kk b=tk.lit:=by simp only[kS,if_neg hl]
           simp(disch:=omega)[go_sem,hl,n3,gE,bl,b6,bd];rw[aE]at aA;have bA:kA T c (gJ T b)=kR tk c (tk.lit):=by rw[bm,aE];simp only[kA,ao]
           have aF:gJ T b=⟨kk,tk.lit⟩:=by rw[bm,aE]
           rw[bA,aF]at hF;refine an.pl aA (.cons (Fz.dG (bc _ λj j1 j2=> ?_)) (.cons (.refl _) (.cons ?_ .nil))) λP2 aW=> ?_
           . simp(disch:=omega)[go_sem,hold]
           . first|exact .refl _|(subst aI;exact .refl _)
           simp(disch:=omega)[go_sem]at aW;cases hv:kR tk c (tk.lit)with
           |true=>
            rw[hv,if_pos rfl]at hF;simp(disch:=omega)[go_sem];refine dI.app (st:=42) (xt:=42) (B:=H.next) (U:=H'.next) (k:=4) (xs:=(F k).map Lf.c) (hgr.same (λj j1 j2=>by simp(disch:=omega)[go_sem,Qc j2]) (xS _)) xB xA (by omega) (by simp(disch:=omega)[go_sem];omega) (new:=Lf.c ⟨kk,tk.lit⟩) (by simp(disch:=omega)[go_sem];first|rfl|(subst aI;rfl)) (by decide) rfl rfl b5 (by rw[qe];omega) λH2 aQ T2 cj bB bD aS ck=> ?_;simp(disch:=omega)[go_sem]at bD aS;simp(disch:=omega)[go_sem,aC];refine⟨j-1,by omega,_,ax.bg (l:=[(1,aM N),(2,aM (N+1)),(5,aM M),(15,cV c),(16,aQ),(17,iV (k+1:Nat))]) ?_,(hI _ _).2 ⟨k+1,_,aQ,by omega,by omega,by omega,λq hq=> ?_,by rw[hF,PO];exact bB,rfl⟩⟩
            . simp(disch:=omega)[go_sem]
            . rw[aS q (by omega) (hgr.ne (.inl (by omega)))];simp(disch:=omega)[go_sem,hold]
           |false=>
            rw[hv]at hF;simp(disch:=omega)[go_sem,aC];refine⟨j-1,by omega,_,ax.bg (l:=[(1,aM N),(2,aM (N+1)),(5,aM M),(15,cV c),(16,ad),(17,iV (k+1:Nat))]) ?_,(hI _ _).2 ⟨k+1,_,ad,by omega,by omega,by simp(disch:=omega)[go_sem];omega,λq hq=> ?_, ?_,rfl⟩⟩
            . simp(disch:=omega)[go_sem]
            . simp(disch:=omega)[go_sem,hold]
            . rw[hF];simp only[TF,if_false,Xw];exact hgr.same (λj j1 j2=>by simp(disch:=omega)[go_sem,Qc j2]) (by simp(disch:=omega)[go_sem];omega)
       . have aZ:¬(k:Int)<12:=by omega
         simp(disch:=omega)[go_sem,n1,aK,aZ];refine⟨_,ax.bg (l:=[(2,aM (N+1)),(5,aM M),(15,cV c),(16,ad)]) ?_,H',hn,hold,ad,by rw[<-done (by omega)];exact hgr,rfl⟩;simp(disch:=omega)[go_sem]
     . have aK:¬(k:Int)<r.leaves.length:=by omega
       simp(disch:=omega)[go_sem,n1,aK];refine⟨_,ax.bg (l:=[(2,aM (N+1)),(5,aM M),(15,cV c),(16,ad)]) ?_,H',hn,hold,ad,by rw[<-done (by omega)];exact hgr,rfl⟩;simp(disch:=omega)[go_sem]
 . rintro d ⟨H',ad,hn,hold,hgr,rfl⟩;obtain⟨p3,p4⟩:=hgr.cells;refine vt ?_;have n3:H'.get M=some (.row (gE g pv) true 0):=by rw[hold M (by omega)];exact ms.g
   have n2:H'.get (N+1)=some (.row dV true 0):=by rw[hold (N+1) (by omega)];exact ms.o
   simp(disch:=omega)[go_sem,n3,n2,gE,dV,p1,p2];rw[<-bo];refine Fz.jG (.cons ?_ (.cons (.refl _) (.cons ?_ .nil)))
   . exact Fz.dG (bW (H'.set (N+1) (some (.row (gE g pv) true 0))) (λj j1 j2=>by rw[ab.bn,if_neg (by omega)];exact hold j j2) (bY _))
   . exact hgr.Jb (by decide) (by simp) (λx hx=>by obtain⟨y,_,rfl⟩:=W2.1 hx;rfl) (Ja _) λR cs h1 h2 h3=>cx (wr:=true) (by rw[ab.bn,if_neg (by omega)];exact h3)
def iO(s p:ByteArray):Bool:=decide (p.size<=s.size)&&decide (s.extract 0 p.size=p)
theorem acx(s p:ByteArray):ay E true 124 [sV s,sV p] (bV (iO s p)):=by
 refine aW Tryz.ntmps124 Tryz.results124 λN=> ?_;by_cases h:p.size<=s.size
 . have h2:(p.size:Int)<=s.size:=by omega
   have hr:iO s p=decide (s.extract 0 p.size=p):=by simp[iO,h]
   rw[hr];simp(disch:=omega)[go_sem,gI,h2,IK s p.size h]
 . have h2:¬(p.size:Int)<=s.size:=by omega
   have hr:iO s p=false:=by simp[iO,h]
   rw[hr];simp(disch:=omega)[go_sem,gI,h2]
theorem acy(s p:ByteArray):ay E true 71 [sV s,sV p] (bV (iO s p)):=by
 refine aW Tryz.ntmps71 Tryz.results71 λN=> ?_;simp(disch:=omega)[go_sem];refine an.mk (acx s p) λM hM=> ?_;simp(disch:=omega)[go_sem]at hM;simp(disch:=omega)[go_sem]
def iq:List Bool->Nat->Int
 |[],_=>-1
 |b::l,i=>if b then i else iq l (i+1)
theorem yJ:∀(l:List Bool) (i:Nat),decide (0<=iq l i)=l.any id
 |[],i=>by simp[iq]
 |b::l,i=>by
  cases b with
  |true=>simp[iq]
  |false=>simp[iq,yJ l (i+1)]
theorem CK{l:List Bool}{k:Nat}{b:Bool}(h:l[k]? =some b):iq (l.drop k) k=if b then(k:Int)else iq (l.drop (k+1)) (k+1):=by
 have hk:=(Zj.1 h).1;rw[adV hk,(Zj.1 h).2];rfl
theorem acz(l:List Int)(x:Int)(hl:l.length<=100000):ay E true 125 [ints l,iV x] (iV (iq (l.map λy=>decide (x=y)) 0)):=by
 refine aW Tryz.ntmps125 Tryz.results125 λN=> ?_;obtain⟨R,hR⟩:∃R,iq (l.map λy=>decide (x=y)) 0=R:=⟨_,rfl⟩;rw[hR];simp(disch:=omega)[go_sem];obtain⟨I,hI⟩:∃I:Nat->DS->Prop,∀j d,I j d↔∃(k P:Nat),j+k=l.length/\iq ((l.map λy=>decide (x=y)).drop k) k=R/\d=⟨bz [(0,ints l),(1,iV x),(7,iV l.length),(8,iV k)],19,[],cw P []⟩:=⟨_,λ_ _=>GP⟩;refine bO I l.length ⟨_,ax.mk (N:=N) ?_ ?_ ?_,(hI _ _).2 ⟨0,N,rfl,hR,rfl⟩⟩ ?_
 . simp(disch:=omega)[go_sem]
 . simp(disch:=omega)[go_sem]
 . simp(disch:=omega)[go_sem]
 . intro j ds ad;obtain⟨k,P,hj,aa,rfl⟩:=(hI _ _).1 ad;clear ad;by_cases ae:k<l.length
   . have ab:(k:Int)<l.length:=by omega
     obtain⟨y,hy⟩:∃y,l[k]? =some y:=⟨_,DE ae⟩;rw[CK (b:=decide (x=y)) (by rw[W9,hy];rfl)]at aa;by_cases ai:x=y
     . subst ai;simp only[decide_true,if_true]at aa;subst aa;simp(disch:=omega)[go_sem,ab,hy,-getElem?_pos]
     . simp only[ai,decide_false,TF,if_false]at aa;simp(disch:=omega)[go_sem,ab,hy,-getElem?_pos,ai,aC];refine⟨j-1,by omega,_,ax.mk (N:=P) ?_ ?_ ?_,(hI _ _).2 ⟨k+1,P,by omega,aa,rfl⟩⟩
       . simp(disch:=omega)[go_sem]
       . simp(disch:=omega)[go_sem]
       . simp(disch:=omega)[go_sem]
   . have ab:¬(k:Int)<l.length:=by omega
     rw[Zr (by simp;omega)]at aa;have aa:(-1:Int)=R:=aa;simp(disch:=omega)[go_sem,ab,aa]
theorem acA(l:List Int)(x:Int)(hl:l.length<=100000):ay E true 73 [ints l,iV x] (bV (l.any λy=>decide (x=y))):=by
 refine aW Tryz.ntmps73 Tryz.results73 λN=> ?_;have hr:=yJ (l.map λy=>decide (x=y)) 0;rw[Z4]at hr;have af:(l.any λy=>decide (x=y))=decide (0<=iq (l.map λy=>decide (x=y)) 0):=hr.symm;rw[af];simp(disch:=omega)[go_sem];refine an.mk (acz l x hl) λM hM=> ?_;simp(disch:=omega)[go_sem]at hM;simp(disch:=omega)[go_sem]
theorem acB{α:Type}(xs:List α)(en:α->List DV)(ps:α->Bool)(f:FuncId)(c:List DV)(hx:∀x,(en x).length=9)(hl:xs.length<=100000)(hf:∀x∈xs,ay E true f (.agg (en x)::c) (bV (ps x))):ay E true 126 [.sl 9 (xs.map en),.fn f [] c] (iV (iq (xs.map ps) 0)):=by
 refine aW Tryz.ntmps126 Tryz.results126 λN=> ?_;obtain⟨R,hR⟩:∃R,iq (xs.map ps) 0=R:=⟨_,rfl⟩;rw[hR];simp(disch:=omega)[go_sem];obtain⟨I,hI⟩:∃I:Nat->DS->Prop,∀j d,I j d↔∃(k P:Nat),j+k=xs.length/\iq ((xs.map ps).drop k) k=R/\d=⟨bz [(0,.sl 9 (xs.map en)),(1,.fn f [] c),(7,iV xs.length),(8,iV k)],19,[],cw P []⟩:=⟨_,λ_ _=>GP⟩;refine bO I xs.length ⟨_,ax.mk (N:=N) ?_ ?_ ?_,(hI _ _).2 ⟨0,N,rfl,hR,rfl⟩⟩ ?_
 . simp(disch:=omega)[go_sem]
 . simp(disch:=omega)[go_sem]
 . simp(disch:=omega)[go_sem]
 . intro j ds ad;obtain⟨k,P,hj,aa,rfl⟩:=(hI _ _).1 ad;clear ad;by_cases ae:k<xs.length
   . have ab:(k:Int)<xs.length:=by omega
     obtain⟨y,hy⟩:∃y,xs[k]? =some y:=⟨_,DE ae⟩;rw[CK (b:=ps y) (by rw[W9,hy];rfl)]at aa;have ao:=hf y (PX hy);have av:=tr (hx y);simp(disch:=omega)[go_sem,ab,hy,-getElem?_pos,av];refine an.mk ao λP2 aw=> ?_;cases hb:ps y with
     |true=>
      rw[hb,if_pos rfl]at aa;subst aa;simp(disch:=omega)[go_sem]
     |false=>
      rw[hb,if_neg (by decide)]at aa;simp(disch:=omega)[go_sem,aC];refine⟨j-1,by omega,_,ax.mk (N:=P2) ?_ ?_ ?_,(hI _ _).2 ⟨k+1,P2,by omega,aa,rfl⟩⟩
      . simp(disch:=omega)[go_sem]
      . simp(disch:=omega)[go_sem]
      . simp(disch:=omega)[go_sem]
   . have ab:¬(k:Int)<xs.length:=by omega
     rw[Zr (by simp;omega)]at aa;have aa:(-1:Int)=R:=aa;simp(disch:=omega)[go_sem,ab,aa]
theorem acC{α:Type}(xs:List α)(en:α->List DV)(ps:α->Bool)(f:FuncId)(c:List DV)(hx:∀x,(en x).length=9)(hl:xs.length<=100000)(hf:∀x∈xs,ay E true f (.agg (en x)::c) (bV (ps x))):ay E true 74 [.sl 9 (xs.map en),.fn f [] c] (bV (xs.any ps)):=by
 refine aW Tryz.ntmps74 Tryz.results74 λN=> ?_;have hr:=yJ (xs.map ps) 0;rw[Z4]at hr;have af:xs.any ps=decide (0<=iq (xs.map ps) 0):=hr.symm;rw[af];simp(disch:=omega)[go_sem];refine an.mk (acB xs en ps f c hx hl hf) λM hM=> ?_;simp(disch:=omega)[go_sem]at hM;simp(disch:=omega)[go_sem]
theorem acD(xs:List Int)(ps:Int->Bool)(f:FuncId)(c:List DV)(hl:xs.length<=100000)(hf:∀x∈xs,ay E true f (iV x::c) (bV (ps x))):ay E true 127 [.sl 1 (xs.map λn=>[iV n]),.fn f [] c] (iV (iq (xs.map ps) 0)):=by
 refine aW Tryz.ntmps127 Tryz.results127 λN=> ?_;obtain⟨R,hR⟩:∃R,iq (xs.map ps) 0=R:=⟨_,rfl⟩;rw[hR];simp(disch:=omega)[go_sem];obtain⟨I,hI⟩:∃I:Nat->DS->Prop,∀j d,I j d↔∃(k P:Nat),j+k=xs.length/\iq ((xs.map ps).drop k) k=R/\d=⟨bz [(0,.sl 1 (xs.map λn=>[iV n])),(1,.fn f [] c),(7,iV xs.length),(8,iV k)],19,[],cw P []⟩:=⟨_,λ_ _=>GP⟩;refine bO I xs.length ⟨_,ax.mk (N:=N) ?_ ?_ ?_,(hI _ _).2 ⟨0,N,rfl,hR,rfl⟩⟩ ?_
 . simp(disch:=omega)[go_sem]
 . simp(disch:=omega)[go_sem]
 . simp(disch:=omega)[go_sem]
 . intro j ds ad;obtain⟨k,P,hj,aa,rfl⟩:=(hI _ _).1 ad;clear ad;by_cases ae:k<xs.length
   . have ab:(k:Int)<xs.length:=by omega
     obtain⟨y,hy⟩:∃y,xs[k]? =some y:=⟨_,DE ae⟩;rw[CK (b:=ps y) (by rw[W9,hy];rfl)]at aa;have ao:=hf y (PX hy);simp(disch:=omega)[go_sem,ab,hy,-getElem?_pos];refine an.mk ao λP2 aw=> ?_;cases hb:ps y with
     |true=>
      rw[hb,if_pos rfl]at aa;subst aa;simp(disch:=omega)[go_sem]
     |false=>
      rw[hb,if_neg (by decide)]at aa;simp(disch:=omega)[go_sem,aC];refine⟨j-1,by omega,_,ax.mk (N:=P2) ?_ ?_ ?_,(hI _ _).2 ⟨k+1,P2,by omega,aa,rfl⟩⟩
      . simp(disch:=omega)[go_sem]
      . simp(disch:=omega)[go_sem]
      . simp(disch:=omega)[go_sem]
   . have ab:¬(k:Int)<xs.length:=by omega
     rw[Zr (by simp;omega)]at aa;have aa:(-1:Int)=R:=aa;simp(disch:=omega)[go_sem,ab,aa]
theorem acE(xs:List Int)(ps:Int->Bool)(f:FuncId)(c:List DV)(hl:xs.length<=100000)(hf:∀x∈xs,ay E true f (iV x::c) (bV (ps x))):ay E true 76 [.sl 1 (xs.map λn=>[iV n]),.fn f [] c] (bV (xs.any ps)):=by
 refine aW Tryz.ntmps76 Tryz.results76 λN=> ?_;have hr:=yJ (xs.map ps) 0;rw[Z4]at hr;have af:xs.any ps=decide (0<=iq (xs.map ps) 0):=hr.symm;rw[af];simp(disch:=omega)[go_sem];refine an.mk (acD xs ps f c hl hf) λM hM=> ?_;simp(disch:=omega)[go_sem]at hM;simp(disch:=omega)[go_sem]
structure lq(g:ai):Prop where
 pat:∀t∈g.ar,t.lit=⟨#[]⟩->∃m∈cW,t.pat=m.p
 len:g.ar.length<=1000
 cond:∀t∈g.ar,∃ct,t.cond=aF ct/\ct<256
def gK(p:List aL):List (Int×Int×Int×Int×Int):=p.map λx=>(x.kind,x.lo,x.hi,x.a,x.b)
theorem yK{p q:List aL}(h:gK p=gK q):p=q:=by
 induction p generalizing q with
 |nil=>cases q with
  |nil=>rfl
  |cons y q=>simp[gK]at h
 |cons x p ih=>cases q with
  |nil=>simp[gK]at h
  |cons y q=>
   simp only[gK,List.map_cons,List.cons.injEq,Prod.mk.injEq]at h;obtain⟨⟨h1,h2,h3,h4,h5⟩,h6⟩:=h;rw[ih h6];obtain⟨a,b,c,d,e⟩:=x;obtain⟨a',b',c',d',e'⟩:=y;simp only at h1 h2 h3 h4 h5;rw[h1,h2,h3,h4,h5]
def iP(t:Tok)(s:ByteArray):Nat:=if t.lit=⟨#[]⟩then(match cW.find? λm=>decide (gK m.p=gK t.pat)with|some m=>nS m s|none=>0)else if iO s t.lit then t.lit.size else 0
theorem acF{t:Tok}{s:ByteArray}(h0:t.lit=⟨#[]⟩)(h:∃m∈cW,t.pat=m.p):∃m∈cW,t.pat=m.p/\iP t s=nS m s:=by
 obtain⟨m0,m1,m2⟩:=h;cases hf:cW.find? λm=>decide (gK m.p=gK t.pat)with
 |none=>
  have:=List.find?_eq_none.1 hf m0 m1;rw[m2]at this;simp at this
 |some m=>
  have h1:=List.mem_of_find?_eq_some hf;have h2:=List.find?_some hf;refine⟨m,h1,(yK (of_decide_eq_true h2)).symm, ?_⟩;unfold iP;rw[if_pos h0,hf]
theorem acG(g:ai)(hg:lq g)(k:Nat)(t:Tok)(hk:g.ar[k]? =some t)(s:ByteArray)(hs:s.size<=1000000000):ay E true 69 [iV (k:Nat),sV s,.ptr g.e 0] (iV (iP t s:Nat)):=by
 have aE:=(Zj.1 hk).1;have hm:=PX hk;obtain⟨R,hR⟩:∃R,iP t s=R:=⟨_,rfl⟩;rw[hR];refine aW Tryz.ntmps69 Tryz.results69 λN=> ?_;simp(disch:=omega)[go_sem,ai.e,hk,-getElem?_pos,Tok.e];by_cases h0:t.lit=⟨#[]⟩
 . obtain⟨m,m1,m2,m3⟩:=acF (s:=s) h0 (hg.pat t hm h0);have hl:=abQ m m1 s hs;rw[<-m2,<-m3,hR]at hl;simp(disch:=omega)[go_sem,h0];refine an.mk hl λM hM=> ?_;simp(disch:=omega)[go_sem]at hM;simp(disch:=omega)[go_sem]
 . have hp:=acy s t.lit;have ae:R=if iO s t.lit then t.lit.size else 0:=by rw[<-hR];unfold iP;rw[if_neg h0]
   simp(disch:=omega)[go_sem,h0];refine an.mk hp λM hM=> ?_;simp(disch:=omega)[go_sem]at hM;cases hb:iO s t.lit with
   |true=>
    rw[hb,if_pos rfl]at ae;subst ae;simp(disch:=omega)[go_sem,gI]
   |false=>
    rw[hb,if_neg (by decide)]at ae;subst ae;simp(disch:=omega)[go_sem]
def jx(g:ai)(c:Nat):List Nat:=(abR g.ar.length).filter λi=>match g.ar[i]? with
 |some t=>eM t.cond c
 |none=>false
abbrev dq(l:List Nat):DV:=.sl 1 (l.map λn=>[iV (n:Nat)])
def gP(g:ai)(c:Nat):List DV:=g.e++[dq (jx g c),.fn 69 [] [.ptr g.e 0]]
set_option maxHeartbeats 4000000 in
theorem acH(g:ai)(hg:lq g)(c:Nat)(hc:c<8):ay E true 36 [.agg g.e,cV c] (.ptr (gP g c) 0):=by
 refine aW Tryz.ntmps36 Tryz.results36 λN=> ?_;obtain⟨av,ad⟩:∃av,DV.ptr (gP g c) 0=av:=⟨_,rfl⟩;rw[ad];have hlen:=hg.len;simp(disch:=omega)[go_sem,ai.e]
 let F:Nat->List Nat:=λk=>(abR k).filter λi=>match g.ar[i]? with
  |some t=>eM t.cond c
  |none=>false
 let af:DV->List DV:=λpv=>[strs g.conds,.sl 3 (g.family.nodes.map cK),iV g.family.root,.sl 7 (g.ar.map Tok.e),strs g.aH,.sl 13 (g.ak.map aQ.e),iV g.start,.sl 4 (g.ba.map de.e),.sl 9 (g.bj.map bd.e),pv,.v .nilFunc]
 obtain⟨I,hI⟩:∃I:Nat->DS->Prop,∀j d,I j d↔∃(k:Nat) (H:ab) (pv:DV),j+k=g.ar.length/\N+2<=H.next/\dI H (N+2) H.next 1 ((F k).map λn=>[iV (n:Nat)]) pv/\H.get N=some (.row g.e true 0)/\H.get (N+1)=some (.row (af pv) true 0)/\
  d=⟨bz [(1,cV c),(2,aM N),(5,aM (N+1)),(12,iV (g.ar.length:Nat)),(13,iV (k:Nat))],40,[],H⟩:=⟨_,λ_ _=>GP⟩
 refine bO I g.ar.length ⟨_,ax.bg (l:=[(1,cV c),(2,aM N),(5,aM (N+1)),(12,iV (g.ar.length:Nat)),(13,iV (0:Nat))]) ?_,(hI _ _).2 ⟨0,_,dQ,rfl, ?_,.nil _ _ _ _, ?_, ?_,rfl⟩⟩ ?_
 . simp(disch:=omega)[go_sem]
 . simp(disch:=omega)[go_sem]
 . simp(disch:=omega)[go_sem,ai.e]
 . simp(disch:=omega)[go_sem];rfl
 . intro j ds aw;obtain⟨k,H,pv,hj,hN,hgr,f1,f2,rfl⟩:=(hI _ _).1 aw;clear aw;simp only[af]at f2;obtain⟨p1,p2⟩:=hgr.cells;have az:∀x∈(F k).map λn=>[iV (n:Nat)],x.length=1:=λx hx=>by obtain⟨y,_,rfl⟩:=W2.1 hx;rfl
   have aI:(F k).length<=k:=by have:=ZL (λi=>match g.ar[i]? with|some t=>eM t.cond c|none=>false) (abR k);simpa[F]using this
   by_cases aA:k<g.ar.length
   . have aa:(k:Int)<g.ar.length:=by omega
     obtain⟨t,ht⟩:∃t,g.ar[k]? =some t:=⟨_,DE aA⟩;obtain⟨ct,aB,ao⟩:=hg.cond t (PX ht);have hh:=vT ct c ao hc;rw[<-aB]at hh;simp only[Dg.e]at hh;have hF:F (k+1)=F k++if eM t.cond c then [k]else []:=by
      simp only[F,ZJ,adT];congr 1;cases hb:eM t.cond c<;>simp[ht,hb]
     simp(disch:=omega)[go_sem,aa,f1,ai.e,ht,-getElem?_pos,Tok.e];refine an.mk hh λM hM=> ?_;cases hb:eM t.cond c with
     |true=>
      rw[hb,if_pos rfl]at hF;simp(disch:=omega)[go_sem,f2];refine dI.app (st:=49) (xt:=49) (B:=N+2) (U:=H.next) (k:=1) (xs:=(F k).map λn=>[iV (n:Nat)]) (hgr.same (λq q1 q2=>by rw[ab.di,if_neg (by rw[ab.fH];omega)];rfl) (xS _)) uW uU (by omega) (by simp(disch:=omega)[go_sem];omega) (new:=[iV (k:Nat)]) (by simp(disch:=omega)[go_sem]) (by decide) rfl rfl az (by rw[qe];omega) λH' aD T q0 q1 q2 q3 q4=> ?_;simp(disch:=omega)[go_sem]at q2 q3;obtain⟨p3,p4⟩:=q1.cells;have e1:H'.get (N+1)=some (.row (af pv) true 0):=by rw[q3 _ (by omega) (hgr.ne (.inl (by omega)))];simp(disch:=omega)[go_sem,f2];rfl
      simp only[af]at e1;simp(disch:=omega)[go_sem,e1,p3,p4,aC];refine⟨j-1,by omega,_,ax.bg (l:=[(1,cV c),(2,aM N),(5,aM (N+1)),(12,iV (g.ar.length:Nat)),(13,iV (k+1:Nat))]) ?_,(hI _ _).2 ⟨k+1,_,aD,by omega, ?_, ?_, ?_, ?_,rfl⟩⟩
      . simp(disch:=omega)[go_sem]
      . simp(disch:=omega)[go_sem];omega
      . rw[hF,PO];exact q1.same (λq q5 q6=>by rw[ab.bn,if_neg (by omega)]) (by rw[ab.aR];exact xS _)
      . simp(disch:=omega)[go_sem];rw[q3 _ (by omega) (hgr.ne (.inl (by omega)))];simp(disch:=omega)[go_sem,f1]
      . simp(disch:=omega)[go_sem];rfl
     |false=>
      rw[hb]at hF;simp(disch:=omega)[go_sem,aC];refine⟨j-1,by omega,_,ax.bg (l:=[(1,cV c),(2,aM N),(5,aM (N+1)),(12,iV (g.ar.length:Nat)),(13,iV (k+1:Nat))]) ?_,(hI _ _).2 ⟨k+1,_,pv,by omega, ?_, ?_, ?_, ?_,rfl⟩⟩
      . simp(disch:=omega)[go_sem]
      . simp(disch:=omega)[go_sem];omega
      . rw[hF];simp only[TF,if_false,Xw];exact hgr.same (λq _ _=>rfl) (by rw[ab.fH];exact hM)
      . simp(disch:=omega)[go_sem,f1]
      . simp(disch:=omega)[go_sem,f2];rfl
   . have aa:¬(k:Int)<g.ar.length:=by omega
     simp(disch:=omega)[go_sem,aa,f2];obtain rfl:k=g.ar.length:=by omega
     rw[<-ad];refine yv (ah:=0) (cx (wr:=true) (by simp(disch:=omega)[go_sem];try rfl)) ?_;have h1:Fz (allRows (H.set (N+1) (some (.row [strs g.conds,.sl 3 (g.family.nodes.map cK),iV g.family.root,.sl 7 (g.ar.map Tok.e),strs g.aH,.sl 13 (g.ak.map aQ.e),iV g.start,.sl 4 (g.ba.map de.e),.sl 9 (g.bj.map bd.e),pv,.fn 69 [] [aM N]] true 0)))) pv (dq (jx g c)):=
      hgr.Jb (by decide) rfl az (cA.refl _) λR cs h1 h2 h3=>cx (wr:=true) (by rw[ab.bn,if_neg (by omega)];exact h3)
     have h2:Fz (allRows (H.set (N+1) (some (.row [strs g.conds,.sl 3 (g.family.nodes.map cK),iV g.family.root,.sl 7 (g.ar.map Tok.e),strs g.aH,.sl 13 (g.ak.map aQ.e),iV g.start,.sl 4 (g.ba.map de.e),.sl 9 (g.bj.map bd.e),pv,.fn 69 [] [aM N]] true 0)))) (.fn 69 [] [aM N]) (.fn 69 [] [.ptr g.e 0]):=
      Hg (mK (ah:=0) (cx (wr:=true) (by rw[ab.bn,if_neg (by omega)];exact f1)))
     simp only[gP,ai.e,List.cons_append,adW,ve,vd,vc,and_true,true_and];exact⟨h1,h2⟩
def lenOf(g:ai)(s:ByteArray)(k:Nat):Nat:=match g.ar[k]? with
 |some t=>iP t s
 |none=>0
def iQ(m:Nat)(t:Nat)(p:Nat×List Nat):Nat×List Nat:=
 let n:=if p.1<m then m else p.1
 let l:=if p.1<m then []else p.2
 (n,if m=n/\0<n then l++[t]else l)
def ir(g:ai)(s:ByteArray)(l:List Nat)(p:Nat×List Nat):Nat×List Nat:=l.foldl (λp t=>iQ (lenOf g s t) t p) p
def firstM(g:ai)(c:Nat)(s:ByteArray):Nat×List Nat:=ir g s (jx g c) (0,[])
theorem acI(m t:Nat)(p:Nat×List Nat):(iQ m t p).2.length<=p.2.length+1:=by
 unfold iQ;simp only
 split<;>split<;>simp
theorem Jc(g:ai)(s:ByteArray):∀(l:List Nat) (p:Nat×List Nat),(ir g s l p).2.length<=p.2.length+l.length
 |[],p=>xS _
 |t::l,p=>by
  have h1:=Jc g s l (iQ (lenOf g s t) t p);have h2:=acI (lenOf g s t) t p;simp only[ir,adX,adr]at h1⊢;omega
theorem Jd(g:ai)(c:Nat):∀k∈jx g c,k<g.ar.length:=λk hk=>by
 have:=(List.mem_filter.1 hk).1;simpa using this
theorem Je(g:ai)(c:Nat):(jx g c).length<=g.ar.length:=by
 unfold jx;exact Nat.le_trans (ZL _ _) (by simp)
set_option maxHeartbeats 4000000 in
theorem Jf(g:ai)(hg:lq g)(c:Nat)(s:ByteArray)(hs:s.size<=1000000000):ay E true 72 [.ptr (gP g c) 0,sV s] (.bb [iV ((firstM g c s).1:Nat),dq (firstM g c s).2]):=by
 refine aW Tryz.ntmps72 Tryz.results72 λN=> ?_;have hlen:=hg.len;have aT:=Je g c;have aL:=Jd g c;obtain⟨av,aw⟩:∃av,firstM g c s=av:=⟨_,rfl⟩;rw[aw];obtain⟨L,hL⟩:∃L,jx g c=L:=⟨_,rfl⟩;have aF:ir g s L (0,[])=av:=by rw[<-aw,<-hL];rfl
 have az:gP g c=[strs g.conds,.sl 3 (g.family.nodes.map cK),iV g.family.root,.sl 7 (g.ar.map Tok.e),strs g.aH,.sl 13 (g.ak.map aQ.e),iV g.start,.sl 4 (g.ba.map de.e),.sl 9 (g.bj.map bd.e),dq L,.fn 69 [] [.ptr g.e 0]]:=by rw[<-hL];rfl
 rw[hL]at aT aL;obtain⟨RD,aU⟩:∃RD,gP g c=RD:=⟨_,rfl⟩;rw[aU]at az⊢;simp(disch:=omega)[go_sem,az];rw[<-az];obtain⟨I,hI⟩:∃I:Nat->DS->Prop,∀j d,I j d↔∃(k n:Nat) (tl:List Nat) (H:ab) (pv:DV),j+k=L.length/\tl.length<=k/\ir g s (L.drop k) (n,tl)=av/\N<=H.next/\dI H N H.next 1 (tl.map λn=>[iV (n:Nat)]) pv/\
  d=⟨bz [(0,.ptr RD 0),(1,sV s),(6,iV (n:Nat)),(7,pv),(14,dq L),(15,iV (L.length:Nat)),(16,iV (k:Nat))],45,[],H⟩:=⟨_,λ_ _=>GP⟩
 refine bO I L.length ⟨_,ax.bg (l:=[(0,.ptr RD 0),(1,sV s),(6,iV (0:Nat)),(7,dQ),(14,dq L),(15,iV (L.length:Nat)),(16,iV (0:Nat))]) ?_,(hI _ _).2 ⟨0,0,[],_,dQ,rfl,xS _,aF,xS _,.nil _ _ _ _,rfl⟩⟩ ?_
 . simp(disch:=omega)[go_sem]
 . intro j ds aM;obtain⟨k,n,tl,H,pv,hj,bf,aa,hN,hgr,rfl⟩:=(hI _ _).1 aM;clear aM;have aN:∀x∈tl.map λn=>[iV (n:Nat)],x.length=1:=λx hx=>by obtain⟨y,_,rfl⟩:=W2.1 hx;rfl
   by_cases aP:k<L.length
   . have ae:(k:Int)<L.length:=by omega
     obtain⟨t,ht⟩:∃t,L[k]? =some t:=⟨_,DE aP⟩;obtain⟨tk,aR⟩:∃tk,g.ar[t]? =some tk:=⟨_,DE (aL t (PX ht))⟩;have ad:=acG g hg t tk aR s hs;have hm:lenOf g s t=iP tk s:=by simp only[lenOf,aR]
     have aX:L.drop k=t::L.drop (k+1):=by rw[adV aP,(Zj.1 ht).2]
     rw[aX]at aa;simp only[ir,adX,hm]at aa;obtain⟨m,aZ⟩:∃m,iP tk s=m:=⟨_,rfl⟩;rw[aZ]at ad aa;simp(disch:=omega)[go_sem,ae,ht,-getElem?_pos,az];rw[<-az];refine an.mk ad λM hM=> ?_;have fin:∀(H':ab) (aA:List Nat) (n':Nat) (ao:DV) (T:Tr DV),iQ m t (n,tl)=(n',aA)->N<=H'.next->aA.length<=k+1->dI H' N H'.next 1 (aA.map λn=>[iV (n:Nat)]) ao->jM T [(0,.ptr RD 0),(1,sV s),(6,iV (n':Nat)),(7,ao),(14,dq L),(15,iV (L.length:Nat)),(16,iV (k+1:Nat))]->∃j',j'<j/\∃d',ax ⟨T,45,[],H'⟩ d'/\I j' d':=λH' aA n' ao T h1 h2 h3 h4 h5=>
      ⟨j-1,by omega,_,ax.bg h5,(hI _ _).2 ⟨k+1,n',aA,H',ao,by omega,h3,by rw[<-h1];exact aa,h2,h4,rfl⟩⟩
     have aB:∀M',H.next<=M'->dI (H.up M') N M' 1 (tl.map λn=>[iV (n:Nat)]) pv:=λM' h=>hgr.same (λq _ _=>rfl) h;by_cases aI:n<m
     . have af:(n:Int)<m:=by omega
       have aS:0<m:=by omega
       simp(disch:=omega)[go_sem,af,aS];refine VX (by omega) (by omega) ?_;simp(disch:=omega)[go_sem,aC];refine fin _ [t] m (.v (.slice (some ⟨M+1,0,none⟩) 1 1)) _ ?_ ?_ ?_ ?_ ?_
       . simp only[iQ,if_pos aI,aS,and_self,if_true,adW]
       . simp(disch:=omega)[go_sem];omega
       . simp
       . exact .inr ⟨M+1,by omega,by simp(disch:=omega)[go_sem],rfl,by simp(disch:=omega)[go_sem]⟩
       . simp(disch:=omega)[go_sem]
     . have af:¬(n:Int)<m:=by omega
       by_cases bc:m=n/\0<n
       . obtain⟨rfl,aE⟩:=bc;simp(disch:=omega)[go_sem,aE];refine dI.app (st:=49) (xt:=49) (B:=N) (U:=M) (k:=1) (xs:=tl.map λn=>[iV (n:Nat)]) (hgr.same (λq q1 q2=>by rw[ab.di,if_neg (by rw[ab.fH];omega)];rfl) hM) uW uU (by omega) (by simp(disch:=omega)[go_sem]) (new:=[iV (t:Nat)]) (by simp(disch:=omega)[go_sem]) (by decide) rfl rfl aN (by rw[qe];omega) λH' ao T q0 q1 q2 q3 q4=> ?_;simp(disch:=omega)[go_sem]at q2;simp(disch:=omega)[go_sem,aC];refine fin _ (tl++[t]) m ao _ ?_ ?_ ?_ ?_ ?_
         . simp only[iQ,if_neg aI,aE,and_self,if_true]
         . omega
         . simp;omega
         . rw[PO];exact q1
         . simp(disch:=omega)[go_sem]
       . by_cases aD:m=n
         . have aE:n=0:=by omega
           subst aE;subst aD;simp(disch:=omega)[go_sem,aC];refine fin _ tl 0 pv _ ?_ ?_ (by omega) (aB M hM) ?_
           . simp[iQ]
           . simp(disch:=omega)[go_sem];omega
           . simp(disch:=omega)[go_sem]
         . have aK:¬(m:Int)=n:=by omega
           simp(disch:=omega)[go_sem,af,aK,aC];refine fin _ tl n pv _ ?_ ?_ (by omega) (aB M hM) ?_
           . simp only[iQ,if_neg aI,aD,false_and,if_false]
           . simp(disch:=omega)[go_sem];omega
           . simp(disch:=omega)[go_sem]
   . have ae:¬(k:Int)<L.length:=by omega
     rw[Zr (by omega)]at aa;have aa:(n,tl)=av:=aa;subst aa;simp(disch:=omega)[go_sem,ae];exact hgr.fz (by decide) aN
end Go.Sp
end

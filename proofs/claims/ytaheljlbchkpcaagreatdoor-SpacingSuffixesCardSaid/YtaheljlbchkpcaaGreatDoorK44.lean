/- SpacingSuffixes: parts of its proof (Sd3b Sd4). -/
import Derived.Test.YtaheljlbchkpcaaGreatDoorK43
set_option linter.unusedVariables false
set_option linter.unusedSimpArgs false
noncomputable section
open Go Go.aw Go.Proofs
namespace Go.Sp
set_option maxRecDepth 100000
structure Lf where
 tok:Nat
 text:ByteArray
def Lf.e(l:Lf):List DV:=[iV (-1),iV (l.tok:Nat),sV l.text,.sl 1 []]
def Lf.c(l:Lf):List DV:=[iV (-1),iV (l.tok:Nat),sV l.text,eN]
def Ai:List ByteArray:=[⟨#[120]⟩,⟨#[105,102]⟩,⟨#[101,108,115,101]⟩,⟨#[97,98]⟩]
def lT(t:Tok)(k:Nat)(b:Int):ByteArray:=if t.lit=⟨#[]⟩then(if k=0 then(Ai[(b/16%4).toNat]?).getD ⟨#[]⟩else t.jo)else t.lit
def iu(T:List Tok)(b:Int):Lf:=⟨(b%T.length).toNat,lT ((T[(b%T.length).toNat]?).getD iX) (b%T.length).toNat b⟩
def ll(T:List Tok)(c:Nat)(l:Lf):Bool:=match T[l.tok]? with
 |some t=>lR t c l.text
 |none=>false
def nV(r:fp)(c:Nat):List Lf:=((r.leaves.take 12).map (iu (cI r).ar)).filter (ll (cI r).ar c)
theorem afh{α:Type}(A C:List α)(i:Nat)(f:α->α)(h:i<A.length):(A++C).modify i f=A.modify i f++C:=by
 apply List.ext_getElem?;intro j;rw[List.getElem?_modify];rcases Nat.lt_or_ge j A.length with hj|hj
 . rw[List.getElem?_append_left hj,List.getElem?_append_left (by rw[List.length_modify];exact hj),List.getElem?_modify]
 . rw[List.getElem?_append_right hj,List.getElem?_append_right (by rw[List.length_modify];exact hj),List.length_modify];have ay:¬i=j:=by omega
   simp[ay]
theorem afi(r:fp)(hr:r.Ok):(cI r).ar=(if cu r.marks 5&&cu r.marks 6 then(cL bx r.x).ar.modify 9 (λx=>{x with cond:=aQ false})else(cL bx r.x).ar)++gT r.marks (cL bx r.x).conds.length/\cI r={cL bx r.x with ar:=(cI r).ar}:=by
 have aB:=(vD r.x hr.x).room.ar;unfold cI;simp only
 split
 . refine⟨?_,rfl⟩;show((cL bx r.x).ar++gT r.marks (cL bx r.x).conds.length).modify 9 _=_;exact afh _ _ 9 _ (by omega)
 . exact⟨rfl,rfl⟩
theorem KE{t t':Tok}(h:t.strip=t'.strip):t.cls=t'.cls/\t.lit=t'.lit/\t.pat=t'.pat/\t.jo=t'.jo:=by
 have:=h;simp only[Tok.strip,Tok.mk.injEq]at this;exact⟨this.2.1,this.2.2.1,this.2.2.2.1,this.2.2.2.2.1⟩
theorem KF(r:fp)(hr:r.Ok)(k:Nat)(t:Tok)(b:Int)(hk:(cI r).ar[k]? =some t)(hb:0<=b/\b<256):KB t (lT t k b):=by
 intro hc hl;have hs:=(xP r hr).strip;have ao:((ar++gT r.marks (cL bx r.x).conds.length).map Tok.strip)[k]? =some t.strip:=by rw[<-hs,List.getElem?_map,hk];rfl
 rw[List.getElem?_map]at ao;obtain⟨t0,h0,h1⟩:=Option.map_eq_some_iff.1 ao;obtain⟨a1,a2,a3,a4⟩:=KE h1;rw[<-a1]at hc;have au:t0.lit=⟨#[]⟩:=by rw[a2,hl]
 have hm:=List.mem_of_getElem? h0;have ae:t0=iX/\k=0\/t0.pat=nQ/\t0.jo=⟨#[120,43]⟩/\k≠0:=by
  by_cases ad:k=0
  . subst ad;have:(ar++gT r.marks (cL bx r.x).conds.length)[0]? =some iX:=rfl;rw[this]at h0;cases h0;exact .inl ⟨rfl,rfl⟩
  . right;have af:(ar++gT r.marks (cL bx r.x).conds.length)=iX::((lits.map gN++[u7,zp])++gT r.marks (cL bx r.x).conds.length):=rfl;obtain⟨j,rfl⟩:∃j,k=j+1:=⟨k-1,by omega⟩;rw[af,List.getElem?_cons_succ]at h0;have hm:=List.mem_of_getElem? h0;have aa:∀s∈lits++kB,s≠⟨#[]⟩:=by
     have h:((lits++kB).all λs=> !decide (s=⟨#[]⟩))=true:=by kernel_rfl
     intro s hs;simpa using List.all_eq_true.1 h s hs
    rcases List.mem_append.1 hm with hm|hm
    . exfalso;simp only[List.mem_append,List.mem_map,List.mem_cons,List.not_mem_nil,or_false]at hm;rcases hm with⟨s,hs,rfl⟩|rfl|rfl
      . exact aa s (List.mem_append.2 (.inl hs)) au
      . exact absurd hc (by decide)
      . exact absurd hc (by decide)
    . have:=(vG r.marks (cL bx r.x).conds.length).subset hm;simp only[List.mem_append,List.mem_cons,List.mem_map,List.not_mem_nil,or_false]at this;rcases this with⟨s,hs,rfl⟩|rfl|rfl|rfl
      . exact absurd au (aa s (List.mem_append.2 (.inr hs)))
      . exact⟨rfl,rfl,by omega⟩
      . exact absurd hc (by decide)
      . exact absurd hc (by decide)
 unfold lT;rw[if_pos hl];rcases ae with⟨rfl,rfl⟩|⟨h2,h3,h4⟩
 . rw[if_pos rfl,<-a3];have:(b/16%4).toNat=0\/(b/16%4).toNat=1\/(b/16%4).toNat=2\/(b/16%4).toNat=3:=by omega
   rcases this with h|h|h|h
   . rw[h];exact⟨_,List.mem_of_getElem? (i:=0) rfl,rfl,rfl⟩
   . rw[h];exact⟨_,List.mem_of_getElem? (i:=1) rfl,rfl,rfl⟩
   . rw[h];exact⟨_,List.mem_of_getElem? (i:=2) rfl,rfl,rfl⟩
   . rw[h];exact⟨_,List.mem_of_getElem? (i:=3) rfl,rfl,rfl⟩
 . rw[if_neg h4,<-a3,<-a4,h2,h3];exact⟨_,List.mem_of_getElem? (i:=4) rfl,rfl,rfl⟩
theorem afj{S:fA}(t:Tok):cP S t.c t.e:=by
 unfold Tok.c Tok.e;simp only[xe,xa,w9,and_true,true_and];cases t.pat with
 |nil=>exact .nil (by decide)
 |cons x l=>exact .refl _
theorem Ef{S:fA}:∀(B X:List Tok),cP S (B.map Tok.e++X.map Tok.c).flatten ((B++X).map Tok.e).flatten
 |[],[]=>.nil
 |[],x::X=>by
  simp only[List.map_nil,List.nil_append,List.map_cons,List.flatten_cons];exact aP.append (afj x) (by simpa using Ef [] X)
 |b::B,X=>by
  simp only[List.map_cons,List.cons_append,List.flatten_cons];exact aP.append (cP.refl _) (Ef B X)
theorem MS.fz{r:fp}{g:ai}{N M M2:Nat}{B X:List Tok}{H:ab}{pv:DV}(ms:MS r g N M M2 B X H pv){S:fA}(hS:∀R cs,oX pv=some R->H.get R=some (.row cs true 7)->S R=some (cs,7)):cP S (gE g pv) (ai.e {g with ar:=B++X}):=by
 have hp:Fz S pv (.sl 7 ((B++X).map Tok.e)):=by
  rcases ms.pv with⟨h0,rfl⟩|⟨R,h1,h2,rfl,h4⟩
  . have hB:B=[]:=by cases B with|nil=>rfl|cons b B=>simp at h0
    have hX:X=[]:=by cases X with|nil=>rfl|cons b X=>simp at h0
    subst hB;subst hX;exact .nil (by decide)
  . refine iW (hS R _ rfl h4) (.inr rfl) (by decide) (by simp) (Nat.le_refl _) (λx hx=>by obtain⟨y,_,rfl⟩:=List.mem_map.1 hx;rfl) (Ef B X)
 simp only[gE,ai.e,xe,xa,w9,and_true,true_and];exact hp
theorem KG{S:fA}:∀(L:List Lf),cP S (L.map Lf.c).flatten (L.map Lf.e).flatten
 |[]=>.nil
 |l::L=>by
  simp only[List.map_cons,List.flatten_cons];refine aP.append ?_ (KG L);simp only[Lf.c,Lf.e,xe,xa,w9,and_true,true_and];exact .nil (by decide)
theorem ew.KJ{H:ab}{B U k:Nat}{xs ys:List (List DV)}{pv:DV}{S:fA}(h:ew H B U k xs pv)(ad:0<k)(hl:xs.length=ys.length)(hy:∀x∈ys,x.length=k)(hz:cP S xs.flatten ys.flatten)(hS:∀R cs,B<=R->R<U->H.get R=some (.row cs true k)->S R=some (cs,k)):Fz S pv (.sl k ys):=by
 rcases h with⟨rfl,rfl⟩|⟨R,h1,h2,rfl,h4⟩
 . have:ys=[]:=List.eq_nil_of_length_eq_zero (by rw[<-hl];rfl);subst this;exact .nil ad
 . exact iW (hS R _ h1 h2 h4) (.inr rfl) ad hl (Nat.le_refl _) hy hz
theorem afk(B X:List Tok)(k:Nat)(t:Tok)(hk:(B++X)[k]? =some t):∃d3,di d3=true/\cE d3=[d3]/\(List.take 7 (List.drop (k*7) (B.map Tok.e++X.map Tok.c).flatten))=[sV t.name,iV t.cls,sV t.lit,d3,sV t.jo,.sl 3 (t.cond.nodes.map de),iV t.cond.root]/\k*7+7<=(B.map Tok.e++X.map Tok.c).flatten.length:=by
 have part:∀(xs:List (List DV)) (x:List DV),(∀y∈xs,y.length=7)->xs[k]? =some x->List.take 7 (List.drop (k*7) xs.flatten)=x/\k*7+7<=xs.flatten.length:=λxs x hx h=>by
  have az:=(List.getElem?_eq_some_iff.1 h).1;have e1:xs=xs.take k++(x::xs.drop (k+1)):=by rw[<-(List.getElem?_eq_some_iff.1 h).2,<-List.drop_eq_getElem_cons az,List.take_append_drop]
  have hl:(xs.take k).flatten.length=k*7:=by rw[fQ λy hy=>hx y (List.mem_of_mem_take hy),List.length_take];congr 1;omega
  have av:x.length=7:=hx x (List.mem_of_getElem? h);have e2:xs.flatten=(xs.take k).flatten++(x++(xs.drop (k+1)).flatten):=by
   have:=congrArg List.flatten e1;rwa[List.flatten_append,List.flatten_cons]at this
  rw[e2,List.drop_append,List.drop_eq_nil_of_le (by omega),hl,Nat.sub_self,List.drop_zero,List.nil_append,List.take_append,List.take_of_length_le (by omega),av,Nat.sub_self,List.take_zero,List.append_nil];exact⟨rfl,by simp only[List.length_append,hl,av];omega⟩
 rcases Nat.lt_or_ge k B.length with h|h
 . rw[List.getElem?_append_left h]at hk;obtain⟨h1,h2⟩:=part _ t.e (xS B X) (by rw[List.getElem?_append_left (by rw[List.length_map];exact h),List.getElem?_map,hk];rfl);exact⟨.sl 5 (t.pat.map aY.e),rfl,rfl,h1,h2⟩
 . rw[List.getElem?_append_right h]at hk;obtain⟨h1,h2⟩:=part _ t.c (xS B X) (by rw[List.getElem?_append_right (by rw[List.length_map];exact h),List.length_map,List.getElem?_map,hk];rfl);refine⟨(match t.pat with|[]=>eN|_=>.sl 5 (t.pat.map aY.e)), ?_, ?_,h1,h2⟩
   . cases t.pat<;>rfl
   . cases t.pat<;>rfl
end Go.Sp
end
noncomputable section
open Go Go.aw Go.Proofs
namespace Go.Sp
set_option maxRecDepth 100000
set_option maxHeartbeats 8000000 in
theorem afl(r:fp)(hr:r.Ok)(c:Nat)(hc:c<8)(bI:ax E true 14 [.agg (cI r).e,uV r.config] (cV c)):ax E true 5 [.agg r.e] (.bg [.agg (cI r).e,cV c,.sl 4 ((nV r c).map Lf.e)]):=by
 obtain⟨b9,bo⟩:∃b9,DV.bg [.agg (cI r).e,cV c,.sl 4 ((nV r c).map Lf.e)]=b9:=⟨_,rfl⟩;rw[bo];refine xr Vq rfl Tryz.ntmps5 Tryz.results5 λN=> ?_;have aB:=abL r.x hr.x;obtain⟨g,hg⟩:∃g,cL bx r.x=g:=⟨_,rfl⟩;rw[hg]at aB;have au:r.e=[uV r.x.base,uV r.x.n,.sl 1 (r.x.family.map λb=>[uV b]),.sl 4 (r.x.lines.map Ln.e),.sl 5 (r.x.rules.map Rl.e),uV r.marks,uV r.config,.sl 1 (r.leaves.map λb=>[uV b])]:=rfl;simp only[cQ.e]at aB;refine gk ?_;simp(disch:=omega)[go_sem,au];refine gk ?_;simp(disch:=omega)[go_sem];refine aq.mk aB λM hM=> ?_;simp(disch:=omega)[go_sem]at hM;simp(disch:=omega)[go_sem,ai.e];refine gk ?_;simp(disch:=omega)[go_sem];refine aq.mk (qf true) λM2 cn=> ?_;simp(disch:=omega)[go_sem]at cn;simp(disch:=omega)[go_sem,Dg.e,aQ];refine gk ?_;simp(disch:=omega)[go_sem];have bK:=vD r.x hr.x;rw[hg]at bK;have ca:=bK.room.ar;refine gd (wr:=true) (cs:=[]) (by simp(disch:=omega)[go_sem]) (by simp) (by omega) (by omega) ?_;simp(disch:=omega)[go_sem];refine gk ?_;simp(disch:=omega)[go_sem];refine jx (SI r g N M M2 g.ar (iE r.marks 3)) ?_ ?_
 . simp(disch:=omega)[go_sem];obtain⟨I,hI⟩:∃I:Nat->DS->Prop,∀j d,I j d↔∃(k:Nat) (H:ab) (pv:DV),j+k=3/\MS r g N M M2 g.ar (iE r.marks k) H pv/\M2+3<H.next/\H.get (M2+3)=some (.row (kB.map sV) true 0)/\oX pv≠some (M2+3)/\
    d=⟨bQ [(1,aO N),(2,aO (N+1)),(5,aO M),(6,aO M2),(7,.v (.slice (some ⟨M2+3,0,none⟩) 3 3)),(8,iV (k:Nat))],184,[],H⟩:=⟨_,λ_ _=>Iff.rfl⟩
   refine cx I 3 ⟨_,aA.bN (l:=[(1,aO N),(2,aO (N+1)),(5,aO M),(6,aO M2),(7,.v (.slice (some ⟨M2+3,0,none⟩) 3 3)),(8,iV (0:Nat))]) ?_,(hI _ _).2 ⟨0,_,.v (.slice (some ⟨M2+2,0,none⟩) g.ar.length g.ar.length),rfl,⟨?_, ?_, ?_, ?_, ?_, ?_⟩, ?_, ?_,by simp[oX],rfl⟩⟩ ?_
   . simp(disch:=omega)[go_sem]
   . simp(disch:=omega)[go_sem,au]
   . simp(disch:=omega)[go_sem,eE]
   . simp(disch:=omega)[go_sem,gE]
   . simp(disch:=omega)[go_sem,aQ,Dg.e]
   . refine .inr ⟨M2+2,by omega,by simp(disch:=omega)[go_sem];try omega,by simp[iE],by simp(disch:=omega)[go_sem,iE]⟩
   . refine⟨by omega,by omega,by simp(disch:=omega)[go_sem];try omega⟩
   . simp(disch:=omega)[go_sem]
   . simp(disch:=omega)[go_sem,kB]
   . intro j ds bq;obtain⟨k,H,pv,hj,ms,hN,f1,cb,rfl⟩:=(hI _ _).1 bq;clear bq;obtain⟨m1,m2,m3,m4,m5,m6,m7,m8⟩:=ms;by_cases cp:k<3
     . have aX:(k:Int)<3:=by omega
       have hb:=afd r.marks hr.marks.1 hr.marks.2 k (by omega);have hw:IntKind.u64.wrap (k:Int)=k:=wrap_u64 (by omega) (by omega);have hX:iE r.marks (k+1)=iE r.marks k++if cu r.marks k then [gN (kB[k]?.getD ⟨#[]⟩)]else []:=by simp only[iE,List.range_succ,List.flatMap_append];simp
       by_cases cc:cu r.marks k=true
       . simp only[if_pos cc]at hb hX;simp(disch:=omega)[go_sem]at hb;rw[au]at m1;simp(disch:=omega)[go_sem,aX,m1,hw,hb];refine ck [ae 0,aJ 1,ae 0,ae 0,ae 12,aJ 28,ae 0,ae 0,ae 192,aJ 448,aJ 0,ae 2044,cT 4092,aN 8191,ae 16383,aN 32767] (by kernel_rfl) 1 rfl ?_;obtain⟨s,hs⟩:∃s,kB[k]? =some s:=⟨_,List.getElem?_eq_getElem (by simpa[kB]using cp)⟩;rw[hs]at hX;simp(disch:=omega)[go_sem,m3,gE,f1,hs,m4,Dg.e,aQ,-getElem?_pos];have cH:(g.ar.map Tok.e++(iE r.marks k).map Tok.c).length<=30:=by
          have h1:=(vG r.marks 0).length_le;have h2:(iE r.marks k).length<=k:=by
           have:∀k,(iE r.marks k).length<=k:=λk=>by
            induction k with
            |zero=>simp[iE]
            |succ n ih=>
             have e:iE r.marks (n+1)=iE r.marks n++if cu r.marks n then [gN (kB[n]?.getD ⟨#[]⟩)]else []:=by simp only[iE,List.range_succ,List.flatMap_append];simp
             rw[e,List.length_append]
             split<;>simp<;>omega
           exact this k
          rw[List.length_append,List.length_map,List.length_map];omega
         refine ew.app (st:=34) (xt:=34) (B:=M2+1) (U:=H.next) (k:=7) (xs:=g.ar.map Tok.e++(iE r.marks k).map Tok.c) (m5.same (λq q1 q2=>by rw[ab.bw,if_neg (by omega)];rfl) (Nat.le_refl _)) Ce Cd (by omega) (by simp(disch:=omega)[go_sem]) (new:=(gN s).c) (by simp(disch:=omega)[go_sem];rfl) (by decide) rfl rfl (xS _ _) (by omega) λH' aY T q0 q1 q2 q3 q4=> ?_;simp(disch:=omega)[go_sem]at q2 q3;have e3:H'.get M=some (.row (gE g pv) true 0):=by rw[q3 _ (by omega) (m5.ne (.inl (by omega)))];simp(disch:=omega)[go_sem,m3]
         obtain⟨p1,p2⟩:=q1.cells;simp(disch:=omega)[go_sem,e3,gE,p1,p2,aD];refine⟨j-1,by omega,_,aA.bN (l:=[(1,aO N),(2,aO (N+1)),(5,aO M),(6,aO M2),(7,.v (.slice (some ⟨M2+3,0,none⟩) 3 3)),(8,iV (k+1:Nat))]) ?_,(hI _ _).2 ⟨k+1,_,aY,by omega,⟨?_, ?_, ?_, ?_, ?_,⟨m6,m7, ?_⟩⟩, ?_, ?_, ?_,rfl⟩⟩
         . simp(disch:=omega)[go_sem]
         . simp(disch:=omega)[go_sem];rw[q3 _ (by omega) (m5.ne (.inl (by omega))),au];simp(disch:=omega)[go_sem,m1]
         . simp(disch:=omega)[go_sem];rw[q3 _ (by omega) (m5.ne (.inl (by omega)))];simp(disch:=omega)[go_sem,m2]
         . simp(disch:=omega)[go_sem,gE]
         . simp(disch:=omega)[go_sem];rw[q3 _ (by omega) (m5.ne (.inl (by omega)))];simp(disch:=omega)[go_sem,m4]
         . rw[hX,List.map_append,<-List.append_assoc];exact q1.same (λq q5 q6=>by rw[ab.bw,if_neg (by omega)]) (by rw[ab.aS];exact Nat.le_refl _)
         . simp(disch:=omega)[go_sem];omega
         . simp(disch:=omega)[go_sem];omega
         . simp(disch:=omega)[go_sem];rw[q3 _ (by omega) cb];simp(disch:=omega)[go_sem,f1]
         . rw[q4];simp(disch:=omega)[go_sem];omega
       . simp only[if_neg cc]at hb hX;simp(disch:=omega)[go_sem]at hb;rw[au]at m1;simp(disch:=omega)[go_sem,aX,m1,hw,hb,aD];refine⟨j-1,by omega,_,aA.bN (l:=[(1,aO N),(2,aO (N+1)),(5,aO M),(6,aO M2),(7,.v (.slice (some ⟨M2+3,0,none⟩) 3 3)),(8,iV (k+1:Nat))]) ?_,(hI _ _).2 ⟨k+1,_,pv,by omega,⟨by rw[au];exact m1,m2,m3,m4,by rw[hX];simpa using m5,⟨m6,m7,m8⟩⟩,hN,f1,cb,rfl⟩⟩;simp(disch:=omega)[go_sem]
     . have aX:¬(k:Int)<3:=by omega
       obtain rfl:k=3:=by omega
       simp(disch:=omega)[go_sem];refine⟨_,aA.bN (l:=[(1,aO N),(2,aO (N+1)),(5,aO M),(6,aO M2)]) ?_,_,pv,⟨m1,m2,m3,m4,m5,m6,m7,m8⟩,rfl⟩;simp(disch:=omega)[go_sem]
 rintro d ⟨H,pv,ms,rfl⟩;obtain⟨bj,av,aa⟩:=afe r.marks hr.marks.1 hr.marks.2;have bL:ax E true 13 [uV r.marks,iV (g.conds.length:Nat)] (.agg (cB bx r.marks g.conds.length).e):=Ij IB bx IE r.marks g.conds.length hr.marks.1 hr.marks.2 bK.room.conds;have cr:g.ar.length+(iE r.marks 3).length<=20:=by
  have h1:=(vG r.marks 0).length_le;have:(iE r.marks 3).length<=(gT r.marks 0).length:=by simp only[gT,List.length_append];omega
  simp only[List.length_append,List.length_map,List.length_cons,List.length_nil,kB]at h1;omega
 obtain⟨X1,cd⟩:∃X1,iE r.marks 3=X1:=⟨_,rfl⟩;rw[cd]at ms cr;refine jx (SI r g N M M2 g.ar (X1++if cu r.marks 3 then [rQ (cB bx r.marks g.conds.length)]else [])) ?_ ?_
 . have m1:=ms.r;have m3:=ms.g;rw[au]at m1;obtain⟨l1,l2,l3⟩:=ms.lt;by_cases hb:cu r.marks 3=true
   . simp only[if_pos hb]at bj⊢;simp(disch:=omega)[go_sem]at bj;simp(disch:=omega)[go_sem,m1,bj];refine aq.mk (Ee 1 rfl) λP hP=> ?_;simp(disch:=omega)[go_sem];refine ck [lH 0,dF 1,ae 0,ae 0,aJ 8,ae 0,aJ 32,aJ 96,aN 248,ae 508,cT 1020,aN 2047,ae 4095,aN 8191] (by kernel_rfl) 1 rfl ?_;simp(disch:=omega)[go_sem,m1,m3,gE];refine⟨by omega, ?_⟩;refine aq.mk bL λP2 aZ=> ?_;simp(disch:=omega)[go_sem]at aZ;simp(disch:=omega)[go_sem,Dg.e,m3,gE];refine ms.app (q:=P) (rQ (cB bx r.marks g.conds.length)) (by omega) (by simp(disch:=omega)[go_sem];try omega) (λj hj=>by rw[ab.bw,if_neg (by omega)];rfl) (by simp(disch:=omega)[go_sem];rfl) λH' aY T q0 p1 p2 e3 q1 q3 bs=> ?_;have nT:∀j,j<M2+1->j∉T:=λj hj hm=>by have:=q0 j hm;omega
     simp(disch:=omega)[go_sem,e3,gE,p1,p2,nT];refine⟨_,aA.bN (l:=[(1,aO N),(2,aO (N+1)),(5,aO M),(6,aO M2)]) ?_,_,aY,by simpa[gE]using bs,rfl⟩;simp(disch:=omega)[go_sem]
   . simp only[if_neg hb]at bj⊢;simp(disch:=omega)[go_sem]at bj;simp(disch:=omega)[go_sem,m1,bj];refine⟨_,aA.bN (l:=[(1,aO N),(2,aO (N+1)),(5,aO M),(6,aO M2)]) ?_,_,pv,by simpa using ms,rfl⟩;simp(disch:=omega)[go_sem]
 rintro d ⟨H,pv,ms,rfl⟩;obtain⟨X2,bO⟩:∃X2,(X1++if cu r.marks 3 then [rQ (cB bx r.marks g.conds.length)]else [])=X2:=⟨_,rfl⟩;rw[bO]at ms;have cJ:g.ar.length+X2.length<=21:=by rw[<-bO,List.length_append];split<;>simp<;>omega
 refine jx (SI r g N M M2 g.ar (X2++if cu r.marks 4 then [rR]else [])) ?_ ?_
 . have m1:=ms.r;have m3:=ms.g;have m4:=ms.c;rw[au]at m1;obtain⟨l1,l2,l3⟩:=ms.lt;by_cases hb:cu r.marks 4=true
   . simp only[if_pos hb]at av⊢;simp(disch:=omega)[go_sem]at av;simp(disch:=omega)[go_sem,m1,av];refine aq.mk (Ee 2 rfl) λP hP=> ?_;simp(disch:=omega)[go_sem,m3,gE,m4,Dg.e,aQ];refine ms.app (q:=P) rR (by omega) (by simp(disch:=omega)[go_sem];try omega) (λj hj=>by rw[ab.dT,if_neg (by rw[ab.kj];omega)];rfl) (by simp(disch:=omega)[go_sem];rfl) λH' aY T q0 p1 p2 e3 q1 q3 bs=> ?_;simp(disch:=omega)[go_sem,e3,gE,p1,p2];refine⟨_,aA.bN (l:=[(1,aO N),(2,aO (N+1)),(5,aO M),(6,aO M2)]) ?_,_,aY,by simpa[gE]using bs,rfl⟩;simp(disch:=omega)[go_sem]
   . simp only[if_neg hb]at av⊢;simp(disch:=omega)[go_sem]at av;simp(disch:=omega)[go_sem,m1,av];refine⟨_,aA.bN (l:=[(1,aO N),(2,aO (N+1)),(5,aO M),(6,aO M2)]) ?_,_,pv,by simpa using ms,rfl⟩;simp(disch:=omega)[go_sem]
 rintro d ⟨H,pv,ms,rfl⟩;obtain⟨X3,bP⟩:∃X3,(X2++if cu r.marks 4 then [rR]else [])=X3:=⟨_,rfl⟩;rw[bP]at ms;have cM:g.ar.length+X3.length<=22:=by rw[<-bP,List.length_append];split<;>simp<;>omega
 refine jx (SI r g N M M2 g.ar (X3++if cu r.marks 5&& !cu r.marks 6 then [qq]else [])) ?_ ?_
 . have m1:=ms.r;have m3:=ms.g;have m4:=ms.c;rw[au]at m1;obtain⟨l1,l2,l3⟩:=ms.lt;by_cases hb:(cu r.marks 5&& !cu r.marks 6)=true
   . have bt:cu r.marks 5=true/\cu r.marks 6=false:=by simpa using hb
     simp only[if_pos hb];rw[bt.1,bt.2]at aa;simp(disch:=omega)[go_sem]at aa;simp(disch:=omega)[go_sem,m1,aa];refine aq.mk (Ee 3 rfl) λP hP=> ?_;simp(disch:=omega)[go_sem,m3,gE,m4,Dg.e,aQ];refine ms.app (q:=P) qq (by omega) (by simp(disch:=omega)[go_sem];try omega) (λj hj=>by rw[ab.dT,if_neg (by rw[ab.kj];omega)];rfl) (by simp(disch:=omega)[go_sem];rfl) λH' aY T q0 p1 p2 e3 q1 q3 bs=> ?_;simp(disch:=omega)[go_sem,e3,gE,p1,p2];refine⟨_,aA.bN (l:=[(1,aO N),(2,aO (N+1)),(5,aO M),(6,aO M2)]) ?_,_,aY,by simpa[gE]using bs,rfl⟩;simp(disch:=omega)[go_sem]
   . simp only[if_neg hb];have bu:IntKind.u8.wrap (((BitVec.ofInt IntKind.u8.bits r.marks&&&BitVec.ofInt IntKind.u8.bits 96).toNat:Nat):Int)≠32:=by
      rw[aa];cases h5:cu r.marks 5<;>cases h6:cu r.marks 6<;>simp[h5,h6]at hb⊢
     clear aa;simp(disch:=omega)[go_sem]at bu;simp(disch:=omega)[go_sem,m1,bu];refine⟨_,aA.bN (l:=[(1,aO N),(2,aO (N+1)),(5,aO M),(6,aO M2)]) ?_,_,pv,by simpa using ms,rfl⟩;simp(disch:=omega)[go_sem]
 rintro d ⟨H,pv,ms,rfl⟩;obtain⟨X4,bR⟩:∃X4,(X3++if cu r.marks 5&& !cu r.marks 6 then [qq]else [])=X4:=⟨_,rfl⟩;rw[bR]at ms;have cO:g.ar.length+X4.length<=23:=by
  have:(if cu r.marks 5&& !cu r.marks 6 then [qq]else []).length<=1:=by split<;>simp
  rw[<-bR,List.length_append];omega
 refine jx (SI r g N M M2 (if cu r.marks 5&&cu r.marks 6 then g.ar.modify 9 (λx=>{x with cond:=aQ false})else g.ar) X4) ?_ ?_
 . have m1:=ms.r;have m3:=ms.g;have m4:=ms.c;rw[au]at m1;obtain⟨l1,l2,l3⟩:=ms.lt;by_cases hb:(cu r.marks 5&&cu r.marks 6)=true
   . have bt:cu r.marks 5=true/\cu r.marks 6=true:=by simpa using hb
     simp only[if_pos hb];rw[bt.1,bt.2]at aa;simp(disch:=omega)[go_sem]at aa;simp(disch:=omega)[go_sem,m1,aa];refine ck [lH 0,dF 1,aN 0,ae 7,ae 15,aN 31] (by kernel_rfl) 0 rfl ?_;rcases ms.pv with⟨h0,_⟩|⟨R,r1,r2,rfl,r4⟩
     . have:=congrArg List.length h0;rw[List.length_append,List.length_map,ca]at this;simp at this
     simp(disch:=omega)[go_sem,m3,gE];refine⟨by omega, ?_⟩;refine aq.mk (qf false) λP hP=> ?_;simp(disch:=omega)[go_sem]at hP;have cv:((g.ar.map Tok.e++X4.map Tok.c).flatten).length=(g.ar.length+X4.length)*7:=by rw[fQ (xS _ _),List.length_append,List.length_map,List.length_map]
     have bH:=afg g.ar ((X4.map Tok.c).flatten) 9 (by omega) (aQ false);rw[<-List.flatten_append]at bH;simp only[aQ,Dg.e]at bH;obtain⟨cells,af⟩:∃cells,(g.ar.map Tok.e++X4.map Tok.c).flatten=cells:=⟨_,rfl⟩;rw[af]at bH cv r4;have bT:List.take 68 cells++.sl 3 []::iV 0::List.drop 70 cells=((g.ar.modify 9 λx=>{x with cond:=aQ false}).map Tok.e).flatten++(X4.map Tok.c).flatten:=bH;simp(disch:=omega)[go_sem,Dg.e,aQ,r4,bT,show 70<=cells.length from by omega];refine⟨_,aA.bN (l:=[(1,aO N),(2,aO (N+1)),(5,aO M),(6,aO M2)]) ?_,_,.v (.slice (some ⟨R,0,none⟩) (g.ar.length+X4.length) (g.ar.length+X4.length)),⟨?_, ?_, ?_, ?_, ?_, ?_⟩,rfl⟩
     . simp(disch:=omega)[go_sem]
     . rw[au];simp(disch:=omega)[go_sem,m1]
     . simp(disch:=omega)[go_sem,ms.o]
     . simp(disch:=omega)[go_sem,m3,gE]
     . simp(disch:=omega)[go_sem,m4,aQ,Dg.e]
     . refine .inr ⟨R,r1,by simp(disch:=omega)[go_sem];omega,by simp,by simp(disch:=omega)[go_sem,aQ]⟩
     . exact⟨l1,l2,by simp(disch:=omega)[go_sem];omega⟩
   . simp only[if_neg hb];have bu:IntKind.u8.wrap (((BitVec.ofInt IntKind.u8.bits r.marks&&&BitVec.ofInt IntKind.u8.bits 96).toNat:Nat):Int)≠96:=by
      rw[aa];cases h5:cu r.marks 5<;>cases h6:cu r.marks 6<;>simp[h5,h6]at hb⊢
     clear aa;simp(disch:=omega)[go_sem]at bu;simp(disch:=omega)[go_sem,m1,bu];refine⟨_,aA.bN (l:=[(1,aO N),(2,aO (N+1)),(5,aO M),(6,aO M2)]) ?_,_,pv,by simpa using ms,rfl⟩;simp(disch:=omega)[go_sem]
 rintro d ⟨H,pv,ms,rfl⟩;obtain⟨B,hB⟩:∃B,(if cu r.marks 5&&cu r.marks 6 then g.ar.modify 9 (λx=>{x with cond:=aQ false})else g.ar)=B:=⟨_,rfl⟩;rw[hB]at ms;obtain⟨ay,bb⟩:=afi r hr;rw[hg]at ay bb;rw[hB]at ay;have bU:X4=gT r.marks g.conds.length:=by rw[<-bR,<-bP,<-bO,<-cd];simp only[gT]
 rw[<-bU]at ay;rw[ay]at bb;have bW:B.length=11:=by rw[<-hB];split<;>simp[ca]
 obtain⟨nt,bk⟩:∃nt,(B.map Tok.e++X4.map Tok.c).length=nt:=⟨_,rfl⟩;have bY:nt=(cI r).ar.length:=by rw[<-bk,ay];simp
 have cw:11<=nt/\nt<=23:=by rw[<-bk,List.length_append,List.length_map,List.length_map];omega
 have bZ:∀R,oX pv=some R->M2<R/\R<H.next:=λR h3=>by
  rcases ms.pv with⟨_,rfl⟩|⟨R',h6,h5,rfl,_⟩
  . cases h3
  . simp only[oX,Option.some.injEq]at h3;omega
 have b0:∀{S:fA} (H':ab),(∀j,M2<j->j<H.next->H'.get j=H.get j)->(∀R cs z,H'.get R=some (.row cs true z)->S R=some (cs,z))->cP S (gE g pv) (cI r).e:=λ{S} H' h1 h2=>by
  rw[bb];refine ms.fz λR cs h3 h4=>h2 R cs 7 (by obtain⟨a,b⟩:=bZ R h3;rw[h1 R a b];exact h4)
 have b1:∀(H':ab) (R:Nat) (cs:List DV) (z:Nat),H'.get R=some (.row cs true z)->allRows H' R=some (cs,z):=λH' R cs z h=>cN h;have m1:=ms.r;have m2:=ms.o;have m3:=ms.g;rw[au]at m1;obtain⟨l1,l2,l3⟩:=ms.lt;obtain⟨p1,p2⟩:=ms.pv.cells;refine gk ?_;simp(disch:=omega)[go_sem,m3,m1,gE];refine aq.pl bI (.cons ?_ (.cons (.refl _) .nil)) λP hP=> ?_
 . rw[GZ];exact b0 H (λ_ _ _=>rfl) (b1 H)
 simp(disch:=omega)[go_sem];refine gk ?_;simp(disch:=omega)[go_sem]
 let T:=(cI r).ar
 let F:Nat->List Lf:=λk=>((r.leaves.take k).map (iu T)).filter (ll T c)
 have hT:(cI r).ar=T:=rfl;refine jx (λd=>∃(H':ab) (ad:DV),H.next<=H'.next/\(∀j,j<H.next->H'.get j=H.get j)/\ew H' H.next H'.next 4 ((nV r c).map Lf.c) ad/\d=⟨bQ [(2,aO (N+1)),(5,aO M),(15,cV c),(16,ad)],184,[],H'⟩) ?_ ?_
 . simp(disch:=omega)[go_sem];obtain⟨I,hI⟩:∃I:Nat->DS->Prop,∀j d,I j d↔∃(k:Nat) (H':ab) (ad:DV),j+k=12/\k<=r.leaves.length/\H.next<=H'.next/\(∀j,j<H.next->H'.get j=H.get j)/\ew H' H.next H'.next 4 ((F k).map Lf.c) ad/\
    d=⟨bQ [(1,aO N),(2,aO (N+1)),(5,aO M),(15,cV c),(16,ad),(17,iV (k:Nat))],184,[],H'⟩:=⟨_,λ_ _=>Iff.rfl⟩
   refine cx I 12 ⟨_,aA.bN (l:=[(1,aO N),(2,aO (N+1)),(5,aO M),(15,cV c),(16,eN),(17,iV (0:Nat))]) ?_,(hI _ _).2 ⟨0,_,eN,rfl,Nat.zero_le _, ?_,λj hj=> ?_,.nil _ _ _ _,rfl⟩⟩ ?_
   . simp(disch:=omega)[go_sem]
   . rw[ab.kj];exact hP
   . rfl
   . intro j ds bq;obtain⟨k,H',ad,hj,cR,hn,hold,hgr,rfl⟩:=(hI _ _).1 bq;clear bq;have n1:H'.get N=some (.row r.e true 0):=by rw[hold N (by omega)];exact ms.r
     have n3:H'.get M=some (.row (gE g pv) true 0):=by rw[hold M (by omega)];exact ms.g
     rw[au]at n1;have done:(k=12\/k=r.leaves.length)->F k=nV r c:=λh=>by
      rcases h with rfl|rfl
      . rfl
      . show((r.leaves.take r.leaves.length).map (iu T)).filter (ll T c)=((r.leaves.take 12).map (iu T)).filter (ll T c);rw[List.take_of_length_le (Nat.le_refl _),List.take_of_length_le (by omega)]
     by_cases cy:k<r.leaves.length
     . have aL:(k:Int)<r.leaves.length:=by omega
       by_cases cW:k<12
       . have bc:(k:Int)<12:=by omega
         obtain⟨b,hb⟩:∃b,r.leaves[k]? =some b:=⟨_,List.getElem?_eq_getElem cy⟩;have cC:=hr.leaves b (List.mem_of_getElem? hb);have hF:F (k+1)=F k++if ll T c (iu T b)then [iu T b]else []:=by
          simp only[F,List.take_add_one,hb,Option.toList_some,List.map_append,List.filter_append,List.map_cons,List.map_nil];cases cD:ll T c (iu T b)<;>simp[cD]
         simp(disch:=omega)[go_sem,n1,aL,bc];refine ck [ae 0,aJ 1,ae 0,ae 7,aJ 15,aJ 31,ae 0,aJ 64,aJ 192,ae 511,ae 1023] (by kernel_rfl) 0 rfl ?_;rcases ms.pv with⟨h0,_⟩|⟨R,r1,r2,bl,r4⟩
         . rw[h0]at bk;simp at bk;omega
         rw[bk]at bl;have r5:H'.get R=_:=(hold R r2).trans r4;have cE:T.length=nt:=bY.symm;have cX:0<=b%(nt:Int):=Int.emod_nonneg _ (by omega);have cZ:b%(nt:Int)<nt:=Int.emod_lt_of_pos _ (by omega);obtain⟨kk,cg⟩:∃kk:Nat,b%(nt:Int)=kk:=⟨(b%(nt:Int)).toNat,by omega⟩;have bA:kk<nt:=by omega
         obtain⟨tk,ch⟩:∃tk,(B++X4)[kk]? =some tk:=⟨_,List.getElem?_eq_getElem (by rw[<-bk]at bA;simpa using bA)⟩;obtain⟨d3,d1,d2,aR,cj⟩:=afk B X4 kk tk ch;obtain⟨cells,af⟩:∃cells,(B.map Tok.e++X4.map Tok.c).flatten=cells:=⟨_,rfl⟩;rw[af]at r5 aR cj;have b2:¬(nt:Int)=0:=by omega
         have ao:T[kk]? =some tk:=by show(cI r).ar[kk]? =some tk;rw[ay];exact ch
         have bn:iu T b=⟨kk,lT tk kk b⟩:=by
          simp only[iu,cE,cg,Int.toNat_natCast,ao,Option.getD_some]
         have b3:=KF r hr kk tk b ao cC;have b5:=(xP r hr).cond tk (List.mem_of_getElem? ao);obtain⟨ct,cF,b6,_⟩:=b5;have az:=afc (cI r) kk tk ao (by omega) ct cF b6 c hc (lT tk kk b) b3 eN rfl;simp(disch:=omega)[go_sem,n1,n3,hb,gE,bl,aD,dr,b2,cg,r5,aR,cj,d1,-getElem?_pos];have bf:∀Hc:ab,(∀j,M2<j->j<H.next->Hc.get j=H.get j)->cP (allRows Hc) (gE g (.v (.slice (some ⟨R,0,none⟩) nt nt))) (cI r).e:=λHc h=>by rw[<-bl];exact b0 Hc h (b1 Hc)
         have b7:∀x∈(F k).map Lf.c,x.length=4:=λx hx=>by obtain⟨y,_,rfl⟩:=List.mem_map.1 hx;rfl
         have c0:(F k).length<=k:=by
          have h1:=List.length_filter_le (ll T c) ((r.leaves.take k).map (iu T));rw[List.length_map,List.length_take]at h1;show(((r.leaves.take k).map (iu T)).filter (ll T c)).length<=k;omega
         have b8:M≠H'.next:=by omega
         have bh:M≠H'.next+1:=by omega
         by_cases hl:tk.lit=⟨#[]⟩
         . by_cases aI:kk=0
           . have q0:0<=b/16%4:=by omega
             have q1:b/16%4<4:=by omega
             have w1:IntKind.u8.wrap (b/16)=b/16:=wrap_u8 (by omega) (by omega);have w2:IntKind.i64.wrap (b/16)=b/16:=aD (by omega) (by omega);obtain⟨s,hs⟩:∃s,Ai[(b/16%4).toNat]? =some s:=⟨_,List.getElem?_eq_getElem (by simp[Ai];omega)⟩;have cG:[sV ⟨#[120]⟩,sV ⟨#[105,102]⟩,sV ⟨#[101,108,115,101]⟩,sV ⟨#[97,98]⟩][(b/16%4).toNat]? =some (sV s):=by
              have:(Ai.map sV)[(b/16%4).toNat]? =some (sV s):=by rw[List.getElem?_map,hs];rfl
              exact this
             have aE:lT tk kk b=s:=by simp only[lT,if_pos hl,if_pos aI,hs,Option.getD_some]
             simp(disch:=omega)[go_sem,hl,aI,n1,n3,gE,bl,b8,bh,hb,jT,dr,w1,w2,q0,q1,cG,-getElem?_pos];rw[aE]at az;have bD:ll T c (iu T b)=lR tk c (s):=by rw[bn,aE];simp only[ll,ao]
             have aF:iu T b=⟨kk,s⟩:=by rw[bn,aE]
             rw[bD,aF]at hF;refine aq.pl az (.cons (Fz.dV (bf _ λj j1 j2=> ?_)) (.cons (.refl _) (.cons ?_ .nil))) λP2 aZ=> ?_
             . simp(disch:=omega)[go_sem,hold]
             . first|exact .refl _|(subst aI;exact .refl _)
             simp(disch:=omega)[go_sem]at aZ;cases hv:lR tk c (s)with
             |true=>
              rw[hv,if_pos rfl]at hF;simp(disch:=omega)[go_sem];refine ew.app (st:=42) (xt:=42) (B:=H.next) (U:=H'.next) (k:=4) (xs:=(F k).map Lf.c) (hgr.same (λj j1 j2=>by simp(disch:=omega)[go_sem,Nat.ne_of_lt j2]) (Nat.le_refl _)) y5 yZ (by omega) (by simp(disch:=omega)[go_sem];omega) (new:=Lf.c ⟨kk,s⟩) (by simp(disch:=omega)[go_sem];first|rfl|(subst aI;rfl)) (by decide) rfl rfl b7 (by rw[List.length_map];omega) λH2 aT T2 cl bF bG aU cm=> ?_;simp(disch:=omega)[go_sem]at bG aU;simp(disch:=omega)[go_sem,aD];refine⟨j-1,by omega,_,aA.bN (l:=[(1,aO N),(2,aO (N+1)),(5,aO M),(15,cV c),(16,aT),(17,iV (k+1:Nat))]) ?_,(hI _ _).2 ⟨k+1,_,aT,by omega,by omega,by omega,λq hq=> ?_,by rw[hF,List.map_append];exact bF,rfl⟩⟩
              . simp(disch:=omega)[go_sem]
              . rw[aU q (by omega) (hgr.ne (.inl (by omega)))];simp(disch:=omega)[go_sem,hold]
             |false=>
              rw[hv]at hF;simp(disch:=omega)[go_sem,aD];refine⟨j-1,by omega,_,aA.bN (l:=[(1,aO N),(2,aO (N+1)),(5,aO M),(15,cV c),(16,ad),(17,iV (k+1:Nat))]) ?_,(hI _ _).2 ⟨k+1,_,ad,by omega,by omega,by simp(disch:=omega)[go_sem];omega,λq hq=> ?_, ?_,rfl⟩⟩
              . simp(disch:=omega)[go_sem]
              . simp(disch:=omega)[go_sem,hold]
              . rw[hF];simp only[Bool.false_eq_true,if_false,List.append_nil];exact hgr.same (λj j1 j2=>by simp(disch:=omega)[go_sem,Nat.ne_of_lt j2]) (by simp(disch:=omega)[go_sem];omega)
           . have aE:lT tk kk b=tk.jo:=by simp only[lT,if_pos hl,if_neg aI]
             simp(disch:=omega)[go_sem,hl,aI,n3,gE,bl,b8,bh];rw[aE]at az;have bD:ll T c (iu T b)=lR tk c (tk.jo):=by rw[bn,aE];simp only[ll,ao]
             have aF:iu T b=⟨kk,tk.jo⟩:=by rw[bn,aE]
             rw[bD,aF]at hF;refine aq.pl az (.cons (Fz.dV (bf _ λj j1 j2=> ?_)) (.cons (.refl _) (.cons ?_ .nil))) λP2 aZ=> ?_
             . simp(disch:=omega)[go_sem,hold]
             . first|exact .refl _|(subst aI;exact .refl _)
             simp(disch:=omega)[go_sem]at aZ;cases hv:lR tk c (tk.jo)with
             |true=>
              rw[hv,if_pos rfl]at hF;simp(disch:=omega)[go_sem];refine ew.app (st:=42) (xt:=42) (B:=H.next) (U:=H'.next) (k:=4) (xs:=(F k).map Lf.c) (hgr.same (λj j1 j2=>by simp(disch:=omega)[go_sem,Nat.ne_of_lt j2]) (Nat.le_refl _)) y5 yZ (by omega) (by simp(disch:=omega)[go_sem];omega) (new:=Lf.c ⟨kk,tk.jo⟩) (by simp(disch:=omega)[go_sem];first|rfl|(subst aI;rfl)) (by decide) rfl rfl b7 (by rw[List.length_map];omega) λH2 aT T2 cl bF bG aU cm=> ?_;simp(disch:=omega)[go_sem]at bG aU;simp(disch:=omega)[go_sem,aD];refine⟨j-1,by omega,_,aA.bN (l:=[(1,aO N),(2,aO (N+1)),(5,aO M),(15,cV c),(16,aT),(17,iV (k+1:Nat))]) ?_,(hI _ _).2 ⟨k+1,_,aT,by omega,by omega,by omega,λq hq=> ?_,by rw[hF,List.map_append];exact bF,rfl⟩⟩
              . simp(disch:=omega)[go_sem]
              . rw[aU q (by omega) (hgr.ne (.inl (by omega)))];simp(disch:=omega)[go_sem,hold]
             |false=>
              rw[hv]at hF;simp(disch:=omega)[go_sem,aD];refine⟨j-1,by omega,_,aA.bN (l:=[(1,aO N),(2,aO (N+1)),(5,aO M),(15,cV c),(16,ad),(17,iV (k+1:Nat))]) ?_,(hI _ _).2 ⟨k+1,_,ad,by omega,by omega,by simp(disch:=omega)[go_sem];omega,λq hq=> ?_, ?_,rfl⟩⟩
              . simp(disch:=omega)[go_sem]
              . simp(disch:=omega)[go_sem,hold]
              . rw[hF];simp only[Bool.false_eq_true,if_false,List.append_nil];exact hgr.same (λj j1 j2=>by simp(disch:=omega)[go_sem,Nat.ne_of_lt j2]) (by simp(disch:=omega)[go_sem];omega)
         . have aE:lT tk kk b=tk.lit:=by simp only[lT,if_neg hl]
           simp(disch:=omega)[go_sem,hl,n3,gE,bl,b8,bh];rw[aE]at az;have bD:ll T c (iu T b)=lR tk c (tk.lit):=by rw[bn,aE];simp only[ll,ao]
           have aF:iu T b=⟨kk,tk.lit⟩:=by rw[bn,aE]
           rw[bD,aF]at hF;refine aq.pl az (.cons (Fz.dV (bf _ λj j1 j2=> ?_)) (.cons (.refl _) (.cons ?_ .nil))) λP2 aZ=> ?_
           . simp(disch:=omega)[go_sem,hold]
           . first|exact .refl _|(subst aI;exact .refl _)
           simp(disch:=omega)[go_sem]at aZ;cases hv:lR tk c (tk.lit)with
           |true=>
            rw[hv,if_pos rfl]at hF;simp(disch:=omega)[go_sem];refine ew.app (st:=42) (xt:=42) (B:=H.next) (U:=H'.next) (k:=4) (xs:=(F k).map Lf.c) (hgr.same (λj j1 j2=>by simp(disch:=omega)[go_sem,Nat.ne_of_lt j2]) (Nat.le_refl _)) y5 yZ (by omega) (by simp(disch:=omega)[go_sem];omega) (new:=Lf.c ⟨kk,tk.lit⟩) (by simp(disch:=omega)[go_sem];first|rfl|(subst aI;rfl)) (by decide) rfl rfl b7 (by rw[List.length_map];omega) λH2 aT T2 cl bF bG aU cm=> ?_;simp(disch:=omega)[go_sem]at bG aU;simp(disch:=omega)[go_sem,aD];refine⟨j-1,by omega,_,aA.bN (l:=[(1,aO N),(2,aO (N+1)),(5,aO M),(15,cV c),(16,aT),(17,iV (k+1:Nat))]) ?_,(hI _ _).2 ⟨k+1,_,aT,by omega,by omega,by omega,λq hq=> ?_,by rw[hF,List.map_append];exact bF,rfl⟩⟩
            . simp(disch:=omega)[go_sem]
            . rw[aU q (by omega) (hgr.ne (.inl (by omega)))];simp(disch:=omega)[go_sem,hold]
           |false=>
            rw[hv]at hF;simp(disch:=omega)[go_sem,aD];refine⟨j-1,by omega,_,aA.bN (l:=[(1,aO N),(2,aO (N+1)),(5,aO M),(15,cV c),(16,ad),(17,iV (k+1:Nat))]) ?_,(hI _ _).2 ⟨k+1,_,ad,by omega,by omega,by simp(disch:=omega)[go_sem];omega,λq hq=> ?_, ?_,rfl⟩⟩
            . simp(disch:=omega)[go_sem]
            . simp(disch:=omega)[go_sem,hold]
            . rw[hF];simp only[Bool.false_eq_true,if_false,List.append_nil];exact hgr.same (λj j1 j2=>by simp(disch:=omega)[go_sem,Nat.ne_of_lt j2]) (by simp(disch:=omega)[go_sem];omega)
       . have bc:¬(k:Int)<12:=by omega
         simp(disch:=omega)[go_sem,n1,aL,bc];refine⟨_,aA.bN (l:=[(2,aO (N+1)),(5,aO M),(15,cV c),(16,ad)]) ?_,H',hn,hold,ad,by rw[<-done (by omega)];exact hgr,rfl⟩;simp(disch:=omega)[go_sem]
     . have aL:¬(k:Int)<r.leaves.length:=by omega
       simp(disch:=omega)[go_sem,n1,aL];refine⟨_,aA.bN (l:=[(2,aO (N+1)),(5,aO M),(15,cV c),(16,ad)]) ?_,H',hn,hold,ad,by rw[<-done (by omega)];exact hgr,rfl⟩;simp(disch:=omega)[go_sem]
 . rintro d ⟨H',ad,hn,hold,hgr,rfl⟩;obtain⟨p3,p4⟩:=hgr.cells;refine ve ?_;have n3:H'.get M=some (.row (gE g pv) true 0):=by rw[hold M (by omega)];exact ms.g
   have n2:H'.get (N+1)=some (.row eE true 0):=by rw[hold (N+1) (by omega)];exact ms.o
   simp(disch:=omega)[go_sem,n3,n2,gE,eE,p1,p2];rw[<-bo];refine Fz.ki (.cons ?_ (.cons (.refl _) (.cons ?_ .nil)))
   . exact Fz.dV (b0 (H'.set (N+1) (some (.row (gE g pv) true 0))) (λj j1 j2=>by rw[ab.bw,if_neg (by omega)];exact hold j j2) (b1 _))
   . exact hgr.KJ (by decide) (by simp) (λx hx=>by obtain⟨y,_,rfl⟩:=List.mem_map.1 hx;rfl) (KG _) λR cs h1 h2 h3=>cN (wr:=true) (by rw[ab.bw,if_neg (by omega)];exact h3)
end Go.Sp
end

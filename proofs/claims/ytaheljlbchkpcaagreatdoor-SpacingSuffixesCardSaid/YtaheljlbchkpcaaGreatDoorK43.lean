/- SpacingSuffixes: parts of its proof (Li2 Hd1 Hd2 Hd3 Sd1 Sd2 Sd3). -/
import Derived.OpenShut
import Derived.Deep.Slices
import Derived.Lib.SmallJoins
import Derived.Test.YtaheljlbchkpcaaGreatDoorK24
import Derived.Test.YtaheljlbchkpcaaGreatDoorK27
import Derived.Test.YtaheljlbchkpcaaGreatDoorK42
set_option linter.unusedVariables false
set_option linter.unusedSimpArgs false
noncomputable section
open Go Go.aw Go.Proofs Go.ChangeShapes Go.WideShapes Go.ChangeAt Go.RowKit Go.Joins
namespace Go.Sp
set_option maxRecDepth 100000
theorem lj:Tryz.prog.cellsOf 5=1:=by kernel_rfl
theorem D7:Tryz.prog.cellsOf 22=1:=by kernel_rfl
theorem aeT:Tryz.prog.cellsOf 23=1:=by kernel_rfl
theorem aeU:Tryz.prog.cellsOf 24=1:=by kernel_rfl
theorem aeV:Tryz.prog.cellsOf 26=5:=by kernel_rfl
theorem aeW:Tryz.prog.cellsOf 28=8:=by kernel_rfl
theorem aeX:Tryz.prog.cellsOf 84=4:=by kernel_rfl
theorem aeY:Tryz.prog.cellsOf 87=5:=by kernel_rfl
theorem Kr{α:Type}{k:Nat}:∀{xs:List (List α)} (j i:Nat) (x:List α),(∀x∈xs,x.length=k)->xs[j]? =some x->i<k->xs.flatten[j*k+i]? =x[i]?
 |[],j,i,x,_,h,_=>by simp at h
 |y::xs,0,i,x,hl,h,hi=>by
  simp only[List.getElem?_cons_zero,Option.some.injEq]at h;subst h;have hy:y.length=k:=hl y (by simp);rw[List.flatten_cons,List.getElem?_append_left (by omega)];simp
 |y::xs,j+1,i,x,hl,h,hi=>by
  have hy:y.length=k:=hl y (by simp);rw[List.flatten_cons,List.getElem?_append_right (by rw[hy,Nat.add_mul];omega),hy];have:=Kr j i x (λz hz=>hl z (List.mem_cons_of_mem _ hz)) (by simpa using h) hi;rw[<-this];congr 1;rw[Nat.add_mul];omega
theorem aeZ{z:Int}(h:(Lit.int .u8 z).wf=true):0<=z/\z<256:=by
 simp only[Lit.wf,Bool.and_eq_true,decide_eq_true_eq]at h;have h1:IntKind.u8.min=0:=rfl;have h2:IntKind.u8.max=255:=rfl;omega
section
variable {H:Type} {enc:TypeId×Value->H}
theorem lQ{W:World}{n:Nat}{cs:List Value}{y:DataW H×List MemPlace}(h:DataW.trod enc Tryz.prog W 0 (λ_=>true) true n 5 cs=some y):∃z,cs=[.int .u8 z]/\0<=z/\z<256:=by
 obtain⟨z,e,_,hw⟩:=DataW.trod_int Tryz.underlying5 h;exact⟨z,e,aeZ hw⟩
theorem D8{W:World}{t el:TypeId}{k:Nat}{α:Type}[Inhabited α](Q:α->Prop)(f:α->List DV)(hu:Tryz.prog.underlying t=some (.slice el))(hk:Tryz.prog.cellsOf el=k)(ae:0<k)(hf:∀x,(f x).length=k)
 (au:∀n cs y,cs.length=k->DataW.trod enc Tryz.prog W 0 (λ_=>true) true n el cs=some y->∃x,Q x/\gM W cs (f x)) {n:Nat} {cs:List Value} {y:DataW H×List MemPlace} (h:DataW.trod enc Tryz.prog W 0 (λ_=>true) true n t cs=some y):∃(v:Value) (xs:List α),cs=[v]/\(∀x∈xs,Q x)/\Rd W v (.sl k (xs.map f)):=by
 rcases Deep.open_slice hu h with⟨rfl,_⟩|⟨a,len,cap,m,n',D,Pl,rfl,_,hl,_,hm,_,ai⟩
 . exact⟨_,[],rfl,λx hx=>absurd hx List.not_mem_nil,Rd.Z5 W ae 0⟩
 . obtain rfl:m=cap:=by simpa using hm
   rw[hk]at ai;have each:∀i,i<m->∃q:List Value×α,q.1.length=k/\(∀j,j<k->W.cell? ((a.add (i*k)).add j)=q.1[j]?)/\Q q.2/\gM W q.1 (f q.2):=λi hi=>by
    obtain⟨cs',hc,ht⟩:=ai i hi;obtain⟨_,h5,af⟩:=World.cells?_some hc;obtain⟨x,h6,h7⟩:=au n' cs' _ h5 ht;exact⟨(cs',x),h5,af,h6,h7⟩
   obtain⟨g,hg⟩:=Deep.choose_lt each;refine⟨_,((List.range m).map λi=>(g i).2).take len,rfl,λx hx=> ?_, ?_⟩
   . obtain⟨i,hi,rfl⟩:=List.mem_map.1 (List.mem_of_mem_take hx);exact(hg i (List.mem_range.1 hi)).2.2.1
   . rw[List.map_take];have hL:∀l:List Nat,(∀i∈l,i<m)->gM W (l.map λi=>(g i).1).flatten ((l.map λi=>(g i).2).map f).flatten:=λl=>by
      induction l with
      |nil=>exactλ_=>gM.nil W
      |cons i l ih=>
       intro hm;simp only[List.map_cons,List.flatten_cons];exact(hg i (hm i (List.mem_cons_self ..))).2.2.2.append (ih λj hj=>hm j (List.mem_cons_of_mem _ hj))
     refine Rd.sl ae hl (cells:=((List.range m).map λi=>(g i).1).flatten) ?_ (λj hj=> ?_) (by simp) (λx hx=> ?_) (hL _ λi hi=>List.mem_range.1 hi)
     . have:∀l:List Nat,(∀i∈l,i<m)->((l.map λi=>(g i).1).flatten).length=l.length*k:=λl=>by
        induction l with
        |nil=>intro _;simp
        |cons i l ih=>
         intro hm;simp only[List.map_cons,List.flatten_cons,List.length_append,List.length_cons];rw[ih λj hj=>hm j (List.mem_cons_of_mem _ hj),(hg i (hm i (List.mem_cons_self ..))).1,Nat.succ_mul];omega
       rw[this _ λi hi=>List.mem_range.1 hi,List.length_range]
     . obtain⟨i,r,hr,ao⟩:∃i r,j=i*k+r/\r<k:=⟨j/k,j%k,by rw[Nat.mul_comm];exact(Nat.div_add_mod j k).symm,Nat.mod_lt _ ae⟩;subst hr;have hi:i<m:=by
        rcases Nat.lt_or_ge i m with h|h
        . exact h
        . have:=Nat.mul_le_mul_right k h;omega
       obtain⟨q1,q2,_,_⟩:=hg i hi;rw[Kr i r (g i).1 (λx hx=>by obtain⟨z,hz,rfl⟩:=List.mem_map.1 hx;exact(hg z (List.mem_range.1 hz)).1) (by simp[hi]) ao,<-q2 r ao,Addr.add_add]
     . obtain⟨z,_,rfl⟩:=List.mem_map.1 hx;exact hf z
theorem D9{W:World}{n:Nat}{cs:List Value}{y:DataW H×List MemPlace}(h:DataW.trod enc Tryz.prog W 0 (λ_=>true) true n 22 cs=some y):∃(v:Value) (bs:List Int),cs=[v]/\(∀b∈bs,0<=b/\b<256)/\Rd W v (.sl 1 (bs.map λb=>[uV b])):=
 D8 (λb=>0<=b/\b<256) (λb=>[uV b]) Tryz.underlying22 lj Nat.one_pos (λ_=>rfl) (λn cs y _ h=>by
  obtain⟨z,rfl,hz⟩:=lQ h;exact⟨z,hz,.cons (Rd.int W _ _) (.nil W)⟩) h
instance:Inhabited Ln:=⟨⟨0,[],0,0⟩⟩
instance:Inhabited Rl:=⟨⟨0,0,0,0,0⟩⟩
theorem jB{W:World}{n:Nat}{fs:Array Field}{cs:List Value}{xs:List (DataW H×List MemPlace)}(hl:xs.length=fs.size)(hf:∀(i:Nat) (f:Field),fs[i]? =some f->DataW.trod enc Tryz.prog W 0 (λ_=>true) true n f.type ((cs.drop f.offset).take (Tryz.prog.cellsOf f.type))=xs[i]?)(i:Nat)(f:Field)(hi:fs[i]? =some f)(t o:Nat){k:Nat}(ht:f.type=t)(ho:f.offset=o)(hk:Tryz.prog.cellsOf t=k):∃y,DataW.trod enc Tryz.prog W 0 (λ_=>true) true n t ((cs.drop o).take k)=some y:=by
 subst ht;subst ho;subst hk;have h:=hf i f hi;have aB:=(Array.getElem?_eq_some_iff.1 hi).1;rw[List.getElem?_eq_getElem (by omega)]at h;exact⟨_,h⟩
theorem ae0{W:World}{n:Nat}{cs:List Value}{y:DataW H×List MemPlace}(hl:cs.length=4)(h:DataW.trod enc Tryz.prog W 0 (λ_=>true) true n 84 cs=some y):∃x:Ln,x.Ok/\gM W cs x.e:=by
 obtain⟨xs,n',_,_,_,aa,hf⟩:=DataW.trod_struct Tryz.underlying84 h;obtain⟨c0,c1,c2,c3,rfl⟩:∃c0 c1 c2 c3,cs=[c0,c1,c2,c3]:=by
  match cs,hl with
  |[c0,c1,c2,c3],_=>exact⟨_,_,_,_,rfl⟩
 obtain⟨y0,h0⟩:=jB aa hf 0 _ rfl 5 0 rfl rfl lj;obtain⟨y1,h1⟩:=jB aa hf 1 _ rfl 22 1 rfl rfl D7;obtain⟨y2,h2⟩:=jB aa hf 2 _ rfl 5 2 rfl rfl lj;obtain⟨y3,h3⟩:=jB aa hf 3 _ rfl 5 3 rfl rfl lj;obtain⟨z0,e0,q0⟩:=lQ h0;obtain⟨v1,bs,e1,q1,r1⟩:=D9 h1;obtain⟨z2,e2,q2⟩:=lQ h2;obtain⟨z3,e3,q3⟩:=lQ h3;obtain rfl:=List.singleton_inj.1 (show [c0]=_ from e0);obtain rfl:=List.singleton_inj.1 (show [c1]=_ from e1);obtain rfl:=List.singleton_inj.1 (show [c2]=_ from e2);obtain rfl:=List.singleton_inj.1 (show [c3]=_ from e3);exact⟨⟨z0,bs,z2,z3⟩,⟨q0,q1,q2,q3⟩,.cons (Rd.int W _ _) (.cons r1 (.cons (Rd.int W _ _) (.cons (Rd.int W _ _) (.nil W))))⟩
theorem ae1{W:World}{n:Nat}{cs:List Value}{y:DataW H×List MemPlace}(hl:cs.length=5)(h:DataW.trod enc Tryz.prog W 0 (λ_=>true) true n 87 cs=some y):∃x:Rl,x.Ok/\gM W cs x.e:=by
 obtain⟨xs,n',_,_,_,aa,hf⟩:=DataW.trod_struct Tryz.underlying87 h;obtain⟨c0,c1,c2,c3,c4,rfl⟩:∃c0 c1 c2 c3 c4,cs=[c0,c1,c2,c3,c4]:=by
  match cs,hl with
  |[c0,c1,c2,c3,c4],_=>exact⟨_,_,_,_,_,rfl⟩
 obtain⟨y0,h0⟩:=jB aa hf 0 _ rfl 5 0 rfl rfl lj;obtain⟨y1,h1⟩:=jB aa hf 1 _ rfl 5 1 rfl rfl lj;obtain⟨y2,h2⟩:=jB aa hf 2 _ rfl 5 2 rfl rfl lj;obtain⟨y3,h3⟩:=jB aa hf 3 _ rfl 5 3 rfl rfl lj;obtain⟨y4,h4⟩:=jB aa hf 4 _ rfl 5 4 rfl rfl lj;obtain⟨z0,e0,q0⟩:=lQ h0;obtain⟨z1,e1,q1⟩:=lQ h1;obtain⟨z2,e2,q2⟩:=lQ h2;obtain⟨z3,e3,q3⟩:=lQ h3;obtain⟨z4,e4,q4⟩:=lQ h4;obtain rfl:=List.singleton_inj.1 (show [c0]=_ from e0);obtain rfl:=List.singleton_inj.1 (show [c1]=_ from e1);obtain rfl:=List.singleton_inj.1 (show [c2]=_ from e2);obtain rfl:=List.singleton_inj.1 (show [c3]=_ from e3);obtain rfl:=List.singleton_inj.1 (show [c4]=_ from e4);exact⟨⟨z0,z1,z2,z3,z4⟩,⟨q0,q1,q2,q3,q4⟩,.cons (Rd.int W _ _) (.cons (Rd.int W _ _) (.cons (Rd.int W _ _) (.cons (Rd.int W _ _) (.cons (Rd.int W _ _) (.nil W)))))⟩
theorem ae2{W:World}{n:Nat}{cs:List Value}{y:DataW H×List MemPlace}(hl:cs.length=8)(h:DataW.trod enc Tryz.prog W 0 (λ_=>true) true n 28 cs=some y):∃x:fp,x.Ok/\gM W cs x.e:=by
 obtain⟨xs,n',_,_,_,aa,hf⟩:=DataW.trod_struct Tryz.underlying28 h;obtain⟨c0,c1,c2,c3,c4,c5,c6,c7,rfl⟩:∃c0 c1 c2 c3 c4 c5 c6 c7,cs=[c0,c1,c2,c3,c4,c5,c6,c7]:=by
  match cs,hl with
  |[c0,c1,c2,c3,c4,c5,c6,c7],_=>exact⟨_,_,_,_,_,_,_,_,rfl⟩
 obtain⟨y0,h0⟩:=jB aa hf 0 _ rfl 26 0 rfl rfl aeV;obtain⟨y1,h1⟩:=jB aa hf 1 _ rfl 5 5 rfl rfl lj;obtain⟨y2,h2⟩:=jB aa hf 2 _ rfl 5 6 rfl rfl lj;obtain⟨y3,h3⟩:=jB aa hf 3 _ rfl 22 7 rfl rfl D7;obtain⟨zs,n2,_,_,_,ab,ad⟩:=DataW.trod_struct Tryz.underlying26 h0;obtain⟨w0,g0⟩:=jB ab ad 0 _ rfl 5 0 rfl rfl lj;obtain⟨w1,g1⟩:=jB ab ad 1 _ rfl 5 1 rfl rfl lj;obtain⟨w2,g2⟩:=jB ab ad 2 _ rfl 22 2 rfl rfl D7;obtain⟨w3,g3⟩:=jB ab ad 3 _ rfl 23 3 rfl rfl aeT;obtain⟨w4,g4⟩:=jB ab ad 4 _ rfl 24 4 rfl rfl aeU;obtain⟨z0,e0,q0⟩:=lQ g0;obtain⟨z1,e1,q1⟩:=lQ g1;obtain⟨v2,c9,e2,q2,r2⟩:=D9 g2;obtain⟨v3,av,e3,q3,r3⟩:=D8 Ln.Ok Ln.e Tryz.underlying23 aeX (by decide) (λ_=>rfl) (λn cs y hl h=>ae0 hl h) g3;obtain⟨v4,ay,e4,q4,r4⟩:=D8 Rl.Ok Rl.e Tryz.underlying24 aeY (by decide) (λ_=>rfl) (λn cs y hl h=>ae1 hl h) g4;obtain⟨z5,e5,q5⟩:=lQ h1;obtain⟨z6,e6,q6⟩:=lQ h2;obtain⟨v7,az,e7,q7,r7⟩:=D9 h3;obtain rfl:=List.singleton_inj.1 (show [c0]=_ from e0);obtain rfl:=List.singleton_inj.1 (show [c1]=_ from e1);obtain rfl:=List.singleton_inj.1 (show [c2]=_ from e2);obtain rfl:=List.singleton_inj.1 (show [c3]=_ from e3);obtain rfl:=List.singleton_inj.1 (show [c4]=_ from e4);obtain rfl:=List.singleton_inj.1 (show [c5]=_ from e5);obtain rfl:=List.singleton_inj.1 (show [c6]=_ from e6);obtain rfl:=List.singleton_inj.1 (show [c7]=_ from e7);exact⟨⟨⟨z0,z1,c9,av,ay⟩,z5,z6,az⟩,⟨⟨q0,q1,q2,q3,q4⟩,q5,q6,q7⟩,.cons (Rd.int W _ _) (.cons (Rd.int W _ _) (.cons r2 (.cons r3 (.cons r4 (.cons (Rd.int W _ _) (.cons (Rd.int W _ _) (.cons r7 (.nil W))))))))⟩
end
end Go.Sp
end
noncomputable section
open Go Go.aw Go.Proofs
namespace Go.Sp
set_option maxRecDepth 100000
def jC(ns:List (Int×Int×Int))(c:Nat):Nat->Int->Int
 |0,r=>r
 |k+1,r=>if r<=1 then r else match ns[(r-2).toNat]? with
  |some x=>jC ns c k (if c.testBit x.1.toNat then x.2.2 else x.2.1)
  |none=>r
def fR(d:Dg)(c:Nat):Bool:=decide (jC d.nodes c d.root.toNat d.root=1)
def Ea(d:Dg):Prop:=(∀(i:Nat) x,d.nodes[i]? =some x->0<=x.1/\x.1<3/\0<=x.2.1/\x.2.1<i+2/\0<=x.2.2/\x.2.2<i+2)/\0<=d.root/\d.root<d.nodes.length+2
theorem Ks(c:Nat)(hc:c<256):Ea (aF c):=by
 have h:((List.range 256).all λc=>(List.range (aF c).nodes.length).all (λi=>match(aF c).nodes[i]? with|some x=>decide (0<=x.1/\x.1<3/\0<=x.2.1/\x.2.1<i+2/\0<=x.2.2/\x.2.2<i+2)|none=>true)&&decide (0<=(aF c).root/\(aF c).root<(aF c).nodes.length+2))=true:=by kernel_rfl
 have h2:=List.all_eq_true.1 h c (by simpa using hc);rw[Bool.and_eq_true,decide_eq_true_eq]at h2;refine⟨λi x hx=> ?_,h2.2⟩;have h3:=List.all_eq_true.1 h2.1 i (by have:=(List.getElem?_eq_some_iff.1 hx).1;simpa using this);rw[hx]at h3;exact of_decide_eq_true h3
theorem Ag{ns:List (Int×Int×Int)}{c:Nat}(ho:∀(i:Nat) x,ns[i]? =some x->0<=x.1/\x.1<3/\0<=x.2.1/\x.2.1<i+2/\0<=x.2.2/\x.2.2<i+2):∀(k:Nat) (r:Int),r.toNat<=k->jC ns c k r=jC ns c r.toNat r
 |0,r,h=>by rw[show r.toNat=0 by omega]
 |k+1,r,h=>by
  by_cases h1:r<=1
  . rw[jC,if_pos h1];cases hr:r.toNat with
    |zero=>rfl
    |succ n=>rw[jC,if_pos h1]
  . obtain⟨n,hn⟩:∃n,r.toNat=n+1:=⟨r.toNat-1,by omega⟩;rw[hn,jC,jC,if_neg h1,if_neg h1]
    split
    . rename_i x hx;obtain⟨_,_,h2,h3,h4,h5⟩:=ho _ _ hx;have e:∀q:Int,q<(r-2).toNat+2->0<=q->jC ns c k q=jC ns c n q:=λq q1 q2=>by rw[Ag ho k q (by omega),Ag ho n q (by omega)]
      split
      . exact e _ h5 h4
      . exact e _ h3 h2
    . rfl
theorem Ku(c v:Nat)(hc:c<8)(hv:v<3):IntKind.u64.wrap (((BitVec.ofInt IntKind.u64.bits ((c:Int).fdiv (2^(min v IntKind.u64.bits)))&&&BitVec.ofInt IntKind.u64.bits 1).toNat:Nat):Int)=if c.testBit v then 1 else 0:=by
 have h:((List.range 8).all λc=>(List.range 3).all λv=>decide (IntKind.u64.wrap (((BitVec.ofInt IntKind.u64.bits ((c:Int).fdiv (2^(min v IntKind.u64.bits)))&&&BitVec.ofInt IntKind.u64.bits 1).toNat:Nat):Int)=if c.testBit v then 1 else 0))=true:=by kernel_rfl
 exact of_decide_eq_true (List.all_eq_true.1 (List.all_eq_true.1 h c (by simpa using hc)) v (by simpa using hv))
abbrev cV(c:Nat):DV:=.v (.int .u64 (c:Nat))
set_option maxHeartbeats 4000000 in
theorem ae3(d:Dg)(hd:Ea d)(hl:d.nodes.length<=1000)(c:Nat)(hc:c<8):ax E true 28 [.agg d.e,cV c] (bV (fR d c)):=by
 obtain⟨ns,rt⟩:=d;obtain⟨ho,h0,h1⟩:=hd;simp only at ho h0 h1 hl;obtain⟨G,hG⟩:∃G,jC ns c rt.toNat rt=G:=⟨_,rfl⟩;have ab:fR ⟨ns,rt⟩ c=decide (G=1):=by simp only[fR,hG]
 rw[ab];refine bc VF rfl Tryz.ntmps28 Tryz.results28 λN=> ?_;simp(disch:=omega)[go_sem,Dg.e];obtain⟨I,hI⟩:∃I:Nat->DS->Prop,∀j d,I j d↔∃(r:Int) (P:Nat),j=r.toNat/\0<=r/\r<ns.length+2/\jC ns c r.toNat r=G/\N<P/\d=⟨bQ [(1,cV c),(2,.v (.pointer (some ⟨N,0,none⟩))),(5,iV r)],30,[],cK P [(N,.row [.sl 3 (ns.map de),iV rt] true 0)]⟩:=⟨_,λ_ _=>Iff.rfl⟩;refine cx I rt.toNat ⟨_,aA.mk (N:=N+1) ?_ ?_ ?_,(hI _ _).2 ⟨rt,N+1,rfl,h0,h1,hG,by omega,rfl⟩⟩ ?_
 . simp(disch:=omega)[go_sem]
 . simp(disch:=omega)[go_sem]
 . simp(disch:=omega)[go_sem]
 . intro j ds ae;obtain⟨r,P,hj,av,ay,aa,hP,rfl⟩:=(hI _ _).1 ae;clear ae;by_cases hr:1<r
   . obtain⟨k,hk⟩:∃k,r.toNat=k+1:=⟨r.toNat-1,by omega⟩;obtain⟨x,hx⟩:∃x,ns[(r-2).toNat]? =some x:=⟨_,List.getElem?_eq_getElem (by omega)⟩;obtain⟨q0,q1,q2,q3,q4,q5⟩:=ho _ _ hx;have ao:¬r<=1:=by omega
     rw[hk,jC,if_neg ao,hx]at aa;simp only at aa;rw[Ag ho k _ (by split<;>omega)]at aa;obtain⟨v,hv⟩:∃v:Nat,x.1=v:=⟨x.1.toNat,by omega⟩;have hb:=Ku c v hc (by omega);rw[hv]at aa;simp only[Int.toNat_natCast]at aa;have hw:IntKind.u64.wrap (v:Int)=v:=wrap_u64 (by omega) (by omega);have af:2<=r:=by omega
     by_cases ai:c.testBit v=true
     . simp only[if_pos ai]at hb aa;simp(disch:=omega)[go_sem]at hb;simp(disch:=omega)[go_sem,hr,af,aD,hx,-getElem?_pos,de,hv,hw,hb];refine⟨_, ?_,_,aA.mk (N:=P+1) ?_ ?_ ?_,(hI _ _).2 ⟨x.2.2,P+1,rfl,by omega,by omega,aa,by omega,rfl⟩⟩
       . omega
       . simp(disch:=omega)[go_sem]
       . simp(disch:=omega)[go_sem]
       . simp(disch:=omega)[go_sem]
     . simp only[if_neg ai]at hb aa;simp(disch:=omega)[go_sem]at hb;simp(disch:=omega)[go_sem,hr,af,aD,hx,-getElem?_pos,de,hv,hw,hb];refine⟨_, ?_,_,aA.mk (N:=P+1) ?_ ?_ ?_,(hI _ _).2 ⟨x.2.1,P+1,rfl,by omega,by omega,aa,by omega,rfl⟩⟩
       . omega
       . simp(disch:=omega)[go_sem]
       . simp(disch:=omega)[go_sem]
       . simp(disch:=omega)[go_sem]
   . have ad:r=G:=by
      rw[<-aa];cases h:r.toNat with
      |zero=>rfl
      |succ k=>rw[jC,if_pos (by omega)]
     subst ad;simp(disch:=omega)[go_sem,hr]
set_option maxHeartbeats 4000000 in
theorem ae4(d:Dg)(hd:Ea d)(au:ax E true 66 [.agg d.e] (iV 0))(hl:d.nodes.length<=1000)(c:Nat)(hc:c<8):ax E true 33 [.agg d.e,cV c] (bV (fR d c)):=by
 obtain⟨ns,rt⟩:=d;obtain⟨ho,h0,h1⟩:=hd;simp only at ho h0 h1 hl;obtain⟨G,hG⟩:∃G,jC ns c rt.toNat rt=G:=⟨_,rfl⟩;have ab:fR ⟨ns,rt⟩ c=decide (G=1):=by simp only[fR,hG]
 rw[ab];refine bc VK rfl Tryz.ntmps33 Tryz.results33 λN=> ?_;simp only[Dg.e]at au;simp(disch:=omega)[go_sem,Dg.e];refine aq.mk au λM hM=> ?_;simp(disch:=omega)[go_sem]at hM;simp(disch:=omega)[go_sem];obtain⟨I,hI⟩:∃I:Nat->DS->Prop,∀j d,I j d↔∃(r:Int) (P:Nat),j=r.toNat/\0<=r/\r<ns.length+2/\jC ns c r.toNat r=G/\N<P/\d=⟨bQ [(1,cV c),(2,.v (.pointer (some ⟨N,0,none⟩))),(5,iV r)],32,[],cK P [(N,.row [.sl 3 (ns.map de),iV rt] true 0)]⟩:=⟨_,λ_ _=>Iff.rfl⟩;refine cx I rt.toNat ⟨_,aA.mk (N:=M) ?_ ?_ ?_,(hI _ _).2 ⟨rt,M,rfl,h0,h1,hG,by omega,rfl⟩⟩ ?_
 . simp(disch:=omega)[go_sem]
 . simp(disch:=omega)[go_sem]
 . simp(disch:=omega)[go_sem]
 . intro j ds ae;obtain⟨r,P,hj,av,ay,aa,hP,rfl⟩:=(hI _ _).1 ae;clear ae;by_cases hr:1<r
   . obtain⟨k,hk⟩:∃k,r.toNat=k+1:=⟨r.toNat-1,by omega⟩;obtain⟨x,hx⟩:∃x,ns[(r-2).toNat]? =some x:=⟨_,List.getElem?_eq_getElem (by omega)⟩;obtain⟨q0,q1,q2,q3,q4,q5⟩:=ho _ _ hx;have ao:¬r<=1:=by omega
     rw[hk,jC,if_neg ao,hx]at aa;simp only at aa;rw[Ag ho k _ (by split<;>omega)]at aa;obtain⟨v,hv⟩:∃v:Nat,x.1=v:=⟨x.1.toNat,by omega⟩;have hb:=Ku c v hc (by omega);rw[hv]at aa;simp only[Int.toNat_natCast]at aa;have hw:IntKind.u64.wrap (v:Int)=v:=wrap_u64 (by omega) (by omega);have af:2<=r:=by omega
     by_cases ai:c.testBit v=true
     . simp only[if_pos ai]at hb aa;simp(disch:=omega)[go_sem]at hb;simp(disch:=omega)[go_sem,hr,af,aD,hx,-getElem?_pos,de,hv,hw,hb];refine⟨_, ?_,_,aA.mk (N:=P+1) ?_ ?_ ?_,(hI _ _).2 ⟨x.2.2,P+1,rfl,by omega,by omega,aa,by omega,rfl⟩⟩
       . omega
       . simp(disch:=omega)[go_sem]
       . simp(disch:=omega)[go_sem]
       . simp(disch:=omega)[go_sem]
     . simp only[if_neg ai]at hb aa;simp(disch:=omega)[go_sem]at hb;simp(disch:=omega)[go_sem,hr,af,aD,hx,-getElem?_pos,de,hv,hw,hb];refine⟨_, ?_,_,aA.mk (N:=P+1) ?_ ?_ ?_,(hI _ _).2 ⟨x.2.1,P+1,rfl,by omega,by omega,aa,by omega,rfl⟩⟩
       . omega
       . simp(disch:=omega)[go_sem]
       . simp(disch:=omega)[go_sem]
       . simp(disch:=omega)[go_sem]
   . have ad:r=G:=by
      rw[<-aa];cases h:r.toNat with
      |zero=>rfl
      |succ k=>rw[jC,if_pos (by omega)]
     subst ad;simp(disch:=omega)[go_sem,hr]
theorem Kv(c k:Nat)(hc:c<256)(hk:k<8):ax E true 28 [.agg (aF c).e,cV k] (bV (fR (aF c) k)):=ae3 _ (Ks c hc) (by have:=zw c hc;omega) k hk
theorem xQ(c k:Nat)(hc:c<256)(hk:k<8):ax E true 33 [.agg (aF c).e,cV k] (bV (fR (aF c) k)):=ae4 _ (Ks c hc) (CZ c hc) (by have:=zw c hc;omega) k hk
end Go.Sp
end
noncomputable section
open Go Go.aw Go.Proofs
namespace Go.Sp
set_option maxRecDepth 100000
def ew(H:ab)(B U k:Nat)(xs:List (List DV))(pv:DV):Prop:=
 (xs=[]/\pv=eN)\/∃R,B<=R/\R<U/\pv=.v (.slice (some ⟨R,0,none⟩) xs.length xs.length)/\H.get R=some (.row xs.flatten true k)
theorem ew.nil(H:ab)(B U k:Nat):ew H B U k [] eN:=.inl ⟨rfl,rfl⟩
theorem ew.same{H H':ab}{B U U' k:Nat}{xs:List (List DV)}{pv:DV}(h:ew H B U k xs pv)(hs:∀j,B<=j->j<U->H'.get j=H.get j)(hU:U<=U'):ew H' B U' k xs pv:=by
 rcases h with h|⟨R,h1,h2,h3,h4⟩
 . exact .inl h
 . exact .inr ⟨R,h1,by omega,h3,by rw[hs R h1 h2,h4]⟩
theorem ew.len{H:ab}{B U k:Nat}{xs:List (List DV)}{pv:DV}(h:ew H B U k xs pv)(t:TypeId)(s:Nat)(hs:E.elem t=some s):iz E H t pv=some (iV (xs.length:Nat)):=by
 rcases h with⟨rfl,rfl⟩|⟨R,h1,h2,rfl,h4⟩<;>simp[go_sem,hs]
def oX:DV->Option Nat
 |.v (.slice (some a) _ _)=>some a.block
 |_=>none
theorem ew.ne{H:ab}{B U k:Nat}{xs:List (List DV)}{pv:DV}(h:ew H B U k xs pv){j:Nat}(hj:j<B\/U<=j):oX pv≠some j:=by
 rcases h with⟨_,rfl⟩|⟨R,h1,h2,rfl,_⟩
 . intro h;cases h
 . intro h;simp only[oX,Option.some.injEq]at h;omega
theorem ew.app{H:ab}{B U k b st xt q:Nat}{xs:List (List DV)}{pv:DV}{new:List DV}{K:DV×ab×List Nat->Prop}(h:ew H B U k xs pv)(af:E.ap st=some (k,b)){z:Nat}(ai:E.elem xt=some z)(hB:B<=U)(hU:U<=H.next)(hq:H.get q=some (.row new true 0))(ad:0<k)(ao:new.length=k)(h1:new.all di=true)(hx:∀x∈xs,x.length=k)(hb:(xs.length+1)*(b+1)<=1073741824)
 (hk:∀H' ae T,(∀i∈T,B<=i/\i<U)->ew H' B H'.next k (xs++[new]) ae->H'.next=H.next+1->(∀j,j<H.next->oX pv≠some j->H'.get j=H.get j)->oX ae=some H.next->K (ae,H',T)):aG (kU E H [st,xt].toArray (some [pv,.v (.slice (some ⟨q,0,none⟩) 1 1)])) K:=by
 have aa:gu H k (.v (.slice (some ⟨q,0,none⟩) 1 1))=some (1,new):=by
  simp only[gu,hq];rw[if_pos (by omega)];rw[Nat.one_mul,List.drop_zero,List.take_of_length_le (by omega)]
 rcases h with⟨rfl,rfl⟩|⟨R,r1,r2,rfl,r4⟩
 . refine⟨_, ?_,hk (H.new (.row new true k)) (.v (.slice (some ⟨H.next,0,none⟩) 1 1)) [] (by simp) (.inr ⟨H.next,by omega,by rw[ab.aZ];omega,rfl, ?_⟩) (ab.aZ _ _) (λj j1 j2=> ?_) rfl⟩
   . rw[B8,af,ai];simp only[uN,aa];rw[s9 _ _ _ _ _ (by decide) (by simpa using hb)]
   . rw[ab.dT,if_pos rfl];simp
   . rw[ab.dT,if_neg (by omega)]
 . have au:xs.flatten.length=xs.length*k:=fQ hx;refine⟨_, ?_,hk ((H.set R none).new (.row (xs.flatten++new) true k)) (.v (.slice (some ⟨H.next,0,none⟩) (xs.length+1) (xs.length+1))) [R] (by simp;omega) (.inr ⟨H.next,by omega,by rw[ab.aZ,ab.aS];omega,by simp, ?_⟩) (by rw[ab.aZ,ab.aS]) (λj j1 j2=> ?_) rfl⟩
   . rw[B8,af,ai];simp only[uN,aa];rw[wP _ _ _ _ _ _ _ _ r4 au ad (by decide) h1 hb]
   . rw[ab.dT,ab.aS,if_pos rfl];simp
   . rw[ab.dT,ab.aS,if_neg (by omega),ab.bw,if_neg (λh=>j2 (by rw[h];rfl))]
theorem ew.fz{H:ab}{B U k:Nat}{xs:List (List DV)}{pv:DV}(h:ew H B U k xs pv)(ad:0<k)(hx:∀x∈xs,x.length=k):Fz (allRows H) pv (.sl k xs):=by
 rcases h with⟨rfl,rfl⟩|⟨R,h1,h2,rfl,h4⟩
 . exact .nil ad
 . exact eO (ah:=k) (cN h4) (.inr rfl) ad rfl (Nat.le_refl _) hx
end Go.Sp
end
noncomputable section
open Go Go.aw Go.Proofs
namespace Go.Sp
set_option maxRecDepth 100000
def fS(g:ai)(k:Nat):Bool:=decide (k/2^g.conds.length=0)&&fR g.family k
theorem fdiv_pow(k n:Nat):(k:Int).fdiv (2^n)=((k/2^n:Nat):Int):=by
 rw[Int.fdiv_eq_ediv_of_nonneg _ (by exact Int.le_of_lt (Int.pow_pos (by decide)))];simp
theorem ae5(g:ai)(hn:g.conds.length<=3)(c:Nat)(hc:c<256)(hf:g.family=aF c)(k:Nat)(hk:k<8):ax E true 27 [.agg g.e,cV k] (bV (fS g k)):=by
 have ae:=Kv c k hc hk;rw[<-hf]at ae;have af:=fdiv_pow k g.conds.length;have ao:¬(g.conds.length:Int)=64:=by omega
 have hw:IntKind.u64.wrap (g.conds.length:Int)=g.conds.length:=wrap_u64 (by omega) (by omega);have ad:min g.conds.length 64=g.conds.length:=by omega
 refine bc VE rfl Tryz.ntmps27 Tryz.results27 λN=> ?_;simp only[Dg.e]at ae;by_cases h:k/2^g.conds.length=0
 . have hr:fS g k=fR g.family k:=by simp[fS,h]
   rw[hr];simp(disch:=omega)[go_sem,ai.e,ao,hw,ad,af,h];refine aq.mk ae λM hM=> ?_;simp(disch:=omega)[go_sem]at hM;simp(disch:=omega)[go_sem]
 . have hr:fS g k=false:=by simp[fS,h]
   rw[hr];have h':decide (((k/2^g.conds.length:Nat):Int)=0)=false:=decide_eq_false (by omega);simp only[Int.natCast_ediv,Int.natCast_pow,Int.cast_ofNat_Int]at h';simp(disch:=omega)[go_sem,ai.e,ao,hw,ad,af,h']
theorem ae6(g:ai)(hn:g.conds.length<=3)(c:Nat)(hc:c<256)(hf:g.family=aF c)(k:Nat)(hk:k<8):ax E true 61 [.agg g.e,cV k] (bV (fS g k)):=by
 have ae:=xQ c k hc hk;rw[<-hf]at ae;have af:=fdiv_pow k g.conds.length;have ao:¬(g.conds.length:Int)=64:=by omega
 have hw:IntKind.u64.wrap (g.conds.length:Int)=g.conds.length:=wrap_u64 (by omega) (by omega);have ad:min g.conds.length 64=g.conds.length:=by omega
 refine bc VY rfl Tryz.ntmps61 Tryz.results61 λN=> ?_;simp only[Dg.e]at ae;by_cases h:k/2^g.conds.length=0
 . have hr:fS g k=fR g.family k:=by simp[fS,h]
   rw[hr];simp(disch:=omega)[go_sem,ai.e,ao,hw,ad,af,h];refine aq.mk ae λM hM=> ?_;simp(disch:=omega)[go_sem]at hM;simp(disch:=omega)[go_sem]
 . have hr:fS g k=false:=by simp[fS,h]
   rw[hr];have h':decide (((k/2^g.conds.length:Nat):Int)=0)=false:=decide_eq_false (by omega);simp only[Int.natCast_ediv,Int.natCast_pow,Int.cast_ofNat_Int]at h';simp(disch:=omega)[go_sem,ai.e,ao,hw,ad,af,h']
theorem Kw(g:ai)(hg:GV g)(hn:g.conds.length<=3)(k:Nat)(hk:k<8):ax E true 31 [.agg g.e,cV k] (bV (fS g k)):=by
 obtain⟨c,h1,h2,_⟩:=hg.c9.c9;have hw:=ae6 g hn c h2.1 h1 k hk;have hc:=I9 g hg;refine bc VI rfl Tryz.ntmps31 Tryz.results31 λN=> ?_;simp only[ai.e]at hw hc;simp(disch:=omega)[go_sem,ai.e];refine aq.mk hc λM hM=> ?_;simp(disch:=omega)[go_sem]at hM;simp(disch:=omega)[go_sem];refine aq.mk hw λM2 aO=> ?_;simp(disch:=omega)[go_sem]at aO;simp(disch:=omega)[go_sem]
def iF(g:ai):List Nat:=(List.range 8).filter (fS g)
theorem ae7(g:ai)(hg:xy g)(hn:g.conds.length<=3):iF g≠[]:=by
 obtain⟨c,h1,h2,h3⟩:=hg.c9;have h:((List.range 4).all λn=>(List.range 256).all λc=> !((aF c).nodes.all λx=>decide (x.1<n))||decide ((aF c).root=0)||(List.range 8).any λk=>decide (k/2^n=0)&&fR (aF c) k)=true:=by kernel_rfl
 have h4:=List.all_eq_true.1 (List.all_eq_true.1 h g.conds.length (by simp;omega)) c (by simpa using h2.1);have h5:((aF c).nodes.all λx=>decide (x.1<(g.conds.length:Int)))=true:=List.all_eq_true.2 λx hx=>decide_eq_true (h2.2 x hx);have h6:decide ((aF c).root=0)=false:=decide_eq_false (by rw[<-h1];exact h3);rw[h5,h6]at h4;simp only[Bool.not_true,Bool.false_or]at h4;obtain⟨k,k1,k2⟩:=List.any_eq_true.1 h4;have:k∈iF g:=List.mem_filter.2 ⟨k1,by rw[fS,h1];exact k2⟩;exactλhe=>by rw[he]at this;cases this
set_option maxHeartbeats 4000000 in
theorem ae8(g:ai)(hg:xy g)(hn:g.conds.length<=3)(x:Int)(hx:0<=x/\x<256):∃k,k∈iF g/\ax E true 14 [.agg g.e,uV x] (cV k):=by
 obtain⟨c,h1,h2,_⟩:=hg.c9;have aQ:=ae7 g hg hn;have hlen:0<(iF g).length:=List.length_pos_iff.2 aQ;obtain⟨k,hk⟩:∃k,(iF g)[(x%(iF g).length).toNat]? =some k:=⟨_,List.getElem?_eq_getElem (by
  have:=Int.emod_lt_of_pos x (b:=((iF g).length:Int)) (by omega);have:=Int.emod_nonneg x (b:=((iF g).length:Int)) (by omega);omega)⟩
 refine⟨k,List.mem_of_getElem? hk, ?_⟩;have aY:(iF g).length<=8:=by have:=List.length_filter_le (fS g) (List.range 8);simpa[iF]using this
 refine bc Vw rfl Tryz.ntmps14 Tryz.results14 λN=> ?_;obtain⟨ge,az⟩:∃ge,g.e=ge:=⟨_,rfl⟩;have aC:ge.all di=true:=by rw[<-az];rfl
 have aR:ge.length=9:=by rw[<-az];rfl
 rw[az];have au:(∀d∈ge,di d=true)=True:=eq_true (by simpa using aC);have aS:ge.take 9=ge:=List.take_of_length_le (by omega);simp(disch:=omega)[go_sem,au]
 let F:Nat->List (List DV):=λk=>((List.range k).filter (fS g)).map λk=>[cV k]
 obtain⟨I,hI⟩:∃I:Nat->DS->Prop,∀j d,I j d↔∃(k:Nat) (H:ab) (pv:DV),j+k=8/\N<H.next/\ew H (N+1) H.next 1 (F k) pv/\H.get N=some (.row ge true 0)/\d=⟨bQ [(1,uV x),(2,.v (.pointer (some ⟨N,0,none⟩))),(5,pv),(6,.v (.int .u64 (k:Nat)))],26,[],H⟩:=⟨_,λ_ _=>Iff.rfl⟩;refine cx I 8 ⟨_,aA.bN (l:=[(1,uV x),(2,.v (.pointer (some ⟨N,0,none⟩))),(5,eN),(6,.v (.int .u64 (0:Nat)))]) ?_,(hI _ _).2 ⟨0,_,eN,rfl, ?_,.nil _ _ _ _, ?_,rfl⟩⟩ ?_
 . simp(disch:=omega)[go_sem]
 . simp(disch:=omega)[go_sem]
 . simp(disch:=omega)[go_sem]
 . intro j ds aI;obtain⟨k',H,pv,hj,hN,hgr,f1,rfl⟩:=(hI _ _).1 aI;clear aI;have aJ:∀y∈F k',y.length=1:=λy hy=>by obtain⟨z,_,rfl⟩:=List.mem_map.1 hy;rfl
   by_cases aT:k'<8
   . have av:(k':Int)<8:=by omega
     have hh:=ae5 g hn c h2.1 h1 k' aT;rw[az]at hh;have aB:F (k'+1)=F k'++if fS g k' then [[cV k']]else []:=by
      simp only[F,List.range_succ,List.filter_append,List.map_append];cases hb:fS g k'<;>simp[hb]
     simp(disch:=omega)[go_sem,av,f1,aR,aS];refine aq.mk hh λM hM=> ?_;cases hb:fS g k' with
     |true=>
      rw[hb]at aB;simp(disch:=omega)[go_sem];refine ew.app (st:=92) (xt:=92) (B:=N+1) (U:=H.next) (k:=1) (xs:=F k') (hgr.same (λq q1 q2=>by rw[ab.dT,if_neg (by rw[ab.kj];omega)];rfl) (Nat.le_refl _)) Gz Cf (by omega) (by simp(disch:=omega)[go_sem];omega) (new:=[cV k']) (by simp(disch:=omega)[go_sem]) (by decide) rfl rfl aJ (by have:(F k').length<=k':=by{have:=List.length_filter_le (fS g) (List.range k');simpa[F]using this};omega) λH' aL T _ q1 q2 q3 _=> ?_;simp(disch:=omega)[go_sem]at q2 q3;simp(disch:=omega)[go_sem,wrap_u64];refine⟨j-1,by omega,_,aA.bN (l:=[(1,uV x),(2,.v (.pointer (some ⟨N,0,none⟩))),(5,aL),(6,.v (.int .u64 (k'+1:Nat)))]) ?_,(hI _ _).2 ⟨k'+1,_,aL,by omega,by omega,by rw[aB];exact q1, ?_,rfl⟩⟩
      . simp(disch:=omega)[go_sem]
      . rw[q3 N (by omega) (hgr.ne (.inl (by omega)))];simp(disch:=omega)[go_sem,f1]
     |false=>
      rw[hb]at aB;simp(disch:=omega)[go_sem,wrap_u64];refine⟨j-1,by omega,_,aA.bN (l:=[(1,uV x),(2,.v (.pointer (some ⟨N,0,none⟩))),(5,pv),(6,.v (.int .u64 (k'+1:Nat)))]) ?_,(hI _ _).2 ⟨k'+1,_,pv,by omega,by rw[ab.kj];omega,by rw[aB];simp;exact hgr.same (λj _ _=>rfl) (by rw[ab.kj];exact hM),by simp(disch:=omega)[go_sem,f1],rfl⟩⟩;simp(disch:=omega)[go_sem]
   . have av:¬(k':Int)<8:=by omega
     obtain rfl:k'=8:=by omega
     simp(disch:=omega)[go_sem];have aN:F 8=(iF g).map λk=>[cV k]:=rfl;have aa:(F 8).length=(iF g).length:=by rw[aN,List.length_map]
     have aU:=hgr.len 92 1 Cf;rw[aa]at aU;have aZ:0<=x%((iF g).length:Int):=Int.emod_nonneg _ (by omega);have bb:x%((iF g).length:Int)<(iF g).length:=Int.emod_lt_of_pos _ (by omega);have aE:¬((iF g).length:Int)=0:=by omega
     rcases hgr with⟨h0,_⟩|⟨R,r1,r2,rfl,r4⟩
     . rw[h0]at aa;simp at aa;omega
     have ay:(F 8).flatten[(x%((iF g).length:Int)).toNat]? =some (cV k):=by
      have hq:(F 8)[(x%((iF g).length:Int)).toNat]? =some [cV k]:=by rw[aN,List.getElem?_map,hk];rfl
      have:=th (k:=1) _ 0 _ (cV k) aJ hq rfl;simpa using this
     rw[aa]at*;generalize (F 8).flatten=cells at*;generalize (iF g).length=L at*;simp(disch:=omega)[go_sem,aD,dr,aE,r4,ay,-getElem?_pos]
end Go.Sp
end
noncomputable section
open Go Go.aw Go.Proofs
namespace Go.Sp
set_option maxRecDepth 100000
theorem Eb(p:List aY)(i:Nat)(s:ByteArray)(l l1 l2:List Int)(x:aY)(hx:p[i]? =some x)(hk:x.kind=2)
 (h1:ax E true 56 [.sl 5 (p.map aY.e),iV x.a,sV s,ints l] (ints l1)) (h2:ax E true 56 [.sl 5 (p.map aY.e),iV x.b,sV s,ints l1] (ints l2)):
 ax E true 56 [.sl 5 (p.map aY.e),iV (i:Nat),sV s,ints l] (ints l2):=by
 have hi:=(List.getElem?_eq_some_iff.1 hx).1;obtain⟨R,hR⟩:∃R,R=ints l2:=⟨_,rfl⟩;rw[<-hR]at h2⊢;refine bc VT rfl Tryz.ntmps56 Tryz.results56 λN=> ?_;simp(disch:=omega)[go_sem,hx,-getElem?_pos,aY.e,hk];refine ck [ae 0,lH 0,dF 2,ae 0,ae 0,ae 0,aJ 32,ae 0,ae 0,aN 496,aN 1023,ae 2047] (by kernel_rfl) 0 rfl ?_;simp(disch:=omega)[go_sem,hx,-getElem?_pos,aY.e,hk];refine aq.mk h1 λM hM=> ?_;simp(disch:=omega)[go_sem]at hM;simp(disch:=omega)[go_sem];refine aq.mk h2 λM2 aa=> ?_;simp(disch:=omega)[go_sem]at aa;simp(disch:=omega)[go_sem,hR]
theorem Kx(p:List aY)(s:ByteArray)(l:List Int)(b:Bool)(hp:0<p.length)(ai:p.length<=1000)(h1:ax E true 54 [.sl 5 (p.map aY.e)] (iV 0))(h2:ax E true 56 [.sl 5 (p.map aY.e),iV ((p.length-1:Nat):Int),sV s,ints [0]] (ints l))(h3:ax E true 55 [ints l,iV (s.size:Nat)] (bV b)):
 ax E true 29 [.sl 5 (p.map aY.e),sV s] (bV b):=by
 obtain⟨L,hL⟩:∃L,L=ints l:=⟨_,rfl⟩;rw[<-hL]at h2 h3;refine bc VG rfl Tryz.ntmps29 Tryz.results29 λN=> ?_;simp(disch:=omega)[go_sem];refine aq.mk h1 λM hM=> ?_;simp(disch:=omega)[go_sem]at hM;simp(disch:=omega)[go_sem,aD];rw[show((p.length:Int)-1)=((p.length-1:Nat):Int) by omega];refine aq.fz h2 [M] ?_ ?_ λM2 aa=> ?_
 . simp(disch:=omega)[go_sem]
 . simp(disch:=omega)[go_sem];exact eO (hY (wr:=true) (ah:=0) (by simp) (by simp(disch:=omega)[go_sem];try rfl)) (.inl rfl) (by decide) (by simp) (by simp) (by simp)
 simp(disch:=omega)[go_sem]at aa;simp(disch:=omega)[go_sem,lO];refine aq.mk h3 λM3 ab=> ?_;simp(disch:=omega)[go_sem]at ab;simp(disch:=omega)[go_sem]
def Ah:List (List aY×Int×ByteArray×List Int×List Int):=[(ic,0,⟨#[120]⟩,[0],[1]),(ic,2,⟨#[120]⟩,[1],[1]),(ic,0,⟨#[105,102]⟩,[0],[1]),(ic,2,⟨#[105,102]⟩,[1],[1,2]),
 (ic,0,⟨#[101,108,115,101]⟩,[0],[1]),(ic,2,⟨#[101,108,115,101]⟩,[1],[1,2,3,4]),(ic,0,⟨#[97,98]⟩,[0],[1]),(ic,2,⟨#[97,98]⟩,[1],[1,2]),
 (nQ,0,⟨#[120,43]⟩,[0],[1]),(nQ,2,⟨#[120,43]⟩,[1],[1]),(nQ,4,⟨#[120,43]⟩,[1],[2])]
theorem ae9:∀q∈Ah,ax E true 56 [.sl 5 (q.1.map aY.e),iV q.2.1,sV q.2.2.1,ints q.2.2.2.1] (ints q.2.2.2.2):=bO (by kernel_rfl)
theorem Ky:∀m∈gQ,ax E true 54 [.sl 5 (m.p.map aY.e)] (iV 0):=bO (by kernel_rfl)
def Ec:List (List Int×Int):=[([1],1),([1,2],2),([1,2,3,4],4),([2],2)]
theorem afa:∀q∈Ec,ax E true 55 [ints q.1,iV q.2] (bV true):=bO (by kernel_rfl)
def nU:List (dP×ByteArray):=[(ir,⟨#[120]⟩),(ir,⟨#[105,102]⟩),(ir,⟨#[101,108,115,101]⟩),(ir,⟨#[97,98]⟩),(oW,⟨#[120,43]⟩)]
theorem xR(i:Nat){q:List aY×Int×ByteArray×List Int×List Int}(h:Ah[i]? =some q):ax E true 56 [.sl 5 (q.1.map aY.e),iV q.2.1,sV q.2.2.1,ints q.2.2.2.1] (ints q.2.2.2.2):=ae9 q (List.mem_of_getElem? h)
theorem Kz(i:Nat){q:List Int×Int}(h:Ec[i]? =some q):ax E true 55 [ints q.1,iV q.2] (bV true):=afa q (List.mem_of_getElem? h)
theorem afb:∀q∈nU,ax E true 29 [.sl 5 (q.1.p.map aY.e),sV q.2] (bV true):=by
 have ad:=Ky ir (gz 0 ir rfl);have af:=Ky oW (gz 3 oW rfl);have one:∀(s:ByteArray) (i j k:Nat) (l:List Int),Ah[i]? =some (ic,0,s,[0],[1])->Ah[j]? =some (ic,2,s,[1],l)->Ec[k]? =some (l,((s.size:Nat):Int))->ax E true 29 [.sl 5 (ic.map aY.e),sV s] (bV true):=λs i j k l h1 h2 h3=>
  Kx ic s l true (by decide) (by decide) ad (Eb ic 3 s [0] [1] l _ rfl rfl (xR i h1) (xR j h2)) (Kz k h3)
 intro q hq;simp only[nU,List.mem_cons,List.not_mem_nil,or_false]at hq;rcases hq with rfl|rfl|rfl|rfl|rfl
 . exact one _ 0 1 0 _ rfl rfl rfl
 . exact one _ 2 3 1 _ rfl rfl rfl
 . exact one _ 4 5 2 _ rfl rfl rfl
 . exact one _ 6 7 1 _ rfl rfl rfl
 . exact Kx nQ ⟨#[120,43]⟩ [2] true (by decide) (by decide) af (Eb nQ 5 ⟨#[120,43]⟩ [0] [1] [2] _ rfl rfl (Eb nQ 3 ⟨#[120,43]⟩ [0] [1] [1] _ rfl rfl (xR 8 rfl) (xR 9 rfl)) (xR 10 rfl)) (Kz 3 rfl)
theorem Ed:∀q∈nU,ax E true 32 [.sl 5 (q.1.p.map aY.e),sV q.2] (bV true):=by
 have h:(nU.all λq=>tM q.1 q.2&&Nat.ble q.2.size 4)=true:=by kernel_rfl
 have hm:∀q∈nU,q.1∈gQ:=λq hq=>by
  simp only[nU,List.mem_cons,List.not_mem_nil,or_false]at hq;rcases hq with rfl|rfl|rfl|rfl|rfl
  . exact gz 0 ir rfl
  . exact gz 0 ir rfl
  . exact gz 0 ir rfl
  . exact gz 0 ir rfl
  . exact gz 3 oW rfl
 intro q hq;have h2:=List.all_eq_true.1 h q hq;rw[Bool.and_eq_true]at h2;have:=Af q.1 (hm q hq) q.2 (by have:=Nat.le_of_ble_eq_true h2.2;omega);rw[h2.1]at this;exact this
end Go.Sp
end
noncomputable section
open Go Go.aw Go.Proofs
namespace Go.Sp
set_option maxRecDepth 100000
def KB(t:Tok)(s:ByteArray):Prop:=t.cls=0->t.lit=⟨#[]⟩->∃q∈nU,t.pat=q.1.p/\s=q.2
def lR(t:Tok)(c:Nat)(s:ByteArray):Bool:=decide (t.cls=0)&&fR t.cond c&&(decide (t.lit=⟨#[]⟩)||decide (s=t.lit))
set_option maxHeartbeats 4000000 in
theorem afc(g:ai)(k:Nat)(t:Tok)(ht:g.ar[k]? =some t)(hl:g.ar.length<=1000)(ct:Nat)(ae:t.cond=aF ct)(aa:ct<256)(c:Nat)(hc:c<8)(s:ByteArray)(hs:KB t s)(rm:DV)(ad:di rm=true):
 ax E true 15 [.agg g.e,cV c,.agg [iV (-1),iV (k:Nat),sV s,rm]] (bV (lR t c s)):=by
 have hk:=(List.getElem?_eq_some_iff.1 ht).1;have af:¬(k:Int)<0:=by omega
 have ao:¬(g.ar.length:Int)<=k:=by omega
 have ab:=Kv ct c aa hc;rw[<-ae]at ab;obtain⟨R,hR⟩:∃R,lR t c s=R:=⟨_,rfl⟩;rw[hR];refine bc Vx rfl Tryz.ntmps15 Tryz.results15 λN=> ?_;simp only[Dg.e]at ab;have au:cE rm=[rm]:=by cases rm<;>first|rfl|(simp[di]at ad)
 simp(disch:=omega)[go_sem,ai.e,ad,ao,af,ht,-getElem?_pos,Tok.e];by_cases h1:t.cls=0
 . simp(disch:=omega)[go_sem,h1];refine aq.mk ab λM hM=> ?_;simp(disch:=omega)[go_sem]at hM;cases h2:fR t.cond c with
   |false=>
    simp(disch:=omega)[go_sem];rw[show R=false from by rw[<-hR];simp[lR,h2]];exact .refl _
   |true=>
    by_cases h3:t.lit=⟨#[]⟩
    . obtain⟨q,q1,q2,q3⟩:=hs h1 h3;have hm:=afb q q1;rw[<-q2,<-q3]at hm;simp(disch:=omega)[go_sem,h3];refine aq.mk hm λM2 av=> ?_;simp(disch:=omega)[go_sem]at av;simp(disch:=omega)[go_sem];rw[show R=true from by rw[<-hR];simp[lR,h1,h2,h3]];exact .refl _
    . simp(disch:=omega)[go_sem,h3];rw[show R=decide (s=t.lit)from by rw[<-hR];simp[lR,h1,h2,h3]];exact .refl _
 . simp(disch:=omega)[go_sem,h1];rw[show R=false from by rw[<-hR];simp[lR,h1]];exact .refl _
end Go.Sp
end
noncomputable section
open Go Go.aw Go.Proofs
namespace Go.Sp
set_option maxRecDepth 100000
theorem ew.cells{H:ab}{B U k:Nat}{xs:List (List DV)}{pv:DV}(h:ew H B U k xs pv):cE pv=[pv]/\di pv=true:=by
 rcases h with⟨_,rfl⟩|⟨R,_,_,rfl,_⟩<;>exact⟨rfl,rfl⟩
def gE(g:ai)(pv:DV):List DV:=[strs g.conds,.sl 3 (g.family.nodes.map de),iV g.family.root,pv,strs g.aH,.sl 13 (g.ak.map aR.e),iV g.start,.sl 4 (g.bd.map dG.e),.sl 9 (g.bp.map bj.e)]
def Tok.c(t:Tok):List DV:=[sV t.name,iV t.cls,sV t.lit,(match t.pat with|[]=>eN|_=>.sl 5 (t.pat.map aY.e)),sV t.jo,.sl 3 (t.cond.nodes.map de),iV t.cond.root]
structure MS(r:fp)(g:ai)(N M M2:Nat)(B X:List Tok)(H:ab)(pv:DV):Prop where
 r:H.get N=some (.row r.e true 0)
 o:H.get (N+1)=some (.row eE true 0)
 g:H.get M=some (.row (gE g pv) true 0)
 c:H.get M2=some (.row (aQ true).e true 0)
 pv:ew H (M2+1) H.next 7 (B.map Tok.e++X.map Tok.c) pv
 lt:N+1<M/\M<M2/\M2<H.next
theorem xS(B X:List Tok):∀x∈B.map Tok.e++X.map Tok.c,x.length=7:=λx hx=>by
 rcases List.mem_append.1 hx with hx|hx<;>(obtain⟨y,_,rfl⟩:=List.mem_map.1 hx;rfl)
theorem afd(m:Int)(h0:0<=m)(h1:m<256):∀k:Nat,k<8->IntKind.u8.wrap (((BitVec.ofInt IntKind.u8.bits (m.fdiv (2^(min k IntKind.u8.bits)))&&&BitVec.ofInt IntKind.u8.bits 1).toNat:Nat):Int)=if cu m k then 1 else 0:=by
 have h:((List.range 256).all λm=>(List.range 8).all λk=>decide (IntKind.u8.wrap (((BitVec.ofInt IntKind.u8.bits ((m:Int).fdiv (2^(min k IntKind.u8.bits)))&&&BitVec.ofInt IntKind.u8.bits 1).toNat:Nat):Int)=if cu (m:Nat) k then 1 else 0))=true:=by kernel_rfl
 intro k hk;have h2:=of_decide_eq_true (List.all_eq_true.1 (List.all_eq_true.1 h m.toNat (by simp;omega)) k (by simpa using hk));rw[Int.toNat_of_nonneg h0]at h2;exact h2
theorem MS.app{r:fp}{g:ai}{N M M2:Nat}{B X:List Tok}{H H1:ab}{pv:DV}{q:Nat}{K:DV×ab×List Nat->Prop}(ms:MS r g N M M2 B X H pv)(t:Tok)(hl:B.length+X.length<=1000)(hn:H.next<=H1.next)(hs:∀j,j<H.next->H1.get j=H.get j)(hq:H1.get q=some (.row t.c true 0))
 (hk:∀H' aa T,(∀i∈T,M2+1<=i/\i<H.next)->cE aa=[aa]->di aa=true->H'.get M=some (.row (gE g pv) true 0)->H1.next<H'.next->(∀j,j<H1.next->oX pv≠some j->H'.get j=H1.get j)->MS r g N M M2 B (X++[t]) (H'.set M (some (.row (gE g aa) true 0))) aa->K (aa,H',T)):aG (kU E H1 #[34,34] (some [pv,.v (.slice (some ⟨q,0,none⟩) 1 1)])) K:=by
 obtain⟨m1,m2,m3,m4,m5,m6,m7,m8⟩:=ms;refine ew.app (st:=34) (xt:=34) (B:=M2+1) (U:=H.next) (k:=7) (xs:=B.map Tok.e++X.map Tok.c) (m5.same (λj _ j2=>hs j j2) (Nat.le_refl _)) Ce Cd (by omega) hn hq (by decide) (by rfl) (by cases hp:t.pat<;>simp[Tok.c,hp,go_sem]) (xS _ _) (by rw[List.length_append,List.length_map,List.length_map];omega) λH' aa T q0 q1 q2 q3 q4=> ?_;obtain⟨p1,p2⟩:=q1.cells;have ba:∀j,j<M2+1->H'.get j=H.get j:=λj hj=>by rw[q3 j (by omega) (m5.ne (.inl hj)),hs j (by omega)]
 refine hk H' aa T q0 p1 p2 (by rw[ba M (by omega),m3]) (by omega) q3 ⟨?_, ?_, ?_, ?_, ?_,m6,m7,by rw[ab.aS];omega⟩
 . rw[ab.bw,if_neg (by omega),ba N (by omega),m1]
 . rw[ab.bw,if_neg (by omega),ba (N+1) (by omega),m2]
 . rw[ab.bw,if_pos rfl]
 . rw[ab.bw,if_neg (by omega),ba M2 (by omega),m4]
 . rw[List.map_append,<-List.append_assoc];exact q1.same (λj q5 q6=>by rw[ab.bw,if_neg (by omega)]) (by rw[ab.aS];exact Nat.le_refl _)
theorem afe(m:Int)(h0:0<=m)(h1:m<256):IntKind.u8.wrap (((BitVec.ofInt IntKind.u8.bits m&&&BitVec.ofInt IntKind.u8.bits 8).toNat:Nat):Int)=(if cu m 3 then 8 else 0)/\
 IntKind.u8.wrap (((BitVec.ofInt IntKind.u8.bits m&&&BitVec.ofInt IntKind.u8.bits 16).toNat:Nat):Int)=(if cu m 4 then 16 else 0)/\IntKind.u8.wrap (((BitVec.ofInt IntKind.u8.bits m&&&BitVec.ofInt IntKind.u8.bits 96).toNat:Nat):Int)=(if cu m 5 then 32 else 0)+(if cu m 6 then 64 else 0):=by
 have h:((List.range 256).all λm=>decide (IntKind.u8.wrap (((BitVec.ofInt IntKind.u8.bits (m:Nat)&&&BitVec.ofInt IntKind.u8.bits 8).toNat:Nat):Int)=(if cu (m:Nat) 3 then 8 else 0)/\
  IntKind.u8.wrap (((BitVec.ofInt IntKind.u8.bits (m:Nat)&&&BitVec.ofInt IntKind.u8.bits 16).toNat:Nat):Int)=(if cu (m:Nat) 4 then 16 else 0)/\IntKind.u8.wrap (((BitVec.ofInt IntKind.u8.bits (m:Nat)&&&BitVec.ofInt IntKind.u8.bits 96).toNat:Nat):Int)=(if cu (m:Nat) 5 then 32 else 0)+(if cu (m:Nat) 6 then 64 else 0)))=true:=by kernel_rfl
 have h2:=of_decide_eq_true (List.all_eq_true.1 h m.toNat (by simp;omega));rw[Int.toNat_of_nonneg h0]at h2;exact h2
def SI(r:fp)(g:ai)(N M M2:Nat)(B X:List Tok)(d:DS):Prop:=∃(H:ab) (pv:DV),MS r g N M M2 B X H pv/\d=⟨bQ [(1,aO N),(2,aO (N+1)),(5,aO M),(6,aO M2)],184,[],H⟩
theorem Ee(i:Nat){q:ByteArray×List aY}(h:([(⟨#[91,97,45,122,93,91,97,45,122,93,42]⟩,ic),(⟨#[91,97,45,122,93,91,48,45,57,93,42,43]⟩,nQ),(⟨#[92,120,50,97,43,91,97,45,122,93,42]⟩,Aa),(⟨#[92,120,50,48,120]⟩,Ab)]:List (ByteArray×List aY))[i]? =some q):
 ax E true 12 [sV q.1] (.bg [.sl 5 (q.2.map aY.e),iV 0]):=aeh q (List.mem_of_getElem? h)
theorem aff(T:List Tok):((T.map Tok.e).flatten).length=T.length*7:=by
 have:=fQ (k:=7) (xs:=T.map Tok.e) (λx hx=>by obtain⟨y,_,rfl⟩:=List.mem_map.1 hx;rfl);rwa[List.length_map]at this
theorem afg(T:List Tok)(Y:List DV)(i:Nat)(h:i<T.length)(d:Dg):((T.map Tok.e).flatten++Y).take (i*7+5)++(d.e++((T.map Tok.e).flatten++Y).drop (i*7+7))=((T.modify i λx=>{x with cond:=d}).map Tok.e).flatten++Y:=by
 obtain⟨t,ht⟩:∃t,T[i]? =some t:=⟨_,List.getElem?_eq_getElem h⟩;have e1:T=T.take i++(t::T.drop (i+1)):=by
  have he:=(List.getElem?_eq_some_iff.1 ht).2;rw[<-he,<-List.drop_eq_getElem_cons h,List.take_append_drop]
 have e2:(T.modify i λx=>{x with cond:=d})=T.take i++({t with cond:=d}::T.drop (i+1)):=by
  rw[List.modify_eq_take_cons_drop h];rw[(List.getElem?_eq_some_iff.1 ht).2]
 have hl:((T.take i).map Tok.e).flatten.length=i*7:=by rw[aff,List.length_take];omega
 obtain⟨A,hA⟩:∃A,((T.take i).map Tok.e).flatten=A:=⟨_,rfl⟩;obtain⟨C,hC⟩:∃C,((T.drop (i+1)).map Tok.e).flatten=C:=⟨_,rfl⟩;rw[hA]at hl;rw[e2];have f1:(T.map Tok.e).flatten=A++(t.e++C):=by
  conv=>lhs;rw[e1]
  rw[List.map_append,List.flatten_append,List.map_cons,List.flatten_cons,hA,hC]
 rw[f1,List.map_append,List.flatten_append,List.map_cons,List.flatten_cons,hA,hC];have t1:((A++(t.e++C))++Y).take (i*7+5)=A++[sV t.name,iV t.cls,sV t.lit,.sl 5 (t.pat.map aY.e),sV t.jo]:=by
  rw[List.append_assoc,List.take_append,List.take_of_length_le (by omega),hl,Nat.add_sub_cancel_left];rfl
 have t2:((A++(t.e++C))++Y).drop (i*7+7)=C++Y:=by
  rw[List.append_assoc,List.drop_append,List.drop_eq_nil_of_le (by omega),hl,Nat.add_sub_cancel_left,List.nil_append];rfl
 rw[t1,t2];simp[Tok.e,Dg.e]
end Go.Sp
end

/- Parts of a proof. -/
import Derived.Test.YtniliiapkfpajaaGreatDoorK21
open List renaming singleton_inj->oY
set_option linter.all false
set_option maxRecDepth 100000
noncomputable section
open Go Go.aD Go.Proofs Go.ChangeShapes Go.WideShapes Go.ChangeAt Go.RowKit Go.Joins
namespace Go.Sp
def ae2:Tryz.prog.cellsOf 28=8:=an
section
variable {H:Type} {enc:TypeId×Value->H}
def ae3{W:World}{n:Nat}{cs:List Value}{y:DataW H×List MemPlace}(hl:cs.length=8)(h:DataW.trod enc Tryz.prog W 0 (λ_=>true) true n 28 cs=some y):∃x:og,x.Ok/\iI W cs x.e:=by
 obtain⟨xs,n',_,_,_,ad,hf⟩:=DataW.trod_struct Tryz.underlying28 h;obtain⟨c0,c1,c2,c3,c4,c5,c6,c7,rfl⟩:∃c0 c1 c2 c3 c4 c5 c6 c7,cs=[c0,c1,c2,c3,c4,c5,c6,c7]:=by
  match cs,hl with
  |[c0,c1,c2,c3,c4,c5,c6,c7],_=>exact⟨_,_,_,_,_,_,_,_,rfl⟩
 obtain⟨y0,h0⟩:=jf ad hf 0 _ rfl 26 0 rfl rfl aeV;obtain⟨y1,h1⟩:=jf ad hf 1 _ rfl 5 5 rfl rfl lq;obtain⟨y2,h2⟩:=jf ad hf 2 _ rfl 22 6 rfl rfl zA;obtain⟨y3,h3⟩:=jf ad hf 3 _ rfl 22 7 rfl rfl zA;obtain⟨zs,n2,_,_,_,aa,ab⟩:=DataW.trod_struct Tryz.underlying26 h0;obtain⟨w0,g0⟩:=jf aa ab 0 _ rfl 5 0 rfl rfl lq;obtain⟨w1,g1⟩:=jf aa ab 1 _ rfl 5 1 rfl rfl lq;obtain⟨w2,g2⟩:=jf aa ab 2 _ rfl 22 2 rfl rfl zA;obtain⟨w3,g3⟩:=jf aa ab 3 _ rfl 23 3 rfl rfl aeT;obtain⟨w4,g4⟩:=jf aa ab 4 _ rfl 24 4 rfl rfl aeU;obtain⟨z0,e0,q0⟩:=lY g0;obtain⟨z1,e1,q1⟩:=lY g1;obtain⟨v2,cO,e2,q2,r2⟩:=zB g2;obtain⟨v3,af,e3,q3,r3⟩:=DO Ln.Ok Ln.e Tryz.underlying23 aeW aA (λ_=>rfl) (λn cs y hl h=>aeZ hl h) g3;obtain⟨v4,ah,e4,q4,r4⟩:=DO Rl.Ok Rl.e Tryz.underlying24 aeX aA (λ_=>rfl) (λn cs y hl h=>ae0 hl h) g4;obtain⟨z5,e5,q5⟩:=lY h1;obtain⟨v6,ll,e6,q6,r6⟩:=zB h2;obtain⟨v7,ai,e7,q7,r7⟩:=zB h3;obtain rfl:=oY.1 (show [c0]=_ from e0);obtain rfl:=oY.1 (show [c1]=_ from e1);obtain rfl:=oY.1 (show [c2]=_ from e2);obtain rfl:=oY.1 (show [c3]=_ from e3);obtain rfl:=oY.1 (show [c4]=_ from e4);obtain rfl:=oY.1 (show [c5]=_ from e5);obtain rfl:=oY.1 (show [c6]=_ from e6);obtain rfl:=oY.1 (show [c7]=_ from e7);exact⟨⟨⟨z0,z1,cO,af,ah⟩,z5,ll,ai⟩,⟨⟨q0,q1,q2,q3,q4⟩,q5,q6,q7⟩,.cons (Rd.int W _ _) (.cons (Rd.int W _ _) (.cons r2 (.cons r3 (.cons r4 (.cons (Rd.int W _ _) (.cons r6 (.cons r7 (.nil W))))))))⟩
end
def ae4{f:FuncId}{args:List DV}(ae:ay E true f args (bV true))(w:World)(el:TypeId)(fz:Nat×Nat)(ht:w.heap[ez]? =some (.cells jm.toArray el fz))(vs:Array Value)(aj:iI w vs.toList args):
 Calls Tryz.prog f vs w λen w'=>en=.returned (.bool true)/\rD w w':=by
 obtain⟨ρ,h,ao,x,g,q1,q2⟩:=aj _ _ (ae1 w el fz ht);have hz:ez<h.next:=x.w.hD _ _ x.r0;obtain⟨v,h',r1,r2⟩:=ae (pQ h) h ao ⟨λi hi=>hi,0,rS (G:=pQ h) hz x.z⟩ q2;have hv:v=.bool true:=r2.2.2.cT;subst hv;refine(r1.2 ρ w vs ⟨λg hg=>x.gl g hg,λp hp=>(by cases hp)⟩ q1 x.w).mono ?_;rintro en w' ⟨v',av,rfl,p1,p2,p3⟩;cases p1;refine⟨rfl,p3.os,p3.output,p3.size,p3.frozen,λj hj=>p3.kept j hj ?_⟩;rintro⟨i,o,pl,g1,g2,_,_⟩;rw[x.ro i o g1]at g2;cases g2
end Go.Sp
end

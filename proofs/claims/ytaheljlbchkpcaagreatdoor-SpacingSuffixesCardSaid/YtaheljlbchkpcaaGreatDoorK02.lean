/- SpacingSuffixes: parts of its proof (AbsB). -/
import Derived.Laws.Sem
import Derived.Laws.Cells
import Derived.Laws.CopyRow
import Derived.Test.YtaheljlbchkpcaaGreatDoorK01
set_option linter.unusedVariables false
set_option linter.unusedSimpArgs false
noncomputable section
namespace Go.aw
theorem x5{α:Type}:∀p:List D4,uc p (Od.nil:Od α)=none
 |[]=>rfl
 |_::_=>rfl
theorem Ep{α:Type}(x:Option α):∀(p:List D4) (t:Od α),uc p (xY p x t)=x
 |[],t=>by cases t<;>rfl
 |y::p,t=>by
  cases t<;>cases y<;>exact Ep x p _
theorem Ap{α:Type}(x:Option α):∀(p q:List D4) (t:Od α),q≠p->uc q (xY p x t)=uc q t
 |[],[],_,h=>absurd rfl h
 |[],z::q,t,_=>by cases t<;>cases z<;>first|rfl|exact x5 q
 |y::p,[],t,_=>by cases t<;>cases y<;>rfl
 |y::p,z::q,t,h=>by
  have h':y=z->q≠p:=λe1 e2=>h (by rw[e1,e2]);cases t with
  |nil=>cases y<;>cases z<;>first|exact x5 q|exact(Ap x p q .nil (h' rfl)).trans (x5 q)
  |node v a b c d=>cases y<;>cases z<;>first|rfl|exact Ap x p q _ (h' rfl)
theorem LK{i j:Nat}(h:digit i=digit j):i%4=j%4:=by
 have e:∀k,k<4->(k=0\/k=1\/k=2\/k=3):=λk hk=>by omega
 have hd:∀k m,k%4=m->digit k=Nat.rec (motive:=λ_=>D4) .a (λk _=>Nat.rec (motive:=λ_=>D4) .b (λk _=>Nat.rec (motive:=λ_=>D4) .c (λ_ _=>.d) k) k) m:=λk m hm=>by
  unfold digit;rw[show Nat.mod k 4=m from hm]
 rcases e (i%4) (by omega)with h1|h1|h1|h1<;>rcases e (j%4) (by omega)with h2|h2|h2|h2<;>first|omega|(rw[hd i _ h1,hd j _ h2]at h;cases h)
theorem Er:∀(n m i j:Nat),i<=n->j<=m->ub n i=ub m j->i=j
 |0,0,i,j,h1,h2,_=>by omega
 |0,m+1,i,j,h1,h2,h=>by
  obtain rfl:i=0:=by omega
  cases j with
  |zero=>rfl
  |succ j=>cases h
 |n+1,0,i,j,h1,h2,h=>by
  obtain rfl:j=0:=by omega
  cases i with
  |zero=>rfl
  |succ i=>cases h
 |n+1,m+1,i,j,h1,h2,h=>by
  cases i with
  |zero=>
   cases j with
   |zero=>rfl
   |succ j=>cases h
  |succ i=>
   cases j with
   |zero=>cases h
   |succ j=>
    have h:digit i::ub n (Nat.div i 4)=digit j::ub m (Nat.div j 4):=h;injection h with h3 h4
    have q1:=LK h3;have q2:=Er n m (Nat.div i 4) (Nat.div j 4) (by show i/4<=n;omega) (by show j/4<=m;omega) h4;have q2:i/4=j/4:=q2;omega
theorem Es(i:Nat):path i=ub i i:=by cases i<;>rfl
theorem LL{i j:Nat}(h:path i=path j):i=j:=by
 rw[Es,Es]at h;exact Er i j i j (Nat.le_refl _) (Nat.le_refl _) h
theorem Aq{α:Type}(t:Tr α)(i:Nat):t.get i=(pr i).run t:=by cases i<;>rfl
theorem LM{α:Type}(t:Tr α)(i:Nat)(x:Option α):t.set i x=(pt i).run x t:=by cases i<;>rfl
theorem ui{α:Type}(x:α)(d:Nat):(bW d).run (bb.all x)=x:=by
 match d with
 |0=>rfl
 |1=>rfl
 |2=>rfl
 |3=>rfl
 |4=>rfl
 |5=>rfl
 |6=>rfl
 |7=>rfl
 |8=>rfl
 |9=>rfl
 |10=>rfl
 |11=>rfl
 |12=>rfl
 |13=>rfl
 |14=>rfl
 |_+15=>rfl
theorem LN{α:Type}(x:α)(v:bb α)(d:Nat)(h:d<16):(bW d).run ((eZ 0).run x v)=if d=0 then x else(bW d).run v:=by
 match d,h with
 |0,_=>rfl
 |1,_=>rfl
 |2,_=>rfl
 |3,_=>rfl
 |4,_=>rfl
 |5,_=>rfl
 |6,_=>rfl
 |7,_=>rfl
 |8,_=>rfl
 |9,_=>rfl
 |10,_=>rfl
 |11,_=>rfl
 |12,_=>rfl
 |13,_=>rfl
 |14,_=>rfl
 |15,_=>rfl
 |n+16,h=>omega
theorem LO{α:Type}(x:α)(v:bb α)(d:Nat)(h:d<16):(bW d).run ((eZ 1).run x v)=if d=1 then x else(bW d).run v:=by
 match d,h with
 |0,_=>rfl
 |1,_=>rfl
 |2,_=>rfl
 |3,_=>rfl
 |4,_=>rfl
 |5,_=>rfl
 |6,_=>rfl
 |7,_=>rfl
 |8,_=>rfl
 |9,_=>rfl
 |10,_=>rfl
 |11,_=>rfl
 |12,_=>rfl
 |13,_=>rfl
 |14,_=>rfl
 |15,_=>rfl
 |n+16,h=>omega
theorem LP{α:Type}(x:α)(v:bb α)(d:Nat)(h:d<16):(bW d).run ((eZ 2).run x v)=if d=2 then x else(bW d).run v:=by
 match d,h with
 |0,_=>rfl
 |1,_=>rfl
 |2,_=>rfl
 |3,_=>rfl
 |4,_=>rfl
 |5,_=>rfl
 |6,_=>rfl
 |7,_=>rfl
 |8,_=>rfl
 |9,_=>rfl
 |10,_=>rfl
 |11,_=>rfl
 |12,_=>rfl
 |13,_=>rfl
 |14,_=>rfl
 |15,_=>rfl
 |n+16,h=>omega
theorem LQ{α:Type}(x:α)(v:bb α)(d:Nat)(h:d<16):(bW d).run ((eZ 3).run x v)=if d=3 then x else(bW d).run v:=by
 match d,h with
 |0,_=>rfl
 |1,_=>rfl
 |2,_=>rfl
 |3,_=>rfl
 |4,_=>rfl
 |5,_=>rfl
 |6,_=>rfl
 |7,_=>rfl
 |8,_=>rfl
 |9,_=>rfl
 |10,_=>rfl
 |11,_=>rfl
 |12,_=>rfl
 |13,_=>rfl
 |14,_=>rfl
 |15,_=>rfl
 |n+16,h=>omega
theorem LR{α:Type}(x:α)(v:bb α)(d:Nat)(h:d<16):(bW d).run ((eZ 4).run x v)=if d=4 then x else(bW d).run v:=by
 match d,h with
 |0,_=>rfl
 |1,_=>rfl
 |2,_=>rfl
 |3,_=>rfl
 |4,_=>rfl
 |5,_=>rfl
 |6,_=>rfl
 |7,_=>rfl
 |8,_=>rfl
 |9,_=>rfl
 |10,_=>rfl
 |11,_=>rfl
 |12,_=>rfl
 |13,_=>rfl
 |14,_=>rfl
 |15,_=>rfl
 |n+16,h=>omega
theorem LS{α:Type}(x:α)(v:bb α)(d:Nat)(h:d<16):(bW d).run ((eZ 5).run x v)=if d=5 then x else(bW d).run v:=by
 match d,h with
 |0,_=>rfl
 |1,_=>rfl
 |2,_=>rfl
 |3,_=>rfl
 |4,_=>rfl
 |5,_=>rfl
 |6,_=>rfl
 |7,_=>rfl
 |8,_=>rfl
 |9,_=>rfl
 |10,_=>rfl
 |11,_=>rfl
 |12,_=>rfl
 |13,_=>rfl
 |14,_=>rfl
 |15,_=>rfl
 |n+16,h=>omega
theorem LU{α:Type}(x:α)(v:bb α)(d:Nat)(h:d<16):(bW d).run ((eZ 6).run x v)=if d=6 then x else(bW d).run v:=by
 match d,h with
 |0,_=>rfl
 |1,_=>rfl
 |2,_=>rfl
 |3,_=>rfl
 |4,_=>rfl
 |5,_=>rfl
 |6,_=>rfl
 |7,_=>rfl
 |8,_=>rfl
 |9,_=>rfl
 |10,_=>rfl
 |11,_=>rfl
 |12,_=>rfl
 |13,_=>rfl
 |14,_=>rfl
 |15,_=>rfl
 |n+16,h=>omega
theorem LV{α:Type}(x:α)(v:bb α)(d:Nat)(h:d<16):(bW d).run ((eZ 7).run x v)=if d=7 then x else(bW d).run v:=by
 match d,h with
 |0,_=>rfl
 |1,_=>rfl
 |2,_=>rfl
 |3,_=>rfl
 |4,_=>rfl
 |5,_=>rfl
 |6,_=>rfl
 |7,_=>rfl
 |8,_=>rfl
 |9,_=>rfl
 |10,_=>rfl
 |11,_=>rfl
 |12,_=>rfl
 |13,_=>rfl
 |14,_=>rfl
 |15,_=>rfl
 |n+16,h=>omega
theorem LW{α:Type}(x:α)(v:bb α)(d:Nat)(h:d<16):(bW d).run ((eZ 8).run x v)=if d=8 then x else(bW d).run v:=by
 match d,h with
 |0,_=>rfl
 |1,_=>rfl
 |2,_=>rfl
 |3,_=>rfl
 |4,_=>rfl
 |5,_=>rfl
 |6,_=>rfl
 |7,_=>rfl
 |8,_=>rfl
 |9,_=>rfl
 |10,_=>rfl
 |11,_=>rfl
 |12,_=>rfl
 |13,_=>rfl
 |14,_=>rfl
 |15,_=>rfl
 |n+16,h=>omega
theorem LX{α:Type}(x:α)(v:bb α)(d:Nat)(h:d<16):(bW d).run ((eZ 9).run x v)=if d=9 then x else(bW d).run v:=by
 match d,h with
 |0,_=>rfl
 |1,_=>rfl
 |2,_=>rfl
 |3,_=>rfl
 |4,_=>rfl
 |5,_=>rfl
 |6,_=>rfl
 |7,_=>rfl
 |8,_=>rfl
 |9,_=>rfl
 |10,_=>rfl
 |11,_=>rfl
 |12,_=>rfl
 |13,_=>rfl
 |14,_=>rfl
 |15,_=>rfl
 |n+16,h=>omega
theorem LY{α:Type}(x:α)(v:bb α)(d:Nat)(h:d<16):(bW d).run ((eZ 10).run x v)=if d=10 then x else(bW d).run v:=by
 match d,h with
 |0,_=>rfl
 |1,_=>rfl
 |2,_=>rfl
 |3,_=>rfl
 |4,_=>rfl
 |5,_=>rfl
 |6,_=>rfl
 |7,_=>rfl
 |8,_=>rfl
 |9,_=>rfl
 |10,_=>rfl
 |11,_=>rfl
 |12,_=>rfl
 |13,_=>rfl
 |14,_=>rfl
 |15,_=>rfl
 |n+16,h=>omega
theorem LZ{α:Type}(x:α)(v:bb α)(d:Nat)(h:d<16):(bW d).run ((eZ 11).run x v)=if d=11 then x else(bW d).run v:=by
 match d,h with
 |0,_=>rfl
 |1,_=>rfl
 |2,_=>rfl
 |3,_=>rfl
 |4,_=>rfl
 |5,_=>rfl
 |6,_=>rfl
 |7,_=>rfl
 |8,_=>rfl
 |9,_=>rfl
 |10,_=>rfl
 |11,_=>rfl
 |12,_=>rfl
 |13,_=>rfl
 |14,_=>rfl
 |15,_=>rfl
 |n+16,h=>omega
theorem L0{α:Type}(x:α)(v:bb α)(d:Nat)(h:d<16):(bW d).run ((eZ 12).run x v)=if d=12 then x else(bW d).run v:=by
 match d,h with
 |0,_=>rfl
 |1,_=>rfl
 |2,_=>rfl
 |3,_=>rfl
 |4,_=>rfl
 |5,_=>rfl
 |6,_=>rfl
 |7,_=>rfl
 |8,_=>rfl
 |9,_=>rfl
 |10,_=>rfl
 |11,_=>rfl
 |12,_=>rfl
 |13,_=>rfl
 |14,_=>rfl
 |15,_=>rfl
 |n+16,h=>omega
theorem L3{α:Type}(x:α)(v:bb α)(d:Nat)(h:d<16):(bW d).run ((eZ 13).run x v)=if d=13 then x else(bW d).run v:=by
 match d,h with
 |0,_=>rfl
 |1,_=>rfl
 |2,_=>rfl
 |3,_=>rfl
 |4,_=>rfl
 |5,_=>rfl
 |6,_=>rfl
 |7,_=>rfl
 |8,_=>rfl
 |9,_=>rfl
 |10,_=>rfl
 |11,_=>rfl
 |12,_=>rfl
 |13,_=>rfl
 |14,_=>rfl
 |15,_=>rfl
 |n+16,h=>omega
theorem L4{α:Type}(x:α)(v:bb α)(d:Nat)(h:d<16):(bW d).run ((eZ 14).run x v)=if d=14 then x else(bW d).run v:=by
 match d,h with
 |0,_=>rfl
 |1,_=>rfl
 |2,_=>rfl
 |3,_=>rfl
 |4,_=>rfl
 |5,_=>rfl
 |6,_=>rfl
 |7,_=>rfl
 |8,_=>rfl
 |9,_=>rfl
 |10,_=>rfl
 |11,_=>rfl
 |12,_=>rfl
 |13,_=>rfl
 |14,_=>rfl
 |15,_=>rfl
 |n+16,h=>omega
theorem L5{α:Type}(x:α)(v:bb α)(d:Nat)(h:d<16):(bW d).run ((eZ 15).run x v)=if d=15 then x else(bW d).run v:=by
 match d,h with
 |0,_=>rfl
 |1,_=>rfl
 |2,_=>rfl
 |3,_=>rfl
 |4,_=>rfl
 |5,_=>rfl
 |6,_=>rfl
 |7,_=>rfl
 |8,_=>rfl
 |9,_=>rfl
 |10,_=>rfl
 |11,_=>rfl
 |12,_=>rfl
 |13,_=>rfl
 |14,_=>rfl
 |15,_=>rfl
 |n+16,h=>omega
theorem uj{α:Type}(x:α)(v:bb α)(d e:Nat)(h:d<16)(h':e<16):(bW d).run ((eZ e).run x v)=if d=e then x else(bW d).run v:=by
 match e,h' with
 |0,_=>exact LN x v d h
 |1,_=>exact LO x v d h
 |2,_=>exact LP x v d h
 |3,_=>exact LQ x v d h
 |4,_=>exact LR x v d h
 |5,_=>exact LS x v d h
 |6,_=>exact LU x v d h
 |7,_=>exact LV x v d h
 |8,_=>exact LW x v d h
 |9,_=>exact LX x v d h
 |10,_=>exact LY x v d h
 |11,_=>exact LZ x v d h
 |12,_=>exact L0 x v d h
 |13,_=>exact L3 x v d h
 |14,_=>exact L4 x v d h
 |15,_=>exact L5 x v d h
 |n+16,h=>omega
theorem x6{i n:Nat}(h:i<n):Nat.blt i n=true:=Nat.blt_eq.mpr h
theorem uk{i n:Nat}(h:¬i<n):Nat.blt i n=false:=by rw[Bool.eq_false_iff];exactλe=>h (Nat.blt_eq.mp e)
theorem sq{α:Type}{i:Nat}(h:i<256)(t:Tr α):(pr i).run t=(bW (i%16)).run ((bW (i/16)).run t.small):=by
 unfold pr;rw[x6 h];rfl
theorem sr{α:Type}{i:Nat}(h:¬i<256)(h2:i<65536)(t:Tr α):(pr i).run t=(bW (i%16)).run ((bW (i/16%16)).run ((bW (i/256%16)).run ((bW (i/4096)).run t.sd))):=by
 unfold pr;rw[uk h,x6 h2];rfl
theorem su{α:Type}{i:Nat}(h:¬i<65536)(t:Tr α):(pr i).run t=uc (path i) t.over:=by
 unfold pr;rw[uk (show¬i<256 by omega),uk h]
theorem L6{α:Type}{i:Nat}(h:i<256)(x:Option α)(t:Tr α):(pt i).run x t={t with small:=(eZ (i/16)).run ((eZ (i%16)).run x ((bW (i/16)).run t.small)) t.small}:=by
 unfold pt;rw[x6 h];rfl
theorem L7{α : Type}{i : Nat}(h : ¬ i < 256)(h2 : i < 65536)(x : Option α)(t : Tr α) : (pt i).run x t = { t with sd := (eZ (i / 4096)).run ((eZ (i / 256 % 16)).run ((eZ (i / 16 % 16)).run ((eZ (i % 16)).run x
 ((bW (i/16%16)).run ((bW (i/256%16)).run ((bW (i/4096)).run t.sd)))) ((bW (i/256%16)).run ((bW (i/4096)).run t.sd))) ((bW (i/4096)).run t.sd)) t.sd}:=by
 unfold pt;rw[uk h,x6 h2];rfl
theorem L8{α:Type}{i:Nat}(h:¬i<65536)(x:Option α)(t:Tr α):(pt i).run x t={t with over:=xY (path i) x t.over}:=by
 unfold pt;rw[uk (show¬i<256 by omega),uk h]
theorem Tr.get_nil{α:Type}(i:Nat):(Tr.nil:Tr α).get i=none:=by
 rw[Aq];by_cases h:i<256
 . rw[sq h];show(bW (i%16)).run ((bW (i/16)).run (bb.all (bb.all none)))=none;rw[ui,ui]
 . by_cases h2:i<65536
   . rw[sr h h2];show(bW (i%16)).run ((bW (i/16%16)).run ((bW (i/256%16)).run ((bW (i/4096)).run (bb.all (bb.all (bb.all (bb.all none)))))))=none;rw[ui,ui,ui,ui]
   . rw[su h2];exact x5 _
theorem Tr.bw{α:Type}(t:Tr α)(i j:Nat)(x:Option α):(t.set i x).get j=if j=i then x else t.get j:=by
 rw[LM,Aq,Aq];by_cases hi:i<256
 . rw[L6 hi];by_cases hj:j<256
   . rw[sq hj,sq hj];simp only;rw[uj _ _ _ _ (by omega) (by omega)];by_cases e:j/16=i/16
     . rw[if_pos e,uj _ _ _ _ (by omega) (by omega),e];by_cases e2:j%16=i%16
       . rw[if_pos e2,if_pos (by omega)]
       . rw[if_neg e2,if_neg (λe3=>e2 (by rw[e3]))]
     . rw[if_neg e,if_neg (λe3=>e (by rw[e3]))]
   . rw[if_neg (by omega)];by_cases ae:j<65536
     . rw[sr hj ae,sr hj ae]
     . rw[su ae,su ae]
 . by_cases dS:i<65536
   . rw[L7 hi dS];by_cases hj:j<256
     . rw[if_neg (by omega),sq hj,sq hj]
     . by_cases ae:j<65536
       . rw[sr hj ae,sr hj ae];simp only;rw[uj _ _ _ _ (by omega) (by omega)];by_cases e:j/4096=i/4096
         . rw[if_pos e,e,uj _ _ _ _ (by omega) (by omega)];by_cases e2:j/256%16=i/256%16
           . rw[if_pos e2,e2,uj _ _ _ _ (by omega) (by omega)];by_cases e3:j/16%16=i/16%16
             . rw[if_pos e3,e3,uj _ _ _ _ (by omega) (by omega)];by_cases e4:j%16=i%16
               . rw[if_pos e4,if_pos (by omega)]
               . rw[if_neg e4,if_neg (λq=>e4 (by rw[q]))]
             . rw[if_neg e3,if_neg (λq=>e3 (by rw[q]))]
           . rw[if_neg e2,if_neg (λq=>e2 (by rw[q]))]
         . rw[if_neg e,if_neg (λq=>e (by rw[q]))]
       . rw[if_neg (by omega),su ae,su ae]
   . rw[L8 dS];by_cases hj:j<256
     . rw[if_neg (by omega),sq hj,sq hj]
     . by_cases ae:j<65536
       . rw[if_neg (by omega),sr hj ae,sr hj ae]
       . rw[su ae,su ae];simp only;by_cases h:j=i
         . subst h;rw[if_pos rfl];exact Ep x _ _
         . rw[if_neg h];exact Ap x _ _ _ (λe=>h (LL e))
theorem aa.bw(h:aa)(i j:Nat)(o:Option bK):(h.set i o).get j=if j=i then o else h.get j:=Tr.bw _ _ _ _
theorem aa.dT(h:aa)(j:Nat)(o:bK):(h.new o).get j=if j=h.next then some o else h.get j:=Tr.bw _ _ _ _
theorem aa.aS(h:aa)(i:Nat)(o:Option bK):(h.set i o).next=h.next:=rfl
theorem aa.aZ(h:aa)(o:bK):(h.new o).next=h.next+1:=rfl
inductive aP{α β:Type}(R:α->β->Prop):List α->List β->Prop
 |nil:aP R [] []
 |cons {a b x y}:R a b->aP R x y->aP R (a::x) (b::y)
theorem aP.length{α β:Type}{R:α->β->Prop}{x:List α}{y:List β}(h:aP R x y):x.length=y.length:=by
 induction h with
 |nil=>rfl
 |cons _ _ ih=>simp[ih]
theorem aP.mono{α β:Type}{R S:α->β->Prop}{x:List α}{y:List β}(h:aP R x y)(hr:∀a b,R a b->S a b):aP S x y:=by
 induction h with
 |nil=>exact .nil
 |cons h _ ih=>exact .cons (hr _ _ h) ih
theorem aP.append{α β:Type}{R:α->β->Prop}{x x':List α}{y y':List β}(h:aP R x y)(h':aP R x' y'):aP R (x++x') (y++y'):=by
 induction h with
 |nil=>exact h'
 |cons h _ ih=>exact .cons h ih
theorem aP.get{α β:Type}{R:α->β->Prop}{x:List α}{y:List β}(h:aP R x y):∀(i:Nat) (a:α),x[i]? =some a->∃b,y[i]? =some b/\R a b:=by
 induction h with
 |nil=>intro i a h;simp at h
 |cons h _ ih=>
  intro i a hi;cases i with
  |zero=>simp at hi;subst hi;exact⟨_,rfl,h⟩
  |succ i=>simpa using ih i a (by simpa using hi)
theorem aP.sv{α β:Type}{R:α->β->Prop}:∀{x:List α} {y:List β},x.length=y.length->(∀(i:Nat) (a:α) (b:β),x[i]? =some a->y[i]? =some b->R a b)->aP R x y
 |[],[],_,_=>.nil
 |[],_::_,h,_=>by simp at h
 |_::_,[],h,_=>by simp at h
 |a::x,b::y,h,hr=>.cons (hr 0 a b rfl rfl) (aP.sv (by simpa using h) λi c d hc hd=>hr (i+1) c d (by simpa using hc) (by simpa using hd))
theorem aP.drop{α β:Type}{R:α->β->Prop}{x:List α}{y:List β}(h:aP R x y)(n:Nat):aP R (x.drop n) (y.drop n):=by
 induction h generalizing n with
 |nil=>simpa using aP.nil
 |cons h t ih=>cases n with
  |zero=>exact .cons h t
  |succ n=>simpa using ih n
theorem aP.take{α β:Type}{R:α->β->Prop}{x:List α}{y:List β}(h:aP R x y)(n:Nat):aP R (x.take n) (y.take n):=by
 induction h generalizing n with
 |nil=>simpa using aP.nil
 |cons h t ih=>cases n with
  |zero=>exact .nil
  |succ n=>simpa using aP.cons h (ih n)
abbrev ay:=Nat->Option Pl
def Ar(pl:Pl)(a:Addr)(len cap:Nat)(c:Addr)(av:Nat):Prop:=
 (c=⟨pl.aW,pl.off+a.off,none⟩/\(av=cap\/(0<pl.ah/\a.off+cap*pl.ah=pl.n/\a.off+av*pl.ah=pl.cap/\cap<=av)))\/(len=0/\cap=0/\av=0)
inductive kJ(ρ:ay):Fn->Fn->Prop
 |func (f:FuncId):kJ ρ (.func f) (.func f)
 |yield {l:Nat} {pl:Pl}:ρ l=some pl->kJ ρ (.yield l) (.yield pl.aW)
inductive aK(ρ:ay):Value->Value->Prop
 |bool (b:Bool):aK ρ (.bool b) (.bool b)
 |int (k:IntKind) (n:Int):aK ρ (.int k n) (.int k n)
 |string (s:ByteArray):aK ρ (.string s) (.string s)
 |sw:aK ρ (.pointer none) (.pointer none)
 |ptr {a:Addr} {pl:Pl}:ρ a.block=some pl->aK ρ (.pointer (some a)) (.pointer (some ⟨pl.aW,pl.off+a.off,none⟩))
 |kK (l k:Nat):aK ρ (.slice none l k) (.slice none l k)
 |sl {a c:Addr} {l k k':Nat} {pl:Pl}:ρ a.block=some pl->Ar pl a l k c k'->aK ρ (.slice (some a) l k) (.slice (some c) l k')
 |pD:aK ρ (.map none) (.map none)
 |map {r:Nat} {pl:Pl}:ρ r=some pl->aK ρ (.map (some r)) (.map (some pl.aW))
 |func {fn aO:Fn} {a a' c c':Array Value}:kJ ρ fn aO->a.size=a'.size->(∀(i:Nat) (v v':Value),a[i]? =some v->a'[i]? =some v'->aK ρ v v')->c.size=c'.size->
  (∀(i:Nat) (v v':Value),c[i]? =some v->c'[i]? =some v'->aK ρ v v')->aK ρ (.func fn a c) (.func aO a' c')
 |nilFunc:aK ρ .nilFunc .nilFunc
 |iface {t:TypeId} {v v':Value}:aK ρ v v'->aK ρ (.iface t v) (.iface t v')
 |nilIface:aK ρ .nilIface .nilIface
 |agg {a a':Array Value}:a.size=a'.size->(∀(i:Nat) (v v':Value),a[i]? =some v->a'[i]? =some v'->aK ρ v v')->aK ρ (.agg a) (.agg a')
 |tuple {a a':Array Value}:a.size=a'.size->(∀(i:Nat) (v v':Value),a[i]? =some v->a'[i]? =some v'->aK ρ v v')->aK ρ (.tuple a) (.tuple a')
def Ext(ρ ab:ay):Prop:=∀i pl,ρ i=some pl->ab i=some pl
theorem Ext.refl(ρ:ay):Ext ρ ρ:=λ_ _ h=>h
theorem Ext.trans{ρ ab af:ay}(h:Ext ρ ab)(h':Ext ab af):Ext ρ af:=λi pl x=>h' i pl (h i pl x)
theorem kJ.mono{ρ ab:ay}(hx:Ext ρ ab){f g:Fn}(h:kJ ρ f g):kJ ab f g:=by
 cases h with
 |func f=>exact .func f
 |yield h=>exact .yield (hx _ _ h)
theorem aK.mono{ρ ab:ay}(hx:Ext ρ ab){v v':Value}(h:aK ρ v v'):aK ab v v':=by
 induction h with
 |bool b=>exact .bool b
 |int k n=>exact .int k n
 |string s=>exact .string s
 |sw=>exact .sw
 |ptr h=>exact .ptr (hx _ _ h)
 |kK l k=>exact .kK l k
 |sl h hs=>exact .sl (hx _ _ h) hs
 |pD=>exact .pD
 |map h=>exact .map (hx _ _ h)
 |func hf h1 _ h2 _ aT aU=>exact .func (hf.mono hx) h1 aT h2 aU
 |nilFunc=>exact .nilFunc
 |iface _ ih=>exact .iface ih
 |nilIface=>exact .nilIface
 |agg h1 _ ih=>exact .agg h1 ih
 |tuple h1 _ ih=>exact .tuple h1 ih
abbrev bJ(ρ:ay):=aP (aK ρ)
theorem bJ.mono{ρ ab:ay}(hx:Ext ρ ab){x y:List Value}(h:bJ ρ x y):bJ ab x y:=aP.mono h λ_ _=>aK.mono hx
theorem sx{ρ:ay}{a a':Array Value}(h:a.size=a'.size)(hr:∀(i:Nat) (v v':Value),a[i]? =some v->a'[i]? =some v'->aK ρ v v'):bJ ρ a.toList a'.toList:=
 aP.sv (by simpa using h) λi v v' hv az=>hr i v v' (by simpa using hv) (by simpa using az)
theorem um{ρ:ay}{a a':Array Value}(h:bJ ρ a.toList a'.toList):a.size=a'.size/\∀(i:Nat) (v v':Value),a[i]? =some v->a'[i]? =some v'->aK ρ v v':=by
 refine⟨by simpa using h.length,λi v v' hv az=> ?_⟩;obtain⟨b,hb,hr⟩:=h.get i v (by simpa using hv);have:a'[i]? =some b:=by simpa using hb
 rw[this]at az;cases az;exact hr
theorem aK.L9{ρ:ay}{a a':Array Value}:aK ρ (.agg a) (.agg a')↔bJ ρ a.toList a'.toList:=
 ⟨λh=>by cases h with|agg h1 h2=>exact sx h1 h2,λh=>.agg (um h).1 (um h).2⟩
theorem aK.kL{ρ:ay}{a a':Array Value}:aK ρ (.tuple a) (.tuple a')↔bJ ρ a.toList a'.toList:=
 ⟨λh=>by cases h with|tuple h1 h2=>exact sx h1 h2,λh=>.tuple (um h).1 (um h).2⟩
theorem aK.qI{ρ:ay}{a:Array Value}{v':Value}(h:aK ρ (.agg a) v'):∃a',v'=.agg a'/\bJ ρ a.toList a'.toList:=by
 cases h with|agg h1 h2=>exact⟨_,rfl,sx h1 h2⟩
theorem aK.Et{ρ:ay}{a:Array Value}{v':Value}(h:aK ρ (.tuple a) v'):∃a',v'=.tuple a'/\bJ ρ a.toList a'.toList:=by
 cases h with|tuple h1 h2=>exact⟨_,rfl,sx h1 h2⟩
theorem aK.x7{ρ:ay}{l:List Value}{a':Array Value}(h:bJ ρ l a'.toList):aK ρ (.agg l.toArray) (.agg a'):=aK.L9.2 (by simpa using h)
theorem As{ρ:ay}:∀(n:Nat) (v:Value),ez n v=true->aK ρ v v
 |0,_,h=>by simp[ez]at h
 |n+1,v,h=>by
  have arr:∀a:Array Value,a.toList.all (ez n)=true->∀(i:Nat) (v v':Value),a[i]? =some v->a[i]? =some v'->aK ρ v v':=λa ha i v v' hv az=>by
   rw[hv]at az;cases az;exact As n v (List.all_eq_true.1 ha v (by
    have:a.toList[i]? =some v:=by simpa using hv
    exact List.mem_of_getElem? this))
  cases v with
  |bool b=>exact .bool b
  |int k n=>exact .int k n
  |string s=>exact .string s
  |pointer a=>cases a with
   |none=>exact .sw
   |some a=>simp[ez]at h
  |slice a l k=>cases a with
   |none=>exact .kK l k
   |some a=>simp[ez]at h
  |map r=>cases r with
   |none=>exact .pD
   |some a=>simp[ez]at h
  |nilFunc=>exact .nilFunc
  |nilIface=>exact .nilIface
  |iface t v=>exact .iface (As n v (by simpa[ez]using h))
  |agg a=>exact .agg rfl (arr a (by simpa[ez]using h))
  |tuple a=>exact .tuple rfl (arr a (by simpa[ez]using h))
  |_=>simp[ez]at h
theorem oi{ρ:ay}{v:Value}(h:plain v=true):aK ρ v v:=As 6 v h
theorem At{ρ:ay}:∀(n:Nat) (v v':Value),ez n v=true->aK ρ v v'->v'=v
 |0,_,_,h,_=>by simp[ez]at h
 |n+1,v,v',h,hr=>by
  have arr:∀a a':Array Value,a.toList.all (ez n)=true->a.size=a'.size->(∀(i:Nat) (v v':Value),a[i]? =some v->a'[i]? =some v'->aK ρ v v')->a'=a:=λa a' ha hs hv=>by
   apply Array.ext (by omega);intro i h1 h2;exact At n _ _ (List.all_eq_true.1 ha a[i] (by simp)) (hv i _ _ (Array.getElem?_eq_getElem h2) (Array.getElem?_eq_getElem h1))
  cases hr with
  |iface hv=>rw[At n _ _ (by simpa[ez]using h) hv]
  |agg hs hv=>rw[arr _ _ (by simpa[ez]using h) hs hv]
  |tuple hs hv=>rw[arr _ _ (by simpa[ez]using h) hs hv]
  |ptr _=>simp[ez]at h
  |sl _ _=>simp[ez]at h
  |map _=>simp[ez]at h
  |func _ _ _ _ _=>simp[ez]at h
  |_=>rfl
theorem qJ{ρ:ay}{v v':Value}(h:plain v=true)(hr:aK ρ v v'):v'=v:=At 6 v v' h hr
def bK.wr:bK->Bool
 |.row _ wr _=>wr
 |_=>true
structure eU(ρ:ay)(x y:MapEntry):Prop where
 key:y.key=x.key
 plain:plain x.key=true
 val:aK ρ x.val y.val
 born:y.born=x.born
def kc(ρ:ay)(t:Tr Value)(n:Nat)(a:Array Value):Prop:=a.size=n/\∀i v,t.get i=some v->i<n/\aK ρ v (a.getD i undef)
def iM(ρ:ay)(w:World)(pl:Pl):bK->Prop
 |.row cs wr ah=>∃c el fz,w.heap[pl.aW]? =some (.cells c el fz)/\(wr=true->fz=(0,0))/\pl.n=cs.length/\pl.ah=ah/\pl.n<=pl.cap/\pl.off+pl.cap<=c.size/\(ah=0->pl.cap=pl.n)/\
  bJ ρ cs ((c.toList.drop pl.off).take pl.n)/\(cs=[]->pl.Lb (.cells c el fz))
 |.map es clock=>pl.off=0/\∃aD,w.heap[pl.aW]? =some (.map aD clock)/\aP (eU ρ) es aD.toList
 |.cD m since seen last=>pl.off=0/\∃m',w.heap[pl.aW]? =some (.mapIter m' since seen.toArray last)/\aK ρ (.map m) (.map m')
 |.e8 s pos=>pl.off=0/\w.heap[pl.aW]? =some (.stringIter s pos)
 |.loop st an t n params bT body fT=>pl.off=0/\∃fn tmps aE,ρ fT=some aE/\kc ρ t n tmps/\
  w.heap[pl.aW]? =some (.loop {state:=st,pending:=an,fn,tmps,params:=params.toArray,assign:=bT,body,defers:=aE.aW})
 |.fT empty=>pl.off=0/\w.heap[pl.aW]? =some (.deferred (if empty then some []else none))
theorem eU.mono{ρ ab:ay}(hx:Ext ρ ab){x y:MapEntry}(h:eU ρ x y):eU ab x y:=⟨h.key,h.plain,h.val.mono hx,h.born⟩
theorem kc.mono{ρ ab:ay}(hx:Ext ρ ab){t:Tr Value}{n:Nat}{a:Array Value}(h:kc ρ t n a):kc ab t n a:=⟨h.1,λi v hv=>⟨(h.2 i v hv).1,(h.2 i v hv).2.mono hx⟩⟩
theorem iM.mono{ρ ab:ay}{w w':World}{pl:Pl}{o:bK}(hx:Ext ρ ab)(hw:w'.heap[pl.aW]? =w.heap[pl.aW]?)(h:iM ρ w pl o):iM ab w' pl o:=by
 cases o with
 |row cs wr ah=>
  obtain⟨c,el,fz,h1,h2,h3,h4,h5,h6,h7,h8⟩:=h;exact⟨c,el,fz,hw▸h1,h2,h3,h4,h5,h6,h7,h8.1.mono hx,h8.2⟩
 |map es clock=>obtain⟨h0,aD,h1,h2⟩:=h;exact⟨h0,aD,hw▸h1,h2.mono λ_ _=>eU.mono hx⟩
 |cD m since seen last=>obtain⟨h0,m',h1,h2⟩:=h;exact⟨h0,m',hw▸h1,h2.mono hx⟩
 |e8 s pos=>exact⟨h.1,hw▸h.2⟩
 |loop st an t n params bT body fT=>
  obtain⟨h0,fn,tmps,aE,h1,h2,h3⟩:=h;exact⟨h0,fn,tmps,aE,hx _ _ h1,h2.mono hx,hw▸h3⟩
 |fT e=>exact⟨h.1,hw▸h.2⟩
theorem iM.lt{ρ:ay}{w:World}{pl:Pl}{o:bK}(h:iM ρ w pl o):pl.aW<w.heap.size:=by
 have key:∀{x:Obj},w.heap[pl.aW]? =some x->pl.aW<w.heap.size:=λhx=>(Array.getElem?_eq_some_iff.1 hx).1;cases o with
 |row cs wr ah=>obtain⟨c,el,fz,h1,_⟩:=h;exact key h1
 |map es clock=>obtain⟨_,aD,h1,_⟩:=h;exact key h1
 |cD m since seen last=>obtain⟨_,m',h1,_⟩:=h;exact key h1
 |e8 s pos=>exact key h.2
 |loop st an t n params bT body fT=>obtain⟨_,fn,tmps,aE,_,_,h3⟩:=h;exact key h3
 |fT e=>exact key h.2
structure bm(ρ:ay)(h:aa)(w:World):Prop where
 iw:∀i pl,ρ i=some pl->i<h.next
 obj:∀i o,h.get i=some o->∃pl,ρ i=some pl/\iM ρ w pl o
 sep:∀i j o p pi pj,i≠j->h.get i=some o->o.wr=true->h.get j=some p->ρ i=some pi->ρ j=some pj->pi.aW≠pj.aW
def Host(ρ:ay)(h:aa)(b:Nat):Prop:=∃i o pl,h.get i=some o/\o.wr=true/\ρ i=some pl/\pl.aW=b
structure Fr(b:Nat)(ρ:ay)(h:aa)(w:World)(ab:ay)(h':aa)(w':World):Prop where
 ext:Ext ρ ab
 os:w'.os=w.os
 output:w'.output=w.output
 size:w.heap.size<=w'.heap.size
 frozen:∀a,a.block<w.heap.size->w'.frozen? a=w.frozen? a
 kept:∀k,k<w.heap.size->¬Host ρ h k->w'.heap[k]? =w.heap[k]?
 new:∀i o pl,h'.get i=some o->o.wr=true->ab i=some pl->Host ρ h pl.aW\/w.heap.size<=pl.aW
 ro:∀i o,h'.get i=some o->o.wr=false->h.get i=some o
 ids:∀i,ρ i=none->ab i≠none->b<=i
 ba:∀i o,h'.get i=some o->i<b->∃p,h.get i=some p
 next:h.next<=h'.next
theorem Fr.refl(b:Nat)(ρ:ay)(h:aa)(w:World):Fr b ρ h w ρ h w:=
 ⟨Ext.refl _,rfl,rfl,Nat.le_refl _,λ_ _=>rfl,λ_ _ _=>rfl,λi o pl h1 h2 h3=>.inl ⟨i,o,pl,h1,h2,h3,rfl⟩,λ_ _ h _=>h,λ_ h h'=>absurd h h',λ_ o h _=>⟨o,h⟩,Nat.le_refl _⟩
theorem Fr.mono{b b':Nat}{ρ ab:ay}{h h':aa}{w w':World}(x:Fr b ρ h w ab h' w')(hb:b'<=b):Fr b' ρ h w ab h' w':=
 ⟨x.ext,x.os,x.output,x.size,x.frozen,x.kept,x.new,x.ro,λi h1 h2=>Nat.le_trans hb (x.ids i h1 h2),λi o h1 h2=>x.ba i o h1 (Nat.lt_of_lt_of_le h2 hb),x.next⟩
theorem Fr.trans{b:Nat}{ρ ab af:ay}{h h' aQ:aa}{w w' aR:World}(x:Fr b ρ h w ab h' w')(y:Fr b ab h' w' af aQ aR):Fr b ρ h w af aQ aR:=by
 refine⟨x.ext.trans y.ext,y.os.trans x.os,y.output.trans x.output,Nat.le_trans x.size y.size,λa ha=>(y.frozen a (Nat.lt_of_lt_of_le ha x.size)).trans (x.frozen a ha), ?_, ?_, ?_, ?_,λi o h1 h2=>let⟨p,hp⟩:=y.ba i o h1 h2;x.ba i p hp h2,Nat.le_trans x.next y.next⟩
 . intro k hb hh;rw[y.kept k (Nat.lt_of_lt_of_le hb x.size) ?_,x.kept k hb hh];rintro⟨i,o,pl,h1,h2,h3,rfl⟩;rcases x.new i o pl h1 h2 h3 with h4|h4
   . exact hh h4
   . omega
 . intro i o pl h1 h2 h3;rcases y.new i o pl h1 h2 h3 with⟨j,p,pj,g1,g2,g3,g4⟩|h4
   . rw[<-g4];exact x.new j p pj g1 g2 g3
   . exact .inr (Nat.le_trans x.size h4)
 . intro i o h1 h2;exact x.ro i o (y.ro i o h1 h2) h2
 . intro i h1 h2;by_cases h3:ab i=none
   . exact y.ids i h3 h2
   . exact x.ids i h1 h3
theorem bm.sub{ρ:ay}{h g:aa}{w:World}(x:bm ρ h w)(hs:∀i o,g.get i=some o->h.get i=some o)(hn:h.next<=g.next):bm ρ g w:=
 ⟨λi pl hp=>Nat.lt_of_lt_of_le (x.iw i pl hp) hn,λi o ho=>x.obj i o (hs i o ho),λi j o p pi pj au h1 h2 h3=>x.sep i j o p pi pj au (hs i o h1) h2 (hs j p h3)⟩
theorem Eu{ρ:ay}{h:aa}{w w':World}(hh:w'.heap=w.heap)(ho:w'.os=w.os)(hu:w'.output=w.output)(b:Nat):Fr b ρ h w ρ h w':=
 ⟨Ext.refl _,ho,hu,by rw[hh];exact Nat.le_refl _,λa _=>by simp[World.frozen?,hh],λ_ _ _=>by rw[hh],λi o pl h1 h2 h3=>.inl ⟨i,o,pl,h1,h2,h3,rfl⟩,λ_ _ h _=>h,λ_ h h'=>absurd h h',λ_ o h _=>⟨o,h⟩,Nat.le_refl _⟩
theorem bm.draw{ρ:ay}{h:aa}{w w':World}(x:bm ρ h w)(hh:w'.heap=w.heap):bm ρ h w':=
 ⟨x.iw,λi o ho=>let⟨pl,h1,h2⟩:=x.obj i o ho;⟨pl,h1,h2.mono (Ext.refl _) (by rw[hh])⟩,x.sep⟩
def ay.put(ρ:ay)(i:Nat)(pl:Pl):ay:=λj=>if j=i then some pl else ρ j
theorem ay.lx(ρ:ay)(i:Nat)(pl:Pl):ρ.put i pl i=some pl:=by simp[ay.put]
theorem ay.ke(ρ:ay){i j:Nat}(pl:Pl)(h:j≠i):ρ.put i pl j=ρ j:=by simp[ay.put,h]
theorem ay.sy{ρ:ay}{i:Nat}(pl:Pl)(h:ρ i=none):Ext ρ (ρ.put i pl):=λj p hj=>by
 have:j≠i:=λe=>by rw[e,h]at hj;cases hj
 rw[ay.ke _ _ this];exact hj
theorem bm.fresh{ρ:ay}{h:aa}{w:World}(x:bm ρ h w):ρ h.next=none:=by
 cases e:ρ h.next with
 |none=>rfl
 |some pl=>exact absurd (x.iw _ _ e) (Nat.lt_irrefl _)
def World.add(w:World)(o:Obj):World:={w with heap:=w.heap.push o}
theorem x8(w:World)(o:Obj):(World.add w o).heap[w.heap.size]? =some o:=by
 show(w.heap.push o)[w.heap.size]? =some o;rw[Array.getElem?_push,if_pos rfl]
theorem Au(w:World)(o:Obj){b:Nat}(hb:b<w.heap.size):(World.add w o).heap[b]? =w.heap[b]? :=by
 show(w.heap.push o)[b]? =_;rw[Array.getElem?_push,if_neg (Nat.ne_of_lt hb)]
theorem Ev(w:World)(o:Obj):(World.add w o).heap.size=w.heap.size+1:=by
 show(w.heap.push o).size=_;simp
def Obj.ly:Obj->Bool
 |.cells _ _ fz=>fz==(0,0)
 |_=>true
theorem Ma(w:World)(o:Obj)(ho:Obj.ly o=true)(a:Addr):(World.add w o).frozen? a=w.frozen? a:=by
 by_cases h:a.block<w.heap.size
 . simp only[World.frozen?,Au w o h]
 . have e2:w.heap[a.block]? =none:=by simp;omega
   by_cases h':a.block=w.heap.size
   . have e1:(World.add w o).heap[a.block]? =some o:=by rw[h'];exact x8 w o
     simp only[World.frozen?,e1,e2];cases o<;>simp_all[Obj.ly]
   . have e1:(World.add w o).heap[a.block]? =none:=by rw[Array.getElem?_eq_none_iff,Ev];omega
     simp only[World.frozen?,e1,e2]
structure Slot(b:Nat)(ρ:ay)(h:aa)(id:Nat)(ao:bK)(h':aa):Prop where
 free:ρ id=none
 ge:b<=id
 get:∀j,h'.get j=if j=id then some ao else h.get j
 next:h.next<=h'.next
 lt:id<h'.next
theorem bm.slot{ρ:ay}{h:aa}{w:World}(x:bm ρ h w)(ao:bK):Slot h.next ρ h h.next ao (h.new ao):=
 ⟨x.fresh,Nat.le_refl _,λj=>aa.dT _ _ _,Nat.le_succ _,Nat.lt_succ_self _⟩
theorem Av{b id:Nat}{ρ:ay}{h h':aa}{w:World}{ao:bK}{o:Obj}{pl:Pl}(x:bm ρ h w)(s:Slot b ρ h id ao h')(hu:Obj.ly o=true)(hb:pl.aW=w.heap.size)
 (hr:iM (ρ.put id pl) (World.add w o) pl ao) (hw:ao.wr=true):bm (ρ.put id pl) h' (World.add w o)/\Fr b ρ h w (ρ.put id pl) h' (World.add w o):=by
 have ad:Ext ρ (ρ.put id pl):=ay.sy pl s.free;refine⟨⟨?_, ?_, ?_⟩,⟨ad,rfl,rfl,by rw[Ev];omega,λa _=>Ma w o hu a,λb aV _=>Au w o aV, ?_, ?_, ?_, ?_,s.next⟩⟩
 . intro i p hp;by_cases e:i=id
   . rw[e];exact s.lt
   . rw[ay.ke _ _ e]at hp;exact Nat.lt_of_lt_of_le (x.iw i p hp) s.next
 . intro i o' aB;rw[s.get]at aB;by_cases e:i=id
   . rw[if_pos e]at aB;cases aB;subst e;exact⟨pl,ay.lx _ _ _,hr⟩
   . rw[if_neg e]at aB;obtain⟨pi,h1,h2⟩:=x.obj i o' aB;exact⟨pi,ad _ _ h1,h2.mono ad (Au w o h2.lt)⟩
 . intro i j o' p pi pj au h1 h2 h3 h4 h5;rw[s.get]at h1 h3;by_cases ei:i=id
   . by_cases ej:j=id
     . exact absurd (ei.trans ej.symm) au
     . rw[if_neg ej]at h3;rw[ei,ay.lx]at h4;cases h4;rw[ay.ke _ _ ej]at h5;obtain⟨bc,g1,g2⟩:=x.obj j p h3;rw[g1]at h5;cases h5;have:=g2.lt;omega
   . rw[if_neg ei]at h1;rw[ay.ke _ _ ei]at h4;obtain⟨bf,g1,g2⟩:=x.obj i o' h1;rw[g1]at h4;cases h4;by_cases ej:j=id
     . rw[ej,ay.lx]at h5;cases h5;have:=g2.lt;omega
     . rw[if_neg ej]at h3;rw[ay.ke _ _ ej]at h5;exact x.sep i j o' p pi pj au h1 h2 h3 g1 h5
 . intro i o' p h1 h2 h3;rw[s.get]at h1;by_cases e:i=id
   . rw[e,ay.lx]at h3;cases h3;exact .inr (Nat.le_of_eq hb.symm)
   . rw[if_neg e]at h1;rw[ay.ke _ _ e]at h3;exact .inl ⟨i,o',p,h1,h2,h3,rfl⟩
 . intro i o' h1 h2;rw[s.get]at h1;by_cases e:i=id
   . rw[if_pos e]at h1;cases h1;rw[hw]at h2;cases h2
   . rw[if_neg e]at h1;exact h1
 . intro i h1 h2;by_cases e:i=id
   . rw[e];exact s.ge
   . rw[ay.ke _ _ e]at h2;exact absurd h1 h2
 . intro i o' h1 h2;rw[s.get,if_neg (Nat.ne_of_lt (Nat.lt_of_lt_of_le h2 s.ge))]at h1;exact⟨o',h1⟩
def World.gD(w:World)(b:Nat)(o:Obj):World:={w with heap:=w.heap.setIfInBounds b o}
theorem pE(w:World)(b:Nat)(o:Obj)(hb:b<w.heap.size):(World.gD w b o).heap[b]? =some o:=by
 simp[World.gD,hb]
theorem wa(w:World){b c:Nat}(o:Obj)(h:c≠b):(World.gD w b o).heap[c]? =w.heap[c]? :=by
 simp[World.gD,Array.getElem?_setIfInBounds,Ne.symm h]
theorem Ew(w:World)(b:Nat)(o p:Obj)(hp:w.heap[b]? =some p)(h1:Obj.ly o=true)(h2:Obj.ly p=true)(a:Addr):
 (World.gD w b o).frozen? a=w.frozen? a:=by
 by_cases e:a.block=b
 . have hb:b<w.heap.size:=(Array.getElem?_eq_some_iff.1 hp).1;simp only[World.frozen?,e,pE w b o hb,hp];cases o<;>cases p<;>simp_all[Obj.ly]
 . simp only[World.frozen?,wa w o e]
theorem iM.ly{ρ:ay}{w:World}{pl:Pl}{o:bK}(h:iM ρ w pl o)(hw:o.wr=true):∃p,w.heap[pl.aW]? =some p/\Obj.ly p=true:=by
 cases o with
 |row cs wr ah=>
  obtain⟨c,el,fz,h1,h2,_⟩:=h;exact⟨_,h1,by simp[Obj.ly,h2 hw]⟩
 |map es clock=>obtain⟨_,aD,h1,_⟩:=h;exact⟨_,h1,rfl⟩
 |cD m since seen last=>obtain⟨_,m',h1,_⟩:=h;exact⟨_,h1,rfl⟩
 |e8 s pos=>exact⟨_,h.2,rfl⟩
 |loop st an t n params bT body fT=>obtain⟨_,fn,tmps,aE,_,_,h3⟩:=h;exact⟨_,h3,rfl⟩
 |fT e=>exact⟨_,h.2,rfl⟩
theorem sA{b:Nat}{ρ:ay}{h:aa}{w:World}{i:Nat}{ao ao':bK}{o:Obj}{pl:Pl}(x:bm ρ h w)(hi:h.get i=some ao)(hw:ao.wr=true)(hp:ρ i=some pl)
 (hu:Obj.ly o=true) (hr:iM ρ (World.gD w pl.aW o) pl ao') (aI:ao'.wr=true):
 bm ρ (h.set i (some ao')) (World.gD w pl.aW o)/\Fr b ρ h w ρ (h.set i (some ao')) (World.gD w pl.aW o):=by
 obtain⟨pl',e1,e2⟩:=x.obj i ao hi;rw[hp]at e1;cases e1;obtain⟨p,aJ,aL⟩:=e2.ly hw;refine⟨⟨x.iw, ?_, ?_⟩,⟨Ext.refl _,rfl,rfl,by simp[World.gD],λa _=>Ew w _ o p aJ hu aL a, ?_, ?_, ?_,λ_ h h'=>absurd h h', ?_,Nat.le_refl _⟩⟩
 . intro j q hj;rw[aa.bw]at hj;by_cases e:j=i
   . rw[if_pos e]at hj;cases hj;subst e;exact⟨pl,hp,hr⟩
   . rw[if_neg e]at hj;obtain⟨pj,g1,g2⟩:=x.obj j q hj;exact⟨pj,g1,g2.mono (Ext.refl _) (wa w o (Ne.symm (x.sep i j ao q pl pj (Ne.symm e) hi hw hj hp g1)))⟩
 . intro j k q r pj pk aC h1 h2 h3 h4 h5;rw[aa.bw]at h1 h3;by_cases ej:j=i
   . by_cases ek:k=i
     . exact absurd (ej.trans ek.symm) aC
     . rw[if_neg ek]at h3;subst ej;exact x.sep _ _ ao r pj pk aC hi hw h3 h4 h5
   . rw[if_neg ej]at h1;by_cases ek:k=i
     . subst ek;exact x.sep _ _ q ao pj pk aC h1 h2 hi h4 h5
     . rw[if_neg ek]at h3;exact x.sep j k q r pj pk aC h1 h2 h3 h4 h5
 . intro b _ hh;refine wa w o λe=>hh ⟨i,ao,pl,hi,hw,hp,e.symm⟩
 . intro j q pj h1 h2 h3;rw[aa.bw]at h1;by_cases e:j=i
   . subst e;rw[hp]at h3;cases h3;exact .inl ⟨_,ao,pl,hi,hw,hp,rfl⟩
   . rw[if_neg e]at h1;exact .inl ⟨j,q,pj,h1,h2,h3,rfl⟩
 . intro j q h1 h2;rw[aa.bw]at h1;by_cases e:j=i
   . rw[if_pos e]at h1;cases h1;rw[aI]at h2;cases h2
   . rw[if_neg e]at h1;exact h1
 . intro j q h1 _;rw[aa.bw]at h1;by_cases e:j=i
   . subst e;exact⟨ao,hi⟩
   . rw[if_neg e]at h1;exact⟨q,h1⟩
theorem Mb{ρ:ay}{h:aa}{w:World}{i:Nat}{ao ao':bK}{o:Obj}{pl pl':Pl}(x:bm ρ h w)(hi:h.get i=some ao)(hw:ao.wr=true)(hp:ρ i=some pl)
 (hu:Obj.ly o=true) (hb:pl'.aW=pl.aW) (hr:iM (ρ.put h.next pl') (World.gD w pl.aW o) pl' ao') (aI:ao'.wr=true):
 bm (ρ.put h.next pl') ((h.set i none).new ao') (World.gD w pl.aW o)/\Fr h.next ρ h w (ρ.put h.next pl') ((h.set i none).new ao') (World.gD w pl.aW o):=by
 obtain⟨bg,e1,e2⟩:=x.obj i ao hi;rw[hp]at e1;cases e1;obtain⟨p,aJ,aL⟩:=e2.ly hw;have ad:Ext ρ (ρ.put h.next pl'):=ay.sy pl' x.fresh;have ai:∀j,((h.set i none).new ao').get j=if j=h.next then some ao' else if j=i then none else h.get j:=λj=>by rw[aa.dT,aa.bw];rfl
 have hold:∀j o',h.get j=some o'->j≠h.next:=λj o' aB e=>by
  obtain⟨pi,h1,_⟩:=x.obj j o' aB;rw[e,x.fresh]at h1;cases h1
 refine⟨⟨?_, ?_, ?_⟩,⟨ad,rfl,rfl,by simp[World.gD],λa _=>Ew w _ o p aJ hu aL a, ?_, ?_, ?_, ?_, ?_,Nat.le_succ _⟩⟩
 . intro j q hj;by_cases e:j=h.next
   . rw[e];exact Nat.lt_succ_self _
   . rw[ay.ke _ _ e]at hj;exact Nat.lt_succ_of_lt (x.iw j q hj)
 . intro j q hj;rw[ai]at hj;by_cases e:j=h.next
   . rw[if_pos e]at hj;cases hj;subst e;exact⟨pl',ay.lx _ _ _,hr⟩
   . rw[if_neg e]at hj;by_cases e':j=i
     . rw[if_pos e']at hj;cases hj
     . rw[if_neg e']at hj;obtain⟨pj,g1,g2⟩:=x.obj j q hj;exact⟨pj,ad _ _ g1,g2.mono ad (wa w o (Ne.symm (x.sep i j ao q pl pj (Ne.symm e') hi hw hj hp g1)))⟩
 . intro j k q r pj pk aC h1 h2 h3 h4 h5;rw[ai]at h1 h3;by_cases ej:j=h.next
   . by_cases ek:k=h.next
     . exact absurd (ej.trans ek.symm) aC
     . rw[if_neg ek]at h3;by_cases aF:k=i
       . rw[if_pos aF]at h3;cases h3
       . rw[if_neg aF]at h3;rw[ej,ay.lx]at h4;cases h4;rw[ay.ke _ _ ek]at h5;rw[hb];exact x.sep i k ao r pl pk (Ne.symm aF) hi hw h3 hp h5
   . rw[if_neg ej]at h1;by_cases aN:j=i
     . rw[if_pos aN]at h1;cases h1
     . rw[if_neg aN]at h1;rw[ay.ke _ _ ej]at h4;by_cases ek:k=h.next
       . rw[ek,ay.lx]at h5;cases h5;rw[hb];exact x.sep j i q ao pj pl aN h1 h2 hi h4 hp
       . rw[if_neg ek]at h3;by_cases aF:k=i
         . rw[if_pos aF]at h3;cases h3
         . rw[if_neg aF]at h3;rw[ay.ke _ _ ek]at h5;exact x.sep j k q r pj pk aC h1 h2 h3 h4 h5
 . intro b _ hh;exact wa w o λe=>hh ⟨i,ao,pl,hi,hw,hp,e.symm⟩
 . intro j q pj h1 h2 h3;rw[ai]at h1;by_cases e:j=h.next
   . rw[e,ay.lx]at h3;cases h3;exact .inl ⟨i,ao,pl,hi,hw,hp,hb.symm⟩
   . rw[if_neg e]at h1;by_cases e':j=i
     . rw[if_pos e']at h1;cases h1
     . rw[if_neg e']at h1;rw[ay.ke _ _ e]at h3;exact .inl ⟨j,q,pj,h1,h2,h3,rfl⟩
 . intro j q h1 h2;rw[ai]at h1;by_cases e:j=h.next
   . rw[if_pos e]at h1;cases h1;rw[aI]at h2;cases h2
   . rw[if_neg e]at h1;by_cases e':j=i
     . rw[if_pos e']at h1;cases h1
     . rw[if_neg e']at h1;exact h1
 . intro j h1 h2;by_cases e:j=h.next
   . exact Nat.le_of_eq e.symm
   . rw[ay.ke _ _ e]at h2;exact absurd h1 h2
 . intro j q h1 h2;rw[ai,if_neg (Nat.ne_of_lt h2)]at h1;by_cases e':j=i
   . subst e';exact⟨ao,hi⟩
   . rw[if_neg e']at h1;exact⟨q,h1⟩
theorem bm.kill{ρ:ay}{h:aa}{w:World}(x:bm ρ h w)(i b:Nat):bm ρ (h.set i none) w/\Fr b ρ h w ρ (h.set i none) w:=by
 have hs:∀j o,(h.set i none).get j=some o->h.get j=some o:=λj o hj=>by
  rw[aa.bw]at hj;by_cases e:j=i
  . rw[if_pos e]at hj;cases hj
  . rw[if_neg e]at hj;exact hj
 exact⟨x.sub hs (Nat.le_refl _),⟨Ext.refl _,rfl,rfl,Nat.le_refl _,λ_ _=>rfl,λ_ _ _=>rfl,λj o pl h1 h2 h3=>.inl ⟨j,o,pl,hs j o h1,h2,h3,rfl⟩,
  λj o h1 _=>hs j o h1,λ_ h h'=>absurd h h',λj o h1 _=>⟨o,hs j o h1⟩,Nat.le_refl _⟩⟩
theorem bm.extend{b:Nat}{ρ ab:ay}{u g g' u':aa}{w w':World}(x:bm ρ u w)(hs:∀i o,g.get i=some o->u.get i=some o)(y:bm ab g' w')(f:Fr b ρ g w ab g' w')
 (hu:∀i o,u'.get i=some o->g'.get i=some o\/(u.get i=some o/\g.get i=none)) (hn:u.next<=u'.next) (aY:g'.next<=u'.next):bm ab u' w'/\Fr b ρ u w ab u' w':=by
 have host:∀{k},Host ρ g k->Host ρ u k:=λ⟨i,o,pl,h1,h2,h3,h4⟩=>⟨i,o,pl,hs i o h1,h2,h3,h4⟩;have aside:∀{i o pl},u.get i=some o->g.get i=none->ρ i=some pl->¬Host ρ g pl.aW:=λ{i o pl} h1 h2 h3 ⟨j,p,pj,g1,g2,g3,g4⟩=>by
  have au:j≠i:=λe=>by rw[e,h2]at g1;cases g1
  exact x.sep j i p o pj pl au (hs j p g1) g2 h1 g3 h3 g4
 have key:∀{i o pl j p pj},u.get i=some o->g.get i=none->ρ i=some pl->g'.get j=some p->p.wr=true->ab j=some pj->pj.aW≠pl.aW:=λ{i o pl j p pj} h1 h2 h3 h4 h5 h6 e=>by
  rcases f.new j p pj h4 h5 h6 with h7|h7
  . rw[e]at h7;exact aside h1 h2 h3 h7
  . obtain⟨pl',q1,q2⟩:=x.obj i o h1;rw[h3]at q1;cases q1;have:=q2.lt;omega
 refine⟨⟨λi pl h=>Nat.lt_of_lt_of_le (y.iw i pl h) aY,λi o h=> ?_,λi j o p pi pj au h1 h2 h3 h4 h5=> ?_⟩,
  ⟨f.ext,f.os,f.output,f.size,f.frozen,λk hk hh=>f.kept k hk λh=>hh (host h),λi o pl h1 h2 h3=> ?_,λi o h1 h2=> ?_,f.ids,λi o h1 h2=> ?_,hn⟩⟩
 . rcases hu i o h with h|⟨h1,h2⟩
   . exact y.obj i o h
   . obtain⟨pl,q1,q2⟩:=x.obj i o h1;exact⟨pl,f.ext _ _ q1,q2.mono f.ext (f.kept _ q2.lt (aside h1 h2 q1))⟩
 . rcases hu i o h1 with a1|⟨a1,a2⟩
   . rcases hu j p h3 with b1|⟨b1,b2⟩
     . exact y.sep i j o p pi pj au a1 h2 b1 h4 h5
     . obtain⟨pl,q1,q2⟩:=x.obj j p b1;rw[f.ext _ _ q1]at h5;cases h5;exact key b1 b2 q1 a1 h2 h4
   . obtain⟨pl,q1,q2⟩:=x.obj i o a1;rw[f.ext _ _ q1]at h4;cases h4;rcases hu j p h3 with b1|⟨b1,b2⟩
     . cases hw:p.wr with
       |true=>exact Ne.symm (key a1 a2 q1 b1 hw h5)
       |false=>
        have hg:=f.ro j p b1 hw;obtain⟨pl',r1,r2⟩:=x.obj j p (hs j p hg);rw[f.ext _ _ r1]at h5;cases h5;exact x.sep i j o p _ _ au a1 h2 (hs j p hg) q1 r1
     . obtain⟨pl',r1,r2⟩:=x.obj j p b1;rw[f.ext _ _ r1]at h5;cases h5;exact x.sep i j o p _ _ au a1 h2 b1 q1 r1
 . rcases hu i o h1 with a1|⟨a1,a2⟩
   . exact(f.new i o pl a1 h2 h3).imp host id
   . obtain⟨pl',q1,q2⟩:=x.obj i o a1;rw[f.ext _ _ q1]at h3;cases h3;exact .inl ⟨i,o,_,a1,h2,q1,rfl⟩
 . rcases hu i o h1 with a1|⟨a1,a2⟩
   . exact hs _ _ (f.ro i o a1 h2)
   . exact a1
 . rcases hu i o h1 with a1|⟨a1,a2⟩
   . obtain⟨p,hp⟩:=f.ba i o a1 h2;exact⟨p,hs _ _ hp⟩
   . exact⟨o,a1⟩
end Go.aw
end

/- SpacingIndependent: parts of its proof. -/
import Derived.Laws.Sem
import Derived.Laws.Cells
import Derived.Laws.CopyRow
import Derived.Test.YtmhjnafgdhaemaaGreatDoorK01
open Nat renaming le_refl->qe,lt_of_lt_of_le->xS,div->Er,le_trans->GP,ne_of_lt->PO,lt_succ_self->W2
open Ne renaming symm->DE
open List renaming all_eq_true->PX
open Array renaming getElem?_eq_getElem->Qc,getElem?_eq_some_iff->TF,getElem?_push->VK
set_option linter.all false
set_option maxRecDepth 100000
noncomputable section
namespace Go.au
theorem wj{α:Type}:∀p:List D4,sf p (Od.nil:Od α)=none
 |[]=>rfl
 |_::_=>rfl
theorem C2{α:Type}(x:Option α):∀(p:List D4) (t:Od α),sf p (wg p x t)=x
 |[],t=>by cases t<;>rfl
 |y::p,t=>by
  cases t<;>cases y<;>exact C2 x p _
theorem yR{α:Type}(x:Option α):∀(p q:List D4) (t:Od α),q≠p->sf q (wg p x t)=sf q t
 |[],[],_,h=>absurd rfl h
 |[],z::q,t,_=>by cases t<;>cases z<;>first|rfl|exact wj q
 |y::p,[],t,_=>by cases t<;>cases y<;>rfl
 |y::p,z::q,t,h=>by
  have h':y=z->q≠p:=λe1 e2=>h (by rw[e1,e2]);cases t with
  |nil=>cases y<;>cases z<;>first|exact wj q|exact(yR x p q .nil (h' rfl)).trans (wj q)
  |node v a b c d=>cases y<;>cases z<;>first|rfl|exact yR x p q _ (h' rfl)
theorem Kj{i j:Nat}(h:digit i=digit j):i%4=j%4:=by
 have e:∀k,k<4->(k=0\/k=1\/k=2\/k=3):=λk hk=>by omega
 have hd:∀k m,k%4=m->digit k=Nat.rec (motive:=λ_=>D4) .a (λk _=>Nat.rec (motive:=λ_=>D4) .b (λk _=>Nat.rec (motive:=λ_=>D4) .c (λ_ _=>.d) k) k) m:=λk m hm=>by
  unfold digit;rw[show Nat.mod k 4=m from hm]
 rcases e (i%4) (by omega)with h1|h1|h1|h1<;>rcases e (j%4) (by omega)with h2|h2|h2|h2<;>first|omega|(rw[hd i _ h1,hd j _ h2]at h;cases h)
theorem C3:∀(n m i j:Nat),i<=n->j<=m->se n i=se m j->i=j
 |0,0,i,j,h1,h2,_=>by omega
 |0,m+1,i,j,h1,h2,h=>by
  obtain rfl:i=0:=by omega
  cases j with
  |zero=>rfl
  |succ j=>cases h
 |n+1,0,i,j,h1,h2,h=>by
  obtain rfl:j=0:=by omega
  cases i with
  |zero=>rfl
  |succ i=>cases h
 |n+1,m+1,i,j,h1,h2,h=>by
  cases i with
  |zero=>
   cases j with
   |zero=>rfl
   |succ j=>cases h
  |succ i=>
   cases j with
   |zero=>cases h
   |succ j=>
    have h:digit i::se n (Er i 4)=digit j::se m (Er j 4):=h;injection h with h3 h4
    have q1:=Kj h3;have q2:=C3 n m (Er i 4) (Er j 4) (by show i/4<=n;omega) (by show j/4<=m;omega) h4;have q2:i/4=j/4:=q2;omega
theorem C4(i:Nat):path i=se i i:=by cases i<;>rfl
theorem Kk{i j:Nat}(h:path i=path j):i=j:=by
 rw[C4,C4]at h;exact C3 i j i j (qe _) (qe _) h
theorem yS{α:Type}(t:Tr α)(i:Nat):t.get i=(nZ i).run t:=by cases i<;>rfl
theorem Kl{α:Type}(t:Tr α)(i:Nat)(x:Option α):t.set i x=(n7 i).run x t:=by cases i<;>rfl
theorem sq{α:Type}(x:α)(d:Nat):(bN d).run (aZ.all x)=x:=by
 match d with
 |0=>rfl
 |1=>rfl
 |2=>rfl
 |3=>rfl
 |4=>rfl
 |5=>rfl
 |6=>rfl
 |7=>rfl
 |8=>rfl
 |9=>rfl
 |10=>rfl
 |11=>rfl
 |12=>rfl
 |13=>rfl
 |14=>rfl
 |_+15=>rfl
theorem Km{α:Type}(x:α)(v:aZ α)(d:Nat)(h:d<16):(bN d).run ((eB 0).run x v)=if d=0 then x else(bN d).run v:=by
 match d,h with
 |0,_=>rfl
 |1,_=>rfl
 |2,_=>rfl
 |3,_=>rfl
 |4,_=>rfl
 |5,_=>rfl
 |6,_=>rfl
 |7,_=>rfl
 |8,_=>rfl
 |9,_=>rfl
 |10,_=>rfl
 |11,_=>rfl
 |12,_=>rfl
 |13,_=>rfl
 |14,_=>rfl
 |15,_=>rfl
 |n+16,h=>omega
theorem Ko{α:Type}(x:α)(v:aZ α)(d:Nat)(h:d<16):(bN d).run ((eB 1).run x v)=if d=1 then x else(bN d).run v:=by
 match d,h with
 |0,_=>rfl
 |1,_=>rfl
 |2,_=>rfl
 |3,_=>rfl
 |4,_=>rfl
 |5,_=>rfl
 |6,_=>rfl
 |7,_=>rfl
 |8,_=>rfl
 |9,_=>rfl
 |10,_=>rfl
 |11,_=>rfl
 |12,_=>rfl
 |13,_=>rfl
 |14,_=>rfl
 |15,_=>rfl
 |n+16,h=>omega
theorem Kq{α:Type}(x:α)(v:aZ α)(d:Nat)(h:d<16):(bN d).run ((eB 2).run x v)=if d=2 then x else(bN d).run v:=by
 match d,h with
 |0,_=>rfl
 |1,_=>rfl
 |2,_=>rfl
 |3,_=>rfl
 |4,_=>rfl
 |5,_=>rfl
 |6,_=>rfl
 |7,_=>rfl
 |8,_=>rfl
 |9,_=>rfl
 |10,_=>rfl
 |11,_=>rfl
 |12,_=>rfl
 |13,_=>rfl
 |14,_=>rfl
 |15,_=>rfl
 |n+16,h=>omega
theorem Kr{α:Type}(x:α)(v:aZ α)(d:Nat)(h:d<16):(bN d).run ((eB 3).run x v)=if d=3 then x else(bN d).run v:=by
 match d,h with
 |0,_=>rfl
 |1,_=>rfl
 |2,_=>rfl
 |3,_=>rfl
 |4,_=>rfl
 |5,_=>rfl
 |6,_=>rfl
 |7,_=>rfl
 |8,_=>rfl
 |9,_=>rfl
 |10,_=>rfl
 |11,_=>rfl
 |12,_=>rfl
 |13,_=>rfl
 |14,_=>rfl
 |15,_=>rfl
 |n+16,h=>omega
theorem Ks{α:Type}(x:α)(v:aZ α)(d:Nat)(h:d<16):(bN d).run ((eB 4).run x v)=if d=4 then x else(bN d).run v:=by
 match d,h with
 |0,_=>rfl
 |1,_=>rfl
 |2,_=>rfl
 |3,_=>rfl
 |4,_=>rfl
 |5,_=>rfl
 |6,_=>rfl
 |7,_=>rfl
 |8,_=>rfl
 |9,_=>rfl
 |10,_=>rfl
 |11,_=>rfl
 |12,_=>rfl
 |13,_=>rfl
 |14,_=>rfl
 |15,_=>rfl
 |n+16,h=>omega
theorem Ku{α:Type}(x:α)(v:aZ α)(d:Nat)(h:d<16):(bN d).run ((eB 5).run x v)=if d=5 then x else(bN d).run v:=by
 match d,h with
 |0,_=>rfl
 |1,_=>rfl
 |2,_=>rfl
 |3,_=>rfl
 |4,_=>rfl
 |5,_=>rfl
 |6,_=>rfl
 |7,_=>rfl
 |8,_=>rfl
 |9,_=>rfl
 |10,_=>rfl
 |11,_=>rfl
 |12,_=>rfl
 |13,_=>rfl
 |14,_=>rfl
 |15,_=>rfl
 |n+16,h=>omega
theorem Kv{α:Type}(x:α)(v:aZ α)(d:Nat)(h:d<16):(bN d).run ((eB 6).run x v)=if d=6 then x else(bN d).run v:=by
 match d,h with
 |0,_=>rfl
 |1,_=>rfl
 |2,_=>rfl
 |3,_=>rfl
 |4,_=>rfl
 |5,_=>rfl
 |6,_=>rfl
 |7,_=>rfl
 |8,_=>rfl
 |9,_=>rfl
 |10,_=>rfl
 |11,_=>rfl
 |12,_=>rfl
 |13,_=>rfl
 |14,_=>rfl
 |15,_=>rfl
 |n+16,h=>omega
theorem Kw{α:Type}(x:α)(v:aZ α)(d:Nat)(h:d<16):(bN d).run ((eB 7).run x v)=if d=7 then x else(bN d).run v:=by
 match d,h with
 |0,_=>rfl
 |1,_=>rfl
 |2,_=>rfl
 |3,_=>rfl
 |4,_=>rfl
 |5,_=>rfl
 |6,_=>rfl
 |7,_=>rfl
 |8,_=>rfl
 |9,_=>rfl
 |10,_=>rfl
 |11,_=>rfl
 |12,_=>rfl
 |13,_=>rfl
 |14,_=>rfl
 |15,_=>rfl
 |n+16,h=>omega
theorem Kx{α:Type}(x:α)(v:aZ α)(d:Nat)(h:d<16):(bN d).run ((eB 8).run x v)=if d=8 then x else(bN d).run v:=by
 match d,h with
 |0,_=>rfl
 |1,_=>rfl
 |2,_=>rfl
 |3,_=>rfl
 |4,_=>rfl
 |5,_=>rfl
 |6,_=>rfl
 |7,_=>rfl
 |8,_=>rfl
 |9,_=>rfl
 |10,_=>rfl
 |11,_=>rfl
 |12,_=>rfl
 |13,_=>rfl
 |14,_=>rfl
 |15,_=>rfl
 |n+16,h=>omega
theorem Ky{α:Type}(x:α)(v:aZ α)(d:Nat)(h:d<16):(bN d).run ((eB 9).run x v)=if d=9 then x else(bN d).run v:=by
 match d,h with
 |0,_=>rfl
 |1,_=>rfl
 |2,_=>rfl
 |3,_=>rfl
 |4,_=>rfl
 |5,_=>rfl
 |6,_=>rfl
 |7,_=>rfl
 |8,_=>rfl
 |9,_=>rfl
 |10,_=>rfl
 |11,_=>rfl
 |12,_=>rfl
 |13,_=>rfl
 |14,_=>rfl
 |15,_=>rfl
 |n+16,h=>omega
theorem Kz{α:Type}(x:α)(v:aZ α)(d:Nat)(h:d<16):(bN d).run ((eB 10).run x v)=if d=10 then x else(bN d).run v:=by
 match d,h with
 |0,_=>rfl
 |1,_=>rfl
 |2,_=>rfl
 |3,_=>rfl
 |4,_=>rfl
 |5,_=>rfl
 |6,_=>rfl
 |7,_=>rfl
 |8,_=>rfl
 |9,_=>rfl
 |10,_=>rfl
 |11,_=>rfl
 |12,_=>rfl
 |13,_=>rfl
 |14,_=>rfl
 |15,_=>rfl
 |n+16,h=>omega
theorem KB{α:Type}(x:α)(v:aZ α)(d:Nat)(h:d<16):(bN d).run ((eB 11).run x v)=if d=11 then x else(bN d).run v:=by
 match d,h with
 |0,_=>rfl
 |1,_=>rfl
 |2,_=>rfl
 |3,_=>rfl
 |4,_=>rfl
 |5,_=>rfl
 |6,_=>rfl
 |7,_=>rfl
 |8,_=>rfl
 |9,_=>rfl
 |10,_=>rfl
 |11,_=>rfl
 |12,_=>rfl
 |13,_=>rfl
 |14,_=>rfl
 |15,_=>rfl
 |n+16,h=>omega
theorem KE{α:Type}(x:α)(v:aZ α)(d:Nat)(h:d<16):(bN d).run ((eB 12).run x v)=if d=12 then x else(bN d).run v:=by
 match d,h with
 |0,_=>rfl
 |1,_=>rfl
 |2,_=>rfl
 |3,_=>rfl
 |4,_=>rfl
 |5,_=>rfl
 |6,_=>rfl
 |7,_=>rfl
 |8,_=>rfl
 |9,_=>rfl
 |10,_=>rfl
 |11,_=>rfl
 |12,_=>rfl
 |13,_=>rfl
 |14,_=>rfl
 |15,_=>rfl
 |n+16,h=>omega
theorem KF{α:Type}(x:α)(v:aZ α)(d:Nat)(h:d<16):(bN d).run ((eB 13).run x v)=if d=13 then x else(bN d).run v:=by
 match d,h with
 |0,_=>rfl
 |1,_=>rfl
 |2,_=>rfl
 |3,_=>rfl
 |4,_=>rfl
 |5,_=>rfl
 |6,_=>rfl
 |7,_=>rfl
 |8,_=>rfl
 |9,_=>rfl
 |10,_=>rfl
 |11,_=>rfl
 |12,_=>rfl
 |13,_=>rfl
 |14,_=>rfl
 |15,_=>rfl
 |n+16,h=>omega
theorem KG{α:Type}(x:α)(v:aZ α)(d:Nat)(h:d<16):(bN d).run ((eB 14).run x v)=if d=14 then x else(bN d).run v:=by
 match d,h with
 |0,_=>rfl
 |1,_=>rfl
 |2,_=>rfl
 |3,_=>rfl
 |4,_=>rfl
 |5,_=>rfl
 |6,_=>rfl
 |7,_=>rfl
 |8,_=>rfl
 |9,_=>rfl
 |10,_=>rfl
 |11,_=>rfl
 |12,_=>rfl
 |13,_=>rfl
 |14,_=>rfl
 |15,_=>rfl
 |n+16,h=>omega
theorem KJ{α:Type}(x:α)(v:aZ α)(d:Nat)(h:d<16):(bN d).run ((eB 15).run x v)=if d=15 then x else(bN d).run v:=by
 match d,h with
 |0,_=>rfl
 |1,_=>rfl
 |2,_=>rfl
 |3,_=>rfl
 |4,_=>rfl
 |5,_=>rfl
 |6,_=>rfl
 |7,_=>rfl
 |8,_=>rfl
 |9,_=>rfl
 |10,_=>rfl
 |11,_=>rfl
 |12,_=>rfl
 |13,_=>rfl
 |14,_=>rfl
 |15,_=>rfl
 |n+16,h=>omega
theorem sr{α:Type}(x:α)(v:aZ α)(d e:Nat)(h:d<16)(h':e<16):(bN d).run ((eB e).run x v)=if d=e then x else(bN d).run v:=by
 match e,h' with
 |0,_=>exact Km x v d h
 |1,_=>exact Ko x v d h
 |2,_=>exact Kq x v d h
 |3,_=>exact Kr x v d h
 |4,_=>exact Ks x v d h
 |5,_=>exact Ku x v d h
 |6,_=>exact Kv x v d h
 |7,_=>exact Kw x v d h
 |8,_=>exact Kx x v d h
 |9,_=>exact Ky x v d h
 |10,_=>exact Kz x v d h
 |11,_=>exact KB x v d h
 |12,_=>exact KE x v d h
 |13,_=>exact KF x v d h
 |14,_=>exact KG x v d h
 |15,_=>exact KJ x v d h
 |n+16,h=>omega
theorem wk{i n:Nat}(h:i<n):Nat.blt i n=true:=Nat.blt_eq.mpr h
theorem su{i n:Nat}(h:¬i<n):Nat.blt i n=false:=by rw[Bool.eq_false_iff];exactλe=>h (Nat.blt_eq.mp e)
theorem qG{α:Type}{i:Nat}(h:i<256)(t:Tr α):(nZ i).run t=(bN (i%16)).run ((bN (i/16)).run t.small):=by
 unfold nZ;rw[wk h];rfl
theorem qH{α:Type}{i:Nat}(h:¬i<256)(h2:i<65536)(t:Tr α):(nZ i).run t=(bN (i%16)).run ((bN (i/16%16)).run ((bN (i/256%16)).run ((bN (i/4096)).run t.qy))):=by
 unfold nZ;rw[su h,wk h2];rfl
theorem qI{α:Type}{i:Nat}(h:¬i<65536)(t:Tr α):(nZ i).run t=sf (path i) t.over:=by
 unfold nZ;rw[su (show¬i<256 by omega),su h]
theorem KK{α:Type}{i:Nat}(h:i<256)(x:Option α)(t:Tr α):(n7 i).run x t={t with small:=(eB (i/16)).run ((eB (i%16)).run x ((bN (i/16)).run t.small)) t.small}:=by
 unfold n7;rw[wk h];rfl
theorem KL{α : Type}{i : Nat}(h : ¬ i < 256)(h2 : i < 65536)(x : Option α)(t : Tr α) : (n7 i).run x t = { t with qy := (eB (i / 4096)).run ((eB (i / 256 % 16)).run ((eB (i / 16 % 16)).run ((eB (i % 16)).run x
 ((bN (i/16%16)).run ((bN (i/256%16)).run ((bN (i/4096)).run t.qy)))) ((bN (i/256%16)).run ((bN (i/4096)).run t.qy))) ((bN (i/4096)).run t.qy)) t.qy}:=by
 unfold n7;rw[su h,wk h2];rfl
theorem KM{α:Type}{i:Nat}(h:¬i<65536)(x:Option α)(t:Tr α):(n7 i).run x t={t with over:=wg (path i) x t.over}:=by
 unfold n7;rw[su (show¬i<256 by omega),su h]
theorem Tr.get_nil{α:Type}(i:Nat):(Tr.nil:Tr α).get i=none:=by
 rw[yS];by_cases h:i<256
 . rw[qG h];show(bN (i%16)).run ((bN (i/16)).run (aZ.all (aZ.all none)))=none;rw[sq,sq]
 . by_cases h2:i<65536
   . rw[qH h h2];show(bN (i%16)).run ((bN (i/16%16)).run ((bN (i/256%16)).run ((bN (i/4096)).run (aZ.all (aZ.all (aZ.all (aZ.all none)))))))=none;rw[sq,sq,sq,sq]
   . rw[qI h2];exact wj _
theorem Tr.bn{α:Type}(t:Tr α)(i j:Nat)(x:Option α):(t.set i x).get j=if j=i then x else t.get j:=by
 rw[Kl,yS,yS];by_cases hi:i<256
 . rw[KK hi];by_cases hj:j<256
   . rw[qG hj,qG hj];simp only;rw[sr _ _ _ _ (by omega) (by omega)];by_cases e:j/16=i/16
     . rw[if_pos e,sr _ _ _ _ (by omega) (by omega),e];by_cases e2:j%16=i%16
       . rw[if_pos e2,if_pos (by omega)]
       . rw[if_neg e2,if_neg (λe3=>e2 (by rw[e3]))]
     . rw[if_neg e,if_neg (λe3=>e (by rw[e3]))]
   . rw[if_neg (by omega)];by_cases ae:j<65536
     . rw[qH hj ae,qH hj ae]
     . rw[qI ae,qI ae]
 . by_cases dE:i<65536
   . rw[KL hi dE];by_cases hj:j<256
     . rw[if_neg (by omega),qG hj,qG hj]
     . by_cases ae:j<65536
       . rw[qH hj ae,qH hj ae];simp only;rw[sr _ _ _ _ (by omega) (by omega)];by_cases e:j/4096=i/4096
         . rw[if_pos e,e,sr _ _ _ _ (by omega) (by omega)];by_cases e2:j/256%16=i/256%16
           . rw[if_pos e2,e2,sr _ _ _ _ (by omega) (by omega)];by_cases e3:j/16%16=i/16%16
             . rw[if_pos e3,e3,sr _ _ _ _ (by omega) (by omega)];by_cases e4:j%16=i%16
               . rw[if_pos e4,if_pos (by omega)]
               . rw[if_neg e4,if_neg (λq=>e4 (by rw[q]))]
             . rw[if_neg e3,if_neg (λq=>e3 (by rw[q]))]
           . rw[if_neg e2,if_neg (λq=>e2 (by rw[q]))]
         . rw[if_neg e,if_neg (λq=>e (by rw[q]))]
       . rw[if_neg (by omega),qI ae,qI ae]
   . rw[KM dE];by_cases hj:j<256
     . rw[if_neg (by omega),qG hj,qG hj]
     . by_cases ae:j<65536
       . rw[if_neg (by omega),qH hj ae,qH hj ae]
       . rw[qI ae,qI ae];simp only;by_cases h:j=i
         . subst h;rw[if_pos rfl];exact C2 x _ _
         . rw[if_neg h];exact yR x _ _ _ (λe=>h (Kk e))
theorem aa.bn(h:aa)(i j:Nat)(o:Option bF):(h.set i o).get j=if j=i then o else h.get j:=Tr.bn _ _ _ _
theorem aa.di(h:aa)(j:Nat)(o:bF):(h.new o).get j=if j=h.next then some o else h.get j:=Tr.bn _ _ _ _
theorem aa.aR(h:aa)(i:Nat)(o:Option bF):(h.set i o).next=h.next:=rfl
theorem aa.aX(h:aa)(o:bF):(h.new o).next=h.next+1:=rfl
inductive aO{α β:Type}(R:α->β->Prop):List α->List β->Prop
 |nil:aO R [] []
 |cons {a b x y}:R a b->aO R x y->aO R (a::x) (b::y)
theorem aO.length{α β:Type}{R:α->β->Prop}{x:List α}{y:List β}(h:aO R x y):x.length=y.length:=by
 induction h with
 |nil=>rfl
 |cons _ _ ih=>simp[ih]
theorem aO.mono{α β:Type}{R S:α->β->Prop}{x:List α}{y:List β}(h:aO R x y)(hr:∀a b,R a b->S a b):aO S x y:=by
 induction h with
 |nil=>exact .nil
 |cons h _ ih=>exact .cons (hr _ _ h) ih
theorem aO.append{α β:Type}{R:α->β->Prop}{x x':List α}{y y':List β}(h:aO R x y)(h':aO R x' y'):aO R (x++x') (y++y'):=by
 induction h with
 |nil=>exact h'
 |cons h _ ih=>exact .cons h ih
theorem aO.get{α β:Type}{R:α->β->Prop}{x:List α}{y:List β}(h:aO R x y):∀(i:Nat) (a:α),x[i]? =some a->∃b,y[i]? =some b/\R a b:=by
 induction h with
 |nil=>intro i a h;simp at h
 |cons h _ ih=>
  intro i a hi;cases i with
  |zero=>simp at hi;subst hi;exact⟨_,rfl,h⟩
  |succ i=>simpa using ih i a (by simpa using hi)
theorem aO.qJ{α β:Type}{R:α->β->Prop}:∀{x:List α} {y:List β},x.length=y.length->(∀(i:Nat) (a:α) (b:β),x[i]? =some a->y[i]? =some b->R a b)->aO R x y
 |[],[],_,_=>.nil
 |[],_::_,h,_=>by simp at h
 |_::_,[],h,_=>by simp at h
 |a::x,b::y,h,hr=>.cons (hr 0 a b rfl rfl) (aO.qJ (by simpa using h) λi c d hc hd=>hr (i+1) c d (by simpa using hc) (by simpa using hd))
theorem aO.drop{α β:Type}{R:α->β->Prop}{x:List α}{y:List β}(h:aO R x y)(n:Nat):aO R (x.drop n) (y.drop n):=by
 induction h generalizing n with
 |nil=>simpa using aO.nil
 |cons h t ih=>cases n with
  |zero=>exact .cons h t
  |succ n=>simpa using ih n
theorem aO.take{α β:Type}{R:α->β->Prop}{x:List α}{y:List β}(h:aO R x y)(n:Nat):aO R (x.take n) (y.take n):=by
 induction h generalizing n with
 |nil=>simpa using aO.nil
 |cons h t ih=>cases n with
  |zero=>exact .nil
  |succ n=>simpa using aO.cons h (ih n)
abbrev aA:=Nat->Option Pl
def yT(pl:Pl)(a:Addr)(len cap:Nat)(c:Addr)(aw:Nat):Prop:=
 (c=⟨pl.aV,pl.off+a.off,none⟩/\(aw=cap\/(0<pl.ah/\a.off+cap*pl.ah=pl.n/\a.off+aw*pl.ah=pl.cap/\cap<=aw)))\/(len=0/\cap=0/\aw=0)
inductive jY(ρ:aA):Fn->Fn->Prop
 |func (f:FuncId):jY ρ (.func f) (.func f)
 |yield {l:Nat} {pl:Pl}:ρ l=some pl->jY ρ (.yield l) (.yield pl.aV)
inductive aJ(ρ:aA):Value->Value->Prop
 |bool (b:Bool):aJ ρ (.bool b) (.bool b)
 |int (k:IntKind) (n:Int):aJ ρ (.int k n) (.int k n)
 |string (s:ByteArray):aJ ρ (.string s) (.string s)
 |qK:aJ ρ (.pointer none) (.pointer none)
 |ptr {a:Addr} {pl:Pl}:ρ a.block=some pl->aJ ρ (.pointer (some a)) (.pointer (some ⟨pl.aV,pl.off+a.off,none⟩))
 |jZ (l k:Nat):aJ ρ (.slice none l k) (.slice none l k)
 |sl {a c:Addr} {l k k':Nat} {pl:Pl}:ρ a.block=some pl->yT pl a l k c k'->aJ ρ (.slice (some a) l k) (.slice (some c) l k')
 |og:aJ ρ (.map none) (.map none)
 |map {r:Nat} {pl:Pl}:ρ r=some pl->aJ ρ (.map (some r)) (.map (some pl.aV))
 |func {fn aN:Fn} {a a' c c':Array Value}:jY ρ fn aN->a.size=a'.size->(∀(i:Nat) (v v':Value),a[i]? =some v->a'[i]? =some v'->aJ ρ v v')->c.size=c'.size->
  (∀(i:Nat) (v v':Value),c[i]? =some v->c'[i]? =some v'->aJ ρ v v')->aJ ρ (.func fn a c) (.func aN a' c')
 |nilFunc:aJ ρ .nilFunc .nilFunc
 |iface {t:TypeId} {v v':Value}:aJ ρ v v'->aJ ρ (.iface t v) (.iface t v')
 |nilIface:aJ ρ .nilIface .nilIface
 |agg {a a':Array Value}:a.size=a'.size->(∀(i:Nat) (v v':Value),a[i]? =some v->a'[i]? =some v'->aJ ρ v v')->aJ ρ (.agg a) (.agg a')
 |tuple {a a':Array Value}:a.size=a'.size->(∀(i:Nat) (v v':Value),a[i]? =some v->a'[i]? =some v'->aJ ρ v v')->aJ ρ (.tuple a) (.tuple a')
def Ext(ρ ab:aA):Prop:=∀i pl,ρ i=some pl->ab i=some pl
theorem Ext.refl(ρ:aA):Ext ρ ρ:=λ_ _ h=>h
theorem Ext.trans{ρ ab af:aA}(h:Ext ρ ab)(h':Ext ab af):Ext ρ af:=λi pl x=>h' i pl (h i pl x)
theorem jY.mono{ρ ab:aA}(hx:Ext ρ ab){f g:Fn}(h:jY ρ f g):jY ab f g:=by
 cases h with
 |func f=>exact .func f
 |yield h=>exact .yield (hx _ _ h)
theorem aJ.mono{ρ ab:aA}(hx:Ext ρ ab){v v':Value}(h:aJ ρ v v'):aJ ab v v':=by
 induction h with
 |bool b=>exact .bool b
 |int k n=>exact .int k n
 |string s=>exact .string s
 |qK=>exact .qK
 |ptr h=>exact .ptr (hx _ _ h)
 |jZ l k=>exact .jZ l k
 |sl h hs=>exact .sl (hx _ _ h) hs
 |og=>exact .og
 |map h=>exact .map (hx _ _ h)
 |func hf h1 _ h2 _ aS aT=>exact .func (hf.mono hx) h1 aS h2 aT
 |nilFunc=>exact .nilFunc
 |iface _ ih=>exact .iface ih
 |nilIface=>exact .nilIface
 |agg h1 _ ih=>exact .agg h1 ih
 |tuple h1 _ ih=>exact .tuple h1 ih
abbrev bE(ρ:aA):=aO (aJ ρ)
theorem bE.mono{ρ ab:aA}(hx:Ext ρ ab){x y:List Value}(h:bE ρ x y):bE ab x y:=aO.mono h λ_ _=>aJ.mono hx
theorem qL{ρ:aA}{a a':Array Value}(h:a.size=a'.size)(hr:∀(i:Nat) (v v':Value),a[i]? =some v->a'[i]? =some v'->aJ ρ v v'):bE ρ a.toList a'.toList:=
 aO.qJ (by simpa using h) λi v v' hv az=>hr i v v' (by simpa using hv) (by simpa using az)
theorem sv{ρ:aA}{a a':Array Value}(h:bE ρ a.toList a'.toList):a.size=a'.size/\∀(i:Nat) (v v':Value),a[i]? =some v->a'[i]? =some v'->aJ ρ v v':=by
 refine⟨by simpa using h.length,λi v v' hv az=> ?_⟩;obtain⟨b,hb,hr⟩:=h.get i v (by simpa using hv);have:a'[i]? =some b:=by simpa using hb
 rw[this]at az;cases az;exact hr
theorem aJ.KQ{ρ:aA}{a a':Array Value}:aJ ρ (.agg a) (.agg a')↔bE ρ a.toList a'.toList:=
 ⟨λh=>by cases h with|agg h1 h2=>exact qL h1 h2,λh=>.agg (sv h).1 (sv h).2⟩
theorem aJ.j0{ρ:aA}{a a':Array Value}:aJ ρ (.tuple a) (.tuple a')↔bE ρ a.toList a'.toList:=
 ⟨λh=>by cases h with|tuple h1 h2=>exact qL h1 h2,λh=>.tuple (sv h).1 (sv h).2⟩
theorem aJ.pD{ρ:aA}{a:Array Value}{v':Value}(h:aJ ρ (.agg a) v'):∃a',v'=.agg a'/\bE ρ a.toList a'.toList:=by
 cases h with|agg h1 h2=>exact⟨_,rfl,qL h1 h2⟩
theorem aJ.C5{ρ:aA}{a:Array Value}{v':Value}(h:aJ ρ (.tuple a) v'):∃a',v'=.tuple a'/\bE ρ a.toList a'.toList:=by
 cases h with|tuple h1 h2=>exact⟨_,rfl,qL h1 h2⟩
theorem aJ.wm{ρ:aA}{l:List Value}{a':Array Value}(h:bE ρ l a'.toList):aJ ρ (.agg l.toArray) (.agg a'):=aJ.KQ.2 (by simpa using h)
theorem yU{ρ:aA}:∀(n:Nat) (v:Value),dP n v=true->aJ ρ v v
 |0,_,h=>by simp[dP]at h
 |n+1,v,h=>by
  have arr:∀a:Array Value,a.toList.all (dP n)=true->∀(i:Nat) (v v':Value),a[i]? =some v->a[i]? =some v'->aJ ρ v v':=λa ha i v v' hv az=>by
   rw[hv]at az;cases az;exact yU n v (PX.1 ha v (by
    have:a.toList[i]? =some v:=by simpa using hv
    exact List.mem_of_getElem? this))
  cases v with
  |bool b=>exact .bool b
  |int k n=>exact .int k n
  |string s=>exact .string s
  |pointer a=>cases a with
   |none=>exact .qK
   |some a=>simp[dP]at h
  |slice a l k=>cases a with
   |none=>exact .jZ l k
   |some a=>simp[dP]at h
  |map r=>cases r with
   |none=>exact .og
   |some a=>simp[dP]at h
  |nilFunc=>exact .nilFunc
  |nilIface=>exact .nilIface
  |iface t v=>exact .iface (yU n v (by simpa[dP]using h))
  |agg a=>exact .agg rfl (arr a (by simpa[dP]using h))
  |tuple a=>exact .tuple rfl (arr a (by simpa[dP]using h))
  |_=>simp[dP]at h
theorem m9{ρ:aA}{v:Value}(h:plain v=true):aJ ρ v v:=yU 6 v h
theorem yV{ρ:aA}:∀(n:Nat) (v v':Value),dP n v=true->aJ ρ v v'->v'=v
 |0,_,_,h,_=>by simp[dP]at h
 |n+1,v,v',h,hr=>by
  have arr:∀a a':Array Value,a.toList.all (dP n)=true->a.size=a'.size->(∀(i:Nat) (v v':Value),a[i]? =some v->a'[i]? =some v'->aJ ρ v v')->a'=a:=λa a' ha hs hv=>by
   apply Array.ext (by omega);intro i h1 h2;exact yV n _ _ (PX.1 ha a[i] (by simp)) (hv i _ _ (Qc h2) (Qc h1))
  cases hr with
  |iface hv=>rw[yV n _ _ (by simpa[dP]using h) hv]
  |agg hs hv=>rw[arr _ _ (by simpa[dP]using h) hs hv]
  |tuple hs hv=>rw[arr _ _ (by simpa[dP]using h) hs hv]
  |ptr _=>simp[dP]at h
  |sl _ _=>simp[dP]at h
  |map _=>simp[dP]at h
  |func _ _ _ _ _=>simp[dP]at h
  |_=>rfl
theorem pE{ρ:aA}{v v':Value}(h:plain v=true)(hr:aJ ρ v v'):v'=v:=yV 6 v v' h hr
def bF.wr:bF->Bool
 |.row _ wr _=>wr
 |_=>true
structure ez(ρ:aA)(x y:MapEntry):Prop where
 key:y.key=x.key
 plain:plain x.key=true
 val:aJ ρ x.val y.val
 born:y.born=x.born
def jC(ρ:aA)(t:Tr Value)(n:Nat)(a:Array Value):Prop:=a.size=n/\∀i v,t.get i=some v->i<n/\aJ ρ v (a.getD i undef)
def gY(ρ:aA)(w:World)(pl:Pl):bF->Prop
 |.row cs wr ah=>∃c el fz,w.heap[pl.aV]? =some (.cells c el fz)/\(wr=true->fz=(0,0))/\pl.n=cs.length/\pl.ah=ah/\pl.n<=pl.cap/\pl.off+pl.cap<=c.size/\(ah=0->pl.cap=pl.n)/\
  bE ρ cs ((c.toList.drop pl.off).take pl.n)/\(cs=[]->pl.JM (.cells c el fz))
 |.map es clock=>pl.off=0/\∃aD,w.heap[pl.aV]? =some (.map aD clock)/\aO (ez ρ) es aD.toList
 |.cj m since seen last=>pl.off=0/\∃m',w.heap[pl.aV]? =some (.mapIter m' since seen.toArray last)/\aJ ρ (.map m) (.map m')
 |.eC s pos=>pl.off=0/\w.heap[pl.aV]? =some (.stringIter s pos)
 |.loop st aq t n params bL body fj=>pl.off=0/\∃fn tmps aE,ρ fj=some aE/\jC ρ t n tmps/\
  w.heap[pl.aV]? =some (.loop {state:=st,pending:=aq,fn,tmps,params:=params.toArray,assign:=bL,body,defers:=aE.aV})
 |.fj empty=>pl.off=0/\w.heap[pl.aV]? =some (.deferred (if empty then some []else none))
theorem ez.mono{ρ ab:aA}(hx:Ext ρ ab){x y:MapEntry}(h:ez ρ x y):ez ab x y:=⟨h.key,h.plain,h.val.mono hx,h.born⟩
theorem jC.mono{ρ ab:aA}(hx:Ext ρ ab){t:Tr Value}{n:Nat}{a:Array Value}(h:jC ρ t n a):jC ab t n a:=⟨h.1,λi v hv=>⟨(h.2 i v hv).1,(h.2 i v hv).2.mono hx⟩⟩
theorem gY.mono{ρ ab:aA}{w w':World}{pl:Pl}{o:bF}(hx:Ext ρ ab)(hw:w'.heap[pl.aV]? =w.heap[pl.aV]?)(h:gY ρ w pl o):gY ab w' pl o:=by
 cases o with
 |row cs wr ah=>
  obtain⟨c,el,fz,h1,h2,h3,h4,h5,h6,h7,h8⟩:=h;exact⟨c,el,fz,hw▸h1,h2,h3,h4,h5,h6,h7,h8.1.mono hx,h8.2⟩
 |map es clock=>obtain⟨h0,aD,h1,h2⟩:=h;exact⟨h0,aD,hw▸h1,h2.mono λ_ _=>ez.mono hx⟩
 |cj m since seen last=>obtain⟨h0,m',h1,h2⟩:=h;exact⟨h0,m',hw▸h1,h2.mono hx⟩
 |eC s pos=>exact⟨h.1,hw▸h.2⟩
 |loop st aq t n params bL body fj=>
  obtain⟨h0,fn,tmps,aE,h1,h2,h3⟩:=h;exact⟨h0,fn,tmps,aE,hx _ _ h1,h2.mono hx,hw▸h3⟩
 |fj e=>exact⟨h.1,hw▸h.2⟩
theorem gY.lt{ρ:aA}{w:World}{pl:Pl}{o:bF}(h:gY ρ w pl o):pl.aV<w.heap.size:=by
 have key:∀{x:Obj},w.heap[pl.aV]? =some x->pl.aV<w.heap.size:=λhx=>(TF.1 hx).1;cases o with
 |row cs wr ah=>obtain⟨c,el,fz,h1,_⟩:=h;exact key h1
 |map es clock=>obtain⟨_,aD,h1,_⟩:=h;exact key h1
 |cj m since seen last=>obtain⟨_,m',h1,_⟩:=h;exact key h1
 |eC s pos=>exact key h.2
 |loop st aq t n params bL body fj=>obtain⟨_,fn,tmps,aE,_,_,h3⟩:=h;exact key h3
 |fj e=>exact key h.2
structure bh(ρ:aA)(h:aa)(w:World):Prop where
 gM:∀i pl,ρ i=some pl->i<h.next
 obj:∀i o,h.get i=some o->∃pl,ρ i=some pl/\gY ρ w pl o
 sep:∀i j o p pi pj,i≠j->h.get i=some o->o.wr=true->h.get j=some p->ρ i=some pi->ρ j=some pj->pi.aV≠pj.aV
def Host(ρ:aA)(h:aa)(b:Nat):Prop:=∃i o pl,h.get i=some o/\o.wr=true/\ρ i=some pl/\pl.aV=b
structure Fr(b:Nat)(ρ:aA)(h:aa)(w:World)(ab:aA)(h':aa)(w':World):Prop where
 ext:Ext ρ ab
 os:w'.os=w.os
 output:w'.output=w.output
 size:w.heap.size<=w'.heap.size
 frozen:∀a,a.block<w.heap.size->w'.frozen? a=w.frozen? a
 kept:∀k,k<w.heap.size->¬Host ρ h k->w'.heap[k]? =w.heap[k]?
 new:∀i o pl,h'.get i=some o->o.wr=true->ab i=some pl->Host ρ h pl.aV\/w.heap.size<=pl.aV
 ro:∀i o,h'.get i=some o->o.wr=false->h.get i=some o
 ids:∀i,ρ i=none->ab i≠none->b<=i
 aY:∀i o,h'.get i=some o->i<b->∃p,h.get i=some p
 next:h.next<=h'.next
theorem Fr.refl(b:Nat)(ρ:aA)(h:aa)(w:World):Fr b ρ h w ρ h w:=
 ⟨Ext.refl _,rfl,rfl,qe _,λ_ _=>rfl,λ_ _ _=>rfl,λi o pl h1 h2 h3=>.inl ⟨i,o,pl,h1,h2,h3,rfl⟩,λ_ _ h _=>h,λ_ h h'=>absurd h h',λ_ o h _=>⟨o,h⟩,qe _⟩
theorem Fr.mono{b b':Nat}{ρ ab:aA}{h h':aa}{w w':World}(x:Fr b ρ h w ab h' w')(hb:b'<=b):Fr b' ρ h w ab h' w':=
 ⟨x.ext,x.os,x.output,x.size,x.frozen,x.kept,x.new,x.ro,λi h1 h2=>GP hb (x.ids i h1 h2),λi o h1 h2=>x.aY i o h1 (xS h2 hb),x.next⟩
theorem Fr.trans{b:Nat}{ρ ab af:aA}{h h' aP:aa}{w w' aQ:World}(x:Fr b ρ h w ab h' w')(y:Fr b ab h' w' af aP aQ):Fr b ρ h w af aP aQ:=by
 refine⟨x.ext.trans y.ext,y.os.trans x.os,y.output.trans x.output,GP x.size y.size,λa ha=>(y.frozen a (xS ha x.size)).trans (x.frozen a ha), ?_, ?_, ?_, ?_,λi o h1 h2=>let⟨p,hp⟩:=y.aY i o h1 h2;x.aY i p hp h2,GP x.next y.next⟩
 . intro k hb hh;rw[y.kept k (xS hb x.size) ?_,x.kept k hb hh];rintro⟨i,o,pl,h1,h2,h3,rfl⟩;rcases x.new i o pl h1 h2 h3 with h4|h4
   . exact hh h4
   . omega
 . intro i o pl h1 h2 h3;rcases y.new i o pl h1 h2 h3 with⟨j,p,pj,g1,g2,g3,g4⟩|h4
   . rw[<-g4];exact x.new j p pj g1 g2 g3
   . exact .inr (GP x.size h4)
 . intro i o h1 h2;exact x.ro i o (y.ro i o h1 h2) h2
 . intro i h1 h2;by_cases h3:ab i=none
   . exact y.ids i h3 h2
   . exact x.ids i h1 h3
theorem bh.sub{ρ:aA}{h g:aa}{w:World}(x:bh ρ h w)(hs:∀i o,g.get i=some o->h.get i=some o)(hn:h.next<=g.next):bh ρ g w:=
 ⟨λi pl hp=>xS (x.gM i pl hp) hn,λi o ho=>x.obj i o (hs i o ho),λi j o p pi pj av h1 h2 h3=>x.sep i j o p pi pj av (hs i o h1) h2 (hs j p h3)⟩
theorem C6{ρ:aA}{h:aa}{w w':World}(hh:w'.heap=w.heap)(ho:w'.os=w.os)(hu:w'.output=w.output)(b:Nat):Fr b ρ h w ρ h w':=
 ⟨Ext.refl _,ho,hu,by rw[hh];exact qe _,λa _=>by simp[World.frozen?,hh],λ_ _ _=>by rw[hh],λi o pl h1 h2 h3=>.inl ⟨i,o,pl,h1,h2,h3,rfl⟩,λ_ _ h _=>h,λ_ h h'=>absurd h h',λ_ o h _=>⟨o,h⟩,qe _⟩
theorem bh.draw{ρ:aA}{h:aa}{w w':World}(x:bh ρ h w)(hh:w'.heap=w.heap):bh ρ h w':=
 ⟨x.gM,λi o ho=>let⟨pl,h1,h2⟩:=x.obj i o ho;⟨pl,h1,h2.mono (Ext.refl _) (by rw[hh])⟩,x.sep⟩
def aA.put(ρ:aA)(i:Nat)(pl:Pl):aA:=λj=>if j=i then some pl else ρ j
theorem aA.kE(ρ:aA)(i:Nat)(pl:Pl):ρ.put i pl i=some pl:=by simp[aA.put]
theorem aA.jD(ρ:aA){i j:Nat}(pl:Pl)(h:j≠i):ρ.put i pl j=ρ j:=by simp[aA.put,h]
theorem aA.qM{ρ:aA}{i:Nat}(pl:Pl)(h:ρ i=none):Ext ρ (ρ.put i pl):=λj p hj=>by
 have:j≠i:=λe=>by rw[e,h]at hj;cases hj
 rw[aA.jD _ _ this];exact hj
theorem bh.fresh{ρ:aA}{h:aa}{w:World}(x:bh ρ h w):ρ h.next=none:=by
 cases e:ρ h.next with
 |none=>rfl
 |some pl=>exact absurd (x.gM _ _ e) (Nat.lt_irrefl _)
def World.add(w:World)(o:Obj):World:={w with heap:=w.heap.push o}
theorem wo(w:World)(o:Obj):(World.add w o).heap[w.heap.size]? =some o:=by
 show(w.heap.push o)[w.heap.size]? =some o;rw[VK,if_pos rfl]
theorem yW(w:World)(o:Obj){b:Nat}(hb:b<w.heap.size):(World.add w o).heap[b]? =w.heap[b]? :=by
 show(w.heap.push o)[b]? =_;rw[VK,if_neg (PO hb)]
theorem C7(w:World)(o:Obj):(World.add w o).heap.size=w.heap.size+1:=by
 show(w.heap.push o).size=_;simp
def Obj.kF:Obj->Bool
 |.cells _ _ fz=>fz==(0,0)
 |_=>true
theorem KS(w:World)(o:Obj)(ho:Obj.kF o=true)(a:Addr):(World.add w o).frozen? a=w.frozen? a:=by
 by_cases h:a.block<w.heap.size
 . simp only[World.frozen?,yW w o h]
 . have e2:w.heap[a.block]? =none:=by simp;omega
   by_cases h':a.block=w.heap.size
   . have e1:(World.add w o).heap[a.block]? =some o:=by rw[h'];exact wo w o
     simp only[World.frozen?,e1,e2];cases o<;>simp_all[Obj.kF]
   . have e1:(World.add w o).heap[a.block]? =none:=by rw[Array.getElem?_eq_none_iff,C7];omega
     simp only[World.frozen?,e1,e2]
structure Slot(b:Nat)(ρ:aA)(h:aa)(id:Nat)(ao:bF)(h':aa):Prop where
 free:ρ id=none
 ge:b<=id
 get:∀j,h'.get j=if j=id then some ao else h.get j
 next:h.next<=h'.next
 lt:id<h'.next
theorem bh.slot{ρ:aA}{h:aa}{w:World}(x:bh ρ h w)(ao:bF):Slot h.next ρ h h.next ao (h.new ao):=
 ⟨x.fresh,qe _,λj=>aa.di _ _ _,Nat.le_succ _,W2 _⟩
theorem yX{b id:Nat}{ρ:aA}{h h':aa}{w:World}{ao:bF}{o:Obj}{pl:Pl}(x:bh ρ h w)(s:Slot b ρ h id ao h')(hu:Obj.kF o=true)(hb:pl.aV=w.heap.size)
 (hr:gY (ρ.put id pl) (World.add w o) pl ao) (hw:ao.wr=true):bh (ρ.put id pl) h' (World.add w o)/\Fr b ρ h w (ρ.put id pl) h' (World.add w o):=by
 have ad:Ext ρ (ρ.put id pl):=aA.qM pl s.free;refine⟨⟨?_, ?_, ?_⟩,⟨ad,rfl,rfl,by rw[C7];omega,λa _=>KS w o hu a,λb aU _=>yW w o aU, ?_, ?_, ?_, ?_,s.next⟩⟩
 . intro i p hp;by_cases e:i=id
   . rw[e];exact s.lt
   . rw[aA.jD _ _ e]at hp;exact xS (x.gM i p hp) s.next
 . intro i o' aB;rw[s.get]at aB;by_cases e:i=id
   . rw[if_pos e]at aB;cases aB;subst e;exact⟨pl,aA.kE _ _ _,hr⟩
   . rw[if_neg e]at aB;obtain⟨pi,h1,h2⟩:=x.obj i o' aB;exact⟨pi,ad _ _ h1,h2.mono ad (yW w o h2.lt)⟩
 . intro i j o' p pi pj av h1 h2 h3 h4 h5;rw[s.get]at h1 h3;by_cases ei:i=id
   . by_cases ej:j=id
     . exact absurd (ei.trans ej.symm) av
     . rw[if_neg ej]at h3;rw[ei,aA.kE]at h4;cases h4;rw[aA.jD _ _ ej]at h5;obtain⟨bb,g1,g2⟩:=x.obj j p h3;rw[g1]at h5;cases h5;have:=g2.lt;omega
   . rw[if_neg ei]at h1;rw[aA.jD _ _ ei]at h4;obtain⟨bc,g1,g2⟩:=x.obj i o' h1;rw[g1]at h4;cases h4;by_cases ej:j=id
     . rw[ej,aA.kE]at h5;cases h5;have:=g2.lt;omega
     . rw[if_neg ej]at h3;rw[aA.jD _ _ ej]at h5;exact x.sep i j o' p pi pj av h1 h2 h3 g1 h5
 . intro i o' p h1 h2 h3;rw[s.get]at h1;by_cases e:i=id
   . rw[e,aA.kE]at h3;cases h3;exact .inr (Nat.le_of_eq hb.symm)
   . rw[if_neg e]at h1;rw[aA.jD _ _ e]at h3;exact .inl ⟨i,o',p,h1,h2,h3,rfl⟩
 . intro i o' h1 h2;rw[s.get]at h1;by_cases e:i=id
   . rw[if_pos e]at h1;cases h1;rw[hw]at h2;cases h2
   . rw[if_neg e]at h1;exact h1
 . intro i h1 h2;by_cases e:i=id
   . rw[e];exact s.ge
   . rw[aA.jD _ _ e]at h2;exact absurd h1 h2
 . intro i o' h1 h2;rw[s.get,if_neg (PO (xS h2 s.ge))]at h1;exact⟨o',h1⟩
def World.fO(w:World)(b:Nat)(o:Obj):World:={w with heap:=w.heap.setIfInBounds b o}
theorem oh(w:World)(b:Nat)(o:Obj)(hb:b<w.heap.size):(World.fO w b o).heap[b]? =some o:=by
 simp[World.fO,hb]
theorem uf(w:World){b c:Nat}(o:Obj)(h:c≠b):(World.fO w b o).heap[c]? =w.heap[c]? :=by
 simp[World.fO,Array.getElem?_setIfInBounds,DE h]
theorem C8(w:World)(b:Nat)(o p:Obj)(hp:w.heap[b]? =some p)(h1:Obj.kF o=true)(h2:Obj.kF p=true)(a:Addr):
 (World.fO w b o).frozen? a=w.frozen? a:=by
 by_cases e:a.block=b
 . have hb:b<w.heap.size:=(TF.1 hp).1;simp only[World.frozen?,e,oh w b o hb,hp];cases o<;>cases p<;>simp_all[Obj.kF]
 . simp only[World.frozen?,uf w o e]
theorem gY.kF{ρ:aA}{w:World}{pl:Pl}{o:bF}(h:gY ρ w pl o)(hw:o.wr=true):∃p,w.heap[pl.aV]? =some p/\Obj.kF p=true:=by
 cases o with
 |row cs wr ah=>
  obtain⟨c,el,fz,h1,h2,_⟩:=h;exact⟨_,h1,by simp[Obj.kF,h2 hw]⟩
 |map es clock=>obtain⟨_,aD,h1,_⟩:=h;exact⟨_,h1,rfl⟩
 |cj m since seen last=>obtain⟨_,m',h1,_⟩:=h;exact⟨_,h1,rfl⟩
 |eC s pos=>exact⟨_,h.2,rfl⟩
 |loop st aq t n params bL body fj=>obtain⟨_,fn,tmps,aE,_,_,h3⟩:=h;exact⟨_,h3,rfl⟩
 |fj e=>exact⟨_,h.2,rfl⟩
theorem qN{b:Nat}{ρ:aA}{h:aa}{w:World}{i:Nat}{ao ao':bF}{o:Obj}{pl:Pl}(x:bh ρ h w)(hi:h.get i=some ao)(hw:ao.wr=true)(hp:ρ i=some pl)
 (hu:Obj.kF o=true) (hr:gY ρ (World.fO w pl.aV o) pl ao') (aI:ao'.wr=true):
 bh ρ (h.set i (some ao')) (World.fO w pl.aV o)/\Fr b ρ h w ρ (h.set i (some ao')) (World.fO w pl.aV o):=by
 obtain⟨pl',e1,e2⟩:=x.obj i ao hi;rw[hp]at e1;cases e1;obtain⟨p,aK,aL⟩:=e2.kF hw;refine⟨⟨x.gM, ?_, ?_⟩,⟨Ext.refl _,rfl,rfl,by simp[World.fO],λa _=>C8 w _ o p aK hu aL a, ?_, ?_, ?_,λ_ h h'=>absurd h h', ?_,qe _⟩⟩
 . intro j q hj;rw[aa.bn]at hj;by_cases e:j=i
   . rw[if_pos e]at hj;cases hj;subst e;exact⟨pl,hp,hr⟩
   . rw[if_neg e]at hj;obtain⟨pj,g1,g2⟩:=x.obj j q hj;exact⟨pj,g1,g2.mono (Ext.refl _) (uf w o (DE (x.sep i j ao q pl pj (DE e) hi hw hj hp g1)))⟩
 . intro j k q r pj pk aC h1 h2 h3 h4 h5;rw[aa.bn]at h1 h3;by_cases ej:j=i
   . by_cases ek:k=i
     . exact absurd (ej.trans ek.symm) aC
     . rw[if_neg ek]at h3;subst ej;exact x.sep _ _ ao r pj pk aC hi hw h3 h4 h5
   . rw[if_neg ej]at h1;by_cases ek:k=i
     . subst ek;exact x.sep _ _ q ao pj pk aC h1 h2 hi h4 h5
     . rw[if_neg ek]at h3;exact x.sep j k q r pj pk aC h1 h2 h3 h4 h5
 . intro b _ hh;refine uf w o λe=>hh ⟨i,ao,pl,hi,hw,hp,e.symm⟩
 . intro j q pj h1 h2 h3;rw[aa.bn]at h1;by_cases e:j=i
   . subst e;rw[hp]at h3;cases h3;exact .inl ⟨_,ao,pl,hi,hw,hp,rfl⟩
   . rw[if_neg e]at h1;exact .inl ⟨j,q,pj,h1,h2,h3,rfl⟩
 . intro j q h1 h2;rw[aa.bn]at h1;by_cases e:j=i
   . rw[if_pos e]at h1;cases h1;rw[aI]at h2;cases h2
   . rw[if_neg e]at h1;exact h1
 . intro j q h1 _;rw[aa.bn]at h1;by_cases e:j=i
   . subst e;exact⟨ao,hi⟩
   . rw[if_neg e]at h1;exact⟨q,h1⟩
theorem KT{ρ:aA}{h:aa}{w:World}{i:Nat}{ao ao':bF}{o:Obj}{pl pl':Pl}(x:bh ρ h w)(hi:h.get i=some ao)(hw:ao.wr=true)(hp:ρ i=some pl)
 (hu:Obj.kF o=true) (hb:pl'.aV=pl.aV) (hr:gY (ρ.put h.next pl') (World.fO w pl.aV o) pl' ao') (aI:ao'.wr=true):
 bh (ρ.put h.next pl') ((h.set i none).new ao') (World.fO w pl.aV o)/\Fr h.next ρ h w (ρ.put h.next pl') ((h.set i none).new ao') (World.fO w pl.aV o):=by
 obtain⟨bd,e1,e2⟩:=x.obj i ao hi;rw[hp]at e1;cases e1;obtain⟨p,aK,aL⟩:=e2.kF hw;have ad:Ext ρ (ρ.put h.next pl'):=aA.qM pl' x.fresh;have ai:∀j,((h.set i none).new ao').get j=if j=h.next then some ao' else if j=i then none else h.get j:=λj=>by rw[aa.di,aa.bn];rfl
 have hold:∀j o',h.get j=some o'->j≠h.next:=λj o' aB e=>by
  obtain⟨pi,h1,_⟩:=x.obj j o' aB;rw[e,x.fresh]at h1;cases h1
 refine⟨⟨?_, ?_, ?_⟩,⟨ad,rfl,rfl,by simp[World.fO],λa _=>C8 w _ o p aK hu aL a, ?_, ?_, ?_, ?_, ?_,Nat.le_succ _⟩⟩
 . intro j q hj;by_cases e:j=h.next
   . rw[e];exact W2 _
   . rw[aA.jD _ _ e]at hj;exact Nat.lt_succ_of_lt (x.gM j q hj)
 . intro j q hj;rw[ai]at hj;by_cases e:j=h.next
   . rw[if_pos e]at hj;cases hj;subst e;exact⟨pl',aA.kE _ _ _,hr⟩
   . rw[if_neg e]at hj;by_cases e':j=i
     . rw[if_pos e']at hj;cases hj
     . rw[if_neg e']at hj;obtain⟨pj,g1,g2⟩:=x.obj j q hj;exact⟨pj,ad _ _ g1,g2.mono ad (uf w o (DE (x.sep i j ao q pl pj (DE e') hi hw hj hp g1)))⟩
 . intro j k q r pj pk aC h1 h2 h3 h4 h5;rw[ai]at h1 h3;by_cases ej:j=h.next
   . by_cases ek:k=h.next
     . exact absurd (ej.trans ek.symm) aC
     . rw[if_neg ek]at h3;by_cases aF:k=i
       . rw[if_pos aF]at h3;cases h3
       . rw[if_neg aF]at h3;rw[ej,aA.kE]at h4;cases h4;rw[aA.jD _ _ ek]at h5;rw[hb];exact x.sep i k ao r pl pk (DE aF) hi hw h3 hp h5
   . rw[if_neg ej]at h1;by_cases aM:j=i
     . rw[if_pos aM]at h1;cases h1
     . rw[if_neg aM]at h1;rw[aA.jD _ _ ej]at h4;by_cases ek:k=h.next
       . rw[ek,aA.kE]at h5;cases h5;rw[hb];exact x.sep j i q ao pj pl aM h1 h2 hi h4 hp
       . rw[if_neg ek]at h3;by_cases aF:k=i
         . rw[if_pos aF]at h3;cases h3
         . rw[if_neg aF]at h3;rw[aA.jD _ _ ek]at h5;exact x.sep j k q r pj pk aC h1 h2 h3 h4 h5
 . intro b _ hh;exact uf w o λe=>hh ⟨i,ao,pl,hi,hw,hp,e.symm⟩
 . intro j q pj h1 h2 h3;rw[ai]at h1;by_cases e:j=h.next
   . rw[e,aA.kE]at h3;cases h3;exact .inl ⟨i,ao,pl,hi,hw,hp,hb.symm⟩
   . rw[if_neg e]at h1;by_cases e':j=i
     . rw[if_pos e']at h1;cases h1
     . rw[if_neg e']at h1;rw[aA.jD _ _ e]at h3;exact .inl ⟨j,q,pj,h1,h2,h3,rfl⟩
 . intro j q h1 h2;rw[ai]at h1;by_cases e:j=h.next
   . rw[if_pos e]at h1;cases h1;rw[aI]at h2;cases h2
   . rw[if_neg e]at h1;by_cases e':j=i
     . rw[if_pos e']at h1;cases h1
     . rw[if_neg e']at h1;exact h1
 . intro j h1 h2;by_cases e:j=h.next
   . exact Nat.le_of_eq e.symm
   . rw[aA.jD _ _ e]at h2;exact absurd h1 h2
 . intro j q h1 h2;rw[ai,if_neg (PO h2)]at h1;by_cases e':j=i
   . subst e';exact⟨ao,hi⟩
   . rw[if_neg e']at h1;exact⟨q,h1⟩
theorem bh.kill{ρ:aA}{h:aa}{w:World}(x:bh ρ h w)(i b:Nat):bh ρ (h.set i none) w/\Fr b ρ h w ρ (h.set i none) w:=by
 have hs:∀j o,(h.set i none).get j=some o->h.get j=some o:=λj o hj=>by
  rw[aa.bn]at hj;by_cases e:j=i
  . rw[if_pos e]at hj;cases hj
  . rw[if_neg e]at hj;exact hj
 exact⟨x.sub hs (qe _),⟨Ext.refl _,rfl,rfl,qe _,λ_ _=>rfl,λ_ _ _=>rfl,λj o pl h1 h2 h3=>.inl ⟨j,o,pl,hs j o h1,h2,h3,rfl⟩,
  λj o h1 _=>hs j o h1,λ_ h h'=>absurd h h',λj o h1 _=>⟨o,hs j o h1⟩,qe _⟩⟩
theorem bh.extend{b:Nat}{ρ ab:aA}{u g g' u':aa}{w w':World}(x:bh ρ u w)(hs:∀i o,g.get i=some o->u.get i=some o)(y:bh ab g' w')(f:Fr b ρ g w ab g' w')
 (hu:∀i o,u'.get i=some o->g'.get i=some o\/(u.get i=some o/\g.get i=none)) (hn:u.next<=u'.next) (aW:g'.next<=u'.next):bh ab u' w'/\Fr b ρ u w ab u' w':=by
 have host:∀{k},Host ρ g k->Host ρ u k:=λ⟨i,o,pl,h1,h2,h3,h4⟩=>⟨i,o,pl,hs i o h1,h2,h3,h4⟩;have aside:∀{i o pl},u.get i=some o->g.get i=none->ρ i=some pl->¬Host ρ g pl.aV:=λ{i o pl} h1 h2 h3 ⟨j,p,pj,g1,g2,g3,g4⟩=>by
  have av:j≠i:=λe=>by rw[e,h2]at g1;cases g1
  exact x.sep j i p o pj pl av (hs j p g1) g2 h1 g3 h3 g4
 have key:∀{i o pl j p pj},u.get i=some o->g.get i=none->ρ i=some pl->g'.get j=some p->p.wr=true->ab j=some pj->pj.aV≠pl.aV:=λ{i o pl j p pj} h1 h2 h3 h4 h5 h6 e=>by
  rcases f.new j p pj h4 h5 h6 with h7|h7
  . rw[e]at h7;exact aside h1 h2 h3 h7
  . obtain⟨pl',q1,q2⟩:=x.obj i o h1;rw[h3]at q1;cases q1;have:=q2.lt;omega
 refine⟨⟨λi pl h=>xS (y.gM i pl h) aW,λi o h=> ?_,λi j o p pi pj av h1 h2 h3 h4 h5=> ?_⟩,
  ⟨f.ext,f.os,f.output,f.size,f.frozen,λk hk hh=>f.kept k hk λh=>hh (host h),λi o pl h1 h2 h3=> ?_,λi o h1 h2=> ?_,f.ids,λi o h1 h2=> ?_,hn⟩⟩
 . rcases hu i o h with h|⟨h1,h2⟩
   . exact y.obj i o h
   . obtain⟨pl,q1,q2⟩:=x.obj i o h1;exact⟨pl,f.ext _ _ q1,q2.mono f.ext (f.kept _ q2.lt (aside h1 h2 q1))⟩
 . rcases hu i o h1 with a1|⟨a1,a2⟩
   . rcases hu j p h3 with b1|⟨b1,b2⟩
     . exact y.sep i j o p pi pj av a1 h2 b1 h4 h5
     . obtain⟨pl,q1,q2⟩:=x.obj j p b1;rw[f.ext _ _ q1]at h5;cases h5;exact key b1 b2 q1 a1 h2 h4
   . obtain⟨pl,q1,q2⟩:=x.obj i o a1;rw[f.ext _ _ q1]at h4;cases h4;rcases hu j p h3 with b1|⟨b1,b2⟩
     . cases hw:p.wr with
       |true=>exact DE (key a1 a2 q1 b1 hw h5)
       |false=>
        have hg:=f.ro j p b1 hw;obtain⟨pl',r1,r2⟩:=x.obj j p (hs j p hg);rw[f.ext _ _ r1]at h5;cases h5;exact x.sep i j o p _ _ av a1 h2 (hs j p hg) q1 r1
     . obtain⟨pl',r1,r2⟩:=x.obj j p b1;rw[f.ext _ _ r1]at h5;cases h5;exact x.sep i j o p _ _ av a1 h2 b1 q1 r1
 . rcases hu i o h1 with a1|⟨a1,a2⟩
   . exact(f.new i o pl a1 h2 h3).imp host id
   . obtain⟨pl',q1,q2⟩:=x.obj i o a1;rw[f.ext _ _ q1]at h3;cases h3;exact .inl ⟨i,o,_,a1,h2,q1,rfl⟩
 . rcases hu i o h1 with a1|⟨a1,a2⟩
   . exact hs _ _ (f.ro i o a1 h2)
   . exact a1
 . rcases hu i o h1 with a1|⟨a1,a2⟩
   . obtain⟨p,hp⟩:=f.aY i o a1 h2;exact⟨p,hs _ _ hp⟩
   . exact⟨o,a1⟩
end Go.au
end

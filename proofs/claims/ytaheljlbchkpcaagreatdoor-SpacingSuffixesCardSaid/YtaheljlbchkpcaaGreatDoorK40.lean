/- SpacingSuffixes: parts of its proof (Gv3 Gv4 Pt2 Pt3). -/
import Derived.Test.YtaheljlbchkpcaaGreatDoorK29
import Derived.Test.YtaheljlbchkpcaaGreatDoorK39
set_option linter.unusedVariables false
set_option linter.unusedSimpArgs false
noncomputable section
open Go Go.aw Go.Proofs
namespace Go.Sp
set_option maxRecDepth 100000
def JS(n:Nat)(s:Sym):Bool:=decide (0<=s.idx)&&if s.tok then decide (s.idx<9)else decide (s.idx<n)
def zX(p:aR)(k v lo hi:Int):Bool:=(decide (k=0)&&decide (v=0))||(decide (0<k)&&(match p.right[(k-1).toNat]? with|some s=>s.tok|none=>false)&&decide (lo<=v)&&decide (v<=hi))
def JT(n:Nat)(x:mI):Bool:=decide (1<=x.kind/\x.kind<=4/\0<=x.a/\x.a<n/\0<=x.b/\x.b<n/\(x.kind=1->x.b=0))
def vA(n:Nat)(d:Dg):Bool:=eF.any λq=>decide (q.2=n)&&decide ((aF q.1).nodes=d.nodes)&&decide ((aF q.1).root=d.root)
def DP(p:aR):Bool:=Nat.ble p.right.length 16&&p.layout.all (JT p.right.length)&&Nat.ble p.layout.length 16&&zX p p.scope.declares p.scope.kind 1 7&&zX p p.scope.xg p.scope.allowed 0 255&&
 (!p.bracket||(decide (p.fk=0)&&p.layout.isEmpty&& !p.scope.opens&&decide (p.scope.declares=0)&&decide (p.scope.kind=0)&&decide (p.scope.xg=0)&&decide (p.scope.allowed=0)&&rG p.left p.right))
def DQ(n c:Nat)(p:aR):Bool:=decide (0<=p.left)&&decide (p.left<n)&&p.right.all (JS n)&&vA c p.cond&&decide (-1<=p.fk/\p.fk<=1)&&DP p
theorem xM{n:Nat}{d:Dg}(h:vA n d=true):lK n d:=by
 obtain⟨q,h1,h2⟩:=List.any_eq_true.1 h;simp only[Bool.and_eq_true,decide_eq_true_eq]at h2;obtain⟨⟨h3,h4⟩,h5⟩:=h2;refine⟨q.1, ?_,by rw[<-h3];exact DN q h1⟩;obtain⟨ns,rt⟩:=d;cases hq:aF q.1 with
 |mk a b=>rw[hq]at h4 h5;simp only at h4 h5;rw[h4,h5]
theorem JU{p:aR}{k v lo hi:Int}(h:zX p k v lo hi=true):zA p k v lo hi:=by
 simp only[zX,Bool.or_eq_true,Bool.and_eq_true,decide_eq_true_eq]at h;rcases h with⟨h1,h2⟩|⟨⟨⟨h1,h2⟩,h3⟩,h4⟩
 . exact .inl ⟨h1,h2⟩
 . refine .inr ⟨h1, ?_,h3,h4⟩
   split at h2
   . rename_i s hs;exact⟨s,hs,h2⟩
   . cases h2
theorem ad1{p:aR}(h:DP p=true):zB p:=by
 simp only[DP,Bool.and_eq_true,Bool.or_eq_true,Bool.not_eq_true',List.all_eq_true,decide_eq_true_eq,List.isEmpty_iff,JT]at h;obtain⟨⟨⟨⟨⟨h1,h2⟩,h3⟩,h4⟩,h5⟩,h6⟩:=h;refine⟨Nat.le_of_ble_eq_true h1,h2,Nat.le_of_ble_eq_true h3,JU h4,JU h5,λhb=> ?_⟩;rcases h6 with h6|⟨⟨⟨⟨⟨⟨⟨a,b⟩,c⟩,d⟩,e⟩,f⟩,g⟩,i⟩
 . rw[hb]at h6;cases h6
 . refine⟨a,b, ?_,JO i⟩;cases hs:p.scope with
   |mk o x y z w=>rw[hs]at c d e f g;simp only at c d e f g;rw[c,d,e,f,g]
theorem ad2{g:ai}{p:aR}(ht:g.ar=ar)(h:DQ g.aH.length g.conds.length p=true):vl g p:=by
 simp only[DQ,Bool.and_eq_true,decide_eq_true_eq,List.all_eq_true]at h;obtain⟨⟨⟨⟨⟨h1,h2⟩,h3⟩,h4⟩,h5⟩,h6⟩:=h;refine⟨⟨h1,h2⟩,λs hs=> ?_,xM h4,h5,ad1 h6⟩;have:=h3 s hs;obtain⟨tok,i⟩:=s;simp only[JS,Bool.and_eq_true,decide_eq_true_eq]at this;cases tok with
 |false=>exact(show 0<=i/\i<g.aH.length from⟨this.1,by simpa using this.2⟩)
 |true=>
  have h9:i<9:=by simpa using this.2
  have h0:=this.1;obtain⟨t,h7⟩:∃t,g.ar[i.toNat]? =some t:=⟨_,List.getElem?_eq_getElem (by rw[ht,Is];omega)⟩;refine(show∃t,0<=i/\g.ar[i.toNat]? =some t/\t.cls=0 from⟨t,h0,h7, ?_⟩);rw[ht]at h7;exact(Ir _ _ (by omega) h7).1
def DR(c n:Nat)(l:dG):Bool:=decide (0<=l.assoc/\l.assoc<=3)&&vA c l.cond&&l.ak.all λp=>decide (0<=p)&&decide (p<n)
theorem ad3{g:ai}{l:dG}(h:DR g.conds.length g.ak.length l=true):vm g l:=by
 simp only[DR,Bool.and_eq_true,decide_eq_true_eq,List.all_eq_true]at h;exact⟨h.1.1,xM h.1.2,h.2⟩
def zY(q:Tok->Bool)(l:List Int):Bool:= !l.isEmpty&&Nat.ble l.length 1000&&(l.all λn=>decide (0<=n)&&match ar[n.toNat]? with|some t=>q t|none=>false)&&(List.range l.length).all λi=>match l[i]?,l[i+1]? with|some a,some b=>decide (a<b)|_,_=>true
theorem JV{g:ai}{K:Tok->Prop}{q:Tok->Bool}(ht:g.ar=ar)(hq:∀t,q t=true->K t){l:List Int}(h:zY q l=true):nK g K l:=by
 simp only[zY,Bool.and_eq_true,List.all_eq_true,decide_eq_true_eq,Bool.not_eq_true']at h;obtain⟨⟨⟨h1,h2⟩,h3⟩,h4⟩:=h;refine⟨λhl=>(by rw[hl]at h1;cases h1),Nat.le_of_ble_eq_true h2,λn hn=> ?_,λi a b ha hb=> ?_⟩
 . obtain⟨h5,h6⟩:=h3 n hn;refine⟨h5, ?_⟩;rw[ht]
   split at h6
   . rename_i t he;exact⟨t,he,hq t h6⟩
   . cases h6
 . have:=h4 i (by have:=(List.getElem?_eq_some_iff.1 ha).1;simpa using this);rw[ha,hb]at this;simpa using this
def DT(g:ai)(f:bj):Bool:=vA g.conds.length f.cond&&
 ((decide (f.kind=2)&&decide (f.left=0)&&decide (f.token=0)&&f.ar.isEmpty&&decide (0<=f.parent)&&decide (0<=f.child)&&decide (0<=f.at_)&&lJ g f.parent f.at_ f.child)||
  ((decide (f.kind=3)||decide (f.kind=4))&&decide (f.parent=0)&&decide (f.at_=0)&&decide (f.child=0)&&decide (f.token=0)&&decide (0<=f.left)&&decide (f.left<g.aH.length)&&zY (λt=>decide (t.cls=0)) f.ar)||
  (decide (f.kind=5)&&decide (f.parent=0)&&decide (f.at_=0)&&decide (f.child=0)&&decide (f.left=0)&&decide (f.token=0)&&zY (λt=> !decide (t.lit=⟨#[]⟩)) f.ar))
theorem ad4{g:ai}{p a c:Int}(h:lJ g p a c=true):∃P C s,g.ak[p.toNat]? =some P/\g.ak[c.toNat]? =some C/\P.right[a.toNat]? =some s/\s=⟨false,C.left⟩:=by
 unfold lJ at h
 split at h
 . rename_i P C e1 e2
   split at h
   . rename_i s e3;simp only[Bool.and_eq_true,Bool.not_eq_true',decide_eq_true_eq]at h;exact⟨P,C,s,e1,e2,e3,by obtain⟨tok,i⟩:=s;simp only at h;rw[h.1,h.2]⟩
   . cases h
 . cases h
theorem ad5{g:ai}(ht:g.ar=ar){f:bj}(h:DT g f=true):lK g.conds.length f.cond/\tD g f:=by
 simp only[DT,Bool.and_eq_true,Bool.or_eq_true,decide_eq_true_eq,List.isEmpty_iff]at h;obtain⟨h1,h2⟩:=h;refine⟨xM h1, ?_⟩;rcases h2 with(⟨⟨⟨⟨⟨⟨⟨a,b⟩,c⟩,d⟩,e⟩,i⟩,j⟩,k⟩|⟨⟨⟨⟨⟨⟨⟨a,b⟩,c⟩,d⟩,e⟩,i⟩,j⟩,k⟩)|⟨⟨⟨⟨⟨⟨a,b⟩,c⟩,d⟩,e⟩,i⟩,k⟩
 . obtain⟨P,C,s,e1,e2,e3,e4⟩:=ad4 k;exact .inr (.inl ⟨a,b,c,d,P,C,s,e,e1,i,e2,j,e3,e4⟩)
 . have hk:nK g (λt=>t.cls=0) f.ar:=JV ht (λt h=>of_decide_eq_true h) k;rcases a with a|a
   . exact .inr (.inr (.inl ⟨a,b,c,d,e,i,j,hk⟩))
   . exact .inr (.inr (.inr (.inl ⟨a,b,c,d,e,i,j,hk⟩)))
 . refine .inr (.inr (.inr (.inr ⟨a,b,c,d,e,by omega,iX, ?_,rfl,rfl,JV ht (λt h=>by simpa using h) k⟩)));rw[ht,i];rfl
def xN(g:ai):Bool:=decide ((g.conds).Nodup)&&(g.conds.all λs=>oR.any λx=>decide (x=s))&&decide (g.aH.Nodup)&&(g.aH.all λs=> !decide (s=⟨#[]⟩))&&decide (g.start=0)&&decide ((g.ak.map (·.name)).Nodup)&&((g.ak.map (·.name)).all λs=> !decide (s=⟨#[]⟩))&&
 ((List.range 100).all λk=>(g.ak.map (·.name)).all λx=> !decide (x=jX k))&&g.ak.all (DQ g.aH.length g.conds.length)&&decide ((g.bd.flatMap (·.ak)).Nodup)&&g.bd.all (DR g.conds.length g.ak.length)&&g.bp.all (DT g)
theorem ad6:∀s∈oR,ax E true 143 [sV s] (bV true):=bO (by kernel_rfl)
theorem vB(n:Nat)(hn:n<=3):lK n (aQ true):=by
 have h:((List.range 4).all λn=>vA n (aQ true))=true:=by kernel_rfl
 exact xM (List.all_eq_true.1 h n (by simp;omega))
theorem JW:∀s∈oR,IL s/\s≠⟨#[]⟩:=λs hs=>by
 have h:(oR.all λs=> !decide (s=C4)&& !decide (s=C5)&& !decide (s=⟨#[]⟩))=true:=by kernel_rfl
 have h1:=List.all_eq_true.1 h s hs;simp only[Bool.and_eq_true,Bool.not_eq_true',decide_eq_false_iff_not]at h1;exact⟨⟨ad6 s hs,h1.1.1,h1.1.2⟩,h1.2⟩
theorem GI.base{g:ai}(hr:eg g 0)(hp:g.ak.length<=10)(ht:g.ar=ar)(hf:g.family=aQ true)(h:xN g=true):GI g 0 10:=by
 simp only[xN,Bool.and_eq_true,decide_eq_true_eq,List.all_eq_true,List.any_eq_true,Bool.not_eq_true',decide_eq_false_iff_not]at h;obtain⟨⟨⟨⟨⟨⟨⟨⟨⟨⟨⟨h1,h2⟩,h3⟩,h4⟩,h5⟩,h6⟩,h7⟩,h8⟩,h9⟩,ad⟩,ae⟩,af⟩:=h;have hc:=hr.conds;have h2:∀s∈g.conds,s∈oR:=λs hs=>by obtain⟨x,hx,rfl⟩:=h2 s hs;exact hx
 refine⟨hr,⟨⟨h1,λs hs=>(JW s (h2 s hs)).2⟩,λs hs=>(JW s (h2 s hs)).1,by omega, ?_⟩,by rw[ht],λt ab=> ?_,⟨⟨h3,h4⟩,h5⟩,hp,⟨h6,h7⟩,λk _ hk hm=>h8 k (by simpa using hk) _ hm rfl,λp hp=>ad2 ht (h9 p hp),ad,λl hl=>ad3 (ae l hl),λf hf=>ad5 ht (af f hf)⟩
 . obtain⟨c,c1,c2⟩:=vB g.conds.length hc;exact⟨c,hf.trans c1,c2,by rw[hf];decide⟩
 . rw[ht]at ab;have:∀t∈ar,t.cond=aQ true:=by
    intro t ht;simp only[ar,List.mem_append,List.mem_cons,List.mem_map,List.not_mem_nil,or_false]at ht;rcases ht with(rfl|⟨s,_,rfl⟩)|rfl|rfl<;>rfl
   rw[this t ab];exact vB _ hc
theorem ad7(b:Int):xN (iB b)=true/\(iB b).ar=ar/\(iB b).family=aQ true:=by
 unfold iB
 split
 . exact⟨by kernel_rfl,rfl,rfl⟩
 split
 . exact⟨by kernel_rfl,rfl,rfl⟩
 split
 . exact⟨by kernel_rfl,rfl,rfl⟩
 split
 . exact⟨by kernel_rfl,rfl,rfl⟩
 split
 . exact⟨by kernel_rfl,rfl,rfl⟩
 . exact⟨by kernel_rfl,rfl,rfl⟩
def JX(a b:Nat):ai:=⟨oR.take a,aQ true,ar,vd.take b,[bu ⟨#[102,105,114,115,116]⟩ 0 [⟨true,0⟩] (aQ true)],0,[],[]⟩
theorem ad8(a b:Nat)(ha:a<4)(hb:b<4)(ao:0<b):xN (JX a b)=true:=by
 have h:((List.range 4).all λa=>(List.range 4).all λb=>Nat.beq b 0||xN (JX a b))=true:=by kernel_rfl
 have h1:=List.all_eq_true.1 (List.all_eq_true.1 h a (by simpa using ha)) b (by simpa using hb);have h2:Nat.beq b 0=false:=by cases b with|zero=>omega|succ n=>rfl
 rw[h2]at h1;simpa using h1
theorem JY(x:cQ)(hx:x.Ok):GI (jY x) 0 10:=by
 obtain⟨h1,h2⟩:=It x hx;have hn:=hx.n;unfold jY at h1 h2⊢
 split
 . rename_i hk;rw[if_pos hk]at h1 h2;obtain⟨k1,k2,k3⟩:=ad7 (x.base%8);exact GI.base h1 h2 k2 k3 k1
 . rename_i hk;rw[if_neg hk]at h1 h2;have:=ad8 (x.n%4).toNat (1+x.n/4%3).toNat (by omega) (by omega) (by omega);exact GI.base h1 h2 rfl rfl this
theorem GI.ju{g:ai}{r m:Nat}(h:GI g r m)(x:cQ)(hx:x.Ok):GI (ju bx x g) r m:=by
 have aa:=(h.room.c9 bx x).1;unfold Go.Sp.ju at aa⊢;simp only at aa⊢
 split
 . rename_i hc;rw[if_pos hc]at aa;have he:Ext g {g with family:=bx x.family g.conds.length}:=⟨rfl,rfl,λi t ht=>⟨t,ht,rfl,rfl⟩,λi p hp=>hp⟩;refine⟨aa,⟨h.c9.new,h.c9.id,h.c9.len, ?_⟩,h.tk,h.tc,h.aH,h.nP,h.new,h.res,λp hp=>(h.ok p hp).ext he,h.nd,λl hl=>(h.qn l hl).ext he,λx hx=>⟨(h.lg x hx).1,(h.lg x hx).2.ext he⟩⟩;refine⟨_,rfl,DN _ (IF _ _ ?_ h.room.conds),hc.2⟩;have hf:=hc.1;cases hl:x.family with
   |nil=>rw[hl]at hf;simp at hf
   |cons b r=>
    have:=hx.family b (by rw[hl];simp);simp[hd];omega
 . exact h
theorem vD(x:cQ)(hx:x.Ok):GI (cL bx x) 6 20:=by
 have h0:=(JY x hx).ju x hx;unfold cL;simp only;have hm:∀{α:Type} (l:List α) (n:Nat),(l.take n).length<=n:=λl n=>by rw[List.length_take];omega
 have au:=hm x.lines (if decide (x.base%8<6)=true then 6 else 10);have av:(if decide (x.base%8<6)=true then 6 else 10)<=10:=by split<;>omega
 have h1:=GI.lines (decide (x.base%8<6)) (x.lines.take (if decide (x.base%8<6)=true then 6 else 10)) h0 (λl hl=>hx.lines l (List.mem_of_mem_take hl)) (by omega);have h2:=GI.rules (x.rules.take 6) h1 (λl hl=>hx.rules l (List.mem_of_mem_take hl));have ay:=hm x.rules 6;have up:∀{g:ai} {r m:Nat},GI g r m->∀r' m',r<=r'->m<=m'->GI g r' m':=λh r' m' h1 h2=>⟨⟨h.room.ak,h.room.aH,h.room.conds,by have:=h.room.bp;omega,by have:=h.room.bd;omega,h.room.ar,h.room.mM,h.room.ord⟩,h.c9,h.tk,h.tc,h.aH,by have:=h.nP;omega,h.new,h.res,h.ok,h.nd,h.qn,h.lg⟩;exact up h2 _ _ (by omega) (by omega)
end Go.Sp
end
noncomputable section
open Go Go.aw Go.Proofs
namespace Go.Sp
set_option maxRecDepth 100000
structure EI(NU:Int->Prop)(n:Nat)(ak:List aR):Prop where
 JZ:∀p∈ak,zR p->(∀s∈p.right,NU s.idx)->NU p.left
 J0:∀p∈ak,∀(k:Nat) (s:Sym),p.right[k]? =some s->s.tok=false->(∀(i:Nat) (s':Sym),i≠k->p.right[i]? =some s'->s'.tok=false/\NU s'.idx)->p.left<s.idx/\s.idx<n
theorem EI.add{NU:Int->Prop}{n:Nat}{l:List aR}{p:aR}(h:EI NU n l)(h1:zR p->(∀s∈p.right,NU s.idx)->NU p.left)(h2:∀(k:Nat) (s:Sym),p.right[k]? =some s->s.tok=false->(∀(i:Nat) (s':Sym),i≠k->p.right[i]? =some s'->s'.tok=false/\NU s'.idx)->p.left<s.idx/\s.idx<n):EI NU n (l++[p]):=by
 refine⟨λq hq=> ?_,λq hq=> ?_⟩
 . rcases List.mem_append.1 hq with hq|hq
   . exact h.JZ q hq
   . obtain rfl:=List.mem_singleton.1 hq;exact h1
 . rcases List.mem_append.1 hq with hq|hq
   . exact h.J0 q hq
   . obtain rfl:=List.mem_singleton.1 hq;exact h2
def zZ(NU:Int->Bool)(n:Nat)(p:aR):Bool:=(!(p.right.all λs=> !s.tok)|| !(p.right.all λs=>NU s.idx)||NU p.left)&&
 (List.range p.right.length).all λk=>match p.right[k]? with
  |none=>true
  |some s=>s.tok|| !((List.range p.right.length).all λi=>Nat.beq i k||match p.right[i]? with|some s'=> !s'.tok&&NU s'.idx|none=>true)||(decide (p.left<s.idx)&&decide (s.idx<n))
theorem ad9{NU:Int->Bool}{n:Nat}{l:List aR}(h:l.all (zZ NU n)=true):EI (λi=>NU i=true) n l:=by
 refine⟨λp hp h1 h2=> ?_,λp hp k s hk hs ab=> ?_⟩
 . have h3:=List.all_eq_true.1 h p hp;simp only[zZ,Bool.and_eq_true,Bool.or_eq_true,Bool.not_eq_true']at h3;rcases h3.1 with(h4|h4)|h4
   . have:(p.right.all λs=> !s.tok)=true:=List.all_eq_true.2 λs hs=>by rw[h1 s hs];rfl
     rw[this]at h4;cases h4
   . have:(p.right.all λs=>NU s.idx)=true:=List.all_eq_true.2 λs hs=>h2 s hs;rw[this]at h4;cases h4
   . exact h4
 . have h3:=List.all_eq_true.1 h p hp;simp only[zZ,Bool.and_eq_true]at h3;have aC:=(List.getElem?_eq_some_iff.1 hk).1;have h4:=List.all_eq_true.1 h3.2 k (by simpa using aC);rw[hk]at h4;simp only[Bool.or_eq_true,Bool.and_eq_true,decide_eq_true_eq]at h4;rcases h4 with(h4|h4)|h4
   . rw[hs]at h4;cases h4
   . have:((List.range p.right.length).all λi=>Nat.beq i k||match p.right[i]? with|some s'=> !s'.tok&&NU s'.idx|none=>true)=true:=List.all_eq_true.2 λi hi=>by
      cases hb:Nat.beq i k with
      |true=>rfl
      |false=>
       have au:i≠k:=λhe=>by subst he;rw[Nat.beq_refl]at hb;cases hb
       rw[Bool.false_or];cases hx:p.right[i]? with
       |none=>rfl
       |some s'=>
        obtain⟨a,b⟩:=ab i s' au hx;simp only[a,b];rfl
     rw[this]at h4;cases h4
   . exact h4
theorem EI.line{NU:Int->Prop}{g:ai}(sm:Int->Nat->Dg)(x:Ln)(known:Bool)(hx:x.Ok)(hn:0<g.aH.length)(ad:known=false->∀i,NU i)(h:EI NU g.aH.length g.ak):EI NU (gy sm g x known).aH.length (gy sm g x known).ak:=by
 unfold gy;simp only
 split
 . exact h
 . rename_i hc;have hlen:((x.right.take 4).map (jW (g.aH.length:Int))).length<=4:=by rw[List.length_map,List.length_take];omega
   have mk:=JR (jX g.ak.length) (x.left%(g.aH.length:Int)) ((x.right.take 4).map (jW (g.aH.length:Int))) (sm x.cond g.conds.length) x.mark hlen hx.mark.1 hx.mark.2;obtain⟨r,hr⟩:∃r,(x.right.take 4).map (jW (g.aH.length:Int))=r:=⟨_,rfl⟩;have av:∀s∈r,s.tok=false->s.idx<g.aH.length:=λs hs ht=>by
    rw[<-hr]at hs;obtain⟨b,_,rfl⟩:=List.mem_map.1 hs;unfold jW at ht⊢
    split at ht
    . cases ht
    . rename_i hb;rw[if_neg hb];exact Int.emod_lt_of_pos _ (by omega)
   rw[hr]at mk hc⊢;generalize mark (jX g.ak.length) (x.left%(g.aH.length:Int)) r (sm x.cond g.conds.length) x.mark=P at mk⊢;have aa:=mk.right;have af:=mk.left;by_cases ht:r.any (·.tok)=true
   . obtain⟨s0,az,ay⟩:=List.any_eq_true.1 ht;obtain⟨i0,aB⟩:=List.getElem?_of_mem az;refine h.add (λaD=> ?_) λk s hk hs ab=> ?_
     . have:=aD s0 (by rw[aa];exact az);rw[ay]at this;cases this
     . rw[aa]at hk ab;have au:i0≠k:=λhe=>by subst he;rw[aB]at hk;cases hk;rw[ay]at hs;cases hs
       have:=(ab i0 s0 au aB).1;rw[ay]at this;cases this
   . have hf:r.any (·.tok)=false:=by simpa using ht
     have hk:known=false/\(r.all λs=>s.tok||decide (x.left%(g.aH.length:Int)<s.idx))=true:=by
      cases known with
      |true=>exact absurd ⟨hf,.inl rfl⟩ hc
      |false=>
       refine⟨rfl, ?_⟩;cases ha:(r.all λs=>s.tok||decide (x.left%(g.aH.length:Int)<s.idx))with
       |true=>rfl
       |false=>exact absurd ⟨hf,.inr ha⟩ hc
     refine h.add (λ_ _=>ad hk.1 _) λk s ae hs _=> ?_;rw[aa]at ae;have hm:=List.mem_of_getElem? ae;have:=List.all_eq_true.1 hk.2 s hm;rw[hs,Bool.false_or,decide_eq_true_eq]at this;rw[af];exact⟨this,av s hm hs⟩
theorem aea(sm:Int->Nat->Dg)(g:ai)(x:Ln)(known:Bool):(gy sm g x known).aH=g.aH:=by
 unfold gy;simp only
 split<;>rfl
theorem EI.lines{NU:Int->Prop}(sm:Int->Nat->Dg)(known:Bool)(ad:known=false->∀i,NU i):∀(ls:List Ln) {g:ai},(∀l∈ls,l.Ok)->0<g.aH.length->EI NU g.aH.length g.ak->EI NU (ls.foldl (λg l=>gy sm g l known) g).aH.length (ls.foldl (λg l=>gy sm g l known) g).ak
 |[],_,_,_,h=>h
 |l::ls,g,hl,hn,h=>EI.lines sm known ad ls (λx hx=>hl x (List.mem_cons_of_mem _ hx)) (by rw[aea];exact hn) (h.line sm l known (hl l (by simp)) hn ad)
theorem aeb(sm:Int->Nat->Dg)(g:ai)(x:Rl):(jV sm g x).aH=g.aH/\(jV sm g x).ak=g.ak:=by
 unfold jV k8;simp only
 repeat' split
 all_goals exact⟨rfl,rfl⟩
theorem J1(sm:Int->Nat->Dg):∀(ls:List Rl) (g:ai),(ls.foldl (jV sm) g).aH=g.aH/\(ls.foldl (jV sm) g).ak=g.ak
 |[],_=>⟨rfl,rfl⟩
 |l::ls,g=>by
  obtain⟨h1,h2⟩:=J1 sm ls (jV sm g l);obtain⟨h3,h4⟩:=aeb sm g l;exact⟨h1.trans h3,h2.trans h4⟩
def tH(b:Int):Int->Bool:=λi=>if b%6=2 then decide (i=0)else if b%6=4 then decide (i=2)else if b%6=5 then decide (i=1\/i=2)else false
theorem aec(b:Int):EI (λi=>tH b i=true) (iB b).aH.length (iB b).ak:=by
 have h:((List.range 6).all λb=>(iB (b:Nat)).ak.all (zZ (tH (b:Nat)) (iB (b:Nat)).aH.length))=true:=by kernel_rfl
 have h2:∀c:Int,0<=c->c<6->EI (λi=>tH c i=true) (iB c).aH.length (iB c).ak:=λc h0 h1=>by
  have:=List.all_eq_true.1 h c.toNat (by simp;omega);rw[Int.toNat_of_nonneg h0]at this;exact ad9 this
 have e1:tH b=tH (b%6):=by funext i;simp only[tH,Int.emod_emod]
 have e2:iB b=iB (b%6):=by simp only[iB,Int.emod_emod]
 rw[e1,e2];exact h2 _ (Int.emod_nonneg _ (by decide)) (Int.emod_lt_of_pos _ (by decide))
theorem aed(md:List Int->Nat->Dg)(x:cQ)(g:ai):(ju md x g).aH=g.aH/\(ju md x g).ak=g.ak:=by
 unfold ju;simp only
 split<;>exact⟨rfl,rfl⟩
theorem aee(x:cQ)(hx:x.Ok):∃NU:Int->Prop,EI NU (cL bx x).aH.length (cL bx x).ak:=by
 have ao:=(JY x hx).room;have key:∀NU:Int->Prop,(decide (x.base%8<6)=false->∀i,NU i)->EI NU (jY x).aH.length (jY x).ak->EI NU (cL bx x).aH.length (cL bx x).ak:=λNU ad hb=>by
  unfold cL;simp only;obtain⟨e1,e2⟩:=J1 (cB bx) (x.rules.take 6) ((x.lines.take (if decide (x.base%8<6)=true then 6 else 10)).foldl (λg l=>gy (cB bx) g l (decide (x.base%8<6))) (ju bx x (jY x)));rw[e1,e2];obtain⟨f1,f2⟩:=aed bx x (jY x);exact EI.lines (cB bx) _ ad _ (λl hl=>hx.lines l (List.mem_of_mem_take hl)) (by rw[f1];exact ao.aH.1) (by rw[f1,f2];exact hb)
 by_cases hk:x.base%8<6
 . refine⟨λi=>tH (x.base%8) i=true,key _ (λh=>by simp[hk]at h) ?_⟩;have:jY x=iB (x.base%8):=by unfold jY;rw[if_pos hk]
   rw[this];exact aec _
 . refine⟨λ_=>True,key _ (λ_ _=>trivial) ?_⟩;have:(jY x).ak=[bu ⟨#[102,105,114,115,116]⟩ 0 [⟨true,0⟩] (aQ true)]:=by unfold jY;rw[if_neg hk]
   rw[this];refine⟨λp hp _ _=>trivial,λp hp k s ae hs _=> ?_⟩;obtain rfl:=List.mem_singleton.1 hp;cases k with
   |zero=>simp[bu]at ae;rw[<-ae]at hs;cases hs
   |succ k=>simp[bu]at ae
end Go.Sp
end
noncomputable section
open Go Go.aw Go.Proofs
namespace Go.Sp
set_option maxRecDepth 100000
theorem wrap_u64{x:Int}(h1:0<=x)(h2:x<256):IntKind.u64.wrap x=x:=by
 simp[IntKind.wrap,IntKind.bits,IntKind.signed];omega
theorem Ac(a:Nat):BitVec.ofInt IntKind.u64.bits (a:Int)=BitVec.ofNat 64 a:=by simp[IntKind.bits]
theorem tI(a b:Nat)(ha:a<256)(hb:b<256):IntKind.u64.wrap (((BitVec.ofInt IntKind.u64.bits (a:Int)|||BitVec.ofInt IntKind.u64.bits (b:Int)).toNat:Nat):Int)=((a|||b:Nat):Int):=by
 have h:a|||b<2^8:=Nat.or_lt_two_pow ha hb;rw[Ac,Ac];show IntKind.u64.wrap (((BitVec.ofNat 64 a|||BitVec.ofNat 64 b:BitVec 64).toNat:Nat):Int)=_;rw[BitVec.toNat_or,BitVec.toNat_ofNat,BitVec.toNat_ofNat,Nat.mod_eq_of_lt (by omega),Nat.mod_eq_of_lt (by omega)];exact wrap_u64 (by omega) (by omega)
theorem DZ(a b:Nat)(ha:a<256)(hb:b<256):IntKind.u64.wrap (((BitVec.ofInt IntKind.u64.bits (a:Int)&&&BitVec.ofInt IntKind.u64.bits (b:Int)).toNat:Nat):Int)=((a&&&b:Nat):Int):=by
 have h:a&&&b<=a:=Nat.and_le_left;rw[Ac,Ac];show IntKind.u64.wrap (((BitVec.ofNat 64 a&&&BitVec.ofNat 64 b:BitVec 64).toNat:Nat):Int)=_;rw[BitVec.toNat_and,BitVec.toNat_ofNat,BitVec.toNat_ofNat,Nat.mod_eq_of_lt (by omega),Nat.mod_eq_of_lt (by omega)];exact wrap_u64 (by omega) (by omega)
theorem aei{a b:Nat}(ha:a<256)(hb:b<256):a|||b<256:=Nat.or_lt_two_pow (n:=8) ha hb
theorem nS(h:ab):h.up h.next=h:=rfl
theorem aej{i:Nat}(hi:i<8):2^i<256/\IntKind.u64.wrap ((2:Int)^i)=((2^i:Nat):Int):=by
 have:i=0\/i=1\/i=2\/i=3\/i=4\/i=5\/i=6\/i=7:=by omega
 rcases this with rfl|rfl|rfl|rfl|rfl|rfl|rfl|rfl<;>exact⟨by decide,by decide⟩
set_option maxHeartbeats 4000000 in
theorem J2{aj:Bool}{K:cF}{dd:List FuncId}{h:ab}{R w i z:Nat}(hw:w<256)(hi:i<8)(hR:h.get R=some (.row (pl w) true z))(hk:∀T,K (.bg []) dd (h.set R (some (.row (pl (w|||2^i)) true z))) T):
 aq E aj K dd h (116,[.v (.pointer (some ⟨R,0,none⟩)),iV (i:Nat)]):=by
 refine im WA rfl Tryz.ntmps116 Tryz.results116 ?_;obtain⟨h2,h3⟩:=aej hi;have e1:(i:Int).tdiv 64=0:=Int.tdiv_eq_zero_of_lt (by omega) (by omega);have e2:(i:Int).tmod 64=i:=Int.tmod_eq_of_lt (by omega) (by omega);simp(disch:=omega)[go_sem];refine ck [ae 0,ae 0,ae 2,ae 1,ae 15,aJ 31,ae 0,ae 64,ae 192,ae 511,ae 1,ae 2047,aN 4095] (by kernel_rfl) 0 rfl ?_;have h4:=tI w (2^i) hw h2;simp(disch:=omega)[go_sem,h3]at h4;simp(disch:=omega)[go_sem,hR,pl,e1,e2,h3,h4,aD,dU,nS];exact hk
set_option maxHeartbeats 4000000 in
theorem tJ{aj:Bool}{K:cF}{dd:List FuncId}{h:ab}{R a b z:Nat}(ha:a<256)(hb:b<256)(hR:h.get R=some (.row (pl a) true z))(au:R<h.next)
 (hk:∀h' T,h'.next=h.next+1->h'.get R=some (.row (pl (a|||b)) true z)->(∀i,i<h.next->i≠R->h'.get i=h.get i)->K (.bg []) dd h' T):
 aq E aj K dd h (114,[.v (.pointer (some ⟨R,0,none⟩)),.agg (pl b)]):=by
 refine im GK rfl Tryz.ntmps114 Tryz.results114 ?_;have h4:=tI a b ha hb;have h5:=tI 0 0 (by decide) (by decide);simp(disch:=omega)[go_sem]at h4 h5;obtain⟨N,hN⟩:∃N,h.next=N:=⟨_,rfl⟩;rw[hN]at au hk;simp(disch:=omega)[go_sem,hN,pl];obtain⟨I,hI⟩:∃I:Nat->DS->Prop,∀j d,I j d↔∃(k:Nat) (H:ab),j+k=8/\H.next=N+1/\H.get R=some (.row (pl (if k=0 then a else a|||b)) true z)/\H.get N=some (.row (pl b) true 0)/\(∀i,i<N->i≠R->H.get i=h.get i)/\
  d=⟨bQ [(0,.v (.pointer (some ⟨R,0,none⟩))),(3,.v (.pointer (some ⟨N,0,none⟩))),(5,iV (k:Nat))],20,[],H⟩:=⟨_,λ_ _=>Iff.rfl⟩
 refine cx I 8 ⟨_,aA.bN (l:=[(0,.v (.pointer (some ⟨R,0,none⟩))),(3,.v (.pointer (some ⟨N,0,none⟩))),(5,iV (0:Nat))]) ?_,(hI _ _).2 ⟨0,_,rfl, ?_, ?_, ?_, ?_,rfl⟩⟩ ?_
 . simp(disch:=omega)[go_sem]
 . simp(disch:=omega)[go_sem,hN]
 . simp(disch:=omega)[go_sem,hN,hR]
 . simp(disch:=omega)[go_sem,hN,pl]
 . intro i h1 h2;simp(disch:=omega)[go_sem,hN]
 . intro j ds ad;obtain⟨k,H,hj,hH,f1,f2,f3,rfl⟩:=(hI _ _).1 ad;clear ad;by_cases av:k=8
   . subst av;simp(disch:=omega)[go_sem];intro T;exact hk _ T (by omega) f1 f3
   . by_cases af:k=0
     . subst af;simp only[if_true]at f1;simp(disch:=omega)[go_sem];refine ck [ae 0,ae 0,ae 1,ae 7,aJ 15,ae 0,ae 32,aJ 96,ae 255,ae 1,ae 1023,aN 2047] (by kernel_rfl) 0 rfl ?_;simp(disch:=omega)[go_sem,f1,f2,pl,h4,dU,nS,aD];refine⟨7,by omega,_,aA.bN (l:=[(0,.v (.pointer (some ⟨R,0,none⟩))),(3,.v (.pointer (some ⟨N,0,none⟩))),(5,iV (1:Nat))]) ?_,(hI _ _).2 ⟨1,_,rfl, ?_, ?_, ?_, ?_,rfl⟩⟩
       . simp(disch:=omega)[go_sem]
       . simp(disch:=omega)[go_sem,hH]
       . simp(disch:=omega)[go_sem,pl]
       . simp(disch:=omega)[go_sem,f2]
       . intro i h1 h2;simp(disch:=omega)[go_sem,f3,h1,h2]
     . rw[if_neg af]at f1;have ay:(k:Int)<8:=by omega
       have aa:∀c:Nat,(pl c)[k]? =some (.v (.int .u64 0)):=λc=>by
        have:k=1\/k=2\/k=3\/k=4\/k=5\/k=6\/k=7:=by omega
        rcases this with rfl|rfl|rfl|rfl|rfl|rfl|rfl<;>rfl
       have az:∀c:Nat,(pl c).take k++[.v (.int .u64 0)]++(pl c).drop (k+1)=pl c:=λc=>by
        have:k=1\/k=2\/k=3\/k=4\/k=5\/k=6\/k=7:=by omega
        rcases this with rfl|rfl|rfl|rfl|rfl|rfl|rfl<;>rfl
       simp(disch:=omega)[go_sem,ay];refine ck [ae 0,ae 0,ae 1,ae 7,aJ 15,ae 0,ae 32,aJ 96,ae 255,ae 1,ae 1023,aN 2047] (by kernel_rfl) 0 rfl ?_;have hlen:∀c:Nat,(pl c).length=8:=λc=>rfl;have ai:(pl (a|||b)).take k++.v (.int .u64 0)::(pl (a|||b)).drop (k+1)=pl (a|||b):=by simpa using az (a|||b)
       have aB:∀c x,x∈(pl c).drop (k+1)->di x=true:=λc x hx=>by
        have hx:=List.mem_of_mem_drop hx;simp only[pl,List.mem_cons,List.not_mem_nil,or_false]at hx;rcases hx with rfl|rfl|rfl|rfl|rfl|rfl|rfl|rfl<;>rfl
       simp(disch:=omega)[go_sem,f1,f2,dU,nS,aD,aa,h5,hlen,ai,show k<=7 from by omega];refine⟨j-1,by omega,_,aA.bN (l:=[(0,.v (.pointer (some ⟨R,0,none⟩))),(3,.v (.pointer (some ⟨N,0,none⟩))),(5,iV (k+1:Nat))]) ?_,(hI _ _).2 ⟨k+1,_,by omega, ?_, ?_, ?_, ?_,rfl⟩⟩
       . simp(disch:=omega)[go_sem]
       . simp(disch:=omega)[go_sem,hH]
       . simp(disch:=omega)[go_sem]
       . simp(disch:=omega)[go_sem,f2]
       . intro i h1 h2;simp(disch:=omega)[go_sem,f3,h1,h2]
set_option maxHeartbeats 4000000 in
theorem aek{aj:Bool}{K:cF}{dd:List FuncId}{h:ab}{R a b z:Nat}(ha:a<256)(hb:b<256)(hR:h.get R=some (.row (pl a) true z))(au:R<h.next)
 (hk:∀N,h.next<=N->K (bV (decide (a&&&b≠0))) dd (h.up N) [R]):
 aq E aj K dd h (118,[.v (.pointer (some ⟨R,0,none⟩)),.agg (pl b)]):=by
 refine vx [R] WC rfl Tryz.ntmps118 Tryz.results118 ?_;simp only[fh,hR];have h4:=DZ a b ha hb;have h5:=DZ 0 0 (by decide) (by decide);simp(disch:=omega)[go_sem]at h4 h5;obtain⟨N,hN⟩:∃N,h.next=N:=⟨_,rfl⟩;rw[hN]at au hk;simp(disch:=omega)[go_sem,hN,pl];obtain⟨I,hI⟩:∃I:Nat->DS->Prop,∀j d,I j d↔∃(k:Nat) (H:ab),j+k=8/\(k≠0->a&&&b=0)/\H.next=N+1/\H.get R=some (.row (pl a) true z)/\H.get N=some (.row (pl b) true 0)/\
  d=⟨bQ [(0,.v (.pointer (some ⟨R,0,none⟩))),(3,.v (.pointer (some ⟨N,0,none⟩))),(6,iV (k:Nat))],20,[],H⟩:=⟨_,λ_ _=>Iff.rfl⟩
 refine cx I 8 ⟨_,aA.bN (l:=[(0,.v (.pointer (some ⟨R,0,none⟩))),(3,.v (.pointer (some ⟨N,0,none⟩))),(6,iV (0:Nat))]) ?_,(hI _ _).2 ⟨0,_,rfl,λh=>absurd rfl h, ?_, ?_, ?_,rfl⟩⟩ ?_
 . simp(disch:=omega)[go_sem]
 . simp(disch:=omega)[go_sem,hN]
 . simp(disch:=omega)[go_sem,hN,hR];try rfl
 . simp(disch:=omega)[go_sem,hN,pl]
 . intro j ds ad;obtain⟨k,H,hj,hz,hH,f1,f2,rfl⟩:=(hI _ _).1 ad;clear ad;by_cases av:k=8
   . subst av;have aC:=hz (by decide);simp(disch:=omega)[go_sem];refine⟨by first|rw[f1,hR]|simp[hR,pl], ?_⟩;have:=hk (N+1) (by omega);simpa[aC,hH]using this
   . by_cases af:k=0
     . subst af;simp(disch:=omega)[go_sem];refine ck [ae 0,ae 0,ae 1,ae 7,aJ 15,ae 0,ae 32,aJ 96,ae 255,ae 511] (by kernel_rfl) 0 rfl ?_;by_cases ao:a&&&b=0
       . simp(disch:=omega)[go_sem,f1,f2,pl,h4,ao,dU,nS,aD];refine⟨7,by omega,_,aA.bN (l:=[(0,.v (.pointer (some ⟨R,0,none⟩))),(3,.v (.pointer (some ⟨N,0,none⟩))),(6,iV (1:Nat))]) ?_,(hI _ _).2 ⟨1,_,rfl,λ_=>ao,hH,f1,f2,rfl⟩⟩;simp(disch:=omega)[go_sem]
       . simp(disch:=omega)[go_sem,f1,f2,pl,h4,ao,dU,nS,aD];refine⟨by first|rw[f1,hR]|simp[hR,pl], ?_⟩;have:=hk (N+1) (by omega);simpa[ao,hH]using this
     . have ay:(k:Int)<8:=by omega
       have aa:∀c:Nat,(pl c)[k]? =some (.v (.int .u64 0)):=λc=>by
        have:k=1\/k=2\/k=3\/k=4\/k=5\/k=6\/k=7:=by omega
        rcases this with rfl|rfl|rfl|rfl|rfl|rfl|rfl<;>rfl
       have hlen:∀c:Nat,(pl c).length=8:=λc=>rfl;simp(disch:=omega)[go_sem,ay];refine ck [ae 0,ae 0,ae 1,ae 7,aJ 15,ae 0,ae 32,aJ 96,ae 255,ae 511] (by kernel_rfl) 0 rfl ?_;simp(disch:=omega)[go_sem,f1,f2,dU,nS,aD,aa,h5,hlen];refine⟨j-1,by omega,_,aA.bN (l:=[(0,.v (.pointer (some ⟨R,0,none⟩))),(3,.v (.pointer (some ⟨N,0,none⟩))),(6,iV (k+1:Nat))]) ?_,(hI _ _).2 ⟨k+1,_,by omega,λ_=>hz af,hH,f1,f2,rfl⟩⟩;simp(disch:=omega)[go_sem]
end Go.Sp
end
noncomputable section
open Go Go.aw Go.Proofs
namespace Go.Sp
set_option maxRecDepth 100000
theorem ael(w:Nat)(h0:0<w)(h1:w<256):ax E true 153 [.v (.int .u64 (w:Nat))] (iV (nR w:Nat)):=by
 have:=aeg (w-1) (by simp;omega);rwa[show w-1+1=w by omega]at this
theorem aem(w:Nat)(h1:w<256):nR w<8/\(0<w->w&&&(w-1)<w):=by
 have h:((List.range 256).all λw=>Nat.blt (nR w) 8&&(Nat.beq w 0||Nat.blt (w&&&(w-1)) w))=true:=by kernel_rfl
 have h2:=List.all_eq_true.1 h w (by simpa using h1);simp only[Bool.and_eq_true,Bool.or_eq_true]at h2;refine⟨Nat.le_of_ble_eq_true h2.1,λh0=> ?_⟩;rcases h2.2 with h3|h3
 . have:=Nat.eq_of_beq_eq_true h3;omega
 . exact Nat.le_of_ble_eq_true h3
theorem aen(w:Nat)(h0:0<w)(h1:w<256):IntKind.u64.wrap (((BitVec.ofInt IntKind.u64.bits (w:Int)&&&BitVec.ofInt IntKind.u64.bits (IntKind.u64.wrap ((w:Int)-1))).toNat:Nat):Int)=((w&&&(w-1):Nat):Int):=by
 rw[show((w:Int)-1)=((w-1:Nat):Int) by omega,wrap_u64 (x:=((w-1:Nat):Int)) (by omega) (by omega)];exact DZ w (w-1) h1 (by omega)
set_option maxHeartbeats 4000000 in
theorem J3{K:cF}{dd:List FuncId}{h:ab}{w R:Nat}(hw:w<256)(f:FuncId)(aa:List DV)(Inv:Nat->ab->Prop)(hR:∀w' H,Inv w' H->∃z,H.get R=some (.row (pl w) true z))
 (ao:∀w' H (K':cF) aE,0<w'->w'<256->Inv w' H->(∀H' T,Inv (w'&&&(w'-1)) H'->K' (.bg []) aE H' T)->aq E true K' aE H (f,iV (nR w':Nat)::aa))
 (aI:∀w' H M,H.next<=M->Inv w' H->Inv w' (H.up M)) (h0:Inv w h) (hk:∀H' T,Inv 0 H'->K (.bg []) dd H' T):
 aq E true K dd h (112,[.v (.pointer (some ⟨R,0,none⟩)),.fn f [] aa]):=by
 refine im Wx rfl Tryz.ntmps112 Tryz.results112 ?_;simp(disch:=omega)[go_sem];obtain⟨I,hI⟩:∃I:Nat->DS->Prop,∀j d,I j d↔∃(k:Nat) (H:ab),j+k=8/\Inv (if k=0 then w else 0) H/\
  d=⟨bQ [(1,.fn f [] aa),(6,.v (.pointer (some ⟨R,0,none⟩))),(7,iV (k:Nat))],27,[],H⟩:=⟨_,λ_ _=>Iff.rfl⟩
 refine cx I 8 ⟨_,aA.bN (l:=[(1,.fn f [] aa),(6,.v (.pointer (some ⟨R,0,none⟩))),(7,iV (0:Nat))]) ?_,(hI _ _).2 ⟨0,_,rfl,h0,rfl⟩⟩ ?_
 . simp(disch:=omega)[go_sem]
 . intro j ds au;obtain⟨k,H,hj,af,rfl⟩:=(hI _ _).1 au;clear au;by_cases aL:k=8
   . subst aL;simp(disch:=omega)[go_sem];intro T;exact hk _ T af
   . have aN:(k:Int)<8:=by omega
     obtain⟨z,f1⟩:=hR _ _ af;have av:(pl w)[k]? =some (.v (.int .u64 ((if k=0 then w else 0:Nat):Nat))):=by
      have:k=0\/k=1\/k=2\/k=3\/k=4\/k=5\/k=6\/k=7:=by omega
      rcases this with rfl|rfl|rfl|rfl|rfl|rfl|rfl|rfl<;>rfl
     generalize hv:(if k=0 then w else 0)=v at af av;have ay:v<256:=by split at hv<;>omega
     have aO:v=0\/k=0:=by split at hv<;>omega
     clear hv;simp(disch:=omega)[go_sem,aN];refine ck [ae 0,ae 0,ae 2,aJ 6,ae 1,ae 31] (by kernel_rfl) 0 rfl ?_;simp(disch:=omega)[go_sem,f1,dU,nS,av];obtain⟨J,hJ⟩:∃J:Nat->DS->Prop,∀j d,J j d↔∃(H:ab),j<256/\(j=0\/k=0)/\Inv j H/\
      d=⟨bQ [(1,.fn f [] aa),(4,iV (k:Nat)),(5,.v (.int .u64 (j:Nat))),(6,.v (.pointer (some ⟨R,0,none⟩))),(7,iV (k:Nat))],27,[],H⟩:=⟨_,λ_ _=>Iff.rfl⟩
     refine cx J v ⟨_,aA.bN (l:=[(1,.fn f [] aa),(4,iV (k:Nat)),(5,.v (.int .u64 (v:Nat))),(6,.v (.pointer (some ⟨R,0,none⟩))),(7,iV (k:Nat))]) ?_,(hJ _ _).2 ⟨_,ay,aO,af,rfl⟩⟩ ?_
     . simp(disch:=omega)[go_sem]
     . intro u ds au;obtain⟨H,hu,aT,af,rfl⟩:=(hJ _ _).1 au;clear au;by_cases aF:u=0
       . subst aF;simp(disch:=omega)[go_sem,aD];refine⟨j-1,by omega,_,aA.bN (l:=[(1,.fn f [] aa),(6,.v (.pointer (some ⟨R,0,none⟩))),(7,iV (k+1:Nat))]) ?_,(hI _ _).2 ⟨k+1,_,by omega,by rw[if_neg (by omega)];exact af,rfl⟩⟩;simp(disch:=omega)[go_sem]
       . have aQ:k=0:=by omega
         subst aQ;obtain⟨ht,ai⟩:=aem u hu;have ai:=ai (by omega);have aR:=ael u (by omega) hu;have h6:=aen u (by omega) hu;simp(disch:=omega)[go_sem]at h6;simp(disch:=omega)[go_sem,aF];refine aq.mk aR λM hM=> ?_;simp(disch:=omega)[go_sem,aD];refine ao u _ _ _ (by omega) hu (aI _ _ _ hM af) λH' T aB=> ?_;simp(disch:=omega)[go_sem,h6];refine⟨u&&&(u-1),ai,_,aA.bN (l:=[(1,.fn f [] aa),(4,iV (0:Nat)),(5,.v (.int .u64 ((u&&&(u-1):Nat):Nat))),(6,.v (.pointer (some ⟨R,0,none⟩))),(7,iV (0:Nat))]) ?_,(hJ _ _).2 ⟨_,by omega,.inr rfl,aB,rfl⟩⟩;simp(disch:=omega)[go_sem]
def lh(m:dP)(b:Int)(i:Nat)(s:Nat×Nat):Nat×Nat:=match m.p[i]?,m.follow[i]? with
 |some x,some f=>if x.lo<=b/\b<=x.hi then(s.1|||2^i,s.2|||f)else s
 |_,_=>s
structure dP.Ok(m:dP):Prop where
 first:m.first<2^m.p.length
 last:m.last<2^m.p.length
 follow:∀f∈m.follow,f<2^m.p.length
 len:m.p.length<=8
 Ad:m.follow.length=m.p.length
theorem D0:∀m∈gQ,m.Ok:=by
 have h:(gQ.all λm=>Nat.blt m.first (2^m.p.length)&&Nat.blt m.last (2^m.p.length)&&(m.follow.all λf=>Nat.blt f (2^m.p.length))&&Nat.ble m.p.length 8&&Nat.beq m.follow.length m.p.length)=true:=by kernel_rfl
 intro m hm;have:=List.all_eq_true.1 h m hm;simp only[Bool.and_eq_true,List.all_eq_true]at this;obtain⟨⟨⟨⟨h1,h2⟩,h3⟩,h4⟩,h5⟩:=this;exact⟨Nat.le_of_ble_eq_true h1,Nat.le_of_ble_eq_true h2,λf hf=>Nat.le_of_ble_eq_true (h3 f hf),Nat.le_of_ble_eq_true h4,Nat.eq_of_beq_eq_true h5⟩
theorem dP.Ok.pow{m:dP}(hm:m.Ok){x:Nat}(h:x<2^m.p.length):x<256:=Nat.lt_of_lt_of_le h (Nat.pow_le_pow_right (n:=2) (by decide) hm.len)
theorem dP.Ae(m:dP):m.e=[.sl 5 (m.p.map aY.e),.v (.int .u64 m.first),.v (.int .u64 0),.v (.int .u64 0),.v (.int .u64 0),.v (.int .u64 0),.v (.int .u64 0),.v (.int .u64 0),.v (.int .u64 0),.v (.int .u64 m.last),.v (.int .u64 0),.v (.int .u64 0),.v (.int .u64 0),.v (.int .u64 0),.v (.int .u64 0),.v (.int .u64 0),.v (.int .u64 0),.sl 8 (m.follow.map pl),bV m.empty]:=rfl
theorem fm(c:Nat):(pl c).length=8:=rfl
theorem jA(c:Nat):(pl c).drop 8=[]:=rfl
theorem iD(c:Nat):(∀d∈pl c,di d=true)=True:=eq_true λd hd=>by
 simp only[pl,List.mem_cons,List.not_mem_nil,or_false]at hd;rcases hd with rfl|rfl|rfl|rfl|rfl|rfl|rfl|rfl<;>rfl
theorem gR(c:Nat):(pl c).take 8=pl c:=rfl
theorem J4:E.P.underlying 9=some .string:=by kernel_rfl
theorem aeo(t:ByteArray)(n:Nat)(b:UInt8)(h:t[n]? =some b):oG E 9 (sV t) (iV (n:Nat))=some (.v (.int .u8 b.toNat)):=by
 have:=YP (e:=E) J4 u9 t .i64 (n:Int) b (by omega) (by simpa using h);simp[oG,this]
set_option maxHeartbeats 4000000 in
theorem aep{K:cF}{dd:List FuncId}{h:ab}{m:dP}(hm:m.Ok){i n s x Bs Bn Bm Br Bx:Nat}{t:ByteArray}{b:UInt8}(hi:i<m.p.length)(hb:t[n]? =some b)(hs:s<256)(hx:x<256)
 (g1:h.get Bs=some (.row [sV t] true 0)) (g2:h.get Bn=some (.row [iV (n:Nat)] true 0)) (g3:h.get Bm=some (.row [.ptr m.e 0] true 0)) (g4:h.get Br=some (.row (pl s) true 0)) (g5:h.get Bx=some (.row (pl x) true 0))
 (ad:Br≠Bx/\Bs≠Br/\Bs≠Bx/\Bn≠Br/\Bn≠Bx/\Bm≠Br/\Bm≠Bx) (aU:Br<h.next/\Bx<h.next)
 (hk:∀h' T,h.next<=h'.next->h'.get Br=some (.row (pl (lh m b.toNat i (s,x)).1) true 0)->h'.get Bx=some (.row (pl (lh m b.toNat i (s,x)).2) true 0)->(∀j,j<h.next->j≠Br->j≠Bx->h'.get j=h.get j)->K (.bg []) dd h' T):
 aq E true K dd h (117,[iV (i:Nat),.v (.pointer (some ⟨Bs,0,none⟩)),.v (.pointer (some ⟨Bn,0,none⟩)),.v (.pointer (some ⟨Bm,0,none⟩)),.v (.pointer (some ⟨Br,0,none⟩)),.v (.pointer (some ⟨Bx,0,none⟩))]):=by
 refine im WB rfl Tryz.ntmps117 Tryz.results117 ?_;obtain⟨p,hp⟩:∃p,m.p[i]? =some p:=⟨_,List.getElem?_eq_getElem hi⟩;obtain⟨f,hf⟩:∃f,m.follow[i]? =some f:=⟨_,List.getElem?_eq_getElem (by rw[hm.Ad];exact hi)⟩;have aZ:i<m.follow.length:=by rw[hm.Ad];exact hi
 have hlen:=hm.len;rw[dP.Ae]at g3;have az:=aeo t n b hb;have bb:b.toNat<256:=b.toNat_lt;have aS:=hm.pow (hm.follow f (List.mem_of_getElem? hf));have aC:(m.follow.map pl)[i]? =some (pl f):=by rw[List.getElem?_map,hf];rfl
 by_cases c1:p.lo<=(b.toNat:Int)
 . by_cases c2:(b.toNat:Int)<=p.hi
   . have hv:lh m b.toNat i (s,x)=(s|||2^i,x|||f):=by simp only[lh,hp,hf];rw[if_pos ⟨c1,c2⟩]
     rw[hv]at hk;simp(disch:=omega)[go_sem,g1,g2,g3,hp,az,-getElem?_pos,aY.e,aD,c1,c2];refine J2 hs (by omega) g4 λT=> ?_;simp(disch:=omega)[go_sem,g1,g2,g3,g4,g5,hp,az,-getElem?_pos,aY.e,aD,c1,c2,ad.1,ad.2.1,ad.2.2.1,ad.2.2.2.1,ad.2.2.2.2.1,ad.2.2.2.2.2.1,aC,fm,gR];refine tJ (z:=0) hx aS (by simp(disch:=omega)[go_sem,g5,ad.1.symm]) (by simp(disch:=omega)[go_sem];omega) λh' T q1 q2 q3=> ?_;simp(disch:=omega)[go_sem]at q1 q3;simp(disch:=omega)[go_sem];intro T2;refine hk _ T2 (by omega) ?_ q2 λj j1 j2 j3=> ?_
     . rw[q3 Br (by omega) ad.1];simp
     . rw[q3 j (by omega) j3];simp[j2]
   . have hv:lh m b.toNat i (s,x)=(s,x):=by simp only[lh,hp,hf];rw[if_neg (λh=>c2 h.2)]
     rw[hv]at hk;simp(disch:=omega)[go_sem,g1,g2,g3,hp,az,-getElem?_pos,aY.e,aD,c1,c2];intro T;exact hk _ T (Nat.le_refl _) g4 g5 λ_ _ _ _=>rfl
 . have hv:lh m b.toNat i (s,x)=(s,x):=by simp only[lh,hp,hf];rw[if_neg (λh=>c1 h.1)]
   rw[hv]at hk;simp(disch:=omega)[go_sem,g1,g2,g3,hp,az,-getElem?_pos,aY.e,aD,c1];intro T;exact hk _ T (Nat.le_refl _) g4 g5 λ_ _ _ _=>rfl
theorem J5{m:dP}(hm:m.Ok)(b:Int)(i:Nat)(hi:i<m.p.length)(s:Nat×Nat)(h1:s.1<2^m.p.length)(h2:s.2<2^m.p.length):(lh m b i s).1<2^m.p.length/\(lh m b i s).2<2^m.p.length:=by
 unfold lh
 split
 . rename_i x f hp hf
   split
   . exact⟨Nat.or_lt_two_pow h1 (Nat.pow_lt_pow_right (by decide) hi),Nat.or_lt_two_pow h2 (hm.follow f (List.mem_of_getElem? hf))⟩
   . exact⟨h1,h2⟩
 . exact⟨h1,h2⟩
def J6:Nat->Nat->List Nat
 |0,_=>[]
 |k+1,w=>if w=0 then []else nR w::J6 k (w&&&(w-1))
def bits(w:Nat):List Nat:=J6 8 w
theorem J7:bits 0=[]:=rfl
theorem J8(w:Nat)(h0:0<w)(h1:w<256):bits w=nR w::bits (w&&&(w-1)):=by
 have h:((List.range 256).all λw=>Nat.beq w 0||decide (bits w=nR w::bits (w&&&(w-1))))=true:=by kernel_rfl
 have h2:=List.all_eq_true.1 h w (by simpa using h1);simp only[Bool.or_eq_true,decide_eq_true_eq]at h2;rcases h2 with h2|h2
 . have:=Nat.eq_of_beq_eq_true h2;omega
 . exact h2
theorem J9(w n:Nat)(h0:0<w)(h1:w<2^n)(hn:n<=8):nR w<n:=by
 have h:((List.range 9).all λn=>(List.range 256).all λw=>Nat.beq w 0||Nat.ble (2^n) w||Nat.blt (nR w) n)=true:=by kernel_rfl
 have h3:w<256:=Nat.lt_of_lt_of_le h1 (Nat.pow_le_pow_right (n:=2) (by decide) hn);have h2:=List.all_eq_true.1 (List.all_eq_true.1 h n (by simp;omega)) w (by simpa using h3);simp only[Bool.or_eq_true]at h2;rcases h2 with(h2|h2)|h2
 . have:=Nat.eq_of_beq_eq_true h2;omega
 . have:=Nat.le_of_ble_eq_true h2;omega
 . exact Nat.le_of_ble_eq_true h2
def tK(m:dP)(b:Int)(now:Nat):Nat×Nat:=(bits now).foldl (λs i=>lh m b i s) (0,0)
theorem peq(w:Nat)(hw:w<256):jK E .eql 130 (.tmp 21) (.tmp 22) (.agg (pl w)) (.agg (pl 0))=some (bV (decide (w=0))):=by
 have h:((List.range 256).all λw=>match jK E .eql 130 (.tmp 21) (.tmp 22) (.agg (pl w)) (.agg (pl 0))with|some (.v (.bool b))=>b==decide (w=0)|_=>false)=true:=by kernel_rfl
 have h2:=List.all_eq_true.1 h w (by simpa using hw)
 split at h2
 . rename_i b hb;rw[hb,eq_of_beq h2]
 . cases h2
def runM{γ:Type}(m:dP)(db:γ->Nat->Bool->γ):Nat->Nat->List UInt8->γ->γ
 |_,_,[],g=>g
 |now,n,b::r,g=>if(tK m b.toNat now).1=0 then g else runM m db (tK m b.toNat now).2 (n+1) r (db g (n+1) (decide ((tK m b.toNat now).1&&&m.last≠0)))
theorem Ka{m:dP}(hm:m.Ok)(b:Int):∀(l:List Nat) (s:Nat×Nat),(∀i∈l,i<m.p.length)->s.1<2^m.p.length->s.2<2^m.p.length->(l.foldl (λs i=>lh m b i s) s).1<2^m.p.length/\(l.foldl (λs i=>lh m b i s) s).2<2^m.p.length
 |[],s,_,h1,h2=>⟨h1,h2⟩
 |i::l,s,h,h1,h2=>by
  obtain⟨h3,h4⟩:=J5 hm b i (h i (by simp)) s h1 h2;exact Ka hm b l _ (λj hj=>h j (List.mem_cons_of_mem _ hj)) h3 h4
theorem aeq(n:Nat)(hn:n<=8):∀w,w<2^n->∀i∈bits w,i<n:=by
 have h:((List.range 9).all λn=>(List.range 256).all λw=>Nat.ble (2^n) w||(bits w).all λi=>Nat.blt i n)=true:=by kernel_rfl
 intro w h1 i hi;have h3:w<256:=Nat.lt_of_lt_of_le h1 (Nat.pow_le_pow_right (n:=2) (by decide) hn);have h2:=List.all_eq_true.1 (List.all_eq_true.1 h n (by simp;omega)) w (by simpa using h3);simp only[Bool.or_eq_true,List.all_eq_true]at h2;rcases h2 with h2|h2
 . have:=Nat.le_of_ble_eq_true h2;omega
 . exact Nat.le_of_ble_eq_true (h2 i hi)
theorem aer{m:dP}(hm:m.Ok)(b:Int)(now:Nat)(h:now<2^m.p.length):(tK m b now).1<2^m.p.length/\(tK m b now).2<2^m.p.length:=
 Ka hm b _ _ (aeq _ hm.len _ h) (Nat.two_pow_pos _) (Nat.two_pow_pos _)
end Go.Sp
end

/- SpacingIndependent: parts of its proof. -/
import Derived.Laws.Strings
import Derived.Test.YtmhjnafgdhaemaaGreatDoorK16
open Option renaming map_some->qe,bind_some->xS,map_eq_some_iff->DE,bind_eq_some_iff->Er
open Option.some renaming injEq->GP
open Bool renaming and_eq_true->PO,eq_iff_iff->ZJ
open List renaming length_map->PX,map_cons->Qc,map_take->TF,map_drop->VK,all_eq_true->W9,map_congr_left->Xw,getElem?_map->Zj,map_append->Z4
open BitVec renaming ofInt->W2
open Prod.mk renaming injEq->Zr
open Nat renaming add_right_cancel_iff->ZL
set_option linter.all false
set_option maxRecDepth 100000
noncomputable section
namespace Go.au
variable {e:Env} {aj:Bool}
def xF(e:Env)(ops:List Oper)(t:Tr DV)(n:Nat)(dd:List FuncId)(h:ab)(K:bk->DS->Prop):Prop:=∀G r,SD G r ⟨t,n,dd,h⟩->lD e none ops r (mz G r.h h (K .normal))
theorem UD(id:Nat)(l:List Oper)(t:Tr DV)(n:Nat)(dd:List FuncId)(h:ab)(K:bk->DS->Prop):RD e aj (.region id l.toArray true) ⟨t,n,dd,h⟩ K=xF e l t n dd h K:=by simp[RD,xF]
theorem jK{ops:List Oper}{t:Tr DV}{n:Nat}{dd:List FuncId}{h:ab}{K:bk->DS->Prop}(pl:List PJ)(aa:uZ ops pl=true)(na:Nat)(ad:Nat.beq (ops.filter λo=>cls o.op==.alloc).length na=true)(N0:Nat)(hN:h.next=N0)
 (hs:cQ e ops N0 ops pl 0 N0 0 t n dd (h.up (N0+na)) [] [] [] (K .normal)):xF e ops t n dd h K:=UC pl aa na ad N0 hN hs
section
variable (ops:List Oper) (N0:Nat) (dst:Option Tmp) (op:Op) (ty:TypeId) (pos:String) (af:Array Edge) (r:List Oper) (m:Nat) (dy:Option (Nat×Nat)) (aY:Bool) (pl:List PJ) (i id c:Nat) (t:Tr DV) (n:Nat) (dd:List FuncId) (h:ab) (aq:eS) (T:List Nat) (L:List (Nat×Nat)) (K:DS->Prop) (w:Bool)
def Fi(e:Env)(ops:List Oper)(N0:Nat)(r:List Oper)(pl:List PJ)(i id c:Nat)(t:Tr DV)(n:Nat)(dd:List FuncId)(h:ab)(aq:eS)(T:List Nat)(L:List (Nat×Nat))(K:DS->Prop)(dst:Option Tmp):DV->Prop:=λv=>cQ e ops N0 r pl (i+1) id c (cq dst v t) n dd h aq T L K
def u5(e:Env)(ops:List Oper)(N0:Nat)(op:Op)(aY:Bool)(dy:Option (Nat×Nat))(r:List Oper)(pl:List PJ)(i id c:Nat)(t:Tr DV)(n:Nat)(dd:List FuncId)(h:ab)(aq:eS)(T:List Nat)(L:List (Nat×Nat))(K:DS->Prop)(dst:Option Tmp):DV->Prop:=
 λv=>(aY=true->rF N0 T (dA e t op))/\cQ e ops N0 r pl (i+1) id c (cq dst v t) n dd h aq T (ki dy (dA e t op) L) K
def Fj(e:Env)(ops:List Oper)(N0:Nat)(r:List Oper)(pl:List PJ)(i id c:Nat)(t:Tr DV)(n:Nat)(dd:List FuncId)(h:ab)(aq:eS)(T:List Nat)(L:List (Nat×Nat))(K:DS->Prop)(dst:Option Tmp):bx×(Nat->DV)->Prop:=λq=>cQ e ops N0 r pl (i+1) (id+1) c (cq dst (q.2 id) t) n dd h ((i,id,q.1)::aq) T L K
def Fk(e:Env)(ops:List Oper)(N0:Nat)(r:List Oper)(m:Nat)(pl:List PJ)(i id c:Nat)(t:Tr DV)(n:Nat)(aq:eS)(T:List Nat)(L:List (Nat×Nat))(K:DS->Prop)(dst:Option Tmp):ck:=λv dd h T'=>(∀q∈L,c+1<=q.2->q.1∉T')/\cQ e ops N0 r pl (i+1) id (c+1) (cq dst v t) n dd h (iC m aq) (T'++T) L K
theorem UE(v:DV):Fi e ops N0 r pl i id c t n dd h aq T L K dst v=cQ e ops N0 r pl (i+1) id c (cq dst v t) n dd h aq T L K:=(rfl)
theorem UF(v:DV):u5 e ops N0 op false none r pl i id c t n dd h aq T L K dst v=cQ e ops N0 r pl (i+1) id c (cq dst v t) n dd h aq T L K:=by simp[u5,ki]
theorem UG(v:DV)(x:Nat×Nat):u5 e ops N0 op true (some x) r pl i id c t n dd h aq T L K dst v=(rF N0 T (dA e t op)/\cQ e ops N0 r pl (i+1) id c (cq dst v t) n dd h aq T (ki (some x) (dA e t op) L) K):=by simp[u5]
theorem UH(o:bx)(f:Nat->DV):Fj e ops N0 r pl i id c t n dd h aq T L K dst (o,f)=cQ e ops N0 r pl (i+1) (id+1) c (cq dst (f id) t) n dd h ((i,id,o)::aq) T L K:=(rfl)
theorem UI(v:DV)(T':List Nat):Fk e ops N0 r m pl i id c t n aq T L K dst v dd h T'=((∀q∈L,c+1<=q.2->q.1∉T')/\cQ e ops N0 r pl (i+1) id (c+1) (cq dst v t) n dd h (iC m aq) (T'++T) L K):=(rfl)
theorem UJ:cQ e ops N0 [] pl i id c t n dd h aq T L K=K ⟨t,n,dd,lL h aq⟩:=(by cases pl<;>rfl)
theorem UK:cQ e ops N0 (⟨dst,op,ty,pos,af,none⟩::r) (⟨.pure,m,dy,aY⟩::pl) i id c t n dd h aq T L K=(c9 dst n/\aG (aS e h t op) (Fi e ops N0 r pl i id c t n dd h aq T L K dst)):=by
 simp only[cQ,ic,fR];rfl
theorem UL:cQ e ops N0 (⟨dst,op,ty,pos,af,none⟩::r) (⟨.read,m,dy,aY⟩::pl) i id c t n dd h aq T L K=(c9 dst n/\aG (aS e (ff h m aq) t op) (u5 e ops N0 op aY dy r pl i id c t n dd h aq T L K dst)):=by
 simp only[cQ,ic,fR];rfl
theorem UM:cQ e ops N0 (⟨dst,op,ty,pos,af,none⟩::r) (⟨.alloc,m,dy,aY⟩::pl) i id c t n dd h aq T L K=(c9 dst n/\aG (dH e t op) (Fj e ops N0 r pl i id c t n dd h aq T L K dst)):=by
 simp only[cQ,ic,fR];rfl
theorem UN:cQ e ops N0 (⟨dst,op,ty,pos,af,none⟩::r) (⟨.effect,m,dy,aY⟩::pl) i id c t n dd h aq T L K=(c9 dst n/\bY e true op t dd (ff h m aq) (Fk e ops N0 r m pl i id c t n aq T L K dst)):=by
 simp only[cQ,ic,fR];rfl
end
def jL(e:Env)(ops:List Oper)(N0:Nat)(o:Oper)(p:PJ)(r:List Oper)(pl:List PJ)(i id c:Nat)(t:Tr DV)(n:Nat)(dd:List FuncId)(h:ab)(aq:eS)(T:List Nat)(L:List (Nat×Nat))(K:DS->Prop)(w:Bool):DV->Prop:=λg=>aG (match some g with
 |some (.v (.bool b))=>some (b==w)
 |some (.v (.tuple _))=>some false
 |some (.bb _)=>some false
 |_=>none) λw=>match w with
 |true=>cQ e ops N0 ({o with guard:=none}::r) (p::pl) i id c t n dd h aq T L K
 |false=>match p.c with
  |.alloc=>cQ e ops N0 r pl (i+1) (id+1) c (cq o.dst cP t) n dd h aq T L K
  |.effect=>cQ e ops N0 r pl (i+1) id (c+1) (cq o.dst cP t) n dd h aq T L K
  |.bad=>False
  |_=>cQ e ops N0 r pl (i+1) id c (cq o.dst cP t) n dd h aq T L K
def Fl(e:Env)(ops:List Oper)(N0:Nat)(o:Oper)(p:PJ)(r:List Oper)(pl:List PJ)(i id c:Nat)(t:Tr DV)(n:Nat)(dd:List FuncId)(h:ab)(aq:eS)(T:List Nat)(L:List (Nat×Nat))(K:DS->Prop)(w:Bool):Tmp->Prop:=λd=>aG (t.get d) (jL e ops N0 o p r pl i id c t n dd h aq T L K w)
section
variable (ops:List Oper) (N0:Nat) (dst:Option Tmp) (op:Op) (ty:TypeId) (pos:String) (af:Array Edge) (r:List Oper) (m:Nat) (dy:Option (Nat×Nat)) (aY:Bool) (pl:List PJ) (i id c:Nat) (t:Tr DV) (n:Nat) (dd:List FuncId) (h:ab) (aq:eS) (T:List Nat) (L:List (Nat×Nat)) (K:DS->Prop) (w:Bool)
theorem UO(j:Nat)(p:PJ):cQ e ops N0 (⟨dst,op,ty,pos,af,some (j,w)⟩::r) (p::pl) i id c t n dd h aq T L K=(c9 dst n/\aG ((ops[j]?).bind (·.dst)) (Fl e ops N0 ⟨dst,op,ty,pos,af,none⟩ p r pl i id c t n dd h aq T L K w)):=by
 obtain⟨c,m,dy,aY⟩:=p;refine propext ⟨λhh=>⟨hh.1, ?_⟩,λhh=>⟨hh.1, ?_⟩⟩
 . obtain⟨h1,b,h2,h3⟩:=hh;simp only[ic]at h2;cases hd:(ops[j]?).bind (·.dst)with
   |none=>rw[hd]at h2;cases h2
   |some d=>
    rw[hd]at h2;cases hg:t.get d with
    |none=>simp[hg]at h2
    |some g=>
     refine⟨d,rfl,g,hg,b, ?_, ?_⟩
     . simp only[hg]at h2;exact h2
     . cases b with
       |true=>exact⟨h1,true,rfl,h3⟩
       |false=>exact h3
 . obtain⟨h1,d,h2,g,h3,b,h4,h5⟩:=hh;refine⟨b, ?_, ?_⟩
   . simp only[ic,h2,h3];exact h4
   . cases b with
     |true=>obtain⟨_,b',h6,h7⟩:=h5;cases h6;exact h7
     |false=>exact h5
theorem UP(o:Oper)(p:PJ)(d:Tmp):Fl e ops N0 o p r pl i id c t n dd h aq T L K w d=aG (t.get d) (jL e ops N0 o p r pl i id c t n dd h aq T L K w):=(rfl)
theorem UQ(p:PJ):jL e ops N0 ⟨dst,op,ty,pos,af,none⟩ p r pl i id c t n dd h aq T L K w (.v (.bool w))=cQ e ops N0 (⟨dst,op,ty,pos,af,none⟩::r) (p::pl) i id c t n dd h aq T L K:=by
 simp only[jL,beq_self_eq_true,fR]
theorem UR:jL e ops N0 ⟨dst,op,ty,pos,af,none⟩ ⟨.pure,m,dy,aY⟩ r pl i id c t n dd h aq T L K true (.v (.bool false))=cQ e ops N0 r pl (i+1) id c (cq dst cP t) n dd h aq T L K:=by simp[jL,fR]
theorem US:jL e ops N0 ⟨dst,op,ty,pos,af,none⟩ ⟨.read,m,dy,aY⟩ r pl i id c t n dd h aq T L K true (.v (.bool false))=cQ e ops N0 r pl (i+1) id c (cq dst cP t) n dd h aq T L K:=by simp[jL,fR]
theorem UT:jL e ops N0 ⟨dst,op,ty,pos,af,none⟩ ⟨.effect,m,dy,aY⟩ r pl i id c t n dd h aq T L K true (.v (.bool false))=cQ e ops N0 r pl (i+1) id (c+1) (cq dst cP t) n dd h aq T L K:=by simp[jL,fR]
theorem UU:jL e ops N0 ⟨dst,op,ty,pos,af,none⟩ ⟨.pure,m,dy,aY⟩ r pl i id c t n dd h aq T L K false (.v (.bool true))=cQ e ops N0 r pl (i+1) id c (cq dst cP t) n dd h aq T L K:=by simp[jL,fR]
theorem UW:jL e ops N0 ⟨dst,op,ty,pos,af,none⟩ ⟨.read,m,dy,aY⟩ r pl i id c t n dd h aq T L K false (.v (.bool true))=cQ e ops N0 r pl (i+1) id c (cq dst cP t) n dd h aq T L K:=by simp[jL,fR]
theorem UX:jL e ops N0 ⟨dst,op,ty,pos,af,none⟩ ⟨.effect,m,dy,aY⟩ r pl i id c t n dd h aq T L K false (.v (.bool true))=cQ e ops N0 r pl (i+1) id (c+1) (cq dst cP t) n dd h aq T L K:=by simp[jL,fR]
end
theorem UY(N0:Nat)(T:List Nat):rF N0 T none=True:=(rfl)
theorem UZ(N0:Nat)(T:List Nat)(b:Nat):rF N0 T (some b)=(b<N0/\b∉T):=(rfl)
theorem U0(x:Nat×Nat)(b:Nat)(L:List (Nat×Nat)):ki (some x) (some b) L=(b,x.1+x.2-1)::L:=(rfl)
theorem U1(x:Option (Nat×Nat))(L:List (Nat×Nat)):ki x none L=L:=by cases x<;>rfl
section
variable (t:Tr DV) (h:ab)
theorem U2(ty:TypeId)(a:Operand):dA e t (.load ty a)=je (aB e t a):=(rfl)
theorem U3(ty:TypeId)(x:Operand)(lo hi mx:Option Operand):dA e t (.slice ty x lo hi mx)=je (aB e t x):=(rfl)
theorem U4(a:Addr):je (some (.v (.pointer (some a))))=some a.block:=(rfl)
theorem U5(s:ByteArray):je (some (.v (.string s)))=none:=(rfl)
theorem U6(k:Nat)(xs:List (List DV)):je (some (.sl k xs))=none:=(rfl)
theorem U7(xs:List DV)(o:Nat):je (some (.ptr xs o))=none:=(rfl)
theorem U8(x:Operand):aS e h t (.move x)=aB e t x:=(rfl)
theorem U9(x:Operand):aS e h t (.assign x)=aB e t x:=(rfl)
theorem Va(c a b:Operand):aS e h t (.pick c a b)=pX (aB e t c) (aB e t a) (aB e t b):=(rfl)
theorem Vb(ty:TypeId)(l:List (Nat×Operand)):aS e h t (.build ty l.toArray)=(fw e t l).bind (eA e ty):=by simp[aS]
theorem Vc(ty:TypeId)(a:Operand):aS e h t (.load ty a)=(aB e t a).bind (iA e h ty):=(rfl)
theorem Vd(x:Operand):aS e h t (.nilCheck x)=(aB e t x).bind kJ:=(rfl)
theorem Ve(op:BinOp)(ty:TypeId)(x y:Operand)(z:TypeId):aS e h t (.binOp op ty x y z)=fI (iY e op ty x y) (aB e t x) (aB e t y):=(rfl)
theorem Vf(op:UnOp)(ty:TypeId)(x:Operand):aS e h t (.unOp op ty x)=(aB e t x).bind (kV (np e op)):=(rfl)
theorem Vg(s d:TypeId)(x:Operand):aS e h t (.convert s d x)=(aB e t x).bind (mv e h s d):=(rfl)
theorem Vh(f:FuncId)(a c:List Operand):aS e h t (.makeFunc (.func f) a.toArray c.toArray)=nB f (cz e t a) (cz e t c):=by simp[aS]
theorem Vi(ty:TypeId)(x:Operand)(lo hi mx:Option Operand):aS e h t (.slice ty x lo hi mx)=dz e h ty (aB e t x) (eh e t lo) (eh e t hi) (eh e t mx):=(rfl)
theorem Vj(s:TypeId)(x:Operand)(f:Nat):aS e h t (.fieldAddr s x f)=(aB e t x).bind (kc e s f):=(rfl)
theorem Vk(ty:TypeId)(x ix:Operand):aS e h t (.indexAddr ty x ix)=fI (λa b=>ia e ty a (fx b)) (aB e t x) (aB e t ix):=(rfl)
theorem Vl(ty:TypeId)(x ix:Operand):aS e h t (.index ty x ix)=fI (mr e ty) (aB e t x) (aB e t ix):=(rfl)
theorem Vm(ty:TypeId)(m k:Operand)(ok:Bool):aS e h t (.lookup ty m k ok)=fI (kK e h ty ok) (aB e t m) (aB e t k):=(rfl)
theorem Vn(x:Operand)(i:Nat):aS e h t (.extract x i)=(aB e t x).bind (lG i):=(rfl)
theorem Vo(x:Operand)(ty:TypeId)(ai:List TypeId):aS e h t (.call ⟨.builtin .len,#[x],(ty::ai).toArray⟩)=(aB e t x).bind (gO e h ty):=by
 simp only[aS,cz];cases aB e t x<;>simp[oI]
theorem Vp(m:Nat):ff h m []=h:=(rfl)
theorem Vq(m i id:Nat)(o:bx)(r:eS):ff h m ((i,id,o)::r)=if m.testBit i=true then(ff h m r).set id (some o)else ff h m r:=(rfl)
theorem Vr:lL h []=h:=(rfl)
theorem Vs(m:Nat):iC m []=[]:=(rfl)
theorem Vt(m i id:Nat)(o:bx)(r:eS):iC m ((i,id,o)::r)=if m.testBit i=true then iC m r else(i,id,o)::iC m r:=by
 simp only[iC,List.filter_cons];cases m.testBit i<;>rfl
end
def xG(e:Env)(h:ab)(s d:TypeId)(x:DV):Bool->Option DV
 |true=>rB (fy h 1 x)
 |false=>kV (rA e s d) x
theorem Vu(h:ab)(s d:TypeId)(x:DV):mv e h s d x=xG e h s d x (e.lH s d):=by
 simp only[mv,xG];cases e.lH s d<;>rfl
theorem Vv(h:ab)(s d:TypeId)(x:DV):xG e h s d x true=rB (fy h 1 x):=(rfl)
theorem Vw(h:ab)(s d:TypeId)(x:DV):xG e h s d x false=kV (rA e s d) x:=(rfl)
theorem Vx(n:Nat)(cs:List DV):rB (some (n+1,cs))=(kX cs).map λns=>.v (.string (strOf ns)):=(rfl)
theorem Vy:kX []=some []:=(rfl)
theorem Vz(n:Int)(r:List DV):kX (.v (.int .u8 n)::r)=(kX r).map (n::·):=(rfl)
attribute [go_sem] Vu Vv Vw Vx Vy Vz
attribute [go_sem] UD UE UF UG UH UI UJ UK UL UM UN UO UP UQ UR US UT UU UW UX UY UZ U0 U1 U2 U3 U4 U5 U6 U7 U8 U9 Va Vb Vc Vd Ve Vf Vg Vh Vi Vj Vk Vl Vm Vn Vo Vp Vq Vr Vs Vt R6 R7
abbrev ae(m:Nat):PJ:=⟨.pure,m,none,false⟩
abbrev aD(m:Nat):PJ:=⟨.read,m,none,false⟩
abbrev aN(m:Nat):PJ:=⟨.effect,m,none,false⟩
abbrev cE(m:Nat):PJ:=⟨.alloc,m,none,false⟩
abbrev dc(m:Nat):PJ:=⟨.read,m,some (0,2),true⟩
abbrev kj(m:Nat):PJ:=⟨.pure,m,none,true⟩
attribute [go_sem] ae aD aN cE dc kj
end Go.au
end
noncomputable section
namespace Go.au
variable {e:Env}
theorem mC(P:Program){α β:Type}(s:Sem α)(k:α->Sem β):bQ P (s>>=k)=(bQ P s).bind λa=>bQ P (k a):=by
 show bQ P (Sem.bind s k)=_
 induction s<;>simp_all[Sem.bind,bQ]
theorem kl(P:Program){α:Type}(a:α):bQ P (pure a)=some a:=rfl
theorem VA(P:Program){op:BinOp}(h1:op≠.eql)(h2:op≠.neq)(t:TypeId)(x y:Operand)(a b:Value):bQ P (eqGuard op t x y a b)=some ():=by
 unfold eqGuard;cases op<;>first|rfl|exact absurd rfl h1|exact absurd rfl h2
theorem sT{ty:TypeId}{x y:Operand}{k k':IntKind}{n m:Int}{op:BinOp}(h1:op≠.eql)(h2:op≠.neq)(hn:∀k n m,kC op k n m=none){r:Value}(hr:bQ e.P (binOp op ty (.int k n) (.int k' m))=some r)(hp:plain r=true):
 cD e op ty x y (.int k n) (.int k' m)=some r:=by
 unfold cD;have:(bif decide (k=k')then kC op k n m else none)=none:=by cases decide (k=k')<;>simp[hn]
 have ha:∀k n,plain (.int k n)=true:=λ_ _=>rfl;simp only[this,ha,Bool.and_self,cond_true,eD,mC,VA e.P h1 h2,xS,hr,hp]
theorem VB(P:Program)(op:BinOp)(t:TypeId)(x y:Operand)(a b:ByteArray):bQ P (eqGuard op t x y (.string a) (.string b))=some ():=by
 unfold eqGuard;cases op<;>rfl
theorem AJ{ty:TypeId}{x y:Operand}{a b:ByteArray}{op:BinOp}{r:Value}(hr:bQ e.P (binOp op ty (.string a) (.string b))=some r)(hp:plain r=true):
 cD e op ty x y (.string a) (.string b)=some r:=by
 unfold cD;have ha:∀s,plain (.string s)=true:=λ_=>rfl;simp only[ha,Bool.and_self,cond_true,eD,mC,VB,xS,hr,hp]
section
variable (ty:TypeId) (x y:Operand) (k k':IntKind) (n m:Int)
theorem VC(h:m≠0):cD e .rem ty x y (.int k n) (.int k m)=some (.int k (n.tmod m)):=by
 refine sT (by decide) (by decide) (λ_ _ _=>rfl) ?_ rfl;simp[binOp,Op.intDiv,h,kl]
theorem VD(h:m≠0):cD e .quo ty x y (.int k n) (.int k m)=some (.int k (k.wrap (n.tdiv m))):=by
 refine sT (by decide) (by decide) (λ_ _ _=>rfl) ?_ rfl;simp[binOp,Op.intDiv,h,kl]
theorem VE(h:0<=m):cD e .shr ty x y (.int k n) (.int k' m)=some (.int k (n.fdiv (2^(min m.toNat k.bits)))):=by
 refine sT (by decide) (by decide) (λ_ _ _=>rfl) ?_ rfl;simp[binOp,Op.shift,show¬m<0 by omega,kl]
theorem VF(h:0<=m):cD e .shl ty x y (.int k n) (.int k' m)=some (.int k (k.wrap (n*2^(min m.toNat k.bits)))):=by
 refine sT (by decide) (by decide) (λ_ _ _=>rfl) ?_ rfl;simp[binOp,Op.shift,show¬m<0 by omega,kl]
theorem Fm:cD e .and ty x y (.int k n) (.int k m)=some (.int k (k.wrap ((W2 k.bits n&&&W2 k.bits m).toNat:Nat))):=by
 refine sT (by decide) (by decide) (λ_ _ _=>rfl) ?_ rfl;simp[binOp,Op.intBits,kl]
theorem VG:cD e .or ty x y (.int k n) (.int k m)=some (.int k (k.wrap ((W2 k.bits n|||W2 k.bits m).toNat:Nat))):=by
 refine sT (by decide) (by decide) (λ_ _ _=>rfl) ?_ rfl;simp[binOp,Op.intBits,kl]
theorem sU(a b:ByteArray)(h:a.size+b.size<=9223372036854775807):cD e .add ty x y (.string a) (.string b)=some (.string (a++b)):=by
 refine AJ ?_ rfl;have:¬((a.size+b.size:Nat):Int)>IntKind.i64.max:=by
  have:IntKind.i64.max=9223372036854775807:=by decide
  omega
 simp only[binOp,Op.stringOp,this,if_false,kl]
theorem toList_inj{a b:ByteArray}:a.toList=b.toList↔a=b:=by
 rw[ByteArray.toList_eq,ByteArray.toList_eq];constructor
 . intro h;cases a;cases b;congr;exact Array.toList_inj.1 h
 . intro h;rw[h]
theorem VH(a b:ByteArray):cD e .eql ty x y (.string a) (.string b)=some (.bool (decide (a=b))):=by
 have:(a.toList==b.toList)=decide (a=b):=by
  rw[ZJ];simp[toList_inj]
 refine AJ ?_ rfl;simp[binOp,Op.stringOp,kl,this]
theorem VI(a b:ByteArray):cD e .neq ty x y (.string a) (.string b)=some (.bool (!decide (a=b))):=by
 have:(a.toList==b.toList)=decide (a=b):=by
  rw[ZJ];simp[toList_inj]
 refine AJ ?_ rfl;simp[binOp,Op.stringOp,kl,this]
end
theorem VJ{ty:TypeId}(hu:e.P.underlying ty=some .string)(aa:e.under ty=some .string)(s:ByteArray)(k:IntKind)(i:Int)(b:UInt8)(h0:0<=i)(hb:s[i.toNat]? =some b):oD e ty (.string s) (.int k i)=some (.int .u8 b.toNat):=by
 simp only[oD,aa];have pu:bQ e.P (underlying ty)=some .string:=by
  simp only[underlying,mC];show bQ e.P (match e.P.underlying ty with|some d=>pure d|none=>stuck "no such type" :Sem TypeDesc)=some .string;rw[hu];rfl
 have:bQ e.P (Instr.index ty (.string s) (.int k i))=some (.int .u8 b.toNat):=by
  simp[Instr.index,mC,asIntOf,kl,pu,h0,hb]
 simp[eD,this,plain,dP]
end Go.au
end
noncomputable section
namespace Go.au
variable {e:Env} {N:Nat}
def iE:Value->Bool
 |.pointer (some _)=>false
 |.slice (some _) _ _=>false
 |.map (some _)=>false
 |_=>true
def Fs:DV->Bool
 |.v x=>iE x
 |_=>false
def df:DV->Bool
 |.v x=>iE x
 |.agg l=>l.all Fs
 |_=>false
def iF:Option DV->Bool
 |some d=>df d
 |none=>true
def ep(N:Nat)(a:Addr):Addr:=⟨a.block+N,a.off,a.spot⟩
def bM(N:Nat):Value->Value
 |.pointer (some a)=>.pointer (some (ep N a))
 |.slice (some a) l c=>.slice (some (ep N a)) l c
 |.map (some r)=>.map (some (r+N))
 |v=>v
mutual
def sh(N:Nat):DV->DV
 |.v x=>.v (bM N x)
 |.agg l=>.agg (nE N l)
 |.bb l=>.bb (nE N l)
 |.fn f a c=>.fn f (nE N a) (nE N c)
 |.sl k xs=>.sl k (vh N xs)
 |.ptr xs off=>.ptr (nE N xs) off
def nE(N:Nat):List DV->List DV
 |[]=>[]
 |d::l=>sh N d::nE N l
def vh(N:Nat):List (List DV)->List (List DV)
 |[]=>[]
 |x::xs=>nE N x::vh N xs
end
theorem sW:∀(l:List DV),nE N l=l.map (sh N)
 |[]=>by simp[nE]
 |d::l=>by simp[nE,sW l]
theorem Ft:∀(l:List (List DV)),vh N l=l.map λx=>x.map (sh N)
 |[]=>by simp[vh]
 |d::l=>by simp[vh,Ft l,sW]
theorem bJ(x:Value):sh N (.v x)=.v (bM N x):=by simp[sh]
theorem jN(l:List DV):sh N (.agg l)=.agg (l.map (sh N)):=by simp[sh,sW]
theorem jf(l:List DV):sh N (.bb l)=.bb (l.map (sh N)):=by simp[sh,sW]
theorem oM(f:FuncId)(a c:List DV):sh N (.fn f a c)=.fn f (a.map (sh N)) (c.map (sh N)):=by simp[sh,sW]
theorem lO(k:Nat)(xs:List (List DV)):sh N (.sl k xs)=.sl k (xs.map λx=>x.map (sh N)):=by simp[sh,Ft]
theorem mD(xs:List DV)(o:Nat):sh N (.ptr xs o)=.ptr (xs.map (sh N)) o:=by simp[sh,sW]
theorem qb{x:Value}(h:iE x=true):bM N x=x:=by
 unfold bM
 split
 . simp[iE]at h
 . simp[iE]at h
 . simp[iE]at h
 . rfl
theorem V2{d:DV}(h:Fs d=true):sh N d=d:=by
 cases d with
 |v x=>rw[bJ,qb h]
 |_=>cases h
theorem fU{d:DV}(h:df d=true):sh N d=d:=by
 cases d with
 |v x=>rw[bJ,qb h]
 |agg l=>
  rw[jN];congr 1;simp only[df,W9]at h;exact(Xw λd hd=>V2 (h d hd)).trans (List.map_id' l)
 |_=>cases h
theorem sX{l:List Value}(h:l.all iE=true):(l.map .v).map (sh N)=l.map .v:=by
 rw[List.map_map];simp only[W9]at h;exact Xw λx hx=>by simp[bJ,qb (h x hx)]
theorem Fu{n:Nat}{v:Value}(h:dP n v=true):iE v=true:=by
 cases n with
 |zero=>simp[dP]at h
 |succ n=>
  unfold iE
  split
  . simp[dP]at h
  . simp[dP]at h
  . simp[dP]at h
  . rfl
theorem V3{cs:Array Value}(h:plain (.agg cs)=true):cs.toList.all iE=true:=by
 have h:cs.toList.all (dP 5)=true:=h;simp only[W9]at h⊢;exactλx hx=>Fu (h x hx)
theorem Fv{v:Value}(h:plain v=true):sh N (fu v)=fu v:=by
 unfold fu
 split
 . rw[jN,sX (V3 h)]
 . rw[bJ,qb (Fu h)]
theorem AM(d:DV):ca (sh N d)=(ca d).map (sh N):=by cases d<;>simp[ca,bJ,jN,jf,oM,lO,mD]
theorem V4(x:Value):dw (bM N x)=dw x:=by
 unfold bM
 split<;>rfl
theorem V5(d:DV):cO (sh N d)=cO d:=by cases d<;>simp[cO,bJ,jN,jf,oM,lO,mD,V4]
theorem vi(l:List DV):(l.map (sh N)).all cO=l.all cO:=by rw[List.all_map];congr 1;funext d;exact V5 d
def fC(N:Nat)(x:bq):bq:=⟨x.key,sh N x.val,x.born⟩
def fK(N:Nat):bx->bx
 |.row cs wr ah=>.row (cs.map (sh N)) wr ah
 |.map es clock=>.map (es.map (fC N)) clock
 |.cj m since seen last=>.cj (m.map (·+N)) since seen last
 |.eC s pos=>.eC s pos
def TS(N:Nat)(t0 t:Tr DV):Prop:=∀i,t.get i=(t0.get i).map (sh N)
structure HS(N:Nat)(h0 h:ab):Prop where
 next:h.next=h0.next+N
 get:∀k,h.get (k+N)=(h0.get k).map (fK N)
theorem TS.put{t0 t:Tr DV}(ht:TS N t0 t)(dst:Option Tmp)(d:DV):TS N (cq dst d t0) (cq dst (sh N d) t):=by
 cases dst with
 |none=>exact ht
 |some i=>
  intro j;simp only[cq,Tr.bn]
  split
  . rfl
  . exact ht j
theorem HS.set{h0 h:ab}(hh:HS N h0 h)(k:Nat)(o:Option bx):HS N (h0.set k o) (h.set (k+N) (o.map (fK N))):=by
 refine⟨by rw[ab.aR,ab.aR,hh.next],λj=> ?_⟩;simp only[ab.bn,ZL]
 split
 . rfl
 . exact hh.get j
theorem HS.new{h0 h:ab}(hh:HS N h0 h)(o:bx):HS N (h0.new o) (h.new (fK N o)):=by
 refine⟨by rw[ab.aX,ab.aX,hh.next];omega,λj=> ?_⟩;simp only[ab.di,hh.next,ZL]
 split
 . rfl
 . exact hh.get j
theorem HS.row{h0 h:ab}(hh:HS N h0 h){b:Nat}{cs:List DV}{wr:Bool}{ah:Nat}(hg:h0.get b=some (.row cs wr ah)):h.get (b+N)=some (.row (cs.map (sh N)) wr ah):=by rw[hh.get,hg];rfl
theorem HS.mp{h0 h:ab}(hh:HS N h0 h){b:Nat}{es:List bq}{c:Nat}(hg:h0.get b=some (.map es c)):h.get (b+N)=some (.map (es.map (fC N)) c):=by rw[hh.get,hg];rfl
abbrev Env.aT(e:Env):Env:=e
theorem V6:sh N (.ptr pT 0)=.ptr pT 0:=by
 rw[mD,pT,List.map_map];exact congrArg (λl=>DV.ptr l 0) (Xw λv hv=>by
  obtain⟨n,_,rfl⟩:=List.mem_map.1 hv;simp[bJ,bM])
variable {t0 t:Tr DV} {h0 h:ab}
theorem dL(ht:TS N t0 t){o:Operand}{d:DV}(hd:aB e.aT t0 o=some d):aB e t o=some (sh N d):=by
 cases o with
 |tmp i=>
  have:t0.get i=some d:=hd;show t.get i=_;rw[ht i,this];rfl
 |const v=>
  simp only[aB]at hd⊢;obtain⟨hp,hd⟩:=bU hd;cases hd;rw[Fv hp,hp];rfl
 |global g=>
  simp only[aB]at hd⊢;obtain⟨hp,hd⟩:=bU hd;rw[hp,cond_true];by_cases hg:g=0
  . rw[if_pos hg]at hd⊢;simp only[GP]at hd;subst hd;rw[V6]
  . rw[if_neg hg]at hd;cases hd
 |func f=>
  simp only[aB,GP]at hd;subst hd;simp[aB,oM]
theorem nF(ht:TS N t0 t):∀{l:List Operand} {ds:List DV},cz e.aT t0 l=some ds->cz e t l=some (ds.map (sh N))
 |[],ds,h=>by simp only[cz,GP]at h;subst h;rfl
 |o::r,ds,h=>by
  simp only[cz]at h
  split at h
  . cases h
  . rename_i d hd;simp only[DE]at h;obtain⟨af,h1,rfl⟩:=h;simp only[cz,dL ht hd,nF ht h1,qe,Qc]
def vj(N:Nat)(p:Nat×DV):Nat×DV:=(p.1,sh N p.2)
theorem AN(ht:TS N t0 t):∀{l:List (Nat×Operand)} {ds:List (Nat×DV)},fw e.aT t0 l=some ds->fw e t l=some (ds.map (vj N))
 |[],ds,h=>by simp only[fw,GP]at h;subst h;rfl
 |(i,o)::r,ds,h=>by
  simp only[fw]at h
  split at h
  . cases h
  . rename_i d hd;simp only[DE]at h;obtain⟨af,h1,rfl⟩:=h;simp only[fw,dL ht hd,AN ht h1,qe,Qc,vj]
theorem AO(ht:TS N t0 t){o:Option Operand}{d:Option DV}(hd:eh e.aT t0 o=some d):eh e t o=some (d.map (sh N)):=by
 cases o with
 |none=>simp only[eh,GP]at hd;subst hd;rfl
 |some o=>
  simp only[eh,DE]at hd;obtain⟨d,h1,rfl⟩:=hd;simp only[eh,dL ht h1,qe]
theorem Fw{l:Option (Option Nat)}{cs:List DV}{o:Nat}{d:DV}(hd:eQ l cs o=some d):eQ l (cs.map (sh N)) o=some (sh N d):=by
 unfold eQ at hd
 split at hd
 . simp only[eQ,Zj,hd,qe]
 . split at hd
   . rename_i hc;cases hd;simp only[eQ,PX,hc,if_true,jN,TF,VK]
   . cases hd
 . cases hd
theorem Fx(hh:HS N h0 h){ty:TypeId}{d r:DV}(hd:iA e.aT h0 ty d=some r):iA e h ty (sh N d)=some (sh N r):=by
 unfold iA at hd
 split at hd
 . rename_i b o
   split at hd
   . rename_i cs wr ah hg;simp only[bJ,bM,ep,iA,hh.row hg];exact Fw hd
   . cases hd
 . simp only[mD,iA];exact Fw hd
 . cases hd
theorem V7{s f:Nat}{d r:DV}(hd:kc e.aT s f d=some r):kc e s f (sh N d)=some (sh N r):=by
 unfold kc at hd
 split at hd
 . simp only[DE]at hd;obtain⟨k,h1,rfl⟩:=hd;have h1:e.off s f=some k:=h1;simp only[bJ,bM,ep,kc,h1,qe]
 . simp only[DE]at hd;obtain⟨k,h1,rfl⟩:=hd;have h1:e.off s f=some k:=h1;simp only[mD,kc,h1,qe]
 . cases hd
theorem Fy{p:Option (Nat×Option Nat)}{l:List DV}{d:DV}(hd:ke p l=some d):ke p (l.map (sh N))=some (sh N d):=by
 unfold ke at hd
 split at hd
 . simp only[ke,Zj,hd,qe]
 . cases hd;simp only[ke,jN,TF,VK]
 . cases hd
theorem V8{ty f:Nat}{d r:DV}(hd:pU e.aT ty f d=some r):pU e ty f (sh N d)=some (sh N r):=by
 unfold pU at hd
 split at hd
 . simp only[jN,pU];exact Fy hd
 . cases hd
theorem FA{d:DV}{i:Int}(hd:fx d=some i):fx (sh N d)=some i:=by
 unfold fx at hd
 split at hd
 . simp only[bJ,bM,fx];exact hd
 . cases hd
theorem V9{b o len:Nat}{i:Int}{s:Option Nat}{v:Value}(h:nr b o len i s=some v):nr (b+N) o len i s=some (bM N v):=by
 cases s with
 |none=>cases h
 |some s=>
  simp only[nr]at h⊢
  split at h
  . rename_i hc;cases h;rw[if_pos hc];rfl
  . cases h
theorem Wa{b o:Nat}{i:Int}{s:Option (Nat×Nat)}{v:Value}(h:nu b o i s=some v):nu (b+N) o i s=some (bM N v):=by
 cases s with
 |none=>cases h
 |some s=>
  simp only[nu]at h⊢
  split at h
  . rename_i hc;cases h;rw[if_pos hc];rfl
  . cases h
theorem Wb{i:Int}{xs:List (List DV)}{d:DV}(h:pV i xs=some d):pV i (xs.map λx=>x.map (sh N))=some (sh N d):=by
 unfold pV at h⊢
 split at h
 . rename_i hc;simp only[DE]at h;obtain⟨r,h1,rfl⟩:=h;simp only[hc,if_true,Zj,h1,qe,mD]
 . cases h
theorem Wc{ty:TypeId}{d c r:DV}(hd:ia e.aT ty d (fx c)=some r):ia e ty (sh N d) (fx (sh N c))=some (sh N r):=by
 cases hi:fx c with
 |none=>rw[hi]at hd;unfold ia at hd;split at hd<;>simp_all
 |some i=>
  rw[hi]at hd;rw[FA hi];unfold ia at hd
  split at hd
  . rename_i b o len cap i' he;cases he;simp only[DE]at hd;obtain⟨v,h1,rfl⟩:=hd;have h1:nr b o len i (e.elem ty)=some v:=h1;simp only[bJ,bM,ep,ia,V9 h1,qe]
  . rename_i b o i' he;cases he;simp only[DE]at hd;obtain⟨v,h1,rfl⟩:=hd;have h1:nu b o i (e.arr ty)=some v:=h1;simp only[bJ,bM,ep,ia,Wa h1,qe]
  . rename_i k xs i' he;cases he
    split at hd
    . rename_i hk;have hk:e.elem ty=some k:=hk;simp only[lO,ia,hk,if_true];exact Wb hd
    . cases hd
  . rename_i xs off i' he;cases he
    split at hd
    . rename_i n s ha;have ha:e.arr ty=some (n,s):=ha
      split at hd
      . rename_i hc;cases hd;simp only[mD,ia,ha,hc,and_self,if_true]
      . cases hd
    . cases hd
  . cases hd
theorem Wd{ty:TypeId}{d c r:DV}(hn:df c=true)(ai:∀x,d=.v x->df d=true/\df r=true)(hd:mr e.aT ty d c=some r):mr e ty (sh N d) (sh N c)=some (sh N r):=by
 rw[fU hn];unfold mr at hd
 split at hd
 . rename_i l k i
   split at hd
   . rename_i n s ld hp;have hp:e.zZ ty=some (n,s,ld):=hp
     split at hd
     . rename_i hc;simp only[jN,mr,hp,hc,and_self,if_true];exact Fy hd
     . cases hd
   . cases hd
 . rename_i x y;obtain⟨h1,h2⟩:=ai x rfl;rw[fU h1,fU h2];exact hd
 . cases hd
theorem We{i:Nat}{d r:DV}(hd:lG i d=some r)(hn:∀x,d=.v x->df r=true):lG i (sh N d)=some (sh N r):=by
 unfold lG at hd
 split at hd
 . simp only[jf,lG,Zj,hd,qe]
 . rw[fU (hn _ rfl)];exact hd
 . cases hd
theorem Wf{d r:DV}(hd:kJ d=some r):kJ (sh N d)=some (sh N r):=by
 unfold kJ at hd
 split at hd
 . cases hd;simp only[bJ,bM,kJ]
 . cases hd;simp only[mD,kJ]
 . cases hd;simp only[oM,kJ]
 . cases hd
theorem FB(hh:HS N h0 h){sz:Nat}{d:DV}{n:Nat}{cs:List DV}(hd:fy h0 sz d=some (n,cs)):fy h sz (sh N d)=some (n,cs.map (sh N)):=by
 unfold fy at hd
 split at hd
 . rename_i k xs
   split at hd
   . rename_i hk;simp only[GP,Zr]at hd;obtain⟨rfl,rfl⟩:=hd;simp only[lO,fy,hk,if_true,PX,List.map_flatten]
   . cases hd
 . rename_i n' c
   split at hd
   . rename_i hk;simp only[GP,Zr]at hd;obtain⟨rfl,rfl⟩:=hd;simp only[bJ,bM,fy,hk,if_true,List.map_nil]
   . cases hd
 . rename_i b o n' c
   split at hd
   . rename_i cs' wr ah hg
     split at hd
     . rename_i hc;simp only[GP,Zr]at hd;obtain⟨rfl,rfl⟩:=hd;simp only[bJ,bM,ep,fy,hh.row hg,PX,hc,if_true,TF,VK]
     . cases hd
   . cases hd
 . cases hd
theorem FC:∀{l:List DV} {ns:List Int},kX l=some ns->kX (l.map (sh N))=some ns
 |[],_,h=>h
 |d::l,ns,h=>by
  unfold kX at h
  split at h
  . contradiction
  . rename_i n r he;cases he;simp only[DE]at h;obtain⟨r,h1,rfl⟩:=h;simp only[Qc,bJ,bM,kX,FC h1,qe]
  . cases h
theorem Wg(hh:HS N h0 h){s d:TypeId}{x r:DV}(hn:(e.lH s d||(df x&&df r))=true)(hd:mv e.aT h0 s d x=some r):mv e h s d (sh N x)=some (sh N r):=by
 unfold mv at hd⊢
 split at hd
 . rename_i hb;have hb:e.lH s d=true:=hb;simp only[hb];unfold rB at hd
   split at hd
   . rename_i n cs ad;simp only[DE]at hd;obtain⟨ns,h1,rfl⟩:=hd;rw[FB hh ad];simp only[rB,FC h1,qe,bJ,bM]
   . cases hd
 . rename_i hb;have hb:e.lH s d=false:=hb;simp only[hb,Bool.false_or,PO]at hn⊢;rw[fU hn.1,fU hn.2];exact hd
theorem AP{d:Option DV}{i:Option Int}(hd:e9 d=some i):e9 (d.map (sh N))=some i:=by
 cases d with
 |none=>exact hd
 |some d=>
  simp only[e9,DE,qe]at hd⊢;obtain⟨i,h1,rfl⟩:=hd;exact⟨i,FA h1,rfl⟩
theorem Wh(hh:HS N h0 h){ty:TypeId}{x r:DV}{lo hi mx:Option Int}(hd:iZ e.aT h0 ty x lo hi mx=some r):iZ e h ty (sh N x) lo hi mx=some (sh N r):=by
 have he:e.aT.elem ty=e.elem ty:=rfl;unfold iZ at hd;rw[he]at hd
 split at hd
 . rename_i k xs s hs;simp only[lO,iZ,hs,PX];cases h1:dC mx xs.length xs.length with
   |none=>rw[h1]at hd;cases hd
   |some m=>
    rw[h1]at hd;simp only at hd⊢;cases h2:dC hi m xs.length with
    |none=>rw[h2]at hd;cases hd
    |some h'=>
     rw[h2]at hd;simp only at hd⊢;cases h3:dC lo h' 0 with
     |none=>rw[h3]at hd;cases hd
     |some l=>
      rw[h3]at hd;simp only at hd⊢
      split at hd
      . rename_i hc;cases hd;rw[if_pos hc,lO,TF,VK]
      . cases hd
 . rename_i len cap s hs;simp only[bJ,bM,iZ,hs];cases h1:dC mx cap cap with
   |none=>rw[h1]at hd;cases hd
   |some m=>
    rw[h1]at hd;simp only at hd⊢;cases h2:dC hi m len with
    |none=>rw[h2]at hd;cases hd
    |some h'=>
     rw[h2]at hd;simp only at hd⊢;cases h3:dC lo h' 0 with
     |none=>rw[h3]at hd;cases hd
     |some l=>
      rw[h3]at hd;simp only at hd⊢
      split at hd
      . rename_i hc;cases hd;rw[if_pos hc];simp only[bJ,bM,ep]
      . cases hd
 . rename_i b o len cap s hs;simp only[bJ,bM,ep,iZ,hs,hh.get b];cases hg:h0.get b with
   |none=>rw[hg]at hd;cases hd
   |some ob=>
    cases ob with
    |row cs wr ah=>
     rw[hg]at hd;simp only[qe,fK]at hd⊢;cases h1:dC mx cap cap with
     |none=>rw[h1]at hd;cases hd
     |some m=>
      rw[h1]at hd;simp only at hd⊢;cases h2:dC hi m len with
      |none=>rw[h2]at hd;cases hd
      |some h'=>
       rw[h2]at hd;simp only at hd⊢;cases h3:dC lo h' 0 with
       |none=>rw[h3]at hd;cases hd
       |some l=>
        rw[h3]at hd;simp only at hd⊢
        split at hd
        . rename_i hc;cases hd;rw[if_pos hc];simp only[bJ,bM,ep]
        . cases hd
    |_=>rw[hg]at hd;cases hd
 . cases hd
theorem Wi(hh:HS N h0 h){ty:TypeId}{x:Option DV}{lo hi mx:Option (Option DV)}{r:DV}(hn:∀s,x=some (.v (.string s))->df r=true/\(∀d,lo=some (some d)->df d=true)/\(∀d,hi=some (some d)->df d=true)/\(∀d,mx=some (some d)->df d=true))
 (hd:dz e.aT h0 ty x lo hi mx=some r):dz e h ty (x.map (sh N)) (lo.map λd=>d.map (sh N)) (hi.map λd=>d.map (sh N)) (mx.map λd=>d.map (sh N))=some (sh N r):=by
 have hm:∀(y:Option (Option DV)),(∀d,y=some (some d)->df d=true)->(y.map λd=>d.map (sh N))=y:=λy hy=>by
  cases y with
  |none=>rfl
  |some y=>cases y with
   |none=>rfl
   |some d=>simp only[qe,fU (hy d rfl)]
 unfold dz at hd
 split at hd
 . obtain⟨h1,h2,h3,h4⟩:=hn _ rfl;rename_i s lo hi mx;rw[hm _ h2,hm _ h3,hm _ h4,fU h1];exact hd
 . rename_i x lo hi mx hx
   split at hd
   . rename_i az aA aC b1 b2 b3;simp only[qe];have key:=Wh hh hd;unfold dz
     split
     . rename_i s _ _ _ e1 _ _ _;exfalso;simp only[GP]at e1;cases x<;>simp[bJ,jN,jf,oM,lO,mD]at e1;rename_i y;have:y=.string s:=by
        revert e1;unfold bM
        split<;>first|(intro h;cases h;done)|exact id
       subst this;exact hx s rfl
     . rename_i _ e1 e2 e3 e4;cases e1;cases e2;cases e3;cases e4;simp only[AP b1,AP b2,AP b3];exact key
     . rename_i ao;exact(ao _ _ _ _ rfl rfl rfl rfl).elim
   . cases hd
 . cases hd
theorem AQ{P:Program}{kt:TypeId}{k:Value}:∀{es:List bq} {r:Option DV},findD P kt k es=some r->findD P kt k (es.map (fC N))=some (r.map (sh N))
 |[],r,h=>by simp only[findD,GP]at h;subst h;rfl
 |x::es,r,h=>by
  simp only[findD]at h;simp only[Qc,findD];have:(fC N x).key=x.key:=rfl;rw[this]
  split at h
  . cases h
  . cases h;rfl
  . exact AQ h
theorem FD{ty:TypeId}{ok:Bool}{k:Value}{es:List bq}{r:DV}(hd:kW e.aT ty ok k es=some r):kW e ty ok k (es.map (fC N))=some (sh N r):=by
 unfold kW at hd;have hu:e.aT.under=e.under:=rfl;have hP:e.aT.P=e.P:=rfl;have hz:e.aT.zero=e.zero:=rfl;rw[hu,hP,hz]at hd
 split at hd
 . rename_i kt et h1;unfold kW;simp only[h1]
   split at hd
   . cases hd
   . rename_i kd h2
     split at hd
     . rename_i hc;rw[if_pos (by simpa using hc)]
       split at hd
       . cases hd
       . rename_i d h3;rw[AQ h3];cases hd;cases ok<;>simp[jf,bJ,bM]
       . rename_i h3;rw[AQ h3];simp only[Option.map_none]
         split at hd
         . cases hd
         . rename_i z hz
           split at hd
           . rename_i hp;rw[if_pos hp];cases hd;cases ok<;>simp[jf,bJ,bM,Fv hp]
           . cases hd
     . cases hd
 . cases hd
theorem Wj(hh:HS N h0 h){ty:TypeId}{ok:Bool}{m k r:DV}(hk:df k=true)(hd:kK e.aT h0 ty ok m k=some r):kK e h ty ok (sh N m) (sh N k)=some (sh N r):=by
 rw[fU hk];unfold kK at hd
 split at hd
 . rename_i kv ae;simp only[bJ,bM,kK,ae];exact FD (es:=[]) hd
 . rename_i b kv ae;simp only[bJ,bM,kK,ae]
   split at hd
   . rename_i es c hg;rw[hh.mp hg];exact FD hd
   . cases hd
 . cases hd
theorem FE(x:aa)(ty:TypeId)(v:Value):fk e.aT x ty v=fk e x ty v:=(rfl)
theorem Wk(hh:HS N h0 h){ty:TypeId}{d r:DV}(hd:gO e.aT h0 ty d=some r)(hn:df r=true):gO e h ty (sh N d)=some (sh N r):=by
 have he:e.aT.elem ty=e.elem ty:=rfl;have hu:e.aT.under ty=e.under ty:=rfl;rw[fU hn];unfold gO at hd;rw[he,hu]at hd
 split at hd
 . simp only[lO,gO,PX]
   split at hd
   . exact hd
   . cases hd
 . rename_i a l c;have:∃a',sh N (.v (.slice a l c))=.v (.slice a' l c):=by cases a<;>exact⟨_,by simp only[bJ,bM];rfl⟩
   obtain⟨a',ha⟩:=this;rw[ha]
   split at hd
   . rename_i s hs;simp only[gO,hs];exact hd
   . cases hd
 . simp only[bJ,bM,gO];rw[<-FE];exact hd
 . simp only[bJ,bM,gO];rw[<-FE];exact hd
 . rename_i b
   split at hd
   . rename_i k v es c av hg;simp only[bJ,bM,gO,av,hh.mp hg,PX];exact hd
   . cases hd
 . cases hd
theorem Wl{op:BinOp}{ty:TypeId}{x y:Operand}{a b r:DV}(ha:df a=true)(hb:df b=true)(hr:df r=true)(hd:iY e.aT op ty x y a b=some r):iY e op ty x y (sh N a) (sh N b)=some (sh N r):=by
 rw[fU ha,fU hb,fU hr];exact hd
theorem xI{place:Nat->Option (Nat×Nat)}:∀{ps:List (Nat×DV)} {cs r:List DV},jH place cs ps=some r->jH place (cs.map (sh N)) (ps.map (vj N))=some (r.map (sh N))
 |[],cs,r,h=>by simp only[jH,GP]at h;subst h;rfl
 |(i,v)::ps,cs,r,h=>by
  simp only[jH]at h;simp only[Qc,vj,jH]
  split at h
  . cases h
  . rename_i off size hp
    split at h
    . rename_i hc;have:=xI h;simp only[Z4,TF,VK]at this;simp only[AM,PX,vi];rw[if_pos hc];exact this
    . cases h
def nG(e:Env)(ty:TypeId):Bool:=match e.zero ty with
 |some z=>z.cells.toList.all iE
 |none=>true
theorem Wm{ty:TypeId}{ps:List (Nat×DV)}{r:DV}(hz:nG e ty=true)(hd:eA e.aT ty ps=some r):eA e ty (ps.map (vj N))=some (sh N r):=by
 unfold eA at hd⊢;have h1:e.aT.zero=e.zero:=rfl;have h2:e.aT.under=e.under:=rfl;have h3:e.aT.size=e.size:=rfl;have h4:jW e.aT=jW e:=rfl;rw[h1,h2,h3,h4]at hd;unfold nG at hz
 split at hd
 . rename_i z fields g1 g2;rw[g1]at hz;simp only[DE]at hd⊢;obtain⟨cs,q1,rfl⟩:=hd;have:=xI (N:=N) q1;rw[sX hz]at this;exact⟨_,this,(jN _).symm⟩
 . rename_i z n elem g1 g2;rw[g1]at hz
   split at hd
   . cases hd
   . rename_i s hs;simp only[DE]at hd⊢;obtain⟨cs,q1,rfl⟩:=hd;have:=xI (N:=N) q1;rw[sX hz]at this;exact⟨_,this,(jN _).symm⟩
 . cases hd
theorem Wn{f:FuncId}{a c:Option (List DV)}{r:DV}(hd:nB f a c=some r):nB f (a.map λl=>l.map (sh N)) (c.map λl=>l.map (sh N))=some (sh N r):=by
 unfold nB at hd
 split at hd
 . cases hd;simp only[qe,nB,oM]
 . cases hd
theorem FG{f:Option DV}{avs:Option (List DV)}{g:FuncId}{l:List DV}(hd:jc f avs=some (g,l)):jc (f.map (sh N)) (avs.map λl=>l.map (sh N))=some (g,l.map (sh N)):=by
 unfold jc at hd
 split at hd
 . cases hd;simp only[qe,oM,jc,Z4]
 . cases hd
theorem xJ(ht:TS N t0 t){ops:List Oper}{o:Oper}{b:Bool}(hd:ic ops t0 o=some b):ic ops t o=some b:=by
 unfold ic at hd⊢
 split at hd
 . exact hd
 . split at hd
   . cases hd
   . rename_i j want _ d hj;rw[ht d]
     split at hd
     . rename_i hg;rw[hg];simp only[qe,bJ,bM];exact hd
     . rename_i hg;rw[hg];simp only[qe,bJ,bM];exact hd
     . rename_i hg;rw[hg];simp only[qe,jf];exact hd
     . cases hd
def isVal:Option DV->Bool
 |some (.v _)=>true
 |_=>false
def isStr:Option DV->Bool
 |some (.v (.string _))=>true
 |_=>false
def AS:Option (Option DV)->Bool
 |some (some d)=>df d
 |_=>true
def jg(e:Env)(t:Tr DV)(op:Op)(r:DV):Bool:=match op with
 |.binOp _ _ x y _=>iF (aB e t x)&&iF (aB e t y)&&df r
 |.unOp _ _ x=>iF (aB e t x)&&df r
 |.makeInterface _ x=>iF (aB e t x)&&df r
 |.convert s d x=>e.lH s d||(iF (aB e t x)&&df r)
 |.slice _ x lo hi mx=> !isStr (aB e t x)||(df r&&AS (eh e t lo)&&AS (eh e t hi)&&AS (eh e t mx))
 |.index _ x i=>iF (aB e t i)&&(!isVal (aB e t x)||(iF (aB e t x)&&df r))
 |.extract x _=> !isVal (aB e t x)||df r
 |.lookup _ _ k _=>iF (aB e t k)
 |.build ty _=>nG e ty
 |.call c=>df r&&match c.callee with
  |.builtin .len=>true
  |_=>match cz e t c.args.toList with|some l=>l.all df|none=>true
 |_=>true
theorem Wo(hh:HS N h0 h)(ht:TS N t0 t){op:Op}{r:DV}(hg:jg e.aT t0 op r=true)(hd:aS e.aT h0 t0 op=some r):aS e h t op=some (sh N r):=by
 cases op with
 |move x=>exact dL ht hd
 |assign x=>exact dL ht hd
 |pick c a b=>
  simp only[aS,pX]at hd⊢
  split at hd
  . rename_i hc;simp only[dL ht hc,bJ,bM];exact dL ht hd
  . rename_i hc;simp only[dL ht hc,bJ,bM];exact dL ht hd
  . cases hd
 |build ty parts=>
  obtain⟨ps,h1,h2⟩:=Er.1 hd;simp only[aS,AN ht h1,xS];exact Wm (e:=e) hg h2
 |load ty a=>
  obtain⟨x,h1,h2⟩:=Er.1 hd;simp only[aS,dL ht h1,xS];exact Fx hh h2
 |nilCheck x=>
  obtain⟨x,h1,h2⟩:=Er.1 hd;simp only[aS,dL ht h1,xS];exact Wf h2
 |binOp o ty x y z=>
  simp only[aS,fI]at hd⊢
  split at hd
  . rename_i a b ha hb;simp only[jg,ha,hb,iF,PO]at hg;simp only[dL ht ha,dL ht hb];exact Wl hg.1.1 hg.1.2 hg.2 hd
  . cases hd
 |unOp o ty x=>
  obtain⟨a,h1,h2⟩:=Er.1 hd;simp only[jg,h1,iF,PO]at hg;simp only[aS,dL ht h1,xS,fU hg.1,fU hg.2];exact h2
 |convert s d x=>
  obtain⟨a,h1,h2⟩:=Er.1 hd;simp only[jg,h1,iF]at hg;simp only[aS,dL ht h1,xS];exact Wg hh hg h2
 |makeInterface ty x=>
  obtain⟨a,h1,h2⟩:=Er.1 hd;simp only[jg,h1,iF,PO]at hg;simp only[aS,dL ht h1,xS,fU hg.1,fU hg.2];exact h2
 |makeFunc fn first cap=>
  cases fn with
  |func f=>
   simp only[aS]at hd⊢;have key:=Wn (N:=N) hd;unfold nB at hd
   split at hd
   . rename_i a c ha hc;rw[ha,hc]at key;rw[nF ht ha,nF ht hc];exact key
   . cases hd
  |_=>cases hd
 |slice ty x lo hi mx=>
  simp only[aS]at hd⊢;obtain⟨a,ha⟩:∃y,aB e.aT t0 x=some y:=by
   cases hq:aB e.aT t0 x with
   |none=>rw[hq]at hd;unfold dz at hd;split at hd<;>simp_all
   |some y=>exact⟨y,rfl⟩
  rw[ha]at hd;obtain⟨l,hl⟩:∃y,eh e.aT t0 lo=some y:=by
   cases hq:eh e.aT t0 lo with
   |none=>rw[hq]at hd;unfold dz at hd;split at hd<;>simp_all
   |some y=>exact⟨y,rfl⟩
  rw[hl]at hd;obtain⟨m,hm⟩:∃y,eh e.aT t0 hi=some y:=by
   cases hq:eh e.aT t0 hi with
   |none=>rw[hq]at hd;unfold dz at hd;split at hd<;>simp_all
   |some y=>exact⟨y,rfl⟩
  rw[hm]at hd;obtain⟨n,hn⟩:∃y,eh e.aT t0 mx=some y:=by
   cases hq:eh e.aT t0 mx with
   |none=>rw[hq]at hd;unfold dz at hd;split at hd<;>simp_all
   |some y=>exact⟨y,rfl⟩
  rw[hn]at hd;rw[dL ht ha,AO ht hl,AO ht hm,AO ht hn];refine Wi (e:=e) hh (x:=some a) (lo:=some l) (hi:=some m) (mx:=some n) (λs hs=> ?_) hd;cases hs;simp only[jg,ha,hl,hm,hn,isStr,Bool.not_true,Bool.false_or,PO]at hg;refine⟨hg.1.1.1,λd hd=> ?_,λd hd=> ?_,λd hd=> ?_⟩
  . cases hd;exact hg.1.1.2
  . cases hd;exact hg.1.2
  . cases hd;exact hg.2
 |fieldAddr s x f=>
  obtain⟨a,h1,h2⟩:=Er.1 hd;simp only[aS,dL ht h1,xS];exact V7 h2
 |field ty x f=>
  obtain⟨a,h1,h2⟩:=Er.1 hd;simp only[aS,dL ht h1,xS];exact V8 h2
 |indexAddr ty x ix=>
  simp only[aS,fI]at hd⊢
  split at hd
  . rename_i a b ha hb;simp only[dL ht ha,dL ht hb];exact Wc hd
  . cases hd
 |index ty x ix=>
  simp only[aS,fI]at hd⊢
  split at hd
  . rename_i a b ha hb;simp only[jg,ha,hb,iF,PO]at hg;simp only[dL ht ha,dL ht hb];refine Wd hg.1 (λx hx=> ?_) hd;subst hx;simpa[isVal]using hg.2
  . cases hd
 |lookup ty m k ok=>
  simp only[aS,fI]at hd⊢
  split at hd
  . rename_i a b ha hb;simp only[jg,hb,iF]at hg;simp only[dL ht ha,dL ht hb];exact Wj hh hg hd
  . cases hd
 |extract x i=>
  obtain⟨a,h1,h2⟩:=Er.1 hd;simp only[aS,dL ht h1,xS];refine We h2 λx hx=> ?_;subst hx;simpa[jg,h1,isVal]using hg
 |call c=>
  obtain⟨callee,args,aD⟩:=c;have hl:∀l:List DV,l.all df=true->l.map (sh N)=l:=λl hl=>by
   simp only[W9]at hl;exact(Xw λd hd=>fU (hl d hd)).trans (List.map_id' l)
  cases callee with
  |builtin b=>
   cases b with
   |len=>
    simp only[aS]at hd⊢;simp only[jg,Bool.and_true]at hg;unfold oI at hd
    split at hd
    . rename_i x hx
      split at hd
      . cases hd
      . rename_i ty aw;rw[nF ht hx];simp only[Qc,List.map_nil,oI,aw];exact Wk hh hd hg
    . cases hd
   |min=>
    simp only[aS]at hd⊢;obtain⟨vs,h1,h2⟩:=Er.1 hd;obtain⟨l,h3,h4⟩:=Er.1 h1;simp only[jg,h3,PO]at hg;rw[nF ht h3,hl l hg.2,fU hg.1];simp only[xS,h4];exact h2
   |max=>
    simp only[aS]at hd⊢;obtain⟨vs,h1,h2⟩:=Er.1 hd;obtain⟨l,h3,h4⟩:=Er.1 h1;simp only[jg,h3,PO]at hg;rw[nF ht h3,hl l hg.2,fU hg.1];simp only[xS,h4];exact h2
   |_=>cases hd
  |_=>cases hd
 |_=>cases hd
end Go.au
end

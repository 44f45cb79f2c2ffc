/- SpacingIndependent: parts of its proof. -/
import Derived.Test.YtmhjnafgdhaemaaGreatDoorK46
open List renaming all_eq_true->qe,mem_singleton->DE,range->Er,mem_append->PO,getElem?_eq_some_iff->Zj,getElem?_modify->Zr,any_eq_true->ZJ,mem_cons->ZL,not_mem_nil->Z4,mem_of_mem_take->abR,getElem?_eq_getElem->adS,length_take->adT,map_append->adU,map_cons->adV,map_nil->adW,mem_map->adX,mem_cons_of_mem->adY,getElem?_map->adZ,getElem?_of_mem->ad0,mem_of_getElem?->ad1,nodup_append->ad2,length_map->ad3,length_cons->ad4,isEmpty_iff->ad5
open Bool renaming and_eq_true->xS,not_eq_true'->Qc,or_eq_true->VK
open Int renaming emod_lt_of_pos->GP,emod_nonneg->PX
open Nat renaming beq->TF,le_of_ble_eq_true->Xw,mod_eq_of_lt->adr,or_lt_two_pow->ad6
open BitVec renaming ofInt->W2,ofNat->W9,toNat_ofNat->ab8
set_option linter.all false
set_option maxRecDepth 100000
noncomputable section
open Go Go.au Go.Proofs
namespace Go.Sp
theorem Cl:∀p∈dW,xX p.1 p.2:=by
 have h:(dW.all λp=>Nat.blt p.1 256&&(aF p.1).nodes.all λx=>decide (x.1<p.2))=true:=by kernel_rfl
 intro p hp;have h1:=qe.1 h p hp;rw[xS]at h1;exact⟨Xw h1.1,λx hx=>of_decide_eq_true (qe.1 h1.2 x hx)⟩
theorem Cm(b:Int)(n:Nat)(h0:0<=b)(h1:b<256)(hn:n<=3):kN n (cg bp b n):=by
 obtain⟨c,h2,h3⟩:=G5 b n h0 h1 hn;exact⟨c,h2,Cl (c,(n:Int)) h3⟩
def Tok.strip(t:Tok):Tok:={t with cond:=aP true}
structure Ext(g g':ai):Prop where
 conds:g'.conds=g.conds
 aH:g'.aH=g.aH
 ar:∀(i:Nat) t,g.ar[i]? =some t->∃t',g'.ar[i]? =some t'/\t'.cls=t.cls/\t'.lit=t.lit
 ak:∀(i:Nat) p,g.ak[i]? =some p->g'.ak[i]? =some p
theorem Ext.mQ{g g':ai}(h:Ext g g'):g.ak.length<=g'.ak.length:=by
 rcases Nat.eq_zero_or_pos g.ak.length with h0|h0
 . omega
 . have h1:=h.ak (g.ak.length-1) _ (adS (by omega));have:=(Zj.1 h1).1;omega
theorem qj.ext{g g':ai}(h:Ext g g'){s:Sym}(hs:qj g s):qj g' s:=by
 obtain⟨tok,i⟩:=s;cases tok with
 |false=>exact(show 0<=i/\i<g'.aH.length from by rw[h.aH];exact hs)
 |true=>
  obtain⟨t,h0,h1,h2⟩:=(show∃t,0<=i/\g.ar[i.toNat]? =some t/\t.cls=0 from hs);obtain⟨t',h3,h4,_⟩:=h.ar _ t h1;exact(show∃t,0<=i/\g'.ar[i.toNat]? =some t/\t.cls=0 from⟨t',h0,h3,h4.trans h2⟩)
theorem tA.ext{g g':ai}(h:Ext g g'){p:aQ}(hp:tA g p):tA g' p:=
 ⟨by rw[h.aH];exact hp.left,λs hs=>(hp.right s hs).ext h,by rw[h.conds];exact hp.cond,hp.eJ,hp.aj⟩
theorem tB.ext{g g':ai}(h:Ext g g'){l:de}(hl:tB g l):tB g' l:=
 ⟨hl.assoc,by rw[h.conds];exact hl.cond,λp hp=>by have:=hl.ak p hp;have:=h.mQ;omega⟩
theorem mL.ext{g g':ai}(h:Ext g g'){K:Tok->Prop}(hK:∀t t':Tok,t'.cls=t.cls->t'.lit=t.lit->K t->K t'){l:List Int}(hl:mL g K l):mL g' K l:=
 ⟨hl.ne,hl.len,λn hn=>by
  obtain⟨h0,t,h1,h2⟩:=hl.tok n hn;obtain⟨t',h3,h4,h5⟩:=h.ar _ t h1;exact⟨h0,t',h3,hK t t' h4 h5 h2⟩,hl.up⟩
theorem rV.ext{g g':ai}(h:Ext g g'){f:bd}(hf:rV g f):rV g' f:=by
 obtain⟨p,c,s,p0,hp,c0,hc,a0,hs,rfl⟩:=hf.ex;exact⟨p,c,_,p0,h.ak _ _ hp,c0,h.ak _ _ hc,a0,hs,rfl⟩
theorem rW.ext{g g':ai}(h:Ext g g'){f:bd}(hf:rW g f):rW g' f:=by
 rcases hf with⟨a,b,c,d,e⟩|⟨a,b,c,d,e⟩|⟨a,b,c,d,e,i,j,k⟩|⟨a,b,c,d,e,i,j,k⟩|⟨a,b,c,d,e,i,t,j,k,l,m⟩
 . exact .inl ⟨a,b,c,d,e.ext h⟩
 . exact .inr (.inl ⟨a,b,c,d,e.ext h⟩)
 . exact .inr (.inr (.inl ⟨a,b,c,d,e,i,by rw[h.aH];exact j,k.ext h λ_ _ h1 _ h2=>h1.trans h2⟩))
 . exact .inr (.inr (.inr (.inl ⟨a,b,c,d,e,i,by rw[h.aH];exact j,k.ext h λ_ _ h1 _ h2=>h1.trans h2⟩)))
 . obtain⟨t',h3,h4,h5⟩:=h.ar _ t j;exact .inr (.inr (.inr (.inr ⟨a,b,c,d,e,i,t',h3,h4.trans k,h5.trans l,m.ext h λ_ _ _ h1 h2=>by rw[h1];exact h2⟩)))
structure GI(g:ai)(r m:Nat):Prop where
 room:dM g r
 cL:vw g
 tk:g.ar.map Tok.strip=ar.map Tok.strip
 tc:∀t∈g.ar,kN g.conds.length t.cond
 aH:mJ g.aH/\g.start=0
 mQ:g.ak.length<=m
 new:mJ (g.ak.map (·.name))
 res:∀k,g.ak.length<=k->k<100->jo k∉g.ak.map (·.name)
 ok:∀p∈g.ak,tA g p
 nd:(g.ba.flatMap (·.ak)).Nodup
 pd:∀l∈g.ba,tB g l
 ku:∀f∈g.bj,kN g.conds.length f.cond/\rW g f
theorem GI.ord{g:ai}{r m:Nat}(h:GI g r m){i:Int}(h0:0<=i)(h1:i<9):∃t,g.ar[i.toNat]? =some t/\t.cls=0/\(t.lit=⟨#[]⟩↔i=0):=by
 have hl:=h.room.ar;obtain⟨t,ht⟩:∃t,g.ar[i.toNat]? =some t:=⟨_,adS (by omega)⟩;obtain⟨h2,h3⟩:=h.room.ord i.toNat t (by omega) ht;exact⟨t,ht,h2,h3.trans (by omega)⟩
theorem GI.dR{g:ai}{r m:Nat}(h:GI g r m)(f:bd)(hc:kN g.conds.length f.cond)(hf:rW g f):GI (dR g f) (r+1) m:=by
 have he:Ext g (Go.Sp.dR g f):=⟨rfl,rfl,λi t ht=>⟨t,ht,rfl,rfl⟩,λi p hp=>hp⟩;refine⟨h.room.dR f,⟨h.cL.new,h.cL.id,h.cL.len,h.cL.cL⟩,h.tk,h.tc,h.aH,h.mQ,h.new,h.res,λp hp=>(h.ok p hp).ext he,h.nd,λl hl=>(h.pd l hl).ext he,λx hx=> ?_⟩;rcases PO.1 hx with hx|hx
 . exact⟨(h.ku x hx).1,(h.ku x hx).2.ext he⟩
 . obtain rfl:=DE.1 hx;exact⟨hc,hf.ext he⟩
theorem GI.more{g:ai}{r m:Nat}(h:GI g r m):GI g (r+1) m:=⟨h.room.more,h.cL,h.tk,h.tc,h.aH,h.mQ,h.new,h.res,h.ok,h.nd,h.pd,h.ku⟩
theorem Ic(g:ai)(k:Nat)(d:Dg):Ext g (jl g k d):=by
 refine⟨rfl,rfl,λi t ht=> ?_,λi p hp=>hp⟩;by_cases hi:k=i
 . exact⟨{t with cond:=d},by simp[Go.Sp.jl,Zr,ht,hi],rfl,rfl⟩
 . exact⟨t,by simp[Go.Sp.jl,Zr,ht,hi],rfl,rfl⟩
theorem Ie(l:List Tok)(k:Nat)(d:Dg):(l.modify k λx=>{x with cond:=d}).map Tok.strip=l.map Tok.strip:=by
 apply List.ext_getElem?;intro i;rw[adZ,adZ,Zr];cases l[i]? with
 |none=>rfl
 |some t=>
  by_cases hi:k=i
  . simp[hi,Tok.strip]
  . simp[hi]
theorem mem_modify{l:List Tok}{k:Nat}{d:Dg}{t:Tok}(h:t∈l.modify k λx=>{x with cond:=d}):t∈l\/t.cond=d:=by
 obtain⟨i,hi⟩:=ad0 h;rw[Zr]at hi;cases hl:l[i]? with
 |none=>rw[hl]at hi;cases hi
 |some x=>
  rw[hl]at hi;by_cases hk:k=i
  . simp[hk]at hi;exact .inr (by rw[<-hi])
  . simp[hk]at hi;exact .inl (hi▸ad1 hl)
theorem GI.jl{g:ai}{r m:Nat}(h:GI g r m)(k:Nat)(d:Dg)(hc:kN g.conds.length d):GI (jl g k d) (r+1) m:=by
 have he:=Ic g k d;refine⟨h.room.jl k d,⟨h.cL.new,h.cL.id,h.cL.len,h.cL.cL⟩, ?_,λt ht=> ?_,h.aH,h.mQ,h.new,h.res,λp hp=>(h.ok p hp).ext he,h.nd,λl hl=>(h.pd l hl).ext he,λx hx=>⟨(h.ku x hx).1,(h.ku x hx).2.ext he⟩⟩
 . rw[<-h.tk];exact Ie _ _ _
 . rcases mem_modify ht with ht|ht
   . exact h.tc t ht
   . rw[ht];exact hc
theorem Ig{g:ai}{p:Int}(h:mI g p=false):p∉g.ba.flatMap (·.ak):=by
 intro hm;obtain⟨l,h1,h2⟩:=List.mem_flatMap.1 hm;have:mI g p=true:=ZJ.2 ⟨l,h1,decide_eq_true h2⟩;rw[h]at this;cases this
theorem GI.level{g:ai}{r m:Nat}(h:GI g r m)(a b c:Int)(d:Dg)(hc:kN g.conds.length d)(ha:0<=a/\a<g.ak.length)(hb:0<=b/\b<g.ak.length)(aw:0<=c/\c<=3):GI (kq g a b c d) (r+1) m:=by
 have aa:=h.room.level a b c d;unfold kq at aa⊢
 split
 . exact h.more
 . rename_i ae;rw[if_neg ae]at aa;have ae:mI g a=false:=by simpa using ae
   let L:de:=⟨if b≠a/\mI g b=false then [a,b]else [a],c,d⟩
   have he:Ext g {g with ba:=g.ba++[L]}:=⟨rfl,rfl,λi t ht=>⟨t,ht,rfl,rfl⟩,λi p hp=>hp⟩;refine⟨aa,⟨h.cL.new,h.cL.id,h.cL.len,h.cL.cL⟩,h.tk,h.tc,h.aH,h.mQ,h.new,h.res,λp hp=>(h.ok p hp).ext he, ?_,λl hl=> ?_,λx hx=>⟨(h.ku x hx).1,(h.ku x hx).2.ext he⟩⟩
   . show((g.ba++[L]).flatMap (·.ak)).Nodup;rw[List.flatMap_append,ad2];have hL:[L].flatMap (·.ak)=if b≠a/\mI g b=false then [a,b]else [a]:=by simp[L]
     rw[hL];have ao:=Ig ae;refine⟨h.nd, ?_,λx hx y hy=> ?_⟩
     . split
       . rename_i af;simp;exactλh=>af.1 h.symm
       . simp
     . split at hy
       . rename_i af;have az:=Ig af.2;rintro rfl;simp only[ZL,Z4,or_false]at hy;rcases hy with rfl|rfl
         . exact ao hx
         . exact az hx
       . rintro rfl;obtain rfl:=DE.1 hy;exact ao hx
   . rcases PO.1 hl with hl|hl
     . exact(h.pd l hl).ext he
     . obtain rfl:=DE.1 hl;refine⟨aw,hc,λp hp=> ?_⟩;simp only[L]at hp
       split at hp
       . simp only[ZL,Z4,or_false]at hp;rcases hp with rfl|rfl
         . exact ha
         . exact hb
       . obtain rfl:=DE.1 hp;exact ha
theorem GI.Bl{g:ai}{r m:Nat}(h:GI g r m)(x:Rl)(hx:x.Ok):GI (jm (cg bp) g x) (r+1) m:=by
 have hp:=h.room.ak;have hn:=h.room.aH.1;have hc:=Cm x.cond g.conds.length hx.cond.1 hx.cond.2 h.room.conds;have ha:0<=x.a%(g.ak.length:Int)/\x.a%(g.ak.length:Int)<g.ak.length:=⟨PX _ (by omega),GP _ (by omega)⟩;have hb:0<=x.b%(g.ak.length:Int)/\x.b%(g.ak.length:Int)<g.ak.length:=⟨PX _ (by omega),GP _ (by omega)⟩;have hl:0<=x.a%(g.aH.length:Int)/\x.a%(g.aH.length:Int)<g.aH.length:=⟨PX _ (by omega),GP _ (by omega)⟩;have aA:=hx.kind;unfold jm;simp only
 split
 . exact h.level _ _ _ _ hc ha hb (by omega)
 split
 . rename_i h1 h2
   split
   . rename_i ab;refine h.dR _ hc ?_;have av:rV g ⟨x.kind%8-1,x.a%(g.ak.length:Int),x.c%16,x.b%(g.ak.length:Int),0,0,[],cg bp x.cond g.conds.length⟩:=by
      unfold kM at ab
      split at ab
      . rename_i P C e1 e2
        split at ab
        . rename_i s e3;simp only[xS,Qc,decide_eq_true_eq]at ab;exact⟨P,C,s,ha.1,e1,hb.1,e2,by simp only;omega,e3,by obtain⟨tok,i⟩:=s;simp only at ab;rw[ab.1,ab.2]⟩
        . cases ab
      . cases ab
     rcases h2 with h2|h2
     . exact .inl ⟨by simp only;omega,rfl,rfl,rfl,av⟩
     . exact .inr (.inl ⟨by simp only;omega,rfl,rfl,rfl,av⟩)
   . exact h.more
 split
 . rename_i h1 h2 h3;refine h.dR _ hc ?_;have ad:mL g (λt=>t.cls=0) [x.b%9]:=⟨by simp,by simp,λn hn=>by
    obtain rfl:=DE.1 hn;obtain⟨t,h4,h5,_⟩:=h.ord (i:=x.b%9) (by omega) (by omega);exact⟨by omega,t,h4,h5⟩,λi a b h4 h5=>by simp at h5⟩
   rcases h3 with h3|h3
   . exact .inr (.inr (.inl ⟨by simp only;omega,rfl,rfl,rfl,rfl,hl.1,hl.2,ad⟩))
   . exact .inr (.inr (.inr (.inl ⟨by simp only;omega,rfl,rfl,rfl,rfl,hl.1,hl.2,ad⟩)))
 split
 . refine h.dR _ hc ?_;obtain⟨t,h4,h5,h6⟩:=h.ord (i:=0) (by omega) (by omega);refine .inr (.inr (.inr (.inr ⟨rfl,rfl,rfl,rfl,rfl,Int.le_refl _,t,h4,h5,h6.2 rfl,by simp,by simp,λn hn=> ?_,λi a b h7 h8=>by simp at h8⟩)));obtain rfl:=DE.1 hn;obtain⟨t,h4,h5,h6⟩:=h.ord (i:=5) (by omega) (by omega);exact⟨by omega,t,h4,λh=>by have:=h6.1 h;omega⟩
 . exact h.jl _ _ hc
theorem Ih{l:Int}{r:List Sym}(h:qh l r=true):∃a b,a.tok=true/\b.tok=true/\r=[a,⟨false,l⟩,b]:=by
 unfold qh at h
 split at h
 . rename_i a b c;simp only[xS,Qc,decide_eq_true_eq]at h;obtain⟨⟨⟨h1,h2⟩,h3⟩,h4⟩:=h;refine⟨a,c,h1,h2, ?_⟩;obtain⟨tok,i⟩:=b;simp only at h3 h4;rw[h3,h4]
 . cases h
def yw(r:List Sym)(k:Int):Bool:=match r[k.toNat]? with
 |some x=>x.tok
 |none=>false
theorem Ii{r:List Sym}{k:Int}(h:yw r k=true):∃s,r[(k+1-1).toNat]? =some s/\s.tok=true:=by
 rw[show k+1-1=k by omega];unfold yw at h
 split at h
 . rename_i x hx;exact⟨x,hx,h⟩
 . cases h
structure Ij(s:ByteArray)(l:Int)(r:List Sym)(c:Dg)(p:aQ):Prop where
 name:p.name=s
 left:p.left=l
 right:p.right=r
 cond:p.cond=c
 eJ:-1<=p.eJ/\p.eJ<=1
 aj:x7 p
theorem Ik(s:ByteArray)(l:Int)(r:List Sym)(c:Dg)(m:Int)(hr:r.length<=4)(h0:0<=m)(h1:m<256):Ij s l r c (mark s l r c m):=by
 have plain:Ij s l r c (bm s l r c):=⟨rfl,rfl,rfl,rfl,⟨by simp[bm],by simp[bm]⟩,by simp[bm];omega,by simp[bm],by simp[bm],.inl ⟨rfl,rfl⟩,.inl ⟨rfl,rfl⟩,by simp[bm]⟩;have e:mark s l r c m=(if(r.length:Int)=0 then bm s l r c else
  if m%8=1 then{bm s l r c with eJ:=1}
  else if m%8=2 then{bm s l r c with eJ:=-1}
  else if m%8=3 then{bm s l r c with bracket:=qh l r}
  else if m%8=4 then{bm s l r c with layout:=[⟨1+m/8%4,m/8/4%(r.length:Int),if m/8%4=0 then 0 else(r.length:Int)-1⟩]}
  else if m%8=5 then{bm s l r c with scope:=⟨true,0,0,0,0⟩}
  else if m%8=6 then(if yw r (m/8%(r.length:Int))then{bm s l r c with scope:=⟨false,m/8%(r.length:Int)+1,1+m/8%2,0,0⟩}else bm s l r c)
  else if m%8=7 then(if yw r (m/8%(r.length:Int))then{bm s l r c with scope:=⟨false,0,0,m/8%(r.length:Int)+1,1+m/8%7⟩}else bm s l r c)
  else bm s l r c):=rfl
 rw[e]
 split
 . exact plain
 rename_i hn;have ad:0<(r.length:Int):=by omega
 have k0:0<=m/8%(r.length:Int):=PX _ hn;have k1:m/8%(r.length:Int)<r.length:=GP _ ad;have k2:0<=m/8/4%(r.length:Int):=PX _ hn;have k3:m/8/4%(r.length:Int)<r.length:=GP _ ad
 split
 . exact⟨rfl,rfl,rfl,rfl,⟨by simp,by simp⟩,plain.aj.len,plain.aj.lay,plain.aj.qk,plain.aj.tz,plain.aj.use,by simp[bm]⟩
 split
 . exact⟨rfl,rfl,rfl,rfl,⟨by simp,by simp⟩,plain.aj.len,plain.aj.lay,plain.aj.qk,plain.aj.tz,plain.aj.use,by simp[bm]⟩
 split
 . exact⟨rfl,rfl,rfl,rfl,plain.eJ,plain.aj.len,plain.aj.lay,plain.aj.qk,plain.aj.tz,plain.aj.use,λhb=>⟨rfl,rfl,rfl,Ih hb⟩⟩
 split
 . refine⟨rfl,rfl,rfl,rfl,plain.eJ,plain.aj.len,λx hx=> ?_,by simp,plain.aj.tz,plain.aj.use,by simp[bm]⟩;obtain rfl:=DE.1 hx;simp only[Hh,bm];refine⟨by omega,by omega,k2,k3, ?_, ?_,λh=> ?_⟩
   . split<;>omega
   . split<;>omega
   . rw[if_pos (by omega)]
 split
 . exact⟨rfl,rfl,rfl,rfl,plain.eJ,plain.aj.len,plain.aj.lay,plain.aj.qk,plain.aj.tz,plain.aj.use,by simp[bm]⟩
 split
 . split
   . rename_i ht;refine⟨rfl,rfl,rfl,rfl,plain.eJ,plain.aj.len,plain.aj.lay,plain.aj.qk,.inr ⟨by simp only;omega,Ii ht,by simp only;omega,by simp only;omega⟩,.inl ⟨rfl,rfl⟩,by simp[bm]⟩
   . exact plain
 split
 . split
   . rename_i ht;refine⟨rfl,rfl,rfl,rfl,plain.eJ,plain.aj.len,plain.aj.lay,plain.aj.qk,.inl ⟨rfl,rfl⟩,.inr ⟨by simp only;omega,Ii ht,by simp only;omega,by simp only;omega⟩,by simp[bm]⟩
   . exact plain
 . exact plain
theorem aa7:∀i j,i<100->j<100->jo i=jo j->i=j:=by
 have h:((Er 100).all λi=>(Er 100).all λj=> !decide (jo i=jo j)||TF i j)=true:=by kernel_rfl
 intro i j hi hj he;have h1:=qe.1 (qe.1 h i (by simpa using hi)) j (by simpa using hj);rw[decide_eq_true he]at h1;exact Nat.eq_of_beq_eq_true (by simpa using h1)
theorem aa8(k:Nat)(hk:k<100):jo k≠⟨#[]⟩:=by
 have h:((Er 100).all λi=> !decide (jo i=⟨#[]⟩))=true:=by kernel_rfl
 have h1:=qe.1 h k (by simpa using hk);simpa using h1
theorem GI.line{g:ai}{r m:Nat}(h:GI g r m)(x:Ln)(hx:x.Ok)(known:Bool)(hm:m<90):GI (fL (cg bp) g x known) r (m+1):=by
 have aa:=h.room.line (cg bp) x known;unfold fL at aa⊢;simp only at aa⊢
 split
 . exact⟨h.room,h.cL,h.tk,h.tc,h.aH,by have:=h.mQ;omega,h.new,h.res,h.ok,h.nd,h.pd,h.ku⟩
 . rename_i hc;rw[if_neg hc]at aa;have hn:=h.room.aH.1;have hlen:((x.right.take 4).map (jn (g.aH.length:Int))).length<=4:=by rw[ad3,adT];omega
   have mk:=Ik (jo g.ak.length) (x.left%(g.aH.length:Int)) ((x.right.take 4).map (jn (g.aH.length:Int))) (cg bp x.cond g.conds.length) x.mark hlen hx.mark.1 hx.mark.2;generalize mark (jo g.ak.length) (x.left%(g.aH.length:Int)) ((x.right.take 4).map (jn (g.aH.length:Int))) (cg bp x.cond g.conds.length) x.mark=P at mk aa⊢;have af:=h.mQ;have he:Ext g {g with ak:=g.ak++[P]}:=⟨rfl,rfl,λi t ht=>⟨t,ht,rfl,rfl⟩,λi p hp=>by
    show(g.ak++[P])[i]? =some p;rw[List.getElem?_append_left (Zj.1 hp).1];exact hp⟩
   refine⟨aa,⟨h.cL.new,h.cL.id,h.cL.len,h.cL.cL⟩,h.tk,h.tc,h.aH,by simp;omega,⟨?_,λs hs=> ?_⟩,λk ab ae hs=> ?_,λp hp=> ?_,h.nd,λl hl=>(h.pd l hl).ext he,λx hx=>⟨(h.ku x hx).1,(h.ku x hx).2.ext he⟩⟩
   . show((g.ak++[P]).map (·.name)).Nodup;rw[adU,ad2];refine⟨h.new.1,by simp,λa ha b hb=> ?_⟩;simp only[adV,adW,DE]at hb;rintro rfl;rw[hb,mk.name]at ha;exact h.res g.ak.length (Nat.le_refl _) (by omega) ha
   . have hs:s∈(g.ak++[P]).map (·.name):=hs;rw[adU,PO]at hs;rcases hs with hs|hs
     . exact h.new.2 s hs
     . simp only[adV,adW,DE]at hs;rw[hs,mk.name];exact aa8 _ (by omega)
   . have hs:jo k∈(g.ak++[P]).map (·.name):=hs;have ab:(g.ak++[P]).length<=k:=ab;rw[List.length_append,List.length_singleton]at ab;rw[adU,PO]at hs;rcases hs with hs|hs
     . exact h.res k (by omega) ae hs
     . simp only[adV,adW,DE]at hs;rw[mk.name]at hs;have:=aa7 _ _ ae (by omega) hs;omega
   . rcases PO.1 hp with hp|hp
     . exact(h.ok p hp).ext he
     . obtain rfl:=DE.1 hp;refine⟨?_,λs hs=> ?_, ?_,mk.eJ,mk.aj⟩
       . rw[mk.left];exact⟨PX _ (by omega),GP _ (by omega)⟩
       . rw[mk.right]at hs;obtain⟨b,hb,rfl⟩:=adX.1 hs;have ao:=hx.right b (abR hb);unfold jn
         split
         . obtain⟨t,h1,h2,_⟩:=h.ord (i:=b%14) (by omega) (by omega);exact(show∃t,0<=b%14/\g.ar[(b%14).toNat]? =some t/\t.cls=0 from⟨t,by omega,h1,h2⟩)
         . exact(show 0<=(b%14-9)%(g.aH.length:Int)/\(b%14-9)%(g.aH.length:Int)<g.aH.length from⟨PX _ (by omega),GP _ (by omega)⟩)
       . rw[mk.cond];exact Cm _ _ hx.cond.1 hx.cond.2 h.room.conds
theorem GI.lines{r:Nat}(known:Bool):∀(ls:List Ln) {g:ai} {m:Nat},GI g r m->(∀l∈ls,l.Ok)->m+ls.length<90->GI (ls.foldl (λg l=>fL (cg bp) g l known) g) r (m+ls.length)
 |[],_,_,h,_,_=>h
 |l::ls,g,m,h,hl,hm=>by
  simp only[ad4]at hm⊢;have h1:=h.line l (hl l (by simp)) known (by omega);have h2:=GI.lines known ls h1 (λx hx=>hl x (adY _ hx)) (by omega);rw[show m+(ls.length+1)=m+1+ls.length by omega];exact h2
theorem GI.rules{m:Nat}:∀(ls:List Rl) {g:ai} {r:Nat},GI g r m->(∀l∈ls,l.Ok)->GI (ls.foldl (jm (cg bp)) g) (r+ls.length) m
 |[],_,_,h,_=>h
 |l::ls,g,r,h,hl=>by
  have h1:=h.Bl l (hl l (by simp));have h2:=GI.rules ls h1 (λx hx=>hl x (adY _ hx));simp only[ad4];rw[show r+(ls.length+1)=r+1+ls.length by omega];exact h2
def Il(n:Nat)(s:Sym):Bool:=decide (0<=s.idx)&&if s.tok then decide (s.idx<9)else decide (s.idx<n)
def yx(p:aQ)(k v lo hi:Int):Bool:=(decide (k=0)&&decide (v=0))||(decide (0<k)&&(match p.right[(k-1).toNat]? with|some s=>s.tok|none=>false)&&decide (lo<=v)&&decide (v<=hi))
def Im(n:Nat)(x:lM):Bool:=decide (1<=x.kind/\x.kind<=4/\0<=x.a/\x.a<n/\0<=x.b/\x.b<n/\(x.kind=1->x.b=0))
def tN(n:Nat)(d:Dg):Bool:=dW.any λq=>decide (q.2=n)&&decide ((aF q.1).nodes=d.nodes)&&decide ((aF q.1).root=d.root)
def Cn(p:aQ):Bool:=Nat.ble p.right.length 16&&p.layout.all (Im p.right.length)&&Nat.ble p.layout.length 16&&yx p p.scope.declares p.scope.kind 1 7&&yx p p.scope.vg p.scope.allowed 0 255&&
 (!p.bracket||(decide (p.eJ=0)&&p.layout.isEmpty&& !p.scope.opens&&decide (p.scope.declares=0)&&decide (p.scope.kind=0)&&decide (p.scope.vg=0)&&decide (p.scope.allowed=0)&&qh p.left p.right))
def Co(n c:Nat)(p:aQ):Bool:=decide (0<=p.left)&&decide (p.left<n)&&p.right.all (Il n)&&tN c p.cond&&decide (-1<=p.eJ/\p.eJ<=1)&&Cn p
theorem vL{n:Nat}{d:Dg}(h:tN n d=true):kN n d:=by
 obtain⟨q,h1,h2⟩:=ZJ.1 h;simp only[xS,decide_eq_true_eq]at h2;obtain⟨⟨h3,h4⟩,h5⟩:=h2;refine⟨q.1, ?_,by rw[<-h3];exact Cl q h1⟩;obtain⟨ns,rt⟩:=d;cases hq:aF q.1 with
 |mk a b=>rw[hq]at h4 h5;simp only at h4 h5;rw[h4,h5]
theorem Io{p:aQ}{k v lo hi:Int}(h:yx p k v lo hi=true):x6 p k v lo hi:=by
 simp only[yx,VK,xS,decide_eq_true_eq]at h;rcases h with⟨h1,h2⟩|⟨⟨⟨h1,h2⟩,h3⟩,h4⟩
 . exact .inl ⟨h1,h2⟩
 . refine .inr ⟨h1, ?_,h3,h4⟩
   split at h2
   . rename_i s hs;exact⟨s,hs,h2⟩
   . cases h2
theorem aa9{p:aQ}(h:Cn p=true):x7 p:=by
 simp only[Cn,xS,VK,Qc,qe,decide_eq_true_eq,ad5,Im]at h;obtain⟨⟨⟨⟨⟨h1,h2⟩,h3⟩,h4⟩,h5⟩,h6⟩:=h;refine⟨Xw h1,h2,Xw h3,Io h4,Io h5,λhb=> ?_⟩;rcases h6 with h6|⟨⟨⟨⟨⟨⟨⟨a,b⟩,c⟩,d⟩,e⟩,f⟩,g⟩,i⟩
 . rw[hb]at h6;cases h6
 . refine⟨a,b, ?_,Ih i⟩;cases hs:p.scope with
   |mk o x y z w=>rw[hs]at c d e f g;simp only at c d e f g;rw[c,d,e,f,g]
theorem aba{g:ai}{p:aQ}(ht:g.ar=ar)(h:Co g.aH.length g.conds.length p=true):tA g p:=by
 simp only[Co,xS,decide_eq_true_eq,qe]at h;obtain⟨⟨⟨⟨⟨h1,h2⟩,h3⟩,h4⟩,h5⟩,h6⟩:=h;refine⟨⟨h1,h2⟩,λs hs=> ?_,vL h4,h5,aa9 h6⟩;have:=h3 s hs;obtain⟨tok,i⟩:=s;simp only[Il,xS,decide_eq_true_eq]at this;cases tok with
 |false=>exact(show 0<=i/\i<g.aH.length from⟨this.1,by simpa using this.2⟩)
 |true=>
  have h9:i<9:=by simpa using this.2
  have h0:=this.1;obtain⟨t,h7⟩:∃t,g.ar[i.toNat]? =some t:=⟨_,adS (by rw[ht,GK];omega)⟩;refine(show∃t,0<=i/\g.ar[i.toNat]? =some t/\t.cls=0 from⟨t,h0,h7, ?_⟩);rw[ht]at h7;exact(GJ _ _ (by omega) h7).1
def Cp(c n:Nat)(l:de):Bool:=decide (0<=l.assoc/\l.assoc<=3)&&tN c l.cond&&l.ak.all λp=>decide (0<=p)&&decide (p<n)
theorem abb{g:ai}{l:de}(h:Cp g.conds.length g.ak.length l=true):tB g l:=by
 simp only[Cp,xS,decide_eq_true_eq,qe]at h;exact⟨h.1.1,vL h.1.2,h.2⟩
def yy(q:Tok->Bool)(l:List Int):Bool:= !l.isEmpty&&Nat.ble l.length 1000&&(l.all λn=>decide (0<=n)&&match ar[n.toNat]? with|some t=>q t|none=>false)&&(Er l.length).all λi=>match l[i]?,l[i+1]? with|some a,some b=>decide (a<b)|_,_=>true
theorem Ip{g:ai}{K:Tok->Prop}{q:Tok->Bool}(ht:g.ar=ar)(hq:∀t,q t=true->K t){l:List Int}(h:yy q l=true):mL g K l:=by
 simp only[yy,xS,qe,decide_eq_true_eq,Qc]at h;obtain⟨⟨⟨h1,h2⟩,h3⟩,h4⟩:=h;refine⟨λhl=>(by rw[hl]at h1;cases h1),Xw h2,λn hn=> ?_,λi a b ha hb=> ?_⟩
 . obtain⟨h5,h6⟩:=h3 n hn;refine⟨h5, ?_⟩;rw[ht]
   split at h6
   . rename_i t he;exact⟨t,he,hq t h6⟩
   . cases h6
 . have:=h4 i (by have:=(Zj.1 ha).1;simpa using this);rw[ha,hb]at this;simpa using this
def Cq(g:ai)(f:bd):Bool:=tN g.conds.length f.cond&&
 ((decide (f.kind=2)&&decide (f.left=0)&&decide (f.token=0)&&f.ar.isEmpty&&decide (0<=f.parent)&&decide (0<=f.child)&&decide (0<=f.at_)&&kM g f.parent f.at_ f.child)||
  ((decide (f.kind=3)||decide (f.kind=4))&&decide (f.parent=0)&&decide (f.at_=0)&&decide (f.child=0)&&decide (f.token=0)&&decide (0<=f.left)&&decide (f.left<g.aH.length)&&yy (λt=>decide (t.cls=0)) f.ar)||
  (decide (f.kind=5)&&decide (f.parent=0)&&decide (f.at_=0)&&decide (f.child=0)&&decide (f.left=0)&&decide (f.token=0)&&yy (λt=> !decide (t.lit=⟨#[]⟩)) f.ar))
theorem abc{g:ai}{p a c:Int}(h:kM g p a c=true):∃P C s,g.ak[p.toNat]? =some P/\g.ak[c.toNat]? =some C/\P.right[a.toNat]? =some s/\s=⟨false,C.left⟩:=by
 unfold kM at h
 split at h
 . rename_i P C e1 e2
   split at h
   . rename_i s e3;simp only[xS,Qc,decide_eq_true_eq]at h;exact⟨P,C,s,e1,e2,e3,by obtain⟨tok,i⟩:=s;simp only at h;rw[h.1,h.2]⟩
   . cases h
 . cases h
theorem abd{g:ai}(ht:g.ar=ar){f:bd}(h:Cq g f=true):kN g.conds.length f.cond/\rW g f:=by
 simp only[Cq,xS,VK,decide_eq_true_eq,ad5]at h;obtain⟨h1,h2⟩:=h;refine⟨vL h1, ?_⟩;rcases h2 with(⟨⟨⟨⟨⟨⟨⟨a,b⟩,c⟩,d⟩,e⟩,i⟩,j⟩,k⟩|⟨⟨⟨⟨⟨⟨⟨a,b⟩,c⟩,d⟩,e⟩,i⟩,j⟩,k⟩)|⟨⟨⟨⟨⟨⟨a,b⟩,c⟩,d⟩,e⟩,i⟩,k⟩
 . obtain⟨P,C,s,e1,e2,e3,e4⟩:=abc k;exact .inr (.inl ⟨a,b,c,d,P,C,s,e,e1,i,e2,j,e3,e4⟩)
 . have hk:mL g (λt=>t.cls=0) f.ar:=Ip ht (λt h=>of_decide_eq_true h) k;rcases a with a|a
   . exact .inr (.inr (.inl ⟨a,b,c,d,e,i,j,hk⟩))
   . exact .inr (.inr (.inr (.inl ⟨a,b,c,d,e,i,j,hk⟩)))
 . refine .inr (.inr (.inr (.inr ⟨a,b,c,d,e,by omega,ik, ?_,rfl,rfl,Ip ht (λt h=>by simpa using h) k⟩)));rw[ht,i];rfl
def vM(g:ai):Bool:=decide ((g.conds).Nodup)&&(g.conds.all λs=>nM.any λx=>decide (x=s))&&decide (g.aH.Nodup)&&(g.aH.all λs=> !decide (s=⟨#[]⟩))&&decide (g.start=0)&&decide ((g.ak.map (·.name)).Nodup)&&((g.ak.map (·.name)).all λs=> !decide (s=⟨#[]⟩))&&
 ((Er 100).all λk=>(g.ak.map (·.name)).all λx=> !decide (x=jo k))&&g.ak.all (Co g.aH.length g.conds.length)&&decide ((g.ba.flatMap (·.ak)).Nodup)&&g.ba.all (Cp g.conds.length g.ak.length)&&g.bj.all (Cq g)
theorem abe:∀s∈nM,ay E true 145 [sV s] (bV true):=bI (by kernel_rfl)
theorem tP(n:Nat)(hn:n<=3):kN n (aP true):=by
 have h:((Er 4).all λn=>tN n (aP true))=true:=by kernel_rfl
 exact vL (qe.1 h n (by simp;omega))
theorem Iq:∀s∈nM,G9 s/\s≠⟨#[]⟩:=λs hs=>by
 have h:(nM.all λs=> !decide (s=Bz)&& !decide (s=BA)&& !decide (s=⟨#[]⟩))=true:=by kernel_rfl
 have h1:=qe.1 h s hs;simp only[xS,Qc,decide_eq_false_iff_not]at h1;exact⟨⟨abe s hs,h1.1.1,h1.1.2⟩,h1.2⟩
theorem GI.base{g:ai}(hr:dM g 0)(hp:g.ak.length<=10)(ht:g.ar=ar)(hf:g.family=aP true)(h:vM g=true):GI g 0 10:=by
 simp only[vM,xS,decide_eq_true_eq,qe,ZJ,Qc,decide_eq_false_iff_not]at h;obtain⟨⟨⟨⟨⟨⟨⟨⟨⟨⟨⟨h1,h2⟩,h3⟩,h4⟩,h5⟩,h6⟩,h7⟩,h8⟩,h9⟩,ad⟩,ae⟩,af⟩:=h;have hc:=hr.conds;have h2:∀s∈g.conds,s∈nM:=λs hs=>by obtain⟨x,hx,rfl⟩:=h2 s hs;exact hx
 refine⟨hr,⟨⟨h1,λs hs=>(Iq s (h2 s hs)).2⟩,λs hs=>(Iq s (h2 s hs)).1,by omega, ?_⟩,by rw[ht],λt ab=> ?_,⟨⟨h3,h4⟩,h5⟩,hp,⟨h6,h7⟩,λk _ hk hm=>h8 k (by simpa using hk) _ hm rfl,λp hp=>aba ht (h9 p hp),ad,λl hl=>abb (ae l hl),λf hf=>abd ht (af f hf)⟩
 . obtain⟨c,c1,c2⟩:=tP g.conds.length hc;exact⟨c,hf.trans c1,c2,by rw[hf];decide⟩
 . rw[ht]at ab;have:∀t∈ar,t.cond=aP true:=by
    intro t ht;simp only[ar,PO,ZL,adX,Z4,or_false]at ht;rcases ht with(rfl|⟨s,_,rfl⟩)|rfl|rfl<;>rfl
   rw[this t ab];exact tP _ hc
theorem abf(b:Int):vM (gQ b)=true/\(gQ b).ar=ar/\(gQ b).family=aP true:=by
 unfold gQ
 split
 . exact⟨by kernel_rfl,rfl,rfl⟩
 split
 . exact⟨by kernel_rfl,rfl,rfl⟩
 split
 . exact⟨by kernel_rfl,rfl,rfl⟩
 split
 . exact⟨by kernel_rfl,rfl,rfl⟩
 split
 . exact⟨by kernel_rfl,rfl,rfl⟩
 . exact⟨by kernel_rfl,rfl,rfl⟩
def Ir(a b:Nat):ai:=⟨nM.take a,aP true,ar,tq.take b,[bm ⟨#[102,105,114,115,116]⟩ 0 [⟨true,0⟩] (aP true)],0,[],[]⟩
theorem abg(a b:Nat)(ha:a<4)(hb:b<4)(ao:0<b):vM (Ir a b)=true:=by
 have h:((Er 4).all λa=>(Er 4).all λb=>TF b 0||vM (Ir a b))=true:=by kernel_rfl
 have h1:=qe.1 (qe.1 h a (by simpa using ha)) b (by simpa using hb);have h2:TF b 0=false:=by cases b with|zero=>omega|succ n=>rfl
 rw[h2]at h1;simpa using h1
theorem Is(x:cB)(hx:x.Ok):GI (jq x) 0 10:=by
 obtain⟨h1,h2⟩:=GL x hx;have hn:=hx.n;unfold jq at h1 h2⊢
 split
 . rename_i hk;rw[if_pos hk]at h1 h2;obtain⟨k1,k2,k3⟩:=abf (x.base%8);exact GI.base h1 h2 k2 k3 k1
 . rename_i hk;rw[if_neg hk]at h1 h2;have:=abg (x.n%4).toNat (1+x.n/4%3).toNat (by omega) (by omega) (by omega);exact GI.base h1 h2 rfl rfl this
theorem GI.iI{g:ai}{r m:Nat}(h:GI g r m)(x:cB)(hx:x.Ok):GI (iI bp x g) r m:=by
 have aa:=(h.room.cL bp x).1;unfold Go.Sp.iI at aa⊢;simp only at aa⊢
 split
 . rename_i hc;rw[if_pos hc]at aa;have he:Ext g {g with family:=bp x.family g.conds.length}:=⟨rfl,rfl,λi t ht=>⟨t,ht,rfl,rfl⟩,λi p hp=>hp⟩;refine⟨aa,⟨h.cL.new,h.cL.id,h.cL.len, ?_⟩,h.tk,h.tc,h.aH,h.mQ,h.new,h.res,λp hp=>(h.ok p hp).ext he,h.nd,λl hl=>(h.pd l hl).ext he,λx hx=>⟨(h.ku x hx).1,(h.ku x hx).2.ext he⟩⟩;refine⟨_,rfl,Cl _ (GZ _ _ ?_ h.room.conds),hc.2⟩;have hf:=hc.1;cases hl:x.family with
   |nil=>rw[hl]at hf;simp at hf
   |cons b r=>
    have:=hx.family b (by rw[hl];simp);simp[hd];omega
 . exact h
theorem tQ(x:cB)(hx:x.Ok):GI (cr bp x) 6 20:=by
 have h0:=(Is x hx).iI x hx;unfold cr;simp only;have hm:∀{α:Type} (l:List α) (n:Nat),(l.take n).length<=n:=λl n=>by rw[adT];omega
 have av:=hm x.lines (if decide (x.base%8<6)=true then 6 else 10);have aw:(if decide (x.base%8<6)=true then 6 else 10)<=10:=by split<;>omega
 have h1:=GI.lines (decide (x.base%8<6)) (x.lines.take (if decide (x.base%8<6)=true then 6 else 10)) h0 (λl hl=>hx.lines l (abR hl)) (by omega);have h2:=GI.rules (x.rules.take 6) h1 (λl hl=>hx.rules l (abR hl));have az:=hm x.rules 6;have up:∀{g:ai} {r m:Nat},GI g r m->∀r' m',r<=r'->m<=m'->GI g r' m':=λh r' m' h1 h2=>⟨⟨h.room.ak,h.room.aH,h.room.conds,by have:=h.room.bj;omega,by have:=h.room.ba;omega,h.room.ar,h.room.lT,h.room.ord⟩,h.cL,h.tk,h.tc,h.aH,by have:=h.mQ;omega,h.new,h.res,h.ok,h.nd,h.pd,h.ku⟩;exact up h2 _ _ (by omega) (by omega)
structure EI(NU:Int->Prop)(n:Nat)(ak:List aQ):Prop where
 It:∀p∈ak,yo p->(∀s∈p.right,NU s.idx)->NU p.left
 Iu:∀p∈ak,∀(k:Nat) (s:Sym),p.right[k]? =some s->s.tok=false->(∀(i:Nat) (s':Sym),i≠k->p.right[i]? =some s'->s'.tok=false/\NU s'.idx)->p.left<s.idx/\s.idx<n
theorem EI.add{NU:Int->Prop}{n:Nat}{l:List aQ}{p:aQ}(h:EI NU n l)(h1:yo p->(∀s∈p.right,NU s.idx)->NU p.left)(h2:∀(k:Nat) (s:Sym),p.right[k]? =some s->s.tok=false->(∀(i:Nat) (s':Sym),i≠k->p.right[i]? =some s'->s'.tok=false/\NU s'.idx)->p.left<s.idx/\s.idx<n):EI NU n (l++[p]):=by
 refine⟨λq hq=> ?_,λq hq=> ?_⟩
 . rcases PO.1 hq with hq|hq
   . exact h.It q hq
   . obtain rfl:=DE.1 hq;exact h1
 . rcases PO.1 hq with hq|hq
   . exact h.Iu q hq
   . obtain rfl:=DE.1 hq;exact h2
def yz(NU:Int->Bool)(n:Nat)(p:aQ):Bool:=(!(p.right.all λs=> !s.tok)|| !(p.right.all λs=>NU s.idx)||NU p.left)&&
 (Er p.right.length).all λk=>match p.right[k]? with
  |none=>true
  |some s=>s.tok|| !((Er p.right.length).all λi=>TF i k||match p.right[i]? with|some s'=> !s'.tok&&NU s'.idx|none=>true)||(decide (p.left<s.idx)&&decide (s.idx<n))
theorem abh{NU:Int->Bool}{n:Nat}{l:List aQ}(h:l.all (yz NU n)=true):EI (λi=>NU i=true) n l:=by
 refine⟨λp hp h1 h2=> ?_,λp hp k s hk hs ab=> ?_⟩
 . have h3:=qe.1 h p hp;simp only[yz,xS,VK,Qc]at h3;rcases h3.1 with(h4|h4)|h4
   . have:(p.right.all λs=> !s.tok)=true:=qe.2 λs hs=>by rw[h1 s hs];rfl
     rw[this]at h4;cases h4
   . have:(p.right.all λs=>NU s.idx)=true:=qe.2 λs hs=>h2 s hs;rw[this]at h4;cases h4
   . exact h4
 . have h3:=qe.1 h p hp;simp only[yz,xS]at h3;have aC:=(Zj.1 hk).1;have h4:=qe.1 h3.2 k (by simpa using aC);rw[hk]at h4;simp only[VK,xS,decide_eq_true_eq]at h4;rcases h4 with(h4|h4)|h4
   . rw[hs]at h4;cases h4
   . have:((Er p.right.length).all λi=>TF i k||match p.right[i]? with|some s'=> !s'.tok&&NU s'.idx|none=>true)=true:=qe.2 λi hi=>by
      cases hb:TF i k with
      |true=>rfl
      |false=>
       have av:i≠k:=λhe=>by subst he;rw[Nat.beq_refl]at hb;cases hb
       rw[Bool.false_or];cases hx:p.right[i]? with
       |none=>rfl
       |some s'=>
        obtain⟨a,b⟩:=ab i s' av hx;simp only[a,b];rfl
     rw[this]at h4;cases h4
   . exact h4
theorem EI.line{NU:Int->Prop}{g:ai}(sm:Int->Nat->Dg)(x:Ln)(known:Bool)(hx:x.Ok)(hn:0<g.aH.length)(ad:known=false->∀i,NU i)(h:EI NU g.aH.length g.ak):EI NU (fL sm g x known).aH.length (fL sm g x known).ak:=by
 unfold fL;simp only
 split
 . exact h
 . rename_i hc;have hlen:((x.right.take 4).map (jn (g.aH.length:Int))).length<=4:=by rw[ad3,adT];omega
   have mk:=Ik (jo g.ak.length) (x.left%(g.aH.length:Int)) ((x.right.take 4).map (jn (g.aH.length:Int))) (sm x.cond g.conds.length) x.mark hlen hx.mark.1 hx.mark.2;obtain⟨r,hr⟩:∃r,(x.right.take 4).map (jn (g.aH.length:Int))=r:=⟨_,rfl⟩;have aw:∀s∈r,s.tok=false->s.idx<g.aH.length:=λs hs ht=>by
    rw[<-hr]at hs;obtain⟨b,_,rfl⟩:=adX.1 hs;unfold jn at ht⊢
    split at ht
    . cases ht
    . rename_i hb;rw[if_neg hb];exact GP _ (by omega)
   rw[hr]at mk hc⊢;generalize mark (jo g.ak.length) (x.left%(g.aH.length:Int)) r (sm x.cond g.conds.length) x.mark=P at mk⊢;have aa:=mk.right;have af:=mk.left;by_cases ht:r.any (·.tok)=true
   . obtain⟨s0,aA,az⟩:=ZJ.1 ht;obtain⟨i0,aB⟩:=ad0 aA;refine h.add (λaD=> ?_) λk s hk hs ab=> ?_
     . have:=aD s0 (by rw[aa];exact aA);rw[az]at this;cases this
     . rw[aa]at hk ab;have av:i0≠k:=λhe=>by subst he;rw[aB]at hk;cases hk;rw[az]at hs;cases hs
       have:=(ab i0 s0 av aB).1;rw[az]at this;cases this
   . have hf:r.any (·.tok)=false:=by simpa using ht
     have hk:known=false/\(r.all λs=>s.tok||decide (x.left%(g.aH.length:Int)<s.idx))=true:=by
      cases known with
      |true=>exact absurd ⟨hf,.inl rfl⟩ hc
      |false=>
       refine⟨rfl, ?_⟩;cases ha:(r.all λs=>s.tok||decide (x.left%(g.aH.length:Int)<s.idx))with
       |true=>rfl
       |false=>exact absurd ⟨hf,.inr ha⟩ hc
     refine h.add (λ_ _=>ad hk.1 _) λk s ae hs _=> ?_;rw[aa]at ae;have hm:=ad1 ae;have:=qe.1 hk.2 s hm;rw[hs,Bool.false_or,decide_eq_true_eq]at this;rw[af];exact⟨this,aw s hm hs⟩
theorem abi(sm:Int->Nat->Dg)(g:ai)(x:Ln)(known:Bool):(fL sm g x known).aH=g.aH:=by
 unfold fL;simp only
 split<;>rfl
theorem EI.lines{NU:Int->Prop}(sm:Int->Nat->Dg)(known:Bool)(ad:known=false->∀i,NU i):∀(ls:List Ln) {g:ai},(∀l∈ls,l.Ok)->0<g.aH.length->EI NU g.aH.length g.ak->EI NU (ls.foldl (λg l=>fL sm g l known) g).aH.length (ls.foldl (λg l=>fL sm g l known) g).ak
 |[],_,_,_,h=>h
 |l::ls,g,hl,hn,h=>EI.lines sm known ad ls (λx hx=>hl x (adY _ hx)) (by rw[abi];exact hn) (h.line sm l known (hl l (by simp)) hn ad)
theorem abj(sm:Int->Nat->Dg)(g:ai)(x:Rl):(jm sm g x).aH=g.aH/\(jm sm g x).ak=g.ak:=by
 unfold jm kq;simp only
 repeat' split
 all_goals exact⟨rfl,rfl⟩
theorem Iv(sm:Int->Nat->Dg):∀(ls:List Rl) (g:ai),(ls.foldl (jm sm) g).aH=g.aH/\(ls.foldl (jm sm) g).ak=g.ak
 |[],_=>⟨rfl,rfl⟩
 |l::ls,g=>by
  obtain⟨h1,h2⟩:=Iv sm ls (jm sm g l);obtain⟨h3,h4⟩:=abj sm g l;exact⟨h1.trans h3,h2.trans h4⟩
def r9(b:Int):Int->Bool:=λi=>if b%6=2 then decide (i=0)else if b%6=4 then decide (i=2)else if b%6=5 then decide (i=1\/i=2)else false
theorem abk(b:Int):EI (λi=>r9 b i=true) (gQ b).aH.length (gQ b).ak:=by
 have h:((Er 6).all λb=>(gQ (b:Nat)).ak.all (yz (r9 (b:Nat)) (gQ (b:Nat)).aH.length))=true:=by kernel_rfl
 have h2:∀c:Int,0<=c->c<6->EI (λi=>r9 c i=true) (gQ c).aH.length (gQ c).ak:=λc h0 h1=>by
  have:=qe.1 h c.toNat (by simp;omega);rw[Int.toNat_of_nonneg h0]at this;exact abh this
 have e1:r9 b=r9 (b%6):=by funext i;simp only[r9,Int.emod_emod]
 have e2:gQ b=gQ (b%6):=by simp only[gQ,Int.emod_emod]
 rw[e1,e2];exact h2 _ (PX _ (by decide)) (GP _ (by decide))
theorem abl(md:List Int->Nat->Dg)(x:cB)(g:ai):(iI md x g).aH=g.aH/\(iI md x g).ak=g.ak:=by
 unfold iI;simp only
 split<;>exact⟨rfl,rfl⟩
theorem abm(x:cB)(hx:x.Ok):∃NU:Int->Prop,EI NU (cr bp x).aH.length (cr bp x).ak:=by
 have ao:=(Is x hx).room;have key:∀NU:Int->Prop,(decide (x.base%8<6)=false->∀i,NU i)->EI NU (jq x).aH.length (jq x).ak->EI NU (cr bp x).aH.length (cr bp x).ak:=λNU ad hb=>by
  unfold cr;simp only;obtain⟨e1,e2⟩:=Iv (cg bp) (x.rules.take 6) ((x.lines.take (if decide (x.base%8<6)=true then 6 else 10)).foldl (λg l=>fL (cg bp) g l (decide (x.base%8<6))) (iI bp x (jq x)));rw[e1,e2];obtain⟨f1,f2⟩:=abl bp x (jq x);exact EI.lines (cg bp) _ ad _ (λl hl=>hx.lines l (abR hl)) (by rw[f1];exact ao.aH.1) (by rw[f1,f2];exact hb)
 by_cases hk:x.base%8<6
 . refine⟨λi=>r9 (x.base%8) i=true,key _ (λh=>by simp[hk]at h) ?_⟩;have:jq x=gQ (x.base%8):=by unfold jq;rw[if_pos hk]
   rw[this];exact abk _
 . refine⟨λ_=>True,key _ (λ_ _=>trivial) ?_⟩;have:(jq x).ak=[bm ⟨#[102,105,114,115,116]⟩ 0 [⟨true,0⟩] (aP true)]:=by unfold jq;rw[if_neg hk]
   rw[this];refine⟨λp hp _ _=>trivial,λp hp k s ae hs _=> ?_⟩;obtain rfl:=DE.1 hp;cases k with
   |zero=>simp[bm]at ae;rw[<-ae]at hs;cases hs
   |succ k=>simp[bm]at ae
theorem wrap_u64{x:Int}(h1:0<=x)(h2:x<256):IntKind.u64.wrap x=x:=by
 simp[IntKind.wrap,IntKind.bits,IntKind.signed];omega
theorem yA(a:Nat):W2 IntKind.u64.bits (a:Int)=W9 64 a:=by simp[IntKind.bits]
theorem sa(a b:Nat)(ha:a<256)(hb:b<256):IntKind.u64.wrap (((W2 IntKind.u64.bits (a:Int)|||W2 IntKind.u64.bits (b:Int)).toNat:Nat):Int)=((a|||b:Nat):Int):=by
 have h:a|||b<2^8:=ad6 ha hb;rw[yA,yA];show IntKind.u64.wrap (((W9 64 a|||W9 64 b:BitVec 64).toNat:Nat):Int)=_;rw[BitVec.toNat_or,ab8,ab8,adr (by omega),adr (by omega)];exact wrap_u64 (by omega) (by omega)
theorem Cr(a b:Nat)(ha:a<256)(hb:b<256):IntKind.u64.wrap (((W2 IntKind.u64.bits (a:Int)&&&W2 IntKind.u64.bits (b:Int)).toNat:Nat):Int)=((a&&&b:Nat):Int):=by
 have h:a&&&b<=a:=Nat.and_le_left;rw[yA,yA];show IntKind.u64.wrap (((W9 64 a&&&W9 64 b:BitVec 64).toNat:Nat):Int)=_;rw[BitVec.toNat_and,ab8,ab8,adr (by omega),adr (by omega)];exact wrap_u64 (by omega) (by omega)
theorem abq{a b:Nat}(ha:a<256)(hb:b<256):a|||b<256:=ad6 (n:=8) ha hb
theorem mS(h:ab):h.up h.next=h:=rfl
theorem abr{i:Nat}(hi:i<8):2^i<256/\IntKind.u64.wrap ((2:Int)^i)=((2^i:Nat):Int):=by
 have:i=0\/i=1\/i=2\/i=3\/i=4\/i=5\/i=6\/i=7:=by omega
 rcases this with rfl|rfl|rfl|rfl|rfl|rfl|rfl|rfl<;>exact⟨by decide,by decide⟩
set_option maxHeartbeats 4000000 in
theorem Iw{aj:Bool}{K:ck}{dd:List FuncId}{h:ab}{R w i z:Nat}(hw:w<256)(hi:i<8)(hR:h.get R=some (.row (pl w) true z))(hk:∀T,K (.bb []) dd (h.set R (some (.row (pl (w|||2^i)) true z))) T):
 an E aj K dd h (118,[.v (.pointer (some ⟨R,0,none⟩)),iV (i:Nat)]):=by
 refine gD Tryz.ntmps118 Tryz.results118 ?_;obtain⟨h2,h3⟩:=abr hi;have e1:(i:Int).tdiv 64=0:=Int.tdiv_eq_zero_of_lt (by omega) (by omega);have e2:(i:Int).tmod 64=i:=Int.tmod_eq_of_lt (by omega) (by omega);simp(disch:=omega)[go_sem];refine bR [ae 0,ae 0,ae 2,ae 1,ae 15,aD 31,ae 0,ae 64,ae 192,ae 511,ae 1,ae 2047,aN 4095] (by kernel_rfl) 0 rfl ?_;have h4:=sa w (2^i) hw h2;simp(disch:=omega)[go_sem,h3]at h4;simp(disch:=omega)[go_sem,hR,pl,e1,e2,h3,h4,aC,dF,mS];exact hk
set_option maxHeartbeats 4000000 in
theorem sb{aj:Bool}{K:ck}{dd:List FuncId}{h:ab}{R a b z:Nat}(ha:a<256)(hb:b<256)(hR:h.get R=some (.row (pl a) true z))(av:R<h.next)
 (hk:∀h' T,h'.next=h.next+1->h'.get R=some (.row (pl (a|||b)) true z)->(∀i,i<h.next->i≠R->h'.get i=h.get i)->K (.bb []) dd h' T):
 an E aj K dd h (116,[.v (.pointer (some ⟨R,0,none⟩)),.agg (pl b)]):=by
 refine gD Tryz.ntmps116 Tryz.results116 ?_;have h4:=sa a b ha hb;have h5:=sa 0 0 (by decide) (by decide);simp(disch:=omega)[go_sem]at h4 h5;obtain⟨N,hN⟩:∃N,h.next=N:=⟨_,rfl⟩;rw[hN]at av hk;simp(disch:=omega)[go_sem,hN,pl];obtain⟨I,hI⟩:∃I:Nat->DS->Prop,∀j d,I j d↔∃(k:Nat) (H:ab),j+k=8/\H.next=N+1/\H.get R=some (.row (pl (if k=0 then a else a|||b)) true z)/\H.get N=some (.row (pl b) true 0)/\(∀i,i<N->i≠R->H.get i=h.get i)/\
  d=⟨bz [(0,.v (.pointer (some ⟨R,0,none⟩))),(3,.v (.pointer (some ⟨N,0,none⟩))),(5,iV (k:Nat))],20,[],H⟩:=⟨_,λ_ _=>Iff.rfl⟩
 refine bO I 8 ⟨_,ax.bg (l:=[(0,.v (.pointer (some ⟨R,0,none⟩))),(3,.v (.pointer (some ⟨N,0,none⟩))),(5,iV (0:Nat))]) ?_,(hI _ _).2 ⟨0,_,rfl, ?_, ?_, ?_, ?_,rfl⟩⟩ ?_
 . simp(disch:=omega)[go_sem]
 . simp(disch:=omega)[go_sem,hN]
 . simp(disch:=omega)[go_sem,hN,hR]
 . simp(disch:=omega)[go_sem,hN,pl]
 . intro i h1 h2;simp(disch:=omega)[go_sem,hN]
 . intro j ds ad;obtain⟨k,H,hj,hH,f1,f2,f3,rfl⟩:=(hI _ _).1 ad;clear ad;by_cases aw:k=8
   . subst aw;simp(disch:=omega)[go_sem];intro T;exact hk _ T (by omega) f1 f3
   . by_cases af:k=0
     . subst af;simp only[if_true]at f1;simp(disch:=omega)[go_sem];refine bR [ae 0,ae 0,ae 1,ae 7,aD 15,ae 0,ae 32,aD 96,ae 255,ae 1,ae 1023,aN 2047] (by kernel_rfl) 0 rfl ?_;simp(disch:=omega)[go_sem,f1,f2,pl,h4,dF,mS,aC];refine⟨7,by omega,_,ax.bg (l:=[(0,.v (.pointer (some ⟨R,0,none⟩))),(3,.v (.pointer (some ⟨N,0,none⟩))),(5,iV (1:Nat))]) ?_,(hI _ _).2 ⟨1,_,rfl, ?_, ?_, ?_, ?_,rfl⟩⟩
       . simp(disch:=omega)[go_sem]
       . simp(disch:=omega)[go_sem,hH]
       . simp(disch:=omega)[go_sem,pl]
       . simp(disch:=omega)[go_sem,f2]
       . intro i h1 h2;simp(disch:=omega)[go_sem,f3,h1,h2]
     . rw[if_neg af]at f1;have az:(k:Int)<8:=by omega
       have aa:∀c:Nat,(pl c)[k]? =some (.v (.int .u64 0)):=λc=>by
        have:k=1\/k=2\/k=3\/k=4\/k=5\/k=6\/k=7:=by omega
        rcases this with rfl|rfl|rfl|rfl|rfl|rfl|rfl<;>rfl
       have aA:∀c:Nat,(pl c).take k++[.v (.int .u64 0)]++(pl c).drop (k+1)=pl c:=λc=>by
        have:k=1\/k=2\/k=3\/k=4\/k=5\/k=6\/k=7:=by omega
        rcases this with rfl|rfl|rfl|rfl|rfl|rfl|rfl<;>rfl
       simp(disch:=omega)[go_sem,az];refine bR [ae 0,ae 0,ae 1,ae 7,aD 15,ae 0,ae 32,aD 96,ae 255,ae 1,ae 1023,aN 2047] (by kernel_rfl) 0 rfl ?_;have hlen:∀c:Nat,(pl c).length=8:=λc=>rfl;have ai:(pl (a|||b)).take k++.v (.int .u64 0)::(pl (a|||b)).drop (k+1)=pl (a|||b):=by simpa using aA (a|||b)
       have aB:∀c x,x∈(pl c).drop (k+1)->cO x=true:=λc x hx=>by
        have hx:=List.mem_of_mem_drop hx;simp only[pl,ZL,Z4,or_false]at hx;rcases hx with rfl|rfl|rfl|rfl|rfl|rfl|rfl|rfl<;>rfl
       simp(disch:=omega)[go_sem,f1,f2,dF,mS,aC,aa,h5,hlen,ai,show k<=7 from by omega];refine⟨j-1,by omega,_,ax.bg (l:=[(0,.v (.pointer (some ⟨R,0,none⟩))),(3,.v (.pointer (some ⟨N,0,none⟩))),(5,iV (k+1:Nat))]) ?_,(hI _ _).2 ⟨k+1,_,by omega, ?_, ?_, ?_, ?_,rfl⟩⟩
       . simp(disch:=omega)[go_sem]
       . simp(disch:=omega)[go_sem,hH]
       . simp(disch:=omega)[go_sem]
       . simp(disch:=omega)[go_sem,f2]
       . intro i h1 h2;simp(disch:=omega)[go_sem,f3,h1,h2]
set_option maxHeartbeats 4000000 in
theorem abt{aj:Bool}{K:ck}{dd:List FuncId}{h:ab}{R a b z:Nat}(ha:a<256)(hb:b<256)(hR:h.get R=some (.row (pl a) true z))(av:R<h.next)
 (hk:∀N,h.next<=N->K (bV (decide (a&&&b≠0))) dd (h.up N) [R]):
 an E aj K dd h (120,[.v (.pointer (some ⟨R,0,none⟩)),.agg (pl b)]):=by
 refine tK [R] Tryz.ntmps120 Tryz.results120 ?_;simp only[eG,hR];have h4:=Cr a b ha hb;have h5:=Cr 0 0 (by decide) (by decide);simp(disch:=omega)[go_sem]at h4 h5;obtain⟨N,hN⟩:∃N,h.next=N:=⟨_,rfl⟩;rw[hN]at av hk;simp(disch:=omega)[go_sem,hN,pl];obtain⟨I,hI⟩:∃I:Nat->DS->Prop,∀j d,I j d↔∃(k:Nat) (H:ab),j+k=8/\(k≠0->a&&&b=0)/\H.next=N+1/\H.get R=some (.row (pl a) true z)/\H.get N=some (.row (pl b) true 0)/\
  d=⟨bz [(0,.v (.pointer (some ⟨R,0,none⟩))),(3,.v (.pointer (some ⟨N,0,none⟩))),(6,iV (k:Nat))],20,[],H⟩:=⟨_,λ_ _=>Iff.rfl⟩
 refine bO I 8 ⟨_,ax.bg (l:=[(0,.v (.pointer (some ⟨R,0,none⟩))),(3,.v (.pointer (some ⟨N,0,none⟩))),(6,iV (0:Nat))]) ?_,(hI _ _).2 ⟨0,_,rfl,λh=>absurd rfl h, ?_, ?_, ?_,rfl⟩⟩ ?_
 . simp(disch:=omega)[go_sem]
 . simp(disch:=omega)[go_sem,hN]
 . simp(disch:=omega)[go_sem,hN,hR];try rfl
 . simp(disch:=omega)[go_sem,hN,pl]
 . intro j ds ad;obtain⟨k,H,hj,hz,hH,f1,f2,rfl⟩:=(hI _ _).1 ad;clear ad;by_cases aw:k=8
   . subst aw;have aE:=hz (by decide);simp(disch:=omega)[go_sem];refine⟨by first|rw[f1,hR]|simp[hR,pl], ?_⟩;have:=hk (N+1) (by omega);simpa[aE,hH]using this
   . by_cases af:k=0
     . subst af;simp(disch:=omega)[go_sem];refine bR [ae 0,ae 0,ae 1,ae 7,aD 15,ae 0,ae 32,aD 96,ae 255,ae 511] (by kernel_rfl) 0 rfl ?_;by_cases ao:a&&&b=0
       . simp(disch:=omega)[go_sem,f1,f2,pl,h4,ao,dF,mS,aC];refine⟨7,by omega,_,ax.bg (l:=[(0,.v (.pointer (some ⟨R,0,none⟩))),(3,.v (.pointer (some ⟨N,0,none⟩))),(6,iV (1:Nat))]) ?_,(hI _ _).2 ⟨1,_,rfl,λ_=>ao,hH,f1,f2,rfl⟩⟩;simp(disch:=omega)[go_sem]
       . simp(disch:=omega)[go_sem,f1,f2,pl,h4,ao,dF,mS,aC];refine⟨by first|rw[f1,hR]|simp[hR,pl], ?_⟩;have:=hk (N+1) (by omega);simpa[ao,hH]using this
     . have az:(k:Int)<8:=by omega
       have aa:∀c:Nat,(pl c)[k]? =some (.v (.int .u64 0)):=λc=>by
        have:k=1\/k=2\/k=3\/k=4\/k=5\/k=6\/k=7:=by omega
        rcases this with rfl|rfl|rfl|rfl|rfl|rfl|rfl<;>rfl
       have hlen:∀c:Nat,(pl c).length=8:=λc=>rfl;simp(disch:=omega)[go_sem,az];refine bR [ae 0,ae 0,ae 1,ae 7,aD 15,ae 0,ae 32,aD 96,ae 255,ae 511] (by kernel_rfl) 0 rfl ?_;simp(disch:=omega)[go_sem,f1,f2,dF,mS,aC,aa,h5,hlen];refine⟨j-1,by omega,_,ax.bg (l:=[(0,.v (.pointer (some ⟨R,0,none⟩))),(3,.v (.pointer (some ⟨N,0,none⟩))),(6,iV (k+1:Nat))]) ?_,(hI _ _).2 ⟨k+1,_,by omega,λ_=>hz af,hH,f1,f2,rfl⟩⟩;simp(disch:=omega)[go_sem]
end Go.Sp
end

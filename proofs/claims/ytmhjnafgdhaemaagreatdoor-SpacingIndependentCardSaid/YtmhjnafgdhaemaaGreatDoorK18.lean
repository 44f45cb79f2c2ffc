/- SpacingIndependent: parts of its proof. -/
import Derived.Test.YtmhjnafgdhaemaaGreatDoorK17
open Option.some renaming injEq->qe
open Prod.mk renaming injEq->xS
open List renaming map_cons->DE,map_nil->Er,map_append->PX,mem_map->W2,length_map->W9,map_take->Xw,map_drop->Zj,all_eq_true->ZJ,filter_cons->ZL
open Option renaming map_some->GP,bind_eq_some_iff->VK,map_none->Zr
open Eq renaming trans->PO
open Nat renaming ble->Qc,blt->TF,le_of_ble_eq_true->Z4
set_option linter.all false
set_option maxRecDepth 100000
noncomputable section
namespace Go.au
variable {e:Env} {N:Nat} {t0 t:Tr DV} {h0 h:ab}
def vk(e:Env):Op->Bool
 |.alloc ty=>nG e ty
 |.buildSlice st _ _=>match e.under st with|some (.slice el)=>nG e el|_=>false
 |.makeSlice st _ _=>match e.under st with|some (.slice el)=>nG e el|_=>false
 |_=>true
theorem FH{zs:List Value}{n:Nat}(h:zs.all iE=true):(eN zs n).all iE=true:=by
 simp only[ZJ]at h⊢;intro x hx;simp only[eN,W2,List.mem_range]at hx;obtain⟨i,_,rfl⟩:=hx;cases hq:zs[i%zs.length]? with
 |none=>rfl
 |some y=>exact h y (List.mem_of_getElem? hq)
theorem AT{ty:TypeId}{z:Value}(h:nG e ty=true)(hz:e.zero ty=some z):z.cells.toList.all iE=true:=by
 unfold nG at h;rw[hz]at h;exact h
theorem FI(ht:TS N t0 t){op:Op}{o:bx}{f:Nat->DV}(hg:vk e op=true)(hd:dH e.aT t0 op=some (o,f)):∃f',dH e t op=some (fK N o,f')/\∀i,f' (i+N)=sh N (f i):=by
 have h1:e.aT.zero=e.zero:=rfl;have h2:e.aT.under=e.under:=rfl;have h3:e.aT.size=e.size:=rfl;have h4:e.aT.bytes=e.bytes:=rfl;have hp:∀i,(DV.v (.pointer (some ⟨i+N,0,none⟩)))=sh N (DV.v (.pointer (some ⟨i,0,none⟩))):=λi=>by simp only[bJ,bM,ep]
 have hs:∀i a b,(DV.v (.slice (some ⟨i+N,0,none⟩) a b))=sh N (DV.v (.slice (some ⟨i,0,none⟩) a b)):=λi a b=>by simp only[bJ,bM,ep]
 cases op with
 |alloc ty=>
  simp only[dH]at hd⊢;rw[h1]at hd
  split at hd
  . cases hd
  . rename_i z hz;simp only[qe,xS]at hd;obtain⟨rfl,rfl⟩:=hd;refine⟨λi=>.v (.pointer (some ⟨i,0,none⟩)), ?_,hp⟩;simp only[fK,sX (AT hg hz)]
 |box ty x=>
  simp only[dH]at hd⊢
  split at hd
  . cases hd
  . rename_i d hx;rw[dL ht hx];simp only[AM,vi]
    split at hd
    . simp only[qe,xS]at hd;obtain⟨rfl,rfl⟩:=hd;rename_i hb;exact⟨λi=>.v (.pointer (some ⟨i,0,none⟩)),if_pos hb,hp⟩
    . cases hd
 |buildSlice st n parts=>
  simp only[dH]at hd⊢;rw[h2]at hd
  split at hd
  . rename_i elem ps hu av;simp only[vk,hu]at hg;rw[AN ht av];rw[h3,h1]at hd;simp only[hu]
    split at hd
    . rename_i s z aw hz
      split at hd
      . rename_i hc;rw[if_pos hc]
        split at hd
        . cases hd
        . rename_i cs hf;simp only[qe,xS]at hd;obtain⟨rfl,rfl⟩:=hd;have:=xI (N:=N) hf;rw[sX (FH (AT hg hz))]at this;rw[this];exact⟨_,rfl,λi=>hs i _ _⟩
      . cases hd
    . cases hd
  . cases hd
 |makeMap ty x=>
  cases x with
  |none=>
   simp only[dH,qe,xS]at hd⊢;obtain⟨rfl,rfl⟩:=hd;exact⟨_,⟨rfl,rfl⟩,λi=>by simp only[bJ,bM]⟩
  |some x=>cases hd
 |makeSlice st l c=>
  simp only[dH]at hd⊢;rw[h2]at hd;have hi:∀(x:Operand) (n:Int),(aB e.aT t0 x).bind exact=some (.int .i64 n)->(aB e t x).bind exact=some (.int .i64 n):=λx n hx=>by
   obtain⟨d,q1,q2⟩:=VK.1 hx;rw[dL ht q1];cases d with
   |v w=>simp only[exact,qe]at q2;subst q2;simp only[bJ,bM];rfl
   |agg l=>simp[exact]at q2
   |_=>simp[exact]at q2
  split at hd
  . rename_i elem l' c' hu hl hc;simp only[vk,hu]at hg;rw[hi _ _ hl,hi _ _ hc];rw[h3,h1,h4]at hd;simp only[hu]
    split at hd
    . rename_i s z b aw hz hb
      split at hd
      . rename_i hc;rw[if_pos hc];simp only[qe,xS]at hd;obtain⟨rfl,rfl⟩:=hd;refine⟨λi=>.v (.slice (some ⟨i,0,none⟩) l'.toNat c'.toNat), ?_,λi=>hs i _ _⟩;simp only[fK,sX (FH (AT hg hz))]
      . cases hd
    . cases hd
  . cases hd
 |_=>cases hd
theorem Wp(hh:HS N h0 h){ty:TypeId}{p d:Option DV}{h1:ab}{b:Nat}(hd:kY e.aT h0 ty p d=some (h1,b)):∃h',kY e h ty (p.map (sh N)) (d.map (sh N))=some (h',b+N)/\HS N h1 h':=by
 have h3:e.aT.size=e.size:=rfl;unfold kY at hd
 split at hd
 . rename_i b' o d;rw[h3]at hd
   split at hd
   . rename_i cs ah n hg hs
     split at hd
     . rename_i hc;simp only[qe,xS]at hd;obtain⟨rfl,rfl⟩:=hd;refine⟨_, ?_,HS.set hh _ _⟩;simp only[GP,bJ,bM,ep,kY,hh.row hg,hs,AM,W9,vi];rw[if_pos hc];simp only[fK,PX,Xw,Zj]
     . cases hd
   . cases hd
 . cases hd
theorem AU{P:Program}{kt:TypeId}{k:Value}:∀{es:List bq} {r:Option Nat} (i:Nat),mw P kt k es i=some r->mw P kt k (es.map (fC N)) i=some r
 |[],r,i,h=>h
 |x::es,r,i,h=>by
  simp only[mw]at h;simp only[DE,mw];have:(fC N x).key=x.key:=rfl;rw[this]
  split at h
  . cases h
  . exact h
  . exact AU (i+1) h
theorem Wr{es:List bq}{k:Value}{d:DV}(i:Nat):(es.modify i λx=>{x with key:=k,val:=d}).map (fC N)=(es.map (fC N)).modify i λx=>{x with key:=k,val:=sh N d}:=by
 induction es generalizing i with
 |nil=>cases i<;>rfl
 |cons x es ih=>cases i with
  |zero=>rfl
  |succ i=>simp only[List.modify_succ_cons,DE,ih]
theorem Ws{ty:TypeId}{k:Value}{d:DV}{es:List bq}{clock:Nat}{o:bx}(hd:kg e.aT ty k d es clock=some o):kg e ty k (sh N d) (es.map (fC N)) clock=some (fK N o):=by
 unfold kg at hd;have hu:e.aT.under=e.under:=rfl;have hP:e.aT.P=e.P:=rfl;rw[hu,hP]at hd;unfold kg
 split at hd
 . rename_i kt et h1
   split at hd
   . cases hd
   . rename_i kd h2
     split at hd
     . rename_i hc;rw[if_pos hc]
       split at hd
       . cases hd
       . rename_i i h3;rw[AU 0 h3];have:((es.map (fC N))[i]?).map (·.key)=(es[i]?).map (·.key):=by
          rw[List.getElem?_map,Option.map_map];rfl
         simp only[this]
         split at hd
         . rename_i hs;rw[if_pos hs];cases hd;simp only[fK,Wr]
         . cases hd
       . rename_i h3;rw[AU 0 h3];cases hd;simp only[fK,PX,DE,Er,fC]
     . cases hd
 . cases hd
theorem Wt(hh:HS N h0 h){ty:TypeId}{m k d:Option DV}{h1:ab}{b:Nat}(hk:iF k=true)(hd:ja e.aT h0 ty m k d=some (h1,b)):∃h',ja e h ty (m.map (sh N)) (k.map (sh N)) (d.map (sh N))=some (h',b+N)/\HS N h1 h':=by
 unfold ja at hd
 split at hd
 . rename_i r k d
   split at hd
   . rename_i es clock kv hg az;simp only[Option.map_eq_some_iff]at hd;obtain⟨o,h4,h5⟩:=hd;simp only[xS]at h5;obtain⟨rfl,rfl⟩:=h5;refine⟨_, ?_,HS.set hh _ _⟩;have hk:df k=true:=hk;simp only[GP,fU hk,bJ,bM,ja,hh.mp hg,az,Ws h4]
   . cases hd
 . cases hd
theorem Wu(hh:HS N h0 h){base:Option Addr}{len cap sz b n:Nat}{new:List DV}{d:DV}{h1:ab}{T:List Nat}(hd:eo h0 base len cap sz b n new=some (d,h1,T)):
 ∃h',eo h (base.map (ep N)) len cap sz b n (new.map (sh N))=some (sh N d,h',T.map (·+N))/\HS N h1 h':=by
 unfold eo at hd
 split at hd
 . rename_i hle
   split at hd
   . rename_i hn;simp only[qe,xS]at hd;obtain⟨rfl,rfl,rfl⟩:=hd;refine⟨h, ?_,hh⟩;unfold eo;rw[if_pos hle,if_pos hn];cases base<;>simp only[Zr,GP,bJ,bM,Er]
   . rename_i hn
     split at hd
     . rename_i i o
       split at hd
       . rename_i cs ah hg
         split at hd
         . rename_i hc;simp only[qe,xS]at hd;obtain⟨rfl,rfl,rfl⟩:=hd;refine⟨_, ?_,HS.set hh _ _⟩;unfold eo;rw[if_pos hle,if_neg hn];simp only[GP,ep,hh.row hg,W9,vi];rw[if_pos hc];simp only[bJ,bM,ep,fK,PX,Xw,Zj,DE,Er]
         . cases hd
       . cases hd
     . cases hd
 . rename_i hle
   split at hd
   . rename_i hb
     split at hd
     . split at hd
       . rename_i hc;simp only[qe,xS]at hd;obtain⟨rfl,rfl,rfl⟩:=hd;refine⟨_, ?_,HS.new hh _⟩;unfold eo;rw[if_neg hle,if_pos hb];simp only[Zr];rw[if_pos hc];simp only[bJ,bM,ep,fK,hh.next,Er]
       . cases hd
     . rename_i i o
       split at hd
       . rename_i cs wr ah hg
         split at hd
         . rename_i hl
           split at hd
           . rename_i hc;simp only[qe,xS]at hd;obtain⟨rfl,rfl,rfl⟩:=hd;refine⟨_, ?_,HS.new hh _⟩;unfold eo;rw[if_neg hle,if_pos hb];simp only[GP,ep,hh.row hg,W9];rw[if_pos hl,if_pos hc];simp only[bJ,bM,ep,fK,hh.next,PX,Xw,Zj,Er]
           . rename_i hc
             split at hd
             . rename_i aA;simp only[qe,xS]at hd;obtain⟨rfl,rfl,rfl⟩:=hd;refine⟨_, ?_,HS.new (HS.set hh i none) _⟩;unfold eo;rw[if_neg hle,if_pos hb];simp only[GP,ep,hh.row hg,W9,vi];rw[if_pos hl,if_neg hc,if_pos aA];simp only[bJ,bM,ep,fK,hh.next,PX,Xw,Zj,Er,DE,Zr]
             . cases hd
         . cases hd
       . cases hd
     . cases hd
   . cases hd
theorem Wv(hh:HS N h0 h){ae:Array TypeId}{ds:Option (List DV)}{d:DV}{h1:ab}{T:List Nat}(hd:jb e.aT h0 ae ds=some (d,h1,T)):
 ∃h',jb e h ae (ds.map λl=>l.map (sh N))=some (sh N d,h',T.map (·+N))/\HS N h1 h':=by
 have ha:e.aT.ap=e.ap:=rfl;have he:e.aT.elem=e.elem:=rfl;unfold jb at hd
 split at hd
 . rename_i base len cap x
   split at hd
   . rename_i st xt h2 h3;rw[ha,he]at hd
     split at hd
     . rename_i sz b u h4 h5
       split at hd
       . rename_i n new h6;obtain⟨h',q1,q2⟩:=Wu hh hd;refine⟨h', ?_,q2⟩;have:∃aa,sh N (.v (.slice base len cap))=.v (.slice aa len cap)/\aa=base.map (ep N):=by
          cases base
          . exact⟨_,by simp only[bJ,bM];rfl,rfl⟩
          . exact⟨_,by simp only[bJ,bM];rfl,rfl⟩
         obtain⟨aa,q3,q4⟩:=this;subst q4;simp only[GP,DE,Er,q3,jb,h2,h3,h4,h5,FB hh h6];exact q1
       . cases hd
     . cases hd
   . cases hd
 . cases hd
theorem Ww(hh:HS N h0 h){ty:TypeId}{x:DV}{o:bx}(hd:kZ e.aT h0 ty x=some o):kZ e h ty (sh N x)=some (fK N o):=by
 have hu:e.aT.under=e.under:=rfl;unfold kZ at hd;rw[hu]at hd
 split at hd
 . rename_i h1;cases hd;simp only[bJ,bM,kZ,h1,fK]
 . rename_i h1;cases hd;simp only[bJ,bM,kZ,h1,fK,Zr]
 . rename_i h1
   split at hd
   . rename_i hg;cases hd;simp only[bJ,bM,kZ,h1,hh.mp hg,fK,GP]
   . cases hd
 . cases hd
def FJ:DV->Bool
 |.bb [_,k,_]=>df k
 |_=>true
theorem xK{f:bq->Bool}(hf:∀x,f (fC N x)=f x)(es:List bq):(es.map (fC N)).filter f=(es.filter f).map (fC N):=by
 induction es with
 |nil=>rfl
 |cons x es ih=>
  simp only[DE,ZL,hf x,ih]
  split<;>rfl
theorem Wx(hh:HS N h0 h){it v:DV}{s:Bool}{h1:ab}{r:Nat}(hn:FJ v=true)(hd:kh h0 it s=some (v,h1,r)):∃h',kh h (sh N it) s=some (sh N v,h',r+N)/\HS N h1 h':=by
 unfold kh at hd
 split at hd
 . rename_i b
   split at hd
   . rename_i st pos hg;have ad:h.get (b+N)=some (.eC st pos):=by rw[hh.get,hg];rfl
     split at hd
     . rename_i hc;simp only[qe,xS]at hd;obtain⟨rfl,rfl,rfl⟩:=hd;refine⟨_, ?_,HS.set hh _ _⟩;simp only[bJ,bM,ep,kh,ad];rw[if_pos hc];simp only[jf,DE,Er,bJ,bM,fK,GP]
     . rename_i hc;simp only[qe,xS]at hd;obtain⟨rfl,rfl,rfl⟩:=hd;refine⟨h, ?_,hh⟩;simp only[bJ,bM,ep,kh,ad];rw[if_neg hc];simp only[jf,DE,Er,bJ,bM]
   . rename_i a b' c hg;simp only[qe,xS]at hd;obtain⟨rfl,rfl,rfl⟩:=hd;have ad:h.get (b+N)=some (.cj none a b' c):=by rw[hh.get,hg];rfl
     refine⟨h, ?_,hh⟩;simp only[bJ,bM,ep,kh,ad,jf,DE,Er]
   . rename_i m since seen last hg;have ad:h.get (b+N)=some (.cj (some (m+N)) since seen last):=by rw[hh.get,hg];rfl
     split at hd
     . rename_i es clock hm
       split at hd
       . cases hd
       . rename_i hc;have af:¬(!seen.isEmpty&& !(es.map (fC N)).isEmpty&&(es.map (fC N)).all λx=>Qc last x.born)=true:=by
          have h1:(es.map (fC N)).isEmpty=es.isEmpty:=by cases es<;>rfl
          have h2:((es.map (fC N)).all λx=>Qc last x.born)=es.all λx=>Qc last x.born:=by rw[List.all_map];rfl
          rw[h1,h2];exact hc
         have ai:((es.map (fC N)).filter λx=> !seen.contains x.born).filter (λx=>decide (x.born<since))=((es.filter λx=> !seen.contains x.born).filter λx=>decide (x.born<since)).map (fC N):=by
          rw[xK (λx=>rfl),xK (λx=>rfl)]
         have ao:((es.map (fC N)).filter λx=> !seen.contains x.born).filter (λx=>decide (x.born>=since))=((es.filter λx=> !seen.contains x.born).filter λx=>decide (x.born>=since)).map (fC N):=by
          rw[xK (λx=>rfl),xK (λx=>rfl)]
         split at hd
         . rename_i e1 e2;simp only[qe,xS]at hd;obtain⟨rfl,rfl,rfl⟩:=hd;refine⟨h, ?_,hh⟩;simp only[bJ,bM,ep,kh,ad,hh.mp hm];rw[if_neg af,ai,ao,e1,e2];simp only[jf,DE,Er,bJ,bM]
         . rename_i x e1 e2;simp only[qe,xS]at hd;obtain⟨rfl,rfl,rfl⟩:=hd;refine⟨_, ?_,HS.set hh _ _⟩;simp only[bJ,bM,ep,kh,ad,hh.mp hm];rw[if_neg af,ai,ao,e1,e2];have hk:df (fu x.key)=true:=hn;have aC:fu (fC N x).key=sh N (fu x.key):=(fU hk).symm;simp only[jf,DE,Er,bJ,bM,aC,fK,GP];rfl
         . cases hd
     . cases hd
   . cases hd
 . cases hd
end Go.au
end
noncomputable section
namespace Go.au
abbrev Wy:=FuncId->List DV->ab->Option (DV×ab)
abbrev iG:=FuncId->List DV->ab->Option (DV×ab×List Nat)
def jh(e:Env)(h:ab)(t:Tr DV)(op:Op):Option DV:=match aS e h t op with
 |none=>none
 |some r=>bif jg e t op r then some r else none
def nH(e:Env)(t:Tr DV)(dd:List FuncId)(h:ab)(op:Op):Option (DV×List FuncId×ab×List Nat):=
 bif vk e op then match dH e t op with
  |none=>none
  |some (o,f)=>some (f h.next,dd,h.new o,[])
 else none
def xL(e:Env)(t:Tr DV)(dd:List FuncId)(h:ab)(ty:TypeId)(m k v:Operand):Option (DV×List FuncId×ab×List Nat):=
 bif iF (aB e t k)then match ja e h ty (aB e t m) (aB e t k) (aB e t v)with
  |none=>none
  |some (h,b)=>some (cP,dd,h,[b])
 else none
def oN(e:Env)(cf:iG)(op:Op)(t:Tr DV)(dd:List FuncId)(h:ab):Option (DV×List FuncId×ab×List Nat):=
 match op with
 |.alloc ty=>nH e t dd h (.alloc ty)
 |.box ty x=>nH e t dd h (.box ty x)
 |.buildSlice ty n ps=>nH e t dd h (.buildSlice ty n ps)
 |.makeMap ty n=>nH e t dd h (.makeMap ty n)
 |.makeSlice ty l c=>nH e t dd h (.makeSlice ty l c)
 |.store ty a x=>match kY e h ty (aB e t a) (aB e t x)with
  |none=>none
  |some (h,b)=>some (cP,dd,h,[b])
 |.mapUpdate ty m k v=>xL e t dd h ty m k v
 |.insert ty m k v=>xL e t dd h ty m k v
 |.range ty x=>match(aB e t x).bind (kZ e h ty)with
  |none=>none
  |some o=>some (.v (.pointer (some ⟨h.next,0,none⟩)),dd,h.new o,[])
 |.next it s=>match(aB e t it).bind (kh h · s)with
  |none=>none
  |some (v,h,r)=>bif FJ v then some (v,dd,h,[r])else none
 |.defer c=>match c.callee with
  |.value f=>match jc (aB e t f) (cz e t c.args.toList)with
   |none=>none
   |some (g,_)=>some (cP,g::dd,h,[])
  |_=>none
 |.call c=>match c.callee with
  |.value f=>match jc (aB e t f) (cz e t c.args.toList)with
   |none=>none
   |some (g,l)=>match cf g l h with
    |none=>none
    |some (v,h,T)=>some (v,dd,h,T)
  |.builtin .append=>match jb e h c.argTypes (cz e t c.args.toList)with
   |none=>none
   |some (v,h,T)=>some (v,dd,h,T)
  |_=>match jh e h t (.call c)with
   |none=>none
   |some v=>some (v,dd,h,[])
 |op=>match jh e h t op with
  |none=>none
  |some v=>some (v,dd,h,[])
def fin(dd:List FuncId)(h:ab):Option DV->Option (DV×List FuncId×ab×List Nat)
 |none=>none
 |some v=>some (v,dd,h,[])
def sY(b:DV->Bool):Option DV->Option DV
 |none=>none
 |some r=>bif b r then some r else none
def Wz(e:Env)(t:Tr DV)(c a b:Operand):Option DV:=pX (aB e t c) (aB e t a) (aB e t b)
def FK(e:Env)(t:Tr DV)(ty:TypeId)(ps:Array (Nat×Operand)):Option DV:=bif nG e ty then(match fw e t ps.toList with|none=>none|some l=>eA e ty l)else none
def FL(e:Env)(t:Tr DV)(o:UnOp)(x:Operand):Option DV:=match aB e t x with
 |none=>none
 |some a=>bif df a then sY df (kV (np e o) a)else none
def WA(e:Env)(t:Tr DV)(dd:List FuncId)(h:ab)(cf:iG)(f:Operand)(avs:Array Operand):Option (DV×List FuncId×ab×List Nat):=match jc (aB e t f) (cz e t avs.toList)with
 |none=>none
 |some (g,l)=>match cf g l h with
  |none=>none
  |some (v,h,T)=>some (v,dd,h,T)
def WB(e:Env)(t:Tr DV)(dd:List FuncId)(h:ab)(cf:iG)(c:Call):Option (DV×List FuncId×ab×List Nat):=match c.callee with
 |.value f=>WA e t dd h cf f c.args
 |.builtin .append=>(match jb e h c.argTypes (cz e t c.args.toList)with
  |none=>none
  |some (v,h,T)=>some (v,dd,h,T))
 |_=>fin dd h (jh e h t (.call c))
def WC(e:Env)(t:Tr DV)(dd:List FuncId)(h:ab)(ty:TypeId)(a x:Operand):Option (DV×List FuncId×ab×List Nat):=match kY e h ty (aB e t a) (aB e t x)with
 |none=>none
 |some (h,b)=>some (cP,dd,h,[b])
def mE:Operand->Env->Tr DV->Option DV
 |.tmp i=>λ_ t=>t.get i
 |.const v=>λ_ _=>bif plain v then some (fu v)else none
 |.global g=>λe _=>bif TF g e.n8 then(if g=0 then some (.ptr pT 0)else none)else none
 |.func f=>λ_ _=>some (.fn f [] [])
theorem oO(o:Operand)(e:Env)(t:Tr DV):mE o e t=aB e t o:=by cases o<;>rfl
abbrev jO:=Env->iG->Tr DV->List FuncId->ab->Option (DV×List FuncId×ab×List Nat)
def xM(x:Operand):jO:=λe _ t dd h=>fin dd h (mE x e t)
def WE(c a b:Operand):jO:=λe _ t dd h=>fin dd h (Wz e t c a b)
def WG(ty:TypeId)(ps:Array (Nat×Operand)):jO:=λe _ t dd h=>fin dd h (FK e t ty ps)
def FN(ty:TypeId)(a:Operand):jO:=λe _ t dd h=>match mE a e t with|none=>none|some d=>fin dd h (iA e h ty d)
def FO(a:Operand):jO:=λe _ t dd h=>match mE a e t with|none=>none|some d=>fin dd h (kJ d)
def FP(o:BinOp)(ty:TypeId)(x y:Operand):jO:=λe _ t dd h=>match mE x e t with
 |none=>none
 |some a=>match mE y e t with
  |none=>none
  |some b=>bif df a&&df b then fin dd h (sY df (iY e o ty x y a b))else none
def WH(o:UnOp)(x:Operand):jO:=λe _ t dd h=>fin dd h (FL e t o x)
def FQ(s:TypeId)(x:Operand)(f:Nat):jO:=λe _ t dd h=>match mE x e t with|none=>none|some d=>fin dd h (kc e s f d)
def FR(s:TypeId)(x:Operand)(f:Nat):jO:=λe _ t dd h=>match mE x e t with|none=>none|some d=>fin dd h (pU e s f d)
def FT(ty:TypeId)(x ix:Operand):jO:=λe _ t dd h=>match mE x e t with
 |none=>none
 |some a=>match mE ix e t with
  |none=>none
  |some b=>fin dd h (ia e ty a (fx b))
def FU(x:Operand)(i:Nat):jO:=λe _ t dd h=>match mE x e t with
 |none=>none
 |some d=>fin dd h (sY (λr=> !isVal (some d)||df r) (lG i d))
def WI(ty:TypeId)(a x:Operand):jO:=λe _ t dd h=>WC e t dd h ty a x
def WJ(c:Call):jO:=λe cf t dd h=>WB e t dd h cf c
def FV(op:Op):jO:=λe _ t dd h=>nH e t dd h op
def WK(op:Op):jO:=λe cf t dd h=>oN e cf op t dd h
def lQ(op:Op):jO:=
 match op with
 |.move x=>xM x
 |.assign x=>xM x
 |.pick c a b=>WE c a b
 |.build ty ps=>WG ty ps
 |.load ty a=>FN ty a
 |.nilCheck a=>FO a
 |.binOp o ty x y _=>FP o ty x y
 |.unOp o _ x=>WH o x
 |.fieldAddr s x f=>FQ s x f
 |.field s x f=>FR s x f
 |.indexAddr ty x ix=>FT ty x ix
 |.extract x i=>FU x i
 |.store ty a x=>WI ty a x
 |.call c=>WJ c
 |.alloc ty=>FV (.alloc ty)
 |.box ty x=>FV (.box ty x)
 |op=>WK op
def k8(e:Env)(cf:iG)(op:Op)(t:Tr DV)(dd:List FuncId)(h:ab):Option (DV×List FuncId×ab×List Nat):=lQ op e cf t dd h
theorem FW(e:Env)(cf:iG)(op:Op)(t:Tr DV)(dd:List FuncId)(h:ab):k8 e cf op t dd h=oN e cf op t dd h:=by
 have key:∀op r,jh e h t op=r->(match jh e h t op with|none=>none|some v=>some (v,dd,h,([]:List Nat)))=fin dd h r:=λop r hr=>by subst hr;cases jh e h t op<;>rfl
 have ae:∀(x:Option DV),(match x with|none=>none|some r=>bif true then some r else none)=x:=λx=>by cases x<;>rfl
 cases op with
 |move x=>
  refine PO ?_ (key (.move x) _ (ae _)).symm;simp only[k8,lQ,xM,oO,aS]
 |assign x=>
  refine PO ?_ (key (.assign x) _ (ae _)).symm;simp only[k8,lQ,xM,oO,aS]
 |pick c a b=>exact(key (.pick c a b) _ (ae _)).symm
 |build ty ps=>
  refine(key (.build ty ps) _ ?_).symm;simp only[jh,aS,jg,FK];cases fw e t ps.toList<;>simp
  . cases eA e ty _<;>cases nG e ty<;>rfl
 |load ty a=>
  refine PO ?_ (key (.load ty a) _ (ae _)).symm;simp only[k8,lQ,FN,oO,aS];cases aB e t a<;>rfl
 |nilCheck a=>
  refine PO ?_ (key (.nilCheck a) _ (ae _)).symm;simp only[k8,lQ,FO,oO,aS];cases aB e t a<;>rfl
 |binOp o ty x y z=>
  refine PO ?_ (key (.binOp o ty x y z) _ rfl).symm;simp only[k8,lQ,FP,oO,jh,aS,jg,fI];cases aB e t x<;>cases aB e t y<;>simp[iF,fin];rename_i a b;cases iY e o ty x y a b<;>cases df a<;>cases df b<;>simp[sY,fin]
 |unOp o ty x=>
  refine(key (.unOp o ty x) _ ?_).symm;simp only[jh,aS,jg,FL];cases aB e t x<;>simp[iF];rename_i a;cases kV (np e o) a<;>cases df a<;>simp[sY]
 |fieldAddr s x f=>
  refine PO ?_ (key (.fieldAddr s x f) _ (ae _)).symm;simp only[k8,lQ,FQ,oO,aS];cases aB e t x<;>rfl
 |field s x f=>
  refine PO ?_ (key (.field s x f) _ (ae _)).symm;simp only[k8,lQ,FR,oO,aS];cases aB e t x<;>rfl
 |indexAddr ty x ix=>
  refine PO ?_ (key (.indexAddr ty x ix) _ (ae _)).symm;simp only[k8,lQ,FT,oO,aS,fI];cases aB e t x<;>cases aB e t ix<;>rfl
 |extract x i=>
  refine PO ?_ (key (.extract x i) _ rfl).symm;simp only[k8,lQ,FU,oO,jh,aS,jg];cases aB e t x<;>simp[fin];rename_i d;cases lG i d<;>simp[sY]
 |store ty a x=>rfl
 |call c=>
  obtain⟨callee,args,af⟩:=c;cases callee with
  |value f=>rfl
  |builtin b=>cases b<;>first|rfl|exact(key (.call ⟨.builtin _,args,af⟩) _ rfl).symm
  |invoke a b=>exact(key (.call ⟨.invoke a b,args,af⟩) _ rfl).symm
 |_=>rfl
def vl(dst:Option Tmp)(n:Nat):Bool:=match dst with
 |none=>true
 |some d=>TF d n
def rI(e:Env)(cf:iG)(all:List Oper):List Oper->Tr DV->Nat->List FuncId->ab->Option DS
 |[],t,n,dd,h=>some ⟨t,n,dd,h⟩
 |o::r,t,n,dd,h=>bif vl o.dst n then match ic all t o with
  |none=>none
  |some true=>match k8 e cf o.op t dd h with
   |none=>none
   |some (v,dd,h,_)=>rI e cf all r (cq o.dst v t) n dd h
  |some false=>rI e cf all r (cq o.dst cP t) n dd h
  else none
abbrev vm:=Tr DV->Nat->List FuncId->ab->Option DS
def WL(ih:vm)(dst:Option Tmp)(n:Nat)(t:Tr DV):Option (DV×List FuncId×ab×List Nat)->Option DS
 |none=>none
 |some (v,dd,h,_)=>ih (cq dst v t) n dd h
def AV(e:Env)(cf:iG)(all:List Oper)(o:Oper)(ih:vm):vm:=λt n dd h=>bif vl o.dst n then match ic all t o with
 |none=>none
 |some true=>WL ih o.dst n t (lQ o.op e cf t dd h)
 |some false=>ih (cq o.dst cP t) n dd h
 else none
def pM(e:Env)(cf:iG)(all:List Oper)(l:List Oper):vm:=List.rec (motive:=λ_=>vm) (λt n dd h=>some ⟨t,n,dd,h⟩) (λo _ ih=>AV e cf all o ih) l
theorem FX(e:Env)(cf:iG)(all:List Oper):∀(l:List Oper) (t:Tr DV) (n:Nat) (dd:List FuncId) (h:ab),pM e cf all l t n dd h=rI e cf all l t n dd h
 |[],_,_,_,_=>rfl
 |o::r,t,n,dd,h=>by
  have ih:=FX e cf all r;show AV e cf all o (pM e cf all r) t n dd h=_;unfold AV;simp only[rI];cases vl o.dst n<;>simp;cases ic all t o with
  |none=>rfl
  |some w=>cases w with
   |true=>
    simp only[k8];cases lQ o.op e cf t dd h with
    |none=>rfl
    |some q=>exact ih _ _ _ _
   |false=>exact ih _ _ _ _
def gP(N0:Nat)(T:List Nat):Option Nat->Bool
 |none=>true
 |some b=>TF b N0&& !T.contains b
def mF(e:Env)(cf:iG)(ops:List Oper)(N0:Nat):List Oper->List PJ->Nat->Nat->Nat->Tr DV->Nat->List FuncId->ab->eS->List Nat->List (Nat×Nat)->Option DS
 |[],_,_,_,_,t,n,dd,h,aq,_,_=>some ⟨t,n,dd,lL h aq⟩
 |_::_,[],_,_,_,_,_,_,_,_,_,_=>none
 |o::r,p::pl,i,id,c,t,n,dd,h,aq,T,L=>bif vl o.dst n then match ic ops t o with
  |none=>none
  |some true=>match p.c with
   |.pure=>match jh e h t o.op with
    |none=>none
    |some v=>mF e cf ops N0 r pl (i+1) id c (cq o.dst v t) n dd h aq T L
   |.read=>match jh e (ff h p.m aq) t o.op with
    |none=>none
    |some v=>bif !p.aY||gP N0 T (dA e t o.op)then mF e cf ops N0 r pl (i+1) id c (cq o.dst v t) n dd h aq T (ki p.dy (dA e t o.op) L)else none
   |.alloc=>bif vk e o.op then match dH e t o.op with
    |none=>none
    |some (ob,f)=>mF e cf ops N0 r pl (i+1) (id+1) c (cq o.dst (f id) t) n dd h ((i,id,ob)::aq) T L
    else none
   |.effect=>match k8 e cf o.op t dd (ff h p.m aq)with
    |none=>none
    |some (v,dd,h,T')=>bif L.all (λq=> !Nat.ble (c+1) q.2|| !T'.contains q.1)then mF e cf ops N0 r pl (i+1) id (c+1) (cq o.dst v t) n dd h (iC p.m aq) (T'++T) L else none
   |.bad=>none
  |some false=>match p.c with
   |.alloc=>mF e cf ops N0 r pl (i+1) (id+1) c (cq o.dst cP t) n dd h aq T L
   |.effect=>mF e cf ops N0 r pl (i+1) id (c+1) (cq o.dst cP t) n dd h aq T L
   |.bad=>none
   |_=>mF e cf ops N0 r pl (i+1) id c (cq o.dst cP t) n dd h aq T L
  else none
def FY(oms:List ((Oper×Nat)×Nat)):Nat->List Nat->List Nat
 |0,acc=>acc
 |k+1,acc=>
  let more:=acc.flatMap λi=>match oms[i]? with
   |none=>[]
   |some ((o,_),_)=>match cls o.op with
    |.alloc=>[]
    |_=>(slotsOf o.op).flatMap λt=>(oms.filter λx=>match x.1.1.dst with|some d=>Nat.beq d t|none=>false).map (·.2)
  let new:=(more.filter λx=> !acc.contains x).eraseDups
  match new with
  |[]=>acc
  |_=>FY oms k (acc++new)
def AW(ops:List Oper):List PJ:=
 let oms:=(ops.zip (bf ops)).zipIdx
 let ef:=jB (ops.zip (bf ops)) 0
 let need:=FY oms 60 ((oms.filter λx=>decide (cls x.1.1.op=.read)&&TF (ef.filter λp=>x.1.2.testBit p.1).length (ef.filter λp=> !p.2.testBit x.2).length).map (·.2))
 oms.map λx=>
  let lo:=(ef.filter λp=>x.1.2.testBit p.1).length
  let hi:=(ef.filter λp=> !p.2.testBit x.2).length
  ⟨cls x.1.1.op,x.1.2,(bif decide (cls x.1.1.op=.read)&&TF lo hi then some (lo,hi+1-lo)else none),need.contains x.2⟩
abbrev ji:=Code->DS->Option (bk×DS)
def nI(e:Env)(ev:ji):Wy:=λf args h=>match e.fn f with
 |none=>none
 |some fn=>match fn.body with
  |none=>none
  |some c=>match ev c ⟨ie args,args.length+(fn.ntmps-args.length),[],h⟩with
   |none=>none
   |some (.exit _,_)=>none
   |some (_,s)=>bif s.dd.all e.idle then match fJ e s fn.results.toList with
    |none=>none
    |some l=>some (jI l,s.h)
    else none
def sZ(h':ab):Nat->Nat->Tr bx->Tr bx
 |0,_,m=>m
 |k+1,i,m=>match h'.get i with
  |some o=>sZ h' k (i+1) (m.set i (some o))
  |none=>sZ h' k (i+1) m
def kL(h h':ab):ab:=⟨sZ h' (h'.next-h.next) h.next h.m,h'.next⟩
def chunks(cs:List DV)(o k:Nat)(f:DV->DV):Nat->List (List DV)
 |0=>[]
 |n+1=>((cs.drop o).take k).map f::chunks cs (o+k) k f n
def rJ(cs:List DV)(o c ah:Nat):Nat:=bif Nat.beq ah 0 then Nat.div (cs.length-o) c else ah
def vn(cs:List DV)(o n c k:Nat):Bool:=TF 0 k&&Qc n c&&Qc (o+n*k) cs.length
def FZ(f:DV->DV)(d:DV)(o n c:Nat):Option bx->DV
 |some (.row cs _ ah)=>bif vn cs o n c (rJ cs o c ah)then .sl (rJ cs o c ah) (chunks cs o (rJ cs o c ah) f n)else d
 |_=>d
def lR(h:ab):Nat->DV->DV
 |0,d=>d
 |m+1,d=>match d with
  |.v (.slice (some ⟨b,o,none⟩) n c)=>FZ (lR h m) (.v (.slice (some ⟨b,o,none⟩) n c)) o n c (h.get b)
  |.agg l=>.agg (l.map (lR h m))
  |d=>d
def F0(h:ab):DV->Bool
 |.v (.slice (some a) _ _)=>(h.get a.block).isSome
 |_=>false
def F1(h:ab):DV->Bool
 |.v x=>F0 h (.v x)
 |.agg l=>l.any (F0 h)
 |_=>false
def AX(f:DV->List Nat)(b o n c:Nat):Option bx->List Nat
 |some (.row cs _ ah)=>bif vn cs o n c (rJ cs o c ah)then b::cs.flatMap f else []
 |_=>[]
def qc(h:ab):Nat->DV->List Nat
 |0,_=>[]
 |m+1,d=>match d with
  |.v (.slice (some ⟨b,o,none⟩) n c)=>AX (qc h m) b o n c (h.get b)
  |.agg l=>l.flatMap (qc h m)
  |_=>[]
def AY:DV->Bool
 |.v u=>iE u
 |_=>false
def F2(h:ab)(v:DV)(h':ab)(l:List Nat):Option (DV×ab×List Nat):=some (v,kL (fA h l) h',l)
def AZ(args:List DV)(h:ab):Option (DV×ab)->Option (DV×ab×List Nat)
 |none=>none
 |some (v,h')=>bif AY v then some (v,h.up h'.next,[])else F2 h v h' (args.flatMap (qc h 4))
def A8(h:ab):Option (DV×ab)->Option (DV×ab×List Nat)
 |none=>none
 |some (v,h')=>some (v,kL h h',[])
def vo(e:Env)(ev:ji):iG:=λf args h=>bif args.any (F1 h)then AZ args h (nI e ev f (args.map (lR h 4)) ⟨.nil,h.next⟩)else A8 h (nI e ev f args ⟨.nil,h.next⟩)
def F3:Option (DV×ab)->Option (DV×ab×List Nat)
 |none=>none
 |some (v,h)=>some (v,h,[])
def vp(e:Env)(ev:ji):iG:=λf args h=>F3 (nI e ev f args h)
def F4(e:Env)(ev:ji)(l:List Oper)(draw:Bool)(s:DS):Option DS:=match s with
 |⟨t,n,dd,h⟩=>match draw with
  |false=>pM e (vp e ev) l l t n dd h
  |true=>bif uZ l (AW l)then mF e (vo e ev) l h.next l (AW l) 0 h.next 0 t n dd (h.up (h.next+(l.filter λo=>cls o.op==.alloc).length)) [] [] []else none
abbrev s8:=Env->ji->DS->Option (bk×DS)
def s9(ops:Array Oper)(draw:Bool):s8:=λe ev s=>match F4 e ev ops.toList draw s with
 |none=>none
 |some s=>some (.normal,s)
def ta(a b:Code):s8:=λ_ ev s=>match ev a s with
 |some (.normal,s)=>ev b s
 |r=>r
def te(c:Operand)(a b:Code):s8:=λe ev s=>match aB e s.t c with
 |some (.v (.bool true))=>ev a s
 |some (.v (.bool false))=>ev b s
 |_=>none
def tg(id:Nat)(c:Code):s8:=λ_ ev s=>match ev c s with
 |some (.exit i,s)=>bif Nat.beq i id then some (.normal,s)else some (.exit i,s)
 |r=>r
def th(c:Code):s8:=λ_ ev s=>match ev c s with
 |some (.normal,s)=>ev (.loop c) s
 |r=>r
def oP(c:Code):s8:=match c with
 |.skip=>λ_ _ s=>some (.normal,s)
 |.exit id=>λ_ _ s=>some (.exit id,s)
 |.ret=>λ_ _ s=>some (.ret,s)
 |.region _ ops draw=>s9 ops draw
 |.seq a b=>ta a b
 |.cond c a b=>te c a b
 |.block id c=>tg id c
 |.loop c=>th c
 |_=>λ_ _ _=>none
def mG(e:Env)(ev:ji):ji:=λc s=>oP c e ev s
def nJ(e:Env):Nat->ji
 |0=>λ_ _=>none
 |n+1=>mG e (nJ e n)
variable {e:Env} {N:Nat}
theorem A9{t0 t:Tr DV}{h0 h:ab}(hh:HS N h0 h)(ht:TS N t0 t){op:Op}{r:DV}(hd:jh e.aT h0 t0 op=some r):aS e h t op=some (sh N r):=by
 unfold jh at hd
 split at hd
 . cases hd
 . rename_i r' h1;obtain⟨h2,h3⟩:=bU hd;cases h3;exact Wo hh ht h2 h1
def rK(e:Env)(N:Nat)(pu:Bool)(cf:iG):Prop:=∀f args h0 v h1 T0,cf f args h0=some (v,h1,T0)->∀h,HS N h0 h->∀K:DV->ab->List Nat->Prop,(∀h',HS N h1 h'->∀T,(pu=true->T=T0.map (·+N))->K (sh N v) h' T)->cJ e true f (args.map (sh N)) h K
theorem WM{t0 t:Tr DV}{h0 h h1:ab}(hh:HS N h0 h)(ht:TS N t0 t){op:Op}{dd ad:List FuncId}{v:DV}{T:List Nat}(hd:nH e.aT t0 dd h0 op=some (v,ad,h1,T))(K:ck)(hk:∀h',HS N h1 h'->K (sh N v) ad h' []):
 aG (dH e t op) λp=>K (p.2 h.next) dd (h.new p.1) []:=by
 unfold nH at hd;obtain⟨hg,hd⟩:=bU hd
 split at hd
 . cases hd
 . rename_i o f ha;simp only[qe,xS]at hd;obtain⟨rfl,rfl,rfl,rfl⟩:=hd;obtain⟨f',h2,h3⟩:=FI (e:=e) ht hg ha;refine⟨_,h2, ?_⟩;simp only;rw[hh.next,h3];exact hk _ (hh.new o)
theorem F5{t0 t:Tr DV}{h0 h h1:ab}(hh:HS N h0 h)(ht:TS N t0 t){ty:TypeId}{m k x:Operand}{dd ad:List FuncId}{v:DV}{T:List Nat}(hd:xL e.aT t0 dd h0 ty m k x=some (v,ad,h1,T))(K:ck)(hk:∀h',HS N h1 h'->K (sh N v) ad h' (T.map (·+N))):
 aG (ja e h ty (aB e t m) (aB e t k) (aB e t x)) λp=>K cP dd p.1 [p.2]:=by
 unfold xL at hd;obtain⟨hg,hd⟩:=bU hd
 split at hd
 . cases hd
 . rename_i h' b hm;simp only[qe,xS]at hd;obtain⟨rfl,rfl,rfl,rfl⟩:=hd;obtain⟨h2,q1,q2⟩:=Wt hh hg hm;have hs:∀o:Operand,aB e.aT t0 o≠none->aB e t o=(aB e.aT t0 o).map (sh N):=λo ho=>by
    cases hq:aB e.aT t0 o with
    |none=>exact absurd hq ho
    |some d=>rw[dL ht hq];rfl
   have h3:aB e.aT t0 m≠none/\aB e.aT t0 k≠none/\aB e.aT t0 x≠none:=by
    unfold ja at hm
    split at hm
    . rename_i e1 e2 e3;simp[e1,e2,e3]
    . cases hm
   rw[hs m h3.1,hs k h3.2.1,hs x h3.2.2];exact⟨_,q1,hk h2 q2⟩
theorem xN{t0 t:Tr DV}(ht:TS N t0 t){o:Operand}(ho:aB e.aT t0 o≠none):aB e t o=(aB e.aT t0 o).map (sh N):=by
 cases hq:aB e.aT t0 o with
 |none=>exact absurd hq ho
 |some d=>rw[dL ht hq];rfl
theorem F6{pu:Bool}{cf:iG}(aa:rK e N pu cf){t0 t:Tr DV}{h0 h h1:ab}(hh:HS N h0 h)(ht:TS N t0 t){op:Op}{dd ad:List FuncId}{v:DV}{T:List Nat}(hd:oN e.aT cf op t0 dd h0=some (v,ad,h1,T))(K:ck)
 (hk:∀h',HS N h1 h'->∀T',(pu=true->T'=T.map (·+N))->K (sh N v) ad h' T'):bY e true op t dd h K:=by
 have val:∀op,(match jh e.aT h0 t0 op with|none=>none|some v=>some (v,dd,h0,([]:List Nat)))=some (v,ad,h1,T)->aG (aS e h t op) λv=>K v dd h []:=λop hv=>by
  split at hv
  . cases hv
  . rename_i r hr;simp only[qe,xS]at hv;obtain⟨rfl,rfl,rfl,rfl⟩:=hv;exact⟨_,A9 hh ht hr,hk h hh [] λ_=>rfl⟩
 have nw:∀op,nH e.aT t0 dd h0 op=some (v,ad,h1,T)->aG (dH e t op) λp=>K (p.2 h.next) dd (h.new p.1) []:=λop hn=>by
  refine WM hh ht hn K λh' h2=>hk h' h2 [] λ_=> ?_;unfold nH at hn;obtain⟨_,hn⟩:=bU hn
  split at hn
  . cases hn
  . simp only[qe,xS]at hn;rw[<-hn.2.2.2];rfl
 cases op with
 |alloc ty=>exact nw _ hd
 |box ty x=>exact nw _ hd
 |buildSlice ty n ps=>exact nw _ hd
 |makeMap ty n=>exact nw _ hd
 |makeSlice ty l c=>exact nw _ hd
 |store ty a x=>
  simp only[oN]at hd;simp only[bY]
  split at hd
  . cases hd
  . rename_i h' b hs;simp only[qe,xS]at hd;obtain⟨rfl,rfl,rfl,rfl⟩:=hd;obtain⟨h2,q1,q2⟩:=Wp hh hs;have h3:aB e.aT t0 a≠none/\aB e.aT t0 x≠none:=by
     unfold kY at hs
     split at hs
     . rename_i e1 e2;simp[e1,e2]
     . cases hs
    rw[xN ht h3.1,xN ht h3.2];exact⟨_,q1,hk h2 q2 _ λ_=>rfl⟩
 |mapUpdate ty m k x=>exact F5 hh ht hd K λh' h2=>hk h' h2 _ λ_=>rfl
 |insert ty m k x=>exact F5 hh ht hd K λh' h2=>hk h' h2 _ λ_=>rfl
 |range ty x=>
  simp only[oN]at hd;simp only[bY]
  split at hd
  . cases hd
  . rename_i o hx;simp only[qe,xS]at hd;obtain⟨rfl,rfl,rfl,rfl⟩:=hd;obtain⟨d,q1,q2⟩:=VK.1 hx;refine⟨fK N o,by rw[dL ht q1];exact Ww hh q2, ?_⟩;have:=hk _ (hh.new o) [] λ_=>rfl;simp only[bJ,bM,ep]at this;rw[hh.next];exact this
 |next it s=>
  simp only[oN]at hd;simp only[bY]
  split at hd
  . cases hd
  . rename_i v' h' r hx;obtain⟨hg,hd⟩:=bU hd;simp only[qe,xS]at hd;obtain⟨rfl,rfl,rfl,rfl⟩:=hd;obtain⟨d,q1,q2⟩:=VK.1 hx;obtain⟨h2,q3,q4⟩:=Wx hh hg q2;refine⟨_,by rw[dL ht q1];exact q3,hk _ q4 _ λ_=>rfl⟩
 |defer c=>
  simp only[oN]at hd;simp only[bY]
  split at hd
  . rename_i f hf;simp only[hf]
    split at hd
    . cases hd
    . rename_i g l hx;simp only[qe,xS]at hd;obtain⟨rfl,rfl,rfl,rfl⟩:=hd;have h3:aB e.aT t0 f≠none/\∃l,cz e.aT t0 c.args.toList=some l:=by
       unfold jc at hx
       split at hx
       . rename_i e1 e2;exact⟨by simp[e1],_,e2⟩
       . cases hx
      obtain⟨h3,l',h4⟩:=h3;have key:=FG (N:=N) hx;rw[h4]at key;refine⟨(g,l.map (sh N)),by rw[xN ht h3,nF ht h4];exact key, ?_⟩;have:=hk h hh [] λ_=>rfl;rwa[bJ,qb (by rfl)]at this
  . cases hd
 |call c=>
  simp only[oN]at hd;simp only[bY]
  split at hd
  . rename_i f hf;simp only[hf]
    split at hd
    . cases hd
    . rename_i g l hx
      split at hd
      . cases hd
      . rename_i v' h' T' hc;simp only[qe,xS]at hd;obtain⟨rfl,rfl,rfl,rfl⟩:=hd;have h3:aB e.aT t0 f≠none/\∃l,cz e.aT t0 c.args.toList=some l:=by
         unfold jc at hx
         split at hx
         . rename_i e1 e2;exact⟨by simp[e1],_,e2⟩
         . cases hx
        obtain⟨h3,l',h4⟩:=h3;have key:=FG (N:=N) hx;rw[h4]at key;refine⟨(g,l.map (sh N)),by rw[xN ht h3,nF ht h4];exact key, ?_⟩;exact aa g l h0 _ _ _ hc h hh _ λh2 q T' hT=>hk h2 q T' hT
  . rename_i hf;simp only[hf]
    split at hd
    . cases hd
    . rename_i v' h' T' hx;simp only[qe,xS]at hd;obtain⟨rfl,rfl,rfl,rfl⟩:=hd;have h4:∃l,cz e.aT t0 c.args.toList=some l:=by
       cases hq:cz e.aT t0 c.args.toList with
       |none=>rw[hq]at hx;simp[jb]at hx
       |some l=>exact⟨l,rfl⟩
      obtain⟨l',h4⟩:=h4;obtain⟨h2,q1,q2⟩:=Wv hh hx;rw[h4]at q1;refine⟨_,by rw[nF ht h4];exact q1,hk h2 q2 _ λ_=>rfl⟩
  . rename_i h5 h6;obtain⟨callee,args,af⟩:=c;cases callee with
    |value f=>exact absurd rfl (h5 f)
    |builtin b=>cases b<;>first|exact absurd rfl h6|exact val _ hd
    |invoke a b=>exact val _ hd
 |entry it=>simp[oN,jh,aS]at hd
 |_=>exact val _ hd
theorem F7{dst:Option Tmp}{n:Nat}(h:vl dst n=true):c9 dst n:=by
 cases dst with
 |none=>trivial
 |some d=>exact Z4 h
theorem F8:sh N cP=cP:=by rw[bJ,qb (by rfl)]
theorem Bb{pu:Bool}{cf:iG}(aa:rK e N pu cf){all:List Oper}:∀{r:List Oper} {t0 t:Tr DV} {n:Nat} {dd:List FuncId} {h0 h:ab} {s1:DS},HS N h0 h->TS N t0 t->rI e.aT cf all r t0 n dd h0=some s1->∀(K:DS->Prop),(∀t' h',TS N s1.t t'->HS N s1.h h'->K ⟨t',s1.n,s1.dd,h'⟩)->eI e true all r t n dd h K
 |[],t0,t,n,dd,h0,h,s1,hh,ht,hd,K,hk=>by
  simp only[rI,qe]at hd;subst hd;exact hk t h ht hh
 |o::r,t0,t,n,dd,h0,h,s1,hh,ht,hd,K,hk=>by
  simp only[rI]at hd;obtain⟨hs,hd⟩:=bU hd;refine⟨F7 hs, ?_⟩
  split at hd
  . cases hd
  . rename_i hw;refine⟨true,xJ ht hw, ?_⟩
    split at hd
    . cases hd
    . rename_i v ad h' T ho;rw[FW]at ho;exact F6 aa hh ht ho _ λh2 q T' _=>Bb aa q (ht.put _ _) hd K hk
  . rename_i hw;refine⟨false,xJ ht hw, ?_⟩;have:=ht.put o.dst cP;rw[F8]at this;exact Bb aa hh this hd K hk
def qd(N:Nat)(q:Nat×Nat×bx):Nat×Nat×bx:=(q.1,q.2.1+N,fK N q.2.2)
theorem xO{h0 h:ab}(hh:HS N h0 h)(m:Nat):∀(p:eS),HS N (ff h0 m p) (ff h m (p.map (qd N)))
 |[]=>hh
 |(i,id,o)::r=>by
  simp only[DE,qd,ff]
  split
  . exact(xO hh m r).set id (some o)
  . exact xO hh m r
theorem F9{h0 h:ab}(hh:HS N h0 h):∀(p:eS),HS N (lL h0 p) (lL h (p.map (qd N)))
 |[]=>hh
 |(i,id,o)::r=>by
  simp only[DE,qd,lL];exact(F9 hh r).set id (some o)
theorem WN(m:Nat)(p:eS):iC m (p.map (qd N))=(iC m p).map (qd N):=by
 unfold iC
 induction p with
 |nil=>rfl
 |cons q p ih=>
  simp only[DE,ZL,ih,qd]
  split<;>rfl
theorem Ga(d:DV):je (some (sh N d))=(je (some d)).map (·+N):=by
 cases d with
 |v x=>
  rw[bJ];unfold bM
  split<;>first|rfl|skip
  rename_i h1 h2 h3;simp only[je,mB]
  split
  . rename_i a he;cases he;exact absurd rfl (h1 _)
  . rename_i a _ _ he;cases he;exact absurd rfl (h2 _ _ _)
  . rename_i a he;cases he;exact absurd rfl (h3 _)
  . rfl
 |agg l=>rw[jN];rfl
 |bb l=>rw[jf];rfl
 |fn f a c=>rw[oM];rfl
 |sl k xs=>rw[lO];rfl
 |ptr xs o=>rw[mD];rfl
theorem Gb{t0 t:Tr DV}(ht:TS N t0 t){h0:ab}{op:Op}{r:DV}(hd:aS e.aT h0 t0 op=some r):dA e t op=(dA e.aT t0 op).map (·+N):=by
 have one:∀(x:Operand),aB e.aT t0 x≠none->je (aB e t x)=(je (aB e.aT t0 x)).map (·+N):=λx hx=>by
  cases hq:aB e.aT t0 x with
  |none=>exact absurd hq hx
  |some d=>rw[dL ht hq];exact Ga d
 cases op with
 |load ty a=>
  obtain⟨d,h1,_⟩:=VK.1 hd;exact one a (by simp[h1])
 |convert s d x=>
  obtain⟨d,h1,_⟩:=VK.1 hd;exact one x (by simp[h1])
 |lookup ty m k ok=>
  simp only[aS,fI]at hd
  split at hd
  . rename_i h1 h2;exact one m (by simp[h1])
  . cases hd
 |slice ty x lo hi mx=>
  refine one x ?_;intro h1;simp only[aS,h1]at hd;simp[dz]at hd
 |call c=>
  simp only[dA];cases hq:cz e.aT t0 c.args.toList with
  |some l=>
   rw[nF ht hq]
   match l with
   |[]=>rfl
   |[x]=>exact Ga x
   |_::_::_=>rfl
  |none=>
   exfalso;simp only[aS]at hd
   split at hd
   . rw[hq]at hd;simp[oI]at hd
   . rw[hq]at hd;simp at hd
   . rw[hq]at hd;simp at hd
   . cases hd
 |_=>rfl
theorem WO{N0:Nat}{T:List Nat}{b:Option Nat}(h:gP N0 T b=true):rF (N0+N) (T.map (·+N)) (b.map (·+N)):=by
 cases b with
 |none=>trivial
 |some b=>
  simp only[gP,Bool.and_eq_true,Bool.not_eq_true',List.contains_eq_mem,decide_eq_false_iff_not]at h;refine⟨by have:=Z4 h.1;show b+N<_;omega,λhm=> ?_⟩;obtain⟨a,h1,h2⟩:=W2.1 hm;have:a=b:=by simp only at h2;omega
  subst this;exact h.2 h1
def xP(N:Nat)(q:Nat×Nat):Nat×Nat:=(q.1+N,q.2)
theorem WS(dy:Option (Nat×Nat))(b:Option Nat)(L:List (Nat×Nat)):ki dy (b.map (·+N)) (L.map (xP N))=(ki dy b L).map (xP N):=by
 cases dy<;>cases b<;>rfl
theorem oQ{cf:iG}(aa:rK e N true cf){ops:List Oper}{N0:Nat}:∀{r:List Oper} {pl:List PJ} {i id c:Nat} {t0 t:Tr DV} {n:Nat} {dd:List FuncId} {h0 h:ab} {aq:eS} {T:List Nat} {L:List (Nat×Nat)} {s1:DS},HS N h0 h->TS N t0 t->
 mF e.aT cf ops N0 r pl i id c t0 n dd h0 aq T L=some s1->∀(K:DS->Prop),(∀t' h',TS N s1.t t'->HS N s1.h h'->K ⟨t',s1.n,s1.dd,h'⟩)->cQ e ops (N0+N) r pl i (id+N) c t n dd h (aq.map (qd N)) (T.map (·+N)) (L.map (xP N)) K
 |[],pl,i,id,c,t0,t,n,dd,h0,h,aq,T,L,s1,hh,ht,hd,K,hk=>by
  simp only[mF,qe]at hd;subst hd;cases pl<;>exact hk t _ ht (F9 hh aq)
 |o::r,[],i,id,c,t0,t,n,dd,h0,h,aq,T,L,s1,hh,ht,hd,K,hk=>by cases hd
 |o::r,p::pl,i,id,c,t0,t,n,dd,h0,h,aq,T,L,s1,hh,ht,hd,K,hk=>by
  simp only[mF]at hd;obtain⟨hs,hd⟩:=bU hd;have ao:id+N+1=id+1+N:=by omega
  refine⟨F7 hs, ?_⟩
  split at hd
  . cases hd
  . rename_i hw;refine⟨true,xJ ht hw, ?_⟩;obtain⟨pc,pm,av,ai⟩:=p;cases pc with
    |pure=>
     simp only at hd⊢
     split at hd
     . cases hd
     . rename_i v hv;exact⟨_,A9 hh ht hv,oQ aa hh (ht.put _ _) hd K hk⟩
    |read=>
     simp only at hd⊢
     split at hd
     . cases hd
     . rename_i v hv;obtain⟨hb,hd⟩:=bU hd;have aw:∃r,aS e.aT (ff h0 pm aq) t0 o.op=some r:=by
        unfold jh at hv
        split at hv
        . cases hv
        . rename_i r hr;exact⟨r,hr⟩
       obtain⟨r',hr⟩:=aw;refine⟨_,A9 (xO hh pm aq) ht hv,λho=> ?_, ?_⟩
       . rw[Gb ht hr];subst ho;exact WO (by simpa using hb)
       . rw[Gb ht hr,WS];exact oQ aa hh (ht.put _ _) hd K hk
    |alloc=>
     simp only at hd⊢;obtain⟨hg,hd⟩:=bU hd
     split at hd
     . cases hd
     . rename_i ob f ha;obtain⟨f',q1,q2⟩:=FI (e:=e) (N:=N) ht hg ha;refine⟨_,q1, ?_⟩;simp only;rw[q2,ao];exact oQ aa hh (ht.put _ _) hd K hk
    |effect=>
     simp only at hd⊢
     split at hd
     . cases hd
     . rename_i v ad h' T' ho;rw[FW]at ho;obtain⟨hl,hd⟩:=bU hd;refine F6 aa (xO hh pm aq) ht ho _ λh2 q T2 hT=>⟨?_, ?_⟩
       . rw[hT rfl];intro x hx hc hm;obtain⟨y,h1,rfl⟩:=W2.1 hx;obtain⟨z,h3,h4⟩:=W2.1 hm;simp only[ZJ]at hl;have:=hl y h1;have e1:z=y.1:=by simp only[xP]at h4;omega
         subst e1;have e2:Qc (c+1) y.2=true:=Nat.ble_eq_true_of_le hc;simp[e2,h3]at this
       . rw[hT rfl,WN,<-PX];exact oQ aa q (ht.put _ _) hd K hk
    |bad=>cases hd
  . rename_i hw;refine⟨false,xJ ht hw, ?_⟩;have hu:=ht.put o.dst cP;rw[F8]at hu;obtain⟨pc,pm,av,ai⟩:=p;cases pc with
    |alloc=>simp only at hd⊢;rw[ao];exact oQ aa hh hu hd K hk
    |effect=>simp only at hd⊢;exact oQ aa hh hu hd K hk
    |bad=>cases hd
    |pure=>simp only at hd⊢;exact oQ aa hh hu hd K hk
    |read=>simp only at hd⊢;exact oQ aa hh hu hd K hk
end Go.au
end

/- SpacingSuffixes: parts of its proof (DvN DvO). -/
import Derived.Test.YtaheljlbchkpcaaGreatDoorK22
set_option linter.unusedVariables false
set_option linter.unusedSimpArgs false
noncomputable section
namespace Go.aw
variable {e:Env} {N:Nat} {t0 t:Tr DV} {h0 h:ab}
def xk(e:Env):Op->Bool
 |.alloc ty=>oM e ty
 |.buildSlice st _ _=>match e.under st with|some (.slice el)=>oM e el|_=>false
 |.makeSlice st _ _=>match e.under st with|some (.slice el)=>oM e el|_=>false
 |_=>true
theorem Hk{zs:List Value}{n:Nat}(h:zs.all jq=true):(fu zs n).all jq=true:=by
 simp only[List.all_eq_true]at h⊢;intro x hx;simp only[fu,List.mem_map,List.mem_range]at hx;obtain⟨i,_,rfl⟩:=hx;cases hq:zs[i%zs.length]? with
 |none=>rfl
 |some y=>exact h y (List.mem_of_getElem? hq)
theorem CA{ty:TypeId}{z:Value}(h:oM e ty=true)(hz:e.zero ty=some z):z.cells.toList.all jq=true:=by
 unfold oM at h;rw[hz]at h;exact h
theorem Hl(ht:TS N t0 t){op:Op}{o:bF}{f:Nat->DV}(hg:xk e op=true)(hd:dY e.aU t0 op=some (o,f)):∃f',dY e t op=some (gx N o,f')/\∀i,f' (i+N)=sh N (f i):=by
 have h1:e.aU.zero=e.zero:=rfl;have h2:e.aU.under=e.under:=rfl;have h3:e.aU.size=e.size:=rfl;have h4:e.aU.bytes=e.bytes:=rfl;have hp:∀i,(DV.v (.pointer (some ⟨i+N,0,none⟩)))=sh N (DV.v (.pointer (some ⟨i,0,none⟩))):=λi=>by simp only[bR,bU,eP]
 have hs:∀i a b,(DV.v (.slice (some ⟨i+N,0,none⟩) a b))=sh N (DV.v (.slice (some ⟨i,0,none⟩) a b)):=λi a b=>by simp only[bR,bU,eP]
 cases op with
 |alloc ty=>
  simp only[dY]at hd⊢;rw[h1]at hd
  split at hd
  . cases hd
  . rename_i z hz;simp only[Option.some.injEq,Prod.mk.injEq]at hd;obtain⟨rfl,rfl⟩:=hd;refine⟨λi=>.v (.pointer (some ⟨i,0,none⟩)), ?_,hp⟩;simp only[gx,uR (CA hg hz)]
 |box ty x=>
  simp only[dY]at hd⊢
  split at hd
  . cases hd
  . rename_i d hx;rw[ee ht hx];simp only[Cu,xi]
    split at hd
    . simp only[Option.some.injEq,Prod.mk.injEq]at hd;obtain⟨rfl,rfl⟩:=hd;rename_i hb;exact⟨λi=>.v (.pointer (some ⟨i,0,none⟩)),if_pos hb,hp⟩
    . cases hd
 |buildSlice st n parts=>
  simp only[dY]at hd⊢;rw[h2]at hd
  split at hd
  . rename_i elem ps hu au;simp only[xk,hu]at hg;rw[Cv ht au];rw[h3,h1]at hd;simp only[hu]
    split at hd
    . rename_i s z av hz
      split at hd
      . rename_i hc;rw[if_pos hc]
        split at hd
        . cases hd
        . rename_i cs hf;simp only[Option.some.injEq,Prod.mk.injEq]at hd;obtain⟨rfl,rfl⟩:=hd;have:=ze (N:=N) hf;rw[uR (Hk (CA hg hz))]at this;rw[this];exact⟨_,rfl,λi=>hs i _ _⟩
      . cases hd
    . cases hd
  . cases hd
 |makeMap ty x=>
  cases x with
  |none=>
   simp only[dY,Option.some.injEq,Prod.mk.injEq]at hd⊢;obtain⟨rfl,rfl⟩:=hd;exact⟨_,⟨rfl,rfl⟩,λi=>by simp only[bR,bU]⟩
  |some x=>cases hd
 |makeSlice st l c=>
  simp only[dY]at hd⊢;rw[h2]at hd;have hi:∀(x:Operand) (n:Int),(aB e.aU t0 x).bind exact=some (.int .i64 n)->(aB e t x).bind exact=some (.int .i64 n):=λx n hx=>by
   obtain⟨d,q1,q2⟩:=Option.bind_eq_some_iff.1 hx;rw[ee ht q1];cases d with
   |v w=>simp only[exact,Option.some.injEq]at q2;subst q2;simp only[bR,bU];rfl
   |agg l=>simp[exact]at q2
   |_=>simp[exact]at q2
  split at hd
  . rename_i elem l' c' hu hl hc;simp only[xk,hu]at hg;rw[hi _ _ hl,hi _ _ hc];rw[h3,h1,h4]at hd;simp only[hu]
    split at hd
    . rename_i s z b av hz hb
      split at hd
      . rename_i hc;rw[if_pos hc];simp only[Option.some.injEq,Prod.mk.injEq]at hd;obtain⟨rfl,rfl⟩:=hd;refine⟨λi=>.v (.slice (some ⟨i,0,none⟩) l'.toNat c'.toNat), ?_,λi=>hs i _ _⟩;simp only[gx,uR (Hk (CA hg hz))]
      . cases hd
    . cases hd
  . cases hd
 |_=>cases hd
theorem Zv(hh:HS N h0 h){ty:TypeId}{p d:Option DV}{h1:ab}{b:Nat}(hd:ma e.aU h0 ty p d=some (h1,b)):∃h',ma e h ty (p.map (sh N)) (d.map (sh N))=some (h',b+N)/\HS N h1 h':=by
 have h3:e.aU.size=e.size:=rfl;unfold ma at hd
 split at hd
 . rename_i b' o d;rw[h3]at hd
   split at hd
   . rename_i cs ah n hg hs
     split at hd
     . rename_i hc;simp only[Option.some.injEq,Prod.mk.injEq]at hd;obtain⟨rfl,rfl⟩:=hd;refine⟨_, ?_,HS.set hh _ _⟩;simp only[Option.map_some,bR,bU,eP,ma,hh.row hg,hs,Cu,List.length_map,xi];rw[if_pos hc];simp only[gx,List.map_append,List.map_take,List.map_drop]
     . cases hd
   . cases hd
 . cases hd
theorem CB{P:Program}{kt:TypeId}{k:Value}:∀{es:List bA} {r:Option Nat} (i:Nat),nu P kt k es i=some r->nu P kt k (es.map (gj N)) i=some r
 |[],r,i,h=>h
 |x::es,r,i,h=>by
  simp only[nu]at h;simp only[List.map_cons,nu];have:(gj N x).key=x.key:=rfl;rw[this]
  split at h
  . cases h
  . exact h
  . exact CB (i+1) h
theorem Zw{es:List bA}{k:Value}{d:DV}(i:Nat):(es.modify i λx=>{x with key:=k,val:=d}).map (gj N)=(es.map (gj N)).modify i λx=>{x with key:=k,val:=sh N d}:=by
 induction es generalizing i with
 |nil=>cases i<;>rfl
 |cons x es ih=>cases i with
  |zero=>rfl
  |succ i=>simp only[List.modify_succ_cons,List.map_cons,ih]
theorem Zx{ty:TypeId}{k:Value}{d:DV}{es:List bA}{clock:Nat}{o:bF}(hd:kT e.aU ty k d es clock=some o):kT e ty k (sh N d) (es.map (gj N)) clock=some (gx N o):=by
 unfold kT at hd;have hu:e.aU.under=e.under:=rfl;have hP:e.aU.P=e.P:=rfl;rw[hu,hP]at hd;unfold kT
 split at hd
 . rename_i kt et h1
   split at hd
   . cases hd
   . rename_i kd h2
     split at hd
     . rename_i hc;rw[if_pos hc]
       split at hd
       . cases hd
       . rename_i i h3;rw[CB 0 h3];have:((es.map (gj N))[i]?).map (·.key)=(es[i]?).map (·.key):=by
          rw[List.getElem?_map,Option.map_map];rfl
         simp only[this]
         split at hd
         . rename_i hs;rw[if_pos hs];cases hd;simp only[gx,Zw]
         . cases hd
       . rename_i h3;rw[CB 0 h3];cases hd;simp only[gx,List.map_append,List.map_cons,List.map_nil,gj]
     . cases hd
 . cases hd
theorem Zy(hh:HS N h0 h){ty:TypeId}{m k d:Option DV}{h1:ab}{b:Nat}(hk:jr k=true)(hd:jL e.aU h0 ty m k d=some (h1,b)):∃h',jL e h ty (m.map (sh N)) (k.map (sh N)) (d.map (sh N))=some (h',b+N)/\HS N h1 h':=by
 unfold jL at hd
 split at hd
 . rename_i r k d
   split at hd
   . rename_i es clock kv hg ay;simp only[Option.map_eq_some_iff]at hd;obtain⟨o,h4,h5⟩:=hd;simp only[Prod.mk.injEq]at h5;obtain⟨rfl,rfl⟩:=h5;refine⟨_, ?_,HS.set hh _ _⟩;have hk:dD k=true:=hk;simp only[Option.map_some,gL hk,bR,bU,jL,hh.mp hg,ay,Zx h4]
   . cases hd
 . cases hd
theorem Zz(hh:HS N h0 h){base:Option Addr}{len cap sz b n:Nat}{new:List DV}{d:DV}{h1:ab}{T:List Nat}(hd:eW h0 base len cap sz b n new=some (d,h1,T)):
 ∃h',eW h (base.map (eP N)) len cap sz b n (new.map (sh N))=some (sh N d,h',T.map (·+N))/\HS N h1 h':=by
 unfold eW at hd
 split at hd
 . rename_i hle
   split at hd
   . rename_i hn;simp only[Option.some.injEq,Prod.mk.injEq]at hd;obtain⟨rfl,rfl,rfl⟩:=hd;refine⟨h, ?_,hh⟩;unfold eW;rw[if_pos hle,if_pos hn];cases base<;>simp only[Option.map_none,Option.map_some,bR,bU,List.map_nil]
   . rename_i hn
     split at hd
     . rename_i i o
       split at hd
       . rename_i cs ah hg
         split at hd
         . rename_i hc;simp only[Option.some.injEq,Prod.mk.injEq]at hd;obtain⟨rfl,rfl,rfl⟩:=hd;refine⟨_, ?_,HS.set hh _ _⟩;unfold eW;rw[if_pos hle,if_neg hn];simp only[Option.map_some,eP,hh.row hg,List.length_map,xi];rw[if_pos hc];simp only[bR,bU,eP,gx,List.map_append,List.map_take,List.map_drop,List.map_cons,List.map_nil]
         . cases hd
       . cases hd
     . cases hd
 . rename_i hle
   split at hd
   . rename_i hb
     split at hd
     . split at hd
       . rename_i hc;simp only[Option.some.injEq,Prod.mk.injEq]at hd;obtain⟨rfl,rfl,rfl⟩:=hd;refine⟨_, ?_,HS.new hh _⟩;unfold eW;rw[if_neg hle,if_pos hb];simp only[Option.map_none];rw[if_pos hc];simp only[bR,bU,eP,gx,hh.next,List.map_nil]
       . cases hd
     . rename_i i o
       split at hd
       . rename_i cs wr ah hg
         split at hd
         . rename_i hl
           split at hd
           . rename_i hc;simp only[Option.some.injEq,Prod.mk.injEq]at hd;obtain⟨rfl,rfl,rfl⟩:=hd;refine⟨_, ?_,HS.new hh _⟩;unfold eW;rw[if_neg hle,if_pos hb];simp only[Option.map_some,eP,hh.row hg,List.length_map];rw[if_pos hl,if_pos hc];simp only[bR,bU,eP,gx,hh.next,List.map_append,List.map_take,List.map_drop,List.map_nil]
           . rename_i hc
             split at hd
             . rename_i az;simp only[Option.some.injEq,Prod.mk.injEq]at hd;obtain⟨rfl,rfl,rfl⟩:=hd;refine⟨_, ?_,HS.new (HS.set hh i none) _⟩;unfold eW;rw[if_neg hle,if_pos hb];simp only[Option.map_some,eP,hh.row hg,List.length_map,xi];rw[if_pos hl,if_neg hc,if_pos az];simp only[bR,bU,eP,gx,hh.next,List.map_append,List.map_take,List.map_drop,List.map_nil,List.map_cons,Option.map_none]
             . cases hd
         . cases hd
       . cases hd
     . cases hd
   . cases hd
theorem ZA(hh:HS N h0 h){ae:Array TypeId}{ds:Option (List DV)}{d:DV}{h1:ab}{T:List Nat}(hd:kU e.aU h0 ae ds=some (d,h1,T)):
 ∃h',kU e h ae (ds.map λl=>l.map (sh N))=some (sh N d,h',T.map (·+N))/\HS N h1 h':=by
 have ha:e.aU.ap=e.ap:=rfl;have he:e.aU.elem=e.elem:=rfl;unfold kU at hd
 split at hd
 . rename_i base len cap x
   split at hd
   . rename_i st xt h2 h3;rw[ha,he]at hd
     split at hd
     . rename_i sz b u h4 h5
       split at hd
       . rename_i n new h6;obtain⟨h',q1,q2⟩:=Zz hh hd;refine⟨h', ?_,q2⟩;have:∃aa,sh N (.v (.slice base len cap))=.v (.slice aa len cap)/\aa=base.map (eP N):=by
          cases base
          . exact⟨_,by simp only[bR,bU];rfl,rfl⟩
          . exact⟨_,by simp only[bR,bU];rfl,rfl⟩
         obtain⟨aa,q3,q4⟩:=this;subst q4;simp only[Option.map_some,List.map_cons,List.map_nil,q3,kU,h2,h3,h4,h5,Hf hh h6];exact q1
       . cases hd
     . cases hd
   . cases hd
 . cases hd
theorem ZB(hh:HS N h0 h){ty:TypeId}{x:DV}{o:bF}(hd:mb e.aU h0 ty x=some o):mb e h ty (sh N x)=some (gx N o):=by
 have hu:e.aU.under=e.under:=rfl;unfold mb at hd;rw[hu]at hd
 split at hd
 . rename_i h1;cases hd;simp only[bR,bU,mb,h1,gx]
 . rename_i h1;cases hd;simp only[bR,bU,mb,h1,gx,Option.map_none]
 . rename_i h1
   split at hd
   . rename_i hg;cases hd;simp only[bR,bU,mb,h1,hh.mp hg,gx,Option.map_some]
   . cases hd
 . cases hd
def Hm:DV->Bool
 |.bg [_,k,_]=>dD k
 |_=>true
theorem zg{f:bA->Bool}(hf:∀x,f (gj N x)=f x)(es:List bA):(es.map (gj N)).filter f=(es.filter f).map (gj N):=by
 induction es with
 |nil=>rfl
 |cons x es ih=>
  simp only[List.map_cons,List.filter_cons,hf x,ih]
  split<;>rfl
theorem ZC(hh:HS N h0 h){it v:DV}{s:Bool}{h1:ab}{r:Nat}(hn:Hm v=true)(hd:kV h0 it s=some (v,h1,r)):∃h',kV h (sh N it) s=some (sh N v,h',r+N)/\HS N h1 h':=by
 unfold kV at hd
 split at hd
 . rename_i b
   split at hd
   . rename_i st pos hg;have ad:h.get (b+N)=some (.e8 st pos):=by rw[hh.get,hg];rfl
     split at hd
     . rename_i hc;simp only[Option.some.injEq,Prod.mk.injEq]at hd;obtain⟨rfl,rfl,rfl⟩:=hd;refine⟨_, ?_,HS.set hh _ _⟩;simp only[bR,bU,eP,kV,ad];rw[if_pos hc];simp only[jP,List.map_cons,List.map_nil,bR,bU,gx,Option.map_some]
     . rename_i hc;simp only[Option.some.injEq,Prod.mk.injEq]at hd;obtain⟨rfl,rfl,rfl⟩:=hd;refine⟨h, ?_,hh⟩;simp only[bR,bU,eP,kV,ad];rw[if_neg hc];simp only[jP,List.map_cons,List.map_nil,bR,bU]
   . rename_i a b' c hg;simp only[Option.some.injEq,Prod.mk.injEq]at hd;obtain⟨rfl,rfl,rfl⟩:=hd;have ad:h.get (b+N)=some (.cD none a b' c):=by rw[hh.get,hg];rfl
     refine⟨h, ?_,hh⟩;simp only[bR,bU,eP,kV,ad,jP,List.map_cons,List.map_nil]
   . rename_i m since seen last hg;have ad:h.get (b+N)=some (.cD (some (m+N)) since seen last):=by rw[hh.get,hg];rfl
     split at hd
     . rename_i es clock hm
       split at hd
       . cases hd
       . rename_i hc;have af:¬(!seen.isEmpty&& !(es.map (gj N)).isEmpty&&(es.map (gj N)).all λx=>Nat.ble last x.born)=true:=by
          have h1:(es.map (gj N)).isEmpty=es.isEmpty:=by cases es<;>rfl
          have h2:((es.map (gj N)).all λx=>Nat.ble last x.born)=es.all λx=>Nat.ble last x.born:=by rw[List.all_map];rfl
          rw[h1,h2];exact hc
         have ai:((es.map (gj N)).filter λx=> !seen.contains x.born).filter (λx=>decide (x.born<since))=((es.filter λx=> !seen.contains x.born).filter λx=>decide (x.born<since)).map (gj N):=by
          rw[zg (λx=>rfl),zg (λx=>rfl)]
         have ao:((es.map (gj N)).filter λx=> !seen.contains x.born).filter (λx=>decide (x.born>=since))=((es.filter λx=> !seen.contains x.born).filter λx=>decide (x.born>=since)).map (gj N):=by
          rw[zg (λx=>rfl),zg (λx=>rfl)]
         split at hd
         . rename_i e1 e2;simp only[Option.some.injEq,Prod.mk.injEq]at hd;obtain⟨rfl,rfl,rfl⟩:=hd;refine⟨h, ?_,hh⟩;simp only[bR,bU,eP,kV,ad,hh.mp hm];rw[if_neg af,ai,ao,e1,e2];simp only[jP,List.map_cons,List.map_nil,bR,bU]
         . rename_i x e1 e2;simp only[Option.some.injEq,Prod.mk.injEq]at hd;obtain⟨rfl,rfl,rfl⟩:=hd;refine⟨_, ?_,HS.set hh _ _⟩;simp only[bR,bU,eP,kV,ad,hh.mp hm];rw[if_neg af,ai,ao,e1,e2];have hk:dD (fX x.key)=true:=hn;have aD:fX (gj N x).key=sh N (fX x.key):=(gL hk).symm;simp only[jP,List.map_cons,List.map_nil,bR,bU,aD,gx,Option.map_some];rfl
         . cases hd
     . cases hd
   . cases hd
 . cases hd
end Go.aw
end
noncomputable section
namespace Go.aw
abbrev ZD:=FuncId->List DV->ab->Option (DV×ab)
abbrev js:=FuncId->List DV->ab->Option (DV×ab×List Nat)
def jR(e:Env)(h:ab)(t:Tr DV)(op:Op):Option DV:=match aT e h t op with
 |none=>none
 |some r=>bif jQ e t op r then some r else none
def oN(e:Env)(t:Tr DV)(dd:List FuncId)(h:ab)(op:Op):Option (DV×List FuncId×ab×List Nat):=
 bif xk e op then match dY e t op with
  |none=>none
  |some (o,f)=>some (f h.next,dd,h.new o,[])
 else none
def zh(e:Env)(t:Tr DV)(dd:List FuncId)(h:ab)(ty:TypeId)(m k v:Operand):Option (DV×List FuncId×ab×List Nat):=
 bif jr (aB e t k)then match jL e h ty (aB e t m) (aB e t k) (aB e t v)with
  |none=>none
  |some (h,b)=>some (dj,dd,h,[b])
 else none
def p9(e:Env)(cf:js)(op:Op)(t:Tr DV)(dd:List FuncId)(h:ab):Option (DV×List FuncId×ab×List Nat):=
 match op with
 |.alloc ty=>oN e t dd h (.alloc ty)
 |.box ty x=>oN e t dd h (.box ty x)
 |.buildSlice ty n ps=>oN e t dd h (.buildSlice ty n ps)
 |.makeMap ty n=>oN e t dd h (.makeMap ty n)
 |.makeSlice ty l c=>oN e t dd h (.makeSlice ty l c)
 |.store ty a x=>match ma e h ty (aB e t a) (aB e t x)with
  |none=>none
  |some (h,b)=>some (dj,dd,h,[b])
 |.mapUpdate ty m k v=>zh e t dd h ty m k v
 |.insert ty m k v=>zh e t dd h ty m k v
 |.range ty x=>match(aB e t x).bind (mb e h ty)with
  |none=>none
  |some o=>some (.v (.pointer (some ⟨h.next,0,none⟩)),dd,h.new o,[])
 |.next it s=>match(aB e t it).bind (kV h · s)with
  |none=>none
  |some (v,h,r)=>bif Hm v then some (v,dd,h,[r])else none
 |.defer c=>match c.callee with
  |.value f=>match jM (aB e t f) (cO e t c.args.toList)with
   |none=>none
   |some (g,_)=>some (dj,g::dd,h,[])
  |_=>none
 |.call c=>match c.callee with
  |.value f=>match jM (aB e t f) (cO e t c.args.toList)with
   |none=>none
   |some (g,l)=>match cf g l h with
    |none=>none
    |some (v,h,T)=>some (v,dd,h,T)
  |.builtin .append=>match kU e h c.argTypes (cO e t c.args.toList)with
   |none=>none
   |some (v,h,T)=>some (v,dd,h,T)
  |_=>match jR e h t (.call c)with
   |none=>none
   |some v=>some (v,dd,h,[])
 |op=>match jR e h t op with
  |none=>none
  |some v=>some (v,dd,h,[])
def fin(dd:List FuncId)(h:ab):Option DV->Option (DV×List FuncId×ab×List Nat)
 |none=>none
 |some v=>some (v,dd,h,[])
def uS(b:DV->Bool):Option DV->Option DV
 |none=>none
 |some r=>bif b r then some r else none
def ZE(e:Env)(t:Tr DV)(c a b:Operand):Option DV:=ri (aB e t c) (aB e t a) (aB e t b)
def Hn(e:Env)(t:Tr DV)(ty:TypeId)(ps:Array (Nat×Operand)):Option DV:=bif oM e ty then(match fY e t ps.toList with|none=>none|some l=>eV e ty l)else none
def Ho(e:Env)(t:Tr DV)(o:UnOp)(x:Operand):Option DV:=match aB e t x with
 |none=>none
 |some a=>bif dD a then uS dD (l7 (oy e o) a)else none
def ZF(e:Env)(t:Tr DV)(dd:List FuncId)(h:ab)(cf:js)(f:Operand)(avs:Array Operand):Option (DV×List FuncId×ab×List Nat):=match jM (aB e t f) (cO e t avs.toList)with
 |none=>none
 |some (g,l)=>match cf g l h with
  |none=>none
  |some (v,h,T)=>some (v,dd,h,T)
def ZG(e:Env)(t:Tr DV)(dd:List FuncId)(h:ab)(cf:js)(c:Call):Option (DV×List FuncId×ab×List Nat):=match c.callee with
 |.value f=>ZF e t dd h cf f c.args
 |.builtin .append=>(match kU e h c.argTypes (cO e t c.args.toList)with
  |none=>none
  |some (v,h,T)=>some (v,dd,h,T))
 |_=>fin dd h (jR e h t (.call c))
def ZH(e:Env)(t:Tr DV)(dd:List FuncId)(h:ab)(ty:TypeId)(a x:Operand):Option (DV×List FuncId×ab×List Nat):=match ma e h ty (aB e t a) (aB e t x)with
 |none=>none
 |some (h,b)=>some (dj,dd,h,[b])
def nE:Operand->Env->Tr DV->Option DV
 |.tmp i=>λ_ t=>t.get i
 |.const v=>λ_ _=>bif plain v then some (fX v)else none
 |.global g=>λe _=>bif Nat.blt g e.px then(if g=0 then some (.ptr qY 0)else none)else none
 |.func f=>λ_ _=>some (.fn f [] [])
theorem qa(o:Operand)(e:Env)(t:Tr DV):nE o e t=aB e t o:=by cases o<;>rfl
abbrev ky:=Env->js->Tr DV->List FuncId->ab->Option (DV×List FuncId×ab×List Nat)
def zi(x:Operand):ky:=λe _ t dd h=>fin dd h (nE x e t)
def ZI(c a b:Operand):ky:=λe _ t dd h=>fin dd h (ZE e t c a b)
def ZJ(ty:TypeId)(ps:Array (Nat×Operand)):ky:=λe _ t dd h=>fin dd h (Hn e t ty ps)
def Hp(ty:TypeId)(a:Operand):ky:=λe _ t dd h=>match nE a e t with|none=>none|some d=>fin dd h (jl e h ty d)
def Hq(a:Operand):ky:=λe _ t dd h=>match nE a e t with|none=>none|some d=>fin dd h (lD d)
def Hr(o:BinOp)(ty:TypeId)(x y:Operand):ky:=λe _ t dd h=>match nE x e t with
 |none=>none
 |some a=>match nE y e t with
  |none=>none
  |some b=>bif dD a&&dD b then fin dd h (uS dD (jK e o ty x y a b))else none
def ZK(o:UnOp)(x:Operand):ky:=λe _ t dd h=>fin dd h (Ho e t o x)
def Hs(s:TypeId)(x:Operand)(f:Nat):ky:=λe _ t dd h=>match nE x e t with|none=>none|some d=>fin dd h (kR e s f d)
def Ht(s:TypeId)(x:Operand)(f:Nat):ky:=λe _ t dd h=>match nE x e t with|none=>none|some d=>fin dd h (qZ e s f d)
def Hu(ty:TypeId)(x ix:Operand):ky:=λe _ t dd h=>match nE x e t with
 |none=>none
 |some a=>match nE ix e t with
  |none=>none
  |some b=>fin dd h (iQ e ty a (gr b))
def Hv(x:Operand)(i:Nat):ky:=λe _ t dd h=>match nE x e t with
 |none=>none
 |some d=>fin dd h (uS (λr=> !isVal (some d)||dD r) (mC i d))
def ZL(ty:TypeId)(a x:Operand):ky:=λe _ t dd h=>ZH e t dd h ty a x
def ZM(c:Call):ky:=λe cf t dd h=>ZG e t dd h cf c
def Hw(op:Op):ky:=λe _ t dd h=>oN e t dd h op
def ZN(op:Op):ky:=λe cf t dd h=>p9 e cf op t dd h
def mK(op:Op):ky:=
 match op with
 |.move x=>zi x
 |.assign x=>zi x
 |.pick c a b=>ZI c a b
 |.build ty ps=>ZJ ty ps
 |.load ty a=>Hp ty a
 |.nilCheck a=>Hq a
 |.binOp o ty x y _=>Hr o ty x y
 |.unOp o _ x=>ZK o x
 |.fieldAddr s x f=>Hs s x f
 |.field s x f=>Ht s x f
 |.indexAddr ty x ix=>Hu ty x ix
 |.extract x i=>Hv x i
 |.store ty a x=>ZL ty a x
 |.call c=>ZM c
 |.alloc ty=>Hw (.alloc ty)
 |.box ty x=>Hw (.box ty x)
 |op=>ZN op
def mg(e:Env)(cf:js)(op:Op)(t:Tr DV)(dd:List FuncId)(h:ab):Option (DV×List FuncId×ab×List Nat):=mK op e cf t dd h
theorem Hx(e:Env)(cf:js)(op:Op)(t:Tr DV)(dd:List FuncId)(h:ab):mg e cf op t dd h=p9 e cf op t dd h:=by
 have key:∀op r,jR e h t op=r->(match jR e h t op with|none=>none|some v=>some (v,dd,h,([]:List Nat)))=fin dd h r:=λop r hr=>by subst hr;cases jR e h t op<;>rfl
 have ae:∀(x:Option DV),(match x with|none=>none|some r=>bif true then some r else none)=x:=λx=>by cases x<;>rfl
 cases op with
 |move x=>
  refine Eq.trans ?_ (key (.move x) _ (ae _)).symm;simp only[mg,mK,zi,qa,aT]
 |assign x=>
  refine Eq.trans ?_ (key (.assign x) _ (ae _)).symm;simp only[mg,mK,zi,qa,aT]
 |pick c a b=>exact(key (.pick c a b) _ (ae _)).symm
 |build ty ps=>
  refine(key (.build ty ps) _ ?_).symm;simp only[jR,aT,jQ,Hn];cases fY e t ps.toList<;>simp
  . cases eV e ty _<;>cases oM e ty<;>rfl
 |load ty a=>
  refine Eq.trans ?_ (key (.load ty a) _ (ae _)).symm;simp only[mg,mK,Hp,qa,aT];cases aB e t a<;>rfl
 |nilCheck a=>
  refine Eq.trans ?_ (key (.nilCheck a) _ (ae _)).symm;simp only[mg,mK,Hq,qa,aT];cases aB e t a<;>rfl
 |binOp o ty x y z=>
  refine Eq.trans ?_ (key (.binOp o ty x y z) _ rfl).symm;simp only[mg,mK,Hr,qa,jR,aT,jQ,gK];cases aB e t x<;>cases aB e t y<;>simp[jr,fin];rename_i a b;cases jK e o ty x y a b<;>cases dD a<;>cases dD b<;>simp[uS,fin]
 |unOp o ty x=>
  refine(key (.unOp o ty x) _ ?_).symm;simp only[jR,aT,jQ,Ho];cases aB e t x<;>simp[jr];rename_i a;cases l7 (oy e o) a<;>cases dD a<;>simp[uS]
 |fieldAddr s x f=>
  refine Eq.trans ?_ (key (.fieldAddr s x f) _ (ae _)).symm;simp only[mg,mK,Hs,qa,aT];cases aB e t x<;>rfl
 |field s x f=>
  refine Eq.trans ?_ (key (.field s x f) _ (ae _)).symm;simp only[mg,mK,Ht,qa,aT];cases aB e t x<;>rfl
 |indexAddr ty x ix=>
  refine Eq.trans ?_ (key (.indexAddr ty x ix) _ (ae _)).symm;simp only[mg,mK,Hu,qa,aT,gK];cases aB e t x<;>cases aB e t ix<;>rfl
 |extract x i=>
  refine Eq.trans ?_ (key (.extract x i) _ rfl).symm;simp only[mg,mK,Hv,qa,jR,aT,jQ];cases aB e t x<;>simp[fin];rename_i d;cases mC i d<;>simp[uS]
 |store ty a x=>rfl
 |call c=>
  obtain⟨callee,args,af⟩:=c;cases callee with
  |value f=>rfl
  |builtin b=>cases b<;>first|rfl|exact(key (.call ⟨.builtin _,args,af⟩) _ rfl).symm
  |invoke a b=>exact(key (.call ⟨.invoke a b,args,af⟩) _ rfl).symm
 |_=>rfl
def xm(dst:Option Tmp)(n:Nat):Bool:=match dst with
 |none=>true
 |some d=>Nat.blt d n
def ti(e:Env)(cf:js)(all:List Oper):List Oper->Tr DV->Nat->List FuncId->ab->Option DS
 |[],t,n,dd,h=>some ⟨t,n,dd,h⟩
 |o::r,t,n,dd,h=>bif xm o.dst n then match iS all t o with
  |none=>none
  |some true=>match mg e cf o.op t dd h with
   |none=>none
   |some (v,dd,h,_)=>ti e cf all r (cJ o.dst v t) n dd h
  |some false=>ti e cf all r (cJ o.dst dj t) n dd h
  else none
abbrev xn:=Tr DV->Nat->List FuncId->ab->Option DS
def ZO(ih:xn)(dst:Option Tmp)(n:Nat)(t:Tr DV):Option (DV×List FuncId×ab×List Nat)->Option DS
 |none=>none
 |some (v,dd,h,_)=>ih (cJ dst v t) n dd h
def CC(e:Env)(cf:js)(all:List Oper)(o:Oper)(ih:xn):xn:=λt n dd h=>bif xm o.dst n then match iS all t o with
 |none=>none
 |some true=>ZO ih o.dst n t (mK o.op e cf t dd h)
 |some false=>ih (cJ o.dst dj t) n dd h
 else none
def qR(e:Env)(cf:js)(all:List Oper)(l:List Oper):xn:=List.rec (motive:=λ_=>xn) (λt n dd h=>some ⟨t,n,dd,h⟩) (λo _ ih=>CC e cf all o ih) l
theorem Hy(e:Env)(cf:js)(all:List Oper):∀(l:List Oper) (t:Tr DV) (n:Nat) (dd:List FuncId) (h:ab),qR e cf all l t n dd h=ti e cf all l t n dd h
 |[],_,_,_,_=>rfl
 |o::r,t,n,dd,h=>by
  have ih:=Hy e cf all r;show CC e cf all o (qR e cf all r) t n dd h=_;unfold CC;simp only[ti];cases xm o.dst n<;>simp;cases iS all t o with
  |none=>rfl
  |some w=>cases w with
   |true=>
    simp only[mg];cases mK o.op e cf t dd h with
    |none=>rfl
    |some q=>exact ih _ _ _ _
   |false=>exact ih _ _ _ _
def iA(N0:Nat)(T:List Nat):Option Nat->Bool
 |none=>true
 |some b=>Nat.blt b N0&& !T.contains b
def nF(e:Env)(cf:js)(ops:List Oper)(N0:Nat):List Oper->List PJ->Nat->Nat->Nat->Tr DV->Nat->List FuncId->ab->fB->List Nat->List (Nat×Nat)->Option DS
 |[],_,_,_,_,t,n,dd,h,an,_,_=>some ⟨t,n,dd,mH h an⟩
 |_::_,[],_,_,_,_,_,_,_,_,_,_=>none
 |o::r,p::pl,i,id,c,t,n,dd,h,an,T,L=>bif xm o.dst n then match iS ops t o with
  |none=>none
  |some true=>match p.c with
   |.pure=>match jR e h t o.op with
    |none=>none
    |some v=>nF e cf ops N0 r pl (i+1) id c (cJ o.dst v t) n dd h an T L
   |.read=>match jR e (fP h p.m an) t o.op with
    |none=>none
    |some v=>bif !p.ba||iA N0 T (dN e t o.op)then nF e cf ops N0 r pl (i+1) id c (cJ o.dst v t) n dd h an T (kW p.dy (dN e t o.op) L)else none
   |.alloc=>bif xk e o.op then match dY e t o.op with
    |none=>none
    |some (ob,f)=>nF e cf ops N0 r pl (i+1) (id+1) c (cJ o.dst (f id) t) n dd h ((i,id,ob)::an) T L
    else none
   |.effect=>match mg e cf o.op t dd (fP h p.m an)with
    |none=>none
    |some (v,dd,h,T')=>bif L.all (λq=> !Nat.ble (c+1) q.2|| !T'.contains q.1)then nF e cf ops N0 r pl (i+1) id (c+1) (cJ o.dst v t) n dd h (jn p.m an) (T'++T) L else none
   |.bad=>none
  |some false=>match p.c with
   |.alloc=>nF e cf ops N0 r pl (i+1) (id+1) c (cJ o.dst dj t) n dd h an T L
   |.effect=>nF e cf ops N0 r pl (i+1) id (c+1) (cJ o.dst dj t) n dd h an T L
   |.bad=>none
   |_=>nF e cf ops N0 r pl (i+1) id c (cJ o.dst dj t) n dd h an T L
  else none
def Hz(oms:List ((Oper×Nat)×Nat)):Nat->List Nat->List Nat
 |0,acc=>acc
 |k+1,acc=>
  let more:=acc.flatMap λi=>match oms[i]? with
   |none=>[]
   |some ((o,_),_)=>match cls o.op with
    |.alloc=>[]
    |_=>(slotsOf o.op).flatMap λt=>(oms.filter λx=>match x.1.1.dst with|some d=>Nat.beq d t|none=>false).map (·.2)
  let new:=(more.filter λx=> !acc.contains x).eraseDups
  match new with
  |[]=>acc
  |_=>Hz oms k (acc++new)
def CD(ops:List Oper):List PJ:=
 let oms:=(ops.zip (bl ops)).zipIdx
 let ef:=j9 (ops.zip (bl ops)) 0
 let need:=Hz oms 60 ((oms.filter λx=>decide (cls x.1.1.op=.read)&&Nat.blt (ef.filter λp=>x.1.2.testBit p.1).length (ef.filter λp=> !p.2.testBit x.2).length).map (·.2))
 oms.map λx=>
  let lo:=(ef.filter λp=>x.1.2.testBit p.1).length
  let hi:=(ef.filter λp=> !p.2.testBit x.2).length
  ⟨cls x.1.1.op,x.1.2,(bif decide (cls x.1.1.op=.read)&&Nat.blt lo hi then some (lo,hi+1-lo)else none),need.contains x.2⟩
abbrev jS:=Code->DS->Option (bn×DS)
def oO(e:Env)(ev:jS):ZD:=λf args h=>match e.fn f with
 |none=>none
 |some fn=>match fn.body with
  |none=>none
  |some c=>match ev c ⟨iT args,args.length+(fn.ntmps-args.length),[],h⟩with
   |none=>none
   |some (.exit _,_)=>none
   |some (_,s)=>bif s.dd.all e.idle then match gw e s fn.results.toList with
    |none=>none
    |some l=>some (kp l,s.h)
    else none
def uT(h':ab):Nat->Nat->Tr bF->Tr bF
 |0,_,m=>m
 |k+1,i,m=>match h'.get i with
  |some o=>uT h' k (i+1) (m.set i (some o))
  |none=>uT h' k (i+1) m
def lI(h h':ab):ab:=⟨uT h' (h'.next-h.next) h.next h.m,h'.next⟩
def chunks(cs:List DV)(o k:Nat)(f:DV->DV):Nat->List (List DV)
 |0=>[]
 |n+1=>((cs.drop o).take k).map f::chunks cs (o+k) k f n
def tj(cs:List DV)(o c ah:Nat):Nat:=bif Nat.beq ah 0 then Nat.div (cs.length-o) c else ah
def xo(cs:List DV)(o n c k:Nat):Bool:=Nat.blt 0 k&&Nat.ble n c&&Nat.ble (o+n*k) cs.length
def HA(f:DV->DV)(d:DV)(o n c:Nat):Option bF->DV
 |some (.row cs _ ah)=>bif xo cs o n c (tj cs o c ah)then .sl (tj cs o c ah) (chunks cs o (tj cs o c ah) f n)else d
 |_=>d
def mL(h:ab):Nat->DV->DV
 |0,d=>d
 |m+1,d=>match d with
  |.v (.slice (some ⟨b,o,none⟩) n c)=>HA (mL h m) (.v (.slice (some ⟨b,o,none⟩) n c)) o n c (h.get b)
  |.agg l=>.agg (l.map (mL h m))
  |d=>d
def HB(h:ab):DV->Bool
 |.v (.slice (some a) _ _)=>(h.get a.block).isSome
 |_=>false
def HC(h:ab):DV->Bool
 |.v x=>HB h (.v x)
 |.agg l=>l.any (HB h)
 |_=>false
def CE(f:DV->List Nat)(b o n c:Nat):Option bF->List Nat
 |some (.row cs _ ah)=>bif xo cs o n c (tj cs o c ah)then b::cs.flatMap f else []
 |_=>[]
def rB(h:ab):Nat->DV->List Nat
 |0,_=>[]
 |m+1,d=>match d with
  |.v (.slice (some ⟨b,o,none⟩) n c)=>CE (rB h m) b o n c (h.get b)
  |.agg l=>l.flatMap (rB h m)
  |_=>[]
def CF:DV->Bool
 |.v u=>jq u
 |_=>false
def HD(h:ab)(v:DV)(h':ab)(l:List Nat):Option (DV×ab×List Nat):=some (v,lI (gb h l) h',l)
def CG(args:List DV)(h:ab):Option (DV×ab)->Option (DV×ab×List Nat)
 |none=>none
 |some (v,h')=>bif CF v then some (v,h.up h'.next,[])else HD h v h' (args.flatMap (rB h 4))
def CI(h:ab):Option (DV×ab)->Option (DV×ab×List Nat)
 |none=>none
 |some (v,h')=>some (v,lI h h',[])
def xp(e:Env)(ev:jS):js:=λf args h=>bif args.any (HC h)then CG args h (oO e ev f (args.map (mL h 4)) ⟨.nil,h.next⟩)else CI h (oO e ev f args ⟨.nil,h.next⟩)
def HE:Option (DV×ab)->Option (DV×ab×List Nat)
 |none=>none
 |some (v,h)=>some (v,h,[])
def xq(e:Env)(ev:jS):js:=λf args h=>HE (oO e ev f args h)
def HF(e:Env)(ev:jS)(l:List Oper)(draw:Bool)(s:DS):Option DS:=match s with
 |⟨t,n,dd,h⟩=>match draw with
  |false=>qR e (xq e ev) l l t n dd h
  |true=>bif wV l (CD l)then nF e (xp e ev) l h.next l (CD l) 0 h.next 0 t n dd (h.up (h.next+(l.filter λo=>cls o.op==.alloc).length)) [] [] []else none
abbrev uU:=Env->jS->DS->Option (bn×DS)
def uW(ops:Array Oper)(draw:Bool):uU:=λe ev s=>match HF e ev ops.toList draw s with
 |none=>none
 |some s=>some (.normal,s)
def uX(a b:Code):uU:=λ_ ev s=>match ev a s with
 |some (.normal,s)=>ev b s
 |r=>r
def uY(c:Operand)(a b:Code):uU:=λe ev s=>match aB e s.t c with
 |some (.v (.bool true))=>ev a s
 |some (.v (.bool false))=>ev b s
 |_=>none
def uZ(id:Nat)(c:Code):uU:=λ_ ev s=>match ev c s with
 |some (.exit i,s)=>bif Nat.beq i id then some (.normal,s)else some (.exit i,s)
 |r=>r
def u0(c:Code):uU:=λ_ ev s=>match ev c s with
 |some (.normal,s)=>ev (.loop c) s
 |r=>r
def qb(c:Code):uU:=match c with
 |.skip=>λ_ _ s=>some (.normal,s)
 |.exit id=>λ_ _ s=>some (.exit id,s)
 |.ret=>λ_ _ s=>some (.ret,s)
 |.region _ ops draw=>uW ops draw
 |.seq a b=>uX a b
 |.cond c a b=>uY c a b
 |.block id c=>uZ id c
 |.loop c=>u0 c
 |_=>λ_ _ _=>none
def nG(e:Env)(ev:jS):jS:=λc s=>qb c e ev s
def oP(e:Env):Nat->jS
 |0=>λ_ _=>none
 |n+1=>nG e (oP e n)
variable {e:Env} {N:Nat}
theorem CJ{t0 t:Tr DV}{h0 h:ab}(hh:HS N h0 h)(ht:TS N t0 t){op:Op}{r:DV}(hd:jR e.aU h0 t0 op=some r):aT e h t op=some (sh N r):=by
 unfold jR at hd
 split at hd
 . cases hd
 . rename_i r' h1;obtain⟨h2,h3⟩:=ca hd;cases h3;exact Zu hh ht h2 h1
def tm(e:Env)(N:Nat)(pu:Bool)(cf:js):Prop:=∀f args h0 v h1 T0,cf f args h0=some (v,h1,T0)->∀h,HS N h0 h->∀K:DV->ab->List Nat->Prop,(∀h',HS N h1 h'->∀T,(pu=true->T=T0.map (·+N))->K (sh N v) h' T)->c8 e true f (args.map (sh N)) h K
theorem ZP{t0 t:Tr DV}{h0 h h1:ab}(hh:HS N h0 h)(ht:TS N t0 t){op:Op}{dd ad:List FuncId}{v:DV}{T:List Nat}(hd:oN e.aU t0 dd h0 op=some (v,ad,h1,T))(K:cF)(hk:∀h',HS N h1 h'->K (sh N v) ad h' []):
 aG (dY e t op) λp=>K (p.2 h.next) dd (h.new p.1) []:=by
 unfold oN at hd;obtain⟨hg,hd⟩:=ca hd
 split at hd
 . cases hd
 . rename_i o f ha;simp only[Option.some.injEq,Prod.mk.injEq]at hd;obtain⟨rfl,rfl,rfl,rfl⟩:=hd;obtain⟨f',h2,h3⟩:=Hl (e:=e) ht hg ha;refine⟨_,h2, ?_⟩;simp only;rw[hh.next,h3];exact hk _ (hh.new o)
theorem HG{t0 t:Tr DV}{h0 h h1:ab}(hh:HS N h0 h)(ht:TS N t0 t){ty:TypeId}{m k x:Operand}{dd ad:List FuncId}{v:DV}{T:List Nat}(hd:zh e.aU t0 dd h0 ty m k x=some (v,ad,h1,T))(K:cF)(hk:∀h',HS N h1 h'->K (sh N v) ad h' (T.map (·+N))):
 aG (jL e h ty (aB e t m) (aB e t k) (aB e t x)) λp=>K dj dd p.1 [p.2]:=by
 unfold zh at hd;obtain⟨hg,hd⟩:=ca hd
 split at hd
 . cases hd
 . rename_i h' b hm;simp only[Option.some.injEq,Prod.mk.injEq]at hd;obtain⟨rfl,rfl,rfl,rfl⟩:=hd;obtain⟨h2,q1,q2⟩:=Zy hh hg hm;have hs:∀o:Operand,aB e.aU t0 o≠none->aB e t o=(aB e.aU t0 o).map (sh N):=λo ho=>by
    cases hq:aB e.aU t0 o with
    |none=>exact absurd hq ho
    |some d=>rw[ee ht hq];rfl
   have h3:aB e.aU t0 m≠none/\aB e.aU t0 k≠none/\aB e.aU t0 x≠none:=by
    unfold jL at hm
    split at hm
    . rename_i e1 e2 e3;simp[e1,e2,e3]
    . cases hm
   rw[hs m h3.1,hs k h3.2.1,hs x h3.2.2];exact⟨_,q1,hk h2 q2⟩
theorem zj{t0 t:Tr DV}(ht:TS N t0 t){o:Operand}(ho:aB e.aU t0 o≠none):aB e t o=(aB e.aU t0 o).map (sh N):=by
 cases hq:aB e.aU t0 o with
 |none=>exact absurd hq ho
 |some d=>rw[ee ht hq];rfl
theorem HH{pu:Bool}{cf:js}(aa:tm e N pu cf){t0 t:Tr DV}{h0 h h1:ab}(hh:HS N h0 h)(ht:TS N t0 t){op:Op}{dd ad:List FuncId}{v:DV}{T:List Nat}(hd:p9 e.aU cf op t0 dd h0=some (v,ad,h1,T))(K:cF)
 (hk:∀h',HS N h1 h'->∀T',(pu=true->T'=T.map (·+N))->K (sh N v) ad h' T'):cr e true op t dd h K:=by
 have val:∀op,(match jR e.aU h0 t0 op with|none=>none|some v=>some (v,dd,h0,([]:List Nat)))=some (v,ad,h1,T)->aG (aT e h t op) λv=>K v dd h []:=λop hv=>by
  split at hv
  . cases hv
  . rename_i r hr;simp only[Option.some.injEq,Prod.mk.injEq]at hv;obtain⟨rfl,rfl,rfl,rfl⟩:=hv;exact⟨_,CJ hh ht hr,hk h hh [] λ_=>rfl⟩
 have nw:∀op,oN e.aU t0 dd h0 op=some (v,ad,h1,T)->aG (dY e t op) λp=>K (p.2 h.next) dd (h.new p.1) []:=λop hn=>by
  refine ZP hh ht hn K λh' h2=>hk h' h2 [] λ_=> ?_;unfold oN at hn;obtain⟨_,hn⟩:=ca hn
  split at hn
  . cases hn
  . simp only[Option.some.injEq,Prod.mk.injEq]at hn;rw[<-hn.2.2.2];rfl
 cases op with
 |alloc ty=>exact nw _ hd
 |box ty x=>exact nw _ hd
 |buildSlice ty n ps=>exact nw _ hd
 |makeMap ty n=>exact nw _ hd
 |makeSlice ty l c=>exact nw _ hd
 |store ty a x=>
  simp only[p9]at hd;simp only[cr]
  split at hd
  . cases hd
  . rename_i h' b hs;simp only[Option.some.injEq,Prod.mk.injEq]at hd;obtain⟨rfl,rfl,rfl,rfl⟩:=hd;obtain⟨h2,q1,q2⟩:=Zv hh hs;have h3:aB e.aU t0 a≠none/\aB e.aU t0 x≠none:=by
     unfold ma at hs
     split at hs
     . rename_i e1 e2;simp[e1,e2]
     . cases hs
    rw[zj ht h3.1,zj ht h3.2];exact⟨_,q1,hk h2 q2 _ λ_=>rfl⟩
 |mapUpdate ty m k x=>exact HG hh ht hd K λh' h2=>hk h' h2 _ λ_=>rfl
 |insert ty m k x=>exact HG hh ht hd K λh' h2=>hk h' h2 _ λ_=>rfl
 |range ty x=>
  simp only[p9]at hd;simp only[cr]
  split at hd
  . cases hd
  . rename_i o hx;simp only[Option.some.injEq,Prod.mk.injEq]at hd;obtain⟨rfl,rfl,rfl,rfl⟩:=hd;obtain⟨d,q1,q2⟩:=Option.bind_eq_some_iff.1 hx;refine⟨gx N o,by rw[ee ht q1];exact ZB hh q2, ?_⟩;have:=hk _ (hh.new o) [] λ_=>rfl;simp only[bR,bU,eP]at this;rw[hh.next];exact this
 |next it s=>
  simp only[p9]at hd;simp only[cr]
  split at hd
  . cases hd
  . rename_i v' h' r hx;obtain⟨hg,hd⟩:=ca hd;simp only[Option.some.injEq,Prod.mk.injEq]at hd;obtain⟨rfl,rfl,rfl,rfl⟩:=hd;obtain⟨d,q1,q2⟩:=Option.bind_eq_some_iff.1 hx;obtain⟨h2,q3,q4⟩:=ZC hh hg q2;refine⟨_,by rw[ee ht q1];exact q3,hk _ q4 _ λ_=>rfl⟩
 |defer c=>
  simp only[p9]at hd;simp only[cr]
  split at hd
  . rename_i f hf;simp only[hf]
    split at hd
    . cases hd
    . rename_i g l hx;simp only[Option.some.injEq,Prod.mk.injEq]at hd;obtain⟨rfl,rfl,rfl,rfl⟩:=hd;have h3:aB e.aU t0 f≠none/\∃l,cO e.aU t0 c.args.toList=some l:=by
       unfold jM at hx
       split at hx
       . rename_i e1 e2;exact⟨by simp[e1],_,e2⟩
       . cases hx
      obtain⟨h3,l',h4⟩:=h3;have key:=Hj (N:=N) hx;rw[h4]at key;refine⟨(g,l.map (sh N)),by rw[zj ht h3,oL ht h4];exact key, ?_⟩;have:=hk h hh [] λ_=>rfl;rwa[bR,rA (by rfl)]at this
  . cases hd
 |call c=>
  simp only[p9]at hd;simp only[cr]
  split at hd
  . rename_i f hf;simp only[hf]
    split at hd
    . cases hd
    . rename_i g l hx
      split at hd
      . cases hd
      . rename_i v' h' T' hc;simp only[Option.some.injEq,Prod.mk.injEq]at hd;obtain⟨rfl,rfl,rfl,rfl⟩:=hd;have h3:aB e.aU t0 f≠none/\∃l,cO e.aU t0 c.args.toList=some l:=by
         unfold jM at hx
         split at hx
         . rename_i e1 e2;exact⟨by simp[e1],_,e2⟩
         . cases hx
        obtain⟨h3,l',h4⟩:=h3;have key:=Hj (N:=N) hx;rw[h4]at key;refine⟨(g,l.map (sh N)),by rw[zj ht h3,oL ht h4];exact key, ?_⟩;exact aa g l h0 _ _ _ hc h hh _ λh2 q T' hT=>hk h2 q T' hT
  . rename_i hf;simp only[hf]
    split at hd
    . cases hd
    . rename_i v' h' T' hx;simp only[Option.some.injEq,Prod.mk.injEq]at hd;obtain⟨rfl,rfl,rfl,rfl⟩:=hd;have h4:∃l,cO e.aU t0 c.args.toList=some l:=by
       cases hq:cO e.aU t0 c.args.toList with
       |none=>rw[hq]at hx;simp[kU]at hx
       |some l=>exact⟨l,rfl⟩
      obtain⟨l',h4⟩:=h4;obtain⟨h2,q1,q2⟩:=ZA hh hx;rw[h4]at q1;refine⟨_,by rw[oL ht h4];exact q1,hk h2 q2 _ λ_=>rfl⟩
  . rename_i h5 h6;obtain⟨callee,args,af⟩:=c;cases callee with
    |value f=>exact absurd rfl (h5 f)
    |builtin b=>cases b<;>first|exact absurd rfl h6|exact val _ hd
    |invoke a b=>exact val _ hd
 |entry it=>simp[p9,jR,aT]at hd
 |_=>exact val _ hd
theorem HI{dst:Option Tmp}{n:Nat}(h:xm dst n=true):dB dst n:=by
 cases dst with
 |none=>trivial
 |some d=>exact Nat.le_of_ble_eq_true h
theorem HJ:sh N dj=dj:=by rw[bR,rA (by rfl)]
theorem CK{pu:Bool}{cf:js}(aa:tm e N pu cf){all:List Oper}:∀{r:List Oper} {t0 t:Tr DV} {n:Nat} {dd:List FuncId} {h0 h:ab} {s1:DS},HS N h0 h->TS N t0 t->ti e.aU cf all r t0 n dd h0=some s1->∀(K:DS->Prop),(∀t' h',TS N s1.t t'->HS N s1.h h'->K ⟨t',s1.n,s1.dd,h'⟩)->fj e true all r t n dd h K
 |[],t0,t,n,dd,h0,h,s1,hh,ht,hd,K,hk=>by
  simp only[ti,Option.some.injEq]at hd;subst hd;exact hk t h ht hh
 |o::r,t0,t,n,dd,h0,h,s1,hh,ht,hd,K,hk=>by
  simp only[ti]at hd;obtain⟨hs,hd⟩:=ca hd;refine⟨HI hs, ?_⟩
  split at hd
  . cases hd
  . rename_i hw;refine⟨true,zf ht hw, ?_⟩
    split at hd
    . cases hd
    . rename_i v ad h' T ho;rw[Hx]at ho;exact HH aa hh ht ho _ λh2 q T' _=>CK aa q (ht.put _ _) hd K hk
  . rename_i hw;refine⟨false,zf ht hw, ?_⟩;have:=ht.put o.dst dj;rw[HJ]at this;exact CK aa hh this hd K hk
def rC(N:Nat)(q:Nat×Nat×bF):Nat×Nat×bF:=(q.1,q.2.1+N,gx N q.2.2)
theorem zk{h0 h:ab}(hh:HS N h0 h)(m:Nat):∀(p:fB),HS N (fP h0 m p) (fP h m (p.map (rC N)))
 |[]=>hh
 |(i,id,o)::r=>by
  simp only[List.map_cons,rC,fP]
  split
  . exact(zk hh m r).set id (some o)
  . exact zk hh m r
theorem HK{h0 h:ab}(hh:HS N h0 h):∀(p:fB),HS N (mH h0 p) (mH h (p.map (rC N)))
 |[]=>hh
 |(i,id,o)::r=>by
  simp only[List.map_cons,rC,mH];exact(HK hh r).set id (some o)
theorem ZQ(m:Nat)(p:fB):jn m (p.map (rC N))=(jn m p).map (rC N):=by
 unfold jn
 induction p with
 |nil=>rfl
 |cons q p ih=>
  simp only[List.map_cons,List.filter_cons,ih,rC]
  split<;>rfl
theorem HL(d:DV):jO (some (sh N d))=(jO (some d)).map (·+N):=by
 cases d with
 |v x=>
  rw[bR];unfold bU
  split<;>first|rfl|skip
  rename_i h1 h2 h3;simp only[jO,nA]
  split
  . rename_i a he;cases he;exact absurd rfl (h1 _)
  . rename_i a _ _ he;cases he;exact absurd rfl (h2 _ _ _)
  . rename_i a he;cases he;exact absurd rfl (h3 _)
  . rfl
 |agg l=>rw[ku];rfl
 |bg l=>rw[jP];rfl
 |fn f a c=>rw[p8];rfl
 |sl k xs=>rw[mJ];rfl
 |ptr xs o=>rw[nD];rfl
theorem HM{t0 t:Tr DV}(ht:TS N t0 t){h0:ab}{op:Op}{r:DV}(hd:aT e.aU h0 t0 op=some r):dN e t op=(dN e.aU t0 op).map (·+N):=by
 have one:∀(x:Operand),aB e.aU t0 x≠none->jO (aB e t x)=(jO (aB e.aU t0 x)).map (·+N):=λx hx=>by
  cases hq:aB e.aU t0 x with
  |none=>exact absurd hq hx
  |some d=>rw[ee ht hq];exact HL d
 cases op with
 |load ty a=>
  obtain⟨d,h1,_⟩:=Option.bind_eq_some_iff.1 hd;exact one a (by simp[h1])
 |convert s d x=>
  obtain⟨d,h1,_⟩:=Option.bind_eq_some_iff.1 hd;exact one x (by simp[h1])
 |lookup ty m k ok=>
  simp only[aT,gK]at hd
  split at hd
  . rename_i h1 h2;exact one m (by simp[h1])
  . cases hd
 |slice ty x lo hi mx=>
  refine one x ?_;intro h1;simp only[aT,h1]at hd;simp[dX]at hd
 |call c=>
  simp only[dN];cases hq:cO e.aU t0 c.args.toList with
  |some l=>
   rw[oL ht hq]
   match l with
   |[]=>rfl
   |[x]=>exact HL x
   |_::_::_=>rfl
  |none=>
   exfalso;simp only[aT]at hd
   split at hd
   . rw[hq]at hd;simp[pY]at hd
   . rw[hq]at hd;simp at hd
   . rw[hq]at hd;simp at hd
   . cases hd
 |_=>rfl
theorem ZR{N0:Nat}{T:List Nat}{b:Option Nat}(h:iA N0 T b=true):te (N0+N) (T.map (·+N)) (b.map (·+N)):=by
 cases b with
 |none=>trivial
 |some b=>
  simp only[iA,Bool.and_eq_true,Bool.not_eq_true',List.contains_eq_mem,decide_eq_false_iff_not]at h;refine⟨by have:=Nat.le_of_ble_eq_true h.1;show b+N<_;omega,λhm=> ?_⟩;obtain⟨a,h1,h2⟩:=List.mem_map.1 hm;have:a=b:=by simp only at h2;omega
  subst this;exact h.2 h1
def zl(N:Nat)(q:Nat×Nat):Nat×Nat:=(q.1+N,q.2)
theorem ZS(dy:Option (Nat×Nat))(b:Option Nat)(L:List (Nat×Nat)):kW dy (b.map (·+N)) (L.map (zl N))=(kW dy b L).map (zl N):=by
 cases dy<;>cases b<;>rfl
theorem qc{cf:js}(aa:tm e N true cf){ops:List Oper}{N0:Nat}:∀{r:List Oper} {pl:List PJ} {i id c:Nat} {t0 t:Tr DV} {n:Nat} {dd:List FuncId} {h0 h:ab} {an:fB} {T:List Nat} {L:List (Nat×Nat)} {s1:DS},HS N h0 h->TS N t0 t->
 nF e.aU cf ops N0 r pl i id c t0 n dd h0 an T L=some s1->∀(K:DS->Prop),(∀t' h',TS N s1.t t'->HS N s1.h h'->K ⟨t',s1.n,s1.dd,h'⟩)->dq e ops (N0+N) r pl i (id+N) c t n dd h (an.map (rC N)) (T.map (·+N)) (L.map (zl N)) K
 |[],pl,i,id,c,t0,t,n,dd,h0,h,an,T,L,s1,hh,ht,hd,K,hk=>by
  simp only[nF,Option.some.injEq]at hd;subst hd;cases pl<;>exact hk t _ ht (HK hh an)
 |o::r,[],i,id,c,t0,t,n,dd,h0,h,an,T,L,s1,hh,ht,hd,K,hk=>by cases hd
 |o::r,p::pl,i,id,c,t0,t,n,dd,h0,h,an,T,L,s1,hh,ht,hd,K,hk=>by
  simp only[nF]at hd;obtain⟨hs,hd⟩:=ca hd;have ao:id+N+1=id+1+N:=by omega
  refine⟨HI hs, ?_⟩
  split at hd
  . cases hd
  . rename_i hw;refine⟨true,zf ht hw, ?_⟩;obtain⟨pc,pm,au,ai⟩:=p;cases pc with
    |pure=>
     simp only at hd⊢
     split at hd
     . cases hd
     . rename_i v hv;exact⟨_,CJ hh ht hv,qc aa hh (ht.put _ _) hd K hk⟩
    |read=>
     simp only at hd⊢
     split at hd
     . cases hd
     . rename_i v hv;obtain⟨hb,hd⟩:=ca hd;have av:∃r,aT e.aU (fP h0 pm an) t0 o.op=some r:=by
        unfold jR at hv
        split at hv
        . cases hv
        . rename_i r hr;exact⟨r,hr⟩
       obtain⟨r',hr⟩:=av;refine⟨_,CJ (zk hh pm an) ht hv,λho=> ?_, ?_⟩
       . rw[HM ht hr];subst ho;exact ZR (by simpa using hb)
       . rw[HM ht hr,ZS];exact qc aa hh (ht.put _ _) hd K hk
    |alloc=>
     simp only at hd⊢;obtain⟨hg,hd⟩:=ca hd
     split at hd
     . cases hd
     . rename_i ob f ha;obtain⟨f',q1,q2⟩:=Hl (e:=e) (N:=N) ht hg ha;refine⟨_,q1, ?_⟩;simp only;rw[q2,ao];exact qc aa hh (ht.put _ _) hd K hk
    |effect=>
     simp only at hd⊢
     split at hd
     . cases hd
     . rename_i v ad h' T' ho;rw[Hx]at ho;obtain⟨hl,hd⟩:=ca hd;refine HH aa (zk hh pm an) ht ho _ λh2 q T2 hT=>⟨?_, ?_⟩
       . rw[hT rfl];intro x hx hc hm;obtain⟨y,h1,rfl⟩:=List.mem_map.1 hx;obtain⟨z,h3,h4⟩:=List.mem_map.1 hm;simp only[List.all_eq_true]at hl;have:=hl y h1;have e1:z=y.1:=by simp only[zl]at h4;omega
         subst e1;have e2:Nat.ble (c+1) y.2=true:=Nat.ble_eq_true_of_le hc;simp[e2,h3]at this
       . rw[hT rfl,ZQ,<-List.map_append];exact qc aa q (ht.put _ _) hd K hk
    |bad=>cases hd
  . rename_i hw;refine⟨false,zf ht hw, ?_⟩;have hu:=ht.put o.dst dj;rw[HJ]at hu;obtain⟨pc,pm,au,ai⟩:=p;cases pc with
    |alloc=>simp only at hd⊢;rw[ao];exact qc aa hh hu hd K hk
    |effect=>simp only at hd⊢;exact qc aa hh hu hd K hk
    |bad=>cases hd
    |pure=>simp only at hd⊢;exact qc aa hh hu hd K hk
    |read=>simp only at hd⊢;exact qc aa hh hu hd K hk
end Go.aw
end

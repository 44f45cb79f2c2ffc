/- Parts of a proof. -/
import Derived.CallsIn
import Derived.Laws.BytesString
import Derived.RangeFuncLeaves
import Derived.LoopNIn
import Derived.Test.YtniliiapkfpajaaGreatDoorK01
open Option.some renaming injEq->oY
open Bool renaming and_eq_true->yx,false_eq_true->Fj,not_true->afd,or_eq_true->afj,not_false->afk
open Prod.mk renaming injEq->Ey
open Nat renaming le_of_ble_eq_true->HT,eq_of_beq_eq_true->Q0,le_refl->Rb,add_mul->Rm,ble->WZ,min->YN,zero_mul->adr,mul_le_mul_right->afc,add_assoc->aff,ble_eq_true_of_le->afl,le_mul_of_pos_right->afu
open List renaming eq_nil_of_length_eq_zero->UR,length_append->afe,getElem?_eq_getElem->afv,getElem?_take->afw,mapM_cons->afy
open Array renaming toList_append->Xt,getElem?_eq_some_iff->Yt,eq_empty_of_size_eq_zero->afg,getD_eq_getD_getElem?->afh,length_toList->afm,toArray_toList->afp,replicate->afq,toList_map->aft,getElem?_setIfInBounds->afx
open Option renaming isSome_none->afi,map_eq_some_iff->afn,isNone_some->afo
open Int renaming toNat_of_nonneg->afr,natCast_mul->afs
set_option linter.all false
set_option maxRecDepth 100000
noncomputable section
namespace Go.aD
variable {e:Env}
def fM(b:Nat)(P:Program)(ρ:aH)(h:ab)(w:World)(s:Sem Value)(v:Value)(h':ab):Prop:=
 ∃v' w' ad,s.run P w=.ok v' w'/\aQ ad v v'/\bA ad h' w'/\Fr b ρ h w ad h' w'
def fM.same{b:Nat}{P:Program}{ρ:aH}{h:ab}{w:World}{s:Sem Value}{v v':Value}(x:bA ρ h w)(hr:s.run P w=.ok v' w)(hv:aQ ρ v v'):fM b P ρ h w s v h:=
 ⟨v',w,ρ,hr,hv,x,Fr.refl _ _ _ _⟩
def wrap_small{n:Int}(h0:0<=n)(h1:n<=1099511627776):IntKind.i64.wrap n=n:=by
 have h2:n%(2^64:Int)=n:=Int.emod_eq_of_lt h0 aa;have h3:¬n>=(2^63:Int):=aa;show(if(true&&decide (n%(2^64:Int)>=(2^63:Int)))=true then n%(2^64:Int)-2^64 else n%(2^64:Int))=n;simp only[h2,h3,decide_false,Bool.and_false,Fj,if_false]
def nB{α β:Type}{x:Option α}{f:α->Option β}{r:β}(h:x.bind f=some r):∃a,x=some a/\f a=some r:=by
 cases x with
 |none=>cases h
 |some a=>exact⟨a,rfl,h⟩
def zO{v:Value}{n:Int}(h:ou v=some n):v=.int .i64 n:=by
 unfold ou at h
 split at h
 . cases h;rfl
 . cases h
def of_int{v:Value}{n:Int}(h:intOf v=some n):∃k,v=.int k n:=by
 unfold intOf at h
 split at h
 . cases h;exact⟨_,rfl⟩
 . cases h
def vb{v:Value}{a:Addr}(h:iu v=some a):v=.pointer (some a):=by
 unfold iu at h
 split at h
 . cases h;rfl
 . cases h
def aQ.mF{ρ:aH}{k:IntKind}{n:Int}{v:Value}(h:aQ ρ (.int k n) v):v=.int k n:=by cases h;rfl
def aQ.oB{ρ:aH}{b:Bool}{v:Value}(h:aQ ρ (.bool b) v):v=.bool b:=by cases h;rfl
def aQ.oC{ρ:aH}{a:Addr}{v:Value}(h:aQ ρ (.pointer (some a)) v):∃pl,ρ a.block=some pl/\v=.pointer (some ⟨pl.bh,pl.off+a.off,none⟩):=by cases h with|ptr h=>exact⟨_,h,rfl⟩
theorem vc(P:Program)(w:World)(t:TypeId)(cs:Array Value):(newRow t cs).run P w=.ok ⟨w.heap.size,0,none⟩ (World.add w (.cells cs t)):=rfl
theorem D9(P:Program)(w:World)(t:TypeId)(v:Value):(newVar t v).run P w=.ok ⟨w.heap.size,0,none⟩ (World.add w (.cells v.cells t)):=rfl
def Ea(he:e.Ok){b id n:Nat}{ρ:aH}{h h':ab}{w:World}{t:Tr Value}{a:Array Value}{ds:List Deferred}(hg:Gl e ρ)(ht:jK ρ t n a)(x:bA ρ h w)
 {o:Oper} {ob:bR} {f:Nat->Value} (hA:cU e t o.op=some (ob,f)) (s:Slot b ρ h id ob h'):
 ∃v' w' ad,(execOp (Act.mk a ds).eval o).run e.P w=.ok (.value v') w'/\aQ ad (f id) v'/\bA ad h' w'/\Fr b ρ h w ad h' w'/\∀j,j≠id->ad j=ρ j:=by
 obtain⟨dst,op,ty,pos,after,guard⟩:=o;cases op with
 |alloc elem=>
  simp only[cU]at hA;cases hz:e.zero elem with
  |none=>simp[hz]at hA
  |some z=>
   simp only[hz,oY,Ey]at hA;obtain⟨rfl,rfl⟩:=hA;obtain⟨ad,pl,g1,g2,g3,_,_,_,g4,g5⟩:=xe x s (he.ru hz ρ) elem;refine⟨_,_,ad, ?_,u7 g1 g3,g4,g5⟩;simp only[execOp,Instr.alloc,Sem.run_bind,he.nA hz,Result.andThen_ok,D9,Sem.run_pure,g2]
 |box elem y=>
  simp only[cU]at hA;cases hy:aE e t y with
  |none=>simp[hy]at hA
  |some v=>
   simp only[hy,oY,Ey]at hA;obtain⟨rfl,rfl⟩:=hA;obtain⟨ad,pl,g1,g2,g3,_,_,_,g4,g5⟩:=xe x s (kl hg ht hy ds).cells elem;refine⟨_,_,ad, ?_,u7 g1 g3,g4,g5⟩;simp only[execOp,Instr.box,Sem.run_bind,Result.andThen_ok,D9,Sem.run_pure,g2]
 |buildSlice st len parts=>
  simp only[cU]at hA;cases hu:e.under st with
  |none=>simp[hu]at hA
  |some d=>
   cases d with
   |slice elem=>
    simp only[hu]at hA;cases hp:fx e t parts.toList with
    |none=>simp[hp]at hA
    |some ps=>
     simp only[hp]at hA;cases hs:e.size elem with
     |none=>simp[hs]at hA
     |some sz=>
      cases hz:e.zero elem with
      |none=>simp[hs,hz]at hA
      |some z=>
       simp only[hs,hz]at hA;obtain⟨hb,hA⟩:=cg hA;simp only[yx]at hb;obtain⟨⟨af,ai⟩,ah⟩:=hb;have af:=HT af;have ai:=Q0 ai;have ah:0<sz:=HT ah;cases hf:iJ (λi=>some (i*sz,sz)) (dY z.cells.toList (len*sz)) ps with
       |none=>simp[hf]at hA
       |some cs=>
        simp only[hf,oY,Ey]at hA;obtain⟨rfl,rfl⟩:=hA;have ae:=zL hg ht ds hp;have aj:bQ ρ (dY z.cells.toList (len*sz)) (((Array.range (len*sz)).map ((if len*sz=0 then#[]else z.cells)[·%(if len*sz=0 then#[]else z.cells).size]!)).toList):=by
         by_cases h0:len*sz=0
         . simp only[h0,if_true];simpa[dY]using (aU.nil:bQ ρ [] [])
         . simp only[h0,if_false];have:=zN (he.ru hz ρ) (len*sz) aa;simpa using this
        obtain⟨cs',g6,g7⟩:=zM (place':=λi=>some (i*sz,sz)) (ps':=(parts.map λ(i,y)=>(i,(Act.mk a ds).eval y)).toList) (λ_ _ h=>h) aj (by simpa using ae) hf;obtain⟨ad,pl,g1,g2,g3,aJ,aK,aL,g4,g5⟩:=xe x s g7 elem;refine⟨_,_,ad, ?_,.sl (a:=⟨id,0,none⟩) (c:=⟨w.heap.size,0,none⟩) (k':=len) g1 (.inl ⟨by simp[g2,g3],.inl rfl⟩),g4,g5⟩;have hn:¬len*sz>2^24:=aa;simp only[execOp,Instr.buildSlice,Sem.run_bind,he.dj hu,Result.andThen_ok,he.iw hs,hn,if_false,Sem.run_pure];by_cases h0:len*sz=0
        . simp only[h0,if_true,Sem.run_pure,Result.andThen_ok]at g6⊢;simp only[g6,Sem.run_bind,vc,Result.andThen_ok,Sem.run_pure]
        . simp only[h0,if_false,Sem.run_bind,he.nA hz,Sem.run_pure,Result.andThen_ok]at g6⊢;simp only[g6,Sem.run_bind,vc,Result.andThen_ok,Sem.run_pure]
   |_=>simp[hu]at hA
 |makeMap mt r=>
  cases r with
  |some r=>simp[cU]at hA
  |none=>
   simp only[cU,oY,Ey]at hA;obtain⟨rfl,rfl⟩:=hA;obtain⟨ad,pl,g1,g2,g3,g4,g5⟩:=xg x s (.map #[] 0) rfl rfl (λad w' pl _ h0 hw=>⟨h0,#[],hw,.nil⟩);refine⟨_,_,ad, ?_,aQ.map g1,g4,g5⟩;rw[g2];rfl
 |makeSlice st l c=>
  simp only[cU]at hA;cases hu:e.under st with
  |none=>simp[hu]at hA
  |some d=>
   cases d with
   |slice elem=>
    cases hl:(aE e t l).bind ou with
    |none=>simp[hu,hl]at hA
    |some lv=>
     cases hc:(aE e t c).bind ou with
     |none=>simp[hu,hl,hc]at hA
     |some cv=>
      simp only[hu,hl,hc]at hA;obtain⟨aP,hl,an⟩:=nB hl;obtain⟨aR,hc,ao⟩:=nB hc;have an:=zO an;subst an;have ao:=zO ao;subst ao;cases hs:e.size elem with
      |none=>simp[hs]at hA
      |some sz=>
       cases hz:e.zero elem with
       |none=>simp[hs,hz]at hA
       |some z=>
        cases av:e.bytes elem with
        |none=>simp[hs,hz,av]at hA
        |some aA=>
         simp only[hs,hz,av]at hA;obtain⟨hb,hA⟩:=cg hA;simp only[yx,decide_eq_true_eq]at hb;obtain⟨⟨⟨⟨⟨af,ai⟩,ah⟩,aw⟩,aC⟩,aG⟩:=hb;have aw:=HT aw;have aC:=Q0 aC;have aG:0<sz:=HT aG;simp only[oY,Ey]at hA;obtain⟨rfl,rfl⟩:=hA;have rl:aQ ρ (.int .i64 lv) ((Act.mk a ds).eval l):=kl hg ht hl ds;have rc:aQ ρ (.int .i64 cv) ((Act.mk a ds).eval c):=kl hg ht hc ds;have el:=rl.mF;have ec:=rc.mF;have aj:bQ ρ (dY z.cells.toList (cv.toNat*sz)) (((Array.range (cv.toNat*sz)).map ((if cv.toNat*sz=0 then#[]else z.cells)[·%(if cv.toNat*sz=0 then#[]else z.cells).size]!)).toList):=by
          by_cases h0:cv.toNat*sz=0
          . simp only[h0,if_true];simpa[dY]using (aU.nil:bQ ρ [] [])
          . simp only[h0,if_false];have:=zN (he.ru hz ρ) (cv.toNat*sz) aa;simpa using this
         obtain⟨ad,pl,g1,g2,g3,aJ,aK,aL,g4,g5⟩:=xe x s aj elem;refine⟨_,_,ad, ?_,.sl (a:=⟨id,0,none⟩) (c:=⟨w.heap.size,0,none⟩) (k':=cv.toNat) g1 (.inl ⟨by simp[g2,g3],.inl rfl⟩),g4,g5⟩;obtain⟨i,aM,dS⟩:=he.L9 av w;have w1:IntKind.i64.wrap lv=lv:=wrap_small af aa;have w2:IntKind.i64.wrap cv=cv:=wrap_small aa ah;have aO:(cv.toNat:Int)=cv:=afr aa;have az:¬((aA:Int)*cv>2^48):=by
          have:=Int.ofNat_le.2 aw;rw[afs,aO]at this;omega
         have c1:decide (cv<0)=false:=by simp;omega
         have c2:decide ((aA:Int)*cv>2^48)=false:=by simpa using az
         have c3:decide (lv<0)=false:=by simp;omega
         have c4:decide (lv>cv)=false:=by simp;omega
         simp only[execOp,Instr.makeSlice,Sem.run_bind,he.dj hu,Result.andThen_ok,el,ec,asInt,asIntOf,Sem.run_pure,aM,dS,w1,w2,c1,c2,c3,c4,Bool.or_false,Fj,if_false,run_askRoom,he.iw hs];by_cases h0:cv.toNat*sz=0
         . simp only[h0,if_true,Sem.run_pure,Result.andThen_ok,Sem.run_bind,vc]
         . simp only[h0,if_false,Sem.run_bind,he.nA hz,Sem.run_pure,Result.andThen_ok,vc]
   |_=>simp[hu]at hA
 |_=>simp[cU]at hA
end Go.aD
end
noncomputable section
namespace Go.aD
variable {e:Env}
def ry{P:Program}{s:Sem Value}{r:Value}(h:eI P s=some r)(w:World){ρ:aH}:s.run P w=.ok r w/\aQ ρ r r:=by
 unfold eI at h;cases hp:b8 P s with
 |none=>simp[hp]at h
 |some v=>
  simp only[hp]at h;obtain⟨hb,h⟩:=cg h;cases h;exact⟨u5 P s _ hp w,nz hb⟩
inductive nC(ρ:aH):Option Value->Option Value->Prop
 |none:nC ρ none none
 |some {v v':Value}:aQ ρ v v'->nC ρ (some v) (some v')
def p6(P:Program){ρ:aH}{v v':Value}(hv:aQ ρ v v'){aj az d r:Nat}(h:ew (some v) aj d=some r)(hm:aj<=az)(code:BoundsCode)(w:World):
 (Instr.sliceBound v' az code).run P w=.ok r w/\r<=aj:=by
 unfold ew at h;cases hi:intOf v with
 |none=>simp[hi]at h
 |some i=>
  simp only[hi]at h;obtain⟨hb,h⟩:=cg h;cases h;obtain⟨k,rfl⟩:=of_int hi;have:=hv.mF;subst this;simp only[yx,decide_eq_true_eq]at hb;have hc:0<=i/\i<=(az:Int):=⟨hb.1,aa⟩;refine⟨?_,aa⟩;simp only[Instr.sliceBound,asIntOf,Sem.run_bind,Sem.run_pure,Result.andThen_ok,hc,and_self,if_true]
def zP(P:Program){ρ:aH}{lo bb hi bc mx bd:Option Value}(aJ:nC ρ lo bb)(aV:nC ρ hi bc)(aX:nC ρ mx bd){len cap ad m h l:Nat}(an:cap<=ad)
 (h1:ew mx cap cap=some m) (h2:ew hi m len=some h) (h3:ew lo h 0=some l) (h4:(mx.isNone||hi.isSome)=true) (b:Bool) (w:World):
 ∃m',(Instr.sliceBounds b len ad bb bc bd).run P w=.ok (l,h,m') w/\(mx=none->m=cap/\m'=ad)/\(mx≠none->m'=m)/\l<=h/\m<=m':=by
 cases aX with
 |none=>
  simp only[ew,oY]at h1;subst h1;refine⟨ad, ?_,λ_=>⟨rfl,rfl⟩,λh=>absurd rfl h, ?_,an⟩
  . cases aV with
    |none=>
     simp only[ew,oY]at h2;subst h2;cases aJ with
     |none=>
      simp only[ew,oY]at h3;subst h3;rfl
     |some hv=>
      have:=(p6 P hv h3 (Rb _) .sliceB w).1;simp only[Instr.sliceBounds,Sem.run_bind,Sem.run_pure,Result.andThen_ok,afi,Fj,if_false,this]
    |some hv=>
     have g:=(p6 P hv h2 an (if b then .sliceAcap else .sliceAlen) w).1;cases aJ with
     |none=>
      simp only[ew,oY]at h3;subst h3;simp only[Instr.sliceBounds,Sem.run_bind,Sem.run_pure,Result.andThen_ok,g]
     |some bs=>
      have:=(p6 P bs h3 (Rb _) .sliceB w).1;simp only[Instr.sliceBounds,Sem.run_bind,Sem.run_pure,Result.andThen_ok,afi,Fj,if_false,g,this]
  . cases aJ with
    |none=>simp only[ew,oY]at h3;omega
    |some hv=>exact(p6 P hv h3 (Rb _) .sliceB w).2
 |some hm=>
  have g0:=(p6 P hm h1 an (if b then .slice3Acap else .slice3Alen) w).1;refine⟨m, ?_,(λh=>by cases h),λ_=>rfl, ?_,Rb _⟩
  . cases aV with
    |none=>simp at h4
    |some hv=>
     have g:=(p6 P hv h2 (Rb _) .slice3B w).1;cases aJ with
     |none=>
      simp only[ew,oY]at h3;subst h3;simp only[Instr.sliceBounds,Sem.run_bind,Sem.run_pure,Result.andThen_ok,g0,g]
     |some bs=>
      have:=(p6 P bs h3 (Rb _) .slice3C w).1;simp only[Instr.sliceBounds,Sem.run_bind,Sem.run_pure,Result.andThen_ok,Option.isSome_some,if_true,g0,g,this]
  . cases aJ with
    |none=>simp only[ew,oY]at h3;omega
    |some hv=>exact(p6 P hv h3 (Rb _) .sliceB w).2
def Eb{v:Option Value}{aj d r:Nat}(h:ew v aj d=some r)(hd:d<=aj):r<=aj:=by
 unfold ew at h
 split at h
 . cases h;exact hd
 . split at h
   . cases h
   . obtain⟨hb,h⟩:=cg h;cases h;simp only[yx,decide_eq_true_eq]at hb;omega
def Mg{ρ:aH}{h:ab}{w:World}(x:bA ρ h w){a:Addr}{pl:Pl}(hp:ρ a.block=some pl){s:Nat}(hs:mC h a s=true):pl.ak=0\/pl.ak=s:=by
 unfold mC at hs;cases ho:h.get a.block with
 |none=>simp[ho]at hs
 |some o=>
  cases o with
  |row rs wr ak=>
   obtain⟨pl',g1,c,el,fz,g2,g3,g4,g5,_⟩:=x.obj _ _ ho;rw[hp]at g1;cases g1;simp only[ho,afj]at hs;rcases hs with hs|hs
   . exact .inl (g5.trans (Q0 hs))
   . exact .inr (g5.trans (Q0 hs))
  |_=>simp[ho]at hs
def Mh(he:e.Ok){ρ:aH}{h:ab}{w:World}(x:bA ρ h w){t:TypeId}{v v':Value}{lo bb hi bc mx bd:Option Value}(hv:aQ ρ v v')(aJ:nC ρ lo bb)(aV:nC ρ hi bc)(aX:nC ρ mx bd)
 {r:Value} (hr:jI e h t v lo hi mx=some r):∃r',(Instr.sliceAt t v' bb bc bd).run e.P w=.ok r' w/\aQ ρ r r':=by
 unfold jI at hr;cases hu:e.under t with
 |none=>simp[hu]at hr
 |some d=>
  cases hv with
  |string s=>
   cases d with
   |string=>
    simp only[hu]at hr;obtain⟨hb,hr⟩:=cg hr;simp only[yx]at hb;have aA:∀{y y':Option Value},nC ρ y y'->sY y=true->y'=y:=λhy hz=>by
     cases hy with
     |none=>rfl
     |some hv=>rw[pZ hz hv]
    rw[aA aJ hb.1,aA aV hb.2.1,aA aX hb.2.2];exact⟨r,ry hr w⟩
   |_=>simp[hu]at hr
  |ki len cap=>
   cases d with
   |slice elem=>
    simp only[hu]at hr;cases hs:e.size elem with
    |none=>simp[hs]at hr
    |some s=>
     cases hm:ew mx cap cap with
     |none=>simp[hs,hm]at hr
     |some m=>
      simp only[hs,hm]at hr;cases hh:ew hi m len with
      |none=>simp[hh]at hr
      |some aL=>
       simp only[hh]at hr;obtain⟨hb,hr⟩:=cg hr;rw[yx]at hb;cases hl:ew lo aL 0 with
       |none=>simp[hl]at hr
       |some l=>
        simp only[hl,oY]at hr;subst hr;obtain⟨m',g1,g2,g3,g4,g5⟩:=zP e.P aJ aV aX (Rb cap) hm hh hl hb.2 true w;have bF:m'=m:=by
         by_cases h0:mx=none
         . rw[(g2 h0).1,(g2 h0).2]
         . exact g3 h0
        subst bF;refine⟨_, ?_,.ki _ _⟩;simp only[Instr.sliceAt,Instr.slice,Sem.run_bind,he.dj hu,Result.andThen_ok,g1,he.iw hs,Sem.run_pure,Option.map_none,ite_self]
   |_=>simp[hu]at hr
  | @sl a c len cap ad pl hp aS=>
   cases d with
   |slice elem=>
    simp only[hu]at hr;cases hs:e.size elem with
    |none=>simp[hs]at hr
    |some s=>
     cases hm:ew mx cap cap with
     |none=>simp[hs,hm]at hr
     |some m=>
      simp only[hs,hm]at hr;cases hh:ew hi m len with
      |none=>simp[hh]at hr
      |some aL=>
       simp only[hh]at hr;obtain⟨hb,hr⟩:=cg hr;rw[yx]at hb;have cm:aL<=m:=HT hb.1;cases hl:ew lo aL 0 with
       |none=>simp[hl]at hr
       |some l=>
        simp only[hl]at hr;obtain⟨hz,hr⟩:=cg hr;cases hr;have an:cap<=ad:=by
         rcases aS with⟨_,h1|h1⟩|h1<;>omega
        obtain⟨m',g1,g2,g3,g4,g5⟩:=zP e.P aJ aV aX an hm hh hl hb.2 true w;have bG:m<=cap:=Eb hm (Rb _);refine⟨.slice (some (if m'=l then c else c.add (l*s))) (aL-l) (m'-l), ?_,.sl (pl:=pl) (by rw[Addr.tr];exact hp) ?_⟩
        . simp only[Instr.sliceAt,Instr.slice,Sem.run_bind,he.dj hu,Result.andThen_ok,g1,he.iw hs,Sem.run_pure,Option.map_some]
          split<;>rfl
        . have bN:=Mg x hp hz;unfold zG;rcases aS with⟨hc,bf⟩|⟨cn,cp,bO⟩
          . by_cases aY:m'=l
            . right;have:m=l:=aa;omega
            . left;rw[if_neg aY];refine⟨?_, ?_⟩
              . rw[hc,oA,Addr.rp];simp only[Addr.mk.injEq,true_and,and_true];omega
              . by_cases bg:mx=none
                . obtain⟨e1,e2⟩:=g2 bg;rcases bf with bf|⟨k1,k2,k3,k4⟩
                  . left;omega
                  . right;have aZ:pl.ak=s:=aa;rw[aZ]at k1 k2 k3;rw[Addr.rp,aZ];subst e1;subst e2;have q1:l*s+(m-l)*s=m*s:=by rw[<-Rm];congr 1;omega
                    have q2:l*s+(m'-l)*s=m'*s:=by rw[<-Rm];congr 1;omega
                    refine⟨aa,aa,aa,aa⟩
                . left;rw[g3 bg]
          . right;have:m=0:=aa;have bF:m'=0:=by
             by_cases bg:mx=none
             . rw[(g2 bg).2];exact bO
             . rw[g3 bg];omega
            omega
   |_=>simp[hu]at hr
  | @ptr a pl hp=>
   cases d with
   |array n elem=>
    simp only[hu]at hr;cases hs:e.size elem with
    |none=>simp[hs]at hr
    |some s=>
     cases aX with
     |some _=>simp[hs]at hr
     |none=>
      simp only[hs]at hr;cases hh:ew hi n n with
      |none=>simp[hh]at hr
      |some aL=>
       simp only[hh]at hr;cases hl:ew lo aL 0 with
       |none=>simp[hl]at hr
       |some l=>
        simp only[hl,oY]at hr;subst hr;obtain⟨m',g1,g2,g3,g4,g5⟩:=zP e.P aJ aV (.none (ρ:=ρ)) (Rb n) (m:=n) rfl hh hl rfl false w;obtain⟨_,rfl⟩:=g2 rfl;have cq:aL<=m':=Eb hh (Rb _);refine⟨.slice (some (if m'=l then(⟨pl.bh,pl.off+a.off,none⟩:Addr)else(⟨pl.bh,pl.off+a.off,none⟩:Addr).add (l*s))) (aL-l) (m'-l), ?_, ?_⟩
        . simp only[Instr.sliceAt,Sem.run_bind,he.dj hu,Result.andThen_ok,Instr.sureAddr,Sem.run_pure,g1,he.iw hs]
        . by_cases aY:m'=l
          . rw[if_pos aY,if_pos aY];exact .sl hp (.inr aa)
          . rw[if_neg aY,if_neg aY];refine .sl (pl:=pl) (by rw[Addr.tr];exact hp) (.inl ⟨?_,.inl rfl⟩);rw[oA,Addr.rp];simp only[Addr.mk.injEq,true_and,and_true];omega
   |_=>simp[hu]at hr
  |_=>cases d<;>simp[hu]at hr
def Mi(he:e.Ok){ρ:aH}{h:ab}{w:World}(x:bA ρ h w){t:TypeId}{v v' r:Value}(hv:aQ ρ v v')(hr:fK e h t v=some r)(bk:Array TypeId)(aK:bk[0]? =some t)(ty:TypeId):
 ∃r',(Builtin.len_ bk ty #[v']).run e.P w=.ok r' w/\aQ ρ r r':=by
 unfold fK at hr;cases hu:e.under t with
 |none=>simp[hu]at hr
 |some d=>
  simp only[hu]at hr;have h0:(#[v']:Array Value)[0]? =some v':=rfl;cases d with
  |array n el=>
   simp only[oY]at hr;subst hr;exact⟨_,by simp only[Builtin.len_,aK,h0,Sem.run_bind,he.dj hu,Result.andThen_ok,Sem.run_pure,goInt],.int _ _⟩
  |pointer arr=>
   simp only at hr;cases ha:e.under arr with
   |none=>simp[ha]at hr
   |some da=>
    cases da with
    |array n el=>
     simp only[ha,oY]at hr;subst hr;exact⟨_,by simp only[Builtin.len_,aK,h0,Sem.run_bind,he.dj hu,he.dj ha,Result.andThen_ok,Sem.run_pure,goInt],.int _ _⟩
    |_=>simp[ha]at hr
  |string=>
   cases hv with
   |string s=>
    simp only[oY]at hr;subst hr;exact⟨_,by simp only[Builtin.len_,aK,h0,Sem.run_bind,he.dj hu,Result.andThen_ok,Sem.run_pure,goInt],.int _ _⟩
   |_=>simp at hr
  |slice el=>
   cases hv with
   |ki l k=>
    simp only[oY]at hr;subst hr;exact⟨_,by simp only[Builtin.len_,aK,h0,Sem.run_bind,he.dj hu,Result.andThen_ok,Sem.run_pure,goInt],.int _ _⟩
   |sl hp hs=>
    simp only[oY]at hr;subst hr;exact⟨_,by simp only[Builtin.len_,aK,h0,Sem.run_bind,he.dj hu,Result.andThen_ok,Sem.run_pure,goInt],.int _ _⟩
   |_=>simp at hr
  |map k el=>
   cases hv with
   |oy=>
    simp only[oY]at hr;subst hr;exact⟨_,by simp only[Builtin.len_,aK,h0,Sem.run_bind,he.dj hu,Result.andThen_ok,Sem.run_pure,goInt],.int _ _⟩
   | @map i pl hp=>
    simp only at hr;cases ho:h.get i with
    |none=>simp[ho]at hr
    |some o=>
     cases o with
     |map es clock=>
      simp only[ho,oY]at hr;subst hr;obtain⟨pl',g1,g2,bH,g3,g4⟩:=x.obj _ _ ho;rw[hp]at g1;cases g1;have hl:es.length=bH.size:=by simpa using g4.length
      refine⟨.int .i64 es.length, ?_,.int _ _⟩;have bR:(getObj pl.bh).run e.P w=.ok (.map bH clock) w:=by simp only[getObj,Sem.run,g3]
      simp only[Builtin.len_,aK,h0,Sem.run_bind,he.dj hu,Result.andThen_ok,bR,Sem.run_pure,goInt,hl]
     |_=>simp[ho]at hr
   |_=>simp at hr
  |_=>simp at hr
def Mj(he:e.Ok){ρ:aH}{h:ab}{w:World}(x:bA ρ h w){t:TypeId}{v v' r:Value}(hv:aQ ρ v v')(hr:qU e h t v=some r)(bk:Array TypeId)(aK:bk[0]? =some t)(ty:TypeId):
 ∃r',(Builtin.cap_ bk ty #[v']).run e.P w=.ok r' w/\aQ ρ r r':=by
 unfold qU at hr;cases hu:e.under t with
 |none=>simp[hu]at hr
 |some d=>
  have h0:(#[v']:Array Value)[0]? =some v':=rfl;cases d with
  |slice el=>
   cases hv with
   |ki l k=>
    simp only[hu,oY]at hr;subst hr;exact⟨_,by simp only[Builtin.cap_,aK,h0,Sem.run_bind,he.dj hu,Result.andThen_ok,Sem.run_pure,goInt],.int _ _⟩
   | @sl a c l k k' pl hp hs=>
    simp only[hu]at hr;cases ho:h.get a.block with
    |none=>simp[ho]at hr
    |some o=>
     cases o with
     |row rs wr ak=>
      simp only[ho]at hr;cases hz:e.size el with
      |none=>simp[hz]at hr
      |some s=>
       simp only[hz]at hr;obtain⟨hb,hr⟩:=cg hr;cases hr;obtain⟨pl',g1,c',cr,fz,g2,g3,g4,g5,g6,g7,g8,g9⟩:=x.obj _ _ ho;rw[hp]at g1;cases g1;have:k'=k:=by
        simp only[afj,yx]at hb;rcases hs with⟨_,h1|⟨h1,h2,h3,h4⟩⟩|⟨h1,h2,h3⟩
        . exact h1
        . rcases hb with hb|⟨hb,bl⟩
          . have:=Q0 hb;omega
          . have:=Q0 hb;have bl:a.off+k*s<rs.length:=HT bl;rw[g5,this,g4]at h2;omega
        . omega
       subst this;exact⟨_,by simp only[Builtin.cap_,aK,h0,Sem.run_bind,he.dj hu,Result.andThen_ok,Sem.run_pure,goInt],.int _ _⟩
     |_=>simp[ho]at hr
   |_=>simp[hu]at hr
  |_=>simp[hu]at hr
def zQ{ρ:aH}{h:ab}{w:World}(P:Program)(x:bA ρ h w){v v':Value}(hv:aQ ρ v v'){s n:Nat}{cs:List Value}(hr:ir h s n v=some cs)(hn:∀l,pT v=some l->n<=l):
 ∃cs',(∀w',w'.heap=w.heap->(Builtin.firstCells s n v').run P w'=.ok cs' w')/\bQ ρ cs cs'.toList:=by
 cases hv with
 |ki l k=>
  simp only[ir,oY]at hr;subst hr;exact⟨#[],λ_ _=>rfl,.nil⟩
 | @sl a c l k k' pl hp hs=>
  simp only[ir]at hr;obtain⟨cs',g1,g2,g3⟩:=tu x hp hr;refine⟨cs'.toArray,λw' hw=> ?_,by simpa using g1⟩;have bm:=hn l rfl;rcases hs with⟨hc,_⟩|⟨h1,_,_⟩
  . have:=run_loadCells_list (P:=P) w' _ cs' (λj v hj=>by have:=g3 j v hj;simpa only[World.cell?,hw]using this);rw[g2,<-hc]at this;simpa only[Builtin.firstCells]using this
  . have h0 : n * s = 0 := by have : n = 0 := aa
                              rw[this,adr]
    have bS:cs'=[]:=UR (g2.trans h0);subst bS;simp only[Builtin.firstCells,h0];rfl
 |string b=>
  simp only[ir,oY]at hr;subst hr;refine⟨(b.extract 0 n).data.map λb=>.int .u8 b.toNat,λ_ _=>rfl, ?_⟩;rw[aft];refine aU.ri rfl λi y z ha hb=> ?_;rw[ha]at hb;cases hb;rw[List.getElem?_map]at ha;cases hx:((b.extract 0 n).data.toList)[i]? with
  |none=>rw[hx]at ha;cases ha
  |some u=>rw[hx]at ha;cases ha;exact .int _ _
 |_=>simp[ir]at hr
def Ec(P:Program){ρ:aH}{v v':Value}(hv:aQ ρ v v'){n:Nat}(h:pT v=some n)(w:World):(Builtin.lenOf v').run P w=.ok n w:=by
 cases hv<;>simp only[pT,oY]at h<;>first|(subst h;rfl)|cases h
def Ed{ρ:aH}{zs:Array Value}(hz:bQ ρ zs.toList zs.toList){n sz:Nat}(hs:zs.toList.length=sz)(h0:0<sz):bQ ρ (dY zs.toList (n*sz)) (Builtin.zeroCells zs n).toList:=by
 have:=zN hz (n*sz) aa;have e1:zs.size=sz:=by simpa using hs
 simpa[Builtin.zeroCells,e1]using this
def Ee:∀(r ao c:Nat),Builtin.growBy ao r c<=c*2^r+400*2^r
 |0,_,c=>by simp[Builtin.growBy]
 |r+1,ao,c=>by
  unfold Builtin.growBy
  split
  . have:0<2^r:=Nat.two_pow_pos r;rw[Nat.pow_succ];have:c<=c*(2^r*2):=afu _ aa;omega
  . refine Nat.le_trans (Ee r ao _) ?_;have h1:c+(c+768)/4<=2*c+192:=aa;have h2:=afc (2^r) h1;rw[Nat.pow_succ];have e1:c*(2^r*2)=2*(c*2^r):=by rw[Nat.mul_comm (2^r) 2,Nat.mul_left_comm]
    have e2:(2*c+192)*2^r=2*(c*2^r)+192*2^r:=by rw[Rm,Nat.mul_assoc]
    omega
def Mk{need cap:Nat}(h:cap<need):Builtin.nextslicecap need cap<=need*16+6400:=by
 unfold Builtin.nextslicecap
 split
 . omega
 . split
   . omega
   . have:=Ee 4 need cap;omega
def Ml(he:e.Ok){ρ:aH}{h:ab}{w:World}(x:bA ρ h w){xv aW:Value}(hv:aQ ρ xv aW){z:Value}{elem:TypeId}{sz b n:Nat}{new:List Value}{made:Bool}
 (hz:e.zero elem=some z) (hs:e.size elem=some sz) (hb:e.bytes elem=some b) (bn:z.cells.toList.length=sz) (h0:0<sz)
 (hn:sZ made b xv=some n) (aC:s8 h made z.cells.toList n sz xv=some new):
 (made=true->∃l,aW=.int .i64 l/\IntKind.i64.wrap l=l/\¬l<0/\¬l*(b:Int)>2^48/\l.toNat=n)/\(made=false->∀w',(Builtin.lenOf aW).run e.P w'=.ok n w')/\
 ∃af:Array Value,bQ ρ new af.toList/\∀w',w'.heap=w.heap->(if !made then Builtin.firstCells sz n aW else if n*sz=0 then pure #[]else do pure (Builtin.zeroCells (<-zeroValue elem).cells n):Sem (Array Value)).run e.P w'=.ok af w':=by
 unfold sZ at hn;unfold s8 at aC;cases made with
 |true=>
  simp only[cond_true]at hn aC;cases hi:ou xv with
  |none=>simp[hi]at hn
  |some l=>
   simp only[hi]at hn;obtain⟨hc,hn⟩:=cg hn;cases hn;simp only[yx,decide_eq_true_eq]at hc;obtain⟨⟨c1,c2⟩,c3⟩:=hc;have c3:=HT c3;have hx:=zO hi;subst hx;have hx:=hv.mF;subst hx;cases aC;refine⟨λ_=> ?_,(λh=>by cases h), ?_⟩
   . have hw:IntKind.i64.wrap l=l:=wrap_small c1 c2;have g1:¬l<0:=aa;have hl:(l.toNat:Int)=l:=afr c1;have g2:¬l*(b:Int)>2^48:=by
      have:=Int.ofNat_le.2 c3;rw[afs,hl,Int.mul_comm]at this;omega
     exact⟨l,rfl,hw,g1,g2,rfl⟩
   . by_cases bt:l.toNat*sz=0
     . refine⟨#[], ?_,λw' _=> ?_⟩
       . rw[bt];exact .nil
       . simp only[afd,Fj,if_false,bt,if_true];rfl
     . refine⟨Builtin.zeroCells z.cells l.toNat,Ed (he.ru hz ρ) bn h0,λw' _=> ?_⟩;simp only[afd,Fj,if_false,bt,Sem.run_bind,he.nA hz,Result.andThen_ok,Sem.run_pure]
 |false=>
  simp only[cond_false]at hn aC;refine⟨(λh=>by cases h),λ_ w'=>Ec e.P hv hn w', ?_⟩
  . obtain⟨cs',g1,g2⟩:=zQ e.P x hv aC (λl hl=>by rw[hn]at hl;cases hl;exact Rb _);refine⟨cs',g2,λw' hw=> ?_⟩;simp only[afk,if_true];exact g1 w' hw
def aQ.vd{ρ:aH}{a:Addr}{l k:Nat}{v:Value}(h:aQ ρ (.slice (some a) l k) v):∃c k' pl,v=.slice (some c) l k'/\ρ a.block=some pl/\zG pl a l k c k':=by
 cases h with|sl h1 h2=>exact⟨_,_,_,rfl,h1,h2⟩
def aQ.xh{ρ:aH}{l k:Nat}{v:Value}(h:aQ ρ (.slice none l k) v):v=.slice none l k:=by
 cases h;rfl
def Mm(he:e.Ok){ρ fA:aH}{h:ab}{w:World}(x:bA ρ h w){elem:TypeId}{z:Value}{sz:Nat}{need:Nat}{bp new:List Value}{ah af:Array Value}(bT:Ext fA ρ)
 (bn:z.cells.toList.length=sz) (h0:0<sz) (ho:bQ ρ bp ah.toList) (hn:bQ ρ new af.toList) (hl:bp.length+new.length=need*sz) (ae:Nat) (hc:need<=ae):
 ∃ai,aQ ai (.slice (some ⟨h.next,0,none⟩) need need) (.slice (some ⟨w.heap.size,0,none⟩) need ae)/\
  bA ai (h.new (.row (bp++new) true sz)) (World.add w (.cells (ah++af++Builtin.zeroCells z.cells (ae-need)) elem))/\
  Fr h.next ρ h w ai (h.new (.row (bp++new) true sz)) (World.add w (.cells (ah++af++Builtin.zeroCells z.cells (ae-need)) elem)):=by
 have hv:bQ ρ (bp++new) (ah++af).toList:=by rw[Xt];exact ho.append hn
 obtain⟨ai,pl,g1,g2,g3,g4,g5,g6,g7,g8⟩:=Mf (rest:=Builtin.zeroCells z.cells (ae-need)) x (x.slot _) hv elem h0;refine⟨ai,.sl (a:=⟨h.next,0,none⟩) g1 (.inl ⟨by simp[g2,g3],.inr ⟨aa, ?_, ?_,hc⟩⟩),g7,g8⟩
 . rw[g4,g6,afe,hl];simp
 . rw[g5,g6,afe,hl];have e1:z.cells.size=sz:=by simpa using bn
   have e2:(Builtin.zeroCells z.cells (ae-need)).size=(ae-need)*sz:=by simp[Builtin.zeroCells,e1]
   rw[e2,<-Rm];simp only[Nat.zero_add];congr 1;omega
def Mn(P:Program)(w:World)(bh off:Nat)(c:Array Value)(el:TypeId)(vs:List Value)(hg:w.heap[bh]? =some (.cells c el (0,0)))(hl:off+vs.length<=c.size)(h1:∀v∈vs,v.oneCell'=true):
 (storeCells ⟨bh,off,none⟩ vs).run P w=.ok () (World.gu w bh (.cells (c.toList.take off++vs++c.toList.drop (off+vs.length)).toArray el (0,0))):=by
 have:=run_storeCells_at (P:=P) bh off el vs 0 c w hg aa h1;rw[D5 w bh c el (0,0) _ hg]at this;simpa using this
def Mo(he:e.Ok){ρ:aH}{h h':ab}{w:World}(x:bA ρ h w){base:Option Addr}{len cap sz b n:Nat}{new:List Value}{af:Array Value}{s' r:Value}{elem:TypeId}{z:Value}
 (hs:aQ ρ (.slice base len cap) s') (ba:bQ ρ new af.toList) (hr:pU h base len cap sz b n new=some (r,h')) (h0:0<sz) (bn:z.cells.toList.length=sz) (bm:new.length=n*sz)
 (hz:e.zero elem=some z) (bW:e.bytes elem=some b) (ct:e.size elem=some sz) (zb:Bool) (aW:Value) (appended:Sem (Array Value)) (bo:∀w',w'.heap=w.heap->appended.run e.P w'=.ok af w'):
 fM h.next e.P ρ h w (match s' with
  |.slice base aM aO=>do
   let need:=aM+n
   if need<=aO then
    let new<-appended
    if let some a:=base then storeCells (a.add (aM*sz)) new.toList
    pure (.slice base need aO)
   else
    if(need:Int)>IntKind.i64.max/\(zb\/(<-typeInfo elem).bytes=0)then runtimePanic (.error "growslice: len out of range")
    if Builtin.nextslicecap need aO*(<-typeInfo elem).bytes>2^48 then(if zb then runtimePanic (.error "growslice: len out of range")else do
     if !(<-Builtin.mayShare sz aM n base aW)then mark .noRoom
     unsupported (.resourceLimit "append: a slice or a string whose bytes no memory bears"))
    let ae<-choose (.appendCap need aO elem)
    askRoom (ae*(<-typeInfo elem).bytes)
    let bp<-Builtin.firstCells sz aM s'
    let new<-appended
    let rest:=Builtin.zeroCells (<-zeroValue elem).cells (ae-need)
    pure (.slice (some (<-newRow elem (bp++new++rest))) need ae)
  |_=>stuck "") r h':=by
 have grow:∀(aE:Option Addr) (ad:Nat) (h1:ab) (x1:bA ρ h1 w) (bp:List Value),s'=.slice aE len ad->¬len+n<=ad->(len+n)*(b+1)<=1073741824->bp.length=len*sz->
  (∃ah:Array Value,bQ ρ bp ah.toList/\∀w',w'.heap=w.heap->(Builtin.firstCells sz len s').run e.P w'=.ok ah w')->
  ∃v' w' ai,(do
   if((len+n:Nat):Int)>IntKind.i64.max/\(zb\/(<-typeInfo elem).bytes=0)then runtimePanic (.error "growslice: len out of range")
   if Builtin.nextslicecap (len+n) ad*(<-typeInfo elem).bytes>2^48 then(if zb then runtimePanic (.error "growslice: len out of range")else do
    if !(<-Builtin.mayShare sz len n aE aW)then mark .noRoom
    unsupported (.resourceLimit "append: a slice or a string whose bytes no memory bears"))
   let ae<-choose (.appendCap (len+n) ad elem)
   askRoom (ae*(<-typeInfo elem).bytes)
   let bp<-Builtin.firstCells sz len s'
   let new<-appended
   let rest:=Builtin.zeroCells (<-zeroValue elem).cells (ae-(len+n))
   pure (.slice (some (<-newRow elem (bp++new++rest))) (len+n) ae):Sem Value).run e.P w=.ok v' w'/\
   aQ ai (.slice (some ⟨h1.next,0,none⟩) (len+n) (len+n)) v'/\bA ai (h1.new (.row (bp++new) true sz)) w'/\Fr h1.next ρ h1 w ai (h1.new (.row (bp++new) true sz)) w':=by
  intro aE ad h1 x1 bp cu hn av bq ⟨ah,bX,bY⟩;obtain⟨i,bZ,dS⟩:=he.bytes elem b bW;have bI:len+n<=1073741824:=Nat.le_trans (afu _ (Nat.succ_pos b)) av;have c1:¬(((len+n:Nat):Int)>IntKind.i64.max/\(zb=true\/b=0)):=by
   intro hc;have:(9223372036854775807:Int)<((len+n:Nat):Int):=hc.1;omega
  have b0:=Mk (need:=len+n) (cap:=ad) aa;have c2:¬Builtin.nextslicecap (len+n) ad*b>2^48:=by
   have g1:=afc b b0;have g2:((len+n)*16+6400)*b<=16*((len+n)*(b+1))+6400*b:=by
    rw[Rm,Nat.mul_add,Nat.mul_comm (len+n) 16,Nat.mul_assoc];omega
   have g3:b<=(len+n)*(b+1):=by
    have:1*(b+1)<=(len+n)*(b+1):=afc _ aa;omega
   omega
  have an:∀t,len+n<=(Question.appendCap (len+n) ad elem).cut t:=λt=>Nat.le_add_right _ _
  let w1:World:={w with drawn:=w.drawn+1}
  have x2:bA ρ h1 w1:=x1.draw rfl;obtain⟨ai,k1,k2,k3⟩:=Mm (fA:=ρ) he x2 (Ext.refl _) bn h0 bX ba (need:=len+n) (by rw[bq,bm,<-Rm]) ((Question.appendCap (len+n) ad elem).cut (w.tape w.drawn (.appendCap (len+n) ad elem))) (an _) (elem:=elem);refine⟨_,_,ai, ?_,k1,k2,(D0 (w:=w) (w':=w1) rfl rfl rfl _).trans k3⟩;have hq:(Question.appendCap (len+n) ad elem).forced=false:=rfl;simp only[Sem.run_bind,run_typeInfo bZ,Result.andThen_ok,dS,c1,if_false,c2,run_choose,hq,Fj,run_askRoom,bY ⟨w.heap,w.tape,w.drawn+1,w.os,w.output⟩ rfl,bo ⟨w.heap,w.tape,w.drawn+1,w.os,w.output⟩ rfl,he.nA hz,vc,Sem.run_pure,Sem.run_ite];rfl
 unfold pU at hr;cases hle:WZ (len+n) cap with
 |true=>
  have aP:len+n<=cap:=HT hle;simp only[hle,cond_true]at hr;cases base with
  |none=>
   simp only at hr;obtain⟨bJ,hr⟩:=cg hr;cases hr;have:=hs.xh;subst this;refine fM.same x (v':=.slice none (len+n) cap) ?_ (.ki _ _);simp only[aP,if_true,Sem.run_bind,bo w rfl,Result.andThen_ok,Sem.run_pure]
  |some a=>
   simp only at hr;obtain⟨c,ad,pl,rfl,hp,aS⟩:=hs.vd;cases hw:kc h (a.add (len*sz)) new with
   |none=>simp[hw]at hr
   |some h1=>
    simp only[hw,oY,Ey]at hr;obtain⟨rfl,rfl⟩:=hr;have bf:len+n<=ad:=by rcases aS with⟨_,h1|h1⟩|h1<;>omega
    rcases aS with⟨hc,b1⟩|⟨k1,k2,k3⟩
    . obtain⟨w',g1,g2,g3⟩:=xa e.P (b:=h.next) x (a:=a.add (len*sz)) (pl:=pl) (by rw[Addr.tr];exact hp) ba hw;refine⟨.slice (some c) (len+n) ad,w',ρ, ?_,.sl (g3.ext _ _ hp) (.inl ⟨hc,b1⟩),g2,g3⟩;have bu:c.add (len*sz)=⟨pl.bh,pl.off+(a.add (len*sz)).off,none⟩:=by rw[hc,oA,Addr.rp,aff]
      simp only[bf,if_true,Sem.run_bind,bo w rfl,Result.andThen_ok,bu,g1,Sem.run_pure]
    . have bJ:n=0:=aa;have bL:len=0:=aa;have b2:new=[]:=UR (by rw[bm,bJ,adr]);subst b2;have bw:af.toList=[]:=UR (by rw[<-ba.length];rfl);simp only[kc,oY]at hw;subst hw;refine fM.same x (v':=.slice (some c) (len+n) ad) ?_ (.sl hp (.inr ⟨aa,k2,k3⟩));simp only[bf,if_true,Sem.run_bind,bo w rfl,Result.andThen_ok,bw,storeCells,Sem.run_pure]
 |false=>
  have aP:¬len+n<=cap:=λh=>by rw[afl h]at hle;cases hle
  simp only[hle,cond_false]at hr;obtain⟨av,hr⟩:=cg hr;have av:=HT av;cases base with
  |none=>
   simp only at hr;obtain⟨hb,hr⟩:=cg hr;cases hr;rw[yx]at hb;have bL:len=0:=Q0 hb.1;have cv:cap=0:=Q0 hb.2;have:=hs.xh;subst this;obtain⟨v',w',ai,k1,k2,k3,k4⟩:=grow none cap h x [] rfl aP av (by rw[bL,adr];rfl) ⟨#[],.nil,λ_ _=>rfl⟩;refine⟨v',w',ai, ?_,k2,k3,k4⟩;simp only[aP,if_false];exact k1
  |some a=>
   simp only at hr;obtain⟨c,ad,pl,rfl,hp,aS⟩:=hs.vd;cases ho:fV h a (len*sz)with
   |none=>simp[ho]at hr
   |some bp=>
    cases hg:h.get a.block with
    |none=>simp[ho,hg]at hr
    |some o=>
     cases o with
     |row rs wr ak=>
      simp only[ho,hg]at hr;have b5:ir h sz len (.slice (some a) len cap)=some bp:=ho;obtain⟨ah,f1,f2⟩:=zQ e.P x hs b5 (λl hl=>by cases hl;exact Rb _);have bq:bp.length=len*sz:=by
       obtain⟨cs',q1,q2,_⟩:=tu x hp ho;rw[q1.length];exact q2
      obtain⟨pl',g1,cc,el,fz,g2,g3,g4,g5,g6,g7,g8,g9⟩:=x.obj _ _ hg;rw[hp]at g1;cases g1;cases aw:Nat.beq ak 0||(Nat.beq ak sz&&Nat.blt (a.off+cap*sz) rs.length)with
      |true=>
       simp only[aw,cond_true,oY,Ey]at hr;obtain⟨rfl,rfl⟩:=hr;have aT:¬len+n<=ad:=by
        simp only[afj,yx]at aw;rcases aS with⟨_,h1|⟨h1,h2,h3,h4⟩⟩|⟨h1,h2,h3⟩
        . omega
        . rcases aw with hb|⟨hb,bl⟩
          . have:=Q0 hb;omega
          . have:=Q0 hb;have bl:a.off+cap*sz<rs.length:=HT bl;rw[g5,this,g4]at h2;omega
        . omega
       obtain⟨v',w',ai,k1,k2,k3,k4⟩:=grow (some c) ad h x bp rfl aT av bq ⟨ah,f2,f1⟩;refine⟨v',w',ai, ?_,k2,k3,k4⟩;simp only[aT,if_false];exact k1
      |false=>
       simp only[aw,cond_false]at hr;obtain⟨hb,hr⟩:=cg hr;simp only[oY,Ey]at hr;obtain⟨rfl,rfl⟩:=hr;simp only[yx]at hb;obtain⟨⟨b6,aZ⟩,bz⟩:=hb;have aZ:=Q0 aZ;subst b6;have b7:=g3 rfl;subst b7;by_cases aG:len+n<=ad
       ·
        have hd:c=⟨pl.bh,pl.off+a.off,none⟩/\0<pl.ak/\a.off+cap*pl.ak=pl.n/\a.off+ad*pl.ak=pl.cap:=by
         rcases aS with⟨hc,h1|⟨h1,h2,h3,h4⟩⟩|⟨h1,h2,h3⟩
         . omega
         . exact⟨hc,h1,h2,h3⟩
         . omega
        obtain⟨hc,b9,ca,cb⟩:=hd;have cd:pl.ak=sz:=g5.trans aZ;rw[cd]at b9 ca cb;have hq:(len+n)*sz<=ad*sz:=afc _ aG;have bM:(len+n)*sz=len*sz+n*sz:=Rm _ _ _;have aR:af.toList.length=n*sz:=by rw[<-ba.length];exact bm
        have ch:=Mn e.P w pl.bh (pl.off+a.off+len*sz) cc el af.toList g2 (by rw[aR];omega) (ba.dF bz)
        let pl':Pl:={bh:=pl.bh,off:=pl.off+a.off,n:=(len+n)*sz,cap:=pl.cap-a.off,ak:=sz}
        have hr:iv (ρ.put h.next pl') (World.gu w pl.bh (.cells (cc.toList.take (pl.off+a.off+len*sz)++af.toList++cc.toList.drop (pl.off+a.off+len*sz+af.toList.length)).toArray el (0,0))) pl' (.row (bp++new) true sz):=by
         have cj:pl.bh<w.heap.size:=(Yt.1 g2).1;refine⟨_,el,(0,0),oz w _ _ cj,λ_=>rfl, ?_,rfl, ?_, ?_,λh=>absurd h aa, ?_,λ_=>trivial⟩
         . show(len+n)*sz=(bp++new).length;rw[afe,bq,bm,bM]
         . show(len+n)*sz<=pl.cap-a.off;omega
         . show pl.off+a.off+(pl.cap-a.off)<=_;simp only[List.size_toArray,afe,List.length_take,List.length_drop,afm];simp only[afm]at aR;omega
         . show bQ _ (bp++new) ((_:List Value).take ((len+n)*sz));simp only;have ck:pl.off+a.off+(len+n)*sz<=cc.toList.length:=by rw[afm];omega
           rw[D7 cc.toList (pl.off+a.off) ((len+n)*sz) (len*sz) af.toList (by rw[aR];omega) ck];obtain⟨cs',q1,q2,q3⟩:=tu x hp ho;have bB:cs'=(cc.toList.drop (pl.off+a.off)).take (len*sz):=by
            apply List.ext_getElem?;intro i;rcases Nat.lt_or_ge i (len*sz)with hi|hi
            . have bD:=q3 i cs'[i] (afv aa);rw[oA]at bD;simp only[World.cell?,g2,afi,Fj,if_false]at bD;rw[afw,if_pos hi,List.getElem?_drop,afv (by omega:i<cs'.length),<-bD,Array.getElem?_toList]
            . rw[List.getElem?_eq_none aa,afw,if_neg aa]
           have bE:dN ((cc.toList.drop (pl.off+a.off)).take ((len+n)*sz)) (len*sz) af.toList=cs'++af.toList:=by
            unfold dN;rw[List.take_take,Nat.min_eq_left aa,<-bB,aR,<-bM,List.drop_take,Nat.sub_self,List.take_zero,List.append_nil]
           rw[bE];exact(q1.append ba).mono λ_ _=>aQ.mono (aH.rm pl' x.fresh)
        obtain⟨m1,m2⟩:=L6 (pl':=pl') x hg rfl hp rfl rfl hr rfl;refine⟨.slice (some c) (len+n) ad,_,_, ?_,.sl (a:=⟨h.next,0,none⟩) (pl:=pl') (aH.kM _ _ _) (.inl ⟨hc,.inr ⟨h0, ?_, ?_,aG⟩⟩),m1,m2⟩
        . have bu:c.add (len*sz)=⟨pl.bh,pl.off+a.off+len*sz,none⟩:=by rw[hc,oA]
          simp only[aG,if_true,Sem.run_bind,bo w rfl,Result.andThen_ok,bu,ch,Sem.run_pure]
        . show 0+(len+n)*sz=(len+n)*sz;omega
        . show 0+ad*sz=pl.cap-a.off;omega
       . obtain⟨x1,cl⟩:=x.kill a.block h.next;obtain⟨v',w',ai,k1,k2,k3,k4⟩:=grow (some c) ad (h.set a.block none) x1 bp rfl aG av bq ⟨ah,f2,f1⟩;refine⟨v',w',ai, ?_,k2,k3,cl.trans k4⟩;simp only[aG,if_false];exact k1
     |_=>simp[ho,hg]at hr
end Go.aD
end
noncomputable section
namespace Go.aD
variable {e:Env}
def Mp(he:e.Ok){ρ:aH}{h h':ab}{w:World}(x:bA ρ h w){ah:Array TypeId}{s s' xv ai r:Value}(hs:aQ ρ s s')(hx:aQ ρ xv ai)
 (hr:nv e h ah s xv=some (r,h')) (ty:TypeId):fM h.next e.P ρ h w (Builtin.append_ ah ty #[s',ai]) r h':=by
 unfold nv at hr;cases aa:ah[0]? with
 |none=>simp[aa]at hr
 |some st=>
 cases aw:ah[1]? with
 |none=>simp[aa,aw]at hr
 |some xt=>
 have an:∃base len cap,s=.slice base len cap:=by
  cases s<;>simp[aa,aw]at hr;exact⟨_,_,_,rfl⟩
 obtain⟨base,len,cap,rfl⟩:=an;simp only[aa,aw]at hr;cases hu:e.under st with
 |none=>simp[hu]at hr
 |some d=>
 cases d with
 |slice elem=>
  cases aA:e.under xt with
  |none=>simp[hu,aA]at hr
  |some xd=>
  simp only[hu,aA]at hr;cases ad:e.size elem with
  |none=>simp[ad]at hr
  |some sz=>
  cases hz:e.zero elem with
  |none=>simp[ad,hz]at hr
  |some z=>
  cases az:e.bytes elem with
  |none=>simp[ad,hz,az]at hr
  |some aJ=>
  simp only[ad,hz,az]at hr;cases hn:sZ (ov xd) aJ xv with
  |none=>simp[hn]at hr
  |some n=>
  simp only[hn]at hr;cases ao:s8 h (ov xd) z.cells.toList n sz xv with
  |none=>simp[ao]at hr
  |some new=>
  simp only[ao]at hr;obtain⟨hb,hr⟩:=cg hr;simp only[yx]at hb;obtain⟨⟨aM,aO⟩,aP⟩:=hb;have h0:0<sz:=HT aM;have aC:z.cells.toList.length=sz:=Q0 aO;have aR:new.length=n*sz:=Q0 aP;obtain⟨aS,aT,aV,aW,aE⟩:=Ml he x hx hz ad az aC h0 hn ao;have key:=Mo he x hs aW hr h0 aC aR hz az ad (ov xd) ai _ aE;obtain⟨v',w',aX,k1,k2⟩:=key;refine⟨v',w',aX, ?_,k2⟩;have aj:(#[s',ai]:Array Value)[0]? =some s':=rfl;have av:(#[s',ai]:Array Value)[1]? =some ai:=rfl;obtain⟨ae,af,rfl⟩:∃ae af,s'=.slice ae len af:=by
   cases hs with
   |ki l k=>exact⟨_,_,rfl⟩
   |sl _ _=>exact⟨_,_,rfl⟩
  obtain⟨i,oi,aY⟩:=he.bytes elem aJ az;cases xd with
  |int k=>
   obtain⟨l,rfl,q1,q2,q3,q4⟩:=aS rfl;have av:(#[Value.slice ae len af,.int .i64 l]:Array Value)[1]? =some (.int .i64 l):=rfl;have aj:(#[Value.slice ae len af,.int .i64 l]:Array Value)[0]? =some (.slice ae len af):=rfl;simp only[Builtin.append_,aa,aw,aj,av,Sem.run_bind,he.dj hu,he.dj aA,Result.andThen_ok,he.iw ad,Sem.run_pure,if_true,afd,Fj,if_false,asInt,asIntOf,q1,q2,run_typeInfo oi,aY,q3,q4];simp only[ov,afd,Fj,if_true,if_false]at k1⊢;exact k1
  |_=>
   simp only[Builtin.append_,aa,aw,aj,av,Sem.run_bind,he.dj hu,he.dj aA,Result.andThen_ok,he.iw ad,Sem.run_pure,afk,if_true,Fj,if_false,aT rfl w];simp only[ov,afk,Fj,if_true,if_false]at k1⊢;exact k1
 |_=>simp[hu]at hr
def Mq(he:e.Ok){ρ:aH}{h h':ab}{w:World}(x:bA ρ h w){ah:Array TypeId}{d d' xv ai r:Value}(hd:aQ ρ d d')(hx:aQ ρ xv ai)
 (hr:wV e h ah d xv=some (r,h')) (ty:TypeId):fM h.next e.P ρ h w (Builtin.copy_ ah ty #[d',ai]) r h':=by
 unfold wV at hr;cases aa:ah[0]? with
 |none=>simp[aa]at hr
 |some dt=>
 have an:∃base len cap,d=.slice base len cap:=by
  cases d<;>simp[aa]at hr;exact⟨_,_,_,rfl⟩
 obtain⟨base,len,cap,rfl⟩:=an;simp only[aa]at hr;cases hu:e.under dt with
 |none=>simp[hu]at hr
 |some td=>
 cases td with
 |slice elem=>
  cases hl:pT xv with
  |none=>simp[hu,hl]at hr
  |some xl=>
  simp only[hu,hl]at hr;cases ad:e.size elem with
  |none=>simp[ad]at hr
  |some sz=>
  simp only[ad]at hr;cases hf:ir h sz (YN xl len) xv with
  |none=>simp[hf]at hr
  |some cs=>
  simp only[hf]at hr;obtain⟨hb,hr⟩:=cg hr;have aK:=Q0 hb;obtain⟨cs',g1,g2⟩:=zQ e.P x hx hf (λl aL=>by rw[hl]at aL;cases aL;exact Nat.min_le_left _ _);have aj:(#[d',ai]:Array Value)[0]? =some d':=rfl;have av:(#[d',ai]:Array Value)[1]? =some ai:=rfl;have aG:=Ec e.P hx hl w;cases base with
  |none=>
   simp only[oY,Ey]at hr;obtain⟨rfl,rfl⟩:=hr;have:=hd.xh;subst this;refine fM.same x (v':=.int .i64 (YN xl len:Nat)) ?_ (.int _ _);simp only[Builtin.copy_,aa,aj,av,Sem.run_bind,he.dj hu,Result.andThen_ok,aG,he.iw ad,g1 w rfl,Sem.run_pure,goInt]
  |some a=>
   simp only at hr;cases hw:kc h a cs with
   |none=>simp[hw]at hr
   |some h1=>
    simp only[hw,oY,Ey]at hr;obtain⟨rfl,rfl⟩:=hr;obtain⟨c,af,pl,rfl,hp,an⟩:=hd.vd;rcases an with⟨hc,_⟩|⟨k1,_,_⟩
    . obtain⟨w',q1,q2,q3⟩:=xa e.P (b:=h.next) x hp g2 hw;refine⟨.int .i64 (YN xl len:Nat),w',ρ, ?_,.int _ _,q2,q3⟩;rw[<-hc]at q1;simp only[Builtin.copy_,aa,aj,av,Sem.run_bind,he.dj hu,Result.andThen_ok,aG,he.iw ad,g1 w rfl,q1,Sem.run_pure,goInt]
    . have h0:YN xl len=0:=by rw[k1];exact Nat.min_zero _
      rw[h0,adr]at aK;have hn:cs=[]:=UR aK;subst hn;simp only[kc,oY]at hw;subst hw;have aZ:cs'.toList=[]:=UR (by rw[<-g2.length];rfl);refine fM.same x (v':=.int .i64 (YN xl len:Nat)) ?_ (.int _ _);simp only[Builtin.copy_,aa,aj,av,Sem.run_bind,he.dj hu,Result.andThen_ok,aG,he.iw ad,g1 w rfl,aZ,storeCells,Sem.run_pure,goInt]
 |_=>simp[hu]at hr
def Mr(he:e.Ok){ρ:aH}{h h':ab}{w:World}(x:bA ρ h w){ah:Array TypeId}{d d' r:Value}(hd:aQ ρ d d')
 (hr:uX e h ah d=some (r,h')) (ty:TypeId):fM h.next e.P ρ h w (Builtin.clear_ ah ty #[d']) r h':=by
 unfold uX at hr;cases aa:ah[0]? with
 |none=>simp[aa]at hr
 |some dt=>
 have an:∃base len cap,d=.slice base len cap:=by
  cases d<;>simp[aa]at hr;exact⟨_,_,_,rfl⟩
 obtain⟨base,len,cap,rfl⟩:=an;simp only[aa]at hr;cases hu:e.under dt with
 |none=>simp[hu]at hr
 |some td=>
 cases td with
 |slice elem=>
  simp only[hu]at hr;cases ad:e.size elem with
  |none=>simp[ad]at hr
  |some sz=>
  cases hz:e.zero elem with
  |none=>simp[ad,hz]at hr
  |some z=>
  simp only[ad,hz]at hr;obtain⟨hb,hr⟩:=cg hr;rw[yx]at hb;have h0:0<sz:=HT hb.1;have aC:z.cells.toList.length=sz:=Q0 hb.2;have aj:(#[d']:Array Value)[0]? =some d':=rfl;have tv:aQ ρ (.tuple #[]) (.tuple #[]):=.tuple rfl λi v v' h=>by simp at h
  cases base with
  |none=>
   simp only[oY,Ey]at hr;obtain⟨rfl,rfl⟩:=hr;have:=hd.xh;subst this;refine fM.same x (v':=.tuple #[]) ?_ tv;simp only[Builtin.clear_,aa,aj,Sem.run_bind,he.dj hu,Result.andThen_ok,Sem.run_pure]
  |some a=>
   obtain⟨h1,hw,hr⟩:=afn.1 hr;simp only[Ey]at hr;obtain⟨rfl,rfl⟩:=hr;obtain⟨c,af,pl,rfl,hp,an⟩:=hd.vd;cases len with
   |zero=>
    have e0:dY z.cells.toList (0*sz)=[]:=by simp[dY]
    rw[e0]at hw;simp only[kc,oY]at hw;subst hw;refine fM.same x (v':=.tuple #[]) ?_ tv;simp only[Builtin.clear_,aa,aj,Sem.run_bind,he.dj hu,Result.andThen_ok,Sem.run_pure]
   |succ n=>
    rcases an with⟨hc,_⟩|⟨k1,_,_⟩
    . obtain⟨w',q1,q2,q3⟩:=xa e.P (b:=h.next) x hp (Ed (he.ru hz ρ) aC h0) hw;refine⟨.tuple #[],w',ρ, ?_,tv,q2,q3⟩;rw[<-hc]at q1;simp only[Builtin.clear_,aa,aj,Sem.run_bind,he.dj hu,Result.andThen_ok,he.nA hz,q1,Sem.run_pure]
    . cases k1
 |_=>simp[hu]at hr
end Go.aD
end
noncomputable section
namespace Go.aD
variable {e:Env}
def Ef{ρ:aH}{d:TypeDesc}{a a':Value}(ha:aQ ρ a a'):fL d a'=fL d a:=by
 cases ha<;>cases d<;>rfl
def Ms(v:Value):Prop:=match v with
 |.pointer _|.slice _ _ _|.map _|.nilFunc|.func _ _ _|.nilIface|.iface _ _=>True
 |_=>False
def Eg{d:TypeDesc}{a:Value}{b:Bool}(h:fL d a=some b):Ms a:=by
 cases d<;>simp only[fL]at h<;>first|cases h|(cases a<;>first|trivial|cases h)
def Mt{P:Program}{t:TypeId}{d:TypeDesc}(hu:P.underlying t=some d){a b:Value}{q:Bool}(h1:fL d a=some q)(h2:fL d b=some !q)(w:World)(n:Nat):
 (Op.equalIn (n+1) t a b).run P w=.ok false w:=by
 have hr:=run_underlying (w:=w) hu;cases d with
 |pointer el=>
  cases a with
  |pointer a=>
   cases b with
   |pointer b=>cases a<;>cases b<;>cases q<;>simp[fL]at h1 h2<;>simp only[Op.equalIn,Sem.run_bind,hr,Result.andThen_ok,Sem.run_pure,afo]
   |_=>simp[fL]at h2
  |_=>simp[fL]at h1
 |slice el=>
  cases a with
  |slice a l k=>
   cases b with
   |slice b m j=>cases a<;>cases b<;>cases q<;>simp[fL]at h1 h2<;>simp only[Op.equalIn,Sem.run_bind,hr,Result.andThen_ok,Sem.run_pure,afo]
   |_=>simp[fL]at h2
  |_=>simp[fL]at h1
 |map k el=>
  cases a with
  |map a=>
   cases b with
   |map b=>cases a<;>cases b<;>cases q<;>simp[fL]at h1 h2<;>simp only[Op.equalIn,Sem.run_bind,hr,Result.andThen_ok,Sem.run_pure,afo]
   |_=>simp[fL]at h2
  |_=>simp[fL]at h1
 |func ps rs v=>
  cases a<;>simp only[fL]at h1<;>first|(cases h1;done)|skip
  all_goals cases b<;>simp only[fL]at h2<;>first|(cases h2;done)|skip
  all_goals cases q<;>first|(cases h1;done)|(cases h2;done)|skip
  all_goals simp only[Op.equalIn,Sem.run_bind,hr,Result.andThen_ok,Sem.run_pure]
 |interface ms=>
  cases a<;>simp only[fL]at h1<;>first|(cases h1;done)|skip
  all_goals cases b<;>simp only[fL]at h2<;>first|(cases h2;done)|skip
  all_goals cases q<;>first|(cases h1;done)|(cases h2;done)|skip
  all_goals simp only[Op.equalIn,Sem.run_bind,hr,Result.andThen_ok,Sem.run_pure]
 |_=>cases h1
def Eh{P:Program}{t:TypeId}{d:TypeDesc}(hu:P.underlying t=some d){a b:Value}(h:s9 d a b=true)(w:World)(x y:Operand)(op:BinOp)(an:op=.eql\/op=.neq):
 (do eqGuard op t x y a b;binOp op t a b:Sem Value).run P w=.ok (.bool (op==.neq)) w:=by
 obtain⟨q,h1,h2⟩:∃q,fL d a=some q/\fL d b=some !q:=by
  unfold s9 at h
  split at h
  . rename_i g1 g2;exact⟨true,g1,g2⟩
  . rename_i g1 g2;exact⟨false,g1,g2⟩
  . cases h
 have heq:(Op.equal t a b).run P w=.ok false w:=Mt hu h1 h2 w 9999;have na:=Eg h1;have nb:=Eg h2;have hg:(eqGuard op t x y a b).run P w=.ok () w:=by
  rcases an with rfl|rfl
  all_goals
   cases a<;>first|exact na.elim|skip
   all_goals cases b<;>first|exact nb.elim|skip
   all_goals first|rfl|skip
   all_goals
    exfalso;cases d<;>simp only[fL]at h1 h2<;>first|(cases h1;done)|(cases h1;cases h2)
 have hb:(binOp op t a b).run P w=.ok (.bool (op==.neq)) w:=by
  rcases an with rfl|rfl
  all_goals
   cases a<;>first|exact na.elim|skip
   all_goals cases b<;>first|exact nb.elim|skip
   all_goals
    simp only[binOp,Sem.run_bind,heq,Result.andThen_ok,Sem.run_pure];rfl
 simp only[Sem.run_bind,hg,Result.andThen_ok,hb]
def Mu(P:Program)(w:World)(op:BinOp)(t:TypeId)(x y:Operand)(k j:IntKind)(m n:Int):(eqGuard op t x y (.int k m) (.int j n)).run P w=.ok () w:=by
 cases op<;>rfl
def Mv{P:Program}{op:BinOp}{k:IntKind}{m n:Int}{r:Value}(h:kK op k m n=some r)(t:TypeId)(w:World)(ρ:aH):
 (binOp op t (.int k m) (.int k n)).run P w=.ok r w/\aQ ρ r r:=by
 unfold kK at h;cases op<;>cases h
 all_goals refine⟨?_,by first|exact .int _ _|exact .bool _⟩
 all_goals simp only[binOp,ne_eq,not_true_eq_false,if_false,Op.intArith,Op.intCmp,Sem.run_pure]
 all_goals first|rfl|(congr 2;done)|(congr 2;simp only[bne,beq_eq_decide])
def Mw(he:e.Ok){ρ:aH}(w:World){op:BinOp}{t:TypeId}{x y:Operand}{a a' b b' r:Value}(ha:aQ ρ a a')(hb:aQ ρ b b')(hr:cL e op t x y a b=some r):
 ∃r',(do eqGuard op t x y a' b';binOp op t a' b':Sem Value).run e.P w=.ok r' w/\aQ ρ r r':=by
 unfold cL at hr
 split at hr
 . rename_i v hv;cases hr
   split at hv
   . rename_i k n k' m;obtain⟨hk,az⟩:=cg hv;rw[decide_eq_true_eq]at hk;subst hk;have:=ha.mF;subst this;have:=hb.mF;subst this;obtain⟨g1,g2⟩:=Mv (P:=e.P) az t w ρ;exact⟨r,by simp only[Sem.run_bind,Mu,Result.andThen_ok,g1],g2⟩
   . cases hv
 . cases hp:plain a&&plain b with
   |true=>
    simp only[hp,cond_true]at hr;rw[yx]at hp;have:=pZ hp.1 ha;subst this;have:=pZ hp.2 hb;subst this;exact⟨r,ry hr w⟩
   |false=>
    simp only[hp,cond_false]at hr;cases hu:e.under t with
    |none=>simp[hu]at hr
    |some d=>
     simp only[hu]at hr;obtain⟨hn,hr⟩:=cg hr;have ao:s9 d a' b'=true:=by
      unfold s9 at hn⊢;rw[Ef ha,Ef hb];exact hn
     cases op<;>simp only at hr<;>first|(cases hr;done)|skip
     . cases hr;exact⟨_,Eh (he.under t d hu) ao w x y .eql (.inl rfl),.bool _⟩
     . cases hr;exact⟨_,Eh (he.under t d hu) ao w x y .neq (.inr rfl),.bool _⟩
def rA{P:Program}{w:World}{r:Nat}{es:Array MapEntry}{c:Nat}(h:w.heap[r]? =some (.map es c)):(getObj r).run P w=.ok (.map es c) w:=by simp only[getObj,Sem.run,h]
def xi{P:Program}{w:World}{r:Nat}{o:Obj}(p:Obj)(h:w.heap[r]? =some p)(hp:∀c t f,p≠.cells c t f):(setObj r o).run P w=.ok () (World.gu w r o):=by
 unfold setObj;simp only[Sem.run,h];cases p with
 |cells c t f=>exact absurd rfl (hp c t f)
 |_=>rfl
def findNow_spec{kd:TypeDesc}{k:Value}(P:Program)(kt:TypeId)(ρ:aH):∀{es aa:List MapEntry} {i:Nat} {r:Option (Nat×Value)},aU (eM ρ) es aa->gr P kt k es i=some r->
 (∀x,kg P kt k x≠none->Instr.sameNow kd k x=kg P kt k x)->
 ∃r',Instr.findNow kd k aa i=some r'/\r'.map (·.1)=r.map (·.1)/\∀j v,r=some (j,v)->∃v',r'=some (j,v')/\aQ ρ v v'
 |[],_,i,r,.nil,h,_=>by
  simp only[gr,oY]at h;subst h;exact⟨none,rfl,rfl,λj v h=>by cases h⟩
 |x::es,_,i,r,.cons (b:=y) hx ht,h,hk=>by
  simp only[gr]at h;cases hq:kg P kt k x.key with
  |none=>simp[hq]at h
  |some q=>
   have hn:Instr.sameNow kd k y.key=some q:=by
    rw[hx.key,hk x.key (by rw[hq];simp),hq]
   cases q with
   |true=>
    simp only[hq,oY]at h;subst h;refine⟨some (i,y.val),by simp only[Instr.findNow,hn],rfl,λj v h=> ?_⟩;cases h;exact⟨y.val,rfl,hx.val⟩
   |false=>
    simp only[hq]at h;obtain⟨r',g1,g2,g3⟩:=findNow_spec P kt ρ ht h hk;exact⟨r',by simp only[Instr.findNow,hn,g1],g2,g3⟩
def Ei{P:Program}{kt:TypeId}{cs:Array Value}(ρ:aH)(w:World):∀{es aa:List MapEntry} {i:Nat} {r:Option (Nat×Value)},aU (eM ρ) es aa->gr P kt (.agg cs) es i=some r->
 ∃r',(Instr.findAsking kt (.agg cs) aa i).run P w=.ok r' w/\r'.map (·.1)=r.map (·.1)/\∀j v,r=some (j,v)->∃v',r'=some (j,v')/\aQ ρ v v'
 |[],_,i,r,.nil,h=>by
  simp only[gr,oY]at h;subst h;exact⟨none,rfl,rfl,λj v h=>by cases h⟩
 |x::es,_,i,r,.cons (b:=y) hx ht,h=>by
  simp only[gr]at h;cases hq:kg P kt (.agg cs) x.key with
  |none=>simp[hq]at h
  |some q=>
   have hn:(Op.equal kt (.agg cs) y.key).run P w=.ok q w:=by
    rw[hx.key];exact u5 P _ _ (by simpa only[kg]using hq) w
   cases q with
   |true=>
    simp only[hq,oY]at h;subst h;refine⟨some (i,y.val),by simp only[Instr.findAsking,Sem.run_bind,hn,Result.andThen_ok,if_true,Sem.run_pure],rfl,λj v h=> ?_⟩;cases h;exact⟨y.val,rfl,hx.val⟩
   |false=>
    simp only[hq]at h;obtain⟨r',g1,g2,g3⟩:=Ei ρ w ht h;exact⟨r',by simp only[Instr.findAsking,Sem.run_bind,hn,Result.andThen_ok,Fj,if_false,g1],g2,g3⟩
def Ej(he:e.Ok){ρ:aH}(w:World){kt:TypeId}{kd:TypeDesc}(hu:e.under kt=some kd){k:Value}(hk:nu kd k=true){es aa:List MapEntry}{r:Option (Nat×Value)}(h2:aU (eM ρ) es aa)
 (hr:gr e.P kt k es 0=some r):∃r',(Instr.findKey kt k aa).run e.P w=.ok r' w/\r'.map (·.1)=r.map (·.1)/\∀j v,r=some (j,v)->∃v',r'=some (j,v')/\aQ ρ v v':=by
 have now:(∀x,kg e.P kt k x≠none->Instr.sameNow kd k x=kg e.P kt k x)->∃r',(Instr.findKey kt k aa).run e.P w=.ok r' w/\r'.map (·.1)=r.map (·.1)/\∀j v,r=some (j,v)->∃v',r'=some (j,v')/\aQ ρ v v':=λhs=>by
  obtain⟨r',g1,g2,g3⟩:=findNow_spec (kd:=kd) e.P kt ρ h2 hr hs;exact⟨r',by simp only[Instr.findKey,Sem.run_bind,he.dj hu,Result.andThen_ok,g1,Sem.run_pure],g2,g3⟩
 have ask:∀cs,k=.agg cs->(∀x,Instr.sameNow kd (.agg cs) x=none)->∃r',(Instr.findKey kt k aa).run e.P w=.ok r' w/\r'.map (·.1)=r.map (·.1)/\∀j v,r=some (j,v)->∃v',r'=some (j,v')/\aQ ρ v v':=λcs aA hs=>by
  subst aA;cases h2 with
  |nil=>
   simp only[gr,oY]at hr;subst hr;exact⟨none,by simp only[Instr.findKey,Sem.run_bind,he.dj hu,Result.andThen_ok,Instr.findNow,Sem.run_pure],rfl,λj v h=>by cases h⟩
  | @cons x y xs ys hx ht=>
   obtain⟨r',g1,g2,g3⟩:=Ei ρ w (.cons hx ht) hr;refine⟨r', ?_,g2,g3⟩;simp only[Instr.findKey,Sem.run_bind,he.dj hu,Result.andThen_ok,Instr.findNow,hs,g1]
 cases k with
 |int j a=>
  cases kd<;>first|(cases hk;done)|skip
  refine now λx hx=> ?_;cases x with
  |int j' b=>
   simp only[kg,Instr.sameNow];by_cases hj:j=j'<;>simp[hj]
  |_=>exact absurd rfl hx
 |string a=>
  cases kd<;>first|(cases hk;done)|skip
  refine now λx hx=> ?_;cases x with
  |string b=>rfl
  |_=>exact absurd rfl hx
 |bool a=>
  cases kd<;>first|(cases hk;done)|skip
  refine now λx hx=> ?_;cases x with
  |bool b=>rfl
  |_=>exact absurd rfl hx
 |agg cs=>
  cases kd<;>first|(cases hk;done)|skip
  . exact ask cs rfl λx=>rfl
  . exact ask cs rfl λx=>rfl
 |_=>cases kd<;>cases hk
def aQ.map_some{ρ:aH}{i:Nat}{v:Value}(h:aQ ρ (.map (some i)) v):∃pl,ρ i=some pl/\v=.map (some pl.bh):=by cases h with|map h=>exact⟨_,h,rfl⟩
def aQ.map_none{ρ:aH}{v:Value}(h:aQ ρ (.map none) v):v=.map none:=by cases h;rfl
def Ek{ρ:aH}{es:List MapEntry}{aa:Array MapEntry}(h:aU (eM ρ) es aa.toList):aa.isEmpty=es.isEmpty:=by
 have:=h.length;cases es with
 |nil=>simp at this⊢;exact afg this.symm
 |cons x xs=>simp at this⊢;intro h0;rw[h0]at this;simp at this
def Mx(he:e.Ok){ρ:aH}{h:ab}{w:World}(x:bA ρ h w){t:TypeId}{m m' k k' r:Value}{ok:Bool}(hm:aQ ρ m m')(hk:aQ ρ k k')(hr:pS e h t m k ok=some r):
 ∃r',(Instr.lookup t m' k' ok).run e.P w=.ok r' w/\aQ ρ r r':=by
 unfold pS at hr;cases hu:e.under t with
 |none=>simp[hu]at hr
 |some d=>
 cases d with
 |map kt et=>
  simp only[hu]at hr;have aC:∀es,(match m with|.map none=>some []|.map (some r)=>(match h.get r with|some (.map es _)=>some es|_=>none)|_=>none:Option (List MapEntry))=some es->
   ∃aa:Array MapEntry,aU (eM ρ) es aa.toList/\((m'=.map none/\aa=#[])\/∃r c,m'=.map (some r)/\w.heap[r]? =some (.map aa c)):=by
   intro es h1;cases m with
   |map q=>
    cases q with
    |none=>
     have:=hm.map_none;subst this;cases h1;exact⟨#[],.nil,.inl ⟨rfl,rfl⟩⟩
    |some i=>
     obtain⟨pl,hp,rfl⟩:=hm.map_some;simp only at h1;cases ho:h.get i with
     |none=>simp[ho]at h1
     |some o=>
      cases o with
      |map aM clock=>
       simp only[ho,oY]at h1;subst h1;obtain⟨pl',g1,g2,aa,g3,g4⟩:=x.obj _ _ ho;rw[hp]at g1;cases g1;exact⟨aa,g4,.inr ⟨_,_,rfl,g3⟩⟩
      |_=>simp[ho]at h1
   |_=>cases h1
  split at hr
  . cases hr
  . rename_i es ah;obtain⟨aa,g1,g2⟩:=aC es ah;cases ae:e.under kt with
    |none=>simp[ae]at hr
    |some kd=>
     simp only[ae]at hr;obtain⟨hb,hr⟩:=cg hr;rw[yx]at hb;have:=pZ hb.1 hk;subst this;cases hc:b8 e.P (Instr.checkKey es.isEmpty 10000 kt k')with
     |none=>simp[hc]at hr
     |some u=>
      simp only[hc]at hr;have ad:=u5 e.P _ _ hc w;rw[<-Ek g1]at ad;cases hf:gr e.P kt k' es 0 with
      |none=>simp[hf]at hr
      |some q=>
       simp only[hf]at hr;obtain⟨q',f1,f2,f3⟩:=Ej he w ae hb.2 g1 hf;cases q with
       |some jv=>
        obtain⟨j,v⟩:=jv;obtain⟨v',f4,f5⟩:=f3 j v rfl;subst f4;simp only[oY]at hr;subst hr;refine⟨if ok then .tuple #[v',.bool true]else v', ?_, ?_⟩
        . rcases g2 with⟨rfl,rfl⟩|⟨r,c,rfl,ai⟩
          . simp only[Instr.lookup,Sem.run_bind,he.dj hu,Result.andThen_ok,ad,f1,Sem.run_pure]
          . simp only[Instr.lookup,Sem.run_bind,he.dj hu,Result.andThen_ok,rA ai,ad,f1,Sem.run_pure]
        . cases ok with
          |true=>exact aQ.kj.2 (.cons f5 (.cons (.bool _) .nil))
          |false=>exact f5
       |none=>
        have:q'=none:=by cases q'<;>simp at f2⊢
        subst this;simp only at hr;cases hz:e.zero et with
        |none=>simp[hz]at hr
        |some z=>
         simp only[hz]at hr;obtain⟨av,hr⟩:=cg hr;cases hr;refine⟨if ok then .tuple #[z,.bool false]else z, ?_, ?_⟩
         . rcases g2 with⟨rfl,rfl⟩|⟨r,c,rfl,ai⟩
           . simp only[Instr.lookup,Sem.run_bind,he.dj hu,Result.andThen_ok,ad,f1,he.nA hz,Sem.run_pure]
           . simp only[Instr.lookup,Sem.run_bind,he.dj hu,Result.andThen_ok,rA ai,ad,f1,he.nA hz,Sem.run_pure]
         . cases ok with
           |true=>exact aQ.kj.2 (.cons (nz av) (.cons (.bool _) .nil))
           |false=>exact nz av
 |_=>simp[hu]at hr
def aU.modify{ρ:aH}{es aa:List MapEntry}(h:aU (eM ρ) es aa)(i:Nat)(f g:MapEntry->MapEntry)(aE:∀a b,eM ρ a b->eM ρ (f a) (g b)):aU (eM ρ) (es.modify i f) (aa.modify i g):=by
 induction h generalizing i with
 |nil=>simpa using aU.nil
 |cons h t ih=>
  cases i with
  |zero=>simpa using aU.cons (aE _ _ h) t
  |succ i=>simpa using aU.cons h (ih i)
def El(he:e.Ok){b:Nat}{ρ:aH}{h h':ab}{w:World}(x:bA ρ h w){t:TypeId}{m m' k k' v v':Value}(hm:aQ ρ m m')(hk:aQ ρ k k')(hv:aQ ρ v v')(hr:qT e h t m k v=some h'):
 ∃w',(Instr.mapUpdate t m' k' v').run e.P w=.ok () w'/\bA ρ h' w'/\Fr b ρ h w ρ h' w':=by
 unfold qT at hr;cases hu:e.under t with
 |none=>simp[hu]at hr
 |some d=>
 cases d with
 |map kt et=>
  cases m with
  |map q=>
   cases q with
   |none=>simp[hu]at hr
   |some i=>
    obtain⟨pl,hp,rfl⟩:=hm.map_some;simp only[hu]at hr;cases ho:h.get i with
    |none=>simp[ho]at hr
    |some o=>
     cases o with
     |map es clock=>
      simp only[ho]at hr;obtain⟨pl',g1,g2,aa,g3,g4⟩:=x.obj _ _ ho;rw[hp]at g1;cases g1;cases ae:e.under kt with
      |none=>simp[ae]at hr
      |some kd=>
       simp only[ae]at hr;obtain⟨hb,hr⟩:=cg hr;rw[yx]at hb;have:=pZ hb.1 hk;subst this;cases hc:b8 e.P (Instr.checkKey false 10000 kt k')with
       |none=>simp[hc]at hr
       |some u=>
        simp only[hc]at hr;have ad:=u5 e.P _ _ hc w;cases hf:gr e.P kt k' es 0 with
        |none=>simp[hf]at hr
        |some q=>
         simp only[hf]at hr;obtain⟨q',f1,f2,f3⟩:=Ej he w ae hb.2 g4 hf;have af:∀o,(setObj pl.bh o).run e.P w=.ok () (World.gu w pl.bh o):=λo=>xi _ g3 (λ_ _ _ h=>by cases h);have aw:pl.bh<w.heap.size:=(Yt.1 g3).1;cases q with
         |some jv=>
          obtain⟨j,u⟩:=jv;obtain⟨u',f4,f5⟩:=f3 j u rfl;subst f4;simp only at hr;obtain⟨aG,hr⟩:=cg hr;cases hr;have aj:((aa[j]?).map (·.key)).getD k'=((es[j]?).map (·.key)).getD k':=by
           cases hj:es[j]? with
           |none=>
            have:aa[j]? =none:=by
             rw[List.getElem?_eq_none_iff]at hj;have:=g4.length;simp at this⊢;omega
            rw[this]
           |some a=>
            obtain⟨c,aJ,aK⟩:=g4.get j a hj;have:aa[j]? =some c:=by simpa using aJ
            rw[this];simp[aK.key]
          refine⟨World.gu w pl.bh (.map (aa.modify j λx=>{x with key:=k',val:=v'}) clock), ?_,rn x ho rfl hp rfl ⟨g2,_,oz _ _ _ aw, ?_⟩ rfl⟩
          . simp only[Instr.mapUpdate,Sem.run_bind,he.dj hu,Result.andThen_ok,rA g3,ad,f1,Instr.keyThatStays,aj,aG,if_true,Sem.run_pure,af]
          . rw[Array.toList_modify];exact g4.modify j _ _ λa c aL=>⟨rfl,hb.1,hv,aL.born⟩
         |none=>
          have:q'=none:=by cases q'<;>simp at f2⊢
          subst this;simp only[oY]at hr;subst hr;refine⟨World.gu w pl.bh (.map (aa.push {key:=k',val:=v',born:=clock}) (clock+1)), ?_,rn x ho rfl hp rfl ⟨g2,_,oz _ _ _ aw, ?_⟩ rfl⟩
          . simp only[Instr.mapUpdate,Sem.run_bind,he.dj hu,Result.andThen_ok,rA g3,ad,f1,af]
          . rw[Array.toList_push];exact g4.append (.cons ⟨rfl,hb.1,hv,rfl⟩ .nil)
     |_=>simp[ho]at hr
  |_=>simp[hu]at hr
 |_=>simp[hu]at hr
end Go.aD
end
noncomputable section
namespace Go.aD
variable {e:Env}
def aU.filter{ρ:aH}{es aa:List MapEntry}(h:aU (eM ρ) es aa)(p q:MapEntry->Bool)(aA:∀a b,eM ρ a b->q b=p a):aU (eM ρ) (es.filter p) (aa.filter q):=by
 induction h with
 |nil=>exact .nil
 |cons h t ih=>
  simp only[List.filter_cons,aA _ _ h]
  split
  . exact .cons h ih
  . exact ih
def aU.all{ρ:aH}{es aa:List MapEntry}(h:aU (eM ρ) es aa)(p q:MapEntry->Bool)(aA:∀a b,eM ρ a b->q b=p a):aa.all q=es.all p:=by
 induction h with
 |nil=>rfl
 |cons h t ih=>simp only[List.all_cons,aA _ _ h,ih]
def aU.find{ρ:aH}{es aa:List MapEntry}(h:aU (eM ρ) es aa)(p q:MapEntry->Bool)(aA:∀a b,eM ρ a b->q b=p a){x:MapEntry}(hx:es.find? p=some x):∃y,aa.find? q=some y/\eM ρ x y:=by
 induction h with
 |nil=>cases hx
 |cons h t ih=>
  simp only[List.find?_cons,aA _ _ h]at hx⊢
  split at hx
  . cases hx;exact⟨_,rfl,h⟩
  . exact ih hx
def ve{P:Program}{w:World}{r:Nat}{o:Obj}(h:w.heap[r]? =some o)(hp:∀c t f,o≠.cells c t f):(getObj r).run P w=.ok o w:=by
 cases o with
 |cells c t f=>exact absurd rfl (hp c t f)
 |_=>simp only[getObj,Sem.run,h]
def Em(P:Program)(w:World):(choose (.mapNext 1)).run P w=.ok 0 w:=by
 simp only[run_choose];rfl
def My{b:Nat}(P:Program){ρ:aH}{h h':ab}{w:World}(x:bA ρ h w){it aC r:Value}{s:Bool}(hi:aQ ρ it aC)(hr:pV h it s=some (r,h'))(ty:TypeId):
 fM b P ρ h w (Instr.next aC s ty) r h':=by
 unfold pV at hr
 split at hr
 . rename_i i;obtain⟨pl,hp,rfl⟩:=hi.oC
   split at hr
   ·
    rename_i str pos ho;obtain⟨pl',g1,g2,g3⟩:=x.obj _ _ ho;rw[hp]at g1;cases g1;have an:=ve (P:=P) g3 (λ_ _ _ h=>by cases h);have aK:pl.bh<w.heap.size:=(Yt.1 g3).1;have hz:pl.off+0=0:=by rw[g2]
    cases ae:Nat.blt pos str.size with
    |true=>
     have af:pos<str.size:=HT ae;simp only[ae,cond_true,oY,Ey]at hr;obtain⟨rfl,rfl⟩:=hr;obtain⟨k1,k2⟩:=rn (b:=b) (o:=.stringIter str (pos+(Utf8.decode str pos).2)) (ao':=.eO str (pos+(Utf8.decode str pos).2)) x ho rfl hp rfl ⟨g2,oz _ _ _ aK⟩ rfl;refine⟨.tuple #[.bool true,.int .i64 pos,.int .i32 (Utf8.decode str pos).1],_,ρ, ?_,aQ.kj.2 (.cons (.bool _) (.cons (.int _ _) (.cons (.int _ _) .nil))),k1,k2⟩;simp only[Instr.next,hz,Sem.run_bind,an,Result.andThen_ok,af,if_true,xi _ g3 (λ_ _ _ h=>by cases h),Sem.run_pure,goInt]
    |false=>
     have af:¬pos<str.size:=λhc=>by rw[show Nat.blt pos str.size=true from afl hc]at ae;cases ae
     simp only[ae,cond_false,oY,Ey]at hr;obtain⟨rfl,rfl⟩:=hr;refine fM.same x (v':=.tuple #[.bool false]) ?_ (aQ.kj.2 (.cons (.bool _) .nil));simp only[Instr.next,hz,Sem.run_bind,an,Result.andThen_ok,af,if_false,Sem.run_pure]
   ·
    rename_i since seen last ho;cases hr;obtain⟨pl',g1,g2,m',g3,g4⟩:=x.obj _ _ ho;rw[hp]at g1;cases g1;have hm:m'=none:=by have:=g4.map_none;cases this;rfl
    subst hm;have an:=ve (P:=P) g3 (λ_ _ _ h=>by cases h);have hz:pl.off+0=0:=by rw[g2]
    refine fM.same x (v':=.tuple #[.bool false]) ?_ (aQ.kj.2 (.cons (.bool _) .nil));simp only[Instr.next,hz,Sem.run_bind,an,Result.andThen_ok,Sem.run_pure]
   ·
    rename_i m since seen last ho;obtain⟨pl',g1,g2,m',g3,g4⟩:=x.obj _ _ ho;rw[hp]at g1;cases g1;obtain⟨aL,aE,hm⟩:=g4.map_some;cases hm;have an:=ve (P:=P) g3 (λ_ _ _ h=>by cases h);have hz:pl.off+0=0:=by rw[g2]
    have aK:pl.bh<w.heap.size:=(Yt.1 g3).1;cases ao:h.get m with
    |none=>simp[ao]at hr
    |some o=>
     cases o with
     |map es clock=>
      simp only[ao]at hr;obtain⟨pl',q1,q2,aa,q3,q4⟩:=x.obj _ _ ao;rw[aE]at q1;cases q1;have aS:=rA (P:=P) q3;have ah:(!seen.toArray.isEmpty&& !aa.isEmpty&&aa.all λx=>decide (x.born>=last))=(!seen.isEmpty&& !es.isEmpty&&es.all λx=>WZ last x.born):=by
       rw[Ek q4,<-Array.all_toList];have:aa.toList.all (λx=>decide (x.born>=last))=es.all λx=>WZ last x.born:=aU.all q4 _ _ λa c av=>by
        rw[av.born];by_cases hc:last<=a.born
        . rw[afl hc];simpa using hc
        . have:WZ last a.born=false:=by
           cases aT:WZ last a.born with
           |true=>exact absurd (HT aT) hc
           |false=>rfl
          rw[this];simpa using hc
       rw[this];simp
      generalize hC:(!seen.isEmpty&& !es.isEmpty&&es.all λx=>WZ last x.born)=C at hr ah;cases C with
      |true=>cases hr
      |false=>
       simp only[cond_false]at hr;have az:=aU.filter q4 (λx=> !seen.contains x.born) (λx=> !seen.contains x.born) λa c av=>by simp only[av.born]
       have hold:=aU.filter az (λx=>decide (x.born<since)) (λx=>decide (x.born<since)) λa c av=>by simp only[av.born]
       have ai:=aU.filter az (λx=>decide (x.born>=since)) (λx=>decide (x.born>=since)) λa c av=>by simp only[av.born]
       have e1:((aa.filter λx=> !seen.toArray.contains x.born).filter λx=>decide (x.born<since)).toList=(aa.toList.filter λx=> !seen.contains x.born).filter λx=>decide (x.born<since):=by
        simp
       have e2:((aa.filter λx=> !seen.toArray.contains x.born).filter λx=>decide (x.born>=since)).toList=(aa.toList.filter λx=> !seen.contains x.born).filter λx=>decide (x.born>=since):=by
        simp
       rw[<-e1]at hold;rw[<-e2]at ai;generalize hO:((aa.filter λx=> !seen.toArray.contains x.born).filter λx=>decide (x.born<since))=O at hold;generalize hN:((aa.filter λx=> !seen.toArray.contains x.born).filter λx=>decide (x.born>=since))=N at ai;generalize aW:((es.filter λx=> !seen.contains x.born).filter λx=>decide (x.born<since))=O1 at hold hr;generalize aX:((es.filter λx=> !seen.contains x.born).filter λx=>decide (x.born>=since))=N1 at ai hr
       split at hr
       . simp only[oY,Ey]at hr;obtain⟨rfl,rfl⟩:=hr;have aM:O=#[]:=by have:=hold.length;apply afg;simpa using this.symm
         have aO:N=#[]:=by have:=ai.length;apply afg;simpa using this.symm
         subst aM;subst aO;refine fM.same x (v':=.tuple #[.bool false]) ?_ (aQ.kj.2 (.cons (.bool _) .nil));simp only[Instr.next,hz,Sem.run_bind,an,Result.andThen_ok,aS,ah,Fj,if_false,hO,hN];have aj:((if(#[]:Array MapEntry).isEmpty=true then#[none]else#[])++Array.map some (#[]++#[]:Array MapEntry))=#[none]:=aw;have h1:(#[none]:Array (Option MapEntry)).size=1:=rfl;have h0:(#[none]:Array (Option MapEntry))[0]? =some none:=rfl;simp only[aj,h1,Em,Result.andThen_ok,h0,Sem.run_pure]
       . rename_i y;simp only[oY,Ey]at hr;obtain⟨rfl,rfl⟩:=hr;obtain⟨y',aM,aG⟩:∃y',O=#[y']/\eM ρ y y':=by
          cases aP:O.toList with
          |nil=>rw[aP]at hold;cases hold
          |cons y' ys=>
           rw[aP]at hold;cases hold with
           |cons hy ht=>
            cases ht;exact⟨y',by rw[<-afp (xs:=O),aP],hy⟩
         have aO:N=#[]:=by have:=ai.length;apply afg;simpa using this.symm
         subst aM;subst aO;obtain⟨k1,k2⟩:=rn (b:=b) (o:=.mapIter (some aL.bh) since (seen.toArray.push y'.born) clock) (ao':=.cC (some m) since (seen++[y.born]) clock) x ho rfl hp rfl
          ⟨g2,some aL.bh,by rw[oz _ _ _ aK,aG.born];simp,.map aE⟩ rfl
         refine⟨.tuple #[.bool true,y'.key,y'.val],_,ρ, ?_,aQ.kj.2 (.cons (.bool _) (.cons (by rw[aG.key];exact nz aG.plain) (.cons aG.val .nil))),k1,k2⟩;simp only[Instr.next,hz,Sem.run_bind,an,Result.andThen_ok,aS,ah,Fj,if_false,hO,hN];have aj:((if(#[y']:Array MapEntry).isEmpty=true then#[none]else#[])++Array.map some (#[y']++#[]:Array MapEntry))=#[some y']:=aw;have h1:(#[some y']:Array (Option MapEntry)).size=1:=rfl;have h0:(#[some y']:Array (Option MapEntry))[0]? =some (some y'):=rfl;simp only[aj,h1,Em,Result.andThen_ok,h0,Sem.run_bind,xi _ g3 (λ_ _ _ h=>by cases h),Sem.run_pure]
       . cases hr
     |_=>simp[ao]at hr
   . cases hr
 . cases hr
def Mz(P:Program){ρ:aH}{h:ab}{w:World}(x:bA ρ h w){it aC r:Value}(hi:aQ ρ it aC)(hr:qV h it=some r):
 ∃r',(Instr.entry aC).run P w=.ok r' w/\aQ ρ r r':=by
 unfold qV at hr
 split at hr
 . rename_i i;obtain⟨pl,hp,rfl⟩:=hi.oC
   split at hr
   . rename_i m since seen aJ ho;obtain⟨pl',g1,g2,m',g3,g4⟩:=x.obj _ _ ho;rw[hp]at g1;cases g1;obtain⟨aL,aE,hm⟩:=g4.map_some;cases hm;have an:=ve (P:=P) g3 (λ_ _ _ h=>by cases h);have hz:pl.off+0=0:=by rw[g2]
     cases hl:seen.getLast? with
     |none=>simp[hl]at hr
     |some ad=>
      cases ao:h.get m with
      |none=>simp[hl,ao]at hr
      |some o=>
       cases o with
       |map es clock=>
        simp only[hl,ao]at hr;obtain⟨pl',q1,q2,aa,q3,q4⟩:=x.obj _ _ ao;rw[aE]at q1;cases q1;obtain⟨hc,aR⟩:=cg hr;clear hr;have hc:=Q0 hc;subst hc;cases hf:es.find? λx=>x.born==ad with
        |none=>simp[hf]at aR
        |some y=>
         simp only[hf,oY]at aR;subst aR;obtain⟨y',k1,k2⟩:=aU.find q4 _ (λx=>x.born==ad) (λa c av=>by simp only[av.born]) hf;refine⟨.tuple #[y'.key,y'.val], ?_,aQ.kj.2 (.cons (by rw[k2.key];exact nz k2.plain) (.cons k2.val .nil))⟩;have hb:seen.toArray.back? =some ad:=by simpa using hl
         have aV:aa.find? (λx=>x.born==ad)=some y':=by rw[<-Array.find?_toList];exact k1
         simp only[Instr.entry,hz,Sem.run_bind,an,Result.andThen_ok,hb,rA q3,bne_self_eq_false,Fj,if_false,aV,Sem.run_pure]
       |_=>simp[hl,ao]at hr
   . cases hr
 . cases hr
end Go.aD
end
noncomputable section
namespace Go.aD
variable {e:Env}
def of_map{α β:Type}{x:Option α}{f:α->β}{r:β}(h:x.map f=some r):∃a,x=some a/\f a=r:=by
 cases x with
 |none=>cases h
 |some a=>exact⟨a,rfl,Option.some.inj h⟩
def dZ(e:Env)(ρ:aH)(h:ab)(w:World)(s:Sem Next):AR->Prop
 |.val v h'=>∃v' w' af,s.run e.P w=.ok (.value v') w'/\aQ af v v'/\bA af h' w'/\Fr h.next ρ h w af h' w'
 |.skip h'=>∃w' af,s.run e.P w=.ok .skip w'/\bA af h' w'/\Fr h.next ρ h w af h' w'
 |.enter f args h'=>h'=h/\∃ae:Array Value,bQ ρ args ae.toList/\∀fn,e.fn f=some fn->s.run e.P w=.ok (.enter f ae) w
 |.round l args h'=>h'=h/\∃(pl:Pl) (ae:Array Value),ρ l=some pl/\bQ ρ args ae.toList/\s.run e.P w=(Instr.yield pl.bh ae).run e.P w
 |.defer f args cap h'=>h'=h/\∃ae an:Array Value,bQ ρ args ae.toList/\bQ ρ cap an.toList/\s.run e.P w=.ok (.defer {target:=.fn (.func f) an,args:=ae}) w
def dZ.same{ρ:aH}{h:ab}{w:World}{s:Sem Next}{v v':Value}(x:bA ρ h w)(hr:s.run e.P w=.ok (.value v') w)(hv:aQ ρ v v'):dZ e ρ h w s (.val v h):=
 ⟨v',w,ρ,hr,hv,x,Fr.refl _ _ _ _⟩
def dZ.gives{ρ:aH}{h h':ab}{w:World}{s:Sem Value}{v:Value}(g:fM h.next e.P ρ h w s v h'):dZ e ρ h w (do pure (.value (<-s))) (.val v h'):=by
 obtain⟨v',w',af,g1,g2⟩:=g;exact⟨v',w',af,by simp only[Sem.run_bind,g1,Result.andThen_ok,Sem.run_pure],g2⟩
def aQ.rB{ρ:aH}{fn:Fn}{a c:Array Value}{v:Value}(h:aQ ρ (.func fn a c) v):∃aA a' c',v=.func aA a' c'/\kh ρ fn aA/\bQ ρ a.toList a'.toList/\bQ ρ c.toList c'.toList:=by
 cases h with|func hf h1 h2 h3 h4=>exact⟨_,_,_,rfl,hf,rk h1 h2,rk h3 h4⟩
def kh.rB{ρ:aH}{f:FuncId}{g:Fn}(h:kh ρ (.func f) g):g=.func f:=by cases h;rfl
def kh.MA{ρ:aH}{l:Nat}{g:Fn}(h:kh ρ (.yield l) g):∃pl,ρ l=some pl/\g=.yield pl.bh:=by cases h with|yield h=>exact⟨_,h,rfl⟩
def xj{ρ:aH}{vs:List Value}{args:Array Operand}{f:Operand->Value}(h:bQ ρ vs (args.toList.map f)):bQ ρ vs (args.map f).toList:=by rwa[aft]
def En{ρ:aH}{a b:Value}{xs:Array Value}(h:bQ ρ [a,b] xs.toList):∃a' b',xs=#[a',b']/\aQ ρ a a'/\aQ ρ b b':=by
 cases hx:xs.toList with
 |nil=>rw[hx]at h;cases h
 |cons a' t=>
  rw[hx]at h;cases h with
  |cons ha ht=>
   cases ht with
   | @cons _ b' _ y hb hn=>
    cases hn;exact⟨a',b',by rw[<-afp (xs:=xs),hx],ha,hb⟩
def zR{ρ:aH}{a:Value}{xs:Array Value}(h:bQ ρ [a] xs.toList):∃a',xs=#[a']/\aQ ρ a a':=by
 cases hx:xs.toList with
 |nil=>rw[hx]at h;cases h
 |cons a' t=>
  rw[hx]at h;cases h with
  |cons ha ht=>
   cases ht;exact⟨a',by rw[<-afp (xs:=xs),hx],ha⟩
def Eo{ρ:aH}{vs:List Value}{xs:Array Value}(h:bQ ρ vs xs.toList)(hp:vs.all plain=true):xs=vs.toArray:=by
 have:xs.toList=vs:=by
  generalize xs.toList=l at h
  induction h with
  |nil=>rfl
  |cons ha _ ih=>
   simp only[List.all_cons,yx]at hp;rw[pZ hp.1 ha,ih hp.2]
 rw[<-this]
def MB(he:e.Ok){n:Nat}{ρ:aH}{h:ab}{w:World}{t:Tr Value}{a:Array Value}{ds:List Deferred}(hg:Gl e ρ)(ht:jK ρ t n a)(x:bA ρ h w)
 {c:Call} {r:AR} (hr:lr e h t c=some r) (ty:TypeId):dZ e ρ h w (do let d<-resolve (Act.mk a ds).eval c ty;invoke d.target d.args) r:=by
 unfold lr at hr;cases ha:db e t c.args.toList with
 |none=>simp[ha]at hr
 |some args=>
  simp only[ha]at hr;have aa:=xj (u6 hg ht ds ha);cases hc:c.callee with
  |invoke r m=>simp[hc]at hr
  |value f=>
   simp only[hc]at hr;cases hf:aE e t f with
   |none=>simp[hf]at hr
   |some fv=>
    simp only[hf]at hr;have aM:=kl hg ht hf ds;cases fv with
    |func fn first cap=>
     obtain⟨aA,a',c',e1,e2,e3,e4⟩:=aM.rB;simp only[ny]at hr;have ah:(resolve (Act.mk a ds).eval c ty).run e.P w=.ok {target:=.fn aA c',args:=a'++c.args.map (Act.mk a ds).eval} w:=by
      simp only[resolve,hc,Deferred.ofValue,e1,Sem.run_pure]
     cases fn with
     |func g=>
      have:=e2.rB;subst this;simp only[oY]at hr;subst hr;refine⟨rfl,a'++c.args.map (Act.mk a ds).eval++c', ?_,λfn aO=> ?_⟩
      . rw[Xt,Xt];exact(e3.append aa).append e4
      . simp only[Sem.run_bind,ah,Result.andThen_ok,invoke,(he.fn g fn aO).2]
     |yield l=>
      obtain⟨pl,hp,rfl⟩:=e2.MA;simp only[oY]at hr;subst hr;refine⟨rfl,pl,a'++c.args.map (Act.mk a ds).eval,hp, ?_, ?_⟩
      . rw[Xt];exact e3.append aa
      . simp only[Sem.run_bind,ah,Result.andThen_ok,invoke]
     |_=>cases hr
    |_=>simp[ny]at hr
  |builtin b=>
   simp only[hc]at hr;have ah:(resolve (Act.mk a ds).eval c ty).run e.P w=.ok {target:=.builtin b c.argTypes ty (c.args.map λ|.const _=>true|_=>false),args:=c.args.map (Act.mk a ds).eval} w:=by
    simp only[resolve,hc,Sem.run_pure];rfl
   have step:∀{s:Sem Value} {v:Value} {h':ab},builtin b c.argTypes ty (c.args.map λ|.const _=>true|_=>false) (c.args.map (Act.mk a ds).eval)=(do pure (.value (<-s)))->fM h.next e.P ρ h w s v h'->
    dZ e ρ h w (do let d<-resolve (Act.mk a ds).eval c ty;invoke d.target d.args) (.val v h'):=λhb aP=>by
    obtain⟨v',w',af,g1,g2⟩:=dZ.gives aP;refine⟨v',w',af, ?_,g2⟩;simp only[Sem.run_bind,ah,Result.andThen_ok,invoke,hb];simpa only[Sem.run_bind]using g1
   split at hr
   . rename_i s y;obtain⟨⟨r1,r2⟩,h1,rfl⟩:=of_map hr;obtain⟨s',y',e1,e2,e3⟩:=En aa;refine step (s:=Builtin.append_ c.argTypes ty (c.args.map (Act.mk a ds).eval)) rfl ?_;rw[e1];exact Mp he x e2 e3 h1 ty
   . rename_i s y;obtain⟨⟨r1,r2⟩,h1,rfl⟩:=of_map hr;obtain⟨s',y',e1,e2,e3⟩:=En aa;refine step (s:=Builtin.copy_ c.argTypes ty (c.args.map (Act.mk a ds).eval)) rfl ?_;rw[e1];exact Mq he x e2 e3 h1 ty
   . rename_i s;obtain⟨⟨r1,r2⟩,h1,rfl⟩:=of_map hr;obtain⟨s',e1,e2⟩:=zR aa;refine step (s:=Builtin.clear_ c.argTypes ty (c.args.map (Act.mk a ds).eval)) rfl ?_;rw[e1];exact Mr he x e2 h1 ty
   . rename_i y;cases ao:c.argTypes[0]? with
     |none=>simp[ao]at hr
     |some aR=>
      simp only[ao]at hr;obtain⟨r1,h1,rfl⟩:=of_map hr;obtain⟨y',e1,e2⟩:=zR aa;refine step (s:=Builtin.len_ c.argTypes ty (c.args.map (Act.mk a ds).eval)) rfl ?_;rw[e1];obtain⟨r',k1,k2⟩:=Mi he x e2 h1 c.argTypes ao ty;exact fM.same x k1 k2
   . rename_i y;cases ao:c.argTypes[0]? with
     |none=>simp[ao]at hr
     |some aR=>
      simp only[ao]at hr;obtain⟨r1,h1,rfl⟩:=of_map hr;obtain⟨y',e1,e2⟩:=zR aa;refine step (s:=Builtin.cap_ c.argTypes ty (c.args.map (Act.mk a ds).eval)) rfl ?_;rw[e1];obtain⟨r',k1,k2⟩:=Mj he x e2 h1 c.argTypes ao ty;exact fM.same x k1 k2
   . obtain⟨hp,hr⟩:=cg hr;obtain⟨r1,h1,rfl⟩:=of_map hr;refine step (s:=Builtin.min_ c.argTypes ty (c.args.map (Act.mk a ds).eval)) rfl ?_;rw[Eo aa hp];obtain⟨k1,k2⟩:=ry (ρ:=ρ) h1 w;exact fM.same x k1 k2
   . obtain⟨hp,hr⟩:=cg hr;obtain⟨r1,h1,rfl⟩:=of_map hr;refine step (s:=Builtin.max_ c.argTypes ty (c.args.map (Act.mk a ds).eval)) rfl ?_;rw[Eo aa hp];obtain⟨k1,k2⟩:=ry (ρ:=ρ) h1 w;exact fM.same x k1 k2
   . cases hr
def zS{ρ:aH}{t:Tr Value}{n:Nat}{a:Array Value}(hg:Gl e ρ)(ht:jK ρ t n a)(ds:List Deferred){o:Option Operand}{v:Option Value}
 (h:(match o with|none=>some none|some o=>(aE e t o).map some)=some v):nC ρ v (o.map (Act.mk a ds).eval):=by
 cases o with
 |none=>cases h;exact .none
 |some o=>
  obtain⟨u,h1,rfl⟩:=of_map h;exact .some (kl hg ht h1 ds)
def Ep{ρ:aH}:∀{cs cs':List Value} {ns:List Int},bQ ρ cs cs'->qW cs=some ns->cs'=ns.map (Value.int .u8)
 |[],_,ns,.nil,h=>by simp only[qW,oY]at h;subst h;rfl
 |c::cs,_,ns,.cons h1 h2,h=>by
  match c,h1,h with
  |.int .u8 n,h1,h=>
   simp only[qW,afn]at h;obtain⟨r,h3,rfl⟩:=h;have:=h1.mF;subst this;rw[Ep h2 h3];rfl
def MC(he:e.Ok){ρ:aH}{h:ab}{w:World}(x:bA ρ h w){s d:TypeId}{v v' u:Value}(hv:aQ ρ v v')(hb:ow e h s d v=some u):(convert s d v').run e.P w=.ok u w/\aQ ρ u u:=by
 unfold ow at hb
 split at hb
 . rename_i a len cap el hu hd
   split at hb
   . rename_i aT
     split at hb
     . rename_i cs hc;simp only[afn]at hb;obtain⟨ns,h1,rfl⟩:=hb;refine⟨?_,.string _⟩;cases hv with
       | @sl _ c _ _ k' pl hp hs=>
        obtain⟨cs',g1,g2,g3⟩:=tu x hp hc;have e1:=Ep g1 h1;have hl:(loadCells c len).run e.P w=.ok (ns.map (Value.int .u8)).toArray w:=by
         rcases hs with⟨aV,_⟩|⟨h1,_,_⟩
         . have:=run_loadCells_list (P:=e.P) w _ cs' g3;rw[g2,<-aV,e1]at this;exact this
         . have aW:cs'=[]:=UR (g2.trans h1);rw[aW]at e1;rw[<-e1,h1];rfl
        rw[run_convert_bytes_string w s d el (some c) len k' (he.under s _ hu) (he.under el _ aT) (he.under d _ hd),run_bytesToString w c len k' ns hl];rfl
     . cases hb
   . cases hb
 . cases hb
def Er(he:e.Ok){n:Nat}{ρ:aH}{h:ab}{w:World}{t:Tr Value}{a:Array Value}{ds:List Deferred}(hg:Gl e ρ)(ht:jK ρ t n a)(x:bA ρ h w)
 {o:Oper} {r:AR} (hr:aS e h t o.op=some r):dZ e ρ h w (execOp (Act.mk a ds).eval o) r:=by
 have V:∀{y:Operand} {v:Value},aE e t y=some v->aQ ρ v ((Act.mk a ds).eval y):=λhy=>kl hg ht hy ds;have al:∀{ob:bR} {f:Nat->Value},cU e t o.op=some (ob,f)->dZ e ρ h w (execOp (Act.mk a ds).eval o) (.val (f h.next) (h.new ob)):=λhA=>by
  obtain⟨v',w',af,g1,g2,g3,g4,_⟩:=Ea he (b:=h.next) hg ht x (ds:=ds) hA (x.slot _);exact⟨v',w',af,g1,g2,g3,g4⟩
 obtain⟨dst,op,ty,pos,after,guard⟩:=o;simp only at hr al;cases op with
 |move y=>
  obtain⟨v,h1,rfl⟩:=of_map (by simpa only[aS]using hr);exact dZ.same x rfl (V h1)
 |assign y=>
  obtain⟨v,h1,rfl⟩:=of_map (by simpa only[aS]using hr);exact dZ.same x rfl (V h1)
 |pick c p q=>
  simp only[aS]at hr
  split at hr
  . rename_i hc;obtain⟨v,h1,rfl⟩:=of_map hr;have:=(V hc).oB;refine dZ.same x ?_ (V h1);simp only[execOp,this,asBool,Sem.run_bind,Sem.run_pure,Result.andThen_ok,if_true]
  . rename_i hc;obtain⟨v,h1,rfl⟩:=of_map hr;have:=(V hc).oB;refine dZ.same x ?_ (V h1);simp only[execOp,this,asBool,Sem.run_bind,Sem.run_pure,Result.andThen_ok,Fj,if_false]
  . cases hr
 |alloc elem=>
  simp only[aS]at hr
  split at hr
  . cases hr
  . rename_i ob f hA;cases hr;exact al hA
 |box elem y=>
  simp only[aS]at hr
  split at hr
  . cases hr
  . rename_i ob f hA;cases hr;exact al hA
 |buildSlice st len parts=>
  simp only[aS]at hr
  split at hr
  . cases hr
  . rename_i ob f hA;cases hr;exact al hA
 |makeMap mt r=>
  simp only[aS]at hr
  split at hr
  . cases hr
  . rename_i ob f hA;cases hr;exact al hA
 |makeSlice st l c=>
  simp only[aS]at hr
  split at hr
  . cases hr
  . rename_i ob f hA;cases hr;exact al hA
 |build bt parts=>
  simp only[aS]at hr
  split at hr
  . cases hr
  . rename_i ps hp;obtain⟨v,h1,rfl⟩:=of_map hr;have aC:=zL hg ht ds hp;obtain⟨v',k1,k2⟩:=Me he w (ps':=parts.map λ(i,y)=>(i,(Act.mk a ds).eval y)) (by simpa using aC) h1;refine dZ.same x ?_ k2;simp only[execOp,Sem.run_bind,k1,Result.andThen_ok,Sem.run_pure]
 |load lt y=>
  simp only[aS]at hr
  split at hr
  . cases hr
  . rename_i ad hp;obtain⟨v,h1,rfl⟩:=of_map hr;obtain⟨u,ai,aj⟩:=nB hp;have:=vb aj;subst this;obtain⟨pl,q1,q2⟩:=(V ai).oC;obtain⟨v',k1,k2⟩:=D3 he x q1 h1;refine dZ.same x ?_ k2;simp only[execOp,Instr.loadAt,Instr.sureAddr,q2,Sem.run_bind,Sem.run_pure,Result.andThen_ok,k1]
 |store lt y z=>
  simp only[aS]at hr
  split at hr
  . rename_i ad v hp hv;obtain⟨h',h1,rfl⟩:=of_map hr;obtain⟨u,ai,aj⟩:=nB hp;have:=vb aj;subst this;obtain⟨pl,q1,q2⟩:=(V ai).oC;obtain⟨w',k1,k2,k3⟩:=Mb he (b:=h.next) x q1 (V hv) h1;refine⟨w',ρ, ?_,k2,k3⟩;simp only[execOp,Instr.storeAt,Instr.sureAddr,q2,Sem.run_bind,Sem.run_pure,Result.andThen_ok,k1]
  . cases hr
 |nilCheck y=>
  simp only[aS]at hr
  split at hr
  . rename_i ad hp;cases hr;obtain⟨pl,q1,q2⟩:=(V hp).oC;refine dZ.same x ?_ (V hp);simp only[execOp,q2,Sem.run_pure]
  . rename_i f p q hp;cases hr;obtain⟨aA,a',c',e1,e2,e3,e4⟩:=(V hp).rB;have:=e2.rB;subst this;refine dZ.same x ?_ (V hp);simp only[execOp,e1,Sem.run_pure]
  . cases hr
 |binOp bo bt y z yt=>
  simp only[aS]at hr
  split at hr
  . rename_i p q hp hq;obtain⟨v,h1,rfl⟩:=of_map hr;obtain⟨v',k1,k2⟩:=Mw he w (V hp) (V hq) h1;refine dZ.same x ?_ k2;simp only[execOp];rw[Sem.run_bind,k1];rfl
  . cases hr
 |unOp uo ut y=>
  simp only[aS]at hr
  split at hr
  . rename_i p hp;obtain⟨aG,hr⟩:=cg hr;obtain⟨v,h1,rfl⟩:=of_map hr;obtain⟨k1,k2⟩:=ry (ρ:=ρ) h1 w;rw[<-pZ aG (V hp)]at k1;refine dZ.same x ?_ k2;simp only[execOp,Sem.run_bind,k1,Result.andThen_ok,Sem.run_pure]
  . cases hr
 |convert cs cd y=>
  simp only[aS]at hr
  split at hr
  . rename_i p hp;cases aG:plain p with
    |true=>
     rw[aG]at hr;obtain⟨v,h1,rfl⟩:=of_map hr;obtain⟨k1,k2⟩:=ry (ρ:=ρ) h1 w;rw[<-pZ aG (V hp)]at k1;refine dZ.same x ?_ k2;simp only[execOp,Sem.run_bind,k1,Result.andThen_ok,Sem.run_pure]
    |false=>
     rw[aG]at hr;obtain⟨v,h1,rfl⟩:=of_map hr;obtain⟨k1,k2⟩:=MC he x (V hp) h1;refine dZ.same x ?_ k2;simp only[execOp,Sem.run_bind,k1,Result.andThen_ok,Sem.run_pure]
  . cases hr
 |makeInterface it y=>
  simp only[aS]at hr
  split at hr
  . cases hr
  . rename_i v d aX hp hu;cases hr;refine dZ.same x (v':=.iface it ((Act.mk a ds).eval y)) ?_ (.iface (V hp));cases d with
    |interface ms=>exact(aX ms rfl).elim
    |_=>simp only[execOp,Instr.makeInterface,Sem.run_bind,he.dj hu,Result.andThen_ok,Sem.run_pure]
  . cases hr
 |makeFunc fn first cap=>
  cases fn with
  |func f=>
   simp only[aS]at hr
   split at hr
   . rename_i p q hp hq;cases hr;have k1:=xj (u6 hg ht ds hp);have k2:=xj (u6 hg ht ds hq);refine dZ.same x (v':=.func (.func f) (first.map (Act.mk a ds).eval) (cap.map (Act.mk a ds).eval)) ?_ ?_
     . simp only[execOp,Instr.makeFunc,Sem.run_bind,Sem.run_pure,Result.andThen_ok]
     . have g1:=tp (a:=p.toArray) (a':=first.map (Act.mk a ds).eval) (by simpa using k1);have g2:=tp (a:=q.toArray) (a':=cap.map (Act.mk a ds).eval) (by simpa using k2);exact .func (.func f) g1.1 g1.2 g2.1 g2.2
   . cases hr
  |_=>simp[aS]at hr
 |slice st y lo hi mx=>
  simp only[aS]at hr
  split at hr
  . rename_i p l hh m hp hl aY hm;obtain⟨v,h1,rfl⟩:=of_map hr;obtain⟨v',k1,k2⟩:=Mh he x (V hp) (zS hg ht ds hl) (zS hg ht ds aY) (zS hg ht ds hm) h1;refine dZ.same x ?_ k2;simp only[execOp,Sem.run_bind,k1,Result.andThen_ok,Sem.run_pure]
  . cases hr
 |fieldAddr st y f=>
  simp only[aS]at hr
  split at hr
  . rename_i ad fields hp hu
    split at hr
    . rename_i off size hf;obtain⟨hs,hr⟩:=cg hr;cases hr;obtain⟨u,ai,aj⟩:=nB hp;have:=vb aj;subst this;obtain⟨pl,q1,q2⟩:=(V ai).oC;unfold ke at hf;cases av:fields[f]? with
      |none=>simp[av]at hf
      |some fd=>
       simp only[av]at hf;cases aJ:e.size fd.type with
       |none=>simp[aJ]at hf
       |some s=>
        simp only[aJ,oY,Ey]at hf;obtain⟨rfl,rfl⟩:=hf;have h0:¬s=0:=by have:0<s:=HT hs;omega
        refine dZ.same x (v':=.pointer (some ⟨pl.bh,pl.off+(ad.add fd.offset).off,none⟩)) ?_ (.ptr (by rw[Addr.tr];exact q1));simp only[execOp,Instr.fieldAt,Sem.run_bind,he.dj hu,Result.andThen_ok,av,Instr.sureAddr,q2,Sem.run_pure,fieldPlace,he.iw aJ,h0,if_false,oA,Addr.rp,aff]
    . cases hr
  . cases hr
 |field ft y f=>
  simp only[aS]at hr
  split at hr
  . rename_i cs fields hp hu;cases av:fields[f]? with
    |none=>simp[av]at hr
    |some fd=>
     simp only[av]at hr;obtain⟨v,h1,rfl⟩:=of_map hr;obtain⟨cs',q1,q2⟩:=(V hp).pY;obtain⟨v',k1,k2⟩:=D8 he w q2 h1;refine dZ.same x ?_ k2;simp only[execOp,Instr.field,Sem.run_bind,he.dj hu,Result.andThen_ok,av,q1,asAgg,Sem.run_pure,k1]
  . cases hr
 |indexAddr it y ix=>
  simp only[aS]at hr
  split at hr
  . rename_i ad i len elem hp hi hu
    split at hr
    . cases hr
    . rename_i s hs;obtain⟨hb,hr⟩:=cg hr;cases hr;simp only[yx,decide_eq_true_eq]at hb;obtain⟨pl,q1,q2⟩:=(V hp).oC;obtain⟨u,ai,aj⟩:=nB hi;obtain⟨k,rfl⟩:=of_int aj;have aw:=(V ai).mF;refine dZ.same x (v':=.pointer (some ⟨pl.bh,pl.off+(ad.add (i.toNat*s)).off,none⟩)) ?_ (.ptr (by rw[Addr.tr];exact q1));simp only[execOp,Instr.indexAt,aw,asIntOf,Sem.run_bind,Sem.run_pure,Result.andThen_ok,he.dj hu,q2,Instr.sureAddr,hb,and_self,if_true,he.iw hs,oA,Addr.rp,aff]
  . rename_i ad len cap i elem hp hi hu
    split at hr
    . cases hr
    . rename_i s hs;obtain⟨hb,hr⟩:=cg hr;cases hr;simp only[yx,decide_eq_true_eq]at hb;obtain⟨c,an,pl,q1,q2,q3⟩:=(V hp).vd;obtain⟨u,ai,aj⟩:=nB hi;obtain⟨k,rfl⟩:=of_int aj;have aw:=(V ai).mF;have hc:c=⟨pl.bh,pl.off+ad.off,none⟩:=by
       rcases q3 with⟨h1,_⟩|⟨h1,_,_⟩
       . exact h1
       . omega
      refine dZ.same x (v':=.pointer (some ⟨pl.bh,pl.off+(ad.add (i.toNat*s)).off,none⟩)) ?_ (.ptr (by rw[Addr.tr];exact q2));simp only[execOp,Instr.indexAt,aw,asIntOf,Sem.run_bind,Sem.run_pure,Result.andThen_ok,he.dj hu,q1,hc,hb,and_self,if_true,he.iw hs,oA,Addr.rp,aff]
  . cases hr
 |index it y ix=>
  simp only[aS]at hr
  split at hr
  . rename_i cs k i len elem hp hi hu
    split at hr
    . cases hr
    . rename_i s hs;obtain⟨hb,hr⟩:=cg hr;simp only[yx,decide_eq_true_eq]at hb;obtain⟨v,h1,rfl⟩:=of_map hr;obtain⟨cs',q1,q2⟩:=(V hp).pY;have aw:=(V hi).mF;obtain⟨v',k1,k2⟩:=D8 he w q2 h1;refine dZ.same x ?_ k2;simp only[execOp,Instr.index,aw,asIntOf,Sem.run_bind,Sem.run_pure,Result.andThen_ok,he.dj hu,q1,hb,and_self,if_true,he.iw hs,k1]
  . rename_i s k i hp hi hu;obtain⟨v,h1,rfl⟩:=of_map hr;have aw:=(V hi).mF;have aK:(Act.mk a ds).eval y=.string s:=by have:=V hp;cases hh:(Act.mk a ds).eval y<;>rw[hh]at this<;>cases this<;>rfl
    obtain⟨k1,k2⟩:=ry (ρ:=ρ) h1 w;refine dZ.same x ?_ k2;simp only[execOp,aw,aK,Sem.run_bind,k1,Result.andThen_ok,Sem.run_pure]
  . cases hr
 |lookup mt m k ok=>
  simp only[aS]at hr
  split at hr
  . rename_i p q hp hq;obtain⟨v,h1,rfl⟩:=of_map hr;obtain⟨v',k1,k2⟩:=Mx he x (V hp) (V hq) h1;refine dZ.same x ?_ k2;simp only[execOp,Sem.run_bind,k1,Result.andThen_ok,Sem.run_pure]
  . cases hr
 |mapUpdate mt m k v=>
  simp only[aS]at hr
  split at hr
  . rename_i p q z hp hq hz;obtain⟨h',h1,rfl⟩:=of_map hr;obtain⟨w',k1,k2,k3⟩:=El he (b:=h.next) x (V hp) (V hq) (V hz) h1;refine⟨w',ρ, ?_,k2,k3⟩;simp only[execOp,Sem.run_bind,k1,Result.andThen_ok,Sem.run_pure]
  . cases hr
 |insert mt m k v=>
  simp only[aS]at hr
  split at hr
  . rename_i p q z hp hq hz;obtain⟨h',h1,rfl⟩:=of_map hr;obtain⟨w',k1,k2,k3⟩:=El he (b:=h.next) x (V hp) (V hq) (V hz) h1;refine⟨w',ρ, ?_,k2,k3⟩;simp only[execOp,Sem.run_bind,k1,Result.andThen_ok,Sem.run_pure]
  . cases hr
 |range rt y=>
  simp only[aS]at hr
  split at hr
  . rename_i s hp hu;cases hr;have aK:(Act.mk a ds).eval y=.string s:=by have:=V hp;cases hh:(Act.mk a ds).eval y<;>rw[hh]at this<;>cases this<;>rfl
    obtain⟨af,pl,g1,g2,g3,g4,g5,_⟩:=xg x (x.slot (.eO s 0)) (.stringIter s 0) rfl rfl (λaf w' pl _ h0 hw=>⟨h0,hw⟩);refine⟨_,_,af, ?_,u7 g1 g3,g4,g5⟩;simp only[execOp,Instr.range,aK,Sem.run_bind,he.dj hu,Sem.run_pure,Result.andThen_ok,run_newObj,g2];rfl
  . rename_i ek ev hp hu;cases hr;have hm:=(V hp).map_none;obtain⟨af,pl,g1,g2,g3,g4,g5,_⟩:=xg x (x.slot (.cC none 0 [] 0)) (.mapIter none 0 #[] 0) rfl rfl (λaf w' pl _ h0 hw=>⟨h0,none,hw,.oy⟩);refine⟨_,_,af, ?_,u7 g1 g3,g4,g5⟩;simp only[execOp,Instr.range,hm,Sem.run_bind,he.dj hu,Sem.run_pure,Result.andThen_ok,run_newObj,g2];rfl
  . rename_i m ek ev hp hu
    split at hr
    . rename_i es clock ho;cases hr;obtain⟨aL,q1,q2⟩:=(V hp).map_some;obtain⟨pl',r1,r2,ba,r3,r4⟩:=x.obj _ _ ho;rw[q1]at r1;cases r1;obtain⟨af,pl,g1,g2,g3,g4,g5,_⟩:=xg x (x.slot (.cC (some m) clock [] clock)) (.mapIter (some aL.bh) clock #[] clock) rfl rfl (λaf w' pl hx h0 hw=>⟨h0,some aL.bh,hw,.map (hx _ _ q1)⟩);refine⟨_,_,af, ?_,u7 g1 g3,g4,g5⟩;simp only[execOp,Instr.range,q2,Sem.run_bind,he.dj hu,rA r3,Sem.run_pure,Result.andThen_ok,run_newObj,g2];rfl
    . cases hr
  . cases hr
 |next it s=>
  simp only[aS]at hr
  split at hr
  . cases hr
  . rename_i v hp;obtain⟨⟨r1,h1⟩,q1,rfl⟩:=of_map hr;exact dZ.gives (My e.P x (V hp) q1 ty)
 |entry it=>
  simp only[aS]at hr
  split at hr
  . cases hr
  . rename_i v hp;obtain⟨r1,q1,rfl⟩:=of_map hr;obtain⟨v',k1,k2⟩:=Mz e.P x (V hp) q1;refine dZ.same x ?_ k2;simp only[execOp,Sem.run_bind,k1,Result.andThen_ok,Sem.run_pure]
 |extract y i=>
  simp only[aS]at hr
  split at hr
  . rename_i vs hp;obtain⟨v,h1,rfl⟩:=of_map hr;obtain⟨aZ,q1,q2⟩:=(V hp).DZ;obtain⟨v',k1,k2⟩:=q2.get i v (by simpa using h1);refine dZ.same x ?_ k2;have:aZ[i]? =some v':=by simpa using k1
    simp only[execOp,q1,Instr.extract,this,Sem.run_bind,Sem.run_pure,Result.andThen_ok]
  . cases hr
 |call c=>
  exact MB he hg ht x (by simpa only[aS]using hr) ty
 |defer c=>
  simp only[aS]at hr
  split at hr
  . rename_i f args hc ha
    split at hr
    . rename_i g az cap hf;cases hr;obtain⟨fv,k1,k2⟩:=nB hf;have aa:=xj (u6 hg ht ds ha);cases fv with
      |func fn first cp=>
       simp only[ny,oY,Ey]at k2;obtain⟨rfl,rfl,rfl⟩:=k2;obtain⟨aA,a',c',e1,e2,e3,e4⟩:=(V k1).rB;have:=e2.rB;subst this;refine⟨rfl,a'++c.args.map (Act.mk a ds).eval,c', ?_,e4, ?_⟩
       . rw[Xt];exact e3.append aa
       . simp only[execOp,resolve,hc,Deferred.ofValue,e1,Sem.run_bind,Sem.run_pure,Result.andThen_ok]
      |_=>simp[ny]at k2
    . cases hr
  . cases hr
 |_=>simp[aS]at hr
end Go.aD
end
noncomputable section
namespace Go.aD
variable {e:Env}
def FF(ro:Option Nat):Fence:={Fence.wide with round:=ro}
def zT(ro:Option Nat)(n:Nat):(FF ro).depth.isSome=true->1<=n:=λh=>by simp[FF,Fence.wide]at h
def Es{ro:Option Nat}{n:Nat}{P:Program}{f:FuncId}{args:Array Value}{w:World}{R:Ending->World->Prop}(h:Calls P f args w R):CallsIn (FF ro) n P f args w R:=by
 have:=callsIn_wide (n:=n).2 h;exact this
inductive oD(ρ:aH):Deferred->Deferred->Prop
 |fn {g:FuncId} {cap af args aa:Array Value}:bQ ρ cap.toList af.toList->bQ ρ args.toList aa.toList->oD ρ {target:=.fn (.func g) cap,args} {target:=.fn (.func g) af,args:=aa}
 |mark {r:Nat} {pl:Pl}:ρ r=some pl->oD ρ {target:=.collected r,args:=#[]} {target:=.collected pl.bh,args:=#[]}
def oD.mono{ρ ad:aH}(hx:Ext ρ ad){d d':Deferred}(h:oD ρ d d'):oD ad d d':=by
 cases h with
 |fn h1 h2=>exact .fn (h1.mono hx) (h2.mono hx)
 |mark h=>exact .mark (hx _ _ h)
structure dx(e:Env)(ρ:aH)(s:aM)(a:Act)(w:World):Prop where
 g:Gl e ρ
 t:jK ρ s.t s.n a.tmps
 d:aU (oD ρ) s.ds a.defers
 m:bA ρ s.h w
inductive hY(ρ:aH):Option Nat->Option Nat->Prop
 |none:hY ρ none none
 |some {l:Nat} {pl:Pl}:ρ l=some pl->hY ρ (some l) (some pl.bh)
def hY.mono{ρ ad:aH}(hx:Ext ρ ad){a b:Option Nat}(h:hY ρ a b):hY ad a b:=by
 cases h with
 |none=>exact .none
 |some h=>exact .some (hx _ _ h)
def nD(e:Env)(cf:eP):Prop:=∀f args h v h',cf f args h=some (v,h')->(∃fn,e.fn f=some fn)/\∀ρ w (aa:Array Value),Gl e ρ->bQ ρ args aa.toList->bA ρ h w->
 Calls e.P f aa w λen w'=>∃v' ad,en=.returned v'/\aQ ad v v'/\bA ad h' w'/\Fr h.next ρ h w ad h' w'
def vg(e:Env)(rf:gP):Prop:=∀l args h v h',rf l args h=some (v,h')->∀ρ w (aa:Array Value) pl,Gl e ρ->ρ l=some pl->bQ ρ args aa.toList->bA ρ h w->
 ∃fn tmps assign body,(Instr.yield pl.bh aa).run e.P w=.ok (.round pl.bh fn tmps assign body) w/\
  ∀ro n,RoundIn (FF ro) n e.P pl.bh fn tmps assign body w λen w'=>∃v' ad,en=.returned v'/\aQ ad v v'/\bA ad h' w'/\Fr h.next ρ h w ad h' w'
def jK.set{ρ:aH}{t:Tr Value}{n:Nat}{a:Array Value}(h:jK ρ t n a){d:Nat}(hd:d<n){v v':Value}(hv:aQ ρ v v'):jK ρ (t.set d (some v)) n (a.setIfInBounds d v'):=by
 refine⟨by simpa using h.1,λi u hu=> ?_⟩;rw[Tr.bD]at hu;by_cases hi:i=d
 . rw[if_pos hi]at hu;cases hu;subst hi;refine⟨hd, ?_⟩;have:i<a.size:=by rw[h.1];exact hd
   simp only[afh,afx,if_true,this,Option.getD_some];exact hv
 . rw[if_neg hi]at hu;obtain⟨h1,h2⟩:=h.2 i u hu;refine⟨h1, ?_⟩;simp only[afh,afx,Ne.symm hi,if_false]at h2⊢;exact h2
def mG{ρ:aH}{s s':aM}{a:Act}{w:World}(x:dx e ρ s a w){dst:Option Tmp}{v v':Value}(hp:fy s dst v=some s')(hv:aQ ρ v v'):dx e ρ s' (a.put dst v') w/\s'.h=s.h:=by
 cases dst with
 |none=>
  simp only[qX,oY]at hp;subst hp;exact⟨x,rfl⟩
 |some d=>
  simp only[qX]at hp;obtain⟨hb,hp⟩:=cg hp;cases hp;exact⟨⟨x.g,x.t.set (HT hb) hv,x.d,x.m⟩,rfl⟩
def vh(ρ:aH):aQ ρ undef undef:=aQ.kj.2 .nil
def dx.with{ρ ad:aH}{s:aM}{a:Act}{w w':World}{h':ab}{b:Nat}(x:dx e ρ s a w)(m:bA ad h' w')(f:Fr b ρ s.h w ad h' w'):dx e ad {s with h:=h'} a w':=
 ⟨x.g.mono f.ext,x.t.mono f.ext,x.d.mono λ_ _=>oD.mono f.ext,m⟩
def MD{h:ab}{t:Tr Value}{c:Call}{r:AR}(hr:aS e h t (.defer c)=some r):∃f args cap h',r=.defer f args cap h':=by
 simp only[aS]at hr
 split at hr
 . split at hr
   . cases hr;exact⟨_,_,_,_,rfl⟩
   . cases hr
 . cases hr
def vi(he:e.Ok){cf:eP}{rf:gP}(ao:nD e cf)(av:vg e rf){ro aj:Option Nat}{o:Oper}{s s':aM}(h:mD e cf rf ro o s=some s'){ρ:aH}{a:Act}{w:World}(x:dx e ρ s a w)
 (az:hY ρ ro aj) (n:Nat) {next:Act->World->Prop} {Q:Exit->Act->World->Prop} (ae:∀a' w' ad,dx e ad s' a' w'->Fr s.h.next ρ s.h w ad s'.h w'->next a' w'):
 o.wpIn (FF aj) n e.P a w next Q:=by
 rw[wW]at h;cases hr:aS e s.h s.t o.op with
 |none=>simp[hr]at h
 |some r=>
  have key:=Er he (ds:=a.defers) x.g x.t x.m hr;have ha:(Act.mk a.tmps a.defers)=a:=rfl;rw[ha]at key;have ah:(∀f args cap h',r≠.defer f args cap h')->Oper.semAt (FF aj).round a.eval o=execOp a.eval o:=λaA=>by
   refine Oper.semAt_eq _ _ _ λc hc=> ?_;rw[hc]at hr;obtain⟨f,args,cap,h',aC⟩:=MD hr;exact aA f args cap h' aC
  simp only[hr]at h;refine⟨λf _=>trivial, ?_⟩;cases r with
  |val v h1=>
   obtain⟨v',w',ad,k1,k2,k3,k4⟩:=key;rw[ah (λ_ _ _ _ h=>by cases h),k1,Oper.uponIn_value];obtain⟨p1,p2⟩:=mG (x.with k3 k4) h k2;exact ae _ _ _ p1 (by rw[p2];exact k4)
  |skip h1=>
   obtain⟨w',ad,k1,k3,k4⟩:=key;rw[ah (λ_ _ _ _ h=>by cases h),k1,Oper.uponIn_skip];obtain⟨p1,p2⟩:=mG (x.with k3 k4) h (vh _);exact ae _ _ _ p1 (by rw[p2];exact k4)
  |enter f args h1=>
   obtain⟨rfl,aa,k1,k2⟩:=key;simp only at h;cases hc:cf f args s.h with
   |none=>simp[hc]at h
   |some r2=>
    obtain⟨v,h2⟩:=r2;simp only[hc]at h;obtain⟨⟨fn,aE⟩,ai⟩:=ao f args s.h v h2 hc;rw[ah (λ_ _ _ _ h=>by cases h),k2 fn aE,Oper.uponIn_enter];refine⟨zT _ _,Es ((ai ρ w aa x.g k1 x.m).mono ?_)⟩;rintro en w' ⟨v',ad,rfl,q1,q2,q3⟩;obtain⟨p1,p2⟩:=mG (x.with q2 q3) h q1;exact ae _ _ _ p1 (by rw[p2];exact q3)
  |round l args h1=>
   obtain⟨rfl,pl,aa,hp,k1,k2⟩:=key;simp only at h;cases hc:rf l args s.h with
   |none=>simp[hc]at h
   |some r2=>
    obtain⟨v,h2⟩:=r2;simp only[hc]at h;obtain⟨fn,tmps,assign,body,g1,g2⟩:=av l args s.h v h2 hc ρ w aa pl x.g hp k1 x.m;rw[ah (λ_ _ _ _ h=>by cases h),k2,g1,Oper.uponIn_round];refine⟨zT _ _,(g2 aj (n-1)).mono ?_⟩;rintro en w' ⟨v',ad,rfl,q1,q2,q3⟩;obtain⟨p1,p2⟩:=mG (x.with q2 q3) h q1;exact ae _ _ _ p1 (by rw[p2];exact q3)
  |defer f args cap h1=>
   obtain⟨rfl,aa,af,k1,k2,k3⟩:=key;cases az with
   |some _=>simp at h
   |none=>
    simp only at h;have:Oper.semAt (FF none).round a.eval o=execOp a.eval o:=Oper.semAt_none _ _;rw[this,k3,Oper.uponIn_defer];have x':dx e ρ {s with ds:={target:=.fn (.func f) cap.toArray,args:=args.toArray}::s.ds} {a with defers:={target:=.fn (.func f) af,args:=aa}::a.defers} w:=
     ⟨x.g,x.t,.cons (.fn (by simpa using k2) (by simpa using k1)) x.d,x.m⟩
    obtain⟨p1,p2⟩:=mG x' h (vh _);exact ae _ _ _ p1 (by rw[p2];exact Fr.refl _ _ _ _)
def oE{ops:Array Oper}{s:aM}{o:Oper}{b:Bool}(h:cZ ops.toList s o=some b){ρ:aH}{a:Act}{w:World}(x:dx e ρ s a w):Region.wanted o (yielded ops a.tmps)=b:=by
 unfold cZ at h;unfold Region.wanted;cases hg:o.guard with
 |none=>simp only[hg,oY]at h;exact h
 |some jw=>
  obtain⟨j,want⟩:=jw;simp only[hg]at h⊢;have hj:ops.toList[j]? =ops[j]? :=aw;rw[hj]at h;cases hd:(ops[j]?).bind (·.dst)with
  |none=>simp[hd]at h
  |some d=>
   simp only[hd]at h;cases ht:s.t.get d with
   |none=>simp[ht]at h
   |some v=>
    obtain⟨k1,k2⟩:=x.t.2 d v ht;have aG:d<a.tmps.size:=by rw[x.t.1];exact k1
    have an:a.tmps[d]? =some (a.tmps.getD d undef):=by
     rw[afh,Array.getElem?_eq_getElem aG];rfl
    unfold yielded;rw[hd];simp only[Option.bind_some,an];generalize a.tmps.getD d undef=u at k2;simp only[ht]at h;cases v with
    |bool q=>
     have:=k2.oB;subst this;simp only[oY]at h;rw[<-h];cases q<;>cases want<;>rfl
    |tuple vs=>
     obtain⟨aJ,rfl,_⟩:=k2.DZ;simp only[oY]at h;rw[<-h];rfl
    |_=>cases h
end Go.aD
end
noncomputable section
namespace Go.aD
variable {e:Env}
def bu.to:bu->Exit
 |.normal=>.normal
 |.exit id=>.exit id
 |.ret=>.ret
def Et(e:Env)(f:ox):Prop:=∀ro c s x s',f ro c s=some (x,s')->∀ρ a w aP n Q,dx e ρ s a w->hY ρ ro aP->
 (∀a' w' af,dx e af s' a' w'->Fr s.h.next ρ s.h w af s'.h w'->Q x.to a' w')->c.wpIn (FF aP) n e.P Q a w
def ME{P:Program}{b:Frame}{a:Act}{k:List Item}{cs:List Frame}{w:World}{c:Code}:step P (lone (b.atR a (.code (.scope c)::k)) cs w)=.next (lone (b.atR a (.code c::.inScope c::k)) cs w):=
 step_lone_go (by simp[stepG,stepG.exec,Frame.atR])
def MF{P:Program}{b:Frame}{a:Act}{k:List Item}{cs:List Frame}{w:World}{c:Code}:step P (lone (b.atR a (.inScope c::k)) cs w)=.next (lone (b.atR a k) cs w):=
 step_lone_go (by simp[stepG,stepG.exec,Frame.atR])
def noGoto(Q:Exit->Act->World->Prop):Exit->Act->World->Prop
 |.goto _,_,_=>False
 |e,a,w=>Q e a w
def zU{F:Fence}{n:Nat}{P:Program}{c:Code}{Q:Exit->Act->World->Prop}{a:Act}{w:World}(h:c.wpIn F n P (noGoto Q) a w):(Code.scope c).wpIn F n P Q a w:=by
 intro b k cs aR hb hr;have h0:(lone (b.atR a (.code (.scope c)::k)) cs w).fenced P F:=fenced_calm hb hr rfl;have h1:StepsIn (Machine.fenced P F) P (lone (b.atR a (.code (.scope c)::k)) cs w) (lone (b.atR a (.code c::.inScope c::k)) cs w):=.one h0 ME;obtain⟨e,ai,aj,hq,ah⟩:=h b (.inScope c::k) cs aR hb hr;cases e with
 |normal=>exact⟨.normal,ai,aj,hq,StepsIn.trans h1 (StepsIn.trans ah (.one (fenced_calm hb hr rfl) MF))⟩
 |exit id=>exact⟨.exit id,ai,aj,hq,λk' hk=>h1.trans (ah.1 k' (by simp[exitTo,hk])),λaS hk=>let⟨k₁,q1,q2⟩:=ah.2 aS (by simp[exitTo,hk]);⟨k₁,q1,h1.trans q2⟩⟩
 |goto l=>exact hq.elim
 |ret=>exact⟨.ret,ai,aj,hq,ArrivesIn.of_steps (e:=.ret) (k:=k) h1 ah⟩
 |panic ch=>exact⟨.panic ch,ai,aj,hq,ArrivesIn.of_steps (e:=.panic ch) (k:=k) h1 ah⟩
 |outgrown=>exact⟨.outgrown,ai,aj,hq,ArrivesIn.of_steps (e:=.outgrown) (k:=k) h1 ah⟩
def Idle(e:Env):Prop:=∀g,e.idle g=true->∀(args:Array Value) (w:World) (n:Nat),(∃ae,(callFunc g args).run e.P w=.ok (.enter g ae) w/\CallsDIn Fence.wide n e.P g ae .returning w λen u' w'=>(∃v,en=.returned v)/\u'=.returning/\w'=w)
def Eu:∀(l:List Value) (i:Nat) (t:Tr Value) (j:Nat),(Tr.ofList l i t).get j=if i<=j/\j<i+l.length then l[j-i]? else t.get j
 |[],i,t,j=>by
  simp only[Tr.ofList,List.length_nil,Nat.add_zero];rw[if_neg aa]
 |a::l,i,t,j=>by
  simp only[Tr.ofList,Eu l (i+1),Tr.bD,List.length_cons];by_cases h1:i+1<=j/\j<i+1+l.length
  . rw[if_pos h1,if_pos aa];have:j-i=(j-(i+1))+1:=aa;rw[this];rfl
  . rw[if_neg h1];by_cases h2:j=i
    . subst h2;rw[if_pos rfl,if_pos aa];simp
    . rw[if_neg h2,if_neg aa]
def Ev{ρ:aH}{args:List Value}{ae:Array Value}(h:bQ ρ args ae.toList)(n:Nat):jK ρ (gQ args) (args.length+(n-args.length)) (ae++afq (n-ae.size) undef):=by
 have hl:args.length=ae.size:=by simpa using h.length
 refine⟨by simp;omega,λi v hv=> ?_⟩;rw[gQ,Eu]at hv
 split at hv
 . rename_i hc;simp only[Nat.sub_zero]at hv;obtain⟨v',h1,h2⟩:=h.get i v hv;refine⟨aa, ?_⟩;have hi:i<ae.size:=aa;have:(ae++afq (n-ae.size) undef).getD i undef=v':=by
    rw[afh,Array.getElem?_append_left hi];have:ae[i]? =some v':=by simpa using h1
    rw[this];rfl
   rw[this];exact h2
 . rw[Tr.get_nil]at hv;cases hv
def rC(tmps:Array Value):ResultVar->Sem Value
 |.tmp t=>pure (tmps.getD t undef)
 |.cell ad t=>do loadVar t (<-asAddr (tmps.getD ad undef))
theorem Ew(fn:Func)(tmps:Array Value):results fn tmps=(do
 let vs<-fn.results.mapM (rC tmps)
 pure (if h:vs.size=1 then vs[0]else .tuple vs)):=rfl
def zV(he:e.Ok){ρ:aH}{s:aM}{a:Act}{w:World}(x:dx e ρ s a w):∀{rs:List ResultVar} {vs:List Value},gZ e s rs=some vs->
 ∃an,(rs.mapM (rC a.tmps)).run e.P w=.ok an w/\bQ ρ vs an
 |[],vs,h=>by
  simp only[gZ,oY]at h;subst h;exact⟨[],rfl,.nil⟩
 |r::rs,vs,h=>by
  simp only[gZ]at h
  split at h
  . rename_i v aY h1 h2;cases h;obtain⟨an,g1,g2⟩:=zV he x h2;cases r with
    |tmp t=>
     simp only at h1;exact⟨a.tmps.getD t undef::an,by simp only[afy,rC,Sem.run_bind,Sem.run_pure,Result.andThen_ok,g1],.cons (x.t.2 t v h1).2 g2⟩
    |cell ad t=>
     simp only at h1;cases hb:(s.t.get ad).bind iu with
     |none=>simp[hb]at h1
     |some aZ=>
      simp only[hb]at h1;obtain⟨u,k1,k2⟩:=nB hb;have:=vb k2;subst this;obtain⟨pl,q1,q2⟩:=((x.t.2 ad _ k1).2).oC;obtain⟨v',l1,l2⟩:=D3 he x.m q1 h1;have aC:(rC a.tmps (.cell ad t)).run e.P w=.ok v' w:=by simp only[rC,Sem.run_bind,q2,asAddr,Sem.run_pure,Result.andThen_ok,l1]
      exact⟨v'::an,by simp only[afy,Sem.run_bind,aC,Result.andThen_ok,Sem.run_pure,g1],.cons l2 g2⟩
  . cases h
def Ex(he:e.Ok)(ao:Idle e){fn:Func}{tmps:Array Value}{R:Ending->World->Prop}(n:Nat):∀{ds:List Deferred} {h h':ab} {aA:List Deferred} {ρ:aH} {w:World},kL e ds h=some h'->aU (oD ρ) ds aA->bA ρ h w->
 (∀w',bA ρ h' w'->Fr h.next ρ h w ρ h' w'->∃v,(results fn tmps).run e.P w'=.ok v w'/\R (.returned v) w')->LeavesInM Fence.wide n e.P fn tmps R aA .returning w:=by
 intro ds
 induction ds with
 |nil=>
  intro h h' aA ρ w hl hd x hR;cases hd;simp only[kL,oY]at hl;subst hl;exact hR w x (Fr.refl _ _ _ _)
 |cons d ds ih=>
  intro h h' aA ρ w hl hd x hR;cases hd with
  | @cons _ d' _ ba h1 h2=>
   cases h1 with
   | @mark r pl hp=>
    simp only[kL]at hl;cases ho:h.get r with
    |none=>simp[ho]at hl
    |some o=>
     match o,ho,hl with
     |.fJ true,ho,hl=>
      simp only[ho]at hl;obtain⟨pl',g1,g2,g3⟩:=x.obj _ _ ho;rw[hp]at g1;cases g1;have aT:pl.bh<w.heap.size:=(Yt.1 g3).1;obtain⟨k1,k2⟩:=rn (b:=h.next) (o:=.deferred none) (ao':=.fJ false) x ho rfl hp rfl ⟨g2,oz _ _ _ aT⟩ rfl;refine⟨aw,.inl ⟨pl.bh,World.gu w pl.bh (.deferred none),rfl, ?_, ?_⟩⟩
      . have aV:=ve (P:=e.P) g3 (λ_ _ _ h=>by cases h);simp only[Instr.takeDeferred,Sem.run_bind,aV,if_true,Result.andThen_ok,xi _ g3 (λ_ _ _ h=>by cases h),Sem.run_pure]
      . refine ih hl h2 k1 λw' m f=>hR w' m ?_;exact k2.trans (f.mono (Rb _))
     |.fJ false,ho,hl=>simp[ho]at hl
     |.row _ _ _,ho,hl=>simp[ho]at hl
     |.map _ _,ho,hl=>simp[ho]at hl
     |.cC _ _ _ _,ho,hl=>simp[ho]at hl
     |.eO _ _,ho,hl=>simp[ho]at hl
     |.loop _ _ _ _ _ _ _ _,ho,hl=>simp[ho]at hl
   | @fn g cap av args ae hc ha=>
    simp only[kL]at hl;obtain⟨hi,hl⟩:=cg hl;obtain⟨az,q1,q2⟩:=ao g hi (ae++av) w (n-1);refine⟨aw,.inr ⟨λh=>by simp[Fence.wide]at h,.func g,av,g,az,rfl, ?_,λ_ _=>trivial, ?_⟩⟩
    . simp only[invoke,q1]
    . refine q2.mono ?_;rintro en u' w' ⟨⟨v,rfl⟩,rfl,rfl⟩;exact ih hl h2 x hR
def zW(he:e.Ok)(ao:Idle e){f:ox}(hf:Et e f):nD e (pX e f):=by
 intro g args h v h' hc;unfold pX at hc;cases aE:e.fn g with
 |none=>simp[aE]at hc
 |some fn=>
  refine⟨⟨fn,rfl⟩,λρ w ae hg ha x=> ?_⟩;simp only[aE]at hc;cases hb:fn.body with
  |none=>simp[hb]at hc
  |some c=>
   simp only[hb]at hc;cases aG:f none c {t:=gQ args,n:=args.length+(fn.ntmps-args.length),ds:=[],h}with
   |none=>simp[aG]at hc
   |some r=>
    obtain⟨xt,s⟩:=r;have hl:args.length=ae.size:=by simpa using ha.length
    have aW:dx e ρ {t:=gQ args,n:=args.length+(fn.ntmps-args.length),ds:=[],h} {tmps:=ae++afq (fn.ntmps-ae.size) undef,defers:=[]} w:=
     ⟨hg,Ev ha fn.ntmps,.nil,x⟩
    have out:∀(hc:(match kL e s.ds s.h with
     |none=>none
     |some h=>match gZ e {s with h} fn.results.toList with
      |some [v]=>some (v,h)
      |some vs=>some (.tuple vs.toArray,h)
      |none=>none)=some (v,h')),∀a' w' af,dx e af s a' w'->Fr h.next ρ h w af s.h w'->
     LeavesInM Fence.wide 0 e.P fn a'.tmps (λen w'=>∃v' af,en=.returned v'/\aQ af v v'/\bA af h' w'/\Fr h.next ρ h w af h' w') a'.defers .returning w':=by
     intro hc a' w' af x' f';cases aJ:kL e s.ds s.h with
     |none=>simp[aJ]at hc
     |some h2=>
      simp only[aJ]at hc;refine Ex he ao 0 aJ x'.d x'.m λw2 m2 f2=> ?_;have x2:dx e af {s with h:=h2} a' w2:=⟨x'.g,x'.t,x'.d,m2⟩;cases aK:gZ e {s with h:=h2} fn.results.toList with
      |none=>simp[aK]at hc
      |some vs=>
       simp only[aK]at hc;obtain⟨an,q1,q2⟩:=zV he x2 aK;have hm:(fn.results.mapM (rC a'.tmps)).run e.P w2=.ok an.toArray w2:=by
        rw[Array.mapM_eq_mapM_toList,Sem.run_map,q1];rfl
       have aL:Fr h.next ρ h w af h2 w2:=f'.trans (f2.mono f'.next);have aO:(results fn a'.tmps).run e.P w2=.ok (if h:an.toArray.size=1 then an.toArray[0]else .tuple an.toArray) w2:=by
        rw[Ew,Sem.run_bind,hm];rfl
       refine⟨_,aO,_,af,rfl, ?_, ?_, ?_⟩
       . match vs,an,q2,hc with
         |[u],[u'],.cons hu _,hc=>
          cases hc;simpa using hu
         |[],[],_,hc=>
          cases hc;exact aQ.kj.2 .nil
         |_::_::_,_::_::_,q2,hc=>
          cases hc;rw[dif_neg aw];exact aQ.kj.2 (by simpa using q2)
       . have:h'=h2:=by split at hc<;>cases hc<;>rfl
         rw[this];exact m2
       . have:h'=h2:=by split at hc<;>cases hc<;>rfl
         rw[this];exact aL
    simp only[aG]at hc;rw[<-callsIn_wide (n:=0)];refine callsIn_of_wp_marks (he.fn g fn aE).1 hb trivial ?_;have aX:=hf none c _ xt s aG ρ _ w none 0 (bodyPostM Fence.wide 0 e.P fn λen w'=>∃v' af,en=.returned v'/\aQ af v v'/\bA af h' w'/\Fr h.next ρ h w af h' w') aW .none;refine aX λa' w' af x' f'=> ?_;cases xt with
    |normal=>exact out hc a' w' af x' f'
    |ret=>exact out hc a' w' af x' f'
    |exit id=>cases hc
structure rD(w w':World):Prop where
 os:w'.os=w.os
 output:w'.output=w.output
 size:w.heap.size<=w'.heap.size
 frozen:∀a,a.block<w.heap.size->w'.frozen? a=w.frozen? a
 heap:∀k,k<w.heap.size->w'.heap[k]? =w.heap[k]?
end Go.aD
end
noncomputable section
namespace Go.aD
variable {e:Env}
end Go.aD
end

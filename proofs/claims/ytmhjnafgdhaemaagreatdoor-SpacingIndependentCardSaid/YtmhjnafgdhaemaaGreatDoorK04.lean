/- SpacingIndependent: parts of its proof. -/
import Derived.Test.YtmhjnafgdhaemaaGreatDoorK03
open Option.some renaming injEq->qe
open Nat renaming le_refl->xS,eq_of_beq_eq_true->DE,le_of_ble_eq_true->PO,add_mul->PX,min->VK,zero_mul->W2,mul_le_mul_right->W9,le_mul_of_pos_right->abR
open Bool renaming and_eq_true->Er,false_eq_true->GP,not_true->Xw,or_eq_true->ZJ,not_false->ZL
open List renaming eq_nil_of_length_eq_zero->Qc,length_append->Zj,getElem?_eq_getElem->ab8,getElem?_take->adr
open Prod.mk renaming injEq->TF
open Option renaming isSome_none->Zr
open Array renaming length_toList->Z4
set_option linter.all false
set_option maxRecDepth 100000
noncomputable section
namespace Go.au
variable {e:Env}
theorem qP{P:Program}{s:Sem Value}{r:Value}(h:eD P s=some r)(w:World){ρ:aA}:s.run P w=.ok r w/\aJ ρ r r:=by
 unfold eD at h;cases hp:bQ P s with
 |none=>simp[hp]at h
 |some v=>
  simp only[hp]at h;obtain⟨hb,h⟩:=bU h;cases h;exact⟨ug P s _ hp w,m9 hb⟩
inductive nf(ρ:aA):Option Value->Option Value->Prop
 |none:nf ρ none none
 |some {v v':Value}:aJ ρ v v'->nf ρ (some v) (some v')
theorem pF(P:Program){ρ:aA}{v v':Value}(hv:aJ ρ v v'){ao aC d r:Nat}(h:dS (some v) ao d=some r)(hm:ao<=aC)(code:BoundsCode)(w:World):
 (Instr.sliceBound v' aC code).run P w=.ok r w/\r<=ao:=by
 unfold dS at h;cases hi:intOf v with
 |none=>simp[hi]at h
 |some i=>
  simp only[hi]at h;obtain⟨hb,h⟩:=bU h;cases h;obtain⟨k,rfl⟩:=of_int hi;have:=hv.mg;subst this;simp only[Er,decide_eq_true_eq]at hb;have hc:0<=i/\i<=(aC:Int):=⟨hb.1,by omega⟩;refine⟨?_,by omega⟩;simp only[Instr.sliceBound,asIntOf,Sem.run_bind,Sem.run_pure,Result.andThen_ok,hc,and_self,if_true]
theorem y8(P:Program){ρ:aA}{lo bd hi bf mx bg:Option Value}(aK:nf ρ lo bd)(aU:nf ρ hi bf)(aX:nf ρ mx bg){len cap ab m h l:Nat}(av:cap<=ab)
 (h1:dS mx cap cap=some m) (h2:dS hi m len=some h) (h3:dS lo h 0=some l) (h4:(mx.isNone||hi.isSome)=true) (b:Bool) (w:World):
 ∃m',(Instr.sliceBounds b len ab bd bf bg).run P w=.ok (l,h,m') w/\(mx=none->m=cap/\m'=ab)/\(mx≠none->m'=m)/\l<=h/\m<=m':=by
 cases aX with
 |none=>
  simp only[dS,qe]at h1;subst h1;refine⟨ab, ?_,λ_=>⟨rfl,rfl⟩,λh=>absurd rfl h, ?_,av⟩
  . cases aU with
    |none=>
     simp only[dS,qe]at h2;subst h2;cases aK with
     |none=>
      simp only[dS,qe]at h3;subst h3;rfl
     |some hv=>
      have:=(pF P hv h3 (xS _) .sliceB w).1;simp only[Instr.sliceBounds,Sem.run_bind,Sem.run_pure,Result.andThen_ok,Zr,GP,if_false,this]
    |some hv=>
     have g:=(pF P hv h2 av (if b then .sliceAcap else .sliceAlen) w).1;cases aK with
     |none=>
      simp only[dS,qe]at h3;subst h3;simp only[Instr.sliceBounds,Sem.run_bind,Sem.run_pure,Result.andThen_ok,g]
     |some bt=>
      have:=(pF P bt h3 (xS _) .sliceB w).1;simp only[Instr.sliceBounds,Sem.run_bind,Sem.run_pure,Result.andThen_ok,Zr,GP,if_false,g,this]
  . cases aK with
    |none=>simp only[dS,qe]at h3;omega
    |some hv=>exact(pF P hv h3 (xS _) .sliceB w).2
 |some hm=>
  have g0:=(pF P hm h1 av (if b then .slice3Acap else .slice3Alen) w).1;refine⟨m, ?_,(λh=>by cases h),λ_=>rfl, ?_,xS _⟩
  . cases aU with
    |none=>simp at h4
    |some hv=>
     have g:=(pF P hv h2 (xS _) .slice3B w).1;cases aK with
     |none=>
      simp only[dS,qe]at h3;subst h3;simp only[Instr.sliceBounds,Sem.run_bind,Sem.run_pure,Result.andThen_ok,g0,g]
     |some bt=>
      have:=(pF P bt h3 (xS _) .slice3C w).1;simp only[Instr.sliceBounds,Sem.run_bind,Sem.run_pure,Result.andThen_ok,Option.isSome_some,if_true,g0,g,this]
  . cases aK with
    |none=>simp only[dS,qe]at h3;omega
    |some hv=>exact(pF P hv h3 (xS _) .sliceB w).2
theorem Dh{v:Option Value}{ao d r:Nat}(h:dS v ao d=some r)(hd:d<=ao):r<=ao:=by
 unfold dS at h
 split at h
 . cases h;exact hd
 . split at h
   . cases h
   . obtain⟨hb,h⟩:=bU h;cases h;simp only[Er,decide_eq_true_eq]at hb;omega
theorem K5{ρ:aA}{h:aa}{w:World}(x:bh ρ h w){a:Addr}{pl:Pl}(hp:ρ a.block=some pl){s:Nat}(hs:l9 h a s=true):pl.ah=0\/pl.ah=s:=by
 unfold l9 at hs;cases ho:h.get a.block with
 |none=>simp[ho]at hs
 |some o=>
  cases o with
  |row rs wr ah=>
   obtain⟨pl',g1,c,el,fz,g2,g3,g4,g5,_⟩:=x.obj _ _ ho;rw[hp]at g1;cases g1;simp only[ho,ZJ]at hs;rcases hs with hs|hs
   . exact .inl (g5.trans (DE hs))
   . exact .inr (g5.trans (DE hs))
  |_=>simp[ho]at hs
theorem K6(he:e.Ok){ρ:aA}{h:aa}{w:World}(x:bh ρ h w){t:TypeId}{v v':Value}{lo bd hi bf mx bg:Option Value}(hv:aJ ρ v v')(aK:nf ρ lo bd)(aU:nf ρ hi bf)(aX:nf ρ mx bg)
 {r:Value} (hr:jA e h t v lo hi mx=some r):∃r',(Instr.sliceAt t v' bd bf bg).run e.P w=.ok r' w/\aJ ρ r r':=by
 unfold jA at hr;cases hu:e.under t with
 |none=>simp[hu]at hr
 |some d=>
  cases hv with
  |string s=>
   cases d with
   |string=>
    simp only[hu]at hr;obtain⟨hb,hr⟩:=bU hr;simp only[Er]at hb;have aD:∀{y y':Option Value},nf ρ y y'->sg y=true->y'=y:=λhy hz=>by
     cases hy with
     |none=>rfl
     |some hv=>rw[pE hz hv]
    rw[aD aK hb.1,aD aU hb.2.1,aD aX hb.2.2];exact⟨r,qP hr w⟩
   |_=>simp[hu]at hr
  |jZ len cap=>
   cases d with
   |slice elem=>
    simp only[hu]at hr;cases hs:e.size elem with
    |none=>simp[hs]at hr
    |some s=>
     cases hm:dS mx cap cap with
     |none=>simp[hs,hm]at hr
     |some m=>
      simp only[hs,hm]at hr;cases hh:dS hi m len with
      |none=>simp[hh]at hr
      |some aM=>
       simp only[hh]at hr;obtain⟨hb,hr⟩:=bU hr;rw[Er]at hb;cases hl:dS lo aM 0 with
       |none=>simp[hl]at hr
       |some l=>
        simp only[hl,qe]at hr;subst hr;obtain⟨m',g1,g2,g3,g4,g5⟩:=y8 e.P aK aU aX (xS cap) hm hh hl hb.2 true w;have bG:m'=m:=by
         by_cases h0:mx=none
         . rw[(g2 h0).1,(g2 h0).2]
         . exact g3 h0
        subst bG;refine⟨_, ?_,.jZ _ _⟩;simp only[Instr.sliceAt,Instr.slice,Sem.run_bind,he.c8 hu,Result.andThen_ok,g1,he.gZ hs,Sem.run_pure,Option.map_none,ite_self]
   |_=>simp[hu]at hr
  | @sl a c len cap ab pl hp aS=>
   cases d with
   |slice elem=>
    simp only[hu]at hr;cases hs:e.size elem with
    |none=>simp[hs]at hr
    |some s=>
     cases hm:dS mx cap cap with
     |none=>simp[hs,hm]at hr
     |some m=>
      simp only[hs,hm]at hr;cases hh:dS hi m len with
      |none=>simp[hh]at hr
      |some aM=>
       simp only[hh]at hr;obtain⟨hb,hr⟩:=bU hr;rw[Er]at hb;have cl:aM<=m:=PO hb.1;cases hl:dS lo aM 0 with
       |none=>simp[hl]at hr
       |some l=>
        simp only[hl]at hr;obtain⟨hz,hr⟩:=bU hr;cases hr;have av:cap<=ab:=by
         rcases aS with⟨_,h1|h1⟩|h1<;>omega
        obtain⟨m',g1,g2,g3,g4,g5⟩:=y8 e.P aK aU aX av hm hh hl hb.2 true w;have bI:m<=cap:=Dh hm (xS _);refine⟨.slice (some (if m'=l then c else c.add (l*s))) (aM-l) (m'-l), ?_,.sl (pl:=pl) (by rw[Addr.sx];exact hp) ?_⟩
        . simp only[Instr.sliceAt,Instr.slice,Sem.run_bind,he.c8 hu,Result.andThen_ok,g1,he.gZ hs,Sem.run_pure,Option.map_some]
          split<;>rfl
        . have bP:=K5 x hp hz;unfold yT;rcases aS with⟨hc,bk⟩|⟨cm,cn,bR⟩
          . by_cases aZ:m'=l
            . right;have:m=l:=by omega
              omega
            . left;rw[if_neg aZ];refine⟨?_, ?_⟩
              . rw[hc,oj,Addr.qO];simp only[Addr.mk.injEq,true_and,and_true];omega
              . by_cases bl:mx=none
                . obtain⟨e1,e2⟩:=g2 bl;rcases bk with bk|⟨k1,k2,k3,k4⟩
                  . left;omega
                  . right;have bb:pl.ah=s:=by omega
                    rw[bb]at k1 k2 k3;rw[Addr.qO,bb];subst e1;subst e2;have q1:l*s+(m-l)*s=m*s:=by rw[<-PX];congr 1;omega
                    have q2:l*s+(m'-l)*s=m'*s:=by rw[<-PX];congr 1;omega
                    refine⟨by omega,by omega,by omega,by omega⟩
                . left;rw[g3 bl]
          . right;have:m=0:=by omega
            have bG:m'=0:=by
             by_cases bl:mx=none
             . rw[(g2 bl).2];exact bR
             . rw[g3 bl];omega
            omega
   |_=>simp[hu]at hr
  | @ptr a pl hp=>
   cases d with
   |array n elem=>
    simp only[hu]at hr;cases hs:e.size elem with
    |none=>simp[hs]at hr
    |some s=>
     cases aX with
     |some _=>simp[hs]at hr
     |none=>
      simp only[hs]at hr;cases hh:dS hi n n with
      |none=>simp[hh]at hr
      |some aM=>
       simp only[hh]at hr;cases hl:dS lo aM 0 with
       |none=>simp[hl]at hr
       |some l=>
        simp only[hl,qe]at hr;subst hr;obtain⟨m',g1,g2,g3,g4,g5⟩:=y8 e.P aK aU (.none (ρ:=ρ)) (xS n) (m:=n) rfl hh hl rfl false w;obtain⟨_,rfl⟩:=g2 rfl;have cp:aM<=m':=Dh hh (xS _);refine⟨.slice (some (if m'=l then(⟨pl.aV,pl.off+a.off,none⟩:Addr)else(⟨pl.aV,pl.off+a.off,none⟩:Addr).add (l*s))) (aM-l) (m'-l), ?_, ?_⟩
        . simp only[Instr.sliceAt,Sem.run_bind,he.c8 hu,Result.andThen_ok,Instr.sureAddr,Sem.run_pure,g1,he.gZ hs]
        . by_cases aZ:m'=l
          . rw[if_pos aZ,if_pos aZ];exact .sl hp (.inr (by omega))
          . rw[if_neg aZ,if_neg aZ];refine .sl (pl:=pl) (by rw[Addr.sx];exact hp) (.inl ⟨?_,.inl rfl⟩);rw[oj,Addr.qO];simp only[Addr.mk.injEq,true_and,and_true];omega
   |_=>simp[hu]at hr
  |_=>cases d<;>simp[hu]at hr
theorem K7(he:e.Ok){ρ:aA}{h:aa}{w:World}(x:bh ρ h w){t:TypeId}{v v' r:Value}(hv:aJ ρ v v')(hr:fk e h t v=some r)(bm:Array TypeId)(aL:bm[0]? =some t)(ty:TypeId):
 ∃r',(Builtin.len_ bm ty #[v']).run e.P w=.ok r' w/\aJ ρ r r':=by
 unfold fk at hr;cases hu:e.under t with
 |none=>simp[hu]at hr
 |some d=>
  simp only[hu]at hr;have h0:(#[v']:Array Value)[0]? =some v':=rfl;cases d with
  |array n el=>
   simp only[qe]at hr;subst hr;exact⟨_,by simp only[Builtin.len_,aL,h0,Sem.run_bind,he.c8 hu,Result.andThen_ok,Sem.run_pure,goInt],.int _ _⟩
  |pointer arr=>
   simp only at hr;cases ha:e.under arr with
   |none=>simp[ha]at hr
   |some da=>
    cases da with
    |array n el=>
     simp only[ha,qe]at hr;subst hr;exact⟨_,by simp only[Builtin.len_,aL,h0,Sem.run_bind,he.c8 hu,he.c8 ha,Result.andThen_ok,Sem.run_pure,goInt],.int _ _⟩
    |_=>simp[ha]at hr
  |string=>
   cases hv with
   |string s=>
    simp only[qe]at hr;subst hr;exact⟨_,by simp only[Builtin.len_,aL,h0,Sem.run_bind,he.c8 hu,Result.andThen_ok,Sem.run_pure,goInt],.int _ _⟩
   |_=>simp at hr
  |slice el=>
   cases hv with
   |jZ l k=>
    simp only[qe]at hr;subst hr;exact⟨_,by simp only[Builtin.len_,aL,h0,Sem.run_bind,he.c8 hu,Result.andThen_ok,Sem.run_pure,goInt],.int _ _⟩
   |sl hp hs=>
    simp only[qe]at hr;subst hr;exact⟨_,by simp only[Builtin.len_,aL,h0,Sem.run_bind,he.c8 hu,Result.andThen_ok,Sem.run_pure,goInt],.int _ _⟩
   |_=>simp at hr
  |map k el=>
   cases hv with
   |og=>
    simp only[qe]at hr;subst hr;exact⟨_,by simp only[Builtin.len_,aL,h0,Sem.run_bind,he.c8 hu,Result.andThen_ok,Sem.run_pure,goInt],.int _ _⟩
   | @map i pl hp=>
    simp only at hr;cases ho:h.get i with
    |none=>simp[ho]at hr
    |some o=>
     cases o with
     |map es clock=>
      simp only[ho,qe]at hr;subst hr;obtain⟨pl',g1,g2,bJ,g3,g4⟩:=x.obj _ _ ho;rw[hp]at g1;cases g1;have hl:es.length=bJ.size:=by simpa using g4.length
      refine⟨.int .i64 es.length, ?_,.int _ _⟩;have bS:(getObj pl.aV).run e.P w=.ok (.map bJ clock) w:=by simp only[getObj,Sem.run,g3]
      simp only[Builtin.len_,aL,h0,Sem.run_bind,he.c8 hu,Result.andThen_ok,bS,Sem.run_pure,goInt,hl]
     |_=>simp[ho]at hr
   |_=>simp at hr
  |_=>simp at hr
theorem K8(he:e.Ok){ρ:aA}{h:aa}{w:World}(x:bh ρ h w){t:TypeId}{v v' r:Value}(hv:aJ ρ v v')(hr:qA e h t v=some r)(bm:Array TypeId)(aL:bm[0]? =some t)(ty:TypeId):
 ∃r',(Builtin.cap_ bm ty #[v']).run e.P w=.ok r' w/\aJ ρ r r':=by
 unfold qA at hr;cases hu:e.under t with
 |none=>simp[hu]at hr
 |some d=>
  have h0:(#[v']:Array Value)[0]? =some v':=rfl;cases d with
  |slice el=>
   cases hv with
   |jZ l k=>
    simp only[hu,qe]at hr;subst hr;exact⟨_,by simp only[Builtin.cap_,aL,h0,Sem.run_bind,he.c8 hu,Result.andThen_ok,Sem.run_pure,goInt],.int _ _⟩
   | @sl a c l k k' pl hp hs=>
    simp only[hu]at hr;cases ho:h.get a.block with
    |none=>simp[ho]at hr
    |some o=>
     cases o with
     |row rs wr ah=>
      simp only[ho]at hr;cases hz:e.size el with
      |none=>simp[hz]at hr
      |some s=>
       simp only[hz]at hr;obtain⟨hb,hr⟩:=bU hr;cases hr;obtain⟨pl',g1,c',cq,fz,g2,g3,g4,g5,g6,g7,g8,g9⟩:=x.obj _ _ ho;rw[hp]at g1;cases g1;have:k'=k:=by
        simp only[ZJ,Er]at hb;rcases hs with⟨_,h1|⟨h1,h2,h3,h4⟩⟩|⟨h1,h2,h3⟩
        . exact h1
        . rcases hb with hb|⟨hb,bn⟩
          . have:=DE hb;omega
          . have:=DE hb;have bn:a.off+k*s<rs.length:=PO bn;rw[g5,this,g4]at h2;omega
        . omega
       subst this;exact⟨_,by simp only[Builtin.cap_,aL,h0,Sem.run_bind,he.c8 hu,Result.andThen_ok,Sem.run_pure,goInt],.int _ _⟩
     |_=>simp[ho]at hr
   |_=>simp[hu]at hr
  |_=>simp[hu]at hr
theorem y9{ρ:aA}{h:aa}{w:World}(P:Program)(x:bh ρ h w){v v':Value}(hv:aJ ρ v v'){s n:Nat}{cs:List Value}(hr:gW h s n v=some cs)(hn:∀l,py v=some l->n<=l):
 ∃cs',(∀w',w'.heap=w.heap->(Builtin.firstCells s n v').run P w'=.ok cs' w')/\bE ρ cs cs'.toList:=by
 cases hv with
 |jZ l k=>
  simp only[gW,qe]at hr;subst hr;exact⟨#[],λ_ _=>rfl,.nil⟩
 | @sl a c l k k' pl hp hs=>
  simp only[gW]at hr;obtain⟨cs',g1,g2,g3⟩:=sy x hp hr;refine⟨cs'.toArray,λw' hw=> ?_,by simpa using g1⟩;have bo:=hn l rfl;rcases hs with⟨hc,_⟩|⟨h1,_,_⟩
  . have:=run_loadCells_list (P:=P) w' _ cs' (λj v hj=>by have:=g3 j v hj;simpa only[World.cell?,hw]using this);rw[g2,<-hc]at this;simpa only[Builtin.firstCells]using this
  . have h0 : n * s = 0 := by have : n = 0 := by omega
                              rw[this,W2]
    have bT:cs'=[]:=Qc (g2.trans h0);subst bT;simp only[Builtin.firstCells,h0];rfl
 |string b=>
  simp only[gW,qe]at hr;subst hr;refine⟨(b.extract 0 n).data.map λb=>.int .u8 b.toNat,λ_ _=>rfl, ?_⟩;rw[Array.toList_map];refine aO.qJ rfl λi y z ha hb=> ?_;rw[ha]at hb;cases hb;rw[List.getElem?_map]at ha;cases hx:((b.extract 0 n).data.toList)[i]? with
  |none=>rw[hx]at ha;cases ha
  |some u=>rw[hx]at ha;cases ha;exact .int _ _
 |_=>simp[gW]at hr
theorem Di(P:Program){ρ:aA}{v v':Value}(hv:aJ ρ v v'){n:Nat}(h:py v=some n)(w:World):(Builtin.lenOf v').run P w=.ok n w:=by
 cases hv<;>simp only[py,qe]at h<;>first|(subst h;rfl)|cases h
theorem K9{ρ:aA}{zs:Array Value}(hz:bE ρ zs.toList zs.toList){n sz:Nat}(hs:zs.toList.length=sz)(h0:0<sz):bE ρ (eN zs.toList (n*sz)) (Builtin.zeroCells zs n).toList:=by
 have:=y6 hz (n*sz) (by omega);have e1:zs.size=sz:=by simpa using hs
 simpa[Builtin.zeroCells,e1]using this
theorem Dj:∀(r aw c:Nat),Builtin.growBy aw r c<=c*2^r+400*2^r
 |0,_,c=>by simp[Builtin.growBy]
 |r+1,aw,c=>by
  unfold Builtin.growBy
  split
  . have:0<2^r:=Nat.two_pow_pos r;rw[Nat.pow_succ];have:c<=c*(2^r*2):=abR _ (by omega);omega
  . refine Nat.le_trans (Dj r aw _) ?_;have h1:c+(c+768)/4<=2*c+192:=by omega
    have h2:=W9 (2^r) h1;rw[Nat.pow_succ];have e1:c*(2^r*2)=2*(c*2^r):=by rw[Nat.mul_comm (2^r) 2,Nat.mul_left_comm]
    have e2:(2*c+192)*2^r=2*(c*2^r)+192*2^r:=by rw[PX,Nat.mul_assoc]
    omega
theorem La{need cap:Nat}(h:cap<need):Builtin.nextslicecap need cap<=need*16+6400:=by
 unfold Builtin.nextslicecap
 split
 . omega
 . split
   . omega
   . have:=Dj 4 need cap;omega
theorem Lb(he:e.Ok){ρ:aA}{h:aa}{w:World}(x:bh ρ h w){xv aW:Value}(hv:aJ ρ xv aW){z:Value}{elem:TypeId}{sz b n:Nat}{new:List Value}{made:Bool}
 (hz:e.zero elem=some z) (hs:e.size elem=some sz) (hb:e.bytes elem=some b) (bp:z.cells.toList.length=sz) (h0:0<sz)
 (hn:si made b xv=some n) (aE:sj h made z.cells.toList n sz xv=some new):
 (made=true->∃l,aW=.int .i64 l/\IntKind.i64.wrap l=l/\¬l<0/\¬l*(b:Int)>2^48/\l.toNat=n)/\(made=false->∀w',(Builtin.lenOf aW).run e.P w'=.ok n w')/\
 ∃ae:Array Value,bE ρ new ae.toList/\∀w',w'.heap=w.heap->(if !made then Builtin.firstCells sz n aW else if n*sz=0 then pure #[]else do pure (Builtin.zeroCells (<-zeroValue elem).cells n):Sem (Array Value)).run e.P w'=.ok ae w':=by
 unfold si at hn;unfold sj at aE;cases made with
 |true=>
  simp only[cond_true]at hn aE;cases hi:oa xv with
  |none=>simp[hi]at hn
  |some l=>
   simp only[hi]at hn;obtain⟨hc,hn⟩:=bU hn;cases hn;simp only[Er,decide_eq_true_eq]at hc;obtain⟨⟨c1,c2⟩,c3⟩:=hc;have c3:=PO c3;have hx:=y7 hi;subst hx;have hx:=hv.mg;subst hx;cases aE;refine⟨λ_=> ?_,(λh=>by cases h), ?_⟩
   . have hw:IntKind.i64.wrap l=l:=wrap_small c1 c2;have g1:¬l<0:=by omega
     have hl:(l.toNat:Int)=l:=Int.toNat_of_nonneg c1;have g2:¬l*(b:Int)>2^48:=by
      have:=Int.ofNat_le.2 c3;rw[Int.natCast_mul,hl,Int.mul_comm]at this;omega
     exact⟨l,rfl,hw,g1,g2,rfl⟩
   . by_cases bu:l.toNat*sz=0
     . refine⟨#[], ?_,λw' _=> ?_⟩
       . rw[bu];exact .nil
       . simp only[Xw,GP,if_false,bu,if_true];rfl
     . refine⟨Builtin.zeroCells z.cells l.toNat,K9 (he.sA hz ρ) bp h0,λw' _=> ?_⟩;simp only[Xw,GP,if_false,bu,Sem.run_bind,he.oi hz,Result.andThen_ok,Sem.run_pure]
 |false=>
  simp only[cond_false]at hn aE;refine⟨(λh=>by cases h),λ_ w'=>Di e.P hv hn w', ?_⟩
  . obtain⟨cs',g1,g2⟩:=y9 e.P x hv aE (λl hl=>by rw[hn]at hl;cases hl;exact xS _);refine⟨cs',g2,λw' hw=> ?_⟩;simp only[ZL,if_true];exact g1 w' hw
theorem aJ.wx{ρ:aA}{a:Addr}{l k:Nat}{v:Value}(h:aJ ρ (.slice (some a) l k) v):∃c k' pl,v=.slice (some c) l k'/\ρ a.block=some pl/\yT pl a l k c k':=by
 cases h with|sl h1 h2=>exact⟨_,_,_,rfl,h1,h2⟩
theorem aJ.za{ρ:aA}{l k:Nat}{v:Value}(h:aJ ρ (.slice none l k) v):v=.slice none l k:=by
 cases h;rfl
theorem Lc(he:e.Ok){ρ fp:aA}{h:aa}{w:World}(x:bh ρ h w){elem:TypeId}{z:Value}{sz:Nat}{need:Nat}{aY new:List Value}{af ae:Array Value}(bW:Ext fp ρ)
 (bp:z.cells.toList.length=sz) (h0:0<sz) (ho:bE ρ aY af.toList) (hn:bE ρ new ae.toList) (hl:aY.length+new.length=need*sz) (ad:Nat) (hc:need<=ad):
 ∃ai,aJ ai (.slice (some ⟨h.next,0,none⟩) need need) (.slice (some ⟨w.heap.size,0,none⟩) need ad)/\
  bh ai (h.new (.row (aY++new) true sz)) (World.add w (.cells (af++ae++Builtin.zeroCells z.cells (ad-need)) elem))/\
  Fr h.next ρ h w ai (h.new (.row (aY++new) true sz)) (World.add w (.cells (af++ae++Builtin.zeroCells z.cells (ad-need)) elem)):=by
 have hv:bE ρ (aY++new) (af++ae).toList:=by rw[Array.toList_append];exact ho.append hn
 obtain⟨ai,pl,g1,g2,g3,g4,g5,g6,g7,g8⟩:=K4 (rest:=Builtin.zeroCells z.cells (ad-need)) x (x.slot _) hv elem h0;refine⟨ai,.sl (a:=⟨h.next,0,none⟩) g1 (.inl ⟨by simp[g2,g3],.inr ⟨by omega, ?_, ?_,hc⟩⟩),g7,g8⟩
 . rw[g4,g6,Zj,hl];simp
 . rw[g5,g6,Zj,hl];have e1:z.cells.size=sz:=by simpa using bp
   have e2:(Builtin.zeroCells z.cells (ad-need)).size=(ad-need)*sz:=by simp[Builtin.zeroCells,e1]
   rw[e2,<-PX];simp only[Nat.zero_add];congr 1;omega
theorem Ld(P:Program)(w:World)(aV off:Nat)(c:Array Value)(el:TypeId)(vs:List Value)(hg:w.heap[aV]? =some (.cells c el (0,0)))(hl:off+vs.length<=c.size)(h1:∀v∈vs,v.oneCell'=true):
 (storeCells ⟨aV,off,none⟩ vs).run P w=.ok () (World.fO w aV (.cells (c.toList.take off++vs++c.toList.drop (off+vs.length)).toArray el (0,0))):=by
 have:=run_storeCells_at (P:=P) aV off el vs 0 c w hg (by omega) h1;rw[Da w aV c el (0,0) _ hg]at this;simpa using this
theorem Le(he:e.Ok){ρ:aA}{h h':aa}{w:World}(x:bh ρ h w){base:Option Addr}{len cap sz b n:Nat}{new:List Value}{ae:Array Value}{s' r:Value}{elem:TypeId}{z:Value}
 (hs:aJ ρ (.slice base len cap) s') (bc:bE ρ new ae.toList) (hr:pz h base len cap sz b n new=some (r,h')) (h0:0<sz) (bp:z.cells.toList.length=sz) (bo:new.length=n*sz)
 (hz:e.zero elem=some z) (bY:e.bytes elem=some b) (cr:e.size elem=some sz) (zb:Bool) (aW:Value) (appended:Sem (Array Value)) (bq:∀w',w'.heap=w.heap->appended.run e.P w'=.ok ae w'):
 gm h.next e.P ρ h w (match s' with
  |.slice base aN aP=>do
   let need:=aN+n
   if need<=aP then
    let new<-appended
    if let some a:=base then storeCells (a.add (aN*sz)) new.toList
    pure (.slice base need aP)
   else
    if(need:Int)>IntKind.i64.max/\(zb\/(<-typeInfo elem).bytes=0)then runtimePanic (.error "growslice: len out of range")
    if Builtin.nextslicecap need aP*(<-typeInfo elem).bytes>2^48 then(if zb then runtimePanic (.error "growslice: len out of range")else do
     if !(<-Builtin.mayShare sz aN n base aW)then mark .noRoom
     unsupported (.resourceLimit "append: a slice or a string whose bytes no memory bears"))
    let ad<-choose (.appendCap need aP elem)
    askRoom (ad*(<-typeInfo elem).bytes)
    let aY<-Builtin.firstCells sz aN s'
    let new<-appended
    let rest:=Builtin.zeroCells (<-zeroValue elem).cells (ad-need)
    pure (.slice (some (<-newRow elem (aY++new++rest))) need ad)
  |_=>stuck "") r h':=by
 have grow:∀(aF:Option Addr) (ab:Nat) (h1:aa) (x1:bh ρ h1 w) (aY:List Value),s'=.slice aF len ab->¬len+n<=ab->(len+n)*(b+1)<=1073741824->aY.length=len*sz->
  (∃af:Array Value,bE ρ aY af.toList/\∀w',w'.heap=w.heap->(Builtin.firstCells sz len s').run e.P w'=.ok af w')->
  ∃v' w' ai,(do
   if((len+n:Nat):Int)>IntKind.i64.max/\(zb\/(<-typeInfo elem).bytes=0)then runtimePanic (.error "growslice: len out of range")
   if Builtin.nextslicecap (len+n) ab*(<-typeInfo elem).bytes>2^48 then(if zb then runtimePanic (.error "growslice: len out of range")else do
    if !(<-Builtin.mayShare sz len n aF aW)then mark .noRoom
    unsupported (.resourceLimit "append: a slice or a string whose bytes no memory bears"))
   let ad<-choose (.appendCap (len+n) ab elem)
   askRoom (ad*(<-typeInfo elem).bytes)
   let aY<-Builtin.firstCells sz len s'
   let new<-appended
   let rest:=Builtin.zeroCells (<-zeroValue elem).cells (ad-(len+n))
   pure (.slice (some (<-newRow elem (aY++new++rest))) (len+n) ad):Sem Value).run e.P w=.ok v' w'/\
   aJ ai (.slice (some ⟨h1.next,0,none⟩) (len+n) (len+n)) v'/\bh ai (h1.new (.row (aY++new) true sz)) w'/\Fr h1.next ρ h1 w ai (h1.new (.row (aY++new) true sz)) w':=by
  intro aF ab h1 x1 aY ct hn az bs ⟨af,bZ,b0⟩;obtain⟨i,b1,dE⟩:=he.bytes elem b bY;have bL:len+n<=1073741824:=Nat.le_trans (abR _ (Nat.succ_pos b)) az;have c1:¬(((len+n:Nat):Int)>IntKind.i64.max/\(zb=true\/b=0)):=by
   intro hc;have:(9223372036854775807:Int)<((len+n:Nat):Int):=hc.1;omega
  have b2:=La (need:=len+n) (cap:=ab) (by omega);have c2:¬Builtin.nextslicecap (len+n) ab*b>2^48:=by
   have g1:=W9 b b2;have g2:((len+n)*16+6400)*b<=16*((len+n)*(b+1))+6400*b:=by
    rw[PX,Nat.mul_add,Nat.mul_comm (len+n) 16,Nat.mul_assoc];omega
   have g3:b<=(len+n)*(b+1):=by
    have:1*(b+1)<=(len+n)*(b+1):=W9 _ (by omega);omega
   omega
  have av:∀t,len+n<=(Question.appendCap (len+n) ab elem).cut t:=λt=>Nat.le_add_right _ _
  let w1:World:={w with drawn:=w.drawn+1}
  have x2:bh ρ h1 w1:=x1.draw rfl;obtain⟨ai,k1,k2,k3⟩:=Lc (fp:=ρ) he x2 (Ext.refl _) bp h0 bZ bc (need:=len+n) (by rw[bs,bo,<-PX]) ((Question.appendCap (len+n) ab elem).cut (w.tape w.drawn (.appendCap (len+n) ab elem))) (av _) (elem:=elem);refine⟨_,_,ai, ?_,k1,k2,(C6 (w:=w) (w':=w1) rfl rfl rfl _).trans k3⟩;have hq:(Question.appendCap (len+n) ab elem).forced=false:=rfl;simp only[Sem.run_bind,run_typeInfo b1,Result.andThen_ok,dE,c1,if_false,c2,run_choose,hq,GP,run_askRoom,b0 ⟨w.heap,w.tape,w.drawn+1,w.os,w.output⟩ rfl,bq ⟨w.heap,w.tape,w.drawn+1,w.os,w.output⟩ rfl,he.oi hz,uk,Sem.run_pure,Sem.run_ite];rfl
 unfold pz at hr;cases hle:Nat.ble (len+n) cap with
 |true=>
  have aQ:len+n<=cap:=PO hle;simp only[hle,cond_true]at hr;cases base with
  |none=>
   simp only at hr;obtain⟨bM,hr⟩:=bU hr;cases hr;have:=hs.za;subst this;refine gm.same x (v':=.slice none (len+n) cap) ?_ (.jZ _ _);simp only[aQ,if_true,Sem.run_bind,bq w rfl,Result.andThen_ok,Sem.run_pure]
  |some a=>
   simp only at hr;obtain⟨c,ab,pl,rfl,hp,aS⟩:=hs.wx;cases hw:ly h (a.add (len*sz)) new with
   |none=>simp[hw]at hr
   |some h1=>
    simp only[hw,qe,TF]at hr;obtain⟨rfl,rfl⟩:=hr;have bk:len+n<=ab:=by rcases aS with⟨_,h1|h1⟩|h1<;>omega
    rcases aS with⟨hc,b3⟩|⟨k1,k2,k3⟩
    . obtain⟨w',g1,g2,g3⟩:=yZ e.P (b:=h.next) x (a:=a.add (len*sz)) (pl:=pl) (by rw[Addr.sx];exact hp) bc hw;refine⟨.slice (some c) (len+n) ab,w',ρ, ?_,.sl (g3.ext _ _ hp) (.inl ⟨hc,b3⟩),g2,g3⟩;have bx:c.add (len*sz)=⟨pl.aV,pl.off+(a.add (len*sz)).off,none⟩:=by rw[hc,oj,Addr.qO,Nat.add_assoc]
      simp only[bk,if_true,Sem.run_bind,bq w rfl,Result.andThen_ok,bx,g1,Sem.run_pure]
    . have bM:n=0:=by omega
      have bN:len=0:=by omega
      have b5:new=[]:=Qc (by rw[bo,bM,W2]);subst b5;have bz:ae.toList=[]:=Qc (by rw[<-bc.length];rfl);simp only[ly,qe]at hw;subst hw;refine gm.same x (v':=.slice (some c) (len+n) ab) ?_ (.sl hp (.inr ⟨by omega,k2,k3⟩));simp only[bk,if_true,Sem.run_bind,bq w rfl,Result.andThen_ok,bz,storeCells,Sem.run_pure]
 |false=>
  have aQ:¬len+n<=cap:=λh=>by rw[Nat.ble_eq_true_of_le h]at hle;cases hle
  simp only[hle,cond_false]at hr;obtain⟨az,hr⟩:=bU hr;have az:=PO az;cases base with
  |none=>
   simp only at hr;obtain⟨hb,hr⟩:=bU hr;cases hr;rw[Er]at hb;have bN:len=0:=DE hb.1;have cu:cap=0:=DE hb.2;have:=hs.za;subst this;obtain⟨v',w',ai,k1,k2,k3,k4⟩:=grow none cap h x [] rfl aQ az (by rw[bN,W2];rfl) ⟨#[],.nil,λ_ _=>rfl⟩;refine⟨v',w',ai, ?_,k2,k3,k4⟩;simp only[aQ,if_false];exact k1
  |some a=>
   simp only at hr;obtain⟨c,ab,pl,rfl,hp,aS⟩:=hs.wx;cases ho:fF h a (len*sz)with
   |none=>simp[ho]at hr
   |some aY=>
    cases hg:h.get a.block with
    |none=>simp[ho,hg]at hr
    |some o=>
     cases o with
     |row rs wr ah=>
      simp only[ho,hg]at hr;have b6:gW h sz len (.slice (some a) len cap)=some aY:=ho;obtain⟨af,f1,f2⟩:=y9 e.P x hs b6 (λl hl=>by cases hl;exact xS _);have bs:aY.length=len*sz:=by
       obtain⟨cs',q1,q2,_⟩:=sy x hp ho;rw[q1.length];exact q2
      obtain⟨pl',g1,cc,el,fz,g2,g3,g4,g5,g6,g7,g8,g9⟩:=x.obj _ _ hg;rw[hp]at g1;cases g1;cases aB:Nat.beq ah 0||(Nat.beq ah sz&&Nat.blt (a.off+cap*sz) rs.length)with
      |true=>
       simp only[aB,cond_true,qe,TF]at hr;obtain⟨rfl,rfl⟩:=hr;have aT:¬len+n<=ab:=by
        simp only[ZJ,Er]at aB;rcases aS with⟨_,h1|⟨h1,h2,h3,h4⟩⟩|⟨h1,h2,h3⟩
        . omega
        . rcases aB with hb|⟨hb,bn⟩
          . have:=DE hb;omega
          . have:=DE hb;have bn:a.off+cap*sz<rs.length:=PO bn;rw[g5,this,g4]at h2;omega
        . omega
       obtain⟨v',w',ai,k1,k2,k3,k4⟩:=grow (some c) ab h x aY rfl aT az bs ⟨af,f2,f1⟩;refine⟨v',w',ai, ?_,k2,k3,k4⟩;simp only[aT,if_false];exact k1
      |false=>
       simp only[aB,cond_false]at hr;obtain⟨hb,hr⟩:=bU hr;simp only[qe,TF]at hr;obtain⟨rfl,rfl⟩:=hr;simp only[Er]at hb;obtain⟨⟨b7,bb⟩,bA⟩:=hb;have bb:=DE bb;subst b7;have b8:=g3 rfl;subst b8;by_cases aI:len+n<=ab
       ·
        have hd:c=⟨pl.aV,pl.off+a.off,none⟩/\0<pl.ah/\a.off+cap*pl.ah=pl.n/\a.off+ab*pl.ah=pl.cap:=by
         rcases aS with⟨hc,h1|⟨h1,h2,h3,h4⟩⟩|⟨h1,h2,h3⟩
         . omega
         . exact⟨hc,h1,h2,h3⟩
         . omega
        obtain⟨hc,b9,ca,cb⟩:=hd;have cd:pl.ah=sz:=g5.trans bb;rw[cd]at b9 ca cb;have hq:(len+n)*sz<=ab*sz:=W9 _ aI;have bO:(len+n)*sz=len*sz+n*sz:=PX _ _ _;have aR:ae.toList.length=n*sz:=by rw[<-bc.length];exact bo
        have cg:=Ld e.P w pl.aV (pl.off+a.off+len*sz) cc el ae.toList g2 (by rw[aR];omega) (bc.dw bA)
        let pl':Pl:={aV:=pl.aV,off:=pl.off+a.off,n:=(len+n)*sz,cap:=pl.cap-a.off,ah:=sz}
        have hr:gY (ρ.put h.next pl') (World.fO w pl.aV (.cells (cc.toList.take (pl.off+a.off+len*sz)++ae.toList++cc.toList.drop (pl.off+a.off+len*sz+ae.toList.length)).toArray el (0,0))) pl' (.row (aY++new) true sz):=by
         have ch:pl.aV<w.heap.size:=(Array.getElem?_eq_some_iff.1 g2).1;refine⟨_,el,(0,0),oh w _ _ ch,λ_=>rfl, ?_,rfl, ?_, ?_,λh=>absurd h (by omega), ?_,λ_=>trivial⟩
         . show(len+n)*sz=(aY++new).length;rw[Zj,bs,bo,bO]
         . show(len+n)*sz<=pl.cap-a.off;omega
         . show pl.off+a.off+(pl.cap-a.off)<=_;simp only[List.size_toArray,Zj,List.length_take,List.length_drop,Z4];simp only[Z4]at aR;omega
         . show bE _ (aY++new) ((_:List Value).take ((len+n)*sz));simp only;have cj:pl.off+a.off+(len+n)*sz<=cc.toList.length:=by rw[Z4];omega
           rw[Dc cc.toList (pl.off+a.off) ((len+n)*sz) (len*sz) ae.toList (by rw[aR];omega) cj];obtain⟨cs',q1,q2,q3⟩:=sy x hp ho;have bB:cs'=(cc.toList.drop (pl.off+a.off)).take (len*sz):=by
            apply List.ext_getElem?;intro i;rcases Nat.lt_or_ge i (len*sz)with hi|hi
            . have bD:=q3 i cs'[i] (ab8 (by omega));rw[oj]at bD;simp only[World.cell?,g2,Zr,GP,if_false]at bD;rw[adr,if_pos hi,List.getElem?_drop,ab8 (by omega:i<cs'.length),<-bD,Array.getElem?_toList]
            . rw[List.getElem?_eq_none (by omega),adr,if_neg (by omega)]
           have bF:dN ((cc.toList.drop (pl.off+a.off)).take ((len+n)*sz)) (len*sz) ae.toList=cs'++ae.toList:=by
            unfold dN;rw[List.take_take,Nat.min_eq_left (by omega),<-bB,aR,<-bO,List.drop_take,Nat.sub_self,List.take_zero,List.append_nil]
           rw[bF];exact(q1.append bc).mono λ_ _=>aJ.mono (aA.qM pl' x.fresh)
        obtain⟨m1,m2⟩:=KT (pl':=pl') x hg rfl hp rfl rfl hr rfl;refine⟨.slice (some c) (len+n) ab,_,_, ?_,.sl (a:=⟨h.next,0,none⟩) (pl:=pl') (aA.kE _ _ _) (.inl ⟨hc,.inr ⟨h0, ?_, ?_,aI⟩⟩),m1,m2⟩
        . have bx:c.add (len*sz)=⟨pl.aV,pl.off+a.off+len*sz,none⟩:=by rw[hc,oj]
          simp only[aI,if_true,Sem.run_bind,bq w rfl,Result.andThen_ok,bx,cg,Sem.run_pure]
        . show 0+(len+n)*sz=(len+n)*sz;omega
        . show 0+ab*sz=pl.cap-a.off;omega
       . obtain⟨x1,ck⟩:=x.kill a.block h.next;obtain⟨v',w',ai,k1,k2,k3,k4⟩:=grow (some c) ab (h.set a.block none) x1 aY rfl aI az bs ⟨af,f2,f1⟩;refine⟨v',w',ai, ?_,k2,k3,ck.trans k4⟩;simp only[aI,if_false];exact k1
     |_=>simp[ho,hg]at hr
end Go.au
end
noncomputable section
namespace Go.au
variable {e:Env}
theorem Lg(he:e.Ok){ρ:aA}{h h':aa}{w:World}(x:bh ρ h w){ao:Array TypeId}{s s' xv ai r:Value}(hs:aJ ρ s s')(hx:aJ ρ xv ai)
 (hr:mY e h ao s xv=some (r,h')) (ty:TypeId):gm h.next e.P ρ h w (Builtin.append_ ao ty #[s',ai]) r h':=by
 unfold mY at hr;cases ae:ao[0]? with
 |none=>simp[ae]at hr
 |some st=>
 cases aB:ao[1]? with
 |none=>simp[ae,aB]at hr
 |some xt=>
 have aC:∃base len cap,s=.slice base len cap:=by
  cases s<;>simp[ae,aB]at hr;exact⟨_,_,_,rfl⟩
 obtain⟨base,len,cap,rfl⟩:=aC;simp only[ae,aB]at hr;cases hu:e.under st with
 |none=>simp[hu]at hr
 |some d=>
 cases d with
 |slice elem=>
  cases aE:e.under xt with
  |none=>simp[hu,aE]at hr
  |some xd=>
  simp only[hu,aE]at hr;cases ad:e.size elem with
  |none=>simp[ad]at hr
  |some sz=>
  cases hz:e.zero elem with
  |none=>simp[ad,hz]at hr
  |some z=>
  cases aD:e.bytes elem with
  |none=>simp[ad,hz,aD]at hr
  |some aK=>
  simp only[ad,hz,aD]at hr;cases hn:si (oc xd) aK xv with
  |none=>simp[hn]at hr
  |some n=>
  simp only[hn]at hr;cases av:sj h (oc xd) z.cells.toList n sz xv with
  |none=>simp[av]at hr
  |some new=>
  simp only[av]at hr;obtain⟨hb,hr⟩:=bU hr;simp only[Er]at hb;obtain⟨⟨aP,aQ⟩,aR⟩:=hb;have h0:0<sz:=PO aP;have aL:z.cells.toList.length=sz:=DE aQ;have aS:new.length=n*sz:=DE aR;obtain⟨aT,aU,aW,aX,aF⟩:=Lb he x hx hz ad aD aL h0 hn av;have key:=Le he x hs aX hr h0 aL aS hz aD ad (oc xd) ai _ aF;obtain⟨v',w',aZ,k1,k2⟩:=key;refine⟨v',w',aZ, ?_,k2⟩;have aw:(#[s',ai]:Array Value)[0]? =some s':=rfl;have az:(#[s',ai]:Array Value)[1]? =some ai:=rfl;obtain⟨ab,af,rfl⟩:∃ab af,s'=.slice ab len af:=by
   cases hs with
   |jZ l k=>exact⟨_,_,rfl⟩
   |sl _ _=>exact⟨_,_,rfl⟩
  obtain⟨i,nY,bb⟩:=he.bytes elem aK aD;cases xd with
  |int k=>
   obtain⟨l,rfl,q1,q2,q3,q4⟩:=aT rfl;have az:(#[Value.slice ab len af,.int .i64 l]:Array Value)[1]? =some (.int .i64 l):=rfl;have aw:(#[Value.slice ab len af,.int .i64 l]:Array Value)[0]? =some (.slice ab len af):=rfl;simp only[Builtin.append_,ae,aB,aw,az,Sem.run_bind,he.c8 hu,he.c8 aE,Result.andThen_ok,he.gZ ad,Sem.run_pure,if_true,Xw,GP,if_false,asInt,asIntOf,q1,q2,run_typeInfo nY,bb,q3,q4];simp only[oc,Xw,GP,if_true,if_false]at k1⊢;exact k1
  |_=>
   simp only[Builtin.append_,ae,aB,aw,az,Sem.run_bind,he.c8 hu,he.c8 aE,Result.andThen_ok,he.gZ ad,Sem.run_pure,ZL,if_true,GP,if_false,aU rfl w];simp only[oc,ZL,GP,if_true,if_false]at k1⊢;exact k1
 |_=>simp[hu]at hr
theorem Lh(he:e.Ok){ρ:aA}{h h':aa}{w:World}(x:bh ρ h w){ao:Array TypeId}{d d' xv ai r:Value}(hd:aJ ρ d d')(hx:aJ ρ xv ai)
 (hr:wh e h ao d xv=some (r,h')) (ty:TypeId):gm h.next e.P ρ h w (Builtin.copy_ ao ty #[d',ai]) r h':=by
 unfold wh at hr;cases ae:ao[0]? with
 |none=>simp[ae]at hr
 |some dt=>
 have aC:∃base len cap,d=.slice base len cap:=by
  cases d<;>simp[ae]at hr;exact⟨_,_,_,rfl⟩
 obtain⟨base,len,cap,rfl⟩:=aC;simp only[ae]at hr;cases hu:e.under dt with
 |none=>simp[hu]at hr
 |some td=>
 cases td with
 |slice elem=>
  cases hl:py xv with
  |none=>simp[hu,hl]at hr
  |some xl=>
  simp only[hu,hl]at hr;cases ad:e.size elem with
  |none=>simp[ad]at hr
  |some sz=>
  simp only[ad]at hr;cases hf:gW h sz (VK xl len) xv with
  |none=>simp[hf]at hr
  |some cs=>
  simp only[hf]at hr;obtain⟨hb,hr⟩:=bU hr;have aM:=DE hb;obtain⟨cs',g1,g2⟩:=y9 e.P x hx hf (λl aN=>by rw[hl]at aN;cases aN;exact Nat.min_le_left _ _);have aw:(#[d',ai]:Array Value)[0]? =some d':=rfl;have az:(#[d',ai]:Array Value)[1]? =some ai:=rfl;have aI:=Di e.P hx hl w;cases base with
  |none=>
   simp only[qe,TF]at hr;obtain⟨rfl,rfl⟩:=hr;have:=hd.za;subst this;refine gm.same x (v':=.int .i64 (VK xl len:Nat)) ?_ (.int _ _);simp only[Builtin.copy_,ae,aw,az,Sem.run_bind,he.c8 hu,Result.andThen_ok,aI,he.gZ ad,g1 w rfl,Sem.run_pure,goInt]
  |some a=>
   simp only at hr;cases hw:ly h a cs with
   |none=>simp[hw]at hr
   |some h1=>
    simp only[hw,qe,TF]at hr;obtain⟨rfl,rfl⟩:=hr;obtain⟨c,af,pl,rfl,hp,aC⟩:=hd.wx;rcases aC with⟨hc,_⟩|⟨k1,_,_⟩
    . obtain⟨w',q1,q2,q3⟩:=yZ e.P (b:=h.next) x hp g2 hw;refine⟨.int .i64 (VK xl len:Nat),w',ρ, ?_,.int _ _,q2,q3⟩;rw[<-hc]at q1;simp only[Builtin.copy_,ae,aw,az,Sem.run_bind,he.c8 hu,Result.andThen_ok,aI,he.gZ ad,g1 w rfl,q1,Sem.run_pure,goInt]
    . have h0:VK xl len=0:=by rw[k1];exact Nat.min_zero _
      rw[h0,W2]at aM;have hn:cs=[]:=Qc aM;subst hn;simp only[ly,qe]at hw;subst hw;have bc:cs'.toList=[]:=Qc (by rw[<-g2.length];rfl);refine gm.same x (v':=.int .i64 (VK xl len:Nat)) ?_ (.int _ _);simp only[Builtin.copy_,ae,aw,az,Sem.run_bind,he.c8 hu,Result.andThen_ok,aI,he.gZ ad,g1 w rfl,bc,storeCells,Sem.run_pure,goInt]
 |_=>simp[hu]at hr
end Go.au
end

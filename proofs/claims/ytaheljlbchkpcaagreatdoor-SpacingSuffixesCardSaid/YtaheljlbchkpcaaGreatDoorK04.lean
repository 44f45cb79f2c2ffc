/- SpacingSuffixes: parts of its proof (AbsF AbsG). -/
import Derived.Test.YtaheljlbchkpcaaGreatDoorK03
set_option linter.unusedVariables false
set_option linter.unusedSimpArgs false
noncomputable section
namespace Go.aw
variable {e:Env}
theorem sC{P:Program}{s:Sem Value}{r:Value}(h:e9 P s=some r)(w:World){ρ:ay}:s.run P w=.ok r w/\aK ρ r r:=by
 unfold e9 at h;cases hp:bY P s with
 |none=>simp[hp]at h
 |some v=>
  simp only[hp]at h;obtain⟨hb,h⟩:=ca h;cases h;exact⟨wb P s _ hp w,oi hb⟩
inductive oo(ρ:ay):Option Value->Option Value->Prop
 |none:oo ρ none none
 |some {v v':Value}:aK ρ v v'->oo ρ (some v) (some v')
theorem qK(P:Program){ρ:ay}{v v':Value}(hv:aK ρ v v'){ao aD d r:Nat}(h:eC (some v) ao d=some r)(hm:ao<=aD)(code:BoundsCode)(w:World):
 (Instr.sliceBound v' aD code).run P w=.ok r w/\r<=ao:=by
 unfold eC at h;cases hi:intOf v with
 |none=>simp[hi]at h
 |some i=>
  simp only[hi]at h;obtain⟨hb,h⟩:=ca h;cases h;obtain⟨k,rfl⟩:=of_int hi;have:=hv.nf;subst this;simp only[Bool.and_eq_true,decide_eq_true_eq]at hb;have hc:0<=i/\i<=(aD:Int):=⟨hb.1,by omega⟩;refine⟨?_,by omega⟩;simp only[Instr.sliceBound,asIntOf,Sem.run_bind,Sem.run_pure,Result.andThen_ok,hc,and_self,if_true]
theorem AB(P:Program){ρ:ay}{lo bj hi bl mx bn:Option Value}(aL:oo ρ lo bj)(aY:oo ρ hi bl)(bb:oo ρ mx bn){len cap ab m h l:Nat}(au:cap<=ab)
 (h1:eC mx cap cap=some m) (h2:eC hi m len=some h) (h3:eC lo h 0=some l) (h4:(mx.isNone||hi.isSome)=true) (b:Bool) (w:World):
 ∃m',(Instr.sliceBounds b len ab bj bl bn).run P w=.ok (l,h,m') w/\(mx=none->m=cap/\m'=ab)/\(mx≠none->m'=m)/\l<=h/\m<=m':=by
 cases bb with
 |none=>
  simp only[eC,Option.some.injEq]at h1;subst h1;refine⟨ab, ?_,λ_=>⟨rfl,rfl⟩,λh=>absurd rfl h, ?_,au⟩
  . cases aY with
    |none=>
     simp only[eC,Option.some.injEq]at h2;subst h2;cases aL with
     |none=>
      simp only[eC,Option.some.injEq]at h3;subst h3;rfl
     |some hv=>
      have:=(qK P hv h3 (Nat.le_refl _) .sliceB w).1;simp only[Instr.sliceBounds,Sem.run_bind,Sem.run_pure,Result.andThen_ok,Option.isSome_none,Bool.false_eq_true,if_false,this]
    |some hv=>
     have g:=(qK P hv h2 au (if b then .sliceAcap else .sliceAlen) w).1;cases aL with
     |none=>
      simp only[eC,Option.some.injEq]at h3;subst h3;simp only[Instr.sliceBounds,Sem.run_bind,Sem.run_pure,Result.andThen_ok,g]
     |some bA=>
      have:=(qK P bA h3 (Nat.le_refl _) .sliceB w).1;simp only[Instr.sliceBounds,Sem.run_bind,Sem.run_pure,Result.andThen_ok,Option.isSome_none,Bool.false_eq_true,if_false,g,this]
  . cases aL with
    |none=>simp only[eC,Option.some.injEq]at h3;omega
    |some hv=>exact(qK P hv h3 (Nat.le_refl _) .sliceB w).2
 |some hm=>
  have g0:=(qK P hm h1 au (if b then .slice3Acap else .slice3Alen) w).1;refine⟨m, ?_,(λh=>by cases h),λ_=>rfl, ?_,Nat.le_refl _⟩
  . cases aY with
    |none=>simp at h4
    |some hv=>
     have g:=(qK P hv h2 (Nat.le_refl _) .slice3B w).1;cases aL with
     |none=>
      simp only[eC,Option.some.injEq]at h3;subst h3;simp only[Instr.sliceBounds,Sem.run_bind,Sem.run_pure,Result.andThen_ok,g0,g]
     |some bA=>
      have:=(qK P bA h3 (Nat.le_refl _) .slice3C w).1;simp only[Instr.sliceBounds,Sem.run_bind,Sem.run_pure,Result.andThen_ok,Option.isSome_some,if_true,g0,g,this]
  . cases aL with
    |none=>simp only[eC,Option.some.injEq]at h3;omega
    |some hv=>exact(qK P hv h3 (Nat.le_refl _) .sliceB w).2
theorem EE{v:Option Value}{ao d r:Nat}(h:eC v ao d=some r)(hd:d<=ao):r<=ao:=by
 unfold eC at h
 split at h
 . cases h;exact hd
 . split at h
   . cases h
   . obtain⟨hb,h⟩:=ca h;cases h;simp only[Bool.and_eq_true,decide_eq_true_eq]at hb;omega
theorem Ml{ρ:ay}{h:aa}{w:World}(x:bm ρ h w){a:Addr}{pl:Pl}(hp:ρ a.block=some pl){s:Nat}(hs:mZ h a s=true):pl.ah=0\/pl.ah=s:=by
 unfold mZ at hs;cases ho:h.get a.block with
 |none=>simp[ho]at hs
 |some o=>
  cases o with
  |row rs wr ah=>
   obtain⟨pl',g1,c,el,fz,g2,g3,g4,g5,_⟩:=x.obj _ _ ho;rw[hp]at g1;cases g1;simp only[ho,Bool.or_eq_true]at hs;rcases hs with hs|hs
   . exact .inl (g5.trans (Nat.eq_of_beq_eq_true hs))
   . exact .inr (g5.trans (Nat.eq_of_beq_eq_true hs))
  |_=>simp[ho]at hs
theorem Mm(he:e.Ok){ρ:ay}{h:aa}{w:World}(x:bm ρ h w){t:TypeId}{v v':Value}{lo bj hi bl mx bn:Option Value}(hv:aK ρ v v')(aL:oo ρ lo bj)(aY:oo ρ hi bl)(bb:oo ρ mx bn)
 {r:Value} (hr:j8 e h t v lo hi mx=some r):∃r',(Instr.sliceAt t v' bj bl bn).run e.P w=.ok r' w/\aK ρ r r':=by
 unfold j8 at hr;cases hu:e.under t with
 |none=>simp[hu]at hr
 |some d=>
  cases hv with
  |string s=>
   cases d with
   |string=>
    simp only[hu]at hr;obtain⟨hb,hr⟩:=ca hr;simp only[Bool.and_eq_true]at hb;have aE:∀{y y':Option Value},oo ρ y y'->ud y=true->y'=y:=λhy hz=>by
     cases hy with
     |none=>rfl
     |some hv=>rw[qJ hz hv]
    rw[aE aL hb.1,aE aY hb.2.1,aE bb hb.2.2];exact⟨r,sC hr w⟩
   |_=>simp[hu]at hr
  |kK len cap=>
   cases d with
   |slice elem=>
    simp only[hu]at hr;cases hs:e.size elem with
    |none=>simp[hs]at hr
    |some s=>
     cases hm:eC mx cap cap with
     |none=>simp[hs,hm]at hr
     |some m=>
      simp only[hs,hm]at hr;cases hh:eC hi m len with
      |none=>simp[hh]at hr
      |some aO=>
       simp only[hh]at hr;obtain⟨hb,hr⟩:=ca hr;rw[Bool.and_eq_true]at hb;cases hl:eC lo aO 0 with
       |none=>simp[hl]at hr
       |some l=>
        simp only[hl,Option.some.injEq]at hr;subst hr;obtain⟨m',g1,g2,g3,g4,g5⟩:=AB e.P aL aY bb (Nat.le_refl cap) hm hh hl hb.2 true w;have bL:m'=m:=by
         by_cases h0:mx=none
         . rw[(g2 h0).1,(g2 h0).2]
         . exact g3 h0
        subst bL;refine⟨_, ?_,.kK _ _⟩;simp only[Instr.sliceAt,Instr.slice,Sem.run_bind,he.dA hu,Result.andThen_ok,g1,he.iN hs,Sem.run_pure,Option.map_none,ite_self]
   |_=>simp[hu]at hr
  | @sl a c len cap ab pl hp aU=>
   cases d with
   |slice elem=>
    simp only[hu]at hr;cases hs:e.size elem with
    |none=>simp[hs]at hr
    |some s=>
     cases hm:eC mx cap cap with
     |none=>simp[hs,hm]at hr
     |some m=>
      simp only[hs,hm]at hr;cases hh:eC hi m len with
      |none=>simp[hh]at hr
      |some aO=>
       simp only[hh]at hr;obtain⟨hb,hr⟩:=ca hr;rw[Bool.and_eq_true]at hb;have cr:aO<=m:=Nat.le_of_ble_eq_true hb.1;cases hl:eC lo aO 0 with
       |none=>simp[hl]at hr
       |some l=>
        simp only[hl]at hr;obtain⟨hz,hr⟩:=ca hr;cases hr;have au:cap<=ab:=by
         rcases aU with⟨_,h1|h1⟩|h1<;>omega
        obtain⟨m',g1,g2,g3,g4,g5⟩:=AB e.P aL aY bb au hm hh hl hb.2 true w;have bN:m<=cap:=EE hm (Nat.le_refl _);refine⟨.slice (some (if m'=l then c else c.add (l*s))) (aO-l) (m'-l), ?_,.sl (pl:=pl) (by rw[Addr.ur];exact hp) ?_⟩
        . simp only[Instr.sliceAt,Instr.slice,Sem.run_bind,he.dA hu,Result.andThen_ok,g1,he.iN hs,Sem.run_pure,Option.map_some]
          split<;>rfl
        . have bU:=Ml x hp hz;unfold Ar;rcases aU with⟨hc,bo⟩|⟨ct,cu,bW⟩
          . by_cases bc:m'=l
            . right;have:m=l:=by omega
              omega
            . left;rw[if_neg bc];refine⟨?_, ?_⟩
              . rw[hc,pG,Addr.sB];simp only[Addr.mk.injEq,true_and,and_true];omega
              . by_cases bq:mx=none
                . obtain⟨e1,e2⟩:=g2 bq;rcases bo with bo|⟨k1,k2,k3,k4⟩
                  . left;omega
                  . right;have bf:pl.ah=s:=by omega
                    rw[bf]at k1 k2 k3;rw[Addr.sB,bf];subst e1;subst e2;have q1:l*s+(m-l)*s=m*s:=by rw[<-Nat.add_mul];congr 1;omega
                    have q2:l*s+(m'-l)*s=m'*s:=by rw[<-Nat.add_mul];congr 1;omega
                    refine⟨by omega,by omega,by omega,by omega⟩
                . left;rw[g3 bq]
          . right;have:m=0:=by omega
            have bL:m'=0:=by
             by_cases bq:mx=none
             . rw[(g2 bq).2];exact bW
             . rw[g3 bq];omega
            omega
   |_=>simp[hu]at hr
  | @ptr a pl hp=>
   cases d with
   |array n elem=>
    simp only[hu]at hr;cases hs:e.size elem with
    |none=>simp[hs]at hr
    |some s=>
     cases bb with
     |some _=>simp[hs]at hr
     |none=>
      simp only[hs]at hr;cases hh:eC hi n n with
      |none=>simp[hh]at hr
      |some aO=>
       simp only[hh]at hr;cases hl:eC lo aO 0 with
       |none=>simp[hl]at hr
       |some l=>
        simp only[hl,Option.some.injEq]at hr;subst hr;obtain⟨m',g1,g2,g3,g4,g5⟩:=AB e.P aL aY (.none (ρ:=ρ)) (Nat.le_refl n) (m:=n) rfl hh hl rfl false w;obtain⟨_,rfl⟩:=g2 rfl;have cv:aO<=m':=EE hh (Nat.le_refl _);refine⟨.slice (some (if m'=l then(⟨pl.aW,pl.off+a.off,none⟩:Addr)else(⟨pl.aW,pl.off+a.off,none⟩:Addr).add (l*s))) (aO-l) (m'-l), ?_, ?_⟩
        . simp only[Instr.sliceAt,Sem.run_bind,he.dA hu,Result.andThen_ok,Instr.sureAddr,Sem.run_pure,g1,he.iN hs]
        . by_cases bc:m'=l
          . rw[if_pos bc,if_pos bc];exact .sl hp (.inr (by omega))
          . rw[if_neg bc,if_neg bc];refine .sl (pl:=pl) (by rw[Addr.ur];exact hp) (.inl ⟨?_,.inl rfl⟩);rw[pG,Addr.sB];simp only[Addr.mk.injEq,true_and,and_true];omega
   |_=>simp[hu]at hr
  |_=>cases d<;>simp[hu]at hr
theorem Mn(he:e.Ok){ρ:ay}{h:aa}{w:World}(x:bm ρ h w){t:TypeId}{v v' r:Value}(hv:aK ρ v v')(hr:fU e h t v=some r)(bs:Array TypeId)(aN:bs[0]? =some t)(ty:TypeId):
 ∃r',(Builtin.len_ bs ty #[v']).run e.P w=.ok r' w/\aK ρ r r':=by
 unfold fU at hr;cases hu:e.under t with
 |none=>simp[hu]at hr
 |some d=>
  simp only[hu]at hr;have h0:(#[v']:Array Value)[0]? =some v':=rfl;cases d with
  |array n el=>
   simp only[Option.some.injEq]at hr;subst hr;exact⟨_,by simp only[Builtin.len_,aN,h0,Sem.run_bind,he.dA hu,Result.andThen_ok,Sem.run_pure,goInt],.int _ _⟩
  |pointer arr=>
   simp only at hr;cases ha:e.under arr with
   |none=>simp[ha]at hr
   |some da=>
    cases da with
    |array n el=>
     simp only[ha,Option.some.injEq]at hr;subst hr;exact⟨_,by simp only[Builtin.len_,aN,h0,Sem.run_bind,he.dA hu,he.dA ha,Result.andThen_ok,Sem.run_pure,goInt],.int _ _⟩
    |_=>simp[ha]at hr
  |string=>
   cases hv with
   |string s=>
    simp only[Option.some.injEq]at hr;subst hr;exact⟨_,by simp only[Builtin.len_,aN,h0,Sem.run_bind,he.dA hu,Result.andThen_ok,Sem.run_pure,goInt],.int _ _⟩
   |_=>simp at hr
  |slice el=>
   cases hv with
   |kK l k=>
    simp only[Option.some.injEq]at hr;subst hr;exact⟨_,by simp only[Builtin.len_,aN,h0,Sem.run_bind,he.dA hu,Result.andThen_ok,Sem.run_pure,goInt],.int _ _⟩
   |sl hp hs=>
    simp only[Option.some.injEq]at hr;subst hr;exact⟨_,by simp only[Builtin.len_,aN,h0,Sem.run_bind,he.dA hu,Result.andThen_ok,Sem.run_pure,goInt],.int _ _⟩
   |_=>simp at hr
  |map k el=>
   cases hv with
   |pD=>
    simp only[Option.some.injEq]at hr;subst hr;exact⟨_,by simp only[Builtin.len_,aN,h0,Sem.run_bind,he.dA hu,Result.andThen_ok,Sem.run_pure,goInt],.int _ _⟩
   | @map i pl hp=>
    simp only at hr;cases ho:h.get i with
    |none=>simp[ho]at hr
    |some o=>
     cases o with
     |map es clock=>
      simp only[ho,Option.some.injEq]at hr;subst hr;obtain⟨pl',g1,g2,bO,g3,g4⟩:=x.obj _ _ ho;rw[hp]at g1;cases g1;have hl:es.length=bO.size:=by simpa using g4.length
      refine⟨.int .i64 es.length, ?_,.int _ _⟩;have bX:(getObj pl.aW).run e.P w=.ok (.map bO clock) w:=by simp only[getObj,Sem.run,g3]
      simp only[Builtin.len_,aN,h0,Sem.run_bind,he.dA hu,Result.andThen_ok,bX,Sem.run_pure,goInt,hl]
     |_=>simp[ho]at hr
   |_=>simp at hr
  |_=>simp at hr
theorem Mo(he:e.Ok){ρ:ay}{h:aa}{w:World}(x:bm ρ h w){t:TypeId}{v v' r:Value}(hv:aK ρ v v')(hr:sf e h t v=some r)(bs:Array TypeId)(aN:bs[0]? =some t)(ty:TypeId):
 ∃r',(Builtin.cap_ bs ty #[v']).run e.P w=.ok r' w/\aK ρ r r':=by
 unfold sf at hr;cases hu:e.under t with
 |none=>simp[hu]at hr
 |some d=>
  have h0:(#[v']:Array Value)[0]? =some v':=rfl;cases d with
  |slice el=>
   cases hv with
   |kK l k=>
    simp only[hu,Option.some.injEq]at hr;subst hr;exact⟨_,by simp only[Builtin.cap_,aN,h0,Sem.run_bind,he.dA hu,Result.andThen_ok,Sem.run_pure,goInt],.int _ _⟩
   | @sl a c l k k' pl hp hs=>
    simp only[hu]at hr;cases ho:h.get a.block with
    |none=>simp[ho]at hr
    |some o=>
     cases o with
     |row rs wr ah=>
      simp only[ho]at hr;cases hz:e.size el with
      |none=>simp[hz]at hr
      |some s=>
       simp only[hz]at hr;obtain⟨hb,hr⟩:=ca hr;cases hr;obtain⟨pl',g1,c',cw,fz,g2,g3,g4,g5,g6,g7,g8,g9⟩:=x.obj _ _ ho;rw[hp]at g1;cases g1;have:k'=k:=by
        simp only[Bool.or_eq_true,Bool.and_eq_true]at hb;rcases hs with⟨_,h1|⟨h1,h2,h3,h4⟩⟩|⟨h1,h2,h3⟩
        . exact h1
        . rcases hb with hb|⟨hb,bt⟩
          . have:=Nat.eq_of_beq_eq_true hb;omega
          . have:=Nat.eq_of_beq_eq_true hb;have bt:a.off+k*s<rs.length:=Nat.le_of_ble_eq_true bt;rw[g5,this,g4]at h2;omega
        . omega
       subst this;exact⟨_,by simp only[Builtin.cap_,aN,h0,Sem.run_bind,he.dA hu,Result.andThen_ok,Sem.run_pure,goInt],.int _ _⟩
     |_=>simp[ho]at hr
   |_=>simp[hu]at hr
  |_=>simp[hu]at hr
theorem AD{ρ:ay}{h:aa}{w:World}(P:Program)(x:bm ρ h w){v v':Value}(hv:aK ρ v v'){s n:Nat}{cs:List Value}(hr:iK h s n v=some cs)(hn:∀l,qD v=some l->n<=l):
 ∃cs',(∀w',w'.heap=w.heap->(Builtin.firstCells s n v').run P w'=.ok cs' w')/\bJ ρ cs cs'.toList:=by
 cases hv with
 |kK l k=>
  simp only[iK,Option.some.injEq]at hr;subst hr;exact⟨#[],λ_ _=>rfl,.nil⟩
 | @sl a c l k k' pl hp hs=>
  simp only[iK]at hr;obtain⟨cs',g1,g2,g3⟩:=uu x hp hr;refine⟨cs'.toArray,λw' hw=> ?_,by simpa using g1⟩;have bu:=hn l rfl;rcases hs with⟨hc,_⟩|⟨h1,_,_⟩
  . have:=run_loadCells_list (P:=P) w' _ cs' (λj v hj=>by have:=g3 j v hj;simpa only[World.cell?,hw]using this);rw[g2,<-hc]at this;simpa only[Builtin.firstCells]using this
  . have h0 : n * s = 0 := by have : n = 0 := by omega
                              rw[this,Nat.zero_mul]
    have bZ:cs'=[]:=List.eq_nil_of_length_eq_zero (g2.trans h0);subst bZ;simp only[Builtin.firstCells,h0];rfl
 |string b=>
  simp only[iK,Option.some.injEq]at hr;subst hr;refine⟨(b.extract 0 n).data.map λb=>.int .u8 b.toNat,λ_ _=>rfl, ?_⟩;rw[Array.toList_map];refine aP.sv rfl λi y z ha hb=> ?_;rw[ha]at hb;cases hb;rw[List.getElem?_map]at ha;cases hx:((b.extract 0 n).data.toList)[i]? with
  |none=>rw[hx]at ha;cases ha
  |some u=>rw[hx]at ha;cases ha;exact .int _ _
 |_=>simp[iK]at hr
theorem EF(P:Program){ρ:ay}{v v':Value}(hv:aK ρ v v'){n:Nat}(h:qD v=some n)(w:World):(Builtin.lenOf v').run P w=.ok n w:=by
 cases hv<;>simp only[qD,Option.some.injEq]at h<;>first|(subst h;rfl)|cases h
theorem Mp{ρ:ay}{zs:Array Value}(hz:bJ ρ zs.toList zs.toList){n sz:Nat}(hs:zs.toList.length=sz)(h0:0<sz):bJ ρ (fu zs.toList (n*sz)) (Builtin.zeroCells zs n).toList:=by
 have:=Az hz (n*sz) (by omega);have e1:zs.size=sz:=by simpa using hs
 simpa[Builtin.zeroCells,e1]using this
theorem EG:∀(r av c:Nat),Builtin.growBy av r c<=c*2^r+400*2^r
 |0,_,c=>by simp[Builtin.growBy]
 |r+1,av,c=>by
  unfold Builtin.growBy
  split
  . have:0<2^r:=Nat.two_pow_pos r;rw[Nat.pow_succ];have:c<=c*(2^r*2):=Nat.le_mul_of_pos_right _ (by omega);omega
  . refine Nat.le_trans (EG r av _) ?_;have h1:c+(c+768)/4<=2*c+192:=by omega
    have h2:=Nat.mul_le_mul_right (2^r) h1;rw[Nat.pow_succ];have e1:c*(2^r*2)=2*(c*2^r):=by rw[Nat.mul_comm (2^r) 2,Nat.mul_left_comm]
    have e2:(2*c+192)*2^r=2*(c*2^r)+192*2^r:=by rw[Nat.add_mul,Nat.mul_assoc]
    omega
theorem Mq{need cap:Nat}(h:cap<need):Builtin.nextslicecap need cap<=need*16+6400:=by
 unfold Builtin.nextslicecap
 split
 . omega
 . split
   . omega
   . have:=EG 4 need cap;omega
theorem Mr(he:e.Ok){ρ:ay}{h:aa}{w:World}(x:bm ρ h w){xv aZ:Value}(hv:aK ρ xv aZ){z:Value}{elem:TypeId}{sz b n:Nat}{new:List Value}{made:Bool}
 (hz:e.zero elem=some z) (hs:e.size elem=some sz) (hb:e.bytes elem=some b) (bw:z.cells.toList.length=sz) (h0:0<sz)
 (hn:ue made b xv=some n) (aF:uf h made z.cells.toList n sz xv=some new):
 (made=true->∃l,aZ=.int .i64 l/\IntKind.i64.wrap l=l/\¬l<0/\¬l*(b:Int)>2^48/\l.toNat=n)/\(made=false->∀w',(Builtin.lenOf aZ).run e.P w'=.ok n w')/\
 ∃ae:Array Value,bJ ρ new ae.toList/\∀w',w'.heap=w.heap->(if !made then Builtin.firstCells sz n aZ else if n*sz=0 then pure #[]else do pure (Builtin.zeroCells (<-zeroValue elem).cells n):Sem (Array Value)).run e.P w'=.ok ae w':=by
 unfold ue at hn;unfold uf at aF;cases made with
 |true=>
  simp only[cond_true]at hn aF;cases hi:pz xv with
  |none=>simp[hi]at hn
  |some l=>
   simp only[hi]at hn;obtain⟨hc,hn⟩:=ca hn;cases hn;simp only[Bool.and_eq_true,decide_eq_true_eq]at hc;obtain⟨⟨c1,c2⟩,c3⟩:=hc;have c3:=Nat.le_of_ble_eq_true c3;have hx:=AA hi;subst hx;have hx:=hv.nf;subst hx;cases aF;refine⟨λ_=> ?_,(λh=>by cases h), ?_⟩
   . have hw:IntKind.i64.wrap l=l:=wrap_small c1 c2;have g1:¬l<0:=by omega
     have hl:(l.toNat:Int)=l:=Int.toNat_of_nonneg c1;have g2:¬l*(b:Int)>2^48:=by
      have:=Int.ofNat_le.2 c3;rw[Int.natCast_mul,hl,Int.mul_comm]at this;omega
     exact⟨l,rfl,hw,g1,g2,rfl⟩
   . by_cases bB:l.toNat*sz=0
     . refine⟨#[], ?_,λw' _=> ?_⟩
       . rw[bB];exact .nil
       . simp only[Bool.not_true,Bool.false_eq_true,if_false,bB,if_true];rfl
     . refine⟨Builtin.zeroCells z.cells l.toNat,Mp (he.uv hz ρ) bw h0,λw' _=> ?_⟩;simp only[Bool.not_true,Bool.false_eq_true,if_false,bB,Sem.run_bind,he.pF hz,Result.andThen_ok,Sem.run_pure]
 |false=>
  simp only[cond_false]at hn aF;refine⟨(λh=>by cases h),λ_ w'=>EF e.P hv hn w', ?_⟩
  . obtain⟨cs',g1,g2⟩:=AD e.P x hv aF (λl hl=>by rw[hn]at hl;cases hl;exact Nat.le_refl _);refine⟨cs',g2,λw' hw=> ?_⟩;simp only[Bool.not_false,if_true];exact g1 w' hw
theorem aK.yc{ρ:ay}{a:Addr}{l k:Nat}{v:Value}(h:aK ρ (.slice (some a) l k) v):∃c k' pl,v=.slice (some c) l k'/\ρ a.block=some pl/\Ar pl a l k c k':=by
 cases h with|sl h1 h2=>exact⟨_,_,_,rfl,h1,h2⟩
theorem aK.AE{ρ:ay}{l k:Nat}{v:Value}(h:aK ρ (.slice none l k) v):v=.slice none l k:=by
 cases h;rfl
theorem Ms(he:e.Ok){ρ fW:ay}{h:aa}{w:World}(x:bm ρ h w){elem:TypeId}{z:Value}{sz:Nat}{need:Nat}{ba new:List Value}{af ae:Array Value}(b0:Ext fW ρ)
 (bw:z.cells.toList.length=sz) (h0:0<sz) (ho:bJ ρ ba af.toList) (hn:bJ ρ new ae.toList) (hl:ba.length+new.length=need*sz) (ad:Nat) (hc:need<=ad):
 ∃ai,aK ai (.slice (some ⟨h.next,0,none⟩) need need) (.slice (some ⟨w.heap.size,0,none⟩) need ad)/\
  bm ai (h.new (.row (ba++new) true sz)) (World.add w (.cells (af++ae++Builtin.zeroCells z.cells (ad-need)) elem))/\
  Fr h.next ρ h w ai (h.new (.row (ba++new) true sz)) (World.add w (.cells (af++ae++Builtin.zeroCells z.cells (ad-need)) elem)):=by
 have hv:bJ ρ (ba++new) (af++ae).toList:=by rw[Array.toList_append];exact ho.append hn
 obtain⟨ai,pl,g1,g2,g3,g4,g5,g6,g7,g8⟩:=Mk (rest:=Builtin.zeroCells z.cells (ad-need)) x (x.slot _) hv elem h0;refine⟨ai,.sl (a:=⟨h.next,0,none⟩) g1 (.inl ⟨by simp[g2,g3],.inr ⟨by omega, ?_, ?_,hc⟩⟩),g7,g8⟩
 . rw[g4,g6,List.length_append,hl];simp
 . rw[g5,g6,List.length_append,hl];have e1:z.cells.size=sz:=by simpa using bw
   have e2:(Builtin.zeroCells z.cells (ad-need)).size=(ad-need)*sz:=by simp[Builtin.zeroCells,e1]
   rw[e2,<-Nat.add_mul];simp only[Nat.zero_add];congr 1;omega
theorem Mt(P:Program)(w:World)(aW off:Nat)(c:Array Value)(el:TypeId)(vs:List Value)(hg:w.heap[aW]? =some (.cells c el (0,0)))(hl:off+vs.length<=c.size)(h1:∀v∈vs,v.oneCell'=true):
 (storeCells ⟨aW,off,none⟩ vs).run P w=.ok () (World.gD w aW (.cells (c.toList.take off++vs++c.toList.drop (off+vs.length)).toArray el (0,0))):=by
 have:=run_storeCells_at (P:=P) aW off el vs 0 c w hg (by omega) h1;rw[Ey w aW c el (0,0) _ hg]at this;simpa using this
theorem Mu(he:e.Ok){ρ:ay}{h h':aa}{w:World}(x:bm ρ h w){base:Option Addr}{len cap sz b n:Nat}{new:List Value}{ae:Array Value}{s' r:Value}{elem:TypeId}{z:Value}
 (hs:aK ρ (.slice base len cap) s') (bg:bJ ρ new ae.toList) (hr:qE h base len cap sz b n new=some (r,h')) (h0:0<sz) (bw:z.cells.toList.length=sz) (bu:new.length=n*sz)
 (hz:e.zero elem=some z) (b1:e.bytes elem=some b) (cx:e.size elem=some sz) (zb:Bool) (aZ:Value) (appended:Sem (Array Value)) (bx:∀w',w'.heap=w.heap->appended.run e.P w'=.ok ae w'):
 gY h.next e.P ρ h w (match s' with
  |.slice base aQ aR=>do
   let need:=aQ+n
   if need<=aR then
    let new<-appended
    if let some a:=base then storeCells (a.add (aQ*sz)) new.toList
    pure (.slice base need aR)
   else
    if(need:Int)>IntKind.i64.max/\(zb\/(<-typeInfo elem).bytes=0)then runtimePanic (.error "growslice: len out of range")
    if Builtin.nextslicecap need aR*(<-typeInfo elem).bytes>2^48 then(if zb then runtimePanic (.error "growslice: len out of range")else do
     if !(<-Builtin.mayShare sz aQ n base aZ)then mark .noRoom
     unsupported (.resourceLimit "append: a slice or a string whose bytes no memory bears"))
    let ad<-choose (.appendCap need aR elem)
    askRoom (ad*(<-typeInfo elem).bytes)
    let ba<-Builtin.firstCells sz aQ s'
    let new<-appended
    let rest:=Builtin.zeroCells (<-zeroValue elem).cells (ad-need)
    pure (.slice (some (<-newRow elem (ba++new++rest))) need ad)
  |_=>stuck "") r h':=by
 have grow:∀(aI:Option Addr) (ab:Nat) (h1:aa) (x1:bm ρ h1 w) (ba:List Value),s'=.slice aI len ab->¬len+n<=ab->(len+n)*(b+1)<=1073741824->ba.length=len*sz->
  (∃af:Array Value,bJ ρ ba af.toList/\∀w',w'.heap=w.heap->(Builtin.firstCells sz len s').run e.P w'=.ok af w')->
  ∃v' w' ai,(do
   if((len+n:Nat):Int)>IntKind.i64.max/\(zb\/(<-typeInfo elem).bytes=0)then runtimePanic (.error "growslice: len out of range")
   if Builtin.nextslicecap (len+n) ab*(<-typeInfo elem).bytes>2^48 then(if zb then runtimePanic (.error "growslice: len out of range")else do
    if !(<-Builtin.mayShare sz len n aI aZ)then mark .noRoom
    unsupported (.resourceLimit "append: a slice or a string whose bytes no memory bears"))
   let ad<-choose (.appendCap (len+n) ab elem)
   askRoom (ad*(<-typeInfo elem).bytes)
   let ba<-Builtin.firstCells sz len s'
   let new<-appended
   let rest:=Builtin.zeroCells (<-zeroValue elem).cells (ad-(len+n))
   pure (.slice (some (<-newRow elem (ba++new++rest))) (len+n) ad):Sem Value).run e.P w=.ok v' w'/\
   aK ai (.slice (some ⟨h1.next,0,none⟩) (len+n) (len+n)) v'/\bm ai (h1.new (.row (ba++new) true sz)) w'/\Fr h1.next ρ h1 w ai (h1.new (.row (ba++new) true sz)) w':=by
  intro aI ab h1 x1 ba cy hn az bz ⟨af,b2,b3⟩;obtain⟨i,b5,dS⟩:=he.bytes elem b b1;have bP:len+n<=1073741824:=Nat.le_trans (Nat.le_mul_of_pos_right _ (Nat.succ_pos b)) az;have c1:¬(((len+n:Nat):Int)>IntKind.i64.max/\(zb=true\/b=0)):=by
   intro hc;have:(9223372036854775807:Int)<((len+n:Nat):Int):=hc.1;omega
  have b6:=Mq (need:=len+n) (cap:=ab) (by omega);have c2:¬Builtin.nextslicecap (len+n) ab*b>2^48:=by
   have g1:=Nat.mul_le_mul_right b b6;have g2:((len+n)*16+6400)*b<=16*((len+n)*(b+1))+6400*b:=by
    rw[Nat.add_mul,Nat.mul_add,Nat.mul_comm (len+n) 16,Nat.mul_assoc];omega
   have g3:b<=(len+n)*(b+1):=by
    have:1*(b+1)<=(len+n)*(b+1):=Nat.mul_le_mul_right _ (by omega);omega
   omega
  have au:∀t,len+n<=(Question.appendCap (len+n) ab elem).cut t:=λt=>Nat.le_add_right _ _
  let w1:World:={w with drawn:=w.drawn+1}
  have x2:bm ρ h1 w1:=x1.draw rfl;obtain⟨ai,k1,k2,k3⟩:=Ms (fW:=ρ) he x2 (Ext.refl _) bw h0 b2 bg (need:=len+n) (by rw[bz,bu,<-Nat.add_mul]) ((Question.appendCap (len+n) ab elem).cut (w.tape w.drawn (.appendCap (len+n) ab elem))) (au _) (elem:=elem);refine⟨_,_,ai, ?_,k1,k2,(Eu (w:=w) (w':=w1) rfl rfl rfl _).trans k3⟩;have hq:(Question.appendCap (len+n) ab elem).forced=false:=rfl;simp only[Sem.run_bind,run_typeInfo b5,Result.andThen_ok,dS,c1,if_false,c2,run_choose,hq,Bool.false_eq_true,run_askRoom,b3 ⟨w.heap,w.tape,w.drawn+1,w.os,w.output⟩ rfl,bx ⟨w.heap,w.tape,w.drawn+1,w.os,w.output⟩ rfl,he.pF hz,wh,Sem.run_pure,Sem.run_ite];rfl
 unfold qE at hr;cases hle:Nat.ble (len+n) cap with
 |true=>
  have aS:len+n<=cap:=Nat.le_of_ble_eq_true hle;simp only[hle,cond_true]at hr;cases base with
  |none=>
   simp only at hr;obtain⟨bQ,hr⟩:=ca hr;cases hr;have:=hs.AE;subst this;refine gY.same x (v':=.slice none (len+n) cap) ?_ (.kK _ _);simp only[aS,if_true,Sem.run_bind,bx w rfl,Result.andThen_ok,Sem.run_pure]
  |some a=>
   simp only at hr;obtain⟨c,ab,pl,rfl,hp,aU⟩:=hs.yc;cases hw:mv h (a.add (len*sz)) new with
   |none=>simp[hw]at hr
   |some h1=>
    simp only[hw,Option.some.injEq,Prod.mk.injEq]at hr;obtain⟨rfl,rfl⟩:=hr;have bo:len+n<=ab:=by rcases aU with⟨_,h1|h1⟩|h1<;>omega
    rcases aU with⟨hc,b7⟩|⟨k1,k2,k3⟩
    . obtain⟨w',g1,g2,g3⟩:=Ax e.P (b:=h.next) x (a:=a.add (len*sz)) (pl:=pl) (by rw[Addr.ur];exact hp) bg hw;refine⟨.slice (some c) (len+n) ab,w',ρ, ?_,.sl (g3.ext _ _ hp) (.inl ⟨hc,b7⟩),g2,g3⟩;have bD:c.add (len*sz)=⟨pl.aW,pl.off+(a.add (len*sz)).off,none⟩:=by rw[hc,pG,Addr.sB,Nat.add_assoc]
      simp only[bo,if_true,Sem.run_bind,bx w rfl,Result.andThen_ok,bD,g1,Sem.run_pure]
    . have bQ:n=0:=by omega
      have bR:len=0:=by omega
      have b8:new=[]:=List.eq_nil_of_length_eq_zero (by rw[bu,bQ,Nat.zero_mul]);subst b8;have bF:ae.toList=[]:=List.eq_nil_of_length_eq_zero (by rw[<-bg.length];rfl);simp only[mv,Option.some.injEq]at hw;subst hw;refine gY.same x (v':=.slice (some c) (len+n) ab) ?_ (.sl hp (.inr ⟨by omega,k2,k3⟩));simp only[bo,if_true,Sem.run_bind,bx w rfl,Result.andThen_ok,bF,storeCells,Sem.run_pure]
 |false=>
  have aS:¬len+n<=cap:=λh=>by rw[Nat.ble_eq_true_of_le h]at hle;cases hle
  simp only[hle,cond_false]at hr;obtain⟨az,hr⟩:=ca hr;have az:=Nat.le_of_ble_eq_true az;cases base with
  |none=>
   simp only at hr;obtain⟨hb,hr⟩:=ca hr;cases hr;rw[Bool.and_eq_true]at hb;have bR:len=0:=Nat.eq_of_beq_eq_true hb.1;have cz:cap=0:=Nat.eq_of_beq_eq_true hb.2;have:=hs.AE;subst this;obtain⟨v',w',ai,k1,k2,k3,k4⟩:=grow none cap h x [] rfl aS az (by rw[bR,Nat.zero_mul];rfl) ⟨#[],.nil,λ_ _=>rfl⟩;refine⟨v',w',ai, ?_,k2,k3,k4⟩;simp only[aS,if_false];exact k1
  |some a=>
   simp only at hr;obtain⟨c,ab,pl,rfl,hp,aU⟩:=hs.yc;cases ho:gm h a (len*sz)with
   |none=>simp[ho]at hr
   |some ba=>
    cases hg:h.get a.block with
    |none=>simp[ho,hg]at hr
    |some o=>
     cases o with
     |row rs wr ah=>
      simp only[ho,hg]at hr;have b9:iK h sz len (.slice (some a) len cap)=some ba:=ho;obtain⟨af,f1,f2⟩:=AD e.P x hs b9 (λl hl=>by cases hl;exact Nat.le_refl _);have bz:ba.length=len*sz:=by
       obtain⟨cs',q1,q2,_⟩:=uu x hp ho;rw[q1.length];exact q2
      obtain⟨pl',g1,cc,el,fz,g2,g3,g4,g5,g6,g7,g8,g9⟩:=x.obj _ _ hg;rw[hp]at g1;cases g1;cases aB:Nat.beq ah 0||(Nat.beq ah sz&&Nat.blt (a.off+cap*sz) rs.length)with
      |true=>
       simp only[aB,cond_true,Option.some.injEq,Prod.mk.injEq]at hr;obtain⟨rfl,rfl⟩:=hr;have aX:¬len+n<=ab:=by
        simp only[Bool.or_eq_true,Bool.and_eq_true]at aB;rcases aU with⟨_,h1|⟨h1,h2,h3,h4⟩⟩|⟨h1,h2,h3⟩
        . omega
        . rcases aB with hb|⟨hb,bt⟩
          . have:=Nat.eq_of_beq_eq_true hb;omega
          . have:=Nat.eq_of_beq_eq_true hb;have bt:a.off+cap*sz<rs.length:=Nat.le_of_ble_eq_true bt;rw[g5,this,g4]at h2;omega
        . omega
       obtain⟨v',w',ai,k1,k2,k3,k4⟩:=grow (some c) ab h x ba rfl aX az bz ⟨af,f2,f1⟩;refine⟨v',w',ai, ?_,k2,k3,k4⟩;simp only[aX,if_false];exact k1
      |false=>
       simp only[aB,cond_false]at hr;obtain⟨hb,hr⟩:=ca hr;simp only[Option.some.injEq,Prod.mk.injEq]at hr;obtain⟨rfl,rfl⟩:=hr;simp only[Bool.and_eq_true]at hb;obtain⟨⟨cb,bf⟩,bG⟩:=hb;have bf:=Nat.eq_of_beq_eq_true bf;subst cb;have cd:=g3 rfl;subst cd;by_cases aJ:len+n<=ab
       ·
        have hd:c=⟨pl.aW,pl.off+a.off,none⟩/\0<pl.ah/\a.off+cap*pl.ah=pl.n/\a.off+ab*pl.ah=pl.cap:=by
         rcases aU with⟨hc,h1|⟨h1,h2,h3,h4⟩⟩|⟨h1,h2,h3⟩
         . omega
         . exact⟨hc,h1,h2,h3⟩
         . omega
        obtain⟨hc,cg,ch,cj⟩:=hd;have ck:pl.ah=sz:=g5.trans bf;rw[ck]at cg ch cj;have hq:(len+n)*sz<=ab*sz:=Nat.mul_le_mul_right _ aJ;have bT:(len+n)*sz=len*sz+n*sz:=Nat.add_mul _ _ _;have aT:ae.toList.length=n*sz:=by rw[<-bg.length];exact bu
        have cl:=Mt e.P w pl.aW (pl.off+a.off+len*sz) cc el ae.toList g2 (by rw[aT];omega) (bg.dL bG)
        let pl':Pl:={aW:=pl.aW,off:=pl.off+a.off,n:=(len+n)*sz,cap:=pl.cap-a.off,ah:=sz}
        have hr:iM (ρ.put h.next pl') (World.gD w pl.aW (.cells (cc.toList.take (pl.off+a.off+len*sz)++ae.toList++cc.toList.drop (pl.off+a.off+len*sz+ae.toList.length)).toArray el (0,0))) pl' (.row (ba++new) true sz):=by
         have cm:pl.aW<w.heap.size:=(Array.getElem?_eq_some_iff.1 g2).1;refine⟨_,el,(0,0),pE w _ _ cm,λ_=>rfl, ?_,rfl, ?_, ?_,λh=>absurd h (by omega), ?_,λ_=>trivial⟩
         . show(len+n)*sz=(ba++new).length;rw[List.length_append,bz,bu,bT]
         . show(len+n)*sz<=pl.cap-a.off;omega
         . show pl.off+a.off+(pl.cap-a.off)<=_;simp only[List.size_toArray,List.length_append,List.length_take,List.length_drop,Array.length_toList];simp only[Array.length_toList]at aT;omega
         . show bJ _ (ba++new) ((_:List Value).take ((len+n)*sz));simp only;have cn:pl.off+a.off+(len+n)*sz<=cc.toList.length:=by rw[Array.length_toList];omega
           rw[EA cc.toList (pl.off+a.off) ((len+n)*sz) (len*sz) ae.toList (by rw[aT];omega) cn];obtain⟨cs',q1,q2,q3⟩:=uu x hp ho;have bH:cs'=(cc.toList.drop (pl.off+a.off)).take (len*sz):=by
            apply List.ext_getElem?;intro i;rcases Nat.lt_or_ge i (len*sz)with hi|hi
            . have bI:=q3 i cs'[i] (List.getElem?_eq_getElem (by omega));rw[pG]at bI;simp only[World.cell?,g2,Option.isSome_none,Bool.false_eq_true,if_false]at bI;rw[List.getElem?_take,if_pos hi,List.getElem?_drop,List.getElem?_eq_getElem (by omega:i<cs'.length),<-bI,Array.getElem?_toList]
            . rw[List.getElem?_eq_none (by omega),List.getElem?_take,if_neg (by omega)]
           have bK:eo ((cc.toList.drop (pl.off+a.off)).take ((len+n)*sz)) (len*sz) ae.toList=cs'++ae.toList:=by
            unfold eo;rw[List.take_take,Nat.min_eq_left (by omega),<-bH,aT,<-bT,List.drop_take,Nat.sub_self,List.take_zero,List.append_nil]
           rw[bK];exact(q1.append bg).mono λ_ _=>aK.mono (ay.sy pl' x.fresh)
        obtain⟨m1,m2⟩:=Mb (pl':=pl') x hg rfl hp rfl rfl hr rfl;refine⟨.slice (some c) (len+n) ab,_,_, ?_,.sl (a:=⟨h.next,0,none⟩) (pl:=pl') (ay.lx _ _ _) (.inl ⟨hc,.inr ⟨h0, ?_, ?_,aJ⟩⟩),m1,m2⟩
        . have bD:c.add (len*sz)=⟨pl.aW,pl.off+a.off+len*sz,none⟩:=by rw[hc,pG]
          simp only[aJ,if_true,Sem.run_bind,bx w rfl,Result.andThen_ok,bD,cl,Sem.run_pure]
        . show 0+(len+n)*sz=(len+n)*sz;omega
        . show 0+ab*sz=pl.cap-a.off;omega
       . obtain⟨x1,cp⟩:=x.kill a.block h.next;obtain⟨v',w',ai,k1,k2,k3,k4⟩:=grow (some c) ab (h.set a.block none) x1 ba rfl aJ az bz ⟨af,f2,f1⟩;refine⟨v',w',ai, ?_,k2,k3,cp.trans k4⟩;simp only[aJ,if_false];exact k1
     |_=>simp[ho,hg]at hr
end Go.aw
end
noncomputable section
namespace Go.aw
variable {e:Env}
theorem Mv(he:e.Ok){ρ:ay}{h h':aa}{w:World}(x:bm ρ h w){ao:Array TypeId}{s s' xv ai r:Value}(hs:aK ρ s s')(hx:aK ρ xv ai)
 (hr:og e h ao s xv=some (r,h')) (ty:TypeId):gY h.next e.P ρ h w (Builtin.append_ ao ty #[s',ai]) r h':=by
 unfold og at hr;cases ae:ao[0]? with
 |none=>simp[ae]at hr
 |some st=>
 cases aB:ao[1]? with
 |none=>simp[ae,aB]at hr
 |some xt=>
 have aD:∃base len cap,s=.slice base len cap:=by
  cases s<;>simp[ae,aB]at hr;exact⟨_,_,_,rfl⟩
 obtain⟨base,len,cap,rfl⟩:=aD;simp only[ae,aB]at hr;cases hu:e.under st with
 |none=>simp[hu]at hr
 |some d=>
 cases d with
 |slice elem=>
  cases aF:e.under xt with
  |none=>simp[hu,aF]at hr
  |some xd=>
  simp only[hu,aF]at hr;cases ad:e.size elem with
  |none=>simp[ad]at hr
  |some sz=>
  cases hz:e.zero elem with
  |none=>simp[ad,hz]at hr
  |some z=>
  cases aE:e.bytes elem with
  |none=>simp[ad,hz,aE]at hr
  |some aL=>
  simp only[ad,hz,aE]at hr;cases hn:ue (pA xd) aL xv with
  |none=>simp[hn]at hr
  |some n=>
  simp only[hn]at hr;cases au:uf h (pA xd) z.cells.toList n sz xv with
  |none=>simp[au]at hr
  |some new=>
  simp only[au]at hr;obtain⟨hb,hr⟩:=ca hr;simp only[Bool.and_eq_true]at hb;obtain⟨⟨aQ,aR⟩,aS⟩:=hb;have h0:0<sz:=Nat.le_of_ble_eq_true aQ;have aM:z.cells.toList.length=sz:=Nat.eq_of_beq_eq_true aR;have aT:new.length=n*sz:=Nat.eq_of_beq_eq_true aS;obtain⟨aU,aV,aX,aY,aI⟩:=Mr he x hx hz ad aE aM h0 hn au;have key:=Mu he x hs aY hr h0 aM aT hz aE ad (pA xd) ai _ aI;obtain⟨v',w',aZ,k1,k2⟩:=key;refine⟨v',w',aZ, ?_,k2⟩;have av:(#[s',ai]:Array Value)[0]? =some s':=rfl;have az:(#[s',ai]:Array Value)[1]? =some ai:=rfl;obtain⟨ab,af,rfl⟩:∃ab af,s'=.slice ab len af:=by
   cases hs with
   |kK l k=>exact⟨_,_,rfl⟩
   |sl _ _=>exact⟨_,_,rfl⟩
  obtain⟨i,pq,bb⟩:=he.bytes elem aL aE;cases xd with
  |int k=>
   obtain⟨l,rfl,q1,q2,q3,q4⟩:=aU rfl;have az:(#[Value.slice ab len af,.int .i64 l]:Array Value)[1]? =some (.int .i64 l):=rfl;have av:(#[Value.slice ab len af,.int .i64 l]:Array Value)[0]? =some (.slice ab len af):=rfl;simp only[Builtin.append_,ae,aB,av,az,Sem.run_bind,he.dA hu,he.dA aF,Result.andThen_ok,he.iN ad,Sem.run_pure,if_true,Bool.not_true,Bool.false_eq_true,if_false,asInt,asIntOf,q1,q2,run_typeInfo pq,bb,q3,q4];simp only[pA,Bool.not_true,Bool.false_eq_true,if_true,if_false]at k1⊢;exact k1
  |_=>
   simp only[Builtin.append_,ae,aB,av,az,Sem.run_bind,he.dA hu,he.dA aF,Result.andThen_ok,he.iN ad,Sem.run_pure,Bool.not_false,if_true,Bool.false_eq_true,if_false,aV rfl w];simp only[pA,Bool.not_false,Bool.false_eq_true,if_true,if_false]at k1⊢;exact k1
 |_=>simp[hu]at hr
theorem Mw(he:e.Ok){ρ:ay}{h h':aa}{w:World}(x:bm ρ h w){ao:Array TypeId}{d d' xv ai r:Value}(hd:aK ρ d d')(hx:aK ρ xv ai)
 (hr:xZ e h ao d xv=some (r,h')) (ty:TypeId):gY h.next e.P ρ h w (Builtin.copy_ ao ty #[d',ai]) r h':=by
 unfold xZ at hr;cases ae:ao[0]? with
 |none=>simp[ae]at hr
 |some dt=>
 have aD:∃base len cap,d=.slice base len cap:=by
  cases d<;>simp[ae]at hr;exact⟨_,_,_,rfl⟩
 obtain⟨base,len,cap,rfl⟩:=aD;simp only[ae]at hr;cases hu:e.under dt with
 |none=>simp[hu]at hr
 |some td=>
 cases td with
 |slice elem=>
  cases hl:qD xv with
  |none=>simp[hu,hl]at hr
  |some xl=>
  simp only[hu,hl]at hr;cases ad:e.size elem with
  |none=>simp[ad]at hr
  |some sz=>
  simp only[ad]at hr;cases hf:iK h sz (Nat.min xl len) xv with
  |none=>simp[hf]at hr
  |some cs=>
  simp only[hf]at hr;obtain⟨hb,hr⟩:=ca hr;have aN:=Nat.eq_of_beq_eq_true hb;obtain⟨cs',g1,g2⟩:=AD e.P x hx hf (λl aO=>by rw[hl]at aO;cases aO;exact Nat.min_le_left _ _);have av:(#[d',ai]:Array Value)[0]? =some d':=rfl;have az:(#[d',ai]:Array Value)[1]? =some ai:=rfl;have aJ:=EF e.P hx hl w;cases base with
  |none=>
   simp only[Option.some.injEq,Prod.mk.injEq]at hr;obtain⟨rfl,rfl⟩:=hr;have:=hd.AE;subst this;refine gY.same x (v':=.int .i64 (Nat.min xl len:Nat)) ?_ (.int _ _);simp only[Builtin.copy_,ae,av,az,Sem.run_bind,he.dA hu,Result.andThen_ok,aJ,he.iN ad,g1 w rfl,Sem.run_pure,goInt]
  |some a=>
   simp only at hr;cases hw:mv h a cs with
   |none=>simp[hw]at hr
   |some h1=>
    simp only[hw,Option.some.injEq,Prod.mk.injEq]at hr;obtain⟨rfl,rfl⟩:=hr;obtain⟨c,af,pl,rfl,hp,aD⟩:=hd.yc;rcases aD with⟨hc,_⟩|⟨k1,_,_⟩
    . obtain⟨w',q1,q2,q3⟩:=Ax e.P (b:=h.next) x hp g2 hw;refine⟨.int .i64 (Nat.min xl len:Nat),w',ρ, ?_,.int _ _,q2,q3⟩;rw[<-hc]at q1;simp only[Builtin.copy_,ae,av,az,Sem.run_bind,he.dA hu,Result.andThen_ok,aJ,he.iN ad,g1 w rfl,q1,Sem.run_pure,goInt]
    . have h0:Nat.min xl len=0:=by rw[k1];exact Nat.min_zero _
      rw[h0,Nat.zero_mul]at aN;have hn:cs=[]:=List.eq_nil_of_length_eq_zero aN;subst hn;simp only[mv,Option.some.injEq]at hw;subst hw;have bc:cs'.toList=[]:=List.eq_nil_of_length_eq_zero (by rw[<-g2.length];rfl);refine gY.same x (v':=.int .i64 (Nat.min xl len:Nat)) ?_ (.int _ _);simp only[Builtin.copy_,ae,av,az,Sem.run_bind,he.dA hu,Result.andThen_ok,aJ,he.iN ad,g1 w rfl,bc,storeCells,Sem.run_pure,goInt]
 |_=>simp[hu]at hr
end Go.aw
end

/- SpacingSuffixes: parts of its proof (DvH DvI DvK). -/
import Derived.Laws.Strings
import Derived.Test.YtaheljlbchkpcaaGreatDoorK20
set_option linter.unusedVariables false
set_option linter.unusedSimpArgs false
noncomputable section
namespace Go.aw
variable {e:Env}
section
variable {ops:List Oper} {av:List PJ} {G0:Nat->Prop} {h0:aa} {d0:ab} {na:Nat}
theorem Cp{o:Oper}{p:PJ}(h:ta ops av o p=true)(hold:p.ba=true):p.c=.alloc\/((p.c=.pure\/p.c=.read)/\(slotsOf o.op).all (writes ops av)=true):=by
 simp only[ta,hold,Bool.not_true,Bool.false_or,Bool.and_eq_true]at h;cases hc:p.c with
 |alloc=>exact .inl rfl
 |pure=>rw[hc]at h;exact .inr ⟨.inl rfl,h.1⟩
 |read=>rw[hc]at h;exact .inr ⟨.inr rfl,h.1⟩
 |effect=>rw[hc]at h;simp at h
 |bad=>rw[hc]at h;simp at h
theorem wW{o:Oper}{p:PJ}(h:ta ops av o p=true)(aY:p.dy≠none):p.ba=true/\(∃d,o.dst=some d)/\p.c=.read:=by
 simp only[ta,Bool.and_eq_true]at h;cases hd:p.dy with
 |none=>exact absurd hd aY
 |some x=>
  simp only[hd,Bool.and_eq_true]at h;exact⟨h.2.1.1,Option.isSome_iff_exists.1 h.2.1.2,by simpa using h.2.2⟩
theorem XF{dy:Option (Nat×Nat)}{b:Option Nat}{L:List (Nat×Nat)}:∀x∈L,x∈kW dy b L:=λx hx=>by
 unfold kW
 split
 . exact List.mem_cons_of_mem _ hx
 . exact hx
theorem dq.s(ai:Cn ops)(bt:∀(k:Nat) o p,ops[k]? =some o->av[k]? =some p->cls o.op=p.c/\ta ops av o p=true)(x0:bM G0 h0 d0){K:DS->Prop}{n:Nat}:∀(l:List Oper) (pl:List PJ) (i id c':Nat) (t:Tr Value) (dt:Tr DV) (ds:List Deferred) (dd:List FuncId) (G:Nat->Prop) (h:aa) (dh:ab) (an all:dz) (dp:fB) (st:List (Nat×aa)) (sn:List (Tr Value)) (T:List Nat) (L:List (Nat×Nat)),
 i<=ops.length->l=ops.drop i->pl=av.drop i->id+(l.filter λo=>cls o.op==.alloc).length=h0.next+na->aP sX ds dd->DI e ops av G0 h0 d0 na i id c' t dt G h dh an all dp st sn T L->dq e ops h0.next l pl i id c' dt n dd dh dp T L K->
 cq e none ops l (pl.map PJ.pi) i id t n ds h an all st sn (λx=>(∃L:List (Nat×Nat),(∀(k:Nat) tk,x.dg.reverse[k]? =some tk->rz e ops av G0 h0 L x.s.t k tk)/\x.dg.length=ops.length/\(∀q∈x.all,h0.next<=q.2.1)/\(∀q∈x.bE,∀b,G0 b->q.2.get b=h0.get b)/\(∀y∈L,y.1<h0.next)/\(∀y∈L,∀(j:Nat) q,x.bE.reverse[j]? =some q->j<=y.2->q.2.get y.1=h0.get y.1))/\ny G0 h0 d0 K {x.s with h:=fw x.s.h x.an}):=by
 intro l
 induction l with
 |nil=>
  intro pl i id c' t dt ds dd G h dh an all dp st sn T L bu hl aJ _ aF q hs;have hi:ops.length<=i:=by
   have:=congrArg List.length hl;simp at this;omega
  rw[FN];have hlen:sn.length=ops.length:=by rw[q.sn];omega
  obtain⟨k1,k2,k3,k4⟩:=GQ q.x q.k q.pe λy hy=>⟨(q.pid y hy).1,(q.pid y hy).2.2.1,(q.pid y hy).2.2.2.2⟩;exact⟨⟨L,q.rd,hlen,q.al,λy hy b hb=>q.st y hy b (x0.still b hb).1 (.inr hb),q.LT,q.ls⟩,⟨dt,n,dd,mH dh dp⟩,G,⟨rfl,q.ht.mono k3,aF,k1⟩,k2,by simpa[dq]using hs⟩
 |cons o r ih=>
  intro pl i id c' t dt ds dd G h dh an all dp st sn T L bu hl aJ ae aF q hs;cases pl with
  |nil=>simp[dq]at hs
  |cons p pl=>
   have aL:i<ops.length:=by
    rcases Nat.lt_or_ge i ops.length with h1|h1
    . exact h1
    . rw[List.drop_eq_nil_of_le h1]at hl;cases hl
   have ho:ops[i]? =some o:=by
    have:(ops.drop i)[0]? =some o:=by rw[<-hl];rfl
    simpa[List.getElem?_drop]using this
   have hp:av[i]? =some p:=by
    have:(av.drop i)[0]? =some p:=by rw[<-aJ];rfl
    simpa[List.getElem?_drop]using this
   have aN:r=ops.drop (i+1):=by rw[<-List.drop_drop,<-hl];rfl
   have au:pl=av.drop (i+1):=by rw[<-List.drop_drop,<-aJ];rfl
   obtain⟨hc,aO⟩:=bt i o p ho hp;obtain⟨aZ,w,hw,hs⟩:=hs;have bx:∀{ds:List Deferred} {g:aa} {m:Nat},cY ops ⟨t,m,ds,g⟩ o=some w:=BN q.ht hw;rw[List.map_cons];refine XD aZ bx ?_;have bA:∀y∈dp,h0.next<=y.2.1/\y.2.1<h.next/\¬G y.2.1:=λy hy=>⟨(q.pid y hy).1,(q.pid y hy).2.2.1,(q.pid y hy).2.2.2.2⟩;have aR:∀b,G0 b->b<h0.next/\h.get b=h0.get b:=λb hb=>⟨(x0.still b hb).1,(q.k.same b (x0.still b hb).1 (x0.still b hb).2).1⟩;have b5:∀b,b<h0.next->(b∉T\/G0 b)->h.get b=h0.get b:=λb hb ay=>by
    rcases ay with h1|h1
    . exact(q.ag b hb h1).1
    . exact(aR b h1).2
   obtain⟨kx,kk,km,kn⟩:=GP p.m q.x q.k q.pe bA;have bj:∀b,b<h0.next->(cg h p.m an).get b=h.get b:=λb hb=>y8 _ _ _ _ λy hy he=>by
    obtain⟨j,hj⟩:=List.getElem?_of_mem hy;obtain⟨y',bB,bF⟩:=q.pe.get j y hj;have:=(q.pid y' (List.mem_of_getElem? bB)).1;rw[<-bF.id]at this;omega
   have bI:p.dy=none->∀{L':List (Nat×Nat)} {tc:Tr Value},rz e ops av G0 h0 L' tc i t:=λaY L' tc o' p' az aB aC=>by
    rw[hp]at aB;cases aB;exact absurd aY aC
   cases w with
   |true=>
    obtain⟨c,m,dy,ba⟩:=p;simp only at hs hc⊢;cases c with
    |bad=>exact hs.elim
    |pure=>
     obtain⟨v,h1,h2⟩:=hs;obtain⟨u,h3,h4⟩:=yQ q.x q.ht h1;refine⟨u,h3, ?_⟩;have ad:id+(r.filter λo=>cls o.op==.alloc).length=h0.next+na:=by
      rw[List.filter_cons,hc]at ae;simpa using ae
     refine ih pl (i+1) id c' _ _ ds dd G h dh an all dp st (t::sn) T L aL aN au ad aF (q.next ai ho hp h4 (λhold=> ?_) (λ_ hb=>hb) q.LT q.ls ?_) h2
     . rcases Cp aO hold with h5|⟨_,h5⟩
       . cases h5
       . have aC:aT e (fP dh 0 dp) dt o.op=some v:=by rw[<-h1];exact Xu hc
         obtain⟨u',h6,h7,_,_⟩:=q.ba x0 (m:=0) h5 aC (by
          have:dN e dt o.op=none:=by
           cases bb:o.op with
           |load ty a=>rw[bb]at hc;cases hc
           |lookup ty m k ok=>rw[bb]at hc;cases hc
           |slice ty x lo hi mx=>rw[bb]at hc;cases hc
           |convert s d x=>rw[bb]at hc;cases hc
           |call c=>rw[bb]at hc;simp only[cls]at hc;split at hc<;>cases hc
           |_=>rfl
          rw[this];trivial)
         rw[Xt (h2:=h) hc,h3]at h6;cases h6;exact h7
     . intro o' p' az aB aC;rw[ho]at az;rw[hp]at aB;cases az;cases aB;cases(wW aO aC).2.2
    |read=>
     obtain⟨v,h1,bU,h2⟩:=hs;have bo:TD (aI (cg h m an) G) t dt:=q.ht.mono km;obtain⟨u,h3,h4⟩:=yQ kx bo h1;refine⟨u,h3, ?_⟩;have ad:id+(r.filter λo=>cls o.op==.alloc).length=h0.next+na:=by
      rw[List.filter_cons,hc]at ae;simpa using ae
     have hR:Rel (aI h G) u v:=by
      refine h4.mono λb rr hb=> ?_;obtain⟨g1,wr,g2⟩:=qX hb;refine sW (wr:=wr) g1 ?_;rw[<-g2];refine(y8 _ _ _ _ λy hy he=> ?_).symm;obtain⟨j,hj⟩:=List.getElem?_of_mem hy;obtain⟨y',bB,bF⟩:=q.pe.get j y hj;have:=(q.pid y' (List.mem_of_getElem? bB)).2.2.2.2;rw[<-bF.id,he]at this;exact this g1
     have hold:ba=true->∃bK:(slotsOf o.op).all (writes ops av)=true,True:=λho=>by
      rcases Cp aO ho with h5|⟨_,h5⟩
      . cases h5
      . exact⟨h5,trivial⟩
     have again:ba=true->Rel (aI h0 G0) u v/\(∀b,iU e t o.op=some b->(dN e dt o.op=some b/\b<h0.next/\b∉T)\/G0 b)/\∀g,(∀b,iU e t o.op=some b->g.get b=h0.get b)->bD e g t o.op=some u:=λho=>by
      obtain⟨h5,_⟩:=hold ho;obtain⟨u',h6,h7,h8,h9⟩:=q.ba x0 (m:=m) h5 h1 (bU ho);have:bD e (cg h m an) t o.op=some u':=h9 _ λb hb=>by
       rcases h8 b hb with⟨_,a1,a2⟩|a1
       . rw[bj b a1];exact(q.ag b a1 a2).1
       . rw[bj b (aR b a1).1];exact(aR b a1).2
      rw[h3]at this;cases this;exact⟨h7,h8,h9⟩
     have bW:∀x∈kW dy (dN e dt o.op) L,x.1<h0.next/\(x∈L\/x.1∉T):=λx hb=>by
      unfold kW at hb
      split at hb
      . rename_i z b' hz;rcases List.mem_cons.1 hb with rfl|hb
        . have ho:ba=true:=(wW aO (by simp)).1;have:=bU ho;rw[hz]at this;exact⟨this.1,.inr this.2⟩
        . exact⟨q.LT x hb,.inl hb⟩
      . exact⟨q.LT x hb,.inl hb⟩
     have b6:∀x∈kW dy (dN e dt o.op) L,∀j y,st.reverse[j]? =some y->j<=x.2->y.2.get x.1=h0.get x.1:=λx hx j y hy hj=>by
      obtain⟨a1,a2⟩:=bW x hx;rcases a2 with a2|a2
      . exact q.ls x a2 j y hy hj
      . exact q.st y (List.mem_reverse.1 (List.mem_of_getElem? hy)) x.1 a1 (.inl a2)
     refine ih pl (i+1) id c' _ _ ds dd G h dh an all dp st (t::sn) T _ aL aN au ad aF (q.next ai ho hp hR (λho=>(again ho).1) XF (λx hx=>(bW x hx).1) b6 ?_) h2;intro o' p' az aB aC;rw[ho]at az;rw[hp]at aB;cases az;cases aB;obtain⟨hold,⟨d,hd⟩,_⟩:=wW aO aC;obtain⟨h7,h8,h9⟩:=again hold;refine .inr ⟨bx,d,u,hd,by rw[hd];simp[bH,Tr.bw],λb hb=> ?_,h9⟩;rcases h8 b hb with⟨a0,_,_⟩|a1
     . right;unfold kW;rw[a0];cases dy with
       |none=>exact absurd rfl aC
       |some z=>exact⟨z,rfl,by simp⟩
     . exact .inl a1
    |alloc=>
     obtain⟨⟨ob,f⟩,h1,h2⟩:=hs;obtain⟨ao,af,h3,h4,h5⟩:=Ge q.ht h1;refine⟨(ao,af),h3, ?_⟩;have ad:id+1+(r.filter λo=>cls o.op==.alloc).length=h0.next+na:=by
      rw[List.filter_cons,hc]at ae;simp only[beq_self_eq_true,if_true,List.length_cons]at ae;omega
     have bO:id<h0.next+na:=by omega
     have q':=q.next ai ho hp (h5 (aI h G) id) (λ_=>h5 _ _) (λ_ hb=>hb) q.LT q.ls (λo' p' az aB aC=>by
      rw[ho]at az;rw[hp]at aB;cases az;cases aB;cases(wW aO aC).2.2)
     refine ih pl (i+1) (id+1) c' _ _ ds dd G h dh _ _ ((i,id,ob)::dp) st (t::sn) T L aL aN au ad aF {q' with lo:=(by have:=q.lo;omega),pe:=.cons ⟨rfl,rfl,h4⟩ q.pe,pid:= ?_,pw:= ?_,res:=λj hj aV=>q.res j (by omega) aV,al:= ?_} h2
     . intro y hy;rcases List.mem_cons.1 hy with rfl|hy
       . have hr:=q.res id (Nat.le_refl _) bO;have:=q.nx;exact⟨q.lo,Nat.lt_succ_self _,by simp only;omega,hr.1,hr.2⟩
       . obtain⟨a1,a2,a3,a4,a5⟩:=q.pid y hy;exact⟨a1,by omega,a3,a4,a5⟩
     . intro y hy z hz he;rcases List.mem_cons.1 hy with rfl|hy<;>rcases List.mem_cons.1 hz with rfl|hz
       . rfl
       . have:=(q.pid z hz).2.1;simp only at he;omega
       . have:=(q.pid y hy).2.1;simp only at he;omega
       . exact q.pw y hy z hz he
     . intro y hy;rcases List.mem_cons.1 hy with rfl|hy
       . exact q.lo
       . exact q.al y hy
    |effect=>
     have ad:id+(r.filter λo=>cls o.op==.alloc).length=h0.next+na:=by
      rw[List.filter_cons,hc]at ae;simpa using ae
     have aQ:ba=false:=by
      cases ba with
      |false=>rfl
      |true=>rcases Cp aO rfl with h5|⟨h5|h5,_⟩<;>cases h5
     have bP:dy=none:=by
      cases dy with
      |none=>rfl
      |some z=>have:=(wW aO (by simp)).1;rw[aQ]at this;cases this
     have bo:TD (aI (cg h m an) G) t dt:=q.ht.mono km;refine bG.mono ?_ (cr.x (aj:=true) kx bo aF hs);rintro u b7 h' ⟨d,b8,bQ,G',T',k1,k2,k3,k4,k5,k6,k7⟩;have bY:=k2.aI kx;have ca:∀i r,aI h G i=some r->aI h' G' i=some r:=λi r hr=>bY i r (km i r hr);have bZ:∀j,h0.next<=j->dh.get j=none->(∀y∈dp,m.testBit y.1=true->y.2.1≠j)->(fP dh m dp).get j=none:=λj _ hj hy=>by rw[y9 _ _ _ _ hy];exact hj
     have bN:∀j,j<h.next->¬G j->(fP dh m dp).get j=none->bQ.get j=none/\¬G' j:=λj hj hg hd=>by
      refine⟨(k2.same j (by rw[kn];exact hj) hd).2,λcb=> ?_⟩;rcases k2.ba j (by rw[kn];exact hj) cb with h1|h1
      . exact hg h1
      . rw[hd]at h1;cases h1
     have aS:∀y∈jn m dp,y∈dp/\m.testBit y.1=false:=λy hy=>by
      simp only[jn,List.mem_filter,Bool.not_eq_true']at hy;exact hy
     have bc:∀b,b<h0.next->(b∉T'++T\/G0 b)->h'.get b=h0.get b:=λb hb ay=>by
      rcases ay with h1|h1
      . simp only[List.mem_append,not_or]at h1;rw[(k5 b (by rw[kn];have:=q.nx;omega) h1.1).1,bj b hb];exact(q.ag b hb h1.2).1
      . exact((kk.trans k2).same b hb (x0.still b h1).2).1
     have cc:=kk.trans k2;have cd:h.next<=h'.next:=by rw[<-kn];exact k2.next
     have q1:DI e ops av G0 h0 d0 na i id (c'+1) t dt G' h' bQ (an.filter λq=> !m.testBit q.1) all (jn m dp) ((Nat.lor ((st.head?.map (·.1)).getD 0) m,h')::st) sn (T'++T) L:={
      x:=k1
      k:=cc
      nx:=Nat.le_trans q.nx cd
      lo:=q.lo
      pe:=aP.mono (Cm m q.pe) λ_ _=>p6.mono ca
      pid:=λy hy=>by
       obtain⟨bq,ch⟩:=aS y hy;obtain⟨a1,a2,a3,a4,a5⟩:=q.pid y bq;obtain⟨b1,b2⟩:=bN y.2.1 a3 a5 (bZ _ a1 a4 λz hz b0 he=>by
        have:=q.pw z hz y bq he;rw[this,ch]at b0;cases b0)
       exact⟨a1,a2,by omega,b1,b2⟩
      pw:=λy hy z hz=>q.pw y (aS y hy).1 z (aS z hz).1
      res:=λj hj aV=>by
       obtain⟨a1,a2⟩:=q.res j hj aV;have:=q.nx;have:=q.lo;exact bN j (by omega) a2 (bZ _ (by omega) a1 λz hz _ he=>by have:=(q.pid z hz).2.1;omega)
      al:=q.al
      ht:=bo.mono bY
      tO:=q.tO
      ag:=λb hb ay=>by
       refine⟨bc b hb (.inl ay), ?_⟩;simp only[List.mem_append,not_or]at ay;rw[(k5 b (by rw[kn];have:=q.nx;omega) ay.1).2,y9 _ _ _ _ λz hz _ he=>by have:=(q.pid z hz).1;omega];exact(q.ag b hb ay.2).2
      st:=λy hy b hb ay=>by
       rcases List.mem_cons.1 hy with rfl|hy
       . exact bc b hb ay
       . refine q.st y hy b hb (ay.imp (λh1=> ?_) λh1=>h1);simp only[List.mem_append,not_or]at h1;exact h1.2
      LT:=q.LT
      ls:=λy hy j z hz hj=>by
       rw[List.reverse_cons]at hz;rcases Co hz with h1|⟨h1,rfl⟩
       . exact q.ls y hy j z h1 hj
       . rw[List.length_reverse,q.sl]at h1;subst h1;have bq:=q.LT y hy;show h'.get y.1=h0.get y.1;rw[(k5 y.1 (by rw[kn];have:=q.nx;omega) (k6 y hy hj)).1,bj y.1 bq];obtain⟨m0,r0,bf⟩:=q.hd;have aD:st.reverse[c']? =some (m0,h):=by
          have aU:=q.sl;rw[bf]at aU⊢;rw[List.reverse_cons,List.getElem?_append_right (by rw[List.length_reverse];simp at aU;omega),List.length_reverse];simp at aU;rw[show c'-r0.length=0 by omega];rfl
         exact q.ls y hy c' (m0,h) aD (by omega)
      hd:=⟨_,_,rfl⟩
      sl:=by rw[List.length_cons,q.sl]
      rd:=q.rd
      sn:=q.sn}
     exact ih pl (i+1) id (c'+1) _ _ b7 b8 G' h' bQ _ all (jn m dp) _ (t::sn) (T'++T) L aL aN au ad k4 (q1.next ai ho hp k3 (λho=>by rw[aQ]at ho;cases ho) (λ_ hb=>hb) q1.LT q1.ls (bI bP)) k7
   |false=>
    obtain⟨c,m,dy,ba⟩:=p;simp only at hs hc⊢;have ck:∀{tc:Tr Value},rz e ops av G0 h0 L tc i t:=λo' p' az aB aC=>by
     rw[ho]at az;cases az;exact .inl bx
    have q':=q.next ai ho hp (rn (R:=aI h G)) (λ_=>rn) (λ_ hb=>hb) q.LT q.ls ck;cases c with
    |bad=>exact hs.elim
    |pure=>
     have ad:id+(r.filter λo=>cls o.op==.alloc).length=h0.next+na:=by
      rw[List.filter_cons,hc]at ae;simpa using ae
     exact ih pl (i+1) id c' _ _ ds dd G h dh an all dp st (t::sn) T L aL aN au ad aF q' hs
    |read=>
     have ad:id+(r.filter λo=>cls o.op==.alloc).length=h0.next+na:=by
      rw[List.filter_cons,hc]at ae;simpa using ae
     exact ih pl (i+1) id c' _ _ ds dd G h dh an all dp st (t::sn) T L aL aN au ad aF q' hs
    |alloc=>
     have ad:id+1+(r.filter λo=>cls o.op==.alloc).length=h0.next+na:=by
      rw[List.filter_cons,hc]at ae;simp only[beq_self_eq_true,if_true,List.length_cons]at ae;omega
     exact ih pl (i+1) (id+1) c' _ _ ds dd G h dh an all dp st (t::sn) T L aL aN au ad aF {q' with lo:=(by have:=q.lo;omega),pid:=λy hy=>(by obtain⟨a1,a2,a3⟩:=q.pid y hy;exact⟨a1,by omega,a3⟩),res:=λj hj aV=>q.res j (by omega) aV} hs
    |effect=>
     have ad:id+(r.filter λo=>cls o.op==.alloc).length=h0.next+na:=by
      rw[List.filter_cons,hc]at ae;simpa using ae
     have bf:∀y∈((st.head?.map (·.1)).getD 0,h)::st,∀b,b<h0.next->(b∉T\/G0 b)->y.2.get b=h0.get b:=λy hy b hb ay=>by
      rcases List.mem_cons.1 hy with rfl|hy
      . exact b5 b hb ay
      . exact q.st y hy b hb ay
     have cl:∀y∈L,∀j z,(((st.head?.map (·.1)).getD 0,h)::st).reverse[j]? =some z->j<=y.2->z.2.get y.1=h0.get y.1:=λy hy j z hz hj=>by
      rw[List.reverse_cons]at hz;rcases Co hz with h1|⟨h1,rfl⟩
      . exact q.ls y hy j z h1 hj
      . rw[List.length_reverse,q.sl]at h1;subst h1;obtain⟨m0,r0,bf⟩:=q.hd;have aD:st.reverse[c']? =some (m0,h):=by
         have aU:=q.sl;rw[bf]at aU⊢;rw[List.reverse_cons,List.getElem?_append_right (by rw[List.length_reverse];simp at aU;omega),List.length_reverse];simp at aU;rw[show c'-r0.length=0 by omega];rfl
        exact q.ls y hy c' (m0,h) aD (by omega)
     exact ih pl (i+1) id (c'+1) _ _ ds dd G h dh an all dp _ (t::sn) T L aL aN au ad aF {q' with st:=bf,ls:=cl,hd:=⟨_,_,rfl⟩,sl:=(by rw[List.length_cons,q.sl])} hs
theorem GR{tf:Tr Value}{all:dz}{st:List (Nat×aa)}:∀{l:List Oper} {pl:List PI} {ts:List (Tr Value)},pl.length=l.length->ts.length=l.length->(∀(k:Nat) o p t,l[k]? =some o->pl[k]? =some p->ts[k]? =some t->p.dy≠none->
 cY ops ⟨t,0,[],{m:=.nil,next:=0}⟩ o=some false\/(cY ops ⟨t,0,[],{m:=.nil,next:=0}⟩ o=some true/\∃d v,o.dst=some d/\tf.get d=some v/\∀x,p.dy=some x->∀q∈(st.drop x.1).take x.2,bD e (cg q.2 p.m (all.filter λx=> !q.1.testBit x.1)) t o.op=some v))->gI e ops tf all st l pl ts
 |[],_,_,_,_,_=>by simp[gI]
 |o::r,[],_,h1,_,_=>by simp at h1
 |o::r,p::pl,[],_,h2,_=>by simp at h2
 |o::r,p::pl,t::ts,h1,h2,h=>by
  refine⟨?_,GR (by simpa using h1) (by simpa using h2) λk o' p' t' a b c=>h (k+1) o' p' t' (by simpa using a) (by simpa using b) (by simpa using c)⟩;cases hd:p.dy with
  |none=>trivial
  |some lk=>
   obtain⟨lo,k⟩:=lk;rcases h 0 o p t rfl rfl rfl (by rw[hd];simp)with h3|⟨h3,d,v,h4,h5,h6⟩
   . simp only[h3]
   . simp only[h3,h4,h5];have:∀(l:List (Nat×aa)),(∀q∈l,q∈(st.drop lo).take k)->pV e o p.m t v all l:=by
      intro l
      induction l with
      |nil=>exactλ_=>trivial
      |cons q l ih=>exactλhl=>⟨h6 (lo,k) hd q (hl q (by simp)),ih λq' cn=>hl q' (List.mem_cons_of_mem _ cn)⟩
     exact this _ λq hq=>hq
theorem XG{t:Tr Value}{n:Nat}{ds:List Deferred}{h:aa}{K:aE->Prop}{K1:cH->Prop}(pl:List PI)(aJ:sO ops true pl=true)(ae:(ops.filter λo=>cls o.op==.alloc).length=na)
 (hK:∀x,K1 x->gI e ops x.s.t x.all x.bE.reverse ops pl x.dg.reverse/\K {x.s with h:=fw x.s.h x.an})
 (hs:cq e none ops ops pl 0 h.next t n ds {h with next:=h.next+na} [] [] [(0,{h with next:=h.next+na})] [] K1):mA e none ops ⟨t,n,ds,h⟩ K:=by
 simp only[sO,Bool.and_eq_true,List.all_eq_true]at aJ;obtain⟨⟨h1,h2⟩,h3⟩:=aJ;have h2:=Nat.eq_of_beq_eq_true h2;have h4:∀(k:Nat) o p,ops[k]? =some o->pl[k]? =some p->qS ops (bl ops) (dc ops) k o p=true:=λk o p ho hp=>by
  have hz:(ops.zip pl)[k]? =some (o,p):=by rw[List.getElem?_zip_eq_some];exact⟨ho,hp⟩
  exact h3 ((o,p),k) (by
   rw[List.mem_zipIdx_iff_getElem?];simpa using hz)
 refine⟨h1, ?_⟩;rw[ae];have h5:∀(k:Nat) o p m,ops[k]? =some o->pl[k]? =some p->(bl ops)[k]? =some m->cls o.op=p.c/\m=p.m:=λk o p m ho hp hm=>by
  have:=h4 k o p ho hp;simp only[qS,Bool.and_eq_true,decide_eq_true_eq]at this;refine⟨this.1.1, ?_⟩;have e1:=Nat.eq_of_beq_eq_true this.1.2;rw[<-e1,List.getD_eq_getElem?_getD,hm];rfl
 refine cq.A8 (λx hx=> ?_) ops pl (bl ops) 0 h.next t n ds _ [] [] _ [] (by rw[yf]) h5 hs;obtain⟨cp,ct⟩:=hK x hx;refine⟨.inr ?_,ct⟩;have:=gI.p (e:=e) (x:=x) (st:=x.bE.reverse) (ef:=dc ops) (ms:=bl ops) rfl ops pl x.dg.reverse 0 (λk o p ho hp=>by rw[Nat.zero_add];exact h4 k o p ho hp)
  (λk o m hz=>by
   rw[List.drop_zero,List.getElem?_zip_eq_some]at hz;rw[Nat.zero_add,List.getD_eq_getElem?_getD,hz.2];rfl) cp
 simpa using this
theorem XH{t:Tr DV}{n:Nat}{dd:List FuncId}{dh:ab}{K:bn->DS->Prop}(pl:List PJ)(aJ:wV ops pl=true)(na:Nat)(ae:Nat.beq (ops.filter λo=>cls o.op==.alloc).length na=true)(N0:Nat)(hN:dh.next=N0)
 (hs:dq e ops N0 ops pl 0 N0 0 t n dd (dh.up (N0+na)) [] [] [] (K .normal)):∀G r,SD G r ⟨t,n,dd,dh⟩->mA e none ops r (ny G r.h dh (K .normal)):=by
 rintro G ⟨tt,n',ds,h⟩ ⟨q1,q2,q3,q4⟩;simp only at q1 q2 q3 q4;subst q1;subst hN;have bs:=q4.next;simp only[wV,Bool.and_eq_true]at aJ;obtain⟨b3,cu⟩:=aJ;have bg:=b3;simp only[sO,Bool.and_eq_true,List.all_eq_true]at bg;obtain⟨⟨hd,hlen⟩,h3⟩:=bg;have hlen:=Nat.eq_of_beq_eq_true hlen;rw[List.length_map]at hlen;have bt:∀(k:Nat) o p,ops[k]? =some o->pl[k]? =some p->cls o.op=p.c/\ta ops pl o p=true:=λk o p ho hp=>by
  have hz:(ops.zip pl)[k]? =some (o,p):=by rw[List.getElem?_zip_eq_some];exact⟨ho,hp⟩
  refine⟨?_,List.all_eq_true.1 cu _ (List.mem_of_getElem? hz)⟩;have cv:(ops.zip (pl.map PJ.pi))[k]? =some (o,p.pi):=by rw[List.getElem?_zip_eq_some];exact⟨ho,by rw[List.getElem?_map,hp];rfl⟩
  have:=h3 ((o,p.pi),k) (by rw[List.mem_zipIdx_iff_getElem?];simpa using cv);simp only[qS,Bool.and_eq_true,decide_eq_true_eq]at this;exact this.1.1
 have x1:bM G (h.bump na) (dh.up (dh.next+na)):=⟨q4.fF.mono (jj λi hg=>⟨hg,rfl⟩),by rw[bL,ab.kj,bs],λi o ho=>by obtain⟨a,b⟩:=q4.obj i o ho;exact⟨by rw[bL];omega,b⟩,λi hi=>by obtain⟨a,b⟩:=q4.still i hi;exact⟨by rw[bL];omega,b⟩⟩;have q:DI e ops pl G h dh na 0 dh.next 0 tt t G (h.bump na) (dh.up (dh.next+na)) [] [] [] [(0,h.bump na)] [] [] []:={
  x:=x1
  k:=⟨by rw[bL];omega,λi hi hd=>⟨rfl,hd⟩,λi hi=>hi,λi hi hg=>.inl hg⟩
  nx:=by rw[bL];omega
  lo:=by omega
  pe:=.nil
  pid:=λy hy=>by cases hy
  pw:=λy hy=>by cases hy
  res:=λj hj aV=>by
   refine⟨?_,λhg=> ?_⟩
   . cases cw:(dh.up (dh.next+na)).get j with
     |none=>rfl
     |some o=>have:=(q4.obj j o cw).1;omega
   . have:=(q4.still j hg).1;omega
  al:=λy hy=>by cases hy
  ht:=⟨x1.fF,q2⟩
  tO:=λs d _ hd=>q2 s d hd
  ag:=λb _ _=>⟨rfl,rfl⟩
  st:=λy hy b _ _=>by
   simp only[List.mem_singleton]at hy;subst hy;rfl
  LT:=λb hb=>by cases hb
  ls:=λb hb=>by cases hb
  hd:=⟨_,_,rfl⟩
  sl:=rfl
  rd:=λk tk hk=>by simp at hk
  sn:=rfl}
 have bh:=Nat.eq_of_beq_eq_true ae;have key:=dq.s (n:=n') (XE hd) bt q4 ops pl 0 dh.next 0 tt t ds dd G _ _ [] [] [] _ [] [] [] (Nat.zero_le _) rfl rfl (by rw[bh,bs]) q3 q (by rw[bs];exact hs);rw[<-bs]at key;refine XG (pl.map PJ.pi) b3 bh (λx hx=> ?_) key;obtain⟨⟨L,r1,r2,r3,r4,r5,r7⟩,r6⟩:=hx;refine⟨GR (by rw[List.length_map,hlen]) (by rw[List.length_reverse,r2]) λk o p tk ho hp cx aY=> ?_,r6⟩;rw[List.getElem?_map]at hp;obtain⟨pj,bR,rfl⟩:=Option.map_eq_some_iff.1 hp;rcases r1 k tk cx o pj ho bR aY with h4|⟨h4,d,v,h5,h6,h7,h8⟩
 . exact .inl h4
 . refine .inr ⟨h4,d,v,h5,h6,λxx cy y hy=>h8 _ λb hb=> ?_⟩;obtain⟨j,hj⟩:=List.getElem?_of_mem hy;rw[List.getElem?_take]at hj
   split at hj
   . rename_i cC;rw[List.getElem?_drop]at hj;have cA:y∈x.bE:=List.mem_reverse.1 (List.mem_of_getElem? hj);have cB:b<h.next/\y.2.get b=h.get b:=by
      rcases h7 b hb with h9|⟨z,hz,h9⟩
      . exact⟨(q4.still b h9).1,r4 y cA b h9⟩
      . have:xx=z:=by
         have bT:pj.dy=some xx:=cy;rw[bT]at hz;cases hz;rfl
        subst this;exact⟨r5 _ h9,r7 _ h9 (xx.1+j) y hj (by simp only;omega)⟩
     rw[y8 _ _ _ _ λz hz he=>by
      have:=r3 z (List.mem_filter.1 hz).1;omega]
     exact cB.2
   . cases hj
end
end Go.aw
end
noncomputable section
namespace Go.aw
variable {e:Env} {aj:Bool}
def za(e:Env)(ops:List Oper)(t:Tr DV)(n:Nat)(dd:List FuncId)(h:ab)(K:bn->DS->Prop):Prop:=∀G r,SD G r ⟨t,n,dd,h⟩->mA e none ops r (ny G r.h h (K .normal))
theorem XI(id:Nat)(l:List Oper)(t:Tr DV)(n:Nat)(dd:List FuncId)(h:ab)(K:bn->DS->Prop):RD e aj (.region id l.toArray true) ⟨t,n,dd,h⟩ K=za e l t n dd h K:=by simp[RD,za]
theorem kr{ops:List Oper}{t:Tr DV}{n:Nat}{dd:List FuncId}{h:ab}{K:bn->DS->Prop}(pl:List PJ)(aa:wV ops pl=true)(na:Nat)(ad:Nat.beq (ops.filter λo=>cls o.op==.alloc).length na=true)(N0:Nat)(hN:h.next=N0)
 (hs:dq e ops N0 ops pl 0 N0 0 t n dd (h.up (N0+na)) [] [] [] (K .normal)):za e ops t n dd h K:=XH pl aa na ad N0 hN hs
section
variable (ops:List Oper) (N0:Nat) (dst:Option Tmp) (op:Op) (ty:TypeId) (pos:String) (af:Array Edge) (r:List Oper) (m:Nat) (dy:Option (Nat×Nat)) (ba:Bool) (pl:List PJ) (i id c:Nat) (t:Tr DV) (n:Nat) (dd:List FuncId) (h:ab) (an:fB) (T:List Nat) (L:List (Nat×Nat)) (K:DS->Prop) (w:Bool)
def GS(e:Env)(ops:List Oper)(N0:Nat)(r:List Oper)(pl:List PJ)(i id c:Nat)(t:Tr DV)(n:Nat)(dd:List FuncId)(h:ab)(an:fB)(T:List Nat)(L:List (Nat×Nat))(K:DS->Prop)(dst:Option Tmp):DV->Prop:=λv=>dq e ops N0 r pl (i+1) id c (cJ dst v t) n dd h an T L K
def wX(e:Env)(ops:List Oper)(N0:Nat)(op:Op)(ba:Bool)(dy:Option (Nat×Nat))(r:List Oper)(pl:List PJ)(i id c:Nat)(t:Tr DV)(n:Nat)(dd:List FuncId)(h:ab)(an:fB)(T:List Nat)(L:List (Nat×Nat))(K:DS->Prop)(dst:Option Tmp):DV->Prop:=
 λv=>(ba=true->te N0 T (dN e t op))/\dq e ops N0 r pl (i+1) id c (cJ dst v t) n dd h an T (kW dy (dN e t op) L) K
def GU(e:Env)(ops:List Oper)(N0:Nat)(r:List Oper)(pl:List PJ)(i id c:Nat)(t:Tr DV)(n:Nat)(dd:List FuncId)(h:ab)(an:fB)(T:List Nat)(L:List (Nat×Nat))(K:DS->Prop)(dst:Option Tmp):bF×(Nat->DV)->Prop:=λq=>dq e ops N0 r pl (i+1) (id+1) c (cJ dst (q.2 id) t) n dd h ((i,id,q.1)::an) T L K
def GW(e:Env)(ops:List Oper)(N0:Nat)(r:List Oper)(m:Nat)(pl:List PJ)(i id c:Nat)(t:Tr DV)(n:Nat)(an:fB)(T:List Nat)(L:List (Nat×Nat))(K:DS->Prop)(dst:Option Tmp):cF:=λv dd h T'=>(∀q∈L,c+1<=q.2->q.1∉T')/\dq e ops N0 r pl (i+1) id (c+1) (cJ dst v t) n dd h (jn m an) (T'++T) L K
theorem XJ(v:DV):GS e ops N0 r pl i id c t n dd h an T L K dst v=dq e ops N0 r pl (i+1) id c (cJ dst v t) n dd h an T L K:=(rfl)
theorem XK(v:DV):wX e ops N0 op false none r pl i id c t n dd h an T L K dst v=dq e ops N0 r pl (i+1) id c (cJ dst v t) n dd h an T L K:=by simp[wX,kW]
theorem XL(v:DV)(x:Nat×Nat):wX e ops N0 op true (some x) r pl i id c t n dd h an T L K dst v=(te N0 T (dN e t op)/\dq e ops N0 r pl (i+1) id c (cJ dst v t) n dd h an T (kW (some x) (dN e t op) L) K):=by simp[wX]
theorem XM(o:bF)(f:Nat->DV):GU e ops N0 r pl i id c t n dd h an T L K dst (o,f)=dq e ops N0 r pl (i+1) (id+1) c (cJ dst (f id) t) n dd h ((i,id,o)::an) T L K:=(rfl)
theorem XN(v:DV)(T':List Nat):GW e ops N0 r m pl i id c t n an T L K dst v dd h T'=((∀q∈L,c+1<=q.2->q.1∉T')/\dq e ops N0 r pl (i+1) id (c+1) (cJ dst v t) n dd h (jn m an) (T'++T) L K):=(rfl)
theorem XO:dq e ops N0 [] pl i id c t n dd h an T L K=K ⟨t,n,dd,mH h an⟩:=(by cases pl<;>rfl)
theorem XP:dq e ops N0 (⟨dst,op,ty,pos,af,none⟩::r) (⟨.pure,m,dy,ba⟩::pl) i id c t n dd h an T L K=(dB dst n/\aG (aT e h t op) (GS e ops N0 r pl i id c t n dd h an T L K dst)):=by
 simp only[dq,iS,gZ];rfl
theorem XQ:dq e ops N0 (⟨dst,op,ty,pos,af,none⟩::r) (⟨.read,m,dy,ba⟩::pl) i id c t n dd h an T L K=(dB dst n/\aG (aT e (fP h m an) t op) (wX e ops N0 op ba dy r pl i id c t n dd h an T L K dst)):=by
 simp only[dq,iS,gZ];rfl
theorem XR:dq e ops N0 (⟨dst,op,ty,pos,af,none⟩::r) (⟨.alloc,m,dy,ba⟩::pl) i id c t n dd h an T L K=(dB dst n/\aG (dY e t op) (GU e ops N0 r pl i id c t n dd h an T L K dst)):=by
 simp only[dq,iS,gZ];rfl
theorem XS:dq e ops N0 (⟨dst,op,ty,pos,af,none⟩::r) (⟨.effect,m,dy,ba⟩::pl) i id c t n dd h an T L K=(dB dst n/\cr e true op t dd (fP h m an) (GW e ops N0 r m pl i id c t n an T L K dst)):=by
 simp only[dq,iS,gZ];rfl
end
def lG(e:Env)(ops:List Oper)(N0:Nat)(o:Oper)(p:PJ)(r:List Oper)(pl:List PJ)(i id c:Nat)(t:Tr DV)(n:Nat)(dd:List FuncId)(h:ab)(an:fB)(T:List Nat)(L:List (Nat×Nat))(K:DS->Prop)(w:Bool):DV->Prop:=λg=>aG (match some g with
 |some (.v (.bool b))=>some (b==w)
 |some (.v (.tuple _))=>some false
 |some (.bg _)=>some false
 |_=>none) λw=>match w with
 |true=>dq e ops N0 ({o with guard:=none}::r) (p::pl) i id c t n dd h an T L K
 |false=>match p.c with
  |.alloc=>dq e ops N0 r pl (i+1) (id+1) c (cJ o.dst dj t) n dd h an T L K
  |.effect=>dq e ops N0 r pl (i+1) id (c+1) (cJ o.dst dj t) n dd h an T L K
  |.bad=>False
  |_=>dq e ops N0 r pl (i+1) id c (cJ o.dst dj t) n dd h an T L K
def GX(e:Env)(ops:List Oper)(N0:Nat)(o:Oper)(p:PJ)(r:List Oper)(pl:List PJ)(i id c:Nat)(t:Tr DV)(n:Nat)(dd:List FuncId)(h:ab)(an:fB)(T:List Nat)(L:List (Nat×Nat))(K:DS->Prop)(w:Bool):Tmp->Prop:=λd=>aG (t.get d) (lG e ops N0 o p r pl i id c t n dd h an T L K w)
section
variable (ops:List Oper) (N0:Nat) (dst:Option Tmp) (op:Op) (ty:TypeId) (pos:String) (af:Array Edge) (r:List Oper) (m:Nat) (dy:Option (Nat×Nat)) (ba:Bool) (pl:List PJ) (i id c:Nat) (t:Tr DV) (n:Nat) (dd:List FuncId) (h:ab) (an:fB) (T:List Nat) (L:List (Nat×Nat)) (K:DS->Prop) (w:Bool)
theorem XT(j:Nat)(p:PJ):dq e ops N0 (⟨dst,op,ty,pos,af,some (j,w)⟩::r) (p::pl) i id c t n dd h an T L K=(dB dst n/\aG ((ops[j]?).bind (·.dst)) (GX e ops N0 ⟨dst,op,ty,pos,af,none⟩ p r pl i id c t n dd h an T L K w)):=by
 obtain⟨c,m,dy,ba⟩:=p;refine propext ⟨λhh=>⟨hh.1, ?_⟩,λhh=>⟨hh.1, ?_⟩⟩
 . obtain⟨h1,b,h2,h3⟩:=hh;simp only[iS]at h2;cases hd:(ops[j]?).bind (·.dst)with
   |none=>rw[hd]at h2;cases h2
   |some d=>
    rw[hd]at h2;cases hg:t.get d with
    |none=>simp[hg]at h2
    |some g=>
     refine⟨d,rfl,g,hg,b, ?_, ?_⟩
     . simp only[hg]at h2;exact h2
     . cases b with
       |true=>exact⟨h1,true,rfl,h3⟩
       |false=>exact h3
 . obtain⟨h1,d,h2,g,h3,b,h4,h5⟩:=hh;refine⟨b, ?_, ?_⟩
   . simp only[iS,h2,h3];exact h4
   . cases b with
     |true=>obtain⟨_,b',h6,h7⟩:=h5;cases h6;exact h7
     |false=>exact h5
theorem XU(o:Oper)(p:PJ)(d:Tmp):GX e ops N0 o p r pl i id c t n dd h an T L K w d=aG (t.get d) (lG e ops N0 o p r pl i id c t n dd h an T L K w):=(rfl)
theorem XV(p:PJ):lG e ops N0 ⟨dst,op,ty,pos,af,none⟩ p r pl i id c t n dd h an T L K w (.v (.bool w))=dq e ops N0 (⟨dst,op,ty,pos,af,none⟩::r) (p::pl) i id c t n dd h an T L K:=by
 simp only[lG,beq_self_eq_true,gZ]
theorem XW:lG e ops N0 ⟨dst,op,ty,pos,af,none⟩ ⟨.pure,m,dy,ba⟩ r pl i id c t n dd h an T L K true (.v (.bool false))=dq e ops N0 r pl (i+1) id c (cJ dst dj t) n dd h an T L K:=by simp[lG,gZ]
theorem XX:lG e ops N0 ⟨dst,op,ty,pos,af,none⟩ ⟨.read,m,dy,ba⟩ r pl i id c t n dd h an T L K true (.v (.bool false))=dq e ops N0 r pl (i+1) id c (cJ dst dj t) n dd h an T L K:=by simp[lG,gZ]
theorem XY:lG e ops N0 ⟨dst,op,ty,pos,af,none⟩ ⟨.pure,m,dy,ba⟩ r pl i id c t n dd h an T L K false (.v (.bool true))=dq e ops N0 r pl (i+1) id c (cJ dst dj t) n dd h an T L K:=by simp[lG,gZ]
theorem XZ:lG e ops N0 ⟨dst,op,ty,pos,af,none⟩ ⟨.read,m,dy,ba⟩ r pl i id c t n dd h an T L K false (.v (.bool true))=dq e ops N0 r pl (i+1) id c (cJ dst dj t) n dd h an T L K:=by simp[lG,gZ]
theorem X0:lG e ops N0 ⟨dst,op,ty,pos,af,none⟩ ⟨.effect,m,dy,ba⟩ r pl i id c t n dd h an T L K false (.v (.bool true))=dq e ops N0 r pl (i+1) id (c+1) (cJ dst dj t) n dd h an T L K:=by simp[lG,gZ]
end
theorem X5(N0:Nat)(T:List Nat):te N0 T none=True:=(rfl)
theorem X6(N0:Nat)(T:List Nat)(b:Nat):te N0 T (some b)=(b<N0/\b∉T):=(rfl)
theorem X7(x:Nat×Nat)(b:Nat)(L:List (Nat×Nat)):kW (some x) (some b) L=(b,x.1+x.2-1)::L:=(rfl)
theorem X8(x:Option (Nat×Nat))(L:List (Nat×Nat)):kW x none L=L:=by cases x<;>rfl
section
variable (t:Tr DV) (h:ab)
theorem X9(ty:TypeId)(a:Operand):dN e t (.load ty a)=jO (aB e t a):=(rfl)
theorem Ya(ty:TypeId)(x:Operand)(lo hi mx:Option Operand):dN e t (.slice ty x lo hi mx)=jO (aB e t x):=(rfl)
theorem Yb(a:Addr):jO (some (.v (.pointer (some a))))=some a.block:=(rfl)
theorem Yc(s:ByteArray):jO (some (.v (.string s)))=none:=(rfl)
theorem Yd(k:Nat)(xs:List (List DV)):jO (some (.sl k xs))=none:=(rfl)
theorem Ye(xs:List DV)(o:Nat):jO (some (.ptr xs o))=none:=(rfl)
theorem Yf(x:Operand):aT e h t (.move x)=aB e t x:=(rfl)
theorem Yg(x:Operand):aT e h t (.assign x)=aB e t x:=(rfl)
theorem Yh(c a b:Operand):aT e h t (.pick c a b)=ri (aB e t c) (aB e t a) (aB e t b):=(rfl)
theorem Yi(ty:TypeId)(l:List (Nat×Operand)):aT e h t (.build ty l.toArray)=(fY e t l).bind (eV e ty):=by simp[aT]
theorem Yj(ty:TypeId)(a:Operand):aT e h t (.load ty a)=(aB e t a).bind (jl e h ty):=(rfl)
theorem Yk(x:Operand):aT e h t (.nilCheck x)=(aB e t x).bind lD:=(rfl)
theorem Yl(op:BinOp)(ty:TypeId)(x y:Operand)(z:TypeId):aT e h t (.binOp op ty x y z)=gK (jK e op ty x y) (aB e t x) (aB e t y):=(rfl)
theorem Ym(op:UnOp)(ty:TypeId)(x:Operand):aT e h t (.unOp op ty x)=(aB e t x).bind (l7 (oy e op)):=(rfl)
theorem Yn(s d:TypeId)(x:Operand):aT e h t (.convert s d x)=(aB e t x).bind (nr e h s d):=(rfl)
theorem Yo(f:FuncId)(a c:List Operand):aT e h t (.makeFunc (.func f) a.toArray c.toArray)=oH f (cO e t a) (cO e t c):=by simp[aT]
theorem Yp(ty:TypeId)(x:Operand)(lo hi mx:Option Operand):aT e h t (.slice ty x lo hi mx)=dX e h ty (aB e t x) (eM e t lo) (eM e t hi) (eM e t mx):=(rfl)
theorem Yq(s:TypeId)(x:Operand)(f:Nat):aT e h t (.fieldAddr s x f)=(aB e t x).bind (kR e s f):=(rfl)
theorem Yr(ty:TypeId)(x ix:Operand):aT e h t (.indexAddr ty x ix)=gK (λa b=>iQ e ty a (gr b)) (aB e t x) (aB e t ix):=(rfl)
theorem Ys(ty:TypeId)(m k:Operand)(ok:Bool):aT e h t (.lookup ty m k ok)=gK (lF e h ty ok) (aB e t m) (aB e t k):=(rfl)
theorem Yt(x:Operand)(i:Nat):aT e h t (.extract x i)=(aB e t x).bind (mC i):=(rfl)
theorem Yu(x:Operand)(ty:TypeId)(ai:List TypeId):aT e h t (.call ⟨.builtin .len,#[x],(ty::ai).toArray⟩)=(aB e t x).bind (iz e h ty):=by
 simp only[aT,cO];cases aB e t x<;>simp[pY]
theorem Yv(m:Nat):fP h m []=h:=(rfl)
theorem Yw(m i id:Nat)(o:bF)(r:fB):fP h m ((i,id,o)::r)=if m.testBit i=true then(fP h m r).set id (some o)else fP h m r:=(rfl)
theorem Yx:mH h []=h:=(rfl)
theorem Yy(m:Nat):jn m []=[]:=(rfl)
theorem Yz(m i id:Nat)(o:bF)(r:fB):jn m ((i,id,o)::r)=if m.testBit i=true then jn m r else(i,id,o)::jn m r:=by
 simp only[jn,List.filter_cons];cases m.testBit i<;>rfl
end
def zc(e:Env)(h:ab)(s d:TypeId)(x:DV):Bool->Option DV
 |true=>sZ (gu h 1 x)
 |false=>l7 (sY e s d) x
theorem YA(h:ab)(s d:TypeId)(x:DV):nr e h s d x=zc e h s d x (e.mD s d):=by
 simp only[nr,zc];cases e.mD s d<;>rfl
theorem YB(h:ab)(s d:TypeId)(x:DV):zc e h s d x true=sZ (gu h 1 x):=(rfl)
theorem YC(h:ab)(s d:TypeId)(x:DV):zc e h s d x false=l7 (sY e s d) x:=(rfl)
theorem YD(n:Nat)(cs:List DV):sZ (some (n+1,cs))=(l9 cs).map λns=>.v (.string (strOf ns)):=(rfl)
theorem YE:l9 []=some []:=(rfl)
theorem YF(n:Int)(r:List DV):l9 (.v (.int .u8 n)::r)=(l9 r).map (n::·):=(rfl)
attribute [go_sem] YA YB YC YD YE YF
attribute [go_sem] XI XJ XK XL XM XN XO XP XQ XR XS XT XU XV XW XX XY XZ X0 X5 X6 X7 X8 X9 Ya Yb Yc Yd Ye Yf Yg Yh Yi Yj Yk Yl Ym Yn Yo Yp Yq Yr Ys Yt Yu Yv Yw Yx Yy Yz Tj Tk
abbrev ae(m:Nat):PJ:=⟨.pure,m,none,false⟩
abbrev aJ(m:Nat):PJ:=⟨.read,m,none,false⟩
abbrev aN(m:Nat):PJ:=⟨.effect,m,none,false⟩
abbrev cT(m:Nat):PJ:=⟨.alloc,m,none,false⟩
abbrev dF(m:Nat):PJ:=⟨.read,m,some (0,2),true⟩
abbrev lH(m:Nat):PJ:=⟨.pure,m,none,true⟩
attribute [go_sem] ae aJ aN cT dF lH
end Go.aw
end
noncomputable section
namespace Go.aw
variable {e:Env}
theorem nB(P:Program){α β:Type}(s:Sem α)(k:α->Sem β):bY P (s>>=k)=(bY P s).bind λa=>bY P (k a):=by
 show bY P (Sem.bind s k)=_
 induction s<;>simp_all[Sem.bind,bY]
theorem kX(P:Program){α:Type}(a:α):bY P (pure a)=some a:=rfl
theorem YG(P:Program){op:BinOp}(h1:op≠.eql)(h2:op≠.neq)(t:TypeId)(x y:Operand)(a b:Value):bY P (eqGuard op t x y a b)=some ():=by
 unfold eqGuard;cases op<;>first|rfl|exact absurd rfl h1|exact absurd rfl h2
theorem uO{ty:TypeId}{x y:Operand}{k k':IntKind}{n m:Int}{op:BinOp}(h1:op≠.eql)(h2:op≠.neq)(hn:∀k n m,lr op k n m=none){r:Value}(hr:bY e.P (binOp op ty (.int k n) (.int k' m))=some r)(hp:plain r=true):
 cS e op ty x y (.int k n) (.int k' m)=some r:=by
 unfold cS;have:(bif decide (k=k')then lr op k n m else none)=none:=by cases decide (k=k')<;>simp[hn]
 have ha:∀k n,plain (.int k n)=true:=λ_ _=>rfl;simp only[this,ha,Bool.and_self,cond_true,e9,nB,YG e.P h1 h2,Option.bind_some,hr,hp]
theorem YH(P:Program)(op:BinOp)(t:TypeId)(x y:Operand)(a b:ByteArray):bY P (eqGuard op t x y (.string a) (.string b))=some ():=by
 unfold eqGuard;cases op<;>rfl
theorem Cq{ty:TypeId}{x y:Operand}{a b:ByteArray}{op:BinOp}{r:Value}(hr:bY e.P (binOp op ty (.string a) (.string b))=some r)(hp:plain r=true):
 cS e op ty x y (.string a) (.string b)=some r:=by
 unfold cS;have ha:∀s,plain (.string s)=true:=λ_=>rfl;simp only[ha,Bool.and_self,cond_true,e9,nB,YH,Option.bind_some,hr,hp]
section
variable (ty:TypeId) (x y:Operand) (k k':IntKind) (n m:Int)
theorem YI(h:m≠0):cS e .rem ty x y (.int k n) (.int k m)=some (.int k (n.tmod m)):=by
 refine uO (by decide) (by decide) (λ_ _ _=>rfl) ?_ rfl;simp[binOp,Op.intDiv,h,kX]
theorem YJ(h:m≠0):cS e .quo ty x y (.int k n) (.int k m)=some (.int k (k.wrap (n.tdiv m))):=by
 refine uO (by decide) (by decide) (λ_ _ _=>rfl) ?_ rfl;simp[binOp,Op.intDiv,h,kX]
theorem YK(h:0<=m):cS e .shr ty x y (.int k n) (.int k' m)=some (.int k (n.fdiv (2^(min m.toNat k.bits)))):=by
 refine uO (by decide) (by decide) (λ_ _ _=>rfl) ?_ rfl;simp[binOp,Op.shift,show¬m<0 by omega,kX]
theorem YL(h:0<=m):cS e .shl ty x y (.int k n) (.int k' m)=some (.int k (k.wrap (n*2^(min m.toNat k.bits)))):=by
 refine uO (by decide) (by decide) (λ_ _ _=>rfl) ?_ rfl;simp[binOp,Op.shift,show¬m<0 by omega,kX]
theorem Cr:cS e .and ty x y (.int k n) (.int k m)=some (.int k (k.wrap ((BitVec.ofInt k.bits n&&&BitVec.ofInt k.bits m).toNat:Nat))):=by
 refine uO (by decide) (by decide) (λ_ _ _=>rfl) ?_ rfl;simp[binOp,Op.intBits,kX]
theorem YM:cS e .or ty x y (.int k n) (.int k m)=some (.int k (k.wrap ((BitVec.ofInt k.bits n|||BitVec.ofInt k.bits m).toNat:Nat))):=by
 refine uO (by decide) (by decide) (λ_ _ _=>rfl) ?_ rfl;simp[binOp,Op.intBits,kX]
theorem uP(a b:ByteArray)(h:a.size+b.size<=9223372036854775807):cS e .add ty x y (.string a) (.string b)=some (.string (a++b)):=by
 refine Cq ?_ rfl;have:¬((a.size+b.size:Nat):Int)>IntKind.i64.max:=by
  have:IntKind.i64.max=9223372036854775807:=by decide
  omega
 simp only[binOp,Op.stringOp,this,if_false,kX]
theorem toList_inj{a b:ByteArray}:a.toList=b.toList↔a=b:=by
 rw[ByteArray.toList_eq,ByteArray.toList_eq];constructor
 . intro h;cases a;cases b;congr;exact Array.toList_inj.1 h
 . intro h;rw[h]
theorem YN(a b:ByteArray):cS e .eql ty x y (.string a) (.string b)=some (.bool (decide (a=b))):=by
 have:(a.toList==b.toList)=decide (a=b):=by
  rw[Bool.eq_iff_iff];simp[toList_inj]
 refine Cq ?_ rfl;simp[binOp,Op.stringOp,kX,this]
theorem YO(a b:ByteArray):cS e .neq ty x y (.string a) (.string b)=some (.bool (!decide (a=b))):=by
 have:(a.toList==b.toList)=decide (a=b):=by
  rw[Bool.eq_iff_iff];simp[toList_inj]
 refine Cq ?_ rfl;simp[binOp,Op.stringOp,kX,this]
end
theorem YP{ty:TypeId}(hu:e.P.underlying ty=some .string)(aa:e.under ty=some .string)(s:ByteArray)(k:IntKind)(i:Int)(b:UInt8)(h0:0<=i)(hb:s[i.toNat]? =some b):pT e ty (.string s) (.int k i)=some (.int .u8 b.toNat):=by
 simp only[pT,aa];have pu:bY e.P (underlying ty)=some .string:=by
  simp only[underlying,nB];show bY e.P (match e.P.underlying ty with|some d=>pure d|none=>stuck "no such type" :Sem TypeDesc)=some .string;rw[hu];rfl
 have:bY e.P (Instr.index ty (.string s) (.int k i))=some (.int .u8 b.toNat):=by
  simp[Instr.index,nB,asIntOf,kX,pu,h0,hb]
 simp[e9,this,plain,ez]
end Go.aw
end

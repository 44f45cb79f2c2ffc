/- SpacingNeeded: for all that a grammar and its leaves are made of the call returns true; the table math/bits.deBruijn64tab starts as the text lays it. -/
import Derived.Test.YtlgccnjcmfighaaGreatDoorCards
import Derived.Test.YtlgccnjcmfighaaGreatDoorTie
import Derived.Lib.LaidTab
import Derived.Test.YtlgccnjcmfighaaGreatDoorK21
open List renaming length_drop->qG,map_drop->yy,mem_of_mem_drop->yB,getElem?_eq_getElem->FQ,drop_eq_getElem_cons->KE,getElem?_eq_some_iff->RC,length_map->RK,not_mem_nil->RW
open Option.some renaming inj->E2
set_option linter.all false
set_option maxRecDepth 100000
noncomputable section
open Go Go.aD Go.Proofs
namespace Go.Sp
set_option maxHeartbeats 8000000 in
def afi(r:dP)(hr:r.Ok):aE E true 3 [.agg r.e] (bV true):=by
 have h3:(bG r).conds.length<=3:=by rw[(qW r).1];have:=(pO r.x hr.x).room.conds;omega
 obtain⟨c,hc,aC⟩:=Kj (bG r) (wI r hr).cW h3 r.config hr.config;have bd:c<8:=List.mem_range.1 (List.mem_filter.1 hc).1;have ad:=KZ r hr c bd aC;have af:=K2 r hr c hc 0;rw[List.drop_zero]at af;have ab:=Lu r hr c hc;have hlen:=D3 r c;have an:=Lt r hr c;have ao:=λk gs t=>K0 (g:=bG r) (c:=c) k (L:=ku r c) (gs:=gs) (t:=t);obtain⟨L,hL⟩:∃L,ku r c=L:=⟨_,rfl⟩;obtain⟨G,hG⟩:∃G,bG r=G:=⟨_,rfl⟩;rw[hL]at ad af hlen ao an ab;rw[hG]at ad af ao an ab;have aF:r.e=[uV r.x.base,uV r.x.n,.sl 1 (r.x.family.map λb=>[uV b]),.sl 4 (r.x.lines.map Ln.e),.sl 5 (r.x.rules.map Rl.e),uV r.marks,uV r.config,.sl 1 (r.leaves.map λb=>[uV b])]:=rfl;obtain⟨re,aw⟩:∃re,r.e=re:=⟨_,rfl⟩;rw[aw]at ad aF;rw[aw];have aq:G.e=[strs G.conds,.sl 3 (G.family.nodes.map cL),iV G.family.root,.sl 7 (G.au.map Tok.e),strs G.aP,.sl 13 (G.ay.map aX.e),iV G.start,.sl 4 (G.bn.map dg.e),.sl 9 (G.aZ.map bk.e)]:=rfl;obtain⟨ge,aH⟩:∃ge,G.e=ge:=⟨_,rfl⟩;rw[aH]at ad af aq ab;refine qM Tryz.ntmps3 Tryz.results3 λN=> ?_;refine du ?_;simp(disch:=omega)[go_sem,aF];refine du ?_;refine aL ?_;refine ax.mk KU λM0=>dI λbp=> ?_;refine du ?_;refine aL ?_;rw[<-aF];refine ax.mk ad λM1=>aT λbq=> ?_;simp(disch:=omega)[go_sem,aq];rw[<-aq];refine du ?_;simp(disch:=omega)[go_sem,aq];rw[<-aq];refine ax.mk af λM2=>aT λbs=> ?_;cases aQ:dL G c L with
 |none=>
  simp(disch:=omega)[go_sem,pV];refine du ?_;exact ah
 |some q=>
  obtain⟨gs,t⟩:=q;have bt:=(ao 0 gs t aQ).1;simp(disch:=omega)[go_sem,pV];refine du ?_;refine aL ?_;refine du ?_;refine aL ?_;obtain⟨I,hI⟩:∃I:Nat->DS->Prop,∀j d,I j d↔∃(k:Nat) (H:ae),j+k=L.length/\M1<H.next/\H.get M1=some (.row ge true 0)/\d=⟨bw [(3,bV true),(4,aI M1),(5,cV c),(6,.sl 4 (L.map Lf.e)),(7,.sl 1 (gs.map λb=>[bV b])),(9,iV (k:Nat))],68,[],H⟩:=⟨_,λ_ _=>Iff.rfl⟩;refine bS I L.length ⟨_,aB.bb (l:=[(3,bV true),(4,aI M1),(5,cV c),(6,.sl 4 (L.map Lf.e)),(7,.sl 1 (gs.map λb=>[bV b])),(9,iV (0:Nat))]) ah,(hI _ _).2 ⟨0,_,rfl, ?_, ?_,rfl⟩⟩ ?_
  . simp(disch:=omega)[go_sem];try omega
  . simp(disch:=omega)[go_sem,aq]
  . intro j ds aS;obtain⟨k,H,hj,hM,f1,rfl⟩:=(hI _ _).1 aS;clear aS;by_cases aW:k<L.length
    . have av:(k:Int)<L.length:=aa;obtain⟨l,hl⟩:∃l,L[k]? =some l:=⟨_,FQ aW⟩;obtain⟨b,hb⟩:∃b,gs[k]? =some b:=⟨_,FQ aa⟩;have hd:L.drop k=l::L.drop (k+1):=by rw[KE aW,(RC.1 hl).2]
      have az:gs.drop k=b::gs.drop (k+1):=by rw[KE aa,(RC.1 hb).2]
      obtain⟨t',aJ⟩:∃t',dL G c (L.drop k)=some (gs.drop k,t'):=(ao k gs t aQ).2;have bf:∀l∈L.drop k,0<l.text.size/\fS G [l.tok]=0:=λl h=>an l (yB h);obtain⟨C1,aM⟩:=ab (L.drop k) (gs.drop k) (λl h=>yB h) (by rw[qG];omega) (by rw[qG];omega);rw[Lb (K8 aJ) bf]at aM;obtain⟨C2,aN⟩:=ab (L.drop k) (false::gs.drop (k+1)) (λl h=>yB h) (by rw[qG];omega) (by rw[List.length_cons,qG];omega);have aY:b=true->oy G c C2 (L.drop k) (false::gs.drop (k+1))=false:=λh=>by
       subst h;rw[hd,az]at aJ;rw[hd];exact aeL (by simp[ed,zy]) (an l (List.mem_of_getElem? hl)).1 (afh aJ)
      have ba:∀h,de E h 42 (some (.sl 4 (L.map Lf.e))) (some (some (iV k))) (some none) (some none)=some (.sl 4 ((L.drop k).map Lf.e)):=λh=>by
       rw[aff (L.map Lf.e) k (by rw[RK];omega),<-yy]
      have bg:∀h,de E h 45 (some (.sl 1 (gs.map λb=>[bV b]))) (some (some (iV k))) (some none) (some none)=some (cx (gs.drop k)):=λh=>by
       rw[afg (gs.map λb=>[bV b]) k (by rw[RK];omega),<-yy]
      have next:∀(H':ae) (T:Tr DV),M1<H'.next->H'.get M1=some (.row ge true 0)->gm T [(3,bV true),(4,aI M1),(5,cV c),(6,.sl 4 (L.map Lf.e)),(7,.sl 1 (gs.map λb=>[bV b])),(9,iV (k+1:Nat))]->∃j',j'<j/\∃d',aB ⟨T,68,[],H'⟩ d'/\I j' d':=λH' T h2 h3 h4=>⟨j-1,aa,_,aB.bb h4,(hI _ _).2 ⟨k+1,H',aa,h2,h3,rfl⟩⟩
      simp(disch:=omega)[go_sem,av,bg];obtain⟨X,hX⟩:∃X,H.next=X:=⟨_,rfl⟩;rw[hX]at hM;obtain⟨gt,bc⟩:∃gt,gs.drop (k+1)=gt:=⟨_,rfl⟩;have bj:gs.length-k=gt.length+1:=by rw[<-bc,qG];omega
      rw[bc]at az aN aY;rw[az]at aM;rw[<-yy,zC,az,bj];refine fM (cs:=[]) (wr:=true) (by simp(disch:=omega)[go_sem,hX]) rfl aa aa ?_;simp(disch:=omega)[go_sem,hX];refine bZ [aK 0,ai 0,ai 0,ai 0,aK 12,ai 0,aU 63,ai 127] ak 0 rfl ?_;simp(disch:=omega)[go_sem,hX,ba,f1,aq];rw[<-aq];refine ax.pl aM (.cons (.refl _) (.cons (.refl _) (.cons (by rw[<-yy];exact .refl _) (.cons (Ls (b::gt) (ck (wr:=true) ?_)) .nil)))) λM3 bm=> ?_
      . simp(disch:=omega)[go_sem,hX]
      simp(disch:=omega)[go_sem,hX]at bm;simp(disch:=omega)[go_sem,hX];refine bZ [ai 0,ai 1,aK 3,ai 3,ai 3,ai 3,aK 51,ai 3,aU 255,ai 511] ak 0 rfl ?_;cases b with
      |false=>
       simp(disch:=omega)[go_sem,aG];refine next _ _ ?_ ?_ ah
       . simp(disch:=omega)[go_sem];try omega
       . simp(disch:=omega)[go_sem,f1,hX]
      |true=>
       rw[aY rfl]at aN;simp(disch:=omega)[go_sem,hX,ba,f1,aq,aG];rw[<-aq];refine ax.pl aN (.cons (.refl _) (.cons (.refl _) (.cons (by rw[<-yy];exact .refl _) (.cons (Ls (false::gt) (ck (wr:=true) ?_)) .nil)))) λM4 bo=> ?_
       . simp(disch:=omega)[go_sem,hX]
       simp(disch:=omega)[go_sem,hX]at bo;simp(disch:=omega)[go_sem,aG];refine next _ _ ?_ ?_ ah
       . simp(disch:=omega)[go_sem];try omega
       . simp(disch:=omega)[go_sem,f1,hX]
    . have av:¬(k:Int)<L.length:=aa;simp(disch:=omega)[go_sem,av];refine qN ?_;exact ah
end Go.Sp
end
noncomputable section
namespace Go.Proofs.YtlgccnjcmfighaaGreatDoor.needed
open Go.ChangeShapes Go.WideShapes Go.ChangeAt Go.RowKit Go.Joins Go.aD
theorem own:ownKnob Tryz.prog.godebug=none:=ak
theorem laidOut:laidOutB Tryz.prog=true:=ak
theorem wU:Tryz.prog.globalNamed "math/bits.deBruijn64tab" =some dW:=ak
theorem Eb:(Tryz.prog.globals[dW]?).map (·.type)=some 275:=ak
theorem Ec:Tryz.prog.cellsOf 275=64:=ak
theorem jX:Tryz.prog.cellsOf 5=1:=ak
theorem readable:∀t∈Tryz.f3.params.toList,Tryz.prog.readableRec t=true/\t<Tryz.prog.types.size:=by
 rw[Tryz.params3];intro t ht;have ht:t∈[28]:=ht;simp only[List.mem_cons,RW,or_false]at ht;subst ht;exact⟨ak,of_decide_eq_true ak⟩
def Ed:List Int:=[0,1,56,2,57,49,28,3,61,58,42,50,38,29,17,4,62,47,59,36,45,43,51,22,53,39,33,30,24,18,12,5,63,55,48,27,60,41,37,16,46,35,44,21,52,32,23,11,54,26,40,15,34,20,31,10,25,14,19,9,13,8,7,6]
theorem Ee{W:World}(h:laidMetH Tryz.prog Rows.spacingNeededRow.laid W):∃(el:TypeId) (fz:Nat×Nat),W.heap[dW]? =some (.cells jh.toArray el fz):=by
 have ht:Lib.TabIs Tryz.prog W "math/bits.deBruijn64tab" .u8 Ed:=Lib.tabIs_of_head (rest:=[_,_]) wU Eb Tryz.underlying275 Tryz.underlying5 jX Ec h;unfold Lib.TabIs World.var? at ht;rw[wU]at ht;simp only[Option.bind_some]at ht
 split at ht
 . rename_i cs el fz hg;refine⟨el,fz, ?_⟩;rw[hg];obtain rfl:=E2 ht;rfl
 . cases ht
section
variable {H:Type}
set_option maxRecDepth 100000 in
theorem Ef(enc:TypeId×Value->H)(W:World)(base:Nat)(args:Array Value)(ds gs:List (DataW H))(before:List MemPlace)
 (aa:∀(j:Nat) t v,Tryz.f3.params[j]? =some t->args[j]? =some v->Value.okWide Tryz.prog W .any base t v)
 (hW:DataW.Whole enc Tryz.prog Tryz.f3.params.toList Rows.spacingNeededSpec.vars false W args.toList ds gs before) (hL:laidMetH Tryz.prog Rows.spacingNeededRow.laid W):
 Calls Tryz.prog 3 args W λe W'=>∃v,e=.returned v/\Rows.spacingNeededSpec.post enc Tryz.prog Tryz.f3 false true false false W args v W':=by
 have ad:=hW;obtain⟨p,q,ae,hV,rfl,ai,an⟩:=hW;have hA:DataW.TrodAll enc Tryz.prog W 0 (λ_=>true) true Tryz.f3.params.toList args.toList ds p:=ae;rw[Tryz.params3]at hA aa;obtain⟨v0,ao,d0,aq,p0,q0,ab,rfl,rfl,h0,r0⟩:=trodAll_cons hA;obtain⟨rfl,rfl,rfl⟩:=trodAll_nil r0;obtain rfl:args=#[v0]:=by cases args;simp_all
 obtain⟨rfl,rfl⟩:=trodVars_none hV;have w0:=aa 0 28 v0 rfl rfl;clear aa;obtain⟨cs,rfl,af⟩:=okWide_struct Tryz.underlying28 w0;obtain⟨fuel,hf⟩:=h0;obtain⟨x,hx,hr⟩:=Go.Sp.Ke (cs:=cs.toList) (by rw[Array.length_toList,af];exact Go.Sp.Kc) hf;obtain⟨el,fz,ht⟩:=Ee hL;refine(Go.Sp.KF x (Go.Sp.afi x hx) W el fz ht cs.toList hr).mono λe W' ⟨he,hk⟩=> ?_;subst he;exact⟨_,rfl,Lw (tb:=4) ad rfl rfl rfl rfl laidOut readable ak Tryz.underlying4 hk⟩
end
def oj:DataW Unit->List Value
 |.agg l=>l.flatMap fun
  |.lit (.int k z)=>[.int k z]
  |.agg l'=>l'.flatMap fun
   |.lit (.int k z)=>[.int k z]
   |_=>[]
  |_=>[]
 |_=>[]
noncomputable def sT(g:Nat)(d:DataW Unit)(h:Array Obj):Array Obj:=h.modify g fun
 |.cells _ t frozen=>.cells (oj d).toArray t frozen
 |o=>o
noncomputable def sU(os:Os):World:=
 {World.holding Tryz.prog os ⟨#[],#[],[]⟩with heap:=sT 2 Rows.laid_unicode_utf8_first (sT 3 Rows.laid_unicode_utf8_acceptRanges (sT dW Rows.laid_math_bits_deBruijn64tab (World.holding Tryz.prog os ⟨#[],#[],[]⟩).heap))}
def pX:Array Value:=#[.agg #[.int .u8 0,.int .u8 0,.slice none 0 0,.slice none 0 0,.slice none 0 0,.int .u8 0,.int .u8 0,.slice none 0 0]]
def Eg{H:Type}:List (DataW H):=[.agg [.agg [.lit (.int .u8 0),.lit (.int .u8 0),.nil,.nil,.nil],.lit (.int .u8 0),.lit (.int .u8 0),.nil]]
theorem Eh(os:Os):laidMet Tryz.prog Rows.spacingNeededRow.laid ((sU os).forCall (λ_ _=>0) ⟨#[],pX,[]⟩).memory:=
 laidMet_of_run' 8 ak ak
theorem reads(os:Os){H:Type}(enc:TypeId×Value->H):∃places,DataW.whole enc Tryz.prog ((sU os).forCall (λ_ _=>0) ⟨#[],pX,[]⟩).memory Tryz.f3.params.toList Rows.spacingNeededSpec.vars false pX.toList 8=some (Eg,[],places):=
 ⟨[],ak⟩
set_option maxRecDepth 100000 in
theorem lifted(os:Os)(started:os.Started)(H:Type)(enc:TypeId×Value->H)(F:Stop.Interp):
 ReturnsInHanded {} Tryz.checked os 3 .any ((OpenSpec.ofChange Rows.spacingNeededSpec).preRow enc Tryz.prog Tryz.f3 Rows.spacingNeededRow.domain false Rows.spacingNeededRow.laid) (((OpenSpec.ofChange Rows.spacingNeededSpec).at F).post enc Tryz.prog Tryz.f3 false true false false):=by
 obtain⟨places,hx⟩:=reads os enc;refine returnsInHanded_of_row (C:=Tryz.checked) (s:=OpenSpec.ofChange Rows.spacingNeededSpec) own started ak Tryz.func3
  (witness_row_at (enc:=enc) (C:=Tryz.checked) false (sU os) pX rfl ak ak ak
   (OpenSpec.preRow_of_cond 8 hx ak (λk hk=>by cases hk) ak (Eh os))) ?_
 intro W base args ds gs before aa hW _ _ _ hL _ _;exact Ef enc W base args ds gs before aa hW hL
theorem said:Rows.SpacingNeededSaid:=
 OpenClaim.holds_of_cond 3 Tryz.f3 rfl rfl rfl rfl rfl rfl rfl ⟨rfl,rfl,rfl,rfl,rfl⟩ rfl rfl rfl rfl rfl ak Tryz.func3 ak
  (of_decide_eq_true ak) (by unfold Func.isWrapper;first|(rw[if_pos (by decide+kernel)];kernel_rfl)|(rw[if_neg (by decide+kernel)];exact⟨rfl,rfl⟩))
  (λos started H enc _ F=>by rw[OpenClaim.pre_eq_preRow];exact lifted os started H enc F)
theorem plain(f:FuncId)(fn:Func)(hf:Tryz.pinned.checked.prog.funcNamed "koine/koinelaw24.SpacingNeeded" =some f)(ah:Tryz.pinned.checked.prog.funcs[f]? =some fn):
 true=Tryz.pinned.checked.prog.looks []/\∀(j:Nat) t,fn.params[j]? =some t->Tryz.pinned.checked.prog.wantsStandIn t=false:=by
 obtain rfl:f=3:=E2 ((show Tryz.prog.funcNamed "koine/koinelaw24.SpacingNeeded" =some 3 by kernel_rfl).symm.trans hf)|>.symm;obtain rfl:fn=Tryz.f3:=(E2 (Tryz.func3.symm.trans ah)).symm;refine⟨ak,λj t ht=> ?_⟩;rw[Tryz.params3]at ht;have hm:t∈[28]:=by simpa using Array.mem_of_getElem? ht
 simp only[List.mem_cons,RW,or_false]at hm;subst hm;exact(show Tryz.prog.wantsStandIn 28=false by kernel_rfl)
theorem card:Rows.SpacingNeededCardSaid:=
 Claim7.holds_tied_plain_at .later [] _ _ _ _ said (λ_ h=>by cases h) ak (λ_ h=>by cases h) spacingNeeded_row_tie rfl ⟨rfl,rfl⟩ ak rfl plain ak
#print axioms card
end Go.Proofs.YtlgccnjcmfighaaGreatDoor.needed
end

/- SpacingErrors: for all that a grammar and a term are made of the call returns true; the table math/bits.deBruijn64tab starts as the text lays it. -/
import Derived.Test.YtniliiapkfpajaaGreatDoorCards
import Derived.Test.YtniliiapkfpajaaGreatDoorTie
import Derived.Lib.LaidTab
import Derived.Test.YtniliiapkfpajaaGreatDoorK22
open Option.some renaming inj->oY
open List renaming not_mem_nil->yx
set_option linter.all false
set_option maxRecDepth 100000
noncomputable section
namespace Go.Proofs.YtniliiapkfpajaaGreatDoor.errors
open Go.ChangeShapes Go.WideShapes Go.ChangeAt Go.RowKit Go.Joins Go.aD
theorem own:ownKnob Tryz.prog.godebug=none:=an
theorem laidOut:laidOutB Tryz.prog=true:=an
theorem K4:Tryz.prog.globalNamed "math/bits.deBruijn64tab" =some ez:=an
theorem ae6:(Tryz.prog.globals[ez]?).map (·.type)=some 373:=an
theorem ae7:Tryz.prog.cellsOf 373=64:=an
theorem lq:Tryz.prog.cellsOf 5=1:=an
theorem readable:∀t∈Tryz.f3.params.toList,Tryz.prog.readableRec t=true/\t<Tryz.prog.types.size:=by
 rw[Tryz.params3];intro t ht;have ht:t∈[28,5]:=ht;simp only[List.mem_cons,yx,or_false]at ht;rcases ht with rfl|rfl<;>exact⟨an,of_decide_eq_true an⟩
def K5:List Int:=[0,1,56,2,57,49,28,3,61,58,42,50,38,29,17,4,62,47,59,36,45,43,51,22,53,39,33,30,24,18,12,5,63,55,48,27,60,41,37,16,46,35,44,21,52,32,23,11,54,26,40,15,34,20,31,10,25,14,19,9,13,8,7,6]
theorem ae8{W:World}(h:laidMetH Tryz.prog Rows.spacingErrorsRow.laid W):∃(el:TypeId) (fz:Nat×Nat),W.heap[ez]? =some (.cells jm.toArray el fz):=by
 have ht:Lib.TabIs Tryz.prog W "math/bits.deBruijn64tab" .u8 K5:=Lib.tabIs_of_head (rest:=[]) K4 ae6 Tryz.underlying373 Tryz.underlying5 lq ae7 h;unfold Lib.TabIs World.var? at ht;rw[K4]at ht;simp only[Option.bind_some]at ht
 split at ht
 . rename_i cs el fz hg;refine⟨el,fz, ?_⟩;rw[hg];obtain rfl:=oY ht;rfl
 . cases ht
section
variable {H:Type}
set_option maxRecDepth 100000 in
theorem ae9(enc:TypeId×Value->H)(W:World)(base:Nat)(args:Array Value)(ds gs:List (DataW H))(before:List MemPlace)
 (aa:∀(j:Nat) t v,Tryz.f3.params[j]? =some t->args[j]? =some v->Value.okWide Tryz.prog W .any base t v)
 (hW:DataW.Whole enc Tryz.prog Tryz.f3.params.toList Rows.spacingErrorsSpec.vars false W args.toList ds gs before) (hL:laidMetH Tryz.prog Rows.spacingErrorsRow.laid W):
 Calls Tryz.prog 3 args W λe W'=>∃v,e=.returned v/\Rows.spacingErrorsSpec.post enc Tryz.prog Tryz.f3 false true false false W args v W':=by
 have af:=hW;obtain⟨p,q,ah,hV,rfl,av,aw⟩:=hW;have hA:DataW.TrodAll enc Tryz.prog W 0 (λ_=>true) true Tryz.f3.params.toList args.toList ds p:=ah;rw[Tryz.params3]at hA aa;obtain⟨v0,az,d0,aA,p0,q0,ad,rfl,rfl,h0,r0⟩:=trodAll_cons hA;obtain⟨v1,aC,d1,aE,p1,q1,ab,rfl,rfl,h1,r1⟩:=trodAll_cons r0;obtain⟨rfl,rfl,rfl⟩:=trodAll_nil r1;obtain rfl:args=#[v0,v1]:=by cases args;simp_all
 obtain⟨rfl,rfl⟩:=trodVars_none hV;have w0:=aa 0 28 v0 rfl rfl;have w1:=aa 1 5 v1 rfl rfl;clear aa;obtain⟨cs,rfl,ai⟩:=okWide_struct Tryz.underlying28 w0;obtain⟨fuel,hf⟩:=h0;obtain⟨fr,rfl,_⟩:=open_int Tryz.underlying5 w1 h1;obtain⟨ae,aj⟩:=h1;obtain⟨x,hx,hr⟩:=Go.Sp.ae3 (cs:=cs.toList) (by rw[Array.length_toList,ai];exact Go.Sp.ae2) hf;obtain⟨z,e1,hz⟩:=Go.Sp.lY aj;obtain rfl:fr=z:=by
  have e2:[Value.int .u8 fr]=[Value.int .u8 z]:=e1;cases e2;rfl
 obtain⟨el,fz,ht⟩:=ae8 hL;refine(Go.Sp.ae4 (Go.Sp.aeS x hx fr hz) W el fz ht #[.agg cs,.int .u8 fr] ?_).mono λe W' ⟨he,hk⟩=> ?_
 . exact .cons (Go.aD.Rd.agg hr) (.cons (Go.aD.Rd.int W _ _) (.nil W))
 subst he;exact⟨_,rfl,ae5 (tb:=4) af rfl rfl rfl rfl laidOut readable an Tryz.underlying4 hk⟩
end
noncomputable def DP(os:Os):World:=
 { World.holding Tryz.prog os ⟨#[], #[], []⟩ with heap := (World.holding Tryz.prog os ⟨#[], #[], []⟩).heap.modify ez fun
  |.cells _ t frozen=>.cells (K5.map λz=>Value.int .u8 z).toArray t frozen
  |o=>o}
def zC:Array Value:=#[.agg #[.int .u8 0,.int .u8 0,.slice none 0 0,.slice none 0 0,.slice none 0 0,.int .u8 0,.slice none 0 0,.slice none 0 0],.int .u8 0]
def afa{H:Type}:List (DataW H):=[.agg [.agg [.lit (.int .u8 0),.lit (.int .u8 0),.nil,.nil,.nil],.lit (.int .u8 0),.nil,.nil],.lit (.int .u8 0)]
theorem afb(os:Os):laidMet Tryz.prog Rows.spacingErrorsRow.laid ((DP os).forCall (λ_ _=>0) ⟨#[],zC,[]⟩).memory:=
 laidMet_of_run' 8 an an
theorem reads(os:Os){H:Type}(enc:TypeId×Value->H):∃places,DataW.whole enc Tryz.prog ((DP os).forCall (λ_ _=>0) ⟨#[],zC,[]⟩).memory Tryz.f3.params.toList Rows.spacingErrorsSpec.vars false zC.toList 8=some (afa,[],places):=
 ⟨[],an⟩
set_option maxRecDepth 100000 in
theorem lifted(os:Os)(started:os.Started)(H:Type)(enc:TypeId×Value->H)(F:Stop.Interp):
 ReturnsInHanded {} Tryz.checked os 3 .any ((OpenSpec.ofChange Rows.spacingErrorsSpec).preRow enc Tryz.prog Tryz.f3 Rows.spacingErrorsRow.domain false Rows.spacingErrorsRow.laid) (((OpenSpec.ofChange Rows.spacingErrorsSpec).at F).post enc Tryz.prog Tryz.f3 false true false false):=by
 obtain⟨places,hx⟩:=reads os enc;refine returnsInHanded_of_row (C:=Tryz.checked) (s:=OpenSpec.ofChange Rows.spacingErrorsSpec) own started an Tryz.func3
  (witness_row_at (enc:=enc) (C:=Tryz.checked) false (DP os) zC rfl an an an
   (OpenSpec.preRow_of_cond 8 hx an (λk hk=>by cases hk) an (afb os))) ?_
 intro W base args ds gs before aa hW _ _ _ hL _ _;exact ae9 enc W base args ds gs before aa hW hL
theorem said:Rows.SpacingErrorsSaid:=
 OpenClaim.holds_of_cond 3 Tryz.f3 rfl rfl rfl rfl rfl rfl rfl ⟨rfl,rfl,rfl,rfl,rfl⟩ rfl rfl rfl rfl rfl an Tryz.func3 an
  (of_decide_eq_true an) (by unfold Func.isWrapper;first|(rw[if_pos (by decide+kernel)];kernel_rfl)|(rw[if_neg (by decide+kernel)];exact⟨rfl,rfl⟩))
  (λos started H enc _ F=>by rw[OpenClaim.pre_eq_preRow];exact lifted os started H enc F)
theorem plain(f:FuncId)(fn:Func)(hf:Tryz.pinned.checked.prog.funcNamed "koine/koinelaw24.SpacingErrors" =some f)(ao:Tryz.pinned.checked.prog.funcs[f]? =some fn):
 true=Tryz.pinned.checked.prog.looks []/\∀(j:Nat) t,fn.params[j]? =some t->Tryz.pinned.checked.prog.wantsStandIn t=false:=by
 obtain rfl:f=3:=oY ((show Tryz.prog.funcNamed "koine/koinelaw24.SpacingErrors" =some 3 by kernel_rfl).symm.trans hf)|>.symm;obtain rfl:fn=Tryz.f3:=(oY (Tryz.func3.symm.trans ao)).symm;refine⟨an,λj t ht=> ?_⟩;rw[Tryz.params3]at ht;have hm:t∈[28,5]:=by simpa using Array.mem_of_getElem? ht
 simp only[List.mem_cons,yx,or_false]at hm;rcases hm with rfl|rfl
 . exact(show Tryz.prog.wantsStandIn 28=false by kernel_rfl)
 . exact(show Tryz.prog.wantsStandIn 5=false by kernel_rfl)
theorem card:Rows.SpacingErrorsCardSaid:=
 Claim7.holds_tied_plain_at .later [] _ _ _ _ said (λ_ h=>by cases h) an (λ_ h=>by cases h) spacingErrors_row_tie rfl ⟨rfl,rfl⟩ an rfl plain an
#print axioms card
end Go.Proofs.YtniliiapkfpajaaGreatDoor.errors
end

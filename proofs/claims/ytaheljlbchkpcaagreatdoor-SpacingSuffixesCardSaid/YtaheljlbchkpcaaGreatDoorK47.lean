/- SpacingSuffixes, its tied card: for all that a grammar and its leaves are made of and all places the call returns true and leaves its arguments as they read; the table math/bits.deBruijn64tab starts as the program's text lays it. This file holds the end of the proof; the other files K01 and on hold its parts. -/
import Derived.Test.YtaheljlbchkpcaaGreatDoorCards
import Derived.Test.YtaheljlbchkpcaaGreatDoorTie
import Derived.WalkKit
import Derived.ProofKit
import Derived.OpenShut
import Derived.Deep.Slices
import Derived.Deep.DeepHandedRow
import Derived.Lib.SmallJoins
import Derived.Lib.LaidTab
import Derived.Test.YtaheljlbchkpcaaGreatDoorK06
import Derived.Test.YtaheljlbchkpcaaGreatDoorK43
import Derived.Test.YtaheljlbchkpcaaGreatDoorK46
set_option linter.unusedVariables false
set_option linter.unusedSimpArgs false
noncomputable section
open Go Go.aw Go.Proofs
namespace Go.Sp
set_option maxRecDepth 100000
theorem af0:E.elem 42=some 4:=by kernel_rfl
theorem af1:E.elem 45=some 1:=by kernel_rfl
theorem af2{h:ab}(xs:List (List DV))(m:Nat)(hm:m<=xs.length):dX E h 42 (some (.sl 4 xs)) (some (some (iV m))) (some none) (some none)=some (.sl 4 (xs.drop m)):=by
 have h1:(m:Int)<=xs.length:=by omega
 simp[dX,fZ,gr,kl,dW,af0,h1,hm];exact List.take_of_length_le (by simp)
theorem af3{h:ab}(xs:List (List DV))(m:Nat)(hm:m<=xs.length):dX E h 45 (some (.sl 1 xs)) (some (some (iV m))) (some none) (some none)=some (.sl 1 (xs.drop m)):=by
 have h1:(m:Int)<=xs.length:=by omega
 simp[dX,fZ,gr,kl,dW,af1,h1,hm];exact List.take_of_length_le (by simp)
set_option maxHeartbeats 8000000 in
theorem af4(r:fp)(hr:r.Ok)(fr:Int)(hf:0<=fr/\fr<256):ax E true 3 [.agg r.e,uV fr] (bV true):=by
 have h3:(cI r).conds.length<=3:=by rw[(vH r).1];have:=(vD r.x hr.x).room.conds;omega
 obtain⟨c,hc,ay⟩:=ae8 (cI r) (D6 r hr).c9 h3 r.config hr.config;have aI:c<8:=List.mem_range.1 (List.mem_filter.1 hc).1;have ad:=afl r hr c aI ay;have aa:=afZ r hr c hc;have hlen:=K6 r c;have af:=λk gs t=>K5 (g:=cI r) (c:=c) k (L:=nV r c) (gs:=gs) (t:=t);obtain⟨S,hS⟩:∃S:List Lf->Option (List Bool×ByteArray),fq (cI r) c=S:=⟨_,rfl⟩;obtain⟨L,hL⟩:∃L,nV r c=L:=⟨_,rfl⟩;obtain⟨G,hG⟩:∃G,cI r=G:=⟨_,rfl⟩;rw[hS]at aa af;rw[hL]at ad aa hlen af;rw[hG]at ad aa;have az:r.e=[uV r.x.base,uV r.x.n,.sl 1 (r.x.family.map λb=>[uV b]),.sl 4 (r.x.lines.map Ln.e),.sl 5 (r.x.rules.map Rl.e),uV r.marks,uV r.config,.sl 1 (r.leaves.map λb=>[uV b])]:=rfl;obtain⟨re,au⟩:∃re,r.e=re:=⟨_,rfl⟩;rw[au]at ad az;rw[au];have ai:G.e=[strs G.conds,.sl 3 (G.family.nodes.map de),iV G.family.root,.sl 7 (G.ar.map Tok.e),strs G.aH,.sl 13 (G.ak.map aR.e),iV G.start,.sl 4 (G.bd.map dG.e),.sl 9 (G.bp.map bj.e)]:=rfl;obtain⟨ge,aB⟩:∃ge,G.e=ge:=⟨_,rfl⟩;rw[aB]at ad aa ai;refine xr GC rfl Tryz.ntmps3 Tryz.results3 λN=> ?_;refine gk ?_;simp(disch:=omega)[go_sem,az];refine gk ?_;simp(disch:=omega)[go_sem];refine aq.mk afU λM0 aL=> ?_;simp(disch:=omega)[go_sem]at aL;simp(disch:=omega)[go_sem];refine gk ?_;simp(disch:=omega)[go_sem];rw[<-az];refine aq.mk ad λM1 aM=> ?_;simp(disch:=omega)[go_sem]at aM;simp(disch:=omega)[go_sem,ai];rw[<-ai];refine gk ?_;simp(disch:=omega)[go_sem];obtain⟨I,hI⟩:∃I:DS->Prop,∀d,I d↔∃(k P:Nat),k<=L.length/\M1<P/\d=⟨bQ [(4,bV false),(5,bV true),(6,aO M1),(7,cV c),(8,.sl 4 (L.map Lf.e)),(9,iV (k:Nat))],71,[],cK P [(M1,.row ge true 0)]⟩:=⟨_,λ_=>Iff.rfl⟩;refine jx I ?_ ?_
 . by_cases h0:L.length=0
   . simp(disch:=omega)[go_sem,h0];refine⟨_,aA.mk (N:=M1+1) ?_ ?_ ?_,(hI _).2 ⟨0,M1+1,Nat.zero_le _,by omega,rfl⟩⟩
     . simp(disch:=omega)[go_sem]
     . simp(disch:=omega)[go_sem]
     . simp(disch:=omega)[go_sem,ai]
   . have av:0<L.length:=by omega
     have hw:IntKind.i64.wrap fr=fr:=aD (by omega) (by omega);have aE:fr.tmod L.length=((fr.toNat%L.length:Nat):Int):=by
      obtain⟨f,rfl⟩:∃f:Nat,fr=f:=⟨fr.toNat,by omega⟩;rfl
     obtain⟨k,hk⟩:∃k,fr.toNat%L.length=k:=⟨_,rfl⟩;have aY:k<L.length:=by rw[<-hk];exact Nat.mod_lt _ av
     rw[hk]at aE;simp(disch:=omega)[go_sem,av,hw,aE];refine⟨_,aA.mk (N:=M1+1) ?_ ?_ ?_,(hI _).2 ⟨k,M1+1,by omega,by omega,rfl⟩⟩
     . simp(disch:=omega)[go_sem]
     . simp(disch:=omega)[go_sem]
     . simp(disch:=omega)[go_sem,ai]
 intro d hd;obtain⟨k,P,hk,hP,rfl⟩:=(hI _).1 hd;refine gk ?_;simp(disch:=omega)[go_sem,ai];rw[<-ai];refine aq.mk (aa 0) λM2 aQ=> ?_;simp(disch:=omega)[go_sem]at aQ;have aF:∀h,dX E h 42 (some (.sl 4 (L.map Lf.e))) (some (some (iV k))) (some none) (some none)=some (.sl 4 ((L.drop k).map Lf.e)):=λh=>by
  rw[af2 (L.map Lf.e) k (by rw[List.length_map];exact hk),List.map_drop]
 have ao:=aa k;simp only[List.drop_zero];cases aS:S L with
 |none=>
  simp(disch:=omega)[go_sem,qw];refine gk ?_;simp(disch:=omega)[go_sem];refine ck [aJ 0,ae 0,ae 0,ae 0,aJ 12,aN 31,ae 63,ae 127,ae 127,ae 255,ae 1023] (by kernel_rfl) 0 rfl ?_;simp(disch:=omega)[go_sem,aF,ai];rw[<-ai];obtain⟨xs,er,hq⟩:∃xs er,qw (S (L.drop k))=.bg [.sl 1 xs,iV er]:=by
   cases S (L.drop k)with
   |none=>exact⟨_,_,rfl⟩
   |some q=>exact⟨_,_,rfl⟩
  rw[hq]at ao;rw[List.map_drop]at ao;refine aq.mk ao λM3 aC=> ?_;simp(disch:=omega)[go_sem]at aC;simp(disch:=omega)[go_sem];refine ve ?_;simp(disch:=omega)[go_sem]
 |some q=>
  obtain⟨gs,t⟩:=q;simp(disch:=omega)[go_sem,qw];refine gk ?_;simp(disch:=omega)[go_sem];refine ck [aJ 0,ae 0,ae 0,ae 0,aJ 12,aN 31,ae 63,ae 127,ae 127,ae 255,ae 1023] (by kernel_rfl) 0 rfl ?_;simp(disch:=omega)[go_sem,aF,ai];rw[<-ai];obtain⟨aT,t',aU⟩:=af k gs t aS;rw[aU]at ao;simp only[qw,List.map_drop]at ao;refine aq.mk ao λM3 aC=> ?_;simp(disch:=omega)[go_sem]at aC;have aV:∀h,dX E h 45 (some (.sl 1 (gs.map λb=>[bV b]))) (some (some (iV k))) (some none) (some none)=some (.sl 1 ((gs.drop k).map λb=>[bV b])):=λh=>by
   rw[af3 (gs.map λb=>[bV b]) k (by rw[List.length_map];omega),List.map_drop]
  simp(disch:=omega)[go_sem];refine ve ?_;simp(disch:=omega)[go_sem,aT,aV];have hb:=vK (gs.drop k) (by rw[List.length_drop];omega);simp only[cC,List.map_drop]at hb;refine aq.mk hb λM4 aX=> ?_;simp(disch:=omega)[go_sem]at aX;simp(disch:=omega)[go_sem]
end Go.Sp
end
noncomputable section
open Go Go.aw Go.Proofs
namespace Go.Sp
set_option maxRecDepth 100000
def fW:ay:=λi=>if i=0 then some ⟨0,0,64,64,0,λ_=>True⟩else none
def eQ:aa:=⟨Tr.nil.set 0 (some (.row jJ false 0)),1⟩
theorem K7(ρ:ay):∀l:List Int,bJ ρ (l.map λn=>Value.int .u8 n) (l.map λn=>Value.int .u8 n)
 |[]=>.nil
 |n::l=>.cons (.int _ _) (K7 ρ l)
theorem af5(w:World)(el:TypeId)(fz:Nat×Nat)(ht:w.heap[0]? =some (.cells jJ.toArray el fz)):rF w fW eQ:=by
 have only:∀i o,eQ.get i=some o->i=0/\o=.row jJ false 0:=λi o h=>by
  have h:((Tr.nil:Tr bK).set 0 (some (.row jJ false 0))).get i=some o:=h;rw[Tr.bw]at h
  split at h
  . rename_i e;cases h;exact⟨e,rfl⟩
  . rw[Tr.get_nil]at h;cases h
 refine⟨⟨λi pl h=> ?_,λi o h=> ?_,λi j o p pi pj ae h1 h2=> ?_⟩,λi o h=> ?_, ?_,rfl⟩
 . simp only[fW]at h
   split at h
   . rename_i e;subst e;exact Nat.zero_lt_one
   . cases h
 . obtain⟨rfl,rfl⟩:=only i o h;refine⟨_,rfl,jJ.toArray,el,fz,ht,λh=>(by cases h),rfl,rfl,Nat.le_refl _,Nat.le_refl _,λ_=>rfl, ?_,λ_=>trivial⟩;have e:(jJ.toArray.toList.drop 0).take 64=jJ:=List.take_of_length_le (l:=jJ) (Nat.le_refl 64);show bJ fW jJ ((jJ.toArray.toList.drop 0).take 64);rw[e];unfold jJ;exact K7 _ _
 . obtain⟨rfl,rfl⟩:=only i o h1;cases h2
 . obtain⟨rfl,rfl⟩:=only i o h;rfl
 . show((Tr.nil:Tr bK).set 0 (some (.row jJ false 0))).get 0=_;rw[Tr.bw,if_pos rfl]
theorem af6(w:World)(el:TypeId)(fz:Nat×Nat)(ht:w.heap[0]? =some (.cells jJ.toArray el fz))(r:fp)(hr:r.Ok)(cs:List Value)(ab:gM w cs r.e)(fr:Int)(hf:0<=fr/\fr<256):
 Calls Tryz.prog 3 #[.agg cs.toArray,.int .u8 fr] w λen w'=>en=.returned (.bool true)/\sG w w':=by
 obtain⟨ρ,h,ad,x,g,q1,q2⟩:=gM.cons (Rd.agg ab) (gM.cons (Rd.int w .u8 fr) (gM.nil w)) _ _ (af5 w el fz ht);have hz:0<h.next:=x.w.iw _ _ x.r0;obtain⟨v,h',r1,r2⟩:=af4 r hr fr hf (qe h) h ad ⟨λi hi=>hi,0,sW (G:=qe h) hz x.z⟩ q2;have hv:v=.bool true:=r2.2.2.cW;subst hv;refine(r1.2 ρ w #[.agg cs.toArray,.int .u8 fr] ⟨λg hg=> ?_,λp hp=>(by cases hp)⟩ q1 x.w).mono ?_
 . obtain rfl:g=0:=Nat.lt_one_iff.1 hg;exact⟨_,x.r0,rfl,rfl⟩
 . rintro en w' ⟨v',af,rfl,p1,p2,p3⟩;cases p1;refine⟨rfl,p3.os,p3.output,p3.size,p3.frozen,λj hj=>p3.kept j hj ?_⟩;rintro⟨i,o,pl,g1,g2,_,_⟩;rw[x.ro i o g1]at g2;cases g2
end Go.Sp
end
noncomputable section
namespace Go.Proofs.YtaheljlbchkpcaaGreatDoor.suffixes
open Go.ChangeShapes Go.WideShapes Go.ChangeAt Go.RowKit Go.Joins Go.aw
theorem own:ownKnob Tryz.prog.godebug=none:=by kernel_rfl
theorem laidOut:laidOutB Tryz.prog=true:=by kernel_rfl
theorem K9:Tryz.prog.globalNamed "math/bits.deBruijn64tab" =some 0:=by kernel_rfl
theorem af8:(Tryz.prog.globals[0]?).map (·.type)=some 246:=by kernel_rfl
theorem af9:Tryz.prog.cellsOf 246=64:=by kernel_rfl
theorem lj:Tryz.prog.cellsOf 5=1:=by kernel_rfl
theorem readable:∀t∈Tryz.f3.params.toList,Tryz.prog.readableRec t=true/\t<Tryz.prog.types.size:=by
 rw[Tryz.params3];intro t ht;have ht:t∈[28,5]:=ht;simp only[List.mem_cons,List.not_mem_nil,or_false]at ht;rcases ht with rfl|rfl
 all_goals exact⟨by kernel_rfl,of_decide_eq_true (by kernel_rfl)⟩
def La:List Int:=[0,1,56,2,57,49,28,3,61,58,42,50,38,29,17,4,62,47,59,36,45,43,51,22,53,39,33,30,24,18,12,5,63,55,48,27,60,41,37,16,46,35,44,21,52,32,23,11,54,26,40,15,34,20,31,10,25,14,19,9,13,8,7,6]
theorem aga{W:World}(h:laidMetH Tryz.prog Rows.spacingSuffixesRow.laid W):∃(el:TypeId) (fz:Nat×Nat),W.heap[0]? =some (.cells jJ.toArray el fz):=by
 have ht:Lib.TabIs Tryz.prog W "math/bits.deBruijn64tab" .u8 La:=Lib.tabIs_of_head (rest:=[]) K9 af8 Tryz.underlying246 Tryz.underlying5 lj af9 h;unfold Lib.TabIs World.var? at ht;rw[K9]at ht;simp only[Option.bind_some]at ht
 split at ht
 . rename_i cs el fz hg;refine⟨el,fz, ?_⟩;rw[hg];obtain rfl:=Option.some.inj ht;rfl
 . cases ht
section
variable {H:Type}
set_option maxRecDepth 100000 in
theorem agb(enc:TypeId×Value->H)(W:World)(base:Nat)(args:Array Value)(ds gs:List (DataW H))(before:List MemPlace)
 (aa:∀(j:Nat) t v,Tryz.f3.params[j]? =some t->args[j]? =some v->Value.okWide Tryz.prog W .any base t v)
 (hW:DataW.Whole enc Tryz.prog Tryz.f3.params.toList Rows.spacingSuffixesSpec.vars false W args.toList ds gs before) (hL:laidMetH Tryz.prog Rows.spacingSuffixesRow.laid W):
 Calls Tryz.prog 3 args W λe W'=>∃v,e=.returned v/\Rows.spacingSuffixesSpec.post enc Tryz.prog Tryz.f3 false true false false W args v W':=by
 have af:=hW;obtain⟨p,q,ai,hV,rfl,az,aB⟩:=hW;have hA:DataW.TrodAll enc Tryz.prog W 0 (λ_=>true) true Tryz.f3.params.toList args.toList ds p:=ai;rw[Tryz.params3]at hA aa;obtain⟨v0,aC,d0,aD,p0,q0,ab,rfl,rfl,h0,r0⟩:=trodAll_cons hA;obtain⟨v1,aE,d1,aF,p1,q1,rfl,rfl,rfl,h1,r1⟩:=trodAll_cons r0;obtain⟨rfl,rfl,rfl⟩:=trodAll_nil r1;obtain rfl:args=#[v0,v1]:=by cases args;simp_all
 obtain⟨rfl,rfl⟩:=trodVars_none hV;have w0:=aa 0 28 v0 rfl rfl;have w1:=aa 1 5 v1 rfl rfl;clear aa;obtain⟨cs,rfl,ao⟩:=okWide_struct Tryz.underlying28 w0;obtain⟨fr,rfl,_⟩:=open_int Tryz.underlying5 w1 h1;obtain⟨ad,au⟩:=h1;obtain⟨ae,e1,av⟩:=Go.Sp.lQ au;obtain rfl:fr=ae:=by
  have e2:Value.int .u8 fr=.int .u8 ae:=List.singleton_inj.1 e1;cases e2;rfl
 obtain⟨fuel,hf⟩:=h0;obtain⟨x,hx,hr⟩:=Go.Sp.ae2 (cs:=cs.toList) (by rw[Array.length_toList,ao];exact Go.Sp.aeW) hf;obtain⟨el,fz,ht⟩:=aga hL;refine(Go.Sp.af6 W el fz ht x hx cs.toList hr fr av).mono λe W' ⟨he,hk⟩=> ?_;subst he;exact⟨_,rfl,af7 (tb:=4) af rfl rfl rfl rfl laidOut readable (by kernel_rfl) Tryz.underlying4 hk⟩
end
def Ek(os:Os):World:=
 { World.holding Tryz.prog os ⟨#[], #[], []⟩ with heap := (World.holding Tryz.prog os ⟨#[], #[], []⟩).heap.modify 0 fun
  |.cells _ t frozen=>.cells (La.map λz=>Value.int .u8 z).toArray t frozen
  |o=>o}
def Am:Array Value:=#[.agg #[.int .u8 0,.int .u8 0,.slice none 0 0,.slice none 0 0,.slice none 0 0,.int .u8 0,.int .u8 0,.slice none 0 0],.int .u8 0]
def agc{H:Type}:List (DataW H):=[.agg [.agg [.lit (.int .u8 0),.lit (.int .u8 0),.nil,.nil,.nil],.lit (.int .u8 0),.lit (.int .u8 0),.nil],.lit (.int .u8 0)]
theorem agd(os:Os):laidMet Tryz.prog Rows.spacingSuffixesRow.laid ((Ek os).forCall (λ_ _=>0) ⟨#[],Am,[]⟩).memory:=
 laidMet_of_run' 8 (by kernel_rfl) (by kernel_rfl)
theorem reads(os:Os){H:Type}(enc:TypeId×Value->H):∃places,DataW.whole enc Tryz.prog ((Ek os).forCall (λ_ _=>0) ⟨#[],Am,[]⟩).memory Tryz.f3.params.toList Rows.spacingSuffixesSpec.vars false Am.toList 8=some (agc,[],places):=
 ⟨[],by kernel_rfl⟩
set_option maxRecDepth 100000 in
theorem lifted(os:Os)(started:os.Started)(H:Type)(enc:TypeId×Value->H)(F:Stop.Interp):
 ReturnsInHanded {} Tryz.checked os 3 .any ((OpenSpec.ofChange Rows.spacingSuffixesSpec).preRow enc Tryz.prog Tryz.f3 Rows.spacingSuffixesRow.domain false Rows.spacingSuffixesRow.laid) (((OpenSpec.ofChange Rows.spacingSuffixesSpec).at F).post enc Tryz.prog Tryz.f3 false true false false):=by
 obtain⟨places,hx⟩:=reads os enc;refine returnsInHanded_of_row (C:=Tryz.checked) (s:=OpenSpec.ofChange Rows.spacingSuffixesSpec) own started (by kernel_rfl) Tryz.func3
  (witness_row_at (enc:=enc) (C:=Tryz.checked) false (Ek os) Am rfl (by kernel_rfl) (by kernel_rfl) (by kernel_rfl)
   (OpenSpec.preRow_of_cond 8 hx (by kernel_rfl) (λk hk=>by cases hk) (by kernel_rfl) (agd os))) ?_
 intro W base args ds gs before aa hW _ _ _ hL _ _;exact agb enc W base args ds gs before aa hW hL
theorem said:Rows.SpacingSuffixesSaid:=
 OpenClaim.holds_of_cond 3 Tryz.f3 rfl rfl rfl rfl rfl rfl rfl ⟨rfl,rfl,rfl,rfl,rfl⟩ rfl rfl rfl rfl rfl (by kernel_rfl) Tryz.func3 (by kernel_rfl)
  (of_decide_eq_true (by kernel_rfl)) (by unfold Func.isWrapper;first|(rw[if_pos (by decide+kernel)];kernel_rfl)|(rw[if_neg (by decide+kernel)];exact⟨rfl,rfl⟩))
  (λos started H enc _ F=>by rw[OpenClaim.pre_eq_preRow];exact lifted os started H enc F)
theorem plain(f:FuncId)(fn:Func)(hf:Tryz.pinned.checked.prog.funcNamed "koine/koinelaw24.SpacingSuffixes" =some f)(ay:Tryz.pinned.checked.prog.funcs[f]? =some fn):
 true=Tryz.pinned.checked.prog.looks []/\∀(j:Nat) t,fn.params[j]? =some t->Tryz.pinned.checked.prog.wantsStandIn t=false:=by
 obtain rfl:f=3:=Option.some.inj ((show Tryz.prog.funcNamed "koine/koinelaw24.SpacingSuffixes" =some 3 by kernel_rfl).symm.trans hf)|>.symm;obtain rfl:fn=Tryz.f3:=(Option.some.inj (Tryz.func3.symm.trans ay)).symm;refine⟨by kernel_rfl,λj t ht=> ?_⟩;rw[Tryz.params3]at ht;have hm:t∈[28,5]:=by simpa using Array.mem_of_getElem? ht
 simp only[List.mem_cons,List.not_mem_nil,or_false]at hm;rcases hm with rfl|rfl
 . exact(show Tryz.prog.wantsStandIn 28=false by kernel_rfl)
 . exact(show Tryz.prog.wantsStandIn 5=false by kernel_rfl)
theorem card:Rows.SpacingSuffixesCardSaid:=
 Claim7.holds_tied_plain_at .later [] _ _ _ _ said (λ_ h=>by cases h) (by kernel_rfl) (λ_ h=>by cases h) spacingSuffixes_row_tie rfl ⟨rfl,rfl⟩ (by kernel_rfl) rfl plain (by kernel_rfl)
#print axioms card
end Go.Proofs.YtaheljlbchkpcaaGreatDoor.suffixes
end
